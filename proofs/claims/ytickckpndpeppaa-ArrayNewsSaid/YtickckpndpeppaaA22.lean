/- Numbers in walks: bytes as bytes, wider unsigned ones as naturals; and the laws that simp walks by. -/
import Derived.Test.YtickckpndpeppaaA21
set_option linter.unusedVariables false
set_option linter.unusedSimpArgs false
namespace Go.Abs
open Go Go.RowKit

theorem bv_def (x : UInt8) : bv x = .int .u8 x.toNat := rfl

section
variable {P : Program} {t : TypeId} {H : AH}

theorem wrap_u8_nat (m : Nat) : IntKind.u8.wrap (m : Int) = ((UInt8.ofNat m).toNat : Int) := by
  rw [IntKind.wrap_u8, UInt8.toNat_ofNat']
  omega
theorem wrap_u8_byte (x : UInt8) : IntKind.u8.wrap (x.toNat : Int) = (x.toNat : Int) := by
  have := x.toNat_lt
  rw [IntKind.wrap_u8]; omega
theorem wrap_i64_byte (x : UInt8) : IntKind.i64.wrap (x.toNat : Int) = (x.toNat : Int) := by
  have := x.toNat_lt
  rw [IntKind.wrap_i64]; omega
theorem wrap_u64_byte (x : UInt8) : IntKind.u64.wrap (x.toNat : Int) = (x.toNat : Int) := by
  have := x.toNat_lt
  exact IntWalk.u64_in _ (by omega)
theorem wrap_u32_byte (x : UInt8) : IntKind.u32.wrap (x.toNat : Int) = (x.toNat : Int) := by
  have := x.toNat_lt
  rw [IntKind.wrap_u32]; omega
theorem wrap_u16_byte (x : UInt8) : IntKind.u16.wrap (x.toNat : Int) = (x.toNat : Int) := by
  have := x.toNat_lt
  exact IntWalk.u16_in _ (by omega)

theorem ofInt8 (x : UInt8) : BitVec.ofInt 8 (x.toNat : Int) = x.toBitVec := by
  rw [BitVec.ofInt_natCast]
  apply BitVec.eq_of_toNat_eq
  rw [BitVec.toNat_ofNat]
  exact Nat.mod_eq_of_lt x.toNat_lt

theorem byte_lit {n : Nat} (h : n < 256) : ((n : Nat) : Int) = ((UInt8.ofNat n).toNat : Int) := by
  rw [UInt8.toNat_ofNat', Nat.mod_eq_of_lt h]

theorem byte_of {a : Int} (w : (Lit.int .u8 a).wf = true) : ∃ x : UInt8, a = (x.toNat : Int) := by
  simp [Lit.wf, IntKind.has, IntKind.min, IntKind.max, IntKind.signed, IntKind.bits] at w
  refine ⟨UInt8.ofNat a.toNat, ?_⟩
  rw [UInt8.toNat_ofNat', Nat.mod_eq_of_lt (by omega)]
  omega
theorem u64_of {a : Int} (w : (Lit.int .u64 a).wf = true) : ∃ n : Nat, a = (n : Int) ∧ n < 18446744073709551616 := by
  simp [Lit.wf, IntKind.has, IntKind.min, IntKind.max, IntKind.signed, IntKind.bits] at w
  exact ⟨a.toNat, by omega, by omega⟩
theorem u32_of {a : Int} (w : (Lit.int .u32 a).wf = true) : ∃ n : Nat, a = (n : Int) ∧ n < 4294967296 := by
  simp [Lit.wf, IntKind.has, IntKind.min, IntKind.max, IntKind.signed, IntKind.bits] at w
  exact ⟨a.toNat, by omega, by omega⟩
theorem u16_of {a : Int} (w : (Lit.int .u16 a).wf = true) : ∃ n : Nat, a = (n : Int) ∧ n < 65536 := by
  simp [Lit.wf, IntKind.has, IntKind.min, IntKind.max, IntKind.signed, IntKind.bits] at w
  exact ⟨a.toNat, by omega, by omega⟩
theorem i64_of {a : Int} (w : (Lit.int .i64 a).wf = true) : -9223372036854775808 ≤ a ∧ a ≤ 9223372036854775807 := by
  simp [Lit.wf, IntKind.has, IntKind.min, IntKind.max, IntKind.signed, IntKind.bits] at w
  omega
theorem u8_eq {x y : UInt8} (h : (x.toNat : Int) = (y.toNat : Int)) : x = y := UInt8.toNat.inj (Int.ofNat.inj h)
theorem u8_ne {x y : UInt8} (h : ¬ (x.toNat : Int) = (y.toNat : Int)) : x ≠ y := fun e => h (by rw [e])
theorem u8_iff {x y : UInt8} : (x.toNat : Int) = (y.toNat : Int) ↔ x = y := ⟨u8_eq, fun h => by rw [h]⟩
theorem u8_lit {n : Nat} (h : (OfNat.ofNat n : Int) < 256) : (((no_index (OfNat.ofNat n) : UInt8).toNat : Nat) : Int) = OfNat.ofNat n := by
  have h' : n < 256 := Int.ofNat_lt.1 h
  show (((UInt8.ofNat n).toNat : Nat) : Int) = (n : Int)
  rw [UInt8.toNat_ofNat', Nat.mod_eq_of_lt h']
theorem bv_lit {n : Nat} (h : (OfNat.ofNat n : Int) < 256) : bv (no_index (OfNat.ofNat n)) = .int .u8 (OfNat.ofNat n) := by
  show AV.int .u8 _ = _
  rw [u8_lit h]
theorem bin_xor_b {x y : UInt8} : binA P .xor t (.int .u8 x.toNat) (.int .u8 y.toNat) = some (.int .u8 ((x ^^^ y).toNat : Nat)) := by
  rw [bin_xor]
  show some (AV.int .u8 (IntKind.u8.wrap (((BitVec.ofInt 8 (x.toNat : Int) ^^^ BitVec.ofInt 8 (y.toNat : Int)).toNat : Nat)))) = _
  rw [ofInt8, ofInt8, ← UInt8.toBitVec_xor]
  show some (AV.int .u8 (IntKind.u8.wrap ((x ^^^ y).toNat : Nat))) = _
  rw [wrap_u8_byte]
theorem bin_and_b {x y : UInt8} : binA P .and t (.int .u8 x.toNat) (.int .u8 y.toNat) = some (.int .u8 ((x &&& y).toNat : Nat)) := by
  rw [bin_and]
  show some (AV.int .u8 (IntKind.u8.wrap (((BitVec.ofInt 8 (x.toNat : Int) &&& BitVec.ofInt 8 (y.toNat : Int)).toNat : Nat)))) = _
  rw [ofInt8, ofInt8, ← UInt8.toBitVec_and]
  show some (AV.int .u8 (IntKind.u8.wrap ((x &&& y).toNat : Nat))) = _
  rw [wrap_u8_byte]
theorem bin_or_b {x y : UInt8} : binA P .or t (.int .u8 x.toNat) (.int .u8 y.toNat) = some (.int .u8 ((x ||| y).toNat : Nat)) := by
  rw [bin_or]
  show some (AV.int .u8 (IntKind.u8.wrap (((BitVec.ofInt 8 (x.toNat : Int) ||| BitVec.ofInt 8 (y.toNat : Int)).toNat : Nat)))) = _
  rw [ofInt8, ofInt8, ← UInt8.toBitVec_or]
  show some (AV.int .u8 (IntKind.u8.wrap ((x ||| y).toNat : Nat))) = _
  rw [wrap_u8_byte]
theorem bin_xor_l {x : UInt8} {n : Nat} (h : (OfNat.ofNat n : Int) < 256) : binA P .xor t (.int .u8 x.toNat) (.int .u8 (no_index (OfNat.ofNat n))) = some (.int .u8 ((x ^^^ OfNat.ofNat n).toNat : Nat)) := by
  have := bin_xor_b (P := P) (t := t) (x := x) (y := UInt8.ofNat n)
  rw [← byte_lit (show n < 256 from Int.ofNat_lt.1 h)] at this
  exact this
theorem bin_xor_1 {x : UInt8} : binA P .xor t (.int .u8 x.toNat) (.int .u8 1) = some (.int .u8 ((x ^^^ 1).toNat : Nat)) := bin_xor_b (P := P) (t := t) (x := x) (y := 1)
theorem bin_and_1 {x : UInt8} : binA P .and t (.int .u8 x.toNat) (.int .u8 1) = some (.int .u8 ((x &&& 1).toNat : Nat)) := bin_and_b (P := P) (t := t) (x := x) (y := 1)
theorem bin_add_b {x y : UInt8} : binA P .add t (.int .u8 x.toNat) (.int .u8 y.toNat) = some (.int .u8 ((x + y).toNat : Nat)) := by
  rw [bin_add]
  show some (AV.int .u8 (IntKind.u8.wrap ((x.toNat + y.toNat : Nat) : Int))) = _
  rw [wrap_u8_nat]
  have e : UInt8.ofNat (x.toNat + y.toNat) = x + y := UInt8.toNat.inj (by rw [UInt8.toNat_ofNat', UInt8.toNat_add])
  rw [e]

theorem bin_shl_b1 {x : UInt8} {k : IntKind} : binA P .shl t (.int .u8 x.toNat) (.int k 1) = some (.int .u8 ((x <<< 1).toNat : Nat)) := by
  rw [bin_shl, gd_pos (by omega)]
  have e : (min (1 : Int).toNat IntKind.u8.bits) = 1 := rfl
  rw [e]
  show some (AV.int .u8 (IntKind.u8.wrap ((x.toNat : Int) * 2 ^ 1))) = _
  rw [show ((x.toNat : Int) * 2 ^ 1) = ((x.toNat * 2 : Nat) : Int) by omega, wrap_u8_nat]
  have e : UInt8.ofNat (x.toNat * 2) = x <<< 1 := UInt8.toNat.inj (by rw [UInt8.toNat_ofNat', UInt8.toNat_shiftLeft]; simp [Nat.shiftLeft_eq])
  rw [e]
theorem bin_shr_b1 {x : UInt8} {k : IntKind} : binA P .shr t (.int .u8 x.toNat) (.int k 1) = some (.int .u8 ((x >>> 1).toNat : Nat)) := by
  rw [bin_shr, gd_pos (by omega)]
  have e : (min (1 : Int).toNat IntKind.u8.bits) = 1 := rfl
  rw [e, shr_nat]
  have e2 : (x >>> 1).toNat = x.toNat / 2 ^ 1 := by rw [UInt8.toNat_shiftRight]; simp [Nat.shiftRight_eq_div_pow]
  rw [e2]
end

section
variable {P : Program} {t : TypeId} {a b : Int}
theorem bin_and_i64 : binA P .and t (.int .i64 a) (.int .i64 b) = some (.int .i64 (IntKind.i64.wrap ((BitVec.ofInt 64 a &&& BitVec.ofInt 64 b).toNat))) := bin_and
theorem bin_or_i64 : binA P .or t (.int .i64 a) (.int .i64 b) = some (.int .i64 (IntKind.i64.wrap ((BitVec.ofInt 64 a ||| BitVec.ofInt 64 b).toNat))) := bin_or
theorem bin_xor_i64 : binA P .xor t (.int .i64 a) (.int .i64 b) = some (.int .i64 (IntKind.i64.wrap ((BitVec.ofInt 64 a ^^^ BitVec.ofInt 64 b).toNat))) := bin_xor
theorem bin_and_u64 : binA P .and t (.int .u64 a) (.int .u64 b) = some (.int .u64 (IntKind.u64.wrap ((BitVec.ofInt 64 a &&& BitVec.ofInt 64 b).toNat))) := bin_and
theorem bin_or_u64 : binA P .or t (.int .u64 a) (.int .u64 b) = some (.int .u64 (IntKind.u64.wrap ((BitVec.ofInt 64 a ||| BitVec.ofInt 64 b).toNat))) := bin_or
theorem bin_xor_u64 : binA P .xor t (.int .u64 a) (.int .u64 b) = some (.int .u64 (IntKind.u64.wrap ((BitVec.ofInt 64 a ^^^ BitVec.ofInt 64 b).toNat))) := bin_xor
theorem bin_and_u16 : binA P .and t (.int .u16 a) (.int .u16 b) = some (.int .u16 (IntKind.u16.wrap ((BitVec.ofInt 16 a &&& BitVec.ofInt 16 b).toNat))) := bin_and
theorem bin_shl_i64 {k' : IntKind} : binA P .shl t (.int .i64 a) (.int k' b) = gd (0 ≤ b) (some (.int .i64 (IntKind.i64.wrap (a * 2 ^ min b.toNat 64)))) := bin_shl
theorem bin_shr_i64 {k' : IntKind} : binA P .shr t (.int .i64 a) (.int k' b) = gd (0 ≤ b) (some (.int .i64 (a.fdiv (2 ^ min b.toNat 64)))) := bin_shr
theorem bin_shl_u64 {k' : IntKind} : binA P .shl t (.int .u64 a) (.int k' b) = gd (0 ≤ b) (some (.int .u64 (IntKind.u64.wrap (a * 2 ^ min b.toNat 64)))) := bin_shl
theorem bin_shr_u64 {k' : IntKind} : binA P .shr t (.int .u64 a) (.int k' b) = gd (0 ≤ b) (some (.int .u64 (a.fdiv (2 ^ min b.toNat 64)))) := bin_shr
theorem bin_shl_u32 {k' : IntKind} : binA P .shl t (.int .u32 a) (.int k' b) = gd (0 ≤ b) (some (.int .u32 (IntKind.u32.wrap (a * 2 ^ min b.toNat 32)))) := bin_shl
theorem bin_shr_u32 {k' : IntKind} : binA P .shr t (.int .u32 a) (.int k' b) = gd (0 ≤ b) (some (.int .u32 (a.fdiv (2 ^ min b.toNat 32)))) := bin_shr
theorem bin_shr_u16 {k' : IntKind} : binA P .shr t (.int .u16 a) (.int k' b) = gd (0 ≤ b) (some (.int .u16 (a.fdiv (2 ^ min b.toNat 16)))) := bin_shr
end

theorem push_cells_ne {H : AH} {b : Option ABlk} {i : Nat} (h : i < H.n) : (H.push b).cells? i = H.cells? i := push_old H b h
theorem push_set_ne {H : AH} {b c : Option ABlk} {i : Nat} (h : i < H.n) : (H.push b).set i c = (H.set i c).push b := by
  unfold AH.push AH.set
  simp only [AH.mk.injEq, true_and]
  refine ⟨List.set_append_left _ _ h, funext fun j => propext ?_⟩
  simp only [List.length_set]
  exact or_left_comm
theorem push_cells_at {H : AH} {l : List AV} {i : Nat} (h : i = H.n) : (H.push (some (.cells l))).cells? i = some l := by subst h; exact push_cells H l
theorem push_set_at {H : AH} {b c : Option ABlk} {i : Nat} (h : i = H.n) : (H.push b).set i c = H.push c := by subst h; exact push_set H b c
theorem set_cells_at {H : AH} {i : Nat} {l : List AV} (h : i < H.n) : (H.set i (some (.cells l))).cells? i = some l := set_cells H l h
theorem set_cells_ne {H : AH} {b : Option ABlk} {i j : Nat} (h : i ≠ j) : (H.set i b).cells? j = H.cells? j := set_other H b h

/-! naturals within the signed range -/
section
variable {P : Program} {t : TypeId}
theorem ofInt64 {p : Nat} (h : p < 18446744073709551616) : (BitVec.ofInt 64 (p : Int)).toNat = p := by
  rw [BitVec.ofInt_natCast, BitVec.toNat_ofNat, Nat.mod_eq_of_lt h]
theorem xor_n {p q : Nat} (hp : p < 9223372036854775808) (hq : q < 9223372036854775808) : IntKind.i64.wrap ((BitVec.ofInt 64 (p : Int) ^^^ BitVec.ofInt 64 (q : Int)).toNat : Int) = ((p ^^^ q : Nat) : Int) := by
  rw [BitVec.toNat_xor, ofInt64 (by omega), ofInt64 (by omega)]
  have h : p ^^^ q < 2 ^ 63 := Nat.xor_lt_two_pow (by omega) (by omega)
  rw [IntWalk.i64_in _ (by omega)]
theorem and_n1 {p : Nat} (hp : p < 9223372036854775808) : IntKind.i64.wrap ((BitVec.ofInt 64 (p : Int) &&& BitVec.ofInt 64 1).toNat : Int) = ((p % 2 : Nat) : Int) := by
  rw [BitVec.toNat_and, ofInt64 (by omega), show (BitVec.ofInt 64 1).toNat = 1 from rfl, Nat.and_one_is_mod]
  rw [IntWalk.i64_in _ (by omega)]
theorem shl_n {p i : Nat} : (p : Int) * 2 ^ i = ((p * 2 ^ i : Nat) : Int) := by push_cast; rfl
theorem shl_l {p i : Nat} : (no_index (OfNat.ofNat p : Int)) * 2 ^ i = ((OfNat.ofNat p * 2 ^ i : Nat) : Int) := by push_cast; rfl
end

/-- Something, if a test is met. -/
def gdb {α : Type} (b : Bool) (x : Option α) : Option α := if b then x else none
theorem gdb_true {α : Type} {x : Option α} : gdb true x = x := nr rfl
theorem gdb_c {α : Type} {b b' : Bool} {x : Option α} (h : mark b = b') : gdb b x = gdb b' x := by rw [← h, mark_eq]

/-- Cells laid over others, from a place on. -/
def putL (l0 : List AV) (o : Nat) (l : List AV) : List AV := l0.take o ++ (l ++ l0.drop (o + l.length))
theorem putL_all {l0 l : List AV} (h : l.length = l0.length) : putL l0 0 l = l := by
  simp only [putL, List.take_zero, List.nil_append, Nat.zero_add]
  rw [List.drop_of_length_le (by omega), List.append_nil]
theorem putL_len {l0 l : List AV} {o : Nat} (h : o + l.length ≤ l0.length) : (putL l0 o l).length = l0.length := by
  simp only [putL, List.length_append, List.length_take, List.length_drop]; omega

theorem storeCells_none {i : Nat} : ∀ (l : List AV) (o : Nat) (H : AH), l.all oneA = false → storeCellsA H i o l = none
  | [], _, _, h => by simp at h
  | v :: l, o, H, h => by
    simp only [storeCellsA]
    by_cases hv : oneA v = true
    · simp only [List.all_cons, hv, Bool.true_and] at h
      rw [if_pos hv]
      cases hc : H.cells? i with
      | none => rfl
      | some l0 =>
        simp only [Option.bind_some]
        split
        · exact storeCells_none l _ _ h
        · rfl
    · rw [if_neg hv]

theorem store_cells {i : Nat} (l : List AV) (o : Nat) (H : AH) (h0 : 0 < l.length) : storeCellsA H i o l = gdb (l.all oneA) ((H.cells? i).bind fun l0 => gd (o + l.length ≤ l0.length) (some (H.set i (some (.cells (putL l0 o l)))))) := by
  cases ha : l.all oneA with
  | false => exact storeCells_none l o H ha
  | true =>
    simp only [gdb_true]
    cases hc : H.cells? i with
    | none =>
      cases l with
      | nil => simp at h0
      | cons v l =>
        simp only [List.all_cons, Bool.and_eq_true] at ha
        simp [storeCellsA, ha.1, hc]
    | some l0 =>
      simp only [Option.bind_some]
      by_cases hb : o + l.length ≤ l0.length
      · rw [gd_pos hb, storeCells_many l o H l0 ha hc hb (fun e => by rw [e] at h0; simp at h0)]
        simp [putL, List.append_assoc]
      · unfold gd
        rw [if_neg hb]
        have key : ∀ (l : List AV) (o : Nat) (H : AH) (l0 : List AV), H.cells? i = some l0 → 0 < l.length → ¬ o + l.length ≤ l0.length → storeCellsA H i o l = none := by
          intro l
          induction l with
          | nil => intro o H l0 _ h _; simp at h
          | cons v l ih =>
            intro o H l0 hc _ hb
            simp only [storeCellsA]
            split
            · rw [hc]
              simp only [Option.bind_some]
              split
              · rename_i ho
                cases l with
                | nil => simp at hb; omega
                | cons w l => exact ih _ _ (l0.set o v) (set_cells H _ (cells_lt hc)) (by simp) (by simp at hb ⊢; omega)
              · rfl
            · rfl
        exact key l o H l0 hc h0 hb

theorem store_aggs {P : Program} {t : TypeId} {n : Nat} (hs : sizeA P t = some (n + 1)) {vs : List AV} {H : AH} {i o : Nat} : storeA P t ⟨false, i, o⟩ (.agg vs) H = gd (vs.length = n + 1) (gdb (vs.all oneA) ((H.cells? i).bind fun l0 => gd (o + (n + 1) ≤ l0.length) (some (H.set i (some (.cells (putL l0 o vs))))))) := by
  simp only [storeA, cellsA, Option.bind_some, hs, gd, and_true, Option.some.injEq]
  by_cases h : vs.length = n + 1
  · rw [if_pos h.symm, if_pos h, store_cells _ _ _ (by omega), h]; rfl
  · rw [if_neg (fun e => h e.symm), if_neg h]

/-- The place that an operation of a region writes: found without looking at the others. -/
def gdst (ops : Array Oper) (j : Nat) : Option Tmp := (ops[j]?).bind (·.dst)
def gdstL (l : List Oper) (j : Nat) : Option Tmp := (l[j]?).bind (·.dst)
def gval : Option Tmp → AFr → Bool → Option Bool
  | none, _, _ => none
  | some d, fr, want => match lget fr d with
    | .bool b => some (b == want)
    | .tup [] => some false
    | _ => none
def gv (v : AV) (want : Bool) : Option Bool := match v with
  | .bool b => some (b == want)
  | .tup [] => some false
  | _ => none
theorem gdst_arr {l : List Oper} {j : Nat} : gdst l.toArray j = gdstL l j := by simp [gdst, gdstL]
theorem gdstL_0 {d : Option Tmp} {op : Op} {ty : TypeId} {ps : String} {af : Array Edge} {g : Option (Nat × Bool)} {l : List Oper} : gdstL (⟨d, op, ty, ps, af, g⟩ :: l) 0 = d := rfl
theorem gdstL_s {o : Oper} {l : List Oper} {j : Nat} : gdstL (o :: l) (j + 1) = gdstL l j := rfl
theorem gdstL_a0 {d : Option Tmp} {op : Op} {ty : TypeId} {ps : String} {af : Array Edge} {g : Option (Nat × Bool)} {l m : List Oper} : gdstL ((⟨d, op, ty, ps, af, g⟩ :: l).append m) 0 = d := rfl
theorem gdstL_as {o : Oper} {l m : List Oper} {j : Nat} : gdstL ((o :: l).append m) (j + 1) = gdstL (l.append m) j := rfl
theorem gdstL_an {m : List Oper} {j : Nat} : gdstL (List.append [] m) j = gdstL m j := rfl
theorem gdstL_c {l : List Oper} {j j' : Nat} (h : mark j = j') : gdstL l j = gdstL l j' := by rw [← h, mark_eq]
theorem gdst_c {l : Array Oper} {j j' : Nat} (h : mark j = j') : gdst l j = gdst l j' := by rw [← h, mark_eq]
theorem gval_some {d : Tmp} {fr : AFr} {want : Bool} : gval (some d) fr want = gv (lget fr d) want := rfl
theorem gv_bool {b want : Bool} : gv (.bool b) want = some (b == want) := rfl
theorem gv_none {want : Bool} : gv (.tup []) want = some false := rfl
theorem gval_c {o o' : Option Tmp} {fr : AFr} {want : Bool} (h : mark o = o') : gval o fr want = gval o' fr want := by rw [← h, mark_eq]
theorem AO_grd {P : Program} {ops : Array Oper} {Q : AFr → AH → Prop} {rest : List Oper} {fr : AFr} {H : AH} {ty : TypeId} {ps : String} {af : Array Edge} {d : Option Tmp} {op : Op} {j : Nat} {want : Bool} :
    AOps P ops Q (⟨d, op, ty, ps, af, some (j, want)⟩ :: rest) fr H = ifG (gval (gdst ops j) fr want) (AOps P ops Q rest (putA fr d (.tup [])) H) (AOps P ops Q (⟨d, op, ty, ps, af, none⟩ :: rest) fr H) := by
  rw [AO_guard]
  congr 1
  unfold gdst gval
  cases (ops[j]?).bind (·.dst) <;> rfl
theorem DO_grd {P : Program} {ops : Array Oper} {R : AH → Prop} {Q : AFr → AH → Prop} {rest : List (Option Oper × Bool)} {fr : AFr} {H : AH} {ty : TypeId} {ps : String} {af : Array Edge} {d : Option Tmp} {op : Op} {j : Nat} {want : Bool} :
    DOps P ops R Q ((some ⟨d, op, ty, ps, af, some (j, want)⟩, true) :: rest) fr H = ifG (gval (gdst ops j) fr want) (DOps P ops R Q rest (putA fr d (.tup [])) H) (DOps P ops R Q ((some ⟨d, op, ty, ps, af, none⟩, true) :: rest) fr H) := by
  rw [DO_guard]
  congr 1
  unfold gdst gval
  cases (ops[j]?).bind (·.dst) <;> rfl
attribute [congr] gdstL_c gdst_c gval_c

theorem AOps_append {P : Program} {ops : Array Oper} {Q : AFr → AH → Prop} {b : List Oper} : ∀ {a : List Oper} {fr : AFr} {H : AH}, AOps P ops Q (a.append b) fr H = AOps P ops (fun fr H => AOps P ops Q b fr H) a fr H
  | [], fr, H => rfl
  | o :: a, fr, H => by
    rw [List.append_eq, List.cons_append, AOps_cons, AOps_cons]
    have ih : ∀ fr H, AOps P ops Q (a ++ b) fr H = AOps P ops (fun fr H => AOps P ops Q b fr H) a fr H := fun fr H => AOps_append
    simp only [ih]
theorem ifG_split {p : Prop} [Decidable p] {a b : Prop} : ifG (some (decide p)) a b = split2 p b a := by
  by_cases h : p <;> simp [h, ifG, split2]
theorem ifG_not {x : Bool} {a b : Prop} : ifG (some (!x)) a b = ifG (some x) b a := by cases x <;> rfl
theorem ifG_and {x y : Bool} {a b : Prop} : ifG (some (x && y)) a b = ifG (some x) a (ifG (some y) a b) := by cases x <;> cases y <;> rfl
theorem ifG_or {x y : Bool} {a b : Prop} : ifG (some (x || y)) a b = ifG (some x) (ifG (some y) a b) b := by cases x <;> cases y <;> rfl
/-- The parts of a thing that is built. -/
def partsA (fr : AFr) : List (Nat × Operand) → List (Nat × AV)
  | [] => []
  | (i, x) :: l => (i, aeval fr x) :: partsA fr l
theorem partsA_eq (fr : AFr) : ∀ l : List (Nat × Operand), (l.map fun p => (p.1, aeval fr p.2)) = partsA fr l
  | [] => rfl
  | (i, x) :: l => by simp only [List.map_cons, partsA, partsA_eq fr l]
theorem partsA_nil {fr : AFr} : partsA fr [] = [] := rfl
theorem partsA_cons {fr : AFr} {i : Nat} {x : Operand} {l : List (Nat × Operand)} : partsA fr ((i, x) :: l) = (i, aeval fr x) :: partsA fr l := rfl
theorem partsA_c {fr fr' : AFr} {l : List (Nat × Operand)} (h : mark fr = fr') : partsA fr l = partsA fr' l := by rw [← h, mark_eq]
theorem AO_buildP {P : Program} {ops : Array Oper} {Q : AFr → AH → Prop} {rest : List Oper} {fr : AFr} {H : AH} {ty : TypeId} {ps : String} {af : Array Edge} {d : Tmp} {t : TypeId} {q : List (Nat × Operand)} : AOps P ops Q (⟨some d, .build t q.toArray, ty, ps, af, none⟩ :: rest) fr H = opThen ((buildA P t (partsA fr q)).map fun v => (v, H)) fun v H' => AOps P ops Q rest (lput fr d v) H' := by
  rw [AO_build, ← partsA_eq]
theorem AO_buildSliceP {P : Program} {ops : Array Oper} {Q : AFr → AH → Prop} {rest : List Oper} {fr : AFr} {H : AH} {ty : TypeId} {ps : String} {af : Array Edge} {d : Tmp} {t : TypeId} {n : Nat} {q : List (Nat × Operand)} : AOps P ops Q (⟨some d, .buildSlice t n q.toArray, ty, ps, af, none⟩ :: rest) fr H = opThen (buildSliceA P t n (partsA fr q) H) fun v H' => AOps P ops Q rest (lput fr d v) H' := by
  rw [AO_buildSlice, ← partsA_eq]
theorem DO_buildP {P : Program} {ops : Array Oper} {R : AH → Prop} {Q : AFr → AH → Prop} {rest : List (Option Oper × Bool)} {fr : AFr} {H : AH} {ty : TypeId} {ps : String} {af : Array Edge} {d : Tmp} {t : TypeId} {q : List (Nat × Operand)} : DOps P ops R Q ((some ⟨some d, .build t q.toArray, ty, ps, af, none⟩, true) :: rest) fr H = opThen ((buildA P t (partsA fr q)).map fun v => (v, H)) fun v _ => DOps P ops R Q rest (lput fr d v) H := by
  rw [DO_plain]; simp only [still_copy (show copyOp (.build t q.toArray) = true from rfl), true_and, opA, ← partsA_eq]
attribute [congr] partsA_c
attribute [go_sem] DO_buildP

theorem sameR_int {R : AH → Prop} {H : AH} {f : AH → Option (AV × AH)} {k : IntKind} {n : Int} : sameR R H f (.int k n) = ∀ H', R H' → H'.ro = H.ro → f H' = some (.int k n, H') := by
  simp only [sameR, rig_int, true_and]
theorem sameR_bool {R : AH → Prop} {H : AH} {f : AH → Option (AV × AH)} {b : Bool} : sameR R H f (.bool b) = ∀ H', R H' → H'.ro = H.ro → f H' = some (.bool b, H') := by
  simp only [sameR, rig_bool, true_and]
theorem app_int {P : Program} {t e : TypeId} {sz by' : Nat} {z : List AV} {H : AH} (h : P.underlying t = some (.slice e)) (hs : sizeA P e = some sz) (hb : bytesA P e = some by') (hz : zeroA P e = some z) (hl : z.length = sz ∧ 0 < sz) {xt : TypeId} {k : IntKind} (hx : P.underlying xt = some (.int k)) {s : AV} {l : Int} :
    appendA P t xt s (.int .i64 l) H = gd (0 ≤ l ∧ l ≤ 140737488355328) (gdb ((repA z l.toNat).all oneA) (appendTo sz by' H l.toNat (repA z l.toNat) s)) := by
  simp only [appendA, h, hs, hb, hz, Option.bind_some, hl.1, hl.2, and_self, if_true, moreA, hx]
  unfold gd gdb
  split
  · simp only [Option.bind_some]
  · rfl
theorem all_rep {n : Nat} {v : AV} (h : oneA v = true) : (List.replicate n v).all oneA = true := by
  simp [List.all_replicate, h]
theorem bin_eql_agg {P : Program} {t : TypeId} {xs ys : List AV} : binA P .eql t (.agg xs) (.agg ys) = (eqAgg P t (.agg xs) (.agg ys)).map .bool := rfl
theorem bin_neq_agg {P : Program} {t : TypeId} {xs ys : List AV} : binA P .neq t (.agg xs) (.agg ys) = (eqAgg P t (.agg xs) (.agg ys)).map fun b => .bool !b := rfl
theorem tdiv_nat {i n : Nat} : ((i : Int).tdiv (no_index (OfNat.ofNat n : Int))) = ((i / OfNat.ofNat n : Nat) : Int) := rfl
theorem fillA_nil {place : Nat → Option (Nat × Nat)} {cells : List AV} : fillA place cells [] = some cells := rfl
theorem fillA_cons {place : Nat → Option (Nat × Nat)} {cells : List AV} {i : Nat} {v : AV} {rest : List (Nat × AV)} : fillA place cells ((i, v) :: rest) = (place i).bind fun p => (cellsA v).bind fun vs => gd (vs.length = p.2 ∧ p.1 + vs.length ≤ cells.length) (fillA place (putAt cells p.1 vs) rest) := rfl
/-- So many noughts, cell by cell. -/
def zerosL (z : List AV) : Nat → List AV
  | 0 => []
  | n + 1 => z ++ zerosL z n
theorem zerosL_get (z : List AV) (h : 0 < z.length) : ∀ (n i : Nat), (zerosL z n)[i]? = if i < n * z.length then some (z.getD (i % z.length) .unk) else none
  | 0, i => by simp [zerosL]
  | n + 1, i => by
    simp only [zerosL, List.getElem?_append]
    split
    · rename_i hi
      rw [if_pos (by rw [Nat.add_mul]; omega), Nat.mod_eq_of_lt hi]
      simp [List.getD, hi]
    · rename_i hi
      rw [zerosL_get z h n, Nat.mod_eq_sub_mod (a := i) (by omega)]
      by_cases h2 : i - z.length < n * z.length
      · rw [if_pos h2, if_pos (by rw [Nat.add_mul]; omega)]
      · rw [if_neg h2, if_neg (by rw [Nat.add_mul]; omega)]
theorem repA_zerosL (z : List AV) (h : 0 < z.length) (n : Nat) : repA z n = zerosL z n := by
  apply List.ext_getElem?
  intro i
  rw [zerosL_get z h]
  unfold repA
  split
  · rename_i x
    simp [List.getElem?_replicate, Nat.mod_one]
  · rw [List.getElem?_map]
    by_cases hi : i < n * z.length
    · rw [if_pos hi, List.getElem?_range hi]; rfl
    · rw [if_neg hi, List.getElem?_eq_none (by simp; omega)]; rfl
theorem zerosL_0 {z : List AV} : zerosL z 0 = [] := rfl
theorem zerosL_s {z : List AV} {n : Nat} : zerosL z (n + 1) = z ++ zerosL z n := rfl
theorem build_lit {P : Program} {t e : TypeId} {sz : Nat} {z : List AV} {H : AH} (h : P.underlying t = some (.slice e)) (hs : sizeA P e = some sz) (hz : zeroA P e = some z) (hl : z.length = sz ∧ 0 < sz) {len : Nat} {parts : List (Nat × AV)} (hlen : len * sz ≤ 16777216) : buildSliceA P t len parts H =
    (fillA (fun i => some (i * sz, sz)) (zerosL z len) parts).map fun cells => (.slice ⟨false, H.n, 0⟩ len (.known len), H.push (some (.cells cells))) := by
  rw [build_slice h hs hz hl hlen, repA_zerosL z (by omega)]
theorem convOk_int {op : Op} {k : IntKind} {n : Int} : convOk op (.int k n) = true := by cases op <;> rfl
theorem convOk_str {op : Op} {x : ByteArray} : convOk op (.str x) = true := by cases op <;> rfl
theorem sameR_eq {H : AH} {f : AH → Option (AV × AH)} {v : AV} : sameR (fun H' => H' = H) H f v = (rigidA H v = true ∧ f H = some (v, H)) := by
  simp only [sameR, rigR]
  exact propext ⟨fun ⟨h1, h2⟩ => ⟨h1.1, h2 H rfl rfl⟩, fun ⟨h1, h2⟩ => ⟨⟨h1, fun H' e _ => by rw [e]; exact h1⟩, fun H' e _ => by rw [e]; exact h2⟩⟩
theorem rigR_eq {H : AH} {v : AV} : rigR (fun H' => H' = H) H v = (rigidA H v = true) := by
  simp only [rigR]
  exact propext ⟨fun h => h.1, fun h => ⟨h, fun H' e _ => by rw [e]; exact h⟩⟩
theorem opA_load {P : Program} {fr : AFr} {H : AH} {t : TypeId} {x : Operand} : opA P fr H (.load t x) = match aeval fr x with | .ptr p => (loadA P t p H).map fun v => (v, H) | _ => none := nr rfl
theorem take_all {α : Type} {l : List α} {n : Nat} (h : l.length ≤ n) : l.take n = l := List.take_of_length_le h

theorem AO_iface {P : Program} {ops : Array Oper} {Q : AFr → AH → Prop} {rest : List Oper} {fr : AFr} {H : AH} {ty : TypeId} {ps : String} {af : Array Edge} {d : Tmp} {t : TypeId} {x : Operand} : AOps P ops Q (⟨some d, .makeInterface t x, ty, ps, af, none⟩ :: rest) fr H = opThen ((ifaceA P t (aeval fr x)).map fun v => (v, H)) fun v H' => AOps P ops Q rest (lput fr d v) H' := by
  rw [AOps_cons]; simp only [guardA, ifG, callA, callOr, opA, putA]
  all_goals rfl
theorem AO_assert {P : Program} {ops : Array Oper} {Q : AFr → AH → Prop} {rest : List Oper} {fr : AFr} {H : AH} {ty : TypeId} {ps : String} {af : Array Edge} {d : Tmp} {t xt : TypeId} {ok : Bool} {x : Operand} : AOps P ops Q (⟨some d, .typeAssert x xt t ok, ty, ps, af, none⟩ :: rest) fr H = opThen ((assertA P t ok (aeval fr x)).map fun v => (v, H)) fun v H' => AOps P ops Q rest (lput fr d v) H' := by
  rw [AOps_cons]; simp only [guardA, ifG, callA, callOr, opA, putA]
  all_goals rfl
theorem iface_of {P : Program} {t : TypeId} {d : TypeDesc} (h : P.underlying t = some d) (hd : isIfaceD d = false) {v : AV} : ifaceA P t v = some (.iface t v) := by simp [ifaceA, h, hd]
theorem assert_of {P : Program} {t : TypeId} {d : TypeDesc} (h : P.underlying t = some d) (hd : isIfaceD d = false) {ok : Bool} {v : AV} : assertA P t ok v = assertV (zeroV P t) t ok v := by simp [assertA, h, hd]
theorem assertV_at {z : Option AV} {t : TypeId} {x : AV} : assertV z t true (.iface t x) = some (.tup [x, .bool true]) := by simp [assertV]
theorem assertV_at1 {z : Option AV} {t : TypeId} {x : AV} : assertV z t false (.iface t x) = some x := by simp [assertV]
theorem assertV_ne {z : AV} {t t' : TypeId} {x : AV} (h : t' ≠ t) : assertV (some z) t true (.iface t' x) = some (.tup [z, .bool false]) := by simp [assertV, h]
theorem assertV_nil {z : AV} {t : TypeId} : assertV (some z) t true .nilif = some (.tup [z, .bool false]) := by simp [assertV]
theorem store_none {P : Program} {t : TypeId} (hs : sizeA P t = some 0) {H : AH} {i o : Nat} : storeA P t ⟨false, i, o⟩ (.agg []) H = some H := by
  simp [storeA, cellsA, hs, storeCellsA]

attribute [congr] gdb_c
attribute [go_sem] gde_true gde_false gde_pos
attribute [go_sem] AO_iface AO_assert assertV_at assertV_at1 assertV_nil assertV_ne
attribute [go_sem] AOps_append Nat.min_eq_left List.length_replicate List.length_map gdb_true putL_all sameR_eq rigR_eq opA_load rigidA List.drop_zero take_all List.take_zero List.take_succ_cons List.drop_succ_cons List.cons_append List.nil_append List.all_cons List.all_nil oneA putL_len
attribute [go_sem] push_cells_at push_set_at push_cells_ne push_set_ne set_cells_at set_cells_ne set_n
attribute [go_sem] bin_eql_agg bin_neq_agg tdiv_nat fillA_nil fillA_cons zerosL_0 zerosL_s List.set_cons_zero List.set_cons_succ convOk_int convOk_str ifG_split ifG_not ifG_and ifG_or
attribute [go_sem] Bool.false_or Bool.true_or Bool.or_true Bool.or_false
attribute [go_sem] mark_eq not_true_eq_false not_false_eq_true b_false b_true Int.cast_ofNat_Int gd_true AOps_nil rig_int rig_bool rig_str rig_nilptr rig_nilslice rig_ro DO_nil DO_false DO_grd DO_move DO_assign DO_pick DO_extract DO_binOp DO_unOp DO_slice DO_fieldAddr DO_field DO_indexAddr DO_index DO_len DO_min DO_max DO_load DO_convert
attribute [go_sem] AO_move AO_assign AO_pick AO_alloc AO_box AO_buildP AO_buildSliceP partsA_nil partsA_cons AO_load AO_nilCheck AO_binOp AO_unOp AO_convert AO_makeSlice AO_slice AO_fieldAddr AO_field AO_indexAddr AO_index AO_extract AO_builtin AO_builtin0 AO_store AO_call AO_call0 AO_callT AO_grd gdst_arr gdstL_0 gdstL_s gdstL_a0 gdstL_as gdstL_an gval_some gv_bool gv_none
attribute [go_sem] ifG_t ifG_f callOr_n callOr_s opThen_s thenA_exit thenA_ret aeval absV putA thenA_normal blockA_exit blockA_normal blockA_ret lget_lput lget if_true if_false builtinA List.map_cons List.map_nil Option.map_some Option.map_none Option.bind_some Option.bind_none newA cellsA oneA putAt repA buildA placesA cut_all opt_some opt_none cutA foldA min2A max2A isKnown sureK sureG row_slice row_nil app_to_nil app_to_grow app_to_empty
attribute [go_sem] List.length_cons List.length_nil List.getElem?_toArray List.getElem?_cons_zero List.getElem?_cons_succ reduceCtorEq Bool.false_eq_true true_and and_true and_self Nat.zero_add Option.isSome_some Option.isSome_none Option.isNone_some Option.isNone_none Bool.and_false Bool.and_true Bool.false_and Bool.true_and beq_self_eq_true
attribute [go_sem] bin_add bin_sub bin_mul bin_quo bin_rem bin_eql bin_neq bin_lss bin_leq bin_gtr bin_geq bin_str str_eql str_neq str_lss un_neg un_not un_xor Bool.not_true Bool.not_false decide_true decide_false List.append_nil Nat.add_zero aresults aresult tupA Array.toList
attribute [go_sem] IntWalk.i64_in IntWalk.u64_in IntWalk.u32_in IntWalk.u16_in IntWalk.rem_in gd_pos set_set get_rw get_ro push_n Int.toNat_natCast Nat.mul_one shr_nat
attribute [go_sem] WP_skip WP_region WP_seq WP_cond WP_block WP_exit WP_ret WP_loop WP_draw condA_true condA_false condA_split condA_and condA_or condA_not split2_true split2_false resA_some retA_normal retA_ret hasF_nil hasF_cons frOf eq_self
attribute [go_sem] u8_lit bv_lit wrap_u8_nat wrap_u8_byte wrap_i64_byte wrap_u64_byte wrap_u32_byte wrap_u16_byte bin_xor_b bin_and_b bin_or_b bin_xor_l bin_xor_1 bin_and_1 bin_add_b bin_shl_b1 bin_shr_b1 bin_and_i64 bin_or_i64 bin_xor_i64 bin_and_u64 bin_or_u64 bin_xor_u64 bin_and_u16 bin_shl_i64 bin_shr_i64 bin_shl_u64 bin_shr_u64 bin_shl_u32 bin_shr_u32 bin_shr_u16 UInt8.ofNat_toNat
attribute [congr] AWp_c AOps_c ifG_c callOr_c opThen_c ASpec_c DOps_c sameR_c WP_c condA_c split2_c resA_c retA_c

end Go.Abs
