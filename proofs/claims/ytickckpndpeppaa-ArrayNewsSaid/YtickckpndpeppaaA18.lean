/- Small laws for walks. -/
import Derived.Test.YtickckpndpeppaaA17
set_option linter.unusedVariables false
set_option linter.unusedSimpArgs false
namespace Go.Abs
open Go Go.RowKit

theorem sureK (n c : Nat) : sureSlice n (.known c) = true := rfl
theorem sureG (n sz : Nat) : sureSlice n (.grow sz) = decide (0 < n) := rfl

/-- One cell is stored. -/
theorem store_one {P : Program} {t : TypeId} {i o : Nat} {v : AV} {H : AH} {l : List AV} (ht : sizeA P t = some 1) (hv : oneA v = true) (hc : H.cells? i = some l) (ho : o < l.length) :
    storeA P t ⟨false, i, o⟩ v H = some (H.set i (some (.cells (l.set o v)))) := by
  have : cellsA v = some [v] := by cases v <;> simp_all [cellsA, oneA]
  simp [storeA, this, ht, storeCellsA, hv, hc, ho]

/-- One cell is read. -/
theorem load_one {P : Program} {t : TypeId} {a : AAddr} {v : AV} {H : AH} {l : List AV} (ht : aggA P t = some false) (hc : H.get a = some l) (ho : l[a.off]? = some v) : loadA P t a H = some v := by
  simp [loadA, hc, partA, ht, ho]

/-- Many cells are stored. -/
theorem storeCells_many {i : Nat} : ∀ (vs : List AV) (o : Nat) (H : AH) (l : List AV), vs.all oneA = true → H.cells? i = some l → o + vs.length ≤ l.length → (vs = [] → H.wr i) → storeCellsA H i o vs = some (H.set i (some (.cells (l.take o ++ vs ++ l.drop (o + vs.length)))))
  | [], o, H, l, _, hc, _, hw => by
    simp only [storeCellsA, List.append_nil, List.length_nil, Nat.add_zero, List.take_append_drop]
    have h := cells?_some hc
    congr 1
    have hw := hw rfl
    obtain ⟨ro, rw', wr⟩ := H
    simp only [AH.set, AH.mk.injEq, true_and]
    refine ⟨?_, funext fun j => propext ⟨.inr, fun e => e.elim (fun e => e ▸ hw) id⟩⟩
    apply List.ext_getElem?
    intro j
    rw [List.getElem?_set]
    split
    · rename_i hj
      subst hj
      split
      · exact h
      · rename_i h1; exact absurd (lt_of_get h) h1
    · rfl
  | v :: vs, o, H, l, ha, hc, ho, _ => by
    simp only [List.all_cons, Bool.and_eq_true] at ha
    simp only [List.length_cons] at ho
    have h1 : o < l.length := by omega
    simp only [storeCellsA, ha.1, if_true, hc, Option.bind_some]
    rw [if_pos h1, storeCells_many vs (o + 1) _ (l.set o v) ha.2 (set_cells H _ (cells_lt hc)) (by simp; omega) (fun _ => .inl rfl), set_set]
    congr 4
    have e1 : (l.set o v).take (o + 1) = l.take o ++ [v] := by
      rw [List.take_add_one, List.take_set_of_le (by omega)]
      simp [h1]
    have e2 : (l.set o v).drop (o + 1 + vs.length) = l.drop (o + (v :: vs).length) := by
      rw [List.drop_set_of_lt (by omega)]
      congr 1
      simp; omega
    rw [e1, e2]
    simp

theorem set_take_drop {α : Type} {l : List α} {o : Nat} {v : α} (h : o < l.length) : l.set o v = l.take o ++ v :: l.drop (o + 1) := by
  rw [List.set_eq_take_append_cons_drop, if_pos h]

/-- Something, if a bound is kept: simp shows it by arithmetic, and tries that at no other 'if'. -/
def gd {α : Type} (c : Prop) [Decidable c] (x : Option α) : Option α := if c then x else none
theorem gd_pos {α : Type} {c : Prop} [Decidable c] {x : Option α} (h : c) : gd c x = x := by unfold gd; rw [if_pos h]
theorem gd_true {α : Type} {i : Decidable True} {x : Option α} : @gd α True i x = x := by unfold gd; rw [if_pos trivial]
theorem row_slice {H : AH} {sz : Nat} {a : AAddr} {n : Nat} {c : Cap} : rowA H sz (.slice a n c) = (H.get a).bind fun cs => gd (a.off + n * sz ≤ cs.length ∨ n * sz = 0) (some ((cs.drop a.off).take (n * sz))) := rfl
theorem row_nil {H : AH} {sz : Nat} : rowA H sz .nilslice = some [] := rfl
theorem app_to_nil {sz by' : Nat} {H : AH} {k : Nat} {news : List AV} : appendTo sz by' H k news .nilslice = gd (k ≤ 140737488355328 ∧ k * by' ≤ 140737488355328) (some (.slice ⟨false, H.n, 0⟩ k (.grow sz), H.push (some (.cells news)))) := rfl
def gde {α : Type} (c : Prop) [Decidable c] (x y : Option α) : Option α := if c then x else y
theorem gde_pos {α : Type} {c : Prop} [Decidable c] {x y : Option α} (h : c) : gde c x y = x := by unfold gde; rw [if_pos h]
theorem gde_neg {α : Type} {c : Prop} [Decidable c] {x y : Option α} (h : ¬ c) : gde c x y = y := by unfold gde; rw [if_neg h]
theorem gde_true {α : Type} {i : Decidable True} {x y : Option α} : @gde α True i x y = x := by unfold gde; rw [if_pos trivial]
theorem gde_false {α : Type} {i : Decidable False} {x y : Option α} : @gde α False i x y = y := by unfold gde; rw [if_neg not_false]
theorem app_to_grow {sz by' : Nat} {H : AH} {k : Nat} {news : List AV} {i o n : Nat} : appendTo sz by' H k news (.slice ⟨false, i, o⟩ n (.grow sz)) = gd (n + k ≤ 140737488355328 ∧ (n + k) * by' ≤ 140737488355328)
    ((H.cells? i).bind fun l => gde (o + n * sz = l.length) (some (.slice ⟨false, H.n, 0⟩ (n + k) (.grow sz), (H.set i none).push (some (.cells (l.drop o ++ news)))))
      (gd (o + n * sz ≤ l.length) (some (.slice ⟨false, H.n, 0⟩ (n + k) (.grow sz), (H.set i none).push (some (.cells ((l.drop o).take (n * sz) ++ news))))))) := by
  simp only [appendTo, appendTo0, true_and, gd, gde]
  cases hc : H.cells? i with
  | none => simp only [trimA, hc, Option.bind_none]
  | some l =>
    simp only [Option.bind_some]
    by_cases ht : o + n * sz < l.length
    · have hi : i < H.n := by
        have := cells?_some hc
        exact (List.getElem?_eq_some_iff.1 this).1
      have e : trimA H sz (.slice ⟨false, i, o⟩ n (.grow sz)) = H.set i (some (.cells (l.take (o + n * sz)))) := by simp only [trimA, hc, if_pos ht]
      have e2 : (H.set i (some (.cells (l.take (o + n * sz))))).cells? i = some (l.take (o + n * sz)) := by
        have hi' : i < H.rw.length := hi
        simp [AH.cells?, AH.set, hi']
      have e3 : (H.set i (some (.cells (l.take (o + n * sz))))).set i none = H.set i none := by simp [AH.set]
      have e4 : (H.set i (some (.cells (l.take (o + n * sz))))).n = H.n := by simp [AH.n, AH.set]
      rw [e, e2]
      simp only [Option.bind_some, e3, e4]
      rw [if_pos (show o + n * sz = (l.take (o + n * sz)).length by rw [List.length_take]; omega), if_neg (show ¬ o + n * sz = l.length by omega), if_pos (show o + n * sz ≤ l.length by omega)]
      rw [List.drop_take, show o + n * sz - o = n * sz by omega]
    · have e : trimA H sz (.slice ⟨false, i, o⟩ n (.grow sz)) = H := by simp only [trimA, hc, if_neg ht]
      rw [e, hc]
      simp only [Option.bind_some]
      by_cases he : o + n * sz = l.length
      · simp only [if_pos he]
      · simp only [if_neg he, if_neg (show ¬ o + n * sz ≤ l.length by omega)]
theorem app_to_empty {sz by' : Nat} {H : AH} {k : Nat} {news : List AV} {a : AAddr} : appendTo sz by' H k news (.slice a 0 (.known 0)) = gd (k ≤ 140737488355328 ∧ k * by' ≤ 140737488355328) (some (.slice ⟨false, H.n, 0⟩ k (.grow sz), H.push (some (.cells news)))) := by
  simp only [appendTo, trimA, appendTo0, Nat.zero_add, Nat.le_refl, and_true, if_true, gd]
theorem app_to_known {sz by' : Nat} {H : AH} {k : Nat} {news : List AV} {a : AAddr} {n c : Nat} (h0 : 0 < c) (h1 : 0 < k) (h2 : n ≤ c) (h3 : c < n + k) : appendTo sz by' H k news (.slice a n (.known c)) = gd (n + k ≤ 140737488355328 ∧ (n + k) * by' ≤ 140737488355328)
    ((H.get a).bind fun l => gd (a.off + n * sz ≤ l.length) (some (.slice ⟨false, H.n, 0⟩ (n + k) (.grow sz), H.push (some (.cells ((l.drop a.off).take (n * sz) ++ news)))))) := by
  simp only [appendTo, trimA, appendTo0, h2, and_true, gd]
  rw [if_neg (by omega : ¬ c = 0), if_neg (by omega : ¬ k = 0), if_pos h3]

/-! What an operation does at values that are known. -/
section
variable {P : Program} {t : TypeId} {k : IntKind} {a b : Int} {H : AH}

theorem bin_add : binA P .add t (.int k a) (.int k b) = some (.int k (k.wrap (a + b))) := by simp [binA, intOpA]
theorem bin_sub : binA P .sub t (.int k a) (.int k b) = some (.int k (k.wrap (a - b))) := by simp [binA, intOpA]
theorem bin_mul : binA P .mul t (.int k a) (.int k b) = some (.int k (k.wrap (a * b))) := by simp [binA, intOpA]
theorem bin_quo : binA P .quo t (.int k a) (.int k b) = gd (b ≠ 0) (some (.int k (k.wrap (a.tdiv b)))) := by
  simp only [binA, intOpA, gd, if_true]
  by_cases h : b = 0 <;> simp [h]
theorem bin_rem : binA P .rem t (.int k a) (.int k b) = gd (b ≠ 0) (some (.int k (a.tmod b))) := by
  simp only [binA, intOpA, gd, if_true]
  by_cases h : b = 0 <;> simp [h]
theorem bin_and : binA P .and t (.int k a) (.int k b) = some (.int k (k.wrap ((BitVec.ofInt k.bits a &&& BitVec.ofInt k.bits b).toNat))) := by simp [binA, intOpA]
theorem bin_or : binA P .or t (.int k a) (.int k b) = some (.int k (k.wrap ((BitVec.ofInt k.bits a ||| BitVec.ofInt k.bits b).toNat))) := by simp [binA, intOpA]
theorem bin_xor : binA P .xor t (.int k a) (.int k b) = some (.int k (k.wrap ((BitVec.ofInt k.bits a ^^^ BitVec.ofInt k.bits b).toNat))) := by simp [binA, intOpA]
theorem bin_andNot : binA P .andNot t (.int k a) (.int k b) = some (.int k (k.wrap ((BitVec.ofInt k.bits a &&& ~~~BitVec.ofInt k.bits b).toNat))) := by simp [binA, intOpA]
theorem bin_eql : binA P .eql t (.int k a) (.int k b) = some (.bool (decide (a = b))) := by
  simp only [binA, intOpA, if_true]
  rfl
theorem bin_neq : binA P .neq t (.int k a) (.int k b) = some (.bool (decide (¬ a = b))) := by
  simp only [binA, intOpA, if_true]
  congr 2
  by_cases h : a = b <;> simp [h]
theorem bin_lss : binA P .lss t (.int k a) (.int k b) = some (.bool (decide (a < b))) := by simp [binA, intOpA]
theorem bin_leq : binA P .leq t (.int k a) (.int k b) = some (.bool (decide (a ≤ b))) := by simp [binA, intOpA]
theorem bin_gtr : binA P .gtr t (.int k a) (.int k b) = some (.bool (decide (a > b))) := by simp [binA, intOpA]
theorem bin_geq : binA P .geq t (.int k a) (.int k b) = some (.bool (decide (a ≥ b))) := by simp [binA, intOpA]
theorem bin_shl {k' : IntKind} : binA P .shl t (.int k a) (.int k' b) = gd (0 ≤ b) (some (.int k (k.wrap (a * 2 ^ min b.toNat k.bits)))) := by
  simp only [binA, shiftA, gd]
  by_cases h : b < 0
  · rw [if_pos h, if_neg (by omega)]
  · rw [if_neg h, if_pos (by omega)]
theorem bin_shr {k' : IntKind} : binA P .shr t (.int k a) (.int k' b) = gd (0 ≤ b) (some (.int k (a.fdiv (2 ^ min b.toNat k.bits)))) := by
  simp only [binA, shiftA, gd]
  by_cases h : b < 0
  · rw [if_pos h, if_neg (by omega)]
  · rw [if_neg h, if_pos (by omega)]
theorem bin_str {op : BinOp} {x y : ByteArray} : binA P op t (.str x) (.str y) = strOpA op x y := by simp [binA]
theorem str_eql {x y : ByteArray} : strOpA .eql x y = some (.bool (x.toList == y.toList)) := rfl
theorem str_neq {x y : ByteArray} : strOpA .neq x y = some (.bool !(x.toList == y.toList)) := rfl
theorem str_lss {x y : ByteArray} : strOpA .lss x y = some (.bool (Op.bytesLess x.toList y.toList)) := rfl
theorem un_neg : unA .neg (.int k a) = some (.int k (k.wrap (0 - a))) := rfl
theorem un_not {x : Bool} : unA .not (.bool x) = some (.bool !x) := rfl
theorem un_xor : unA .xor (.int k a) = some (.int k (k.wrap ((BitVec.ofInt k.bits (if k.signed then -1 else k.max) ^^^ BitVec.ofInt k.bits a).toNat))) := rfl

theorem bin_bool (h : P.underlying t = some .bool) {x y : Bool} : binA P .eql t (.bool x) (.bool y) = some (.bool (x == y)) := by simp [binA, h, eqA]
theorem bin_boolne (h : P.underlying t = some .bool) {x y : Bool} : binA P .neq t (.bool x) (.bool y) = some (.bool (!(x == y))) := by simp [binA, h, eqA]

variable {e : TypeId} {sz by' : Nat} {z : List AV} {p : AAddr} {n c : Nat} {cp : Cap}
theorem len_slice (h : P.underlying t = some (.slice e)) : lenA P t (.slice p n cp) = some (.int .i64 n) := by simp [lenA, h]
theorem len_nil (h : P.underlying t = some (.slice e)) : lenA P t .nilslice = some (.int .i64 0) := by simp [lenA, h]
theorem len_str (h : P.underlying t = some .string) {s : ByteArray} : lenA P t (.str s) = some (.int .i64 s.size) := by simp [lenA, h]
theorem len_arr (h : P.underlying t = some (.array n e)) {v : AV} : lenA P t v = some (.int .i64 n) := by simp [lenA, h]
theorem ixa_slice (h : P.underlying t = some (.slice e)) (hs : sizeA P e = some sz) : indexAddrA P t (.slice p n cp) (.int k a) = gd (0 ≤ a ∧ a < n) (some (.ptr ⟨p.ro, p.blk, p.off + a.toNat * sz⟩)) := by simp [indexAddrA, h, hs, gd]
theorem ixa_arr (h : P.underlying t = some (.array n e)) (hs : sizeA P e = some sz) : indexAddrA P t (.ptr p) (.int k a) = gd (0 ≤ a ∧ a < n) (some (.ptr ⟨p.ro, p.blk, p.off + a.toNat * sz⟩)) := by simp [indexAddrA, h, hs, gd]
theorem slc_known (h : P.underlying t = some (.slice e)) (hs : sizeA P e = some sz) {lo hi mx : Option AV} : sliceOpA P t (.slice p n (.known c)) lo hi mx = cutKnown p sz n c lo hi mx := by simp [sliceOpA, h, hs]
theorem slc_grow (h : P.underlying t = some (.slice e)) (hs : sizeA P e = some sz) {lo hi : Option AV} : sliceOpA P t (.slice p n (.grow sz)) lo hi none = if p.ro = false then (optB hi n n).bind fun h => (optB lo h 0).map fun l => .slice ⟨false, p.blk, p.off + l * sz⟩ (h - l) (.grow sz) else none := by simp [sliceOpA, h, hs]
theorem slc_nil (h : P.underlying t = some (.slice e)) (hs : sizeA P e = some sz) {lo hi : Option AV} : sliceOpA P t .nilslice lo hi none = (optB hi 0 0).bind fun h => (optB lo h 0).map fun _ => .nilslice := by simp [sliceOpA, h, hs, optB]
theorem slc_arr (h : P.underlying t = some (.array n e)) (hs : sizeA P e = some sz) {lo hi mx : Option AV} : sliceOpA P t (.ptr p) lo hi mx = cutKnown p sz n n lo hi mx := by simp [sliceOpA, h, hs]
theorem slc_str (h : P.underlying t = some .string) {s : ByteArray} {lo hi : Option AV} : sliceOpA P t (.str s) lo hi none = (optB hi s.size s.size).bind fun h => (optB lo h 0).map fun l => .str (s.extract l h) := by simp [sliceOpA, h]
theorem cut_all {lo hi : Option AV} : cutKnown p sz n c lo hi none = (optB hi c n).bind fun h => (optB lo h 0).map fun l => cutA p sz l h c := by simp [cutKnown, optB]
theorem opt_some {x : Int} {y d : Nat} : optB (some (.int k x)) y d = gd (0 ≤ x ∧ x ≤ y) (some x.toNat) := rfl
theorem opt_none {y d : Nat} : optB none y d = some d := rfl
theorem make_slice (h : P.underlying t = some (.slice e)) (hs : sizeA P e = some sz) (hb : bytesA P e = some by') (hz : zeroA P e = some z) (hl : z.length = sz ∧ 0 < sz) {k' : IntKind} : makeSliceA P t (.int k a) (.int k' b) H =
    gd (0 ≤ a ∧ a ≤ b ∧ b ≤ 140737488355328 ∧ b * by' ≤ 140737488355328) (some (.slice ⟨false, H.n, 0⟩ a.toNat (.known b.toNat), H.push (some (.cells (repA z b.toNat))))) := by
  simp only [makeSliceA, h, hs, hb, hz, Option.bind_some, hl.1, hl.2, and_true, gd]
theorem build_slice (h : P.underlying t = some (.slice e)) (hs : sizeA P e = some sz) (hz : zeroA P e = some z) (hl : z.length = sz ∧ 0 < sz) {len : Nat} {parts : List (Nat × AV)} (hlen : len * sz ≤ 16777216) : buildSliceA P t len parts H =
    (fillA (fun i => some (i * sz, sz)) (repA z len) parts).map fun cells => (.slice ⟨false, H.n, 0⟩ len (.known len), H.push (some (.cells cells))) := by
  simp only [buildSliceA, h, hs, hz, Option.bind_some, hl.1, hl.2, hlen, and_true, if_true]
theorem load_cell (h : aggA P t = some false) : loadA P t p H = (H.get p).bind fun cs => cs[p.off]? := by simp [loadA, partA, h]
theorem load_agg (h : aggA P t = some true) (hs : sizeA P t = some sz) : loadA P t p H = (H.get p).bind fun cs => gd (p.off + sz ≤ cs.length) (some (.agg ((cs.drop p.off).take sz))) := by simp [loadA, partA, h, hs, gd]
theorem store_cell (hs : sizeA P t = some 1) {v : AV} (hv : oneA v = true) {i o : Nat} : storeA P t ⟨false, i, o⟩ v H = (H.cells? i).bind fun l => gd (o < l.length) (some (H.set i (some (.cells (l.set o v))))) := by
  have : cellsA v = some [v] := by cases v <;> simp_all [cellsA, oneA]
  simp [storeA, this, hs, storeCellsA, hv, gd]
theorem store_agg {vs : List AV} (hs : sizeA P t = some sz) (hl : vs.length = sz) {i o : Nat} : storeA P t ⟨false, i, o⟩ (.agg vs) H = storeCellsA H i o vs := by
  simp [storeA, cellsA, hs, hl]
theorem conv_int (ht : P.underlying t = some (.int k)) {s : TypeId} {k' : IntKind} (hs : (P.underlying s).isSome = true) : convertA P s t (.int k' a) H = some (.int k (k.wrap a), H) := by
  obtain ⟨d, hd⟩ := Option.isSome_iff_exists.1 hs
  simp [convertA, ht, hd]
theorem conv_text {s : TypeId} (hs : P.underlying s = some (.slice e)) (ht : P.underlying t = some .string) (he : P.underlying e = some (.int .u8)) : convertA P s t (.slice p n cp) H = (rowA H 1 (.slice p n cp)).bind fun cs => (bytesOfA cs).map fun bs => (.str ⟨bs.toArray⟩, H) := by
  simp [convertA, hs, ht, he]
theorem conv_text_nil {s : TypeId} (hs : P.underlying s = some (.slice e)) (ht : P.underlying t = some .string) (he : P.underlying e = some (.int .u8)) : convertA P s t .nilslice H = some (.str ⟨#[]⟩, H) := by
  simp [convertA, hs, ht, he, rowA, bytesOfA]
theorem app_slice (h : P.underlying t = some (.slice e)) (hs : sizeA P e = some sz) (hb : bytesA P e = some by') (hz : zeroA P e = some z) (hl : z.length = sz ∧ 0 < sz) {s x : AV} : appendA P t t s x H =
    (newsA H sz x).bind fun kn => if kn.2.all oneA = true then appendTo sz by' H kn.1 kn.2 s else none := by
  simp only [appendA, h, hs, hb, hz, Option.bind_some, hl.1, hl.2, and_self, if_true, moreA]
theorem app_str (h : P.underlying t = some (.slice e)) (hs : sizeA P e = some sz) (hb : bytesA P e = some by') (hz : zeroA P e = some z) (hl : z.length = sz ∧ 0 < sz) {xt : TypeId} (hx : P.underlying xt = some .string) {s x : AV} : appendA P t xt s x H =
    (newsA H sz x).bind fun kn => if kn.2.all oneA = true then appendTo sz by' H kn.1 kn.2 s else none := by
  simp only [appendA, h, hs, hb, hz, Option.bind_some, hl.1, hl.2, and_self, if_true, moreA, hx]
theorem copy_slice (h : P.underlying t = some (.slice e)) (hs : sizeA P e = some sz) {x : AV} : copyA P t (.slice p n cp) x H = (newsA H sz x).bind fun kn => if p.ro = false ∧ (H.cells? p.blk).isSome then (storeCellsA H p.blk p.off (kn.2.take (min kn.1 n * sz))).map fun H' => (.int .i64 (min kn.1 n : Nat), H') else none := by
  simp only [copyA, h, hs, Option.bind_some]
theorem copy_nil (h : P.underlying t = some (.slice e)) (hs : sizeA P e = some sz) {x : AV} : copyA P t .nilslice x H = (newsA H sz x).bind fun kn => some (.int .i64 0, H) := by
  simp only [copyA, h, hs, Option.bind_some]
theorem clear_slice (h : P.underlying t = some (.slice e)) (hz : zeroA P e = some z) : clearA P t (.slice p n cp) H = if n = 0 then some (.tup [], H) else if (p.ro = false ∧ (H.cells? p.blk).isSome) ∧ 0 < z.length then (storeCellsA H p.blk p.off (repA z n)).map fun H' => (.tup [], H') else none := by
  simp only [clearA, h, hz, Option.bind_some]
theorem clear_nil (h : P.underlying t = some (.slice e)) (hz : zeroA P e = some z) : clearA P t .nilslice H = some (.tup [], H) := by
  simp only [clearA, h, hz, Option.bind_some]
theorem ix_arr (h : P.underlying t = some (.array n e)) (hs : sizeA P e = some sz) {cs : List AV} : indexA P t (.agg cs) (.int k a) = gd (0 ≤ a ∧ a < n) (partA P e cs (a.toNat * sz)) := by simp [indexA, h, hs, gd]
theorem ix_str (h : P.underlying t = some .string) {s : ByteArray} : indexA P t (.str s) (.int k a) = gd (0 ≤ a) ((s[a.toNat]?).map fun b => .int .u8 b.toNat) := by simp [indexA, h, gd]
theorem part_cell (h : aggA P t = some false) {cs : List AV} {o : Nat} : partA P t cs o = cs[o]? := by simp [partA, h]
theorem part_agg (h : aggA P t = some true) (hs : sizeA P t = some sz) {cs : List AV} {o : Nat} : partA P t cs o = gd (o + sz ≤ cs.length) (some (.agg ((cs.drop o).take sz))) := by simp [partA, h, hs, gd]
theorem eq_nil_slice (h : P.underlying t = some (.slice e)) : binA P .eql t (.slice p n cp) .nilslice = if sureSlice n cp then some (.bool false) else none := by
  simp only [binA, h, Option.bind_some, eqA]; split <;> rfl
theorem ne_nil_slice (h : P.underlying t = some (.slice e)) : binA P .neq t (.slice p n cp) .nilslice = if sureSlice n cp then some (.bool true) else none := by
  simp only [binA, h, Option.bind_some, eqA]; split <;> rfl
theorem eq_nil_nil (h : P.underlying t = some (.slice e)) : binA P .eql t .nilslice .nilslice = some (.bool true) := by simp [binA, h, eqA]
theorem ne_nil_nil (h : P.underlying t = some (.slice e)) : binA P .neq t .nilslice .nilslice = some (.bool false) := by simp [binA, h, eqA]
theorem eq_ptr_nil (h : P.underlying t = some (.pointer e)) : binA P .eql t (.ptr p) .nilptr = some (.bool false) := by simp [binA, h, eqA]
theorem ne_ptr_nil (h : P.underlying t = some (.pointer e)) : binA P .neq t (.ptr p) .nilptr = some (.bool true) := by simp [binA, h, eqA]
theorem eq_nilptr (h : P.underlying t = some (.pointer e)) : binA P .eql t .nilptr .nilptr = some (.bool true) := by simp [binA, h, eqA]
theorem ne_nilptr (h : P.underlying t = some (.pointer e)) : binA P .neq t .nilptr .nilptr = some (.bool false) := by simp [binA, h, eqA]
theorem fa_struct {fs : Array Field} (h : P.underlying t = some (.struct fs)) {f o : Nat} {ft : TypeId} (hf : (fs[f]?).map (fun x => (x.type, x.offset)) = some (ft, o)) {m : Nat} (hs : sizeA P ft = some (m + 1)) : fieldAddrA P t (.ptr p) f = some (.ptr ⟨p.ro, p.blk, p.off + o⟩) := by
  obtain ⟨x, hx, h2⟩ := Option.map_eq_some_iff.1 hf
  obtain ⟨rfl, rfl⟩ := Prod.mk.inj h2
  simp only [fieldAddrA, h, hx, Option.bind_some, hs]
  rw [if_neg (by simp)]
theorem fl_struct {fs : Array Field} (h : P.underlying t = some (.struct fs)) {f o : Nat} {ft : TypeId} (hf : (fs[f]?).map (fun x => (x.type, x.offset)) = some (ft, o)) {cs : List AV} : fieldA P t (.agg cs) f = partA P ft cs o := by
  obtain ⟨x, hx, h2⟩ := Option.map_eq_some_iff.1 hf
  obtain ⟨rfl, rfl⟩ := Prod.mk.inj h2
  simp only [fieldA, h, hx, Option.bind_some]
end

theorem shr_nat (n m : Nat) : (n : Int).fdiv (2 ^ m) = ((n / 2 ^ m : Nat) : Int) := by
  rw [Int.fdiv_eq_ediv_of_nonneg _ (Int.pow_nonneg (by omega))]
  push_cast
  rfl

/-- A byte made of a number. -/
theorem byte_bv (m : Nat) : AV.int .u8 (IntKind.u8.wrap (m : Int)) = bv (UInt8.ofNat m) := by
  simp only [bv, IntKind.wrap_u8, UInt8.toNat_ofNat']
  congr 1

theorem two_pow_bytes (k : Nat) : 2 ^ (8 * k) = 256 ^ k := by rw [Nat.pow_mul]

theorem bv_zero : AV.int .u8 0 = bv 0 := rfl

theorem thenA_exit (next : AFr → AH → Prop) (Q : Exit → AFr → AH → Prop) (i : Nat) (fr : AFr) (H : AH) : thenA next Q (.exit i) fr H = Q (.exit i) fr H := nr rfl
theorem thenA_ret (next : AFr → AH → Prop) (Q : Exit → AFr → AH → Prop) (fr : AFr) (H : AH) : thenA next Q .ret fr H = Q .ret fr H := nr rfl

/-- A row that is being filled from the front. -/
theorem fill_set {α : Type} {l : List α} {m i : Nat} {z v : α} (hm : i < m) (hv : l[i]? = some v) : (l.take i ++ List.replicate (m - i) z).set i v = l.take (i + 1) ++ List.replicate (m - (i + 1)) z := by
  have hl : (l.take i).length = i := by have := lt_of_get hv; simp; omega
  rw [show m - i = (m - (i + 1)) + 1 by omega, List.replicate_succ, List.set_append_right _ _ (by omega), hl, Nat.sub_self, List.set_cons_zero, List.take_add_one, hv]
  simp

/-- A row that is being filled from the end. -/
theorem fill_back {α : Type} {l : List α} {i : Nat} {z v : α} (hv : l[i]? = some v) : (List.replicate (i + 1) z ++ l.drop (i + 1)).set i v = List.replicate i z ++ l.drop i := by
  have hi := lt_of_get hv
  rw [List.replicate_succ', List.append_assoc, List.set_append_right _ _ (by simp)]
  simp only [List.length_replicate, Nat.sub_self, List.cons_append, List.nil_append, List.set_cons_zero]
  rw [List.drop_eq_getElem_cons hi]
  congr 2
  rw [List.getElem?_eq_getElem hi] at hv
  injection hv with hv
  exact hv.symm

theorem byte_rem (q : Nat) : AV.int .u8 (IntKind.u8.wrap ((q : Int) % 256)) = bv (UInt8.ofNat q) := by
  simp only [bv, IntKind.wrap_u8, UInt8.toNat_ofNat']
  congr 1
  omega

theorem IsBytes.sure {H : AH} {v : AV} {xs : List UInt8} (h : IsBytes H v xs) (h0 : 0 < xs.length) : ∃ a n c, v = .slice a n c ∧ sureSlice n c = true := by
  rcases h.elim with ⟨_, rfl⟩ | ⟨a, c, cs, rfl, _, _, _⟩
  · simp at h0
  · exact ⟨a, _, c, rfl, by cases c <;> simp [sureSlice, h0]⟩

theorem sl_grow {i n : Nat} : isSl (.slice ⟨false, i, 0⟩ n (.grow 1)) = true := rfl

/-! parts of a function's code -/
def restC : Nat → Code → Code
  | n + 1, .seq _ c => restC n c
  | _, c => c
def headC : Code → Code
  | .seq c _ => c
  | c => c
def bodyC (f : Func) : Code := f.body.getD .skip
/-- What a function's code comes to at its end. -/
def postA (P : Program) (fn : Func) (Q : AV → AH → Prop) : Exit → AFr → AH → Prop := fun e fr H' => (e = .normal ∨ e = .ret) ∧ ∃ vs, aresults P fr H' fn.results.toList = some vs ∧ Q (tupA vs) H'

/-! one operation after the other, for simp: nothing behind a thing that is not known yet is looked at -/
def ifG : Option Bool → Prop → Prop → Prop
  | none, _, _ => False
  | some false, a, _ => a
  | some true, _, b => b
def callOr : Option (FuncId × List AV) → (FuncId → List AV → Prop) → Prop → Prop
  | none, _, d => d
  | some (f, args), k, _ => k f args
def opThen : Option (AV × AH) → (AV → AH → Prop) → Prop
  | none, _ => False
  | some (v, H), k => k v H
/-- A sign for simp: where a congruence bears it, simp looks at this argument and at no other. -/
def mark {α : Sort _} (x : α) : α := x
theorem mark_eq {α : Sort _} (x : α) : mark x = x := Eq.mpr rfl (Eq.refl x)
theorem ifG_c {g g' : Option Bool} {a b : Prop} (h : mark g = g') : ifG g a b = ifG g' a b := by rw [← h, mark_eq]
theorem callOr_c {g g' : Option (FuncId × List AV)} {k : FuncId → List AV → Prop} {d : Prop} (h : mark g = g') : callOr g k d = callOr g' k d := by rw [← h, mark_eq]
theorem opThen_c {g g' : Option (AV × AH)} {k : AV → AH → Prop} (h : mark g = g') : opThen g k = opThen g' k := by rw [← h, mark_eq]
theorem ASpec_c {P : Program} {f : FuncId} {args args' : List AV} {H H' : AH} {Q : AV → AH → Prop} (h1 : mark args = args') (h2 : mark H = H') : ASpec P f args H Q = ASpec P f args' H' Q := by rw [← h1, ← h2, mark_eq, mark_eq]
theorem AWp_c {P : Program} {N : Nat} {c : Code} {Q : Exit → AFr → AH → Prop} {fr fr' : AFr} {H H' : AH} (h1 : mark fr = fr') (h2 : mark H = H') : AWp P N c Q fr H = AWp P N c Q fr' H' := by rw [← h1, ← h2, mark_eq, mark_eq]
theorem AOps_c {P : Program} {ops : Array Oper} {Q : AFr → AH → Prop} {l : List Oper} {fr fr' : AFr} {H H' : AH} (h1 : mark fr = fr') (h2 : mark H = H') : AOps P ops Q l fr H = AOps P ops Q l fr' H' := by rw [← h1, ← h2, mark_eq, mark_eq]
theorem ifG_t {a b : Prop} : ifG (some true) a b = b := nr rfl
theorem ifG_f {a b : Prop} : ifG (some false) a b = a := nr rfl
theorem callOr_n {k : FuncId → List AV → Prop} {d : Prop} : callOr none k d = d := nr rfl
theorem callOr_s {f : FuncId} {args : List AV} {k : FuncId → List AV → Prop} {d : Prop} : callOr (some (f, args)) k d = k f args := nr rfl
theorem opThen_s {v : AV} {H : AH} {k : AV → AH → Prop} : opThen (some (v, H)) k = k v H := nr rfl
theorem AOps_nil {P : Program} {ops : Array Oper} {Q : AFr → AH → Prop} {fr : AFr} {H : AH} : AOps P ops Q [] fr H = Q fr H := nr rfl
theorem AOps_cons {P : Program} {ops : Array Oper} {Q : AFr → AH → Prop} {o : Oper} {rest : List Oper} {fr : AFr} {H : AH} : AOps P ops Q (o :: rest) fr H =
    ifG (guardA ops fr o) (AOps P ops Q rest (putA fr o.dst (.tup [])) H)
      (callOr (callA fr o.op) (fun f args => ASpec P f args H fun r H' => AOps P ops Q rest (putA fr o.dst r) H') (opThen (opA P fr H o.op) fun v H' => AOps P ops Q rest (putA fr o.dst v) H')) := by
  simp only [AOps]
  cases guardA ops fr o with
  | none => rfl
  | some b =>
    cases b with
    | false => rfl
    | true =>
      simp only [ifG]
      cases callA fr o.op with
      | some fa => rfl
      | none =>
        simp only [callOr]
        cases opA P fr H o.op with
        | none => rfl
        | some vh => rfl

section
variable {P : Program} {ops : Array Oper} {Q : AFr → AH → Prop} {rest : List Oper} {fr : AFr} {H : AH} {ty : TypeId} {ps : String} {af : Array Edge}
theorem AO_move {d : Tmp} {x : Operand} : AOps P ops Q (⟨some d, .move x, ty, ps, af, none⟩ :: rest) fr H = AOps P ops Q rest (lput fr d (aeval fr x)) H := by
  rw [AOps_cons]; simp only [guardA, ifG, callA, callOr, opA, putA, opThen]
theorem AO_assign {d : Tmp} {x : Operand} : AOps P ops Q (⟨some d, .assign x, ty, ps, af, none⟩ :: rest) fr H = AOps P ops Q rest (lput fr d (aeval fr x)) H := by
  rw [AOps_cons]; simp only [guardA, ifG, callA, callOr, opA, putA, opThen]
theorem AO_pick {d : Tmp} {c x y : Operand} : AOps P ops Q (⟨some d, .pick c x y, ty, ps, af, none⟩ :: rest) fr H = opThen (match aeval fr c with | .bool t => some (if t then aeval fr x else aeval fr y, H) | _ => none) fun v H' => AOps P ops Q rest (lput fr d v) H' := by
  rw [AOps_cons]; simp only [guardA, ifG, callA, callOr, opA, putA]
  all_goals rfl
theorem AO_alloc {d : Tmp} {t : TypeId} : AOps P ops Q (⟨some d, .alloc t, ty, ps, af, none⟩ :: rest) fr H = opThen ((zeroA P t).map fun z => newA H z) fun v H' => AOps P ops Q rest (lput fr d v) H' := by
  rw [AOps_cons]; simp only [guardA, ifG, callA, callOr, opA, putA]
  all_goals rfl
theorem AO_box {d : Tmp} {t : TypeId} {x : Operand} : AOps P ops Q (⟨some d, .box t x, ty, ps, af, none⟩ :: rest) fr H = opThen ((cellsA (aeval fr x)).map fun l => newA H l) fun v H' => AOps P ops Q rest (lput fr d v) H' := by
  rw [AOps_cons]; simp only [guardA, ifG, callA, callOr, opA, putA]
  all_goals rfl
theorem AO_build {d : Tmp} {t : TypeId} {q : Array (Nat × Operand)} : AOps P ops Q (⟨some d, .build t q, ty, ps, af, none⟩ :: rest) fr H = opThen ((buildA P t (q.toList.map fun p => (p.1, aeval fr p.2))).map fun v => (v, H)) fun v H' => AOps P ops Q rest (lput fr d v) H' := by
  rw [AOps_cons]; simp only [guardA, ifG, callA, callOr, opA, putA]
  all_goals rfl
theorem AO_buildSlice {d : Tmp} {t : TypeId} {n : Nat} {q : Array (Nat × Operand)} : AOps P ops Q (⟨some d, .buildSlice t n q, ty, ps, af, none⟩ :: rest) fr H = opThen (buildSliceA P t n (q.toList.map fun p => (p.1, aeval fr p.2)) H) fun v H' => AOps P ops Q rest (lput fr d v) H' := by
  rw [AOps_cons]; simp only [guardA, ifG, callA, callOr, opA, putA]
  all_goals rfl
theorem AO_load {d : Tmp} {t : TypeId} {x : Operand} : AOps P ops Q (⟨some d, .load t x, ty, ps, af, none⟩ :: rest) fr H = opThen (match aeval fr x with | .ptr p => (loadA P t p H).map fun v => (v, H) | _ => none) fun v H' => AOps P ops Q rest (lput fr d v) H' := by
  rw [AOps_cons]; simp only [guardA, ifG, callA, callOr, opA, putA]
  all_goals rfl
theorem AO_nilCheck {d : Tmp} {x : Operand} : AOps P ops Q (⟨some d, .nilCheck x, ty, ps, af, none⟩ :: rest) fr H = opThen (match aeval fr x with | .ptr p => some (.ptr p, H) | .func f l => some (.func f l, H) | _ => none) fun v H' => AOps P ops Q rest (lput fr d v) H' := by
  rw [AOps_cons]; simp only [guardA, ifG, callA, callOr, opA, putA]
  all_goals rfl
theorem AO_binOp {d : Tmp} {op : BinOp} {t t2 : TypeId} {x y : Operand} : AOps P ops Q (⟨some d, .binOp op t x y t2, ty, ps, af, none⟩ :: rest) fr H = opThen ((binA P op t (aeval fr x) (aeval fr y)).map fun v => (v, H)) fun v H' => AOps P ops Q rest (lput fr d v) H' := by
  rw [AOps_cons]; simp only [guardA, ifG, callA, callOr, opA, putA]
  all_goals rfl
theorem AO_unOp {d : Tmp} {op : UnOp} {t : TypeId} {x : Operand} : AOps P ops Q (⟨some d, .unOp op t x, ty, ps, af, none⟩ :: rest) fr H = opThen ((unA op (aeval fr x)).map fun v => (v, H)) fun v H' => AOps P ops Q rest (lput fr d v) H' := by
  rw [AOps_cons]; simp only [guardA, ifG, callA, callOr, opA, putA]
  all_goals rfl
theorem AO_convert {d : Tmp} {t t2 : TypeId} {x : Operand} : AOps P ops Q (⟨some d, .convert t t2 x, ty, ps, af, none⟩ :: rest) fr H = opThen (convertA P t t2 (aeval fr x) H) fun v H' => AOps P ops Q rest (lput fr d v) H' := by
  rw [AOps_cons]; simp only [guardA, ifG, callA, callOr, opA, putA]
  all_goals rfl
theorem AO_makeSlice {d : Tmp} {t : TypeId} {x y : Operand} : AOps P ops Q (⟨some d, .makeSlice t x y, ty, ps, af, none⟩ :: rest) fr H = opThen (makeSliceA P t (aeval fr x) (aeval fr y) H) fun v H' => AOps P ops Q rest (lput fr d v) H' := by
  rw [AOps_cons]; simp only [guardA, ifG, callA, callOr, opA, putA]
  all_goals rfl
theorem AO_slice {d : Tmp} {t : TypeId} {x : Operand} {lo hi mx : Option Operand} : AOps P ops Q (⟨some d, .slice t x lo hi mx, ty, ps, af, none⟩ :: rest) fr H = opThen ((sliceOpA P t (aeval fr x) (lo.map (aeval fr)) (hi.map (aeval fr)) (mx.map (aeval fr))).map fun v => (v, H)) fun v H' => AOps P ops Q rest (lput fr d v) H' := by
  rw [AOps_cons]; simp only [guardA, ifG, callA, callOr, opA, putA]
  all_goals rfl
theorem AO_fieldAddr {d : Tmp} {t : TypeId} {x : Operand} {f : Nat} : AOps P ops Q (⟨some d, .fieldAddr t x f, ty, ps, af, none⟩ :: rest) fr H = opThen ((fieldAddrA P t (aeval fr x) f).map fun v => (v, H)) fun v H' => AOps P ops Q rest (lput fr d v) H' := by
  rw [AOps_cons]; simp only [guardA, ifG, callA, callOr, opA, putA]
  all_goals rfl
theorem AO_field {d : Tmp} {t : TypeId} {x : Operand} {f : Nat} : AOps P ops Q (⟨some d, .field t x f, ty, ps, af, none⟩ :: rest) fr H = opThen ((fieldA P t (aeval fr x) f).map fun v => (v, H)) fun v H' => AOps P ops Q rest (lput fr d v) H' := by
  rw [AOps_cons]; simp only [guardA, ifG, callA, callOr, opA, putA]
  all_goals rfl
theorem AO_indexAddr {d : Tmp} {t : TypeId} {x y : Operand} : AOps P ops Q (⟨some d, .indexAddr t x y, ty, ps, af, none⟩ :: rest) fr H = opThen ((indexAddrA P t (aeval fr x) (aeval fr y)).map fun v => (v, H)) fun v H' => AOps P ops Q rest (lput fr d v) H' := by
  rw [AOps_cons]; simp only [guardA, ifG, callA, callOr, opA, putA]
  all_goals rfl
theorem AO_index {d : Tmp} {t : TypeId} {x y : Operand} : AOps P ops Q (⟨some d, .index t x y, ty, ps, af, none⟩ :: rest) fr H = opThen ((indexA P t (aeval fr x) (aeval fr y)).map fun v => (v, H)) fun v H' => AOps P ops Q rest (lput fr d v) H' := by
  rw [AOps_cons]; simp only [guardA, ifG, callA, callOr, opA, putA]
  all_goals rfl
theorem AO_extract {d : Tmp} {x : Operand} {n : Nat} : AOps P ops Q (⟨some d, .extract x n, ty, ps, af, none⟩ :: rest) fr H = opThen (match aeval fr x with | .tup l => (l[n]?).map fun v => (v, H) | _ => none) fun v H' => AOps P ops Q rest (lput fr d v) H' := by
  rw [AOps_cons]; simp only [guardA, ifG, callA, callOr, opA, putA]
  all_goals rfl
theorem AO_builtin {d : Tmp} {b : Builtin} {args : Array Operand} {ts : Array TypeId} : AOps P ops Q (⟨some d, .call ⟨.builtin b, args, ts⟩, ty, ps, af, none⟩ :: rest) fr H = opThen (builtinA P b ts.toList (args.toList.map (aeval fr)) H) fun v H' => AOps P ops Q rest (lput fr d v) H' := by
  rw [AOps_cons]; simp only [guardA, ifG, callA, callOr, opA, putA]
  all_goals rfl
theorem AO_builtin0 {b : Builtin} {args : Array Operand} {ts : Array TypeId} : AOps P ops Q (⟨none, .call ⟨.builtin b, args, ts⟩, ty, ps, af, none⟩ :: rest) fr H = opThen (builtinA P b ts.toList (args.toList.map (aeval fr)) H) fun v H' => AOps P ops Q rest fr H' := by
  rw [AOps_cons]; simp only [guardA, ifG, callA, callOr, opA, putA]
  all_goals rfl
theorem AO_store {t : TypeId} {x y : Operand} : AOps P ops Q (⟨none, .store t x y, ty, ps, af, none⟩ :: rest) fr H = opThen (match aeval fr x with | .ptr p => (storeA P t p (aeval fr y) H).map fun H' => (.unk, H') | _ => none) fun v H' => AOps P ops Q rest fr H' := by
  rw [AOps_cons]; simp only [guardA, ifG, callA, callOr, opA, putA]
  all_goals rfl
theorem AO_call {d : Tmp} {f : FuncId} {args : Array Operand} {ts : Array TypeId} : AOps P ops Q (⟨some d, .call ⟨.value (.func f), args, ts⟩, ty, ps, af, none⟩ :: rest) fr H = ASpec P f (args.toList.map (aeval fr)) H fun r H' => AOps P ops Q rest (lput fr d r) H' := by
  rw [AOps_cons]; simp only [guardA, ifG, callA, callOr, opA, putA, aeval, List.append_nil]
theorem AO_call0 {f : FuncId} {args : Array Operand} {ts : Array TypeId} : AOps P ops Q (⟨none, .call ⟨.value (.func f), args, ts⟩, ty, ps, af, none⟩ :: rest) fr H = ASpec P f (args.toList.map (aeval fr)) H fun r H' => AOps P ops Q rest fr H' := by
  rw [AOps_cons]; simp only [guardA, ifG, callA, callOr, opA, putA, aeval, List.append_nil]
theorem AO_callT {d g : Tmp} {args : Array Operand} {ts : Array TypeId} : AOps P ops Q (⟨some d, .call ⟨.value (.tmp g), args, ts⟩, ty, ps, af, none⟩ :: rest) fr H = callOr (match lget fr g with | .func f l => some (f, args.toList.map (aeval fr) ++ l) | _ => none) (fun f as => ASpec P f as H fun r H' => AOps P ops Q rest (lput fr d r) H') False := by
  rw [AOps_cons]; simp only [guardA, ifG, callA, opA, putA, aeval, opThen]
  all_goals rfl
theorem AO_guard {d : Option Tmp} {op : Op} {j : Nat} {want : Bool} : AOps P ops Q (⟨d, op, ty, ps, af, some (j, want)⟩ :: rest) fr H = ifG (match (ops[j]?).bind (·.dst) with | some d => (match lget fr d with | .bool b => some (b == want) | .tup [] => some false | _ => none) | none => none) (AOps P ops Q rest (putA fr d (.tup [])) H) (AOps P ops Q (⟨d, op, ty, ps, af, none⟩ :: rest) fr H) := by
  rw [AOps_cons]
  conv => rhs; arg 3; rw [AOps_cons]
  simp only [guardA, ifG]
  rfl
end

/-! operations that ask nothing of the world -/
def Steady (P : Program) {α : Type} (s : Sem α) : Prop := ∀ w z w', s.run P w = .ok z w' → ∀ u, s.run P u = .ok z u
def Never (P : Program) {α : Type} (s : Sem α) : Prop := ∀ w z w', s.run P w ≠ .ok z w'

section
variable {P : Program} {α β : Type}
theorem Never.steady {s : Sem α} (h : Never P s) : Steady P s := fun w z w' e => absurd e (h w z w')
theorem steady_pure (x : α) : Steady P (pure x : Sem α) := fun w z w' h u => by
  simp at h
  simp [h.1]
theorem never_halt (x : Halt) : Never P (.halt x : Sem α) := fun w z w' h => by cases h
theorem never_stuck (x : String) : Never P (stuck x : Sem α) := never_halt _
theorem never_unsupported (x : Unsupported) : Never P (unsupported x : Sem α) := never_halt _
theorem steady_bind {s : Sem α} {f : α → Sem β} (hs : Steady P s) (hf : ∀ z, Steady P (f z)) : Steady P (s >>= f) := fun w z w' h u => by
  simp only [Sem.run_bind] at h ⊢
  cases hr : s.run P w with
  | halt x w1 => rw [hr] at h; cases h
  | ok y w1 =>
    rw [hr] at h
    simp only [Result.andThen_ok] at h
    rw [hs w y w1 hr u]
    simp only [Result.andThen_ok]
    exact hf y w1 z w' h u
theorem never_bind {s : Sem α} {f : α → Sem β} (hf : ∀ z, Never P (f z)) : Never P (s >>= f) := fun w z w' h => by
  simp only [Sem.run_bind] at h
  cases hr : s.run P w with
  | halt x w1 => rw [hr] at h; cases h
  | ok y w1 => rw [hr] at h; simp only [Result.andThen_ok] at h; exact hf y w1 z w' h
theorem steady_program : Steady P program := fun w z w' h u => by
  have e : ∀ w, program.run P w = .ok P w := fun w => by simp
  rw [e] at h
  injection h with h1 h2
  rw [e, h1]
theorem steady_underlying (t : TypeId) : Steady P (underlying t) := by
  unfold underlying
  refine steady_bind steady_program fun p => ?_
  split
  · exact steady_pure _
  · exact (never_stuck _).steady
theorem steady_typeInfo (t : TypeId) : Steady P (typeInfo t) := by
  unfold typeInfo
  refine steady_bind steady_program fun p => ?_
  split
  · exact steady_pure _
  · exact (never_stuck _).steady
theorem steady_sizeOf (t : TypeId) : Steady P (sizeOf t) := steady_bind (steady_typeInfo t) fun _ => steady_pure _
theorem never_panic (e : RuntimeError) : Never P (runtimePanic e : Sem α) := by
  unfold runtimePanic
  refine never_bind fun p => ?_
  cases e <;> first | exact never_halt _ | exact never_bind fun _ => never_bind fun _ => never_halt _
theorem never_bounds (k : IntKind) (x y : Int) (c : BoundsCode) : Never P (boundsPanic k x y c : Sem α) := by
  unfold boundsPanic
  dsimp only
  split <;> exact never_bind fun _ => never_panic _
theorem steady_asIntOf (v : Value) : Steady P (asIntOf v) := by
  unfold asIntOf
  split
  · exact steady_pure _
  · exact (never_unsupported _).steady
  · exact (never_stuck _).steady
theorem steady_sureAddr (v : Value) : Steady P (Instr.sureAddr v) := by
  unfold Instr.sureAddr
  split
  · exact steady_pure _
  · exact (never_stuck _).steady
theorem steady_asAddr (v : Value) : Steady P (asAddr v) := by
  unfold asAddr
  split
  · exact steady_pure _
  · exact (never_panic _).steady
  · exact (never_stuck _).steady
theorem steady_sliceBound (x : Value) (y : Nat) (c : BoundsCode) : Steady P (Instr.sliceBound x y c) := by
  unfold Instr.sliceBound
  refine steady_bind (steady_asIntOf x) fun ki => ?_
  obtain ⟨k, i⟩ := ki
  simp only
  split
  · exact steady_pure _
  · exact (never_bounds _ _ _ _).steady
theorem steady_sliceBounds (b : Bool) (len cap : Nat) (lo hi mx : Option Value) : Steady P (Instr.sliceBounds b len cap lo hi mx) := by
  unfold Instr.sliceBounds
  cases mx <;> cases hi <;> cases lo <;> dsimp only
  all_goals repeat first
    | exact steady_pure _
    | exact (never_stuck _).steady
    | refine steady_bind (steady_sliceBound _ _ _) fun _ => ?_
    | refine steady_bind (steady_pure _) fun _ => ?_
    | refine steady_bind (never_stuck _).steady fun _ => ?_
theorem steady_slice (t : TypeId) (x : Value) (lo hi mx : Option Value) : Steady P (Instr.slice t x lo hi mx) := by
  unfold Instr.slice
  refine steady_bind (steady_underlying t) fun d => ?_
  split
  · split
    · exact (never_stuck _).steady
    · exact steady_bind (steady_sliceBounds _ _ _ _ _ _) fun _ => steady_pure _
  · exact steady_bind (steady_sliceBounds _ _ _ _ _ _) fun _ => steady_bind (steady_sizeOf _) fun _ => steady_pure _
  · refine steady_bind (steady_asAddr _) fun a => steady_bind (steady_underlying _) fun d => ?_
    split
    · exact steady_bind (steady_sliceBounds _ _ _ _ _ _) fun _ => steady_bind (steady_sizeOf _) fun _ => steady_pure _
    · exact (never_stuck _).steady
  · exact (never_stuck _).steady
theorem steady_sliceAt (t : TypeId) (x : Value) (lo hi mx : Option Value) : Steady P (Instr.sliceAt t x lo hi mx) := by
  unfold Instr.sliceAt
  refine steady_bind (steady_underlying t) fun d => ?_
  split
  · exact steady_bind (steady_sureAddr _) fun a => steady_bind (steady_sliceBounds _ _ _ _ _ _) fun _ => steady_bind (steady_sizeOf _) fun _ => steady_pure _
  · exact steady_slice _ _ _ _ _
end

theorem b_false (b : Bool) : (b == false) = !b := by cases b <;> rfl
theorem b_true (b : Bool) : (b == true) = b := by cases b <;> rfl

end Go.Abs
