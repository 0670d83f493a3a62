/- Small laws for walks. -/
import Derived.Test.YtmgfmhipkgbooaaA17
set_option linter.unusedVariables false
set_option linter.unusedSimpArgs false
namespace Go.Abs
open Go Go.RowKit

theorem sureK (n c : Nat) : sureSlice n (.known c) = true := rfl
theorem sureG (n sz : Nat) : sureSlice n (.grow sz) = decide (0 < n) := rfl

/-- One cell is stored. -/
theorem store_one {P : Program} {t : TypeId} {i o : Nat} {v : AV} {H : AH} {l : List AV} (ht : sizeA P t = some 1) (hv : oneA v = true) (hc : H.cells? i = some l) (ho : o < l.length) :
    storeA P t ⟨false, i, o⟩ v H = some (H.set i (some (.cells (l.set o v)))) := by
  have : cellsA v = some [v] := by cases v <;> simp_all [cellsA, oneA]
  simp [storeA, this, ht, storeCellsA, hv, hc, ho]

/-- One cell is read. -/
theorem load_one {P : Program} {t : TypeId} {a : AAddr} {v : AV} {H : AH} {l : List AV} (ht : aggA P t = some false) (hc : H.get a = some l) (ho : l[a.off]? = some v) : loadA P t a H = some v := by
  simp [loadA, hc, partA, ht, ho]

/-- Many cells are stored. -/
theorem storeCells_many {i : Nat} : ∀ (vs : List AV) (o : Nat) (H : AH) (l : List AV), vs.all oneA = true → H.cells? i = some l → o + vs.length ≤ l.length → storeCellsA H i o vs = some (H.set i (some (.cells (l.take o ++ vs ++ l.drop (o + vs.length)))))
  | [], o, H, l, _, hc, _ => by
    simp only [storeCellsA, List.append_nil, List.length_nil, Nat.add_zero, List.take_append_drop]
    have h := cells?_some hc
    congr 1
    obtain ⟨ro, rw'⟩ := H
    simp only [AH.set, AH.mk.injEq, true_and]
    apply List.ext_getElem?
    intro j
    rw [List.getElem?_set]
    split
    · rename_i hj
      subst hj
      split
      · exact h
      · rename_i h1; exact absurd (lt_of_get h) h1
    · rfl
  | v :: vs, o, H, l, ha, hc, ho => by
    simp only [List.all_cons, Bool.and_eq_true] at ha
    simp only [List.length_cons] at ho
    have h1 : o < l.length := by omega
    simp only [storeCellsA, ha.1, if_true, hc, Option.bind_some]
    rw [if_pos h1, storeCells_many vs (o + 1) _ (l.set o v) ha.2 (set_cells H _ (cells_lt hc)) (by simp; omega), set_set]
    congr 4
    have e1 : (l.set o v).take (o + 1) = l.take o ++ [v] := by
      rw [List.take_add_one, List.take_set_of_le (by omega)]
      simp [h1]
    have e2 : (l.set o v).drop (o + 1 + vs.length) = l.drop (o + (v :: vs).length) := by
      rw [List.drop_set_of_lt (by omega)]
      congr 1
      simp; omega
    rw [e1, e2]
    simp

theorem set_take_drop {α : Type} {l : List α} {o : Nat} {v : α} (h : o < l.length) : l.set o v = l.take o ++ v :: l.drop (o + 1) := by
  rw [List.set_eq_take_append_cons_drop, if_pos h]

/-! What an operation does at values that are known. -/
section
variable {P : Program} {t : TypeId} {k : IntKind} {a b : Int} {H : AH}

theorem bin_add : binA P .add t (.int k a) (.int k b) = some (.int k (k.wrap (a + b))) := by simp [binA, intOpA]
theorem bin_sub : binA P .sub t (.int k a) (.int k b) = some (.int k (k.wrap (a - b))) := by simp [binA, intOpA]
theorem bin_mul : binA P .mul t (.int k a) (.int k b) = some (.int k (k.wrap (a * b))) := by simp [binA, intOpA]
theorem bin_quo : binA P .quo t (.int k a) (.int k b) = if b = 0 then none else some (.int k (k.wrap (a.tdiv b))) := by simp [binA, intOpA]
theorem bin_rem : binA P .rem t (.int k a) (.int k b) = if b = 0 then none else some (.int k (a.tmod b)) := by simp [binA, intOpA]
theorem bin_and : binA P .and t (.int k a) (.int k b) = some (.int k (k.wrap ((BitVec.ofInt k.bits a &&& BitVec.ofInt k.bits b).toNat))) := by simp [binA, intOpA]
theorem bin_or : binA P .or t (.int k a) (.int k b) = some (.int k (k.wrap ((BitVec.ofInt k.bits a ||| BitVec.ofInt k.bits b).toNat))) := by simp [binA, intOpA]
theorem bin_xor : binA P .xor t (.int k a) (.int k b) = some (.int k (k.wrap ((BitVec.ofInt k.bits a ^^^ BitVec.ofInt k.bits b).toNat))) := by simp [binA, intOpA]
theorem bin_andNot : binA P .andNot t (.int k a) (.int k b) = some (.int k (k.wrap ((BitVec.ofInt k.bits a &&& ~~~BitVec.ofInt k.bits b).toNat))) := by simp [binA, intOpA]
theorem bin_eql : binA P .eql t (.int k a) (.int k b) = some (.bool (decide (a = b))) := by
  simp only [binA, intOpA, if_true]
  rfl
theorem bin_neq : binA P .neq t (.int k a) (.int k b) = some (.bool (decide (¬ a = b))) := by
  simp only [binA, intOpA, if_true]
  congr 2
  by_cases h : a = b <;> simp [h]
theorem bin_lss : binA P .lss t (.int k a) (.int k b) = some (.bool (decide (a < b))) := by simp [binA, intOpA]
theorem bin_leq : binA P .leq t (.int k a) (.int k b) = some (.bool (decide (a ≤ b))) := by simp [binA, intOpA]
theorem bin_gtr : binA P .gtr t (.int k a) (.int k b) = some (.bool (decide (a > b))) := by simp [binA, intOpA]
theorem bin_geq : binA P .geq t (.int k a) (.int k b) = some (.bool (decide (a ≥ b))) := by simp [binA, intOpA]
theorem bin_shl {k' : IntKind} : binA P .shl t (.int k a) (.int k' b) = if b < 0 then none else some (.int k (k.wrap (a * 2 ^ min b.toNat k.bits))) := by simp [binA, shiftA]
theorem bin_shr {k' : IntKind} : binA P .shr t (.int k a) (.int k' b) = if b < 0 then none else some (.int k (a.fdiv (2 ^ min b.toNat k.bits))) := by simp [binA, shiftA]
theorem bin_str {op : BinOp} {x y : ByteArray} : binA P op t (.str x) (.str y) = strOpA op x y := by simp [binA]
theorem str_eql {x y : ByteArray} : strOpA .eql x y = some (.bool (x.toList == y.toList)) := rfl
theorem str_neq {x y : ByteArray} : strOpA .neq x y = some (.bool !(x.toList == y.toList)) := rfl
theorem str_lss {x y : ByteArray} : strOpA .lss x y = some (.bool (Op.bytesLess x.toList y.toList)) := rfl
theorem un_neg : unA .neg (.int k a) = some (.int k (k.wrap (0 - a))) := rfl
theorem un_not {x : Bool} : unA .not (.bool x) = some (.bool !x) := rfl
theorem un_xor : unA .xor (.int k a) = some (.int k (k.wrap ((BitVec.ofInt k.bits (if k.signed then -1 else k.max) ^^^ BitVec.ofInt k.bits a).toNat))) := rfl

theorem bin_bool (h : P.underlying t = some .bool) {x y : Bool} : binA P .eql t (.bool x) (.bool y) = some (.bool (x == y)) := by simp [binA, h, eqA]
theorem bin_boolne (h : P.underlying t = some .bool) {x y : Bool} : binA P .neq t (.bool x) (.bool y) = some (.bool (!(x == y))) := by simp [binA, h, eqA]

variable {e : TypeId} {sz by' : Nat} {z : List AV} {p : AAddr} {n c : Nat} {cp : Cap}
theorem len_slice (h : P.underlying t = some (.slice e)) : lenA P t (.slice p n cp) = some (.int .i64 n) := by simp [lenA, h]
theorem len_nil (h : P.underlying t = some (.slice e)) : lenA P t .nilslice = some (.int .i64 0) := by simp [lenA, h]
theorem len_str (h : P.underlying t = some .string) {s : ByteArray} : lenA P t (.str s) = some (.int .i64 s.size) := by simp [lenA, h]
theorem len_arr (h : P.underlying t = some (.array n e)) {v : AV} : lenA P t v = some (.int .i64 n) := by simp [lenA, h]
theorem ixa_slice (h : P.underlying t = some (.slice e)) (hs : sizeA P e = some sz) : indexAddrA P t (.slice p n cp) (.int k a) = if 0 ≤ a ∧ a < n then some (.ptr ⟨p.ro, p.blk, p.off + a.toNat * sz⟩) else none := by simp [indexAddrA, h, hs]
theorem ixa_arr (h : P.underlying t = some (.array n e)) (hs : sizeA P e = some sz) : indexAddrA P t (.ptr p) (.int k a) = if 0 ≤ a ∧ a < n then some (.ptr ⟨p.ro, p.blk, p.off + a.toNat * sz⟩) else none := by simp [indexAddrA, h, hs]
theorem slc_known (h : P.underlying t = some (.slice e)) (hs : sizeA P e = some sz) {lo hi mx : Option AV} : sliceOpA P t (.slice p n (.known c)) lo hi mx = cutKnown p sz n c lo hi mx := by simp [sliceOpA, h, hs]
theorem slc_grow (h : P.underlying t = some (.slice e)) (hs : sizeA P e = some sz) {lo hi : Option AV} : sliceOpA P t (.slice p n (.grow sz)) lo hi none = if p.ro = false then (optB hi n n).bind fun h => (optB lo h 0).map fun l => .slice ⟨false, p.blk, p.off + l * sz⟩ (h - l) (.grow sz) else none := by simp [sliceOpA, h, hs]
theorem slc_nil (h : P.underlying t = some (.slice e)) (hs : sizeA P e = some sz) {lo hi : Option AV} : sliceOpA P t .nilslice lo hi none = (optB hi 0 0).bind fun h => (optB lo h 0).map fun _ => .nilslice := by simp [sliceOpA, h, hs, optB]
theorem slc_arr (h : P.underlying t = some (.array n e)) (hs : sizeA P e = some sz) {lo hi mx : Option AV} : sliceOpA P t (.ptr p) lo hi mx = cutKnown p sz n n lo hi mx := by simp [sliceOpA, h, hs]
theorem slc_str (h : P.underlying t = some .string) {s : ByteArray} {lo hi : Option AV} : sliceOpA P t (.str s) lo hi none = (optB hi s.size s.size).bind fun h => (optB lo h 0).map fun l => .str (s.extract l h) := by simp [sliceOpA, h]
theorem cut_all {lo hi : Option AV} : cutKnown p sz n c lo hi none = (optB hi c n).bind fun h => (optB lo h 0).map fun l => cutA p sz l h c := by simp [cutKnown, optB]
theorem opt_some {x : Int} {y d : Nat} : optB (some (.int k x)) y d = if 0 ≤ x ∧ x ≤ y then some x.toNat else none := rfl
theorem opt_none {y d : Nat} : optB none y d = some d := rfl
theorem make_slice (h : P.underlying t = some (.slice e)) (hs : sizeA P e = some sz) (hb : bytesA P e = some by') (hz : zeroA P e = some z) (hl : z.length = sz ∧ 0 < sz) {k' : IntKind} : makeSliceA P t (.int k a) (.int k' b) H =
    if 0 ≤ a ∧ a ≤ b ∧ b ≤ 140737488355328 ∧ b * by' ≤ 140737488355328 then some (.slice ⟨false, H.n, 0⟩ a.toNat (.known b.toNat), H.push (some (.cells (repA z b.toNat)))) else none := by
  simp only [makeSliceA, h, hs, hb, hz, Option.bind_some, hl.1, hl.2, and_true]
theorem build_slice (h : P.underlying t = some (.slice e)) (hs : sizeA P e = some sz) (hz : zeroA P e = some z) (hl : z.length = sz ∧ 0 < sz) {len : Nat} {parts : List (Nat × AV)} (hlen : len * sz ≤ 16777216) : buildSliceA P t len parts H =
    (fillA (fun i => some (i * sz, sz)) (repA z len) parts).map fun cells => (.slice ⟨false, H.n, 0⟩ len (.known len), H.push (some (.cells cells))) := by
  simp only [buildSliceA, h, hs, hz, Option.bind_some, hl.1, hl.2, hlen, and_true, if_true]
theorem load_cell (h : aggA P t = some false) : loadA P t p H = (H.get p).bind fun cs => cs[p.off]? := by simp [loadA, partA, h]
theorem load_agg (h : aggA P t = some true) (hs : sizeA P t = some sz) : loadA P t p H = (H.get p).bind fun cs => if p.off + sz ≤ cs.length then some (.agg ((cs.drop p.off).take sz)) else none := by simp [loadA, partA, h, hs]
theorem store_cell (hs : sizeA P t = some 1) {v : AV} (hv : oneA v = true) {i o : Nat} : storeA P t ⟨false, i, o⟩ v H = (H.cells? i).bind fun l => if o < l.length then some (H.set i (some (.cells (l.set o v)))) else none := by
  have : cellsA v = some [v] := by cases v <;> simp_all [cellsA, oneA]
  simp [storeA, this, hs, storeCellsA, hv]
theorem store_agg {vs : List AV} (hs : sizeA P t = some sz) (hl : vs.length = sz) {i o : Nat} : storeA P t ⟨false, i, o⟩ (.agg vs) H = storeCellsA H i o vs := by
  simp [storeA, cellsA, hs, hl]
theorem conv_int (ht : P.underlying t = some (.int k)) {s : TypeId} {k' : IntKind} (hs : (P.underlying s).isSome = true) : convertA P s t (.int k' a) H = some (.int k (k.wrap a), H) := by
  obtain ⟨d, hd⟩ := Option.isSome_iff_exists.1 hs
  simp [convertA, ht, hd]
theorem conv_text {s : TypeId} (hs : P.underlying s = some (.slice e)) (ht : P.underlying t = some .string) (he : P.underlying e = some (.int .u8)) : convertA P s t (.slice p n cp) H = (rowA H 1 (.slice p n cp)).bind fun cs => (bytesOfA cs).map fun bs => (.str ⟨bs.toArray⟩, H) := by
  simp [convertA, hs, ht, he]
theorem conv_text_nil {s : TypeId} (hs : P.underlying s = some (.slice e)) (ht : P.underlying t = some .string) (he : P.underlying e = some (.int .u8)) : convertA P s t .nilslice H = some (.str ⟨#[]⟩, H) := by
  simp [convertA, hs, ht, he, rowA, bytesOfA]
theorem app_slice (h : P.underlying t = some (.slice e)) (hs : sizeA P e = some sz) (hb : bytesA P e = some by') (hz : zeroA P e = some z) (hl : z.length = sz ∧ 0 < sz) {s x : AV} : appendA P t t s x H =
    (newsA H sz x).bind fun kn => if kn.2.all oneA = true then appendTo sz by' H kn.1 kn.2 s else none := by
  simp only [appendA, h, hs, hb, hz, Option.bind_some, hl.1, hl.2, and_self, if_true, moreA]
theorem app_str (h : P.underlying t = some (.slice e)) (hs : sizeA P e = some sz) (hb : bytesA P e = some by') (hz : zeroA P e = some z) (hl : z.length = sz ∧ 0 < sz) {xt : TypeId} (hx : P.underlying xt = some .string) {s x : AV} : appendA P t xt s x H =
    (newsA H sz x).bind fun kn => if kn.2.all oneA = true then appendTo sz by' H kn.1 kn.2 s else none := by
  simp only [appendA, h, hs, hb, hz, Option.bind_some, hl.1, hl.2, and_self, if_true, moreA, hx]
theorem copy_slice (h : P.underlying t = some (.slice e)) (hs : sizeA P e = some sz) {x : AV} : copyA P t (.slice p n cp) x H = (newsA H sz x).bind fun kn => if p.ro = false ∧ (H.cells? p.blk).isSome then (storeCellsA H p.blk p.off (kn.2.take (min kn.1 n * sz))).map fun H' => (.int .i64 (min kn.1 n : Nat), H') else none := by
  simp only [copyA, h, hs, Option.bind_some]
theorem copy_nil (h : P.underlying t = some (.slice e)) (hs : sizeA P e = some sz) {x : AV} : copyA P t .nilslice x H = (newsA H sz x).bind fun kn => some (.int .i64 0, H) := by
  simp only [copyA, h, hs, Option.bind_some]
theorem ix_arr (h : P.underlying t = some (.array n e)) (hs : sizeA P e = some sz) {cs : List AV} : indexA P t (.agg cs) (.int k a) = if 0 ≤ a ∧ a < n then partA P e cs (a.toNat * sz) else none := by simp [indexA, h, hs]
theorem ix_str (h : P.underlying t = some .string) {s : ByteArray} : indexA P t (.str s) (.int k a) = if 0 ≤ a then (s[a.toNat]?).map fun b => .int .u8 b.toNat else none := by simp [indexA, h]
theorem part_cell (h : aggA P t = some false) {cs : List AV} {o : Nat} : partA P t cs o = cs[o]? := by simp [partA, h]
theorem part_agg (h : aggA P t = some true) (hs : sizeA P t = some sz) {cs : List AV} {o : Nat} : partA P t cs o = if o + sz ≤ cs.length then some (.agg ((cs.drop o).take sz)) else none := by simp [partA, h, hs]
theorem eq_nil_slice (h : P.underlying t = some (.slice e)) : binA P .eql t (.slice p n cp) .nilslice = if sureSlice n cp then some (.bool false) else none := by
  simp only [binA, h, Option.bind_some, eqA]; split <;> rfl
theorem ne_nil_slice (h : P.underlying t = some (.slice e)) : binA P .neq t (.slice p n cp) .nilslice = if sureSlice n cp then some (.bool true) else none := by
  simp only [binA, h, Option.bind_some, eqA]; split <;> rfl
theorem eq_nil_nil (h : P.underlying t = some (.slice e)) : binA P .eql t .nilslice .nilslice = some (.bool true) := by simp [binA, h, eqA]
theorem ne_nil_nil (h : P.underlying t = some (.slice e)) : binA P .neq t .nilslice .nilslice = some (.bool false) := by simp [binA, h, eqA]
theorem eq_ptr_nil (h : P.underlying t = some (.pointer e)) : binA P .eql t (.ptr p) .nilptr = some (.bool false) := by simp [binA, h, eqA]
theorem ne_ptr_nil (h : P.underlying t = some (.pointer e)) : binA P .neq t (.ptr p) .nilptr = some (.bool true) := by simp [binA, h, eqA]
theorem eq_nilptr (h : P.underlying t = some (.pointer e)) : binA P .eql t .nilptr .nilptr = some (.bool true) := by simp [binA, h, eqA]
theorem ne_nilptr (h : P.underlying t = some (.pointer e)) : binA P .neq t .nilptr .nilptr = some (.bool false) := by simp [binA, h, eqA]
theorem fa_struct {fs : Array Field} (h : P.underlying t = some (.struct fs)) {f o : Nat} {ft : TypeId} (hf : (fs[f]?).map (fun x => (x.type, x.offset)) = some (ft, o)) {m : Nat} (hs : sizeA P ft = some (m + 1)) : fieldAddrA P t (.ptr p) f = some (.ptr ⟨p.ro, p.blk, p.off + o⟩) := by
  obtain ⟨x, hx, h2⟩ := Option.map_eq_some_iff.1 hf
  obtain ⟨rfl, rfl⟩ := Prod.mk.inj h2
  simp only [fieldAddrA, h, hx, Option.bind_some, hs]
  rw [if_neg (by simp)]
theorem fl_struct {fs : Array Field} (h : P.underlying t = some (.struct fs)) {f o : Nat} {ft : TypeId} (hf : (fs[f]?).map (fun x => (x.type, x.offset)) = some (ft, o)) {cs : List AV} : fieldA P t (.agg cs) f = partA P ft cs o := by
  obtain ⟨x, hx, h2⟩ := Option.map_eq_some_iff.1 hf
  obtain ⟨rfl, rfl⟩ := Prod.mk.inj h2
  simp only [fieldA, h, hx, Option.bind_some]
end

theorem shr_nat (n m : Nat) : (n : Int).fdiv (2 ^ m) = ((n / 2 ^ m : Nat) : Int) := by
  rw [Int.fdiv_eq_ediv_of_nonneg _ (Int.pow_nonneg (by omega))]
  push_cast
  rfl

/-- A byte made of a number. -/
theorem byte_bv (m : Nat) : AV.int .u8 (IntKind.u8.wrap (m : Int)) = bv (UInt8.ofNat m) := by
  simp only [bv, IntKind.wrap_u8, UInt8.toNat_ofNat']
  congr 1

theorem two_pow_bytes (k : Nat) : 2 ^ (8 * k) = 256 ^ k := by rw [Nat.pow_mul]

theorem bv_zero : AV.int .u8 0 = bv 0 := rfl

theorem thenA_exit (next : AFr → AH → Prop) (Q : Exit → AFr → AH → Prop) (i : Nat) (fr : AFr) (H : AH) : thenA next Q (.exit i) fr H = Q (.exit i) fr H := rfl
theorem thenA_ret (next : AFr → AH → Prop) (Q : Exit → AFr → AH → Prop) (fr : AFr) (H : AH) : thenA next Q .ret fr H = Q .ret fr H := rfl

/-- A row that is being filled from the front. -/
theorem fill_set {α : Type} {l : List α} {m i : Nat} {z v : α} (hm : i < m) (hv : l[i]? = some v) : (l.take i ++ List.replicate (m - i) z).set i v = l.take (i + 1) ++ List.replicate (m - (i + 1)) z := by
  have hl : (l.take i).length = i := by have := lt_of_get hv; simp; omega
  rw [show m - i = (m - (i + 1)) + 1 by omega, List.replicate_succ, List.set_append_right _ _ (by omega), hl, Nat.sub_self, List.set_cons_zero, List.take_add_one, hv]
  simp

/-- A row that is being filled from the end. -/
theorem fill_back {α : Type} {l : List α} {i : Nat} {z v : α} (hv : l[i]? = some v) : (List.replicate (i + 1) z ++ l.drop (i + 1)).set i v = List.replicate i z ++ l.drop i := by
  have hi := lt_of_get hv
  rw [List.replicate_succ', List.append_assoc, List.set_append_right _ _ (by simp)]
  simp only [List.length_replicate, Nat.sub_self, List.cons_append, List.nil_append, List.set_cons_zero]
  rw [List.drop_eq_getElem_cons hi]
  congr 2
  rw [List.getElem?_eq_getElem hi] at hv
  injection hv with hv
  exact hv.symm

theorem byte_rem (q : Nat) : AV.int .u8 (IntKind.u8.wrap ((q : Int) % 256)) = bv (UInt8.ofNat q) := by
  simp only [bv, IntKind.wrap_u8, UInt8.toNat_ofNat']
  congr 1
  omega

theorem IsBytes.sure {H : AH} {v : AV} {xs : List UInt8} (h : IsBytes H v xs) (h0 : 0 < xs.length) : ∃ a n c, v = .slice a n c ∧ sureSlice n c = true := by
  rcases h.elim with ⟨_, rfl⟩ | ⟨a, c, cs, rfl, _, _, _⟩
  · simp at h0
  · exact ⟨a, _, c, rfl, by cases c <;> simp [sureSlice, h0]⟩

theorem sl_grow {i n : Nat} : isSl (.slice ⟨false, i, 0⟩ n (.grow 1)) = true := rfl

/-! parts of a function's code -/
def restC : Nat → Code → Code
  | n + 1, .seq _ c => restC n c
  | _, c => c
def headC : Code → Code
  | .seq c _ => c
  | c => c
def bodyC (f : Func) : Code := f.body.getD .skip
/-- What a function's code comes to at its end. -/
def postA (P : Program) (fn : Func) (Q : AV → AH → Prop) : Exit → AFr → AH → Prop := fun e fr H' => (e = .normal ∨ e = .ret) ∧ ∃ vs, aresults P fr H' fn.results.toList = some vs ∧ Q (tupA vs) H'

end Go.Abs
