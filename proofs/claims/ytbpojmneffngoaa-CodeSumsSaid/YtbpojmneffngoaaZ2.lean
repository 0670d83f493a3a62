import Derived.Test.YtbpojmneffngoaaZ1
import Derived.ProofKit
import Derived.OpenShut
import Derived.ChangeOld
import Derived.SizedLaws
import Derived.OrdersHeld
import Derived.ChangeArms
import Derived.DataReads
set_option linter.unusedVariables false
set_option linter.unusedSimpArgs false
namespace Go.Abs
open Go Go.RowKit Go.ChangeShapes Go.WideShapes
def AH.init (w : World) : AH :=
  .base fun B => match w.heap[B]? with | some (.cells cs _ _) => absL w.heap.size cs.toList | _ => []
theorem absL_get (b : Nat) : ∀ (l : List Value) (k : Nat), (absL b l)[k]? = (l[k]?).map (absV b)
  | [], k => by simp [absL]
  | v :: l, k => by
    cases k with
    | zero => simp [absL]
    | succ k => simp [absL, absL_get b l k]
theorem init_get {w : World} {B k : Nat} {v : Value} (h : w.cell? ⟨B, k, none⟩ = some v) : ((AH.init w).ro B)[k]? = some (absV w.heap.size v) := by
  unfold World.cell? at h
  simp only [AH.init, AH.base]
  split at h
  · rename_i c _ _ hb
    rw [hb]
    simp only [Option.isSome_none, Bool.false_eq_true, if_false] at h
    simp only
    rw [absL_get, Array.getElem?_toList, h]
    rfl
  · cases h
theorem init_rep (w : World) : Rep w [] (AH.init w) w where
  below := Below.refl _ _
  ro := fun B hB k v hk => by
    simp only [AH.init, AH.base] at hk
    split at hk
    · rename_i c t f hb
      rw [absL_get, Array.getElem?_toList] at hk
      obtain ⟨x, hx, rfl⟩ := Option.map_eq_some_iff.1 hk
      exact ⟨x, by simp [World.cell?, hb, hx], rfl⟩
    · simp at hk
  len := rfl
  blk := fun i l h => by simp [AH.init, AH.base] at h
  nomap := fun i es h => by simp [AH.init, AH.base] at h
  gone := fun i h => by simp [AH.init, AH.base] at h
  inj := fun i j B O m O' m' h => by simp at h
  locs := fun i B O m h => by simp at h
theorem law_calls {P : Program} {f : FuncId} {W : World} {args : Array Value} (he : enters P f = true) (h : ASpec P f (absL W.heap.size args.toList) (AH.init W) fun r _ => r = .bool true) :
    Calls P f args W fun e w' => e = .returned (.bool true) ∧ Below W.heap.size W w' := by
  have key : Calls P f args W fun e w' => ∃ v, e = .returned v ∧ ∃ r H' ι', RV W.heap.size ι' r v ∧ Rep W ι' H' w' ∧ Ext [] (AH.init W) W ι' H' w' ∧ r = .bool true := by
    rcases h W [] W args (init_rep W) (RVL_abs [] (Nat.le_refl _) _) with ⟨_, hc⟩ | ⟨v, w', hr, _⟩
    · exact hc
    · rw [enters_run he] at hr
      injection hr with h1 h2
      cases h1
  refine key.mono fun e w' ⟨v, h1, r, H', ι', h2, h3, h4, h5⟩ => ?_
  subst h1 h5
  unfold RV at h2
  subst h2
  exact ⟨rfl, h3.below⟩
abbrev bv (x : UInt8) : AV := .int .u8 x.toNat
def isSl : AV → Bool
  | .nilslice => true
  | .slice _ n (.known c) => decide (n ≤ c)
  | .slice a _ (.grow g) => decide (g = 1) && !a.ro
  | _ => false
structure IsBytes (H : AH) (v : AV) (xs : List UInt8) : Prop where
  row : rowA H 1 v = some (xs.map bv)
  len : slen v = xs.length
  sl : isSl v = true
structure IsNums (k : IntKind) (H : AH) (v : AV) (xs : List Int) : Prop where
  row : rowA H 1 v = some (xs.map (AV.int k))
  len : slen v = xs.length
  sl : isSl v = true
theorem absAddr_of {b : Nat} {a : Addr} (h1 : a.block < b) (h2 : a.spot = none) : absAddr b a = some ⟨true, a.block, a.off⟩ := by
  unfold absAddr; rw [if_pos ⟨h1, h2⟩]
end Go.Abs
set_option linter.unusedVariables false
set_option linter.unusedSimpArgs false
namespace Go.Abs
open Go Go.RowKit
mutual
def plainA : AV → Bool
  | .bool _ | .int .. | .str _ | .nilptr | .nilslice | .nilfunc | .nilif | .nilmap => true
  | .agg l => plainL l
  | .tup l => plainL l
  | _ => false
def plainL : List AV → Bool
  | [] => true
  | x :: l => plainA x && plainL l
end
def flatA (x : AV) : Bool := plainA x
mutual
theorem RV_plain {b b' : Nat} {ι ι' : List Loc} : {x : AV} → {v : Value} → plainA x = true → RV b ι x v → RV b' ι' x v
  | .bool _, _, _, hv => by unfold RV at *; exact hv
  | .int .., _, _, hv => by unfold RV at *; exact hv
  | .str _, _, _, hv => by unfold RV at *; exact hv
  | .nilptr, _, _, hv => by unfold RV at *; exact hv
  | .nilslice, _, _, hv => by unfold RV at *; exact hv
  | .nilfunc, _, _, hv => by unfold RV at *; exact hv
  | .nilif, _, _, hv => by unfold RV at *; exact hv
  | .nilmap, _, _, hv => by unfold RV at *; exact hv
  | .agg l, _, h, hv => by
    unfold RV at *
    obtain ⟨cs, h1, h2⟩ := hv
    exact ⟨cs, h1, RVL_plain (by simpa [plainA] using h) h2⟩
  | .tup l, _, h, hv => by
    unfold RV at *
    obtain ⟨cs, h1, h2⟩ := hv
    exact ⟨cs, h1, RVL_plain (by simpa [plainA] using h) h2⟩
  | .unk, _, h, _ => by simp [plainA] at h
  | .ptr _, _, h, _ => by simp [plainA] at h
  | .slice .., _, h, _ => by simp [plainA] at h
  | .func .., _, h, _ => by simp [plainA] at h
  | .iface .., _, h, _ => by simp [plainA] at h
  | .map _, _, h, _ => by simp [plainA] at h
  | .yld _, _, h, _ => by simp [plainA] at h
theorem RVL_plain {b b' : Nat} {ι ι' : List Loc} : {l : List AV} → {ys : List Value} → plainL l = true → RVL b ι l ys → RVL b' ι' l ys
  | [], ys, _, hv => by unfold RVL at *; exact hv
  | x :: l, ys, h, hv => by
    simp only [plainL, Bool.and_eq_true] at h
    unfold RVL at *
    obtain ⟨y, m, h1, h2, h3⟩ := hv
    exact ⟨y, m, h1, RV_plain h.1 h2, RVL_plain h.2 h3⟩
end
mutual
theorem RV_plain_eq {b b' : Nat} {ι ι' : List Loc} : {x : AV} → {v v' : Value} → plainA x = true → RV b ι x v → RV b' ι' x v' → v' = v
  | .bool _, _, _, _, hv, hv' => by unfold RV at hv hv'; rw [hv, hv']
  | .int .., _, _, _, hv, hv' => by unfold RV at hv hv'; rw [hv, hv']
  | .str _, _, _, _, hv, hv' => by unfold RV at hv hv'; rw [hv, hv']
  | .nilptr, _, _, _, hv, hv' => by unfold RV at hv hv'; rw [hv, hv']
  | .nilslice, _, _, _, hv, hv' => by unfold RV at hv hv'; rw [hv, hv']
  | .nilfunc, _, _, _, hv, hv' => by unfold RV at hv hv'; rw [hv, hv']
  | .nilif, _, _, _, hv, hv' => by unfold RV at hv hv'; rw [hv, hv']
  | .nilmap, _, _, _, hv, hv' => by unfold RV at hv hv'; rw [hv, hv']
  | .agg l, _, _, h, hv, hv' => by
    unfold RV at hv hv'
    obtain ⟨cs, h1, h2⟩ := hv
    obtain ⟨cs', h1', h2'⟩ := hv'
    have e := RVL_plain_eq (by simpa [plainA] using h) h2 h2'
    rw [h1, h1', ← cs.toArray_toList, ← cs'.toArray_toList, e]
  | .tup l, _, _, h, hv, hv' => by
    unfold RV at hv hv'
    obtain ⟨cs, h1, h2⟩ := hv
    obtain ⟨cs', h1', h2'⟩ := hv'
    have e := RVL_plain_eq (by simpa [plainA] using h) h2 h2'
    rw [h1, h1', ← cs.toArray_toList, ← cs'.toArray_toList, e]
  | .unk, _, _, h, _, _ => by simp [plainA] at h
  | .ptr _, _, _, h, _, _ => by simp [plainA] at h
  | .slice .., _, _, h, _, _ => by simp [plainA] at h
  | .func .., _, _, h, _, _ => by simp [plainA] at h
  | .iface .., _, _, h, _, _ => by simp [plainA] at h
  | .map _, _, _, h, _, _ => by simp [plainA] at h
  | .yld _, _, _, h, _, _ => by simp [plainA] at h
theorem RVL_plain_eq {b b' : Nat} {ι ι' : List Loc} : {l : List AV} → {ys ys' : List Value} → plainL l = true → RVL b ι l ys → RVL b' ι' l ys' → ys' = ys
  | [], _, _, _, hv, hv' => by unfold RVL at hv hv'; rw [hv, hv']
  | x :: l, _, _, h, hv, hv' => by
    simp only [plainL, Bool.and_eq_true] at h
    unfold RVL at hv hv'
    obtain ⟨y, m, rfl, h2, h3⟩ := hv
    obtain ⟨y', m', rfl, h2', h3'⟩ := hv'
    rw [RV_plain_eq h.1 h2 h2', RVL_plain_eq h.2 h3 h3']
end
theorem RV_flat {b b' : Nat} {ι ι' : List Loc} {x : AV} {v : Value} (h : flatA x = true) (hv : RV b ι x v) : RV b' ι' x v := RV_plain h hv
theorem below_same {w0 w w' : World} {ι : List Loc} {H : AH} (h : Rep w0 ι H w) (hb : Below w.heap.size w w') : Rep w0 ι H w' ∧ Ext ι H w ι H w' := by
  refine ⟨⟨⟨hb.os.trans h.below.os, hb.tape.trans h.below.tape, hb.output.trans h.below.output, Nat.le_trans h.below.size hb.size, fun k hk => (hb.block k (Nat.lt_of_lt_of_le hk h.below.size)).trans (h.below.block k hk)⟩, h.ro, h.len, ?_, h.nomap, h.gone, h.inj, fun i B O m hi => ⟨(h.locs i B O m hi).1, Nat.lt_of_lt_of_le (h.locs i B O m hi).2 hb.size⟩⟩,
    ⟨rfl, Nat.le_refl _, LocLe.refl ι, fun _ _ => rfl, hb.size, fun B hB _ => hb.block B hB, fun i B O m hi => .inl ⟨_, _, _, hi⟩, fun _ h => h, fun i B O m hi _ _ => ⟨.of (hb.block B (h.locs i B O m hi).2), hi⟩⟩⟩
  intro i l hi
  rcases h.blk i l hi with h1 | h1 | ⟨B, O, m, h1, h2⟩
  · exact .inl h1
  · exact .inr (.inl h1)
  · exact .inr (.inr ⟨B, O, m, h1, h2.world (hb.block B (h.locs i B O m h1).2)⟩)
theorem aspec_plain {P : Program} {f : FuncId} {args : List AV} {Q : AV → Prop} (ha : plainL args = true) (hq : ∀ r, Q r → flatA r = true) (h : ∀ ro, ASpec P f args (.base ro) fun r _ => Q r) (H : AH) : ASpec P f args H fun r H' => Q r ∧ H' = H :=
  fun w0 ι w cargs hr hv => ((h (AH.init w).ro) w [] w cargs (init_rep w) (RVL_plain ha hv)).mono fun v w' ⟨r, H', ι', h2, h3, h4, h5⟩ =>
    ⟨r, H, ι, RV_flat (hq r h5) h2, (below_same hr h3.below).1, (below_same hr h3.below).2, h5, rfl⟩
end Go.Abs
set_option linter.unusedVariables false
set_option linter.unusedSimpArgs false
namespace Go.Abs
open Go Go.RowKit
structure Grew (H H' : AH) : Prop where
  ro : H'.ro = H.ro
  n : H.n ≤ H'.n
  old : ∀ i, i < H.n → H'.rw[i]? = H.rw[i]?
  wr : ∀ i, H'.wr i → H.wr i ∨ H.n ≤ i
theorem Grew.refl (H : AH) : Grew H H := ⟨rfl, Nat.le_refl _, fun _ _ => rfl, fun _ h => .inl h⟩
theorem Grew.trans {H H' H'' : AH} (h : Grew H H') (k : Grew H' H'') : Grew H H'' := ⟨k.ro.trans h.ro, Nat.le_trans h.n k.n, fun i hi => (k.old i (Nat.lt_of_lt_of_le hi h.n)).trans (h.old i hi), fun i hi => (k.wr i hi).elim (h.wr i) fun e => .inr (Nat.le_trans h.n e)⟩
theorem push_n (H : AH) (b : Option ABlk) : (H.push b).n = H.n + 1 := by simp [AH.n, AH.push]
theorem set_n (H : AH) (i : Nat) (b : Option ABlk) : (H.set i b).n = H.n := by simp [AH.n, AH.set]
theorem Grew.push (H : AH) (b : Option ABlk) : Grew H (H.push b) := ⟨rfl, by rw [push_n]; omega, fun i hi => by simp only [AH.push]; exact get_app_lt hi, fun i hi => hi.elim (fun e => .inr (Nat.le_of_eq e.symm)) .inl⟩
theorem Grew.set {H H' : AH} (h : Grew H H') {i : Nat} (hi : H.n ≤ i) (b : Option ABlk) : Grew H (H'.set i b) := ⟨h.ro, by rw [set_n]; exact h.n, fun j hj => by
  simp only [AH.set]; rw [List.getElem?_set, if_neg (by omega)]; exact h.old j hj, fun j hj => hj.elim (fun e => .inr (e ▸ hi)) (h.wr j)⟩
theorem Grew.cells {H H' : AH} (h : Grew H H') {i : Nat} (hi : i < H.n) : H'.cells? i = H.cells? i := by unfold AH.cells?; rw [h.old i hi]
theorem cells_lt {H : AH} {i : Nat} {l : List AV} (h : H.cells? i = some l) : i < H.n := by
  have := cells?_some h
  exact lt_of_get this
theorem Grew.cells_some {H H' : AH} (h : Grew H H') {i : Nat} {l : List AV} (hl : H.cells? i = some l) : H'.cells? i = some l := by rw [h.cells (cells_lt hl)]; exact hl
theorem Grew.get {H H' : AH} (h : Grew H H') {a : AAddr} {l : List AV} (hl : H.get a = some l) : H'.get a = some l := by
  unfold AH.get at *
  split
  · rename_i hr; rw [if_pos hr] at hl; rw [h.ro]; exact hl
  · rename_i hr; rw [if_neg hr] at hl; exact h.cells_some hl
theorem Grew.row {H H' : AH} (h : Grew H H') {sz : Nat} {v : AV} {l : List AV} (hl : rowA H sz v = some l) : rowA H' sz v = some l := by
  cases v with
  | nilslice => exact hl
  | slice a n c =>
    simp only [rowA] at hl ⊢
    obtain ⟨cs, h1, h2⟩ := Option.bind_eq_some_iff.1 hl
    rw [h.get h1]
    exact h2
  | _ => simp only [rowA] at hl; cases hl
theorem IsBytes.grew {H H' : AH} (h : Grew H H') {v : AV} {xs : List UInt8} (k : IsBytes H v xs) : IsBytes H' v xs := ⟨h.row k.row, k.len, k.sl⟩
theorem IsNums.grew {H H' : AH} (h : Grew H H') {k : IntKind} {v : AV} {xs : List Int} (g : IsNums k H v xs) : IsNums k H' v xs := ⟨h.row g.row, g.len, g.sl⟩
theorem push_cells (H : AH) (l : List AV) : (H.push (some (.cells l))).cells? H.n = some l := by
  unfold AH.cells? AH.push AH.n
  simp
theorem push_old (H : AH) (b : Option ABlk) {i : Nat} (hi : i < H.n) : (H.push b).cells? i = H.cells? i := (Grew.push H b).cells hi
theorem set_cells (H : AH) {i : Nat} (l : List AV) (hi : i < H.n) : (H.set i (some (.cells l))).cells? i = some l := by
  unfold AH.cells? AH.set
  have : i < H.rw.length := hi
  simp [this]
theorem set_other (H : AH) {i j : Nat} (b : Option ABlk) (hij : i ≠ j) : (H.set i b).cells? j = H.cells? j := by
  unfold AH.cells? AH.set
  simp [List.getElem?_set, hij]
theorem set_set (H : AH) (i : Nat) (b c : Option ABlk) : (H.set i b).set i c = H.set i c := by
  simp only [AH.set, AH.mk.injEq, true_and, List.set_set]
  exact funext fun j => propext ⟨fun h => h.elim .inl id, .inr⟩
theorem push_set (H : AH) (b c : Option ABlk) : (H.push b).set H.n c = H.push c := by
  unfold AH.push AH.set AH.n
  simp only [AH.mk.injEq, true_and]
  exact ⟨by simp, funext fun j => propext ⟨fun h => h.elim .inl id, .inr⟩⟩
theorem get_ro (H : AH) (B o : Nat) : H.get ⟨true, B, o⟩ = some (H.ro B) := rfl
theorem get_rw (H : AH) (i o : Nat) : H.get ⟨false, i, o⟩ = H.cells? i := rfl
theorem row_whole {H : AH} {i n sz : Nat} {l : List AV} (hc : H.cells? i = some l) (hl : l.length = n * sz) (c : Cap) : rowA H sz (.slice ⟨false, i, 0⟩ n c) = some l := by
  simp only [rowA, get_rw, hc, Option.bind_some]
  rw [if_pos (.inl (by omega)), List.drop_zero, ← hl, List.take_length]
theorem bytes_whole {H : AH} {i : Nat} {xs : List UInt8} (hc : H.cells? i = some (xs.map bv)) {c : Cap} (hs : isSl (.slice ⟨false, i, 0⟩ xs.length c) = true) : IsBytes H (.slice ⟨false, i, 0⟩ xs.length c) xs :=
  ⟨row_whole hc (by simp) c, rfl, hs⟩
theorem IsBytes.elim {H : AH} {v : AV} {xs : List UInt8} (h : IsBytes H v xs) :
    (v = .nilslice ∧ xs = []) ∨ ∃ a c cs, v = .slice a xs.length c ∧ H.get a = some cs ∧ (∀ i (hi : i < xs.length), cs[a.off + i]? = some (bv xs[i])) ∧ (xs.length = 0 ∨ a.off + xs.length ≤ cs.length) := by
  obtain ⟨h1, h2, h3⟩ := h
  cases v with
  | nilslice =>
    left
    simp only [slen] at h2
    exact ⟨rfl, List.eq_nil_of_length_eq_zero h2.symm⟩
  | slice a n c =>
    right
    simp only [slen] at h2
    subst h2
    simp only [rowA] at h1
    obtain ⟨cs, g1, g2⟩ := Option.bind_eq_some_iff.1 h1
    split at g2
    · rename_i hle
      injection g2 with g2
      refine ⟨a, c, cs, rfl, g1, fun i hi => ?_, by omega⟩
      have := congrArg (·[i]?) g2
      simp only [List.getElem?_take, List.getElem?_drop, List.getElem?_map] at this
      rw [if_pos (by omega), List.getElem?_eq_getElem hi] at this
      simpa using this
    · cases g2
  | _ => simp [isSl] at h3
theorem IsBytes.at {H : AH} {v : AV} {xs : List UInt8} (h : IsBytes H v xs) {P : Program} {t e : TypeId} (ht : P.underlying t = some (.slice e)) (hs : sizeA P e = some 1) (ha : aggA P e = some false) {k : IntKind} {i : Int} (h0 : 0 ≤ i) (hi : i < xs.length) :
    ∃ p, indexAddrA P t v (.int k i) = some (.ptr p) ∧ loadA P e p H = some (bv (xs.getD i.toNat 0)) := by
  rcases h.elim with ⟨_, rfl⟩ | ⟨a, c, cs, rfl, g1, g2, _⟩
  · simp at hi; omega
  · refine ⟨⟨a.ro, a.blk, a.off + i.toNat * 1⟩, ?_, ?_⟩
    · simp only [indexAddrA, ht, hs, Option.bind_some]; rw [if_pos ⟨h0, hi⟩]
    · have hlt : i.toNat < xs.length := by omega
      have hg : H.get ⟨a.ro, a.blk, a.off + i.toNat⟩ = some cs := by unfold AH.get at *; exact g1
      simp only [loadA, Nat.mul_one, hg, Option.bind_some, partA, ha, Bool.false_eq_true, if_false]
      rw [g2 i.toNat hlt]
      simp [List.getD, List.getElem?_eq_getElem hlt]
theorem IsBytes.length {H : AH} {v : AV} {xs : List UInt8} (h : IsBytes H v xs) {P : Program} {t e : TypeId} (ht : P.underlying t = some (.slice e)) : lenA P t v = some (.int .i64 xs.length) := by
  rcases h.elim with ⟨rfl, rfl⟩ | ⟨a, c, cs, rfl, _, _, _⟩ <;> simp [lenA, ht]
theorem IsBytes.news {H : AH} {v : AV} {xs : List UInt8} (h : IsBytes H v xs) : newsA H 1 v = some (xs.length, xs.map bv) := by
  have h1 := h.row
  have h2 := h.len
  have h3 := h.sl
  cases v with
  | nilslice => simp only [slen] at h2; have : xs = [] := List.eq_nil_of_length_eq_zero h2.symm; subst this; rfl
  | slice a n c => simp only [slen] at h2; subst h2; simp only [newsA, h1, Option.map_some]
  | _ => simp [isSl] at h3
theorem bytesOf_bv : ∀ xs : List UInt8, bytesOfA (xs.map bv) = some xs
  | [] => rfl
  | x :: xs => by
    simp only [List.map_cons, bytesOfA, bytesOf_bv xs, Option.map_some]
    simp [bv, byteA]
theorem IsBytes.text {H : AH} {v : AV} {xs : List UInt8} (h : IsBytes H v xs) {P : Program} {s d e : TypeId} (hs : P.underlying s = some (.slice e)) (hd : P.underlying d = some .string) (he : P.underlying e = some (.int .u8)) :
    convertA P s d v H = some (.str ⟨xs.toArray⟩, H) := by
  have h1 := h.row
  have h3 := h.sl
  have key : ∀ v, rowA H 1 v = some (xs.map bv) → (match P.underlying e with | some (.int .u8) => (rowA H 1 v).bind fun cs => (bytesOfA cs).map fun bs => (AV.str ⟨bs.toArray⟩, H) | _ => none) = some (.str ⟨xs.toArray⟩, H) := fun v hv => by
    rw [he, hv]; simp only [Option.bind_some, bytesOf_bv, Option.map_some]
  cases v with
  | nilslice => simp only [convertA, hs, hd]; exact key _ h1
  | slice a n c => simp only [convertA, hs, hd]; exact key _ h1
  | _ => simp [isSl] at h3
theorem all_one_bv (xs : List UInt8) : (xs.map bv).all oneA = true := by simp [bv, oneA]
def cutV (v : AV) (lo hi : Nat) : AV :=
  match v with
  | .slice a n (.known c) => cutA a 1 lo hi c
  | .slice a n (.grow g) => .slice ⟨false, a.blk, a.off + lo * 1⟩ (hi - lo) (.grow g)
  | v => v
theorem IsBytes.cutV {H : AH} {v : AV} {xs : List UInt8} (h : IsBytes H v xs) {lo hi : Nat} (h1 : lo ≤ hi) (h2 : hi ≤ xs.length) : IsBytes H (cutV v lo hi) ((xs.drop lo).take (hi - lo)) := by
  have hs := h.sl
  have hl := h.len
  have hlen : ((xs.drop lo).take (hi - lo)).length = hi - lo := by simp; omega
  cases v with
  | nilslice =>
    simp only [slen] at hl
    have : xs = [] := List.eq_nil_of_length_eq_zero hl.symm
    subst this
    exact ⟨by simp [Go.Abs.cutV, rowA], by simp [Go.Abs.cutV, slen], rfl⟩
  | slice a n c =>
    simp only [slen] at hl
    have hrow := h.row
    simp only [rowA] at hrow
    obtain ⟨cs, g1, g2⟩ := Option.bind_eq_some_iff.1 hrow
    split at g2
    · rename_i hle
      injection g2 with g2
      have hget : ∀ o, H.get ⟨a.ro, a.blk, o⟩ = some cs := fun o => by unfold AH.get at *; exact g1
      have key : ∀ (a' : AAddr) (c' : Cap), H.get a' = some cs → (a'.off = a.off + lo ∨ hi - lo = 0) → rowA H 1 (.slice a' (hi - lo) c') = some (((xs.drop lo).take (hi - lo)).map bv) := fun a' c' k1 k2 => by
        simp only [rowA, k1, Option.bind_some]
        rw [if_pos (by omega)]
        congr 1
        rcases Nat.eq_zero_or_pos (hi - lo) with h0 | h0
        · simp [h0]
        · have k3 : a'.off = a.off + lo := by omega
          rw [k3, ← List.drop_drop, List.map_take, List.map_drop, ← g2, List.drop_take, List.take_take]
          congr 1
          omega
      cases c with
      | known c =>
        simp only [isSl, decide_eq_true_eq] at hs
        simp only [Go.Abs.cutV, cutA]
        refine ⟨key _ _ ?_ ?_, by rw [hlen]; rfl, by simp [isSl]; omega⟩
        · split
          · exact g1
          · exact hget _
        · split
          · omega
          · left; simp
      | grow g =>
        simp only [isSl, Bool.and_eq_true, decide_eq_true_eq, Bool.not_eq_true'] at hs
        simp only [Go.Abs.cutV]
        have := hget (a.off + lo * 1)
        rw [hs.2] at this
        exact ⟨key _ _ this (.inl (by simp)), by rw [hlen]; rfl, by simp [isSl, hs.1]⟩
    · cases g2
  | _ => simp [isSl] at hs
theorem IsBytes.slice {H : AH} {v : AV} {xs : List UInt8} (h : IsBytes H v xs) {P : Program} {t e : TypeId} (ht : P.underlying t = some (.slice e)) (hs : sizeA P e = some 1) {lo hi : Nat} (h1 : lo ≤ hi) (h2 : hi ≤ xs.length) {olo ohi : Option AV}
    (hlo : olo = some (.int .i64 lo) ∨ olo = none ∧ lo = 0) (hhi : ohi = some (.int .i64 hi) ∨ ohi = none ∧ hi = xs.length) : sliceOpA P t v olo ohi none = some (Go.Abs.cutV v lo hi) := by
  have hsl := h.sl
  have hl := h.len
  have eh : ∀ y, hi ≤ y → optB ohi y xs.length = some hi := fun y hy => by
    rcases hhi with rfl | ⟨rfl, rfl⟩
    · simp only [optB, boundA]; rw [if_pos (by omega)]; rfl
    · rfl
  have el : optB olo hi 0 = some lo := by
    rcases hlo with rfl | ⟨rfl, rfl⟩
    · simp only [optB, boundA]; rw [if_pos (by omega)]; rfl
    · rfl
  cases v with
  | nilslice =>
    simp only [slen] at hl
    rw [← hl] at eh
    have h0 : hi = 0 := by omega
    simp only [sliceOpA, ht, hs, Option.bind_some, optB, Option.isSome_none, Bool.false_and, Bool.false_eq_true, if_false]
    have e1 := eh 0 (by omega)
    simp only [optB] at e1 el
    rw [e1]
    simp only [Option.bind_some]
    rw [el]
    rfl
  | slice a n c =>
    simp only [slen] at hl
    subst hl
    cases c with
    | known c =>
      simp only [isSl, decide_eq_true_eq] at hsl
      simp only [sliceOpA, ht, hs, Option.bind_some, cutKnown, Option.isSome_none, Bool.false_and, Bool.false_eq_true, if_false]
      rw [show optB none c c = some c from rfl, Option.bind_some, eh c (by omega), Option.bind_some, el]
      rfl
    | grow g =>
      simp only [isSl, Bool.and_eq_true, decide_eq_true_eq, Bool.not_eq_true'] at hsl
      obtain ⟨rfl, hro⟩ := hsl
      simp only [sliceOpA, ht, hs, Option.bind_some, hro, and_self, if_true]
      rw [eh _ h2, Option.bind_some, el]
      rfl
  | _ => simp [isSl] at hsl
end Go.Abs
set_option linter.unusedVariables false
set_option linter.unusedSimpArgs false
namespace Go.Abs
open Go Go.RowKit
theorem sureK (n c : Nat) : sureSlice n (.known c) = true := rfl
theorem sureG (n sz : Nat) : sureSlice n (.grow sz) = decide (0 < n) := rfl
theorem storeCells_many {i : Nat} : ∀ (vs : List AV) (o : Nat) (H : AH) (l : List AV), vs.all oneA = true → H.cells? i = some l → o + vs.length ≤ l.length → (vs = [] → H.wr i) → storeCellsA H i o vs = some (H.set i (some (.cells (l.take o ++ vs ++ l.drop (o + vs.length)))))
  | [], o, H, l, _, hc, _, hw => by
    simp only [storeCellsA, List.append_nil, List.length_nil, Nat.add_zero, List.take_append_drop]
    have h := cells?_some hc
    congr 1
    have hw := hw rfl
    obtain ⟨ro, rw', wr⟩ := H
    simp only [AH.set, AH.mk.injEq, true_and]
    refine ⟨?_, funext fun j => propext ⟨.inr, fun e => e.elim (fun e => e ▸ hw) id⟩⟩
    apply List.ext_getElem?
    intro j
    rw [List.getElem?_set]
    split
    · rename_i hj
      subst hj
      split
      · exact h
      · rename_i h1; exact absurd (lt_of_get h) h1
    · rfl
  | v :: vs, o, H, l, ha, hc, ho, _ => by
    simp only [List.all_cons, Bool.and_eq_true] at ha
    simp only [List.length_cons] at ho
    have h1 : o < l.length := by omega
    simp only [storeCellsA, ha.1, if_true, hc, Option.bind_some]
    rw [if_pos h1, storeCells_many vs (o + 1) _ (l.set o v) ha.2 (set_cells H _ (cells_lt hc)) (by simp; omega) (fun _ => .inl rfl), set_set]
    congr 4
    have e1 : (l.set o v).take (o + 1) = l.take o ++ [v] := by
      rw [List.take_add_one, List.take_set_of_le (by omega)]
      simp [h1]
    have e2 : (l.set o v).drop (o + 1 + vs.length) = l.drop (o + (v :: vs).length) := by
      rw [List.drop_set_of_lt (by omega)]
      congr 1
      simp; omega
    rw [e1, e2]
    simp
def gd {α : Type} (c : Prop) [Decidable c] (x : Option α) : Option α := if c then x else none
theorem gd_pos {α : Type} {c : Prop} [Decidable c] {x : Option α} (h : c) : gd c x = x := by unfold gd; rw [if_pos h]
theorem gd_true {α : Type} {i : Decidable True} {x : Option α} : @gd α True i x = x := by unfold gd; rw [if_pos trivial]
theorem row_slice {H : AH} {sz : Nat} {a : AAddr} {n : Nat} {c : Cap} : rowA H sz (.slice a n c) = (H.get a).bind fun cs => gd (a.off + n * sz ≤ cs.length ∨ n * sz = 0) (some ((cs.drop a.off).take (n * sz))) := rfl
theorem row_nil {H : AH} {sz : Nat} : rowA H sz .nilslice = some [] := rfl
theorem app_to_nil {sz by' : Nat} {H : AH} {k : Nat} {news : List AV} : appendTo sz by' H k news .nilslice = gd (k ≤ 140737488355328 ∧ k * by' ≤ 140737488355328) (some (.slice ⟨false, H.n, 0⟩ k (.grow sz), H.push (some (.cells news)))) := rfl
def gde {α : Type} (c : Prop) [Decidable c] (x y : Option α) : Option α := if c then x else y
theorem gde_pos {α : Type} {c : Prop} [Decidable c] {x y : Option α} (h : c) : gde c x y = x := by unfold gde; rw [if_pos h]
theorem gde_true {α : Type} {i : Decidable True} {x y : Option α} : @gde α True i x y = x := by unfold gde; rw [if_pos trivial]
theorem gde_false {α : Type} {i : Decidable False} {x y : Option α} : @gde α False i x y = y := by unfold gde; rw [if_neg not_false]
theorem app_to_grow {sz by' : Nat} {H : AH} {k : Nat} {news : List AV} {i o n : Nat} : appendTo sz by' H k news (.slice ⟨false, i, o⟩ n (.grow sz)) = gd (n + k ≤ 140737488355328 ∧ (n + k) * by' ≤ 140737488355328)
    ((H.cells? i).bind fun l => gde (o + n * sz = l.length) (some (.slice ⟨false, H.n, 0⟩ (n + k) (.grow sz), (H.set i none).push (some (.cells (l.drop o ++ news)))))
      (gd (o + n * sz ≤ l.length) (some (.slice ⟨false, H.n, 0⟩ (n + k) (.grow sz), (H.set i none).push (some (.cells ((l.drop o).take (n * sz) ++ news))))))) := by
  simp only [appendTo, appendTo0, true_and, gd, gde]
  cases hc : H.cells? i with
  | none => simp only [trimA, hc, Option.bind_none]
  | some l =>
    simp only [Option.bind_some]
    by_cases ht : o + n * sz < l.length
    · have hi : i < H.n := by
        have := cells?_some hc
        exact (List.getElem?_eq_some_iff.1 this).1
      have e : trimA H sz (.slice ⟨false, i, o⟩ n (.grow sz)) = H.set i (some (.cells (l.take (o + n * sz)))) := by simp only [trimA, hc, if_pos ht]
      have e2 : (H.set i (some (.cells (l.take (o + n * sz))))).cells? i = some (l.take (o + n * sz)) := by
        have hi' : i < H.rw.length := hi
        simp [AH.cells?, AH.set, hi']
      have e3 : (H.set i (some (.cells (l.take (o + n * sz))))).set i none = H.set i none := by simp [AH.set]
      have e4 : (H.set i (some (.cells (l.take (o + n * sz))))).n = H.n := by simp [AH.n, AH.set]
      rw [e, e2]
      simp only [Option.bind_some, e3, e4]
      rw [if_pos (show o + n * sz = (l.take (o + n * sz)).length by rw [List.length_take]; omega), if_neg (show ¬ o + n * sz = l.length by omega), if_pos (show o + n * sz ≤ l.length by omega)]
      rw [List.drop_take, show o + n * sz - o = n * sz by omega]
    · have e : trimA H sz (.slice ⟨false, i, o⟩ n (.grow sz)) = H := by simp only [trimA, hc, if_neg ht]
      rw [e, hc]
      simp only [Option.bind_some]
      by_cases he : o + n * sz = l.length
      · simp only [if_pos he]
      · simp only [if_neg he, if_neg (show ¬ o + n * sz ≤ l.length by omega)]
theorem app_to_empty {sz by' : Nat} {H : AH} {k : Nat} {news : List AV} {a : AAddr} : appendTo sz by' H k news (.slice a 0 (.known 0)) = gd (k ≤ 140737488355328 ∧ k * by' ≤ 140737488355328) (some (.slice ⟨false, H.n, 0⟩ k (.grow sz), H.push (some (.cells news)))) := by
  simp only [appendTo, trimA, appendTo0, Nat.zero_add, Nat.le_refl, and_true, if_true, gd]
section
variable {P : Program} {t : TypeId} {k : IntKind} {a b : Int} {H : AH}
theorem bin_add : binA P .add t (.int k a) (.int k b) = some (.int k (k.wrap (a + b))) := by simp [binA, intOpA]
theorem bin_sub : binA P .sub t (.int k a) (.int k b) = some (.int k (k.wrap (a - b))) := by simp [binA, intOpA]
theorem bin_mul : binA P .mul t (.int k a) (.int k b) = some (.int k (k.wrap (a * b))) := by simp [binA, intOpA]
theorem bin_quo : binA P .quo t (.int k a) (.int k b) = gd (b ≠ 0) (some (.int k (k.wrap (a.tdiv b)))) := by
  simp only [binA, intOpA, gd, if_true]
  by_cases h : b = 0 <;> simp [h]
theorem bin_rem : binA P .rem t (.int k a) (.int k b) = gd (b ≠ 0) (some (.int k (a.tmod b))) := by
  simp only [binA, intOpA, gd, if_true]
  by_cases h : b = 0 <;> simp [h]
theorem bin_and : binA P .and t (.int k a) (.int k b) = some (.int k (k.wrap ((BitVec.ofInt k.bits a &&& BitVec.ofInt k.bits b).toNat))) := by simp [binA, intOpA]
theorem bin_or : binA P .or t (.int k a) (.int k b) = some (.int k (k.wrap ((BitVec.ofInt k.bits a ||| BitVec.ofInt k.bits b).toNat))) := by simp [binA, intOpA]
theorem bin_xor : binA P .xor t (.int k a) (.int k b) = some (.int k (k.wrap ((BitVec.ofInt k.bits a ^^^ BitVec.ofInt k.bits b).toNat))) := by simp [binA, intOpA]
theorem bin_eql : binA P .eql t (.int k a) (.int k b) = some (.bool (decide (a = b))) := by
  simp only [binA, intOpA, if_true]
  rfl
theorem bin_neq : binA P .neq t (.int k a) (.int k b) = some (.bool (decide (¬ a = b))) := by
  simp only [binA, intOpA, if_true]
  congr 2
  by_cases h : a = b <;> simp [h]
theorem bin_lss : binA P .lss t (.int k a) (.int k b) = some (.bool (decide (a < b))) := by simp [binA, intOpA]
theorem bin_leq : binA P .leq t (.int k a) (.int k b) = some (.bool (decide (a ≤ b))) := by simp [binA, intOpA]
theorem bin_gtr : binA P .gtr t (.int k a) (.int k b) = some (.bool (decide (a > b))) := by simp [binA, intOpA]
theorem bin_geq : binA P .geq t (.int k a) (.int k b) = some (.bool (decide (a ≥ b))) := by simp [binA, intOpA]
theorem bin_shl {k' : IntKind} : binA P .shl t (.int k a) (.int k' b) = gd (0 ≤ b) (some (.int k (k.wrap (a * 2 ^ min b.toNat k.bits)))) := by
  simp only [binA, shiftA, gd]
  by_cases h : b < 0
  · rw [if_pos h, if_neg (by omega)]
  · rw [if_neg h, if_pos (by omega)]
theorem bin_shr {k' : IntKind} : binA P .shr t (.int k a) (.int k' b) = gd (0 ≤ b) (some (.int k (a.fdiv (2 ^ min b.toNat k.bits)))) := by
  simp only [binA, shiftA, gd]
  by_cases h : b < 0
  · rw [if_pos h, if_neg (by omega)]
  · rw [if_neg h, if_pos (by omega)]
theorem bin_str {op : BinOp} {x y : ByteArray} : binA P op t (.str x) (.str y) = strOpA op x y := by simp [binA]
theorem str_eql {x y : ByteArray} : strOpA .eql x y = some (.bool (x.toList == y.toList)) := rfl
theorem str_neq {x y : ByteArray} : strOpA .neq x y = some (.bool !(x.toList == y.toList)) := rfl
theorem str_lss {x y : ByteArray} : strOpA .lss x y = some (.bool (Op.bytesLess x.toList y.toList)) := rfl
theorem un_neg : unA .neg (.int k a) = some (.int k (k.wrap (0 - a))) := rfl
theorem un_not {x : Bool} : unA .not (.bool x) = some (.bool !x) := rfl
theorem un_xor : unA .xor (.int k a) = some (.int k (k.wrap ((BitVec.ofInt k.bits (if k.signed then -1 else k.max) ^^^ BitVec.ofInt k.bits a).toNat))) := rfl
theorem bin_bool (h : P.underlying t = some .bool) {x y : Bool} : binA P .eql t (.bool x) (.bool y) = some (.bool (x == y)) := by simp [binA, h, eqA]
theorem bin_boolne (h : P.underlying t = some .bool) {x y : Bool} : binA P .neq t (.bool x) (.bool y) = some (.bool (!(x == y))) := by simp [binA, h, eqA]
variable {e : TypeId} {sz by' : Nat} {z : List AV} {p : AAddr} {n c : Nat} {cp : Cap}
theorem len_slice (h : P.underlying t = some (.slice e)) : lenA P t (.slice p n cp) = some (.int .i64 n) := by simp [lenA, h]
theorem len_nil (h : P.underlying t = some (.slice e)) : lenA P t .nilslice = some (.int .i64 0) := by simp [lenA, h]
theorem len_str (h : P.underlying t = some .string) {s : ByteArray} : lenA P t (.str s) = some (.int .i64 s.size) := by simp [lenA, h]
theorem len_arr (h : P.underlying t = some (.array n e)) {v : AV} : lenA P t v = some (.int .i64 n) := by simp [lenA, h]
theorem ixa_slice (h : P.underlying t = some (.slice e)) (hs : sizeA P e = some sz) : indexAddrA P t (.slice p n cp) (.int k a) = gd (0 ≤ a ∧ a < n) (some (.ptr ⟨p.ro, p.blk, p.off + a.toNat * sz⟩)) := by simp [indexAddrA, h, hs, gd]
theorem ixa_arr (h : P.underlying t = some (.array n e)) (hs : sizeA P e = some sz) : indexAddrA P t (.ptr p) (.int k a) = gd (0 ≤ a ∧ a < n) (some (.ptr ⟨p.ro, p.blk, p.off + a.toNat * sz⟩)) := by simp [indexAddrA, h, hs, gd]
theorem slc_known (h : P.underlying t = some (.slice e)) (hs : sizeA P e = some sz) {lo hi mx : Option AV} : sliceOpA P t (.slice p n (.known c)) lo hi mx = cutKnown p sz n c lo hi mx := by simp [sliceOpA, h, hs]
theorem slc_grow (h : P.underlying t = some (.slice e)) (hs : sizeA P e = some sz) {lo hi : Option AV} : sliceOpA P t (.slice p n (.grow sz)) lo hi none = if p.ro = false then (optB hi n n).bind fun h => (optB lo h 0).map fun l => .slice ⟨false, p.blk, p.off + l * sz⟩ (h - l) (.grow sz) else none := by simp [sliceOpA, h, hs]
theorem slc_nil (h : P.underlying t = some (.slice e)) (hs : sizeA P e = some sz) {lo hi : Option AV} : sliceOpA P t .nilslice lo hi none = (optB hi 0 0).bind fun h => (optB lo h 0).map fun _ => .nilslice := by simp [sliceOpA, h, hs, optB]
theorem slc_arr (h : P.underlying t = some (.array n e)) (hs : sizeA P e = some sz) {lo hi mx : Option AV} : sliceOpA P t (.ptr p) lo hi mx = cutKnown p sz n n lo hi mx := by simp [sliceOpA, h, hs]
theorem slc_str (h : P.underlying t = some .string) {s : ByteArray} {lo hi : Option AV} : sliceOpA P t (.str s) lo hi none = (optB hi s.size s.size).bind fun h => (optB lo h 0).map fun l => .str (s.extract l h) := by simp [sliceOpA, h]
theorem cut_all {lo hi : Option AV} : cutKnown p sz n c lo hi none = (optB hi c n).bind fun h => (optB lo h 0).map fun l => cutA p sz l h c := by simp [cutKnown, optB]
theorem opt_some {x : Int} {y d : Nat} : optB (some (.int k x)) y d = gd (0 ≤ x ∧ x ≤ y) (some x.toNat) := rfl
theorem opt_none {y d : Nat} : optB none y d = some d := rfl
theorem make_slice (h : P.underlying t = some (.slice e)) (hs : sizeA P e = some sz) (hb : bytesA P e = some by') (hz : zeroA P e = some z) (hl : z.length = sz ∧ 0 < sz) {k' : IntKind} : makeSliceA P t (.int k a) (.int k' b) H =
    gd (0 ≤ a ∧ a ≤ b ∧ b ≤ 140737488355328 ∧ b * by' ≤ 140737488355328) (some (.slice ⟨false, H.n, 0⟩ a.toNat (.known b.toNat), H.push (some (.cells (repA z b.toNat))))) := by
  simp only [makeSliceA, h, hs, hb, hz, Option.bind_some, hl.1, hl.2, and_true, gd]
theorem build_slice (h : P.underlying t = some (.slice e)) (hs : sizeA P e = some sz) (hz : zeroA P e = some z) (hl : z.length = sz ∧ 0 < sz) {len : Nat} {parts : List (Nat × AV)} (hlen : len * sz ≤ 16777216) : buildSliceA P t len parts H =
    (fillA (fun i => some (i * sz, sz)) (repA z len) parts).map fun cells => (.slice ⟨false, H.n, 0⟩ len (.known len), H.push (some (.cells cells))) := by
  simp only [buildSliceA, h, hs, hz, Option.bind_some, hl.1, hl.2, hlen, and_true, if_true]
theorem load_cell (h : aggA P t = some false) : loadA P t p H = (H.get p).bind fun cs => cs[p.off]? := by simp [loadA, partA, h]
theorem load_agg (h : aggA P t = some true) (hs : sizeA P t = some sz) : loadA P t p H = (H.get p).bind fun cs => gd (p.off + sz ≤ cs.length) (some (.agg ((cs.drop p.off).take sz))) := by simp [loadA, partA, h, hs, gd]
theorem store_cell (hs : sizeA P t = some 1) {v : AV} (hv : oneA v = true) {i o : Nat} : storeA P t ⟨false, i, o⟩ v H = (H.cells? i).bind fun l => gd (o < l.length) (some (H.set i (some (.cells (l.set o v))))) := by
  have : cellsA v = some [v] := by cases v <;> simp_all [cellsA, oneA]
  simp [storeA, this, hs, storeCellsA, hv, gd]
theorem conv_int (ht : P.underlying t = some (.int k)) {s : TypeId} {k' : IntKind} (hs : (P.underlying s).isSome = true) : convertA P s t (.int k' a) H = some (.int k (k.wrap a), H) := by
  obtain ⟨d, hd⟩ := Option.isSome_iff_exists.1 hs
  simp [convertA, ht, hd]
theorem conv_text {s : TypeId} (hs : P.underlying s = some (.slice e)) (ht : P.underlying t = some .string) (he : P.underlying e = some (.int .u8)) : convertA P s t (.slice p n cp) H = (rowA H 1 (.slice p n cp)).bind fun cs => (bytesOfA cs).map fun bs => (.str ⟨bs.toArray⟩, H) := by
  simp [convertA, hs, ht, he]
theorem conv_text_nil {s : TypeId} (hs : P.underlying s = some (.slice e)) (ht : P.underlying t = some .string) (he : P.underlying e = some (.int .u8)) : convertA P s t .nilslice H = some (.str ⟨#[]⟩, H) := by
  simp [convertA, hs, ht, he, rowA, bytesOfA]
theorem app_slice (h : P.underlying t = some (.slice e)) (hs : sizeA P e = some sz) (hb : bytesA P e = some by') (hz : zeroA P e = some z) (hl : z.length = sz ∧ 0 < sz) {s x : AV} : appendA P t t s x H =
    (newsA H sz x).bind fun kn => if kn.2.all oneA = true then appendTo sz by' H kn.1 kn.2 s else none := by
  simp only [appendA, h, hs, hb, hz, Option.bind_some, hl.1, hl.2, and_self, if_true, moreA]
theorem app_str (h : P.underlying t = some (.slice e)) (hs : sizeA P e = some sz) (hb : bytesA P e = some by') (hz : zeroA P e = some z) (hl : z.length = sz ∧ 0 < sz) {xt : TypeId} (hx : P.underlying xt = some .string) {s x : AV} : appendA P t xt s x H =
    (newsA H sz x).bind fun kn => if kn.2.all oneA = true then appendTo sz by' H kn.1 kn.2 s else none := by
  simp only [appendA, h, hs, hb, hz, Option.bind_some, hl.1, hl.2, and_self, if_true, moreA, hx]
theorem copy_slice (h : P.underlying t = some (.slice e)) (hs : sizeA P e = some sz) {x : AV} : copyA P t (.slice p n cp) x H = (newsA H sz x).bind fun kn => if p.ro = false ∧ (H.cells? p.blk).isSome then (storeCellsA H p.blk p.off (kn.2.take (min kn.1 n * sz))).map fun H' => (.int .i64 (min kn.1 n : Nat), H') else none := by
  simp only [copyA, h, hs, Option.bind_some]
theorem copy_nil (h : P.underlying t = some (.slice e)) (hs : sizeA P e = some sz) {x : AV} : copyA P t .nilslice x H = (newsA H sz x).bind fun kn => some (.int .i64 0, H) := by
  simp only [copyA, h, hs, Option.bind_some]
theorem ix_arr (h : P.underlying t = some (.array n e)) (hs : sizeA P e = some sz) {cs : List AV} : indexA P t (.agg cs) (.int k a) = gd (0 ≤ a ∧ a < n) (partA P e cs (a.toNat * sz)) := by simp [indexA, h, hs, gd]
theorem ix_str (h : P.underlying t = some .string) {s : ByteArray} : indexA P t (.str s) (.int k a) = gd (0 ≤ a) ((s[a.toNat]?).map fun b => .int .u8 b.toNat) := by simp [indexA, h, gd]
theorem part_cell (h : aggA P t = some false) {cs : List AV} {o : Nat} : partA P t cs o = cs[o]? := by simp [partA, h]
theorem part_agg (h : aggA P t = some true) (hs : sizeA P t = some sz) {cs : List AV} {o : Nat} : partA P t cs o = gd (o + sz ≤ cs.length) (some (.agg ((cs.drop o).take sz))) := by simp [partA, h, hs, gd]
theorem eq_nil_slice (h : P.underlying t = some (.slice e)) : binA P .eql t (.slice p n cp) .nilslice = if sureSlice n cp then some (.bool false) else none := by
  simp only [binA, h, Option.bind_some, eqA]; split <;> rfl
theorem ne_nil_slice (h : P.underlying t = some (.slice e)) : binA P .neq t (.slice p n cp) .nilslice = if sureSlice n cp then some (.bool true) else none := by
  simp only [binA, h, Option.bind_some, eqA]; split <;> rfl
theorem eq_nil_nil (h : P.underlying t = some (.slice e)) : binA P .eql t .nilslice .nilslice = some (.bool true) := by simp [binA, h, eqA]
theorem ne_nil_nil (h : P.underlying t = some (.slice e)) : binA P .neq t .nilslice .nilslice = some (.bool false) := by simp [binA, h, eqA]
theorem eq_ptr_nil (h : P.underlying t = some (.pointer e)) : binA P .eql t (.ptr p) .nilptr = some (.bool false) := by simp [binA, h, eqA]
theorem ne_ptr_nil (h : P.underlying t = some (.pointer e)) : binA P .neq t (.ptr p) .nilptr = some (.bool true) := by simp [binA, h, eqA]
theorem eq_nilptr (h : P.underlying t = some (.pointer e)) : binA P .eql t .nilptr .nilptr = some (.bool true) := by simp [binA, h, eqA]
theorem ne_nilptr (h : P.underlying t = some (.pointer e)) : binA P .neq t .nilptr .nilptr = some (.bool false) := by simp [binA, h, eqA]
theorem fa_struct {fs : Array Field} (h : P.underlying t = some (.struct fs)) {f o : Nat} {ft : TypeId} (hf : (fs[f]?).map (fun x => (x.type, x.offset)) = some (ft, o)) {m : Nat} (hs : sizeA P ft = some (m + 1)) : fieldAddrA P t (.ptr p) f = some (.ptr ⟨p.ro, p.blk, p.off + o⟩) := by
  obtain ⟨x, hx, h2⟩ := Option.map_eq_some_iff.1 hf
  obtain ⟨rfl, rfl⟩ := Prod.mk.inj h2
  simp only [fieldAddrA, h, hx, Option.bind_some, hs]
  rw [if_neg (by simp)]
theorem fl_struct {fs : Array Field} (h : P.underlying t = some (.struct fs)) {f o : Nat} {ft : TypeId} (hf : (fs[f]?).map (fun x => (x.type, x.offset)) = some (ft, o)) {cs : List AV} : fieldA P t (.agg cs) f = partA P ft cs o := by
  obtain ⟨x, hx, h2⟩ := Option.map_eq_some_iff.1 hf
  obtain ⟨rfl, rfl⟩ := Prod.mk.inj h2
  simp only [fieldA, h, hx, Option.bind_some]
end
theorem shr_nat (n m : Nat) : (n : Int).fdiv (2 ^ m) = ((n / 2 ^ m : Nat) : Int) := by
  rw [Int.fdiv_eq_ediv_of_nonneg _ (Int.pow_nonneg (by omega))]
  push_cast
  rfl
theorem byte_bv (m : Nat) : AV.int .u8 (IntKind.u8.wrap (m : Int)) = bv (UInt8.ofNat m) := by
  simp only [bv, IntKind.wrap_u8, UInt8.toNat_ofNat']
  congr 1
theorem thenA_exit (next : AFr → AH → Prop) (Q : Exit → AFr → AH → Prop) (i : Nat) (fr : AFr) (H : AH) : thenA next Q (.exit i) fr H = Q (.exit i) fr H := nr rfl
theorem thenA_ret (next : AFr → AH → Prop) (Q : Exit → AFr → AH → Prop) (fr : AFr) (H : AH) : thenA next Q .ret fr H = Q .ret fr H := nr rfl
theorem fill_set {α : Type} {l : List α} {m i : Nat} {z v : α} (hm : i < m) (hv : l[i]? = some v) : (l.take i ++ List.replicate (m - i) z).set i v = l.take (i + 1) ++ List.replicate (m - (i + 1)) z := by
  have hl : (l.take i).length = i := by have := lt_of_get hv; simp; omega
  rw [show m - i = (m - (i + 1)) + 1 by omega, List.replicate_succ, List.set_append_right _ _ (by omega), hl, Nat.sub_self, List.set_cons_zero, List.take_add_one, hv]
  simp
theorem IsBytes.sure {H : AH} {v : AV} {xs : List UInt8} (h : IsBytes H v xs) (h0 : 0 < xs.length) : ∃ a n c, v = .slice a n c ∧ sureSlice n c = true := by
  rcases h.elim with ⟨_, rfl⟩ | ⟨a, c, cs, rfl, _, _, _⟩
  · simp at h0
  · exact ⟨a, _, c, rfl, by cases c <;> simp [sureSlice, h0]⟩
def restC : Nat → Code → Code
  | n + 1, .seq _ c => restC n c
  | _, c => c
def ifG : Option Bool → Prop → Prop → Prop
  | none, _, _ => False
  | some false, a, _ => a
  | some true, _, b => b
def callOr : Option (FuncId × List AV) → (FuncId → List AV → Prop) → Prop → Prop
  | none, _, d => d
  | some (f, args), k, _ => k f args
def opThen : Option (AV × AH) → (AV → AH → Prop) → Prop
  | none, _ => False
  | some (v, H), k => k v H
def mark {α : Sort _} (x : α) : α := x
theorem mark_eq {α : Sort _} (x : α) : mark x = x := Eq.mpr rfl (Eq.refl x)
theorem ifG_c {g g' : Option Bool} {a b : Prop} (h : mark g = g') : ifG g a b = ifG g' a b := by rw [← h, mark_eq]
theorem callOr_c {g g' : Option (FuncId × List AV)} {k : FuncId → List AV → Prop} {d : Prop} (h : mark g = g') : callOr g k d = callOr g' k d := by rw [← h, mark_eq]
theorem opThen_c {g g' : Option (AV × AH)} {k : AV → AH → Prop} (h : mark g = g') : opThen g k = opThen g' k := by rw [← h, mark_eq]
theorem ASpec_c {P : Program} {f : FuncId} {args args' : List AV} {H H' : AH} {Q : AV → AH → Prop} (h1 : mark args = args') (h2 : mark H = H') : ASpec P f args H Q = ASpec P f args' H' Q := by rw [← h1, ← h2, mark_eq, mark_eq]
theorem AWp_c {P : Program} {N : Nat} {c : Code} {Q : Exit → AFr → AH → Prop} {fr fr' : AFr} {H H' : AH} (h1 : mark fr = fr') (h2 : mark H = H') : AWp P N c Q fr H = AWp P N c Q fr' H' := by rw [← h1, ← h2, mark_eq, mark_eq]
theorem AOps_c {P : Program} {ops : Array Oper} {Q : AFr → AH → Prop} {l : List Oper} {fr fr' : AFr} {H H' : AH} (h1 : mark fr = fr') (h2 : mark H = H') : AOps P ops Q l fr H = AOps P ops Q l fr' H' := by rw [← h1, ← h2, mark_eq, mark_eq]
theorem ifG_t {a b : Prop} : ifG (some true) a b = b := nr rfl
theorem ifG_f {a b : Prop} : ifG (some false) a b = a := nr rfl
theorem callOr_n {k : FuncId → List AV → Prop} {d : Prop} : callOr none k d = d := nr rfl
theorem callOr_s {f : FuncId} {args : List AV} {k : FuncId → List AV → Prop} {d : Prop} : callOr (some (f, args)) k d = k f args := nr rfl
theorem opThen_s {v : AV} {H : AH} {k : AV → AH → Prop} : opThen (some (v, H)) k = k v H := nr rfl
theorem AOps_nil {P : Program} {ops : Array Oper} {Q : AFr → AH → Prop} {fr : AFr} {H : AH} : AOps P ops Q [] fr H = Q fr H := nr rfl
theorem AOps_cons {P : Program} {ops : Array Oper} {Q : AFr → AH → Prop} {o : Oper} {rest : List Oper} {fr : AFr} {H : AH} : AOps P ops Q (o :: rest) fr H =
    ifG (guardA ops fr o) (AOps P ops Q rest (putA fr o.dst (.tup [])) H)
      (callOr (callA fr o.op) (fun f args => ASpec P f args H fun r H' => AOps P ops Q rest (putA fr o.dst r) H') (opThen (opA P fr H o.op) fun v H' => AOps P ops Q rest (putA fr o.dst v) H')) := by
  simp only [AOps]
  cases guardA ops fr o with
  | none => rfl
  | some b =>
    cases b with
    | false => rfl
    | true =>
      simp only [ifG]
      cases callA fr o.op with
      | some fa => rfl
      | none =>
        simp only [callOr]
        cases opA P fr H o.op with
        | none => rfl
        | some vh => rfl
section
variable {P : Program} {ops : Array Oper} {Q : AFr → AH → Prop} {rest : List Oper} {fr : AFr} {H : AH} {ty : TypeId} {ps : String} {af : Array Edge}
theorem AO_move {d : Tmp} {x : Operand} : AOps P ops Q (⟨some d, .move x, ty, ps, af, none⟩ :: rest) fr H = AOps P ops Q rest (lput fr d (aeval fr x)) H := by
  rw [AOps_cons]; simp only [guardA, ifG, callA, callOr, opA, putA, opThen]
theorem AO_assign {d : Tmp} {x : Operand} : AOps P ops Q (⟨some d, .assign x, ty, ps, af, none⟩ :: rest) fr H = AOps P ops Q rest (lput fr d (aeval fr x)) H := by
  rw [AOps_cons]; simp only [guardA, ifG, callA, callOr, opA, putA, opThen]
theorem AO_pick {d : Tmp} {c x y : Operand} : AOps P ops Q (⟨some d, .pick c x y, ty, ps, af, none⟩ :: rest) fr H = opThen (match aeval fr c with | .bool t => some (if t then aeval fr x else aeval fr y, H) | _ => none) fun v H' => AOps P ops Q rest (lput fr d v) H' := by
  rw [AOps_cons]; simp only [guardA, ifG, callA, callOr, opA, putA]
  all_goals rfl
theorem AO_alloc {d : Tmp} {t : TypeId} : AOps P ops Q (⟨some d, .alloc t, ty, ps, af, none⟩ :: rest) fr H = opThen ((zeroA P t).map fun z => newA H z) fun v H' => AOps P ops Q rest (lput fr d v) H' := by
  rw [AOps_cons]; simp only [guardA, ifG, callA, callOr, opA, putA]
  all_goals rfl
theorem AO_box {d : Tmp} {t : TypeId} {x : Operand} : AOps P ops Q (⟨some d, .box t x, ty, ps, af, none⟩ :: rest) fr H = opThen ((cellsA (aeval fr x)).map fun l => newA H l) fun v H' => AOps P ops Q rest (lput fr d v) H' := by
  rw [AOps_cons]; simp only [guardA, ifG, callA, callOr, opA, putA]
  all_goals rfl
theorem AO_build {d : Tmp} {t : TypeId} {q : Array (Nat × Operand)} : AOps P ops Q (⟨some d, .build t q, ty, ps, af, none⟩ :: rest) fr H = opThen ((buildA P t (q.toList.map fun p => (p.1, aeval fr p.2))).map fun v => (v, H)) fun v H' => AOps P ops Q rest (lput fr d v) H' := by
  rw [AOps_cons]; simp only [guardA, ifG, callA, callOr, opA, putA]
  all_goals rfl
theorem AO_buildSlice {d : Tmp} {t : TypeId} {n : Nat} {q : Array (Nat × Operand)} : AOps P ops Q (⟨some d, .buildSlice t n q, ty, ps, af, none⟩ :: rest) fr H = opThen (buildSliceA P t n (q.toList.map fun p => (p.1, aeval fr p.2)) H) fun v H' => AOps P ops Q rest (lput fr d v) H' := by
  rw [AOps_cons]; simp only [guardA, ifG, callA, callOr, opA, putA]
  all_goals rfl
theorem AO_load {d : Tmp} {t : TypeId} {x : Operand} : AOps P ops Q (⟨some d, .load t x, ty, ps, af, none⟩ :: rest) fr H = opThen (match aeval fr x with | .ptr p => (loadA P t p H).map fun v => (v, H) | _ => none) fun v H' => AOps P ops Q rest (lput fr d v) H' := by
  rw [AOps_cons]; simp only [guardA, ifG, callA, callOr, opA, putA]
  all_goals rfl
theorem AO_nilCheck {d : Tmp} {x : Operand} : AOps P ops Q (⟨some d, .nilCheck x, ty, ps, af, none⟩ :: rest) fr H = opThen (match aeval fr x with | .ptr p => some (.ptr p, H) | .func f l => some (.func f l, H) | _ => none) fun v H' => AOps P ops Q rest (lput fr d v) H' := by
  rw [AOps_cons]; simp only [guardA, ifG, callA, callOr, opA, putA]
  all_goals rfl
theorem AO_binOp {d : Tmp} {op : BinOp} {t t2 : TypeId} {x y : Operand} : AOps P ops Q (⟨some d, .binOp op t x y t2, ty, ps, af, none⟩ :: rest) fr H = opThen ((binA P op t (aeval fr x) (aeval fr y)).map fun v => (v, H)) fun v H' => AOps P ops Q rest (lput fr d v) H' := by
  rw [AOps_cons]; simp only [guardA, ifG, callA, callOr, opA, putA]
  all_goals rfl
theorem AO_unOp {d : Tmp} {op : UnOp} {t : TypeId} {x : Operand} : AOps P ops Q (⟨some d, .unOp op t x, ty, ps, af, none⟩ :: rest) fr H = opThen ((unA op (aeval fr x)).map fun v => (v, H)) fun v H' => AOps P ops Q rest (lput fr d v) H' := by
  rw [AOps_cons]; simp only [guardA, ifG, callA, callOr, opA, putA]
  all_goals rfl
theorem AO_convert {d : Tmp} {t t2 : TypeId} {x : Operand} : AOps P ops Q (⟨some d, .convert t t2 x, ty, ps, af, none⟩ :: rest) fr H = opThen (convertA P t t2 (aeval fr x) H) fun v H' => AOps P ops Q rest (lput fr d v) H' := by
  rw [AOps_cons]; simp only [guardA, ifG, callA, callOr, opA, putA]
  all_goals rfl
theorem AO_makeSlice {d : Tmp} {t : TypeId} {x y : Operand} : AOps P ops Q (⟨some d, .makeSlice t x y, ty, ps, af, none⟩ :: rest) fr H = opThen (makeSliceA P t (aeval fr x) (aeval fr y) H) fun v H' => AOps P ops Q rest (lput fr d v) H' := by
  rw [AOps_cons]; simp only [guardA, ifG, callA, callOr, opA, putA]
  all_goals rfl
theorem AO_slice {d : Tmp} {t : TypeId} {x : Operand} {lo hi mx : Option Operand} : AOps P ops Q (⟨some d, .slice t x lo hi mx, ty, ps, af, none⟩ :: rest) fr H = opThen ((sliceOpA P t (aeval fr x) (lo.map (aeval fr)) (hi.map (aeval fr)) (mx.map (aeval fr))).map fun v => (v, H)) fun v H' => AOps P ops Q rest (lput fr d v) H' := by
  rw [AOps_cons]; simp only [guardA, ifG, callA, callOr, opA, putA]
  all_goals rfl
theorem AO_fieldAddr {d : Tmp} {t : TypeId} {x : Operand} {f : Nat} : AOps P ops Q (⟨some d, .fieldAddr t x f, ty, ps, af, none⟩ :: rest) fr H = opThen ((fieldAddrA P t (aeval fr x) f).map fun v => (v, H)) fun v H' => AOps P ops Q rest (lput fr d v) H' := by
  rw [AOps_cons]; simp only [guardA, ifG, callA, callOr, opA, putA]
  all_goals rfl
theorem AO_field {d : Tmp} {t : TypeId} {x : Operand} {f : Nat} : AOps P ops Q (⟨some d, .field t x f, ty, ps, af, none⟩ :: rest) fr H = opThen ((fieldA P t (aeval fr x) f).map fun v => (v, H)) fun v H' => AOps P ops Q rest (lput fr d v) H' := by
  rw [AOps_cons]; simp only [guardA, ifG, callA, callOr, opA, putA]
  all_goals rfl
theorem AO_indexAddr {d : Tmp} {t : TypeId} {x y : Operand} : AOps P ops Q (⟨some d, .indexAddr t x y, ty, ps, af, none⟩ :: rest) fr H = opThen ((indexAddrA P t (aeval fr x) (aeval fr y)).map fun v => (v, H)) fun v H' => AOps P ops Q rest (lput fr d v) H' := by
  rw [AOps_cons]; simp only [guardA, ifG, callA, callOr, opA, putA]
  all_goals rfl
theorem AO_index {d : Tmp} {t : TypeId} {x y : Operand} : AOps P ops Q (⟨some d, .index t x y, ty, ps, af, none⟩ :: rest) fr H = opThen ((indexA P t (aeval fr x) (aeval fr y)).map fun v => (v, H)) fun v H' => AOps P ops Q rest (lput fr d v) H' := by
  rw [AOps_cons]; simp only [guardA, ifG, callA, callOr, opA, putA]
  all_goals rfl
theorem AO_extract {d : Tmp} {x : Operand} {n : Nat} : AOps P ops Q (⟨some d, .extract x n, ty, ps, af, none⟩ :: rest) fr H = opThen (match aeval fr x with | .tup l => (l[n]?).map fun v => (v, H) | _ => none) fun v H' => AOps P ops Q rest (lput fr d v) H' := by
  rw [AOps_cons]; simp only [guardA, ifG, callA, callOr, opA, putA]
  all_goals rfl
theorem AO_builtin {d : Tmp} {b : Builtin} {args : Array Operand} {ts : Array TypeId} : AOps P ops Q (⟨some d, .call ⟨.builtin b, args, ts⟩, ty, ps, af, none⟩ :: rest) fr H = opThen (builtinA P b ts.toList (args.toList.map (aeval fr)) H) fun v H' => AOps P ops Q rest (lput fr d v) H' := by
  rw [AOps_cons]; simp only [guardA, ifG, callA, callOr, opA, putA]
  all_goals rfl
theorem AO_builtin0 {b : Builtin} {args : Array Operand} {ts : Array TypeId} : AOps P ops Q (⟨none, .call ⟨.builtin b, args, ts⟩, ty, ps, af, none⟩ :: rest) fr H = opThen (builtinA P b ts.toList (args.toList.map (aeval fr)) H) fun v H' => AOps P ops Q rest fr H' := by
  rw [AOps_cons]; simp only [guardA, ifG, callA, callOr, opA, putA]
  all_goals rfl
theorem AO_store {t : TypeId} {x y : Operand} : AOps P ops Q (⟨none, .store t x y, ty, ps, af, none⟩ :: rest) fr H = opThen (match aeval fr x with | .ptr p => (storeA P t p (aeval fr y) H).map fun H' => (.unk, H') | _ => none) fun v H' => AOps P ops Q rest fr H' := by
  rw [AOps_cons]; simp only [guardA, ifG, callA, callOr, opA, putA]
  all_goals rfl
theorem AO_call {d : Tmp} {f : FuncId} {args : Array Operand} {ts : Array TypeId} : AOps P ops Q (⟨some d, .call ⟨.value (.func f), args, ts⟩, ty, ps, af, none⟩ :: rest) fr H = ASpec P f (args.toList.map (aeval fr)) H fun r H' => AOps P ops Q rest (lput fr d r) H' := by
  rw [AOps_cons]; simp only [guardA, ifG, callA, callOr, opA, putA, aeval, List.append_nil]
theorem AO_call0 {f : FuncId} {args : Array Operand} {ts : Array TypeId} : AOps P ops Q (⟨none, .call ⟨.value (.func f), args, ts⟩, ty, ps, af, none⟩ :: rest) fr H = ASpec P f (args.toList.map (aeval fr)) H fun r H' => AOps P ops Q rest fr H' := by
  rw [AOps_cons]; simp only [guardA, ifG, callA, callOr, opA, putA, aeval, List.append_nil]
theorem AO_callT {d g : Tmp} {args : Array Operand} {ts : Array TypeId} : AOps P ops Q (⟨some d, .call ⟨.value (.tmp g), args, ts⟩, ty, ps, af, none⟩ :: rest) fr H = callOr (match lget fr g with | .func f l => some (f, args.toList.map (aeval fr) ++ l) | _ => none) (fun f as => ASpec P f as H fun r H' => AOps P ops Q rest (lput fr d r) H') False := by
  rw [AOps_cons]; simp only [guardA, ifG, callA, opA, putA, aeval, opThen]
  all_goals rfl
theorem AO_guard {d : Option Tmp} {op : Op} {j : Nat} {want : Bool} : AOps P ops Q (⟨d, op, ty, ps, af, some (j, want)⟩ :: rest) fr H = ifG (match (ops[j]?).bind (·.dst) with | some d => (match lget fr d with | .bool b => some (b == want) | .tup [] => some false | _ => none) | none => none) (AOps P ops Q rest (putA fr d (.tup [])) H) (AOps P ops Q (⟨d, op, ty, ps, af, none⟩ :: rest) fr H) := by
  rw [AOps_cons]
  conv => rhs; arg 3; rw [AOps_cons]
  simp only [guardA, ifG]
  rfl
end
def Steady (P : Program) {α : Type} (s : Sem α) : Prop := ∀ w z w', s.run P w = .ok z w' → ∀ u, s.run P u = .ok z u
def Never (P : Program) {α : Type} (s : Sem α) : Prop := ∀ w z w', s.run P w ≠ .ok z w'
section
variable {P : Program} {α β : Type}
theorem Never.steady {s : Sem α} (h : Never P s) : Steady P s := fun w z w' e => absurd e (h w z w')
theorem steady_pure (x : α) : Steady P (pure x : Sem α) := fun w z w' h u => by
  simp at h
  simp [h.1]
theorem never_halt (x : Halt) : Never P (.halt x : Sem α) := fun w z w' h => by cases h
theorem never_stuck (x : String) : Never P (stuck x : Sem α) := never_halt _
theorem never_unsupported (x : Unsupported) : Never P (unsupported x : Sem α) := never_halt _
theorem steady_bind {s : Sem α} {f : α → Sem β} (hs : Steady P s) (hf : ∀ z, Steady P (f z)) : Steady P (s >>= f) := fun w z w' h u => by
  simp only [Sem.run_bind] at h ⊢
  cases hr : s.run P w with
  | halt x w1 => rw [hr] at h; cases h
  | ok y w1 =>
    rw [hr] at h
    simp only [Result.andThen_ok] at h
    rw [hs w y w1 hr u]
    simp only [Result.andThen_ok]
    exact hf y w1 z w' h u
theorem never_bind {s : Sem α} {f : α → Sem β} (hf : ∀ z, Never P (f z)) : Never P (s >>= f) := fun w z w' h => by
  simp only [Sem.run_bind] at h
  cases hr : s.run P w with
  | halt x w1 => rw [hr] at h; cases h
  | ok y w1 => rw [hr] at h; simp only [Result.andThen_ok] at h; exact hf y w1 z w' h
theorem steady_program : Steady P program := fun w z w' h u => by
  have e : ∀ w, program.run P w = .ok P w := fun w => by simp
  rw [e] at h
  injection h with h1 h2
  rw [e, h1]
theorem steady_underlying (t : TypeId) : Steady P (underlying t) := by
  unfold underlying
  refine steady_bind steady_program fun p => ?_
  split
  · exact steady_pure _
  · exact (never_stuck _).steady
theorem steady_typeInfo (t : TypeId) : Steady P (typeInfo t) := by
  unfold typeInfo
  refine steady_bind steady_program fun p => ?_
  split
  · exact steady_pure _
  · exact (never_stuck _).steady
theorem steady_sizeOf (t : TypeId) : Steady P (sizeOf t) := steady_bind (steady_typeInfo t) fun _ => steady_pure _
theorem never_panic (e : RuntimeError) : Never P (runtimePanic e : Sem α) := by
  unfold runtimePanic
  refine never_bind fun p => ?_
  cases e <;> first | exact never_halt _ | exact never_bind fun _ => never_bind fun _ => never_halt _
theorem never_bounds (k : IntKind) (x y : Int) (c : BoundsCode) : Never P (boundsPanic k x y c : Sem α) := by
  unfold boundsPanic
  dsimp only
  split <;> exact never_bind fun _ => never_panic _
theorem steady_asIntOf (v : Value) : Steady P (asIntOf v) := by
  unfold asIntOf
  split
  · exact steady_pure _
  · exact (never_unsupported _).steady
  · exact (never_stuck _).steady
theorem steady_sureAddr (v : Value) : Steady P (Instr.sureAddr v) := by
  unfold Instr.sureAddr
  split
  · exact steady_pure _
  · exact (never_stuck _).steady
theorem steady_asAddr (v : Value) : Steady P (asAddr v) := by
  unfold asAddr
  split
  · exact steady_pure _
  · exact (never_panic _).steady
  · exact (never_stuck _).steady
theorem steady_sliceBound (x : Value) (y : Nat) (c : BoundsCode) : Steady P (Instr.sliceBound x y c) := by
  unfold Instr.sliceBound
  refine steady_bind (steady_asIntOf x) fun ki => ?_
  obtain ⟨k, i⟩ := ki
  simp only
  split
  · exact steady_pure _
  · exact (never_bounds _ _ _ _).steady
theorem steady_sliceBounds (b : Bool) (len cap : Nat) (lo hi mx : Option Value) : Steady P (Instr.sliceBounds b len cap lo hi mx) := by
  unfold Instr.sliceBounds
  cases mx <;> cases hi <;> cases lo <;> dsimp only
  all_goals repeat first
    | exact steady_pure _
    | exact (never_stuck _).steady
    | refine steady_bind (steady_sliceBound _ _ _) fun _ => ?_
    | refine steady_bind (steady_pure _) fun _ => ?_
    | refine steady_bind (never_stuck _).steady fun _ => ?_
theorem steady_slice (t : TypeId) (x : Value) (lo hi mx : Option Value) : Steady P (Instr.slice t x lo hi mx) := by
  unfold Instr.slice
  refine steady_bind (steady_underlying t) fun d => ?_
  split
  · split
    · exact (never_stuck _).steady
    · exact steady_bind (steady_sliceBounds _ _ _ _ _ _) fun _ => steady_pure _
  · exact steady_bind (steady_sliceBounds _ _ _ _ _ _) fun _ => steady_bind (steady_sizeOf _) fun _ => steady_pure _
  · refine steady_bind (steady_asAddr _) fun a => steady_bind (steady_underlying _) fun d => ?_
    split
    · exact steady_bind (steady_sliceBounds _ _ _ _ _ _) fun _ => steady_bind (steady_sizeOf _) fun _ => steady_pure _
    · exact (never_stuck _).steady
  · exact (never_stuck _).steady
theorem steady_sliceAt (t : TypeId) (x : Value) (lo hi mx : Option Value) : Steady P (Instr.sliceAt t x lo hi mx) := by
  unfold Instr.sliceAt
  refine steady_bind (steady_underlying t) fun d => ?_
  split
  · exact steady_bind (steady_sureAddr _) fun a => steady_bind (steady_sliceBounds _ _ _ _ _ _) fun _ => steady_bind (steady_sizeOf _) fun _ => steady_pure _
  · exact steady_slice _ _ _ _ _
end
theorem b_false (b : Bool) : (b == false) = !b := by cases b <;> rfl
theorem b_true (b : Bool) : (b == true) = b := by cases b <;> rfl
end Go.Abs
set_option linter.unusedVariables false
set_option linter.unusedSimpArgs false
namespace Go.Abs
open Go Go.RowKit
def rigidA (H : AH) : AV → Bool
  | .bool _ | .int .. | .str _ | .nilptr | .nilslice | .nilfunc | .nilif => true
  | .ptr a => a.ro || (H.cells? a.blk).isSome
  | .slice a _ (.known c) => decide (0 < c) && (a.ro || (H.cells? a.blk).isSome)
  | .agg l => plainL l
  | _ => false
theorem LocLe.trans {ι ι' ι'' : List Loc} (h : LocLe ι ι') (k : LocLe ι' ι'') : LocLe ι ι'' := fun i L hl => by
  rcases h i L hl with h1 | ⟨h1, h2⟩
  · exact k i L h1
  · rcases k i _ h1 with h3 | ⟨h3, _⟩
    · exact .inr ⟨h3, h2⟩
    · exact .inr ⟨h3, h2⟩
theorem live_at {w0 w : World} {ι : List Loc} {H : AH} (h : Rep w0 ι H w) {i : Nat} (hc : (H.cells? i).isSome = true) : ι[i]? = some .pend ∨ ι[i]? = some .nil ∨ ∃ B O m, ι[i]? = some (.at B O m) := by
  obtain ⟨l, hl⟩ := Option.isSome_iff_exists.1 hc
  rcases h.blk i l (cells?_some hl) with h1 | ⟨h1, _⟩ | ⟨B, O, m, h1, _⟩
  · exact .inl h1
  · exact .inr (.inl h1)
  · exact .inr (.inr ⟨B, O, m, h1⟩)
theorem live_same {w0 w' : World} {ι ι' : List Loc} {H' : AH} (h' : Rep w0 ι' H' w') (le : LocLe ι ι') {i : Nat} {B O m : Nat} (ha : ι[i]? = some (.at B O m)) (hc : (H'.cells? i).isSome = true) : ι'[i]? = some (.at B O m) := by
  rcases le i _ ha with h1 | ⟨h1, _⟩
  · exact h1
  · rcases live_at h' hc with h2 | h2 | ⟨B', O', m', h2⟩ <;> rw [h1] at h2 <;> cases h2
theorem rigid_eq {w0 w w' : World} {ι ι' : List Loc} {H H' : AH} (h : Rep w0 ι H w) (h' : Rep w0 ι' H' w') (le : LocLe ι ι') {x : AV} (r : rigidA H x = true) (r' : rigidA H' x = true) {v v' : Value} (hv : RV w0.heap.size ι x v) (hv' : RV w0.heap.size ι' x v') : v' = v := by
  cases x with
  | ptr a =>
    unfold RV RPtr at hv hv'
    by_cases hro : a.ro = true
    · rw [if_pos hro] at hv hv'; rw [hv.2, hv'.2]
    · rw [if_neg hro] at hv hv'
      have hro' : a.ro = false := by simpa using hro
      simp only [rigidA, hro', Bool.false_or] at r r'
      rcases live_at h r with h1 | h1 | ⟨B, O, m, h1⟩
      · rw [h1] at hv; exact hv.elim
      · rw [h1] at hv; exact hv.elim
      · rw [h1] at hv
        rw [live_same h' le h1 r'] at hv'
        rw [hv, hv']
  | slice a n c =>
    cases c with
    | grow g => simp [rigidA] at r
    | known c =>
      simp only [rigidA, Bool.and_eq_true, decide_eq_true_eq] at r r'
      unfold RV RSlice at hv hv'
      by_cases hro : a.ro = true
      · rw [if_pos hro] at hv hv'
        obtain ⟨c1, hc1, _, hv⟩ := hv
        obtain ⟨c2, hc2, _, hv'⟩ := hv'
        injection hc1 with hc1
        injection hc2 with hc2
        subst hc1 hc2
        rcases hv with ⟨_, hv⟩ | ⟨hz, _⟩
        · rcases hv' with ⟨_, hv'⟩ | ⟨hz, _⟩
          · rw [hv, hv']
          · omega
        · omega
      · rw [if_neg hro] at hv hv'
        have hro' : a.ro = false := by simpa using hro
        simp only [hro', Bool.false_or] at r r'
        rcases live_at h r.2 with h1 | h1 | ⟨B, O, m, h1⟩
        · rw [h1] at hv; exact hv.elim
        · rw [h1] at hv; obtain ⟨_, _, sz, hc⟩ := hv; cases hc
        · rw [h1] at hv
          rw [live_same h' le h1 r'.2] at hv'
          obtain ⟨_, hv | ⟨hz, _⟩⟩ := hv
          · obtain ⟨_, hv' | ⟨hz, _⟩⟩ := hv'
            · rw [hv, hv']
            · omega
          · omega
  | agg l => exact RV_plain_eq (by simpa [rigidA, plainA] using r) hv hv'
  | bool _ => unfold RV at hv hv'; rw [hv, hv']
  | int _ _ => unfold RV at hv hv'; rw [hv, hv']
  | str _ => unfold RV at hv hv'; rw [hv, hv']
  | nilptr => unfold RV at hv hv'; rw [hv, hv']
  | nilslice => unfold RV at hv hv'; rw [hv, hv']
  | nilfunc => unfold RV at hv hv'; rw [hv, hv']
  | nilif => unfold RV at hv hv'; rw [hv, hv']
  | _ => simp [rigidA] at r
def copyOp : Op → Bool
  | .move _ | .assign _ | .pick .. | .extract .. | .slice .. | .build .. | .nilCheck _ => true
  | _ => false
def stillOp : Op → Bool
  | .load .. | .binOp .. | .unOp .. | .slice .. | .fieldAddr .. | .field .. | .indexAddr .. | .index .. => true
  | .convert .. => true
  | .call { callee := .builtin .len, args := _, argTypes := _ } => true
  | .call { callee := .builtin .min, args := _, argTypes := _ } => true
  | .call { callee := .builtin .max, args := _, argTypes := _ } => true
  | _ => false
section
variable {P : Program} {w0 w : World} {ι : List Loc} {H : AH}
theorem steady_mapM {α β : Type} {f : α → Sem β} (hf : ∀ x, Steady P (f x)) : ∀ l : List α, Steady P (l.mapM f)
  | [] => by rw [List.mapM_nil]; exact steady_pure _
  | x :: l => by rw [List.mapM_cons]; exact steady_bind (hf x) fun _ => steady_bind (steady_mapM hf l) fun _ => steady_pure _
theorem steady_map {α β : Type} {f : α → β} {s : Sem α} (hs : Steady P s) : Steady P (f <$> s) := fun w z w' h u => by
  simp only [Sem.run_map] at h ⊢
  cases hr : s.run P w with
  | halt x w1 => rw [hr] at h; cases h
  | ok y w1 =>
    rw [hr] at h
    rw [hs w y w1 hr u]
    simp_all
theorem steady_zeroValue (t : TypeId) : Steady P (zeroValue t) := by
  unfold zeroValue
  refine steady_bind (steady_typeInfo t) fun i => ?_
  split
  · exact steady_pure _
  · exact (never_unsupported _).steady
theorem steady_build (t : TypeId) (q : Array (Nat × Value)) : Steady P (Instr.build t q) := by
  unfold Instr.build
  refine steady_bind (steady_zeroValue t) fun z => steady_bind (steady_underlying t) fun d => ?_
  split
  · refine steady_bind (by rw [Array.mapM_eq_mapM_toList]; exact steady_map (steady_mapM (fun f => steady_bind (steady_sizeOf _) fun _ => steady_pure _) _)) fun pl => ?_
    split
    · exact steady_pure _
    · exact (never_stuck _).steady
  · refine steady_bind (steady_sizeOf _) fun n => ?_
    split
    · exact steady_pure _
    · exact (never_stuck _).steady
  · exact (never_stuck _).steady
theorem opA_copy (h : Rep w0 ι H w) {fr : AFr} {a : Act} (hf : RFr w0.heap.size ι fr a.tmps) {o : Oper} {v : AV} {H' : AH} (hc : copyOp o.op = true) (ho : opA P fr H o.op = some (v, H')) :
    H' = H ∧ ∃ cv, (∀ w, (execOp a.eval o).run P w = .ok (.value cv) w) ∧ RV w0.heap.size ι v cv := by
  obtain ⟨dst, op, type, pos, after, guard⟩ := o
  simp only at ho hc
  cases op <;> simp only [copyOp, Bool.false_eq_true] at hc
  case move x => simp only [opA] at ho; injection ho with ho; injection ho with e1 e2; subst e1 e2; exact ⟨rfl, a.eval x, fun _ => rfl, aeval_ok hf x⟩
  case nilCheck x =>
    simp only [opA] at ho
    have hx := aeval_ok hf x
    split at ho
    · rename_i p hp
      injection ho with ho; injection ho with e1 e2; subst e1 e2
      rw [hp] at hx
      have hx' := hx
      unfold RV at hx
      obtain ⟨q, hq⟩ := RPtr_some hx
      exact ⟨rfl, a.eval x, fun w => by simp [execOp, hq], hx'⟩
    · rename_i f l hp
      injection ho with ho; injection ho with e1 e2; subst e1 e2
      rw [hp] at hx
      have hx' := hx
      unfold RV at hx
      obtain ⟨cs, hcs, _⟩ := hx
      exact ⟨rfl, a.eval x, fun w => by simp [execOp, hcs], hx'⟩
    · cases ho
  case assign x => simp only [opA] at ho; injection ho with ho; injection ho with e1 e2; subst e1 e2; exact ⟨rfl, a.eval x, fun _ => rfl, aeval_ok hf x⟩
  case pick c x y =>
    simp only [opA] at ho
    split at ho
    · rename_i t ht
      injection ho with ho; injection ho with e1 e2; subst e1 e2
      have hc := aeval_ok hf c
      rw [ht] at hc
      unfold RV at hc
      refine ⟨rfl, if t then a.eval x else a.eval y, fun w => by simp [execOp, hc, asBool], ?_⟩
      cases t
      · exact aeval_ok hf y
      · exact aeval_ok hf x
    · cases ho
  case extract x i =>
    simp only [opA] at ho
    have hx := aeval_ok hf x
    split at ho
    · rename_i l hl
      obtain ⟨v', hv, ho⟩ := Option.map_eq_some_iff.1 ho
      injection ho with e1 e2; subst e1 e2
      rw [hl] at hx
      unfold RV at hx
      obtain ⟨cs, hcs, hrl⟩ := hx
      obtain ⟨z, r1, r2⟩ := hrl.get hv
      rw [Array.getElem?_toList] at r1
      exact ⟨rfl, z, fun w => by simp [execOp, hcs, Instr.extract, r1], r2⟩
    · cases ho
  case build t q =>
    simp only [opA] at ho
    obtain ⟨v', hv, ho⟩ := Option.map_eq_some_iff.1 ho
    injection ho with e1 e2; subst e1 e2
    obtain ⟨p1, p2⟩ := parts_ok hf q
    obtain ⟨z, r1, r2⟩ := buildA_run (P := P) hv p1 p2 w
    have r3 := steady_build t _ w z w r1
    exact ⟨rfl, z, fun u => by simp [execOp, r3 u], r2⟩
  case slice t x lo hi mx =>
    simp only [opA] at ho
    obtain ⟨v', hv, ho⟩ := Option.map_eq_some_iff.1 ho
    injection ho with e1 e2; subst e1 e2
    obtain ⟨z, r1, r2⟩ := sliceOpA_run (P := P) hv (aeval_ok hf x) (opt_ok hf lo) (opt_ok hf hi) (opt_ok hf mx) w
    have r3 := steady_sliceAt t _ _ _ _ w z w r1
    exact ⟨rfl, z, fun u => by simp [execOp, r3 u], r2⟩
theorem opA_still (h : Rep w0 ι H w) {fr : AFr} {a : Act} (hf : RFr w0.heap.size ι fr a.tmps) {o : Oper} {v : AV} {H' : AH} (hc : stillOp o.op = true) (hr : ∀ a n c, v ≠ .slice a n c ∨ ∀ s d x, o.op ≠ .convert s d x) (ho : opA P fr H o.op = some (v, H')) :
    H' = H ∧ ∃ cv, (execOp a.eval o).run P w = .ok (.value cv) w ∧ RV w0.heap.size ι v cv := by
  have fin : ∀ {s : Sem Value} {z : Value}, s.run P w = .ok z w → (do pure (Next.value (← s)) : Sem Next).run P w = .ok (.value z) w := fun hs => by simp [hs]
  obtain ⟨dst, op, type, pos, after, guard⟩ := o
  simp only at ho hc hr
  cases op with
  | load t x =>
    simp only [opA] at ho
    split at ho
    · rename_i p hp
      obtain ⟨v', hv, ho⟩ := Option.map_eq_some_iff.1 ho
      injection ho with e1 e2; subst e1 e2
      have hx := aeval_ok hf x
      rw [hp] at hx
      unfold RV at hx
      obtain ⟨z, r1, r2⟩ := loadA_run (P := P) h hv hx
      exact ⟨rfl, z, fin r1, r2⟩
    · cases ho
  | binOp op t x y yt =>
    simp only [opA] at ho
    obtain ⟨v', hv, ho⟩ := Option.map_eq_some_iff.1 ho
    injection ho with e1 e2; subst e1 e2
    obtain ⟨z, r1, r2⟩ := binA_run (P := P) hv (aeval_ok hf x) (aeval_ok hf y) x y w
    exact ⟨rfl, z, fin r1, r2⟩
  | unOp op t x =>
    simp only [opA] at ho
    obtain ⟨v', hv, ho⟩ := Option.map_eq_some_iff.1 ho
    injection ho with e1 e2; subst e1 e2
    obtain ⟨z, r1, r2⟩ := unA_run (P := P) hv (aeval_ok hf x) w
    exact ⟨rfl, z, fin r1, r2⟩
  | slice t x lo hi mx =>
    simp only [opA] at ho
    obtain ⟨v', hv, ho⟩ := Option.map_eq_some_iff.1 ho
    injection ho with e1 e2; subst e1 e2
    obtain ⟨z, r1, r2⟩ := sliceOpA_run (P := P) hv (aeval_ok hf x) (opt_ok hf lo) (opt_ok hf hi) (opt_ok hf mx) w
    exact ⟨rfl, z, fin r1, r2⟩
  | fieldAddr s x f =>
    simp only [opA] at ho
    obtain ⟨v', hv, ho⟩ := Option.map_eq_some_iff.1 ho
    injection ho with e1 e2; subst e1 e2
    obtain ⟨z, r1, r2⟩ := fieldAddrA_run (P := P) hv (aeval_ok hf x) w
    exact ⟨rfl, z, fin r1, r2⟩
  | field t x f =>
    simp only [opA] at ho
    obtain ⟨v', hv, ho⟩ := Option.map_eq_some_iff.1 ho
    injection ho with e1 e2; subst e1 e2
    obtain ⟨z, r1, r2⟩ := fieldA_run (P := P) hv (aeval_ok hf x) w
    exact ⟨rfl, z, fin r1, r2⟩
  | indexAddr t x i =>
    simp only [opA] at ho
    obtain ⟨v', hv, ho⟩ := Option.map_eq_some_iff.1 ho
    injection ho with e1 e2; subst e1 e2
    obtain ⟨z, r1, r2⟩ := indexAddrA_run (P := P) hv (aeval_ok hf x) (aeval_ok hf i) w
    exact ⟨rfl, z, fin r1, r2⟩
  | index t x i =>
    simp only [opA] at ho
    obtain ⟨v', hv, ho⟩ := Option.map_eq_some_iff.1 ho
    injection ho with e1 e2; subst e1 e2
    obtain ⟨z, r1, r2⟩ := indexA_run (P := P) hv (aeval_ok hf x) (aeval_ok hf i) w
    exact ⟨rfl, z, fin r1, r2⟩
  | convert s d x =>
    simp only [opA] at ho
    have hx := aeval_ok hf x
    generalize aeval fr x = ax at ho hx
    unfold convertA at ho
    split at ho
    · rename_i ds k kk n hs hd
      injection ho with ho; injection ho with e1 e2; subst e1 e2
      unfold RV at hx
      refine ⟨rfl, .int k (k.wrap n), fin (s := convert s d (a.eval x)) ?_, rfl⟩
      rw [hx]
      cases ds <;> simp [convert, run_underlying hs, run_underlying hd, Conv.intToInt]
    · rename_i e _ hs hd
      split at ho
      · rename_i he
        obtain ⟨cs, hrow, ho⟩ := Option.bind_eq_some_iff.1 ho
        obtain ⟨bs, hb, ho⟩ := Option.map_eq_some_iff.1 ho
        injection ho with e1 e2; subst e1 e2
        have hrun := bytesToString_run (P := P) h hrow hb hx
        obtain ⟨q, C, hq, _⟩ := rowA_run (P := P) h hrow hx rfl
        refine ⟨rfl, _, fin (s := convert s d (a.eval x)) (by rw [hq] at hrun ⊢; simp [convert, run_underlying hs, run_underlying hd, run_underlying he, hrun]; rfl), by unfold RV; rfl⟩
      · cases ho
    · rename_i es e b n c hs hd
      split at ho
      · injection ho with ho; injection ho with e1 e2; subst e1
        rcases hr b n c with h1 | h1
        · exact absurd rfl h1
        · exact absurd rfl (h1 s d x)
      · cases ho
    · cases ho
  | call c =>
    obtain ⟨callee, args, argTypes⟩ := c
    cases callee with
    | builtin b =>
      simp only [opA] at ho
      have hy : RVL w0.heap.size ι (args.toList.map (aeval fr)) (args.map a.eval).toList := by rw [Array.toList_map]; exact ops_ok hf _
      simp only [execOp, resolve, invoke, pure_bind]
      generalize (args.map a.eval) = ys at hy ⊢
      obtain ⟨ys⟩ := ys
      simp only at hy
      obtain ⟨argTypes⟩ := argTypes
      simp only at ho ⊢
      cases b <;> simp only [stillOp, Bool.false_eq_true] at hc
      case len =>
        unfold builtinA at ho
        split at ho <;> try (rename_i h1; cases h1)
        all_goals try contradiction
        rename_i t x hxx
        obtain ⟨v', hl, ho⟩ := Option.map_eq_some_iff.1 ho
        injection ho with e1 e2; subst e1 e2
        rw [hxx] at hy
        simp only [RVL] at hy
        obtain ⟨y, m, rfl, h1, rfl⟩ := hy
        obtain ⟨z, r1, r2⟩ := lenA_run (P := P) hl h1 type w
        exact ⟨rfl, z, fin r1, r2⟩
      case min =>
        unfold builtinA at ho
        split at ho <;> try (rename_i h1; cases h1)
        all_goals try contradiction
        rename_i x l _ hxx
        obtain ⟨v', hl, ho⟩ := Option.map_eq_some_iff.1 ho
        injection ho with e1 e2; subst e1 e2
        rw [hxx] at hy
        simp only [RVL] at hy
        obtain ⟨y, m, rfl, h1, h2⟩ := hy
        obtain ⟨z, r1, r2⟩ := foldA_run (P := P) (w := w) (g := Builtin.min2) (fun h a b => min2A_run h a b) l m hl h1 h2
        exact ⟨rfl, z, fin (by simpa [builtin, Builtin.min_] using r1), r2⟩
      case max =>
        unfold builtinA at ho
        split at ho <;> try (rename_i h1; cases h1)
        all_goals try contradiction
        rename_i x l _ hxx
        obtain ⟨v', hl, ho⟩ := Option.map_eq_some_iff.1 ho
        injection ho with e1 e2; subst e1 e2
        rw [hxx] at hy
        simp only [RVL] at hy
        obtain ⟨y, m, rfl, h1, h2⟩ := hy
        obtain ⟨z, r1, r2⟩ := foldA_run (P := P) (w := w) (g := Builtin.max2) (fun h a b => max2A_run h a b) l m hl h1 h2
        exact ⟨rfl, z, fin (by simpa [builtin, Builtin.max_] using r1), r2⟩
    | _ => simp only [stillOp, Bool.false_eq_true] at hc
  | _ => simp only [stillOp, Bool.false_eq_true] at hc
end
def Held (w0 : World) (ι : List Loc) (ro : Nat → List AV) (R : AH → Prop) (w : World) : Prop := ∃ ι' H', Rep w0 ι' H' w ∧ LocLe ι ι' ∧ R H' ∧ H'.ro = ro
def onlyN (QC : Exit → Act → World → Prop) : Exit → Act → World → Prop := fun e a w => e = .normal ∧ QC .normal a w
theorem wpAnyH_mono {P : Program} {md : Region.Mode} {ops : Array Oper} {Q : Exit → Act → World → Prop} {S S' : World → Prop} (hS : ∀ w, S' w → S w) : ∀ (fuel : Nat) (listed : Array Bool) (a : Act) (w : World), wpAnyH P md ops Q S' fuel listed a w → wpAnyH P md ops Q S fuel listed a w
  | 0, _, _, _, h => h
  | fuel + 1, listed, a, w, h => ⟨h.1, fun i hi => wpOp_mono (fun a' w' h' => ⟨hS _ h'.1, wpAnyH_mono hS fuel _ _ _ h'.2⟩) (h.2 i hi)⟩
def convOk : Op → AV → Bool
  | .convert .., .slice .. => false
  | _, _ => true
def StillAt (P : Program) (R : AH → Prop) (fr : AFr) (H : AH) (op : Op) (v : AV) : Prop :=
  copyOp op = true ∨ (stillOp op = true ∧ convOk op v = true ∧ rigidA H v = true ∧ ∀ H', R H' → H'.ro = H.ro → opA P fr H' op = some (v, H') ∧ rigidA H' v = true)
def DOps (P : Program) (ops : Array Oper) (R : AH → Prop) (Q : AFr → AH → Prop) : List (Option Oper × Bool) → AFr → AH → Prop
  | [], fr, H => Q fr H
  | (none, _) :: _, _, _ => False
  | (some o, true) :: rest, fr, H => ifG (guardA ops fr o) (DOps P ops R Q rest (putA fr o.dst (.tup [])) H) (opThen (opA P fr H o.op) fun v _ => StillAt P R fr H o.op v ∧ DOps P ops R Q rest (putA fr o.dst v) H)
  | (some o, false) :: rest, fr, H => AOps P ops (fun fr' H' => R H' ∧ DOps P ops R Q rest fr' H') [o] fr H
def drawOk (md : Region.Mode) (ops : Array Oper) : List (Nat × Bool) → Array Bool → Bool
  | [], listed => (Region.ready md ops listed).isEmpty
  | (i, true) :: l, listed => Region.free md ops listed i && (Region.ready md ops listed).contains i && drawOk md ops l (listed.setIfInBounds i true)
  | (i, false) :: l, listed => (Region.ready md ops listed == [i]) && drawOk md ops l (listed.setIfInBounds i true)
theorem DOps_sound {P : Program} {md : Region.Mode} {ops : Array Oper} {R : AH → Prop} {Q : AFr → AH → Prop} {N : Nat} {ds : List Deferred} {QC : Exit → Act → World → Prop} {w0 : World} (hsel : Region.noSelect ops = true) (hd : ∀ (i : Nat) (o : Oper), ops[i]? = some o → ∀ d, o.dst = some d → d < N)
    {ιs : List Loc} {Hs : AH} {ws : World} (hQ : ∀ fr' H' ι' a' w', Q fr' H' → St w0 ι' N ds fr' H' a' w' → Ext ιs Hs ws ι' H' w' → QC .normal a' w') :
    ∀ (l : List (Nat × Bool)) (listed : Array Bool) (fr : AFr) (H : AH) (a : Act) (w : World) (ι : List Loc), drawOk md ops l listed = true → DOps P ops R Q (l.map fun p => (ops[p.1]?, p.2)) fr H → St w0 ι N ds fr H a w → R H → Ext ιs Hs ws ι H w →
      wpAnyH P md ops (onlyN QC) (Held w0 ι H.ro R) l.length listed a w
  | [], listed, fr, H, a, w, ι, hok, h, hs, hR, he => by
    simp only [drawOk, List.isEmpty_iff] at hok
    exact wpAnyH_done hok ⟨rfl, hQ _ _ _ _ _ h hs he⟩ _
  | (i, true) :: l, listed, fr, H, a, w, ι, hok, h, hs, hR, he => by
    simp only [drawOk, Bool.and_eq_true] at hok
    obtain ⟨⟨hf, hr⟩, hok⟩ := hok
    simp only [List.map_cons] at h
    cases hi : ops[i]? with
    | none => rw [hi] at h; exact h.elim
    | some o =>
      rw [hi] at h
      simp only [DOps] at h
      have hheld : Held w0 ι H.ro R w := ⟨ι, H, hs.rep, LocLe.refl ι, hR, rfl⟩
      have hp : ∀ c a' (w' : World) (v : Value), onlyN QC (.panic c) (a'.put o.dst v) w' → onlyN QC (.panic c) a' w' := fun c a' w' v hh => by cases hh.1
      cases hg : guardA ops fr o with
      | none => rw [hg] at h; exact h.elim
      | some b =>
        rw [hg] at h
        have hw := guardA_ok hs hg
        cases b with
        | false =>
          simp only [ifG] at h
          exact wpAnyH_take (v := undef) hi hsel hf hr (fun c a' w' => hp c a' w' _) (.inr ⟨hw, rfl⟩) hheld
            (DOps_sound hsel hd hQ l _ _ H _ w ι hok h (hs.put (hd i o hi) hs.rep (LocLe.refl ι) RV_undef) hR he)
        | true =>
          simp only [ifG] at h
          cases ho : opA P fr H o.op with
          | none => rw [ho] at h; exact h.elim
          | some vh =>
            obtain ⟨v, H1⟩ := vh
            rw [ho] at h
            simp only [opThen] at h
            obtain ⟨hst, h⟩ := h
            have key : ∃ cv, YieldsIf P ops (Held w0 ι H.ro R) o cv a ∧ RV w0.heap.size ι v cv := by
              rcases hst with hc | ⟨hc, hconv, hrig, hall⟩
              · obtain ⟨_, cv, h1, h2⟩ := opA_copy hs.rep hs.fr hc ho
                exact ⟨cv, .inl ⟨hw, fun w' _ => h1 w'⟩, h2⟩
              · have hcv : ∀ a n c, v ≠ .slice a n c ∨ ∀ s d x, o.op ≠ .convert s d x := fun a' n c => by
                  by_cases hv : v = .slice a' n c
                  · right
                    intro s d x he
                    rw [he, hv] at hconv
                    cases hconv
                  · exact .inl hv
                obtain ⟨_, cv, h1, h2⟩ := opA_still hs.rep hs.fr hc hcv ho
                refine ⟨cv, .inl ⟨hw, fun w' hw' => ?_⟩, h2⟩
                obtain ⟨ι', H', hrep, hle, hRH, hro⟩ := hw'
                obtain ⟨g1, g2⟩ := hall H' hRH hro
                obtain ⟨_, cv', k1, k2⟩ := opA_still hrep (hs.fr.ext hle) hc hcv g1
                rw [k1, rigid_eq hs.rep hrep hle hrig g2 h2 k2]
            obtain ⟨cv, hy, hv⟩ := key
            exact wpAnyH_take (v := cv) hi hsel hf hr (fun c a' w' => hp c a' w' _) hy hheld
              (DOps_sound hsel hd hQ l _ _ H _ w ι hok h (hs.put (hd i o hi) hs.rep (LocLe.refl ι) hv) hR he)
  | (i, false) :: l, listed, fr, H, a, w, ι, hok, h, hs, hR, he => by
    simp only [drawOk, Bool.and_eq_true, beq_iff_eq] at hok
    obtain ⟨hr, hok⟩ := hok
    simp only [List.map_cons] at h
    cases hi : ops[i]? with
    | none => rw [hi] at h; exact h.elim
    | some o =>
      rw [hi] at h
      simp only [DOps] at h
      refine wpAnyH_all hr (by simp) fun j hj => ?_
      obtain rfl : j = i := by simpa using hj
      have step : ∀ fr1 H1 ι1 a1 w1, R H1 ∧ DOps P ops R Q (l.map fun p => (ops[p.1]?, p.2)) fr1 H1 → St w0 ι1 N ds fr1 H1 a1 w1 → Ext ι H w ι1 H1 w1 →
          Held w0 ι H.ro R w1 ∧ wpAnyH P md ops (onlyN QC) (Held w0 ι H.ro R) l.length (listed.setIfInBounds j true) a1 w1 := fun fr1 H1 ι1 a1 w1 hh hs1 he1 => by
        refine ⟨⟨ι1, H1, hs1.rep, he1.le, hh.1, he1.ro⟩, ?_⟩
        refine wpAnyH_mono (S' := Held w0 ι1 H1.ro R) ?_ _ _ _ _ (DOps_sound hsel hd hQ l _ fr1 H1 a1 w1 ι1 hok hh.2 hs1 hh.1 (he.trans he1))
        rintro w2 ⟨ι2, H2, k1, k2, k3, k4⟩
        exact ⟨ι2, H2, k1, he1.le.trans k2, k3, k4.trans he1.ro⟩
      unfold wpOp
      simp only [hi]
      simp only [AOps] at h
      cases hg : guardA ops fr o with
      | none => rw [hg] at h; exact h.elim
      | some b =>
        rw [hg] at h
        rw [guardA_ok hs hg]
        cases b with
        | false =>
          simp only at h
          simp only [Bool.false_eq_true, if_false]
          exact step _ _ ι _ w h (hs.put (hd j o hi) hs.rep (LocLe.refl ι) RV_undef) (Ext.refl _ _ _)
        | true =>
          simp only at h
          simp only [if_true]
          left
          cases hc : callA fr o.op with
          | some fa =>
            obtain ⟨f, args⟩ := fa
            rw [hc] at h
            simp only at h
            exact call_step hs hc (hd j o hi) h fun r H' ι' a' w' h1 h2 h3 => step _ _ _ _ _ h1 h2 h3
          | none =>
            rw [hc] at h
            simp only at h
            cases ho : opA P fr H o.op with
            | none => rw [ho] at h; exact h.elim
            | some vh =>
              obtain ⟨v, H'⟩ := vh
              rw [ho] at h
              exact op_step hs ho (hd j o hi) fun ι' a' w' h2 h3 => step _ _ _ _ _ h h2 h3
theorem awp_draw {P : Program} {N : Nat} {Q : Exit → AFr → AH → Prop} {fr : AFr} {H : AH} {id : Nat} {l : List Oper} (R : AH → Prop) (order : List (Nat × Bool)) (hm : P.follows .mixedOrders = true) (hd : dstsOk N l = true)
    (hok : (Region.noSelect l.toArray && order.length == l.length && drawOk .any l.toArray order (Array.replicate l.length false)) = true) (hR : R H)
    (h : DOps P l.toArray R (Q .normal) (order.map fun p => (l.toArray[p.1]?, p.2)) fr H) : AWp P N (.region id l.toArray true) Q fr H := fun ds w0 ι a w QC hs hQ => by
  simp only [Bool.and_eq_true, beq_iff_eq] at hok
  obtain ⟨⟨h1, h2⟩, h3⟩ := hok
  have hdr : ∀ (i : Nat) (o : Oper), l.toArray[i]? = some o → ∀ d, o.dst = some d → d < N := fun i o ho => dstsOk_spec hd o (List.mem_of_getElem? (by simpa using ho))
  obtain ⟨k0, k2⟩ := hs.rep.drew
  have k1 : St w0 ι N ds fr H a w.drew := ⟨k0, hs.fr, hs.size, hs.defers⟩
  refine wp_mono (Q := onlyN QC) (wp_region_held (S := Held w0 ι H.ro R) hm ?_) (fun e a w hh => hh.1 ▸ hh.2)
  have := DOps_sound (P := P) (md := .any) (QC := QC) h1 hdr (fun fr' H' ι' a' w' g1 g2 g3 => hQ .normal fr' H' ι' a' w' g1 g2 g3) order _ fr H a { w with drawn := w.drawn + 1 } ι h3 h k1 hR k2
  rw [h2] at this
  simpa using this
end Go.Abs
set_option linter.unusedVariables false
set_option linter.unusedSimpArgs false
namespace Go.Abs
open Go Go.RowKit
def rigR (R : AH → Prop) (H : AH) (v : AV) : Prop := rigidA H v = true ∧ ∀ H', R H' → H'.ro = H.ro → rigidA H' v = true
theorem rig_int {R : AH → Prop} {H : AH} {k : IntKind} {n : Int} : rigR R H (.int k n) = True := by simp [rigR, rigidA]
theorem rig_bool {R : AH → Prop} {H : AH} {b : Bool} : rigR R H (.bool b) = True := by simp [rigR, rigidA]
theorem rig_str {R : AH → Prop} {H : AH} {b : ByteArray} : rigR R H (.str b) = True := by simp [rigR, rigidA]
theorem rig_nilptr {R : AH → Prop} {H : AH} : rigR R H .nilptr = True := by simp [rigR, rigidA]
theorem rig_nilslice {R : AH → Prop} {H : AH} : rigR R H .nilslice = True := by simp [rigR, rigidA]
theorem rig_ro {R : AH → Prop} {H : AH} {b o : Nat} : rigR R H (.ptr ⟨true, b, o⟩) = True := by simp [rigR, rigidA]
theorem rig_ptr {R : AH → Prop} {H : AH} {i o : Nat} (h : (H.cells? i).isSome = true) (h' : ∀ H', R H' → (H'.cells? i).isSome = true) : rigR R H (.ptr ⟨false, i, o⟩) := by
  refine ⟨by simpa [rigidA] using h, fun H' hR _ => by simpa [rigidA] using h' H' hR⟩
theorem rig_slice {R : AH → Prop} {H : AH} {i o n c : Nat} (hc : 0 < c) (h : (H.cells? i).isSome = true) (h' : ∀ H', R H' → (H'.cells? i).isSome = true) : rigR R H (.slice ⟨false, i, o⟩ n (.known c)) := by
  refine ⟨by simpa [rigidA, hc] using h, fun H' hR _ => by simpa [rigidA, hc] using h' H' hR⟩
section
variable {P : Program} {ops : Array Oper} {R : AH → Prop} {Q : AFr → AH → Prop} {rest : List (Option Oper × Bool)} {fr : AFr} {H : AH} {ty : TypeId} {ps : String} {af : Array Edge} {d : Tmp}
theorem DO_nil : DOps P ops R Q [] fr H = Q fr H := nr rfl
theorem DO_false {o : Oper} : DOps P ops R Q ((some o, false) :: rest) fr H = AOps P ops (fun fr' H' => R H' ∧ DOps P ops R Q rest fr' H') [o] fr H := nr rfl
theorem DO_guard {d : Option Tmp} {op : Op} {j : Nat} {want : Bool} : DOps P ops R Q ((some ⟨d, op, ty, ps, af, some (j, want)⟩, true) :: rest) fr H = ifG (match (ops[j]?).bind (·.dst) with | some d => (match lget fr d with | .bool b => some (b == want) | .tup [] => some false | _ => none) | none => none) (DOps P ops R Q rest (putA fr d (.tup [])) H) (DOps P ops R Q ((some ⟨d, op, ty, ps, af, none⟩, true) :: rest) fr H) := by
  simp only [DOps, guardA, ifG]
  rfl
theorem DO_plain {op : Op} : DOps P ops R Q ((some ⟨some d, op, ty, ps, af, none⟩, true) :: rest) fr H = opThen (opA P fr H op) fun v _ => StillAt P R fr H op v ∧ DOps P ops R Q rest (lput fr d v) H := by
  simp only [DOps, guardA, ifG, putA]
theorem DO_move {x : Operand} : DOps P ops R Q ((some ⟨some d, .move x, ty, ps, af, none⟩, true) :: rest) fr H = DOps P ops R Q rest (lput fr d (aeval fr x)) H := by
  rw [DO_plain]; simp [opA, opThen, StillAt, copyOp]
theorem DO_assign {x : Operand} : DOps P ops R Q ((some ⟨some d, .assign x, ty, ps, af, none⟩, true) :: rest) fr H = DOps P ops R Q rest (lput fr d (aeval fr x)) H := by
  rw [DO_plain]; simp [opA, opThen, StillAt, copyOp]
theorem still_copy {op : Op} {v : AV} (h : copyOp op = true) : StillAt P R fr H op v = True := by simp [StillAt, h]
theorem DO_pick {c x y : Operand} : DOps P ops R Q ((some ⟨some d, .pick c x y, ty, ps, af, none⟩, true) :: rest) fr H = opThen (match aeval fr c with | .bool t => some (if t then aeval fr x else aeval fr y, H) | _ => none) fun v _ => DOps P ops R Q rest (lput fr d v) H := by
  rw [DO_plain]; simp only [still_copy (show copyOp (.pick c x y) = true from rfl), true_and, opA]; rfl
theorem DO_extract {x : Operand} {n : Nat} : DOps P ops R Q ((some ⟨some d, .extract x n, ty, ps, af, none⟩, true) :: rest) fr H = opThen (match aeval fr x with | .tup l => (l[n]?).map fun v => (v, H) | _ => none) fun v _ => DOps P ops R Q rest (lput fr d v) H := by
  rw [DO_plain]; simp only [still_copy (show copyOp (.extract x n) = true from rfl), true_and, opA]; rfl
theorem DO_pure {op : Op} (f : Option AV) (h1 : copyOp op = false) (h2 : stillOp op = true) (h3 : ∀ v, convOk op v = true) (hf : ∀ H, opA P fr H op = f.map fun v => (v, H)) :
    DOps P ops R Q ((some ⟨some d, op, ty, ps, af, none⟩, true) :: rest) fr H = opThen (f.map fun v => (v, H)) fun v _ => rigR R H v ∧ DOps P ops R Q rest (lput fr d v) H := by
  rw [DO_plain, hf H]
  cases f with
  | none => rfl
  | some v =>
    simp only [Option.map_some, opThen, StillAt, h1, h2, h3, Bool.false_eq_true, false_or, true_and, rigR, hf, Option.map_some]
theorem DO_binOp {op : BinOp} {t t2 : TypeId} {x y : Operand} : DOps P ops R Q ((some ⟨some d, .binOp op t x y t2, ty, ps, af, none⟩, true) :: rest) fr H = opThen ((binA P op t (aeval fr x) (aeval fr y)).map fun v => (v, H)) fun v _ => rigR R H v ∧ DOps P ops R Q rest (lput fr d v) H := DO_pure _ rfl rfl (fun _ => rfl) fun _ => rfl
theorem DO_unOp {op : UnOp} {t : TypeId} {x : Operand} : DOps P ops R Q ((some ⟨some d, .unOp op t x, ty, ps, af, none⟩, true) :: rest) fr H = opThen ((unA op (aeval fr x)).map fun v => (v, H)) fun v _ => rigR R H v ∧ DOps P ops R Q rest (lput fr d v) H := DO_pure _ rfl rfl (fun _ => rfl) fun _ => rfl
theorem DO_slice {t : TypeId} {x : Operand} {lo hi mx : Option Operand} : DOps P ops R Q ((some ⟨some d, .slice t x lo hi mx, ty, ps, af, none⟩, true) :: rest) fr H = opThen ((sliceOpA P t (aeval fr x) (lo.map (aeval fr)) (hi.map (aeval fr)) (mx.map (aeval fr))).map fun v => (v, H)) fun v _ => DOps P ops R Q rest (lput fr d v) H := by
  rw [DO_plain]; simp only [still_copy (show copyOp (.slice t x lo hi mx) = true from rfl), true_and, opA]
theorem DO_fieldAddr {t : TypeId} {x : Operand} {f : Nat} : DOps P ops R Q ((some ⟨some d, .fieldAddr t x f, ty, ps, af, none⟩, true) :: rest) fr H = opThen ((fieldAddrA P t (aeval fr x) f).map fun v => (v, H)) fun v _ => rigR R H v ∧ DOps P ops R Q rest (lput fr d v) H := DO_pure _ rfl rfl (fun _ => rfl) fun _ => rfl
theorem DO_field {t : TypeId} {x : Operand} {f : Nat} : DOps P ops R Q ((some ⟨some d, .field t x f, ty, ps, af, none⟩, true) :: rest) fr H = opThen ((fieldA P t (aeval fr x) f).map fun v => (v, H)) fun v _ => rigR R H v ∧ DOps P ops R Q rest (lput fr d v) H := DO_pure _ rfl rfl (fun _ => rfl) fun _ => rfl
theorem DO_indexAddr {t : TypeId} {x y : Operand} : DOps P ops R Q ((some ⟨some d, .indexAddr t x y, ty, ps, af, none⟩, true) :: rest) fr H = opThen ((indexAddrA P t (aeval fr x) (aeval fr y)).map fun v => (v, H)) fun v _ => rigR R H v ∧ DOps P ops R Q rest (lput fr d v) H := DO_pure _ rfl rfl (fun _ => rfl) fun _ => rfl
theorem DO_index {t : TypeId} {x y : Operand} : DOps P ops R Q ((some ⟨some d, .index t x y, ty, ps, af, none⟩, true) :: rest) fr H = opThen ((indexA P t (aeval fr x) (aeval fr y)).map fun v => (v, H)) fun v _ => rigR R H v ∧ DOps P ops R Q rest (lput fr d v) H := DO_pure _ rfl rfl (fun _ => rfl) fun _ => rfl
theorem DO_len {t : TypeId} {x : Operand} : DOps P ops R Q ((some ⟨some d, .call ⟨.builtin .len, #[x], #[t]⟩, ty, ps, af, none⟩, true) :: rest) fr H = opThen ((lenA P t (aeval fr x)).map fun v => (v, H)) fun v _ => rigR R H v ∧ DOps P ops R Q rest (lput fr d v) H := DO_pure _ rfl rfl (fun _ => rfl) fun _ => rfl
theorem DO_min {ts : Array TypeId} {x y : Operand} : DOps P ops R Q ((some ⟨some d, .call ⟨.builtin .min, #[x, y], ts⟩, ty, ps, af, none⟩, true) :: rest) fr H = opThen ((foldA min2A (aeval fr x) [aeval fr y]).map fun v => (v, H)) fun v _ => rigR R H v ∧ DOps P ops R Q rest (lput fr d v) H := DO_pure _ rfl rfl (fun _ => rfl) fun _ => rfl
theorem DO_max {ts : Array TypeId} {x y : Operand} : DOps P ops R Q ((some ⟨some d, .call ⟨.builtin .max, #[x, y], ts⟩, ty, ps, af, none⟩, true) :: rest) fr H = opThen ((foldA max2A (aeval fr x) [aeval fr y]).map fun v => (v, H)) fun v _ => rigR R H v ∧ DOps P ops R Q rest (lput fr d v) H := DO_pure _ rfl rfl (fun _ => rfl) fun _ => rfl
def sameR (R : AH → Prop) (H : AH) (f : AH → Option (AV × AH)) (v : AV) : Prop := rigR R H v ∧ ∀ H', R H' → H'.ro = H.ro → f H' = some (v, H')
theorem sameR_c {R : AH → Prop} {H : AH} {f : AH → Option (AV × AH)} {v v' : AV} (h : mark v = v') : sameR R H f v = sameR R H f v' := by rw [← h, mark_eq]
theorem DO_load {t : TypeId} {x : Operand} : DOps P ops R Q ((some ⟨some d, .load t x, ty, ps, af, none⟩, true) :: rest) fr H = opThen (match aeval fr x with | .ptr p => (loadA P t p H).map fun v => (v, H) | _ => none) fun v _ => sameR R H (fun H' => opA P fr H' (.load t x)) v ∧ DOps P ops R Q rest (lput fr d v) H := by
  rw [DO_plain]
  have : ∀ v, StillAt P R fr H (.load t x) v = sameR R H (fun H' => opA P fr H' (.load t x)) v := fun v => by
    simp only [StillAt, copyOp, stillOp, convOk, Bool.false_eq_true, false_or, true_and, sameR, rigR]
    exact propext ⟨fun ⟨h1, h2⟩ => ⟨⟨h1, fun H' a b => (h2 H' a b).2⟩, fun H' a b => (h2 H' a b).1⟩, fun ⟨⟨h1, h2⟩, h3⟩ => ⟨h1, fun H' a b => ⟨h3 H' a b, h2 H' a b⟩⟩⟩
  simp only [this]
  rfl
theorem DO_convert {t t2 : TypeId} {x : Operand} : DOps P ops R Q ((some ⟨some d, .convert t t2 x, ty, ps, af, none⟩, true) :: rest) fr H = opThen (convertA P t t2 (aeval fr x) H) fun v _ => (convOk (.convert t t2 x) v = true ∧ sameR R H (fun H' => convertA P t t2 (aeval fr x) H') v) ∧ DOps P ops R Q rest (lput fr d v) H := by
  rw [DO_plain]
  have : ∀ v, StillAt P R fr H (.convert t t2 x) v = (convOk (.convert t t2 x) v = true ∧ sameR R H (fun H' => convertA P t t2 (aeval fr x) H') v) := fun v => by
    simp only [StillAt, copyOp, stillOp, Bool.false_eq_true, false_or, true_and, sameR, rigR, opA]
    exact propext ⟨fun ⟨h0, h1, h2⟩ => ⟨h0, ⟨h1, fun H' a b => (h2 H' a b).2⟩, fun H' a b => (h2 H' a b).1⟩, fun ⟨h0, ⟨h1, h2⟩, h3⟩ => ⟨h0, h1, fun H' a b => ⟨h3 H' a b, h2 H' a b⟩⟩⟩
  simp only [this]
  rfl
theorem DOps_c {l : List (Option Oper × Bool)} {fr' : AFr} {H' : AH} (h1 : mark fr = fr') (h2 : mark H = H') : DOps P ops R Q l fr H = DOps P ops R Q l fr' H' := by rw [← h1, ← h2, mark_eq, mark_eq]
end
end Go.Abs
set_option linter.unusedVariables false
set_option linter.unusedSimpArgs false
namespace Go.Abs
open Go Go.RowKit
def hasF : List (Nat × AV) → AFr → Prop
  | [], _ => True
  | p :: l, fr => lget fr p.1 = p.2 ∧ hasF l fr
def frOf : List (Nat × AV) → AFr
  | [] => []
  | p :: l => lput (frOf l) p.1 p.2
section
variable {P : Program} {N : Nat} {Q : Exit → AFr → AH → Prop} {fr : AFr} {H : AH}
theorem AWp.le {c : Code} {fr' : AFr} (hle : ∀ k, lget fr k = .unk ∨ lget fr k = lget fr' k) (h : AWp P N c Q fr H) : AWp P N c Q fr' H := fun ds w0 ι a w QC hs hQ =>
  h ds w0 ι a w QC ⟨hs.rep, fun i => by
    rcases hle i with e | e
    · rw [e]; unfold RV; trivial
    · rw [e]; exact hs.fr i, hs.size, hs.defers⟩ hQ
theorem frOf_le : ∀ {L : List (Nat × AV)} {fr : AFr}, hasF L fr → ∀ k, lget (frOf L) k = .unk ∨ lget (frOf L) k = lget fr k
  | [], fr, _, k => .inl (by simp [frOf, lget_nil])
  | p :: l, fr, h, k => by
    simp only [frOf, lget_lput]
    split
    · rename_i e; subst e; exact .inr h.1.symm
    · exact frOf_le h.2 k
theorem awp_use {c : Code} {L : List (Nat × AV)} (h : hasF L fr) (k : AWp P N c Q (frOf L) H) : AWp P N c Q fr H := k.le (frOf_le h)
def condA (v : AV) (x y : Prop) : Prop :=
  match v with
  | .bool true => x
  | .bool false => y
  | _ => False
theorem condA_c {v v' : AV} {x y : Prop} (h : mark v = v') : condA v x y = condA v' x y := by rw [← h, mark_eq]
theorem condA_true {x y : Prop} : condA (.bool true) x y = x := nr rfl
theorem condA_false {x y : Prop} : condA (.bool false) x y = y := nr rfl
theorem condA_b {b : Bool} {x y : Prop} : condA (.bool b) x y = ((b = true → x) ∧ (b = false → y)) := by cases b <;> simp [condA]
theorem condA_dec {p : Prop} [Decidable p] {x y : Prop} : condA (.bool (decide p)) x y = ((p → x) ∧ (¬ p → y)) := by rw [condA_b]; simp
theorem awp_condA {c : Operand} {x y : Code} (h : condA (aeval fr c) (AWp P N x Q fr H) (AWp P N y Q fr H)) : AWp P N (.cond c x y) Q fr H := by
  unfold condA at h
  split at h
  · rename_i e; exact awp_cond e h
  · rename_i e; exact awp_cond e h
  · exact h.elim
def split2 (p : Prop) (x y : Prop) : Prop := (p → x) ∧ (¬ p → y)
theorem split2_c {p p' x y : Prop} (h : mark p = p') : split2 p x y = split2 p' x y := by rw [← h, mark_eq]
theorem split2_i {p x y : Prop} (h : p → x) (k : ¬ p → y) : split2 p x y := ⟨h, k⟩
theorem split2_pk {p x y : Prop} (h : p) (k : p = True → x) : split2 p x y := ⟨fun _ => k (eq_true h), fun h' => absurd h h'⟩
theorem split2_nk {p x y : Prop} (h : ¬ p) (k : p = False → y) : split2 p x y := ⟨fun h' => absurd h' h, fun _ => k (eq_false h)⟩
theorem split2_ik {p x y : Prop} (h : p → p = True → x) (k : ¬ p → p = False → y) : split2 p x y := ⟨fun e => h e (eq_true e), fun e => k e (eq_false e)⟩
theorem split2_true {x y : Prop} : split2 True x y = x := by simp [split2]
theorem split2_false {x y : Prop} : split2 False x y = y := by simp [split2]
theorem condA_split {p : Prop} [Decidable p] {x y : Prop} : condA (.bool (decide p)) x y = split2 p x y := condA_dec
theorem condA_and {a b : Bool} {x y : Prop} : condA (.bool (a && b)) x y = condA (.bool a) (condA (.bool b) x y) y := by cases a <;> cases b <;> rfl
theorem condA_or {a b : Bool} {x y : Prop} : condA (.bool (a || b)) x y = condA (.bool a) x (condA (.bool b) x y) := by cases a <;> cases b <;> rfl
theorem condA_not {a : Bool} {x y : Prop} : condA (.bool (!a)) x y = condA (.bool a) y x := by cases a <;> rfl
def resA : Option (List AV) → (AV → AH → Prop) → AH → Prop
  | none, _, _ => False
  | some vs, R, H => R (tupA vs) H
theorem resA_some {vs : List AV} {R : AV → AH → Prop} : resA (some vs) R H = R (tupA vs) H := nr rfl
theorem resA_c {o o' : Option (List AV)} {R : AV → AH → Prop} (h : mark o = o') : resA o R H = resA o' R H := by rw [← h, mark_eq]
def retA (P : Program) (rs : List ResultVar) (R : AV → AH → Prop) : Exit → AFr → AH → Prop
  | .normal, fr, H => resA (aresults P fr H rs) R H
  | .ret, fr, H => resA (aresults P fr H rs) R H
  | _, _, _ => False
theorem retA_normal {rs : List ResultVar} {R : AV → AH → Prop} : retA P rs R .normal fr H = resA (aresults P fr H rs) R H := nr rfl
theorem retA_ret {rs : List ResultVar} {R : AV → AH → Prop} : retA P rs R .ret fr H = resA (aresults P fr H rs) R H := nr rfl
def WP (P : Program) (N : Nat) : Code → (Exit → AFr → AH → Prop) → AFr → AH → Prop
  | .skip, Q, fr, H => Q .normal fr H
  | .region id ops draw, Q, fr, H => if draw = true then AWp P N (.region id ops draw) Q fr H else AOps P ops (Q .normal) ops.toList fr H
  | .seq x y, Q, fr, H => WP P N x (thenA (WP P N y Q) Q) fr H
  | .cond c x y, Q, fr, H => condA (aeval fr c) (WP P N x Q fr H) (WP P N y Q fr H)
  | .block id c, Q, fr, H => WP P N c (blockA id Q) fr H
  | .exit id, Q, fr, H => Q (.exit id) fr H
  | .ret, Q, fr, H => Q .ret fr H
  | c, Q, fr, H => AWp P N c Q fr H
def codeOk (N : Nat) : Code → Bool
  | .region _ ops false => dstsOk N ops.toList
  | .seq x y => codeOk N x && codeOk N y
  | .cond _ x y => codeOk N x && codeOk N y
  | .block _ c => codeOk N c
  | _ => true
theorem WP_skip : WP P N .skip Q fr H = Q .normal fr H := nr rfl
theorem WP_region {id : Nat} {ops : List Oper} : WP P N (.region id ops.toArray false) Q fr H = AOps P ops.toArray (Q .normal) ops fr H := by simp [WP]
theorem WP_draw {id : Nat} {ops : Array Oper} : WP P N (.region id ops true) Q fr H = AWp P N (.region id ops true) Q fr H := by simp [WP]
theorem WP_seq {x y : Code} : WP P N (.seq x y) Q fr H = WP P N x (thenA (WP P N y Q) Q) fr H := nr rfl
theorem WP_cond {c : Operand} {x y : Code} : WP P N (.cond c x y) Q fr H = condA (aeval fr c) (WP P N x Q fr H) (WP P N y Q fr H) := nr rfl
theorem WP_block {id : Nat} {c : Code} : WP P N (.block id c) Q fr H = WP P N c (blockA id Q) fr H := nr rfl
theorem WP_exit {id : Nat} : WP P N (.exit id) Q fr H = Q (.exit id) fr H := nr rfl
theorem WP_ret : WP P N .ret Q fr H = Q .ret fr H := nr rfl
theorem WP_loop {c : Code} : WP P N (.loop c) Q fr H = AWp P N (.loop c) Q fr H := nr rfl
theorem WP_c {c : Code} {fr' : AFr} {H' : AH} (h1 : mark fr = fr') (h2 : mark H = H') : WP P N c Q fr H = WP P N c Q fr' H' := by rw [← h1, ← h2, mark_eq, mark_eq]
theorem AOps_mono {ops : Array Oper} {Q Q' : AFr → AH → Prop} (hq : ∀ fr H, Q fr H → Q' fr H) : ∀ {l : List Oper} {fr : AFr} {H : AH}, AOps P ops Q l fr H → AOps P ops Q' l fr H
  | [], fr, H, h => hq _ _ h
  | o :: l, fr, H, h => by
    rw [AOps_cons] at h ⊢
    cases hg : guardA ops fr o with
    | none => rw [hg] at h; exact h
    | some b =>
      rw [hg] at h
      cases b with
      | false => exact AOps_mono hq h
      | true =>
        simp only [ifG_t] at h ⊢
        cases hc : callA fr o.op with
        | some fa => rw [hc] at h; exact ASpec.mono h fun r H' k => AOps_mono hq k
        | none =>
          rw [hc] at h
          simp only [callOr_n] at h ⊢
          cases ho : opA P fr H o.op with
          | none => rw [ho] at h; exact h
          | some vh => rw [ho] at h; exact AOps_mono hq h
theorem wp_mono2 : ∀ (c : Code) {Q Q' : Exit → AFr → AH → Prop} {fr : AFr} {H : AH}, (∀ e fr H, Q e fr H → Q' e fr H) → WP P N c Q fr H → WP P N c Q' fr H := by
  intro c
  induction c with
  | region id ops draw =>
    intro Q Q' fr H hq h
    cases draw with
    | true => simp only [WP, if_true] at h ⊢; exact h.mono hq
    | false => simp only [WP, Bool.false_eq_true, if_false] at h ⊢; exact AOps_mono (hq .normal) h
  | seq x y ihx ihy => intro Q Q' fr H hq h; exact ihx (fun e fr H k => by cases e <;> first | exact ihy hq k | exact hq _ _ _ k) h
  | cond c x y ihx ihy =>
    intro Q Q' fr H hq h
    rw [WP_cond] at h ⊢
    unfold condA at h ⊢
    split
    · rename_i e; rw [e] at h; exact ihx hq h
    · rename_i e; rw [e] at h; exact ihy hq h
    · rename_i e1 e2; split at h
      · rename_i e; exact absurd e e1
      · rename_i e; exact absurd e e2
      · exact h
  | block id c ih =>
    intro Q Q' fr H hq h
    refine ih (fun e fr H k => ?_) h
    cases e with
    | exit i =>
      simp only [blockA] at k ⊢
      split at k
      · rename_i hi; rw [if_pos hi]; exact hq _ _ _ k
      · rename_i hi; rw [if_neg hi]; exact hq _ _ _ k
    | _ => exact hq _ _ _ k
  | skip => intro Q Q' fr H hq h; exact hq _ _ _ h
  | exit id => intro Q Q' fr H hq h; exact hq _ _ _ h
  | ret => intro Q Q' fr H hq h; exact hq _ _ _ h
  | _ => intro Q Q' fr H hq h; exact AWp.mono h hq
theorem thenA_mono {next next' : AFr → AH → Prop} {Q : Exit → AFr → AH → Prop} (h : ∀ fr H, next fr H → next' fr H) {e : Exit} {fr : AFr} {H : AH} (k : thenA next Q e fr H) : thenA next' Q e fr H := by
  cases e <;> first | exact h _ _ k | exact k
theorem wp_sound : ∀ (c : Code) {Q : Exit → AFr → AH → Prop} {fr : AFr} {H : AH}, codeOk N c = true → WP P N c Q fr H → AWp P N c Q fr H := by
  intro c
  induction c with
  | skip => intro Q fr H _ h; exact awp_skip h
  | region id ops draw =>
    intro Q fr H hok h
    cases draw with
    | true => simpa [WP] using h
    | false =>
      simp only [codeOk] at hok
      have h' : AOps P ops (Q .normal) ops.toList fr H := by simpa [WP] using h
      have e : ops = ops.toList.toArray := by simp
      rw [e]
      exact awp_region (by simpa using hok) (by simpa using h')
  | seq x y ihx ihy =>
    intro Q fr H hok h
    simp only [codeOk, Bool.and_eq_true] at hok
    refine awp_seq ((ihx hok.1 h).mono fun e fr' H' hq => ?_)
    exact thenA_mono (fun fr'' H'' k => ihy hok.2 k) hq
  | cond c x y ihx ihy =>
    intro Q fr H hok h
    simp only [codeOk, Bool.and_eq_true] at hok
    refine awp_condA ?_
    rw [WP_cond] at h
    unfold condA at h ⊢
    split
    · rename_i e; rw [e] at h; exact ihx hok.1 h
    · rename_i e; rw [e] at h; exact ihy hok.2 h
    · rename_i e1 e2; split at h
      · rename_i e; exact absurd e e1
      · rename_i e; exact absurd e e2
      · exact h
  | block id c ih =>
    intro Q fr H hok h
    exact awp_block (ih hok h)
  | exit id => intro Q fr H _ h; exact awp_exit h
  | ret => intro Q fr H _ h; exact awp_ret h
  | _ => intro Q fr H _ h; exact h
theorem aspec_fn {f : FuncId} {fn : Func} {c : Code} {args : List AV} {n : Nat} {rs : List ResultVar} {R : AV → AH → Prop} (hf : P.funcs[f]? = some fn) (hb : fn.body = some c) (hname : (fn.name == "runtime.NumGoroutine") = false) (hr : fn.results.toList = rs) (hn : fn.ntmps = n) (hok : codeOk n c = true) (hl : args.length ≤ n)
    (h : WP P n c (retA P rs R) args H) : ASpec P f args H R := by
  subst hn hr
  refine aspec_of hf hb hname hl ((wp_sound c hok h).mono fun e fr' H' hq => ?_)
  cases e with
  | normal =>
    simp only [retA_normal] at hq
    cases hv : aresults P fr' H' fn.results.toList with
    | none => rw [hv] at hq; exact hq.elim
    | some vs => rw [hv] at hq; exact ⟨.inl rfl, vs, rfl, hq⟩
  | ret =>
    simp only [retA_ret] at hq
    cases hv : aresults P fr' H' fn.results.toList with
    | none => rw [hv] at hq; exact hq.elim
    | some vs => rw [hv] at hq; exact ⟨.inr rfl, vs, rfl, hq⟩
  | exit id => exact hq.elim
  | goto l => exact hq.elim
  | panic c => exact hq.elim
  | outgrown => exact hq.elim
theorem aspec_in {f : FuncId} {fn : Func} {c : Code} {args : List AV} {n : Nat} {rs : List ResultVar} {R : AV → AH → Prop} (hf : P.funcs[f]? = some fn) (hb : fn.body = some c) (hname : (fn.name == "runtime.NumGoroutine") = false) (hr : fn.results.toList = rs) (hn : fn.ntmps = n) (hl : args.length ≤ n)
    (h : AWp P n c (retA P rs R) args H) : ASpec P f args H R := by
  subst hn hr
  refine aspec_of hf hb hname hl (h.mono fun e fr' H' hq => ?_)
  cases e with
  | normal =>
    simp only [retA_normal] at hq
    cases hv : aresults P fr' H' fn.results.toList with
    | none => rw [hv] at hq; exact hq.elim
    | some vs => rw [hv] at hq; exact ⟨.inl rfl, vs, rfl, hq⟩
  | ret =>
    simp only [retA_ret] at hq
    cases hv : aresults P fr' H' fn.results.toList with
    | none => rw [hv] at hq; exact hq.elim
    | some vs => rw [hv] at hq; exact ⟨.inr rfl, vs, rfl, hq⟩
  | exit id => exact hq.elim
  | goto l => exact hq.elim
  | panic c => exact hq.elim
  | outgrown => exact hq.elim
theorem retA_c {rs : List ResultVar} {R : AV → AH → Prop} {e : Exit} {fr' : AFr} {H' : AH} (h1 : mark fr = fr') (h2 : mark H = H') : retA P rs R e fr H = retA P rs R e fr' H' := by rw [← h1, ← h2, mark_eq, mark_eq]
theorem wp_loop {c : Code} (hok : codeOk N c = true) (I : Nat → List (Nat × AV) → AH → Prop) (n : Nat) (L : List (Nat × AV)) (hI : I n L H) (hL : hasF L fr)
    (round : ∀ n L H, I n L H → WP P N c (thenA (fun fr' H' => ∃ m L', m < n ∧ I m L' H' ∧ hasF L' fr') Q) (frOf L) H) : AWp P N (.loop c) Q fr H :=
  awp_loop (fun n fr H => ∃ L, I n L H ∧ hasF L fr) n ⟨L, hI, hL⟩ fun n fr H ⟨L, hI, hL⟩ =>
    awp_use hL ((wp_sound c hok (round n L H hI)).mono fun e fr' H' hq => thenA_mono (fun fr'' H'' ⟨m, L', h1, h2, h3⟩ => ⟨m, h1, L', h2, h3⟩) hq)
theorem wp_loopS {σ : Type} {c : Code} (hok : codeOk N c = true) (F : σ → List (Nat × AV)) (I : σ → AH → Prop) (μ : σ → Nat) (s : σ) (hL : hasF (F s) fr) (hI : I s H)
    (round : ∀ s H, I s H → WP P N c (thenA (fun fr' H' => ∃ s', hasF (F s') fr' ∧ μ s' < μ s ∧ I s' H') Q) (frOf (F s)) H) : AWp P N (.loop c) Q fr H :=
  wp_loop hok (fun n L H => ∃ s, I s H ∧ μ s = n ∧ F s = L) (μ s) (F s) ⟨s, hI, rfl, rfl⟩ hL fun n L H ⟨s, h1, h2, h3⟩ => by
    subst h2 h3
    have r := round s H h1
    have e : (fun fr' H' => ∃ m L', m < μ s ∧ (∃ s', I s' H' ∧ μ s' = m ∧ F s' = L') ∧ hasF L' fr') = fun fr' H' => ∃ s', hasF (F s') fr' ∧ μ s' < μ s ∧ I s' H' := by
      funext fr' H'
      apply propext
      constructor
      · rintro ⟨m, L', h1, ⟨s', h2, h3, h4⟩, h5⟩
        subst h3 h4
        exact ⟨s', h5, h1, h2⟩
      · rintro ⟨s', h1, h2, h3⟩
        exact ⟨_, _, h2, ⟨s', h3, rfl, rfl⟩, h1⟩
    rw [e]
    exact r
def headN : Nat → Code → Code
  | n + 1, .seq a b => .seq a (headN n b)
  | _, _ => .skip
theorem wp_parts : ∀ (n : Nat) (c : Code) {Q : Exit → AFr → AH → Prop} {fr : AFr} {H : AH}, codeOk N c = true → WP P N (headN n c) (thenA (fun fr H => AWp P N (restC n c) Q fr H) Q) fr H → AWp P N c Q fr H
  | 0, c, Q, fr, H, _, h => by
    cases c <;> exact h
  | n + 1, c, Q, fr, H, hok, h => by
    cases c with
    | seq a b =>
      simp only [codeOk, Bool.and_eq_true] at hok
      refine awp_seq ((wp_sound a hok.1 h).mono fun e fr' H' hq => ?_)
      exact (by
        cases e with
        | normal => exact wp_parts n b hok.2 hq
        | _ => exact hq)
    | _ => exact h
theorem wp_mid {σ : Type} {c : Code} (n : Nat) (hok : codeOk N c = true) (F : σ → List (Nat × AV)) (I : σ → AH → Prop)
    (h1 : WP P N (headN n c) (thenA (fun fr' H' => ∃ s, hasF (F s) fr' ∧ I s H') Q) fr H) (h2 : ∀ s H, I s H → AWp P N (restC n c) Q (frOf (F s)) H) : AWp P N c Q fr H :=
  wp_parts n c hok (by
    exact wp_mono2 (headN n c) (fun e fr' H' hq => thenA_mono (fun fr'' H'' ⟨s, k1, k2⟩ => awp_use k1 (h2 s H'' k2)) hq) h1)
theorem hasF_nil : hasF [] fr = True := nr rfl
theorem hasF_cons {p : Nat × AV} {l : List (Nat × AV)} : hasF (p :: l) fr = (lget fr p.1 = p.2 ∧ hasF l fr) := nr rfl
end
theorem ASpec.eq {P : Program} {f : FuncId} {args : List AV} {H H1 : AH} {v : AV} {Q : AV → AH → Prop} (h : ASpec P f args H fun r H' => r = v ∧ H' = H1) (k : Q v H1) : ASpec P f args H Q := h.mono fun r H' ⟨e1, e2⟩ => by rw [e1, e2]; exact k
theorem aspec_flat {P : Program} {f : FuncId} {args : List AV} {v : AV} (ha : plainL args = true) (hv : plainA v = true) (h : ∀ H, ASpec P f args H fun r _ => r = v) (H : AH) : ASpec P f args H fun r H' => r = v ∧ H' = H :=
  aspec_plain (Q := fun r => r = v) ha (fun r hr => by rw [hr]; exact hv) (fun ro => h (.base ro)) H
def okSl (sz : Nat) : AV → Bool
  | .nilslice => true
  | .slice _ n (.known c) => decide (n ≤ c)
  | .slice a _ (.grow g) => decide (g = sz) && !a.ro
  | _ => false
structure Row (H : AH) (sz : Nat) (v : AV) (n : Nat) (cs : List AV) : Prop where
  row : rowA H sz v = some cs
  len : slen v = n
  sl : okSl sz v = true
def eltA (v : AV) (i : Nat) (sz : Nat) : AAddr :=
  match v with
  | .slice a _ _ => ⟨a.ro, a.blk, a.off + i * sz⟩
  | _ => ⟨true, 0, 0⟩
theorem Row.grew {H H' : AH} (h : Grew H H') {sz : Nat} {v : AV} {n : Nat} {cs : List AV} (k : Row H sz v n cs) : Row H' sz v n cs := ⟨h.row k.row, k.len, k.sl⟩
theorem Row.nil (H : AH) (sz : Nat) : Row H sz .nilslice 0 [] := ⟨rfl, rfl, rfl⟩
theorem Row.elim {H : AH} {sz : Nat} {v : AV} {n : Nat} {cs : List AV} (h : Row H sz v n cs) :
    (v = .nilslice ∧ n = 0 ∧ cs = []) ∨ ∃ a c l, v = .slice a n c ∧ H.get a = some l ∧ (a.off + n * sz ≤ l.length ∨ n * sz = 0) ∧ cs = (l.drop a.off).take (n * sz) := by
  obtain ⟨h1, h2, h3⟩ := h
  cases v with
  | nilslice => left; simp only [slen] at h2; simp only [rowA] at h1; injection h1 with h1; exact ⟨rfl, h2.symm, h1.symm⟩
  | slice a m c =>
    right
    simp only [slen] at h2
    subst h2
    simp only [rowA] at h1
    obtain ⟨l, g1, g2⟩ := Option.bind_eq_some_iff.1 h1
    split at g2
    · rename_i hle
      injection g2 with g2
      exact ⟨a, c, l, rfl, g1, hle, g2.symm⟩
    · cases g2
  | _ => simp [okSl] at h3
theorem Row.size {H : AH} {sz : Nat} {v : AV} {n : Nat} {cs : List AV} (h : Row H sz v n cs) : cs.length = n * sz := by
  rcases h.elim with ⟨_, rfl, rfl⟩ | ⟨a, c, l, _, _, h1, rfl⟩
  · simp
  · simp only [List.length_take, List.length_drop]
    omega
theorem Row.lenA {H : AH} {sz : Nat} {v : AV} {n : Nat} {cs : List AV} (h : Row H sz v n cs) {P : Program} {t e : TypeId} (ht : P.underlying t = some (.slice e)) : lenA P t v = some (.int .i64 n) := by
  rcases h.elim with ⟨rfl, rfl, _⟩ | ⟨a, c, l, rfl, _, _, _⟩ <;> simp [Go.Abs.lenA, ht]
theorem Row.ix {H : AH} {sz : Nat} {v : AV} {n : Nat} {cs : List AV} (h : Row H sz v n cs) {P : Program} {t e : TypeId} (ht : P.underlying t = some (.slice e)) (hs : sizeA P e = some sz) {k : IntKind} {i : Int} (h0 : 0 ≤ i) (hi : i < n) :
    indexAddrA P t v (.int k i) = some (.ptr (eltA v i.toNat sz)) := by
  rcases h.elim with ⟨rfl, rfl, _⟩ | ⟨a, c, l, rfl, _, _, _⟩
  · omega
  · simp only [indexAddrA, ht, hs, Option.bind_some, eltA]; rw [if_pos ⟨h0, hi⟩]
theorem Row.ld {H : AH} {sz : Nat} {v : AV} {n : Nat} {cs : List AV} (h : Row H sz v n cs) {i j : Nat} (hi : i < n) (hj : j < sz) :
    ((H.get (eltA v i sz)).bind fun cs => cs[(eltA v i sz).off + j]?) = cs[i * sz + j]? := by
  rcases h.elim with ⟨rfl, rfl, _⟩ | ⟨a, c, l, rfl, hg, hb, rfl⟩
  · omega
  · have hlt : i * sz + j < n * sz := by
      have := Nat.mul_le_mul_right sz (show i + 1 ≤ n from hi)
      rw [Nat.add_mul] at this
      omega
    have e : H.get (eltA (.slice a n c) i sz) = some l := by unfold AH.get at *; exact hg
    rw [e]
    simp only [Option.bind_some, eltA]
    rw [List.getElem?_take, if_pos hlt, List.getElem?_drop, Nat.add_assoc]
theorem Row.ld1 {H : AH} {v : AV} {n : Nat} {cs : List AV} (h : Row H 1 v n cs) {i : Nat} (hi : i < n) :
    ((H.get (eltA v i 1)).bind fun cs => cs[(eltA v i 1).off]?) = cs[i]? := by
  have := h.ld hi (j := 0) (by omega)
  simpa using this
theorem IsBytes.toRow {H : AH} {v : AV} {xs : List UInt8} (h : IsBytes H v xs) : Row H 1 v xs.length (xs.map bv) := ⟨h.row, h.len, by
  have := h.sl
  cases v with
  | slice a n c => cases c <;> exact this
  | _ => exact this⟩
theorem Row.toBytes {H : AH} {v : AV} {xs : List UInt8} (h : Row H 1 v xs.length (xs.map bv)) : IsBytes H v xs := ⟨h.row, h.len, by
  have := h.sl
  cases v with
  | slice a n c => cases c <;> exact this
  | _ => exact this⟩
theorem IsBytes.ld {H : AH} {v : AV} {xs : List UInt8} (h : IsBytes H v xs) {i : Nat} (hi : i < xs.length) :
    ((H.get (eltA v i 1)).bind fun cs => cs[(eltA v i 1).off]?) = some (bv (xs.getD i 0)) := by
  rw [h.toRow.ld1 hi]; simp [List.getD, hi]
theorem IsBytes.ix {H : AH} {v : AV} {xs : List UInt8} (h : IsBytes H v xs) {P : Program} {t e : TypeId} (ht : P.underlying t = some (.slice e)) (hs : sizeA P e = some 1) {k : IntKind} {i : Int} (h0 : 0 ≤ i) (hi : i < xs.length) :
    indexAddrA P t v (.int k i) = some (.ptr (eltA v i.toNat 1)) := h.toRow.ix ht hs h0 hi
end Go.Abs
set_option linter.unusedVariables false
set_option linter.unusedSimpArgs false
namespace Go.Abs
open Go Go.RowKit
section
variable {P : Program} {t : TypeId} {H : AH}
theorem wrap_u8_nat (m : Nat) : IntKind.u8.wrap (m : Int) = ((UInt8.ofNat m).toNat : Int) := by
  rw [IntKind.wrap_u8, UInt8.toNat_ofNat']
  omega
theorem wrap_u8_byte (x : UInt8) : IntKind.u8.wrap (x.toNat : Int) = (x.toNat : Int) := by
  have := x.toNat_lt
  rw [IntKind.wrap_u8]; omega
theorem wrap_i64_byte (x : UInt8) : IntKind.i64.wrap (x.toNat : Int) = (x.toNat : Int) := by
  have := x.toNat_lt
  rw [IntKind.wrap_i64]; omega
theorem wrap_u64_byte (x : UInt8) : IntKind.u64.wrap (x.toNat : Int) = (x.toNat : Int) := by
  have := x.toNat_lt
  exact IntWalk.u64_in _ (by omega)
theorem wrap_u32_byte (x : UInt8) : IntKind.u32.wrap (x.toNat : Int) = (x.toNat : Int) := by
  have := x.toNat_lt
  rw [IntKind.wrap_u32]; omega
theorem wrap_u16_byte (x : UInt8) : IntKind.u16.wrap (x.toNat : Int) = (x.toNat : Int) := by
  have := x.toNat_lt
  exact IntWalk.u16_in _ (by omega)
theorem ofInt8 (x : UInt8) : BitVec.ofInt 8 (x.toNat : Int) = x.toBitVec := by
  rw [BitVec.ofInt_natCast]
  apply BitVec.eq_of_toNat_eq
  rw [BitVec.toNat_ofNat]
  exact Nat.mod_eq_of_lt x.toNat_lt
theorem byte_lit {n : Nat} (h : n < 256) : ((n : Nat) : Int) = ((UInt8.ofNat n).toNat : Int) := by
  rw [UInt8.toNat_ofNat', Nat.mod_eq_of_lt h]
theorem byte_of {a : Int} (w : (Lit.int .u8 a).wf = true) : ∃ x : UInt8, a = (x.toNat : Int) := by
  simp [Lit.wf, IntKind.has, IntKind.min, IntKind.max, IntKind.signed, IntKind.bits] at w
  refine ⟨UInt8.ofNat a.toNat, ?_⟩
  rw [UInt8.toNat_ofNat', Nat.mod_eq_of_lt (by omega)]
  omega
theorem u64_of {a : Int} (w : (Lit.int .u64 a).wf = true) : ∃ n : Nat, a = (n : Int) ∧ n < 18446744073709551616 := by
  simp [Lit.wf, IntKind.has, IntKind.min, IntKind.max, IntKind.signed, IntKind.bits] at w
  exact ⟨a.toNat, by omega, by omega⟩
theorem u32_of {a : Int} (w : (Lit.int .u32 a).wf = true) : ∃ n : Nat, a = (n : Int) ∧ n < 4294967296 := by
  simp [Lit.wf, IntKind.has, IntKind.min, IntKind.max, IntKind.signed, IntKind.bits] at w
  exact ⟨a.toNat, by omega, by omega⟩
theorem u16_of {a : Int} (w : (Lit.int .u16 a).wf = true) : ∃ n : Nat, a = (n : Int) ∧ n < 65536 := by
  simp [Lit.wf, IntKind.has, IntKind.min, IntKind.max, IntKind.signed, IntKind.bits] at w
  exact ⟨a.toNat, by omega, by omega⟩
theorem i64_of {a : Int} (w : (Lit.int .i64 a).wf = true) : -9223372036854775808 ≤ a ∧ a ≤ 9223372036854775807 := by
  simp [Lit.wf, IntKind.has, IntKind.min, IntKind.max, IntKind.signed, IntKind.bits] at w
  omega
theorem u8_eq {x y : UInt8} (h : (x.toNat : Int) = (y.toNat : Int)) : x = y := UInt8.toNat.inj (Int.ofNat.inj h)
theorem u8_ne {x y : UInt8} (h : ¬ (x.toNat : Int) = (y.toNat : Int)) : x ≠ y := fun e => h (by rw [e])
theorem u8_lit {n : Nat} (h : (OfNat.ofNat n : Int) < 256) : (((no_index (OfNat.ofNat n) : UInt8).toNat : Nat) : Int) = OfNat.ofNat n := by
  have h' : n < 256 := Int.ofNat_lt.1 h
  show (((UInt8.ofNat n).toNat : Nat) : Int) = (n : Int)
  rw [UInt8.toNat_ofNat', Nat.mod_eq_of_lt h']
theorem bv_lit {n : Nat} (h : (OfNat.ofNat n : Int) < 256) : bv (no_index (OfNat.ofNat n)) = .int .u8 (OfNat.ofNat n) := by
  show AV.int .u8 _ = _
  rw [u8_lit h]
theorem bin_xor_b {x y : UInt8} : binA P .xor t (.int .u8 x.toNat) (.int .u8 y.toNat) = some (.int .u8 ((x ^^^ y).toNat : Nat)) := by
  rw [bin_xor]
  show some (AV.int .u8 (IntKind.u8.wrap (((BitVec.ofInt 8 (x.toNat : Int) ^^^ BitVec.ofInt 8 (y.toNat : Int)).toNat : Nat)))) = _
  rw [ofInt8, ofInt8, ← UInt8.toBitVec_xor]
  show some (AV.int .u8 (IntKind.u8.wrap ((x ^^^ y).toNat : Nat))) = _
  rw [wrap_u8_byte]
theorem bin_and_b {x y : UInt8} : binA P .and t (.int .u8 x.toNat) (.int .u8 y.toNat) = some (.int .u8 ((x &&& y).toNat : Nat)) := by
  rw [bin_and]
  show some (AV.int .u8 (IntKind.u8.wrap (((BitVec.ofInt 8 (x.toNat : Int) &&& BitVec.ofInt 8 (y.toNat : Int)).toNat : Nat)))) = _
  rw [ofInt8, ofInt8, ← UInt8.toBitVec_and]
  show some (AV.int .u8 (IntKind.u8.wrap ((x &&& y).toNat : Nat))) = _
  rw [wrap_u8_byte]
theorem bin_or_b {x y : UInt8} : binA P .or t (.int .u8 x.toNat) (.int .u8 y.toNat) = some (.int .u8 ((x ||| y).toNat : Nat)) := by
  rw [bin_or]
  show some (AV.int .u8 (IntKind.u8.wrap (((BitVec.ofInt 8 (x.toNat : Int) ||| BitVec.ofInt 8 (y.toNat : Int)).toNat : Nat)))) = _
  rw [ofInt8, ofInt8, ← UInt8.toBitVec_or]
  show some (AV.int .u8 (IntKind.u8.wrap ((x ||| y).toNat : Nat))) = _
  rw [wrap_u8_byte]
theorem bin_xor_l {x : UInt8} {n : Nat} (h : (OfNat.ofNat n : Int) < 256) : binA P .xor t (.int .u8 x.toNat) (.int .u8 (no_index (OfNat.ofNat n))) = some (.int .u8 ((x ^^^ OfNat.ofNat n).toNat : Nat)) := by
  have := bin_xor_b (P := P) (t := t) (x := x) (y := UInt8.ofNat n)
  rw [← byte_lit (show n < 256 from Int.ofNat_lt.1 h)] at this
  exact this
theorem bin_xor_1 {x : UInt8} : binA P .xor t (.int .u8 x.toNat) (.int .u8 1) = some (.int .u8 ((x ^^^ 1).toNat : Nat)) := bin_xor_b (P := P) (t := t) (x := x) (y := 1)
theorem bin_and_1 {x : UInt8} : binA P .and t (.int .u8 x.toNat) (.int .u8 1) = some (.int .u8 ((x &&& 1).toNat : Nat)) := bin_and_b (P := P) (t := t) (x := x) (y := 1)
theorem bin_add_b {x y : UInt8} : binA P .add t (.int .u8 x.toNat) (.int .u8 y.toNat) = some (.int .u8 ((x + y).toNat : Nat)) := by
  rw [bin_add]
  show some (AV.int .u8 (IntKind.u8.wrap ((x.toNat + y.toNat : Nat) : Int))) = _
  rw [wrap_u8_nat]
  have e : UInt8.ofNat (x.toNat + y.toNat) = x + y := UInt8.toNat.inj (by rw [UInt8.toNat_ofNat', UInt8.toNat_add])
  rw [e]
theorem bin_shl_b1 {x : UInt8} {k : IntKind} : binA P .shl t (.int .u8 x.toNat) (.int k 1) = some (.int .u8 ((x <<< 1).toNat : Nat)) := by
  rw [bin_shl, gd_pos (by omega)]
  have e : (min (1 : Int).toNat IntKind.u8.bits) = 1 := rfl
  rw [e]
  show some (AV.int .u8 (IntKind.u8.wrap ((x.toNat : Int) * 2 ^ 1))) = _
  rw [show ((x.toNat : Int) * 2 ^ 1) = ((x.toNat * 2 : Nat) : Int) by omega, wrap_u8_nat]
  have e : UInt8.ofNat (x.toNat * 2) = x <<< 1 := UInt8.toNat.inj (by rw [UInt8.toNat_ofNat', UInt8.toNat_shiftLeft]; simp [Nat.shiftLeft_eq])
  rw [e]
theorem bin_shr_b1 {x : UInt8} {k : IntKind} : binA P .shr t (.int .u8 x.toNat) (.int k 1) = some (.int .u8 ((x >>> 1).toNat : Nat)) := by
  rw [bin_shr, gd_pos (by omega)]
  have e : (min (1 : Int).toNat IntKind.u8.bits) = 1 := rfl
  rw [e, shr_nat]
  have e2 : (x >>> 1).toNat = x.toNat / 2 ^ 1 := by rw [UInt8.toNat_shiftRight]; simp [Nat.shiftRight_eq_div_pow]
  rw [e2]
end
section
variable {P : Program} {t : TypeId} {a b : Int}
theorem bin_and_i64 : binA P .and t (.int .i64 a) (.int .i64 b) = some (.int .i64 (IntKind.i64.wrap ((BitVec.ofInt 64 a &&& BitVec.ofInt 64 b).toNat))) := bin_and
theorem bin_or_i64 : binA P .or t (.int .i64 a) (.int .i64 b) = some (.int .i64 (IntKind.i64.wrap ((BitVec.ofInt 64 a ||| BitVec.ofInt 64 b).toNat))) := bin_or
theorem bin_xor_i64 : binA P .xor t (.int .i64 a) (.int .i64 b) = some (.int .i64 (IntKind.i64.wrap ((BitVec.ofInt 64 a ^^^ BitVec.ofInt 64 b).toNat))) := bin_xor
theorem bin_and_u64 : binA P .and t (.int .u64 a) (.int .u64 b) = some (.int .u64 (IntKind.u64.wrap ((BitVec.ofInt 64 a &&& BitVec.ofInt 64 b).toNat))) := bin_and
theorem bin_or_u64 : binA P .or t (.int .u64 a) (.int .u64 b) = some (.int .u64 (IntKind.u64.wrap ((BitVec.ofInt 64 a ||| BitVec.ofInt 64 b).toNat))) := bin_or
theorem bin_xor_u64 : binA P .xor t (.int .u64 a) (.int .u64 b) = some (.int .u64 (IntKind.u64.wrap ((BitVec.ofInt 64 a ^^^ BitVec.ofInt 64 b).toNat))) := bin_xor
theorem bin_and_u16 : binA P .and t (.int .u16 a) (.int .u16 b) = some (.int .u16 (IntKind.u16.wrap ((BitVec.ofInt 16 a &&& BitVec.ofInt 16 b).toNat))) := bin_and
theorem bin_shl_i64 {k' : IntKind} : binA P .shl t (.int .i64 a) (.int k' b) = gd (0 ≤ b) (some (.int .i64 (IntKind.i64.wrap (a * 2 ^ min b.toNat 64)))) := bin_shl
theorem bin_shr_i64 {k' : IntKind} : binA P .shr t (.int .i64 a) (.int k' b) = gd (0 ≤ b) (some (.int .i64 (a.fdiv (2 ^ min b.toNat 64)))) := bin_shr
theorem bin_shl_u64 {k' : IntKind} : binA P .shl t (.int .u64 a) (.int k' b) = gd (0 ≤ b) (some (.int .u64 (IntKind.u64.wrap (a * 2 ^ min b.toNat 64)))) := bin_shl
theorem bin_shr_u64 {k' : IntKind} : binA P .shr t (.int .u64 a) (.int k' b) = gd (0 ≤ b) (some (.int .u64 (a.fdiv (2 ^ min b.toNat 64)))) := bin_shr
theorem bin_shl_u32 {k' : IntKind} : binA P .shl t (.int .u32 a) (.int k' b) = gd (0 ≤ b) (some (.int .u32 (IntKind.u32.wrap (a * 2 ^ min b.toNat 32)))) := bin_shl
theorem bin_shr_u32 {k' : IntKind} : binA P .shr t (.int .u32 a) (.int k' b) = gd (0 ≤ b) (some (.int .u32 (a.fdiv (2 ^ min b.toNat 32)))) := bin_shr
theorem bin_shr_u16 {k' : IntKind} : binA P .shr t (.int .u16 a) (.int k' b) = gd (0 ≤ b) (some (.int .u16 (a.fdiv (2 ^ min b.toNat 16)))) := bin_shr
end
theorem push_cells_ne {H : AH} {b : Option ABlk} {i : Nat} (h : i < H.n) : (H.push b).cells? i = H.cells? i := push_old H b h
theorem push_set_ne {H : AH} {b c : Option ABlk} {i : Nat} (h : i < H.n) : (H.push b).set i c = (H.set i c).push b := by
  unfold AH.push AH.set
  simp only [AH.mk.injEq, true_and]
  refine ⟨List.set_append_left _ _ h, funext fun j => propext ?_⟩
  simp only [List.length_set]
  exact or_left_comm
theorem push_cells_at {H : AH} {l : List AV} {i : Nat} (h : i = H.n) : (H.push (some (.cells l))).cells? i = some l := by subst h; exact push_cells H l
theorem push_set_at {H : AH} {b c : Option ABlk} {i : Nat} (h : i = H.n) : (H.push b).set i c = H.push c := by subst h; exact push_set H b c
theorem set_cells_at {H : AH} {i : Nat} {l : List AV} (h : i < H.n) : (H.set i (some (.cells l))).cells? i = some l := set_cells H l h
theorem set_cells_ne {H : AH} {b : Option ABlk} {i j : Nat} (h : i ≠ j) : (H.set i b).cells? j = H.cells? j := set_other H b h
section
variable {P : Program} {t : TypeId}
end
def gdb {α : Type} (b : Bool) (x : Option α) : Option α := if b then x else none
theorem gdb_true {α : Type} {x : Option α} : gdb true x = x := nr rfl
theorem gdb_c {α : Type} {b b' : Bool} {x : Option α} (h : mark b = b') : gdb b x = gdb b' x := by rw [← h, mark_eq]
def putL (l0 : List AV) (o : Nat) (l : List AV) : List AV := l0.take o ++ (l ++ l0.drop (o + l.length))
theorem putL_all {l0 l : List AV} (h : l.length = l0.length) : putL l0 0 l = l := by
  simp only [putL, List.take_zero, List.nil_append, Nat.zero_add]
  rw [List.drop_of_length_le (by omega), List.append_nil]
theorem putL_len {l0 l : List AV} {o : Nat} (h : o + l.length ≤ l0.length) : (putL l0 o l).length = l0.length := by
  simp only [putL, List.length_append, List.length_take, List.length_drop]; omega
theorem storeCells_none {i : Nat} : ∀ (l : List AV) (o : Nat) (H : AH), l.all oneA = false → storeCellsA H i o l = none
  | [], _, _, h => by simp at h
  | v :: l, o, H, h => by
    simp only [storeCellsA]
    by_cases hv : oneA v = true
    · simp only [List.all_cons, hv, Bool.true_and] at h
      rw [if_pos hv]
      cases hc : H.cells? i with
      | none => rfl
      | some l0 =>
        simp only [Option.bind_some]
        split
        · exact storeCells_none l _ _ h
        · rfl
    · rw [if_neg hv]
theorem store_cells {i : Nat} (l : List AV) (o : Nat) (H : AH) (h0 : 0 < l.length) : storeCellsA H i o l = gdb (l.all oneA) ((H.cells? i).bind fun l0 => gd (o + l.length ≤ l0.length) (some (H.set i (some (.cells (putL l0 o l)))))) := by
  cases ha : l.all oneA with
  | false => exact storeCells_none l o H ha
  | true =>
    simp only [gdb_true]
    cases hc : H.cells? i with
    | none =>
      cases l with
      | nil => simp at h0
      | cons v l =>
        simp only [List.all_cons, Bool.and_eq_true] at ha
        simp [storeCellsA, ha.1, hc]
    | some l0 =>
      simp only [Option.bind_some]
      by_cases hb : o + l.length ≤ l0.length
      · rw [gd_pos hb, storeCells_many l o H l0 ha hc hb (fun e => by rw [e] at h0; simp at h0)]
        simp [putL, List.append_assoc]
      · unfold gd
        rw [if_neg hb]
        have key : ∀ (l : List AV) (o : Nat) (H : AH) (l0 : List AV), H.cells? i = some l0 → 0 < l.length → ¬ o + l.length ≤ l0.length → storeCellsA H i o l = none := by
          intro l
          induction l with
          | nil => intro o H l0 _ h _; simp at h
          | cons v l ih =>
            intro o H l0 hc _ hb
            simp only [storeCellsA]
            split
            · rw [hc]
              simp only [Option.bind_some]
              split
              · rename_i ho
                cases l with
                | nil => simp at hb; omega
                | cons w l => exact ih _ _ (l0.set o v) (set_cells H _ (cells_lt hc)) (by simp) (by simp at hb ⊢; omega)
              · rfl
            · rfl
        exact key l o H l0 hc h0 hb
theorem store_aggs {P : Program} {t : TypeId} {n : Nat} (hs : sizeA P t = some (n + 1)) {vs : List AV} {H : AH} {i o : Nat} : storeA P t ⟨false, i, o⟩ (.agg vs) H = gd (vs.length = n + 1) (gdb (vs.all oneA) ((H.cells? i).bind fun l0 => gd (o + (n + 1) ≤ l0.length) (some (H.set i (some (.cells (putL l0 o vs))))))) := by
  simp only [storeA, cellsA, Option.bind_some, hs, gd, and_true, Option.some.injEq]
  by_cases h : vs.length = n + 1
  · rw [if_pos h.symm, if_pos h, store_cells _ _ _ (by omega), h]; rfl
  · rw [if_neg (fun e => h e.symm), if_neg h]
def gdst (ops : Array Oper) (j : Nat) : Option Tmp := (ops[j]?).bind (·.dst)
def gdstL (l : List Oper) (j : Nat) : Option Tmp := (l[j]?).bind (·.dst)
def gval : Option Tmp → AFr → Bool → Option Bool
  | none, _, _ => none
  | some d, fr, want => match lget fr d with
    | .bool b => some (b == want)
    | .tup [] => some false
    | _ => none
def gv (v : AV) (want : Bool) : Option Bool := match v with
  | .bool b => some (b == want)
  | .tup [] => some false
  | _ => none
theorem gdst_arr {l : List Oper} {j : Nat} : gdst l.toArray j = gdstL l j := by simp [gdst, gdstL]
theorem gdstL_0 {d : Option Tmp} {op : Op} {ty : TypeId} {ps : String} {af : Array Edge} {g : Option (Nat × Bool)} {l : List Oper} : gdstL (⟨d, op, ty, ps, af, g⟩ :: l) 0 = d := rfl
theorem gdstL_s {o : Oper} {l : List Oper} {j : Nat} : gdstL (o :: l) (j + 1) = gdstL l j := rfl
theorem gdstL_a0 {d : Option Tmp} {op : Op} {ty : TypeId} {ps : String} {af : Array Edge} {g : Option (Nat × Bool)} {l m : List Oper} : gdstL ((⟨d, op, ty, ps, af, g⟩ :: l).append m) 0 = d := rfl
theorem gdstL_as {o : Oper} {l m : List Oper} {j : Nat} : gdstL ((o :: l).append m) (j + 1) = gdstL (l.append m) j := rfl
theorem gdstL_an {m : List Oper} {j : Nat} : gdstL (List.append [] m) j = gdstL m j := rfl
theorem gdstL_c {l : List Oper} {j j' : Nat} (h : mark j = j') : gdstL l j = gdstL l j' := by rw [← h, mark_eq]
theorem gdst_c {l : Array Oper} {j j' : Nat} (h : mark j = j') : gdst l j = gdst l j' := by rw [← h, mark_eq]
theorem gval_some {d : Tmp} {fr : AFr} {want : Bool} : gval (some d) fr want = gv (lget fr d) want := rfl
theorem gv_bool {b want : Bool} : gv (.bool b) want = some (b == want) := rfl
theorem gv_none {want : Bool} : gv (.tup []) want = some false := rfl
theorem gval_c {o o' : Option Tmp} {fr : AFr} {want : Bool} (h : mark o = o') : gval o fr want = gval o' fr want := by rw [← h, mark_eq]
theorem AO_grd {P : Program} {ops : Array Oper} {Q : AFr → AH → Prop} {rest : List Oper} {fr : AFr} {H : AH} {ty : TypeId} {ps : String} {af : Array Edge} {d : Option Tmp} {op : Op} {j : Nat} {want : Bool} :
    AOps P ops Q (⟨d, op, ty, ps, af, some (j, want)⟩ :: rest) fr H = ifG (gval (gdst ops j) fr want) (AOps P ops Q rest (putA fr d (.tup [])) H) (AOps P ops Q (⟨d, op, ty, ps, af, none⟩ :: rest) fr H) := by
  rw [AO_guard]
  congr 1
  unfold gdst gval
  cases (ops[j]?).bind (·.dst) <;> rfl
theorem DO_grd {P : Program} {ops : Array Oper} {R : AH → Prop} {Q : AFr → AH → Prop} {rest : List (Option Oper × Bool)} {fr : AFr} {H : AH} {ty : TypeId} {ps : String} {af : Array Edge} {d : Option Tmp} {op : Op} {j : Nat} {want : Bool} :
    DOps P ops R Q ((some ⟨d, op, ty, ps, af, some (j, want)⟩, true) :: rest) fr H = ifG (gval (gdst ops j) fr want) (DOps P ops R Q rest (putA fr d (.tup [])) H) (DOps P ops R Q ((some ⟨d, op, ty, ps, af, none⟩, true) :: rest) fr H) := by
  rw [DO_guard]
  congr 1
  unfold gdst gval
  cases (ops[j]?).bind (·.dst) <;> rfl
attribute [congr] gdstL_c gdst_c gval_c
theorem AOps_append {P : Program} {ops : Array Oper} {Q : AFr → AH → Prop} {b : List Oper} : ∀ {a : List Oper} {fr : AFr} {H : AH}, AOps P ops Q (a.append b) fr H = AOps P ops (fun fr H => AOps P ops Q b fr H) a fr H
  | [], fr, H => rfl
  | o :: a, fr, H => by
    rw [List.append_eq, List.cons_append, AOps_cons, AOps_cons]
    have ih : ∀ fr H, AOps P ops Q (a ++ b) fr H = AOps P ops (fun fr H => AOps P ops Q b fr H) a fr H := fun fr H => AOps_append
    simp only [ih]
theorem ifG_split {p : Prop} [Decidable p] {a b : Prop} : ifG (some (decide p)) a b = split2 p b a := by
  by_cases h : p <;> simp [h, ifG, split2]
theorem ifG_not {x : Bool} {a b : Prop} : ifG (some (!x)) a b = ifG (some x) b a := by cases x <;> rfl
theorem ifG_and {x y : Bool} {a b : Prop} : ifG (some (x && y)) a b = ifG (some x) a (ifG (some y) a b) := by cases x <;> cases y <;> rfl
theorem ifG_or {x y : Bool} {a b : Prop} : ifG (some (x || y)) a b = ifG (some x) (ifG (some y) a b) b := by cases x <;> cases y <;> rfl
def partsA (fr : AFr) : List (Nat × Operand) → List (Nat × AV)
  | [] => []
  | (i, x) :: l => (i, aeval fr x) :: partsA fr l
theorem partsA_eq (fr : AFr) : ∀ l : List (Nat × Operand), (l.map fun p => (p.1, aeval fr p.2)) = partsA fr l
  | [] => rfl
  | (i, x) :: l => by simp only [List.map_cons, partsA, partsA_eq fr l]
theorem partsA_nil {fr : AFr} : partsA fr [] = [] := rfl
theorem partsA_cons {fr : AFr} {i : Nat} {x : Operand} {l : List (Nat × Operand)} : partsA fr ((i, x) :: l) = (i, aeval fr x) :: partsA fr l := rfl
theorem partsA_c {fr fr' : AFr} {l : List (Nat × Operand)} (h : mark fr = fr') : partsA fr l = partsA fr' l := by rw [← h, mark_eq]
theorem AO_buildP {P : Program} {ops : Array Oper} {Q : AFr → AH → Prop} {rest : List Oper} {fr : AFr} {H : AH} {ty : TypeId} {ps : String} {af : Array Edge} {d : Tmp} {t : TypeId} {q : List (Nat × Operand)} : AOps P ops Q (⟨some d, .build t q.toArray, ty, ps, af, none⟩ :: rest) fr H = opThen ((buildA P t (partsA fr q)).map fun v => (v, H)) fun v H' => AOps P ops Q rest (lput fr d v) H' := by
  rw [AO_build, ← partsA_eq]
theorem AO_buildSliceP {P : Program} {ops : Array Oper} {Q : AFr → AH → Prop} {rest : List Oper} {fr : AFr} {H : AH} {ty : TypeId} {ps : String} {af : Array Edge} {d : Tmp} {t : TypeId} {n : Nat} {q : List (Nat × Operand)} : AOps P ops Q (⟨some d, .buildSlice t n q.toArray, ty, ps, af, none⟩ :: rest) fr H = opThen (buildSliceA P t n (partsA fr q) H) fun v H' => AOps P ops Q rest (lput fr d v) H' := by
  rw [AO_buildSlice, ← partsA_eq]
theorem DO_buildP {P : Program} {ops : Array Oper} {R : AH → Prop} {Q : AFr → AH → Prop} {rest : List (Option Oper × Bool)} {fr : AFr} {H : AH} {ty : TypeId} {ps : String} {af : Array Edge} {d : Tmp} {t : TypeId} {q : List (Nat × Operand)} : DOps P ops R Q ((some ⟨some d, .build t q.toArray, ty, ps, af, none⟩, true) :: rest) fr H = opThen ((buildA P t (partsA fr q)).map fun v => (v, H)) fun v _ => DOps P ops R Q rest (lput fr d v) H := by
  rw [DO_plain]; simp only [still_copy (show copyOp (.build t q.toArray) = true from rfl), true_and, opA, ← partsA_eq]
attribute [congr] partsA_c
attribute [go_sem] DO_buildP
theorem app_int {P : Program} {t e : TypeId} {sz by' : Nat} {z : List AV} {H : AH} (h : P.underlying t = some (.slice e)) (hs : sizeA P e = some sz) (hb : bytesA P e = some by') (hz : zeroA P e = some z) (hl : z.length = sz ∧ 0 < sz) {xt : TypeId} {k : IntKind} (hx : P.underlying xt = some (.int k)) {s : AV} {l : Int} :
    appendA P t xt s (.int .i64 l) H = gd (0 ≤ l ∧ l ≤ 140737488355328) (gdb ((repA z l.toNat).all oneA) (appendTo sz by' H l.toNat (repA z l.toNat) s)) := by
  simp only [appendA, h, hs, hb, hz, Option.bind_some, hl.1, hl.2, and_self, if_true, moreA, hx]
  unfold gd gdb
  split
  · simp only [Option.bind_some]
  · rfl
theorem bin_eql_agg {P : Program} {t : TypeId} {xs ys : List AV} : binA P .eql t (.agg xs) (.agg ys) = (eqAgg P t (.agg xs) (.agg ys)).map .bool := rfl
theorem bin_neq_agg {P : Program} {t : TypeId} {xs ys : List AV} : binA P .neq t (.agg xs) (.agg ys) = (eqAgg P t (.agg xs) (.agg ys)).map fun b => .bool !b := rfl
theorem tdiv_nat {i n : Nat} : ((i : Int).tdiv (no_index (OfNat.ofNat n : Int))) = ((i / OfNat.ofNat n : Nat) : Int) := rfl
theorem fillA_nil {place : Nat → Option (Nat × Nat)} {cells : List AV} : fillA place cells [] = some cells := rfl
theorem fillA_cons {place : Nat → Option (Nat × Nat)} {cells : List AV} {i : Nat} {v : AV} {rest : List (Nat × AV)} : fillA place cells ((i, v) :: rest) = (place i).bind fun p => (cellsA v).bind fun vs => gd (vs.length = p.2 ∧ p.1 + vs.length ≤ cells.length) (fillA place (putAt cells p.1 vs) rest) := rfl
def zerosL (z : List AV) : Nat → List AV
  | 0 => []
  | n + 1 => z ++ zerosL z n
theorem zerosL_get (z : List AV) (h : 0 < z.length) : ∀ (n i : Nat), (zerosL z n)[i]? = if i < n * z.length then some (z.getD (i % z.length) .unk) else none
  | 0, i => by simp [zerosL]
  | n + 1, i => by
    simp only [zerosL, List.getElem?_append]
    split
    · rename_i hi
      rw [if_pos (by rw [Nat.add_mul]; omega), Nat.mod_eq_of_lt hi]
      simp [List.getD, hi]
    · rename_i hi
      rw [zerosL_get z h n, Nat.mod_eq_sub_mod (a := i) (by omega)]
      by_cases h2 : i - z.length < n * z.length
      · rw [if_pos h2, if_pos (by rw [Nat.add_mul]; omega)]
      · rw [if_neg h2, if_neg (by rw [Nat.add_mul]; omega)]
theorem repA_zerosL (z : List AV) (h : 0 < z.length) (n : Nat) : repA z n = zerosL z n := by
  apply List.ext_getElem?
  intro i
  rw [zerosL_get z h]
  unfold repA
  split
  · rename_i x
    simp [List.getElem?_replicate, Nat.mod_one]
  · rw [List.getElem?_map]
    by_cases hi : i < n * z.length
    · rw [if_pos hi, List.getElem?_range hi]; rfl
    · rw [if_neg hi, List.getElem?_eq_none (by simp; omega)]; rfl
theorem zerosL_0 {z : List AV} : zerosL z 0 = [] := rfl
theorem zerosL_s {z : List AV} {n : Nat} : zerosL z (n + 1) = z ++ zerosL z n := rfl
theorem build_lit {P : Program} {t e : TypeId} {sz : Nat} {z : List AV} {H : AH} (h : P.underlying t = some (.slice e)) (hs : sizeA P e = some sz) (hz : zeroA P e = some z) (hl : z.length = sz ∧ 0 < sz) {len : Nat} {parts : List (Nat × AV)} (hlen : len * sz ≤ 16777216) : buildSliceA P t len parts H =
    (fillA (fun i => some (i * sz, sz)) (zerosL z len) parts).map fun cells => (.slice ⟨false, H.n, 0⟩ len (.known len), H.push (some (.cells cells))) := by
  rw [build_slice h hs hz hl hlen, repA_zerosL z (by omega)]
theorem convOk_int {op : Op} {k : IntKind} {n : Int} : convOk op (.int k n) = true := by cases op <;> rfl
theorem convOk_str {op : Op} {x : ByteArray} : convOk op (.str x) = true := by cases op <;> rfl
theorem sameR_eq {H : AH} {f : AH → Option (AV × AH)} {v : AV} : sameR (fun H' => H' = H) H f v = (rigidA H v = true ∧ f H = some (v, H)) := by
  simp only [sameR, rigR]
  exact propext ⟨fun ⟨h1, h2⟩ => ⟨h1.1, h2 H rfl rfl⟩, fun ⟨h1, h2⟩ => ⟨⟨h1, fun H' e _ => by rw [e]; exact h1⟩, fun H' e _ => by rw [e]; exact h2⟩⟩
theorem rigR_eq {H : AH} {v : AV} : rigR (fun H' => H' = H) H v = (rigidA H v = true) := by
  simp only [rigR]
  exact propext ⟨fun h => h.1, fun h => ⟨h, fun H' e _ => by rw [e]; exact h⟩⟩
theorem opA_load {P : Program} {fr : AFr} {H : AH} {t : TypeId} {x : Operand} : opA P fr H (.load t x) = match aeval fr x with | .ptr p => (loadA P t p H).map fun v => (v, H) | _ => none := nr rfl
theorem take_all {α : Type} {l : List α} {n : Nat} (h : l.length ≤ n) : l.take n = l := List.take_of_length_le h
theorem AO_iface {P : Program} {ops : Array Oper} {Q : AFr → AH → Prop} {rest : List Oper} {fr : AFr} {H : AH} {ty : TypeId} {ps : String} {af : Array Edge} {d : Tmp} {t : TypeId} {x : Operand} : AOps P ops Q (⟨some d, .makeInterface t x, ty, ps, af, none⟩ :: rest) fr H = opThen ((ifaceA P t (aeval fr x)).map fun v => (v, H)) fun v H' => AOps P ops Q rest (lput fr d v) H' := by
  rw [AOps_cons]; simp only [guardA, ifG, callA, callOr, opA, putA]
  all_goals rfl
theorem AO_assert {P : Program} {ops : Array Oper} {Q : AFr → AH → Prop} {rest : List Oper} {fr : AFr} {H : AH} {ty : TypeId} {ps : String} {af : Array Edge} {d : Tmp} {t xt : TypeId} {ok : Bool} {x : Operand} : AOps P ops Q (⟨some d, .typeAssert x xt t ok, ty, ps, af, none⟩ :: rest) fr H = opThen ((assertA P t ok (aeval fr x)).map fun v => (v, H)) fun v H' => AOps P ops Q rest (lput fr d v) H' := by
  rw [AOps_cons]; simp only [guardA, ifG, callA, callOr, opA, putA]
  all_goals rfl
theorem iface_of {P : Program} {t : TypeId} {d : TypeDesc} (h : P.underlying t = some d) (hd : isIfaceD d = false) {v : AV} : ifaceA P t v = some (.iface t v) := by simp [ifaceA, h, hd]
theorem assert_of {P : Program} {t : TypeId} {d : TypeDesc} (h : P.underlying t = some d) (hd : isIfaceD d = false) {ok : Bool} {v : AV} : assertA P t ok v = assertV (zeroV P t) t ok v := by simp [assertA, h, hd]
theorem assertV_at {z : Option AV} {t : TypeId} {x : AV} : assertV z t true (.iface t x) = some (.tup [x, .bool true]) := by simp [assertV]
theorem assertV_at1 {z : Option AV} {t : TypeId} {x : AV} : assertV z t false (.iface t x) = some x := by simp [assertV]
theorem assertV_ne {z : AV} {t t' : TypeId} {x : AV} (h : t' ≠ t) : assertV (some z) t true (.iface t' x) = some (.tup [z, .bool false]) := by simp [assertV, h]
theorem assertV_nil {z : AV} {t : TypeId} : assertV (some z) t true .nilif = some (.tup [z, .bool false]) := by simp [assertV]
attribute [congr] gdb_c
attribute [go_sem] gde_true gde_false gde_pos
attribute [go_sem] AO_iface AO_assert assertV_at assertV_at1 assertV_nil assertV_ne
attribute [go_sem] AOps_append Nat.min_eq_left List.length_replicate List.length_map gdb_true putL_all sameR_eq rigR_eq opA_load rigidA List.drop_zero take_all List.take_zero List.take_succ_cons List.drop_succ_cons List.cons_append List.nil_append List.all_cons List.all_nil oneA putL_len
attribute [go_sem] push_cells_at push_set_at push_cells_ne push_set_ne set_cells_at set_cells_ne set_n
attribute [go_sem] bin_eql_agg bin_neq_agg tdiv_nat fillA_nil fillA_cons zerosL_0 zerosL_s List.set_cons_zero List.set_cons_succ convOk_int convOk_str ifG_split ifG_not ifG_and ifG_or
attribute [go_sem] Bool.false_or Bool.true_or Bool.or_true Bool.or_false
attribute [go_sem] mark_eq not_true_eq_false not_false_eq_true b_false b_true Int.cast_ofNat_Int gd_true AOps_nil rig_int rig_bool rig_str rig_nilptr rig_nilslice rig_ro DO_nil DO_false DO_grd DO_move DO_assign DO_pick DO_extract DO_binOp DO_unOp DO_slice DO_fieldAddr DO_field DO_indexAddr DO_index DO_len DO_min DO_max DO_load DO_convert
attribute [go_sem] AO_move AO_assign AO_pick AO_alloc AO_box AO_buildP AO_buildSliceP partsA_nil partsA_cons AO_load AO_nilCheck AO_binOp AO_unOp AO_convert AO_makeSlice AO_slice AO_fieldAddr AO_field AO_indexAddr AO_index AO_extract AO_builtin AO_builtin0 AO_store AO_call AO_call0 AO_callT AO_grd gdst_arr gdstL_0 gdstL_s gdstL_a0 gdstL_as gdstL_an gval_some gv_bool gv_none
attribute [go_sem] ifG_t ifG_f callOr_n callOr_s opThen_s thenA_exit thenA_ret aeval absV putA thenA_normal blockA_exit blockA_normal blockA_ret lget_lput lget if_true if_false builtinA List.map_cons List.map_nil Option.map_some Option.map_none Option.bind_some Option.bind_none newA cellsA oneA putAt repA buildA placesA cut_all opt_some opt_none cutA foldA min2A max2A isKnown sureK sureG row_slice row_nil app_to_nil app_to_grow app_to_empty
attribute [go_sem] List.length_cons List.length_nil List.getElem?_toArray List.getElem?_cons_zero List.getElem?_cons_succ reduceCtorEq Bool.false_eq_true true_and and_true and_self Nat.zero_add Option.isSome_some Option.isSome_none Option.isNone_some Option.isNone_none Bool.and_false Bool.and_true Bool.false_and Bool.true_and beq_self_eq_true
attribute [go_sem] bin_add bin_sub bin_mul bin_quo bin_rem bin_eql bin_neq bin_lss bin_leq bin_gtr bin_geq bin_str str_eql str_neq str_lss un_neg un_not un_xor Bool.not_true Bool.not_false decide_true decide_false List.append_nil Nat.add_zero aresults aresult tupA Array.toList
attribute [go_sem] IntWalk.i64_in IntWalk.u64_in IntWalk.u32_in IntWalk.u16_in IntWalk.rem_in gd_pos set_set get_rw get_ro push_n Int.toNat_natCast Nat.mul_one shr_nat
attribute [go_sem] WP_skip WP_region WP_seq WP_cond WP_block WP_exit WP_ret WP_loop WP_draw condA_true condA_false condA_split condA_and condA_or condA_not split2_true split2_false resA_some retA_normal retA_ret hasF_nil hasF_cons frOf eq_self
attribute [go_sem] u8_lit bv_lit wrap_u8_nat wrap_u8_byte wrap_i64_byte wrap_u64_byte wrap_u32_byte wrap_u16_byte bin_xor_b bin_and_b bin_or_b bin_xor_l bin_xor_1 bin_and_1 bin_add_b bin_shl_b1 bin_shr_b1 bin_and_i64 bin_or_i64 bin_xor_i64 bin_and_u64 bin_or_u64 bin_xor_u64 bin_and_u16 bin_shl_i64 bin_shr_i64 bin_shl_u64 bin_shr_u64 bin_shl_u32 bin_shr_u32 bin_shr_u16 UInt8.ofNat_toNat
attribute [congr] AWp_c AOps_c ifG_c callOr_c opThen_c ASpec_c DOps_c sameR_c WP_c condA_c split2_c resA_c retA_c
end Go.Abs
set_option linter.unusedVariables false
set_option linter.unusedSimpArgs false
namespace Go.Abs
open Go Go.RowKit Go.ChangeShapes Go.WideShapes
def Dat (P : Program) (H : AH) : Nat → TypeId → List AV → Prop
  | 0, _, _ => False
  | n + 1, t, cs =>
    match P.underlying t with
    | some .bool => ∃ b, cs = [.bool b]
    | some (.int k) => ∃ a, cs = [.int k a] ∧ (Lit.int k a).wf = true
    | some .string => ∃ s : ByteArray, cs = [.str s] ∧ s.size ≤ 140737488351232
    | some (.slice e) => 0 < P.cellsOf e → ∃ v m row, cs = [v] ∧ Row H (P.cellsOf e) v m row ∧ m * P.bytesOf e ≤ 140737488351232 ∧ ∀ i, i < m → Dat P H n e ((row.drop (i * P.cellsOf e)).take (P.cellsOf e))
    | some (.struct fs) => cs.length = P.cellsOf t ∧ ∀ (i : Nat) (f : Field), fs[i]? = some f → Dat P H n f.type ((cs.drop f.offset).take (P.cellsOf f.type))
    | some (.array m e) => cs.length = P.cellsOf t ∧ ∀ i, i < m → Dat P H n e ((cs.drop (i * P.cellsOf e)).take (P.cellsOf e))
    | _ => True
theorem Dat.pos {P : Program} {H : AH} {n : Nat} {t : TypeId} {cs : List AV} (h : Dat P H n t cs) : ∃ m, n = m + 1 := by
  cases n with
  | zero => exact h.elim
  | succ m => exact ⟨m, rfl⟩
theorem absL_map (b : Nat) (l : List Value) : absL b l = l.map (absV b) := by
  apply List.ext_getElem?
  intro k
  rw [absL_get, List.getElem?_map]
theorem weights_all {H : Type} {P : Program} {e : TypeId} : ∀ {l : List (DataW H)} {d : DataW H}, d ∈ l → ∀ n ∈ d.weights P e, n ∈ DataW.weightsAll P e l
  | x :: l, d, hd, n, hn => by
    simp only [DataW.weightsAll, List.mem_append]
    rcases List.mem_cons.1 hd with rfl | h
    · exact .inl hn
    · exact .inr (weights_all h n hn)
theorem weights_each {H : Type} {P : Program} : ∀ {ts : List TypeId} {ds : List (DataW H)} {j : Nat} {t : TypeId} {d : DataW H}, ts[j]? = some t → ds[j]? = some d → ∀ n ∈ d.weights P t, n ∈ DataW.weightsEach P ts ds := DataW.weights_mem_each
theorem reach_le : reachBytes ≤ 140737488351232 := by decide
theorem absV_slice {b len cap : Nat} {a : Addr} (h0 : 0 < cap) (hl : len ≤ cap) (hb : a.block < b) (hs : a.spot = none) : absV b (.slice (some a) len cap) = .slice ⟨true, a.block, a.off⟩ len (.known cap) := by
  unfold absV
  rw [if_neg (by omega), absAddr_of hb hs]
  simp only
  rw [if_pos hl]
theorem spot_none {W : World} {a : Addr} {v : Value} (h : W.cell? a = some v) : a.spot = none := by
  unfold World.cell? at h
  split at h
  · cases hs : a.spot with
    | none => rfl
    | some s => rw [hs] at h; simp at h
  · cases h
theorem row_in {W : World} {a : Addr} {len cap sz : Nat} {cell : Nat → Nat → Value} (hsz : 0 < sz) (hl : len ≤ cap) (h : ∀ i, i < cap → ∀ j, j < sz → W.cell? (a.add (i * sz + j)) = some (cell i j)) :
    ∃ row, Row (AH.init W) sz (absV W.heap.size (.slice (some a) len cap)) len row ∧ ∀ i, i < len → (row.drop (i * sz)).take sz = (List.range sz).map fun j => absV W.heap.size (cell i j) := by
  by_cases h0 : cap = 0
  · subst h0
    obtain rfl : len = 0 := by omega
    refine ⟨[], ⟨?_, ?_, ?_⟩, fun i hi => by omega⟩ <;> simp [absV, rowA, slen, okSl, AH.get]
  · have hc0 := h 0 (by omega) 0 hsz
    rw [Nat.zero_mul, Nat.zero_add, Addr.add_zero'] at hc0
    have hblk := World.block_lt_of_cell? W a hc0
    have hsp := spot_none hc0
    obtain ⟨B, off, spot⟩ := a
    simp only at hsp hblk
    subst hsp
    have hget : ∀ i, i < cap → ∀ j, j < sz → ((AH.init W).ro B)[off + (i * sz + j)]? = some (absV W.heap.size (cell i j)) := fun i hi j hj => by
      have := h i hi j hj
      rw [Addr.add_lit] at this
      exact init_get this
    have hlast := lt_of_get (hget (cap - 1) (by omega) (sz - 1) (by omega))
    have hmul : (cap - 1) * sz + sz = cap * sz := by
      have : cap - 1 + 1 = cap := by omega
      conv => rhs; rw [← this, Nat.add_mul, Nat.one_mul]
    have hle : len * sz ≤ cap * sz := Nat.mul_le_mul_right _ hl
    refine ⟨(((AH.init W).ro B).drop off).take (len * sz), ⟨?_, ?_, ?_⟩, fun i hi => ?_⟩
    · rw [absV_slice (by omega) hl hblk rfl]
      simp only [rowA, AH.get, if_true, Option.bind_some]
      rw [if_pos (.inl (by omega))]
    · rw [absV_slice (by omega) hl hblk rfl]; rfl
    · rw [absV_slice (by omega) hl hblk rfl]; simp [okSl, hl]
    · have hi' : i * sz + sz ≤ len * sz := by
        have := Nat.mul_le_mul_right sz (show i + 1 ≤ len from hi)
        rwa [Nat.add_mul, Nat.one_mul] at this
      apply List.ext_getElem?
      intro j
      rw [List.getElem?_take, List.getElem?_drop, List.getElem?_take, List.getElem?_drop, List.getElem?_map]
      by_cases hj : j < sz
      · rw [if_pos hj, if_pos (by omega), hget i (by omega) j hj]
        simp [hj]
      · rw [if_neg hj]
        simp [hj]
theorem dat_of {T : Type} {enc : TypeId × Value → T} {P : Program} {W : World} : ∀ (fuel : Nat) {t : TypeId} {cs : List Value} {x : DataW T × List MemPlace}, DataW.trod enc P W 0 (fun _ => true) true fuel t cs = some x → (x.1.weights P t).all (· ≤ reachBytes) = true →
    Dat P (AH.init W) fuel t (absL W.heap.size cs)
  | 0, t, cs, x, h, _ => by simp [DataW.trod] at h
  | fuel + 1, t, cs, x, h, hw => by
    unfold Dat
    split
    · rename_i hu
      unfold DataW.trod at h
      rw [hu] at h
      split at h <;> simp_all
      rename_i b _
      cases b <;> simp [absL, absV]
    · rename_i k hu
      unfold DataW.trod at h
      rw [hu] at h
      split at h <;> simp_all
      obtain ⟨⟨rfl, h1⟩, _⟩ := h
      exact ⟨_, by simp only [absL, absV], h1⟩
    · rename_i hu
      unfold DataW.trod at h
      rw [hu] at h
      split at h <;> simp_all
      rename_i s
      obtain ⟨h1, rfl⟩ := h
      refine ⟨s, by simp only [absL, absV], ?_⟩
      simp [DataW.weights] at hw
      have := reach_le
      have e : s.data.size = s.size := rfl
      omega
    · rename_i e hu
      intro hsz
      rcases DataW.trod_slice hu h with ⟨rfl, rfl⟩ | ⟨a, len, cap, elems, rest, n, hn, rfl, rfl, hb, hl, hm, hlen, hel, hsp, _⟩
      · exact ⟨.nilslice, 0, [], by simp [absL, absV], Row.nil _ _, by simp, fun i hi => by omega⟩
      · obtain rfl : fuel = n := by omega
        obtain ⟨hrl, hr⟩ := hsp rfl
        have every : ∀ i, i < cap → ∃ l y, W.cells? 0 (a.add (i * P.cellsOf e)) (P.cellsOf e) = some l ∧ DataW.trod enc P W 0 (fun _ => true) true fuel e l = some y ∧ (elems ++ rest)[i]? = some y := fun i hi => by
          by_cases h1 : i < len
          · have h2 := hel i h1
            have h3 : ∃ y, elems[i]? = some y := ⟨_, List.getElem?_eq_getElem (by omega)⟩
            obtain ⟨y, h3⟩ := h3
            rw [h3] at h2
            obtain ⟨l, h4, h5⟩ := Option.bind_eq_some_iff.1 h2
            exact ⟨l, y, h4, h5, by rw [List.getElem?_append_left (by omega)]; exact h3⟩
          · have h2 := hr (i - len) (by omega)
            have h3 : ∃ y, rest[i - len]? = some y := ⟨_, List.getElem?_eq_getElem (by omega)⟩
            obtain ⟨y, h3⟩ := h3
            rw [h3, show len + (i - len) = i by omega] at h2
            obtain ⟨l, h4, h5⟩ := Option.bind_eq_some_iff.1 h2
            exact ⟨l, y, h4, h5, by rw [List.getElem?_append_right (by omega), hlen]; exact h3⟩
        have hcell : ∃ cell : Nat → List Value, ∀ i, i < cap → W.cells? 0 (a.add (i * P.cellsOf e)) (P.cellsOf e) = some (cell i) ∧ ∃ y, DataW.trod enc P W 0 (fun _ => true) true fuel e (cell i) = some y ∧ (elems ++ rest)[i]? = some y := by
          refine ⟨fun i => (W.cells? 0 (a.add (i * P.cellsOf e)) (P.cellsOf e)).getD [], fun i hi => ?_⟩
          obtain ⟨l, y, h1, h2, h3⟩ := every i hi
          simp only [h1, Option.getD_some]
          exact ⟨trivial, y, h2, h3⟩
        obtain ⟨cell, hcell⟩ := hcell
        obtain ⟨row, hrow, hparts⟩ := row_in (W := W) (a := a) (cell := fun i j => (cell i).getD j undef) hsz hl fun i hi j hj => by
          obtain ⟨h1, _⟩ := hcell i hi
          obtain ⟨_, h2, h3⟩ := World.cells?_some h1
          have := h3 j hj
          rw [List.getElem?_eq_getElem (by omega)] at this
          rw [Addr.add_add, ] at this
          rw [this]
          simp [List.getD, show j < (cell i).length by omega]
        refine ⟨_, len, row, by simp only [absL], hrow, ?_, fun i hi => ?_⟩
        · have := List.all_eq_true.1 hw ((elems.length + rest.length) * P.bytesOf e) (by simp [DataW.weights, hu])
          simp at this
          have h2 := reach_le
          have h3 : len * P.bytesOf e ≤ (elems.length + rest.length) * P.bytesOf e := Nat.mul_le_mul_right _ (by omega)
          omega
        · rw [hparts i hi]
          obtain ⟨h1, y, h2, h3⟩ := hcell i (by omega)
          obtain ⟨_, h4, _⟩ := World.cells?_some h1
          have hd := dat_of fuel h2 (List.all_eq_true.2 fun m hm => by
            refine List.all_eq_true.1 hw m ?_
            simp only [DataW.weights, hu, List.mem_cons, List.mem_append]
            rw [List.getElem?_append_left (by omega)] at h3
            exact .inr (.inl (weights_all (List.mem_map_of_mem (f := (·.1)) (List.mem_of_getElem? h3)) m hm)))
          have e2 : absL W.heap.size (cell i) = (List.range (P.cellsOf e)).map fun j => absV W.heap.size ((cell i).getD j undef) := by
            rw [absL_map]
            apply List.ext_getElem?
            intro j
            by_cases hj : j < P.cellsOf e
            · simp [List.getElem?_range, hj, List.getD, show j < (cell i).length by omega]
            · simp [hj, show ¬ j < (cell i).length by omega]
          rw [← e2]
          exact hd
    · rename_i fs hu
      obtain ⟨xs, n, hn, rfl, h1, h2, h3⟩ := DataW.trod_struct hu h
      obtain rfl : fuel = n := by omega
      refine ⟨by rw [absL_map, List.length_map]; exact h1, fun i f hf => ?_⟩
      have h4 := h3 i f hf
      have hi : i < xs.length := by rw [h2]; exact (Array.getElem?_eq_some_iff.1 hf).1
      rw [List.getElem?_eq_getElem hi] at h4
      have hd := dat_of fuel h4 (List.all_eq_true.2 fun m hm => by
        refine List.all_eq_true.1 hw m ?_
        simp only [DataW.weights, hu]
        refine weights_each (j := i) (t := f.type) (d := xs[i].1) (by simp [hf]) ?_ m hm
        simp [hi])
      rw [absL_map, ← List.map_drop, ← List.map_take, ← absL_map]
      exact hd
    · rename_i m e hu
      obtain ⟨xs, n, hn, rfl, h1, h2, h3⟩ := DataW.trod_array hu h
      obtain rfl : fuel = n := by omega
      refine ⟨by rw [absL_map, List.length_map]; exact h1, fun i hi => ?_⟩
      have h4 := h3 i hi
      have hi' : i < xs.length := by omega
      rw [List.getElem?_eq_getElem hi'] at h4
      have hd := dat_of fuel h4 (List.all_eq_true.2 fun m hm => by
        refine List.all_eq_true.1 hw m ?_
        simp only [DataW.weights, hu]
        exact weights_all (List.mem_map_of_mem (f := (·.1)) (List.getElem_mem hi')) m hm)
      rw [absL_map, ← List.map_drop, ← List.map_take, ← absL_map]
      exact hd
    · trivial
theorem cells_of {P : Program} {t : TypeId} {n : Nat} (h : sizeA P t = some n) : P.cellsOf t = n := by
  unfold sizeA at h; unfold Program.cellsOf; rw [h]; rfl
theorem bytes_of {P : Program} {t : TypeId} {n : Nat} (h : bytesA P t = some n) : P.bytesOf t = n := by
  unfold bytesA at h; unfold Program.bytesOf; rw [h]; rfl
section
variable {P : Program} {H : AH} {n : Nat} {t : TypeId} {cs : List AV}
theorem Dat.int (D : Dat P H n t cs) {k : IntKind} (hu : P.underlying t = some (.int k)) : ∃ a, cs = [.int k a] ∧ (Lit.int k a).wf = true := by
  obtain ⟨m, rfl⟩ := D.pos; unfold Dat at D; rw [hu] at D; exact D
theorem Dat.bool (D : Dat P H n t cs) (hu : P.underlying t = some .bool) : ∃ b, cs = [.bool b] := by
  obtain ⟨m, rfl⟩ := D.pos; unfold Dat at D; rw [hu] at D; exact D
theorem Dat.byte (D : Dat P H n t cs) (hu : P.underlying t = some (.int .u8)) : ∃ x : UInt8, cs = [bv x] := by
  obtain ⟨a, rfl, w⟩ := D.int hu; obtain ⟨x, rfl⟩ := byte_of w; exact ⟨x, rfl⟩
theorem Dat.i64 (D : Dat P H n t cs) (hu : P.underlying t = some (.int .i64)) : ∃ a, cs = [.int .i64 a] ∧ -9223372036854775808 ≤ a ∧ a ≤ 9223372036854775807 := by
  obtain ⟨a, rfl, w⟩ := D.int hu; exact ⟨a, rfl, i64_of w⟩
theorem Dat.u64 (D : Dat P H n t cs) (hu : P.underlying t = some (.int .u64)) : ∃ a : Nat, cs = [.int .u64 a] ∧ a < 18446744073709551616 := by
  obtain ⟨a, rfl, w⟩ := D.int hu; obtain ⟨x, rfl, h⟩ := u64_of w; exact ⟨x, rfl, h⟩
theorem Dat.u32 (D : Dat P H n t cs) (hu : P.underlying t = some (.int .u32)) : ∃ a : Nat, cs = [.int .u32 a] ∧ a < 4294967296 := by
  obtain ⟨a, rfl, w⟩ := D.int hu; obtain ⟨x, rfl, h⟩ := u32_of w; exact ⟨x, rfl, h⟩
theorem Dat.u16 (D : Dat P H n t cs) (hu : P.underlying t = some (.int .u16)) : ∃ a : Nat, cs = [.int .u16 a] ∧ a < 65536 := by
  obtain ⟨a, rfl, w⟩ := D.int hu; obtain ⟨x, rfl, h⟩ := u16_of w; exact ⟨x, rfl, h⟩
theorem Dat.struct (D : Dat P H n t cs) {fs : Array Field} (hu : P.underlying t = some (.struct fs)) {sz : Nat} (hs : sizeA P t = some sz) : cs.length = sz ∧ ∃ m, ∀ (i : Nat) {ft : TypeId} {o s : Nat}, (fs[i]?).map (fun f => (f.type, f.offset)) = some (ft, o) → sizeA P ft = some s → Dat P H m ft ((cs.drop o).take s) := by
  obtain ⟨m, rfl⟩ := D.pos; unfold Dat at D; rw [hu] at D; rw [cells_of hs] at D
  refine ⟨D.1, m, fun i ft o s hf hs => ?_⟩
  obtain ⟨f, h1, h2⟩ := Option.map_eq_some_iff.1 hf
  injection h2 with h2 h3
  subst h2 h3
  have := D.2 i f h1
  rwa [cells_of hs] at this
theorem Dat.array (D : Dat P H n t cs) {k : Nat} {e : TypeId} (hu : P.underlying t = some (.array k e)) {sz se : Nat} (hs : sizeA P t = some sz) (he : sizeA P e = some se) : cs.length = sz ∧ ∃ m, ∀ i, i < k → Dat P H m e ((cs.drop (i * se)).take se) := by
  obtain ⟨m, rfl⟩ := D.pos; unfold Dat at D; rw [hu] at D; simp only [cells_of hs, cells_of he] at D; exact ⟨D.1, m, D.2⟩
theorem Dat.slice (D : Dat P H n t cs) {e : TypeId} (hu : P.underlying t = some (.slice e)) {se by' : Nat} (he : sizeA P e = some (se + 1)) (hb : bytesA P e = some by') : ∃ v k row, cs = [v] ∧ Row H (se + 1) v k row ∧ k * by' ≤ 140737488351232 ∧ ∃ m, ∀ i, i < k → Dat P H m e ((row.drop (i * (se + 1))).take (se + 1)) := by
  obtain ⟨m, rfl⟩ := D.pos; unfold Dat at D; rw [hu] at D; simp only [cells_of he, bytes_of hb] at D
  obtain ⟨v, k, row, h1, h2, h3, h4⟩ := D (by omega)
  exact ⟨v, k, row, h1, h2, h3, m, h4⟩
theorem Dat.bytes (D : Dat P H n t cs) {e : TypeId} (hu : P.underlying t = some (.slice e)) (he : P.underlying e = some (.int .u8)) (hs : sizeA P e = some 1) (hb : bytesA P e = some 1) : ∃ v xs, cs = [v] ∧ IsBytes H v xs ∧ xs.length ≤ 140737488351232 := by
  obtain ⟨v, k, row, h1, h2, h3, m, h4⟩ := D.slice hu (se := 0) hs hb
  have hl := h2.size
  have : ∀ i, i < k → ∃ x : UInt8, row[i]? = some (bv x) := fun i hi => by
    obtain ⟨x, hx⟩ := (h4 i hi).byte he
    have := congrArg (·[0]?) hx
    simp at this
    exact ⟨x, this⟩
  have key : ∃ xs : List UInt8, row = xs.map bv := by
    refine ⟨row.map fun v => match v with | .int _ a => UInt8.ofNat a.toNat | _ => 0, ?_⟩
    apply List.ext_getElem?
    intro i
    by_cases hi : i < k
    · obtain ⟨x, hx⟩ := this i hi
      simp [hx, bv]
    · simp [show row.length ≤ i by omega]
  obtain ⟨xs, rfl⟩ := key
  have e1 : k = xs.length := by simpa using hl.symm
  subst e1
  exact ⟨v, xs, h1, h2.toBytes, by omega⟩
end
theorem weights_at {T : Type} {P : Program} {ts : List TypeId} {ds : List (DataW T)} {j : Nat} {t : TypeId} {d : DataW T} (hsz : (DataW.weightsEach P ts ds).all (· ≤ reachBytes) = true) (ht : ts[j]? = some t) (hd : ds[j]? = some d) : (d.weights P t).all (· ≤ reachBytes) = true :=
  List.all_eq_true.2 fun n hn => List.all_eq_true.1 hsz n (DataW.weights_mem_each ht hd n hn)
variable {base : Nat}
theorem arg_agg {T : Type} {enc : TypeId × Value → T} {P : Program} {W : World} {t : TypeId} {v : Value} {d : DataW T} {ps : List MemPlace} {ts : List TypeId} {ds : List (DataW T)} {j : Nat} (hu : (∃ fs, P.underlying t = some (.struct fs)) ∨ ∃ m e, P.underlying t = some (.array m e))
    (hv : Value.okWide P W .any base t v) (hsz : (DataW.weightsEach P ts ds).all (· ≤ reachBytes) = true) (ht : ts[j]? = some t) (hd : ds[j]? = some d) (h : DataW.Trod enc P W 0 (fun _ => true) true t v d ps) :
    ∃ l, absV W.heap.size v = .agg l ∧ ∃ n, Dat P (AH.init W) n t l := by
  obtain ⟨cs, rfl⟩ : ∃ cs, v = .agg cs := by
    unfold Value.okWide at hv
    rcases hu with ⟨fs, hu⟩ | ⟨m, e, hu⟩
    · rw [hu] at hv; obtain ⟨cs, h1, _⟩ := hv; exact ⟨cs, h1⟩
    · rw [hu] at hv; obtain ⟨cs, h1, _⟩ := hv; exact ⟨cs, h1⟩
  obtain ⟨fuel, hf⟩ := h
  exact ⟨_, rfl, fuel, dat_of fuel hf (weights_at hsz ht hd)⟩
end Go.Abs
set_option linter.unusedVariables false
set_option linter.unusedSimpArgs false
namespace Go.Abs
open Go Go.RowKit
structure Acc (sz : Nat) (H0 H : AH) (b : AV) (n : Nat) (cs : List AV) : Prop where
  g : Grew H0 H
  len : cs.length = n * sz
  is : (b = .nilslice ∧ n = 0) ∨ ∃ B, b = .slice ⟨false, B, 0⟩ n (.grow sz) ∧ H0.n ≤ B ∧ H.cells? B = some cs
theorem Acc.nil {sz : Nat} {H0 H : AH} (h : Grew H0 H) : Acc sz H0 H .nilslice 0 [] := ⟨h, by simp, .inl ⟨rfl, rfl⟩⟩
theorem Acc.grew {sz : Nat} {H0 H H' : AH} {b : AV} {n : Nat} {cs : List AV} (h : Acc sz H0 H b n cs) (g : Grew H H') : Acc sz H0 H' b n cs := by
  refine ⟨h.g.trans g, h.len, ?_⟩
  rcases h.is with h1 | ⟨B, h1, h2, h3⟩
  · exact .inl h1
  · exact .inr ⟨B, h1, h2, g.cells_some h3⟩
theorem Acc.row {sz : Nat} {H0 H : AH} {b : AV} {n : Nat} {cs : List AV} (h : Acc sz H0 H b n cs) : Row H sz b n cs := by
  rcases h.is with ⟨rfl, rfl⟩ | ⟨B, rfl, h2, h3⟩
  · obtain rfl : cs = [] := List.eq_nil_of_length_eq_zero (by rw [h.len]; simp)
    exact Row.nil _ _
  · exact ⟨row_whole h3 h.len _, rfl, by simp [okSl]⟩
theorem Acc.bytes {H0 H : AH} {b : AV} {xs : List UInt8} (h : Acc 1 H0 H b xs.length (xs.map bv)) : IsBytes H b xs := h.row.toBytes
theorem Acc.app {sz by' : Nat} {H0 H : AH} {b : AV} {n : Nat} {cs : List AV} (h : Acc sz H0 H b n cs) {k : Nat} {news : List AV} (hk : news.length = k * sz) (h1 : n + k ≤ 140737488355328) (h2 : (n + k) * by' ≤ 140737488355328) :
    ∃ H', appendTo sz by' H k news b = some (.slice ⟨false, H.n, 0⟩ (n + k) (.grow sz), H') ∧ Acc sz H0 H' (.slice ⟨false, H.n, 0⟩ (n + k) (.grow sz)) (n + k) (cs ++ news) ∧ H'.n = H.n + 1 := by
  obtain ⟨hg, hl, hb⟩ := h
  have hlen : (cs ++ news).length = (n + k) * sz := by rw [List.length_append, hl, hk, Nat.add_mul]
  rcases hb with ⟨rfl, rfl⟩ | ⟨B, rfl, hB, hc⟩
  · obtain rfl : cs = [] := List.eq_nil_of_length_eq_zero (by rw [hl]; simp)
    rw [Nat.zero_add] at h1 h2
    refine ⟨H.push (some (.cells news)), ?_, ⟨hg.trans (Grew.push _ _), hlen, .inr ⟨H.n, rfl, hg.n, ?_⟩⟩, push_n _ _⟩
    · rw [app_to_nil, gd_pos ⟨h1, h2⟩, Nat.zero_add]
    · rw [push_cells]; rfl
  · refine ⟨(H.set B none).push (some (.cells (cs ++ news))), ?_, ⟨(hg.set hB none).trans (Grew.push _ _), hlen, .inr ⟨H.n, rfl, hg.n, ?_⟩⟩, by rw [push_n, set_n]⟩
    · rw [app_to_grow, gd_pos ⟨h1, h2⟩, hc]
      simp only [Option.bind_some, List.drop_zero]
      rw [gde_pos (by omega)]
    · rw [← set_n H B none, push_cells]
theorem Acc.from {sz : Nat} {H0 H1 H : AH} {b : AV} {n : Nat} {cs : List AV} (h : Acc sz H1 H b n cs) (g : Grew H0 H1) : Acc sz H0 H b n cs := by
  refine ⟨g.trans h.g, h.len, ?_⟩
  rcases h.is with h1 | ⟨B, h1, h2, h3⟩
  · exact .inl h1
  · exact .inr ⟨B, h1, Nat.le_trans g.n h2, h3⟩
end Go.Abs
