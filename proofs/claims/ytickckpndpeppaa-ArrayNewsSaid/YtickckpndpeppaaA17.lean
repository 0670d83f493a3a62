/- Working with the abstract memory: what is read stays, what is new is known. -/
import Derived.Test.YtickckpndpeppaaA16
set_option linter.unusedVariables false
set_option linter.unusedSimpArgs false
namespace Go.Abs
open Go Go.RowKit

/-- New numbers may have come; the old ones are as they were. -/
structure Grew (H H' : AH) : Prop where
  ro : H'.ro = H.ro
  n : H.n ≤ H'.n
  old : ∀ i, i < H.n → H'.rw[i]? = H.rw[i]?
  wr : ∀ i, H'.wr i → H.wr i ∨ H.n ≤ i

theorem Grew.refl (H : AH) : Grew H H := ⟨rfl, Nat.le_refl _, fun _ _ => rfl, fun _ h => .inl h⟩
theorem Grew.trans {H H' H'' : AH} (h : Grew H H') (k : Grew H' H'') : Grew H H'' := ⟨k.ro.trans h.ro, Nat.le_trans h.n k.n, fun i hi => (k.old i (Nat.lt_of_lt_of_le hi h.n)).trans (h.old i hi), fun i hi => (k.wr i hi).elim (h.wr i) fun e => .inr (Nat.le_trans h.n e)⟩
theorem push_n (H : AH) (b : Option ABlk) : (H.push b).n = H.n + 1 := by simp [AH.n, AH.push]
theorem set_n (H : AH) (i : Nat) (b : Option ABlk) : (H.set i b).n = H.n := by simp [AH.n, AH.set]
theorem Grew.push (H : AH) (b : Option ABlk) : Grew H (H.push b) := ⟨rfl, by rw [push_n]; omega, fun i hi => by simp only [AH.push]; exact get_app_lt hi, fun i hi => hi.elim (fun e => .inr (Nat.le_of_eq e.symm)) .inl⟩
theorem Grew.set {H H' : AH} (h : Grew H H') {i : Nat} (hi : H.n ≤ i) (b : Option ABlk) : Grew H (H'.set i b) := ⟨h.ro, by rw [set_n]; exact h.n, fun j hj => by
  simp only [AH.set]; rw [List.getElem?_set, if_neg (by omega)]; exact h.old j hj, fun j hj => hj.elim (fun e => .inr (e ▸ hi)) (h.wr j)⟩
theorem Grew.cells {H H' : AH} (h : Grew H H') {i : Nat} (hi : i < H.n) : H'.cells? i = H.cells? i := by unfold AH.cells?; rw [h.old i hi]

theorem cells_lt {H : AH} {i : Nat} {l : List AV} (h : H.cells? i = some l) : i < H.n := by
  have := cells?_some h
  exact lt_of_get this

theorem Grew.cells_some {H H' : AH} (h : Grew H H') {i : Nat} {l : List AV} (hl : H.cells? i = some l) : H'.cells? i = some l := by rw [h.cells (cells_lt hl)]; exact hl

theorem Grew.get {H H' : AH} (h : Grew H H') {a : AAddr} {l : List AV} (hl : H.get a = some l) : H'.get a = some l := by
  unfold AH.get at *
  split
  · rename_i hr; rw [if_pos hr] at hl; rw [h.ro]; exact hl
  · rename_i hr; rw [if_neg hr] at hl; exact h.cells_some hl

theorem Grew.row {H H' : AH} (h : Grew H H') {sz : Nat} {v : AV} {l : List AV} (hl : rowA H sz v = some l) : rowA H' sz v = some l := by
  cases v with
  | nilslice => exact hl
  | slice a n c =>
    simp only [rowA] at hl ⊢
    obtain ⟨cs, h1, h2⟩ := Option.bind_eq_some_iff.1 hl
    rw [h.get h1]
    exact h2
  | _ => simp only [rowA] at hl; cases hl

theorem IsBytes.grew {H H' : AH} (h : Grew H H') {v : AV} {xs : List UInt8} (k : IsBytes H v xs) : IsBytes H' v xs := ⟨h.row k.row, k.len, k.sl⟩
theorem IsNums.grew {H H' : AH} (h : Grew H H') {k : IntKind} {v : AV} {xs : List Int} (g : IsNums k H v xs) : IsNums k H' v xs := ⟨h.row g.row, g.len, g.sl⟩

theorem push_cells (H : AH) (l : List AV) : (H.push (some (.cells l))).cells? H.n = some l := by
  unfold AH.cells? AH.push AH.n
  simp

theorem push_old (H : AH) (b : Option ABlk) {i : Nat} (hi : i < H.n) : (H.push b).cells? i = H.cells? i := (Grew.push H b).cells hi

theorem set_cells (H : AH) {i : Nat} (l : List AV) (hi : i < H.n) : (H.set i (some (.cells l))).cells? i = some l := by
  unfold AH.cells? AH.set
  have : i < H.rw.length := hi
  simp [this]

theorem set_other (H : AH) {i j : Nat} (b : Option ABlk) (hij : i ≠ j) : (H.set i b).cells? j = H.cells? j := by
  unfold AH.cells? AH.set
  simp [List.getElem?_set, hij]

theorem set_dead (H : AH) (i : Nat) : (H.set i none).cells? i = none := by
  unfold AH.cells? AH.set
  by_cases h : i < H.rw.length
  · simp [h]
  · simp [h]

theorem set_set (H : AH) (i : Nat) (b c : Option ABlk) : (H.set i b).set i c = H.set i c := by
  simp only [AH.set, AH.mk.injEq, true_and, List.set_set]
  exact funext fun j => propext ⟨fun h => h.elim .inl id, .inr⟩

theorem push_set (H : AH) (b c : Option ABlk) : (H.push b).set H.n c = H.push c := by
  unfold AH.push AH.set AH.n
  simp only [AH.mk.injEq, true_and]
  exact ⟨by simp, funext fun j => propext ⟨fun h => h.elim .inl id, .inr⟩⟩

theorem get_ro (H : AH) (B o : Nat) : H.get ⟨true, B, o⟩ = some (H.ro B) := rfl
theorem get_rw (H : AH) (i o : Nat) : H.get ⟨false, i, o⟩ = H.cells? i := rfl

/-- A row that is a whole block. -/
theorem row_whole {H : AH} {i n sz : Nat} {l : List AV} (hc : H.cells? i = some l) (hl : l.length = n * sz) (c : Cap) : rowA H sz (.slice ⟨false, i, 0⟩ n c) = some l := by
  simp only [rowA, get_rw, hc, Option.bind_some]
  rw [if_pos (.inl (by omega)), List.drop_zero, ← hl, List.take_length]

theorem bytes_whole {H : AH} {i : Nat} {xs : List UInt8} (hc : H.cells? i = some (xs.map bv)) {c : Cap} (hs : isSl (.slice ⟨false, i, 0⟩ xs.length c) = true) : IsBytes H (.slice ⟨false, i, 0⟩ xs.length c) xs :=
  ⟨row_whole hc (by simp) c, rfl, hs⟩

theorem IsBytes.elim {H : AH} {v : AV} {xs : List UInt8} (h : IsBytes H v xs) :
    (v = .nilslice ∧ xs = []) ∨ ∃ a c cs, v = .slice a xs.length c ∧ H.get a = some cs ∧ (∀ i (hi : i < xs.length), cs[a.off + i]? = some (bv xs[i])) ∧ (xs.length = 0 ∨ a.off + xs.length ≤ cs.length) := by
  obtain ⟨h1, h2, h3⟩ := h
  cases v with
  | nilslice =>
    left
    simp only [slen] at h2
    exact ⟨rfl, List.eq_nil_of_length_eq_zero h2.symm⟩
  | slice a n c =>
    right
    simp only [slen] at h2
    subst h2
    simp only [rowA] at h1
    obtain ⟨cs, g1, g2⟩ := Option.bind_eq_some_iff.1 h1
    split at g2
    · rename_i hle
      injection g2 with g2
      refine ⟨a, c, cs, rfl, g1, fun i hi => ?_, by omega⟩
      have := congrArg (·[i]?) g2
      simp only [List.getElem?_take, List.getElem?_drop, List.getElem?_map] at this
      rw [if_pos (by omega), List.getElem?_eq_getElem hi] at this
      simpa using this
    · cases g2
  | _ => simp [isSl] at h3

/-- The element at a place of a slice of bytes. -/
theorem IsBytes.at {H : AH} {v : AV} {xs : List UInt8} (h : IsBytes H v xs) {P : Program} {t e : TypeId} (ht : P.underlying t = some (.slice e)) (hs : sizeA P e = some 1) (ha : aggA P e = some false) {k : IntKind} {i : Int} (h0 : 0 ≤ i) (hi : i < xs.length) :
    ∃ p, indexAddrA P t v (.int k i) = some (.ptr p) ∧ loadA P e p H = some (bv (xs.getD i.toNat 0)) := by
  rcases h.elim with ⟨_, rfl⟩ | ⟨a, c, cs, rfl, g1, g2, _⟩
  · simp at hi; omega
  · refine ⟨⟨a.ro, a.blk, a.off + i.toNat * 1⟩, ?_, ?_⟩
    · simp only [indexAddrA, ht, hs, Option.bind_some]; rw [if_pos ⟨h0, hi⟩]
    · have hlt : i.toNat < xs.length := by omega
      have hg : H.get ⟨a.ro, a.blk, a.off + i.toNat⟩ = some cs := by unfold AH.get at *; exact g1
      simp only [loadA, Nat.mul_one, hg, Option.bind_some, partA, ha, Bool.false_eq_true, if_false]
      rw [g2 i.toNat hlt]
      simp [List.getD, List.getElem?_eq_getElem hlt]

theorem IsBytes.length {H : AH} {v : AV} {xs : List UInt8} (h : IsBytes H v xs) {P : Program} {t e : TypeId} (ht : P.underlying t = some (.slice e)) : lenA P t v = some (.int .i64 xs.length) := by
  rcases h.elim with ⟨rfl, rfl⟩ | ⟨a, c, cs, rfl, _, _, _⟩ <;> simp [lenA, ht]

theorem IsBytes.news {H : AH} {v : AV} {xs : List UInt8} (h : IsBytes H v xs) : newsA H 1 v = some (xs.length, xs.map bv) := by
  have h1 := h.row
  have h2 := h.len
  have h3 := h.sl
  cases v with
  | nilslice => simp only [slen] at h2; have : xs = [] := List.eq_nil_of_length_eq_zero h2.symm; subst this; rfl
  | slice a n c => simp only [slen] at h2; subst h2; simp only [newsA, h1, Option.map_some]
  | _ => simp [isSl] at h3

theorem bytesOf_bv : ∀ xs : List UInt8, bytesOfA (xs.map bv) = some xs
  | [] => rfl
  | x :: xs => by
    simp only [List.map_cons, bytesOfA, bytesOf_bv xs, Option.map_some]
    simp [bv, byteA]

theorem IsBytes.text {H : AH} {v : AV} {xs : List UInt8} (h : IsBytes H v xs) {P : Program} {s d e : TypeId} (hs : P.underlying s = some (.slice e)) (hd : P.underlying d = some .string) (he : P.underlying e = some (.int .u8)) :
    convertA P s d v H = some (.str ⟨xs.toArray⟩, H) := by
  have h1 := h.row
  have h3 := h.sl
  have key : ∀ v, rowA H 1 v = some (xs.map bv) → (match P.underlying e with | some (.int .u8) => (rowA H 1 v).bind fun cs => (bytesOfA cs).map fun bs => (AV.str ⟨bs.toArray⟩, H) | _ => none) = some (.str ⟨xs.toArray⟩, H) := fun v hv => by
    rw [he, hv]; simp only [Option.bind_some, bytesOf_bv, Option.map_some]
  cases v with
  | nilslice => simp only [convertA, hs, hd]; exact key _ h1
  | slice a n c => simp only [convertA, hs, hd]; exact key _ h1
  | _ => simp [isSl] at h3

theorem all_one_bv (xs : List UInt8) : (xs.map bv).all oneA = true := by simp [bv, oneA]

/-- A part of a slice. -/
def cutV (v : AV) (lo hi : Nat) : AV :=
  match v with
  | .slice a n (.known c) => cutA a 1 lo hi c
  | .slice a n (.grow g) => .slice ⟨false, a.blk, a.off + lo * 1⟩ (hi - lo) (.grow g)
  | v => v

theorem IsBytes.cutV {H : AH} {v : AV} {xs : List UInt8} (h : IsBytes H v xs) {lo hi : Nat} (h1 : lo ≤ hi) (h2 : hi ≤ xs.length) : IsBytes H (cutV v lo hi) ((xs.drop lo).take (hi - lo)) := by
  have hs := h.sl
  have hl := h.len
  have hlen : ((xs.drop lo).take (hi - lo)).length = hi - lo := by simp; omega
  cases v with
  | nilslice =>
    simp only [slen] at hl
    have : xs = [] := List.eq_nil_of_length_eq_zero hl.symm
    subst this
    exact ⟨by simp [Go.Abs.cutV, rowA], by simp [Go.Abs.cutV, slen], rfl⟩
  | slice a n c =>
    simp only [slen] at hl
    have hrow := h.row
    simp only [rowA] at hrow
    obtain ⟨cs, g1, g2⟩ := Option.bind_eq_some_iff.1 hrow
    split at g2
    · rename_i hle
      injection g2 with g2
      have hget : ∀ o, H.get ⟨a.ro, a.blk, o⟩ = some cs := fun o => by unfold AH.get at *; exact g1
      have key : ∀ (a' : AAddr) (c' : Cap), H.get a' = some cs → (a'.off = a.off + lo ∨ hi - lo = 0) → rowA H 1 (.slice a' (hi - lo) c') = some (((xs.drop lo).take (hi - lo)).map bv) := fun a' c' k1 k2 => by
        simp only [rowA, k1, Option.bind_some]
        rw [if_pos (by omega)]
        congr 1
        rcases Nat.eq_zero_or_pos (hi - lo) with h0 | h0
        · simp [h0]
        · have k3 : a'.off = a.off + lo := by omega
          rw [k3, ← List.drop_drop, List.map_take, List.map_drop, ← g2, List.drop_take, List.take_take]
          congr 1
          omega
      cases c with
      | known c =>
        simp only [isSl, decide_eq_true_eq] at hs
        simp only [Go.Abs.cutV, cutA]
        refine ⟨key _ _ ?_ ?_, by rw [hlen]; rfl, by simp [isSl]; omega⟩
        · split
          · exact g1
          · exact hget _
        · split
          · omega
          · left; simp
      | grow g =>
        simp only [isSl, Bool.and_eq_true, decide_eq_true_eq, Bool.not_eq_true'] at hs
        simp only [Go.Abs.cutV]
        have := hget (a.off + lo * 1)
        rw [hs.2] at this
        exact ⟨key _ _ this (.inl (by simp)), by rw [hlen]; rfl, by simp [isSl, hs.1]⟩
    · cases g2
  | _ => simp [isSl] at hs

/-- A slice is cut at places within its length. -/
theorem IsBytes.slice {H : AH} {v : AV} {xs : List UInt8} (h : IsBytes H v xs) {P : Program} {t e : TypeId} (ht : P.underlying t = some (.slice e)) (hs : sizeA P e = some 1) {lo hi : Nat} (h1 : lo ≤ hi) (h2 : hi ≤ xs.length) {olo ohi : Option AV}
    (hlo : olo = some (.int .i64 lo) ∨ olo = none ∧ lo = 0) (hhi : ohi = some (.int .i64 hi) ∨ ohi = none ∧ hi = xs.length) : sliceOpA P t v olo ohi none = some (Go.Abs.cutV v lo hi) := by
  have hsl := h.sl
  have hl := h.len
  have eh : ∀ y, hi ≤ y → optB ohi y xs.length = some hi := fun y hy => by
    rcases hhi with rfl | ⟨rfl, rfl⟩
    · simp only [optB, boundA]; rw [if_pos (by omega)]; rfl
    · rfl
  have el : optB olo hi 0 = some lo := by
    rcases hlo with rfl | ⟨rfl, rfl⟩
    · simp only [optB, boundA]; rw [if_pos (by omega)]; rfl
    · rfl
  cases v with
  | nilslice =>
    simp only [slen] at hl
    rw [← hl] at eh
    have h0 : hi = 0 := by omega
    simp only [sliceOpA, ht, hs, Option.bind_some, optB, Option.isSome_none, Bool.false_and, Bool.false_eq_true, if_false]
    have e1 := eh 0 (by omega)
    simp only [optB] at e1 el
    rw [e1]
    simp only [Option.bind_some]
    rw [el]
    rfl
  | slice a n c =>
    simp only [slen] at hl
    subst hl
    cases c with
    | known c =>
      simp only [isSl, decide_eq_true_eq] at hsl
      simp only [sliceOpA, ht, hs, Option.bind_some, cutKnown, Option.isSome_none, Bool.false_and, Bool.false_eq_true, if_false]
      rw [show optB none c c = some c from rfl, Option.bind_some, eh c (by omega), Option.bind_some, el]
      rfl
    | grow g =>
      simp only [isSl, Bool.and_eq_true, decide_eq_true_eq, Bool.not_eq_true'] at hsl
      obtain ⟨rfl, hro⟩ := hsl
      simp only [sliceOpA, ht, hs, Option.bind_some, hro, and_self, if_true]
      rw [eh _ h2, Option.bind_some, el]
      rfl
  | _ => simp [isSl] at hsl

end Go.Abs
