/- Lists of slices of bytes. -/
import Derived.Test.YtblakmabfijofaaA27
import Derived.Test.YtblakmabfijofaaA23
set_option linter.unusedVariables false
set_option linter.unusedSimpArgs false
namespace Go.Abs
open Go Go.RowKit

/-- A slice of slices of bytes that reads so. -/
structure IsRows (H : AH) (v : AV) (vs : List AV) (rows : List (List UInt8)) : Prop where
  row : Row H 1 v rows.length vs
  each : ∀ i, i < rows.length → IsBytes H (vs.getD i .unk) (rows.getD i [])

theorem IsRows.len {H : AH} {v : AV} {vs : List AV} {rows : List (List UInt8)} (h : IsRows H v vs rows) : vs.length = rows.length := by have := h.row.size; omega
theorem IsRows.grew {H H' : AH} (g : Grew H H') {v : AV} {vs : List AV} {rows : List (List UInt8)} (h : IsRows H v vs rows) : IsRows H' v vs rows := ⟨h.row.grew g, fun i hi => (h.each i hi).grew g⟩
theorem IsRows.chg {S : List Nat} {H H' : AH} {v : AV} {vs : List AV} {rows : List (List UInt8)} (h : IsRows H v vs rows) (k : Chg S H H') (ho : offB S v) (he : ∀ i, i < rows.length → offB S (vs.getD i .unk)) : IsRows H' v vs rows :=
  ⟨h.row.chg k ho, fun i hi => (h.each i hi).chg k (he i hi)⟩
theorem IsRows.off {H : AH} {v : AV} {vs : List AV} {rows : List (List UInt8)} (h : IsRows H v vs rows) {S : List Nat} (hs : ∀ i ∈ S, H.n ≤ i) : offB S v ∧ ∀ i, i < rows.length → offB S (vs.getD i .unk) :=
  ⟨h.row.off hs, fun i hi => (h.each i hi).off hs⟩
/-- What stood in an older memory is as it was where only new blocks have changed. -/
theorem IsRows.old {H0 H H' : AH} {S : List Nat} {v : AV} {vs : List AV} {rows : List (List UInt8)} (h : IsRows H0 v vs rows) (k : Chg S H0 H') (hs : ∀ i ∈ S, H0.n ≤ i) : IsRows H' v vs rows := h.grew (k.grew hs)
theorem IsRows.ld {H : AH} {v : AV} {vs : List AV} {rows : List (List UInt8)} (h : IsRows H v vs rows) {i : Nat} (hi : i < rows.length) :
    ((H.get (eltA v i 1)).bind fun cs => cs[(eltA v i 1).off]?) = some (vs.getD i .unk) := by
  have hl := h.len
  rw [h.row.ld1 hi]; simp [List.getD, show i < vs.length by omega]
theorem IsRows.ix {H : AH} {v : AV} {vs : List AV} {rows : List (List UInt8)} (h : IsRows H v vs rows) {P : Program} {t e : TypeId} (ht : P.underlying t = some (.slice e)) (hs : sizeA P e = some 1) {k : IntKind} {i : Int} (h0 : 0 ≤ i) (hi : i < rows.length) :
    indexAddrA P t v (.int k i) = some (.ptr (eltA v i.toNat 1)) := h.row.ix ht hs h0 hi

theorem Dat.rows {P : Program} {H : AH} {n : Nat} {t : TypeId} {cs : List AV} (D : Dat P H n t cs) {e u : TypeId} (hu : P.underlying t = some (.slice e)) (hs : sizeA P e = some 1) {by' : Nat} (hb : bytesA P e = some by') (he : P.underlying e = some (.slice u)) (hu8 : P.underlying u = some (.int .u8)) (hsu : sizeA P u = some 1) (hbu : bytesA P u = some 1) :
    ∃ v vs rows, cs = [v] ∧ IsRows H v vs rows ∧ rows.length * by' ≤ 140737488351232 ∧ ∀ i, i < rows.length → (rows.getD i []).length ≤ 140737488351232 := by
  obtain ⟨v, k, row, rfl, hr, hk, m, hm⟩ := D.slice hu (se := 0) hs hb
  have hl := hr.size
  have each : ∀ i, i < k → ∃ xs : List UInt8, IsBytes H (row.getD i .unk) xs ∧ xs.length ≤ 140737488351232 := fun i hi => by
    obtain ⟨v', xs, e1, h1, h2⟩ := (hm i hi).bytes he hu8 hsu hbu
    have : row.getD i .unk = v' := by
      have := congrArg (·[0]?) e1
      simp at this
      simp [List.getD, this]
    exact ⟨xs, this ▸ h1, h2⟩
  have key : ∃ f : Nat → List UInt8, ∀ i, i < k → IsBytes H (row.getD i .unk) (f i) ∧ (f i).length ≤ 140737488351232 := by
    refine ⟨fun i => if h : i < k then Classical.choose (each i h) else [], fun i hi => ?_⟩
    simp only [hi, dite_true]
    exact Classical.choose_spec (each i hi)
  obtain ⟨f, hf⟩ := key
  have hlen : ((List.range k).map f).length = k := by simp
  have hget : ∀ i, i < k → ((List.range k).map f).getD i [] = f i := fun i hi => by simp [List.getD, hi]
  refine ⟨v, row, (List.range k).map f, rfl, ⟨by rw [hlen]; exact hr, fun i hi => ?_⟩, by rw [hlen]; exact hk, fun i hi => ?_⟩
  · rw [hlen] at hi; rw [hget i hi]; exact (hf i hi).1
  · rw [hlen] at hi; rw [hget i hi]; exact (hf i hi).2
end Go.Abs
