/- Lists of slices of bytes. -/
import Derived.Test.YtickckpndpeppaaA27
import Derived.Test.YtickckpndpeppaaA23
set_option linter.unusedVariables false
set_option linter.unusedSimpArgs false
namespace Go.Abs
open Go Go.RowKit

/-- A slice of slices of bytes that reads so. -/
structure IsRows (H : AH) (v : AV) (vs : List AV) (rows : List (List UInt8)) : Prop where
  row : Row H 1 v rows.length vs
  each : ∀ i, i < rows.length → IsBytes H (vs.getD i .unk) (rows.getD i [])

theorem IsRows.len {H : AH} {v : AV} {vs : List AV} {rows : List (List UInt8)} (h : IsRows H v vs rows) : vs.length = rows.length := by have := h.row.size; omega
theorem IsRows.grew {H H' : AH} (g : Grew H H') {v : AV} {vs : List AV} {rows : List (List UInt8)} (h : IsRows H v vs rows) : IsRows H' v vs rows := ⟨h.row.grew g, fun i hi => (h.each i hi).grew g⟩
theorem IsRows.chg {S : List Nat} {H H' : AH} {v : AV} {vs : List AV} {rows : List (List UInt8)} (h : IsRows H v vs rows) (k : Chg S H H') (ho : offB S v) (he : ∀ i, i < rows.length → offB S (vs.getD i .unk)) : IsRows H' v vs rows :=
  ⟨h.row.chg k ho, fun i hi => (h.each i hi).chg k (he i hi)⟩
theorem IsRows.off {H : AH} {v : AV} {vs : List AV} {rows : List (List UInt8)} (h : IsRows H v vs rows) {S : List Nat} (hs : ∀ i ∈ S, H.n ≤ i) : offB S v ∧ ∀ i, i < rows.length → offB S (vs.getD i .unk) :=
  ⟨h.row.off hs, fun i hi => (h.each i hi).off hs⟩
/-- What stood in an older memory is as it was where only new blocks have changed. -/
theorem IsRows.old {H0 H' : AH} {S : List Nat} {v : AV} {vs : List AV} {rows : List (List UInt8)} (h : IsRows H0 v vs rows) (k : Chg S H0 H') (hs : ∀ i ∈ S, H0.n ≤ i) : IsRows H' v vs rows := h.grew (k.grew hs)
theorem IsRows.ld {H : AH} {v : AV} {vs : List AV} {rows : List (List UInt8)} (h : IsRows H v vs rows) {i : Nat} (hi : i < rows.length) :
    ((H.get (eltA v i 1)).bind fun cs => cs[(eltA v i 1).off]?) = some (vs.getD i .unk) := by
  have hl := h.len
  rw [h.row.ld1 hi]; simp [List.getD, show i < vs.length by omega]
theorem IsRows.ix {H : AH} {v : AV} {vs : List AV} {rows : List (List UInt8)} (h : IsRows H v vs rows) {P : Program} {t e : TypeId} (ht : P.underlying t = some (.slice e)) (hs : sizeA P e = some 1) {k : IntKind} {i : Int} (h0 : 0 ≤ i) (hi : i < rows.length) :
    indexAddrA P t v (.int k i) = some (.ptr (eltA v i.toNat 1)) := h.row.ix ht hs h0 hi

theorem Dat.rows {P : Program} {H : AH} {n : Nat} {t : TypeId} {cs : List AV} (D : Dat P H n t cs) {e u : TypeId} (hu : P.underlying t = some (.slice e)) (hs : sizeA P e = some 1) {by' : Nat} (hb : bytesA P e = some by') (he : P.underlying e = some (.slice u)) (hu8 : P.underlying u = some (.int .u8)) (hsu : sizeA P u = some 1) (hbu : bytesA P u = some 1) :
    ∃ v vs rows, cs = [v] ∧ IsRows H v vs rows ∧ rows.length * by' ≤ 140737488351232 ∧ ∀ i, i < rows.length → (rows.getD i []).length ≤ 140737488351232 := by
  obtain ⟨v, k, row, rfl, hr, hk, m, hm⟩ := D.slice hu (se := 0) hs hb
  have hl := hr.size
  have each : ∀ i, i < k → ∃ xs : List UInt8, IsBytes H (row.getD i .unk) xs ∧ xs.length ≤ 140737488351232 := fun i hi => by
    obtain ⟨v', xs, e1, h1, h2⟩ := (hm i hi).bytes he hu8 hsu hbu
    have : row.getD i .unk = v' := by
      have := congrArg (·[0]?) e1
      simp at this
      simp [List.getD, this]
    exact ⟨xs, this ▸ h1, h2⟩
  have key : ∃ f : Nat → List UInt8, ∀ i, i < k → IsBytes H (row.getD i .unk) (f i) ∧ (f i).length ≤ 140737488351232 := by
    refine ⟨fun i => if h : i < k then Classical.choose (each i h) else [], fun i hi => ?_⟩
    simp only [hi, dite_true]
    exact Classical.choose_spec (each i hi)
  obtain ⟨f, hf⟩ := key
  have hlen : ((List.range k).map f).length = k := by simp
  have hget : ∀ i, i < k → ((List.range k).map f).getD i [] = f i := fun i hi => by simp [List.getD, hi]
  refine ⟨v, row, (List.range k).map f, rfl, ⟨by rw [hlen]; exact hr, fun i hi => ?_⟩, by rw [hlen]; exact hk, fun i hi => ?_⟩
  · rw [hlen] at hi; rw [hget i hi]; exact (hf i hi).1
  · rw [hlen] at hi; rw [hget i hi]; exact (hf i hi).2
/-! what is gathered row by row -/
def blkOf : AV → List Nat
  | .slice a _ _ => [a.blk]
  | _ => []
theorem Acc.below {sz : Nat} {H0 H : AH} {b : AV} {n : Nat} {cs : List AV} (h : Acc sz H0 H b n cs) : ∀ i ∈ blkOf b, i < H.n := by
  rcases h.is with ⟨rfl, _⟩ | ⟨B, rfl, hB, hc⟩
  · simp [blkOf]
  · simp only [blkOf, List.mem_cons, List.not_mem_nil, or_false]
    rintro i rfl
    exact cells_lt hc
/-- One append more; what changes is the block that is left. -/
theorem Acc.app' {sz by' : Nat} {H0 H : AH} {b : AV} {n : Nat} {cs : List AV} (h : Acc sz H0 H b n cs) {k : Nat} {news : List AV} (hk : news.length = k * sz) (h1 : n + k ≤ 140737488355328) (h2 : (n + k) * by' ≤ 140737488355328) :
    ∃ H', appendTo sz by' H k news b = some (.slice ⟨false, H.n, 0⟩ (n + k) (.grow sz), H') ∧ Acc sz H0 H' (.slice ⟨false, H.n, 0⟩ (n + k) (.grow sz)) (n + k) (cs ++ news) ∧ H'.n = H.n + 1 ∧ Chg (blkOf b) H H' := by
  obtain ⟨H', a1, a2, a3⟩ := h.app hk h1 h2
  refine ⟨H', a1, a2, a3, ?_⟩
  obtain ⟨hg, hl, hb⟩ := h
  rcases hb with ⟨rfl, rfl⟩ | ⟨B, rfl, hB, hc⟩
  · rw [app_to_nil, gd_pos ⟨by omega, by rw [Nat.zero_add] at h2; exact h2⟩] at a1
    injection a1 with a1
    injection a1 with a0 a1
    rw [← a1]
    exact (Grew.push _ _).chg _
  · rw [app_to_grow, gd_pos ⟨h1, h2⟩, hc] at a1
    simp only [Option.bind_some, List.drop_zero] at a1
    rw [gde_pos (by omega)] at a1
    injection a1 with a1
    injection a1 with a0 a1
    rw [← a1]
    exact (Chg.set H B none (S := blkOf (.slice ⟨false, B, 0⟩ n (.grow sz))) (by simp [blkOf])).trans ((Grew.push _ _).chg _)

structure AccRows (H0 H : AH) (mv : AV) (ws : List AV) (rows : List (List UInt8)) : Prop where
  acc : Acc 1 H0 H mv rows.length ws
  each : ∀ j, j < rows.length → IsBytes H (ws.getD j .unk) (rows.getD j []) ∧ offB (blkOf mv) (ws.getD j .unk)

theorem AccRows.nil {H0 H : AH} (h : Grew H0 H) : AccRows H0 H .nilslice [] [] := ⟨Acc.nil h, fun j hj => by simp at hj⟩
theorem AccRows.len {H0 H : AH} {mv : AV} {ws : List AV} {rows : List (List UInt8)} (h : AccRows H0 H mv ws rows) : ws.length = rows.length := by have := h.acc.len; omega
theorem AccRows.rows {H0 H : AH} {mv : AV} {ws : List AV} {rows : List (List UInt8)} (h : AccRows H0 H mv ws rows) : IsRows H mv ws rows := ⟨h.acc.row, fun i hi => (h.each i hi).1⟩
theorem AccRows.grew {H0 H H' : AH} {mv : AV} {ws : List AV} {rows : List (List UInt8)} (h : AccRows H0 H mv ws rows) (g : Grew H H') : AccRows H0 H' mv ws rows := ⟨h.acc.grew g, fun j hj => ⟨(h.each j hj).1.grew g, (h.each j hj).2⟩⟩
theorem AccRows.add {by' : Nat} {H0 H : AH} {mv w : AV} {ws : List AV} {rows : List (List UInt8)} {xs : List UInt8} (h : AccRows H0 H mv ws rows) (hw : IsBytes H w xs) (ho : offB (blkOf mv) w) (h1 : rows.length + 1 ≤ 140737488355328) (h2 : (rows.length + 1) * by' ≤ 140737488355328) :
    ∃ H', appendTo 1 by' (H.push (some (.cells [w]))) 1 [w] mv = some (.slice ⟨false, H.n + 1, 0⟩ (rows.length + 1) (.grow 1), H') ∧ AccRows H0 H' (.slice ⟨false, H.n + 1, 0⟩ (rows.length + 1) (.grow 1)) (ws ++ [w]) (rows ++ [xs]) ∧ Chg (blkOf mv) H H' := by
  obtain ⟨H', a1, a2, a3, a4⟩ := (h.acc.grew (Grew.push H (some (.cells [w])))).app' (by' := by') (k := 1) (news := [w]) rfl h1 h2
  rw [push_n] at a1 a2
  have hl := h.len
  have hc : Chg (blkOf mv) H H' := ((Grew.push H _).chg _).trans a4
  refine ⟨H', a1, ⟨by rw [List.length_append]; exact a2, fun j hj => ?_⟩, hc⟩
  simp only [List.length_append, List.length_cons, List.length_nil, Nat.zero_add] at hj
  by_cases hjl : j < rows.length
  · have e1 : (ws ++ [w]).getD j .unk = ws.getD j .unk := by simp [List.getD, List.getElem?_append_left (show j < ws.length by omega)]
    have e2 : (rows ++ [xs]).getD j [] = rows.getD j [] := by simp [List.getD, List.getElem?_append_left hjl]
    rw [e1, e2]
    have := h.each j hjl
    exact ⟨this.1.chg hc this.2, this.1.off (by simp [blkOf])⟩
  · obtain rfl : j = rows.length := by omega
    have e1 : (ws ++ [w]).getD rows.length .unk = w := by simp [List.getD, ← hl]
    have e2 : (rows ++ [xs]).getD rows.length [] = xs := by simp [List.getD]
    rw [e1, e2]
    exact ⟨hw.chg hc ho, hw.off (by simp [blkOf])⟩
/-- One row more, in the memory at hand. -/
theorem AccRows.addG {by' : Nat} {H0 H : AH} {mv w : AV} {ws : List AV} {rows : List (List UInt8)} {xs : List UInt8} (h : AccRows H0 H mv ws rows) (hw : IsBytes H w xs) (ho : offB (blkOf mv) w) (h1 : rows.length + 1 ≤ 140737488355328) (h2 : (rows.length + 1) * by' ≤ 140737488355328) :
    ∃ H', appendTo 1 by' H 1 [w] mv = some (.slice ⟨false, H.n, 0⟩ (rows.length + 1) (.grow 1), H') ∧ AccRows H0 H' (.slice ⟨false, H.n, 0⟩ (rows.length + 1) (.grow 1)) (ws ++ [w]) (rows ++ [xs]) ∧ Chg (blkOf mv) H H' ∧ H'.n = H.n + 1 := by
  obtain ⟨H', a1, a2, a3, a4⟩ := h.acc.app' (by' := by') (k := 1) (news := [w]) rfl h1 h2
  have hl := h.len
  refine ⟨H', a1, ⟨by rw [List.length_append]; exact a2, fun j hj => ?_⟩, a4, a3⟩
  simp only [List.length_append, List.length_cons, List.length_nil, Nat.zero_add] at hj
  by_cases hjl : j < rows.length
  · have e1 : (ws ++ [w]).getD j .unk = ws.getD j .unk := by simp [List.getD, List.getElem?_append_left (show j < ws.length by omega)]
    have e2 : (rows ++ [xs]).getD j [] = rows.getD j [] := by simp [List.getD, List.getElem?_append_left hjl]
    rw [e1, e2]
    have := h.each j hjl
    exact ⟨this.1.chg a4 this.2, this.1.off (by simp [blkOf])⟩
  · obtain rfl : j = rows.length := by omega
    have e1 : (ws ++ [w]).getD rows.length .unk = w := by simp [List.getD, ← hl]
    have e2 : (rows ++ [xs]).getD rows.length [] = xs := by simp [List.getD]
    rw [e1, e2]
    exact ⟨hw.chg a4 ho, hw.off (by simp [blkOf])⟩
end Go.Abs
