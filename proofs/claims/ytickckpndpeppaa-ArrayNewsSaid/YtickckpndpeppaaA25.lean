/- Patterns: what is gathered by append. -/
import Derived.Test.YtickckpndpeppaaA22
set_option linter.unusedVariables false
set_option linter.unusedSimpArgs false
namespace Go.Abs
open Go Go.RowKit

/-- What has been appended so far: nothing (a nil slice), or a block of its own behind the memory 'H0'. -/
structure Acc (sz : Nat) (H0 H : AH) (b : AV) (n : Nat) (cs : List AV) : Prop where
  g : Grew H0 H
  len : cs.length = n * sz
  is : (b = .nilslice ∧ n = 0) ∨ ∃ B, b = .slice ⟨false, B, 0⟩ n (.grow sz) ∧ H0.n ≤ B ∧ H.cells? B = some cs

theorem Acc.nil {sz : Nat} {H0 H : AH} (h : Grew H0 H) : Acc sz H0 H .nilslice 0 [] := ⟨h, by simp, .inl ⟨rfl, rfl⟩⟩

theorem Acc.grew {sz : Nat} {H0 H H' : AH} {b : AV} {n : Nat} {cs : List AV} (h : Acc sz H0 H b n cs) (g : Grew H H') : Acc sz H0 H' b n cs := by
  refine ⟨h.g.trans g, h.len, ?_⟩
  rcases h.is with h1 | ⟨B, h1, h2, h3⟩
  · exact .inl h1
  · exact .inr ⟨B, h1, h2, g.cells_some h3⟩

theorem Acc.row {sz : Nat} {H0 H : AH} {b : AV} {n : Nat} {cs : List AV} (h : Acc sz H0 H b n cs) : Row H sz b n cs := by
  rcases h.is with ⟨rfl, rfl⟩ | ⟨B, rfl, h2, h3⟩
  · obtain rfl : cs = [] := List.eq_nil_of_length_eq_zero (by rw [h.len]; simp)
    exact Row.nil _ _
  · exact ⟨row_whole h3 h.len _, rfl, by simp [okSl]⟩

theorem Acc.bytes {H0 H : AH} {b : AV} {xs : List UInt8} (h : Acc 1 H0 H b xs.length (xs.map bv)) : IsBytes H b xs := h.row.toBytes

/-- One append more. -/
theorem Acc.app {sz by' : Nat} {H0 H : AH} {b : AV} {n : Nat} {cs : List AV} (h : Acc sz H0 H b n cs) {k : Nat} {news : List AV} (hk : news.length = k * sz) (h1 : n + k ≤ 140737488355328) (h2 : (n + k) * by' ≤ 140737488355328) :
    ∃ H', appendTo sz by' H k news b = some (.slice ⟨false, H.n, 0⟩ (n + k) (.grow sz), H') ∧ Acc sz H0 H' (.slice ⟨false, H.n, 0⟩ (n + k) (.grow sz)) (n + k) (cs ++ news) ∧ H'.n = H.n + 1 := by
  obtain ⟨hg, hl, hb⟩ := h
  have hlen : (cs ++ news).length = (n + k) * sz := by rw [List.length_append, hl, hk, Nat.add_mul]
  rcases hb with ⟨rfl, rfl⟩ | ⟨B, rfl, hB, hc⟩
  · obtain rfl : cs = [] := List.eq_nil_of_length_eq_zero (by rw [hl]; simp)
    rw [Nat.zero_add] at h1 h2
    refine ⟨H.push (some (.cells news)), ?_, ⟨hg.trans (Grew.push _ _), hlen, .inr ⟨H.n, rfl, hg.n, ?_⟩⟩, push_n _ _⟩
    · rw [app_to_nil, gd_pos ⟨h1, h2⟩, Nat.zero_add]
    · rw [push_cells]; rfl
  · refine ⟨(H.set B none).push (some (.cells (cs ++ news))), ?_, ⟨(hg.set hB none).trans (Grew.push _ _), hlen, .inr ⟨H.n, rfl, hg.n, ?_⟩⟩, by rw [push_n, set_n]⟩
    · rw [app_to_grow, gd_pos ⟨h1, h2⟩, hc]
      simp only [Option.bind_some, List.drop_zero]
      rw [gde_pos (by omega)]
    · rw [← set_n H B none, push_cells]

/-- What is gathered behind one memory is gathered behind a former one. -/
theorem Acc.from {sz : Nat} {H0 H1 H : AH} {b : AV} {n : Nat} {cs : List AV} (h : Acc sz H1 H b n cs) (g : Grew H0 H1) : Acc sz H0 H b n cs := by
  refine ⟨g.trans h.g, h.len, ?_⟩
  rcases h.is with h1 | ⟨B, h1, h2, h3⟩
  · exact .inl h1
  · exact .inr ⟨B, h1, Nat.le_trans g.n h2, h3⟩

end Go.Abs
