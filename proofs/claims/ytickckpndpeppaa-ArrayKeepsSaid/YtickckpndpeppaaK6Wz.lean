/- ArrayKeeps: what the program wants to find, sector by sector. -/
import Derived.Test.YtickckpndpeppaaK6Lz
import Derived.Test.YtickckpndpeppaaDXz
namespace Go.Proofs.Ytickckpndpeppaa
open Go Go.Abs Go.Abs.GF
set_option linter.unusedVariables false
set_option linter.unusedSimpArgs false
set_option maxHeartbeats 4000000
attribute [local irreducible] ASpec AWp WP AOps DOps

def updF (F : Nat → Nat → List UInt8) (d i : Nat) (bs : List UInt8) : Nat → Nat → List UInt8 := fun d' i' => if d = d' ∧ i = i' then bs else F d' i'
structure Want (H : AH) (B : Nat) (X : List Nat) (ws : List AV) (F : Nat → Nat → List UInt8) : Prop where
  cs : H.cells? B = some ws
  len : ws.length = 12
  each : ∀ d i, d < 3 → i < 4 → IsBytes H (ws.getD (d * 4 + i) .nilslice) (F d i) ∧ ∀ j ∈ blkOf (ws.getD (d * 4 + i) .nilslice), j ∈ X ∧ j ≠ B
  mem : B ∈ X
section
variable {H0 H H' : AH} {B : Nat} {X : List Nat} {ws : List AV} {F : Nat → Nat → List UInt8} {P : Nat} {A : Arr}
theorem Want.stp (h : Want H B X ws F) (s : Stp H0 X H H') : Want H' B X ws F :=
  ⟨s.cells h.mem h.cs, h.len, fun d i hd hi => ⟨s.bytes (h.each d i hd hi).1 fun j hj => ((h.each d i hd hi).2 j hj).1, (h.each d i hd hi).2⟩, h.mem⟩
theorem Want.grew (h : Want H B X ws F) (g : Grew H H') : Want H' B X ws F := ⟨g.cells_some h.cs, h.len, fun d i hd hi => ⟨(h.each d i hd hi).1.grew g, (h.each d i hd hi).2⟩, h.mem⟩
theorem Want.more {Y : List Nat} (h : Want H B X ws F) (hy : ∀ j ∈ X, j ∈ Y) : Want H B Y ws F := ⟨h.cs, h.len, fun d i hd hi => ⟨(h.each d i hd hi).1, fun j hj => ⟨hy j ((h.each d i hd hi).2 j hj).1, ((h.each d i hd hi).2 j hj).2⟩⟩, hy B h.mem⟩
theorem Want.clr (h : Want H B X ws F) : Want H.clr B X ws F := ⟨h.cs, h.len, fun d i hd hi => ⟨(h.each d i hd hi).1.clr, (h.each d i hd hi).2⟩, h.mem⟩
theorem Want.also {Z : Nat → Prop} (h : Want H B X ws F) : Want (H.also Z) B X ws F := ⟨h.cs, h.len, fun d i hd hi => ⟨(h.each d i hd hi).1.also, (h.each d i hd hi).2⟩, h.mem⟩
theorem Want.to {G : Nat → Nat → List UInt8} (h : Want H B X ws F) (e : ∀ d i, d < 3 → i < 4 → F d i = G d i) : Want H B X ws G := ⟨h.cs, h.len, fun d i hd hi => ⟨e d i hd hi ▸ (h.each d i hd hi).1, (h.each d i hd hi).2⟩, h.mem⟩
theorem Want.set (h : Want H B X ws F) {d i : Nat} (hd : d < 3) (hi : i < 4) {v : AV} {bs : List UInt8} (hv : IsBytes H v bs) (hb : ∀ j ∈ blkOf v, j ∈ X ∧ j ≠ B) : Want (H.set B (some (.cells (ws.set (d * 4 + i) v)))) B X (ws.set (d * 4 + i) v) (updF F d i bs) := by
  have hc : Chg [B] H (H.set B (some (.cells (ws.set (d * 4 + i) v)))) := Chg.set H B (some (.cells (ws.set (d * 4 + i) v))) (by simp)
  have hk : ∀ {w : AV} {xs : List UInt8}, IsBytes H w xs → (∀ j ∈ blkOf w, j ∈ X ∧ j ≠ B) → IsBytes (H.set B (some (.cells (ws.set (d * 4 + i) v)))) w xs := fun {w xs} k1 k2 => by
    refine k1.chg hc ?_
    rcases k1.elim with ⟨rfl, _⟩ | ⟨a, c, l, rfl, _⟩
    · trivial
    · refine .inr fun hm => (k2 a.blk (by simp [blkOf])).2 (by simpa using hm)
  refine ⟨set_cells _ _ (cells_lt h.cs), by rw [List.length_set]; exact h.len, fun d' i' hd' hi' => ?_, h.mem⟩
  have hl := h.len
  by_cases e : d = d' ∧ i = i'
  · obtain ⟨rfl, rfl⟩ := e
    rw [show (ws.set (d * 4 + i) v).getD (d * 4 + i) .nilslice = v by simp [List.getD, show d * 4 + i < ws.length by omega]]
    simp only [updF, and_self, if_true]
    exact ⟨hk hv hb, hb⟩
  · rw [show (ws.set (d * 4 + i) v).getD (d' * 4 + i') .nilslice = ws.getD (d' * 4 + i') .nilslice by simp [List.getD, List.getElem?_set_ne (show d * 4 + i ≠ d' * 4 + i' by omega)]]
    simp only [updF, if_neg e]
    exact ⟨hk (h.each d' i' hd' hi').1 (h.each d' i' hd' hi').2, (h.each d' i' hd' hi').2⟩
theorem ArrN.theirs (h : ArrN H0 X H P A) {S : List Nat} (c : Chg S H H') (hS : ∀ i ∈ S, i ∈ X) (hn : ∀ i ∈ S, H0.n ≤ i) : ArrN H0 X H' P A := by
  obtain ⟨⟨D, fv, dvs, h1, h2⟩, h3, h4⟩ := h
  exact ⟨⟨D, fv, dvs, h1.chg c fun i hi hm => (h2 i hi).2 (hS i hm), h2⟩, fun i hi => Nat.lt_of_lt_of_le (h3 i hi) c.n, ((h4.chg S).trans c).grew hn⟩
end
end Go.Proofs.Ytickckpndpeppaa
