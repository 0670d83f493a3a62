/- Products. -/
import Derived.Test.YtbpojmneffngoaaMIz
namespace Go.Proofs.Ytbpojmneffngoaa
open Go Go.Abs Go.Abs.GF
set_option linter.unusedVariables false
set_option linter.unusedSimpArgs false
set_option maxHeartbeats 4000000
attribute [local irreducible] ASpec AWp WP AOps DOps

theorem list_ext0 {l m : List UInt8} (h : l.length = m.length) (k : ∀ j, j < l.length → l.getD j 0 = m.getD j 0) : l = m := by
  apply List.ext_getElem h
  intro j h1 h2
  have := k j h1
  simpa [List.getD, h1, h2] using this
/-- A row of a product, so many summands. -/
def combRow (a b : Rows8) (i t : Nat) : List UInt8 := (List.range (b.getD 0 []).length).map fun j => sx (fun u => gmul (ent a i u) (ent b u j)) t
theorem combRow_len (a b : Rows8) (i t : Nat) : (combRow a b i t).length = (b.getD 0 []).length := by simp [combRow]
theorem combRow_get {a b : Rows8} {i t j : Nat} (hj : j < (b.getD 0 []).length) : (combRow a b i t).getD j 0 = sx (fun u => gmul (ent a i u) (ent b u j)) t := by
  have key : ∀ (f : Nat → UInt8) (n : Nat), j < n → ((List.range n).map f).getD j 0 = f j := fun f n h => by simp [List.getD, h]
  exact key _ _ hj
theorem combRow_0 (a b : Rows8) (i : Nat) : combRow a b i 0 = List.replicate (b.getD 0 []).length 0 := by
  simp only [combRow, sx]
  apply List.ext_getElem <;> simp
theorem combRow_s {a b : Rows8} {i t : Nat} (h : (b.getD t []).length = (b.getD 0 []).length) : addRow (combRow a b i t) (b.getD t []) (ent a i t) = combRow a b i (t + 1) := by
  have hl := combRow_len a b i t
  have hl2 := combRow_len a b i (t + 1)
  have hl3 : (addRow (combRow a b i t) (b.getD t []) (ent a i t)).length = (b.getD 0 []).length := by rw [addRow_len (by omega), hl]
  refine list_ext0 (by omega) fun j hj => ?_
  rw [addRow_get (by omega), combRow_get (by omega), combRow_get (by omega), sx, mul_comm (ent a i t)]
  rfl
theorem combRow_all {a b : Rows8} {i : Nat} (h : i < a.length) : combRow a b i b.length = (mulRows a b).getD i [] := (mulRows_get h).symm

def mulPart (a b : Rows8) (i : Nat) : Rows8 := (mulRows a b).take i ++ (zRows a.length (b.getD 0 []).length).drop i
theorem mulPart_len {a b : Rows8} {i : Nat} (h : i ≤ a.length) : (mulPart a b i).length = a.length := by simp [mulPart, mulRows_len, zRows_len]; omega
theorem mulPart_row {a b : Rows8} {i : Nat} (h : i < a.length) : (mulPart a b i).getD i [] = combRow a b i 0 := by
  unfold mulPart
  rw [mix_get _ _ _ (by rw [mulRows_len]; omega), zRows_get h, combRow_0]
theorem mulPart_set {a b : Rows8} {i : Nat} (h : i < a.length) : (mulPart a b i).set i (combRow a b i b.length) = mulPart a b (i + 1) := by
  rw [combRow_all h]
  exact mix_step [] _ _ (by rw [mulRows_len]; omega) (by rw [zRows_len]; omega)

def mulRes (H : AH) (a b : Rows8) (known : Bool) (r : AV) (H' : AH) : Prop :=
  if mayM a ∧ mayM b ∧ (a.getD 0 []).length = b.length then ∃ B ws, r = .tup [.slice ⟨false, B, 0⟩ a.length (if known then .known a.length else .grow 1), .int .i64 0] ∧ NewRows H H' B ws (mulRows a b) else r = .tup [.nilslice, .int .i64 1] ∧ H' = H

end Go.Proofs.Ytbpojmneffngoaa
