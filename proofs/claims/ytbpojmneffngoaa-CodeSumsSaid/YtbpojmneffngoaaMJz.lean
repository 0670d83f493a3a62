import Derived.Test.YtbpojmneffngoaaMIz
namespace Go.Proofs.Ytbpojmneffngoaa
open Go Go.Abs Go.Abs.GF
set_option linter.unusedVariables false
set_option linter.unusedSimpArgs false
set_option maxHeartbeats 4000000
attribute [local irreducible] ASpec AWp WP AOps DOps
theorem list_ext0 {l m : List UInt8} (h : l.length = m.length) (k : ∀ j, j < l.length → l.getD j 0 = m.getD j 0) : l = m := by
  apply List.ext_getElem h
  intro j h1 h2
  have := k j h1
  simpa [List.getD, h1, h2] using this
def combRow (a b : Rows8) (i t : Nat) : List UInt8 := (List.range (b.getD 0 []).length).map fun j => sx (fun u => gmul (ent a i u) (ent b u j)) t
theorem combRow_len (a b : Rows8) (i t : Nat) : (combRow a b i t).length = (b.getD 0 []).length := by simp [combRow]
theorem combRow_get {a b : Rows8} {i t j : Nat} (hj : j < (b.getD 0 []).length) : (combRow a b i t).getD j 0 = sx (fun u => gmul (ent a i u) (ent b u j)) t := by
  have key : ∀ (f : Nat → UInt8) (n : Nat), j < n → ((List.range n).map f).getD j 0 = f j := fun f n h => by simp [List.getD, h]
  exact key _ _ hj
theorem combRow_0 (a b : Rows8) (i : Nat) : combRow a b i 0 = List.replicate (b.getD 0 []).length 0 := by
  simp only [combRow, sx]
  apply List.ext_getElem <;> simp
theorem combRow_s {a b : Rows8} {i t : Nat} (h : (b.getD t []).length = (b.getD 0 []).length) : addRow (combRow a b i t) (b.getD t []) (ent a i t) = combRow a b i (t + 1) := by
  have hl := combRow_len a b i t
  have hl2 := combRow_len a b i (t + 1)
  have hl3 : (addRow (combRow a b i t) (b.getD t []) (ent a i t)).length = (b.getD 0 []).length := by rw [addRow_len (by omega), hl]
  refine list_ext0 (by omega) fun j hj => ?_
  rw [addRow_get (by omega), combRow_get (by omega), combRow_get (by omega), sx, mul_comm (ent a i t)]
  rfl
end Go.Proofs.Ytbpojmneffngoaa
