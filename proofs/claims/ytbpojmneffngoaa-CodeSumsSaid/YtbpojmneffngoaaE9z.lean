import Derived.Test.YtbpojmneffngoaaE8z
namespace Go.Proofs.Ytbpojmneffngoaa
open Go Go.Abs Go.Abs.GF
set_option linter.unusedVariables false
set_option linter.unusedSimpArgs false
set_option maxHeartbeats 4000000
attribute [local irreducible] ASpec AWp WP AOps DOps
def AnsK (K : AH) (v : AV) (R : Rows8) (S : List Nat) : Prop :=
  (v = .nilslice ∧ R = [] ∧ S = []) ∨ ∃ B ws c, v = .slice ⟨false, B, 0⟩ R.length c ∧ okSl 1 (.slice ⟨false, B, 0⟩ R.length c) = true ∧ OwnRows K B ws R ∧ S = blks B ws
theorem AnsK.grew {K K' : AH} {v : AV} {R : Rows8} {S : List Nat} (h : AnsK K v R S) (g : Grew K K') : AnsK K' v R S := by
  rcases h with h | ⟨B, ws, c, h1, h2, h3, h4⟩
  · exact .inl h
  · exact .inr ⟨B, ws, c, h1, h2, h3.grew g, h4⟩
theorem AnsK.rows {K : AH} {v : AV} {R : Rows8} {S : List Nat} (h : AnsK K v R S) : ∃ ws, IsRows K v ws R := by
  rcases h with ⟨rfl, rfl, _⟩ | ⟨B, ws, c, rfl, h2, h3, h4⟩
  · exact ⟨[], nil_rows K⟩
  · exact ⟨ws, h3.isRows h2⟩
theorem AnsK.lt {K : AH} {v : AV} {R : Rows8} {S : List Nat} (h : AnsK K v R S) : ∀ b ∈ S, b < K.n := by
  rcases h with ⟨_, _, rfl⟩ | ⟨B, ws, c, h1, h2, h3, rfl⟩
  · intro b hb; cases hb
  · exact h3.lt
end Go.Proofs.Ytbpojmneffngoaa
