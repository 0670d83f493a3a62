import Derived.Test.YtbpojmneffngoaaMKz
namespace Go.Proofs.Ytbpojmneffngoaa
open Go Go.Abs Go.Abs.GF
set_option linter.unusedVariables false
set_option linter.unusedSimpArgs false
set_option maxHeartbeats 4000000
attribute [local irreducible] ASpec AWp WP AOps DOps
def rowsOk (a : Rows8) (l : List Int) : Prop := mayM a ∧ 1 ≤ l.length ∧ l.length ≤ 255 ∧ ∀ k, k < l.length → 0 ≤ l.getD k 0 ∧ l.getD k 0 < a.length
instance (a : Rows8) (l : List Int) : Decidable (rowsOk a l) := by unfold rowsOk; infer_instance
end Go.Proofs.Ytbpojmneffngoaa
