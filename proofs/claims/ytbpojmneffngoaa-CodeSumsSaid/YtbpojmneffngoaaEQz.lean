import Derived.Test.YtbpojmneffngoaaTz
import Derived.Test.YtbpojmneffngoaaZ3
namespace Go.Proofs.Ytbpojmneffngoaa
open Go Go.Abs Go.Abs.GF
set_option linter.unusedVariables false
set_option linter.unusedSimpArgs false
set_option maxHeartbeats 4000000
attribute [local irreducible] ASpec AWp WP AOps DOps
theorem str_list (xs : List UInt8) : (⟨xs.toArray⟩ : ByteArray).toList = xs := by rw [ByteArray.toList_eq]
end Go.Proofs.Ytbpojmneffngoaa
