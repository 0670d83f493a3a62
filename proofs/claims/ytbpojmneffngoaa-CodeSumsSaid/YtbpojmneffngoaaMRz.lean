import Derived.Test.YtbpojmneffngoaaMVz
namespace Go.Proofs.Ytbpojmneffngoaa
open Go Go.Abs Go.Abs.GF
set_option linter.unusedVariables false
set_option linter.unusedSimpArgs false
set_option maxHeartbeats 4000000
attribute [local irreducible] ASpec AWp WP AOps DOps
section
variable {H0 H : AH} {S1 S2 : List Nat} {B1 B2 : Nat} {w1 w2 : List AV} {A B : Rows8}
end
end Go.Proofs.Ytbpojmneffngoaa
