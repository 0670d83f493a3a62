/- Chapter 2's examples, by computing. -/
import Derived.Test.YtblakmabfijofaaV3
import Derived.Test.YtblakmabfijofaaA29
namespace Go.Proofs.Ytblakmabfijofaa
open Go Go.Abs Go.Abs.GF
set_option linter.unusedVariables false
set_option linter.unusedSimpArgs false
set_option maxHeartbeats 4000000
attribute [local irreducible] ASpec AWp WP AOps DOps

theorem wakes_spec (H : AH) : ASpec Try.prog 15 [] H fun r H' => r = .bool true ∧ H' = H :=
  aspec_runQ (noBase_ok _) 40 10 (by decide) (by decide) (fun ro => by kernel_rfl) H
end Go.Proofs.Ytblakmabfijofaa
