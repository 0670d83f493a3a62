/- The statement SummaryKnown, by computing. -/
import Derived.Test.YtbicbjfdinhpoaaT
import Derived.Test.YtbicbjfdinhpoaaA29
namespace Go.Proofs.Ytbicbjfdinhpoaa
open Go Go.Abs Go.Abs.GF
set_option linter.unusedVariables false
set_option linter.unusedSimpArgs false
set_option maxHeartbeats 4000000
attribute [local irreducible] ASpec AWp WP AOps DOps

theorem summaryKnown_abs (H : AH) : ASpec Try.prog 6 [] H fun r _ => r = .bool true :=
  (aspec_runQ (noBase_ok _) 5000 12 (v := .bool true) (by decide) (by decide) (fun ro => by kernel_rfl) H).mono fun r _ h => h.1
end Go.Proofs.Ytbicbjfdinhpoaa
