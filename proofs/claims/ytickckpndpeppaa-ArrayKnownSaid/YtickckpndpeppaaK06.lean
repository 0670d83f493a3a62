/- The statement ArrayKnown, by computing. -/
import Derived.Test.YtickckpndpeppaaT
import Derived.Test.YtickckpndpeppaaNZ
namespace Go.Proofs.Ytickckpndpeppaa
open Go Go.Abs Go.Abs.GF
set_option linter.unusedVariables false
set_option linter.unusedSimpArgs false
set_option maxHeartbeats 4000000
attribute [local irreducible] ASpec AWp WP AOps DOps

theorem arrayKnown_abs (H : AH) : ASpec Try.prog 8 [] H fun r _ => r = .bool true :=
  (aspec_runQ (mnzBase_ok) 5000 12 (v := .bool true) (by decide) (by decide) (fun ro => by kernel_rfl) H).mono fun r _ h => h.1
end Go.Proofs.Ytickckpndpeppaa
