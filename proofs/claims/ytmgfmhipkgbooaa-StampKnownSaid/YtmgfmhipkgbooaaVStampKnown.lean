/- What the call of StampKnown comes to, by computing. Conditions: none. -/
import Derived.Test.YtmgfmhipkgbooaaA16
import Derived.Test.YtmgfmhipkgbooaaProg
namespace Go.Proofs.Ytmgfmhipkgbooaa
open Go Go.Abs
theorem stampKnown_abs (H : AH) : ASpec Try.prog 7 [] H fun r _ => r = .bool true :=
  (aspec_run (v := .bool true) 70 6 rfl rfl (fun ro => by kernel_rfl) H).mono fun _ _ h => h.1
end Go.Proofs.Ytmgfmhipkgbooaa
