/- New bytes of whatever values; running by computing with it. -/
import Derived.Test.YtickckpndpeppaaTz
import Derived.Test.YtickckpndpeppaaZ3
namespace Go.Proofs.Ytickckpndpeppaa
open Go Go.Abs Go.Abs.GF
set_option linter.unusedVariables false
set_option linter.unusedSimpArgs false
set_option maxHeartbeats 4000000
attribute [local irreducible] ASpec AWp WP AOps DOps

theorem mnz_spec (H : AH) (n : Nat) (hn : n ≤ 281474976710656) : ASpec Try.prog 54 [.int .i64 n] H fun r H' => r = .slice ⟨false, H.n, 0⟩ n (.grow 1) ∧ H' = H.push (some (.cells (List.replicate n .unk))) :=
  noZero_spec (ps := Try.f54.params) Try.func54 rfl rfl (by kernel_rfl) (by kernel_rfl) Try.underlying27 n hn H

def mnzBase : Caller := fun f args H => if f = 54 then (match args with
  | [.int .i64 n] => if 0 ≤ n ∧ n ≤ 281474976710656 then some (.slice ⟨false, H.n, 0⟩ n.toNat (.grow 1), H.push (some (.cells (List.replicate n.toNat .unk)))) else none
  | _ => none) else none
theorem mnzBase_ok : CallerOk Try.prog mnzBase := fun f args H r H' h => by
  unfold mnzBase at h
  split at h
  · rename_i hf
    subst hf
    split at h
    · rename_i n
      split at h
      · rename_i hn
        injection h with h
        injection h with h1 h2
        subst h1 h2
        have := mnz_spec H n.toNat (by omega)
        rwa [show ((n.toNat : Nat) : Int) = n by omega] at this
      · cases h
    · cases h
  · cases h
end Go.Proofs.Ytickckpndpeppaa
