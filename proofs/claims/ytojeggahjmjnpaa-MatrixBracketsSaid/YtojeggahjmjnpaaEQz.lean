/- The library's Equal of bytes. -/
import Derived.Test.YtojeggahjmjnpaaTz
import Derived.Test.YtojeggahjmjnpaaZ3
namespace Go.Proofs.Ytojeggahjmjnpaa
open Go Go.Abs Go.Abs.GF
set_option linter.unusedVariables false
set_option linter.unusedSimpArgs false
set_option maxHeartbeats 4000000
attribute [local irreducible] ASpec AWp WP AOps DOps

theorem str_list (xs : List UInt8) : (⟨xs.toArray⟩ : ByteArray).toList = xs := by rw [ByteArray.toList_eq]
theorem equal_spec (H : AH) {v w : AV} {xs ys : List UInt8} (hv : IsBytes H v xs) (hw : IsBytes H w ys) : ASpec Try.prog 30 [v, w] H fun r H' => r = .bool (decide (xs = ys)) ∧ H' = H := by
  have t1 := hv.text (P := Try.prog) Try.underlying35 Try.underlying9 Try.underlying5
  have t2 := hw.text (P := Try.prog) Try.underlying35 Try.underlying9 Try.underlying5
  refine aspec_fn (rs := [.tmp 4]) (n := 10) Try.func30 rfl rfl rfl rfl (by kernel_rfl) (Nat.le_of_ble_eq_true rfl) ?_
  (try simp (maxSteps := 4000000) (disch := first | omega | (simp only [push_n, set_n, clr_n, also_n, List.length_replicate, List.length_set, List.length_map, List.length_append, List.length_take, List.length_drop, List.length_cons, List.length_nil]; first | done | omega) | (with_reducible decide)) only [go_sem, Int.reduceEq, Int.reduceNe, Int.reduceLT, Int.reduceLE, Nat.reduceEqDiff, Int.reduceToNat, Nat.reduceSub, Nat.reduceAdd, Nat.reduceMul, Nat.reduceLT, Nat.reduceLeDiff, Int.reduceNeg, Int.reduceAdd, Int.reduceSub, Int.reduceMul, UInt8.reduceToNat, t1, t2]; repeat' first | ((first | with_reducible refine split2_pk (by omega) ?_ | with_reducible refine split2_nk (by omega) ?_); intro hsq; try simp (maxSteps := 4000000) (disch := first | omega | (simp only [push_n, set_n, clr_n, also_n, List.length_replicate, List.length_set, List.length_map, List.length_append, List.length_take, List.length_drop, List.length_cons, List.length_nil]; first | done | omega) | (with_reducible decide)) only [go_sem, Int.reduceEq, Int.reduceNe, Int.reduceLT, Int.reduceLE, Nat.reduceEqDiff, Int.reduceToNat, Nat.reduceSub, Nat.reduceAdd, Nat.reduceMul, Nat.reduceLT, Nat.reduceLeDiff, Int.reduceNeg, Int.reduceAdd, Int.reduceSub, Int.reduceMul, UInt8.reduceToNat, t1, t2, hsq]) | (with_reducible refine split2_ik ?_ ?_ <;> intro hsp hsq <;> try simp (maxSteps := 4000000) (disch := first | omega | (simp only [push_n, set_n, clr_n, also_n, List.length_replicate, List.length_set, List.length_map, List.length_append, List.length_take, List.length_drop, List.length_cons, List.length_nil]; first | done | omega) | (with_reducible decide)) only [go_sem, Int.reduceEq, Int.reduceNe, Int.reduceLT, Int.reduceLE, Nat.reduceEqDiff, Int.reduceToNat, Nat.reduceSub, Nat.reduceAdd, Nat.reduceMul, Nat.reduceLT, Nat.reduceLeDiff, Int.reduceNeg, Int.reduceAdd, Int.reduceSub, Int.reduceMul, UInt8.reduceToNat, t1, t2, hsq]))
  congr 1
  simp only [str_list]
  rw [Bool.eq_iff_iff]; simp
end Go.Proofs.Ytojeggahjmjnpaa
