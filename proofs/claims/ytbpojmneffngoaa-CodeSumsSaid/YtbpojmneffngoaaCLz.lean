import Derived.Test.YtbpojmneffngoaaTz
import Derived.Test.YtbpojmneffngoaaZ3
namespace Go.Proofs.Ytbpojmneffngoaa
open Go Go.Abs Go.Abs.GF
set_option linter.unusedVariables false
set_option linter.unusedSimpArgs false
set_option maxHeartbeats 4000000
attribute [local irreducible] ASpec AWp WP AOps DOps
theorem clone_spec (H : AH) (v : AV) (xs : List UInt8) (h : IsBytes H v xs) (hl : xs.length ≤ 140737488351232) :
    ASpec Try.prog 42 [v] H fun r H' => Acc 1 H H' r xs.length (xs.map bv) := by
  have nil : xs = [] → ASpec Try.prog 42 [.nilslice] H fun r H' => Acc 1 H H' r xs.length (xs.map bv) := fun e => by
    refine aspec_fn (rs := [.tmp 2]) (n := 8) Try.func42 rfl rfl rfl rfl (by kernel_rfl) (Nat.le_of_ble_eq_true rfl) ?_
    (try simp (maxSteps := 4000000) (disch := first | omega | (simp only [push_n, set_n, clr_n, also_n, List.length_replicate, List.length_set, List.length_map, List.length_append, List.length_take, List.length_drop, List.length_cons, List.length_nil]; first | done | omega) | (with_reducible decide)) only [go_sem, Int.reduceEq, Int.reduceNe, Int.reduceLT, Int.reduceLE, Nat.reduceEqDiff, Int.reduceToNat, Nat.reduceSub, Nat.reduceAdd, Nat.reduceMul, Nat.reduceLT, Nat.reduceLeDiff, Int.reduceNeg, Int.reduceAdd, Int.reduceSub, Int.reduceMul, UInt8.reduceToNat]; repeat first | ((first | with_reducible refine split2_pk (by omega) ?_ | with_reducible refine split2_nk (by omega) ?_); intro hsq; try simp (maxSteps := 4000000) (disch := first | omega | (simp only [push_n, set_n, clr_n, also_n, List.length_replicate, List.length_set, List.length_map, List.length_append, List.length_take, List.length_drop, List.length_cons, List.length_nil]; first | done | omega) | (with_reducible decide)) only [go_sem, Int.reduceEq, Int.reduceNe, Int.reduceLT, Int.reduceLE, Nat.reduceEqDiff, Int.reduceToNat, Nat.reduceSub, Nat.reduceAdd, Nat.reduceMul, Nat.reduceLT, Nat.reduceLeDiff, Int.reduceNeg, Int.reduceAdd, Int.reduceSub, Int.reduceMul, UInt8.reduceToNat, hsq]))
    rw [e]
    exact Acc.nil (Grew.refl _)
  have sure : ∀ a n c, IsBytes H (.slice a n c) xs → sureSlice n c = true → ASpec Try.prog 42 [.slice a n c] H fun r H' => Acc 1 H H' r xs.length (xs.map bv) := fun a n c h hs => by
    have hn := (h.grew (Grew.push H (some (.cells [])))).news
    refine aspec_fn (rs := [.tmp 2]) (n := 8) Try.func42 rfl rfl rfl rfl (by kernel_rfl) (Nat.le_of_ble_eq_true rfl) ?_
    (try simp (maxSteps := 4000000) (disch := first | omega | (simp only [push_n, set_n, clr_n, also_n, List.length_replicate, List.length_set, List.length_map, List.length_append, List.length_take, List.length_drop, List.length_cons, List.length_nil]; first | done | omega) | (with_reducible decide)) only [go_sem, Int.reduceEq, Int.reduceNe, Int.reduceLT, Int.reduceLE, Nat.reduceEqDiff, Int.reduceToNat, Nat.reduceSub, Nat.reduceAdd, Nat.reduceMul, Nat.reduceLT, Nat.reduceLeDiff, Int.reduceNeg, Int.reduceAdd, Int.reduceSub, Int.reduceMul, UInt8.reduceToNat, hs, hn, all_one_bv]; repeat first | ((first | with_reducible refine split2_pk (by omega) ?_ | with_reducible refine split2_nk (by omega) ?_); intro hsq; try simp (maxSteps := 4000000) (disch := first | omega | (simp only [push_n, set_n, clr_n, also_n, List.length_replicate, List.length_set, List.length_map, List.length_append, List.length_take, List.length_drop, List.length_cons, List.length_nil]; first | done | omega) | (with_reducible decide)) only [go_sem, Int.reduceEq, Int.reduceNe, Int.reduceLT, Int.reduceLE, Nat.reduceEqDiff, Int.reduceToNat, Nat.reduceSub, Nat.reduceAdd, Nat.reduceMul, Nat.reduceLT, Nat.reduceLeDiff, Int.reduceNeg, Int.reduceAdd, Int.reduceSub, Int.reduceMul, UInt8.reduceToNat, hs, hn, all_one_bv, hsq]))
    refine ⟨(Grew.push _ _).trans (Grew.push _ _), by simp, .inr ⟨_, rfl, by omega, ?_⟩⟩
    rw [push_cells_at (push_n _ _).symm]
  by_cases h0 : xs.length = 0
  · have e : xs = [] := List.eq_nil_of_length_eq_zero h0
    subst e
    exact aspec_nil (pre := []) (post := []) h.toRow (nil rfl) fun a c hr => sure a 0 (.known c) hr.toBytes rfl
  · cases v with
    | nilslice => have := h.len; simp [slen] at this; omega
    | slice a n c =>
      refine sure a n c h ?_
      have := h.len'
      cases c with
      | known c => rfl
      | grow g => simp [sureSlice]; omega
    | _ => have := h.sl; simp [isSl] at this
end Go.Proofs.Ytbpojmneffngoaa
