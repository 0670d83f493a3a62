/- What the statements of chapter 6 lean on: whole sectors of one byte; the chapter's rows. -/
import Derived.Test.YtickckpndpeppaaRPz
import Derived.Test.YtickckpndpeppaaEQz
namespace Go.Proofs.Ytickckpndpeppaa
open Go Go.Abs Go.Abs.GF
set_option linter.unusedVariables false
set_option linter.unusedSimpArgs false
set_option maxHeartbeats 4000000
attribute [local irreducible] ASpec AWp WP AOps DOps

theorem full_specC (H : AH) (x : UInt8) : ASpec Try.prog 16 [bv x] H fun r H' => ∃ B, r = .slice ⟨false, B, 0⟩ 64 (.known 64) ∧ H.n ≤ B ∧ Grew H H' ∧ H'.cells? B = some ((List.replicate 64 x).map bv) := by
  have hb := bytes_whole (H := H.push (some (.cells [bv x]))) (xs := [x]) (push_cells H [bv x]) (c := .known 1) rfl
  refine aspec_fn (rs := [.tmp 2]) (n := 6) Try.func16 rfl rfl rfl rfl (by kernel_rfl) (Nat.le_of_ble_eq_true rfl) ?_
  (try simp (maxSteps := 4000000) (disch := first | omega | (simp only [push_n, set_n, clr_n, also_n, List.length_replicate, List.length_set, List.length_map, List.length_append, List.length_take, List.length_drop, List.length_cons, List.length_nil]; first | done | omega) | (with_reducible decide)) only [go_sem, Int.reduceEq, Int.reduceNe, Int.reduceLT, Int.reduceLE, Nat.reduceEqDiff, Int.reduceToNat, Nat.reduceSub, Nat.reduceAdd, Nat.reduceMul, Nat.reduceLT, Nat.reduceLeDiff, Int.reduceNeg, Int.reduceAdd, Int.reduceSub, Int.reduceMul, UInt8.reduceToNat]; repeat first | ((first | with_reducible refine split2_pk (by omega) ?_ | with_reducible refine split2_nk (by omega) ?_); intro hsq; try simp (maxSteps := 4000000) (disch := first | omega | (simp only [push_n, set_n, clr_n, also_n, List.length_replicate, List.length_set, List.length_map, List.length_append, List.length_take, List.length_drop, List.length_cons, List.length_nil]; first | done | omega) | (with_reducible decide)) only [go_sem, Int.reduceEq, Int.reduceNe, Int.reduceLT, Int.reduceLE, Nat.reduceEqDiff, Int.reduceToNat, Nat.reduceSub, Nat.reduceAdd, Nat.reduceMul, Nat.reduceLT, Nat.reduceLeDiff, Int.reduceNeg, Int.reduceAdd, Int.reduceSub, Int.reduceMul, UInt8.reduceToNat, hsq]))
  refine (repeat_spec _ hb 64 (.inl rfl)).mono ?_
  rintro r H' ⟨B, rfl, h1, h2, h3⟩
  (try simp (maxSteps := 4000000) (disch := first | omega | (simp only [push_n, set_n, clr_n, also_n, List.length_replicate, List.length_set, List.length_map, List.length_append, List.length_take, List.length_drop, List.length_cons, List.length_nil]; first | done | omega) | (with_reducible decide)) only [go_sem, Int.reduceEq, Int.reduceNe, Int.reduceLT, Int.reduceLE, Nat.reduceEqDiff, Int.reduceToNat, Nat.reduceSub, Nat.reduceAdd, Nat.reduceMul, Nat.reduceLT, Nat.reduceLeDiff, Int.reduceNeg, Int.reduceAdd, Int.reduceSub, Int.reduceMul, UInt8.reduceToNat]; repeat first | ((first | with_reducible refine split2_pk (by omega) ?_ | with_reducible refine split2_nk (by omega) ?_); intro hsq; try simp (maxSteps := 4000000) (disch := first | omega | (simp only [push_n, set_n, clr_n, also_n, List.length_replicate, List.length_set, List.length_map, List.length_append, List.length_take, List.length_drop, List.length_cons, List.length_nil]; first | done | omega) | (with_reducible decide)) only [go_sem, Int.reduceEq, Int.reduceNe, Int.reduceLT, Int.reduceLE, Nat.reduceEqDiff, Int.reduceToNat, Nat.reduceSub, Nat.reduceAdd, Nat.reduceMul, Nat.reduceLT, Nat.reduceLeDiff, Int.reduceNeg, Int.reduceAdd, Int.reduceSub, Int.reduceMul, UInt8.reduceToNat, hsq]))
  rw [push_n] at h1
  exact ⟨B, rfl, by omega, (Grew.push H (some (.cells [bv x]))).trans h2, by rw [h3, List.map_replicate]⟩
theorem full_spec (H : AH) (x : UInt8) : ASpec Try.prog 16 [bv x] H fun r H' => ∃ B, r = .slice ⟨false, B, 0⟩ 64 (.known 64) ∧ H.n ≤ B ∧ Grew H H' ∧ IsBytes H' (.slice ⟨false, B, 0⟩ 64 (.known 64)) (List.replicate 64 x) := by
  refine (full_specC H x).mono ?_
  rintro r H' ⟨B, rfl, h1, h2, h3⟩
  refine ⟨B, rfl, h1, h2, ?_⟩
  have := bytes_whole (H := H') (i := B) (xs := List.replicate 64 x) h3 (c := .known 64) (by rw [List.length_replicate]; rfl)
  rwa [List.length_replicate] at this
theorem awake6 (H : AH) : ASpec Try.prog 9 [] H fun r H' => r = .bool true ∧ H' = H :=
  aspec_runQ mnzBase_ok 5000 12 (v := .bool true) (by decide) (by decide) (fun ro => by kernel_rfl) H
end Go.Proofs.Ytickckpndpeppaa
