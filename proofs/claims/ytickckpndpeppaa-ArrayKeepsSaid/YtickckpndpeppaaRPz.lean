/- The library's Repeat of one byte. -/
import Derived.Test.YtickckpndpeppaaTz
import Derived.Test.YtickckpndpeppaaZ3
import Derived.Test.YtickckpndpeppaaNZz
namespace Go.Proofs.Ytickckpndpeppaa
open Go Go.Abs Go.Abs.GF
set_option linter.unusedVariables false
set_option linter.unusedSimpArgs false
set_option maxHeartbeats 4000000
attribute [local irreducible] ASpec AWp WP AOps DOps

theorem mul_run (n : Nat) (h : n = 64 ∨ n = 448) (H : AH) : ASpec Try.prog 53 [.int .u64 1, .int .u64 (n : Int)] H fun r H' => r = .tup [.int .u64 0, .int .u64 (n : Int)] ∧ H' = H := by
  rcases h with rfl | rfl
  · exact aspec_runQ mnzBase_ok 100 6 (v := .tup [.int .u64 0, .int .u64 64]) (by decide) (by decide) (fun ro => by kernel_rfl) H
  · exact aspec_runQ mnzBase_ok 100 6 (v := .tup [.int .u64 0, .int .u64 448]) (by decide) (by decide) (fun ro => by kernel_rfl) H
def mixU (x : UInt8) (n k : Nat) : List AV := List.replicate k (bv x) ++ List.replicate (n - k) .unk
theorem mixU_len {x : UInt8} {n k : Nat} (h : k ≤ n) : (mixU x n k).length = n := by simp [mixU]; omega
theorem mixU_put {x : UInt8} {n k j : Nat} (h : k + j ≤ n) : putL (mixU x n k) k (List.replicate j (bv x)) = mixU x n (k + j) := by
  rw [putL, mixU, List.take_left' (by simp), List.drop_append, List.drop_of_length_le (by simp), List.nil_append, List.length_replicate, List.length_replicate, List.drop_replicate, mixU, ← List.append_assoc, List.replicate_append_replicate]
  congr 2; omega
theorem mixU_take {x : UInt8} {n k j : Nat} (h : j ≤ k) : (mixU x n k).take j = List.replicate j (bv x) := by
  rw [mixU, List.take_append, List.take_replicate, List.length_replicate, show j - k = 0 by omega, List.take_zero, List.append_nil]
  congr 1; omega
set_option maxRecDepth 100000 in
theorem repeat_spec (H : AH) {v : AV} {x : UInt8} (hv : IsBytes H v [x]) (n : Nat) (hn : n = 64 ∨ n = 448) : ASpec Try.prog 39 [v, .int .i64 (n : Int)] H fun r H' => ∃ B, r = .slice ⟨false, B, 0⟩ n (.known n) ∧ H.n ≤ B ∧ Grew H H' ∧ H'.cells? B = some (List.replicate n (bv x)) := by
  have lv := hv.length (P := Try.prog) Try.underlying27
  have hnews := fun {X : Option ABlk} => (hv.grew (Grew.push H X)).news
  have hn0 : 0 < n ∧ n ≤ 8192 := by omega
  have e0 : ¬ ((n : Int) = 0) := by omega
  have e1 : ¬ ((n : Int) < 0) := by omega
  have e2 : ¬ ((n : Int) > 9223372036854775807) := by omega
  have e3 : ¬ ((n : Int) > 8192) := by omega
  refine aspec_fn (rs := [.tmp 4]) (n := 77) Try.func39 rfl rfl rfl rfl (by kernel_rfl) (Nat.le_of_ble_eq_true rfl) ?_
  have hs3 : sliceOpA Try.prog 27 (.slice ⟨false, H.n, 0⟩ n (.grow 1)) none (some (.int .i64 (n : Int))) (some (.int .i64 (n : Int))) = some (.slice ⟨false, H.n, 0⟩ n (.known n)) := by
    simp [sliceOpA, Try.underlying27, sz5, optB, boundA, cutA, hn0.1]
  have hp1 := mixU_put (x := x) (n := n) (k := 0) (j := 1) (by omega)
  have hm0 : mixU x n 0 = List.replicate n .unk := by simp [mixU]
  rw [hm0] at hp1
  have hb1 : List.replicate 1 (bv x) = [bv x] := rfl
  rw [hb1] at hp1
  have hst : storeCellsA (H.push (some (.cells (List.replicate n .unk)))) H.n 0 [bv x] = some (H.push (some (.cells (mixU x n 1)))) := by
    rw [store_cells _ _ _ (by simp), show [bv x].all oneA = true from rfl, gdb_true, push_cells, Option.bind_some, gd_pos (by simp; omega), hp1, push_set]
  (try simp (maxSteps := 4000000) (disch := first | omega | (simp only [push_n, set_n, clr_n, also_n, List.length_replicate, List.length_set, List.length_map, List.length_append, List.length_take, List.length_drop, List.length_cons, List.length_nil]; first | done | omega) | (with_reducible decide)) only [go_sem, Int.reduceEq, Int.reduceNe, Int.reduceLT, Int.reduceLE, Nat.reduceEqDiff, Int.reduceToNat, Nat.reduceSub, Nat.reduceAdd, Nat.reduceMul, Nat.reduceLT, Nat.reduceLeDiff, Int.reduceNeg, Int.reduceAdd, Int.reduceSub, Int.reduceMul, UInt8.reduceToNat, lv, e0, e1, e2, e3, hs3, hnews, hst]; repeat first | ((first | refine ASpec.eq (mul_run n hn _) ?_ | refine ASpec.eq (mnz_spec _ n (by omega)) ?_); try simp (maxSteps := 4000000) (disch := first | omega | (simp only [push_n, set_n, clr_n, also_n, List.length_replicate, List.length_set, List.length_map, List.length_append, List.length_take, List.length_drop, List.length_cons, List.length_nil]; first | done | omega) | (with_reducible decide)) only [go_sem, Int.reduceEq, Int.reduceNe, Int.reduceLT, Int.reduceLE, Nat.reduceEqDiff, Int.reduceToNat, Nat.reduceSub, Nat.reduceAdd, Nat.reduceMul, Nat.reduceLT, Nat.reduceLeDiff, Int.reduceNeg, Int.reduceAdd, Int.reduceSub, Int.reduceMul, UInt8.reduceToNat, lv, e0, e1, e2, e3, hs3, hnews, hst]) | ((first | with_reducible refine split2_pk (by omega) ?_ | with_reducible refine split2_nk (by omega) ?_); intro hsq; try simp (maxSteps := 4000000) (disch := first | omega | (simp only [push_n, set_n, clr_n, also_n, List.length_replicate, List.length_set, List.length_map, List.length_append, List.length_take, List.length_drop, List.length_cons, List.length_nil]; first | done | omega) | (with_reducible decide)) only [go_sem, Int.reduceEq, Int.reduceNe, Int.reduceLT, Int.reduceLE, Nat.reduceEqDiff, Int.reduceToNat, Nat.reduceSub, Nat.reduceAdd, Nat.reduceMul, Nat.reduceLT, Nat.reduceLeDiff, Int.reduceNeg, Int.reduceAdd, Int.reduceSub, Int.reduceMul, UInt8.reduceToNat, lv, e0, e1, e2, e3, hs3, hnews, hst, hsq]))
  refine wp_loopS (σ := Nat) (by kernel_rfl) (fun k => [(7, .int .i64 (n : Int)), (8, .int .i64 (n : Int)), (9, .slice ⟨false, H.n, 0⟩ n (.known n)), (10, .int .i64 (k : Nat))]) (fun k H' => 0 < k ∧ k ≤ n ∧ H' = H.push (some (.cells (mixU x n k)))) (fun k => n - k) (1) (by simp (maxSteps := 4000000) (disch := first | omega | (simp only [push_n, set_n, clr_n, also_n, List.length_replicate, List.length_set, List.length_map, List.length_append, List.length_take, List.length_drop, List.length_cons, List.length_nil]; first | done | omega) | (with_reducible decide)) only [go_sem, Int.reduceEq, Int.reduceNe, Int.reduceLT, Int.reduceLE, Nat.reduceEqDiff, Int.reduceToNat, Nat.reduceSub, Nat.reduceAdd, Nat.reduceMul, Nat.reduceLT, Nat.reduceLeDiff, Int.reduceNeg, Int.reduceAdd, Int.reduceSub, Int.reduceMul, UInt8.reduceToNat]) ?_ ?_
  · exact ⟨by omega, by omega, rfl⟩
  · rintro k H1 ⟨hk0, hk, rfl⟩
    by_cases hkn : k < n
    · have hmin : (if (n : Int) < (k : Int) then (n : Int) else (k : Int)) = (k : Int) := by rw [if_neg (by omega)]
      obtain ⟨j, hj⟩ : ∃ j, j = min k (n - k) := ⟨_, rfl⟩
      have hn1 : newsA (H.push (some (.cells (mixU x n k)))) 1 (.slice ⟨false, H.n, 0⟩ k (.known n)) = some (k, List.replicate k (bv x)) := by
        simp only [newsA, rowA, get_rw, push_cells, Option.bind_some, Nat.zero_add, Nat.mul_one, List.drop_zero]
        rw [if_pos (.inl (by rw [mixU_len hk]; exact hk)), Option.map_some, mixU_take (Nat.le_refl _)]
      have hst2 : storeCellsA (H.push (some (.cells (mixU x n k)))) H.n k (List.replicate j (bv x)) = some (H.push (some (.cells (mixU x n (k + j))))) := by
        rw [store_cells _ _ _ (by rw [List.length_replicate]; omega), all_rep rfl, gdb_true, push_cells, Option.bind_some, gd_pos (by rw [List.length_replicate, mixU_len hk]; omega), mixU_put (by omega), push_set]
      have htk : (List.replicate k (bv x)).take j = List.replicate j (bv x) := by rw [List.take_replicate]; congr 1; omega
      (try simp (maxSteps := 4000000) (disch := first | omega | (simp only [push_n, set_n, clr_n, also_n, List.length_replicate, List.length_set, List.length_map, List.length_append, List.length_take, List.length_drop, List.length_cons, List.length_nil]; first | done | omega) | (with_reducible decide)) only [go_sem, Int.reduceEq, Int.reduceNe, Int.reduceLT, Int.reduceLE, Nat.reduceEqDiff, Int.reduceToNat, Nat.reduceSub, Nat.reduceAdd, Nat.reduceMul, Nat.reduceLT, Nat.reduceLeDiff, Int.reduceNeg, Int.reduceAdd, Int.reduceSub, Int.reduceMul, UInt8.reduceToNat]; repeat first | ((first | with_reducible refine split2_pk (by omega) ?_ | with_reducible refine split2_nk (by omega) ?_); intro hsq; try simp (maxSteps := 4000000) (disch := first | omega | (simp only [push_n, set_n, clr_n, also_n, List.length_replicate, List.length_set, List.length_map, List.length_append, List.length_take, List.length_drop, List.length_cons, List.length_nil]; first | done | omega) | (with_reducible decide)) only [go_sem, Int.reduceEq, Int.reduceNe, Int.reduceLT, Int.reduceLE, Nat.reduceEqDiff, Int.reduceToNat, Nat.reduceSub, Nat.reduceAdd, Nat.reduceMul, Nat.reduceLT, Nat.reduceLeDiff, Int.reduceNeg, Int.reduceAdd, Int.reduceSub, Int.reduceMul, UInt8.reduceToNat, hsq]))
      (refine awp_drawP (hl := []) [eqM (H.push (some (.cells (mixU x n k)))),  fun _ => True] [(0, some 1), (1, some 0), (2, some 0), (3, some 0), (4, some 0), (5, some 0), (6, some 0), (7, none), (8, some 0), (9, some 0)] [7] (by kernel_rfl) (by rfl) (by decide +kernel) (rofP_0 ?_) ?_; rotate_left; (conv => arg 5; simp only [List.map_cons, List.map_nil, List.getElem?_toArray, List.getElem?_cons_zero, List.getElem?_cons_succ]); rotate_left)
      · rfl
      have n1 : ¬ n = k := by omega
      have n2 : ¬ n = 0 := by omega
      (try simp (maxSteps := 4000000) (disch := first | omega | (simp only [push_n, set_n, clr_n, also_n, List.length_replicate, List.length_set, List.length_map, List.length_append, List.length_take, List.length_drop, List.length_cons, List.length_nil]; first | done | omega) | (with_reducible decide)) only [go_sem, Int.reduceEq, Int.reduceNe, Int.reduceLT, Int.reduceLE, Nat.reduceEqDiff, Int.reduceToNat, Nat.reduceSub, Nat.reduceAdd, Nat.reduceMul, Nat.reduceLT, Nat.reduceLeDiff, Int.reduceNeg, Int.reduceAdd, Int.reduceSub, Int.reduceMul, UInt8.reduceToNat, hmin, hn1, hst2, htk, if_neg n1, if_neg n2, Nat.sub_zero, ← hj, Option.isSome_some]; repeat first | ((first | with_reducible refine split2_pk (by omega) ?_ | with_reducible refine split2_nk (by omega) ?_); intro hsq; try simp (maxSteps := 4000000) (disch := first | omega | (simp only [push_n, set_n, clr_n, also_n, List.length_replicate, List.length_set, List.length_map, List.length_append, List.length_take, List.length_drop, List.length_cons, List.length_nil]; first | done | omega) | (with_reducible decide)) only [go_sem, Int.reduceEq, Int.reduceNe, Int.reduceLT, Int.reduceLE, Nat.reduceEqDiff, Int.reduceToNat, Nat.reduceSub, Nat.reduceAdd, Nat.reduceMul, Nat.reduceLT, Nat.reduceLeDiff, Int.reduceNeg, Int.reduceAdd, Int.reduceSub, Int.reduceMul, UInt8.reduceToNat, hmin, hn1, hst2, htk, if_neg n1, if_neg n2, Nat.sub_zero, ← hj, Option.isSome_some, hsq]))
      (refine ⟨k + j, ?_⟩; and_intros; all_goals (try first | rfl | assumption | omega))
    · obtain rfl : k = n := by omega
      (try simp (maxSteps := 4000000) (disch := first | omega | (simp only [push_n, set_n, clr_n, also_n, List.length_replicate, List.length_set, List.length_map, List.length_append, List.length_take, List.length_drop, List.length_cons, List.length_nil]; first | done | omega) | (with_reducible decide)) only [go_sem, Int.reduceEq, Int.reduceNe, Int.reduceLT, Int.reduceLE, Nat.reduceEqDiff, Int.reduceToNat, Nat.reduceSub, Nat.reduceAdd, Nat.reduceMul, Nat.reduceLT, Nat.reduceLeDiff, Int.reduceNeg, Int.reduceAdd, Int.reduceSub, Int.reduceMul, UInt8.reduceToNat]; repeat first | ((first | with_reducible refine split2_pk (by omega) ?_ | with_reducible refine split2_nk (by omega) ?_); intro hsq; try simp (maxSteps := 4000000) (disch := first | omega | (simp only [push_n, set_n, clr_n, also_n, List.length_replicate, List.length_set, List.length_map, List.length_append, List.length_take, List.length_drop, List.length_cons, List.length_nil]; first | done | omega) | (with_reducible decide)) only [go_sem, Int.reduceEq, Int.reduceNe, Int.reduceLT, Int.reduceLE, Nat.reduceEqDiff, Int.reduceToNat, Nat.reduceSub, Nat.reduceAdd, Nat.reduceMul, Nat.reduceLT, Nat.reduceLeDiff, Int.reduceNeg, Int.reduceAdd, Int.reduceSub, Int.reduceMul, UInt8.reduceToNat, hsq]))
      refine ⟨H.n, rfl, Nat.le_refl _, Grew.push _ _, ?_⟩
      rw [push_cells, mixU]; simp
end Go.Proofs.Ytickckpndpeppaa
