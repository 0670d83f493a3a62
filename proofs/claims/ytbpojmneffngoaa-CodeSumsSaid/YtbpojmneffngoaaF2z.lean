import Derived.Test.YtbpojmneffngoaaF1z
namespace Go.Proofs.Ytbpojmneffngoaa
open Go Go.Abs Go.Abs.GF
set_option linter.unusedVariables false
set_option linter.unusedSimpArgs false
set_option maxHeartbeats 4000000
attribute [local irreducible] ASpec AWp WP AOps DOps
def expL : List AV := powT.map bv
def logL : List AV := logT.map fun n => .int .i64 (n : Nat)
def logN : Nat → List Nat
  | 0 => List.replicate 256 0
  | n + 1 => (logN n).set (powT.getD n 0).toNat n
def logAt (n : Nat) : List AV := (logN n).map fun n => .int .i64 (n : Nat)
def expAt (n : Nat) : List AV := expL.take n ++ List.replicate (255 - n) (bv 0)
theorem bv_0 : bv 0 = .int .u8 0 := rfl
theorem expAt_zero : expAt 0 = List.replicate 255 (.int .u8 0) := by unfold expAt; rw [List.take_zero, List.nil_append, Nat.sub_zero, bv_0]
theorem logAt_zero : logAt 0 = List.replicate 256 (.int .i64 0) := (List.map_replicate ..).trans (congrArg (List.replicate 256) (show AV.int .i64 ((0 : Nat) : Int) = .int .i64 0 from rfl))
theorem gpow_zero {a : UInt8} : gpow a 0 = 1 := rfl
theorem powT_len : powT.length = 255 := by decide +kernel
theorem powT_getD {n : Nat} (h : n < 255) : powT.getD n 0 = gpow 2 n := by simp only [List.getD, powT_get h, Option.getD_some]
theorem logAt_len (n : Nat) : (logAt n).length = 256 := by
  have : (logN n).length = 256 := by
    induction n with
    | zero => exact List.length_replicate ..
    | succ n ih => simp only [logN, List.length_set, ih]
  simp only [logAt, List.length_map, this]
theorem logAt_set {n : Nat} (h : n < 255) : (logAt n).set (gpow 2 n).toNat (.int .i64 (n : Nat)) = logAt (n + 1) := by
  simp only [logAt, logN, powT_getD h, List.map_set]
theorem logN_end : logN 255 = logT := by decide +kernel
theorem logAt_end : logAt 255 = logL := by simp only [logAt, logL, logN_end]
theorem expL_len : expL.length = 255 := by simp only [expL, List.length_map, powT_len]
theorem expL_get {n : Nat} (h : n < 255) : expL[n]? = some (bv (gpow 2 n)) := by simp only [expL, List.getElem?_map, powT_get h, Option.map_some]
theorem expAt_len {n : Nat} (h : n ≤ 255) : (expAt n).length = 255 := by simp only [expAt, List.length_append, List.length_take, expL_len, List.length_replicate]; omega
theorem expAt_set {n : Nat} (h : n < 255) : (expAt n).set n (bv (gpow 2 n)) = expAt (n + 1) := fill_set h (expL_get h)
theorem expAt_end : expAt 255 = expL := by
  simp only [expAt, Nat.sub_self, List.replicate_zero, List.append_nil]
  exact List.take_of_length_le (Nat.le_of_eq expL_len)
theorem logL_len : logL.length = 256 := by rw [← logAt_end, logAt_len]
theorem log_at {a : UInt8} : logL[a.toNat]? = some (.int .i64 (glog a : Nat)) := by
  have h : (logT[a.toNat]?) = some (glog a) := by
    have h1 : logT.length = 256 := by decide +kernel
    have h2 : a.toNat < logT.length := by rw [h1]; exact a.toNat_lt
    rw [List.getElem?_eq_getElem h2]
    simp [glog, List.getD, h2]
  simp only [logL, List.getElem?_map, h, Option.map_some]
theorem expL_one : expL.all oneA = true := by decide +kernel
theorem logL_one : logL.all oneA = true := by decide +kernel
theorem expL_plain : plainL expL = true := by decide +kernel
theorem logL_plain : plainL logL = true := by decide +kernel
theorem tables_walk (H : AH) : ASpec Try.prog 52 [] H fun r _ => r = .tup [.agg expL, .agg logL] := by
  refine aspec_fn (rs := [.cell 0 87, .cell 1 88]) (n := 18) Try.func52 rfl rfl rfl rfl (by kernel_rfl) (Nat.le_of_ble_eq_true rfl) ?_
  (try simp (maxSteps := 4000000) (disch := first | omega | (simp only [push_n, set_n, clr_n, also_n, List.length_replicate, List.length_set, List.length_map, List.length_append, List.length_take, List.length_drop, List.length_cons, List.length_nil]; first | done | omega) | (with_reducible decide)) only [go_sem, Int.reduceEq, Int.reduceNe, Int.reduceLT, Int.reduceLE, Nat.reduceEqDiff, Int.reduceToNat, Nat.reduceSub, Nat.reduceAdd, Nat.reduceMul, Nat.reduceLT, Nat.reduceLeDiff, Int.reduceNeg, Int.reduceAdd, Int.reduceSub, Int.reduceMul, UInt8.reduceToNat]; repeat first | ((first | with_reducible refine split2_pk (by omega) ?_ | with_reducible refine split2_nk (by omega) ?_); intro hsq; try simp (maxSteps := 4000000) (disch := first | omega | (simp only [push_n, set_n, clr_n, also_n, List.length_replicate, List.length_set, List.length_map, List.length_append, List.length_take, List.length_drop, List.length_cons, List.length_nil]; first | done | omega) | (with_reducible decide)) only [go_sem, Int.reduceEq, Int.reduceNe, Int.reduceLT, Int.reduceLE, Nat.reduceEqDiff, Int.reduceToNat, Nat.reduceSub, Nat.reduceAdd, Nat.reduceMul, Nat.reduceLT, Nat.reduceLeDiff, Int.reduceNeg, Int.reduceAdd, Int.reduceSub, Int.reduceMul, UInt8.reduceToNat, hsq]))
  refine wp_loopS (σ := Nat) (by kernel_rfl) (fun n => [(0, .ptr ⟨false, H.n, 0⟩), (1, .ptr ⟨false, H.n + 1, 0⟩), (2, bv (gpow 2 n)), (4, .int .i64 (n : Nat))]) (fun n H' => n ≤ 255 ∧ H' = (H.push (some (.cells (expAt n)))).push (some (.cells (logAt n)))) (fun n => 255 - n) (0) (by simp (maxSteps := 4000000) (disch := first | omega | (simp only [push_n, set_n, clr_n, also_n, List.length_replicate, List.length_set, List.length_map, List.length_append, List.length_take, List.length_drop, List.length_cons, List.length_nil]; first | done | omega) | (with_reducible decide)) only [go_sem, Int.reduceEq, Int.reduceNe, Int.reduceLT, Int.reduceLE, Nat.reduceEqDiff, Int.reduceToNat, Nat.reduceSub, Nat.reduceAdd, Nat.reduceMul, Nat.reduceLT, Nat.reduceLeDiff, Int.reduceNeg, Int.reduceAdd, Int.reduceSub, Int.reduceMul, UInt8.reduceToNat, gpow_zero]) ?_ ?_
  · exact ⟨by omega, by rw [expAt_zero, logAt_zero]⟩
  · rintro n H' ⟨hn, rfl⟩
    (try simp (maxSteps := 4000000) (disch := first | omega | (simp only [push_n, set_n, clr_n, also_n, List.length_replicate, List.length_set, List.length_map, List.length_append, List.length_take, List.length_drop, List.length_cons, List.length_nil]; first | done | omega) | (with_reducible decide)) only [go_sem, Int.reduceEq, Int.reduceNe, Int.reduceLT, Int.reduceLE, Nat.reduceEqDiff, Int.reduceToNat, Nat.reduceSub, Nat.reduceAdd, Nat.reduceMul, Nat.reduceLT, Nat.reduceLeDiff, Int.reduceNeg, Int.reduceAdd, Int.reduceSub, Int.reduceMul, UInt8.reduceToNat]; repeat first | ((first | with_reducible refine split2_pk (by omega) ?_ | with_reducible refine split2_nk (by omega) ?_); intro hsq; try simp (maxSteps := 4000000) (disch := first | omega | (simp only [push_n, set_n, clr_n, also_n, List.length_replicate, List.length_set, List.length_map, List.length_append, List.length_take, List.length_drop, List.length_cons, List.length_nil]; first | done | omega) | (with_reducible decide)) only [go_sem, Int.reduceEq, Int.reduceNe, Int.reduceLT, Int.reduceLE, Nat.reduceEqDiff, Int.reduceToNat, Nat.reduceSub, Nat.reduceAdd, Nat.reduceMul, Nat.reduceLT, Nat.reduceLeDiff, Int.reduceNeg, Int.reduceAdd, Int.reduceSub, Int.reduceMul, UInt8.reduceToNat, hsq]))
    refine split2_i (fun h => ?_) (fun h => ?_)
    · have h : n < 255 := by omega
      have hb := (gpow 2 n).toNat_lt
      (try simp (maxSteps := 4000000) (disch := first | omega | (simp only [push_n, set_n, clr_n, also_n, List.length_replicate, List.length_set, List.length_map, List.length_append, List.length_take, List.length_drop, List.length_cons, List.length_nil]; first | done | omega) | (with_reducible decide)) only [go_sem, Int.reduceEq, Int.reduceNe, Int.reduceLT, Int.reduceLE, Nat.reduceEqDiff, Int.reduceToNat, Nat.reduceSub, Nat.reduceAdd, Nat.reduceMul, Nat.reduceLT, Nat.reduceLeDiff, Int.reduceNeg, Int.reduceAdd, Int.reduceSub, Int.reduceMul, UInt8.reduceToNat, expAt_len hn, logAt_len n, expAt_set h, logAt_set h]; repeat first | ((first | refine ASpec.eq (twice_spec _ _) ?_); try simp (maxSteps := 4000000) (disch := first | omega | (simp only [push_n, set_n, clr_n, also_n, List.length_replicate, List.length_set, List.length_map, List.length_append, List.length_take, List.length_drop, List.length_cons, List.length_nil]; first | done | omega) | (with_reducible decide)) only [go_sem, Int.reduceEq, Int.reduceNe, Int.reduceLT, Int.reduceLE, Nat.reduceEqDiff, Int.reduceToNat, Nat.reduceSub, Nat.reduceAdd, Nat.reduceMul, Nat.reduceLT, Nat.reduceLeDiff, Int.reduceNeg, Int.reduceAdd, Int.reduceSub, Int.reduceMul, UInt8.reduceToNat, expAt_len hn, logAt_len n, expAt_set h, logAt_set h]) | ((first | with_reducible refine split2_pk (by omega) ?_ | with_reducible refine split2_nk (by omega) ?_); intro hsq; try simp (maxSteps := 4000000) (disch := first | omega | (simp only [push_n, set_n, clr_n, also_n, List.length_replicate, List.length_set, List.length_map, List.length_append, List.length_take, List.length_drop, List.length_cons, List.length_nil]; first | done | omega) | (with_reducible decide)) only [go_sem, Int.reduceEq, Int.reduceNe, Int.reduceLT, Int.reduceLE, Nat.reduceEqDiff, Int.reduceToNat, Nat.reduceSub, Nat.reduceAdd, Nat.reduceMul, Nat.reduceLT, Nat.reduceLeDiff, Int.reduceNeg, Int.reduceAdd, Int.reduceSub, Int.reduceMul, UInt8.reduceToNat, expAt_len hn, logAt_len n, expAt_set h, logAt_set h, hsq]))
      refine ⟨n + 1, ⟨?_, rfl⟩, by omega, by omega, rfl⟩
      rw [twice_eq]; rfl
    · obtain rfl : n = 255 := by omega
      (try simp (maxSteps := 4000000) (disch := first | omega | (simp only [push_n, set_n, clr_n, also_n, List.length_replicate, List.length_set, List.length_map, List.length_append, List.length_take, List.length_drop, List.length_cons, List.length_nil]; first | done | omega) | (with_reducible decide)) only [go_sem, Int.reduceEq, Int.reduceNe, Int.reduceLT, Int.reduceLE, Nat.reduceEqDiff, Int.reduceToNat, Nat.reduceSub, Nat.reduceAdd, Nat.reduceMul, Nat.reduceLT, Nat.reduceLeDiff, Int.reduceNeg, Int.reduceAdd, Int.reduceSub, Int.reduceMul, UInt8.reduceToNat]; repeat first | ((first | with_reducible refine split2_pk (by omega) ?_ | with_reducible refine split2_nk (by omega) ?_); intro hsq; try simp (maxSteps := 4000000) (disch := first | omega | (simp only [push_n, set_n, clr_n, also_n, List.length_replicate, List.length_set, List.length_map, List.length_append, List.length_take, List.length_drop, List.length_cons, List.length_nil]; first | done | omega) | (with_reducible decide)) only [go_sem, Int.reduceEq, Int.reduceNe, Int.reduceLT, Int.reduceLE, Nat.reduceEqDiff, Int.reduceToNat, Nat.reduceSub, Nat.reduceAdd, Nat.reduceMul, Nat.reduceLT, Nat.reduceLeDiff, Int.reduceNeg, Int.reduceAdd, Int.reduceSub, Int.reduceMul, UInt8.reduceToNat, hsq]))
      (refine awp_draw (fun H' => H' = (H.push (some (.cells (expAt 255)))).push (some (.cells (logAt 255)))) [(0, true), (1, true), (2, false), (3, false)] (by kernel_rfl) (by rfl) (by decide +kernel) ?_ ?_; rotate_left; (conv => arg 5; simp only [List.map_cons, List.map_nil, List.getElem?_toArray, List.getElem?_cons_zero, List.getElem?_cons_succ]); rotate_left)
      · rfl
      have e1 : (expAt 255).length = 255 := expAt_len (by omega)
      have e2 := logAt_len 255
      have p1 : plainL (expAt 255) = true := by rw [expAt_end]; exact expL_plain
      have p2 : plainL (logAt 255) = true := by rw [logAt_end]; exact logL_plain
      have q1 : (expAt 255).all oneA = true := by rw [expAt_end]; exact expL_one
      have q2 : (logAt 255).all oneA = true := by rw [logAt_end]; exact logL_one
      (try simp (maxSteps := 4000000) (disch := first | omega | (simp only [push_n, set_n, clr_n, also_n, List.length_replicate, List.length_set, List.length_map, List.length_append, List.length_take, List.length_drop, List.length_cons, List.length_nil]; first | done | omega) | (with_reducible decide)) only [go_sem, Int.reduceEq, Int.reduceNe, Int.reduceLT, Int.reduceLE, Nat.reduceEqDiff, Int.reduceToNat, Nat.reduceSub, Nat.reduceAdd, Nat.reduceMul, Nat.reduceLT, Nat.reduceLeDiff, Int.reduceNeg, Int.reduceAdd, Int.reduceSub, Int.reduceMul, UInt8.reduceToNat, p1, p2, q1, q2, e1, e2]; repeat first | ((first | with_reducible refine split2_pk (by omega) ?_ | with_reducible refine split2_nk (by omega) ?_); intro hsq; try simp (maxSteps := 4000000) (disch := first | omega | (simp only [push_n, set_n, clr_n, also_n, List.length_replicate, List.length_set, List.length_map, List.length_append, List.length_take, List.length_drop, List.length_cons, List.length_nil]; first | done | omega) | (with_reducible decide)) only [go_sem, Int.reduceEq, Int.reduceNe, Int.reduceLT, Int.reduceLE, Nat.reduceEqDiff, Int.reduceToNat, Nat.reduceSub, Nat.reduceAdd, Nat.reduceMul, Nat.reduceLT, Nat.reduceLeDiff, Int.reduceNeg, Int.reduceAdd, Int.reduceSub, Int.reduceMul, UInt8.reduceToNat, p1, p2, q1, q2, e1, e2, hsq]))
      rw [expAt_end, logAt_end]
theorem tables_spec (H : AH) : ASpec Try.prog 52 [] H fun r H' => r = .tup [.agg expL, .agg logL] ∧ H' = H :=
  aspec_flat rfl (by simp only [plainA, plainL, expL_plain, logL_plain]; rfl) tables_walk H
end Go.Proofs.Ytbpojmneffngoaa
