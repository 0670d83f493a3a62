import Derived.Test.YtbpojmneffngoaaMSz
namespace Go.Proofs.Ytbpojmneffngoaa
open Go Go.Abs Go.Abs.GF
set_option linter.unusedVariables false
set_option linter.unusedSimpArgs false
set_option maxHeartbeats 4000000
attribute [local irreducible] ASpec AWp WP AOps DOps
def sq (M : Rows8) : Prop := mayM M ∧ M.length = (M.getD 0 []).length
instance (M : Rows8) : Decidable (sq M) := by unfold sq; infer_instance
theorem sq_shape {M : Rows8} (h : sq M) : Shape M.length M.length M := ⟨rfl, fun i hi => by rw [h.1.2.2.2.2 i hi]; exact h.2.symm⟩
def invRes' (H : AH) (M : Rows8) (known : Bool) (r : AV) (H' : AH) : Prop :=
  if sq M then (∃ B ws X, r = .tup [.slice ⟨false, B, 0⟩ M.length (if known then .known M.length else .grow 1), .int .i64 0] ∧ NewRows H H' B ws X ∧ IsInv M.length M X) ∨ (r = .tup [.nilslice, .int .i64 22] ∧ Singular M.length M ∧ Grew H H')
  else r = .tup [.nilslice, .int .i64 1] ∧ Grew H H'
theorem inv1_ret (H : AH) (b1 b2 : Nat) : ASpecD Try.prog 41 [.ptr ⟨false, b1, 0⟩, .ptr ⟨false, b2, 0⟩] H none fun H' => H' = H := by
  refine aspecD_rec (n := 16) Try.func41 rfl rfl rfl rfl (Nat.le_of_ble_eq_true rfl) rfl (Nat.le_of_ble_eq_true rfl) (Nat.le_of_ble_eq_true rfl) none .nilif rfl ?_
  refine awp_seq (awp_seq ?_)
  refine awp_AL (AL_pre1 (by rfl) ?_)
  (try simp (maxSteps := 4000000) (disch := first | omega | (simp only [push_n, set_n, clr_n, also_n, List.length_replicate, List.length_set, List.length_map, List.length_append, List.length_take, List.length_drop, List.length_cons, List.length_nil]; first | done | omega) | (with_reducible decide)) only [go_sem, Int.reduceEq, Int.reduceNe, Int.reduceLT, Int.reduceLE, Nat.reduceEqDiff, Int.reduceToNat, Nat.reduceSub, Nat.reduceAdd, Nat.reduceMul, Nat.reduceLT, Nat.reduceLeDiff, Int.reduceNeg, Int.reduceAdd, Int.reduceSub, Int.reduceMul, UInt8.reduceToNat]; repeat first | ((first | with_reducible refine split2_pk (by omega) ?_ | with_reducible refine split2_nk (by omega) ?_); intro hsq; try simp (maxSteps := 4000000) (disch := first | omega | (simp only [push_n, set_n, clr_n, also_n, List.length_replicate, List.length_set, List.length_map, List.length_append, List.length_take, List.length_drop, List.length_cons, List.length_nil]; first | done | omega) | (with_reducible decide)) only [go_sem, Int.reduceEq, Int.reduceNe, Int.reduceLT, Int.reduceLE, Nat.reduceEqDiff, Int.reduceToNat, Nat.reduceSub, Nat.reduceAdd, Nat.reduceMul, Nat.reduceLT, Nat.reduceLeDiff, Int.reduceNeg, Int.reduceAdd, Int.reduceSub, Int.reduceMul, UInt8.reduceToNat, hsq]))
  refine AL_ifnil (r := true) Try.underlying20 (by simp (maxSteps := 4000000) (disch := first | omega | (simp only [push_n, set_n, clr_n, also_n, List.length_replicate, List.length_set, List.length_map, List.length_append, List.length_take, List.length_drop, List.length_cons, List.length_nil]; first | done | omega) | (with_reducible decide)) only [go_sem, Int.reduceEq, Int.reduceNe, Int.reduceLT, Int.reduceLE, Nat.reduceEqDiff, Int.reduceToNat, Nat.reduceSub, Nat.reduceAdd, Nat.reduceMul, Nat.reduceLT, Nat.reduceLeDiff, Int.reduceNeg, Int.reduceAdd, Int.reduceSub, Int.reduceMul, UInt8.reduceToNat]; rfl) (Nat.le_of_ble_eq_true rfl) (AL_nil ?_)
  refine awp_cond (t := true) (by simp (maxSteps := 4000000) (disch := first | omega | (simp only [push_n, set_n, clr_n, also_n, List.length_replicate, List.length_set, List.length_map, List.length_append, List.length_take, List.length_drop, List.length_cons, List.length_nil]; first | done | omega) | (with_reducible decide)) only [go_sem, Int.reduceEq, Int.reduceNe, Int.reduceLT, Int.reduceLE, Nat.reduceEqDiff, Int.reduceToNat, Nat.reduceSub, Nat.reduceAdd, Nat.reduceMul, Nat.reduceLT, Nat.reduceLeDiff, Int.reduceNeg, Int.reduceAdd, Int.reduceSub, Int.reduceMul, UInt8.reduceToNat]) ?_
  simp only [if_true]
  exact awp_ret ⟨.inr rfl, rfl⟩
theorem inv1_rec (H : AH) (b1 b2 : Nat) (x y : AV) (i : Nat) (h1 : H.cells? b1 = some [x]) (h2 : H.cells? b2 = some [y]) (hne : b1 ≠ b2) : ASpecD Try.prog 41 [.ptr ⟨false, b1, 0⟩, .ptr ⟨false, b2, 0⟩] H (some (oopsV i)) fun H' => H'.cells? b1 = some [.nilslice] ∧ H'.cells? b2 = some [.int .i64 22] ∧ Chg [b1, b2] H H' := by
  have l1 := cells_lt h1
  have l2 := cells_lt h2
  refine aspecD_rec (n := 16) Try.func41 rfl rfl rfl rfl (Nat.le_of_ble_eq_true rfl) rfl (Nat.le_of_ble_eq_true rfl) (Nat.le_of_ble_eq_true rfl) (some (oopsV i)) (.iface 76 (.agg [.int .i64 i])) (fun b ι => ?_) ?_
  · unfold oopsV RV
    refine ⟨_, rfl, ?_⟩
    unfold RV
    refine ⟨_, rfl, ?_⟩
    unfold RVL
    refine ⟨_, _, rfl, ?_, ?_⟩
    · unfold RV; rfl
    · unfold RVL; rfl
  refine awp_seq (awp_seq ?_)
  refine awp_AL (AL_pre1 (by rfl) ?_)
  (try simp (maxSteps := 4000000) (disch := first | omega | (simp only [push_n, set_n, clr_n, also_n, List.length_replicate, List.length_set, List.length_map, List.length_append, List.length_take, List.length_drop, List.length_cons, List.length_nil]; first | done | omega) | (with_reducible decide)) only [go_sem, Int.reduceEq, Int.reduceNe, Int.reduceLT, Int.reduceLE, Nat.reduceEqDiff, Int.reduceToNat, Nat.reduceSub, Nat.reduceAdd, Nat.reduceMul, Nat.reduceLT, Nat.reduceLeDiff, Int.reduceNeg, Int.reduceAdd, Int.reduceSub, Int.reduceMul, UInt8.reduceToNat]; repeat first | ((first | with_reducible refine split2_pk (by omega) ?_ | with_reducible refine split2_nk (by omega) ?_); intro hsq; try simp (maxSteps := 4000000) (disch := first | omega | (simp only [push_n, set_n, clr_n, also_n, List.length_replicate, List.length_set, List.length_map, List.length_append, List.length_take, List.length_drop, List.length_cons, List.length_nil]; first | done | omega) | (with_reducible decide)) only [go_sem, Int.reduceEq, Int.reduceNe, Int.reduceLT, Int.reduceLE, Nat.reduceEqDiff, Int.reduceToNat, Nat.reduceSub, Nat.reduceAdd, Nat.reduceMul, Nat.reduceLT, Nat.reduceLeDiff, Int.reduceNeg, Int.reduceAdd, Int.reduceSub, Int.reduceMul, UInt8.reduceToNat, hsq]))
  refine AL_ifnil (r := false) Try.underlying20 (by simp (maxSteps := 4000000) (disch := first | omega | (simp only [push_n, set_n, clr_n, also_n, List.length_replicate, List.length_set, List.length_map, List.length_append, List.length_take, List.length_drop, List.length_cons, List.length_nil]; first | done | omega) | (with_reducible decide)) only [go_sem, Int.reduceEq, Int.reduceNe, Int.reduceLT, Int.reduceLE, Nat.reduceEqDiff, Int.reduceToNat, Nat.reduceSub, Nat.reduceAdd, Nat.reduceMul, Nat.reduceLT, Nat.reduceLeDiff, Int.reduceNeg, Int.reduceAdd, Int.reduceSub, Int.reduceMul, UInt8.reduceToNat]; rfl) (Nat.le_of_ble_eq_true rfl) (AL_nil ?_)
  refine awp_cond (t := false) (by simp (maxSteps := 4000000) (disch := first | omega | (simp only [push_n, set_n, clr_n, also_n, List.length_replicate, List.length_set, List.length_map, List.length_append, List.length_take, List.length_drop, List.length_cons, List.length_nil]; first | done | omega) | (with_reducible decide)) only [go_sem, Int.reduceEq, Int.reduceNe, Int.reduceLT, Int.reduceLE, Nat.reduceEqDiff, Int.reduceToNat, Nat.reduceSub, Nat.reduceAdd, Nat.reduceMul, Nat.reduceLT, Nat.reduceLeDiff, Int.reduceNeg, Int.reduceAdd, Int.reduceSub, Int.reduceMul, UInt8.reduceToNat]) ?_
  simp only [Bool.false_eq_true, if_false]
  refine awp_skip ?_
  refine wp_sound _ (by kernel_rfl) ?_
  (try simp (maxSteps := 4000000) (disch := first | omega | (simp only [push_n, set_n, clr_n, also_n, List.length_replicate, List.length_set, List.length_map, List.length_append, List.length_take, List.length_drop, List.length_cons, List.length_nil]; first | done | omega) | (with_reducible decide)) only [go_sem, Int.reduceEq, Int.reduceNe, Int.reduceLT, Int.reduceLE, Nat.reduceEqDiff, Int.reduceToNat, Nat.reduceSub, Nat.reduceAdd, Nat.reduceMul, Nat.reduceLT, Nat.reduceLeDiff, Int.reduceNeg, Int.reduceAdd, Int.reduceSub, Int.reduceMul, UInt8.reduceToNat, h1, h2]; repeat first | ((first | with_reducible refine split2_pk (by omega) ?_ | with_reducible refine split2_nk (by omega) ?_); intro hsq; try simp (maxSteps := 4000000) (disch := first | omega | (simp only [push_n, set_n, clr_n, also_n, List.length_replicate, List.length_set, List.length_map, List.length_append, List.length_take, List.length_drop, List.length_cons, List.length_nil]; first | done | omega) | (with_reducible decide)) only [go_sem, Int.reduceEq, Int.reduceNe, Int.reduceLT, Int.reduceLE, Nat.reduceEqDiff, Int.reduceToNat, Nat.reduceSub, Nat.reduceAdd, Nat.reduceMul, Nat.reduceLT, Nat.reduceLeDiff, Int.reduceNeg, Int.reduceAdd, Int.reduceSub, Int.reduceMul, UInt8.reduceToNat, h1, h2, hsq]))
  exact ((Chg.set H b1 _ (S := [b1, b2]) (by simp)).trans (Chg.set _ b2 _ (by simp))).trans ((Grew.push _ _).chg _)
theorem invert_spec (H : AH) (v : AV) (vs : List AV) (M : Rows8) (hM : IsRows H v vs M) (hlM : M.length * 24 ≤ 140737488351232) : ASpec Try.prog 30 [v] H (invRes' H M true) := by
  have hla := hM.row.lenA (P := Try.prog) Try.underlying25
  have sp1 := fun K (g : Grew H K) => may_spec K v vs M (hM.grew g)
  refine aspec_defer (rs := [.cell 2 25, .cell 3 26]) (n := 48) 2 Try.func30 rfl rfl rfl rfl (Nat.le_of_ble_eq_true rfl) rfl (by kernel_rfl) (Nat.le_of_ble_eq_true rfl) ?_
  simp only [headN]
  have g0 : Grew H ((H.push (some (.cells [.nilslice]))).push (some (.cells [.int .i64 0]))) := (Grew.push _ _).trans (Grew.push _ _)
  have ho1 : ((H.push (some (.cells [.nilslice]))).push (some (.cells [.int .i64 0]))).cells? H.n = some [.nilslice] := by rw [push_cells_ne (by rw [push_n]; omega), push_cells]
  have ho2 : ((H.push (some (.cells [.nilslice]))).push (some (.cells [.int .i64 0]))).cells? (H.n + 1) = some [.int .i64 0] := push_cells_at (by rw [push_n])
  have hn0 : ((H.push (some (.cells [.nilslice]))).push (some (.cells [.int .i64 0]))).n = H.n + 2 := by rw [push_n, push_n]
  by_cases h1 : mayM M
  · have b1 := h1.1
    have b2 := h1.2.1
    have b3 := h1.2.2.1
    have b4 := h1.2.2.2.1
    by_cases h2 : M.length = (M.getD 0 []).length
    · have h : sq M := ⟨h1, h2⟩
      have hsh := sq_shape h
      (try simp (maxSteps := 4000000) (disch := first | omega | (simp only [push_n, set_n, clr_n, also_n, List.length_replicate, List.length_set, List.length_map, List.length_append, List.length_take, List.length_drop, List.length_cons, List.length_nil]; first | done | omega) | (with_reducible decide)) only [go_sem, Int.reduceEq, Int.reduceNe, Int.reduceLT, Int.reduceLE, Nat.reduceEqDiff, Int.reduceToNat, Nat.reduceSub, Nat.reduceAdd, Nat.reduceMul, Nat.reduceLT, Nat.reduceLeDiff, Int.reduceNeg, Int.reduceAdd, Int.reduceSub, Int.reduceMul, UInt8.reduceToNat]; repeat first | ((first | with_reducible refine split2_pk (by omega) ?_ | with_reducible refine split2_nk (by omega) ?_); intro hsq; try simp (maxSteps := 4000000) (disch := first | omega | (simp only [push_n, set_n, clr_n, also_n, List.length_replicate, List.length_set, List.length_map, List.length_append, List.length_take, List.length_drop, List.length_cons, List.length_nil]; first | done | omega) | (with_reducible decide)) only [go_sem, Int.reduceEq, Int.reduceNe, Int.reduceLT, Int.reduceLE, Nat.reduceEqDiff, Int.reduceToNat, Nat.reduceSub, Nat.reduceAdd, Nat.reduceMul, Nat.reduceLT, Nat.reduceLeDiff, Int.reduceNeg, Int.reduceAdd, Int.reduceSub, Int.reduceMul, UInt8.reduceToNat, hsq]))
      generalize ((H.push (some (.cells [.nilslice]))).push (some (.cells [.int .i64 0]))) = H0 at g0 ho1 ho2 hn0 ⊢
      have hM0 := hM.grew g0
      have hix0 := hM0.ix (P := Try.prog) Try.underlying25 sz40 (k := .i64) (i := 0) (by omega) (by omega)
      have hld0 := hM0.ld (i := 0) (by omega)
      have hl0 := (hM0.each 0 (by omega)).length (P := Try.prog) Try.underlying40
      refine ASpec.eq (sp1 _ g0) ?_
      (try simp (maxSteps := 4000000) (disch := first | omega | (simp only [push_n, set_n, clr_n, also_n, List.length_replicate, List.length_set, List.length_map, List.length_append, List.length_take, List.length_drop, List.length_cons, List.length_nil]; first | done | omega) | (with_reducible decide)) only [go_sem, Int.reduceEq, Int.reduceNe, Int.reduceLT, Int.reduceLE, Nat.reduceEqDiff, Int.reduceToNat, Nat.reduceSub, Nat.reduceAdd, Nat.reduceMul, Nat.reduceLT, Nat.reduceLeDiff, Int.reduceNeg, Int.reduceAdd, Int.reduceSub, Int.reduceMul, UInt8.reduceToNat, h1, decide_true, hla, hix0, hld0, hl0, h2]; repeat first | ((first | with_reducible refine split2_pk (by omega) ?_ | with_reducible refine split2_nk (by omega) ?_); intro hsq; try simp (maxSteps := 4000000) (disch := first | omega | (simp only [push_n, set_n, clr_n, also_n, List.length_replicate, List.length_set, List.length_map, List.length_append, List.length_take, List.length_drop, List.length_cons, List.length_nil]; first | done | omega) | (with_reducible decide)) only [go_sem, Int.reduceEq, Int.reduceNe, Int.reduceLT, Int.reduceLE, Nat.reduceEqDiff, Int.reduceToNat, Nat.reduceSub, Nat.reduceAdd, Nat.reduceMul, Nat.reduceLT, Nat.reduceLeDiff, Int.reduceNeg, Int.reduceAdd, Int.reduceSub, Int.reduceMul, UInt8.reduceToNat, h1, decide_true, hla, hix0, hld0, hl0, h2, hsq]))
      (refine wp_mid (σ := Nat × AVL × Nat × AVL) 3 (by kernel_rfl) (fun (B1, w1, B2, w2) => [(2, .ptr ⟨false, H.n, 0⟩), (3, .ptr ⟨false, H.n + 1, 0⟩), (4, .slice ⟨false, B1, 0⟩ M.length (.known M.length)), (7, .slice ⟨false, B2, 0⟩ M.length (.known M.length))]) (fun (B1, w1, B2, w2) H' => Grew H0 H' ∧ OwnRows H' B1 w1 M ∧ OwnRows H' B2 w2 (idRows M.length) ∧ (∀ b ∈ blks B1 w1, H0.n ≤ b) ∧ (∀ b ∈ blks B2 w2, H0.n ≤ b ∧ b ∉ blks B1 w1)) ?_ ?_; rotate_left; simp only [restC]; rotate_left; simp only [headN])
      · (try simp (maxSteps := 4000000) (disch := first | omega | (simp only [push_n, set_n, clr_n, also_n, List.length_replicate, List.length_set, List.length_map, List.length_append, List.length_take, List.length_drop, List.length_cons, List.length_nil]; first | done | omega) | (with_reducible decide)) only [go_sem, Int.reduceEq, Int.reduceNe, Int.reduceLT, Int.reduceLE, Nat.reduceEqDiff, Int.reduceToNat, Nat.reduceSub, Nat.reduceAdd, Nat.reduceMul, Nat.reduceLT, Nat.reduceLeDiff, Int.reduceNeg, Int.reduceAdd, Int.reduceSub, Int.reduceMul, UInt8.reduceToNat, hla]; repeat first | ((first | with_reducible refine split2_pk (by omega) ?_ | with_reducible refine split2_nk (by omega) ?_); intro hsq; try simp (maxSteps := 4000000) (disch := first | omega | (simp only [push_n, set_n, clr_n, also_n, List.length_replicate, List.length_set, List.length_map, List.length_append, List.length_take, List.length_drop, List.length_cons, List.length_nil]; first | done | omega) | (with_reducible decide)) only [go_sem, Int.reduceEq, Int.reduceNe, Int.reduceLT, Int.reduceLE, Nat.reduceEqDiff, Int.reduceToNat, Nat.reduceSub, Nat.reduceAdd, Nat.reduceMul, Nat.reduceLT, Nat.reduceLeDiff, Int.reduceNeg, Int.reduceAdd, Int.reduceSub, Int.reduceMul, UInt8.reduceToNat, hla, hsq]))
        refine wp_loopS (σ := Nat × AVL) (by kernel_rfl) (fun (i, ws) => [(0, v), (2, .ptr ⟨false, H.n, 0⟩), (3, .ptr ⟨false, H.n + 1, 0⟩), (4, .slice ⟨false, H0.n, 0⟩ M.length (.known M.length)), (25, v), (26, .int .i64 (M.length : Nat)), (27, .int .i64 (i : Nat))]) (fun (i, ws) H' => i ≤ M.length ∧ ws.length = i ∧ PartRows H' H0.n M.length ws (M.take i) ∧ Grew H0 H' ∧ ∀ b ∈ blks H0.n ws, H0.n ≤ b) (fun (i, ws) => M.length - i) (0, []) (by simp (maxSteps := 4000000) (disch := first | omega | (simp only [push_n, set_n, clr_n, also_n, List.length_replicate, List.length_set, List.length_map, List.length_append, List.length_take, List.length_drop, List.length_cons, List.length_nil]; first | done | omega) | (with_reducible decide)) only [go_sem, Int.reduceEq, Int.reduceNe, Int.reduceLT, Int.reduceLE, Nat.reduceEqDiff, Int.reduceToNat, Nat.reduceSub, Nat.reduceAdd, Nat.reduceMul, Nat.reduceLT, Nat.reduceLeDiff, Int.reduceNeg, Int.reduceAdd, Int.reduceSub, Int.reduceMul, UInt8.reduceToNat]) ?_ ?_
        · refine ⟨by omega, rfl, ⟨by rw [push_cells]; simp, by simp, rfl, fun i hi => by simp at hi, fun i hi => by simp at hi, fun i hi => by simp at hi, fun i j hi => by simp at hi⟩, Grew.push _ _, fun b hb => by simp [blks] at hb; omega⟩
        rintro ⟨i, ws⟩ H1 ⟨hi, hwl, hp, g, hnew⟩
        by_cases hil : i < M.length
        · have hM1 := hM0.grew g
          have hix := hM1.ix (P := Try.prog) Try.underlying25 sz40 (k := .i64) (i := (i : Int)) (by omega) (by omega)
          have hld := hM1.ld hil
          have hli := h1.2.2.2.2 i hil
          (try simp (maxSteps := 4000000) (disch := first | omega | (simp only [push_n, set_n, clr_n, also_n, List.length_replicate, List.length_set, List.length_map, List.length_append, List.length_take, List.length_drop, List.length_cons, List.length_nil]; first | done | omega) | (with_reducible decide)) only [go_sem, Int.reduceEq, Int.reduceNe, Int.reduceLT, Int.reduceLE, Nat.reduceEqDiff, Int.reduceToNat, Nat.reduceSub, Nat.reduceAdd, Nat.reduceMul, Nat.reduceLT, Nat.reduceLeDiff, Int.reduceNeg, Int.reduceAdd, Int.reduceSub, Int.reduceMul, UInt8.reduceToNat, hix, hld]; repeat first | ((first | with_reducible refine split2_pk (by omega) ?_ | with_reducible refine split2_nk (by omega) ?_); intro hsq; try simp (maxSteps := 4000000) (disch := first | omega | (simp only [push_n, set_n, clr_n, also_n, List.length_replicate, List.length_set, List.length_map, List.length_append, List.length_take, List.length_drop, List.length_cons, List.length_nil]; first | done | omega) | (with_reducible decide)) only [go_sem, Int.reduceEq, Int.reduceNe, Int.reduceLT, Int.reduceLE, Nat.reduceEqDiff, Int.reduceToNat, Nat.reduceSub, Nat.reduceAdd, Nat.reduceMul, Nat.reduceLT, Nat.reduceLeDiff, Int.reduceNeg, Int.reduceAdd, Int.reduceSub, Int.reduceMul, UInt8.reduceToNat, hix, hld, hsq]))
          refine (clone_spec H1 _ _ (hM1.each i hil) (by omega)).mono ?_
          rintro r H2 hc
          rcases hc.is with ⟨_, h0⟩ | ⟨B, rfl, hB, hcB⟩
          · omega
          have hx := hc.bytes
          have g2 := hc.g
          have hB0 : H0.n < H1.n := cells_lt hp.top
          obtain ⟨l0, c1, c2, c3⟩ := hp.put (w := .slice ⟨false, B, 0⟩ (M.getD i []).length (.grow 1)) (xs := M.getD i []) (by omega) g2 ⟨_, _, rfl⟩ hx hB
          rw [hwl] at c2 c3
          (try simp (maxSteps := 4000000) (disch := first | omega | (simp only [push_n, set_n, clr_n, also_n, List.length_replicate, List.length_set, List.length_map, List.length_append, List.length_take, List.length_drop, List.length_cons, List.length_nil]; first | done | omega) | (with_reducible decide)) only [go_sem, Int.reduceEq, Int.reduceNe, Int.reduceLT, Int.reduceLE, Nat.reduceEqDiff, Int.reduceToNat, Nat.reduceSub, Nat.reduceAdd, Nat.reduceMul, Nat.reduceLT, Nat.reduceLeDiff, Int.reduceNeg, Int.reduceAdd, Int.reduceSub, Int.reduceMul, UInt8.reduceToNat, c1]; repeat first | ((first | with_reducible refine split2_pk (by omega) ?_ | with_reducible refine split2_nk (by omega) ?_); intro hsq; try simp (maxSteps := 4000000) (disch := first | omega | (simp only [push_n, set_n, clr_n, also_n, List.length_replicate, List.length_set, List.length_map, List.length_append, List.length_take, List.length_drop, List.length_cons, List.length_nil]; first | done | omega) | (with_reducible decide)) only [go_sem, Int.reduceEq, Int.reduceNe, Int.reduceLT, Int.reduceLE, Nat.reduceEqDiff, Int.reduceToNat, Nat.reduceSub, Nat.reduceAdd, Nat.reduceMul, Nat.reduceLT, Nat.reduceLeDiff, Int.reduceNeg, Int.reduceAdd, Int.reduceSub, Int.reduceMul, UInt8.reduceToNat, c1, hsq]))
          (refine ⟨(i + 1, ws ++ [.slice ⟨false, B, 0⟩ (M.getD i []).length (.grow 1)]), ?_⟩; and_intros; all_goals (try first | rfl | assumption | omega))
          · simp [hwl]
          · rw [show M.take (i + 1) = M.take i ++ [M.getD i []] by rw [← List.take_append_getElem hil]; simp [List.getD, hil]]
            exact c3
          · exact (((g.trans g2).chg [H0.n]).thenSet _ (.inl (List.mem_singleton.2 rfl))).grew (fun j hj => by have := List.mem_singleton.1 hj; omega)
          · intro b hb
            simp only [blks, List.mem_cons, List.mem_map, List.mem_append] at hb hnew
            have := g.n
            rcases hb with rfl | ⟨v, hv | hv, rfl⟩
            · exact Nat.le_refl _
            · exact hnew _ (.inr ⟨v, hv, rfl⟩)
            · rcases hv with rfl | hv
              · exact Nat.le_trans this hB
              · cases hv
        · obtain rfl : i = M.length := by omega
          rw [List.take_length] at hp
          have hown := hp.all hwl
          (try simp (maxSteps := 4000000) (disch := first | omega | (simp only [push_n, set_n, clr_n, also_n, List.length_replicate, List.length_set, List.length_map, List.length_append, List.length_take, List.length_drop, List.length_cons, List.length_nil]; first | done | omega) | (with_reducible decide)) only [go_sem, Int.reduceEq, Int.reduceNe, Int.reduceLT, Int.reduceLE, Nat.reduceEqDiff, Int.reduceToNat, Nat.reduceSub, Nat.reduceAdd, Nat.reduceMul, Nat.reduceLT, Nat.reduceLeDiff, Int.reduceNeg, Int.reduceAdd, Int.reduceSub, Int.reduceMul, UInt8.reduceToNat, hla]; repeat first | ((first | with_reducible refine split2_pk (by omega) ?_ | with_reducible refine split2_nk (by omega) ?_); intro hsq; try simp (maxSteps := 4000000) (disch := first | omega | (simp only [push_n, set_n, clr_n, also_n, List.length_replicate, List.length_set, List.length_map, List.length_append, List.length_take, List.length_drop, List.length_cons, List.length_nil]; first | done | omega) | (with_reducible decide)) only [go_sem, Int.reduceEq, Int.reduceNe, Int.reduceLT, Int.reduceLE, Nat.reduceEqDiff, Int.reduceToNat, Nat.reduceSub, Nat.reduceAdd, Nat.reduceMul, Nat.reduceLT, Nat.reduceLeDiff, Int.reduceNeg, Int.reduceAdd, Int.reduceSub, Int.reduceMul, UInt8.reduceToNat, hla, hsq]))
          refine (identity_spec H1 M.length).mono ?_
          intro r H2 hr
          rw [idRes, if_pos (by omega)] at hr
          obtain ⟨B2, w2, rfl, hnr⟩ := hr
          rw [Int.toNat_natCast] at hnr ⊢
          (try simp (maxSteps := 4000000) (disch := first | omega | (simp only [push_n, set_n, clr_n, also_n, List.length_replicate, List.length_set, List.length_map, List.length_append, List.length_take, List.length_drop, List.length_cons, List.length_nil]; first | done | omega) | (with_reducible decide)) only [go_sem, Int.reduceEq, Int.reduceNe, Int.reduceLT, Int.reduceLE, Nat.reduceEqDiff, Int.reduceToNat, Nat.reduceSub, Nat.reduceAdd, Nat.reduceMul, Nat.reduceLT, Nat.reduceLeDiff, Int.reduceNeg, Int.reduceAdd, Int.reduceSub, Int.reduceMul, UInt8.reduceToNat]; repeat first | ((first | with_reducible refine split2_pk (by omega) ?_ | with_reducible refine split2_nk (by omega) ?_); intro hsq; try simp (maxSteps := 4000000) (disch := first | omega | (simp only [push_n, set_n, clr_n, also_n, List.length_replicate, List.length_set, List.length_map, List.length_append, List.length_take, List.length_drop, List.length_cons, List.length_nil]; first | done | omega) | (with_reducible decide)) only [go_sem, Int.reduceEq, Int.reduceNe, Int.reduceLT, Int.reduceLE, Nat.reduceEqDiff, Int.reduceToNat, Nat.reduceSub, Nat.reduceAdd, Nat.reduceMul, Nat.reduceLT, Nat.reduceLeDiff, Int.reduceNeg, Int.reduceAdd, Int.reduceSub, Int.reduceMul, UInt8.reduceToNat, hsq]))
          refine ⟨(H0.n, ws, B2, w2), ⟨rfl, rfl⟩, g.trans hnr.g, hown.grew hnr.g, hnr.own, hnew, fun b hb => ⟨Nat.le_trans g.n (hnr.new b hb), fun hb1 => ?_⟩⟩
          have := hown.lt b hb1
          have := hnr.new b hb
          omega
      rintro ⟨B1, w1, B2, w2⟩ H3 ⟨g3, o1, o2, k1, k2⟩
      have hk1 : ∀ b ∈ blks B1 w1, b < H3.n := o1.lt
      have two : Two H3 H3 (blks B1 w1) (blks B2 w2) B1 B2 w1 w2 M (idRows M.length) := ⟨o1, o2, fun b hb => hb, fun b hb => hb, fun b hb hb2 => (k2 b hb2).2 hb, Chg.refl _ _⟩
      have hsv := solve_spec H3 M.length M M (idRows M.length) (blks B1 w1) (blks B2 w2) B1 B2 (.known M.length) (.known M.length) w1 w2 two (Elim.start hsh) b1 b2 (by simp [okSl]) (by simp [okSl])
      have p1 : H3.cells? H.n = some [.nilslice] := g3.cells_some ho1
      have p2 : H3.cells? (H.n + 1) = some [.int .i64 0] := g3.cells_some ho2
      have q1 : ∀ {H'}, Chg (blks B1 w1 ++ blks B2 w2) H3 H' → H'.cells? H.n = some [.nilslice] ∧ H'.cells? (H.n + 1) = some [.int .i64 0] ∧ Grew H0 H' := fun {H'} hc => by
        refine ⟨hc.cells (fun hm => ?_) p1, hc.cells (fun hm => ?_) p2, ((g3.chg _).trans hc).grew fun b hb => ?_⟩
        · rcases List.mem_append.1 hm with hm | hm
          · have := k1 _ hm; omega
          · have := (k2 _ hm).1; omega
        · rcases List.mem_append.1 hm with hm | hm
          · have := k1 _ hm; omega
          · have := (k2 _ hm).1; omega
        · rcases List.mem_append.1 hb with hm | hm
          · exact k1 _ hm
          · exact (k2 _ hm).1
      refine awp_seq (awp_AL (AL_pre2 (by rfl) ?_))
      (try simp (maxSteps := 4000000) (disch := first | omega | (simp only [push_n, set_n, clr_n, also_n, List.length_replicate, List.length_set, List.length_map, List.length_append, List.length_take, List.length_drop, List.length_cons, List.length_nil]; first | done | omega) | (with_reducible decide)) only [go_sem, Int.reduceEq, Int.reduceNe, Int.reduceLT, Int.reduceLE, Nat.reduceEqDiff, Int.reduceToNat, Nat.reduceSub, Nat.reduceAdd, Nat.reduceMul, Nat.reduceLT, Nat.reduceLeDiff, Int.reduceNeg, Int.reduceAdd, Int.reduceSub, Int.reduceMul, UInt8.reduceToNat]; repeat first | ((first | with_reducible refine split2_pk (by omega) ?_ | with_reducible refine split2_nk (by omega) ?_); intro hsq; try simp (maxSteps := 4000000) (disch := first | omega | (simp only [push_n, set_n, clr_n, also_n, List.length_replicate, List.length_set, List.length_map, List.length_append, List.length_take, List.length_drop, List.length_cons, List.length_nil]; first | done | omega) | (with_reducible decide)) only [go_sem, Int.reduceEq, Int.reduceNe, Int.reduceLT, Int.reduceLE, Nat.reduceEqDiff, Int.reduceToNat, Nat.reduceSub, Nat.reduceAdd, Nat.reduceMul, Nat.reduceLT, Nat.reduceLeDiff, Int.reduceNeg, Int.reduceAdd, Int.reduceSub, Int.reduceMul, UInt8.reduceToNat, hsq]))
      refine AL_callP rfl (by simp (maxSteps := 4000000) (disch := first | omega | (simp only [push_n, set_n, clr_n, also_n, List.length_replicate, List.length_set, List.length_map, List.length_append, List.length_take, List.length_drop, List.length_cons, List.length_nil]; first | done | omega) | (with_reducible decide)) only [go_sem, Int.reduceEq, Int.reduceNe, Int.reduceLT, Int.reduceLE, Nat.reduceEqDiff, Int.reduceToNat, Nat.reduceSub, Nat.reduceAdd, Nat.reduceMul, Nat.reduceLT, Nat.reduceLeDiff, Int.reduceNeg, Int.reduceAdd, Int.reduceSub, Int.reduceMul, UInt8.reduceToNat]; rfl) (fun d hd => by injection hd with hd; subst hd; exact Nat.le_of_ble_eq_true rfl) hsv ?_ ?_
      · rintro r H4 ⟨rfl, w1', w2', A, X, hT, hE⟩
        refine AL_nil ?_
        obtain ⟨r1, r2, r3⟩ := q1 hT.ch
        show AWp _ _ _ _ _ _
        refine wp_sound _ (by kernel_rfl) ?_
        (try simp (maxSteps := 4000000) (disch := first | omega | (simp only [push_n, set_n, clr_n, also_n, List.length_replicate, List.length_set, List.length_map, List.length_append, List.length_take, List.length_drop, List.length_cons, List.length_nil]; first | done | omega) | (with_reducible decide)) only [go_sem, Int.reduceEq, Int.reduceNe, Int.reduceLT, Int.reduceLE, Nat.reduceEqDiff, Int.reduceToNat, Nat.reduceSub, Nat.reduceAdd, Nat.reduceMul, Nat.reduceLT, Nat.reduceLeDiff, Int.reduceNeg, Int.reduceAdd, Int.reduceSub, Int.reduceMul, UInt8.reduceToNat, r1, r2]; repeat first | ((first | with_reducible refine split2_pk (by omega) ?_ | with_reducible refine split2_nk (by omega) ?_); intro hsq; try simp (maxSteps := 4000000) (disch := first | omega | (simp only [push_n, set_n, clr_n, also_n, List.length_replicate, List.length_set, List.length_map, List.length_append, List.length_take, List.length_drop, List.length_cons, List.length_nil]; first | done | omega) | (with_reducible decide)) only [go_sem, Int.reduceEq, Int.reduceNe, Int.reduceLT, Int.reduceLE, Nat.reduceEqDiff, Int.reduceToNat, Nat.reduceSub, Nat.reduceAdd, Nat.reduceMul, Nat.reduceLT, Nat.reduceLeDiff, Int.reduceNeg, Int.reduceAdd, Int.reduceSub, Int.reduceMul, UInt8.reduceToNat, r1, r2, hsq]))
        have hc5 : Chg [H.n, H.n + 1] H4 ((H4.set H.n (some (.cells [.slice ⟨false, B2, 0⟩ M.length (.known M.length)]))).set (H.n + 1) (some (.cells [.int .i64 0]))) := (Chg.set H4 H.n _ (S := [H.n, H.n + 1]) (by simp)).trans (Chg.set _ (H.n + 1) _ (by simp))
        have c1 : ((H4.set H.n (some (.cells [.slice ⟨false, B2, 0⟩ M.length (.known M.length)]))).set (H.n + 1) (some (.cells [.int .i64 0]))).cells? H.n = some [.slice ⟨false, B2, 0⟩ M.length (.known M.length)] := by rw [set_cells_ne (by omega), set_cells _ _ (cells_lt r1)]
        have c2 : ((H4.set H.n (some (.cells [.slice ⟨false, B2, 0⟩ M.length (.known M.length)]))).set (H.n + 1) (some (.cells [.int .i64 0]))).cells? (H.n + 1) = some [.int .i64 0] := set_cells _ _ (by rw [set_n]; exact cells_lt r2)
        have g5 : Grew H ((H4.set H.n (some (.cells [.slice ⟨false, B2, 0⟩ M.length (.known M.length)]))).set (H.n + 1) (some (.cells [.int .i64 0]))) := ((g0.trans r3).set (Nat.le_refl _) _).set (by omega) _
        generalize ((H4.set H.n (some (.cells [.slice ⟨false, B2, 0⟩ M.length (.known M.length)]))).set (H.n + 1) (some (.cells [.int .i64 0]))) = H5 at hc5 c1 c2 g5 ⊢
        refine ASpecD.mono (inv1_ret _ _ _) ?_
        rintro H6 rfl
        simp (maxSteps := 4000000) (disch := first | omega | (simp only [push_n, set_n, clr_n, also_n, List.length_replicate, List.length_set, List.length_map, List.length_append, List.length_take, List.length_drop, List.length_cons, List.length_nil]; first | done | omega) | (with_reducible decide)) only [go_sem, Int.reduceEq, Int.reduceNe, Int.reduceLT, Int.reduceLE, Nat.reduceEqDiff, Int.reduceToNat, Nat.reduceSub, Nat.reduceAdd, Nat.reduceMul, Nat.reduceLT, Nat.reduceLeDiff, Int.reduceNeg, Int.reduceAdd, Int.reduceSub, Int.reduceMul, UInt8.reduceToNat, c1, c2]
        rw [invRes', if_pos h]
        have hlow : ∀ b ∈ blks B2 w2', H0.n ≤ b := fun b hb => (k2 b (hT.s2 b hb)).1
        refine .inl ⟨B2, w2', X, rfl, ⟨hT.o2.chg hc5 fun b hb hm => ?_, g5, fun b hb => ?_⟩, hE.done⟩
        · have := hlow b hb
          simp at hm
          omega
        · have := hlow b hb
          omega
      · rintro v H4 ⟨⟨i, rfl⟩, hs, hc⟩
        obtain ⟨r1, r2, r3⟩ := q1 hc
        refine ⟨_, rfl, ?_⟩
        refine ASpecD.mono (inv1_rec H4 H.n (H.n + 1) _ _ i r1 r2 (by omega)) ?_
        rintro H5 ⟨c1, c2, c3⟩
        simp (maxSteps := 4000000) (disch := first | omega | (simp only [push_n, set_n, clr_n, also_n, List.length_replicate, List.length_set, List.length_map, List.length_append, List.length_take, List.length_drop, List.length_cons, List.length_nil]; first | done | omega) | (with_reducible decide)) only [go_sem, Int.reduceEq, Int.reduceNe, Int.reduceLT, Int.reduceLE, Nat.reduceEqDiff, Int.reduceToNat, Nat.reduceSub, Nat.reduceAdd, Nat.reduceMul, Nat.reduceLT, Nat.reduceLeDiff, Int.reduceNeg, Int.reduceAdd, Int.reduceSub, Int.reduceMul, UInt8.reduceToNat, c1, c2]
        rw [invRes', if_pos h]
        exact .inr ⟨rfl, hs, (((g0.trans r3).chg _).trans c3).grew (by simp)⟩
    · have h : ¬ sq M := fun h => h2 h.2
      (try simp (maxSteps := 4000000) (disch := first | omega | (simp only [push_n, set_n, clr_n, also_n, List.length_replicate, List.length_set, List.length_map, List.length_append, List.length_take, List.length_drop, List.length_cons, List.length_nil]; first | done | omega) | (with_reducible decide)) only [go_sem, Int.reduceEq, Int.reduceNe, Int.reduceLT, Int.reduceLE, Nat.reduceEqDiff, Int.reduceToNat, Nat.reduceSub, Nat.reduceAdd, Nat.reduceMul, Nat.reduceLT, Nat.reduceLeDiff, Int.reduceNeg, Int.reduceAdd, Int.reduceSub, Int.reduceMul, UInt8.reduceToNat]; repeat first | ((first | with_reducible refine split2_pk (by omega) ?_ | with_reducible refine split2_nk (by omega) ?_); intro hsq; try simp (maxSteps := 4000000) (disch := first | omega | (simp only [push_n, set_n, clr_n, also_n, List.length_replicate, List.length_set, List.length_map, List.length_append, List.length_take, List.length_drop, List.length_cons, List.length_nil]; first | done | omega) | (with_reducible decide)) only [go_sem, Int.reduceEq, Int.reduceNe, Int.reduceLT, Int.reduceLE, Nat.reduceEqDiff, Int.reduceToNat, Nat.reduceSub, Nat.reduceAdd, Nat.reduceMul, Nat.reduceLT, Nat.reduceLeDiff, Int.reduceNeg, Int.reduceAdd, Int.reduceSub, Int.reduceMul, UInt8.reduceToNat, hsq]))
      generalize ((H.push (some (.cells [.nilslice]))).push (some (.cells [.int .i64 0]))) = H0 at g0 ho1 ho2 hn0 ⊢
      have hM0 := hM.grew g0
      have hix0 := hM0.ix (P := Try.prog) Try.underlying25 sz40 (k := .i64) (i := 0) (by omega) (by omega)
      have hld0 := hM0.ld (i := 0) (by omega)
      have hl0 := (hM0.each 0 (by omega)).length (P := Try.prog) Try.underlying40
      refine ASpec.eq (sp1 _ g0) ?_
      (try simp (maxSteps := 4000000) (disch := first | omega | (simp only [push_n, set_n, clr_n, also_n, List.length_replicate, List.length_set, List.length_map, List.length_append, List.length_take, List.length_drop, List.length_cons, List.length_nil]; first | done | omega) | (with_reducible decide)) only [go_sem, Int.reduceEq, Int.reduceNe, Int.reduceLT, Int.reduceLE, Nat.reduceEqDiff, Int.reduceToNat, Nat.reduceSub, Nat.reduceAdd, Nat.reduceMul, Nat.reduceLT, Nat.reduceLeDiff, Int.reduceNeg, Int.reduceAdd, Int.reduceSub, Int.reduceMul, UInt8.reduceToNat, h1, decide_true, hla, hix0, hld0, hl0, ho1, ho2]; repeat first | ((first | with_reducible refine split2_pk (by omega) ?_ | with_reducible refine split2_nk (by omega) ?_); intro hsq; try simp (maxSteps := 4000000) (disch := first | omega | (simp only [push_n, set_n, clr_n, also_n, List.length_replicate, List.length_set, List.length_map, List.length_append, List.length_take, List.length_drop, List.length_cons, List.length_nil]; first | done | omega) | (with_reducible decide)) only [go_sem, Int.reduceEq, Int.reduceNe, Int.reduceLT, Int.reduceLE, Nat.reduceEqDiff, Int.reduceToNat, Nat.reduceSub, Nat.reduceAdd, Nat.reduceMul, Nat.reduceLT, Nat.reduceLeDiff, Int.reduceNeg, Int.reduceAdd, Int.reduceSub, Int.reduceMul, UInt8.reduceToNat, h1, decide_true, hla, hix0, hld0, hl0, ho1, ho2, hsq]))
      rw [invRes', if_neg h]
      exact ⟨rfl, (g0.set (Nat.le_refl _) _).set (by omega) _⟩
  · have h : ¬ sq M := fun h => h1 h.1
    (try simp (maxSteps := 4000000) (disch := first | omega | (simp only [push_n, set_n, clr_n, also_n, List.length_replicate, List.length_set, List.length_map, List.length_append, List.length_take, List.length_drop, List.length_cons, List.length_nil]; first | done | omega) | (with_reducible decide)) only [go_sem, Int.reduceEq, Int.reduceNe, Int.reduceLT, Int.reduceLE, Nat.reduceEqDiff, Int.reduceToNat, Nat.reduceSub, Nat.reduceAdd, Nat.reduceMul, Nat.reduceLT, Nat.reduceLeDiff, Int.reduceNeg, Int.reduceAdd, Int.reduceSub, Int.reduceMul, UInt8.reduceToNat, h1, decide_false]; repeat first | ((first | refine ASpec.eq (sp1 _ g0) ?_); try simp (maxSteps := 4000000) (disch := first | omega | (simp only [push_n, set_n, clr_n, also_n, List.length_replicate, List.length_set, List.length_map, List.length_append, List.length_take, List.length_drop, List.length_cons, List.length_nil]; first | done | omega) | (with_reducible decide)) only [go_sem, Int.reduceEq, Int.reduceNe, Int.reduceLT, Int.reduceLE, Nat.reduceEqDiff, Int.reduceToNat, Nat.reduceSub, Nat.reduceAdd, Nat.reduceMul, Nat.reduceLT, Nat.reduceLeDiff, Int.reduceNeg, Int.reduceAdd, Int.reduceSub, Int.reduceMul, UInt8.reduceToNat, h1, decide_false]) | ((first | with_reducible refine split2_pk (by omega) ?_ | with_reducible refine split2_nk (by omega) ?_); intro hsq; try simp (maxSteps := 4000000) (disch := first | omega | (simp only [push_n, set_n, clr_n, also_n, List.length_replicate, List.length_set, List.length_map, List.length_append, List.length_take, List.length_drop, List.length_cons, List.length_nil]; first | done | omega) | (with_reducible decide)) only [go_sem, Int.reduceEq, Int.reduceNe, Int.reduceLT, Int.reduceLE, Nat.reduceEqDiff, Int.reduceToNat, Nat.reduceSub, Nat.reduceAdd, Nat.reduceMul, Nat.reduceLT, Nat.reduceLeDiff, Int.reduceNeg, Int.reduceAdd, Int.reduceSub, Int.reduceMul, UInt8.reduceToNat, h1, decide_false, hsq]))
    rw [invRes', if_neg h]
    exact ⟨rfl, (Grew.push _ _).trans (Grew.push _ _)⟩
end Go.Proofs.Ytbpojmneffngoaa
