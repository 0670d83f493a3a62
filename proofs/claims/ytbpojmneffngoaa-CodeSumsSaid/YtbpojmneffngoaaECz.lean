import Derived.Test.YtbpojmneffngoaaEAz
namespace Go.Proofs.Ytbpojmneffngoaa
open Go Go.Abs Go.Abs.GF
set_option linter.unusedVariables false
set_option linter.unusedSimpArgs false
set_option maxHeartbeats 4000000
attribute [local irreducible] ASpec AWp WP AOps DOps
theorem wrap_byte (n : Int) : ∃ x : UInt8, AV.int .u8 (IntKind.u8.wrap n) = bv x := ⟨UInt8.ofNat (n % 256).toNat, by
  rw [← byte_bv]
  congr 1
  rw [IntKind.wrap_u8, IntKind.wrap_u8]
  omega⟩
theorem tmod12 (a : UInt8) (n : Nat) : ((a.toNat : Int)).tmod (n : Int) = ((a.toNat % n : Nat) : Int) := by rw [Int.tmod_eq_emod_of_nonneg (by omega)]; simp
def szK (a : UInt8) : Nat := 1 + a.toNat % 12
def szN (a b : UInt8) : Nat := 2 + a.toNat % 12 + b.toNat % 12
theorem sz_may (a b : UInt8) : codeMay (szK a : Nat) (szN a b : Nat) := by
  have h1 := Nat.mod_lt a.toNat (show 12 > 0 by decide)
  have h2 := Nat.mod_lt b.toNat (show 12 > 0 by decide)
  unfold codeMay szK szN
  omega
theorem sizes_spec (H : AH) (a b c : UInt8) (v w : AV) : ASpec Try.prog 19 [.agg [bv a, bv b, bv c, v, w]] H fun r H' => r = .tup [.int .i64 (szK a : Nat), .int .i64 (szN a b : Nat)] ∧ Grew H H' := by
  have h1 := Nat.mod_lt a.toNat (show 12 > 0 by decide)
  have h2 := Nat.mod_lt b.toNat (show 12 > 0 by decide)
  have e1 := tmod12 a 12
  have e2 := tmod12 b 12
  refine aspec_fn (rs := [.tmp 2, .tmp 3]) (n := 19) Try.func19 rfl rfl rfl rfl (by kernel_rfl) (Nat.le_of_ble_eq_true rfl) ?_
  (try simp (maxSteps := 4000000) (disch := first | omega | (simp only [push_n, set_n, clr_n, also_n, List.length_replicate, List.length_set, List.length_map, List.length_append, List.length_take, List.length_drop, List.length_cons, List.length_nil]; first | done | omega) | (with_reducible decide)) only [go_sem, Int.reduceEq, Int.reduceNe, Int.reduceLT, Int.reduceLE, Nat.reduceEqDiff, Int.reduceToNat, Nat.reduceSub, Nat.reduceAdd, Nat.reduceMul, Nat.reduceLT, Nat.reduceLeDiff, Int.reduceNeg, Int.reduceAdd, Int.reduceSub, Int.reduceMul, UInt8.reduceToNat]; repeat first | ((first | with_reducible refine split2_pk (by omega) ?_ | with_reducible refine split2_nk (by omega) ?_); intro hsq; try simp (maxSteps := 4000000) (disch := first | omega | (simp only [push_n, set_n, clr_n, also_n, List.length_replicate, List.length_set, List.length_map, List.length_append, List.length_take, List.length_drop, List.length_cons, List.length_nil]; first | done | omega) | (with_reducible decide)) only [go_sem, Int.reduceEq, Int.reduceNe, Int.reduceLT, Int.reduceLE, Nat.reduceEqDiff, Int.reduceToNat, Nat.reduceSub, Nat.reduceAdd, Nat.reduceMul, Nat.reduceLT, Nat.reduceLeDiff, Int.reduceNeg, Int.reduceAdd, Int.reduceSub, Int.reduceMul, UInt8.reduceToNat, hsq]))
  (refine awp_drawP (hl := []) [eqM (H.push (some (.cells [bv a, bv b, bv c, v, w])))] [(0, some 0), (1, some 0), (2, some 0), (3, some 0), (4, some 0), (5, some 0), (6, some 0), (7, some 0), (8, some 0), (9, some 0), (10, some 0), (11, some 0), (12, some 0), (13, some 0), (14, some 0), (15, some 0), (16, some 0)] [] (by kernel_rfl) (by rfl) (by decide +kernel) (rofP_0 ?_) ?_; rotate_left; (conv => arg 5; simp only [List.map_cons, List.map_nil, List.getElem?_toArray, List.getElem?_cons_zero, List.getElem?_cons_succ]); rotate_left)
  · rfl
  (try simp (maxSteps := 4000000) (disch := first | omega | (simp only [push_n, set_n, clr_n, also_n, List.length_replicate, List.length_set, List.length_map, List.length_append, List.length_take, List.length_drop, List.length_cons, List.length_nil]; first | done | omega) | (with_reducible decide)) only [go_sem, Int.reduceEq, Int.reduceNe, Int.reduceLT, Int.reduceLE, Nat.reduceEqDiff, Int.reduceToNat, Nat.reduceSub, Nat.reduceAdd, Nat.reduceMul, Nat.reduceLT, Nat.reduceLeDiff, Int.reduceNeg, Int.reduceAdd, Int.reduceSub, Int.reduceMul, UInt8.reduceToNat, e1, e2]; repeat first | ((first | with_reducible refine split2_pk (by omega) ?_ | with_reducible refine split2_nk (by omega) ?_); intro hsq; try simp (maxSteps := 4000000) (disch := first | omega | (simp only [push_n, set_n, clr_n, also_n, List.length_replicate, List.length_set, List.length_map, List.length_append, List.length_take, List.length_drop, List.length_cons, List.length_nil]; first | done | omega) | (with_reducible decide)) only [go_sem, Int.reduceEq, Int.reduceNe, Int.reduceLT, Int.reduceLE, Nat.reduceEqDiff, Int.reduceToNat, Nat.reduceSub, Nat.reduceAdd, Nat.reduceMul, Nat.reduceLT, Nat.reduceLeDiff, Int.reduceNeg, Int.reduceAdd, Int.reduceSub, Int.reduceMul, UInt8.reduceToNat, e1, e2, hsq]))
  exact ⟨by simp [szK, szN], Grew.push _ _⟩
theorem data_spec (H : AH) (a b c add : UInt8) (v w : AV) (xs : List UInt8) (hv : IsBytes H v xs) (hxl : xs.length ≤ 140737488351232) :
    ASpec Try.prog 20 [.agg [bv a, bv b, bv c, v, w], bv add] H fun r H' => ∃ B ws X, r = .slice ⟨false, B, 0⟩ (szK a) (.grow 1) ∧ NewRows H H' B ws X ∧ X.length = szK a ∧ (∀ i, i < X.length → (X.getD i []).length = c.toNat % 20) := by
  have hc20 := Nat.mod_lt c.toNat (show 20 > 0 by decide)
  have hK : 1 ≤ szK a ∧ szK a ≤ 12 := by have := Nat.mod_lt a.toNat (show 12 > 0 by decide); unfold szK; omega
  have hlen := hv.length (P := Try.prog) Try.underlying40
  have e1 : (c.toNat : Int) % 20 = ((c.toNat % 20 : Nat) : Int) := by simp
  generalize c.toNat % 20 = W at hc20 e1 ⊢
  have hsz := fun H' => sizes_spec H' a b c v w
  generalize szN a b = M at hsz
  generalize szK a = K at hK hsz ⊢
  refine aspec_fn (rs := [.tmp 4]) (n := 73) Try.func20 rfl rfl rfl rfl (by kernel_rfl) (Nat.le_of_ble_eq_true rfl) ?_
  (try simp (maxSteps := 4000000) (disch := first | omega | (simp only [push_n, set_n, clr_n, also_n, List.length_replicate, List.length_set, List.length_map, List.length_append, List.length_take, List.length_drop, List.length_cons, List.length_nil]; first | done | omega) | (with_reducible decide)) only [go_sem, Int.reduceEq, Int.reduceNe, Int.reduceLT, Int.reduceLE, Nat.reduceEqDiff, Int.reduceToNat, Nat.reduceSub, Nat.reduceAdd, Nat.reduceMul, Nat.reduceLT, Nat.reduceLeDiff, Int.reduceNeg, Int.reduceAdd, Int.reduceSub, Int.reduceMul, UInt8.reduceToNat]; repeat first | ((first | with_reducible refine split2_pk (by omega) ?_ | with_reducible refine split2_nk (by omega) ?_); intro hsq; try simp (maxSteps := 4000000) (disch := first | omega | (simp only [push_n, set_n, clr_n, also_n, List.length_replicate, List.length_set, List.length_map, List.length_append, List.length_take, List.length_drop, List.length_cons, List.length_nil]; first | done | omega) | (with_reducible decide)) only [go_sem, Int.reduceEq, Int.reduceNe, Int.reduceLT, Int.reduceLE, Nat.reduceEqDiff, Int.reduceToNat, Nat.reduceSub, Nat.reduceAdd, Nat.reduceMul, Nat.reduceLT, Nat.reduceLeDiff, Int.reduceNeg, Int.reduceAdd, Int.reduceSub, Int.reduceMul, UInt8.reduceToNat, hsq]))
  have g0 : Grew H (H.push (some (.cells [bv a, bv b, bv c, v, w]))) := Grew.push _ _
  have hb0 : (H.push (some (.cells [bv a, bv b, bv c, v, w]))).cells? H.n = some [bv a, bv b, bv c, v, w] := push_cells _ _
  generalize (H.push (some (.cells [bv a, bv b, bv c, v, w]))) = H0 at g0 hb0 ⊢
  (try simp (maxSteps := 4000000) (disch := first | omega | (simp only [push_n, set_n, clr_n, also_n, List.length_replicate, List.length_set, List.length_map, List.length_append, List.length_take, List.length_drop, List.length_cons, List.length_nil]; first | done | omega) | (with_reducible decide)) only [go_sem, Int.reduceEq, Int.reduceNe, Int.reduceLT, Int.reduceLE, Nat.reduceEqDiff, Int.reduceToNat, Nat.reduceSub, Nat.reduceAdd, Nat.reduceMul, Nat.reduceLT, Nat.reduceLeDiff, Int.reduceNeg, Int.reduceAdd, Int.reduceSub, Int.reduceMul, UInt8.reduceToNat, hb0]; repeat first | ((first | with_reducible refine split2_pk (by omega) ?_ | with_reducible refine split2_nk (by omega) ?_); intro hsq; try simp (maxSteps := 4000000) (disch := first | omega | (simp only [push_n, set_n, clr_n, also_n, List.length_replicate, List.length_set, List.length_map, List.length_append, List.length_take, List.length_drop, List.length_cons, List.length_nil]; first | done | omega) | (with_reducible decide)) only [go_sem, Int.reduceEq, Int.reduceNe, Int.reduceLT, Int.reduceLE, Nat.reduceEqDiff, Int.reduceToNat, Nat.reduceSub, Nat.reduceAdd, Nat.reduceMul, Nat.reduceLT, Nat.reduceLeDiff, Int.reduceNeg, Int.reduceAdd, Int.reduceSub, Int.reduceMul, UInt8.reduceToNat, hb0, hsq]))
  refine (hsz H0).mono ?_
  rintro r H1 ⟨rfl, g1⟩
  have hb1 := g1.cells_some hb0
  (try simp (maxSteps := 4000000) (disch := first | omega | (simp only [push_n, set_n, clr_n, also_n, List.length_replicate, List.length_set, List.length_map, List.length_append, List.length_take, List.length_drop, List.length_cons, List.length_nil]; first | done | omega) | (with_reducible decide)) only [go_sem, Int.reduceEq, Int.reduceNe, Int.reduceLT, Int.reduceLE, Nat.reduceEqDiff, Int.reduceToNat, Nat.reduceSub, Nat.reduceAdd, Nat.reduceMul, Nat.reduceLT, Nat.reduceLeDiff, Int.reduceNeg, Int.reduceAdd, Int.reduceSub, Int.reduceMul, UInt8.reduceToNat, hb1, e1]; repeat first | ((first | with_reducible refine split2_pk (by omega) ?_ | with_reducible refine split2_nk (by omega) ?_); intro hsq; try simp (maxSteps := 4000000) (disch := first | omega | (simp only [push_n, set_n, clr_n, also_n, List.length_replicate, List.length_set, List.length_map, List.length_append, List.length_take, List.length_drop, List.length_cons, List.length_nil]; first | done | omega) | (with_reducible decide)) only [go_sem, Int.reduceEq, Int.reduceNe, Int.reduceLT, Int.reduceLE, Nat.reduceEqDiff, Int.reduceToNat, Nat.reduceSub, Nat.reduceAdd, Nat.reduceMul, Nat.reduceLT, Nat.reduceLeDiff, Int.reduceNeg, Int.reduceAdd, Int.reduceSub, Int.reduceMul, UInt8.reduceToNat, hb1, e1, hsq]))
  have g1 := g0.trans g1
  have hv := hv.grew g1
  clear g0 hb0 hsz
  refine wp_loopS (σ := Nat × AV × AVL × Rows8) (by kernel_rfl) (fun (i, mv, ws, X) => [(2, .ptr ⟨false, H.n, 0⟩), (1, bv add), (5, .int .i64 (K : Nat)), (7, .int .i64 (W : Nat)), (8, mv), (21, .int .i64 (K : Nat)), (22, .int .i64 (i : Nat))]) (fun (i, mv, ws, X) H' => i ≤ K ∧ X.length = i ∧ (∀ j, j < i → (X.getD j []).length = W) ∧ AccOwn H1 H' mv ws X) (fun (i, mv, ws, X) => K - i) (0, .nilslice, [], []) (by simp (maxSteps := 4000000) (disch := first | omega | (simp only [push_n, set_n, clr_n, also_n, List.length_replicate, List.length_set, List.length_map, List.length_append, List.length_take, List.length_drop, List.length_cons, List.length_nil]; first | done | omega) | (with_reducible decide)) only [go_sem, Int.reduceEq, Int.reduceNe, Int.reduceLT, Int.reduceLE, Nat.reduceEqDiff, Int.reduceToNat, Nat.reduceSub, Nat.reduceAdd, Nat.reduceMul, Nat.reduceLT, Nat.reduceLeDiff, Int.reduceNeg, Int.reduceAdd, Int.reduceSub, Int.reduceMul, UInt8.reduceToNat]) ?_ ?_
  · exact ⟨by omega, rfl, fun j hj => by omega, AccOwn.nil (Grew.refl _)⟩
  rintro ⟨i, mv, ws, X⟩ H2 ⟨hi, hXl, hXr, hacc⟩
  have hXl : X.length = i := hXl
  by_cases hik : i < K
  · have hb2 := hacc.acc.acc.g.cells_some hb1
    have hv2 := hv.grew hacc.acc.acc.g
    (try simp (maxSteps := 4000000) (disch := first | omega | (simp only [push_n, set_n, clr_n, also_n, List.length_replicate, List.length_set, List.length_map, List.length_append, List.length_take, List.length_drop, List.length_cons, List.length_nil]; first | done | omega) | (with_reducible decide)) only [go_sem, Int.reduceEq, Int.reduceNe, Int.reduceLT, Int.reduceLE, Nat.reduceEqDiff, Int.reduceToNat, Nat.reduceSub, Nat.reduceAdd, Nat.reduceMul, Nat.reduceLT, Nat.reduceLeDiff, Int.reduceNeg, Int.reduceAdd, Int.reduceSub, Int.reduceMul, UInt8.reduceToNat]; repeat first | ((first | with_reducible refine split2_pk (by omega) ?_ | with_reducible refine split2_nk (by omega) ?_); intro hsq; try simp (maxSteps := 4000000) (disch := first | omega | (simp only [push_n, set_n, clr_n, also_n, List.length_replicate, List.length_set, List.length_map, List.length_append, List.length_take, List.length_drop, List.length_cons, List.length_nil]; first | done | omega) | (with_reducible decide)) only [go_sem, Int.reduceEq, Int.reduceNe, Int.reduceLT, Int.reduceLE, Nat.reduceEqDiff, Int.reduceToNat, Nat.reduceSub, Nat.reduceAdd, Nat.reduceMul, Nat.reduceLT, Nat.reduceLeDiff, Int.reduceNeg, Int.reduceAdd, Int.reduceSub, Int.reduceMul, UInt8.reduceToNat, hsq]))
    have hz := zeros_new H2 W
    have gz : Grew H2 (H2.push (some (.cells (List.replicate W (.int .u8 0))))) := Grew.push _ _
    generalize (H2.push (some (.cells (List.replicate W (.int .u8 0))))) = H3 at hz gz ⊢
    refine wp_loopS (σ := Nat × U8s) (by kernel_rfl) (fun (j, ys) => [(2, .ptr ⟨false, H.n, 0⟩), (1, bv add), (5, .int .i64 (K : Nat)), (7, .int .i64 (W : Nat)), (8, mv), (9, .int .i64 (i : Nat)), (10, .slice ⟨false, H2.n, 0⟩ W (.known W)), (21, .int .i64 (K : Nat)), (22, .int .i64 (i : Nat)), (26, .slice ⟨false, H2.n, 0⟩ W (.known W)), (28, .int .i64 (W : Nat)), (29, .int .i64 (j : Nat))]) (fun (j, ys) H' => j ≤ W ∧ ys.length = W ∧ IsBytes H' (.slice ⟨false, H2.n, 0⟩ W (.known W)) ys ∧ Chg [H2.n] H3 H') (fun (j, ys) => W - j) (0, List.replicate W 0) (by simp (maxSteps := 4000000) (disch := first | omega | (simp only [push_n, set_n, clr_n, also_n, List.length_replicate, List.length_set, List.length_map, List.length_append, List.length_take, List.length_drop, List.length_cons, List.length_nil]; first | done | omega) | (with_reducible decide)) only [go_sem, Int.reduceEq, Int.reduceNe, Int.reduceLT, Int.reduceLE, Nat.reduceEqDiff, Int.reduceToNat, Nat.reduceSub, Nat.reduceAdd, Nat.reduceMul, Nat.reduceLT, Nat.reduceLeDiff, Int.reduceNeg, Int.reduceAdd, Int.reduceSub, Int.reduceMul, UInt8.reduceToNat]) ?_ ?_
    · exact ⟨by omega, by simp, hz, Chg.refl _ _⟩
    rintro ⟨j, ys⟩ H4 ⟨hj, hyl, hy, hch⟩
    have hyl : ys.length = W := hyl
    have hy : IsBytes H4 (.slice ⟨false, H2.n, 0⟩ W (.known W)) ys := hy
    have g4 : Grew H2 H4 := ((gz.chg [H2.n]).trans hch).grew (by simp)
    by_cases hjw : j < W
    · have hb4 := g4.cells_some hb2
      have hv4 := hv2.grew g4
      obtain ⟨x0, hx0⟩ := wrap_byte ((i : Int) * 31 + (j : Int) * 7)
      obtain ⟨x1, hx1⟩ := wrap_byte ((x0.toNat : Int) + (add.toNat : Int))
      have hixo := hy.ixS (P := Try.prog) (t := 40) Try.underlying40 sz5 (k := .i64) (i := j) (by omega)
      obtain ⟨l0, c1, c2, c3, c4⟩ := hy.cell (i := j) (by omega)
      rw [Nat.zero_add] at hixo c2 c3 c4
      have hne : H.n ≠ H2.n := by have := cells_lt hb2; omega
      have hb5 : ∀ l, (H4.set H2.n (some (.cells l))).cells? H.n = some [bv a, bv b, bv c, v, w] := fun l => by rw [set_cells_ne (by omega)]; exact hb4
      by_cases hl0 : xs.length = 0
      · (try simp (maxSteps := 4000000) (disch := first | omega | (simp only [push_n, set_n, clr_n, also_n, List.length_replicate, List.length_set, List.length_map, List.length_append, List.length_take, List.length_drop, List.length_cons, List.length_nil]; first | done | omega) | (with_reducible decide)) only [go_sem, Int.reduceEq, Int.reduceNe, Int.reduceLT, Int.reduceLE, Nat.reduceEqDiff, Int.reduceToNat, Nat.reduceSub, Nat.reduceAdd, Nat.reduceMul, Nat.reduceLT, Nat.reduceLeDiff, Int.reduceNeg, Int.reduceAdd, Int.reduceSub, Int.reduceMul, UInt8.reduceToNat, hx0, hx1, hixo, c1, hb5, hlen, hl0]; repeat first | ((first | with_reducible refine split2_pk (by omega) ?_ | with_reducible refine split2_nk (by omega) ?_); intro hsq; try simp (maxSteps := 4000000) (disch := first | omega | (simp only [push_n, set_n, clr_n, also_n, List.length_replicate, List.length_set, List.length_map, List.length_append, List.length_take, List.length_drop, List.length_cons, List.length_nil]; first | done | omega) | (with_reducible decide)) only [go_sem, Int.reduceEq, Int.reduceNe, Int.reduceLT, Int.reduceLE, Nat.reduceEqDiff, Int.reduceToNat, Nat.reduceSub, Nat.reduceAdd, Nat.reduceMul, Nat.reduceLT, Nat.reduceLeDiff, Int.reduceNeg, Int.reduceAdd, Int.reduceSub, Int.reduceMul, UInt8.reduceToNat, hx0, hx1, hixo, c1, hb5, hlen, hl0, hsq]))
        (refine ⟨(j + 1, ys.set j x1), ?_⟩; and_intros; all_goals (try first | rfl | assumption | omega))
        · simp [hyl]
        · exact c4 _
        · exact hch.thenSet _ (.inl (by simp))
      · (try simp (maxSteps := 4000000) (disch := first | omega | (simp only [push_n, set_n, clr_n, also_n, List.length_replicate, List.length_set, List.length_map, List.length_append, List.length_take, List.length_drop, List.length_cons, List.length_nil]; first | done | omega) | (with_reducible decide)) only [go_sem, Int.reduceEq, Int.reduceNe, Int.reduceLT, Int.reduceLE, Nat.reduceEqDiff, Int.reduceToNat, Nat.reduceSub, Nat.reduceAdd, Nat.reduceMul, Nat.reduceLT, Nat.reduceLeDiff, Int.reduceNeg, Int.reduceAdd, Int.reduceSub, Int.reduceMul, UInt8.reduceToNat, hx0, hx1, hixo, c1, hb5, hlen, hl0]; repeat first | ((first | with_reducible refine split2_pk (by omega) ?_ | with_reducible refine split2_nk (by omega) ?_); intro hsq; try simp (maxSteps := 4000000) (disch := first | omega | (simp only [push_n, set_n, clr_n, also_n, List.length_replicate, List.length_set, List.length_map, List.length_append, List.length_take, List.length_drop, List.length_cons, List.length_nil]; first | done | omega) | (with_reducible decide)) only [go_sem, Int.reduceEq, Int.reduceNe, Int.reduceLT, Int.reduceLE, Nat.reduceEqDiff, Int.reduceToNat, Nat.reduceSub, Nat.reduceAdd, Nat.reduceMul, Nat.reduceLT, Nat.reduceLeDiff, Int.reduceNeg, Int.reduceAdd, Int.reduceSub, Int.reduceMul, UInt8.reduceToNat, hx0, hx1, hixo, c1, hb5, hlen, hl0, hsq]))
        have hy5 := c4 x1
        have ch5 : Chg [H2.n] H3 (H4.set H2.n (some (.cells (l0.set j (bv x1))))) := hch.thenSet _ (.inl (by simp))
        have hb5 := hb5 (l0.set j (bv x1))
        generalize (H4.set H2.n (some (.cells (l0.set j (bv x1))))) = H5 at hy5 ch5 hb5 ⊢
        have hv5 := hv2.grew (((gz.chg [H2.n]).trans ch5).grew (by simp))
        clear hixo c1 c2 c3 c4
        have hzl : (ys.set j x1).length = W := by simp [hyl]
        generalize ys.set j x1 = zs at hy5 hzl
        have hixo := hy5.ixS (P := Try.prog) (t := 40) Try.underlying40 sz5 (k := .i64) (i := j) (by omega)
        obtain ⟨l5, c1, c2, c3, c4⟩ := hy5.cell (i := j) (by omega)
        rw [Nat.zero_add] at hixo c2 c3 c4
        have hpb : i * W ≤ 12 * 20 := Nat.mul_le_mul (by omega) (by omega)
        obtain ⟨p, hp⟩ : ∃ p, i * W = p := ⟨_, rfl⟩
        rw [hp] at hpb
        have e2 : (i : Int) * (W : Int) = (p : Nat) := by rw [← hp]; simp
        have hmod : (p + j) % xs.length < xs.length := Nat.mod_lt _ (by omega)
        obtain ⟨q, hq⟩ : ∃ q, (p + j) % xs.length = q := ⟨_, rfl⟩
        have e3 : ((p : Int) + (j : Int)).tmod (xs.length : Int) = ((q : Nat) : Int) := by rw [Int.tmod_eq_emod_of_nonneg (by omega), ← hq]; simp
        have e4 : ((p : Int) + (j : Int)) % (xs.length : Int) = ((q : Nat) : Int) := by rw [← hq]; simp
        rw [hq] at hmod
        have hix := hv5.ix (P := Try.prog) Try.underlying40 sz5 (k := .i64) (i := (q : Int)) (by omega) (by omega)
        have hld := hv5.ld (i := q) (by omega)
        obtain ⟨x2, hx2⟩ := wrap_byte (((zs.getD j 0).toNat : Int) + ((xs.getD q 0).toNat : Int))
        (refine awp_drawP (hl := []) [eqM H5,  fun _ => True] [(0, some 0), (1, some 0), (2, some 0), (3, some 0), (4, some 0), (5, some 0), (6, some 0), (7, some 0), (8, some 0), (9, some 0), (10, some 0), (11, some 0), (12, some 0), (13, some 0), (14, some 0), (15, some 0), (16, some 0), (17, some 0), (18, some 0), (19, none)] [19] (by kernel_rfl) (by rfl) (by decide +kernel) (rofP_0 ?_) ?_; rotate_left; (conv => arg 5; simp only [List.map_cons, List.map_nil, List.getElem?_toArray, List.getElem?_cons_zero, List.getElem?_cons_succ]); rotate_left)
        · rfl
        (try simp (maxSteps := 4000000) (disch := first | omega | (simp only [push_n, set_n, clr_n, also_n, List.length_replicate, List.length_set, List.length_map, List.length_append, List.length_take, List.length_drop, List.length_cons, List.length_nil]; first | done | omega) | (with_reducible decide)) only [go_sem, Int.reduceEq, Int.reduceNe, Int.reduceLT, Int.reduceLE, Nat.reduceEqDiff, Int.reduceToNat, Nat.reduceSub, Nat.reduceAdd, Nat.reduceMul, Nat.reduceLT, Nat.reduceLeDiff, Int.reduceNeg, Int.reduceAdd, Int.reduceSub, Int.reduceMul, UInt8.reduceToNat, hixo, c1, c3, hb5, hlen, e2, e3, e4, hix, hld, hx2]; repeat first | ((first | with_reducible refine split2_pk (by omega) ?_ | with_reducible refine split2_nk (by omega) ?_); intro hsq; try simp (maxSteps := 4000000) (disch := first | omega | (simp only [push_n, set_n, clr_n, also_n, List.length_replicate, List.length_set, List.length_map, List.length_append, List.length_take, List.length_drop, List.length_cons, List.length_nil]; first | done | omega) | (with_reducible decide)) only [go_sem, Int.reduceEq, Int.reduceNe, Int.reduceLT, Int.reduceLE, Nat.reduceEqDiff, Int.reduceToNat, Nat.reduceSub, Nat.reduceAdd, Nat.reduceMul, Nat.reduceLT, Nat.reduceLeDiff, Int.reduceNeg, Int.reduceAdd, Int.reduceSub, Int.reduceMul, UInt8.reduceToNat, hixo, c1, c3, hb5, hlen, e2, e3, e4, hix, hld, hx2, hsq]))
        (refine ⟨(j + 1, zs.set j x2), ?_⟩; and_intros; all_goals (try first | rfl | assumption | omega))
        · simp [hzl]
        · exact c4 _
        · exact ch5.thenSet _ (.inl (by simp))
    · obtain rfl : j = W := by omega
      have hw0 : IsBytes H4 (.slice ⟨false, H2.n, 0⟩ ys.length (.known ys.length)) ys := by rw [hyl]; exact hy
      obtain ⟨H5, a1, a2⟩ := accOwn_add hacc g4 (Nat.le_refl _) hw0 (by omega)
      rw [hXl, hyl] at a1 a2
      (try simp (maxSteps := 4000000) (disch := first | omega | (simp only [push_n, set_n, clr_n, also_n, List.length_replicate, List.length_set, List.length_map, List.length_append, List.length_take, List.length_drop, List.length_cons, List.length_nil]; first | done | omega) | (with_reducible decide)) only [go_sem, Int.reduceEq, Int.reduceNe, Int.reduceLT, Int.reduceLE, Nat.reduceEqDiff, Int.reduceToNat, Nat.reduceSub, Nat.reduceAdd, Nat.reduceMul, Nat.reduceLT, Nat.reduceLeDiff, Int.reduceNeg, Int.reduceAdd, Int.reduceSub, Int.reduceMul, UInt8.reduceToNat, a1]; repeat first | ((first | with_reducible refine split2_pk (by omega) ?_ | with_reducible refine split2_nk (by omega) ?_); intro hsq; try simp (maxSteps := 4000000) (disch := first | omega | (simp only [push_n, set_n, clr_n, also_n, List.length_replicate, List.length_set, List.length_map, List.length_append, List.length_take, List.length_drop, List.length_cons, List.length_nil]; first | done | omega) | (with_reducible decide)) only [go_sem, Int.reduceEq, Int.reduceNe, Int.reduceLT, Int.reduceLE, Nat.reduceEqDiff, Int.reduceToNat, Nat.reduceSub, Nat.reduceAdd, Nat.reduceMul, Nat.reduceLT, Nat.reduceLeDiff, Int.reduceNeg, Int.reduceAdd, Int.reduceSub, Int.reduceMul, UInt8.reduceToNat, a1, hsq]))
      (refine ⟨(i + 1, .slice ⟨false, H4.n + 1, 0⟩ (i + 1) (.grow 1), ws ++ [.slice ⟨false, H2.n, 0⟩ j (.known j)], X ++ [ys]), ?_⟩; and_intros; all_goals (try first | rfl | assumption | omega))
      · simp [hXl]
      · intro q hq
        have hq : q < i + 1 := hq
        show ((X ++ [ys]).getD q []).length = j
        by_cases e : q < i
        · rw [← hXr q e]; simp [List.getD, List.getElem?_append_left (show q < X.length by omega)]
        · obtain rfl : q = i := by omega
          simp [List.getD, ← hXl, hyl]
  · obtain rfl : i = K := by omega
    obtain ⟨B, rfl, hB, ho, hnew⟩ := hacc.own_rows (by omega)
    (try simp (maxSteps := 4000000) (disch := first | omega | (simp only [push_n, set_n, clr_n, also_n, List.length_replicate, List.length_set, List.length_map, List.length_append, List.length_take, List.length_drop, List.length_cons, List.length_nil]; first | done | omega) | (with_reducible decide)) only [go_sem, Int.reduceEq, Int.reduceNe, Int.reduceLT, Int.reduceLE, Nat.reduceEqDiff, Int.reduceToNat, Nat.reduceSub, Nat.reduceAdd, Nat.reduceMul, Nat.reduceLT, Nat.reduceLeDiff, Int.reduceNeg, Int.reduceAdd, Int.reduceSub, Int.reduceMul, UInt8.reduceToNat]; repeat first | ((first | with_reducible refine split2_pk (by omega) ?_ | with_reducible refine split2_nk (by omega) ?_); intro hsq; try simp (maxSteps := 4000000) (disch := first | omega | (simp only [push_n, set_n, clr_n, also_n, List.length_replicate, List.length_set, List.length_map, List.length_append, List.length_take, List.length_drop, List.length_cons, List.length_nil]; first | done | omega) | (with_reducible decide)) only [go_sem, Int.reduceEq, Int.reduceNe, Int.reduceLT, Int.reduceLE, Nat.reduceEqDiff, Int.reduceToNat, Nat.reduceSub, Nat.reduceAdd, Nat.reduceMul, Nat.reduceLT, Nat.reduceLeDiff, Int.reduceNeg, Int.reduceAdd, Int.reduceSub, Int.reduceMul, UInt8.reduceToNat, hsq]))
    exact ⟨B, ws, X, by rw [hXl], ⟨ho, g1.trans hacc.acc.acc.g, fun q hq => Nat.le_trans g1.n (hnew q hq)⟩, hXl, fun q hq => hXr q (by omega)⟩
end Go.Proofs.Ytbpojmneffngoaa
