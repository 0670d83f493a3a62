import Derived.Test.YtbpojmneffngoaaE3z
namespace Go.Proofs.Ytbpojmneffngoaa
open Go Go.Abs Go.Abs.GF
set_option linter.unusedVariables false
set_option linter.unusedSimpArgs false
set_option maxHeartbeats 4000000
attribute [local irreducible] ASpec AWp WP AOps DOps
theorem part_set {xs zs : List UInt8} {t : Nat} {x y : UInt8} : ((zs.take t ++ xs.drop t).set t x).set t y = (zs.take t ++ xs.drop t).set t y := by rw [List.set_set]
theorem times_spec (H0 : AH) (v : AV) (vs : List AV) (A : Rows8) (w : AV) (us : List AV) (l : Rows8) (W : Nat) (hA0 : IsRows H0 v vs A) (hl0 : IsRows H0 w us l) (h1 : 1 ≤ l.length) (h2 : l.length ≤ 255) (h3 : A.length ≤ 255) (hAr : ∀ i, i < A.length → (A.getD i []).length = l.length) (hW : ∀ i, i < l.length → (l.getD i []).length = W) (hWl : W ≤ 140737488351232) :
    ASpec Try.prog 35 [v, w] H0 fun r H' => ∃ ws, AccOwn H0 H' r ws (mulRows A l) := by
  have hW0 : (l.getD 0 []).length = W := hW 0 (by omega)
  have hla := hA0.row.lenA (P := Try.prog) Try.underlying24
  have hll := hl0.row.lenA (P := Try.prog) Try.underlying24
  refine aspec_fn (rs := [.tmp 4]) (n := 61) Try.func35 rfl rfl rfl rfl (by kernel_rfl) (Nat.le_of_ble_eq_true rfl) ?_
  · (try simp (maxSteps := 4000000) (disch := first | omega | (simp only [push_n, set_n, clr_n, also_n, List.length_replicate, List.length_set, List.length_map, List.length_append, List.length_take, List.length_drop, List.length_cons, List.length_nil]; first | done | omega) | (with_reducible decide)) only [go_sem, Int.reduceEq, Int.reduceNe, Int.reduceLT, Int.reduceLE, Nat.reduceEqDiff, Int.reduceToNat, Nat.reduceSub, Nat.reduceAdd, Nat.reduceMul, Nat.reduceLT, Nat.reduceLeDiff, Int.reduceNeg, Int.reduceAdd, Int.reduceSub, Int.reduceMul, UInt8.reduceToNat]; repeat first | ((first | with_reducible refine split2_pk (by omega) ?_ | with_reducible refine split2_nk (by omega) ?_); intro hsq; try simp (maxSteps := 4000000) (disch := first | omega | (simp only [push_n, set_n, clr_n, also_n, List.length_replicate, List.length_set, List.length_map, List.length_append, List.length_take, List.length_drop, List.length_cons, List.length_nil]; first | done | omega) | (with_reducible decide)) only [go_sem, Int.reduceEq, Int.reduceNe, Int.reduceLT, Int.reduceLE, Nat.reduceEqDiff, Int.reduceToNat, Nat.reduceSub, Nat.reduceAdd, Nat.reduceMul, Nat.reduceLT, Nat.reduceLeDiff, Int.reduceNeg, Int.reduceAdd, Int.reduceSub, Int.reduceMul, UInt8.reduceToNat, hsq]))
    refine wp_loopS (σ := Nat × AV × AVL) (by kernel_rfl) (fun (i, mv, ws) => [(0, v), (1, w), (5, mv), (6, .int .i64 (i : Nat))]) (fun (i, mv, ws) H' => i ≤ A.length ∧ AccOwn H0 H' mv ws ((mulRows A l).take i)) (fun (i, mv, ws) => A.length - i) (0, .nilslice, []) (by simp (maxSteps := 4000000) (disch := first | omega | (simp only [push_n, set_n, clr_n, also_n, List.length_replicate, List.length_set, List.length_map, List.length_append, List.length_take, List.length_drop, List.length_cons, List.length_nil]; first | done | omega) | (with_reducible decide)) only [go_sem, Int.reduceEq, Int.reduceNe, Int.reduceLT, Int.reduceLE, Nat.reduceEqDiff, Int.reduceToNat, Nat.reduceSub, Nat.reduceAdd, Nat.reduceMul, Nat.reduceLT, Nat.reduceLeDiff, Int.reduceNeg, Int.reduceAdd, Int.reduceSub, Int.reduceMul, UInt8.reduceToNat]) ?_ ?_
    · exact ⟨by omega, AccOwn.nil (Grew.refl _)⟩
    rintro ⟨i, mv, ws⟩ H1 ⟨hi, hacc⟩
    have htl : ((mulRows A l).take i).length = i := by simp [mulRows_len]; omega
    by_cases hil : i < A.length
    · have hg := hacc.acc.acc.g
      have hl1 := hl0.grew hg
      have hix0 := hl1.ix (P := Try.prog) Try.underlying24 sz40 (k := .i64) (i := 0) (by omega) (by omega)
      have hld0 := hl1.ld (i := 0) (by omega)
      have hlb0 := (hl1.each 0 (by omega)).length (P := Try.prog) Try.underlying40
      have hz := zeros_new H1 W
      have gz : Grew H1 (H1.push (some (.cells (List.replicate W (.int .u8 0))))) := Grew.push _ _
      have nz := push_n H1 (some (.cells (List.replicate W (.int .u8 0))))
      (try simp (maxSteps := 4000000) (disch := first | omega | (simp only [push_n, set_n, clr_n, also_n, List.length_replicate, List.length_set, List.length_map, List.length_append, List.length_take, List.length_drop, List.length_cons, List.length_nil]; first | done | omega) | (with_reducible decide)) only [go_sem, Int.reduceEq, Int.reduceNe, Int.reduceLT, Int.reduceLE, Nat.reduceEqDiff, Int.reduceToNat, Nat.reduceSub, Nat.reduceAdd, Nat.reduceMul, Nat.reduceLT, Nat.reduceLeDiff, Int.reduceNeg, Int.reduceAdd, Int.reduceSub, Int.reduceMul, UInt8.reduceToNat, hla, hll, hix0, hld0, hlb0, hW0]; repeat first | ((first | with_reducible refine split2_pk (by omega) ?_ | with_reducible refine split2_nk (by omega) ?_); intro hsq; try simp (maxSteps := 4000000) (disch := first | omega | (simp only [push_n, set_n, clr_n, also_n, List.length_replicate, List.length_set, List.length_map, List.length_append, List.length_take, List.length_drop, List.length_cons, List.length_nil]; first | done | omega) | (with_reducible decide)) only [go_sem, Int.reduceEq, Int.reduceNe, Int.reduceLT, Int.reduceLE, Nat.reduceEqDiff, Int.reduceToNat, Nat.reduceSub, Nat.reduceAdd, Nat.reduceMul, Nat.reduceLT, Nat.reduceLeDiff, Int.reduceNeg, Int.reduceAdd, Int.reduceSub, Int.reduceMul, UInt8.reduceToNat, hla, hll, hix0, hld0, hlb0, hW0, hsq]))
      generalize (H1.push (some (.cells (List.replicate W (.int .u8 0))))) = H2 at hz gz nz ⊢
      have hml : ((mulRows A l).getD i []).length = W := by rw [← combRow_all hil, combRow_len, hW0]
      refine wp_loopS (σ := Nat) (by kernel_rfl) (fun t => [(0, v), (1, w), (5, mv), (6, .int .i64 (i : Nat)), (7, .slice ⟨false, H1.n, 0⟩ W (.known W)), (8, .int .i64 (t : Nat))]) (fun t H' => t ≤ W ∧ IsBytes H' (.slice ⟨false, H1.n, 0⟩ W (.known W)) (((mulRows A l).getD i []).take t ++ (List.replicate W 0).drop t) ∧ Chg [H1.n] H2 H') (fun t => W - t) (0) (by simp (maxSteps := 4000000) (disch := first | omega | (simp only [push_n, set_n, clr_n, also_n, List.length_replicate, List.length_set, List.length_map, List.length_append, List.length_take, List.length_drop, List.length_cons, List.length_nil]; first | done | omega) | (with_reducible decide)) only [go_sem, Int.reduceEq, Int.reduceNe, Int.reduceLT, Int.reduceLE, Nat.reduceEqDiff, Int.reduceToNat, Nat.reduceSub, Nat.reduceAdd, Nat.reduceMul, Nat.reduceLT, Nat.reduceLeDiff, Int.reduceNeg, Int.reduceAdd, Int.reduceSub, Int.reduceMul, UInt8.reduceToNat]) ?_ ?_
      · exact ⟨by omega, by simpa using hz, Chg.refl _ _⟩
      rintro t H3 ⟨ht, hrow, hch⟩
      by_cases htW : t < W
      · have hm2 := mix_len ((mulRows A l).getD i []) (List.replicate W (0 : UInt8)) (i := t) (by rw [List.length_replicate]; omega)
        rw [List.length_replicate] at hm2
        (try simp (maxSteps := 4000000) (disch := first | omega | (simp only [push_n, set_n, clr_n, also_n, List.length_replicate, List.length_set, List.length_map, List.length_append, List.length_take, List.length_drop, List.length_cons, List.length_nil]; first | done | omega) | (with_reducible decide)) only [go_sem, Int.reduceEq, Int.reduceNe, Int.reduceLT, Int.reduceLE, Nat.reduceEqDiff, Int.reduceToNat, Nat.reduceSub, Nat.reduceAdd, Nat.reduceMul, Nat.reduceLT, Nat.reduceLeDiff, Int.reduceNeg, Int.reduceAdd, Int.reduceSub, Int.reduceMul, UInt8.reduceToNat]; repeat first | ((first | with_reducible refine split2_pk (by omega) ?_ | with_reducible refine split2_nk (by omega) ?_); intro hsq; try simp (maxSteps := 4000000) (disch := first | omega | (simp only [push_n, set_n, clr_n, also_n, List.length_replicate, List.length_set, List.length_map, List.length_append, List.length_take, List.length_drop, List.length_cons, List.length_nil]; first | done | omega) | (with_reducible decide)) only [go_sem, Int.reduceEq, Int.reduceNe, Int.reduceLT, Int.reduceLE, Nat.reduceEqDiff, Int.reduceToNat, Nat.reduceSub, Nat.reduceAdd, Nat.reduceMul, Nat.reduceLT, Nat.reduceLeDiff, Int.reduceNeg, Int.reduceAdd, Int.reduceSub, Int.reduceMul, UInt8.reduceToNat, hsq]))
        refine wp_loopS (σ := Nat) (by kernel_rfl) (fun j => [(0, v), (1, w), (5, mv), (6, .int .i64 (i : Nat)), (7, .slice ⟨false, H1.n, 0⟩ W (.known W)), (8, .int .i64 (t : Nat)), (9, .int .i64 (j : Nat))]) (fun j H' => j ≤ l.length ∧ IsBytes H' (.slice ⟨false, H1.n, 0⟩ W (.known W)) ((((mulRows A l).getD i []).take t ++ (List.replicate W 0).drop t).set t (sx (fun u => gmul (ent A i u) (ent l u t)) j)) ∧ Chg [H1.n] H2 H') (fun j => l.length - j) (0) (by simp (maxSteps := 4000000) (disch := first | omega | (simp only [push_n, set_n, clr_n, also_n, List.length_replicate, List.length_set, List.length_map, List.length_append, List.length_take, List.length_drop, List.length_cons, List.length_nil]; first | done | omega) | (with_reducible decide)) only [go_sem, Int.reduceEq, Int.reduceNe, Int.reduceLT, Int.reduceLE, Nat.reduceEqDiff, Int.reduceToNat, Nat.reduceSub, Nat.reduceAdd, Nat.reduceMul, Nat.reduceLT, Nat.reduceLeDiff, Int.reduceNeg, Int.reduceAdd, Int.reduceSub, Int.reduceMul, UInt8.reduceToNat]) ?_ ?_
        · refine ⟨by omega, ?_, hch⟩
          have g0 : (((mulRows A l).getD i []).take t ++ (List.replicate W (0 : UInt8)).drop t).getD t 0 = 0 := by
            rw [mix_get _ _ _ (by omega)]
            simp [List.getD, htW]
          have hlt : t < (((mulRows A l).getD i []).take t ++ (List.replicate W (0 : UInt8)).drop t).length := by omega
          rw [List.getD_eq_getElem?_getD, List.getElem?_eq_getElem hlt, Option.getD_some] at g0
          have e4 := List.set_getElem_self hlt
          rw [g0] at e4
          rw [sx, e4]
          exact hrow
        rintro j H4 ⟨hj, hr4, hch4⟩
        have G4 : Grew H0 H4 := (((hg.trans gz).chg [H1.n]).trans hch4).grew (fun x hx => by have := List.mem_singleton.1 hx; have := hg.n; omega)
        by_cases hjl : j < l.length
        · have hA4 := hA0.grew G4
          have hl4 := hl0.grew G4
          have hixa := hA4.ix (P := Try.prog) Try.underlying24 sz40 (k := .i64) (i := (i : Int)) (by omega) (by omega)
          have hlda := hA4.ld hil
          have hra := hA4.each i hil
          have era := hAr i hil
          have hixt := hra.ix (P := Try.prog) Try.underlying40 sz5 (k := .i64) (i := (j : Int)) (by omega) (by omega)
          have hldt := hra.ld (i := j) (by omega)
          have hixc := hl4.ix (P := Try.prog) Try.underlying24 sz40 (k := .i64) (i := (j : Int)) (by omega) (by omega)
          have hldc := hl4.ld hjl
          have hrb := hl4.each j hjl
          have hbl := hW j hjl
          have hixj := hrb.ix (P := Try.prog) Try.underlying40 sz5 (k := .i64) (i := (t : Int)) (by omega) (by omega)
          have hldj := hrb.ld (i := t) (by omega)
          have v1 := hA4.row.live hil
          have v2 := hra.live (i := j) (by omega)
          have v3 := hl4.row.live hjl
          have v4 := hrb.live (i := t) (by omega)
          have hlen4 : ((((mulRows A l).getD i []).take t ++ (List.replicate W (0 : UInt8)).drop t).set t (sx (fun u => gmul (ent A i u) (ent l u t)) j)).length = W := by rw [List.length_set]; exact hm2
          have hixr := hr4.ixS (P := Try.prog) (t := 40) Try.underlying40 sz5 (k := .i64) (i := t) (by omega)
          obtain ⟨l0, d1, d2, d3, d4⟩ := hr4.cell (i := t) (by omega)
          rw [Nat.zero_add] at hixr d2 d3 d4
          rw [getD_set _ _ _ _ _ (by omega), if_pos rfl] at d3
          have d5 := d4 (sx (fun u => gmul (ent A i u) (ent l u t)) j ^^^ gmul (ent A i j) (ent l j t))
          rw [part_set] at d5
          have v5 := hr4.isSome
          (try simp (maxSteps := 4000000) (disch := first | omega | (simp only [push_n, set_n, clr_n, also_n, List.length_replicate, List.length_set, List.length_map, List.length_append, List.length_take, List.length_drop, List.length_cons, List.length_nil]; first | done | omega) | (with_reducible decide)) only [go_sem, Int.reduceEq, Int.reduceNe, Int.reduceLT, Int.reduceLE, Nat.reduceEqDiff, Int.reduceToNat, Nat.reduceSub, Nat.reduceAdd, Nat.reduceMul, Nat.reduceLT, Nat.reduceLeDiff, Int.reduceNeg, Int.reduceAdd, Int.reduceSub, Int.reduceMul, UInt8.reduceToNat, hla, hll]; repeat first | ((first | with_reducible refine split2_pk (by omega) ?_ | with_reducible refine split2_nk (by omega) ?_); intro hsq; try simp (maxSteps := 4000000) (disch := first | omega | (simp only [push_n, set_n, clr_n, also_n, List.length_replicate, List.length_set, List.length_map, List.length_append, List.length_take, List.length_drop, List.length_cons, List.length_nil]; first | done | omega) | (with_reducible decide)) only [go_sem, Int.reduceEq, Int.reduceNe, Int.reduceLT, Int.reduceLE, Nat.reduceEqDiff, Int.reduceToNat, Nat.reduceSub, Nat.reduceAdd, Nat.reduceMul, Nat.reduceLT, Nat.reduceLeDiff, Int.reduceNeg, Int.reduceAdd, Int.reduceSub, Int.reduceMul, UInt8.reduceToNat, hla, hll, hsq]))
          (refine awp_drawP (hl := []) [eqM H4,  eqM H4,  fun _ => True] [(0, some 1), (1, some 1), (2, some 1), (3, some 1), (4, some 1), (5, some 1), (6, some 0), (7, some 0), (8, some 0), (9, some 0), (10, some 0), (11, some 0), (12, some 0), (13, some 0), (14, some 0), (15, some 0), (16, some 0), (17, some 0), (18, some 0), (19, some 0), (20, none), (21, some 0), (22, some 0), (23, none)] [20, 23] (by kernel_rfl) (by rfl) (by decide +kernel) (rofP_0 ?_) ?_; rotate_left; (conv => arg 5; simp only [List.map_cons, List.map_nil, List.getElem?_toArray, List.getElem?_cons_zero, List.getElem?_cons_succ]); rotate_left)
          · rfl
          (try simp (maxSteps := 4000000) (disch := first | omega | (simp only [push_n, set_n, clr_n, also_n, List.length_replicate, List.length_set, List.length_map, List.length_append, List.length_take, List.length_drop, List.length_cons, List.length_nil]; first | done | omega) | (with_reducible decide)) only [go_sem, Int.reduceEq, Int.reduceNe, Int.reduceLT, Int.reduceLE, Nat.reduceEqDiff, Int.reduceToNat, Nat.reduceSub, Nat.reduceAdd, Nat.reduceMul, Nat.reduceLT, Nat.reduceLeDiff, Int.reduceNeg, Int.reduceAdd, Int.reduceSub, Int.reduceMul, UInt8.reduceToNat, hixa, hlda, hixt, hldt, hixc, hldc, hixj, hldj, hixr, d1, d3, v1, v2, v3, v4, v5, Bool.false_or, Option.isSome_some]; repeat first | ((first | refine ASpec.eq (rmul_spec _ _ _) ?_); try simp (maxSteps := 4000000) (disch := first | omega | (simp only [push_n, set_n, clr_n, also_n, List.length_replicate, List.length_set, List.length_map, List.length_append, List.length_take, List.length_drop, List.length_cons, List.length_nil]; first | done | omega) | (with_reducible decide)) only [go_sem, Int.reduceEq, Int.reduceNe, Int.reduceLT, Int.reduceLE, Nat.reduceEqDiff, Int.reduceToNat, Nat.reduceSub, Nat.reduceAdd, Nat.reduceMul, Nat.reduceLT, Nat.reduceLeDiff, Int.reduceNeg, Int.reduceAdd, Int.reduceSub, Int.reduceMul, UInt8.reduceToNat, hixa, hlda, hixt, hldt, hixc, hldc, hixj, hldj, hixr, d1, d3, v1, v2, v3, v4, v5, Bool.false_or, Option.isSome_some]) | ((first | with_reducible refine split2_pk (by omega) ?_ | with_reducible refine split2_nk (by omega) ?_); intro hsq; try simp (maxSteps := 4000000) (disch := first | omega | (simp only [push_n, set_n, clr_n, also_n, List.length_replicate, List.length_set, List.length_map, List.length_append, List.length_take, List.length_drop, List.length_cons, List.length_nil]; first | done | omega) | (with_reducible decide)) only [go_sem, Int.reduceEq, Int.reduceNe, Int.reduceLT, Int.reduceLE, Nat.reduceEqDiff, Int.reduceToNat, Nat.reduceSub, Nat.reduceAdd, Nat.reduceMul, Nat.reduceLT, Nat.reduceLeDiff, Int.reduceNeg, Int.reduceAdd, Int.reduceSub, Int.reduceMul, UInt8.reduceToNat, hixa, hlda, hixt, hldt, hixc, hldc, hixj, hldj, hixr, d1, d3, v1, v2, v3, v4, v5, Bool.false_or, Option.isSome_some, hsq]))
          (refine ⟨j + 1, ?_⟩; and_intros; all_goals (try first | rfl | assumption | omega))
          exact hch4.thenSet _ (.inl (by simp))
        · obtain rfl : j = l.length := by omega
          have hs := mix_step 0 ((mulRows A l).getD i []) (List.replicate W (0 : UInt8)) (i := t) (by omega) (by rw [List.length_replicate]; omega)
          have ex : sx (fun u => gmul (ent A i u) (ent l u t)) l.length = ((mulRows A l).getD i []).getD t 0 := by rw [← combRow_all hil, combRow_get (by omega)]
          rw [ex, hs] at hr4
          (try simp (maxSteps := 4000000) (disch := first | omega | (simp only [push_n, set_n, clr_n, also_n, List.length_replicate, List.length_set, List.length_map, List.length_append, List.length_take, List.length_drop, List.length_cons, List.length_nil]; first | done | omega) | (with_reducible decide)) only [go_sem, Int.reduceEq, Int.reduceNe, Int.reduceLT, Int.reduceLE, Nat.reduceEqDiff, Int.reduceToNat, Nat.reduceSub, Nat.reduceAdd, Nat.reduceMul, Nat.reduceLT, Nat.reduceLeDiff, Int.reduceNeg, Int.reduceAdd, Int.reduceSub, Int.reduceMul, UInt8.reduceToNat, hla, hll]; repeat first | ((first | with_reducible refine split2_pk (by omega) ?_ | with_reducible refine split2_nk (by omega) ?_); intro hsq; try simp (maxSteps := 4000000) (disch := first | omega | (simp only [push_n, set_n, clr_n, also_n, List.length_replicate, List.length_set, List.length_map, List.length_append, List.length_take, List.length_drop, List.length_cons, List.length_nil]; first | done | omega) | (with_reducible decide)) only [go_sem, Int.reduceEq, Int.reduceNe, Int.reduceLT, Int.reduceLE, Nat.reduceEqDiff, Int.reduceToNat, Nat.reduceSub, Nat.reduceAdd, Nat.reduceMul, Nat.reduceLT, Nat.reduceLeDiff, Int.reduceNeg, Int.reduceAdd, Int.reduceSub, Int.reduceMul, UInt8.reduceToNat, hla, hll, hsq]))
          (refine ⟨t + 1, ?_⟩; and_intros; all_goals (try first | rfl | assumption | omega))
      · obtain rfl : t = W := by omega
        have hG : Grew H1 H3 := ((gz.chg [H1.n]).trans hch).grew (fun x hx => by have := List.mem_singleton.1 hx; omega)
        rw [mix_end _ _ (by omega) (by simp)] at hrow
        have hx' : IsBytes H3 (.slice ⟨false, H1.n, 0⟩ ((mulRows A l).getD i []).length (.known t)) ((mulRows A l).getD i []) := by rwa [hml]
        obtain ⟨H4, a1, a2⟩ := accOwn_add hacc hG (Nat.le_refl _) hx' (by omega)
        rw [htl, hml] at a1 a2
        (try simp (maxSteps := 4000000) (disch := first | omega | (simp only [push_n, set_n, clr_n, also_n, List.length_replicate, List.length_set, List.length_map, List.length_append, List.length_take, List.length_drop, List.length_cons, List.length_nil]; first | done | omega) | (with_reducible decide)) only [go_sem, Int.reduceEq, Int.reduceNe, Int.reduceLT, Int.reduceLE, Nat.reduceEqDiff, Int.reduceToNat, Nat.reduceSub, Nat.reduceAdd, Nat.reduceMul, Nat.reduceLT, Nat.reduceLeDiff, Int.reduceNeg, Int.reduceAdd, Int.reduceSub, Int.reduceMul, UInt8.reduceToNat, a1]; repeat first | ((first | with_reducible refine split2_pk (by omega) ?_ | with_reducible refine split2_nk (by omega) ?_); intro hsq; try simp (maxSteps := 4000000) (disch := first | omega | (simp only [push_n, set_n, clr_n, also_n, List.length_replicate, List.length_set, List.length_map, List.length_append, List.length_take, List.length_drop, List.length_cons, List.length_nil]; first | done | omega) | (with_reducible decide)) only [go_sem, Int.reduceEq, Int.reduceNe, Int.reduceLT, Int.reduceLE, Nat.reduceEqDiff, Int.reduceToNat, Nat.reduceSub, Nat.reduceAdd, Nat.reduceMul, Nat.reduceLT, Nat.reduceLeDiff, Int.reduceNeg, Int.reduceAdd, Int.reduceSub, Int.reduceMul, UInt8.reduceToNat, a1, hsq]))
        (refine ⟨(i + 1, .slice ⟨false, H3.n + 1, 0⟩ (i + 1) (.grow 1), ws ++ [.slice ⟨false, H1.n, 0⟩ t (.known t)]), ?_⟩; and_intros; all_goals (try first | rfl | assumption | omega))
        rw [take_s (by rw [mulRows_len]; omega)]
        exact a2
    · obtain rfl : i = A.length := by omega
      rw [List.take_of_length_le (by rw [mulRows_len]; omega)] at hacc
      (try simp (maxSteps := 4000000) (disch := first | omega | (simp only [push_n, set_n, clr_n, also_n, List.length_replicate, List.length_set, List.length_map, List.length_append, List.length_take, List.length_drop, List.length_cons, List.length_nil]; first | done | omega) | (with_reducible decide)) only [go_sem, Int.reduceEq, Int.reduceNe, Int.reduceLT, Int.reduceLE, Nat.reduceEqDiff, Int.reduceToNat, Nat.reduceSub, Nat.reduceAdd, Nat.reduceMul, Nat.reduceLT, Nat.reduceLeDiff, Int.reduceNeg, Int.reduceAdd, Int.reduceSub, Int.reduceMul, UInt8.reduceToNat, hla]; repeat first | ((first | with_reducible refine split2_pk (by omega) ?_ | with_reducible refine split2_nk (by omega) ?_); intro hsq; try simp (maxSteps := 4000000) (disch := first | omega | (simp only [push_n, set_n, clr_n, also_n, List.length_replicate, List.length_set, List.length_map, List.length_append, List.length_take, List.length_drop, List.length_cons, List.length_nil]; first | done | omega) | (with_reducible decide)) only [go_sem, Int.reduceEq, Int.reduceNe, Int.reduceLT, Int.reduceLE, Nat.reduceEqDiff, Int.reduceToNat, Nat.reduceSub, Nat.reduceAdd, Nat.reduceMul, Nat.reduceLT, Nat.reduceLeDiff, Int.reduceNeg, Int.reduceAdd, Int.reduceSub, Int.reduceMul, UInt8.reduceToNat, hla, hsq]))
      exact ⟨ws, hacc⟩
theorem nil_row (H : AH) {B n : Nat} (hB : H.cells? B = some (List.replicate n .nilslice)) : IsRows H (.slice ⟨false, B, 0⟩ n (.known n)) (List.replicate n .nilslice) (List.replicate n []) := by
  refine ⟨?_, fun i hi => ?_⟩
  · rw [List.length_replicate]
    exact ⟨row_whole hB (by simp) _, rfl, by simp [okSl]⟩
  · rw [List.length_replicate] at hi
    simp only [List.getD, List.getElem?_replicate, hi, if_true, Option.getD_some]
    exact ⟨rfl, rfl, rfl⟩
theorem mul_empty {A l : Rows8} (h : (l.getD 0 []).length = 0) : mulRows A l = List.replicate A.length [] := by
  apply List.ext_getElem (by rw [mulRows_len, List.length_replicate])
  intro i h1 h2
  rw [mulRows_len] at h1
  have := mulRows_get (a := A) (b := l) h1
  rw [h] at this
  simp only [List.getElem_replicate]
  have hl : i < (mulRows A l).length := by rw [mulRows_len]; exact h1
  rw [List.getD_eq_getElem?_getD, List.getElem?_eq_getElem hl, Option.getD_some] at this
  rw [this]
  rfl
end Go.Proofs.Ytbpojmneffngoaa
