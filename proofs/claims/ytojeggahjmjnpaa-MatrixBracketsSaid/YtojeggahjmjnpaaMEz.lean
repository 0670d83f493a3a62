/- Matrices that are made for MatrixBrackets. -/
import Derived.Test.YtojeggahjmjnpaaMXz
import Derived.Test.YtojeggahjmjnpaaZ3
namespace Go.Proofs.Ytojeggahjmjnpaa
open Go Go.Abs Go.Abs.GF
set_option linter.unusedVariables false
set_option linter.unusedSimpArgs false
set_option maxHeartbeats 4000000
attribute [local irreducible] ASpec AWp WP AOps DOps

theorem wrap_bv (n : Int) : ∃ x : UInt8, AV.int .u8 (IntKind.u8.wrap n) = bv x := ⟨UInt8.ofNat (n % 256).toNat, by
  rw [← byte_bv]
  congr 1
  rw [IntKind.wrap_u8, IntKind.wrap_u8]
  omega⟩

/-- A row that grows. -/
def VAt (H0 H : AH) (B : Nat) (ws : List AV) (v : AV) (xs : List UInt8) : Prop := (v = .nilslice ∧ xs = []) ∨ ∃ b, v = .slice ⟨false, b, 0⟩ xs.length (.grow 1) ∧ b ∉ blks B ws ∧ H0.n ≤ b ∧ H.cells? b = some (xs.map bv)
theorem VAt.acc {H0 H : AH} {B : Nat} {ws : List AV} {v : AV} {xs : List UInt8} (h : VAt H0 H B ws v xs) (g : Grew H0 H) : Acc 1 H0 H v xs.length (xs.map bv) := by
  rcases h with ⟨rfl, rfl⟩ | ⟨b, rfl, _, hb, hc⟩
  · exact Acc.nil g
  · exact ⟨g, by simp, .inr ⟨b, rfl, hb, hc⟩⟩

theorem made_spec (H : AH) (n m : Nat) (lv : AV) (l : List UInt8) (hl : IsBytes H lv l) (hll : l.length ≤ 140737488351232) (hn : 1 ≤ n ∧ n ≤ 9) (hm : 1 ≤ m ∧ m ≤ 9) :
    ASpec Try.prog 24 [.int .i64 n, .int .i64 m, lv] H fun r H' => ∃ B ws X, r = .slice ⟨false, B, 0⟩ n (.known n) ∧ NewRows H H' B ws X ∧ Shape n m X := by
  have hlen := hl.length (P := Try.prog) Try.underlying35
  refine aspec_fn (rs := [.tmp 6]) (n := 65) Try.func24 rfl rfl rfl rfl (by kernel_rfl) (Nat.le_of_ble_eq_true rfl) ?_
  (try simp (maxSteps := 4000000) (disch := first | omega | (simp only [push_n, set_n, clr_n, also_n, List.length_replicate, List.length_set, List.length_map, List.length_append, List.length_take, List.length_drop, List.length_cons, List.length_nil]; first | done | omega) | (with_reducible decide)) only [go_sem, Int.reduceEq, Int.reduceNe, Int.reduceLT, Int.reduceLE, Nat.reduceEqDiff, Int.reduceToNat, Nat.reduceSub, Nat.reduceAdd, Nat.reduceMul, Nat.reduceLT, Nat.reduceLeDiff, Int.reduceNeg, Int.reduceAdd, Int.reduceSub, Int.reduceMul, UInt8.reduceToNat]; repeat first | ((first | with_reducible refine split2_pk (by omega) ?_ | with_reducible refine split2_nk (by omega) ?_); intro hsq; try simp (maxSteps := 4000000) (disch := first | omega | (simp only [push_n, set_n, clr_n, also_n, List.length_replicate, List.length_set, List.length_map, List.length_append, List.length_take, List.length_drop, List.length_cons, List.length_nil]; first | done | omega) | (with_reducible decide)) only [go_sem, Int.reduceEq, Int.reduceNe, Int.reduceLT, Int.reduceLE, Nat.reduceEqDiff, Int.reduceToNat, Nat.reduceSub, Nat.reduceAdd, Nat.reduceMul, Nat.reduceLT, Nat.reduceLeDiff, Int.reduceNeg, Int.reduceAdd, Int.reduceSub, Int.reduceMul, UInt8.reduceToNat, hsq]))
  refine wp_loopS (σ := Nat × AVL × Rows8) (by kernel_rfl) (fun (i, ws, X) => [(1, .int .i64 (m : Nat)), (2, lv), (7, .slice ⟨false, H.n, 0⟩ n (.known n)), (14, .int .i64 (n : Nat)), (15, .int .i64 (i : Nat))]) (fun (i, ws, X) H' => i ≤ n ∧ H'.cells? H.n = some (ws ++ List.replicate (n - i) .nilslice) ∧ X.length = i ∧ RowsOf H' H.n ws X ∧ (∀ k, k < i → (X.getD k []).length = m) ∧ Grew H H' ∧ ∀ b ∈ blks H.n ws, H.n ≤ b) (fun (i, ws, X) => n - i) (0, [], []) (by simp (maxSteps := 4000000) (disch := first | omega | (simp only [push_n, set_n, clr_n, also_n, List.length_replicate, List.length_set, List.length_map, List.length_append, List.length_take, List.length_drop, List.length_cons, List.length_nil]; first | done | omega) | (with_reducible decide)) only [go_sem, Int.reduceEq, Int.reduceNe, Int.reduceLT, Int.reduceLE, Nat.reduceEqDiff, Int.reduceToNat, Nat.reduceSub, Nat.reduceAdd, Nat.reduceMul, Nat.reduceLT, Nat.reduceLeDiff, Int.reduceNeg, Int.reduceAdd, Int.reduceSub, Int.reduceMul, UInt8.reduceToNat]) ?_ ?_
  · refine ⟨by omega, by rw [push_cells]; rfl, rfl, RowsOf.nil _ _, fun k hk => by omega, Grew.push _ _, fun b hb => by simp [blks] at hb; omega⟩
  rintro ⟨i, ws, X⟩ H1 ⟨hi, htop, hXl, hin, hXr, g, hnew⟩
  have hwl : ws.length = i := by have := hin.len; omega
  by_cases hil : i < n
  · (try simp (maxSteps := 4000000) (disch := first | omega | (simp only [push_n, set_n, clr_n, also_n, List.length_replicate, List.length_set, List.length_map, List.length_append, List.length_take, List.length_drop, List.length_cons, List.length_nil]; first | done | omega) | (with_reducible decide)) only [go_sem, Int.reduceEq, Int.reduceNe, Int.reduceLT, Int.reduceLE, Nat.reduceEqDiff, Int.reduceToNat, Nat.reduceSub, Nat.reduceAdd, Nat.reduceMul, Nat.reduceLT, Nat.reduceLeDiff, Int.reduceNeg, Int.reduceAdd, Int.reduceSub, Int.reduceMul, UInt8.reduceToNat]; repeat first | ((first | with_reducible refine split2_pk (by omega) ?_ | with_reducible refine split2_nk (by omega) ?_); intro hsq; try simp (maxSteps := 4000000) (disch := first | omega | (simp only [push_n, set_n, clr_n, also_n, List.length_replicate, List.length_set, List.length_map, List.length_append, List.length_take, List.length_drop, List.length_cons, List.length_nil]; first | done | omega) | (with_reducible decide)) only [go_sem, Int.reduceEq, Int.reduceNe, Int.reduceLT, Int.reduceLE, Nat.reduceEqDiff, Int.reduceToNat, Nat.reduceSub, Nat.reduceAdd, Nat.reduceMul, Nat.reduceLT, Nat.reduceLeDiff, Int.reduceNeg, Int.reduceAdd, Int.reduceSub, Int.reduceMul, UInt8.reduceToNat, hsq]))
    refine wp_loopS (σ := Nat × AV × U8s) (by kernel_rfl) (fun (j, v, xs) => [(1, .int .i64 (m : Nat)), (2, lv), (7, .slice ⟨false, H.n, 0⟩ n (.known n)), (8, .int .i64 (i : Nat)), (14, .int .i64 (n : Nat)), (15, .int .i64 (i : Nat)), (18, .int .i64 (m : Nat)), (19, .int .i64 (j : Nat))]) (fun (j, v, xs) H' => j ≤ m ∧ xs.length = j ∧ H'.cells? H.n = some (ws ++ v :: List.replicate (n - i - 1) .nilslice) ∧ RowsOf H' H.n ws X ∧ VAt H H' H.n ws v xs ∧ Grew H H') (fun (j, v, xs) => m - j) (0, .nilslice, []) (by simp (maxSteps := 4000000) (disch := first | omega | (simp only [push_n, set_n, clr_n, also_n, List.length_replicate, List.length_set, List.length_map, List.length_append, List.length_take, List.length_drop, List.length_cons, List.length_nil]; first | done | omega) | (with_reducible decide)) only [go_sem, Int.reduceEq, Int.reduceNe, Int.reduceLT, Int.reduceLE, Nat.reduceEqDiff, Int.reduceToNat, Nat.reduceSub, Nat.reduceAdd, Nat.reduceMul, Nat.reduceLT, Nat.reduceLeDiff, Int.reduceNeg, Int.reduceAdd, Int.reduceSub, Int.reduceMul, UInt8.reduceToNat]) ?_ ?_
    · refine ⟨by omega, rfl, ?_, hin, .inl ⟨rfl, rfl⟩, g⟩
      rw [htop]
      obtain ⟨k, hk⟩ : ∃ k, n - i = k + 1 := ⟨n - i - 1, by omega⟩
      rw [hk, List.replicate_succ]
      rfl
    rintro ⟨j, v, xs⟩ H2 ⟨hj, hxl, htop2, hin2, hv, g2⟩
    by_cases hjm : j < m
    · obtain ⟨x0, hx0⟩ := wrap_bv ((i : Int) * 7 + (j : Int) * 3)
      have hjl2 : xs.length = j := hxl
      have hacc := VAt.acc hv g2
      have hB2 : H.n < H2.n := cells_lt htop2
      have hci : (ws ++ v :: List.replicate (n - i - 1) AV.nilslice)[i]? = some v := by
        rw [List.getElem?_append_right (by omega), hwl, Nat.sub_self]; rfl
      have hcl : i < (ws ++ v :: List.replicate (n - i - 1) AV.nilslice).length := by simp; omega
      have hsetG : ∀ z, (ws ++ v :: List.replicate (n - i - 1) AV.nilslice).set i z = ws ++ z :: List.replicate (n - i - 1) .nilslice := fun z => by
        rw [List.set_append_right _ _ (by omega), hwl, Nat.sub_self, List.set_cons_zero]
      have app : ∀ x : UInt8, ∃ H4, appendTo 1 1 (H2.push (some (.cells [bv x]))) 1 [bv x] v = some (.slice ⟨false, H2.n + 1, 0⟩ (j + 1) (.grow 1), H4) ∧ H4.cells? H.n = some (ws ++ v :: List.replicate (n - i - 1) .nilslice) ∧ H.n < H4.n ∧
          (H4.set H.n (some (.cells ((ws ++ v :: List.replicate (n - i - 1) AV.nilslice).set i (.slice ⟨false, H2.n + 1, 0⟩ (j + 1) (.grow 1)))))).cells? H.n = some (ws ++ (AV.slice ⟨false, H2.n + 1, 0⟩ (j + 1) (.grow 1)) :: List.replicate (n - i - 1) .nilslice) ∧
          RowsOf (H4.set H.n (some (.cells ((ws ++ v :: List.replicate (n - i - 1) AV.nilslice).set i (.slice ⟨false, H2.n + 1, 0⟩ (j + 1) (.grow 1)))))) H.n ws X ∧
          VAt H (H4.set H.n (some (.cells ((ws ++ v :: List.replicate (n - i - 1) AV.nilslice).set i (.slice ⟨false, H2.n + 1, 0⟩ (j + 1) (.grow 1)))))) H.n ws (.slice ⟨false, H2.n + 1, 0⟩ (j + 1) (.grow 1)) (xs ++ [x]) ∧
          Grew H (H4.set H.n (some (.cells ((ws ++ v :: List.replicate (n - i - 1) AV.nilslice).set i (.slice ⟨false, H2.n + 1, 0⟩ (j + 1) (.grow 1)))))) := fun x => by
        obtain ⟨H4, a1, a2, a3, a4⟩ := Acc.app' (by' := 1) (hacc.grew (Grew.push H2 (some (.cells [bv x])))) (k := 1) (news := [bv x]) rfl (by omega) (by omega)
        rw [push_n, hjl2] at a1 a2
        have hvb : ∀ b ∈ blkOf v, b ∉ blks H.n ws := fun b hb => by
          rcases hv with ⟨rfl, _⟩ | ⟨b', rfl, h1, _, _⟩
          · simp [blkOf] at hb
          · simp [blkOf] at hb; subst hb; exact h1
        have hk : Chg (blkOf v) H2 H4 := ((Grew.push H2 _).chg _).trans a4
        have t4 : H4.cells? H.n = some (ws ++ v :: List.replicate (n - i - 1) .nilslice) := hk.cells (fun hm => hvb _ hm (by simp [blks])) htop2
        have hB4 := cells_lt t4
        have hk5 : Chg [H.n] H4 (H4.set H.n (some (.cells ((ws ++ v :: List.replicate (n - i - 1) AV.nilslice).set i (.slice ⟨false, H2.n + 1, 0⟩ (j + 1) (.grow 1)))))) := Chg.set _ _ _ (by simp)
        have hset : (ws ++ v :: List.replicate (n - i - 1) AV.nilslice).set i (.slice ⟨false, H2.n + 1, 0⟩ (j + 1) (.grow 1)) = ws ++ (AV.slice ⟨false, H2.n + 1, 0⟩ (j + 1) (.grow 1)) :: List.replicate (n - i - 1) .nilslice := by
          rw [List.set_append_right _ _ (by omega), hwl, Nat.sub_self, List.set_cons_zero]
        refine ⟨H4, a1, t4, hB4, by rw [set_cells _ _ hB4, hset], ?_, ?_, ?_⟩
        · refine (hin2.chg hk fun q hq hm => hvb _ hm (bn_mem (by rw [hin2.len]; exact hq))).chg hk5 fun q hq hm => hin2.ne q hq (List.mem_singleton.1 hm)
        · refine .inr ⟨H2.n + 1, by simp [hjl2], fun hm => ?_, ?_, ?_⟩
          · rcases mem_bn hm with h | ⟨q, hq, h⟩
            · omega
            · have := hin2.lt (i := q) (by have := hin2.len; omega)
              omega
          · have := g2.n; omega
          · have hc := a2.is
            rcases hc with ⟨h, _⟩ | ⟨B', h, _, hcB⟩
            · cases h
            · injection h with h1 h2 h3
              injection h1 with h4 h5 h6
              subst h5
              rw [set_cells_ne (by omega), hcB]
              simp
        · exact (a2.g.chg [H.n]).trans hk5 |>.grew (by simp)
      by_cases hl0 : l.length = 0
      · obtain ⟨H4, a1, a2, a3, a4, a5, a6, a7⟩ := app x0
        (try simp (maxSteps := 4000000) (disch := first | omega | (simp only [push_n, set_n, clr_n, also_n, List.length_replicate, List.length_set, List.length_map, List.length_append, List.length_take, List.length_drop, List.length_cons, List.length_nil]; first | done | omega) | (with_reducible decide)) only [go_sem, Int.reduceEq, Int.reduceNe, Int.reduceLT, Int.reduceLE, Nat.reduceEqDiff, Int.reduceToNat, Nat.reduceSub, Nat.reduceAdd, Nat.reduceMul, Nat.reduceLT, Nat.reduceLeDiff, Int.reduceNeg, Int.reduceAdd, Int.reduceSub, Int.reduceMul, UInt8.reduceToNat, hlen, hl0, hx0, htop2, hci, a1, a2]; repeat first | ((first | with_reducible refine split2_pk (by omega) ?_ | with_reducible refine split2_nk (by omega) ?_); intro hsq; try simp (maxSteps := 4000000) (disch := first | omega | (simp only [push_n, set_n, clr_n, also_n, List.length_replicate, List.length_set, List.length_map, List.length_append, List.length_take, List.length_drop, List.length_cons, List.length_nil]; first | done | omega) | (with_reducible decide)) only [go_sem, Int.reduceEq, Int.reduceNe, Int.reduceLT, Int.reduceLE, Nat.reduceEqDiff, Int.reduceToNat, Nat.reduceSub, Nat.reduceAdd, Nat.reduceMul, Nat.reduceLT, Nat.reduceLeDiff, Int.reduceNeg, Int.reduceAdd, Int.reduceSub, Int.reduceMul, UInt8.reduceToNat, hlen, hl0, hx0, htop2, hci, a1, a2, hsq]))
        (refine ⟨(j + 1, .slice ⟨false, H2.n + 1, 0⟩ (j + 1) (.grow 1), xs ++ [x0]), ?_⟩; and_intros; all_goals (try first | rfl | assumption | omega))
        · simp [hjl2]
        · rw [hsetG]
      · have hl2 := hl.grew g2
        obtain ⟨p, hp⟩ : ∃ p, i * m = p := ⟨_, rfl⟩
        have hp81 : p ≤ 81 := by rw [← hp]; exact Nat.mul_le_mul (show i ≤ 9 by omega) hm.2
        have e1 : (i : Int) * (m : Int) = (p : Nat) := by rw [← hp]; simp
        have hmod : (p + j) % l.length < l.length := Nat.mod_lt _ (by omega)
        have hdiv : (p + j) / l.length ≤ p + j := Nat.div_le_self _ _
        obtain ⟨q, hq⟩ : ∃ q, (p + j) / l.length = q := ⟨_, rfl⟩
        obtain ⟨r, hr⟩ : ∃ r, (p + j) % l.length = r := ⟨_, rfl⟩
        have e2 : ((p : Int) + (j : Int)).tmod (l.length : Int) = ((r : Nat) : Int) := by rw [Int.tmod_eq_emod_of_nonneg (by omega), ← hr]; simp
        have e3 : ((p : Int) + (j : Int)).tdiv (l.length : Int) = ((q : Nat) : Int) := by rw [Int.tdiv_eq_ediv_of_nonneg (by omega), ← hq]; simp
        rw [hq] at hdiv
        rw [hr] at hmod
        have hix := hl2.ix (P := Try.prog) Try.underlying35 sz5 (k := .i64) (i := (r : Int)) (by omega) (by omega)
        have hld := hl2.ld (i := r) (by omega)
        obtain ⟨x1, hx1⟩ := wrap_bv (((l.getD r 0).toNat : Int) + ((UInt8.ofNat q).toNat : Int))
        obtain ⟨H4, a1, a2, a3, a4, a5, a6, a7⟩ := app x1
        (try simp (maxSteps := 4000000) (disch := first | omega | (simp only [push_n, set_n, clr_n, also_n, List.length_replicate, List.length_set, List.length_map, List.length_append, List.length_take, List.length_drop, List.length_cons, List.length_nil]; first | done | omega) | (with_reducible decide)) only [go_sem, Int.reduceEq, Int.reduceNe, Int.reduceLT, Int.reduceLE, Nat.reduceEqDiff, Int.reduceToNat, Nat.reduceSub, Nat.reduceAdd, Nat.reduceMul, Nat.reduceLT, Nat.reduceLeDiff, Int.reduceNeg, Int.reduceAdd, Int.reduceSub, Int.reduceMul, UInt8.reduceToNat, hlen]; repeat first | ((first | with_reducible refine split2_pk (by omega) ?_ | with_reducible refine split2_nk (by omega) ?_); intro hsq; try simp (maxSteps := 4000000) (disch := first | omega | (simp only [push_n, set_n, clr_n, also_n, List.length_replicate, List.length_set, List.length_map, List.length_append, List.length_take, List.length_drop, List.length_cons, List.length_nil]; first | done | omega) | (with_reducible decide)) only [go_sem, Int.reduceEq, Int.reduceNe, Int.reduceLT, Int.reduceLE, Nat.reduceEqDiff, Int.reduceToNat, Nat.reduceSub, Nat.reduceAdd, Nat.reduceMul, Nat.reduceLT, Nat.reduceLeDiff, Int.reduceNeg, Int.reduceAdd, Int.reduceSub, Int.reduceMul, UInt8.reduceToNat, hlen, hsq]))
        (refine awp_drawP (hl := []) [eqM H2] [(0, some 0), (1, some 0), (2, some 0), (3, some 0), (4, some 0), (5, some 0), (6, some 0), (7, some 0), (8, some 0), (9, some 0), (10, some 0), (11, some 0), (12, some 0), (13, some 0), (14, some 0), (15, some 0), (16, some 0), (17, some 0), (18, some 0), (19, some 0), (20, some 0), (21, some 0)] [] (by kernel_rfl) (by rfl) (by decide +kernel) (rofP_0 ?_) ?_; rotate_left; (conv => arg 5; simp only [List.map_cons, List.map_nil, List.getElem?_toArray, List.getElem?_cons_zero, List.getElem?_cons_succ]); rotate_left)
        · rfl
        (try simp (maxSteps := 4000000) (disch := first | omega | (simp only [push_n, set_n, clr_n, also_n, List.length_replicate, List.length_set, List.length_map, List.length_append, List.length_take, List.length_drop, List.length_cons, List.length_nil]; first | done | omega) | (with_reducible decide)) only [go_sem, Int.reduceEq, Int.reduceNe, Int.reduceLT, Int.reduceLE, Nat.reduceEqDiff, Int.reduceToNat, Nat.reduceSub, Nat.reduceAdd, Nat.reduceMul, Nat.reduceLT, Nat.reduceLeDiff, Int.reduceNeg, Int.reduceAdd, Int.reduceSub, Int.reduceMul, UInt8.reduceToNat, hlen, e1, e2, e3, hix, hld, byte_bv, hx1, htop2, hci, a1, a2]; repeat first | ((first | with_reducible refine split2_pk (by omega) ?_ | with_reducible refine split2_nk (by omega) ?_); intro hsq; try simp (maxSteps := 4000000) (disch := first | omega | (simp only [push_n, set_n, clr_n, also_n, List.length_replicate, List.length_set, List.length_map, List.length_append, List.length_take, List.length_drop, List.length_cons, List.length_nil]; first | done | omega) | (with_reducible decide)) only [go_sem, Int.reduceEq, Int.reduceNe, Int.reduceLT, Int.reduceLE, Nat.reduceEqDiff, Int.reduceToNat, Nat.reduceSub, Nat.reduceAdd, Nat.reduceMul, Nat.reduceLT, Nat.reduceLeDiff, Int.reduceNeg, Int.reduceAdd, Int.reduceSub, Int.reduceMul, UInt8.reduceToNat, hlen, e1, e2, e3, hix, hld, byte_bv, hx1, htop2, hci, a1, a2, hsq]))
        (refine ⟨(j + 1, .slice ⟨false, H2.n + 1, 0⟩ (j + 1) (.grow 1), xs ++ [x1]), ?_⟩; and_intros; all_goals (try first | rfl | assumption | omega))
        · simp [hjl2]
        · rw [hsetG]
    · obtain rfl : j = m := by omega
      rcases hv with ⟨_, h0⟩ | ⟨b, rfl, hb1, hb2, hb3⟩
      · rw [h0] at hxl; simp at hxl; omega
      have hxb : IsBytes H2 (.slice ⟨false, b, 0⟩ xs.length (.grow 1)) xs := bytes_whole hb3 rfl
      (try simp (maxSteps := 4000000) (disch := first | omega | (simp only [push_n, set_n, clr_n, also_n, List.length_replicate, List.length_set, List.length_map, List.length_append, List.length_take, List.length_drop, List.length_cons, List.length_nil]; first | done | omega) | (with_reducible decide)) only [go_sem, Int.reduceEq, Int.reduceNe, Int.reduceLT, Int.reduceLE, Nat.reduceEqDiff, Int.reduceToNat, Nat.reduceSub, Nat.reduceAdd, Nat.reduceMul, Nat.reduceLT, Nat.reduceLeDiff, Int.reduceNeg, Int.reduceAdd, Int.reduceSub, Int.reduceMul, UInt8.reduceToNat]; repeat first | ((first | with_reducible refine split2_pk (by omega) ?_ | with_reducible refine split2_nk (by omega) ?_); intro hsq; try simp (maxSteps := 4000000) (disch := first | omega | (simp only [push_n, set_n, clr_n, also_n, List.length_replicate, List.length_set, List.length_map, List.length_append, List.length_take, List.length_drop, List.length_cons, List.length_nil]; first | done | omega) | (with_reducible decide)) only [go_sem, Int.reduceEq, Int.reduceNe, Int.reduceLT, Int.reduceLE, Nat.reduceEqDiff, Int.reduceToNat, Nat.reduceSub, Nat.reduceAdd, Nat.reduceMul, Nat.reduceLT, Nat.reduceLeDiff, Int.reduceNeg, Int.reduceAdd, Int.reduceSub, Int.reduceMul, UInt8.reduceToNat, hsq]))
      (refine ⟨(i + 1, ws ++ [.slice ⟨false, b, 0⟩ xs.length (.grow 1)], X ++ [xs]), ?_⟩; and_intros; all_goals (try first | rfl | assumption | omega))
      · rw [htop2, List.append_assoc]
        rfl
      · simp [hXl]
      · exact hin2.snoc ⟨_, _, rfl⟩ hxb hb1
      · intro k hk
        by_cases e : k < i
        · rw [← hXr k e]; simp [List.getD, List.getElem?_append_left (show k < X.length by omega)]
        · obtain rfl : k = i := by omega
          simp [List.getD, ← hXl, hxl]
      · intro b' hb'
        simp only [blks, List.mem_cons, List.mem_map, List.mem_append] at hb' hnew
        rcases hb' with rfl | ⟨v, hv | hv, rfl⟩
        · exact Nat.le_refl _
        · exact hnew _ (.inr ⟨v, hv, rfl⟩)
        · rcases hv with rfl | hv
          · exact hb2
          · cases hv
  · obtain rfl : i = n := by omega
    rw [Nat.sub_self, List.replicate_zero, List.append_nil] at htop
    (try simp (maxSteps := 4000000) (disch := first | omega | (simp only [push_n, set_n, clr_n, also_n, List.length_replicate, List.length_set, List.length_map, List.length_append, List.length_take, List.length_drop, List.length_cons, List.length_nil]; first | done | omega) | (with_reducible decide)) only [go_sem, Int.reduceEq, Int.reduceNe, Int.reduceLT, Int.reduceLE, Nat.reduceEqDiff, Int.reduceToNat, Nat.reduceSub, Nat.reduceAdd, Nat.reduceMul, Nat.reduceLT, Nat.reduceLeDiff, Int.reduceNeg, Int.reduceAdd, Int.reduceSub, Int.reduceMul, UInt8.reduceToNat]; repeat first | ((first | with_reducible refine split2_pk (by omega) ?_ | with_reducible refine split2_nk (by omega) ?_); intro hsq; try simp (maxSteps := 4000000) (disch := first | omega | (simp only [push_n, set_n, clr_n, also_n, List.length_replicate, List.length_set, List.length_map, List.length_append, List.length_take, List.length_drop, List.length_cons, List.length_nil]; first | done | omega) | (with_reducible decide)) only [go_sem, Int.reduceEq, Int.reduceNe, Int.reduceLT, Int.reduceLE, Nat.reduceEqDiff, Int.reduceToNat, Nat.reduceSub, Nat.reduceAdd, Nat.reduceMul, Nat.reduceLT, Nat.reduceLeDiff, Int.reduceNeg, Int.reduceAdd, Int.reduceSub, Int.reduceMul, UInt8.reduceToNat, hsq]))
    exact ⟨H.n, ws, X, rfl, ⟨hin.all htop, g, hnew⟩, hXl, hXr⟩
end Go.Proofs.Ytojeggahjmjnpaa
