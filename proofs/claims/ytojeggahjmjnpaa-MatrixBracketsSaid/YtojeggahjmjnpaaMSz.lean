/- solve: a matrix is made the identity by its rows. -/
import Derived.Test.YtojeggahjmjnpaaMNz
import Derived.Test.YtojeggahjmjnpaaZ3
namespace Go.Proofs.Ytojeggahjmjnpaa
open Go Go.Abs Go.Abs.GF
set_option linter.unusedVariables false
set_option linter.unusedSimpArgs false
set_option maxHeartbeats 4000000
attribute [local irreducible] ASpec AWp WP AOps DOps

def oopsV (i : Nat) : Value := .iface 52 (.agg #[.int .i64 i])

def solved (H : AH) (n : Nat) (M : Rows8) (S1 S2 : List Nat) (B1 B2 : Nat) (r : AV) (H' : AH) : Prop := r = .tup [] ∧ ∃ ws1 ws2 A B, Two H H' S1 S2 B1 B2 ws1 ws2 A B ∧ Elim n M A B n
def unsolved (H : AH) (n : Nat) (M : Rows8) (S1 S2 : List Nat) (v : Value) (H' : AH) : Prop := (∃ i, v = oopsV i) ∧ Singular n M ∧ Chg (S1 ++ S2) H H'

theorem solve_spec (H : AH) (n : Nat) (M A0 B0 : Rows8) (S1 S2 : List Nat) (B1 B2 : Nat) (c1 c2 : Cap) (ws1 ws2 : List AV) (ho : Two H H S1 S2 B1 B2 ws1 ws2 A0 B0) (hE : Elim n M A0 B0 0) (hn1 : 1 ≤ n) (hn2 : n ≤ 255)
    (hc1 : okSl 1 (.slice ⟨false, B1, 0⟩ n c1) = true) (hc2 : okSl 1 (.slice ⟨false, B2, 0⟩ n c2) = true) :
    ASpecP Try.prog 28 [.slice ⟨false, B1, 0⟩ n c1, .slice ⟨false, B2, 0⟩ n c2] H (solved H n M S1 S2 B1 B2) (unsolved H n M S1 S2) := by
  have hlm : lenA Try.prog 23 (.slice ⟨false, B1, 0⟩ n c1) = some (.int .i64 (n : Nat)) := by
    have := (ho.o1.isRows (c := c1) (by rw [hE.sa.1]; exact hc1)).row.lenA (P := Try.prog) Try.underlying23
    rwa [hE.sa.1] at this
  refine aspecP_in (rs := []) (n := 155) Try.func28 rfl rfl rfl rfl (Nat.le_of_ble_eq_true rfl) ?_
  (refine wp_mid (σ := Unit) 1 (by kernel_rfl) (fun x => [(0, .slice ⟨false, B1, 0⟩ n c1), (1, .slice ⟨false, B2, 0⟩ n c2), (12, .int .i64 (n : Nat)), (13, .int .i64 (0 : Nat))]) (fun x H' => H' = H) ?_ ?_; rotate_left; simp only [restC]; rotate_left; simp only [headN])
  · (try simp (maxSteps := 4000000) (disch := first | omega | (simp only [push_n, set_n, clr_n, also_n, List.length_replicate, List.length_set, List.length_map, List.length_append, List.length_take, List.length_drop, List.length_cons, List.length_nil]; first | done | omega) | (with_reducible decide)) only [go_sem, Int.reduceEq, Int.reduceNe, Int.reduceLT, Int.reduceLE, Nat.reduceEqDiff, Int.reduceToNat, Nat.reduceSub, Nat.reduceAdd, Nat.reduceMul, Nat.reduceLT, Nat.reduceLeDiff, Int.reduceNeg, Int.reduceAdd, Int.reduceSub, Int.reduceMul, UInt8.reduceToNat, hlm]; repeat first | ((first | with_reducible refine split2_pk (by omega) ?_ | with_reducible refine split2_nk (by omega) ?_); intro hsq; try simp (maxSteps := 4000000) (disch := first | omega | (simp only [push_n, set_n, clr_n, also_n, List.length_replicate, List.length_set, List.length_map, List.length_append, List.length_take, List.length_drop, List.length_cons, List.length_nil]; first | done | omega) | (with_reducible decide)) only [go_sem, Int.reduceEq, Int.reduceNe, Int.reduceLT, Int.reduceLE, Nat.reduceEqDiff, Int.reduceToNat, Nat.reduceSub, Nat.reduceAdd, Nat.reduceMul, Nat.reduceLT, Nat.reduceLeDiff, Int.reduceNeg, Int.reduceAdd, Int.reduceSub, Int.reduceMul, UInt8.reduceToNat, hlm, hsq]))
    exact ⟨(), trivial⟩
  rintro _ H1 rfl
  refine awp_block ?_
  refine awp_loopS (σ := Nat × AVL × AVL × Rows8 × Rows8) (fun (i, w1, w2, A, B) => [(0, .slice ⟨false, B1, 0⟩ n c1), (1, .slice ⟨false, B2, 0⟩ n c2), (12, .int .i64 (n : Nat)), (13, .int .i64 (i : Nat))]) (fun (i, w1, w2, A, B) H' => i ≤ n ∧ Two H1 H' S1 S2 B1 B2 w1 w2 A B ∧ Elim n M A B i) (fun (i, w1, w2, A, B) => n - i) (0, ws1, ws2, A0, B0) (by simp (maxSteps := 4000000) (disch := first | omega | (simp only [push_n, set_n, clr_n, also_n, List.length_replicate, List.length_set, List.length_map, List.length_append, List.length_take, List.length_drop, List.length_cons, List.length_nil]; first | done | omega) | (with_reducible decide)) only [go_sem, Int.reduceEq, Int.reduceNe, Int.reduceLT, Int.reduceLE, Nat.reduceEqDiff, Int.reduceToNat, Nat.reduceSub, Nat.reduceAdd, Nat.reduceMul, Nat.reduceLT, Nat.reduceLeDiff, Int.reduceNeg, Int.reduceAdd, Int.reduceSub, Int.reduceMul, UInt8.reduceToNat]) ?_ ?_
  · exact ⟨by omega, ho, hE⟩
  rintro ⟨i, w1, w2, A, B⟩ H2 ⟨hi, hT, hEi⟩
  by_cases hil : i < n
  · (refine wp_mid (σ := Unit) 2 (by kernel_rfl) (fun x => [(0, .slice ⟨false, B1, 0⟩ n c1), (1, .slice ⟨false, B2, 0⟩ n c2), (12, .int .i64 (n : Nat)), (13, .int .i64 (i : Nat))]) (fun x H' => H' = H2) ?_ ?_; rotate_left; simp only [restC]; rotate_left; simp only [headN])
    · (try simp (maxSteps := 4000000) (disch := first | omega | (simp only [push_n, set_n, clr_n, also_n, List.length_replicate, List.length_set, List.length_map, List.length_append, List.length_take, List.length_drop, List.length_cons, List.length_nil]; first | done | omega) | (with_reducible decide)) only [go_sem, Int.reduceEq, Int.reduceNe, Int.reduceLT, Int.reduceLE, Nat.reduceEqDiff, Int.reduceToNat, Nat.reduceSub, Nat.reduceAdd, Nat.reduceMul, Nat.reduceLT, Nat.reduceLeDiff, Int.reduceNeg, Int.reduceAdd, Int.reduceSub, Int.reduceMul, UInt8.reduceToNat]; repeat first | ((first | with_reducible refine split2_pk (by omega) ?_ | with_reducible refine split2_nk (by omega) ?_); intro hsq; try simp (maxSteps := 4000000) (disch := first | omega | (simp only [push_n, set_n, clr_n, also_n, List.length_replicate, List.length_set, List.length_map, List.length_append, List.length_take, List.length_drop, List.length_cons, List.length_nil]; first | done | omega) | (with_reducible decide)) only [go_sem, Int.reduceEq, Int.reduceNe, Int.reduceLT, Int.reduceLE, Nat.reduceEqDiff, Int.reduceToNat, Nat.reduceSub, Nat.reduceAdd, Nat.reduceMul, Nat.reduceLT, Nat.reduceLeDiff, Int.reduceNeg, Int.reduceAdd, Int.reduceSub, Int.reduceMul, UInt8.reduceToNat, hsq]))
      exact ⟨(), trivial⟩
    rintro _ H3 rfl
    refine awp_seq (awp_block ?_)
    have la := hEi.sa.1
    have lb := hEi.sb.1
    (refine wp_mid (σ := Nat) 3 (by kernel_rfl) (fun at' => [(0, .slice ⟨false, B1, 0⟩ n c1), (1, .slice ⟨false, B2, 0⟩ n c2), (4, .int .i64 (i : Nat)), (5, .int .i64 (at' : Nat)), (12, .int .i64 (n : Nat)), (13, .int .i64 (i : Nat))]) (fun at' H' => i ≤ at' ∧ at' ≤ n ∧ (∀ r, i ≤ r → r < at' → ent A r i = 0) ∧ (at' < n → ent A at' i ≠ 0) ∧ H' = H3) ?_ ?_; rotate_left; simp only [restC]; rotate_left; simp only [headN])
    · (try simp (maxSteps := 4000000) (disch := first | omega | (simp only [push_n, set_n, clr_n, also_n, List.length_replicate, List.length_set, List.length_map, List.length_append, List.length_take, List.length_drop, List.length_cons, List.length_nil]; first | done | omega) | (with_reducible decide)) only [go_sem, Int.reduceEq, Int.reduceNe, Int.reduceLT, Int.reduceLE, Nat.reduceEqDiff, Int.reduceToNat, Nat.reduceSub, Nat.reduceAdd, Nat.reduceMul, Nat.reduceLT, Nat.reduceLeDiff, Int.reduceNeg, Int.reduceAdd, Int.reduceSub, Int.reduceMul, UInt8.reduceToNat]; repeat first | ((first | with_reducible refine split2_pk (by omega) ?_ | with_reducible refine split2_nk (by omega) ?_); intro hsq; try simp (maxSteps := 4000000) (disch := first | omega | (simp only [push_n, set_n, clr_n, also_n, List.length_replicate, List.length_set, List.length_map, List.length_append, List.length_take, List.length_drop, List.length_cons, List.length_nil]; first | done | omega) | (with_reducible decide)) only [go_sem, Int.reduceEq, Int.reduceNe, Int.reduceLT, Int.reduceLE, Nat.reduceEqDiff, Int.reduceToNat, Nat.reduceSub, Nat.reduceAdd, Nat.reduceMul, Nat.reduceLT, Nat.reduceLeDiff, Int.reduceNeg, Int.reduceAdd, Int.reduceSub, Int.reduceMul, UInt8.reduceToNat, hsq]))
      refine wp_loopS (σ := Nat) (by kernel_rfl) (fun p => [(0, .slice ⟨false, B1, 0⟩ n c1), (1, .slice ⟨false, B2, 0⟩ n c2), (4, .int .i64 (i : Nat)), (5, .int .i64 (p : Nat)), (12, .int .i64 (n : Nat)), (13, .int .i64 (i : Nat))]) (fun p H' => i ≤ p ∧ p ≤ n ∧ (∀ r, i ≤ r → r < p → ent A r i = 0) ∧ H' = H3) (fun p => n - p) (i) (by simp (maxSteps := 4000000) (disch := first | omega | (simp only [push_n, set_n, clr_n, also_n, List.length_replicate, List.length_set, List.length_map, List.length_append, List.length_take, List.length_drop, List.length_cons, List.length_nil]; first | done | omega) | (with_reducible decide)) only [go_sem, Int.reduceEq, Int.reduceNe, Int.reduceLT, Int.reduceLE, Nat.reduceEqDiff, Int.reduceToNat, Nat.reduceSub, Nat.reduceAdd, Nat.reduceMul, Nat.reduceLT, Nat.reduceLeDiff, Int.reduceNeg, Int.reduceAdd, Int.reduceSub, Int.reduceMul, UInt8.reduceToNat]) ?_ ?_
      · exact ⟨by omega, by omega, fun r h1 h2 => by omega, rfl⟩
      rintro p H4 ⟨hp1, hp2, hz, rfl⟩
      by_cases hpn : p < n
      · have hrows := hT.o1.isRows (c := c1) (by rw [la]; exact hc1)
        rw [la] at hrows
        have hix := hrows.ix (P := Try.prog) Try.underlying23 sz35 (k := .i64) (i := (p : Int)) (by omega) (by omega)
        have hld := hrows.ld (i := p) (by omega)
        have hb := hT.o1.each p (by omega)
        have hpl := hEi.sa.2 p hpn
        have hixj := hb.ix (P := Try.prog) Try.underlying35 sz5 (k := .i64) (i := (i : Int)) (by omega) (by omega)
        have hldj := hb.ld (i := i) (by omega)
        by_cases he : ent A p i = 0
        · have he' : (A.getD p []).getD i 0 = 0 := he
          rw [he'] at hldj
          (try simp (maxSteps := 4000000) (disch := first | omega | (simp only [push_n, set_n, clr_n, also_n, List.length_replicate, List.length_set, List.length_map, List.length_append, List.length_take, List.length_drop, List.length_cons, List.length_nil]; first | done | omega) | (with_reducible decide)) only [go_sem, Int.reduceEq, Int.reduceNe, Int.reduceLT, Int.reduceLE, Nat.reduceEqDiff, Int.reduceToNat, Nat.reduceSub, Nat.reduceAdd, Nat.reduceMul, Nat.reduceLT, Nat.reduceLeDiff, Int.reduceNeg, Int.reduceAdd, Int.reduceSub, Int.reduceMul, UInt8.reduceToNat, hlm, hix, hld, hixj, hldj]; repeat first | ((first | with_reducible refine split2_pk (by omega) ?_ | with_reducible refine split2_nk (by omega) ?_); intro hsq; try simp (maxSteps := 4000000) (disch := first | omega | (simp only [push_n, set_n, clr_n, also_n, List.length_replicate, List.length_set, List.length_map, List.length_append, List.length_take, List.length_drop, List.length_cons, List.length_nil]; first | done | omega) | (with_reducible decide)) only [go_sem, Int.reduceEq, Int.reduceNe, Int.reduceLT, Int.reduceLE, Nat.reduceEqDiff, Int.reduceToNat, Nat.reduceSub, Nat.reduceAdd, Nat.reduceMul, Nat.reduceLT, Nat.reduceLeDiff, Int.reduceNeg, Int.reduceAdd, Int.reduceSub, Int.reduceMul, UInt8.reduceToNat, hlm, hix, hld, hixj, hldj, hsq]))
          (refine ⟨p + 1, ?_⟩; and_intros; all_goals (try first | rfl | assumption | omega))
          intro r h1 h2
          by_cases e : r < p
          · exact hz r h1 e
          · obtain rfl : r = p := by omega
            exact he
        · have he' : ¬ ((((A.getD p []).getD i 0).toNat : Int) = 0) := fun e => he (UInt8.toNat.inj (by simpa [ent] using e))
          (try simp (maxSteps := 4000000) (disch := first | omega | (simp only [push_n, set_n, clr_n, also_n, List.length_replicate, List.length_set, List.length_map, List.length_append, List.length_take, List.length_drop, List.length_cons, List.length_nil]; first | done | omega) | (with_reducible decide)) only [go_sem, Int.reduceEq, Int.reduceNe, Int.reduceLT, Int.reduceLE, Nat.reduceEqDiff, Int.reduceToNat, Nat.reduceSub, Nat.reduceAdd, Nat.reduceMul, Nat.reduceLT, Nat.reduceLeDiff, Int.reduceNeg, Int.reduceAdd, Int.reduceSub, Int.reduceMul, UInt8.reduceToNat, hlm, hix, hld, hixj, hldj, he']; repeat first | ((first | with_reducible refine split2_pk (by omega) ?_ | with_reducible refine split2_nk (by omega) ?_); intro hsq; try simp (maxSteps := 4000000) (disch := first | omega | (simp only [push_n, set_n, clr_n, also_n, List.length_replicate, List.length_set, List.length_map, List.length_append, List.length_take, List.length_drop, List.length_cons, List.length_nil]; first | done | omega) | (with_reducible decide)) only [go_sem, Int.reduceEq, Int.reduceNe, Int.reduceLT, Int.reduceLE, Nat.reduceEqDiff, Int.reduceToNat, Nat.reduceSub, Nat.reduceAdd, Nat.reduceMul, Nat.reduceLT, Nat.reduceLeDiff, Int.reduceNeg, Int.reduceAdd, Int.reduceSub, Int.reduceMul, UInt8.reduceToNat, hlm, hix, hld, hixj, hldj, he', hsq]))
          exact ⟨p, rfl, hp1, hp2, hz, fun _ => he⟩
      · obtain rfl : p = n := by omega
        (try simp (maxSteps := 4000000) (disch := first | omega | (simp only [push_n, set_n, clr_n, also_n, List.length_replicate, List.length_set, List.length_map, List.length_append, List.length_take, List.length_drop, List.length_cons, List.length_nil]; first | done | omega) | (with_reducible decide)) only [go_sem, Int.reduceEq, Int.reduceNe, Int.reduceLT, Int.reduceLE, Nat.reduceEqDiff, Int.reduceToNat, Nat.reduceSub, Nat.reduceAdd, Nat.reduceMul, Nat.reduceLT, Nat.reduceLeDiff, Int.reduceNeg, Int.reduceAdd, Int.reduceSub, Int.reduceMul, UInt8.reduceToNat, hlm]; repeat first | ((first | with_reducible refine split2_pk (by omega) ?_ | with_reducible refine split2_nk (by omega) ?_); intro hsq; try simp (maxSteps := 4000000) (disch := first | omega | (simp only [push_n, set_n, clr_n, also_n, List.length_replicate, List.length_set, List.length_map, List.length_append, List.length_take, List.length_drop, List.length_cons, List.length_nil]; first | done | omega) | (with_reducible decide)) only [go_sem, Int.reduceEq, Int.reduceNe, Int.reduceLT, Int.reduceLE, Nat.reduceEqDiff, Int.reduceToNat, Nat.reduceSub, Nat.reduceAdd, Nat.reduceMul, Nat.reduceLT, Nat.reduceLeDiff, Int.reduceNeg, Int.reduceAdd, Int.reduceSub, Int.reduceMul, UInt8.reduceToNat, hlm, hsq]))
        exact ⟨_, rfl, hp1, hp2, hz, fun h => by omega⟩
    rintro at' H4 ⟨hp1, hp2, hz, hnz, rfl⟩
    by_cases hat : at' < n
    · have hne := hnz hat
      (refine wp_mid (σ := Unit) 1 (by kernel_rfl) (fun x => [(0, .slice ⟨false, B1, 0⟩ n c1), (1, .slice ⟨false, B2, 0⟩ n c2), (4, .int .i64 (i : Nat)), (5, .int .i64 (at' : Nat)), (12, .int .i64 (n : Nat)), (13, .int .i64 (i : Nat))]) (fun x H' => H' = H4) ?_ ?_; rotate_left; simp only [restC]; rotate_left; simp only [headN])
      · (try simp (maxSteps := 4000000) (disch := first | omega | (simp only [push_n, set_n, clr_n, also_n, List.length_replicate, List.length_set, List.length_map, List.length_append, List.length_take, List.length_drop, List.length_cons, List.length_nil]; first | done | omega) | (with_reducible decide)) only [go_sem, Int.reduceEq, Int.reduceNe, Int.reduceLT, Int.reduceLE, Nat.reduceEqDiff, Int.reduceToNat, Nat.reduceSub, Nat.reduceAdd, Nat.reduceMul, Nat.reduceLT, Nat.reduceLeDiff, Int.reduceNeg, Int.reduceAdd, Int.reduceSub, Int.reduceMul, UInt8.reduceToNat, hlm]; repeat first | ((first | with_reducible refine split2_pk (by omega) ?_ | with_reducible refine split2_nk (by omega) ?_); intro hsq; try simp (maxSteps := 4000000) (disch := first | omega | (simp only [push_n, set_n, clr_n, also_n, List.length_replicate, List.length_set, List.length_map, List.length_append, List.length_take, List.length_drop, List.length_cons, List.length_nil]; first | done | omega) | (with_reducible decide)) only [go_sem, Int.reduceEq, Int.reduceNe, Int.reduceLT, Int.reduceLE, Nat.reduceEqDiff, Int.reduceToNat, Nat.reduceSub, Nat.reduceAdd, Nat.reduceMul, Nat.reduceLT, Nat.reduceLeDiff, Int.reduceNeg, Int.reduceAdd, Int.reduceSub, Int.reduceMul, UInt8.reduceToNat, hlm, hsq]))
        exact ⟨(), trivial⟩
      rintro _ H5 rfl
      (refine wp_mid (σ := AVL) 1 (by kernel_rfl) (fun w1' => [(0, .slice ⟨false, B1, 0⟩ n c1), (1, .slice ⟨false, B2, 0⟩ n c2), (4, .int .i64 (i : Nat)), (5, .int .i64 (at' : Nat)), (12, .int .i64 (n : Nat)), (13, .int .i64 (i : Nat))]) (fun w1' H' => Two H1 H' S1 S2 B1 B2 w1' w2 (swapR [] A i at') B) ?_ ?_; rotate_left; simp only [restC]; rotate_left; simp only [headN])
      · have hix1 := hT.o1.ixB la hc1 (P := Try.prog) (t := 23) Try.underlying23 sz35 (k := .i64) (i := i) (by omega)
        have hix2 := hT.o1.ixB la hc1 (P := Try.prog) (t := 23) Try.underlying23 sz35 (k := .i64) (i := at') (by omega)
        have htop := hT.o1.top
        obtain ⟨bi, ki, a1, a2, a3, a4⟩ := hT.o1.at (i := i) (by omega)
        obtain ⟨ba, ka, d1, d2, d3, d4⟩ := hT.o1.at (i := at') (by omega)
        have hsw := hT.swap1 (i := i) (j := at') (by omega) (by omega)
        rw [a2, d2] at hsw
        have hwl := hT.o1.len
        have f1 := a3.isSome
        have f2 := d3.isSome
        have f3 := cells_lt htop
        (try simp (maxSteps := 4000000) (disch := first | omega | (simp only [push_n, set_n, clr_n, also_n, List.length_replicate, List.length_set, List.length_map, List.length_append, List.length_take, List.length_drop, List.length_cons, List.length_nil]; first | done | omega) | (with_reducible decide)) only [go_sem, Int.reduceEq, Int.reduceNe, Int.reduceLT, Int.reduceLE, Nat.reduceEqDiff, Int.reduceToNat, Nat.reduceSub, Nat.reduceAdd, Nat.reduceMul, Nat.reduceLT, Nat.reduceLeDiff, Int.reduceNeg, Int.reduceAdd, Int.reduceSub, Int.reduceMul, UInt8.reduceToNat]; repeat first | ((first | with_reducible refine split2_pk (by omega) ?_ | with_reducible refine split2_nk (by omega) ?_); intro hsq; try simp (maxSteps := 4000000) (disch := first | omega | (simp only [push_n, set_n, clr_n, also_n, List.length_replicate, List.length_set, List.length_map, List.length_append, List.length_take, List.length_drop, List.length_cons, List.length_nil]; first | done | omega) | (with_reducible decide)) only [go_sem, Int.reduceEq, Int.reduceNe, Int.reduceLT, Int.reduceLE, Nat.reduceEqDiff, Int.reduceToNat, Nat.reduceSub, Nat.reduceAdd, Nat.reduceMul, Nat.reduceLT, Nat.reduceLeDiff, Int.reduceNeg, Int.reduceAdd, Int.reduceSub, Int.reduceMul, UInt8.reduceToNat, hsq]))
        (refine awp_drawP (hl := []) [eqM H5,  eqM (H5.set B1 (some (.cells (w1.set i (.slice ⟨false, ba, 0⟩ (A.getD at' []).length ka))))),  fun _ => True] [(0, some 0), (1, some 0), (2, some 1), (3, some 1), (4, some 0), (5, some 0), (6, some 0), (7, some 0), (8, some 0), (9, some 0), (10, some 0), (11, some 0), (12, some 0), (13, none), (14, some 0), (15, none)] [13, 15] (by kernel_rfl) (by rfl) (by decide +kernel) (rofP_0 ?_) ?_; rotate_left; (conv => arg 5; simp only [List.map_cons, List.map_nil, List.getElem?_toArray, List.getElem?_cons_zero, List.getElem?_cons_succ]); rotate_left)
        · rfl
        (try simp (maxSteps := 4000000) (disch := first | omega | (simp only [push_n, set_n, clr_n, also_n, List.length_replicate, List.length_set, List.length_map, List.length_append, List.length_take, List.length_drop, List.length_cons, List.length_nil]; first | done | omega) | (with_reducible decide)) only [go_sem, Int.reduceEq, Int.reduceNe, Int.reduceLT, Int.reduceLE, Nat.reduceEqDiff, Int.reduceToNat, Nat.reduceSub, Nat.reduceAdd, Nat.reduceMul, Nat.reduceLT, Nat.reduceLeDiff, Int.reduceNeg, Int.reduceAdd, Int.reduceSub, Int.reduceMul, UInt8.reduceToNat, hix1, hix2, htop, a1, d1, f1, f2]; repeat first | ((first | with_reducible refine split2_pk (by omega) ?_ | with_reducible refine split2_nk (by omega) ?_); intro hsq; try simp (maxSteps := 4000000) (disch := first | omega | (simp only [push_n, set_n, clr_n, also_n, List.length_replicate, List.length_set, List.length_map, List.length_append, List.length_take, List.length_drop, List.length_cons, List.length_nil]; first | done | omega) | (with_reducible decide)) only [go_sem, Int.reduceEq, Int.reduceNe, Int.reduceLT, Int.reduceLE, Nat.reduceEqDiff, Int.reduceToNat, Nat.reduceSub, Nat.reduceAdd, Nat.reduceMul, Nat.reduceLT, Nat.reduceLeDiff, Int.reduceNeg, Int.reduceAdd, Int.reduceSub, Int.reduceMul, UInt8.reduceToNat, hix1, hix2, htop, a1, d1, f1, f2, hsq]))
        exact ⟨_, hsw⟩
      rintro w1' H6 hT6
      have la' : (swapR [] A i at').length = n := by rw [swapR_len]; exact la
      (refine wp_mid (σ := AVL) 1 (by kernel_rfl) (fun w2' => [(0, .slice ⟨false, B1, 0⟩ n c1), (1, .slice ⟨false, B2, 0⟩ n c2), (4, .int .i64 (i : Nat)), (12, .int .i64 (n : Nat)), (13, .int .i64 (i : Nat)), (5, .int .i64 (at' : Nat))]) (fun w2' H' => Two H1 H' S1 S2 B1 B2 w1' w2' (swapR [] A i at') (swapR [] B i at')) ?_ ?_; rotate_left; simp only [restC]; rotate_left; simp only [headN])
      · have hix1 := hT6.o2.ixB lb hc2 (P := Try.prog) (t := 23) Try.underlying23 sz35 (k := .i64) (i := i) (by omega)
        have hix2 := hT6.o2.ixB lb hc2 (P := Try.prog) (t := 23) Try.underlying23 sz35 (k := .i64) (i := at') (by omega)
        have htop := hT6.o2.top
        obtain ⟨bi, ki, a1, a2, a3, a4⟩ := hT6.o2.at (i := i) (by omega)
        obtain ⟨ba, ka, d1, d2, d3, d4⟩ := hT6.o2.at (i := at') (by omega)
        have hsw := hT6.swap2 (i := i) (j := at') (by omega) (by omega)
        rw [a2, d2] at hsw
        have hwl := hT6.o2.len
        have f1 := a3.isSome
        have f2 := d3.isSome
        have f3 := cells_lt htop
        (try simp (maxSteps := 4000000) (disch := first | omega | (simp only [push_n, set_n, clr_n, also_n, List.length_replicate, List.length_set, List.length_map, List.length_append, List.length_take, List.length_drop, List.length_cons, List.length_nil]; first | done | omega) | (with_reducible decide)) only [go_sem, Int.reduceEq, Int.reduceNe, Int.reduceLT, Int.reduceLE, Nat.reduceEqDiff, Int.reduceToNat, Nat.reduceSub, Nat.reduceAdd, Nat.reduceMul, Nat.reduceLT, Nat.reduceLeDiff, Int.reduceNeg, Int.reduceAdd, Int.reduceSub, Int.reduceMul, UInt8.reduceToNat]; repeat first | ((first | with_reducible refine split2_pk (by omega) ?_ | with_reducible refine split2_nk (by omega) ?_); intro hsq; try simp (maxSteps := 4000000) (disch := first | omega | (simp only [push_n, set_n, clr_n, also_n, List.length_replicate, List.length_set, List.length_map, List.length_append, List.length_take, List.length_drop, List.length_cons, List.length_nil]; first | done | omega) | (with_reducible decide)) only [go_sem, Int.reduceEq, Int.reduceNe, Int.reduceLT, Int.reduceLE, Nat.reduceEqDiff, Int.reduceToNat, Nat.reduceSub, Nat.reduceAdd, Nat.reduceMul, Nat.reduceLT, Nat.reduceLeDiff, Int.reduceNeg, Int.reduceAdd, Int.reduceSub, Int.reduceMul, UInt8.reduceToNat, hsq]))
        (refine awp_drawP (hl := []) [eqM H6,  eqM (H6.set B2 (some (.cells (w2.set i (.slice ⟨false, ba, 0⟩ (B.getD at' []).length ka))))),  fun _ => True] [(0, some 0), (1, some 0), (2, some 1), (3, some 1), (4, some 0), (5, some 0), (6, some 0), (7, some 0), (8, some 0), (9, some 0), (10, some 0), (11, some 0), (12, some 0), (13, none), (14, some 0), (15, none)] [13, 15] (by kernel_rfl) (by rfl) (by decide +kernel) (rofP_0 ?_) ?_; rotate_left; (conv => arg 5; simp only [List.map_cons, List.map_nil, List.getElem?_toArray, List.getElem?_cons_zero, List.getElem?_cons_succ]); rotate_left)
        · rfl
        (try simp (maxSteps := 4000000) (disch := first | omega | (simp only [push_n, set_n, clr_n, also_n, List.length_replicate, List.length_set, List.length_map, List.length_append, List.length_take, List.length_drop, List.length_cons, List.length_nil]; first | done | omega) | (with_reducible decide)) only [go_sem, Int.reduceEq, Int.reduceNe, Int.reduceLT, Int.reduceLE, Nat.reduceEqDiff, Int.reduceToNat, Nat.reduceSub, Nat.reduceAdd, Nat.reduceMul, Nat.reduceLT, Nat.reduceLeDiff, Int.reduceNeg, Int.reduceAdd, Int.reduceSub, Int.reduceMul, UInt8.reduceToNat, hix1, hix2, htop, a1, d1, f1, f2]; repeat first | ((first | with_reducible refine split2_pk (by omega) ?_ | with_reducible refine split2_nk (by omega) ?_); intro hsq; try simp (maxSteps := 4000000) (disch := first | omega | (simp only [push_n, set_n, clr_n, also_n, List.length_replicate, List.length_set, List.length_map, List.length_append, List.length_take, List.length_drop, List.length_cons, List.length_nil]; first | done | omega) | (with_reducible decide)) only [go_sem, Int.reduceEq, Int.reduceNe, Int.reduceLT, Int.reduceLE, Nat.reduceEqDiff, Int.reduceToNat, Nat.reduceSub, Nat.reduceAdd, Nat.reduceMul, Nat.reduceLT, Nat.reduceLeDiff, Int.reduceNeg, Int.reduceAdd, Int.reduceSub, Int.reduceMul, UInt8.reduceToNat, hix1, hix2, htop, a1, d1, f1, f2, hsq]))
        exact ⟨_, hsw⟩
      rintro w2' H7 hT7
      have hE7 := hEi.swap (k := i) (j := at') (by omega) hat (by omega) hp1
      have lb' : (swapR [] B i at').length = n := by rw [swapR_len]; exact lb
      have hpv : ent (swapR [] A i at') i i = ent A at' i := by
        unfold ent
        rw [swapR_get _ (by omega) (by omega)]
        split
        · rename_i e; rw [← e]
        · rw [if_pos rfl]
      generalize swapR [] A i at' = A7 at hT7 hE7 la' hpv
      generalize swapR [] B i at' = B7 at hT7 hE7 lb'
      have hpne : ent A7 i i ≠ 0 := by rw [hpv]; exact hne
      clear hT6 hT hEi hz hnz hpv hne
      (refine wp_mid (σ := Unit) 1 (by kernel_rfl) (fun x => [(0, .slice ⟨false, B1, 0⟩ n c1), (1, .slice ⟨false, B2, 0⟩ n c2), (4, .int .i64 (i : Nat)), (6, bv (ginv (ent A7 i i))), (12, .int .i64 (n : Nat)), (13, .int .i64 (i : Nat))]) (fun x H' => H' = H7) ?_ ?_; rotate_left; simp only [restC]; rotate_left; simp only [headN])
      · have hrows := hT7.o1.isRows (c := c1) (by rw [la']; exact hc1)
        rw [la'] at hrows
        have hix := hrows.ix (P := Try.prog) Try.underlying23 sz35 (k := .i64) (i := (i : Int)) (by omega) (by omega)
        have hld := hrows.ld (i := i) (by omega)
        have hb := hT7.o1.each i (by omega)
        have hpl := hE7.sa.2 i hil
        have hixj := hb.ix (P := Try.prog) Try.underlying35 sz5 (k := .i64) (i := (i : Int)) (by omega) (by omega)
        have hldj := hb.ld (i := i) (by omega)
        have hr : invRes (ent A7 i i) = .tup [bv (ginv (ent A7 i i)), .int .i64 0] := by rw [invRes, if_neg hpne]
        rw [show (A7.getD i []).getD i 0 = ent A7 i i from rfl] at hldj
        (try simp (maxSteps := 4000000) (disch := first | omega | (simp only [push_n, set_n, clr_n, also_n, List.length_replicate, List.length_set, List.length_map, List.length_append, List.length_take, List.length_drop, List.length_cons, List.length_nil]; first | done | omega) | (with_reducible decide)) only [go_sem, Int.reduceEq, Int.reduceNe, Int.reduceLT, Int.reduceLE, Nat.reduceEqDiff, Int.reduceToNat, Nat.reduceSub, Nat.reduceAdd, Nat.reduceMul, Nat.reduceLT, Nat.reduceLeDiff, Int.reduceNeg, Int.reduceAdd, Int.reduceSub, Int.reduceMul, UInt8.reduceToNat, hix, hld, hixj, hldj, hr]; repeat first | ((first | refine ASpec.eq (inv_spec _ _) ?_); try simp (maxSteps := 4000000) (disch := first | omega | (simp only [push_n, set_n, clr_n, also_n, List.length_replicate, List.length_set, List.length_map, List.length_append, List.length_take, List.length_drop, List.length_cons, List.length_nil]; first | done | omega) | (with_reducible decide)) only [go_sem, Int.reduceEq, Int.reduceNe, Int.reduceLT, Int.reduceLE, Nat.reduceEqDiff, Int.reduceToNat, Nat.reduceSub, Nat.reduceAdd, Nat.reduceMul, Nat.reduceLT, Nat.reduceLeDiff, Int.reduceNeg, Int.reduceAdd, Int.reduceSub, Int.reduceMul, UInt8.reduceToNat, hix, hld, hixj, hldj, hr]) | ((first | with_reducible refine split2_pk (by omega) ?_ | with_reducible refine split2_nk (by omega) ?_); intro hsq; try simp (maxSteps := 4000000) (disch := first | omega | (simp only [push_n, set_n, clr_n, also_n, List.length_replicate, List.length_set, List.length_map, List.length_append, List.length_take, List.length_drop, List.length_cons, List.length_nil]; first | done | omega) | (with_reducible decide)) only [go_sem, Int.reduceEq, Int.reduceNe, Int.reduceLT, Int.reduceLE, Nat.reduceEqDiff, Int.reduceToNat, Nat.reduceSub, Nat.reduceAdd, Nat.reduceMul, Nat.reduceLT, Nat.reduceLeDiff, Int.reduceNeg, Int.reduceAdd, Int.reduceSub, Int.reduceMul, UInt8.reduceToNat, hix, hld, hixj, hldj, hr, hsq]))
        exact ⟨(), trivial⟩
      rintro _ H8 rfl
      have hx := inv_ne hpne
      have hpi := mul_inv hpne
      generalize ginv (ent A7 i i) = x at hx hpi ⊢
      have ra := hE7.sa.2 i hil
      have rb := hE7.sb.2 i hil
      (refine wp_mid (σ := Unit) 1 (by kernel_rfl) (fun u => [(0, .slice ⟨false, B1, 0⟩ n c1), (1, .slice ⟨false, B2, 0⟩ n c2), (4, .int .i64 (i : Nat)), (12, .int .i64 (n : Nat)), (13, .int .i64 (i : Nat))]) (fun u H' => Two H1 H' S1 S2 B1 B2 w1' w2' (A7.set i (scaleRow (A7.getD i []) x)) (B7.set i (scaleRow (B7.getD i []) x))) ?_ ?_; rotate_left; simp only [restC]; rotate_left; simp only [headN])
      · have hrows := hT7.o1.isRows (c := c1) (by rw [la']; exact hc1)
        rw [la'] at hrows
        have hix := hrows.ix (P := Try.prog) Try.underlying23 sz35 (k := .i64) (i := (i : Int)) (by omega) (by omega)
        have hld := hrows.ld (i := i) (by omega)
        have hl := (hT7.o1.each i (by omega)).length (P := Try.prog) Try.underlying35
        have sl1 : (scaleRow (A7.getD i []) x).length = n := by rw [scaleRow_len, ra]
        have sl2 : (scaleRow (B7.getD i []) x).length = n := by rw [scaleRow_len, rb]
        (try simp (maxSteps := 4000000) (disch := first | omega | (simp only [push_n, set_n, clr_n, also_n, List.length_replicate, List.length_set, List.length_map, List.length_append, List.length_take, List.length_drop, List.length_cons, List.length_nil]; first | done | omega) | (with_reducible decide)) only [go_sem, Int.reduceEq, Int.reduceNe, Int.reduceLT, Int.reduceLE, Nat.reduceEqDiff, Int.reduceToNat, Nat.reduceSub, Nat.reduceAdd, Nat.reduceMul, Nat.reduceLT, Nat.reduceLeDiff, Int.reduceNeg, Int.reduceAdd, Int.reduceSub, Int.reduceMul, UInt8.reduceToNat, hix, hld, hl, ra]; repeat first | ((first | with_reducible refine split2_pk (by omega) ?_ | with_reducible refine split2_nk (by omega) ?_); intro hsq; try simp (maxSteps := 4000000) (disch := first | omega | (simp only [push_n, set_n, clr_n, also_n, List.length_replicate, List.length_set, List.length_map, List.length_append, List.length_take, List.length_drop, List.length_cons, List.length_nil]; first | done | omega) | (with_reducible decide)) only [go_sem, Int.reduceEq, Int.reduceNe, Int.reduceLT, Int.reduceLE, Nat.reduceEqDiff, Int.reduceToNat, Nat.reduceSub, Nat.reduceAdd, Nat.reduceMul, Nat.reduceLT, Nat.reduceLeDiff, Int.reduceNeg, Int.reduceAdd, Int.reduceSub, Int.reduceMul, UInt8.reduceToNat, hix, hld, hl, ra, hsq]))
        refine wp_loopS (σ := Nat) (by kernel_rfl) (fun j => [(0, .slice ⟨false, B1, 0⟩ n c1), (1, .slice ⟨false, B2, 0⟩ n c2), (4, .int .i64 (i : Nat)), (6, bv x), (12, .int .i64 (n : Nat)), (13, .int .i64 (i : Nat)), (83, .int .i64 (n : Nat)), (84, .int .i64 (j : Nat))]) (fun j H' => j ≤ n ∧ Two H1 H' S1 S2 B1 B2 w1' w2' (A7.set i ((scaleRow (A7.getD i []) x).take j ++ (A7.getD i []).drop j)) (B7.set i ((scaleRow (B7.getD i []) x).take j ++ (B7.getD i []).drop j))) (fun j => n - j) (0) (by simp (maxSteps := 4000000) (disch := first | omega | (simp only [push_n, set_n, clr_n, also_n, List.length_replicate, List.length_set, List.length_map, List.length_append, List.length_take, List.length_drop, List.length_cons, List.length_nil]; first | done | omega) | (with_reducible decide)) only [go_sem, Int.reduceEq, Int.reduceNe, Int.reduceLT, Int.reduceLE, Nat.reduceEqDiff, Int.reduceToNat, Nat.reduceSub, Nat.reduceAdd, Nat.reduceMul, Nat.reduceLT, Nat.reduceLeDiff, Int.reduceNeg, Int.reduceAdd, Int.reduceSub, Int.reduceMul, UInt8.reduceToNat, ra]) ?_ ?_
        · refine ⟨by omega, ?_⟩
          have e1 : A7.set i (A7.getD i []) = A7 := by simp [List.getD, show i < A7.length by omega]
          have e2 : B7.set i (B7.getD i []) = B7 := by simp [List.getD, show i < B7.length by omega]
          simp only [List.take_zero, List.nil_append, List.drop_zero, e1, e2]
          exact hT7
        rintro j H9 ⟨hj, hT9⟩
        have g1 : ∀ R : List UInt8, (A7.set i R).getD i [] = R := fun R => by rw [getD_set _ _ _ _ _ (by omega), if_pos rfl]
        have g2 : ∀ R : List UInt8, (B7.set i R).getD i [] = R := fun R => by rw [getD_set _ _ _ _ _ (by omega), if_pos rfl]
        by_cases hjn : j < n
        · have m1 := mix_len (scaleRow (A7.getD i []) x) (A7.getD i []) (i := j) (by omega)
          have m2 := mix_len (scaleRow (B7.getD i []) x) (B7.getD i []) (i := j) (by omega)
          have p1 := mix_step 0 (scaleRow (A7.getD i []) x) (A7.getD i []) (i := j) (by omega) (by omega)
          have p2 := mix_step 0 (scaleRow (B7.getD i []) x) (B7.getD i []) (i := j) (by omega) (by omega)
          have q1 := mix_get 0 (scaleRow (A7.getD i []) x) (A7.getD i []) (i := j) (by omega)
          have q2 := mix_get 0 (scaleRow (B7.getD i []) x) (B7.getD i []) (i := j) (by omega)
          rw [scaleRow_get] at p1 p2
          have hne := hT9.ne (i := i) (j := i) (by rw [List.length_set]; omega) (by rw [List.length_set]; omega)
          obtain ⟨b, k, l0, a1, a2, a3, a4, a5, a6, a7⟩ := hT9.cell1 (i := i) (j := j) (by rw [List.length_set]; omega) (by rw [g1, m1]; omega)
          obtain ⟨b2, k2, l2, d1, d2, d3, d4, d5, d6, d7⟩ := hT9.cell2 (i := i) (j := j) (by rw [List.length_set]; omega) (by rw [g2, m2]; omega)
          have t1 := a7 (gmul ((A7.getD i []).getD j 0) x)
          obtain ⟨b3, k3, l3, f1, f2, f3, f4, f5, f6, f7⟩ := t1.cell2 (i := i) (j := j) (by rw [List.length_set]; omega) (by rw [g2, m2]; omega)
          rw [a6, d6] at hne
          obtain rfl : b3 = b2 := f6.symm.trans d6
          rw [set_cells_ne hne, d3] at f3
          injection f3 with f3
          subst f3
          have t2 := f7 (gmul ((B7.getD i []).getD j 0) x)
          rw [g1] at t2
          rw [g2, p2, List.set_set, List.set_set, p1] at t2
          rw [g1, q1] at a5
          rw [g2, q2] at d5
          rw [g1] at a1 a2
          rw [g2] at d1 d2
          have hix1 := hT9.o1.ixB (by rw [List.length_set]; exact la') hc1 (P := Try.prog) (t := 23) Try.underlying23 sz35 (k := .i64) (i := i) (by omega)
          have hix2 := hT9.o2.ixB (by rw [List.length_set]; exact lb') hc2 (P := Try.prog) (t := 23) Try.underlying23 sz35 (k := .i64) (i := i) (by omega)
          have htop1 := hT9.o1.top
          have htop2 := hT9.o2.top
          have hixj1 := a2.ixS (P := Try.prog) (t := 35) Try.underlying35 sz5 (k := .i64) (i := j) (by omega)
          have hixj2 := d2.ixS (P := Try.prog) (t := 35) Try.underlying35 sz5 (k := .i64) (i := j) (by omega)
          rw [Nat.zero_add] at hixj1 hixj2
          have v1 := a2.isSome
          have v2 := d2.isSome
          have n1 := a2.blk_lt
          have n2 := d2.blk_lt
          (try simp (maxSteps := 4000000) (disch := first | omega | (simp only [push_n, set_n, clr_n, also_n, List.length_replicate, List.length_set, List.length_map, List.length_append, List.length_take, List.length_drop, List.length_cons, List.length_nil]; first | done | omega) | (with_reducible decide)) only [go_sem, Int.reduceEq, Int.reduceNe, Int.reduceLT, Int.reduceLE, Nat.reduceEqDiff, Int.reduceToNat, Nat.reduceSub, Nat.reduceAdd, Nat.reduceMul, Nat.reduceLT, Nat.reduceLeDiff, Int.reduceNeg, Int.reduceAdd, Int.reduceSub, Int.reduceMul, UInt8.reduceToNat]; repeat first | ((first | with_reducible refine split2_pk (by omega) ?_ | with_reducible refine split2_nk (by omega) ?_); intro hsq; try simp (maxSteps := 4000000) (disch := first | omega | (simp only [push_n, set_n, clr_n, also_n, List.length_replicate, List.length_set, List.length_map, List.length_append, List.length_take, List.length_drop, List.length_cons, List.length_nil]; first | done | omega) | (with_reducible decide)) only [go_sem, Int.reduceEq, Int.reduceNe, Int.reduceLT, Int.reduceLE, Nat.reduceEqDiff, Int.reduceToNat, Nat.reduceSub, Nat.reduceAdd, Nat.reduceMul, Nat.reduceLT, Nat.reduceLeDiff, Int.reduceNeg, Int.reduceAdd, Int.reduceSub, Int.reduceMul, UInt8.reduceToNat, hsq]))
          (refine awp_drawH [90, 95, 109] [eqM H9.clr,  eqM H9.clr,  eqM H9.clr,  eqM (H9.clr.set b (some (.cells (l0.set j (bv (gmul ((A7.getD i []).getD j 0) x)))))),  fun _ => True] [(0, some 2), (1, some 2), (2, some 2), (3, some 2), (4, some 2), (5, some 2), (6, some 2), (7, some 2), (8, some 2), (9, some 3), (10, some 0), (11, some 0), (12, some 0), (13, some 0), (14, some 0), (15, some 0), (16, some 0), (17, some 0), (19, some 1), (20, some 1), (21, some 1), (22, some 1), (23, some 1), (24, some 1), (25, some 1), (26, some 1), (18, none), (27, none), (28, some 0), (29, none), (30, some 0), (31, none)] [18, 27, 29, 31] (by kernel_rfl) (by rfl) (by decide +kernel) (rofP_0 ?_) ?_; rotate_left; (conv => arg 5; simp only [List.map_cons, List.map_nil, List.getElem?_toArray, List.getElem?_cons_zero, List.getElem?_cons_succ]); rotate_left)
          · rfl
          (try simp (maxSteps := 4000000) (disch := first | omega | (simp only [push_n, set_n, clr_n, also_n, List.length_replicate, List.length_set, List.length_map, List.length_append, List.length_take, List.length_drop, List.length_cons, List.length_nil]; first | done | omega) | (with_reducible decide)) only [go_sem, Int.reduceEq, Int.reduceNe, Int.reduceLT, Int.reduceLE, Nat.reduceEqDiff, Int.reduceToNat, Nat.reduceSub, Nat.reduceAdd, Nat.reduceMul, Nat.reduceLT, Nat.reduceLeDiff, Int.reduceNeg, Int.reduceAdd, Int.reduceSub, Int.reduceMul, UInt8.reduceToNat, hix1, hix2, htop1, htop2, a1, d1, hixj1, hixj2, a3, a5, d3, d5, v1, v2, Option.isSome_some]; repeat first | ((first | refine ASpec.eq (mul_spec _ _ _) ?_); try simp (maxSteps := 4000000) (disch := first | omega | (simp only [push_n, set_n, clr_n, also_n, List.length_replicate, List.length_set, List.length_map, List.length_append, List.length_take, List.length_drop, List.length_cons, List.length_nil]; first | done | omega) | (with_reducible decide)) only [go_sem, Int.reduceEq, Int.reduceNe, Int.reduceLT, Int.reduceLE, Nat.reduceEqDiff, Int.reduceToNat, Nat.reduceSub, Nat.reduceAdd, Nat.reduceMul, Nat.reduceLT, Nat.reduceLeDiff, Int.reduceNeg, Int.reduceAdd, Int.reduceSub, Int.reduceMul, UInt8.reduceToNat, hix1, hix2, htop1, htop2, a1, d1, hixj1, hixj2, a3, a5, d3, d5, v1, v2, Option.isSome_some]) | ((first | with_reducible refine split2_pk (by omega) ?_ | with_reducible refine split2_nk (by omega) ?_); intro hsq; try simp (maxSteps := 4000000) (disch := first | omega | (simp only [push_n, set_n, clr_n, also_n, List.length_replicate, List.length_set, List.length_map, List.length_append, List.length_take, List.length_drop, List.length_cons, List.length_nil]; first | done | omega) | (with_reducible decide)) only [go_sem, Int.reduceEq, Int.reduceNe, Int.reduceLT, Int.reduceLE, Nat.reduceEqDiff, Int.reduceToNat, Nat.reduceSub, Nat.reduceAdd, Nat.reduceMul, Nat.reduceLT, Nat.reduceLeDiff, Int.reduceNeg, Int.reduceAdd, Int.reduceSub, Int.reduceMul, UInt8.reduceToNat, hix1, hix2, htop1, htop2, a1, d1, hixj1, hixj2, a3, a5, d3, d5, v1, v2, Option.isSome_some, hsq]))
          (refine ⟨j + 1, ?_⟩; and_intros; all_goals (try first | rfl | assumption | omega))
        · obtain rfl : j = n := by omega
          rw [mix_end _ _ (by omega) (by omega), mix_end _ _ (by omega) (by omega)] at hT9
          (try simp (maxSteps := 4000000) (disch := first | omega | (simp only [push_n, set_n, clr_n, also_n, List.length_replicate, List.length_set, List.length_map, List.length_append, List.length_take, List.length_drop, List.length_cons, List.length_nil]; first | done | omega) | (with_reducible decide)) only [go_sem, Int.reduceEq, Int.reduceNe, Int.reduceLT, Int.reduceLE, Nat.reduceEqDiff, Int.reduceToNat, Nat.reduceSub, Nat.reduceAdd, Nat.reduceMul, Nat.reduceLT, Nat.reduceLeDiff, Int.reduceNeg, Int.reduceAdd, Int.reduceSub, Int.reduceMul, UInt8.reduceToNat]; repeat first | ((first | with_reducible refine split2_pk (by omega) ?_ | with_reducible refine split2_nk (by omega) ?_); intro hsq; try simp (maxSteps := 4000000) (disch := first | omega | (simp only [push_n, set_n, clr_n, also_n, List.length_replicate, List.length_set, List.length_map, List.length_append, List.length_take, List.length_drop, List.length_cons, List.length_nil]; first | done | omega) | (with_reducible decide)) only [go_sem, Int.reduceEq, Int.reduceNe, Int.reduceLT, Int.reduceLE, Nat.reduceEqDiff, Int.reduceToNat, Nat.reduceSub, Nat.reduceAdd, Nat.reduceMul, Nat.reduceLT, Nat.reduceLeDiff, Int.reduceNeg, Int.reduceAdd, Int.reduceSub, Int.reduceMul, UInt8.reduceToNat, hsq]))
          exact ⟨(), hT9⟩
      rintro _ H9 hT9
      have hE9 := hE7.scale hil hx
      have h1i : ent (A7.set i (scaleRow (A7.getD i []) x)) i i = 1 := by
        rw [ent_set (by omega), if_pos rfl, scaleRow_get]
        exact hpi
      generalize A7.set i (scaleRow (A7.getD i []) x) = A9 at hT9 hE9 h1i
      generalize B7.set i (scaleRow (B7.getD i []) x) = B9 at hT9 hE9
      clear hE7 hT7 hpi hpne ra rb la' lb' hx
      refine wp_sound _ (by kernel_rfl) ?_
      (try simp (maxSteps := 4000000) (disch := first | omega | (simp only [push_n, set_n, clr_n, also_n, List.length_replicate, List.length_set, List.length_map, List.length_append, List.length_take, List.length_drop, List.length_cons, List.length_nil]; first | done | omega) | (with_reducible decide)) only [go_sem, Int.reduceEq, Int.reduceNe, Int.reduceLT, Int.reduceLE, Nat.reduceEqDiff, Int.reduceToNat, Nat.reduceSub, Nat.reduceAdd, Nat.reduceMul, Nat.reduceLT, Nat.reduceLeDiff, Int.reduceNeg, Int.reduceAdd, Int.reduceSub, Int.reduceMul, UInt8.reduceToNat, hlm]; repeat first | ((first | with_reducible refine split2_pk (by omega) ?_ | with_reducible refine split2_nk (by omega) ?_); intro hsq; try simp (maxSteps := 4000000) (disch := first | omega | (simp only [push_n, set_n, clr_n, also_n, List.length_replicate, List.length_set, List.length_map, List.length_append, List.length_take, List.length_drop, List.length_cons, List.length_nil]; first | done | omega) | (with_reducible decide)) only [go_sem, Int.reduceEq, Int.reduceNe, Int.reduceLT, Int.reduceLE, Nat.reduceEqDiff, Int.reduceToNat, Nat.reduceSub, Nat.reduceAdd, Nat.reduceMul, Nat.reduceLT, Nat.reduceLeDiff, Int.reduceNeg, Int.reduceAdd, Int.reduceSub, Int.reduceMul, UInt8.reduceToNat, hlm, hsq]))
      refine wp_loopS (σ := Nat × Rows8 × Rows8) (by kernel_rfl) (fun (k, A, B) => [(0, .slice ⟨false, B1, 0⟩ n c1), (1, .slice ⟨false, B2, 0⟩ n c2), (4, .int .i64 (i : Nat)), (12, .int .i64 (n : Nat)), (13, .int .i64 (i : Nat)), (119, .int .i64 (n : Nat)), (120, .int .i64 (k : Nat))]) (fun (k, A, B) H' => k ≤ n ∧ Two H1 H' S1 S2 B1 B2 w1' w2' A B ∧ Elim n M A B i ∧ ent A i i = 1 ∧ ∀ r, r < k → r ≠ i → ent A r i = 0) (fun (k, A, B) => n - k) (0, A9, B9) (by simp (maxSteps := 4000000) (disch := first | omega | (simp only [push_n, set_n, clr_n, also_n, List.length_replicate, List.length_set, List.length_map, List.length_append, List.length_take, List.length_drop, List.length_cons, List.length_nil]; first | done | omega) | (with_reducible decide)) only [go_sem, Int.reduceEq, Int.reduceNe, Int.reduceLT, Int.reduceLE, Nat.reduceEqDiff, Int.reduceToNat, Nat.reduceSub, Nat.reduceAdd, Nat.reduceMul, Nat.reduceLT, Nat.reduceLeDiff, Int.reduceNeg, Int.reduceAdd, Int.reduceSub, Int.reduceMul, UInt8.reduceToNat]) ?_ ?_
      · exact ⟨by omega, hT9, hE9, h1i, fun r hr => by omega⟩
      rintro ⟨k, A, B⟩ H10 ⟨hk, hT, hE10, hii, hdone⟩
      have la := hE10.sa.1
      have lb := hE10.sb.1
      by_cases hkn : k < n
      · by_cases hki : k = i
        · subst hki
          (try simp (maxSteps := 4000000) (disch := first | omega | (simp only [push_n, set_n, clr_n, also_n, List.length_replicate, List.length_set, List.length_map, List.length_append, List.length_take, List.length_drop, List.length_cons, List.length_nil]; first | done | omega) | (with_reducible decide)) only [go_sem, Int.reduceEq, Int.reduceNe, Int.reduceLT, Int.reduceLE, Nat.reduceEqDiff, Int.reduceToNat, Nat.reduceSub, Nat.reduceAdd, Nat.reduceMul, Nat.reduceLT, Nat.reduceLeDiff, Int.reduceNeg, Int.reduceAdd, Int.reduceSub, Int.reduceMul, UInt8.reduceToNat]; repeat first | ((first | with_reducible refine split2_pk (by omega) ?_ | with_reducible refine split2_nk (by omega) ?_); intro hsq; try simp (maxSteps := 4000000) (disch := first | omega | (simp only [push_n, set_n, clr_n, also_n, List.length_replicate, List.length_set, List.length_map, List.length_append, List.length_take, List.length_drop, List.length_cons, List.length_nil]; first | done | omega) | (with_reducible decide)) only [go_sem, Int.reduceEq, Int.reduceNe, Int.reduceLT, Int.reduceLE, Nat.reduceEqDiff, Int.reduceToNat, Nat.reduceSub, Nat.reduceAdd, Nat.reduceMul, Nat.reduceLT, Nat.reduceLeDiff, Int.reduceNeg, Int.reduceAdd, Int.reduceSub, Int.reduceMul, UInt8.reduceToNat, hsq]))
          (refine ⟨(k + 1, A, B), ?_⟩; and_intros; all_goals (try first | rfl | assumption | omega))
          intro r h1 h2
          exact hdone r (by omega) h2
        · have hrows := hT.o1.isRows (c := c1) (by rw [la]; exact hc1)
          rw [la] at hrows
          have hix := hrows.ix (P := Try.prog) Try.underlying23 sz35 (k := .i64) (i := (k : Int)) (by omega) (by omega)
          have hld := hrows.ld (i := k) (by omega)
          have hb := hT.o1.each k (by omega)
          have hpl := hE10.sa.2 k hkn
          have hixi := hrows.ix (P := Try.prog) Try.underlying23 sz35 (k := .i64) (i := (i : Int)) (by omega) (by omega)
          have hldi := hrows.ld (i := i) (by omega)
          have hlv1 := hrows.row.live (i := k) (by omega)
          have hlv2 := hrows.row.live (i := i) (by omega)
          obtain ⟨bk, kk, a1, a2, a3, a4⟩ := hT.o1.at (i := k) (by omega)
          obtain ⟨bi, ki, d1, d2, d3, d4⟩ := hT.o1.at (i := i) (by omega)
          have hap := hT.o1.apart k i (by omega) (by omega) hki
          rw [a4, d4] at hap
          have hpi := hE10.sa.2 i hil
          have e1 := hE10.sb.2 k hkn
          have e2 := hE10.sb.2 i hil
          rw [a2] at hld
          have hixj := a3.ixS (P := Try.prog) (t := 35) Try.underlying35 sz5 (k := .i64) (i := i) (by omega)
          rw [Nat.zero_add] at hixj
          obtain ⟨l0, x1, x2, x3, _⟩ := a3.cell (i := i) (by omega)
          rw [Nat.zero_add, show (A.getD k []).getD i 0 = ent A k i from rfl] at x3
          rw [d2] at hldi
          (try simp (maxSteps := 4000000) (disch := first | omega | (simp only [push_n, set_n, clr_n, also_n, List.length_replicate, List.length_set, List.length_map, List.length_append, List.length_take, List.length_drop, List.length_cons, List.length_nil]; first | done | omega) | (with_reducible decide)) only [go_sem, Int.reduceEq, Int.reduceNe, Int.reduceLT, Int.reduceLE, Nat.reduceEqDiff, Int.reduceToNat, Nat.reduceSub, Nat.reduceAdd, Nat.reduceMul, Nat.reduceLT, Nat.reduceLeDiff, Int.reduceNeg, Int.reduceAdd, Int.reduceSub, Int.reduceMul, UInt8.reduceToNat, hix, hld, hixj, x1, x3]; repeat first | ((first | with_reducible refine split2_pk (by omega) ?_ | with_reducible refine split2_nk (by omega) ?_); intro hsq; try simp (maxSteps := 4000000) (disch := first | omega | (simp only [push_n, set_n, clr_n, also_n, List.length_replicate, List.length_set, List.length_map, List.length_append, List.length_take, List.length_drop, List.length_cons, List.length_nil]; first | done | omega) | (with_reducible decide)) only [go_sem, Int.reduceEq, Int.reduceNe, Int.reduceLT, Int.reduceLE, Nat.reduceEqDiff, Int.reduceToNat, Nat.reduceSub, Nat.reduceAdd, Nat.reduceMul, Nat.reduceLT, Nat.reduceLeDiff, Int.reduceNeg, Int.reduceAdd, Int.reduceSub, Int.reduceMul, UInt8.reduceToNat, hix, hld, hixj, x1, x3, hsq]))
          (refine awp_drawP (hl := []) [eqM H10,  fun _ => True] [(0, some 0), (1, some 0), (2, some 0), (3, some 0), (4, some 0), (5, some 0), (6, some 0), (7, some 0), (8, some 0), (9, none)] [9] (by kernel_rfl) (by rfl) (by decide +kernel) (rofP_0 ?_) ?_; rotate_left; (conv => arg 5; simp only [List.map_cons, List.map_nil, List.getElem?_toArray, List.getElem?_cons_zero, List.getElem?_cons_succ]); rotate_left)
          · rfl
          (try simp (maxSteps := 4000000) (disch := first | omega | (simp only [push_n, set_n, clr_n, also_n, List.length_replicate, List.length_set, List.length_map, List.length_append, List.length_take, List.length_drop, List.length_cons, List.length_nil]; first | done | omega) | (with_reducible decide)) only [go_sem, Int.reduceEq, Int.reduceNe, Int.reduceLT, Int.reduceLE, Nat.reduceEqDiff, Int.reduceToNat, Nat.reduceSub, Nat.reduceAdd, Nat.reduceMul, Nat.reduceLT, Nat.reduceLeDiff, Int.reduceNeg, Int.reduceAdd, Int.reduceSub, Int.reduceMul, UInt8.reduceToNat, hix, hld, hixi, hldi, hlv1, hlv2]; repeat first | ((first | with_reducible refine split2_pk (by omega) ?_ | with_reducible refine split2_nk (by omega) ?_); intro hsq; try simp (maxSteps := 4000000) (disch := first | omega | (simp only [push_n, set_n, clr_n, also_n, List.length_replicate, List.length_set, List.length_map, List.length_append, List.length_take, List.length_drop, List.length_cons, List.length_nil]; first | done | omega) | (with_reducible decide)) only [go_sem, Int.reduceEq, Int.reduceNe, Int.reduceLT, Int.reduceLE, Nat.reduceEqDiff, Int.reduceToNat, Nat.reduceSub, Nat.reduceAdd, Nat.reduceMul, Nat.reduceLT, Nat.reduceLeDiff, Int.reduceNeg, Int.reduceAdd, Int.reduceSub, Int.reduceMul, UInt8.reduceToNat, hix, hld, hixi, hldi, hlv1, hlv2, hsq]))
          refine (add_spec' H10 bk _ kk _ _ _ _ a3 d3 (off_blk (by simpa using fun e => hap e.symm)) (by omega) (by omega)).mono ?_
          rintro r H11 ⟨rfl, p1, p2⟩
          rw [← a4] at p2
          rw [← a2] at p1
          have hT11 := hT.row1 (i := k) (by omega) (by rw [addRow_len (by omega)]) p2 p1
          have hrows2 := hT11.o2.isRows (c := c2) (by rw [lb]; exact hc2)
          rw [lb] at hrows2
          have hixk2 := hrows2.ix (P := Try.prog) Try.underlying23 sz35 (k := .i64) (i := (k : Int)) (by omega) (by omega)
          have hldk2 := hrows2.ld (i := k) (by omega)
          have hixi2 := hrows2.ix (P := Try.prog) Try.underlying23 sz35 (k := .i64) (i := (i : Int)) (by omega) (by omega)
          have hldi2 := hrows2.ld (i := i) (by omega)
          have hlv3 := hrows2.row.live (i := k) (by omega)
          have hlv4 := hrows2.row.live (i := i) (by omega)
          obtain ⟨b2, k2, f1, f2, f3, f4⟩ := hT11.o2.at (i := k) (by omega)
          obtain ⟨b3, k3, g1, g2, g3, g4⟩ := hT11.o2.at (i := i) (by omega)
          have hap2 := hT11.o2.apart k i (by omega) (by omega) hki
          rw [f4, g4] at hap2
          rw [f2] at hldk2
          rw [g2] at hldi2
          (try simp (maxSteps := 4000000) (disch := first | omega | (simp only [push_n, set_n, clr_n, also_n, List.length_replicate, List.length_set, List.length_map, List.length_append, List.length_take, List.length_drop, List.length_cons, List.length_nil]; first | done | omega) | (with_reducible decide)) only [go_sem, Int.reduceEq, Int.reduceNe, Int.reduceLT, Int.reduceLE, Nat.reduceEqDiff, Int.reduceToNat, Nat.reduceSub, Nat.reduceAdd, Nat.reduceMul, Nat.reduceLT, Nat.reduceLeDiff, Int.reduceNeg, Int.reduceAdd, Int.reduceSub, Int.reduceMul, UInt8.reduceToNat]; repeat first | ((first | with_reducible refine split2_pk (by omega) ?_ | with_reducible refine split2_nk (by omega) ?_); intro hsq; try simp (maxSteps := 4000000) (disch := first | omega | (simp only [push_n, set_n, clr_n, also_n, List.length_replicate, List.length_set, List.length_map, List.length_append, List.length_take, List.length_drop, List.length_cons, List.length_nil]; first | done | omega) | (with_reducible decide)) only [go_sem, Int.reduceEq, Int.reduceNe, Int.reduceLT, Int.reduceLE, Nat.reduceEqDiff, Int.reduceToNat, Nat.reduceSub, Nat.reduceAdd, Nat.reduceMul, Nat.reduceLT, Nat.reduceLeDiff, Int.reduceNeg, Int.reduceAdd, Int.reduceSub, Int.reduceMul, UInt8.reduceToNat, hsq]))
          (refine awp_drawP (hl := []) [eqM H11,  fun _ => True] [(0, some 0), (1, some 0), (2, some 0), (3, some 0), (4, some 0), (5, some 0), (6, some 0), (7, some 0), (8, some 0), (9, none)] [9] (by kernel_rfl) (by rfl) (by decide +kernel) (rofP_0 ?_) ?_; rotate_left; (conv => arg 5; simp only [List.map_cons, List.map_nil, List.getElem?_toArray, List.getElem?_cons_zero, List.getElem?_cons_succ]); rotate_left)
          · rfl
          (try simp (maxSteps := 4000000) (disch := first | omega | (simp only [push_n, set_n, clr_n, also_n, List.length_replicate, List.length_set, List.length_map, List.length_append, List.length_take, List.length_drop, List.length_cons, List.length_nil]; first | done | omega) | (with_reducible decide)) only [go_sem, Int.reduceEq, Int.reduceNe, Int.reduceLT, Int.reduceLE, Nat.reduceEqDiff, Int.reduceToNat, Nat.reduceSub, Nat.reduceAdd, Nat.reduceMul, Nat.reduceLT, Nat.reduceLeDiff, Int.reduceNeg, Int.reduceAdd, Int.reduceSub, Int.reduceMul, UInt8.reduceToNat, hixk2, hldk2, hixi2, hldi2, hlv3, hlv4]; repeat first | ((first | with_reducible refine split2_pk (by omega) ?_ | with_reducible refine split2_nk (by omega) ?_); intro hsq; try simp (maxSteps := 4000000) (disch := first | omega | (simp only [push_n, set_n, clr_n, also_n, List.length_replicate, List.length_set, List.length_map, List.length_append, List.length_take, List.length_drop, List.length_cons, List.length_nil]; first | done | omega) | (with_reducible decide)) only [go_sem, Int.reduceEq, Int.reduceNe, Int.reduceLT, Int.reduceLE, Nat.reduceEqDiff, Int.reduceToNat, Nat.reduceSub, Nat.reduceAdd, Nat.reduceMul, Nat.reduceLT, Nat.reduceLeDiff, Int.reduceNeg, Int.reduceAdd, Int.reduceSub, Int.reduceMul, UInt8.reduceToNat, hixk2, hldk2, hixi2, hldi2, hlv3, hlv4, hsq]))
          refine (add_spec' H11 b2 _ k2 _ _ _ _ f3 g3 (off_blk (by simpa using fun e => hap2 e.symm)) (by omega) (by omega)).mono ?_
          rintro r H12 ⟨rfl, q1, q2⟩
          rw [← f4] at q2
          rw [← f2] at q1
          have hT12 := hT11.row2 (i := k) (by omega) (by rw [addRow_len (by omega)]) q2 q1
          have hE12 := hE10.add hkn hil hki (Nat.le_refl i) (ent A k i)
          (try simp (maxSteps := 4000000) (disch := first | omega | (simp only [push_n, set_n, clr_n, also_n, List.length_replicate, List.length_set, List.length_map, List.length_append, List.length_take, List.length_drop, List.length_cons, List.length_nil]; first | done | omega) | (with_reducible decide)) only [go_sem, Int.reduceEq, Int.reduceNe, Int.reduceLT, Int.reduceLE, Nat.reduceEqDiff, Int.reduceToNat, Nat.reduceSub, Nat.reduceAdd, Nat.reduceMul, Nat.reduceLT, Nat.reduceLeDiff, Int.reduceNeg, Int.reduceAdd, Int.reduceSub, Int.reduceMul, UInt8.reduceToNat]; repeat first | ((first | with_reducible refine split2_pk (by omega) ?_ | with_reducible refine split2_nk (by omega) ?_); intro hsq; try simp (maxSteps := 4000000) (disch := first | omega | (simp only [push_n, set_n, clr_n, also_n, List.length_replicate, List.length_set, List.length_map, List.length_append, List.length_take, List.length_drop, List.length_cons, List.length_nil]; first | done | omega) | (with_reducible decide)) only [go_sem, Int.reduceEq, Int.reduceNe, Int.reduceLT, Int.reduceLE, Nat.reduceEqDiff, Int.reduceToNat, Nat.reduceSub, Nat.reduceAdd, Nat.reduceMul, Nat.reduceLT, Nat.reduceLeDiff, Int.reduceNeg, Int.reduceAdd, Int.reduceSub, Int.reduceMul, UInt8.reduceToNat, hsq]))
          (refine ⟨(k + 1, A.set k (addRow (A.getD k []) (A.getD i []) (ent A k i)), B.set k (addRow (B.getD k []) (B.getD i []) (ent A k i))), ?_⟩; and_intros; all_goals (try first | rfl | assumption | omega))
          · rw [ent_set (by omega), if_neg (by omega)]; exact hii
          · intro r h1 h2
            rw [ent_set (by omega)]
            split
            · rename_i e
              rw [addRow_get (by omega)]
              show ent A k i ^^^ gmul (ent A i i) (ent A k i) = 0
              rw [hii, one_mul, UInt8.xor_self]
            · exact hdone r (by omega) h2
      · obtain rfl : k = n := by omega
        have hE13 := hE10.next hil hii hdone
        (try simp (maxSteps := 4000000) (disch := first | omega | (simp only [push_n, set_n, clr_n, also_n, List.length_replicate, List.length_set, List.length_map, List.length_append, List.length_take, List.length_drop, List.length_cons, List.length_nil]; first | done | omega) | (with_reducible decide)) only [go_sem, Int.reduceEq, Int.reduceNe, Int.reduceLT, Int.reduceLE, Nat.reduceEqDiff, Int.reduceToNat, Nat.reduceSub, Nat.reduceAdd, Nat.reduceMul, Nat.reduceLT, Nat.reduceLeDiff, Int.reduceNeg, Int.reduceAdd, Int.reduceSub, Int.reduceMul, UInt8.reduceToNat]; repeat first | ((first | with_reducible refine split2_pk (by omega) ?_ | with_reducible refine split2_nk (by omega) ?_); intro hsq; try simp (maxSteps := 4000000) (disch := first | omega | (simp only [push_n, set_n, clr_n, also_n, List.length_replicate, List.length_set, List.length_map, List.length_append, List.length_take, List.length_drop, List.length_cons, List.length_nil]; first | done | omega) | (with_reducible decide)) only [go_sem, Int.reduceEq, Int.reduceNe, Int.reduceLT, Int.reduceLE, Nat.reduceEqDiff, Int.reduceToNat, Nat.reduceSub, Nat.reduceAdd, Nat.reduceMul, Nat.reduceLT, Nat.reduceLeDiff, Int.reduceNeg, Int.reduceAdd, Int.reduceSub, Int.reduceMul, UInt8.reduceToNat, hsq]))
        refine wp_sound _ (by kernel_rfl) ?_
        (try simp (maxSteps := 4000000) (disch := first | omega | (simp only [push_n, set_n, clr_n, also_n, List.length_replicate, List.length_set, List.length_map, List.length_append, List.length_take, List.length_drop, List.length_cons, List.length_nil]; first | done | omega) | (with_reducible decide)) only [go_sem, Int.reduceEq, Int.reduceNe, Int.reduceLT, Int.reduceLE, Nat.reduceEqDiff, Int.reduceToNat, Nat.reduceSub, Nat.reduceAdd, Nat.reduceMul, Nat.reduceLT, Nat.reduceLeDiff, Int.reduceNeg, Int.reduceAdd, Int.reduceSub, Int.reduceMul, UInt8.reduceToNat]; repeat first | ((first | with_reducible refine split2_pk (by omega) ?_ | with_reducible refine split2_nk (by omega) ?_); intro hsq; try simp (maxSteps := 4000000) (disch := first | omega | (simp only [push_n, set_n, clr_n, also_n, List.length_replicate, List.length_set, List.length_map, List.length_append, List.length_take, List.length_drop, List.length_cons, List.length_nil]; first | done | omega) | (with_reducible decide)) only [go_sem, Int.reduceEq, Int.reduceNe, Int.reduceLT, Int.reduceLE, Nat.reduceEqDiff, Int.reduceToNat, Nat.reduceSub, Nat.reduceAdd, Nat.reduceMul, Nat.reduceLT, Nat.reduceLeDiff, Int.reduceNeg, Int.reduceAdd, Int.reduceSub, Int.reduceMul, UInt8.reduceToNat, hsq]))
        (refine ⟨(i + 1, w1', w2', A, B), ?_⟩; and_intros; all_goals (try first | rfl | assumption | omega))
    · obtain rfl : at' = n := by omega
      refine awp_seq (awp_seq ?_)
      refine wp_sound _ (by kernel_rfl) ?_
      (try simp (maxSteps := 4000000) (disch := first | omega | (simp only [push_n, set_n, clr_n, also_n, List.length_replicate, List.length_set, List.length_map, List.length_append, List.length_take, List.length_drop, List.length_cons, List.length_nil]; first | done | omega) | (with_reducible decide)) only [go_sem, Int.reduceEq, Int.reduceNe, Int.reduceLT, Int.reduceLE, Nat.reduceEqDiff, Int.reduceToNat, Nat.reduceSub, Nat.reduceAdd, Nat.reduceMul, Nat.reduceLT, Nat.reduceLeDiff, Int.reduceNeg, Int.reduceAdd, Int.reduceSub, Int.reduceMul, UInt8.reduceToNat, hlm]; repeat first | ((first | with_reducible refine split2_pk (by omega) ?_ | with_reducible refine split2_nk (by omega) ?_); intro hsq; try simp (maxSteps := 4000000) (disch := first | omega | (simp only [push_n, set_n, clr_n, also_n, List.length_replicate, List.length_set, List.length_map, List.length_append, List.length_take, List.length_drop, List.length_cons, List.length_nil]; first | done | omega) | (with_reducible decide)) only [go_sem, Int.reduceEq, Int.reduceNe, Int.reduceLT, Int.reduceLE, Nat.reduceEqDiff, Int.reduceToNat, Nat.reduceSub, Nat.reduceAdd, Nat.reduceMul, Nat.reduceLT, Nat.reduceLeDiff, Int.reduceNeg, Int.reduceAdd, Int.reduceSub, Int.reduceMul, UInt8.reduceToNat, hlm, hsq]))
      refine awp_cond (t := true) (by simp (maxSteps := 4000000) (disch := first | omega | (simp only [push_n, set_n, clr_n, also_n, List.length_replicate, List.length_set, List.length_map, List.length_append, List.length_take, List.length_drop, List.length_cons, List.length_nil]; first | done | omega) | (with_reducible decide)) only [go_sem, Int.reduceEq, Int.reduceNe, Int.reduceLT, Int.reduceLE, Nat.reduceEqDiff, Int.reduceToNat, Nat.reduceSub, Nat.reduceAdd, Nat.reduceMul, Nat.reduceLT, Nat.reduceLeDiff, Int.reduceNeg, Int.reduceAdd, Int.reduceSub, Int.reduceMul, UInt8.reduceToNat]) ?_
      simp only [if_true]
      refine awp_AL (AL_pre3 (by rfl) ?_)
      (try simp (maxSteps := 4000000) (disch := first | omega | (simp only [push_n, set_n, clr_n, also_n, List.length_replicate, List.length_set, List.length_map, List.length_append, List.length_take, List.length_drop, List.length_cons, List.length_nil]; first | done | omega) | (with_reducible decide)) only [go_sem, Int.reduceEq, Int.reduceNe, Int.reduceLT, Int.reduceLE, Nat.reduceEqDiff, Int.reduceToNat, Nat.reduceSub, Nat.reduceAdd, Nat.reduceMul, Nat.reduceLT, Nat.reduceLeDiff, Int.reduceNeg, Int.reduceAdd, Int.reduceSub, Int.reduceMul, UInt8.reduceToNat]; repeat first | ((first | with_reducible refine split2_pk (by omega) ?_ | with_reducible refine split2_nk (by omega) ?_); intro hsq; try simp (maxSteps := 4000000) (disch := first | omega | (simp only [push_n, set_n, clr_n, also_n, List.length_replicate, List.length_set, List.length_map, List.length_append, List.length_take, List.length_drop, List.length_cons, List.length_nil]; first | done | omega) | (with_reducible decide)) only [go_sem, Int.reduceEq, Int.reduceNe, Int.reduceLT, Int.reduceLE, Nat.reduceEqDiff, Int.reduceToNat, Nat.reduceSub, Nat.reduceAdd, Nat.reduceMul, Nat.reduceLT, Nat.reduceLeDiff, Int.reduceNeg, Int.reduceAdd, Int.reduceSub, Int.reduceMul, UInt8.reduceToNat, hsq]))
      refine AL_panic (t := 52) (z := .agg #[.int .i64 i]) (exact_iface fun b ι cv h => exact_agg1 b ι cv h) ?_
      exact ⟨_, rfl, ⟨i, rfl⟩, hEi.stuck hil hz, hT.ch⟩
  · obtain rfl : i = n := by omega
    refine wp_sound _ (by kernel_rfl) ?_
    (try simp (maxSteps := 4000000) (disch := first | omega | (simp only [push_n, set_n, clr_n, also_n, List.length_replicate, List.length_set, List.length_map, List.length_append, List.length_take, List.length_drop, List.length_cons, List.length_nil]; first | done | omega) | (with_reducible decide)) only [go_sem, Int.reduceEq, Int.reduceNe, Int.reduceLT, Int.reduceLE, Nat.reduceEqDiff, Int.reduceToNat, Nat.reduceSub, Nat.reduceAdd, Nat.reduceMul, Nat.reduceLT, Nat.reduceLeDiff, Int.reduceNeg, Int.reduceAdd, Int.reduceSub, Int.reduceMul, UInt8.reduceToNat]; repeat first | ((first | with_reducible refine split2_pk (by omega) ?_ | with_reducible refine split2_nk (by omega) ?_); intro hsq; try simp (maxSteps := 4000000) (disch := first | omega | (simp only [push_n, set_n, clr_n, also_n, List.length_replicate, List.length_set, List.length_map, List.length_append, List.length_take, List.length_drop, List.length_cons, List.length_nil]; first | done | omega) | (with_reducible decide)) only [go_sem, Int.reduceEq, Int.reduceNe, Int.reduceLT, Int.reduceLE, Nat.reduceEqDiff, Int.reduceToNat, Nat.reduceSub, Nat.reduceAdd, Nat.reduceMul, Nat.reduceLT, Nat.reduceLeDiff, Int.reduceNeg, Int.reduceAdd, Int.reduceSub, Int.reduceMul, UInt8.reduceToNat, hsq]))
    exact ⟨rfl, w1, w2, A, B, hT, hEi⟩
end Go.Proofs.Ytojeggahjmjnpaa
