import Derived.Test.YtbpojmneffngoaaMMz
namespace Go.Proofs.Ytbpojmneffngoaa
open Go Go.Abs Go.Abs.GF
set_option linter.unusedVariables false
set_option linter.unusedSimpArgs false
set_option maxHeartbeats 4000000
attribute [local irreducible] ASpec AWp WP AOps DOps
theorem rrows_spec (H : AH) (v w : AV) (vs : List AV) (a : Rows8) (l : List Int) (ha : IsRows H v vs a) (hl : IsInts H w l) : ASpec Try.prog 33 [v, w] H (rowsRes H a l) := by
  have hla := ha.row.lenA (P := Try.prog) Try.underlying24
  have hll := hl.lenA (P := Try.prog) Try.underlying32
  have sp1 := rmay_spec H v vs a ha
  refine aspec_fn (rs := [.tmp 4, .tmp 5]) (n := 55) Try.func33 rfl rfl rfl rfl (by kernel_rfl) (Nat.le_of_ble_eq_true rfl) ?_
  by_cases h1 : mayM a
  · by_cases h2 : 1 ≤ l.length ∧ l.length ≤ 255
    · have b1 := h1.1
      have b2 := h1.2.1
      (try simp (maxSteps := 4000000) (disch := first | omega | (simp only [push_n, set_n, clr_n, also_n, List.length_replicate, List.length_set, List.length_map, List.length_append, List.length_take, List.length_drop, List.length_cons, List.length_nil]; first | done | omega) | (with_reducible decide)) only [go_sem, Int.reduceEq, Int.reduceNe, Int.reduceLT, Int.reduceLE, Nat.reduceEqDiff, Int.reduceToNat, Nat.reduceSub, Nat.reduceAdd, Nat.reduceMul, Nat.reduceLT, Nat.reduceLeDiff, Int.reduceNeg, Int.reduceAdd, Int.reduceSub, Int.reduceMul, UInt8.reduceToNat, hla, hll, h1, decide_true]; repeat first | ((first | refine ASpec.eq (sp1) ?_); try simp (maxSteps := 4000000) (disch := first | omega | (simp only [push_n, set_n, clr_n, also_n, List.length_replicate, List.length_set, List.length_map, List.length_append, List.length_take, List.length_drop, List.length_cons, List.length_nil]; first | done | omega) | (with_reducible decide)) only [go_sem, Int.reduceEq, Int.reduceNe, Int.reduceLT, Int.reduceLE, Nat.reduceEqDiff, Int.reduceToNat, Nat.reduceSub, Nat.reduceAdd, Nat.reduceMul, Nat.reduceLT, Nat.reduceLeDiff, Int.reduceNeg, Int.reduceAdd, Int.reduceSub, Int.reduceMul, UInt8.reduceToNat, hla, hll, h1, decide_true]) | ((first | with_reducible refine split2_pk (by omega) ?_ | with_reducible refine split2_nk (by omega) ?_); intro hsq; try simp (maxSteps := 4000000) (disch := first | omega | (simp only [push_n, set_n, clr_n, also_n, List.length_replicate, List.length_set, List.length_map, List.length_append, List.length_take, List.length_drop, List.length_cons, List.length_nil]; first | done | omega) | (with_reducible decide)) only [go_sem, Int.reduceEq, Int.reduceNe, Int.reduceLT, Int.reduceLE, Nat.reduceEqDiff, Int.reduceToNat, Nat.reduceSub, Nat.reduceAdd, Nat.reduceMul, Nat.reduceLT, Nat.reduceLeDiff, Int.reduceNeg, Int.reduceAdd, Int.reduceSub, Int.reduceMul, UInt8.reduceToNat, hla, hll, h1, decide_true, hsq]))
      refine wp_loopS (σ := Nat × AV × AVL) (by kernel_rfl) (fun (i, mv, ws) => [(0, v), (1, w), (6, mv), (7, .int .i64 (i : Nat))]) (fun (i, mv, ws) H' => i ≤ l.length ∧ (∀ k, k < i → 0 ≤ l.getD k 0 ∧ l.getD k 0 < a.length) ∧ AccOwn H H' mv ws ((pickRows a l).take i)) (fun (i, mv, ws) => l.length - i) (0, .nilslice, []) (by simp (maxSteps := 4000000) (disch := first | omega | (simp only [push_n, set_n, clr_n, also_n, List.length_replicate, List.length_set, List.length_map, List.length_append, List.length_take, List.length_drop, List.length_cons, List.length_nil]; first | done | omega) | (with_reducible decide)) only [go_sem, Int.reduceEq, Int.reduceNe, Int.reduceLT, Int.reduceLE, Nat.reduceEqDiff, Int.reduceToNat, Nat.reduceSub, Nat.reduceAdd, Nat.reduceMul, Nat.reduceLT, Nat.reduceLeDiff, Int.reduceNeg, Int.reduceAdd, Int.reduceSub, Int.reduceMul, UInt8.reduceToNat]) ?_ ?_
      · exact ⟨by omega, fun k hk => by omega, AccOwn.nil (Grew.refl _)⟩
      rintro ⟨i, mv, ws⟩ H1 ⟨hi, hall, hacc⟩
      have htl : ((pickRows a l).take i).length = i := by simp [pickRows]; omega
      have hg := hacc.acc.acc.g
      by_cases hil : i < l.length
      · have ha1 := ha.grew hg
        have hl1 : IsInts H1 w l := hl.grew hg
        have hixl := hl1.ix (P := Try.prog) Try.underlying32 sz3 (k := .i64) (i := (i : Int)) (by omega) (by omega)
        have hldl := hl1.ldI hil
        by_cases hin : 0 ≤ l.getD i 0 ∧ l.getD i 0 < a.length
        · obtain ⟨m, hm⟩ : ∃ m : Nat, l.getD i 0 = m := ⟨(l.getD i 0).toNat, by omega⟩
          rw [hm] at hldl
          have hma : m < a.length := by omega
          have hix := ha1.ix (P := Try.prog) Try.underlying24 sz40 (k := .i64) (i := (m : Int)) (by omega) (by omega)
          have hld := ha1.ld hma
          have hb := ha1.each m hma
          have hlen := h1.2.2.2.2 m hma
          have hl4 := h1.2.2.2.1
          have hl3 := h1.2.2.1
          have hn := hb.news
          have hx : IsBytes (H1.push (some (.cells ((a.getD m []).map bv)))) (.slice ⟨false, H1.n, 0⟩ (a.getD m []).length (.grow 1)) (a.getD m []) := bytes_whole (push_cells _ _) rfl
          have g2 : Grew H1 (H1.push (some (.cells ((a.getD m []).map bv)))) := Grew.push _ _
          have hacc2 := hacc.grew g2
          have hbl := hacc.acc.acc.below
          obtain ⟨H4, a1, a2, a3⟩ := hacc2.add (by' := 24) hx ⟨_, _, rfl⟩ hg.n (fun j hj => by
            have := (hacc.own j hj).1
            obtain ⟨b, c, e⟩ := this
            have hx := (hacc.acc.each j hj).1
            rw [e] at hx ⊢
            have := hx.blk_lt
            simp only [bn]
            omega) (fun hm => by have := hbl _ hm; simp only [bn] at this; omega) (by omega) (by omega)
          rw [htl, push_n] at a1 a2
          (try simp (maxSteps := 4000000) (disch := first | omega | (simp only [push_n, set_n, clr_n, also_n, List.length_replicate, List.length_set, List.length_map, List.length_append, List.length_take, List.length_drop, List.length_cons, List.length_nil]; first | done | omega) | (with_reducible decide)) only [go_sem, Int.reduceEq, Int.reduceNe, Int.reduceLT, Int.reduceLE, Nat.reduceEqDiff, Int.reduceToNat, Nat.reduceSub, Nat.reduceAdd, Nat.reduceMul, Nat.reduceLT, Nat.reduceLeDiff, Int.reduceNeg, Int.reduceAdd, Int.reduceSub, Int.reduceMul, UInt8.reduceToNat, hla, hll, hixl, hldl, hix, hld, hn, all_one_bv, a1]; repeat first | ((first | with_reducible refine split2_pk (by omega) ?_ | with_reducible refine split2_nk (by omega) ?_); intro hsq; try simp (maxSteps := 4000000) (disch := first | omega | (simp only [push_n, set_n, clr_n, also_n, List.length_replicate, List.length_set, List.length_map, List.length_append, List.length_take, List.length_drop, List.length_cons, List.length_nil]; first | done | omega) | (with_reducible decide)) only [go_sem, Int.reduceEq, Int.reduceNe, Int.reduceLT, Int.reduceLE, Nat.reduceEqDiff, Int.reduceToNat, Nat.reduceSub, Nat.reduceAdd, Nat.reduceMul, Nat.reduceLT, Nat.reduceLeDiff, Int.reduceNeg, Int.reduceAdd, Int.reduceSub, Int.reduceMul, UInt8.reduceToNat, hla, hll, hixl, hldl, hix, hld, hn, all_one_bv, a1, hsq]))
          (refine ⟨(i + 1, .slice ⟨false, H1.n + 1 + 1, 0⟩ (i + 1) (.grow 1), ws ++ [.slice ⟨false, H1.n, 0⟩ (a.getD m []).length (.grow 1)]), ?_⟩; and_intros; all_goals (try first | rfl | assumption | omega))
          · intro k hk
            by_cases e : k < i
            · exact hall k e
            · obtain rfl : k = i := by omega
              exact hin
          · have hpl : i < (pickRows a l).length := by simp [pickRows]; omega
            rw [show (pickRows a l).take (i + 1) = (pickRows a l).take i ++ [(pickRows a l).getD i []] by rw [← List.take_append_getElem hpl]; simp [List.getD, hpl], pickRows_get hil, hm, Int.toNat_natCast]
            exact a2
        · have hno : ¬ rowsOk a l := fun h => hin (h.2.2.2 i hil)
          (try simp (maxSteps := 4000000) (disch := first | omega | (simp only [push_n, set_n, clr_n, also_n, List.length_replicate, List.length_set, List.length_map, List.length_append, List.length_take, List.length_drop, List.length_cons, List.length_nil]; first | done | omega) | (with_reducible decide)) only [go_sem, Int.reduceEq, Int.reduceNe, Int.reduceLT, Int.reduceLE, Nat.reduceEqDiff, Int.reduceToNat, Nat.reduceSub, Nat.reduceAdd, Nat.reduceMul, Nat.reduceLT, Nat.reduceLeDiff, Int.reduceNeg, Int.reduceAdd, Int.reduceSub, Int.reduceMul, UInt8.reduceToNat, hla, hll, hixl, hldl]; repeat' first | ((first | with_reducible refine split2_pk (by omega) ?_ | with_reducible refine split2_nk (by omega) ?_); intro hsq; try simp (maxSteps := 4000000) (disch := first | omega | (simp only [push_n, set_n, clr_n, also_n, List.length_replicate, List.length_set, List.length_map, List.length_append, List.length_take, List.length_drop, List.length_cons, List.length_nil]; first | done | omega) | (with_reducible decide)) only [go_sem, Int.reduceEq, Int.reduceNe, Int.reduceLT, Int.reduceLE, Nat.reduceEqDiff, Int.reduceToNat, Nat.reduceSub, Nat.reduceAdd, Nat.reduceMul, Nat.reduceLT, Nat.reduceLeDiff, Int.reduceNeg, Int.reduceAdd, Int.reduceSub, Int.reduceMul, UInt8.reduceToNat, hla, hll, hixl, hldl, hsq]) | (with_reducible refine split2_ik ?_ ?_ <;> intro hsp hsq <;> try simp (maxSteps := 4000000) (disch := first | omega | (simp only [push_n, set_n, clr_n, also_n, List.length_replicate, List.length_set, List.length_map, List.length_append, List.length_take, List.length_drop, List.length_cons, List.length_nil]; first | done | omega) | (with_reducible decide)) only [go_sem, Int.reduceEq, Int.reduceNe, Int.reduceLT, Int.reduceLE, Nat.reduceEqDiff, Int.reduceToNat, Nat.reduceSub, Nat.reduceAdd, Nat.reduceMul, Nat.reduceLT, Nat.reduceLeDiff, Int.reduceNeg, Int.reduceAdd, Int.reduceSub, Int.reduceMul, UInt8.reduceToNat, hla, hll, hixl, hldl, hsq]))
          all_goals first
            | omega
            | (rw [rowsRes, if_neg hno]; exact ⟨rfl, hg⟩)
      · obtain rfl : i = l.length := by omega
        have hpl : (pickRows a l).length = l.length := by simp [pickRows]
        rw [List.take_of_length_le (by omega)] at hacc
        obtain ⟨B, rfl, hB, ho, hnew⟩ := hacc.own_rows (by omega)
        (try simp (maxSteps := 4000000) (disch := first | omega | (simp only [push_n, set_n, clr_n, also_n, List.length_replicate, List.length_set, List.length_map, List.length_append, List.length_take, List.length_drop, List.length_cons, List.length_nil]; first | done | omega) | (with_reducible decide)) only [go_sem, Int.reduceEq, Int.reduceNe, Int.reduceLT, Int.reduceLE, Nat.reduceEqDiff, Int.reduceToNat, Nat.reduceSub, Nat.reduceAdd, Nat.reduceMul, Nat.reduceLT, Nat.reduceLeDiff, Int.reduceNeg, Int.reduceAdd, Int.reduceSub, Int.reduceMul, UInt8.reduceToNat, hll]; repeat first | ((first | with_reducible refine split2_pk (by omega) ?_ | with_reducible refine split2_nk (by omega) ?_); intro hsq; try simp (maxSteps := 4000000) (disch := first | omega | (simp only [push_n, set_n, clr_n, also_n, List.length_replicate, List.length_set, List.length_map, List.length_append, List.length_take, List.length_drop, List.length_cons, List.length_nil]; first | done | omega) | (with_reducible decide)) only [go_sem, Int.reduceEq, Int.reduceNe, Int.reduceLT, Int.reduceLE, Nat.reduceEqDiff, Int.reduceToNat, Nat.reduceSub, Nat.reduceAdd, Nat.reduceMul, Nat.reduceLT, Nat.reduceLeDiff, Int.reduceNeg, Int.reduceAdd, Int.reduceSub, Int.reduceMul, UInt8.reduceToNat, hll, hsq]))
        rw [rowsRes, if_pos ⟨h1, h2.1, h2.2, hall⟩, hpl]
        exact ⟨B, ws, rfl, ho, hg, hnew⟩
    · have hno : ¬ rowsOk a l := fun h => h2 ⟨h.2.1, h.2.2.1⟩
      (try simp (maxSteps := 4000000) (disch := first | omega | (simp only [push_n, set_n, clr_n, also_n, List.length_replicate, List.length_set, List.length_map, List.length_append, List.length_take, List.length_drop, List.length_cons, List.length_nil]; first | done | omega) | (with_reducible decide)) only [go_sem, Int.reduceEq, Int.reduceNe, Int.reduceLT, Int.reduceLE, Nat.reduceEqDiff, Int.reduceToNat, Nat.reduceSub, Nat.reduceAdd, Nat.reduceMul, Nat.reduceLT, Nat.reduceLeDiff, Int.reduceNeg, Int.reduceAdd, Int.reduceSub, Int.reduceMul, UInt8.reduceToNat, hla, hll, h1, decide_true]; repeat' first | ((first | refine ASpec.eq (sp1) ?_); try simp (maxSteps := 4000000) (disch := first | omega | (simp only [push_n, set_n, clr_n, also_n, List.length_replicate, List.length_set, List.length_map, List.length_append, List.length_take, List.length_drop, List.length_cons, List.length_nil]; first | done | omega) | (with_reducible decide)) only [go_sem, Int.reduceEq, Int.reduceNe, Int.reduceLT, Int.reduceLE, Nat.reduceEqDiff, Int.reduceToNat, Nat.reduceSub, Nat.reduceAdd, Nat.reduceMul, Nat.reduceLT, Nat.reduceLeDiff, Int.reduceNeg, Int.reduceAdd, Int.reduceSub, Int.reduceMul, UInt8.reduceToNat, hla, hll, h1, decide_true]) | ((first | with_reducible refine split2_pk (by omega) ?_ | with_reducible refine split2_nk (by omega) ?_); intro hsq; try simp (maxSteps := 4000000) (disch := first | omega | (simp only [push_n, set_n, clr_n, also_n, List.length_replicate, List.length_set, List.length_map, List.length_append, List.length_take, List.length_drop, List.length_cons, List.length_nil]; first | done | omega) | (with_reducible decide)) only [go_sem, Int.reduceEq, Int.reduceNe, Int.reduceLT, Int.reduceLE, Nat.reduceEqDiff, Int.reduceToNat, Nat.reduceSub, Nat.reduceAdd, Nat.reduceMul, Nat.reduceLT, Nat.reduceLeDiff, Int.reduceNeg, Int.reduceAdd, Int.reduceSub, Int.reduceMul, UInt8.reduceToNat, hla, hll, h1, decide_true, hsq]) | (with_reducible refine split2_ik ?_ ?_ <;> intro hsp hsq <;> try simp (maxSteps := 4000000) (disch := first | omega | (simp only [push_n, set_n, clr_n, also_n, List.length_replicate, List.length_set, List.length_map, List.length_append, List.length_take, List.length_drop, List.length_cons, List.length_nil]; first | done | omega) | (with_reducible decide)) only [go_sem, Int.reduceEq, Int.reduceNe, Int.reduceLT, Int.reduceLE, Nat.reduceEqDiff, Int.reduceToNat, Nat.reduceSub, Nat.reduceAdd, Nat.reduceMul, Nat.reduceLT, Nat.reduceLeDiff, Int.reduceNeg, Int.reduceAdd, Int.reduceSub, Int.reduceMul, UInt8.reduceToNat, hla, hll, h1, decide_true, hsq]))
      all_goals first
        | omega
        | (rw [rowsRes, if_neg hno]; exact ⟨rfl, Grew.refl _⟩)
  · have hno : ¬ rowsOk a l := fun h => h1 h.1
    (try simp (maxSteps := 4000000) (disch := first | omega | (simp only [push_n, set_n, clr_n, also_n, List.length_replicate, List.length_set, List.length_map, List.length_append, List.length_take, List.length_drop, List.length_cons, List.length_nil]; first | done | omega) | (with_reducible decide)) only [go_sem, Int.reduceEq, Int.reduceNe, Int.reduceLT, Int.reduceLE, Nat.reduceEqDiff, Int.reduceToNat, Nat.reduceSub, Nat.reduceAdd, Nat.reduceMul, Nat.reduceLT, Nat.reduceLeDiff, Int.reduceNeg, Int.reduceAdd, Int.reduceSub, Int.reduceMul, UInt8.reduceToNat, hla, hll, h1, decide_false]; repeat first | ((first | refine ASpec.eq (sp1) ?_); try simp (maxSteps := 4000000) (disch := first | omega | (simp only [push_n, set_n, clr_n, also_n, List.length_replicate, List.length_set, List.length_map, List.length_append, List.length_take, List.length_drop, List.length_cons, List.length_nil]; first | done | omega) | (with_reducible decide)) only [go_sem, Int.reduceEq, Int.reduceNe, Int.reduceLT, Int.reduceLE, Nat.reduceEqDiff, Int.reduceToNat, Nat.reduceSub, Nat.reduceAdd, Nat.reduceMul, Nat.reduceLT, Nat.reduceLeDiff, Int.reduceNeg, Int.reduceAdd, Int.reduceSub, Int.reduceMul, UInt8.reduceToNat, hla, hll, h1, decide_false]) | ((first | with_reducible refine split2_pk (by omega) ?_ | with_reducible refine split2_nk (by omega) ?_); intro hsq; try simp (maxSteps := 4000000) (disch := first | omega | (simp only [push_n, set_n, clr_n, also_n, List.length_replicate, List.length_set, List.length_map, List.length_append, List.length_take, List.length_drop, List.length_cons, List.length_nil]; first | done | omega) | (with_reducible decide)) only [go_sem, Int.reduceEq, Int.reduceNe, Int.reduceLT, Int.reduceLE, Nat.reduceEqDiff, Int.reduceToNat, Nat.reduceSub, Nat.reduceAdd, Nat.reduceMul, Nat.reduceLT, Nat.reduceLeDiff, Int.reduceNeg, Int.reduceAdd, Int.reduceSub, Int.reduceMul, UInt8.reduceToNat, hla, hll, h1, decide_false, hsq]))
    rw [rowsRes, if_neg hno]; exact ⟨rfl, Grew.refl _⟩
end Go.Proofs.Ytbpojmneffngoaa
