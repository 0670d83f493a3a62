import Derived.Test.YtbpojmneffngoaaMKz
namespace Go.Proofs.Ytbpojmneffngoaa
open Go Go.Abs Go.Abs.GF
set_option linter.unusedVariables false
set_option linter.unusedSimpArgs false
set_option maxHeartbeats 4000000
attribute [local irreducible] ASpec AWp WP AOps DOps
def rowsOk (a : Rows8) (l : List Int) : Prop := mayM a ∧ 1 ≤ l.length ∧ l.length ≤ 255 ∧ ∀ k, k < l.length → 0 ≤ l.getD k 0 ∧ l.getD k 0 < a.length
instance (a : Rows8) (l : List Int) : Decidable (rowsOk a l) := by unfold rowsOk; infer_instance
theorem copy_spec (H : AH) (v : AV) (vs : List AV) (a : Rows8) (ha : IsRows H v vs a) (h1 : a.length * 24 ≤ 140737488351232) (h2 : ∀ i, i < a.length → (a.getD i []).length ≤ 140737488351232) :
    ASpec Try.prog 16 [v] H fun r H' => ∃ ws, AccOwn H H' r ws a := by
  have hla := ha.row.lenA (P := Try.prog) Try.underlying24
  refine aspec_fn (rs := [.tmp 2]) (n := 22) Try.func16 rfl rfl rfl rfl (by kernel_rfl) (Nat.le_of_ble_eq_true rfl) ?_
  (try simp (maxSteps := 4000000) (disch := first | omega | (simp only [push_n, set_n, clr_n, also_n, List.length_replicate, List.length_set, List.length_map, List.length_append, List.length_take, List.length_drop, List.length_cons, List.length_nil]; first | done | omega) | (with_reducible decide)) only [go_sem, Int.reduceEq, Int.reduceNe, Int.reduceLT, Int.reduceLE, Nat.reduceEqDiff, Int.reduceToNat, Nat.reduceSub, Nat.reduceAdd, Nat.reduceMul, Nat.reduceLT, Nat.reduceLeDiff, Int.reduceNeg, Int.reduceAdd, Int.reduceSub, Int.reduceMul, UInt8.reduceToNat]; repeat first | ((first | with_reducible refine split2_pk (by omega) ?_ | with_reducible refine split2_nk (by omega) ?_); intro hsq; try simp (maxSteps := 4000000) (disch := first | omega | (simp only [push_n, set_n, clr_n, also_n, List.length_replicate, List.length_set, List.length_map, List.length_append, List.length_take, List.length_drop, List.length_cons, List.length_nil]; first | done | omega) | (with_reducible decide)) only [go_sem, Int.reduceEq, Int.reduceNe, Int.reduceLT, Int.reduceLE, Nat.reduceEqDiff, Int.reduceToNat, Nat.reduceSub, Nat.reduceAdd, Nat.reduceMul, Nat.reduceLT, Nat.reduceLeDiff, Int.reduceNeg, Int.reduceAdd, Int.reduceSub, Int.reduceMul, UInt8.reduceToNat, hsq]))
  refine wp_loopS (σ := Nat × AV × AVL) (by kernel_rfl) (fun (i, mv, ws) => [(0, v), (3, mv), (4, .int .i64 (i : Nat))]) (fun (i, mv, ws) H' => i ≤ a.length ∧ AccOwn H H' mv ws (a.take i)) (fun (i, mv, ws) => a.length - i) (0, .nilslice, []) (by simp (maxSteps := 4000000) (disch := first | omega | (simp only [push_n, set_n, clr_n, also_n, List.length_replicate, List.length_set, List.length_map, List.length_append, List.length_take, List.length_drop, List.length_cons, List.length_nil]; first | done | omega) | (with_reducible decide)) only [go_sem, Int.reduceEq, Int.reduceNe, Int.reduceLT, Int.reduceLE, Nat.reduceEqDiff, Int.reduceToNat, Nat.reduceSub, Nat.reduceAdd, Nat.reduceMul, Nat.reduceLT, Nat.reduceLeDiff, Int.reduceNeg, Int.reduceAdd, Int.reduceSub, Int.reduceMul, UInt8.reduceToNat]) ?_ ?_
  · exact ⟨by omega, AccOwn.nil (Grew.refl _)⟩
  rintro ⟨i, mv, ws⟩ H1 ⟨hi, hacc⟩
  have htl : (a.take i).length = i := by simp; omega
  by_cases hil : i < a.length
  · have hg := hacc.acc.acc.g
    have ha1 := ha.grew hg
    have hix := ha1.ix (P := Try.prog) Try.underlying24 sz40 (k := .i64) (i := (i : Int)) (by omega) (by omega)
    have hld := ha1.ld hil
    have hb := ha1.each i hil
    have hn := hb.news
    have hbl := hacc.acc.acc.below
    have hlen := h2 i hil
    have hx : IsBytes (H1.push (some (.cells ((a.getD i []).map bv)))) (.slice ⟨false, H1.n, 0⟩ (a.getD i []).length (.grow 1)) (a.getD i []) := bytes_whole (push_cells _ _) rfl
    have g2 : Grew H1 (H1.push (some (.cells ((a.getD i []).map bv)))) := Grew.push _ _
    have hacc2 := hacc.grew g2
    obtain ⟨H4, a1, a2, a3⟩ := hacc2.add (by' := 24) hx ⟨_, _, rfl⟩ hg.n (fun j hj => by
      have := (hacc.own j hj).1
      obtain ⟨b, c, e⟩ := this
      have hx := (hacc.acc.each j hj).1
      rw [e] at hx ⊢
      have := hx.blk_lt
      simp only [bn]
      omega) (fun hm => by have := hbl _ hm; simp only [bn] at this; omega) (by omega) (by omega)
    rw [htl, push_n] at a1 a2
    (try simp (maxSteps := 4000000) (disch := first | omega | (simp only [push_n, set_n, clr_n, also_n, List.length_replicate, List.length_set, List.length_map, List.length_append, List.length_take, List.length_drop, List.length_cons, List.length_nil]; first | done | omega) | (with_reducible decide)) only [go_sem, Int.reduceEq, Int.reduceNe, Int.reduceLT, Int.reduceLE, Nat.reduceEqDiff, Int.reduceToNat, Nat.reduceSub, Nat.reduceAdd, Nat.reduceMul, Nat.reduceLT, Nat.reduceLeDiff, Int.reduceNeg, Int.reduceAdd, Int.reduceSub, Int.reduceMul, UInt8.reduceToNat, hla, hix, hld, hn, all_one_bv, a1]; repeat first | ((first | with_reducible refine split2_pk (by omega) ?_ | with_reducible refine split2_nk (by omega) ?_); intro hsq; try simp (maxSteps := 4000000) (disch := first | omega | (simp only [push_n, set_n, clr_n, also_n, List.length_replicate, List.length_set, List.length_map, List.length_append, List.length_take, List.length_drop, List.length_cons, List.length_nil]; first | done | omega) | (with_reducible decide)) only [go_sem, Int.reduceEq, Int.reduceNe, Int.reduceLT, Int.reduceLE, Nat.reduceEqDiff, Int.reduceToNat, Nat.reduceSub, Nat.reduceAdd, Nat.reduceMul, Nat.reduceLT, Nat.reduceLeDiff, Int.reduceNeg, Int.reduceAdd, Int.reduceSub, Int.reduceMul, UInt8.reduceToNat, hla, hix, hld, hn, all_one_bv, a1, hsq]))
    (refine ⟨(i + 1, .slice ⟨false, H1.n + 1 + 1, 0⟩ (i + 1) (.grow 1), ws ++ [.slice ⟨false, H1.n, 0⟩ (a.getD i []).length (.grow 1)]), ?_⟩; and_intros; all_goals (try first | rfl | assumption | omega))
    rw [show a.take (i + 1) = a.take i ++ [a.getD i []] by rw [← List.take_append_getElem hil]; simp [List.getD, hil]]
    exact a2
  · obtain rfl : i = a.length := by omega
    rw [List.take_length] at hacc
    (try simp (maxSteps := 4000000) (disch := first | omega | (simp only [push_n, set_n, clr_n, also_n, List.length_replicate, List.length_set, List.length_map, List.length_append, List.length_take, List.length_drop, List.length_cons, List.length_nil]; first | done | omega) | (with_reducible decide)) only [go_sem, Int.reduceEq, Int.reduceNe, Int.reduceLT, Int.reduceLE, Nat.reduceEqDiff, Int.reduceToNat, Nat.reduceSub, Nat.reduceAdd, Nat.reduceMul, Nat.reduceLT, Nat.reduceLeDiff, Int.reduceNeg, Int.reduceAdd, Int.reduceSub, Int.reduceMul, UInt8.reduceToNat, hla]; repeat first | ((first | with_reducible refine split2_pk (by omega) ?_ | with_reducible refine split2_nk (by omega) ?_); intro hsq; try simp (maxSteps := 4000000) (disch := first | omega | (simp only [push_n, set_n, clr_n, also_n, List.length_replicate, List.length_set, List.length_map, List.length_append, List.length_take, List.length_drop, List.length_cons, List.length_nil]; first | done | omega) | (with_reducible decide)) only [go_sem, Int.reduceEq, Int.reduceNe, Int.reduceLT, Int.reduceLE, Nat.reduceEqDiff, Int.reduceToNat, Nat.reduceSub, Nat.reduceAdd, Nat.reduceMul, Nat.reduceLT, Nat.reduceLeDiff, Int.reduceNeg, Int.reduceAdd, Int.reduceSub, Int.reduceMul, UInt8.reduceToNat, hla, hsq]))
    exact ⟨ws, hacc⟩
end Go.Proofs.Ytbpojmneffngoaa
