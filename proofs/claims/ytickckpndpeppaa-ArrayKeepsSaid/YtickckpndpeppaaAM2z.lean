/- Arrays of disks: writes, reads. -/
import Derived.Test.YtickckpndpeppaaAM1z
namespace Go.Proofs.Ytickckpndpeppaa
open Go Go.Abs Go.Abs.GF
set_option linter.unusedVariables false
set_option linter.unusedSimpArgs false
set_option maxHeartbeats 4000000
attribute [local irreducible] ASpec AWp WP AOps DOps

section
variable {H : AH} {P D : Nat} {fv : AV} {dvs : List AV} {A : Arr}
theorem IsArr.burn (h : IsArr H P D fv dvs A) : A.burn.fuse < 9223372036854775808 := by
  have := h.fuse
  unfold Arr.burn; split <;> simp <;> omega
/-- One write more, behind those in flight. -/
theorem fly_add (h : IsArr H P D fv dvs A) (hn : A.fly.length < 1000000) {f : Fl} (hf : f.data.length = 64) {H2 : AH} (g : Grew H H2) {by' : Nat} (hb : by' ≤ 1000) :
    ∃ H', appendTo 66 by' H2 1 (fl1 f) fv = some (.slice ⟨false, H2.n, 0⟩ (A.fly.length + 1) (.grow 66), H') ∧ IsFly H' (.slice ⟨false, H2.n, 0⟩ (A.fly.length + 1) (.grow 66)) (A.fly ++ [f]) ∧ H'.n = H2.n + 1 ∧ Chg (blkOf fv) H H' := by
  have hb' : (A.fly.length + 1) * by' ≤ 140737488355328 := Nat.le_trans (Nat.mul_le_mul (show A.fly.length + 1 ≤ 1000000 by omega) hb) (by omega)
  have hfl := fl1_len hf
  rcases h.fl with ⟨rfl, e⟩ | ⟨B, cs, rfl, h1, h2, h3⟩
  · refine ⟨H2.push (some (.cells (fl1 f))), ?_, .inr ⟨H2.n, fl1 f, by rw [e]; rfl, push_cells _ _, by rw [e, hfl]; simp, ?_⟩, push_n _ _, (g.trans (Grew.push _ _)).chg _⟩
    · rw [e] at hb' ⊢
      rw [app_to_nil, gd_pos ⟨by omega, by simpa using hb'⟩]; rfl
    · rw [e]; simp only [List.nil_append, List.length_cons, List.length_nil, flC, List.flatMap_cons, List.flatMap_nil, List.append_nil]
      exact List.take_of_length_le (by rw [hfl]; omega)
  · have hc := g.cells_some h1
    have key : appendTo 66 by' H2 1 (fl1 f) (.slice ⟨false, B, 0⟩ A.fly.length (.grow 66)) = some (.slice ⟨false, H2.n, 0⟩ (A.fly.length + 1) (.grow 66), (H2.set B none).push (some (.cells (cs.take (A.fly.length * 66) ++ fl1 f)))) := by
      rw [app_to_grow, gd_pos ⟨by omega, hb'⟩, hc]
      simp only [Option.bind_some, List.drop_zero, Nat.zero_add]
      by_cases e : A.fly.length * 66 = cs.length
      · rw [gde_pos e, List.take_of_length_le (by omega)]
      · rw [gde_neg e, gd_pos (by omega)]
    refine ⟨_, key, .inr ⟨H2.n, cs.take (A.fly.length * 66) ++ fl1 f, by rw [List.length_append]; rfl, push_cells_at (by rw [set_n]), ?_, ?_⟩, by rw [push_n, set_n], ?_⟩
    · simp only [List.length_append, List.length_take, hfl, List.length_cons, List.length_nil]; omega
    · rw [List.take_of_length_le (by simp only [List.length_append, List.length_take, hfl, List.length_cons, List.length_nil]; omega), h3]
      simp [flC]
    · exact ((g.chg _).trans (Chg.set H2 B none (S := blkOf (.slice ⟨false, B, 0⟩ A.fly.length (.grow 66))) (by simp [blkOf]))).trans ((Grew.push _ _).chg _)
/-- What is copied into the data of a write. -/
theorem fly_data {H1 : AH} {a b : AV} {zs : List AV} (hz : zs.length = 64) {bs : List UInt8} (hl : bs.length = 64) : storeCellsA (H1.push (some (.cells (a :: b :: zs)))) H1.n 2 (bs.map bv) = some (H1.push (some (.cells (a :: b :: bs.map bv)))) := by
  rw [store_cells _ _ _ (by simp [hl]), all_one_bv, gdb_true, push_cells, Option.bind_some, gd_pos (by simp [hl, hz]), push_set]
  have : putL (a :: b :: zs) 2 (bs.map bv) = a :: b :: bs.map bv := by
    simp only [putL, List.take_succ_cons, List.take_zero, List.cons_append, List.nil_append, List.length_map, hl]
    rw [List.drop_of_length_le (by simp [hz]), List.append_nil]
  rw [this]
theorem write_spec (h : IsArr H P D fv dvs A) (d i : Int) (v : AV) (bs : List UInt8) (hb : IsBytes H v bs) (hbl : bs.length ≤ 140737488351232) (ho : offB [P] v) (hn : A.fly.length < 1000000) :
    ASpec Try.prog 17 [.ptr ⟨false, P, 0⟩, .int .i64 d, .int .i64 i, v] H fun r H' => r = .int .i64 ((A.write d i bs).1 : Nat) ∧ ∃ fv', IsArr H' P D fv' dvs (A.write d i bs).2 ∧ Went H (ownB P D fv dvs) H' (ownB P D fv' dvs) := by
  have lb := hb.length (P := Try.prog) Try.underlying27
  refine aspec_fn (rs := [.tmp 8]) (n := 40) Try.func17 rfl rfl rfl rfl (by kernel_rfl) (Nat.le_of_ble_eq_true rfl) ?_
  (try simp (maxSteps := 4000000) (disch := first | omega | (simp only [push_n, set_n, clr_n, also_n, List.length_replicate, List.length_set, List.length_map, List.length_append, List.length_take, List.length_drop, List.length_cons, List.length_nil]; first | done | omega) | (with_reducible decide)) only [go_sem, Int.reduceEq, Int.reduceNe, Int.reduceLT, Int.reduceLE, Nat.reduceEqDiff, Int.reduceToNat, Nat.reduceSub, Nat.reduceAdd, Nat.reduceMul, Nat.reduceLT, Nat.reduceLeDiff, Int.reduceNeg, Int.reduceAdd, Int.reduceSub, Int.reduceMul, UInt8.reduceToNat]; repeat first | ((first | refine ASpec.eq (ready_spec h d i) ?_); try simp (maxSteps := 4000000) (disch := first | omega | (simp only [push_n, set_n, clr_n, also_n, List.length_replicate, List.length_set, List.length_map, List.length_append, List.length_take, List.length_drop, List.length_cons, List.length_nil]; first | done | omega) | (with_reducible decide)) only [go_sem, Int.reduceEq, Int.reduceNe, Int.reduceLT, Int.reduceLE, Nat.reduceEqDiff, Int.reduceToNat, Nat.reduceSub, Nat.reduceAdd, Nat.reduceMul, Nat.reduceLT, Nat.reduceLeDiff, Int.reduceNeg, Int.reduceAdd, Int.reduceSub, Int.reduceMul, UInt8.reduceToNat]) | ((first | with_reducible refine split2_pk (by omega) ?_ | with_reducible refine split2_nk (by omega) ?_); intro hsq; try simp (maxSteps := 4000000) (disch := first | omega | (simp only [push_n, set_n, clr_n, also_n, List.length_replicate, List.length_set, List.length_map, List.length_append, List.length_take, List.length_drop, List.length_cons, List.length_nil]; first | done | omega) | (with_reducible decide)) only [go_sem, Int.reduceEq, Int.reduceNe, Int.reduceLT, Int.reduceLE, Nat.reduceEqDiff, Int.reduceToNat, Nat.reduceSub, Nat.reduceAdd, Nat.reduceMul, Nat.reduceLT, Nat.reduceLeDiff, Int.reduceNeg, Int.reduceAdd, Int.reduceSub, Int.reduceMul, UInt8.reduceToNat, hsq]))
  by_cases hw : A.why d i = 0
  · rw [hw]
    by_cases hl : bs.length = 64
    · (try simp (maxSteps := 4000000) (disch := first | omega | (simp only [push_n, set_n, clr_n, also_n, List.length_replicate, List.length_set, List.length_map, List.length_append, List.length_take, List.length_drop, List.length_cons, List.length_nil]; first | done | omega) | (with_reducible decide)) only [go_sem, Int.reduceEq, Int.reduceNe, Int.reduceLT, Int.reduceLE, Nat.reduceEqDiff, Int.reduceToNat, Nat.reduceSub, Nat.reduceAdd, Nat.reduceMul, Nat.reduceLT, Nat.reduceLeDiff, Int.reduceNeg, Int.reduceAdd, Int.reduceSub, Int.reduceMul, UInt8.reduceToNat, lb, hl]; repeat first | ((first | with_reducible refine split2_pk (by omega) ?_ | with_reducible refine split2_nk (by omega) ?_); intro hsq; try simp (maxSteps := 4000000) (disch := first | omega | (simp only [push_n, set_n, clr_n, also_n, List.length_replicate, List.length_set, List.length_map, List.length_append, List.length_take, List.length_drop, List.length_cons, List.length_nil]; first | done | omega) | (with_reducible decide)) only [go_sem, Int.reduceEq, Int.reduceNe, Int.reduceLT, Int.reduceLE, Nat.reduceEqDiff, Int.reduceToNat, Nat.reduceSub, Nat.reduceAdd, Nat.reduceMul, Nat.reduceLT, Nat.reduceLeDiff, Int.reduceNeg, Int.reduceAdd, Int.reduceSub, Int.reduceMul, UInt8.reduceToNat, lb, hl, hsq]))
      refine (burns_spec h).mono ?_
      rintro r H1 ⟨rfl, h1, c1⟩
      have hb1 := hb.chg c1 ho
      have w1 : Went H (ownB P D fv dvs) H1 (ownB P D fv dvs) := ⟨c1.mono (by simp [ownB]), fun i hi => .inl hi⟩
      cases hbt : A.burnt with
      | true =>
        (try simp (maxSteps := 4000000) (disch := first | omega | (simp only [push_n, set_n, clr_n, also_n, List.length_replicate, List.length_set, List.length_map, List.length_append, List.length_take, List.length_drop, List.length_cons, List.length_nil]; first | done | omega) | (with_reducible decide)) only [go_sem, Int.reduceEq, Int.reduceNe, Int.reduceLT, Int.reduceLE, Nat.reduceEqDiff, Int.reduceToNat, Nat.reduceSub, Nat.reduceAdd, Nat.reduceMul, Nat.reduceLT, Nat.reduceLeDiff, Int.reduceNeg, Int.reduceAdd, Int.reduceSub, Int.reduceMul, UInt8.reduceToNat]; repeat first | ((first | with_reducible refine split2_pk (by omega) ?_ | with_reducible refine split2_nk (by omega) ?_); intro hsq; try simp (maxSteps := 4000000) (disch := first | omega | (simp only [push_n, set_n, clr_n, also_n, List.length_replicate, List.length_set, List.length_map, List.length_append, List.length_take, List.length_drop, List.length_cons, List.length_nil]; first | done | omega) | (with_reducible decide)) only [go_sem, Int.reduceEq, Int.reduceNe, Int.reduceLT, Int.reduceLE, Nat.reduceEqDiff, Int.reduceToNat, Nat.reduceSub, Nat.reduceAdd, Nat.reduceMul, Nat.reduceLT, Nat.reduceLeDiff, Int.reduceNeg, Int.reduceAdd, Int.reduceSub, Int.reduceMul, UInt8.reduceToNat, hsq]))
        rw [show A.write d i bs = (8, A.burn) by simp [Arr.write, hw, hl, hbt]]
        exact ⟨rfl, fv, h1, w1⟩
      | false =>
        rw [show A.write d i bs = (0, { A.burn with fly := A.burn.fly ++ [⟨d.toNat, i.toNat, bs⟩] }) by simp [Arr.write, hw, hl, hbt]]
        have hin : 0 ≤ d ∧ 0 ≤ i := by
          unfold Arr.why Arr.inn at hw
          split at hw
          · cases hw
          · split at hw
            · rename_i hh; exact ⟨hh.1.1, hh.2.1⟩
            · cases hw
        have hnews := fun {X : Option ABlk} => (hb1.grew (Grew.push H1 X)).news
        have hone := all_one_bv bs
        have hst := fun {a b : AV} {zs : List AV} (hz : zs.length = 64) => fly_data (H1 := H1) (a := a) (b := b) hz hl
        (try simp (maxSteps := 4000000) (disch := first | omega | (simp only [push_n, set_n, clr_n, also_n, List.length_replicate, List.length_set, List.length_map, List.length_append, List.length_take, List.length_drop, List.length_cons, List.length_nil]; first | done | omega) | (with_reducible decide)) only [go_sem, Int.reduceEq, Int.reduceNe, Int.reduceLT, Int.reduceLE, Nat.reduceEqDiff, Int.reduceToNat, Nat.reduceSub, Nat.reduceAdd, Nat.reduceMul, Nat.reduceLT, Nat.reduceLeDiff, Int.reduceNeg, Int.reduceAdd, Int.reduceSub, Int.reduceMul, UInt8.reduceToNat, hnews, hl, hst]; repeat first | ((first | with_reducible refine split2_pk (by omega) ?_ | with_reducible refine split2_nk (by omega) ?_); intro hsq; try simp (maxSteps := 4000000) (disch := first | omega | (simp only [push_n, set_n, clr_n, also_n, List.length_replicate, List.length_set, List.length_map, List.length_append, List.length_take, List.length_drop, List.length_cons, List.length_nil]; first | done | omega) | (with_reducible decide)) only [go_sem, Int.reduceEq, Int.reduceNe, Int.reduceLT, Int.reduceLE, Nat.reduceEqDiff, Int.reduceToNat, Nat.reduceSub, Nat.reduceAdd, Nat.reduceMul, Nat.reduceLT, Nat.reduceLeDiff, Int.reduceNeg, Int.reduceAdd, Int.reduceSub, Int.reduceMul, UInt8.reduceToNat, hnews, hl, hst, hsq]))
        have ef : fl1 ⟨d.toNat, i.toNat, bs⟩ = AV.int .i64 d :: AV.int .i64 i :: bs.map bv := by simp only [fl1]; rw [Int.toNat_of_nonneg hin.1, Int.toNat_of_nonneg hin.2]
        have hFl := fl1_len (f := ⟨d.toNat, i.toNat, bs⟩) hl
        have hFo := fl1_one ⟨d.toNat, i.toNat, bs⟩
        rw [← ef]
        have hd1 := h1.hd
        have hwf : ∀ f ∈ A.burn.fly ++ [⟨d.toNat, i.toNat, bs⟩], f.disk < A.burn.disks.length ∧ f.pos < A.burn.count ∧ f.data.length = 64 := fun f hf => by
          rcases List.mem_append.1 hf with h2 | h2
          · exact h1.wf f h2
          · simp only [List.mem_cons, List.not_mem_nil, or_false] at h2
            subst h2
            rw [Arr.burn_disks, Arr.burn_count]
            unfold Arr.why Arr.inn at hw
            split at hw
            · cases hw
            · split at hw
              · rename_i hh; exact ⟨by simp only; omega, by simp only; omega, hl⟩
              · cases hw
        have hn1 : A.burn.fly.length < 1000000 := by rw [Arr.burn_fly]; exact hn
        generalize hF : fl1 ⟨d.toNat, i.toNat, bs⟩ = F at hFl hFo ⊢
        have gp2 := (Grew.push H1 (some (.cells F))).trans (Grew.push (H1.push (some (.cells F))) (some (.cells F)))
        obtain ⟨H3, a1, a2, a3, a4⟩ := fly_add h1 hn1 (f := ⟨d.toNat, i.toNat, bs⟩) hl gp2 (by' := 80) (by omega)
        rw [hF] at a1
        simp only [push_n] at a1 a2 a3
        have hd3 := a4.cells h1.pF hd1
        have hnl := h1.lt
        have p1 : P < H1.n := hnl P own_P
        (refine awp_drawP (hl := []) [eqM (H1.push (some (.cells F))),  eqM ((H1.push (some (.cells F))).push (some (.cells F))),  fun _ => True,  fun _ => True] [(0, some 2), (1, some 1), (2, some 1), (3, some 1), (4, some 1), (5, some 0), (6, none), (7, none), (8, some 0), (9, some 0), (10, none)] [6, 7, 10] (by kernel_rfl) (by rfl) (by decide +kernel) (rofP_0 ?_) ?_; rotate_left; (conv => arg 5; simp only [List.map_cons, List.map_nil, List.getElem?_toArray, List.getElem?_cons_zero, List.getElem?_cons_succ]); rotate_left)
        · rfl
        (try simp (maxSteps := 4000000) (disch := first | omega | (simp only [push_n, set_n, clr_n, also_n, List.length_replicate, List.length_set, List.length_map, List.length_append, List.length_take, List.length_drop, List.length_cons, List.length_nil]; first | done | omega) | (with_reducible decide)) only [go_sem, Int.reduceEq, Int.reduceNe, Int.reduceLT, Int.reduceLE, Nat.reduceEqDiff, Int.reduceToNat, Nat.reduceSub, Nat.reduceAdd, Nat.reduceMul, Nat.reduceLT, Nat.reduceLeDiff, Int.reduceNeg, Int.reduceAdd, Int.reduceSub, Int.reduceMul, UInt8.reduceToNat, hd1, hFo, a1, hd3, putAt_all]; repeat first | ((first | with_reducible refine split2_pk (by omega) ?_ | with_reducible refine split2_nk (by omega) ?_); intro hsq; try simp (maxSteps := 4000000) (disch := first | omega | (simp only [push_n, set_n, clr_n, also_n, List.length_replicate, List.length_set, List.length_map, List.length_append, List.length_take, List.length_drop, List.length_cons, List.length_nil]; first | done | omega) | (with_reducible decide)) only [go_sem, Int.reduceEq, Int.reduceNe, Int.reduceLT, Int.reduceLE, Nat.reduceEqDiff, Int.reduceToNat, Nat.reduceSub, Nat.reduceAdd, Nat.reduceMul, Nat.reduceLT, Nat.reduceLeDiff, Int.reduceNeg, Int.reduceAdd, Int.reduceSub, Int.reduceMul, UInt8.reduceToNat, hd1, hFo, a1, hd3, putAt_all, hsq]))
        have hnew : ∀ j ∈ blkOf (AV.slice ⟨false, H1.n + 1 + 1, 0⟩ (A.burn.fly.length + 1) (.grow 66)), H1.n ≤ j := fun j hj => by
          simp only [blkOf, List.mem_cons, List.not_mem_nil, or_false] at hj; omega
        have key := h1.flies a4 a2 hwf (fun j hj => .inr fun hm => by have := hnl j hm; have := hnew j hj; omega) (fuse := A.burn.fuse) h1.fuse A.burn.off
        refine ⟨_, key, w1.trans ⟨?_, fun j hj => ?_⟩⟩
        · exact (a4.mono fun j hj => own_F hj).thenSet _ (.inl own_P)
        · rcases own_of hj with rfl | rfl | hj | ⟨e, he, hj⟩
          · exact .inl own_P
          · exact .inl own_D
          · exact .inr (hnew j hj)
          · exact .inl (own_E he hj)
    · (try simp (maxSteps := 4000000) (disch := first | omega | (simp only [push_n, set_n, clr_n, also_n, List.length_replicate, List.length_set, List.length_map, List.length_append, List.length_take, List.length_drop, List.length_cons, List.length_nil]; first | done | omega) | (with_reducible decide)) only [go_sem, Int.reduceEq, Int.reduceNe, Int.reduceLT, Int.reduceLE, Nat.reduceEqDiff, Int.reduceToNat, Nat.reduceSub, Nat.reduceAdd, Nat.reduceMul, Nat.reduceLT, Nat.reduceLeDiff, Int.reduceNeg, Int.reduceAdd, Int.reduceSub, Int.reduceMul, UInt8.reduceToNat, lb, hl]; repeat first | ((first | with_reducible refine split2_pk (by omega) ?_ | with_reducible refine split2_nk (by omega) ?_); intro hsq; try simp (maxSteps := 4000000) (disch := first | omega | (simp only [push_n, set_n, clr_n, also_n, List.length_replicate, List.length_set, List.length_map, List.length_append, List.length_take, List.length_drop, List.length_cons, List.length_nil]; first | done | omega) | (with_reducible decide)) only [go_sem, Int.reduceEq, Int.reduceNe, Int.reduceLT, Int.reduceLE, Nat.reduceEqDiff, Int.reduceToNat, Nat.reduceSub, Nat.reduceAdd, Nat.reduceMul, Nat.reduceLT, Nat.reduceLeDiff, Int.reduceNeg, Int.reduceAdd, Int.reduceSub, Int.reduceMul, UInt8.reduceToNat, lb, hl, hsq]))
      rw [show A.write d i bs = (1, A) by simp [Arr.write, hw, hl]]
      exact ⟨rfl, fv, h, Went.refl _ _⟩
  · (try simp (maxSteps := 4000000) (disch := first | omega | (simp only [push_n, set_n, clr_n, also_n, List.length_replicate, List.length_set, List.length_map, List.length_append, List.length_take, List.length_drop, List.length_cons, List.length_nil]; first | done | omega) | (with_reducible decide)) only [go_sem, Int.reduceEq, Int.reduceNe, Int.reduceLT, Int.reduceLE, Nat.reduceEqDiff, Int.reduceToNat, Nat.reduceSub, Nat.reduceAdd, Nat.reduceMul, Nat.reduceLT, Nat.reduceLeDiff, Int.reduceNeg, Int.reduceAdd, Int.reduceSub, Int.reduceMul, UInt8.reduceToNat, lb, hw]; repeat first | ((first | with_reducible refine split2_pk (by omega) ?_ | with_reducible refine split2_nk (by omega) ?_); intro hsq; try simp (maxSteps := 4000000) (disch := first | omega | (simp only [push_n, set_n, clr_n, also_n, List.length_replicate, List.length_set, List.length_map, List.length_append, List.length_take, List.length_drop, List.length_cons, List.length_nil]; first | done | omega) | (with_reducible decide)) only [go_sem, Int.reduceEq, Int.reduceNe, Int.reduceLT, Int.reduceLE, Nat.reduceEqDiff, Int.reduceToNat, Nat.reduceSub, Nat.reduceAdd, Nat.reduceMul, Nat.reduceLT, Nat.reduceLeDiff, Int.reduceNeg, Int.reduceAdd, Int.reduceSub, Int.reduceMul, UInt8.reduceToNat, lb, hw, hsq]))
    rw [show A.write d i bs = (A.why d i, A) by simp [Arr.write, hw]]
    exact ⟨rfl, fv, h, Went.refl _ _⟩
end
end Go.Proofs.Ytickckpndpeppaa
