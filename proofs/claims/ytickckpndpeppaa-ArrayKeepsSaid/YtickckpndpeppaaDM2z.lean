/- The document's arrays of disks: writes, reads, barriers, crashes. -/
import Derived.Test.YtickckpndpeppaaDM1z
namespace Go.Proofs.Ytickckpndpeppaa
open Go Go.Abs Go.Abs.GF
set_option linter.unusedVariables false
set_option linter.unusedSimpArgs false
set_option maxHeartbeats 4000000
attribute [local irreducible] ASpec AWp WP AOps DOps

theorem chg_also {S : List Nat} {H H' : AH} (h : Chg S H H') : Chg S H (H'.also H.wr) := ⟨h.ro, h.n, h.old, fun i hi => hi.elim (h.wr i) .inl⟩
theorem OkRL.also {H : AH} {X : Nat → Prop} {lv : AV} {fl : List RF} (h : OkRL H lv fl) : OkRL (H.also X) lv fl := h
/-- Bytes in a memory, and in one that forgot what was written. -/
theorem bytes_clr {H : AH} {b : Option ABlk} {v : AV} {xs : List UInt8} (h : IsBytes (H.push b) v xs) : IsBytes (H.clr.push b) v xs := ⟨h.row, h.len, h.sl⟩
section
variable {H : AH} {P D : Nat} {lv : AV} {ds : List RD} {fl : List RF} {A : Arr}
theorem allR_own {i : Nat} (hi : i ∈ ownR P D lv ds) : i ∈ allR P D lv ds fl := List.mem_append_left _ hi
theorem allR_row {i : Nat} (hi : i ∈ rowsR ds fl) : i ∈ allR P D lv ds fl := List.mem_append_right _ hi
theorem allR_of {i : Nat} (h : i ∈ allR P D lv ds fl) : i ∈ ownR P D lv ds ∨ i ∈ rowsR ds fl := List.mem_append.1 h
/-- One write more, behind those in flight. -/
theorem IsRef.flyAdd (h : IsRef H P D lv ds fl A) (hn : fl.length < 1000000) {H2 : AH} (g : Grew H H2) (x : RF) {by' : Nat} (hb : by' ≤ 1000) :
    ∃ H', appendTo 3 by' H2 1 (rf1 x) lv = some (.slice ⟨false, H2.n, 0⟩ (fl.length + 1) (.grow 3), H') ∧ OkRL H' (.slice ⟨false, H2.n, 0⟩ (fl.length + 1) (.grow 3)) (fl ++ [x]) ∧ H'.n = H2.n + 1 ∧ Chg (blkOf lv) H2 H' := by
  have hb' : (fl.length + 1) * by' ≤ 140737488355328 := Nat.le_trans (Nat.mul_le_mul (show fl.length + 1 ≤ 1000000 by omega) hb) (by omega)
  rcases h.fk with ⟨rfl, rfl⟩ | ⟨B, rfl, h2⟩
  · refine ⟨H2.push (some (.cells (rf1 x))), ?_, .inr ⟨H2.n, rfl, ?_⟩, push_n _ _, (Grew.push _ _).chg _⟩
    · rw [app_to_nil, gd_pos ⟨by omega, by simpa using hb'⟩]; rfl
    · rw [push_cells]; rfl
  · have hc := g.cells_some h2
    refine ⟨(H2.set B none).push (some (.cells (rfC fl ++ rf1 x))), ?_, .inr ⟨H2.n, by simp, ?_⟩, by rw [push_n, set_n], ?_⟩
    · rw [app_to_grow, gd_pos ⟨by omega, hb'⟩, hc]
      simp only [Option.bind_some, List.drop_zero, Nat.zero_add]
      rw [gde_pos (by rw [rfC_len])]
    · rw [push_cells_at (by rw [set_n]), rfC, rfC, List.flatMap_append]; simp
    · exact (Chg.set H2 B none (S := blkOf (.slice ⟨false, B, 0⟩ fl.length (.grow 3))) (by simp [blkOf])).trans ((Grew.push _ _).chg _)
theorem refWrite_spec (h : IsRef H P D lv ds fl A) (d i : Int) (v : AV) (bs : List UInt8) (hb : IsBytes H v bs) (hbl : bs.length ≤ 140737488351232) (ho : offB [P] v) (hn : A.fly.length < 1000000) :
    ASpec Try.prog 28 [.ptr ⟨false, P, 0⟩, .int .i64 d, .int .i64 i, v] H fun r H' => r = .int .i64 ((A.write d i bs).1 : Nat) ∧ ∃ lv' fl', IsRef H' P D lv' ds fl' (A.write d i bs).2 ∧ Went H (allR P D lv ds fl) H' (allR P D lv' ds fl') := by
  have lb := hb.length (P := Try.prog) Try.underlying27
  refine aspec_fn (rs := [.tmp 8]) (n := 36) Try.func28 rfl rfl rfl rfl (by kernel_rfl) (Nat.le_of_ble_eq_true rfl) ?_
  (try simp (maxSteps := 4000000) (disch := first | omega | (simp only [push_n, set_n, clr_n, also_n, List.length_replicate, List.length_set, List.length_map, List.length_append, List.length_take, List.length_drop, List.length_cons, List.length_nil]; first | done | omega) | (with_reducible decide)) only [go_sem, Int.reduceEq, Int.reduceNe, Int.reduceLT, Int.reduceLE, Nat.reduceEqDiff, Int.reduceToNat, Nat.reduceSub, Nat.reduceAdd, Nat.reduceMul, Nat.reduceLT, Nat.reduceLeDiff, Int.reduceNeg, Int.reduceAdd, Int.reduceSub, Int.reduceMul, UInt8.reduceToNat]; repeat first | ((first | refine ASpec.eq (refWhy_spec h d i) ?_); try simp (maxSteps := 4000000) (disch := first | omega | (simp only [push_n, set_n, clr_n, also_n, List.length_replicate, List.length_set, List.length_map, List.length_append, List.length_take, List.length_drop, List.length_cons, List.length_nil]; first | done | omega) | (with_reducible decide)) only [go_sem, Int.reduceEq, Int.reduceNe, Int.reduceLT, Int.reduceLE, Nat.reduceEqDiff, Int.reduceToNat, Nat.reduceSub, Nat.reduceAdd, Nat.reduceMul, Nat.reduceLT, Nat.reduceLeDiff, Int.reduceNeg, Int.reduceAdd, Int.reduceSub, Int.reduceMul, UInt8.reduceToNat]) | ((first | with_reducible refine split2_pk (by omega) ?_ | with_reducible refine split2_nk (by omega) ?_); intro hsq; try simp (maxSteps := 4000000) (disch := first | omega | (simp only [push_n, set_n, clr_n, also_n, List.length_replicate, List.length_set, List.length_map, List.length_append, List.length_take, List.length_drop, List.length_cons, List.length_nil]; first | done | omega) | (with_reducible decide)) only [go_sem, Int.reduceEq, Int.reduceNe, Int.reduceLT, Int.reduceLE, Nat.reduceEqDiff, Int.reduceToNat, Nat.reduceSub, Nat.reduceAdd, Nat.reduceMul, Nat.reduceLT, Nat.reduceLeDiff, Int.reduceNeg, Int.reduceAdd, Int.reduceSub, Int.reduceMul, UInt8.reduceToNat, hsq]))
  by_cases hw : A.why d i = 0
  · obtain ⟨w1, w2, w3, w4, w5⟩ := why_zero hw
    rw [hw]
    by_cases hl : bs.length = 64
    · (try simp (maxSteps := 4000000) (disch := first | omega | (simp only [push_n, set_n, clr_n, also_n, List.length_replicate, List.length_set, List.length_map, List.length_append, List.length_take, List.length_drop, List.length_cons, List.length_nil]; first | done | omega) | (with_reducible decide)) only [go_sem, Int.reduceEq, Int.reduceNe, Int.reduceLT, Int.reduceLE, Nat.reduceEqDiff, Int.reduceToNat, Nat.reduceSub, Nat.reduceAdd, Nat.reduceMul, Nat.reduceLT, Nat.reduceLeDiff, Int.reduceNeg, Int.reduceAdd, Int.reduceSub, Int.reduceMul, UInt8.reduceToNat, lb, hl]; repeat first | ((first | with_reducible refine split2_pk (by omega) ?_ | with_reducible refine split2_nk (by omega) ?_); intro hsq; try simp (maxSteps := 4000000) (disch := first | omega | (simp only [push_n, set_n, clr_n, also_n, List.length_replicate, List.length_set, List.length_map, List.length_append, List.length_take, List.length_drop, List.length_cons, List.length_nil]; first | done | omega) | (with_reducible decide)) only [go_sem, Int.reduceEq, Int.reduceNe, Int.reduceLT, Int.reduceLE, Nat.reduceEqDiff, Int.reduceToNat, Nat.reduceSub, Nat.reduceAdd, Nat.reduceMul, Nat.reduceLT, Nat.reduceLeDiff, Int.reduceNeg, Int.reduceAdd, Int.reduceSub, Int.reduceMul, UInt8.reduceToNat, lb, hl, hsq]))
      refine (refGoes_spec h w1).mono ?_
      rintro r H1 ⟨rfl, h1, c1⟩
      have hb1 := hb.chg c1 ho
      have w0 : Went H (allR P D lv ds fl) H1 (allR P D lv ds fl) := ⟨c1.mono fun j hj => by simp only [List.mem_cons, List.not_mem_nil, or_false] at hj; subst hj; exact allR_own own_PR, fun j hj => .inl hj⟩
      cases hbt : A.burnt with
      | true =>
        (try simp (maxSteps := 4000000) (disch := first | omega | (simp only [push_n, set_n, clr_n, also_n, List.length_replicate, List.length_set, List.length_map, List.length_append, List.length_take, List.length_drop, List.length_cons, List.length_nil]; first | done | omega) | (with_reducible decide)) only [go_sem, Int.reduceEq, Int.reduceNe, Int.reduceLT, Int.reduceLE, Nat.reduceEqDiff, Int.reduceToNat, Nat.reduceSub, Nat.reduceAdd, Nat.reduceMul, Nat.reduceLT, Nat.reduceLeDiff, Int.reduceNeg, Int.reduceAdd, Int.reduceSub, Int.reduceMul, UInt8.reduceToNat]; repeat first | ((first | with_reducible refine split2_pk (by omega) ?_ | with_reducible refine split2_nk (by omega) ?_); intro hsq; try simp (maxSteps := 4000000) (disch := first | omega | (simp only [push_n, set_n, clr_n, also_n, List.length_replicate, List.length_set, List.length_map, List.length_append, List.length_take, List.length_drop, List.length_cons, List.length_nil]; first | done | omega) | (with_reducible decide)) only [go_sem, Int.reduceEq, Int.reduceNe, Int.reduceLT, Int.reduceLE, Nat.reduceEqDiff, Int.reduceToNat, Nat.reduceSub, Nat.reduceAdd, Nat.reduceMul, Nat.reduceLT, Nat.reduceLeDiff, Int.reduceNeg, Int.reduceAdd, Int.reduceSub, Int.reduceMul, UInt8.reduceToNat, hsq]))
        rw [show A.write d i bs = (8, A.burn) by simp [Arr.write, hw, hl, hbt]]
        exact ⟨rfl, lv, fl, h1, w0⟩
      | false =>
        rw [show A.write d i bs = (0, { A.burn with fly := A.burn.fly ++ [⟨d.toNat, i.toNat, bs⟩] }) by simp [Arr.write, hw, hl, hbt]]
        have hd1 := h1.hd
        have hPn := cells_lt hd1
        have hq := gq_live (H := H1) (i := P) (by rw [hd1]; rfl)
        have hin : 0 ≤ d ∧ 0 ≤ i := ⟨w2.1, w3⟩
        have hfl : fl.length < 1000000 := by rw [← h.flen]; exact hn
        (try simp (maxSteps := 4000000) (disch := first | omega | (simp only [push_n, set_n, clr_n, also_n, List.length_replicate, List.length_set, List.length_map, List.length_append, List.length_take, List.length_drop, List.length_cons, List.length_nil]; first | done | omega) | (with_reducible decide)) only [go_sem, Int.reduceEq, Int.reduceNe, Int.reduceLT, Int.reduceLE, Nat.reduceEqDiff, Int.reduceToNat, Nat.reduceSub, Nat.reduceAdd, Nat.reduceMul, Nat.reduceLT, Nat.reduceLeDiff, Int.reduceNeg, Int.reduceAdd, Int.reduceSub, Int.reduceMul, UInt8.reduceToNat]; repeat first | ((first | with_reducible refine split2_pk (by omega) ?_ | with_reducible refine split2_nk (by omega) ?_); intro hsq; try simp (maxSteps := 4000000) (disch := first | omega | (simp only [push_n, set_n, clr_n, also_n, List.length_replicate, List.length_set, List.length_map, List.length_append, List.length_take, List.length_drop, List.length_cons, List.length_nil]; first | done | omega) | (with_reducible decide)) only [go_sem, Int.reduceEq, Int.reduceNe, Int.reduceLT, Int.reduceLE, Nat.reduceEqDiff, Int.reduceToNat, Nat.reduceSub, Nat.reduceAdd, Nat.reduceMul, Nat.reduceLT, Nat.reduceLeDiff, Int.reduceNeg, Int.reduceAdd, Int.reduceSub, Int.reduceMul, UInt8.reduceToNat, hsq]))
        (refine awp_drawH [26] [eqM H1.clr,  fun K => Grew H1.clr K,  fun K => Grew H1.clr K,  fun K => (K.cells? P).isSome = true,  fun _ => True] [(0, some 3), (1, some 2), (2, some 2), (3, some 2), (4, some 2), (5, some 1), (6, some 1), (7, some 0), (8, none), (9, some 0), (10, none), (11, none), (12, some 0), (13, some 0), (14, none)] [8, 10, 11, 14] (by kernel_rfl) (by rfl) (by decide +kernel) (rofP_0 ?_) ?_; rotate_left; (conv => arg 5; simp only [List.map_cons, List.map_nil, List.getElem?_toArray, List.getElem?_cons_zero, List.getElem?_cons_succ]); rotate_left)
        · rfl
        have hgp := fun {X : Option ABlk} => Grew.push H1.clr X
        have hgp2 := fun {X Y : Option ABlk} => hgp.trans (Grew.push (H1.clr.push X) Y)
        have x64 := bytes_whole (H := H1.push (some (.cells (bs.map bv)))) (push_cells _ _) (c := .grow 1) (by rfl)
        obtain ⟨x, hx⟩ : ∃ x : RF, x = ⟨.slice ⟨false, H1.n, 0⟩ bs.length (.grow 1), ⟨d.toNat, i.toNat, bs⟩⟩ := ⟨_, rfl⟩
        have ex : rf1 x = [.int .i64 d, .int .i64 i, .slice ⟨false, H1.n, 0⟩ bs.length (.grow 1)] := by
          rw [hx]; simp only [rf1]; rw [Int.toNat_of_nonneg hin.1, Int.toNat_of_nonneg hin.2]
        obtain ⟨H3, a1, a2, a3, a4⟩ := h1.flyAdd (by rw [← h1.flen, Arr.burn_fly]; exact hn) (((Grew.clr_self H1).trans (Grew.push H1.clr (some (.cells (bs.map bv))))).trans (Grew.push _ (some (.cells (rf1 x))))) x (by' := 40) (by omega)
        rw [ex] at a1 a4
        simp only [push_n, clr_n] at a1 a2 a3
        have hd3 := a4.cells (nodup4.1 h1.nd).2.1 (((Grew.clr_self H1).trans hgp2).cells_some hd1)
        (try simp (maxSteps := 4000000) (disch := first | omega | (simp only [push_n, set_n, clr_n, also_n, List.length_replicate, List.length_set, List.length_map, List.length_append, List.length_take, List.length_drop, List.length_cons, List.length_nil]; first | done | omega) | (with_reducible decide)) only [go_sem, Int.reduceEq, Int.reduceNe, Int.reduceLT, Int.reduceLE, Nat.reduceEqDiff, Int.reduceToNat, Nat.reduceSub, Nat.reduceAdd, Nat.reduceMul, Nat.reduceLT, Nat.reduceLeDiff, Int.reduceNeg, Int.reduceAdd, Int.reduceSub, Int.reduceMul, UInt8.reduceToNat, hd1, rigP_gs, rigP_g1, hq, hgp, hgp2, a1, hd3]; repeat first | ((first | refine ASpec.eq (own_spec _ hb1.clr hbl) ?_); try simp (maxSteps := 4000000) (disch := first | omega | (simp only [push_n, set_n, clr_n, also_n, List.length_replicate, List.length_set, List.length_map, List.length_append, List.length_take, List.length_drop, List.length_cons, List.length_nil]; first | done | omega) | (with_reducible decide)) only [go_sem, Int.reduceEq, Int.reduceNe, Int.reduceLT, Int.reduceLE, Nat.reduceEqDiff, Int.reduceToNat, Nat.reduceSub, Nat.reduceAdd, Nat.reduceMul, Nat.reduceLT, Nat.reduceLeDiff, Int.reduceNeg, Int.reduceAdd, Int.reduceSub, Int.reduceMul, UInt8.reduceToNat, hd1, rigP_gs, rigP_g1, hq, hgp, hgp2, a1, hd3]) | ((first | with_reducible refine split2_pk (by omega) ?_ | with_reducible refine split2_nk (by omega) ?_); intro hsq; try simp (maxSteps := 4000000) (disch := first | omega | (simp only [push_n, set_n, clr_n, also_n, List.length_replicate, List.length_set, List.length_map, List.length_append, List.length_take, List.length_drop, List.length_cons, List.length_nil]; first | done | omega) | (with_reducible decide)) only [go_sem, Int.reduceEq, Int.reduceNe, Int.reduceLT, Int.reduceLE, Nat.reduceEqDiff, Int.reduceToNat, Nat.reduceSub, Nat.reduceAdd, Nat.reduceMul, Nat.reduceLT, Nat.reduceLeDiff, Int.reduceNeg, Int.reduceAdd, Int.reduceSub, Int.reduceMul, UInt8.reduceToNat, hd1, rigP_gs, rigP_g1, hq, hgp, hgp2, a1, hd3, hsq]))
        have c4 : Chg (blkOf lv) H1 (H3.also H1.wr) := chg_also ((((Grew.clr_self H1).trans hgp2).chg _).trans a4)
        have hlt := h1.lt
        have hM : ∀ j ∈ ownR P D (.slice ⟨false, H1.n + 1 + 1, 0⟩ (fl.length + 1) (.grow 3)) ds, j ∈ ownR P D lv ds ∨ H1.n + 1 < j := fun j hj => by
          rcases own_ofR hj with rfl | rfl | hj | ⟨e, he, hj⟩
          · exact .inl own_PR
          · exact .inl own_DR
          · simp only [blkOf, List.mem_cons, List.not_mem_nil, or_false] at hj; exact .inr (by omega)
          · exact .inl (own_sv he hj)
        have hxw : x.w = .slice ⟨false, H1.n, 0⟩ bs.length (.grow 1) := by rw [hx]
        have hxf : x.f = ⟨d.toNat, i.toNat, bs⟩ := by rw [hx]
        have hxo : OkRow (H3.also H1.wr) (ownR P D (.slice ⟨false, H1.n + 1 + 1, 0⟩ (fl.length + 1) (.grow 3)) ds) x.w x.f.data := by
          rw [hxw, hxf]
          refine ⟨(((bytes_clr x64).grew (Grew.push _ _)).chg a4 ?_).also, fun q hq hm => ?_, fun q hq => ?_, hl⟩
          · exact .inr fun hm => by have := hlt _ (own_lv hm); simp only at this; omega
          · simp only [blkOf, List.mem_cons, List.not_mem_nil, or_false] at hq
            rcases hM q hm with h2 | h2
            · have := hlt q h2; omega
            · omega
          · simp only [blkOf, List.mem_cons, List.not_mem_nil, or_false] at hq
            rw [also_n]; omega
        have fin := h1.flies c4 (lv' := .slice ⟨false, H1.n + 1 + 1, 0⟩ (fl.length + 1) (.grow 3)) (fl' := fl ++ [x]) (a2.also) (by simp [blkOf]) (fun f hf => by
          rcases List.mem_append.1 hf with h2 | h2
          · exact (h1.fw f h2).chg c4 (fun q hq hm => (h1.fw f h2).off q hq (own_lv hm)) fun q hq => (hM q hq).imp id fun e => by omega
          · simp only [List.mem_cons, List.not_mem_nil, or_false] at h2; subst h2; exact hxo) (fun f hf => by
          rcases List.mem_append.1 hf with h2 | h2
          · exact h1.wf f.f (by rw [h1.eF]; exact List.mem_map_of_mem h2)
          · simp only [List.mem_cons, List.not_mem_nil, or_false] at h2; subst h2; rw [hxf]
            have := w2.2; rw [h.len] at this; rw [Arr.burn_count]; simp only; omega) (by simp only [blkOf, List.mem_cons, List.not_mem_nil, or_false]; omega) (fuse := A.burn.fuse) h1.fuse A.burn.off
        refine ⟨.slice ⟨false, H1.n + 1 + 1, 0⟩ (fl.length + 1) (.grow 3), fl ++ [x], ?_, w0.trans ⟨(c4.mono fun j hj => allR_own (own_lv hj)).thenSet _ (.inl (allR_own own_PR)), fun j hj => ?_⟩⟩
        · have e : (fl ++ [x]).map (·.f) = A.burn.fly ++ [⟨d.toNat, i.toNat, bs⟩] := by rw [List.map_append, ← h1.eF]; simp [hxf]
          rw [e] at fin; exact fin
        · rcases allR_of hj with h2 | h2
          · rcases hM j h2 with h3 | h3
            · exact .inl (allR_own h3)
            · exact .inr (by omega)
          · rcases rows_of h2 with ⟨e, he, u, hu, h5⟩ | ⟨f, hf, h5⟩
            · exact .inl (allR_row (rows_d he hu h5))
            · rcases List.mem_append.1 hf with h3 | h3
              · exact .inl (allR_row (rows_f h3 h5))
              · simp only [List.mem_cons, List.not_mem_nil, or_false] at h3
                rw [h3, hxw] at h5
                simp only [blkOf, List.mem_cons, List.not_mem_nil, or_false] at h5
                exact .inr (by omega)
    · (try simp (maxSteps := 4000000) (disch := first | omega | (simp only [push_n, set_n, clr_n, also_n, List.length_replicate, List.length_set, List.length_map, List.length_append, List.length_take, List.length_drop, List.length_cons, List.length_nil]; first | done | omega) | (with_reducible decide)) only [go_sem, Int.reduceEq, Int.reduceNe, Int.reduceLT, Int.reduceLE, Nat.reduceEqDiff, Int.reduceToNat, Nat.reduceSub, Nat.reduceAdd, Nat.reduceMul, Nat.reduceLT, Nat.reduceLeDiff, Int.reduceNeg, Int.reduceAdd, Int.reduceSub, Int.reduceMul, UInt8.reduceToNat, lb, hl]; repeat first | ((first | with_reducible refine split2_pk (by omega) ?_ | with_reducible refine split2_nk (by omega) ?_); intro hsq; try simp (maxSteps := 4000000) (disch := first | omega | (simp only [push_n, set_n, clr_n, also_n, List.length_replicate, List.length_set, List.length_map, List.length_append, List.length_take, List.length_drop, List.length_cons, List.length_nil]; first | done | omega) | (with_reducible decide)) only [go_sem, Int.reduceEq, Int.reduceNe, Int.reduceLT, Int.reduceLE, Nat.reduceEqDiff, Int.reduceToNat, Nat.reduceSub, Nat.reduceAdd, Nat.reduceMul, Nat.reduceLT, Nat.reduceLeDiff, Int.reduceNeg, Int.reduceAdd, Int.reduceSub, Int.reduceMul, UInt8.reduceToNat, lb, hl, hsq]))
      rw [show A.write d i bs = (1, A) by simp [Arr.write, hw, hl]]
      exact ⟨rfl, lv, fl, h, Went.refl _ _⟩
  · (try simp (maxSteps := 4000000) (disch := first | omega | (simp only [push_n, set_n, clr_n, also_n, List.length_replicate, List.length_set, List.length_map, List.length_append, List.length_take, List.length_drop, List.length_cons, List.length_nil]; first | done | omega) | (with_reducible decide)) only [go_sem, Int.reduceEq, Int.reduceNe, Int.reduceLT, Int.reduceLE, Nat.reduceEqDiff, Int.reduceToNat, Nat.reduceSub, Nat.reduceAdd, Nat.reduceMul, Nat.reduceLT, Nat.reduceLeDiff, Int.reduceNeg, Int.reduceAdd, Int.reduceSub, Int.reduceMul, UInt8.reduceToNat, lb, hw]; repeat first | ((first | with_reducible refine split2_pk (by omega) ?_ | with_reducible refine split2_nk (by omega) ?_); intro hsq; try simp (maxSteps := 4000000) (disch := first | omega | (simp only [push_n, set_n, clr_n, also_n, List.length_replicate, List.length_set, List.length_map, List.length_append, List.length_take, List.length_drop, List.length_cons, List.length_nil]; first | done | omega) | (with_reducible decide)) only [go_sem, Int.reduceEq, Int.reduceNe, Int.reduceLT, Int.reduceLE, Nat.reduceEqDiff, Int.reduceToNat, Nat.reduceSub, Nat.reduceAdd, Nat.reduceMul, Nat.reduceLT, Nat.reduceLeDiff, Int.reduceNeg, Int.reduceAdd, Int.reduceSub, Int.reduceMul, UInt8.reduceToNat, lb, hw, hsq]))
    rw [show A.write d i bs = (A.why d i, A) by simp [Arr.write, hw]]
    exact ⟨rfl, lv, fl, h, Went.refl _ _⟩
theorem refRead_spec (h : IsRef H P D lv ds fl A) (d i : Int) (hn : A.fly.length < 1000000) : ASpec Try.prog 29 [.ptr ⟨false, P, 0⟩, .int .i64 d, .int .i64 i] H fun r H' =>
    (A.why d i ≠ 0 ∧ r = .tup [.nilslice, .int .i64 (A.why d i : Nat)] ∧ H' = H) ∨ (A.why d i = 0 ∧ r = .tup [.slice ⟨false, H.n, 0⟩ 64 (.grow 1), .int .i64 0] ∧ Grew H H' ∧ IsBytes H' (.slice ⟨false, H.n, 0⟩ 64 (.grow 1)) (A.read d.toNat i.toNat)) := by
  by_cases hw : A.why d i = 0
  · obtain ⟨w1, w2, w3, w4, w5⟩ := why_zero hw
    have hd := h.hd
    have dc := h.dc
    have hdl : d.toNat < ds.length := by have := w2.2; rw [h.len] at this; have := w2.1; omega
    have h0 : 0 ≤ d := w2.1
    have hon : ∃ ss, (ds.getD d.toNat default).ss = some ss := by
      have := h.on_none (d := d) ⟨h0, by omega⟩
      rw [w5] at this
      cases hs : (ds.getD d.toNat default).ss with
      | none => rw [hs] at this; simp at this
      | some ss => exact ⟨ss, rfl⟩
    obtain ⟨ss, hss⟩ := hon
    obtain ⟨s1, s2, ⟨B, s3, s4⟩, s5⟩ := h.disk hdl hss
    have hil : i.toNat < A.count := by omega
    have c0 := rdC_0 (l := ds) (i := d.toNat) hdl
    rw [s3] at c0
    have hl := rdC_len ds
    have hwi : (ds.getD d.toNat default).ws[i.toNat]? = some ((ds.getD d.toNat default).ws.getD i.toNat .unk) := by
      simp [List.getD, show i.toNat < (ds[d.toNat]?.getD default).ws.length by simpa [List.getD] using (show i.toNat < (ds.getD d.toNat default).ws.length by omega)]
    have lf := h.lenL Try.underlying76
    have hsec : A.sec d.toNat i.toNat = ss.getD i.toNat [] := by rw [Arr.sec, h.nth, hss]; rfl
    have hflen := h.flen
    refine aspec_fn (rs := [.tmp 6, .tmp 7]) (n := 70) Try.func29 rfl rfl rfl rfl (by kernel_rfl) (Nat.le_of_ble_eq_true rfl) ?_
    (try simp (maxSteps := 4000000) (disch := first | omega | (simp only [push_n, set_n, clr_n, also_n, List.length_replicate, List.length_set, List.length_map, List.length_append, List.length_take, List.length_drop, List.length_cons, List.length_nil]; first | done | omega) | (with_reducible decide)) only [go_sem, Int.reduceEq, Int.reduceNe, Int.reduceLT, Int.reduceLE, Nat.reduceEqDiff, Int.reduceToNat, Nat.reduceSub, Nat.reduceAdd, Nat.reduceMul, Nat.reduceLT, Nat.reduceLeDiff, Int.reduceNeg, Int.reduceAdd, Int.reduceSub, Int.reduceMul, UInt8.reduceToNat, hw, hd, dc, c0, s4, hwi]; repeat first | ((first | refine ASpec.eq (refWhy_spec h d i) ?_); try simp (maxSteps := 4000000) (disch := first | omega | (simp only [push_n, set_n, clr_n, also_n, List.length_replicate, List.length_set, List.length_map, List.length_append, List.length_take, List.length_drop, List.length_cons, List.length_nil]; first | done | omega) | (with_reducible decide)) only [go_sem, Int.reduceEq, Int.reduceNe, Int.reduceLT, Int.reduceLE, Nat.reduceEqDiff, Int.reduceToNat, Nat.reduceSub, Nat.reduceAdd, Nat.reduceMul, Nat.reduceLT, Nat.reduceLeDiff, Int.reduceNeg, Int.reduceAdd, Int.reduceSub, Int.reduceMul, UInt8.reduceToNat, hw, hd, dc, c0, s4, hwi]) | ((first | with_reducible refine split2_pk (by omega) ?_ | with_reducible refine split2_nk (by omega) ?_); intro hsq; try simp (maxSteps := 4000000) (disch := first | omega | (simp only [push_n, set_n, clr_n, also_n, List.length_replicate, List.length_set, List.length_map, List.length_append, List.length_take, List.length_drop, List.length_cons, List.length_nil]; first | done | omega) | (with_reducible decide)) only [go_sem, Int.reduceEq, Int.reduceNe, Int.reduceLT, Int.reduceLE, Nat.reduceEqDiff, Int.reduceToNat, Nat.reduceSub, Nat.reduceAdd, Nat.reduceMul, Nat.reduceLT, Nat.reduceLeDiff, Int.reduceNeg, Int.reduceAdd, Int.reduceSub, Int.reduceMul, UInt8.reduceToNat, hw, hd, dc, c0, s4, hwi, hsq]))
    refine wp_loopS (σ := Nat × AV) (by kernel_rfl) (fun (j, w) => [(0, .ptr ⟨false, P, 0⟩), (1, .int .i64 d), (2, .int .i64 i), (9, w), (10, .int .i64 (j : Nat))]) (fun (j, w) H' => j ≤ fl.length ∧ H' = H ∧ OkRow H (ownR P D lv ds) w (lastOf d.toNat i.toNat (A.sec d.toNat i.toNat) (A.fly.take j))) (fun (j, w) => fl.length - j) (0, (ds.getD d.toNat default).ws.getD i.toNat .unk) (by simp (maxSteps := 4000000) (disch := first | omega | (simp only [push_n, set_n, clr_n, also_n, List.length_replicate, List.length_set, List.length_map, List.length_append, List.length_take, List.length_drop, List.length_cons, List.length_nil]; first | done | omega) | (with_reducible decide)) only [go_sem, Int.reduceEq, Int.reduceNe, Int.reduceLT, Int.reduceLE, Nat.reduceEqDiff, Int.reduceToNat, Nat.reduceSub, Nat.reduceAdd, Nat.reduceMul, Nat.reduceLT, Nat.reduceLeDiff, Int.reduceNeg, Int.reduceAdd, Int.reduceSub, Int.reduceMul, UInt8.reduceToNat]) ?_ ?_
    · refine ⟨by omega, rfl, ?_⟩
      rw [List.take_zero, hsec]
      exact s5 _ hil
    rintro ⟨j, w⟩ H1 ⟨hj, rfl, hrow⟩
    by_cases hjl : j < fl.length
    · rcases h.fk with ⟨_, e⟩ | ⟨B2, rfl, f1⟩
      · rw [e] at hjl; simp at hjl
      have c0 := rfC_0 (l := fl) (i := j) hjl
      have c1 := rfC_1 (l := fl) (i := j) hjl
      have c2 := rfC_2 (l := fl) (i := j) hjl
      have hlr := rfC_len fl
      have hs := lastOf_s (d := d.toNat) (i := i.toNat) (s := A.sec d.toNat i.toNat) (l := A.fly) (j := j) (by omega)
      have hfw := h.fw (fl.getD j default) (by rw [show fl.getD j default = fl[j] by simp [List.getD, hjl]]; exact List.getElem_mem hjl)
      rw [h.fnth hjl] at hs
      generalize fl.getD j default = f at c0 c1 c2 hs hfw
      by_cases e1 : f.f.disk = d.toNat ∧ f.f.pos = i.toNat
      · rw [if_pos e1] at hs
        have e2 : (f.f.disk : Int) = d := by omega
        have e3 : (f.f.pos : Int) = i := by omega
        (try simp (maxSteps := 4000000) (disch := first | omega | (simp only [push_n, set_n, clr_n, also_n, List.length_replicate, List.length_set, List.length_map, List.length_append, List.length_take, List.length_drop, List.length_cons, List.length_nil]; first | done | omega) | (with_reducible decide)) only [go_sem, Int.reduceEq, Int.reduceNe, Int.reduceLT, Int.reduceLE, Nat.reduceEqDiff, Int.reduceToNat, Nat.reduceSub, Nat.reduceAdd, Nat.reduceMul, Nat.reduceLT, Nat.reduceLeDiff, Int.reduceNeg, Int.reduceAdd, Int.reduceSub, Int.reduceMul, UInt8.reduceToNat, hd, f1, c0, c1, c2, e2, e3]; repeat first | ((first | with_reducible refine split2_pk (by omega) ?_ | with_reducible refine split2_nk (by omega) ?_); intro hsq; try simp (maxSteps := 4000000) (disch := first | omega | (simp only [push_n, set_n, clr_n, also_n, List.length_replicate, List.length_set, List.length_map, List.length_append, List.length_take, List.length_drop, List.length_cons, List.length_nil]; first | done | omega) | (with_reducible decide)) only [go_sem, Int.reduceEq, Int.reduceNe, Int.reduceLT, Int.reduceLE, Nat.reduceEqDiff, Int.reduceToNat, Nat.reduceSub, Nat.reduceAdd, Nat.reduceMul, Nat.reduceLT, Nat.reduceLeDiff, Int.reduceNeg, Int.reduceAdd, Int.reduceSub, Int.reduceMul, UInt8.reduceToNat, hd, f1, c0, c1, c2, e2, e3, hsq]))
        (refine ⟨(j + 1, f.w), ?_⟩; and_intros; all_goals (try first | rfl | assumption | omega))
        simp only; rw [hs]; exact hfw
      · rw [if_neg e1] at hs
        by_cases e4 : (f.f.disk : Int) = d
        · have e3 : ¬ (f.f.pos : Int) = i := fun e => e1 ⟨by omega, by omega⟩
          (try simp (maxSteps := 4000000) (disch := first | omega | (simp only [push_n, set_n, clr_n, also_n, List.length_replicate, List.length_set, List.length_map, List.length_append, List.length_take, List.length_drop, List.length_cons, List.length_nil]; first | done | omega) | (with_reducible decide)) only [go_sem, Int.reduceEq, Int.reduceNe, Int.reduceLT, Int.reduceLE, Nat.reduceEqDiff, Int.reduceToNat, Nat.reduceSub, Nat.reduceAdd, Nat.reduceMul, Nat.reduceLT, Nat.reduceLeDiff, Int.reduceNeg, Int.reduceAdd, Int.reduceSub, Int.reduceMul, UInt8.reduceToNat, hd, f1, c0, c1, c2, e3, e4]; repeat first | ((first | with_reducible refine split2_pk (by omega) ?_ | with_reducible refine split2_nk (by omega) ?_); intro hsq; try simp (maxSteps := 4000000) (disch := first | omega | (simp only [push_n, set_n, clr_n, also_n, List.length_replicate, List.length_set, List.length_map, List.length_append, List.length_take, List.length_drop, List.length_cons, List.length_nil]; first | done | omega) | (with_reducible decide)) only [go_sem, Int.reduceEq, Int.reduceNe, Int.reduceLT, Int.reduceLE, Nat.reduceEqDiff, Int.reduceToNat, Nat.reduceSub, Nat.reduceAdd, Nat.reduceMul, Nat.reduceLT, Nat.reduceLeDiff, Int.reduceNeg, Int.reduceAdd, Int.reduceSub, Int.reduceMul, UInt8.reduceToNat, hd, f1, c0, c1, c2, e3, e4, hsq]))
          (refine ⟨(j + 1, w), ?_⟩; and_intros; all_goals (try first | rfl | assumption | omega))
          simp only; rw [hs]; exact hrow
        · (try simp (maxSteps := 4000000) (disch := first | omega | (simp only [push_n, set_n, clr_n, also_n, List.length_replicate, List.length_set, List.length_map, List.length_append, List.length_take, List.length_drop, List.length_cons, List.length_nil]; first | done | omega) | (with_reducible decide)) only [go_sem, Int.reduceEq, Int.reduceNe, Int.reduceLT, Int.reduceLE, Nat.reduceEqDiff, Int.reduceToNat, Nat.reduceSub, Nat.reduceAdd, Nat.reduceMul, Nat.reduceLT, Nat.reduceLeDiff, Int.reduceNeg, Int.reduceAdd, Int.reduceSub, Int.reduceMul, UInt8.reduceToNat, hd, f1, c0, c1, c2, e4]; repeat first | ((first | with_reducible refine split2_pk (by omega) ?_ | with_reducible refine split2_nk (by omega) ?_); intro hsq; try simp (maxSteps := 4000000) (disch := first | omega | (simp only [push_n, set_n, clr_n, also_n, List.length_replicate, List.length_set, List.length_map, List.length_append, List.length_take, List.length_drop, List.length_cons, List.length_nil]; first | done | omega) | (with_reducible decide)) only [go_sem, Int.reduceEq, Int.reduceNe, Int.reduceLT, Int.reduceLE, Nat.reduceEqDiff, Int.reduceToNat, Nat.reduceSub, Nat.reduceAdd, Nat.reduceMul, Nat.reduceLT, Nat.reduceLeDiff, Int.reduceNeg, Int.reduceAdd, Int.reduceSub, Int.reduceMul, UInt8.reduceToNat, hd, f1, c0, c1, c2, e4, hsq]))
          (refine ⟨(j + 1, w), ?_⟩; and_intros; all_goals (try first | rfl | assumption | omega))
          simp only; rw [hs]; exact hrow
    · obtain rfl : j = fl.length := by omega
      rw [← hflen, List.take_length] at hrow
      have hl64 := hrow.len
      (try simp (maxSteps := 4000000) (disch := first | omega | (simp only [push_n, set_n, clr_n, also_n, List.length_replicate, List.length_set, List.length_map, List.length_append, List.length_take, List.length_drop, List.length_cons, List.length_nil]; first | done | omega) | (with_reducible decide)) only [go_sem, Int.reduceEq, Int.reduceNe, Int.reduceLT, Int.reduceLE, Nat.reduceEqDiff, Int.reduceToNat, Nat.reduceSub, Nat.reduceAdd, Nat.reduceMul, Nat.reduceLT, Nat.reduceLeDiff, Int.reduceNeg, Int.reduceAdd, Int.reduceSub, Int.reduceMul, UInt8.reduceToNat, hd, lf]; repeat first | ((first | with_reducible refine split2_pk (by omega) ?_ | with_reducible refine split2_nk (by omega) ?_); intro hsq; try simp (maxSteps := 4000000) (disch := first | omega | (simp only [push_n, set_n, clr_n, also_n, List.length_replicate, List.length_set, List.length_map, List.length_append, List.length_take, List.length_drop, List.length_cons, List.length_nil]; first | done | omega) | (with_reducible decide)) only [go_sem, Int.reduceEq, Int.reduceNe, Int.reduceLT, Int.reduceLE, Nat.reduceEqDiff, Int.reduceToNat, Nat.reduceSub, Nat.reduceAdd, Nat.reduceMul, Nat.reduceLT, Nat.reduceLeDiff, Int.reduceNeg, Int.reduceAdd, Int.reduceSub, Int.reduceMul, UInt8.reduceToNat, hd, lf, hsq]))
      refine (own_spec _ hrow.b (by omega)).mono ?_
      rintro r H2 ⟨rfl, rfl⟩
      (try simp (maxSteps := 4000000) (disch := first | omega | (simp only [push_n, set_n, clr_n, also_n, List.length_replicate, List.length_set, List.length_map, List.length_append, List.length_take, List.length_drop, List.length_cons, List.length_nil]; first | done | omega) | (with_reducible decide)) only [go_sem, Int.reduceEq, Int.reduceNe, Int.reduceLT, Int.reduceLE, Nat.reduceEqDiff, Int.reduceToNat, Nat.reduceSub, Nat.reduceAdd, Nat.reduceMul, Nat.reduceLT, Nat.reduceLeDiff, Int.reduceNeg, Int.reduceAdd, Int.reduceSub, Int.reduceMul, UInt8.reduceToNat]; repeat first | ((first | with_reducible refine split2_pk (by omega) ?_ | with_reducible refine split2_nk (by omega) ?_); intro hsq; try simp (maxSteps := 4000000) (disch := first | omega | (simp only [push_n, set_n, clr_n, also_n, List.length_replicate, List.length_set, List.length_map, List.length_append, List.length_take, List.length_drop, List.length_cons, List.length_nil]; first | done | omega) | (with_reducible decide)) only [go_sem, Int.reduceEq, Int.reduceNe, Int.reduceLT, Int.reduceLE, Nat.reduceEqDiff, Int.reduceToNat, Nat.reduceSub, Nat.reduceAdd, Nat.reduceMul, Nat.reduceLT, Nat.reduceLeDiff, Int.reduceNeg, Int.reduceAdd, Int.reduceSub, Int.reduceMul, UInt8.reduceToNat, hsq]))
      have hb := bytes_whole (H := H1.push (some (.cells ((lastOf d.toNat i.toNat (A.sec d.toNat i.toNat) A.fly).map bv)))) (push_cells _ _) (c := .grow 1) (by rfl)
      rw [hl64] at hb ⊢
      exact .inr ⟨rfl, Grew.push _ _, hb⟩
  · refine aspec_fn (rs := [.tmp 6, .tmp 7]) (n := 70) Try.func29 rfl rfl rfl rfl (by kernel_rfl) (Nat.le_of_ble_eq_true rfl) ?_
    (try simp (maxSteps := 4000000) (disch := first | omega | (simp only [push_n, set_n, clr_n, also_n, List.length_replicate, List.length_set, List.length_map, List.length_append, List.length_take, List.length_drop, List.length_cons, List.length_nil]; first | done | omega) | (with_reducible decide)) only [go_sem, Int.reduceEq, Int.reduceNe, Int.reduceLT, Int.reduceLE, Nat.reduceEqDiff, Int.reduceToNat, Nat.reduceSub, Nat.reduceAdd, Nat.reduceMul, Nat.reduceLT, Nat.reduceLeDiff, Int.reduceNeg, Int.reduceAdd, Int.reduceSub, Int.reduceMul, UInt8.reduceToNat, hw]; repeat first | ((first | refine ASpec.eq (refWhy_spec h d i) ?_); try simp (maxSteps := 4000000) (disch := first | omega | (simp only [push_n, set_n, clr_n, also_n, List.length_replicate, List.length_set, List.length_map, List.length_append, List.length_take, List.length_drop, List.length_cons, List.length_nil]; first | done | omega) | (with_reducible decide)) only [go_sem, Int.reduceEq, Int.reduceNe, Int.reduceLT, Int.reduceLE, Nat.reduceEqDiff, Int.reduceToNat, Nat.reduceSub, Nat.reduceAdd, Nat.reduceMul, Nat.reduceLT, Nat.reduceLeDiff, Int.reduceNeg, Int.reduceAdd, Int.reduceSub, Int.reduceMul, UInt8.reduceToNat, hw]) | ((first | with_reducible refine split2_pk (by omega) ?_ | with_reducible refine split2_nk (by omega) ?_); intro hsq; try simp (maxSteps := 4000000) (disch := first | omega | (simp only [push_n, set_n, clr_n, also_n, List.length_replicate, List.length_set, List.length_map, List.length_append, List.length_take, List.length_drop, List.length_cons, List.length_nil]; first | done | omega) | (with_reducible decide)) only [go_sem, Int.reduceEq, Int.reduceNe, Int.reduceLT, Int.reduceLE, Nat.reduceEqDiff, Int.reduceToNat, Nat.reduceSub, Nat.reduceAdd, Nat.reduceMul, Nat.reduceLT, Nat.reduceLeDiff, Int.reduceNeg, Int.reduceAdd, Int.reduceSub, Int.reduceMul, UInt8.reduceToNat, hw, hsq]))
    exact .inl hw
end
end Go.Proofs.Ytickckpndpeppaa
