/- Arrays of disks: reads. -/
import Derived.Test.YtickckpndpeppaaAM2z
namespace Go.Proofs.Ytickckpndpeppaa
open Go Go.Abs Go.Abs.GF
set_option linter.unusedVariables false
set_option linter.unusedSimpArgs false
set_option maxHeartbeats 4000000
attribute [local irreducible] ASpec AWp WP AOps DOps

theorem fly_get {cs : List AV} {l : List Fl} (h1 : l.length * 66 ≤ cs.length) (h2 : cs.take (l.length * 66) = flC l) (hw : ∀ f ∈ l, f.data.length = 64) {j : Nat} (hj : j < l.length) : (cs.drop (j * 66)).take 66 = fl1 (l.getD j default) := by
  have e : ((cs.take (l.length * 66)).drop (j * 66)).take 66 = (cs.drop (j * 66)).take 66 := by
    rw [List.drop_take, List.take_take]; congr 1; omega
  rw [← e, h2, show l.getD j default = l[j] by simp [List.getD, hj]]
  exact flat_get (fun f hf => fl1_len (hw f hf)) hj
theorem lastOf_s {d i : Nat} {s : List UInt8} {l : List Fl} {j : Nat} (hj : j < l.length) : lastOf d i s (l.take (j + 1)) = if (l.getD j default).disk = d ∧ (l.getD j default).pos = i then (l.getD j default).data else lastOf d i s (l.take j) := by
  rw [List.take_add_one, List.getElem?_eq_getElem hj, show l.getD j default = l[j] by simp [List.getD, hj]]
  simp only [lastOf, List.foldl_append, Option.toList, List.foldl_cons, List.foldl_nil]
section
variable {H : AH} {P D : Nat} {fv : AV} {dvs : List AV} {A : Arr}
theorem why_ok {d i : Int} (hw : A.why d i = 0) : A.off = false ∧ A.inn d ∧ 0 ≤ i ∧ i < A.count ∧ A.on d = true := by
  unfold Arr.why at hw
  split at hw
  · cases hw
  · rename_i ho
    split at hw
    · rename_i hh
      split at hw
      · rename_i hon; exact ⟨by simpa using ho, hh.1, hh.2.1, hh.2.2, hon⟩
      · cases hw
    · cases hw
theorem on_some {d : Int} (h : A.on d = true) : A.inn d ∧ ∃ ss, A.disks.getD d.toNat none = some ss := by
  unfold Arr.on at h
  simp only [Bool.and_eq_true, decide_eq_true_eq] at h
  exact ⟨h.1, Option.isSome_iff_exists.1 h.2⟩
theorem wf_get (h : IsArr H P D fv dvs A) {j : Nat} (hj : j < A.fly.length) : (A.fly.getD j default).disk < A.disks.length ∧ (A.fly.getD j default).pos < A.count ∧ (A.fly.getD j default).data.length = 64 := by
  rw [show A.fly.getD j default = A.fly[j] by simp [List.getD, hj]]
  exact h.wf _ (List.getElem_mem hj)
set_option maxRecDepth 100000 in
theorem read_spec (h : IsArr H P D fv dvs A) (d i : Int) (hn : A.fly.length < 1000000) : ASpec Try.prog 11 [.ptr ⟨false, P, 0⟩, .int .i64 d, .int .i64 i] H fun r H' =>
    (A.why d i ≠ 0 ∧ r = .tup [.nilslice, .int .i64 (A.why d i : Nat)] ∧ H' = H) ∨ (A.why d i = 0 ∧ ∃ X, r = .tup [.slice ⟨false, X, 0⟩ 64 (.known 64), .int .i64 0] ∧ H.n ≤ X ∧ Grew H H' ∧ IsBytes H' (.slice ⟨false, X, 0⟩ 64 (.known 64)) (A.read d.toNat i.toNat) ∧ (A.read d.toNat i.toNat).length = 64) := by
  have hd := h.hd
  have ds := h.ds
  by_cases hw : A.why d i = 0
  · obtain ⟨w1, w2, w3, w4, w5⟩ := why_ok hw
    obtain ⟨⟨w6, w7⟩, ss, hss⟩ := on_some w5
    have hdl : d.toNat < A.disks.length := by omega
    obtain ⟨s1, s2, B, c, s3, s4, s5⟩ := h.disk hdl hss
    have hv := h.get? hdl
    rw [s3] at hv
    have hil : i.toNat < ss.length := by omega
    have sg := secC_get s2 hil
    have sl := secC_len s2
    have s64 := s2.at hil
    have hlen : (fv = .nilslice ∧ A.fly.length = 0) ∨ fv ≠ .nilslice := by
      rcases h.fl with ⟨e1, e2⟩ | ⟨B, cs, e, _⟩
      · exact .inl ⟨e1, by rw [e2]; rfl⟩
      · exact .inr (by rw [e]; simp)
    have lf := fly_lenA h Try.underlying62
    have hsec : A.sec d.toNat i.toNat = ss.getD i.toNat [] := by rw [Arr.sec, hss]; rfl
    have hPn := cells_lt hd
    have hDn := cells_lt ds
    have hBn := cells_lt s5
    refine aspec_fn (rs := [.tmp 6, .tmp 7]) (n := 52) Try.func11 rfl rfl rfl rfl (by kernel_rfl) (Nat.le_of_ble_eq_true rfl) ?_
    (try simp (maxSteps := 4000000) (disch := first | omega | (simp only [push_n, set_n, clr_n, also_n, List.length_replicate, List.length_set, List.length_map, List.length_append, List.length_take, List.length_drop, List.length_cons, List.length_nil]; first | done | omega) | (with_reducible decide)) only [go_sem, Int.reduceEq, Int.reduceNe, Int.reduceLT, Int.reduceLE, Nat.reduceEqDiff, Int.reduceToNat, Nat.reduceSub, Nat.reduceAdd, Nat.reduceMul, Nat.reduceLT, Nat.reduceLeDiff, Int.reduceNeg, Int.reduceAdd, Int.reduceSub, Int.reduceMul, UInt8.reduceToNat, hw, hd, ds, hv, s5, sg, lf, putL_all, all_one_bv]; repeat first | ((first | refine ASpec.eq (ready_spec h d i) ?_); try simp (maxSteps := 4000000) (disch := first | omega | (simp only [push_n, set_n, clr_n, also_n, List.length_replicate, List.length_set, List.length_map, List.length_append, List.length_take, List.length_drop, List.length_cons, List.length_nil]; first | done | omega) | (with_reducible decide)) only [go_sem, Int.reduceEq, Int.reduceNe, Int.reduceLT, Int.reduceLE, Nat.reduceEqDiff, Int.reduceToNat, Nat.reduceSub, Nat.reduceAdd, Nat.reduceMul, Nat.reduceLT, Nat.reduceLeDiff, Int.reduceNeg, Int.reduceAdd, Int.reduceSub, Int.reduceMul, UInt8.reduceToNat, hw, hd, ds, hv, s5, sg, lf, putL_all, all_one_bv]) | ((first | with_reducible refine split2_pk (by omega) ?_ | with_reducible refine split2_nk (by omega) ?_); intro hsq; try simp (maxSteps := 4000000) (disch := first | omega | (simp only [push_n, set_n, clr_n, also_n, List.length_replicate, List.length_set, List.length_map, List.length_append, List.length_take, List.length_drop, List.length_cons, List.length_nil]; first | done | omega) | (with_reducible decide)) only [go_sem, Int.reduceEq, Int.reduceNe, Int.reduceLT, Int.reduceLE, Nat.reduceEqDiff, Int.reduceToNat, Nat.reduceSub, Nat.reduceAdd, Nat.reduceMul, Nat.reduceLT, Nat.reduceLeDiff, Int.reduceNeg, Int.reduceAdd, Int.reduceSub, Int.reduceMul, UInt8.reduceToNat, hw, hd, ds, hv, s5, sg, lf, putL_all, all_one_bv, hsq]))
    refine wp_loopS (σ := Nat) (by kernel_rfl) (fun j => [(0, .ptr ⟨false, P, 0⟩), (1, .int .i64 d), (2, .int .i64 i), (9, .ptr ⟨false, H.n, 0⟩), (32, fv), (33, .int .i64 (A.fly.length : Nat)), (34, .int .i64 (j : Nat))]) (fun j H' => j ≤ A.fly.length ∧ Grew H H' ∧ H'.cells? H.n = some ((lastOf d.toNat i.toNat (A.sec d.toNat i.toNat) (A.fly.take j)).map bv) ∧ (lastOf d.toNat i.toNat (A.sec d.toNat i.toNat) (A.fly.take j)).length = 64) (fun j => A.fly.length - j) (0) (by simp (maxSteps := 4000000) (disch := first | omega | (simp only [push_n, set_n, clr_n, also_n, List.length_replicate, List.length_set, List.length_map, List.length_append, List.length_take, List.length_drop, List.length_cons, List.length_nil]; first | done | omega) | (with_reducible decide)) only [go_sem, Int.reduceEq, Int.reduceNe, Int.reduceLT, Int.reduceLE, Nat.reduceEqDiff, Int.reduceToNat, Nat.reduceSub, Nat.reduceAdd, Nat.reduceMul, Nat.reduceLT, Nat.reduceLeDiff, Int.reduceNeg, Int.reduceAdd, Int.reduceSub, Int.reduceMul, UInt8.reduceToNat]) ?_ ?_
    · refine ⟨by omega, Grew.push _ _, ?_, ?_⟩
      · rw [push_cells, List.take_zero, hsec]; rfl
      · rw [List.take_zero, hsec]; exact s64
    rintro j H1 ⟨hj, g1, c1, l1⟩
    by_cases hjl : j < A.fly.length
    · rcases h.fl with ⟨_, e⟩ | ⟨B2, cs, rfl, f1, f2, f3⟩
      · rw [e] at hjl; simp at hjl
      obtain ⟨q1, q2, q3⟩ := wf_get h hjl
      have hg := fly_get f2 f3 (fun f hf => (h.wf f hf).2.2) hjl
      have hs := lastOf_s (d := d.toNat) (i := i.toNat) (s := A.sec d.toNat i.toNat) hjl
      generalize A.fly.getD j default = f at hg hs q1 q2 q3
      have hg' : (cs.drop (j * 66)).take 66 = .int .i64 f.disk :: .int .i64 f.pos :: f.data.map bv := hg
      have hcB := g1.cells_some f1
      have g0 := g1.n
      have p1 : H.n < H1.n := cells_lt c1
      have qm : (f.data.map bv).length = 64 := by rw [List.length_map]; exact q3
      have lm : ((lastOf d.toNat i.toNat (A.sec d.toNat i.toNat) (A.fly.take j)).map bv).length = 64 := by rw [List.length_map]; exact l1
      by_cases e1 : f.disk = d.toNat ∧ f.pos = i.toNat
      · rw [if_pos e1] at hs
        have e2 : (f.disk : Int) = d := by omega
        have e3 : (f.pos : Int) = i := by omega
        (try simp (maxSteps := 4000000) (disch := first | omega | (simp only [push_n, set_n, clr_n, also_n, List.length_replicate, List.length_set, List.length_map, List.length_append, List.length_take, List.length_drop, List.length_cons, List.length_nil]; first | done | omega) | (with_reducible decide)) only [go_sem, Int.reduceEq, Int.reduceNe, Int.reduceLT, Int.reduceLE, Nat.reduceEqDiff, Int.reduceToNat, Nat.reduceSub, Nat.reduceAdd, Nat.reduceMul, Nat.reduceLT, Nat.reduceLeDiff, Int.reduceNeg, Int.reduceAdd, Int.reduceSub, Int.reduceMul, UInt8.reduceToNat, hcB, hg', e2, e3, c1, putL_all, putAt_all, all_one_bv]; repeat first | ((first | with_reducible refine split2_pk (by omega) ?_ | with_reducible refine split2_nk (by omega) ?_); intro hsq; try simp (maxSteps := 4000000) (disch := first | omega | (simp only [push_n, set_n, clr_n, also_n, List.length_replicate, List.length_set, List.length_map, List.length_append, List.length_take, List.length_drop, List.length_cons, List.length_nil]; first | done | omega) | (with_reducible decide)) only [go_sem, Int.reduceEq, Int.reduceNe, Int.reduceLT, Int.reduceLE, Nat.reduceEqDiff, Int.reduceToNat, Nat.reduceSub, Nat.reduceAdd, Nat.reduceMul, Nat.reduceLT, Nat.reduceLeDiff, Int.reduceNeg, Int.reduceAdd, Int.reduceSub, Int.reduceMul, UInt8.reduceToNat, hcB, hg', e2, e3, c1, putL_all, putAt_all, all_one_bv, hsq]))
        (refine ⟨j + 1, ?_⟩; and_intros; all_goals (try first | rfl | assumption | omega))
        · exact (g1.set (Nat.le_refl _) _).trans (Grew.push _ _)
        · rw [hs]
        · rw [hs]; exact q3
      · rw [if_neg e1] at hs
        have e2 : ¬ ((f.disk : Int) = d ∧ (f.pos : Int) = i) := by omega
        by_cases e4 : (f.disk : Int) = d
        · have e3 : ¬ (f.pos : Int) = i := fun e => e2 ⟨e4, e⟩
          (try simp (maxSteps := 4000000) (disch := first | omega | (simp only [push_n, set_n, clr_n, also_n, List.length_replicate, List.length_set, List.length_map, List.length_append, List.length_take, List.length_drop, List.length_cons, List.length_nil]; first | done | omega) | (with_reducible decide)) only [go_sem, Int.reduceEq, Int.reduceNe, Int.reduceLT, Int.reduceLE, Nat.reduceEqDiff, Int.reduceToNat, Nat.reduceSub, Nat.reduceAdd, Nat.reduceMul, Nat.reduceLT, Nat.reduceLeDiff, Int.reduceNeg, Int.reduceAdd, Int.reduceSub, Int.reduceMul, UInt8.reduceToNat, hcB, hg', e3, e4, c1, putL_all, putAt_all, all_one_bv]; repeat first | ((first | with_reducible refine split2_pk (by omega) ?_ | with_reducible refine split2_nk (by omega) ?_); intro hsq; try simp (maxSteps := 4000000) (disch := first | omega | (simp only [push_n, set_n, clr_n, also_n, List.length_replicate, List.length_set, List.length_map, List.length_append, List.length_take, List.length_drop, List.length_cons, List.length_nil]; first | done | omega) | (with_reducible decide)) only [go_sem, Int.reduceEq, Int.reduceNe, Int.reduceLT, Int.reduceLE, Nat.reduceEqDiff, Int.reduceToNat, Nat.reduceSub, Nat.reduceAdd, Nat.reduceMul, Nat.reduceLT, Nat.reduceLeDiff, Int.reduceNeg, Int.reduceAdd, Int.reduceSub, Int.reduceMul, UInt8.reduceToNat, hcB, hg', e3, e4, c1, putL_all, putAt_all, all_one_bv, hsq]))
          (refine ⟨j + 1, ?_⟩; and_intros; all_goals (try first | rfl | assumption | omega))
          · exact g1.trans (Grew.push _ _)
          · rw [hs]
          · rw [hs]; exact l1
        · (try simp (maxSteps := 4000000) (disch := first | omega | (simp only [push_n, set_n, clr_n, also_n, List.length_replicate, List.length_set, List.length_map, List.length_append, List.length_take, List.length_drop, List.length_cons, List.length_nil]; first | done | omega) | (with_reducible decide)) only [go_sem, Int.reduceEq, Int.reduceNe, Int.reduceLT, Int.reduceLE, Nat.reduceEqDiff, Int.reduceToNat, Nat.reduceSub, Nat.reduceAdd, Nat.reduceMul, Nat.reduceLT, Nat.reduceLeDiff, Int.reduceNeg, Int.reduceAdd, Int.reduceSub, Int.reduceMul, UInt8.reduceToNat, hcB, hg', e4, c1, putL_all, putAt_all, all_one_bv]; repeat first | ((first | with_reducible refine split2_pk (by omega) ?_ | with_reducible refine split2_nk (by omega) ?_); intro hsq; try simp (maxSteps := 4000000) (disch := first | omega | (simp only [push_n, set_n, clr_n, also_n, List.length_replicate, List.length_set, List.length_map, List.length_append, List.length_take, List.length_drop, List.length_cons, List.length_nil]; first | done | omega) | (with_reducible decide)) only [go_sem, Int.reduceEq, Int.reduceNe, Int.reduceLT, Int.reduceLE, Nat.reduceEqDiff, Int.reduceToNat, Nat.reduceSub, Nat.reduceAdd, Nat.reduceMul, Nat.reduceLT, Nat.reduceLeDiff, Int.reduceNeg, Int.reduceAdd, Int.reduceSub, Int.reduceMul, UInt8.reduceToNat, hcB, hg', e4, c1, putL_all, putAt_all, all_one_bv, hsq]))
          (refine ⟨j + 1, ?_⟩; and_intros; all_goals (try first | rfl | assumption | omega))
          · exact g1.trans (Grew.push _ _)
          · rw [hs]
          · rw [hs]; exact l1
    · obtain rfl : j = A.fly.length := by omega
      rw [List.take_length] at c1 l1
      (try simp (maxSteps := 4000000) (disch := first | omega | (simp only [push_n, set_n, clr_n, also_n, List.length_replicate, List.length_set, List.length_map, List.length_append, List.length_take, List.length_drop, List.length_cons, List.length_nil]; first | done | omega) | (with_reducible decide)) only [go_sem, Int.reduceEq, Int.reduceNe, Int.reduceLT, Int.reduceLE, Nat.reduceEqDiff, Int.reduceToNat, Nat.reduceSub, Nat.reduceAdd, Nat.reduceMul, Nat.reduceLT, Nat.reduceLeDiff, Int.reduceNeg, Int.reduceAdd, Int.reduceSub, Int.reduceMul, UInt8.reduceToNat, c1]; repeat first | ((first | with_reducible refine split2_pk (by omega) ?_ | with_reducible refine split2_nk (by omega) ?_); intro hsq; try simp (maxSteps := 4000000) (disch := first | omega | (simp only [push_n, set_n, clr_n, also_n, List.length_replicate, List.length_set, List.length_map, List.length_append, List.length_take, List.length_drop, List.length_cons, List.length_nil]; first | done | omega) | (with_reducible decide)) only [go_sem, Int.reduceEq, Int.reduceNe, Int.reduceLT, Int.reduceLE, Nat.reduceEqDiff, Int.reduceToNat, Nat.reduceSub, Nat.reduceAdd, Nat.reduceMul, Nat.reduceLT, Nat.reduceLeDiff, Int.reduceNeg, Int.reduceAdd, Int.reduceSub, Int.reduceMul, UInt8.reduceToNat, c1, hsq]))
      refine .inr ⟨H.n, rfl, Nat.le_refl _, g1, ?_, l1⟩
      have := bytes_whole (c := .known 64) c1 (by rw [l1]; rfl)
      rwa [l1] at this
  · refine aspec_fn (rs := [.tmp 6, .tmp 7]) (n := 52) Try.func11 rfl rfl rfl rfl (by kernel_rfl) (Nat.le_of_ble_eq_true rfl) ?_
    (try simp (maxSteps := 4000000) (disch := first | omega | (simp only [push_n, set_n, clr_n, also_n, List.length_replicate, List.length_set, List.length_map, List.length_append, List.length_take, List.length_drop, List.length_cons, List.length_nil]; first | done | omega) | (with_reducible decide)) only [go_sem, Int.reduceEq, Int.reduceNe, Int.reduceLT, Int.reduceLE, Nat.reduceEqDiff, Int.reduceToNat, Nat.reduceSub, Nat.reduceAdd, Nat.reduceMul, Nat.reduceLT, Nat.reduceLeDiff, Int.reduceNeg, Int.reduceAdd, Int.reduceSub, Int.reduceMul, UInt8.reduceToNat, hw]; repeat first | ((first | refine ASpec.eq (ready_spec h d i) ?_); try simp (maxSteps := 4000000) (disch := first | omega | (simp only [push_n, set_n, clr_n, also_n, List.length_replicate, List.length_set, List.length_map, List.length_append, List.length_take, List.length_drop, List.length_cons, List.length_nil]; first | done | omega) | (with_reducible decide)) only [go_sem, Int.reduceEq, Int.reduceNe, Int.reduceLT, Int.reduceLE, Nat.reduceEqDiff, Int.reduceToNat, Nat.reduceSub, Nat.reduceAdd, Nat.reduceMul, Nat.reduceLT, Nat.reduceLeDiff, Int.reduceNeg, Int.reduceAdd, Int.reduceSub, Int.reduceMul, UInt8.reduceToNat, hw]) | ((first | with_reducible refine split2_pk (by omega) ?_ | with_reducible refine split2_nk (by omega) ?_); intro hsq; try simp (maxSteps := 4000000) (disch := first | omega | (simp only [push_n, set_n, clr_n, also_n, List.length_replicate, List.length_set, List.length_map, List.length_append, List.length_take, List.length_drop, List.length_cons, List.length_nil]; first | done | omega) | (with_reducible decide)) only [go_sem, Int.reduceEq, Int.reduceNe, Int.reduceLT, Int.reduceLE, Nat.reduceEqDiff, Int.reduceToNat, Nat.reduceSub, Nat.reduceAdd, Nat.reduceMul, Nat.reduceLT, Nat.reduceLeDiff, Int.reduceNeg, Int.reduceAdd, Int.reduceSub, Int.reduceMul, UInt8.reduceToNat, hw, hsq]))
    exact .inl hw
end
end Go.Proofs.Ytickckpndpeppaa
