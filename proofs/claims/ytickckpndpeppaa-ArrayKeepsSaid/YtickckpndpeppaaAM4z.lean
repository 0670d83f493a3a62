/- Arrays of disks: what lasts; barriers and crashes. -/
import Derived.Test.YtickckpndpeppaaAM3z
import Derived.Test.YtickckpndpeppaaAPz
namespace Go.Proofs.Ytickckpndpeppaa
open Go Go.Abs Go.Abs.GF
set_option linter.unusedVariables false
set_option linter.unusedSimpArgs false
set_option maxHeartbeats 4000000
attribute [local irreducible] ASpec AWp WP AOps DOps

section
variable {H : AH} {P D : Nat} {fv : AV} {dvs : List AV} {A : Arr}
theorem land_spec (h : IsArr H P D fv dvs A) (f : Fl) (hp : f.pos < A.count) (hl : f.data.length = 64) : ASpec Try.prog 43 [.ptr ⟨false, P, 0⟩, .agg (fl1 f)] H fun r H' => IsArr H' P D fv dvs (A.land f) ∧ Chg (ownB P D fv dvs) H H' := by
  have e2 := fl1_one f
  have e3 := fl1_len hl
  have e4 : fl1 f = .int .i64 f.disk :: .int .i64 f.pos :: f.data.map bv := rfl
  have hg := fun {X : Option ABlk} => h.grew (Grew.push H X)
  cases hon : A.on f.disk with
  | false =>
    refine aspec_fn (rs := []) (n := 21) Try.func43 rfl rfl rfl rfl (by kernel_rfl) (Nat.le_of_ble_eq_true rfl) ?_
    (try simp (maxSteps := 4000000) (disch := first | omega | (simp only [push_n, set_n, clr_n, also_n, List.length_replicate, List.length_set, List.length_map, List.length_append, List.length_take, List.length_drop, List.length_cons, List.length_nil]; first | done | omega) | (with_reducible decide)) only [go_sem, Int.reduceEq, Int.reduceNe, Int.reduceLT, Int.reduceLE, Nat.reduceEqDiff, Int.reduceToNat, Nat.reduceSub, Nat.reduceAdd, Nat.reduceMul, Nat.reduceLT, Nat.reduceLeDiff, Int.reduceNeg, Int.reduceAdd, Int.reduceSub, Int.reduceMul, UInt8.reduceToNat, e4, hon]; repeat first | ((first | refine ASpec.eq (on_spec hg f.disk) ?_); try simp (maxSteps := 4000000) (disch := first | omega | (simp only [push_n, set_n, clr_n, also_n, List.length_replicate, List.length_set, List.length_map, List.length_append, List.length_take, List.length_drop, List.length_cons, List.length_nil]; first | done | omega) | (with_reducible decide)) only [go_sem, Int.reduceEq, Int.reduceNe, Int.reduceLT, Int.reduceLE, Nat.reduceEqDiff, Int.reduceToNat, Nat.reduceSub, Nat.reduceAdd, Nat.reduceMul, Nat.reduceLT, Nat.reduceLeDiff, Int.reduceNeg, Int.reduceAdd, Int.reduceSub, Int.reduceMul, UInt8.reduceToNat, e4, hon]) | ((first | with_reducible refine split2_pk (by omega) ?_ | with_reducible refine split2_nk (by omega) ?_); intro hsq; try simp (maxSteps := 4000000) (disch := first | omega | (simp only [push_n, set_n, clr_n, also_n, List.length_replicate, List.length_set, List.length_map, List.length_append, List.length_take, List.length_drop, List.length_cons, List.length_nil]; first | done | omega) | (with_reducible decide)) only [go_sem, Int.reduceEq, Int.reduceNe, Int.reduceLT, Int.reduceLE, Nat.reduceEqDiff, Int.reduceToNat, Nat.reduceSub, Nat.reduceAdd, Nat.reduceMul, Nat.reduceLT, Nat.reduceLeDiff, Int.reduceNeg, Int.reduceAdd, Int.reduceSub, Int.reduceMul, UInt8.reduceToNat, e4, hon, hsq]))
    rw [show A.land f = A by simp [Arr.land, hon]]
    exact ⟨hg, (Grew.push _ _).chg _⟩
  | true =>
    obtain ⟨h1, h2⟩ := Arr.on_nat.1 hon
    obtain ⟨ss, hss⟩ := Option.isSome_iff_exists.1 h2
    obtain ⟨s1, s2, B, c, s3, s4, s5⟩ := h.disk h1 hss
    have hv := h.get? h1
    rw [s3] at hv
    have hd := h.hd
    have ds := h.ds
    have hPn := cells_lt hd
    have hDn := cells_lt ds
    have hBn := cells_lt s5
    have sl := secC_len s2
    have sset := secC_set s2 (i := f.pos) (s := f.data) (by omega) hl
    have e5 := all_one_bv f.data
    have hmul : f.pos * 64 + 64 ≤ A.count * 64 := by omega
    refine aspec_fn (rs := []) (n := 21) Try.func43 rfl rfl rfl rfl (by kernel_rfl) (Nat.le_of_ble_eq_true rfl) ?_
    (try simp (maxSteps := 4000000) (disch := first | omega | (simp only [push_n, set_n, clr_n, also_n, List.length_replicate, List.length_set, List.length_map, List.length_append, List.length_take, List.length_drop, List.length_cons, List.length_nil]; first | done | omega) | (with_reducible decide)) only [go_sem, Int.reduceEq, Int.reduceNe, Int.reduceLT, Int.reduceLE, Nat.reduceEqDiff, Int.reduceToNat, Nat.reduceSub, Nat.reduceAdd, Nat.reduceMul, Nat.reduceLT, Nat.reduceLeDiff, Int.reduceNeg, Int.reduceAdd, Int.reduceSub, Int.reduceMul, UInt8.reduceToNat, e4, hon]; repeat first | ((first | refine ASpec.eq (on_spec hg f.disk) ?_); try simp (maxSteps := 4000000) (disch := first | omega | (simp only [push_n, set_n, clr_n, also_n, List.length_replicate, List.length_set, List.length_map, List.length_append, List.length_take, List.length_drop, List.length_cons, List.length_nil]; first | done | omega) | (with_reducible decide)) only [go_sem, Int.reduceEq, Int.reduceNe, Int.reduceLT, Int.reduceLE, Nat.reduceEqDiff, Int.reduceToNat, Nat.reduceSub, Nat.reduceAdd, Nat.reduceMul, Nat.reduceLT, Nat.reduceLeDiff, Int.reduceNeg, Int.reduceAdd, Int.reduceSub, Int.reduceMul, UInt8.reduceToNat, e4, hon]) | ((first | with_reducible refine split2_pk (by omega) ?_ | with_reducible refine split2_nk (by omega) ?_); intro hsq; try simp (maxSteps := 4000000) (disch := first | omega | (simp only [push_n, set_n, clr_n, also_n, List.length_replicate, List.length_set, List.length_map, List.length_append, List.length_take, List.length_drop, List.length_cons, List.length_nil]; first | done | omega) | (with_reducible decide)) only [go_sem, Int.reduceEq, Int.reduceNe, Int.reduceLT, Int.reduceLE, Nat.reduceEqDiff, Int.reduceToNat, Nat.reduceSub, Nat.reduceAdd, Nat.reduceMul, Nat.reduceLT, Nat.reduceLeDiff, Int.reduceNeg, Int.reduceAdd, Int.reduceSub, Int.reduceMul, UInt8.reduceToNat, e4, hon, hsq]))
    (refine awp_drawP (hl := []) [eqM (H.push (some (.cells (fl1 f)))),  fun _ => True] [(0, some 0), (1, some 0), (2, some 0), (3, some 0), (4, some 0), (5, some 0), (6, some 0), (7, some 0), (8, some 0), (9, some 0), (10, some 0), (11, some 0), (12, some 0), (13, none)] [13] (by kernel_rfl) (by rfl) (by decide +kernel) (rofP_0 ?_) ?_; rotate_left; (conv => arg 5; simp only [List.map_cons, List.map_nil, List.getElem?_toArray, List.getElem?_cons_zero, List.getElem?_cons_succ]); rotate_left)
    · rfl
    (try simp (maxSteps := 4000000) (disch := first | omega | (simp only [push_n, set_n, clr_n, also_n, List.length_replicate, List.length_set, List.length_map, List.length_append, List.length_take, List.length_drop, List.length_cons, List.length_nil]; first | done | omega) | (with_reducible decide)) only [go_sem, Int.reduceEq, Int.reduceNe, Int.reduceLT, Int.reduceLE, Nat.reduceEqDiff, Int.reduceToNat, Nat.reduceSub, Nat.reduceAdd, Nat.reduceMul, Nat.reduceLT, Nat.reduceLeDiff, Int.reduceNeg, Int.reduceAdd, Int.reduceSub, Int.reduceMul, UInt8.reduceToNat, e4, hd, ds, hv, s5, e5, sset]; repeat first | ((first | with_reducible refine split2_pk (by omega) ?_ | with_reducible refine split2_nk (by omega) ?_); intro hsq; try simp (maxSteps := 4000000) (disch := first | omega | (simp only [push_n, set_n, clr_n, also_n, List.length_replicate, List.length_set, List.length_map, List.length_append, List.length_take, List.length_drop, List.length_cons, List.length_nil]; first | done | omega) | (with_reducible decide)) only [go_sem, Int.reduceEq, Int.reduceNe, Int.reduceLT, Int.reduceLE, Nat.reduceEqDiff, Int.reduceToNat, Nat.reduceSub, Nat.reduceAdd, Nat.reduceMul, Nat.reduceLT, Nat.reduceLeDiff, Int.reduceNeg, Int.reduceAdd, Int.reduceSub, Int.reduceMul, UInt8.reduceToNat, e4, hd, ds, hv, s5, e5, sset, hsq]))
    have key := h.lay (i := f.pos) h1 hss hl s3
    rw [show A.land f = { A with disks := A.disks.set f.disk (some (ss.set f.pos f.data)) } by simp only [Arr.land, hon, if_true, hss, Option.map_some]]
    exact ⟨key.grew (Grew.push _ _), (Chg.set H B _ (own_E (by rw [h.len]; exact h1) (by rw [s3]; simp [blkOf]))).trans ((Grew.push _ _).chg _)⟩
/-- What is in flight is gone. -/
theorem IsArr.none (h : IsArr H P D fv dvs A) {fuse : Nat} (hf : fuse < 9223372036854775808) (off : Bool) :
    IsArr (H.set P (some (.cells [.int .i64 A.count, .slice ⟨false, D, 0⟩ A.disks.length (.grow 1), .nilslice, .int .i64 fuse, .bool off]))) P D .nilslice dvs { A with fly := [], fuse := fuse, off := off } :=
  h.flies (Chg.refl _ _) (.inl ⟨rfl, rfl⟩) (by simp) (by simp [blkOf]) hf off
theorem own_nil {P D : Nat} {fv : AV} {dvs : List AV} : ∀ i ∈ ownB P D .nilslice dvs, i ∈ ownB P D fv dvs := fun i hi => by
  rcases own_of hi with rfl | rfl | hi | ⟨d, hd, hi⟩
  · exact own_P
  · exact own_D
  · simp [blkOf] at hi
  · exact own_E hd hi
set_option maxRecDepth 100000 in
theorem barrier_spec (h : IsArr H P D fv dvs A) (hn : A.fly.length < 1000000) : ASpec Try.prog 24 [.ptr ⟨false, P, 0⟩] H fun r H' => r = .int .i64 (A.barrier.1 : Nat) ∧ ∃ fv', IsArr H' P D fv' dvs A.barrier.2 ∧ Went H (ownB P D fv dvs) H' (ownB P D fv' dvs) := by
  have hd := h.hd
  have hc := h.cnt
  cases hoff : A.off with
  | true =>
    rw [hoff] at hd
    rw [show A.barrier = (8, A) by simp [Arr.barrier, hoff]]
    refine aspec_fn (rs := [.tmp 2]) (n := 40) Try.func24 rfl rfl rfl rfl (by kernel_rfl) (Nat.le_of_ble_eq_true rfl) ?_
    (try simp (maxSteps := 4000000) (disch := first | omega | (simp only [push_n, set_n, clr_n, also_n, List.length_replicate, List.length_set, List.length_map, List.length_append, List.length_take, List.length_drop, List.length_cons, List.length_nil]; first | done | omega) | (with_reducible decide)) only [go_sem, Int.reduceEq, Int.reduceNe, Int.reduceLT, Int.reduceLE, Nat.reduceEqDiff, Int.reduceToNat, Nat.reduceSub, Nat.reduceAdd, Nat.reduceMul, Nat.reduceLT, Nat.reduceLeDiff, Int.reduceNeg, Int.reduceAdd, Int.reduceSub, Int.reduceMul, UInt8.reduceToNat, hd]; repeat first | ((first | with_reducible refine split2_pk (by omega) ?_ | with_reducible refine split2_nk (by omega) ?_); intro hsq; try simp (maxSteps := 4000000) (disch := first | omega | (simp only [push_n, set_n, clr_n, also_n, List.length_replicate, List.length_set, List.length_map, List.length_append, List.length_take, List.length_drop, List.length_cons, List.length_nil]; first | done | omega) | (with_reducible decide)) only [go_sem, Int.reduceEq, Int.reduceNe, Int.reduceLT, Int.reduceLE, Nat.reduceEqDiff, Int.reduceToNat, Nat.reduceSub, Nat.reduceAdd, Nat.reduceMul, Nat.reduceLT, Nat.reduceLeDiff, Int.reduceNeg, Int.reduceAdd, Int.reduceSub, Int.reduceMul, UInt8.reduceToNat, hd, hsq]))
    exact ⟨fv, h, Went.refl _ _⟩
  | false =>
    rw [hoff] at hd
    refine aspec_fn (rs := [.tmp 2]) (n := 40) Try.func24 rfl rfl rfl rfl (by kernel_rfl) (Nat.le_of_ble_eq_true rfl) ?_
    (try simp (maxSteps := 4000000) (disch := first | omega | (simp only [push_n, set_n, clr_n, also_n, List.length_replicate, List.length_set, List.length_map, List.length_append, List.length_take, List.length_drop, List.length_cons, List.length_nil]; first | done | omega) | (with_reducible decide)) only [go_sem, Int.reduceEq, Int.reduceNe, Int.reduceLT, Int.reduceLE, Nat.reduceEqDiff, Int.reduceToNat, Nat.reduceSub, Nat.reduceAdd, Nat.reduceMul, Nat.reduceLT, Nat.reduceLeDiff, Int.reduceNeg, Int.reduceAdd, Int.reduceSub, Int.reduceMul, UInt8.reduceToNat, hd]; repeat first | ((first | with_reducible refine split2_pk (by omega) ?_ | with_reducible refine split2_nk (by omega) ?_); intro hsq; try simp (maxSteps := 4000000) (disch := first | omega | (simp only [push_n, set_n, clr_n, also_n, List.length_replicate, List.length_set, List.length_map, List.length_append, List.length_take, List.length_drop, List.length_cons, List.length_nil]; first | done | omega) | (with_reducible decide)) only [go_sem, Int.reduceEq, Int.reduceNe, Int.reduceLT, Int.reduceLE, Nat.reduceEqDiff, Int.reduceToNat, Nat.reduceSub, Nat.reduceAdd, Nat.reduceMul, Nat.reduceLT, Nat.reduceLeDiff, Int.reduceNeg, Int.reduceAdd, Int.reduceSub, Int.reduceMul, UInt8.reduceToNat, hd, hsq]))
    refine (burns_spec h).mono ?_
    rintro r H1 ⟨rfl, h1, c1⟩
    have hd1 := h1.hd
    have w1 : Chg (ownB P D fv dvs) H H1 := c1.mono (by simp [ownB])
    cases hbt : A.burnt with
    | true =>
      (try simp (maxSteps := 4000000) (disch := first | omega | (simp only [push_n, set_n, clr_n, also_n, List.length_replicate, List.length_set, List.length_map, List.length_append, List.length_take, List.length_drop, List.length_cons, List.length_nil]; first | done | omega) | (with_reducible decide)) only [go_sem, Int.reduceEq, Int.reduceNe, Int.reduceLT, Int.reduceLE, Nat.reduceEqDiff, Int.reduceToNat, Nat.reduceSub, Nat.reduceAdd, Nat.reduceMul, Nat.reduceLT, Nat.reduceLeDiff, Int.reduceNeg, Int.reduceAdd, Int.reduceSub, Int.reduceMul, UInt8.reduceToNat]; repeat first | ((first | with_reducible refine split2_pk (by omega) ?_ | with_reducible refine split2_nk (by omega) ?_); intro hsq; try simp (maxSteps := 4000000) (disch := first | omega | (simp only [push_n, set_n, clr_n, also_n, List.length_replicate, List.length_set, List.length_map, List.length_append, List.length_take, List.length_drop, List.length_cons, List.length_nil]; first | done | omega) | (with_reducible decide)) only [go_sem, Int.reduceEq, Int.reduceNe, Int.reduceLT, Int.reduceLE, Nat.reduceEqDiff, Int.reduceToNat, Nat.reduceSub, Nat.reduceAdd, Nat.reduceMul, Nat.reduceLT, Nat.reduceLeDiff, Int.reduceNeg, Int.reduceAdd, Int.reduceSub, Int.reduceMul, UInt8.reduceToNat, hsq]))
      rw [show A.barrier = (8, A.burn) by simp [Arr.barrier, hoff, hbt]]
      exact ⟨rfl, fv, h1, w1, fun i hi => .inl hi⟩
    | false =>
      have lf := fly_lenA h1 Try.underlying62
      have hn1 : A.burn.fly.length < 1000000 := by rw [Arr.burn_fly]; exact hn
      (try simp (maxSteps := 4000000) (disch := first | omega | (simp only [push_n, set_n, clr_n, also_n, List.length_replicate, List.length_set, List.length_map, List.length_append, List.length_take, List.length_drop, List.length_cons, List.length_nil]; first | done | omega) | (with_reducible decide)) only [go_sem, Int.reduceEq, Int.reduceNe, Int.reduceLT, Int.reduceLE, Nat.reduceEqDiff, Int.reduceToNat, Nat.reduceSub, Nat.reduceAdd, Nat.reduceMul, Nat.reduceLT, Nat.reduceLeDiff, Int.reduceNeg, Int.reduceAdd, Int.reduceSub, Int.reduceMul, UInt8.reduceToNat, hd1, lf]; repeat first | ((first | with_reducible refine split2_pk (by omega) ?_ | with_reducible refine split2_nk (by omega) ?_); intro hsq; try simp (maxSteps := 4000000) (disch := first | omega | (simp only [push_n, set_n, clr_n, also_n, List.length_replicate, List.length_set, List.length_map, List.length_append, List.length_take, List.length_drop, List.length_cons, List.length_nil]; first | done | omega) | (with_reducible decide)) only [go_sem, Int.reduceEq, Int.reduceNe, Int.reduceLT, Int.reduceLE, Nat.reduceEqDiff, Int.reduceToNat, Nat.reduceSub, Nat.reduceAdd, Nat.reduceMul, Nat.reduceLT, Nat.reduceLeDiff, Int.reduceNeg, Int.reduceAdd, Int.reduceSub, Int.reduceMul, UInt8.reduceToNat, hd1, lf, hsq]))
      refine wp_loopS (σ := Nat) (by kernel_rfl) (fun j => [(0, .ptr ⟨false, P, 0⟩), (27, fv), (28, .int .i64 (A.burn.fly.length : Nat)), (29, .int .i64 (j : Nat))]) (fun j H' => j ≤ A.burn.fly.length ∧ IsArr H' P D fv dvs (landed A.burn (fun _ => true) j) ∧ Chg (ownB P D fv dvs) H1 H') (fun j => A.burn.fly.length - j) (0) (by simp (maxSteps := 4000000) (disch := first | omega | (simp only [push_n, set_n, clr_n, also_n, List.length_replicate, List.length_set, List.length_map, List.length_append, List.length_take, List.length_drop, List.length_cons, List.length_nil]; first | done | omega) | (with_reducible decide)) only [go_sem, Int.reduceEq, Int.reduceNe, Int.reduceLT, Int.reduceLE, Nat.reduceEqDiff, Int.reduceToNat, Nat.reduceSub, Nat.reduceAdd, Nat.reduceMul, Nat.reduceLT, Nat.reduceLeDiff, Int.reduceNeg, Int.reduceAdd, Int.reduceSub, Int.reduceMul, UInt8.reduceToNat]) ?_ ?_
      · exact ⟨by omega, h1, Chg.refl _ _⟩
      · rintro j H2 ⟨hj, h2, c2⟩
        by_cases hjl : j < A.burn.fly.length
        · have hfl : (landed A.burn (fun _ => true) j).fly = A.burn.fly := landed_fly _ _ _
          have hcs := landed_count A.burn (fun _ => true) j
          rcases h2.fl with ⟨_, e⟩ | ⟨B2, cs, rfl, f1, f2, f3⟩
          · rw [hfl] at e; rw [e] at hjl; simp at hjl
          rw [hfl] at f2 f3
          obtain ⟨q1, q2, q3⟩ := wf_get h1 hjl
          have hg := fly_get f2 f3 (fun f hf => (h1.wf f hf).2.2) hjl
          have hls : landed A.burn (fun _ => true) (j + 1) = (landed A.burn (fun _ => true) j).land (A.burn.fly.getD j default) := by simp only [landed, hfl, if_true]
          generalize A.burn.fly.getD j default = f at hg hls q1 q2 q3
          have e2 := fl1_one f
          have e3 := fl1_len q3
          have hjl' : j < (landed A.burn (fun _ => true) j).fly.length := by rw [hfl]; exact hjl
          (try simp (maxSteps := 4000000) (disch := first | omega | (simp only [push_n, set_n, clr_n, also_n, List.length_replicate, List.length_set, List.length_map, List.length_append, List.length_take, List.length_drop, List.length_cons, List.length_nil]; first | done | omega) | (with_reducible decide)) only [go_sem, Int.reduceEq, Int.reduceNe, Int.reduceLT, Int.reduceLE, Nat.reduceEqDiff, Int.reduceToNat, Nat.reduceSub, Nat.reduceAdd, Nat.reduceMul, Nat.reduceLT, Nat.reduceLeDiff, Int.reduceNeg, Int.reduceAdd, Int.reduceSub, Int.reduceMul, UInt8.reduceToNat, f1, hg, putAt_all, putL_all, e2, e3]; repeat first | ((first | with_reducible refine split2_pk (by omega) ?_ | with_reducible refine split2_nk (by omega) ?_); intro hsq; try simp (maxSteps := 4000000) (disch := first | omega | (simp only [push_n, set_n, clr_n, also_n, List.length_replicate, List.length_set, List.length_map, List.length_append, List.length_take, List.length_drop, List.length_cons, List.length_nil]; first | done | omega) | (with_reducible decide)) only [go_sem, Int.reduceEq, Int.reduceNe, Int.reduceLT, Int.reduceLE, Nat.reduceEqDiff, Int.reduceToNat, Nat.reduceSub, Nat.reduceAdd, Nat.reduceMul, Nat.reduceLT, Nat.reduceLeDiff, Int.reduceNeg, Int.reduceAdd, Int.reduceSub, Int.reduceMul, UInt8.reduceToNat, f1, hg, putAt_all, putL_all, e2, e3, hsq]))
          refine (land_spec (h2.grew (Grew.push _ _)) f (by rw [hcs]; exact q2) q3).mono ?_
          rintro r H3 ⟨h3, c3⟩
          (try simp (maxSteps := 4000000) (disch := first | omega | (simp only [push_n, set_n, clr_n, also_n, List.length_replicate, List.length_set, List.length_map, List.length_append, List.length_take, List.length_drop, List.length_cons, List.length_nil]; first | done | omega) | (with_reducible decide)) only [go_sem, Int.reduceEq, Int.reduceNe, Int.reduceLT, Int.reduceLE, Nat.reduceEqDiff, Int.reduceToNat, Nat.reduceSub, Nat.reduceAdd, Nat.reduceMul, Nat.reduceLT, Nat.reduceLeDiff, Int.reduceNeg, Int.reduceAdd, Int.reduceSub, Int.reduceMul, UInt8.reduceToNat]; repeat first | ((first | with_reducible refine split2_pk (by omega) ?_ | with_reducible refine split2_nk (by omega) ?_); intro hsq; try simp (maxSteps := 4000000) (disch := first | omega | (simp only [push_n, set_n, clr_n, also_n, List.length_replicate, List.length_set, List.length_map, List.length_append, List.length_take, List.length_drop, List.length_cons, List.length_nil]; first | done | omega) | (with_reducible decide)) only [go_sem, Int.reduceEq, Int.reduceNe, Int.reduceLT, Int.reduceLE, Nat.reduceEqDiff, Int.reduceToNat, Nat.reduceSub, Nat.reduceAdd, Nat.reduceMul, Nat.reduceLT, Nat.reduceLeDiff, Int.reduceNeg, Int.reduceAdd, Int.reduceSub, Int.reduceMul, UInt8.reduceToNat, hsq]))
          (refine ⟨j + 1, ?_⟩; and_intros; all_goals (try first | rfl | assumption | omega))
          · rw [hls]; exact h3
          · exact (c2.trans ((Grew.push _ _).chg _)).trans c3
        · obtain rfl : j = A.burn.fly.length := by omega
          have hd2 := h2.hd
          (try simp (maxSteps := 4000000) (disch := first | omega | (simp only [push_n, set_n, clr_n, also_n, List.length_replicate, List.length_set, List.length_map, List.length_append, List.length_take, List.length_drop, List.length_cons, List.length_nil]; first | done | omega) | (with_reducible decide)) only [go_sem, Int.reduceEq, Int.reduceNe, Int.reduceLT, Int.reduceLE, Nat.reduceEqDiff, Int.reduceToNat, Nat.reduceSub, Nat.reduceAdd, Nat.reduceMul, Nat.reduceLT, Nat.reduceLeDiff, Int.reduceNeg, Int.reduceAdd, Int.reduceSub, Int.reduceMul, UInt8.reduceToNat, hd2]; repeat first | ((first | with_reducible refine split2_pk (by omega) ?_ | with_reducible refine split2_nk (by omega) ?_); intro hsq; try simp (maxSteps := 4000000) (disch := first | omega | (simp only [push_n, set_n, clr_n, also_n, List.length_replicate, List.length_set, List.length_map, List.length_append, List.length_take, List.length_drop, List.length_cons, List.length_nil]; first | done | omega) | (with_reducible decide)) only [go_sem, Int.reduceEq, Int.reduceNe, Int.reduceLT, Int.reduceLE, Nat.reduceEqDiff, Int.reduceToNat, Nat.reduceSub, Nat.reduceAdd, Nat.reduceMul, Nat.reduceLT, Nat.reduceLeDiff, Int.reduceNeg, Int.reduceAdd, Int.reduceSub, Int.reduceMul, UInt8.reduceToNat, hd2, hsq]))
          rw [show A.barrier = (0, { landed A.burn (fun _ => true) A.burn.fly.length with fly := [] }) by simp [Arr.barrier, hoff, hbt, Arr.burn_fly]]
          exact ⟨rfl, _, h2.none h2.fuse _, ⟨(w1.trans c2).thenSet _ (.inl own_P), fun i hi => .inl (own_nil i hi)⟩⟩
set_option maxRecDepth 100000 in
theorem crash_spec (h : IsArr H P D fv dvs A) (v : AV) (picks : List UInt8) (hb : IsBytes H v picks) (hn : A.fly.length < 1000000) (ho : offB (ownB P D fv dvs) v) : ASpec Try.prog 22 [.ptr ⟨false, P, 0⟩, v] H fun r H' => ∃ fv', IsArr H' P D fv' dvs (A.crash picks) ∧ Went H (ownB P D fv dvs) H' (ownB P D fv' dvs) := by
  have hd := h.hd
  have hc := h.cnt
  have lf := fly_lenA h Try.underlying62
  have lb := hb.length (P := Try.prog) Try.underlying27
  refine aspec_fn (rs := []) (n := 43) Try.func22 rfl rfl rfl rfl (by kernel_rfl) (Nat.le_of_ble_eq_true rfl) ?_
  (try simp (maxSteps := 4000000) (disch := first | omega | (simp only [push_n, set_n, clr_n, also_n, List.length_replicate, List.length_set, List.length_map, List.length_append, List.length_take, List.length_drop, List.length_cons, List.length_nil]; first | done | omega) | (with_reducible decide)) only [go_sem, Int.reduceEq, Int.reduceNe, Int.reduceLT, Int.reduceLE, Nat.reduceEqDiff, Int.reduceToNat, Nat.reduceSub, Nat.reduceAdd, Nat.reduceMul, Nat.reduceLT, Nat.reduceLeDiff, Int.reduceNeg, Int.reduceAdd, Int.reduceSub, Int.reduceMul, UInt8.reduceToNat, hd, lf]; repeat first | ((first | with_reducible refine split2_pk (by omega) ?_ | with_reducible refine split2_nk (by omega) ?_); intro hsq; try simp (maxSteps := 4000000) (disch := first | omega | (simp only [push_n, set_n, clr_n, also_n, List.length_replicate, List.length_set, List.length_map, List.length_append, List.length_take, List.length_drop, List.length_cons, List.length_nil]; first | done | omega) | (with_reducible decide)) only [go_sem, Int.reduceEq, Int.reduceNe, Int.reduceLT, Int.reduceLE, Nat.reduceEqDiff, Int.reduceToNat, Nat.reduceSub, Nat.reduceAdd, Nat.reduceMul, Nat.reduceLT, Nat.reduceLeDiff, Int.reduceNeg, Int.reduceAdd, Int.reduceSub, Int.reduceMul, UInt8.reduceToNat, hd, lf, hsq]))
  refine wp_loopS (σ := Nat) (by kernel_rfl) (fun j => [(0, .ptr ⟨false, P, 0⟩), (1, v), (11, fv), (12, .int .i64 (A.fly.length : Nat)), (13, .int .i64 (j : Nat))]) (fun j H' => j ≤ A.fly.length ∧ IsArr H' P D fv dvs (landed A (pickOf picks) j) ∧ Chg (ownB P D fv dvs) H H') (fun j => A.fly.length - j) (0) (by simp (maxSteps := 4000000) (disch := first | omega | (simp only [push_n, set_n, clr_n, also_n, List.length_replicate, List.length_set, List.length_map, List.length_append, List.length_take, List.length_drop, List.length_cons, List.length_nil]; first | done | omega) | (with_reducible decide)) only [go_sem, Int.reduceEq, Int.reduceNe, Int.reduceLT, Int.reduceLE, Nat.reduceEqDiff, Int.reduceToNat, Nat.reduceSub, Nat.reduceAdd, Nat.reduceMul, Nat.reduceLT, Nat.reduceLeDiff, Int.reduceNeg, Int.reduceAdd, Int.reduceSub, Int.reduceMul, UInt8.reduceToNat]) ?_ ?_
  · exact ⟨by omega, h, Chg.refl _ _⟩
  · rintro j H2 ⟨hj, h2, c2⟩
    by_cases hjl : j < A.fly.length
    · have hfl : (landed A (pickOf picks) j).fly = A.fly := landed_fly _ _ _
      have hcs := landed_count A (pickOf picks) j
      rcases h2.fl with ⟨_, e⟩ | ⟨B2, cs, rfl, f1, f2, f3⟩
      · rw [hfl] at e; rw [e] at hjl; simp at hjl
      rw [hfl] at f2 f3
      obtain ⟨q1, q2, q3⟩ := wf_get h hjl
      have hg := fly_get f2 f3 (fun f hf => (h.wf f hf).2.2) hjl
      have hls : landed A (pickOf picks) (j + 1) = if pickOf picks j then (landed A (pickOf picks) j).land (A.fly.getD j default) else landed A (pickOf picks) j := by simp only [landed, hfl]
      generalize A.fly.getD j default = f at hg hls q1 q2 q3
      have e2 := fl1_one f
      have e3 := fl1_len q3
      have hjl' : j < (landed A (pickOf picks) j).fly.length := by rw [hfl]; exact hjl
      have hb2 := (hb.chg c2 ho).grew (Grew.push H2 (some (.cells (fl1 f))))
      by_cases hjp : j < picks.length
      · have hix := hb2.ix (P := Try.prog) Try.underlying27 sz5 (k := .i64) (i := (j : Int)) (by omega) (by omega)
        have hld := hb2.ld hjp
        have hm : (((picks.getD j 0).toNat : Int).tmod 2 = 1) ↔ (picks.getD j 0).toNat % 2 = 1 := by rw [Int.tmod_eq_emod_of_nonneg (by omega)]; omega
        by_cases hpk : (picks.getD j 0).toNat % 2 = 1
        · have hpk' := hm.2 hpk
          (try simp (maxSteps := 4000000) (disch := first | omega | (simp only [push_n, set_n, clr_n, also_n, List.length_replicate, List.length_set, List.length_map, List.length_append, List.length_take, List.length_drop, List.length_cons, List.length_nil]; first | done | omega) | (with_reducible decide)) only [go_sem, Int.reduceEq, Int.reduceNe, Int.reduceLT, Int.reduceLE, Nat.reduceEqDiff, Int.reduceToNat, Nat.reduceSub, Nat.reduceAdd, Nat.reduceMul, Nat.reduceLT, Nat.reduceLeDiff, Int.reduceNeg, Int.reduceAdd, Int.reduceSub, Int.reduceMul, UInt8.reduceToNat, f1, hg, putAt_all, putL_all, e2, e3, lb, hix, hld, hpk']; repeat first | ((first | with_reducible refine split2_pk (by omega) ?_ | with_reducible refine split2_nk (by omega) ?_); intro hsq; try simp (maxSteps := 4000000) (disch := first | omega | (simp only [push_n, set_n, clr_n, also_n, List.length_replicate, List.length_set, List.length_map, List.length_append, List.length_take, List.length_drop, List.length_cons, List.length_nil]; first | done | omega) | (with_reducible decide)) only [go_sem, Int.reduceEq, Int.reduceNe, Int.reduceLT, Int.reduceLE, Nat.reduceEqDiff, Int.reduceToNat, Nat.reduceSub, Nat.reduceAdd, Nat.reduceMul, Nat.reduceLT, Nat.reduceLeDiff, Int.reduceNeg, Int.reduceAdd, Int.reduceSub, Int.reduceMul, UInt8.reduceToNat, f1, hg, putAt_all, putL_all, e2, e3, lb, hix, hld, hpk', hsq]))
          refine (land_spec (h2.grew (Grew.push _ _)) f (by rw [hcs]; exact q2) q3).mono ?_
          rintro r H3 ⟨h3, c3⟩
          (try simp (maxSteps := 4000000) (disch := first | omega | (simp only [push_n, set_n, clr_n, also_n, List.length_replicate, List.length_set, List.length_map, List.length_append, List.length_take, List.length_drop, List.length_cons, List.length_nil]; first | done | omega) | (with_reducible decide)) only [go_sem, Int.reduceEq, Int.reduceNe, Int.reduceLT, Int.reduceLE, Nat.reduceEqDiff, Int.reduceToNat, Nat.reduceSub, Nat.reduceAdd, Nat.reduceMul, Nat.reduceLT, Nat.reduceLeDiff, Int.reduceNeg, Int.reduceAdd, Int.reduceSub, Int.reduceMul, UInt8.reduceToNat]; repeat first | ((first | with_reducible refine split2_pk (by omega) ?_ | with_reducible refine split2_nk (by omega) ?_); intro hsq; try simp (maxSteps := 4000000) (disch := first | omega | (simp only [push_n, set_n, clr_n, also_n, List.length_replicate, List.length_set, List.length_map, List.length_append, List.length_take, List.length_drop, List.length_cons, List.length_nil]; first | done | omega) | (with_reducible decide)) only [go_sem, Int.reduceEq, Int.reduceNe, Int.reduceLT, Int.reduceLE, Nat.reduceEqDiff, Int.reduceToNat, Nat.reduceSub, Nat.reduceAdd, Nat.reduceMul, Nat.reduceLT, Nat.reduceLeDiff, Int.reduceNeg, Int.reduceAdd, Int.reduceSub, Int.reduceMul, UInt8.reduceToNat, hsq]))
          (refine ⟨j + 1, ?_⟩; and_intros; all_goals (try first | rfl | assumption | omega))
          · rw [hls, if_pos (by simp only [pickOf, decide_eq_true hjp, decide_eq_true hpk, Bool.and_self])]; exact h3
          · exact (c2.trans ((Grew.push _ _).chg _)).trans c3
        · have hpk' := fun e => hpk (hm.1 e)
          (try simp (maxSteps := 4000000) (disch := first | omega | (simp only [push_n, set_n, clr_n, also_n, List.length_replicate, List.length_set, List.length_map, List.length_append, List.length_take, List.length_drop, List.length_cons, List.length_nil]; first | done | omega) | (with_reducible decide)) only [go_sem, Int.reduceEq, Int.reduceNe, Int.reduceLT, Int.reduceLE, Nat.reduceEqDiff, Int.reduceToNat, Nat.reduceSub, Nat.reduceAdd, Nat.reduceMul, Nat.reduceLT, Nat.reduceLeDiff, Int.reduceNeg, Int.reduceAdd, Int.reduceSub, Int.reduceMul, UInt8.reduceToNat, f1, hg, putAt_all, putL_all, e2, e3, lb, hix, hld, hpk']; repeat first | ((first | with_reducible refine split2_pk (by omega) ?_ | with_reducible refine split2_nk (by omega) ?_); intro hsq; try simp (maxSteps := 4000000) (disch := first | omega | (simp only [push_n, set_n, clr_n, also_n, List.length_replicate, List.length_set, List.length_map, List.length_append, List.length_take, List.length_drop, List.length_cons, List.length_nil]; first | done | omega) | (with_reducible decide)) only [go_sem, Int.reduceEq, Int.reduceNe, Int.reduceLT, Int.reduceLE, Nat.reduceEqDiff, Int.reduceToNat, Nat.reduceSub, Nat.reduceAdd, Nat.reduceMul, Nat.reduceLT, Nat.reduceLeDiff, Int.reduceNeg, Int.reduceAdd, Int.reduceSub, Int.reduceMul, UInt8.reduceToNat, f1, hg, putAt_all, putL_all, e2, e3, lb, hix, hld, hpk', hsq]))
          (refine ⟨j + 1, ?_⟩; and_intros; all_goals (try first | rfl | assumption | omega))
          · rw [hls, if_neg (by simp only [pickOf, decide_eq_false hpk, Bool.and_false]; simp)]; exact h2.grew (Grew.push _ _)
          · exact c2.trans ((Grew.push _ _).chg _)
      · (try simp (maxSteps := 4000000) (disch := first | omega | (simp only [push_n, set_n, clr_n, also_n, List.length_replicate, List.length_set, List.length_map, List.length_append, List.length_take, List.length_drop, List.length_cons, List.length_nil]; first | done | omega) | (with_reducible decide)) only [go_sem, Int.reduceEq, Int.reduceNe, Int.reduceLT, Int.reduceLE, Nat.reduceEqDiff, Int.reduceToNat, Nat.reduceSub, Nat.reduceAdd, Nat.reduceMul, Nat.reduceLT, Nat.reduceLeDiff, Int.reduceNeg, Int.reduceAdd, Int.reduceSub, Int.reduceMul, UInt8.reduceToNat, f1, hg, putAt_all, putL_all, e2, e3, lb]; repeat first | ((first | with_reducible refine split2_pk (by omega) ?_ | with_reducible refine split2_nk (by omega) ?_); intro hsq; try simp (maxSteps := 4000000) (disch := first | omega | (simp only [push_n, set_n, clr_n, also_n, List.length_replicate, List.length_set, List.length_map, List.length_append, List.length_take, List.length_drop, List.length_cons, List.length_nil]; first | done | omega) | (with_reducible decide)) only [go_sem, Int.reduceEq, Int.reduceNe, Int.reduceLT, Int.reduceLE, Nat.reduceEqDiff, Int.reduceToNat, Nat.reduceSub, Nat.reduceAdd, Nat.reduceMul, Nat.reduceLT, Nat.reduceLeDiff, Int.reduceNeg, Int.reduceAdd, Int.reduceSub, Int.reduceMul, UInt8.reduceToNat, f1, hg, putAt_all, putL_all, e2, e3, lb, hsq]))
        (refine ⟨j + 1, ?_⟩; and_intros; all_goals (try first | rfl | assumption | omega))
        · rw [hls, if_neg (by simp [pickOf, hjp])]; exact h2.grew (Grew.push _ _)
        · exact c2.trans ((Grew.push _ _).chg _)
    · obtain rfl : j = A.fly.length := by omega
      have hd2 := h2.hd
      have hPn := cells_lt hd2
      (try simp (maxSteps := 4000000) (disch := first | omega | (simp only [push_n, set_n, clr_n, also_n, List.length_replicate, List.length_set, List.length_map, List.length_append, List.length_take, List.length_drop, List.length_cons, List.length_nil]; first | done | omega) | (with_reducible decide)) only [go_sem, Int.reduceEq, Int.reduceNe, Int.reduceLT, Int.reduceLE, Nat.reduceEqDiff, Int.reduceToNat, Nat.reduceSub, Nat.reduceAdd, Nat.reduceMul, Nat.reduceLT, Nat.reduceLeDiff, Int.reduceNeg, Int.reduceAdd, Int.reduceSub, Int.reduceMul, UInt8.reduceToNat, hd2]; repeat first | ((first | with_reducible refine split2_pk (by omega) ?_ | with_reducible refine split2_nk (by omega) ?_); intro hsq; try simp (maxSteps := 4000000) (disch := first | omega | (simp only [push_n, set_n, clr_n, also_n, List.length_replicate, List.length_set, List.length_map, List.length_append, List.length_take, List.length_drop, List.length_cons, List.length_nil]; first | done | omega) | (with_reducible decide)) only [go_sem, Int.reduceEq, Int.reduceNe, Int.reduceLT, Int.reduceLE, Nat.reduceEqDiff, Int.reduceToNat, Nat.reduceSub, Nat.reduceAdd, Nat.reduceMul, Nat.reduceLT, Nat.reduceLeDiff, Int.reduceNeg, Int.reduceAdd, Int.reduceSub, Int.reduceMul, UInt8.reduceToNat, hd2, hsq]))
      exact ⟨_, h2.none (fuse := 0) (by omega) false, ⟨c2.thenSet _ (.inl own_P), fun i hi => .inl (own_nil i hi)⟩⟩
end
end Go.Proofs.Ytickckpndpeppaa
