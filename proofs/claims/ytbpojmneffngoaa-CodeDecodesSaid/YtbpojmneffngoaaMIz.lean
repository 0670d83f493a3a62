import Derived.Test.YtbpojmneffngoaaMHz
namespace Go.Proofs.Ytbpojmneffngoaa
open Go Go.Abs Go.Abs.GF
set_option linter.unusedVariables false
set_option linter.unusedSimpArgs false
set_option maxHeartbeats 4000000
attribute [local irreducible] ASpec AWp WP AOps DOps
abbrev AVL := List AV
def zRows (n m : Nat) : Rows8 := List.replicate n (List.replicate m 0)
theorem zRows_len (n m : Nat) : (zRows n m).length = n := by simp [zRows]
theorem zRows_get {n m i : Nat} (h : i < n) : (zRows n m).getD i [] = List.replicate m 0 := by simp [zRows, List.getD, h]
theorem noughts_spec (H : AH) (n m : Nat) (hn : n ≤ 4000) (hm : m ≤ 4000) : ASpec Try.prog 50 [.int .i64 n, .int .i64 m] H fun r H' => ∃ B ws, r = .slice ⟨false, B, 0⟩ n (.known n) ∧ NewRows H H' B ws (zRows n m) := by
  refine aspec_fn (rs := [.tmp 4]) (n := 21) Try.func50 rfl rfl rfl rfl (by kernel_rfl) (Nat.le_of_ble_eq_true rfl) ?_
  (try simp (maxSteps := 4000000) (disch := first | omega | (simp only [push_n, set_n, clr_n, also_n, List.length_replicate, List.length_set, List.length_map, List.length_append, List.length_take, List.length_drop, List.length_cons, List.length_nil]; first | done | omega) | (with_reducible decide)) only [go_sem, Int.reduceEq, Int.reduceNe, Int.reduceLT, Int.reduceLE, Nat.reduceEqDiff, Int.reduceToNat, Nat.reduceSub, Nat.reduceAdd, Nat.reduceMul, Nat.reduceLT, Nat.reduceLeDiff, Int.reduceNeg, Int.reduceAdd, Int.reduceSub, Int.reduceMul, UInt8.reduceToNat]; repeat first | ((first | with_reducible refine split2_pk (by omega) ?_ | with_reducible refine split2_nk (by omega) ?_); intro hsq; try simp (maxSteps := 4000000) (disch := first | omega | (simp only [push_n, set_n, clr_n, also_n, List.length_replicate, List.length_set, List.length_map, List.length_append, List.length_take, List.length_drop, List.length_cons, List.length_nil]; first | done | omega) | (with_reducible decide)) only [go_sem, Int.reduceEq, Int.reduceNe, Int.reduceLT, Int.reduceLE, Nat.reduceEqDiff, Int.reduceToNat, Nat.reduceSub, Nat.reduceAdd, Nat.reduceMul, Nat.reduceLT, Nat.reduceLeDiff, Int.reduceNeg, Int.reduceAdd, Int.reduceSub, Int.reduceMul, UInt8.reduceToNat, hsq]))
  refine wp_loopS (σ := Nat × AVL) (by kernel_rfl) (fun (i, ws) => [(1, .int .i64 (m : Nat)), (5, .slice ⟨false, H.n, 0⟩ n (.known n)), (10, .int .i64 (n : Nat)), (11, .int .i64 (i : Nat))]) (fun (i, ws) H' => i ≤ n ∧ ws.length = i ∧ PartRows H' H.n n ws (zRows i m) ∧ Grew H H' ∧ ∀ b ∈ blks H.n ws, H.n ≤ b) (fun (i, ws) => n - i) (0, []) (by simp (maxSteps := 4000000) (disch := first | omega | (simp only [push_n, set_n, clr_n, also_n, List.length_replicate, List.length_set, List.length_map, List.length_append, List.length_take, List.length_drop, List.length_cons, List.length_nil]; first | done | omega) | (with_reducible decide)) only [go_sem, Int.reduceEq, Int.reduceNe, Int.reduceLT, Int.reduceLE, Nat.reduceEqDiff, Int.reduceToNat, Nat.reduceSub, Nat.reduceAdd, Nat.reduceMul, Nat.reduceLT, Nat.reduceLeDiff, Int.reduceNeg, Int.reduceAdd, Int.reduceSub, Int.reduceMul, UInt8.reduceToNat]) ?_ ?_
  · refine ⟨by omega, rfl, ⟨by rw [push_cells]; simp, by simp, rfl, fun i hi => by simp [zRows] at hi, fun i hi => by simp [zRows] at hi, fun i hi => by simp [zRows] at hi, fun i j hi => by simp [zRows] at hi⟩, Grew.push _ _, fun b hb => by simp [blks] at hb; omega⟩
  rintro ⟨i, ws⟩ H1 ⟨hi, hwl, hp, g, hnew⟩
  by_cases hil : i < n
  · have hgn := g.n
    have hB : H.n < H1.n := cells_lt hp.top
    obtain ⟨l0, c1, c2, c3⟩ := hp.put (w := .slice ⟨false, H1.n, 0⟩ m (.known m)) (xs := List.replicate m 0) (by omega) (Grew.push H1 (some (.cells (List.replicate m (.int .u8 0))))) ⟨_, _, by rw [List.length_replicate]⟩ (zeros_new H1 m) (Nat.le_refl _)
    rw [hwl, push_set_ne hB] at c3
    rw [hwl] at c2
    (try simp (maxSteps := 4000000) (disch := first | omega | (simp only [push_n, set_n, clr_n, also_n, List.length_replicate, List.length_set, List.length_map, List.length_append, List.length_take, List.length_drop, List.length_cons, List.length_nil]; first | done | omega) | (with_reducible decide)) only [go_sem, Int.reduceEq, Int.reduceNe, Int.reduceLT, Int.reduceLE, Nat.reduceEqDiff, Int.reduceToNat, Nat.reduceSub, Nat.reduceAdd, Nat.reduceMul, Nat.reduceLT, Nat.reduceLeDiff, Int.reduceNeg, Int.reduceAdd, Int.reduceSub, Int.reduceMul, UInt8.reduceToNat, c1]; repeat first | ((first | with_reducible refine split2_pk (by omega) ?_ | with_reducible refine split2_nk (by omega) ?_); intro hsq; try simp (maxSteps := 4000000) (disch := first | omega | (simp only [push_n, set_n, clr_n, also_n, List.length_replicate, List.length_set, List.length_map, List.length_append, List.length_take, List.length_drop, List.length_cons, List.length_nil]; first | done | omega) | (with_reducible decide)) only [go_sem, Int.reduceEq, Int.reduceNe, Int.reduceLT, Int.reduceLE, Nat.reduceEqDiff, Int.reduceToNat, Nat.reduceSub, Nat.reduceAdd, Nat.reduceMul, Nat.reduceLT, Nat.reduceLeDiff, Int.reduceNeg, Int.reduceAdd, Int.reduceSub, Int.reduceMul, UInt8.reduceToNat, c1, hsq]))
    (refine ⟨(i + 1, ws ++ [.slice ⟨false, H1.n, 0⟩ m (.known m)]), ?_⟩; and_intros; all_goals (try first | rfl | assumption | omega))
    · simp [hwl]
    · have : zRows (i + 1) m = zRows i m ++ [List.replicate m 0] := by simp [zRows, List.replicate_succ']
      rw [this]
      exact c3
    · exact (((g.chg [H.n]).thenSet _ (.inl (List.mem_singleton.2 rfl))).trans ((Grew.push _ _).chg [H.n])).grew (fun j hj => by have := List.mem_singleton.1 hj; omega)
    · intro b hb
      simp only [blks, List.mem_cons, List.mem_map, List.mem_append] at hb hnew
      rcases hb with rfl | ⟨v, hv | hv, rfl⟩
      · exact Nat.le_refl _
      · exact hnew _ (.inr ⟨v, hv, rfl⟩)
      · rcases hv with rfl | hv
        · exact g.n
        · cases hv
  · obtain rfl : i = n := by omega
    (try simp (maxSteps := 4000000) (disch := first | omega | (simp only [push_n, set_n, clr_n, also_n, List.length_replicate, List.length_set, List.length_map, List.length_append, List.length_take, List.length_drop, List.length_cons, List.length_nil]; first | done | omega) | (with_reducible decide)) only [go_sem, Int.reduceEq, Int.reduceNe, Int.reduceLT, Int.reduceLE, Nat.reduceEqDiff, Int.reduceToNat, Nat.reduceSub, Nat.reduceAdd, Nat.reduceMul, Nat.reduceLT, Nat.reduceLeDiff, Int.reduceNeg, Int.reduceAdd, Int.reduceSub, Int.reduceMul, UInt8.reduceToNat]; repeat first | ((first | with_reducible refine split2_pk (by omega) ?_ | with_reducible refine split2_nk (by omega) ?_); intro hsq; try simp (maxSteps := 4000000) (disch := first | omega | (simp only [push_n, set_n, clr_n, also_n, List.length_replicate, List.length_set, List.length_map, List.length_append, List.length_take, List.length_drop, List.length_cons, List.length_nil]; first | done | omega) | (with_reducible decide)) only [go_sem, Int.reduceEq, Int.reduceNe, Int.reduceLT, Int.reduceLE, Nat.reduceEqDiff, Int.reduceToNat, Nat.reduceSub, Nat.reduceAdd, Nat.reduceMul, Nat.reduceLT, Nat.reduceLeDiff, Int.reduceNeg, Int.reduceAdd, Int.reduceSub, Int.reduceMul, UInt8.reduceToNat, hsq]))
    exact ⟨H.n, ws, rfl, hp.all hwl, g, hnew⟩
def idPart (n i : Nat) : Rows8 := (idRows n).take i ++ (zRows n n).drop i
theorem idPart_len {n i : Nat} (h : i ≤ n) : (idPart n i).length = n := by simp [idPart, idRows_len, zRows_len]; omega
theorem idPart_set {n i : Nat} (h : i < n) : (idPart n i).set i (((idPart n i).getD i []).set i 1) = idPart n (i + 1) := by
  have e : (idPart n i).getD i [] = List.replicate n 0 := by
    unfold idPart
    rw [mix_get _ _ _ (by rw [idRows_len]; omega), zRows_get h]
  rw [e, ← idRows_get h]
  exact mix_step [] _ _ (by rw [idRows_len]; omega) (by rw [zRows_len]; omega)
theorem idPart_row {n i : Nat} (h : i < n) : ((idPart n i).getD i []).length = n := by
  unfold idPart
  rw [mix_get _ _ _ (by rw [idRows_len]; omega), zRows_get h]
  simp
def idRes (H : AH) (n : Int) (known : Bool) (r : AV) (H' : AH) : Prop :=
  if 1 ≤ n ∧ n ≤ 255 then ∃ B ws, r = .tup [.slice ⟨false, B, 0⟩ n.toNat (if known then .known n.toNat else .grow 1), .int .i64 0] ∧ NewRows H H' B ws (idRows n.toNat) else r = .tup [.nilslice, .int .i64 1] ∧ H' = H
theorem identity_spec (H : AH) (n : Int) : ASpec Try.prog 43 [.int .i64 n] H (idRes H n true) := by
  refine aspec_fn (rs := [.tmp 2, .tmp 3]) (n := 28) Try.func43 rfl rfl rfl rfl (by kernel_rfl) (Nat.le_of_ble_eq_true rfl) ?_
  by_cases h : 1 ≤ n ∧ n ≤ 255
  · obtain ⟨m, rfl⟩ : ∃ m : Nat, n = m := ⟨n.toNat, by omega⟩
    (try simp (maxSteps := 4000000) (disch := first | omega | (simp only [push_n, set_n, clr_n, also_n, List.length_replicate, List.length_set, List.length_map, List.length_append, List.length_take, List.length_drop, List.length_cons, List.length_nil]; first | done | omega) | (with_reducible decide)) only [go_sem, Int.reduceEq, Int.reduceNe, Int.reduceLT, Int.reduceLE, Nat.reduceEqDiff, Int.reduceToNat, Nat.reduceSub, Nat.reduceAdd, Nat.reduceMul, Nat.reduceLT, Nat.reduceLeDiff, Int.reduceNeg, Int.reduceAdd, Int.reduceSub, Int.reduceMul, UInt8.reduceToNat]; repeat first | ((first | with_reducible refine split2_pk (by omega) ?_ | with_reducible refine split2_nk (by omega) ?_); intro hsq; try simp (maxSteps := 4000000) (disch := first | omega | (simp only [push_n, set_n, clr_n, also_n, List.length_replicate, List.length_set, List.length_map, List.length_append, List.length_take, List.length_drop, List.length_cons, List.length_nil]; first | done | omega) | (with_reducible decide)) only [go_sem, Int.reduceEq, Int.reduceNe, Int.reduceLT, Int.reduceLE, Nat.reduceEqDiff, Int.reduceToNat, Nat.reduceSub, Nat.reduceAdd, Nat.reduceMul, Nat.reduceLT, Nat.reduceLeDiff, Int.reduceNeg, Int.reduceAdd, Int.reduceSub, Int.reduceMul, UInt8.reduceToNat, hsq]))
    refine (noughts_spec H m m (by omega) (by omega)).mono ?_
    rintro r H1 ⟨B, ws, rfl, hnr⟩
    (try simp (maxSteps := 4000000) (disch := first | omega | (simp only [push_n, set_n, clr_n, also_n, List.length_replicate, List.length_set, List.length_map, List.length_append, List.length_take, List.length_drop, List.length_cons, List.length_nil]; first | done | omega) | (with_reducible decide)) only [go_sem, Int.reduceEq, Int.reduceNe, Int.reduceLT, Int.reduceLE, Nat.reduceEqDiff, Int.reduceToNat, Nat.reduceSub, Nat.reduceAdd, Nat.reduceMul, Nat.reduceLT, Nat.reduceLeDiff, Int.reduceNeg, Int.reduceAdd, Int.reduceSub, Int.reduceMul, UInt8.reduceToNat]; repeat first | ((first | with_reducible refine split2_pk (by omega) ?_ | with_reducible refine split2_nk (by omega) ?_); intro hsq; try simp (maxSteps := 4000000) (disch := first | omega | (simp only [push_n, set_n, clr_n, also_n, List.length_replicate, List.length_set, List.length_map, List.length_append, List.length_take, List.length_drop, List.length_cons, List.length_nil]; first | done | omega) | (with_reducible decide)) only [go_sem, Int.reduceEq, Int.reduceNe, Int.reduceLT, Int.reduceLE, Nat.reduceEqDiff, Int.reduceToNat, Nat.reduceSub, Nat.reduceAdd, Nat.reduceMul, Nat.reduceLT, Nat.reduceLeDiff, Int.reduceNeg, Int.reduceAdd, Int.reduceSub, Int.reduceMul, UInt8.reduceToNat, hsq]))
    refine wp_loopS (σ := Nat) (by kernel_rfl) (fun i => [(4, .slice ⟨false, B, 0⟩ m (.known m)), (16, .int .i64 (m : Nat)), (17, .int .i64 (i : Nat))]) (fun i H' => i ≤ m ∧ NewRows H H' B ws (idPart m i)) (fun i => m - i) (0) (by simp (maxSteps := 4000000) (disch := first | omega | (simp only [push_n, set_n, clr_n, also_n, List.length_replicate, List.length_set, List.length_map, List.length_append, List.length_take, List.length_drop, List.length_cons, List.length_nil]; first | done | omega) | (with_reducible decide)) only [go_sem, Int.reduceEq, Int.reduceNe, Int.reduceLT, Int.reduceLE, Nat.reduceEqDiff, Int.reduceToNat, Nat.reduceSub, Nat.reduceAdd, Nat.reduceMul, Nat.reduceLT, Nat.reduceLeDiff, Int.reduceNeg, Int.reduceAdd, Int.reduceSub, Int.reduceMul, UInt8.reduceToNat]) ?_ ?_
    · refine ⟨by omega, ?_⟩
      simpa [idPart] using hnr
    rintro i H2 ⟨hi, hp⟩
    by_cases hil : i < m
    · have ho := hp.own
      have hl := idPart_len hi
      have hrows := ho.isRows (c := .known m) (by rw [hl]; simp [okSl])
      rw [hl] at hrows
      have hix := hrows.ix (P := Try.prog) Try.underlying25 sz40 (k := .i64) (i := (i : Int)) (by omega) (by omega)
      have hld := hrows.ld (i := i) (by omega)
      obtain ⟨b, c, e⟩ := ho.own i (by omega)
      rw [idPart_row hil] at e
      have hb := ho.each i (by omega)
      rw [e] at hb hld
      have hix2 := hb.ixS (P := Try.prog) (t := 40) Try.underlying40 sz5 (k := .i64) (i := i) (by rw [idPart_row hil]; omega)
      rw [Nat.zero_add] at hix2
      obtain ⟨l0, c1, c2, c3, c4⟩ := ho.cell (i := i) (j := i) (by omega) (by rw [idPart_row hil]; omega)
      have eb : bn (ws.getD i .unk) = b := by rw [e]; rfl
      rw [eb] at c1 c4
      have c5 := c4 1
      rw [idPart_set hil] at c5
      (try simp (maxSteps := 4000000) (disch := first | omega | (simp only [push_n, set_n, clr_n, also_n, List.length_replicate, List.length_set, List.length_map, List.length_append, List.length_take, List.length_drop, List.length_cons, List.length_nil]; first | done | omega) | (with_reducible decide)) only [go_sem, Int.reduceEq, Int.reduceNe, Int.reduceLT, Int.reduceLE, Nat.reduceEqDiff, Int.reduceToNat, Nat.reduceSub, Nat.reduceAdd, Nat.reduceMul, Nat.reduceLT, Nat.reduceLeDiff, Int.reduceNeg, Int.reduceAdd, Int.reduceSub, Int.reduceMul, UInt8.reduceToNat, hix, hld, hix2, c1]; repeat first | ((first | with_reducible refine split2_pk (by omega) ?_ | with_reducible refine split2_nk (by omega) ?_); intro hsq; try simp (maxSteps := 4000000) (disch := first | omega | (simp only [push_n, set_n, clr_n, also_n, List.length_replicate, List.length_set, List.length_map, List.length_append, List.length_take, List.length_drop, List.length_cons, List.length_nil]; first | done | omega) | (with_reducible decide)) only [go_sem, Int.reduceEq, Int.reduceNe, Int.reduceLT, Int.reduceLE, Nat.reduceEqDiff, Int.reduceToNat, Nat.reduceSub, Nat.reduceAdd, Nat.reduceMul, Nat.reduceLT, Nat.reduceLeDiff, Int.reduceNeg, Int.reduceAdd, Int.reduceSub, Int.reduceMul, UInt8.reduceToNat, hix, hld, hix2, c1, hsq]))
      (refine ⟨i + 1, ?_⟩; and_intros; all_goals (try first | rfl | assumption | omega))
      exact hp.chg (Chg.set _ b _ (S := [b]) (by simp)) (fun b' hb' => by have := List.mem_singleton.1 hb'; subst this; rw [← eb]; exact bn_mem (by rw [ho.len]; omega)) (fun _ h => h) c5
    · obtain rfl : i = m := by omega
      (try simp (maxSteps := 4000000) (disch := first | omega | (simp only [push_n, set_n, clr_n, also_n, List.length_replicate, List.length_set, List.length_map, List.length_append, List.length_take, List.length_drop, List.length_cons, List.length_nil]; first | done | omega) | (with_reducible decide)) only [go_sem, Int.reduceEq, Int.reduceNe, Int.reduceLT, Int.reduceLE, Nat.reduceEqDiff, Int.reduceToNat, Nat.reduceSub, Nat.reduceAdd, Nat.reduceMul, Nat.reduceLT, Nat.reduceLeDiff, Int.reduceNeg, Int.reduceAdd, Int.reduceSub, Int.reduceMul, UInt8.reduceToNat]; repeat first | ((first | with_reducible refine split2_pk (by omega) ?_ | with_reducible refine split2_nk (by omega) ?_); intro hsq; try simp (maxSteps := 4000000) (disch := first | omega | (simp only [push_n, set_n, clr_n, also_n, List.length_replicate, List.length_set, List.length_map, List.length_append, List.length_take, List.length_drop, List.length_cons, List.length_nil]; first | done | omega) | (with_reducible decide)) only [go_sem, Int.reduceEq, Int.reduceNe, Int.reduceLT, Int.reduceLE, Nat.reduceEqDiff, Int.reduceToNat, Nat.reduceSub, Nat.reduceAdd, Nat.reduceMul, Nat.reduceLT, Nat.reduceLeDiff, Int.reduceNeg, Int.reduceAdd, Int.reduceSub, Int.reduceMul, UInt8.reduceToNat, hsq]))
      rw [idRes, if_pos h]
      refine ⟨B, ws, rfl, ?_⟩
      have : idPart i i = idRows i := mix_end _ _ (by rw [idRows_len]; omega) (by rw [zRows_len]; omega)
      rw [this] at hp
      exact hp
  · have : ¬ (1 ≤ n ∧ n ≤ 255) := h
    (try simp (maxSteps := 4000000) (disch := first | omega | (simp only [push_n, set_n, clr_n, also_n, List.length_replicate, List.length_set, List.length_map, List.length_append, List.length_take, List.length_drop, List.length_cons, List.length_nil]; first | done | omega) | (with_reducible decide)) only [go_sem, Int.reduceEq, Int.reduceNe, Int.reduceLT, Int.reduceLE, Nat.reduceEqDiff, Int.reduceToNat, Nat.reduceSub, Nat.reduceAdd, Nat.reduceMul, Nat.reduceLT, Nat.reduceLeDiff, Int.reduceNeg, Int.reduceAdd, Int.reduceSub, Int.reduceMul, UInt8.reduceToNat]; repeat' first | ((first | with_reducible refine split2_pk (by omega) ?_ | with_reducible refine split2_nk (by omega) ?_); intro hsq; try simp (maxSteps := 4000000) (disch := first | omega | (simp only [push_n, set_n, clr_n, also_n, List.length_replicate, List.length_set, List.length_map, List.length_append, List.length_take, List.length_drop, List.length_cons, List.length_nil]; first | done | omega) | (with_reducible decide)) only [go_sem, Int.reduceEq, Int.reduceNe, Int.reduceLT, Int.reduceLE, Nat.reduceEqDiff, Int.reduceToNat, Nat.reduceSub, Nat.reduceAdd, Nat.reduceMul, Nat.reduceLT, Nat.reduceLeDiff, Int.reduceNeg, Int.reduceAdd, Int.reduceSub, Int.reduceMul, UInt8.reduceToNat, hsq]) | (with_reducible refine split2_ik ?_ ?_ <;> intro hsp hsq <;> try simp (maxSteps := 4000000) (disch := first | omega | (simp only [push_n, set_n, clr_n, also_n, List.length_replicate, List.length_set, List.length_map, List.length_append, List.length_take, List.length_drop, List.length_cons, List.length_nil]; first | done | omega) | (with_reducible decide)) only [go_sem, Int.reduceEq, Int.reduceNe, Int.reduceLT, Int.reduceLE, Nat.reduceEqDiff, Int.reduceToNat, Nat.reduceSub, Nat.reduceAdd, Nat.reduceMul, Nat.reduceLT, Nat.reduceLeDiff, Int.reduceNeg, Int.reduceAdd, Int.reduceSub, Int.reduceMul, UInt8.reduceToNat, hsq]))
    all_goals first
      | omega
      | (rw [idRes, if_neg h]; exact ⟨rfl, rfl⟩)
theorem ridentity_spec (H : AH) (n : Int) : ASpec Try.prog 27 [.int .i64 n] H (idRes H n false) := by
  refine aspec_fn (rs := [.tmp 2, .tmp 3]) (n := 28) Try.func27 rfl rfl rfl rfl (by kernel_rfl) (Nat.le_of_ble_eq_true rfl) ?_
  by_cases h : 1 ≤ n ∧ n ≤ 255
  · obtain ⟨m, rfl⟩ : ∃ m : Nat, n = m := ⟨n.toNat, by omega⟩
    (try simp (maxSteps := 4000000) (disch := first | omega | (simp only [push_n, set_n, clr_n, also_n, List.length_replicate, List.length_set, List.length_map, List.length_append, List.length_take, List.length_drop, List.length_cons, List.length_nil]; first | done | omega) | (with_reducible decide)) only [go_sem, Int.reduceEq, Int.reduceNe, Int.reduceLT, Int.reduceLE, Nat.reduceEqDiff, Int.reduceToNat, Nat.reduceSub, Nat.reduceAdd, Nat.reduceMul, Nat.reduceLT, Nat.reduceLeDiff, Int.reduceNeg, Int.reduceAdd, Int.reduceSub, Int.reduceMul, UInt8.reduceToNat]; repeat first | ((first | with_reducible refine split2_pk (by omega) ?_ | with_reducible refine split2_nk (by omega) ?_); intro hsq; try simp (maxSteps := 4000000) (disch := first | omega | (simp only [push_n, set_n, clr_n, also_n, List.length_replicate, List.length_set, List.length_map, List.length_append, List.length_take, List.length_drop, List.length_cons, List.length_nil]; first | done | omega) | (with_reducible decide)) only [go_sem, Int.reduceEq, Int.reduceNe, Int.reduceLT, Int.reduceLE, Nat.reduceEqDiff, Int.reduceToNat, Nat.reduceSub, Nat.reduceAdd, Nat.reduceMul, Nat.reduceLT, Nat.reduceLeDiff, Int.reduceNeg, Int.reduceAdd, Int.reduceSub, Int.reduceMul, UInt8.reduceToNat, hsq]))
    refine wp_loopS (σ := Nat × AV × AVL) (by kernel_rfl) (fun (i, mv, ws) => [(0, .int .i64 (m : Nat)), (4, mv), (5, .int .i64 (i : Nat))]) (fun (i, mv, ws) H' => i ≤ m ∧ AccOwn H H' mv ws ((idRows m).take i)) (fun (i, mv, ws) => m - i) (0, .nilslice, []) (by simp (maxSteps := 4000000) (disch := first | omega | (simp only [push_n, set_n, clr_n, also_n, List.length_replicate, List.length_set, List.length_map, List.length_append, List.length_take, List.length_drop, List.length_cons, List.length_nil]; first | done | omega) | (with_reducible decide)) only [go_sem, Int.reduceEq, Int.reduceNe, Int.reduceLT, Int.reduceLE, Nat.reduceEqDiff, Int.reduceToNat, Nat.reduceSub, Nat.reduceAdd, Nat.reduceMul, Nat.reduceLT, Nat.reduceLeDiff, Int.reduceNeg, Int.reduceAdd, Int.reduceSub, Int.reduceMul, UInt8.reduceToNat]) ?_ ?_
    · exact ⟨by omega, AccOwn.nil (Grew.refl _)⟩
    rintro ⟨i, mv, ws⟩ H1 ⟨hi, hacc⟩
    have htl : ((idRows m).take i).length = i := by simp [idRows_len]; omega
    by_cases hil : i < m
    · have hg := hacc.acc.acc.g
      have hz := zeros_new H1 m
      obtain ⟨l0, z1, z2, z3⟩ := hz.store (i := i) (by simp; omega)
      rw [push_cells] at z1
      injection z1 with z1
      subst z1
      have z4 := z3 1
      rw [push_set, Nat.zero_add] at z4
      have g2 : Grew H1 (H1.push (some (.cells ((List.replicate m (.int .u8 0)).set i (bv 1))))) := Grew.push _ _
      have hacc2 := hacc.grew g2
      have hbl := hacc.acc.acc.below
      have e1 : (List.replicate m (0 : UInt8)).set i 1 = (idRows m).getD i [] := (idRows_get hil).symm
      rw [e1] at z4
      have el : ((idRows m).getD i []).length = m := by rw [← e1]; simp
      obtain ⟨H4, a1, a2, a3⟩ := hacc2.add (by' := 24) z4 ⟨_, _, by rw [el]⟩ (Nat.le_trans hg.n (Nat.le_refl _)) (fun j hj => by
        have := (hacc.own j hj).1
        obtain ⟨b, c, e⟩ := this
        have hx := (hacc.acc.each j hj).1
        rw [e] at hx ⊢
        have := hx.blk_lt
        simp only [bn]
        omega) (fun hm => by have := hbl _ hm; simp only [bn] at this; omega) (by omega) (by omega)
      rw [htl, push_n] at a1 a2
      have e0 : bv 1 = .int .u8 1 := rfl
      rw [e0] at a1
      (try simp (maxSteps := 4000000) (disch := first | omega | (simp only [push_n, set_n, clr_n, also_n, List.length_replicate, List.length_set, List.length_map, List.length_append, List.length_take, List.length_drop, List.length_cons, List.length_nil]; first | done | omega) | (with_reducible decide)) only [go_sem, Int.reduceEq, Int.reduceNe, Int.reduceLT, Int.reduceLE, Nat.reduceEqDiff, Int.reduceToNat, Nat.reduceSub, Nat.reduceAdd, Nat.reduceMul, Nat.reduceLT, Nat.reduceLeDiff, Int.reduceNeg, Int.reduceAdd, Int.reduceSub, Int.reduceMul, UInt8.reduceToNat, a1]; repeat first | ((first | with_reducible refine split2_pk (by omega) ?_ | with_reducible refine split2_nk (by omega) ?_); intro hsq; try simp (maxSteps := 4000000) (disch := first | omega | (simp only [push_n, set_n, clr_n, also_n, List.length_replicate, List.length_set, List.length_map, List.length_append, List.length_take, List.length_drop, List.length_cons, List.length_nil]; first | done | omega) | (with_reducible decide)) only [go_sem, Int.reduceEq, Int.reduceNe, Int.reduceLT, Int.reduceLE, Nat.reduceEqDiff, Int.reduceToNat, Nat.reduceSub, Nat.reduceAdd, Nat.reduceMul, Nat.reduceLT, Nat.reduceLeDiff, Int.reduceNeg, Int.reduceAdd, Int.reduceSub, Int.reduceMul, UInt8.reduceToNat, a1, hsq]))
      (refine ⟨(i + 1, .slice ⟨false, H1.n + 1 + 1, 0⟩ (i + 1) (.grow 1), ws ++ [.slice ⟨false, H1.n, 0⟩ m (.known m)]), ?_⟩; and_intros; all_goals (try first | rfl | assumption | omega))
      rw [show (idRows m).take (i + 1) = (idRows m).take i ++ [(idRows m).getD i []] by rw [← List.take_append_getElem (show i < (idRows m).length by rw [idRows_len]; omega)]; simp [List.getD, show i < (idRows m).length by rw [idRows_len]; omega]]
      exact a2
    · obtain rfl : i = m := by omega
      rw [List.take_of_length_le (by rw [idRows_len]; omega)] at hacc
      obtain ⟨B, rfl, hB, ho, hnew⟩ := hacc.own_rows (by rw [idRows_len]; omega)
      (try simp (maxSteps := 4000000) (disch := first | omega | (simp only [push_n, set_n, clr_n, also_n, List.length_replicate, List.length_set, List.length_map, List.length_append, List.length_take, List.length_drop, List.length_cons, List.length_nil]; first | done | omega) | (with_reducible decide)) only [go_sem, Int.reduceEq, Int.reduceNe, Int.reduceLT, Int.reduceLE, Nat.reduceEqDiff, Int.reduceToNat, Nat.reduceSub, Nat.reduceAdd, Nat.reduceMul, Nat.reduceLT, Nat.reduceLeDiff, Int.reduceNeg, Int.reduceAdd, Int.reduceSub, Int.reduceMul, UInt8.reduceToNat]; repeat first | ((first | with_reducible refine split2_pk (by omega) ?_ | with_reducible refine split2_nk (by omega) ?_); intro hsq; try simp (maxSteps := 4000000) (disch := first | omega | (simp only [push_n, set_n, clr_n, also_n, List.length_replicate, List.length_set, List.length_map, List.length_append, List.length_take, List.length_drop, List.length_cons, List.length_nil]; first | done | omega) | (with_reducible decide)) only [go_sem, Int.reduceEq, Int.reduceNe, Int.reduceLT, Int.reduceLE, Nat.reduceEqDiff, Int.reduceToNat, Nat.reduceSub, Nat.reduceAdd, Nat.reduceMul, Nat.reduceLT, Nat.reduceLeDiff, Int.reduceNeg, Int.reduceAdd, Int.reduceSub, Int.reduceMul, UInt8.reduceToNat, hsq]))
      rw [idRes, if_pos h]
      rw [idRows_len]
      exact ⟨B, ws, rfl, ho, hacc.acc.acc.g, hnew⟩
  · (try simp (maxSteps := 4000000) (disch := first | omega | (simp only [push_n, set_n, clr_n, also_n, List.length_replicate, List.length_set, List.length_map, List.length_append, List.length_take, List.length_drop, List.length_cons, List.length_nil]; first | done | omega) | (with_reducible decide)) only [go_sem, Int.reduceEq, Int.reduceNe, Int.reduceLT, Int.reduceLE, Nat.reduceEqDiff, Int.reduceToNat, Nat.reduceSub, Nat.reduceAdd, Nat.reduceMul, Nat.reduceLT, Nat.reduceLeDiff, Int.reduceNeg, Int.reduceAdd, Int.reduceSub, Int.reduceMul, UInt8.reduceToNat]; repeat' first | ((first | with_reducible refine split2_pk (by omega) ?_ | with_reducible refine split2_nk (by omega) ?_); intro hsq; try simp (maxSteps := 4000000) (disch := first | omega | (simp only [push_n, set_n, clr_n, also_n, List.length_replicate, List.length_set, List.length_map, List.length_append, List.length_take, List.length_drop, List.length_cons, List.length_nil]; first | done | omega) | (with_reducible decide)) only [go_sem, Int.reduceEq, Int.reduceNe, Int.reduceLT, Int.reduceLE, Nat.reduceEqDiff, Int.reduceToNat, Nat.reduceSub, Nat.reduceAdd, Nat.reduceMul, Nat.reduceLT, Nat.reduceLeDiff, Int.reduceNeg, Int.reduceAdd, Int.reduceSub, Int.reduceMul, UInt8.reduceToNat, hsq]) | (with_reducible refine split2_ik ?_ ?_ <;> intro hsp hsq <;> try simp (maxSteps := 4000000) (disch := first | omega | (simp only [push_n, set_n, clr_n, also_n, List.length_replicate, List.length_set, List.length_map, List.length_append, List.length_take, List.length_drop, List.length_cons, List.length_nil]; first | done | omega) | (with_reducible decide)) only [go_sem, Int.reduceEq, Int.reduceNe, Int.reduceLT, Int.reduceLE, Nat.reduceEqDiff, Int.reduceToNat, Nat.reduceSub, Nat.reduceAdd, Nat.reduceMul, Nat.reduceLT, Nat.reduceLeDiff, Int.reduceNeg, Int.reduceAdd, Int.reduceSub, Int.reduceMul, UInt8.reduceToNat, hsq]))
    all_goals first
      | omega
      | (rw [idRes, if_neg h]; exact ⟨rfl, rfl⟩)
end Go.Proofs.Ytbpojmneffngoaa
