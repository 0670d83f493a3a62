import Derived.Test.YtbpojmneffngoaaMHz
namespace Go.Proofs.Ytbpojmneffngoaa
open Go Go.Abs Go.Abs.GF
set_option linter.unusedVariables false
set_option linter.unusedSimpArgs false
set_option maxHeartbeats 4000000
attribute [local irreducible] ASpec AWp WP AOps DOps
abbrev AVL := List AV
def zRows (n m : Nat) : Rows8 := List.replicate n (List.replicate m 0)
theorem zRows_len (n m : Nat) : (zRows n m).length = n := by simp [zRows]
theorem zRows_get {n m i : Nat} (h : i < n) : (zRows n m).getD i [] = List.replicate m 0 := by simp [zRows, List.getD, h]
theorem noughts_spec (H : AH) (n m : Nat) (hn : n ≤ 4000) (hm : m ≤ 4000) : ASpec Try.prog 50 [.int .i64 n, .int .i64 m] H fun r H' => ∃ B ws, r = .slice ⟨false, B, 0⟩ n (.known n) ∧ NewRows H H' B ws (zRows n m) := by
  refine aspec_fn (rs := [.tmp 4]) (n := 21) Try.func50 rfl rfl rfl rfl (by kernel_rfl) (Nat.le_of_ble_eq_true rfl) ?_
  (try simp (maxSteps := 4000000) (disch := first | omega | (simp only [push_n, set_n, clr_n, also_n, List.length_replicate, List.length_set, List.length_map, List.length_append, List.length_take, List.length_drop, List.length_cons, List.length_nil]; first | done | omega) | (with_reducible decide)) only [go_sem, Int.reduceEq, Int.reduceNe, Int.reduceLT, Int.reduceLE, Nat.reduceEqDiff, Int.reduceToNat, Nat.reduceSub, Nat.reduceAdd, Nat.reduceMul, Nat.reduceLT, Nat.reduceLeDiff, Int.reduceNeg, Int.reduceAdd, Int.reduceSub, Int.reduceMul, UInt8.reduceToNat]; repeat first | ((first | with_reducible refine split2_pk (by omega) ?_ | with_reducible refine split2_nk (by omega) ?_); intro hsq; try simp (maxSteps := 4000000) (disch := first | omega | (simp only [push_n, set_n, clr_n, also_n, List.length_replicate, List.length_set, List.length_map, List.length_append, List.length_take, List.length_drop, List.length_cons, List.length_nil]; first | done | omega) | (with_reducible decide)) only [go_sem, Int.reduceEq, Int.reduceNe, Int.reduceLT, Int.reduceLE, Nat.reduceEqDiff, Int.reduceToNat, Nat.reduceSub, Nat.reduceAdd, Nat.reduceMul, Nat.reduceLT, Nat.reduceLeDiff, Int.reduceNeg, Int.reduceAdd, Int.reduceSub, Int.reduceMul, UInt8.reduceToNat, hsq]))
  refine wp_loopS (σ := Nat × AVL) (by kernel_rfl) (fun (i, ws) => [(1, .int .i64 (m : Nat)), (5, .slice ⟨false, H.n, 0⟩ n (.known n)), (10, .int .i64 (n : Nat)), (11, .int .i64 (i : Nat))]) (fun (i, ws) H' => i ≤ n ∧ ws.length = i ∧ PartRows H' H.n n ws (zRows i m) ∧ Grew H H' ∧ ∀ b ∈ blks H.n ws, H.n ≤ b) (fun (i, ws) => n - i) (0, []) (by simp (maxSteps := 4000000) (disch := first | omega | (simp only [push_n, set_n, clr_n, also_n, List.length_replicate, List.length_set, List.length_map, List.length_append, List.length_take, List.length_drop, List.length_cons, List.length_nil]; first | done | omega) | (with_reducible decide)) only [go_sem, Int.reduceEq, Int.reduceNe, Int.reduceLT, Int.reduceLE, Nat.reduceEqDiff, Int.reduceToNat, Nat.reduceSub, Nat.reduceAdd, Nat.reduceMul, Nat.reduceLT, Nat.reduceLeDiff, Int.reduceNeg, Int.reduceAdd, Int.reduceSub, Int.reduceMul, UInt8.reduceToNat]) ?_ ?_
  · refine ⟨by omega, rfl, ⟨by rw [push_cells]; simp, by simp, rfl, fun i hi => by simp [zRows] at hi, fun i hi => by simp [zRows] at hi, fun i hi => by simp [zRows] at hi, fun i j hi => by simp [zRows] at hi⟩, Grew.push _ _, fun b hb => by simp [blks] at hb; omega⟩
  rintro ⟨i, ws⟩ H1 ⟨hi, hwl, hp, g, hnew⟩
  by_cases hil : i < n
  · have hgn := g.n
    have hB : H.n < H1.n := cells_lt hp.top
    obtain ⟨l0, c1, c2, c3⟩ := hp.put (w := .slice ⟨false, H1.n, 0⟩ m (.known m)) (xs := List.replicate m 0) (by omega) (Grew.push H1 (some (.cells (List.replicate m (.int .u8 0))))) ⟨_, _, by rw [List.length_replicate]⟩ (zeros_new H1 m) (Nat.le_refl _)
    rw [hwl, push_set_ne hB] at c3
    rw [hwl] at c2
    (try simp (maxSteps := 4000000) (disch := first | omega | (simp only [push_n, set_n, clr_n, also_n, List.length_replicate, List.length_set, List.length_map, List.length_append, List.length_take, List.length_drop, List.length_cons, List.length_nil]; first | done | omega) | (with_reducible decide)) only [go_sem, Int.reduceEq, Int.reduceNe, Int.reduceLT, Int.reduceLE, Nat.reduceEqDiff, Int.reduceToNat, Nat.reduceSub, Nat.reduceAdd, Nat.reduceMul, Nat.reduceLT, Nat.reduceLeDiff, Int.reduceNeg, Int.reduceAdd, Int.reduceSub, Int.reduceMul, UInt8.reduceToNat, c1]; repeat first | ((first | with_reducible refine split2_pk (by omega) ?_ | with_reducible refine split2_nk (by omega) ?_); intro hsq; try simp (maxSteps := 4000000) (disch := first | omega | (simp only [push_n, set_n, clr_n, also_n, List.length_replicate, List.length_set, List.length_map, List.length_append, List.length_take, List.length_drop, List.length_cons, List.length_nil]; first | done | omega) | (with_reducible decide)) only [go_sem, Int.reduceEq, Int.reduceNe, Int.reduceLT, Int.reduceLE, Nat.reduceEqDiff, Int.reduceToNat, Nat.reduceSub, Nat.reduceAdd, Nat.reduceMul, Nat.reduceLT, Nat.reduceLeDiff, Int.reduceNeg, Int.reduceAdd, Int.reduceSub, Int.reduceMul, UInt8.reduceToNat, c1, hsq]))
    (refine ⟨(i + 1, ws ++ [.slice ⟨false, H1.n, 0⟩ m (.known m)]), ?_⟩; and_intros; all_goals (try first | rfl | assumption | omega))
    · simp [hwl]
    · have : zRows (i + 1) m = zRows i m ++ [List.replicate m 0] := by simp [zRows, List.replicate_succ']
      rw [this]
      exact c3
    · exact (((g.chg [H.n]).thenSet _ (.inl (List.mem_singleton.2 rfl))).trans ((Grew.push _ _).chg [H.n])).grew (fun j hj => by have := List.mem_singleton.1 hj; omega)
    · intro b hb
      simp only [blks, List.mem_cons, List.mem_map, List.mem_append] at hb hnew
      rcases hb with rfl | ⟨v, hv | hv, rfl⟩
      · exact Nat.le_refl _
      · exact hnew _ (.inr ⟨v, hv, rfl⟩)
      · rcases hv with rfl | hv
        · exact g.n
        · cases hv
  · obtain rfl : i = n := by omega
    (try simp (maxSteps := 4000000) (disch := first | omega | (simp only [push_n, set_n, clr_n, also_n, List.length_replicate, List.length_set, List.length_map, List.length_append, List.length_take, List.length_drop, List.length_cons, List.length_nil]; first | done | omega) | (with_reducible decide)) only [go_sem, Int.reduceEq, Int.reduceNe, Int.reduceLT, Int.reduceLE, Nat.reduceEqDiff, Int.reduceToNat, Nat.reduceSub, Nat.reduceAdd, Nat.reduceMul, Nat.reduceLT, Nat.reduceLeDiff, Int.reduceNeg, Int.reduceAdd, Int.reduceSub, Int.reduceMul, UInt8.reduceToNat]; repeat first | ((first | with_reducible refine split2_pk (by omega) ?_ | with_reducible refine split2_nk (by omega) ?_); intro hsq; try simp (maxSteps := 4000000) (disch := first | omega | (simp only [push_n, set_n, clr_n, also_n, List.length_replicate, List.length_set, List.length_map, List.length_append, List.length_take, List.length_drop, List.length_cons, List.length_nil]; first | done | omega) | (with_reducible decide)) only [go_sem, Int.reduceEq, Int.reduceNe, Int.reduceLT, Int.reduceLE, Nat.reduceEqDiff, Int.reduceToNat, Nat.reduceSub, Nat.reduceAdd, Nat.reduceMul, Nat.reduceLT, Nat.reduceLeDiff, Int.reduceNeg, Int.reduceAdd, Int.reduceSub, Int.reduceMul, UInt8.reduceToNat, hsq]))
    exact ⟨H.n, ws, rfl, hp.all hwl, g, hnew⟩
def idPart (n i : Nat) : Rows8 := (idRows n).take i ++ (zRows n n).drop i
theorem idPart_len {n i : Nat} (h : i ≤ n) : (idPart n i).length = n := by simp [idPart, idRows_len, zRows_len]; omega
theorem idPart_set {n i : Nat} (h : i < n) : (idPart n i).set i (((idPart n i).getD i []).set i 1) = idPart n (i + 1) := by
  have e : (idPart n i).getD i [] = List.replicate n 0 := by
    unfold idPart
    rw [mix_get _ _ _ (by rw [idRows_len]; omega), zRows_get h]
  rw [e, ← idRows_get h]
  exact mix_step [] _ _ (by rw [idRows_len]; omega) (by rw [zRows_len]; omega)
theorem idPart_row {n i : Nat} (h : i < n) : ((idPart n i).getD i []).length = n := by
  unfold idPart
  rw [mix_get _ _ _ (by rw [idRows_len]; omega), zRows_get h]
  simp
def idRes (H : AH) (n : Int) (known : Bool) (r : AV) (H' : AH) : Prop :=
  if 1 ≤ n ∧ n ≤ 255 then ∃ B ws, r = .tup [.slice ⟨false, B, 0⟩ n.toNat (if known then .known n.toNat else .grow 1), .int .i64 0] ∧ NewRows H H' B ws (idRows n.toNat) else r = .tup [.nilslice, .int .i64 1] ∧ H' = H
theorem identity_spec (H : AH) (n : Int) : ASpec Try.prog 43 [.int .i64 n] H (idRes H n true) := by
  refine aspec_fn (rs := [.tmp 2, .tmp 3]) (n := 28) Try.func43 rfl rfl rfl rfl (by kernel_rfl) (Nat.le_of_ble_eq_true rfl) ?_
  by_cases h : 1 ≤ n ∧ n ≤ 255
  · obtain ⟨m, rfl⟩ : ∃ m : Nat, n = m := ⟨n.toNat, by omega⟩
    (try simp (maxSteps := 4000000) (disch := first | omega | (simp only [push_n, set_n, clr_n, also_n, List.length_replicate, List.length_set, List.length_map, List.length_append, List.length_take, List.length_drop, List.length_cons, List.length_nil]; first | done | omega) | (with_reducible decide)) only [go_sem, Int.reduceEq, Int.reduceNe, Int.reduceLT, Int.reduceLE, Nat.reduceEqDiff, Int.reduceToNat, Nat.reduceSub, Nat.reduceAdd, Nat.reduceMul, Nat.reduceLT, Nat.reduceLeDiff, Int.reduceNeg, Int.reduceAdd, Int.reduceSub, Int.reduceMul, UInt8.reduceToNat]; repeat first | ((first | with_reducible refine split2_pk (by omega) ?_ | with_reducible refine split2_nk (by omega) ?_); intro hsq; try simp (maxSteps := 4000000) (disch := first | omega | (simp only [push_n, set_n, clr_n, also_n, List.length_replicate, List.length_set, List.length_map, List.length_append, List.length_take, List.length_drop, List.length_cons, List.length_nil]; first | done | omega) | (with_reducible decide)) only [go_sem, Int.reduceEq, Int.reduceNe, Int.reduceLT, Int.reduceLE, Nat.reduceEqDiff, Int.reduceToNat, Nat.reduceSub, Nat.reduceAdd, Nat.reduceMul, Nat.reduceLT, Nat.reduceLeDiff, Int.reduceNeg, Int.reduceAdd, Int.reduceSub, Int.reduceMul, UInt8.reduceToNat, hsq]))
    refine (noughts_spec H m m (by omega) (by omega)).mono ?_
    rintro r H1 ⟨B, ws, rfl, hnr⟩
    (try simp (maxSteps := 4000000) (disch := first | omega | (simp only [push_n, set_n, clr_n, also_n, List.length_replicate, List.length_set, List.length_map, List.length_append, List.length_take, List.length_drop, List.length_cons, List.length_nil]; first | done | omega) | (with_reducible decide)) only [go_sem, Int.reduceEq, Int.reduceNe, Int.reduceLT, Int.reduceLE, Nat.reduceEqDiff, Int.reduceToNat, Nat.reduceSub, Nat.reduceAdd, Nat.reduceMul, Nat.reduceLT, Nat.reduceLeDiff, Int.reduceNeg, Int.reduceAdd, Int.reduceSub, Int.reduceMul, UInt8.reduceToNat]; repeat first | ((first | with_reducible refine split2_pk (by omega) ?_ | with_reducible refine split2_nk (by omega) ?_); intro hsq; try simp (maxSteps := 4000000) (disch := first | omega | (simp only [push_n, set_n, clr_n, also_n, List.length_replicate, List.length_set, List.length_map, List.length_append, List.length_take, List.length_drop, List.length_cons, List.length_nil]; first | done | omega) | (with_reducible decide)) only [go_sem, Int.reduceEq, Int.reduceNe, Int.reduceLT, Int.reduceLE, Nat.reduceEqDiff, Int.reduceToNat, Nat.reduceSub, Nat.reduceAdd, Nat.reduceMul, Nat.reduceLT, Nat.reduceLeDiff, Int.reduceNeg, Int.reduceAdd, Int.reduceSub, Int.reduceMul, UInt8.reduceToNat, hsq]))
    refine wp_loopS (σ := Nat) (by kernel_rfl) (fun i => [(4, .slice ⟨false, B, 0⟩ m (.known m)), (16, .int .i64 (m : Nat)), (17, .int .i64 (i : Nat))]) (fun i H' => i ≤ m ∧ NewRows H H' B ws (idPart m i)) (fun i => m - i) (0) (by simp (maxSteps := 4000000) (disch := first | omega | (simp only [push_n, set_n, clr_n, also_n, List.length_replicate, List.length_set, List.length_map, List.length_append, List.length_take, List.length_drop, List.length_cons, List.length_nil]; first | done | omega) | (with_reducible decide)) only [go_sem, Int.reduceEq, Int.reduceNe, Int.reduceLT, Int.reduceLE, Nat.reduceEqDiff, Int.reduceToNat, Nat.reduceSub, Nat.reduceAdd, Nat.reduceMul, Nat.reduceLT, Nat.reduceLeDiff, Int.reduceNeg, Int.reduceAdd, Int.reduceSub, Int.reduceMul, UInt8.reduceToNat]) ?_ ?_
    · refine ⟨by omega, ?_⟩
      simpa [idPart] using hnr
    rintro i H2 ⟨hi, hp⟩
    by_cases hil : i < m
    · have ho := hp.own
      have hl := idPart_len hi
      have hrows := ho.isRows (c := .known m) (by rw [hl]; simp [okSl])
      rw [hl] at hrows
      have hix := hrows.ix (P := Try.prog) Try.underlying25 sz40 (k := .i64) (i := (i : Int)) (by omega) (by omega)
      have hld := hrows.ld (i := i) (by omega)
      obtain ⟨b, c, e⟩ := ho.own i (by omega)
      rw [idPart_row hil] at e
      have hb := ho.each i (by omega)
      rw [e] at hb hld
      have hix2 := hb.ixS (P := Try.prog) (t := 40) Try.underlying40 sz5 (k := .i64) (i := i) (by rw [idPart_row hil]; omega)
      rw [Nat.zero_add] at hix2
      obtain ⟨l0, c1, c2, c3, c4⟩ := ho.cell (i := i) (j := i) (by omega) (by rw [idPart_row hil]; omega)
      have eb : bn (ws.getD i .unk) = b := by rw [e]; rfl
      rw [eb] at c1 c4
      have c5 := c4 1
      rw [idPart_set hil] at c5
      (try simp (maxSteps := 4000000) (disch := first | omega | (simp only [push_n, set_n, clr_n, also_n, List.length_replicate, List.length_set, List.length_map, List.length_append, List.length_take, List.length_drop, List.length_cons, List.length_nil]; first | done | omega) | (with_reducible decide)) only [go_sem, Int.reduceEq, Int.reduceNe, Int.reduceLT, Int.reduceLE, Nat.reduceEqDiff, Int.reduceToNat, Nat.reduceSub, Nat.reduceAdd, Nat.reduceMul, Nat.reduceLT, Nat.reduceLeDiff, Int.reduceNeg, Int.reduceAdd, Int.reduceSub, Int.reduceMul, UInt8.reduceToNat, hix, hld, hix2, c1]; repeat first | ((first | with_reducible refine split2_pk (by omega) ?_ | with_reducible refine split2_nk (by omega) ?_); intro hsq; try simp (maxSteps := 4000000) (disch := first | omega | (simp only [push_n, set_n, clr_n, also_n, List.length_replicate, List.length_set, List.length_map, List.length_append, List.length_take, List.length_drop, List.length_cons, List.length_nil]; first | done | omega) | (with_reducible decide)) only [go_sem, Int.reduceEq, Int.reduceNe, Int.reduceLT, Int.reduceLE, Nat.reduceEqDiff, Int.reduceToNat, Nat.reduceSub, Nat.reduceAdd, Nat.reduceMul, Nat.reduceLT, Nat.reduceLeDiff, Int.reduceNeg, Int.reduceAdd, Int.reduceSub, Int.reduceMul, UInt8.reduceToNat, hix, hld, hix2, c1, hsq]))
      (refine ⟨i + 1, ?_⟩; and_intros; all_goals (try first | rfl | assumption | omega))
      exact hp.chg (Chg.set _ b _ (S := [b]) (by simp)) (fun b' hb' => by have := List.mem_singleton.1 hb'; subst this; rw [← eb]; exact bn_mem (by rw [ho.len]; omega)) (fun _ h => h) c5
    · obtain rfl : i = m := by omega
      (try simp (maxSteps := 4000000) (disch := first | omega | (simp only [push_n, set_n, clr_n, also_n, List.length_replicate, List.length_set, List.length_map, List.length_append, List.length_take, List.length_drop, List.length_cons, List.length_nil]; first | done | omega) | (with_reducible decide)) only [go_sem, Int.reduceEq, Int.reduceNe, Int.reduceLT, Int.reduceLE, Nat.reduceEqDiff, Int.reduceToNat, Nat.reduceSub, Nat.reduceAdd, Nat.reduceMul, Nat.reduceLT, Nat.reduceLeDiff, Int.reduceNeg, Int.reduceAdd, Int.reduceSub, Int.reduceMul, UInt8.reduceToNat]; repeat first | ((first | with_reducible refine split2_pk (by omega) ?_ | with_reducible refine split2_nk (by omega) ?_); intro hsq; try simp (maxSteps := 4000000) (disch := first | omega | (simp only [push_n, set_n, clr_n, also_n, List.length_replicate, List.length_set, List.length_map, List.length_append, List.length_take, List.length_drop, List.length_cons, List.length_nil]; first | done | omega) | (with_reducible decide)) only [go_sem, Int.reduceEq, Int.reduceNe, Int.reduceLT, Int.reduceLE, Nat.reduceEqDiff, Int.reduceToNat, Nat.reduceSub, Nat.reduceAdd, Nat.reduceMul, Nat.reduceLT, Nat.reduceLeDiff, Int.reduceNeg, Int.reduceAdd, Int.reduceSub, Int.reduceMul, UInt8.reduceToNat, hsq]))
      rw [idRes, if_pos h]
      refine ⟨B, ws, rfl, ?_⟩
      have : idPart i i = idRows i := mix_end _ _ (by rw [idRows_len]; omega) (by rw [zRows_len]; omega)
      rw [this] at hp
      exact hp
  · have : ¬ (1 ≤ n ∧ n ≤ 255) := h
    (try simp (maxSteps := 4000000) (disch := first | omega | (simp only [push_n, set_n, clr_n, also_n, List.length_replicate, List.length_set, List.length_map, List.length_append, List.length_take, List.length_drop, List.length_cons, List.length_nil]; first | done | omega) | (with_reducible decide)) only [go_sem, Int.reduceEq, Int.reduceNe, Int.reduceLT, Int.reduceLE, Nat.reduceEqDiff, Int.reduceToNat, Nat.reduceSub, Nat.reduceAdd, Nat.reduceMul, Nat.reduceLT, Nat.reduceLeDiff, Int.reduceNeg, Int.reduceAdd, Int.reduceSub, Int.reduceMul, UInt8.reduceToNat]; repeat' first | ((first | with_reducible refine split2_pk (by omega) ?_ | with_reducible refine split2_nk (by omega) ?_); intro hsq; try simp (maxSteps := 4000000) (disch := first | omega | (simp only [push_n, set_n, clr_n, also_n, List.length_replicate, List.length_set, List.length_map, List.length_append, List.length_take, List.length_drop, List.length_cons, List.length_nil]; first | done | omega) | (with_reducible decide)) only [go_sem, Int.reduceEq, Int.reduceNe, Int.reduceLT, Int.reduceLE, Nat.reduceEqDiff, Int.reduceToNat, Nat.reduceSub, Nat.reduceAdd, Nat.reduceMul, Nat.reduceLT, Nat.reduceLeDiff, Int.reduceNeg, Int.reduceAdd, Int.reduceSub, Int.reduceMul, UInt8.reduceToNat, hsq]) | (with_reducible refine split2_ik ?_ ?_ <;> intro hsp hsq <;> try simp (maxSteps := 4000000) (disch := first | omega | (simp only [push_n, set_n, clr_n, also_n, List.length_replicate, List.length_set, List.length_map, List.length_append, List.length_take, List.length_drop, List.length_cons, List.length_nil]; first | done | omega) | (with_reducible decide)) only [go_sem, Int.reduceEq, Int.reduceNe, Int.reduceLT, Int.reduceLE, Nat.reduceEqDiff, Int.reduceToNat, Nat.reduceSub, Nat.reduceAdd, Nat.reduceMul, Nat.reduceLT, Nat.reduceLeDiff, Int.reduceNeg, Int.reduceAdd, Int.reduceSub, Int.reduceMul, UInt8.reduceToNat, hsq]))
    all_goals first
      | omega
      | (rw [idRes, if_neg h]; exact ⟨rfl, rfl⟩)
end Go.Proofs.Ytbpojmneffngoaa
