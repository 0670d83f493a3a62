/- MatrixDoes. -/
import Derived.Test.YtojeggahjmjnpaaMWz
namespace Go.Proofs.Ytojeggahjmjnpaa
open Go Go.Abs Go.Abs.GF
set_option linter.unusedVariables false
set_option linter.unusedSimpArgs false
set_option maxHeartbeats 4000000
attribute [local irreducible] ASpec AWp WP AOps DOps

/-- A matrix that was answered: nil, or in blocks of its own. -/
def AnsK (K : AH) (v : AV) (R : Rows8) (S : List Nat) : Prop :=
  (v = .nilslice ∧ R = [] ∧ S = []) ∨ ∃ B ws c, v = .slice ⟨false, B, 0⟩ R.length c ∧ okSl 1 (.slice ⟨false, B, 0⟩ R.length c) = true ∧ OwnRows K B ws R ∧ S = blks B ws
theorem AnsK.grew {K K' : AH} {v : AV} {R : Rows8} {S : List Nat} (h : AnsK K v R S) (g : Grew K K') : AnsK K' v R S := by
  rcases h with h | ⟨B, ws, c, h1, h2, h3, h4⟩
  · exact .inl h
  · exact .inr ⟨B, ws, c, h1, h2, h3.grew g, h4⟩
theorem AnsK.chg {K K' : AH} {v : AV} {R : Rows8} {S S' : List Nat} (h : AnsK K v R S) (k : Chg S' K K') (hd : ∀ b ∈ S, b ∉ S') : AnsK K' v R S := by
  rcases h with h | ⟨B, ws, c, h1, h2, h3, h4⟩
  · exact .inl h
  · exact .inr ⟨B, ws, c, h1, h2, h3.chg k (by rw [← h4]; exact hd), h4⟩
theorem AnsK.lt {K : AH} {v : AV} {R : Rows8} {S : List Nat} (h : AnsK K v R S) : ∀ b ∈ S, b < K.n := by
  rcases h with ⟨_, _, rfl⟩ | ⟨B, ws, c, h1, h2, h3, rfl⟩
  · intro b hb; cases hb
  · exact h3.lt
theorem AnsK.rows {K : AH} {v : AV} {R : Rows8} {S : List Nat} (h : AnsK K v R S) : ∃ ws, IsRows K v ws R := by
  rcases h with ⟨rfl, rfl, _⟩ | ⟨B, ws, c, rfl, h2, h3, h4⟩
  · exact ⟨[], nil_rows K⟩
  · exact ⟨ws, h3.isRows h2⟩
theorem ans_new {H K : AH} {B : Nat} {ws : List AV} {R : Rows8} {c : Cap} (h : NewRows H K B ws R) (hc : okSl 1 (.slice ⟨false, B, 0⟩ R.length c) = true) :
    AnsK K (.slice ⟨false, B, 0⟩ R.length c) R (blks B ws) := .inr ⟨B, ws, c, rfl, hc, h.own, rfl⟩

theorem mulRes.ans {H : AH} {a b : Rows8} {k : Bool} {r : AV} {H' : AH} (h : mulRes H a b k r H') : ∃ v S, r = .tup [v, .int .i64 (if mayM a ∧ mayM b ∧ (a.getD 0 []).length = b.length then 0 else 1)] ∧ AnsK H' v (if mayM a ∧ mayM b ∧ (a.getD 0 []).length = b.length then mulRows a b else []) S ∧ (∀ b ∈ S, H.n ≤ b) ∧ Grew H H' := by
  unfold mulRes at h
  split at h
  · rename_i hk
    obtain ⟨B, ws, rfl, n⟩ := h
    rw [if_pos hk, if_pos hk]
    refine ⟨_, blks B ws, rfl, ?_, n.new, n.g⟩
    have := ans_new n (c := if k then .known a.length else .grow 1) (by cases k <;> simp [okSl, mulRows_len])
    rwa [mulRows_len] at this
  · rename_i hk
    obtain ⟨rfl, rfl⟩ := h
    rw [if_neg hk, if_neg hk]
    exact ⟨_, [], rfl, .inl ⟨rfl, rfl, rfl⟩, (fun b hb => by cases hb), Grew.refl _⟩
theorem rowsRes.ans {H : AH} {a : Rows8} {l : List Int} {r : AV} {H' : AH} (h : rowsRes H a l r H') : ∃ v S, r = .tup [v, .int .i64 (if rowsOk a l then 0 else 1)] ∧ AnsK H' v (if rowsOk a l then pickRows a l else []) S ∧ (∀ b ∈ S, H.n ≤ b) ∧ Grew H H' := by
  unfold rowsRes at h
  split at h
  · rename_i hk
    obtain ⟨B, ws, rfl, n⟩ := h
    rw [if_pos hk, if_pos hk]
    refine ⟨_, blks B ws, rfl, ?_, n.new, n.g⟩
    have := ans_new n (c := .grow 1) rfl
    rwa [show (pickRows a l).length = l.length by simp [pickRows]] at this
  · rename_i hk
    obtain ⟨rfl, g⟩ := h
    rw [if_neg hk, if_neg hk]
    exact ⟨_, [], rfl, .inl ⟨rfl, rfl, rfl⟩, (fun b hb => by cases hb), g⟩
/-- What an inverse is. -/
def InvIs (M : Rows8) (e : Int) (R : Rows8) : Prop := (sq M ∧ e = 0 ∧ IsInv M.length M R) ∨ (sq M ∧ e = 22 ∧ R = [] ∧ Singular M.length M) ∨ (¬ sq M ∧ e = 1 ∧ R = [])
theorem InvIs.unique {M : Rows8} {e e' : Int} {R R' : Rows8} (h : InvIs M e R) (h' : InvIs M e' R') : e = e' ∧ R = R' := by
  rcases h with ⟨h1, rfl, h2⟩ | ⟨h1, rfl, rfl, h2⟩ | ⟨h1, rfl, rfl⟩ <;> rcases h' with ⟨k1, rfl, k2⟩ | ⟨k1, rfl, rfl, k2⟩ | ⟨k1, rfl, rfl⟩
  · exact ⟨rfl, h2.unique k2⟩
  · exact (h2.not_singular k2).elim
  · exact absurd h1 k1
  · exact (k2.not_singular h2).elim
  · exact ⟨rfl, rfl⟩
  · exact absurd h1 k1
  · exact absurd k1 h1
  · exact absurd k1 h1
  · exact ⟨rfl, rfl⟩
theorem InvIs.small {M : Rows8} {e : Int} {R : Rows8} (h : InvIs M e R) : R.length ≤ 255 ∧ ∀ i, i < R.length → (R.getD i []).length ≤ 255 := by
  rcases h with ⟨h1, rfl, h2⟩ | ⟨h1, rfl, rfl, h2⟩ | ⟨h1, rfl, rfl⟩
  · have := h2.sb.1
    have h3 := h1.1.2.1
    exact ⟨by omega, fun i hi => by rw [h2.sb.2 i (by omega)]; exact h3⟩
  · exact ⟨by simp, fun i hi => by simp at hi⟩
  · exact ⟨by simp, fun i hi => by simp at hi⟩
theorem invRes'.ans {H : AH} {M : Rows8} {k : Bool} {r : AV} {H' : AH} (h : invRes' H M k r H') : ∃ v S e R, r = .tup [v, .int .i64 e] ∧ InvIs M e R ∧ AnsK H' v R S ∧ (∀ b ∈ S, H.n ≤ b) ∧ Grew H H' := by
  unfold invRes' at h
  split at h
  · rename_i hk
    rcases h with ⟨B, ws, X, rfl, n, hX⟩ | ⟨rfl, hs, g⟩
    · refine ⟨_, blks B ws, 0, X, rfl, .inl ⟨hk, rfl, hX⟩, ?_, n.new, n.g⟩
      have := ans_new n (c := if k then .known M.length else .grow 1) (by cases k <;> simp [okSl, hX.sb.1])
      rwa [hX.sb.1] at this
    · exact ⟨_, [], 22, [], rfl, .inr (.inl ⟨hk, rfl, rfl, hs⟩), .inl ⟨rfl, rfl, rfl⟩, (fun b hb => by cases hb), g⟩
  · rename_i hk
    obtain ⟨rfl, g⟩ := h
    exact ⟨_, [], 1, [], rfl, .inr (.inr ⟨hk, rfl, rfl⟩), .inl ⟨rfl, rfl, rfl⟩, (fun b hb => by cases hb), g⟩
theorem spoil_ans (K : AH) (v : AV) (R : Rows8) (S : List Nat) (h : AnsK K v R S) (hs : R.length ≤ 255 ∧ ∀ i, i < R.length → (R.getD i []).length ≤ 255) : ASpec Try.prog 23 [v] K fun r K' => r = .tup [] ∧ Chg S K K' := by
  rcases h with ⟨rfl, rfl, rfl⟩ | ⟨B, ws, c, rfl, h2, h3, rfl⟩
  · exact (spoil_nil K).mono fun r K' ⟨h1, h2⟩ => ⟨h1, by rw [h2]; exact Chg.refl _ _⟩
  · exact spoil_spec K B c ws R h3 h2 hs.1 hs.2
theorem mulR_small {a b : Rows8} : ((if mayM a ∧ mayM b ∧ (a.getD 0 []).length = b.length then mulRows a b else []) : Rows8).length ≤ 255 ∧ ∀ i, i < ((if mayM a ∧ mayM b ∧ (a.getD 0 []).length = b.length then mulRows a b else []) : Rows8).length → (((if mayM a ∧ mayM b ∧ (a.getD 0 []).length = b.length then mulRows a b else []) : Rows8).getD i []).length ≤ 255 := by
  split
  · rename_i h
    have s := mulRows_shape a b
    exact ⟨by rw [s.1]; exact h.1.2.1, fun i hi => by rw [s.2 i (by rw [← s.1]; exact hi)]; exact h.2.1.2.2.2.1⟩
  · exact ⟨by simp, fun i hi => by simp at hi⟩
theorem rowsR_small {a : Rows8} {l : List Int} : ((if rowsOk a l then pickRows a l else []) : Rows8).length ≤ 255 ∧ ∀ i, i < ((if rowsOk a l then pickRows a l else []) : Rows8).length → (((if rowsOk a l then pickRows a l else []) : Rows8).getD i []).length ≤ 255 := by
  split
  · rename_i h
    have hl : (pickRows a l).length = l.length := by simp [pickRows]
    refine ⟨by rw [hl]; exact h.2.2.1, fun i hi => ?_⟩
    rw [hl] at hi
    rw [pickRows_get hi]
    have := h.2.2.2 i hi
    rw [h.1.2.2.2.2 _ (by omega)]
    exact h.1.2.2.2.1
  · exact ⟨by simp, fun i hi => by simp at hi⟩

theorem matrixDoes_abs (H : AH) (av : AV) (f1 : Nat) (D1 : Dat Try.prog H f1 22 [av]) (bv' : AV) (f2 : Nat) (D2 : Dat Try.prog H f2 22 [bv']) (lv : AV) (f3 : Nat) (D3 : Dat Try.prog H f3 38 [lv]) :
    ASpec Try.prog 5 [av, bv', lv] H fun r _ => r = .bool true := by
  obtain ⟨v, vs, a, e, ha, hal, har⟩ := D1.rows Try.underlying22 sz35 by35 Try.underlying35 Try.underlying5 sz5 by5
  obtain rfl : av = v := by simpa using e
  obtain ⟨w, us, b, e2, hb, hbl, hbr⟩ := D2.rows Try.underlying22 sz35 by35 Try.underlying35 Try.underlying5 sz5 by5
  obtain rfl : bv' = w := by simpa using e2
  obtain ⟨lv', l, e3, hl, hll, hlr⟩ := D3.ints Try.underlying38 sz3 by3 Try.underlying3
  obtain rfl : lv = lv' := by simpa using e3
  clear D1 D2 D3 e e2 e3
  have hlen := hl.lenA (P := Try.prog) Try.underlying38
  refine aspec_in (rs := [.tmp 6]) (n := 157) Try.func5 rfl rfl rfl rfl (Nat.le_of_ble_eq_true rfl) ?_
  (refine wp_mid (σ := AV × AV × AV) 5 (by kernel_rfl) (fun (x, y, zv) => [(0, av), (1, bv'), (2, lv), (7, x), (8, y), (9, zv)]) (fun (x, y, zv) H' => Grew H H' ∧ (∃ xs, IsRows H' x xs a) ∧ (∃ ys, IsRows H' y ys b) ∧ IsInts H' zv l) ?_ ?_; rotate_left; simp only [restC]; rotate_left; simp only [headN])
  · (try simp (maxSteps := 4000000) (disch := first | omega | (simp only [push_n, set_n, clr_n, also_n, List.length_replicate, List.length_set, List.length_map, List.length_append, List.length_take, List.length_drop, List.length_cons, List.length_nil]; first | done | omega) | (with_reducible decide)) only [go_sem, Int.reduceEq, Int.reduceNe, Int.reduceLT, Int.reduceLE, Nat.reduceEqDiff, Int.reduceToNat, Nat.reduceSub, Nat.reduceAdd, Nat.reduceMul, Nat.reduceLT, Nat.reduceLeDiff, Int.reduceNeg, Int.reduceAdd, Int.reduceSub, Int.reduceMul, UInt8.reduceToNat]; repeat first | ((first | with_reducible refine split2_pk (by omega) ?_ | with_reducible refine split2_nk (by omega) ?_); intro hsq; try simp (maxSteps := 4000000) (disch := first | omega | (simp only [push_n, set_n, clr_n, also_n, List.length_replicate, List.length_set, List.length_map, List.length_append, List.length_take, List.length_drop, List.length_cons, List.length_nil]; first | done | omega) | (with_reducible decide)) only [go_sem, Int.reduceEq, Int.reduceNe, Int.reduceLT, Int.reduceLE, Nat.reduceEqDiff, Int.reduceToNat, Nat.reduceSub, Nat.reduceAdd, Nat.reduceMul, Nat.reduceLT, Nat.reduceLeDiff, Int.reduceNeg, Int.reduceAdd, Int.reduceSub, Int.reduceMul, UInt8.reduceToNat, hsq]))
    refine (awake_spec H).mono ?_
    rintro r H1 ⟨rfl, g1⟩
    (try simp (maxSteps := 4000000) (disch := first | omega | (simp only [push_n, set_n, clr_n, also_n, List.length_replicate, List.length_set, List.length_map, List.length_append, List.length_take, List.length_drop, List.length_cons, List.length_nil]; first | done | omega) | (with_reducible decide)) only [go_sem, Int.reduceEq, Int.reduceNe, Int.reduceLT, Int.reduceLE, Nat.reduceEqDiff, Int.reduceToNat, Nat.reduceSub, Nat.reduceAdd, Nat.reduceMul, Nat.reduceLT, Nat.reduceLeDiff, Int.reduceNeg, Int.reduceAdd, Int.reduceSub, Int.reduceMul, UInt8.reduceToNat]; repeat first | ((first | with_reducible refine split2_pk (by omega) ?_ | with_reducible refine split2_nk (by omega) ?_); intro hsq; try simp (maxSteps := 4000000) (disch := first | omega | (simp only [push_n, set_n, clr_n, also_n, List.length_replicate, List.length_set, List.length_map, List.length_append, List.length_take, List.length_drop, List.length_cons, List.length_nil]; first | done | omega) | (with_reducible decide)) only [go_sem, Int.reduceEq, Int.reduceNe, Int.reduceLT, Int.reduceLE, Nat.reduceEqDiff, Int.reduceToNat, Nat.reduceSub, Nat.reduceAdd, Nat.reduceMul, Nat.reduceLT, Nat.reduceLeDiff, Int.reduceNeg, Int.reduceAdd, Int.reduceSub, Int.reduceMul, UInt8.reduceToNat, hsq]))
    refine (great_spec H1 _ _ a (ha.grew g1) hal).mono ?_
    rintro r H2 ⟨⟨t, rfl⟩, rfl⟩
    cases t with
    | true =>
      (try simp (maxSteps := 4000000) (disch := first | omega | (simp only [push_n, set_n, clr_n, also_n, List.length_replicate, List.length_set, List.length_map, List.length_append, List.length_take, List.length_drop, List.length_cons, List.length_nil]; first | done | omega) | (with_reducible decide)) only [go_sem, Int.reduceEq, Int.reduceNe, Int.reduceLT, Int.reduceLE, Nat.reduceEqDiff, Int.reduceToNat, Nat.reduceSub, Nat.reduceAdd, Nat.reduceMul, Nat.reduceLT, Nat.reduceLeDiff, Int.reduceNeg, Int.reduceAdd, Int.reduceSub, Int.reduceMul, UInt8.reduceToNat, hlen]; repeat first | ((first | with_reducible refine split2_pk (by omega) ?_ | with_reducible refine split2_nk (by omega) ?_); intro hsq; try simp (maxSteps := 4000000) (disch := first | omega | (simp only [push_n, set_n, clr_n, also_n, List.length_replicate, List.length_set, List.length_map, List.length_append, List.length_take, List.length_drop, List.length_cons, List.length_nil]; first | done | omega) | (with_reducible decide)) only [go_sem, Int.reduceEq, Int.reduceNe, Int.reduceLT, Int.reduceLE, Nat.reduceEqDiff, Int.reduceToNat, Nat.reduceSub, Nat.reduceAdd, Nat.reduceMul, Nat.reduceLT, Nat.reduceLeDiff, Int.reduceNeg, Int.reduceAdd, Int.reduceSub, Int.reduceMul, UInt8.reduceToNat, hlen, hsq]))
    | false =>
      (try simp (maxSteps := 4000000) (disch := first | omega | (simp only [push_n, set_n, clr_n, also_n, List.length_replicate, List.length_set, List.length_map, List.length_append, List.length_take, List.length_drop, List.length_cons, List.length_nil]; first | done | omega) | (with_reducible decide)) only [go_sem, Int.reduceEq, Int.reduceNe, Int.reduceLT, Int.reduceLE, Nat.reduceEqDiff, Int.reduceToNat, Nat.reduceSub, Nat.reduceAdd, Nat.reduceMul, Nat.reduceLT, Nat.reduceLeDiff, Int.reduceNeg, Int.reduceAdd, Int.reduceSub, Int.reduceMul, UInt8.reduceToNat]; repeat first | ((first | with_reducible refine split2_pk (by omega) ?_ | with_reducible refine split2_nk (by omega) ?_); intro hsq; try simp (maxSteps := 4000000) (disch := first | omega | (simp only [push_n, set_n, clr_n, also_n, List.length_replicate, List.length_set, List.length_map, List.length_append, List.length_take, List.length_drop, List.length_cons, List.length_nil]; first | done | omega) | (with_reducible decide)) only [go_sem, Int.reduceEq, Int.reduceNe, Int.reduceLT, Int.reduceLE, Nat.reduceEqDiff, Int.reduceToNat, Nat.reduceSub, Nat.reduceAdd, Nat.reduceMul, Nat.reduceLT, Nat.reduceLeDiff, Int.reduceNeg, Int.reduceAdd, Int.reduceSub, Int.reduceMul, UInt8.reduceToNat, hsq]))
      refine (great_spec H2 _ _ b (hb.grew g1) hbl).mono ?_
      rintro r H3 ⟨⟨t, rfl⟩, rfl⟩
      cases t with
      | true => (try simp (maxSteps := 4000000) (disch := first | omega | (simp only [push_n, set_n, clr_n, also_n, List.length_replicate, List.length_set, List.length_map, List.length_append, List.length_take, List.length_drop, List.length_cons, List.length_nil]; first | done | omega) | (with_reducible decide)) only [go_sem, Int.reduceEq, Int.reduceNe, Int.reduceLT, Int.reduceLE, Nat.reduceEqDiff, Int.reduceToNat, Nat.reduceSub, Nat.reduceAdd, Nat.reduceMul, Nat.reduceLT, Nat.reduceLeDiff, Int.reduceNeg, Int.reduceAdd, Int.reduceSub, Int.reduceMul, UInt8.reduceToNat, hlen]; repeat first | ((first | with_reducible refine split2_pk (by omega) ?_ | with_reducible refine split2_nk (by omega) ?_); intro hsq; try simp (maxSteps := 4000000) (disch := first | omega | (simp only [push_n, set_n, clr_n, also_n, List.length_replicate, List.length_set, List.length_map, List.length_append, List.length_take, List.length_drop, List.length_cons, List.length_nil]; first | done | omega) | (with_reducible decide)) only [go_sem, Int.reduceEq, Int.reduceNe, Int.reduceLT, Int.reduceLE, Nat.reduceEqDiff, Int.reduceToNat, Nat.reduceSub, Nat.reduceAdd, Nat.reduceMul, Nat.reduceLT, Nat.reduceLeDiff, Int.reduceNeg, Int.reduceAdd, Int.reduceSub, Int.reduceMul, UInt8.reduceToNat, hlen, hsq]))
      | false =>
        (try simp (maxSteps := 4000000) (disch := first | omega | (simp only [push_n, set_n, clr_n, also_n, List.length_replicate, List.length_set, List.length_map, List.length_append, List.length_take, List.length_drop, List.length_cons, List.length_nil]; first | done | omega) | (with_reducible decide)) only [go_sem, Int.reduceEq, Int.reduceNe, Int.reduceLT, Int.reduceLE, Nat.reduceEqDiff, Int.reduceToNat, Nat.reduceSub, Nat.reduceAdd, Nat.reduceMul, Nat.reduceLT, Nat.reduceLeDiff, Int.reduceNeg, Int.reduceAdd, Int.reduceSub, Int.reduceMul, UInt8.reduceToNat, hlen]; repeat first | ((first | with_reducible refine split2_pk (by omega) ?_ | with_reducible refine split2_nk (by omega) ?_); intro hsq; try simp (maxSteps := 4000000) (disch := first | omega | (simp only [push_n, set_n, clr_n, also_n, List.length_replicate, List.length_set, List.length_map, List.length_append, List.length_take, List.length_drop, List.length_cons, List.length_nil]; first | done | omega) | (with_reducible decide)) only [go_sem, Int.reduceEq, Int.reduceNe, Int.reduceLT, Int.reduceLE, Nat.reduceEqDiff, Int.reduceToNat, Nat.reduceSub, Nat.reduceAdd, Nat.reduceMul, Nat.reduceLT, Nat.reduceLeDiff, Int.reduceNeg, Int.reduceAdd, Int.reduceSub, Int.reduceMul, UInt8.reduceToNat, hlen, hsq]))
        refine split2_ik (fun h h' => ?_) (fun h h' => ?_)
        · (try simp (maxSteps := 4000000) (disch := first | omega | (simp only [push_n, set_n, clr_n, also_n, List.length_replicate, List.length_set, List.length_map, List.length_append, List.length_take, List.length_drop, List.length_cons, List.length_nil]; first | done | omega) | (with_reducible decide)) only [go_sem, Int.reduceEq, Int.reduceNe, Int.reduceLT, Int.reduceLE, Nat.reduceEqDiff, Int.reduceToNat, Nat.reduceSub, Nat.reduceAdd, Nat.reduceMul, Nat.reduceLT, Nat.reduceLeDiff, Int.reduceNeg, Int.reduceAdd, Int.reduceSub, Int.reduceMul, UInt8.reduceToNat, h']; repeat first | ((first | with_reducible refine split2_pk (by omega) ?_ | with_reducible refine split2_nk (by omega) ?_); intro hsq; try simp (maxSteps := 4000000) (disch := first | omega | (simp only [push_n, set_n, clr_n, also_n, List.length_replicate, List.length_set, List.length_map, List.length_append, List.length_take, List.length_drop, List.length_cons, List.length_nil]; first | done | omega) | (with_reducible decide)) only [go_sem, Int.reduceEq, Int.reduceNe, Int.reduceLT, Int.reduceLE, Nat.reduceEqDiff, Int.reduceToNat, Nat.reduceSub, Nat.reduceAdd, Nat.reduceMul, Nat.reduceLT, Nat.reduceLeDiff, Int.reduceNeg, Int.reduceAdd, Int.reduceSub, Int.reduceMul, UInt8.reduceToNat, h', hsq]))
        (try simp (maxSteps := 4000000) (disch := first | omega | (simp only [push_n, set_n, clr_n, also_n, List.length_replicate, List.length_set, List.length_map, List.length_append, List.length_take, List.length_drop, List.length_cons, List.length_nil]; first | done | omega) | (with_reducible decide)) only [go_sem, Int.reduceEq, Int.reduceNe, Int.reduceLT, Int.reduceLE, Nat.reduceEqDiff, Int.reduceToNat, Nat.reduceSub, Nat.reduceAdd, Nat.reduceMul, Nat.reduceLT, Nat.reduceLeDiff, Int.reduceNeg, Int.reduceAdd, Int.reduceSub, Int.reduceMul, UInt8.reduceToNat, h']; repeat first | ((first | with_reducible refine split2_pk (by omega) ?_ | with_reducible refine split2_nk (by omega) ?_); intro hsq; try simp (maxSteps := 4000000) (disch := first | omega | (simp only [push_n, set_n, clr_n, also_n, List.length_replicate, List.length_set, List.length_map, List.length_append, List.length_take, List.length_drop, List.length_cons, List.length_nil]; first | done | omega) | (with_reducible decide)) only [go_sem, Int.reduceEq, Int.reduceNe, Int.reduceLT, Int.reduceLE, Nat.reduceEqDiff, Int.reduceToNat, Nat.reduceSub, Nat.reduceAdd, Nat.reduceMul, Nat.reduceLT, Nat.reduceLeDiff, Int.reduceNeg, Int.reduceAdd, Int.reduceSub, Int.reduceMul, UInt8.reduceToNat, h', hsq]))
        refine (copy_spec H3 _ _ a (ha.grew g1) hal har).mono ?_
        rintro x H4 ⟨xs, hx⟩
        have g4 := hx.acc.acc.g
        (try simp (maxSteps := 4000000) (disch := first | omega | (simp only [push_n, set_n, clr_n, also_n, List.length_replicate, List.length_set, List.length_map, List.length_append, List.length_take, List.length_drop, List.length_cons, List.length_nil]; first | done | omega) | (with_reducible decide)) only [go_sem, Int.reduceEq, Int.reduceNe, Int.reduceLT, Int.reduceLE, Nat.reduceEqDiff, Int.reduceToNat, Nat.reduceSub, Nat.reduceAdd, Nat.reduceMul, Nat.reduceLT, Nat.reduceLeDiff, Int.reduceNeg, Int.reduceAdd, Int.reduceSub, Int.reduceMul, UInt8.reduceToNat]; repeat first | ((first | with_reducible refine split2_pk (by omega) ?_ | with_reducible refine split2_nk (by omega) ?_); intro hsq; try simp (maxSteps := 4000000) (disch := first | omega | (simp only [push_n, set_n, clr_n, also_n, List.length_replicate, List.length_set, List.length_map, List.length_append, List.length_take, List.length_drop, List.length_cons, List.length_nil]; first | done | omega) | (with_reducible decide)) only [go_sem, Int.reduceEq, Int.reduceNe, Int.reduceLT, Int.reduceLE, Nat.reduceEqDiff, Int.reduceToNat, Nat.reduceSub, Nat.reduceAdd, Nat.reduceMul, Nat.reduceLT, Nat.reduceLeDiff, Int.reduceNeg, Int.reduceAdd, Int.reduceSub, Int.reduceMul, UInt8.reduceToNat, hsq]))
        refine (copy_spec H4 _ _ b ((hb.grew g1).grew g4) hbl hbr).mono ?_
        rintro y H5 ⟨ys, hy⟩
        have g5 := hy.acc.acc.g
        have hn := IsInts.newsI ((((hl.grew g1).grew g4).grew g5).grew (Grew.push H5 (some (.cells []))))
        (try simp (maxSteps := 4000000) (disch := first | omega | (simp only [push_n, set_n, clr_n, also_n, List.length_replicate, List.length_set, List.length_map, List.length_append, List.length_take, List.length_drop, List.length_cons, List.length_nil]; first | done | omega) | (with_reducible decide)) only [go_sem, Int.reduceEq, Int.reduceNe, Int.reduceLT, Int.reduceLE, Nat.reduceEqDiff, Int.reduceToNat, Nat.reduceSub, Nat.reduceAdd, Nat.reduceMul, Nat.reduceLT, Nat.reduceLeDiff, Int.reduceNeg, Int.reduceAdd, Int.reduceSub, Int.reduceMul, UInt8.reduceToNat, hn, all_one_ints]; repeat first | ((first | with_reducible refine split2_pk (by omega) ?_ | with_reducible refine split2_nk (by omega) ?_); intro hsq; try simp (maxSteps := 4000000) (disch := first | omega | (simp only [push_n, set_n, clr_n, also_n, List.length_replicate, List.length_set, List.length_map, List.length_append, List.length_take, List.length_drop, List.length_cons, List.length_nil]; first | done | omega) | (with_reducible decide)) only [go_sem, Int.reduceEq, Int.reduceNe, Int.reduceLT, Int.reduceLE, Nat.reduceEqDiff, Int.reduceToNat, Nat.reduceSub, Nat.reduceAdd, Nat.reduceMul, Nat.reduceLT, Nat.reduceLeDiff, Int.reduceNeg, Int.reduceAdd, Int.reduceSub, Int.reduceMul, UInt8.reduceToNat, hn, all_one_ints, hsq]))
        have g6 : Grew H5 ((H5.push (some (.cells []))).push (some (.cells (l.map (AV.int .i64))))) := (Grew.push _ _).trans (Grew.push _ _)
        exact ⟨(x, y, _), ⟨rfl, rfl, rfl⟩, ((g1.trans g4).trans g5).trans g6, ⟨xs, (hx.acc.rows.grew g5).grew g6⟩, ⟨ys, hy.acc.rows.grew g6⟩, row_whole (push_cells_at (by rw [push_n])) (by simp) _, rfl, rfl⟩
  rintro ⟨x, y, zv⟩ H1 ⟨g1, ⟨xs, hx⟩, ⟨ys, hy⟩, hz⟩
  have hx : IsRows H1 x xs a := hx
  have hy : IsRows H1 y ys b := hy
  have hz : IsInts H1 zv l := hz
  have ha := ha.grew g1
  have hb := hb.grew g1
  have hl : IsInts H1 lv l := hl.grew g1
  have hal' : a.length ≤ 140737488351232 := by omega
  have hbl' : b.length ≤ 140737488351232 := by omega
  clear g1
  (refine wp_mid (σ := AV × AV × AV × AV × AV × AV × Int) 6 (by kernel_rfl) (fun (p, q, r, s, t, u, e) => [(0, av), (1, bv'), (2, lv), (7, x), (8, y), (9, zv), (10, p), (11, .int .i64 (if mayM a ∧ mayM b ∧ (a.getD 0 []).length = b.length then 0 else 1)), (12, q), (13, .int .i64 (if mayM a ∧ mayM b ∧ (a.getD 0 []).length = b.length then 0 else 1)), (14, r), (15, .int .i64 e), (16, s), (17, .int .i64 e), (18, t), (19, .int .i64 (if rowsOk a l then 0 else 1)), (20, u), (21, .int .i64 (if rowsOk a l then 0 else 1))]) (fun (p, q, r, s, t, u, e) H' => ∃ R S1 S2 S3 T1 T2 T3, InvIs a e R ∧ AnsK H' p (if mayM a ∧ mayM b ∧ (a.getD 0 []).length = b.length then mulRows a b else []) S1 ∧ AnsK H' q (if mayM a ∧ mayM b ∧ (a.getD 0 []).length = b.length then mulRows a b else []) T1 ∧ AnsK H' r R S2 ∧ AnsK H' s R T2 ∧ AnsK H' t (if rowsOk a l then pickRows a l else []) S3 ∧ AnsK H' u (if rowsOk a l then pickRows a l else []) T3 ∧ Grew H1 H' ∧ (∀ b ∈ S1, H1.n ≤ b) ∧ (∀ b ∈ S2, H1.n ≤ b ∧ b ∉ S1) ∧ ∀ b ∈ S3, H1.n ≤ b ∧ b ∉ S1 ∧ b ∉ S2) ?_ ?_; rotate_left; simp only [restC]; rotate_left; simp only [headN])
  · (try simp (maxSteps := 4000000) (disch := first | omega | (simp only [push_n, set_n, clr_n, also_n, List.length_replicate, List.length_set, List.length_map, List.length_append, List.length_take, List.length_drop, List.length_cons, List.length_nil]; first | done | omega) | (with_reducible decide)) only [go_sem, Int.reduceEq, Int.reduceNe, Int.reduceLT, Int.reduceLE, Nat.reduceEqDiff, Int.reduceToNat, Nat.reduceSub, Nat.reduceAdd, Nat.reduceMul, Nat.reduceLT, Nat.reduceLeDiff, Int.reduceNeg, Int.reduceAdd, Int.reduceSub, Int.reduceMul, UInt8.reduceToNat]; repeat first | ((first | with_reducible refine split2_pk (by omega) ?_ | with_reducible refine split2_nk (by omega) ?_); intro hsq; try simp (maxSteps := 4000000) (disch := first | omega | (simp only [push_n, set_n, clr_n, also_n, List.length_replicate, List.length_set, List.length_map, List.length_append, List.length_take, List.length_drop, List.length_cons, List.length_nil]; first | done | omega) | (with_reducible decide)) only [go_sem, Int.reduceEq, Int.reduceNe, Int.reduceLT, Int.reduceLE, Nat.reduceEqDiff, Int.reduceToNat, Nat.reduceSub, Nat.reduceAdd, Nat.reduceMul, Nat.reduceLT, Nat.reduceLeDiff, Int.reduceNeg, Int.reduceAdd, Int.reduceSub, Int.reduceMul, UInt8.reduceToNat, hsq]))
    refine (mul_spec' H1 x y xs ys a b hx hy).mono ?_
    intro r H2 hr
    obtain ⟨p, S1, rfl, hp, n1, g2⟩ := hr.ans
    (try simp (maxSteps := 4000000) (disch := first | omega | (simp only [push_n, set_n, clr_n, also_n, List.length_replicate, List.length_set, List.length_map, List.length_append, List.length_take, List.length_drop, List.length_cons, List.length_nil]; first | done | omega) | (with_reducible decide)) only [go_sem, Int.reduceEq, Int.reduceNe, Int.reduceLT, Int.reduceLE, Nat.reduceEqDiff, Int.reduceToNat, Nat.reduceSub, Nat.reduceAdd, Nat.reduceMul, Nat.reduceLT, Nat.reduceLeDiff, Int.reduceNeg, Int.reduceAdd, Int.reduceSub, Int.reduceMul, UInt8.reduceToNat]; repeat first | ((first | with_reducible refine split2_pk (by omega) ?_ | with_reducible refine split2_nk (by omega) ?_); intro hsq; try simp (maxSteps := 4000000) (disch := first | omega | (simp only [push_n, set_n, clr_n, also_n, List.length_replicate, List.length_set, List.length_map, List.length_append, List.length_take, List.length_drop, List.length_cons, List.length_nil]; first | done | omega) | (with_reducible decide)) only [go_sem, Int.reduceEq, Int.reduceNe, Int.reduceLT, Int.reduceLE, Nat.reduceEqDiff, Int.reduceToNat, Nat.reduceSub, Nat.reduceAdd, Nat.reduceMul, Nat.reduceLT, Nat.reduceLeDiff, Int.reduceNeg, Int.reduceAdd, Int.reduceSub, Int.reduceMul, UInt8.reduceToNat, hsq]))
    refine (rmul_mat_spec H2 av bv' vs us a b (ha.grew g2) (hb.grew g2)).mono ?_
    intro r H3 hr
    obtain ⟨q, T1, rfl, hq, _, g3⟩ := hr.ans
    have G3 := g2.trans g3
    (try simp (maxSteps := 4000000) (disch := first | omega | (simp only [push_n, set_n, clr_n, also_n, List.length_replicate, List.length_set, List.length_map, List.length_append, List.length_take, List.length_drop, List.length_cons, List.length_nil]; first | done | omega) | (with_reducible decide)) only [go_sem, Int.reduceEq, Int.reduceNe, Int.reduceLT, Int.reduceLE, Nat.reduceEqDiff, Int.reduceToNat, Nat.reduceSub, Nat.reduceAdd, Nat.reduceMul, Nat.reduceLT, Nat.reduceLeDiff, Int.reduceNeg, Int.reduceAdd, Int.reduceSub, Int.reduceMul, UInt8.reduceToNat]; repeat first | ((first | with_reducible refine split2_pk (by omega) ?_ | with_reducible refine split2_nk (by omega) ?_); intro hsq; try simp (maxSteps := 4000000) (disch := first | omega | (simp only [push_n, set_n, clr_n, also_n, List.length_replicate, List.length_set, List.length_map, List.length_append, List.length_take, List.length_drop, List.length_cons, List.length_nil]; first | done | omega) | (with_reducible decide)) only [go_sem, Int.reduceEq, Int.reduceNe, Int.reduceLT, Int.reduceLE, Nat.reduceEqDiff, Int.reduceToNat, Nat.reduceSub, Nat.reduceAdd, Nat.reduceMul, Nat.reduceLT, Nat.reduceLeDiff, Int.reduceNeg, Int.reduceAdd, Int.reduceSub, Int.reduceMul, UInt8.reduceToNat, hsq]))
    refine (invert_spec H3 x xs a (hx.grew G3) hal).mono ?_
    intro r H4 hr
    obtain ⟨r', S2, e, R, rfl, hR, hr', n2, g4⟩ := hr.ans
    have G4 := G3.trans g4
    (try simp (maxSteps := 4000000) (disch := first | omega | (simp only [push_n, set_n, clr_n, also_n, List.length_replicate, List.length_set, List.length_map, List.length_append, List.length_take, List.length_drop, List.length_cons, List.length_nil]; first | done | omega) | (with_reducible decide)) only [go_sem, Int.reduceEq, Int.reduceNe, Int.reduceLT, Int.reduceLE, Nat.reduceEqDiff, Int.reduceToNat, Nat.reduceSub, Nat.reduceAdd, Nat.reduceMul, Nat.reduceLT, Nat.reduceLeDiff, Int.reduceNeg, Int.reduceAdd, Int.reduceSub, Int.reduceMul, UInt8.reduceToNat]; repeat first | ((first | with_reducible refine split2_pk (by omega) ?_ | with_reducible refine split2_nk (by omega) ?_); intro hsq; try simp (maxSteps := 4000000) (disch := first | omega | (simp only [push_n, set_n, clr_n, also_n, List.length_replicate, List.length_set, List.length_map, List.length_append, List.length_take, List.length_drop, List.length_cons, List.length_nil]; first | done | omega) | (with_reducible decide)) only [go_sem, Int.reduceEq, Int.reduceNe, Int.reduceLT, Int.reduceLE, Nat.reduceEqDiff, Int.reduceToNat, Nat.reduceSub, Nat.reduceAdd, Nat.reduceMul, Nat.reduceLT, Nat.reduceLeDiff, Int.reduceNeg, Int.reduceAdd, Int.reduceSub, Int.reduceMul, UInt8.reduceToNat, hsq]))
    refine (rinvert_spec H4 av vs a (ha.grew G4) hal).mono ?_
    intro r H5 hr
    obtain ⟨s', T2, e', R', rfl, hR', hs', _, g5⟩ := hr.ans
    obtain ⟨rfl, rfl⟩ := hR.unique hR'
    have G5 := G4.trans g5
    (try simp (maxSteps := 4000000) (disch := first | omega | (simp only [push_n, set_n, clr_n, also_n, List.length_replicate, List.length_set, List.length_map, List.length_append, List.length_take, List.length_drop, List.length_cons, List.length_nil]; first | done | omega) | (with_reducible decide)) only [go_sem, Int.reduceEq, Int.reduceNe, Int.reduceLT, Int.reduceLE, Nat.reduceEqDiff, Int.reduceToNat, Nat.reduceSub, Nat.reduceAdd, Nat.reduceMul, Nat.reduceLT, Nat.reduceLeDiff, Int.reduceNeg, Int.reduceAdd, Int.reduceSub, Int.reduceMul, UInt8.reduceToNat]; repeat first | ((first | with_reducible refine split2_pk (by omega) ?_ | with_reducible refine split2_nk (by omega) ?_); intro hsq; try simp (maxSteps := 4000000) (disch := first | omega | (simp only [push_n, set_n, clr_n, also_n, List.length_replicate, List.length_set, List.length_map, List.length_append, List.length_take, List.length_drop, List.length_cons, List.length_nil]; first | done | omega) | (with_reducible decide)) only [go_sem, Int.reduceEq, Int.reduceNe, Int.reduceLT, Int.reduceLE, Nat.reduceEqDiff, Int.reduceToNat, Nat.reduceSub, Nat.reduceAdd, Nat.reduceMul, Nat.reduceLT, Nat.reduceLeDiff, Int.reduceNeg, Int.reduceAdd, Int.reduceSub, Int.reduceMul, UInt8.reduceToNat, hsq]))
    refine (rows_spec H5 x zv xs a l (hx.grew G5) (hz.grew G5)).mono ?_
    intro r H6 hr
    obtain ⟨t', S3, rfl, ht, n3, g6⟩ := hr.ans
    have G6 := G5.trans g6
    (try simp (maxSteps := 4000000) (disch := first | omega | (simp only [push_n, set_n, clr_n, also_n, List.length_replicate, List.length_set, List.length_map, List.length_append, List.length_take, List.length_drop, List.length_cons, List.length_nil]; first | done | omega) | (with_reducible decide)) only [go_sem, Int.reduceEq, Int.reduceNe, Int.reduceLT, Int.reduceLE, Nat.reduceEqDiff, Int.reduceToNat, Nat.reduceSub, Nat.reduceAdd, Nat.reduceMul, Nat.reduceLT, Nat.reduceLeDiff, Int.reduceNeg, Int.reduceAdd, Int.reduceSub, Int.reduceMul, UInt8.reduceToNat]; repeat first | ((first | with_reducible refine split2_pk (by omega) ?_ | with_reducible refine split2_nk (by omega) ?_); intro hsq; try simp (maxSteps := 4000000) (disch := first | omega | (simp only [push_n, set_n, clr_n, also_n, List.length_replicate, List.length_set, List.length_map, List.length_append, List.length_take, List.length_drop, List.length_cons, List.length_nil]; first | done | omega) | (with_reducible decide)) only [go_sem, Int.reduceEq, Int.reduceNe, Int.reduceLT, Int.reduceLE, Nat.reduceEqDiff, Int.reduceToNat, Nat.reduceSub, Nat.reduceAdd, Nat.reduceMul, Nat.reduceLT, Nat.reduceLeDiff, Int.reduceNeg, Int.reduceAdd, Int.reduceSub, Int.reduceMul, UInt8.reduceToNat, hsq]))
    refine (rrows_spec H6 av lv vs a l (ha.grew G6) (hl.grew G6)).mono ?_
    intro r H7 hr
    obtain ⟨u', T3, rfl, hu, _, g7⟩ := hr.ans
    (try simp (maxSteps := 4000000) (disch := first | omega | (simp only [push_n, set_n, clr_n, also_n, List.length_replicate, List.length_set, List.length_map, List.length_append, List.length_take, List.length_drop, List.length_cons, List.length_nil]; first | done | omega) | (with_reducible decide)) only [go_sem, Int.reduceEq, Int.reduceNe, Int.reduceLT, Int.reduceLE, Nat.reduceEqDiff, Int.reduceToNat, Nat.reduceSub, Nat.reduceAdd, Nat.reduceMul, Nat.reduceLT, Nat.reduceLeDiff, Int.reduceNeg, Int.reduceAdd, Int.reduceSub, Int.reduceMul, UInt8.reduceToNat]; repeat first | ((first | with_reducible refine split2_pk (by omega) ?_ | with_reducible refine split2_nk (by omega) ?_); intro hsq; try simp (maxSteps := 4000000) (disch := first | omega | (simp only [push_n, set_n, clr_n, also_n, List.length_replicate, List.length_set, List.length_map, List.length_append, List.length_take, List.length_drop, List.length_cons, List.length_nil]; first | done | omega) | (with_reducible decide)) only [go_sem, Int.reduceEq, Int.reduceNe, Int.reduceLT, Int.reduceLE, Nat.reduceEqDiff, Int.reduceToNat, Nat.reduceSub, Nat.reduceAdd, Nat.reduceMul, Nat.reduceLT, Nat.reduceLeDiff, Int.reduceNeg, Int.reduceAdd, Int.reduceSub, Int.reduceMul, UInt8.reduceToNat, hsq]))
    have l1 := hp.lt
    have l2 := hr'.lt
    refine ⟨(p, q, r', s', t', u', e), ⟨rfl, rfl, rfl, rfl, rfl, rfl, rfl, rfl⟩, R, S1, S2, S3, T1, T2, T3, hR, (((((hp.grew g3).grew g4).grew g5).grew g6).grew g7), ((((hq.grew g4).grew g5).grew g6).grew g7), (((hr'.grew g5).grew g6).grew g7), ((hs'.grew g6).grew g7), ht.grew g7, hu, G6.trans g7, n1, fun b hb => ?_, fun b hb => ?_⟩
    · have := n2 b hb
      have := G3.n
      have := g3.n
      exact ⟨by omega, fun h => by have := l1 b h; omega⟩
    · have := n3 b hb
      have := G5.n
      have := g3.n
      have := g4.n
      have := g5.n
      exact ⟨by omega, fun h => by have := l1 b h; omega, fun h => by have := l2 b h; omega⟩
  rintro ⟨p, q, r, s, t, u, e⟩ H2 ⟨R, S1, S2, S3, T1, T2, T3, hR, hp, hq, hr, hs, ht, hu, g2, n1, n2, n3⟩
  have sm := hR.small
  have sp := mulR_small (a := a) (b := b)
  have st := rowsR_small (a := a) (l := l)
  generalize (if mayM a ∧ mayM b ∧ (a.getD 0 []).length = b.length then mulRows a b else []) = P at hp hq sp
  generalize (if rowsOk a l then pickRows a l else []) = T at ht hu st
  generalize ((if mayM a ∧ mayM b ∧ (a.getD 0 []).length = b.length then 0 else 1 : Int)) = e1
  generalize ((if rowsOk a l then 0 else 1 : Int)) = e2
  have hp : AnsK H2 p P S1 := hp
  have hr : AnsK H2 r R S2 := hr
  have ht : AnsK H2 t T S3 := ht
  obtain ⟨pw, hpw⟩ := hp.rows
  obtain ⟨qw, hqw⟩ := hq.rows
  obtain ⟨rw', hrw⟩ := hr.rows
  obtain ⟨sw, hsw⟩ := hs.rows
  obtain ⟨tw, htw⟩ := ht.rows
  obtain ⟨uw, huw⟩ := hu.rows
  have hx2 := hx.grew g2
  have hy2 := hy.grew g2
  have ha2 := ha.grew g2
  have hb2 := hb.grew g2
  (refine wp_mid (σ := Unit) 1 (by kernel_rfl) (fun z => [(0, av), (1, bv'), (2, lv), (7, x), (8, y), (9, zv), (10, p), (14, r), (18, t), (22, .bool true)]) (fun z H' => H' = H2) ?_ ?_; rotate_left; simp only [restC]; rotate_left; simp only [headN])
  · have s1 := rsame_spec H2 p q pw qw P P hpw hqw (by omega)
    have s2 := rsame_spec H2 r s rw' sw R R hrw hsw (by omega)
    have s3 := rsame_spec H2 t u tw uw T T htw huw (by omega)
    have s4 := may_spec H2 x xs a hx2
    have s5 := rmay_spec H2 av vs a ha2
    have s6 := same_spec H2 x y xs ys a b hx2 hy2 hal'
    have s7 := rsame_spec H2 av bv' vs us a b ha2 hb2 hal'
    rw [decide_eq_true rfl] at s1 s2 s3
    generalize decide (mayM a) = t1 at s4 s5
    generalize decide (a = b) = t2 at s6 s7
    (try simp (maxSteps := 4000000) (disch := first | omega | (simp only [push_n, set_n, clr_n, also_n, List.length_replicate, List.length_set, List.length_map, List.length_append, List.length_take, List.length_drop, List.length_cons, List.length_nil]; first | done | omega) | (with_reducible decide)) only [go_sem, Int.reduceEq, Int.reduceNe, Int.reduceLT, Int.reduceLE, Nat.reduceEqDiff, Int.reduceToNat, Nat.reduceSub, Nat.reduceAdd, Nat.reduceMul, Nat.reduceLT, Nat.reduceLeDiff, Int.reduceNeg, Int.reduceAdd, Int.reduceSub, Int.reduceMul, UInt8.reduceToNat]; repeat first | ((first | refine ASpec.eq (s1) ?_ | refine ASpec.eq (s2) ?_ | refine ASpec.eq (s3) ?_ | refine ASpec.eq (s4) ?_ | refine ASpec.eq (s5) ?_ | refine ASpec.eq (s6) ?_ | refine ASpec.eq (s7) ?_); try simp (maxSteps := 4000000) (disch := first | omega | (simp only [push_n, set_n, clr_n, also_n, List.length_replicate, List.length_set, List.length_map, List.length_append, List.length_take, List.length_drop, List.length_cons, List.length_nil]; first | done | omega) | (with_reducible decide)) only [go_sem, Int.reduceEq, Int.reduceNe, Int.reduceLT, Int.reduceLE, Nat.reduceEqDiff, Int.reduceToNat, Nat.reduceSub, Nat.reduceAdd, Nat.reduceMul, Nat.reduceLT, Nat.reduceLeDiff, Int.reduceNeg, Int.reduceAdd, Int.reduceSub, Int.reduceMul, UInt8.reduceToNat]) | ((first | with_reducible refine split2_pk (by omega) ?_ | with_reducible refine split2_nk (by omega) ?_); intro hsq; try simp (maxSteps := 4000000) (disch := first | omega | (simp only [push_n, set_n, clr_n, also_n, List.length_replicate, List.length_set, List.length_map, List.length_append, List.length_take, List.length_drop, List.length_cons, List.length_nil]; first | done | omega) | (with_reducible decide)) only [go_sem, Int.reduceEq, Int.reduceNe, Int.reduceLT, Int.reduceLE, Nat.reduceEqDiff, Int.reduceToNat, Nat.reduceSub, Nat.reduceAdd, Nat.reduceMul, Nat.reduceLT, Nat.reduceLeDiff, Int.reduceNeg, Int.reduceAdd, Int.reduceSub, Int.reduceMul, UInt8.reduceToNat, hsq]))
    exact ⟨(), trivial⟩
  rintro _ H3 rfl
  clear hq hs hu hpw hqw hrw hsw htw huw hx2 hy2 ha2 hb2 hR
  (refine wp_mid (σ := Unit) 3 (by kernel_rfl) (fun z => [(0, av), (1, bv'), (2, lv), (7, x), (8, y), (9, zv), (22, .bool true)]) (fun z H' => Grew H1 H') ?_ ?_; rotate_left; simp only [restC]; rotate_left; simp only [headN])
  · (try simp (maxSteps := 4000000) (disch := first | omega | (simp only [push_n, set_n, clr_n, also_n, List.length_replicate, List.length_set, List.length_map, List.length_append, List.length_take, List.length_drop, List.length_cons, List.length_nil]; first | done | omega) | (with_reducible decide)) only [go_sem, Int.reduceEq, Int.reduceNe, Int.reduceLT, Int.reduceLE, Nat.reduceEqDiff, Int.reduceToNat, Nat.reduceSub, Nat.reduceAdd, Nat.reduceMul, Nat.reduceLT, Nat.reduceLeDiff, Int.reduceNeg, Int.reduceAdd, Int.reduceSub, Int.reduceMul, UInt8.reduceToNat]; repeat first | ((first | with_reducible refine split2_pk (by omega) ?_ | with_reducible refine split2_nk (by omega) ?_); intro hsq; try simp (maxSteps := 4000000) (disch := first | omega | (simp only [push_n, set_n, clr_n, also_n, List.length_replicate, List.length_set, List.length_map, List.length_append, List.length_take, List.length_drop, List.length_cons, List.length_nil]; first | done | omega) | (with_reducible decide)) only [go_sem, Int.reduceEq, Int.reduceNe, Int.reduceLT, Int.reduceLE, Nat.reduceEqDiff, Int.reduceToNat, Nat.reduceSub, Nat.reduceAdd, Nat.reduceMul, Nat.reduceLT, Nat.reduceLeDiff, Int.reduceNeg, Int.reduceAdd, Int.reduceSub, Int.reduceMul, UInt8.reduceToNat, hsq]))
    refine (spoil_ans H3 p P S1 hp sp).mono ?_
    rintro r1 H4 ⟨rfl, c1⟩
    have hr4 := hr.chg c1 fun b hb => (n2 b hb).2
    have ht4 := ht.chg c1 fun b hb => (n3 b hb).2.1
    (try simp (maxSteps := 4000000) (disch := first | omega | (simp only [push_n, set_n, clr_n, also_n, List.length_replicate, List.length_set, List.length_map, List.length_append, List.length_take, List.length_drop, List.length_cons, List.length_nil]; first | done | omega) | (with_reducible decide)) only [go_sem, Int.reduceEq, Int.reduceNe, Int.reduceLT, Int.reduceLE, Nat.reduceEqDiff, Int.reduceToNat, Nat.reduceSub, Nat.reduceAdd, Nat.reduceMul, Nat.reduceLT, Nat.reduceLeDiff, Int.reduceNeg, Int.reduceAdd, Int.reduceSub, Int.reduceMul, UInt8.reduceToNat]; repeat first | ((first | with_reducible refine split2_pk (by omega) ?_ | with_reducible refine split2_nk (by omega) ?_); intro hsq; try simp (maxSteps := 4000000) (disch := first | omega | (simp only [push_n, set_n, clr_n, also_n, List.length_replicate, List.length_set, List.length_map, List.length_append, List.length_take, List.length_drop, List.length_cons, List.length_nil]; first | done | omega) | (with_reducible decide)) only [go_sem, Int.reduceEq, Int.reduceNe, Int.reduceLT, Int.reduceLE, Nat.reduceEqDiff, Int.reduceToNat, Nat.reduceSub, Nat.reduceAdd, Nat.reduceMul, Nat.reduceLT, Nat.reduceLeDiff, Int.reduceNeg, Int.reduceAdd, Int.reduceSub, Int.reduceMul, UInt8.reduceToNat, hsq]))
    refine (spoil_ans H4 r R S2 hr4 sm).mono ?_
    rintro r2 H5 ⟨rfl, c2⟩
    have ht5 := ht4.chg c2 fun b hb => (n3 b hb).2.2
    (try simp (maxSteps := 4000000) (disch := first | omega | (simp only [push_n, set_n, clr_n, also_n, List.length_replicate, List.length_set, List.length_map, List.length_append, List.length_take, List.length_drop, List.length_cons, List.length_nil]; first | done | omega) | (with_reducible decide)) only [go_sem, Int.reduceEq, Int.reduceNe, Int.reduceLT, Int.reduceLE, Nat.reduceEqDiff, Int.reduceToNat, Nat.reduceSub, Nat.reduceAdd, Nat.reduceMul, Nat.reduceLT, Nat.reduceLeDiff, Int.reduceNeg, Int.reduceAdd, Int.reduceSub, Int.reduceMul, UInt8.reduceToNat]; repeat first | ((first | with_reducible refine split2_pk (by omega) ?_ | with_reducible refine split2_nk (by omega) ?_); intro hsq; try simp (maxSteps := 4000000) (disch := first | omega | (simp only [push_n, set_n, clr_n, also_n, List.length_replicate, List.length_set, List.length_map, List.length_append, List.length_take, List.length_drop, List.length_cons, List.length_nil]; first | done | omega) | (with_reducible decide)) only [go_sem, Int.reduceEq, Int.reduceNe, Int.reduceLT, Int.reduceLE, Nat.reduceEqDiff, Int.reduceToNat, Nat.reduceSub, Nat.reduceAdd, Nat.reduceMul, Nat.reduceLT, Nat.reduceLeDiff, Int.reduceNeg, Int.reduceAdd, Int.reduceSub, Int.reduceMul, UInt8.reduceToNat, hsq]))
    refine (spoil_ans H5 t T S3 ht5 st).mono ?_
    rintro r3 H6 ⟨rfl, c3⟩
    (try simp (maxSteps := 4000000) (disch := first | omega | (simp only [push_n, set_n, clr_n, also_n, List.length_replicate, List.length_set, List.length_map, List.length_append, List.length_take, List.length_drop, List.length_cons, List.length_nil]; first | done | omega) | (with_reducible decide)) only [go_sem, Int.reduceEq, Int.reduceNe, Int.reduceLT, Int.reduceLE, Nat.reduceEqDiff, Int.reduceToNat, Nat.reduceSub, Nat.reduceAdd, Nat.reduceMul, Nat.reduceLT, Nat.reduceLeDiff, Int.reduceNeg, Int.reduceAdd, Int.reduceSub, Int.reduceMul, UInt8.reduceToNat]; repeat first | ((first | with_reducible refine split2_pk (by omega) ?_ | with_reducible refine split2_nk (by omega) ?_); intro hsq; try simp (maxSteps := 4000000) (disch := first | omega | (simp only [push_n, set_n, clr_n, also_n, List.length_replicate, List.length_set, List.length_map, List.length_append, List.length_take, List.length_drop, List.length_cons, List.length_nil]; first | done | omega) | (with_reducible decide)) only [go_sem, Int.reduceEq, Int.reduceNe, Int.reduceLT, Int.reduceLE, Nat.reduceEqDiff, Int.reduceToNat, Nat.reduceSub, Nat.reduceAdd, Nat.reduceMul, Nat.reduceLT, Nat.reduceLeDiff, Int.reduceNeg, Int.reduceAdd, Int.reduceSub, Int.reduceMul, UInt8.reduceToNat, hsq]))
    refine ⟨(), ((((g2.chg (S1 ++ S2 ++ S3)).trans (c1.mono fun i hi => by simp [hi])).trans (c2.mono fun i hi => by simp [hi])).trans (c3.mono fun i hi => by simp [hi])).grew fun i hi => ?_⟩
    simp only [List.mem_append] at hi
    rcases hi with (hi | hi) | hi
    · exact n1 i hi
    · exact (n2 i hi).1
    · exact (n3 i hi).1
  rintro _ H4 g4
  clear hp hr ht sp sm st n1 n2 n3 g2
  have hx := hx.grew g4
  have hy := hy.grew g4
  have ha := ha.grew g4
  have hb := hb.grew g4
  have hz : IsInts H4 zv l := hz.grew g4
  have hl : IsInts H4 lv l := hl.grew g4
  have hzlen := hz.lenA (P := Try.prog) Try.underlying38
  refine wp_sound _ (by kernel_rfl) ?_
  (try simp (maxSteps := 4000000) (disch := first | omega | (simp only [push_n, set_n, clr_n, also_n, List.length_replicate, List.length_set, List.length_map, List.length_append, List.length_take, List.length_drop, List.length_cons, List.length_nil]; first | done | omega) | (with_reducible decide)) only [go_sem, Int.reduceEq, Int.reduceNe, Int.reduceLT, Int.reduceLE, Nat.reduceEqDiff, Int.reduceToNat, Nat.reduceSub, Nat.reduceAdd, Nat.reduceMul, Nat.reduceLT, Nat.reduceLeDiff, Int.reduceNeg, Int.reduceAdd, Int.reduceSub, Int.reduceMul, UInt8.reduceToNat, hzlen]; repeat first | ((first | with_reducible refine split2_pk (by omega) ?_ | with_reducible refine split2_nk (by omega) ?_); intro hsq; try simp (maxSteps := 4000000) (disch := first | omega | (simp only [push_n, set_n, clr_n, also_n, List.length_replicate, List.length_set, List.length_map, List.length_append, List.length_take, List.length_drop, List.length_cons, List.length_nil]; first | done | omega) | (with_reducible decide)) only [go_sem, Int.reduceEq, Int.reduceNe, Int.reduceLT, Int.reduceLE, Nat.reduceEqDiff, Int.reduceToNat, Nat.reduceSub, Nat.reduceAdd, Nat.reduceMul, Nat.reduceLT, Nat.reduceLeDiff, Int.reduceNeg, Int.reduceAdd, Int.reduceSub, Int.reduceMul, UInt8.reduceToNat, hzlen, hsq]))
  refine wp_loopS (σ := Nat) (by kernel_rfl) (fun k => [(0, av), (1, bv'), (2, lv), (7, x), (8, y), (9, zv), (22, .bool true), (129, .int .i64 (l.length : Nat)), (130, .int .i64 (k : Nat))]) (fun k H' => k ≤ l.length ∧ H' = H4) (fun k => l.length - k) (0) (by simp (maxSteps := 4000000) (disch := first | omega | (simp only [push_n, set_n, clr_n, also_n, List.length_replicate, List.length_set, List.length_map, List.length_append, List.length_take, List.length_drop, List.length_cons, List.length_nil]; first | done | omega) | (with_reducible decide)) only [go_sem, Int.reduceEq, Int.reduceNe, Int.reduceLT, Int.reduceLE, Nat.reduceEqDiff, Int.reduceToNat, Nat.reduceSub, Nat.reduceAdd, Nat.reduceMul, Nat.reduceLT, Nat.reduceLeDiff, Int.reduceNeg, Int.reduceAdd, Int.reduceSub, Int.reduceMul, UInt8.reduceToNat]) ?_ ?_
  · exact ⟨by omega, rfl⟩
  rintro k H5 ⟨hk, rfl⟩
  by_cases hkl : k < l.length
  · have hix := hz.ix (P := Try.prog) Try.underlying38 sz3 (k := .i64) (i := (k : Int)) (by omega) (by omega)
    have hld := hz.ldI hkl
    have hix2 := hl.ix (P := Try.prog) Try.underlying38 sz3 (k := .i64) (i := (k : Int)) (by omega) (by omega)
    have hld2 := hl.ldI hkl
    (try simp (maxSteps := 4000000) (disch := first | omega | (simp only [push_n, set_n, clr_n, also_n, List.length_replicate, List.length_set, List.length_map, List.length_append, List.length_take, List.length_drop, List.length_cons, List.length_nil]; first | done | omega) | (with_reducible decide)) only [go_sem, Int.reduceEq, Int.reduceNe, Int.reduceLT, Int.reduceLE, Nat.reduceEqDiff, Int.reduceToNat, Nat.reduceSub, Nat.reduceAdd, Nat.reduceMul, Nat.reduceLT, Nat.reduceLeDiff, Int.reduceNeg, Int.reduceAdd, Int.reduceSub, Int.reduceMul, UInt8.reduceToNat]; repeat first | ((first | with_reducible refine split2_pk (by omega) ?_ | with_reducible refine split2_nk (by omega) ?_); intro hsq; try simp (maxSteps := 4000000) (disch := first | omega | (simp only [push_n, set_n, clr_n, also_n, List.length_replicate, List.length_set, List.length_map, List.length_append, List.length_take, List.length_drop, List.length_cons, List.length_nil]; first | done | omega) | (with_reducible decide)) only [go_sem, Int.reduceEq, Int.reduceNe, Int.reduceLT, Int.reduceLE, Nat.reduceEqDiff, Int.reduceToNat, Nat.reduceSub, Nat.reduceAdd, Nat.reduceMul, Nat.reduceLT, Nat.reduceLeDiff, Int.reduceNeg, Int.reduceAdd, Int.reduceSub, Int.reduceMul, UInt8.reduceToNat, hsq]))
    (refine awp_drawP (hl := []) [eqM H5] [(0, some 0), (1, some 0), (2, some 0), (3, some 0), (4, some 0), (5, some 0), (6, some 0), (7, some 0), (8, some 0), (9, some 0), (10, some 0), (11, some 0), (12, some 0)] [] (by kernel_rfl) (by rfl) (by decide +kernel) (rofP_0 ?_) ?_; rotate_left; (conv => arg 5; simp only [List.map_cons, List.map_nil, List.getElem?_toArray, List.getElem?_cons_zero, List.getElem?_cons_succ]); rotate_left)
    · rfl
    (try simp (maxSteps := 4000000) (disch := first | omega | (simp only [push_n, set_n, clr_n, also_n, List.length_replicate, List.length_set, List.length_map, List.length_append, List.length_take, List.length_drop, List.length_cons, List.length_nil]; first | done | omega) | (with_reducible decide)) only [go_sem, Int.reduceEq, Int.reduceNe, Int.reduceLT, Int.reduceLE, Nat.reduceEqDiff, Int.reduceToNat, Nat.reduceSub, Nat.reduceAdd, Nat.reduceMul, Nat.reduceLT, Nat.reduceLeDiff, Int.reduceNeg, Int.reduceAdd, Int.reduceSub, Int.reduceMul, UInt8.reduceToNat, hix, hld, hix2, hld2]; repeat first | ((first | with_reducible refine split2_pk (by omega) ?_ | with_reducible refine split2_nk (by omega) ?_); intro hsq; try simp (maxSteps := 4000000) (disch := first | omega | (simp only [push_n, set_n, clr_n, also_n, List.length_replicate, List.length_set, List.length_map, List.length_append, List.length_take, List.length_drop, List.length_cons, List.length_nil]; first | done | omega) | (with_reducible decide)) only [go_sem, Int.reduceEq, Int.reduceNe, Int.reduceLT, Int.reduceLE, Nat.reduceEqDiff, Int.reduceToNat, Nat.reduceSub, Nat.reduceAdd, Nat.reduceMul, Nat.reduceLT, Nat.reduceLeDiff, Int.reduceNeg, Int.reduceAdd, Int.reduceSub, Int.reduceMul, UInt8.reduceToNat, hix, hld, hix2, hld2, hsq]))
    (refine ⟨k + 1, ?_⟩; and_intros; all_goals (try first | rfl | assumption | omega))
  · obtain rfl : k = l.length := by omega
    have s1 := rsame_spec H5 x av xs vs a a hx ha hal'
    have s2 := rsame_spec H5 y bv' ys us b b hy hb hbl'
    rw [decide_eq_true rfl] at s1 s2
    (try simp (maxSteps := 4000000) (disch := first | omega | (simp only [push_n, set_n, clr_n, also_n, List.length_replicate, List.length_set, List.length_map, List.length_append, List.length_take, List.length_drop, List.length_cons, List.length_nil]; first | done | omega) | (with_reducible decide)) only [go_sem, Int.reduceEq, Int.reduceNe, Int.reduceLT, Int.reduceLE, Nat.reduceEqDiff, Int.reduceToNat, Nat.reduceSub, Nat.reduceAdd, Nat.reduceMul, Nat.reduceLT, Nat.reduceLeDiff, Int.reduceNeg, Int.reduceAdd, Int.reduceSub, Int.reduceMul, UInt8.reduceToNat]; repeat first | ((first | refine ASpec.eq (s1) ?_ | refine ASpec.eq (s2) ?_); try simp (maxSteps := 4000000) (disch := first | omega | (simp only [push_n, set_n, clr_n, also_n, List.length_replicate, List.length_set, List.length_map, List.length_append, List.length_take, List.length_drop, List.length_cons, List.length_nil]; first | done | omega) | (with_reducible decide)) only [go_sem, Int.reduceEq, Int.reduceNe, Int.reduceLT, Int.reduceLE, Nat.reduceEqDiff, Int.reduceToNat, Nat.reduceSub, Nat.reduceAdd, Nat.reduceMul, Nat.reduceLT, Nat.reduceLeDiff, Int.reduceNeg, Int.reduceAdd, Int.reduceSub, Int.reduceMul, UInt8.reduceToNat]) | ((first | with_reducible refine split2_pk (by omega) ?_ | with_reducible refine split2_nk (by omega) ?_); intro hsq; try simp (maxSteps := 4000000) (disch := first | omega | (simp only [push_n, set_n, clr_n, also_n, List.length_replicate, List.length_set, List.length_map, List.length_append, List.length_take, List.length_drop, List.length_cons, List.length_nil]; first | done | omega) | (with_reducible decide)) only [go_sem, Int.reduceEq, Int.reduceNe, Int.reduceLT, Int.reduceLE, Nat.reduceEqDiff, Int.reduceToNat, Nat.reduceSub, Nat.reduceAdd, Nat.reduceMul, Nat.reduceLT, Nat.reduceLeDiff, Int.reduceNeg, Int.reduceAdd, Int.reduceSub, Int.reduceMul, UInt8.reduceToNat, hsq]))
end Go.Proofs.Ytojeggahjmjnpaa
