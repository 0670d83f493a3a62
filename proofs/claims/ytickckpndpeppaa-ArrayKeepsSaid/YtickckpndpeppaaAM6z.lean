/- Arrays of disks: a disk is lost. -/
import Derived.Test.YtickckpndpeppaaAM5z
namespace Go.Proofs.Ytickckpndpeppaa
open Go Go.Abs Go.Abs.GF
set_option linter.unusedVariables false
set_option linter.unusedSimpArgs false
set_option maxHeartbeats 4000000
attribute [local irreducible] ASpec AWp WP AOps DOps

theorem take_put {cs : List AV} {F : List AV} {i : Nat} {vs : List AV} (h : cs.take i = F) (hl : i + vs.length ≤ cs.length) : (putL cs i vs).take (i + vs.length) = F ++ vs := by
  have h1 : F.length = i := by rw [← h, List.length_take]; omega
  rw [putL, h, List.take_append, h1, List.take_of_length_le (by omega), show i + vs.length - i = vs.length by omega, List.take_append, List.take_of_length_le (Nat.le_refl _)]
  simp
theorem take_put_lt {cs : List AV} {i j : Nat} {vs : List AV} (h : j ≤ i) (hl : i + vs.length ≤ cs.length) : (putL cs i vs).take j = cs.take j := by
  rw [putL, List.take_append, List.length_take, show j - min i cs.length = 0 by omega, List.take_zero, List.append_nil, List.take_take, show min j i = j by omega]
theorem drop_put {cs : List AV} {i j : Nat} {vs : List AV} (h : i + vs.length ≤ j) (hl : j ≤ cs.length) : (putL cs i vs).drop j = cs.drop j := by
  rw [putL, List.drop_append, List.length_take, List.drop_of_length_le (by rw [List.length_take]; omega), List.nil_append, List.drop_append, List.drop_of_length_le (by omega), List.nil_append, List.drop_drop]
  congr 1; omega
theorem zerosL_len (z : List AV) : ∀ n, (zerosL z n).length = n * z.length
  | 0 => by simp [zerosL_0]
  | n + 1 => by rw [zerosL_s, List.length_append, zerosL_len z n, Nat.add_mul]; omega
theorem zerosL_one {z : List AV} (h : z.all oneA = true) : ∀ n, (zerosL z n).all oneA = true
  | 0 => rfl
  | n + 1 => by rw [zerosL_s, List.all_append, h, zerosL_one h n]; rfl
theorem clear_cells {P : Program} {t e : TypeId} {z : List AV} {sz : Nat} (h : P.underlying t = some (.slice e)) (hz : zeroA P e = some z) (hl : z.length = sz) (h0 : 0 < sz) (ho : z.all oneA = true) {H : AH} {i o n : Nat} {c : Cap} {cs : List AV} (hn : 0 < n) (hc : H.cells? i = some cs) (hle : o + n * sz ≤ cs.length) :
    ∃ zz, zz.length = n * sz ∧ clearA P t (.slice ⟨false, i, o⟩ n c) H = some (.tup [], H.set i (some (.cells (putL cs o zz)))) := by
  have l1 := zerosL_len z n
  rw [hl] at l1
  refine ⟨zerosL z n, l1, ?_⟩
  rw [clear_slice h hz, if_neg (by omega), if_pos ⟨⟨rfl, by simp [hc]⟩, by omega⟩, repA_zerosL _ (by omega), store_cells _ _ _ (by rw [l1]; exact Nat.mul_pos hn h0), zerosL_one ho, gdb_true, hc, Option.bind_some, gd_pos (by rw [l1]; exact hle)]
  rfl
def keep (d : Int) (l : List Fl) : List Fl := l.filter fun f => decide (¬ (f.disk : Int) = d)
theorem keep_s {d : Int} {l : List Fl} {j : Nat} (hj : j < l.length) : keep d (l.take (j + 1)) = keep d (l.take j) ++ if ((l.getD j default).disk : Int) = d then [] else [l.getD j default] := by
  rw [List.take_add_one, List.getElem?_eq_getElem hj, Option.toList, keep, List.filter_append, show l.getD j default = l[j] by simp [List.getD, hj]]
  congr 1
  by_cases h : (l[j].disk : Int) = d <;> simp [h]
theorem keep_le {d : Int} {l : List Fl} {j : Nat} : (keep d (l.take j)).length ≤ j := Nat.le_trans (List.length_filter_le _ _) (by simp; omega)
theorem keep_le' {d : Int} {l : List Fl} : (keep d l).length ≤ l.length := List.length_filter_le _ _
theorem keep_all {d : Int} {l : List Fl} : ∀ {k : Nat}, k ≤ l.length → (∀ j, j < k → ¬ ((l.getD j default).disk : Int) = d) → keep d (l.take k) = l.take k
  | 0, _, _ => by simp [keep]
  | k + 1, hk, h => by
    rw [keep_s (by omega), if_neg (h k (by omega)), keep_all (by omega) fun j hj => h j (by omega), List.take_add_one, List.getElem?_eq_getElem (by omega), Option.toList, show l.getD k default = l[k] by simp [List.getD, show k < l.length by omega]]
section
variable {H : AH} {P D : Nat} {fv : AV} {dvs : List AV} {A : Arr}
set_option maxRecDepth 100000 in
theorem delete_spec {l : List Fl} (hl : ∀ f ∈ l, f.data.length = 64) (hn : l.length < 1000000) (hf : IsFly H fv l) {X : Nat} {d : Int} (hX : H.cells? X = some [.int .i64 d]) (hXf : X ∉ blkOf fv) :
    ASpec Try.prog 41 [fv, .func 42 [.ptr ⟨false, X, 0⟩]] H fun r H' => IsFly H' r (keep d l) ∧ Chg (blkOf fv) H H' ∧ ∀ i ∈ blkOf r, i ∈ blkOf fv := by
  refine aspec_fn (rs := [.tmp 4]) (n := 42) Try.func41 rfl rfl rfl rfl (by kernel_rfl) (Nat.le_of_ble_eq_true rfl) ?_
  (try simp (maxSteps := 4000000) (disch := first | omega | (simp only [push_n, set_n, clr_n, also_n, List.length_replicate, List.length_set, List.length_map, List.length_append, List.length_take, List.length_drop, List.length_cons, List.length_nil]; first | done | omega) | (with_reducible decide)) only [go_sem, Int.reduceEq, Int.reduceNe, Int.reduceLT, Int.reduceLE, Nat.reduceEqDiff, Int.reduceToNat, Nat.reduceSub, Nat.reduceAdd, Nat.reduceMul, Nat.reduceLT, Nat.reduceLeDiff, Int.reduceNeg, Int.reduceAdd, Int.reduceSub, Int.reduceMul, UInt8.reduceToNat]; repeat first | ((first | with_reducible refine split2_pk (by omega) ?_ | with_reducible refine split2_nk (by omega) ?_); intro hsq; try simp (maxSteps := 4000000) (disch := first | omega | (simp only [push_n, set_n, clr_n, also_n, List.length_replicate, List.length_set, List.length_map, List.length_append, List.length_take, List.length_drop, List.length_cons, List.length_nil]; first | done | omega) | (with_reducible decide)) only [go_sem, Int.reduceEq, Int.reduceNe, Int.reduceLT, Int.reduceLE, Nat.reduceEqDiff, Int.reduceToNat, Nat.reduceSub, Nat.reduceAdd, Nat.reduceMul, Nat.reduceLT, Nat.reduceLeDiff, Int.reduceNeg, Int.reduceAdd, Int.reduceSub, Int.reduceMul, UInt8.reduceToNat, hsq]))
  refine (index_spec hl hn hf hX).mono ?_
  rintro r H1 ⟨g1, ⟨rfl, hno⟩ | ⟨k, hk, rfl, hdk, hno⟩⟩
  · (try simp (maxSteps := 4000000) (disch := first | omega | (simp only [push_n, set_n, clr_n, also_n, List.length_replicate, List.length_set, List.length_map, List.length_append, List.length_take, List.length_drop, List.length_cons, List.length_nil]; first | done | omega) | (with_reducible decide)) only [go_sem, Int.reduceEq, Int.reduceNe, Int.reduceLT, Int.reduceLE, Nat.reduceEqDiff, Int.reduceToNat, Nat.reduceSub, Nat.reduceAdd, Nat.reduceMul, Nat.reduceLT, Nat.reduceLeDiff, Int.reduceNeg, Int.reduceAdd, Int.reduceSub, Int.reduceMul, UInt8.reduceToNat]; repeat first | ((first | with_reducible refine split2_pk (by omega) ?_ | with_reducible refine split2_nk (by omega) ?_); intro hsq; try simp (maxSteps := 4000000) (disch := first | omega | (simp only [push_n, set_n, clr_n, also_n, List.length_replicate, List.length_set, List.length_map, List.length_append, List.length_take, List.length_drop, List.length_cons, List.length_nil]; first | done | omega) | (with_reducible decide)) only [go_sem, Int.reduceEq, Int.reduceNe, Int.reduceLT, Int.reduceLE, Nat.reduceEqDiff, Int.reduceToNat, Nat.reduceSub, Nat.reduceAdd, Nat.reduceMul, Nat.reduceLT, Nat.reduceLeDiff, Int.reduceNeg, Int.reduceAdd, Int.reduceSub, Int.reduceMul, UInt8.reduceToNat, hsq]))
    have := keep_all (Nat.le_refl _) hno
    rw [List.take_length] at this
    rw [this]
    exact ⟨hf.chg (g1.chg []) (by simp), g1.chg _, fun i hi => hi⟩
  rcases hf with ⟨_, e⟩ | ⟨B, cs, rfl, f1, f2, f3⟩
  · rw [e] at hk; simp at hk
  have f1' := g1.cells_some f1
  have hX1 := g1.cells_some hX
  have hXB : X ≠ B := by simpa [blkOf] using hXf
  have hcl : ∀ j, j < l.length → (l.getD j default).data.length = 64 := fun j hj => by rw [show l.getD j default = l[j] by simp [List.getD, hj]]; exact hl _ (List.getElem_mem hj)
  have hk0 : (keep d (l.take (k + 1))).length = k := by
    rw [keep_s hk, if_pos hdk, List.append_nil, keep_all (by omega) hno, List.length_take]; omega
  (try simp (maxSteps := 4000000) (disch := first | omega | (simp only [push_n, set_n, clr_n, also_n, List.length_replicate, List.length_set, List.length_map, List.length_append, List.length_take, List.length_drop, List.length_cons, List.length_nil]; first | done | omega) | (with_reducible decide)) only [go_sem, Int.reduceEq, Int.reduceNe, Int.reduceLT, Int.reduceLE, Nat.reduceEqDiff, Int.reduceToNat, Nat.reduceSub, Nat.reduceAdd, Nat.reduceMul, Nat.reduceLT, Nat.reduceLeDiff, Int.reduceNeg, Int.reduceAdd, Int.reduceSub, Int.reduceMul, UInt8.reduceToNat, f1']; repeat first | ((first | with_reducible refine split2_pk (by omega) ?_ | with_reducible refine split2_nk (by omega) ?_); intro hsq; try simp (maxSteps := 4000000) (disch := first | omega | (simp only [push_n, set_n, clr_n, also_n, List.length_replicate, List.length_set, List.length_map, List.length_append, List.length_take, List.length_drop, List.length_cons, List.length_nil]; first | done | omega) | (with_reducible decide)) only [go_sem, Int.reduceEq, Int.reduceNe, Int.reduceLT, Int.reduceLE, Nat.reduceEqDiff, Int.reduceToNat, Nat.reduceSub, Nat.reduceAdd, Nat.reduceMul, Nat.reduceLT, Nat.reduceLeDiff, Int.reduceNeg, Int.reduceAdd, Int.reduceSub, Int.reduceMul, UInt8.reduceToNat, f1', hsq]))
  refine wp_loopS (σ := Nat) (by kernel_rfl) (fun j => [(0, .slice ⟨false, B, 0⟩ l.length (.grow 66)), (1, .func 42 [.ptr ⟨false, X, 0⟩]), (5, .int .i64 ((keep d (l.take j)).length : Nat)), (6, .int .i64 (j : Nat))]) (fun j H' => k < j ∧ j ≤ l.length ∧ (keep d (l.take j)).length < j ∧ Chg [B] H1 H' ∧ ∃ cs', H'.cells? B = some cs' ∧ cs'.length = cs.length ∧ cs'.take ((keep d (l.take j)).length * 66) = flC (keep d (l.take j)) ∧ cs'.drop (j * 66) = cs.drop (j * 66)) (fun j => l.length - j) (k + 1) (by simp (maxSteps := 4000000) (disch := first | omega | (simp only [push_n, set_n, clr_n, also_n, List.length_replicate, List.length_set, List.length_map, List.length_append, List.length_take, List.length_drop, List.length_cons, List.length_nil]; first | done | omega) | (with_reducible decide)) only [go_sem, Int.reduceEq, Int.reduceNe, Int.reduceLT, Int.reduceLE, Nat.reduceEqDiff, Int.reduceToNat, Nat.reduceSub, Nat.reduceAdd, Nat.reduceMul, Nat.reduceLT, Nat.reduceLeDiff, Int.reduceNeg, Int.reduceAdd, Int.reduceSub, Int.reduceMul, UInt8.reduceToNat, hk0, Int.natCast_add, Int.natCast_one]) ?_ ?_
  · refine ⟨by omega, by omega, by omega, Chg.refl _ _, cs, f1', rfl, ?_, rfl⟩
    rw [hk0, keep_s hk, if_pos hdk, List.append_nil, keep_all (by omega) hno]
    have := congrArg (List.take (k * 66)) f3
    rw [List.take_take, show min (k * 66) (l.length * 66) = k * 66 by omega, flC, flat_take (fun f hf => fl1_len (hl f hf)) (by omega)] at this
    exact this
  rintro j H2 ⟨hkj, hj, hij, c2, cs', k1, k2, k3, k4⟩
  by_cases hjl : j < l.length
  · have hfl := hcl j hjl
    have hg := fly_get f2 f3 hl hjl
    rw [← k4] at hg
    have hks := keep_s (d := d) hjl
    have e2 := fl1_one (l.getD j default)
    have e3 := fl1_len hfl
    have hX2 := c2.cells (by simpa using hXB) hX1
    have hX3 := fun {Y : Option ABlk} => (Grew.push H2 Y).cells_some hX2
    generalize l.getD j default = f at hg hks e2 e3 hfl
    (try simp (maxSteps := 4000000) (disch := first | omega | (simp only [push_n, set_n, clr_n, also_n, List.length_replicate, List.length_set, List.length_map, List.length_append, List.length_take, List.length_drop, List.length_cons, List.length_nil]; first | done | omega) | (with_reducible decide)) only [go_sem, Int.reduceEq, Int.reduceNe, Int.reduceLT, Int.reduceLE, Nat.reduceEqDiff, Int.reduceToNat, Nat.reduceSub, Nat.reduceAdd, Nat.reduceMul, Nat.reduceLT, Nat.reduceLeDiff, Int.reduceNeg, Int.reduceAdd, Int.reduceSub, Int.reduceMul, UInt8.reduceToNat, k1, hg, e2, e3, putL_all]; repeat first | ((first | with_reducible refine split2_pk (by omega) ?_ | with_reducible refine split2_nk (by omega) ?_); intro hsq; try simp (maxSteps := 4000000) (disch := first | omega | (simp only [push_n, set_n, clr_n, also_n, List.length_replicate, List.length_set, List.length_map, List.length_append, List.length_take, List.length_drop, List.length_cons, List.length_nil]; first | done | omega) | (with_reducible decide)) only [go_sem, Int.reduceEq, Int.reduceNe, Int.reduceLT, Int.reduceLE, Nat.reduceEqDiff, Int.reduceToNat, Nat.reduceSub, Nat.reduceAdd, Nat.reduceMul, Nat.reduceLT, Nat.reduceLeDiff, Int.reduceNeg, Int.reduceAdd, Int.reduceSub, Int.reduceMul, UInt8.reduceToNat, k1, hg, e2, e3, putL_all, hsq]))
    refine (lose1_spec hfl hX3).mono ?_
    rintro r H3 ⟨rfl, g3⟩
    have k1' := g3.cells_some ((Grew.push H2 (some (.cells (fl1 f)))).cells_some k1)
    have kv := g3.cells_some (push_cells H2 (fl1 f))
    have c3 : Chg [B] H1 H3 := c2.trans (((Grew.push _ _).trans g3).chg _)
    have hBn := cells_lt k1'
    generalize hi : (keep d (l.take j)).length = i at *
    by_cases hd : (f.disk : Int) = d
    · rw [if_pos hd, List.append_nil] at hks
      (try simp (maxSteps := 4000000) (disch := first | omega | (simp only [push_n, set_n, clr_n, also_n, List.length_replicate, List.length_set, List.length_map, List.length_append, List.length_take, List.length_drop, List.length_cons, List.length_nil]; first | done | omega) | (with_reducible decide)) only [go_sem, Int.reduceEq, Int.reduceNe, Int.reduceLT, Int.reduceLE, Nat.reduceEqDiff, Int.reduceToNat, Nat.reduceSub, Nat.reduceAdd, Nat.reduceMul, Nat.reduceLT, Nat.reduceLeDiff, Int.reduceNeg, Int.reduceAdd, Int.reduceSub, Int.reduceMul, UInt8.reduceToNat, hd]; repeat first | ((first | with_reducible refine split2_pk (by omega) ?_ | with_reducible refine split2_nk (by omega) ?_); intro hsq; try simp (maxSteps := 4000000) (disch := first | omega | (simp only [push_n, set_n, clr_n, also_n, List.length_replicate, List.length_set, List.length_map, List.length_append, List.length_take, List.length_drop, List.length_cons, List.length_nil]; first | done | omega) | (with_reducible decide)) only [go_sem, Int.reduceEq, Int.reduceNe, Int.reduceLT, Int.reduceLE, Nat.reduceEqDiff, Int.reduceToNat, Nat.reduceSub, Nat.reduceAdd, Nat.reduceMul, Nat.reduceLT, Nat.reduceLeDiff, Int.reduceNeg, Int.reduceAdd, Int.reduceSub, Int.reduceMul, UInt8.reduceToNat, hd, hsq]))
      (refine ⟨j + 1, ?_⟩; and_intros; all_goals (try first | rfl | assumption | omega))
      · rw [hks, hi]
      · rw [hks, hi]; omega
      · refine ⟨cs', k1', k2, ?_, ?_⟩
        · rw [hks, hi]; exact k3
        · have := congrArg (List.drop 66) k4
          rw [List.drop_drop, List.drop_drop] at this
          rw [Nat.add_mul]; exact this
    · rw [if_neg hd] at hks
      (try simp (maxSteps := 4000000) (disch := first | omega | (simp only [push_n, set_n, clr_n, also_n, List.length_replicate, List.length_set, List.length_map, List.length_append, List.length_take, List.length_drop, List.length_cons, List.length_nil]; first | done | omega) | (with_reducible decide)) only [go_sem, Int.reduceEq, Int.reduceNe, Int.reduceLT, Int.reduceLE, Nat.reduceEqDiff, Int.reduceToNat, Nat.reduceSub, Nat.reduceAdd, Nat.reduceMul, Nat.reduceLT, Nat.reduceLeDiff, Int.reduceNeg, Int.reduceAdd, Int.reduceSub, Int.reduceMul, UInt8.reduceToNat, hd, k1', kv, e2, e3, all_one_bv]; repeat first | ((first | with_reducible refine split2_pk (by omega) ?_ | with_reducible refine split2_nk (by omega) ?_); intro hsq; try simp (maxSteps := 4000000) (disch := first | omega | (simp only [push_n, set_n, clr_n, also_n, List.length_replicate, List.length_set, List.length_map, List.length_append, List.length_take, List.length_drop, List.length_cons, List.length_nil]; first | done | omega) | (with_reducible decide)) only [go_sem, Int.reduceEq, Int.reduceNe, Int.reduceLT, Int.reduceLE, Nat.reduceEqDiff, Int.reduceToNat, Nat.reduceSub, Nat.reduceAdd, Nat.reduceMul, Nat.reduceLT, Nat.reduceLeDiff, Int.reduceNeg, Int.reduceAdd, Int.reduceSub, Int.reduceMul, UInt8.reduceToNat, hd, k1', kv, e2, e3, all_one_bv, hsq]))
      (refine ⟨j + 1, ?_⟩; and_intros; all_goals (try first | rfl | assumption | omega))
      · rw [hks, List.length_append, hi]; rfl
      · rw [hks, List.length_append, hi]; simp only [List.length_cons, List.length_nil]; omega
      · exact c3.thenSet _ (.inl (by simp))
      · refine ⟨_, rfl, ?_, ?_, ?_⟩
        · rw [putL_len (by rw [e3]; omega)]; exact k2
        · rw [hks, List.length_append, hi, show flC (keep d (l.take j) ++ [f]) = flC (keep d (l.take j)) ++ fl1 f by simp [flC]]
          have := take_put (vs := fl1 f) k3 (by rw [e3]; omega)
          rw [e3] at this
          rw [List.length_cons, List.length_nil, Nat.add_mul]
          exact this
        · rw [drop_put (by rw [e3]; omega) (by omega)]
          have := congrArg (List.drop 66) k4
          rw [List.drop_drop, List.drop_drop] at this
          rw [Nat.add_mul]; exact this
  · obtain rfl : j = l.length := by omega
    rw [List.take_length] at hij k3
    obtain ⟨zz, z1, z2⟩ := clear_cells Try.underlying62 ze70 (sz := 66) rfl (by omega) rfl (c := .grow 66) (show 0 < l.length - (keep d l).length by omega) k1 (o := (keep d l).length * 66) (by rw [Nat.sub_mul]; omega)
    (try simp (maxSteps := 4000000) (disch := first | omega | (simp only [push_n, set_n, clr_n, also_n, List.length_replicate, List.length_set, List.length_map, List.length_append, List.length_take, List.length_drop, List.length_cons, List.length_nil]; first | done | omega) | (with_reducible decide)) only [go_sem, Int.reduceEq, Int.reduceNe, Int.reduceLT, Int.reduceLE, Nat.reduceEqDiff, Int.reduceToNat, Nat.reduceSub, Nat.reduceAdd, Nat.reduceMul, Nat.reduceLT, Nat.reduceLeDiff, Int.reduceNeg, Int.reduceAdd, Int.reduceSub, Int.reduceMul, UInt8.reduceToNat, k1, z2]; repeat first | ((first | with_reducible refine split2_pk (by omega) ?_ | with_reducible refine split2_nk (by omega) ?_); intro hsq; try simp (maxSteps := 4000000) (disch := first | omega | (simp only [push_n, set_n, clr_n, also_n, List.length_replicate, List.length_set, List.length_map, List.length_append, List.length_take, List.length_drop, List.length_cons, List.length_nil]; first | done | omega) | (with_reducible decide)) only [go_sem, Int.reduceEq, Int.reduceNe, Int.reduceLT, Int.reduceLE, Nat.reduceEqDiff, Int.reduceToNat, Nat.reduceSub, Nat.reduceAdd, Nat.reduceMul, Nat.reduceLT, Nat.reduceLeDiff, Int.reduceNeg, Int.reduceAdd, Int.reduceSub, Int.reduceMul, UInt8.reduceToNat, k1, z2, hsq]))
    refine ⟨.inr ⟨B, _, rfl, set_cells_at (cells_lt k1), ?_, ?_⟩, ?_, by simp [blkOf]⟩
    · rw [putL_len (by rw [z1, Nat.sub_mul]; omega)]; have := @keep_le' d l; omega
    · rw [take_put_lt (Nat.le_refl _) (by rw [z1, Nat.sub_mul]; omega)]; exact k3
    · exact ((g1.chg _).trans c2).thenSet _ (.inl (by simp [blkOf]))
theorem lose_spec (h : IsArr H P D fv dvs A) (hn : A.fly.length < 1000000) (d : Int) : ASpec Try.prog 19 [.ptr ⟨false, P, 0⟩, .int .i64 d] H fun r H' => r = .int .i64 ((A.lose d).1 : Nat) ∧ ∃ fv' dvs', IsArr H' P D fv' dvs' (A.lose d).2 ∧ Went H (ownB P D fv dvs) H' (ownB P D fv' dvs') := by
  have hd := h.hd
  have ds := h.ds
  have hc := h.cnt
  have hl := h.len
  have hg := fun {X : Option ABlk} => h.grew (Grew.push H X)
  have hPn := cells_lt hd
  have hDn := cells_lt ds
  by_cases hin : A.inn d
  · obtain ⟨h1, h2⟩ := id hin
    cases hon : A.on d with
    | false =>
      refine aspec_fn (rs := [.tmp 4]) (n := 47) Try.func19 rfl rfl rfl rfl (by kernel_rfl) (Nat.le_of_ble_eq_true rfl) ?_
      (try simp (maxSteps := 4000000) (disch := first | omega | (simp only [push_n, set_n, clr_n, also_n, List.length_replicate, List.length_set, List.length_map, List.length_append, List.length_take, List.length_drop, List.length_cons, List.length_nil]; first | done | omega) | (with_reducible decide)) only [go_sem, Int.reduceEq, Int.reduceNe, Int.reduceLT, Int.reduceLE, Nat.reduceEqDiff, Int.reduceToNat, Nat.reduceSub, Nat.reduceAdd, Nat.reduceMul, Nat.reduceLT, Nat.reduceLeDiff, Int.reduceNeg, Int.reduceAdd, Int.reduceSub, Int.reduceMul, UInt8.reduceToNat, hd]; repeat first | ((first | with_reducible refine split2_pk (by omega) ?_ | with_reducible refine split2_nk (by omega) ?_); intro hsq; try simp (maxSteps := 4000000) (disch := first | omega | (simp only [push_n, set_n, clr_n, also_n, List.length_replicate, List.length_set, List.length_map, List.length_append, List.length_take, List.length_drop, List.length_cons, List.length_nil]; first | done | omega) | (with_reducible decide)) only [go_sem, Int.reduceEq, Int.reduceNe, Int.reduceLT, Int.reduceLE, Nat.reduceEqDiff, Int.reduceToNat, Nat.reduceSub, Nat.reduceAdd, Nat.reduceMul, Nat.reduceLT, Nat.reduceLeDiff, Int.reduceNeg, Int.reduceAdd, Int.reduceSub, Int.reduceMul, UInt8.reduceToNat, hd, hsq]))
      (refine awp_drawP (hl := []) [eqM (H.push (some (.cells [.int .i64 d])))] [(0, some 0), (1, some 0), (2, some 0), (3, some 0), (4, some 0), (5, some 0), (6, some 0), (7, some 0), (8, some 0), (9, some 0), (10, some 0), (11, some 0)] [] (by kernel_rfl) (by rfl) (by decide +kernel) (rofP_0 ?_) ?_; rotate_left; (conv => arg 5; simp only [List.map_cons, List.map_nil, List.getElem?_toArray, List.getElem?_cons_zero, List.getElem?_cons_succ]); rotate_left)
      · rfl
      (try simp (maxSteps := 4000000) (disch := first | omega | (simp only [push_n, set_n, clr_n, also_n, List.length_replicate, List.length_set, List.length_map, List.length_append, List.length_take, List.length_drop, List.length_cons, List.length_nil]; first | done | omega) | (with_reducible decide)) only [go_sem, Int.reduceEq, Int.reduceNe, Int.reduceLT, Int.reduceLE, Nat.reduceEqDiff, Int.reduceToNat, Nat.reduceSub, Nat.reduceAdd, Nat.reduceMul, Nat.reduceLT, Nat.reduceLeDiff, Int.reduceNeg, Int.reduceAdd, Int.reduceSub, Int.reduceMul, UInt8.reduceToNat, hd, hon]; repeat first | ((first | refine ASpec.eq (on_spec hg d) ?_); try simp (maxSteps := 4000000) (disch := first | omega | (simp only [push_n, set_n, clr_n, also_n, List.length_replicate, List.length_set, List.length_map, List.length_append, List.length_take, List.length_drop, List.length_cons, List.length_nil]; first | done | omega) | (with_reducible decide)) only [go_sem, Int.reduceEq, Int.reduceNe, Int.reduceLT, Int.reduceLE, Nat.reduceEqDiff, Int.reduceToNat, Nat.reduceSub, Nat.reduceAdd, Nat.reduceMul, Nat.reduceLT, Nat.reduceLeDiff, Int.reduceNeg, Int.reduceAdd, Int.reduceSub, Int.reduceMul, UInt8.reduceToNat, hd, hon]) | ((first | with_reducible refine split2_pk (by omega) ?_ | with_reducible refine split2_nk (by omega) ?_); intro hsq; try simp (maxSteps := 4000000) (disch := first | omega | (simp only [push_n, set_n, clr_n, also_n, List.length_replicate, List.length_set, List.length_map, List.length_append, List.length_take, List.length_drop, List.length_cons, List.length_nil]; first | done | omega) | (with_reducible decide)) only [go_sem, Int.reduceEq, Int.reduceNe, Int.reduceLT, Int.reduceLE, Nat.reduceEqDiff, Int.reduceToNat, Nat.reduceSub, Nat.reduceAdd, Nat.reduceMul, Nat.reduceLT, Nat.reduceLeDiff, Int.reduceNeg, Int.reduceAdd, Int.reduceSub, Int.reduceMul, UInt8.reduceToNat, hd, hon, hsq]))
      rw [show A.lose d = (9, A) by simp [Arr.lose, hin, hon]]
      exact ⟨rfl, fv, dvs, hg, ⟨(Grew.push _ _).chg _, fun i hi => .inl hi⟩⟩
    | true =>
      have hdl : d.toNat < A.disks.length := by omega
      have hlt := h.lt
      have key := (h.grew (Grew.push H (some (.cells [.int .i64 d])))).put (d := d.toNat) hdl (v := .nilslice) (o := none) rfl (by simp [blkOf])
      have hP2 := key.hd
      rw [List.length_set] at hP2
      have hX2 := (Chg.set (H.push (some (.cells [.int .i64 d]))) D (some (.cells (dvs.set d.toNat .nilslice))) (S := [D]) (by simp)).cells (i := H.n) (by simp; omega) (push_cells H _)
      have hXf : H.n ∉ blkOf fv := fun hm => by have := hlt _ (own_F hm); omega
      have hw : ∀ f ∈ A.fly, f.data.length = 64 := fun f hf => (h.wf f hf).2.2
      have hfl := key.fl
      have hDP : D ≠ P := fun e => h.pD e.symm
      have hset : (H.set D (some (.cells (dvs.set d.toNat .nilslice)))).push (some (.cells [.int .i64 d])) = (H.push (some (.cells [.int .i64 d]))).set D (some (.cells (dvs.set d.toNat .nilslice))) := (push_set_ne hDn).symm
      refine aspec_fn (rs := [.tmp 4]) (n := 47) Try.func19 rfl rfl rfl rfl (by kernel_rfl) (Nat.le_of_ble_eq_true rfl) ?_
      (try simp (maxSteps := 4000000) (disch := first | omega | (simp only [push_n, set_n, clr_n, also_n, List.length_replicate, List.length_set, List.length_map, List.length_append, List.length_take, List.length_drop, List.length_cons, List.length_nil]; first | done | omega) | (with_reducible decide)) only [go_sem, Int.reduceEq, Int.reduceNe, Int.reduceLT, Int.reduceLE, Nat.reduceEqDiff, Int.reduceToNat, Nat.reduceSub, Nat.reduceAdd, Nat.reduceMul, Nat.reduceLT, Nat.reduceLeDiff, Int.reduceNeg, Int.reduceAdd, Int.reduceSub, Int.reduceMul, UInt8.reduceToNat, hd]; repeat first | ((first | with_reducible refine split2_pk (by omega) ?_ | with_reducible refine split2_nk (by omega) ?_); intro hsq; try simp (maxSteps := 4000000) (disch := first | omega | (simp only [push_n, set_n, clr_n, also_n, List.length_replicate, List.length_set, List.length_map, List.length_append, List.length_take, List.length_drop, List.length_cons, List.length_nil]; first | done | omega) | (with_reducible decide)) only [go_sem, Int.reduceEq, Int.reduceNe, Int.reduceLT, Int.reduceLE, Nat.reduceEqDiff, Int.reduceToNat, Nat.reduceSub, Nat.reduceAdd, Nat.reduceMul, Nat.reduceLT, Nat.reduceLeDiff, Int.reduceNeg, Int.reduceAdd, Int.reduceSub, Int.reduceMul, UInt8.reduceToNat, hd, hsq]))
      (refine awp_drawP (hl := []) [eqM (H.push (some (.cells [.int .i64 d])))] [(0, some 0), (1, some 0), (2, some 0), (3, some 0), (4, some 0), (5, some 0), (6, some 0), (7, some 0), (8, some 0), (9, some 0), (10, some 0), (11, some 0)] [] (by kernel_rfl) (by rfl) (by decide +kernel) (rofP_0 ?_) ?_; rotate_left; (conv => arg 5; simp only [List.map_cons, List.map_nil, List.getElem?_toArray, List.getElem?_cons_zero, List.getElem?_cons_succ]); rotate_left)
      · rfl
      (try simp (maxSteps := 4000000) (disch := first | omega | (simp only [push_n, set_n, clr_n, also_n, List.length_replicate, List.length_set, List.length_map, List.length_append, List.length_take, List.length_drop, List.length_cons, List.length_nil]; first | done | omega) | (with_reducible decide)) only [go_sem, Int.reduceEq, Int.reduceNe, Int.reduceLT, Int.reduceLE, Nat.reduceEqDiff, Int.reduceToNat, Nat.reduceSub, Nat.reduceAdd, Nat.reduceMul, Nat.reduceLT, Nat.reduceLeDiff, Int.reduceNeg, Int.reduceAdd, Int.reduceSub, Int.reduceMul, UInt8.reduceToNat, hd, hon]; repeat first | ((first | refine ASpec.eq (on_spec hg d) ?_); try simp (maxSteps := 4000000) (disch := first | omega | (simp only [push_n, set_n, clr_n, also_n, List.length_replicate, List.length_set, List.length_map, List.length_append, List.length_take, List.length_drop, List.length_cons, List.length_nil]; first | done | omega) | (with_reducible decide)) only [go_sem, Int.reduceEq, Int.reduceNe, Int.reduceLT, Int.reduceLE, Nat.reduceEqDiff, Int.reduceToNat, Nat.reduceSub, Nat.reduceAdd, Nat.reduceMul, Nat.reduceLT, Nat.reduceLeDiff, Int.reduceNeg, Int.reduceAdd, Int.reduceSub, Int.reduceMul, UInt8.reduceToNat, hd, hon]) | ((first | with_reducible refine split2_pk (by omega) ?_ | with_reducible refine split2_nk (by omega) ?_); intro hsq; try simp (maxSteps := 4000000) (disch := first | omega | (simp only [push_n, set_n, clr_n, also_n, List.length_replicate, List.length_set, List.length_map, List.length_append, List.length_take, List.length_drop, List.length_cons, List.length_nil]; first | done | omega) | (with_reducible decide)) only [go_sem, Int.reduceEq, Int.reduceNe, Int.reduceLT, Int.reduceLE, Nat.reduceEqDiff, Int.reduceToNat, Nat.reduceSub, Nat.reduceAdd, Nat.reduceMul, Nat.reduceLT, Nat.reduceLeDiff, Int.reduceNeg, Int.reduceAdd, Int.reduceSub, Int.reduceMul, UInt8.reduceToNat, hd, hon, hsq]))
      (refine awp_drawP (hl := []) [eqM (H.push (some (.cells [.int .i64 d]))),  fun _ => True] [(0, some 0), (1, some 0), (2, some 0), (3, some 0), (4, some 0), (5, some 0), (6, none)] [6] (by kernel_rfl) (by rfl) (by decide +kernel) (rofP_0 ?_) ?_; rotate_left; (conv => arg 5; simp only [List.map_cons, List.map_nil, List.getElem?_toArray, List.getElem?_cons_zero, List.getElem?_cons_succ]); rotate_left)
      · rfl
      (try simp (maxSteps := 4000000) (disch := first | omega | (simp only [push_n, set_n, clr_n, also_n, List.length_replicate, List.length_set, List.length_map, List.length_append, List.length_take, List.length_drop, List.length_cons, List.length_nil]; first | done | omega) | (with_reducible decide)) only [go_sem, Int.reduceEq, Int.reduceNe, Int.reduceLT, Int.reduceLE, Nat.reduceEqDiff, Int.reduceToNat, Nat.reduceSub, Nat.reduceAdd, Nat.reduceMul, Nat.reduceLT, Nat.reduceLeDiff, Int.reduceNeg, Int.reduceAdd, Int.reduceSub, Int.reduceMul, UInt8.reduceToNat, hd, ds]; repeat first | ((first | with_reducible refine split2_pk (by omega) ?_ | with_reducible refine split2_nk (by omega) ?_); intro hsq; try simp (maxSteps := 4000000) (disch := first | omega | (simp only [push_n, set_n, clr_n, also_n, List.length_replicate, List.length_set, List.length_map, List.length_append, List.length_take, List.length_drop, List.length_cons, List.length_nil]; first | done | omega) | (with_reducible decide)) only [go_sem, Int.reduceEq, Int.reduceNe, Int.reduceLT, Int.reduceLE, Nat.reduceEqDiff, Int.reduceToNat, Nat.reduceSub, Nat.reduceAdd, Nat.reduceMul, Nat.reduceLT, Nat.reduceLeDiff, Int.reduceNeg, Int.reduceAdd, Int.reduceSub, Int.reduceMul, UInt8.reduceToNat, hd, ds, hsq]))
      rw [hset]
      generalize hH2 : (H.push (some (.cells [.int .i64 d]))).set D (some (.cells (dvs.set d.toNat .nilslice))) = H2 at *
      refine (delete_spec hw hn hfl hX2 hXf).mono ?_
      rintro r H3 ⟨hf3, c3, hb3⟩
      have hP3 := c3.cells h.pF hP2
      have hst : ∀ {i o : Nat}, storeA Try.prog 62 ⟨false, i, o⟩ r H3 = (H3.cells? i).bind fun l => gd (o < l.length) (some (H3.set i (some (.cells (l.set o r))))) := by
        intro i o
        rcases hf3 with ⟨rfl, _⟩ | ⟨_, _, rfl, _⟩
        · exact st62_1
        · exact st62_0
      (try simp (maxSteps := 4000000) (disch := first | omega | (simp only [push_n, set_n, clr_n, also_n, List.length_replicate, List.length_set, List.length_map, List.length_append, List.length_take, List.length_drop, List.length_cons, List.length_nil]; first | done | omega) | (with_reducible decide)) only [go_sem, Int.reduceEq, Int.reduceNe, Int.reduceLT, Int.reduceLE, Nat.reduceEqDiff, Int.reduceToNat, Nat.reduceSub, Nat.reduceAdd, Nat.reduceMul, Nat.reduceLT, Nat.reduceLeDiff, Int.reduceNeg, Int.reduceAdd, Int.reduceSub, Int.reduceMul, UInt8.reduceToNat, hP3, hst]; repeat first | ((first | with_reducible refine split2_pk (by omega) ?_ | with_reducible refine split2_nk (by omega) ?_); intro hsq; try simp (maxSteps := 4000000) (disch := first | omega | (simp only [push_n, set_n, clr_n, also_n, List.length_replicate, List.length_set, List.length_map, List.length_append, List.length_take, List.length_drop, List.length_cons, List.length_nil]; first | done | omega) | (with_reducible decide)) only [go_sem, Int.reduceEq, Int.reduceNe, Int.reduceLT, Int.reduceLE, Nat.reduceEqDiff, Int.reduceToNat, Nat.reduceSub, Nat.reduceAdd, Nat.reduceMul, Nat.reduceLT, Nat.reduceLeDiff, Int.reduceNeg, Int.reduceAdd, Int.reduceSub, Int.reduceMul, UInt8.reduceToNat, hP3, hst, hsq]))
      have ek : keep d A.fly = A.fly.filter fun f => decide (f.disk ≠ d.toNat) := by
        refine List.filter_congr fun f _ => ?_
        rw [decide_eq_decide]; omega
      rw [show A.lose d = (0, { A with disks := A.disks.set d.toNat none, fly := keep d A.fly }) by rw [ek]; simp [Arr.lose, hin, hon]]
      have c2 : Chg (ownB P D fv dvs) H H2 := by rw [← hH2]; exact ((Grew.push _ _).chg _).thenSet _ (.inl own_D)
      have fin := key.flies (H3 := H3) c3 (fv' := r) (fly := keep d A.fly) hf3 (fun f hf => h.wf f (List.mem_filter.1 hf).1 |> fun hh => ⟨by rw [List.length_set]; exact hh.1, hh.2⟩) (fun i hi => .inl (hb3 i hi)) (fuse := A.fuse) h.fuse A.off
      simp only [List.length_set] at fin
      refine ⟨rfl, r, _, fin, ⟨(c2.trans (c3.mono fun i hi => own_F hi)).thenSet _ (.inl own_P), fun i hi => ?_⟩⟩
      rcases own_of hi with rfl | rfl | hi | ⟨e, he, hi⟩
      · exact .inl own_P
      · exact .inl own_D
      · exact .inl (own_F (hb3 i hi))
      · rw [List.length_set] at he
        rw [getD_set (by omega)] at hi
        split at hi
        · simp [blkOf] at hi
        · exact .inl (own_E he hi)
  · rw [show A.lose d = (6, A) by simp [Arr.lose, hin]]
    have : d < 0 ∨ (A.disks.length : Int) ≤ d := by unfold Arr.inn at hin; omega
    rcases this with h1 | h1
    · refine aspec_fn (rs := [.tmp 4]) (n := 47) Try.func19 rfl rfl rfl rfl (by kernel_rfl) (Nat.le_of_ble_eq_true rfl) ?_
      (try simp (maxSteps := 4000000) (disch := first | omega | (simp only [push_n, set_n, clr_n, also_n, List.length_replicate, List.length_set, List.length_map, List.length_append, List.length_take, List.length_drop, List.length_cons, List.length_nil]; first | done | omega) | (with_reducible decide)) only [go_sem, Int.reduceEq, Int.reduceNe, Int.reduceLT, Int.reduceLE, Nat.reduceEqDiff, Int.reduceToNat, Nat.reduceSub, Nat.reduceAdd, Nat.reduceMul, Nat.reduceLT, Nat.reduceLeDiff, Int.reduceNeg, Int.reduceAdd, Int.reduceSub, Int.reduceMul, UInt8.reduceToNat, hd]; repeat first | ((first | with_reducible refine split2_pk (by omega) ?_ | with_reducible refine split2_nk (by omega) ?_); intro hsq; try simp (maxSteps := 4000000) (disch := first | omega | (simp only [push_n, set_n, clr_n, also_n, List.length_replicate, List.length_set, List.length_map, List.length_append, List.length_take, List.length_drop, List.length_cons, List.length_nil]; first | done | omega) | (with_reducible decide)) only [go_sem, Int.reduceEq, Int.reduceNe, Int.reduceLT, Int.reduceLE, Nat.reduceEqDiff, Int.reduceToNat, Nat.reduceSub, Nat.reduceAdd, Nat.reduceMul, Nat.reduceLT, Nat.reduceLeDiff, Int.reduceNeg, Int.reduceAdd, Int.reduceSub, Int.reduceMul, UInt8.reduceToNat, hd, hsq]))
      (refine awp_drawP (hl := []) [eqM (H.push (some (.cells [.int .i64 d])))] [(0, some 0), (1, some 0), (2, some 0), (3, some 0), (4, some 0), (5, some 0), (6, some 0), (7, some 0), (8, some 0), (9, some 0), (10, some 0), (11, some 0)] [] (by kernel_rfl) (by rfl) (by decide +kernel) (rofP_0 ?_) ?_; rotate_left; (conv => arg 5; simp only [List.map_cons, List.map_nil, List.getElem?_toArray, List.getElem?_cons_zero, List.getElem?_cons_succ]); rotate_left)
      · rfl
      (try simp (maxSteps := 4000000) (disch := first | omega | (simp only [push_n, set_n, clr_n, also_n, List.length_replicate, List.length_set, List.length_map, List.length_append, List.length_take, List.length_drop, List.length_cons, List.length_nil]; first | done | omega) | (with_reducible decide)) only [go_sem, Int.reduceEq, Int.reduceNe, Int.reduceLT, Int.reduceLE, Nat.reduceEqDiff, Int.reduceToNat, Nat.reduceSub, Nat.reduceAdd, Nat.reduceMul, Nat.reduceLT, Nat.reduceLeDiff, Int.reduceNeg, Int.reduceAdd, Int.reduceSub, Int.reduceMul, UInt8.reduceToNat, hd]; repeat first | ((first | with_reducible refine split2_pk (by omega) ?_ | with_reducible refine split2_nk (by omega) ?_); intro hsq; try simp (maxSteps := 4000000) (disch := first | omega | (simp only [push_n, set_n, clr_n, also_n, List.length_replicate, List.length_set, List.length_map, List.length_append, List.length_take, List.length_drop, List.length_cons, List.length_nil]; first | done | omega) | (with_reducible decide)) only [go_sem, Int.reduceEq, Int.reduceNe, Int.reduceLT, Int.reduceLE, Nat.reduceEqDiff, Int.reduceToNat, Nat.reduceSub, Nat.reduceAdd, Nat.reduceMul, Nat.reduceLT, Nat.reduceLeDiff, Int.reduceNeg, Int.reduceAdd, Int.reduceSub, Int.reduceMul, UInt8.reduceToNat, hd, hsq]))
      exact ⟨fv, dvs, hg, ⟨(Grew.push _ _).chg _, fun i hi => .inl hi⟩⟩
    · by_cases h0 : 0 ≤ d
      · refine aspec_fn (rs := [.tmp 4]) (n := 47) Try.func19 rfl rfl rfl rfl (by kernel_rfl) (Nat.le_of_ble_eq_true rfl) ?_
        (try simp (maxSteps := 4000000) (disch := first | omega | (simp only [push_n, set_n, clr_n, also_n, List.length_replicate, List.length_set, List.length_map, List.length_append, List.length_take, List.length_drop, List.length_cons, List.length_nil]; first | done | omega) | (with_reducible decide)) only [go_sem, Int.reduceEq, Int.reduceNe, Int.reduceLT, Int.reduceLE, Nat.reduceEqDiff, Int.reduceToNat, Nat.reduceSub, Nat.reduceAdd, Nat.reduceMul, Nat.reduceLT, Nat.reduceLeDiff, Int.reduceNeg, Int.reduceAdd, Int.reduceSub, Int.reduceMul, UInt8.reduceToNat, hd]; repeat first | ((first | with_reducible refine split2_pk (by omega) ?_ | with_reducible refine split2_nk (by omega) ?_); intro hsq; try simp (maxSteps := 4000000) (disch := first | omega | (simp only [push_n, set_n, clr_n, also_n, List.length_replicate, List.length_set, List.length_map, List.length_append, List.length_take, List.length_drop, List.length_cons, List.length_nil]; first | done | omega) | (with_reducible decide)) only [go_sem, Int.reduceEq, Int.reduceNe, Int.reduceLT, Int.reduceLE, Nat.reduceEqDiff, Int.reduceToNat, Nat.reduceSub, Nat.reduceAdd, Nat.reduceMul, Nat.reduceLT, Nat.reduceLeDiff, Int.reduceNeg, Int.reduceAdd, Int.reduceSub, Int.reduceMul, UInt8.reduceToNat, hd, hsq]))
        (refine awp_drawP (hl := []) [eqM (H.push (some (.cells [.int .i64 d])))] [(0, some 0), (1, some 0), (2, some 0), (3, some 0), (4, some 0), (5, some 0), (6, some 0), (7, some 0), (8, some 0), (9, some 0), (10, some 0), (11, some 0)] [] (by kernel_rfl) (by rfl) (by decide +kernel) (rofP_0 ?_) ?_; rotate_left; (conv => arg 5; simp only [List.map_cons, List.map_nil, List.getElem?_toArray, List.getElem?_cons_zero, List.getElem?_cons_succ]); rotate_left)
        · rfl
        (try simp (maxSteps := 4000000) (disch := first | omega | (simp only [push_n, set_n, clr_n, also_n, List.length_replicate, List.length_set, List.length_map, List.length_append, List.length_take, List.length_drop, List.length_cons, List.length_nil]; first | done | omega) | (with_reducible decide)) only [go_sem, Int.reduceEq, Int.reduceNe, Int.reduceLT, Int.reduceLE, Nat.reduceEqDiff, Int.reduceToNat, Nat.reduceSub, Nat.reduceAdd, Nat.reduceMul, Nat.reduceLT, Nat.reduceLeDiff, Int.reduceNeg, Int.reduceAdd, Int.reduceSub, Int.reduceMul, UInt8.reduceToNat, hd]; repeat first | ((first | with_reducible refine split2_pk (by omega) ?_ | with_reducible refine split2_nk (by omega) ?_); intro hsq; try simp (maxSteps := 4000000) (disch := first | omega | (simp only [push_n, set_n, clr_n, also_n, List.length_replicate, List.length_set, List.length_map, List.length_append, List.length_take, List.length_drop, List.length_cons, List.length_nil]; first | done | omega) | (with_reducible decide)) only [go_sem, Int.reduceEq, Int.reduceNe, Int.reduceLT, Int.reduceLE, Nat.reduceEqDiff, Int.reduceToNat, Nat.reduceSub, Nat.reduceAdd, Nat.reduceMul, Nat.reduceLT, Nat.reduceLeDiff, Int.reduceNeg, Int.reduceAdd, Int.reduceSub, Int.reduceMul, UInt8.reduceToNat, hd, hsq]))
        exact ⟨fv, dvs, hg, ⟨(Grew.push _ _).chg _, fun i hi => .inl hi⟩⟩
      · omega
end
end Go.Proofs.Ytickckpndpeppaa
