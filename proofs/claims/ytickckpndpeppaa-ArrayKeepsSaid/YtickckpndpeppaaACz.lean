/- The calls of chapter 6's statements, as they come in. -/
import Derived.Test.YtickckpndpeppaaL6z
import Derived.Test.YtickckpndpeppaaAWz
namespace Go.Proofs.Ytickckpndpeppaa
open Go Go.Abs Go.Abs.GF
set_option linter.unusedVariables false
set_option linter.unusedSimpArgs false
set_option maxHeartbeats 4000000
attribute [local irreducible] ASpec AWp WP AOps DOps

structure ActV where
  what : Int
  disk : Int
  pos : Int
  x : UInt8
  v : AV
  bs : List UInt8
  short : Bool
instance : Inhabited ActV := ⟨⟨0, 0, 0, 0, .nilslice, [], false⟩⟩
def actC (a : ActV) : List AV := [.int .i64 a.what, .int .i64 a.disk, .int .i64 a.pos, bv a.x, a.v, .bool a.short]
def i64ok (n : Int) : Prop := -9223372036854775808 ≤ n ∧ n ≤ 9223372036854775807
structure ActOk (H : AH) (a : ActV) : Prop where
  b : IsBytes H a.v a.bs
  l : a.bs.length ≤ 140737488351232
  w : i64ok a.what
  d : i64ok a.disk
  p : i64ok a.pos
structure IsActs (H : AH) (v : AV) (acs : List ActV) : Prop where
  row : Row H 6 v acs.length (acs.flatMap actC)
  each : ∀ i, i < acs.length → ActOk H (acs.getD i default)
theorem act_dat {H : AH} {f : Nat} {l : List AV} (D : Dat Try.prog H f 36 l) : ∃ a : ActV, l = actC a ∧ ActOk H a := by
  obtain ⟨hl, f, D⟩ := D.struct Try.underlying36 sz36
  match l, hl with
  | [c0, c1, c2, c3, c4, c5], _ =>
    have d0 : Dat Try.prog H f 3 [c0] := D 0 rfl sz3
    have d1 : Dat Try.prog H f 3 [c1] := D 1 rfl sz3
    have d2 : Dat Try.prog H f 3 [c2] := D 2 rfl sz3
    have d3 : Dat Try.prog H f 5 [c3] := D 3 rfl sz5
    have d4 : Dat Try.prog H f 27 [c4] := D 4 rfl sz27
    have d5 : Dat Try.prog H f 4 [c5] := D 5 rfl sz4
    obtain ⟨k0, h0, b0⟩ := d0.i64 Try.underlying3
    obtain ⟨k1, h1, b1⟩ := d1.i64 Try.underlying3
    obtain ⟨k2, h2, b2⟩ := d2.i64 Try.underlying3
    obtain ⟨x, h3⟩ := d3.byte Try.underlying5
    obtain ⟨w, bs, h4, b4, l4⟩ := d4.bytes Try.underlying27 Try.underlying5 sz5 by5
    obtain ⟨s, h5⟩ := d5.bool Try.underlying4
    simp at h0 h1 h2 h3 h4 h5
    exact ⟨⟨k0, k1, k2, x, w, bs, s⟩, by rw [h0, h1, h2, h3, h4, h5]; rfl, ⟨b4, l4, b0, b1, b2⟩⟩
theorem chunksA {H : AH} : ∀ {k : Nat} {row : List AV}, row.length = k * 6 → (∀ i, i < k → ∃ a : ActV, (row.drop (i * 6)).take 6 = actC a ∧ ActOk H a) → ∃ acs : List ActV, acs.length = k ∧ row = acs.flatMap actC ∧ ∀ i, i < k → ActOk H (acs.getD i default)
  | 0, row, hl, _ => ⟨[], rfl, List.eq_nil_of_length_eq_zero (by omega), fun i hi => by omega⟩
  | k + 1, row, hl, h => by
    obtain ⟨a, ha, hok⟩ := h 0 (by omega)
    obtain ⟨acs, h1, h2, h3⟩ := chunksA (k := k) (row := row.drop 6) (by rw [List.length_drop]; omega) fun i hi => by
      obtain ⟨a, ha⟩ := h (i + 1) (by omega)
      refine ⟨a, ?_⟩
      rw [List.drop_drop, show 6 + i * 6 = (i + 1) * 6 by omega]; exact ha
    refine ⟨a :: acs, by simp [h1], ?_, fun i hi => ?_⟩
    · rw [List.flatMap_cons, ← h2, ← ha, Nat.zero_mul, List.drop_zero, List.take_append_drop]
    · cases i with
      | zero => exact hok
      | succ i => exact h3 i (by omega)
theorem acts_dat {H : AH} {f : Nat} {v : AV} (D : Dat Try.prog H f 34 [v]) : ∃ acs : List ActV, IsActs H v acs ∧ acs.length ≤ 140737488351232 := by
  obtain ⟨v', k, row, e, hr, hb, m, hd⟩ := D.slice Try.underlying34 sz36 by36
  obtain rfl : v = v' := by simpa using e
  obtain ⟨acs, h1, h2, h3⟩ := chunksA hr.size fun i hi => act_dat (hd i hi)
  subst h1 h2
  exact ⟨acs, ⟨hr, h3⟩, by omega⟩
theorem acts_get {acs : List ActV} {i : Nat} (h : i < acs.length) : ((acs.flatMap actC).drop (i * 6)).take 6 = actC (acs.getD i default) := by
  rw [show acs.getD i default = acs[i] by simp [List.getD, h]]
  exact flat_get (f := actC) (w := 6) (fun _ _ => rfl) h
theorem ActOk.grew {H H' : AH} {a : ActV} (h : ActOk H a) (g : Grew H H') : ActOk H' a := { h with b := h.b.grew g }
theorem IsActs.grew {H H' : AH} {v : AV} {acs : List ActV} (h : IsActs H v acs) (g : Grew H H') : IsActs H' v acs := ⟨h.row.grew g, fun i hi => (h.each i hi).grew g⟩
theorem IsActs.ld {H : AH} {v : AV} {acs : List ActV} (h : IsActs H v acs) {i : Nat} (hi : i < acs.length) :
    ((H.get (eltA v i 6)).bind fun cs => gd ((eltA v i 6).off + 6 ≤ cs.length) (some (AV.agg ((cs.drop (eltA v i 6).off).take 6)))) = some (.agg (actC (acs.getD i default))) := by
  rw [Row.ldA h.row (by omega) hi, acts_get hi]
theorem actC_one {H : AH} {a : ActV} (h : ActOk H a) : (actC a).all oneA = true := by
  have : oneA a.v = true := by
    rcases h.b.elim with ⟨e, _⟩ | ⟨_, _, _, e, _⟩ <;> rw [e] <;> rfl
  simp only [actC, List.all_cons, this, bv]; rfl
/-- What an act writes. -/
def secOf (a : ActV) : List UInt8 := if a.short then a.bs else a.bs.take 64 ++ List.replicate (64 - a.bs.length) a.x
theorem secOf_len {a : ActV} (h : a.short = false) : (secOf a).length = 64 := by simp [secOf, h]; omega
theorem secOf_le {a : ActV} {H : AH} (h : ActOk H a) : (secOf a).length ≤ 140737488351232 := by
  have := h.l
  unfold secOf; split
  · exact h.l
  · simp; omega
theorem sector_specB {H : AH} {a : ActV} (h : ActOk H a) : ASpec Try.prog 23 [.agg (actC a)] H fun r H' => ∃ B c, r = .slice ⟨false, B, 0⟩ (secOf a).length c ∧ IsBytes H' r (secOf a) ∧ Grew H H' ∧ H.n ≤ B ∧ B < H'.n := by
  have e2 := actC_one h
  have e4 : actC a = [.int .i64 a.what, .int .i64 a.disk, .int .i64 a.pos, bv a.x, a.v, .bool a.short] := rfl
  have e3 : (actC a).length = 6 := rfl
  have gp := Grew.push H (some (.cells (actC a)))
  cases hs : a.short with
  | true =>
    rw [hs] at e4
    have hn := fun {X : Option ABlk} => ((h.b.grew gp).grew (Grew.push _ X)).news
    rw [e4] at hn
    have hl := h.l
    refine aspec_fn (rs := [.tmp 2]) (n := 18) Try.func23 rfl rfl rfl rfl (by kernel_rfl) (Nat.le_of_ble_eq_true rfl) ?_
    (try simp (maxSteps := 4000000) (disch := first | omega | (simp only [push_n, set_n, clr_n, also_n, List.length_replicate, List.length_set, List.length_map, List.length_append, List.length_take, List.length_drop, List.length_cons, List.length_nil]; first | done | omega) | (with_reducible decide)) only [go_sem, Int.reduceEq, Int.reduceNe, Int.reduceLT, Int.reduceLE, Nat.reduceEqDiff, Int.reduceToNat, Nat.reduceSub, Nat.reduceAdd, Nat.reduceMul, Nat.reduceLT, Nat.reduceLeDiff, Int.reduceNeg, Int.reduceAdd, Int.reduceSub, Int.reduceMul, UInt8.reduceToNat, e4, hn, all_one_bv]; repeat first | ((first | with_reducible refine split2_pk (by omega) ?_ | with_reducible refine split2_nk (by omega) ?_); intro hsq; try simp (maxSteps := 4000000) (disch := first | omega | (simp only [push_n, set_n, clr_n, also_n, List.length_replicate, List.length_set, List.length_map, List.length_append, List.length_take, List.length_drop, List.length_cons, List.length_nil]; first | done | omega) | (with_reducible decide)) only [go_sem, Int.reduceEq, Int.reduceNe, Int.reduceLT, Int.reduceLE, Nat.reduceEqDiff, Int.reduceToNat, Nat.reduceSub, Nat.reduceAdd, Nat.reduceMul, Nat.reduceLT, Nat.reduceLeDiff, Int.reduceNeg, Int.reduceAdd, Int.reduceSub, Int.reduceMul, UInt8.reduceToNat, e4, hn, all_one_bv, hsq]))
    have e : secOf a = a.bs := by simp [secOf, hs]
    rw [e, ← e4]
    exact ⟨_, _, rfl, bytes_whole (push_cells_at (by simp only [push_n])) rfl, (gp.trans (Grew.push _ _)).trans (Grew.push _ _), by omega, by omega⟩
  | false =>
    rw [hs] at e4
    rw [e4] at gp
    refine aspec_fn (rs := [.tmp 2]) (n := 18) Try.func23 rfl rfl rfl rfl (by kernel_rfl) (Nat.le_of_ble_eq_true rfl) ?_
    (try simp (maxSteps := 4000000) (disch := first | omega | (simp only [push_n, set_n, clr_n, also_n, List.length_replicate, List.length_set, List.length_map, List.length_append, List.length_take, List.length_drop, List.length_cons, List.length_nil]; first | done | omega) | (with_reducible decide)) only [go_sem, Int.reduceEq, Int.reduceNe, Int.reduceLT, Int.reduceLE, Nat.reduceEqDiff, Int.reduceToNat, Nat.reduceSub, Nat.reduceAdd, Nat.reduceMul, Nat.reduceLT, Nat.reduceLeDiff, Int.reduceNeg, Int.reduceAdd, Int.reduceSub, Int.reduceMul, UInt8.reduceToNat, e4]; repeat first | ((first | with_reducible refine split2_pk (by omega) ?_ | with_reducible refine split2_nk (by omega) ?_); intro hsq; try simp (maxSteps := 4000000) (disch := first | omega | (simp only [push_n, set_n, clr_n, also_n, List.length_replicate, List.length_set, List.length_map, List.length_append, List.length_take, List.length_drop, List.length_cons, List.length_nil]; first | done | omega) | (with_reducible decide)) only [go_sem, Int.reduceEq, Int.reduceNe, Int.reduceLT, Int.reduceLE, Nat.reduceEqDiff, Int.reduceToNat, Nat.reduceSub, Nat.reduceAdd, Nat.reduceMul, Nat.reduceLT, Nat.reduceLeDiff, Int.reduceNeg, Int.reduceAdd, Int.reduceSub, Int.reduceMul, UInt8.reduceToNat, e4, hsq]))
    refine (full_specC _ a.x).mono ?_
    rintro r H1 ⟨B, rfl, h1, g1, hc⟩
    have hn := ((h.b.grew gp).grew g1).news
    have hbox := g1.cells_some (push_cells H [.int .i64 a.what, .int .i64 a.disk, .int .i64 a.pos, bv a.x, a.v, .bool false])
    have hBn := cells_lt hc
    rw [push_n] at h1
    have gt := gp.trans g1
    cases hbs : a.bs with
    | nil =>
      rw [hbs] at hn
      have e : secOf a = List.replicate 64 a.x := by simp [secOf, hs, hbs]
      have hst : storeCellsA H1 B 0 [] = some H1 := rfl
      (try simp (maxSteps := 4000000) (disch := first | omega | (simp only [push_n, set_n, clr_n, also_n, List.length_replicate, List.length_set, List.length_map, List.length_append, List.length_take, List.length_drop, List.length_cons, List.length_nil]; first | done | omega) | (with_reducible decide)) only [go_sem, Int.reduceEq, Int.reduceNe, Int.reduceLT, Int.reduceLE, Nat.reduceEqDiff, Int.reduceToNat, Nat.reduceSub, Nat.reduceAdd, Nat.reduceMul, Nat.reduceLT, Nat.reduceLeDiff, Int.reduceNeg, Int.reduceAdd, Int.reduceSub, Int.reduceMul, UInt8.reduceToNat, hn, hbox, hc, hst]; repeat first | ((first | with_reducible refine split2_pk (by omega) ?_ | with_reducible refine split2_nk (by omega) ?_); intro hsq; try simp (maxSteps := 4000000) (disch := first | omega | (simp only [push_n, set_n, clr_n, also_n, List.length_replicate, List.length_set, List.length_map, List.length_append, List.length_take, List.length_drop, List.length_cons, List.length_nil]; first | done | omega) | (with_reducible decide)) only [go_sem, Int.reduceEq, Int.reduceNe, Int.reduceLT, Int.reduceLE, Nat.reduceEqDiff, Int.reduceToNat, Nat.reduceSub, Nat.reduceAdd, Nat.reduceMul, Nat.reduceLT, Nat.reduceLeDiff, Int.reduceNeg, Int.reduceAdd, Int.reduceSub, Int.reduceMul, UInt8.reduceToNat, hn, hbox, hc, hst, hsq]))
      rw [e]
      have hb := bytes_whole (H := H1) (i := B) (xs := List.replicate 64 a.x) hc (c := .known 64) (by rw [List.length_replicate]; rfl)
      rw [List.length_replicate] at hb
      rw [show (List.replicate 64 a.x).length = 64 by simp]
      exact ⟨_, _, rfl, hb, gt, by omega, hBn⟩
    | cons y ys =>
      have hpos : 0 < a.bs.length := by rw [hbs]; simp
      have e : secOf a = a.bs.take 64 ++ List.replicate (64 - a.bs.length) a.x := by simp [secOf, hs]
      have hst : storeCellsA H1 B 0 ((a.bs.map bv).take (min a.bs.length 64)) = some (H1.set B (some (.cells ((secOf a).map bv)))) := by
        rw [store_cells _ _ _ (by simp; omega), ← List.map_take, all_one_bv, gdb_true, hc, Option.bind_some, gd_pos (by simp; omega)]
        congr 4
        rw [e, putL, List.take_zero, List.nil_append, List.map_append, ← List.map_drop, List.drop_replicate, List.length_map, List.length_take, Nat.zero_add]
        have t1 : a.bs.take (min a.bs.length 64) = a.bs.take 64 := by
          by_cases h64 : a.bs.length ≤ 64
          · rw [Nat.min_eq_left h64, List.take_of_length_le (Nat.le_refl _), List.take_of_length_le h64]
          · rw [Nat.min_eq_right (by omega)]
        rw [t1]
        congr 3; omega
      (try simp (maxSteps := 4000000) (disch := first | omega | (simp only [push_n, set_n, clr_n, also_n, List.length_replicate, List.length_set, List.length_map, List.length_append, List.length_take, List.length_drop, List.length_cons, List.length_nil]; first | done | omega) | (with_reducible decide)) only [go_sem, Int.reduceEq, Int.reduceNe, Int.reduceLT, Int.reduceLE, Nat.reduceEqDiff, Int.reduceToNat, Nat.reduceSub, Nat.reduceAdd, Nat.reduceMul, Nat.reduceLT, Nat.reduceLeDiff, Int.reduceNeg, Int.reduceAdd, Int.reduceSub, Int.reduceMul, UInt8.reduceToNat, hn, hbox, hc, hst]; repeat first | ((first | with_reducible refine split2_pk (by omega) ?_ | with_reducible refine split2_nk (by omega) ?_); intro hsq; try simp (maxSteps := 4000000) (disch := first | omega | (simp only [push_n, set_n, clr_n, also_n, List.length_replicate, List.length_set, List.length_map, List.length_append, List.length_take, List.length_drop, List.length_cons, List.length_nil]; first | done | omega) | (with_reducible decide)) only [go_sem, Int.reduceEq, Int.reduceNe, Int.reduceLT, Int.reduceLE, Nat.reduceEqDiff, Int.reduceToNat, Nat.reduceSub, Nat.reduceAdd, Nat.reduceMul, Nat.reduceLT, Nat.reduceLeDiff, Int.reduceNeg, Int.reduceAdd, Int.reduceSub, Int.reduceMul, UInt8.reduceToNat, hn, hbox, hc, hst, hsq]))
      have hb := bytes_whole (H := H1.set B (some (.cells ((secOf a).map bv)))) (i := B) (xs := secOf a) (set_cells _ _ hBn) (c := .known 64) (by rw [secOf_len hs]; rfl)
      rw [secOf_len hs] at hb
      rw [secOf_len hs]
      exact ⟨_, _, rfl, hb, gt.set (by omega) _, by omega, hBn⟩
theorem sector_spec {H : AH} {a : ActV} (h : ActOk H a) : ASpec Try.prog 23 [.agg (actC a)] H fun r H' => IsBytes H' r (secOf a) ∧ Grew H H' ∧ ∀ i ∈ blkOf r, H.n ≤ i ∧ i < H'.n := by
  refine (sector_specB h).mono ?_
  rintro r H' ⟨B, c, rfl, h1, h2, h3, h4⟩
  exact ⟨h1, h2, by simp only [blkOf, List.mem_cons, List.not_mem_nil, or_false]; omega⟩
end Go.Proofs.Ytickckpndpeppaa
