/- The document's arrays of disks: what lasts; barriers and crashes. -/
import Derived.Test.YtickckpndpeppaaDM2z
namespace Go.Proofs.Ytickckpndpeppaa
open Go Go.Abs Go.Abs.GF
set_option linter.unusedVariables false
set_option linter.unusedSimpArgs false
set_option maxHeartbeats 4000000
attribute [local irreducible] ASpec AWp WP AOps DOps

abbrev RDs := List RD

section
variable {H : AH} {P D : Nat} {lv : AV} {ds : List RD} {fl : List RF} {A : Arr}
theorem allR_set {d : Nat} (hd : d < ds.length) {x : RD} {i : Nat} (h : i ∈ allR P D lv (ds.set d x) fl) : i ∈ allR P D lv ds fl ∨ i ∈ blkOf x.sv ∨ ∃ w ∈ x.ws, i ∈ blkOf w := by
  rcases allR_of h with h | h
  · rcases own_ofR h with rfl | rfl | hi | ⟨e, he, hi⟩
    · exact .inl (allR_own own_PR)
    · exact .inl (allR_own own_DR)
    · exact .inl (allR_own (own_lv hi))
    · rw [List.length_set] at he
      rw [getD_setR hd] at hi
      split at hi
      · exact .inr (.inl hi)
      · exact .inl (allR_own (own_sv he hi))
  · rcases rows_of h with ⟨e, he, w, hw, hi⟩ | ⟨f, hf, hi⟩
    · rw [List.length_set] at he
      rw [getD_setR hd] at hw
      split at hw
      · exact .inr (.inr ⟨w, hw, hi⟩)
      · exact .inl (allR_row (rows_d he hw hi))
    · exact .inl (allR_row (rows_f hf hi))
theorem allR_lay {d j : Nat} (hd : d < ds.length) {w : AV} {o : Option (List (List UInt8))} {i : Nat} (h : i ∈ allR P D lv (ds.set d ⟨(ds.getD d default).sv, (ds.getD d default).ws.set j w, o⟩) fl) : i ∈ allR P D lv ds fl ∨ i ∈ blkOf w := by
  rcases allR_set hd h with h2 | h2 | ⟨u, hu, h2⟩
  · exact .inl h2
  · exact .inl (allR_own (own_sv hd h2))
  · rcases List.mem_or_eq_of_mem_set hu with h1 | h1
    · exact .inl (allR_row (rows_d hd h1 h2))
    · rw [h1] at h2; exact .inr h2
theorem allR_nil {i : Nat} (h : i ∈ allR P D .nilslice ds []) : i ∈ allR P D lv ds fl := by
  rcases allR_of h with h | h
  · rcases own_ofR h with rfl | rfl | hi | ⟨e, he, hi⟩
    · exact allR_own own_PR
    · exact allR_own own_DR
    · simp [blkOf] at hi
    · exact allR_own (own_sv he hi)
  · rcases rows_of h with ⟨e, he, w, hw, hi⟩ | ⟨f, hf, hi⟩
    · exact allR_row (rows_d he hw hi)
    · simp at hf
/-- What is in flight is gone. -/
theorem IsRef.none (h : IsRef H P D lv ds fl A) {fuse : Nat} (hf : fuse < 9223372036854775808) (off : Bool) :
    IsRef (H.set P (some (.cells [.slice ⟨false, D, 0⟩ ds.length (.grow 2), .int .i64 A.count, .nilslice, .int .i64 fuse, .bool off]))) P D .nilslice ds [] { A with fly := [], fuse := fuse, off := off } :=
  h.flies (Chg.refl _ _) (.inl ⟨rfl, rfl⟩) (by simp [blkOf]) (by simp) (by simp) (by simp [blkOf]) hf off
/-- A write lasts: what is read, what is stored. -/
structure LandOk (H : AH) (P D B L : Nat) (ds : List RD) (fl : List RF) (A : Arr) (j : Nat) (ss : List (List UInt8)) : Prop where
  hd : H.cells? P = some [.slice ⟨false, D, 0⟩ ds.length (.grow 2), .int .i64 A.count, .slice ⟨false, L, 0⟩ fl.length (.grow 3), .int .i64 A.fuse, .bool A.off]
  dc : H.cells? D = some (rdC ds)
  fc : H.cells? L = some (rfC fl)
  wc : H.cells? B = some (ds.getD (fl.getD j default).f.disk default).ws
  c0 : (rfC fl)[j * 3]? = some (.int .i64 (fl.getD j default).f.disk)
  c1 : (rfC fl)[j * 3 + 1]? = some (.int .i64 (fl.getD j default).f.pos)
  c2 : (rfC fl)[j * 3 + 2]? = some (fl.getD j default).w
  d0 : (rdC ds)[(fl.getD j default).f.disk * 2]? = some (.slice ⟨false, B, 0⟩ A.count (.grow 1))
  dl : (fl.getD j default).f.disk < ds.length
  pl : (fl.getD j default).f.pos < A.count
  wl : (ds.getD (fl.getD j default).f.disk default).ws.length = A.count
  row : OkRow H (ownR P D (.slice ⟨false, L, 0⟩ fl.length (.grow 3)) ds) (fl.getD j default).w (fl.getD j default).f.data
  l1 : P < H.n ∧ D < H.n ∧ L < H.n ∧ B < H.n
  cl : A.count ≤ 4096
  fin : IsRef ((H.push (some (.cells ((fl.getD j default).f.data.map bv)))).set B (some (.cells ((ds.getD (fl.getD j default).f.disk default).ws.set (fl.getD j default).f.pos (.slice ⟨false, H.n, 0⟩ 64 (.grow 1)))))) P D (.slice ⟨false, L, 0⟩ fl.length (.grow 3))
      (ds.set (fl.getD j default).f.disk ⟨(ds.getD (fl.getD j default).f.disk default).sv, (ds.getD (fl.getD j default).f.disk default).ws.set (fl.getD j default).f.pos (.slice ⟨false, H.n, 0⟩ 64 (.grow 1)), some (ss.set (fl.getD j default).f.pos (fl.getD j default).f.data)⟩) fl (A.land (fl.getD j default).f)
  went : Went H (allR P D (.slice ⟨false, L, 0⟩ fl.length (.grow 3)) ds fl) ((H.push (some (.cells ((fl.getD j default).f.data.map bv)))).set B (some (.cells ((ds.getD (fl.getD j default).f.disk default).ws.set (fl.getD j default).f.pos (.slice ⟨false, H.n, 0⟩ 64 (.grow 1))))))
      (allR P D (.slice ⟨false, L, 0⟩ fl.length (.grow 3)) (ds.set (fl.getD j default).f.disk ⟨(ds.getD (fl.getD j default).f.disk default).sv, (ds.getD (fl.getD j default).f.disk default).ws.set (fl.getD j default).f.pos (.slice ⟨false, H.n, 0⟩ 64 (.grow 1)), some (ss.set (fl.getD j default).f.pos (fl.getD j default).f.data)⟩) fl)
theorem IsRef.landOk (h : IsRef H P D lv ds fl A) (hg : A.good) {j : Nat} (hj : j < fl.length) : ∃ B L ss, lv = .slice ⟨false, L, 0⟩ fl.length (.grow 3) ∧ LandOk H P D B L ds fl A j ss := by
  rcases h.fk with ⟨_, e⟩ | ⟨L, rfl, f1⟩
  · rw [e] at hj; simp at hj
  have hjA : j < A.fly.length := by rw [h.flen]; exact hj
  obtain ⟨g1, g2, g3⟩ := good_get hg hjA
  rw [h.fnth hj] at g1 g2 g3
  have hrow := h.fw (fl.getD j default) (by rw [show fl.getD j default = fl[j] by simp [List.getD, hj]]; exact List.getElem_mem hj)
  have c0 := rfC_0 hj
  have c1 := rfC_1 hj
  have c2 := rfC_2 hj
  generalize hf : fl.getD j default = f at *
  obtain ⟨g4, g5⟩ := Arr.on_nat.1 g1
  rw [h.len] at g4
  rw [h.nth] at g5
  obtain ⟨ss, hs⟩ := Option.isSome_iff_exists.1 g5
  obtain ⟨s1, s2, ⟨B, s3, s4⟩, s5⟩ := h.disk g4 hs
  have d0 := rdC_0 g4
  rw [s3] at d0
  have hb := bytes_whole (H := H.push (some (.cells (f.f.data.map bv)))) (push_cells _ _) (c := .grow 1) (by rfl)
  rw [g3] at hb
  have hlt := h.ltA
  have hok : OkRow (H.push (some (.cells (f.f.data.map bv)))) (ownR P D (.slice ⟨false, L, 0⟩ fl.length (.grow 3)) ds) (.slice ⟨false, H.n, 0⟩ 64 (.grow 1)) f.f.data := by
    refine ⟨hb, fun q hq hm => ?_, fun q hq => ?_, g3⟩
    · simp only [blkOf, List.mem_cons, List.not_mem_nil, or_false] at hq
      have := h.lt q hm; omega
    · simp only [blkOf, List.mem_cons, List.not_mem_nil, or_false] at hq
      rw [push_n]; omega
  have fin := (h.grew (Grew.push H (some (.cells (f.f.data.map bv))))).lay g4 hs g2 hok s3
  have eA : A.land f.f = { A with disks := A.disks.set f.f.disk (some (ss.set f.f.pos f.f.data)) } := by
    have : A.disks.getD f.f.disk Option.none = some ss := by rw [h.nth]; exact hs
    simp only [Arr.land, g1, if_true, this, Option.map_some]
  refine ⟨B, L, ss, rfl, ?_⟩
  constructor
  all_goals try rw [hf]
  · exact h.hd
  · exact h.dc
  · exact f1
  · exact s4
  · exact c0
  · exact c1
  · exact c2
  · exact d0
  · exact g4
  · exact g2
  · exact s2
  · exact hrow
  · exact ⟨cells_lt h.hd, cells_lt h.dc, cells_lt f1, cells_lt s4⟩
  · exact h.cnt.2
  · rw [eA]; exact fin
  · have hB : B ∈ ownR P D (.slice ⟨false, L, 0⟩ fl.length (.grow 3)) ds := own_sv g4 (by rw [s3]; simp [blkOf])
    refine ⟨((Grew.push _ _).chg _).thenSet _ (.inl (allR_own hB)), fun i hi => ?_⟩
    rcases allR_lay g4 hi with h1 | h1
    · exact .inl h1
    · simp only [blkOf, List.mem_cons, List.not_mem_nil, or_false] at h1; exact .inr (by omega)
theorem refBarrier_spec (h : IsRef H P D lv ds fl A) (hg : A.good) (hn : A.fly.length < 1000000) : ASpec Try.prog 30 [.ptr ⟨false, P, 0⟩] H fun r H' => r = .int .i64 (A.barrier.1 : Nat) ∧ ∃ lv' ds' fl', IsRef H' P D lv' ds' fl' A.barrier.2 ∧ Went H (allR P D lv ds fl) H' (allR P D lv' ds' fl') := by
  have hd := h.hd
  cases hoff : A.off with
  | true =>
    rw [hoff] at hd
    rw [show A.barrier = (8, A) by simp [Arr.barrier, hoff]]
    refine aspec_fn (rs := [.tmp 2]) (n := 55) Try.func30 rfl rfl rfl rfl (by kernel_rfl) (Nat.le_of_ble_eq_true rfl) ?_
    (try simp (maxSteps := 4000000) (disch := first | omega | (simp only [push_n, set_n, clr_n, also_n, List.length_replicate, List.length_set, List.length_map, List.length_append, List.length_take, List.length_drop, List.length_cons, List.length_nil]; first | done | omega) | (with_reducible decide)) only [go_sem, Int.reduceEq, Int.reduceNe, Int.reduceLT, Int.reduceLE, Nat.reduceEqDiff, Int.reduceToNat, Nat.reduceSub, Nat.reduceAdd, Nat.reduceMul, Nat.reduceLT, Nat.reduceLeDiff, Int.reduceNeg, Int.reduceAdd, Int.reduceSub, Int.reduceMul, UInt8.reduceToNat, hd]; repeat first | ((first | with_reducible refine split2_pk (by omega) ?_ | with_reducible refine split2_nk (by omega) ?_); intro hsq; try simp (maxSteps := 4000000) (disch := first | omega | (simp only [push_n, set_n, clr_n, also_n, List.length_replicate, List.length_set, List.length_map, List.length_append, List.length_take, List.length_drop, List.length_cons, List.length_nil]; first | done | omega) | (with_reducible decide)) only [go_sem, Int.reduceEq, Int.reduceNe, Int.reduceLT, Int.reduceLE, Nat.reduceEqDiff, Int.reduceToNat, Nat.reduceSub, Nat.reduceAdd, Nat.reduceMul, Nat.reduceLT, Nat.reduceLeDiff, Int.reduceNeg, Int.reduceAdd, Int.reduceSub, Int.reduceMul, UInt8.reduceToNat, hd, hsq]))
    exact ⟨lv, ds, fl, h, Went.refl _ _⟩
  | false =>
    rw [hoff] at hd
    refine aspec_fn (rs := [.tmp 2]) (n := 55) Try.func30 rfl rfl rfl rfl (by kernel_rfl) (Nat.le_of_ble_eq_true rfl) ?_
    (try simp (maxSteps := 4000000) (disch := first | omega | (simp only [push_n, set_n, clr_n, also_n, List.length_replicate, List.length_set, List.length_map, List.length_append, List.length_take, List.length_drop, List.length_cons, List.length_nil]; first | done | omega) | (with_reducible decide)) only [go_sem, Int.reduceEq, Int.reduceNe, Int.reduceLT, Int.reduceLE, Nat.reduceEqDiff, Int.reduceToNat, Nat.reduceSub, Nat.reduceAdd, Nat.reduceMul, Nat.reduceLT, Nat.reduceLeDiff, Int.reduceNeg, Int.reduceAdd, Int.reduceSub, Int.reduceMul, UInt8.reduceToNat, hd]; repeat first | ((first | with_reducible refine split2_pk (by omega) ?_ | with_reducible refine split2_nk (by omega) ?_); intro hsq; try simp (maxSteps := 4000000) (disch := first | omega | (simp only [push_n, set_n, clr_n, also_n, List.length_replicate, List.length_set, List.length_map, List.length_append, List.length_take, List.length_drop, List.length_cons, List.length_nil]; first | done | omega) | (with_reducible decide)) only [go_sem, Int.reduceEq, Int.reduceNe, Int.reduceLT, Int.reduceLE, Nat.reduceEqDiff, Int.reduceToNat, Nat.reduceSub, Nat.reduceAdd, Nat.reduceMul, Nat.reduceLT, Nat.reduceLeDiff, Int.reduceNeg, Int.reduceAdd, Int.reduceSub, Int.reduceMul, UInt8.reduceToNat, hd, hsq]))
    refine (refGoes_spec h hoff).mono ?_
    rintro r H1 ⟨rfl, h1, c1⟩
    have w0 : Went H (allR P D lv ds fl) H1 (allR P D lv ds fl) := ⟨c1.mono fun j hj => by simp only [List.mem_cons, List.not_mem_nil, or_false] at hj; subst hj; exact allR_own own_PR, fun j hj => .inl hj⟩
    cases hbt : A.burnt with
    | true =>
      (try simp (maxSteps := 4000000) (disch := first | omega | (simp only [push_n, set_n, clr_n, also_n, List.length_replicate, List.length_set, List.length_map, List.length_append, List.length_take, List.length_drop, List.length_cons, List.length_nil]; first | done | omega) | (with_reducible decide)) only [go_sem, Int.reduceEq, Int.reduceNe, Int.reduceLT, Int.reduceLE, Nat.reduceEqDiff, Int.reduceToNat, Nat.reduceSub, Nat.reduceAdd, Nat.reduceMul, Nat.reduceLT, Nat.reduceLeDiff, Int.reduceNeg, Int.reduceAdd, Int.reduceSub, Int.reduceMul, UInt8.reduceToNat]; repeat first | ((first | with_reducible refine split2_pk (by omega) ?_ | with_reducible refine split2_nk (by omega) ?_); intro hsq; try simp (maxSteps := 4000000) (disch := first | omega | (simp only [push_n, set_n, clr_n, also_n, List.length_replicate, List.length_set, List.length_map, List.length_append, List.length_take, List.length_drop, List.length_cons, List.length_nil]; first | done | omega) | (with_reducible decide)) only [go_sem, Int.reduceEq, Int.reduceNe, Int.reduceLT, Int.reduceLE, Nat.reduceEqDiff, Int.reduceToNat, Nat.reduceSub, Nat.reduceAdd, Nat.reduceMul, Nat.reduceLT, Nat.reduceLeDiff, Int.reduceNeg, Int.reduceAdd, Int.reduceSub, Int.reduceMul, UInt8.reduceToNat, hsq]))
      rw [show A.barrier = (8, A.burn) by simp [Arr.barrier, hoff, hbt]]
      exact ⟨rfl, lv, ds, fl, h1, w0⟩
    | false =>
      have hfn : fl.length < 1000000 := by rw [← h.flen]; exact hn
      have hA1 : A.burn.fly.length = fl.length := h1.flen
      have hg1 := hg.burn
      (try simp (maxSteps := 4000000) (disch := first | omega | (simp only [push_n, set_n, clr_n, also_n, List.length_replicate, List.length_set, List.length_map, List.length_append, List.length_take, List.length_drop, List.length_cons, List.length_nil]; first | done | omega) | (with_reducible decide)) only [go_sem, Int.reduceEq, Int.reduceNe, Int.reduceLT, Int.reduceLE, Nat.reduceEqDiff, Int.reduceToNat, Nat.reduceSub, Nat.reduceAdd, Nat.reduceMul, Nat.reduceLT, Nat.reduceLeDiff, Int.reduceNeg, Int.reduceAdd, Int.reduceSub, Int.reduceMul, UInt8.reduceToNat]; repeat first | ((first | with_reducible refine split2_pk (by omega) ?_ | with_reducible refine split2_nk (by omega) ?_); intro hsq; try simp (maxSteps := 4000000) (disch := first | omega | (simp only [push_n, set_n, clr_n, also_n, List.length_replicate, List.length_set, List.length_map, List.length_append, List.length_take, List.length_drop, List.length_cons, List.length_nil]; first | done | omega) | (with_reducible decide)) only [go_sem, Int.reduceEq, Int.reduceNe, Int.reduceLT, Int.reduceLE, Nat.reduceEqDiff, Int.reduceToNat, Nat.reduceSub, Nat.reduceAdd, Nat.reduceMul, Nat.reduceLT, Nat.reduceLeDiff, Int.reduceNeg, Int.reduceAdd, Int.reduceSub, Int.reduceMul, UInt8.reduceToNat, hsq]))
      refine wp_loopS (σ := Nat × RDs) (by kernel_rfl) (fun (j, ds') => [(0, .ptr ⟨false, P, 0⟩), (3, .int .i64 (j : Nat))]) (fun (j, ds') H' => j ≤ fl.length ∧ IsRef H' P D lv ds' fl (landed A.burn (fun _ => true) j) ∧ Went H1 (allR P D lv ds fl) H' (allR P D lv ds' fl)) (fun (j, ds') => fl.length - j) (0, ds) (by simp (maxSteps := 4000000) (disch := first | omega | (simp only [push_n, set_n, clr_n, also_n, List.length_replicate, List.length_set, List.length_map, List.length_append, List.length_take, List.length_drop, List.length_cons, List.length_nil]; first | done | omega) | (with_reducible decide)) only [go_sem, Int.reduceEq, Int.reduceNe, Int.reduceLT, Int.reduceLE, Nat.reduceEqDiff, Int.reduceToNat, Nat.reduceSub, Nat.reduceAdd, Nat.reduceMul, Nat.reduceLT, Nat.reduceLeDiff, Int.reduceNeg, Int.reduceAdd, Int.reduceSub, Int.reduceMul, UInt8.reduceToNat]) ?_ ?_
      · exact ⟨by omega, h1, Went.refl _ _⟩
      rintro ⟨j, ds'⟩ H2 ⟨hj, h2, w2⟩
      have lf := h2.lenL Try.underlying76
      by_cases hjl : j < fl.length
      · have hg2 := hg1.landed (fun _ => true) j
        obtain ⟨B, L, ss, rfl, K⟩ := h2.landOk hg2 hjl
        obtain ⟨hd2, dc, fc, wc, c0, c1', c2, d0, dl, pl, wl, row, ⟨l1, l2, l3, l4⟩, cl, fin, went⟩ := K
        have hls : landed A.burn (fun _ => true) (j + 1) = (landed A.burn (fun _ => true) j).land (fl.getD j default).f := by
          have hfl : A.burn.fly = fl.map (·.f) := h1.eF
          simp only [landed, if_true]
          rw [← h1.fnth hjl]
        have hlr := rfC_len fl
        have hld := rdC_len ds'
        generalize fl.getD j default = f at *
        rw [push_set_ne l4] at fin went
        have r64 := row.len
        have q1 := gq_live (H := H2) (i := P) (by rw [hd2]; rfl)
        have q2 := gq_live (H := H2) (i := D) (by rw [dc]; rfl)
        have q3 := gq_live (H := H2) (i := L) (by rw [fc]; rfl)
        have q4 := gq_live (H := H2) (i := B) (by rw [wc]; rfl)
        (try simp (maxSteps := 4000000) (disch := first | omega | (simp only [push_n, set_n, clr_n, also_n, List.length_replicate, List.length_set, List.length_map, List.length_append, List.length_take, List.length_drop, List.length_cons, List.length_nil]; first | done | omega) | (with_reducible decide)) only [go_sem, Int.reduceEq, Int.reduceNe, Int.reduceLT, Int.reduceLE, Nat.reduceEqDiff, Int.reduceToNat, Nat.reduceSub, Nat.reduceAdd, Nat.reduceMul, Nat.reduceLT, Nat.reduceLeDiff, Int.reduceNeg, Int.reduceAdd, Int.reduceSub, Int.reduceMul, UInt8.reduceToNat, hd2]; repeat first | ((first | with_reducible refine split2_pk (by omega) ?_ | with_reducible refine split2_nk (by omega) ?_); intro hsq; try simp (maxSteps := 4000000) (disch := first | omega | (simp only [push_n, set_n, clr_n, also_n, List.length_replicate, List.length_set, List.length_map, List.length_append, List.length_take, List.length_drop, List.length_cons, List.length_nil]; first | done | omega) | (with_reducible decide)) only [go_sem, Int.reduceEq, Int.reduceNe, Int.reduceLT, Int.reduceLE, Nat.reduceEqDiff, Int.reduceToNat, Nat.reduceSub, Nat.reduceAdd, Nat.reduceMul, Nat.reduceLT, Nat.reduceLeDiff, Int.reduceNeg, Int.reduceAdd, Int.reduceSub, Int.reduceMul, UInt8.reduceToNat, hd2, hsq]))
        (refine awp_drawH [22, 26, 30, 33, 37, 41] [eqM H2.clr,  fun K => Grew H2.clr K,  fun _ => True] [(0, some 1), (1, some 1), (2, some 1), (3, some 1), (4, some 1), (5, some 1), (6, some 1), (7, some 1), (8, some 1), (9, some 1), (10, some 1), (11, some 1), (12, some 1), (13, some 1), (14, some 1), (15, some 1), (16, some 1), (17, some 1), (18, some 1), (19, some 1), (20, some 1), (21, some 1), (22, some 1), (23, some 0), (24, some 0), (25, some 0), (26, some 0), (27, some 0), (28, some 0), (29, some 0), (30, some 0), (31, none), (32, some 0), (33, none)] [31, 33] (by kernel_rfl) (by rfl) (by decide +kernel) (rofP_0 ?_) ?_; rotate_left; (conv => arg 5; simp only [List.map_cons, List.map_nil, List.getElem?_toArray, List.getElem?_cons_zero, List.getElem?_cons_succ]); rotate_left)
        · rfl
        (try simp (maxSteps := 4000000) (disch := first | omega | (simp only [push_n, set_n, clr_n, also_n, List.length_replicate, List.length_set, List.length_map, List.length_append, List.length_take, List.length_drop, List.length_cons, List.length_nil]; first | done | omega) | (with_reducible decide)) only [go_sem, Int.reduceEq, Int.reduceNe, Int.reduceLT, Int.reduceLE, Nat.reduceEqDiff, Int.reduceToNat, Nat.reduceSub, Nat.reduceAdd, Nat.reduceMul, Nat.reduceLT, Nat.reduceLeDiff, Int.reduceNeg, Int.reduceAdd, Int.reduceSub, Int.reduceMul, UInt8.reduceToNat, hd2, dc, fc, wc, c0, c1', c2, d0, rigP_gs, rigP_g1, q1, q2, q3, q4]; repeat first | ((first | refine ASpec.eq (own_spec _ row.b.clr (by omega)) ?_); try simp (maxSteps := 4000000) (disch := first | omega | (simp only [push_n, set_n, clr_n, also_n, List.length_replicate, List.length_set, List.length_map, List.length_append, List.length_take, List.length_drop, List.length_cons, List.length_nil]; first | done | omega) | (with_reducible decide)) only [go_sem, Int.reduceEq, Int.reduceNe, Int.reduceLT, Int.reduceLE, Nat.reduceEqDiff, Int.reduceToNat, Nat.reduceSub, Nat.reduceAdd, Nat.reduceMul, Nat.reduceLT, Nat.reduceLeDiff, Int.reduceNeg, Int.reduceAdd, Int.reduceSub, Int.reduceMul, UInt8.reduceToNat, hd2, dc, fc, wc, c0, c1', c2, d0, rigP_gs, rigP_g1, q1, q2, q3, q4]) | ((first | with_reducible refine split2_pk (by omega) ?_ | with_reducible refine split2_nk (by omega) ?_); intro hsq; try simp (maxSteps := 4000000) (disch := first | omega | (simp only [push_n, set_n, clr_n, also_n, List.length_replicate, List.length_set, List.length_map, List.length_append, List.length_take, List.length_drop, List.length_cons, List.length_nil]; first | done | omega) | (with_reducible decide)) only [go_sem, Int.reduceEq, Int.reduceNe, Int.reduceLT, Int.reduceLE, Nat.reduceEqDiff, Int.reduceToNat, Nat.reduceSub, Nat.reduceAdd, Nat.reduceMul, Nat.reduceLT, Nat.reduceLeDiff, Int.reduceNeg, Int.reduceAdd, Int.reduceSub, Int.reduceMul, UInt8.reduceToNat, hd2, dc, fc, wc, c0, c1', c2, d0, rigP_gs, rigP_g1, q1, q2, q3, q4, hsq]))
        rw [r64]
        refine ⟨Grew.push _ _, ?_⟩
        (refine ⟨(j + 1, List.set ds' f.f.disk ⟨(List.getD ds' f.f.disk default).sv, (List.getD ds' f.f.disk default).ws.set f.f.pos (.slice ⟨false, H2.n, 0⟩ 64 (.grow 1)), some (ss.set f.f.pos f.f.data)⟩), ?_⟩; and_intros; all_goals (try first | rfl | assumption | omega))
        · rw [hls]; exact fin
        · exact w2.trans went
      · obtain rfl : j = fl.length := by omega
        have hd2 := h2.hd
        (try simp (maxSteps := 4000000) (disch := first | omega | (simp only [push_n, set_n, clr_n, also_n, List.length_replicate, List.length_set, List.length_map, List.length_append, List.length_take, List.length_drop, List.length_cons, List.length_nil]; first | done | omega) | (with_reducible decide)) only [go_sem, Int.reduceEq, Int.reduceNe, Int.reduceLT, Int.reduceLE, Nat.reduceEqDiff, Int.reduceToNat, Nat.reduceSub, Nat.reduceAdd, Nat.reduceMul, Nat.reduceLT, Nat.reduceLeDiff, Int.reduceNeg, Int.reduceAdd, Int.reduceSub, Int.reduceMul, UInt8.reduceToNat, hd2, lf]; repeat first | ((first | with_reducible refine split2_pk (by omega) ?_ | with_reducible refine split2_nk (by omega) ?_); intro hsq; try simp (maxSteps := 4000000) (disch := first | omega | (simp only [push_n, set_n, clr_n, also_n, List.length_replicate, List.length_set, List.length_map, List.length_append, List.length_take, List.length_drop, List.length_cons, List.length_nil]; first | done | omega) | (with_reducible decide)) only [go_sem, Int.reduceEq, Int.reduceNe, Int.reduceLT, Int.reduceLE, Nat.reduceEqDiff, Int.reduceToNat, Nat.reduceSub, Nat.reduceAdd, Nat.reduceMul, Nat.reduceLT, Nat.reduceLeDiff, Int.reduceNeg, Int.reduceAdd, Int.reduceSub, Int.reduceMul, UInt8.reduceToNat, hd2, lf, hsq]))
        rw [show A.barrier = (0, { landed A.burn (fun _ => true) A.burn.fly.length with fly := [] }) by simp [Arr.barrier, hoff, hbt, Arr.burn_fly], hA1]
        exact ⟨rfl, _, _, _, h2.none h2.fuse _, ⟨(w0.trans w2).chg.thenSet _ (.inl (allR_own own_PR)), fun i hi => (w0.trans w2).sub i (allR_nil hi)⟩⟩
theorem landed_stop (A : Arr) (picks : List UInt8) : ∀ m, landed A (pickOf picks) (picks.length + m) = landed A (pickOf picks) picks.length
  | 0 => rfl
  | m + 1 => by
    rw [← Nat.add_assoc]
    simp only [landed]
    rw [if_neg (by simp [pickOf]), landed_stop A picks m]
theorem refCrash_spec (h : IsRef H P D lv ds fl A) (hg : A.good) (v : AV) (picks : List UInt8) (hb : IsBytes H v picks) (hn : A.fly.length < 1000000) (ho : offB (allR P D lv ds fl) v) : ASpec Try.prog 35 [.ptr ⟨false, P, 0⟩, v] H fun r H' => ∃ lv' ds' fl', IsRef H' P D lv' ds' fl' (A.crash picks) ∧ Went H (allR P D lv ds fl) H' (allR P D lv' ds' fl') := by
  have hfn : fl.length < 1000000 := by rw [← h.flen]; exact hn
  have lb := hb.length (P := Try.prog) Try.underlying27
  have hvn : ∀ i ∈ blkOf v, i < H.n ∨ True := fun i hi => .inr trivial
  refine aspec_fn (rs := []) (n := 68) Try.func35 rfl rfl rfl rfl (by kernel_rfl) (Nat.le_of_ble_eq_true rfl) ?_
  (try simp (maxSteps := 4000000) (disch := first | omega | (simp only [push_n, set_n, clr_n, also_n, List.length_replicate, List.length_set, List.length_map, List.length_append, List.length_take, List.length_drop, List.length_cons, List.length_nil]; first | done | omega) | (with_reducible decide)) only [go_sem, Int.reduceEq, Int.reduceNe, Int.reduceLT, Int.reduceLE, Nat.reduceEqDiff, Int.reduceToNat, Nat.reduceSub, Nat.reduceAdd, Nat.reduceMul, Nat.reduceLT, Nat.reduceLeDiff, Int.reduceNeg, Int.reduceAdd, Int.reduceSub, Int.reduceMul, UInt8.reduceToNat]; repeat first | ((first | with_reducible refine split2_pk (by omega) ?_ | with_reducible refine split2_nk (by omega) ?_); intro hsq; try simp (maxSteps := 4000000) (disch := first | omega | (simp only [push_n, set_n, clr_n, also_n, List.length_replicate, List.length_set, List.length_map, List.length_append, List.length_take, List.length_drop, List.length_cons, List.length_nil]; first | done | omega) | (with_reducible decide)) only [go_sem, Int.reduceEq, Int.reduceNe, Int.reduceLT, Int.reduceLE, Nat.reduceEqDiff, Int.reduceToNat, Nat.reduceSub, Nat.reduceAdd, Nat.reduceMul, Nat.reduceLT, Nat.reduceLeDiff, Int.reduceNeg, Int.reduceAdd, Int.reduceSub, Int.reduceMul, UInt8.reduceToNat, hsq]))
  refine wp_loopS (σ := Nat × RDs) (by kernel_rfl) (fun (j, ds') => [(0, .ptr ⟨false, P, 0⟩), (1, v), (4, .int .i64 (j : Nat))]) (fun (j, ds') H' => j ≤ fl.length ∧ IsRef H' P D lv ds' fl (landed A (pickOf picks) j) ∧ Chg (allR P D lv ds fl) H H' ∧ ∀ i ∈ allR P D lv ds' fl, i ∈ allR P D lv ds fl ∨ H.n ≤ i) (fun (j, ds') => fl.length - j) (0, ds) (by simp (maxSteps := 4000000) (disch := first | omega | (simp only [push_n, set_n, clr_n, also_n, List.length_replicate, List.length_set, List.length_map, List.length_append, List.length_take, List.length_drop, List.length_cons, List.length_nil]; first | done | omega) | (with_reducible decide)) only [go_sem, Int.reduceEq, Int.reduceNe, Int.reduceLT, Int.reduceLE, Nat.reduceEqDiff, Int.reduceToNat, Nat.reduceSub, Nat.reduceAdd, Nat.reduceMul, Nat.reduceLT, Nat.reduceLeDiff, Int.reduceNeg, Int.reduceAdd, Int.reduceSub, Int.reduceMul, UInt8.reduceToNat]) ?_ ?_
  · exact ⟨by omega, h, Chg.refl _ _, fun i hi => .inl hi⟩
  rintro ⟨j, ds'⟩ H2 ⟨hj, h2, c2, s2⟩
  have lf := h2.lenL Try.underlying76
  have hd2 := h2.hd
  have hb2 := hb.chg c2 ho
  by_cases hjl : j < fl.length
  · by_cases hjp : j < picks.length
    · have hix := hb2.ix (P := Try.prog) Try.underlying27 sz5 (k := .i64) (i := (j : Int)) (by omega) (by omega)
      have hld' := hb2.ld hjp
      have hm : (((picks.getD j 0).toNat : Int).tmod 2 = 1) ↔ (picks.getD j 0).toNat % 2 = 1 := by rw [Int.tmod_eq_emod_of_nonneg (by omega)]; omega
      by_cases hpk : (picks.getD j 0).toNat % 2 = 1
      · have hpk' := hm.2 hpk
        have hpp : pickOf picks j = true := by simp only [pickOf, decide_eq_true hjp, decide_eq_true hpk, Bool.and_self]
        have hg2 := hg.landed (pickOf picks) j
        obtain ⟨B, L, ss, rfl, K⟩ := h2.landOk hg2 hjl
        obtain ⟨_, dc, fc, wc, c0, c1', c2', d0, dl, pl, wl, row, ⟨l1, l2, l3, l4⟩, cl, fin, went⟩ := K
        have hls : landed A (pickOf picks) (j + 1) = (landed A (pickOf picks) j).land (fl.getD j default).f := by
          simp only [landed, hpp, if_true]
          rw [← h.fnth hjl]
        have hlr := rfC_len fl
        have hld := rdC_len ds'
        generalize fl.getD j default = f at *
        rw [push_set_ne l4] at fin went
        have r64 := row.len
        have q1 := gq_live (H := H2) (i := P) (by rw [hd2]; rfl)
        have q2 := gq_live (H := H2) (i := D) (by rw [dc]; rfl)
        have q3 := gq_live (H := H2) (i := L) (by rw [fc]; rfl)
        have q4 := gq_live (H := H2) (i := B) (by rw [wc]; rfl)
        (try simp (maxSteps := 4000000) (disch := first | omega | (simp only [push_n, set_n, clr_n, also_n, List.length_replicate, List.length_set, List.length_map, List.length_append, List.length_take, List.length_drop, List.length_cons, List.length_nil]; first | done | omega) | (with_reducible decide)) only [go_sem, Int.reduceEq, Int.reduceNe, Int.reduceLT, Int.reduceLE, Nat.reduceEqDiff, Int.reduceToNat, Nat.reduceSub, Nat.reduceAdd, Nat.reduceMul, Nat.reduceLT, Nat.reduceLeDiff, Int.reduceNeg, Int.reduceAdd, Int.reduceSub, Int.reduceMul, UInt8.reduceToNat, hd2, lf, lb, hix, hld', hpk']; repeat first | ((first | with_reducible refine split2_pk (by omega) ?_ | with_reducible refine split2_nk (by omega) ?_); intro hsq; try simp (maxSteps := 4000000) (disch := first | omega | (simp only [push_n, set_n, clr_n, also_n, List.length_replicate, List.length_set, List.length_map, List.length_append, List.length_take, List.length_drop, List.length_cons, List.length_nil]; first | done | omega) | (with_reducible decide)) only [go_sem, Int.reduceEq, Int.reduceNe, Int.reduceLT, Int.reduceLE, Nat.reduceEqDiff, Int.reduceToNat, Nat.reduceSub, Nat.reduceAdd, Nat.reduceMul, Nat.reduceLT, Nat.reduceLeDiff, Int.reduceNeg, Int.reduceAdd, Int.reduceSub, Int.reduceMul, UInt8.reduceToNat, hd2, lf, lb, hix, hld', hpk', hsq]))
        (refine awp_drawH [29, 33, 37, 40, 44, 48] [eqM H2.clr,  fun K => Grew H2.clr K,  fun _ => True] [(0, some 1), (1, some 1), (2, some 1), (3, some 1), (4, some 1), (5, some 1), (6, some 1), (7, some 1), (8, some 1), (9, some 1), (10, some 1), (11, some 1), (12, some 1), (13, some 1), (14, some 1), (15, some 1), (16, some 1), (17, some 1), (18, some 1), (19, some 1), (20, some 1), (21, some 1), (22, some 1), (23, some 0), (24, some 0), (25, some 0), (26, some 0), (27, some 0), (28, some 0), (29, some 0), (30, some 0), (31, none), (32, some 0), (33, none)] [31, 33] (by kernel_rfl) (by rfl) (by decide +kernel) (rofP_0 ?_) ?_; rotate_left; (conv => arg 5; simp only [List.map_cons, List.map_nil, List.getElem?_toArray, List.getElem?_cons_zero, List.getElem?_cons_succ]); rotate_left)
        · rfl
        (try simp (maxSteps := 4000000) (disch := first | omega | (simp only [push_n, set_n, clr_n, also_n, List.length_replicate, List.length_set, List.length_map, List.length_append, List.length_take, List.length_drop, List.length_cons, List.length_nil]; first | done | omega) | (with_reducible decide)) only [go_sem, Int.reduceEq, Int.reduceNe, Int.reduceLT, Int.reduceLE, Nat.reduceEqDiff, Int.reduceToNat, Nat.reduceSub, Nat.reduceAdd, Nat.reduceMul, Nat.reduceLT, Nat.reduceLeDiff, Int.reduceNeg, Int.reduceAdd, Int.reduceSub, Int.reduceMul, UInt8.reduceToNat, hd2, dc, fc, wc, c0, c1', c2', d0, rigP_gs, rigP_g1, q1, q2, q3, q4]; repeat first | ((first | refine ASpec.eq (own_spec _ row.b.clr (by omega)) ?_); try simp (maxSteps := 4000000) (disch := first | omega | (simp only [push_n, set_n, clr_n, also_n, List.length_replicate, List.length_set, List.length_map, List.length_append, List.length_take, List.length_drop, List.length_cons, List.length_nil]; first | done | omega) | (with_reducible decide)) only [go_sem, Int.reduceEq, Int.reduceNe, Int.reduceLT, Int.reduceLE, Nat.reduceEqDiff, Int.reduceToNat, Nat.reduceSub, Nat.reduceAdd, Nat.reduceMul, Nat.reduceLT, Nat.reduceLeDiff, Int.reduceNeg, Int.reduceAdd, Int.reduceSub, Int.reduceMul, UInt8.reduceToNat, hd2, dc, fc, wc, c0, c1', c2', d0, rigP_gs, rigP_g1, q1, q2, q3, q4]) | ((first | with_reducible refine split2_pk (by omega) ?_ | with_reducible refine split2_nk (by omega) ?_); intro hsq; try simp (maxSteps := 4000000) (disch := first | omega | (simp only [push_n, set_n, clr_n, also_n, List.length_replicate, List.length_set, List.length_map, List.length_append, List.length_take, List.length_drop, List.length_cons, List.length_nil]; first | done | omega) | (with_reducible decide)) only [go_sem, Int.reduceEq, Int.reduceNe, Int.reduceLT, Int.reduceLE, Nat.reduceEqDiff, Int.reduceToNat, Nat.reduceSub, Nat.reduceAdd, Nat.reduceMul, Nat.reduceLT, Nat.reduceLeDiff, Int.reduceNeg, Int.reduceAdd, Int.reduceSub, Int.reduceMul, UInt8.reduceToNat, hd2, dc, fc, wc, c0, c1', c2', d0, rigP_gs, rigP_g1, q1, q2, q3, q4, hsq]))
        rw [r64]
        refine ⟨Grew.push _ _, ?_⟩
        (refine ⟨(j + 1, List.set ds' f.f.disk ⟨(List.getD ds' f.f.disk default).sv, (List.getD ds' f.f.disk default).ws.set f.f.pos (.slice ⟨false, H2.n, 0⟩ 64 (.grow 1)), some (ss.set f.f.pos f.f.data)⟩), ?_⟩; and_intros; all_goals (try first | rfl | assumption | omega))
        · rw [hls]; exact fin
        · exact c2.trans' went.chg s2
        · intro i hi
          rcases went.sub i hi with h5 | h5
          · exact s2 i h5
          · exact .inr (Nat.le_trans c2.n h5)
      · have hpk' := fun e => hpk (hm.1 e)
        (try simp (maxSteps := 4000000) (disch := first | omega | (simp only [push_n, set_n, clr_n, also_n, List.length_replicate, List.length_set, List.length_map, List.length_append, List.length_take, List.length_drop, List.length_cons, List.length_nil]; first | done | omega) | (with_reducible decide)) only [go_sem, Int.reduceEq, Int.reduceNe, Int.reduceLT, Int.reduceLE, Nat.reduceEqDiff, Int.reduceToNat, Nat.reduceSub, Nat.reduceAdd, Nat.reduceMul, Nat.reduceLT, Nat.reduceLeDiff, Int.reduceNeg, Int.reduceAdd, Int.reduceSub, Int.reduceMul, UInt8.reduceToNat, hd2, lf, lb, hix, hld', hpk']; repeat first | ((first | with_reducible refine split2_pk (by omega) ?_ | with_reducible refine split2_nk (by omega) ?_); intro hsq; try simp (maxSteps := 4000000) (disch := first | omega | (simp only [push_n, set_n, clr_n, also_n, List.length_replicate, List.length_set, List.length_map, List.length_append, List.length_take, List.length_drop, List.length_cons, List.length_nil]; first | done | omega) | (with_reducible decide)) only [go_sem, Int.reduceEq, Int.reduceNe, Int.reduceLT, Int.reduceLE, Nat.reduceEqDiff, Int.reduceToNat, Nat.reduceSub, Nat.reduceAdd, Nat.reduceMul, Nat.reduceLT, Nat.reduceLeDiff, Int.reduceNeg, Int.reduceAdd, Int.reduceSub, Int.reduceMul, UInt8.reduceToNat, hd2, lf, lb, hix, hld', hpk', hsq]))
        (refine ⟨(j + 1, ds'), ?_⟩; and_intros; all_goals (try first | rfl | assumption | omega))
        simp only [landed]; rw [if_neg (by simp only [pickOf, decide_eq_false hpk, Bool.and_false]; simp)]; exact h2
    · have e : landed A (pickOf picks) A.fly.length = landed A (pickOf picks) j := by
        have e1 := landed_stop A picks (A.fly.length - picks.length)
        have e2 := landed_stop A picks (j - picks.length)
        rw [h.flen] at e1 ⊢
        rw [show picks.length + (fl.length - picks.length) = fl.length by omega] at e1
        rw [show picks.length + (j - picks.length) = j by omega] at e2
        rw [e1, e2]
      have hPn := cells_lt hd2
      (try simp (maxSteps := 4000000) (disch := first | omega | (simp only [push_n, set_n, clr_n, also_n, List.length_replicate, List.length_set, List.length_map, List.length_append, List.length_take, List.length_drop, List.length_cons, List.length_nil]; first | done | omega) | (with_reducible decide)) only [go_sem, Int.reduceEq, Int.reduceNe, Int.reduceLT, Int.reduceLE, Nat.reduceEqDiff, Int.reduceToNat, Nat.reduceSub, Nat.reduceAdd, Nat.reduceMul, Nat.reduceLT, Nat.reduceLeDiff, Int.reduceNeg, Int.reduceAdd, Int.reduceSub, Int.reduceMul, UInt8.reduceToNat, hd2, lf, lb]; repeat first | ((first | with_reducible refine split2_pk (by omega) ?_ | with_reducible refine split2_nk (by omega) ?_); intro hsq; try simp (maxSteps := 4000000) (disch := first | omega | (simp only [push_n, set_n, clr_n, also_n, List.length_replicate, List.length_set, List.length_map, List.length_append, List.length_take, List.length_drop, List.length_cons, List.length_nil]; first | done | omega) | (with_reducible decide)) only [go_sem, Int.reduceEq, Int.reduceNe, Int.reduceLT, Int.reduceLE, Nat.reduceEqDiff, Int.reduceToNat, Nat.reduceSub, Nat.reduceAdd, Nat.reduceMul, Nat.reduceLT, Nat.reduceLeDiff, Int.reduceNeg, Int.reduceAdd, Int.reduceSub, Int.reduceMul, UInt8.reduceToNat, hd2, lf, lb, hsq]))
      rw [show A.crash picks = { landed A (pickOf picks) j with fly := [], fuse := 0, off := false } by simp only [Arr.crash, e]]
      exact ⟨_, _, _, h2.none (fuse := 0) (by omega) false, ⟨c2.thenSet _ (.inl (allR_own own_PR)), fun i hi => s2 i (allR_nil hi)⟩⟩
  · obtain rfl : j = fl.length := by omega
    have e : landed A (pickOf picks) A.fly.length = landed A (pickOf picks) fl.length := by rw [h.flen]
    have hPn := cells_lt hd2
    (try simp (maxSteps := 4000000) (disch := first | omega | (simp only [push_n, set_n, clr_n, also_n, List.length_replicate, List.length_set, List.length_map, List.length_append, List.length_take, List.length_drop, List.length_cons, List.length_nil]; first | done | omega) | (with_reducible decide)) only [go_sem, Int.reduceEq, Int.reduceNe, Int.reduceLT, Int.reduceLE, Nat.reduceEqDiff, Int.reduceToNat, Nat.reduceSub, Nat.reduceAdd, Nat.reduceMul, Nat.reduceLT, Nat.reduceLeDiff, Int.reduceNeg, Int.reduceAdd, Int.reduceSub, Int.reduceMul, UInt8.reduceToNat, hd2, lf, lb]; repeat first | ((first | with_reducible refine split2_pk (by omega) ?_ | with_reducible refine split2_nk (by omega) ?_); intro hsq; try simp (maxSteps := 4000000) (disch := first | omega | (simp only [push_n, set_n, clr_n, also_n, List.length_replicate, List.length_set, List.length_map, List.length_append, List.length_take, List.length_drop, List.length_cons, List.length_nil]; first | done | omega) | (with_reducible decide)) only [go_sem, Int.reduceEq, Int.reduceNe, Int.reduceLT, Int.reduceLE, Nat.reduceEqDiff, Int.reduceToNat, Nat.reduceSub, Nat.reduceAdd, Nat.reduceMul, Nat.reduceLT, Nat.reduceLeDiff, Int.reduceNeg, Int.reduceAdd, Int.reduceSub, Int.reduceMul, UInt8.reduceToNat, hd2, lf, lb, hsq]))
    rw [show A.crash picks = { landed A (pickOf picks) fl.length with fly := [], fuse := 0, off := false } by simp only [Arr.crash, e]]
    exact ⟨_, _, _, h2.none (fuse := 0) (by omega) false, ⟨c2.thenSet _ (.inl (allR_own own_PR)), fun i hi => s2 i (allR_nil hi)⟩⟩
end
end Go.Proofs.Ytickckpndpeppaa
