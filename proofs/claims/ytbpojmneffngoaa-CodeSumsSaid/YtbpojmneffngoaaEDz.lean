import Derived.Test.YtbpojmneffngoaaECz
namespace Go.Proofs.Ytbpojmneffngoaa
open Go Go.Abs Go.Abs.GF
set_option linter.unusedVariables false
set_option linter.unusedSimpArgs false
set_option maxHeartbeats 4000000
attribute [local irreducible] ASpec AWp WP AOps DOps
theorem enc_ent {k n i j : Nat} {a : Rows8} (hi : i < n) (hj : j < (a.getD 0 []).length) : ent (encRows k n a) i j = sx (fun t => gmul (ent (genRows k n) i t) (ent a t j)) a.length := mulRows_ent (by rw [genRows_len]; exact hi) hj
theorem enc_add {k n w i j : Nat} {a b s : Rows8} (hk : 0 < k) (ha : Shape k w a) (hb : Shape k w b) (hs : Shape k w s) (e : ∀ i j, i < k → j < w → ent s i j = ent a i j ^^^ ent b i j) (hi : i < n) (hj : j < w) :
    ent (encRows k n s) i j = ent (encRows k n a) i j ^^^ ent (encRows k n b) i j := by
  rw [enc_ent (a := s) hi (by rw [hs.2 0 hk]; exact hj), enc_ent (a := a) hi (by rw [ha.2 0 hk]; exact hj), enc_ent (a := b) hi (by rw [hb.2 0 hk]; exact hj), ha.1, hb.1, hs.1, ← sx_add]
  refine sx_congr fun t ht => ?_
  rw [e t j ht hj, mul_xor]
theorem enc_take {k n w : Nat} {a : Rows8} (hk : 0 < k) (hkn : k ≤ n) (ha : Shape k w a) : (encRows k n a).take k = a := by
  have hw := ha.2 0 hk
  have hg : ∀ i, i < k → ((encRows k n a).take k).getD i [] = (encRows k n a).getD i [] := fun i hi => by simp [List.getD, List.getElem?_take, hi]
  refine rows_ext (n := k) (m := w) ⟨by rw [List.length_take, encRows_len]; omega, fun i hi => ?_⟩ ha fun i j hi hj => ?_
  · rw [hg i hi, encRows_get (by omega), mixB_len, hw]
  · have e : ent ((encRows k n a).take k) i j = ent (encRows k n a) i j := by unfold ent; rw [hg i hi]
    have hge : ∀ t, t < k → ent (genRows k n) i t = if i = t then 1 else 0 := fun t ht => by
      unfold ent
      rw [genRows_get (by omega), genRow_get ht, ge, if_pos hi]
    rw [e, enc_ent (by omega) (by rw [hw]; exact hj), ha.1, sx_one hi fun t ht hti => by rw [hge t ht, if_neg (fun h => hti h.symm), zero_mul], hge i hi, if_pos rfl, one_mul]
theorem rows_also {H : AH} {X : Nat → Prop} {v : AV} {vs : List AV} {rows : Rows8} (h : IsRows H v vs rows) : IsRows (H.also X) v vs rows := ⟨⟨h.row.row, h.row.len, h.row.sl⟩, fun i hi => (h.each i hi).also⟩
theorem shape_dat {H : AH} {f : Nat} {l : List AV} (D : Dat Try.prog H f 43 l) : ∃ (a b c : UInt8) (v w : AV) (xs ys : List UInt8), l = [bv a, bv b, bv c, v, w] ∧ IsBytes H v xs ∧ xs.length ≤ 140737488351232 ∧ IsBytes H w ys ∧ ys.length ≤ 140737488351232 := by
  obtain ⟨hl, f, D⟩ := D.struct Try.underlying43 sz43
  match l, hl with
  | [c0, c1, c2, c3, c4], _ =>
    have d0 : Dat Try.prog H f 5 [c0] := D 0 rfl sz5
    have d1 : Dat Try.prog H f 5 [c1] := D 1 rfl sz5
    have d2 : Dat Try.prog H f 5 [c2] := D 2 rfl sz5
    have d3 : Dat Try.prog H f 40 [c3] := D 3 rfl sz40
    have d4 : Dat Try.prog H f 40 [c4] := D 4 rfl sz40
    obtain ⟨a, h0⟩ := d0.byte Try.underlying5
    obtain ⟨b, h1⟩ := d1.byte Try.underlying5
    obtain ⟨c, h2⟩ := d2.byte Try.underlying5
    obtain ⟨v, xs, h3, x1, x2⟩ := d3.bytes Try.underlying40 Try.underlying5 sz5 by5
    obtain ⟨w, ys, h4, y1, y2⟩ := d4.bytes Try.underlying40 Try.underlying5 sz5 by5
    simp at h0 h1 h2 h3 h4
    exact ⟨a, b, c, v, w, xs, ys, by rw [h0, h1, h2, h3, h4], x1, x2, y1, y2⟩
theorem codeSums_abs (H : AH) (sv : AV) (sl : List AV) (e : sv = .agg sl) (f : Nat) (D : Dat Try.prog H f 43 sl) (add : UInt8) : ASpec Try.prog 5 [sv, bv add] H fun r _ => r = .bool true := by
  subst e
  obtain ⟨pa, pb, pc, v, w, xs, ys, rfl, hv, hxl, _, _⟩ := shape_dat D
  clear D
  have hW := Nat.mod_lt pc.toNat (show 20 > 0 by decide)
  have hm := sz_may pa pb
  have hk12 : szK pa ≤ 12 := by have := Nat.mod_lt pa.toNat (show 12 > 0 by decide); unfold szK; omega
  have hsz := fun H' => sizes_spec H' pa pb pc v w
  have hda := fun (add : UInt8) H' (hv' : IsBytes H' v xs) => data_spec H' pa pb pc add v w xs hv' hxl
  generalize pc.toNat % 20 = W at hW hda
  generalize szN pa pb = N at hsz hm
  generalize szK pa = K at hsz hda hm hk12
  have hm' := hm
  unfold codeMay at hm'
  refine aspec_in (rs := [.tmp 4]) (n := 161) Try.func5 rfl rfl rfl rfl (Nat.le_of_ble_eq_true rfl) ?_
  (refine wp_mid (σ := AV × AV × AV) 4 (by kernel_rfl) (fun (av, bv', mv) => [(5, .int .i64 (K : Nat)), (6, .int .i64 (N : Nat)), (7, av), (8, bv'), (9, mv)]) (fun (av, bv', mv) H' => ∃ K0 aw bw B ws A Bm, IsRows K0 av aw A ∧ IsRows K0 bv' bw Bm ∧ Shape K W A ∧ Shape K W Bm ∧ mv = .slice ⟨false, B, 0⟩ K (.grow 1) ∧ K0.n ≤ B ∧ OwnRows H' B ws A ∧ Grew K0 H' ∧ ∀ b ∈ blks B ws, K0.n ≤ b) ?_ ?_; rotate_left; simp only [restC]; rotate_left; simp only [headN])
  · (try simp (maxSteps := 4000000) (disch := first | omega | (simp only [push_n, set_n, clr_n, also_n, List.length_replicate, List.length_set, List.length_map, List.length_append, List.length_take, List.length_drop, List.length_cons, List.length_nil]; first | done | omega) | (with_reducible decide)) only [go_sem, Int.reduceEq, Int.reduceNe, Int.reduceLT, Int.reduceLE, Nat.reduceEqDiff, Int.reduceToNat, Nat.reduceSub, Nat.reduceAdd, Nat.reduceMul, Nat.reduceLT, Nat.reduceLeDiff, Int.reduceNeg, Int.reduceAdd, Int.reduceSub, Int.reduceMul, UInt8.reduceToNat]; repeat first | ((first | with_reducible refine split2_pk (by omega) ?_ | with_reducible refine split2_nk (by omega) ?_); intro hsq; try simp (maxSteps := 4000000) (disch := first | omega | (simp only [push_n, set_n, clr_n, also_n, List.length_replicate, List.length_set, List.length_map, List.length_append, List.length_take, List.length_drop, List.length_cons, List.length_nil]; first | done | omega) | (with_reducible decide)) only [go_sem, Int.reduceEq, Int.reduceNe, Int.reduceLT, Int.reduceLE, Nat.reduceEqDiff, Int.reduceToNat, Nat.reduceSub, Nat.reduceAdd, Nat.reduceMul, Nat.reduceLT, Nat.reduceLeDiff, Int.reduceNeg, Int.reduceAdd, Int.reduceSub, Int.reduceMul, UInt8.reduceToNat, hsq]))
    have g0 : Grew H (H.push (some (.cells [bv pa, bv pb, bv pc, v, w]))) := Grew.push _ _
    have hb0 : (H.push (some (.cells [bv pa, bv pb, bv pc, v, w]))).cells? H.n = some [bv pa, bv pb, bv pc, v, w] := push_cells _ _
    generalize (H.push (some (.cells [bv pa, bv pb, bv pc, v, w]))) = H0 at g0 hb0 ⊢
    (try simp (maxSteps := 4000000) (disch := first | omega | (simp only [push_n, set_n, clr_n, also_n, List.length_replicate, List.length_set, List.length_map, List.length_append, List.length_take, List.length_drop, List.length_cons, List.length_nil]; first | done | omega) | (with_reducible decide)) only [go_sem, Int.reduceEq, Int.reduceNe, Int.reduceLT, Int.reduceLE, Nat.reduceEqDiff, Int.reduceToNat, Nat.reduceSub, Nat.reduceAdd, Nat.reduceMul, Nat.reduceLT, Nat.reduceLeDiff, Int.reduceNeg, Int.reduceAdd, Int.reduceSub, Int.reduceMul, UInt8.reduceToNat, hb0]; repeat first | ((first | with_reducible refine split2_pk (by omega) ?_ | with_reducible refine split2_nk (by omega) ?_); intro hsq; try simp (maxSteps := 4000000) (disch := first | omega | (simp only [push_n, set_n, clr_n, also_n, List.length_replicate, List.length_set, List.length_map, List.length_append, List.length_take, List.length_drop, List.length_cons, List.length_nil]; first | done | omega) | (with_reducible decide)) only [go_sem, Int.reduceEq, Int.reduceNe, Int.reduceLT, Int.reduceLE, Nat.reduceEqDiff, Int.reduceToNat, Nat.reduceSub, Nat.reduceAdd, Nat.reduceMul, Nat.reduceLT, Nat.reduceLeDiff, Int.reduceNeg, Int.reduceAdd, Int.reduceSub, Int.reduceMul, UInt8.reduceToNat, hb0, hsq]))
    refine (hsz H0).mono ?_
    rintro r H1 ⟨rfl, g1⟩
    have hb1 := g1.cells_some hb0
    have g1 := g0.trans g1
    (try simp (maxSteps := 4000000) (disch := first | omega | (simp only [push_n, set_n, clr_n, also_n, List.length_replicate, List.length_set, List.length_map, List.length_append, List.length_take, List.length_drop, List.length_cons, List.length_nil]; first | done | omega) | (with_reducible decide)) only [go_sem, Int.reduceEq, Int.reduceNe, Int.reduceLT, Int.reduceLE, Nat.reduceEqDiff, Int.reduceToNat, Nat.reduceSub, Nat.reduceAdd, Nat.reduceMul, Nat.reduceLT, Nat.reduceLeDiff, Int.reduceNeg, Int.reduceAdd, Int.reduceSub, Int.reduceMul, UInt8.reduceToNat, hb1]; repeat first | ((first | with_reducible refine split2_pk (by omega) ?_ | with_reducible refine split2_nk (by omega) ?_); intro hsq; try simp (maxSteps := 4000000) (disch := first | omega | (simp only [push_n, set_n, clr_n, also_n, List.length_replicate, List.length_set, List.length_map, List.length_append, List.length_take, List.length_drop, List.length_cons, List.length_nil]; first | done | omega) | (with_reducible decide)) only [go_sem, Int.reduceEq, Int.reduceNe, Int.reduceLT, Int.reduceLE, Nat.reduceEqDiff, Int.reduceToNat, Nat.reduceSub, Nat.reduceAdd, Nat.reduceMul, Nat.reduceLT, Nat.reduceLeDiff, Int.reduceNeg, Int.reduceAdd, Int.reduceSub, Int.reduceMul, UInt8.reduceToNat, hb1, hsq]))
    have hsome : (H1.cells? H.n).isSome = true := by rw [hb1]; rfl
    have glv := gq_live (H := H1) (i := H.n) hsome
    have gwr := gq_wr (H := H1) (i := H.n) (cells_lt hb1)
    have hv1 := (hv.grew g1).clr
    (refine awp_drawH [25, 27] [eqM H1.clr,  fun K => Grew H1.clr K,  fun _ => True] [(0, some 0), (2, some 1), (3, some 1), (1, none), (4, none), (5, some 0), (6, some 0)] [1, 4] (by kernel_rfl) (by rfl) (by decide +kernel) (rofP_0 ?_) ?_; rotate_left; (conv => arg 5; simp only [List.map_cons, List.map_nil, List.getElem?_toArray, List.getElem?_cons_zero, List.getElem?_cons_succ]); rotate_left)
    · rfl
    (try simp (maxSteps := 4000000) (disch := first | omega | (simp only [push_n, set_n, clr_n, also_n, List.length_replicate, List.length_set, List.length_map, List.length_append, List.length_take, List.length_drop, List.length_cons, List.length_nil]; first | done | omega) | (with_reducible decide)) only [go_sem, Int.reduceEq, Int.reduceNe, Int.reduceLT, Int.reduceLE, Nat.reduceEqDiff, Int.reduceToNat, Nat.reduceSub, Nat.reduceAdd, Nat.reduceMul, Nat.reduceLT, Nat.reduceLeDiff, Int.reduceNeg, Int.reduceAdd, Int.reduceSub, Int.reduceMul, UInt8.reduceToNat, hb1, hsome, glv, gwr, rigP_g, rigP_g1, rigP_gs, Bool.false_or]; repeat first | ((first | with_reducible refine split2_pk (by omega) ?_ | with_reducible refine split2_nk (by omega) ?_); intro hsq; try simp (maxSteps := 4000000) (disch := first | omega | (simp only [push_n, set_n, clr_n, also_n, List.length_replicate, List.length_set, List.length_map, List.length_append, List.length_take, List.length_drop, List.length_cons, List.length_nil]; first | done | omega) | (with_reducible decide)) only [go_sem, Int.reduceEq, Int.reduceNe, Int.reduceLT, Int.reduceLE, Nat.reduceEqDiff, Int.reduceToNat, Nat.reduceSub, Nat.reduceAdd, Nat.reduceMul, Nat.reduceLT, Nat.reduceLeDiff, Int.reduceNeg, Int.reduceAdd, Int.reduceSub, Int.reduceMul, UInt8.reduceToNat, hb1, hsome, glv, gwr, rigP_g, rigP_g1, rigP_gs, Bool.false_or, hsq]))
    refine (hda 0 H1.clr hv1).mono ?_
    rintro r1 H2 ⟨B1, w1, X, rfl, n1, sX, sX'⟩
    have G2 : Grew H1.clr H2 := n1.g
    (try simp (maxSteps := 4000000) (disch := first | omega | (simp only [push_n, set_n, clr_n, also_n, List.length_replicate, List.length_set, List.length_map, List.length_append, List.length_take, List.length_drop, List.length_cons, List.length_nil]; first | done | omega) | (with_reducible decide)) only [go_sem, Int.reduceEq, Int.reduceNe, Int.reduceLT, Int.reduceLE, Nat.reduceEqDiff, Int.reduceToNat, Nat.reduceSub, Nat.reduceAdd, Nat.reduceMul, Nat.reduceLT, Nat.reduceLeDiff, Int.reduceNeg, Int.reduceAdd, Int.reduceSub, Int.reduceMul, UInt8.reduceToNat, G2]; repeat first | ((first | with_reducible refine split2_pk (by omega) ?_ | with_reducible refine split2_nk (by omega) ?_); intro hsq; try simp (maxSteps := 4000000) (disch := first | omega | (simp only [push_n, set_n, clr_n, also_n, List.length_replicate, List.length_set, List.length_map, List.length_append, List.length_take, List.length_drop, List.length_cons, List.length_nil]; first | done | omega) | (with_reducible decide)) only [go_sem, Int.reduceEq, Int.reduceNe, Int.reduceLT, Int.reduceLE, Nat.reduceEqDiff, Int.reduceToNat, Nat.reduceSub, Nat.reduceAdd, Nat.reduceMul, Nat.reduceLT, Nat.reduceLeDiff, Int.reduceNeg, Int.reduceAdd, Int.reduceSub, Int.reduceMul, UInt8.reduceToNat, G2, hsq]))
    refine (hda add H2 (hv1.grew G2)).mono ?_
    rintro r2 H3 ⟨B2, w2, Y, rfl, n2, sY, sY'⟩
    have G3 : Grew H1.clr H3 := G2.trans n2.g
    (try simp (maxSteps := 4000000) (disch := first | omega | (simp only [push_n, set_n, clr_n, also_n, List.length_replicate, List.length_set, List.length_map, List.length_append, List.length_take, List.length_drop, List.length_cons, List.length_nil]; first | done | omega) | (with_reducible decide)) only [go_sem, Int.reduceEq, Int.reduceNe, Int.reduceLT, Int.reduceLE, Nat.reduceEqDiff, Int.reduceToNat, Nat.reduceSub, Nat.reduceAdd, Nat.reduceMul, Nat.reduceLT, Nat.reduceLeDiff, Int.reduceNeg, Int.reduceAdd, Int.reduceSub, Int.reduceMul, UInt8.reduceToNat, G3]; repeat first | ((first | with_reducible refine split2_pk (by omega) ?_ | with_reducible refine split2_nk (by omega) ?_); intro hsq; try simp (maxSteps := 4000000) (disch := first | omega | (simp only [push_n, set_n, clr_n, also_n, List.length_replicate, List.length_set, List.length_map, List.length_append, List.length_take, List.length_drop, List.length_cons, List.length_nil]; first | done | omega) | (with_reducible decide)) only [go_sem, Int.reduceEq, Int.reduceNe, Int.reduceLT, Int.reduceLE, Nat.reduceEqDiff, Int.reduceToNat, Nat.reduceSub, Nat.reduceAdd, Nat.reduceMul, Nat.reduceLT, Nat.reduceLeDiff, Int.reduceNeg, Int.reduceAdd, Int.reduceSub, Int.reduceMul, UInt8.reduceToNat, G3, hsq]))
    have rX := (n1.own.isRows (c := .grow 1) rfl).grew n2.g
    have rY := n2.own.isRows (c := .grow 1) rfl
    rw [sX] at rX
    rw [sY] at rY
    have rX := rows_also (X := H1.wr) rX
    have rY := rows_also (X := H1.wr) rY
    generalize H3.also H1.wr = K0 at rX rY ⊢
    have hX : Shape K W X := ⟨sX, fun i hi => sX' i (by omega)⟩
    have hY : Shape K W Y := ⟨sY, fun i hi => sY' i (by omega)⟩
    refine (copy_spec K0 _ _ X rX (by rw [sX]; omega) (fun i hi => by rw [sX' i hi]; omega)).mono ?_
    rintro r3 H4 ⟨ws, hacc⟩
    obtain ⟨B, rfl, hB, ho, hnew⟩ := hacc.own_rows (by omega)
    rw [sX]
    (try simp (maxSteps := 4000000) (disch := first | omega | (simp only [push_n, set_n, clr_n, also_n, List.length_replicate, List.length_set, List.length_map, List.length_append, List.length_take, List.length_drop, List.length_cons, List.length_nil]; first | done | omega) | (with_reducible decide)) only [go_sem, Int.reduceEq, Int.reduceNe, Int.reduceLT, Int.reduceLE, Nat.reduceEqDiff, Int.reduceToNat, Nat.reduceSub, Nat.reduceAdd, Nat.reduceMul, Nat.reduceLT, Nat.reduceLeDiff, Int.reduceNeg, Int.reduceAdd, Int.reduceSub, Int.reduceMul, UInt8.reduceToNat]; repeat first | ((first | with_reducible refine split2_pk (by omega) ?_ | with_reducible refine split2_nk (by omega) ?_); intro hsq; try simp (maxSteps := 4000000) (disch := first | omega | (simp only [push_n, set_n, clr_n, also_n, List.length_replicate, List.length_set, List.length_map, List.length_append, List.length_take, List.length_drop, List.length_cons, List.length_nil]; first | done | omega) | (with_reducible decide)) only [go_sem, Int.reduceEq, Int.reduceNe, Int.reduceLT, Int.reduceLE, Nat.reduceEqDiff, Int.reduceToNat, Nat.reduceSub, Nat.reduceAdd, Nat.reduceMul, Nat.reduceLT, Nat.reduceLeDiff, Int.reduceNeg, Int.reduceAdd, Int.reduceSub, Int.reduceMul, UInt8.reduceToNat, hsq]))
    exact ⟨(_, _, _), ⟨rfl, rfl, rfl⟩, K0, _, _, B, ws, X, Y, rX, rY, hX, hY, rfl, hB, ho, hacc.acc.acc.g, hnew⟩
  rintro ⟨av, bv', mv⟩ H1 ⟨K0, aw, bw, B, ws, A, Bm, hA, hB, sA, sB, hmv, hBn, ho, g1, hnew⟩
  obtain rfl : mv = .slice ⟨false, B, 0⟩ K (.grow 1) := hmv
  have hA : IsRows K0 av aw A := hA
  have hB : IsRows K0 bv' bw Bm := hB
  clear hsz hda
  (refine wp_mid (σ := Rows8) 1 (by kernel_rfl) (fun R => [(5, .int .i64 (K : Nat)), (6, .int .i64 (N : Nat)), (7, av), (8, bv'), (9, .slice ⟨false, B, 0⟩ K (.grow 1))]) (fun R H' => Shape K W R ∧ OwnRows H' B ws R ∧ Grew K0 H' ∧ ∀ i j, i < K → j < W → ent R i j = ent A i j ^^^ ent Bm i j) ?_ ?_; rotate_left; simp only [restC]; rotate_left; simp only [headN])
  · (try simp (maxSteps := 4000000) (disch := first | omega | (simp only [push_n, set_n, clr_n, also_n, List.length_replicate, List.length_set, List.length_map, List.length_append, List.length_take, List.length_drop, List.length_cons, List.length_nil]; first | done | omega) | (with_reducible decide)) only [go_sem, Int.reduceEq, Int.reduceNe, Int.reduceLT, Int.reduceLE, Nat.reduceEqDiff, Int.reduceToNat, Nat.reduceSub, Nat.reduceAdd, Nat.reduceMul, Nat.reduceLT, Nat.reduceLeDiff, Int.reduceNeg, Int.reduceAdd, Int.reduceSub, Int.reduceMul, UInt8.reduceToNat]; repeat first | ((first | with_reducible refine split2_pk (by omega) ?_ | with_reducible refine split2_nk (by omega) ?_); intro hsq; try simp (maxSteps := 4000000) (disch := first | omega | (simp only [push_n, set_n, clr_n, also_n, List.length_replicate, List.length_set, List.length_map, List.length_append, List.length_take, List.length_drop, List.length_cons, List.length_nil]; first | done | omega) | (with_reducible decide)) only [go_sem, Int.reduceEq, Int.reduceNe, Int.reduceLT, Int.reduceLE, Nat.reduceEqDiff, Int.reduceToNat, Nat.reduceSub, Nat.reduceAdd, Nat.reduceMul, Nat.reduceLT, Nat.reduceLeDiff, Int.reduceNeg, Int.reduceAdd, Int.reduceSub, Int.reduceMul, UInt8.reduceToNat, hsq]))
    refine wp_loopS (σ := Nat × Rows8) (by kernel_rfl) (fun (i, R) => [(5, .int .i64 (K : Nat)), (6, .int .i64 (N : Nat)), (7, av), (8, bv'), (9, .slice ⟨false, B, 0⟩ K (.grow 1)), (33, .int .i64 (K : Nat)), (34, .int .i64 (i : Nat))]) (fun (i, R) H' => i ≤ K ∧ Shape K W R ∧ OwnRows H' B ws R ∧ Chg (blks B ws) K0 H' ∧ ∀ p q, p < K → q < W → ent R p q = if p < i then ent A p q ^^^ ent Bm p q else ent A p q) (fun (i, R) => K - i) (0, A) (by simp (maxSteps := 4000000) (disch := first | omega | (simp only [push_n, set_n, clr_n, also_n, List.length_replicate, List.length_set, List.length_map, List.length_append, List.length_take, List.length_drop, List.length_cons, List.length_nil]; first | done | omega) | (with_reducible decide)) only [go_sem, Int.reduceEq, Int.reduceNe, Int.reduceLT, Int.reduceLE, Nat.reduceEqDiff, Int.reduceToNat, Nat.reduceSub, Nat.reduceAdd, Nat.reduceMul, Nat.reduceLT, Nat.reduceLeDiff, Int.reduceNeg, Int.reduceAdd, Int.reduceSub, Int.reduceMul, UInt8.reduceToNat]) ?_ ?_
    · exact ⟨by omega, sA, ho, g1.chg _, fun p q hp hq => by rw [if_neg (by omega)]⟩
    rintro ⟨i, R⟩ H2 ⟨hi, sR, hR, hch, hE⟩
    have sR : Shape K W R := sR
    have hR : OwnRows H2 B ws R := hR
    have hi : i ≤ K := hi
    have hE : ∀ p q, p < K → q < W → ent R p q = if p < i then ent A p q ^^^ ent Bm p q else ent A p q := hE
    by_cases hiK : i < K
    · have hix := hR.ixB (c := .grow 1) sR.1 rfl (P := Try.prog) (t := 24) Try.underlying24 sz40 (k := .i64) (i := i) hiK
      have htop := hR.top
      obtain ⟨b, m, a1, a2, a3, a4⟩ := hR.at (i := i) (by rw [sR.1]; exact hiK)
      rw [sR.2 i hiK] at a1 a2 a3
      have hl0 := a3.length (P := Try.prog) Try.underlying40
      rw [sR.2 i hiK] at hl0
      have hbB : b ∈ blks B ws := by rw [← a4]; exact bn_mem (by rw [hR.len, sR.1]; exact hiK)
      (try simp (maxSteps := 4000000) (disch := first | omega | (simp only [push_n, set_n, clr_n, also_n, List.length_replicate, List.length_set, List.length_map, List.length_append, List.length_take, List.length_drop, List.length_cons, List.length_nil]; first | done | omega) | (with_reducible decide)) only [go_sem, Int.reduceEq, Int.reduceNe, Int.reduceLT, Int.reduceLE, Nat.reduceEqDiff, Int.reduceToNat, Nat.reduceSub, Nat.reduceAdd, Nat.reduceMul, Nat.reduceLT, Nat.reduceLeDiff, Int.reduceNeg, Int.reduceAdd, Int.reduceSub, Int.reduceMul, UInt8.reduceToNat, hix, htop, a1, hl0]; repeat first | ((first | with_reducible refine split2_pk (by omega) ?_ | with_reducible refine split2_nk (by omega) ?_); intro hsq; try simp (maxSteps := 4000000) (disch := first | omega | (simp only [push_n, set_n, clr_n, also_n, List.length_replicate, List.length_set, List.length_map, List.length_append, List.length_take, List.length_drop, List.length_cons, List.length_nil]; first | done | omega) | (with_reducible decide)) only [go_sem, Int.reduceEq, Int.reduceNe, Int.reduceLT, Int.reduceLE, Nat.reduceEqDiff, Int.reduceToNat, Nat.reduceSub, Nat.reduceAdd, Nat.reduceMul, Nat.reduceLT, Nat.reduceLeDiff, Int.reduceNeg, Int.reduceAdd, Int.reduceSub, Int.reduceMul, UInt8.reduceToNat, hix, htop, a1, hl0, hsq]))
      refine wp_loopS (σ := Nat × Rows8) (by kernel_rfl) (fun (j, Q) => [(5, .int .i64 (K : Nat)), (6, .int .i64 (N : Nat)), (7, av), (8, bv'), (9, .slice ⟨false, B, 0⟩ K (.grow 1)), (10, .int .i64 (i : Nat)), (33, .int .i64 (K : Nat)), (34, .int .i64 (i : Nat)), (41, .int .i64 (W : Nat)), (42, .int .i64 (j : Nat))]) (fun (j, Q) H' => j ≤ W ∧ Shape K W Q ∧ OwnRows H' B ws Q ∧ Chg (blks B ws) K0 H' ∧ ∀ p q, p < K → q < W → ent Q p q = if p < i ∨ (p = i ∧ q < j) then ent A p q ^^^ ent Bm p q else ent A p q) (fun (j, Q) => W - j) (0, R) (by simp (maxSteps := 4000000) (disch := first | omega | (simp only [push_n, set_n, clr_n, also_n, List.length_replicate, List.length_set, List.length_map, List.length_append, List.length_take, List.length_drop, List.length_cons, List.length_nil]; first | done | omega) | (with_reducible decide)) only [go_sem, Int.reduceEq, Int.reduceNe, Int.reduceLT, Int.reduceLE, Nat.reduceEqDiff, Int.reduceToNat, Nat.reduceSub, Nat.reduceAdd, Nat.reduceMul, Nat.reduceLT, Nat.reduceLeDiff, Int.reduceNeg, Int.reduceAdd, Int.reduceSub, Int.reduceMul, UInt8.reduceToNat]) ?_ ?_
      · refine ⟨by omega, sR, hR, hch, fun p q hp hq => ?_⟩
        rw [hE p q hp hq]
        by_cases h : p < i
        · rw [if_pos h, if_pos (.inl h)]
        · rw [if_neg h, if_neg (by omega)]
      rintro ⟨j, Q⟩ H3 ⟨hj, sQ, hQ, hch3, hF⟩
      have sQ : Shape K W Q := sQ
      have hQ : OwnRows H3 B ws Q := hQ
      have hF : ∀ p q, p < K → q < W → ent Q p q = if p < i ∨ (p = i ∧ q < j) then ent A p q ^^^ ent Bm p q else ent A p q := hF
      by_cases hjW : j < W
      · have hix := hQ.ixB (c := .grow 1) sQ.1 rfl (P := Try.prog) (t := 24) Try.underlying24 sz40 (k := .i64) (i := i) hiK
        have htop := hQ.top
        obtain ⟨b', m', e1, e2, e3, e4⟩ := hQ.at (i := i) (by rw [sQ.1]; exact hiK)
        obtain rfl : b' = b := e4.symm.trans a4
        rw [sQ.2 i hiK] at e1 e3
        have hixj := e3.ixS (P := Try.prog) (t := 40) Try.underlying40 sz5 (k := .i64) (i := j) (by rw [sQ.2 i hiK]; exact hjW)
        rw [Nat.zero_add] at hixj
        obtain ⟨l0, d1, d2, d3, d4⟩ := hQ.cell (i := i) (j := j) (by rw [sQ.1]; exact hiK) (by rw [sQ.2 i hiK]; exact hjW)
        rw [a4] at d1 d4
        have hB3 := hB.grew (hch3.grew hnew)
        have hixb := hB3.ix (P := Try.prog) Try.underlying24 sz40 (k := .i64) (i := (i : Int)) (by omega) (by rw [sB.1]; omega)
        have hldb := hB3.ld (i := i) (by rw [sB.1]; exact hiK)
        have hrb := hB3.each i (by rw [sB.1]; exact hiK)
        have hixr := hrb.ix (P := Try.prog) Try.underlying40 sz5 (k := .i64) (i := (j : Int)) (by omega) (by rw [sB.2 i hiK]; omega)
        have hldr := hrb.ld (i := j) (by rw [sB.2 i hiK]; exact hjW)
        (try simp (maxSteps := 4000000) (disch := first | omega | (simp only [push_n, set_n, clr_n, also_n, List.length_replicate, List.length_set, List.length_map, List.length_append, List.length_take, List.length_drop, List.length_cons, List.length_nil]; first | done | omega) | (with_reducible decide)) only [go_sem, Int.reduceEq, Int.reduceNe, Int.reduceLT, Int.reduceLE, Nat.reduceEqDiff, Int.reduceToNat, Nat.reduceSub, Nat.reduceAdd, Nat.reduceMul, Nat.reduceLT, Nat.reduceLeDiff, Int.reduceNeg, Int.reduceAdd, Int.reduceSub, Int.reduceMul, UInt8.reduceToNat]; repeat first | ((first | with_reducible refine split2_pk (by omega) ?_ | with_reducible refine split2_nk (by omega) ?_); intro hsq; try simp (maxSteps := 4000000) (disch := first | omega | (simp only [push_n, set_n, clr_n, also_n, List.length_replicate, List.length_set, List.length_map, List.length_append, List.length_take, List.length_drop, List.length_cons, List.length_nil]; first | done | omega) | (with_reducible decide)) only [go_sem, Int.reduceEq, Int.reduceNe, Int.reduceLT, Int.reduceLE, Nat.reduceEqDiff, Int.reduceToNat, Nat.reduceSub, Nat.reduceAdd, Nat.reduceMul, Nat.reduceLT, Nat.reduceLeDiff, Int.reduceNeg, Int.reduceAdd, Int.reduceSub, Int.reduceMul, UInt8.reduceToNat, hsq]))
        (refine awp_drawP (hl := []) [eqM H3,  fun _ => True] [(0, some 0), (1, some 0), (2, some 0), (3, some 0), (4, some 0), (5, some 0), (6, some 0), (7, some 0), (8, some 0), (9, some 0), (10, some 0), (11, some 0), (12, some 0), (13, some 0), (14, some 0), (15, some 0), (16, none)] [16] (by kernel_rfl) (by rfl) (by decide +kernel) (rofP_0 ?_) ?_; rotate_left; (conv => arg 5; simp only [List.map_cons, List.map_nil, List.getElem?_toArray, List.getElem?_cons_zero, List.getElem?_cons_succ]); rotate_left)
        · rfl
        (try simp (maxSteps := 4000000) (disch := first | omega | (simp only [push_n, set_n, clr_n, also_n, List.length_replicate, List.length_set, List.length_map, List.length_append, List.length_take, List.length_drop, List.length_cons, List.length_nil]; first | done | omega) | (with_reducible decide)) only [go_sem, Int.reduceEq, Int.reduceNe, Int.reduceLT, Int.reduceLE, Nat.reduceEqDiff, Int.reduceToNat, Nat.reduceSub, Nat.reduceAdd, Nat.reduceMul, Nat.reduceLT, Nat.reduceLeDiff, Int.reduceNeg, Int.reduceAdd, Int.reduceSub, Int.reduceMul, UInt8.reduceToNat, hix, htop, e1, hixj, d1, d3, hixb, hldb, hixr, hldr]; repeat first | ((first | with_reducible refine split2_pk (by omega) ?_ | with_reducible refine split2_nk (by omega) ?_); intro hsq; try simp (maxSteps := 4000000) (disch := first | omega | (simp only [push_n, set_n, clr_n, also_n, List.length_replicate, List.length_set, List.length_map, List.length_append, List.length_take, List.length_drop, List.length_cons, List.length_nil]; first | done | omega) | (with_reducible decide)) only [go_sem, Int.reduceEq, Int.reduceNe, Int.reduceLT, Int.reduceLE, Nat.reduceEqDiff, Int.reduceToNat, Nat.reduceSub, Nat.reduceAdd, Nat.reduceMul, Nat.reduceLT, Nat.reduceLeDiff, Int.reduceNeg, Int.reduceAdd, Int.reduceSub, Int.reduceMul, UInt8.reduceToNat, hix, htop, e1, hixj, d1, d3, hixb, hldb, hixr, hldr, hsq]))
        have hz := d4 ((Q.getD i []).getD j 0 ^^^ (Bm.getD i []).getD j 0)
        have hFj := hF i j hiK hjW
        rw [if_neg (by omega)] at hFj
        refine ⟨(j + 1, Q.set i ((Q.getD i []).set j ((Q.getD i []).getD j 0 ^^^ (Bm.getD i []).getD j 0))), rfl, by omega, hjW, sQ.set (by rw [List.length_set]; exact sQ.2 i hiK), hz, hch3.thenSet _ (.inl hbB), fun p q hp hq => ?_⟩
        show ent _ p q = if p < i ∨ (p = i ∧ q < j + 1) then _ else _
        rw [ent_set (by rw [sQ.1]; exact hiK)]
        by_cases hpi : p = i
        · subst hpi
          rw [if_pos rfl, getD_set _ _ _ _ _ (by rw [sQ.2 p hp]; exact hjW)]
          by_cases hqj : q = j
          · subst hqj
            rw [if_pos rfl, if_pos (by omega)]
            show ent Q p q ^^^ ent Bm p q = _
            rw [hFj]
          · rw [if_neg hqj]
            show ent Q p q = _
            rw [hF p q hp hq]
            by_cases h : q < j
            · rw [if_pos (.inr ⟨rfl, h⟩), if_pos (.inr ⟨rfl, by omega⟩)]
            · rw [if_neg (by omega), if_neg (by omega)]
        · rw [if_neg hpi, hF p q hp hq]
          simp only [show (p < i ∨ (p = i ∧ q < j)) ↔ (p < i ∨ (p = i ∧ q < j + 1)) by omega]
      · obtain rfl : j = W := by omega
        (try simp (maxSteps := 4000000) (disch := first | omega | (simp only [push_n, set_n, clr_n, also_n, List.length_replicate, List.length_set, List.length_map, List.length_append, List.length_take, List.length_drop, List.length_cons, List.length_nil]; first | done | omega) | (with_reducible decide)) only [go_sem, Int.reduceEq, Int.reduceNe, Int.reduceLT, Int.reduceLE, Nat.reduceEqDiff, Int.reduceToNat, Nat.reduceSub, Nat.reduceAdd, Nat.reduceMul, Nat.reduceLT, Nat.reduceLeDiff, Int.reduceNeg, Int.reduceAdd, Int.reduceSub, Int.reduceMul, UInt8.reduceToNat]; repeat first | ((first | with_reducible refine split2_pk (by omega) ?_ | with_reducible refine split2_nk (by omega) ?_); intro hsq; try simp (maxSteps := 4000000) (disch := first | omega | (simp only [push_n, set_n, clr_n, also_n, List.length_replicate, List.length_set, List.length_map, List.length_append, List.length_take, List.length_drop, List.length_cons, List.length_nil]; first | done | omega) | (with_reducible decide)) only [go_sem, Int.reduceEq, Int.reduceNe, Int.reduceLT, Int.reduceLE, Nat.reduceEqDiff, Int.reduceToNat, Nat.reduceSub, Nat.reduceAdd, Nat.reduceMul, Nat.reduceLT, Nat.reduceLeDiff, Int.reduceNeg, Int.reduceAdd, Int.reduceSub, Int.reduceMul, UInt8.reduceToNat, hsq]))
        (refine ⟨(i + 1, Q), ?_⟩; and_intros; all_goals (try first | rfl | assumption | omega))
        all_goals first
          | exact sQ.1
          | exact sQ.2
          | exact hQ
          | exact hch3
          | (intro p q hp hq
             show ent Q p q = if p < i + 1 then _ else _
             rw [hF p q hp hq]
             by_cases h : p < i + 1
             · rw [if_pos h, if_pos (by omega)]
             · rw [if_neg h, if_neg (by omega)])
    · obtain rfl : i = K := by omega
      (try simp (maxSteps := 4000000) (disch := first | omega | (simp only [push_n, set_n, clr_n, also_n, List.length_replicate, List.length_set, List.length_map, List.length_append, List.length_take, List.length_drop, List.length_cons, List.length_nil]; first | done | omega) | (with_reducible decide)) only [go_sem, Int.reduceEq, Int.reduceNe, Int.reduceLT, Int.reduceLE, Nat.reduceEqDiff, Int.reduceToNat, Nat.reduceSub, Nat.reduceAdd, Nat.reduceMul, Nat.reduceLT, Nat.reduceLeDiff, Int.reduceNeg, Int.reduceAdd, Int.reduceSub, Int.reduceMul, UInt8.reduceToNat]; repeat first | ((first | with_reducible refine split2_pk (by omega) ?_ | with_reducible refine split2_nk (by omega) ?_); intro hsq; try simp (maxSteps := 4000000) (disch := first | omega | (simp only [push_n, set_n, clr_n, also_n, List.length_replicate, List.length_set, List.length_map, List.length_append, List.length_take, List.length_drop, List.length_cons, List.length_nil]; first | done | omega) | (with_reducible decide)) only [go_sem, Int.reduceEq, Int.reduceNe, Int.reduceLT, Int.reduceLE, Nat.reduceEqDiff, Int.reduceToNat, Nat.reduceSub, Nat.reduceAdd, Nat.reduceMul, Nat.reduceLT, Nat.reduceLeDiff, Int.reduceNeg, Int.reduceAdd, Int.reduceSub, Int.reduceMul, UInt8.reduceToNat, hsq]))
      exact ⟨R, sR, hR, hch.grew hnew, fun p q hp hq => by rw [hE p q hp hq, if_pos hp]⟩
  rintro S H2 ⟨sS, hS, g2, hE⟩
  have hA2 := hA.grew g2
  have hB2 := hB.grew g2
  have hS2 := hS.isRows (c := .grow 1) rfl
  rw [sS.1] at hS2
  have hok : ∀ X, Shape K W X → encOk (K : Nat) (N : Nat) X := fun X s => ⟨hm, by rw [s.1], fun i hi => by rw [s.2 i (by have := s.1; omega), s.2 0 (by omega)]⟩
  have hen : ∀ H' (v : AV) (vs : List AV) X, Shape K W X → IsRows H' v vs X → ASpec Try.prog 21 [.int .i64 (K : Nat), .int .i64 (N : Nat), v] H' fun r H'' => ∃ xv, r = .tup [xv, .int .i64 0] ∧ (∃ ws, IsRows H'' xv ws (encRows K N X)) ∧ Grew H' H'' := fun H' v vs X s h => by
    refine (encode_spec H' (K : Nat) (N : Nat) v vs X h (by have := s.1; omega) (fun i hi => by rw [s.2 i (by have := s.1; omega)]; omega)).mono ?_
    intro r H'' hr
    rw [encRes, if_pos (hok X s)] at hr
    obtain ⟨B', w', rfl, n', _⟩ := hr
    have r' := newRows_rows (c := .grow 1) n' rfl
    rw [encRows_len] at r'
    exact ⟨_, rfl, ⟨_, r'⟩, n'.g⟩
  (refine wp_mid (σ := AV × AV × AV) 3 (by kernel_rfl) (fun (xv, yv, zv) => [(5, .int .i64 (K : Nat)), (6, .int .i64 (N : Nat)), (7, av), (12, xv), (13, .int .i64 0), (14, yv), (15, .int .i64 0), (16, zv), (17, .int .i64 0)]) (fun (xv, yv, zv) H' => (∃ ws, IsRows H' xv ws (encRows K N A)) ∧ (∃ ws, IsRows H' yv ws (encRows K N Bm)) ∧ (∃ ws, IsRows H' zv ws (encRows K N S)) ∧ IsRows H' av aw A) ?_ ?_; rotate_left; simp only [restC]; rotate_left; simp only [headN])
  · (try simp (maxSteps := 4000000) (disch := first | omega | (simp only [push_n, set_n, clr_n, also_n, List.length_replicate, List.length_set, List.length_map, List.length_append, List.length_take, List.length_drop, List.length_cons, List.length_nil]; first | done | omega) | (with_reducible decide)) only [go_sem, Int.reduceEq, Int.reduceNe, Int.reduceLT, Int.reduceLE, Nat.reduceEqDiff, Int.reduceToNat, Nat.reduceSub, Nat.reduceAdd, Nat.reduceMul, Nat.reduceLT, Nat.reduceLeDiff, Int.reduceNeg, Int.reduceAdd, Int.reduceSub, Int.reduceMul, UInt8.reduceToNat]; repeat first | ((first | with_reducible refine split2_pk (by omega) ?_ | with_reducible refine split2_nk (by omega) ?_); intro hsq; try simp (maxSteps := 4000000) (disch := first | omega | (simp only [push_n, set_n, clr_n, also_n, List.length_replicate, List.length_set, List.length_map, List.length_append, List.length_take, List.length_drop, List.length_cons, List.length_nil]; first | done | omega) | (with_reducible decide)) only [go_sem, Int.reduceEq, Int.reduceNe, Int.reduceLT, Int.reduceLE, Nat.reduceEqDiff, Int.reduceToNat, Nat.reduceSub, Nat.reduceAdd, Nat.reduceMul, Nat.reduceLT, Nat.reduceLeDiff, Int.reduceNeg, Int.reduceAdd, Int.reduceSub, Int.reduceMul, UInt8.reduceToNat, hsq]))
    refine (hen H2 _ _ A sA hA2).mono ?_
    rintro r H3 ⟨xv, rfl, ⟨w3, h3⟩, g3⟩
    (try simp (maxSteps := 4000000) (disch := first | omega | (simp only [push_n, set_n, clr_n, also_n, List.length_replicate, List.length_set, List.length_map, List.length_append, List.length_take, List.length_drop, List.length_cons, List.length_nil]; first | done | omega) | (with_reducible decide)) only [go_sem, Int.reduceEq, Int.reduceNe, Int.reduceLT, Int.reduceLE, Nat.reduceEqDiff, Int.reduceToNat, Nat.reduceSub, Nat.reduceAdd, Nat.reduceMul, Nat.reduceLT, Nat.reduceLeDiff, Int.reduceNeg, Int.reduceAdd, Int.reduceSub, Int.reduceMul, UInt8.reduceToNat]; repeat first | ((first | with_reducible refine split2_pk (by omega) ?_ | with_reducible refine split2_nk (by omega) ?_); intro hsq; try simp (maxSteps := 4000000) (disch := first | omega | (simp only [push_n, set_n, clr_n, also_n, List.length_replicate, List.length_set, List.length_map, List.length_append, List.length_take, List.length_drop, List.length_cons, List.length_nil]; first | done | omega) | (with_reducible decide)) only [go_sem, Int.reduceEq, Int.reduceNe, Int.reduceLT, Int.reduceLE, Nat.reduceEqDiff, Int.reduceToNat, Nat.reduceSub, Nat.reduceAdd, Nat.reduceMul, Nat.reduceLT, Nat.reduceLeDiff, Int.reduceNeg, Int.reduceAdd, Int.reduceSub, Int.reduceMul, UInt8.reduceToNat, hsq]))
    refine (hen H3 _ _ Bm sB (hB2.grew g3)).mono ?_
    rintro r H4 ⟨yv, rfl, ⟨w4, h4⟩, g4⟩
    (try simp (maxSteps := 4000000) (disch := first | omega | (simp only [push_n, set_n, clr_n, also_n, List.length_replicate, List.length_set, List.length_map, List.length_append, List.length_take, List.length_drop, List.length_cons, List.length_nil]; first | done | omega) | (with_reducible decide)) only [go_sem, Int.reduceEq, Int.reduceNe, Int.reduceLT, Int.reduceLE, Nat.reduceEqDiff, Int.reduceToNat, Nat.reduceSub, Nat.reduceAdd, Nat.reduceMul, Nat.reduceLT, Nat.reduceLeDiff, Int.reduceNeg, Int.reduceAdd, Int.reduceSub, Int.reduceMul, UInt8.reduceToNat]; repeat first | ((first | with_reducible refine split2_pk (by omega) ?_ | with_reducible refine split2_nk (by omega) ?_); intro hsq; try simp (maxSteps := 4000000) (disch := first | omega | (simp only [push_n, set_n, clr_n, also_n, List.length_replicate, List.length_set, List.length_map, List.length_append, List.length_take, List.length_drop, List.length_cons, List.length_nil]; first | done | omega) | (with_reducible decide)) only [go_sem, Int.reduceEq, Int.reduceNe, Int.reduceLT, Int.reduceLE, Nat.reduceEqDiff, Int.reduceToNat, Nat.reduceSub, Nat.reduceAdd, Nat.reduceMul, Nat.reduceLT, Nat.reduceLeDiff, Int.reduceNeg, Int.reduceAdd, Int.reduceSub, Int.reduceMul, UInt8.reduceToNat, hsq]))
    refine (hen H4 _ _ S sS ((hS2.grew g3).grew g4)).mono ?_
    rintro r H5 ⟨zv, rfl, ⟨w5, h5⟩, g5⟩
    (try simp (maxSteps := 4000000) (disch := first | omega | (simp only [push_n, set_n, clr_n, also_n, List.length_replicate, List.length_set, List.length_map, List.length_append, List.length_take, List.length_drop, List.length_cons, List.length_nil]; first | done | omega) | (with_reducible decide)) only [go_sem, Int.reduceEq, Int.reduceNe, Int.reduceLT, Int.reduceLE, Nat.reduceEqDiff, Int.reduceToNat, Nat.reduceSub, Nat.reduceAdd, Nat.reduceMul, Nat.reduceLT, Nat.reduceLeDiff, Int.reduceNeg, Int.reduceAdd, Int.reduceSub, Int.reduceMul, UInt8.reduceToNat]; repeat first | ((first | with_reducible refine split2_pk (by omega) ?_ | with_reducible refine split2_nk (by omega) ?_); intro hsq; try simp (maxSteps := 4000000) (disch := first | omega | (simp only [push_n, set_n, clr_n, also_n, List.length_replicate, List.length_set, List.length_map, List.length_append, List.length_take, List.length_drop, List.length_cons, List.length_nil]; first | done | omega) | (with_reducible decide)) only [go_sem, Int.reduceEq, Int.reduceNe, Int.reduceLT, Int.reduceLE, Nat.reduceEqDiff, Int.reduceToNat, Nat.reduceSub, Nat.reduceAdd, Nat.reduceMul, Nat.reduceLT, Nat.reduceLeDiff, Int.reduceNeg, Int.reduceAdd, Int.reduceSub, Int.reduceMul, UInt8.reduceToNat, hsq]))
    exact ⟨(_, _, _), ⟨rfl, rfl, rfl⟩, ⟨_, (h3.grew g4).grew g5⟩, ⟨_, h4.grew g5⟩, ⟨_, h5⟩, ((hA2.grew g3).grew g4).grew g5⟩
  clear hA hB hS hA2 hB2 hS2 hen ho g1 g2 hnew
  rintro ⟨xv, yv, zv⟩ H3 ⟨⟨xw, hx⟩, ⟨yw, hy⟩, ⟨zw, hz⟩, ha⟩
  have hx : IsRows H3 xv xw (encRows K N A) := hx
  have hy : IsRows H3 yv yw (encRows K N Bm) := hy
  have hz : IsRows H3 zv zw (encRows K N S) := hz
  have hxn := encRows_len K N A
  have hyn := encRows_len K N Bm
  have hzn := encRows_len K N S
  have hzr : ∀ X, Shape K W X → ∀ i, i < N → ((encRows K N X).getD i []).length = W := fun X s i hi => by rw [encRows_get hi, mixB_len, s.2 0 (by omega)]
  have htk := enc_take (k := K) (n := N) (by omega) (by omega) sA
  have hcut := hx.cut (lo := 0) (hi := K) (by omega) (by omega)
  rw [Nat.sub_zero, List.drop_zero, List.drop_zero, htk] at hcut
  have hsl := hx.row.slice (P := Try.prog) (t := 24) Try.underlying24 sz40 (lo := 0) (hi := K) (by omega) (by omega) (olo := none) (ohi := some (.int .i64 K)) (.inr ⟨rfl, rfl⟩) (.inl rfl)
  have hlx := hx.row.lenA (P := Try.prog) Try.underlying24
  have hly := hy.row.lenA (P := Try.prog) Try.underlying24
  have hlz := hz.row.lenA (P := Try.prog) Try.underlying24
  rw [hxn] at hlx
  rw [hyn] at hly
  rw [hzn] at hlz
  refine wp_sound _ (by kernel_rfl) ?_
  (try simp (maxSteps := 4000000) (disch := first | omega | (simp only [push_n, set_n, clr_n, also_n, List.length_replicate, List.length_set, List.length_map, List.length_append, List.length_take, List.length_drop, List.length_cons, List.length_nil]; first | done | omega) | (with_reducible decide)) only [go_sem, Int.reduceEq, Int.reduceNe, Int.reduceLT, Int.reduceLE, Nat.reduceEqDiff, Int.reduceToNat, Nat.reduceSub, Nat.reduceAdd, Nat.reduceMul, Nat.reduceLT, Nat.reduceLeDiff, Int.reduceNeg, Int.reduceAdd, Int.reduceSub, Int.reduceMul, UInt8.reduceToNat]; repeat first | ((first | with_reducible refine split2_pk (by omega) ?_ | with_reducible refine split2_nk (by omega) ?_); intro hsq; try simp (maxSteps := 4000000) (disch := first | omega | (simp only [push_n, set_n, clr_n, also_n, List.length_replicate, List.length_set, List.length_map, List.length_append, List.length_take, List.length_drop, List.length_cons, List.length_nil]; first | done | omega) | (with_reducible decide)) only [go_sem, Int.reduceEq, Int.reduceNe, Int.reduceLT, Int.reduceLE, Nat.reduceEqDiff, Int.reduceToNat, Nat.reduceSub, Nat.reduceAdd, Nat.reduceMul, Nat.reduceLT, Nat.reduceLeDiff, Int.reduceNeg, Int.reduceAdd, Int.reduceSub, Int.reduceMul, UInt8.reduceToNat, hsq]))
  refine (awake4_spec H3).mono ?_
  rintro r H4 ⟨rfl, g4⟩
  have hx := hx.grew g4
  have hy := hy.grew g4
  have hz := hz.grew g4
  (try simp (maxSteps := 4000000) (disch := first | omega | (simp only [push_n, set_n, clr_n, also_n, List.length_replicate, List.length_set, List.length_map, List.length_append, List.length_take, List.length_drop, List.length_cons, List.length_nil]; first | done | omega) | (with_reducible decide)) only [go_sem, Int.reduceEq, Int.reduceNe, Int.reduceLT, Int.reduceLE, Nat.reduceEqDiff, Int.reduceToNat, Nat.reduceSub, Nat.reduceAdd, Nat.reduceMul, Nat.reduceLT, Nat.reduceLeDiff, Int.reduceNeg, Int.reduceAdd, Int.reduceSub, Int.reduceMul, UInt8.reduceToNat, hlx, hly, hlz, hsl]; repeat first | ((first | with_reducible refine split2_pk (by omega) ?_ | with_reducible refine split2_nk (by omega) ?_); intro hsq; try simp (maxSteps := 4000000) (disch := first | omega | (simp only [push_n, set_n, clr_n, also_n, List.length_replicate, List.length_set, List.length_map, List.length_append, List.length_take, List.length_drop, List.length_cons, List.length_nil]; first | done | omega) | (with_reducible decide)) only [go_sem, Int.reduceEq, Int.reduceNe, Int.reduceLT, Int.reduceLE, Nat.reduceEqDiff, Int.reduceToNat, Nat.reduceSub, Nat.reduceAdd, Nat.reduceMul, Nat.reduceLT, Nat.reduceLeDiff, Int.reduceNeg, Int.reduceAdd, Int.reduceSub, Int.reduceMul, UInt8.reduceToNat, hlx, hly, hlz, hsl, hsq]))
  have s1 := rsame_spec H4 _ _ _ _ A A (hcut.grew g4) (ha.grew g4) (by have := sA.1; omega)
  rw [decide_eq_true rfl] at s1
  (try simp (maxSteps := 4000000) (disch := first | omega | (simp only [push_n, set_n, clr_n, also_n, List.length_replicate, List.length_set, List.length_map, List.length_append, List.length_take, List.length_drop, List.length_cons, List.length_nil]; first | done | omega) | (with_reducible decide)) only [go_sem, Int.reduceEq, Int.reduceNe, Int.reduceLT, Int.reduceLE, Nat.reduceEqDiff, Int.reduceToNat, Nat.reduceSub, Nat.reduceAdd, Nat.reduceMul, Nat.reduceLT, Nat.reduceLeDiff, Int.reduceNeg, Int.reduceAdd, Int.reduceSub, Int.reduceMul, UInt8.reduceToNat, hlx, hly, hlz, hsl]; repeat first | ((first | refine ASpec.eq (s1) ?_); try simp (maxSteps := 4000000) (disch := first | omega | (simp only [push_n, set_n, clr_n, also_n, List.length_replicate, List.length_set, List.length_map, List.length_append, List.length_take, List.length_drop, List.length_cons, List.length_nil]; first | done | omega) | (with_reducible decide)) only [go_sem, Int.reduceEq, Int.reduceNe, Int.reduceLT, Int.reduceLE, Nat.reduceEqDiff, Int.reduceToNat, Nat.reduceSub, Nat.reduceAdd, Nat.reduceMul, Nat.reduceLT, Nat.reduceLeDiff, Int.reduceNeg, Int.reduceAdd, Int.reduceSub, Int.reduceMul, UInt8.reduceToNat, hlx, hly, hlz, hsl]) | ((first | with_reducible refine split2_pk (by omega) ?_ | with_reducible refine split2_nk (by omega) ?_); intro hsq; try simp (maxSteps := 4000000) (disch := first | omega | (simp only [push_n, set_n, clr_n, also_n, List.length_replicate, List.length_set, List.length_map, List.length_append, List.length_take, List.length_drop, List.length_cons, List.length_nil]; first | done | omega) | (with_reducible decide)) only [go_sem, Int.reduceEq, Int.reduceNe, Int.reduceLT, Int.reduceLE, Nat.reduceEqDiff, Int.reduceToNat, Nat.reduceSub, Nat.reduceAdd, Nat.reduceMul, Nat.reduceLT, Nat.reduceLeDiff, Int.reduceNeg, Int.reduceAdd, Int.reduceSub, Int.reduceMul, UInt8.reduceToNat, hlx, hly, hlz, hsl, hsq]))
  clear hcut hsl s1 ha hlx hly hlz htk
  refine wp_loopS (σ := Nat) (by kernel_rfl) (fun i => [(12, xv), (14, yv), (16, zv), (124, .int .i64 (N : Nat)), (125, .int .i64 (i : Nat))]) (fun i H' => i ≤ N ∧ H' = H4) (fun i => N - i) (0) (by simp (maxSteps := 4000000) (disch := first | omega | (simp only [push_n, set_n, clr_n, also_n, List.length_replicate, List.length_set, List.length_map, List.length_append, List.length_take, List.length_drop, List.length_cons, List.length_nil]; first | done | omega) | (with_reducible decide)) only [go_sem, Int.reduceEq, Int.reduceNe, Int.reduceLT, Int.reduceLE, Nat.reduceEqDiff, Int.reduceToNat, Nat.reduceSub, Nat.reduceAdd, Nat.reduceMul, Nat.reduceLT, Nat.reduceLeDiff, Int.reduceNeg, Int.reduceAdd, Int.reduceSub, Int.reduceMul, UInt8.reduceToNat]) ?_ ?_
  · exact ⟨by omega, rfl⟩
  rintro i K4 ⟨hi, rfl⟩
  by_cases hiN : i < N
  · have hix := hz.ix (P := Try.prog) Try.underlying24 sz40 (k := .i64) (i := (i : Int)) (by omega) (by omega)
    have hld := hz.ld (i := i) (by omega)
    have hrz := hz.each i (by omega)
    have hl0 := hrz.length (P := Try.prog) Try.underlying40
    rw [hzr S sS i hiN] at hl0
    (try simp (maxSteps := 4000000) (disch := first | omega | (simp only [push_n, set_n, clr_n, also_n, List.length_replicate, List.length_set, List.length_map, List.length_append, List.length_take, List.length_drop, List.length_cons, List.length_nil]; first | done | omega) | (with_reducible decide)) only [go_sem, Int.reduceEq, Int.reduceNe, Int.reduceLT, Int.reduceLE, Nat.reduceEqDiff, Int.reduceToNat, Nat.reduceSub, Nat.reduceAdd, Nat.reduceMul, Nat.reduceLT, Nat.reduceLeDiff, Int.reduceNeg, Int.reduceAdd, Int.reduceSub, Int.reduceMul, UInt8.reduceToNat, hix, hld, hl0]; repeat first | ((first | with_reducible refine split2_pk (by omega) ?_ | with_reducible refine split2_nk (by omega) ?_); intro hsq; try simp (maxSteps := 4000000) (disch := first | omega | (simp only [push_n, set_n, clr_n, also_n, List.length_replicate, List.length_set, List.length_map, List.length_append, List.length_take, List.length_drop, List.length_cons, List.length_nil]; first | done | omega) | (with_reducible decide)) only [go_sem, Int.reduceEq, Int.reduceNe, Int.reduceLT, Int.reduceLE, Nat.reduceEqDiff, Int.reduceToNat, Nat.reduceSub, Nat.reduceAdd, Nat.reduceMul, Nat.reduceLT, Nat.reduceLeDiff, Int.reduceNeg, Int.reduceAdd, Int.reduceSub, Int.reduceMul, UInt8.reduceToNat, hix, hld, hl0, hsq]))
    refine wp_loopS (σ := Nat) (by kernel_rfl) (fun j => [(12, xv), (14, yv), (16, zv), (18, .int .i64 (i : Nat)), (124, .int .i64 (N : Nat)), (125, .int .i64 (i : Nat)), (132, .int .i64 (W : Nat)), (133, .int .i64 (j : Nat))]) (fun j H' => j ≤ W ∧ H' = K4) (fun j => W - j) (0) (by simp (maxSteps := 4000000) (disch := first | omega | (simp only [push_n, set_n, clr_n, also_n, List.length_replicate, List.length_set, List.length_map, List.length_append, List.length_take, List.length_drop, List.length_cons, List.length_nil]; first | done | omega) | (with_reducible decide)) only [go_sem, Int.reduceEq, Int.reduceNe, Int.reduceLT, Int.reduceLE, Nat.reduceEqDiff, Int.reduceToNat, Nat.reduceSub, Nat.reduceAdd, Nat.reduceMul, Nat.reduceLT, Nat.reduceLeDiff, Int.reduceNeg, Int.reduceAdd, Int.reduceSub, Int.reduceMul, UInt8.reduceToNat]) ?_ ?_
    · exact ⟨by omega, rfl⟩
    rintro j K5 ⟨hj, rfl⟩
    by_cases hjW : j < W
    · have hixx := hx.ix (P := Try.prog) Try.underlying24 sz40 (k := .i64) (i := (i : Int)) (by omega) (by omega)
      have hldx := hx.ld (i := i) (by omega)
      have hrx := hx.each i (by omega)
      have hixy := hy.ix (P := Try.prog) Try.underlying24 sz40 (k := .i64) (i := (i : Int)) (by omega) (by omega)
      have hldy := hy.ld (i := i) (by omega)
      have hry := hy.each i (by omega)
      have lz := hzr S sS i hiN
      have lx := hzr A sA i hiN
      have ly := hzr Bm sB i hiN
      have h1 := hrz.ix (P := Try.prog) Try.underlying40 sz5 (k := .i64) (i := (j : Int)) (by omega) (by omega)
      have h2 := hrz.ld (i := j) (by omega)
      have h3 := hrx.ix (P := Try.prog) Try.underlying40 sz5 (k := .i64) (i := (j : Int)) (by omega) (by omega)
      have h4 := hrx.ld (i := j) (by omega)
      have h5 := hry.ix (P := Try.prog) Try.underlying40 sz5 (k := .i64) (i := (j : Int)) (by omega) (by omega)
      have h6 := hry.ld (i := j) (by omega)
      have he : ((encRows K N S).getD i []).getD j 0 = ((encRows K N A).getD i []).getD j 0 ^^^ ((encRows K N Bm).getD i []).getD j 0 := enc_add (by omega) sA sB sS hE hiN hjW
      rw [he] at h2
      (try simp (maxSteps := 4000000) (disch := first | omega | (simp only [push_n, set_n, clr_n, also_n, List.length_replicate, List.length_set, List.length_map, List.length_append, List.length_take, List.length_drop, List.length_cons, List.length_nil]; first | done | omega) | (with_reducible decide)) only [go_sem, Int.reduceEq, Int.reduceNe, Int.reduceLT, Int.reduceLE, Nat.reduceEqDiff, Int.reduceToNat, Nat.reduceSub, Nat.reduceAdd, Nat.reduceMul, Nat.reduceLT, Nat.reduceLeDiff, Int.reduceNeg, Int.reduceAdd, Int.reduceSub, Int.reduceMul, UInt8.reduceToNat]; repeat first | ((first | with_reducible refine split2_pk (by omega) ?_ | with_reducible refine split2_nk (by omega) ?_); intro hsq; try simp (maxSteps := 4000000) (disch := first | omega | (simp only [push_n, set_n, clr_n, also_n, List.length_replicate, List.length_set, List.length_map, List.length_append, List.length_take, List.length_drop, List.length_cons, List.length_nil]; first | done | omega) | (with_reducible decide)) only [go_sem, Int.reduceEq, Int.reduceNe, Int.reduceLT, Int.reduceLE, Nat.reduceEqDiff, Int.reduceToNat, Nat.reduceSub, Nat.reduceAdd, Nat.reduceMul, Nat.reduceLT, Nat.reduceLeDiff, Int.reduceNeg, Int.reduceAdd, Int.reduceSub, Int.reduceMul, UInt8.reduceToNat, hsq]))
      (refine awp_drawP (hl := []) [eqM K5] [(0, some 0), (1, some 0), (2, some 0), (3, some 0), (4, some 0), (5, some 0), (6, some 0), (7, some 0), (8, some 0), (9, some 0), (10, some 0), (11, some 0), (12, some 0), (13, some 0), (14, some 0), (15, some 0), (16, some 0), (17, some 0), (18, some 0), (19, some 0), (20, some 0), (21, some 0), (22, some 0)] [] (by kernel_rfl) (by rfl) (by decide +kernel) (rofP_0 ?_) ?_; rotate_left; (conv => arg 5; simp only [List.map_cons, List.map_nil, List.getElem?_toArray, List.getElem?_cons_zero, List.getElem?_cons_succ]); rotate_left)
      · rfl
      (try simp (maxSteps := 4000000) (disch := first | omega | (simp only [push_n, set_n, clr_n, also_n, List.length_replicate, List.length_set, List.length_map, List.length_append, List.length_take, List.length_drop, List.length_cons, List.length_nil]; first | done | omega) | (with_reducible decide)) only [go_sem, Int.reduceEq, Int.reduceNe, Int.reduceLT, Int.reduceLE, Nat.reduceEqDiff, Int.reduceToNat, Nat.reduceSub, Nat.reduceAdd, Nat.reduceMul, Nat.reduceLT, Nat.reduceLeDiff, Int.reduceNeg, Int.reduceAdd, Int.reduceSub, Int.reduceMul, UInt8.reduceToNat, hix, hld, hixx, hldx, hixy, hldy, h1, h2, h3, h4, h5, h6]; repeat first | ((first | with_reducible refine split2_pk (by omega) ?_ | with_reducible refine split2_nk (by omega) ?_); intro hsq; try simp (maxSteps := 4000000) (disch := first | omega | (simp only [push_n, set_n, clr_n, also_n, List.length_replicate, List.length_set, List.length_map, List.length_append, List.length_take, List.length_drop, List.length_cons, List.length_nil]; first | done | omega) | (with_reducible decide)) only [go_sem, Int.reduceEq, Int.reduceNe, Int.reduceLT, Int.reduceLE, Nat.reduceEqDiff, Int.reduceToNat, Nat.reduceSub, Nat.reduceAdd, Nat.reduceMul, Nat.reduceLT, Nat.reduceLeDiff, Int.reduceNeg, Int.reduceAdd, Int.reduceSub, Int.reduceMul, UInt8.reduceToNat, hix, hld, hixx, hldx, hixy, hldy, h1, h2, h3, h4, h5, h6, hsq]))
      (refine ⟨j + 1, ?_⟩; and_intros; all_goals (try first | rfl | assumption | omega))
    · obtain rfl : j = W := by omega
      (try simp (maxSteps := 4000000) (disch := first | omega | (simp only [push_n, set_n, clr_n, also_n, List.length_replicate, List.length_set, List.length_map, List.length_append, List.length_take, List.length_drop, List.length_cons, List.length_nil]; first | done | omega) | (with_reducible decide)) only [go_sem, Int.reduceEq, Int.reduceNe, Int.reduceLT, Int.reduceLE, Nat.reduceEqDiff, Int.reduceToNat, Nat.reduceSub, Nat.reduceAdd, Nat.reduceMul, Nat.reduceLT, Nat.reduceLeDiff, Int.reduceNeg, Int.reduceAdd, Int.reduceSub, Int.reduceMul, UInt8.reduceToNat]; repeat first | ((first | with_reducible refine split2_pk (by omega) ?_ | with_reducible refine split2_nk (by omega) ?_); intro hsq; try simp (maxSteps := 4000000) (disch := first | omega | (simp only [push_n, set_n, clr_n, also_n, List.length_replicate, List.length_set, List.length_map, List.length_append, List.length_take, List.length_drop, List.length_cons, List.length_nil]; first | done | omega) | (with_reducible decide)) only [go_sem, Int.reduceEq, Int.reduceNe, Int.reduceLT, Int.reduceLE, Nat.reduceEqDiff, Int.reduceToNat, Nat.reduceSub, Nat.reduceAdd, Nat.reduceMul, Nat.reduceLT, Nat.reduceLeDiff, Int.reduceNeg, Int.reduceAdd, Int.reduceSub, Int.reduceMul, UInt8.reduceToNat, hsq]))
      (refine ⟨i + 1, ?_⟩; and_intros; all_goals (try first | rfl | assumption | omega))
  · obtain rfl : i = N := by omega
    (try simp (maxSteps := 4000000) (disch := first | omega | (simp only [push_n, set_n, clr_n, also_n, List.length_replicate, List.length_set, List.length_map, List.length_append, List.length_take, List.length_drop, List.length_cons, List.length_nil]; first | done | omega) | (with_reducible decide)) only [go_sem, Int.reduceEq, Int.reduceNe, Int.reduceLT, Int.reduceLE, Nat.reduceEqDiff, Int.reduceToNat, Nat.reduceSub, Nat.reduceAdd, Nat.reduceMul, Nat.reduceLT, Nat.reduceLeDiff, Int.reduceNeg, Int.reduceAdd, Int.reduceSub, Int.reduceMul, UInt8.reduceToNat]; repeat first | ((first | with_reducible refine split2_pk (by omega) ?_ | with_reducible refine split2_nk (by omega) ?_); intro hsq; try simp (maxSteps := 4000000) (disch := first | omega | (simp only [push_n, set_n, clr_n, also_n, List.length_replicate, List.length_set, List.length_map, List.length_append, List.length_take, List.length_drop, List.length_cons, List.length_nil]; first | done | omega) | (with_reducible decide)) only [go_sem, Int.reduceEq, Int.reduceNe, Int.reduceLT, Int.reduceLE, Nat.reduceEqDiff, Int.reduceToNat, Nat.reduceSub, Nat.reduceAdd, Nat.reduceMul, Nat.reduceLT, Nat.reduceLeDiff, Int.reduceNeg, Int.reduceAdd, Int.reduceSub, Int.reduceMul, UInt8.reduceToNat, hsq]))
end Go.Proofs.Ytbpojmneffngoaa
