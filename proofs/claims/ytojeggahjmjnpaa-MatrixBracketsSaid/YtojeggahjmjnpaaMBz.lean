/- MatrixBrackets. -/
import Derived.Test.YtojeggahjmjnpaaMEz
namespace Go.Proofs.Ytojeggahjmjnpaa
open Go Go.Abs Go.Abs.GF
set_option linter.unusedVariables false
set_option linter.unusedSimpArgs false
set_option maxHeartbeats 4000000
attribute [local irreducible] ASpec AWp WP AOps DOps

abbrev Ints := List Int
theorem rows_also {H : AH} {X : Nat → Prop} {v : AV} {vs : List AV} {rows : Rows8} (h : IsRows H v vs rows) : IsRows (H.also X) v vs rows := ⟨⟨h.row.row, h.row.len, h.row.sl⟩, fun i hi => (h.each i hi).also⟩
theorem shape_may {n m : Nat} {X : Rows8} (h : Shape n m X) (h1 : 1 ≤ n ∧ n ≤ 9) (h2 : 1 ≤ m ∧ m ≤ 9) : mayM X := by
  have hl := h.1
  have h0 := h.2 0 (by omega)
  exact ⟨by omega, by omega, by omega, by omega, fun i hi => by rw [h.2 i (by omega), h0]⟩

theorem sizes_dat {H : AH} {f : Nat} {l : List AV} (D : Dat Try.prog H f 47 l) : ∃ (A B C D' : UInt8) (xv yv zv rv : AV) (x y z r : List UInt8), l = [bv A, bv B, bv C, bv D', xv, yv, zv, rv] ∧ (IsBytes H xv x ∧ x.length ≤ 140737488351232) ∧ (IsBytes H yv y ∧ y.length ≤ 140737488351232) ∧ (IsBytes H zv z ∧ z.length ≤ 140737488351232) ∧ (IsBytes H rv r ∧ r.length ≤ 140737488351232) := by
  obtain ⟨hl, f, D⟩ := D.struct Try.underlying47 sz47
  match l, hl with
  | [c0, c1, c2, c3, c4, c5, c6, c7], _ =>
    have d0 : Dat Try.prog H f 5 [c0] := D 0 rfl sz5
    have d1 : Dat Try.prog H f 5 [c1] := D 1 rfl sz5
    have d2 : Dat Try.prog H f 5 [c2] := D 2 rfl sz5
    have d3 : Dat Try.prog H f 5 [c3] := D 3 rfl sz5
    have d4 : Dat Try.prog H f 35 [c4] := D 4 rfl sz35
    have d5 : Dat Try.prog H f 35 [c5] := D 5 rfl sz35
    have d6 : Dat Try.prog H f 35 [c6] := D 6 rfl sz35
    have d7 : Dat Try.prog H f 35 [c7] := D 7 rfl sz35
    obtain ⟨A, h0⟩ := d0.byte Try.underlying5
    obtain ⟨B, h1⟩ := d1.byte Try.underlying5
    obtain ⟨C, h2⟩ := d2.byte Try.underlying5
    obtain ⟨D', h3⟩ := d3.byte Try.underlying5
    obtain ⟨xv, x, h4, x1, x2⟩ := d4.bytes Try.underlying35 Try.underlying5 sz5 by5
    obtain ⟨yv, y, h5, y1, y2⟩ := d5.bytes Try.underlying35 Try.underlying5 sz5 by5
    obtain ⟨zv, z, h6, z1, z2⟩ := d6.bytes Try.underlying35 Try.underlying5 sz5 by5
    obtain ⟨rv, r, h7, r1, r2⟩ := d7.bytes Try.underlying35 Try.underlying5 sz5 by5
    simp at h0 h1 h2 h3 h4 h5 h6 h7
    exact ⟨A, B, C, D', xv, yv, zv, rv, x, y, z, r, by rw [h0, h1, h2, h3, h4, h5, h6, h7], ⟨x1, x2⟩, ⟨y1, y2⟩, ⟨z1, z2⟩, ⟨r1, r2⟩⟩

theorem matrixBrackets_abs (H : AH) (sv : AV) (sl : List AV) (e : sv = .agg sl) (f : Nat) (D : Dat Try.prog H f 47 sl) : ASpec Try.prog 6 [sv] H fun r _ => r = .bool true := by
  subst e
  obtain ⟨A, B, C, D', xv, yv, zv, rv, x, y, z, r, rfl, ⟨hx, hxl⟩, ⟨hy, hyl⟩, ⟨hz, hzl⟩, ⟨hr, hrl⟩⟩ := sizes_dat D
  clear D
  have bA := A.toNat_lt
  have bB := B.toNat_lt
  have bC := C.toNat_lt
  have bD := D'.toNat_lt
  refine aspec_in (rs := [.tmp 2]) (n := 175) Try.func6 rfl rfl rfl rfl (Nat.le_of_ble_eq_true rfl) ?_
  (refine wp_mid (σ := Nat × Nat × Nat × Nat) 2 (by kernel_rfl) (fun (a, b, c, d) => [(1, .ptr ⟨false, H.n, 0⟩), (3, .int .i64 (a : Nat)), (4, .int .i64 (b : Nat)), (5, .int .i64 (c : Nat)), (6, .int .i64 (d : Nat))]) (fun (a, b, c, d) H' => (1 ≤ a ∧ a ≤ 9) ∧ (1 ≤ b ∧ b ≤ 9) ∧ (1 ≤ c ∧ c ≤ 9) ∧ (1 ≤ d ∧ d ≤ 9) ∧ H' = H.push (some (.cells [bv A, bv B, bv C, bv D', xv, yv, zv, rv]))) ?_ ?_; rotate_left; simp only [restC]; rotate_left; simp only [headN])
  · (try simp (maxSteps := 4000000) (disch := first | omega | (simp only [push_n, set_n, clr_n, also_n, List.length_replicate, List.length_set, List.length_map, List.length_append, List.length_take, List.length_drop, List.length_cons, List.length_nil]; first | done | omega) | (with_reducible decide)) only [go_sem, Int.reduceEq, Int.reduceNe, Int.reduceLT, Int.reduceLE, Nat.reduceEqDiff, Int.reduceToNat, Nat.reduceSub, Nat.reduceAdd, Nat.reduceMul, Nat.reduceLT, Nat.reduceLeDiff, Int.reduceNeg, Int.reduceAdd, Int.reduceSub, Int.reduceMul, UInt8.reduceToNat]; repeat first | ((first | with_reducible refine split2_pk (by omega) ?_ | with_reducible refine split2_nk (by omega) ?_); intro hsq; try simp (maxSteps := 4000000) (disch := first | omega | (simp only [push_n, set_n, clr_n, also_n, List.length_replicate, List.length_set, List.length_map, List.length_append, List.length_take, List.length_drop, List.length_cons, List.length_nil]; first | done | omega) | (with_reducible decide)) only [go_sem, Int.reduceEq, Int.reduceNe, Int.reduceLT, Int.reduceLE, Nat.reduceEqDiff, Int.reduceToNat, Nat.reduceSub, Nat.reduceAdd, Nat.reduceMul, Nat.reduceLT, Nat.reduceLeDiff, Int.reduceNeg, Int.reduceAdd, Int.reduceSub, Int.reduceMul, UInt8.reduceToNat, hsq]))
    (refine awp_drawP (hl := []) [eqM (H.push (some (.cells [bv A, bv B, bv C, bv D', xv, yv, zv, rv])))] [(0, some 0), (1, some 0), (2, some 0), (3, some 0), (4, some 0), (5, some 0), (6, some 0), (7, some 0), (8, some 0), (9, some 0), (10, some 0), (11, some 0), (12, some 0), (13, some 0), (14, some 0), (15, some 0), (16, some 0), (17, some 0), (18, some 0), (19, some 0), (20, some 0), (21, some 0), (22, some 0), (23, some 0)] [] (by kernel_rfl) (by rfl) (by decide +kernel) (rofP_0 ?_) ?_; rotate_left; (conv => arg 5; simp only [List.map_cons, List.map_nil, List.getElem?_toArray, List.getElem?_cons_zero, List.getElem?_cons_succ]); rotate_left)
    · rfl
    (try simp (maxSteps := 4000000) (disch := first | omega | (simp only [push_n, set_n, clr_n, also_n, List.length_replicate, List.length_set, List.length_map, List.length_append, List.length_take, List.length_drop, List.length_cons, List.length_nil]; first | done | omega) | (with_reducible decide)) only [go_sem, Int.reduceEq, Int.reduceNe, Int.reduceLT, Int.reduceLE, Nat.reduceEqDiff, Int.reduceToNat, Nat.reduceSub, Nat.reduceAdd, Nat.reduceMul, Nat.reduceLT, Nat.reduceLeDiff, Int.reduceNeg, Int.reduceAdd, Int.reduceSub, Int.reduceMul, UInt8.reduceToNat]; repeat first | ((first | with_reducible refine split2_pk (by omega) ?_ | with_reducible refine split2_nk (by omega) ?_); intro hsq; try simp (maxSteps := 4000000) (disch := first | omega | (simp only [push_n, set_n, clr_n, also_n, List.length_replicate, List.length_set, List.length_map, List.length_append, List.length_take, List.length_drop, List.length_cons, List.length_nil]; first | done | omega) | (with_reducible decide)) only [go_sem, Int.reduceEq, Int.reduceNe, Int.reduceLT, Int.reduceLE, Nat.reduceEqDiff, Int.reduceToNat, Nat.reduceSub, Nat.reduceAdd, Nat.reduceMul, Nat.reduceLT, Nat.reduceLeDiff, Int.reduceNeg, Int.reduceAdd, Int.reduceSub, Int.reduceMul, UInt8.reduceToNat, hsq]))
    exact ⟨(1 + A.toNat % 9, 1 + B.toNat % 9, 1 + C.toNat % 9, 1 + D'.toNat % 9), ⟨rfl, rfl, rfl, rfl⟩, by simp only; omega⟩
  rintro ⟨a, b, c, d⟩ H1 ⟨ha, hb, hc, hd, rfl⟩
  have ha : 1 ≤ a ∧ a ≤ 9 := ha
  have hb : 1 ≤ b ∧ b ≤ 9 := hb
  have hc : 1 ≤ c ∧ c ≤ 9 := hc
  have hd : 1 ≤ d ∧ d ≤ 9 := hd
  have hbox : (H.push (some (.cells [bv A, bv B, bv C, bv D', xv, yv, zv, rv]))).cells? H.n = some [bv A, bv B, bv C, bv D', xv, yv, zv, rv] := push_cells _ _
  have g1 : Grew H (H.push (some (.cells [bv A, bv B, bv C, bv D', xv, yv, zv, rv]))) := Grew.push _ _
  have hx := hx.grew g1
  have hy := hy.grew g1
  have hz := hz.grew g1
  have hr := hr.grew g1
  generalize (H.push (some (.cells [bv A, bv B, bv C, bv D', xv, yv, zv, rv]))) = H1 at hbox g1 hx hy hz hr ⊢
  have hlt := cells_lt hbox
  have glv := gq_live (H := H1) (i := H.n) (by rw [hbox]; rfl)
  have hsome : (H1.cells? H.n).isSome = true := by rw [hbox]; rfl
  (refine wp_mid (σ := AV × AV × AV × Rows8 × Rows8 × Rows8) 1 (by kernel_rfl) (fun (xh, yh, zh, X, Y, Z) => [(1, .ptr ⟨false, H.n, 0⟩), (3, .int .i64 (a : Nat)), (4, .int .i64 (b : Nat)), (5, .int .i64 (c : Nat)), (6, .int .i64 (d : Nat)), (7, xh), (8, yh), (9, zh)]) (fun (xh, yh, zh, X, Y, Z) H' => Grew H1 H' ∧ (∃ ws, IsRows H' xh ws X) ∧ (∃ ws, IsRows H' yh ws Y) ∧ (∃ ws, IsRows H' zh ws Z) ∧ Shape a b X ∧ Shape b c Y ∧ Shape c d Z) ?_ ?_; rotate_left; simp only [restC]; rotate_left; simp only [headN])
  · (try simp (maxSteps := 4000000) (disch := first | omega | (simp only [push_n, set_n, clr_n, also_n, List.length_replicate, List.length_set, List.length_map, List.length_append, List.length_take, List.length_drop, List.length_cons, List.length_nil]; first | done | omega) | (with_reducible decide)) only [go_sem, Int.reduceEq, Int.reduceNe, Int.reduceLT, Int.reduceLE, Nat.reduceEqDiff, Int.reduceToNat, Nat.reduceSub, Nat.reduceAdd, Nat.reduceMul, Nat.reduceLT, Nat.reduceLeDiff, Int.reduceNeg, Int.reduceAdd, Int.reduceSub, Int.reduceMul, UInt8.reduceToNat]; repeat first | ((first | with_reducible refine split2_pk (by omega) ?_ | with_reducible refine split2_nk (by omega) ?_); intro hsq; try simp (maxSteps := 4000000) (disch := first | omega | (simp only [push_n, set_n, clr_n, also_n, List.length_replicate, List.length_set, List.length_map, List.length_append, List.length_take, List.length_drop, List.length_cons, List.length_nil]; first | done | omega) | (with_reducible decide)) only [go_sem, Int.reduceEq, Int.reduceNe, Int.reduceLT, Int.reduceLE, Nat.reduceEqDiff, Int.reduceToNat, Nat.reduceSub, Nat.reduceAdd, Nat.reduceMul, Nat.reduceLT, Nat.reduceLeDiff, Int.reduceNeg, Int.reduceAdd, Int.reduceSub, Int.reduceMul, UInt8.reduceToNat, hsq]))
    (refine awp_drawH [50, 55, 60] [eqM H1.clr,  fun K => Grew H1.clr K,  fun K => Grew H1.clr K,  fun _ => True] [(0, some 0), (1, some 0), (2, some 0), (3, some 0), (5, some 1), (6, some 1), (7, some 1), (8, some 1), (10, some 2), (11, some 2), (12, some 2), (13, some 2), (4, none), (9, none), (14, none), (15, some 0), (16, some 0), (17, some 0)] [4, 9, 14] (by kernel_rfl) (by rfl) (by decide +kernel) (rofP_0 ?_) ?_; rotate_left; (conv => arg 5; simp only [List.map_cons, List.map_nil, List.getElem?_toArray, List.getElem?_cons_zero, List.getElem?_cons_succ]); rotate_left)
    · rfl
    (try simp (maxSteps := 4000000) (disch := first | omega | (simp only [push_n, set_n, clr_n, also_n, List.length_replicate, List.length_set, List.length_map, List.length_append, List.length_take, List.length_drop, List.length_cons, List.length_nil]; first | done | omega) | (with_reducible decide)) only [go_sem, Int.reduceEq, Int.reduceNe, Int.reduceLT, Int.reduceLE, Nat.reduceEqDiff, Int.reduceToNat, Nat.reduceSub, Nat.reduceAdd, Nat.reduceMul, Nat.reduceLT, Nat.reduceLeDiff, Int.reduceNeg, Int.reduceAdd, Int.reduceSub, Int.reduceMul, UInt8.reduceToNat, hbox, hsome, glv, rigP_g, rigP_g1, rigP_gs, Bool.false_or]; repeat first | ((first | with_reducible refine split2_pk (by omega) ?_ | with_reducible refine split2_nk (by omega) ?_); intro hsq; try simp (maxSteps := 4000000) (disch := first | omega | (simp only [push_n, set_n, clr_n, also_n, List.length_replicate, List.length_set, List.length_map, List.length_append, List.length_take, List.length_drop, List.length_cons, List.length_nil]; first | done | omega) | (with_reducible decide)) only [go_sem, Int.reduceEq, Int.reduceNe, Int.reduceLT, Int.reduceLE, Nat.reduceEqDiff, Int.reduceToNat, Nat.reduceSub, Nat.reduceAdd, Nat.reduceMul, Nat.reduceLT, Nat.reduceLeDiff, Int.reduceNeg, Int.reduceAdd, Int.reduceSub, Int.reduceMul, UInt8.reduceToNat, hbox, hsome, glv, rigP_g, rigP_g1, rigP_gs, Bool.false_or, hsq]))
    refine (made_spec H1.clr a b xv x hx.clr hxl ha hb).mono ?_
    rintro r1 H2 ⟨B1, w1, X, rfl, n1, sX⟩
    have G2 : Grew H1.clr H2 := n1.g
    (try simp (maxSteps := 4000000) (disch := first | omega | (simp only [push_n, set_n, clr_n, also_n, List.length_replicate, List.length_set, List.length_map, List.length_append, List.length_take, List.length_drop, List.length_cons, List.length_nil]; first | done | omega) | (with_reducible decide)) only [go_sem, Int.reduceEq, Int.reduceNe, Int.reduceLT, Int.reduceLE, Nat.reduceEqDiff, Int.reduceToNat, Nat.reduceSub, Nat.reduceAdd, Nat.reduceMul, Nat.reduceLT, Nat.reduceLeDiff, Int.reduceNeg, Int.reduceAdd, Int.reduceSub, Int.reduceMul, UInt8.reduceToNat, G2]; repeat first | ((first | with_reducible refine split2_pk (by omega) ?_ | with_reducible refine split2_nk (by omega) ?_); intro hsq; try simp (maxSteps := 4000000) (disch := first | omega | (simp only [push_n, set_n, clr_n, also_n, List.length_replicate, List.length_set, List.length_map, List.length_append, List.length_take, List.length_drop, List.length_cons, List.length_nil]; first | done | omega) | (with_reducible decide)) only [go_sem, Int.reduceEq, Int.reduceNe, Int.reduceLT, Int.reduceLE, Nat.reduceEqDiff, Int.reduceToNat, Nat.reduceSub, Nat.reduceAdd, Nat.reduceMul, Nat.reduceLT, Nat.reduceLeDiff, Int.reduceNeg, Int.reduceAdd, Int.reduceSub, Int.reduceMul, UInt8.reduceToNat, G2, hsq]))
    refine (made_spec H2 b c yv y (hy.clr.grew G2) hyl hb hc).mono ?_
    rintro r2 H3 ⟨B2, w2, Y, rfl, n2, sY⟩
    have G3 : Grew H1.clr H3 := G2.trans n2.g
    (try simp (maxSteps := 4000000) (disch := first | omega | (simp only [push_n, set_n, clr_n, also_n, List.length_replicate, List.length_set, List.length_map, List.length_append, List.length_take, List.length_drop, List.length_cons, List.length_nil]; first | done | omega) | (with_reducible decide)) only [go_sem, Int.reduceEq, Int.reduceNe, Int.reduceLT, Int.reduceLE, Nat.reduceEqDiff, Int.reduceToNat, Nat.reduceSub, Nat.reduceAdd, Nat.reduceMul, Nat.reduceLT, Nat.reduceLeDiff, Int.reduceNeg, Int.reduceAdd, Int.reduceSub, Int.reduceMul, UInt8.reduceToNat, G3]; repeat first | ((first | with_reducible refine split2_pk (by omega) ?_ | with_reducible refine split2_nk (by omega) ?_); intro hsq; try simp (maxSteps := 4000000) (disch := first | omega | (simp only [push_n, set_n, clr_n, also_n, List.length_replicate, List.length_set, List.length_map, List.length_append, List.length_take, List.length_drop, List.length_cons, List.length_nil]; first | done | omega) | (with_reducible decide)) only [go_sem, Int.reduceEq, Int.reduceNe, Int.reduceLT, Int.reduceLE, Nat.reduceEqDiff, Int.reduceToNat, Nat.reduceSub, Nat.reduceAdd, Nat.reduceMul, Nat.reduceLT, Nat.reduceLeDiff, Int.reduceNeg, Int.reduceAdd, Int.reduceSub, Int.reduceMul, UInt8.reduceToNat, G3, hsq]))
    refine (made_spec H3 c d zv z (hz.clr.grew G3) hzl hc hd).mono ?_
    rintro r3 H4 ⟨B3, w3, Z, rfl, n3, sZ⟩
    have G4 : Grew H1.clr H4 := G3.trans n3.g
    (try simp (maxSteps := 4000000) (disch := first | omega | (simp only [push_n, set_n, clr_n, also_n, List.length_replicate, List.length_set, List.length_map, List.length_append, List.length_take, List.length_drop, List.length_cons, List.length_nil]; first | done | omega) | (with_reducible decide)) only [go_sem, Int.reduceEq, Int.reduceNe, Int.reduceLT, Int.reduceLE, Nat.reduceEqDiff, Int.reduceToNat, Nat.reduceSub, Nat.reduceAdd, Nat.reduceMul, Nat.reduceLT, Nat.reduceLeDiff, Int.reduceNeg, Int.reduceAdd, Int.reduceSub, Int.reduceMul, UInt8.reduceToNat]; repeat first | ((first | with_reducible refine split2_pk (by omega) ?_ | with_reducible refine split2_nk (by omega) ?_); intro hsq; try simp (maxSteps := 4000000) (disch := first | omega | (simp only [push_n, set_n, clr_n, also_n, List.length_replicate, List.length_set, List.length_map, List.length_append, List.length_take, List.length_drop, List.length_cons, List.length_nil]; first | done | omega) | (with_reducible decide)) only [go_sem, Int.reduceEq, Int.reduceNe, Int.reduceLT, Int.reduceLE, Nat.reduceEqDiff, Int.reduceToNat, Nat.reduceSub, Nat.reduceAdd, Nat.reduceMul, Nat.reduceLT, Nat.reduceLeDiff, Int.reduceNeg, Int.reduceAdd, Int.reduceSub, Int.reduceMul, UInt8.reduceToNat, hsq]))
    have rX := (n1.own.isRows (c := .known a) (by rw [sX.1]; simp [okSl])).grew (n2.g.trans n3.g)
    have rY := (n2.own.isRows (c := .known b) (by rw [sY.1]; simp [okSl])).grew n3.g
    have rZ := n3.own.isRows (c := .known c) (by rw [sZ.1]; simp [okSl])
    rw [sX.1] at rX
    rw [sY.1] at rY
    rw [sZ.1] at rZ
    exact ⟨(_, _, _, X, Y, Z), ⟨rfl, rfl, rfl⟩, G4.also, ⟨w1, rows_also rX⟩, ⟨w2, rows_also rY⟩, ⟨w3, rows_also rZ⟩, sX, sY, sZ⟩
  rintro ⟨xh, yh, zh, X, Y, Z⟩ H2 ⟨g2, ⟨xw, rX⟩, ⟨yw, rY⟩, ⟨zw, rZ⟩, sX, sY, sZ⟩
  have rX : IsRows H2 xh xw X := rX
  have rY : IsRows H2 yh yw Y := rY
  have rZ : IsRows H2 zh zw Z := rZ
  have sX : Shape a b X := sX
  have sY : Shape b c Y := sY
  have sZ : Shape c d Z := sZ
  have mX := shape_may sX ha hb
  have mY := shape_may sY hb hc
  have mZ := shape_may sZ hc hd
  have hr2 := hr.grew g2
  have hbox2 : H2.cells? H.n = some [bv A, bv B, bv C, bv D', xv, yv, zv, rv] := g2.cells_some hbox
  clear hx hy hz hr hbox hsome glv g1
  have sXY : Shape a c (mulRows X Y) := by have := mulRows_shape X Y; rwa [sX.1, sY.2 0 (by omega)] at this
  have sYZ : Shape b d (mulRows Y Z) := by have := mulRows_shape Y Z; rwa [sY.1, sZ.2 0 (by omega)] at this
  have mXY := shape_may sXY ha hc
  have mYZ := shape_may sYZ hb hd
  have assoc := mulRows_assoc sX sY sZ (by omega) (by omega) (by omega)
  have okXY : mayM X ∧ mayM Y ∧ (X.getD 0 []).length = Y.length := ⟨mX, mY, by rw [sX.2 0 (by omega), sY.1]⟩
  have okYZ : mayM Y ∧ mayM Z ∧ (Y.getD 0 []).length = Z.length := ⟨mY, mZ, by rw [sY.2 0 (by omega), sZ.1]⟩
  have okL : mayM (mulRows X Y) ∧ mayM Z ∧ ((mulRows X Y).getD 0 []).length = Z.length := ⟨mXY, mZ, by rw [sXY.2 0 (by omega), sZ.1]⟩
  have okR : mayM X ∧ mayM (mulRows Y Z) ∧ (X.getD 0 []).length = (mulRows Y Z).length := ⟨mX, mYZ, by rw [sX.2 0 (by omega), sYZ.1]⟩
  (refine wp_mid (σ := AV) 5 (by kernel_rfl) (fun ph => [(1, .ptr ⟨false, H.n, 0⟩), (3, .int .i64 (a : Nat)), (7, xh), (8, yh), (10, ph)]) (fun ph H' => Grew H2 H' ∧ ∃ ws, IsRows H' ph ws (mulRows X Y)) ?_ ?_; rotate_left; simp only [restC]; rotate_left; simp only [headN])
  · (try simp (maxSteps := 4000000) (disch := first | omega | (simp only [push_n, set_n, clr_n, also_n, List.length_replicate, List.length_set, List.length_map, List.length_append, List.length_take, List.length_drop, List.length_cons, List.length_nil]; first | done | omega) | (with_reducible decide)) only [go_sem, Int.reduceEq, Int.reduceNe, Int.reduceLT, Int.reduceLE, Nat.reduceEqDiff, Int.reduceToNat, Nat.reduceSub, Nat.reduceAdd, Nat.reduceMul, Nat.reduceLT, Nat.reduceLeDiff, Int.reduceNeg, Int.reduceAdd, Int.reduceSub, Int.reduceMul, UInt8.reduceToNat]; repeat first | ((first | with_reducible refine split2_pk (by omega) ?_ | with_reducible refine split2_nk (by omega) ?_); intro hsq; try simp (maxSteps := 4000000) (disch := first | omega | (simp only [push_n, set_n, clr_n, also_n, List.length_replicate, List.length_set, List.length_map, List.length_append, List.length_take, List.length_drop, List.length_cons, List.length_nil]; first | done | omega) | (with_reducible decide)) only [go_sem, Int.reduceEq, Int.reduceNe, Int.reduceLT, Int.reduceLE, Nat.reduceEqDiff, Int.reduceToNat, Nat.reduceSub, Nat.reduceAdd, Nat.reduceMul, Nat.reduceLT, Nat.reduceLeDiff, Int.reduceNeg, Int.reduceAdd, Int.reduceSub, Int.reduceMul, UInt8.reduceToNat, hsq]))
    refine (mul_spec' H2 xh yh xw yw X Y rX rY).mono ?_
    intro r H3 hr
    rw [mulRes, if_pos okXY] at hr
    obtain ⟨B3, w3, rfl, n3⟩ := hr
    (try simp (maxSteps := 4000000) (disch := first | omega | (simp only [push_n, set_n, clr_n, also_n, List.length_replicate, List.length_set, List.length_map, List.length_append, List.length_take, List.length_drop, List.length_cons, List.length_nil]; first | done | omega) | (with_reducible decide)) only [go_sem, Int.reduceEq, Int.reduceNe, Int.reduceLT, Int.reduceLE, Nat.reduceEqDiff, Int.reduceToNat, Nat.reduceSub, Nat.reduceAdd, Nat.reduceMul, Nat.reduceLT, Nat.reduceLeDiff, Int.reduceNeg, Int.reduceAdd, Int.reduceSub, Int.reduceMul, UInt8.reduceToNat]; repeat first | ((first | with_reducible refine split2_pk (by omega) ?_ | with_reducible refine split2_nk (by omega) ?_); intro hsq; try simp (maxSteps := 4000000) (disch := first | omega | (simp only [push_n, set_n, clr_n, also_n, List.length_replicate, List.length_set, List.length_map, List.length_append, List.length_take, List.length_drop, List.length_cons, List.length_nil]; first | done | omega) | (with_reducible decide)) only [go_sem, Int.reduceEq, Int.reduceNe, Int.reduceLT, Int.reduceLE, Nat.reduceEqDiff, Int.reduceToNat, Nat.reduceSub, Nat.reduceAdd, Nat.reduceMul, Nat.reduceLT, Nat.reduceLeDiff, Int.reduceNeg, Int.reduceAdd, Int.reduceSub, Int.reduceMul, UInt8.reduceToNat, hsq]))
    refine (mul_spec' H3 yh zh yw zw Y Z (rY.grew n3.g) (rZ.grew n3.g)).mono ?_
    intro r H4 hr
    rw [mulRes, if_pos okYZ] at hr
    obtain ⟨B4, w4, rfl, n4⟩ := hr
    have r3 := newRows_rows (c := .known a) n3 (by rw [sXY.1]; simp [okSl])
    have r4 := newRows_rows (c := .known b) n4 (by rw [sYZ.1]; simp [okSl])
    rw [sXY.1] at r3
    rw [sYZ.1] at r4
    rw [sX.1, sY.1]
    have G4 := n3.g.trans n4.g
    (try simp (maxSteps := 4000000) (disch := first | omega | (simp only [push_n, set_n, clr_n, also_n, List.length_replicate, List.length_set, List.length_map, List.length_append, List.length_take, List.length_drop, List.length_cons, List.length_nil]; first | done | omega) | (with_reducible decide)) only [go_sem, Int.reduceEq, Int.reduceNe, Int.reduceLT, Int.reduceLE, Nat.reduceEqDiff, Int.reduceToNat, Nat.reduceSub, Nat.reduceAdd, Nat.reduceMul, Nat.reduceLT, Nat.reduceLeDiff, Int.reduceNeg, Int.reduceAdd, Int.reduceSub, Int.reduceMul, UInt8.reduceToNat]; repeat first | ((first | with_reducible refine split2_pk (by omega) ?_ | with_reducible refine split2_nk (by omega) ?_); intro hsq; try simp (maxSteps := 4000000) (disch := first | omega | (simp only [push_n, set_n, clr_n, also_n, List.length_replicate, List.length_set, List.length_map, List.length_append, List.length_take, List.length_drop, List.length_cons, List.length_nil]; first | done | omega) | (with_reducible decide)) only [go_sem, Int.reduceEq, Int.reduceNe, Int.reduceLT, Int.reduceLE, Nat.reduceEqDiff, Int.reduceToNat, Nat.reduceSub, Nat.reduceAdd, Nat.reduceMul, Nat.reduceLT, Nat.reduceLeDiff, Int.reduceNeg, Int.reduceAdd, Int.reduceSub, Int.reduceMul, UInt8.reduceToNat, hsq]))
    refine (mul_spec' H4 _ zh w3 zw _ Z (r3.grew n4.g) (rZ.grew G4)).mono ?_
    intro r H5 hr
    rw [mulRes, if_pos okL] at hr
    obtain ⟨B5, w5, rfl, n5⟩ := hr
    (try simp (maxSteps := 4000000) (disch := first | omega | (simp only [push_n, set_n, clr_n, also_n, List.length_replicate, List.length_set, List.length_map, List.length_append, List.length_take, List.length_drop, List.length_cons, List.length_nil]; first | done | omega) | (with_reducible decide)) only [go_sem, Int.reduceEq, Int.reduceNe, Int.reduceLT, Int.reduceLE, Nat.reduceEqDiff, Int.reduceToNat, Nat.reduceSub, Nat.reduceAdd, Nat.reduceMul, Nat.reduceLT, Nat.reduceLeDiff, Int.reduceNeg, Int.reduceAdd, Int.reduceSub, Int.reduceMul, UInt8.reduceToNat]; repeat first | ((first | with_reducible refine split2_pk (by omega) ?_ | with_reducible refine split2_nk (by omega) ?_); intro hsq; try simp (maxSteps := 4000000) (disch := first | omega | (simp only [push_n, set_n, clr_n, also_n, List.length_replicate, List.length_set, List.length_map, List.length_append, List.length_take, List.length_drop, List.length_cons, List.length_nil]; first | done | omega) | (with_reducible decide)) only [go_sem, Int.reduceEq, Int.reduceNe, Int.reduceLT, Int.reduceLE, Nat.reduceEqDiff, Int.reduceToNat, Nat.reduceSub, Nat.reduceAdd, Nat.reduceMul, Nat.reduceLT, Nat.reduceLeDiff, Int.reduceNeg, Int.reduceAdd, Int.reduceSub, Int.reduceMul, UInt8.reduceToNat, hsq]))
    refine (mul_spec' H5 xh _ xw w4 X _ ((rX.grew G4).grew n5.g) (r4.grew n5.g)).mono ?_
    intro r H6 hr
    rw [mulRes, if_pos okR] at hr
    obtain ⟨B6, w6, rfl, n6⟩ := hr
    rw [← assoc] at n6
    have sL := mulRows_shape (mulRows X Y) Z
    rw [sXY.1, sZ.2 0 (by omega)] at sL
    have hLl : (mulRows (mulRows X Y) Z).length = a := sL.1
    have hw5 : w5.length = a := by rw [n5.own.len]; exact hLl
    have r5 := newRows_rows (c := .known a) n5 (by rw [sL.1]; simp [okSl])
    have r6 := newRows_rows (c := .known a) n6 (by rw [sL.1]; simp [okSl])
    rw [sL.1] at r5 r6
    have q5 := r5.grew n6.g
    have s1 := same_spec H6 _ _ _ _ _ _ q5 r6 (by omega)
    rw [decide_eq_true rfl] at s1
    rw [sXY.1, sX.1]
    have hl5 : lenA Try.prog 23 (.slice ⟨false, B5, 0⟩ a (.known a)) = some (.int .i64 (a : Nat)) := by
      have := q5.row.lenA (P := Try.prog) Try.underlying23
      rwa [sL.1] at this
    have hix := q5.ix (P := Try.prog) Try.underlying23 sz35 (k := .i64) (i := 0) (by omega) (by omega)
    have top5 := (n5.own.grew n6.g).top
    have w50 : w5[0]? = some (w5.getD 0 .unk) := by simp [List.getD, show 0 < w5.length by omega]
    have hl0 := (q5.each 0 (by omega)).length (P := Try.prog) Try.underlying35
    rw [sL.2 0 (by omega)] at hl0
    (try simp (maxSteps := 4000000) (disch := first | omega | (simp only [push_n, set_n, clr_n, also_n, List.length_replicate, List.length_set, List.length_map, List.length_append, List.length_take, List.length_drop, List.length_cons, List.length_nil]; first | done | omega) | (with_reducible decide)) only [go_sem, Int.reduceEq, Int.reduceNe, Int.reduceLT, Int.reduceLE, Nat.reduceEqDiff, Int.reduceToNat, Nat.reduceSub, Nat.reduceAdd, Nat.reduceMul, Nat.reduceLT, Nat.reduceLeDiff, Int.reduceNeg, Int.reduceAdd, Int.reduceSub, Int.reduceMul, UInt8.reduceToNat, hl5, top5, w50, hl0]; repeat first | ((first | refine ASpec.eq (s1) ?_); try simp (maxSteps := 4000000) (disch := first | omega | (simp only [push_n, set_n, clr_n, also_n, List.length_replicate, List.length_set, List.length_map, List.length_append, List.length_take, List.length_drop, List.length_cons, List.length_nil]; first | done | omega) | (with_reducible decide)) only [go_sem, Int.reduceEq, Int.reduceNe, Int.reduceLT, Int.reduceLE, Nat.reduceEqDiff, Int.reduceToNat, Nat.reduceSub, Nat.reduceAdd, Nat.reduceMul, Nat.reduceLT, Nat.reduceLeDiff, Int.reduceNeg, Int.reduceAdd, Int.reduceSub, Int.reduceMul, UInt8.reduceToNat, hl5, top5, w50, hl0]) | ((first | with_reducible refine split2_pk (by omega) ?_ | with_reducible refine split2_nk (by omega) ?_); intro hsq; try simp (maxSteps := 4000000) (disch := first | omega | (simp only [push_n, set_n, clr_n, also_n, List.length_replicate, List.length_set, List.length_map, List.length_append, List.length_take, List.length_drop, List.length_cons, List.length_nil]; first | done | omega) | (with_reducible decide)) only [go_sem, Int.reduceEq, Int.reduceNe, Int.reduceLT, Int.reduceLE, Nat.reduceEqDiff, Int.reduceToNat, Nat.reduceSub, Nat.reduceAdd, Nat.reduceMul, Nat.reduceLT, Nat.reduceLeDiff, Int.reduceNeg, Int.reduceAdd, Int.reduceSub, Int.reduceMul, UInt8.reduceToNat, hl5, top5, w50, hl0, hsq]))
    exact ⟨_, rfl, G4.trans (n5.g.trans n6.g), w3, (r3.grew n4.g).grew (n5.g.trans n6.g)⟩
  rintro ph H3 ⟨g3, pw, hp⟩
  have rX := rX.grew g3
  have rY := rY.grew g3
  have hr3 := hr2.grew g3
  have hbox3 := g3.cells_some hbox2
  have hrlen := hr3.length (P := Try.prog) Try.underlying35
  clear hr2 hbox2 rZ okYZ okL okR assoc mYZ sYZ mZ hzl hyl hxl bA bB bC bD
  (refine wp_mid (σ := AV × Ints) 2 (by kernel_rfl) (fun (v, L) => [(1, .ptr ⟨false, H.n, 0⟩), (7, xh), (8, yh), (10, ph), (18, v)]) (fun (v, L) H' => Grew H3 H' ∧ IsInts H' v L ∧ (1 ≤ L.length ∧ L.length ≤ 21) ∧ ∀ k, k < L.length → 0 ≤ L.getD k 0 ∧ L.getD k 0 < a) ?_ ?_; rotate_left; simp only [restC]; rotate_left; simp only [headN])
  · have nh3 := cells_lt hbox3
    (try simp (maxSteps := 4000000) (disch := first | omega | (simp only [push_n, set_n, clr_n, also_n, List.length_replicate, List.length_set, List.length_map, List.length_append, List.length_take, List.length_drop, List.length_cons, List.length_nil]; first | done | omega) | (with_reducible decide)) only [go_sem, Int.reduceEq, Int.reduceNe, Int.reduceLT, Int.reduceLE, Nat.reduceEqDiff, Int.reduceToNat, Nat.reduceSub, Nat.reduceAdd, Nat.reduceMul, Nat.reduceLT, Nat.reduceLeDiff, Int.reduceNeg, Int.reduceAdd, Int.reduceSub, Int.reduceMul, UInt8.reduceToNat, hbox3, hrlen]; repeat first | ((first | with_reducible refine split2_pk (by omega) ?_ | with_reducible refine split2_nk (by omega) ?_); intro hsq; try simp (maxSteps := 4000000) (disch := first | omega | (simp only [push_n, set_n, clr_n, also_n, List.length_replicate, List.length_set, List.length_map, List.length_append, List.length_take, List.length_drop, List.length_cons, List.length_nil]; first | done | omega) | (with_reducible decide)) only [go_sem, Int.reduceEq, Int.reduceNe, Int.reduceLT, Int.reduceLE, Nat.reduceEqDiff, Int.reduceToNat, Nat.reduceSub, Nat.reduceAdd, Nat.reduceMul, Nat.reduceLT, Nat.reduceLeDiff, Int.reduceNeg, Int.reduceAdd, Int.reduceSub, Int.reduceMul, UInt8.reduceToNat, hbox3, hrlen, hsq]))
    have g3' : Grew H3 (H3.push (some (.cells [.int .i64 0]))) := Grew.push _ _
    have c3 : (H3.push (some (.cells [.int .i64 0]))).cells? H3.n = some [.int .i64 0] := push_cells _ _
    have hlt3 : H3.n < (H3.push (some (.cells [.int .i64 0]))).n := by rw [push_n]; omega
    generalize (H3.push (some (.cells [.int .i64 0]))) = K0 at g3' c3 hlt3 ⊢
    refine wp_loopS (σ := Nat × AV × Ints) (by kernel_rfl) (fun (i, v, L) => [(1, .ptr ⟨false, H.n, 0⟩), (3, .int .i64 (a : Nat)), (7, xh), (8, yh), (10, ph), (18, v), (122, rv), (123, .int .i64 (r.length : Nat)), (124, .int .i64 (i : Nat))]) (fun (i, v, L) H' => i ≤ r.length ∧ Grew H3 H' ∧ L.length = 1 + min i 20 ∧ (∀ k, k < L.length → 0 ≤ L.getD k 0 ∧ L.getD k 0 < a) ∧ ((i = 0 ∧ v = .slice ⟨false, H3.n, 0⟩ 1 (.known 1) ∧ L = [0] ∧ H' = K0) ∨ (0 < i ∧ Acc 1 H3 H' v L.length (L.map (AV.int .i64))))) (fun (i, v, L) => r.length - i) (0, .slice ⟨false, H3.n, 0⟩ 1 (.known 1), [0]) (by simp (maxSteps := 4000000) (disch := first | omega | (simp only [push_n, set_n, clr_n, also_n, List.length_replicate, List.length_set, List.length_map, List.length_append, List.length_take, List.length_drop, List.length_cons, List.length_nil]; first | done | omega) | (with_reducible decide)) only [go_sem, Int.reduceEq, Int.reduceNe, Int.reduceLT, Int.reduceLE, Nat.reduceEqDiff, Int.reduceToNat, Nat.reduceSub, Nat.reduceAdd, Nat.reduceMul, Nat.reduceLT, Nat.reduceLeDiff, Int.reduceNeg, Int.reduceAdd, Int.reduceSub, Int.reduceMul, UInt8.reduceToNat]) ?_ ?_
    · exact ⟨by omega, g3', rfl, fun k hk => by simp at hk; subst hk; simp; omega, .inl ⟨rfl, rfl, rfl, rfl⟩⟩
    rintro ⟨i, v, L⟩ H4 ⟨hi, g4, hLl, hLa, hv⟩
    have hLl : L.length = 1 + min i 20 := hLl
    by_cases hil : i < r.length
    · have hr4 := hr3.grew g4
      have hixr := hr4.ix (P := Try.prog) Try.underlying35 sz5 (k := .i64) (i := (i : Int)) (by omega) (by omega)
      have hldr := hr4.ld (i := i) (by omega)
      by_cases h20 : i < 20
      · have hb8 := (r.getD i 0).toNat_lt
        obtain ⟨q, hq⟩ : ∃ q, (r.getD i 0).toNat % a = q := ⟨_, rfl⟩
        have hqa : q < a := by rw [← hq]; exact Nat.mod_lt _ (by omega)
        have eq1 : ((r.getD i 0).toNat : Int).tmod (a : Int) = (q : Nat) := by rw [Int.tmod_eq_emod_of_nonneg (by omega), ← hq]; simp
        have hgd : ∀ k, k < (L ++ [(q : Int)]).length → 0 ≤ (L ++ [(q : Int)]).getD k 0 ∧ (L ++ [(q : Int)]).getD k 0 < a := fun k hk => by
          simp only [List.length_append, List.length_cons, List.length_nil, Nat.zero_add] at hk
          by_cases e : k < L.length
          · have : (L ++ [(q : Int)]).getD k 0 = L.getD k 0 := by simp [List.getD, List.getElem?_append_left e]
            rw [this]; exact hLa k e
          · obtain rfl : k = L.length := by omega
            have : (L ++ [(q : Int)]).getD L.length 0 = q := by simp [List.getD]
            rw [this]; omega
        rcases hv with ⟨rfl, rfl, rfl, rfl⟩ | ⟨hi0, hacc⟩
        · have a1 : appendTo 1 8 (H4.push (some (.cells [.int .i64 q]))) 1 [.int .i64 q] (.slice ⟨false, H3.n, 0⟩ 1 (.known 1)) = some (.slice ⟨false, H4.n + 1, 0⟩ 2 (.grow 1), (H4.push (some (.cells [.int .i64 q]))).push (some (.cells [.int .i64 0, .int .i64 q]))) := by
            rw [app_to_known (by omega) (by omega) (by omega) (by omega), gd_pos (by omega), get_rw, push_cells_ne hlt3, c3, push_n]
            rfl
          have hixr0 := hr4.ix (P := Try.prog) Try.underlying35 sz5 (k := .i64) (i := (0 : Int)) (by omega) (by omega)
          (try simp (maxSteps := 4000000) (disch := first | omega | (simp only [push_n, set_n, clr_n, also_n, List.length_replicate, List.length_set, List.length_map, List.length_append, List.length_take, List.length_drop, List.length_cons, List.length_nil]; first | done | omega) | (with_reducible decide)) only [go_sem, Int.reduceEq, Int.reduceNe, Int.reduceLT, Int.reduceLE, Nat.reduceEqDiff, Int.reduceToNat, Nat.reduceSub, Nat.reduceAdd, Nat.reduceMul, Nat.reduceLT, Nat.reduceLeDiff, Int.reduceNeg, Int.reduceAdd, Int.reduceSub, Int.reduceMul, UInt8.reduceToNat, hixr0, hldr, eq1, a1]; repeat first | ((first | with_reducible refine split2_pk (by omega) ?_ | with_reducible refine split2_nk (by omega) ?_); intro hsq; try simp (maxSteps := 4000000) (disch := first | omega | (simp only [push_n, set_n, clr_n, also_n, List.length_replicate, List.length_set, List.length_map, List.length_append, List.length_take, List.length_drop, List.length_cons, List.length_nil]; first | done | omega) | (with_reducible decide)) only [go_sem, Int.reduceEq, Int.reduceNe, Int.reduceLT, Int.reduceLE, Nat.reduceEqDiff, Int.reduceToNat, Nat.reduceSub, Nat.reduceAdd, Nat.reduceMul, Nat.reduceLT, Nat.reduceLeDiff, Int.reduceNeg, Int.reduceAdd, Int.reduceSub, Int.reduceMul, UInt8.reduceToNat, hixr0, hldr, eq1, a1, hsq]))
          (refine ⟨(1, .slice ⟨false, H4.n + 1, 0⟩ 2 (.grow 1), [0, (q : Int)]), ?_⟩; and_intros; all_goals (try first | rfl | assumption | omega))
          · exact g3'.trans ((Grew.push _ _).trans (Grew.push _ _))
          · exact .inr ⟨by simp, ⟨g3'.trans ((Grew.push _ _).trans (Grew.push _ _)), rfl, .inr ⟨H4.n + 1, rfl, by omega, by rw [push_cells_at (by rw [push_n])]; rfl⟩⟩⟩
        · obtain ⟨H5, a1, a2, a3⟩ := Acc.app (by' := 8) (hacc.grew (Grew.push H4 (some (.cells [.int .i64 q])))) (k := 1) (news := [.int .i64 q]) rfl (by omega) (by omega)
          rw [push_n] at a1 a2
          (try simp (maxSteps := 4000000) (disch := first | omega | (simp only [push_n, set_n, clr_n, also_n, List.length_replicate, List.length_set, List.length_map, List.length_append, List.length_take, List.length_drop, List.length_cons, List.length_nil]; first | done | omega) | (with_reducible decide)) only [go_sem, Int.reduceEq, Int.reduceNe, Int.reduceLT, Int.reduceLE, Nat.reduceEqDiff, Int.reduceToNat, Nat.reduceSub, Nat.reduceAdd, Nat.reduceMul, Nat.reduceLT, Nat.reduceLeDiff, Int.reduceNeg, Int.reduceAdd, Int.reduceSub, Int.reduceMul, UInt8.reduceToNat, hixr, hldr, eq1, a1]; repeat first | ((first | with_reducible refine split2_pk (by omega) ?_ | with_reducible refine split2_nk (by omega) ?_); intro hsq; try simp (maxSteps := 4000000) (disch := first | omega | (simp only [push_n, set_n, clr_n, also_n, List.length_replicate, List.length_set, List.length_map, List.length_append, List.length_take, List.length_drop, List.length_cons, List.length_nil]; first | done | omega) | (with_reducible decide)) only [go_sem, Int.reduceEq, Int.reduceNe, Int.reduceLT, Int.reduceLE, Nat.reduceEqDiff, Int.reduceToNat, Nat.reduceSub, Nat.reduceAdd, Nat.reduceMul, Nat.reduceLT, Nat.reduceLeDiff, Int.reduceNeg, Int.reduceAdd, Int.reduceSub, Int.reduceMul, UInt8.reduceToNat, hixr, hldr, eq1, a1, hsq]))
          (refine ⟨(i + 1, .slice ⟨false, H4.n + 1, 0⟩ (L.length + 1) (.grow 1), L ++ [(q : Int)]), ?_⟩; and_intros; all_goals (try first | rfl | assumption | omega))
          · exact a2.g
          · simp [hLl]; omega
          · refine .inr ⟨by simp, ?_⟩
            simpa using a2
      · (try simp (maxSteps := 4000000) (disch := first | omega | (simp only [push_n, set_n, clr_n, also_n, List.length_replicate, List.length_set, List.length_map, List.length_append, List.length_take, List.length_drop, List.length_cons, List.length_nil]; first | done | omega) | (with_reducible decide)) only [go_sem, Int.reduceEq, Int.reduceNe, Int.reduceLT, Int.reduceLE, Nat.reduceEqDiff, Int.reduceToNat, Nat.reduceSub, Nat.reduceAdd, Nat.reduceMul, Nat.reduceLT, Nat.reduceLeDiff, Int.reduceNeg, Int.reduceAdd, Int.reduceSub, Int.reduceMul, UInt8.reduceToNat, hixr, hldr]; repeat first | ((first | with_reducible refine split2_pk (by omega) ?_ | with_reducible refine split2_nk (by omega) ?_); intro hsq; try simp (maxSteps := 4000000) (disch := first | omega | (simp only [push_n, set_n, clr_n, also_n, List.length_replicate, List.length_set, List.length_map, List.length_append, List.length_take, List.length_drop, List.length_cons, List.length_nil]; first | done | omega) | (with_reducible decide)) only [go_sem, Int.reduceEq, Int.reduceNe, Int.reduceLT, Int.reduceLE, Nat.reduceEqDiff, Int.reduceToNat, Nat.reduceSub, Nat.reduceAdd, Nat.reduceMul, Nat.reduceLT, Nat.reduceLeDiff, Int.reduceNeg, Int.reduceAdd, Int.reduceSub, Int.reduceMul, UInt8.reduceToNat, hixr, hldr, hsq]))
        (refine ⟨(i + 1, v, L), ?_⟩; and_intros; all_goals (try first | rfl | assumption | omega))
        · show L.length = 1 + min (i + 1) 20; omega
        · rcases hv with ⟨h0, _⟩ | ⟨_, hacc⟩
          · omega
          · exact .inr ⟨by simp, hacc⟩
    · obtain rfl : i = r.length := by omega
      (try simp (maxSteps := 4000000) (disch := first | omega | (simp only [push_n, set_n, clr_n, also_n, List.length_replicate, List.length_set, List.length_map, List.length_append, List.length_take, List.length_drop, List.length_cons, List.length_nil]; first | done | omega) | (with_reducible decide)) only [go_sem, Int.reduceEq, Int.reduceNe, Int.reduceLT, Int.reduceLE, Nat.reduceEqDiff, Int.reduceToNat, Nat.reduceSub, Nat.reduceAdd, Nat.reduceMul, Nat.reduceLT, Nat.reduceLeDiff, Int.reduceNeg, Int.reduceAdd, Int.reduceSub, Int.reduceMul, UInt8.reduceToNat]; repeat first | ((first | with_reducible refine split2_pk (by omega) ?_ | with_reducible refine split2_nk (by omega) ?_); intro hsq; try simp (maxSteps := 4000000) (disch := first | omega | (simp only [push_n, set_n, clr_n, also_n, List.length_replicate, List.length_set, List.length_map, List.length_append, List.length_take, List.length_drop, List.length_cons, List.length_nil]; first | done | omega) | (with_reducible decide)) only [go_sem, Int.reduceEq, Int.reduceNe, Int.reduceLT, Int.reduceLE, Nat.reduceEqDiff, Int.reduceToNat, Nat.reduceSub, Nat.reduceAdd, Nat.reduceMul, Nat.reduceLT, Nat.reduceLeDiff, Int.reduceNeg, Int.reduceAdd, Int.reduceSub, Int.reduceMul, UInt8.reduceToNat, hsq]))
      refine ⟨(v, L), rfl, g4, ?_, by simp only; omega, hLa⟩
      rcases hv with ⟨h0, rfl, rfl, rfl⟩ | ⟨_, hacc⟩
      · exact ⟨row_whole c3 rfl _, rfl, by simp [okSl]⟩
      · exact hacc.row
  rintro ⟨v, L⟩ H4 ⟨g4, hv, hL, hLa⟩
  have hv : IsInts H4 v L := hv
  have hL : 1 ≤ L.length ∧ L.length ≤ 21 := hL
  have hLa : ∀ k, k < L.length → 0 ≤ L.getD k 0 ∧ L.getD k 0 < a := hLa
  have rX := rX.grew g4
  have rY := rY.grew g4
  have hp := hp.grew g4
  have hXl : X.length = a := sX.1
  have hXYl : (mulRows X Y).length = a := sXY.1
  have ok1 : rowsOk X L := ⟨mX, by omega, by omega, fun k hk => by rw [hXl]; exact hLa k hk⟩
  have ok2 : rowsOk (mulRows X Y) L := ⟨mXY, by omega, by omega, fun k hk => by rw [hXYl]; exact hLa k hk⟩
  have hpl : (pickRows X L).length = L.length := by simp [pickRows]
  have hpl2 : (pickRows (mulRows X Y) L).length = L.length := by simp [pickRows]
  have hpg : ∀ i, i < L.length → (pickRows X L).getD i [] = X.getD (L.getD i 0).toNat [] := fun i hi => pickRows_get hi
  have mP : mayM (pickRows X L) := by
    have h0 := hpg 0 (by omega)
    have hL0 := hLa 0 (by show 0 < L.length; omega)
    have hL0 : 0 ≤ L.getD 0 0 ∧ L.getD 0 0 < a := hL0
    have hr0 := sX.2 (L.getD 0 0).toNat (by omega)
    refine ⟨by omega, by omega, by rw [h0, hr0]; omega, by rw [h0, hr0]; omega, fun i hi => ?_⟩
    have hi' : i < L.length := by rw [← hpl]; exact hi
    have hLi := hLa i hi'
    rw [hpg i hi', h0, hr0, sX.2 _ (by omega)]
  have okP : mayM (pickRows X L) ∧ mayM Y ∧ ((pickRows X L).getD 0 []).length = Y.length := ⟨mP, mY, by
    have hL0 : 0 ≤ L.getD 0 0 ∧ L.getD 0 0 < a := hLa 0 (by show 0 < L.length; omega)
    rw [hpg 0 (by omega), sX.2 _ (by omega), sY.1]⟩
  have key : mulRows (pickRows X L) Y = pickRows (mulRows X Y) L := by
    have e1 := mulRows_len (pickRows X L) Y
    apply List.ext_getElem (by omega)
    intro i h1 h2
    have hi : i < L.length := by omega
    have hLi := hLa i hi
    have g1 := mulRows_get (a := pickRows X L) (b := Y) (i := i) (by omega)
    have g2 := pickRows_get (a := mulRows X Y) (l := L) hi
    rw [mulRows_get (by omega)] at g2
    simp only [List.getD, List.getElem?_eq_getElem h1, List.getElem?_eq_getElem h2, Option.getD_some] at g1 g2
    rw [g1, g2]
    refine List.map_congr_left fun j _ => sx_congr fun u _ => ?_
    unfold ent
    rw [hpg i hi]
    rfl
  refine wp_sound _ (by kernel_rfl) ?_
  (try simp (maxSteps := 4000000) (disch := first | omega | (simp only [push_n, set_n, clr_n, also_n, List.length_replicate, List.length_set, List.length_map, List.length_append, List.length_take, List.length_drop, List.length_cons, List.length_nil]; first | done | omega) | (with_reducible decide)) only [go_sem, Int.reduceEq, Int.reduceNe, Int.reduceLT, Int.reduceLE, Nat.reduceEqDiff, Int.reduceToNat, Nat.reduceSub, Nat.reduceAdd, Nat.reduceMul, Nat.reduceLT, Nat.reduceLeDiff, Int.reduceNeg, Int.reduceAdd, Int.reduceSub, Int.reduceMul, UInt8.reduceToNat]; repeat first | ((first | with_reducible refine split2_pk (by omega) ?_ | with_reducible refine split2_nk (by omega) ?_); intro hsq; try simp (maxSteps := 4000000) (disch := first | omega | (simp only [push_n, set_n, clr_n, also_n, List.length_replicate, List.length_set, List.length_map, List.length_append, List.length_take, List.length_drop, List.length_cons, List.length_nil]; first | done | omega) | (with_reducible decide)) only [go_sem, Int.reduceEq, Int.reduceNe, Int.reduceLT, Int.reduceLE, Nat.reduceEqDiff, Int.reduceToNat, Nat.reduceSub, Nat.reduceAdd, Nat.reduceMul, Nat.reduceLT, Nat.reduceLeDiff, Int.reduceNeg, Int.reduceAdd, Int.reduceSub, Int.reduceMul, UInt8.reduceToNat, hsq]))
  refine (rows_spec H4 xh v xw X L rX hv).mono ?_
  intro r H5 hr
  rw [rowsRes, if_pos ok1] at hr
  obtain ⟨B5, w5, rfl, n5⟩ := hr
  have r5 := newRows_rows (c := .grow 1) n5 rfl
  rw [hpl] at r5
  (try simp (maxSteps := 4000000) (disch := first | omega | (simp only [push_n, set_n, clr_n, also_n, List.length_replicate, List.length_set, List.length_map, List.length_append, List.length_take, List.length_drop, List.length_cons, List.length_nil]; first | done | omega) | (with_reducible decide)) only [go_sem, Int.reduceEq, Int.reduceNe, Int.reduceLT, Int.reduceLE, Nat.reduceEqDiff, Int.reduceToNat, Nat.reduceSub, Nat.reduceAdd, Nat.reduceMul, Nat.reduceLT, Nat.reduceLeDiff, Int.reduceNeg, Int.reduceAdd, Int.reduceSub, Int.reduceMul, UInt8.reduceToNat]; repeat first | ((first | with_reducible refine split2_pk (by omega) ?_ | with_reducible refine split2_nk (by omega) ?_); intro hsq; try simp (maxSteps := 4000000) (disch := first | omega | (simp only [push_n, set_n, clr_n, also_n, List.length_replicate, List.length_set, List.length_map, List.length_append, List.length_take, List.length_drop, List.length_cons, List.length_nil]; first | done | omega) | (with_reducible decide)) only [go_sem, Int.reduceEq, Int.reduceNe, Int.reduceLT, Int.reduceLE, Nat.reduceEqDiff, Int.reduceToNat, Nat.reduceSub, Nat.reduceAdd, Nat.reduceMul, Nat.reduceLT, Nat.reduceLeDiff, Int.reduceNeg, Int.reduceAdd, Int.reduceSub, Int.reduceMul, UInt8.reduceToNat, hsq]))
  refine (mul_spec' H5 _ yh w5 yw _ Y r5 (rY.grew n5.g)).mono ?_
  intro r H6 hr
  rw [mulRes, if_pos okP, key, hpl] at hr
  obtain ⟨B6, w6, rfl, n6⟩ := hr
  have r6 := newRows_rows (c := .known L.length) n6 (by rw [hpl2]; simp [okSl])
  rw [hpl2] at r6
  (try simp (maxSteps := 4000000) (disch := first | omega | (simp only [push_n, set_n, clr_n, also_n, List.length_replicate, List.length_set, List.length_map, List.length_append, List.length_take, List.length_drop, List.length_cons, List.length_nil]; first | done | omega) | (with_reducible decide)) only [go_sem, Int.reduceEq, Int.reduceNe, Int.reduceLT, Int.reduceLE, Nat.reduceEqDiff, Int.reduceToNat, Nat.reduceSub, Nat.reduceAdd, Nat.reduceMul, Nat.reduceLT, Nat.reduceLeDiff, Int.reduceNeg, Int.reduceAdd, Int.reduceSub, Int.reduceMul, UInt8.reduceToNat]; repeat first | ((first | with_reducible refine split2_pk (by omega) ?_ | with_reducible refine split2_nk (by omega) ?_); intro hsq; try simp (maxSteps := 4000000) (disch := first | omega | (simp only [push_n, set_n, clr_n, also_n, List.length_replicate, List.length_set, List.length_map, List.length_append, List.length_take, List.length_drop, List.length_cons, List.length_nil]; first | done | omega) | (with_reducible decide)) only [go_sem, Int.reduceEq, Int.reduceNe, Int.reduceLT, Int.reduceLE, Nat.reduceEqDiff, Int.reduceToNat, Nat.reduceSub, Nat.reduceAdd, Nat.reduceMul, Nat.reduceLT, Nat.reduceLeDiff, Int.reduceNeg, Int.reduceAdd, Int.reduceSub, Int.reduceMul, UInt8.reduceToNat, hsq]))
  refine (rows_spec H6 ph v pw _ L ((hp.grew n5.g).grew n6.g) (Row.grew n6.g (Row.grew n5.g hv))).mono ?_
  intro r H7 hr
  rw [rowsRes, if_pos ok2] at hr
  obtain ⟨B7, w7, rfl, n7⟩ := hr
  have r7 := newRows_rows (c := .grow 1) n7 rfl
  rw [hpl2] at r7
  (try simp (maxSteps := 4000000) (disch := first | omega | (simp only [push_n, set_n, clr_n, also_n, List.length_replicate, List.length_set, List.length_map, List.length_append, List.length_take, List.length_drop, List.length_cons, List.length_nil]; first | done | omega) | (with_reducible decide)) only [go_sem, Int.reduceEq, Int.reduceNe, Int.reduceLT, Int.reduceLE, Nat.reduceEqDiff, Int.reduceToNat, Nat.reduceSub, Nat.reduceAdd, Nat.reduceMul, Nat.reduceLT, Nat.reduceLeDiff, Int.reduceNeg, Int.reduceAdd, Int.reduceSub, Int.reduceMul, UInt8.reduceToNat]; repeat first | ((first | with_reducible refine split2_pk (by omega) ?_ | with_reducible refine split2_nk (by omega) ?_); intro hsq; try simp (maxSteps := 4000000) (disch := first | omega | (simp only [push_n, set_n, clr_n, also_n, List.length_replicate, List.length_set, List.length_map, List.length_append, List.length_take, List.length_drop, List.length_cons, List.length_nil]; first | done | omega) | (with_reducible decide)) only [go_sem, Int.reduceEq, Int.reduceNe, Int.reduceLT, Int.reduceLE, Nat.reduceEqDiff, Int.reduceToNat, Nat.reduceSub, Nat.reduceAdd, Nat.reduceMul, Nat.reduceLT, Nat.reduceLeDiff, Int.reduceNeg, Int.reduceAdd, Int.reduceSub, Int.reduceMul, UInt8.reduceToNat, hsq]))
  refine (awake_spec H7).mono ?_
  rintro r H8 ⟨rfl, g8⟩
  have s1 := same_spec H8 _ _ _ _ _ _ ((r6.grew n7.g).grew g8) (r7.grew g8) (by omega)
  rw [decide_eq_true rfl] at s1
  (try simp (maxSteps := 4000000) (disch := first | omega | (simp only [push_n, set_n, clr_n, also_n, List.length_replicate, List.length_set, List.length_map, List.length_append, List.length_take, List.length_drop, List.length_cons, List.length_nil]; first | done | omega) | (with_reducible decide)) only [go_sem, Int.reduceEq, Int.reduceNe, Int.reduceLT, Int.reduceLE, Nat.reduceEqDiff, Int.reduceToNat, Nat.reduceSub, Nat.reduceAdd, Nat.reduceMul, Nat.reduceLT, Nat.reduceLeDiff, Int.reduceNeg, Int.reduceAdd, Int.reduceSub, Int.reduceMul, UInt8.reduceToNat]; repeat first | ((first | refine ASpec.eq (s1) ?_); try simp (maxSteps := 4000000) (disch := first | omega | (simp only [push_n, set_n, clr_n, also_n, List.length_replicate, List.length_set, List.length_map, List.length_append, List.length_take, List.length_drop, List.length_cons, List.length_nil]; first | done | omega) | (with_reducible decide)) only [go_sem, Int.reduceEq, Int.reduceNe, Int.reduceLT, Int.reduceLE, Nat.reduceEqDiff, Int.reduceToNat, Nat.reduceSub, Nat.reduceAdd, Nat.reduceMul, Nat.reduceLT, Nat.reduceLeDiff, Int.reduceNeg, Int.reduceAdd, Int.reduceSub, Int.reduceMul, UInt8.reduceToNat]) | ((first | with_reducible refine split2_pk (by omega) ?_ | with_reducible refine split2_nk (by omega) ?_); intro hsq; try simp (maxSteps := 4000000) (disch := first | omega | (simp only [push_n, set_n, clr_n, also_n, List.length_replicate, List.length_set, List.length_map, List.length_append, List.length_take, List.length_drop, List.length_cons, List.length_nil]; first | done | omega) | (with_reducible decide)) only [go_sem, Int.reduceEq, Int.reduceNe, Int.reduceLT, Int.reduceLE, Nat.reduceEqDiff, Int.reduceToNat, Nat.reduceSub, Nat.reduceAdd, Nat.reduceMul, Nat.reduceLT, Nat.reduceLeDiff, Int.reduceNeg, Int.reduceAdd, Int.reduceSub, Int.reduceMul, UInt8.reduceToNat, hsq]))
end Go.Proofs.Ytojeggahjmjnpaa
