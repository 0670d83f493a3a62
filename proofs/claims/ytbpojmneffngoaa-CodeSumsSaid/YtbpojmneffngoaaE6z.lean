import Derived.Test.YtbpojmneffngoaaE5z
import Derived.Test.YtbpojmneffngoaaZ3
namespace Go.Proofs.Ytbpojmneffngoaa
open Go Go.Abs Go.Abs.GF
set_option linter.unusedVariables false
set_option linter.unusedSimpArgs false
set_option maxHeartbeats 4000000
attribute [local irreducible] ASpec AWp WP AOps DOps
theorem decode_spec (H : AH) (k n : Int) (lv : AV) (l : Ints) (v : AV) (vs : List AV) (ch : Rows8) (hl : IsInts H lv l) (hc : IsRows H v vs ch) (hcl : ch.length ≤ 140737488351232) (hll : l.length ≤ 140737488351232) (hcr : ∀ i, i < ch.length → (ch.getD i []).length ≤ 140737488351232) :
    ASpec Try.prog 17 [.int .i64 k, .int .i64 n, lv, v] H (decRes H k n l ch) := by
  have hlen := hl.lenA (P := Try.prog) Try.underlying32
  have hlenc := hc.row.lenA (P := Try.prog) Try.underlying24
  have sp := even_spec H v vs ch hc hcl
  refine aspec_in (rs := [.tmp 8, .tmp 9]) (n := 114) Try.func17 rfl rfl rfl rfl (Nat.le_of_ble_eq_true rfl) ?_
  (refine wp_mid (σ := Unit) 5 (by kernel_rfl) (fun u => [(0, .int .i64 k), (1, .int .i64 n), (2, lv), (3, v)]) (fun u H' => Grew H H' ∧ codeMay k n ∧ l.length = ch.length ∧ evenP ch ∧ atOk n l ∧ ¬ (l.length : Int) < k) ?_ ?_; rotate_left; simp only [restC]; rotate_left; simp only [headN])
  rotate_left
  · rintro _ H1 ⟨g, a1, a2, a3, a4, a5⟩
    have hok : decOk k n l ch := ⟨a1, a2, a3, a4⟩
    have a1' := a1
    unfold codeMay at a1'
    obtain ⟨kk, rfl⟩ : ∃ m : Nat, k = m := ⟨k.toNat, by omega⟩
    obtain ⟨nn, rfl⟩ : ∃ m : Nat, n = m := ⟨n.toNat, by omega⟩
    have hkl : kk ≤ l.length := by omega
    have hfin : decRes H kk nn l ch = fun r H' => ∃ X B ws, IsInv kk (pickG kk (l.take kk)) X ∧ r = .tup [.slice ⟨false, B, 0⟩ kk (.known kk), .int .i64 0] ∧ NewRows H H' B ws (mulRows X (ch.take kk)) := by
      funext r H'
      rw [decRes, if_pos hok, if_neg a5]
      rfl
    rw [hfin]
    clear hfin
    have hat := take_ok a4 kk
    have htl : (l.take kk).length = kk := by rw [List.length_take]; omega
    have hreg := pickG_regular (k := kk) (n := nn) (by omega) (by omega) htl hat
    have hsqr := pickG_sq (k := kk) (by omega) (by omega) htl
    have hpl := pickG_len kk (l.take kk)
    rw [htl] at hpl
    have hc1 := hc.grew g
    have hl1 : IsInts H1 lv l := hl.grew g
    have hcut := hl1.cut (lo := 0) (hi := kk) (by omega) hkl
    rw [List.drop_zero, Nat.sub_zero] at hcut
    have hsl := hl1.slice (P := Try.prog) (t := 32) Try.underlying32 sz3 (lo := 0) (hi := kk) (by omega) hkl (olo := none) (ohi := some (.int .i64 kk)) (.inr ⟨rfl, rfl⟩) (.inl rfl)
    have hcl2 := hcut.lenA (P := Try.prog) Try.underlying32
    rw [htl] at hcl2
    generalize Go.Abs.cutV lv 0 kk = lc at hcut hsl hcl2
    generalize hm : l.take kk = m at hcut htl hat hreg hsqr hpl
    (refine wp_mid (σ := Nat × AVL × Rows8) 4 (by kernel_rfl) (fun (B1, w1, X) => [(0, .int .i64 (kk : Nat)), (3, v), (16, .slice ⟨false, B1, 0⟩ kk (.known kk))]) (fun (B1, w1, X) H' => NewRows H1 H' B1 w1 X ∧ IsInv kk (pickG kk m) X) ?_ ?_; rotate_left; simp only [restC]; rotate_left; simp only [headN])
    · (try simp (maxSteps := 4000000) (disch := first | omega | (simp only [push_n, set_n, clr_n, also_n, List.length_replicate, List.length_set, List.length_map, List.length_append, List.length_take, List.length_drop, List.length_cons, List.length_nil]; first | done | omega) | (with_reducible decide)) only [go_sem, Int.reduceEq, Int.reduceNe, Int.reduceLT, Int.reduceLE, Nat.reduceEqDiff, Int.reduceToNat, Nat.reduceSub, Nat.reduceAdd, Nat.reduceMul, Nat.reduceLT, Nat.reduceLeDiff, Int.reduceNeg, Int.reduceAdd, Int.reduceSub, Int.reduceMul, UInt8.reduceToNat, hsl, hcl2]; repeat first | ((first | with_reducible refine split2_pk (by omega) ?_ | with_reducible refine split2_nk (by omega) ?_); intro hsq; try simp (maxSteps := 4000000) (disch := first | omega | (simp only [push_n, set_n, clr_n, also_n, List.length_replicate, List.length_set, List.length_map, List.length_append, List.length_take, List.length_drop, List.length_cons, List.length_nil]; first | done | omega) | (with_reducible decide)) only [go_sem, Int.reduceEq, Int.reduceNe, Int.reduceLT, Int.reduceLE, Nat.reduceEqDiff, Int.reduceToNat, Nat.reduceSub, Nat.reduceAdd, Nat.reduceMul, Nat.reduceLT, Nat.reduceLeDiff, Int.reduceNeg, Int.reduceAdd, Int.reduceSub, Int.reduceMul, UInt8.reduceToNat, hsl, hcl2, hsq]))
      refine wp_loopS (σ := Nat × AV × AVL) (by kernel_rfl) (fun (i, mv, ws) => [(0, .int .i64 (kk : Nat)), (3, v), (13, mv), (63, lc), (64, .int .i64 (kk : Nat)), (65, .int .i64 (i : Nat))]) (fun (i, mv, ws) H' => i ≤ kk ∧ AccOwn H1 H' mv ws ((pickG kk m).take i)) (fun (i, mv, ws) => kk - i) (0, .nilslice, []) (by simp (maxSteps := 4000000) (disch := first | omega | (simp only [push_n, set_n, clr_n, also_n, List.length_replicate, List.length_set, List.length_map, List.length_append, List.length_take, List.length_drop, List.length_cons, List.length_nil]; first | done | omega) | (with_reducible decide)) only [go_sem, Int.reduceEq, Int.reduceNe, Int.reduceLT, Int.reduceLE, Nat.reduceEqDiff, Int.reduceToNat, Nat.reduceSub, Nat.reduceAdd, Nat.reduceMul, Nat.reduceLT, Nat.reduceLeDiff, Int.reduceNeg, Int.reduceAdd, Int.reduceSub, Int.reduceMul, UInt8.reduceToNat]) ?_ ?_
      · exact ⟨by omega, AccOwn.nil (Grew.refl _)⟩
      rintro ⟨i, mv, ws⟩ H2 ⟨hi, hacc⟩
      have htl2 : ((pickG kk m).take i).length = i := by rw [List.length_take]; omega
      by_cases hik : i < kk
      · have hl2 : IsInts H2 lc m := hcut.grew hacc.acc.acc.g
        have hix := hl2.ix (P := Try.prog) Try.underlying32 sz3 (k := .i64) (i := (i : Int)) (by omega) (by omega)
        have hld := hl2.ldI (i := i) (by omega)
        have hin := hat.2 i (by omega)
        obtain ⟨p, hp⟩ : ∃ p : Nat, m.getD i 0 = p := ⟨(m.getD i 0).toNat, by omega⟩
        rw [hp] at hld hin
        (try simp (maxSteps := 4000000) (disch := first | omega | (simp only [push_n, set_n, clr_n, also_n, List.length_replicate, List.length_set, List.length_map, List.length_append, List.length_take, List.length_drop, List.length_cons, List.length_nil]; first | done | omega) | (with_reducible decide)) only [go_sem, Int.reduceEq, Int.reduceNe, Int.reduceLT, Int.reduceLE, Nat.reduceEqDiff, Int.reduceToNat, Nat.reduceSub, Nat.reduceAdd, Nat.reduceMul, Nat.reduceLT, Nat.reduceLeDiff, Int.reduceNeg, Int.reduceAdd, Int.reduceSub, Int.reduceMul, UInt8.reduceToNat, hix, hld]; repeat first | ((first | with_reducible refine split2_pk (by omega) ?_ | with_reducible refine split2_nk (by omega) ?_); intro hsq; try simp (maxSteps := 4000000) (disch := first | omega | (simp only [push_n, set_n, clr_n, also_n, List.length_replicate, List.length_set, List.length_map, List.length_append, List.length_take, List.length_drop, List.length_cons, List.length_nil]; first | done | omega) | (with_reducible decide)) only [go_sem, Int.reduceEq, Int.reduceNe, Int.reduceLT, Int.reduceLE, Nat.reduceEqDiff, Int.reduceToNat, Nat.reduceSub, Nat.reduceAdd, Nat.reduceMul, Nat.reduceLT, Nat.reduceLeDiff, Int.reduceNeg, Int.reduceAdd, Int.reduceSub, Int.reduceMul, UInt8.reduceToNat, hix, hld, hsq]))
        refine (row_spec H2 kk p (by omega) (by omega)).mono ?_
        rintro r H3 ⟨B, rfl, hB, hx, g2⟩
        have hgr := genRow_len kk p
        have hx' : IsBytes H3 (.slice ⟨false, B, 0⟩ (genRow kk p).length (.known kk)) (genRow kk p) := by rwa [hgr]
        obtain ⟨H4, e1, e2⟩ := accOwn_add hacc g2 hB hx' (by omega)
        rw [htl2, hgr] at e1 e2
        (try simp (maxSteps := 4000000) (disch := first | omega | (simp only [push_n, set_n, clr_n, also_n, List.length_replicate, List.length_set, List.length_map, List.length_append, List.length_take, List.length_drop, List.length_cons, List.length_nil]; first | done | omega) | (with_reducible decide)) only [go_sem, Int.reduceEq, Int.reduceNe, Int.reduceLT, Int.reduceLE, Nat.reduceEqDiff, Int.reduceToNat, Nat.reduceSub, Nat.reduceAdd, Nat.reduceMul, Nat.reduceLT, Nat.reduceLeDiff, Int.reduceNeg, Int.reduceAdd, Int.reduceSub, Int.reduceMul, UInt8.reduceToNat, e1]; repeat first | ((first | with_reducible refine split2_pk (by omega) ?_ | with_reducible refine split2_nk (by omega) ?_); intro hsq; try simp (maxSteps := 4000000) (disch := first | omega | (simp only [push_n, set_n, clr_n, also_n, List.length_replicate, List.length_set, List.length_map, List.length_append, List.length_take, List.length_drop, List.length_cons, List.length_nil]; first | done | omega) | (with_reducible decide)) only [go_sem, Int.reduceEq, Int.reduceNe, Int.reduceLT, Int.reduceLE, Nat.reduceEqDiff, Int.reduceToNat, Nat.reduceSub, Nat.reduceAdd, Nat.reduceMul, Nat.reduceLT, Nat.reduceLeDiff, Int.reduceNeg, Int.reduceAdd, Int.reduceSub, Int.reduceMul, UInt8.reduceToNat, e1, hsq]))
        (refine ⟨(i + 1, .slice ⟨false, H3.n + 1, 0⟩ (i + 1) (.grow 1), ws ++ [.slice ⟨false, B, 0⟩ kk (.known kk)]), ?_⟩; and_intros; all_goals (try first | rfl | assumption | omega))
        rw [take_s (by omega), pickG_get (by omega), hp, Int.toNat_natCast]
        exact e2
      · obtain rfl : i = kk := by omega
        rw [List.take_of_length_le (by omega)] at hacc
        obtain ⟨B, rfl, hB, ho, hnew⟩ := hacc.own_rows (by omega)
        rw [hpl]
        have hrows := ho.isRows (c := .grow 1) rfl
        rw [hpl] at hrows
        (try simp (maxSteps := 4000000) (disch := first | omega | (simp only [push_n, set_n, clr_n, also_n, List.length_replicate, List.length_set, List.length_map, List.length_append, List.length_take, List.length_drop, List.length_cons, List.length_nil]; first | done | omega) | (with_reducible decide)) only [go_sem, Int.reduceEq, Int.reduceNe, Int.reduceLT, Int.reduceLE, Nat.reduceEqDiff, Int.reduceToNat, Nat.reduceSub, Nat.reduceAdd, Nat.reduceMul, Nat.reduceLT, Nat.reduceLeDiff, Int.reduceNeg, Int.reduceAdd, Int.reduceSub, Int.reduceMul, UInt8.reduceToNat]; repeat first | ((first | with_reducible refine split2_pk (by omega) ?_ | with_reducible refine split2_nk (by omega) ?_); intro hsq; try simp (maxSteps := 4000000) (disch := first | omega | (simp only [push_n, set_n, clr_n, also_n, List.length_replicate, List.length_set, List.length_map, List.length_append, List.length_take, List.length_drop, List.length_cons, List.length_nil]; first | done | omega) | (with_reducible decide)) only [go_sem, Int.reduceEq, Int.reduceNe, Int.reduceLT, Int.reduceLE, Nat.reduceEqDiff, Int.reduceToNat, Nat.reduceSub, Nat.reduceAdd, Nat.reduceMul, Nat.reduceLT, Nat.reduceLeDiff, Int.reduceNeg, Int.reduceAdd, Int.reduceSub, Int.reduceMul, UInt8.reduceToNat, hsq]))
        refine (invert_spec H2 _ ws (pickG i m) hrows (by omega)).mono ?_
        intro r H3 hr
        rw [invRes', if_pos hsqr, hpl] at hr
        rcases hr with ⟨B1, w1, X, rfl, n1, hX⟩ | ⟨_, hs, _⟩
        · (try simp (maxSteps := 4000000) (disch := first | omega | (simp only [push_n, set_n, clr_n, also_n, List.length_replicate, List.length_set, List.length_map, List.length_append, List.length_take, List.length_drop, List.length_cons, List.length_nil]; first | done | omega) | (with_reducible decide)) only [go_sem, Int.reduceEq, Int.reduceNe, Int.reduceLT, Int.reduceLE, Nat.reduceEqDiff, Int.reduceToNat, Nat.reduceSub, Nat.reduceAdd, Nat.reduceMul, Nat.reduceLT, Nat.reduceLeDiff, Int.reduceNeg, Int.reduceAdd, Int.reduceSub, Int.reduceMul, UInt8.reduceToNat]; repeat first | ((first | with_reducible refine split2_pk (by omega) ?_ | with_reducible refine split2_nk (by omega) ?_); intro hsq; try simp (maxSteps := 4000000) (disch := first | omega | (simp only [push_n, set_n, clr_n, also_n, List.length_replicate, List.length_set, List.length_map, List.length_append, List.length_take, List.length_drop, List.length_cons, List.length_nil]; first | done | omega) | (with_reducible decide)) only [go_sem, Int.reduceEq, Int.reduceNe, Int.reduceLT, Int.reduceLE, Nat.reduceEqDiff, Int.reduceToNat, Nat.reduceSub, Nat.reduceAdd, Nat.reduceMul, Nat.reduceLT, Nat.reduceLeDiff, Int.reduceNeg, Int.reduceAdd, Int.reduceSub, Int.reduceMul, UInt8.reduceToNat, hsq]))
          exact ⟨(B1, w1, X), rfl, n1.from hacc.acc.acc.g, hX⟩
        · exact (hreg hs).elim
    rintro ⟨B1, w1, X⟩ H2 ⟨nX, hX⟩
    have nX : NewRows H1 H2 B1 w1 X := nX
    have hX : IsInv kk (pickG kk m) X := hX
    have hXl := hX.sb.1
    have hXr := hX.sb.2
    have hrX := nX.own.isRows (c := .known kk) (by rw [hXl]; simp [okSl])
    rw [hXl] at hrX
    have hcutc := (hc1.grew nX.g).cut (lo := 0) (hi := kk) (by omega) (by omega)
    have hslc := hc1.row.slice (P := Try.prog) (t := 24) Try.underlying24 sz40 (lo := 0) (hi := kk) (by omega) (by omega) (olo := none) (ohi := some (.int .i64 kk)) (.inr ⟨rfl, rfl⟩) (.inl rfl)
    rw [List.drop_zero, List.drop_zero, Nat.sub_zero] at hcutc
    generalize Go.Abs.cutV v 0 kk = vc at hcutc hslc
    have hct : (ch.take kk).length = kk := by rw [List.length_take]; omega
    have hcg : ∀ i, i < kk → (ch.take kk).getD i [] = ch.getD i [] := fun i hi => by simp [List.getD, List.getElem?_take, hi]
    have hW : ∀ i, i < (ch.take kk).length → ((ch.take kk).getD i []).length = (ch.getD 0 []).length := fun i hi => by rw [hct] at hi; rw [hcg i hi]; exact a3 i (by omega)
    have hWl : (ch.getD 0 []).length ≤ 140737488351232 := hcr 0 (by omega)
    have hc2 := hc1.grew nX.g
    generalize hWe : (ch.getD 0 []).length = W at hW hWl
    refine wp_sound _ (by kernel_rfl) ?_
    (try simp (maxSteps := 4000000) (disch := first | omega | (simp only [push_n, set_n, clr_n, also_n, List.length_replicate, List.length_set, List.length_map, List.length_append, List.length_take, List.length_drop, List.length_cons, List.length_nil]; first | done | omega) | (with_reducible decide)) only [go_sem, Int.reduceEq, Int.reduceNe, Int.reduceLT, Int.reduceLE, Nat.reduceEqDiff, Int.reduceToNat, Nat.reduceSub, Nat.reduceAdd, Nat.reduceMul, Nat.reduceLT, Nat.reduceLeDiff, Int.reduceNeg, Int.reduceAdd, Int.reduceSub, Int.reduceMul, UInt8.reduceToNat]; repeat first | ((first | with_reducible refine split2_pk (by omega) ?_ | with_reducible refine split2_nk (by omega) ?_); intro hsq; try simp (maxSteps := 4000000) (disch := first | omega | (simp only [push_n, set_n, clr_n, also_n, List.length_replicate, List.length_set, List.length_map, List.length_append, List.length_take, List.length_drop, List.length_cons, List.length_nil]; first | done | omega) | (with_reducible decide)) only [go_sem, Int.reduceEq, Int.reduceNe, Int.reduceLT, Int.reduceLE, Nat.reduceEqDiff, Int.reduceToNat, Nat.reduceSub, Nat.reduceAdd, Nat.reduceMul, Nat.reduceLT, Nat.reduceLeDiff, Int.reduceNeg, Int.reduceAdd, Int.reduceSub, Int.reduceMul, UInt8.reduceToNat, hsq]))
    have gz : Grew H2 (H2.push (some (.cells (List.replicate kk .nilslice)))) := Grew.push _ _
    have hz : (H2.push (some (.cells (List.replicate kk .nilslice)))).cells? H2.n = some (List.replicate kk .nilslice) := push_cells _ _
    generalize (H2.push (some (.cells (List.replicate kk .nilslice)))) = H3 at gz hz ⊢
    have hml := mulRows_len X (ch.take kk)
    have hW0 : ((ch.take kk).getD 0 []).length = W := hW 0 (by omega)
    refine wp_loopS (σ := Nat × AVL) (by kernel_rfl) (fun (j, ws) => [(0, .int .i64 (kk : Nat)), (3, v), (16, .slice ⟨false, B1, 0⟩ kk (.known kk)), (18, .slice ⟨false, H2.n, 0⟩ kk (.known kk)), (87, .int .i64 (kk : Nat)), (88, .int .i64 (j : Nat))]) (fun (j, ws) H' => j ≤ kk ∧ H'.cells? H2.n = some (ws ++ List.replicate (kk - j) .nilslice) ∧ RowsOf H' H2.n ws ((mulRows X (ch.take kk)).take j) ∧ Grew H2 H' ∧ ∀ b ∈ blks H2.n ws, H2.n ≤ b) (fun (j, ws) => kk - j) (0, []) (by simp (maxSteps := 4000000) (disch := first | omega | (simp only [push_n, set_n, clr_n, also_n, List.length_replicate, List.length_set, List.length_map, List.length_append, List.length_take, List.length_drop, List.length_cons, List.length_nil]; first | done | omega) | (with_reducible decide)) only [go_sem, Int.reduceEq, Int.reduceNe, Int.reduceLT, Int.reduceLE, Nat.reduceEqDiff, Int.reduceToNat, Nat.reduceSub, Nat.reduceAdd, Nat.reduceMul, Nat.reduceLT, Nat.reduceLeDiff, Int.reduceNeg, Int.reduceAdd, Int.reduceSub, Int.reduceMul, UInt8.reduceToNat]) ?_ ?_
    · refine ⟨by omega, by simpa using hz, RowsOf.nil _ _, gz, fun b hb => by simp [blks] at hb; omega⟩
    rintro ⟨j, ws⟩ H4 ⟨hj, htop, hin, g4, hnew⟩
    have htl3 : ((mulRows X (ch.take kk)).take j).length = j := by rw [List.length_take]; omega
    have hwl : ws.length = j := by have := hin.len; omega
    by_cases hjk : j < kk
    · have hB4 : H2.n < H4.n := cells_lt htop
      have hc4 := hc2.grew g4
      have hix0 := hc4.ix (P := Try.prog) Try.underlying24 sz40 (k := .i64) (i := 0) (by omega) (by omega)
      have hld0 := hc4.ld (i := 0) (by omega)
      have hl0 := (hc4.each 0 (by omega)).length (P := Try.prog) Try.underlying40
      rw [hWe] at hl0
      have hcl0 : j < (ws ++ List.replicate (kk - j) AV.nilslice).length := by simp; omega
      have hset : (ws ++ List.replicate (kk - j) AV.nilslice).set j (.slice ⟨false, H4.n, 0⟩ W (.known W)) = (ws ++ [.slice ⟨false, H4.n, 0⟩ W (.known W)]) ++ List.replicate (kk - (j + 1)) .nilslice := by
        obtain ⟨q, hq⟩ : ∃ q, kk - j = q + 1 := ⟨kk - j - 1, by omega⟩
        rw [hq, show kk - (j + 1) = q by omega, List.set_append_right _ _ (by omega), hwl, Nat.sub_self, List.replicate_succ, List.set_cons_zero, List.append_assoc]
        rfl
      (try simp (maxSteps := 4000000) (disch := first | omega | (simp only [push_n, set_n, clr_n, also_n, List.length_replicate, List.length_set, List.length_map, List.length_append, List.length_take, List.length_drop, List.length_cons, List.length_nil]; first | done | omega) | (with_reducible decide)) only [go_sem, Int.reduceEq, Int.reduceNe, Int.reduceLT, Int.reduceLE, Nat.reduceEqDiff, Int.reduceToNat, Nat.reduceSub, Nat.reduceAdd, Nat.reduceMul, Nat.reduceLT, Nat.reduceLeDiff, Int.reduceNeg, Int.reduceAdd, Int.reduceSub, Int.reduceMul, UInt8.reduceToNat, hix0, hld0, hl0, htop]; repeat first | ((first | with_reducible refine split2_pk (by omega) ?_ | with_reducible refine split2_nk (by omega) ?_); intro hsq; try simp (maxSteps := 4000000) (disch := first | omega | (simp only [push_n, set_n, clr_n, also_n, List.length_replicate, List.length_set, List.length_map, List.length_append, List.length_take, List.length_drop, List.length_cons, List.length_nil]; first | done | omega) | (with_reducible decide)) only [go_sem, Int.reduceEq, Int.reduceNe, Int.reduceLT, Int.reduceLE, Nat.reduceEqDiff, Int.reduceToNat, Nat.reduceSub, Nat.reduceAdd, Nat.reduceMul, Nat.reduceLT, Nat.reduceLeDiff, Int.reduceNeg, Int.reduceAdd, Int.reduceSub, Int.reduceMul, UInt8.reduceToNat, hix0, hld0, hl0, htop, hsq]))
      have hk5 : Chg [H2.n] H4 ((H4.set H2.n (some (.cells ((ws ++ List.replicate (kk - j) AV.nilslice).set j (.slice ⟨false, H4.n, 0⟩ W (.known W)))))).push (some (.cells (List.replicate W (.int .u8 0))))) := (Chg.set H4 H2.n _ (by simp)).trans ((Grew.push _ _).chg _)
      have ht5 : ((H4.set H2.n (some (.cells ((ws ++ List.replicate (kk - j) AV.nilslice).set j (.slice ⟨false, H4.n, 0⟩ W (.known W)))))).push (some (.cells (List.replicate W (.int .u8 0))))).cells? H2.n = some ((ws ++ [.slice ⟨false, H4.n, 0⟩ W (.known W)]) ++ List.replicate (kk - (j + 1)) .nilslice) := by rw [push_cells_ne (by rw [set_n]; exact hB4), set_cells _ _ hB4, hset]
      have hb5 : ((H4.set H2.n (some (.cells ((ws ++ List.replicate (kk - j) AV.nilslice).set j (.slice ⟨false, H4.n, 0⟩ W (.known W)))))).push (some (.cells (List.replicate W (.int .u8 0))))).cells? H4.n = some (List.replicate W (.int .u8 0)) := push_cells_at (by rw [set_n])
      generalize ((H4.set H2.n (some (.cells ((ws ++ List.replicate (kk - j) AV.nilslice).set j (.slice ⟨false, H4.n, 0⟩ W (.known W)))))).push (some (.cells (List.replicate W (.int .u8 0))))) = H5 at hk5 ht5 hb5 ⊢
      have g5 : Grew H2 H5 := ((g4.chg [H2.n]).trans hk5).grew (by simp)
      have hin5 : RowsOf H5 H2.n ws ((mulRows X (ch.take kk)).take j) := hin.chg hk5 fun i hi hm => hin.ne i hi (List.mem_singleton.1 hm)
      have hB5 : H2.n < H5.n := cells_lt ht5
      have hX5 := hrX.grew g5
      have hixX := hX5.ix (P := Try.prog) Try.underlying24 sz40 (k := .i64) (i := (j : Int)) (by omega) (by omega)
      have hldX := hX5.ld (i := j) (by omega)
      have topX := (nX.own.grew g5).top
      have w1l := nX.own.len
      have w1j : w1[j]? = some (w1.getD j .unk) := by simp [List.getD, show j < w1.length by omega]
      have glv := gq_live (H := H5) (i := H2.n) (by rw [ht5]; rfl)
      have someX : (H5.cells? H2.n).isSome = true := by rw [ht5]; rfl
      have hXj := hX5.each j (by omega)
      have hXjl := hXr j hjk
      have hci : ((ws ++ [AV.slice ⟨false, H4.n, 0⟩ W (.known W)]) ++ List.replicate (kk - (j + 1)) .nilslice)[j]? = some (.slice ⟨false, H4.n, 0⟩ W (.known W)) := by
        rw [List.getElem?_append_left (by simp; omega), List.getElem?_append_right (by omega), hwl, Nat.sub_self]; rfl
      have hlt4 : ∀ i, i < ((mulRows X (ch.take kk)).take j).length → bn (ws.getD i .unk) < H4.n := fun i hi => hin.lt hi
      (try simp (maxSteps := 4000000) (disch := first | omega | (simp only [push_n, set_n, clr_n, also_n, List.length_replicate, List.length_set, List.length_map, List.length_append, List.length_take, List.length_drop, List.length_cons, List.length_nil]; first | done | omega) | (with_reducible decide)) only [go_sem, Int.reduceEq, Int.reduceNe, Int.reduceLT, Int.reduceLE, Nat.reduceEqDiff, Int.reduceToNat, Nat.reduceSub, Nat.reduceAdd, Nat.reduceMul, Nat.reduceLT, Nat.reduceLeDiff, Int.reduceNeg, Int.reduceAdd, Int.reduceSub, Int.reduceMul, UInt8.reduceToNat]; repeat first | ((first | with_reducible refine split2_pk (by omega) ?_ | with_reducible refine split2_nk (by omega) ?_); intro hsq; try simp (maxSteps := 4000000) (disch := first | omega | (simp only [push_n, set_n, clr_n, also_n, List.length_replicate, List.length_set, List.length_map, List.length_append, List.length_take, List.length_drop, List.length_cons, List.length_nil]; first | done | omega) | (with_reducible decide)) only [go_sem, Int.reduceEq, Int.reduceNe, Int.reduceLT, Int.reduceLE, Nat.reduceEqDiff, Int.reduceToNat, Nat.reduceSub, Nat.reduceAdd, Nat.reduceMul, Nat.reduceLT, Nat.reduceLeDiff, Int.reduceNeg, Int.reduceAdd, Int.reduceSub, Int.reduceMul, UInt8.reduceToNat, hsq]))
      (refine awp_drawH [102] [eqM H5.clr,  fun K => Grew H5.clr K,  fun _ => True] [(0, some 1), (1, some 1), (2, some 1), (3, some 1), (4, some 0), (5, some 0), (6, some 0), (7, some 0), (8, some 0), (9, some 0), (10, some 0), (11, none), (12, none)] [11, 12] (by kernel_rfl) (by rfl) (by decide +kernel) (rofP_0 ?_) ?_; rotate_left; (conv => arg 5; simp only [List.map_cons, List.map_nil, List.getElem?_toArray, List.getElem?_cons_zero, List.getElem?_cons_succ]); rotate_left)
      · rfl
      (try simp (maxSteps := 4000000) (disch := first | omega | (simp only [push_n, set_n, clr_n, also_n, List.length_replicate, List.length_set, List.length_map, List.length_append, List.length_take, List.length_drop, List.length_cons, List.length_nil]; first | done | omega) | (with_reducible decide)) only [go_sem, Int.reduceEq, Int.reduceNe, Int.reduceLT, Int.reduceLE, Nat.reduceEqDiff, Int.reduceToNat, Nat.reduceSub, Nat.reduceAdd, Nat.reduceMul, Nat.reduceLT, Nat.reduceLeDiff, Int.reduceNeg, Int.reduceAdd, Int.reduceSub, Int.reduceMul, UInt8.reduceToNat, ht5, hci, topX, w1j, hslc, rigP_g, rigP_g1, glv, someX, Bool.false_or]; repeat first | ((first | with_reducible refine split2_pk (by omega) ?_ | with_reducible refine split2_nk (by omega) ?_); intro hsq; try simp (maxSteps := 4000000) (disch := first | omega | (simp only [push_n, set_n, clr_n, also_n, List.length_replicate, List.length_set, List.length_map, List.length_append, List.length_take, List.length_drop, List.length_cons, List.length_nil]; first | done | omega) | (with_reducible decide)) only [go_sem, Int.reduceEq, Int.reduceNe, Int.reduceLT, Int.reduceLE, Nat.reduceEqDiff, Int.reduceToNat, Nat.reduceSub, Nat.reduceAdd, Nat.reduceMul, Nat.reduceLT, Nat.reduceLeDiff, Int.reduceNeg, Int.reduceAdd, Int.reduceSub, Int.reduceMul, UInt8.reduceToNat, ht5, hci, topX, w1j, hslc, rigP_g, rigP_g1, glv, someX, Bool.false_or, hsq]))
      refine (mix_spec H5.clr _ (X.getD j []) vc _ (ch.take kk) W hXj.clr (hcutc.grew g5).clr (by omega) (by omega) (by omega) hW hWl).mono ?_
      rintro r H6 ⟨B2, rfl, hB2, hx2, g6⟩
      have hmx : (mixB (X.getD j []) (ch.take kk)).length = W := by rw [mixB_len, hW0]
      have hnews := hx2.news
      rw [hmx] at hnews
      have hb6 : H6.cells? H4.n = some (List.replicate W (.int .u8 0)) := g6.cells_some (by rw [clr_cells]; exact hb5)
      have hsome : (H6.cells? H4.n).isSome = true := by rw [hb6]; rfl
      obtain ⟨H7, s1, s2, s3⟩ := copy_over (xs := mixB (X.getD j []) (ch.take kk)) hb6 (by simp) hmx
      rw [Nat.min_self, List.take_of_length_le (by rw [List.length_map]; omega)] at s1
      (try simp (maxSteps := 4000000) (disch := first | omega | (simp only [push_n, set_n, clr_n, also_n, List.length_replicate, List.length_set, List.length_map, List.length_append, List.length_take, List.length_drop, List.length_cons, List.length_nil]; first | done | omega) | (with_reducible decide)) only [go_sem, Int.reduceEq, Int.reduceNe, Int.reduceLT, Int.reduceLE, Nat.reduceEqDiff, Int.reduceToNat, Nat.reduceSub, Nat.reduceAdd, Nat.reduceMul, Nat.reduceLT, Nat.reduceLeDiff, Int.reduceNeg, Int.reduceAdd, Int.reduceSub, Int.reduceMul, UInt8.reduceToNat, hnews, hsome, s1, g6]; repeat first | ((first | with_reducible refine split2_pk (by omega) ?_ | with_reducible refine split2_nk (by omega) ?_); intro hsq; try simp (maxSteps := 4000000) (disch := first | omega | (simp only [push_n, set_n, clr_n, also_n, List.length_replicate, List.length_set, List.length_map, List.length_append, List.length_take, List.length_drop, List.length_cons, List.length_nil]; first | done | omega) | (with_reducible decide)) only [go_sem, Int.reduceEq, Int.reduceNe, Int.reduceLT, Int.reduceLE, Nat.reduceEqDiff, Int.reduceToNat, Nat.reduceSub, Nat.reduceAdd, Nat.reduceMul, Nat.reduceLT, Nat.reduceLeDiff, Int.reduceNeg, Int.reduceAdd, Int.reduceSub, Int.reduceMul, UInt8.reduceToNat, hnews, hsome, s1, g6, hsq]))
      have k7 : Chg [H4.n] H5.clr H7 := (g6.chg _).trans s2
      have t7 : (H7.also H5.wr).cells? H2.n = some ((ws ++ [.slice ⟨false, H4.n, 0⟩ W (.known W)]) ++ List.replicate (kk - (j + 1)) .nilslice) := by
        rw [also_cells]
        exact k7.cells (fun hm => by have := List.mem_singleton.1 hm; omega) (by rw [clr_cells]; exact ht5)
      have b7 : (H7.also H5.wr).cells? H4.n = some ((mixB (X.getD j []) (ch.take kk)).map bv) := by rw [also_cells]; exact s3
      have in7 : RowsOf H7 H2.n ws ((mulRows X (ch.take kk)).take j) := by
        have h6 : RowsOf H5.clr H2.n ws ((mulRows X (ch.take kk)).take j) := ⟨hin5.len, hin5.own, fun i hi => (hin5.each i hi).clr, hin5.ne, hin5.apart⟩
        exact h6.chg k7 fun i hi hm => by have := List.mem_singleton.1 hm; have := hlt4 i hi; omega
      have g7 : Grew H2 (H7.also H5.wr) := by
        have e1 : Chg [H4.n] H5 (H7.also H5.wr) := ⟨k7.ro, k7.n, k7.old, fun i hi => by
          rcases hi with hi | hi
          · rcases k7.wr i hi with h | h | h
            · exact h.elim
            · exact .inr (.inl h)
            · exact .inr (.inr h)
          · exact .inl hi⟩
        exact ((g5.chg [H4.n]).trans e1).grew (fun i hi => by have := List.mem_singleton.1 hi; omega)
      have hw7 : IsBytes (H7.also H5.wr) (.slice ⟨false, H4.n, 0⟩ W (.known W)) (mixB (X.getD j []) (ch.take kk)) := by
        have := bytes_whole b7 (c := .known W) (by simp only [isSl, decide_eq_true_eq]; omega)
        rwa [hmx] at this
      have hmr : (mulRows X (ch.take kk)).getD j [] = mixB (X.getD j []) (ch.take kk) := (mulRows_get (by omega)).trans rfl
      have hnb : H4.n ∉ blks H2.n ws := fun hm => by
        rcases mem_bn hm with h | ⟨i, hi, h⟩
        · omega
        · have := hlt4 i (by omega)
          omega
      (refine ⟨(j + 1, ws ++ [.slice ⟨false, H4.n, 0⟩ W (.known W)]), ?_⟩; and_intros; all_goals (try first | rfl | assumption | omega))
      · rw [take_s (by omega), hmr]
        exact in7.also.snoc ⟨H4.n, .known W, by rw [hmx]⟩ hw7 hnb
      · intro b hb
        simp only [blks, List.mem_cons, List.mem_map, List.mem_append] at hb hnew
        rcases hb with rfl | ⟨v, hv | hv, rfl⟩
        · exact Nat.le_refl _
        · exact hnew _ (.inr ⟨v, hv, rfl⟩)
        · rcases hv with rfl | hv
          · exact Nat.le_of_lt hB4
          · cases hv
    · obtain rfl : j = kk := by omega
      rw [List.take_of_length_le (by omega)] at hin
      rw [Nat.sub_self, List.replicate_zero, List.append_nil] at htop
      have hown := hin.all htop
      (try simp (maxSteps := 4000000) (disch := first | omega | (simp only [push_n, set_n, clr_n, also_n, List.length_replicate, List.length_set, List.length_map, List.length_append, List.length_take, List.length_drop, List.length_cons, List.length_nil]; first | done | omega) | (with_reducible decide)) only [go_sem, Int.reduceEq, Int.reduceNe, Int.reduceLT, Int.reduceLE, Nat.reduceEqDiff, Int.reduceToNat, Nat.reduceSub, Nat.reduceAdd, Nat.reduceMul, Nat.reduceLT, Nat.reduceLeDiff, Int.reduceNeg, Int.reduceAdd, Int.reduceSub, Int.reduceMul, UInt8.reduceToNat]; repeat first | ((first | with_reducible refine split2_pk (by omega) ?_ | with_reducible refine split2_nk (by omega) ?_); intro hsq; try simp (maxSteps := 4000000) (disch := first | omega | (simp only [push_n, set_n, clr_n, also_n, List.length_replicate, List.length_set, List.length_map, List.length_append, List.length_take, List.length_drop, List.length_cons, List.length_nil]; first | done | omega) | (with_reducible decide)) only [go_sem, Int.reduceEq, Int.reduceNe, Int.reduceLT, Int.reduceLE, Nat.reduceEqDiff, Int.reduceToNat, Nat.reduceSub, Nat.reduceAdd, Nat.reduceMul, Nat.reduceLT, Nat.reduceLeDiff, Int.reduceNeg, Int.reduceAdd, Int.reduceSub, Int.reduceMul, UInt8.reduceToNat, hsq]))
      refine ⟨X, H2.n, ws, hX, rfl, hown, (g.trans nX.g).trans g4, fun b hb => ?_⟩
      have := hnew b hb
      have := g.n
      have := nX.g.n
      omega
  by_cases h1 : codeMay k n
  · by_cases h2 : l.length = ch.length
    · by_cases h3 : evenP ch
      · rw [decide_eq_true h3] at sp
        have h1' := h1
        unfold codeMay at h1'
        (try simp (maxSteps := 4000000) (disch := first | omega | (simp only [push_n, set_n, clr_n, also_n, List.length_replicate, List.length_set, List.length_map, List.length_append, List.length_take, List.length_drop, List.length_cons, List.length_nil]; first | done | omega) | (with_reducible decide)) only [go_sem, Int.reduceEq, Int.reduceNe, Int.reduceLT, Int.reduceLE, Nat.reduceEqDiff, Int.reduceToNat, Nat.reduceSub, Nat.reduceAdd, Nat.reduceMul, Nat.reduceLT, Nat.reduceLeDiff, Int.reduceNeg, Int.reduceAdd, Int.reduceSub, Int.reduceMul, UInt8.reduceToNat, h1, decide_true, hlen, hlenc]; repeat first | ((first | refine ASpec.eq (cmay_spec _ _ _) ?_ | refine ASpec.eq (sp) ?_); try simp (maxSteps := 4000000) (disch := first | omega | (simp only [push_n, set_n, clr_n, also_n, List.length_replicate, List.length_set, List.length_map, List.length_append, List.length_take, List.length_drop, List.length_cons, List.length_nil]; first | done | omega) | (with_reducible decide)) only [go_sem, Int.reduceEq, Int.reduceNe, Int.reduceLT, Int.reduceLE, Nat.reduceEqDiff, Int.reduceToNat, Nat.reduceSub, Nat.reduceAdd, Nat.reduceMul, Nat.reduceLT, Nat.reduceLeDiff, Int.reduceNeg, Int.reduceAdd, Int.reduceSub, Int.reduceMul, UInt8.reduceToNat, h1, decide_true, hlen, hlenc]) | ((first | with_reducible refine split2_pk (by omega) ?_ | with_reducible refine split2_nk (by omega) ?_); intro hsq; try simp (maxSteps := 4000000) (disch := first | omega | (simp only [push_n, set_n, clr_n, also_n, List.length_replicate, List.length_set, List.length_map, List.length_append, List.length_take, List.length_drop, List.length_cons, List.length_nil]; first | done | omega) | (with_reducible decide)) only [go_sem, Int.reduceEq, Int.reduceNe, Int.reduceLT, Int.reduceLE, Nat.reduceEqDiff, Int.reduceToNat, Nat.reduceSub, Nat.reduceAdd, Nat.reduceMul, Nat.reduceLT, Nat.reduceLeDiff, Int.reduceNeg, Int.reduceAdd, Int.reduceSub, Int.reduceMul, UInt8.reduceToNat, h1, decide_true, hlen, hlenc, hsq]))
        have g0 : Grew H (H.push (some (.cells (List.replicate 255 (.bool false))))) := Grew.push _ _
        have hs0 : (H.push (some (.cells (List.replicate 255 (.bool false))))).cells? H.n = some (seenL []) := by rw [push_cells, seen_0]
        generalize (H.push (some (.cells (List.replicate 255 (.bool false))))) = H0 at g0 hs0 ⊢
        refine wp_loopS (σ := Nat) (by kernel_rfl) (fun t => [(0, .int .i64 k), (1, .int .i64 n), (2, lv), (3, v), (10, .ptr ⟨false, H.n, 0⟩), (36, lv), (37, .int .i64 (l.length : Nat)), (38, .int .i64 (t : Nat))]) (fun t H' => t ≤ l.length ∧ (∀ i, i < t → 0 ≤ l.getD i 0 ∧ l.getD i 0 < n) ∧ (l.take t).Nodup ∧ H'.cells? H.n = some (seenL (l.take t)) ∧ Grew H H') (fun t => l.length - t) (0) (by simp (maxSteps := 4000000) (disch := first | omega | (simp only [push_n, set_n, clr_n, also_n, List.length_replicate, List.length_set, List.length_map, List.length_append, List.length_take, List.length_drop, List.length_cons, List.length_nil]; first | done | omega) | (with_reducible decide)) only [go_sem, Int.reduceEq, Int.reduceNe, Int.reduceLT, Int.reduceLE, Nat.reduceEqDiff, Int.reduceToNat, Nat.reduceSub, Nat.reduceAdd, Nat.reduceMul, Nat.reduceLT, Nat.reduceLeDiff, Int.reduceNeg, Int.reduceAdd, Int.reduceSub, Int.reduceMul, UInt8.reduceToNat]) ?_ ?_
        · exact ⟨by omega, fun i hi => by omega, by simp, by simpa using hs0, g0⟩
        rintro t H1 ⟨ht, hall, hnd, hs, g⟩
        have hsl := seen_len (l.take t)
        have hsn := cells_lt hs
        by_cases htl : t < l.length
        · have hl1 : IsInts H1 lv l := hl.grew g
          have hix := hl1.ix (P := Try.prog) Try.underlying32 sz3 (k := .i64) (i := (t : Int)) (by omega) (by omega)
          have hld := hl1.ldI htl
          have htk : l.take (t + 1) = l.take t ++ [l.getD t 0] := by rw [← List.take_append_getElem htl]; simp [List.getD, htl]
          by_cases hin : 0 ≤ l.getD t 0 ∧ l.getD t 0 < n
          · obtain ⟨m, hm⟩ : ∃ m : Nat, l.getD t 0 = m := ⟨(l.getD t 0).toNat, by omega⟩
            rw [hm] at hld htk
            have hm255 : m < 255 := by omega
            have hsg := seen_get (m := l.take t) hm255
            by_cases hse : (m : Int) ∈ l.take t
            · rw [decide_eq_true hse] at hsg
              (try simp (maxSteps := 4000000) (disch := first | omega | (simp only [push_n, set_n, clr_n, also_n, List.length_replicate, List.length_set, List.length_map, List.length_append, List.length_take, List.length_drop, List.length_cons, List.length_nil]; first | done | omega) | (with_reducible decide)) only [go_sem, Int.reduceEq, Int.reduceNe, Int.reduceLT, Int.reduceLE, Nat.reduceEqDiff, Int.reduceToNat, Nat.reduceSub, Nat.reduceAdd, Nat.reduceMul, Nat.reduceLT, Nat.reduceLeDiff, Int.reduceNeg, Int.reduceAdd, Int.reduceSub, Int.reduceMul, UInt8.reduceToNat, hix, hld, hs, hsg]; repeat first | ((first | with_reducible refine split2_pk (by omega) ?_ | with_reducible refine split2_nk (by omega) ?_); intro hsq; try simp (maxSteps := 4000000) (disch := first | omega | (simp only [push_n, set_n, clr_n, also_n, List.length_replicate, List.length_set, List.length_map, List.length_append, List.length_take, List.length_drop, List.length_cons, List.length_nil]; first | done | omega) | (with_reducible decide)) only [go_sem, Int.reduceEq, Int.reduceNe, Int.reduceLT, Int.reduceLE, Nat.reduceEqDiff, Int.reduceToNat, Nat.reduceSub, Nat.reduceAdd, Nat.reduceMul, Nat.reduceLT, Nat.reduceLeDiff, Int.reduceNeg, Int.reduceAdd, Int.reduceSub, Int.reduceMul, UInt8.reduceToNat, hix, hld, hs, hsg, hsq]))
              refine dec_seen (fun h => ?_) ⟨rfl, g⟩
              have h4 := h.2.2.2.1
              have : (l.take (t + 1)).Nodup := h4.sublist (List.take_sublist _ _)
              rw [htk, List.nodup_append] at this
              exact this.2.2 _ hse _ (by simp) rfl
            · rw [decide_eq_false hse] at hsg
              have hss := seen_set (m := l.take t) hm255
              (try simp (maxSteps := 4000000) (disch := first | omega | (simp only [push_n, set_n, clr_n, also_n, List.length_replicate, List.length_set, List.length_map, List.length_append, List.length_take, List.length_drop, List.length_cons, List.length_nil]; first | done | omega) | (with_reducible decide)) only [go_sem, Int.reduceEq, Int.reduceNe, Int.reduceLT, Int.reduceLE, Nat.reduceEqDiff, Int.reduceToNat, Nat.reduceSub, Nat.reduceAdd, Nat.reduceMul, Nat.reduceLT, Nat.reduceLeDiff, Int.reduceNeg, Int.reduceAdd, Int.reduceSub, Int.reduceMul, UInt8.reduceToNat, hix, hld, hs, hsg]; repeat first | ((first | with_reducible refine split2_pk (by omega) ?_ | with_reducible refine split2_nk (by omega) ?_); intro hsq; try simp (maxSteps := 4000000) (disch := first | omega | (simp only [push_n, set_n, clr_n, also_n, List.length_replicate, List.length_set, List.length_map, List.length_append, List.length_take, List.length_drop, List.length_cons, List.length_nil]; first | done | omega) | (with_reducible decide)) only [go_sem, Int.reduceEq, Int.reduceNe, Int.reduceLT, Int.reduceLE, Nat.reduceEqDiff, Int.reduceToNat, Nat.reduceSub, Nat.reduceAdd, Nat.reduceMul, Nat.reduceLT, Nat.reduceLeDiff, Int.reduceNeg, Int.reduceAdd, Int.reduceSub, Int.reduceMul, UInt8.reduceToNat, hix, hld, hs, hsg, hsq]))
              (refine ⟨t + 1, ?_⟩; and_intros; all_goals (try first | rfl | assumption | omega))
              · intro i hi
                by_cases e : i < t
                · exact hall i e
                · obtain rfl : i = t := by omega
                  exact hin
              · rw [htk, List.nodup_append]
                exact ⟨hnd, by simp, fun a ha b hb e => by simp at hb; subst hb; subst e; exact hse ha⟩
              · rw [hss, htk]
              · exact ((g.chg [H.n]).thenSet _ (.inl (List.mem_singleton.2 rfl))).grew (by simp)
          · have hno : ¬ decOk k n l ch := fun h => hin (h.2.2.2.2 t htl)
            (try simp (maxSteps := 4000000) (disch := first | omega | (simp only [push_n, set_n, clr_n, also_n, List.length_replicate, List.length_set, List.length_map, List.length_append, List.length_take, List.length_drop, List.length_cons, List.length_nil]; first | done | omega) | (with_reducible decide)) only [go_sem, Int.reduceEq, Int.reduceNe, Int.reduceLT, Int.reduceLE, Nat.reduceEqDiff, Int.reduceToNat, Nat.reduceSub, Nat.reduceAdd, Nat.reduceMul, Nat.reduceLT, Nat.reduceLeDiff, Int.reduceNeg, Int.reduceAdd, Int.reduceSub, Int.reduceMul, UInt8.reduceToNat, hix, hld]; repeat' first | ((first | with_reducible refine split2_pk (by omega) ?_ | with_reducible refine split2_nk (by omega) ?_); intro hsq; try simp (maxSteps := 4000000) (disch := first | omega | (simp only [push_n, set_n, clr_n, also_n, List.length_replicate, List.length_set, List.length_map, List.length_append, List.length_take, List.length_drop, List.length_cons, List.length_nil]; first | done | omega) | (with_reducible decide)) only [go_sem, Int.reduceEq, Int.reduceNe, Int.reduceLT, Int.reduceLE, Nat.reduceEqDiff, Int.reduceToNat, Nat.reduceSub, Nat.reduceAdd, Nat.reduceMul, Nat.reduceLT, Nat.reduceLeDiff, Int.reduceNeg, Int.reduceAdd, Int.reduceSub, Int.reduceMul, UInt8.reduceToNat, hix, hld, hsq]) | (with_reducible refine split2_ik ?_ ?_ <;> intro hsp hsq <;> try simp (maxSteps := 4000000) (disch := first | omega | (simp only [push_n, set_n, clr_n, also_n, List.length_replicate, List.length_set, List.length_map, List.length_append, List.length_take, List.length_drop, List.length_cons, List.length_nil]; first | done | omega) | (with_reducible decide)) only [go_sem, Int.reduceEq, Int.reduceNe, Int.reduceLT, Int.reduceLE, Nat.reduceEqDiff, Int.reduceToNat, Nat.reduceSub, Nat.reduceAdd, Nat.reduceMul, Nat.reduceLT, Nat.reduceLeDiff, Int.reduceNeg, Int.reduceAdd, Int.reduceSub, Int.reduceMul, UInt8.reduceToNat, hix, hld, hsq]))
            all_goals first
              | omega
              | exact dec_seen hno ⟨rfl, g⟩
        · obtain rfl : t = l.length := by omega
          rw [List.take_length] at hnd
          have hok : decOk k n l ch := ⟨h1, h2, h3, hnd, hall⟩
          by_cases hlk : (l.length : Int) < k
          · (try simp (maxSteps := 4000000) (disch := first | omega | (simp only [push_n, set_n, clr_n, also_n, List.length_replicate, List.length_set, List.length_map, List.length_append, List.length_take, List.length_drop, List.length_cons, List.length_nil]; first | done | omega) | (with_reducible decide)) only [go_sem, Int.reduceEq, Int.reduceNe, Int.reduceLT, Int.reduceLE, Nat.reduceEqDiff, Int.reduceToNat, Nat.reduceSub, Nat.reduceAdd, Nat.reduceMul, Nat.reduceLT, Nat.reduceLeDiff, Int.reduceNeg, Int.reduceAdd, Int.reduceSub, Int.reduceMul, UInt8.reduceToNat, hlen]; repeat first | ((first | with_reducible refine split2_pk (by omega) ?_ | with_reducible refine split2_nk (by omega) ?_); intro hsq; try simp (maxSteps := 4000000) (disch := first | omega | (simp only [push_n, set_n, clr_n, also_n, List.length_replicate, List.length_set, List.length_map, List.length_append, List.length_take, List.length_drop, List.length_cons, List.length_nil]; first | done | omega) | (with_reducible decide)) only [go_sem, Int.reduceEq, Int.reduceNe, Int.reduceLT, Int.reduceLE, Nat.reduceEqDiff, Int.reduceToNat, Nat.reduceSub, Nat.reduceAdd, Nat.reduceMul, Nat.reduceLT, Nat.reduceLeDiff, Int.reduceNeg, Int.reduceAdd, Int.reduceSub, Int.reduceMul, UInt8.reduceToNat, hlen, hsq]))
            rw [decRes, if_pos hok, if_pos hlk]
            exact ⟨rfl, g⟩
          · (try simp (maxSteps := 4000000) (disch := first | omega | (simp only [push_n, set_n, clr_n, also_n, List.length_replicate, List.length_set, List.length_map, List.length_append, List.length_take, List.length_drop, List.length_cons, List.length_nil]; first | done | omega) | (with_reducible decide)) only [go_sem, Int.reduceEq, Int.reduceNe, Int.reduceLT, Int.reduceLE, Nat.reduceEqDiff, Int.reduceToNat, Nat.reduceSub, Nat.reduceAdd, Nat.reduceMul, Nat.reduceLT, Nat.reduceLeDiff, Int.reduceNeg, Int.reduceAdd, Int.reduceSub, Int.reduceMul, UInt8.reduceToNat, hlen]; repeat first | ((first | with_reducible refine split2_pk (by omega) ?_ | with_reducible refine split2_nk (by omega) ?_); intro hsq; try simp (maxSteps := 4000000) (disch := first | omega | (simp only [push_n, set_n, clr_n, also_n, List.length_replicate, List.length_set, List.length_map, List.length_append, List.length_take, List.length_drop, List.length_cons, List.length_nil]; first | done | omega) | (with_reducible decide)) only [go_sem, Int.reduceEq, Int.reduceNe, Int.reduceLT, Int.reduceLE, Nat.reduceEqDiff, Int.reduceToNat, Nat.reduceSub, Nat.reduceAdd, Nat.reduceMul, Nat.reduceLT, Nat.reduceLeDiff, Int.reduceNeg, Int.reduceAdd, Int.reduceSub, Int.reduceMul, UInt8.reduceToNat, hlen, hsq]))
            refine ⟨(), ?_⟩
            and_intros
            all_goals first | assumption | trivial | exact ⟨hnd, hall⟩
      · have hno : ¬ decOk k n l ch := fun h => h3 h.2.2.1
        rw [decide_eq_false h3] at sp
        (try simp (maxSteps := 4000000) (disch := first | omega | (simp only [push_n, set_n, clr_n, also_n, List.length_replicate, List.length_set, List.length_map, List.length_append, List.length_take, List.length_drop, List.length_cons, List.length_nil]; first | done | omega) | (with_reducible decide)) only [go_sem, Int.reduceEq, Int.reduceNe, Int.reduceLT, Int.reduceLE, Nat.reduceEqDiff, Int.reduceToNat, Nat.reduceSub, Nat.reduceAdd, Nat.reduceMul, Nat.reduceLT, Nat.reduceLeDiff, Int.reduceNeg, Int.reduceAdd, Int.reduceSub, Int.reduceMul, UInt8.reduceToNat, h1, decide_true, hlen, hlenc]; repeat first | ((first | refine ASpec.eq (cmay_spec _ _ _) ?_ | refine ASpec.eq (sp) ?_); try simp (maxSteps := 4000000) (disch := first | omega | (simp only [push_n, set_n, clr_n, also_n, List.length_replicate, List.length_set, List.length_map, List.length_append, List.length_take, List.length_drop, List.length_cons, List.length_nil]; first | done | omega) | (with_reducible decide)) only [go_sem, Int.reduceEq, Int.reduceNe, Int.reduceLT, Int.reduceLE, Nat.reduceEqDiff, Int.reduceToNat, Nat.reduceSub, Nat.reduceAdd, Nat.reduceMul, Nat.reduceLT, Nat.reduceLeDiff, Int.reduceNeg, Int.reduceAdd, Int.reduceSub, Int.reduceMul, UInt8.reduceToNat, h1, decide_true, hlen, hlenc]) | ((first | with_reducible refine split2_pk (by omega) ?_ | with_reducible refine split2_nk (by omega) ?_); intro hsq; try simp (maxSteps := 4000000) (disch := first | omega | (simp only [push_n, set_n, clr_n, also_n, List.length_replicate, List.length_set, List.length_map, List.length_append, List.length_take, List.length_drop, List.length_cons, List.length_nil]; first | done | omega) | (with_reducible decide)) only [go_sem, Int.reduceEq, Int.reduceNe, Int.reduceLT, Int.reduceLE, Nat.reduceEqDiff, Int.reduceToNat, Nat.reduceSub, Nat.reduceAdd, Nat.reduceMul, Nat.reduceLT, Nat.reduceLeDiff, Int.reduceNeg, Int.reduceAdd, Int.reduceSub, Int.reduceMul, UInt8.reduceToNat, h1, decide_true, hlen, hlenc, hsq]))
        exact dec_seen hno ⟨rfl, Grew.refl _⟩
    · have hno : ¬ decOk k n l ch := fun h => h2 h.2.1
      (try simp (maxSteps := 4000000) (disch := first | omega | (simp only [push_n, set_n, clr_n, also_n, List.length_replicate, List.length_set, List.length_map, List.length_append, List.length_take, List.length_drop, List.length_cons, List.length_nil]; first | done | omega) | (with_reducible decide)) only [go_sem, Int.reduceEq, Int.reduceNe, Int.reduceLT, Int.reduceLE, Nat.reduceEqDiff, Int.reduceToNat, Nat.reduceSub, Nat.reduceAdd, Nat.reduceMul, Nat.reduceLT, Nat.reduceLeDiff, Int.reduceNeg, Int.reduceAdd, Int.reduceSub, Int.reduceMul, UInt8.reduceToNat, h1, decide_true, hlen, hlenc]; repeat first | ((first | refine ASpec.eq (cmay_spec _ _ _) ?_); try simp (maxSteps := 4000000) (disch := first | omega | (simp only [push_n, set_n, clr_n, also_n, List.length_replicate, List.length_set, List.length_map, List.length_append, List.length_take, List.length_drop, List.length_cons, List.length_nil]; first | done | omega) | (with_reducible decide)) only [go_sem, Int.reduceEq, Int.reduceNe, Int.reduceLT, Int.reduceLE, Nat.reduceEqDiff, Int.reduceToNat, Nat.reduceSub, Nat.reduceAdd, Nat.reduceMul, Nat.reduceLT, Nat.reduceLeDiff, Int.reduceNeg, Int.reduceAdd, Int.reduceSub, Int.reduceMul, UInt8.reduceToNat, h1, decide_true, hlen, hlenc]) | ((first | with_reducible refine split2_pk (by omega) ?_ | with_reducible refine split2_nk (by omega) ?_); intro hsq; try simp (maxSteps := 4000000) (disch := first | omega | (simp only [push_n, set_n, clr_n, also_n, List.length_replicate, List.length_set, List.length_map, List.length_append, List.length_take, List.length_drop, List.length_cons, List.length_nil]; first | done | omega) | (with_reducible decide)) only [go_sem, Int.reduceEq, Int.reduceNe, Int.reduceLT, Int.reduceLE, Nat.reduceEqDiff, Int.reduceToNat, Nat.reduceSub, Nat.reduceAdd, Nat.reduceMul, Nat.reduceLT, Nat.reduceLeDiff, Int.reduceNeg, Int.reduceAdd, Int.reduceSub, Int.reduceMul, UInt8.reduceToNat, h1, decide_true, hlen, hlenc, hsq]))
      exact dec_seen hno ⟨rfl, Grew.refl _⟩
  · have hno : ¬ decOk k n l ch := fun h => h1 h.1
    (try simp (maxSteps := 4000000) (disch := first | omega | (simp only [push_n, set_n, clr_n, also_n, List.length_replicate, List.length_set, List.length_map, List.length_append, List.length_take, List.length_drop, List.length_cons, List.length_nil]; first | done | omega) | (with_reducible decide)) only [go_sem, Int.reduceEq, Int.reduceNe, Int.reduceLT, Int.reduceLE, Nat.reduceEqDiff, Int.reduceToNat, Nat.reduceSub, Nat.reduceAdd, Nat.reduceMul, Nat.reduceLT, Nat.reduceLeDiff, Int.reduceNeg, Int.reduceAdd, Int.reduceSub, Int.reduceMul, UInt8.reduceToNat, h1, decide_false, hlen, hlenc]; repeat first | ((first | refine ASpec.eq (cmay_spec _ _ _) ?_); try simp (maxSteps := 4000000) (disch := first | omega | (simp only [push_n, set_n, clr_n, also_n, List.length_replicate, List.length_set, List.length_map, List.length_append, List.length_take, List.length_drop, List.length_cons, List.length_nil]; first | done | omega) | (with_reducible decide)) only [go_sem, Int.reduceEq, Int.reduceNe, Int.reduceLT, Int.reduceLE, Nat.reduceEqDiff, Int.reduceToNat, Nat.reduceSub, Nat.reduceAdd, Nat.reduceMul, Nat.reduceLT, Nat.reduceLeDiff, Int.reduceNeg, Int.reduceAdd, Int.reduceSub, Int.reduceMul, UInt8.reduceToNat, h1, decide_false, hlen, hlenc]) | ((first | with_reducible refine split2_pk (by omega) ?_ | with_reducible refine split2_nk (by omega) ?_); intro hsq; try simp (maxSteps := 4000000) (disch := first | omega | (simp only [push_n, set_n, clr_n, also_n, List.length_replicate, List.length_set, List.length_map, List.length_append, List.length_take, List.length_drop, List.length_cons, List.length_nil]; first | done | omega) | (with_reducible decide)) only [go_sem, Int.reduceEq, Int.reduceNe, Int.reduceLT, Int.reduceLE, Nat.reduceEqDiff, Int.reduceToNat, Nat.reduceSub, Nat.reduceAdd, Nat.reduceMul, Nat.reduceLT, Nat.reduceLeDiff, Int.reduceNeg, Int.reduceAdd, Int.reduceSub, Int.reduceMul, UInt8.reduceToNat, h1, decide_false, hlen, hlenc, hsq]))
    exact dec_seen hno ⟨rfl, Grew.refl _⟩
end Go.Proofs.Ytbpojmneffngoaa
