/- Products. -/
import Derived.Test.YtojeggahjmjnpaaMIz
namespace Go.Proofs.Ytojeggahjmjnpaa
open Go Go.Abs Go.Abs.GF
set_option linter.unusedVariables false
set_option linter.unusedSimpArgs false
set_option maxHeartbeats 4000000
attribute [local irreducible] ASpec AWp WP AOps DOps

theorem list_ext0 {l m : List UInt8} (h : l.length = m.length) (k : ∀ j, j < l.length → l.getD j 0 = m.getD j 0) : l = m := by
  apply List.ext_getElem h
  intro j h1 h2
  have := k j h1
  simpa [List.getD, h1, h2] using this
/-- A row of a product, so many summands. -/
def combRow (a b : Rows8) (i t : Nat) : List UInt8 := (List.range (b.getD 0 []).length).map fun j => sx (fun u => gmul (ent a i u) (ent b u j)) t
theorem combRow_len (a b : Rows8) (i t : Nat) : (combRow a b i t).length = (b.getD 0 []).length := by simp [combRow]
theorem combRow_get {a b : Rows8} {i t j : Nat} (hj : j < (b.getD 0 []).length) : (combRow a b i t).getD j 0 = sx (fun u => gmul (ent a i u) (ent b u j)) t := by
  have key : ∀ (f : Nat → UInt8) (n : Nat), j < n → ((List.range n).map f).getD j 0 = f j := fun f n h => by simp [List.getD, h]
  exact key _ _ hj
theorem combRow_0 (a b : Rows8) (i : Nat) : combRow a b i 0 = List.replicate (b.getD 0 []).length 0 := by
  simp only [combRow, sx]
  apply List.ext_getElem <;> simp
theorem combRow_s {a b : Rows8} {i t : Nat} (h : (b.getD t []).length = (b.getD 0 []).length) : addRow (combRow a b i t) (b.getD t []) (ent a i t) = combRow a b i (t + 1) := by
  have hl := combRow_len a b i t
  have hl2 := combRow_len a b i (t + 1)
  have hl3 : (addRow (combRow a b i t) (b.getD t []) (ent a i t)).length = (b.getD 0 []).length := by rw [addRow_len (by omega), hl]
  refine list_ext0 (by omega) fun j hj => ?_
  rw [addRow_get (by omega), combRow_get (by omega), combRow_get (by omega), sx, mul_comm (ent a i t)]
  rfl
theorem combRow_all {a b : Rows8} {i : Nat} (h : i < a.length) : combRow a b i b.length = (mulRows a b).getD i [] := (mulRows_get h).symm

def mulPart (a b : Rows8) (i : Nat) : Rows8 := (mulRows a b).take i ++ (zRows a.length (b.getD 0 []).length).drop i
theorem mulPart_len {a b : Rows8} {i : Nat} (h : i ≤ a.length) : (mulPart a b i).length = a.length := by simp [mulPart, mulRows_len, zRows_len]; omega
theorem mulPart_row {a b : Rows8} {i : Nat} (h : i < a.length) : (mulPart a b i).getD i [] = combRow a b i 0 := by
  unfold mulPart
  rw [mix_get _ _ _ (by rw [mulRows_len]; omega), zRows_get h, combRow_0]
theorem mulPart_set {a b : Rows8} {i : Nat} (h : i < a.length) : (mulPart a b i).set i (combRow a b i b.length) = mulPart a b (i + 1) := by
  rw [combRow_all h]
  exact mix_step [] _ _ (by rw [mulRows_len]; omega) (by rw [zRows_len]; omega)

def mulRes (H : AH) (a b : Rows8) (known : Bool) (r : AV) (H' : AH) : Prop :=
  if mayM a ∧ mayM b ∧ (a.getD 0 []).length = b.length then ∃ B ws, r = .tup [.slice ⟨false, B, 0⟩ a.length (if known then .known a.length else .grow 1), .int .i64 0] ∧ NewRows H H' B ws (mulRows a b) else r = .tup [.nilslice, .int .i64 1] ∧ H' = H

theorem mul_spec' (H : AH) (v w : AV) (vs us : List AV) (a b : Rows8) (ha : IsRows H v vs a) (hb : IsRows H w us b) : ASpec Try.prog 15 [v, w] H (mulRes H a b true) := by
  have hla := ha.row.lenA (P := Try.prog) Try.underlying23
  have hlb := hb.row.lenA (P := Try.prog) Try.underlying23
  have sp1 := may_spec H v vs a ha
  have sp2 := may_spec H w us b hb
  refine aspec_fn (rs := [.tmp 4, .tmp 5]) (n := 62) Try.func15 rfl rfl rfl rfl (by kernel_rfl) (Nat.le_of_ble_eq_true rfl) ?_
  by_cases h : mayM a ∧ mayM b ∧ (a.getD 0 []).length = b.length
  · obtain ⟨h1, h2, h3⟩ := h
    have b1 := h1.1
    have b2 := h1.2.1
    have b3 := h1.2.2.1
    have b4 := h1.2.2.2.1
    have c1 := h2.1
    have c2 := h2.2.1
    have c3 := h2.2.2.1
    have c4 := h2.2.2.2.1
    have hix := ha.ix (P := Try.prog) Try.underlying23 sz35 (k := .i64) (i := 0) (by omega) (by omega)
    have hld := ha.ld (i := 0) (by omega)
    have hl0 := (ha.each 0 (by omega)).length (P := Try.prog) Try.underlying35
    have hix2 := hb.ix (P := Try.prog) Try.underlying23 sz35 (k := .i64) (i := 0) (by omega) (by omega)
    have hld2 := hb.ld (i := 0) (by omega)
    have hl2 := (hb.each 0 (by omega)).length (P := Try.prog) Try.underlying35
    (try simp (maxSteps := 4000000) (disch := first | omega | (simp only [push_n, set_n, clr_n, also_n, List.length_replicate, List.length_set, List.length_map, List.length_append, List.length_take, List.length_drop, List.length_cons, List.length_nil]; first | done | omega) | (with_reducible decide)) only [go_sem, Int.reduceEq, Int.reduceNe, Int.reduceLT, Int.reduceLE, Nat.reduceEqDiff, Int.reduceToNat, Nat.reduceSub, Nat.reduceAdd, Nat.reduceMul, Nat.reduceLT, Nat.reduceLeDiff, Int.reduceNeg, Int.reduceAdd, Int.reduceSub, Int.reduceMul, UInt8.reduceToNat, hla, hlb, hix, hld, hl0, hix2, hld2, hl2, h1, h2, h3, decide_true]; repeat first | ((first | refine ASpec.eq (sp1) ?_ | refine ASpec.eq (sp2) ?_); try simp (maxSteps := 4000000) (disch := first | omega | (simp only [push_n, set_n, clr_n, also_n, List.length_replicate, List.length_set, List.length_map, List.length_append, List.length_take, List.length_drop, List.length_cons, List.length_nil]; first | done | omega) | (with_reducible decide)) only [go_sem, Int.reduceEq, Int.reduceNe, Int.reduceLT, Int.reduceLE, Nat.reduceEqDiff, Int.reduceToNat, Nat.reduceSub, Nat.reduceAdd, Nat.reduceMul, Nat.reduceLT, Nat.reduceLeDiff, Int.reduceNeg, Int.reduceAdd, Int.reduceSub, Int.reduceMul, UInt8.reduceToNat, hla, hlb, hix, hld, hl0, hix2, hld2, hl2, h1, h2, h3, decide_true]) | ((first | with_reducible refine split2_pk (by omega) ?_ | with_reducible refine split2_nk (by omega) ?_); intro hsq; try simp (maxSteps := 4000000) (disch := first | omega | (simp only [push_n, set_n, clr_n, also_n, List.length_replicate, List.length_set, List.length_map, List.length_append, List.length_take, List.length_drop, List.length_cons, List.length_nil]; first | done | omega) | (with_reducible decide)) only [go_sem, Int.reduceEq, Int.reduceNe, Int.reduceLT, Int.reduceLE, Nat.reduceEqDiff, Int.reduceToNat, Nat.reduceSub, Nat.reduceAdd, Nat.reduceMul, Nat.reduceLT, Nat.reduceLeDiff, Int.reduceNeg, Int.reduceAdd, Int.reduceSub, Int.reduceMul, UInt8.reduceToNat, hla, hlb, hix, hld, hl0, hix2, hld2, hl2, h1, h2, h3, decide_true, hsq]))
    refine (noughts_spec H a.length (b.getD 0 []).length (by omega) (by omega)).mono ?_
    rintro r H1 ⟨B, ws, rfl, hnr⟩
    have hg1 := hnr.g
    (try simp (maxSteps := 4000000) (disch := first | omega | (simp only [push_n, set_n, clr_n, also_n, List.length_replicate, List.length_set, List.length_map, List.length_append, List.length_take, List.length_drop, List.length_cons, List.length_nil]; first | done | omega) | (with_reducible decide)) only [go_sem, Int.reduceEq, Int.reduceNe, Int.reduceLT, Int.reduceLE, Nat.reduceEqDiff, Int.reduceToNat, Nat.reduceSub, Nat.reduceAdd, Nat.reduceMul, Nat.reduceLT, Nat.reduceLeDiff, Int.reduceNeg, Int.reduceAdd, Int.reduceSub, Int.reduceMul, UInt8.reduceToNat, hla]; repeat first | ((first | with_reducible refine split2_pk (by omega) ?_ | with_reducible refine split2_nk (by omega) ?_); intro hsq; try simp (maxSteps := 4000000) (disch := first | omega | (simp only [push_n, set_n, clr_n, also_n, List.length_replicate, List.length_set, List.length_map, List.length_append, List.length_take, List.length_drop, List.length_cons, List.length_nil]; first | done | omega) | (with_reducible decide)) only [go_sem, Int.reduceEq, Int.reduceNe, Int.reduceLT, Int.reduceLE, Nat.reduceEqDiff, Int.reduceToNat, Nat.reduceSub, Nat.reduceAdd, Nat.reduceMul, Nat.reduceLT, Nat.reduceLeDiff, Int.reduceNeg, Int.reduceAdd, Int.reduceSub, Int.reduceMul, UInt8.reduceToNat, hla, hsq]))
    refine wp_loopS (σ := Nat) (by kernel_rfl) (fun i => [(0, v), (1, w), (6, .slice ⟨false, B, 0⟩ a.length (.known a.length)), (35, v), (36, .int .i64 (a.length : Nat)), (37, .int .i64 (i : Nat))]) (fun i H' => i ≤ a.length ∧ NewRows H H' B ws (mulPart a b i)) (fun i => a.length - i) (0) (by simp (maxSteps := 4000000) (disch := first | omega | (simp only [push_n, set_n, clr_n, also_n, List.length_replicate, List.length_set, List.length_map, List.length_append, List.length_take, List.length_drop, List.length_cons, List.length_nil]; first | done | omega) | (with_reducible decide)) only [go_sem, Int.reduceEq, Int.reduceNe, Int.reduceLT, Int.reduceLE, Nat.reduceEqDiff, Int.reduceToNat, Nat.reduceSub, Nat.reduceAdd, Nat.reduceMul, Nat.reduceLT, Nat.reduceLeDiff, Int.reduceNeg, Int.reduceAdd, Int.reduceSub, Int.reduceMul, UInt8.reduceToNat]) ?_ ?_
    · exact ⟨by omega, by simpa [mulPart] using hnr⟩
    rintro i H2 ⟨hi, hp⟩
    by_cases hil : i < a.length
    · have ha2 := ha.grew hp.g
      have hixa := ha2.ix (P := Try.prog) Try.underlying23 sz35 (k := .i64) (i := (i : Int)) (by omega) (by omega)
      have hlda := ha2.ld hil
      have hra := ha2.each i hil
      have hlra := hra.length (P := Try.prog) Try.underlying35
      have elen : (a.getD i []).length = b.length := by rw [h1.2.2.2.2 i hil]; exact h3
      (try simp (maxSteps := 4000000) (disch := first | omega | (simp only [push_n, set_n, clr_n, also_n, List.length_replicate, List.length_set, List.length_map, List.length_append, List.length_take, List.length_drop, List.length_cons, List.length_nil]; first | done | omega) | (with_reducible decide)) only [go_sem, Int.reduceEq, Int.reduceNe, Int.reduceLT, Int.reduceLE, Nat.reduceEqDiff, Int.reduceToNat, Nat.reduceSub, Nat.reduceAdd, Nat.reduceMul, Nat.reduceLT, Nat.reduceLeDiff, Int.reduceNeg, Int.reduceAdd, Int.reduceSub, Int.reduceMul, UInt8.reduceToNat, hixa, hlda, hlra]; repeat first | ((first | with_reducible refine split2_pk (by omega) ?_ | with_reducible refine split2_nk (by omega) ?_); intro hsq; try simp (maxSteps := 4000000) (disch := first | omega | (simp only [push_n, set_n, clr_n, also_n, List.length_replicate, List.length_set, List.length_map, List.length_append, List.length_take, List.length_drop, List.length_cons, List.length_nil]; first | done | omega) | (with_reducible decide)) only [go_sem, Int.reduceEq, Int.reduceNe, Int.reduceLT, Int.reduceLE, Nat.reduceEqDiff, Int.reduceToNat, Nat.reduceSub, Nat.reduceAdd, Nat.reduceMul, Nat.reduceLT, Nat.reduceLeDiff, Int.reduceNeg, Int.reduceAdd, Int.reduceSub, Int.reduceMul, UInt8.reduceToNat, hixa, hlda, hlra, hsq]))
      refine wp_loopS (σ := Nat) (by kernel_rfl) (fun t => [(0, v), (1, w), (6, .slice ⟨false, B, 0⟩ a.length (.known a.length)), (35, v), (36, .int .i64 (a.length : Nat)), (37, .int .i64 (i : Nat)), (7, .int .i64 (i : Nat)), (42, vs.getD i .unk), (43, .int .i64 (b.length : Nat)), (44, .int .i64 (t : Nat))]) (fun t H' => t ≤ b.length ∧ NewRows H H' B ws ((mulPart a b i).set i (combRow a b i t))) (fun t => b.length - t) (0) (by simp (maxSteps := 4000000) (disch := first | omega | (simp only [push_n, set_n, clr_n, also_n, List.length_replicate, List.length_set, List.length_map, List.length_append, List.length_take, List.length_drop, List.length_cons, List.length_nil]; first | done | omega) | (with_reducible decide)) only [go_sem, Int.reduceEq, Int.reduceNe, Int.reduceLT, Int.reduceLE, Nat.reduceEqDiff, Int.reduceToNat, Nat.reduceSub, Nat.reduceAdd, Nat.reduceMul, Nat.reduceLT, Nat.reduceLeDiff, Int.reduceNeg, Int.reduceAdd, Int.reduceSub, Int.reduceMul, UInt8.reduceToNat, elen]) ?_ ?_
      · refine ⟨by omega, ?_⟩
        rw [← mulPart_row hil]
        have : (mulPart a b i).set i ((mulPart a b i).getD i []) = mulPart a b i := by
          have := mulPart_len (b := b) hi
          simp [List.getD, show i < (mulPart a b i).length by omega]
        rw [this]
        exact hp
      rintro t H3 ⟨ht, hp3⟩
      by_cases htl : t < b.length
      · have ho := hp3.own
        have ll : ((mulPart a b i).set i (combRow a b i t)).length = a.length := by rw [List.length_set, mulPart_len hi]
        have hrw : ((mulPart a b i).set i (combRow a b i t)).getD i [] = combRow a b i t := by
          rw [getD_set _ _ _ _ _ (by rw [mulPart_len hi]; exact hil), if_pos rfl]
        have hrows := ho.isRows (c := .known a.length) (by rw [ll]; simp [okSl])
        rw [ll] at hrows
        have hixm := hrows.ix (P := Try.prog) Try.underlying23 sz35 (k := .i64) (i := (i : Int)) (by omega) (by omega)
        have hldm := hrows.ld (i := i) (by omega)
        have hbm := ho.each i (by omega)
        obtain ⟨bm, cm, em⟩ := ho.own i (by omega)
        have ebm : bn (ws.getD i .unk) = bm := by rw [em]; rfl
        rw [hrw] at hbm em
        have hnew : H.n ≤ bm := by rw [← ebm]; exact hp3.new _ (bn_mem (by rw [ho.len]; omega))
        have hra3 := (ha.grew hp3.g).each i hil
        have hb3 := hb.grew hp3.g
        have hixt := hra3.ix (P := Try.prog) Try.underlying35 sz5 (k := .i64) (i := (t : Int)) (by omega) (by omega)
        have hldt := hra3.ld (i := t) (by omega)
        have hixb := hb3.ix (P := Try.prog) Try.underlying23 sz35 (k := .i64) (i := (t : Int)) (by omega) (by omega)
        have hldb := hb3.ld htl
        have hlv := hb3.row.live (i := t) (by omega)
        have hlv2 := hrows.row.live (i := i) (by omega)
        (try simp (maxSteps := 4000000) (disch := first | omega | (simp only [push_n, set_n, clr_n, also_n, List.length_replicate, List.length_set, List.length_map, List.length_append, List.length_take, List.length_drop, List.length_cons, List.length_nil]; first | done | omega) | (with_reducible decide)) only [go_sem, Int.reduceEq, Int.reduceNe, Int.reduceLT, Int.reduceLE, Nat.reduceEqDiff, Int.reduceToNat, Nat.reduceSub, Nat.reduceAdd, Nat.reduceMul, Nat.reduceLT, Nat.reduceLeDiff, Int.reduceNeg, Int.reduceAdd, Int.reduceSub, Int.reduceMul, UInt8.reduceToNat, hixt, hldt]; repeat first | ((first | with_reducible refine split2_pk (by omega) ?_ | with_reducible refine split2_nk (by omega) ?_); intro hsq; try simp (maxSteps := 4000000) (disch := first | omega | (simp only [push_n, set_n, clr_n, also_n, List.length_replicate, List.length_set, List.length_map, List.length_append, List.length_take, List.length_drop, List.length_cons, List.length_nil]; first | done | omega) | (with_reducible decide)) only [go_sem, Int.reduceEq, Int.reduceNe, Int.reduceLT, Int.reduceLE, Nat.reduceEqDiff, Int.reduceToNat, Nat.reduceSub, Nat.reduceAdd, Nat.reduceMul, Nat.reduceLT, Nat.reduceLeDiff, Int.reduceNeg, Int.reduceAdd, Int.reduceSub, Int.reduceMul, UInt8.reduceToNat, hixt, hldt, hsq]))
        (refine awp_drawP (hl := []) [eqM H3,  fun _ => True] [(0, some 0), (1, some 0), (2, some 0), (3, some 0), (4, some 0), (5, some 0), (6, some 0), (7, some 0), (8, some 0), (9, none)] [9] (by kernel_rfl) (by rfl) (by decide +kernel) (rofP_0 ?_) ?_; rotate_left; (conv => arg 5; simp only [List.map_cons, List.map_nil, List.getElem?_toArray, List.getElem?_cons_zero, List.getElem?_cons_succ]); rotate_left)
        · rfl
        (try simp (maxSteps := 4000000) (disch := first | omega | (simp only [push_n, set_n, clr_n, also_n, List.length_replicate, List.length_set, List.length_map, List.length_append, List.length_take, List.length_drop, List.length_cons, List.length_nil]; first | done | omega) | (with_reducible decide)) only [go_sem, Int.reduceEq, Int.reduceNe, Int.reduceLT, Int.reduceLE, Nat.reduceEqDiff, Int.reduceToNat, Nat.reduceSub, Nat.reduceAdd, Nat.reduceMul, Nat.reduceLT, Nat.reduceLeDiff, Int.reduceNeg, Int.reduceAdd, Int.reduceSub, Int.reduceMul, UInt8.reduceToNat, hixm, hldm, hixb, hldb, hlv, hlv2]; repeat first | ((first | with_reducible refine split2_pk (by omega) ?_ | with_reducible refine split2_nk (by omega) ?_); intro hsq; try simp (maxSteps := 4000000) (disch := first | omega | (simp only [push_n, set_n, clr_n, also_n, List.length_replicate, List.length_set, List.length_map, List.length_append, List.length_take, List.length_drop, List.length_cons, List.length_nil]; first | done | omega) | (with_reducible decide)) only [go_sem, Int.reduceEq, Int.reduceNe, Int.reduceLT, Int.reduceLE, Nat.reduceEqDiff, Int.reduceToNat, Nat.reduceSub, Nat.reduceAdd, Nat.reduceMul, Nat.reduceLT, Nat.reduceLeDiff, Int.reduceNeg, Int.reduceAdd, Int.reduceSub, Int.reduceMul, UInt8.reduceToNat, hixm, hldm, hixb, hldb, hlv, hlv2, hsq]))
        rw [em]
        rw [em] at hbm
        have hbt := hb3.each t htl
        have hcl := combRow_len a b i t
        have hbl := h2.2.2.2.2 t htl
        refine (add_spec' H3 bm _ cm _ _ _ _ hbm hbt ((hb.each t htl).off (S := [bm]) (fun j hj => by have := List.mem_singleton.1 hj; omega)) (by omega) (by omega)).mono ?_
        rintro r H4 ⟨rfl, k1, k2⟩
        rw [← em] at k1
        rw [show (a.getD i []).getD t 0 = ent a i t from rfl, combRow_s hbl] at k1
        rw [← ebm] at k2
        have ho4 := ho.row (i := i) (by omega) (by rw [hrw, combRow_len, combRow_len]) k2 k1
        rw [List.set_set] at ho4
        (try simp (maxSteps := 4000000) (disch := first | omega | (simp only [push_n, set_n, clr_n, also_n, List.length_replicate, List.length_set, List.length_map, List.length_append, List.length_take, List.length_drop, List.length_cons, List.length_nil]; first | done | omega) | (with_reducible decide)) only [go_sem, Int.reduceEq, Int.reduceNe, Int.reduceLT, Int.reduceLE, Nat.reduceEqDiff, Int.reduceToNat, Nat.reduceSub, Nat.reduceAdd, Nat.reduceMul, Nat.reduceLT, Nat.reduceLeDiff, Int.reduceNeg, Int.reduceAdd, Int.reduceSub, Int.reduceMul, UInt8.reduceToNat]; repeat first | ((first | with_reducible refine split2_pk (by omega) ?_ | with_reducible refine split2_nk (by omega) ?_); intro hsq; try simp (maxSteps := 4000000) (disch := first | omega | (simp only [push_n, set_n, clr_n, also_n, List.length_replicate, List.length_set, List.length_map, List.length_append, List.length_take, List.length_drop, List.length_cons, List.length_nil]; first | done | omega) | (with_reducible decide)) only [go_sem, Int.reduceEq, Int.reduceNe, Int.reduceLT, Int.reduceLE, Nat.reduceEqDiff, Int.reduceToNat, Nat.reduceSub, Nat.reduceAdd, Nat.reduceMul, Nat.reduceLT, Nat.reduceLeDiff, Int.reduceNeg, Int.reduceAdd, Int.reduceSub, Int.reduceMul, UInt8.reduceToNat, hsq]))
        (refine ⟨t + 1, ?_⟩; and_intros; all_goals (try first | rfl | assumption | omega))
        exact hp3.chg k2 (fun b' hb' => by have := List.mem_singleton.1 hb'; subst this; exact bn_mem (by rw [ho.len]; omega)) (fun _ h => h) ho4
      · obtain rfl : t = b.length := by omega
        (try simp (maxSteps := 4000000) (disch := first | omega | (simp only [push_n, set_n, clr_n, also_n, List.length_replicate, List.length_set, List.length_map, List.length_append, List.length_take, List.length_drop, List.length_cons, List.length_nil]; first | done | omega) | (with_reducible decide)) only [go_sem, Int.reduceEq, Int.reduceNe, Int.reduceLT, Int.reduceLE, Nat.reduceEqDiff, Int.reduceToNat, Nat.reduceSub, Nat.reduceAdd, Nat.reduceMul, Nat.reduceLT, Nat.reduceLeDiff, Int.reduceNeg, Int.reduceAdd, Int.reduceSub, Int.reduceMul, UInt8.reduceToNat]; repeat first | ((first | with_reducible refine split2_pk (by omega) ?_ | with_reducible refine split2_nk (by omega) ?_); intro hsq; try simp (maxSteps := 4000000) (disch := first | omega | (simp only [push_n, set_n, clr_n, also_n, List.length_replicate, List.length_set, List.length_map, List.length_append, List.length_take, List.length_drop, List.length_cons, List.length_nil]; first | done | omega) | (with_reducible decide)) only [go_sem, Int.reduceEq, Int.reduceNe, Int.reduceLT, Int.reduceLE, Nat.reduceEqDiff, Int.reduceToNat, Nat.reduceSub, Nat.reduceAdd, Nat.reduceMul, Nat.reduceLT, Nat.reduceLeDiff, Int.reduceNeg, Int.reduceAdd, Int.reduceSub, Int.reduceMul, UInt8.reduceToNat, hsq]))
        (refine ⟨i + 1, ?_⟩; and_intros; all_goals (try first | rfl | assumption | omega))
        rw [mulPart_set hil] at hp3
        exact hp3
    · obtain rfl : i = a.length := by omega
      (try simp (maxSteps := 4000000) (disch := first | omega | (simp only [push_n, set_n, clr_n, also_n, List.length_replicate, List.length_set, List.length_map, List.length_append, List.length_take, List.length_drop, List.length_cons, List.length_nil]; first | done | omega) | (with_reducible decide)) only [go_sem, Int.reduceEq, Int.reduceNe, Int.reduceLT, Int.reduceLE, Nat.reduceEqDiff, Int.reduceToNat, Nat.reduceSub, Nat.reduceAdd, Nat.reduceMul, Nat.reduceLT, Nat.reduceLeDiff, Int.reduceNeg, Int.reduceAdd, Int.reduceSub, Int.reduceMul, UInt8.reduceToNat]; repeat first | ((first | with_reducible refine split2_pk (by omega) ?_ | with_reducible refine split2_nk (by omega) ?_); intro hsq; try simp (maxSteps := 4000000) (disch := first | omega | (simp only [push_n, set_n, clr_n, also_n, List.length_replicate, List.length_set, List.length_map, List.length_append, List.length_take, List.length_drop, List.length_cons, List.length_nil]; first | done | omega) | (with_reducible decide)) only [go_sem, Int.reduceEq, Int.reduceNe, Int.reduceLT, Int.reduceLE, Nat.reduceEqDiff, Int.reduceToNat, Nat.reduceSub, Nat.reduceAdd, Nat.reduceMul, Nat.reduceLT, Nat.reduceLeDiff, Int.reduceNeg, Int.reduceAdd, Int.reduceSub, Int.reduceMul, UInt8.reduceToNat, hsq]))
      rw [mulRes, if_pos ⟨h1, h2, h3⟩]
      refine ⟨B, ws, rfl, ?_⟩
      have : mulPart a b a.length = mulRows a b := mix_end _ _ (by rw [mulRows_len]; omega) (by rw [zRows_len]; omega)
      rw [this] at hp
      exact hp
  · rw [show (mulRes H a b true) = fun r H' => r = .tup [.nilslice, .int .i64 1] ∧ H' = H by funext r H'; rw [mulRes, if_neg h]]
    by_cases h1 : mayM a
    · by_cases h2 : mayM b
      · have h3 : ¬ (a.getD 0 []).length = b.length := fun e => h ⟨h1, h2, e⟩
        have hix := ha.ix (P := Try.prog) Try.underlying23 sz35 (k := .i64) (i := 0) (by omega) (by have := h1.1; omega)
        have hld := ha.ld (i := 0) (by have := h1.1; omega)
        have hl0 := (ha.each 0 (by have := h1.1; omega)).length (P := Try.prog) Try.underlying35
        (try simp (maxSteps := 4000000) (disch := first | omega | (simp only [push_n, set_n, clr_n, also_n, List.length_replicate, List.length_set, List.length_map, List.length_append, List.length_take, List.length_drop, List.length_cons, List.length_nil]; first | done | omega) | (with_reducible decide)) only [go_sem, Int.reduceEq, Int.reduceNe, Int.reduceLT, Int.reduceLE, Nat.reduceEqDiff, Int.reduceToNat, Nat.reduceSub, Nat.reduceAdd, Nat.reduceMul, Nat.reduceLT, Nat.reduceLeDiff, Int.reduceNeg, Int.reduceAdd, Int.reduceSub, Int.reduceMul, UInt8.reduceToNat, hla, hlb, hix, hld, hl0, h1, h2, decide_true]; repeat first | ((first | refine ASpec.eq (sp1) ?_ | refine ASpec.eq (sp2) ?_); try simp (maxSteps := 4000000) (disch := first | omega | (simp only [push_n, set_n, clr_n, also_n, List.length_replicate, List.length_set, List.length_map, List.length_append, List.length_take, List.length_drop, List.length_cons, List.length_nil]; first | done | omega) | (with_reducible decide)) only [go_sem, Int.reduceEq, Int.reduceNe, Int.reduceLT, Int.reduceLE, Nat.reduceEqDiff, Int.reduceToNat, Nat.reduceSub, Nat.reduceAdd, Nat.reduceMul, Nat.reduceLT, Nat.reduceLeDiff, Int.reduceNeg, Int.reduceAdd, Int.reduceSub, Int.reduceMul, UInt8.reduceToNat, hla, hlb, hix, hld, hl0, h1, h2, decide_true]) | ((first | with_reducible refine split2_pk (by omega) ?_ | with_reducible refine split2_nk (by omega) ?_); intro hsq; try simp (maxSteps := 4000000) (disch := first | omega | (simp only [push_n, set_n, clr_n, also_n, List.length_replicate, List.length_set, List.length_map, List.length_append, List.length_take, List.length_drop, List.length_cons, List.length_nil]; first | done | omega) | (with_reducible decide)) only [go_sem, Int.reduceEq, Int.reduceNe, Int.reduceLT, Int.reduceLE, Nat.reduceEqDiff, Int.reduceToNat, Nat.reduceSub, Nat.reduceAdd, Nat.reduceMul, Nat.reduceLT, Nat.reduceLeDiff, Int.reduceNeg, Int.reduceAdd, Int.reduceSub, Int.reduceMul, UInt8.reduceToNat, hla, hlb, hix, hld, hl0, h1, h2, decide_true, hsq]))
      · (try simp (maxSteps := 4000000) (disch := first | omega | (simp only [push_n, set_n, clr_n, also_n, List.length_replicate, List.length_set, List.length_map, List.length_append, List.length_take, List.length_drop, List.length_cons, List.length_nil]; first | done | omega) | (with_reducible decide)) only [go_sem, Int.reduceEq, Int.reduceNe, Int.reduceLT, Int.reduceLE, Nat.reduceEqDiff, Int.reduceToNat, Nat.reduceSub, Nat.reduceAdd, Nat.reduceMul, Nat.reduceLT, Nat.reduceLeDiff, Int.reduceNeg, Int.reduceAdd, Int.reduceSub, Int.reduceMul, UInt8.reduceToNat, h1, h2, decide_true, decide_false]; repeat first | ((first | refine ASpec.eq (sp1) ?_ | refine ASpec.eq (sp2) ?_); try simp (maxSteps := 4000000) (disch := first | omega | (simp only [push_n, set_n, clr_n, also_n, List.length_replicate, List.length_set, List.length_map, List.length_append, List.length_take, List.length_drop, List.length_cons, List.length_nil]; first | done | omega) | (with_reducible decide)) only [go_sem, Int.reduceEq, Int.reduceNe, Int.reduceLT, Int.reduceLE, Nat.reduceEqDiff, Int.reduceToNat, Nat.reduceSub, Nat.reduceAdd, Nat.reduceMul, Nat.reduceLT, Nat.reduceLeDiff, Int.reduceNeg, Int.reduceAdd, Int.reduceSub, Int.reduceMul, UInt8.reduceToNat, h1, h2, decide_true, decide_false]) | ((first | with_reducible refine split2_pk (by omega) ?_ | with_reducible refine split2_nk (by omega) ?_); intro hsq; try simp (maxSteps := 4000000) (disch := first | omega | (simp only [push_n, set_n, clr_n, also_n, List.length_replicate, List.length_set, List.length_map, List.length_append, List.length_take, List.length_drop, List.length_cons, List.length_nil]; first | done | omega) | (with_reducible decide)) only [go_sem, Int.reduceEq, Int.reduceNe, Int.reduceLT, Int.reduceLE, Nat.reduceEqDiff, Int.reduceToNat, Nat.reduceSub, Nat.reduceAdd, Nat.reduceMul, Nat.reduceLT, Nat.reduceLeDiff, Int.reduceNeg, Int.reduceAdd, Int.reduceSub, Int.reduceMul, UInt8.reduceToNat, h1, h2, decide_true, decide_false, hsq]))
    · (try simp (maxSteps := 4000000) (disch := first | omega | (simp only [push_n, set_n, clr_n, also_n, List.length_replicate, List.length_set, List.length_map, List.length_append, List.length_take, List.length_drop, List.length_cons, List.length_nil]; first | done | omega) | (with_reducible decide)) only [go_sem, Int.reduceEq, Int.reduceNe, Int.reduceLT, Int.reduceLE, Nat.reduceEqDiff, Int.reduceToNat, Nat.reduceSub, Nat.reduceAdd, Nat.reduceMul, Nat.reduceLT, Nat.reduceLeDiff, Int.reduceNeg, Int.reduceAdd, Int.reduceSub, Int.reduceMul, UInt8.reduceToNat, h1, decide_false]; repeat first | ((first | refine ASpec.eq (sp1) ?_); try simp (maxSteps := 4000000) (disch := first | omega | (simp only [push_n, set_n, clr_n, also_n, List.length_replicate, List.length_set, List.length_map, List.length_append, List.length_take, List.length_drop, List.length_cons, List.length_nil]; first | done | omega) | (with_reducible decide)) only [go_sem, Int.reduceEq, Int.reduceNe, Int.reduceLT, Int.reduceLE, Nat.reduceEqDiff, Int.reduceToNat, Nat.reduceSub, Nat.reduceAdd, Nat.reduceMul, Nat.reduceLT, Nat.reduceLeDiff, Int.reduceNeg, Int.reduceAdd, Int.reduceSub, Int.reduceMul, UInt8.reduceToNat, h1, decide_false]) | ((first | with_reducible refine split2_pk (by omega) ?_ | with_reducible refine split2_nk (by omega) ?_); intro hsq; try simp (maxSteps := 4000000) (disch := first | omega | (simp only [push_n, set_n, clr_n, also_n, List.length_replicate, List.length_set, List.length_map, List.length_append, List.length_take, List.length_drop, List.length_cons, List.length_nil]; first | done | omega) | (with_reducible decide)) only [go_sem, Int.reduceEq, Int.reduceNe, Int.reduceLT, Int.reduceLE, Nat.reduceEqDiff, Int.reduceToNat, Nat.reduceSub, Nat.reduceAdd, Nat.reduceMul, Nat.reduceLT, Nat.reduceLeDiff, Int.reduceNeg, Int.reduceAdd, Int.reduceSub, Int.reduceMul, UInt8.reduceToNat, h1, decide_false, hsq]))
end Go.Proofs.Ytojeggahjmjnpaa
