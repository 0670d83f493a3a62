/- The document's arrays of disks: blank disks; lost ones, replaced ones. -/
import Derived.Test.YtickckpndpeppaaDM4z
import Derived.Test.YtickckpndpeppaaAM7z
namespace Go.Proofs.Ytickckpndpeppaa
open Go Go.Abs Go.Abs.GF
set_option linter.unusedVariables false
set_option linter.unusedSimpArgs false
set_option maxHeartbeats 4000000
attribute [local irreducible] ASpec AWp WP AOps DOps

/-- A disk that is being made, out of a memory. -/
structure BldD (H0 H : AH) (Q : Nat) (gone : Bool) (mv : AV) (ws : List AV) (rows : List (List UInt8)) : Prop where
  q : H.cells? Q = some [mv, .bool gone]
  acc : Acc 1 H0 H mv rows.length ws
  each : ∀ j, j < rows.length → OkRow H (Q :: blkOf mv) (ws.getD j .unk) (rows.getD j []) ∧ ∀ b ∈ blkOf (ws.getD j .unk), H0.n ≤ b
  qn : H0.n ≤ Q ∧ Q ∉ blkOf mv
theorem BldD.len {H0 H : AH} {Q : Nat} {gone : Bool} {mv : AV} {ws : List AV} {rows : List (List UInt8)} (b : BldD H0 H Q gone mv ws rows) : ws.length = rows.length := by have := b.acc.len; omega
theorem BldD.low {H0 H : AH} {Q : Nat} {gone : Bool} {mv : AV} {ws : List AV} {rows : List (List UInt8)} (b : BldD H0 H Q gone mv ws rows) : ∀ i ∈ blkOf mv, H0.n ≤ i ∧ i < H.n := fun i hi => by
  refine ⟨?_, b.acc.below i hi⟩
  rcases b.acc.is with ⟨rfl, _⟩ | ⟨B, rfl, h1, _⟩
  · simp [blkOf] at hi
  · simp only [blkOf, List.mem_cons, List.not_mem_nil, or_false] at hi; subst hi; exact h1
theorem BldD.add {H0 H M : AH} {Q : Nat} {gone : Bool} {mv : AV} {ws : List AV} {rows : List (List UInt8)} (b : BldD H0 H Q gone mv ws rows) (g : Grew H M) {w : AV} {xs : List UInt8} (hw : IsBytes M w xs) (hl : xs.length = 64) (hb : ∀ i ∈ blkOf w, H.n ≤ i ∧ i < M.n) (hk : rows.length < 5000) :
    ∃ H', appendTo 1 24 M 1 [w] mv = some (.slice ⟨false, M.n, 0⟩ (rows.length + 1) (.grow 1), H') ∧ H'.cells? Q = some [mv, .bool gone] ∧ Q < H'.n ∧ Chg (blkOf mv) M H' ∧
      BldD H0 (H'.set Q (some (.cells [.slice ⟨false, M.n, 0⟩ (rows.length + 1) (.grow 1), .bool gone]))) Q gone (.slice ⟨false, M.n, 0⟩ (rows.length + 1) (.grow 1)) (ws ++ [w]) (rows ++ [xs]) := by
  obtain ⟨H', a1, a2, a3, a4⟩ := (b.acc.grew g).app' (by' := 24) (k := 1) (news := [w]) rfl (by omega) (by omega)
  have hlen := b.len
  have hq := a4.cells b.qn.2 (g.cells_some b.q)
  have hQ : Q < H.n := cells_lt b.q
  have gn := g.n
  have g0 := b.acc.g.n
  have k := Chg.set H' Q (some (.cells [.slice ⟨false, M.n, 0⟩ (rows.length + 1) (.grow 1), .bool gone])) (S := [Q]) (by simp)
  refine ⟨H', a1, hq, cells_lt hq, a4, ⟨set_cells _ _ (cells_lt hq), ?_, ?_, b.qn.1, by simp [blkOf]; omega⟩⟩
  · rw [List.length_append]
    refine ⟨a2.g.set b.qn.1 _, a2.len, ?_⟩
    rcases a2.is with ⟨h1, _⟩ | ⟨B, h1, h2, h3⟩
    · cases h1
    · injection h1 with h1; injection h1 with _ h1; subst h1
      exact .inr ⟨M.n, rfl, h2, k.cells (by simp; omega) h3⟩
  · intro j hj
    rw [getD_add hj, getD_add (by rw [List.length_append] at hj ⊢; rw [hlen]; exact hj), hlen]
    split
    · rename_i hjl
      obtain ⟨e1, e2⟩ := b.each j hjl
      have h1 := e1.chg (g.chg []) (M' := Q :: blkOf mv) (by simp) fun i hi => .inl hi
      have h2 := h1.chg a4 (M' := Q :: blkOf mv) (fun i hi hm => e1.off i hi (List.mem_cons_of_mem _ hm)) fun i hi => .inl hi
      have h3 := h2.chg k (M' := [Q]) (fun i hi => by simp; rintro rfl; exact e1.off _ hi (by simp)) fun i hi => .inl (by simp at hi; simp [hi])
      refine ⟨⟨h3.b, fun i hi hm => ?_, h3.lt, h3.len⟩, e2⟩
      simp only [blkOf, List.mem_cons, List.not_mem_nil, or_false] at hm
      rcases hm with rfl | rfl
      · exact e1.off _ hi (by simp)
      · have := e1.lt _ hi; omega
    · have hoff : ∀ i ∈ blkOf w, i ∉ blkOf mv := fun i hi hm => by have := hb i hi; have := (b.low i hm).2; omega
      have h1 : IsBytes H' w xs := hw.chg a4 (off_of hw hoff)
      have h2 := h1.chg k (off_of h1 fun i hi => by simp; rintro rfl; have := hb _ hi; omega)
      refine ⟨⟨h2, fun i hi hm => ?_, fun i hi => ?_, hl⟩, fun i hi => Nat.le_trans g0 (hb i hi).1⟩
      · have := hb i hi
        simp only [blkOf, List.mem_cons, List.not_mem_nil, or_false] at hm
        omega
      · have := hb i hi; rw [set_n]; have := a3; omega
theorem BldD.also {H0 K : AH} {Q : Nat} {gone : Bool} {mv : AV} {ws : List AV} {rows : List (List UInt8)} {X : Nat → Prop} (b : BldD H0 K Q gone mv ws rows) (g : ∀ i, X i → H0.wr i ∨ H0.n ≤ i) : BldD H0 (K.also X) Q gone mv ws rows :=
  ⟨b.q, ⟨⟨b.acc.g.ro, b.acc.g.n, b.acc.g.old, fun i hi => hi.elim (b.acc.g.wr i) (g i)⟩, b.acc.len, b.acc.is⟩, fun j hj => ⟨⟨(b.each j hj).1.b.also, (b.each j hj).1.off, (b.each j hj).1.lt, (b.each j hj).1.len⟩, (b.each j hj).2⟩, b.qn⟩
theorem BldD.clr {H0 H : AH} {Q : Nat} {gone : Bool} {mv : AV} {ws : List AV} {rows : List (List UInt8)} (b : BldD H0 H Q gone mv ws rows) : BldD H0 H.clr Q gone mv ws rows :=
  ⟨b.q, ⟨⟨b.acc.g.ro, b.acc.g.n, b.acc.g.old, fun i hi => hi.elim⟩, b.acc.len, b.acc.is⟩, fun j hj => ⟨⟨(b.each j hj).1.b.clr, (b.each j hj).1.off, (b.each j hj).1.lt, (b.each j hj).1.len⟩, (b.each j hj).2⟩, b.qn⟩
theorem BldD.rd {H0 H : AH} {Q n : Nat} {mv : AV} {ws : List AV} {rows : List (List UInt8)} (b : BldD H0 H Q false mv ws rows) (hn : rows.length = n) (h0 : 0 < n) : OkRD H (blkOf mv) n ⟨mv, ws, some rows⟩ ∧ (blkOf mv).Nodup ∧ (∀ i, i ∈ blkOf mv ∨ (∃ w ∈ ws, i ∈ blkOf w) → H0.n ≤ i ∧ i < H.n) ∧ mv ≠ .nilslice := by
  rcases b.acc.is with ⟨_, h1⟩ | ⟨B, rfl, h2, h3⟩
  · omega
  refine ⟨⟨hn, by rw [b.len]; exact hn, ⟨B, by rw [hn], h3⟩, fun j hj => ?_⟩, by simp [blkOf], fun i hi => ?_, by simp⟩
  · obtain ⟨e1, e2⟩ := b.each j (by omega)
    exact ⟨e1.b, fun i hi hm => e1.off i hi (List.mem_cons_of_mem _ hm), e1.lt, e1.len⟩
  · rcases hi with hi | ⟨w, hw, hi⟩
    · exact b.low i hi
    · obtain ⟨j, hj, e⟩ := mem_getD (x := AV.unk) |>.1 hw
      obtain ⟨e1, e2⟩ := b.each j (by rw [← b.len]; exact hj)
      rw [e] at e1 e2
      exact ⟨e2 i hi, e1.lt i hi⟩
set_option maxRecDepth 100000 in
theorem blank_spec (H : AH) (n : Nat) (h0 : 0 < n) (hn : n ≤ 4096) : ASpec Try.prog 44 [.int .i64 n] H fun r H' => ∃ x : RD, r = .agg [x.sv, .bool false] ∧ x.ss = some (blankS n) ∧ OkRD H' (blkOf x.sv) n x ∧ (blkOf x.sv).Nodup ∧ (∀ i, i ∈ blkOf x.sv ∨ (∃ w ∈ x.ws, i ∈ blkOf w) → H.n ≤ i ∧ i < H'.n) ∧ oneA x.sv = true ∧ Grew H H' := by
  refine aspec_fn (rs := [.cell 2 81]) (n := 18) Try.func44 rfl rfl rfl rfl (by kernel_rfl) (Nat.le_of_ble_eq_true rfl) ?_
  (try simp (maxSteps := 4000000) (disch := first | omega | (simp only [push_n, set_n, clr_n, also_n, List.length_replicate, List.length_set, List.length_map, List.length_append, List.length_take, List.length_drop, List.length_cons, List.length_nil]; first | done | omega) | (with_reducible decide)) only [go_sem, Int.reduceEq, Int.reduceNe, Int.reduceLT, Int.reduceLE, Nat.reduceEqDiff, Int.reduceToNat, Nat.reduceSub, Nat.reduceAdd, Nat.reduceMul, Nat.reduceLT, Nat.reduceLeDiff, Int.reduceNeg, Int.reduceAdd, Int.reduceSub, Int.reduceMul, UInt8.reduceToNat]; repeat first | ((first | with_reducible refine split2_pk (by omega) ?_ | with_reducible refine split2_nk (by omega) ?_); intro hsq; try simp (maxSteps := 4000000) (disch := first | omega | (simp only [push_n, set_n, clr_n, also_n, List.length_replicate, List.length_set, List.length_map, List.length_append, List.length_take, List.length_drop, List.length_cons, List.length_nil]; first | done | omega) | (with_reducible decide)) only [go_sem, Int.reduceEq, Int.reduceNe, Int.reduceLT, Int.reduceLE, Nat.reduceEqDiff, Int.reduceToNat, Nat.reduceSub, Nat.reduceAdd, Nat.reduceMul, Nat.reduceLT, Nat.reduceLeDiff, Int.reduceNeg, Int.reduceAdd, Int.reduceSub, Int.reduceMul, UInt8.reduceToNat, hsq]))
  refine wp_loopS (σ := Nat × AV × AVs) (by kernel_rfl) (fun (i, mv, ws) => [(0, .int .i64 (n : Nat)), (2, .ptr ⟨false, H.n, 0⟩), (3, .ptr ⟨false, H.n + 1, 0⟩), (4, .int .i64 (i : Nat))]) (fun (i, mv, ws) H' => i ≤ n ∧ BldD (H.push (some (.cells [.nilslice, .bool false]))) H' (H.n + 1) false mv ws (blankS i) ∧ H'.cells? H.n = some [.nilslice, .bool false] ∧ H.n ∉ blkOf mv) (fun (i, mv, ws) => n - i) (0, .nilslice, []) (by simp (maxSteps := 4000000) (disch := first | omega | (simp only [push_n, set_n, clr_n, also_n, List.length_replicate, List.length_set, List.length_map, List.length_append, List.length_take, List.length_drop, List.length_cons, List.length_nil]; first | done | omega) | (with_reducible decide)) only [go_sem, Int.reduceEq, Int.reduceNe, Int.reduceLT, Int.reduceLE, Nat.reduceEqDiff, Int.reduceToNat, Nat.reduceSub, Nat.reduceAdd, Nat.reduceMul, Nat.reduceLT, Nat.reduceLeDiff, Int.reduceNeg, Int.reduceAdd, Int.reduceSub, Int.reduceMul, UInt8.reduceToNat]) ?_ ?_
  · refine ⟨by omega, ⟨push_cells_at (by rw [push_n]), Acc.nil (Grew.push _ _), by simp [blankS], by rw [push_n]; omega, by simp [blkOf]⟩, ?_, by simp [blkOf]⟩
    rw [push_cells_ne (by rw [push_n]; omega), push_cells]
  rintro ⟨i, mv, ws⟩ H1 ⟨hi, b, hR, hm⟩
  by_cases hin : i < n
  · have hq := b.q
    have hQ := cells_lt hq
    have hRn := cells_lt hR
    have hz := bytes_whole (H := H1.push (some (.cells (List.replicate 64 (AV.int .u8 0))))) (xs := List.replicate 64 0) (by rw [push_cells, List.map_replicate]; rfl) (c := .known 64) (by rfl)
    rw [List.length_replicate] at hz
    have g2 := (Grew.push H1 (some (.cells (List.replicate 64 (AV.int .u8 0))))).trans (Grew.push _ (some (.cells [.slice ⟨false, H1.n, 0⟩ 64 (.known 64)])))
    obtain ⟨H2, a1, a2, a3, a4, b2⟩ := b.add g2 (w := .slice ⟨false, H1.n, 0⟩ 64 (.known 64)) (xs := List.replicate 64 0) (hz.grew (Grew.push _ _)) (by simp) (by simp [blkOf, push_n]; omega) (by simp [blankS]; omega)
    simp only [push_n, blankS, List.length_replicate] at a1 b2
    have hR2 : H2.cells? H.n = some [.nilslice, .bool false] := a4.cells hm (g2.cells_some hR)
    (try simp (maxSteps := 4000000) (disch := first | omega | (simp only [push_n, set_n, clr_n, also_n, List.length_replicate, List.length_set, List.length_map, List.length_append, List.length_take, List.length_drop, List.length_cons, List.length_nil]; first | done | omega) | (with_reducible decide)) only [go_sem, Int.reduceEq, Int.reduceNe, Int.reduceLT, Int.reduceLE, Nat.reduceEqDiff, Int.reduceToNat, Nat.reduceSub, Nat.reduceAdd, Nat.reduceMul, Nat.reduceLT, Nat.reduceLeDiff, Int.reduceNeg, Int.reduceAdd, Int.reduceSub, Int.reduceMul, UInt8.reduceToNat]; repeat first | ((first | with_reducible refine split2_pk (by omega) ?_ | with_reducible refine split2_nk (by omega) ?_); intro hsq; try simp (maxSteps := 4000000) (disch := first | omega | (simp only [push_n, set_n, clr_n, also_n, List.length_replicate, List.length_set, List.length_map, List.length_append, List.length_take, List.length_drop, List.length_cons, List.length_nil]; first | done | omega) | (with_reducible decide)) only [go_sem, Int.reduceEq, Int.reduceNe, Int.reduceLT, Int.reduceLE, Nat.reduceEqDiff, Int.reduceToNat, Nat.reduceSub, Nat.reduceAdd, Nat.reduceMul, Nat.reduceLT, Nat.reduceLeDiff, Int.reduceNeg, Int.reduceAdd, Int.reduceSub, Int.reduceMul, UInt8.reduceToNat, hsq]))
    (refine awp_drawP (hl := []) [eqM H1,  eqM (H1.push (some (.cells (List.replicate 64 (AV.int .u8 0))))),  eqM ((H1.push (some (.cells (List.replicate 64 (AV.int .u8 0))))).push (some (.cells [.slice ⟨false, H1.n, 0⟩ 64 (.known 64)]))),  eqM H2,  fun _ => True] [(0, some 2), (1, some 2), (2, none), (3, none), (4, none), (5, some 0), (6, none)] [2, 3, 4, 6] (by kernel_rfl) (by rfl) (by decide +kernel) (rofP_0 ?_) ?_; rotate_left; (conv => arg 5; simp only [List.map_cons, List.map_nil, List.getElem?_toArray, List.getElem?_cons_zero, List.getElem?_cons_succ]); rotate_left)
    · rfl
    (try simp (maxSteps := 4000000) (disch := first | omega | (simp only [push_n, set_n, clr_n, also_n, List.length_replicate, List.length_set, List.length_map, List.length_append, List.length_take, List.length_drop, List.length_cons, List.length_nil]; first | done | omega) | (with_reducible decide)) only [go_sem, Int.reduceEq, Int.reduceNe, Int.reduceLT, Int.reduceLE, Nat.reduceEqDiff, Int.reduceToNat, Nat.reduceSub, Nat.reduceAdd, Nat.reduceMul, Nat.reduceLT, Nat.reduceLeDiff, Int.reduceNeg, Int.reduceAdd, Int.reduceSub, Int.reduceMul, UInt8.reduceToNat, hq, a1, a2]; repeat first | ((first | with_reducible refine split2_pk (by omega) ?_ | with_reducible refine split2_nk (by omega) ?_); intro hsq; try simp (maxSteps := 4000000) (disch := first | omega | (simp only [push_n, set_n, clr_n, also_n, List.length_replicate, List.length_set, List.length_map, List.length_append, List.length_take, List.length_drop, List.length_cons, List.length_nil]; first | done | omega) | (with_reducible decide)) only [go_sem, Int.reduceEq, Int.reduceNe, Int.reduceLT, Int.reduceLE, Nat.reduceEqDiff, Int.reduceToNat, Nat.reduceSub, Nat.reduceAdd, Nat.reduceMul, Nat.reduceLT, Nat.reduceLeDiff, Int.reduceNeg, Int.reduceAdd, Int.reduceSub, Int.reduceMul, UInt8.reduceToNat, hq, a1, a2, hsq]))
    (refine ⟨(i + 1, .slice ⟨false, H1.n + 1 + 1, 0⟩ (i + 1) (.grow 1), ws ++ [.slice ⟨false, H1.n, 0⟩ 64 (.known 64)]), ?_⟩; and_intros; all_goals (try first | rfl | assumption | omega))
    · rw [show blankS (i + 1) = List.replicate i (List.replicate 64 0) ++ [List.replicate 64 0] from List.replicate_succ']
      exact b2
    · simp [blkOf]; omega
  · obtain rfl : i = n := by omega
    have hq := b.q
    obtain ⟨r1, r2, r3, r4⟩ := b.rd (by simp [blankS]) h0
    have hone : oneA mv = true := by rcases b.acc.is with ⟨rfl, _⟩ | ⟨_, rfl, _⟩ <;> rfl
    have hRn := cells_lt hR
    (try simp (maxSteps := 4000000) (disch := first | omega | (simp only [push_n, set_n, clr_n, also_n, List.length_replicate, List.length_set, List.length_map, List.length_append, List.length_take, List.length_drop, List.length_cons, List.length_nil]; first | done | omega) | (with_reducible decide)) only [go_sem, Int.reduceEq, Int.reduceNe, Int.reduceLT, Int.reduceLE, Nat.reduceEqDiff, Int.reduceToNat, Nat.reduceSub, Nat.reduceAdd, Nat.reduceMul, Nat.reduceLT, Nat.reduceLeDiff, Int.reduceNeg, Int.reduceAdd, Int.reduceSub, Int.reduceMul, UInt8.reduceToNat, hq, hR, ↓hone, gdb_true, putL_all]; repeat first | ((first | with_reducible refine split2_pk (by omega) ?_ | with_reducible refine split2_nk (by omega) ?_); intro hsq; try simp (maxSteps := 4000000) (disch := first | omega | (simp only [push_n, set_n, clr_n, also_n, List.length_replicate, List.length_set, List.length_map, List.length_append, List.length_take, List.length_drop, List.length_cons, List.length_nil]; first | done | omega) | (with_reducible decide)) only [go_sem, Int.reduceEq, Int.reduceNe, Int.reduceLT, Int.reduceLE, Nat.reduceEqDiff, Int.reduceToNat, Nat.reduceSub, Nat.reduceAdd, Nat.reduceMul, Nat.reduceLT, Nat.reduceLeDiff, Int.reduceNeg, Int.reduceAdd, Int.reduceSub, Int.reduceMul, UInt8.reduceToNat, hq, hR, ↓hone, gdb_true, putL_all, hsq]))
    have k := Chg.set H1 H.n (some (.cells [mv, .bool false])) (S := [H.n]) (by simp)
    have hlow : ∀ q, (q ∈ blkOf mv ∨ ∃ w ∈ ws, q ∈ blkOf w) → q ≠ H.n := fun q hq e => by have := (r3 q hq).1; rw [push_n] at this; omega
    refine ⟨⟨mv, ws, some (blankS i)⟩, rfl, rfl, r1.chg k (fun q hq => by simp; exact hlow q (.inl hq)) (fun w hw q hq => by simp; exact hlow q (.inr ⟨w, hw, hq⟩)) fun q hq => .inl hq, r2, fun q hq => ?_, hone, ?_⟩
    · have := r3 q hq; rw [push_n] at this; omega
    · exact ((Grew.push H _).trans b.acc.g).set (Nat.le_refl _) _
section
variable {H : AH} {P D : Nat} {lv : AV} {ds : List RD} {fl : List RF} {A : Arr}
theorem bldD_lowR (h : IsRef H P D lv ds fl A) {H' : AH} {x : RD} (hx : ∀ i, i ∈ blkOf x.sv ∨ (∃ w ∈ x.ws, i ∈ blkOf w) → H.n ≤ i ∧ i < H'.n) : ∀ i, i ∈ blkOf x.sv ∨ (∃ w ∈ x.ws, i ∈ blkOf w) → i ∉ allR P D lv ds fl := fun i hi hm => by
  have := hx i hi; have := h.ltA i hm; omega
theorem OkRD.also {X : Nat → Prop} {M : List Nat} {n : Nat} {x : RD} (h : OkRD H M n x) : OkRD (H.also X) M n x := by
  obtain ⟨sv, ws, ss⟩ := x
  unfold OkRD at *
  cases ss with
  | none => exact h
  | some ss => exact ⟨h.1, h.2.1, h.2.2.1, fun i hi => ⟨(h.2.2.2 i hi).b.also, (h.2.2.2 i hi).off, (h.2.2.2 i hi).lt, (h.2.2.2 i hi).len⟩⟩
theorem IsRef.also {X : Nat → Prop} (h : IsRef H P D lv ds fl A) : IsRef (H.also X) P D lv ds fl A :=
  ⟨h.hd, h.dc, fun d hd => (h.dk d hd).also, h.fk,
   fun f hf => ⟨(h.fw f hf).b.also, (h.fw f hf).off, (h.fw f hf).lt, (h.fw f hf).len⟩, h.eD, h.eF, h.wf, h.cnt, h.dn, h.fuse, h.nd⟩
theorem refReplace_spec (h : IsRef H P D lv ds fl A) (d : Int) : ASpec Try.prog 32 [.ptr ⟨false, P, 0⟩, .int .i64 d] H fun r H' => r = .int .i64 ((A.replace d).1 : Nat) ∧ ∃ ds', IsRef H' P D lv ds' fl (A.replace d).2 ∧ Went H (allR P D lv ds fl) H' (allR P D lv ds' fl) := by
  have hd := h.hd
  have dc := h.dc
  have hc := h.cnt
  have hl := rdC_len ds
  by_cases hin : 0 ≤ d ∧ d < ds.length
  · obtain ⟨h1, h2⟩ := id hin
    have hA : A.inn d := ⟨h1, by rw [h.len]; exact h2⟩
    have hon := h.on_none hin
    have c1 := rdC_1 (l := ds) (i := d.toNat) (by omega)
    have n1 : ¬ d < 0 := by omega
    have n2 : ¬ d ≥ ds.length := by omega
    cases hs : (ds.getD d.toNat default).ss with
    | some ss =>
      rw [hs] at hon c1
      rw [show A.replace d = (1, A) by simp [Arr.replace, hA, hon]]
      refine aspec_fn (rs := [.tmp 4]) (n := 36) Try.func32 rfl rfl rfl rfl (by kernel_rfl) (Nat.le_of_ble_eq_true rfl) ?_
      (try simp (maxSteps := 4000000) (disch := first | omega | (simp only [push_n, set_n, clr_n, also_n, List.length_replicate, List.length_set, List.length_map, List.length_append, List.length_take, List.length_drop, List.length_cons, List.length_nil]; first | done | omega) | (with_reducible decide)) only [go_sem, Int.reduceEq, Int.reduceNe, Int.reduceLT, Int.reduceLE, Nat.reduceEqDiff, Int.reduceToNat, Nat.reduceSub, Nat.reduceAdd, Nat.reduceMul, Nat.reduceLT, Nat.reduceLeDiff, Int.reduceNeg, Int.reduceAdd, Int.reduceSub, Int.reduceMul, UInt8.reduceToNat, hd, dc, c1, n1, n2]; repeat first | ((first | with_reducible refine split2_pk (by omega) ?_ | with_reducible refine split2_nk (by omega) ?_); intro hsq; try simp (maxSteps := 4000000) (disch := first | omega | (simp only [push_n, set_n, clr_n, also_n, List.length_replicate, List.length_set, List.length_map, List.length_append, List.length_take, List.length_drop, List.length_cons, List.length_nil]; first | done | omega) | (with_reducible decide)) only [go_sem, Int.reduceEq, Int.reduceNe, Int.reduceLT, Int.reduceLE, Nat.reduceEqDiff, Int.reduceToNat, Nat.reduceSub, Nat.reduceAdd, Nat.reduceMul, Nat.reduceLT, Nat.reduceLeDiff, Int.reduceNeg, Int.reduceAdd, Int.reduceSub, Int.reduceMul, UInt8.reduceToNat, hd, dc, c1, n1, n2, hsq]))
      exact ⟨ds, h, Went.refl _ _⟩
    | none =>
      rw [hs] at hon c1
      rw [show A.replace d = (0, { A with disks := A.disks.set d.toNat (some (blankS A.count)) }) by simp [Arr.replace, hA, hon]]
      have hPn := cells_lt hd
      have hDn := cells_lt dc
      have q1 := gq_live (H := H) (i := P) (by rw [hd]; rfl)
      have q2 := gq_live (H := H) (i := D) (by rw [dc]; rfl)
      have hdl : d.toNat < ds.length := by omega
      refine aspec_fn (rs := [.tmp 4]) (n := 36) Try.func32 rfl rfl rfl rfl (by kernel_rfl) (Nat.le_of_ble_eq_true rfl) ?_
      (try simp (maxSteps := 4000000) (disch := first | omega | (simp only [push_n, set_n, clr_n, also_n, List.length_replicate, List.length_set, List.length_map, List.length_append, List.length_take, List.length_drop, List.length_cons, List.length_nil]; first | done | omega) | (with_reducible decide)) only [go_sem, Int.reduceEq, Int.reduceNe, Int.reduceLT, Int.reduceLE, Nat.reduceEqDiff, Int.reduceToNat, Nat.reduceSub, Nat.reduceAdd, Nat.reduceMul, Nat.reduceLT, Nat.reduceLeDiff, Int.reduceNeg, Int.reduceAdd, Int.reduceSub, Int.reduceMul, UInt8.reduceToNat, hd, dc, c1, n1, n2]; repeat first | ((first | with_reducible refine split2_pk (by omega) ?_ | with_reducible refine split2_nk (by omega) ?_); intro hsq; try simp (maxSteps := 4000000) (disch := first | omega | (simp only [push_n, set_n, clr_n, also_n, List.length_replicate, List.length_set, List.length_map, List.length_append, List.length_take, List.length_drop, List.length_cons, List.length_nil]; first | done | omega) | (with_reducible decide)) only [go_sem, Int.reduceEq, Int.reduceNe, Int.reduceLT, Int.reduceLE, Nat.reduceEqDiff, Int.reduceToNat, Nat.reduceSub, Nat.reduceAdd, Nat.reduceMul, Nat.reduceLT, Nat.reduceLeDiff, Int.reduceNeg, Int.reduceAdd, Int.reduceSub, Int.reduceMul, UInt8.reduceToNat, hd, dc, c1, n1, n2, hsq]))
      (refine awp_drawH [28] [eqM H.clr,  fun K => Grew H.clr K,  fun _ => True] [(0, some 1), (1, some 1), (2, some 1), (3, some 1), (4, some 1), (5, some 0), (6, some 0), (7, some 0), (8, some 0), (9, none), (10, some 0), (11, none)] [9, 11] (by kernel_rfl) (by rfl) (by decide +kernel) (rofP_0 ?_) ?_; rotate_left; (conv => arg 5; simp only [List.map_cons, List.map_nil, List.getElem?_toArray, List.getElem?_cons_zero, List.getElem?_cons_succ]); rotate_left)
      · rfl
      (try simp (maxSteps := 4000000) (disch := first | omega | (simp only [push_n, set_n, clr_n, also_n, List.length_replicate, List.length_set, List.length_map, List.length_append, List.length_take, List.length_drop, List.length_cons, List.length_nil]; first | done | omega) | (with_reducible decide)) only [go_sem, Int.reduceEq, Int.reduceNe, Int.reduceLT, Int.reduceLE, Nat.reduceEqDiff, Int.reduceToNat, Nat.reduceSub, Nat.reduceAdd, Nat.reduceMul, Nat.reduceLT, Nat.reduceLeDiff, Int.reduceNeg, Int.reduceAdd, Int.reduceSub, Int.reduceMul, UInt8.reduceToNat, hd, q1, q2, rigP_gs, rigP_g1]; repeat first | ((first | with_reducible refine split2_pk (by omega) ?_ | with_reducible refine split2_nk (by omega) ?_); intro hsq; try simp (maxSteps := 4000000) (disch := first | omega | (simp only [push_n, set_n, clr_n, also_n, List.length_replicate, List.length_set, List.length_map, List.length_append, List.length_take, List.length_drop, List.length_cons, List.length_nil]; first | done | omega) | (with_reducible decide)) only [go_sem, Int.reduceEq, Int.reduceNe, Int.reduceLT, Int.reduceLE, Nat.reduceEqDiff, Int.reduceToNat, Nat.reduceSub, Nat.reduceAdd, Nat.reduceMul, Nat.reduceLT, Nat.reduceLeDiff, Int.reduceNeg, Int.reduceAdd, Int.reduceSub, Int.reduceMul, UInt8.reduceToNat, hd, q1, q2, rigP_gs, rigP_g1, hsq]))
      refine (blank_spec _ A.count hc.1 hc.2).mono ?_
      rintro r H1 ⟨x, rfl, hxs, hxk, hxn, hxb, hx1, g1⟩
      have hg := (Grew.clr_self H).trans g1
      have h1' := h.grew hg
      have hxo := bldD_lowR h (x := x) (H' := H1) hxb
      have key := (h1'.also (X := H.wr)).put hdl hxk.also hxn hxo
      rw [hxs] at key
      have hset := rdC_set hdl x
      rw [hxs, Option.isNone_some] at hset
      have dc1 := hg.cells_some dc
      have hD1 := cells_lt dc1
      (try simp (maxSteps := 4000000) (disch := first | omega | (simp only [push_n, set_n, clr_n, also_n, List.length_replicate, List.length_set, List.length_map, List.length_append, List.length_take, List.length_drop, List.length_cons, List.length_nil]; first | done | omega) | (with_reducible decide)) only [go_sem, Int.reduceEq, Int.reduceNe, Int.reduceLT, Int.reduceLE, Nat.reduceEqDiff, Int.reduceToNat, Nat.reduceSub, Nat.reduceAdd, Nat.reduceMul, Nat.reduceLT, Nat.reduceLeDiff, Int.reduceNeg, Int.reduceAdd, Int.reduceSub, Int.reduceMul, UInt8.reduceToNat, g1, dc1, hset, ↓hx1, gdb_true]; repeat first | ((first | with_reducible refine split2_pk (by omega) ?_ | with_reducible refine split2_nk (by omega) ?_); intro hsq; try simp (maxSteps := 4000000) (disch := first | omega | (simp only [push_n, set_n, clr_n, also_n, List.length_replicate, List.length_set, List.length_map, List.length_append, List.length_take, List.length_drop, List.length_cons, List.length_nil]; first | done | omega) | (with_reducible decide)) only [go_sem, Int.reduceEq, Int.reduceNe, Int.reduceLT, Int.reduceLE, Nat.reduceEqDiff, Int.reduceToNat, Nat.reduceSub, Nat.reduceAdd, Nat.reduceMul, Nat.reduceLT, Nat.reduceLeDiff, Int.reduceNeg, Int.reduceAdd, Int.reduceSub, Int.reduceMul, UInt8.reduceToNat, g1, dc1, hset, ↓hx1, gdb_true, hsq]))
      refine ⟨_, key, ⟨(chg_also (hg.chg _)).thenSet _ (.inl (allR_own own_DR)), fun i hi => ?_⟩⟩
      rcases allR_set hdl hi with h5 | h5 | h5
      · exact .inl h5
      · exact .inr (hxb i (.inl h5)).1
      · exact .inr (hxb i (.inr h5)).1
  · have hA : ¬ A.inn d := fun hi => hin ⟨hi.1, by rw [← h.len]; exact hi.2⟩
    rw [show A.replace d = (6, A) by simp [Arr.replace, hA]]
    have : d < 0 ∨ (¬ d < 0 ∧ d ≥ ds.length) := by omega
    rcases this with h1 | ⟨h1, h2⟩
    · refine aspec_fn (rs := [.tmp 4]) (n := 36) Try.func32 rfl rfl rfl rfl (by kernel_rfl) (Nat.le_of_ble_eq_true rfl) ?_
      (try simp (maxSteps := 4000000) (disch := first | omega | (simp only [push_n, set_n, clr_n, also_n, List.length_replicate, List.length_set, List.length_map, List.length_append, List.length_take, List.length_drop, List.length_cons, List.length_nil]; first | done | omega) | (with_reducible decide)) only [go_sem, Int.reduceEq, Int.reduceNe, Int.reduceLT, Int.reduceLE, Nat.reduceEqDiff, Int.reduceToNat, Nat.reduceSub, Nat.reduceAdd, Nat.reduceMul, Nat.reduceLT, Nat.reduceLeDiff, Int.reduceNeg, Int.reduceAdd, Int.reduceSub, Int.reduceMul, UInt8.reduceToNat, hd, h1]; repeat first | ((first | with_reducible refine split2_pk (by omega) ?_ | with_reducible refine split2_nk (by omega) ?_); intro hsq; try simp (maxSteps := 4000000) (disch := first | omega | (simp only [push_n, set_n, clr_n, also_n, List.length_replicate, List.length_set, List.length_map, List.length_append, List.length_take, List.length_drop, List.length_cons, List.length_nil]; first | done | omega) | (with_reducible decide)) only [go_sem, Int.reduceEq, Int.reduceNe, Int.reduceLT, Int.reduceLE, Nat.reduceEqDiff, Int.reduceToNat, Nat.reduceSub, Nat.reduceAdd, Nat.reduceMul, Nat.reduceLT, Nat.reduceLeDiff, Int.reduceNeg, Int.reduceAdd, Int.reduceSub, Int.reduceMul, UInt8.reduceToNat, hd, h1, hsq]))
      exact ⟨ds, h, Went.refl _ _⟩
    · refine aspec_fn (rs := [.tmp 4]) (n := 36) Try.func32 rfl rfl rfl rfl (by kernel_rfl) (Nat.le_of_ble_eq_true rfl) ?_
      (try simp (maxSteps := 4000000) (disch := first | omega | (simp only [push_n, set_n, clr_n, also_n, List.length_replicate, List.length_set, List.length_map, List.length_append, List.length_take, List.length_drop, List.length_cons, List.length_nil]; first | done | omega) | (with_reducible decide)) only [go_sem, Int.reduceEq, Int.reduceNe, Int.reduceLT, Int.reduceLE, Nat.reduceEqDiff, Int.reduceToNat, Nat.reduceSub, Nat.reduceAdd, Nat.reduceMul, Nat.reduceLT, Nat.reduceLeDiff, Int.reduceNeg, Int.reduceAdd, Int.reduceSub, Int.reduceMul, UInt8.reduceToNat, hd, h1, h2]; repeat first | ((first | with_reducible refine split2_pk (by omega) ?_ | with_reducible refine split2_nk (by omega) ?_); intro hsq; try simp (maxSteps := 4000000) (disch := first | omega | (simp only [push_n, set_n, clr_n, also_n, List.length_replicate, List.length_set, List.length_map, List.length_append, List.length_take, List.length_drop, List.length_cons, List.length_nil]; first | done | omega) | (with_reducible decide)) only [go_sem, Int.reduceEq, Int.reduceNe, Int.reduceLT, Int.reduceLE, Nat.reduceEqDiff, Int.reduceToNat, Nat.reduceSub, Nat.reduceAdd, Nat.reduceMul, Nat.reduceLT, Nat.reduceLeDiff, Int.reduceNeg, Int.reduceAdd, Int.reduceSub, Int.reduceMul, UInt8.reduceToNat, hd, h1, h2, hsq]))
      exact ⟨ds, h, Went.refl _ _⟩
set_option maxRecDepth 100000 in
theorem refLose_spec (h : IsRef H P D lv ds fl A) (hn : A.fly.length < 1000000) (d : Int) : ASpec Try.prog 31 [.ptr ⟨false, P, 0⟩, .int .i64 d] H fun r H' => r = .int .i64 ((A.lose d).1 : Nat) ∧ ∃ lv' ds' fl', IsRef H' P D lv' ds' fl' (A.lose d).2 ∧ Went H (allR P D lv ds fl) H' (allR P D lv' ds' fl') := by
  have hd := h.hd
  have dc := h.dc
  have hc := h.cnt
  have hl := rdC_len ds
  by_cases hin : 0 ≤ d ∧ d < ds.length
  · obtain ⟨h1, h2⟩ := id hin
    have hA : A.inn d := ⟨h1, by rw [h.len]; exact h2⟩
    have hon := h.on_none hin
    have hdl : d.toNat < ds.length := by omega
    have c1 := rdC_1 (l := ds) (i := d.toNat) hdl
    have n1 : ¬ d < 0 := by omega
    have n2 : ¬ d ≥ ds.length := by omega
    cases hs : (ds.getD d.toNat default).ss with
    | none =>
      rw [hs] at hon c1
      rw [show A.lose d = (9, A) by simp [Arr.lose, hA, hon]]
      refine aspec_fn (rs := [.tmp 4]) (n := 66) Try.func31 rfl rfl rfl rfl (by kernel_rfl) (Nat.le_of_ble_eq_true rfl) ?_
      (try simp (maxSteps := 4000000) (disch := first | omega | (simp only [push_n, set_n, clr_n, also_n, List.length_replicate, List.length_set, List.length_map, List.length_append, List.length_take, List.length_drop, List.length_cons, List.length_nil]; first | done | omega) | (with_reducible decide)) only [go_sem, Int.reduceEq, Int.reduceNe, Int.reduceLT, Int.reduceLE, Nat.reduceEqDiff, Int.reduceToNat, Nat.reduceSub, Nat.reduceAdd, Nat.reduceMul, Nat.reduceLT, Nat.reduceLeDiff, Int.reduceNeg, Int.reduceAdd, Int.reduceSub, Int.reduceMul, UInt8.reduceToNat, hd, dc, c1, n1, n2]; repeat first | ((first | with_reducible refine split2_pk (by omega) ?_ | with_reducible refine split2_nk (by omega) ?_); intro hsq; try simp (maxSteps := 4000000) (disch := first | omega | (simp only [push_n, set_n, clr_n, also_n, List.length_replicate, List.length_set, List.length_map, List.length_append, List.length_take, List.length_drop, List.length_cons, List.length_nil]; first | done | omega) | (with_reducible decide)) only [go_sem, Int.reduceEq, Int.reduceNe, Int.reduceLT, Int.reduceLE, Nat.reduceEqDiff, Int.reduceToNat, Nat.reduceSub, Nat.reduceAdd, Nat.reduceMul, Nat.reduceLT, Nat.reduceLeDiff, Int.reduceNeg, Int.reduceAdd, Int.reduceSub, Int.reduceMul, UInt8.reduceToNat, hd, dc, c1, n1, n2, hsq]))
      exact ⟨lv, ds, fl, h, Went.refl _ _⟩
    | some ss =>
      rw [hs] at hon c1
      have hPn := cells_lt hd
      have hDn := cells_lt dc
      have hfl : fl.length < 1000000 := by rw [← h.flen]; exact hn
      have key := h.put (d := d.toNat) hdl (x := ⟨.nilslice, [], none⟩) ⟨rfl, rfl⟩ (by simp [blkOf]) (by simp [blkOf])
      have hset := rdC_set hdl (⟨.nilslice, [], none⟩ : RD)
      rw [Option.isNone_none] at hset
      have hlr := rfC_len fl
      have wset : Went H (allR P D lv ds fl) (H.set D (some (.cells (rdC (ds.set d.toNat ⟨.nilslice, [], none⟩))))) (allR P D lv (ds.set d.toNat ⟨.nilslice, [], none⟩) fl) :=
        ⟨Chg.set H D _ (allR_own own_DR), fun i hi => by
          rcases allR_set hdl hi with h5 | h5 | ⟨w, hw, _⟩
          · exact .inl h5
          · simp [blkOf] at h5
          · simp at hw⟩
      have lf := key.lenL Try.underlying76
      refine aspec_fn (rs := [.tmp 4]) (n := 66) Try.func31 rfl rfl rfl rfl (by kernel_rfl) (Nat.le_of_ble_eq_true rfl) ?_
      (try simp (maxSteps := 4000000) (disch := first | omega | (simp only [push_n, set_n, clr_n, also_n, List.length_replicate, List.length_set, List.length_map, List.length_append, List.length_take, List.length_drop, List.length_cons, List.length_nil]; first | done | omega) | (with_reducible decide)) only [go_sem, Int.reduceEq, Int.reduceNe, Int.reduceLT, Int.reduceLE, Nat.reduceEqDiff, Int.reduceToNat, Nat.reduceSub, Nat.reduceAdd, Nat.reduceMul, Nat.reduceLT, Nat.reduceLeDiff, Int.reduceNeg, Int.reduceAdd, Int.reduceSub, Int.reduceMul, UInt8.reduceToNat, hd, dc, c1, n1, n2, hset]; repeat first | ((first | with_reducible refine split2_pk (by omega) ?_ | with_reducible refine split2_nk (by omega) ?_); intro hsq; try simp (maxSteps := 4000000) (disch := first | omega | (simp only [push_n, set_n, clr_n, also_n, List.length_replicate, List.length_set, List.length_map, List.length_append, List.length_take, List.length_drop, List.length_cons, List.length_nil]; first | done | omega) | (with_reducible decide)) only [go_sem, Int.reduceEq, Int.reduceNe, Int.reduceLT, Int.reduceLE, Nat.reduceEqDiff, Int.reduceToNat, Nat.reduceSub, Nat.reduceAdd, Nat.reduceMul, Nat.reduceLT, Nat.reduceLeDiff, Int.reduceNeg, Int.reduceAdd, Int.reduceSub, Int.reduceMul, UInt8.reduceToNat, hd, dc, c1, n1, n2, hset, hsq]))
      generalize hH1 : H.set D (some (.cells (rdC (ds.set d.toNat ⟨.nilslice, [], none⟩)))) = H1 at *
      have hd1 := key.hd
      refine wp_loopS (σ := Nat × AV) (by kernel_rfl) (fun (j, mv) => [(0, .ptr ⟨false, P, 0⟩), (1, .int .i64 d), (5, mv), (6, .int .i64 (j : Nat))]) (fun (j, mv) H' => j ≤ fl.length ∧ Acc 3 H1 H' mv ((fl.take j).filter fun f => decide (f.f.disk ≠ d.toNat)).length (rfC ((fl.take j).filter fun f => decide (f.f.disk ≠ d.toNat)))) (fun (j, mv) => fl.length - j) (0, .nilslice) (by simp (maxSteps := 4000000) (disch := first | omega | (simp only [push_n, set_n, clr_n, also_n, List.length_replicate, List.length_set, List.length_map, List.length_append, List.length_take, List.length_drop, List.length_cons, List.length_nil]; first | done | omega) | (with_reducible decide)) only [go_sem, Int.reduceEq, Int.reduceNe, Int.reduceLT, Int.reduceLE, Nat.reduceEqDiff, Int.reduceToNat, Nat.reduceSub, Nat.reduceAdd, Nat.reduceMul, Nat.reduceLT, Nat.reduceLeDiff, Int.reduceNeg, Int.reduceAdd, Int.reduceSub, Int.reduceMul, UInt8.reduceToNat]) ?_ ?_
      · exact ⟨by omega, Acc.nil (Grew.refl _)⟩
      · rintro ⟨j, mv⟩ H2 ⟨hj, acc⟩
        have hd2 := acc.g.cells_some hd1
        by_cases hjl : j < fl.length
        · rcases key.fk with ⟨_, e⟩ | ⟨L, rfl, f1⟩
          · rw [e] at hjl; simp at hjl
          have f1' := acc.g.cells_some f1
          have e0 := rfC_0 (l := fl) (i := j) hjl
          have e3 := rfC_3 (l := fl) (i := j) hjl
          have hstep : (fl.take (j + 1)).filter (fun f => decide (f.f.disk ≠ d.toNat)) = (fl.take j).filter (fun f => decide (f.f.disk ≠ d.toNat)) ++ if (fl.getD j default).f.disk = d.toNat then [] else [fl.getD j default] := by
            rw [List.take_add_one, List.getElem?_eq_getElem hjl, Option.toList, List.filter_append, show fl.getD j default = fl[j] by simp [List.getD, hjl]]
            congr 1
            by_cases h9 : fl[j].f.disk = d.toNat <;> simp [h9]
          have hlen : ((fl.take j).filter fun f => decide (f.f.disk ≠ d.toNat)).length ≤ j := Nat.le_trans (List.length_filter_le _ _) (by simp; omega)
          have hfw := key.fw (fl.getD j default) (by rw [show fl.getD j default = fl[j] by simp [List.getD, hjl]]; exact List.getElem_mem hjl)
          have hwone : oneA (fl.getD j default).w = true := by rcases hfw.b.elim with ⟨e, _⟩ | ⟨_, _, _, e, _⟩ <;> rw [e] <;> rfl
          clear hfw
          generalize fl.getD j default = f at e0 e3 hstep hwone
          by_cases hfd : f.f.disk = d.toNat
          · have hfd' : (f.f.disk : Int) = d := by omega
            rw [if_pos hfd, List.append_nil] at hstep
            (try simp (maxSteps := 4000000) (disch := first | omega | (simp only [push_n, set_n, clr_n, also_n, List.length_replicate, List.length_set, List.length_map, List.length_append, List.length_take, List.length_drop, List.length_cons, List.length_nil]; first | done | omega) | (with_reducible decide)) only [go_sem, Int.reduceEq, Int.reduceNe, Int.reduceLT, Int.reduceLE, Nat.reduceEqDiff, Int.reduceToNat, Nat.reduceSub, Nat.reduceAdd, Nat.reduceMul, Nat.reduceLT, Nat.reduceLeDiff, Int.reduceNeg, Int.reduceAdd, Int.reduceSub, Int.reduceMul, UInt8.reduceToNat, hd2, f1', e0, hfd']; repeat first | ((first | with_reducible refine split2_pk (by omega) ?_ | with_reducible refine split2_nk (by omega) ?_); intro hsq; try simp (maxSteps := 4000000) (disch := first | omega | (simp only [push_n, set_n, clr_n, also_n, List.length_replicate, List.length_set, List.length_map, List.length_append, List.length_take, List.length_drop, List.length_cons, List.length_nil]; first | done | omega) | (with_reducible decide)) only [go_sem, Int.reduceEq, Int.reduceNe, Int.reduceLT, Int.reduceLE, Nat.reduceEqDiff, Int.reduceToNat, Nat.reduceSub, Nat.reduceAdd, Nat.reduceMul, Nat.reduceLT, Nat.reduceLeDiff, Int.reduceNeg, Int.reduceAdd, Int.reduceSub, Int.reduceMul, UInt8.reduceToNat, hd2, f1', e0, hfd', hsq]))
            (refine ⟨(j + 1, mv), ?_⟩; and_intros; all_goals (try first | rfl | assumption | omega))
            simp only [hstep]; exact acc
          · have hfd' : ¬ (f.f.disk : Int) = d := by omega
            rw [if_neg hfd] at hstep
            obtain ⟨H3, a1, a2, a3, a4⟩ := (acc.grew (Grew.push H2 (some (.cells (rf1 f))))).app' (by' := 40) (k := 1) (news := rf1 f) rfl (by omega) (by omega)
            have eR : rf1 f = [.int .i64 f.f.disk, .int .i64 f.f.pos, f.w] := rfl
            rw [eR] at a1 e3
            simp only [push_n] at a1
            (try simp (maxSteps := 4000000) (disch := first | omega | (simp only [push_n, set_n, clr_n, also_n, List.length_replicate, List.length_set, List.length_map, List.length_append, List.length_take, List.length_drop, List.length_cons, List.length_nil]; first | done | omega) | (with_reducible decide)) only [go_sem, Int.reduceEq, Int.reduceNe, Int.reduceLT, Int.reduceLE, Nat.reduceEqDiff, Int.reduceToNat, Nat.reduceSub, Nat.reduceAdd, Nat.reduceMul, Nat.reduceLT, Nat.reduceLeDiff, Int.reduceNeg, Int.reduceAdd, Int.reduceSub, Int.reduceMul, UInt8.reduceToNat, hd2, f1', e0, e3, hfd', a1, ↓hwone]; repeat first | ((first | with_reducible refine split2_pk (by omega) ?_ | with_reducible refine split2_nk (by omega) ?_); intro hsq; try simp (maxSteps := 4000000) (disch := first | omega | (simp only [push_n, set_n, clr_n, also_n, List.length_replicate, List.length_set, List.length_map, List.length_append, List.length_take, List.length_drop, List.length_cons, List.length_nil]; first | done | omega) | (with_reducible decide)) only [go_sem, Int.reduceEq, Int.reduceNe, Int.reduceLT, Int.reduceLE, Nat.reduceEqDiff, Int.reduceToNat, Nat.reduceSub, Nat.reduceAdd, Nat.reduceMul, Nat.reduceLT, Nat.reduceLeDiff, Int.reduceNeg, Int.reduceAdd, Int.reduceSub, Int.reduceMul, UInt8.reduceToNat, hd2, f1', e0, e3, hfd', a1, ↓hwone, hsq]))
            (refine ⟨(j + 1, .slice ⟨false, H2.n + 1, 0⟩ (((fl.take j).filter fun f => decide (f.f.disk ≠ d.toNat)).length + 1) (.grow 3)), ?_⟩; and_intros; all_goals (try first | rfl | assumption | omega))
            simp only [hstep, List.length_append, List.length_cons, List.length_nil, Nat.zero_add]
            rw [show rfC ((fl.take j).filter (fun f => decide (f.f.disk ≠ d.toNat)) ++ [f]) = rfC ((fl.take j).filter fun f => decide (f.f.disk ≠ d.toNat)) ++ rf1 f by simp [rfC]]
            rw [push_n] at a2
            exact a2
        · obtain rfl : j = fl.length := by omega
          rw [List.take_length] at acc
          have hst : ∀ {i o : Nat}, storeA Try.prog 76 ⟨false, i, o⟩ mv H2 = (H2.cells? i).bind fun l => gd (o < l.length) (some (H2.set i (some (.cells (l.set o mv))))) := by
            intro i o
            rcases acc.is with ⟨rfl, _⟩ | ⟨_, rfl, _⟩
            · exact st76_1
            · exact st76_0
          (try simp (maxSteps := 4000000) (disch := first | omega | (simp only [push_n, set_n, clr_n, also_n, List.length_replicate, List.length_set, List.length_map, List.length_append, List.length_take, List.length_drop, List.length_cons, List.length_nil]; first | done | omega) | (with_reducible decide)) only [go_sem, Int.reduceEq, Int.reduceNe, Int.reduceLT, Int.reduceLE, Nat.reduceEqDiff, Int.reduceToNat, Nat.reduceSub, Nat.reduceAdd, Nat.reduceMul, Nat.reduceLT, Nat.reduceLeDiff, Int.reduceNeg, Int.reduceAdd, Int.reduceSub, Int.reduceMul, UInt8.reduceToNat, hd2, lf, hst]; repeat first | ((first | with_reducible refine split2_pk (by omega) ?_ | with_reducible refine split2_nk (by omega) ?_); intro hsq; try simp (maxSteps := 4000000) (disch := first | omega | (simp only [push_n, set_n, clr_n, also_n, List.length_replicate, List.length_set, List.length_map, List.length_append, List.length_take, List.length_drop, List.length_cons, List.length_nil]; first | done | omega) | (with_reducible decide)) only [go_sem, Int.reduceEq, Int.reduceNe, Int.reduceLT, Int.reduceLE, Nat.reduceEqDiff, Int.reduceToNat, Nat.reduceSub, Nat.reduceAdd, Nat.reduceMul, Nat.reduceLT, Nat.reduceLeDiff, Int.reduceNeg, Int.reduceAdd, Int.reduceSub, Int.reduceMul, UInt8.reduceToNat, hd2, lf, hst, hsq]))
          have hlow : ∀ i ∈ blkOf mv, H1.n ≤ i := fun i hi => by
            rcases acc.is with ⟨rfl, _⟩ | ⟨B, rfl, h5, _⟩
            · simp [blkOf] at hi
            · simp only [blkOf, List.mem_cons, List.not_mem_nil, or_false] at hi; subst hi; exact h5
          have hk : OkRL H2 mv (fl.filter fun f => decide (f.f.disk ≠ d.toNat)) := by
            rcases acc.is with ⟨h5, h6⟩ | ⟨B, h5, _, h6⟩
            · exact .inl ⟨h5, List.eq_nil_of_length_eq_zero h6⟩
            · exact .inr ⟨B, h5, h6⟩
          have hown : ∀ q ∈ ownR P D mv (ds.set d.toNat ⟨.nilslice, [], none⟩), q ∈ ownR P D lv (ds.set d.toNat ⟨.nilslice, [], none⟩) ∨ H1.n ≤ q := fun q hq => by
            rcases own_ofR hq with rfl | rfl | hq | ⟨e, he, hq⟩
            · exact .inl own_PR
            · exact .inl own_DR
            · exact .inr (hlow q hq)
            · exact .inl (own_sv he hq)
          have fin := key.flies (H3 := H2) (acc.g.chg _) (lv' := mv) hk (by rcases acc.is with ⟨rfl, _⟩ | ⟨_, rfl, _⟩ <;> simp [blkOf]) (fun f hf => (key.fw f (List.mem_filter.1 hf).1).chg (acc.g.chg []) (by simp) hown)
            (fun f hf => key.wf f.f (by rw [key.eF]; exact List.mem_map_of_mem (List.mem_filter.1 hf).1)) hlow (fuse := A.fuse) h.fuse A.off
          have eF : (fl.filter fun f => decide (f.f.disk ≠ d.toNat)).map (·.f) = A.fly.filter fun f => decide (f.disk ≠ d.toNat) := by
            rw [h.eF, List.filter_map]; rfl
          rw [eF] at fin
          rw [show A.lose d = (0, { A with disks := A.disks.set d.toNat none, fly := A.fly.filter fun f => decide (f.disk ≠ d.toNat) }) by simp [Arr.lose, hA, hon]]
          have wl : Went H1 (allR P D lv (ds.set d.toNat ⟨.nilslice, [], none⟩) fl) H2 (allR P D mv (ds.set d.toNat ⟨.nilslice, [], none⟩) (fl.filter fun f => decide (f.f.disk ≠ d.toNat))) := ⟨acc.g.chg _, fun i hi => by
            rcases allR_of hi with hi | hi
            · exact (hown i hi).imp allR_own id
            · rcases rows_of hi with ⟨e, he, w, hw, hi⟩ | ⟨f, hf, hi⟩
              · exact .inl (allR_row (rows_d he hw hi))
              · exact .inl (allR_row (rows_f (List.mem_filter.1 hf).1 hi))⟩
          have wt := wset.trans wl
          exact ⟨rfl, _, _, _, fin, ⟨wt.chg.thenSet _ (.inl (allR_own own_PR)), wt.sub⟩⟩
  · have hA : ¬ A.inn d := fun hi => hin ⟨hi.1, by rw [← h.len]; exact hi.2⟩
    rw [show A.lose d = (6, A) by simp [Arr.lose, hA]]
    have : d < 0 ∨ (¬ d < 0 ∧ d ≥ ds.length) := by omega
    rcases this with h1 | ⟨h1, h2⟩
    · refine aspec_fn (rs := [.tmp 4]) (n := 66) Try.func31 rfl rfl rfl rfl (by kernel_rfl) (Nat.le_of_ble_eq_true rfl) ?_
      (try simp (maxSteps := 4000000) (disch := first | omega | (simp only [push_n, set_n, clr_n, also_n, List.length_replicate, List.length_set, List.length_map, List.length_append, List.length_take, List.length_drop, List.length_cons, List.length_nil]; first | done | omega) | (with_reducible decide)) only [go_sem, Int.reduceEq, Int.reduceNe, Int.reduceLT, Int.reduceLE, Nat.reduceEqDiff, Int.reduceToNat, Nat.reduceSub, Nat.reduceAdd, Nat.reduceMul, Nat.reduceLT, Nat.reduceLeDiff, Int.reduceNeg, Int.reduceAdd, Int.reduceSub, Int.reduceMul, UInt8.reduceToNat, hd, h1]; repeat first | ((first | with_reducible refine split2_pk (by omega) ?_ | with_reducible refine split2_nk (by omega) ?_); intro hsq; try simp (maxSteps := 4000000) (disch := first | omega | (simp only [push_n, set_n, clr_n, also_n, List.length_replicate, List.length_set, List.length_map, List.length_append, List.length_take, List.length_drop, List.length_cons, List.length_nil]; first | done | omega) | (with_reducible decide)) only [go_sem, Int.reduceEq, Int.reduceNe, Int.reduceLT, Int.reduceLE, Nat.reduceEqDiff, Int.reduceToNat, Nat.reduceSub, Nat.reduceAdd, Nat.reduceMul, Nat.reduceLT, Nat.reduceLeDiff, Int.reduceNeg, Int.reduceAdd, Int.reduceSub, Int.reduceMul, UInt8.reduceToNat, hd, h1, hsq]))
      exact ⟨lv, ds, fl, h, Went.refl _ _⟩
    · refine aspec_fn (rs := [.tmp 4]) (n := 66) Try.func31 rfl rfl rfl rfl (by kernel_rfl) (Nat.le_of_ble_eq_true rfl) ?_
      (try simp (maxSteps := 4000000) (disch := first | omega | (simp only [push_n, set_n, clr_n, also_n, List.length_replicate, List.length_set, List.length_map, List.length_append, List.length_take, List.length_drop, List.length_cons, List.length_nil]; first | done | omega) | (with_reducible decide)) only [go_sem, Int.reduceEq, Int.reduceNe, Int.reduceLT, Int.reduceLE, Nat.reduceEqDiff, Int.reduceToNat, Nat.reduceSub, Nat.reduceAdd, Nat.reduceMul, Nat.reduceLT, Nat.reduceLeDiff, Int.reduceNeg, Int.reduceAdd, Int.reduceSub, Int.reduceMul, UInt8.reduceToNat, hd, h1, h2]; repeat first | ((first | with_reducible refine split2_pk (by omega) ?_ | with_reducible refine split2_nk (by omega) ?_); intro hsq; try simp (maxSteps := 4000000) (disch := first | omega | (simp only [push_n, set_n, clr_n, also_n, List.length_replicate, List.length_set, List.length_map, List.length_append, List.length_take, List.length_drop, List.length_cons, List.length_nil]; first | done | omega) | (with_reducible decide)) only [go_sem, Int.reduceEq, Int.reduceNe, Int.reduceLT, Int.reduceLE, Nat.reduceEqDiff, Int.reduceToNat, Nat.reduceSub, Nat.reduceAdd, Nat.reduceMul, Nat.reduceLT, Nat.reduceLeDiff, Int.reduceNeg, Int.reduceAdd, Int.reduceSub, Int.reduceMul, UInt8.reduceToNat, hd, h1, h2, hsq]))
      exact ⟨lv, ds, fl, h, Went.refl _ _⟩
end
end Go.Proofs.Ytickckpndpeppaa
