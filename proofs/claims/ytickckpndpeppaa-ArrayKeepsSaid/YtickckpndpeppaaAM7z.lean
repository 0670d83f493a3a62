/- Arrays of disks: made anew, copied. -/
import Derived.Test.YtickckpndpeppaaAM6z
namespace Go.Proofs.Ytickckpndpeppaa
open Go Go.Abs Go.Abs.GF
set_option linter.unusedVariables false
set_option linter.unusedSimpArgs false
set_option maxHeartbeats 4000000
attribute [local irreducible] ASpec AWp WP AOps DOps

abbrev AVs := List AV
/-- An array that is being made, out of a memory. -/
structure Bld (H0 H : AH) (P : Nat) (n : Nat) (fv : AV) (fly : List Fl) (dv : AV) (dvs : List AV) (ds : List (Option (List (List UInt8)))) (fu : Nat) (off : Bool) : Prop where
  hd : H.cells? P = some [.int .i64 n, dv, fv, .int .i64 fu, .bool off]
  acc : Acc 1 H0 H dv ds.length dvs
  each : ∀ d, d < ds.length → IsDisk H n (dvs.getD d .unk) (ds.getD d none)
  fl : IsFly H fv fly
  nd : (P :: (blkOf dv ++ (blkOf fv ++ dvs.flatMap blkOf))).Nodup
  new : ∀ i ∈ P :: (blkOf dv ++ (blkOf fv ++ dvs.flatMap blkOf)), H0.n ≤ i ∧ i < H.n
theorem Bld.len {H0 H : AH} {P n fu : Nat} {fv dv : AV} {fly : List Fl} {dvs : List AV} {ds : List (Option (List (List UInt8)))} {off : Bool} (b : Bld H0 H P n fv fly dv dvs ds fu off) : dvs.length = ds.length := by have := b.acc.len; omega
theorem mem_getD {α : Type} {l : List α} {x y : α} : y ∈ l ↔ ∃ d, d < l.length ∧ l.getD d x = y := by
  constructor
  · intro h
    obtain ⟨i, hi, rfl⟩ := List.mem_iff_getElem.1 h
    exact ⟨i, hi, by simp [List.getD, hi]⟩
  · rintro ⟨i, hi, rfl⟩
    rw [show l.getD i x = l[i] by simp [List.getD, hi]]; exact List.getElem_mem hi
theorem getD_add {α : Type} {l : List α} {x y : α} {d : Nat} (h : d < (l ++ [x]).length) : (l ++ [x]).getD d y = if d < l.length then l.getD d y else x := by
  simp only [List.length_append, List.length_cons, List.length_nil, Nat.zero_add] at h
  by_cases hd : d < l.length
  · rw [if_pos hd]; simp [List.getD, List.getElem?_append_left hd]
  · obtain rfl : d = l.length := by omega
    rw [if_neg hd]; simp [List.getD]
theorem Bld.add {H0 H M : AH} {P n fu : Nat} {fv dv : AV} {fly : List Fl} {dvs : List AV} {ds : List (Option (List (List UInt8)))} {off : Bool} (b : Bld H0 H P n fv fly dv dvs ds fu off) (g : Grew H M) {w : AV} {o : Option (List (List UInt8))} (hw : IsDisk M n w o) (hb : ∀ i ∈ blkOf w, H.n ≤ i ∧ i < M.n) (hn : (blkOf w).Nodup) (hk : ds.length < 255) :
    ∃ H', appendTo 1 24 M 1 [w] dv = some (.slice ⟨false, M.n, 0⟩ (ds.length + 1) (.grow 1), H') ∧ H'.cells? P = some [.int .i64 n, dv, fv, .int .i64 fu, .bool off] ∧ P < H'.n ∧ Chg (blkOf dv) M H' ∧
      Bld H0 (H'.set P (some (.cells [.int .i64 n, .slice ⟨false, M.n, 0⟩ (ds.length + 1) (.grow 1), fv, .int .i64 fu, .bool off]))) P n fv fly (.slice ⟨false, M.n, 0⟩ (ds.length + 1) (.grow 1)) (dvs ++ [w]) (ds ++ [o]) fu off := by
  obtain ⟨H', a1, a2, a3, a4⟩ := (b.acc.grew g).app' (by' := 24) (k := 1) (news := [w]) rfl (by omega) (by omega)
  have hl := b.len
  have nd := b.nd
  have hlt := fun i hi => (b.new i hi).2
  simp only [List.nodup_cons, List.mem_append, not_or, List.nodup_append, List.mem_flatMap] at nd
  obtain ⟨⟨n1, n2, n3⟩, n4, ⟨n5, n6, n7⟩, n8⟩ := nd
  have hPn : P < H.n := hlt P (by simp)
  have hPM := g.cells_some b.hd
  have hP := a4.cells n1 hPM
  have gn := g.n
  refine ⟨H', a1, hP, cells_lt hP, a4, ?_⟩
  generalize hX : [AV.int .i64 n, .slice ⟨false, M.n, 0⟩ (ds.length + 1) (.grow 1), fv, .int .i64 fu, .bool off] = X
  have k := Chg.set H' P (some (.cells X)) (S := [P]) (by simp)
  have dvn : ∀ i ∈ blkOf dv, i < H.n := fun i hi => hlt i (by simp [hi])
  have pP : H0.n ≤ P := (b.new P (by simp)).1
  refine ⟨?_, ?_, ?_, ?_, ?_, ?_⟩
  · rw [← hX]; exact set_cells _ _ (cells_lt hP)
  · rw [List.length_append]
    refine ⟨a2.g.set pP _, a2.len, ?_⟩
    rcases a2.is with ⟨h1, _⟩ | ⟨B, h1, h2, h3⟩
    · cases h1
    · injection h1 with h1; injection h1 with _ h1; subst h1
      exact .inr ⟨M.n, rfl, h2, k.cells (by simp; omega) h3⟩
  · intro d hd
    rw [getD_add hd, getD_add (by rw [List.length_append] at hd ⊢; rw [hl]; exact hd), hl]
    split
    · rename_i hdl
      have hwm : dvs.getD d .unk ∈ dvs := mem_getD.2 ⟨d, by omega, rfl⟩
      refine (((b.each d hdl).chg (g.chg []) (by simp)).chg a4 fun i hi hm => n8 i hm i (.inr ⟨_, hwm, hi⟩) rfl).chg k fun i hi => ?_
      simp; rintro rfl; exact n3 ⟨_, hwm, hi⟩
    · exact (hw.chg a4 fun i hi hm => by have := hb i hi; have := dvn i hm; omega).chg k fun i hi => by simp; rintro rfl; have := hb _ hi; omega
  · exact (((b.fl.chg (g.chg []) (by simp)).chg a4 fun i hi hm => n8 i hm i (.inl hi) rfl)).chg k fun i hi => by simp; rintro rfl; exact n2 hi
  · have hnew : ∀ i, i ∈ blkOf fv ∨ (∃ a, a ∈ dvs ∧ i ∈ blkOf a) → i < H.n := fun i hi => by
      refine hlt i ?_
      simp only [List.mem_cons, List.mem_append, List.mem_flatMap]
      rcases hi with h1 | h1
      · exact .inr (.inr (.inl h1))
      · exact .inr (.inr (.inr h1))
    simp only [List.nodup_cons, List.mem_append, not_or, List.nodup_append, List.mem_flatMap, blkOf, List.flatMap_append, List.flatMap_cons, List.flatMap_nil, List.append_nil, List.mem_cons, List.not_mem_nil, or_false]
    refine ⟨⟨by omega, n2, fun h => n3 h, fun h => by have := hb P h; omega⟩, ⟨by simp, List.nodup_nil⟩, ⟨n5, ⟨n6, hn, ?_⟩, ?_⟩, ?_⟩
    · rintro i hi j hj rfl; have := hnew i (.inr hi); have := hb i hj; omega
    · rintro i hi j (hj | hj) rfl
      · exact n7 i hi i hj rfl
      · have := hnew i (.inl hi); have := hb i hj; omega
    · rintro i rfl j (hj | hj | hj) rfl
      · have := hnew _ (.inl hj); omega
      · have := hnew _ (.inr hj); omega
      · have := hb _ hj; omega
  · intro i hi
    rw [set_n]
    have h3 : H'.n = M.n + 1 := a3
    have h0 := b.acc.g.n
    simp only [List.mem_cons, List.mem_append, List.mem_flatMap, blkOf, List.flatMap_append, List.flatMap_cons, List.flatMap_nil, List.append_nil, List.not_mem_nil, or_false] at hi
    rcases hi with rfl | rfl | hi | hi | hi
    · exact ⟨pP, by omega⟩
    · omega
    · have hi : i ∈ blkOf fv := hi
      have := b.new i (by simp [hi]); omega
    · have := b.new i (by simp only [List.mem_cons, List.mem_append, List.mem_flatMap]; exact .inr (.inr (.inr hi))); omega
    · have := hb i hi; omega
theorem Bld.also {H0 K : AH} {P n fu : Nat} {fv dv : AV} {fly : List Fl} {dvs : List AV} {ds : List (Option (List (List UInt8)))} {off : Bool} {X : Nat → Prop} (b : Bld H0 K P n fv fly dv dvs ds fu off) (g : ∀ i, X i → H0.wr i ∨ H0.n ≤ i) : Bld H0 (K.also X) P n fv fly dv dvs ds fu off :=
  ⟨b.hd, ⟨⟨b.acc.g.ro, b.acc.g.n, b.acc.g.old, fun i hi => hi.elim (b.acc.g.wr i) (g i)⟩, b.acc.len, b.acc.is⟩, fun d hd => (b.each d hd).also, b.fl, b.nd, b.new⟩
theorem Bld.clr {H0 H : AH} {P n fu : Nat} {fv dv : AV} {fly : List Fl} {dvs : List AV} {ds : List (Option (List (List UInt8)))} {off : Bool} (b : Bld H0 H P n fv fly dv dvs ds fu off) : Bld H0 H.clr P n fv fly dv dvs ds fu off :=
  ⟨b.hd, ⟨⟨b.acc.g.ro, b.acc.g.n, b.acc.g.old, fun i hi => hi.elim⟩, b.acc.len, b.acc.is⟩, fun d hd => (b.each d hd).clr, b.fl, b.nd, b.new⟩
theorem Bld.arr {H0 H : AH} {P n fu : Nat} {fv dv : AV} {fly : List Fl} {dvs : List AV} {ds : List (Option (List (List UInt8)))} {off : Bool} (b : Bld H0 H P n fv fly dv dvs ds fu off) (hn : 0 < n ∧ n ≤ 4096) (hd : 0 < ds.length ∧ ds.length ≤ 255) (hf : fu < 9223372036854775808)
    (hw : ∀ f ∈ fly, f.disk < ds.length ∧ f.pos < n ∧ f.data.length = 64) : ∃ D, IsArr H P D fv dvs ⟨n, ds, fly, fu, off⟩ ∧ ∀ i ∈ ownB P D fv dvs, H0.n ≤ i := by
  rcases b.acc.is with ⟨_, h1⟩ | ⟨D, rfl, h2, h3⟩
  · omega
  have nd := b.nd
  simp only [List.nodup_cons, List.mem_append, not_or, List.nodup_append, List.mem_flatMap] at nd
  obtain ⟨⟨n1, n2, n3⟩, n4, ⟨n5, n6, n7⟩, n8⟩ := nd
  have hl := b.len
  have hm : ∀ d, d < ds.length → dvs.getD d .unk ∈ dvs := fun d hd => mem_getD.2 ⟨d, by omega, rfl⟩
  refine ⟨D, ⟨b.hd, h3, hl, b.each, b.fl, hw, hn, hd, hf, by simpa [blkOf] using n1, n2, fun h => n8 D (by simp [blkOf]) D (.inl h) rfl, fun d hd h => n3 ⟨_, hm d hd, h⟩, fun d hd h => n8 D (by simp [blkOf]) D (.inr ⟨_, hm d hd, h⟩) rfl, fun d hd i hi h => n7 i hi i ⟨_, hm d hd, h⟩ rfl, ?_⟩, ?_⟩
  · intro d e hd he hne i hi hj
    simp only at hd he
    rw [List.nodup_iff_pairwise_ne, List.pairwise_flatMap] at n6
    obtain ⟨_, n6⟩ := n6
    have key := List.pairwise_iff_getElem.1 n6
    rw [show dvs.getD d .unk = dvs[d]'(by omega) by simp [List.getD, show d < dvs.length by omega]] at hi
    rw [show dvs.getD e .unk = dvs[e]'(by omega) by simp [List.getD, show e < dvs.length by omega]] at hj
    by_cases h : d < e
    · exact key d e (by omega) (by omega) h i hi i hj rfl
    · exact key e d (by omega) (by omega) (by omega) i hj i hi rfl
  · intro i hi
    refine (b.new i ?_).1
    simp only [ownB, List.mem_cons, List.mem_append] at hi
    simp only [blkOf, List.mem_cons, List.mem_append, List.not_mem_nil, or_false]
    rcases hi with h | h | h | h
    · exact .inl h
    · exact .inr (.inl h)
    · exact .inr (.inr (.inl h))
    · exact .inr (.inr (.inr h))
set_option maxRecDepth 100000 in
theorem new_spec (H : AH) (disks count : Int) : ASpec Try.prog 10 [.int .i64 disks, .int .i64 count] H fun r H' =>
    (¬ (1 ≤ disks ∧ disks ≤ 255 ∧ 1 ≤ count ∧ count ≤ 4096) ∧ r = .tup [.nilptr, .int .i64 1] ∧ H' = H) ∨
    ((1 ≤ disks ∧ disks ≤ 255 ∧ 1 ≤ count ∧ count ≤ 4096) ∧ ∃ P D dvs, r = .tup [.ptr ⟨false, P, 0⟩, .int .i64 0] ∧ IsArr H' P D .nilslice dvs (newArr disks.toNat count.toNat) ∧ Grew H H' ∧ ∀ i ∈ ownB P D .nilslice dvs, H.n ≤ i) := by
  by_cases hm : 1 ≤ disks ∧ disks ≤ 255 ∧ 1 ≤ count ∧ count ≤ 4096
  · obtain ⟨m1, m2, m3, m4⟩ := id hm
    obtain ⟨n, rfl⟩ := Int.eq_ofNat_of_zero_le (show 0 ≤ count by omega)
    obtain ⟨k, rfl⟩ := Int.eq_ofNat_of_zero_le (show 0 ≤ disks by omega)
    have e1 : ¬ ((k : Int) < 1) := by omega
    have e2 : ¬ ((k : Int) > 255) := by omega
    have e3 : ¬ ((n : Int) < 1) := by omega
    have e4 : ¬ ((n : Int) > 4096) := by omega
    refine aspec_fn (rs := [.tmp 4, .tmp 5]) (n := 40) Try.func10 rfl rfl rfl rfl (by kernel_rfl) (Nat.le_of_ble_eq_true rfl) ?_
    (try simp (maxSteps := 4000000) (disch := first | omega | (simp only [push_n, set_n, clr_n, also_n, List.length_replicate, List.length_set, List.length_map, List.length_append, List.length_take, List.length_drop, List.length_cons, List.length_nil]; first | done | omega) | (with_reducible decide)) only [go_sem, Int.reduceEq, Int.reduceNe, Int.reduceLT, Int.reduceLE, Nat.reduceEqDiff, Int.reduceToNat, Nat.reduceSub, Nat.reduceAdd, Nat.reduceMul, Nat.reduceLT, Nat.reduceLeDiff, Int.reduceNeg, Int.reduceAdd, Int.reduceSub, Int.reduceMul, UInt8.reduceToNat, e1, e2, e3, e4]; repeat first | ((first | with_reducible refine split2_pk (by omega) ?_ | with_reducible refine split2_nk (by omega) ?_); intro hsq; try simp (maxSteps := 4000000) (disch := first | omega | (simp only [push_n, set_n, clr_n, also_n, List.length_replicate, List.length_set, List.length_map, List.length_append, List.length_take, List.length_drop, List.length_cons, List.length_nil]; first | done | omega) | (with_reducible decide)) only [go_sem, Int.reduceEq, Int.reduceNe, Int.reduceLT, Int.reduceLE, Nat.reduceEqDiff, Int.reduceToNat, Nat.reduceSub, Nat.reduceAdd, Nat.reduceMul, Nat.reduceLT, Nat.reduceLeDiff, Int.reduceNeg, Int.reduceAdd, Int.reduceSub, Int.reduceMul, UInt8.reduceToNat, e1, e2, e3, e4, hsq]))
    refine wp_loopS (σ := Nat × AV × AVs) (by kernel_rfl) (fun (i, dv, dvs) => [(1, .int .i64 (n : Nat)), (6, .ptr ⟨false, H.n, 0⟩), (24, .int .i64 (k : Nat)), (25, .int .i64 (i : Nat))]) (fun (i, dv, dvs) H' => i ≤ k ∧ Bld H H' H.n n .nilslice [] dv dvs (List.replicate i (some (blankS n))) 0 false) (fun (i, dv, dvs) => k - i) (0, .nilslice, []) (by simp (maxSteps := 4000000) (disch := first | omega | (simp only [push_n, set_n, clr_n, also_n, List.length_replicate, List.length_set, List.length_map, List.length_append, List.length_take, List.length_drop, List.length_cons, List.length_nil]; first | done | omega) | (with_reducible decide)) only [go_sem, Int.reduceEq, Int.reduceNe, Int.reduceLT, Int.reduceLE, Nat.reduceEqDiff, Int.reduceToNat, Nat.reduceSub, Nat.reduceAdd, Nat.reduceMul, Nat.reduceLT, Nat.reduceLeDiff, Int.reduceNeg, Int.reduceAdd, Int.reduceSub, Int.reduceMul, UInt8.reduceToNat]) ?_ ?_
    · refine ⟨by omega, push_cells _ _, Acc.nil (Grew.push _ _), by simp, .inl ⟨rfl, rfl⟩, by simp [blkOf], ?_⟩
      simp [blkOf, push_n]
    · rintro ⟨i, dv, dvs⟩ H1 ⟨hi, b⟩
      by_cases hik : i < k
      · have hP1 := b.hd
        have g2 := (Grew.push H1 (some (.cells (secC (blankS n))))).trans (Grew.push _ (some (.cells [.slice ⟨false, H1.n, 0⟩ n (.known n)])))
        obtain ⟨H2, a1, a2, a3, a4, b2⟩ := b.add g2 (w := .slice ⟨false, H1.n, 0⟩ n (.known n)) (o := some (blankS n)) ⟨by simp [blankS], blank_sized _, H1.n, _, rfl, Nat.le_refl _, (Grew.push _ _).cells_some (push_cells _ _)⟩ (by simp [blkOf, push_n]; omega) (by simp [blkOf]) (by simp; omega)
        simp only [push_n, List.length_replicate] at a1 a4 b2
        (try simp (maxSteps := 4000000) (disch := first | omega | (simp only [push_n, set_n, clr_n, also_n, List.length_replicate, List.length_set, List.length_map, List.length_append, List.length_take, List.length_drop, List.length_cons, List.length_nil]; first | done | omega) | (with_reducible decide)) only [go_sem, Int.reduceEq, Int.reduceNe, Int.reduceLT, Int.reduceLE, Nat.reduceEqDiff, Int.reduceToNat, Nat.reduceSub, Nat.reduceAdd, Nat.reduceMul, Nat.reduceLT, Nat.reduceLeDiff, Int.reduceNeg, Int.reduceAdd, Int.reduceSub, Int.reduceMul, UInt8.reduceToNat]; repeat first | ((first | with_reducible refine split2_pk (by omega) ?_ | with_reducible refine split2_nk (by omega) ?_); intro hsq; try simp (maxSteps := 4000000) (disch := first | omega | (simp only [push_n, set_n, clr_n, also_n, List.length_replicate, List.length_set, List.length_map, List.length_append, List.length_take, List.length_drop, List.length_cons, List.length_nil]; first | done | omega) | (with_reducible decide)) only [go_sem, Int.reduceEq, Int.reduceNe, Int.reduceLT, Int.reduceLE, Nat.reduceEqDiff, Int.reduceToNat, Nat.reduceSub, Nat.reduceAdd, Nat.reduceMul, Nat.reduceLT, Nat.reduceLeDiff, Int.reduceNeg, Int.reduceAdd, Int.reduceSub, Int.reduceMul, UInt8.reduceToNat, hsq]))
        (refine awp_drawP (hl := []) [eqM H1,  eqM (H1.push (some (.cells (secC (blankS n))))),  eqM ((H1.push (some (.cells (secC (blankS n))))).push (some (.cells [.slice ⟨false, H1.n, 0⟩ n (.known n)]))),  eqM H2,  fun _ => True] [(0, some 3), (1, some 2), (2, some 2), (3, some 2), (4, some 2), (5, some 0), (6, none), (7, none), (8, none), (9, some 0), (10, some 0), (11, none)] [6, 7, 8, 11] (by kernel_rfl) (by rfl) (by decide +kernel) (rofP_0 ?_) ?_; rotate_left; (conv => arg 5; simp only [List.map_cons, List.map_nil, List.getElem?_toArray, List.getElem?_cons_zero, List.getElem?_cons_succ]); rotate_left)
        · rfl
        have hPlt := cells_lt hP1
        (try simp (maxSteps := 4000000) (disch := first | omega | (simp only [push_n, set_n, clr_n, also_n, List.length_replicate, List.length_set, List.length_map, List.length_append, List.length_take, List.length_drop, List.length_cons, List.length_nil]; first | done | omega) | (with_reducible decide)) only [go_sem, Int.reduceEq, Int.reduceNe, Int.reduceLT, Int.reduceLE, Nat.reduceEqDiff, Int.reduceToNat, Nat.reduceSub, Nat.reduceAdd, Nat.reduceMul, Nat.reduceLT, Nat.reduceLeDiff, Int.reduceNeg, Int.reduceAdd, Int.reduceSub, Int.reduceMul, UInt8.reduceToNat, hP1, ↓rep_blank, a1, a2]; repeat first | ((first | with_reducible refine split2_pk (by omega) ?_ | with_reducible refine split2_nk (by omega) ?_); intro hsq; try simp (maxSteps := 4000000) (disch := first | omega | (simp only [push_n, set_n, clr_n, also_n, List.length_replicate, List.length_set, List.length_map, List.length_append, List.length_take, List.length_drop, List.length_cons, List.length_nil]; first | done | omega) | (with_reducible decide)) only [go_sem, Int.reduceEq, Int.reduceNe, Int.reduceLT, Int.reduceLE, Nat.reduceEqDiff, Int.reduceToNat, Nat.reduceSub, Nat.reduceAdd, Nat.reduceMul, Nat.reduceLT, Nat.reduceLeDiff, Int.reduceNeg, Int.reduceAdd, Int.reduceSub, Int.reduceMul, UInt8.reduceToNat, hP1, ↓rep_blank, a1, a2, hsq]))
        rw [List.replicate_succ'.symm] at b2
        (refine ⟨(i + 1, .slice ⟨false, H1.n + 1 + 1, 0⟩ (i + 1) (.grow 1), dvs ++ [.slice ⟨false, H1.n, 0⟩ n (.known n)]), ?_⟩; and_intros; all_goals (try first | rfl | assumption | omega))
      · obtain rfl : i = k := by omega
        (try simp (maxSteps := 4000000) (disch := first | omega | (simp only [push_n, set_n, clr_n, also_n, List.length_replicate, List.length_set, List.length_map, List.length_append, List.length_take, List.length_drop, List.length_cons, List.length_nil]; first | done | omega) | (with_reducible decide)) only [go_sem, Int.reduceEq, Int.reduceNe, Int.reduceLT, Int.reduceLE, Nat.reduceEqDiff, Int.reduceToNat, Nat.reduceSub, Nat.reduceAdd, Nat.reduceMul, Nat.reduceLT, Nat.reduceLeDiff, Int.reduceNeg, Int.reduceAdd, Int.reduceSub, Int.reduceMul, UInt8.reduceToNat]; repeat first | ((first | with_reducible refine split2_pk (by omega) ?_ | with_reducible refine split2_nk (by omega) ?_); intro hsq; try simp (maxSteps := 4000000) (disch := first | omega | (simp only [push_n, set_n, clr_n, also_n, List.length_replicate, List.length_set, List.length_map, List.length_append, List.length_take, List.length_drop, List.length_cons, List.length_nil]; first | done | omega) | (with_reducible decide)) only [go_sem, Int.reduceEq, Int.reduceNe, Int.reduceLT, Int.reduceLE, Nat.reduceEqDiff, Int.reduceToNat, Nat.reduceSub, Nat.reduceAdd, Nat.reduceMul, Nat.reduceLT, Nat.reduceLeDiff, Int.reduceNeg, Int.reduceAdd, Int.reduceSub, Int.reduceMul, UInt8.reduceToNat, hsq]))
        obtain ⟨D, q1, q2⟩ := b.arr (by omega) (by simp; omega) (by omega) (by simp)
        exact .inr ⟨hm, H.n, D, dvs, rfl, q1, b.acc.g, q2⟩
  · have : disks < 1 ∨ (1 ≤ disks ∧ disks > 255) ∨ (1 ≤ disks ∧ disks ≤ 255 ∧ count < 1) ∨ (1 ≤ disks ∧ disks ≤ 255 ∧ 1 ≤ count ∧ count > 4096) := by omega
    rcases this with h1 | ⟨h1, h2⟩ | ⟨h1, h2, h3⟩ | ⟨h1, h2, h3, h4⟩
    · refine aspec_fn (rs := [.tmp 4, .tmp 5]) (n := 40) Try.func10 rfl rfl rfl rfl (by kernel_rfl) (Nat.le_of_ble_eq_true rfl) ?_
      (try simp (maxSteps := 4000000) (disch := first | omega | (simp only [push_n, set_n, clr_n, also_n, List.length_replicate, List.length_set, List.length_map, List.length_append, List.length_take, List.length_drop, List.length_cons, List.length_nil]; first | done | omega) | (with_reducible decide)) only [go_sem, Int.reduceEq, Int.reduceNe, Int.reduceLT, Int.reduceLE, Nat.reduceEqDiff, Int.reduceToNat, Nat.reduceSub, Nat.reduceAdd, Nat.reduceMul, Nat.reduceLT, Nat.reduceLeDiff, Int.reduceNeg, Int.reduceAdd, Int.reduceSub, Int.reduceMul, UInt8.reduceToNat, h1]; repeat first | ((first | with_reducible refine split2_pk (by omega) ?_ | with_reducible refine split2_nk (by omega) ?_); intro hsq; try simp (maxSteps := 4000000) (disch := first | omega | (simp only [push_n, set_n, clr_n, also_n, List.length_replicate, List.length_set, List.length_map, List.length_append, List.length_take, List.length_drop, List.length_cons, List.length_nil]; first | done | omega) | (with_reducible decide)) only [go_sem, Int.reduceEq, Int.reduceNe, Int.reduceLT, Int.reduceLE, Nat.reduceEqDiff, Int.reduceToNat, Nat.reduceSub, Nat.reduceAdd, Nat.reduceMul, Nat.reduceLT, Nat.reduceLeDiff, Int.reduceNeg, Int.reduceAdd, Int.reduceSub, Int.reduceMul, UInt8.reduceToNat, h1, hsq]))
      exact .inl hm
    · have h1 : ¬ disks < 1 := by omega
      refine aspec_fn (rs := [.tmp 4, .tmp 5]) (n := 40) Try.func10 rfl rfl rfl rfl (by kernel_rfl) (Nat.le_of_ble_eq_true rfl) ?_
      (try simp (maxSteps := 4000000) (disch := first | omega | (simp only [push_n, set_n, clr_n, also_n, List.length_replicate, List.length_set, List.length_map, List.length_append, List.length_take, List.length_drop, List.length_cons, List.length_nil]; first | done | omega) | (with_reducible decide)) only [go_sem, Int.reduceEq, Int.reduceNe, Int.reduceLT, Int.reduceLE, Nat.reduceEqDiff, Int.reduceToNat, Nat.reduceSub, Nat.reduceAdd, Nat.reduceMul, Nat.reduceLT, Nat.reduceLeDiff, Int.reduceNeg, Int.reduceAdd, Int.reduceSub, Int.reduceMul, UInt8.reduceToNat, h1, h2]; repeat first | ((first | with_reducible refine split2_pk (by omega) ?_ | with_reducible refine split2_nk (by omega) ?_); intro hsq; try simp (maxSteps := 4000000) (disch := first | omega | (simp only [push_n, set_n, clr_n, also_n, List.length_replicate, List.length_set, List.length_map, List.length_append, List.length_take, List.length_drop, List.length_cons, List.length_nil]; first | done | omega) | (with_reducible decide)) only [go_sem, Int.reduceEq, Int.reduceNe, Int.reduceLT, Int.reduceLE, Nat.reduceEqDiff, Int.reduceToNat, Nat.reduceSub, Nat.reduceAdd, Nat.reduceMul, Nat.reduceLT, Nat.reduceLeDiff, Int.reduceNeg, Int.reduceAdd, Int.reduceSub, Int.reduceMul, UInt8.reduceToNat, h1, h2, hsq]))
      exact .inl hm
    · have h1 : ¬ disks < 1 := by omega
      have h2 : ¬ disks > 255 := by omega
      refine aspec_fn (rs := [.tmp 4, .tmp 5]) (n := 40) Try.func10 rfl rfl rfl rfl (by kernel_rfl) (Nat.le_of_ble_eq_true rfl) ?_
      (try simp (maxSteps := 4000000) (disch := first | omega | (simp only [push_n, set_n, clr_n, also_n, List.length_replicate, List.length_set, List.length_map, List.length_append, List.length_take, List.length_drop, List.length_cons, List.length_nil]; first | done | omega) | (with_reducible decide)) only [go_sem, Int.reduceEq, Int.reduceNe, Int.reduceLT, Int.reduceLE, Nat.reduceEqDiff, Int.reduceToNat, Nat.reduceSub, Nat.reduceAdd, Nat.reduceMul, Nat.reduceLT, Nat.reduceLeDiff, Int.reduceNeg, Int.reduceAdd, Int.reduceSub, Int.reduceMul, UInt8.reduceToNat, h1, h2, h3]; repeat first | ((first | with_reducible refine split2_pk (by omega) ?_ | with_reducible refine split2_nk (by omega) ?_); intro hsq; try simp (maxSteps := 4000000) (disch := first | omega | (simp only [push_n, set_n, clr_n, also_n, List.length_replicate, List.length_set, List.length_map, List.length_append, List.length_take, List.length_drop, List.length_cons, List.length_nil]; first | done | omega) | (with_reducible decide)) only [go_sem, Int.reduceEq, Int.reduceNe, Int.reduceLT, Int.reduceLE, Nat.reduceEqDiff, Int.reduceToNat, Nat.reduceSub, Nat.reduceAdd, Nat.reduceMul, Nat.reduceLT, Nat.reduceLeDiff, Int.reduceNeg, Int.reduceAdd, Int.reduceSub, Int.reduceMul, UInt8.reduceToNat, h1, h2, h3, hsq]))
      exact .inl hm
    · have h1 : ¬ disks < 1 := by omega
      have h2 : ¬ disks > 255 := by omega
      have h3 : ¬ count < 1 := by omega
      refine aspec_fn (rs := [.tmp 4, .tmp 5]) (n := 40) Try.func10 rfl rfl rfl rfl (by kernel_rfl) (Nat.le_of_ble_eq_true rfl) ?_
      (try simp (maxSteps := 4000000) (disch := first | omega | (simp only [push_n, set_n, clr_n, also_n, List.length_replicate, List.length_set, List.length_map, List.length_append, List.length_take, List.length_drop, List.length_cons, List.length_nil]; first | done | omega) | (with_reducible decide)) only [go_sem, Int.reduceEq, Int.reduceNe, Int.reduceLT, Int.reduceLE, Nat.reduceEqDiff, Int.reduceToNat, Nat.reduceSub, Nat.reduceAdd, Nat.reduceMul, Nat.reduceLT, Nat.reduceLeDiff, Int.reduceNeg, Int.reduceAdd, Int.reduceSub, Int.reduceMul, UInt8.reduceToNat, h1, h2, h3, h4]; repeat first | ((first | with_reducible refine split2_pk (by omega) ?_ | with_reducible refine split2_nk (by omega) ?_); intro hsq; try simp (maxSteps := 4000000) (disch := first | omega | (simp only [push_n, set_n, clr_n, also_n, List.length_replicate, List.length_set, List.length_map, List.length_append, List.length_take, List.length_drop, List.length_cons, List.length_nil]; first | done | omega) | (with_reducible decide)) only [go_sem, Int.reduceEq, Int.reduceNe, Int.reduceLT, Int.reduceLE, Nat.reduceEqDiff, Int.reduceToNat, Nat.reduceSub, Nat.reduceAdd, Nat.reduceMul, Nat.reduceLT, Nat.reduceLeDiff, Int.reduceNeg, Int.reduceAdd, Int.reduceSub, Int.reduceMul, UInt8.reduceToNat, h1, h2, h3, h4, hsq]))
      exact .inl hm
section
variable {H : AH} {P D : Nat} {fv : AV} {dvs : List AV} {A : Arr}
/-- A copy of a disk. -/
theorem cloneD_spec {n : Nat} {w : AV} {o : Option (List (List UInt8))} (hn : 0 < n) (hk : n ≤ 4096) (h : IsDisk H n w o) : ASpec Try.prog 49 [w] H fun r H' => Grew H H' ∧ IsDisk H' n r o ∧ (blkOf r).Nodup ∧ ∀ i ∈ blkOf r, H.n ≤ i ∧ i < H'.n := by
  cases o with
  | none =>
    obtain rfl : w = .nilslice := h
    refine aspec_fn (rs := [.tmp 2]) (n := 8) Try.func49 rfl rfl rfl rfl (by kernel_rfl) (Nat.le_of_ble_eq_true rfl) ?_
    (try simp (maxSteps := 4000000) (disch := first | omega | (simp only [push_n, set_n, clr_n, also_n, List.length_replicate, List.length_set, List.length_map, List.length_append, List.length_take, List.length_drop, List.length_cons, List.length_nil]; first | done | omega) | (with_reducible decide)) only [go_sem, Int.reduceEq, Int.reduceNe, Int.reduceLT, Int.reduceLE, Nat.reduceEqDiff, Int.reduceToNat, Nat.reduceSub, Nat.reduceAdd, Nat.reduceMul, Nat.reduceLT, Nat.reduceLeDiff, Int.reduceNeg, Int.reduceAdd, Int.reduceSub, Int.reduceMul, UInt8.reduceToNat]; repeat first | ((first | with_reducible refine split2_pk (by omega) ?_ | with_reducible refine split2_nk (by omega) ?_); intro hsq; try simp (maxSteps := 4000000) (disch := first | omega | (simp only [push_n, set_n, clr_n, also_n, List.length_replicate, List.length_set, List.length_map, List.length_append, List.length_take, List.length_drop, List.length_cons, List.length_nil]; first | done | omega) | (with_reducible decide)) only [go_sem, Int.reduceEq, Int.reduceNe, Int.reduceLT, Int.reduceLE, Nat.reduceEqDiff, Int.reduceToNat, Nat.reduceSub, Nat.reduceAdd, Nat.reduceMul, Nat.reduceLT, Nat.reduceLeDiff, Int.reduceNeg, Int.reduceAdd, Int.reduceSub, Int.reduceMul, UInt8.reduceToNat, hsq]))
    exact ⟨Grew.refl _, rfl, by simp [blkOf], by simp [blkOf]⟩
  | some ss =>
    obtain ⟨h1, h2, B, c, rfl, h3, h4⟩ := h
    have hs : sureSlice n c = true := by cases c; rfl; simp [sureSlice]; exact hn
    have hl := secC_len h2
    have hone : (secC ss).all oneA = true := flat_one fun s _ => all_one_bv s
    have hnews : newsA H 64 (.slice ⟨false, B, 0⟩ n c) = some (n, secC ss) := by
      simp only [newsA, row_whole (n := n) (sz := 64) h4 (by rw [hl, h1]) c, Option.map_some]
    have hnews2 := fun {X : Option ABlk} => show newsA (H.push X) 64 (.slice ⟨false, B, 0⟩ n c) = some (n, secC ss) by
      simp only [newsA, row_whole (n := n) (sz := 64) ((Grew.push H X).cells_some h4) (by rw [hl, h1]) c, Option.map_some]
    refine aspec_fn (rs := [.tmp 2]) (n := 8) Try.func49 rfl rfl rfl rfl (by kernel_rfl) (Nat.le_of_ble_eq_true rfl) ?_
    (try simp (maxSteps := 4000000) (disch := first | omega | (simp only [push_n, set_n, clr_n, also_n, List.length_replicate, List.length_set, List.length_map, List.length_append, List.length_take, List.length_drop, List.length_cons, List.length_nil]; first | done | omega) | (with_reducible decide)) only [go_sem, Int.reduceEq, Int.reduceNe, Int.reduceLT, Int.reduceLE, Nat.reduceEqDiff, Int.reduceToNat, Nat.reduceSub, Nat.reduceAdd, Nat.reduceMul, Nat.reduceLT, Nat.reduceLeDiff, Int.reduceNeg, Int.reduceAdd, Int.reduceSub, Int.reduceMul, UInt8.reduceToNat, hs, hnews2, hone]; repeat first | ((first | with_reducible refine split2_pk (by omega) ?_ | with_reducible refine split2_nk (by omega) ?_); intro hsq; try simp (maxSteps := 4000000) (disch := first | omega | (simp only [push_n, set_n, clr_n, also_n, List.length_replicate, List.length_set, List.length_map, List.length_append, List.length_take, List.length_drop, List.length_cons, List.length_nil]; first | done | omega) | (with_reducible decide)) only [go_sem, Int.reduceEq, Int.reduceNe, Int.reduceLT, Int.reduceLE, Nat.reduceEqDiff, Int.reduceToNat, Nat.reduceSub, Nat.reduceAdd, Nat.reduceMul, Nat.reduceLT, Nat.reduceLeDiff, Int.reduceNeg, Int.reduceAdd, Int.reduceSub, Int.reduceMul, UInt8.reduceToNat, hs, hnews2, hone, hsq]))
    refine ⟨(Grew.push _ _).trans (Grew.push _ _), ⟨h1, h2, H.n + 1, .grow 64, rfl, rfl, push_cells_at (by rw [push_n])⟩, by simp [blkOf], ?_⟩
    simp [blkOf]
theorem cloneF_spec {l : List Fl} (hn : l.length < 1000000) (h : IsFly H fv l) (hl : ∀ f ∈ l, f.data.length = 64) : ASpec Try.prog 48 [fv] H fun r H' => Grew H H' ∧ IsFly H' r l ∧ (blkOf r).Nodup ∧ ∀ i ∈ blkOf r, H.n ≤ i ∧ i < H'.n := by
  rcases h with ⟨rfl, rfl⟩ | ⟨B, cs, rfl, h1, h2, h3⟩
  · refine aspec_fn (rs := [.tmp 2]) (n := 8) Try.func48 rfl rfl rfl rfl (by kernel_rfl) (Nat.le_of_ble_eq_true rfl) ?_
    (try simp (maxSteps := 4000000) (disch := first | omega | (simp only [push_n, set_n, clr_n, also_n, List.length_replicate, List.length_set, List.length_map, List.length_append, List.length_take, List.length_drop, List.length_cons, List.length_nil]; first | done | omega) | (with_reducible decide)) only [go_sem, Int.reduceEq, Int.reduceNe, Int.reduceLT, Int.reduceLE, Nat.reduceEqDiff, Int.reduceToNat, Nat.reduceSub, Nat.reduceAdd, Nat.reduceMul, Nat.reduceLT, Nat.reduceLeDiff, Int.reduceNeg, Int.reduceAdd, Int.reduceSub, Int.reduceMul, UInt8.reduceToNat]; repeat first | ((first | with_reducible refine split2_pk (by omega) ?_ | with_reducible refine split2_nk (by omega) ?_); intro hsq; try simp (maxSteps := 4000000) (disch := first | omega | (simp only [push_n, set_n, clr_n, also_n, List.length_replicate, List.length_set, List.length_map, List.length_append, List.length_take, List.length_drop, List.length_cons, List.length_nil]; first | done | omega) | (with_reducible decide)) only [go_sem, Int.reduceEq, Int.reduceNe, Int.reduceLT, Int.reduceLE, Nat.reduceEqDiff, Int.reduceToNat, Nat.reduceSub, Nat.reduceAdd, Nat.reduceMul, Nat.reduceLT, Nat.reduceLeDiff, Int.reduceNeg, Int.reduceAdd, Int.reduceSub, Int.reduceMul, UInt8.reduceToNat, hsq]))
    exact ⟨Grew.refl _, .inl ⟨rfl, rfl⟩, by simp [blkOf], by simp [blkOf]⟩
  · cases l with
    | nil =>
      refine aspec_nil (pre := []) (post := []) (sz := 66) ?_ ?_ ?_
      · refine ⟨?_, rfl, rfl⟩
        simp only [rowA, get_rw, h1, Option.bind_some, List.length_nil, Nat.zero_mul]
        simp
      · refine aspec_fn (rs := [.tmp 2]) (n := 8) Try.func48 rfl rfl rfl rfl (by kernel_rfl) (Nat.le_of_ble_eq_true rfl) ?_
        (try simp (maxSteps := 4000000) (disch := first | omega | (simp only [push_n, set_n, clr_n, also_n, List.length_replicate, List.length_set, List.length_map, List.length_append, List.length_take, List.length_drop, List.length_cons, List.length_nil]; first | done | omega) | (with_reducible decide)) only [go_sem, Int.reduceEq, Int.reduceNe, Int.reduceLT, Int.reduceLE, Nat.reduceEqDiff, Int.reduceToNat, Nat.reduceSub, Nat.reduceAdd, Nat.reduceMul, Nat.reduceLT, Nat.reduceLeDiff, Int.reduceNeg, Int.reduceAdd, Int.reduceSub, Int.reduceMul, UInt8.reduceToNat]; repeat first | ((first | with_reducible refine split2_pk (by omega) ?_ | with_reducible refine split2_nk (by omega) ?_); intro hsq; try simp (maxSteps := 4000000) (disch := first | omega | (simp only [push_n, set_n, clr_n, also_n, List.length_replicate, List.length_set, List.length_map, List.length_append, List.length_take, List.length_drop, List.length_cons, List.length_nil]; first | done | omega) | (with_reducible decide)) only [go_sem, Int.reduceEq, Int.reduceNe, Int.reduceLT, Int.reduceLE, Nat.reduceEqDiff, Int.reduceToNat, Nat.reduceSub, Nat.reduceAdd, Nat.reduceMul, Nat.reduceLT, Nat.reduceLeDiff, Int.reduceNeg, Int.reduceAdd, Int.reduceSub, Int.reduceMul, UInt8.reduceToNat, hsq]))
        exact ⟨Grew.refl _, .inl ⟨rfl, rfl⟩, by simp [blkOf], by simp [blkOf]⟩
      · intro a c hr
        have hnews : ∀ {X : Option ABlk}, newsA (H.push X) 66 (.slice a 0 (.known c)) = some (0, []) := fun {X} => by
          simp only [newsA, (hr.grew (Grew.push H X)).row, Option.map_some]
        refine aspec_fn (rs := [.tmp 2]) (n := 8) Try.func48 rfl rfl rfl rfl (by kernel_rfl) (Nat.le_of_ble_eq_true rfl) ?_
        (try simp (maxSteps := 4000000) (disch := first | omega | (simp only [push_n, set_n, clr_n, also_n, List.length_replicate, List.length_set, List.length_map, List.length_append, List.length_take, List.length_drop, List.length_cons, List.length_nil]; first | done | omega) | (with_reducible decide)) only [go_sem, Int.reduceEq, Int.reduceNe, Int.reduceLT, Int.reduceLE, Nat.reduceEqDiff, Int.reduceToNat, Nat.reduceSub, Nat.reduceAdd, Nat.reduceMul, Nat.reduceLT, Nat.reduceLeDiff, Int.reduceNeg, Int.reduceAdd, Int.reduceSub, Int.reduceMul, UInt8.reduceToNat, hnews]; repeat first | ((first | with_reducible refine split2_pk (by omega) ?_ | with_reducible refine split2_nk (by omega) ?_); intro hsq; try simp (maxSteps := 4000000) (disch := first | omega | (simp only [push_n, set_n, clr_n, also_n, List.length_replicate, List.length_set, List.length_map, List.length_append, List.length_take, List.length_drop, List.length_cons, List.length_nil]; first | done | omega) | (with_reducible decide)) only [go_sem, Int.reduceEq, Int.reduceNe, Int.reduceLT, Int.reduceLE, Nat.reduceEqDiff, Int.reduceToNat, Nat.reduceSub, Nat.reduceAdd, Nat.reduceMul, Nat.reduceLT, Nat.reduceLeDiff, Int.reduceNeg, Int.reduceAdd, Int.reduceSub, Int.reduceMul, UInt8.reduceToNat, hnews, hsq]))
        refine ⟨(Grew.push _ _).trans (Grew.push _ _), .inr ⟨H.n + 1, [], rfl, push_cells_at (by rw [push_n]), by simp, rfl⟩, by simp [blkOf], ?_⟩
        simp [blkOf]
    | cons f l =>
      have hs : sureSlice (f :: l).length (.grow 66) = true := by simp [sureSlice]
      have hfl : (flC (f :: l)).length = (f :: l).length * 66 := flat_len fun f hf => fl1_len (hl f hf)
      have hone : (flC (f :: l)).all oneA = true := flat_one fun f _ => fl1_one f
      have hnews2 : ∀ {X : Option ABlk}, newsA (H.push X) 66 (.slice ⟨false, B, 0⟩ (f :: l).length (.grow 66)) = some ((f :: l).length, flC (f :: l)) := fun {X} => by
        simp only [newsA, rowA, get_rw, (Grew.push H X).cells_some h1, Option.bind_some]
        rw [if_pos (.inl (by omega))]
        simp only [Option.map_some, List.drop_zero, h3]
      generalize f :: l = l at *
      refine aspec_fn (rs := [.tmp 2]) (n := 8) Try.func48 rfl rfl rfl rfl (by kernel_rfl) (Nat.le_of_ble_eq_true rfl) ?_
      (try simp (maxSteps := 4000000) (disch := first | omega | (simp only [push_n, set_n, clr_n, also_n, List.length_replicate, List.length_set, List.length_map, List.length_append, List.length_take, List.length_drop, List.length_cons, List.length_nil]; first | done | omega) | (with_reducible decide)) only [go_sem, Int.reduceEq, Int.reduceNe, Int.reduceLT, Int.reduceLE, Nat.reduceEqDiff, Int.reduceToNat, Nat.reduceSub, Nat.reduceAdd, Nat.reduceMul, Nat.reduceLT, Nat.reduceLeDiff, Int.reduceNeg, Int.reduceAdd, Int.reduceSub, Int.reduceMul, UInt8.reduceToNat, hs, hnews2, hone]; repeat first | ((first | with_reducible refine split2_pk (by omega) ?_ | with_reducible refine split2_nk (by omega) ?_); intro hsq; try simp (maxSteps := 4000000) (disch := first | omega | (simp only [push_n, set_n, clr_n, also_n, List.length_replicate, List.length_set, List.length_map, List.length_append, List.length_take, List.length_drop, List.length_cons, List.length_nil]; first | done | omega) | (with_reducible decide)) only [go_sem, Int.reduceEq, Int.reduceNe, Int.reduceLT, Int.reduceLE, Nat.reduceEqDiff, Int.reduceToNat, Nat.reduceSub, Nat.reduceAdd, Nat.reduceMul, Nat.reduceLT, Nat.reduceLeDiff, Int.reduceNeg, Int.reduceAdd, Int.reduceSub, Int.reduceMul, UInt8.reduceToNat, hs, hnews2, hone, hsq]))
      refine ⟨(Grew.push _ _).trans (Grew.push _ _), .inr ⟨H.n + 1, flC l, rfl, push_cells_at (by rw [push_n]), by rw [hfl]; exact Nat.le_refl _, List.take_of_length_le (by rw [hfl]; exact Nat.le_refl _)⟩, by simp [blkOf], ?_⟩
      simp [blkOf]
set_option maxRecDepth 100000 in
theorem copy_spec (h : IsArr H P D fv dvs A) (hn : A.fly.length < 1000000) : ASpec Try.prog 36 [.ptr ⟨false, P, 0⟩] H fun r H' => ∃ P' D' fv' dvs', r = .ptr ⟨false, P', 0⟩ ∧ IsArr H' P' D' fv' dvs' A ∧ Grew H H' ∧ ∀ i ∈ ownB P' D' fv' dvs', H.n ≤ i := by
  have hd := h.hd
  have ds := h.ds
  have hl := h.len
  have hw : ∀ f ∈ A.fly, f.data.length = 64 := fun f hf => (h.wf f hf).2.2
  have hdn := h.dn
  have hone : oneA fv = true := by rcases h.fl with ⟨rfl, _⟩ | ⟨_, _, rfl, _⟩ <;> rfl
  have hPn := cells_lt hd
  refine aspec_fn (rs := [.tmp 2]) (n := 35) Try.func36 rfl rfl rfl rfl (by kernel_rfl) (Nat.le_of_ble_eq_true rfl) ?_
  (try simp (maxSteps := 4000000) (disch := first | omega | (simp only [push_n, set_n, clr_n, also_n, List.length_replicate, List.length_set, List.length_map, List.length_append, List.length_take, List.length_drop, List.length_cons, List.length_nil]; first | done | omega) | (with_reducible decide)) only [go_sem, Int.reduceEq, Int.reduceNe, Int.reduceLT, Int.reduceLE, Nat.reduceEqDiff, Int.reduceToNat, Nat.reduceSub, Nat.reduceAdd, Nat.reduceMul, Nat.reduceLT, Nat.reduceLeDiff, Int.reduceNeg, Int.reduceAdd, Int.reduceSub, Int.reduceMul, UInt8.reduceToNat, hd, ↓hone, gdb_true, putL_all]; repeat first | ((first | with_reducible refine split2_pk (by omega) ?_ | with_reducible refine split2_nk (by omega) ?_); intro hsq; try simp (maxSteps := 4000000) (disch := first | omega | (simp only [push_n, set_n, clr_n, also_n, List.length_replicate, List.length_set, List.length_map, List.length_append, List.length_take, List.length_drop, List.length_cons, List.length_nil]; first | done | omega) | (with_reducible decide)) only [go_sem, Int.reduceEq, Int.reduceNe, Int.reduceLT, Int.reduceLE, Nat.reduceEqDiff, Int.reduceToNat, Nat.reduceSub, Nat.reduceAdd, Nat.reduceMul, Nat.reduceLT, Nat.reduceLeDiff, Int.reduceNeg, Int.reduceAdd, Int.reduceSub, Int.reduceMul, UInt8.reduceToNat, hd, ↓hone, gdb_true, putL_all, hsq]))
  have g0 := Grew.push H (some (.cells [.int .i64 A.count, .slice ⟨false, D, 0⟩ A.disks.length (.grow 1), fv, .int .i64 A.fuse, .bool A.off]))
  have hX := push_cells H [.int .i64 A.count, .slice ⟨false, D, 0⟩ A.disks.length (.grow 1), fv, .int .i64 A.fuse, .bool A.off]
  refine (cloneF_spec (H := H.push (some (.cells [.int .i64 A.count, .slice ⟨false, D, 0⟩ A.disks.length (.grow 1), fv, .int .i64 A.fuse, .bool A.off]))) hn (h.grew g0).fl hw).mono ?_
  rintro fv' H2 ⟨g1, hf2, hn2, hb2⟩
  have g2 := g0.trans g1
  have hX2 := g1.cells_some hX
  have hXn := cells_lt hX2
  have hst : ∀ {H3 : AH} {i o : Nat}, storeA Try.prog 62 ⟨false, i, o⟩ fv' H3 = (H3.cells? i).bind fun l => gd (o < l.length) (some (H3.set i (some (.cells (l.set o fv'))))) := by
    intro H3 i o
    rcases hf2 with ⟨rfl, _⟩ | ⟨_, _, rfl, _⟩
    · exact st62_1
    · exact st62_0
  have hd2 := g2.cells_some hd
  simp only [push_n] at hb2
  (try simp (maxSteps := 4000000) (disch := first | omega | (simp only [push_n, set_n, clr_n, also_n, List.length_replicate, List.length_set, List.length_map, List.length_append, List.length_take, List.length_drop, List.length_cons, List.length_nil]; first | done | omega) | (with_reducible decide)) only [go_sem, Int.reduceEq, Int.reduceNe, Int.reduceLT, Int.reduceLE, Nat.reduceEqDiff, Int.reduceToNat, Nat.reduceSub, Nat.reduceAdd, Nat.reduceMul, Nat.reduceLT, Nat.reduceLeDiff, Int.reduceNeg, Int.reduceAdd, Int.reduceSub, Int.reduceMul, UInt8.reduceToNat, hX2, hst, hd2]; repeat first | ((first | with_reducible refine split2_pk (by omega) ?_ | with_reducible refine split2_nk (by omega) ?_); intro hsq; try simp (maxSteps := 4000000) (disch := first | omega | (simp only [push_n, set_n, clr_n, also_n, List.length_replicate, List.length_set, List.length_map, List.length_append, List.length_take, List.length_drop, List.length_cons, List.length_nil]; first | done | omega) | (with_reducible decide)) only [go_sem, Int.reduceEq, Int.reduceNe, Int.reduceLT, Int.reduceLE, Nat.reduceEqDiff, Int.reduceToNat, Nat.reduceSub, Nat.reduceAdd, Nat.reduceMul, Nat.reduceLT, Nat.reduceLeDiff, Int.reduceNeg, Int.reduceAdd, Int.reduceSub, Int.reduceMul, UInt8.reduceToNat, hX2, hst, hd2, hsq]))
  generalize hH3 : (H2.set H.n (some (.cells [.int .i64 A.count, .nilslice, fv', .int .i64 A.fuse, .bool A.off]))) = H3
  have g3 : Grew H H3 := by rw [← hH3]; exact g2.set (Nat.le_refl _) _
  have b3 : Bld H H3 H.n A.count fv' A.fly .nilslice [] [] A.fuse A.off := by
    have k := Chg.set H2 H.n (some (.cells [.int .i64 A.count, .nilslice, fv', .int .i64 A.fuse, .bool A.off])) (S := [H.n]) (by simp)
    rw [hH3] at k
    refine ⟨by rw [← hH3]; exact set_cells _ _ hXn, Acc.nil g3, by simp, hf2.chg k fun i hi => by simp; rintro rfl; have := hb2 _ hi; omega, ?_, ?_⟩
    · simp only [blkOf, List.nil_append, List.flatMap_nil, List.append_nil, List.nodup_cons]
      exact ⟨fun hm => by have := hb2 _ hm; omega, hn2⟩
    · simp only [blkOf, List.nil_append, List.flatMap_nil, List.append_nil, List.mem_cons]
      have e : H3.n = H2.n := by rw [← hH3, set_n]
      rintro i (rfl | hi)
      · omega
      · have := hb2 i hi; omega
  have hd3 := g3.cells_some hd
  (try simp (maxSteps := 4000000) (disch := first | omega | (simp only [push_n, set_n, clr_n, also_n, List.length_replicate, List.length_set, List.length_map, List.length_append, List.length_take, List.length_drop, List.length_cons, List.length_nil]; first | done | omega) | (with_reducible decide)) only [go_sem, Int.reduceEq, Int.reduceNe, Int.reduceLT, Int.reduceLE, Nat.reduceEqDiff, Int.reduceToNat, Nat.reduceSub, Nat.reduceAdd, Nat.reduceMul, Nat.reduceLT, Nat.reduceLeDiff, Int.reduceNeg, Int.reduceAdd, Int.reduceSub, Int.reduceMul, UInt8.reduceToNat, hd3]; repeat first | ((first | with_reducible refine split2_pk (by omega) ?_ | with_reducible refine split2_nk (by omega) ?_); intro hsq; try simp (maxSteps := 4000000) (disch := first | omega | (simp only [push_n, set_n, clr_n, also_n, List.length_replicate, List.length_set, List.length_map, List.length_append, List.length_take, List.length_drop, List.length_cons, List.length_nil]; first | done | omega) | (with_reducible decide)) only [go_sem, Int.reduceEq, Int.reduceNe, Int.reduceLT, Int.reduceLE, Nat.reduceEqDiff, Int.reduceToNat, Nat.reduceSub, Nat.reduceAdd, Nat.reduceMul, Nat.reduceLT, Nat.reduceLeDiff, Int.reduceNeg, Int.reduceAdd, Int.reduceSub, Int.reduceMul, UInt8.reduceToNat, hd3, hsq]))
  refine wp_loopS (σ := Nat × AV × AVs) (by kernel_rfl) (fun (i, dv, dvs') => [(3, .ptr ⟨false, H.n, 0⟩), (21, .slice ⟨false, D, 0⟩ A.disks.length (.grow 1)), (22, .int .i64 (A.disks.length : Nat)), (23, .int .i64 (i : Nat))]) (fun (i, dv, dvs') H' => i ≤ A.disks.length ∧ Bld H H' H.n A.count fv' A.fly dv dvs' (A.disks.take i) A.fuse A.off) (fun (i, dv, dvs') => A.disks.length - i) (0, .nilslice, []) (by simp (maxSteps := 4000000) (disch := first | omega | (simp only [push_n, set_n, clr_n, also_n, List.length_replicate, List.length_set, List.length_map, List.length_append, List.length_take, List.length_drop, List.length_cons, List.length_nil]; first | done | omega) | (with_reducible decide)) only [go_sem, Int.reduceEq, Int.reduceNe, Int.reduceLT, Int.reduceLE, Nat.reduceEqDiff, Int.reduceToNat, Nat.reduceSub, Nat.reduceAdd, Nat.reduceMul, Nat.reduceLT, Nat.reduceLeDiff, Int.reduceNeg, Int.reduceAdd, Int.reduceSub, Int.reduceMul, UInt8.reduceToNat]) ?_ ?_
  · exact ⟨by omega, by rw [List.take_zero]; exact b3⟩
  · rintro ⟨i, dv, dvs'⟩ H4 ⟨hi, b⟩
    by_cases hil : i < A.disks.length
    · have hP4 := b.hd
      have hPlt := cells_lt hP4
      have g4 := b.acc.g
      have ds4 := g4.cells_some ds
      have hv := h.get? hil
      have hw4 := (h.grew g4).each i hil
      (try simp (maxSteps := 4000000) (disch := first | omega | (simp only [push_n, set_n, clr_n, also_n, List.length_replicate, List.length_set, List.length_map, List.length_append, List.length_take, List.length_drop, List.length_cons, List.length_nil]; first | done | omega) | (with_reducible decide)) only [go_sem, Int.reduceEq, Int.reduceNe, Int.reduceLT, Int.reduceLE, Nat.reduceEqDiff, Int.reduceToNat, Nat.reduceSub, Nat.reduceAdd, Nat.reduceMul, Nat.reduceLT, Nat.reduceLeDiff, Int.reduceNeg, Int.reduceAdd, Int.reduceSub, Int.reduceMul, UInt8.reduceToNat, ds4, hv]; repeat first | ((first | with_reducible refine split2_pk (by omega) ?_ | with_reducible refine split2_nk (by omega) ?_); intro hsq; try simp (maxSteps := 4000000) (disch := first | omega | (simp only [push_n, set_n, clr_n, also_n, List.length_replicate, List.length_set, List.length_map, List.length_append, List.length_take, List.length_drop, List.length_cons, List.length_nil]; first | done | omega) | (with_reducible decide)) only [go_sem, Int.reduceEq, Int.reduceNe, Int.reduceLT, Int.reduceLE, Nat.reduceEqDiff, Int.reduceToNat, Nat.reduceSub, Nat.reduceAdd, Nat.reduceMul, Nat.reduceLT, Nat.reduceLeDiff, Int.reduceNeg, Int.reduceAdd, Int.reduceSub, Int.reduceMul, UInt8.reduceToNat, ds4, hv, hsq]))
      (refine awp_drawH [28] [eqM H4.clr,  fun K => Grew H4.clr K,  fun K => Grew H4.clr K,  fun K => (K.cells? H.n).isSome = true,  fun _ => True] [(0, some 2), (1, some 2), (2, some 0), (3, none), (4, none), (5, none), (6, some 0), (7, none)] [3, 4, 5, 7] (by kernel_rfl) (by rfl) (by decide +kernel) (rofP_0 ?_) ?_; rotate_left; (conv => arg 5; simp only [List.map_cons, List.map_nil, List.getElem?_toArray, List.getElem?_cons_zero, List.getElem?_cons_succ]); rotate_left)
      · rfl
      have hq := gq_live (H := H4) (i := H.n) (by rw [hP4]; rfl)
      (try simp (maxSteps := 4000000) (disch := first | omega | (simp only [push_n, set_n, clr_n, also_n, List.length_replicate, List.length_set, List.length_map, List.length_append, List.length_take, List.length_drop, List.length_cons, List.length_nil]; first | done | omega) | (with_reducible decide)) only [go_sem, Int.reduceEq, Int.reduceNe, Int.reduceLT, Int.reduceLE, Nat.reduceEqDiff, Int.reduceToNat, Nat.reduceSub, Nat.reduceAdd, Nat.reduceMul, Nat.reduceLT, Nat.reduceLeDiff, Int.reduceNeg, Int.reduceAdd, Int.reduceSub, Int.reduceMul, UInt8.reduceToNat, hP4, rigP_gs, rigP_g1, hq]; repeat first | ((first | with_reducible refine split2_pk (by omega) ?_ | with_reducible refine split2_nk (by omega) ?_); intro hsq; try simp (maxSteps := 4000000) (disch := first | omega | (simp only [push_n, set_n, clr_n, also_n, List.length_replicate, List.length_set, List.length_map, List.length_append, List.length_take, List.length_drop, List.length_cons, List.length_nil]; first | done | omega) | (with_reducible decide)) only [go_sem, Int.reduceEq, Int.reduceNe, Int.reduceLT, Int.reduceLE, Nat.reduceEqDiff, Int.reduceToNat, Nat.reduceSub, Nat.reduceAdd, Nat.reduceMul, Nat.reduceLT, Nat.reduceLeDiff, Int.reduceNeg, Int.reduceAdd, Int.reduceSub, Int.reduceMul, UInt8.reduceToNat, hP4, rigP_gs, rigP_g1, hq, hsq]))
      refine (cloneD_spec (h.cnt.1) h.cnt.2 hw4.clr).mono ?_
      rintro r H5 ⟨g5, hd5, nd5, hb5⟩
      obtain ⟨H6, a1, a2, a3, a4, b6⟩ := b.clr.add (g5.trans (Grew.push H5 (some (.cells [r])))) (hd5.chg ((Grew.push _ _).chg []) (by simp)) (fun i hi => ⟨(hb5 i hi).1, by rw [push_n]; have := (hb5 i hi).2; omega⟩) nd5 (by rw [List.length_take]; omega)
      rw [List.length_take, show min i A.disks.length = i by omega] at a1 b6
      simp only [push_n] at a1 b6
      have ho1 : oneA r = true := by
        cases ho : A.disks.getD i none with
        | none => rw [ho] at hd5; rw [show r = .nilslice from hd5]; rfl
        | some ss => rw [ho] at hd5; obtain ⟨_, _, B, c, rfl, _⟩ := hd5; rfl
      have hcl : cellsA r = some [r] := by
        cases ho : A.disks.getD i none with
        | none => rw [ho] at hd5; rw [show r = .nilslice from hd5]; rfl
        | some ss => rw [ho] at hd5; obtain ⟨_, _, B, c, rfl, _⟩ := hd5; rfl
      have hg6 := fun {X : Option ABlk} => g5.trans (Grew.push H5 X)
      have key := b6.also (X := H4.wr) g4.wr
      rw [also_set] at key
      (try simp (maxSteps := 4000000) (disch := first | omega | (simp only [push_n, set_n, clr_n, also_n, List.length_replicate, List.length_set, List.length_map, List.length_append, List.length_take, List.length_drop, List.length_cons, List.length_nil]; first | done | omega) | (with_reducible decide)) only [go_sem, Int.reduceEq, Int.reduceNe, Int.reduceLT, Int.reduceLE, Nat.reduceEqDiff, Int.reduceToNat, Nat.reduceSub, Nat.reduceAdd, Nat.reduceMul, Nat.reduceLT, Nat.reduceLeDiff, Int.reduceNeg, Int.reduceAdd, Int.reduceSub, Int.reduceMul, UInt8.reduceToNat, hP4, a1, a2, ↓ho1, ↓hcl, g5, hg6]; repeat first | ((first | with_reducible refine split2_pk (by omega) ?_ | with_reducible refine split2_nk (by omega) ?_); intro hsq; try simp (maxSteps := 4000000) (disch := first | omega | (simp only [push_n, set_n, clr_n, also_n, List.length_replicate, List.length_set, List.length_map, List.length_append, List.length_take, List.length_drop, List.length_cons, List.length_nil]; first | done | omega) | (with_reducible decide)) only [go_sem, Int.reduceEq, Int.reduceNe, Int.reduceLT, Int.reduceLE, Nat.reduceEqDiff, Int.reduceToNat, Nat.reduceSub, Nat.reduceAdd, Nat.reduceMul, Nat.reduceLT, Nat.reduceLeDiff, Int.reduceNeg, Int.reduceAdd, Int.reduceSub, Int.reduceMul, UInt8.reduceToNat, hP4, a1, a2, ↓ho1, ↓hcl, g5, hg6, hsq]))
      (refine ⟨(i + 1, .slice ⟨false, H5.n + 1, 0⟩ (i + 1) (.grow 1), dvs' ++ [r]), ?_⟩; and_intros; all_goals (try first | rfl | assumption | omega))
      rw [List.take_add_one, List.getElem?_eq_getElem hil, Option.toList, show A.disks[i] = A.disks.getD i none by simp [List.getD, hil]]
      exact key
    · obtain rfl : i = A.disks.length := by omega
      rw [List.take_length] at b
      (try simp (maxSteps := 4000000) (disch := first | omega | (simp only [push_n, set_n, clr_n, also_n, List.length_replicate, List.length_set, List.length_map, List.length_append, List.length_take, List.length_drop, List.length_cons, List.length_nil]; first | done | omega) | (with_reducible decide)) only [go_sem, Int.reduceEq, Int.reduceNe, Int.reduceLT, Int.reduceLE, Nat.reduceEqDiff, Int.reduceToNat, Nat.reduceSub, Nat.reduceAdd, Nat.reduceMul, Nat.reduceLT, Nat.reduceLeDiff, Int.reduceNeg, Int.reduceAdd, Int.reduceSub, Int.reduceMul, UInt8.reduceToNat]; repeat first | ((first | with_reducible refine split2_pk (by omega) ?_ | with_reducible refine split2_nk (by omega) ?_); intro hsq; try simp (maxSteps := 4000000) (disch := first | omega | (simp only [push_n, set_n, clr_n, also_n, List.length_replicate, List.length_set, List.length_map, List.length_append, List.length_take, List.length_drop, List.length_cons, List.length_nil]; first | done | omega) | (with_reducible decide)) only [go_sem, Int.reduceEq, Int.reduceNe, Int.reduceLT, Int.reduceLE, Nat.reduceEqDiff, Int.reduceToNat, Nat.reduceSub, Nat.reduceAdd, Nat.reduceMul, Nat.reduceLT, Nat.reduceLeDiff, Int.reduceNeg, Int.reduceAdd, Int.reduceSub, Int.reduceMul, UInt8.reduceToNat, hsq]))
      obtain ⟨D', q1, q2⟩ := b.arr h.cnt h.dn h.fuse h.wf
      exact ⟨H.n, D', fv', dvs', rfl, q1, b.acc.g, q2⟩
end
end Go.Proofs.Ytickckpndpeppaa
