/- append, copy and conversions, and all operations in one. -/
import Derived.Test.YtickckpndpeppaaA10
set_option linter.unusedVariables false
set_option linter.unusedSimpArgs false
namespace Go.Abs
open Go Go.RowKit

variable {P : Program} {w0 w : World} {ι : List Loc} {H : AH}

theorem NewsOk.ext {e xt : TypeId} {sz k : Nat} {u : Value} {news : List AV} (hn : NewsOk P w0 ι H w e xt sz u k news) {ι' : List Loc} (H' : AH) (hle : LocLe ι ι') : NewsOk P w0 ι' H' w e xt sz u k news := by
  refine ⟨hn.len, ?_⟩
  rcases hn.alike with ⟨d, hx, hne, hlen, hfc⟩ | ⟨kk, z, hx, hu, hk, hz, hrel⟩
  · exact .inl ⟨d, hx, hne, hlen, fun w' a b c d' => let ⟨ys, r1, r2⟩ := hfc w' a b c d'; ⟨ys, r1, RVL.ext hle _ r2⟩⟩
  · exact .inr ⟨kk, z, hx, hu, hk, hz, RVL.ext hle _ hrel⟩

theorem set_push_n (H : AH) (i : Nat) (b : Option ABlk) : (H.set i b).n = H.n := by simp [AH.n, AH.set]

theorem appendTo0_run (h : Rep w0 ι H w) {st xt ty e : TypeId} {sz bytes k : Nat} {news : List AV} {s v : AV} {H' : AH} (ha : appendTo0 sz bytes H k news s = some (v, H')) {us u : Value} (hs : RV w0.heap.size ι s us)
    (hd : P.underlying st = some (.slice e)) (hsz : sizeA P e = some sz) (hby : bytesA P e = some bytes) {zero : List AV} (hz : zeroA P e = some zero) (hzl : zero.length = sz) (hpos : 0 < sz) (hn : NewsOk P w0 ι H w e xt sz u k news) (hone : news.all oneA = true) :
    ∃ z w' ι', (Builtin.append_ #[st, xt] ty #[us, u]).run P w = .ok z w' ∧ RV w0.heap.size ι' v z ∧ Rep w0 ι' H' w' ∧ Ext ι H w ι' H' w' := by
  cases s with
  | nilslice =>
    simp only [appendTo0] at ha
    split at ha
    · rename_i hb
      injection ha with ha
      injection ha with e1 e2
      subst e1 e2
      unfold RV at hs
      subst hs
      exact append_empty h hd hsz hby hz hzl hn ty none hb.1 hb.2
    · cases ha
  | slice a n c =>
    cases c with
    | grow sz' =>
      simp only [appendTo0] at ha
      split at ha
      · rename_i hb
        obtain ⟨rfl, hro, hmax, hbytes⟩ := hb
        cases hc : H.cells? a.blk with
        | none => rw [hc] at ha; cases ha
        | some l =>
        rw [hc] at ha
        simp only [Option.bind_some] at ha
        split at ha
        · rename_i htip
          injection ha with ha
          injection ha with e1 e2
          subst e1 e2
          have hrw := cells?_some hc
          have hro' : ¬ a.ro = true := by rw [hro]; simp
          have hget : H.get a = some l := by unfold AH.get; rw [if_neg hro']; exact hc
          unfold RV at hs
          have hs0 := hs
          unfold RSlice at hs
          rw [if_neg hro'] at hs
          have hll : (l.drop a.off).length = n * sz' := by simp; omega
          have kgrow : ∀ (q : Option Addr) (c : Nat) (olds : List Value), us = .slice q n c → ι[a.blk]? ≠ some .pend → c < n + k → (Builtin.firstCells sz' n (.slice q n c)).run P w.drew = .ok olds.toArray w.drew → RVL w0.heap.size ι (l.drop a.off) olds →
              ∃ z w' ι', (Builtin.append_ #[st, xt] ty #[us, u]).run P w = .ok z w' ∧ RV w0.heap.size ι' (.slice ⟨false, H.n, 0⟩ (n + k) (.grow sz')) z ∧ Rep w0 ι' ((H.set a.blk none).push (some (.cells (l.drop a.off ++ news)))) w' ∧
                Ext ι H w ι' ((H.set a.blk none).push (some (.cells (l.drop a.off ++ news)))) w' := fun q c olds hq hnp hc hf ho => by
            subst hq
            obtain ⟨C, ys, rest, hC, hy, hr, hrun⟩ := append_grows hd hsz hby hz hzl hn ty q n c hc hmax hbytes olds hf
            obtain ⟨hR, hE⟩ := h.kill hnp
            have hyl : ys.length = k * sz' := by rw [hy.length, hn.len]
            have hol : olds.length = n * sz' := by rw [ho.length, hll]
            obtain ⟨ι', g1, g2, g3⟩ := append_new (l := l.drop a.off) (news := news) hR (e := e) (RVL.ext hE.le _ ho) (RVL.ext hE.le _ hy) (by rw [hol, hyl, Nat.add_mul]) hC hr
            rw [set_push_n] at g3
            exact ⟨_, _, ι', hrun, g3, g1, hE.trans g2⟩
          have kempty : ∀ q : Option Addr, us = .slice q 0 0 → n = 0 → ι[a.blk]? ≠ some .pend →
              ∃ z w' ι', (Builtin.append_ #[st, xt] ty #[us, u]).run P w = .ok z w' ∧ RV w0.heap.size ι' (.slice ⟨false, H.n, 0⟩ (n + k) (.grow sz')) z ∧ Rep w0 ι' ((H.set a.blk none).push (some (.cells (l.drop a.off ++ news)))) w' ∧
                Ext ι H w ι' ((H.set a.blk none).push (some (.cells (l.drop a.off ++ news)))) w' := fun q hq hn0 hnp => by
            subst hn0
            have hld : l.drop a.off = [] := by rw [List.drop_eq_nil_iff]; omega
            rw [hld, List.nil_append, Nat.zero_add]
            obtain ⟨hR, hE⟩ := h.kill hnp
            obtain ⟨z, w', ι', g1, g2, g3, g4⟩ := append_empty hR hd hsz hby hz hzl (hn.ext (H.set a.blk none) hE.le) ty q (by omega) (by simpa using hbytes)
            rw [set_push_n] at g2
            exact ⟨z, w', ι', by rw [hq]; exact g1, g2, g3, hE.trans g4⟩
          cases hι : ι[a.blk]? with
          | none => rw [hι] at hs; exact hs.elim
          | some L =>
            rw [hι] at hs
            cases L with
            | pend => exact hs.elim
            | dead =>
              rcases h.blk _ _ hrw with g1 | ⟨g1, _⟩ | ⟨B, O, m, g1, _⟩ <;> (rw [hι] at g1; cases g1)
            | nil =>
              obtain ⟨hn0, ⟨q, hq⟩, _⟩ := hs
              exact kempty q hq hn0 (by rw [hι]; simp)
            | «at» B O m =>
              rcases hs with ⟨C, hnC, hroom, hs⟩ | ⟨hn0, p, hs⟩
              · by_cases hfit : n + k ≤ C
                · -- there is room
                  subst hs
                  have hfin : ∀ (ys : List Value), RVL w0.heap.size ι news ys → ∃ w', (storeCells ⟨B, O + (a.off + n * sz'), none⟩ ys).run P w = .ok () w' ∧ ∃ ι', RV w0.heap.size ι' (.slice ⟨false, H.n, 0⟩ (n + k) (.grow sz')) (.slice (some ⟨B, O + a.off, none⟩) (n + k) C) ∧
                      Rep w0 ι' ((H.set a.blk none).push (some (.cells (l.drop a.off ++ news)))) w' ∧ Ext ι H w ι' ((H.set a.blk none).push (some (.cells (l.drop a.off ++ news)))) w' := fun ys hy => by
                    have hmul : (n + k) * sz' ≤ C * sz' := Nat.mul_le_mul_right _ hfit
                    rw [Nat.add_mul] at hmul
                    have hnl := hn.len
                    obtain ⟨w', r1, r2, r3⟩ := extendCells_run (P := P) news ys (i := a.blk) (o := a.off + n * sz') (k := 0) h hrw hι (by omega) (by omega) hone hy
                    have hlt := lt_of_get hrw
                    obtain ⟨g1, g2⟩ := r2.rename a.off (i := a.blk) (l := l ++ news) (by simp [AH.set, hlt]) hι (by simp; omega)
                    have e1 : (H.set a.blk (some (.cells (l ++ news)))).set a.blk none = H.set a.blk none := by simp [AH.set]
                    have e2 : (l ++ news).drop a.off = l.drop a.off ++ news := by rw [List.drop_append_of_le_length (by omega)]
                    rw [e1, e2] at g1 g2
                    refine ⟨w', r1, _, ?_, g1, r3.trans g2⟩
                    unfold RV RSlice
                    simp only [Bool.false_eq_true, if_false]
                    have hnn : (ι.set a.blk Loc.dead ++ [Loc.at B (O + a.off) (m - a.off)])[H.n]? = some (.at B (O + a.off) (m - a.off)) := by
                      have : (ι.set a.blk Loc.dead).length = H.n := by simp [AH.n, h.len]
                      rw [← this]; simp
                    rw [hnn]
                    refine .inl ⟨C, hfit, by omega, by simp⟩
                  rcases hn.alike with ⟨d, hx, hne, hlen, hfc⟩ | ⟨kk, z, hx, rfl, hk, hzz, hrel⟩
                  · obtain ⟨ys, f1, f2⟩ := hfc w rfl rfl rfl rfl
                    obtain ⟨w', r1, ι', r2, r3, r4⟩ := hfin ys f2
                    refine ⟨_, w', ι', ?_, r2, r3, r4⟩
                    rcases hne with rfl | ⟨e', rfl⟩ <;> simp [Builtin.append_, run_underlying hd, run_underlying hx, sizeA_run hsz, hlen, hfit, f1, Addr.add_lit, Nat.add_assoc, r1]
                  · obtain ⟨w', r1, ι', r2, r3, r4⟩ := hfin _ hrel
                    refine ⟨_, w', ι', ?_, r2, r3, r4⟩
                    obtain ⟨i, hi, hib⟩ := bytesA_run hby
                    have hzi : i.zero = some z := by rw [hi] at hzz; simpa using hzz
                    have hwk := wrap_small (n := (k : Int)) (by omega) (by omega)
                    have hk0 : ¬ ((k : Int) < 0) := by omega
                    have hkb : ¬ (281474976710656 < (k : Int) * (i.bytes : Int)) := by
                      have h1 : k * i.bytes ≤ (n + k) * i.bytes := Nat.mul_le_mul_right _ (by omega)
                      have h2 : ((k * i.bytes : Nat) : Int) ≤ 140737488355328 := by rw [hib] at h1 ⊢; omega
                      rw [Int.natCast_mul] at h2
                      omega
                    by_cases hks : k * sz' = 0
                    · have hzc : Builtin.zeroCells z.cells k = #[] := by
                        apply Array.eq_empty_of_size_eq_zero
                        have := hrel.length
                        rw [hn.len, hks] at this
                        simpa using this
                      rw [hzc] at r1
                      simp [Builtin.append_, run_underlying hd, run_underlying hx, sizeA_run hsz, asInt, asIntOf, hwk, hk0, hkb, hfit, run_typeInfo hi, hks, Addr.add_lit, Nat.add_assoc] at r1 ⊢
                      simp [r1]
                    · simp [Builtin.append_, run_underlying hd, run_underlying hx, sizeA_run hsz, asInt, asIntOf, hwk, hk0, hkb, hfit, run_typeInfo hi, zeroValue, hzi, hks, Addr.add_lit, Nat.add_assoc, r1]
                · -- there is none
                  obtain ⟨q, C', hq, hcells⟩ := h.drew.1.at_slice hs0 hget
                  rw [hs] at hq
                  injection hq with q1 q2 q3
                  subst q1 q3
                  by_cases hn0 : n * sz' = 0
                  · refine kgrow _ C [] hs (by rw [hι]; simp) (by omega) (firstCells_zero sz' _ n C hn0 _) ?_
                    have : l.drop a.off = [] := List.eq_nil_of_length_eq_zero (by rw [hll, hn0])
                    rw [this]; unfold RVL; rfl
                  · rcases hcells with hc0 | ⟨ad, had, _, hcells⟩
                    · rw [hc0] at hn0; simp at hn0
                    · obtain ⟨ys, y1, y2, _⟩ := run_load_row (P := P) (w := w.drew) (w0 := w0) (ι := ι) (ad := ad) (cs := l.drop a.off) (n * sz') (by omega) (fun j x hx => hcells j x (by rwa [List.getElem?_drop] at hx))
                      rw [← hll, List.take_length] at y2
                      rw [had] at hs
                      exact kgrow _ C ys hs (by rw [hι]; simp) (by omega) (by simpa [Builtin.firstCells] using y1) y2
              · exact kempty (some p) hs hn0 (by rw [hι]; simp)
        · cases ha
      · cases ha
    | known c =>
      simp only [appendTo0] at ha
      split at ha
      · rename_i hb
        obtain ⟨hmax, hbytes, hnc⟩ := hb
        unfold RV at hs
        have hval : ∃ q, us = .slice q n c := by
          unfold RSlice at hs
          split at hs
          · obtain ⟨c', hc', hnc', ⟨_, hs⟩ | ⟨hc0, p, hs⟩⟩ := hs
            · injection hc' with hc'; subst hc'; exact ⟨_, hs⟩
            · injection hc' with hc'
              have : n = 0 := by omega
              rw [hc', hc0, this]; exact ⟨_, hs⟩
          · split at hs
            · obtain ⟨_, hs | ⟨hc0, p, hs⟩⟩ := hs
              · exact ⟨_, hs⟩
              · have : n = 0 := by omega
                rw [hc0, this]; exact ⟨_, hs⟩
            · obtain ⟨_, _, sz', hc⟩ := hs; cases hc
            · obtain ⟨q, C, hs, _, _, h2⟩ := hs; obtain ⟨h3, _⟩ := h2 c rfl; subst h3; exact ⟨_, hs⟩
            · exact hs.elim
        obtain ⟨q, hq⟩ := hval
        split at ha
        · rename_i hc0
          injection ha with ha
          injection ha with e1 e2
          subst e1 e2 hc0
          have hn0 : n = 0 := by omega
          subst hn0 hq
          exact append_empty h hd hsz hby hz hzl hn ty q (by omega) (by simpa using hbytes)
        · split at ha
          · rename_i hk0
            injection ha with ha
            injection ha with e1 e2
            subst e1 e2 hk0
            refine ⟨us, w, ι, by rw [hq]; exact append_stays hd hsz hn ty q n c hnc, by unfold RV; exact hs, h, Ext.refl _ _ _⟩
          · split at ha
            · rename_i hgr
              cases hg : H.get a with
              | none => rw [hg] at ha; cases ha
              | some l =>
                rw [hg] at ha
                simp only [Option.bind_some] at ha
                split at ha
                · rename_i hle
                  injection ha with ha
                  injection ha with e1 e2
                  subst e1 e2
                  obtain ⟨q', C', hq', hcells⟩ := h.drew.1.at_slice hs hg
                  rw [hq] at hq'
                  injection hq' with q1 q2 q3
                  subst q1 q3
                  have hll : ((l.drop a.off).take (n * sz)).length = n * sz := by simp; omega
                  have holds : ∃ olds : List Value, (Builtin.firstCells sz n (.slice q n c)).run P w.drew = .ok olds.toArray w.drew ∧ RVL w0.heap.size ι ((l.drop a.off).take (n * sz)) olds := by
                    by_cases hn0 : n * sz = 0
                    · exact ⟨[], firstCells_zero sz _ n c hn0 _, by rw [hn0, List.take_zero]; unfold RVL; rfl⟩
                    · rcases hcells with hc0 | ⟨ad, had, _, hcells⟩
                      · rw [hc0] at hn0; simp at hn0
                      · obtain ⟨ys, y1, y2, _⟩ := run_load_row (P := P) (w := w.drew) (w0 := w0) (ι := ι) (ad := ad) (cs := l.drop a.off) (n * sz) (by simp; omega) (fun j x hx => hcells j x (by rwa [List.getElem?_drop] at hx))
                        exact ⟨ys, by rw [had]; simpa [Builtin.firstCells] using y1, y2⟩
                  obtain ⟨olds, ho1, ho2⟩ := holds
                  subst hq
                  obtain ⟨C, ys, rest, hC, hy, hr, hrun⟩ := append_grows hd hsz hby hz hzl hn ty q n c hgr hmax hbytes olds ho1
                  have hyl : ys.length = k * sz := by rw [hy.length, hn.len]
                  have hol : olds.length = n * sz := by rw [ho2.length, hll]
                  obtain ⟨ι', g1, g2, g3⟩ := append_new (news := news) h (e := e) ho2 hy (by rw [hol, hyl, Nat.add_mul]) hC hr
                  exact ⟨_, _, ι', hrun, g3, g1, g2⟩
                · cases ha
            · cases ha
      · cases ha
  | _ => simp only [appendTo0] at ha; cases ha

theorem Rep.trim (h : Rep w0 ι H w) {i j : Nat} {l : List AV} (hc : H.cells? i = some l) : Rep w0 ι (H.set i (some (.cells (l.take j)))) w where
  below := h.below
  ro := h.ro
  len := by rw [h.len]; simp [AH.set]
  blk k l' hk := by
    simp only [AH.set, List.getElem?_set] at hk
    split at hk
    · rename_i e
      subst e
      split at hk
      · injection hk with hk; injection hk with hk; injection hk with hk
        subst hk
        rcases h.blk i l (cells?_some hc) with g | ⟨g1, rfl⟩ | ⟨B, O, m, g1, g2⟩
        · exact .inl g
        · exact .inr (.inl ⟨g1, by simp⟩)
        · refine .inr (.inr ⟨B, O, m, g1, ⟨?_, g2.high⟩⟩)
          obtain ⟨cs, e, fz, k1, k2, k3, k4⟩ := g2.cells
          refine ⟨cs, e, fz, k1, k2, by simp only [List.length_take]; omega, fun k v hv => ?_⟩
          rw [List.getElem?_take] at hv
          split at hv
          · exact k4 k v hv
          · cases hv
      · cases hk
    · exact h.blk k l' hk
  nomap k es hk := by
    simp only [AH.set, List.getElem?_set] at hk
    split at hk
    · split at hk
      · cases hk
      · cases hk
    · exact h.nomap k es hk
  gone k hk := by
    simp only [AH.set, List.getElem?_set] at hk
    split at hk
    · split at hk
      · cases hk
      · cases hk
    · exact h.gone k hk
  inj := h.inj
  locs := h.locs
theorem appendTo_run (h : Rep w0 ι H w) {st xt ty e : TypeId} {sz bytes k : Nat} {news : List AV} {s v : AV} {H' : AH} (ha : appendTo sz bytes H k news s = some (v, H')) {us u : Value} (hs : RV w0.heap.size ι s us)
    (hd : P.underlying st = some (.slice e)) (hsz : sizeA P e = some sz) (hby : bytesA P e = some bytes) {zero : List AV} (hz : zeroA P e = some zero) (hzl : zero.length = sz) (hpos : 0 < sz) (hn : NewsOk P w0 ι H w e xt sz u k news) (hone : news.all oneA = true) :
    ∃ z w' ι', (Builtin.append_ #[st, xt] ty #[us, u]).run P w = .ok z w' ∧ RV w0.heap.size ι' v z ∧ Rep w0 ι' H' w' ∧ Ext ι H w ι' H' w' := by
  have plain : trimA H sz s = H → ∃ z w' ι', (Builtin.append_ #[st, xt] ty #[us, u]).run P w = .ok z w' ∧ RV w0.heap.size ι' v z ∧ Rep w0 ι' H' w' ∧ Ext ι H w ι' H' w' := fun e => by
    unfold appendTo at ha
    rw [e] at ha
    exact appendTo0_run h ha hs hd hsz hby hz hzl hpos hn hone
  cases s with
  | slice a n c =>
    cases c with
    | known c => exact plain rfl
    | grow sz' =>
      cases hc : H.cells? a.blk with
      | none => exact plain (by simp only [trimA, hc])
      | some l =>
        by_cases ht : a.off + n * sz < l.length
        · have e : trimA H sz (.slice a n (.grow sz')) = H.set a.blk (some (.cells (l.take (a.off + n * sz)))) := by simp only [trimA, hc, if_pos ht]
          unfold appendTo at ha
          rw [e] at ha
          obtain ⟨z, w', ι', g1, g2, g3, g4⟩ := appendTo0_run (h.trim hc) ha hs hd hsz hby hz hzl hpos (hn.ext _ (LocLe.refl ι)) hone
          refine ⟨z, w', ι', g1, g2, g3, ⟨g4.ro, g4.len, g4.loc, fun i hi => ?_, g4.size, g4.frame, g4.img, fun i hi => g4.mark i (.inr hi), g4.still⟩⟩
          have hp := g4.pend i hi
          by_cases hib : i = a.blk
          · subst hib
            exfalso
            have hlt : a.blk < H.rw.length := by
              have := cells?_some hc
              exact (List.getElem?_eq_some_iff.1 this).1
            have h2 : (H.set a.blk (some (.cells (l.take (a.off + n * sz))))).rw[a.blk]? = some (some (.cells (l.take (a.off + n * sz)))) := by simp [AH.set, hlt]
            rw [h2] at hp
            simp only [appendTo0] at ha
            split at ha
            · obtain ⟨l2, _, ha⟩ := Option.bind_eq_some_iff.1 ha
              split at ha
              · injection ha with ha
                injection ha with _ ha
                rw [← ha] at hp
                simp only [AH.set, AH.push, List.set_set] at hp
                rw [List.getElem?_append_left (by simpa using hlt)] at hp
                simp [hlt] at hp
              · cases ha
            · cases ha
          · rw [hp]
            simp only [AH.set]
            rw [List.getElem?_set, if_neg (fun e => hib e.symm)]
        · exact plain (by simp only [trimA, hc, if_neg ht])
  | _ => exact plain rfl

theorem appendA_run (h : Rep w0 ι H w) {st xt ty : TypeId} {s x v : AV} {H' : AH} (ha : appendA P st xt s x H = some (v, H')) {us u : Value} (hs : RV w0.heap.size ι s us) (hu : RV w0.heap.size ι x u) :
    ∃ z w' ι', (Builtin.append_ #[st, xt] ty #[us, u]).run P w = .ok z w' ∧ RV w0.heap.size ι' v z ∧ Rep w0 ι' H' w' ∧ Ext ι H w ι' H' w' := by
  unfold appendA at ha
  split at ha
  · rename_i e hd
    obtain ⟨sz, hsz, ha⟩ := Option.bind_eq_some_iff.1 ha
    obtain ⟨bytes, hby, ha⟩ := Option.bind_eq_some_iff.1 ha
    obtain ⟨zero, hz, ha⟩ := Option.bind_eq_some_iff.1 ha
    split at ha
    · rename_i hh
      obtain ⟨hzl, hpos⟩ := hh
      obtain ⟨kn, hkn, ha⟩ := Option.bind_eq_some_iff.1 ha
      split at ha
      · rename_i hone
        exact appendTo_run h ha hs hd hsz hby hz hzl hpos (newsOk_of h hz hzl hpos hu hkn) hone
      · cases ha
    · cases ha
  · cases ha

end Go.Abs
