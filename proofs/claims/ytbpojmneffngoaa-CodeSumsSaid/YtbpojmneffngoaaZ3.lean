import Derived.Test.YtbpojmneffngoaaZ2
import Derived.Recover
set_option linter.unusedVariables false
set_option linter.unusedSimpArgs false
namespace Go.Abs
open Go Go.RowKit
section
variable {P : Program} {w0 w : World} {ι : List Loc} {H : AH}
theorem cell_same {w w' : World} {ad : Addr} (h : SameB w w' ad.block) (j : Nat) : w'.cell? (ad.add j) = w.cell? (ad.add j) :=
  h _ (by unfold Addr.add; split <;> rfl)
theorem load_stable (h : Rep w0 ι H w) {t : TypeId} {a : AAddr} {v : AV} (hl : loadA P t a H = some v) {p : Value} (hp : RPtr w0.heap.size ι a p) :
    ∃ x B, RV w0.heap.size ι v x ∧ B < w.heap.size ∧ (a.ro = true → B < w0.heap.size) ∧ (a.ro = false → ∃ O m, ι[a.blk]? = some (.at B O m)) ∧ ∀ w' : World, SameB w w' B → (Instr.loadAt t p).run P w' = .ok x w' := by
  unfold loadA at hl
  cases hg : H.get a with
  | none => rw [hg] at hl; cases hl
  | some cs =>
    rw [hg] at hl
    simp only [Option.bind_some] at hl
    obtain ⟨ad, rfl, hs0, hc⟩ := h.at_ptr hp hg
    have hB : ad.block < w.heap.size ∧ (a.ro = true → ad.block < w0.heap.size) ∧ (a.ro = false → ∃ O m, ι[a.blk]? = some (.at ad.block O m)) := by
      unfold RPtr at hp
      by_cases hr : a.ro = true
      · rw [if_pos hr] at hp
        obtain ⟨h1, h2⟩ := hp
        injection h2 with h2
        injection h2 with h2
        have e : ad.block = a.blk := by rw [h2]
        exact ⟨by rw [e]; exact Nat.lt_of_lt_of_le h1 h.below.size, fun _ => by rw [e]; exact h1, fun e' => by rw [hr] at e'; cases e'⟩
      · rw [if_neg hr] at hp
        refine (fun hh => ⟨hh.1, fun h => absurd h hr, fun _ => hh.2⟩ : (ad.block < w.heap.size ∧ ∃ O m, ι[a.blk]? = some (.at ad.block O m)) → _) ?_
        have alive : (H.cells? a.blk).isSome = true := by unfold AH.get at hg; rw [if_neg hr] at hg; simp [hg]
        rcases live_at h alive with h1 | h1 | ⟨B, O, m, h1⟩
        · rw [h1] at hp; exact hp.elim
        · rw [h1] at hp; exact hp.elim
        · rw [h1] at hp
          injection hp with hp
          injection hp with hp
          have e : ad.block = B := by rw [hp]
          rw [e]; exact ⟨(h.locs _ _ _ _ h1).2, O, m, h1⟩
    unfold partA at hl
    cases hag : aggA P t with
    | none => rw [hag] at hl; cases hl
    | some g =>
      rw [hag] at hl
      simp only [Option.bind_some] at hl
      cases g with
      | true =>
        simp only [if_true] at hl
        cases hs : sizeA P t with
        | none => rw [hs] at hl; cases hl
        | some n =>
          rw [hs] at hl
          simp only [Option.bind_some] at hl
          split at hl
          · rename_i hle
            injection hl with hl
            subst hl
            have hcs : ∀ j x, (cs.drop a.off)[j]? = some x → ∃ y, w.cell? (ad.add j) = some y ∧ RV w0.heap.size ι x y := fun j x hx => hc j x (by rwa [List.getElem?_drop] at hx)
            obtain ⟨ys, h1, h2, h3⟩ := run_load_row (P := P) (w := w) (w0 := w0) (ι := ι) (ad := ad) (cs := cs.drop a.off) n (by simp; omega) hcs
            refine ⟨.agg ys.toArray, ad.block, ?_, hB.1, hB.2.1, hB.2.2, fun w' hw' => ?_⟩
            · unfold RV
              exact ⟨_, rfl, by simpa using h2⟩
            · obtain ⟨zs, k1, k2, k3⟩ := run_load_row (P := P) (w := w') (w0 := w0) (ι := ι) (ad := ad) (cs := cs.drop a.off) n (by simp; omega) (fun j x hx => by rw [cell_same hw']; exact hcs j x hx)
              have e : zs = ys := by
                have l1 := h2.length
                have l2 := k2.length
                apply List.ext_getElem?
                intro j
                by_cases hj : j < ys.length
                · have a1 := h3 j ys[j] (List.getElem?_eq_getElem hj)
                  have hj' : j < zs.length := by omega
                  have a2 := k3 j zs[j] (List.getElem?_eq_getElem hj')
                  rw [cell_same hw', a1] at a2
                  rw [List.getElem?_eq_getElem hj, List.getElem?_eq_getElem hj']
                  exact a2.symm
                · rw [List.getElem?_eq_none (by omega), List.getElem?_eq_none (by omega)]
              subst e
              simp [Instr.loadAt, Instr.sureAddr, loadVar, aggA_run hag, sizeA_run hs, k1]
          · cases hl
      | false =>
        simp only [Bool.false_eq_true, if_false] at hl
        obtain ⟨y, h1, h2⟩ := hc 0 v (by simpa using hl)
        refine ⟨y, ad.block, h2, hB.1, hB.2.1, hB.2.2, fun w' hw' => ?_⟩
        have h1' : w'.cell? ad = some y := by
          have := cell_same hw' 0
          rw [h1] at this
          simpa [Addr.add] using this
        simp [Instr.loadAt, Instr.sureAddr, loadVar, aggA_run hag, h1']
def allocOp : Op → Bool
  | .alloc _ | .box .. | .makeSlice .. | .buildSlice .. => true
  | _ => false
theorem alloc_any {fr : AFr} {op : Op} {v : AV} {H' : AH} (ha : allocOp op = true) (ho : opA P fr H op = some (v, H')) {H0 : AH} (hn : H0.n = H.n) : ∃ H0', opA P fr H0 op = some (v, H0') := by
  cases op <;> simp only [allocOp, Bool.false_eq_true] at ha
  case alloc t =>
    simp only [opA] at ho ⊢
    obtain ⟨z, hz, ho⟩ := Option.map_eq_some_iff.1 ho
    rw [hz]
    simp only [newA] at ho
    injection ho with e1 e2
    exact ⟨_, by simp only [Option.map_some, newA, hn, e1]; rfl⟩
  case box t x =>
    simp only [opA] at ho ⊢
    obtain ⟨z, hz, ho⟩ := Option.map_eq_some_iff.1 ho
    rw [hz]
    simp only [newA] at ho
    injection ho with e1 e2
    exact ⟨_, by simp only [Option.map_some, newA, hn, e1]; rfl⟩
  case makeSlice t l c =>
    simp only [opA] at ho ⊢
    unfold makeSliceA at ho ⊢
    split at ho
    · obtain ⟨sz, h1, ho⟩ := Option.bind_eq_some_iff.1 ho
      obtain ⟨b, h2, ho⟩ := Option.bind_eq_some_iff.1 ho
      obtain ⟨z, h3, ho⟩ := Option.bind_eq_some_iff.1 ho
      split at ho
      · rename_i hk
        injection ho with ho
        injection ho with e1 e2
        simp only [h1, h2, h3, Option.bind_some]
        rw [if_pos hk, hn, e1]
        exact ⟨_, rfl⟩
      · cases ho
    · cases ho
  case buildSlice t n q =>
    simp only [opA] at ho ⊢
    unfold buildSliceA at ho ⊢
    split at ho
    · obtain ⟨sz, h1, ho⟩ := Option.bind_eq_some_iff.1 ho
      obtain ⟨z, h3, ho⟩ := Option.bind_eq_some_iff.1 ho
      split at ho
      · rename_i hk
        obtain ⟨cs, h4, ho⟩ := Option.map_eq_some_iff.1 ho
        injection ho with e1 e2
        simp only [h1, h3, Option.bind_some]
        rw [if_pos hk, h4, hn]
        simp only [Option.map_some, e1]
        exact ⟨_, rfl⟩
      · cases ho
    · cases ho
def Same (w w' : World) : Prop := w.heap.size ≤ w'.heap.size ∧ ∀ B, B < w.heap.size → w'.heap[B]? = w.heap[B]?
theorem Same.refl (w : World) : Same w w := ⟨Nat.le_refl _, fun _ _ => rfl⟩
theorem Same.trans {w w' w'' : World} (h : Same w w') (k : Same w' w'') : Same w w'' := ⟨Nat.le_trans h.1 k.1, fun B hB => (k.2 B (Nat.lt_of_lt_of_le hB h.1)).trans (h.2 B hB)⟩
def isPend : Loc → Bool
  | .pend => true
  | _ => false
theorem isPend_ok : ∀ {L : Loc}, isPend L = true → L = .pend
  | .pend, _ => rfl
  | .dead, h => by simp [isPend] at h
  | .nil, h => by simp [isPend] at h
  | .at _ _ _, h => by simp [isPend] at h
def hideL (ι : List Loc) : List Loc := ι.map fun L => if isPend L then L else .dead
def hideH (ι : List Loc) (H : AH) : AH := ⟨H.ro, List.zipWith (fun b L => if isPend L then b else none) H.rw ι, H.wr⟩
theorem hide_rep (h : Rep w0 ι H w) : Rep w0 (hideL ι) (hideH ι H) w ∧ LocLe ι (hideL ι) ∧ (hideH ι H).n = H.n := by
  have hl := h.len
  have gL : ∀ i : Nat, (hideL ι)[i]? = (ι[i]?).map fun L => if isPend L then L else .dead := fun i => by simp [hideL, List.getElem?_map]
  have noat : ∀ (i B O m : Nat), (hideL ι)[i]? ≠ some (.at B O m) := fun i B O m he => by
    rw [gL] at he
    obtain ⟨L, h1, h2⟩ := Option.map_eq_some_iff.1 he
    split at h2
    · rename_i hp
      rw [isPend_ok hp] at h2
      cases h2
    · cases h2
  have gH : ∀ i : Nat, (hideH ι H).rw[i]? = (match H.rw[i]?, ι[i]? with | some b, some L => some (if isPend L then b else none) | _, _ => none) := fun i => by
    simp only [hideH, List.getElem?_zipWith]
    cases H.rw[i]? <;> cases ι[i]? <;> rfl
  refine ⟨⟨h.below, h.ro, by simp [hideL, hideH, hl], ?_, ?_, ?_, ?_, ?_⟩, ?_, by simp [AH.n, hideH, hl]⟩
  · intro i l hi
    rw [gH] at hi
    left
    cases hb : H.rw[i]? with
    | none => rw [hb] at hi; cases hi
    | some b =>
      cases hL : ι[i]? with
      | none => rw [hb, hL] at hi; cases hi
      | some L =>
        rw [hb, hL] at hi
        simp only at hi
        by_cases hp : isPend L = true
        · rw [gL, hL, Option.map_some, if_pos hp, isPend_ok hp]
        · rw [if_neg hp] at hi; cases hi
  · intro i es hi
    rw [gH] at hi
    cases hb : H.rw[i]? with
    | none => rw [hb] at hi; cases hi
    | some b =>
      cases hL : ι[i]? with
      | none => rw [hb, hL] at hi; cases hi
      | some L =>
        rw [hb, hL] at hi
        simp only at hi
        by_cases hp : isPend L = true
        · rw [if_pos hp] at hi
          injection hi with hi
          exact h.nomap i es (by rw [hb, hi])
        · rw [if_neg hp] at hi; cases hi
  · intro i hi
    rw [gH] at hi
    cases hb : H.rw[i]? with
    | none => rw [hb] at hi; cases hi
    | some b =>
      cases hL : ι[i]? with
      | none => rw [hb, hL] at hi; cases hi
      | some L =>
        rw [hb, hL] at hi
        simp only at hi
        by_cases hp : isPend L = true
        · rw [if_pos hp] at hi
          injection hi with hi
          have := h.gone i (by rw [hb, hi])
          rw [hL, isPend_ok hp] at this
          cases this
        · rw [gL, hL, Option.map_some, if_neg hp]
  · intro i j B O m O' m' hi
    exact absurd hi (noat _ _ _ _)
  · intro i B O m hi
    exact absurd hi (noat _ _ _ _)
  · intro i L hi
    rw [gL, hi, Option.map_some]
    by_cases hp : isPend L = true
    · rw [if_pos hp]; exact .inl rfl
    · rw [if_neg hp]
      exact .inr ⟨rfl, fun e => hp (by rw [e]; rfl)⟩
theorem alloc_same {N : Nat} {ds : List Deferred} {fr : AFr} {a : Act} (hs : St w0 ι N ds fr H a w) {o : Oper} {v : AV} {H' : AH} (ha : allocOp o.op = true) (ho : opA P fr H o.op = some (v, H')) {n : Next} {w1 : World} (hr : (execOp a.eval o).run P w = .ok n w1) : Same w w1 := by
  obtain ⟨hrep, hle, hn⟩ := hide_rep hs.rep
  obtain ⟨H0', ho'⟩ := alloc_any ha ho hn
  obtain ⟨w', ι', r1, r2, r3⟩ := opA_ok hrep (hs.fr.ext hle) ho'
  have e : w' = w1 := by
    rcases r3 with ⟨cv, h1, _⟩ | ⟨h1, _⟩
    · rw [h1] at hr; injection hr
    · rw [h1] at hr; injection hr
  subst e
  refine ⟨r2.size, fun B hB => r2.frame B hB fun i O m hi => ?_⟩
  simp only [hideL, List.getElem?_map] at hi
  obtain ⟨L, h1, h2⟩ := Option.map_eq_some_iff.1 hi
  split at h2
  · rename_i hp
    rw [isPend_ok hp] at h2
    cases h2
  · cases h2
end
section
variable {P : Program} {md : Region.Mode} {ops : Array Oper} {Q : Exit → Act → World → Prop} {S : Array Bool → World → Prop}
def wpAnyI (P : Program) (md : Region.Mode) (ops : Array Oper) (Q : Exit → Act → World → Prop) (S : Array Bool → World → Prop) : Nat → Array Bool → Act → World → Prop
  | 0, listed, a, w => Region.ready md ops listed = [] ∧ Q .normal a w
  | fuel + 1, listed, a, w =>
    (Region.ready md ops listed = [] → Q .normal a w) ∧
    ∀ i ∈ Region.ready md ops listed, wpOp P ops Q i (fun a' w' => S (listed.setIfInBounds i true) w' ∧ wpAnyI P md ops Q S fuel (listed.setIfInBounds i true) a' w') a w
theorem wpAny_of_I : ∀ (fuel : Nat) (listed : Array Bool) (a : Act) (w : World), wpAnyI P md ops Q S fuel listed a w → wpAny P md ops Q fuel listed a w
  | 0, _, _, _, h => h
  | fuel + 1, _, _, _, h => ⟨h.1, fun i hi => wpOp_mono (fun a' w' h' => wpAny_of_I fuel _ a' w' h'.2) (h.2 i hi)⟩
theorem wpAnyI_mono {S' : Array Bool → World → Prop} (hS : ∀ l w, S' l w → S l w) : ∀ (fuel : Nat) (listed : Array Bool) (a : Act) (w : World), wpAnyI P md ops Q S' fuel listed a w → wpAnyI P md ops Q S fuel listed a w
  | 0, _, _, _, h => h
  | fuel + 1, listed, a, w, h => ⟨h.1, fun i hi => wpOp_mono (fun a' w' h' => ⟨hS _ _ h'.1, wpAnyI_mono hS fuel _ _ _ h'.2⟩) (h.2 i hi)⟩
theorem wpAnyI_first {i : Nat} {oi : Oper} {v : Value} {Y : World → Prop} (hi : ops[i]? = some oi) (hsel : ∀ (j : Nat) (o : Oper) cs b, ops[j]? = some o → o.op ≠ .select cs b)
    (hQ : ∀ c a w, Q (.panic c) (a.put oi.dst v) w → Q (.panic c) a w) (Inv : Array Bool → Prop) (hstep : ∀ listed j, Inv listed → j ≠ i → j ∈ Region.ready md ops listed → Inv (listed.setIfInBounds j true))
    (hY : ∀ listed w, Inv listed → S listed w → Y w) (hS : ∀ listed w, S (listed.setIfInBounds i true) w ↔ S listed w) :
    ∀ (fuel : Nat) (listed : Array Bool) (a : Act) (w : World), Inv listed →
      (∀ j oj, ops[j]? = some oj → j ≠ i → listed.getD j true = false → (∀ e ∈ oj.after, Region.binds md e = true → e.on ≠ i) → oi.apart ops oj = true) →
      i ∈ Region.ready md ops listed → YieldsIf P ops Y oi v a → S listed w →
      wpAnyI P md ops Q S fuel (listed.setIfInBounds i true) (a.put oi.dst v) w → wpAnyI P md ops Q S (fuel + 1) listed a w := by
  intro fuel
  induction fuel with
  | zero =>
    intro listed a w hinv _ hr hy hSw H
    refine ⟨fun h => (by rw [h] at hr; cases hr), fun j hj => ?_⟩
    by_cases hji : j = i
    · subst hji; exact hy.wpOp hi (hY _ _ hinv hSw) ⟨(hS _ _).2 hSw, H⟩
    · have := ready_mono hj hji
      rw [H.1] at this
      cases this
  | succ fuel ih =>
    intro listed a w hinv hfree hr hy hSw H
    refine ⟨fun h => (by rw [h] at hr; cases hr), fun j hj => ?_⟩
    by_cases hji : j = i
    · subst hji; exact hy.wpOp hi (hY _ _ hinv hSw) ⟨(hS _ _).2 hSw, H⟩
    · have h1 := H.2 j (ready_mono hj hji)
      obtain ⟨hjun, oj, hoj, hall⟩ := mem_ready.1 hj
      have hnot : ∀ e ∈ oj.after, Region.binds md e = true → e.on ≠ i := fun e he hb heq => by
        have h1 := hall e he hb
        have h0 := (mem_ready.1 hr).1
        rw [heq] at h1
        rcases Nat.lt_or_ge i listed.size with h' | h'
        · simp [h'] at h0 h1; rw [h0] at h1; cases h1
        · simp [Array.getElem?_eq_none h'] at h1
      have h2 := wpOp_putIf hoj (hfree j oj hoj hji hjun hnot) (fun cs b => hsel i oi cs b hi) (fun cs b => hsel j oj cs b hoj) hQ hy h1
      have hfree' : ∀ k ok, ops[k]? = some ok → k ≠ i → (listed.setIfInBounds j true).getD k true = false →
          (∀ e ∈ ok.after, Region.binds md e = true → e.on ≠ i) → oi.apart ops ok = true := fun k ok hk hki hun hno => by
        refine hfree k ok hk hki ?_ hno
        by_cases hjk : j = k
        · subst hjk; exact hjun
        · rw [getD_set_ne true hjk] at hun; exact hun
      refine wpOp_mono (fun a' w' h3 => ?_) h2
      have hS' : S (listed.setIfInBounds j true) w' := by
        rw [← hS, Array.setIfInBounds_comm _ _ hji]
        exact h3.2.1
      refine ⟨hS', ih (listed.setIfInBounds j true) a' w' (hstep _ _ hinv hji hj) hfree' (ready_mono hr (Ne.symm hji)) h3.1 hS' ?_⟩
      rw [Array.setIfInBounds_comm _ _ hji]
      exact h3.2.2
theorem wpAnyI_all {rs : List Nat} {fuel : Nat} {listed : Array Bool} {a : Act} {w : World} (hr : Region.ready md ops listed = rs) (hne : rs ≠ [])
    (h : ∀ i ∈ rs, wpOp P ops Q i (fun a' w' => S (listed.setIfInBounds i true) w' ∧ wpAnyI P md ops Q S fuel (listed.setIfInBounds i true) a' w') a w) : wpAnyI P md ops Q S (fuel + 1) listed a w :=
  ⟨fun h0 => absurd (hr ▸ h0) hne, hr ▸ h⟩
theorem wpAnyI_done {listed : Array Bool} {a : Act} {w : World} (hr : Region.ready md ops listed = []) (h : Q .normal a w) : ∀ fuel, wpAnyI P md ops Q S fuel listed a w
  | 0 => ⟨hr, h⟩
  | _ + 1 => ⟨fun _ => h, by rw [hr]; simp⟩
theorem wp_region_I {id : Nat} {a : Act} {w : World} (hm : P.follows .mixedOrders = true)
    (h : wpAnyI P .any ops Q S ops.size (Array.replicate ops.size false) a { w with drawn := w.drawn + 1 }) : (Code.region id ops true).wp P Q a w :=
  wp_region_any hm (wpAny_of_I _ _ _ _ h)
end
def phase (Fs : List Nat) (listed : Array Bool) : Nat := (Fs.takeWhile fun k => listed.getD k false).length
theorem phase_mono {l l' : Array Bool} (h : ∀ k, l.getD k false = true → l'.getD k false = true) : ∀ Fs : List Nat, phase Fs l ≤ phase Fs l'
  | [] => Nat.le_refl _
  | k :: Fs => by
    unfold phase
    simp only [List.takeWhile_cons]
    by_cases hk : l.getD k false = true
    · rw [if_pos hk, if_pos (h k hk)]
      have := phase_mono h Fs
      unfold phase at this
      simp only [List.length_cons]
      omega
    · rw [if_neg hk]; simp
theorem phase_le {l : Array Bool} {k : Nat} (hk : l.getD k false = false) : ∀ (Fs : List Nat) {m : Nat}, Fs[m]? = some k → phase Fs l ≤ m
  | [], _, h => by simp at h
  | j :: Fs, 0, h => by
    simp at h; subst h
    unfold phase
    rw [List.takeWhile_cons, if_neg (by rw [hk]; simp)]
    simp
  | j :: Fs, m + 1, h => by
    have := phase_le hk Fs (m := m) (by simpa using h)
    unfold phase at this ⊢
    simp only [List.takeWhile_cons]
    split <;> simp only [List.length_cons, List.length_nil] <;> omega
theorem phase_top {l : Array Bool} : ∀ Fs : List Nat, phase Fs l ≤ Fs.length
  | [] => Nat.le_refl _
  | j :: Fs => by
    have := phase_top (l := l) Fs
    unfold phase at this ⊢
    simp only [List.takeWhile_cons]
    split <;> simp only [List.length_cons, List.length_nil] <;> omega
theorem phase_set {l : Array Bool} {i : Nat} : ∀ (Fs : List Nat), Fs.contains i = false → phase Fs (l.setIfInBounds i true) = phase Fs l
  | [], _ => rfl
  | k :: Fs, h => by
    simp only [List.contains_cons, Bool.or_eq_false_iff, beq_eq_false_iff_ne] at h
    unfold phase
    simp only [List.takeWhile_cons]
    rw [getD_set_ne false h.1]
    have := phase_set (l := l) Fs h.2
    unfold phase at this
    split <;> simp only [List.length_cons, List.length_nil, this]
def waitsL (md : Region.Mode) (ops : Array Oper) (i : Nat) : List (Nat × Option Nat) → List Nat → List Nat
  | [], D => D
  | (j, _) :: l, D => waitsL md ops i l (if (match ops[j]? with | some o => o.after.any fun e => Region.binds md e && (e.on == i || D.contains e.on) | none => false) then j :: D else D)
def waitsOk (md : Region.Mode) (ops : Array Oper) (i : Nat) (D : List Nat) : Bool := D.all fun k => match ops[k]? with
  | some o => o.after.any fun e => Region.binds md e && (e.on == i || D.contains e.on)
  | none => false
def allP (φ : AH → Prop) : List (AH → Prop) → Prop
  | [] => True
  | R :: l => (∀ K, R K → φ K) ∧ allP φ l
def eqM (X : AH) : AH → Prop := fun K => K = X
def rofP (Rs : List (AH → Prop)) (p : Nat) : AH → Prop := fun K => ∃ R, Rs[p]? = some R ∧ R K
theorem allP_at {φ : AH → Prop} : ∀ {l : List (AH → Prop)} {p : Nat} {R : AH → Prop}, allP φ l → l[p]? = some R → ∀ K, R K → φ K
  | [], _, _, _, h => by simp at h
  | R :: l, 0, _, h, e => by simp at e; subst e; exact h.1
  | R :: l, p + 1, _, h, e => allP_at h.2 (by simpa using e)
def isLoad : Op → Bool
  | .load .. => true
  | _ => false
def loadRo (fr : AFr) : Op → Bool
  | .load _ x => (match aeval fr x with | .ptr p => p.ro | _ => false)
  | _ => false
def quietL : List (Option Oper × Option Nat) → Nat
  | [] => 0
  | (none, _) :: _ => 0
  | (some _, some _) :: l => quietL l
  | (some o, none) :: l => if allocOp o.op && o.guard.isNone then quietL l + 1 else 0
def loadOf (fr : AFr) : Op → Option Nat
  | .load _ x => (match aeval fr x with | .ptr p => if p.ro then none else some p.blk | _ => none)
  | _ => none
def heldD : List Nat → Option Tmp → Bool
  | _, none => false
  | [], _ => false
  | h :: l, some d => if d = h then true else heldD l (some d)
def StillP (P : Program) (h : Bool) (Rs : List (AH → Prop)) (n q : Nat) (fr : AFr) (H : AH) (op : Op) (v : AV) : Prop :=
  copyOp op = true ∨ (stillOp op = true ∧ convOk op v = true ∧ (n = 0 ∨ (isLoad op = true ∧ (n ≤ q ∨ loadRo fr op = true)) ∨ (h = true ∧ ∃ i, loadOf fr op = some i ∧ allP (fun K => ¬ K.wr i) ((Rs.drop 1).take n)) ∨ ((h && isLoad op) = false ∧ rigidA H v = true ∧ allP (fun K => opA P fr K op = some (v, K) ∧ rigidA K v = true) ((Rs.drop 1).take n))))
def DOpsP (P : Program) (ops : Array Oper) (hs : List Nat) (Q : AFr → AH → Prop) : List (Option Oper × Option Nat) → List (AH → Prop) → AFr → AH → Prop
  | [], _, fr, H => Q fr H
  | (none, _) :: _, _, _, _ => False
  | (some o, some n) :: rest, Rs, fr, H => ifG (guardA ops fr o) (DOpsP P ops hs Q rest Rs (putA fr o.dst (.tup [])) H) (opThen (opA P fr H o.op) fun v _ => StillP P (heldD hs o.dst) Rs n (quietL rest) fr H o.op v ∧ DOpsP P ops hs Q rest Rs (putA fr o.dst v) H)
  | (some o, none) :: rest, Rs, fr, H => AOps P ops (fun fr' H' => match Rs with
    | _ :: R1 :: l => R1 H' ∧ DOpsP P ops hs Q rest (R1 :: l) fr' H'
    | _ => False) [o] fr H
def drawOkP (md : Region.Mode) (ops : Array Oper) (Fs : List Nat) : List (Nat × Option Nat) → Nat → Array Bool → Bool
  | [], p, listed => (Region.ready md ops listed).isEmpty
  | (i, some n) :: l, p, listed =>
    let D := waitsL md ops i l []
    Region.free md ops listed i && (Region.ready md ops listed).contains i && !Fs.contains i && waitsOk md ops i D && D.all (fun k => !listed.getD k true) && (match Fs[p + n]? with | some k => D.contains k | none => decide (Fs.length ≤ p + n)) && (phase Fs listed == p) && drawOkP md ops Fs l p (listed.setIfInBounds i true)
  | (i, none) :: l, p, listed => (Region.ready md ops listed == [i]) && (phase Fs (listed.setIfInBounds i true) == p + 1) && drawOkP md ops Fs l (p + 1) (listed.setIfInBounds i true)
def HeldP (w0 : World) (ι : List Loc) (Hp : AH) (Fs : List Nat) (Rs : List (AH → Prop)) (p q : Nat) (wp : World) (listed : Array Bool) (w : World) : Prop :=
  p ≤ phase Fs listed ∧ (phase Fs listed = p → w = wp) ∧ (phase Fs listed ≤ p + q → Same wp w) ∧ ∃ ι' H', Rep w0 ι' H' w ∧ Ext ι Hp wp ι' H' w ∧ rofP Rs (phase Fs listed) H'
theorem getD_any {l : Array Bool} {k : Nat} (h : l.getD k true = false) : l.getD k false = false := by
  rcases Nat.lt_or_ge k l.size with h' | h'
  · simp [h'] at h ⊢; exact h
  · simp [Array.getElem?_eq_none h'] at h
theorem set_keeps {l : Array Bool} {j : Nat} (k : Nat) (h : l.getD k false = true) : (l.setIfInBounds j true).getD k false = true := getD_set_true h
theorem waits_step {md : Region.Mode} {ops : Array Oper} {i : Nat} {D : List Nat} (hD : waitsOk md ops i D = true) {listed : Array Bool} (hu : ∀ k ∈ D, listed.getD k true = false) (hi : listed.getD i true = false) {j : Nat} (hji : j ≠ i) (hj : j ∈ Region.ready md ops listed) :
    (∀ k ∈ D, (listed.setIfInBounds j true).getD k true = false) ∧ (listed.setIfInBounds j true).getD i true = false := by
  have hjD : j ∉ D := fun hm => by
    unfold waitsOk at hD
    have h1 := List.all_eq_true.1 hD j hm
    obtain ⟨_, o, ho, hall⟩ := mem_ready.1 hj
    rw [ho] at h1
    obtain ⟨e, he, hb⟩ := Array.any_eq_true'.1 h1
    simp only [Bool.and_eq_true, Bool.or_eq_true, beq_iff_eq] at hb
    have h2 := hall e he hb.1
    rcases hb.2 with h3 | h3
    · rw [h3] at h2; rw [getD_any hi] at h2; cases h2
    · rw [getD_any (hu _ (by simpa using h3))] at h2; cases h2
  refine ⟨fun k hk => ?_, by rw [getD_set_ne true hji]; exact hi⟩
  rw [getD_set_ne true (fun e => hjD (by rw [e]; exact hk))]
  exact hu k hk
theorem rofP_at {φ : AH → Prop} {Rs : List (AH → Prop)} {p n q : Nat} (h : allP φ (((Rs.drop p).drop 1).take n)) (h1 : p < q) (h2 : q ≤ p + n) {K : AH} (hK : rofP Rs q K) : φ K := by
  obtain ⟨R, hR, hK⟩ := hK
  refine allP_at (p := q - (p + 1)) (R := R) h ?_ K hK
  rw [List.getElem?_take, if_pos (by omega), List.drop_drop, List.getElem?_drop, show p + 1 + (q - (p + 1)) = q by omega]
  exact hR
theorem DOpsP_sound {P : Program} {md : Region.Mode} {ops : Array Oper} {hl : List Nat} {Q : AFr → AH → Prop} {N : Nat} {ds : List Deferred} {QC : Exit → Act → World → Prop} {w0 : World} {Fs : List Nat} {Rs : List (AH → Prop)} (hsel : Region.noSelect ops = true) (hd : ∀ (i : Nat) (o : Oper), ops[i]? = some o → ∀ d, o.dst = some d → d < N)
    {ιs : List Loc} {Hs : AH} {ws : World} (hQ : ∀ fr' H' ι' a' w', Q fr' H' → St w0 ι' N ds fr' H' a' w' → Ext ιs Hs ws ι' H' w' → QC .normal a' w') :
    ∀ (l : List (Nat × Option Nat)) (p : Nat) (listed : Array Bool) (fr : AFr) (H : AH) (a : Act) (w : World) (ι : List Loc), drawOkP md ops Fs l p listed = true → phase Fs listed = p → DOpsP P ops hl Q (l.map fun p => (ops[p.1]?, p.2)) (Rs.drop p) fr H → St w0 ι N ds fr H a w → rofP Rs p H → Ext ιs Hs ws ι H w →
      wpAnyI P md ops (onlyN QC) (HeldP w0 ι H Fs Rs p (quietL (l.map fun p => (ops[p.1]?, p.2))) w) l.length listed a w
  | [], p, listed, fr, H, a, w, ι, hok, hph, h, hs, hR, he => by
    simp only [drawOkP, List.isEmpty_iff] at hok
    exact wpAnyI_done hok ⟨rfl, hQ _ _ _ _ _ h hs he⟩ _
  | (i, some n) :: l, p, listed, fr, H, a, w, ι, hok, hph, h, hs, hR, he => by
    simp only [drawOkP, Bool.and_eq_true, Bool.not_eq_true', beq_iff_eq] at hok
    obtain ⟨⟨⟨⟨⟨⟨⟨hf, hr⟩, hFi⟩, hW⟩, hDu⟩, hdl⟩, _⟩, hok⟩ := hok
    simp only [List.map_cons] at h
    cases hi : ops[i]? with
    | none => rw [hi] at h; exact h.elim
    | some o =>
      rw [hi] at h
      simp only [DOpsP] at h
      have hq0 : quietL (((i, some n) :: l).map fun p => (ops[p.1]?, p.2)) = quietL (l.map fun p => (ops[p.1]?, p.2)) := by simp only [List.map_cons, hi, quietL]
      rw [hq0]
      generalize hqq : quietL (l.map fun p => (ops[p.1]?, p.2)) = qq at h
      have hheld : HeldP w0 ι H Fs Rs p qq w listed w := ⟨by omega, fun _ => rfl, fun _ => Same.refl _, ι, H, hs.rep, Ext.refl _ _ _, by rw [hph]; exact hR⟩
      have hp : ∀ c a' (w' : World) (v : Value), onlyN QC (.panic c) (a'.put o.dst v) w' → onlyN QC (.panic c) a' w' := fun c a' w' v hh => by cases hh.1
      have hph' : phase Fs (listed.setIfInBounds i true) = p := by rw [phase_set Fs hFi]; exact hph
      have hSi : ∀ (listed : Array Bool) (w' : World), HeldP w0 ι H Fs Rs p qq w (listed.setIfInBounds i true) w' ↔ HeldP w0 ι H Fs Rs p qq w listed w' := fun listed w' => by
        unfold HeldP; rw [phase_set Fs hFi]
      have hr' : i ∈ Region.ready md ops listed := by simpa using hr
      have hui : listed.getD i true = false := (mem_ready.1 hr').1
      have hDu' : ∀ k ∈ waitsL md ops i l [], listed.getD k true = false := fun k hk => by simpa using List.all_eq_true.1 hDu k hk
      let Inv : Array Bool → Prop := fun l' => (∀ k, listed.getD k false = true → l'.getD k false = true) ∧ (∀ k ∈ waitsL md ops i l [], l'.getD k true = false) ∧ l'.getD i true = false
      have hinv : Inv listed := ⟨fun _ h => h, hDu', hui⟩
      have hstep : ∀ l' j, Inv l' → j ≠ i → j ∈ Region.ready md ops l' → Inv (l'.setIfInBounds j true) := fun l' j ⟨h1, h2, h3⟩ hji hj => by
        have := waits_step hW h2 h3 hji hj
        exact ⟨fun k hk => set_keeps k (h1 k hk), this.1, this.2⟩
      have hbound : ∀ l', Inv l' → p ≤ phase Fs l' ∧ phase Fs l' ≤ p + n := fun l' ⟨h1, h2, h3⟩ => by
        refine ⟨by rw [← hph]; exact phase_mono h1 Fs, ?_⟩
        split at hdl
        · rename_i k hk
          exact phase_le (getD_any (h2 k (by simpa using hdl))) Fs hk
        · exact Nat.le_trans (phase_top Fs) (by simpa using hdl)
      have fin : ∀ (v : Value) (Y : World → Prop), (∀ l' w', Inv l' → HeldP w0 ι H Fs Rs p qq w l' w' → Y w') → YieldsIf P ops Y o v a → wpAnyI P md ops (onlyN QC) (HeldP w0 ι H Fs Rs p qq w) l.length (listed.setIfInBounds i true) (a.put o.dst v) w →
          wpAnyI P md ops (onlyN QC) (HeldP w0 ι H Fs Rs p qq w) (l.length + 1) listed a w := fun v Y hY hy hk =>
        wpAnyI_first (Y := Y) hi (Region.noSelect_spec hsel) (fun c a' w' => hp c a' w' _) Inv hstep hY hSi l.length listed a w hinv (Region.free_spec hi hf) hr' hy hheld hk
      cases hg : guardA ops fr o with
      | none => rw [hg] at h; exact h.elim
      | some b =>
        rw [hg] at h
        have hw := guardA_ok hs hg
        cases b with
        | false =>
          simp only [ifG] at h
          exact fin undef (fun _ => True) (fun _ _ _ _ => trivial) (.inr ⟨hw, rfl⟩) (hqq ▸ DOpsP_sound hsel hd hQ l p _ _ H _ w ι hok hph' h (hs.put (hd i o hi) hs.rep (LocLe.refl ι) RV_undef) hR he)
        | true =>
          simp only [ifG] at h
          cases ho : opA P fr H o.op with
          | none => rw [ho] at h; exact h.elim
          | some vh =>
            obtain ⟨v, H1⟩ := vh
            rw [ho] at h
            simp only [opThen] at h
            obtain ⟨hst, h⟩ := h
            have key : ∃ cv, YieldsIf P ops (fun w' => ∃ l', Inv l' ∧ HeldP w0 ι H Fs Rs p qq w l' w') o cv a ∧ RV w0.heap.size ι v cv := by
              rcases hst with hc | ⟨hc, hconv, hst⟩
              · obtain ⟨_, cv, h1, h2⟩ := opA_copy hs.rep hs.fr hc ho
                exact ⟨cv, .inl ⟨hw, fun w' _ => h1 w'⟩, h2⟩
              · by_cases hld : isLoad o.op = true ∧ (n ≤ qq ∨ loadRo fr o.op = true ∨ ∃ i, loadOf fr o.op = some i ∧ allP (fun K => ¬ K.wr i) (((Rs.drop p).drop 1).take n))
                · obtain ⟨hl1, hl2⟩ := hld
                  obtain ⟨dst, op, type, pos, after, guard⟩ := o
                  cases op <;> simp only [isLoad, Bool.false_eq_true] at hl1
                  rename_i t x
                  simp only [opA] at ho
                  split at ho
                  · rename_i pa hpa
                    obtain ⟨v', hv', ho⟩ := Option.map_eq_some_iff.1 ho
                    injection ho with e1 e2
                    subst e1
                    have hx := aeval_ok hs.fr x
                    rw [hpa] at hx
                    unfold RV at hx
                    obtain ⟨z, B, z1, z2, z3, z5, z4⟩ := load_stable (P := P) hs.rep hv' hx
                    refine ⟨z, .inl ⟨hw, fun w' hw' => ?_⟩, z1⟩
                    obtain ⟨l', hl', hp1, hp2, hp3, ι', H', hrep, hext, hRH⟩ := hw'
                    have hle := hext.le
                    have hb := hbound l' hl'
                    have hsame : SameB w w' B := by
                      rcases hl2 with hl2 | hl2 | ⟨bi, hl2, hl3⟩
                      · exact .of ((hp3 (by omega)).2 B z2)
                      · have : pa.ro = true := by simpa [loadRo, hpa] using hl2
                        have hB := z3 this
                        exact .of (by rw [hrep.below.block B hB, hs.rep.below.block B hB])
                      · simp only [loadOf, hpa] at hl2
                        split at hl2
                        · cases hl2
                        · rename_i hro
                          injection hl2 with hl2
                          obtain ⟨O, m, z6⟩ := z5 (by simpa using hro)
                          by_cases hpp : phase Fs l' = p
                          · rw [hp2 hpp]; exact SameB.refl _ _
                          · exact (hext.still _ _ _ _ z6 z2 (by rw [hl2]; exact rofP_at hl3 (by omega) hb.2 hRH)).1
                    have := z4 w' hsame
                    simp [execOp, this]
                  · cases ho
                have hst : n = 0 ∨ (rigidA H v = true ∧ allP (fun K => opA P fr K o.op = some (v, K) ∧ rigidA K v = true) (((Rs.drop p).drop 1).take n)) := by
                  rcases hst with h0 | h0 | ⟨_, bi, h0, h1⟩ | ⟨_, h0⟩
                  · exact .inl h0
                  · exact absurd ⟨h0.1, h0.2.elim .inl fun e => .inr (.inl e)⟩ hld
                  · exact absurd ⟨by revert h0; cases o.op <;> simp [loadOf, isLoad], .inr (.inr ⟨bi, h0, h1⟩)⟩ hld
                  · exact .inr h0
                have hcv : ∀ a n c, v ≠ .slice a n c ∨ ∀ s d x, o.op ≠ .convert s d x := fun a' n c => by
                  by_cases hv : v = .slice a' n c
                  · right
                    intro s d x he
                    rw [he, hv] at hconv
                    cases hconv
                  · exact .inl hv
                obtain ⟨_, cv, h1, h2⟩ := opA_still hs.rep hs.fr hc hcv ho
                refine ⟨cv, .inl ⟨hw, fun w' hw' => ?_⟩, h2⟩
                obtain ⟨l', hl', hp1, hp2, hp3, ι', H', hrep, hext, hRH⟩ := hw'
                have hle := hext.le
                by_cases hpp : phase Fs l' = p
                · rw [hp2 hpp]; exact h1
                · have hb := hbound l' hl'
                  rcases hst with hn | ⟨hrig, hall⟩
                  · omega
                  · obtain ⟨g1, g2⟩ := rofP_at hall (by omega) hb.2 hRH
                    obtain ⟨_, cv', k1, k2⟩ := opA_still hrep (hs.fr.ext hle) hc hcv g1
                    rw [k1, rigid_eq hs.rep hrep hle hrig g2 h2 k2]
            obtain ⟨cv, hy, hv⟩ := key
            exact fin cv _ (fun l' w' h1 h2 => ⟨l', h1, h2⟩) hy (hqq ▸ DOpsP_sound hsel hd hQ l p _ _ H _ w ι hok hph' h (hs.put (hd i o hi) hs.rep (LocLe.refl ι) hv) hR he)
  | (i, none) :: l, p, listed, fr, H, a, w, ι, hok, hph, h, hs, hR, he => by
    simp only [drawOkP, Bool.and_eq_true, beq_iff_eq] at hok
    obtain ⟨⟨hr, hph'⟩, hok⟩ := hok
    simp only [List.map_cons] at h
    cases hi : ops[i]? with
    | none => rw [hi] at h; exact h.elim
    | some o =>
      rw [hi] at h
      simp only [DOpsP] at h
      refine wpAnyI_all hr (by simp) fun j hj => ?_
      obtain rfl : j = i := by simpa using hj
      have hq0 : quietL (((j, none) :: l).map fun p => (ops[p.1]?, p.2)) = if allocOp o.op && o.guard.isNone then quietL (l.map fun p => (ops[p.1]?, p.2)) + 1 else 0 := by simp only [List.map_cons, hi, quietL]
      rw [hq0]
      generalize hq1 : quietL (l.map fun p => (ops[p.1]?, p.2)) = q1
      generalize hqq : (if allocOp o.op && o.guard.isNone then q1 + 1 else 0) = qq
      have step : ∀ fr1 H1 ι1 a1 w1, (match Rs.drop p with | _ :: R1 :: l' => R1 H1 ∧ DOpsP P ops hl Q (l.map fun p => (ops[p.1]?, p.2)) (R1 :: l') fr1 H1 | _ => False) → St w0 ι1 N ds fr1 H1 a1 w1 → Ext ι H w ι1 H1 w1 → (qq = 0 ∨ (qq = q1 + 1 ∧ Same w w1)) →
          HeldP w0 ι H Fs Rs p qq w (listed.setIfInBounds j true) w1 ∧ wpAnyI P md ops (onlyN QC) (HeldP w0 ι H Fs Rs p qq w) l.length (listed.setIfInBounds j true) a1 w1 := fun fr1 H1 ι1 a1 w1 hh hs1 he1 hsm => by
        have hdrop : ∃ R0 R1 l', Rs.drop p = R0 :: R1 :: l' ∧ R1 H1 ∧ DOpsP P ops hl Q (l.map fun p => (ops[p.1]?, p.2)) (R1 :: l') fr1 H1 := by
          split at hh
          · rename_i R0 R1 l' e; exact ⟨R0, R1, l', e, hh.1, hh.2⟩
          · exact hh.elim
        obtain ⟨R0, R1, l', e, h1, h2⟩ := hdrop
        have e1 : Rs.drop (p + 1) = R1 :: l' := by rw [← List.drop_drop, e]; rfl
        have hR1 : rofP Rs (p + 1) H1 := ⟨R1, by have := congrArg (·[0]?) e1; simpa using this, h1⟩
        refine ⟨⟨by omega, fun e => by omega, fun hle => by
          rcases hsm with h0 | ⟨_, h0⟩
          · omega
          · exact h0, ι1, H1, hs1.rep, he1, by rw [hph']; exact hR1⟩, ?_⟩
        refine wpAnyI_mono (S' := HeldP w0 ι1 H1 Fs Rs (p + 1) q1 w1) ?_ _ _ _ _ (hq1 ▸ DOpsP_sound hsel hd hQ l (p + 1) _ fr1 H1 a1 w1 ι1 hok hph' (by rw [e1]; exact h2) hs1 hR1 (he.trans he1))
        rintro l2 w2 ⟨k0, _, k9, ι2, H2, k1, k2, k3⟩
        exact ⟨by omega, fun e => by omega, fun hle => by
          rcases hsm with h0 | ⟨h0, h5⟩
          · omega
          · exact h5.trans (k9 (by omega)), ι2, H2, k1, he1.trans k2, k3⟩
      unfold wpOp
      simp only [hi]
      simp only [AOps] at h
      cases hg : guardA ops fr o with
      | none => rw [hg] at h; exact h.elim
      | some b =>
        rw [hg] at h
        rw [guardA_ok hs hg]
        cases b with
        | false =>
          simp only at h
          simp only [Bool.false_eq_true, if_false]
          refine step _ _ ι _ w h (hs.put (hd j o hi) hs.rep (LocLe.refl ι) RV_undef) (Ext.refl _ _ _) (.inl ?_)
          have : o.guard.isNone = false := by
            cases hgd : o.guard with
            | none => simp [guardA, hgd] at hg
            | some _ => rfl
          rw [← hqq, this]; simp
        | true =>
          simp only at h
          simp only [if_true]
          left
          cases hc : callA fr o.op with
          | some fa =>
            obtain ⟨f, args⟩ := fa
            rw [hc] at h
            simp only at h
            exact call_step hs hc (hd j o hi) h fun r H' ι' a' w' h1 h2 h3 => step _ _ _ _ _ h1 h2 h3 (.inl (by
              have : allocOp o.op = false := by cases ho' : o.op <;> first | rfl | (rw [ho'] at hc; simp [callA] at hc)
              rw [← hqq, this]; simp))
          | none =>
            rw [hc] at h
            simp only at h
            cases ho : opA P fr H o.op with
            | none => rw [ho] at h; exact h.elim
            | some vh =>
              obtain ⟨v, H'⟩ := vh
              rw [ho] at h
              by_cases hal : (allocOp o.op && o.guard.isNone) = true
              · obtain ⟨w', ι', r1, r2, r3⟩ := opA_ok hs.rep hs.fr ho
                have hal' : allocOp o.op = true := by simp at hal; exact hal.1
                have hq3 : qq = q1 + 1 := by rw [← hqq, if_pos hal]
                unfold Oper.wp
                rcases r3 with ⟨cv, hr', hv⟩ | ⟨hr', rfl⟩
                · rw [hr']
                  exact step _ _ ι' _ w' h (hs.put (hd j o hi) r1 r2.le hv) r2 (.inr ⟨hq3, alloc_same hs hal' ho hr'⟩)
                · rw [hr']
                  exact step _ _ ι' _ w' h (hs.put (hd j o hi) r1 r2.le (by unfold RV; trivial)) r2 (.inr ⟨hq3, alloc_same hs hal' ho hr'⟩)
              · exact op_step hs ho (hd j o hi) fun ι' a' w' h2 h3 => step _ _ _ _ _ h h2 h3 (.inl (by rw [← hqq, if_neg hal]))
theorem awp_drawP {P : Program} {N : Nat} {Q : Exit → AFr → AH → Prop} {fr : AFr} {H : AH} {id : Nat} {l : List Oper} (Rs : List (AH → Prop)) (order : List (Nat × Option Nat)) (Fs : List Nat) {hl : List Nat} (hm : P.follows .mixedOrders = true) (hd : dstsOk N l = true)
    (hok : (Region.noSelect l.toArray && order.length == l.length && phase Fs (Array.replicate l.length false) == 0 && drawOkP .any l.toArray Fs order 0 (Array.replicate l.length false)) = true) (hR : rofP Rs 0 H)
    (h : DOpsP P l.toArray hl (Q .normal) (order.map fun p => (l.toArray[p.1]?, p.2)) Rs fr H) : AWp P N (.region id l.toArray true) Q fr H := fun ds w0 ι a w QC hs hQ => by
  simp only [Bool.and_eq_true, beq_iff_eq] at hok
  obtain ⟨⟨⟨h1, h2⟩, h4⟩, h3⟩ := hok
  have hdr : ∀ (i : Nat) (o : Oper), l.toArray[i]? = some o → ∀ d, o.dst = some d → d < N := fun i o ho => dstsOk_spec hd o (List.mem_of_getElem? (by simpa using ho))
  obtain ⟨k0, k2⟩ := hs.rep.drew
  have k1 : St w0 ι N ds fr H a w.drew := ⟨k0, hs.fr, hs.size, hs.defers⟩
  refine wp_mono (Q := onlyN QC) (wp_region_I (S := HeldP w0 ι H Fs Rs 0 (quietL (order.map fun p => (l.toArray[p.1]?, p.2))) { w with drawn := w.drawn + 1 }) hm ?_) (fun e a w hh => hh.1 ▸ hh.2)
  have := DOpsP_sound (P := P) (hl := hl) (md := .any) (QC := QC) (Fs := Fs) (Rs := Rs) h1 hdr (fun fr' H' ι' a' w' g1 g2 g3 => hQ .normal fr' H' ι' a' w' g1 g2 g3) order 0 _ fr H a { w with drawn := w.drawn + 1 } ι h3 h4 (by simpa using h) k1 hR k2
  rw [h2] at this
  simpa using this
def AH.clr (H : AH) : AH := ⟨H.ro, H.rw, fun _ => False⟩
def AH.also (H : AH) (X : Nat → Prop) : AH := ⟨H.ro, H.rw, fun j => H.wr j ∨ X j⟩
theorem clr_n (H : AH) : H.clr.n = H.n := nr rfl
theorem also_n (H : AH) (X : Nat → Prop) : (H.also X).n = H.n := nr rfl
theorem clr_cells (H : AH) (i : Nat) : H.clr.cells? i = H.cells? i := nr rfl
theorem also_cells (H : AH) (X : Nat → Prop) (i : Nat) : (H.also X).cells? i = H.cells? i := nr rfl
theorem clr_also (H : AH) : H.clr.also H.wr = H := by
  cases H; simp only [AH.clr, AH.also, false_or]
theorem also_push (H : AH) (b : Option ABlk) (X : Nat → Prop) : (H.push b).also X = (H.also X).push b := by
  simp only [AH.push, AH.also, or_assoc]
theorem also_set (H : AH) (i : Nat) (b : Option ABlk) (X : Nat → Prop) : (H.set i b).also X = (H.also X).set i b := by
  simp only [AH.set, AH.also, or_assoc]
theorem clr_wr (H : AH) (i : Nat) : H.clr.wr i = False := nr rfl
theorem push_wr (H : AH) (b : Option ABlk) (i : Nat) : (H.push b).wr i = (i = H.n ∨ H.wr i) := nr rfl
theorem set_wr (H : AH) (j : Nat) (b : Option ABlk) (i : Nat) : (H.set j b).wr i = (i = j ∨ H.wr i) := nr rfl
theorem awp_drawH {P : Program} {N : Nat} {Q : Exit → AFr → AH → Prop} {fr : AFr} {H : AH} {id : Nat} {l : List Oper} (hl : List Nat) (Rs : List (AH → Prop)) (order : List (Nat × Option Nat)) (Fs : List Nat) (hm : P.follows .mixedOrders = true) (hd : dstsOk N l = true)
    (hok : (Region.noSelect l.toArray && order.length == l.length && phase Fs (Array.replicate l.length false) == 0 && drawOkP .any l.toArray Fs order 0 (Array.replicate l.length false)) = true) (hR : rofP Rs 0 H.clr)
    (h : DOpsP P l.toArray hl (fun fr' H' => Q .normal fr' (H'.also H.wr)) (order.map fun p => (l.toArray[p.1]?, p.2)) Rs fr H.clr) : AWp P N (.region id l.toArray true) Q fr H := fun ds w0 ι a w QC hs hQ =>
  awp_drawP (Q := fun e fr' H' => e = .normal ∧ Q .normal fr' (H'.also H.wr)) Rs order Fs hm hd hok hR (by simpa using h) ds w0 ι a w QC ⟨hs.rep.more _, hs.fr, hs.size, hs.defers⟩ fun e fr' H' ι' a' w' ⟨g0, g1⟩ g2 g3 => by
    subst g0
    refine hQ .normal fr' _ ι' a' w' g1 ⟨g2.rep.more _, g2.fr, g2.size, g2.defers⟩ ?_
    exact ⟨g3.ro, g3.len, g3.loc, g3.pend, g3.size, g3.frame, g3.img, fun i hi => .inr hi, fun i B O m hi hB hn => g3.still i B O m hi hB fun e => hn (.inl e)⟩
def roV : AV → Bool
  | .ptr p => p.ro
  | _ => false
theorem roV_ptr {p : AAddr} : roV (.ptr p) = p.ro := nr rfl
theorem roV_c {v v' : AV} (h : mark v = v') : roV v = roV v' := by rw [← h, mark_eq]
theorem quietL_nil : quietL [] = 0 := rfl
theorem quietL_free {o : Oper} {n : Nat} {l : List (Option Oper × Option Nat)} : quietL ((some o, some n) :: l) = quietL l := nr rfl
theorem quietL_none {d : Option Tmp} {op : Op} {ty : TypeId} {ps : String} {af : Array Edge} {l : List (Option Oper × Option Nat)} : quietL ((some ⟨d, op, ty, ps, af, none⟩, none) :: l) = if allocOp op = true then quietL l + 1 else 0 := by simp [quietL]
theorem quietL_grd {d : Option Tmp} {op : Op} {ty : TypeId} {ps : String} {af : Array Edge} {g : Nat × Bool} {l : List (Option Oper × Option Nat)} : quietL ((some ⟨d, op, ty, ps, af, some g⟩, none) :: l) = 0 := by simp [quietL]
theorem le_le0 {n : Nat} : (n + 1 ≤ 0) = False := by simp
theorem le_sle {n m : Nat} : (n + 1 ≤ m + 1) = (n ≤ m) := by simp
theorem le_0l {m : Nat} : (0 ≤ m) = True := by simp
def rigP (Rs : List (AH → Prop)) (n : Nat) (H : AH) (v : AV) : Prop := n = 0 ∨ (rigidA H v = true ∧ allP (fun K => rigidA K v = true) ((Rs.drop 1).take n))
def sameP (Rs : List (AH → Prop)) (n : Nat) (H : AH) (f : AH → Option (AV × AH)) (v : AV) : Prop := n = 0 ∨ (rigidA H v = true ∧ allP (fun K => f K = some (v, K) ∧ rigidA K v = true) ((Rs.drop 1).take n))
theorem sameP_c {Rs : List (AH → Prop)} {n : Nat} {H : AH} {f : AH → Option (AV × AH)} {v v' : AV} (h : mark v = v') : sameP Rs n H f v = sameP Rs n H f v' := by rw [← h, mark_eq]
theorem rigP_c {Rs : List (AH → Prop)} {n : Nat} {H : AH} {v v' : AV} (h : mark v = v') : rigP Rs n H v = rigP Rs n H v' := by rw [← h, mark_eq]
theorem allP_triv {φ : AH → Prop} (h : ∀ K, φ K) : ∀ l, allP φ l
  | [] => trivial
  | R :: l => ⟨fun K _ => h K, allP_triv h l⟩
section
variable {P : Program} {ops : Array Oper} {hs : List Nat} {Rs : List (AH → Prop)} {n : Nat} {Q : AFr → AH → Prop} {rest : List (Option Oper × Option Nat)} {fr : AFr} {H : AH} {ty : TypeId} {ps : String} {af : Array Edge} {d : Tmp}
theorem rigP_int {k : IntKind} {i : Int} : rigP Rs n H (.int k i) = True := eq_true (.inr ⟨rfl, allP_triv (fun _ => rfl) _⟩)
theorem rigP_bool {b : Bool} : rigP Rs n H (.bool b) = True := eq_true (.inr ⟨rfl, allP_triv (fun _ => rfl) _⟩)
theorem rigP_bv {b : UInt8} : rigP Rs n H (bv b) = True := rigP_int
theorem rigP_str {b : ByteArray} : rigP Rs n H (.str b) = True := eq_true (.inr ⟨rfl, allP_triv (fun _ => rfl) _⟩)
theorem rigP_nilptr : rigP Rs n H .nilptr = True := eq_true (.inr ⟨rfl, allP_triv (fun _ => rfl) _⟩)
theorem rigP_nilslice : rigP Rs n H .nilslice = True := eq_true (.inr ⟨rfl, allP_triv (fun _ => rfl) _⟩)
theorem rigP_ro {b o : Nat} : rigP Rs n H (.ptr ⟨true, b, o⟩) = True := eq_true (.inr ⟨rfl, allP_triv (fun _ => rfl) _⟩)
theorem rigP_z {v : AV} : rigP Rs 0 H v = True := eq_true (.inl rfl)
theorem sameP_z {f : AH → Option (AV × AH)} {v : AV} : sameP Rs 0 H f v = True := eq_true (.inl rfl)
theorem rigP_0 {R0 : AH → Prop} {X : AH} {l : List (AH → Prop)} {v : AV} : rigP (R0 :: eqM X :: l) 1 H v = (rigidA H v = true ∧ rigidA X v = true) := by
  simp only [rigP, List.drop_succ_cons, List.drop_zero, List.take_succ_cons, List.take_zero, allP, eqM, and_true, Nat.succ_ne_zero, false_or]
  exact propext ⟨fun ⟨h1, h2⟩ => ⟨h1, h2 X rfl⟩, fun ⟨h1, h2⟩ => ⟨h1, fun K e => by rw [e]; exact h2⟩⟩
theorem rigP_s {R0 : AH → Prop} {X : AH} {l : List (AH → Prop)} {v : AV} : rigP (R0 :: eqM X :: l) (n + 2) H v = (rigidA X v = true ∧ rigP (eqM X :: l) (n + 1) H v) := by
  simp only [rigP, List.drop_succ_cons, List.drop_zero, List.take_succ_cons, allP, eqM, Nat.succ_ne_zero, false_or]
  exact propext ⟨fun ⟨h1, h2, h3⟩ => ⟨h2 X rfl, h1, h3⟩, fun ⟨h2, h1, h3⟩ => ⟨h1, fun K e => by rw [e]; exact h2, h3⟩⟩
theorem sameP_0 {R0 : AH → Prop} {X : AH} {l : List (AH → Prop)} {f : AH → Option (AV × AH)} {v : AV} : sameP (R0 :: eqM X :: l) 1 H f v = (rigidA H v = true ∧ f X = some (v, X) ∧ rigidA X v = true) := by
  simp only [sameP, List.drop_succ_cons, List.drop_zero, List.take_succ_cons, List.take_zero, allP, eqM, and_true, Nat.succ_ne_zero, false_or]
  exact propext ⟨fun ⟨h1, h2⟩ => ⟨h1, h2 X rfl⟩, fun ⟨h1, h2⟩ => ⟨h1, fun K e => by rw [e]; exact h2⟩⟩
theorem sameP_s {R0 : AH → Prop} {X : AH} {l : List (AH → Prop)} {f : AH → Option (AV × AH)} {v : AV} : sameP (R0 :: eqM X :: l) (n + 2) H f v = ((f X = some (v, X) ∧ rigidA X v = true) ∧ sameP (eqM X :: l) (n + 1) H f v) := by
  simp only [sameP, List.drop_succ_cons, List.drop_zero, List.take_succ_cons, allP, eqM, Nat.succ_ne_zero, false_or]
  exact propext ⟨fun ⟨h1, h2, h3⟩ => ⟨h2 X rfl, h1, h3⟩, fun ⟨h2, h1, h3⟩ => ⟨h1, fun K e => by rw [e]; exact h2, h3⟩⟩
theorem rigP_g {R0 R1 : AH → Prop} {l : List (AH → Prop)} {v : AV} : rigP (R0 :: R1 :: l) 1 H v = (rigidA H v = true ∧ ∀ K, R1 K → rigidA K v = true) := by
  simp only [rigP, List.drop_succ_cons, List.drop_zero, List.take_succ_cons, List.take_zero, allP, and_true, Nat.succ_ne_zero, false_or]
theorem DP_nil : DOpsP P ops hs Q [] Rs fr H = Q fr H := nr rfl
theorem DP_none {o : Oper} {R0 R1 : AH → Prop} {l : List (AH → Prop)} : DOpsP P ops hs Q ((some o, none) :: rest) (R0 :: R1 :: l) fr H = AOps P ops (fun fr' H' => R1 H' ∧ DOpsP P ops hs Q rest (R1 :: l) fr' H') [o] fr H := nr rfl
theorem DP_grd {d : Option Tmp} {op : Op} {j : Nat} {want : Bool} :
    DOpsP P ops hs Q ((some ⟨d, op, ty, ps, af, some (j, want)⟩, some n) :: rest) Rs fr H = ifG (gval (gdst ops j) fr want) (DOpsP P ops hs Q rest Rs (putA fr d (.tup [])) H) (DOpsP P ops hs Q ((some ⟨d, op, ty, ps, af, none⟩, some n) :: rest) Rs fr H) := by
  simp only [DOpsP, guardA, ifG]
  unfold gdst gval
  cases (ops[j]?).bind (·.dst) <;> rfl
theorem DP_plain {op : Op} : DOpsP P ops hs Q ((some ⟨some d, op, ty, ps, af, none⟩, some n) :: rest) Rs fr H = opThen (opA P fr H op) fun v _ => StillP P (heldD hs (some d)) Rs n (quietL rest) fr H op v ∧ DOpsP P ops hs Q rest Rs (lput fr d v) H := by
  simp only [DOpsP, guardA, ifG, putA]
theorem DP_move {x : Operand} : DOpsP P ops hs Q ((some ⟨some d, .move x, ty, ps, af, none⟩, some n) :: rest) Rs fr H = DOpsP P ops hs Q rest Rs (lput fr d (aeval fr x)) H := by
  rw [DP_plain]; simp [opA, opThen, StillP, copyOp]
theorem DP_assign {x : Operand} : DOpsP P ops hs Q ((some ⟨some d, .assign x, ty, ps, af, none⟩, some n) :: rest) Rs fr H = DOpsP P ops hs Q rest Rs (lput fr d (aeval fr x)) H := by
  rw [DP_plain]; simp [opA, opThen, StillP, copyOp]
theorem stillP_copy {b : Bool} {q : Nat} {op : Op} {v : AV} (h : copyOp op = true) : StillP P b Rs n q fr H op v = True := by simp [StillP, h]
theorem DP_pick {c x y : Operand} : DOpsP P ops hs Q ((some ⟨some d, .pick c x y, ty, ps, af, none⟩, some n) :: rest) Rs fr H = opThen (match aeval fr c with | .bool t => some (if t then aeval fr x else aeval fr y, H) | _ => none) fun v _ => DOpsP P ops hs Q rest Rs (lput fr d v) H := by
  rw [DP_plain]; simp only [stillP_copy (show copyOp (.pick c x y) = true from rfl), true_and, opA]; rfl
theorem DP_nilCheck {x : Operand} : DOpsP P ops hs Q ((some ⟨some d, .nilCheck x, ty, ps, af, none⟩, some n) :: rest) Rs fr H = opThen (match aeval fr x with | .ptr p => some (.ptr p, H) | .func f l => some (.func f l, H) | _ => none) fun v _ => DOpsP P ops hs Q rest Rs (lput fr d v) H := by
  rw [DP_plain]; simp only [stillP_copy (show copyOp (.nilCheck x) = true from rfl), true_and, opA]; rfl
theorem DP_extract {x : Operand} {m : Nat} : DOpsP P ops hs Q ((some ⟨some d, .extract x m, ty, ps, af, none⟩, some n) :: rest) Rs fr H = opThen (match aeval fr x with | .tup l => (l[m]?).map fun v => (v, H) | _ => none) fun v _ => DOpsP P ops hs Q rest Rs (lput fr d v) H := by
  rw [DP_plain]; simp only [stillP_copy (show copyOp (.extract x m) = true from rfl), true_and, opA]; rfl
theorem DP_slice {t : TypeId} {x : Operand} {lo hi mx : Option Operand} : DOpsP P ops hs Q ((some ⟨some d, .slice t x lo hi mx, ty, ps, af, none⟩, some n) :: rest) Rs fr H = opThen ((sliceOpA P t (aeval fr x) (lo.map (aeval fr)) (hi.map (aeval fr)) (mx.map (aeval fr))).map fun v => (v, H)) fun v _ => DOpsP P ops hs Q rest Rs (lput fr d v) H := by
  rw [DP_plain]; simp only [stillP_copy (show copyOp (.slice t x lo hi mx) = true from rfl), true_and, opA]
theorem DP_buildP {t : TypeId} {q : List (Nat × Operand)} : DOpsP P ops hs Q ((some ⟨some d, .build t q.toArray, ty, ps, af, none⟩, some n) :: rest) Rs fr H = opThen ((buildA P t (partsA fr q)).map fun v => (v, H)) fun v _ => DOpsP P ops hs Q rest Rs (lput fr d v) H := by
  rw [DP_plain]; simp only [stillP_copy (show copyOp (.build t q.toArray) = true from rfl), true_and, opA, ← partsA_eq, mark_eq]
def heldV (Rs : List (AH → Prop)) (n : Nat) (x : AV) : Prop := n = 0 ∨ match x with
  | .ptr p => p.ro = false ∧ allP (fun K => ¬ K.wr p.blk) ((Rs.drop 1).take n)
  | _ => False
def ldP (b : Bool) (Rs : List (AH → Prop)) (n : Nat) (H : AH) (f : AH → Option (AV × AH)) (x v : AV) : Prop := if b then heldV Rs n x else sameP Rs n H f v
theorem ldP_f {f : AH → Option (AV × AH)} {x v : AV} : ldP false Rs n H f x v = sameP Rs n H f v := nr rfl
theorem ldP_t {f : AH → Option (AV × AH)} {x v : AV} : ldP true Rs n H f x v = heldV Rs n x := nr rfl
theorem ldP_c {b b' : Bool} {f : AH → Option (AV × AH)} {x v : AV} (h : mark b = b') : ldP b Rs n H f x v = ldP b' Rs n H f x v := by rw [← h, mark_eq]
theorem heldD_nil {d : Tmp} : heldD [] (some d) = false := nr rfl
theorem heldD_cons {h d : Nat} {l : List Nat} : heldD (h :: l) (some d) = if d = h then true else heldD l (some d) := nr rfl
theorem heldV_c {x x' : AV} (h : mark x = x') : heldV Rs n x = heldV Rs n x' := by rw [← h, mark_eq]
theorem heldV_z {x : AV} : heldV Rs 0 x = True := eq_true (.inl rfl)
theorem heldV_1 {R0 R1 : AH → Prop} {l : List (AH → Prop)} {i o : Nat} : heldV (R0 :: R1 :: l) 1 (.ptr ⟨false, i, o⟩) = ∀ K, R1 K → ¬ K.wr i := by
  simp only [heldV, List.drop_succ_cons, List.drop_zero, List.take_succ_cons, List.take_zero, allP, and_true, Nat.succ_ne_zero, false_or, true_and]
theorem heldV_01 {R0 R1 : AH → Prop} {l : List (AH → Prop)} {i o : Nat} : heldV (R0 :: R1 :: l) (0 + 1) (.ptr ⟨false, i, o⟩) = ∀ K, R1 K → ¬ K.wr i := heldV_1
theorem heldV_s {R0 R1 : AH → Prop} {l : List (AH → Prop)} {i o : Nat} : heldV (R0 :: R1 :: l) (n + 2) (.ptr ⟨false, i, o⟩) = ((∀ K, R1 K → ¬ K.wr i) ∧ heldV (R1 :: l) (n + 1) (.ptr ⟨false, i, o⟩)) := by
  simp only [heldV, List.drop_succ_cons, List.drop_zero, List.take_succ_cons, allP, Nat.succ_ne_zero, false_or, true_and]
theorem DP_pure {op : Op} (f : Option AV) (h0 : isLoad op = false) (h1 : copyOp op = false) (h2 : stillOp op = true) (h3 : ∀ v, convOk op v = true) (hf : ∀ H, opA P fr H op = f.map fun v => (v, H)) :
    DOpsP P ops hs Q ((some ⟨some d, op, ty, ps, af, none⟩, some n) :: rest) Rs fr H = opThen (f.map fun v => (v, H)) fun v _ => rigP Rs n H v ∧ DOpsP P ops hs Q rest Rs (lput fr d v) H := by
  rw [DP_plain, hf H]
  cases f with
  | none => rfl
  | some v =>
    have e : loadOf fr op = none := by cases op <;> first | rfl | (simp [isLoad] at h0)
    simp only [Option.map_some, opThen, StillP, h0, h1, h2, h3, e, Bool.false_eq_true, false_or, true_and, false_and, rigP, hf, Option.map_some, reduceCtorEq, exists_false, and_false, Bool.and_false]
theorem DP_binOp {op : BinOp} {t t2 : TypeId} {x y : Operand} : DOpsP P ops hs Q ((some ⟨some d, .binOp op t x y t2, ty, ps, af, none⟩, some n) :: rest) Rs fr H = opThen ((binA P op t (aeval fr x) (aeval fr y)).map fun v => (v, H)) fun v _ => rigP Rs n H v ∧ DOpsP P ops hs Q rest Rs (lput fr d v) H := DP_pure _ rfl rfl rfl (fun _ => rfl) fun _ => rfl
theorem DP_unOp {op : UnOp} {t : TypeId} {x : Operand} : DOpsP P ops hs Q ((some ⟨some d, .unOp op t x, ty, ps, af, none⟩, some n) :: rest) Rs fr H = opThen ((unA op (aeval fr x)).map fun v => (v, H)) fun v _ => rigP Rs n H v ∧ DOpsP P ops hs Q rest Rs (lput fr d v) H := DP_pure _ rfl rfl rfl (fun _ => rfl) fun _ => rfl
theorem DP_fieldAddr {t : TypeId} {x : Operand} {f : Nat} : DOpsP P ops hs Q ((some ⟨some d, .fieldAddr t x f, ty, ps, af, none⟩, some n) :: rest) Rs fr H = opThen ((fieldAddrA P t (aeval fr x) f).map fun v => (v, H)) fun v _ => rigP Rs n H v ∧ DOpsP P ops hs Q rest Rs (lput fr d v) H := DP_pure _ rfl rfl rfl (fun _ => rfl) fun _ => rfl
theorem DP_field {t : TypeId} {x : Operand} {f : Nat} : DOpsP P ops hs Q ((some ⟨some d, .field t x f, ty, ps, af, none⟩, some n) :: rest) Rs fr H = opThen ((fieldA P t (aeval fr x) f).map fun v => (v, H)) fun v _ => rigP Rs n H v ∧ DOpsP P ops hs Q rest Rs (lput fr d v) H := DP_pure _ rfl rfl rfl (fun _ => rfl) fun _ => rfl
theorem DP_indexAddr {t : TypeId} {x y : Operand} : DOpsP P ops hs Q ((some ⟨some d, .indexAddr t x y, ty, ps, af, none⟩, some n) :: rest) Rs fr H = opThen ((indexAddrA P t (aeval fr x) (aeval fr y)).map fun v => (v, H)) fun v _ => rigP Rs n H v ∧ DOpsP P ops hs Q rest Rs (lput fr d v) H := DP_pure _ rfl rfl rfl (fun _ => rfl) fun _ => rfl
theorem DP_index {t : TypeId} {x y : Operand} : DOpsP P ops hs Q ((some ⟨some d, .index t x y, ty, ps, af, none⟩, some n) :: rest) Rs fr H = opThen ((indexA P t (aeval fr x) (aeval fr y)).map fun v => (v, H)) fun v _ => rigP Rs n H v ∧ DOpsP P ops hs Q rest Rs (lput fr d v) H := DP_pure _ rfl rfl rfl (fun _ => rfl) fun _ => rfl
theorem DP_len {t : TypeId} {x : Operand} : DOpsP P ops hs Q ((some ⟨some d, .call ⟨.builtin .len, #[x], #[t]⟩, ty, ps, af, none⟩, some n) :: rest) Rs fr H = opThen ((lenA P t (aeval fr x)).map fun v => (v, H)) fun v _ => rigP Rs n H v ∧ DOpsP P ops hs Q rest Rs (lput fr d v) H := DP_pure _ rfl rfl rfl (fun _ => rfl) fun _ => rfl
theorem DP_min {ts : Array TypeId} {x y : Operand} : DOpsP P ops hs Q ((some ⟨some d, .call ⟨.builtin .min, #[x, y], ts⟩, ty, ps, af, none⟩, some n) :: rest) Rs fr H = opThen ((foldA min2A (aeval fr x) [aeval fr y]).map fun v => (v, H)) fun v _ => rigP Rs n H v ∧ DOpsP P ops hs Q rest Rs (lput fr d v) H := DP_pure _ rfl rfl rfl (fun _ => rfl) fun _ => rfl
theorem DP_max {ts : Array TypeId} {x y : Operand} : DOpsP P ops hs Q ((some ⟨some d, .call ⟨.builtin .max, #[x, y], ts⟩, ty, ps, af, none⟩, some n) :: rest) Rs fr H = opThen ((foldA max2A (aeval fr x) [aeval fr y]).map fun v => (v, H)) fun v _ => rigP Rs n H v ∧ DOpsP P ops hs Q rest Rs (lput fr d v) H := DP_pure _ rfl rfl rfl (fun _ => rfl) fun _ => rfl
theorem DP_load {t : TypeId} {x : Operand} : DOpsP P ops hs Q ((some ⟨some d, .load t x, ty, ps, af, none⟩, some n) :: rest) Rs fr H = opThen (match aeval fr x with | .ptr p => (loadA P t p H).map fun v => (v, H) | _ => none) fun v _ => (n ≤ quietL rest ∨ roV (aeval fr x) = true ∨ ldP (heldD hs (some d)) Rs n H (fun H' => opA P fr H' (.load t x)) (aeval fr x) v) ∧ DOpsP P ops hs Q rest Rs (lput fr d v) H := by
  rw [DP_plain]
  have : ∀ v, StillP P (heldD hs (some d)) Rs n (quietL rest) fr H (.load t x) v = (n ≤ quietL rest ∨ roV (aeval fr x) = true ∨ ldP (heldD hs (some d)) Rs n H (fun H' => opA P fr H' (.load t x)) (aeval fr x) v) := fun v => by
    have e : loadRo fr (.load t x) = roV (aeval fr x) := by simp only [loadRo, roV]
    have e2 : (∃ i, loadOf fr (.load t x) = some i ∧ allP (fun K => ¬ K.wr i) ((Rs.drop 1).take n)) = (match aeval fr x with | .ptr p => p.ro = false ∧ allP (fun K => ¬ K.wr p.blk) ((Rs.drop 1).take n) | _ => False) := by
      simp only [loadOf]
      cases aeval fr x with
      | ptr p =>
        simp only
        cases p.ro with
        | true => simp
        | false => simp
      | _ => simp
    simp only [StillP, copyOp, stillOp, convOk, isLoad, e, e2, Bool.false_eq_true, false_or, true_and, sameP, ldP, heldV, Bool.and_true]
    apply propext
    cases heldD hs (some d) with
    | false =>
      simp only [Bool.false_eq_true, if_false, false_and, true_and, false_or, reduceCtorEq]
      constructor
      · rintro (h | (h | h) | h)
        · exact .inl (by omega)
        · exact .inl h
        · exact .inr (.inl h)
        · exact .inr (.inr (.inr h))
      · rintro (h | h | h | h)
        · exact .inr (.inl (.inl h))
        · exact .inr (.inl (.inr h))
        · exact .inl h
        · exact .inr (.inr h)
    | true =>
      simp only [if_true, true_and, reduceCtorEq, false_and, or_false]
      constructor
      · rintro (h | (h | h) | h)
        · exact .inl (by omega)
        · exact .inl h
        · exact .inr (.inl h)
        · exact .inr (.inr (.inr h))
      · rintro (h | h | h | h)
        · exact .inr (.inl (.inl h))
        · exact .inr (.inl (.inr h))
        · exact .inl h
        · exact .inr (.inr h)
  simp only [this]
  rfl
theorem DP_convert {t t2 : TypeId} {x : Operand} : DOpsP P ops hs Q ((some ⟨some d, .convert t t2 x, ty, ps, af, none⟩, some n) :: rest) Rs fr H = opThen (convertA P t t2 (aeval fr x) H) fun v _ => (convOk (.convert t t2 x) v = true ∧ sameP Rs n H (fun H' => convertA P t t2 (aeval fr x) H') v) ∧ DOpsP P ops hs Q rest Rs (lput fr d v) H := by
  rw [DP_plain]
  have : ∀ v, StillP P (heldD hs (some d)) Rs n (quietL rest) fr H (.convert t t2 x) v = (convOk (.convert t t2 x) v = true ∧ sameP Rs n H (fun H' => convertA P t t2 (aeval fr x) H') v) := fun v => by
    have e : loadOf fr (.convert t t2 x) = none := rfl
    simp only [StillP, copyOp, stillOp, isLoad, e, Bool.false_eq_true, false_or, true_and, false_and, sameP, opA, reduceCtorEq, exists_false, and_false, Bool.and_false]
  simp only [this]
  rfl
theorem DOpsP_c {l : List (Option Oper × Option Nat)} {fr' : AFr} {H' : AH} (h1 : mark fr = fr') (h2 : mark H = H') : DOpsP P ops hs Q l Rs fr H = DOpsP P ops hs Q l Rs fr' H' := by rw [← h1, ← h2, mark_eq, mark_eq]
end
theorem eqM_self {X : AH} : eqM X X = True := eq_true rfl
theorem eqM_def {X K : AH} : eqM X K = (K = X) := rfl
theorem rofP_0 {R : AH → Prop} {l : List (AH → Prop)} {H : AH} (h : R H) : rofP (R :: l) 0 H := ⟨R, rfl, h⟩
theorem get_live {H : AH} {a : AAddr} {l : List AV} (h : H.get a = some l) : (a.ro || (H.cells? a.blk).isSome) = true := by
  unfold AH.get at h
  cases hr : a.ro with
  | true => rfl
  | false => rw [hr] at h; simp only [Bool.false_eq_true, if_false] at h; simp [h]
theorem Row.live {H : AH} {sz : Nat} {v : AV} {n : Nat} {cs : List AV} (h : Row H sz v n cs) {i : Nat} (hi : i < n) : ((eltA v i sz).ro || (H.cells? (eltA v i sz).blk).isSome) = true := by
  rcases h.elim with ⟨rfl, rfl, _⟩ | ⟨a, c, l, rfl, hg, hb, rfl⟩
  · omega
  · have := get_live hg
    exact this
theorem IsBytes.live {H : AH} {v : AV} {xs : List UInt8} (h : IsBytes H v xs) {i : Nat} (hi : i < xs.length) : ((eltA v i 1).ro || (H.cells? (eltA v i 1).blk).isSome) = true := h.toRow.live hi
attribute [go_sem] roV_ptr quietL_nil quietL_free quietL_none quietL_grd allocOp le_le0 le_sle le_0l true_or or_true false_or or_false DP_nilCheck
attribute [congr] roV_c
theorem rigP_01 {R0 : AH → Prop} {X H : AH} {l : List (AH → Prop)} {v : AV} : rigP (R0 :: eqM X :: l) (0 + 1) H v = (rigidA H v = true ∧ rigidA X v = true) := rigP_0
theorem sameP_01 {R0 : AH → Prop} {X H : AH} {l : List (AH → Prop)} {f : AH → Option (AV × AH)} {v : AV} : sameP (R0 :: eqM X :: l) (0 + 1) H f v = (rigidA H v = true ∧ f X = some (v, X) ∧ rigidA X v = true) := sameP_0
theorem rigP_gs {R0 R1 : AH → Prop} {H : AH} {n : Nat} {l : List (AH → Prop)} {v : AV} : rigP (R0 :: R1 :: l) (n + 2) H v = ((∀ K, R1 K → rigidA K v = true) ∧ rigP (R1 :: l) (n + 1) H v) := by
  simp only [rigP, List.drop_succ_cons, List.drop_zero, List.take_succ_cons, allP, Nat.succ_ne_zero, false_or]
  apply propext
  constructor
  · rintro ⟨h1, h2, h3⟩; exact ⟨h2, h1, h3⟩
  · rintro ⟨h2, h1, h3⟩; exact ⟨h1, h2, h3⟩
theorem rigP_g1 {R0 R1 : AH → Prop} {H : AH} {l : List (AH → Prop)} {v : AV} : rigP (R0 :: R1 :: l) (0 + 1) H v = (rigidA H v = true ∧ ∀ K, R1 K → rigidA K v = true) := rigP_g
attribute [go_sem] rigP_z sameP_z rigP_01 sameP_01 rigP_int rigP_bool rigP_bv rigP_str rigP_nilptr rigP_nilslice rigP_ro rigP_0 rigP_s sameP_0 sameP_s DP_nil DP_none DP_grd DP_move DP_assign DP_pick DP_extract DP_slice DP_buildP DP_binOp DP_unOp DP_fieldAddr DP_field DP_indexAddr DP_index DP_len DP_min DP_max DP_load DP_convert eqM_self
theorem Grew.unwr {H K : AH} (g : Grew H.clr K) {i : Nat} (hi : i < H.n) : ¬ K.wr i := fun h => (g.wr i h).elim id fun h => absurd h (by rw [clr_n]; omega)
theorem gq_wr {H : AH} {i : Nat} (hi : i < H.n) : (∀ K, Grew H.clr K → ¬ K.wr i) = True := eq_true fun K g => g.unwr hi
theorem gq_live {H : AH} {i : Nat} (hi : (H.cells? i).isSome = true) : (∀ K, Grew H.clr K → (K.cells? i).isSome = true) = True := eq_true fun K g => by
  obtain ⟨l, hl⟩ := Option.isSome_iff_exists.1 hi
  rw [g.cells_some (i := i) (l := l) (by rw [clr_cells]; exact hl)]; rfl
theorem Grew.clr {H H' : AH} (h : Grew H H') : Grew H.clr H'.clr := ⟨h.ro, h.n, h.old, fun _ h => h.elim⟩
theorem Grew.also {H H' : AH} (h : Grew H.clr H') : Grew H (H'.also H.wr) := ⟨h.ro, h.n, h.old, fun i hi => hi.elim (fun e => (h.wr i e).elim False.elim .inr) .inl⟩
theorem Row.clr {H : AH} {sz : Nat} {v : AV} {n : Nat} {cs : List AV} (h : Row H sz v n cs) : Row H.clr sz v n cs := ⟨h.row, h.len, h.sl⟩
theorem IsBytes.clr {H : AH} {v : AV} {xs : List UInt8} (h : IsBytes H v xs) : IsBytes H.clr v xs := ⟨h.row, h.len, h.sl⟩
theorem IsBytes.also {H : AH} {X : Nat → Prop} {v : AV} {xs : List UInt8} (h : IsBytes H v xs) : IsBytes (H.also X) v xs := ⟨h.row, h.len, h.sl⟩
attribute [go_sem] gq_wr gq_live
attribute [go_sem] ldP_f ldP_t heldD_nil heldD_cons heldV_z heldV_1 heldV_01 heldV_s clr_n also_n clr_cells also_cells clr_also also_push also_set clr_wr push_wr set_wr
attribute [congr] DOpsP_c sameP_c rigP_c ldP_c heldV_c
end Go.Abs
set_option linter.unusedVariables false
set_option linter.unusedSimpArgs false
namespace Go.Abs
open Go Go.RowKit
structure Chg (S : List Nat) (H H' : AH) : Prop where
  ro : H'.ro = H.ro
  n : H.n ≤ H'.n
  old : ∀ i, i < H.n → i ∉ S → H'.rw[i]? = H.rw[i]?
  wr : ∀ i, H'.wr i → H.wr i ∨ i ∈ S ∨ H.n ≤ i
theorem Chg.refl (S : List Nat) (H : AH) : Chg S H H := ⟨rfl, Nat.le_refl _, fun _ _ _ => rfl, fun _ h => .inl h⟩
theorem Chg.mono {S S' : List Nat} {H H' : AH} (h : Chg S H H') (hs : ∀ i ∈ S, i ∈ S') : Chg S' H H' := ⟨h.ro, h.n, fun i hi hn => h.old i hi fun hm => hn (hs i hm), fun i hi => (h.wr i hi).imp id (.imp (hs i) id)⟩
theorem Chg.trans' {S S' : List Nat} {H H' H'' : AH} (h : Chg S H H') (k : Chg S' H' H'') (hs : ∀ i ∈ S', i ∈ S ∨ H.n ≤ i) : Chg S H H'' :=
  ⟨k.ro.trans h.ro, Nat.le_trans h.n k.n, fun i hi hn => (k.old i (Nat.lt_of_lt_of_le hi h.n) fun hm => by rcases hs i hm with h1 | h1; exact hn h1; omega).trans (h.old i hi hn), fun i hi => by
    rcases k.wr i hi with h1 | h1 | h1
    · exact h.wr i h1
    · exact .inr (hs i h1)
    · exact .inr (.inr (Nat.le_trans h.n h1))⟩
theorem Chg.trans {S : List Nat} {H H' H'' : AH} (h : Chg S H H') (k : Chg S H' H'') : Chg S H H'' := h.trans' k fun i hi => .inl hi
theorem Grew.chg {H H' : AH} (h : Grew H H') (S : List Nat) : Chg S H H' := ⟨h.ro, h.n, fun i hi _ => h.old i hi, fun i hi => (h.wr i hi).imp id .inr⟩
theorem Chg.grew {S : List Nat} {H H' : AH} (h : Chg S H H') (hs : ∀ i ∈ S, H.n ≤ i) : Grew H H' := ⟨h.ro, h.n, fun i hi => h.old i hi fun hm => by have := hs i hm; omega, fun i hi => (h.wr i hi).imp id fun e => e.elim (hs i) id⟩
theorem Chg.set (H : AH) (i : Nat) (b : Option ABlk) {S : List Nat} (hi : i ∈ S) : Chg S H (H.set i b) := ⟨rfl, by rw [set_n]; exact Nat.le_refl _, fun j hj hn => by
  simp only [AH.set]; rw [List.getElem?_set, if_neg (fun e : i = j => hn (by rw [← e]; exact hi))], fun j hj => hj.elim (fun e => .inr (.inl (e ▸ hi))) .inl⟩
theorem Chg.thenSet {S : List Nat} {H H' : AH} (h : Chg S H H') {i : Nat} (b : Option ABlk) (hi : i ∈ S ∨ H.n ≤ i) : Chg S H (H'.set i b) :=
  h.trans' (Chg.set H' i b (S := [i]) (by simp)) fun j hj => by simp at hj; subst hj; exact hi
theorem Chg.cells {S : List Nat} {H H' : AH} (h : Chg S H H') {i : Nat} (hi : i ∉ S) {l : List AV} (hc : H.cells? i = some l) : H'.cells? i = some l := by
  have := cells_lt hc
  unfold AH.cells? at *
  rw [h.old i this hi]
  exact hc
def offB (S : List Nat) : AV → Prop
  | .slice a _ _ => a.ro = true ∨ a.blk ∉ S
  | .ptr a => a.ro = true ∨ a.blk ∉ S
  | _ => True
theorem Chg.get {S : List Nat} {H H' : AH} (h : Chg S H H') {a : AAddr} (ha : a.ro = true ∨ a.blk ∉ S) {l : List AV} (hl : H.get a = some l) : H'.get a = some l := by
  unfold AH.get at *
  split
  · rename_i hr; rw [if_pos hr] at hl; rw [h.ro]; exact hl
  · rename_i hr
    rw [if_neg hr] at hl
    rcases ha with h1 | h1
    · exact absurd h1 hr
    · exact h.cells h1 hl
theorem Chg.row {S : List Nat} {H H' : AH} (h : Chg S H H') {sz : Nat} {v : AV} (ho : offB S v) {l : List AV} (hl : rowA H sz v = some l) : rowA H' sz v = some l := by
  cases v with
  | nilslice => exact hl
  | slice a n c =>
    simp only [rowA] at hl ⊢
    obtain ⟨cs, h1, h2⟩ := Option.bind_eq_some_iff.1 hl
    rw [h.get ho h1]
    exact h2
  | _ => simp only [rowA] at hl; cases hl
theorem Row.chg {S : List Nat} {H H' : AH} {sz : Nat} {v : AV} {n : Nat} {cs : List AV} (k : Row H sz v n cs) (h : Chg S H H') (ho : offB S v) : Row H' sz v n cs := ⟨h.row ho k.row, k.len, k.sl⟩
theorem IsBytes.chg {S : List Nat} {H H' : AH} {v : AV} {xs : List UInt8} (k : IsBytes H v xs) (h : Chg S H H') (ho : offB S v) : IsBytes H' v xs := ⟨h.row ho k.row, k.len, k.sl⟩
theorem IsNums.chg {S : List Nat} {H H' : AH} {k : IntKind} {v : AV} {xs : List Int} (g : IsNums k H v xs) (h : Chg S H H') (ho : offB S v) : IsNums k H' v xs := ⟨h.row ho g.row, g.len, g.sl⟩
theorem get_lt {H : AH} {a : AAddr} {l : List AV} (h : H.get a = some l) : a.ro = true ∨ a.blk < H.n := by
  unfold AH.get at h
  split at h
  · rename_i hr; exact .inl hr
  · exact .inr (cells_lt h)
theorem Row.off {H : AH} {sz : Nat} {v : AV} {n : Nat} {cs : List AV} (k : Row H sz v n cs) {S : List Nat} (hs : ∀ i ∈ S, H.n ≤ i) : offB S v := by
  rcases k.elim with ⟨rfl, _⟩ | ⟨a, c, l, rfl, hg, _⟩
  · trivial
  · rcases get_lt hg with h1 | h1
    · exact .inl h1
    · exact .inr fun hm => by have := hs _ hm; omega
theorem IsBytes.off {H : AH} {v : AV} {xs : List UInt8} (k : IsBytes H v xs) {S : List Nat} (hs : ∀ i ∈ S, H.n ≤ i) : offB S v := k.toRow.off hs
theorem off_blk {S : List Nat} {b o n : Nat} {c : Cap} (h : b ∉ S) : offB S (.slice ⟨false, b, o⟩ n c) := .inr h
theorem IsBytes.store {H : AH} {B o n : Nat} {c : Cap} {xs : List UInt8} (h : IsBytes H (.slice ⟨false, B, o⟩ n c) xs) {i : Nat} (hi : i < xs.length) :
    ∃ l0, H.cells? B = some l0 ∧ o + i < l0.length ∧ ∀ z, IsBytes (H.set B (some (.cells (l0.set (o + i) (bv z))))) (.slice ⟨false, B, o⟩ n c) (xs.set i z) := by
  obtain ⟨h1, h2, h3⟩ := h
  simp only [slen] at h2
  subst h2
  simp only [rowA, get_rw] at h1
  obtain ⟨l0, g1, g2⟩ := Option.bind_eq_some_iff.1 h1
  split at g2
  · rename_i hle
    injection g2 with g2
    refine ⟨l0, g1, by omega, fun z => ⟨?_, by simp [slen], h3⟩⟩
    simp only [rowA, get_rw, set_cells H _ (cells_lt g1), Option.bind_some, List.length_set]
    rw [if_pos hle, Option.some_inj, List.map_set, ← g2, Nat.mul_one, List.drop_set]
    rw [if_neg (by omega), List.take_set, show o + i - o = i by omega]
  · cases g2
theorem IsBytes.isSome {H : AH} {B o n : Nat} {c : Cap} {xs : List UInt8} (h : IsBytes H (.slice ⟨false, B, o⟩ n c) xs) : (H.cells? B).isSome = true := by
  have h1 := h.row
  simp only [rowA, get_rw] at h1
  obtain ⟨l0, g1, g2⟩ := Option.bind_eq_some_iff.1 h1
  simp [g1]
theorem IsBytes.blk_lt {H : AH} {B o n : Nat} {c : Cap} {xs : List UInt8} (h : IsBytes H (.slice ⟨false, B, o⟩ n c) xs) : B < H.n := by
  have h1 := h.row
  simp only [rowA, get_rw] at h1
  obtain ⟨l0, g1, g2⟩ := Option.bind_eq_some_iff.1 h1
  exact cells_lt g1
theorem IsBytes.len' {H : AH} {a : AAddr} {n : Nat} {c : Cap} {xs : List UInt8} (h : IsBytes H (.slice a n c) xs) : n = xs.length := h.len
theorem mix_len {α : Type} (zs xs : List α) {i : Nat} (h : zs.length = xs.length) : (zs.take i ++ xs.drop i).length = xs.length := by simp; omega
theorem mix_step {α : Type} (d : α) (zs xs : List α) {i : Nat} (h1 : i < zs.length) (h2 : i < xs.length) : (zs.take i ++ xs.drop i).set i (zs.getD i d) = zs.take (i + 1) ++ xs.drop (i + 1) := by
  have h3 : xs.drop i = xs[i] :: xs.drop (i + 1) := List.drop_eq_getElem_cons h2
  have h4 : zs.take (i + 1) = zs.take i ++ [zs[i]] := (List.take_append_getElem h1).symm
  rw [h3, h4, List.set_append_right _ _ (by simp; omega), List.length_take, show i - min i zs.length = 0 by omega, List.set_cons_zero, List.append_assoc]
  simp only [List.getD, List.getElem?_eq_getElem h1, Option.getD_some]
  rfl
theorem mix_get {α : Type} (d : α) (zs xs : List α) {i : Nat} (h1 : i ≤ zs.length) : (zs.take i ++ xs.drop i).getD i d = xs.getD i d := by
  simp only [List.getD]
  rw [List.getElem?_append_right (by simp; omega), List.length_take, List.getElem?_drop]
  congr 2; omega
theorem mix_end {α : Type} (zs xs : List α) {n : Nat} (h1 : zs.length ≤ n) (h2 : xs.length ≤ n) : zs.take n ++ xs.drop n = zs := by rw [List.take_of_length_le h1, List.drop_of_length_le h2, List.append_nil]
theorem RVL.split {b : Nat} {ι : List Loc} : ∀ {l m : List AV} {ys : List Value}, RVL b ι (l ++ m) ys → ∃ ys1 ys2, ys = ys1 ++ ys2 ∧ RVL b ι l ys1 ∧ RVL b ι m ys2
  | [], m, ys, h => ⟨[], ys, rfl, by unfold RVL; rfl, h⟩
  | x :: l, m, ys, h => by
    rw [List.cons_append] at h
    unfold RVL at h
    obtain ⟨y, zs, rfl, h1, h2⟩ := h
    obtain ⟨ys1, ys2, rfl, h3, h4⟩ := RVL.split h2
    exact ⟨y :: ys1, ys2, rfl, by unfold RVL; exact ⟨y, ys1, rfl, h1, h3⟩, h4⟩
theorem aspec_nil {P : Program} {f : FuncId} {H : AH} {Q : AV → AH → Prop} {pre post : List AV} {v : AV} {sz : Nat} (hr : Row H sz v 0 []) (h0 : ASpec P f (pre ++ .nilslice :: post) H Q)
    (h1 : ∀ a c, Row H sz (.slice a 0 (.known c)) 0 [] → ASpec P f (pre ++ .slice a 0 (.known c) :: post) H Q) : ASpec P f (pre ++ v :: post) H Q := by
  rcases hr.elim with ⟨rfl, _, _⟩ | ⟨a, c, l, rfl, hg, _, _⟩
  · exact h0
  · cases c with
    | known c => exact h1 a c hr
    | grow g =>
      have hro : a.ro = false := by have := hr.sl; simp only [okSl, Bool.and_eq_true, Bool.not_eq_true'] at this; exact this.2
      refine fun w0 ι w cargs hrep hargs => ?_
      obtain ⟨ys1, ys2, e, k1, k2⟩ := RVL.split hargs
      unfold RVL at k2
      obtain ⟨y, zs, rfl, k2, k3⟩ := k2
      have go : ∀ v', RV w0.heap.size ι v' y → RVL w0.heap.size ι (pre ++ v' :: post) cargs.toList := fun v' hv => by
        rw [e]; exact k1.append (by unfold RVL; exact ⟨y, zs, rfl, hv, k3⟩)
      have row0 : ∀ c', Row H sz (.slice a 0 (.known c')) 0 [] := fun c' => ⟨by simp only [rowA, hg, Option.bind_some]; rw [if_pos (.inr (by simp))]; simp, rfl, by simp [okSl]⟩
      have rowr : Row H sz (.slice ⟨true, 0, 0⟩ 0 (.known 0)) 0 [] := ⟨by simp only [rowA, get_ro, Option.bind_some]; rw [if_pos (.inr (by simp))]; simp, rfl, by simp [okSl]⟩
      have alive : (H.cells? a.blk).isSome = true := by unfold AH.get at hg; rw [hro] at hg; simp at hg; simp [hg]
      unfold RV RSlice at k2
      rw [if_neg (by simp [hro])] at k2
      rcases live_at hrep alive with hl | hl | ⟨B, O, m, hl⟩
      · rw [hl] at k2; exact k2.elim
      · rw [hl] at k2
        obtain ⟨_, ⟨q, rfl⟩, _⟩ := k2
        cases q with
        | none => exact h0 w0 ι w cargs hrep (go _ (by unfold RV; rfl))
        | some p => exact (h1 _ _ rowr) w0 ι w cargs hrep (go _ (by unfold RV RSlice; rw [if_pos rfl]; exact ⟨0, rfl, Nat.le_refl _, .inr ⟨rfl, p, rfl⟩⟩))
      · rw [hl] at k2
        rcases k2 with ⟨C, h2, h3, h4⟩ | ⟨_, p, h4⟩
        · exact (h1 _ _ (row0 C)) w0 ι w cargs hrep (go _ (by unfold RV RSlice; rw [if_neg (by simp [hro]), hl]; exact ⟨h2, .inl h4⟩))
        · exact (h1 _ _ (row0 0)) w0 ι w cargs hrep (go _ (by unfold RV RSlice; rw [if_neg (by simp [hro]), hl]; exact ⟨Nat.le_refl _, .inr ⟨rfl, p, h4⟩⟩))
theorem AO_makeFunc {P : Program} {ops : Array Oper} {Q : AFr → AH → Prop} {rest : List Oper} {fr : AFr} {H : AH} {ty : TypeId} {ps : String} {af : Array Edge} {d : Tmp} {f : FuncId} {cap : Array Operand} : AOps P ops Q (⟨some d, .makeFunc (.func f) #[] cap, ty, ps, af, none⟩ :: rest) fr H = AOps P ops Q rest (lput fr d (.func f (cap.toList.map (aeval fr)))) H := by
  rw [AOps_cons]; simp only [guardA, ifG, callA, callOr, opA, putA, List.size_toArray, List.length_nil, if_true, opThen]
theorem AO_callT0 {P : Program} {ops : Array Oper} {Q : AFr → AH → Prop} {rest : List Oper} {fr : AFr} {H : AH} {ty : TypeId} {ps : String} {af : Array Edge} {g : Tmp} {args : Array Operand} {ts : Array TypeId} : AOps P ops Q (⟨none, .call ⟨.value (.tmp g), args, ts⟩, ty, ps, af, none⟩ :: rest) fr H = callOr (match lget fr g with | .func f l => some (f, args.toList.map (aeval fr) ++ l) | _ => none) (fun f as => ASpec P f as H fun r H' => AOps P ops Q rest fr H') False := by
  rw [AOps_cons]; simp only [guardA, ifG, callA, opA, putA, aeval, opThen]
  all_goals rfl
attribute [go_sem] AO_makeFunc AO_callT0
theorem news_push {H : AH} {l : List AV} {i n sz : Nat} {c : Cap} (hi : i = H.n) (h : l.length = n * sz) : newsA (H.push (some (.cells l))) sz (.slice ⟨false, i, 0⟩ n c) = some (n, l) := by
  subst hi
  simp only [newsA, row_whole (push_cells H l) h c, Option.map_some]
attribute [go_sem] news_push
theorem Acc.off {sz : Nat} {H0 H : AH} {b : AV} {n : Nat} {cs : List AV} (h : Acc sz H0 H b n cs) {S : List Nat} (hs : ∀ i ∈ S, i < H0.n) : offB S b := by
  rcases h.is with ⟨rfl, _⟩ | ⟨B, rfl, hB, _⟩
  · trivial
  · exact .inr fun hm => by have := hs _ hm; simp only at this; omega
theorem IsBytes.cell {H : AH} {B o n : Nat} {c : Cap} {xs : List UInt8} (h : IsBytes H (.slice ⟨false, B, o⟩ n c) xs) {i : Nat} (hi : i < xs.length) :
    ∃ l0, H.cells? B = some l0 ∧ o + i < l0.length ∧ l0[o + i]? = some (bv (xs.getD i 0)) ∧ ∀ z, IsBytes (H.set B (some (.cells (l0.set (o + i) (bv z))))) (.slice ⟨false, B, o⟩ n c) (xs.set i z) := by
  obtain ⟨l0, h1, h2, h3⟩ := h.store hi
  refine ⟨l0, h1, h2, ?_, h3⟩
  have := h.ld hi
  simp only [eltA, get_rw, h1, Option.bind_some, Nat.mul_one] at this
  exact this
theorem IsBytes.ixS {H : AH} {B o n : Nat} {c : Cap} {xs : List UInt8} (h : IsBytes H (.slice ⟨false, B, o⟩ n c) xs) {P : Program} {t e : TypeId} (ht : P.underlying t = some (.slice e)) (hs : sizeA P e = some 1) {k : IntKind} {i : Nat} (hi : i < xs.length) :
    indexAddrA P t (.slice ⟨false, B, o⟩ n c) (.int k i) = some (.ptr ⟨false, B, o + i⟩) := by
  rw [h.ix ht hs (by omega) (by omega)]
  simp [eltA]
end Go.Abs
namespace Go.Abs.GF
end Go.Abs.GF
set_option linter.unusedVariables false
set_option linter.unusedSimpArgs false
namespace Go.Abs
open Go Go.RowKit
structure IsRows (H : AH) (v : AV) (vs : List AV) (rows : List (List UInt8)) : Prop where
  row : Row H 1 v rows.length vs
  each : ∀ i, i < rows.length → IsBytes H (vs.getD i .unk) (rows.getD i [])
theorem IsRows.len {H : AH} {v : AV} {vs : List AV} {rows : List (List UInt8)} (h : IsRows H v vs rows) : vs.length = rows.length := by have := h.row.size; omega
theorem IsRows.grew {H H' : AH} (g : Grew H H') {v : AV} {vs : List AV} {rows : List (List UInt8)} (h : IsRows H v vs rows) : IsRows H' v vs rows := ⟨h.row.grew g, fun i hi => (h.each i hi).grew g⟩
theorem IsRows.chg {S : List Nat} {H H' : AH} {v : AV} {vs : List AV} {rows : List (List UInt8)} (h : IsRows H v vs rows) (k : Chg S H H') (ho : offB S v) (he : ∀ i, i < rows.length → offB S (vs.getD i .unk)) : IsRows H' v vs rows :=
  ⟨h.row.chg k ho, fun i hi => (h.each i hi).chg k (he i hi)⟩
theorem IsRows.off {H : AH} {v : AV} {vs : List AV} {rows : List (List UInt8)} (h : IsRows H v vs rows) {S : List Nat} (hs : ∀ i ∈ S, H.n ≤ i) : offB S v ∧ ∀ i, i < rows.length → offB S (vs.getD i .unk) :=
  ⟨h.row.off hs, fun i hi => (h.each i hi).off hs⟩
theorem IsRows.old {H0 H' : AH} {S : List Nat} {v : AV} {vs : List AV} {rows : List (List UInt8)} (h : IsRows H0 v vs rows) (k : Chg S H0 H') (hs : ∀ i ∈ S, H0.n ≤ i) : IsRows H' v vs rows := h.grew (k.grew hs)
theorem IsRows.ld {H : AH} {v : AV} {vs : List AV} {rows : List (List UInt8)} (h : IsRows H v vs rows) {i : Nat} (hi : i < rows.length) :
    ((H.get (eltA v i 1)).bind fun cs => cs[(eltA v i 1).off]?) = some (vs.getD i .unk) := by
  have hl := h.len
  rw [h.row.ld1 hi]; simp [List.getD, show i < vs.length by omega]
theorem IsRows.ix {H : AH} {v : AV} {vs : List AV} {rows : List (List UInt8)} (h : IsRows H v vs rows) {P : Program} {t e : TypeId} (ht : P.underlying t = some (.slice e)) (hs : sizeA P e = some 1) {k : IntKind} {i : Int} (h0 : 0 ≤ i) (hi : i < rows.length) :
    indexAddrA P t v (.int k i) = some (.ptr (eltA v i.toNat 1)) := h.row.ix ht hs h0 hi
theorem Dat.rows {P : Program} {H : AH} {n : Nat} {t : TypeId} {cs : List AV} (D : Dat P H n t cs) {e u : TypeId} (hu : P.underlying t = some (.slice e)) (hs : sizeA P e = some 1) {by' : Nat} (hb : bytesA P e = some by') (he : P.underlying e = some (.slice u)) (hu8 : P.underlying u = some (.int .u8)) (hsu : sizeA P u = some 1) (hbu : bytesA P u = some 1) :
    ∃ v vs rows, cs = [v] ∧ IsRows H v vs rows ∧ rows.length * by' ≤ 140737488351232 ∧ ∀ i, i < rows.length → (rows.getD i []).length ≤ 140737488351232 := by
  obtain ⟨v, k, row, rfl, hr, hk, m, hm⟩ := D.slice hu (se := 0) hs hb
  have hl := hr.size
  have each : ∀ i, i < k → ∃ xs : List UInt8, IsBytes H (row.getD i .unk) xs ∧ xs.length ≤ 140737488351232 := fun i hi => by
    obtain ⟨v', xs, e1, h1, h2⟩ := (hm i hi).bytes he hu8 hsu hbu
    have : row.getD i .unk = v' := by
      have := congrArg (·[0]?) e1
      simp at this
      simp [List.getD, this]
    exact ⟨xs, this ▸ h1, h2⟩
  have key : ∃ f : Nat → List UInt8, ∀ i, i < k → IsBytes H (row.getD i .unk) (f i) ∧ (f i).length ≤ 140737488351232 := by
    refine ⟨fun i => if h : i < k then Classical.choose (each i h) else [], fun i hi => ?_⟩
    simp only [hi, dite_true]
    exact Classical.choose_spec (each i hi)
  obtain ⟨f, hf⟩ := key
  have hlen : ((List.range k).map f).length = k := by simp
  have hget : ∀ i, i < k → ((List.range k).map f).getD i [] = f i := fun i hi => by simp [List.getD, hi]
  refine ⟨v, row, (List.range k).map f, rfl, ⟨by rw [hlen]; exact hr, fun i hi => ?_⟩, by rw [hlen]; exact hk, fun i hi => ?_⟩
  · rw [hlen] at hi; rw [hget i hi]; exact (hf i hi).1
  · rw [hlen] at hi; rw [hget i hi]; exact (hf i hi).2
def blkOf : AV → List Nat
  | .slice a _ _ => [a.blk]
  | _ => []
theorem Acc.below {sz : Nat} {H0 H : AH} {b : AV} {n : Nat} {cs : List AV} (h : Acc sz H0 H b n cs) : ∀ i ∈ blkOf b, i < H.n := by
  rcases h.is with ⟨rfl, _⟩ | ⟨B, rfl, hB, hc⟩
  · simp [blkOf]
  · simp only [blkOf, List.mem_cons, List.not_mem_nil, or_false]
    rintro i rfl
    exact cells_lt hc
theorem Acc.app' {sz by' : Nat} {H0 H : AH} {b : AV} {n : Nat} {cs : List AV} (h : Acc sz H0 H b n cs) {k : Nat} {news : List AV} (hk : news.length = k * sz) (h1 : n + k ≤ 140737488355328) (h2 : (n + k) * by' ≤ 140737488355328) :
    ∃ H', appendTo sz by' H k news b = some (.slice ⟨false, H.n, 0⟩ (n + k) (.grow sz), H') ∧ Acc sz H0 H' (.slice ⟨false, H.n, 0⟩ (n + k) (.grow sz)) (n + k) (cs ++ news) ∧ H'.n = H.n + 1 ∧ Chg (blkOf b) H H' := by
  obtain ⟨H', a1, a2, a3⟩ := h.app hk h1 h2
  refine ⟨H', a1, a2, a3, ?_⟩
  obtain ⟨hg, hl, hb⟩ := h
  rcases hb with ⟨rfl, rfl⟩ | ⟨B, rfl, hB, hc⟩
  · rw [app_to_nil, gd_pos ⟨by omega, by rw [Nat.zero_add] at h2; exact h2⟩] at a1
    injection a1 with a1
    injection a1 with a0 a1
    rw [← a1]
    exact (Grew.push _ _).chg _
  · rw [app_to_grow, gd_pos ⟨h1, h2⟩, hc] at a1
    simp only [Option.bind_some, List.drop_zero] at a1
    rw [gde_pos (by omega)] at a1
    injection a1 with a1
    injection a1 with a0 a1
    rw [← a1]
    exact (Chg.set H B none (S := blkOf (.slice ⟨false, B, 0⟩ n (.grow sz))) (by simp [blkOf])).trans ((Grew.push _ _).chg _)
structure AccRows (H0 H : AH) (mv : AV) (ws : List AV) (rows : List (List UInt8)) : Prop where
  acc : Acc 1 H0 H mv rows.length ws
  each : ∀ j, j < rows.length → IsBytes H (ws.getD j .unk) (rows.getD j []) ∧ offB (blkOf mv) (ws.getD j .unk)
theorem AccRows.nil {H0 H : AH} (h : Grew H0 H) : AccRows H0 H .nilslice [] [] := ⟨Acc.nil h, fun j hj => by simp at hj⟩
theorem AccRows.len {H0 H : AH} {mv : AV} {ws : List AV} {rows : List (List UInt8)} (h : AccRows H0 H mv ws rows) : ws.length = rows.length := by have := h.acc.len; omega
theorem AccRows.rows {H0 H : AH} {mv : AV} {ws : List AV} {rows : List (List UInt8)} (h : AccRows H0 H mv ws rows) : IsRows H mv ws rows := ⟨h.acc.row, fun i hi => (h.each i hi).1⟩
theorem AccRows.grew {H0 H H' : AH} {mv : AV} {ws : List AV} {rows : List (List UInt8)} (h : AccRows H0 H mv ws rows) (g : Grew H H') : AccRows H0 H' mv ws rows := ⟨h.acc.grew g, fun j hj => ⟨(h.each j hj).1.grew g, (h.each j hj).2⟩⟩
theorem AccRows.add {by' : Nat} {H0 H : AH} {mv w : AV} {ws : List AV} {rows : List (List UInt8)} {xs : List UInt8} (h : AccRows H0 H mv ws rows) (hw : IsBytes H w xs) (ho : offB (blkOf mv) w) (h1 : rows.length + 1 ≤ 140737488355328) (h2 : (rows.length + 1) * by' ≤ 140737488355328) :
    ∃ H', appendTo 1 by' (H.push (some (.cells [w]))) 1 [w] mv = some (.slice ⟨false, H.n + 1, 0⟩ (rows.length + 1) (.grow 1), H') ∧ AccRows H0 H' (.slice ⟨false, H.n + 1, 0⟩ (rows.length + 1) (.grow 1)) (ws ++ [w]) (rows ++ [xs]) ∧ Chg (blkOf mv) H H' := by
  obtain ⟨H', a1, a2, a3, a4⟩ := (h.acc.grew (Grew.push H (some (.cells [w])))).app' (by' := by') (k := 1) (news := [w]) rfl h1 h2
  rw [push_n] at a1 a2
  have hl := h.len
  have hc : Chg (blkOf mv) H H' := ((Grew.push H _).chg _).trans a4
  refine ⟨H', a1, ⟨by rw [List.length_append]; exact a2, fun j hj => ?_⟩, hc⟩
  simp only [List.length_append, List.length_cons, List.length_nil, Nat.zero_add] at hj
  by_cases hjl : j < rows.length
  · have e1 : (ws ++ [w]).getD j .unk = ws.getD j .unk := by simp [List.getD, List.getElem?_append_left (show j < ws.length by omega)]
    have e2 : (rows ++ [xs]).getD j [] = rows.getD j [] := by simp [List.getD, List.getElem?_append_left hjl]
    rw [e1, e2]
    have := h.each j hjl
    exact ⟨this.1.chg hc this.2, this.1.off (by simp [blkOf])⟩
  · obtain rfl : j = rows.length := by omega
    have e1 : (ws ++ [w]).getD rows.length .unk = w := by simp [List.getD, ← hl]
    have e2 : (rows ++ [xs]).getD rows.length [] = xs := by simp [List.getD]
    rw [e1, e2]
    exact ⟨hw.chg hc ho, hw.off (by simp [blkOf])⟩
end Go.Abs
set_option linter.unusedVariables false
set_option linter.unusedSimpArgs false
namespace Go.Abs
open Go Go.RowKit
inductive OT where
  | nil
  | flt (i : Nat) (t : OT)
  | one (i : Nat) (t : OT)
  | two (i : Nat) (s : OT) (j : Nat) (t : OT)
def OT.len : OT → Nat
  | .nil => 0
  | .flt _ t => t.len + 1
  | .one _ t => t.len + 1
  | .two _ s _ t => s.len + 1
def StillF (P : Program) (R : AH → Prop) (fr : AFr) (H : AH) (op : Op) (v : AV) : Prop :=
  (isLoad op = true ∧ loadRo fr op = true) ∨ StillAt P R fr H op v
def OneT (P : Program) (ops : Array Oper) (R : AH → Prop) (i : Nat) (K : AFr → AH → Prop) (fr : AFr) (H : AH) : Prop :=
  match ops[i]? with
  | none => False
  | some o => AOps P ops (fun fr' H' => R H' ∧ K fr' H') [o] fr H
def FltT (P : Program) (ops : Array Oper) (R : AH → Prop) (K : AFr → AH → Prop) : Option Oper → AFr → AH → Prop
  | none, _, _ => False
  | some o, fr, H => ifG (guardA ops fr o) (K (putA fr o.dst (.tup [])) H) (opThen (opA P fr H o.op) fun v _ => StillF P R fr H o.op v ∧ K (putA fr o.dst v) H)
def DT (P : Program) (ops : Array Oper) (R : AH → Prop) (Q : AFr → AH → Prop) : OT → AFr → AH → Prop
  | .nil, fr, H => Q fr H
  | .flt i t, fr, H => FltT P ops R (DT P ops R Q t) ops[i]? fr H
  | .one i t, fr, H => OneT P ops R i (DT P ops R Q t) fr H
  | .two i s j t, fr, H => OneT P ops R i (DT P ops R Q s) fr H ∧ OneT P ops R j (DT P ops R Q t) fr H
def treeOk (md : Region.Mode) (ops : Array Oper) : OT → Array Bool → Bool
  | .nil, listed => (Region.ready md ops listed).isEmpty
  | .flt i t, listed => Region.free md ops listed i && (Region.ready md ops listed).contains i && treeOk md ops t (listed.setIfInBounds i true)
  | .one i t, listed => (Region.ready md ops listed == [i]) && treeOk md ops t (listed.setIfInBounds i true)
  | .two i s j t, listed => (Region.ready md ops listed == [i, j]) && (s.len == t.len) && treeOk md ops s (listed.setIfInBounds i true) && treeOk md ops t (listed.setIfInBounds j true)
section
variable {P : Program} {md : Region.Mode} {ops : Array Oper} {R : AH → Prop} {Q : AFr → AH → Prop} {N : Nat} {ds : List Deferred} {QC : Exit → Act → World → Prop} {w0 : World}
theorem one_sound (hd : ∀ (i : Nat) (o : Oper), ops[i]? = some o → ∀ d, o.dst = some d → d < N) {i : Nat} {K : AFr → AH → Prop} {fr : AFr} {H : AH} {a : Act} {w : World} {ι : List Loc} {n : Nat} {listed : Array Bool} (h : OneT P ops R i K fr H) (hs : St w0 ι N ds fr H a w)
    (k : ∀ fr1 H1 ι1 a1 w1, K fr1 H1 → R H1 → St w0 ι1 N ds fr1 H1 a1 w1 → Ext ι H w ι1 H1 w1 → wpAnyH P md ops (onlyN QC) (Held w0 ι1 H1.ro R) n listed a1 w1) :
    wpOp P ops (onlyN QC) i (fun a' w' => Held w0 ι H.ro R w' ∧ wpAnyH P md ops (onlyN QC) (Held w0 ι H.ro R) n listed a' w') a w := by
  have step : ∀ fr1 H1 ι1 a1 w1, R H1 ∧ K fr1 H1 → St w0 ι1 N ds fr1 H1 a1 w1 → Ext ι H w ι1 H1 w1 →
      Held w0 ι H.ro R w1 ∧ wpAnyH P md ops (onlyN QC) (Held w0 ι H.ro R) n listed a1 w1 := fun fr1 H1 ι1 a1 w1 hh hs1 he1 => by
    refine ⟨⟨ι1, H1, hs1.rep, he1.le, hh.1, he1.ro⟩, ?_⟩
    refine wpAnyH_mono (S' := Held w0 ι1 H1.ro R) ?_ _ _ _ _ (k fr1 H1 ι1 a1 w1 hh.2 hh.1 hs1 he1)
    rintro w2 ⟨ι2, H2, k1, k2, k3, k4⟩
    exact ⟨ι2, H2, k1, he1.le.trans k2, k3, k4.trans he1.ro⟩
  unfold OneT at h
  cases hi : ops[i]? with
  | none => rw [hi] at h; exact h.elim
  | some o =>
    rw [hi] at h
    simp only at h
    unfold wpOp
    simp only [hi]
    simp only [AOps] at h
    cases hg : guardA ops fr o with
    | none => rw [hg] at h; exact h.elim
    | some b =>
      rw [hg] at h
      rw [guardA_ok hs hg]
      cases b with
      | false =>
        simp only at h
        simp only [Bool.false_eq_true, if_false]
        exact step _ _ ι _ w h (hs.put (hd i o hi) hs.rep (LocLe.refl ι) RV_undef) (Ext.refl _ _ _)
      | true =>
        simp only at h
        simp only [if_true]
        left
        cases hc : callA fr o.op with
        | some fa =>
          obtain ⟨f, args⟩ := fa
          rw [hc] at h
          simp only at h
          exact call_step hs hc (hd i o hi) h fun r H' ι' a' w' h1 h2 h3 => step _ _ _ _ _ h1 h2 h3
        | none =>
          rw [hc] at h
          simp only at h
          cases ho : opA P fr H o.op with
          | none => rw [ho] at h; exact h.elim
          | some vh =>
            obtain ⟨v, H'⟩ := vh
            rw [ho] at h
            exact op_step hs ho (hd i o hi) fun ι' a' w' h2 h3 => step _ _ _ _ _ h h2 h3
theorem DT_sound (hsel : Region.noSelect ops = true) (hd : ∀ (i : Nat) (o : Oper), ops[i]? = some o → ∀ d, o.dst = some d → d < N) {ιs : List Loc} {Hs : AH} {ws : World} (hQ : ∀ fr' H' ι' a' w', Q fr' H' → St w0 ι' N ds fr' H' a' w' → Ext ιs Hs ws ι' H' w' → QC .normal a' w') :
    ∀ (T : OT) (listed : Array Bool) (fr : AFr) (H : AH) (a : Act) (w : World) (ι : List Loc), treeOk md ops T listed = true → DT P ops R Q T fr H → St w0 ι N ds fr H a w → R H → Ext ιs Hs ws ι H w →
      wpAnyH P md ops (onlyN QC) (Held w0 ι H.ro R) T.len listed a w
  | .nil, listed, fr, H, a, w, ι, hok, h, hs, hR, he => by
    simp only [treeOk, List.isEmpty_iff] at hok
    exact wpAnyH_done hok ⟨rfl, hQ _ _ _ _ _ h hs he⟩ _
  | .flt i t, listed, fr, H, a, w, ι, hok, h, hs, hR, he => by
    simp only [treeOk, Bool.and_eq_true] at hok
    obtain ⟨⟨hf, hr⟩, hok⟩ := hok
    simp only [DT] at h
    show wpAnyH P md ops (onlyN QC) (Held w0 ι H.ro R) (t.len + 1) listed a w
    cases hi : ops[i]? with
    | none => rw [hi] at h; exact h.elim
    | some o =>
      rw [hi] at h
      simp only [FltT] at h
      have hheld : Held w0 ι H.ro R w := ⟨ι, H, hs.rep, LocLe.refl ι, hR, rfl⟩
      have hp : ∀ c a' (w' : World) (v : Value), onlyN QC (.panic c) (a'.put o.dst v) w' → onlyN QC (.panic c) a' w' := fun c a' w' v hh => by cases hh.1
      cases hg : guardA ops fr o with
      | none => rw [hg] at h; exact h.elim
      | some b =>
        rw [hg] at h
        have hw := guardA_ok hs hg
        cases b with
        | false =>
          simp only [ifG] at h
          exact wpAnyH_take (v := undef) hi hsel hf hr (fun c a' w' => hp c a' w' _) (.inr ⟨hw, rfl⟩) hheld
            (DT_sound hsel hd hQ t _ _ H _ w ι hok h (hs.put (hd i o hi) hs.rep (LocLe.refl ι) RV_undef) hR he)
        | true =>
          simp only [ifG] at h
          cases ho : opA P fr H o.op with
          | none => rw [ho] at h; exact h.elim
          | some vh =>
            obtain ⟨v, H1⟩ := vh
            rw [ho] at h
            simp only [opThen] at h
            obtain ⟨hst, h⟩ := h
            have key : ∃ cv, YieldsIf P ops (Held w0 ι H.ro R) o cv a ∧ RV w0.heap.size ι v cv := by
              rcases hst with ⟨hl1, hl2⟩ | hc | ⟨hc, hconv, hrig, hall⟩
              · obtain ⟨dst, op, type, pos, after, guard⟩ := o
                cases op <;> simp only [isLoad, Bool.false_eq_true] at hl1
                rename_i t x
                simp only [opA] at ho
                split at ho
                · rename_i pa hpa
                  obtain ⟨v', hv', ho⟩ := Option.map_eq_some_iff.1 ho
                  injection ho with e1 e2
                  subst e1
                  have hx := aeval_ok hs.fr x
                  rw [hpa] at hx
                  unfold RV at hx
                  obtain ⟨z, B, z1, z2, z3, _, z4⟩ := load_stable (P := P) hs.rep hv' hx
                  refine ⟨z, .inl ⟨hw, fun w' hw' => ?_⟩, z1⟩
                  obtain ⟨ι', H', hrep, hle, hRH, hro⟩ := hw'
                  have : pa.ro = true := by simpa [loadRo, hpa] using hl2
                  have hB := z3 this
                  have := z4 w' (.of (by rw [hrep.below.block B hB, hs.rep.below.block B hB]))
                  simp [execOp, this]
                · cases ho
              · obtain ⟨_, cv, h1, h2⟩ := opA_copy hs.rep hs.fr hc ho
                exact ⟨cv, .inl ⟨hw, fun w' _ => h1 w'⟩, h2⟩
              · have hcv : ∀ a n c, v ≠ .slice a n c ∨ ∀ s d x, o.op ≠ .convert s d x := fun a' n c => by
                  by_cases hv : v = .slice a' n c
                  · right
                    intro s d x he
                    rw [he, hv] at hconv
                    cases hconv
                  · exact .inl hv
                obtain ⟨_, cv, h1, h2⟩ := opA_still hs.rep hs.fr hc hcv ho
                refine ⟨cv, .inl ⟨hw, fun w' hw' => ?_⟩, h2⟩
                obtain ⟨ι', H', hrep, hle, hRH, hro⟩ := hw'
                obtain ⟨g1, g2⟩ := hall H' hRH hro
                obtain ⟨_, cv', k1, k2⟩ := opA_still hrep (hs.fr.ext hle) hc hcv g1
                rw [k1, rigid_eq hs.rep hrep hle hrig g2 h2 k2]
            obtain ⟨cv, hy, hv⟩ := key
            exact wpAnyH_take (v := cv) hi hsel hf hr (fun c a' w' => hp c a' w' _) hy hheld
              (DT_sound hsel hd hQ t _ _ H _ w ι hok h (hs.put (hd i o hi) hs.rep (LocLe.refl ι) hv) hR he)
  | .one i t, listed, fr, H, a, w, ι, hok, h, hs, hR, he => by
    simp only [treeOk, Bool.and_eq_true, beq_iff_eq] at hok
    obtain ⟨hr, hok⟩ := hok
    refine wpAnyH_all hr (by simp) fun j hj => ?_
    obtain rfl : j = i := by simpa using hj
    exact one_sound hd h hs fun fr1 H1 ι1 a1 w1 k1 k2 k3 k4 => DT_sound hsel hd hQ t _ fr1 H1 a1 w1 ι1 hok k1 k3 k2 (he.trans k4)
  | .two i s j t, listed, fr, H, a, w, ι, hok, h, hs, hR, he => by
    simp only [treeOk, Bool.and_eq_true, beq_iff_eq] at hok
    obtain ⟨⟨⟨hr, hl⟩, ok1⟩, ok2⟩ := hok
    refine wpAnyH_all hr (by simp) fun m hm => ?_
    by_cases hmi : m = i
    · subst hmi
      exact one_sound hd h.1 hs fun fr1 H1 ι1 a1 w1 k1 k2 k3 k4 => DT_sound hsel hd hQ s _ fr1 H1 a1 w1 ι1 ok1 k1 k3 k2 (he.trans k4)
    · obtain rfl : m = j := by simpa [hmi] using hm
      refine one_sound hd h.2 hs fun fr1 H1 ι1 a1 w1 k1 k2 k3 k4 => ?_
      show wpAnyH P md ops (onlyN QC) (Held w0 ι1 H1.ro R) s.len _ a1 w1
      rw [hl]
      exact DT_sound hsel hd hQ t _ fr1 H1 a1 w1 ι1 ok2 k1 k3 k2 (he.trans k4)
end
theorem awp_tree {P : Program} {N : Nat} {Q : Exit → AFr → AH → Prop} {fr : AFr} {H : AH} {id : Nat} {l : List Oper} (R : AH → Prop) (T : OT) (hm : P.follows .mixedOrders = true) (hd : dstsOk N l = true)
    (hok : (Region.noSelect l.toArray && (T.len == l.length) && treeOk .any l.toArray T (Array.replicate l.length false)) = true) (hR : R H)
    (h : DT P l.toArray R (Q .normal) T fr H) : AWp P N (.region id l.toArray true) Q fr H := fun ds w0 ι a w QC hs hQ => by
  simp only [Bool.and_eq_true, beq_iff_eq] at hok
  obtain ⟨⟨h1, h2⟩, h3⟩ := hok
  have hdr : ∀ (i : Nat) (o : Oper), l.toArray[i]? = some o → ∀ d, o.dst = some d → d < N := fun i o ho => dstsOk_spec hd o (List.mem_of_getElem? (by simpa using ho))
  obtain ⟨k0, k2⟩ := hs.rep.drew
  have k1 : St w0 ι N ds fr H a w.drew := ⟨k0, hs.fr, hs.size, hs.defers⟩
  refine wp_mono (Q := onlyN QC) (wp_region_held (S := Held w0 ι H.ro R) hm ?_) (fun e a w hh => hh.1 ▸ hh.2)
  have := DT_sound (P := P) (md := .any) (QC := QC) (R := R) h1 hdr (fun fr' H' ι' a' w' g1 g2 g3 => hQ .normal fr' H' ι' a' w' g1 g2 g3) T _ fr H a { w with drawn := w.drawn + 1 } ι h3 h k1 hR k2
  rw [h2] at this
  simpa using this
def optThen {α : Type} : Option α → (α → Prop) → Prop
  | none, _ => False
  | some x, k => k x
section
variable {P : Program} {ops : Array Oper} {R : AH → Prop} {Q : AFr → AH → Prop} {rest : List (Option Oper)} {K : AFr → AH → Prop} {fr : AFr} {H : AH} {ty : TypeId} {ps : String} {af : Array Edge} {d : Tmp}
theorem DT_nil : DT P ops R Q .nil fr H = Q fr H := nr rfl
theorem DT_flt {i : Nat} {t : OT} : DT P ops R Q (.flt i t) fr H = FltT P ops R (DT P ops R Q t) ops[i]? fr H := nr rfl
theorem DT_fltO {i : Nat} {t : OT} : DT P ops R Q (.flt i t) fr H = optThen ops[i]? fun o => FltT P ops R (DT P ops R Q t) (some o) fr H := by
  rw [DT_flt]
  unfold optThen
  cases ops[i]? <;> rfl
theorem DT_one {i : Nat} {t : OT} : DT P ops R Q (.one i t) fr H = OneT P ops R i (DT P ops R Q t) fr H := nr rfl
theorem DT_two {i j : Nat} {s t : OT} : DT P ops R Q (.two i s j t) fr H = (OneT P ops R i (DT P ops R Q s) fr H ∧ OneT P ops R j (DT P ops R Q t) fr H) := nr rfl
theorem OneT_opt {i : Nat} : OneT P ops R i K fr H = optThen ops[i]? fun o => AOps P ops (fun fr' H' => R H' ∧ K fr' H') [o] fr H := by
  unfold OneT optThen
  cases ops[i]? <;> rfl
theorem optThen_some {α : Type} {x : α} {k : α → Prop} : optThen (some x) k = k x := nr rfl
theorem F_move {x : Operand} : FltT P ops R K (some ⟨some d, .move x, ty, ps, af, none⟩) fr H = K (lput fr d (aeval fr x)) H := by
  simp [FltT, guardA, ifG, putA, opA, opThen, StillF, StillAt, copyOp]
theorem F_assign {x : Operand} : FltT P ops R K (some ⟨some d, .assign x, ty, ps, af, none⟩) fr H = K (lput fr d (aeval fr x)) H := by
  simp [FltT, guardA, ifG, putA, opA, opThen, StillF, StillAt, copyOp]
theorem F_extract {x : Operand} {n : Nat} : FltT P ops R K (some ⟨some d, .extract x n, ty, ps, af, none⟩) fr H = opThen (match aeval fr x with | .tup l => (l[n]?).map fun v => (v, H) | _ => none) fun v _ => K (lput fr d v) H := by
  simp only [FltT, guardA, ifG, putA, opA, StillF, StillAt, show copyOp (.extract x n) = true from rfl, true_or, or_true, true_and]
  rfl
theorem F_slice {t : TypeId} {x : Operand} {lo hi mx : Option Operand} : FltT P ops R K (some ⟨some d, .slice t x lo hi mx, ty, ps, af, none⟩) fr H = opThen ((sliceOpA P t (aeval fr x) (lo.map (aeval fr)) (hi.map (aeval fr)) (mx.map (aeval fr))).map fun v => (v, H)) fun v _ => K (lput fr d v) H := by
  simp only [FltT, guardA, ifG, putA, opA, StillF, StillAt, show copyOp (.slice t x lo hi mx) = true from rfl, true_or, or_true, true_and]
theorem F_indexAddr {t : TypeId} {x y : Operand} : FltT P ops R K (some ⟨some d, .indexAddr t x y, ty, ps, af, none⟩) fr H = opThen ((indexAddrA P t (aeval fr x) (aeval fr y)).map fun v => (v, H)) fun v _ => rigR R H v ∧ K (lput fr d v) H := by
  simp only [FltT, guardA, ifG, putA, opA]
  cases h : indexAddrA P t (aeval fr x) (aeval fr y) with
  | none => rfl
  | some v =>
    simp only [Option.map_some, opThen, StillF, isLoad, StillAt, copyOp, stillOp, convOk, Bool.false_eq_true, false_and, false_or, true_and, rigR, opA, h]
theorem F_load {t : TypeId} {x : Operand} : FltT P ops R K (some ⟨some d, .load t x, ty, ps, af, none⟩) fr H = opThen (match aeval fr x with | .ptr p => (loadA P t p H).map fun v => (v, H) | _ => none) fun v _ => (roV (aeval fr x) = true ∨ sameR R H (fun H' => opA P fr H' (.load t x)) v) ∧ K (lput fr d v) H := by
  simp only [FltT, guardA, ifG, putA, opA]
  have : ∀ v, StillF P R fr H (.load t x) v = (roV (aeval fr x) = true ∨ sameR R H (fun H' => opA P fr H' (.load t x)) v) := fun v => by
    simp only [StillF, isLoad, loadRo, StillAt, copyOp, stillOp, convOk, Bool.false_eq_true, false_or, true_and, sameR, rigR]
    refine propext ⟨fun h => h.imp (fun h => by cases hx : aeval fr x <;> simp_all [roV]) fun ⟨h1, h2⟩ => ⟨⟨h1, fun H' a b => (h2 H' a b).2⟩, fun H' a b => (h2 H' a b).1⟩, fun h => h.imp (fun h => by cases hx : aeval fr x <;> simp_all [roV]) fun ⟨⟨h1, h2⟩, h3⟩ => ⟨h1, fun H' a b => ⟨h3 H' a b, h2 H' a b⟩⟩⟩
  simp only [this]
  rfl
end
theorem FltT_c {P : Program} {ops : Array Oper} {R : AH → Prop} {K : AFr → AH → Prop} {o : Option Oper} {fr fr' : AFr} {H H' : AH} (h1 : mark fr = fr') (h2 : mark H = H') : FltT P ops R K o fr H = FltT P ops R K o fr' H' := by rw [← h1, ← h2, mark_eq, mark_eq]
theorem DT_c {P : Program} {ops : Array Oper} {R : AH → Prop} {Q : AFr → AH → Prop} {T : OT} {fr fr' : AFr} {H H' : AH} (h1 : mark fr = fr') (h2 : mark H = H') : DT P ops R Q T fr H = DT P ops R Q T fr' H' := by rw [← h1, ← h2, mark_eq, mark_eq]
theorem optThen_c {α : Type} {o o' : Option α} {k : α → Prop} (h : mark o = o') : optThen o k = optThen o' k := by rw [← h, mark_eq]
attribute [congr] FltT_c DT_c optThen_c
theorem ops_at {l : List Oper} {i : Nat} : l.toArray[i]? = l[i]? := by simp
attribute [go_sem] ops_at List.getElem?_cons_zero List.getElem?_cons_succ DT_nil DT_fltO DT_one DT_two OneT_opt optThen_some F_move F_assign F_extract F_slice F_indexAddr F_load
theorem awp_loopS {P : Program} {N : Nat} {Q : Exit → AFr → AH → Prop} {fr : AFr} {H : AH} {σ : Type} {c : Code} (F : σ → List (Nat × AV)) (I : σ → AH → Prop) (μ : σ → Nat) (s : σ) (hL : hasF (F s) fr) (hI : I s H)
    (round : ∀ s H, I s H → AWp P N c (thenA (fun fr' H' => ∃ s', hasF (F s') fr' ∧ μ s' < μ s ∧ I s' H') Q) (frOf (F s)) H) : AWp P N (.loop c) Q fr H :=
  awp_loop (fun n fr H => ∃ s, I s H ∧ μ s = n ∧ hasF (F s) fr) (μ s) ⟨s, hI, rfl, hL⟩ fun n fr H ⟨s, h1, h2, h3⟩ => by
    subst h2
    exact awp_use h3 ((round s H h1).mono fun e fr' H' hq => thenA_mono (fun fr'' H'' ⟨s', k1, k2, k3⟩ => ⟨_, k2, s', k3, rfl, k1⟩) hq)
end Go.Abs
set_option linter.unusedVariables false
set_option linter.unusedSimpArgs false
namespace Go.Abs
open Go Go.RowKit
def pan (v : Value) : List PanicEntry := [{ v, recovered := false }]
def ASpecP (P : Program) (f : FuncId) (args : List AV) (H : AH) (Q : AV → AH → Prop) (X : Value → AH → Prop) : Prop :=
  ∀ (w0 : World) (ι : List Loc) (w : World) (cargs : Array Value), Rep w0 ι H w → RVL w0.heap.size ι args cargs.toList →
    enters P f = true ∧ Calls P f cargs w fun e w' =>
      (∃ v r H' ι', e = .returned v ∧ RV w0.heap.size ι' r v ∧ Rep w0 ι' H' w' ∧ Ext ι H w ι' H' w' ∧ Q r H') ∨
      ∃ v H' ι', e = .panicked (pan v) ∧ Rep w0 ι' H' w' ∧ Ext ι H w ι' H' w' ∧ X v H'
def retP (P : Program) (rs : List ResultVar) (R : AV → AH → Prop) (X : Value → AH → Prop) : Exit → AFr → AH → Prop
  | .normal, fr, H => resA (aresults P fr H rs) R H
  | .ret, fr, H => resA (aresults P fr H rs) R H
  | .panic ch, fr, H => ∃ v, ch = pan v ∧ X v H
  | _, _, _ => False
theorem retP_normal {P : Program} {rs : List ResultVar} {R : AV → AH → Prop} {X : Value → AH → Prop} {fr : AFr} {H : AH} : retP P rs R X .normal fr H = resA (aresults P fr H rs) R H := nr rfl
theorem retP_ret {P : Program} {rs : List ResultVar} {R : AV → AH → Prop} {X : Value → AH → Prop} {fr : AFr} {H : AH} : retP P rs R X .ret fr H = resA (aresults P fr H rs) R H := nr rfl
section
variable {P : Program} {N : Nat} {Q : Exit → AFr → AH → Prop} {fr : AFr} {H : AH}
theorem lget_of : ∀ (l : List AV) (i : Nat) (x : AV), l[i]? = some x → lget l i = x
  | [], i, x, h => by simp at h
  | z :: l, 0, x, h => by simp at h; exact h
  | z :: l, i + 1, x, h => by simp at h; exact lget_of l i x h
theorem lget_out : ∀ (l : List AV) (i : Nat), l.length ≤ i → lget l i = .unk
  | [], i, _ => lget_nil i
  | z :: l, 0, h => by simp at h
  | z :: l, i + 1, h => by simp at h; exact lget_out l i h
theorem start_st {w0 w : World} {ι : List Loc} {args : List AV} {cargs : Array Value} {n : Nat} (hr : Rep w0 ι H w) (hv : RVL w0.heap.size ι args cargs.toList) (hl : args.length ≤ n) :
    St w0 ι n [] args H { tmps := cargs ++ Array.replicate (n - cargs.size) undef, defers := [] } w := by
  have hlen := hv.length
  simp only [Array.length_toList] at hlen
  refine ⟨hr, fun i => ?_, by simp; omega, rfl⟩
  by_cases hi : i < args.length
  · have hg : args[i]? = some args[i] := List.getElem?_eq_getElem hi
    obtain ⟨y, h1, h2⟩ := hv.get hg
    rw [Array.getElem?_toList] at h1
    rw [lget_of _ _ _ hg, Array.getD_eq_getD_getElem?, Array.getElem?_append_left (by omega), h1]
    exact h2
  · rw [lget_out _ _ (by omega)]
    unfold RV; trivial
theorem results_st {w0 w : World} {ι : List Loc} {ds : List Deferred} {a : Act} {fn : Func} {vs : List AV} (hs : St w0 ι N ds fr H a w) (hvs : aresults P fr H fn.results.toList = some vs) :
    ∃ v, (results fn a.tmps).run P w = .ok v w ∧ RV w0.heap.size ι (tupA vs) v := by
  obtain ⟨ys, r1, r2⟩ := aresults_run hs _ hvs
  refine ⟨if h : ys.toArray.size = 1 then ys.toArray[0] else .tuple ys.toArray, ?_, ?_⟩
  · simp only [results, Array.mapM_eq_mapM_toList, Sem.run_bind, Sem.run_map]
    rw [r1 _ (fun _ => rfl) (fun _ _ => rfl)]
    rfl
  · have hlen := r2.length
    split
    · rename_i h1
      simp at h1
      rw [h1] at hlen
      cases vs with
      | nil => simp at hlen
      | cons x vs =>
        cases vs with
        | cons _ _ => simp at hlen
        | nil =>
          simp only [RVL] at r2
          obtain ⟨y, m, rfl, h2, rfl⟩ := r2
          exact h2
    · rename_i h1
      have : tupA vs = .tup vs := by
        cases vs with
        | nil => rfl
        | cons x vs =>
          cases vs with
          | cons _ _ => rfl
          | nil => simp at hlen; simp at h1; exact absurd hlen h1
      rw [this]
      unfold RV
      exact ⟨ys.toArray, rfl, by simpa using r2⟩
theorem resA_elim {o : Option (List AV)} {R : AV → AH → Prop} (h : resA o R H) : ∃ vs, o = some vs ∧ R (tupA vs) H := by
  cases o with
  | none => exact h.elim
  | some vs => exact ⟨vs, rfl, h⟩
theorem aspecP_in {f : FuncId} {fn : Func} {c : Code} {args : List AV} {n : Nat} {rs : List ResultVar} {R : AV → AH → Prop} {X : Value → AH → Prop} (hf : P.funcs[f]? = some fn) (hb : fn.body = some c) (hname : (fn.name == "runtime.NumGoroutine") = false) (hr : fn.results.toList = rs) (hn : fn.ntmps = n) (hl : args.length ≤ n)
    (h : AWp P n c (retP P rs R X) args H) : ASpecP P f args H R X := by
  subst hn hr
  refine fun w0 ι w cargs hrep hv => ⟨by unfold enters; rw [hf]; simp [hb, hname], calls_of_wp hf hb (h [] w0 ι _ w _ (start_st hrep hv hl) ?_)⟩
  intro e fr' H' ι' a' w' hq hs he
  cases e with
  | normal =>
    obtain ⟨vs, hvs, hq⟩ := resA_elim (retP_normal ▸ hq)
    obtain ⟨v, h1, h2⟩ := results_st hs hvs
    exact ⟨hs.defers, v, h1, .inl ⟨v, _, H', ι', rfl, h2, hs.rep, he, hq⟩⟩
  | ret =>
    obtain ⟨vs, hvs, hq⟩ := resA_elim (retP_ret ▸ hq)
    obtain ⟨v, h1, h2⟩ := results_st hs hvs
    exact ⟨hs.defers, v, h1, .inl ⟨v, _, H', ι', rfl, h2, hs.rep, he, hq⟩⟩
  | panic ch =>
    obtain ⟨v, rfl, hx⟩ := hq
    exact ⟨hs.defers, .inr ⟨v, H', ι', rfl, hs.rep, he, hx⟩⟩
  | exit id => exact hq.elim
  | goto l => exact hq.elim
  | outgrown => exact hq.elim
def AL (P : Program) (N : Nat) (ops : Array Oper) (Q : Exit → AFr → AH → Prop) (l : List Oper) (fr : AFr) (H : AH) : Prop :=
  ∀ (ds : List Deferred) (w0 : World) (ι : List Loc) (a : Act) (w : World) (QC : Exit → Act → World → Prop), St w0 ι N ds fr H a w →
    (∀ e fr' H' ι' a' w', Q e fr' H' → St w0 ι' N ds fr' H' a' w' → Ext ι H w ι' H' w' → QC e a' w') → wpList P ops QC l a w
theorem AL_nil {ops : Array Oper} (h : Q .normal fr H) : AL P N ops Q [] fr H := fun ds w0 ι a w QC hs hQ => hQ _ _ _ _ _ _ h hs (Ext.refl _ _ _)
theorem AOps_then {ops : Array Oper} {Q : AFr → AH → Prop} {ds : List Deferred} {QC : Exit → Act → World → Prop} {rest : List Oper} : ∀ (l : List Oper) {w0 w : World} {ι : List Loc} {fr : AFr} {H : AH} {a : Act}, (∀ o ∈ l, ∀ d, o.dst = some d → d < N) → AOps P ops Q l fr H → St w0 ι N ds fr H a w →
    (∀ fr' H' ι' a' w', Q fr' H' → St w0 ι' N ds fr' H' a' w' → Ext ι H w ι' H' w' → wpList P ops QC rest a' w') → wpList P ops QC (l ++ rest) a w
  | [], w0, w, ι, fr, H, a, _, h, hs, hQ => hQ fr H ι a w h hs (Ext.refl _ _ _)
  | o :: l, w0, w, ι, fr, H, a, hd, h, hs, hQ => by
    have hd0 := hd o (by simp)
    have hdr : ∀ o ∈ l, ∀ d, o.dst = some d → d < N := fun o' ho' => hd o' (by simp [ho'])
    rw [List.cons_append]
    refine wpList_step fun K hK => ?_
    simp only [AOps] at h
    cases hg : guardA ops fr o with
    | none => rw [hg] at h; exact h.elim
    | some b =>
      rw [hg] at h
      rw [guardA_ok hs hg]
      cases b with
      | false =>
        simp only at h
        simp only [Bool.false_eq_true, if_false]
        exact hK _ _ (AOps_then l hdr h (hs.put hd0 hs.rep (LocLe.refl ι) RV_undef) hQ)
      | true =>
        simp only at h
        simp only [if_true]
        cases hc : callA fr o.op with
        | some fa =>
          obtain ⟨f, args⟩ := fa
          rw [hc] at h
          simp only at h
          exact call_step hs hc hd0 h fun r H' ι' a' w' h1 h2 h3 => hK _ _ (AOps_then l hdr h1 h2 fun fr' H'' ι'' a'' w'' g1 g2 g3 => hQ fr' H'' ι'' a'' w'' g1 g2 (h3.trans g3))
        | none =>
          rw [hc] at h
          simp only at h
          cases ho : opA P fr H o.op with
          | none => rw [ho] at h; exact h.elim
          | some vh =>
          obtain ⟨v, H'⟩ := vh
          rw [ho] at h
          exact op_step hs ho hd0 fun ι' a' w' h2 h3 => hK _ _ (AOps_then l hdr h h2 fun fr' H'' ι'' a'' w'' g1 g2 g3 => hQ fr' H'' ι'' a'' w'' g1 g2 (h3.trans g3))
theorem AL_pre {ops : Array Oper} {pre rest : List Oper} (hd : dstsOk N pre = true) (h : AOps P ops (fun fr' H' => AL P N ops Q rest fr' H') pre fr H) : AL P N ops Q (pre ++ rest) fr H :=
  fun ds w0 ι a w QC hs hQ => AOps_then pre (dstsOk_spec hd) h hs fun fr' H' ι' a' w' g1 g2 g3 => g1 ds w0 ι' a' w' QC g2 fun e fr'' H'' ι'' a'' w'' k1 k2 k3 => hQ e fr'' H'' ι'' a'' w'' k1 k2 (g3.trans k3)
theorem AL_pre1 {ops : Array Oper} {a : Oper} {rest : List Oper} (hd : dstsOk N [a] = true) (h : AOps P ops (fun fr' H' => AL P N ops Q rest fr' H') [a] fr H) : AL P N ops Q (a :: rest) fr H := AL_pre (pre := [a]) hd h
theorem AL_pre2 {ops : Array Oper} {a b : Oper} {rest : List Oper} (hd : dstsOk N [a, b] = true) (h : AOps P ops (fun fr' H' => AL P N ops Q rest fr' H') [a, b] fr H) : AL P N ops Q (a :: b :: rest) fr H := AL_pre (pre := [a, b]) hd h
theorem AL_pre3 {ops : Array Oper} {a b c : Oper} {rest : List Oper} (hd : dstsOk N [a, b, c] = true) (h : AOps P ops (fun fr' H' => AL P N ops Q rest fr' H') [a, b, c] fr H) : AL P N ops Q (a :: b :: c :: rest) fr H := AL_pre (pre := [a, b, c]) hd h
theorem awp_AL {id : Nat} {l : List Oper} (h : AL P N l.toArray Q l fr H) : AWp P N (.region id l.toArray false) Q fr H := fun ds w0 ι a w QC hs hQ =>
  wp_region_lit (h ds w0 ι a w QC hs hQ)
theorem exact_iface {t : TypeId} {x : AV} {z : Value} (hx : ∀ b ι cv, RV b ι x cv → cv = z) (b : Nat) (ι : List Loc) (cv : Value) (h : RV b ι (.iface t x) cv) : cv = .iface t z := by
  unfold RV at h
  obtain ⟨y, rfl, h⟩ := h
  rw [hx _ _ _ h]
theorem exact_agg1 {k : IntKind} {n : Int} (b : Nat) (ι : List Loc) (cv : Value) (h : RV b ι (.agg [.int k n]) cv) : cv = .agg #[.int k n] := by
  unfold RV at h
  obtain ⟨cs, rfl, h⟩ := h
  unfold RVL at h
  obtain ⟨y, m, h1, h2, h3⟩ := h
  unfold RV RVL at *
  subst h2 h3
  have : cs = #[.int k n] := by cases cs; simp at h1; simp [h1]
  rw [this]
theorem AL_panic {ops : Array Oper} {x : Operand} {dst : Option Tmp} {ty : TypeId} {ps : String} {af : Array Edge} {rest : List Oper} {t : TypeId} {z : Value} (hx : ∀ b ι cv, RV b ι (aeval fr x) cv → cv = .iface t z) (h : Q (.panic (pan (.iface t z))) fr H) : AL P N ops Q (⟨dst, .panic x, ty, ps, af, none⟩ :: rest) fr H := fun ds w0 ι a w QC hs hQ => by
  refine wpList_step fun K hK => ?_
  rw [show Region.wanted (⟨dst, .panic x, ty, ps, af, none⟩ : Oper) (yielded ops a.tmps) = true from rfl]
  simp only [if_true]
  unfold Oper.wp
  have e := hx _ _ _ (aeval_ok hs.fr x)
  have : (execOp a.eval (⟨dst, .panic x, ty, ps, af, none⟩ : Oper)).run P w = .halt (.panic (.iface t z)) w := by
    simp only [execOp, e]
    rfl
  rw [this, Oper.upon_panic]
  exact hQ _ _ _ _ _ _ h hs (Ext.refl _ _ _)
theorem AL_callP {ops : Array Oper} {o : Oper} {rest : List Oper} {f : FuncId} {args : List AV} {R : AV → AH → Prop} {X : Value → AH → Prop} (hg : o.guard = none) (hc : callA fr o.op = some (f, args)) (hd : ∀ d, o.dst = some d → d < N) (hs : ASpecP P f args H R X)
    (h1 : ∀ r H', R r H' → AL P N ops Q rest (putA fr o.dst r) H') (h2 : ∀ v H', X v H' → Q (.panic (pan v)) fr H') : AL P N ops Q (o :: rest) fr H := fun ds w0 ι a w QC hst hQ => by
  refine wpList_step fun K hK => ?_
  rw [show Region.wanted o (yielded ops a.tmps) = true by simp [Region.wanted, hg]]
  simp only [if_true]
  obtain ⟨cargs, hr, hv⟩ := callA_ok hst hc
  unfold Oper.wp
  obtain ⟨he, hcalls⟩ := hs w0 ι w cargs hst.rep hv
  rw [hr, enters_run he, Oper.upon_enter]
  refine hcalls.mono fun e w' hq => ?_
  rcases hq with ⟨v, r, H', ι', rfl, k2, k3, k4, k5⟩ | ⟨v, H', ι', rfl, k3, k4, k5⟩
  · exact hK _ _ (h1 r H' k5 ds w0 ι' _ w' QC (hst.put hd k3 k4.le k2) fun e fr'' H'' ι'' a'' w'' g1 g2 g3 => hQ e fr'' H'' ι'' a'' w'' g1 g2 (k4.trans g3))
  · exact hQ _ _ _ _ _ _ (h2 v H' k5) ⟨k3, hst.fr.ext k4.le, hst.size, hst.defers⟩ k4
def isNilIf : AV → Option Bool
  | .nilif => some true
  | .iface _ _ => some false
  | _ => none
theorem equalIn_nn {t : TypeId} {ms : Array (String × TypeId)} (ht : P.underlying t = some (.interface ms)) (k : Nat) (w : World) : (Op.equalIn (k + 1) t .nilIface .nilIface).run P w = .ok true w := by simp [Op.equalIn, run_underlying ht]
theorem equalIn_in {t ti : TypeId} {y : Value} {ms : Array (String × TypeId)} (ht : P.underlying t = some (.interface ms)) (k : Nat) (w : World) : (Op.equalIn (k + 1) t (.iface ti y) .nilIface).run P w = .ok false w := by simp [Op.equalIn, run_underlying ht]
theorem AL_ifnil {ops : Array Oper} {x : Operand} {d : Tmp} {ty t t2 : TypeId} {ps : String} {af : Array Edge} {rest : List Oper} {ms : Array (String × TypeId)} {r : Bool} (ht : P.underlying t = some (.interface ms)) (hx : isNilIf (aeval fr x) = some r) (hd : d < N) (h : AL P N ops Q rest (lput fr d (.bool r)) H) :
    AL P N ops Q (⟨some d, .binOp .eql t x (.const .nilIface) t2, ty, ps, af, none⟩ :: rest) fr H := fun ds w0 ι a w QC hs hQ => by
  refine wpList_step fun K hK => ?_
  rw [show Region.wanted (⟨some d, .binOp .eql t x (.const .nilIface) t2, ty, ps, af, none⟩ : Oper) (yielded ops a.tmps) = true from rfl]
  simp only [if_true]
  unfold Oper.wp
  have hv := aeval_ok hs.fr x
  have : (execOp a.eval (⟨some d, .binOp .eql t x (.const .nilIface) t2, ty, ps, af, none⟩ : Oper)).run P w = .ok (.value (.bool r)) w := by
    have hc : a.eval (.const .nilIface) = .nilIface := rfl
    have key : ∀ u, (u = .nilIface ∧ r = true ∨ ∃ ti y, u = .iface ti y ∧ r = false) → (execOp a.eval (⟨some d, .binOp .eql t x (.const .nilIface) t2, ty, ps, af, none⟩ : Oper)).run P w = .ok (.value (.bool r)) w ∨ a.eval x ≠ u := by
      rintro u hu
      by_cases hux : a.eval x = u
      · left
        rcases hu with ⟨rfl, rfl⟩ | ⟨ti, y, rfl, rfl⟩
        · have h1 : (Op.equalIn (9999 + 1) t .nilIface .nilIface).run P w = .ok true w := equalIn_nn ht 9999 w
          have h2 : (Op.equal t .nilIface .nilIface).run P w = .ok true w := h1
          have h3 : (binOp .eql t .nilIface .nilIface).run P w = .ok (.bool true) w := by simp [binOp, h2]
          have h4 : eqGuard .eql t x (.const .nilIface) .nilIface .nilIface = pure () := by simp [eqGuard]
          simp only [execOp, hux, hc, h4, Sem.run_bind, Sem.run_pure, Result.andThen_ok, h3]
        · have h1 : (Op.equalIn (9999 + 1) t (.iface ti y) .nilIface).run P w = .ok false w := equalIn_in ht 9999 w
          have h2 : (Op.equal t (.iface ti y) .nilIface).run P w = .ok false w := h1
          have h3 : (binOp .eql t (.iface ti y) .nilIface).run P w = .ok (.bool false) w := by simp [binOp, h2]
          have h4 : eqGuard .eql t x (.const .nilIface) (.iface ti y) .nilIface = pure () := by simp [eqGuard]
          simp only [execOp, hux, hc, h4, Sem.run_bind, Sem.run_pure, Result.andThen_ok, h3]
      · exact .inr hux
    unfold isNilIf at hx
    split at hx
    · rename_i e
      injection hx with hx
      subst hx
      rw [e] at hv
      unfold RV at hv
      exact (key _ (.inl ⟨rfl, rfl⟩)).resolve_right (fun h => h hv)
    · rename_i e
      injection hx with hx
      subst hx
      rw [e] at hv
      unfold RV at hv
      obtain ⟨y, hv, _⟩ := hv
      exact (key _ (.inr ⟨_, _, rfl, rfl⟩)).resolve_right (fun h => h hv)
    · cases hx
  rw [this, Oper.upon_value]
  exact hK _ _ (h ds w0 ι _ w QC (hs.put (dst := some d) (x := .bool r) (fun _ e => by injection e with e; subst e; exact hd) hs.rep (LocLe.refl ι) (by unfold RV; rfl)) hQ)
def modeOf : Option Value → FrameMode
  | none => .returning
  | some v => .panicking (pan v)
def ASpecD (P : Program) (g : FuncId) (args : List AV) (H : AH) (u : Option Value) (Q : AH → Prop) : Prop :=
  ∀ (w0 : World) (ι : List Loc) (w : World) (cargs : Array Value), Rep w0 ι H w → RVL w0.heap.size ι args cargs.toList →
    enters P g = true ∧ CallsD P g cargs (modeOf u) w fun e u' w' => ∃ v H' ι', e = .returned v ∧ settle u' = .returning ∧ Rep w0 ι' H' w' ∧ Ext ι H w ι' H' w' ∧ Q H'
theorem ASpecD.mono {g : FuncId} {args : List AV} {u : Option Value} {Q Q' : AH → Prop} (h : ASpecD P g args H u Q) (hq : ∀ H', Q H' → Q' H') : ASpecD P g args H u Q' :=
  fun w0 ι w cargs hr hv => ⟨(h w0 ι w cargs hr hv).1, (h w0 ι w cargs hr hv).2.mono fun e u' w' ⟨v, H', ι', h1, h2, h3, h4, h5⟩ => ⟨v, H', ι', h1, h2, h3, h4, hq _ h5⟩⟩
def recOf (u : Option Value) (x : AV) : Prop :=
  match u with
  | none => x = .nilif
  | some v => ∀ b ι, RV b ι x v
theorem aspecD_rec {g : FuncId} {fn : Func} {c rest : Code} {args : List AV} {n id : Nat} {d1 d2 : Tmp} {ts : Array TypeId} {ty1 ty2 : TypeId} {p1 p2 : String} {af1 af2 : Array Edge} {Q : AH → Prop} (hf : P.funcs[g]? = some fn) (hb : fn.body = some c) (hname : (fn.name == "runtime.NumGoroutine") = false) (hr : fn.results = #[]) (hn : fn.ntmps = n) (hl : args.length ≤ n)
    (hc : c = .seq (.region id #[⟨some d1, .call ⟨.builtin .recover, #[], ts⟩, ty1, p1, af1, none⟩, ⟨some d2, .assign (.tmp d1), ty2, p2, af2, none⟩] false) rest) (h1 : d1 < n) (h2 : d2 < n) (u : Option Value) (x : AV) (hx : recOf u x)
    (h : AWp P n rest (fun e _ H' => (e = .normal ∨ e = .ret) ∧ Q H') (lput (lput args d1 x) d2 x) H) : ASpecD P g args H u Q := by
  subst hn hc
  refine fun w0 ι w cargs hrep hv => ⟨by unfold enters; rw [hf]; simp [hb, hname], callsD_of_wpS hf hb fun c₀ cs hm => wpS_seq (wpS_region ?_)⟩
  have hst := start_st (n := fn.ntmps) hrep hv hl
  generalize ha : ({ tmps := cargs ++ Array.replicate (fn.ntmps - cargs.size) undef, defers := [] } : Act) = a0 at hst
  have key : ∀ (cx : Value) (cs' : List Frame) (u' : FrameMode), RV w0.heap.size ι x cx → cs' = { c₀ with mode := u' } :: cs → settle u' = .returning →
      rest.wpS P (bodyPostS P fn c₀ cs fun e u' w' => ∃ v H' ι', e = .returned v ∧ settle u' = .returning ∧ Rep w0 ι' H' w' ∧ Ext ι H w ι' H' w' ∧ Q H') ((a0.put (some d1) cx).put (some d2) cx) cs' w := by
    intro cx cs' u' hcx hcs hu
    subst hcs
    have s1 := hst.put (dst := some d1) (x := x) (fun _ e => by injection e with e; subst e; exact h1) hst.rep (LocLe.refl ι) hcx
    have s2 := s1.put (dst := some d2) (x := x) (fun _ e => by injection e with e; subst e; exact h2) hst.rep (LocLe.refl ι) hcx
    refine wpS_of_wp (h [] w0 ι _ w _ s2 ?_)
    intro e fr' H' ι' a' w' hq hs he
    obtain ⟨v, k1, _⟩ := results_st (P := P) (fn := fn) (vs := []) hs (by rw [hr]; rfl)
    rcases hq.1 with rfl | rfl
    · exact ⟨hs.defers, u', rfl, v, k1, v, H', ι', rfl, hu, hs.rep, he, hq.2⟩
    · exact ⟨hs.defers, u', rfl, v, k1, v, H', ι', rfl, hu, hs.rep, he, hq.2⟩
  have ev : ∀ cx : Value, (a0.put (some d1) cx).eval (.tmp d1) = cx := fun cx => by
    have : d1 < a0.tmps.size := by rw [hst.size]; exact h1
    simp [Act.put, Act.eval, Array.getD_eq_getD_getElem?, this]
  have run1 : ∀ (a : Act), (execOp a.eval (⟨some d1, .call ⟨.builtin .recover, #[], ts⟩, ty1, p1, af1, none⟩ : Oper)).run P w = .ok .recover w := fun a => by
    simp [execOp, resolve, invoke, builtin]
  have go : ∀ (cx : Value) (cs' : List Frame), (match recoverD (c₀ :: cs) with | some (v, cs') => (v, cs') | none => (.nilIface, c₀ :: cs)) = (cx, cs') →
      rest.wpS P (bodyPostS P fn c₀ cs fun e u' w' => ∃ v H' ι', e = .returned v ∧ settle u' = .returning ∧ Rep w0 ι' H' w' ∧ Ext ι H w ι' H' w' ∧ Q H') ((a0.put (some d1) cx).put (some d2) cx) cs' w →
      wpOpsS P #[⟨some d1, .call ⟨.builtin .recover, #[], ts⟩, ty1, p1, af1, none⟩, ⟨some d2, .assign (.tmp d1), ty2, p2, af2, none⟩] (Exit.thenS (rest.wpS P (bodyPostS P fn c₀ cs fun e u' w' => ∃ v H' ι', e = .returned v ∧ settle u' = .returning ∧ Rep w0 ι' H' w' ∧ Ext ι H w ι' H' w' ∧ Q H')) (bodyPostS P fn c₀ cs fun e u' w' => ∃ v H' ι', e = .returned v ∧ settle u' = .returning ∧ Rep w0 ι' H' w' ∧ Ext ι H w ι' H' w' ∧ Q H')) [0, 1] a0 (c₀ :: cs) w := by
    intro cx cs' hrec hk
    have r2 : (execOp (a0.put (some d1) cx).eval (⟨some d2, .assign (.tmp d1), ty2, p2, af2, none⟩ : Oper)).run P w = .ok (.value cx) w := by
      simp only [execOp, ev cx]; rfl
    have w1 : ∀ ys, Region.wanted (⟨some d1, .call ⟨.builtin .recover, #[], ts⟩, ty1, p1, af1, none⟩ : Oper) ys = true := fun _ => rfl
    have w2 : ∀ ys, Region.wanted (⟨some d2, .assign (.tmp d1), ty2, p2, af2, none⟩ : Oper) ys = true := fun _ => rfl
    simp only [wpOpsS, List.getElem?_toArray, List.getElem?_cons_zero, List.getElem?_cons_succ, w1, w2, if_true, run1]
    cases hq : recoverD (c₀ :: cs) with
    | some p =>
      obtain ⟨v, cs1⟩ := p
      rw [hq] at hrec
      simp only [Prod.mk.injEq] at hrec
      obtain ⟨rfl, rfl⟩ := hrec
      simp only [r2, Oper.upon_value]
      exact hk
    | none =>
      rw [hq] at hrec
      simp only [Prod.mk.injEq] at hrec
      obtain ⟨rfl, rfl⟩ := hrec
      simp only [r2, Oper.upon_value]
      exact hk
  rw [show List.range (#[(⟨some d1, .call ⟨.builtin .recover, #[], ts⟩, ty1, p1, af1, none⟩ : Oper), ⟨some d2, .assign (.tmp d1), ty2, p2, af2, none⟩] : Array Oper).size = [0, 1] from rfl]
  cases u with
  | none =>
    unfold recOf at hx
    subst hx
    refine go .nilIface (c₀ :: cs) ?_ (key _ _ .returning (by unfold RV; rfl) ?_ rfl)
    · simp only [modeOf] at hm
      simp [recoverD, hm]
    · simp only [modeOf] at hm
      rw [← hm]
  | some v =>
    refine go v ({ c₀ with mode := .panicking [{ v, recovered := true }] } :: cs) ?_ (key _ _ _ (hx _ _) rfl rfl)
    simp only [modeOf, pan] at hm
    simp [recoverD, hm]
def LvA (P : Program) (rs : List ResultVar) (R : AV → AH → Prop) (g : FuncId) (l : List AV) : Exit → AFr → AH → Prop
  | .normal, fr, H => ASpecD P g l H none fun H' => resA (aresults P fr H' rs) R H'
  | .ret, fr, H => ASpecD P g l H none fun H' => resA (aresults P fr H' rs) R H'
  | .panic ch, fr, H => ∃ v, ch = pan v ∧ ASpecD P g l H (some v) fun H' => resA (aresults P fr H' rs) R H'
  | _, _, _ => False
theorem wp_cut {w0 : World} {ds : List Deferred} {X : AFr → AH → Prop} {Q0 : Exit → AFr → AH → Prop} : ∀ (m : Nat) (c : Code) {QC : Exit → Act → World → Prop} {ι : List Loc} {a : Act} {w : World} {fr : AFr} {H : AH}, codeOk N (headN m c) = true → WP P N (headN m c) (thenA X Q0) fr H → St w0 ι N ds fr H a w →
    (∀ fr' H' ι' a' w', X fr' H' → St w0 ι' N ds fr' H' a' w' → Ext ι H w ι' H' w' → (restC m c).wp P QC a' w') → (∀ e fr' H' ι' a' w', Q0 e fr' H' → St w0 ι' N ds fr' H' a' w' → Ext ι H w ι' H' w' → QC e a' w') → c.wp P QC a w
  | 0, c, QC, ι, a, w, fr, H, hok, h, hs, hX, hQ => by
    have h0 : headN 0 c = .skip := by cases c <;> rfl
    have h1 : restC 0 c = c := by cases c <;> rfl
    rw [h0] at h
    rw [h1] at hX
    exact hX fr H ι a w h hs (Ext.refl _ _ _)
  | m + 1, c, QC, ι, a, w, fr, H, hok, h, hs, hX, hQ => by
    cases c with
    | seq x y =>
      have hok' : (codeOk N x && codeOk N (headN m y)) = true := hok
      simp only [Bool.and_eq_true] at hok'
      have h' : WP P N x (thenA (WP P N (headN m y) (thenA X Q0)) (thenA X Q0)) fr H := h
      refine wp_seq (wp_sound x hok'.1 h' ds w0 ι a w _ hs ?_)
      intro e fr' H' ι' a' w' hq k1 k2
      cases e with
      | normal => exact wp_cut m y hok'.2 hq k1 (fun fr'' H'' ι'' a'' w'' g1 g2 g3 => hX fr'' H'' ι'' a'' w'' g1 g2 (k2.trans g3)) (fun e fr'' H'' ι'' a'' w'' g1 g2 g3 => hQ e fr'' H'' ι'' a'' w'' g1 g2 (k2.trans g3))
      | exit id => exact hQ _ _ _ _ _ _ hq k1 k2
      | goto l => exact hQ _ _ _ _ _ _ hq k1 k2
      | ret => exact hQ _ _ _ _ _ _ hq k1 k2
      | panic c => exact hQ _ _ _ _ _ _ hq k1 k2
      | outgrown => exact hQ _ _ _ _ _ _ hq k1 k2
    | _ => exact hX fr H ι a w h hs (Ext.refl _ _ _)
theorem aspec_defer {f g : FuncId} {fn : Func} {c post : Code} {args : List AV} {n id : Nat} {rs : List ResultVar} {R : AV → AH → Prop} {t : Tmp} {cap : Array Operand} {ty1 ty2 : TypeId} {p1 p2 : String} {af1 af2 : Array Edge} {tys : Array TypeId} (m : Nat)
    (hf : P.funcs[f]? = some fn) (hb : fn.body = some c) (hname : (fn.name == "runtime.NumGoroutine") = false) (hr : fn.results.toList = rs) (hn : fn.ntmps = n) (hl : args.length ≤ n)
    (hc : restC m c = .seq (.region id #[⟨some t, .makeFunc (.func g) #[] cap, ty1, p1, af1, none⟩, ⟨none, .defer ⟨.value (.tmp t), #[], tys⟩, ty2, p2, af2, none⟩] false) post) (hok : codeOk n (headN m c) = true) (ht : t < n)
    (h : WP P n (headN m c) (thenA (fun fr H => AWp P n post (LvA P rs R g (cap.toList.map (aeval fr))) (lput fr t (.func g (cap.toList.map (aeval fr)))) H) (retA P rs R)) args H) : ASpec P f args H R := by
  subst hn hr
  refine fun w0 ι w cargs hrep hv => .inl ⟨by unfold enters; rw [hf]; simp [hb, hname], Calls.mono (R := fun e w' => ∃ r H' ι' v, e = .returned v ∧ RV w0.heap.size ι' r v ∧ Rep w0 ι' H' w' ∧ Ext ι H w ι' H' w' ∧ R r H') ?_ fun e w' ⟨r, H', ι', v, h1, h2, h3, h4, h5⟩ => ⟨v, h1, r, H', ι', h2, h3, h4, h5⟩⟩
  refine calls_of_wp_defers hf hb (wp_cut m c hok h (start_st hrep hv hl) ?_ ?_)
  · intro fr1 H1 ι1 a1 w1 hX hs he
    rw [hc]
    have hfn : RV w0.heap.size ι1 (.func g (cap.toList.map (aeval fr1))) (.func (.func g) #[] (cap.map a1.eval)) := by
      unfold RV
      refine ⟨cap.map a1.eval, rfl, ?_⟩
      rw [Array.toList_map]
      exact ops_ok hs.fr cap.toList
    have r1 : (execOp a1.eval (⟨some t, .makeFunc (.func g) #[] cap, ty1, p1, af1, none⟩ : Oper)).run P w1 = .ok (.value (.func (.func g) #[] (cap.map a1.eval))) w1 := by
      simp [execOp, Instr.makeFunc]
    refine wp_seq (wp_region_lit (wpList_step fun K hK => ?_))
    rw [show Region.wanted (⟨some t, .makeFunc (.func g) #[] cap, ty1, p1, af1, none⟩ : Oper) (yielded #[⟨some t, .makeFunc (.func g) #[] cap, ty1, p1, af1, none⟩, ⟨none, .defer ⟨.value (.tmp t), #[], tys⟩, ty2, p2, af2, none⟩] a1.tmps) = true from rfl]
    simp only [if_true]
    unfold Oper.wp
    rw [r1, Oper.upon_value]
    have hs2 := hs.put (dst := some t) (x := .func g (cap.toList.map (aeval fr1))) (fun _ e => by injection e with e; subst e; exact ht) hs.rep (LocLe.refl ι1) hfn
    refine hK _ _ (wpList_step fun K2 hK2 => ?_)
    rw [show Region.wanted (⟨none, .defer ⟨.value (.tmp t), #[], tys⟩, ty2, p2, af2, none⟩ : Oper) (yielded #[⟨some t, .makeFunc (.func g) #[] cap, ty1, p1, af1, none⟩, ⟨none, .defer ⟨.value (.tmp t), #[], tys⟩, ty2, p2, af2, none⟩] (a1.put (some t) (.func (.func g) #[] (cap.map a1.eval))).tmps) = true from rfl]
    simp only [if_true]
    unfold Oper.wp
    have ev : (a1.put (some t) (.func (.func g) #[] (cap.map a1.eval))).eval (.tmp t) = .func (.func g) #[] (cap.map a1.eval) := by
      have : t < a1.tmps.size := by rw [hs.size]; exact ht
      simp [Act.put, Act.eval, Array.getD_eq_getD_getElem?, this]
    have r2 : (execOp (a1.put (some t) (.func (.func g) #[] (cap.map a1.eval))).eval (⟨none, .defer ⟨.value (.tmp t), #[], tys⟩, ty2, p2, af2, none⟩ : Oper)).run P w1 = .ok (.defer { target := .fn (.func g) (cap.map a1.eval), args := #[] }) w1 := by
      simp [execOp, resolve, ev, Deferred.ofValue]
    rw [r2, Oper.upon_defer]
    refine hK2 _ _ (wpList_nil ?_)
    have hd1 : a1.defers = [] := hs.defers
    have hs3 : St w0 ι1 fn.ntmps [{ target := .fn (.func g) (cap.map a1.eval), args := #[] }] (lput fr1 t (.func g (cap.toList.map (aeval fr1)))) H1 ({ (a1.put (some t) (.func (.func g) #[] (cap.map a1.eval))) with defers := { target := .fn (.func g) (cap.map a1.eval), args := #[] } :: (a1.put (some t) (.func (.func g) #[] (cap.map a1.eval))).defers }.put none undef) w1 := by
      refine ⟨hs2.rep, hs2.fr, hs2.size, ?_⟩
      simp [Act.put, hd1]
    have hcap : RVL w0.heap.size ι1 (cap.toList.map (aeval fr1)) (#[] ++ cap.map a1.eval).toList := by
      rw [Array.empty_append, Array.toList_map]
      exact ops_ok hs.fr cap.toList
    refine hX _ w0 ι1 _ w1 _ hs3 ?_
    intro e fr2 H2 ι2 a2 w2 hq s2 e2
    have fin : ∀ u : Option Value, ASpecD P g (cap.toList.map (aeval fr1)) H2 u (fun H' => resA (aresults P fr2 H' fn.results.toList) R H') →
        Leaves P fn a2.tmps (fun e w' => ∃ r H' ι' v, e = .returned v ∧ RV w0.heap.size ι' r v ∧ Rep w0 ι' H' w' ∧ Ext ι H w ι' H' w' ∧ R r H') a2.defers (modeOf u) w2 := by
      intro u hd
      rw [s2.defers]
      obtain ⟨hen, hcd⟩ := hd w0 ι2 w2 (#[] ++ cap.map a1.eval) s2.rep (RVL.ext e2.le _ hcap)
      refine leaves_cons (by cases u <;> simp [modeOf]) (enters_run hen _ _) (hcd.mono ?_)
      rintro e u' w3 ⟨v, H3, ι3, rfl, hu, k1, k2, hR⟩
      simp only [hu]
      obtain ⟨vs, hvs, hR⟩ := resA_elim hR
      have s3 : St w0 ι3 fn.ntmps a2.defers fr2 H3 a2 w3 := ⟨k1, s2.fr.ext k2.le, s2.size, rfl⟩
      obtain ⟨v3, g1, g2⟩ := results_st s3 hvs
      exact ⟨v3, g1, _, H3, ι3, v3, rfl, g2, k1, (he.trans e2).trans k2, hR⟩
    cases e with
    | normal => exact fin none hq
    | ret => exact fin none hq
    | panic ch => obtain ⟨v, rfl, hq⟩ := hq; exact fin (some v) hq
    | exit id => exact hq.elim
    | goto l => exact hq.elim
    | outgrown => exact hq.elim
  · intro e fr1 H1 ι1 a1 w1 hq hs he
    have hd1 : a1.defers = [] := hs.defers
    have fin : resA (aresults P fr1 H1 fn.results.toList) R H1 → Leaves P fn a1.tmps (fun e w' => ∃ r H' ι' v, e = .returned v ∧ RV w0.heap.size ι' r v ∧ Rep w0 ι' H' w' ∧ Ext ι H w ι' H' w' ∧ R r H') a1.defers .returning w1 := by
      intro hR
      obtain ⟨vs, hvs, hR⟩ := resA_elim hR
      obtain ⟨v3, g1, g2⟩ := results_st hs hvs
      rw [hd1]
      exact ⟨v3, g1, _, H1, ι1, v3, rfl, g2, hs.rep, he, hR⟩
    cases e with
    | normal => exact fin (retA_normal ▸ hq)
    | ret => exact fin (retA_ret ▸ hq)
    | exit id => exact hq.elim
    | goto l => exact hq.elim
    | panic c => exact hq.elim
    | outgrown => exact hq.elim
end
attribute [go_sem] retP_normal retP_ret
end Go.Abs
set_option linter.unusedVariables false
set_option linter.unusedSimpArgs false
namespace Go.Abs
open Go Go.RowKit
def bn : AV → Nat
  | .slice a _ _ => a.blk
  | _ => 0
def isOwn (v : AV) (n : Nat) : Prop := ∃ b c, v = .slice ⟨false, b, 0⟩ n c
theorem isOwn.blkOf {v : AV} {n : Nat} (h : isOwn v n) : blkOf v = [bn v] := by obtain ⟨b, c, rfl⟩ := h; rfl
theorem isOwn.off {v : AV} {n : Nat} (h : isOwn v n) {S : List Nat} (hs : bn v ∉ S) : offB S v := by obtain ⟨b, c, rfl⟩ := h; exact .inr hs
structure OwnRows (H : AH) (B : Nat) (ws : List AV) (rows : List (List UInt8)) : Prop where
  top : H.cells? B = some ws
  len : ws.length = rows.length
  own : ∀ i, i < rows.length → isOwn (ws.getD i .unk) (rows.getD i []).length
  each : ∀ i, i < rows.length → IsBytes H (ws.getD i .unk) (rows.getD i [])
  ne : ∀ i, i < rows.length → bn (ws.getD i .unk) ≠ B
  apart : ∀ i j, i < rows.length → j < rows.length → i ≠ j → bn (ws.getD i .unk) ≠ bn (ws.getD j .unk)
def blks (B : Nat) (ws : List AV) : List Nat := B :: ws.map bn
theorem bn_mem {B : Nat} {ws : List AV} {i : Nat} (h : i < ws.length) : bn (ws.getD i .unk) ∈ blks B ws := by
  simp only [blks, List.mem_cons, List.mem_map]
  exact .inr ⟨ws[i], List.getElem_mem h, by simp [List.getD, h]⟩
theorem mem_bn {B b : Nat} {ws : List AV} (h : b ∈ blks B ws) : b = B ∨ ∃ i, i < ws.length ∧ b = bn (ws.getD i .unk) := by
  simp only [blks, List.mem_cons, List.mem_map] at h
  rcases h with h | ⟨v, hv, h⟩
  · exact .inl h
  · obtain ⟨i, hi, e⟩ := List.getElem_of_mem hv
    exact .inr ⟨i, hi, by simp [List.getD, hi, e, h]⟩
section
variable {H H' : AH} {B : Nat} {ws : List AV} {rows : List (List UInt8)}
theorem OwnRows.chg (h : OwnRows H B ws rows) {S : List Nat} (k : Chg S H H') (hs : ∀ b ∈ blks B ws, b ∉ S) : OwnRows H' B ws rows :=
  ⟨k.cells (hs B (by simp [blks])) h.top, h.len, h.own, fun i hi => (h.each i hi).chg k ((h.own i hi).off (hs _ (bn_mem (by rw [h.len]; exact hi)))), h.ne, h.apart⟩
theorem OwnRows.grew (h : OwnRows H B ws rows) (g : Grew H H') : OwnRows H' B ws rows := h.chg (g.chg []) fun _ _ hm => by cases hm
theorem OwnRows.lt (h : OwnRows H B ws rows) : ∀ b ∈ blks B ws, b < H.n := by
  intro b hb
  rcases mem_bn hb with rfl | ⟨i, hi, rfl⟩
  · exact cells_lt h.top
  · rw [h.len] at hi
    obtain ⟨b, c, e⟩ := h.own i hi
    have := h.each i hi
    rw [e] at this ⊢
    exact this.blk_lt
theorem OwnRows.isRows (h : OwnRows H B ws rows) {c : Cap} (hc : okSl 1 (.slice ⟨false, B, 0⟩ rows.length c) = true) : IsRows H (.slice ⟨false, B, 0⟩ rows.length c) ws rows :=
  ⟨⟨row_whole h.top (by rw [h.len, Nat.mul_one]) c, rfl, hc⟩, h.each⟩
theorem OwnRows.row (h : OwnRows H B ws rows) {i : Nat} (hi : i < rows.length) {xs : List UInt8} (hl : xs.length = (rows.getD i []).length) (k : Chg [bn (ws.getD i .unk)] H H') (hx : IsBytes H' (ws.getD i .unk) xs) : OwnRows H' B ws (rows.set i xs) := by
  have key : ∀ j, j < rows.length → (rows.set i xs).getD j [] = if j = i then xs else rows.getD j [] := fun j hj => by
    simp only [List.getD, List.getElem?_set]
    by_cases e : i = j
    · subst e; simp [hi]
    · simp [e, show ¬ j = i by omega]
  refine ⟨k.cells (fun e => h.ne i hi (List.mem_singleton.1 e).symm) h.top, by rw [List.length_set]; exact h.len, fun j hj => ?_, fun j hj => ?_, fun j hj => ?_, fun j j' hj hj' => ?_⟩
  · rw [List.length_set] at hj
    rw [key j hj]
    split
    · rename_i e; rw [hl, e]; exact h.own i hi
    · exact h.own j hj
  · rw [List.length_set] at hj
    rw [key j hj]
    split
    · rename_i e; rw [e]; exact hx
    · rename_i e
      exact (h.each j hj).chg k ((h.own j hj).off fun hm => h.apart j i hj hi e (by simpa using hm))
  · rw [List.length_set] at hj; exact h.ne j hj
  · rw [List.length_set] at hj hj'; exact h.apart j j' hj hj'
theorem OwnRows.cell (h : OwnRows H B ws rows) {i j : Nat} (hi : i < rows.length) (hj : j < (rows.getD i []).length) :
    ∃ l0, H.cells? (bn (ws.getD i .unk)) = some l0 ∧ j < l0.length ∧ l0[j]? = some (bv ((rows.getD i []).getD j 0)) ∧ ∀ z, OwnRows (H.set (bn (ws.getD i .unk)) (some (.cells (l0.set j (bv z))))) B ws (rows.set i ((rows.getD i []).set j z)) := by
  obtain ⟨b, c, e⟩ := h.own i hi
  have hb := h.each i hi
  rw [e] at hb
  obtain ⟨l0, h1, h2, h3, h4⟩ := hb.cell hj
  have eb : bn (ws.getD i .unk) = b := by rw [e]; rfl
  simp only [Nat.zero_add] at h2 h3 h4
  refine ⟨l0, by rw [eb]; exact h1, h2, h3, fun z => ?_⟩
  refine h.row hi (by simp) (by rw [eb]; exact Chg.set _ _ _ (by simp)) ?_
  rw [eb, e]
  exact h4 z
theorem OwnRows.swap (h : OwnRows H B ws rows) {i j : Nat} (hi : i < rows.length) (hj : j < rows.length) :
    OwnRows (H.set B (some (.cells ((ws.set i (ws.getD j .unk)).set j (ws.getD i .unk))))) B ((ws.set i (ws.getD j .unk)).set j (ws.getD i .unk)) ((rows.set i (rows.getD j [])).set j (rows.getD i [])) := by
  have hl := h.len
  let p : Nat → Nat := fun r => if r = j then i else if r = i then j else r
  have pw : ∀ r, ((ws.set i (ws.getD j .unk)).set j (ws.getD i .unk)).getD r .unk = ws.getD (p r) .unk := fun r => by
    simp only [List.getD, List.getElem?_set, List.length_set, p]
    by_cases e : j = r
    · subst e; simp [show j < ws.length by omega]
    · by_cases e2 : i = r
      · subst e2; simp [e, show i < ws.length by omega, show ¬ i = j by omega]
      · simp [e, e2, show ¬ r = j by omega, show ¬ r = i by omega]
  have pr : ∀ r, ((rows.set i (rows.getD j [])).set j (rows.getD i [])).getD r [] = rows.getD (p r) [] := fun r => by
    simp only [List.getD, List.getElem?_set, List.length_set, p]
    by_cases e : j = r
    · subst e; simp [hj]
    · by_cases e2 : i = r
      · subst e2; simp [e, hi, show ¬ i = j by omega]
      · simp [e, e2, show ¬ r = j by omega, show ¬ r = i by omega]
  have pl : ∀ r, r < rows.length → p r < rows.length := fun r hr => by simp only [p]; split; exact hi; split; exact hj; exact hr
  have pi : ∀ r r', r ≠ r' → p r ≠ p r' := fun r r' hr => by
    simp only [p]
    repeat' split
    all_goals omega
  have hk : Chg [B] H (H.set B (some (.cells ((ws.set i (ws.getD j .unk)).set j (ws.getD i .unk))))) := Chg.set _ _ _ (by simp)
  refine ⟨set_cells _ _ (cells_lt h.top), by simp [hl], fun r hr => ?_, fun r hr => ?_, fun r hr => ?_, fun r r' hr hr' hne => ?_⟩
  · simp only [List.length_set] at hr
    rw [pw, pr]; exact h.own _ (pl r hr)
  · simp only [List.length_set] at hr
    rw [pw, pr]; exact (h.each _ (pl r hr)).chg hk ((h.own _ (pl r hr)).off fun hm => h.ne _ (pl r hr) (by simpa using hm))
  · simp only [List.length_set] at hr
    rw [pw]; exact h.ne _ (pl r hr)
  · simp only [List.length_set] at hr hr'
    rw [pw, pw]; exact h.apart _ _ (pl r hr) (pl r' hr') (pi r r' hne)
theorem blks_swap {i j : Nat} (hi : i < ws.length) (hj : j < ws.length) : ∀ b ∈ blks B ((ws.set i (ws.getD j .unk)).set j (ws.getD i .unk)), b ∈ blks B ws := by
  intro b hb
  simp only [blks, List.mem_cons, List.mem_map] at hb
  rcases hb with rfl | ⟨v, hv, rfl⟩
  · simp [blks]
  · rcases List.mem_or_eq_of_mem_set hv with hv | rfl
    · rcases List.mem_or_eq_of_mem_set hv with hv | rfl
      · simp only [blks, List.mem_cons, List.mem_map]; exact .inr ⟨v, hv, rfl⟩
      · exact bn_mem hj
    · exact bn_mem hi
end
structure AccOwn (H0 H : AH) (mv : AV) (ws : List AV) (rows : List (List UInt8)) : Prop where
  acc : AccRows H0 H mv ws rows
  own : ∀ i, i < rows.length → isOwn (ws.getD i .unk) (rows.getD i []).length ∧ H0.n ≤ bn (ws.getD i .unk)
  apart : ∀ i j, i < rows.length → j < rows.length → i ≠ j → bn (ws.getD i .unk) ≠ bn (ws.getD j .unk)
theorem AccOwn.nil {H0 H : AH} (h : Grew H0 H) : AccOwn H0 H .nilslice [] [] := ⟨AccRows.nil h, fun i hi => by simp at hi, fun i j hi => by simp at hi⟩
theorem AccOwn.grew {H0 H H' : AH} {mv : AV} {ws : List AV} {rows : List (List UInt8)} (h : AccOwn H0 H mv ws rows) (g : Grew H H') : AccOwn H0 H' mv ws rows := ⟨h.acc.grew g, h.own, h.apart⟩
theorem AccOwn.ext {H0 H H' : AH} {mv mv' w : AV} {ws : List AV} {rows : List (List UInt8)} {xs : List UInt8} (h : AccOwn H0 H mv ws rows) (k : AccRows H0 H' mv' (ws ++ [w]) (rows ++ [xs])) (hw : isOwn w xs.length) (h0 : H0.n ≤ bn w) (hne : ∀ i, i < rows.length → bn (ws.getD i .unk) ≠ bn w) :
    AccOwn H0 H' mv' (ws ++ [w]) (rows ++ [xs]) := by
  have hl := h.acc.len
  have g1 : ∀ i, i < rows.length → (ws ++ [w]).getD i .unk = ws.getD i .unk ∧ (rows ++ [xs]).getD i [] = rows.getD i [] := fun i hi => by
    simp [List.getD, List.getElem?_append_left (show i < ws.length by omega), List.getElem?_append_left hi]
  have g2 : (ws ++ [w]).getD rows.length .unk = w ∧ (rows ++ [xs]).getD rows.length [] = xs := by simp [List.getD, ← hl]
  refine ⟨k, fun i hi => ?_, fun i j hi hj hij => ?_⟩
  · simp only [List.length_append, List.length_cons, List.length_nil, Nat.zero_add] at hi
    by_cases e : i < rows.length
    · rw [(g1 i e).1, (g1 i e).2]; exact h.own i e
    · obtain rfl : i = rows.length := by omega
      rw [g2.1, g2.2]; exact ⟨hw, h0⟩
  · simp only [List.length_append, List.length_cons, List.length_nil, Nat.zero_add] at hi hj
    by_cases e : i < rows.length
    · rw [(g1 i e).1]
      by_cases e' : j < rows.length
      · rw [(g1 j e').1]; exact h.apart i j e e' hij
      · obtain rfl : j = rows.length := by omega
        rw [g2.1]; exact hne i e
    · obtain rfl : i = rows.length := by omega
      rw [g2.1]
      by_cases e' : j < rows.length
      · rw [(g1 j e').1]; exact fun e => hne j e' e.symm
      · omega
theorem AccOwn.add {by' : Nat} {H0 H : AH} {mv w : AV} {ws : List AV} {rows : List (List UInt8)} {xs : List UInt8} (h : AccOwn H0 H mv ws rows) (hw : IsBytes H w xs) (ho : isOwn w xs.length) (h0 : H0.n ≤ bn w) (hne : ∀ i, i < rows.length → bn (ws.getD i .unk) ≠ bn w) (hb : bn w ∉ blkOf mv) (h1 : rows.length + 1 ≤ 140737488355328) (h2 : (rows.length + 1) * by' ≤ 140737488355328) :
    ∃ H', appendTo 1 by' (H.push (some (.cells [w]))) 1 [w] mv = some (.slice ⟨false, H.n + 1, 0⟩ (rows.length + 1) (.grow 1), H') ∧ AccOwn H0 H' (.slice ⟨false, H.n + 1, 0⟩ (rows.length + 1) (.grow 1)) (ws ++ [w]) (rows ++ [xs]) ∧ Chg (blkOf mv) H H' := by
  obtain ⟨H', a1, a2, a3⟩ := h.acc.add (by' := by') hw (ho.off hb) h1 h2
  exact ⟨H', a1, h.ext a2 ho h0 hne, a3⟩
theorem AccOwn.own_rows {H0 H : AH} {mv : AV} {ws : List AV} {rows : List (List UInt8)} (h : AccOwn H0 H mv ws rows) (hn : 0 < rows.length) : ∃ B, mv = .slice ⟨false, B, 0⟩ rows.length (.grow 1) ∧ H0.n ≤ B ∧ OwnRows H B ws rows ∧ ∀ b ∈ blks B ws, H0.n ≤ b := by
  rcases h.acc.acc.is with ⟨_, h0⟩ | ⟨B, rfl, hB, hc⟩
  · omega
  · refine ⟨B, rfl, hB, ⟨hc, h.acc.len, fun i hi => (h.own i hi).1, fun i hi => (h.acc.each i hi).1, fun i hi => ?_, h.apart⟩, fun b hb => ?_⟩
    · have := (h.acc.each i hi).2
      obtain ⟨b, c, e⟩ := (h.own i hi).1
      rw [e] at this ⊢
      rcases this with h1 | h1
      · cases h1
      · intro e; apply h1; simp only [bn] at e; simp [blkOf, e]
    · rcases mem_bn hb with rfl | ⟨i, hi, rfl⟩
      · exact hB
      · rw [h.acc.len] at hi; exact (h.own i hi).2
abbrev IsInts (H : AH) (v : AV) (xs : List Int) : Prop := Row H 1 v xs.length (xs.map (AV.int .i64))
theorem IsInts.ldI {H : AH} {v : AV} {xs : List Int} (h : IsInts H v xs) {i : Nat} (hi : i < xs.length) :
    ((H.get (eltA v i 1)).bind fun cs => cs[(eltA v i 1).off]?) = some (.int .i64 (xs.getD i 0)) := by
  rw [h.ld1 hi]; simp [List.getD, hi]
theorem zeros_new (H : AH) (n : Nat) : IsBytes (H.push (some (.cells (List.replicate n (.int .u8 0))))) (.slice ⟨false, H.n, 0⟩ n (.known n)) (List.replicate n 0) := by
  have e : (List.replicate n (0 : UInt8)).length = n := by simp
  have := bytes_whole (H := H.push (some (.cells (List.replicate n (.int .u8 0))))) (i := H.n) (xs := List.replicate n 0) (by rw [push_cells, List.map_replicate]; rfl) (c := .known n) (by simp [isSl])
  rwa [e] at this
structure PartRows (H : AH) (B n : Nat) (ws : List AV) (rows : List (List UInt8)) : Prop where
  top : H.cells? B = some (ws ++ List.replicate (n - ws.length) .nilslice)
  le : ws.length ≤ n
  len : ws.length = rows.length
  own : ∀ i, i < rows.length → isOwn (ws.getD i .unk) (rows.getD i []).length
  each : ∀ i, i < rows.length → IsBytes H (ws.getD i .unk) (rows.getD i [])
  ne : ∀ i, i < rows.length → bn (ws.getD i .unk) ≠ B
  apart : ∀ i j, i < rows.length → j < rows.length → i ≠ j → bn (ws.getD i .unk) ≠ bn (ws.getD j .unk)
theorem PartRows.all {H : AH} {B n : Nat} {ws : List AV} {rows : List (List UInt8)} (h : PartRows H B n ws rows) (hn : ws.length = n) : OwnRows H B ws rows :=
  ⟨by have := h.top; rwa [hn, Nat.sub_self, List.replicate_zero, List.append_nil] at this, h.len, h.own, h.each, h.ne, h.apart⟩
theorem PartRows.lt {H : AH} {B n : Nat} {ws : List AV} {rows : List (List UInt8)} (h : PartRows H B n ws rows) {i : Nat} (hi : i < rows.length) : bn (ws.getD i .unk) < H.n := by
  obtain ⟨b, c, e⟩ := h.own i hi
  have := h.each i hi
  rw [e] at this ⊢
  exact this.blk_lt
theorem PartRows.grew {H H' : AH} {B n : Nat} {ws : List AV} {rows : List (List UInt8)} (h : PartRows H B n ws rows) (g : Grew H H') : PartRows H' B n ws rows :=
  ⟨g.cells_some h.top, h.le, h.len, h.own, fun i hi => (h.each i hi).grew g, h.ne, h.apart⟩
theorem PartRows.put {H H' : AH} {B n : Nat} {ws : List AV} {rows : List (List UInt8)} (h : PartRows H B n ws rows) {w : AV} {xs : List UInt8} (hlt : ws.length < n) (g : Grew H H') (ho : isOwn w xs.length) (hx : IsBytes H' w xs) (hb : H.n ≤ bn w) :
    ∃ l0, H'.cells? B = some l0 ∧ ws.length < l0.length ∧ PartRows (H'.set B (some (.cells (l0.set ws.length w)))) B n (ws ++ [w]) (rows ++ [xs]) := by
  have h' := h.grew g
  have hl := h.len
  have hB : B < H.n := cells_lt h.top
  have g1 : ∀ i, i < rows.length → (ws ++ [w]).getD i .unk = ws.getD i .unk ∧ (rows ++ [xs]).getD i [] = rows.getD i [] := fun i hi => by
    simp [List.getD, List.getElem?_append_left (show i < ws.length by omega), List.getElem?_append_left hi]
  have g2 : (ws ++ [w]).getD rows.length .unk = w ∧ (rows ++ [xs]).getD rows.length [] = xs := by simp [List.getD, ← hl]
  have hk : Chg [B] H' (H'.set B (some (.cells ((ws ++ List.replicate (n - ws.length) AV.nilslice).set ws.length w)))) := Chg.set _ _ _ (by simp)
  refine ⟨_, h'.top, by simp; omega, ⟨?_, by simp; omega, by simp [hl], fun i hi => ?_, fun i hi => ?_, fun i hi => ?_, fun i j hi hj hij => ?_⟩⟩
  · rw [set_cells _ _ (cells_lt h'.top)]
    obtain ⟨k, hk⟩ : ∃ k, n - ws.length = k + 1 := ⟨n - ws.length - 1, by omega⟩
    have e : n - (ws ++ [w]).length = k := by simp; omega
    rw [hk, e, List.set_append_right _ _ (by omega), Nat.sub_self, List.replicate_succ, List.set_cons_zero, List.append_assoc]
    rfl
  · simp only [List.length_append, List.length_cons, List.length_nil, Nat.zero_add] at hi
    by_cases e : i < rows.length
    · rw [(g1 i e).1, (g1 i e).2]; exact h.own i e
    · obtain rfl : i = rows.length := by omega
      rw [g2.1, g2.2]; exact ho
  · simp only [List.length_append, List.length_cons, List.length_nil, Nat.zero_add] at hi
    by_cases e : i < rows.length
    · rw [(g1 i e).1, (g1 i e).2]; exact (h'.each i e).chg hk ((h.own i e).off fun hm => h.ne i e (List.mem_singleton.1 hm))
    · obtain rfl : i = rows.length := by omega
      rw [g2.1, g2.2]; exact hx.chg hk (ho.off fun hm => by have := List.mem_singleton.1 hm; omega)
  · simp only [List.length_append, List.length_cons, List.length_nil, Nat.zero_add] at hi
    by_cases e : i < rows.length
    · rw [(g1 i e).1]; exact h.ne i e
    · obtain rfl : i = rows.length := by omega
      rw [g2.1]; omega
  · simp only [List.length_append, List.length_cons, List.length_nil, Nat.zero_add] at hi hj
    by_cases e : i < rows.length
    · rw [(g1 i e).1]
      have := h.lt e
      by_cases e' : j < rows.length
      · rw [(g1 j e').1]; exact h.apart i j e e' hij
      · obtain rfl : j = rows.length := by omega
        rw [g2.1]; omega
    · obtain rfl : i = rows.length := by omega
      rw [g2.1]
      by_cases e' : j < rows.length
      · have := h.lt e'
        rw [(g1 j e').1]; omega
      · omega
structure NewRows (H H' : AH) (B : Nat) (ws : List AV) (rows : List (List UInt8)) : Prop where
  own : OwnRows H' B ws rows
  g : Grew H H'
  new : ∀ b ∈ blks B ws, H.n ≤ b
theorem NewRows.from {H0 H H' : AH} {B : Nat} {ws : List AV} {rows : List (List UInt8)} (h : NewRows H H' B ws rows) (g : Grew H0 H) : NewRows H0 H' B ws rows := ⟨h.own, g.trans h.g, fun b hb => Nat.le_trans g.n (h.new b hb)⟩
theorem NewRows.chg {H0 H H' : AH} {S : List Nat} {B : Nat} {ws ws' : List AV} {rows rows' : List (List UInt8)} (h : NewRows H0 H B ws rows) (k : Chg S H H') (hs : ∀ b ∈ S, b ∈ blks B ws) (hw : ∀ b ∈ blks B ws', b ∈ blks B ws) (o : OwnRows H' B ws' rows') : NewRows H0 H' B ws' rows' :=
  ⟨o, ((h.g.chg S).trans k).grew fun i hi => h.new i (hs i hi), fun b hb => h.new b (hw b hb)⟩
structure Two (H0 H : AH) (S1 S2 : List Nat) (B1 B2 : Nat) (ws1 ws2 : List AV) (rows1 rows2 : List (List UInt8)) : Prop where
  o1 : OwnRows H B1 ws1 rows1
  o2 : OwnRows H B2 ws2 rows2
  s1 : ∀ b ∈ blks B1 ws1, b ∈ S1
  s2 : ∀ b ∈ blks B2 ws2, b ∈ S2
  d : ∀ b ∈ S1, b ∉ S2
  ch : Chg (S1 ++ S2) H0 H
section
variable {H0 H H' : AH} {S1 S2 : List Nat} {B1 B2 : Nat} {ws1 ws2 : List AV} {rows1 rows2 : List (List UInt8)}
theorem Two.flip (h : Two H0 H S1 S2 B1 B2 ws1 ws2 rows1 rows2) : Two H0 H S2 S1 B2 B1 ws2 ws1 rows2 rows1 :=
  ⟨h.o2, h.o1, h.s2, h.s1, fun b hb hb' => h.d b hb' hb, h.ch.mono fun i hi => by simp only [List.mem_append] at hi ⊢; exact hi.symm⟩
theorem Two.step {ws1' : List AV} {rows1' : List (List UInt8)} {S : List Nat} (h : Two H0 H S1 S2 B1 B2 ws1 ws2 rows1 rows2) (k : Chg S H H') (hs : ∀ b ∈ S, b ∈ blks B1 ws1) (hw : ∀ b ∈ blks B1 ws1', b ∈ blks B1 ws1) (o : OwnRows H' B1 ws1' rows1') :
    Two H0 H' S1 S2 B1 B2 ws1' ws2 rows1' rows2 :=
  ⟨o, h.o2.chg k fun b hb hm => h.d b (h.s1 b (hs b hm)) (h.s2 b hb), fun b hb => h.s1 b (hw b hb), h.s2, h.d, h.ch.trans' k fun i hi => .inl (List.mem_append.2 (.inl (h.s1 i (hs i hi))))⟩
theorem Two.row1 (h : Two H0 H S1 S2 B1 B2 ws1 ws2 rows1 rows2) {i : Nat} (hi : i < rows1.length) {xs : List UInt8} (hl : xs.length = (rows1.getD i []).length) (k : Chg [bn (ws1.getD i .unk)] H H') (hx : IsBytes H' (ws1.getD i .unk) xs) :
    Two H0 H' S1 S2 B1 B2 ws1 ws2 (rows1.set i xs) rows2 :=
  h.step k (fun b hb => by have := List.mem_singleton.1 hb; subst this; exact bn_mem (by rw [h.o1.len]; exact hi)) (fun _ h => h) (h.o1.row hi hl k hx)
theorem Two.row2 (h : Two H0 H S1 S2 B1 B2 ws1 ws2 rows1 rows2) {i : Nat} (hi : i < rows2.length) {xs : List UInt8} (hl : xs.length = (rows2.getD i []).length) (k : Chg [bn (ws2.getD i .unk)] H H') (hx : IsBytes H' (ws2.getD i .unk) xs) :
    Two H0 H' S1 S2 B1 B2 ws1 ws2 rows1 (rows2.set i xs) := (h.flip.row1 hi hl k hx).flip
theorem Two.swap1 (h : Two H0 H S1 S2 B1 B2 ws1 ws2 rows1 rows2) {i j : Nat} (hi : i < rows1.length) (hj : j < rows1.length) :
    Two H0 (H.set B1 (some (.cells ((ws1.set i (ws1.getD j .unk)).set j (ws1.getD i .unk))))) S1 S2 B1 B2 ((ws1.set i (ws1.getD j .unk)).set j (ws1.getD i .unk)) ws2 ((rows1.set i (rows1.getD j [])).set j (rows1.getD i [])) rows2 :=
  h.step (Chg.set _ B1 _ (S := [B1]) (by simp)) (fun b hb => by have := List.mem_singleton.1 hb; subst this; simp [blks]) (blks_swap (by rw [h.o1.len]; exact hi) (by rw [h.o1.len]; exact hj)) (h.o1.swap hi hj)
theorem Two.swap2 (h : Two H0 H S1 S2 B1 B2 ws1 ws2 rows1 rows2) {i j : Nat} (hi : i < rows2.length) (hj : j < rows2.length) :
    Two H0 (H.set B2 (some (.cells ((ws2.set i (ws2.getD j .unk)).set j (ws2.getD i .unk))))) S1 S2 B1 B2 ws1 ((ws2.set i (ws2.getD j .unk)).set j (ws2.getD i .unk)) rows1 ((rows2.set i (rows2.getD j [])).set j (rows2.getD i [])) :=
  (h.flip.swap1 hi hj).flip
theorem Two.ne (h : Two H0 H S1 S2 B1 B2 ws1 ws2 rows1 rows2) {i j : Nat} (hi : i < rows1.length) (hj : j < rows2.length) : bn (ws1.getD i .unk) ≠ bn (ws2.getD j .unk) :=
  fun e => h.d _ (h.s1 _ (bn_mem (by rw [h.o1.len]; exact hi))) (by rw [e]; exact h.s2 _ (bn_mem (by rw [h.o2.len]; exact hj)))
end
section
variable {H : AH} {B : Nat} {ws : List AV} {rows : List (List UInt8)}
theorem OwnRows.ixB (h : OwnRows H B ws rows) {n : Nat} {c : Cap} (hn : rows.length = n) (hc : okSl 1 (.slice ⟨false, B, 0⟩ n c) = true) {P : Program} {t e : TypeId} (ht : P.underlying t = some (.slice e)) (hs : sizeA P e = some 1) {k : IntKind} {i : Nat} (hi : i < n) :
    indexAddrA P t (.slice ⟨false, B, 0⟩ n c) (.int k i) = some (.ptr ⟨false, B, i⟩) := by
  subst hn
  rw [(h.isRows hc).ix ht hs (by omega) (by omega)]
  simp [eltA]
theorem OwnRows.at (h : OwnRows H B ws rows) {i : Nat} (hi : i < rows.length) : ∃ b c, ws[i]? = some (.slice ⟨false, b, 0⟩ (rows.getD i []).length c) ∧ ws.getD i .unk = .slice ⟨false, b, 0⟩ (rows.getD i []).length c ∧ IsBytes H (.slice ⟨false, b, 0⟩ (rows.getD i []).length c) (rows.getD i []) ∧ bn (ws.getD i .unk) = b := by
  obtain ⟨b, c, e⟩ := h.own i hi
  have hb := h.each i hi
  have hl := h.len
  refine ⟨b, c, ?_, e, by rwa [e] at hb, by rw [e]; rfl⟩
  rw [← e]
  simp [List.getD, show i < ws.length by omega]
end
section
variable {H0 H H' : AH} {S1 S2 : List Nat} {B1 B2 : Nat} {ws1 ws2 : List AV} {rows1 rows2 : List (List UInt8)}
theorem Two.cell1 (h : Two H0 H S1 S2 B1 B2 ws1 ws2 rows1 rows2) {i j : Nat} (hi : i < rows1.length) (hj : j < (rows1.getD i []).length) :
    ∃ b c l0, ws1[i]? = some (.slice ⟨false, b, 0⟩ (rows1.getD i []).length c) ∧ IsBytes H (.slice ⟨false, b, 0⟩ (rows1.getD i []).length c) (rows1.getD i []) ∧ H.cells? b = some l0 ∧ j < l0.length ∧ l0[j]? = some (bv ((rows1.getD i []).getD j 0)) ∧ bn (ws1.getD i .unk) = b ∧
      ∀ z, Two H0 (H.set b (some (.cells (l0.set j (bv z))))) S1 S2 B1 B2 ws1 ws2 (rows1.set i ((rows1.getD i []).set j z)) rows2 := by
  obtain ⟨b, c, a1, a2, a3, a4⟩ := h.o1.at hi
  obtain ⟨l0, d1, d2, d3, d4⟩ := h.o1.cell hi hj
  rw [a4] at d1 d4
  refine ⟨b, c, l0, a1, a3, d1, d2, d3, a4, fun z => h.step (Chg.set _ b _ (S := [b]) (by simp)) (fun b' hb => ?_) (fun _ h => h) (d4 z)⟩
  have := List.mem_singleton.1 hb
  subst this
  rw [← a4]
  exact bn_mem (by rw [h.o1.len]; exact hi)
theorem Two.cell2 (h : Two H0 H S1 S2 B1 B2 ws1 ws2 rows1 rows2) {i j : Nat} (hi : i < rows2.length) (hj : j < (rows2.getD i []).length) :
    ∃ b c l0, ws2[i]? = some (.slice ⟨false, b, 0⟩ (rows2.getD i []).length c) ∧ IsBytes H (.slice ⟨false, b, 0⟩ (rows2.getD i []).length c) (rows2.getD i []) ∧ H.cells? b = some l0 ∧ j < l0.length ∧ l0[j]? = some (bv ((rows2.getD i []).getD j 0)) ∧ bn (ws2.getD i .unk) = b ∧
      ∀ z, Two H0 (H.set b (some (.cells (l0.set j (bv z))))) S1 S2 B1 B2 ws1 ws2 rows1 (rows2.set i ((rows2.getD i []).set j z)) := by
  obtain ⟨b, c, l0, a1, a2, a3, a4, a5, a6, a7⟩ := h.flip.cell1 hi hj
  exact ⟨b, c, l0, a1, a2, a3, a4, a5, a6, fun z => (a7 z).flip⟩
end
theorem eqM_wr {H : AH} {i : Nat} : (∀ K, eqM H.clr K → ¬ K.wr i) = True := eq_true fun K e => by
  rw [eqM_def] at e
  subst e
  exact id
attribute [go_sem] eqM_wr
theorem lit_row {H : AH} {b : Nat} {xs : List UInt8} (h : H.cells? b = some (xs.map bv)) : IsBytes H (.slice ⟨false, b, 0⟩ xs.length (.known xs.length)) xs := bytes_whole h (by simp [isSl])
theorem lit1 {H : AH} {B b1 : Nat} {r1 : List UInt8} (h1 : H.cells? b1 = some (r1.map bv)) (hB : H.cells? B = some [.slice ⟨false, b1, 0⟩ r1.length (.known r1.length)]) :
    IsRows H (.slice ⟨false, B, 0⟩ 1 (.known 1)) [.slice ⟨false, b1, 0⟩ r1.length (.known r1.length)] [r1] :=
  ⟨⟨row_whole hB rfl _, rfl, by simp [okSl]⟩, fun i hi => by
    match i, hi with
    | 0, _ => exact lit_row h1⟩
theorem lit2 {H : AH} {B b1 b2 : Nat} {r1 r2 : List UInt8} (h1 : H.cells? b1 = some (r1.map bv)) (h2 : H.cells? b2 = some (r2.map bv)) (hB : H.cells? B = some [.slice ⟨false, b1, 0⟩ r1.length (.known r1.length), .slice ⟨false, b2, 0⟩ r2.length (.known r2.length)]) :
    IsRows H (.slice ⟨false, B, 0⟩ 2 (.known 2)) [.slice ⟨false, b1, 0⟩ r1.length (.known r1.length), .slice ⟨false, b2, 0⟩ r2.length (.known r2.length)] [r1, r2] :=
  ⟨⟨row_whole hB rfl _, rfl, by simp [okSl]⟩, fun i hi => by
    match i, hi with
    | 0, _ => exact lit_row h1
    | 1, _ => exact lit_row h2⟩
theorem nil_rows (H : AH) : IsRows H .nilslice [] [] := ⟨Row.nil H 1, fun i hi => by simp at hi⟩
theorem Row.cutV {H : AH} {v : AV} {n : Nat} {cs : List AV} (h : Row H 1 v n cs) {lo hi : Nat} (h1 : lo ≤ hi) (h2 : hi ≤ n) : Row H 1 (Go.Abs.cutV v lo hi) (hi - lo) ((cs.drop lo).take (hi - lo)) := by
  have hs := h.sl
  have hl := h.len
  have hsz := h.size
  cases v with
  | nilslice =>
    simp only [slen] at hl
    have : cs = [] := List.eq_nil_of_length_eq_zero (by omega)
    subst this
    have h0 : hi - lo = 0 := by omega
    rw [h0]
    exact ⟨by simp [Go.Abs.cutV, rowA], by simp [Go.Abs.cutV, slen], rfl⟩
  | slice a m c =>
    simp only [slen] at hl
    subst hl
    have hrow := h.row
    simp only [rowA] at hrow
    obtain ⟨l, g1, g2⟩ := Option.bind_eq_some_iff.1 hrow
    split at g2
    · rename_i hle
      injection g2 with g2
      have hget : ∀ o, H.get ⟨a.ro, a.blk, o⟩ = some l := fun o => by unfold AH.get at *; exact g1
      have key : ∀ (a' : AAddr) (c' : Cap), H.get a' = some l → (a'.off = a.off + lo ∨ hi - lo = 0) → rowA H 1 (.slice a' (hi - lo) c') = some ((cs.drop lo).take (hi - lo)) := fun a' c' k1 k2 => by
        simp only [rowA, k1, Option.bind_some]
        rw [if_pos (by omega)]
        congr 1
        rcases Nat.eq_zero_or_pos (hi - lo) with h0 | h0
        · simp [h0]
        · have k3 : a'.off = a.off + lo := by omega
          rw [k3, ← List.drop_drop, ← g2, List.drop_take, List.take_take]
          congr 1
          omega
      cases c with
      | known c =>
        simp only [okSl, decide_eq_true_eq] at hs
        simp only [Go.Abs.cutV, cutA]
        refine ⟨key _ _ ?_ ?_, rfl, by simp [okSl]; omega⟩
        · split
          · exact g1
          · exact hget _
        · split
          · omega
          · left; simp
      | grow g =>
        simp only [okSl, Bool.and_eq_true, decide_eq_true_eq, Bool.not_eq_true'] at hs
        simp only [Go.Abs.cutV]
        have := hget (a.off + lo * 1)
        rw [hs.2] at this
        exact ⟨key _ _ this (.inl (by simp)), rfl, by simp [okSl, hs.1]⟩
    · cases g2
  | _ => simp [okSl] at hs
theorem Row.slice {H : AH} {v : AV} {n : Nat} {cs : List AV} (h : Row H 1 v n cs) {P : Program} {t e : TypeId} (ht : P.underlying t = some (.slice e)) (hs : sizeA P e = some 1) {lo hi : Nat} (h1 : lo ≤ hi) (h2 : hi ≤ n) {olo ohi : Option AV}
    (hlo : olo = some (.int .i64 lo) ∨ olo = none ∧ lo = 0) (hhi : ohi = some (.int .i64 hi) ∨ ohi = none ∧ hi = n) : sliceOpA P t v olo ohi none = some (Go.Abs.cutV v lo hi) := by
  have hsl := h.sl
  have hl := h.len
  have eh : ∀ y, hi ≤ y → optB ohi y n = some hi := fun y hy => by
    rcases hhi with rfl | ⟨rfl, rfl⟩
    · simp only [optB, boundA]; rw [if_pos (by omega)]; rfl
    · rfl
  have el : optB olo hi 0 = some lo := by
    rcases hlo with rfl | ⟨rfl, rfl⟩
    · simp only [optB, boundA]; rw [if_pos (by omega)]; rfl
    · rfl
  cases v with
  | nilslice =>
    simp only [slen] at hl
    rw [← hl] at eh
    have h0 : hi = 0 := by omega
    simp only [sliceOpA, ht, hs, Option.bind_some, optB, Option.isSome_none, Bool.false_and, Bool.false_eq_true, if_false]
    have e1 := eh 0 (by omega)
    simp only [optB] at e1 el
    rw [e1]
    simp only [Option.bind_some]
    rw [el]
    rfl
  | slice a m c =>
    simp only [slen] at hl
    subst hl
    cases c with
    | known c =>
      simp only [okSl, decide_eq_true_eq] at hsl
      simp only [sliceOpA, ht, hs, Option.bind_some, cutKnown, Option.isSome_none, Bool.false_and, Bool.false_eq_true, if_false]
      rw [show optB none c c = some c from rfl, Option.bind_some, eh c (by omega), Option.bind_some, el]
      rfl
    | grow g =>
      simp only [okSl, Bool.and_eq_true, decide_eq_true_eq, Bool.not_eq_true'] at hsl
      obtain ⟨rfl, hro⟩ := hsl
      simp only [sliceOpA, ht, hs, Option.bind_some, hro, and_self, if_true]
      rw [eh _ h2, Option.bind_some, el]
      rfl
  | _ => simp [okSl] at hsl
theorem getD_cut {α : Type} (d : α) (l : List α) {lo hi i : Nat} (h : i < hi - lo) : ((l.drop lo).take (hi - lo)).getD i d = l.getD (lo + i) d := by
  simp only [List.getD, List.getElem?_take, List.getElem?_drop, h, if_true]
theorem IsRows.cut {H : AH} {v : AV} {vs : List AV} {rows : List (List UInt8)} (h : IsRows H v vs rows) {lo hi : Nat} (h1 : lo ≤ hi) (h2 : hi ≤ rows.length) : IsRows H (Go.Abs.cutV v lo hi) ((vs.drop lo).take (hi - lo)) ((rows.drop lo).take (hi - lo)) := by
  have hl : ((rows.drop lo).take (hi - lo)).length = hi - lo := by simp; omega
  refine ⟨by rw [hl]; exact h.row.cutV h1 h2, fun i hi => ?_⟩
  rw [hl] at hi
  rw [getD_cut _ _ hi, getD_cut _ _ hi]
  exact h.each _ (by omega)
theorem IsInts.cut {H : AH} {v : AV} {xs : List Int} (h : IsInts H v xs) {lo hi : Nat} (h1 : lo ≤ hi) (h2 : hi ≤ xs.length) : IsInts H (Go.Abs.cutV v lo hi) ((xs.drop lo).take (hi - lo)) := by
  have hl : ((xs.drop lo).take (hi - lo)).length = hi - lo := by simp; omega
  have := Row.cutV h h1 h2
  rw [← List.map_drop, ← List.map_take] at this
  show Row H 1 _ _ _
  rw [hl]
  exact this
end Go.Abs
set_option linter.unusedVariables false
set_option linter.unusedSimpArgs false
namespace Go.Abs
open Go Go.RowKit
structure RowsOf (H : AH) (B : Nat) (ws : List AV) (rows : List (List UInt8)) : Prop where
  len : ws.length = rows.length
  own : ∀ i, i < rows.length → isOwn (ws.getD i .unk) (rows.getD i []).length
  each : ∀ i, i < rows.length → IsBytes H (ws.getD i .unk) (rows.getD i [])
  ne : ∀ i, i < rows.length → bn (ws.getD i .unk) ≠ B
  apart : ∀ i j, i < rows.length → j < rows.length → i ≠ j → bn (ws.getD i .unk) ≠ bn (ws.getD j .unk)
theorem RowsOf.nil (H : AH) (B : Nat) : RowsOf H B [] [] := ⟨rfl, fun i hi => by simp at hi, fun i hi => by simp at hi, fun i hi => by simp at hi, fun i j hi => by simp at hi⟩
theorem RowsOf.all {H : AH} {B : Nat} {ws : List AV} {rows : List (List UInt8)} (h : RowsOf H B ws rows) (ht : H.cells? B = some ws) : OwnRows H B ws rows := ⟨ht, h.len, h.own, h.each, h.ne, h.apart⟩
theorem RowsOf.chg {H H' : AH} {B : Nat} {ws : List AV} {rows : List (List UInt8)} (h : RowsOf H B ws rows) {S : List Nat} (k : Chg S H H') (hs : ∀ i, i < rows.length → bn (ws.getD i .unk) ∉ S) : RowsOf H' B ws rows :=
  ⟨h.len, h.own, fun i hi => (h.each i hi).chg k ((h.own i hi).off (hs i hi)), h.ne, h.apart⟩
theorem RowsOf.snoc {H : AH} {B : Nat} {ws : List AV} {rows : List (List UInt8)} (h : RowsOf H B ws rows) {w : AV} {xs : List UInt8} (ho : isOwn w xs.length) (hx : IsBytes H w xs) (hb : bn w ∉ blks B ws) : RowsOf H B (ws ++ [w]) (rows ++ [xs]) := by
  have hl := h.len
  have g1 : ∀ i, i < rows.length → (ws ++ [w]).getD i .unk = ws.getD i .unk ∧ (rows ++ [xs]).getD i [] = rows.getD i [] := fun i hi => by
    simp [List.getD, List.getElem?_append_left (show i < ws.length by omega), List.getElem?_append_left hi]
  have g2 : (ws ++ [w]).getD rows.length .unk = w ∧ (rows ++ [xs]).getD rows.length [] = xs := by simp [List.getD, ← hl]
  have hne : ∀ i, i < rows.length → bn (ws.getD i .unk) ≠ bn w := fun i hi e => hb (by rw [← e]; exact bn_mem (by omega))
  refine ⟨by simp [hl], fun i hi => ?_, fun i hi => ?_, fun i hi => ?_, fun i j hi hj hij => ?_⟩
  · simp only [List.length_append, List.length_cons, List.length_nil, Nat.zero_add] at hi
    by_cases e : i < rows.length
    · rw [(g1 i e).1, (g1 i e).2]; exact h.own i e
    · obtain rfl : i = rows.length := by omega
      rw [g2.1, g2.2]; exact ho
  · simp only [List.length_append, List.length_cons, List.length_nil, Nat.zero_add] at hi
    by_cases e : i < rows.length
    · rw [(g1 i e).1, (g1 i e).2]; exact h.each i e
    · obtain rfl : i = rows.length := by omega
      rw [g2.1, g2.2]; exact hx
  · simp only [List.length_append, List.length_cons, List.length_nil, Nat.zero_add] at hi
    by_cases e : i < rows.length
    · rw [(g1 i e).1]; exact h.ne i e
    · obtain rfl : i = rows.length := by omega
      rw [g2.1]; exact fun e => hb (by rw [e]; simp [blks])
  · simp only [List.length_append, List.length_cons, List.length_nil, Nat.zero_add] at hi hj
    by_cases e : i < rows.length
    · rw [(g1 i e).1]
      by_cases e' : j < rows.length
      · rw [(g1 j e').1]; exact h.apart i j e e' hij
      · obtain rfl : j = rows.length := by omega
        rw [g2.1]; exact hne i e
    · obtain rfl : i = rows.length := by omega
      rw [g2.1]
      by_cases e' : j < rows.length
      · rw [(g1 j e').1]; exact fun e => hne j e' e.symm
      · omega
theorem RowsOf.grew {H H' : AH} {B : Nat} {ws : List AV} {rows : List (List UInt8)} (h : RowsOf H B ws rows) (g : Grew H H') : RowsOf H' B ws rows := h.chg (g.chg []) fun _ _ hm => by cases hm
theorem RowsOf.lt {H : AH} {B : Nat} {ws : List AV} {rows : List (List UInt8)} (h : RowsOf H B ws rows) {i : Nat} (hi : i < rows.length) : bn (ws.getD i .unk) < H.n := by
  obtain ⟨b, c, e⟩ := h.own i hi
  have := h.each i hi
  rw [e] at this ⊢
  exact this.blk_lt
theorem IsRows.clr {H : AH} {v : AV} {vs : List AV} {rows : List (List UInt8)} (h : IsRows H v vs rows) : IsRows H.clr v vs rows := ⟨h.row.clr, fun i hi => (h.each i hi).clr⟩
theorem RowsOf.also {H : AH} {X : Nat → Prop} {B : Nat} {ws : List AV} {rows : List (List UInt8)} (h : RowsOf H B ws rows) : RowsOf (H.also X) B ws rows := ⟨h.len, h.own, fun i hi => (h.each i hi).also, h.ne, h.apart⟩
theorem copy_over {H : AH} {b n : Nat} {xs : List UInt8} {l : List AV} (hc : H.cells? b = some l) (hl : l.length = n) (hx : xs.length = n) : ∃ H', storeCellsA H b 0 ((xs.map bv).take (min n n)) = some H' ∧ Chg [b] H H' ∧ H'.cells? b = some (xs.map bv) := by
  rw [Nat.min_self, List.take_of_length_le (by simp; omega)]
  by_cases h0 : n = 0
  · have : xs = [] := List.eq_nil_of_length_eq_zero (by omega)
    subst this
    have : l = [] := List.eq_nil_of_length_eq_zero (by omega)
    subst this
    exact ⟨H, rfl, Chg.refl _ _, hc⟩
  · refine ⟨_, storeCells_many _ 0 H l (all_one_bv xs) hc (by simp; omega) (fun e => ?_), Chg.set _ _ _ (by simp), ?_⟩
    · have e1 := congrArg List.length e
      rw [List.length_map, List.length_nil] at e1
      omega
    · rw [set_cells _ _ (cells_lt hc), List.take_zero, List.nil_append, Nat.zero_add, List.length_map, List.drop_of_length_le (by omega), List.append_nil]
end Go.Abs
