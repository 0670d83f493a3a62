/- Regions that draw their order, phase by phase: what is known of the memory may hang on how far the region has come. -/
import Derived.Test.YtickckpndpeppaaA25
set_option linter.unusedVariables false
set_option linter.unusedSimpArgs false
namespace Go.Abs
open Go Go.RowKit

section
variable {P : Program} {w0 w : World} {ι : List Loc} {H : AH}
theorem cell_same {w w' : World} {ad : Addr} (h : SameB w w' ad.block) (j : Nat) : w'.cell? (ad.add j) = w.cell? (ad.add j) :=
  h _ (by unfold Addr.add; split <;> rfl)
/-- A read gives the same wherever its block stands as it was. -/
theorem load_stable (h : Rep w0 ι H w) {t : TypeId} {a : AAddr} {v : AV} (hl : loadA P t a H = some v) {p : Value} (hp : RPtr w0.heap.size ι a p) :
    ∃ x B, RV w0.heap.size ι v x ∧ B < w.heap.size ∧ (a.ro = true → B < w0.heap.size) ∧ (a.ro = false → ∃ O m, ι[a.blk]? = some (.at B O m)) ∧ ∀ w' : World, SameB w w' B → (Instr.loadAt t p).run P w' = .ok x w' := by
  unfold loadA at hl
  cases hg : H.get a with
  | none => rw [hg] at hl; cases hl
  | some cs =>
    rw [hg] at hl
    simp only [Option.bind_some] at hl
    obtain ⟨ad, rfl, hs0, hc⟩ := h.at_ptr hp hg
    have hB : ad.block < w.heap.size ∧ (a.ro = true → ad.block < w0.heap.size) ∧ (a.ro = false → ∃ O m, ι[a.blk]? = some (.at ad.block O m)) := by
      unfold RPtr at hp
      by_cases hr : a.ro = true
      · rw [if_pos hr] at hp
        obtain ⟨h1, h2⟩ := hp
        injection h2 with h2
        injection h2 with h2
        have e : ad.block = a.blk := by rw [h2]
        exact ⟨by rw [e]; exact Nat.lt_of_lt_of_le h1 h.below.size, fun _ => by rw [e]; exact h1, fun e' => by rw [hr] at e'; cases e'⟩
      · rw [if_neg hr] at hp
        refine (fun hh => ⟨hh.1, fun h => absurd h hr, fun _ => hh.2⟩ : (ad.block < w.heap.size ∧ ∃ O m, ι[a.blk]? = some (.at ad.block O m)) → _) ?_
        have alive : (H.cells? a.blk).isSome = true := by unfold AH.get at hg; rw [if_neg hr] at hg; simp [hg]
        rcases live_at h alive with h1 | h1 | ⟨B, O, m, h1⟩
        · rw [h1] at hp; exact hp.elim
        · rw [h1] at hp; exact hp.elim
        · rw [h1] at hp
          injection hp with hp
          injection hp with hp
          have e : ad.block = B := by rw [hp]
          rw [e]; exact ⟨(h.locs _ _ _ _ h1).2, O, m, h1⟩
    unfold partA at hl
    cases hag : aggA P t with
    | none => rw [hag] at hl; cases hl
    | some g =>
      rw [hag] at hl
      simp only [Option.bind_some] at hl
      cases g with
      | true =>
        simp only [if_true] at hl
        cases hs : sizeA P t with
        | none => rw [hs] at hl; cases hl
        | some n =>
          rw [hs] at hl
          simp only [Option.bind_some] at hl
          split at hl
          · rename_i hle
            injection hl with hl
            subst hl
            have hcs : ∀ j x, (cs.drop a.off)[j]? = some x → ∃ y, w.cell? (ad.add j) = some y ∧ RV w0.heap.size ι x y := fun j x hx => hc j x (by rwa [List.getElem?_drop] at hx)
            obtain ⟨ys, h1, h2, h3⟩ := run_load_row (P := P) (w := w) (w0 := w0) (ι := ι) (ad := ad) (cs := cs.drop a.off) n (by simp; omega) hcs
            refine ⟨.agg ys.toArray, ad.block, ?_, hB.1, hB.2.1, hB.2.2, fun w' hw' => ?_⟩
            · unfold RV
              exact ⟨_, rfl, by simpa using h2⟩
            · obtain ⟨zs, k1, k2, k3⟩ := run_load_row (P := P) (w := w') (w0 := w0) (ι := ι) (ad := ad) (cs := cs.drop a.off) n (by simp; omega) (fun j x hx => by rw [cell_same hw']; exact hcs j x hx)
              have e : zs = ys := by
                have l1 := h2.length
                have l2 := k2.length
                apply List.ext_getElem?
                intro j
                by_cases hj : j < ys.length
                · have a1 := h3 j ys[j] (List.getElem?_eq_getElem hj)
                  have hj' : j < zs.length := by omega
                  have a2 := k3 j zs[j] (List.getElem?_eq_getElem hj')
                  rw [cell_same hw', a1] at a2
                  rw [List.getElem?_eq_getElem hj, List.getElem?_eq_getElem hj']
                  exact a2.symm
                · rw [List.getElem?_eq_none (by omega), List.getElem?_eq_none (by omega)]
              subst e
              simp [Instr.loadAt, Instr.sureAddr, loadVar, aggA_run hag, sizeA_run hs, k1]
          · cases hl
      | false =>
        simp only [Bool.false_eq_true, if_false] at hl
        obtain ⟨y, h1, h2⟩ := hc 0 v (by simpa using hl)
        refine ⟨y, ad.block, h2, hB.1, hB.2.1, hB.2.2, fun w' hw' => ?_⟩
        have h1' : w'.cell? ad = some y := by
          have := cell_same hw' 0
          rw [h1] at this
          simpa [Addr.add] using this
        simp [Instr.loadAt, Instr.sureAddr, loadVar, aggA_run hag, h1']
/-- Operations that only lay new memory. -/
def allocOp : Op → Bool
  | .alloc _ | .box .. | .makeSlice .. | .buildSlice .. => true
  | _ => false
theorem alloc_any {fr : AFr} {op : Op} {v : AV} {H' : AH} (ha : allocOp op = true) (ho : opA P fr H op = some (v, H')) {H0 : AH} (hn : H0.n = H.n) : ∃ H0', opA P fr H0 op = some (v, H0') := by
  cases op <;> simp only [allocOp, Bool.false_eq_true] at ha
  case alloc t =>
    simp only [opA] at ho ⊢
    obtain ⟨z, hz, ho⟩ := Option.map_eq_some_iff.1 ho
    rw [hz]
    simp only [newA] at ho
    injection ho with e1 e2
    exact ⟨_, by simp only [Option.map_some, newA, hn, e1]; rfl⟩
  case box t x =>
    simp only [opA] at ho ⊢
    obtain ⟨z, hz, ho⟩ := Option.map_eq_some_iff.1 ho
    rw [hz]
    simp only [newA] at ho
    injection ho with e1 e2
    exact ⟨_, by simp only [Option.map_some, newA, hn, e1]; rfl⟩
  case makeSlice t l c =>
    simp only [opA] at ho ⊢
    unfold makeSliceA at ho ⊢
    split at ho
    · obtain ⟨sz, h1, ho⟩ := Option.bind_eq_some_iff.1 ho
      obtain ⟨b, h2, ho⟩ := Option.bind_eq_some_iff.1 ho
      obtain ⟨z, h3, ho⟩ := Option.bind_eq_some_iff.1 ho
      split at ho
      · rename_i hk
        injection ho with ho
        injection ho with e1 e2
        simp only [h1, h2, h3, Option.bind_some]
        rw [if_pos hk, hn, e1]
        exact ⟨_, rfl⟩
      · cases ho
    · cases ho
  case buildSlice t n q =>
    simp only [opA] at ho ⊢
    unfold buildSliceA at ho ⊢
    split at ho
    · obtain ⟨sz, h1, ho⟩ := Option.bind_eq_some_iff.1 ho
      obtain ⟨z, h3, ho⟩ := Option.bind_eq_some_iff.1 ho
      split at ho
      · rename_i hk
        obtain ⟨cs, h4, ho⟩ := Option.map_eq_some_iff.1 ho
        injection ho with e1 e2
        simp only [h1, h3, Option.bind_some]
        rw [if_pos hk, h4, hn]
        simp only [Option.map_some, e1]
        exact ⟨_, rfl⟩
      · cases ho
    · cases ho

/-- The old blocks stand as they were. -/
def Same (w w' : World) : Prop := w.heap.size ≤ w'.heap.size ∧ ∀ B, B < w.heap.size → w'.heap[B]? = w.heap[B]?
theorem Same.refl (w : World) : Same w w := ⟨Nat.le_refl _, fun _ _ => rfl⟩
theorem Same.trans {w w' w'' : World} (h : Same w w') (k : Same w' w'') : Same w w'' := ⟨Nat.le_trans h.1 k.1, fun B hB => (k.2 B (Nat.lt_of_lt_of_le hB h.1)).trans (h.2 B hB)⟩

def isPend : Loc → Bool
  | .pend => true
  | _ => false
theorem isPend_ok : ∀ {L : Loc}, isPend L = true → L = .pend
  | .pend, _ => rfl
  | .dead, h => by simp [isPend] at h
  | .nil, h => by simp [isPend] at h
  | .at _ _ _, h => by simp [isPend] at h
def hideL (ι : List Loc) : List Loc := ι.map fun L => if isPend L then L else .dead
def hideH (ι : List Loc) (H : AH) : AH := ⟨H.ro, List.zipWith (fun b L => if isPend L then b else none) H.rw ι, H.wr⟩

theorem hide_rep (h : Rep w0 ι H w) : Rep w0 (hideL ι) (hideH ι H) w ∧ LocLe ι (hideL ι) ∧ (hideH ι H).n = H.n := by
  have hl := h.len
  have gL : ∀ i : Nat, (hideL ι)[i]? = (ι[i]?).map fun L => if isPend L then L else .dead := fun i => by simp [hideL, List.getElem?_map]
  have noat : ∀ (i B O m : Nat), (hideL ι)[i]? ≠ some (.at B O m) := fun i B O m he => by
    rw [gL] at he
    obtain ⟨L, h1, h2⟩ := Option.map_eq_some_iff.1 he
    split at h2
    · rename_i hp
      rw [isPend_ok hp] at h2
      cases h2
    · cases h2
  have gH : ∀ i : Nat, (hideH ι H).rw[i]? = (match H.rw[i]?, ι[i]? with | some b, some L => some (if isPend L then b else none) | _, _ => none) := fun i => by
    simp only [hideH, List.getElem?_zipWith]
    cases H.rw[i]? <;> cases ι[i]? <;> rfl
  refine ⟨⟨h.below, h.ro, by simp [hideL, hideH, hl], ?_, ?_, ?_, ?_, ?_⟩, ?_, by simp [AH.n, hideH, hl]⟩
  · intro i l hi
    rw [gH] at hi
    left
    cases hb : H.rw[i]? with
    | none => rw [hb] at hi; cases hi
    | some b =>
      cases hL : ι[i]? with
      | none => rw [hb, hL] at hi; cases hi
      | some L =>
        rw [hb, hL] at hi
        simp only at hi
        by_cases hp : isPend L = true
        · rw [gL, hL, Option.map_some, if_pos hp, isPend_ok hp]
        · rw [if_neg hp] at hi; cases hi
  · intro i es hi
    rw [gH] at hi
    cases hb : H.rw[i]? with
    | none => rw [hb] at hi; cases hi
    | some b =>
      cases hL : ι[i]? with
      | none => rw [hb, hL] at hi; cases hi
      | some L =>
        rw [hb, hL] at hi
        simp only at hi
        by_cases hp : isPend L = true
        · rw [if_pos hp] at hi
          injection hi with hi
          exact h.nomap i es (by rw [hb, hi])
        · rw [if_neg hp] at hi; cases hi
  · intro i hi
    rw [gH] at hi
    cases hb : H.rw[i]? with
    | none => rw [hb] at hi; cases hi
    | some b =>
      cases hL : ι[i]? with
      | none => rw [hb, hL] at hi; cases hi
      | some L =>
        rw [hb, hL] at hi
        simp only at hi
        by_cases hp : isPend L = true
        · rw [if_pos hp] at hi
          injection hi with hi
          have := h.gone i (by rw [hb, hi])
          rw [hL, isPend_ok hp] at this
          cases this
        · rw [gL, hL, Option.map_some, if_neg hp]
  · intro i j B O m O' m' hi
    exact absurd hi (noat _ _ _ _)
  · intro i B O m hi
    exact absurd hi (noat _ _ _ _)
  · intro i L hi
    rw [gL, hi, Option.map_some]
    by_cases hp : isPend L = true
    · rw [if_pos hp]; exact .inl rfl
    · rw [if_neg hp]
      exact .inr ⟨rfl, fun e => hp (by rw [e]; rfl)⟩

/-- Operations that only lay new memory leave the old blocks as they were. -/
theorem alloc_same {N : Nat} {ds : List Deferred} {fr : AFr} {a : Act} (hs : St w0 ι N ds fr H a w) {o : Oper} {v : AV} {H' : AH} (ha : allocOp o.op = true) (ho : opA P fr H o.op = some (v, H')) {n : Next} {w1 : World} (hr : (execOp a.eval o).run P w = .ok n w1) : Same w w1 := by
  obtain ⟨hrep, hle, hn⟩ := hide_rep hs.rep
  obtain ⟨H0', ho'⟩ := alloc_any ha ho hn
  obtain ⟨w', ι', r1, r2, r3⟩ := opA_ok hrep (hs.fr.ext hle) ho'
  have e : w' = w1 := by
    rcases r3 with ⟨cv, h1, _⟩ | ⟨h1, _⟩
    · rw [h1] at hr; injection hr
    · rw [h1] at hr; injection hr
  subst e
  refine ⟨r2.size, fun B hB => r2.frame B hB fun i O m hi => ?_⟩
  simp only [hideL, List.getElem?_map] at hi
  obtain ⟨L, h1, h2⟩ := Option.map_eq_some_iff.1 hi
  split at h2
  · rename_i hp
    rw [isPend_ok hp] at h2
    cases h2
  · cases h2
end

section
variable {P : Program} {md : Region.Mode} {ops : Array Oper} {Q : Exit → Act → World → Prop} {S : Array Bool → World → Prop}

def wpAnyI (P : Program) (md : Region.Mode) (ops : Array Oper) (Q : Exit → Act → World → Prop) (S : Array Bool → World → Prop) : Nat → Array Bool → Act → World → Prop
  | 0, listed, a, w => Region.ready md ops listed = [] ∧ Q .normal a w
  | fuel + 1, listed, a, w =>
    (Region.ready md ops listed = [] → Q .normal a w) ∧
    ∀ i ∈ Region.ready md ops listed, wpOp P ops Q i (fun a' w' => S (listed.setIfInBounds i true) w' ∧ wpAnyI P md ops Q S fuel (listed.setIfInBounds i true) a' w') a w

theorem wpAny_of_I : ∀ (fuel : Nat) (listed : Array Bool) (a : Act) (w : World), wpAnyI P md ops Q S fuel listed a w → wpAny P md ops Q fuel listed a w
  | 0, _, _, _, h => h
  | fuel + 1, _, _, _, h => ⟨h.1, fun i hi => wpOp_mono (fun a' w' h' => wpAny_of_I fuel _ a' w' h'.2) (h.2 i hi)⟩

theorem wpAnyI_mono {S' : Array Bool → World → Prop} (hS : ∀ l w, S' l w → S l w) : ∀ (fuel : Nat) (listed : Array Bool) (a : Act) (w : World), wpAnyI P md ops Q S' fuel listed a w → wpAnyI P md ops Q S fuel listed a w
  | 0, _, _, _, h => h
  | fuel + 1, listed, a, w, h => ⟨h.1, fun i hi => wpOp_mono (fun a' w' h' => ⟨hS _ _ h'.1, wpAnyI_mono hS fuel _ _ _ h'.2⟩) (h.2 i hi)⟩

theorem wpAnyI_first {i : Nat} {oi : Oper} {v : Value} {Y : World → Prop} (hi : ops[i]? = some oi) (hsel : ∀ (j : Nat) (o : Oper) cs b, ops[j]? = some o → o.op ≠ .select cs b)
    (hQ : ∀ c a w, Q (.panic c) (a.put oi.dst v) w → Q (.panic c) a w) (Inv : Array Bool → Prop) (hstep : ∀ listed j, Inv listed → j ≠ i → j ∈ Region.ready md ops listed → Inv (listed.setIfInBounds j true))
    (hY : ∀ listed w, Inv listed → S listed w → Y w) (hS : ∀ listed w, S (listed.setIfInBounds i true) w ↔ S listed w) :
    ∀ (fuel : Nat) (listed : Array Bool) (a : Act) (w : World), Inv listed →
      (∀ j oj, ops[j]? = some oj → j ≠ i → listed.getD j true = false → (∀ e ∈ oj.after, Region.binds md e = true → e.on ≠ i) → oi.apart ops oj = true) →
      i ∈ Region.ready md ops listed → YieldsIf P ops Y oi v a → S listed w →
      wpAnyI P md ops Q S fuel (listed.setIfInBounds i true) (a.put oi.dst v) w → wpAnyI P md ops Q S (fuel + 1) listed a w := by
  intro fuel
  induction fuel with
  | zero =>
    intro listed a w hinv _ hr hy hSw H
    refine ⟨fun h => (by rw [h] at hr; cases hr), fun j hj => ?_⟩
    by_cases hji : j = i
    · subst hji; exact hy.wpOp hi (hY _ _ hinv hSw) ⟨(hS _ _).2 hSw, H⟩
    · have := ready_mono hj hji
      rw [H.1] at this
      cases this
  | succ fuel ih =>
    intro listed a w hinv hfree hr hy hSw H
    refine ⟨fun h => (by rw [h] at hr; cases hr), fun j hj => ?_⟩
    by_cases hji : j = i
    · subst hji; exact hy.wpOp hi (hY _ _ hinv hSw) ⟨(hS _ _).2 hSw, H⟩
    · have h1 := H.2 j (ready_mono hj hji)
      obtain ⟨hjun, oj, hoj, hall⟩ := mem_ready.1 hj
      have hnot : ∀ e ∈ oj.after, Region.binds md e = true → e.on ≠ i := fun e he hb heq => by
        have h1 := hall e he hb
        have h0 := (mem_ready.1 hr).1
        rw [heq] at h1
        rcases Nat.lt_or_ge i listed.size with h' | h'
        · simp [h'] at h0 h1; rw [h0] at h1; cases h1
        · simp [Array.getElem?_eq_none h'] at h1
      have h2 := wpOp_putIf hoj (hfree j oj hoj hji hjun hnot) (fun cs b => hsel i oi cs b hi) (fun cs b => hsel j oj cs b hoj) hQ hy h1
      have hfree' : ∀ k ok, ops[k]? = some ok → k ≠ i → (listed.setIfInBounds j true).getD k true = false →
          (∀ e ∈ ok.after, Region.binds md e = true → e.on ≠ i) → oi.apart ops ok = true := fun k ok hk hki hun hno => by
        refine hfree k ok hk hki ?_ hno
        by_cases hjk : j = k
        · subst hjk; exact hjun
        · rw [getD_set_ne true hjk] at hun; exact hun
      refine wpOp_mono (fun a' w' h3 => ?_) h2
      have hS' : S (listed.setIfInBounds j true) w' := by
        rw [← hS, Array.setIfInBounds_comm _ _ hji]
        exact h3.2.1
      refine ⟨hS', ih (listed.setIfInBounds j true) a' w' (hstep _ _ hinv hji hj) hfree' (ready_mono hr (Ne.symm hji)) h3.1 hS' ?_⟩
      rw [Array.setIfInBounds_comm _ _ hji]
      exact h3.2.2

theorem wpAnyI_all {rs : List Nat} {fuel : Nat} {listed : Array Bool} {a : Act} {w : World} (hr : Region.ready md ops listed = rs) (hne : rs ≠ [])
    (h : ∀ i ∈ rs, wpOp P ops Q i (fun a' w' => S (listed.setIfInBounds i true) w' ∧ wpAnyI P md ops Q S fuel (listed.setIfInBounds i true) a' w') a w) : wpAnyI P md ops Q S (fuel + 1) listed a w :=
  ⟨fun h0 => absurd (hr ▸ h0) hne, hr ▸ h⟩

theorem wpAnyI_done {listed : Array Bool} {a : Act} {w : World} (hr : Region.ready md ops listed = []) (h : Q .normal a w) : ∀ fuel, wpAnyI P md ops Q S fuel listed a w
  | 0 => ⟨hr, h⟩
  | _ + 1 => ⟨fun _ => h, by rw [hr]; simp⟩

theorem wp_region_I {id : Nat} {a : Act} {w : World} (hm : P.follows .mixedOrders = true)
    (h : wpAnyI P .any ops Q S ops.size (Array.replicate ops.size false) a { w with drawn := w.drawn + 1 }) : (Code.region id ops true).wp P Q a w :=
  wp_region_any hm (wpAny_of_I _ _ _ _ h)
end

/-- How many of these have come, one behind the other. -/
def phase (Fs : List Nat) (listed : Array Bool) : Nat := (Fs.takeWhile fun k => listed.getD k false).length

theorem phase_mono {l l' : Array Bool} (h : ∀ k, l.getD k false = true → l'.getD k false = true) : ∀ Fs : List Nat, phase Fs l ≤ phase Fs l'
  | [] => Nat.le_refl _
  | k :: Fs => by
    unfold phase
    simp only [List.takeWhile_cons]
    by_cases hk : l.getD k false = true
    · rw [if_pos hk, if_pos (h k hk)]
      have := phase_mono h Fs
      unfold phase at this
      simp only [List.length_cons]
      omega
    · rw [if_neg hk]; simp
theorem phase_le {l : Array Bool} {k : Nat} (hk : l.getD k false = false) : ∀ (Fs : List Nat) {m : Nat}, Fs[m]? = some k → phase Fs l ≤ m
  | [], _, h => by simp at h
  | j :: Fs, 0, h => by
    simp at h; subst h
    unfold phase
    rw [List.takeWhile_cons, if_neg (by rw [hk]; simp)]
    simp
  | j :: Fs, m + 1, h => by
    have := phase_le hk Fs (m := m) (by simpa using h)
    unfold phase at this ⊢
    simp only [List.takeWhile_cons]
    split <;> simp only [List.length_cons, List.length_nil] <;> omega
theorem phase_top {l : Array Bool} : ∀ Fs : List Nat, phase Fs l ≤ Fs.length
  | [] => Nat.le_refl _
  | j :: Fs => by
    have := phase_top (l := l) Fs
    unfold phase at this ⊢
    simp only [List.takeWhile_cons]
    split <;> simp only [List.length_cons, List.length_nil] <;> omega
theorem phase_set {l : Array Bool} {i : Nat} : ∀ (Fs : List Nat), Fs.contains i = false → phase Fs (l.setIfInBounds i true) = phase Fs l
  | [], _ => rfl
  | k :: Fs, h => by
    simp only [List.contains_cons, Bool.or_eq_false_iff, beq_eq_false_iff_ne] at h
    unfold phase
    simp only [List.takeWhile_cons]
    rw [getD_set_ne false h.1]
    have := phase_set (l := l) Fs h.2
    unfold phase at this
    split <;> simp only [List.length_cons, List.length_nil, this]

/-- What waits for an operation, directly or through others, among those that come behind it. -/
def waitsL (md : Region.Mode) (ops : Array Oper) (i : Nat) : List (Nat × Option Nat) → List Nat → List Nat
  | [], D => D
  | (j, _) :: l, D => waitsL md ops i l (if (match ops[j]? with | some o => o.after.any fun e => Region.binds md e && (e.on == i || D.contains e.on) | none => false) then j :: D else D)
def waitsOk (md : Region.Mode) (ops : Array Oper) (i : Nat) (D : List Nat) : Bool := D.all fun k => match ops[k]? with
  | some o => o.after.any fun e => Region.binds md e && (e.on == i || D.contains e.on)
  | none => false

def allP (φ : AH → Prop) : List (AH → Prop) → Prop
  | [] => True
  | R :: l => (∀ K, R K → φ K) ∧ allP φ l
def eqM (X : AH) : AH → Prop := fun K => K = X
def rofP (Rs : List (AH → Prop)) (p : Nat) : AH → Prop := fun K => ∃ R, Rs[p]? = some R ∧ R K

theorem allP_at {φ : AH → Prop} : ∀ {l : List (AH → Prop)} {p : Nat} {R : AH → Prop}, allP φ l → l[p]? = some R → ∀ K, R K → φ K
  | [], _, _, _, h => by simp at h
  | R :: l, 0, _, h, e => by simp at e; subst e; exact h.1
  | R :: l, p + 1, _, h, e => allP_at h.2 (by simpa using e)

def isLoad : Op → Bool
  | .load .. => true
  | _ => false
def loadRo (fr : AFr) : Op → Bool
  | .load _ x => (match aeval fr x with | .ptr p => p.ro | _ => false)
  | _ => false
/-- So many of those that come just then only lay new memory, one behind the other. -/
def quietL : List (Option Oper × Option Nat) → Nat
  | [] => 0
  | (none, _) :: _ => 0
  | (some _, some _) :: l => quietL l
  | (some o, none) :: l => if allocOp o.op && o.guard.isNone then quietL l + 1 else 0
/-- Is this read's block known to be as it was in the next phases? -/
def loadOf (fr : AFr) : Op → Option Nat
  | .load _ x => (match aeval fr x with | .ptr p => if p.ro then none else some p.blk | _ => none)
  | _ => none
def heldD : List Nat → Option Tmp → Bool
  | _, none => false
  | [], _ => false
  | h :: l, some d => if d = h then true else heldD l (some d)
def StillP (P : Program) (h : Bool) (Rs : List (AH → Prop)) (n q : Nat) (fr : AFr) (H : AH) (op : Op) (v : AV) : Prop :=
  copyOp op = true ∨ (stillOp op = true ∧ convOk op v = true ∧ (n = 0 ∨ (isLoad op = true ∧ (n ≤ q ∨ loadRo fr op = true)) ∨ (h = true ∧ ∃ i, loadOf fr op = some i ∧ allP (fun K => ¬ K.wr i) ((Rs.drop 1).take n)) ∨ ((h && isLoad op) = false ∧ rigidA H v = true ∧ allP (fun K => opA P fr K op = some (v, K) ∧ rigidA K v = true) ((Rs.drop 1).take n))))

/-- 'some n': may come until n of those that come just then are past; 'none': comes just then. -/
def DOpsP (P : Program) (ops : Array Oper) (hs : List Nat) (Q : AFr → AH → Prop) : List (Option Oper × Option Nat) → List (AH → Prop) → AFr → AH → Prop
  | [], _, fr, H => Q fr H
  | (none, _) :: _, _, _, _ => False
  | (some o, some n) :: rest, Rs, fr, H => ifG (guardA ops fr o) (DOpsP P ops hs Q rest Rs (putA fr o.dst (.tup [])) H) (opThen (opA P fr H o.op) fun v _ => StillP P (heldD hs o.dst) Rs n (quietL rest) fr H o.op v ∧ DOpsP P ops hs Q rest Rs (putA fr o.dst v) H)
  | (some o, none) :: rest, Rs, fr, H => AOps P ops (fun fr' H' => match Rs with
    | _ :: R1 :: l => R1 H' ∧ DOpsP P ops hs Q rest (R1 :: l) fr' H'
    | _ => False) [o] fr H

def drawOkP (md : Region.Mode) (ops : Array Oper) (Fs : List Nat) : List (Nat × Option Nat) → Nat → Array Bool → Bool
  | [], p, listed => (Region.ready md ops listed).isEmpty
  | (i, some n) :: l, p, listed =>
    let D := waitsL md ops i l []
    Region.free md ops listed i && (Region.ready md ops listed).contains i && !Fs.contains i && waitsOk md ops i D && D.all (fun k => !listed.getD k true) && (match Fs[p + n]? with | some k => D.contains k | none => decide (Fs.length ≤ p + n)) && (phase Fs listed == p) && drawOkP md ops Fs l p (listed.setIfInBounds i true)
  | (i, none) :: l, p, listed => (Region.ready md ops listed == [i]) && (phase Fs (listed.setIfInBounds i true) == p + 1) && drawOkP md ops Fs l (p + 1) (listed.setIfInBounds i true)

/-- What holds while the region runs: behind phase 'p' so much as its 'R' says; in phase 'p' the world is this one. -/
def HeldP (w0 : World) (ι : List Loc) (Hp : AH) (Fs : List Nat) (Rs : List (AH → Prop)) (p q : Nat) (wp : World) (listed : Array Bool) (w : World) : Prop :=
  p ≤ phase Fs listed ∧ (phase Fs listed = p → w = wp) ∧ (phase Fs listed ≤ p + q → Same wp w) ∧ ∃ ι' H', Rep w0 ι' H' w ∧ Ext ι Hp wp ι' H' w ∧ rofP Rs (phase Fs listed) H'

theorem getD_any {l : Array Bool} {k : Nat} (h : l.getD k true = false) : l.getD k false = false := by
  rcases Nat.lt_or_ge k l.size with h' | h'
  · simp [h'] at h ⊢; exact h
  · simp [Array.getElem?_eq_none h'] at h

theorem set_keeps {l : Array Bool} {j : Nat} (k : Nat) (h : l.getD k false = true) : (l.setIfInBounds j true).getD k false = true := getD_set_true h

theorem waits_step {md : Region.Mode} {ops : Array Oper} {i : Nat} {D : List Nat} (hD : waitsOk md ops i D = true) {listed : Array Bool} (hu : ∀ k ∈ D, listed.getD k true = false) (hi : listed.getD i true = false) {j : Nat} (hji : j ≠ i) (hj : j ∈ Region.ready md ops listed) :
    (∀ k ∈ D, (listed.setIfInBounds j true).getD k true = false) ∧ (listed.setIfInBounds j true).getD i true = false := by
  have hjD : j ∉ D := fun hm => by
    unfold waitsOk at hD
    have h1 := List.all_eq_true.1 hD j hm
    obtain ⟨_, o, ho, hall⟩ := mem_ready.1 hj
    rw [ho] at h1
    obtain ⟨e, he, hb⟩ := Array.any_eq_true'.1 h1
    simp only [Bool.and_eq_true, Bool.or_eq_true, beq_iff_eq] at hb
    have h2 := hall e he hb.1
    rcases hb.2 with h3 | h3
    · rw [h3] at h2; rw [getD_any hi] at h2; cases h2
    · rw [getD_any (hu _ (by simpa using h3))] at h2; cases h2
  refine ⟨fun k hk => ?_, by rw [getD_set_ne true hji]; exact hi⟩
  rw [getD_set_ne true (fun e => hjD (by rw [e]; exact hk))]
  exact hu k hk

theorem rofP_at {φ : AH → Prop} {Rs : List (AH → Prop)} {p n q : Nat} (h : allP φ (((Rs.drop p).drop 1).take n)) (h1 : p < q) (h2 : q ≤ p + n) {K : AH} (hK : rofP Rs q K) : φ K := by
  obtain ⟨R, hR, hK⟩ := hK
  refine allP_at (p := q - (p + 1)) (R := R) h ?_ K hK
  rw [List.getElem?_take, if_pos (by omega), List.drop_drop, List.getElem?_drop, show p + 1 + (q - (p + 1)) = q by omega]
  exact hR

theorem DOpsP_sound {P : Program} {md : Region.Mode} {ops : Array Oper} {hl : List Nat} {Q : AFr → AH → Prop} {N : Nat} {ds : List Deferred} {QC : Exit → Act → World → Prop} {w0 : World} {Fs : List Nat} {Rs : List (AH → Prop)} (hsel : Region.noSelect ops = true) (hd : ∀ (i : Nat) (o : Oper), ops[i]? = some o → ∀ d, o.dst = some d → d < N)
    {ιs : List Loc} {Hs : AH} {ws : World} (hQ : ∀ fr' H' ι' a' w', Q fr' H' → St w0 ι' N ds fr' H' a' w' → Ext ιs Hs ws ι' H' w' → QC .normal a' w') :
    ∀ (l : List (Nat × Option Nat)) (p : Nat) (listed : Array Bool) (fr : AFr) (H : AH) (a : Act) (w : World) (ι : List Loc), drawOkP md ops Fs l p listed = true → phase Fs listed = p → DOpsP P ops hl Q (l.map fun p => (ops[p.1]?, p.2)) (Rs.drop p) fr H → St w0 ι N ds fr H a w → rofP Rs p H → Ext ιs Hs ws ι H w →
      wpAnyI P md ops (onlyN QC) (HeldP w0 ι H Fs Rs p (quietL (l.map fun p => (ops[p.1]?, p.2))) w) l.length listed a w
  | [], p, listed, fr, H, a, w, ι, hok, hph, h, hs, hR, he => by
    simp only [drawOkP, List.isEmpty_iff] at hok
    exact wpAnyI_done hok ⟨rfl, hQ _ _ _ _ _ h hs he⟩ _
  | (i, some n) :: l, p, listed, fr, H, a, w, ι, hok, hph, h, hs, hR, he => by
    simp only [drawOkP, Bool.and_eq_true, Bool.not_eq_true', beq_iff_eq] at hok
    obtain ⟨⟨⟨⟨⟨⟨⟨hf, hr⟩, hFi⟩, hW⟩, hDu⟩, hdl⟩, _⟩, hok⟩ := hok
    simp only [List.map_cons] at h
    cases hi : ops[i]? with
    | none => rw [hi] at h; exact h.elim
    | some o =>
      rw [hi] at h
      simp only [DOpsP] at h
      have hq0 : quietL (((i, some n) :: l).map fun p => (ops[p.1]?, p.2)) = quietL (l.map fun p => (ops[p.1]?, p.2)) := by simp only [List.map_cons, hi, quietL]
      rw [hq0]
      generalize hqq : quietL (l.map fun p => (ops[p.1]?, p.2)) = qq at h
      have hheld : HeldP w0 ι H Fs Rs p qq w listed w := ⟨by omega, fun _ => rfl, fun _ => Same.refl _, ι, H, hs.rep, Ext.refl _ _ _, by rw [hph]; exact hR⟩
      have hp : ∀ c a' (w' : World) (v : Value), onlyN QC (.panic c) (a'.put o.dst v) w' → onlyN QC (.panic c) a' w' := fun c a' w' v hh => by cases hh.1
      have hph' : phase Fs (listed.setIfInBounds i true) = p := by rw [phase_set Fs hFi]; exact hph
      have hSi : ∀ (listed : Array Bool) (w' : World), HeldP w0 ι H Fs Rs p qq w (listed.setIfInBounds i true) w' ↔ HeldP w0 ι H Fs Rs p qq w listed w' := fun listed w' => by
        unfold HeldP; rw [phase_set Fs hFi]
      have hr' : i ∈ Region.ready md ops listed := by simpa using hr
      have hui : listed.getD i true = false := (mem_ready.1 hr').1
      have hDu' : ∀ k ∈ waitsL md ops i l [], listed.getD k true = false := fun k hk => by simpa using List.all_eq_true.1 hDu k hk
      let Inv : Array Bool → Prop := fun l' => (∀ k, listed.getD k false = true → l'.getD k false = true) ∧ (∀ k ∈ waitsL md ops i l [], l'.getD k true = false) ∧ l'.getD i true = false
      have hinv : Inv listed := ⟨fun _ h => h, hDu', hui⟩
      have hstep : ∀ l' j, Inv l' → j ≠ i → j ∈ Region.ready md ops l' → Inv (l'.setIfInBounds j true) := fun l' j ⟨h1, h2, h3⟩ hji hj => by
        have := waits_step hW h2 h3 hji hj
        exact ⟨fun k hk => set_keeps k (h1 k hk), this.1, this.2⟩
      have hbound : ∀ l', Inv l' → p ≤ phase Fs l' ∧ phase Fs l' ≤ p + n := fun l' ⟨h1, h2, h3⟩ => by
        refine ⟨by rw [← hph]; exact phase_mono h1 Fs, ?_⟩
        split at hdl
        · rename_i k hk
          exact phase_le (getD_any (h2 k (by simpa using hdl))) Fs hk
        · exact Nat.le_trans (phase_top Fs) (by simpa using hdl)
      have fin : ∀ (v : Value) (Y : World → Prop), (∀ l' w', Inv l' → HeldP w0 ι H Fs Rs p qq w l' w' → Y w') → YieldsIf P ops Y o v a → wpAnyI P md ops (onlyN QC) (HeldP w0 ι H Fs Rs p qq w) l.length (listed.setIfInBounds i true) (a.put o.dst v) w →
          wpAnyI P md ops (onlyN QC) (HeldP w0 ι H Fs Rs p qq w) (l.length + 1) listed a w := fun v Y hY hy hk =>
        wpAnyI_first (Y := Y) hi (Region.noSelect_spec hsel) (fun c a' w' => hp c a' w' _) Inv hstep hY hSi l.length listed a w hinv (Region.free_spec hi hf) hr' hy hheld hk
      cases hg : guardA ops fr o with
      | none => rw [hg] at h; exact h.elim
      | some b =>
        rw [hg] at h
        have hw := guardA_ok hs hg
        cases b with
        | false =>
          simp only [ifG] at h
          exact fin undef (fun _ => True) (fun _ _ _ _ => trivial) (.inr ⟨hw, rfl⟩) (hqq ▸ DOpsP_sound hsel hd hQ l p _ _ H _ w ι hok hph' h (hs.put (hd i o hi) hs.rep (LocLe.refl ι) RV_undef) hR he)
        | true =>
          simp only [ifG] at h
          cases ho : opA P fr H o.op with
          | none => rw [ho] at h; exact h.elim
          | some vh =>
            obtain ⟨v, H1⟩ := vh
            rw [ho] at h
            simp only [opThen] at h
            obtain ⟨hst, h⟩ := h
            have key : ∃ cv, YieldsIf P ops (fun w' => ∃ l', Inv l' ∧ HeldP w0 ι H Fs Rs p qq w l' w') o cv a ∧ RV w0.heap.size ι v cv := by
              rcases hst with hc | ⟨hc, hconv, hst⟩
              · obtain ⟨_, cv, h1, h2⟩ := opA_copy hs.rep hs.fr hc ho
                exact ⟨cv, .inl ⟨hw, fun w' _ => h1 w'⟩, h2⟩
              · by_cases hld : isLoad o.op = true ∧ (n ≤ qq ∨ loadRo fr o.op = true ∨ ∃ i, loadOf fr o.op = some i ∧ allP (fun K => ¬ K.wr i) (((Rs.drop p).drop 1).take n))
                · obtain ⟨hl1, hl2⟩ := hld
                  obtain ⟨dst, op, type, pos, after, guard⟩ := o
                  cases op <;> simp only [isLoad, Bool.false_eq_true] at hl1
                  rename_i t x
                  simp only [opA] at ho
                  split at ho
                  · rename_i pa hpa
                    obtain ⟨v', hv', ho⟩ := Option.map_eq_some_iff.1 ho
                    injection ho with e1 e2
                    subst e1
                    have hx := aeval_ok hs.fr x
                    rw [hpa] at hx
                    unfold RV at hx
                    obtain ⟨z, B, z1, z2, z3, z5, z4⟩ := load_stable (P := P) hs.rep hv' hx
                    refine ⟨z, .inl ⟨hw, fun w' hw' => ?_⟩, z1⟩
                    obtain ⟨l', hl', hp1, hp2, hp3, ι', H', hrep, hext, hRH⟩ := hw'
                    have hle := hext.le
                    have hb := hbound l' hl'
                    have hsame : SameB w w' B := by
                      rcases hl2 with hl2 | hl2 | ⟨bi, hl2, hl3⟩
                      · exact .of ((hp3 (by omega)).2 B z2)
                      · have : pa.ro = true := by simpa [loadRo, hpa] using hl2
                        have hB := z3 this
                        exact .of (by rw [hrep.below.block B hB, hs.rep.below.block B hB])
                      · simp only [loadOf, hpa] at hl2
                        split at hl2
                        · cases hl2
                        · rename_i hro
                          injection hl2 with hl2
                          obtain ⟨O, m, z6⟩ := z5 (by simpa using hro)
                          by_cases hpp : phase Fs l' = p
                          · rw [hp2 hpp]; exact SameB.refl _ _
                          · exact (hext.still _ _ _ _ z6 z2 (by rw [hl2]; exact rofP_at hl3 (by omega) hb.2 hRH)).1
                    have := z4 w' hsame
                    simp [execOp, this]
                  · cases ho
                have hst : n = 0 ∨ (rigidA H v = true ∧ allP (fun K => opA P fr K o.op = some (v, K) ∧ rigidA K v = true) (((Rs.drop p).drop 1).take n)) := by
                  rcases hst with h0 | h0 | ⟨_, bi, h0, h1⟩ | ⟨_, h0⟩
                  · exact .inl h0
                  · exact absurd ⟨h0.1, h0.2.elim .inl fun e => .inr (.inl e)⟩ hld
                  · exact absurd ⟨by revert h0; cases o.op <;> simp [loadOf, isLoad], .inr (.inr ⟨bi, h0, h1⟩)⟩ hld
                  · exact .inr h0
                have hcv : ∀ a n c, v ≠ .slice a n c ∨ ∀ s d x, o.op ≠ .convert s d x := fun a' n c => by
                  by_cases hv : v = .slice a' n c
                  · right
                    intro s d x he
                    rw [he, hv] at hconv
                    cases hconv
                  · exact .inl hv
                obtain ⟨_, cv, h1, h2⟩ := opA_still hs.rep hs.fr hc hcv ho
                refine ⟨cv, .inl ⟨hw, fun w' hw' => ?_⟩, h2⟩
                obtain ⟨l', hl', hp1, hp2, hp3, ι', H', hrep, hext, hRH⟩ := hw'
                have hle := hext.le
                by_cases hpp : phase Fs l' = p
                · rw [hp2 hpp]; exact h1
                · have hb := hbound l' hl'
                  rcases hst with hn | ⟨hrig, hall⟩
                  · omega
                  · obtain ⟨g1, g2⟩ := rofP_at hall (by omega) hb.2 hRH
                    obtain ⟨_, cv', k1, k2⟩ := opA_still hrep (hs.fr.ext hle) hc hcv g1
                    rw [k1, rigid_eq hs.rep hrep hle hrig g2 h2 k2]
            obtain ⟨cv, hy, hv⟩ := key
            exact fin cv _ (fun l' w' h1 h2 => ⟨l', h1, h2⟩) hy (hqq ▸ DOpsP_sound hsel hd hQ l p _ _ H _ w ι hok hph' h (hs.put (hd i o hi) hs.rep (LocLe.refl ι) hv) hR he)
  | (i, none) :: l, p, listed, fr, H, a, w, ι, hok, hph, h, hs, hR, he => by
    simp only [drawOkP, Bool.and_eq_true, beq_iff_eq] at hok
    obtain ⟨⟨hr, hph'⟩, hok⟩ := hok
    simp only [List.map_cons] at h
    cases hi : ops[i]? with
    | none => rw [hi] at h; exact h.elim
    | some o =>
      rw [hi] at h
      simp only [DOpsP] at h
      refine wpAnyI_all hr (by simp) fun j hj => ?_
      obtain rfl : j = i := by simpa using hj
      have hq0 : quietL (((j, none) :: l).map fun p => (ops[p.1]?, p.2)) = if allocOp o.op && o.guard.isNone then quietL (l.map fun p => (ops[p.1]?, p.2)) + 1 else 0 := by simp only [List.map_cons, hi, quietL]
      rw [hq0]
      generalize hq1 : quietL (l.map fun p => (ops[p.1]?, p.2)) = q1
      generalize hqq : (if allocOp o.op && o.guard.isNone then q1 + 1 else 0) = qq
      have step : ∀ fr1 H1 ι1 a1 w1, (match Rs.drop p with | _ :: R1 :: l' => R1 H1 ∧ DOpsP P ops hl Q (l.map fun p => (ops[p.1]?, p.2)) (R1 :: l') fr1 H1 | _ => False) → St w0 ι1 N ds fr1 H1 a1 w1 → Ext ι H w ι1 H1 w1 → (qq = 0 ∨ (qq = q1 + 1 ∧ Same w w1)) →
          HeldP w0 ι H Fs Rs p qq w (listed.setIfInBounds j true) w1 ∧ wpAnyI P md ops (onlyN QC) (HeldP w0 ι H Fs Rs p qq w) l.length (listed.setIfInBounds j true) a1 w1 := fun fr1 H1 ι1 a1 w1 hh hs1 he1 hsm => by
        have hdrop : ∃ R0 R1 l', Rs.drop p = R0 :: R1 :: l' ∧ R1 H1 ∧ DOpsP P ops hl Q (l.map fun p => (ops[p.1]?, p.2)) (R1 :: l') fr1 H1 := by
          split at hh
          · rename_i R0 R1 l' e; exact ⟨R0, R1, l', e, hh.1, hh.2⟩
          · exact hh.elim
        obtain ⟨R0, R1, l', e, h1, h2⟩ := hdrop
        have e1 : Rs.drop (p + 1) = R1 :: l' := by rw [← List.drop_drop, e]; rfl
        have hR1 : rofP Rs (p + 1) H1 := ⟨R1, by have := congrArg (·[0]?) e1; simpa using this, h1⟩
        refine ⟨⟨by omega, fun e => by omega, fun hle => by
          rcases hsm with h0 | ⟨_, h0⟩
          · omega
          · exact h0, ι1, H1, hs1.rep, he1, by rw [hph']; exact hR1⟩, ?_⟩
        refine wpAnyI_mono (S' := HeldP w0 ι1 H1 Fs Rs (p + 1) q1 w1) ?_ _ _ _ _ (hq1 ▸ DOpsP_sound hsel hd hQ l (p + 1) _ fr1 H1 a1 w1 ι1 hok hph' (by rw [e1]; exact h2) hs1 hR1 (he.trans he1))
        rintro l2 w2 ⟨k0, _, k9, ι2, H2, k1, k2, k3⟩
        exact ⟨by omega, fun e => by omega, fun hle => by
          rcases hsm with h0 | ⟨h0, h5⟩
          · omega
          · exact h5.trans (k9 (by omega)), ι2, H2, k1, he1.trans k2, k3⟩
      unfold wpOp
      simp only [hi]
      simp only [AOps] at h
      cases hg : guardA ops fr o with
      | none => rw [hg] at h; exact h.elim
      | some b =>
        rw [hg] at h
        rw [guardA_ok hs hg]
        cases b with
        | false =>
          simp only at h
          simp only [Bool.false_eq_true, if_false]
          refine step _ _ ι _ w h (hs.put (hd j o hi) hs.rep (LocLe.refl ι) RV_undef) (Ext.refl _ _ _) (.inl ?_)
          have : o.guard.isNone = false := by
            cases hgd : o.guard with
            | none => simp [guardA, hgd] at hg
            | some _ => rfl
          rw [← hqq, this]; simp
        | true =>
          simp only at h
          simp only [if_true]
          left
          cases hc : callA fr o.op with
          | some fa =>
            obtain ⟨f, args⟩ := fa
            rw [hc] at h
            simp only at h
            exact call_step hs hc (hd j o hi) h fun r H' ι' a' w' h1 h2 h3 => step _ _ _ _ _ h1 h2 h3 (.inl (by
              have : allocOp o.op = false := by cases ho' : o.op <;> first | rfl | (rw [ho'] at hc; simp [callA] at hc)
              rw [← hqq, this]; simp))
          | none =>
            rw [hc] at h
            simp only at h
            cases ho : opA P fr H o.op with
            | none => rw [ho] at h; exact h.elim
            | some vh =>
              obtain ⟨v, H'⟩ := vh
              rw [ho] at h
              by_cases hal : (allocOp o.op && o.guard.isNone) = true
              · obtain ⟨w', ι', r1, r2, r3⟩ := opA_ok hs.rep hs.fr ho
                have hal' : allocOp o.op = true := by simp at hal; exact hal.1
                have hq3 : qq = q1 + 1 := by rw [← hqq, if_pos hal]
                unfold Oper.wp
                rcases r3 with ⟨cv, hr', hv⟩ | ⟨hr', rfl⟩
                · rw [hr']
                  exact step _ _ ι' _ w' h (hs.put (hd j o hi) r1 r2.le hv) r2 (.inr ⟨hq3, alloc_same hs hal' ho hr'⟩)
                · rw [hr']
                  exact step _ _ ι' _ w' h (hs.put (hd j o hi) r1 r2.le (by unfold RV; trivial)) r2 (.inr ⟨hq3, alloc_same hs hal' ho hr'⟩)
              · exact op_step hs ho (hd j o hi) fun ι' a' w' h2 h3 => step _ _ _ _ _ h h2 h3 (.inl (by rw [← hqq, if_neg hal]))

/-- A region that draws its order, its memory known phase by phase. -/
theorem awp_drawP {P : Program} {N : Nat} {Q : Exit → AFr → AH → Prop} {fr : AFr} {H : AH} {id : Nat} {l : List Oper} (Rs : List (AH → Prop)) (order : List (Nat × Option Nat)) (Fs : List Nat) {hl : List Nat} (hm : P.follows .mixedOrders = true) (hd : dstsOk N l = true)
    (hok : (Region.noSelect l.toArray && order.length == l.length && phase Fs (Array.replicate l.length false) == 0 && drawOkP .any l.toArray Fs order 0 (Array.replicate l.length false)) = true) (hR : rofP Rs 0 H)
    (h : DOpsP P l.toArray hl (Q .normal) (order.map fun p => (l.toArray[p.1]?, p.2)) Rs fr H) : AWp P N (.region id l.toArray true) Q fr H := fun ds w0 ι a w QC hs hQ => by
  simp only [Bool.and_eq_true, beq_iff_eq] at hok
  obtain ⟨⟨⟨h1, h2⟩, h4⟩, h3⟩ := hok
  have hdr : ∀ (i : Nat) (o : Oper), l.toArray[i]? = some o → ∀ d, o.dst = some d → d < N := fun i o ho => dstsOk_spec hd o (List.mem_of_getElem? (by simpa using ho))
  obtain ⟨k0, k2⟩ := hs.rep.drew
  have k1 : St w0 ι N ds fr H a w.drew := ⟨k0, hs.fr, hs.size, hs.defers⟩
  refine wp_mono (Q := onlyN QC) (wp_region_I (S := HeldP w0 ι H Fs Rs 0 (quietL (order.map fun p => (l.toArray[p.1]?, p.2))) { w with drawn := w.drawn + 1 }) hm ?_) (fun e a w hh => hh.1 ▸ hh.2)
  have := DOpsP_sound (P := P) (hl := hl) (md := .any) (QC := QC) (Fs := Fs) (Rs := Rs) h1 hdr (fun fr' H' ι' a' w' g1 g2 g3 => hQ .normal fr' H' ι' a' w' g1 g2 g3) order 0 _ fr H a { w with drawn := w.drawn + 1 } ι h3 h4 (by simpa using h) k1 hR k2
  rw [h2] at this
  simpa using this

/-! what was written to, forgotten and told again -/
def AH.clr (H : AH) : AH := ⟨H.ro, H.rw, fun _ => False⟩
def AH.also (H : AH) (X : Nat → Prop) : AH := ⟨H.ro, H.rw, fun j => H.wr j ∨ X j⟩
theorem clr_n (H : AH) : H.clr.n = H.n := nr rfl
theorem also_n (H : AH) (X : Nat → Prop) : (H.also X).n = H.n := nr rfl
theorem clr_cells (H : AH) (i : Nat) : H.clr.cells? i = H.cells? i := nr rfl
theorem also_cells (H : AH) (X : Nat → Prop) (i : Nat) : (H.also X).cells? i = H.cells? i := nr rfl
theorem clr_also (H : AH) : H.clr.also H.wr = H := by
  cases H; simp only [AH.clr, AH.also, false_or]
theorem also_push (H : AH) (b : Option ABlk) (X : Nat → Prop) : (H.push b).also X = (H.also X).push b := by
  simp only [AH.push, AH.also, or_assoc]
theorem also_set (H : AH) (i : Nat) (b : Option ABlk) (X : Nat → Prop) : (H.set i b).also X = (H.also X).set i b := by
  simp only [AH.set, AH.also, or_assoc]
theorem clr_wr (H : AH) (i : Nat) : H.clr.wr i = False := nr rfl
theorem push_wr (H : AH) (b : Option ABlk) (i : Nat) : (H.push b).wr i = (i = H.n ∨ H.wr i) := nr rfl
theorem set_wr (H : AH) (j : Nat) (b : Option ABlk) (i : Nat) : (H.set j b).wr i = (i = j ∨ H.wr i) := nr rfl
/-- The same, where reads may float over calls that leave their blocks alone. -/
theorem awp_drawH {P : Program} {N : Nat} {Q : Exit → AFr → AH → Prop} {fr : AFr} {H : AH} {id : Nat} {l : List Oper} (hl : List Nat) (Rs : List (AH → Prop)) (order : List (Nat × Option Nat)) (Fs : List Nat) (hm : P.follows .mixedOrders = true) (hd : dstsOk N l = true)
    (hok : (Region.noSelect l.toArray && order.length == l.length && phase Fs (Array.replicate l.length false) == 0 && drawOkP .any l.toArray Fs order 0 (Array.replicate l.length false)) = true) (hR : rofP Rs 0 H.clr)
    (h : DOpsP P l.toArray hl (fun fr' H' => Q .normal fr' (H'.also H.wr)) (order.map fun p => (l.toArray[p.1]?, p.2)) Rs fr H.clr) : AWp P N (.region id l.toArray true) Q fr H := fun ds w0 ι a w QC hs hQ =>
  awp_drawP (Q := fun e fr' H' => e = .normal ∧ Q .normal fr' (H'.also H.wr)) Rs order Fs hm hd hok hR (by simpa using h) ds w0 ι a w QC ⟨hs.rep.more _, hs.fr, hs.size, hs.defers⟩ fun e fr' H' ι' a' w' ⟨g0, g1⟩ g2 g3 => by
    subst g0
    refine hQ .normal fr' _ ι' a' w' g1 ⟨g2.rep.more _, g2.fr, g2.size, g2.defers⟩ ?_
    exact ⟨g3.ro, g3.len, g3.loc, g3.pend, g3.size, g3.frame, g3.img, fun i hi => .inr hi, fun i B O m hi hB hn => g3.still i B O m hi hB fun e => hn (.inl e)⟩

/-! for simp -/
def roV : AV → Bool
  | .ptr p => p.ro
  | _ => false
theorem roV_ptr {p : AAddr} : roV (.ptr p) = p.ro := nr rfl
theorem roV_c {v v' : AV} (h : mark v = v') : roV v = roV v' := by rw [← h, mark_eq]
theorem quietL_nil : quietL [] = 0 := rfl
theorem quietL_free {o : Oper} {n : Nat} {l : List (Option Oper × Option Nat)} : quietL ((some o, some n) :: l) = quietL l := nr rfl
theorem quietL_none {d : Option Tmp} {op : Op} {ty : TypeId} {ps : String} {af : Array Edge} {l : List (Option Oper × Option Nat)} : quietL ((some ⟨d, op, ty, ps, af, none⟩, none) :: l) = if allocOp op = true then quietL l + 1 else 0 := by simp [quietL]
theorem quietL_grd {d : Option Tmp} {op : Op} {ty : TypeId} {ps : String} {af : Array Edge} {g : Nat × Bool} {l : List (Option Oper × Option Nat)} : quietL ((some ⟨d, op, ty, ps, af, some g⟩, none) :: l) = 0 := by simp [quietL]
theorem le_le0 {n : Nat} : (n + 1 ≤ 0) = False := by simp
theorem le_sle {n m : Nat} : (n + 1 ≤ m + 1) = (n ≤ m) := by simp
theorem le_0l {m : Nat} : (0 ≤ m) = True := by simp
def rigP (Rs : List (AH → Prop)) (n : Nat) (H : AH) (v : AV) : Prop := n = 0 ∨ (rigidA H v = true ∧ allP (fun K => rigidA K v = true) ((Rs.drop 1).take n))
def sameP (Rs : List (AH → Prop)) (n : Nat) (H : AH) (f : AH → Option (AV × AH)) (v : AV) : Prop := n = 0 ∨ (rigidA H v = true ∧ allP (fun K => f K = some (v, K) ∧ rigidA K v = true) ((Rs.drop 1).take n))
theorem sameP_c {Rs : List (AH → Prop)} {n : Nat} {H : AH} {f : AH → Option (AV × AH)} {v v' : AV} (h : mark v = v') : sameP Rs n H f v = sameP Rs n H f v' := by rw [← h, mark_eq]
theorem rigP_c {Rs : List (AH → Prop)} {n : Nat} {H : AH} {v v' : AV} (h : mark v = v') : rigP Rs n H v = rigP Rs n H v' := by rw [← h, mark_eq]
theorem allP_triv {φ : AH → Prop} (h : ∀ K, φ K) : ∀ l, allP φ l
  | [] => trivial
  | R :: l => ⟨fun K _ => h K, allP_triv h l⟩
section
variable {P : Program} {ops : Array Oper} {hs : List Nat} {Rs : List (AH → Prop)} {n : Nat} {Q : AFr → AH → Prop} {rest : List (Option Oper × Option Nat)} {fr : AFr} {H : AH} {ty : TypeId} {ps : String} {af : Array Edge} {d : Tmp}

theorem rigP_int {k : IntKind} {i : Int} : rigP Rs n H (.int k i) = True := eq_true (.inr ⟨rfl, allP_triv (fun _ => rfl) _⟩)
theorem rigP_bool {b : Bool} : rigP Rs n H (.bool b) = True := eq_true (.inr ⟨rfl, allP_triv (fun _ => rfl) _⟩)
theorem rigP_bv {b : UInt8} : rigP Rs n H (bv b) = True := rigP_int
theorem rigP_str {b : ByteArray} : rigP Rs n H (.str b) = True := eq_true (.inr ⟨rfl, allP_triv (fun _ => rfl) _⟩)
theorem rigP_nilptr : rigP Rs n H .nilptr = True := eq_true (.inr ⟨rfl, allP_triv (fun _ => rfl) _⟩)
theorem rigP_nilslice : rigP Rs n H .nilslice = True := eq_true (.inr ⟨rfl, allP_triv (fun _ => rfl) _⟩)
theorem rigP_ro {b o : Nat} : rigP Rs n H (.ptr ⟨true, b, o⟩) = True := eq_true (.inr ⟨rfl, allP_triv (fun _ => rfl) _⟩)
theorem rigP_z {v : AV} : rigP Rs 0 H v = True := eq_true (.inl rfl)
theorem sameP_z {f : AH → Option (AV × AH)} {v : AV} : sameP Rs 0 H f v = True := eq_true (.inl rfl)
theorem rigP_0 {R0 : AH → Prop} {X : AH} {l : List (AH → Prop)} {v : AV} : rigP (R0 :: eqM X :: l) 1 H v = (rigidA H v = true ∧ rigidA X v = true) := by
  simp only [rigP, List.drop_succ_cons, List.drop_zero, List.take_succ_cons, List.take_zero, allP, eqM, and_true, Nat.succ_ne_zero, false_or]
  exact propext ⟨fun ⟨h1, h2⟩ => ⟨h1, h2 X rfl⟩, fun ⟨h1, h2⟩ => ⟨h1, fun K e => by rw [e]; exact h2⟩⟩
theorem rigP_s {R0 : AH → Prop} {X : AH} {l : List (AH → Prop)} {v : AV} : rigP (R0 :: eqM X :: l) (n + 2) H v = (rigidA X v = true ∧ rigP (eqM X :: l) (n + 1) H v) := by
  simp only [rigP, List.drop_succ_cons, List.drop_zero, List.take_succ_cons, allP, eqM, Nat.succ_ne_zero, false_or]
  exact propext ⟨fun ⟨h1, h2, h3⟩ => ⟨h2 X rfl, h1, h3⟩, fun ⟨h2, h1, h3⟩ => ⟨h1, fun K e => by rw [e]; exact h2, h3⟩⟩
theorem sameP_0 {R0 : AH → Prop} {X : AH} {l : List (AH → Prop)} {f : AH → Option (AV × AH)} {v : AV} : sameP (R0 :: eqM X :: l) 1 H f v = (rigidA H v = true ∧ f X = some (v, X) ∧ rigidA X v = true) := by
  simp only [sameP, List.drop_succ_cons, List.drop_zero, List.take_succ_cons, List.take_zero, allP, eqM, and_true, Nat.succ_ne_zero, false_or]
  exact propext ⟨fun ⟨h1, h2⟩ => ⟨h1, h2 X rfl⟩, fun ⟨h1, h2⟩ => ⟨h1, fun K e => by rw [e]; exact h2⟩⟩
theorem sameP_s {R0 : AH → Prop} {X : AH} {l : List (AH → Prop)} {f : AH → Option (AV × AH)} {v : AV} : sameP (R0 :: eqM X :: l) (n + 2) H f v = ((f X = some (v, X) ∧ rigidA X v = true) ∧ sameP (eqM X :: l) (n + 1) H f v) := by
  simp only [sameP, List.drop_succ_cons, List.drop_zero, List.take_succ_cons, allP, eqM, Nat.succ_ne_zero, false_or]
  exact propext ⟨fun ⟨h1, h2, h3⟩ => ⟨h2 X rfl, h1, h3⟩, fun ⟨h2, h1, h3⟩ => ⟨h1, fun K e => by rw [e]; exact h2, h3⟩⟩

/-- Whatever is known of the next phase (given by hand: it takes in 'eqM' too). -/
theorem sameP_g {R0 R1 : AH → Prop} {l : List (AH → Prop)} {f : AH → Option (AV × AH)} {v : AV} : sameP (R0 :: R1 :: l) 1 H f v = (rigidA H v = true ∧ ∀ K, R1 K → f K = some (v, K) ∧ rigidA K v = true) := by
  simp only [sameP, List.drop_succ_cons, List.drop_zero, List.take_succ_cons, List.take_zero, allP, and_true, Nat.succ_ne_zero, false_or]
theorem rigP_g {R0 R1 : AH → Prop} {l : List (AH → Prop)} {v : AV} : rigP (R0 :: R1 :: l) 1 H v = (rigidA H v = true ∧ ∀ K, R1 K → rigidA K v = true) := by
  simp only [rigP, List.drop_succ_cons, List.drop_zero, List.take_succ_cons, List.take_zero, allP, and_true, Nat.succ_ne_zero, false_or]
theorem DP_nil : DOpsP P ops hs Q [] Rs fr H = Q fr H := nr rfl
theorem DP_none {o : Oper} {R0 R1 : AH → Prop} {l : List (AH → Prop)} : DOpsP P ops hs Q ((some o, none) :: rest) (R0 :: R1 :: l) fr H = AOps P ops (fun fr' H' => R1 H' ∧ DOpsP P ops hs Q rest (R1 :: l) fr' H') [o] fr H := nr rfl
theorem DP_grd {d : Option Tmp} {op : Op} {j : Nat} {want : Bool} :
    DOpsP P ops hs Q ((some ⟨d, op, ty, ps, af, some (j, want)⟩, some n) :: rest) Rs fr H = ifG (gval (gdst ops j) fr want) (DOpsP P ops hs Q rest Rs (putA fr d (.tup [])) H) (DOpsP P ops hs Q ((some ⟨d, op, ty, ps, af, none⟩, some n) :: rest) Rs fr H) := by
  simp only [DOpsP, guardA, ifG]
  unfold gdst gval
  cases (ops[j]?).bind (·.dst) <;> rfl
theorem DP_plain {op : Op} : DOpsP P ops hs Q ((some ⟨some d, op, ty, ps, af, none⟩, some n) :: rest) Rs fr H = opThen (opA P fr H op) fun v _ => StillP P (heldD hs (some d)) Rs n (quietL rest) fr H op v ∧ DOpsP P ops hs Q rest Rs (lput fr d v) H := by
  simp only [DOpsP, guardA, ifG, putA]
theorem DP_move {x : Operand} : DOpsP P ops hs Q ((some ⟨some d, .move x, ty, ps, af, none⟩, some n) :: rest) Rs fr H = DOpsP P ops hs Q rest Rs (lput fr d (aeval fr x)) H := by
  rw [DP_plain]; simp [opA, opThen, StillP, copyOp]
theorem DP_assign {x : Operand} : DOpsP P ops hs Q ((some ⟨some d, .assign x, ty, ps, af, none⟩, some n) :: rest) Rs fr H = DOpsP P ops hs Q rest Rs (lput fr d (aeval fr x)) H := by
  rw [DP_plain]; simp [opA, opThen, StillP, copyOp]
theorem stillP_copy {b : Bool} {q : Nat} {op : Op} {v : AV} (h : copyOp op = true) : StillP P b Rs n q fr H op v = True := by simp [StillP, h]
theorem DP_pick {c x y : Operand} : DOpsP P ops hs Q ((some ⟨some d, .pick c x y, ty, ps, af, none⟩, some n) :: rest) Rs fr H = opThen (match aeval fr c with | .bool t => some (if t then aeval fr x else aeval fr y, H) | _ => none) fun v _ => DOpsP P ops hs Q rest Rs (lput fr d v) H := by
  rw [DP_plain]; simp only [stillP_copy (show copyOp (.pick c x y) = true from rfl), true_and, opA]; rfl
theorem DP_nilCheck {x : Operand} : DOpsP P ops hs Q ((some ⟨some d, .nilCheck x, ty, ps, af, none⟩, some n) :: rest) Rs fr H = opThen (match aeval fr x with | .ptr p => some (.ptr p, H) | .func f l => some (.func f l, H) | _ => none) fun v _ => DOpsP P ops hs Q rest Rs (lput fr d v) H := by
  rw [DP_plain]; simp only [stillP_copy (show copyOp (.nilCheck x) = true from rfl), true_and, opA]; rfl
theorem DP_extract {x : Operand} {m : Nat} : DOpsP P ops hs Q ((some ⟨some d, .extract x m, ty, ps, af, none⟩, some n) :: rest) Rs fr H = opThen (match aeval fr x with | .tup l => (l[m]?).map fun v => (v, H) | _ => none) fun v _ => DOpsP P ops hs Q rest Rs (lput fr d v) H := by
  rw [DP_plain]; simp only [stillP_copy (show copyOp (.extract x m) = true from rfl), true_and, opA]; rfl
theorem DP_slice {t : TypeId} {x : Operand} {lo hi mx : Option Operand} : DOpsP P ops hs Q ((some ⟨some d, .slice t x lo hi mx, ty, ps, af, none⟩, some n) :: rest) Rs fr H = opThen ((sliceOpA P t (aeval fr x) (lo.map (aeval fr)) (hi.map (aeval fr)) (mx.map (aeval fr))).map fun v => (v, H)) fun v _ => DOpsP P ops hs Q rest Rs (lput fr d v) H := by
  rw [DP_plain]; simp only [stillP_copy (show copyOp (.slice t x lo hi mx) = true from rfl), true_and, opA]
theorem DP_buildP {t : TypeId} {q : List (Nat × Operand)} : DOpsP P ops hs Q ((some ⟨some d, .build t q.toArray, ty, ps, af, none⟩, some n) :: rest) Rs fr H = opThen ((buildA P t (partsA fr q)).map fun v => (v, H)) fun v _ => DOpsP P ops hs Q rest Rs (lput fr d v) H := by
  rw [DP_plain]; simp only [stillP_copy (show copyOp (.build t q.toArray) = true from rfl), true_and, opA, ← partsA_eq, mark_eq]

def heldV (Rs : List (AH → Prop)) (n : Nat) (x : AV) : Prop := n = 0 ∨ match x with
  | .ptr p => p.ro = false ∧ allP (fun K => ¬ K.wr p.blk) ((Rs.drop 1).take n)
  | _ => False
def ldP (b : Bool) (Rs : List (AH → Prop)) (n : Nat) (H : AH) (f : AH → Option (AV × AH)) (x v : AV) : Prop := if b then heldV Rs n x else sameP Rs n H f v
theorem ldP_f {f : AH → Option (AV × AH)} {x v : AV} : ldP false Rs n H f x v = sameP Rs n H f v := nr rfl
theorem ldP_t {f : AH → Option (AV × AH)} {x v : AV} : ldP true Rs n H f x v = heldV Rs n x := nr rfl
theorem ldP_c {b b' : Bool} {f : AH → Option (AV × AH)} {x v : AV} (h : mark b = b') : ldP b Rs n H f x v = ldP b' Rs n H f x v := by rw [← h, mark_eq]
theorem heldD_nil {d : Tmp} : heldD [] (some d) = false := nr rfl
theorem heldD_cons {h d : Nat} {l : List Nat} : heldD (h :: l) (some d) = if d = h then true else heldD l (some d) := nr rfl
theorem heldV_c {x x' : AV} (h : mark x = x') : heldV Rs n x = heldV Rs n x' := by rw [← h, mark_eq]
theorem heldV_z {x : AV} : heldV Rs 0 x = True := eq_true (.inl rfl)
theorem heldV_1 {R0 R1 : AH → Prop} {l : List (AH → Prop)} {i o : Nat} : heldV (R0 :: R1 :: l) 1 (.ptr ⟨false, i, o⟩) = ∀ K, R1 K → ¬ K.wr i := by
  simp only [heldV, List.drop_succ_cons, List.drop_zero, List.take_succ_cons, List.take_zero, allP, and_true, Nat.succ_ne_zero, false_or, true_and]
theorem heldV_01 {R0 R1 : AH → Prop} {l : List (AH → Prop)} {i o : Nat} : heldV (R0 :: R1 :: l) (0 + 1) (.ptr ⟨false, i, o⟩) = ∀ K, R1 K → ¬ K.wr i := heldV_1
theorem heldV_s {R0 R1 : AH → Prop} {l : List (AH → Prop)} {i o : Nat} : heldV (R0 :: R1 :: l) (n + 2) (.ptr ⟨false, i, o⟩) = ((∀ K, R1 K → ¬ K.wr i) ∧ heldV (R1 :: l) (n + 1) (.ptr ⟨false, i, o⟩)) := by
  simp only [heldV, List.drop_succ_cons, List.drop_zero, List.take_succ_cons, allP, Nat.succ_ne_zero, false_or, true_and]
theorem DP_pure {op : Op} (f : Option AV) (h0 : isLoad op = false) (h1 : copyOp op = false) (h2 : stillOp op = true) (h3 : ∀ v, convOk op v = true) (hf : ∀ H, opA P fr H op = f.map fun v => (v, H)) :
    DOpsP P ops hs Q ((some ⟨some d, op, ty, ps, af, none⟩, some n) :: rest) Rs fr H = opThen (f.map fun v => (v, H)) fun v _ => rigP Rs n H v ∧ DOpsP P ops hs Q rest Rs (lput fr d v) H := by
  rw [DP_plain, hf H]
  cases f with
  | none => rfl
  | some v =>
    have e : loadOf fr op = none := by cases op <;> first | rfl | (simp [isLoad] at h0)
    simp only [Option.map_some, opThen, StillP, h0, h1, h2, h3, e, Bool.false_eq_true, false_or, true_and, false_and, rigP, hf, Option.map_some, reduceCtorEq, exists_false, and_false, Bool.and_false]
theorem DP_binOp {op : BinOp} {t t2 : TypeId} {x y : Operand} : DOpsP P ops hs Q ((some ⟨some d, .binOp op t x y t2, ty, ps, af, none⟩, some n) :: rest) Rs fr H = opThen ((binA P op t (aeval fr x) (aeval fr y)).map fun v => (v, H)) fun v _ => rigP Rs n H v ∧ DOpsP P ops hs Q rest Rs (lput fr d v) H := DP_pure _ rfl rfl rfl (fun _ => rfl) fun _ => rfl
theorem DP_unOp {op : UnOp} {t : TypeId} {x : Operand} : DOpsP P ops hs Q ((some ⟨some d, .unOp op t x, ty, ps, af, none⟩, some n) :: rest) Rs fr H = opThen ((unA op (aeval fr x)).map fun v => (v, H)) fun v _ => rigP Rs n H v ∧ DOpsP P ops hs Q rest Rs (lput fr d v) H := DP_pure _ rfl rfl rfl (fun _ => rfl) fun _ => rfl
theorem DP_fieldAddr {t : TypeId} {x : Operand} {f : Nat} : DOpsP P ops hs Q ((some ⟨some d, .fieldAddr t x f, ty, ps, af, none⟩, some n) :: rest) Rs fr H = opThen ((fieldAddrA P t (aeval fr x) f).map fun v => (v, H)) fun v _ => rigP Rs n H v ∧ DOpsP P ops hs Q rest Rs (lput fr d v) H := DP_pure _ rfl rfl rfl (fun _ => rfl) fun _ => rfl
theorem DP_field {t : TypeId} {x : Operand} {f : Nat} : DOpsP P ops hs Q ((some ⟨some d, .field t x f, ty, ps, af, none⟩, some n) :: rest) Rs fr H = opThen ((fieldA P t (aeval fr x) f).map fun v => (v, H)) fun v _ => rigP Rs n H v ∧ DOpsP P ops hs Q rest Rs (lput fr d v) H := DP_pure _ rfl rfl rfl (fun _ => rfl) fun _ => rfl
theorem DP_indexAddr {t : TypeId} {x y : Operand} : DOpsP P ops hs Q ((some ⟨some d, .indexAddr t x y, ty, ps, af, none⟩, some n) :: rest) Rs fr H = opThen ((indexAddrA P t (aeval fr x) (aeval fr y)).map fun v => (v, H)) fun v _ => rigP Rs n H v ∧ DOpsP P ops hs Q rest Rs (lput fr d v) H := DP_pure _ rfl rfl rfl (fun _ => rfl) fun _ => rfl
theorem DP_index {t : TypeId} {x y : Operand} : DOpsP P ops hs Q ((some ⟨some d, .index t x y, ty, ps, af, none⟩, some n) :: rest) Rs fr H = opThen ((indexA P t (aeval fr x) (aeval fr y)).map fun v => (v, H)) fun v _ => rigP Rs n H v ∧ DOpsP P ops hs Q rest Rs (lput fr d v) H := DP_pure _ rfl rfl rfl (fun _ => rfl) fun _ => rfl
theorem DP_len {t : TypeId} {x : Operand} : DOpsP P ops hs Q ((some ⟨some d, .call ⟨.builtin .len, #[x], #[t]⟩, ty, ps, af, none⟩, some n) :: rest) Rs fr H = opThen ((lenA P t (aeval fr x)).map fun v => (v, H)) fun v _ => rigP Rs n H v ∧ DOpsP P ops hs Q rest Rs (lput fr d v) H := DP_pure _ rfl rfl rfl (fun _ => rfl) fun _ => rfl
theorem DP_min {ts : Array TypeId} {x y : Operand} : DOpsP P ops hs Q ((some ⟨some d, .call ⟨.builtin .min, #[x, y], ts⟩, ty, ps, af, none⟩, some n) :: rest) Rs fr H = opThen ((foldA min2A (aeval fr x) [aeval fr y]).map fun v => (v, H)) fun v _ => rigP Rs n H v ∧ DOpsP P ops hs Q rest Rs (lput fr d v) H := DP_pure _ rfl rfl rfl (fun _ => rfl) fun _ => rfl
theorem DP_max {ts : Array TypeId} {x y : Operand} : DOpsP P ops hs Q ((some ⟨some d, .call ⟨.builtin .max, #[x, y], ts⟩, ty, ps, af, none⟩, some n) :: rest) Rs fr H = opThen ((foldA max2A (aeval fr x) [aeval fr y]).map fun v => (v, H)) fun v _ => rigP Rs n H v ∧ DOpsP P ops hs Q rest Rs (lput fr d v) H := DP_pure _ rfl rfl rfl (fun _ => rfl) fun _ => rfl
theorem DP_load {t : TypeId} {x : Operand} : DOpsP P ops hs Q ((some ⟨some d, .load t x, ty, ps, af, none⟩, some n) :: rest) Rs fr H = opThen (match aeval fr x with | .ptr p => (loadA P t p H).map fun v => (v, H) | _ => none) fun v _ => (n ≤ quietL rest ∨ roV (aeval fr x) = true ∨ ldP (heldD hs (some d)) Rs n H (fun H' => opA P fr H' (.load t x)) (aeval fr x) v) ∧ DOpsP P ops hs Q rest Rs (lput fr d v) H := by
  rw [DP_plain]
  have : ∀ v, StillP P (heldD hs (some d)) Rs n (quietL rest) fr H (.load t x) v = (n ≤ quietL rest ∨ roV (aeval fr x) = true ∨ ldP (heldD hs (some d)) Rs n H (fun H' => opA P fr H' (.load t x)) (aeval fr x) v) := fun v => by
    have e : loadRo fr (.load t x) = roV (aeval fr x) := by simp only [loadRo, roV]
    have e2 : (∃ i, loadOf fr (.load t x) = some i ∧ allP (fun K => ¬ K.wr i) ((Rs.drop 1).take n)) = (match aeval fr x with | .ptr p => p.ro = false ∧ allP (fun K => ¬ K.wr p.blk) ((Rs.drop 1).take n) | _ => False) := by
      simp only [loadOf]
      cases aeval fr x with
      | ptr p =>
        simp only
        cases p.ro with
        | true => simp
        | false => simp
      | _ => simp
    simp only [StillP, copyOp, stillOp, convOk, isLoad, e, e2, Bool.false_eq_true, false_or, true_and, sameP, ldP, heldV, Bool.and_true]
    apply propext
    cases heldD hs (some d) with
    | false =>
      simp only [Bool.false_eq_true, if_false, false_and, true_and, false_or, reduceCtorEq]
      constructor
      · rintro (h | (h | h) | h)
        · exact .inl (by omega)
        · exact .inl h
        · exact .inr (.inl h)
        · exact .inr (.inr (.inr h))
      · rintro (h | h | h | h)
        · exact .inr (.inl (.inl h))
        · exact .inr (.inl (.inr h))
        · exact .inl h
        · exact .inr (.inr h)
    | true =>
      simp only [if_true, true_and, reduceCtorEq, false_and, or_false]
      constructor
      · rintro (h | (h | h) | h)
        · exact .inl (by omega)
        · exact .inl h
        · exact .inr (.inl h)
        · exact .inr (.inr (.inr h))
      · rintro (h | h | h | h)
        · exact .inr (.inl (.inl h))
        · exact .inr (.inl (.inr h))
        · exact .inl h
        · exact .inr (.inr h)
  simp only [this]
  rfl
theorem DP_convert {t t2 : TypeId} {x : Operand} : DOpsP P ops hs Q ((some ⟨some d, .convert t t2 x, ty, ps, af, none⟩, some n) :: rest) Rs fr H = opThen (convertA P t t2 (aeval fr x) H) fun v _ => (convOk (.convert t t2 x) v = true ∧ sameP Rs n H (fun H' => convertA P t t2 (aeval fr x) H') v) ∧ DOpsP P ops hs Q rest Rs (lput fr d v) H := by
  rw [DP_plain]
  have : ∀ v, StillP P (heldD hs (some d)) Rs n (quietL rest) fr H (.convert t t2 x) v = (convOk (.convert t t2 x) v = true ∧ sameP Rs n H (fun H' => convertA P t t2 (aeval fr x) H') v) := fun v => by
    have e : loadOf fr (.convert t t2 x) = none := rfl
    simp only [StillP, copyOp, stillOp, isLoad, e, Bool.false_eq_true, false_or, true_and, false_and, sameP, opA, reduceCtorEq, exists_false, and_false, Bool.and_false]
  simp only [this]
  rfl
theorem DOpsP_c {l : List (Option Oper × Option Nat)} {fr' : AFr} {H' : AH} (h1 : mark fr = fr') (h2 : mark H = H') : DOpsP P ops hs Q l Rs fr H = DOpsP P ops hs Q l Rs fr' H' := by rw [← h1, ← h2, mark_eq, mark_eq]
end
theorem eqM_self {X : AH} : eqM X X = True := eq_true rfl
theorem eqM_def {X K : AH} : eqM X K = (K = X) := rfl
theorem rofP_0 {R : AH → Prop} {l : List (AH → Prop)} {H : AH} (h : R H) : rofP (R :: l) 0 H := ⟨R, rfl, h⟩

theorem get_live {H : AH} {a : AAddr} {l : List AV} (h : H.get a = some l) : (a.ro || (H.cells? a.blk).isSome) = true := by
  unfold AH.get at h
  cases hr : a.ro with
  | true => rfl
  | false => rw [hr] at h; simp only [Bool.false_eq_true, if_false] at h; simp [h]
theorem Row.live {H : AH} {sz : Nat} {v : AV} {n : Nat} {cs : List AV} (h : Row H sz v n cs) {i : Nat} (hi : i < n) : ((eltA v i sz).ro || (H.cells? (eltA v i sz).blk).isSome) = true := by
  rcases h.elim with ⟨rfl, rfl, _⟩ | ⟨a, c, l, rfl, hg, hb, rfl⟩
  · omega
  · have := get_live hg
    exact this
theorem IsBytes.live {H : AH} {v : AV} {xs : List UInt8} (h : IsBytes H v xs) {i : Nat} (hi : i < xs.length) : ((eltA v i 1).ro || (H.cells? (eltA v i 1).blk).isSome) = true := h.toRow.live hi
attribute [go_sem] roV_ptr quietL_nil quietL_free quietL_none quietL_grd allocOp le_le0 le_sle le_0l true_or or_true false_or or_false DP_nilCheck
attribute [congr] roV_c
theorem rigP_01 {R0 : AH → Prop} {X H : AH} {l : List (AH → Prop)} {v : AV} : rigP (R0 :: eqM X :: l) (0 + 1) H v = (rigidA H v = true ∧ rigidA X v = true) := rigP_0
theorem sameP_01 {R0 : AH → Prop} {X H : AH} {l : List (AH → Prop)} {f : AH → Option (AV × AH)} {v : AV} : sameP (R0 :: eqM X :: l) (0 + 1) H f v = (rigidA H v = true ∧ f X = some (v, X) ∧ rigidA X v = true) := sameP_0
theorem rigP_gs {R0 R1 : AH → Prop} {H : AH} {n : Nat} {l : List (AH → Prop)} {v : AV} : rigP (R0 :: R1 :: l) (n + 2) H v = ((∀ K, R1 K → rigidA K v = true) ∧ rigP (R1 :: l) (n + 1) H v) := by
  simp only [rigP, List.drop_succ_cons, List.drop_zero, List.take_succ_cons, allP, Nat.succ_ne_zero, false_or]
  apply propext
  constructor
  · rintro ⟨h1, h2, h3⟩; exact ⟨h2, h1, h3⟩
  · rintro ⟨h2, h1, h3⟩; exact ⟨h1, h2, h3⟩
theorem sameP_gs {R0 R1 : AH → Prop} {H : AH} {n : Nat} {l : List (AH → Prop)} {f : AH → Option (AV × AH)} {v : AV} : sameP (R0 :: R1 :: l) (n + 2) H f v = ((∀ K, R1 K → f K = some (v, K) ∧ rigidA K v = true) ∧ sameP (R1 :: l) (n + 1) H f v) := by
  simp only [sameP, List.drop_succ_cons, List.drop_zero, List.take_succ_cons, allP, Nat.succ_ne_zero, false_or]
  apply propext
  constructor
  · rintro ⟨h1, h2, h3⟩; exact ⟨h2, h1, h3⟩
  · rintro ⟨h2, h1, h3⟩; exact ⟨h1, h2, h3⟩
theorem rigP_g1 {R0 R1 : AH → Prop} {H : AH} {l : List (AH → Prop)} {v : AV} : rigP (R0 :: R1 :: l) (0 + 1) H v = (rigidA H v = true ∧ ∀ K, R1 K → rigidA K v = true) := rigP_g
theorem sameP_g1 {R0 R1 : AH → Prop} {H : AH} {l : List (AH → Prop)} {f : AH → Option (AV × AH)} {v : AV} : sameP (R0 :: R1 :: l) (0 + 1) H f v = (rigidA H v = true ∧ ∀ K, R1 K → f K = some (v, K) ∧ rigidA K v = true) := sameP_g
attribute [go_sem] rigP_z sameP_z rigP_01 sameP_01 rigP_int rigP_bool rigP_bv rigP_str rigP_nilptr rigP_nilslice rigP_ro rigP_0 rigP_s sameP_0 sameP_s DP_nil DP_none DP_grd DP_move DP_assign DP_pick DP_extract DP_slice DP_buildP DP_binOp DP_unOp DP_fieldAddr DP_field DP_indexAddr DP_index DP_len DP_min DP_max DP_load DP_convert eqM_self
/-! calls that leave all that there is as it is -/
theorem Grew.unwr {H K : AH} (g : Grew H.clr K) {i : Nat} (hi : i < H.n) : ¬ K.wr i := fun h => (g.wr i h).elim id fun h => absurd h (by rw [clr_n]; omega)
theorem gq_wr {H : AH} {i : Nat} (hi : i < H.n) : (∀ K, Grew H.clr K → ¬ K.wr i) = True := eq_true fun K g => g.unwr hi
theorem gq_live {H : AH} {i : Nat} (hi : (H.cells? i).isSome = true) : (∀ K, Grew H.clr K → (K.cells? i).isSome = true) = True := eq_true fun K g => by
  obtain ⟨l, hl⟩ := Option.isSome_iff_exists.1 hi
  rw [g.cells_some (i := i) (l := l) (by rw [clr_cells]; exact hl)]; rfl
theorem Grew.clr {H H' : AH} (h : Grew H H') : Grew H.clr H'.clr := ⟨h.ro, h.n, h.old, fun _ h => h.elim⟩
theorem Grew.also {H H' : AH} (h : Grew H.clr H') : Grew H (H'.also H.wr) := ⟨h.ro, h.n, h.old, fun i hi => hi.elim (fun e => (h.wr i e).elim False.elim .inr) .inl⟩
theorem Grew.also0 {H0 H H' : AH} (g : Grew H0 H) (h : Grew H.clr H') : Grew H0 (H'.also H.wr) := g.trans h.also
theorem cells_clr {H : AH} {i : Nat} {l : List AV} (h : H.cells? i = some l) : H.clr.cells? i = some l := h
theorem Row.clr {H : AH} {sz : Nat} {v : AV} {n : Nat} {cs : List AV} (h : Row H sz v n cs) : Row H.clr sz v n cs := ⟨h.row, h.len, h.sl⟩
theorem IsBytes.clr {H : AH} {v : AV} {xs : List UInt8} (h : IsBytes H v xs) : IsBytes H.clr v xs := ⟨h.row, h.len, h.sl⟩
theorem IsBytes.also {H : AH} {X : Nat → Prop} {v : AV} {xs : List UInt8} (h : IsBytes H v xs) : IsBytes (H.also X) v xs := ⟨h.row, h.len, h.sl⟩
attribute [go_sem] gq_wr gq_live
attribute [go_sem] ldP_f ldP_t heldD_nil heldD_cons heldV_z heldV_1 heldV_01 heldV_s clr_n also_n clr_cells also_cells clr_also also_push also_set clr_wr push_wr set_wr
attribute [congr] DOpsP_c sameP_c rigP_c ldP_c heldV_c

end Go.Abs
