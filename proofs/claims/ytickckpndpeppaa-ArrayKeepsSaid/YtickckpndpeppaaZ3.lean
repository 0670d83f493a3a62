/- The library of the walks, part 3. -/
import Derived.Test.YtickckpndpeppaaZ2
import Derived.Lib.MakeNoZero
import Derived.Laws.Externs
/- Regions that draw their order, phase by phase: what is known of the memory may hang on how far the region has come. -/
set_option linter.unusedVariables false
set_option linter.unusedSimpArgs false
namespace Go.Abs
open Go Go.RowKit

section
variable {P : Program} {w0 w : World} {ι : List Loc} {H : AH}
theorem cell_same {w w' : World} {ad : Addr} (h : SameB w w' ad.block) (j : Nat) : w'.cell? (ad.add j) = w.cell? (ad.add j) :=
  h _ (by unfold Addr.add; split <;> rfl)
/-- A read gives the same wherever its block stands as it was. -/
theorem load_stable (h : Rep w0 ι H w) {t : TypeId} {a : AAddr} {v : AV} (hl : loadA P t a H = some v) {p : Value} (hp : RPtr w0.heap.size ι a p) :
    ∃ x B, RV w0.heap.size ι v x ∧ B < w.heap.size ∧ (a.ro = true → B < w0.heap.size) ∧ (a.ro = false → ∃ O m, ι[a.blk]? = some (.at B O m)) ∧ ∀ w' : World, SameB w w' B → (Instr.loadAt t p).run P w' = .ok x w' := by
  unfold loadA at hl
  cases hg : H.get a with
  | none => rw [hg] at hl; cases hl
  | some cs =>
    rw [hg] at hl
    simp only [Option.bind_some] at hl
    obtain ⟨ad, rfl, hs0, hc⟩ := h.at_ptr hp hg
    have hB : ad.block < w.heap.size ∧ (a.ro = true → ad.block < w0.heap.size) ∧ (a.ro = false → ∃ O m, ι[a.blk]? = some (.at ad.block O m)) := by
      unfold RPtr at hp
      by_cases hr : a.ro = true
      · rw [if_pos hr] at hp
        obtain ⟨h1, h2⟩ := hp
        injection h2 with h2
        injection h2 with h2
        have e : ad.block = a.blk := by rw [h2]
        exact ⟨by rw [e]; exact Nat.lt_of_lt_of_le h1 h.below.size, fun _ => by rw [e]; exact h1, fun e' => by rw [hr] at e'; cases e'⟩
      · rw [if_neg hr] at hp
        refine (fun hh => ⟨hh.1, fun h => absurd h hr, fun _ => hh.2⟩ : (ad.block < w.heap.size ∧ ∃ O m, ι[a.blk]? = some (.at ad.block O m)) → _) ?_
        have alive : (H.cells? a.blk).isSome = true := by unfold AH.get at hg; rw [if_neg hr] at hg; simp [hg]
        rcases live_at h alive with h1 | h1 | ⟨B, O, m, h1⟩
        · rw [h1] at hp; exact hp.elim
        · rw [h1] at hp; exact hp.elim
        · rw [h1] at hp
          injection hp with hp
          injection hp with hp
          have e : ad.block = B := by rw [hp]
          rw [e]; exact ⟨(h.locs _ _ _ _ h1).2, O, m, h1⟩
    unfold partA at hl
    cases hag : aggA P t with
    | none => rw [hag] at hl; cases hl
    | some g =>
      rw [hag] at hl
      simp only [Option.bind_some] at hl
      cases g with
      | true =>
        simp only [if_true] at hl
        cases hs : sizeA P t with
        | none => rw [hs] at hl; cases hl
        | some n =>
          rw [hs] at hl
          simp only [Option.bind_some] at hl
          split at hl
          · rename_i hle
            injection hl with hl
            subst hl
            have hcs : ∀ j x, (cs.drop a.off)[j]? = some x → ∃ y, w.cell? (ad.add j) = some y ∧ RV w0.heap.size ι x y := fun j x hx => hc j x (by rwa [List.getElem?_drop] at hx)
            obtain ⟨ys, h1, h2, h3⟩ := run_load_row (P := P) (w := w) (w0 := w0) (ι := ι) (ad := ad) (cs := cs.drop a.off) n (by simp; omega) hcs
            refine ⟨.agg ys.toArray, ad.block, ?_, hB.1, hB.2.1, hB.2.2, fun w' hw' => ?_⟩
            · unfold RV
              exact ⟨_, rfl, by simpa using h2⟩
            · obtain ⟨zs, k1, k2, k3⟩ := run_load_row (P := P) (w := w') (w0 := w0) (ι := ι) (ad := ad) (cs := cs.drop a.off) n (by simp; omega) (fun j x hx => by rw [cell_same hw']; exact hcs j x hx)
              have e : zs = ys := by
                have l1 := h2.length
                have l2 := k2.length
                apply List.ext_getElem?
                intro j
                by_cases hj : j < ys.length
                · have a1 := h3 j ys[j] (List.getElem?_eq_getElem hj)
                  have hj' : j < zs.length := by omega
                  have a2 := k3 j zs[j] (List.getElem?_eq_getElem hj')
                  rw [cell_same hw', a1] at a2
                  rw [List.getElem?_eq_getElem hj, List.getElem?_eq_getElem hj']
                  exact a2.symm
                · rw [List.getElem?_eq_none (by omega), List.getElem?_eq_none (by omega)]
              subst e
              simp [Instr.loadAt, Instr.sureAddr, loadVar, aggA_run hag, sizeA_run hs, k1]
          · cases hl
      | false =>
        simp only [Bool.false_eq_true, if_false] at hl
        obtain ⟨y, h1, h2⟩ := hc 0 v (by simpa using hl)
        refine ⟨y, ad.block, h2, hB.1, hB.2.1, hB.2.2, fun w' hw' => ?_⟩
        have h1' : w'.cell? ad = some y := by
          have := cell_same hw' 0
          rw [h1] at this
          simpa [Addr.add] using this
        simp [Instr.loadAt, Instr.sureAddr, loadVar, aggA_run hag, h1']
/-- Operations that only lay new memory. -/
def allocOp : Op → Bool
  | .alloc _ | .box .. | .makeSlice .. | .buildSlice .. => true
  | _ => false
theorem alloc_any {fr : AFr} {op : Op} {v : AV} {H' : AH} (ha : allocOp op = true) (ho : opA P fr H op = some (v, H')) {H0 : AH} (hn : H0.n = H.n) : ∃ H0', opA P fr H0 op = some (v, H0') := by
  cases op <;> simp only [allocOp, Bool.false_eq_true] at ha
  case alloc t =>
    simp only [opA] at ho ⊢
    obtain ⟨z, hz, ho⟩ := Option.map_eq_some_iff.1 ho
    rw [hz]
    simp only [newA] at ho
    injection ho with e1 e2
    exact ⟨_, by simp only [Option.map_some, newA, hn, e1]; rfl⟩
  case box t x =>
    simp only [opA] at ho ⊢
    obtain ⟨z, hz, ho⟩ := Option.map_eq_some_iff.1 ho
    rw [hz]
    simp only [newA] at ho
    injection ho with e1 e2
    exact ⟨_, by simp only [Option.map_some, newA, hn, e1]; rfl⟩
  case makeSlice t l c =>
    simp only [opA] at ho ⊢
    unfold makeSliceA at ho ⊢
    split at ho
    · obtain ⟨sz, h1, ho⟩ := Option.bind_eq_some_iff.1 ho
      obtain ⟨b, h2, ho⟩ := Option.bind_eq_some_iff.1 ho
      obtain ⟨z, h3, ho⟩ := Option.bind_eq_some_iff.1 ho
      split at ho
      · rename_i hk
        injection ho with ho
        injection ho with e1 e2
        simp only [h1, h2, h3, Option.bind_some]
        rw [if_pos hk, hn, e1]
        exact ⟨_, rfl⟩
      · cases ho
    · cases ho
  case buildSlice t n q =>
    simp only [opA] at ho ⊢
    unfold buildSliceA at ho ⊢
    split at ho
    · obtain ⟨sz, h1, ho⟩ := Option.bind_eq_some_iff.1 ho
      obtain ⟨z, h3, ho⟩ := Option.bind_eq_some_iff.1 ho
      split at ho
      · rename_i hk
        obtain ⟨cs, h4, ho⟩ := Option.map_eq_some_iff.1 ho
        injection ho with e1 e2
        simp only [h1, h3, Option.bind_some]
        rw [if_pos hk, h4, hn]
        simp only [Option.map_some, e1]
        exact ⟨_, rfl⟩
      · cases ho
    · cases ho

/-- The old blocks stand as they were. -/
def Same (w w' : World) : Prop := w.heap.size ≤ w'.heap.size ∧ ∀ B, B < w.heap.size → w'.heap[B]? = w.heap[B]?
theorem Same.refl (w : World) : Same w w := ⟨Nat.le_refl _, fun _ _ => rfl⟩
theorem Same.trans {w w' w'' : World} (h : Same w w') (k : Same w' w'') : Same w w'' := ⟨Nat.le_trans h.1 k.1, fun B hB => (k.2 B (Nat.lt_of_lt_of_le hB h.1)).trans (h.2 B hB)⟩

def isPend : Loc → Bool
  | .pend => true
  | _ => false
theorem isPend_ok : ∀ {L : Loc}, isPend L = true → L = .pend
  | .pend, _ => rfl
  | .dead, h => by simp [isPend] at h
  | .nil, h => by simp [isPend] at h
  | .at _ _ _, h => by simp [isPend] at h
def hideL (ι : List Loc) : List Loc := ι.map fun L => if isPend L then L else .dead
def hideH (ι : List Loc) (H : AH) : AH := ⟨H.ro, List.zipWith (fun b L => if isPend L then b else none) H.rw ι, H.wr⟩

theorem hide_rep (h : Rep w0 ι H w) : Rep w0 (hideL ι) (hideH ι H) w ∧ LocLe ι (hideL ι) ∧ (hideH ι H).n = H.n := by
  have hl := h.len
  have gL : ∀ i : Nat, (hideL ι)[i]? = (ι[i]?).map fun L => if isPend L then L else .dead := fun i => by simp [hideL, List.getElem?_map]
  have noat : ∀ (i B O m : Nat), (hideL ι)[i]? ≠ some (.at B O m) := fun i B O m he => by
    rw [gL] at he
    obtain ⟨L, h1, h2⟩ := Option.map_eq_some_iff.1 he
    split at h2
    · rename_i hp
      rw [isPend_ok hp] at h2
      cases h2
    · cases h2
  have gH : ∀ i : Nat, (hideH ι H).rw[i]? = (match H.rw[i]?, ι[i]? with | some b, some L => some (if isPend L then b else none) | _, _ => none) := fun i => by
    simp only [hideH, List.getElem?_zipWith]
    cases H.rw[i]? <;> cases ι[i]? <;> rfl
  refine ⟨⟨h.below, h.ro, by simp [hideL, hideH, hl], ?_, ?_, ?_, ?_, ?_⟩, ?_, by simp [AH.n, hideH, hl]⟩
  · intro i l hi
    rw [gH] at hi
    left
    cases hb : H.rw[i]? with
    | none => rw [hb] at hi; cases hi
    | some b =>
      cases hL : ι[i]? with
      | none => rw [hb, hL] at hi; cases hi
      | some L =>
        rw [hb, hL] at hi
        simp only at hi
        by_cases hp : isPend L = true
        · rw [gL, hL, Option.map_some, if_pos hp, isPend_ok hp]
        · rw [if_neg hp] at hi; cases hi
  · intro i es hi
    rw [gH] at hi
    cases hb : H.rw[i]? with
    | none => rw [hb] at hi; cases hi
    | some b =>
      cases hL : ι[i]? with
      | none => rw [hb, hL] at hi; cases hi
      | some L =>
        rw [hb, hL] at hi
        simp only at hi
        by_cases hp : isPend L = true
        · rw [if_pos hp] at hi
          injection hi with hi
          exact h.nomap i es (by rw [hb, hi])
        · rw [if_neg hp] at hi; cases hi
  · intro i hi
    rw [gH] at hi
    cases hb : H.rw[i]? with
    | none => rw [hb] at hi; cases hi
    | some b =>
      cases hL : ι[i]? with
      | none => rw [hb, hL] at hi; cases hi
      | some L =>
        rw [hb, hL] at hi
        simp only at hi
        by_cases hp : isPend L = true
        · rw [if_pos hp] at hi
          injection hi with hi
          have := h.gone i (by rw [hb, hi])
          rw [hL, isPend_ok hp] at this
          cases this
        · rw [gL, hL, Option.map_some, if_neg hp]
  · intro i j B O m O' m' hi
    exact absurd hi (noat _ _ _ _)
  · intro i B O m hi
    exact absurd hi (noat _ _ _ _)
  · intro i L hi
    rw [gL, hi, Option.map_some]
    by_cases hp : isPend L = true
    · rw [if_pos hp]; exact .inl rfl
    · rw [if_neg hp]
      exact .inr ⟨rfl, fun e => hp (by rw [e]; rfl)⟩

/-- Operations that only lay new memory leave the old blocks as they were. -/
theorem alloc_same {N : Nat} {ds : List Deferred} {fr : AFr} {a : Act} (hs : St w0 ι N ds fr H a w) {o : Oper} {v : AV} {H' : AH} (ha : allocOp o.op = true) (ho : opA P fr H o.op = some (v, H')) {n : Next} {w1 : World} (hr : (execOp a.eval o).run P w = .ok n w1) : Same w w1 := by
  obtain ⟨hrep, hle, hn⟩ := hide_rep hs.rep
  obtain ⟨H0', ho'⟩ := alloc_any ha ho hn
  obtain ⟨w', ι', r1, r2, r3⟩ := opA_ok hrep (hs.fr.ext hle) ho'
  have e : w' = w1 := by
    rcases r3 with ⟨cv, h1, _⟩ | ⟨h1, _⟩
    · rw [h1] at hr; injection hr
    · rw [h1] at hr; injection hr
  subst e
  refine ⟨r2.size, fun B hB => r2.frame B hB fun i O m hi => ?_⟩
  simp only [hideL, List.getElem?_map] at hi
  obtain ⟨L, h1, h2⟩ := Option.map_eq_some_iff.1 hi
  split at h2
  · rename_i hp
    rw [isPend_ok hp] at h2
    cases h2
  · cases h2
end

section
variable {P : Program} {md : Region.Mode} {ops : Array Oper} {Q : Exit → Act → World → Prop} {S : Array Bool → World → Prop}

def wpAnyI (P : Program) (md : Region.Mode) (ops : Array Oper) (Q : Exit → Act → World → Prop) (S : Array Bool → World → Prop) : Nat → Array Bool → Act → World → Prop
  | 0, listed, a, w => Region.ready md ops listed = [] ∧ Q .normal a w
  | fuel + 1, listed, a, w =>
    (Region.ready md ops listed = [] → Q .normal a w) ∧
    ∀ i ∈ Region.ready md ops listed, wpOp P ops Q i (fun a' w' => S (listed.setIfInBounds i true) w' ∧ wpAnyI P md ops Q S fuel (listed.setIfInBounds i true) a' w') a w

theorem wpAny_of_I : ∀ (fuel : Nat) (listed : Array Bool) (a : Act) (w : World), wpAnyI P md ops Q S fuel listed a w → wpAny P md ops Q fuel listed a w
  | 0, _, _, _, h => h
  | fuel + 1, _, _, _, h => ⟨h.1, fun i hi => wpOp_mono (fun a' w' h' => wpAny_of_I fuel _ a' w' h'.2) (h.2 i hi)⟩

theorem wpAnyI_mono {S' : Array Bool → World → Prop} (hS : ∀ l w, S' l w → S l w) : ∀ (fuel : Nat) (listed : Array Bool) (a : Act) (w : World), wpAnyI P md ops Q S' fuel listed a w → wpAnyI P md ops Q S fuel listed a w
  | 0, _, _, _, h => h
  | fuel + 1, listed, a, w, h => ⟨h.1, fun i hi => wpOp_mono (fun a' w' h' => ⟨hS _ _ h'.1, wpAnyI_mono hS fuel _ _ _ h'.2⟩) (h.2 i hi)⟩

theorem wpAnyI_first {i : Nat} {oi : Oper} {v : Value} {Y : World → Prop} (hi : ops[i]? = some oi) (hsel : ∀ (j : Nat) (o : Oper) cs b, ops[j]? = some o → o.op ≠ .select cs b)
    (hQ : ∀ c a w, Q (.panic c) (a.put oi.dst v) w → Q (.panic c) a w) (Inv : Array Bool → Prop) (hstep : ∀ listed j, Inv listed → j ≠ i → j ∈ Region.ready md ops listed → Inv (listed.setIfInBounds j true))
    (hY : ∀ listed w, Inv listed → S listed w → Y w) (hS : ∀ listed w, S (listed.setIfInBounds i true) w ↔ S listed w) :
    ∀ (fuel : Nat) (listed : Array Bool) (a : Act) (w : World), Inv listed →
      (∀ j oj, ops[j]? = some oj → j ≠ i → listed.getD j true = false → (∀ e ∈ oj.after, Region.binds md e = true → e.on ≠ i) → oi.apart ops oj = true) →
      i ∈ Region.ready md ops listed → YieldsIf P ops Y oi v a → S listed w →
      wpAnyI P md ops Q S fuel (listed.setIfInBounds i true) (a.put oi.dst v) w → wpAnyI P md ops Q S (fuel + 1) listed a w := by
  intro fuel
  induction fuel with
  | zero =>
    intro listed a w hinv _ hr hy hSw H
    refine ⟨fun h => (by rw [h] at hr; cases hr), fun j hj => ?_⟩
    by_cases hji : j = i
    · subst hji; exact hy.wpOp hi (hY _ _ hinv hSw) ⟨(hS _ _).2 hSw, H⟩
    · have := ready_mono hj hji
      rw [H.1] at this
      cases this
  | succ fuel ih =>
    intro listed a w hinv hfree hr hy hSw H
    refine ⟨fun h => (by rw [h] at hr; cases hr), fun j hj => ?_⟩
    by_cases hji : j = i
    · subst hji; exact hy.wpOp hi (hY _ _ hinv hSw) ⟨(hS _ _).2 hSw, H⟩
    · have h1 := H.2 j (ready_mono hj hji)
      obtain ⟨hjun, oj, hoj, hall⟩ := mem_ready.1 hj
      have hnot : ∀ e ∈ oj.after, Region.binds md e = true → e.on ≠ i := fun e he hb heq => by
        have h1 := hall e he hb
        have h0 := (mem_ready.1 hr).1
        rw [heq] at h1
        rcases Nat.lt_or_ge i listed.size with h' | h'
        · simp [h'] at h0 h1; rw [h0] at h1; cases h1
        · simp [Array.getElem?_eq_none h'] at h1
      have h2 := wpOp_putIf hoj (hfree j oj hoj hji hjun hnot) (fun cs b => hsel i oi cs b hi) (fun cs b => hsel j oj cs b hoj) hQ hy h1
      have hfree' : ∀ k ok, ops[k]? = some ok → k ≠ i → (listed.setIfInBounds j true).getD k true = false →
          (∀ e ∈ ok.after, Region.binds md e = true → e.on ≠ i) → oi.apart ops ok = true := fun k ok hk hki hun hno => by
        refine hfree k ok hk hki ?_ hno
        by_cases hjk : j = k
        · subst hjk; exact hjun
        · rw [getD_set_ne true hjk] at hun; exact hun
      refine wpOp_mono (fun a' w' h3 => ?_) h2
      have hS' : S (listed.setIfInBounds j true) w' := by
        rw [← hS, Array.setIfInBounds_comm _ _ hji]
        exact h3.2.1
      refine ⟨hS', ih (listed.setIfInBounds j true) a' w' (hstep _ _ hinv hji hj) hfree' (ready_mono hr (Ne.symm hji)) h3.1 hS' ?_⟩
      rw [Array.setIfInBounds_comm _ _ hji]
      exact h3.2.2

theorem wpAnyI_all {rs : List Nat} {fuel : Nat} {listed : Array Bool} {a : Act} {w : World} (hr : Region.ready md ops listed = rs) (hne : rs ≠ [])
    (h : ∀ i ∈ rs, wpOp P ops Q i (fun a' w' => S (listed.setIfInBounds i true) w' ∧ wpAnyI P md ops Q S fuel (listed.setIfInBounds i true) a' w') a w) : wpAnyI P md ops Q S (fuel + 1) listed a w :=
  ⟨fun h0 => absurd (hr ▸ h0) hne, hr ▸ h⟩

theorem wpAnyI_done {listed : Array Bool} {a : Act} {w : World} (hr : Region.ready md ops listed = []) (h : Q .normal a w) : ∀ fuel, wpAnyI P md ops Q S fuel listed a w
  | 0 => ⟨hr, h⟩
  | _ + 1 => ⟨fun _ => h, by rw [hr]; simp⟩

theorem wp_region_I {id : Nat} {a : Act} {w : World} (hm : P.follows .mixedOrders = true)
    (h : wpAnyI P .any ops Q S ops.size (Array.replicate ops.size false) a { w with drawn := w.drawn + 1 }) : (Code.region id ops true).wp P Q a w :=
  wp_region_any hm (wpAny_of_I _ _ _ _ h)
end

/-- How many of these have come, one behind the other. -/
def phase (Fs : List Nat) (listed : Array Bool) : Nat := (Fs.takeWhile fun k => listed.getD k false).length

theorem phase_mono {l l' : Array Bool} (h : ∀ k, l.getD k false = true → l'.getD k false = true) : ∀ Fs : List Nat, phase Fs l ≤ phase Fs l'
  | [] => Nat.le_refl _
  | k :: Fs => by
    unfold phase
    simp only [List.takeWhile_cons]
    by_cases hk : l.getD k false = true
    · rw [if_pos hk, if_pos (h k hk)]
      have := phase_mono h Fs
      unfold phase at this
      simp only [List.length_cons]
      omega
    · rw [if_neg hk]; simp
theorem phase_le {l : Array Bool} {k : Nat} (hk : l.getD k false = false) : ∀ (Fs : List Nat) {m : Nat}, Fs[m]? = some k → phase Fs l ≤ m
  | [], _, h => by simp at h
  | j :: Fs, 0, h => by
    simp at h; subst h
    unfold phase
    rw [List.takeWhile_cons, if_neg (by rw [hk]; simp)]
    simp
  | j :: Fs, m + 1, h => by
    have := phase_le hk Fs (m := m) (by simpa using h)
    unfold phase at this ⊢
    simp only [List.takeWhile_cons]
    split <;> simp only [List.length_cons, List.length_nil] <;> omega
theorem phase_top {l : Array Bool} : ∀ Fs : List Nat, phase Fs l ≤ Fs.length
  | [] => Nat.le_refl _
  | j :: Fs => by
    have := phase_top (l := l) Fs
    unfold phase at this ⊢
    simp only [List.takeWhile_cons]
    split <;> simp only [List.length_cons, List.length_nil] <;> omega
theorem phase_set {l : Array Bool} {i : Nat} : ∀ (Fs : List Nat), Fs.contains i = false → phase Fs (l.setIfInBounds i true) = phase Fs l
  | [], _ => rfl
  | k :: Fs, h => by
    simp only [List.contains_cons, Bool.or_eq_false_iff, beq_eq_false_iff_ne] at h
    unfold phase
    simp only [List.takeWhile_cons]
    rw [getD_set_ne false h.1]
    have := phase_set (l := l) Fs h.2
    unfold phase at this
    split <;> simp only [List.length_cons, List.length_nil, this]

/-- What waits for an operation, directly or through others, among those that come behind it. -/
def waitsL (md : Region.Mode) (ops : Array Oper) (i : Nat) : List (Nat × Option Nat) → List Nat → List Nat
  | [], D => D
  | (j, _) :: l, D => waitsL md ops i l (if (match ops[j]? with | some o => o.after.any fun e => Region.binds md e && (e.on == i || D.contains e.on) | none => false) then j :: D else D)
def waitsOk (md : Region.Mode) (ops : Array Oper) (i : Nat) (D : List Nat) : Bool := D.all fun k => match ops[k]? with
  | some o => o.after.any fun e => Region.binds md e && (e.on == i || D.contains e.on)
  | none => false

def allP (φ : AH → Prop) : List (AH → Prop) → Prop
  | [] => True
  | R :: l => (∀ K, R K → φ K) ∧ allP φ l
def eqM (X : AH) : AH → Prop := fun K => K = X
def rofP (Rs : List (AH → Prop)) (p : Nat) : AH → Prop := fun K => ∃ R, Rs[p]? = some R ∧ R K

theorem allP_at {φ : AH → Prop} : ∀ {l : List (AH → Prop)} {p : Nat} {R : AH → Prop}, allP φ l → l[p]? = some R → ∀ K, R K → φ K
  | [], _, _, _, h => by simp at h
  | R :: l, 0, _, h, e => by simp at e; subst e; exact h.1
  | R :: l, p + 1, _, h, e => allP_at h.2 (by simpa using e)

def isLoad : Op → Bool
  | .load .. => true
  | _ => false
def loadRo (fr : AFr) : Op → Bool
  | .load _ x => (match aeval fr x with | .ptr p => p.ro | _ => false)
  | _ => false
/-- So many of those that come just then only lay new memory, one behind the other. -/
def quietL : List (Option Oper × Option Nat) → Nat
  | [] => 0
  | (none, _) :: _ => 0
  | (some _, some _) :: l => quietL l
  | (some o, none) :: l => if allocOp o.op && o.guard.isNone then quietL l + 1 else 0
/-- Is this read's block known to be as it was in the next phases? -/
def loadOf (fr : AFr) : Op → Option Nat
  | .load _ x => (match aeval fr x with | .ptr p => if p.ro then none else some p.blk | _ => none)
  | _ => none
def heldD : List Nat → Option Tmp → Bool
  | _, none => false
  | [], _ => false
  | h :: l, some d => if d = h then true else heldD l (some d)
def StillP (P : Program) (h : Bool) (Rs : List (AH → Prop)) (n q : Nat) (fr : AFr) (H : AH) (op : Op) (v : AV) : Prop :=
  copyOp op = true ∨ (stillOp op = true ∧ convOk op v = true ∧ (n = 0 ∨ (isLoad op = true ∧ (n ≤ q ∨ loadRo fr op = true)) ∨ (h = true ∧ ∃ i, loadOf fr op = some i ∧ allP (fun K => ¬ K.wr i) ((Rs.drop 1).take n)) ∨ ((h && isLoad op) = false ∧ rigidA H v = true ∧ allP (fun K => opA P fr K op = some (v, K) ∧ rigidA K v = true) ((Rs.drop 1).take n))))

/-- 'some n': may come until n of those that come just then are past; 'none': comes just then. -/
def DOpsP (P : Program) (ops : Array Oper) (hs : List Nat) (Q : AFr → AH → Prop) : List (Option Oper × Option Nat) → List (AH → Prop) → AFr → AH → Prop
  | [], _, fr, H => Q fr H
  | (none, _) :: _, _, _, _ => False
  | (some o, some n) :: rest, Rs, fr, H => ifG (guardA ops fr o) (DOpsP P ops hs Q rest Rs (putA fr o.dst (.tup [])) H) (opThen (opA P fr H o.op) fun v _ => StillP P (heldD hs o.dst) Rs n (quietL rest) fr H o.op v ∧ DOpsP P ops hs Q rest Rs (putA fr o.dst v) H)
  | (some o, none) :: rest, Rs, fr, H => AOps P ops (fun fr' H' => match Rs with
    | _ :: R1 :: l => R1 H' ∧ DOpsP P ops hs Q rest (R1 :: l) fr' H'
    | _ => False) [o] fr H

def drawOkP (md : Region.Mode) (ops : Array Oper) (Fs : List Nat) : List (Nat × Option Nat) → Nat → Array Bool → Bool
  | [], p, listed => (Region.ready md ops listed).isEmpty
  | (i, some n) :: l, p, listed =>
    let D := waitsL md ops i l []
    Region.free md ops listed i && (Region.ready md ops listed).contains i && !Fs.contains i && waitsOk md ops i D && D.all (fun k => !listed.getD k true) && (match Fs[p + n]? with | some k => D.contains k | none => decide (Fs.length ≤ p + n)) && (phase Fs listed == p) && drawOkP md ops Fs l p (listed.setIfInBounds i true)
  | (i, none) :: l, p, listed => (Region.ready md ops listed == [i]) && (phase Fs (listed.setIfInBounds i true) == p + 1) && drawOkP md ops Fs l (p + 1) (listed.setIfInBounds i true)

/-- What holds while the region runs: behind phase 'p' so much as its 'R' says; in phase 'p' the world is this one. -/
def HeldP (w0 : World) (ι : List Loc) (Hp : AH) (Fs : List Nat) (Rs : List (AH → Prop)) (p q : Nat) (wp : World) (listed : Array Bool) (w : World) : Prop :=
  p ≤ phase Fs listed ∧ (phase Fs listed = p → w = wp) ∧ (phase Fs listed ≤ p + q → Same wp w) ∧ ∃ ι' H', Rep w0 ι' H' w ∧ Ext ι Hp wp ι' H' w ∧ rofP Rs (phase Fs listed) H'

theorem getD_any {l : Array Bool} {k : Nat} (h : l.getD k true = false) : l.getD k false = false := by
  rcases Nat.lt_or_ge k l.size with h' | h'
  · simp [h'] at h ⊢; exact h
  · simp [Array.getElem?_eq_none h'] at h

theorem set_keeps {l : Array Bool} {j : Nat} (k : Nat) (h : l.getD k false = true) : (l.setIfInBounds j true).getD k false = true := getD_set_true h

theorem waits_step {md : Region.Mode} {ops : Array Oper} {i : Nat} {D : List Nat} (hD : waitsOk md ops i D = true) {listed : Array Bool} (hu : ∀ k ∈ D, listed.getD k true = false) (hi : listed.getD i true = false) {j : Nat} (hji : j ≠ i) (hj : j ∈ Region.ready md ops listed) :
    (∀ k ∈ D, (listed.setIfInBounds j true).getD k true = false) ∧ (listed.setIfInBounds j true).getD i true = false := by
  have hjD : j ∉ D := fun hm => by
    unfold waitsOk at hD
    have h1 := List.all_eq_true.1 hD j hm
    obtain ⟨_, o, ho, hall⟩ := mem_ready.1 hj
    rw [ho] at h1
    obtain ⟨e, he, hb⟩ := Array.any_eq_true'.1 h1
    simp only [Bool.and_eq_true, Bool.or_eq_true, beq_iff_eq] at hb
    have h2 := hall e he hb.1
    rcases hb.2 with h3 | h3
    · rw [h3] at h2; rw [getD_any hi] at h2; cases h2
    · rw [getD_any (hu _ (by simpa using h3))] at h2; cases h2
  refine ⟨fun k hk => ?_, by rw [getD_set_ne true hji]; exact hi⟩
  rw [getD_set_ne true (fun e => hjD (by rw [e]; exact hk))]
  exact hu k hk

theorem rofP_at {φ : AH → Prop} {Rs : List (AH → Prop)} {p n q : Nat} (h : allP φ (((Rs.drop p).drop 1).take n)) (h1 : p < q) (h2 : q ≤ p + n) {K : AH} (hK : rofP Rs q K) : φ K := by
  obtain ⟨R, hR, hK⟩ := hK
  refine allP_at (p := q - (p + 1)) (R := R) h ?_ K hK
  rw [List.getElem?_take, if_pos (by omega), List.drop_drop, List.getElem?_drop, show p + 1 + (q - (p + 1)) = q by omega]
  exact hR

theorem DOpsP_sound {P : Program} {md : Region.Mode} {ops : Array Oper} {hl : List Nat} {Q : AFr → AH → Prop} {N : Nat} {ds : List Deferred} {QC : Exit → Act → World → Prop} {w0 : World} {Fs : List Nat} {Rs : List (AH → Prop)} (hsel : Region.noSelect ops = true) (hd : ∀ (i : Nat) (o : Oper), ops[i]? = some o → ∀ d, o.dst = some d → d < N)
    {ιs : List Loc} {Hs : AH} {ws : World} (hQ : ∀ fr' H' ι' a' w', Q fr' H' → St w0 ι' N ds fr' H' a' w' → Ext ιs Hs ws ι' H' w' → QC .normal a' w') :
    ∀ (l : List (Nat × Option Nat)) (p : Nat) (listed : Array Bool) (fr : AFr) (H : AH) (a : Act) (w : World) (ι : List Loc), drawOkP md ops Fs l p listed = true → phase Fs listed = p → DOpsP P ops hl Q (l.map fun p => (ops[p.1]?, p.2)) (Rs.drop p) fr H → St w0 ι N ds fr H a w → rofP Rs p H → Ext ιs Hs ws ι H w →
      wpAnyI P md ops (onlyN QC) (HeldP w0 ι H Fs Rs p (quietL (l.map fun p => (ops[p.1]?, p.2))) w) l.length listed a w
  | [], p, listed, fr, H, a, w, ι, hok, hph, h, hs, hR, he => by
    simp only [drawOkP, List.isEmpty_iff] at hok
    exact wpAnyI_done hok ⟨rfl, hQ _ _ _ _ _ h hs he⟩ _
  | (i, some n) :: l, p, listed, fr, H, a, w, ι, hok, hph, h, hs, hR, he => by
    simp only [drawOkP, Bool.and_eq_true, Bool.not_eq_true', beq_iff_eq] at hok
    obtain ⟨⟨⟨⟨⟨⟨⟨hf, hr⟩, hFi⟩, hW⟩, hDu⟩, hdl⟩, _⟩, hok⟩ := hok
    simp only [List.map_cons] at h
    cases hi : ops[i]? with
    | none => rw [hi] at h; exact h.elim
    | some o =>
      rw [hi] at h
      simp only [DOpsP] at h
      have hq0 : quietL (((i, some n) :: l).map fun p => (ops[p.1]?, p.2)) = quietL (l.map fun p => (ops[p.1]?, p.2)) := by simp only [List.map_cons, hi, quietL]
      rw [hq0]
      generalize hqq : quietL (l.map fun p => (ops[p.1]?, p.2)) = qq at h
      have hheld : HeldP w0 ι H Fs Rs p qq w listed w := ⟨by omega, fun _ => rfl, fun _ => Same.refl _, ι, H, hs.rep, Ext.refl _ _ _, by rw [hph]; exact hR⟩
      have hp : ∀ c a' (w' : World) (v : Value), onlyN QC (.panic c) (a'.put o.dst v) w' → onlyN QC (.panic c) a' w' := fun c a' w' v hh => by cases hh.1
      have hph' : phase Fs (listed.setIfInBounds i true) = p := by rw [phase_set Fs hFi]; exact hph
      have hSi : ∀ (listed : Array Bool) (w' : World), HeldP w0 ι H Fs Rs p qq w (listed.setIfInBounds i true) w' ↔ HeldP w0 ι H Fs Rs p qq w listed w' := fun listed w' => by
        unfold HeldP; rw [phase_set Fs hFi]
      have hr' : i ∈ Region.ready md ops listed := by simpa using hr
      have hui : listed.getD i true = false := (mem_ready.1 hr').1
      have hDu' : ∀ k ∈ waitsL md ops i l [], listed.getD k true = false := fun k hk => by simpa using List.all_eq_true.1 hDu k hk
      let Inv : Array Bool → Prop := fun l' => (∀ k, listed.getD k false = true → l'.getD k false = true) ∧ (∀ k ∈ waitsL md ops i l [], l'.getD k true = false) ∧ l'.getD i true = false
      have hinv : Inv listed := ⟨fun _ h => h, hDu', hui⟩
      have hstep : ∀ l' j, Inv l' → j ≠ i → j ∈ Region.ready md ops l' → Inv (l'.setIfInBounds j true) := fun l' j ⟨h1, h2, h3⟩ hji hj => by
        have := waits_step hW h2 h3 hji hj
        exact ⟨fun k hk => set_keeps k (h1 k hk), this.1, this.2⟩
      have hbound : ∀ l', Inv l' → p ≤ phase Fs l' ∧ phase Fs l' ≤ p + n := fun l' ⟨h1, h2, h3⟩ => by
        refine ⟨by rw [← hph]; exact phase_mono h1 Fs, ?_⟩
        split at hdl
        · rename_i k hk
          exact phase_le (getD_any (h2 k (by simpa using hdl))) Fs hk
        · exact Nat.le_trans (phase_top Fs) (by simpa using hdl)
      have fin : ∀ (v : Value) (Y : World → Prop), (∀ l' w', Inv l' → HeldP w0 ι H Fs Rs p qq w l' w' → Y w') → YieldsIf P ops Y o v a → wpAnyI P md ops (onlyN QC) (HeldP w0 ι H Fs Rs p qq w) l.length (listed.setIfInBounds i true) (a.put o.dst v) w →
          wpAnyI P md ops (onlyN QC) (HeldP w0 ι H Fs Rs p qq w) (l.length + 1) listed a w := fun v Y hY hy hk =>
        wpAnyI_first (Y := Y) hi (Region.noSelect_spec hsel) (fun c a' w' => hp c a' w' _) Inv hstep hY hSi l.length listed a w hinv (Region.free_spec hi hf) hr' hy hheld hk
      cases hg : guardA ops fr o with
      | none => rw [hg] at h; exact h.elim
      | some b =>
        rw [hg] at h
        have hw := guardA_ok hs hg
        cases b with
        | false =>
          simp only [ifG] at h
          exact fin undef (fun _ => True) (fun _ _ _ _ => trivial) (.inr ⟨hw, rfl⟩) (hqq ▸ DOpsP_sound hsel hd hQ l p _ _ H _ w ι hok hph' h (hs.put (hd i o hi) hs.rep (LocLe.refl ι) RV_undef) hR he)
        | true =>
          simp only [ifG] at h
          cases ho : opA P fr H o.op with
          | none => rw [ho] at h; exact h.elim
          | some vh =>
            obtain ⟨v, H1⟩ := vh
            rw [ho] at h
            simp only [opThen] at h
            obtain ⟨hst, h⟩ := h
            have key : ∃ cv, YieldsIf P ops (fun w' => ∃ l', Inv l' ∧ HeldP w0 ι H Fs Rs p qq w l' w') o cv a ∧ RV w0.heap.size ι v cv := by
              rcases hst with hc | ⟨hc, hconv, hst⟩
              · obtain ⟨_, cv, h1, h2⟩ := opA_copy hs.rep hs.fr hc ho
                exact ⟨cv, .inl ⟨hw, fun w' _ => h1 w'⟩, h2⟩
              · by_cases hld : isLoad o.op = true ∧ (n ≤ qq ∨ loadRo fr o.op = true ∨ ∃ i, loadOf fr o.op = some i ∧ allP (fun K => ¬ K.wr i) (((Rs.drop p).drop 1).take n))
                · obtain ⟨hl1, hl2⟩ := hld
                  obtain ⟨dst, op, type, pos, after, guard⟩ := o
                  cases op <;> simp only [isLoad, Bool.false_eq_true] at hl1
                  rename_i t x
                  simp only [opA] at ho
                  split at ho
                  · rename_i pa hpa
                    obtain ⟨v', hv', ho⟩ := Option.map_eq_some_iff.1 ho
                    injection ho with e1 e2
                    subst e1
                    have hx := aeval_ok hs.fr x
                    rw [hpa] at hx
                    unfold RV at hx
                    obtain ⟨z, B, z1, z2, z3, z5, z4⟩ := load_stable (P := P) hs.rep hv' hx
                    refine ⟨z, .inl ⟨hw, fun w' hw' => ?_⟩, z1⟩
                    obtain ⟨l', hl', hp1, hp2, hp3, ι', H', hrep, hext, hRH⟩ := hw'
                    have hle := hext.le
                    have hb := hbound l' hl'
                    have hsame : SameB w w' B := by
                      rcases hl2 with hl2 | hl2 | ⟨bi, hl2, hl3⟩
                      · exact .of ((hp3 (by omega)).2 B z2)
                      · have : pa.ro = true := by simpa [loadRo, hpa] using hl2
                        have hB := z3 this
                        exact .of (by rw [hrep.below.block B hB, hs.rep.below.block B hB])
                      · simp only [loadOf, hpa] at hl2
                        split at hl2
                        · cases hl2
                        · rename_i hro
                          injection hl2 with hl2
                          obtain ⟨O, m, z6⟩ := z5 (by simpa using hro)
                          by_cases hpp : phase Fs l' = p
                          · rw [hp2 hpp]; exact SameB.refl _ _
                          · exact (hext.still _ _ _ _ z6 z2 (by rw [hl2]; exact rofP_at hl3 (by omega) hb.2 hRH)).1
                    have := z4 w' hsame
                    simp [execOp, this]
                  · cases ho
                have hst : n = 0 ∨ (rigidA H v = true ∧ allP (fun K => opA P fr K o.op = some (v, K) ∧ rigidA K v = true) (((Rs.drop p).drop 1).take n)) := by
                  rcases hst with h0 | h0 | ⟨_, bi, h0, h1⟩ | ⟨_, h0⟩
                  · exact .inl h0
                  · exact absurd ⟨h0.1, h0.2.elim .inl fun e => .inr (.inl e)⟩ hld
                  · exact absurd ⟨by revert h0; cases o.op <;> simp [loadOf, isLoad], .inr (.inr ⟨bi, h0, h1⟩)⟩ hld
                  · exact .inr h0
                have hcv : ∀ a n c, v ≠ .slice a n c ∨ ∀ s d x, o.op ≠ .convert s d x := fun a' n c => by
                  by_cases hv : v = .slice a' n c
                  · right
                    intro s d x he
                    rw [he, hv] at hconv
                    cases hconv
                  · exact .inl hv
                obtain ⟨_, cv, h1, h2⟩ := opA_still hs.rep hs.fr hc hcv ho
                refine ⟨cv, .inl ⟨hw, fun w' hw' => ?_⟩, h2⟩
                obtain ⟨l', hl', hp1, hp2, hp3, ι', H', hrep, hext, hRH⟩ := hw'
                have hle := hext.le
                by_cases hpp : phase Fs l' = p
                · rw [hp2 hpp]; exact h1
                · have hb := hbound l' hl'
                  rcases hst with hn | ⟨hrig, hall⟩
                  · omega
                  · obtain ⟨g1, g2⟩ := rofP_at hall (by omega) hb.2 hRH
                    obtain ⟨_, cv', k1, k2⟩ := opA_still hrep (hs.fr.ext hle) hc hcv g1
                    rw [k1, rigid_eq hs.rep hrep hle hrig g2 h2 k2]
            obtain ⟨cv, hy, hv⟩ := key
            exact fin cv _ (fun l' w' h1 h2 => ⟨l', h1, h2⟩) hy (hqq ▸ DOpsP_sound hsel hd hQ l p _ _ H _ w ι hok hph' h (hs.put (hd i o hi) hs.rep (LocLe.refl ι) hv) hR he)
  | (i, none) :: l, p, listed, fr, H, a, w, ι, hok, hph, h, hs, hR, he => by
    simp only [drawOkP, Bool.and_eq_true, beq_iff_eq] at hok
    obtain ⟨⟨hr, hph'⟩, hok⟩ := hok
    simp only [List.map_cons] at h
    cases hi : ops[i]? with
    | none => rw [hi] at h; exact h.elim
    | some o =>
      rw [hi] at h
      simp only [DOpsP] at h
      refine wpAnyI_all hr (by simp) fun j hj => ?_
      obtain rfl : j = i := by simpa using hj
      have hq0 : quietL (((j, none) :: l).map fun p => (ops[p.1]?, p.2)) = if allocOp o.op && o.guard.isNone then quietL (l.map fun p => (ops[p.1]?, p.2)) + 1 else 0 := by simp only [List.map_cons, hi, quietL]
      rw [hq0]
      generalize hq1 : quietL (l.map fun p => (ops[p.1]?, p.2)) = q1
      generalize hqq : (if allocOp o.op && o.guard.isNone then q1 + 1 else 0) = qq
      have step : ∀ fr1 H1 ι1 a1 w1, (match Rs.drop p with | _ :: R1 :: l' => R1 H1 ∧ DOpsP P ops hl Q (l.map fun p => (ops[p.1]?, p.2)) (R1 :: l') fr1 H1 | _ => False) → St w0 ι1 N ds fr1 H1 a1 w1 → Ext ι H w ι1 H1 w1 → (qq = 0 ∨ (qq = q1 + 1 ∧ Same w w1)) →
          HeldP w0 ι H Fs Rs p qq w (listed.setIfInBounds j true) w1 ∧ wpAnyI P md ops (onlyN QC) (HeldP w0 ι H Fs Rs p qq w) l.length (listed.setIfInBounds j true) a1 w1 := fun fr1 H1 ι1 a1 w1 hh hs1 he1 hsm => by
        have hdrop : ∃ R0 R1 l', Rs.drop p = R0 :: R1 :: l' ∧ R1 H1 ∧ DOpsP P ops hl Q (l.map fun p => (ops[p.1]?, p.2)) (R1 :: l') fr1 H1 := by
          split at hh
          · rename_i R0 R1 l' e; exact ⟨R0, R1, l', e, hh.1, hh.2⟩
          · exact hh.elim
        obtain ⟨R0, R1, l', e, h1, h2⟩ := hdrop
        have e1 : Rs.drop (p + 1) = R1 :: l' := by rw [← List.drop_drop, e]; rfl
        have hR1 : rofP Rs (p + 1) H1 := ⟨R1, by have := congrArg (·[0]?) e1; simpa using this, h1⟩
        refine ⟨⟨by omega, fun e => by omega, fun hle => by
          rcases hsm with h0 | ⟨_, h0⟩
          · omega
          · exact h0, ι1, H1, hs1.rep, he1, by rw [hph']; exact hR1⟩, ?_⟩
        refine wpAnyI_mono (S' := HeldP w0 ι1 H1 Fs Rs (p + 1) q1 w1) ?_ _ _ _ _ (hq1 ▸ DOpsP_sound hsel hd hQ l (p + 1) _ fr1 H1 a1 w1 ι1 hok hph' (by rw [e1]; exact h2) hs1 hR1 (he.trans he1))
        rintro l2 w2 ⟨k0, _, k9, ι2, H2, k1, k2, k3⟩
        exact ⟨by omega, fun e => by omega, fun hle => by
          rcases hsm with h0 | ⟨h0, h5⟩
          · omega
          · exact h5.trans (k9 (by omega)), ι2, H2, k1, he1.trans k2, k3⟩
      unfold wpOp
      simp only [hi]
      simp only [AOps] at h
      cases hg : guardA ops fr o with
      | none => rw [hg] at h; exact h.elim
      | some b =>
        rw [hg] at h
        rw [guardA_ok hs hg]
        cases b with
        | false =>
          simp only at h
          simp only [Bool.false_eq_true, if_false]
          refine step _ _ ι _ w h (hs.put (hd j o hi) hs.rep (LocLe.refl ι) RV_undef) (Ext.refl _ _ _) (.inl ?_)
          have : o.guard.isNone = false := by
            cases hgd : o.guard with
            | none => simp [guardA, hgd] at hg
            | some _ => rfl
          rw [← hqq, this]; simp
        | true =>
          simp only at h
          simp only [if_true]
          left
          cases hc : callA fr o.op with
          | some fa =>
            obtain ⟨f, args⟩ := fa
            rw [hc] at h
            simp only at h
            exact call_step hs hc (hd j o hi) h fun r H' ι' a' w' h1 h2 h3 => step _ _ _ _ _ h1 h2 h3 (.inl (by
              have : allocOp o.op = false := by cases ho' : o.op <;> first | rfl | (rw [ho'] at hc; simp [callA] at hc)
              rw [← hqq, this]; simp))
          | none =>
            rw [hc] at h
            simp only at h
            cases ho : opA P fr H o.op with
            | none => rw [ho] at h; exact h.elim
            | some vh =>
              obtain ⟨v, H'⟩ := vh
              rw [ho] at h
              by_cases hal : (allocOp o.op && o.guard.isNone) = true
              · obtain ⟨w', ι', r1, r2, r3⟩ := opA_ok hs.rep hs.fr ho
                have hal' : allocOp o.op = true := by simp at hal; exact hal.1
                have hq3 : qq = q1 + 1 := by rw [← hqq, if_pos hal]
                unfold Oper.wp
                rcases r3 with ⟨cv, hr', hv⟩ | ⟨hr', rfl⟩
                · rw [hr']
                  exact step _ _ ι' _ w' h (hs.put (hd j o hi) r1 r2.le hv) r2 (.inr ⟨hq3, alloc_same hs hal' ho hr'⟩)
                · rw [hr']
                  exact step _ _ ι' _ w' h (hs.put (hd j o hi) r1 r2.le (by unfold RV; trivial)) r2 (.inr ⟨hq3, alloc_same hs hal' ho hr'⟩)
              · exact op_step hs ho (hd j o hi) fun ι' a' w' h2 h3 => step _ _ _ _ _ h h2 h3 (.inl (by rw [← hqq, if_neg hal]))

/-- A region that draws its order, its memory known phase by phase. -/
theorem awp_drawP {P : Program} {N : Nat} {Q : Exit → AFr → AH → Prop} {fr : AFr} {H : AH} {id : Nat} {l : List Oper} (Rs : List (AH → Prop)) (order : List (Nat × Option Nat)) (Fs : List Nat) {hl : List Nat} (hm : P.follows .mixedOrders = true) (hd : dstsOk N l = true)
    (hok : (Region.noSelect l.toArray && order.length == l.length && phase Fs (Array.replicate l.length false) == 0 && drawOkP .any l.toArray Fs order 0 (Array.replicate l.length false)) = true) (hR : rofP Rs 0 H)
    (h : DOpsP P l.toArray hl (Q .normal) (order.map fun p => (l.toArray[p.1]?, p.2)) Rs fr H) : AWp P N (.region id l.toArray true) Q fr H := fun ds w0 ι a w QC hs hQ => by
  simp only [Bool.and_eq_true, beq_iff_eq] at hok
  obtain ⟨⟨⟨h1, h2⟩, h4⟩, h3⟩ := hok
  have hdr : ∀ (i : Nat) (o : Oper), l.toArray[i]? = some o → ∀ d, o.dst = some d → d < N := fun i o ho => dstsOk_spec hd o (List.mem_of_getElem? (by simpa using ho))
  obtain ⟨k0, k2⟩ := hs.rep.drew
  have k1 : St w0 ι N ds fr H a w.drew := ⟨k0, hs.fr, hs.size, hs.defers⟩
  refine wp_mono (Q := onlyN QC) (wp_region_I (S := HeldP w0 ι H Fs Rs 0 (quietL (order.map fun p => (l.toArray[p.1]?, p.2))) { w with drawn := w.drawn + 1 }) hm ?_) (fun e a w hh => hh.1 ▸ hh.2)
  have := DOpsP_sound (P := P) (hl := hl) (md := .any) (QC := QC) (Fs := Fs) (Rs := Rs) h1 hdr (fun fr' H' ι' a' w' g1 g2 g3 => hQ .normal fr' H' ι' a' w' g1 g2 g3) order 0 _ fr H a { w with drawn := w.drawn + 1 } ι h3 h4 (by simpa using h) k1 hR k2
  rw [h2] at this
  simpa using this

/-! what was written to, forgotten and told again -/
def AH.clr (H : AH) : AH := ⟨H.ro, H.rw, fun _ => False⟩
def AH.also (H : AH) (X : Nat → Prop) : AH := ⟨H.ro, H.rw, fun j => H.wr j ∨ X j⟩
theorem clr_n (H : AH) : H.clr.n = H.n := nr rfl
theorem also_n (H : AH) (X : Nat → Prop) : (H.also X).n = H.n := nr rfl
theorem clr_cells (H : AH) (i : Nat) : H.clr.cells? i = H.cells? i := nr rfl
theorem also_cells (H : AH) (X : Nat → Prop) (i : Nat) : (H.also X).cells? i = H.cells? i := nr rfl
theorem clr_also (H : AH) : H.clr.also H.wr = H := by
  cases H; simp only [AH.clr, AH.also, false_or]
theorem also_push (H : AH) (b : Option ABlk) (X : Nat → Prop) : (H.push b).also X = (H.also X).push b := by
  simp only [AH.push, AH.also, or_assoc]
theorem also_set (H : AH) (i : Nat) (b : Option ABlk) (X : Nat → Prop) : (H.set i b).also X = (H.also X).set i b := by
  simp only [AH.set, AH.also, or_assoc]
theorem clr_wr (H : AH) (i : Nat) : H.clr.wr i = False := nr rfl
theorem push_wr (H : AH) (b : Option ABlk) (i : Nat) : (H.push b).wr i = (i = H.n ∨ H.wr i) := nr rfl
theorem set_wr (H : AH) (j : Nat) (b : Option ABlk) (i : Nat) : (H.set j b).wr i = (i = j ∨ H.wr i) := nr rfl
/-- The same, where reads may float over calls that leave their blocks alone. -/
theorem awp_drawH {P : Program} {N : Nat} {Q : Exit → AFr → AH → Prop} {fr : AFr} {H : AH} {id : Nat} {l : List Oper} (hl : List Nat) (Rs : List (AH → Prop)) (order : List (Nat × Option Nat)) (Fs : List Nat) (hm : P.follows .mixedOrders = true) (hd : dstsOk N l = true)
    (hok : (Region.noSelect l.toArray && order.length == l.length && phase Fs (Array.replicate l.length false) == 0 && drawOkP .any l.toArray Fs order 0 (Array.replicate l.length false)) = true) (hR : rofP Rs 0 H.clr)
    (h : DOpsP P l.toArray hl (fun fr' H' => Q .normal fr' (H'.also H.wr)) (order.map fun p => (l.toArray[p.1]?, p.2)) Rs fr H.clr) : AWp P N (.region id l.toArray true) Q fr H := fun ds w0 ι a w QC hs hQ =>
  awp_drawP (Q := fun e fr' H' => e = .normal ∧ Q .normal fr' (H'.also H.wr)) Rs order Fs hm hd hok hR (by simpa using h) ds w0 ι a w QC ⟨hs.rep.more _, hs.fr, hs.size, hs.defers⟩ fun e fr' H' ι' a' w' ⟨g0, g1⟩ g2 g3 => by
    subst g0
    refine hQ .normal fr' _ ι' a' w' g1 ⟨g2.rep.more _, g2.fr, g2.size, g2.defers⟩ ?_
    exact ⟨g3.ro, g3.len, g3.loc, g3.pend, g3.size, g3.frame, g3.img, fun i hi => .inr hi, fun i B O m hi hB hn => g3.still i B O m hi hB fun e => hn (.inl e)⟩

/-! for simp -/
def roV : AV → Bool
  | .ptr p => p.ro
  | _ => false
theorem roV_ptr {p : AAddr} : roV (.ptr p) = p.ro := nr rfl
theorem roV_c {v v' : AV} (h : mark v = v') : roV v = roV v' := by rw [← h, mark_eq]
theorem quietL_nil : quietL [] = 0 := rfl
theorem quietL_free {o : Oper} {n : Nat} {l : List (Option Oper × Option Nat)} : quietL ((some o, some n) :: l) = quietL l := nr rfl
theorem quietL_none {d : Option Tmp} {op : Op} {ty : TypeId} {ps : String} {af : Array Edge} {l : List (Option Oper × Option Nat)} : quietL ((some ⟨d, op, ty, ps, af, none⟩, none) :: l) = if allocOp op = true then quietL l + 1 else 0 := by simp [quietL]
theorem quietL_grd {d : Option Tmp} {op : Op} {ty : TypeId} {ps : String} {af : Array Edge} {g : Nat × Bool} {l : List (Option Oper × Option Nat)} : quietL ((some ⟨d, op, ty, ps, af, some g⟩, none) :: l) = 0 := by simp [quietL]
theorem le_le0 {n : Nat} : (n + 1 ≤ 0) = False := by simp
theorem le_sle {n m : Nat} : (n + 1 ≤ m + 1) = (n ≤ m) := by simp
theorem le_0l {m : Nat} : (0 ≤ m) = True := by simp
def rigP (Rs : List (AH → Prop)) (n : Nat) (H : AH) (v : AV) : Prop := n = 0 ∨ (rigidA H v = true ∧ allP (fun K => rigidA K v = true) ((Rs.drop 1).take n))
def sameP (Rs : List (AH → Prop)) (n : Nat) (H : AH) (f : AH → Option (AV × AH)) (v : AV) : Prop := n = 0 ∨ (rigidA H v = true ∧ allP (fun K => f K = some (v, K) ∧ rigidA K v = true) ((Rs.drop 1).take n))
theorem sameP_c {Rs : List (AH → Prop)} {n : Nat} {H : AH} {f : AH → Option (AV × AH)} {v v' : AV} (h : mark v = v') : sameP Rs n H f v = sameP Rs n H f v' := by rw [← h, mark_eq]
theorem rigP_c {Rs : List (AH → Prop)} {n : Nat} {H : AH} {v v' : AV} (h : mark v = v') : rigP Rs n H v = rigP Rs n H v' := by rw [← h, mark_eq]
theorem allP_triv {φ : AH → Prop} (h : ∀ K, φ K) : ∀ l, allP φ l
  | [] => trivial
  | R :: l => ⟨fun K _ => h K, allP_triv h l⟩
section
variable {P : Program} {ops : Array Oper} {hs : List Nat} {Rs : List (AH → Prop)} {n : Nat} {Q : AFr → AH → Prop} {rest : List (Option Oper × Option Nat)} {fr : AFr} {H : AH} {ty : TypeId} {ps : String} {af : Array Edge} {d : Tmp}

theorem rigP_int {k : IntKind} {i : Int} : rigP Rs n H (.int k i) = True := eq_true (.inr ⟨rfl, allP_triv (fun _ => rfl) _⟩)
theorem rigP_bool {b : Bool} : rigP Rs n H (.bool b) = True := eq_true (.inr ⟨rfl, allP_triv (fun _ => rfl) _⟩)
theorem rigP_bv {b : UInt8} : rigP Rs n H (bv b) = True := rigP_int
theorem rigP_str {b : ByteArray} : rigP Rs n H (.str b) = True := eq_true (.inr ⟨rfl, allP_triv (fun _ => rfl) _⟩)
theorem rigP_nilptr : rigP Rs n H .nilptr = True := eq_true (.inr ⟨rfl, allP_triv (fun _ => rfl) _⟩)
theorem rigP_nilslice : rigP Rs n H .nilslice = True := eq_true (.inr ⟨rfl, allP_triv (fun _ => rfl) _⟩)
theorem rigP_ro {b o : Nat} : rigP Rs n H (.ptr ⟨true, b, o⟩) = True := eq_true (.inr ⟨rfl, allP_triv (fun _ => rfl) _⟩)
theorem rigP_z {v : AV} : rigP Rs 0 H v = True := eq_true (.inl rfl)
theorem sameP_z {f : AH → Option (AV × AH)} {v : AV} : sameP Rs 0 H f v = True := eq_true (.inl rfl)
theorem rigP_0 {R0 : AH → Prop} {X : AH} {l : List (AH → Prop)} {v : AV} : rigP (R0 :: eqM X :: l) 1 H v = (rigidA H v = true ∧ rigidA X v = true) := by
  simp only [rigP, List.drop_succ_cons, List.drop_zero, List.take_succ_cons, List.take_zero, allP, eqM, and_true, Nat.succ_ne_zero, false_or]
  exact propext ⟨fun ⟨h1, h2⟩ => ⟨h1, h2 X rfl⟩, fun ⟨h1, h2⟩ => ⟨h1, fun K e => by rw [e]; exact h2⟩⟩
theorem rigP_s {R0 : AH → Prop} {X : AH} {l : List (AH → Prop)} {v : AV} : rigP (R0 :: eqM X :: l) (n + 2) H v = (rigidA X v = true ∧ rigP (eqM X :: l) (n + 1) H v) := by
  simp only [rigP, List.drop_succ_cons, List.drop_zero, List.take_succ_cons, allP, eqM, Nat.succ_ne_zero, false_or]
  exact propext ⟨fun ⟨h1, h2, h3⟩ => ⟨h2 X rfl, h1, h3⟩, fun ⟨h2, h1, h3⟩ => ⟨h1, fun K e => by rw [e]; exact h2, h3⟩⟩
theorem sameP_0 {R0 : AH → Prop} {X : AH} {l : List (AH → Prop)} {f : AH → Option (AV × AH)} {v : AV} : sameP (R0 :: eqM X :: l) 1 H f v = (rigidA H v = true ∧ f X = some (v, X) ∧ rigidA X v = true) := by
  simp only [sameP, List.drop_succ_cons, List.drop_zero, List.take_succ_cons, List.take_zero, allP, eqM, and_true, Nat.succ_ne_zero, false_or]
  exact propext ⟨fun ⟨h1, h2⟩ => ⟨h1, h2 X rfl⟩, fun ⟨h1, h2⟩ => ⟨h1, fun K e => by rw [e]; exact h2⟩⟩
theorem sameP_s {R0 : AH → Prop} {X : AH} {l : List (AH → Prop)} {f : AH → Option (AV × AH)} {v : AV} : sameP (R0 :: eqM X :: l) (n + 2) H f v = ((f X = some (v, X) ∧ rigidA X v = true) ∧ sameP (eqM X :: l) (n + 1) H f v) := by
  simp only [sameP, List.drop_succ_cons, List.drop_zero, List.take_succ_cons, allP, eqM, Nat.succ_ne_zero, false_or]
  exact propext ⟨fun ⟨h1, h2, h3⟩ => ⟨h2 X rfl, h1, h3⟩, fun ⟨h2, h1, h3⟩ => ⟨h1, fun K e => by rw [e]; exact h2, h3⟩⟩

/-- Whatever is known of the next phase (given by hand: it takes in 'eqM' too). -/
theorem sameP_g {R0 R1 : AH → Prop} {l : List (AH → Prop)} {f : AH → Option (AV × AH)} {v : AV} : sameP (R0 :: R1 :: l) 1 H f v = (rigidA H v = true ∧ ∀ K, R1 K → f K = some (v, K) ∧ rigidA K v = true) := by
  simp only [sameP, List.drop_succ_cons, List.drop_zero, List.take_succ_cons, List.take_zero, allP, and_true, Nat.succ_ne_zero, false_or]
theorem rigP_g {R0 R1 : AH → Prop} {l : List (AH → Prop)} {v : AV} : rigP (R0 :: R1 :: l) 1 H v = (rigidA H v = true ∧ ∀ K, R1 K → rigidA K v = true) := by
  simp only [rigP, List.drop_succ_cons, List.drop_zero, List.take_succ_cons, List.take_zero, allP, and_true, Nat.succ_ne_zero, false_or]
theorem DP_nil : DOpsP P ops hs Q [] Rs fr H = Q fr H := nr rfl
theorem DP_none {o : Oper} {R0 R1 : AH → Prop} {l : List (AH → Prop)} : DOpsP P ops hs Q ((some o, none) :: rest) (R0 :: R1 :: l) fr H = AOps P ops (fun fr' H' => R1 H' ∧ DOpsP P ops hs Q rest (R1 :: l) fr' H') [o] fr H := nr rfl
theorem DP_grd {d : Option Tmp} {op : Op} {j : Nat} {want : Bool} :
    DOpsP P ops hs Q ((some ⟨d, op, ty, ps, af, some (j, want)⟩, some n) :: rest) Rs fr H = ifG (gval (gdst ops j) fr want) (DOpsP P ops hs Q rest Rs (putA fr d (.tup [])) H) (DOpsP P ops hs Q ((some ⟨d, op, ty, ps, af, none⟩, some n) :: rest) Rs fr H) := by
  simp only [DOpsP, guardA, ifG]
  unfold gdst gval
  cases (ops[j]?).bind (·.dst) <;> rfl
theorem DP_plain {op : Op} : DOpsP P ops hs Q ((some ⟨some d, op, ty, ps, af, none⟩, some n) :: rest) Rs fr H = opThen (opA P fr H op) fun v _ => StillP P (heldD hs (some d)) Rs n (quietL rest) fr H op v ∧ DOpsP P ops hs Q rest Rs (lput fr d v) H := by
  simp only [DOpsP, guardA, ifG, putA]
theorem DP_move {x : Operand} : DOpsP P ops hs Q ((some ⟨some d, .move x, ty, ps, af, none⟩, some n) :: rest) Rs fr H = DOpsP P ops hs Q rest Rs (lput fr d (aeval fr x)) H := by
  rw [DP_plain]; simp [opA, opThen, StillP, copyOp]
theorem DP_assign {x : Operand} : DOpsP P ops hs Q ((some ⟨some d, .assign x, ty, ps, af, none⟩, some n) :: rest) Rs fr H = DOpsP P ops hs Q rest Rs (lput fr d (aeval fr x)) H := by
  rw [DP_plain]; simp [opA, opThen, StillP, copyOp]
theorem stillP_copy {b : Bool} {q : Nat} {op : Op} {v : AV} (h : copyOp op = true) : StillP P b Rs n q fr H op v = True := by simp [StillP, h]
theorem DP_pick {c x y : Operand} : DOpsP P ops hs Q ((some ⟨some d, .pick c x y, ty, ps, af, none⟩, some n) :: rest) Rs fr H = opThen (match aeval fr c with | .bool t => some (if t then aeval fr x else aeval fr y, H) | _ => none) fun v _ => DOpsP P ops hs Q rest Rs (lput fr d v) H := by
  rw [DP_plain]; simp only [stillP_copy (show copyOp (.pick c x y) = true from rfl), true_and, opA]; rfl
theorem DP_nilCheck {x : Operand} : DOpsP P ops hs Q ((some ⟨some d, .nilCheck x, ty, ps, af, none⟩, some n) :: rest) Rs fr H = opThen (match aeval fr x with | .ptr p => some (.ptr p, H) | .func f l => some (.func f l, H) | _ => none) fun v _ => DOpsP P ops hs Q rest Rs (lput fr d v) H := by
  rw [DP_plain]; simp only [stillP_copy (show copyOp (.nilCheck x) = true from rfl), true_and, opA]; rfl
theorem DP_extract {x : Operand} {m : Nat} : DOpsP P ops hs Q ((some ⟨some d, .extract x m, ty, ps, af, none⟩, some n) :: rest) Rs fr H = opThen (match aeval fr x with | .tup l => (l[m]?).map fun v => (v, H) | _ => none) fun v _ => DOpsP P ops hs Q rest Rs (lput fr d v) H := by
  rw [DP_plain]; simp only [stillP_copy (show copyOp (.extract x m) = true from rfl), true_and, opA]; rfl
theorem DP_slice {t : TypeId} {x : Operand} {lo hi mx : Option Operand} : DOpsP P ops hs Q ((some ⟨some d, .slice t x lo hi mx, ty, ps, af, none⟩, some n) :: rest) Rs fr H = opThen ((sliceOpA P t (aeval fr x) (lo.map (aeval fr)) (hi.map (aeval fr)) (mx.map (aeval fr))).map fun v => (v, H)) fun v _ => DOpsP P ops hs Q rest Rs (lput fr d v) H := by
  rw [DP_plain]; simp only [stillP_copy (show copyOp (.slice t x lo hi mx) = true from rfl), true_and, opA]
theorem DP_buildP {t : TypeId} {q : List (Nat × Operand)} : DOpsP P ops hs Q ((some ⟨some d, .build t q.toArray, ty, ps, af, none⟩, some n) :: rest) Rs fr H = opThen ((buildA P t (partsA fr q)).map fun v => (v, H)) fun v _ => DOpsP P ops hs Q rest Rs (lput fr d v) H := by
  rw [DP_plain]; simp only [stillP_copy (show copyOp (.build t q.toArray) = true from rfl), true_and, opA, ← partsA_eq, mark_eq]

def heldV (Rs : List (AH → Prop)) (n : Nat) (x : AV) : Prop := n = 0 ∨ match x with
  | .ptr p => p.ro = false ∧ allP (fun K => ¬ K.wr p.blk) ((Rs.drop 1).take n)
  | _ => False
def ldP (b : Bool) (Rs : List (AH → Prop)) (n : Nat) (H : AH) (f : AH → Option (AV × AH)) (x v : AV) : Prop := if b then heldV Rs n x else sameP Rs n H f v
theorem ldP_f {f : AH → Option (AV × AH)} {x v : AV} : ldP false Rs n H f x v = sameP Rs n H f v := nr rfl
theorem ldP_t {f : AH → Option (AV × AH)} {x v : AV} : ldP true Rs n H f x v = heldV Rs n x := nr rfl
theorem ldP_c {b b' : Bool} {f : AH → Option (AV × AH)} {x v : AV} (h : mark b = b') : ldP b Rs n H f x v = ldP b' Rs n H f x v := by rw [← h, mark_eq]
theorem heldD_nil {d : Tmp} : heldD [] (some d) = false := nr rfl
theorem heldD_cons {h d : Nat} {l : List Nat} : heldD (h :: l) (some d) = if d = h then true else heldD l (some d) := nr rfl
theorem heldV_c {x x' : AV} (h : mark x = x') : heldV Rs n x = heldV Rs n x' := by rw [← h, mark_eq]
theorem heldV_z {x : AV} : heldV Rs 0 x = True := eq_true (.inl rfl)
theorem heldV_1 {R0 R1 : AH → Prop} {l : List (AH → Prop)} {i o : Nat} : heldV (R0 :: R1 :: l) 1 (.ptr ⟨false, i, o⟩) = ∀ K, R1 K → ¬ K.wr i := by
  simp only [heldV, List.drop_succ_cons, List.drop_zero, List.take_succ_cons, List.take_zero, allP, and_true, Nat.succ_ne_zero, false_or, true_and]
theorem heldV_01 {R0 R1 : AH → Prop} {l : List (AH → Prop)} {i o : Nat} : heldV (R0 :: R1 :: l) (0 + 1) (.ptr ⟨false, i, o⟩) = ∀ K, R1 K → ¬ K.wr i := heldV_1
theorem heldV_s {R0 R1 : AH → Prop} {l : List (AH → Prop)} {i o : Nat} : heldV (R0 :: R1 :: l) (n + 2) (.ptr ⟨false, i, o⟩) = ((∀ K, R1 K → ¬ K.wr i) ∧ heldV (R1 :: l) (n + 1) (.ptr ⟨false, i, o⟩)) := by
  simp only [heldV, List.drop_succ_cons, List.drop_zero, List.take_succ_cons, allP, Nat.succ_ne_zero, false_or, true_and]
theorem DP_pure {op : Op} (f : Option AV) (h0 : isLoad op = false) (h1 : copyOp op = false) (h2 : stillOp op = true) (h3 : ∀ v, convOk op v = true) (hf : ∀ H, opA P fr H op = f.map fun v => (v, H)) :
    DOpsP P ops hs Q ((some ⟨some d, op, ty, ps, af, none⟩, some n) :: rest) Rs fr H = opThen (f.map fun v => (v, H)) fun v _ => rigP Rs n H v ∧ DOpsP P ops hs Q rest Rs (lput fr d v) H := by
  rw [DP_plain, hf H]
  cases f with
  | none => rfl
  | some v =>
    have e : loadOf fr op = none := by cases op <;> first | rfl | (simp [isLoad] at h0)
    simp only [Option.map_some, opThen, StillP, h0, h1, h2, h3, e, Bool.false_eq_true, false_or, true_and, false_and, rigP, hf, Option.map_some, reduceCtorEq, exists_false, and_false, Bool.and_false]
theorem DP_binOp {op : BinOp} {t t2 : TypeId} {x y : Operand} : DOpsP P ops hs Q ((some ⟨some d, .binOp op t x y t2, ty, ps, af, none⟩, some n) :: rest) Rs fr H = opThen ((binA P op t (aeval fr x) (aeval fr y)).map fun v => (v, H)) fun v _ => rigP Rs n H v ∧ DOpsP P ops hs Q rest Rs (lput fr d v) H := DP_pure _ rfl rfl rfl (fun _ => rfl) fun _ => rfl
theorem DP_unOp {op : UnOp} {t : TypeId} {x : Operand} : DOpsP P ops hs Q ((some ⟨some d, .unOp op t x, ty, ps, af, none⟩, some n) :: rest) Rs fr H = opThen ((unA op (aeval fr x)).map fun v => (v, H)) fun v _ => rigP Rs n H v ∧ DOpsP P ops hs Q rest Rs (lput fr d v) H := DP_pure _ rfl rfl rfl (fun _ => rfl) fun _ => rfl
theorem DP_fieldAddr {t : TypeId} {x : Operand} {f : Nat} : DOpsP P ops hs Q ((some ⟨some d, .fieldAddr t x f, ty, ps, af, none⟩, some n) :: rest) Rs fr H = opThen ((fieldAddrA P t (aeval fr x) f).map fun v => (v, H)) fun v _ => rigP Rs n H v ∧ DOpsP P ops hs Q rest Rs (lput fr d v) H := DP_pure _ rfl rfl rfl (fun _ => rfl) fun _ => rfl
theorem DP_field {t : TypeId} {x : Operand} {f : Nat} : DOpsP P ops hs Q ((some ⟨some d, .field t x f, ty, ps, af, none⟩, some n) :: rest) Rs fr H = opThen ((fieldA P t (aeval fr x) f).map fun v => (v, H)) fun v _ => rigP Rs n H v ∧ DOpsP P ops hs Q rest Rs (lput fr d v) H := DP_pure _ rfl rfl rfl (fun _ => rfl) fun _ => rfl
theorem DP_indexAddr {t : TypeId} {x y : Operand} : DOpsP P ops hs Q ((some ⟨some d, .indexAddr t x y, ty, ps, af, none⟩, some n) :: rest) Rs fr H = opThen ((indexAddrA P t (aeval fr x) (aeval fr y)).map fun v => (v, H)) fun v _ => rigP Rs n H v ∧ DOpsP P ops hs Q rest Rs (lput fr d v) H := DP_pure _ rfl rfl rfl (fun _ => rfl) fun _ => rfl
theorem DP_index {t : TypeId} {x y : Operand} : DOpsP P ops hs Q ((some ⟨some d, .index t x y, ty, ps, af, none⟩, some n) :: rest) Rs fr H = opThen ((indexA P t (aeval fr x) (aeval fr y)).map fun v => (v, H)) fun v _ => rigP Rs n H v ∧ DOpsP P ops hs Q rest Rs (lput fr d v) H := DP_pure _ rfl rfl rfl (fun _ => rfl) fun _ => rfl
theorem DP_len {t : TypeId} {x : Operand} : DOpsP P ops hs Q ((some ⟨some d, .call ⟨.builtin .len, #[x], #[t]⟩, ty, ps, af, none⟩, some n) :: rest) Rs fr H = opThen ((lenA P t (aeval fr x)).map fun v => (v, H)) fun v _ => rigP Rs n H v ∧ DOpsP P ops hs Q rest Rs (lput fr d v) H := DP_pure _ rfl rfl rfl (fun _ => rfl) fun _ => rfl
theorem DP_min {ts : Array TypeId} {x y : Operand} : DOpsP P ops hs Q ((some ⟨some d, .call ⟨.builtin .min, #[x, y], ts⟩, ty, ps, af, none⟩, some n) :: rest) Rs fr H = opThen ((foldA min2A (aeval fr x) [aeval fr y]).map fun v => (v, H)) fun v _ => rigP Rs n H v ∧ DOpsP P ops hs Q rest Rs (lput fr d v) H := DP_pure _ rfl rfl rfl (fun _ => rfl) fun _ => rfl
theorem DP_max {ts : Array TypeId} {x y : Operand} : DOpsP P ops hs Q ((some ⟨some d, .call ⟨.builtin .max, #[x, y], ts⟩, ty, ps, af, none⟩, some n) :: rest) Rs fr H = opThen ((foldA max2A (aeval fr x) [aeval fr y]).map fun v => (v, H)) fun v _ => rigP Rs n H v ∧ DOpsP P ops hs Q rest Rs (lput fr d v) H := DP_pure _ rfl rfl rfl (fun _ => rfl) fun _ => rfl
theorem DP_load {t : TypeId} {x : Operand} : DOpsP P ops hs Q ((some ⟨some d, .load t x, ty, ps, af, none⟩, some n) :: rest) Rs fr H = opThen (match aeval fr x with | .ptr p => (loadA P t p H).map fun v => (v, H) | _ => none) fun v _ => (n ≤ quietL rest ∨ roV (aeval fr x) = true ∨ ldP (heldD hs (some d)) Rs n H (fun H' => opA P fr H' (.load t x)) (aeval fr x) v) ∧ DOpsP P ops hs Q rest Rs (lput fr d v) H := by
  rw [DP_plain]
  have : ∀ v, StillP P (heldD hs (some d)) Rs n (quietL rest) fr H (.load t x) v = (n ≤ quietL rest ∨ roV (aeval fr x) = true ∨ ldP (heldD hs (some d)) Rs n H (fun H' => opA P fr H' (.load t x)) (aeval fr x) v) := fun v => by
    have e : loadRo fr (.load t x) = roV (aeval fr x) := by simp only [loadRo, roV]
    have e2 : (∃ i, loadOf fr (.load t x) = some i ∧ allP (fun K => ¬ K.wr i) ((Rs.drop 1).take n)) = (match aeval fr x with | .ptr p => p.ro = false ∧ allP (fun K => ¬ K.wr p.blk) ((Rs.drop 1).take n) | _ => False) := by
      simp only [loadOf]
      cases aeval fr x with
      | ptr p =>
        simp only
        cases p.ro with
        | true => simp
        | false => simp
      | _ => simp
    simp only [StillP, copyOp, stillOp, convOk, isLoad, e, e2, Bool.false_eq_true, false_or, true_and, sameP, ldP, heldV, Bool.and_true]
    apply propext
    cases heldD hs (some d) with
    | false =>
      simp only [Bool.false_eq_true, if_false, false_and, true_and, false_or, reduceCtorEq]
      constructor
      · rintro (h | (h | h) | h)
        · exact .inl (by omega)
        · exact .inl h
        · exact .inr (.inl h)
        · exact .inr (.inr (.inr h))
      · rintro (h | h | h | h)
        · exact .inr (.inl (.inl h))
        · exact .inr (.inl (.inr h))
        · exact .inl h
        · exact .inr (.inr h)
    | true =>
      simp only [if_true, true_and, reduceCtorEq, false_and, or_false]
      constructor
      · rintro (h | (h | h) | h)
        · exact .inl (by omega)
        · exact .inl h
        · exact .inr (.inl h)
        · exact .inr (.inr (.inr h))
      · rintro (h | h | h | h)
        · exact .inr (.inl (.inl h))
        · exact .inr (.inl (.inr h))
        · exact .inl h
        · exact .inr (.inr h)
  simp only [this]
  rfl
theorem DP_convert {t t2 : TypeId} {x : Operand} : DOpsP P ops hs Q ((some ⟨some d, .convert t t2 x, ty, ps, af, none⟩, some n) :: rest) Rs fr H = opThen (convertA P t t2 (aeval fr x) H) fun v _ => (convOk (.convert t t2 x) v = true ∧ sameP Rs n H (fun H' => convertA P t t2 (aeval fr x) H') v) ∧ DOpsP P ops hs Q rest Rs (lput fr d v) H := by
  rw [DP_plain]
  have : ∀ v, StillP P (heldD hs (some d)) Rs n (quietL rest) fr H (.convert t t2 x) v = (convOk (.convert t t2 x) v = true ∧ sameP Rs n H (fun H' => convertA P t t2 (aeval fr x) H') v) := fun v => by
    have e : loadOf fr (.convert t t2 x) = none := rfl
    simp only [StillP, copyOp, stillOp, isLoad, e, Bool.false_eq_true, false_or, true_and, false_and, sameP, opA, reduceCtorEq, exists_false, and_false, Bool.and_false]
  simp only [this]
  rfl
theorem DOpsP_c {l : List (Option Oper × Option Nat)} {fr' : AFr} {H' : AH} (h1 : mark fr = fr') (h2 : mark H = H') : DOpsP P ops hs Q l Rs fr H = DOpsP P ops hs Q l Rs fr' H' := by rw [← h1, ← h2, mark_eq, mark_eq]
end
theorem eqM_self {X : AH} : eqM X X = True := eq_true rfl
theorem eqM_def {X K : AH} : eqM X K = (K = X) := rfl
theorem rofP_0 {R : AH → Prop} {l : List (AH → Prop)} {H : AH} (h : R H) : rofP (R :: l) 0 H := ⟨R, rfl, h⟩

theorem get_live {H : AH} {a : AAddr} {l : List AV} (h : H.get a = some l) : (a.ro || (H.cells? a.blk).isSome) = true := by
  unfold AH.get at h
  cases hr : a.ro with
  | true => rfl
  | false => rw [hr] at h; simp only [Bool.false_eq_true, if_false] at h; simp [h]
theorem Row.live {H : AH} {sz : Nat} {v : AV} {n : Nat} {cs : List AV} (h : Row H sz v n cs) {i : Nat} (hi : i < n) : ((eltA v i sz).ro || (H.cells? (eltA v i sz).blk).isSome) = true := by
  rcases h.elim with ⟨rfl, rfl, _⟩ | ⟨a, c, l, rfl, hg, hb, rfl⟩
  · omega
  · have := get_live hg
    exact this
theorem IsBytes.live {H : AH} {v : AV} {xs : List UInt8} (h : IsBytes H v xs) {i : Nat} (hi : i < xs.length) : ((eltA v i 1).ro || (H.cells? (eltA v i 1).blk).isSome) = true := h.toRow.live hi
attribute [go_sem] roV_ptr quietL_nil quietL_free quietL_none quietL_grd allocOp le_le0 le_sle le_0l true_or or_true false_or or_false DP_nilCheck
attribute [congr] roV_c
theorem rigP_01 {R0 : AH → Prop} {X H : AH} {l : List (AH → Prop)} {v : AV} : rigP (R0 :: eqM X :: l) (0 + 1) H v = (rigidA H v = true ∧ rigidA X v = true) := rigP_0
theorem sameP_01 {R0 : AH → Prop} {X H : AH} {l : List (AH → Prop)} {f : AH → Option (AV × AH)} {v : AV} : sameP (R0 :: eqM X :: l) (0 + 1) H f v = (rigidA H v = true ∧ f X = some (v, X) ∧ rigidA X v = true) := sameP_0
theorem rigP_gs {R0 R1 : AH → Prop} {H : AH} {n : Nat} {l : List (AH → Prop)} {v : AV} : rigP (R0 :: R1 :: l) (n + 2) H v = ((∀ K, R1 K → rigidA K v = true) ∧ rigP (R1 :: l) (n + 1) H v) := by
  simp only [rigP, List.drop_succ_cons, List.drop_zero, List.take_succ_cons, allP, Nat.succ_ne_zero, false_or]
  apply propext
  constructor
  · rintro ⟨h1, h2, h3⟩; exact ⟨h2, h1, h3⟩
  · rintro ⟨h2, h1, h3⟩; exact ⟨h1, h2, h3⟩
theorem sameP_gs {R0 R1 : AH → Prop} {H : AH} {n : Nat} {l : List (AH → Prop)} {f : AH → Option (AV × AH)} {v : AV} : sameP (R0 :: R1 :: l) (n + 2) H f v = ((∀ K, R1 K → f K = some (v, K) ∧ rigidA K v = true) ∧ sameP (R1 :: l) (n + 1) H f v) := by
  simp only [sameP, List.drop_succ_cons, List.drop_zero, List.take_succ_cons, allP, Nat.succ_ne_zero, false_or]
  apply propext
  constructor
  · rintro ⟨h1, h2, h3⟩; exact ⟨h2, h1, h3⟩
  · rintro ⟨h2, h1, h3⟩; exact ⟨h1, h2, h3⟩
theorem rigP_g1 {R0 R1 : AH → Prop} {H : AH} {l : List (AH → Prop)} {v : AV} : rigP (R0 :: R1 :: l) (0 + 1) H v = (rigidA H v = true ∧ ∀ K, R1 K → rigidA K v = true) := rigP_g
theorem sameP_g1 {R0 R1 : AH → Prop} {H : AH} {l : List (AH → Prop)} {f : AH → Option (AV × AH)} {v : AV} : sameP (R0 :: R1 :: l) (0 + 1) H f v = (rigidA H v = true ∧ ∀ K, R1 K → f K = some (v, K) ∧ rigidA K v = true) := sameP_g
attribute [go_sem] rigP_z sameP_z rigP_01 sameP_01 rigP_int rigP_bool rigP_bv rigP_str rigP_nilptr rigP_nilslice rigP_ro rigP_0 rigP_s sameP_0 sameP_s DP_nil DP_none DP_grd DP_move DP_assign DP_pick DP_extract DP_slice DP_buildP DP_binOp DP_unOp DP_fieldAddr DP_field DP_indexAddr DP_index DP_len DP_min DP_max DP_load DP_convert eqM_self
/-! calls that leave all that there is as it is -/
theorem Grew.unwr {H K : AH} (g : Grew H.clr K) {i : Nat} (hi : i < H.n) : ¬ K.wr i := fun h => (g.wr i h).elim id fun h => absurd h (by rw [clr_n]; omega)
theorem gq_wr {H : AH} {i : Nat} (hi : i < H.n) : (∀ K, Grew H.clr K → ¬ K.wr i) = True := eq_true fun K g => g.unwr hi
theorem gq_live {H : AH} {i : Nat} (hi : (H.cells? i).isSome = true) : (∀ K, Grew H.clr K → (K.cells? i).isSome = true) = True := eq_true fun K g => by
  obtain ⟨l, hl⟩ := Option.isSome_iff_exists.1 hi
  rw [g.cells_some (i := i) (l := l) (by rw [clr_cells]; exact hl)]; rfl
theorem Grew.clr_self (H : AH) : Grew H H.clr := ⟨rfl, Nat.le_refl _, fun _ _ => rfl, fun _ h => h.elim⟩
theorem Grew.clr {H H' : AH} (h : Grew H H') : Grew H.clr H'.clr := ⟨h.ro, h.n, h.old, fun _ h => h.elim⟩
theorem Grew.also {H H' : AH} (h : Grew H.clr H') : Grew H (H'.also H.wr) := ⟨h.ro, h.n, h.old, fun i hi => hi.elim (fun e => (h.wr i e).elim False.elim .inr) .inl⟩
theorem Grew.also0 {H0 H H' : AH} (g : Grew H0 H) (h : Grew H.clr H') : Grew H0 (H'.also H.wr) := g.trans h.also
theorem cells_clr {H : AH} {i : Nat} {l : List AV} (h : H.cells? i = some l) : H.clr.cells? i = some l := h
theorem Row.clr {H : AH} {sz : Nat} {v : AV} {n : Nat} {cs : List AV} (h : Row H sz v n cs) : Row H.clr sz v n cs := ⟨h.row, h.len, h.sl⟩
theorem IsBytes.clr {H : AH} {v : AV} {xs : List UInt8} (h : IsBytes H v xs) : IsBytes H.clr v xs := ⟨h.row, h.len, h.sl⟩
theorem IsBytes.also {H : AH} {X : Nat → Prop} {v : AV} {xs : List UInt8} (h : IsBytes H v xs) : IsBytes (H.also X) v xs := ⟨h.row, h.len, h.sl⟩
attribute [go_sem] gq_wr gq_live
attribute [go_sem] ldP_f ldP_t heldD_nil heldD_cons heldV_z heldV_1 heldV_01 heldV_s clr_n also_n clr_cells also_cells clr_also also_push also_set clr_wr push_wr set_wr
attribute [congr] DOpsP_c sameP_c rigP_c ldP_c heldV_c

end Go.Abs

/- What a call changes: all old blocks but some are as they were. -/
set_option linter.unusedVariables false
set_option linter.unusedSimpArgs false
namespace Go.Abs
open Go Go.RowKit

/-- New blocks may have come; of the old ones only these may have changed. -/
structure Chg (S : List Nat) (H H' : AH) : Prop where
  ro : H'.ro = H.ro
  n : H.n ≤ H'.n
  old : ∀ i, i < H.n → i ∉ S → H'.rw[i]? = H.rw[i]?
  wr : ∀ i, H'.wr i → H.wr i ∨ i ∈ S ∨ H.n ≤ i

theorem Chg.refl (S : List Nat) (H : AH) : Chg S H H := ⟨rfl, Nat.le_refl _, fun _ _ _ => rfl, fun _ h => .inl h⟩
theorem Chg.mono {S S' : List Nat} {H H' : AH} (h : Chg S H H') (hs : ∀ i ∈ S, i ∈ S') : Chg S' H H' := ⟨h.ro, h.n, fun i hi hn => h.old i hi fun hm => hn (hs i hm), fun i hi => (h.wr i hi).imp id (.imp (hs i) id)⟩
/-- New blocks of the first step may be changed by the second one. -/
theorem Chg.trans' {S S' : List Nat} {H H' H'' : AH} (h : Chg S H H') (k : Chg S' H' H'') (hs : ∀ i ∈ S', i ∈ S ∨ H.n ≤ i) : Chg S H H'' :=
  ⟨k.ro.trans h.ro, Nat.le_trans h.n k.n, fun i hi hn => (k.old i (Nat.lt_of_lt_of_le hi h.n) fun hm => by rcases hs i hm with h1 | h1; exact hn h1; omega).trans (h.old i hi hn), fun i hi => by
    rcases k.wr i hi with h1 | h1 | h1
    · exact h.wr i h1
    · exact .inr (hs i h1)
    · exact .inr (.inr (Nat.le_trans h.n h1))⟩
theorem Chg.trans {S : List Nat} {H H' H'' : AH} (h : Chg S H H') (k : Chg S H' H'') : Chg S H H'' := h.trans' k fun i hi => .inl hi
theorem Grew.chg {H H' : AH} (h : Grew H H') (S : List Nat) : Chg S H H' := ⟨h.ro, h.n, fun i hi _ => h.old i hi, fun i hi => (h.wr i hi).imp id .inr⟩
theorem Chg.grew {S : List Nat} {H H' : AH} (h : Chg S H H') (hs : ∀ i ∈ S, H.n ≤ i) : Grew H H' := ⟨h.ro, h.n, fun i hi => h.old i hi fun hm => by have := hs i hm; omega, fun i hi => (h.wr i hi).imp id fun e => e.elim (hs i) id⟩
theorem Chg.set (H : AH) (i : Nat) (b : Option ABlk) {S : List Nat} (hi : i ∈ S) : Chg S H (H.set i b) := ⟨rfl, by rw [set_n]; exact Nat.le_refl _, fun j hj hn => by
  simp only [AH.set]; rw [List.getElem?_set, if_neg (fun e : i = j => hn (by rw [← e]; exact hi))], fun j hj => hj.elim (fun e => .inr (.inl (e ▸ hi))) .inl⟩
theorem Chg.thenSet {S : List Nat} {H H' : AH} (h : Chg S H H') {i : Nat} (b : Option ABlk) (hi : i ∈ S ∨ H.n ≤ i) : Chg S H (H'.set i b) :=
  h.trans' (Chg.set H' i b (S := [i]) (by simp)) fun j hj => by simp at hj; subst hj; exact hi
theorem Chg.cells {S : List Nat} {H H' : AH} (h : Chg S H H') {i : Nat} (hi : i ∉ S) {l : List AV} (hc : H.cells? i = some l) : H'.cells? i = some l := by
  have := cells_lt hc
  unfold AH.cells? at *
  rw [h.old i this hi]
  exact hc

/-- A slice that lies in none of these blocks. -/
def offB (S : List Nat) : AV → Prop
  | .slice a _ _ => a.ro = true ∨ a.blk ∉ S
  | .ptr a => a.ro = true ∨ a.blk ∉ S
  | _ => True

theorem Chg.get {S : List Nat} {H H' : AH} (h : Chg S H H') {a : AAddr} (ha : a.ro = true ∨ a.blk ∉ S) {l : List AV} (hl : H.get a = some l) : H'.get a = some l := by
  unfold AH.get at *
  split
  · rename_i hr; rw [if_pos hr] at hl; rw [h.ro]; exact hl
  · rename_i hr
    rw [if_neg hr] at hl
    rcases ha with h1 | h1
    · exact absurd h1 hr
    · exact h.cells h1 hl
theorem Chg.row {S : List Nat} {H H' : AH} (h : Chg S H H') {sz : Nat} {v : AV} (ho : offB S v) {l : List AV} (hl : rowA H sz v = some l) : rowA H' sz v = some l := by
  cases v with
  | nilslice => exact hl
  | slice a n c =>
    simp only [rowA] at hl ⊢
    obtain ⟨cs, h1, h2⟩ := Option.bind_eq_some_iff.1 hl
    rw [h.get ho h1]
    exact h2
  | _ => simp only [rowA] at hl; cases hl
theorem Row.chg {S : List Nat} {H H' : AH} {sz : Nat} {v : AV} {n : Nat} {cs : List AV} (k : Row H sz v n cs) (h : Chg S H H') (ho : offB S v) : Row H' sz v n cs := ⟨h.row ho k.row, k.len, k.sl⟩
theorem IsBytes.chg {S : List Nat} {H H' : AH} {v : AV} {xs : List UInt8} (k : IsBytes H v xs) (h : Chg S H H') (ho : offB S v) : IsBytes H' v xs := ⟨h.row ho k.row, k.len, k.sl⟩
theorem IsNums.chg {S : List Nat} {H H' : AH} {k : IntKind} {v : AV} {xs : List Int} (g : IsNums k H v xs) (h : Chg S H H') (ho : offB S v) : IsNums k H' v xs := ⟨h.row ho g.row, g.len, g.sl⟩

theorem get_lt {H : AH} {a : AAddr} {l : List AV} (h : H.get a = some l) : a.ro = true ∨ a.blk < H.n := by
  unfold AH.get at h
  split at h
  · rename_i hr; exact .inl hr
  · exact .inr (cells_lt h)
/-- What was read in an older memory lies in none of the newer blocks. -/
theorem Row.off {H : AH} {sz : Nat} {v : AV} {n : Nat} {cs : List AV} (k : Row H sz v n cs) {S : List Nat} (hs : ∀ i ∈ S, H.n ≤ i) : offB S v := by
  rcases k.elim with ⟨rfl, _⟩ | ⟨a, c, l, rfl, hg, _⟩
  · trivial
  · rcases get_lt hg with h1 | h1
    · exact .inl h1
    · exact .inr fun hm => by have := hs _ hm; omega
theorem IsBytes.off {H : AH} {v : AV} {xs : List UInt8} (k : IsBytes H v xs) {S : List Nat} (hs : ∀ i ∈ S, H.n ≤ i) : offB S v := k.toRow.off hs
theorem off_blk {S : List Nat} {b o n : Nat} {c : Cap} (h : b ∉ S) : offB S (.slice ⟨false, b, o⟩ n c) := .inr h

/-- A byte is stored in a slice. -/
theorem IsBytes.store {H : AH} {B o n : Nat} {c : Cap} {xs : List UInt8} (h : IsBytes H (.slice ⟨false, B, o⟩ n c) xs) {i : Nat} (hi : i < xs.length) :
    ∃ l0, H.cells? B = some l0 ∧ o + i < l0.length ∧ ∀ z, IsBytes (H.set B (some (.cells (l0.set (o + i) (bv z))))) (.slice ⟨false, B, o⟩ n c) (xs.set i z) := by
  obtain ⟨h1, h2, h3⟩ := h
  simp only [slen] at h2
  subst h2
  simp only [rowA, get_rw] at h1
  obtain ⟨l0, g1, g2⟩ := Option.bind_eq_some_iff.1 h1
  split at g2
  · rename_i hle
    injection g2 with g2
    refine ⟨l0, g1, by omega, fun z => ⟨?_, by simp [slen], h3⟩⟩
    simp only [rowA, get_rw, set_cells H _ (cells_lt g1), Option.bind_some, List.length_set]
    rw [if_pos hle, Option.some_inj, List.map_set, ← g2, Nat.mul_one, List.drop_set]
    rw [if_neg (by omega), List.take_set, show o + i - o = i by omega]
  · cases g2
theorem IsBytes.isSome {H : AH} {B o n : Nat} {c : Cap} {xs : List UInt8} (h : IsBytes H (.slice ⟨false, B, o⟩ n c) xs) : (H.cells? B).isSome = true := by
  have h1 := h.row
  simp only [rowA, get_rw] at h1
  obtain ⟨l0, g1, g2⟩ := Option.bind_eq_some_iff.1 h1
  simp [g1]
theorem IsBytes.blk_lt {H : AH} {B o n : Nat} {c : Cap} {xs : List UInt8} (h : IsBytes H (.slice ⟨false, B, o⟩ n c) xs) : B < H.n := by
  have h1 := h.row
  simp only [rowA, get_rw] at h1
  obtain ⟨l0, g1, g2⟩ := Option.bind_eq_some_iff.1 h1
  exact cells_lt g1
theorem IsBytes.len' {H : AH} {a : AAddr} {n : Nat} {c : Cap} {xs : List UInt8} (h : IsBytes H (.slice a n c) xs) : n = xs.length := h.len

/-! so much of a list is turned -/
theorem mix_len {α : Type} (zs xs : List α) {i : Nat} (h : zs.length = xs.length) : (zs.take i ++ xs.drop i).length = xs.length := by simp; omega
theorem mix_step {α : Type} (d : α) (zs xs : List α) {i : Nat} (h1 : i < zs.length) (h2 : i < xs.length) : (zs.take i ++ xs.drop i).set i (zs.getD i d) = zs.take (i + 1) ++ xs.drop (i + 1) := by
  have h3 : xs.drop i = xs[i] :: xs.drop (i + 1) := List.drop_eq_getElem_cons h2
  have h4 : zs.take (i + 1) = zs.take i ++ [zs[i]] := (List.take_append_getElem h1).symm
  rw [h3, h4, List.set_append_right _ _ (by simp; omega), List.length_take, show i - min i zs.length = 0 by omega, List.set_cons_zero, List.append_assoc]
  simp only [List.getD, List.getElem?_eq_getElem h1, Option.getD_some]
  rfl
theorem mix_get {α : Type} (d : α) (zs xs : List α) {i : Nat} (h1 : i ≤ zs.length) : (zs.take i ++ xs.drop i).getD i d = xs.getD i d := by
  simp only [List.getD]
  rw [List.getElem?_append_right (by simp; omega), List.length_take, List.getElem?_drop]
  congr 2; omega
theorem mix_end {α : Type} (zs xs : List α) {n : Nat} (h1 : zs.length ≤ n) (h2 : xs.length ≤ n) : zs.take n ++ xs.drop n = zs := by rw [List.take_of_length_le h1, List.drop_of_length_le h2, List.append_nil]
/-! a grown slice that is empty: nil or not -/
theorem RVL.split {b : Nat} {ι : List Loc} : ∀ {l m : List AV} {ys : List Value}, RVL b ι (l ++ m) ys → ∃ ys1 ys2, ys = ys1 ++ ys2 ∧ RVL b ι l ys1 ∧ RVL b ι m ys2
  | [], m, ys, h => ⟨[], ys, rfl, by unfold RVL; rfl, h⟩
  | x :: l, m, ys, h => by
    rw [List.cons_append] at h
    unfold RVL at h
    obtain ⟨y, zs, rfl, h1, h2⟩ := h
    obtain ⟨ys1, ys2, rfl, h3, h4⟩ := RVL.split h2
    exact ⟨y :: ys1, ys2, rfl, by unfold RVL; exact ⟨y, ys1, rfl, h1, h3⟩, h4⟩
theorem aspec_nil {P : Program} {f : FuncId} {H : AH} {Q : AV → AH → Prop} {pre post : List AV} {v : AV} {sz : Nat} (hr : Row H sz v 0 []) (h0 : ASpec P f (pre ++ .nilslice :: post) H Q)
    (h1 : ∀ a c, Row H sz (.slice a 0 (.known c)) 0 [] → ASpec P f (pre ++ .slice a 0 (.known c) :: post) H Q) : ASpec P f (pre ++ v :: post) H Q := by
  rcases hr.elim with ⟨rfl, _, _⟩ | ⟨a, c, l, rfl, hg, _, _⟩
  · exact h0
  · cases c with
    | known c => exact h1 a c hr
    | grow g =>
      have hro : a.ro = false := by have := hr.sl; simp only [okSl, Bool.and_eq_true, Bool.not_eq_true'] at this; exact this.2
      refine fun w0 ι w cargs hrep hargs => ?_
      obtain ⟨ys1, ys2, e, k1, k2⟩ := RVL.split hargs
      unfold RVL at k2
      obtain ⟨y, zs, rfl, k2, k3⟩ := k2
      have go : ∀ v', RV w0.heap.size ι v' y → RVL w0.heap.size ι (pre ++ v' :: post) cargs.toList := fun v' hv => by
        rw [e]; exact k1.append (by unfold RVL; exact ⟨y, zs, rfl, hv, k3⟩)
      have row0 : ∀ c', Row H sz (.slice a 0 (.known c')) 0 [] := fun c' => ⟨by simp only [rowA, hg, Option.bind_some]; rw [if_pos (.inr (by simp))]; simp, rfl, by simp [okSl]⟩
      have rowr : Row H sz (.slice ⟨true, 0, 0⟩ 0 (.known 0)) 0 [] := ⟨by simp only [rowA, get_ro, Option.bind_some]; rw [if_pos (.inr (by simp))]; simp, rfl, by simp [okSl]⟩
      have alive : (H.cells? a.blk).isSome = true := by unfold AH.get at hg; rw [hro] at hg; simp at hg; simp [hg]
      unfold RV RSlice at k2
      rw [if_neg (by simp [hro])] at k2
      rcases live_at hrep alive with hl | hl | ⟨B, O, m, hl⟩
      · rw [hl] at k2; exact k2.elim
      · rw [hl] at k2
        obtain ⟨_, ⟨q, rfl⟩, _⟩ := k2
        cases q with
        | none => exact h0 w0 ι w cargs hrep (go _ (by unfold RV; rfl))
        | some p => exact (h1 _ _ rowr) w0 ι w cargs hrep (go _ (by unfold RV RSlice; rw [if_pos rfl]; exact ⟨0, rfl, Nat.le_refl _, .inr ⟨rfl, p, rfl⟩⟩))
      · rw [hl] at k2
        rcases k2 with ⟨C, h2, h3, h4⟩ | ⟨_, p, h4⟩
        · exact (h1 _ _ (row0 C)) w0 ι w cargs hrep (go _ (by unfold RV RSlice; rw [if_neg (by simp [hro]), hl]; exact ⟨h2, .inl h4⟩))
        · exact (h1 _ _ (row0 0)) w0 ι w cargs hrep (go _ (by unfold RV RSlice; rw [if_neg (by simp [hro]), hl]; exact ⟨Nat.le_refl _, .inr ⟨rfl, p, h4⟩⟩))
theorem AO_makeFunc {P : Program} {ops : Array Oper} {Q : AFr → AH → Prop} {rest : List Oper} {fr : AFr} {H : AH} {ty : TypeId} {ps : String} {af : Array Edge} {d : Tmp} {f : FuncId} {cap : Array Operand} : AOps P ops Q (⟨some d, .makeFunc (.func f) #[] cap, ty, ps, af, none⟩ :: rest) fr H = AOps P ops Q rest (lput fr d (.func f (cap.toList.map (aeval fr)))) H := by
  rw [AOps_cons]; simp only [guardA, ifG, callA, callOr, opA, putA, List.size_toArray, List.length_nil, if_true, opThen]
theorem AO_callT0 {P : Program} {ops : Array Oper} {Q : AFr → AH → Prop} {rest : List Oper} {fr : AFr} {H : AH} {ty : TypeId} {ps : String} {af : Array Edge} {g : Tmp} {args : Array Operand} {ts : Array TypeId} : AOps P ops Q (⟨none, .call ⟨.value (.tmp g), args, ts⟩, ty, ps, af, none⟩ :: rest) fr H = callOr (match lget fr g with | .func f l => some (f, args.toList.map (aeval fr) ++ l) | _ => none) (fun f as => ASpec P f as H fun r H' => AOps P ops Q rest fr H') False := by
  rw [AOps_cons]; simp only [guardA, ifG, callA, opA, putA, aeval, opThen]
  all_goals rfl
attribute [go_sem] AO_makeFunc AO_callT0
/-- What is laid in a new slice, and handed on. -/
theorem news_push {H : AH} {l : List AV} {i n sz : Nat} {c : Cap} (hi : i = H.n) (h : l.length = n * sz) : newsA (H.push (some (.cells l))) sz (.slice ⟨false, i, 0⟩ n c) = some (n, l) := by
  subst hi
  simp only [newsA, row_whole (push_cells H l) h c, Option.map_some]
attribute [go_sem] news_push
/-- What is gathered lies in new blocks. -/
theorem Acc.off {sz : Nat} {H0 H : AH} {b : AV} {n : Nat} {cs : List AV} (h : Acc sz H0 H b n cs) {S : List Nat} (hs : ∀ i ∈ S, i < H0.n) : offB S b := by
  rcases h.is with ⟨rfl, _⟩ | ⟨B, rfl, hB, _⟩
  · trivial
  · exact .inr fun hm => by have := hs _ hm; simp only at this; omega
/-- A byte of a slice, to be read and stored. -/
theorem IsBytes.cell {H : AH} {B o n : Nat} {c : Cap} {xs : List UInt8} (h : IsBytes H (.slice ⟨false, B, o⟩ n c) xs) {i : Nat} (hi : i < xs.length) :
    ∃ l0, H.cells? B = some l0 ∧ o + i < l0.length ∧ l0[o + i]? = some (bv (xs.getD i 0)) ∧ ∀ z, IsBytes (H.set B (some (.cells (l0.set (o + i) (bv z))))) (.slice ⟨false, B, o⟩ n c) (xs.set i z) := by
  obtain ⟨l0, h1, h2, h3⟩ := h.store hi
  refine ⟨l0, h1, h2, ?_, h3⟩
  have := h.ld hi
  simp only [eltA, get_rw, h1, Option.bind_some, Nat.mul_one] at this
  exact this
theorem IsBytes.ixS {H : AH} {B o n : Nat} {c : Cap} {xs : List UInt8} (h : IsBytes H (.slice ⟨false, B, o⟩ n c) xs) {P : Program} {t e : TypeId} (ht : P.underlying t = some (.slice e)) (hs : sizeA P e = some 1) {k : IntKind} {i : Nat} (hi : i < xs.length) :
    indexAddrA P t (.slice ⟨false, B, o⟩ n c) (.int k i) = some (.ptr ⟨false, B, o + i⟩) := by
  rw [h.ix ht hs (by omega) (by omega)]
  simp [eltA]
end Go.Abs

namespace Go.Abs.GF
end Go.Abs.GF

/- Lists of slices of bytes. -/
set_option linter.unusedVariables false
set_option linter.unusedSimpArgs false
namespace Go.Abs
open Go Go.RowKit

/-- A slice of slices of bytes that reads so. -/
structure IsRows (H : AH) (v : AV) (vs : List AV) (rows : List (List UInt8)) : Prop where
  row : Row H 1 v rows.length vs
  each : ∀ i, i < rows.length → IsBytes H (vs.getD i .unk) (rows.getD i [])

theorem IsRows.len {H : AH} {v : AV} {vs : List AV} {rows : List (List UInt8)} (h : IsRows H v vs rows) : vs.length = rows.length := by have := h.row.size; omega
theorem IsRows.grew {H H' : AH} (g : Grew H H') {v : AV} {vs : List AV} {rows : List (List UInt8)} (h : IsRows H v vs rows) : IsRows H' v vs rows := ⟨h.row.grew g, fun i hi => (h.each i hi).grew g⟩
theorem IsRows.chg {S : List Nat} {H H' : AH} {v : AV} {vs : List AV} {rows : List (List UInt8)} (h : IsRows H v vs rows) (k : Chg S H H') (ho : offB S v) (he : ∀ i, i < rows.length → offB S (vs.getD i .unk)) : IsRows H' v vs rows :=
  ⟨h.row.chg k ho, fun i hi => (h.each i hi).chg k (he i hi)⟩
theorem IsRows.off {H : AH} {v : AV} {vs : List AV} {rows : List (List UInt8)} (h : IsRows H v vs rows) {S : List Nat} (hs : ∀ i ∈ S, H.n ≤ i) : offB S v ∧ ∀ i, i < rows.length → offB S (vs.getD i .unk) :=
  ⟨h.row.off hs, fun i hi => (h.each i hi).off hs⟩
/-- What stood in an older memory is as it was where only new blocks have changed. -/
theorem IsRows.old {H0 H' : AH} {S : List Nat} {v : AV} {vs : List AV} {rows : List (List UInt8)} (h : IsRows H0 v vs rows) (k : Chg S H0 H') (hs : ∀ i ∈ S, H0.n ≤ i) : IsRows H' v vs rows := h.grew (k.grew hs)
theorem IsRows.ld {H : AH} {v : AV} {vs : List AV} {rows : List (List UInt8)} (h : IsRows H v vs rows) {i : Nat} (hi : i < rows.length) :
    ((H.get (eltA v i 1)).bind fun cs => cs[(eltA v i 1).off]?) = some (vs.getD i .unk) := by
  have hl := h.len
  rw [h.row.ld1 hi]; simp [List.getD, show i < vs.length by omega]
theorem IsRows.ix {H : AH} {v : AV} {vs : List AV} {rows : List (List UInt8)} (h : IsRows H v vs rows) {P : Program} {t e : TypeId} (ht : P.underlying t = some (.slice e)) (hs : sizeA P e = some 1) {k : IntKind} {i : Int} (h0 : 0 ≤ i) (hi : i < rows.length) :
    indexAddrA P t v (.int k i) = some (.ptr (eltA v i.toNat 1)) := h.row.ix ht hs h0 hi

theorem Dat.rows {P : Program} {H : AH} {n : Nat} {t : TypeId} {cs : List AV} (D : Dat P H n t cs) {e u : TypeId} (hu : P.underlying t = some (.slice e)) (hs : sizeA P e = some 1) {by' : Nat} (hb : bytesA P e = some by') (he : P.underlying e = some (.slice u)) (hu8 : P.underlying u = some (.int .u8)) (hsu : sizeA P u = some 1) (hbu : bytesA P u = some 1) :
    ∃ v vs rows, cs = [v] ∧ IsRows H v vs rows ∧ rows.length * by' ≤ 140737488351232 ∧ ∀ i, i < rows.length → (rows.getD i []).length ≤ 140737488351232 := by
  obtain ⟨v, k, row, rfl, hr, hk, m, hm⟩ := D.slice hu (se := 0) hs hb
  have hl := hr.size
  have each : ∀ i, i < k → ∃ xs : List UInt8, IsBytes H (row.getD i .unk) xs ∧ xs.length ≤ 140737488351232 := fun i hi => by
    obtain ⟨v', xs, e1, h1, h2⟩ := (hm i hi).bytes he hu8 hsu hbu
    have : row.getD i .unk = v' := by
      have := congrArg (·[0]?) e1
      simp at this
      simp [List.getD, this]
    exact ⟨xs, this ▸ h1, h2⟩
  have key : ∃ f : Nat → List UInt8, ∀ i, i < k → IsBytes H (row.getD i .unk) (f i) ∧ (f i).length ≤ 140737488351232 := by
    refine ⟨fun i => if h : i < k then Classical.choose (each i h) else [], fun i hi => ?_⟩
    simp only [hi, dite_true]
    exact Classical.choose_spec (each i hi)
  obtain ⟨f, hf⟩ := key
  have hlen : ((List.range k).map f).length = k := by simp
  have hget : ∀ i, i < k → ((List.range k).map f).getD i [] = f i := fun i hi => by simp [List.getD, hi]
  refine ⟨v, row, (List.range k).map f, rfl, ⟨by rw [hlen]; exact hr, fun i hi => ?_⟩, by rw [hlen]; exact hk, fun i hi => ?_⟩
  · rw [hlen] at hi; rw [hget i hi]; exact (hf i hi).1
  · rw [hlen] at hi; rw [hget i hi]; exact (hf i hi).2
/-! what is gathered row by row -/
def blkOf : AV → List Nat
  | .slice a _ _ => [a.blk]
  | _ => []
theorem Acc.below {sz : Nat} {H0 H : AH} {b : AV} {n : Nat} {cs : List AV} (h : Acc sz H0 H b n cs) : ∀ i ∈ blkOf b, i < H.n := by
  rcases h.is with ⟨rfl, _⟩ | ⟨B, rfl, hB, hc⟩
  · simp [blkOf]
  · simp only [blkOf, List.mem_cons, List.not_mem_nil, or_false]
    rintro i rfl
    exact cells_lt hc
/-- One append more; what changes is the block that is left. -/
theorem Acc.app' {sz by' : Nat} {H0 H : AH} {b : AV} {n : Nat} {cs : List AV} (h : Acc sz H0 H b n cs) {k : Nat} {news : List AV} (hk : news.length = k * sz) (h1 : n + k ≤ 140737488355328) (h2 : (n + k) * by' ≤ 140737488355328) :
    ∃ H', appendTo sz by' H k news b = some (.slice ⟨false, H.n, 0⟩ (n + k) (.grow sz), H') ∧ Acc sz H0 H' (.slice ⟨false, H.n, 0⟩ (n + k) (.grow sz)) (n + k) (cs ++ news) ∧ H'.n = H.n + 1 ∧ Chg (blkOf b) H H' := by
  obtain ⟨H', a1, a2, a3⟩ := h.app hk h1 h2
  refine ⟨H', a1, a2, a3, ?_⟩
  obtain ⟨hg, hl, hb⟩ := h
  rcases hb with ⟨rfl, rfl⟩ | ⟨B, rfl, hB, hc⟩
  · rw [app_to_nil, gd_pos ⟨by omega, by rw [Nat.zero_add] at h2; exact h2⟩] at a1
    injection a1 with a1
    injection a1 with a0 a1
    rw [← a1]
    exact (Grew.push _ _).chg _
  · rw [app_to_grow, gd_pos ⟨h1, h2⟩, hc] at a1
    simp only [Option.bind_some, List.drop_zero] at a1
    rw [gde_pos (by omega)] at a1
    injection a1 with a1
    injection a1 with a0 a1
    rw [← a1]
    exact (Chg.set H B none (S := blkOf (.slice ⟨false, B, 0⟩ n (.grow sz))) (by simp [blkOf])).trans ((Grew.push _ _).chg _)

structure AccRows (H0 H : AH) (mv : AV) (ws : List AV) (rows : List (List UInt8)) : Prop where
  acc : Acc 1 H0 H mv rows.length ws
  each : ∀ j, j < rows.length → IsBytes H (ws.getD j .unk) (rows.getD j []) ∧ offB (blkOf mv) (ws.getD j .unk)

theorem AccRows.nil {H0 H : AH} (h : Grew H0 H) : AccRows H0 H .nilslice [] [] := ⟨Acc.nil h, fun j hj => by simp at hj⟩
theorem AccRows.len {H0 H : AH} {mv : AV} {ws : List AV} {rows : List (List UInt8)} (h : AccRows H0 H mv ws rows) : ws.length = rows.length := by have := h.acc.len; omega
theorem AccRows.rows {H0 H : AH} {mv : AV} {ws : List AV} {rows : List (List UInt8)} (h : AccRows H0 H mv ws rows) : IsRows H mv ws rows := ⟨h.acc.row, fun i hi => (h.each i hi).1⟩
theorem AccRows.grew {H0 H H' : AH} {mv : AV} {ws : List AV} {rows : List (List UInt8)} (h : AccRows H0 H mv ws rows) (g : Grew H H') : AccRows H0 H' mv ws rows := ⟨h.acc.grew g, fun j hj => ⟨(h.each j hj).1.grew g, (h.each j hj).2⟩⟩
theorem AccRows.add {by' : Nat} {H0 H : AH} {mv w : AV} {ws : List AV} {rows : List (List UInt8)} {xs : List UInt8} (h : AccRows H0 H mv ws rows) (hw : IsBytes H w xs) (ho : offB (blkOf mv) w) (h1 : rows.length + 1 ≤ 140737488355328) (h2 : (rows.length + 1) * by' ≤ 140737488355328) :
    ∃ H', appendTo 1 by' (H.push (some (.cells [w]))) 1 [w] mv = some (.slice ⟨false, H.n + 1, 0⟩ (rows.length + 1) (.grow 1), H') ∧ AccRows H0 H' (.slice ⟨false, H.n + 1, 0⟩ (rows.length + 1) (.grow 1)) (ws ++ [w]) (rows ++ [xs]) ∧ Chg (blkOf mv) H H' := by
  obtain ⟨H', a1, a2, a3, a4⟩ := (h.acc.grew (Grew.push H (some (.cells [w])))).app' (by' := by') (k := 1) (news := [w]) rfl h1 h2
  rw [push_n] at a1 a2
  have hl := h.len
  have hc : Chg (blkOf mv) H H' := ((Grew.push H _).chg _).trans a4
  refine ⟨H', a1, ⟨by rw [List.length_append]; exact a2, fun j hj => ?_⟩, hc⟩
  simp only [List.length_append, List.length_cons, List.length_nil, Nat.zero_add] at hj
  by_cases hjl : j < rows.length
  · have e1 : (ws ++ [w]).getD j .unk = ws.getD j .unk := by simp [List.getD, List.getElem?_append_left (show j < ws.length by omega)]
    have e2 : (rows ++ [xs]).getD j [] = rows.getD j [] := by simp [List.getD, List.getElem?_append_left hjl]
    rw [e1, e2]
    have := h.each j hjl
    exact ⟨this.1.chg hc this.2, this.1.off (by simp [blkOf])⟩
  · obtain rfl : j = rows.length := by omega
    have e1 : (ws ++ [w]).getD rows.length .unk = w := by simp [List.getD, ← hl]
    have e2 : (rows ++ [xs]).getD rows.length [] = xs := by simp [List.getD]
    rw [e1, e2]
    exact ⟨hw.chg hc ho, hw.off (by simp [blkOf])⟩
/-- One row more, in the memory at hand. -/
theorem AccRows.addG {by' : Nat} {H0 H : AH} {mv w : AV} {ws : List AV} {rows : List (List UInt8)} {xs : List UInt8} (h : AccRows H0 H mv ws rows) (hw : IsBytes H w xs) (ho : offB (blkOf mv) w) (h1 : rows.length + 1 ≤ 140737488355328) (h2 : (rows.length + 1) * by' ≤ 140737488355328) :
    ∃ H', appendTo 1 by' H 1 [w] mv = some (.slice ⟨false, H.n, 0⟩ (rows.length + 1) (.grow 1), H') ∧ AccRows H0 H' (.slice ⟨false, H.n, 0⟩ (rows.length + 1) (.grow 1)) (ws ++ [w]) (rows ++ [xs]) ∧ Chg (blkOf mv) H H' ∧ H'.n = H.n + 1 := by
  obtain ⟨H', a1, a2, a3, a4⟩ := h.acc.app' (by' := by') (k := 1) (news := [w]) rfl h1 h2
  have hl := h.len
  refine ⟨H', a1, ⟨by rw [List.length_append]; exact a2, fun j hj => ?_⟩, a4, a3⟩
  simp only [List.length_append, List.length_cons, List.length_nil, Nat.zero_add] at hj
  by_cases hjl : j < rows.length
  · have e1 : (ws ++ [w]).getD j .unk = ws.getD j .unk := by simp [List.getD, List.getElem?_append_left (show j < ws.length by omega)]
    have e2 : (rows ++ [xs]).getD j [] = rows.getD j [] := by simp [List.getD, List.getElem?_append_left hjl]
    rw [e1, e2]
    have := h.each j hjl
    exact ⟨this.1.chg a4 this.2, this.1.off (by simp [blkOf])⟩
  · obtain rfl : j = rows.length := by omega
    have e1 : (ws ++ [w]).getD rows.length .unk = w := by simp [List.getD, ← hl]
    have e2 : (rows ++ [xs]).getD rows.length [] = xs := by simp [List.getD]
    rw [e1, e2]
    exact ⟨hw.chg a4 ho, hw.off (by simp [blkOf])⟩
end Go.Abs

/- Running by computing: regions that draw and write; memory known phase by phase. -/
set_option linter.unusedVariables false
set_option linter.unusedSimpArgs false
namespace Go.Abs
open Go Go.RowKit

/-- Values that are the same, surely. -/
def capEq : Cap → Cap → Bool
  | .known a, .known b => a == b
  | .grow a, .grow b => a == b
  | _, _ => false
def adEq (a b : AAddr) : Bool := a.ro == b.ro && a.blk == b.blk && a.off == b.off
mutual
def avEq : AV → AV → Bool
  | .bool a, .bool b => a == b
  | .int k a, .int l b => decide (k = l) && decide (a = b)
  | .str a, .str b => decide (a = b)
  | .nilptr, .nilptr => true
  | .ptr a, .ptr b => adEq a b
  | .nilslice, .nilslice => true
  | .slice a n c, .slice b m d => adEq a b && n == m && capEq c d
  | .nilfunc, .nilfunc => true
  | .nilif, .nilif => true
  | .agg l, .agg m => avEqL l m
  | .tup l, .tup m => avEqL l m
  | _, _ => false
def avEqL : List AV → List AV → Bool
  | [], [] => true
  | x :: l, y :: m => avEq x y && avEqL l m
  | _, _ => false
end
theorem capEq_ok : ∀ {a b : Cap}, capEq a b = true → a = b
  | .known a, .known b, h => by simp [capEq] at h; rw [h]
  | .grow a, .grow b, h => by simp [capEq] at h; rw [h]
  | .known _, .grow _, h => by simp [capEq] at h
  | .grow _, .known _, h => by simp [capEq] at h
theorem adEq_ok {a b : AAddr} (h : adEq a b = true) : a = b := by
  obtain ⟨a1, a2, a3⟩ := a; obtain ⟨b1, b2, b3⟩ := b
  simp [adEq] at h
  obtain ⟨⟨rfl, rfl⟩, rfl⟩ := h
  rfl
mutual
theorem avEq_ok : ∀ {a b : AV}, avEq a b = true → a = b
  | .bool a, b, h => by cases b <;> simp [avEq] at h; rw [h]
  | .int k a, b, h => by cases b <;> simp [avEq] at h; rw [h.1, h.2]
  | .str a, b, h => by cases b <;> simp [avEq] at h; rw [h]
  | .nilptr, b, h => by cases b <;> simp [avEq] at h; rfl
  | .ptr a, b, h => by cases b <;> simp [avEq] at h; rw [adEq_ok h]
  | .nilslice, b, h => by cases b <;> simp [avEq] at h; rfl
  | .slice a n c, b, h => by cases b <;> simp [avEq] at h; rw [adEq_ok h.1.1, h.1.2, capEq_ok h.2]
  | .nilfunc, b, h => by cases b <;> simp [avEq] at h; rfl
  | .nilif, b, h => by cases b <;> simp [avEq] at h; rfl
  | .agg l, b, h => by cases b <;> simp [avEq] at h; rw [avEqL_ok h]
  | .tup l, b, h => by cases b <;> simp [avEq] at h; rw [avEqL_ok h]
  | .unk, b, h => by cases b <;> simp [avEq] at h
  | .func .., b, h => by cases b <;> simp [avEq] at h
  | .iface .., b, h => by cases b <;> simp [avEq] at h
  | .nilmap, b, h => by cases b <;> simp [avEq] at h
  | .map _, b, h => by cases b <;> simp [avEq] at h
  | .yld _, b, h => by cases b <;> simp [avEq] at h
theorem avEqL_ok : ∀ {l m : List AV}, avEqL l m = true → l = m
  | [], m, h => by cases m <;> simp [avEqL] at h; rfl
  | x :: l, m, h => by
    cases m with
    | nil => simp [avEqL] at h
    | cons y m =>
      simp [avEqL] at h
      rw [avEq_ok h.1, avEqL_ok h.2]
end

/-- How long each operation that floats may wait. -/
def dueL (md : Region.Mode) (ops : Array Oper) (i : Nat) : List (Nat × Bool) → List Nat → Nat → Nat
  | [], _, n => n
  | (j, b) :: l, D, n =>
    if (match ops[j]? with | some o => o.after.any fun e => Region.binds md e && (e.on == i || D.contains e.on) | none => false) then
      (if b then dueL md ops i l (j :: D) n else n)
    else dueL md ops i l D (if b then n else n + 1)
def dueOf (md : Region.Mode) (ops : Array Oper) : List (Nat × Bool) → List (Nat × Option Nat)
  | [] => []
  | (i, true) :: l => (i, some (dueL md ops i l [] 0)) :: dueOf md ops l
  | (i, false) :: l => (i, none) :: dueOf md ops l

def sameOp (P : Program) (fr : AFr) (op : Op) (v : AV) (K : AH) : Bool := rigidA K v && (match opA P fr K op with | some vh => avEq vh.1 v | none => false)
def okQ (P : Program) (fr : AFr) (H : AH) (Hs : List AH) (n q : Nat) (op : Op) (v : AV) : Bool :=
  copyOp op || (stillOp op && convOk op v && (n == 0 || (isLoad op && (decide (n ≤ q) || loadRo fr op)) || (rigidA H v && ((Hs.drop 1).take n).all (sameOp P fr op v))))

def runQ (call : Caller) (P : Program) (ops : Array Oper) : List (Nat × Option Nat) → AFr → AH → Option (List AH × AFr × AH)
  | [], fr, H => some ([H], fr, H)
  | (i, some n) :: rest, fr, H =>
    match ops[i]? with
    | none => none
    | some o => match guardA ops fr o with
      | none => none
      | some false => runQ call P ops rest (putA fr o.dst (.tup [])) H
      | some true => match opA P fr H o.op with
        | some vh => match runQ call P ops rest (putA fr o.dst vh.1) H with
          | some r => if okQ P fr H r.1 n (quietL (rest.map fun p => (ops[p.1]?, p.2))) o.op vh.1 then some r else none
          | none => none
        | none => none
  | (i, none) :: rest, fr, H =>
    match ops[i]? with
    | none => none
    | some o => match runOps call P ops [o] fr H with
      | some r => (runQ call P ops rest r.1 r.2).map fun q => (H :: q.1, q.2)
      | none => none

theorem allP_eqM {φ : AH → Prop} : ∀ {l : List AH}, (∀ X ∈ l, φ X) → allP φ (l.map eqM)
  | [], _ => trivial
  | X :: l, h => ⟨fun K e => by have e' : K = X := e; rw [e']; exact h X (by simp), allP_eqM fun Y hY => h Y (by simp [hY])⟩

theorem runQ_head {call : Caller} {P : Program} {ops : Array Oper} : ∀ (l : List (Nat × Option Nat)) {fr : AFr} {H : AH} {r : List AH × AFr × AH}, runQ call P ops l fr H = some r → ∃ Hs, r.1 = H :: Hs
  | [], fr, H, r, h => by simp only [runQ] at h; injection h with h; subst h; exact ⟨[], rfl⟩
  | (i, some n) :: rest, fr, H, r, h => by
    simp only [runQ] at h
    split at h
    · cases h
    · split at h
      · cases h
      · exact runQ_head rest h
      · split at h
        · split at h
          · rename_i hr
            split at h
            · injection h with h; subst h; exact runQ_head rest hr
            · cases h
          · cases h
        · cases h
  | (i, none) :: rest, fr, H, r, h => by
    simp only [runQ] at h
    split at h
    · cases h
    · split at h
      · obtain ⟨q, hq, rfl⟩ := Option.map_eq_some_iff.1 h
        exact ⟨_, rfl⟩
      · cases h

theorem runQ_ok {P : Program} {call : Caller} (hc : CallerOk P call) {ops : Array Oper} {Q : AFr → AH → Prop} : ∀ (l : List (Nat × Option Nat)) {fr : AFr} {H : AH} {r : List AH × AFr × AH}, runQ call P ops l fr H = some r → Q r.2.1 r.2.2 →
    DOpsP P ops [] Q (l.map fun p => (ops[p.1]?, p.2)) (r.1.map eqM) fr H
  | [], fr, H, r, h, hq => by simp only [runQ] at h; injection h with h; subst h; exact hq
  | (i, some n) :: rest, fr, H, r, h, hq => by
    simp only [runQ] at h
    simp only [List.map_cons]
    cases ho : ops[i]? with
    | none => rw [ho] at h; cases h
    | some o =>
      rw [ho] at h
      simp only at h
      simp only [DOpsP]
      cases hg : guardA ops fr o with
      | none => rw [hg] at h; cases h
      | some b =>
        rw [hg] at h
        cases b with
        | false => exact runQ_ok hc rest h hq
        | true =>
          simp only at h
          simp only [ifG]
          cases hop : opA P fr H o.op with
          | none => rw [hop] at h; cases h
          | some vh =>
            rw [hop] at h
            simp only at h
            cases hr : runQ call P ops rest (putA fr o.dst vh.1) H with
            | none => rw [hr] at h; cases h
            | some r' =>
              rw [hr] at h
              simp only at h
              split at h
              · rename_i hk
                injection h with h
                subst h
                simp only [opThen]
                refine ⟨?_, runQ_ok hc rest hr hq⟩
                unfold okQ at hk
                simp only [Bool.or_eq_true, Bool.and_eq_true, beq_iff_eq, decide_eq_true_eq] at hk
                rcases hk with hk | ⟨⟨h1, h2⟩, h3⟩
                · exact .inl hk
                · refine .inr ⟨h1, h2, ?_⟩
                  rcases h3 with (h3 | h3) | ⟨h3, h4⟩
                  · exact .inl h3
                  · exact .inr (.inl h3)
                  · refine .inr (.inr (.inr ⟨by cases o.dst <;> rfl, h3, ?_⟩))
                    rw [← List.map_drop, ← List.map_take]
                    refine allP_eqM fun X hX => ?_
                    have h5 := List.all_eq_true.1 h4 X hX
                    unfold sameOp at h5
                    simp only [Bool.and_eq_true] at h5
                    refine ⟨?_, h5.1⟩
                    have h6 := h5.2
                    split at h6
                    · rename_i vh' e
                      obtain ⟨v', K'⟩ := vh'
                      have h7 : v' = vh.1 := avEq_ok h6
                      rw [e, stillOp_same h1 e, h7]
                    · cases h6
              · cases h
  | (i, none) :: rest, fr, H, r, h, hq => by
    simp only [runQ] at h
    simp only [List.map_cons]
    cases ho : ops[i]? with
    | none => rw [ho] at h; cases h
    | some o =>
      rw [ho] at h
      simp only at h
      simp only [DOpsP]
      cases hr : runOps call P ops [o] fr H with
      | none => rw [hr] at h; cases h
      | some s =>
        rw [hr] at h
        simp only at h
        obtain ⟨q, hq', rfl⟩ := Option.map_eq_some_iff.1 h
        obtain ⟨Hs, he⟩ := runQ_head rest hq'
        refine runOps_ok hc [o] hr ?_
        simp only [he, List.map_cons]
        refine ⟨rfl, ?_⟩
        have := runQ_ok hc rest hq' hq
        rwa [he] at this

def runDrawQ (call : Caller) (P : Program) (ops : Array Oper) (fr : AFr) (H : AH) : Option (AFr × AH) :=
  let listed := Array.replicate ops.size false
  let order := dueOf .any ops (greedy ops ops.size listed)
  let Fs := order.filterMap fun p => if p.2.isNone then some p.1 else none
  if Region.noSelect ops && order.length == ops.size && phase Fs listed == 0 && drawOkP .any ops Fs order 0 listed then
    (runQ call P ops order fr H).map (·.2)
  else none

theorem runDrawQ_ok {P : Program} {call : Caller} (hc : CallerOk P call) {N id : Nat} {l : List Oper} {Q : Exit → AFr → AH → Prop} {fr : AFr} {H : AH} {fr' : AFr} {H' : AH} (h : runDrawQ call P l.toArray fr H = some (fr', H')) (hd : dstsOk N l = true) (hm : P.follows .mixedOrders = true) (hq : Q .normal fr' H') :
    AWp P N (.region id l.toArray true) Q fr H := by
  unfold runDrawQ at h
  simp only at h
  split at h
  · rename_i hok
    generalize dueOf .any l.toArray (greedy l.toArray l.toArray.size (Array.replicate l.toArray.size false)) = order at h hok
    generalize (order.filterMap fun p => if p.2.isNone then some p.1 else none) = Fs at h hok
    have hok' : (Region.noSelect l.toArray && order.length == l.length && phase Fs (Array.replicate l.length false) == 0 && drawOkP .any l.toArray Fs order 0 (Array.replicate l.length false)) = true := by simpa using hok
    obtain ⟨r, hr, e⟩ := Option.map_eq_some_iff.1 h
    obtain ⟨Hs, he⟩ := runQ_head order hr
    have hok2 := runQ_ok (Q := Q .normal) hc order hr (by rw [e]; exact hq)
    refine awp_drawP (r.1.map eqM) order Fs hm hd hok' ?_ hok2
    rw [he]
    exact rofP_0 rfl
  · cases h

def runCQ (call : Caller) (lf : Nat) (P : Program) (N : Nat) : Code → AFr → AH → Option (Exit × AFr × AH)
  | .skip, fr, H => some (.normal, fr, H)
  | .region _ ops false, fr, H => if dstsOk N ops.toList then (runOps call P ops ops.toList fr H).map fun r => (.normal, r.1, r.2) else none
  | .region _ ops true, fr, H => if dstsOk N ops.toList && P.follows .mixedOrders then (runDrawQ call P ops fr H).map fun r => (.normal, r.1, r.2) else none
  | .seq a b, fr, H =>
    match runCQ call lf P N a fr H with
    | some (.normal, fr', H') => runCQ call lf P N b fr' H'
    | r => r
  | .cond c x y, fr, H =>
    match aeval fr c with
    | .bool true => runCQ call lf P N x fr H
    | .bool false => runCQ call lf P N y fr H
    | _ => none
  | .block id c, fr, H =>
    match runCQ call lf P N c fr H with
    | some (.exit id', fr', H') => if id' = id then some (.normal, fr', H') else some (.exit id', fr', H')
    | r => r
  | .loop c, fr, H => loopA (fun fr H => runCQ call lf P N c fr H) lf fr H
  | .exit id, fr, H => some (.exit id, fr, H)
  | .ret, fr, H => some (.ret, fr, H)
  | _, _, _ => none


theorem runCQ_ok {P : Program} {call : Caller} (hc : CallerOk P call) {lf N : Nat} : ∀ (c : Code) {Q : Exit → AFr → AH → Prop} {fr : AFr} {H : AH} {e : Exit} {fr' : AFr} {H' : AH}, runCQ call lf P N c fr H = some (e, fr', H') → Q e fr' H' → AWp P N c Q fr H := by
  intro c
  induction c with
  | skip => intro Q fr H e fr' H' h hq; simp only [runCQ] at h; injection h with h; injection h with h1 h2; injection h2 with h2 h3; subst h1 h2 h3; exact awp_skip hq
  | region id ops draw =>
    intro Q fr H e fr' H' h hq
    cases draw with
    | true =>
      simp only [runCQ] at h
      split at h
      · rename_i hd
        simp only [Bool.and_eq_true] at hd
        obtain ⟨r, hr, h⟩ := Option.map_eq_some_iff.1 h
        injection h with h1 h2
        injection h2 with h2 h3
        subst h1 h2 h3
        have : ops = ops.toList.toArray := by simp
        rw [this]
        exact runDrawQ_ok hc (l := ops.toList) (by simpa using hr) hd.1 hd.2 hq
      · cases h
    | false =>
      simp only [runCQ] at h
      split at h
      · rename_i hd
        obtain ⟨r, hr, h⟩ := Option.map_eq_some_iff.1 h
        injection h with h1 h2
        injection h2 with h2 h3
        subst h1 h2 h3
        have : ops = ops.toList.toArray := by simp
        rw [this]
        exact awp_region hd (runOps_ok hc ops.toList (by simpa using hr) hq)
      · cases h
  | seq a b iha ihb =>
    intro Q fr H e fr' H' h hq
    simp only [runCQ] at h
    refine awp_seq ?_
    cases ha : runCQ call lf P N a fr H with
    | none => rw [ha] at h; cases h
    | some r =>
      obtain ⟨e1, fr1, H1⟩ := r
      rw [ha] at h
      refine iha ha ?_
      cases e1 with
      | normal => exact ihb h hq
      | _ => simp only at h; injection h with h; injection h with h1 h2; injection h2 with h2 h3; subst h1 h2 h3; exact hq
  | cond c x y ihx ihy =>
    intro Q fr H e fr' H' h hq
    simp only [runCQ] at h
    split at h
    · rename_i hb; exact awp_cond hb (ihx h hq)
    · rename_i hb; exact awp_cond hb (ihy h hq)
    · cases h
  | block id b ih =>
    intro Q fr H e fr' H' h hq
    simp only [runCQ] at h
    refine awp_block ?_
    cases ha : runCQ call lf P N b fr H with
    | none => rw [ha] at h; cases h
    | some r =>
      obtain ⟨e1, fr1, H1⟩ := r
      rw [ha] at h
      refine ih ha ?_
      cases e1 with
      | exit id' =>
        simp only at h
        simp only [blockA]
        split at h
        · rename_i hi; rw [if_pos hi]; injection h with h; injection h with h1 h2; injection h2 with h2 h3; subst h1 h2 h3; exact hq
        · rename_i hi; rw [if_neg hi]; injection h with h; injection h with h1 h2; injection h2 with h2 h3; subst h1 h2 h3; exact hq
      | _ => simp only at h; injection h with h; injection h with h1 h2; injection h2 with h2 h3; subst h1 h2 h3; exact hq
  | loop b ih =>
    intro Q fr H e fr' H' h hq
    simp only [runCQ] at h
    exact loopA_ok (fun Q fr H e fr' H' h hq => ih h hq) lf h hq
  | exit id => intro Q fr H e fr' H' h hq; simp only [runCQ] at h; injection h with h; injection h with h1 h2; injection h2 with h2 h3; subst h1 h2 h3; exact awp_exit hq
  | ret => intro Q fr H e fr' H' h hq; simp only [runCQ] at h; injection h with h; injection h with h1 h2; injection h2 with h2 h3; subst h1 h2 h3; exact awp_ret hq
  | _ => intro Q fr H e fr' H' h hq; simp [runCQ] at h

/-- Calls are run, but for those that have a contract. -/
def runQW (base : Caller) (P : Program) (lf : Nat) : Nat → Caller
  | 0, f, args, H => base f args H
  | d + 1, f, args, H =>
    match base f args H with
    | some r => some r
    | none =>
      match P.funcs[f]? with
      | some fn =>
        match fn.body with
        | some c =>
          if (fn.name == "runtime.NumGoroutine") = false ∧ args.length ≤ fn.ntmps then
            match runCQ (runQW base P lf d) lf P fn.ntmps c args H with
            | some (e, fr', H') => if isDone e then (aresults P fr' H' fn.results.toList).map fun vs => (tupA vs, H') else none
            | none => none
          else none
        | none => none
      | none => none

theorem runQW_ok {base : Caller} {P : Program} (hbase : CallerOk P base) (lf : Nat) : ∀ d, CallerOk P (runQW base P lf d)
  | 0 => fun f args H r H' h => hbase f args H r H' h
  | d + 1 => fun f args H r H' h => by
    simp only [runQW] at h
    cases hbs : base f args H with
    | some r0 => rw [hbs] at h; exact hbase f args H r H' (by rw [hbs]; exact h)
    | none =>
    rw [hbs] at h
    simp only at h
    cases hf : P.funcs[f]? with
    | none => rw [hf] at h; cases h
    | some fn =>
      rw [hf] at h
      simp only at h
      cases hb : fn.body with
      | none => rw [hb] at h; cases h
      | some c =>
        rw [hb] at h
        simp only at h
        split at h
        · rename_i hh
          cases hr : runCQ (runQW base P lf d) lf P fn.ntmps c args H with
          | none => rw [hr] at h; cases h
          | some x =>
            obtain ⟨e, fr', H1⟩ := x
            rw [hr] at h
            simp only at h
            split at h
            · rename_i hd
              obtain ⟨vs, hv, h⟩ := Option.map_eq_some_iff.1 h
              injection h with h1 h2
              subst h1 h2
              refine aspec_of hf hb hh.1 hh.2 (runCQ_ok (runQW_ok hbase lf d) c hr ⟨?_, vs, hv, rfl, rfl⟩)
              cases e <;> simp [isDone] at hd <;> simp
            · cases h
        · cases h

/-- The same by computing. -/
theorem aspec_runQ {P : Program} {base : Caller} (hb : CallerOk P base) {f : FuncId} {args : List AV} {v : AV} (lf d : Nat) (ha : plainL args = true) (hv : flatA v = true) (h : ∀ ro, (runQW base P lf d f args (.base ro)).map (·.1) = some v) (H : AH) : ASpec P f args H fun r H' => r = v ∧ H' = H :=
  aspec_plain (Q := fun r => r = v) ha (fun r hr => by rw [hr]; exact hv) (fun ro => by
    obtain ⟨rh, h1, h2⟩ := Option.map_eq_some_iff.1 (h ro)
    obtain ⟨r, H'⟩ := rh
    exact (runQW_ok hb lf d _ _ _ _ _ h1).mono fun r' _ ⟨e, _⟩ => e.trans h2) H

end Go.Abs

/- Functions of the model's own that the library leans on: new bytes of whatever values. -/
set_option linter.unusedVariables false
set_option linter.unusedSimpArgs false
namespace Go.Abs
open Go Go.RowKit

theorem noZero_spec {P : Program} {f : FuncId} {fn : Func} {ps : Array TypeId} {t e : TypeId} (hf : P.funcs[f]? = some fn) (hname : (fn.name == "runtime.NumGoroutine") = false) (hb : fn.body.isNone = true) (hnx : Extern.findNext fn = none)
    (he : Extern.find fn = some (Extern.BytealgMakeNoZero.makeNoZero ps #[t])) (ht : P.underlying t = some (.slice e)) (n : Nat) (hn : n ≤ 281474976710656) (H : AH) :
    ASpec P f [.int .i64 n] H fun r H' => r = .slice ⟨false, H.n, 0⟩ n (.grow 1) ∧ H' = H.push (some (.cells (List.replicate n .unk))) := by
  intro w0 ι w cargs hr hv
  unfold RVL at hv
  obtain ⟨y, m, hl, h1, h2⟩ := hv
  unfold RV at h1
  unfold RVL at h2
  subst h1 h2
  obtain rfl : cargs = #[.int .i64 n] := by cases cargs; simp at hl; rw [hl]
  obtain ⟨cs, hrun, hle, _⟩ := Lib.run_makeNoZero (P := P) w ps t e ht n hn
  refine .inr ⟨.slice (some ⟨w.heap.size, 0, none⟩) n cs.size, w.drew.drew.alloc (.cells cs e), ?_, ?_⟩
  · rw [run_callFunc_extern hf hname hb hnx he, hrun]; rfl
  · obtain ⟨r1, e1⟩ := hr.drew
    obtain ⟨r2, e2⟩ := r1.drew
    obtain ⟨r3, e3⟩ := r2.push (l := List.replicate n .unk) (cs := cs) e (by simpa using hle) (fun k v hk => by
      rw [List.getElem?_replicate] at hk
      split at hk
      · rename_i hkn
        injection hk with hk
        subst hk
        exact ⟨cs[k], Array.getElem?_eq_getElem (by omega), by unfold RV; trivial⟩
      · cases hk)
    refine ⟨_, _, _, ?_, r3, (e1.trans e2).trans e3, rfl, rfl⟩
    have hn' : (ι ++ [Loc.at w.drew.drew.heap.size 0 cs.size])[H.n]? = some (.at w.heap.size 0 cs.size) := by
      unfold AH.n; rw [← hr.len]; simp
    unfold RV RSlice
    simp only [Bool.false_eq_true, if_false]
    rw [hn']
    exact .inl ⟨cs.size, hle, by omega, rfl⟩
end Go.Abs

/- Regions that draw their order where two operations that write are ready at once: a tree of orders. -/
set_option linter.unusedVariables false
set_option linter.unusedSimpArgs false
namespace Go.Abs
open Go Go.RowKit

/-- The orders: one that may float and is taken first; one operation just then; or one of two. -/
inductive OT where
  | nil
  | flt (i : Nat) (t : OT)
  | one (i : Nat) (t : OT)
  | two (i : Nat) (s : OT) (j : Nat) (t : OT)
def OT.len : OT → Nat
  | .nil => 0
  | .flt _ t => t.len + 1
  | .one _ t => t.len + 1
  | .two _ s _ t => s.len + 1

/-- It may float: it reads the same whatever the others do meanwhile. -/
def StillF (P : Program) (R : AH → Prop) (fr : AFr) (H : AH) (op : Op) (v : AV) : Prop :=
  (isLoad op = true ∧ loadRo fr op = true) ∨ StillAt P R fr H op v

def OneT (P : Program) (ops : Array Oper) (R : AH → Prop) (i : Nat) (K : AFr → AH → Prop) (fr : AFr) (H : AH) : Prop :=
  match ops[i]? with
  | none => False
  | some o => AOps P ops (fun fr' H' => R H' ∧ K fr' H') [o] fr H
def FltT (P : Program) (ops : Array Oper) (R : AH → Prop) (K : AFr → AH → Prop) : Option Oper → AFr → AH → Prop
  | none, _, _ => False
  | some o, fr, H => ifG (guardA ops fr o) (K (putA fr o.dst (.tup [])) H) (opThen (opA P fr H o.op) fun v _ => StillF P R fr H o.op v ∧ K (putA fr o.dst v) H)
def DT (P : Program) (ops : Array Oper) (R : AH → Prop) (Q : AFr → AH → Prop) : OT → AFr → AH → Prop
  | .nil, fr, H => Q fr H
  | .flt i t, fr, H => FltT P ops R (DT P ops R Q t) ops[i]? fr H
  | .one i t, fr, H => OneT P ops R i (DT P ops R Q t) fr H
  | .two i s j t, fr, H => OneT P ops R i (DT P ops R Q s) fr H ∧ OneT P ops R j (DT P ops R Q t) fr H

def treeOk (md : Region.Mode) (ops : Array Oper) : OT → Array Bool → Bool
  | .nil, listed => (Region.ready md ops listed).isEmpty
  | .flt i t, listed => Region.free md ops listed i && (Region.ready md ops listed).contains i && treeOk md ops t (listed.setIfInBounds i true)
  | .one i t, listed => (Region.ready md ops listed == [i]) && treeOk md ops t (listed.setIfInBounds i true)
  | .two i s j t, listed => (Region.ready md ops listed == [i, j]) && (s.len == t.len) && treeOk md ops s (listed.setIfInBounds i true) && treeOk md ops t (listed.setIfInBounds j true)

section
variable {P : Program} {md : Region.Mode} {ops : Array Oper} {R : AH → Prop} {Q : AFr → AH → Prop} {N : Nat} {ds : List Deferred} {QC : Exit → Act → World → Prop} {w0 : World}

/-- One operation of the tree. -/
theorem one_sound (hd : ∀ (i : Nat) (o : Oper), ops[i]? = some o → ∀ d, o.dst = some d → d < N) {i : Nat} {K : AFr → AH → Prop} {fr : AFr} {H : AH} {a : Act} {w : World} {ι : List Loc} {n : Nat} {listed : Array Bool} (h : OneT P ops R i K fr H) (hs : St w0 ι N ds fr H a w)
    (k : ∀ fr1 H1 ι1 a1 w1, K fr1 H1 → R H1 → St w0 ι1 N ds fr1 H1 a1 w1 → Ext ι H w ι1 H1 w1 → wpAnyH P md ops (onlyN QC) (Held w0 ι1 H1.ro R) n listed a1 w1) :
    wpOp P ops (onlyN QC) i (fun a' w' => Held w0 ι H.ro R w' ∧ wpAnyH P md ops (onlyN QC) (Held w0 ι H.ro R) n listed a' w') a w := by
  have step : ∀ fr1 H1 ι1 a1 w1, R H1 ∧ K fr1 H1 → St w0 ι1 N ds fr1 H1 a1 w1 → Ext ι H w ι1 H1 w1 →
      Held w0 ι H.ro R w1 ∧ wpAnyH P md ops (onlyN QC) (Held w0 ι H.ro R) n listed a1 w1 := fun fr1 H1 ι1 a1 w1 hh hs1 he1 => by
    refine ⟨⟨ι1, H1, hs1.rep, he1.le, hh.1, he1.ro⟩, ?_⟩
    refine wpAnyH_mono (S' := Held w0 ι1 H1.ro R) ?_ _ _ _ _ (k fr1 H1 ι1 a1 w1 hh.2 hh.1 hs1 he1)
    rintro w2 ⟨ι2, H2, k1, k2, k3, k4⟩
    exact ⟨ι2, H2, k1, he1.le.trans k2, k3, k4.trans he1.ro⟩
  unfold OneT at h
  cases hi : ops[i]? with
  | none => rw [hi] at h; exact h.elim
  | some o =>
    rw [hi] at h
    simp only at h
    unfold wpOp
    simp only [hi]
    simp only [AOps] at h
    cases hg : guardA ops fr o with
    | none => rw [hg] at h; exact h.elim
    | some b =>
      rw [hg] at h
      rw [guardA_ok hs hg]
      cases b with
      | false =>
        simp only at h
        simp only [Bool.false_eq_true, if_false]
        exact step _ _ ι _ w h (hs.put (hd i o hi) hs.rep (LocLe.refl ι) RV_undef) (Ext.refl _ _ _)
      | true =>
        simp only at h
        simp only [if_true]
        left
        cases hc : callA fr o.op with
        | some fa =>
          obtain ⟨f, args⟩ := fa
          rw [hc] at h
          simp only at h
          exact call_step hs hc (hd i o hi) h fun r H' ι' a' w' h1 h2 h3 => step _ _ _ _ _ h1 h2 h3
        | none =>
          rw [hc] at h
          simp only at h
          cases ho : opA P fr H o.op with
          | none => rw [ho] at h; exact h.elim
          | some vh =>
            obtain ⟨v, H'⟩ := vh
            rw [ho] at h
            exact op_step hs ho (hd i o hi) fun ι' a' w' h2 h3 => step _ _ _ _ _ h h2 h3

theorem DT_sound (hsel : Region.noSelect ops = true) (hd : ∀ (i : Nat) (o : Oper), ops[i]? = some o → ∀ d, o.dst = some d → d < N) {ιs : List Loc} {Hs : AH} {ws : World} (hQ : ∀ fr' H' ι' a' w', Q fr' H' → St w0 ι' N ds fr' H' a' w' → Ext ιs Hs ws ι' H' w' → QC .normal a' w') :
    ∀ (T : OT) (listed : Array Bool) (fr : AFr) (H : AH) (a : Act) (w : World) (ι : List Loc), treeOk md ops T listed = true → DT P ops R Q T fr H → St w0 ι N ds fr H a w → R H → Ext ιs Hs ws ι H w →
      wpAnyH P md ops (onlyN QC) (Held w0 ι H.ro R) T.len listed a w
  | .nil, listed, fr, H, a, w, ι, hok, h, hs, hR, he => by
    simp only [treeOk, List.isEmpty_iff] at hok
    exact wpAnyH_done hok ⟨rfl, hQ _ _ _ _ _ h hs he⟩ _
  | .flt i t, listed, fr, H, a, w, ι, hok, h, hs, hR, he => by
    simp only [treeOk, Bool.and_eq_true] at hok
    obtain ⟨⟨hf, hr⟩, hok⟩ := hok
    simp only [DT] at h
    show wpAnyH P md ops (onlyN QC) (Held w0 ι H.ro R) (t.len + 1) listed a w
    cases hi : ops[i]? with
    | none => rw [hi] at h; exact h.elim
    | some o =>
      rw [hi] at h
      simp only [FltT] at h
      have hheld : Held w0 ι H.ro R w := ⟨ι, H, hs.rep, LocLe.refl ι, hR, rfl⟩
      have hp : ∀ c a' (w' : World) (v : Value), onlyN QC (.panic c) (a'.put o.dst v) w' → onlyN QC (.panic c) a' w' := fun c a' w' v hh => by cases hh.1
      cases hg : guardA ops fr o with
      | none => rw [hg] at h; exact h.elim
      | some b =>
        rw [hg] at h
        have hw := guardA_ok hs hg
        cases b with
        | false =>
          simp only [ifG] at h
          exact wpAnyH_take (v := undef) hi hsel hf hr (fun c a' w' => hp c a' w' _) (.inr ⟨hw, rfl⟩) hheld
            (DT_sound hsel hd hQ t _ _ H _ w ι hok h (hs.put (hd i o hi) hs.rep (LocLe.refl ι) RV_undef) hR he)
        | true =>
          simp only [ifG] at h
          cases ho : opA P fr H o.op with
          | none => rw [ho] at h; exact h.elim
          | some vh =>
            obtain ⟨v, H1⟩ := vh
            rw [ho] at h
            simp only [opThen] at h
            obtain ⟨hst, h⟩ := h
            have key : ∃ cv, YieldsIf P ops (Held w0 ι H.ro R) o cv a ∧ RV w0.heap.size ι v cv := by
              rcases hst with ⟨hl1, hl2⟩ | hc | ⟨hc, hconv, hrig, hall⟩
              · obtain ⟨dst, op, type, pos, after, guard⟩ := o
                cases op <;> simp only [isLoad, Bool.false_eq_true] at hl1
                rename_i t x
                simp only [opA] at ho
                split at ho
                · rename_i pa hpa
                  obtain ⟨v', hv', ho⟩ := Option.map_eq_some_iff.1 ho
                  injection ho with e1 e2
                  subst e1
                  have hx := aeval_ok hs.fr x
                  rw [hpa] at hx
                  unfold RV at hx
                  obtain ⟨z, B, z1, z2, z3, _, z4⟩ := load_stable (P := P) hs.rep hv' hx
                  refine ⟨z, .inl ⟨hw, fun w' hw' => ?_⟩, z1⟩
                  obtain ⟨ι', H', hrep, hle, hRH, hro⟩ := hw'
                  have : pa.ro = true := by simpa [loadRo, hpa] using hl2
                  have hB := z3 this
                  have := z4 w' (.of (by rw [hrep.below.block B hB, hs.rep.below.block B hB]))
                  simp [execOp, this]
                · cases ho
              · obtain ⟨_, cv, h1, h2⟩ := opA_copy hs.rep hs.fr hc ho
                exact ⟨cv, .inl ⟨hw, fun w' _ => h1 w'⟩, h2⟩
              · have hcv : ∀ a n c, v ≠ .slice a n c ∨ ∀ s d x, o.op ≠ .convert s d x := fun a' n c => by
                  by_cases hv : v = .slice a' n c
                  · right
                    intro s d x he
                    rw [he, hv] at hconv
                    cases hconv
                  · exact .inl hv
                obtain ⟨_, cv, h1, h2⟩ := opA_still hs.rep hs.fr hc hcv ho
                refine ⟨cv, .inl ⟨hw, fun w' hw' => ?_⟩, h2⟩
                obtain ⟨ι', H', hrep, hle, hRH, hro⟩ := hw'
                obtain ⟨g1, g2⟩ := hall H' hRH hro
                obtain ⟨_, cv', k1, k2⟩ := opA_still hrep (hs.fr.ext hle) hc hcv g1
                rw [k1, rigid_eq hs.rep hrep hle hrig g2 h2 k2]
            obtain ⟨cv, hy, hv⟩ := key
            exact wpAnyH_take (v := cv) hi hsel hf hr (fun c a' w' => hp c a' w' _) hy hheld
              (DT_sound hsel hd hQ t _ _ H _ w ι hok h (hs.put (hd i o hi) hs.rep (LocLe.refl ι) hv) hR he)
  | .one i t, listed, fr, H, a, w, ι, hok, h, hs, hR, he => by
    simp only [treeOk, Bool.and_eq_true, beq_iff_eq] at hok
    obtain ⟨hr, hok⟩ := hok
    refine wpAnyH_all hr (by simp) fun j hj => ?_
    obtain rfl : j = i := by simpa using hj
    exact one_sound hd h hs fun fr1 H1 ι1 a1 w1 k1 k2 k3 k4 => DT_sound hsel hd hQ t _ fr1 H1 a1 w1 ι1 hok k1 k3 k2 (he.trans k4)
  | .two i s j t, listed, fr, H, a, w, ι, hok, h, hs, hR, he => by
    simp only [treeOk, Bool.and_eq_true, beq_iff_eq] at hok
    obtain ⟨⟨⟨hr, hl⟩, ok1⟩, ok2⟩ := hok
    refine wpAnyH_all hr (by simp) fun m hm => ?_
    by_cases hmi : m = i
    · subst hmi
      exact one_sound hd h.1 hs fun fr1 H1 ι1 a1 w1 k1 k2 k3 k4 => DT_sound hsel hd hQ s _ fr1 H1 a1 w1 ι1 ok1 k1 k3 k2 (he.trans k4)
    · obtain rfl : m = j := by simpa [hmi] using hm
      refine one_sound hd h.2 hs fun fr1 H1 ι1 a1 w1 k1 k2 k3 k4 => ?_
      show wpAnyH P md ops (onlyN QC) (Held w0 ι1 H1.ro R) s.len _ a1 w1
      rw [hl]
      exact DT_sound hsel hd hQ t _ fr1 H1 a1 w1 ι1 ok2 k1 k3 k2 (he.trans k4)

end

/-- A region that draws its order, over a tree. -/
theorem awp_tree {P : Program} {N : Nat} {Q : Exit → AFr → AH → Prop} {fr : AFr} {H : AH} {id : Nat} {l : List Oper} (R : AH → Prop) (T : OT) (hm : P.follows .mixedOrders = true) (hd : dstsOk N l = true)
    (hok : (Region.noSelect l.toArray && (T.len == l.length) && treeOk .any l.toArray T (Array.replicate l.length false)) = true) (hR : R H)
    (h : DT P l.toArray R (Q .normal) T fr H) : AWp P N (.region id l.toArray true) Q fr H := fun ds w0 ι a w QC hs hQ => by
  simp only [Bool.and_eq_true, beq_iff_eq] at hok
  obtain ⟨⟨h1, h2⟩, h3⟩ := hok
  have hdr : ∀ (i : Nat) (o : Oper), l.toArray[i]? = some o → ∀ d, o.dst = some d → d < N := fun i o ho => dstsOk_spec hd o (List.mem_of_getElem? (by simpa using ho))
  obtain ⟨k0, k2⟩ := hs.rep.drew
  have k1 : St w0 ι N ds fr H a w.drew := ⟨k0, hs.fr, hs.size, hs.defers⟩
  refine wp_mono (Q := onlyN QC) (wp_region_held (S := Held w0 ι H.ro R) hm ?_) (fun e a w hh => hh.1 ▸ hh.2)
  have := DT_sound (P := P) (md := .any) (QC := QC) (R := R) h1 hdr (fun fr' H' ι' a' w' g1 g2 g3 => hQ .normal fr' H' ι' a' w' g1 g2 g3) T _ fr H a { w with drawn := w.drawn + 1 } ι h3 h k1 hR k2
  rw [h2] at this
  simpa using this

/-! for simp -/
def optThen {α : Type} : Option α → (α → Prop) → Prop
  | none, _ => False
  | some x, k => k x
section
variable {P : Program} {ops : Array Oper} {R : AH → Prop} {Q : AFr → AH → Prop} {rest : List (Option Oper)} {K : AFr → AH → Prop} {fr : AFr} {H : AH} {ty : TypeId} {ps : String} {af : Array Edge} {d : Tmp}
theorem DT_nil : DT P ops R Q .nil fr H = Q fr H := nr rfl
theorem DT_flt {i : Nat} {t : OT} : DT P ops R Q (.flt i t) fr H = FltT P ops R (DT P ops R Q t) ops[i]? fr H := nr rfl
theorem DT_fltO {i : Nat} {t : OT} : DT P ops R Q (.flt i t) fr H = optThen ops[i]? fun o => FltT P ops R (DT P ops R Q t) (some o) fr H := by
  rw [DT_flt]
  unfold optThen
  cases ops[i]? <;> rfl
theorem DT_one {i : Nat} {t : OT} : DT P ops R Q (.one i t) fr H = OneT P ops R i (DT P ops R Q t) fr H := nr rfl
theorem DT_two {i j : Nat} {s t : OT} : DT P ops R Q (.two i s j t) fr H = (OneT P ops R i (DT P ops R Q s) fr H ∧ OneT P ops R j (DT P ops R Q t) fr H) := nr rfl
theorem OneT_eq {i : Nat} : OneT P ops R i K fr H = (match ops[i]? with | none => False | some o => AOps P ops (fun fr' H' => R H' ∧ K fr' H') [o] fr H) := nr rfl
theorem OneT_opt {i : Nat} : OneT P ops R i K fr H = optThen ops[i]? fun o => AOps P ops (fun fr' H' => R H' ∧ K fr' H') [o] fr H := by
  unfold OneT optThen
  cases ops[i]? <;> rfl
theorem optThen_some {α : Type} {x : α} {k : α → Prop} : optThen (some x) k = k x := nr rfl
theorem F_move {x : Operand} : FltT P ops R K (some ⟨some d, .move x, ty, ps, af, none⟩) fr H = K (lput fr d (aeval fr x)) H := by
  simp [FltT, guardA, ifG, putA, opA, opThen, StillF, StillAt, copyOp]
theorem F_assign {x : Operand} : FltT P ops R K (some ⟨some d, .assign x, ty, ps, af, none⟩) fr H = K (lput fr d (aeval fr x)) H := by
  simp [FltT, guardA, ifG, putA, opA, opThen, StillF, StillAt, copyOp]
theorem F_extract {x : Operand} {n : Nat} : FltT P ops R K (some ⟨some d, .extract x n, ty, ps, af, none⟩) fr H = opThen (match aeval fr x with | .tup l => (l[n]?).map fun v => (v, H) | _ => none) fun v _ => K (lput fr d v) H := by
  simp only [FltT, guardA, ifG, putA, opA, StillF, StillAt, show copyOp (.extract x n) = true from rfl, true_or, or_true, true_and]
  rfl
theorem F_slice {t : TypeId} {x : Operand} {lo hi mx : Option Operand} : FltT P ops R K (some ⟨some d, .slice t x lo hi mx, ty, ps, af, none⟩) fr H = opThen ((sliceOpA P t (aeval fr x) (lo.map (aeval fr)) (hi.map (aeval fr)) (mx.map (aeval fr))).map fun v => (v, H)) fun v _ => K (lput fr d v) H := by
  simp only [FltT, guardA, ifG, putA, opA, StillF, StillAt, show copyOp (.slice t x lo hi mx) = true from rfl, true_or, or_true, true_and]
theorem F_indexAddr {t : TypeId} {x y : Operand} : FltT P ops R K (some ⟨some d, .indexAddr t x y, ty, ps, af, none⟩) fr H = opThen ((indexAddrA P t (aeval fr x) (aeval fr y)).map fun v => (v, H)) fun v _ => rigR R H v ∧ K (lput fr d v) H := by
  simp only [FltT, guardA, ifG, putA, opA]
  cases h : indexAddrA P t (aeval fr x) (aeval fr y) with
  | none => rfl
  | some v =>
    simp only [Option.map_some, opThen, StillF, isLoad, StillAt, copyOp, stillOp, convOk, Bool.false_eq_true, false_and, false_or, true_and, rigR, opA, h]
theorem F_load {t : TypeId} {x : Operand} : FltT P ops R K (some ⟨some d, .load t x, ty, ps, af, none⟩) fr H = opThen (match aeval fr x with | .ptr p => (loadA P t p H).map fun v => (v, H) | _ => none) fun v _ => (roV (aeval fr x) = true ∨ sameR R H (fun H' => opA P fr H' (.load t x)) v) ∧ K (lput fr d v) H := by
  simp only [FltT, guardA, ifG, putA, opA]
  have : ∀ v, StillF P R fr H (.load t x) v = (roV (aeval fr x) = true ∨ sameR R H (fun H' => opA P fr H' (.load t x)) v) := fun v => by
    simp only [StillF, isLoad, loadRo, StillAt, copyOp, stillOp, convOk, Bool.false_eq_true, false_or, true_and, sameR, rigR]
    refine propext ⟨fun h => h.imp (fun h => by cases hx : aeval fr x <;> simp_all [roV]) fun ⟨h1, h2⟩ => ⟨⟨h1, fun H' a b => (h2 H' a b).2⟩, fun H' a b => (h2 H' a b).1⟩, fun h => h.imp (fun h => by cases hx : aeval fr x <;> simp_all [roV]) fun ⟨⟨h1, h2⟩, h3⟩ => ⟨h1, fun H' a b => ⟨h3 H' a b, h2 H' a b⟩⟩⟩
  simp only [this]
  rfl
end
theorem FltT_c {P : Program} {ops : Array Oper} {R : AH → Prop} {K : AFr → AH → Prop} {o : Option Oper} {fr fr' : AFr} {H H' : AH} (h1 : mark fr = fr') (h2 : mark H = H') : FltT P ops R K o fr H = FltT P ops R K o fr' H' := by rw [← h1, ← h2, mark_eq, mark_eq]
theorem DT_c {P : Program} {ops : Array Oper} {R : AH → Prop} {Q : AFr → AH → Prop} {T : OT} {fr fr' : AFr} {H H' : AH} (h1 : mark fr = fr') (h2 : mark H = H') : DT P ops R Q T fr H = DT P ops R Q T fr' H' := by rw [← h1, ← h2, mark_eq, mark_eq]
theorem optThen_c {α : Type} {o o' : Option α} {k : α → Prop} (h : mark o = o') : optThen o k = optThen o' k := by rw [← h, mark_eq]
attribute [congr] FltT_c DT_c optThen_c
theorem ops_at {l : List Oper} {i : Nat} : l.toArray[i]? = l[i]? := by simp
attribute [go_sem] ops_at List.getElem?_cons_zero List.getElem?_cons_succ DT_nil DT_fltO DT_one DT_two OneT_opt optThen_some F_move F_assign F_extract F_slice F_indexAddr F_load

theorem awp_loopS {P : Program} {N : Nat} {Q : Exit → AFr → AH → Prop} {fr : AFr} {H : AH} {σ : Type} {c : Code} (F : σ → List (Nat × AV)) (I : σ → AH → Prop) (μ : σ → Nat) (s : σ) (hL : hasF (F s) fr) (hI : I s H)
    (round : ∀ s H, I s H → AWp P N c (thenA (fun fr' H' => ∃ s', hasF (F s') fr' ∧ μ s' < μ s ∧ I s' H') Q) (frOf (F s)) H) : AWp P N (.loop c) Q fr H :=
  awp_loop (fun n fr H => ∃ s, I s H ∧ μ s = n ∧ hasF (F s) fr) (μ s) ⟨s, hI, rfl, hL⟩ fun n fr H ⟨s, h1, h2, h3⟩ => by
    subst h2
    exact awp_use h3 ((round s H h1).mono fun e fr' H' hq => thenA_mono (fun fr'' H'' ⟨s', k1, k2, k3⟩ => ⟨_, k2, s', k3, rfl, k1⟩) hq)
theorem rig_roA {R : AH → Prop} {H : AH} {a : AAddr} (h : a.ro = true) : rigR R H (.ptr a) = True := by
  obtain ⟨r, b, o⟩ := a
  simp only at h
  subst h
  exact rig_ro
end Go.Abs
