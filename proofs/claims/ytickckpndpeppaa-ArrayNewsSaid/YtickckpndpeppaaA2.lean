/- How an abstract memory stands for a world, and what a step keeps. -/
import Derived.Test.YtickckpndpeppaaA1
set_option linter.unusedVariables false
set_option linter.unusedSimpArgs false
namespace Go.Abs
open Go Go.RowKit

structure RBlk (b : Nat) (ι : List Loc) (l : List AV) (B O m : Nat) (w : World) : Prop where
  cells : ∃ cs e fz, w.heap[B]? = some (.cells cs e fz) ∧ O + m ≤ cs.size ∧ l.length ≤ m ∧ ∀ k v, l[k]? = some v → ∃ x, cs[O + k]? = some x ∧ RV b ι v x
  high : ∀ cs e fz, w.heap[B]? = some (.cells cs e fz) → fz.1 = fz.2 ∨ O + m ≤ fz.1

theorem RBlk.free {b : Nat} {ι : List Loc} {l : List AV} {B O m : Nat} {w : World} (h : RBlk b ι l B O m w) (q : Nat) (_h1 : O ≤ q) (h2 : q < O + m) : w.frozen? ⟨B, q, none⟩ = false := by
  obtain ⟨cs, e, fz, h3, _⟩ := h.cells
  obtain ⟨lo, hi⟩ := fz
  have h4 := h.high _ _ _ h3
  simp only [World.frozen?, h3, Bool.and_eq_false_iff, decide_eq_false_iff_not]
  simp only at h4
  omega

structure Rep (w0 : World) (ι : List Loc) (H : AH) (w : World) : Prop where
  below : Below w0.heap.size w0 w
  ro : ∀ B, B < w0.heap.size → ∀ k v, (H.ro B)[k]? = some v → ∃ x, w0.cell? ⟨B, k, none⟩ = some x ∧ v = absV w0.heap.size x
  len : ι.length = H.rw.length
  blk : ∀ (i : Nat) (l : List AV), H.rw[i]? = some (some (.cells l)) → ι[i]? = some .pend ∨ (ι[i]? = some .nil ∧ l = []) ∨ ∃ B O m, ι[i]? = some (.at B O m) ∧ RBlk w0.heap.size ι l B O m w
  nomap : ∀ (i : Nat) (es : List (AV × AV)), H.rw[i]? ≠ some (some (.map es))
  gone : ∀ (i : Nat), H.rw[i]? = some none → ι[i]? = some .dead
  inj : ∀ (i j B O m O' m' : Nat), ι[i]? = some (.at B O m) → ι[j]? = some (.at B O' m') → i = j
  locs : ∀ (i B O m : Nat), ι[i]? = some (.at B O m) → w0.heap.size ≤ B ∧ B < w.heap.size

/-- A block whose cells stay. -/
def SameB (w w' : World) (B : Nat) : Prop := ∀ a : Addr, a.block = B → w'.cell? a = w.cell? a
theorem SameB.of {w w' : World} {B : Nat} (h : w'.heap[B]? = w.heap[B]?) : SameB w w' B := fun a e => by unfold World.cell?; rw [e, h]
theorem SameB.refl (w : World) (B : Nat) : SameB w w B := .of rfl
theorem SameB.trans {w w' w'' : World} {B : Nat} (h : SameB w w' B) (k : SameB w' w'' B) : SameB w w'' B := fun a e => (k a e).trans (h a e)

structure Ext (ι : List Loc) (H : AH) (w : World) (ι' : List Loc) (H' : AH) (w' : World) : Prop where
  ro : H'.ro = H.ro
  len : ι.length ≤ ι'.length
  loc : ∀ (i : Nat) (L : Loc), ι[i]? = some L → ι'[i]? = some L ∨ (ι'[i]? = some .dead ∧ L ≠ .pend)
  pend : ∀ (i : Nat), ι[i]? = some .pend → H'.rw[i]? = H.rw[i]?
  size : w.heap.size ≤ w'.heap.size
  frame : ∀ B, B < w.heap.size → (∀ (i O m : Nat), ι[i]? ≠ some (.at B O m)) → w'.heap[B]? = w.heap[B]?
  img : ∀ (i B O m : Nat), ι'[i]? = some (.at B O m) → (∃ (i' O' m' : Nat), ι[i']? = some (.at B O' m')) ∨ w.heap.size ≤ B
  mark : ∀ i, H.wr i → H'.wr i
  still : ∀ (i B O m : Nat), ι[i]? = some (.at B O m) → B < w.heap.size → ¬ H'.wr i → SameB w w' B ∧ ι'[i]? = some (.at B O m)

theorem Ext.refl (ι : List Loc) (H : AH) (w : World) : Ext ι H w ι H w :=
  ⟨rfl, Nat.le_refl _, fun _ _ h => .inl h, fun _ _ => rfl, Nat.le_refl _, fun _ _ _ => rfl, fun i _ O m h => .inl ⟨i, O, m, h⟩, fun _ h => h, fun _ _ _ _ h _ _ => ⟨SameB.refl _ _, h⟩⟩

theorem Ext.trans {ι ι' ι'' : List Loc} {H H' H'' : AH} {w w' w'' : World} (h : Ext ι H w ι' H' w') (k : Ext ι' H' w' ι'' H'' w'') : Ext ι H w ι'' H'' w'' where
  ro := k.ro.trans h.ro
  len := Nat.le_trans h.len k.len
  loc i L hl := by
    rcases h.loc i L hl with h1 | ⟨h1, h2⟩
    · exact k.loc i L h1
    · rcases k.loc i _ h1 with h3 | ⟨h3, _⟩
      · exact .inr ⟨h3, h2⟩
      · exact .inr ⟨h3, h2⟩
  pend i hi := by
    rcases h.loc i _ hi with h1 | ⟨_, h2⟩
    · rw [k.pend i h1, h.pend i hi]
    · exact absurd rfl h2
  size := Nat.le_trans h.size k.size
  frame B hB hn := by
    rw [k.frame B (Nat.lt_of_lt_of_le hB h.size) ?_, h.frame B hB hn]
    intro i O m hi
    rcases h.img i B O m hi with ⟨i', O', m', h1⟩ | h1
    · exact hn _ _ _ h1
    · omega
  img i B O m hi := by
    rcases k.img i B O m hi with ⟨i', O', m', h1⟩ | h1
    · exact h.img i' B O' m' h1
    · exact .inr (Nat.le_trans h.size h1)
  mark i hi := k.mark i (h.mark i hi)
  still i B O m hi hB hn := by
    obtain ⟨h1, h2⟩ := h.still i B O m hi hB fun e => hn (k.mark i e)
    obtain ⟨k1, k2⟩ := k.still i B O m h2 (Nat.lt_of_lt_of_le hB h.size) hn
    exact ⟨h1.trans k1, k2⟩

/-- The places of two runs: what is known goes over. -/
def LocLe (ι ι' : List Loc) : Prop := ∀ (i : Nat) (L : Loc), ι[i]? = some L → ι'[i]? = some L ∨ (ι'[i]? = some .dead ∧ L ≠ .pend)

theorem RPtr.ext {b : Nat} {ι ι' : List Loc} (h : LocLe ι ι') {a : AAddr} {v : Value} (hv : RPtr b ι a v) : RPtr b ι' a v := by
  unfold RPtr at *
  split
  · rename_i hr; rw [if_pos hr] at hv; exact hv
  · rename_i hr
    rw [if_neg hr] at hv
    cases hl : ι[a.blk]? with
    | none => rw [hl] at hv; exact hv.elim
    | some L =>
      rw [hl] at hv
      rcases h _ _ hl with h1 | ⟨h1, _⟩
      · rw [h1]; exact hv
      · rw [h1]
        cases L with
        | dead => exact hv
        | pend => exact hv.elim
        | nil => exact hv.elim
        | «at» B O m => exact ⟨_, hv⟩

theorem RSlice.ext {b : Nat} {ι ι' : List Loc} (h : LocLe ι ι') {a : AAddr} {n : Nat} {c : Cap} {v : Value} (hv : RSlice b ι a n c v) : RSlice b ι' a n c v := by
  unfold RSlice at *
  split
  · rename_i hr; rw [if_pos hr] at hv; exact hv
  · rename_i hr
    rw [if_neg hr] at hv
    cases hl : ι[a.blk]? with
    | none => rw [hl] at hv; exact hv.elim
    | some L =>
      rw [hl] at hv
      rcases h _ _ hl with h1 | ⟨h1, _⟩
      · rw [h1]; exact hv
      · rw [h1]
        cases L with
        | dead => exact hv
        | pend => exact hv.elim
        | nil =>
          obtain ⟨hn, ⟨q, hq⟩, sz, hc⟩ := hv
          exact ⟨q, 0, by rw [hn]; exact hq, by omega, fun h => by omega, fun c' h => by rw [hc] at h; cases h⟩
        | «at» B O m =>
          cases c with
          | known c =>
            obtain ⟨hn, hv | ⟨hc, p, hv⟩⟩ := hv
            · exact ⟨_, _, hv, hn, (fun _ h => by cases h), (fun c' h => ⟨by injection h, fun h => by cases h⟩)⟩
            · have h0 : n = 0 := by omega
              exact ⟨some p, 0, by rw [h0]; exact hv, by omega, fun h => by omega, fun c' h => ⟨by injection h with h; omega, fun h => by cases h⟩⟩
          | grow sz =>
            rcases hv with ⟨C, hn, _, hv⟩ | ⟨hn, p, hv⟩
            · exact ⟨_, _, hv, hn, fun _ h => by (cases h), fun c' h => by cases h⟩
            · exact ⟨some p, 0, by rw [hn]; exact hv, by omega, fun h => by omega, fun c' h => by cases h⟩

theorem RMap.ext {ι ι' : List Loc} (h : LocLe ι ι') {i : Nat} {v : Value} (hv : RMap ι i v) : RMap ι' i v := by
  unfold RMap at *
  cases hl : ι[i]? with
  | none => rw [hl] at hv; exact hv.elim
  | some L =>
    rw [hl] at hv
    rcases h _ _ hl with h1 | ⟨h1, _⟩
    · rw [h1]; exact hv
    · rw [h1]
      cases L with
      | dead => exact hv
      | pend => exact hv.elim
      | nil => exact hv.elim
      | «at» B O m => exact ⟨_, hv⟩

mutual
theorem RV.ext {b : Nat} {ι ι' : List Loc} (h : LocLe ι ι') : (x : AV) → {v : Value} → RV b ι x v → RV b ι' x v
  | .unk, _, _ => by unfold RV; trivial
  | .bool _, _, hv => by unfold RV at *; exact hv
  | .int .., _, hv => by unfold RV at *; exact hv
  | .str _, _, hv => by unfold RV at *; exact hv
  | .nilptr, _, hv => by unfold RV at *; exact hv
  | .ptr _, _, hv => by unfold RV at *; exact RPtr.ext h hv
  | .nilslice, _, hv => by unfold RV at *; exact hv
  | .slice .., _, hv => by unfold RV at *; exact RSlice.ext h hv
  | .nilfunc, _, hv => by unfold RV at *; exact hv
  | .func _ l, _, hv => by
    unfold RV at *
    obtain ⟨cs, h1, h2⟩ := hv
    exact ⟨cs, h1, RVL.ext h l h2⟩
  | .nilif, _, hv => by unfold RV at *; exact hv
  | .iface _ x, _, hv => by
    unfold RV at *
    obtain ⟨y, h1, h2⟩ := hv
    exact ⟨y, h1, RV.ext h x h2⟩
  | .agg l, _, hv => by
    unfold RV at *
    obtain ⟨cs, h1, h2⟩ := hv
    exact ⟨cs, h1, RVL.ext h l h2⟩
  | .tup l, _, hv => by
    unfold RV at *
    obtain ⟨cs, h1, h2⟩ := hv
    exact ⟨cs, h1, RVL.ext h l h2⟩
  | .nilmap, _, hv => by unfold RV at *; exact hv
  | .yld _, _, hv => by unfold RV at *; exact hv
  | .map _, _, hv => by unfold RV at *; exact RMap.ext h hv
theorem RVL.ext {b : Nat} {ι ι' : List Loc} (h : LocLe ι ι') : (l : List AV) → {ys : List Value} → RVL b ι l ys → RVL b ι' l ys
  | [], _, hv => by unfold RVL at *; exact hv
  | x :: l, _, hv => by
    unfold RVL at *
    obtain ⟨y, m, h1, h2, h3⟩ := hv
    exact ⟨y, m, h1, RV.ext h x h2, RVL.ext h l h3⟩
end

theorem Ext.le {ι ι' : List Loc} {H H' : AH} {w w' : World} (h : Ext ι H w ι' H' w') : LocLe ι ι' := h.loc

theorem RVL.length {b : Nat} {ι : List Loc} : ∀ {l : List AV} {ys : List Value}, RVL b ι l ys → ys.length = l.length
  | [], _, h => by unfold RVL at h; rw [h]; rfl
  | _ :: l, _, h => by
    unfold RVL at h
    obtain ⟨y, m, rfl, _, h3⟩ := h
    simp [RVL.length h3]

theorem RVL.get {b : Nat} {ι : List Loc} : ∀ {l : List AV} {ys : List Value}, RVL b ι l ys → ∀ {k : Nat} {v : AV}, l[k]? = some v → ∃ x, ys[k]? = some x ∧ RV b ι v x
  | [], _, _, k, v, hk => by simp at hk
  | x :: l, _, h, k, v, hk => by
    unfold RVL at h
    obtain ⟨y, m, rfl, h2, h3⟩ := h
    cases k with
    | zero => simp at hk; subst hk; exact ⟨y, by simp, h2⟩
    | succ k => simp at hk; obtain ⟨x', h4, h5⟩ := RVL.get h3 hk; exact ⟨x', by simpa using h4, h5⟩

theorem RVL.of_get {b : Nat} {ι : List Loc} : ∀ {l : List AV} {ys : List Value}, ys.length = l.length → (∀ (k : Nat) (v : AV), l[k]? = some v → ∃ x, ys[k]? = some x ∧ RV b ι v x) → RVL b ι l ys
  | [], ys, hl, _ => by unfold RVL; exact List.eq_nil_of_length_eq_zero hl
  | x :: l, ys, hl, h => by
    cases ys with
    | nil => simp at hl
    | cons y m =>
      unfold RVL
      obtain ⟨z, h1, h2⟩ := h 0 x (by simp)
      simp at h1
      subst h1
      exact ⟨_, m, rfl, h2, RVL.of_get (by simpa using hl) fun k v hk => by
        obtain ⟨z, h3, h4⟩ := h (k + 1) v (by simpa using hk)
        exact ⟨z, by simpa using h3, h4⟩⟩

theorem RVL.append {b : Nat} {ι : List Loc} {l l' : List AV} {ys ys' : List Value} (h : RVL b ι l ys) (h' : RVL b ι l' ys') : RVL b ι (l ++ l') (ys ++ ys') := by
  refine RVL.of_get (by simp [h.length, h'.length]) fun k v hk => ?_
  have e := h.length
  by_cases hlt : k < l.length
  · rw [List.getElem?_append_left hlt] at hk
    obtain ⟨x, h1, h2⟩ := h.get hk
    exact ⟨x, by rw [List.getElem?_append_left (by omega)]; exact h1, h2⟩
  · rw [List.getElem?_append_right (by omega)] at hk
    obtain ⟨x, h1, h2⟩ := h'.get hk
    exact ⟨x, by rw [List.getElem?_append_right (by omega), e]; exact h1, h2⟩

theorem RVL.take {b : Nat} {ι : List Loc} {l : List AV} {ys : List Value} (h : RVL b ι l ys) (n : Nat) : RVL b ι (l.take n) (ys.take n) := by
  refine RVL.of_get (by simp [h.length]) fun k v hk => ?_
  rw [List.getElem?_take] at hk ⊢
  split at hk
  · rename_i hk'; rw [if_pos hk']; exact h.get hk
  · cases hk

theorem RVL.drop {b : Nat} {ι : List Loc} {l : List AV} {ys : List Value} (h : RVL b ι l ys) (n : Nat) : RVL b ι (l.drop n) (ys.drop n) := by
  refine RVL.of_get (by simp [h.length]) fun k v hk => ?_
  rw [List.getElem?_drop] at hk ⊢
  exact h.get hk

theorem RVL_absMap {b b' : Nat} (ι : List Loc) (hb : b ≤ b') (l : List Value) : RVL b' ι (absL b l) l := RVL_abs ι hb l

/-- Frames. -/
def RFr (b : Nat) (ι : List Loc) (fr : AFr) (t : Array Value) : Prop := ∀ i, RV b ι (lget fr i) (t.getD i undef)

theorem RFr.ext {b : Nat} {ι ι' : List Loc} (h : LocLe ι ι') {fr : AFr} {t : Array Value} (hf : RFr b ι fr t) : RFr b ι' fr t := fun i => RV.ext h _ (hf i)

theorem RFr.put {b : Nat} {ι : List Loc} {fr : AFr} {t : Array Value} (hf : RFr b ι fr t) {d : Nat} (hd : d < t.size) {x : AV} {v : Value} (hv : RV b ι x v) :
    RFr b ι (lput fr d x) (t.setIfInBounds d v) := fun i => by
  rw [lget_lput]
  split
  · rename_i hi; subst hi; simpa [hd] using hv
  · rename_i hi
    have := hf i
    simp only [Array.getD_eq_getD_getElem?] at this ⊢
    rw [Array.getElem?_setIfInBounds_ne (Ne.symm hi)]
    exact this

theorem RFr.put_unk {b : Nat} {ι : List Loc} {fr : AFr} {t : Array Value} (hf : RFr b ι fr t) (d : Nat) (v : Value) :
    RFr b ι (lput fr d .unk) (t.setIfInBounds d v) := fun i => by
  rw [lget_lput]
  split
  · unfold RV; trivial
  · rename_i hi
    have := hf i
    simp only [Array.getD_eq_getD_getElem?] at this ⊢
    rw [Array.getElem?_setIfInBounds_ne (Ne.symm hi)]
    exact this

end Go.Abs
