import Derived.Below
import Derived.Tactics
import Derived.Laws.IdiomCopy
import Derived.Laws.Append
import Derived.IntWalk
import Derived.Laws.BytesArg
import Derived.Deep.LoopGhost
set_option linter.unusedVariables false
set_option linter.unusedSimpArgs false
namespace Go.Abs
open Go Go.RowKit
structure AAddr where
  ro : Bool
  blk : Nat
  off : Nat
inductive Cap where
  | known (c : Nat)
  | grow (sz : Nat)
inductive AV where
  | unk
  | bool (b : Bool)
  | int (k : IntKind) (n : Int)
  | str (s : ByteArray)
  | nilptr
  | ptr (a : AAddr)
  | nilslice
  | slice (a : AAddr) (n : Nat) (c : Cap)
  | nilfunc
  | func (f : FuncId) (l : List AV)
  | nilif
  | iface (t : TypeId) (v : AV)
  | agg (l : List AV)
  | tup (l : List AV)
  | nilmap
  | map (i : Nat)
  | yld (l : Nat)
abbrev AFr := List AV
def lget : AFr → Nat → AV
  | [], _ => .unk
  | v :: _, 0 => v
  | _ :: l, n + 1 => lget l n
def lput : AFr → Nat → AV → AFr
  | [], 0, v => [v]
  | [], n + 1, v => .unk :: lput [] n v
  | _ :: l, 0, v => v :: l
  | x :: l, n + 1, v => x :: lput l n v
theorem lget_lput (l : AFr) (i j : Nat) (v : AV) : lget (lput l i v) j = if j = i then v else lget l j := by
  induction i generalizing l j with
  | zero => cases l <;> cases j <;> simp [lput, lget]
  | succ i ih => cases l <;> cases j <;> simp [lput, lget, ih]
theorem lget_nil (j : Nat) : lget [] j = .unk := by cases j <;> rfl
inductive ABlk where
  | cells (l : List AV)
  | map (es : List (AV × AV))
structure AH where
  ro : Nat → List AV
  rw : List (Option ABlk)
  wr : Nat → Prop
def AH.cells? (H : AH) (i : Nat) : Option (List AV) :=
  match H.rw[i]? with
  | some (some (.cells l)) => some l
  | _ => none
def AH.get (H : AH) (a : AAddr) : Option (List AV) := if a.ro then some (H.ro a.blk) else H.cells? a.blk
def AH.base (ro : Nat → List AV) : AH := ⟨ro, [], fun _ => False⟩
def AH.n (H : AH) : Nat := H.rw.length
def AH.push (H : AH) (b : Option ABlk) : AH := ⟨H.ro, H.rw ++ [b], fun j => j = H.rw.length ∨ H.wr j⟩
def AH.set (H : AH) (i : Nat) (b : Option ABlk) : AH := ⟨H.ro, H.rw.set i b, fun j => j = i ∨ H.wr j⟩
inductive Loc where
  | dead
  | pend
  | nil
  | at (B O m : Nat)
def RPtr (b : Nat) (ι : List Loc) (a : AAddr) (v : Value) : Prop :=
  if a.ro then a.blk < b ∧ v = .pointer (some ⟨a.blk, a.off, none⟩) else
  match ι[a.blk]? with
  | some (.at B O _) => v = .pointer (some ⟨B, O + a.off, none⟩)
  | some .dead => ∃ p, v = .pointer (some p)
  | _ => False
def RSliceAt (B O m off n : Nat) (c : Cap) (v : Value) : Prop :=
  match c with
  | .known c => n ≤ c ∧ ((v = .slice (some ⟨B, O + off, none⟩) n c) ∨ (c = 0 ∧ ∃ p, v = .slice (some p) 0 0))
  | .grow sz => (∃ C, n ≤ C ∧ off + C * sz ≤ m ∧ v = .slice (some ⟨B, O + off, none⟩) n C) ∨ (n = 0 ∧ ∃ p, v = .slice (some p) 0 0)
def RSlice (b : Nat) (ι : List Loc) (a : AAddr) (n : Nat) (c : Cap) (v : Value) : Prop :=
  if a.ro then ∃ c', c = .known c' ∧ n ≤ c' ∧ ((a.blk < b ∧ v = .slice (some ⟨a.blk, a.off, none⟩) n c') ∨ (c' = 0 ∧ ∃ p, v = .slice (some p) 0 0)) else
  match ι[a.blk]? with
  | some (.at B O m) => RSliceAt B O m a.off n c v
  | some .nil => n = 0 ∧ (∃ q, v = .slice q 0 0) ∧ ∃ sz, c = .grow sz
  | some .dead => ∃ q C, v = .slice q n C ∧ n ≤ C ∧ (0 < n → q ≠ none) ∧ ∀ c', c = .known c' → C = c' ∧ q ≠ none
  | _ => False
def RMap (ι : List Loc) (i : Nat) (v : Value) : Prop :=
  match ι[i]? with
  | some (.at B _ _) => v = .map (some B)
  | some .dead => ∃ p, v = .map p
  | _ => False
mutual
def RV (b : Nat) (ι : List Loc) : AV → Value → Prop
  | .unk, _ => True
  | .bool x, v => v = .bool x
  | .int k n, v => v = .int k n
  | .str s, v => v = .string s
  | .nilptr, v => v = .pointer none
  | .ptr a, v => RPtr b ι a v
  | .nilslice, v => v = .slice none 0 0
  | .slice a n c, v => RSlice b ι a n c v
  | .nilfunc, v => v = .nilFunc
  | .func f l, v => ∃ cs : Array Value, v = .func (.func f) #[] cs ∧ RVL b ι l cs.toList
  | .nilif, v => v = .nilIface
  | .iface t x, v => ∃ y, v = .iface t y ∧ RV b ι x y
  | .agg l, v => ∃ cs : Array Value, v = .agg cs ∧ RVL b ι l cs.toList
  | .tup l, v => ∃ cs : Array Value, v = .tuple cs ∧ RVL b ι l cs.toList
  | .nilmap, v => v = .map none
  | .yld l, v => v = .func (.yield l) #[] #[]
  | .map i, v => RMap ι i v
def RVL (b : Nat) (ι : List Loc) : List AV → List Value → Prop
  | [], ys => ys = []
  | x :: l, ys => ∃ y m, ys = y :: m ∧ RV b ι x y ∧ RVL b ι l m
end
def absAddr (b : Nat) (a : Addr) : Option AAddr := if a.block < b ∧ a.spot = none then some ⟨true, a.block, a.off⟩ else none
mutual
def absV (b : Nat) : Value → AV
  | .bool x => .bool x
  | .int k n => .int k n
  | .string s => .str s
  | .pointer none => .nilptr
  | .pointer (some a) => match absAddr b a with | some p => .ptr p | none => .unk
  | .slice none 0 0 => .nilslice
  | .slice (some a) n c => if n = 0 ∧ c = 0 then .slice ⟨true, 0, 0⟩ 0 (.known 0) else match absAddr b a with | some p => if n ≤ c then .slice p n (.known c) else .unk | none => .unk
  | .nilFunc => .nilfunc
  | .nilIface => .nilif
  | .agg ⟨l⟩ => .agg (absL b l)
  | .map none => .nilmap
  | _ => .unk
def absL (b : Nat) : List Value → List AV
  | [] => []
  | v :: l => absV b v :: absL b l
end
theorem absAddr_some {b : Nat} {a : Addr} {p : AAddr} (h : absAddr b a = some p) : p.ro = true ∧ p.blk < b ∧ a = ⟨p.blk, p.off, none⟩ := by
  unfold absAddr at h
  split at h
  · rename_i hc
    obtain ⟨h1, h2⟩ := hc
    injection h with h
    subst h
    obtain ⟨blk, off, spot⟩ := a
    simp only at h1 h2
    subst h2
    exact ⟨rfl, h1, rfl⟩
  · cases h
mutual
theorem RV_abs {b b' : Nat} (ι : List Loc) (hb : b ≤ b') : (v : Value) → RV b' ι (absV b v) v
  | .bool x => rfl
  | .int k n => rfl
  | .float .. => trivial
  | .complex .. => trivial
  | .string s => rfl
  | .pointer none => rfl
  | .pointer (some a) => by
    unfold absV
    split
    · rename_i p hp
      obtain ⟨h1, h2, h3⟩ := absAddr_some hp
      unfold RV RPtr
      rw [if_pos h1]
      exact ⟨Nat.lt_of_lt_of_le h2 hb, by rw [h3]⟩
    · unfold RV; trivial
  | .slice none n c => by
    unfold absV
    split
    all_goals first | (rename_i h; injection h with h1 h2 h3; subst h2 h3; unfold RV; rfl) | (rename_i h; cases h) | skip
    all_goals first | (simp only [RV]; done) | skip
    all_goals (rename_i h1 h2; first | cases h1 | cases h2 | skip)
  | .slice (some a) n c => by
    unfold absV
    split
    · rename_i h0
      obtain ⟨rfl, rfl⟩ := h0
      unfold RV RSlice
      exact ⟨0, rfl, Nat.le_refl _, .inr ⟨rfl, a, rfl⟩⟩
    · split
      · rename_i p hp
        obtain ⟨h1, h2, h3⟩ := absAddr_some hp
        split
        · rename_i hn
          unfold RV RSlice
          rw [if_pos h1]
          exact ⟨c, rfl, hn, .inl ⟨Nat.lt_of_lt_of_le h2 hb, by rw [h3]⟩⟩
        · unfold RV; trivial
      · unfold RV; trivial
  | .map none => rfl
  | .map (some _) => trivial
  | .chan _ => trivial
  | .func .. => trivial
  | .nilFunc => rfl
  | .iface .. => trivial
  | .nilIface => rfl
  | .agg ⟨l⟩ => by unfold absV RV; exact ⟨⟨l⟩, rfl, RVL_abs ι hb l⟩
  | .tuple _ => trivial
theorem RVL_abs {b b' : Nat} (ι : List Loc) (hb : b ≤ b') : (l : List Value) → RVL b' ι (absL b l) l
  | [] => rfl
  | v :: l => by unfold absL RVL; exact ⟨v, l, rfl, RV_abs ι hb v, RVL_abs ι hb l⟩
end
end Go.Abs
set_option linter.unusedVariables false
set_option linter.unusedSimpArgs false
namespace Go.Abs
open Go Go.RowKit
structure RBlk (b : Nat) (ι : List Loc) (l : List AV) (B O m : Nat) (w : World) : Prop where
  cells : ∃ cs e fz, w.heap[B]? = some (.cells cs e fz) ∧ O + m ≤ cs.size ∧ l.length ≤ m ∧ ∀ k v, l[k]? = some v → ∃ x, cs[O + k]? = some x ∧ RV b ι v x
  high : ∀ cs e fz, w.heap[B]? = some (.cells cs e fz) → fz.1 = fz.2 ∨ O + m ≤ fz.1
theorem RBlk.free {b : Nat} {ι : List Loc} {l : List AV} {B O m : Nat} {w : World} (h : RBlk b ι l B O m w) (q : Nat) (_h1 : O ≤ q) (h2 : q < O + m) : w.frozen? ⟨B, q, none⟩ = false := by
  obtain ⟨cs, e, fz, h3, _⟩ := h.cells
  obtain ⟨lo, hi⟩ := fz
  have h4 := h.high _ _ _ h3
  simp only [World.frozen?, h3, Bool.and_eq_false_iff, decide_eq_false_iff_not]
  simp only at h4
  omega
structure Rep (w0 : World) (ι : List Loc) (H : AH) (w : World) : Prop where
  below : Below w0.heap.size w0 w
  ro : ∀ B, B < w0.heap.size → ∀ k v, (H.ro B)[k]? = some v → ∃ x, w0.cell? ⟨B, k, none⟩ = some x ∧ v = absV w0.heap.size x
  len : ι.length = H.rw.length
  blk : ∀ (i : Nat) (l : List AV), H.rw[i]? = some (some (.cells l)) → ι[i]? = some .pend ∨ (ι[i]? = some .nil ∧ l = []) ∨ ∃ B O m, ι[i]? = some (.at B O m) ∧ RBlk w0.heap.size ι l B O m w
  nomap : ∀ (i : Nat) (es : List (AV × AV)), H.rw[i]? ≠ some (some (.map es))
  gone : ∀ (i : Nat), H.rw[i]? = some none → ι[i]? = some .dead
  inj : ∀ (i j B O m O' m' : Nat), ι[i]? = some (.at B O m) → ι[j]? = some (.at B O' m') → i = j
  locs : ∀ (i B O m : Nat), ι[i]? = some (.at B O m) → w0.heap.size ≤ B ∧ B < w.heap.size
def SameB (w w' : World) (B : Nat) : Prop := ∀ a : Addr, a.block = B → w'.cell? a = w.cell? a
theorem SameB.of {w w' : World} {B : Nat} (h : w'.heap[B]? = w.heap[B]?) : SameB w w' B := fun a e => by unfold World.cell?; rw [e, h]
theorem SameB.refl (w : World) (B : Nat) : SameB w w B := .of rfl
theorem SameB.trans {w w' w'' : World} {B : Nat} (h : SameB w w' B) (k : SameB w' w'' B) : SameB w w'' B := fun a e => (k a e).trans (h a e)
structure Ext (ι : List Loc) (H : AH) (w : World) (ι' : List Loc) (H' : AH) (w' : World) : Prop where
  ro : H'.ro = H.ro
  len : ι.length ≤ ι'.length
  loc : ∀ (i : Nat) (L : Loc), ι[i]? = some L → ι'[i]? = some L ∨ (ι'[i]? = some .dead ∧ L ≠ .pend)
  pend : ∀ (i : Nat), ι[i]? = some .pend → H'.rw[i]? = H.rw[i]?
  size : w.heap.size ≤ w'.heap.size
  frame : ∀ B, B < w.heap.size → (∀ (i O m : Nat), ι[i]? ≠ some (.at B O m)) → w'.heap[B]? = w.heap[B]?
  img : ∀ (i B O m : Nat), ι'[i]? = some (.at B O m) → (∃ (i' O' m' : Nat), ι[i']? = some (.at B O' m')) ∨ w.heap.size ≤ B
  mark : ∀ i, H.wr i → H'.wr i
  still : ∀ (i B O m : Nat), ι[i]? = some (.at B O m) → B < w.heap.size → ¬ H'.wr i → SameB w w' B ∧ ι'[i]? = some (.at B O m)
theorem Ext.refl (ι : List Loc) (H : AH) (w : World) : Ext ι H w ι H w :=
  ⟨rfl, Nat.le_refl _, fun _ _ h => .inl h, fun _ _ => rfl, Nat.le_refl _, fun _ _ _ => rfl, fun i _ O m h => .inl ⟨i, O, m, h⟩, fun _ h => h, fun _ _ _ _ h _ _ => ⟨SameB.refl _ _, h⟩⟩
theorem Ext.trans {ι ι' ι'' : List Loc} {H H' H'' : AH} {w w' w'' : World} (h : Ext ι H w ι' H' w') (k : Ext ι' H' w' ι'' H'' w'') : Ext ι H w ι'' H'' w'' where
  ro := k.ro.trans h.ro
  len := Nat.le_trans h.len k.len
  loc i L hl := by
    rcases h.loc i L hl with h1 | ⟨h1, h2⟩
    · exact k.loc i L h1
    · rcases k.loc i _ h1 with h3 | ⟨h3, _⟩
      · exact .inr ⟨h3, h2⟩
      · exact .inr ⟨h3, h2⟩
  pend i hi := by
    rcases h.loc i _ hi with h1 | ⟨_, h2⟩
    · rw [k.pend i h1, h.pend i hi]
    · exact absurd rfl h2
  size := Nat.le_trans h.size k.size
  frame B hB hn := by
    rw [k.frame B (Nat.lt_of_lt_of_le hB h.size) ?_, h.frame B hB hn]
    intro i O m hi
    rcases h.img i B O m hi with ⟨i', O', m', h1⟩ | h1
    · exact hn _ _ _ h1
    · omega
  img i B O m hi := by
    rcases k.img i B O m hi with ⟨i', O', m', h1⟩ | h1
    · exact h.img i' B O' m' h1
    · exact .inr (Nat.le_trans h.size h1)
  mark i hi := k.mark i (h.mark i hi)
  still i B O m hi hB hn := by
    obtain ⟨h1, h2⟩ := h.still i B O m hi hB fun e => hn (k.mark i e)
    obtain ⟨k1, k2⟩ := k.still i B O m h2 (Nat.lt_of_lt_of_le hB h.size) hn
    exact ⟨h1.trans k1, k2⟩
def LocLe (ι ι' : List Loc) : Prop := ∀ (i : Nat) (L : Loc), ι[i]? = some L → ι'[i]? = some L ∨ (ι'[i]? = some .dead ∧ L ≠ .pend)
theorem RPtr.ext {b : Nat} {ι ι' : List Loc} (h : LocLe ι ι') {a : AAddr} {v : Value} (hv : RPtr b ι a v) : RPtr b ι' a v := by
  unfold RPtr at *
  split
  · rename_i hr; rw [if_pos hr] at hv; exact hv
  · rename_i hr
    rw [if_neg hr] at hv
    cases hl : ι[a.blk]? with
    | none => rw [hl] at hv; exact hv.elim
    | some L =>
      rw [hl] at hv
      rcases h _ _ hl with h1 | ⟨h1, _⟩
      · rw [h1]; exact hv
      · rw [h1]
        cases L with
        | dead => exact hv
        | pend => exact hv.elim
        | nil => exact hv.elim
        | «at» B O m => exact ⟨_, hv⟩
theorem RSlice.ext {b : Nat} {ι ι' : List Loc} (h : LocLe ι ι') {a : AAddr} {n : Nat} {c : Cap} {v : Value} (hv : RSlice b ι a n c v) : RSlice b ι' a n c v := by
  unfold RSlice at *
  split
  · rename_i hr; rw [if_pos hr] at hv; exact hv
  · rename_i hr
    rw [if_neg hr] at hv
    cases hl : ι[a.blk]? with
    | none => rw [hl] at hv; exact hv.elim
    | some L =>
      rw [hl] at hv
      rcases h _ _ hl with h1 | ⟨h1, _⟩
      · rw [h1]; exact hv
      · rw [h1]
        cases L with
        | dead => exact hv
        | pend => exact hv.elim
        | nil =>
          obtain ⟨hn, ⟨q, hq⟩, sz, hc⟩ := hv
          exact ⟨q, 0, by rw [hn]; exact hq, by omega, fun h => by omega, fun c' h => by rw [hc] at h; cases h⟩
        | «at» B O m =>
          cases c with
          | known c =>
            obtain ⟨hn, hv | ⟨hc, p, hv⟩⟩ := hv
            · exact ⟨_, _, hv, hn, (fun _ h => by cases h), (fun c' h => ⟨by injection h, fun h => by cases h⟩)⟩
            · have h0 : n = 0 := by omega
              exact ⟨some p, 0, by rw [h0]; exact hv, by omega, fun h => by omega, fun c' h => ⟨by injection h with h; omega, fun h => by cases h⟩⟩
          | grow sz =>
            rcases hv with ⟨C, hn, _, hv⟩ | ⟨hn, p, hv⟩
            · exact ⟨_, _, hv, hn, fun _ h => by (cases h), fun c' h => by cases h⟩
            · exact ⟨some p, 0, by rw [hn]; exact hv, by omega, fun h => by omega, fun c' h => by cases h⟩
theorem RMap.ext {ι ι' : List Loc} (h : LocLe ι ι') {i : Nat} {v : Value} (hv : RMap ι i v) : RMap ι' i v := by
  unfold RMap at *
  cases hl : ι[i]? with
  | none => rw [hl] at hv; exact hv.elim
  | some L =>
    rw [hl] at hv
    rcases h _ _ hl with h1 | ⟨h1, _⟩
    · rw [h1]; exact hv
    · rw [h1]
      cases L with
      | dead => exact hv
      | pend => exact hv.elim
      | nil => exact hv.elim
      | «at» B O m => exact ⟨_, hv⟩
mutual
theorem RV.ext {b : Nat} {ι ι' : List Loc} (h : LocLe ι ι') : (x : AV) → {v : Value} → RV b ι x v → RV b ι' x v
  | .unk, _, _ => by unfold RV; trivial
  | .bool _, _, hv => by unfold RV at *; exact hv
  | .int .., _, hv => by unfold RV at *; exact hv
  | .str _, _, hv => by unfold RV at *; exact hv
  | .nilptr, _, hv => by unfold RV at *; exact hv
  | .ptr _, _, hv => by unfold RV at *; exact RPtr.ext h hv
  | .nilslice, _, hv => by unfold RV at *; exact hv
  | .slice .., _, hv => by unfold RV at *; exact RSlice.ext h hv
  | .nilfunc, _, hv => by unfold RV at *; exact hv
  | .func _ l, _, hv => by
    unfold RV at *
    obtain ⟨cs, h1, h2⟩ := hv
    exact ⟨cs, h1, RVL.ext h l h2⟩
  | .nilif, _, hv => by unfold RV at *; exact hv
  | .iface _ x, _, hv => by
    unfold RV at *
    obtain ⟨y, h1, h2⟩ := hv
    exact ⟨y, h1, RV.ext h x h2⟩
  | .agg l, _, hv => by
    unfold RV at *
    obtain ⟨cs, h1, h2⟩ := hv
    exact ⟨cs, h1, RVL.ext h l h2⟩
  | .tup l, _, hv => by
    unfold RV at *
    obtain ⟨cs, h1, h2⟩ := hv
    exact ⟨cs, h1, RVL.ext h l h2⟩
  | .nilmap, _, hv => by unfold RV at *; exact hv
  | .yld _, _, hv => by unfold RV at *; exact hv
  | .map _, _, hv => by unfold RV at *; exact RMap.ext h hv
theorem RVL.ext {b : Nat} {ι ι' : List Loc} (h : LocLe ι ι') : (l : List AV) → {ys : List Value} → RVL b ι l ys → RVL b ι' l ys
  | [], _, hv => by unfold RVL at *; exact hv
  | x :: l, _, hv => by
    unfold RVL at *
    obtain ⟨y, m, h1, h2, h3⟩ := hv
    exact ⟨y, m, h1, RV.ext h x h2, RVL.ext h l h3⟩
end
theorem Ext.le {ι ι' : List Loc} {H H' : AH} {w w' : World} (h : Ext ι H w ι' H' w') : LocLe ι ι' := h.loc
theorem RVL.length {b : Nat} {ι : List Loc} : ∀ {l : List AV} {ys : List Value}, RVL b ι l ys → ys.length = l.length
  | [], _, h => by unfold RVL at h; rw [h]; rfl
  | _ :: l, _, h => by
    unfold RVL at h
    obtain ⟨y, m, rfl, _, h3⟩ := h
    simp [RVL.length h3]
theorem RVL.get {b : Nat} {ι : List Loc} : ∀ {l : List AV} {ys : List Value}, RVL b ι l ys → ∀ {k : Nat} {v : AV}, l[k]? = some v → ∃ x, ys[k]? = some x ∧ RV b ι v x
  | [], _, _, k, v, hk => by simp at hk
  | x :: l, _, h, k, v, hk => by
    unfold RVL at h
    obtain ⟨y, m, rfl, h2, h3⟩ := h
    cases k with
    | zero => simp at hk; subst hk; exact ⟨y, by simp, h2⟩
    | succ k => simp at hk; obtain ⟨x', h4, h5⟩ := RVL.get h3 hk; exact ⟨x', by simpa using h4, h5⟩
theorem RVL.of_get {b : Nat} {ι : List Loc} : ∀ {l : List AV} {ys : List Value}, ys.length = l.length → (∀ (k : Nat) (v : AV), l[k]? = some v → ∃ x, ys[k]? = some x ∧ RV b ι v x) → RVL b ι l ys
  | [], ys, hl, _ => by unfold RVL; exact List.eq_nil_of_length_eq_zero hl
  | x :: l, ys, hl, h => by
    cases ys with
    | nil => simp at hl
    | cons y m =>
      unfold RVL
      obtain ⟨z, h1, h2⟩ := h 0 x (by simp)
      simp at h1
      subst h1
      exact ⟨_, m, rfl, h2, RVL.of_get (by simpa using hl) fun k v hk => by
        obtain ⟨z, h3, h4⟩ := h (k + 1) v (by simpa using hk)
        exact ⟨z, by simpa using h3, h4⟩⟩
theorem RVL.append {b : Nat} {ι : List Loc} {l l' : List AV} {ys ys' : List Value} (h : RVL b ι l ys) (h' : RVL b ι l' ys') : RVL b ι (l ++ l') (ys ++ ys') := by
  refine RVL.of_get (by simp [h.length, h'.length]) fun k v hk => ?_
  have e := h.length
  by_cases hlt : k < l.length
  · rw [List.getElem?_append_left hlt] at hk
    obtain ⟨x, h1, h2⟩ := h.get hk
    exact ⟨x, by rw [List.getElem?_append_left (by omega)]; exact h1, h2⟩
  · rw [List.getElem?_append_right (by omega)] at hk
    obtain ⟨x, h1, h2⟩ := h'.get hk
    exact ⟨x, by rw [List.getElem?_append_right (by omega), e]; exact h1, h2⟩
theorem RVL.take {b : Nat} {ι : List Loc} {l : List AV} {ys : List Value} (h : RVL b ι l ys) (n : Nat) : RVL b ι (l.take n) (ys.take n) := by
  refine RVL.of_get (by simp [h.length]) fun k v hk => ?_
  rw [List.getElem?_take] at hk ⊢
  split at hk
  · rename_i hk'; rw [if_pos hk']; exact h.get hk
  · cases hk
theorem RVL.drop {b : Nat} {ι : List Loc} {l : List AV} {ys : List Value} (h : RVL b ι l ys) (n : Nat) : RVL b ι (l.drop n) (ys.drop n) := by
  refine RVL.of_get (by simp [h.length]) fun k v hk => ?_
  rw [List.getElem?_drop] at hk ⊢
  exact h.get hk
def RFr (b : Nat) (ι : List Loc) (fr : AFr) (t : Array Value) : Prop := ∀ i, RV b ι (lget fr i) (t.getD i undef)
theorem RFr.ext {b : Nat} {ι ι' : List Loc} (h : LocLe ι ι') {fr : AFr} {t : Array Value} (hf : RFr b ι fr t) : RFr b ι' fr t := fun i => RV.ext h _ (hf i)
theorem RFr.put {b : Nat} {ι : List Loc} {fr : AFr} {t : Array Value} (hf : RFr b ι fr t) {d : Nat} (hd : d < t.size) {x : AV} {v : Value} (hv : RV b ι x v) :
    RFr b ι (lput fr d x) (t.setIfInBounds d v) := fun i => by
  rw [lget_lput]
  split
  · rename_i hi; subst hi; simpa [hd] using hv
  · rename_i hi
    have := hf i
    simp only [Array.getD_eq_getD_getElem?] at this ⊢
    rw [Array.getElem?_setIfInBounds_ne (Ne.symm hi)]
    exact this
end Go.Abs
set_option linter.unusedVariables false
set_option linter.unusedSimpArgs false
namespace Go.Abs
open Go Go.RowKit
theorem LocLe.refl (ι : List Loc) : LocLe ι ι := fun _ _ h => .inl h
theorem LocLe.app (ι : List Loc) (L : Loc) : LocLe ι (ι ++ [L]) := fun i L' h => .inl (by
  have hi : i < ι.length := by
    rcases Nat.lt_or_ge i ι.length with h1 | h1
    · exact h1
    · rw [List.getElem?_eq_none h1] at h; cases h
  rw [List.getElem?_append_left hi]; exact h)
theorem alloc_size (w : World) (o : Obj) : (w.alloc o).heap.size = w.heap.size + 1 := Array.size_push ..
theorem alloc_new (w : World) (o : Obj) : (w.alloc o).heap[w.heap.size]? = some o := Array.getElem?_push_size
theorem lt_of_get {α : Type} {l : List α} {i : Nat} {x : α} (h : l[i]? = some x) : i < l.length := by
  rcases Nat.lt_or_ge i l.length with h1 | h1
  · exact h1
  · rw [List.getElem?_eq_none h1] at h; cases h
theorem get_app {α : Type} {l : List α} {i : Nat} {x y : α} (h : (l ++ [y])[i]? = some x) : l[i]? = some x ∨ (i = l.length ∧ x = y) := by
  by_cases hi : i < l.length
  · rw [List.getElem?_append_left hi] at h; exact .inl h
  · rw [List.getElem?_append_right (by omega)] at h
    have hlt := lt_of_get h
    simp at hlt
    have e : i = l.length := by omega
    subst e
    simp at h
    exact .inr ⟨rfl, h.symm⟩
theorem get_app_lt {α : Type} {l : List α} {i : Nat} {y : α} (h : i < l.length) : (l ++ [y])[i]? = l[i]? := List.getElem?_append_left h
theorem RBlk.ext {b : Nat} {ι ι' : List Loc} (h : LocLe ι ι') {l : List AV} {B O m : Nat} {w : World} (k : RBlk b ι l B O m w) : RBlk b ι' l B O m w := by
  obtain ⟨cs, e, fz, h1, h2, h3, h4⟩ := k.cells
  exact ⟨⟨cs, e, fz, h1, h2, h3, fun k v hk => let ⟨x, a, r⟩ := h4 k v hk; ⟨x, a, RV.ext h v r⟩⟩, k.high⟩
theorem RBlk.world {b : Nat} {ι : List Loc} {l : List AV} {B O m : Nat} {w w' : World} (h : w'.heap[B]? = w.heap[B]?) (k : RBlk b ι l B O m w) : RBlk b ι l B O m w' := by
  obtain ⟨cs, e, fz, h1, h2, h3, h4⟩ := k.cells
  exact ⟨⟨cs, e, fz, h.trans h1, h2, h3, h4⟩, fun cs e fz h' => k.high cs e fz (h.symm.trans h')⟩
theorem Rep.push {w0 : World} {ι : List Loc} {H : AH} {w : World} (h : Rep w0 ι H w) {l : List AV} {cs : Array Value} (e : TypeId) (hl : l.length ≤ cs.size)
    (hv : ∀ (k : Nat) (v : AV), l[k]? = some v → ∃ x, cs[k]? = some x ∧ RV w0.heap.size ι v x) :
    Rep w0 (ι ++ [.at w.heap.size 0 cs.size]) (H.push (some (.cells l))) (w.alloc (.cells cs e)) ∧
    Ext ι H w (ι ++ [.at w.heap.size 0 cs.size]) (H.push (some (.cells l))) (w.alloc (.cells cs e)) := by
  have hle := LocLe.app ι (.at w.heap.size 0 cs.size)
  have hbs := h.below.size
  refine ⟨⟨h.below.alloc hbs _, h.ro, by simp [AH.push, h.len], ?_, ?_, ?_, ?_, ?_⟩, ⟨rfl, by simp, hle, ?_, by rw [alloc_size]; omega, fun B hB _ => Below.heap_alloc _ _ _ hB, ?_, fun _ h => .inr h, fun i B O m hi _ _ => ⟨.of (Below.heap_alloc _ _ _ (h.locs i B O m hi).2), by rw [get_app_lt (lt_of_get hi)]; exact hi⟩⟩⟩
  · intro i l' hi
    rcases get_app hi with hi | ⟨hi, hl'⟩
    · have hlt : i < ι.length := by rw [h.len]; exact lt_of_get hi
      rw [get_app_lt hlt]
      rcases h.blk i l' hi with h1 | h1 | ⟨B, O, m, h1, h2⟩
      · exact .inl h1
      · exact .inr (.inl h1)
      · exact .inr (.inr ⟨B, O, m, h1, (h2.ext hle).world (Below.heap_alloc _ _ _ (h.locs i B O m h1).2)⟩)
    · refine .inr (.inr ⟨w.heap.size, 0, cs.size, ?_, ⟨cs, e, (0, 0), alloc_new _ _, by simp, ?_, ?_⟩, ?_⟩)
      · rw [hi, ← h.len]; simp
      · injection hl' with hl'; injection hl' with hl'; rw [hl']; exact hl
      · injection hl' with hl'; injection hl' with hl'; subst hl'
        intro k v hk
        obtain ⟨x, h1, h2⟩ := hv k v hk
        exact ⟨x, by simpa using h1, RV.ext hle v h2⟩
      · intro c' e' fz' h'; rw [alloc_new] at h'; injection h' with h'; injection h' with _ _ h'; rw [← h']; exact .inl rfl
  · intro i es hi
    rcases get_app hi with hi | ⟨_, hi⟩
    · exact h.nomap i es hi
    · cases hi
  · intro i hi
    rcases get_app hi with hi | ⟨_, hi⟩
    · have hlt : i < ι.length := by rw [h.len]; exact lt_of_get hi
      rw [get_app_lt hlt]; exact h.gone i hi
    · cases hi
  · intro i j B O m O' m' hi hj
    rcases get_app hi with hi | ⟨hi, hi'⟩ <;> rcases get_app hj with hj | ⟨hj, hj'⟩
    · exact h.inj i j B O m O' m' hi hj
    · injection hj' with h1; have := (h.locs _ _ _ _ hi).2; omega
    · injection hi' with h1; have := (h.locs _ _ _ _ hj).2; omega
    · omega
  · intro i B O m hi
    rcases get_app hi with hi | ⟨hi, hi'⟩
    · have := h.locs _ _ _ _ hi; rw [alloc_size]; omega
    · injection hi' with h1; subst h1; rw [alloc_size]; omega
  · intro i hi
    have hlt : i < H.rw.length := by rw [← h.len]; exact lt_of_get hi
    simp only [AH.push]; exact get_app_lt hlt
  · intro i B O m hi
    rcases get_app hi with hi | ⟨hi, hi'⟩
    · exact .inl ⟨_, _, _, hi⟩
    · injection hi' with h1; exact .inr (by omega)
theorem setCell_block (w : World) (B q : Nat) (x : Value) {cs : Array Value} {e : TypeId} {fz : Nat × Nat} (h : w.heap[B]? = some (.cells cs e fz)) :
    (w.setCell ⟨B, q, none⟩ x).heap[B]? = some (.cells (cs.setIfInBounds q x) e fz) := by
  have hlt : B < w.heap.size := by
    rcases Nat.lt_or_ge B w.heap.size with h1 | h1
    · exact h1
    · rw [Array.getElem?_eq_none h1] at h; cases h
  rw [Array.getElem?_eq_getElem hlt] at h
  injection h with h
  simp only [World.setCell, Array.getElem?_modify, Array.getElem?_eq_getElem hlt, h, Option.map_some, Option.isSome_none, Bool.false_eq_true, if_false, if_true]
theorem setCell_size (w : World) (a : Addr) (x : Value) : (w.setCell a x).heap.size = w.heap.size := by simp [World.setCell]
theorem Rep.setCell {w0 : World} {ι : List Loc} {H : AH} {w : World} (h : Rep w0 ι H w) {i : Nat} {l l' : List AV} {B O m k : Nat} {x : Value} (hi : H.rw[i]? = some (some (.cells l)))
    (hι : ι[i]? = some (.at B O m)) (hk : k < m) (hl' : l'.length ≤ m) (hnew : ∀ j v, l'[j]? = some v → (j = k ∧ RV w0.heap.size ι v x) ∨ (j ≠ k ∧ l[j]? = some v)) :
    Rep w0 ι (H.set i (some (.cells l'))) (w.setCell ⟨B, O + k, none⟩ x) ∧ Ext ι H w ι (H.set i (some (.cells l'))) (w.setCell ⟨B, O + k, none⟩ x) := by
  obtain ⟨hB0, hB1⟩ := h.locs _ _ _ _ hι
  have hilt : i < H.rw.length := lt_of_get hi
  have hset : ∀ j, j ≠ i → (H.set i (some (.cells l'))).rw[j]? = H.rw[j]? := fun j hj => by simp [AH.set, Ne.symm hj]
  have hseti : (H.set i (some (.cells l'))).rw[i]? = some (some (.cells l')) := by simp [AH.set, hilt]
  refine ⟨⟨h.below.setCell hB0 _, h.ro, by simp [AH.set, h.len], ?_, ?_, ?_, h.inj, ?_⟩, ⟨rfl, Nat.le_refl _, LocLe.refl ι, ?_, by rw [setCell_size]; exact Nat.le_refl _, ?_, fun i B O m hi => .inl ⟨_, _, _, hi⟩, fun _ h => .inr h, fun j B' O' m' hj _ hn => ⟨.of (Below.heap_setCell _ _ _ _ (fun e => hn (.inl (h.inj j i B' O' m' O m hj (by rw [e]; exact hι))))), hj⟩⟩⟩
  · intro j q hj
    by_cases e : j = i
    · subst e
      rw [hseti] at hj
      injection hj with hj; injection hj with hj; injection hj with hj
      subst hj
      rcases h.blk j l hi with h1 | ⟨h1, _⟩ | ⟨B', O', m', h1, h2⟩
      · rw [hι] at h1; cases h1
      · rw [hι] at h1; cases h1
      · rw [hι] at h1
        injection h1 with h1
        injection h1 with e1 e2 e3
        subst e1 e2 e3
        obtain ⟨cs, e, fz, g1, g2, g3, g4⟩ := h2.cells
        refine .inr (.inr ⟨B, O, m, hι, ⟨cs.setIfInBounds (O + k) x, e, fz, setCell_block w B _ x g1, by simpa using g2, hl', ?_⟩, ?_⟩)
        · intro a v ha
          rcases hnew a v ha with ⟨rfl, hr⟩ | ⟨hne, ha'⟩
          · exact ⟨x, by rw [Array.getElem?_setIfInBounds_self_of_lt (by omega)], hr⟩
          · obtain ⟨y, g5, g6⟩ := g4 a v ha'
            exact ⟨y, by rw [Array.getElem?_setIfInBounds_ne (by omega)]; exact g5, g6⟩
        · intro c' e' fz' h'
          rw [setCell_block w B _ x g1] at h'
          injection h' with h'
          injection h' with _ _ h'
          rw [← h']
          exact h2.high _ _ _ g1
    · rw [hset j e] at hj
      rcases h.blk j q hj with h1 | h1 | ⟨B', O', m', h1, h2⟩
      · exact .inl h1
      · exact .inr (.inl h1)
      · have hne : B' ≠ B := fun hb => e (h.inj j i B' O' m' O m h1 (by rw [hb]; exact hι))
        exact .inr (.inr ⟨B', O', m', h1, h2.world (Below.heap_setCell _ _ _ _ hne)⟩)
  · intro j es hj
    by_cases e : j = i
    · subst e; rw [hseti] at hj; injection hj with hj; injection hj with hj; cases hj
    · rw [hset j e] at hj; exact h.nomap j es hj
  · intro j hj
    by_cases e : j = i
    · subst e; rw [hseti] at hj; injection hj with hj; cases hj
    · rw [hset j e] at hj; exact h.gone j hj
  · intro j B' O' m' hj
    rw [setCell_size]; exact h.locs j B' O' m' hj
  · intro j hj
    by_cases e : j = i
    · subst e; rw [hι] at hj; cases hj
    · exact hset j e
  · intro B' hB' hn
    exact Below.heap_setCell _ _ _ _ (fun e => hn i O m (by rw [e]; exact hι))
theorem Rep.rename {w0 : World} {ι : List Loc} {H : AH} {w : World} (h : Rep w0 ι H w) {i : Nat} {l : List AV} {B O m : Nat} (off : Nat) (hi : H.rw[i]? = some (some (.cells l)))
    (hι : ι[i]? = some (.at B O m)) (ho : off ≤ l.length) :
    Rep w0 (ι.set i .dead ++ [.at B (O + off) (m - off)]) ((H.set i none).push (some (.cells (l.drop off)))) w ∧
    Ext ι H w (ι.set i .dead ++ [.at B (O + off) (m - off)]) ((H.set i none).push (some (.cells (l.drop off)))) w := by
  have hilt : i < H.rw.length := lt_of_get hi
  have hiι : i < ι.length := by rw [h.len]; exact hilt
  have hget : ∀ j L, (ι.set i .dead ++ [.at B (O + off) (m - off)])[j]? = some L → (j ≠ i ∧ ι[j]? = some L) ∨ (j = i ∧ L = .dead) ∨ (j = ι.length ∧ L = .at B (O + off) (m - off)) := by
    intro j L hj
    rcases get_app hj with hj1 | ⟨h1, h2⟩
    · rw [List.getElem?_set] at hj1
      by_cases e : i = j
      · subst e
        rw [if_pos rfl, if_pos hiι] at hj1
        injection hj1 with hj1
        exact .inr (.inl ⟨rfl, hj1.symm⟩)
      · rw [if_neg e] at hj1; exact .inl ⟨fun e' => e e'.symm, hj1⟩
    · exact .inr (.inr ⟨by simpa using h1, h2⟩)
  have hmk : ∀ j L, j ≠ i → ι[j]? = some L → (ι.set i .dead ++ [.at B (O + off) (m - off)])[j]? = some L := by
    intro j L hne hj
    have hlt := lt_of_get hj
    rw [get_app_lt (by simpa using hlt), List.getElem?_set, if_neg (Ne.symm hne)]
    exact hj
  have hmi : (ι.set i .dead ++ [.at B (O + off) (m - off)])[i]? = some .dead := by
    rw [get_app_lt (by simpa using hiι), List.getElem?_set, if_pos rfl, if_pos hiι]
  have hml : (ι.set i .dead ++ [.at B (O + off) (m - off)])[ι.length]? = some (.at B (O + off) (m - off)) := by
    have : (ι.set i Loc.dead).length = ι.length := by simp
    rw [← this]; simp
  have hle : LocLe ι (ι.set i .dead ++ [.at B (O + off) (m - off)]) := by
    intro j L hj
    by_cases e : j = i
    · subst e
      rw [hι] at hj
      injection hj with hj
      subst hj
      exact .inr ⟨hmi, by intro h; cases h⟩
    · exact .inl (hmk j L e hj)
  have hH : ∀ j L, ((H.set i none).push (some (.cells (l.drop off)))).rw[j]? = some L → (j ≠ i ∧ H.rw[j]? = some L) ∨ (j = i ∧ L = none) ∨ (j = ι.length ∧ L = some (.cells (l.drop off))) := by
    intro j L hj
    rcases get_app hj with hj1 | ⟨h1, h2⟩
    · simp only [AH.set] at hj1
      rw [List.getElem?_set] at hj1
      by_cases e : i = j
      · subst e
        rw [if_pos rfl, if_pos hilt] at hj1
        injection hj1 with hj1
        exact .inr (.inl ⟨rfl, hj1.symm⟩)
      · rw [if_neg e] at hj1; exact .inl ⟨fun e' => e e'.symm, hj1⟩
    · exact .inr (.inr ⟨by simpa [AH.set, h.len] using h1, h2⟩)
  have hblk : RBlk w0.heap.size ι l B O m w := by
    rcases h.blk i l hi with h1 | ⟨h1, _⟩ | ⟨B', O', m', h1, h2⟩
    · rw [hι] at h1; cases h1
    · rw [hι] at h1; cases h1
    · rw [hι] at h1; injection h1 with h1; injection h1 with e1 e2 e3; subst e1 e2 e3; exact h2
  refine ⟨⟨h.below, h.ro, by simp [AH.push, AH.set, h.len], ?_, ?_, ?_, ?_, ?_⟩, ⟨rfl, by simp, hle, ?_, Nat.le_refl _, fun _ _ _ => rfl, ?_, fun _ h => .inr (.inr h), fun j B' O' m' hj _ hn => ⟨SameB.refl _ _, hmk j _ (fun e => hn (.inr (.inl e))) hj⟩⟩⟩
  · intro j q hj
    rcases hH j _ hj with ⟨hne, hk1⟩ | ⟨_, hk1⟩ | ⟨rfl, hk1⟩
    · rcases h.blk j q hk1 with h1 | ⟨h1, h2⟩ | ⟨B', O', m', h1, h2⟩
      · exact .inl (hmk j _ hne h1)
      · exact .inr (.inl ⟨hmk j _ hne h1, h2⟩)
      · exact .inr (.inr ⟨B', O', m', hmk j _ hne h1, h2.ext hle⟩)
    · cases hk1
    · injection hk1 with hk1; injection hk1 with hk1; subst hk1
      obtain ⟨cs, e, fz, g1, g2, g3, g4⟩ := hblk.cells
      refine .inr (.inr ⟨B, O + off, m - off, hml, ⟨cs, e, fz, g1, by omega, by simp; omega, ?_⟩, fun c' e' fz' h' => by rcases hblk.high _ _ _ h' with h' | h' <;> omega⟩)
      intro k v hk
      rw [List.getElem?_drop] at hk
      obtain ⟨x, g5, g6⟩ := g4 _ v hk
      exact ⟨x, by rw [Nat.add_assoc]; exact g5, RV.ext hle v g6⟩
  · intro j es hj
    rcases hH j _ hj with ⟨_, hj⟩ | ⟨_, hj⟩ | ⟨_, hj⟩
    · exact h.nomap j es hj
    · cases hj
    · injection hj with hj; cases hj
  · intro j hj
    rcases hH j _ hj with ⟨hne, hj⟩ | ⟨rfl, _⟩ | ⟨_, hj⟩
    · exact hmk j _ hne (h.gone j hj)
    · exact hmi
    · cases hj
  · intro j j' B' O1 m1 O2 m2 hj hj'
    rcases hget j _ hj with ⟨a1, a2⟩ | ⟨_, a2⟩ | ⟨a1, a2⟩ <;> rcases hget j' _ hj' with ⟨b1, b2⟩ | ⟨_, b2⟩ | ⟨b1, b2⟩
    all_goals first | (cases a2; done) | (cases b2; done) | skip
    · exact h.inj j j' _ _ _ _ _ a2 b2
    · injection b2 with c1 c2 c3; subst c1; exact absurd (h.inj j i _ _ _ _ _ a2 hι) a1
    · injection a2 with c1 c2 c3; subst c1; exact absurd (h.inj j' i _ _ _ _ _ b2 hι) b1
    · omega
  · intro j B' O' m' hj
    rcases hget j _ hj with ⟨_, a2⟩ | ⟨_, a2⟩ | ⟨_, a2⟩
    · exact h.locs _ _ _ _ a2
    · cases a2
    · injection a2 with c1 c2 c3; subst c1; exact h.locs _ _ _ _ hι
  · intro j hj
    have hne : j ≠ i := fun e => by subst e; rw [hι] at hj; cases hj
    have hlt : j < H.rw.length := by rw [← h.len]; exact lt_of_get hj
    simp only [AH.push, AH.set]
    rw [get_app_lt (by simpa using hlt), List.getElem?_set, if_neg (Ne.symm hne)]
  · intro j B' O' m' hj
    rcases hget j _ hj with ⟨_, a2⟩ | ⟨_, a2⟩ | ⟨_, a2⟩
    · exact .inl ⟨_, _, _, a2⟩
    · cases a2
    · injection a2 with c1 c2 c3; subst c1; exact .inl ⟨_, _, _, hι⟩
theorem Rep.kill {w0 : World} {ι : List Loc} {H : AH} {w : World} (h : Rep w0 ι H w) {i : Nat} (hnp : ι[i]? ≠ some .pend) :
    Rep w0 (ι.set i .dead) (H.set i none) w ∧ Ext ι H w (ι.set i .dead) (H.set i none) w := by
  have hget : ∀ j L, (ι.set i .dead)[j]? = some L → (j ≠ i ∧ ι[j]? = some L) ∨ (j = i ∧ L = .dead) := by
    intro j L hj
    rw [List.getElem?_set] at hj
    by_cases e : i = j
    · subst e
      rw [if_pos rfl] at hj
      by_cases hl : i < ι.length
      · rw [if_pos hl] at hj; injection hj with hj; exact .inr ⟨rfl, hj.symm⟩
      · rw [if_neg hl] at hj; cases hj
    · rw [if_neg e] at hj; exact .inl ⟨fun e' => e e'.symm, hj⟩
  have hmk : ∀ j L, j ≠ i → ι[j]? = some L → (ι.set i .dead)[j]? = some L := by
    intro j L hne hj
    rw [List.getElem?_set, if_neg (Ne.symm hne)]
    exact hj
  have hmi : i < ι.length → (ι.set i .dead)[i]? = some .dead := fun hl => by rw [List.getElem?_set, if_pos rfl, if_pos hl]
  have hle : LocLe ι (ι.set i .dead) := by
    intro j L hj
    by_cases e : j = i
    · subst e
      exact .inr ⟨hmi (lt_of_get hj), fun e => hnp (by rw [hj, e])⟩
    · exact .inl (hmk j L e hj)
  have hH : ∀ j L, (H.set i none).rw[j]? = some L → (j ≠ i ∧ H.rw[j]? = some L) ∨ (j = i ∧ L = none ∧ i < ι.length) := by
    intro j L hj
    simp only [AH.set] at hj
    rw [List.getElem?_set] at hj
    by_cases e : i = j
    · subst e
      rw [if_pos rfl] at hj
      by_cases hl : i < H.rw.length
      · rw [if_pos hl] at hj; injection hj with hj; exact .inr ⟨rfl, hj.symm, by rw [h.len]; exact hl⟩
      · rw [if_neg hl] at hj; cases hj
    · rw [if_neg e] at hj; exact .inl ⟨fun e' => e e'.symm, hj⟩
  refine ⟨⟨h.below, h.ro, by simp [AH.set, h.len], ?_, ?_, ?_, ?_, ?_⟩, ⟨rfl, by simp, hle, ?_, Nat.le_refl _, fun _ _ _ => rfl, ?_, fun _ h => .inr h, fun j B' O' m' hj _ hn => ⟨SameB.refl _ _, hmk j _ (fun e => hn (.inl e)) hj⟩⟩⟩
  · intro j q hj
    rcases hH j _ hj with ⟨hne, hj⟩ | ⟨_, hj, _⟩
    · rcases h.blk j q hj with h1 | ⟨h1, h2⟩ | ⟨B', O', m', h1, h2⟩
      · exact .inl (hmk j _ hne h1)
      · exact .inr (.inl ⟨hmk j _ hne h1, h2⟩)
      · exact .inr (.inr ⟨B', O', m', hmk j _ hne h1, h2.ext hle⟩)
    · cases hj
  · intro j es hj
    rcases hH j _ hj with ⟨_, hj⟩ | ⟨_, hj, _⟩
    · exact h.nomap j es hj
    · cases hj
  · intro j hj
    rcases hH j _ hj with ⟨hne, hj⟩ | ⟨rfl, _, hl⟩
    · exact hmk j _ hne (h.gone j hj)
    · exact hmi hl
  · intro j j' B' O1 m1 O2 m2 hj hj'
    rcases hget j _ hj with ⟨a1, a2⟩ | ⟨_, a2⟩ <;> rcases hget j' _ hj' with ⟨b1, b2⟩ | ⟨_, b2⟩
    all_goals first | (cases a2; done) | (cases b2; done) | skip
    exact h.inj j j' _ _ _ _ _ a2 b2
  · intro j B' O' m' hj
    rcases hget j _ hj with ⟨_, a2⟩ | ⟨_, a2⟩
    · exact h.locs _ _ _ _ a2
    · cases a2
  · intro j hj
    have hne : j ≠ i := fun e => by subst e; exact hnp hj
    simp only [AH.set]
    rw [List.getElem?_set, if_neg (Ne.symm hne)]
  · intro j B' O' m' hj
    rcases hget j _ hj with ⟨_, a2⟩ | ⟨_, a2⟩
    · exact .inl ⟨_, _, _, a2⟩
    · cases a2
theorem Rep.pushNil {w0 : World} {ι : List Loc} {H : AH} {w : World} (h : Rep w0 ι H w) :
    Rep w0 (ι ++ [.nil]) (H.push (some (.cells []))) w ∧ Ext ι H w (ι ++ [.nil]) (H.push (some (.cells []))) w := by
  have hle := LocLe.app ι .nil
  refine ⟨⟨h.below, h.ro, by simp [AH.push, h.len], ?_, ?_, ?_, ?_, ?_⟩, ⟨rfl, by simp, hle, ?_, Nat.le_refl _, fun _ _ _ => rfl, ?_, fun _ h => .inr h, fun i B O m hi _ _ => ⟨SameB.refl _ _, by rw [get_app_lt (lt_of_get hi)]; exact hi⟩⟩⟩
  · intro i l' hi
    rcases get_app hi with hi | ⟨hi, hl'⟩
    · have hlt : i < ι.length := by rw [h.len]; exact lt_of_get hi
      rw [get_app_lt hlt]
      rcases h.blk i l' hi with h1 | h1 | ⟨B, O, m, h1, h2⟩
      · exact .inl h1
      · exact .inr (.inl h1)
      · exact .inr (.inr ⟨B, O, m, h1, h2.ext hle⟩)
    · injection hl' with hl'; injection hl' with hl'
      exact .inr (.inl ⟨by rw [hi, ← h.len]; simp, hl'⟩)
  · intro i es hi
    rcases get_app hi with hi | ⟨_, hi⟩
    · exact h.nomap i es hi
    · cases hi
  · intro i hi
    rcases get_app hi with hi | ⟨_, hi⟩
    · have hlt : i < ι.length := by rw [h.len]; exact lt_of_get hi
      rw [get_app_lt hlt]; exact h.gone i hi
    · cases hi
  · intro i j B O m O' m' hi hj
    rcases get_app hi with hi | ⟨hi, hi'⟩ <;> rcases get_app hj with hj | ⟨hj, hj'⟩
    all_goals first | (cases hi'; done) | (cases hj'; done) | skip
    exact h.inj i j B O m O' m' hi hj
  · intro i B O m hi
    rcases get_app hi with hi | ⟨hi, hi'⟩
    · exact h.locs _ _ _ _ hi
    · cases hi'
  · intro i hi
    have hlt : i < H.rw.length := by rw [← h.len]; exact lt_of_get hi
    simp only [AH.push]; exact get_app_lt hlt
  · intro i B O m hi
    rcases get_app hi with hi | ⟨hi, hi'⟩
    · exact .inl ⟨_, _, _, hi⟩
    · cases hi'
theorem Rep.same {w0 : World} {ι : List Loc} {H : AH} {w w' : World} (h : Rep w0 ι H w) (hh : w'.heap = w.heap) (ho : w'.os = w.os) (ht : w'.tape = w.tape) (hu : w'.output = w.output) :
    Rep w0 ι H w' ∧ Ext ι H w ι H w' := by
  have hb : ∀ B : Nat, w'.heap[B]? = w.heap[B]? := fun B => by rw [hh]
  refine ⟨⟨⟨ho.trans h.below.os, ht.trans h.below.tape, hu.trans h.below.output, by rw [hh]; exact h.below.size, fun k hk => by rw [hh]; exact h.below.block k hk⟩, h.ro, h.len, ?_, h.nomap, h.gone, h.inj, fun i B O m hi => by rw [hh]; exact h.locs i B O m hi⟩,
    ⟨rfl, Nat.le_refl _, LocLe.refl ι, fun _ _ => rfl, by rw [hh]; exact Nat.le_refl _, fun B _ _ => hb B, fun i B O m hi => .inl ⟨_, _, _, hi⟩, fun _ h => h, fun i B O m hi _ _ => ⟨.of (hb B), hi⟩⟩⟩
  intro i l hi
  rcases h.blk i l hi with h1 | h1 | ⟨B, O, m, h1, h2⟩
  · exact .inl h1
  · exact .inr (.inl h1)
  · exact .inr (.inr ⟨B, O, m, h1, h2.world (hb B)⟩)
theorem Rep.more {w0 : World} {ι : List Loc} {H : AH} {w : World} (h : Rep w0 ι H w) (X : Nat → Prop) : Rep w0 ι ⟨H.ro, H.rw, X⟩ w :=
  ⟨h.below, h.ro, h.len, h.blk, h.nomap, h.gone, h.inj, h.locs⟩
theorem Ext.more {ι ι' : List Loc} {H H' : AH} {w w' : World} (h : Ext ι H w ι' H' w') {X : Nat → Prop} (hx : ∀ i, H'.wr i → X i) : Ext ι H w ι' ⟨H'.ro, H'.rw, X⟩ w' :=
  ⟨h.ro, h.len, h.loc, h.pend, h.size, h.frame, h.img, fun i hi => hx i (h.mark i hi), fun i B O m hi hB hn => h.still i B O m hi hB fun e => hn (hx i e)⟩
theorem AH.set_set' (H : AH) (i : Nat) (b c : Option ABlk) : (H.set i b).set i c = H.set i c := by
  simp only [AH.set, AH.mk.injEq, true_and, List.set_set]
  exact funext fun j => propext ⟨fun h => h.elim .inl id, .inr⟩
theorem Rep.drew {w0 : World} {ι : List Loc} {H : AH} {w : World} (h : Rep w0 ι H w) : Rep w0 ι H w.drew ∧ Ext ι H w ι H w.drew := h.same rfl rfl rfl rfl
end Go.Abs
set_option linter.unusedVariables false
set_option linter.unusedSimpArgs false
namespace Go.Abs
open Go Go.RowKit
def aeval (fr : AFr) : Operand → AV
  | .tmp t => lget fr t
  | .const v => absV 0 v
  | .global _ => .unk
  | .func f => .func f []
def sizeA (P : Program) (t : TypeId) : Option Nat := (P.info? t).map (·.size)
def bytesA (P : Program) (t : TypeId) : Option Nat := (P.info? t).map (·.bytes)
def zeroA (P : Program) (t : TypeId) : Option (List AV) := (P.info? t).bind fun i => i.zero.map fun z => absL 0 z.cells.toList
def isAggD : TypeDesc → Bool
  | .struct _ | .array .. => true
  | _ => false
def aggA (P : Program) (t : TypeId) : Option Bool := (P.underlying t).map isAggD
def partA (P : Program) (t : TypeId) (cs : List AV) (off : Nat) : Option AV :=
  (aggA P t).bind fun g => if g then (sizeA P t).bind fun n => if off + n ≤ cs.length then some (.agg ((cs.drop off).take n)) else none else cs[off]?
def loadA (P : Program) (t : TypeId) (a : AAddr) (H : AH) : Option AV := (H.get a).bind fun cs => partA P t cs a.off
def cellsA : AV → Option (List AV)
  | .unk => none
  | .tup _ => none
  | .agg l => some l
  | v => some [v]
def oneA : AV → Bool
  | .unk | .agg _ | .tup _ => false
  | _ => true
def storeCellsA (H : AH) (i o : Nat) : List AV → Option AH
  | [] => some H
  | v :: r => if oneA v then (H.cells? i).bind fun l => if o < l.length then storeCellsA (H.set i (some (.cells (l.set o v)))) i (o + 1) r else none else none
def storeA (P : Program) (t : TypeId) (a : AAddr) (v : AV) (H : AH) : Option AH :=
  (cellsA v).bind fun vs => if sizeA P t = some vs.length ∧ a.ro = false then storeCellsA H a.blk a.off vs else none
def newA (H : AH) (l : List AV) : AV × AH := (.ptr ⟨false, H.n, 0⟩, H.push (some (.cells l)))
def repA (z : List AV) (c : Nat) : List AV :=
  match z with
  | [x] => List.replicate c x
  | _ => (List.range (c * z.length)).map fun i => z.getD (i % z.length) .unk
def putAt (cs : List AV) (o : Nat) : List AV → List AV
  | [] => cs
  | v :: r => putAt (cs.set o v) (o + 1) r
def fillA (place : Nat → Option (Nat × Nat)) (cells : List AV) : List (Nat × AV) → Option (List AV)
  | [] => some cells
  | (i, v) :: rest => (place i).bind fun p => (cellsA v).bind fun vs =>
    if vs.length = p.2 ∧ p.1 + vs.length ≤ cells.length then fillA place (putAt cells p.1 vs) rest else none
def placesA (P : Program) : List Field → Option (List (Nat × Nat))
  | [] => some []
  | f :: l => (sizeA P f.type).bind fun n => (placesA P l).map fun r => (f.offset, n) :: r
def buildA (P : Program) (t : TypeId) (parts : List (Nat × AV)) : Option AV :=
  (zeroA P t).bind fun zero =>
  match P.underlying t with
  | some (.struct fields) => (placesA P fields.toList).bind fun pl => (fillA (fun i => pl[i]?) zero parts).map .agg
  | some (.array _ elem) => (sizeA P elem).bind fun size => (fillA (fun i => some (i * size, size)) zero parts).map .agg
  | _ => none
def buildSliceA (P : Program) (t : TypeId) (len : Nat) (parts : List (Nat × AV)) (H : AH) : Option (AV × AH) :=
  match P.underlying t with
  | some (.slice elem) => (sizeA P elem).bind fun size => (zeroA P elem).bind fun zero =>
    if len * size ≤ 16777216 ∧ zero.length = size ∧ 0 < size then
      (fillA (fun i => some (i * size, size)) (repA zero len) parts).map fun cells => (.slice ⟨false, H.n, 0⟩ len (.known len), H.push (some (.cells cells)))
    else none
  | _ => none
def makeSliceA (P : Program) (t : TypeId) (len cap : AV) (H : AH) : Option (AV × AH) :=
  match P.underlying t, len, cap with
  | some (.slice elem), .int _ l, .int _ c => (sizeA P elem).bind fun size => (bytesA P elem).bind fun bytes => (zeroA P elem).bind fun zero =>
    if 0 ≤ l ∧ l ≤ c ∧ c ≤ 140737488355328 ∧ c * bytes ≤ 140737488355328 ∧ zero.length = size ∧ 0 < size then
      some (.slice ⟨false, H.n, 0⟩ l.toNat (.known c.toNat), H.push (some (.cells (repA zero c.toNat))))
    else none
  | _, _, _ => none
def intOpA (op : BinOp) (k : IntKind) (x y : Int) : Option AV :=
  match op with
  | .add => some (.int k (k.wrap (x + y)))
  | .sub => some (.int k (k.wrap (x - y)))
  | .mul => some (.int k (k.wrap (x * y)))
  | .quo => if y = 0 then none else some (.int k (k.wrap (x.tdiv y)))
  | .rem => if y = 0 then none else some (.int k (x.tmod y))
  | .and => some (.int k (k.wrap ((BitVec.ofInt k.bits x &&& BitVec.ofInt k.bits y).toNat)))
  | .or => some (.int k (k.wrap ((BitVec.ofInt k.bits x ||| BitVec.ofInt k.bits y).toNat)))
  | .xor => some (.int k (k.wrap ((BitVec.ofInt k.bits x ^^^ BitVec.ofInt k.bits y).toNat)))
  | .andNot => some (.int k (k.wrap ((BitVec.ofInt k.bits x &&& ~~~BitVec.ofInt k.bits y).toNat)))
  | .eql => some (.bool (x == y))
  | .neq => some (.bool (x != y))
  | .lss => some (.bool (x < y))
  | .leq => some (.bool (x ≤ y))
  | .gtr => some (.bool (x > y))
  | .geq => some (.bool (x ≥ y))
  | _ => none
def shiftA (op : BinOp) (k : IntKind) (x y : Int) : Option AV :=
  if y < 0 then none else
  match op with
  | .shl => some (.int k (k.wrap (x * 2 ^ min y.toNat k.bits)))
  | .shr => some (.int k (x.fdiv (2 ^ min y.toNat k.bits)))
  | _ => none
def strOpA (op : BinOp) (x y : ByteArray) : Option AV :=
  match op with
  | .eql => some (.bool (x.toList == y.toList))
  | .neq => some (.bool !(x.toList == y.toList))
  | .lss => some (.bool (Op.bytesLess x.toList y.toList))
  | .leq => some (.bool (Op.bytesLess x.toList y.toList || x.toList == y.toList))
  | .gtr => some (.bool !(Op.bytesLess x.toList y.toList || x.toList == y.toList))
  | .geq => some (.bool !(Op.bytesLess x.toList y.toList))
  | _ => none
def sureSlice (n : Nat) : Cap → Bool
  | .known _ => true
  | .grow _ => decide (0 < n)
def eqA (d : TypeDesc) (x y : AV) : Option Bool :=
  match d, x, y with
  | .bool, .bool a, .bool b => some (a == b)
  | .slice _, .nilslice, .nilslice => some true
  | .slice _, .nilslice, .slice _ n c => if sureSlice n c then some false else none
  | .slice _, .slice _ n c, .nilslice => if sureSlice n c then some false else none
  | .pointer _, .nilptr, .nilptr => some true
  | .pointer _, .nilptr, .ptr _ => some false
  | .pointer _, .ptr _, .nilptr => some false
  | _, _, _ => none
def eqFs (eq : TypeId → AV → AV → Option Bool) (P : Program) (xs ys : List AV) : List Field → Option Bool
  | [] => some true
  | f :: l => if f.name = "_" then eqFs eq P xs ys l else (partA P f.type xs f.offset).bind fun p => (partA P f.type ys f.offset).bind fun q => (eq f.type p q).bind fun b => (eqFs eq P xs ys l).map fun c => b && c
def eqEs (eq : AV → AV → Option Bool) (P : Program) (e : TypeId) (sz : Nat) (xs ys : List AV) : List Nat → Option Bool
  | [] => some true
  | i :: l => (partA P e xs (i * sz)).bind fun p => (partA P e ys (i * sz)).bind fun q => (eq p q).bind fun b => (eqEs eq P e sz xs ys l).map fun c => b && c
def eqD (P : Program) : Nat → TypeId → AV → AV → Option Bool
  | 0, _, _, _ => none
  | d + 1, t, x, y =>
    match P.underlying t, x, y with
    | some .bool, .bool a, .bool b => some (a == b)
    | some (.int _), .int k a, .int k' b => if k = k' then some (a == b) else none
    | some (.struct fs), .agg xs, .agg ys => if P.stoodInHeld t then none else eqFs (eqD P d) P xs ys fs.toList
    | some (.array n e), .agg xs, .agg ys => (sizeA P e).bind fun sz => eqEs (eqD P d e) P e sz xs ys (List.range n)
    | _, _, _ => none
def eqAgg (P : Program) (t : TypeId) (x y : AV) : Option Bool := if P.eqGuardType P.depth t then none else eqD P 6 t x y
def binA (P : Program) (op : BinOp) (t : TypeId) (x y : AV) : Option AV :=
  match x, y with
  | .int k a, .int k' b =>
    match op with
    | .shl => shiftA .shl k a b
    | .shr => shiftA .shr k a b
    | op => if k = k' then intOpA op k a b else none
  | .str a, .str b => strOpA op a b
  | .agg a, .agg b =>
    match op with
    | .eql => (eqAgg P t (.agg a) (.agg b)).map .bool
    | .neq => (eqAgg P t (.agg a) (.agg b)).map fun b => .bool !b
    | _ => none
  | x, y =>
    match op with
    | .eql => (P.underlying t).bind fun d => (eqA d x y).map .bool
    | .neq => (P.underlying t).bind fun d => (eqA d x y).map fun b => .bool !b
    | _ => none
def unA (op : UnOp) (x : AV) : Option AV :=
  match op, x with
  | .neg, .int k n => intOpA .sub k 0 n
  | .xor, .int k n => intOpA .xor k (if k.signed then -1 else k.max) n
  | .not, .bool b => some (.bool !b)
  | _, _ => none
def boundA (v : AV) (y : Nat) : Option Nat :=
  match v with
  | .int _ i => if 0 ≤ i ∧ i ≤ y then some i.toNat else none
  | _ => none
def optB (v : Option AV) (y d : Nat) : Option Nat :=
  match v with
  | some v => boundA v y
  | none => some d
def cutA (a : AAddr) (sz l h m : Nat) : AV := .slice (if m = l then a else ⟨a.ro, a.blk, a.off + l * sz⟩) (h - l) (.known (m - l))
def cutKnown (a : AAddr) (sz n c : Nat) (lo hi mx : Option AV) : Option AV :=
  (optB mx c c).bind fun m => (if mx.isSome && hi.isNone then none else optB hi m n).bind fun h => (optB lo h 0).map fun l => cutA a sz l h m
def sliceOpA (P : Program) (t : TypeId) (x : AV) (lo hi mx : Option AV) : Option AV :=
  match P.underlying t, x with
  | some (.slice e), .slice a n (.known c) => (sizeA P e).bind fun sz => cutKnown a sz n c lo hi mx
  | some (.slice e), .slice a n (.grow sz') => (sizeA P e).bind fun sz =>
    if sz' = sz ∧ a.ro = false then
      match mx with
      | none => (optB hi n n).bind fun h => (optB lo h 0).map fun l => .slice ⟨false, a.blk, a.off + l * sz⟩ (h - l) (.grow sz)
      | some _ => if 0 < n then (optB mx n n).bind fun m => (if hi.isNone then none else optB hi m n).bind fun h => (optB lo h 0).map fun l => cutA a sz l h m else none
    else none
  | some (.slice e), .nilslice => (sizeA P e).bind fun _ => (optB mx 0 0).bind fun m => (if mx.isSome && hi.isNone then none else optB hi m 0).bind fun h => (optB lo h 0).map fun _ => .nilslice
  | some (.array n e), .ptr a => (sizeA P e).bind fun sz => cutKnown a sz n n lo hi mx
  | some .string, .str s => if mx.isSome then none else (optB hi s.size s.size).bind fun h => (optB lo h 0).map fun l => .str (s.extract l h)
  | some (.pointer arr), .ptr a =>
    match P.underlying arr with
    | some (.array n e) => (sizeA P e).bind fun sz => cutKnown a sz n n lo hi mx
    | _ => none
  | _, _ => none
def indexAddrA (P : Program) (t : TypeId) (x i : AV) : Option AV :=
  match P.underlying t, x, i with
  | some (.array n e), .ptr a, .int _ i => (sizeA P e).bind fun sz => if 0 ≤ i ∧ i < n then some (.ptr ⟨a.ro, a.blk, a.off + i.toNat * sz⟩) else none
  | some (.slice e), .slice a n _, .int _ i => (sizeA P e).bind fun sz => if 0 ≤ i ∧ i < n then some (.ptr ⟨a.ro, a.blk, a.off + i.toNat * sz⟩) else none
  | _, _, _ => none
def indexA (P : Program) (t : TypeId) (x i : AV) : Option AV :=
  match P.underlying t, x, i with
  | some (.array n e), .agg cs, .int _ i => (sizeA P e).bind fun sz => if 0 ≤ i ∧ i < n then partA P e cs (i.toNat * sz) else none
  | some .string, .str s, .int _ i => if 0 ≤ i then (s[i.toNat]?).map fun b => .int .u8 b.toNat else none
  | _, _, _ => none
def fieldAddrA (P : Program) (s : TypeId) (x : AV) (f : Nat) : Option AV :=
  match P.underlying s, x with
  | some (.struct fields), .ptr a => (fields[f]?).bind fun f => if sizeA P f.type = some 0 ∨ sizeA P f.type = none then none else some (.ptr ⟨a.ro, a.blk, a.off + f.offset⟩)
  | _, _ => none
def fieldA (P : Program) (t : TypeId) (x : AV) (f : Nat) : Option AV :=
  match P.underlying t, x with
  | some (.struct fields), .agg cs => (fields[f]?).bind fun f => partA P f.type cs f.offset
  | _, _ => none
def byteA : AV → Option UInt8
  | .int .u8 n => some (UInt8.ofNat n.toNat)
  | _ => none
def bytesOfA : List AV → Option (List UInt8)
  | [] => some []
  | v :: l => (byteA v).bind fun b => (bytesOfA l).map fun r => b :: r
def slen : AV → Nat
  | .slice _ n _ => n
  | _ => 0
def rowA (H : AH) (sz : Nat) (x : AV) : Option (List AV) :=
  match x with
  | .nilslice => some []
  | .slice a n _ => (H.get a).bind fun cs => if a.off + n * sz ≤ cs.length ∨ n * sz = 0 then some ((cs.drop a.off).take (n * sz)) else none
  | _ => none
def isKnown : Cap → Bool
  | .known c => decide (0 < c)
  | _ => false
def isByteT (P : Program) (e : TypeId) : Bool :=
  match P.underlying e with
  | some (.int .u8) => true
  | _ => false
def convertA (P : Program) (src dst : TypeId) (x : AV) (H : AH) : Option (AV × AH) :=
  match P.underlying src, P.underlying dst, x with
  | some _, some (.int k), .int _ n => some (.int k (k.wrap n), H)
  | some (.slice e), some .string, x =>
    match P.underlying e with
    | some (.int .u8) => (rowA H 1 x).bind fun cs => (bytesOfA cs).map fun bs => (.str ⟨bs.toArray⟩, H)
    | _ => none
  | some (.slice _), some (.slice e), .slice a n c => if src = dst ∧ a.ro = false ∧ (H.cells? a.blk).isSome ∧ isKnown c = true ∧ isByteT P e = true then some (.slice a n c, H) else none
  | _, _, _ => none
def lenA (P : Program) (t : TypeId) (x : AV) : Option AV :=
  match P.underlying t, x with
  | some .string, .str s => some (.int .i64 s.size)
  | some (.array n _), _ => some (.int .i64 n)
  | some (.slice _), .slice _ n _ => some (.int .i64 n)
  | some (.slice _), .nilslice => some (.int .i64 0)
  | _, _ => none
def min2A : AV → AV → Option AV
  | .int k x, .int _ y => some (.int k (if y < x then y else x))
  | _, _ => none
def max2A : AV → AV → Option AV
  | .int k x, .int _ y => some (.int k (if y > x then y else x))
  | _, _ => none
def foldA (f : AV → AV → Option AV) : AV → List AV → Option AV
  | x, [] => some x
  | x, y :: l => (f x y).bind fun z => foldA f z l
def newsA (H : AH) (sz : Nat) (x : AV) : Option (Nat × List AV) :=
  match x with
  | .nilslice => some (0, [])
  | .slice _ n _ => (rowA H sz x).map fun cs => (n, cs)
  | .str s => if sz = 1 then some (s.size, s.data.toList.map fun b => .int .u8 b.toNat) else none
  | _ => none
def moreA (P : Program) (xt : TypeId) (zero : List AV) (sz : Nat) (H : AH) (x : AV) : Option (Nat × List AV) :=
  match P.underlying xt, x with
  | some (.int _), .int .i64 l => if 0 ≤ l ∧ l ≤ 140737488355328 then some (l.toNat, repA zero l.toNat) else none
  | some (.slice _), x => newsA H sz x
  | some .string, x => newsA H sz x
  | _, _ => none
def appendTo0 (sz bytes : Nat) (H : AH) (k : Nat) (news : List AV) (s : AV) : Option (AV × AH) :=
  match s with
  | .nilslice => if k ≤ 140737488355328 ∧ k * bytes ≤ 140737488355328 then some (.slice ⟨false, H.n, 0⟩ k (.grow sz), H.push (some (.cells news))) else none
  | .slice a n (.grow sz') =>
    if sz' = sz ∧ a.ro = false ∧ n + k ≤ 140737488355328 ∧ (n + k) * bytes ≤ 140737488355328 then
      (H.cells? a.blk).bind fun l => if a.off + n * sz = l.length then
        some (.slice ⟨false, H.n, 0⟩ (n + k) (.grow sz), (H.set a.blk none).push (some (.cells (l.drop a.off ++ news)))) else none
    else none
  | .slice a n (.known c) =>
    if n + k ≤ 140737488355328 ∧ (n + k) * bytes ≤ 140737488355328 ∧ n ≤ c then
      if c = 0 then some (.slice ⟨false, H.n, 0⟩ k (.grow sz), H.push (some (.cells news)))
      else if k = 0 then some (.slice a n (.known c), H)
      else if c < n + k then
        (H.get a).bind fun l => if a.off + n * sz ≤ l.length then some (.slice ⟨false, H.n, 0⟩ (n + k) (.grow sz), H.push (some (.cells ((l.drop a.off).take (n * sz) ++ news)))) else none
      else none
    else none
  | _ => none
def trimA (H : AH) (sz : Nat) (s : AV) : AH :=
  match s with
  | .slice a n (.grow _) => (match H.cells? a.blk with
    | some l => if a.off + n * sz < l.length then H.set a.blk (some (.cells (l.take (a.off + n * sz)))) else H
    | none => H)
  | _ => H
def appendTo (sz bytes : Nat) (H : AH) (k : Nat) (news : List AV) (s : AV) : Option (AV × AH) := appendTo0 sz bytes (trimA H sz s) k news s
def appendA (P : Program) (st xt : TypeId) (s x : AV) (H : AH) : Option (AV × AH) :=
  match P.underlying st with
  | some (.slice e) => (sizeA P e).bind fun sz => (bytesA P e).bind fun bytes => (zeroA P e).bind fun zero =>
    if zero.length = sz ∧ 0 < sz then (moreA P xt zero sz H x).bind fun kn => if kn.2.all oneA = true then appendTo sz bytes H kn.1 kn.2 s else none
    else none
  | _ => none
def copyA (P : Program) (dt : TypeId) (d x : AV) (H : AH) : Option (AV × AH) :=
  match P.underlying dt with
  | some (.slice e) => (sizeA P e).bind fun sz => (newsA H sz x).bind fun kn =>
    match d with
    | .nilslice => some (.int .i64 0, H)
    | .slice a n _ => if a.ro = false ∧ (H.cells? a.blk).isSome then (storeCellsA H a.blk a.off (kn.2.take (min kn.1 n * sz))).map fun H' => (.int .i64 (min kn.1 n : Nat), H') else none
    | _ => none
  | _ => none
def clearA (P : Program) (t : TypeId) (x : AV) (H : AH) : Option (AV × AH) :=
  match P.underlying t with
  | some (.slice e) => (zeroA P e).bind fun zero =>
    match x with
    | .nilslice => some (.tup [], H)
    | .slice a n _ => if n = 0 then some (.tup [], H) else if (a.ro = false ∧ (H.cells? a.blk).isSome) ∧ 0 < zero.length then (storeCellsA H a.blk a.off (repA zero n)).map fun H' => (.tup [], H') else none
    | _ => none
  | _ => none
def builtinA (P : Program) (b : Builtin) (ts : List TypeId) (xs : List AV) (H : AH) : Option (AV × AH) :=
  match b, ts, xs with
  | .len, [t], [x] => (lenA P t x).map fun v => (v, H)
  | .append, [st, xt], [s, x] => appendA P st xt s x H
  | .copy, [dt, _], [d, x] => copyA P dt d x H
  | .clear, [t], [x] => clearA P t x H
  | .min, _, x :: l => (foldA min2A x l).map fun v => (v, H)
  | .max, _, x :: l => (foldA max2A x l).map fun v => (v, H)
  | _, _, _ => none
def isIfaceD : TypeDesc → Bool
  | .interface _ => true
  | _ => false
def zeroV (P : Program) (t : TypeId) : Option AV := (P.info? t).bind fun i => i.zero.map (absV 0)
def ifaceA (P : Program) (t : TypeId) (v : AV) : Option AV := (P.underlying t).bind fun d => if isIfaceD d then none else some (.iface t v)
def assertV (z : Option AV) (t : TypeId) (ok : Bool) : AV → Option AV
  | .iface t' x => if t' = t then some (if ok then .tup [x, .bool true] else x) else if ok then z.map fun z => .tup [z, .bool false] else none
  | .nilif => if ok then z.map fun z => .tup [z, .bool false] else none
  | _ => none
def assertA (P : Program) (t : TypeId) (ok : Bool) (v : AV) : Option AV := (P.underlying t).bind fun d => if isIfaceD d then none else assertV (zeroV P t) t ok v
def opA (P : Program) (fr : AFr) (H : AH) (op : Op) : Option (AV × AH) :=
  match op with
  | .move x | .assign x => some (aeval fr x, H)
  | .pick c a b => (match aeval fr c with | .bool t => some (if t then aeval fr a else aeval fr b, H) | _ => none)
  | .alloc t => (zeroA P t).map fun z => newA H z
  | .box _ x => (cellsA (aeval fr x)).map fun l => newA H l
  | .build t ps => (buildA P t (ps.toList.map fun p => (p.1, aeval fr p.2))).map fun v => (v, H)
  | .buildSlice t n ps => buildSliceA P t n (ps.toList.map fun p => (p.1, aeval fr p.2)) H
  | .load t a => (match aeval fr a with | .ptr p => (loadA P t p H).map fun v => (v, H) | _ => none)
  | .store t a x => (match aeval fr a with | .ptr p => (storeA P t p (aeval fr x) H).map fun H' => (.unk, H') | _ => none)
  | .nilCheck x => (match aeval fr x with | .ptr p => some (.ptr p, H) | .func f l => some (.func f l, H) | _ => none)
  | .binOp op t x y _ => (binA P op t (aeval fr x) (aeval fr y)).map fun v => (v, H)
  | .unOp op _ x => (unA op (aeval fr x)).map fun v => (v, H)
  | .convert s d x => convertA P s d (aeval fr x) H
  | .makeFunc (.func f) first cap => if first.size = 0 then some (.func f (cap.toList.map (aeval fr)), H) else none
  | .makeSlice t l c => makeSliceA P t (aeval fr l) (aeval fr c) H
  | .slice t x lo hi mx => (sliceOpA P t (aeval fr x) (lo.map (aeval fr)) (hi.map (aeval fr)) (mx.map (aeval fr))).map fun v => (v, H)
  | .fieldAddr s x f => (fieldAddrA P s (aeval fr x) f).map fun v => (v, H)
  | .field t x f => (fieldA P t (aeval fr x) f).map fun v => (v, H)
  | .indexAddr t x i => (indexAddrA P t (aeval fr x) (aeval fr i)).map fun v => (v, H)
  | .index t x i => (indexA P t (aeval fr x) (aeval fr i)).map fun v => (v, H)
  | .extract x i => (match aeval fr x with | .tup l => (l[i]?).map fun v => (v, H) | _ => none)
  | .makeInterface t x => (ifaceA P t (aeval fr x)).map fun v => (v, H)
  | .typeAssert x _ t ok => (assertA P t ok (aeval fr x)).map fun v => (v, H)
  | .call { callee := .builtin b, args, argTypes } => builtinA P b argTypes.toList (args.toList.map (aeval fr)) H
  | _ => none
end Go.Abs
set_option linter.unusedVariables false
set_option linter.unusedSimpArgs false
namespace Go.Abs
open Go Go.RowKit
variable {P : Program} {w0 w : World} {ι : List Loc} {H : AH}
theorem run_typeInfo {t : TypeId} {i : TypeInfo} (h : P.info? t = some i) (w : World) : (typeInfo t).run P w = .ok i w := by simp [typeInfo, h]
theorem sizeA_run {t : TypeId} {n : Nat} (h : sizeA P t = some n) (w : World) : (sizeOf t).run P w = .ok n w := by
  unfold sizeA at h
  cases hi : P.info? t with
  | none => rw [hi] at h; cases h
  | some i => rw [hi] at h; injection h with h; simp [sizeOf, typeInfo, hi, h]
theorem aggA_run {t : TypeId} {g : Bool} (h : aggA P t = some g) (w : World) : (isAgg t).run P w = .ok g w := by
  unfold aggA at h
  cases hu : P.underlying t with
  | none => rw [hu] at h; cases h
  | some d =>
    rw [hu] at h
    injection h with h
    subst h
    cases d <;> simp [isAgg, run_underlying hu, isAggD]
theorem zeroA_run {t : TypeId} {l : List AV} (h : zeroA P t = some l) (w : World) : ∃ z, (zeroValue t).run P w = .ok z w ∧ l = absL 0 z.cells.toList := by
  unfold zeroA at h
  cases hi : P.info? t with
  | none => rw [hi] at h; cases h
  | some i =>
    rw [hi] at h
    cases hz : i.zero with
    | none => simp [hz] at h
    | some z => simp [hz] at h; exact ⟨z, by simp [zeroValue, typeInfo, hi, hz], h.symm⟩
theorem absL_length (b : Nat) : ∀ l : List Value, (absL b l).length = l.length
  | [] => by simp [absL]
  | v :: l => by simp [absL, absL_length b l]
theorem aeval_ok {fr : AFr} {a : Act} (hf : RFr w0.heap.size ι fr a.tmps) (x : Operand) : RV w0.heap.size ι (aeval fr x) (a.eval x) := by
  cases x with
  | tmp t => exact hf t
  | const v => exact RV_abs ι (Nat.zero_le _) v
  | global g => unfold aeval RV; trivial
  | func f => unfold aeval RV; exact ⟨#[], rfl, by unfold RVL; rfl⟩
theorem cell_below (h : Rep w0 ι H w) {B k : Nat} {v : Value} (hB : B < w0.heap.size) (hc : w0.cell? ⟨B, k, none⟩ = some v) : w.cell? ⟨B, k, none⟩ = some v :=
  (h.below.cell (p := ⟨B, k, none⟩) hB).trans hc
theorem Rep.at_ptr (h : Rep w0 ι H w) {a : AAddr} {v : Value} (hv : RPtr w0.heap.size ι a v) {cs : List AV} (hg : H.get a = some cs) :
    ∃ ad : Addr, v = .pointer (some ad) ∧ ad.spot = none ∧ ∀ j x, cs[a.off + j]? = some x → ∃ y, w.cell? (ad.add j) = some y ∧ RV w0.heap.size ι x y := by
  unfold RPtr at hv
  unfold AH.get at hg
  by_cases hr : a.ro = true
  · rw [if_pos hr] at hv hg
    injection hg with hg
    subst hg
    refine ⟨_, hv.2, rfl, fun j x hx => ?_⟩
    obtain ⟨y, h1, h2⟩ := h.ro a.blk hv.1 _ x hx
    refine ⟨y, ?_, h2 ▸ RV_abs ι (Nat.le_refl _) y⟩
    rw [Addr.add_lit]
    exact cell_below h hv.1 h1
  · rw [if_neg hr] at hv hg
    unfold AH.cells? at hg
    split at hg
    · rename_i l hl
      injection hg with hg
      subst hg
      rcases h.blk _ _ hl with h1 | ⟨h1, _⟩ | ⟨B, O, m, h1, h2⟩
      · rw [h1] at hv; exact hv.elim
      · rw [h1] at hv; exact hv.elim
      · rw [h1] at hv
        refine ⟨_, hv, rfl, fun j x hx => ?_⟩
        obtain ⟨c, e, fz, g1, g2, g3, g4⟩ := h2.cells
        obtain ⟨y, g5, g6⟩ := g4 _ x hx
        refine ⟨y, ?_, g6⟩
        rw [Addr.add_lit, cell_of_row w B _ c e fz g1, Nat.add_assoc]
        exact g5
    · cases hg
theorem Rep.at_slice (h : Rep w0 ι H w) {a : AAddr} {n : Nat} {c : Cap} {v : Value} (hv : RSlice w0.heap.size ι a n c v) {cs : List AV} (hg : H.get a = some cs) :
    ∃ q C, v = .slice q n C ∧ (n = 0 ∨ ∃ ad : Addr, q = some ad ∧ ad.spot = none ∧ ∀ j x, cs[a.off + j]? = some x → ∃ y, w.cell? (ad.add j) = some y ∧ RV w0.heap.size ι x y) := by
  unfold RSlice at hv
  unfold AH.get at hg
  by_cases hr : a.ro = true
  · rw [if_pos hr] at hv hg
    injection hg with hg
    subst hg
    obtain ⟨c', _, hnc, ⟨hB, hv⟩ | ⟨hc0, p, hv⟩⟩ := hv
    rotate_left
    · have hn0 : n = 0 := by omega
      exact ⟨some p, 0, by rw [hn0]; exact hv, .inl hn0⟩
    refine ⟨_, _, hv, .inr ⟨_, rfl, rfl, fun j x hx => ?_⟩⟩
    obtain ⟨y, h1, h2⟩ := h.ro a.blk hB _ x hx
    refine ⟨y, ?_, h2 ▸ RV_abs ι (Nat.le_refl _) y⟩
    rw [Addr.add_lit]
    exact cell_below h hB h1
  · rw [if_neg hr] at hv hg
    unfold AH.cells? at hg
    split at hg
    · rename_i l hl
      injection hg with hg
      subst hg
      rcases h.blk _ _ hl with h1 | ⟨h1, _⟩ | ⟨B, O, m, h1, h2⟩
      · rw [h1] at hv; exact hv.elim
      · rw [h1] at hv
        obtain ⟨hn, ⟨q, hq⟩, _⟩ := hv
        exact ⟨q, 0, by rw [hn]; exact hq, .inl hn⟩
      · rw [h1] at hv
        have key : ∀ j x, l[a.off + j]? = some x → ∃ y, w.cell? ((⟨B, O + a.off, none⟩ : Addr).add j) = some y ∧ RV w0.heap.size ι x y := fun j x hx => by
          obtain ⟨c, e, fz, g1, g2, g3, g4⟩ := h2.cells
          obtain ⟨y, g5, g6⟩ := g4 _ x hx
          refine ⟨y, ?_, g6⟩
          rw [Addr.add_lit, cell_of_row w B _ c e fz g1, Nat.add_assoc]
          exact g5
        cases c with
        | known c =>
          obtain ⟨_, hv | ⟨hc, p, hv⟩⟩ := hv
          · exact ⟨_, _, hv, .inr ⟨_, rfl, rfl, key⟩⟩
          · have h0 : n = 0 := by omega
            exact ⟨some p, 0, by rw [h0]; exact hv, .inl h0⟩
        | grow sz =>
          rcases hv with ⟨C, _, _, hv⟩ | ⟨hn, p, hv⟩
          · exact ⟨_, _, hv, .inr ⟨_, rfl, rfl, key⟩⟩
          · exact ⟨some p, 0, by rw [hn]; exact hv, .inl hn⟩
    · cases hg
theorem run_load_row {ad : Addr} {cs : List AV} (k : Nat) (hk : k ≤ cs.length) (hc : ∀ j x, cs[j]? = some x → ∃ y, w.cell? (ad.add j) = some y ∧ RV w0.heap.size ι x y) :
    ∃ ys : List Value, (loadCells ad k).run P w = .ok ys.toArray w ∧ RVL w0.heap.size ι (cs.take k) ys ∧ ∀ j y, ys[j]? = some y → w.cell? (ad.add j) = some y := by
  have hex : ∀ k, k ≤ cs.length → ∃ ys : List Value, ys.length = k ∧ RVL w0.heap.size ι (cs.take k) ys ∧ ∀ j y, ys[j]? = some y → w.cell? (ad.add j) = some y := by
    intro k
    induction k with
    | zero => exact fun _ => ⟨[], rfl, by simp [RVL], fun j y h => by simp at h⟩
    | succ k ih =>
      intro hk
      obtain ⟨ys, h1, h2, h3⟩ := ih (by omega)
      have hlt : k < cs.length := by omega
      obtain ⟨y, h4, h5⟩ := hc k cs[k] (List.getElem?_eq_getElem hlt)
      refine ⟨ys ++ [y], by simp [h1], ?_, fun j z hz => ?_⟩
      · rw [List.take_succ_eq_append_getElem hlt]
        exact RVL.append h2 (by simp only [RVL]; exact ⟨y, [], rfl, h5, rfl⟩)
      · rcases get_app hz with hz | ⟨rfl, rfl⟩
        · exact h3 j z hz
        · rw [h1]; exact h4
  obtain ⟨ys, h1, h2, h3⟩ := hex k hk
  refine ⟨ys, ?_, h2, h3⟩
  have := run_loadCells_list (P := P) w ad ys h3
  rwa [h1] at this
theorem partA_run {t : TypeId} {cs : List AV} {off : Nat} {v : AV} (h : partA P t cs off = some v) {ys : Array Value} (hy : RVL w0.heap.size ι cs ys.toList) (w : World) :
    ∃ x, (part t ys off).run P w = .ok x w ∧ RV w0.heap.size ι v x := by
  unfold partA at h
  cases hg : aggA P t with
  | none => rw [hg] at h; cases h
  | some g =>
    rw [hg] at h
    simp only [Option.bind_some] at h
    cases g with
    | true =>
      simp only [if_true] at h
      cases hs : sizeA P t with
      | none => rw [hs] at h; cases h
      | some n =>
        rw [hs] at h
        simp only [Option.bind_some] at h
        split at h
        · rename_i hle
          injection h with h
          subst h
          refine ⟨.agg (ys.extract off (off + n)), by simp [part, aggA_run hg, sizeA_run hs], ?_⟩
          unfold RV
          refine ⟨_, rfl, ?_⟩
          have : (ys.extract off (off + n)).toList = (ys.toList.drop off).take n := by simp
          rw [this]
          exact (hy.drop off).take n
        · cases h
    | false =>
      simp only [Bool.false_eq_true, if_false] at h
      obtain ⟨x, h1, h2⟩ := hy.get h
      refine ⟨x, ?_, h2⟩
      have h1' : ys[off]? = some x := by rw [← Array.getElem?_toList]; exact h1
      simp [part, aggA_run hg, h1']
theorem loadA_run (h : Rep w0 ι H w) {t : TypeId} {a : AAddr} {v : AV} (hl : loadA P t a H = some v) {p : Value} (hp : RPtr w0.heap.size ι a p) :
    ∃ x, (Instr.loadAt t p).run P w = .ok x w ∧ RV w0.heap.size ι v x := by
  unfold loadA at hl
  cases hg : H.get a with
  | none => rw [hg] at hl; cases hl
  | some cs =>
    rw [hg] at hl
    simp only [Option.bind_some] at hl
    obtain ⟨ad, rfl, hs0, hc⟩ := h.at_ptr hp hg
    unfold partA at hl
    cases hag : aggA P t with
    | none => rw [hag] at hl; cases hl
    | some g =>
      rw [hag] at hl
      simp only [Option.bind_some] at hl
      cases g with
      | true =>
        simp only [if_true] at hl
        cases hs : sizeA P t with
        | none => rw [hs] at hl; cases hl
        | some n =>
          rw [hs] at hl
          simp only [Option.bind_some] at hl
          split at hl
          · rename_i hle
            injection hl with hl
            subst hl
            obtain ⟨ys, h1, h2, _⟩ := run_load_row (P := P) (w := w) (w0 := w0) (ι := ι) (ad := ad) (cs := cs.drop a.off) n (by simp; omega) (fun j x hx => hc j x (by rwa [List.getElem?_drop] at hx))
            refine ⟨.agg ys.toArray, by simp [Instr.loadAt, Instr.sureAddr, loadVar, aggA_run hag, sizeA_run hs, h1], ?_⟩
            unfold RV
            exact ⟨_, rfl, by simpa using h2⟩
          · cases hl
      | false =>
        simp only [Bool.false_eq_true, if_false] at hl
        obtain ⟨y, h1, h2⟩ := hc 0 v (by simpa using hl)
        refine ⟨y, ?_, h2⟩
        have h1' : w.cell? ad = some y := by simpa [Addr.add] using h1
        simp [Instr.loadAt, Instr.sureAddr, loadVar, aggA_run hag, h1']
theorem oneA_cell {v : AV} {x : Value} (h1 : oneA v = true) (hv : RV w0.heap.size ι v x) : x.oneCell' = true := by
  cases v <;> simp only [oneA, Bool.false_eq_true] at h1 <;> unfold RV at hv
  all_goals first | (subst hv; rfl) | skip
  · unfold RPtr at hv
    split at hv
    · rw [hv.2]; rfl
    · split at hv
      · rw [hv]; rfl
      · obtain ⟨p, hv⟩ := hv; rw [hv]; rfl
      · exact hv.elim
  · unfold RSlice at hv
    split at hv
    · obtain ⟨c', _, _, ⟨_, hv⟩ | ⟨_, p, hv⟩⟩ := hv <;> (rw [hv]; rfl)
    · split at hv
      · unfold RSliceAt at hv
        split at hv
        · obtain ⟨_, hv | ⟨hc, p, hv⟩⟩ := hv <;> (rw [hv]; rfl)
        · rcases hv with ⟨C, _, _, hv⟩ | ⟨hn, p, hv⟩ <;> (rw [hv]; rfl)
      · obtain ⟨_, ⟨q, hq⟩, _⟩ := hv; rw [hq]; rfl
      · obtain ⟨q, C, hq, _⟩ := hv; rw [hq]; rfl
      · exact hv.elim
  · obtain ⟨cs, hv, _⟩ := hv; rw [hv]; rfl
  · obtain ⟨y, hv, _⟩ := hv; rw [hv]; rfl
  · unfold RMap at hv
    split at hv
    · rw [hv]; rfl
    · obtain ⟨p, hv⟩ := hv; rw [hv]; rfl
    · exact hv.elim
theorem cells?_some {H : AH} {i : Nat} {l : List AV} (h : H.cells? i = some l) : H.rw[i]? = some (some (.cells l)) := by
  unfold AH.cells? at h
  split at h
  · rename_i l' hl; injection h with h; subst h; exact hl
  · cases h
theorem storeCellsA_run : ∀ (vs : List AV) (ys : List Value) {H H' : AH} {w : World} {i o B O m k : Nat}, Rep w0 ι H w → storeCellsA H i (o + k) vs = some H' → ι[i]? = some (.at B O m) → RVL w0.heap.size ι vs ys →
    ∃ w', (storeCells ⟨B, O + o, none⟩ ys k).run P w = .ok () w' ∧ Rep w0 ι H' w' ∧ Ext ι H w ι H' w'
  | [], ys, H, H', w, i, o, B, O, m, k, h, hs, hι, hy => by
    unfold RVL at hy
    subst hy
    simp only [storeCellsA] at hs
    injection hs with hs
    subst hs
    exact ⟨w, rfl, h, Ext.refl _ _ _⟩
  | v :: vs, ys, H, H', w, i, o, B, O, m, k, h, hs, hι, hy => by
    unfold RVL at hy
    obtain ⟨y, ys', rfl, hy1, hy2⟩ := hy
    simp only [storeCellsA] at hs
    split at hs
    · rename_i h1
      cases hc : H.cells? i with
      | none => rw [hc] at hs; cases hs
      | some l =>
        rw [hc] at hs
        simp only [Option.bind_some] at hs
        split at hs
        · rename_i hlt
          have hrw := cells?_some hc
          have hblk : RBlk w0.heap.size ι l B O m w := by
            rcases h.blk i l hrw with g1 | ⟨g1, _⟩ | ⟨B', O', m', g1, g2⟩
            · rw [hι] at g1; cases g1
            · rw [hι] at g1; cases g1
            · rw [hι] at g1; injection g1 with g1; injection g1 with e1 e2 e3; subst e1 e2 e3; exact g2
          obtain ⟨cs, e, fz, g1, g2, g3, g4⟩ := hblk.cells
          obtain ⟨hR, hE⟩ := h.setCell (k := o + k) (x := y) (l' := l.set (o + k) v) hrw hι (by omega) (by simpa using g3) (fun j x hj => by
            rw [List.getElem?_set] at hj
            by_cases e : o + k = j
            · rw [if_pos e, if_pos hlt] at hj; injection hj with hj; subst hj; exact .inl ⟨e.symm, hy1⟩
            · rw [if_neg e] at hj; exact .inr ⟨fun e' => e e'.symm, hj⟩)
          have hone := oneA_cell h1 hy1
          have hcell : w.cell? ⟨B, O + (o + k), none⟩ = cs[O + (o + k)]? := cell_of_row w B _ cs e fz g1
          have hin : O + (o + k) < cs.size := by omega
          rw [Array.getElem?_eq_getElem hin] at hcell
          have hfro := hblk.free (O + (o + k)) (by omega) (by omega)
          have hst : (store ((⟨B, O + o, none⟩ : Addr).add k) y).run P w = .ok () (w.setCell ⟨B, O + (o + k), none⟩ y) := by
            rw [Addr.add_lit, Nat.add_assoc, run_store P w _ y _ hone, hcell]
            simp [hfro]
          obtain ⟨w', r1, r2, r3⟩ := storeCellsA_run vs ys' (o := o) (k := k + 1) hR (by rw [← Nat.add_assoc]; exact hs) hι hy2
          exact ⟨w', by simp only [storeCells, Sem.run_bind, hst, Result.andThen_ok]; exact r1, r2, hE.trans r3⟩
        · cases hs
    · cases hs
theorem cellsA_run {v : AV} {l : List AV} {x : Value} (h : cellsA v = some l) (hv : RV w0.heap.size ι v x) : RVL w0.heap.size ι l x.cells.toList := by
  have one : ∀ u : AV, oneA u = true → RV w0.heap.size ι u x → RVL w0.heap.size ι [u] x.cells.toList := fun u h1 hu => by
    have hx := oneA_cell h1 hu
    simp only [RVL]
    refine ⟨x, [], ?_, hu, rfl⟩
    cases x <;> first | rfl | (simp [Value.oneCell'] at hx)
  cases v <;> simp only [cellsA] at h
  all_goals first | (cases h; done) | (injection h with h; subst h; first | exact one _ rfl hv | (unfold RV at hv; obtain ⟨cs, hc, hl⟩ := hv; rw [hc]; exact hl))
theorem storeA_run (h : Rep w0 ι H w) {t : TypeId} {a : AAddr} {v : AV} {H' : AH} (hs : storeA P t a v H = some H') {p x : Value} (hp : RPtr w0.heap.size ι a p) (hx : RV w0.heap.size ι v x) :
    ∃ w', (Instr.storeAt t p x).run P w = .ok () w' ∧ Rep w0 ι H' w' ∧ Ext ι H w ι H' w' := by
  unfold storeA at hs
  cases hc : cellsA v with
  | none => rw [hc] at hs; cases hs
  | some vs =>
    rw [hc] at hs
    simp only [Option.bind_some] at hs
    split at hs
    · rename_i hh
      obtain ⟨h1, h2⟩ := hh
      have hl := cellsA_run hc hx
      unfold RPtr at hp
      rw [if_neg (by rw [h2]; simp)] at hp
      have hsz : x.cells.size = vs.length := by have := hl.length; simpa using this
      by_cases he : vs = []
      · subst he
        simp only [storeCellsA] at hs
        injection hs with hs
        subst hs
        have hx0 : x.cells.toList = [] := by unfold RVL at hl; exact hl
        have hpp : ∃ ad, p = .pointer (some ad) := by
          split at hp
          · exact ⟨_, hp⟩
          · exact hp
          · exact hp.elim
        obtain ⟨ad, rfl⟩ := hpp
        refine ⟨w, ?_, h, Ext.refl _ _ _⟩
        simp [Instr.storeAt, Instr.sureAddr, storeVar, sizeA_run h1, hsz, hx0, storeCells]
      · have hal : ∃ B O m, ι[a.blk]? = some (.at B O m) := by
          cases vs with
          | nil => exact absurd rfl he
          | cons u vs =>
            simp only [storeCellsA] at hs
            split at hs
            · cases hc' : H.cells? a.blk with
              | none => rw [hc'] at hs; cases hs
              | some l =>
                rcases h.blk _ _ (cells?_some hc') with g1 | ⟨g1, rfl⟩ | ⟨B, O, m, g1, _⟩
                · rw [g1] at hp; exact hp.elim
                · rw [hc'] at hs; simp at hs
                · exact ⟨B, O, m, g1⟩
            · cases hs
        obtain ⟨B, O, m, hι⟩ := hal
        rw [hι] at hp
        subst hp
        obtain ⟨w', r1, r2, r3⟩ := storeCellsA_run (P := P) vs x.cells.toList (o := a.off) (k := 0) h (by simpa using hs) hι hl
        refine ⟨w', ?_, r2, r3⟩
        simp [Instr.storeAt, Instr.sureAddr, storeVar, sizeA_run h1, hsz, r1]
    · cases hs
end Go.Abs
set_option linter.unusedVariables false
set_option linter.unusedSimpArgs false
namespace Go.Abs
open Go Go.RowKit
variable {P : Program} {w0 w : World} {ι : List Loc} {H : AH}
theorem intOpA_run {op : BinOp} {k : IntKind} {a b : Int} {v : AV} (h : intOpA op k a b = some v) (t : TypeId) (w : World) (hs : op ≠ .shl) (hs' : op ≠ .shr) :
    ∃ x, (binOp op t (.int k a) (.int k b)).run P w = .ok x w ∧ RV w0.heap.size ι v x := by
  cases op <;> simp only [intOpA] at h <;> first
    | (cases h; done)
    | (exact absurd rfl hs)
    | (exact absurd rfl hs')
    | (injection h with h; subst h; refine ⟨_, ?_, rfl⟩; simp [binOp, Op.intArith, Op.intBits, Op.intCmp]; done)
    | (split at h; · cases h
       · rename_i hb; injection h with h; subst h; refine ⟨_, ?_, rfl⟩; simp [binOp, Op.intDiv, hb]; done)
theorem shiftA_run {op : BinOp} {k k' : IntKind} {a b : Int} {v : AV} (h : shiftA op k a b = some v) (t : TypeId) (w : World) :
    ∃ x, (binOp op t (.int k a) (.int k' b)).run P w = .ok x w ∧ RV w0.heap.size ι v x := by
  unfold shiftA at h
  split at h
  · cases h
  · rename_i hb
    cases op <;> simp only at h <;> first
      | (cases h; done)
      | (injection h with h; subst h; refine ⟨_, ?_, rfl⟩; simp [binOp, Op.shift, hb]; done)
theorem strOpA_run {op : BinOp} {a b : ByteArray} {v : AV} (h : strOpA op a b = some v) (t : TypeId) (w : World) :
    ∃ x, (binOp op t (.string a) (.string b)).run P w = .ok x w ∧ RV w0.heap.size ι v x := by
  cases op <;> simp only [strOpA] at h <;> first
    | (cases h; done)
    | (injection h with h; subst h; refine ⟨_, ?_, rfl⟩; simp [binOp, Op.stringOp]; done)
theorem sureSlice_not {n : Nat} {c : Cap} {a : AAddr} {v : Value} (h : sureSlice n c = true) (hv : RSlice w0.heap.size ι a n c v) : ∃ q m C, v = .slice (some q) m C := by
  unfold RSlice at hv
  split at hv
  · obtain ⟨c', _, _, ⟨_, hv⟩ | ⟨_, p, hv⟩⟩ := hv
    · exact ⟨_, _, _, hv⟩
    · exact ⟨_, _, _, hv⟩
  · split at hv
    · unfold RSliceAt at hv
      split at hv
      · obtain ⟨_, hv | ⟨hc, p, hv⟩⟩ := hv
        · exact ⟨_, _, _, hv⟩
        · exact ⟨_, _, _, hv⟩
      · rcases hv with ⟨C, _, _, hv⟩ | ⟨hn, p, hv⟩
        · exact ⟨_, _, _, hv⟩
        · exact ⟨_, _, _, hv⟩
    · obtain ⟨hn, _, sz, hc⟩ := hv; rw [hc, hn] at h; simp [sureSlice] at h
    · obtain ⟨q, C, hv, _, h1, h2⟩ := hv
      have hq : q ≠ none := by
        cases c with
        | known c => exact (h2 c rfl).2
        | grow sz => simp only [sureSlice, decide_eq_true_eq] at h; exact h1 h
      cases q with
      | none => exact absurd rfl hq
      | some q => exact ⟨_, _, _, hv⟩
    · exact hv.elim
theorem RPtr_some {b : Nat} {a : AAddr} {v : Value} (h : RPtr b ι a v) : ∃ p, v = .pointer (some p) := by
  unfold RPtr at h
  split at h
  · exact ⟨_, h.2⟩
  · split at h
    · exact ⟨_, h⟩
    · exact h
    · exact h.elim
theorem eqA_in {t : TypeId} {d : TypeDesc} (hd : P.underlying t = some d) {x y : AV} {r : Bool} (h : eqA d x y = some r) {u v : Value} (hu : RV w0.heap.size ι x u) (hv : RV w0.heap.size ι y v) (k : Nat) (w : World) :
    (Op.equalIn (k + 1) t u v).run P w = .ok r w := by
  unfold eqA at h
  split at h
  · injection h with h; subst h; unfold RV at hu hv; subst hu hv; simp [Op.equalIn, run_underlying hd]
  · injection h with h; subst h; unfold RV at hu hv; subst hu hv; simp [Op.equalIn, run_underlying hd]
  · split at h
    · rename_i hsu; injection h with h; subst h
      unfold RV at hu hv
      obtain ⟨q, m, C, rfl⟩ := sureSlice_not hsu hv
      subst hu; simp [Op.equalIn, run_underlying hd]
    · cases h
  · split at h
    · rename_i hsu; injection h with h; subst h
      unfold RV at hu hv
      obtain ⟨q, m, C, rfl⟩ := sureSlice_not hsu hu
      subst hv; simp [Op.equalIn, run_underlying hd]
    · cases h
  · injection h with h; subst h; unfold RV at hu hv; subst hu hv; simp [Op.equalIn, run_underlying hd]
  · injection h with h; subst h; unfold RV at hu hv; obtain ⟨p, rfl⟩ := RPtr_some hv; subst hu; simp [Op.equalIn, run_underlying hd]
  · injection h with h; subst h; unfold RV at hu hv; obtain ⟨p, rfl⟩ := RPtr_some hu; subst hv; simp [Op.equalIn, run_underlying hd]
  · cases h
theorem eqA_run {t : TypeId} {d : TypeDesc} (hd : P.underlying t = some d) {x y : AV} {r : Bool} (h : eqA d x y = some r) {u v : Value} (hu : RV w0.heap.size ι x u) (hv : RV w0.heap.size ι y v) (w : World) :
    (Op.equal t u v).run P w = .ok r w := eqA_in hd h hu hv 9999 w
def plainEq : Value → Bool
  | .bool _ | .slice .. | .pointer _ => true
  | _ => false
theorem eqA_plain {d : TypeDesc} {x y : AV} {r : Bool} (h : eqA d x y = some r) {u v : Value} (hu : RV w0.heap.size ι x u) (hv : RV w0.heap.size ι y v) : plainEq u = true ∧ plainEq v = true := by
  have sl : ∀ {a n c v}, RSlice w0.heap.size ι a n c v → plainEq v = true := fun {a n c v} hv => by
    unfold RSlice at hv
    split at hv
    · obtain ⟨c', _, _, ⟨_, hv⟩ | ⟨_, p, hv⟩⟩ := hv <;> (rw [hv]; rfl)
    · split at hv
      · unfold RSliceAt at hv
        split at hv
        · obtain ⟨_, hv | ⟨hc, p, hv⟩⟩ := hv <;> (rw [hv]; rfl)
        · rcases hv with ⟨C, _, _, hv⟩ | ⟨hn, p, hv⟩ <;> (rw [hv]; rfl)
      · obtain ⟨_, ⟨q, hq⟩, _⟩ := hv; rw [hq]; rfl
      · obtain ⟨q, C, hq, _⟩ := hv; rw [hq]; rfl
      · exact hv.elim
  have pt : ∀ {a v}, RPtr w0.heap.size ι a v → plainEq v = true := fun {a v} hv => by obtain ⟨p, rfl⟩ := RPtr_some hv; rfl
  unfold eqA at h
  split at h <;> unfold RV at hu hv
  all_goals first | (cases h; done) | (constructor <;> first | (subst hu; rfl) | (subst hv; rfl) | exact sl hu | exact sl hv | exact pt hu | exact pt hv)
theorem binOp_eql_plain {t : TypeId} {u v : Value} (hu : plainEq u = true) (hv : plainEq v = true) {r : Bool} (h : (Op.equal t u v).run P w = .ok r w) :
    (binOp .eql t u v).run P w = .ok (.bool r) w ∧ (binOp .neq t u v).run P w = .ok (.bool !r) w := by
  cases u <;> simp only [plainEq, Bool.false_eq_true] at hu <;> cases v <;> simp only [plainEq, Bool.false_eq_true] at hv <;> exact ⟨by simp [binOp, h], by simp [binOp, h]⟩
theorem eqGuard_plain {op : BinOp} {t : TypeId} {x y : Operand} {u v : Value} (hu : plainEq u = true) : eqGuard op t x y u v = pure () := by
  cases u <;> simp only [plainEq, Bool.false_eq_true] at hu
  · exact eqGuard_at_bool ..
  · exact eqGuard_at_pointer ..
  · exact eqGuard_at_slice ..
theorem eqFs_run {eq : TypeId → AV → AV → Option Bool} {ceq : TypeId → Value → Value → Sem Bool} {w : World} (heq : ∀ {t x y r u v}, eq t x y = some r → RV w0.heap.size ι x u → RV w0.heap.size ι y v → (ceq t u v).run P w = .ok r w)
    {xs ys : List AV} {us vs : Array Value} (hx : RVL w0.heap.size ι xs us.toList) (hy : RVL w0.heap.size ι ys vs.toList) : ∀ (l : List Field) {r : Bool}, eqFs eq P xs ys l = some r →
    (forIn l ((none : Option Bool), ()) fun (f : Field) (_ : Option Bool × Unit) => if f.name ≠ "_" then (do
          let a ← part f.type us f.offset
          let b ← part f.type vs f.offset
          let c ← ceq f.type a b
          if (!c) = true then pure (ForInStep.done (some false, ())) else pure (ForInStep.yield (none, ())) : Sem (ForInStep (Option Bool × Unit))) else pure (ForInStep.yield (none, ()))).run P w = .ok (if r then (none, ()) else (some false, ())) w := by
  intro l
  induction l with
  | nil => intro r h; simp only [eqFs] at h; injection h with h; subst h; simp
  | cons f l ih =>
    intro r h
    simp only [eqFs] at h
    rw [List.forIn_cons, Sem.run_bind]
    by_cases hn : f.name = "_"
    · rw [if_pos hn] at h
      have := ih h
      simpa [hn] using this
    · rw [if_neg hn] at h
      obtain ⟨p, hp, h⟩ := Option.bind_eq_some_iff.1 h
      obtain ⟨q, hq, h⟩ := Option.bind_eq_some_iff.1 h
      obtain ⟨b, hb, h⟩ := Option.bind_eq_some_iff.1 h
      obtain ⟨c, hc, rfl⟩ := Option.map_eq_some_iff.1 h
      obtain ⟨z1, r1, v1⟩ := partA_run (P := P) hp hx w
      obtain ⟨z2, r2, v2⟩ := partA_run (P := P) hq hy w
      have r3 := heq hb v1 v2
      have ih := ih hc
      cases b with
      | true =>
        rw [if_pos hn]
        simp only [Sem.run_bind, r1, r2, r3, Result.andThen_ok]
        simpa using ih
      | false =>
        rw [if_pos hn]
        simp only [Sem.run_bind, r1, r2, r3, Result.andThen_ok]
        simp
theorem eqEs_run {eq : AV → AV → Option Bool} {ceq : Value → Value → Sem Bool} {e : TypeId} {sz : Nat} {w : World} (heq : ∀ {x y r u v}, eq x y = some r → RV w0.heap.size ι x u → RV w0.heap.size ι y v → (ceq u v).run P w = .ok r w)
    {xs ys : List AV} {us vs : Array Value} (hx : RVL w0.heap.size ι xs us.toList) (hy : RVL w0.heap.size ι ys vs.toList) : ∀ (l : List Nat) {r : Bool}, eqEs eq P e sz xs ys l = some r →
    (forIn l ((none : Option Bool), ()) fun (i : Nat) (_ : Option Bool × Unit) => (do
          let a ← part e us (i * sz)
          let b ← part e vs (i * sz)
          let c ← ceq a b
          if (!c) = true then pure (ForInStep.done (some false, ())) else pure (ForInStep.yield (none, ())) : Sem (ForInStep (Option Bool × Unit)))).run P w = .ok (if r then (none, ()) else (some false, ())) w := by
  intro l
  induction l with
  | nil => intro r h; simp only [eqEs] at h; injection h with h; subst h; simp
  | cons f l ih =>
    intro r h
    simp only [eqEs] at h
    rw [List.forIn_cons, Sem.run_bind]
    obtain ⟨p, hp, h⟩ := Option.bind_eq_some_iff.1 h
    obtain ⟨q, hq, h⟩ := Option.bind_eq_some_iff.1 h
    obtain ⟨b, hb, h⟩ := Option.bind_eq_some_iff.1 h
    obtain ⟨c, hc, rfl⟩ := Option.map_eq_some_iff.1 h
    obtain ⟨z1, r1, v1⟩ := partA_run (P := P) hp hx w
    obtain ⟨z2, r2, v2⟩ := partA_run (P := P) hq hy w
    have r3 := heq hb v1 v2
    have ih := ih hc
    cases b with
    | true =>
      simp only [Sem.run_bind, r1, r2, r3, Result.andThen_ok]
      simpa using ih
    | false =>
      simp only [Sem.run_bind, r1, r2, r3, Result.andThen_ok]
      simp
theorem eqD_run {w : World} : ∀ (d : Nat) {t : TypeId} {x y : AV} {r : Bool} {u v : Value}, eqD P d t x y = some r → RV w0.heap.size ι x u → RV w0.heap.size ι y v → ∀ k, (Op.equalIn (d + k) t u v).run P w = .ok r w
  | 0, t, x, y, r, u, v, h, _, _, _ => by simp [eqD] at h
  | d + 1, t, x, y, r, u, v, h, hu, hv, k => by
    simp only [eqD] at h
    rw [show d + 1 + k = (d + k) + 1 by omega]
    split at h
    · rename_i hd
      injection h with h; subst h; unfold RV at hu hv; subst hu hv; simp [Op.equalIn, run_underlying hd]
    · rename_i hd
      split at h
      · rename_i hk; injection h with h; subst h hk; unfold RV at hu hv; subst hu hv; simp [Op.equalIn, run_underlying hd]
      · cases h
    · rename_i fs xs ys hd
      split at h
      · cases h
      · rename_i hst
        unfold RV at hu hv
        obtain ⟨us, rfl, hx⟩ := hu
        obtain ⟨vs, rfl, hy⟩ := hv
        have key := eqFs_run (P := P) (w := w) (eq := eqD P d) (ceq := Op.equalIn (d + k)) (fun h1 h2 h3 => eqD_run d h1 h2 h3 k) hx hy fs.toList h
        have hp : program.run P w = .ok P w := by simp
        simp only [Op.equalIn, Sem.run_bind, run_underlying hd, Result.andThen_ok]
        rw [hp, Result.andThen_ok, if_neg hst, Sem.run_bind, ← Array.forIn_toList, key, Result.andThen_ok]
        cases r <;> simp
    · rename_i n e xs ys hd
      obtain ⟨sz, hsz, h⟩ := Option.bind_eq_some_iff.1 h
      unfold RV at hu hv
      obtain ⟨us, rfl, hx⟩ := hu
      obtain ⟨vs, rfl, hy⟩ := hv
      have key := eqEs_run (P := P) (w := w) (eq := eqD P d e) (ceq := Op.equalIn (d + k) e) (fun h1 h2 h3 => eqD_run d h1 h2 h3 k) hx hy (List.range n) h
      simp only [Op.equalIn, Sem.run_bind, run_underlying hd, Result.andThen_ok]
      rw [sizeA_run hsz w, Result.andThen_ok, Std.Legacy.Range.forIn_eq_forIn_range']
      have er : List.range' ({ stop := n, step_pos := Nat.zero_lt_one } : Std.Legacy.Range).start ({ stop := n, step_pos := Nat.zero_lt_one } : Std.Legacy.Range).size ({ stop := n, step_pos := Nat.zero_lt_one } : Std.Legacy.Range).step = List.range n := by
        rw [List.range_eq_range']; simp [Std.Legacy.Range.size]
      rw [er, key, Result.andThen_ok]
      cases r <;> simp
    · cases h
theorem eqAgg_run {t : TypeId} {xs ys : List AV} {r : Bool} (h : eqAgg P t (.agg xs) (.agg ys) = some r) {u v : Value} (hu : RV w0.heap.size ι (.agg xs) u) (hv : RV w0.heap.size ι (.agg ys) v) (w : World) (ox oy : Operand) :
    (eqGuard .eql t ox oy u v).run P w = .ok () w ∧ (eqGuard .neq t ox oy u v).run P w = .ok () w ∧ (binOp .eql t u v).run P w = .ok (.bool r) w ∧ (binOp .neq t u v).run P w = .ok (.bool !r) w := by
  unfold eqAgg at h
  split at h
  · cases h
  · rename_i hg
    have he : (Op.equal t u v).run P w = .ok r w := eqD_run 6 h hu hv 9994
    unfold RV at hu hv
    obtain ⟨us, rfl, _⟩ := hu
    obtain ⟨vs, rfl, _⟩ := hv
    have hp : program.run P w = .ok P w := by simp
    refine ⟨?_, ?_, by simp [binOp, he], by simp [binOp, he]⟩
    · simp [eqGuard, hg]
    · simp [eqGuard, hg]
theorem binA_run {op : BinOp} {t : TypeId} {x y v : AV} (h : binA P op t x y = some v) {u s : Value} (hu : RV w0.heap.size ι x u) (hv : RV w0.heap.size ι y s) (ox oy : Operand) (w : World) :
    ∃ z, (do eqGuard op t ox oy u s; binOp op t u s : Sem Value).run P w = .ok z w ∧ RV w0.heap.size ι v z := by
  unfold binA at h
  split at h
  · rename_i k a k' b
    unfold RV at hu hv
    subst hu hv
    have hg : eqGuard op t ox oy (.int k a) (.int k' b) = pure () := eqGuard_at_int ..
    rw [hg]
    split at h
    · exact shiftA_run (k' := k') h t w
    · exact shiftA_run (k' := k') h t w
    · rename_i hs hs'
      split at h
      · rename_i hk
        subst hk
        exact intOpA_run h t w hs hs'
      · cases h
  · unfold RV at hu hv
    subst hu hv
    rename_i a b
    have hg : eqGuard op t ox oy (.string a) (.string b) = pure () := eqGuard_at_string ..
    rw [hg]
    exact strOpA_run h t w
  · split at h
    · obtain ⟨r, hr, rfl⟩ := Option.map_eq_some_iff.1 h
      obtain ⟨h1, h2, h3, h4⟩ := eqAgg_run hr hu hv w ox oy
      exact ⟨.bool r, by simp [h1, h3], by unfold RV; rfl⟩
    · obtain ⟨r, hr, rfl⟩ := Option.map_eq_some_iff.1 h
      obtain ⟨h1, h2, h3, h4⟩ := eqAgg_run hr hu hv w ox oy
      exact ⟨.bool !r, by simp [h2, h4], by unfold RV; rfl⟩
    · cases h
  · split at h
    · cases hd : P.underlying t with
      | none => rw [hd] at h; cases h
      | some d =>
        rw [hd] at h
        simp only [Option.bind_some] at h
        cases he : eqA d x y with
        | none => rw [he] at h; cases h
        | some r =>
          rw [he] at h
          injection h with h
          subst h
          obtain ⟨p1, p2⟩ := eqA_plain he hu hv
          rw [eqGuard_plain p1]
          exact ⟨.bool r, (binOp_eql_plain p1 p2 (eqA_run hd he hu hv w)).1, rfl⟩
    · cases hd : P.underlying t with
      | none => rw [hd] at h; cases h
      | some d =>
        rw [hd] at h
        simp only [Option.bind_some] at h
        cases he : eqA d x y with
        | none => rw [he] at h; cases h
        | some r =>
          rw [he] at h
          injection h with h
          subst h
          obtain ⟨p1, p2⟩ := eqA_plain he hu hv
          rw [eqGuard_plain p1]
          exact ⟨.bool !r, (binOp_eql_plain p1 p2 (eqA_run hd he hu hv w)).2, rfl⟩
    · cases h
theorem unA_run {op : UnOp} {x v : AV} (h : unA op x = some v) {u : Value} (hu : RV w0.heap.size ι x u) (w : World) : ∃ z, (Op.unary op u).run P w = .ok z w ∧ RV w0.heap.size ι v z := by
  unfold unA at h
  split at h
  · unfold RV at hu; subst hu; simp only [intOpA] at h; injection h with h; subst h; exact ⟨_, rfl, rfl⟩
  · unfold RV at hu; subst hu; simp only [intOpA] at h; injection h with h; subst h; exact ⟨_, rfl, rfl⟩
  · unfold RV at hu; subst hu; injection h with h; subst h; exact ⟨_, rfl, rfl⟩
  · cases h
theorem boundA_run {v : AV} {y n : Nat} (h : boundA v y = some n) {u : Value} (hu : RV w0.heap.size ι v u) (code : BoundsCode) {y' : Nat} (hy : y ≤ y') (w : World) :
    (Instr.sliceBound u y' code).run P w = .ok n w ∧ n ≤ y := by
  unfold boundA at h
  split at h
  · rename_i k i
    unfold RV at hu
    subst hu
    split at h
    · rename_i hi
      injection h with h
      subst h
      refine ⟨?_, by omega⟩
      have h2 : i ≤ (y' : Int) := by omega
      simp [Instr.sliceBound, asIntOf, hi.1, h2]
    · cases h
  · cases h
def ROpt (b : Nat) (ι : List Loc) : Option AV → Option Value → Prop
  | none, v => v = none
  | some x, v => ∃ u, v = some u ∧ RV b ι x u
theorem cutKnown_run {a : AAddr} {sz n c c' : Nat} {lo hi mx : Option AV} {v : AV} (h : cutKnown a sz n c lo hi mx = some v) (hc : c' = c) {lo' hi' mx' : Option Value}
    (hlo : ROpt w0.heap.size ι lo lo') (hhi : ROpt w0.heap.size ι hi hi') (hmx : ROpt w0.heap.size ι mx mx') (hn : n ≤ c) (isS : Bool) (w : World) :
    ∃ l h' m, (Instr.sliceBounds isS n c' lo' hi' mx').run P w = .ok (l, h', m) w ∧ l ≤ h' ∧ h' ≤ m ∧ m ≤ c ∧ v = cutA a sz l h' m ∧ optB mx c c = some m ∧ optB hi m n = some h' ∧ optB lo h' 0 = some l := by
  subst hc
  unfold cutKnown at h
  cases hm : optB mx c' c' with
  | none => rw [hm] at h; cases h
  | some m =>
    rw [hm] at h
    simp only [Option.bind_some] at h
    split at h
    · cases h
    · rename_i hg
      cases hh : optB hi m n with
      | none => rw [hh] at h; cases h
      | some hh' =>
        rw [hh] at h
        simp only [Option.bind_some] at h
        cases hl : optB lo hh' 0 with
        | none => rw [hl] at h; cases h
        | some l =>
          rw [hl] at h
          injection h with h
          have hm0 := hm
          have hh0 := hh
          have hl0 := hl
          refine ⟨l, hh', m, ?_⟩
          cases mx with
          | none =>
            simp only [ROpt] at hmx
            subst hmx
            simp only [optB] at hm
            injection hm with hm
            subst hm
            cases hi with
            | none =>
              simp only [ROpt] at hhi
              subst hhi
              simp only [optB] at hh
              injection hh with hh
              subst hh
              cases lo with
              | none =>
                simp only [ROpt] at hlo
                subst hlo
                simp only [optB] at hl
                injection hl with hl
                subst hl
                exact ⟨by simp [Instr.sliceBounds], by omega, hn, Nat.le_refl _, h.symm, hm0, hh0, hl0⟩
              | some lo =>
                obtain ⟨u, rfl, hu⟩ := hlo
                simp only [optB] at hl
                obtain ⟨r, hle⟩ := boundA_run (P := P) hl hu (if (none : Option Value).isSome then BoundsCode.slice3C else .sliceB) (Nat.le_refl _) w
                exact ⟨by simp at r; simp [Instr.sliceBounds, r], hle, hn, Nat.le_refl _, h.symm, hm0, hh0, hl0⟩
            | some hi =>
              obtain ⟨uh, rfl, huh⟩ := hhi
              simp only [optB] at hh
              obtain ⟨rh, hleh⟩ := boundA_run (P := P) hh huh (if isS then BoundsCode.sliceAcap else .sliceAlen) (Nat.le_refl _) w
              cases lo with
              | none =>
                simp only [ROpt] at hlo
                subst hlo
                simp only [optB] at hl
                injection hl with hl
                subst hl
                exact ⟨by simp [Instr.sliceBounds, rh], by omega, hleh, Nat.le_refl _, h.symm, hm0, hh0, hl0⟩
              | some lo =>
                obtain ⟨u, rfl, hu⟩ := hlo
                simp only [optB] at hl
                obtain ⟨r, hle⟩ := boundA_run (P := P) hl hu (if (none : Option Value).isSome then BoundsCode.slice3C else .sliceB) (Nat.le_refl _) w
                exact ⟨by simp at r; simp [Instr.sliceBounds, rh, r], hle, hleh, Nat.le_refl _, h.symm, hm0, hh0, hl0⟩
          | some mx =>
            obtain ⟨um, rfl, hum⟩ := hmx
            simp only [optB] at hm
            obtain ⟨rm, hlem⟩ := boundA_run (P := P) hm hum (if isS then BoundsCode.slice3Acap else .slice3Alen) (Nat.le_refl _) w
            cases hi with
            | none => simp at hg
            | some hi =>
              obtain ⟨uh, rfl, huh⟩ := hhi
              simp only [optB] at hh
              obtain ⟨rh, hleh⟩ := boundA_run (P := P) hh huh BoundsCode.slice3B (Nat.le_refl _) w
              cases lo with
              | none =>
                simp only [ROpt] at hlo
                subst hlo
                simp only [optB] at hl
                injection hl with hl
                subst hl
                exact ⟨by simp [Instr.sliceBounds, rm, rh], by omega, hleh, hlem, h.symm, rfl, hh0, hl0⟩
              | some lo =>
                obtain ⟨u, rfl, hu⟩ := hlo
                simp only [optB] at hl
                obtain ⟨r, hle⟩ := boundA_run (P := P) hl hu BoundsCode.slice3C (Nat.le_refl _) w
                exact ⟨by simp [Instr.sliceBounds, rm, rh, r], hle, hleh, hlem, h.symm, rfl, hh0, hl0⟩
theorem cutA_rel {a : AAddr} {sz l h m : Nat} (hlh : l ≤ h) (hhm : h ≤ m) {q : Addr}
    (hp : RPtr w0.heap.size ι a (.pointer (some q))) : RV w0.heap.size ι (cutA a sz l h m) (.slice (if m = l then some q else some (q.add (l * sz))) (h - l) (m - l)) := by
  have hro : (if m = l then a else ⟨a.ro, a.blk, a.off + l * sz⟩ : AAddr).ro = a.ro := by split <;> rfl
  have hb : (if m = l then a else ⟨a.ro, a.blk, a.off + l * sz⟩ : AAddr).blk = a.blk := by split <;> rfl
  unfold cutA RV RSlice
  unfold RPtr at hp
  rw [hro, hb]
  by_cases hr : a.ro = true
  · rw [if_pos hr] at hp ⊢
    obtain ⟨h1, h2⟩ := hp
    injection h2 with h2
    injection h2 with h2
    subst h2
    refine ⟨m - l, rfl, by omega, .inl ⟨h1, ?_⟩⟩
    by_cases e : m = l
    · rw [if_pos e, if_pos e]
    · rw [if_neg e, if_neg e, Addr.add_lit]
  · rw [if_neg hr] at hp ⊢
    cases hι : ι[a.blk]? with
    | none => rw [hι] at hp; exact hp.elim
    | some L =>
      rw [hι] at hp
      cases L with
      | dead =>
        refine ⟨_, _, rfl, by omega, fun _ => ?_, fun c' hc' => ⟨by injection hc', ?_⟩⟩
        · split <;> (intro h; cases h)
        · split <;> (intro h; cases h)
      | pend => exact hp.elim
      | nil => exact hp.elim
      | «at» B O m' =>
        simp only at hp
        injection hp with hp
        injection hp with hp
        subst hp
        refine ⟨by omega, .inl ?_⟩
        by_cases e : m = l
        · rw [if_pos e, if_pos e]
        · rw [if_neg e, if_neg e, Addr.add_lit, Nat.add_assoc]
theorem sliceOpA_run {t : TypeId} {x v : AV} {lo hi mx : Option AV} (h : sliceOpA P t x lo hi mx = some v) {u : Value} {lo' hi' mx' : Option Value} (hu : RV w0.heap.size ι x u)
    (hlo : ROpt w0.heap.size ι lo lo') (hhi : ROpt w0.heap.size ι hi hi') (hmx : ROpt w0.heap.size ι mx mx') (w : World) :
    ∃ z, (Instr.sliceAt t u lo' hi' mx').run P w = .ok z w ∧ RV w0.heap.size ι v z := by
  unfold sliceOpA at h
  split at h
  ·
    rename_i e a n c hd
    cases hs : sizeA P e with
    | none => rw [hs] at h; cases h
    | some sz =>
      rw [hs] at h
      simp only [Option.bind_some] at h
      unfold RV RSlice at hu
      have fin : ∀ (q : Option Addr) (C : Nat), u = .slice q n C → C = c → n ≤ c →
          (∀ l h' m, l ≤ h' → h' ≤ m → m ≤ c → RV w0.heap.size ι (cutA a sz l h' m) (.slice (if m = l then q else q.map (·.add (l * sz))) (h' - l) (m - l))) →
          ∃ z, (Instr.sliceAt t u lo' hi' mx').run P w = .ok z w ∧ RV w0.heap.size ι v z := fun q C hu' hC hn hrel => by
        subst hu'
        obtain ⟨l, h', m, r1, r2, r3, r4, rfl, _⟩ := cutKnown_run (P := P) h hC hlo hhi hmx hn true w
        exact ⟨_, by simp [Instr.sliceAt, Instr.slice, run_underlying hd, r1, sizeA_run hs], hrel l h' m r2 r3 r4⟩
      by_cases hr : a.ro = true
      · rw [if_pos hr] at hu
        obtain ⟨c', hc', hn, hu⟩ := hu
        injection hc' with hc'
        subst hc'
        rcases hu with ⟨hB, hu⟩ | ⟨hc0, p, hu⟩
        · refine fin _ _ hu rfl hn fun l h' m h1 h2 h3 => ?_
          exact cutA_rel h1 h2 (by unfold RPtr; rw [if_pos hr]; exact ⟨hB, rfl⟩)
        · have hn0 : n = 0 := by omega
          refine fin (some p) 0 (by rw [hn0]; exact hu) hc0.symm hn fun l h' m h1 h2 h3 => ?_
          have e1 : m = 0 := by omega
          have e2 : h' = 0 := by omega
          have e3 : l = 0 := by omega
          subst e1 e2 e3
          unfold cutA RV RSlice
          simp only [if_true]
          rw [if_pos hr]
          exact ⟨0, rfl, Nat.le_refl _, .inr ⟨rfl, p, rfl⟩⟩
      · rw [if_neg hr] at hu
        split at hu
        · rename_i B O m' hι
          obtain ⟨hn, hu | ⟨hc, p, hu⟩⟩ := hu
          · refine fin _ _ hu rfl hn fun l h' m h1 h2 h3 => ?_
            exact cutA_rel h1 h2 (by unfold RPtr; rw [if_neg hr, hι])
          · have hn0 : n = 0 := by omega
            refine fin (some p) 0 (by rw [hn0]; exact hu) hc.symm hn fun l h' m h1 h2 h3 => ?_
            have e1 : m = 0 := by omega
            have e2 : h' = 0 := by omega
            have e3 : l = 0 := by omega
            subst e1 e2 e3
            unfold cutA RV RSlice
            simp only [if_true]
            rw [if_neg hr, hι]
            exact ⟨by omega, .inr ⟨rfl, p, rfl⟩⟩
        · obtain ⟨_, _, sz', hc⟩ := hu; cases hc
        · rename_i hι
          obtain ⟨q, C, hu, hnC, h1, h2⟩ := hu
          obtain ⟨h3, h4⟩ := h2 c rfl
          refine fin _ _ hu h3 (by omega) fun l h' m g1 g2 g3 => ?_
          unfold cutA RV RSlice
          have hr' : ¬ (if m = l then a else ⟨a.ro, a.blk, a.off + l * sz⟩ : AAddr).ro = true := by split <;> exact hr
          have hb : (if m = l then a else ⟨a.ro, a.blk, a.off + l * sz⟩ : AAddr).blk = a.blk := by split <;> rfl
          rw [if_neg hr', hb, hι]
          have hne : (if m = l then q else q.map (·.add (l * sz))) ≠ none := by
            split
            · exact h4
            · cases q with
              | none => exact absurd rfl h4
              | some q => intro h; cases h
          exact ⟨_, _, rfl, by omega, fun _ => hne, fun c' hc' => ⟨by injection hc', hne⟩⟩
        · exact hu.elim
  ·
    rename_i e a n sz' hd
    cases hs : sizeA P e with
    | none => rw [hs] at h; cases h
    | some sz =>
      rw [hs] at h
      simp only [Option.bind_some] at h
      split at h
      · rename_i hh
        obtain ⟨rfl, hro⟩ := hh
        have hr : ¬ a.ro = true := by rw [hro]; simp
        unfold RV RSlice at hu
        rw [if_neg hr] at hu
        split at h
        ·
          simp only [ROpt] at hmx
          subst hmx
          cases hh : optB hi n n with
          | none => rw [hh] at h; cases h
          | some h' =>
            rw [hh] at h
            simp only [Option.bind_some] at h
            cases hl : optB lo h' 0 with
            | none => rw [hl] at h; cases h
            | some l =>
              rw [hl] at h
              injection h with h
              subst h
              have bounds : ∀ C, n ≤ C → (Instr.sliceBounds true n C lo' hi' none).run P w = .ok (l, h', C) w ∧ l ≤ h' ∧ h' ≤ n := fun C hC => by
                cases hi with
                | none =>
                  simp only [ROpt] at hhi
                  subst hhi
                  simp only [optB] at hh
                  injection hh with hh
                  subst hh
                  cases lo with
                  | none =>
                    simp only [ROpt] at hlo
                    subst hlo
                    simp only [optB] at hl
                    injection hl with hl
                    subst hl
                    exact ⟨by simp [Instr.sliceBounds], by omega, Nat.le_refl _⟩
                  | some lo =>
                    obtain ⟨ul, rfl, hul⟩ := hlo
                    simp only [optB] at hl
                    obtain ⟨r, hle⟩ := boundA_run (P := P) hl hul BoundsCode.sliceB (Nat.le_refl _) w
                    exact ⟨by simp [Instr.sliceBounds, r], hle, Nat.le_refl _⟩
                | some hi =>
                  obtain ⟨uh, rfl, huh⟩ := hhi
                  simp only [optB] at hh
                  obtain ⟨rh, hleh⟩ := boundA_run (P := P) hh huh BoundsCode.sliceAcap hC w
                  cases lo with
                  | none =>
                    simp only [ROpt] at hlo
                    subst hlo
                    simp only [optB] at hl
                    injection hl with hl
                    subst hl
                    exact ⟨by simp [Instr.sliceBounds, rh], by omega, hleh⟩
                  | some lo =>
                    obtain ⟨ul, rfl, hul⟩ := hlo
                    simp only [optB] at hl
                    obtain ⟨r, hle⟩ := boundA_run (P := P) hl hul BoundsCode.sliceB (Nat.le_refl _) w
                    exact ⟨by simp [Instr.sliceBounds, rh, r], hle, hleh⟩
              split at hu
              · rename_i B O m hι
                rcases hu with ⟨C, hnC, hroom, hu⟩ | ⟨hn0, p, hu⟩
                · obtain ⟨r1, r2, r3⟩ := bounds C hnC
                  subst hu
                  refine ⟨_, by simp [Instr.sliceAt, Instr.slice, run_underlying hd, r1, sizeA_run hs]; rfl, ?_⟩
                  unfold RV RSlice
                  rw [if_neg (by simp), hι]
                  by_cases hCl : C = l
                  · have e1 : h' = l := by omega
                    refine .inr ⟨by omega, ⟨B, O + a.off, none⟩, ?_⟩
                    rw [if_pos hCl, hCl, e1]
                    simp
                  · refine .inl ⟨C - l, by omega, ?_, ?_⟩
                    · have : l * sz' + (C - l) * sz' = C * sz' := by rw [← Nat.add_mul]; congr 1; omega
                      simp only
                      omega
                    · rw [if_neg hCl]
                      simp only [Addr.add_lit, Nat.add_assoc]
                · obtain ⟨r1, r2, r3⟩ := bounds 0 (by omega)
                  have e1 : h' = 0 := by omega
                  have e2 : l = 0 := by omega
                  subst e1 e2 hn0 hu
                  refine ⟨_, by simp [Instr.sliceAt, Instr.slice, run_underlying hd, r1, sizeA_run hs]; rfl, ?_⟩
                  unfold RV RSlice
                  rw [if_neg (by simp), hι]
                  exact .inr ⟨rfl, p, by simp⟩
              · rename_i hι
                obtain ⟨hn0, ⟨q, hq⟩, _⟩ := hu
                obtain ⟨r1, r2, r3⟩ := bounds 0 (by omega)
                have e1 : h' = 0 := by omega
                have e2 : l = 0 := by omega
                subst e1 e2 hn0 hq
                refine ⟨_, by simp [Instr.sliceAt, Instr.slice, run_underlying hd, r1, sizeA_run hs]; rfl, ?_⟩
                unfold RV RSlice
                rw [if_neg (by simp), hι]
                exact ⟨rfl, ⟨q, by simp⟩, _, rfl⟩
              · rename_i hι
                obtain ⟨q, C, hu, hnC, h1, h2⟩ := hu
                obtain ⟨r1, r2, r3⟩ := bounds C hnC
                subst hu
                refine ⟨_, by simp [Instr.sliceAt, Instr.slice, run_underlying hd, r1, sizeA_run hs]; rfl, ?_⟩
                unfold RV RSlice
                rw [if_neg (by simp), hι]
                refine ⟨_, _, rfl, by omega, fun hp => ?_, fun c' hc' => by cases hc'⟩
                have := h1 (by omega)
                split
                · exact this
                · cases q with
                  | none => exact absurd rfl this
                  | some q => intro h; cases h
              · exact hu.elim
        ·
          rename_i mxv
          split at h
          · rename_i hn
            obtain ⟨um, rfl, hum⟩ := hmx
            cases hm : optB (some mxv) n n with
            | none => rw [hm] at h; cases h
            | some m =>
              rw [hm] at h
              simp only [Option.bind_some] at h
              cases hi with
              | none => simp at h
              | some hi =>
                simp only [Option.isNone_some, Bool.false_eq_true, if_false] at h
                cases hh : optB (some hi) m n with
                | none => rw [hh] at h; cases h
                | some h' =>
                  rw [hh] at h
                  simp only [Option.bind_some] at h
                  cases hl : optB lo h' 0 with
                  | none => rw [hl] at h; cases h
                  | some l =>
                    rw [hl] at h
                    injection h with h
                    subst h
                    obtain ⟨uh, rfl, huh⟩ := hhi
                    simp only [optB] at hm hh
                    have bounds : ∀ C, n ≤ C → (Instr.sliceBounds true n C lo' (some uh) (some um)).run P w = .ok (l, h', m) w ∧ l ≤ h' ∧ h' ≤ m ∧ m ≤ n := fun C hC => by
                      obtain ⟨rm, hlem⟩ := boundA_run (P := P) hm hum BoundsCode.slice3Acap hC w
                      obtain ⟨rh, hleh⟩ := boundA_run (P := P) hh huh BoundsCode.slice3B (Nat.le_refl _) w
                      cases lo with
                      | none =>
                        simp only [ROpt] at hlo
                        subst hlo
                        simp only [optB] at hl
                        injection hl with hl
                        subst hl
                        exact ⟨by simp [Instr.sliceBounds, rm, rh], by omega, hleh, hlem⟩
                      | some lo =>
                        obtain ⟨ul, rfl, hul⟩ := hlo
                        simp only [optB] at hl
                        obtain ⟨r, hle⟩ := boundA_run (P := P) hl hul BoundsCode.slice3C (Nat.le_refl _) w
                        exact ⟨by simp [Instr.sliceBounds, rm, rh, r], hle, hleh, hlem⟩
                    split at hu
                    · rename_i B O m' hι
                      rcases hu with ⟨C, hnC, hroom, hu⟩ | ⟨hn0, p, hu⟩
                      · obtain ⟨r1, r2, r3, r4⟩ := bounds C hnC
                        subst hu
                        refine ⟨_, by simp [Instr.sliceAt, Instr.slice, run_underlying hd, r1, sizeA_run hs]; rfl, ?_⟩
                        have := cutA_rel (w0 := w0) (ι := ι) (a := a) (sz := sz') r2 r3 (q := ⟨B, O + a.off, none⟩) (by unfold RPtr; rw [if_neg hr, hι])
                        simpa using this
                      · omega
                    · omega
                    · rename_i hι
                      obtain ⟨q, C, hu, hnC, h1, h2⟩ := hu
                      obtain ⟨r1, r2, r3, r4⟩ := bounds C hnC
                      have hqn := h1 hn
                      cases q with
                      | none => exact absurd rfl hqn
                      | some q =>
                        subst hu
                        refine ⟨_, by simp [Instr.sliceAt, Instr.slice, run_underlying hd, r1, sizeA_run hs]; rfl, ?_⟩
                        unfold cutA RV RSlice
                        have hr' : ¬ (if m = l then a else ⟨a.ro, a.blk, a.off + l * sz'⟩ : AAddr).ro = true := by split <;> exact hr
                        have hb : (if m = l then a else ⟨a.ro, a.blk, a.off + l * sz'⟩ : AAddr).blk = a.blk := by split <;> rfl
                        rw [if_neg hr', hb, hι]
                        have hne : (if m = l then some q else some (q.add (l * sz'))) ≠ none := by split <;> (intro h; cases h)
                        exact ⟨_, _, rfl, by omega, fun _ => by simpa using hne, fun c' hc' => ⟨by injection hc', by simpa using hne⟩⟩
                    · exact hu.elim
          · cases h
      · cases h
  ·
    rename_i e hd
    unfold RV at hu
    subst hu
    have hz : ∀ {o : Option AV} {o' : Option Value} {k : Nat}, ROpt w0.heap.size ι o o' → optB o 0 0 = some k → k = 0 ∧ ∀ code, (match o' with | some v => Instr.sliceBound v 0 code | none => pure 0 : Sem Nat).run P w = .ok 0 w := by
      intro o o' k ho hk
      cases o with
      | none =>
        simp only [ROpt] at ho
        subst ho
        simp only [optB] at hk
        injection hk with hk
        exact ⟨hk.symm, fun _ => rfl⟩
      | some o =>
        obtain ⟨u, rfl, hu⟩ := ho
        simp only [optB] at hk
        have := (boundA_run (P := P) hk hu .sliceB (Nat.le_refl _) w).2
        have hk0 : k = 0 := by omega
        subst hk0
        exact ⟨rfl, fun code => (boundA_run (P := P) hk hu code (Nat.le_refl _) w).1⟩
    cases hs : sizeA P e with
    | none => rw [hs] at h; cases h
    | some sz =>
    rw [hs] at h
    simp only [Option.bind_some] at h
    cases hm : optB mx 0 0 with
    | none => rw [hm] at h; cases h
    | some m =>
      rw [hm] at h
      simp only [Option.bind_some] at h
      obtain ⟨rfl, rm⟩ := hz hmx hm
      split at h
      · cases h
      · rename_i hg
        cases hh : optB hi 0 0 with
        | none => rw [hh] at h; cases h
        | some h' =>
          rw [hh] at h
          simp only [Option.bind_some] at h
          obtain ⟨rfl, rh⟩ := hz hhi hh
          cases hl : optB lo 0 0 with
          | none => rw [hl] at h; cases h
          | some l =>
            rw [hl] at h
            injection h with h
            subst h
            obtain ⟨rfl, rl⟩ := hz hlo hl
            have hck : cutKnown ⟨true, 0, 0⟩ 0 0 0 lo hi mx = some (cutA ⟨true, 0, 0⟩ 0 0 0 0) := by
              unfold cutKnown
              rw [hm]
              simp only [Option.bind_some]
              rw [if_neg hg, hh]
              simp only [Option.bind_some]
              rw [hl]; rfl
            obtain ⟨l', h'', m', r1, r2, r3, r4, _⟩ := cutKnown_run (P := P) hck rfl hlo hhi hmx (Nat.le_refl _) true w
            have e1 : m' = 0 := by omega
            have e2 : h'' = 0 := by omega
            have e3 : l' = 0 := by omega
            subst e1 e2 e3
            exact ⟨.slice none 0 0, by simp [Instr.sliceAt, Instr.slice, run_underlying hd, r1, sizeA_run hs], rfl⟩
  ·
    rename_i n e a hd
    cases hs : sizeA P e with
    | none => rw [hs] at h; cases h
    | some sz =>
      rw [hs] at h
      simp only [Option.bind_some] at h
      unfold RV at hu
      obtain ⟨l, h', m, r1, r2, r3, r4, rfl, _⟩ := cutKnown_run (P := P) h rfl hlo hhi hmx (Nat.le_refl _) false w
      obtain ⟨q, rfl⟩ := RPtr_some hu
      refine ⟨_, by simp [Instr.sliceAt, Instr.sureAddr, run_underlying hd, r1, sizeA_run hs]; rfl, ?_⟩
      have := cutA_rel (w0 := w0) (ι := ι) (a := a) (sz := sz) r2 r3 hu
      by_cases e : m = l
      · rw [if_pos e] at this ⊢; exact this
      · rw [if_neg e] at this ⊢; exact this
  ·
    rename_i s hd
    unfold RV at hu
    subst hu
    split at h
    · cases h
    · rename_i hmn
      cases mx with
      | some mx => simp at hmn
      | none =>
        simp only [ROpt] at hmx
        subst hmx
        cases hh : optB hi s.size s.size with
        | none => rw [hh] at h; cases h
        | some h' =>
          rw [hh] at h
          simp only [Option.bind_some] at h
          cases hl : optB lo h' 0 with
          | none => rw [hl] at h; cases h
          | some l =>
            rw [hl] at h
            injection h with h
            subst h
            have hck : cutKnown ⟨true, 0, 0⟩ 0 s.size s.size lo hi none = some (cutA ⟨true, 0, 0⟩ 0 l h' s.size) := by
              unfold cutKnown
              rw [show optB none s.size s.size = some s.size from rfl]
              simp only [Option.bind_some, Option.isSome_none, Bool.false_and, Bool.false_eq_true, if_false]
              rw [hh]
              simp only [Option.bind_some]
              rw [hl]; rfl
            obtain ⟨l', h'', m', r1, r2, r3, r4, _, s1, s2, s3⟩ := cutKnown_run (P := P) hck rfl hlo hhi (show ROpt w0.heap.size ι none none from rfl) (Nat.le_refl _) false w
            simp only [optB] at s1
            injection s1 with s1
            subst s1
            rw [hh] at s2
            injection s2 with s2
            subst s2
            rw [hl] at s3
            injection s3 with s3
            subst s3
            exact ⟨_, by simp [Instr.sliceAt, Instr.slice, run_underlying hd, r1], rfl⟩
  ·
    rename_i arr a hd
    split at h
    · rename_i n e hda
      cases hs : sizeA P e with
      | none => rw [hs] at h; cases h
      | some sz =>
        rw [hs] at h
        simp only [Option.bind_some] at h
        unfold RV at hu
        obtain ⟨l, h', m, r1, r2, r3, r4, rfl, _⟩ := cutKnown_run (P := P) h rfl hlo hhi hmx (Nat.le_refl _) false w
        obtain ⟨q, rfl⟩ := RPtr_some hu
        refine ⟨_, by simp [Instr.sliceAt, Instr.slice, asAddr, run_underlying hd, run_underlying hda, r1, sizeA_run hs]; rfl, ?_⟩
        have := cutA_rel (w0 := w0) (ι := ι) (a := a) (sz := sz) r2 r3 hu
        by_cases e : m = l
        · rw [if_pos e] at this ⊢; exact this
        · rw [if_neg e] at this ⊢; exact this
    · cases h
  · cases h
end Go.Abs
set_option linter.unusedVariables false
set_option linter.unusedSimpArgs false
namespace Go.Abs
open Go Go.RowKit
variable {P : Program} {w0 w : World} {ι : List Loc} {H : AH}
theorem RPtr_add {b : Nat} {a : AAddr} {q : Addr} (h : RPtr b ι a (.pointer (some q))) (k : Nat) : RPtr b ι ⟨a.ro, a.blk, a.off + k⟩ (.pointer (some (q.add k))) := by
  unfold RPtr at h ⊢
  by_cases hr : a.ro = true
  · rw [if_pos hr] at h ⊢
    obtain ⟨h1, h2⟩ := h
    injection h2 with h2
    injection h2 with h2
    subst h2
    exact ⟨h1, by rw [Addr.add_lit]⟩
  · rw [if_neg hr] at h ⊢
    cases hι : ι[a.blk]? with
    | none => rw [hι] at h; exact h.elim
    | some L =>
      rw [hι] at h
      cases L with
      | dead => exact ⟨_, rfl⟩
      | pend => exact h.elim
      | nil => exact h.elim
      | «at» B O m =>
        simp only at h ⊢
        injection h with h
        injection h with h
        subst h
        rw [Addr.add_lit, Nat.add_assoc]
theorem RSlice_ptr {b : Nat} {a : AAddr} {n : Nat} {c : Cap} {v : Value} (h : RSlice b ι a n c v) : ∃ q C, v = .slice q n C ∧ (0 < n → ∃ ad, q = some ad ∧ RPtr b ι a (.pointer (some ad))) := by
  unfold RSlice at h
  unfold RPtr
  by_cases hr : a.ro = true
  · rw [if_pos hr] at h
    obtain ⟨c', _, hnc, ⟨h1, h2⟩ | ⟨hc0, p, h2⟩⟩ := h
    · exact ⟨_, _, h2, fun _ => ⟨_, rfl, by rw [if_pos hr]; exact ⟨h1, rfl⟩⟩⟩
    · have h0 : n = 0 := by omega
      exact ⟨some p, 0, by rw [h0]; exact h2, fun h1 => by omega⟩
  · rw [if_neg hr] at h
    cases hι : ι[a.blk]? with
    | none => rw [hι] at h; exact h.elim
    | some L =>
      rw [hι] at h
      cases L with
      | dead =>
        obtain ⟨q, C, h1, _, h2, _⟩ := h
        refine ⟨q, C, h1, fun hn => ?_⟩
        cases q with
        | none => exact absurd rfl (h2 hn)
        | some q => exact ⟨q, rfl, by rw [if_neg hr]; exact ⟨_, rfl⟩⟩
      | pend => exact h.elim
      | nil =>
        obtain ⟨hn, ⟨q, hq⟩, _⟩ := h
        exact ⟨q, 0, by rw [hn]; exact hq, fun h0 => by omega⟩
      | «at» B O m =>
        cases c with
        | known c =>
          obtain ⟨hn, hv | ⟨hc, p, hv⟩⟩ := h
          · exact ⟨_, _, hv, fun _ => ⟨_, rfl, by rw [if_neg hr]⟩⟩
          · have h0 : n = 0 := by omega
            exact ⟨some p, 0, by rw [h0]; exact hv, fun h1 => by omega⟩
        | grow sz =>
          rcases h with ⟨C, _, _, hv⟩ | ⟨hn, p, hv⟩
          · exact ⟨_, _, hv, fun _ => ⟨_, rfl, by rw [if_neg hr]⟩⟩
          · exact ⟨some p, 0, by rw [hn]; exact hv, fun h1 => by omega⟩
theorem indexAddrA_run {t : TypeId} {x i v : AV} (h : indexAddrA P t x i = some v) {u s : Value} (hu : RV w0.heap.size ι x u) (hs : RV w0.heap.size ι i s) (w : World) :
    ∃ z, (Instr.indexAt t u s).run P w = .ok z w ∧ RV w0.heap.size ι v z := by
  unfold indexAddrA at h
  split at h
  · rename_i n e a k i hd
    unfold RV at hu hs
    subst hs
    cases hz : sizeA P e with
    | none => rw [hz] at h; cases h
    | some sz =>
      rw [hz] at h
      simp only [Option.bind_some] at h
      split at h
      · rename_i hb
        injection h with h
        subst h
        obtain ⟨q, rfl⟩ := RPtr_some hu
        refine ⟨.pointer (some (q.add (i.toNat * sz))), by simp [Instr.indexAt, asIntOf, run_underlying hd, Instr.sureAddr, hb.1, hb.2, sizeA_run hz], ?_⟩
        unfold RV
        exact RPtr_add hu _
      · cases h
  · rename_i e a n c k i hd
    unfold RV at hu hs
    subst hs
    cases hz : sizeA P e with
    | none => rw [hz] at h; cases h
    | some sz =>
      rw [hz] at h
      simp only [Option.bind_some] at h
      split at h
      · rename_i hb
        injection h with h
        subst h
        obtain ⟨q, C, rfl, hq⟩ := RSlice_ptr hu
        obtain ⟨ad, rfl, hp⟩ := hq (by omega)
        refine ⟨.pointer (some (ad.add (i.toNat * sz))), by simp [Instr.indexAt, asIntOf, run_underlying hd, hb.1, hb.2, sizeA_run hz], ?_⟩
        unfold RV
        exact RPtr_add hp _
      · cases h
  · cases h
theorem indexA_run {t : TypeId} {x i v : AV} (h : indexA P t x i = some v) {u s : Value} (hu : RV w0.heap.size ι x u) (hs : RV w0.heap.size ι i s) (w : World) :
    ∃ z, (Instr.index t u s).run P w = .ok z w ∧ RV w0.heap.size ι v z := by
  unfold indexA at h
  split at h
  · rename_i n e cs k i hd
    unfold RV at hu hs
    subst hs
    obtain ⟨ys, rfl, hy⟩ := hu
    cases hz : sizeA P e with
    | none => rw [hz] at h; cases h
    | some sz =>
      rw [hz] at h
      simp only [Option.bind_some] at h
      split at h
      · rename_i hb
        obtain ⟨z, r1, r2⟩ := partA_run h hy w
        exact ⟨z, by simp [Instr.index, asIntOf, run_underlying hd, hb.1, hb.2, sizeA_run hz, r1], r2⟩
      · cases h
  · rename_i s' k i hd
    unfold RV at hu hs
    subst hs hu
    split at h
    · rename_i hb
      cases hg : s'[i.toNat]? with
      | none => rw [hg] at h; cases h
      | some b =>
        rw [hg] at h
        injection h with h
        subst h
        exact ⟨.int .u8 b.toNat, by simp [Instr.index, asIntOf, run_underlying hd, hb, hg], rfl⟩
    · cases h
  · cases h
theorem fieldAddrA_run {t : TypeId} {x v : AV} {f : Nat} (h : fieldAddrA P t x f = some v) {u : Value} (hu : RV w0.heap.size ι x u) (w : World) :
    ∃ z, (Instr.fieldAt t u f).run P w = .ok z w ∧ RV w0.heap.size ι v z := by
  unfold fieldAddrA at h
  split at h
  · rename_i fields a hd
    unfold RV at hu
    cases hf : fields[f]? with
    | none => rw [hf] at h; cases h
    | some fd =>
      rw [hf] at h
      simp only [Option.bind_some] at h
      split at h
      · cases h
      · rename_i hz
        injection h with h
        subst h
        obtain ⟨q, rfl⟩ := RPtr_some hu
        cases hsz : sizeA P fd.type with
        | none => rw [hsz] at hz; simp at hz
        | some n =>
          have hn : n ≠ 0 := fun e => by rw [hsz, e] at hz; simp at hz
          refine ⟨_, by simp [Instr.fieldAt, run_underlying hd, hf, Instr.sureAddr, fieldPlace, sizeA_run hsz, hn]; rfl, ?_⟩
          unfold RV
          exact RPtr_add hu _
  · cases h
theorem fieldA_run {t : TypeId} {x v : AV} {f : Nat} (h : fieldA P t x f = some v) {u : Value} (hu : RV w0.heap.size ι x u) (w : World) :
    ∃ z, (Instr.field t u f).run P w = .ok z w ∧ RV w0.heap.size ι v z := by
  unfold fieldA at h
  split at h
  · rename_i fields cs hd
    unfold RV at hu
    obtain ⟨ys, rfl, hy⟩ := hu
    cases hf : fields[f]? with
    | none => rw [hf] at h; cases h
    | some fd =>
      rw [hf] at h
      simp only [Option.bind_some] at h
      obtain ⟨z, r1, r2⟩ := partA_run h hy w
      exact ⟨z, by simp [Instr.field, run_underlying hd, hf, asAgg, r1], r2⟩
  · cases h
theorem lenA_run {t : TypeId} {x v : AV} (h : lenA P t x = some v) {u : Value} (hu : RV w0.heap.size ι x u) (ty : TypeId) (w : World) :
    ∃ z, (Builtin.len_ #[t] ty #[u]).run P w = .ok z w ∧ RV w0.heap.size ι v z := by
  unfold lenA at h
  split at h
  · rename_i s hd; unfold RV at hu; subst hu; injection h with h; subst h
    exact ⟨.int .i64 s.size, by simp [Builtin.len_, run_underlying hd, goInt], rfl⟩
  · rename_i n e hd; injection h with h; subst h
    exact ⟨.int .i64 n, by simp [Builtin.len_, run_underlying hd, goInt], rfl⟩
  · rename_i e a n c hd; unfold RV at hu; injection h with h; subst h
    obtain ⟨q, C, rfl, _⟩ := RSlice_ptr hu
    exact ⟨.int .i64 n, by simp [Builtin.len_, run_underlying hd, goInt], rfl⟩
  · rename_i e hd; unfold RV at hu; subst hu; injection h with h; subst h
    exact ⟨.int .i64 0, by simp [Builtin.len_, run_underlying hd, goInt], rfl⟩
  · cases h
theorem foldA_run {f : AV → AV → Option AV} {g : Value → Value → Sem Value} (hfg : ∀ {x y z u v}, f x y = some z → RV w0.heap.size ι x u → RV w0.heap.size ι y v → ∃ r, (g u v).run P w = .ok r w ∧ RV w0.heap.size ι z r) :
    ∀ (l : List AV) (ys : List Value) {x z : AV} {u : Value}, foldA f x l = some z → RV w0.heap.size ι x u → RVL w0.heap.size ι l ys → ∃ r, (ys.foldlM g u).run P w = .ok r w ∧ RV w0.heap.size ι z r
  | [], ys, x, z, u, h, hu, hy => by
    unfold RVL at hy
    subst hy
    simp only [foldA] at h
    injection h with h
    subst h
    exact ⟨u, rfl, hu⟩
  | y :: l, ys, x, z, u, h, hu, hy => by
    unfold RVL at hy
    obtain ⟨v, ys', rfl, h1, h2⟩ := hy
    simp only [foldA] at h
    cases hz : f x y with
    | none => rw [hz] at h; cases h
    | some z' =>
      rw [hz] at h
      simp only [Option.bind_some] at h
      obtain ⟨r, r1, r2⟩ := hfg hz hu h1
      obtain ⟨r', r3, r4⟩ := foldA_run hfg l ys' h r2 h2
      exact ⟨r', by simp [r1, r3], r4⟩
theorem min2A_run {x y z : AV} {u v : Value} (h : min2A x y = some z) (hu : RV w0.heap.size ι x u) (hv : RV w0.heap.size ι y v) : ∃ r, (Builtin.min2 u v).run P w = .ok r w ∧ RV w0.heap.size ι z r := by
  unfold min2A at h
  split at h
  · unfold RV at hu hv; subst hu hv; injection h with h; subst h; exact ⟨_, rfl, rfl⟩
  · cases h
theorem max2A_run {x y z : AV} {u v : Value} (h : max2A x y = some z) (hu : RV w0.heap.size ι x u) (hv : RV w0.heap.size ι y v) : ∃ r, (Builtin.max2 u v).run P w = .ok r w ∧ RV w0.heap.size ι z r := by
  unfold max2A at h
  split at h
  · unfold RV at hu hv; subst hu hv; injection h with h; subst h; exact ⟨_, rfl, rfl⟩
  · cases h
theorem rowA_run (h : Rep w0 ι H w) {sz n : Nat} {x : AV} {cs : List AV} (hr : rowA H sz x = some cs) {u : Value} (hu : RV w0.heap.size ι x u) (hn : slen x = n) :
    ∃ q C, u = .slice q n C ∧ cs.length = n * sz ∧ ∀ m', m' ≤ n * sz → ∃ ys : List Value, RVL w0.heap.size ι (cs.take m') ys ∧ (∀ ad, q = some ad → (loadCells ad m').run P w = .ok ys.toArray w) ∧ (q = none → ys = []) := by
  cases x with
  | nilslice =>
    simp only [rowA, slen] at hr hn
    injection hr with hr
    subst hr hn
    unfold RV at hu
    subst hu
    exact ⟨none, 0, rfl, by simp, fun m' _ => ⟨[], by simp [RVL], (fun ad h => by cases h), fun _ => rfl⟩⟩
  | slice a m c =>
    simp only [rowA, slen] at hr hn
    subst hn
    cases hg : H.get a with
    | none => rw [hg] at hr; cases hr
    | some l =>
      rw [hg] at hr
      simp only [Option.bind_some] at hr
      split at hr
      · rename_i hle
        injection hr with hr
        subst hr
        unfold RV at hu
        obtain ⟨q, C, rfl, hq⟩ := h.at_slice hu hg
        by_cases h0 : m * sz = 0
        · refine ⟨q, C, rfl, by simp [h0], fun m' hm' => ⟨[], by simp [h0, RVL], (fun ad _ => ?_), fun _ => rfl⟩⟩
          have : m' = 0 := by omega
          rw [this]; simp [loadCells, loadCellsFrom]
        · rcases hle with hle | hle
          · rcases hq with hq | ⟨ad, rfl, hs0, hc⟩
            · rw [hq] at h0; simp at h0
            · refine ⟨_, C, rfl, by simp; omega, fun m' hm' => ?_⟩
              obtain ⟨ys, r1, r2, _⟩ := run_load_row (P := P) (w := w) (w0 := w0) (ι := ι) (ad := ad) (cs := l.drop a.off) m' (by simp; omega) (fun j x hx => hc j x (by rwa [List.getElem?_drop] at hx))
              exact ⟨ys, by rw [List.take_take, Nat.min_eq_left hm']; exact r2, (fun ad' h' => by injection h' with h'; subst h'; exact r1), fun h' => by cases h'⟩
          · exact absurd hle h0
      · cases hr
  | _ => simp only [rowA] at hr; cases hr
theorem RVL_map {α : Type} {b : Nat} {f : α → AV} {g : α → Value} (hfg : ∀ x, RV b ι (f x) (g x)) : ∀ l : List α, RVL b ι (l.map f) (l.map g)
  | [] => by simp [RVL]
  | x :: l => by simp only [List.map_cons, RVL]; exact ⟨_, _, rfl, hfg x, RVL_map hfg l⟩
theorem newsA_run (h : Rep w0 ι H w) {sz k : Nat} {x : AV} {cs : List AV} (hn : newsA H sz x = some (k, cs)) {u : Value} (hu : RV w0.heap.size ι x u) :
    (Builtin.lenOf u).run P w = .ok k w ∧ cs.length = k * sz ∧ ∀ k', k' ≤ k → ∃ ys : List Value, (Builtin.firstCells sz k' u).run P w = .ok ys.toArray w ∧ RVL w0.heap.size ι (cs.take (k' * sz)) ys := by
  cases x with
  | nilslice =>
    simp only [newsA] at hn
    injection hn with hn
    injection hn with h1 h2
    subst h1 h2
    unfold RV at hu
    subst hu
    exact ⟨rfl, by simp, fun k' _ => ⟨[], by simp [Builtin.firstCells], by simp [RVL]⟩⟩
  | slice a n c =>
    simp only [newsA] at hn
    cases hr : rowA H sz (.slice a n c) with
    | none => rw [hr] at hn; cases hn
    | some cs' =>
      rw [hr] at hn
      injection hn with hn
      injection hn with h1 h2
      subst h1 h2
      obtain ⟨q, C, rfl, hl, hm⟩ := rowA_run (P := P) h hr hu rfl
      refine ⟨rfl, hl, fun k' hk' => ?_⟩
      obtain ⟨ys, r1, r2, r3⟩ := hm (k' * sz) (Nat.mul_le_mul_right _ hk')
      cases q with
      | none => rw [r3 rfl] at r1; exact ⟨[], by simp [Builtin.firstCells], r1⟩
      | some ad => exact ⟨ys, by simpa [Builtin.firstCells] using r2 ad rfl, r1⟩
  | str s =>
    simp only [newsA] at hn
    split at hn
    · rename_i h1
      injection hn with hn
      injection hn with h2 h3
      subst h1 h2 h3
      unfold RV at hu
      subst hu
      refine ⟨rfl, by simp, fun k' hk' => ⟨(s.data.toList.take k').map fun b => .int .u8 b.toNat, ?_, ?_⟩⟩
      · simp only [Builtin.firstCells, Sem.run_pure]
        congr 1
        apply Array.ext'
        simp [ByteArray.data_extract]
      · rw [Nat.mul_one, ← List.map_take]
        exact RVL_map (f := fun b : UInt8 => AV.int .u8 b.toNat) (g := fun b : UInt8 => Value.int .u8 b.toNat) (fun b => by unfold RV; rfl) _
    · cases hn
  | _ => simp only [newsA] at hn; cases hn
end Go.Abs
set_option linter.unusedVariables false
set_option linter.unusedSimpArgs false
namespace Go.Abs
open Go Go.RowKit
variable {P : Program} {w0 w : World} {ι : List Loc} {H : AH}
theorem RVL.of_array {b : Nat} {l : List AV} {cs : Array Value} (h : RVL b ι l cs.toList) : l.length = cs.size ∧ ∀ (k : Nat) (v : AV), l[k]? = some v → ∃ x, cs[k]? = some x ∧ RV b ι v x :=
  ⟨by rw [← h.length]; simp, fun k v hk => by obtain ⟨x, h1, h2⟩ := h.get hk; exact ⟨x, by rw [← Array.getElem?_toList]; exact h1, h2⟩⟩
theorem newA_run (h : Rep w0 ι H w) {l : List AV} {cs : Array Value} (e : TypeId) (hl : RVL w0.heap.size ι l cs.toList) :
    ∃ ι', Rep w0 ι' (H.push (some (.cells l))) (w.alloc (.cells cs e)) ∧ Ext ι H w ι' (H.push (some (.cells l))) (w.alloc (.cells cs e)) ∧
      RPtr w0.heap.size ι' ⟨false, H.n, 0⟩ (.pointer (some ⟨w.heap.size, 0, none⟩)) ∧ ι'[H.n]? = some (.at w.heap.size 0 cs.size) := by
  obtain ⟨h1, h2⟩ := hl.of_array
  obtain ⟨hR, hE⟩ := h.push e (Nat.le_of_eq h1) h2
  have hn : (ι ++ [Loc.at w.heap.size 0 cs.size])[H.n]? = some (.at w.heap.size 0 cs.size) := by
    unfold AH.n; rw [← h.len]; simp
  refine ⟨_, hR, hE, ?_, hn⟩
  unfold RPtr
  simp only [Bool.false_eq_true, if_false]
  rw [hn]
theorem RVL_zero {b : Nat} (z : Array Value) : RVL b ι (absL 0 z.toList) z.toList := RVL_abs ι (Nat.zero_le _) _
theorem repA_rel {b : Nat} {zs : List AV} {z : Array Value} (hz : RVL b ι zs z.toList) (hpos : 0 < z.size) (c : Nat) : RVL b ι (repA zs c) ((Array.range (c * z.size)).map (z[· % z.size]!)).toList := by
  have hlen : zs.length = z.size := (hz.of_array).1
  have hone : ∀ x, zs = [x] → RVL b ι (List.replicate c x) ((Array.range (c * z.size)).map (z[· % z.size]!)).toList := fun x hx => by
    have h1 : z.size = 1 := by rw [← hlen, hx]; rfl
    refine RVL.of_get (by simp [h1]) fun k v hk => ?_
    rw [List.getElem?_replicate] at hk
    split at hk
    · rename_i hkc
      injection hk with hk
      subst hk
      obtain ⟨y, g1, g2⟩ := hz.get (k := 0) (v := x) (by rw [hx]; rfl)
      have g1' : z[0]! = y := by rw [getElem!_def]; rw [Array.getElem?_toList] at g1; rw [g1]
      refine ⟨y, ?_, g2⟩
      rw [getElem!_pos z 0 hpos] at g1'
      simp [h1, hkc, Nat.mod_one, g1']
    · cases hk
  have hgen : RVL b ι ((List.range (c * zs.length)).map fun i => zs.getD (i % zs.length) .unk) ((Array.range (c * z.size)).map (z[· % z.size]!)).toList := by
    rw [hlen]
    refine RVL.of_get (by simp) fun k v hk => ?_
    rw [List.getElem?_map] at hk
    cases hr : (List.range (c * z.size))[k]? with
    | none => rw [hr] at hk; cases hk
    | some i =>
      rw [hr] at hk
      injection hk with hk
      have hki := lt_of_get hr
      simp at hki
      rw [List.getElem?_range hki] at hr
      injection hr with hr
      subst hr hk
      have hlt : k % z.size < zs.length := by rw [hlen]; exact Nat.mod_lt _ hpos
      obtain ⟨y, g1, g2⟩ := hz.get (k := k % z.size) (v := zs.getD (k % z.size) .unk) (by simp [List.getD, List.getElem?_eq_getElem hlt])
      have g1' : z[k % z.size]! = y := by rw [getElem!_def]; rw [Array.getElem?_toList] at g1; rw [g1]
      refine ⟨y, ?_, g2⟩
      simp
      rw [List.getElem?_range hki]
      simp [g1']
  unfold repA
  split
  · exact hone _ rfl
  · exact hgen
theorem putAt_get : ∀ (vs : List AV) (cs : List AV) (o k : Nat), (putAt cs o vs)[k]? = if o ≤ k ∧ k < o + vs.length ∧ k < cs.length then vs[k - o]? else cs[k]?
  | [], cs, o, k => by simp [putAt]; intro h1 h2; omega
  | v :: vs, cs, o, k => by
    rw [putAt, putAt_get vs]
    simp only [List.length_set, List.length_cons, List.getElem?_set]
    by_cases h1 : o = k
    · subst h1
      have : ¬ (o + 1 ≤ o) := by omega
      simp [this]
      by_cases h2 : o < cs.length
      · simp [h2]
      · simp [h2]
    · by_cases h2 : o + 1 ≤ k ∧ k < o + 1 + vs.length ∧ k < cs.length
      · rw [if_pos h2, if_pos (by omega)]
        rw [show k - o = (k - (o + 1)) + 1 by omega]
        simp
      · rw [if_neg h2, if_neg h1, if_neg (by omega)]
theorem putAt_length : ∀ (vs : List AV) (cs : List AV) (o : Nat), (putAt cs o vs).length = cs.length
  | [], _, _ => rfl
  | v :: vs, cs, o => by rw [putAt, putAt_length vs]; simp
theorem foldl_set_get (vs : List Value) : ∀ (cs : Array Value) (o i k : Nat), ((vs.zipIdx i).foldl (fun cs (x : Value × Nat) => cs.setIfInBounds (o + x.2) x.1) cs)[k]? =
    if o + i ≤ k ∧ k < o + i + vs.length ∧ k < cs.size then vs[k - (o + i)]? else cs[k]? := by
  induction vs with
  | nil => intro cs o i k; simp; intro h1 h2; omega
  | cons v vs ih =>
    intro cs o i k
    rw [List.zipIdx_cons, List.foldl_cons, ih]
    simp only [Array.size_setIfInBounds, List.length_cons, Array.getElem?_setIfInBounds]
    by_cases h1 : o + i = k
    · subst h1
      have : ¬ (o + (i + 1) ≤ o + i) := by omega
      simp [this]
      by_cases h2 : o + i < cs.size
      · simp [h2]
      · simp [h2]
    · by_cases h2 : o + (i + 1) ≤ k ∧ k < o + (i + 1) + vs.length ∧ k < cs.size
      · rw [if_pos h2, if_pos (by omega)]
        rw [show k - (o + i) = (k - (o + (i + 1))) + 1 by omega]
        simp
      · rw [if_neg h2, if_neg h1, if_neg (by omega)]
theorem foldl_set_size (vs : List (Value × Nat)) : ∀ (cs : Array Value) (o : Nat), (vs.foldl (fun cs (x : Value × Nat) => cs.setIfInBounds (o + x.2) x.1) cs).size = cs.size := by
  induction vs with
  | nil => intro cs o; rfl
  | cons v vs ih => intro cs o; rw [List.foldl_cons, ih]; simp
theorem fillA_run {b : Nat} {place : Nat → Option (Nat × Nat)} : ∀ (ps : List (Nat × AV)) (qs : List (Nat × Value)) {cells r : List AV} {cs : Array Value}, fillA place cells ps = some r →
    qs.length = ps.length → (∀ (j : Nat) (p : Nat × AV), ps[j]? = some p → ∃ x, qs[j]? = some (p.1, x) ∧ RV b ι p.2 x) → RVL b ι cells cs.toList → (∀ {v : AV} {l : List AV} {x : Value}, cellsA v = some l → RV b ι v x → RVL b ι l x.cells.toList) →
    ∃ cs', Instr.fill place cs qs = some cs' ∧ RVL b ι r cs'.toList
  | [], qs, cells, r, cs, h, hl, hp, hc, hcells => by
    have : qs = [] := List.eq_nil_of_length_eq_zero (by simpa using hl)
    subst this
    simp only [fillA] at h
    injection h with h
    subst h
    exact ⟨cs, rfl, hc⟩
  | (i, v) :: ps, qs, cells, r, cs, h, hl, hp, hc, hcells => by
    cases qs with
    | nil => simp at hl
    | cons q qs =>
      obtain ⟨x, h1, h2⟩ := hp 0 (i, v) rfl
      simp at h1
      subst h1
      simp only [fillA] at h
      cases hpl : place i with
      | none => rw [hpl] at h; cases h
      | some p =>
        rw [hpl] at h
        simp only [Option.bind_some] at h
        cases hv : cellsA v with
        | none => rw [hv] at h; cases h
        | some vs =>
          rw [hv] at h
          simp only [Option.bind_some] at h
          split at h
          · rename_i hb
            have hx := hcells hv h2
            have hxl : x.cells.size = vs.length := by have := hx.length; simpa using this
            have hcl : cells.length = cs.size := (hc.of_array).1
            obtain ⟨p1, p2⟩ := p
            simp only at hb h
            have step : RVL b ι (putAt cells p1 vs) (x.cells.zipIdx.foldl (fun cs (y : Value × Nat) => cs.setIfInBounds (p1 + y.2) y.1) cs).toList := by
              rw [← Array.foldl_toList, Array.toList_zipIdx]
              refine RVL.of_get (by rw [putAt_length, hcl]; simp [foldl_set_size]) fun k u hk => ?_
              rw [putAt_get] at hk
              rw [Array.getElem?_toList, foldl_set_get]
              simp only [Nat.add_zero, Array.length_toList, hxl]
              by_cases hin : p1 ≤ k ∧ k < p1 + vs.length ∧ k < cells.length
              · rw [if_pos hin] at hk
                rw [if_pos (by omega)]
                exact hx.get hk
              · rw [if_neg hin] at hk
                rw [if_neg (by omega)]
                exact (hc.of_array).2 k u hk
            obtain ⟨cs', r1, r2⟩ := fillA_run ps qs h (by simpa using hl) (fun j q hj => by have := hp (j + 1) q (by simpa using hj); simpa using this) step hcells
            refine ⟨cs', ?_, r2⟩
            simp only [Instr.fill, hpl]
            rw [if_neg (by rw [← hcl, hxl]; simp; exact ⟨hb.1, by omega⟩)]
            exact r1
          · cases h
end Go.Abs
set_option linter.unusedVariables false
set_option linter.unusedSimpArgs false
namespace Go.Abs
open Go Go.RowKit
variable {P : Program} {w0 w : World} {ι : List Loc} {H : AH}
theorem placesA_run (w : World) : ∀ (l : List Field) {r : List (Nat × Nat)}, placesA P l = some r → (l.mapM (fun f => do pure (f.offset, ← sizeOf f.type) : Field → Sem (Nat × Nat))).run P w = .ok r w
  | [], r, h => by simp only [placesA] at h; injection h with h; subst h; rfl
  | f :: l, r, h => by
    simp only [placesA] at h
    cases hs : sizeA P f.type with
    | none => rw [hs] at h; cases h
    | some n =>
      rw [hs] at h
      simp only [Option.bind_some] at h
      cases hr : placesA P l with
      | none => rw [hr] at h; cases h
      | some r' =>
        rw [hr] at h
        injection h with h
        subst h
        rw [List.mapM_cons]
        have ih := placesA_run w l hr
        simp only [Sem.run_bind, sizeA_run hs, Result.andThen_ok, Sem.run_pure] at ih ⊢
        rw [ih]
        rfl
theorem buildA_run {t : TypeId} {ps : List (Nat × AV)} {v : AV} (h : buildA P t ps = some v) {qs : Array (Nat × Value)} (hl : qs.toList.length = ps.length)
    (hp : ∀ (j : Nat) (p : Nat × AV), ps[j]? = some p → ∃ x, qs.toList[j]? = some (p.1, x) ∧ RV w0.heap.size ι p.2 x) (w : World) :
    ∃ z, (Instr.build t qs).run P w = .ok z w ∧ RV w0.heap.size ι v z := by
  unfold buildA at h
  cases hz : zeroA P t with
  | none => rw [hz] at h; cases h
  | some zero =>
    rw [hz] at h
    simp only [Option.bind_some] at h
    obtain ⟨z, hzr, rfl⟩ := zeroA_run hz w
    have hz0 := RVL_zero (b := w0.heap.size) (ι := ι) z.cells
    split at h
    · rename_i fields hd
      cases hpl : placesA P fields.toList with
      | none => rw [hpl] at h; cases h
      | some pl =>
      rw [hpl] at h
      simp only [Option.bind_some] at h
      cases hf : fillA (fun i => pl[i]?) (absL 0 z.cells.toList) ps with
      | none => rw [hf] at h; cases h
      | some r =>
        rw [hf] at h
        injection h with h
        subst h
        obtain ⟨cs', r1, r2⟩ := fillA_run ps qs.toList hf hl hp hz0 (fun h1 h2 => cellsA_run h1 h2)
        refine ⟨.agg cs', ?_, by unfold RV; exact ⟨_, rfl, r2⟩⟩
        have hm := placesA_run w fields.toList hpl
        have hr1 : Instr.fill (fun i => pl.toArray[i]?) z.cells qs.toList = some cs' := by simpa using r1
        simp only [Instr.build, Sem.run_bind, hzr, Result.andThen_ok, run_underlying hd, Array.mapM_eq_mapM_toList, Sem.run_map]
        rw [hm]
        simp only [Result.andThen_ok]
        rw [hr1]
        rfl
    · rename_i n elem hd
      cases hs : sizeA P elem with
      | none => rw [hs] at h; cases h
      | some size =>
        rw [hs] at h
        simp only [Option.bind_some] at h
        cases hf : fillA (fun i => some (i * size, size)) (absL 0 z.cells.toList) ps with
        | none => rw [hf] at h; cases h
        | some r =>
          rw [hf] at h
          injection h with h
          subst h
          obtain ⟨cs', r1, r2⟩ := fillA_run ps qs.toList hf hl hp hz0 (fun h1 h2 => cellsA_run h1 h2)
          exact ⟨.agg cs', by simp [Instr.build, hzr, run_underlying hd, sizeA_run hs, r1], by unfold RV; exact ⟨_, rfl, r2⟩⟩
    · cases h
theorem known_new {k : Nat} (hn : ι[H.n]? = some (.at w.heap.size 0 k)) (n c : Nat) (hc : n ≤ c) :
    RV w0.heap.size ι (.slice ⟨false, H.n, 0⟩ n (.known c)) (.slice (some ⟨w.heap.size, 0, none⟩) n c) := by
  unfold RV RSlice
  simp only [Bool.false_eq_true, if_false]
  rw [hn]
  exact ⟨hc, .inl rfl⟩
theorem buildSliceA_run (h : Rep w0 ι H w) {t : TypeId} {n : Nat} {ps : List (Nat × AV)} {v : AV} {H' : AH} (hb : buildSliceA P t n ps H = some (v, H')) {qs : Array (Nat × Value)} (hl : qs.toList.length = ps.length)
    (hp : ∀ (j : Nat) (p : Nat × AV), ps[j]? = some p → ∃ x, qs.toList[j]? = some (p.1, x) ∧ RV w0.heap.size ι p.2 x) :
    ∃ z w' ι', (Instr.buildSlice t n qs).run P w = .ok z w' ∧ RV w0.heap.size ι' v z ∧ Rep w0 ι' H' w' ∧ Ext ι H w ι' H' w' := by
  unfold buildSliceA at hb
  split at hb
  · rename_i elem hd
    cases hs : sizeA P elem with
    | none => rw [hs] at hb; cases hb
    | some size =>
      rw [hs] at hb
      simp only [Option.bind_some] at hb
      cases hz : zeroA P elem with
      | none => rw [hz] at hb; cases hb
      | some zero =>
        rw [hz] at hb
        simp only [Option.bind_some] at hb
        split at hb
        · rename_i hh
          obtain ⟨h1, h2, h3⟩ := hh
          cases hf : fillA (fun i => some (i * size, size)) (repA zero n) ps with
          | none => rw [hf] at hb; cases hb
          | some cells =>
            rw [hf] at hb
            injection hb with hb
            injection hb with e1 e2
            subst e1 e2
            obtain ⟨z, hzr, rfl⟩ := zeroA_run hz w
            have hz0 := RVL_zero (b := w0.heap.size) (ι := ι) z.cells
            have hzs : z.cells.size = size := by rw [← h2, absL_length]; simp
            have hrep := repA_rel hz0 (by omega) n
            rw [hzs] at hrep
            obtain ⟨cs', r1, r2⟩ := fillA_run ps qs.toList hf hl hp hrep (fun h1 h2 => cellsA_run h1 h2)
            obtain ⟨ι', g1, g2, g3, g4⟩ := newA_run h elem r2
            refine ⟨_, _, ι', ?_, known_new g4 n n (Nat.le_refl _), g1, g2⟩
            have hle : ¬ (16777216 < n * size) := by omega
            by_cases h0 : n * size = 0
            · have hn0 : n = 0 := by
                rcases Nat.mul_eq_zero.1 h0 with h | h
                · exact h
                · omega
              subst hn0
              simp [Instr.buildSlice, run_underlying hd, sizeA_run hs, newRow, Array.range_zero'] at r1 ⊢
              rw [r1]; rfl
            · simp [Instr.buildSlice, run_underlying hd, sizeA_run hs, hle, h0, hzr, hzs, r1, newRow]
        · cases hb
  · cases hb
theorem bytesA_run {t : TypeId} {n : Nat} (h : bytesA P t = some n) : ∃ i, P.info? t = some i ∧ i.bytes = n := by
  unfold bytesA at h
  cases hi : P.info? t with
  | none => rw [hi] at h; cases h
  | some i => rw [hi] at h; injection h with h; exact ⟨i, rfl, h⟩
theorem wrap_small {n : Int} (h0 : 0 ≤ n) (h1 : n ≤ 140737488355328) : IntKind.i64.wrap n = n := IntWalk.i64_in n (by omega)
theorem makeSliceA_run (h : Rep w0 ι H w) {t : TypeId} {x y v : AV} {H' : AH} (hm : makeSliceA P t x y H = some (v, H')) {u s : Value} (hu : RV w0.heap.size ι x u) (hs' : RV w0.heap.size ι y s) :
    ∃ z w' ι', (Instr.makeSlice t u s).run P w = .ok z w' ∧ RV w0.heap.size ι' v z ∧ Rep w0 ι' H' w' ∧ Ext ι H w ι' H' w' := by
  unfold makeSliceA at hm
  split at hm
  · rename_i elem kl l kc c hd
    unfold RV at hu hs'
    subst hu hs'
    cases hs : sizeA P elem with
    | none => rw [hs] at hm; cases hm
    | some size =>
      rw [hs] at hm
      simp only [Option.bind_some] at hm
      cases hby : bytesA P elem with
      | none => rw [hby] at hm; cases hm
      | some bytes =>
        rw [hby] at hm
        simp only [Option.bind_some] at hm
        cases hz : zeroA P elem with
        | none => rw [hz] at hm; cases hm
        | some zero =>
          rw [hz] at hm
          simp only [Option.bind_some] at hm
          split at hm
          · rename_i hh
            obtain ⟨h1, h2, h3, h4, h5, h6⟩ := hh
            injection hm with hm
            injection hm with e1 e2
            subst e1 e2
            obtain ⟨i, hi, rfl⟩ := bytesA_run hby
            obtain ⟨z, hzr, rfl⟩ := zeroA_run hz w
            have hz0 := RVL_zero (b := w0.heap.size) (ι := ι) z.cells
            have hzs : z.cells.size = size := by rw [← h5, absL_length]; simp
            have hrep := repA_rel hz0 (by omega) c.toNat
            rw [hzs] at hrep
            obtain ⟨ι', g1, g2, g3, g4⟩ := newA_run h elem hrep
            refine ⟨_, _, ι', ?_, known_new g4 l.toNat c.toNat (by omega), g1, g2⟩
            have hwl := wrap_small h1 (by omega)
            have hwc := wrap_small (n := c) (by omega) h3
            have ht1 : ¬ (c < 0) := by omega
            have ht2 : ¬ (281474976710656 < (i.bytes : Int) * c) := by rw [Int.mul_comm]; omega
            have ht3 : ¬ (l < 0) := by omega
            have ht4 : ¬ (c < l) := by omega
            by_cases h0 : c.toNat * size = 0
            · have hc0 : c.toNat = 0 := by
                rcases Nat.mul_eq_zero.1 h0 with h | h
                · exact h
                · omega
              simp [Instr.makeSlice, run_underlying hd, asInt, asIntOf, run_typeInfo hi, hwl, hwc, ht1, ht2, ht3, ht4, sizeA_run hs, h0, newRow, Array.range_zero']
            · simp [Instr.makeSlice, run_underlying hd, asInt, asIntOf, run_typeInfo hi, hwl, hwc, ht1, ht2, ht3, ht4, sizeA_run hs, h0, hzr, hzs, newRow]
          · cases hm
  · cases hm
end Go.Abs
set_option linter.unusedVariables false
set_option linter.unusedSimpArgs false
namespace Go.Abs
open Go Go.RowKit
variable {P : Program} {w0 w : World} {ι : List Loc} {H : AH}
theorem extendCells_run : ∀ (vs : List AV) (ys : List Value) {H : AH} {w : World} {i o B O m k : Nat} {l : List AV}, Rep w0 ι H w → H.rw[i]? = some (some (.cells l)) → ι[i]? = some (.at B O m) → l.length = o + k → l.length + vs.length ≤ m →
    vs.all oneA = true → RVL w0.heap.size ι vs ys →
    ∃ w', (storeCells ⟨B, O + o, none⟩ ys k).run P w = .ok () w' ∧ Rep w0 ι (H.set i (some (.cells (l ++ vs)))) w' ∧ Ext ι H w ι (H.set i (some (.cells (l ++ vs)))) w'
  | [], ys, H, w, i, o, B, O, m, k, l, h, hi, hι, hlen, hroom, h1, hy => by
    unfold RVL at hy
    subst hy
    have e : H.set i (some (.cells (l ++ []))) = ⟨H.ro, H.rw, fun j => j = i ∨ H.wr j⟩ := by
      rw [List.append_nil]
      unfold AH.set
      obtain ⟨hlt, he⟩ := List.getElem?_eq_some_iff.1 hi
      cases H
      simp only at hlt he ⊢
      congr 1
      rw [← he]
      exact List.set_getElem_self hlt
    rw [e]
    exact ⟨w, rfl, h.more _, (Ext.refl _ _ _).more fun _ h => .inr h⟩
  | v :: vs, ys, H, w, i, o, B, O, m, k, l, h, hi, hι, hlen, hroom, h1, hy => by
    unfold RVL at hy
    obtain ⟨y, ys', rfl, hy1, hy2⟩ := hy
    simp only [List.all_cons, Bool.and_eq_true] at h1
    obtain ⟨h1, h1'⟩ := h1
    simp only [List.length_cons] at hroom
    have hblk : RBlk w0.heap.size ι l B O m w := by
      rcases h.blk i l hi with g1 | ⟨g1, _⟩ | ⟨B', O', m', g1, g2⟩
      · rw [hι] at g1; cases g1
      · rw [hι] at g1; cases g1
      · rw [hι] at g1; injection g1 with g1; injection g1 with e1 e2 e3; subst e1 e2 e3; exact g2
    obtain ⟨cs, e, fz, g1, g2, g3, g4⟩ := hblk.cells
    obtain ⟨hR, hE⟩ := h.setCell (k := o + k) (x := y) (l' := l ++ [v]) hi hι (by omega) (by simp; omega) (fun j x hj => by
      rcases get_app hj with hj | ⟨e1, e2⟩
      · have := lt_of_get hj; exact .inr ⟨by omega, hj⟩
      · exact .inl ⟨by omega, e2 ▸ hy1⟩)
    have hone := oneA_cell h1 hy1
    have hcell : w.cell? ⟨B, O + (o + k), none⟩ = cs[O + (o + k)]? := cell_of_row w B _ cs e fz g1
    have hin : O + (o + k) < cs.size := by omega
    rw [Array.getElem?_eq_getElem hin] at hcell
    have hfro := hblk.free (O + (o + k)) (by omega) (by omega)
    have hst : (store ((⟨B, O + o, none⟩ : Addr).add k) y).run P w = .ok () (w.setCell ⟨B, O + (o + k), none⟩ y) := by
      rw [Addr.add_lit, Nat.add_assoc, run_store P w _ y _ hone, hcell]
      simp [hfro]
    have hilt := lt_of_get hi
    obtain ⟨w', r1, r2, r3⟩ := extendCells_run vs ys' (l := l ++ [v]) (i := i) (o := o) (k := k + 1) hR (by simp [AH.set, hilt]) hι (by simp; omega) (by simp; omega) h1' hy2
    have e : (H.set i (some (.cells (l ++ [v])))).set i (some (.cells (l ++ [v] ++ vs))) = H.set i (some (.cells (l ++ v :: vs))) := by
      rw [AH.set_set', show l ++ [v] ++ vs = l ++ v :: vs by simp]
    rw [e] at r2 r3
    exact ⟨w', by simp only [storeCells, Sem.run_bind, hst, Result.andThen_ok]; exact r1, r2, hE.trans r3⟩
structure NewsOk (P : Program) (w0 : World) (ι : List Loc) (H : AH) (w : World) (e xt : TypeId) (sz : Nat) (u : Value) (k : Nat) (news : List AV) : Prop where
  len : news.length = k * sz
  alike : (∃ d, P.underlying xt = some d ∧ (d = .string ∨ ∃ e', d = .slice e') ∧ (Builtin.lenOf u).run P w = .ok k w ∧
      ∀ w', w'.heap = w.heap → w'.os = w.os → w'.tape = w.tape → w'.output = w.output → ∃ ys : List Value, (Builtin.firstCells sz k u).run P w' = .ok ys.toArray w' ∧ RVL w0.heap.size ι news ys) ∨
    (∃ kk z, P.underlying xt = some (.int kk) ∧ u = .int .i64 k ∧ k ≤ 140737488355328 ∧ (P.info? e).bind (·.zero) = some z ∧ RVL w0.heap.size ι news (Builtin.zeroCells z.cells k).toList)
theorem zeroCells_rel {b : Nat} {z : Value} (hpos : 0 < z.cells.size) (k : Nat) : RVL b ι (repA (absL 0 z.cells.toList) k) (Builtin.zeroCells z.cells k).toList := by
  have := repA_rel (ι := ι) (b := b) (RVL_zero z.cells) hpos k
  simpa [Builtin.zeroCells] using this
theorem same_all {w' : World} (h : Rep w0 ι H w) (h1 : w'.heap = w.heap) (h2 : w'.os = w.os) (h3 : w'.tape = w.tape) (h4 : w'.output = w.output) : Rep w0 ι H w' := (h.same h1 h2 h3 h4).1
theorem newsOk_of (h : Rep w0 ι H w) {e xt : TypeId} {sz k : Nat} {x : AV} {news : List AV} {zero : List AV} {u : Value} (hz : zeroA P e = some zero) (hzl : zero.length = sz) (hsz : 0 < sz) (hu : RV w0.heap.size ι x u)
    (hn : moreA P xt zero sz H x = some (k, news)) : NewsOk P w0 ι H w e xt sz u k news := by
  have hsl : ∀ d, P.underlying xt = some d → (d = .string ∨ ∃ e', d = .slice e') → newsA H sz x = some (k, news) → NewsOk P w0 ι H w e xt sz u k news := fun d hd hdd hn => by
    obtain ⟨r1, r2, r3⟩ := newsA_run (P := P) h hn hu
    refine ⟨r2, .inl ⟨_, hd, hdd, r1, fun w' a1 a2 a3 a4 => ?_⟩⟩
    obtain ⟨_, _, r4⟩ := newsA_run (P := P) (same_all h a1 a2 a3 a4) hn hu
    obtain ⟨ys, r5, r6⟩ := r4 k (Nat.le_refl _)
    exact ⟨ys, r5, by rw [← r2, List.take_length] at r6; exact r6⟩
  unfold moreA at hn
  split at hn
  · rename_i kk l hd
    split at hn
    · rename_i hl
      injection hn with hn
      injection hn with e1 e2
      subst e1 e2
      unfold RV at hu
      subst hu
      obtain ⟨z, hzr, hzz⟩ := zeroA_run hz w
      have hzi : (P.info? e).bind (·.zero) = some z := by
        unfold zeroA at hz
        cases hi : P.info? e with
        | none => rw [hi] at hz; cases hz
        | some i =>
          rw [hi] at hz
          cases hzz' : i.zero with
          | none => simp [hzz'] at hz
          | some z' => simp [zeroValue, typeInfo, hi, hzz'] at hzr; simp [hzz', hzr]
      subst hzz
      have hzs : z.cells.size = sz := by rw [← hzl, absL_length]; simp
      have hrel := zeroCells_rel (ι := ι) (b := w0.heap.size) (z := z) (show 0 < z.cells.size by omega) l.toNat
      refine ⟨?_, .inr ⟨kk, z, hd, by rw [Int.toNat_of_nonneg hl.1], by omega, hzi, hrel⟩⟩
      have := (hrel.of_array).1
      rw [this]; simp [Builtin.zeroCells, hzs]
    · cases hn
  · rename_i e' hd; exact hsl _ hd (.inr ⟨e', rfl⟩) hn
  · rename_i hd; exact hsl _ hd (.inl rfl) hn
  · cases hn
theorem news_nil {news : List AV} {e xt : TypeId} {sz : Nat} {u : Value} (hn : NewsOk P w0 ι H w e xt sz u 0 news) : news = [] := List.eq_nil_of_length_eq_zero (by simpa using hn.len)
theorem append_stays {st xt e : TypeId} {sz : Nat} {u : Value} {news : List AV} (hd : P.underlying st = some (.slice e)) (hs : sizeA P e = some sz) (hn : NewsOk P w0 ι H w e xt sz u 0 news) (ty : TypeId) (q : Option Addr) (n c : Nat) (hnc : n ≤ c) :
    (Builtin.append_ #[st, xt] ty #[.slice q n c, u]).run P w = .ok (.slice q n c) w := by
  have hl := news_nil hn
  rcases hn.alike with ⟨d, hx, hne, hlen, hfc⟩ | ⟨kk, z, hx, rfl, hk, hz, hrel⟩
  · obtain ⟨ys, r1, r2⟩ := hfc w rfl rfl rfl rfl
    have hy : ys = [] := by rw [hl] at r2; unfold RVL at r2; exact r2
    rw [hy] at r1
    rcases hne with rfl | ⟨e', rfl⟩
    · cases q <;> simp [Builtin.append_, run_underlying hd, run_underlying hx, sizeA_run hs, hlen, hnc, r1, storeCells]
    · cases q <;> simp [Builtin.append_, run_underlying hd, run_underlying hx, sizeA_run hs, hlen, hnc, r1, storeCells]
  · have hi : ∃ i, P.info? e = some i := by
      cases hi : P.info? e with
      | none => rw [hi] at hz; cases hz
      | some i => exact ⟨i, rfl⟩
    obtain ⟨i, hi⟩ := hi
    have hw0 : IntKind.i64.wrap 0 = 0 := by decide
    cases q <;> simp [Builtin.append_, run_underlying hd, run_underlying hx, sizeA_run hs, asInt, asIntOf, hw0, run_typeInfo hi, hnc, storeCells]
theorem append_grows {st xt e : TypeId} {sz bytes k : Nat} {u : Value} {news : List AV} (hd : P.underlying st = some (.slice e)) (hs : sizeA P e = some sz) (hb : bytesA P e = some bytes) {zero : List AV} (hz : zeroA P e = some zero) (hzl : zero.length = sz)
    (hn : NewsOk P w0 ι H w e xt sz u k news) (ty : TypeId) (q : Option Addr) (n c : Nat) (hnc : c < n + k) (hmax : n + k ≤ 140737488355328) (hbytes : (n + k) * bytes ≤ 140737488355328)
    (olds : List Value) (holds : (Builtin.firstCells sz n (.slice q n c)).run P w.drew = .ok olds.toArray w.drew) :
    ∃ (C : Nat) (ys rest : List Value), n + k ≤ C ∧ RVL w0.heap.size ι news ys ∧ rest.length = (C - (n + k)) * sz ∧
      (Builtin.append_ #[st, xt] ty #[.slice q n c, u]).run P w = .ok (.slice (some ⟨w.heap.size, 0, none⟩) (n + k) C) (w.drew.alloc (.cells (olds ++ ys ++ rest).toArray e)) := by
  obtain ⟨i, hi, hby⟩ := bytesA_run hb
  subst hby
  have h63 : ¬ (9223372036854775807 < ((n : Int) + (k : Int))) := by omega
  have h48 : ¬ (281474976710656 < Builtin.nextslicecap (n + k) c * i.bytes) := by have := growslice_fits hnc hbytes; omega
  have hnr : ¬ (n + k ≤ c) := by omega
  have hzi : ∃ z, i.zero = some z ∧ absL 0 z.cells.toList = zero := by
    unfold zeroA at hz
    rw [hi] at hz
    cases hzz : i.zero with
    | none => simp [hzz] at hz
    | some z => simp [hzz] at hz; exact ⟨z, rfl, hz⟩
  obtain ⟨z, hzi, hzz⟩ := hzi
  have hzs : z.cells.size = sz := by rw [← hzl, ← hzz, absL_length]; simp
  generalize hCe : grownCap w (n + k) c e = C
  have hC : n + k ≤ C := by rw [← hCe]; simp [grownCap, Question.cut]
  unfold grownCap at hCe
  refine ⟨C, ?_⟩
  have hrl : (Builtin.zeroCells z.cells (C - (n + k))).toList.length = (C - (n + k)) * sz := by simp [Builtin.zeroCells, hzs]
  rcases hn.alike with ⟨d, hx, hne, hlen, hfc⟩ | ⟨kk, z', hx, rfl, hk, hz', hrel⟩
  · obtain ⟨ys, r1, r2⟩ := hfc w.drew rfl rfl rfl rfl
    refine ⟨ys, (Builtin.zeroCells z.cells (C - (n + k))).toList, hC, r2, hrl, ?_⟩
    have e0 : (olds ++ ys ++ (Builtin.zeroCells z.cells (C - (n + k))).toList).toArray = olds.toArray ++ (ys.toArray ++ Builtin.zeroCells z.cells (C - (n + k))) := by simp
    rw [e0]
    rcases hne with rfl | ⟨e', rfl⟩
    · simp [Builtin.append_, run_underlying hd, run_underlying hx, sizeA_run hs, hlen, hnr, h63, h48, run_typeInfo hi, zeroValue, hzi, Question.forced, holds, r1, newRow, hCe]
    · simp [Builtin.append_, run_underlying hd, run_underlying hx, sizeA_run hs, hlen, hnr, h63, h48, run_typeInfo hi, zeroValue, hzi, Question.forced, holds, r1, newRow, hCe]
  · have hzz' : z' = z := by rw [hi] at hz'; simp [hzi] at hz'; exact hz'.symm
    subst hzz'
    refine ⟨(Builtin.zeroCells z'.cells k).toList, (Builtin.zeroCells z'.cells (C - (n + k))).toList, hC, hrel, hrl, ?_⟩
    have e0 : (olds ++ (Builtin.zeroCells z'.cells k).toList ++ (Builtin.zeroCells z'.cells (C - (n + k))).toList).toArray = olds.toArray ++ (Builtin.zeroCells z'.cells k ++ Builtin.zeroCells z'.cells (C - (n + k))) := by simp
    rw [e0]
    have hwk := wrap_small (n := (k : Int)) (by omega) (by omega)
    have hk0 : ¬ ((k : Int) < 0) := by omega
    have hkb : ¬ (281474976710656 < (k : Int) * (i.bytes : Int)) := by
      have h1 : k * i.bytes ≤ (n + k) * i.bytes := Nat.mul_le_mul_right _ (by omega)
      have h2 : ((k * i.bytes : Nat) : Int) ≤ 140737488355328 := by omega
      rw [Int.natCast_mul] at h2
      omega
    by_cases hks : k * sz = 0
    · have hzc : Builtin.zeroCells z'.cells k = #[] := by
        apply Array.eq_empty_of_size_eq_zero
        simp [Builtin.zeroCells, hzs, hks]
      rw [hzc]
      simp [Builtin.append_, run_underlying hd, run_underlying hx, sizeA_run hs, asInt, asIntOf, hwk, hk0, hkb, hnr, h63, h48, run_typeInfo hi, zeroValue, hzi, Question.forced, holds, hks, newRow, hCe]
    · simp [Builtin.append_, run_underlying hd, run_underlying hx, sizeA_run hs, asInt, asIntOf, hwk, hk0, hkb, hnr, h63, h48, run_typeInfo hi, zeroValue, hzi, Question.forced, holds, hks, newRow, hCe]
theorem append_new (h : Rep w0 ι H w) {e : TypeId} {sz n C : Nat} {l news : List AV} {olds ys rest : List Value} (hl : RVL w0.heap.size ι l olds) (hy : RVL w0.heap.size ι news ys) (hlen : olds.length + ys.length = n * sz) (hC : n ≤ C) (hr : rest.length = (C - n) * sz) :
    ∃ ι', Rep w0 ι' (H.push (some (.cells (l ++ news)))) (w.drew.alloc (.cells (olds ++ ys ++ rest).toArray e)) ∧ Ext ι H w ι' (H.push (some (.cells (l ++ news)))) (w.drew.alloc (.cells (olds ++ ys ++ rest).toArray e)) ∧
      RV w0.heap.size ι' (.slice ⟨false, H.n, 0⟩ n (.grow sz)) (.slice (some ⟨w.heap.size, 0, none⟩) n C) := by
  obtain ⟨hd1, hd2⟩ := h.drew
  have hcat := RVL.append hl hy
  have hsize : (olds ++ ys ++ rest).toArray.size = C * sz := by
    simp only [List.size_toArray, List.length_append, hr]
    rw [hlen, ← Nat.add_mul]; congr 1; omega
  have hll : (l ++ news).length = n * sz := by rw [← hlen, ← hcat.length]; simp
  obtain ⟨hR, hE⟩ := hd1.push (l := l ++ news) (cs := (olds ++ ys ++ rest).toArray) e (by rw [hll, hsize]; exact Nat.mul_le_mul_right _ hC) (fun k v hk => by
    obtain ⟨x, g1, g2⟩ := hcat.get hk
    have := lt_of_get g1
    exact ⟨x, by simp only [List.getElem?_toArray]; rw [List.getElem?_append_left this]; exact g1, g2⟩)
  refine ⟨_, hR, hd2.trans hE, ?_⟩
  unfold RV RSlice
  simp only [Bool.false_eq_true, if_false]
  have hn : (ι ++ [Loc.at w.drew.heap.size 0 (olds ++ ys ++ rest).toArray.size])[H.n]? = some (.at w.drew.heap.size 0 (olds ++ ys ++ rest).toArray.size) := by
    unfold AH.n; rw [← h.len]; simp
  rw [hn]
  exact .inl ⟨C, hC, by rw [hsize]; omega, rfl⟩
theorem push_nil_slice (h : Rep w0 ι H w) {sz : Nat} (q : Option Addr) :
    ∃ ι', Rep w0 ι' (H.push (some (.cells []))) w ∧ Ext ι H w ι' (H.push (some (.cells []))) w ∧ RV w0.heap.size ι' (.slice ⟨false, H.n, 0⟩ 0 (.grow sz)) (.slice q 0 0) := by
  obtain ⟨hR, hE⟩ := h.pushNil
  refine ⟨_, hR, hE, ?_⟩
  unfold RV RSlice
  simp only [Bool.false_eq_true, if_false]
  have hn : (ι ++ [Loc.nil])[H.n]? = some .nil := by unfold AH.n; rw [← h.len]; simp
  rw [hn]
  exact ⟨by simp, ⟨q, rfl⟩, sz, rfl⟩
theorem firstCells_zero (sz : Nat) (q : Option Addr) (n c : Nat) (h : n * sz = 0) (w : World) : (Builtin.firstCells sz n (.slice q n c)).run P w = .ok #[] w := by
  cases q with
  | none => rfl
  | some a => simp [Builtin.firstCells, h, loadCells, loadCellsFrom]
theorem append_empty (h : Rep w0 ι H w) {st xt e : TypeId} {sz bytes k : Nat} {u : Value} {news : List AV} (hd : P.underlying st = some (.slice e)) (hs : sizeA P e = some sz) (hb : bytesA P e = some bytes) {zero : List AV} (hz : zeroA P e = some zero) (hzl : zero.length = sz)
    (hn : NewsOk P w0 ι H w e xt sz u k news) (ty : TypeId) (q : Option Addr) (hmax : k ≤ 140737488355328) (hbytes : k * bytes ≤ 140737488355328) :
    ∃ z w' ι', (Builtin.append_ #[st, xt] ty #[.slice q 0 0, u]).run P w = .ok z w' ∧ RV w0.heap.size ι' (.slice ⟨false, H.n, 0⟩ k (.grow sz)) z ∧ Rep w0 ι' (H.push (some (.cells news))) w' ∧ Ext ι H w ι' (H.push (some (.cells news))) w' := by
  by_cases hk : k = 0
  · subst hk
    have hl := news_nil hn
    obtain ⟨ι', g1, g2, g3⟩ := push_nil_slice h (sz := sz) q
    rw [hl]
    exact ⟨_, w, ι', append_stays hd hs hn ty q 0 0 (Nat.le_refl _), g3, g1, g2⟩
  · obtain ⟨C, ys, rest, hC, hy, hr, hrun⟩ := append_grows hd hs hb hz hzl hn ty q 0 0 (by omega) (by omega) (by simpa using hbytes) [] (firstCells_zero sz q 0 0 (by simp) _)
    simp only [Nat.zero_add] at hC hr hrun
    have hyl : ys.length = k * sz := by rw [hy.length, hn.len]
    obtain ⟨ι', g1, g2, g3⟩ := append_new (l := []) (news := news) (olds := []) h (e := e) (by unfold RVL; rfl) hy (by simpa using hyl) hC hr
    exact ⟨_, _, ι', hrun, g3, g1, g2⟩
end Go.Abs
set_option linter.unusedVariables false
set_option linter.unusedSimpArgs false
namespace Go.Abs
open Go Go.RowKit
variable {P : Program} {w0 w : World} {ι : List Loc} {H : AH}
theorem NewsOk.ext {e xt : TypeId} {sz k : Nat} {u : Value} {news : List AV} (hn : NewsOk P w0 ι H w e xt sz u k news) {ι' : List Loc} (H' : AH) (hle : LocLe ι ι') : NewsOk P w0 ι' H' w e xt sz u k news := by
  refine ⟨hn.len, ?_⟩
  rcases hn.alike with ⟨d, hx, hne, hlen, hfc⟩ | ⟨kk, z, hx, hu, hk, hz, hrel⟩
  · exact .inl ⟨d, hx, hne, hlen, fun w' a b c d' => let ⟨ys, r1, r2⟩ := hfc w' a b c d'; ⟨ys, r1, RVL.ext hle _ r2⟩⟩
  · exact .inr ⟨kk, z, hx, hu, hk, hz, RVL.ext hle _ hrel⟩
theorem set_push_n (H : AH) (i : Nat) (b : Option ABlk) : (H.set i b).n = H.n := by simp [AH.n, AH.set]
theorem appendTo0_run (h : Rep w0 ι H w) {st xt ty e : TypeId} {sz bytes k : Nat} {news : List AV} {s v : AV} {H' : AH} (ha : appendTo0 sz bytes H k news s = some (v, H')) {us u : Value} (hs : RV w0.heap.size ι s us)
    (hd : P.underlying st = some (.slice e)) (hsz : sizeA P e = some sz) (hby : bytesA P e = some bytes) {zero : List AV} (hz : zeroA P e = some zero) (hzl : zero.length = sz) (hpos : 0 < sz) (hn : NewsOk P w0 ι H w e xt sz u k news) (hone : news.all oneA = true) :
    ∃ z w' ι', (Builtin.append_ #[st, xt] ty #[us, u]).run P w = .ok z w' ∧ RV w0.heap.size ι' v z ∧ Rep w0 ι' H' w' ∧ Ext ι H w ι' H' w' := by
  cases s with
  | nilslice =>
    simp only [appendTo0] at ha
    split at ha
    · rename_i hb
      injection ha with ha
      injection ha with e1 e2
      subst e1 e2
      unfold RV at hs
      subst hs
      exact append_empty h hd hsz hby hz hzl hn ty none hb.1 hb.2
    · cases ha
  | slice a n c =>
    cases c with
    | grow sz' =>
      simp only [appendTo0] at ha
      split at ha
      · rename_i hb
        obtain ⟨rfl, hro, hmax, hbytes⟩ := hb
        cases hc : H.cells? a.blk with
        | none => rw [hc] at ha; cases ha
        | some l =>
        rw [hc] at ha
        simp only [Option.bind_some] at ha
        split at ha
        · rename_i htip
          injection ha with ha
          injection ha with e1 e2
          subst e1 e2
          have hrw := cells?_some hc
          have hro' : ¬ a.ro = true := by rw [hro]; simp
          have hget : H.get a = some l := by unfold AH.get; rw [if_neg hro']; exact hc
          unfold RV at hs
          have hs0 := hs
          unfold RSlice at hs
          rw [if_neg hro'] at hs
          have hll : (l.drop a.off).length = n * sz' := by simp; omega
          have kgrow : ∀ (q : Option Addr) (c : Nat) (olds : List Value), us = .slice q n c → ι[a.blk]? ≠ some .pend → c < n + k → (Builtin.firstCells sz' n (.slice q n c)).run P w.drew = .ok olds.toArray w.drew → RVL w0.heap.size ι (l.drop a.off) olds →
              ∃ z w' ι', (Builtin.append_ #[st, xt] ty #[us, u]).run P w = .ok z w' ∧ RV w0.heap.size ι' (.slice ⟨false, H.n, 0⟩ (n + k) (.grow sz')) z ∧ Rep w0 ι' ((H.set a.blk none).push (some (.cells (l.drop a.off ++ news)))) w' ∧
                Ext ι H w ι' ((H.set a.blk none).push (some (.cells (l.drop a.off ++ news)))) w' := fun q c olds hq hnp hc hf ho => by
            subst hq
            obtain ⟨C, ys, rest, hC, hy, hr, hrun⟩ := append_grows hd hsz hby hz hzl hn ty q n c hc hmax hbytes olds hf
            obtain ⟨hR, hE⟩ := h.kill hnp
            have hyl : ys.length = k * sz' := by rw [hy.length, hn.len]
            have hol : olds.length = n * sz' := by rw [ho.length, hll]
            obtain ⟨ι', g1, g2, g3⟩ := append_new (l := l.drop a.off) (news := news) hR (e := e) (RVL.ext hE.le _ ho) (RVL.ext hE.le _ hy) (by rw [hol, hyl, Nat.add_mul]) hC hr
            rw [set_push_n] at g3
            exact ⟨_, _, ι', hrun, g3, g1, hE.trans g2⟩
          have kempty : ∀ q : Option Addr, us = .slice q 0 0 → n = 0 → ι[a.blk]? ≠ some .pend →
              ∃ z w' ι', (Builtin.append_ #[st, xt] ty #[us, u]).run P w = .ok z w' ∧ RV w0.heap.size ι' (.slice ⟨false, H.n, 0⟩ (n + k) (.grow sz')) z ∧ Rep w0 ι' ((H.set a.blk none).push (some (.cells (l.drop a.off ++ news)))) w' ∧
                Ext ι H w ι' ((H.set a.blk none).push (some (.cells (l.drop a.off ++ news)))) w' := fun q hq hn0 hnp => by
            subst hn0
            have hld : l.drop a.off = [] := by rw [List.drop_eq_nil_iff]; omega
            rw [hld, List.nil_append, Nat.zero_add]
            obtain ⟨hR, hE⟩ := h.kill hnp
            obtain ⟨z, w', ι', g1, g2, g3, g4⟩ := append_empty hR hd hsz hby hz hzl (hn.ext (H.set a.blk none) hE.le) ty q (by omega) (by simpa using hbytes)
            rw [set_push_n] at g2
            exact ⟨z, w', ι', by rw [hq]; exact g1, g2, g3, hE.trans g4⟩
          cases hι : ι[a.blk]? with
          | none => rw [hι] at hs; exact hs.elim
          | some L =>
            rw [hι] at hs
            cases L with
            | pend => exact hs.elim
            | dead =>
              rcases h.blk _ _ hrw with g1 | ⟨g1, _⟩ | ⟨B, O, m, g1, _⟩ <;> (rw [hι] at g1; cases g1)
            | nil =>
              obtain ⟨hn0, ⟨q, hq⟩, _⟩ := hs
              exact kempty q hq hn0 (by rw [hι]; simp)
            | «at» B O m =>
              rcases hs with ⟨C, hnC, hroom, hs⟩ | ⟨hn0, p, hs⟩
              · by_cases hfit : n + k ≤ C
                ·
                  subst hs
                  have hfin : ∀ (ys : List Value), RVL w0.heap.size ι news ys → ∃ w', (storeCells ⟨B, O + (a.off + n * sz'), none⟩ ys).run P w = .ok () w' ∧ ∃ ι', RV w0.heap.size ι' (.slice ⟨false, H.n, 0⟩ (n + k) (.grow sz')) (.slice (some ⟨B, O + a.off, none⟩) (n + k) C) ∧
                      Rep w0 ι' ((H.set a.blk none).push (some (.cells (l.drop a.off ++ news)))) w' ∧ Ext ι H w ι' ((H.set a.blk none).push (some (.cells (l.drop a.off ++ news)))) w' := fun ys hy => by
                    have hmul : (n + k) * sz' ≤ C * sz' := Nat.mul_le_mul_right _ hfit
                    rw [Nat.add_mul] at hmul
                    have hnl := hn.len
                    obtain ⟨w', r1, r2, r3⟩ := extendCells_run (P := P) news ys (i := a.blk) (o := a.off + n * sz') (k := 0) h hrw hι (by omega) (by omega) hone hy
                    have hlt := lt_of_get hrw
                    obtain ⟨g1, g2⟩ := r2.rename a.off (i := a.blk) (l := l ++ news) (by simp [AH.set, hlt]) hι (by simp; omega)
                    have e1 : (H.set a.blk (some (.cells (l ++ news)))).set a.blk none = H.set a.blk none := by simp [AH.set]
                    have e2 : (l ++ news).drop a.off = l.drop a.off ++ news := by rw [List.drop_append_of_le_length (by omega)]
                    rw [e1, e2] at g1 g2
                    refine ⟨w', r1, _, ?_, g1, r3.trans g2⟩
                    unfold RV RSlice
                    simp only [Bool.false_eq_true, if_false]
                    have hnn : (ι.set a.blk Loc.dead ++ [Loc.at B (O + a.off) (m - a.off)])[H.n]? = some (.at B (O + a.off) (m - a.off)) := by
                      have : (ι.set a.blk Loc.dead).length = H.n := by simp [AH.n, h.len]
                      rw [← this]; simp
                    rw [hnn]
                    refine .inl ⟨C, hfit, by omega, by simp⟩
                  rcases hn.alike with ⟨d, hx, hne, hlen, hfc⟩ | ⟨kk, z, hx, rfl, hk, hzz, hrel⟩
                  · obtain ⟨ys, f1, f2⟩ := hfc w rfl rfl rfl rfl
                    obtain ⟨w', r1, ι', r2, r3, r4⟩ := hfin ys f2
                    refine ⟨_, w', ι', ?_, r2, r3, r4⟩
                    rcases hne with rfl | ⟨e', rfl⟩ <;> simp [Builtin.append_, run_underlying hd, run_underlying hx, sizeA_run hsz, hlen, hfit, f1, Addr.add_lit, Nat.add_assoc, r1]
                  · obtain ⟨w', r1, ι', r2, r3, r4⟩ := hfin _ hrel
                    refine ⟨_, w', ι', ?_, r2, r3, r4⟩
                    obtain ⟨i, hi, hib⟩ := bytesA_run hby
                    have hzi : i.zero = some z := by rw [hi] at hzz; simpa using hzz
                    have hwk := wrap_small (n := (k : Int)) (by omega) (by omega)
                    have hk0 : ¬ ((k : Int) < 0) := by omega
                    have hkb : ¬ (281474976710656 < (k : Int) * (i.bytes : Int)) := by
                      have h1 : k * i.bytes ≤ (n + k) * i.bytes := Nat.mul_le_mul_right _ (by omega)
                      have h2 : ((k * i.bytes : Nat) : Int) ≤ 140737488355328 := by rw [hib] at h1 ⊢; omega
                      rw [Int.natCast_mul] at h2
                      omega
                    by_cases hks : k * sz' = 0
                    · have hzc : Builtin.zeroCells z.cells k = #[] := by
                        apply Array.eq_empty_of_size_eq_zero
                        have := hrel.length
                        rw [hn.len, hks] at this
                        simpa using this
                      rw [hzc] at r1
                      simp [Builtin.append_, run_underlying hd, run_underlying hx, sizeA_run hsz, asInt, asIntOf, hwk, hk0, hkb, hfit, run_typeInfo hi, hks, Addr.add_lit, Nat.add_assoc] at r1 ⊢
                      simp [r1]
                    · simp [Builtin.append_, run_underlying hd, run_underlying hx, sizeA_run hsz, asInt, asIntOf, hwk, hk0, hkb, hfit, run_typeInfo hi, zeroValue, hzi, hks, Addr.add_lit, Nat.add_assoc, r1]
                ·
                  obtain ⟨q, C', hq, hcells⟩ := h.drew.1.at_slice hs0 hget
                  rw [hs] at hq
                  injection hq with q1 q2 q3
                  subst q1 q3
                  by_cases hn0 : n * sz' = 0
                  · refine kgrow _ C [] hs (by rw [hι]; simp) (by omega) (firstCells_zero sz' _ n C hn0 _) ?_
                    have : l.drop a.off = [] := List.eq_nil_of_length_eq_zero (by rw [hll, hn0])
                    rw [this]; unfold RVL; rfl
                  · rcases hcells with hc0 | ⟨ad, had, _, hcells⟩
                    · rw [hc0] at hn0; simp at hn0
                    · obtain ⟨ys, y1, y2, _⟩ := run_load_row (P := P) (w := w.drew) (w0 := w0) (ι := ι) (ad := ad) (cs := l.drop a.off) (n * sz') (by omega) (fun j x hx => hcells j x (by rwa [List.getElem?_drop] at hx))
                      rw [← hll, List.take_length] at y2
                      rw [had] at hs
                      exact kgrow _ C ys hs (by rw [hι]; simp) (by omega) (by simpa [Builtin.firstCells] using y1) y2
              · exact kempty (some p) hs hn0 (by rw [hι]; simp)
        · cases ha
      · cases ha
    | known c =>
      simp only [appendTo0] at ha
      split at ha
      · rename_i hb
        obtain ⟨hmax, hbytes, hnc⟩ := hb
        unfold RV at hs
        have hval : ∃ q, us = .slice q n c := by
          unfold RSlice at hs
          split at hs
          · obtain ⟨c', hc', hnc', ⟨_, hs⟩ | ⟨hc0, p, hs⟩⟩ := hs
            · injection hc' with hc'; subst hc'; exact ⟨_, hs⟩
            · injection hc' with hc'
              have : n = 0 := by omega
              rw [hc', hc0, this]; exact ⟨_, hs⟩
          · split at hs
            · obtain ⟨_, hs | ⟨hc0, p, hs⟩⟩ := hs
              · exact ⟨_, hs⟩
              · have : n = 0 := by omega
                rw [hc0, this]; exact ⟨_, hs⟩
            · obtain ⟨_, _, sz', hc⟩ := hs; cases hc
            · obtain ⟨q, C, hs, _, _, h2⟩ := hs; obtain ⟨h3, _⟩ := h2 c rfl; subst h3; exact ⟨_, hs⟩
            · exact hs.elim
        obtain ⟨q, hq⟩ := hval
        split at ha
        · rename_i hc0
          injection ha with ha
          injection ha with e1 e2
          subst e1 e2 hc0
          have hn0 : n = 0 := by omega
          subst hn0 hq
          exact append_empty h hd hsz hby hz hzl hn ty q (by omega) (by simpa using hbytes)
        · split at ha
          · rename_i hk0
            injection ha with ha
            injection ha with e1 e2
            subst e1 e2 hk0
            refine ⟨us, w, ι, by rw [hq]; exact append_stays hd hsz hn ty q n c hnc, by unfold RV; exact hs, h, Ext.refl _ _ _⟩
          · split at ha
            · rename_i hgr
              cases hg : H.get a with
              | none => rw [hg] at ha; cases ha
              | some l =>
                rw [hg] at ha
                simp only [Option.bind_some] at ha
                split at ha
                · rename_i hle
                  injection ha with ha
                  injection ha with e1 e2
                  subst e1 e2
                  obtain ⟨q', C', hq', hcells⟩ := h.drew.1.at_slice hs hg
                  rw [hq] at hq'
                  injection hq' with q1 q2 q3
                  subst q1 q3
                  have hll : ((l.drop a.off).take (n * sz)).length = n * sz := by simp; omega
                  have holds : ∃ olds : List Value, (Builtin.firstCells sz n (.slice q n c)).run P w.drew = .ok olds.toArray w.drew ∧ RVL w0.heap.size ι ((l.drop a.off).take (n * sz)) olds := by
                    by_cases hn0 : n * sz = 0
                    · exact ⟨[], firstCells_zero sz _ n c hn0 _, by rw [hn0, List.take_zero]; unfold RVL; rfl⟩
                    · rcases hcells with hc0 | ⟨ad, had, _, hcells⟩
                      · rw [hc0] at hn0; simp at hn0
                      · obtain ⟨ys, y1, y2, _⟩ := run_load_row (P := P) (w := w.drew) (w0 := w0) (ι := ι) (ad := ad) (cs := l.drop a.off) (n * sz) (by simp; omega) (fun j x hx => hcells j x (by rwa [List.getElem?_drop] at hx))
                        exact ⟨ys, by rw [had]; simpa [Builtin.firstCells] using y1, y2⟩
                  obtain ⟨olds, ho1, ho2⟩ := holds
                  subst hq
                  obtain ⟨C, ys, rest, hC, hy, hr, hrun⟩ := append_grows hd hsz hby hz hzl hn ty q n c hgr hmax hbytes olds ho1
                  have hyl : ys.length = k * sz := by rw [hy.length, hn.len]
                  have hol : olds.length = n * sz := by rw [ho2.length, hll]
                  obtain ⟨ι', g1, g2, g3⟩ := append_new (news := news) h (e := e) ho2 hy (by rw [hol, hyl, Nat.add_mul]) hC hr
                  exact ⟨_, _, ι', hrun, g3, g1, g2⟩
                · cases ha
            · cases ha
      · cases ha
  | _ => simp only [appendTo0] at ha; cases ha
theorem Rep.trim (h : Rep w0 ι H w) {i j : Nat} {l : List AV} (hc : H.cells? i = some l) : Rep w0 ι (H.set i (some (.cells (l.take j)))) w where
  below := h.below
  ro := h.ro
  len := by rw [h.len]; simp [AH.set]
  blk k l' hk := by
    simp only [AH.set, List.getElem?_set] at hk
    split at hk
    · rename_i e
      subst e
      split at hk
      · injection hk with hk; injection hk with hk; injection hk with hk
        subst hk
        rcases h.blk i l (cells?_some hc) with g | ⟨g1, rfl⟩ | ⟨B, O, m, g1, g2⟩
        · exact .inl g
        · exact .inr (.inl ⟨g1, by simp⟩)
        · refine .inr (.inr ⟨B, O, m, g1, ⟨?_, g2.high⟩⟩)
          obtain ⟨cs, e, fz, k1, k2, k3, k4⟩ := g2.cells
          refine ⟨cs, e, fz, k1, k2, by simp only [List.length_take]; omega, fun k v hv => ?_⟩
          rw [List.getElem?_take] at hv
          split at hv
          · exact k4 k v hv
          · cases hv
      · cases hk
    · exact h.blk k l' hk
  nomap k es hk := by
    simp only [AH.set, List.getElem?_set] at hk
    split at hk
    · split at hk
      · cases hk
      · cases hk
    · exact h.nomap k es hk
  gone k hk := by
    simp only [AH.set, List.getElem?_set] at hk
    split at hk
    · split at hk
      · cases hk
      · cases hk
    · exact h.gone k hk
  inj := h.inj
  locs := h.locs
theorem appendTo_run (h : Rep w0 ι H w) {st xt ty e : TypeId} {sz bytes k : Nat} {news : List AV} {s v : AV} {H' : AH} (ha : appendTo sz bytes H k news s = some (v, H')) {us u : Value} (hs : RV w0.heap.size ι s us)
    (hd : P.underlying st = some (.slice e)) (hsz : sizeA P e = some sz) (hby : bytesA P e = some bytes) {zero : List AV} (hz : zeroA P e = some zero) (hzl : zero.length = sz) (hpos : 0 < sz) (hn : NewsOk P w0 ι H w e xt sz u k news) (hone : news.all oneA = true) :
    ∃ z w' ι', (Builtin.append_ #[st, xt] ty #[us, u]).run P w = .ok z w' ∧ RV w0.heap.size ι' v z ∧ Rep w0 ι' H' w' ∧ Ext ι H w ι' H' w' := by
  have plain : trimA H sz s = H → ∃ z w' ι', (Builtin.append_ #[st, xt] ty #[us, u]).run P w = .ok z w' ∧ RV w0.heap.size ι' v z ∧ Rep w0 ι' H' w' ∧ Ext ι H w ι' H' w' := fun e => by
    unfold appendTo at ha
    rw [e] at ha
    exact appendTo0_run h ha hs hd hsz hby hz hzl hpos hn hone
  cases s with
  | slice a n c =>
    cases c with
    | known c => exact plain rfl
    | grow sz' =>
      cases hc : H.cells? a.blk with
      | none => exact plain (by simp only [trimA, hc])
      | some l =>
        by_cases ht : a.off + n * sz < l.length
        · have e : trimA H sz (.slice a n (.grow sz')) = H.set a.blk (some (.cells (l.take (a.off + n * sz)))) := by simp only [trimA, hc, if_pos ht]
          unfold appendTo at ha
          rw [e] at ha
          obtain ⟨z, w', ι', g1, g2, g3, g4⟩ := appendTo0_run (h.trim hc) ha hs hd hsz hby hz hzl hpos (hn.ext _ (LocLe.refl ι)) hone
          refine ⟨z, w', ι', g1, g2, g3, ⟨g4.ro, g4.len, g4.loc, fun i hi => ?_, g4.size, g4.frame, g4.img, fun i hi => g4.mark i (.inr hi), g4.still⟩⟩
          have hp := g4.pend i hi
          by_cases hib : i = a.blk
          · subst hib
            exfalso
            have hlt : a.blk < H.rw.length := by
              have := cells?_some hc
              exact (List.getElem?_eq_some_iff.1 this).1
            have h2 : (H.set a.blk (some (.cells (l.take (a.off + n * sz))))).rw[a.blk]? = some (some (.cells (l.take (a.off + n * sz)))) := by simp [AH.set, hlt]
            rw [h2] at hp
            simp only [appendTo0] at ha
            split at ha
            · obtain ⟨l2, _, ha⟩ := Option.bind_eq_some_iff.1 ha
              split at ha
              · injection ha with ha
                injection ha with _ ha
                rw [← ha] at hp
                simp only [AH.set, AH.push, List.set_set] at hp
                rw [List.getElem?_append_left (by simpa using hlt)] at hp
                simp [hlt] at hp
              · cases ha
            · cases ha
          · rw [hp]
            simp only [AH.set]
            rw [List.getElem?_set, if_neg (fun e => hib e.symm)]
        · exact plain (by simp only [trimA, hc, if_neg ht])
  | _ => exact plain rfl
theorem appendA_run (h : Rep w0 ι H w) {st xt ty : TypeId} {s x v : AV} {H' : AH} (ha : appendA P st xt s x H = some (v, H')) {us u : Value} (hs : RV w0.heap.size ι s us) (hu : RV w0.heap.size ι x u) :
    ∃ z w' ι', (Builtin.append_ #[st, xt] ty #[us, u]).run P w = .ok z w' ∧ RV w0.heap.size ι' v z ∧ Rep w0 ι' H' w' ∧ Ext ι H w ι' H' w' := by
  unfold appendA at ha
  split at ha
  · rename_i e hd
    obtain ⟨sz, hsz, ha⟩ := Option.bind_eq_some_iff.1 ha
    obtain ⟨bytes, hby, ha⟩ := Option.bind_eq_some_iff.1 ha
    obtain ⟨zero, hz, ha⟩ := Option.bind_eq_some_iff.1 ha
    split at ha
    · rename_i hh
      obtain ⟨hzl, hpos⟩ := hh
      obtain ⟨kn, hkn, ha⟩ := Option.bind_eq_some_iff.1 ha
      split at ha
      · rename_i hone
        exact appendTo_run h ha hs hd hsz hby hz hzl hpos (newsOk_of h hz hzl hpos hu hkn) hone
      · cases ha
    · cases ha
  · cases ha
end Go.Abs
set_option linter.unusedVariables false
set_option linter.unusedSimpArgs false
namespace Go.Abs
open Go Go.RowKit
variable {P : Program} {w0 w : World} {ι : List Loc} {H : AH}
theorem copyA_run (h : Rep w0 ι H w) {dt st ty : TypeId} {d x v : AV} {H' : AH} (hc : copyA P dt d x H = some (v, H')) {ud u : Value} (hd' : RV w0.heap.size ι d ud) (hu : RV w0.heap.size ι x u) :
    ∃ z w', (Builtin.copy_ #[dt, st] ty #[ud, u]).run P w = .ok z w' ∧ RV w0.heap.size ι v z ∧ Rep w0 ι H' w' ∧ Ext ι H w ι H' w' := by
  unfold copyA at hc
  split at hc
  · rename_i e hd
    obtain ⟨sz, hsz, hc⟩ := Option.bind_eq_some_iff.1 hc
    obtain ⟨kn, hkn, hc⟩ := Option.bind_eq_some_iff.1 hc
    obtain ⟨k, cs⟩ := kn
    obtain ⟨r1, r2, r3⟩ := newsA_run (P := P) h hkn hu
    cases d with
    | nilslice =>
      simp only at hc
      injection hc with hc
      injection hc with e1 e2
      subst e1 e2
      unfold RV at hd'
      subst hd'
      obtain ⟨ys, f1, f2⟩ := r3 0 (Nat.zero_le _)
      exact ⟨.int .i64 0, w, by simp [Builtin.copy_, run_underlying hd, r1, sizeA_run hsz, f1, goInt], rfl, h, Ext.refl _ _ _⟩
    | slice a n c =>
      simp only at hc
      split at hc
      · rename_i hro
        obtain ⟨hro, hal⟩ := hro
        obtain ⟨H1, hst, hc⟩ := Option.map_eq_some_iff.1 hc
        injection hc with e1 e2
        subst e1 e2
        obtain ⟨ys, f1, f2⟩ := r3 (min k n) (Nat.min_le_left _ _)
        unfold RV at hd'
        have hs0 := hd'
        unfold RSlice at hd'
        rw [if_neg (by rw [hro]; simp)] at hd'
        have hz : n = 0 → cs.take (min k n * sz) = [] := fun h0 => by rw [h0, Nat.min_zero, Nat.zero_mul, List.take_zero]
        have empty : ∀ q C, ud = .slice q n C → n = 0 → ∃ z w', (Builtin.copy_ #[dt, st] ty #[ud, u]).run P w = .ok z w' ∧ RV w0.heap.size ι (.int .i64 (min k n : Nat)) z ∧ Rep w0 ι H1 w' ∧ Ext ι H w ι H1 w' := fun q C hq hn0 => by
          rw [hz hn0] at hst f2
          simp only [storeCellsA] at hst
          injection hst with hst
          subst hst
          unfold RVL at f2
          subst f2 hn0
          rw [Nat.min_zero] at f1
          refine ⟨.int .i64 0, w, ?_, by rw [Nat.min_zero]; rfl, h, Ext.refl _ _ _⟩
          rw [hq]
          cases q <;> simp [Builtin.copy_, run_underlying hd, r1, sizeA_run hsz, f1, goInt, storeCells]
        have full : ∀ B O m C, ι[a.blk]? = some (.at B O m) → ud = .slice (some ⟨B, O + a.off, none⟩) n C → ∃ z w', (Builtin.copy_ #[dt, st] ty #[ud, u]).run P w = .ok z w' ∧ RV w0.heap.size ι (.int .i64 (min k n : Nat)) z ∧ Rep w0 ι H1 w' ∧ Ext ι H w ι H1 w' := fun B O m C hι hq => by
          obtain ⟨w', g1, g2, g3⟩ := storeCellsA_run (P := P) (cs.take (min k n * sz)) ys (o := a.off) (k := 0) h (by simpa using hst) hι f2
          refine ⟨.int .i64 (min k n : Nat), w', ?_, rfl, g2, g3⟩
          rw [hq]
          have f1' : (Builtin.firstCells sz (Nat.min k n) u).run P w = .ok ys.toArray w := f1
          simp [Builtin.copy_, run_underlying hd, r1, sizeA_run hsz, f1', goInt, g1]
        cases hι : ι[a.blk]? with
        | none => rw [hι] at hd'; exact hd'.elim
        | some L =>
          rw [hι] at hd'
          cases L with
          | pend => exact hd'.elim
          | dead =>
            obtain ⟨l, hl⟩ := Option.isSome_iff_exists.1 hal
            rcases h.blk _ _ (cells?_some hl) with g1 | ⟨g1, _⟩ | ⟨B, O, m, g1, _⟩ <;> (rw [hι] at g1; cases g1)
          | nil =>
            obtain ⟨hn0, ⟨q, hq⟩, _⟩ := hd'
            exact empty q 0 (by rw [hn0]; exact hq) hn0
          | «at» B O m =>
            cases c with
            | known c =>
              obtain ⟨hnc, hq | ⟨hc0, p, hq⟩⟩ := hd'
              · exact full B O m _ hι hq
              · have hn0 : n = 0 := by omega
                exact empty (some p) 0 (by rw [hn0]; exact hq) hn0
            | grow sz' =>
              rcases hd' with ⟨C, _, _, hq⟩ | ⟨hn0, p, hq⟩
              · exact full B O m _ hι hq
              · exact empty (some p) 0 (by rw [hn0]; exact hq) hn0
      · cases hc
    | _ => simp only at hc; cases hc
  · cases hc
theorem clearA_run (h : Rep w0 ι H w) {t ty : TypeId} {x v : AV} {H' : AH} (hc : clearA P t x H = some (v, H')) {u : Value} (hd' : RV w0.heap.size ι x u) :
    ∃ z w', (Builtin.clear_ #[t] ty #[u]).run P w = .ok z w' ∧ RV w0.heap.size ι v z ∧ Rep w0 ι H' w' ∧ Ext ι H w ι H' w' := by
  unfold clearA at hc
  split at hc
  · rename_i e hd
    obtain ⟨zero, hz, hc⟩ := Option.bind_eq_some_iff.1 hc
    have hunit : RV w0.heap.size ι (.tup []) (.tuple #[]) := by unfold RV; exact ⟨#[], rfl, by unfold RVL; rfl⟩
    cases x with
    | nilslice =>
      simp only at hc
      injection hc with hc
      injection hc with e1 e2
      subst e1 e2
      unfold RV at hd'
      subst hd'
      exact ⟨_, w, by simp [Builtin.clear_, run_underlying hd], hunit, h, Ext.refl _ _ _⟩
    | slice a n c =>
      simp only at hc
      unfold RV at hd'
      unfold RSlice at hd'
      split at hc
      · rename_i hn0
        injection hc with hc
        injection hc with e1 e2
        subst e1 e2
        have empty : ∀ q C, u = .slice q 0 C → ∃ z w', (Builtin.clear_ #[t] ty #[u]).run P w = .ok z w' ∧ RV w0.heap.size ι (.tup []) z ∧ Rep w0 ι H w' ∧ Ext ι H w ι H w' := fun q C hq =>
          ⟨_, w, by rw [hq]; cases q <;> simp [Builtin.clear_, run_underlying hd], hunit, h, Ext.refl _ _ _⟩
        subst hn0
        by_cases hro : a.ro = true
        · rw [if_pos hro] at hd'
          obtain ⟨_, _, _, ⟨_, hq⟩ | ⟨_, p, hq⟩⟩ := hd'
          · exact empty _ _ hq
          · exact empty _ _ hq
        · rw [if_neg hro] at hd'
          cases hι : ι[a.blk]? with
          | none => rw [hι] at hd'; exact hd'.elim
          | some L =>
            rw [hι] at hd'
            cases L with
            | pend => exact hd'.elim
            | dead => obtain ⟨q, C, hq, _⟩ := hd'; exact empty q C hq
            | nil =>
              obtain ⟨_, ⟨q, hq⟩, _⟩ := hd'
              exact empty q 0 hq
            | «at» B O m =>
              cases c with
              | known c =>
                obtain ⟨_, hq | ⟨_, p, hq⟩⟩ := hd'
                · exact empty _ _ hq
                · exact empty _ _ hq
              | grow sz' =>
                rcases hd' with ⟨C, _, _, hq⟩ | ⟨_, p, hq⟩
                · exact empty _ _ hq
                · exact empty _ _ hq
      · rename_i hn0
        split at hc
        · rename_i hro
          obtain ⟨⟨hro, hal⟩, hpos⟩ := hro
          obtain ⟨H1, hst, hc⟩ := Option.map_eq_some_iff.1 hc
          injection hc with e1 e2
          subst e1 e2
          obtain ⟨z, hzr, rfl⟩ := zeroA_run hz w
          rw [absL_length] at hpos
          have hrel := zeroCells_rel (ι := ι) (b := w0.heap.size) (z := z) (by simpa using hpos) n
          rw [if_neg (by rw [hro]; simp)] at hd'
          have full : ∀ B O m C, ι[a.blk]? = some (.at B O m) → u = .slice (some ⟨B, O + a.off, none⟩) n C → ∃ z w', (Builtin.clear_ #[t] ty #[u]).run P w = .ok z w' ∧ RV w0.heap.size ι (.tup []) z ∧ Rep w0 ι H1 w' ∧ Ext ι H w ι H1 w' := fun B O m C hι hq => by
            obtain ⟨w', g1, g2, g3⟩ := storeCellsA_run (P := P) (repA (absL 0 z.cells.toList) n) (Builtin.zeroCells z.cells n).toList (o := a.off) (k := 0) h (by simpa using hst) hι hrel
            refine ⟨_, w', ?_, hunit, g2, g3⟩
            rw [hq]
            cases n with
            | zero => exact absurd rfl hn0
            | succ n => simp [Builtin.clear_, run_underlying hd, hzr, g1]
          cases hι : ι[a.blk]? with
          | none => rw [hι] at hd'; exact hd'.elim
          | some L =>
            rw [hι] at hd'
            cases L with
            | pend => exact hd'.elim
            | dead =>
              obtain ⟨l, hl⟩ := Option.isSome_iff_exists.1 hal
              rcases h.blk _ _ (cells?_some hl) with g1 | ⟨g1, _⟩ | ⟨B, O, m, g1, _⟩ <;> (rw [hι] at g1; cases g1)
            | nil =>
              obtain ⟨h0, _⟩ := hd'
              exact absurd h0 hn0
            | «at» B O m =>
              cases c with
              | known c =>
                obtain ⟨hnc, hq | ⟨hc0, p, hq⟩⟩ := hd'
                · exact full B O m _ hι hq
                · omega
              | grow sz' =>
                rcases hd' with ⟨C, _, _, hq⟩ | ⟨h0, p, hq⟩
                · exact full B O m _ hι hq
                · exact absurd h0 hn0
        · cases hc
    | _ => simp only at hc; cases hc
  · cases hc
theorem bytesOfA_nums {b : Nat} : ∀ (cs : List AV) (ys : List Value) {bs : List UInt8}, bytesOfA cs = some bs → RVL b ι cs ys → ∃ ns : List Int, ys = ns.map (Value.int .u8) ∧ bs = ns.map fun n => UInt8.ofNat n.toNat
  | [], ys, bs, h, hy => by
    unfold RVL at hy
    simp only [bytesOfA] at h
    injection h with h
    exact ⟨[], hy, h.symm⟩
  | c :: cs, ys, bs, h, hy => by
    unfold RVL at hy
    obtain ⟨y, ys', rfl, h1, h2⟩ := hy
    simp only [bytesOfA] at h
    obtain ⟨b', hb, h⟩ := Option.bind_eq_some_iff.1 h
    obtain ⟨r, hr, h⟩ := Option.map_eq_some_iff.1 h
    subst h
    obtain ⟨ns, rfl, rfl⟩ := bytesOfA_nums cs ys' hr h2
    have hcn : ∃ n, c = .int .u8 n ∧ b' = UInt8.ofNat n.toNat := by
      unfold byteA at hb
      split at hb
      · injection hb with hb; exact ⟨_, rfl, hb.symm⟩
      · cases hb
    obtain ⟨n, rfl, rfl⟩ := hcn
    unfold RV at h1
    subst h1
    exact ⟨n :: ns, rfl, rfl⟩
theorem bytesToString_run (h : Rep w0 ι H w) {x : AV} {cs : List AV} {bs : List UInt8} (hr : rowA H 1 x = some cs) (hb : bytesOfA cs = some bs) {u : Value} (hu : RV w0.heap.size ι x u) :
    (Conv.bytesToString u).run P w = .ok (.string ⟨bs.toArray⟩) w := by
  obtain ⟨q, C, rfl, hl, hm⟩ := rowA_run (P := P) h hr hu rfl
  obtain ⟨ys, y1, y2, y3⟩ := hm (slen x * 1) (Nat.le_refl _)
  rw [← hl, List.take_length] at y1
  obtain ⟨ns, rfl, rfl⟩ := bytesOfA_nums cs ys hb y1
  cases q with
  | none =>
    have : ns = [] := by have := y3 rfl; simpa using this
    subst this
    rfl
  | some ad =>
    have := y2 ad rfl
    rw [Nat.mul_one] at this
    rw [run_bytesToString w ad (slen x) C ns this, foldl_push_bytes]
    simp [ByteArray.empty, ByteArray.emptyWithCapacity]
    rfl
theorem freeze_other (w : World) (a : Addr) (n B : Nat) (h : B ≠ a.block) : (w.freeze a n).heap[B]? = w.heap[B]? := by
  unfold World.freeze
  split
  · rfl
  · simp [Array.getElem?_modify, Ne.symm h]
theorem freeze_self (w : World) (B o : Nat) {cs : Array Value} {e : TypeId} {fz : Nat × Nat} (h : w.heap[B]? = some (.cells cs e fz)) :
    (w.freeze ⟨B, o, none⟩ 1).heap[B]? = some (.cells cs e (if fz.1 == fz.2 then (o, o + 1) else (min fz.1 o, max fz.2 (o + 1)))) := by
  unfold World.freeze
  have h1 : ¬ (1 = 0) := by omega
  rw [if_neg h1]
  simp only [Array.getElem?_modify, if_true, h, Option.map_some]
theorem freeze_size (w : World) (a : Addr) (n : Nat) : (w.freeze a n).heap.size = w.heap.size := by unfold World.freeze; split <;> simp
theorem Rep.freeze (h : Rep w0 ι H w) {i B O m : Nat} (hι : ι[i]? = some (.at B O m)) {cs : Array Value} {e : TypeId} {fz : Nat × Nat} (hB : w.heap[B]? = some (.cells cs e fz)) :
    Rep w0 ι H (w.freeze ⟨B, cs.size, none⟩ 1) ∧ Ext ι H w ι H (w.freeze ⟨B, cs.size, none⟩ 1) := by
  obtain ⟨hB0, hB1⟩ := h.locs _ _ _ _ hι
  have hself := freeze_self w B cs.size hB
  refine ⟨⟨⟨?_, ?_, ?_, by rw [freeze_size]; exact h.below.size, fun k hk => (freeze_other w _ 1 k (by simp only; omega)).trans (h.below.block k hk)⟩, h.ro, h.len, ?_, h.nomap, h.gone, h.inj, fun j B' O' m' hj => by rw [freeze_size]; exact h.locs j B' O' m' hj⟩,
    ⟨rfl, Nat.le_refl _, LocLe.refl ι, fun _ _ => rfl, by rw [freeze_size]; exact Nat.le_refl _, fun B' _ hn => freeze_other w _ 1 B' (fun e => hn i O m (by rw [e]; exact hι)), fun i B O m hi => .inl ⟨_, _, _, hi⟩, fun _ h => h, fun j B' O' m' hj _ _ => ⟨fun a ha => by
      by_cases he : B' = B
      · subst he
        unfold World.cell?
        rw [ha, hself, hB]
      · exact SameB.of (freeze_other w _ 1 B' he) a ha, hj⟩⟩⟩
  · rw [show (w.freeze ⟨B, cs.size, none⟩ 1).os = w.os by unfold World.freeze; split <;> rfl]; exact h.below.os
  · rw [show (w.freeze ⟨B, cs.size, none⟩ 1).tape = w.tape by unfold World.freeze; split <;> rfl]; exact h.below.tape
  · rw [show (w.freeze ⟨B, cs.size, none⟩ 1).output = w.output by unfold World.freeze; split <;> rfl]; exact h.below.output
  · intro j l hj
    rcases h.blk j l hj with g1 | g1 | ⟨B', O', m', g1, g2⟩
    · exact .inl g1
    · exact .inr (.inl g1)
    · refine .inr (.inr ⟨B', O', m', g1, ?_⟩)
      by_cases e' : B' = B
      · subst e'
        obtain ⟨cs', e2, fz', g3, g4, g5, g6⟩ := g2.cells
        rw [hB] at g3
        injection g3 with g3
        injection g3 with a1 a2 a3
        subst a1 a2 a3
        refine ⟨⟨cs, e, _, hself, g4, g5, g6⟩, fun c' e'' fz'' h' => ?_⟩
        rw [hself] at h'
        injection h' with h'
        injection h' with b1 b2 b3
        rw [← b3]
        have := g2.high _ _ _ hB
        by_cases hq : fz.1 = fz.2
        · right; simp [hq]; omega
        · have hq' : (fz.1 == fz.2) = false := by simpa using hq
          right
          rw [hq']
          simp only [Bool.false_eq_true, if_false]
          omega
      · exact g2.world (freeze_other w _ 1 B' e')
def OkRes (w0 : World) (ι : List Loc) (H : AH) (w : World) (v : AV) (H' : AH) (r : Result Next) : Prop :=
  ∃ w' ι', Rep w0 ι' H' w' ∧ Ext ι H w ι' H' w' ∧ ((∃ cv, r = .ok (.value cv) w' ∧ RV w0.heap.size ι' v cv) ∨ (r = .ok .skip w' ∧ v = .unk))
theorem convertA_run (h : Rep w0 ι H w) {s d : TypeId} {x v : AV} {H' : AH} (hc : convertA P s d x H = some (v, H')) {u : Value} (hu : RV w0.heap.size ι x u) :
    ∃ z w', (convert s d u).run P w = .ok z w' ∧ RV w0.heap.size ι v z ∧ Rep w0 ι H' w' ∧ Ext ι H w ι H' w' := by
  unfold convertA at hc
  split at hc
  · rename_i ds k kk n hs hd
    injection hc with hc
    injection hc with e1 e2
    subst e1 e2
    unfold RV at hu
    subst hu
    exact ⟨.int k (k.wrap n), w, by cases ds <;> simp [convert, run_underlying hs, run_underlying hd, Conv.intToInt], rfl, h, Ext.refl _ _ _⟩
  · rename_i e _ hs hd
    split at hc
    · rename_i he
      obtain ⟨cs, hr, hc⟩ := Option.bind_eq_some_iff.1 hc
      obtain ⟨bs, hb, hc⟩ := Option.map_eq_some_iff.1 hc
      injection hc with e1 e2
      subst e1 e2
      have hrun := bytesToString_run (P := P) h hr hb hu
      obtain ⟨q, C, rfl, _⟩ := rowA_run (P := P) h hr hu rfl
      exact ⟨_, w, by simp [convert, run_underlying hs, run_underlying hd, run_underlying he, hrun]; rfl, by unfold RV; rfl, h, Ext.refl _ _ _⟩
    · cases hc
  · rename_i es e a n c hs hd
    split at hc
    · rename_i hh
      obtain ⟨h1, h2, h3, h4, h5⟩ := hh
      injection hc with hc
      injection hc with e1 e2
      subst e1 e2 h1
      rw [hs] at hd
      injection hd with hd
      injection hd with hd
      subst hd
      have he : P.underlying es = some (.int .u8) := by
        unfold isByteT at h5
        split at h5
        · assumption
        · cases h5
      cases c with
      | grow sz => simp [isKnown] at h4
      | known c =>
        obtain ⟨l, hl⟩ := Option.isSome_iff_exists.1 h3
        have hu0 := hu
        unfold RV RSlice at hu
        rw [if_neg (by rw [h2]; simp)] at hu
        have hc0 : c ≠ 0 := fun e => by rw [e] at h4; simp [isKnown] at h4
        rcases h.blk _ _ (cells?_some hl) with g1 | ⟨g1, _⟩ | ⟨B, O, m, g1, g2⟩
        · rw [g1] at hu; exact hu.elim
        · rw [g1] at hu; obtain ⟨_, _, sz, hcc⟩ := hu; cases hcc
        · rw [g1] at hu
          obtain ⟨hnc, hu | ⟨hc1, _⟩⟩ := hu
          · obtain ⟨cs, e', fz, g3, _⟩ := g2.cells
            obtain ⟨hR, hE⟩ := h.freeze g1 g3
            refine ⟨u, w.freeze ⟨B, cs.size, none⟩ 1, ?_, hu0, hR, hE⟩
            have hsh : w.shape? B = some (e', cs.size) := by simp [World.shape?, g3]
            rw [hu]
            simp [convert, run_underlying hs, run_underlying he, markStringish, hsh]
          · exact absurd hc1 hc0
    · cases hc
  · cases hc
end Go.Abs
set_option linter.unusedVariables false
set_option linter.unusedSimpArgs false
namespace Go.Abs
open Go Go.RowKit
variable {P : Program} {w0 w : World} {ι : List Loc} {H : AH}
theorem OkRes.stay {v : AV} {s : Sem Value} {z : Value} (h : Rep w0 ι H w) (hr : s.run P w = .ok z w) (hv : RV w0.heap.size ι v z) : OkRes w0 ι H w v H ((do pure (.value (← s)) : Sem Next).run P w) :=
  ⟨w, ι, h, Ext.refl _ _ _, .inl ⟨z, by simp [hr], hv⟩⟩
theorem OkRes.val {v : AV} {H' : AH} {s : Sem Value} {z : Value} {w' : World} {ι' : List Loc} (hr : s.run P w = .ok z w') (hv : RV w0.heap.size ι' v z) (h : Rep w0 ι' H' w') (he : Ext ι H w ι' H' w') :
    OkRes w0 ι H w v H' ((do pure (.value (← s)) : Sem Next).run P w) :=
  ⟨w', ι', h, he, .inl ⟨z, by simp [hr], hv⟩⟩
theorem newVal_run (h : Rep w0 ι H w) {l : List AV} {x : Value} (e : TypeId) (hl : RVL w0.heap.size ι l x.cells.toList) :
    ∃ ι', (newVar e x).run P w = .ok ⟨w.heap.size, 0, none⟩ (w.alloc (.cells x.cells e)) ∧ Rep w0 ι' (newA H l).2 (w.alloc (.cells x.cells e)) ∧ Ext ι H w ι' (newA H l).2 (w.alloc (.cells x.cells e)) ∧
      RV w0.heap.size ι' (newA H l).1 (.pointer (some ⟨w.heap.size, 0, none⟩)) := by
  obtain ⟨ι', g1, g2, g3, _⟩ := newA_run h e hl
  exact ⟨ι', by simp [newVar, newRow], g1, g2, by unfold newA RV; exact g3⟩
theorem parts_ok {fr : AFr} {a : Act} (hf : RFr w0.heap.size ι fr a.tmps) (ps : Array (Nat × Operand)) :
    (ps.map fun (i, x) => (i, a.eval x)).toList.length = (ps.toList.map fun p => (p.1, aeval fr p.2)).length ∧
    ∀ (j : Nat) (p : Nat × AV), (ps.toList.map fun p => (p.1, aeval fr p.2))[j]? = some p → ∃ x, (ps.map fun (i, x) => (i, a.eval x)).toList[j]? = some (p.1, x) ∧ RV w0.heap.size ι p.2 x := by
  refine ⟨by simp, fun j p hj => ?_⟩
  rw [List.getElem?_map] at hj
  cases hq : ps.toList[j]? with
  | none => rw [hq] at hj; cases hj
  | some q =>
    rw [hq] at hj
    injection hj with hj
    subst hj
    refine ⟨a.eval q.2, ?_, aeval_ok hf q.2⟩
    rw [Array.toList_map, List.getElem?_map, hq]
    rfl
theorem ops_ok {fr : AFr} {a : Act} (hf : RFr w0.heap.size ι fr a.tmps) : ∀ l : List Operand, RVL w0.heap.size ι (l.map (aeval fr)) (l.map a.eval)
  | [] => by simp [RVL]
  | x :: l => by simp only [List.map_cons, RVL]; exact ⟨_, _, rfl, aeval_ok hf x, ops_ok hf l⟩
theorem opt_ok {fr : AFr} {a : Act} (hf : RFr w0.heap.size ι fr a.tmps) (x : Option Operand) : ROpt w0.heap.size ι (x.map (aeval fr)) (x.map a.eval) := by
  cases x with
  | none => rfl
  | some x => exact ⟨_, rfl, aeval_ok hf x⟩
theorem builtinA_ok (h : Rep w0 ι H w) {b : Builtin} {ts : Array TypeId} {xs : List AV} {v : AV} {H' : AH} (hb : builtinA P b ts.toList xs H = some (v, H')) {ys : Array Value} (hy : RVL w0.heap.size ι xs ys.toList) (ty : TypeId) (cs : Array Bool) :
    OkRes w0 ι H w v H' ((builtin b ts ty cs ys).run P w) := by
  obtain ⟨ts⟩ := ts
  obtain ⟨ys⟩ := ys
  simp only at hb hy
  unfold builtinA at hb
  split at hb
  · rename_i t x
    obtain ⟨v', hl, hb⟩ := Option.map_eq_some_iff.1 hb
    injection hb with e1 e2
    subst e1 e2
    simp only [RVL] at hy
    obtain ⟨y, m, rfl, h1, rfl⟩ := hy
    obtain ⟨z, r1, r2⟩ := lenA_run hl h1 ty w
    exact OkRes.stay h r1 r2
  · rename_i st xt s x
    simp only [RVL] at hy
    obtain ⟨y, m, rfl, h1, y2, m2, rfl, h2, rfl⟩ := hy
    obtain ⟨z, w', ι', r1, r2, r3, r4⟩ := appendA_run (P := P) (ty := ty) h hb h1 h2
    exact OkRes.val r1 r2 r3 r4
  · rename_i dt st d x
    simp only [RVL] at hy
    obtain ⟨y, m, rfl, h1, y2, m2, rfl, h2, rfl⟩ := hy
    obtain ⟨z, w', r1, r2, r3, r4⟩ := copyA_run (P := P) (st := st) (ty := ty) h hb h1 h2
    exact OkRes.val r1 r2 r3 r4
  · rename_i t x
    simp only [RVL] at hy
    obtain ⟨y, m, rfl, h1, rfl⟩ := hy
    obtain ⟨z, w', r1, r2, r3, r4⟩ := clearA_run (P := P) (ty := ty) h hb h1
    exact OkRes.val r1 r2 r3 r4
  · rename_i x l
    obtain ⟨v', hl, hb⟩ := Option.map_eq_some_iff.1 hb
    injection hb with e1 e2
    subst e1 e2
    simp only [RVL] at hy
    obtain ⟨y, m, rfl, h1, h2⟩ := hy
    obtain ⟨z, r1, r2⟩ := foldA_run (P := P) (w := w) (g := Builtin.min2) (fun h a b => min2A_run h a b) l m hl h1 h2
    exact OkRes.stay h (by simpa [Builtin.min_] using r1) r2
  · rename_i x l
    obtain ⟨v', hl, hb⟩ := Option.map_eq_some_iff.1 hb
    injection hb with e1 e2
    subst e1 e2
    simp only [RVL] at hy
    obtain ⟨y, m, rfl, h1, h2⟩ := hy
    obtain ⟨z, r1, r2⟩ := foldA_run (P := P) (w := w) (g := Builtin.max2) (fun h a b => max2A_run h a b) l m hl h1 h2
    exact OkRes.stay h (by simpa [Builtin.max_] using r1) r2
  · cases hb
theorem zeroV_run {t : TypeId} {v : AV} (h : zeroV P t = some v) (b : Nat) (ι : List Loc) (w : World) : ∃ z, (zeroValue t).run P w = .ok z w ∧ RV b ι v z := by
  unfold zeroV at h
  obtain ⟨i, hi, h⟩ := Option.bind_eq_some_iff.1 h
  obtain ⟨z, hz, rfl⟩ := Option.map_eq_some_iff.1 h
  exact ⟨z, by simp [zeroValue, run_typeInfo hi, hz], RV_abs ι (Nat.zero_le _) z⟩
theorem ifaceA_run {t : TypeId} {x v : AV} {y : Value} (h : ifaceA P t x = some v) {b : Nat} {ι : List Loc} (hx : RV b ι x y) (w : World) : ∃ z, (Instr.makeInterface t y).run P w = .ok z w ∧ RV b ι v z := by
  unfold ifaceA at h
  obtain ⟨d, hd, h⟩ := Option.bind_eq_some_iff.1 h
  split at h
  · cases h
  · rename_i hn
    injection h with h; subst h
    refine ⟨.iface t y, ?_, by unfold RV; exact ⟨_, rfl, hx⟩⟩
    cases d <;> first | (exact absurd rfl hn) | simp [Instr.makeInterface, run_underlying hd]
theorem assertA_run {t xt : TypeId} {ok : Bool} {x v : AV} {y : Value} (h : assertA P t ok x = some v) {b : Nat} {ι : List Loc} (hx : RV b ι x y) (w : World) : ∃ z, (Instr.typeAssert y xt t ok).run P w = .ok z w ∧ RV b ι v z := by
  unfold assertA at h
  obtain ⟨d, hd, h⟩ := Option.bind_eq_some_iff.1 h
  split at h
  · cases h
  · rename_i hn
    have hz : ∀ (y : Value), y = .nilIface ∨ (∃ t' u, y = .iface t' u ∧ t' ≠ t) → ok = true → ∀ z, zeroV P t = some z → ∃ q, (Instr.typeAssert y xt t ok).run P w = .ok q w ∧ RV b ι (.tup [z, .bool false]) q := by
      rintro y hy rfl z hz
      obtain ⟨q, h1, h2⟩ := zeroV_run hz b ι w
      refine ⟨.tuple #[q, .bool false], ?_, by unfold RV; exact ⟨_, rfl, by simp only [RVL]; exact ⟨_, _, rfl, h2, _, _, rfl, by unfold RV; rfl, rfl⟩⟩⟩
      rcases hy with rfl | ⟨t', u, rfl, hne⟩
      · cases d <;> first | (exact absurd rfl hn) | simp [Instr.typeAssert, run_underlying hd, h1]
      · cases d <;> first | (exact absurd rfl hn) | simp [Instr.typeAssert, run_underlying hd, h1, hne]
    unfold assertV at h
    split at h
    · rename_i t' u
      unfold RV at hx
      obtain ⟨y', rfl, hy⟩ := hx
      split at h
      · rename_i ht
        subst ht
        injection h with h
        cases ok
        · simp at h; subst h
          refine ⟨y', ?_, hy⟩
          cases d <;> first | (exact absurd rfl hn) | simp [Instr.typeAssert, run_underlying hd]
        · simp at h; subst h
          refine ⟨.tuple #[y', .bool true], ?_, by unfold RV; exact ⟨_, rfl, by simp only [RVL]; exact ⟨_, _, rfl, hy, _, _, rfl, by unfold RV; rfl, rfl⟩⟩⟩
          cases d <;> first | (exact absurd rfl hn) | simp [Instr.typeAssert, run_underlying hd]
      · rename_i ht
        split at h
        · rename_i hok
          obtain ⟨z, h1, rfl⟩ := Option.map_eq_some_iff.1 h
          exact hz _ (.inr ⟨_, _, rfl, ht⟩) hok z h1
        · cases h
    · split at h
      · rename_i hok
        unfold RV at hx
        obtain ⟨z, h1, rfl⟩ := Option.map_eq_some_iff.1 h
        exact hz _ (.inl hx) hok z h1
      · cases h
    · cases h
theorem opA_ok (h : Rep w0 ι H w) {fr : AFr} {a : Act} (hf : RFr w0.heap.size ι fr a.tmps) {o : Oper} {v : AV} {H' : AH} (ho : opA P fr H o.op = some (v, H')) : OkRes w0 ι H w v H' ((execOp a.eval o).run P w) := by
  obtain ⟨dst, op, type, pos, after, guard⟩ := o
  simp only at ho
  cases op with
  | move x => simp only [opA] at ho; injection ho with ho; injection ho with e1 e2; subst e1 e2; exact ⟨w, ι, h, Ext.refl _ _ _, .inl ⟨a.eval x, rfl, aeval_ok hf x⟩⟩
  | assign x => simp only [opA] at ho; injection ho with ho; injection ho with e1 e2; subst e1 e2; exact ⟨w, ι, h, Ext.refl _ _ _, .inl ⟨a.eval x, rfl, aeval_ok hf x⟩⟩
  | pick c x y =>
    simp only [opA] at ho
    split at ho
    · rename_i t ht
      injection ho with ho; injection ho with e1 e2; subst e1 e2
      have hc := aeval_ok hf c
      rw [ht] at hc
      unfold RV at hc
      refine ⟨w, ι, h, Ext.refl _ _ _, .inl ⟨if t then a.eval x else a.eval y, by simp [execOp, hc, asBool], ?_⟩⟩
      cases t
      · exact aeval_ok hf y
      · exact aeval_ok hf x
    · cases ho
  | alloc t =>
    simp only [opA] at ho
    obtain ⟨z, hz, ho⟩ := Option.map_eq_some_iff.1 ho
    obtain ⟨zv, hzr, rfl⟩ := zeroA_run hz w
    obtain ⟨ι', r1, r2, r3, r4⟩ := newVal_run (P := P) h (x := zv) t (RVL_zero zv.cells)
    have e1 : v = (newA H (absL 0 zv.cells.toList)).1 := by rw [ho]
    have e2 : H' = (newA H (absL 0 zv.cells.toList)).2 := by rw [ho]
    rw [e1, e2]
    exact OkRes.val (P := P) (s := Instr.alloc t true (.tuple #[])) (by simp [Instr.alloc, hzr, r1]) r4 r2 r3
  | box t x =>
    simp only [opA] at ho
    obtain ⟨l, hl, ho⟩ := Option.map_eq_some_iff.1 ho
    have hc := cellsA_run hl (aeval_ok hf x)
    obtain ⟨ι', r1, r2, r3, r4⟩ := newVal_run (P := P) h (x := a.eval x) t hc
    have e1 : v = (newA H l).1 := by rw [ho]
    have e2 : H' = (newA H l).2 := by rw [ho]
    rw [e1, e2]
    exact OkRes.val (P := P) (s := Instr.box t (a.eval x)) (by simp [Instr.box, r1]) r4 r2 r3
  | build t ps =>
    simp only [opA] at ho
    obtain ⟨v', hv, ho⟩ := Option.map_eq_some_iff.1 ho
    injection ho with e1 e2; subst e1 e2
    obtain ⟨p1, p2⟩ := parts_ok hf ps
    obtain ⟨z, r1, r2⟩ := buildA_run (P := P) hv p1 p2 w
    exact OkRes.stay h r1 r2
  | buildSlice t n ps =>
    simp only [opA] at ho
    obtain ⟨p1, p2⟩ := parts_ok hf ps
    obtain ⟨z, w', ι', r1, r2, r3, r4⟩ := buildSliceA_run (P := P) h ho p1 p2
    exact OkRes.val r1 r2 r3 r4
  | makeInterface t x =>
    simp only [opA] at ho
    obtain ⟨v', hv, ho⟩ := Option.map_eq_some_iff.1 ho
    injection ho with e1 e2; subst e1 e2
    obtain ⟨z, r1, r2⟩ := ifaceA_run hv (aeval_ok hf x) w
    exact OkRes.stay h r1 r2
  | typeAssert x xt t ok =>
    simp only [opA] at ho
    obtain ⟨v', hv, ho⟩ := Option.map_eq_some_iff.1 ho
    injection ho with e1 e2; subst e1 e2
    obtain ⟨z, r1, r2⟩ := assertA_run (xt := xt) hv (aeval_ok hf x) w
    exact OkRes.stay h r1 r2
  | load t x =>
    simp only [opA] at ho
    split at ho
    · rename_i p hp
      obtain ⟨v', hv, ho⟩ := Option.map_eq_some_iff.1 ho
      injection ho with e1 e2; subst e1 e2
      have hx := aeval_ok hf x
      rw [hp] at hx
      unfold RV at hx
      obtain ⟨z, r1, r2⟩ := loadA_run (P := P) h hv hx
      exact OkRes.stay h r1 r2
    · cases ho
  | store t x y =>
    simp only [opA] at ho
    split at ho
    · rename_i p hp
      obtain ⟨v', hv, ho⟩ := Option.map_eq_some_iff.1 ho
      injection ho with e1 e2; subst e1 e2
      have hx := aeval_ok hf x
      rw [hp] at hx
      unfold RV at hx
      obtain ⟨w', r1, r2, r3⟩ := storeA_run (P := P) h hv hx (aeval_ok hf y)
      exact ⟨w', ι, r2, r3, .inr ⟨by simp [execOp, r1], rfl⟩⟩
    · cases ho
  | nilCheck x =>
    simp only [opA] at ho
    have hx := aeval_ok hf x
    split at ho
    · rename_i p hp
      injection ho with ho; injection ho with e1 e2; subst e1 e2
      rw [hp] at hx
      have hx' := hx
      unfold RV at hx
      obtain ⟨q, hq⟩ := RPtr_some hx
      refine ⟨w, ι, h, Ext.refl _ _ _, .inl ⟨a.eval x, ?_, hx'⟩⟩
      simp [execOp, hq]
    · rename_i f l hp
      injection ho with ho; injection ho with e1 e2; subst e1 e2
      rw [hp] at hx
      have hx' := hx
      unfold RV at hx
      obtain ⟨cs, hq, _⟩ := hx
      refine ⟨w, ι, h, Ext.refl _ _ _, .inl ⟨a.eval x, ?_, hx'⟩⟩
      simp [execOp, hq]
    · cases ho
  | binOp op t x y yt =>
    simp only [opA] at ho
    obtain ⟨v', hv, ho⟩ := Option.map_eq_some_iff.1 ho
    injection ho with e1 e2; subst e1 e2
    obtain ⟨z, r1, r2⟩ := binA_run (P := P) hv (aeval_ok hf x) (aeval_ok hf y) x y w
    exact OkRes.stay h r1 r2
  | unOp op t x =>
    simp only [opA] at ho
    obtain ⟨v', hv, ho⟩ := Option.map_eq_some_iff.1 ho
    injection ho with e1 e2; subst e1 e2
    obtain ⟨z, r1, r2⟩ := unA_run (P := P) hv (aeval_ok hf x) w
    exact OkRes.stay h r1 r2
  | convert s d x =>
    simp only [opA] at ho
    obtain ⟨z, w', r1, r2, r3, r4⟩ := convertA_run (P := P) h ho (aeval_ok hf x)
    exact OkRes.val r1 r2 r3 r4
  | makeFunc fn first cap =>
    cases fn <;> simp only [opA] at ho
    case func f =>
      split at ho
      · rename_i h0
        injection ho with ho; injection ho with e1 e2; subst e1 e2
        have hfirst : first = #[] := Array.eq_empty_of_size_eq_zero h0
        subst hfirst
        refine OkRes.stay (P := P) (s := Instr.makeFunc (.func f) (#[].map a.eval) (cap.map a.eval)) h rfl ?_
        unfold RV
        refine ⟨cap.map a.eval, by simp, ?_⟩
        rw [Array.toList_map]
        exact ops_ok hf cap.toList
      · cases ho
    all_goals cases ho
  | makeSlice t l c =>
    simp only [opA] at ho
    obtain ⟨z, w', ι', r1, r2, r3, r4⟩ := makeSliceA_run (P := P) h ho (aeval_ok hf l) (aeval_ok hf c)
    exact OkRes.val r1 r2 r3 r4
  | slice t x lo hi mx =>
    simp only [opA] at ho
    obtain ⟨v', hv, ho⟩ := Option.map_eq_some_iff.1 ho
    injection ho with e1 e2; subst e1 e2
    obtain ⟨z, r1, r2⟩ := sliceOpA_run (P := P) hv (aeval_ok hf x) (opt_ok hf lo) (opt_ok hf hi) (opt_ok hf mx) w
    exact OkRes.stay h r1 r2
  | fieldAddr s x f =>
    simp only [opA] at ho
    obtain ⟨v', hv, ho⟩ := Option.map_eq_some_iff.1 ho
    injection ho with e1 e2; subst e1 e2
    obtain ⟨z, r1, r2⟩ := fieldAddrA_run (P := P) hv (aeval_ok hf x) w
    exact OkRes.stay h r1 r2
  | field t x f =>
    simp only [opA] at ho
    obtain ⟨v', hv, ho⟩ := Option.map_eq_some_iff.1 ho
    injection ho with e1 e2; subst e1 e2
    obtain ⟨z, r1, r2⟩ := fieldA_run (P := P) hv (aeval_ok hf x) w
    exact OkRes.stay h r1 r2
  | indexAddr t x i =>
    simp only [opA] at ho
    obtain ⟨v', hv, ho⟩ := Option.map_eq_some_iff.1 ho
    injection ho with e1 e2; subst e1 e2
    obtain ⟨z, r1, r2⟩ := indexAddrA_run (P := P) hv (aeval_ok hf x) (aeval_ok hf i) w
    exact OkRes.stay h r1 r2
  | index t x i =>
    simp only [opA] at ho
    obtain ⟨v', hv, ho⟩ := Option.map_eq_some_iff.1 ho
    injection ho with e1 e2; subst e1 e2
    obtain ⟨z, r1, r2⟩ := indexA_run (P := P) hv (aeval_ok hf x) (aeval_ok hf i) w
    exact OkRes.stay h r1 r2
  | extract x i =>
    simp only [opA] at ho
    have hx := aeval_ok hf x
    split at ho
    · rename_i l hl
      obtain ⟨v', hv, ho⟩ := Option.map_eq_some_iff.1 ho
      injection ho with e1 e2; subst e1 e2
      rw [hl] at hx
      unfold RV at hx
      obtain ⟨cs, hcs, hrl⟩ := hx
      obtain ⟨z, r1, r2⟩ := hrl.get hv
      rw [Array.getElem?_toList] at r1
      exact OkRes.stay (P := P) (s := Instr.extract (a.eval x) i) h (by simp [hcs, Instr.extract, r1]) r2
    · cases ho
  | call c =>
    obtain ⟨callee, args, argTypes⟩ := c
    cases callee with
    | builtin b =>
      simp only [opA] at ho
      have hy : RVL w0.heap.size ι (args.toList.map (aeval fr)) (args.map a.eval).toList := by rw [Array.toList_map]; exact ops_ok hf _
      have := fun cs => builtinA_ok (P := P) h ho hy type cs
      simp only [execOp, resolve, invoke, pure_bind]
      exact this _
    | _ => simp only [opA] at ho; cases ho
  | _ => simp only [opA] at ho; cases ho
end Go.Abs
set_option linter.unusedVariables false
set_option linter.unusedSimpArgs false
namespace Go.Abs
open Go Go.RowKit
def enters (P : Program) (f : FuncId) : Bool :=
  match P.funcs[f]? with
  | some fn => fn.body.isSome && !(fn.name == "runtime.NumGoroutine")
  | none => false
def CallsV (P : Program) (f : FuncId) (args : Array Value) (w : World) (R : Value → World → Prop) : Prop :=
  (enters P f = true ∧ Calls P f args w fun e w' => ∃ v, e = .returned v ∧ R v w') ∨ ∃ v w', (callFunc f args).run P w = .ok (.value v) w' ∧ R v w'
theorem CallsV.mono {P : Program} {f : FuncId} {args : Array Value} {w : World} {R R' : Value → World → Prop} (h : CallsV P f args w R) (hq : ∀ v w', R v w' → R' v w') : CallsV P f args w R' := by
  rcases h with ⟨h1, h2⟩ | ⟨v, w', h1, h2⟩
  · exact .inl ⟨h1, h2.mono fun e w' ⟨v, k1, k2⟩ => ⟨v, k1, hq _ _ k2⟩⟩
  · exact .inr ⟨v, w', h1, hq _ _ h2⟩
def ASpec (P : Program) (f : FuncId) (args : List AV) (H : AH) (Q : AV → AH → Prop) : Prop :=
  ∀ (w0 : World) (ι : List Loc) (w : World) (cargs : Array Value), Rep w0 ι H w → RVL w0.heap.size ι args cargs.toList →
    CallsV P f cargs w fun v w' => ∃ r H' ι', RV w0.heap.size ι' r v ∧ Rep w0 ι' H' w' ∧ Ext ι H w ι' H' w' ∧ Q r H'
theorem ASpec.mono {P : Program} {f : FuncId} {args : List AV} {H : AH} {Q Q' : AV → AH → Prop} (h : ASpec P f args H Q) (hq : ∀ r H', Q r H' → Q' r H') : ASpec P f args H Q' :=
  fun w0 ι w cargs hr hv => (h w0 ι w cargs hr hv).mono fun _ _ ⟨r, H', ι', h2, h3, h4, h5⟩ => ⟨r, H', ι', h2, h3, h4, hq _ _ h5⟩
def putA (fr : AFr) (dst : Option Tmp) (v : AV) : AFr :=
  match dst with
  | none => fr
  | some d => lput fr d v
def callA (fr : AFr) (op : Op) : Option (FuncId × List AV) :=
  match op with
  | .call { callee := .value g, args, argTypes := _ } =>
    match aeval fr g with
    | .func f l => some (f, args.toList.map (aeval fr) ++ l)
    | _ => none
  | _ => none
def guardA (ops : Array Oper) (fr : AFr) (o : Oper) : Option Bool :=
  match o.guard with
  | none => some true
  | some (j, want) =>
    match (ops[j]?).bind (·.dst) with
    | some d => (match lget fr d with | .bool b => some (b == want) | .tup [] => some false | _ => none)
    | none => none
def AOps (P : Program) (ops : Array Oper) (Q : AFr → AH → Prop) : List Oper → AFr → AH → Prop
  | [], fr, H => Q fr H
  | o :: rest, fr, H =>
    match guardA ops fr o with
    | none => False
    | some false => AOps P ops Q rest (putA fr o.dst (.tup [])) H
    | some true =>
      match callA fr o.op with
      | some (f, args) => ASpec P f args H fun r H' => AOps P ops Q rest (putA fr o.dst r) H'
      | none =>
        match opA P fr H o.op with
        | some vh => AOps P ops Q rest (putA fr o.dst vh.1) vh.2
        | none => False
structure St (w0 : World) (ι : List Loc) (N : Nat) (ds : List Deferred) (fr : AFr) (H : AH) (a : Act) (w : World) : Prop where
  rep : Rep w0 ι H w
  fr : RFr w0.heap.size ι fr a.tmps
  size : a.tmps.size = N
  defers : a.defers = ds
theorem St.put {w0 w : World} {ι ι' : List Loc} {N : Nat} {ds : List Deferred} {fr : AFr} {H H' : AH} {a : Act} {w' : World} (h : St w0 ι N ds fr H a w) {dst : Option Tmp} (hd : ∀ d, dst = some d → d < N) {x : AV} {v : Value} (hr : Rep w0 ι' H' w') (he : LocLe ι ι') (hv : RV w0.heap.size ι' x v) :
    St w0 ι' N ds (putA fr dst x) H' (a.put dst v) w' := by
  cases dst with
  | none => exact ⟨hr, h.fr.ext he, h.size, h.defers⟩
  | some d => exact ⟨hr, (h.fr.ext he).put (by rw [h.size]; exact hd d rfl) hv, by simp [Act.put, h.size], h.defers⟩
theorem RV_undef {b : Nat} {ι : List Loc} : RV b ι (.tup []) undef := by unfold RV; exact ⟨#[], rfl, by unfold RVL; rfl⟩
theorem guardA_ok {ops : Array Oper} {w0 w : World} {ι : List Loc} {N : Nat} {ds : List Deferred} {fr : AFr} {H : AH} {a : Act} (h : St w0 ι N ds fr H a w) {o : Oper} {b : Bool} (hg : guardA ops fr o = some b) : Region.wanted o (yielded ops a.tmps) = b := by
  unfold guardA at hg
  unfold Region.wanted
  cases ho : o.guard with
  | none => rw [ho] at hg; injection hg with hg
  | some p =>
    obtain ⟨j, want⟩ := p
    rw [ho] at hg
    simp only at hg ⊢
    cases hd : (ops[j]?).bind (·.dst) with
    | none => rw [hd] at hg; cases hg
    | some d =>
      rw [hd] at hg
      simp only at hg
      split at hg
      · rename_i b' hb
        injection hg with hg
        subst hg
        have hv := h.fr d
        rw [hb] at hv
        unfold RV at hv
        have : a.tmps[d]? = some (.bool b') := by
          rw [Array.getD_eq_getD_getElem?] at hv
          cases hx : a.tmps[d]? with
          | none => rw [hx] at hv; cases hv
          | some x => rw [hx] at hv; simp at hv; rw [hv]
        unfold yielded
        rw [hd]
        simp only [Option.bind_some, this]
        cases b' <;> cases want <;> rfl
      · rename_i hb
        injection hg with hg
        subst hg
        have hv := h.fr d
        rw [hb] at hv
        unfold RV at hv
        obtain ⟨cs, hcs, hl⟩ := hv
        unfold yielded
        rw [hd]
        simp only [Option.bind_some]
        rw [Array.getD_eq_getD_getElem?] at hcs
        cases hx : a.tmps[d]? with
        | none => cases want <;> rfl
        | some x => rw [hx] at hcs; simp only [Option.getD_some] at hcs; rw [hcs]; cases want <;> rfl
      · cases hg
theorem enters_run {P : Program} {f : FuncId} (h : enters P f = true) (args : Array Value) (w : World) : (callFunc f args).run P w = .ok (.enter f args) w := by
  unfold enters at h
  cases hf : P.funcs[f]? with
  | none => rw [hf] at h; cases h
  | some fn =>
    rw [hf] at h
    simp only [Bool.and_eq_true, Bool.not_eq_true'] at h
    obtain ⟨c, hc⟩ := Option.isSome_iff_exists.1 h.1
    have h1 : fn.name ≠ "runtime.NumGoroutine" := by simpa using h.2
    simp [callFunc, hf, h1, hc]
theorem op_step {P : Program} {w0 w : World} {ι : List Loc} {N : Nat} {ds : List Deferred} {fr : AFr} {H : AH} {a : Act} (h : St w0 ι N ds fr H a w) {o : Oper} {v : AV} {H' : AH} (ho : opA P fr H o.op = some (v, H')) (hd : ∀ d, o.dst = some d → d < N) {K : Act → World → Prop} {Q : Exit → Act → World → Prop}
    (hK : ∀ ι' a' w', St w0 ι' N ds (putA fr o.dst v) H' a' w' → Ext ι H w ι' H' w' → K a' w') : o.wp P a w K Q := by
  obtain ⟨w', ι', r1, r2, r3⟩ := opA_ok h.rep h.fr ho
  unfold Oper.wp
  rcases r3 with ⟨cv, hr, hv⟩ | ⟨hr, rfl⟩
  · rw [hr]
    exact hK ι' _ w' (h.put hd r1 r2.le hv) r2
  · rw [hr]
    exact hK ι' _ w' (h.put hd r1 r2.le (by unfold RV; trivial)) r2
theorem callA_ok {P : Program} {w0 w : World} {ι : List Loc} {N : Nat} {ds : List Deferred} {fr : AFr} {H : AH} {a : Act} (h : St w0 ι N ds fr H a w) {o : Oper} {f : FuncId} {args : List AV} (hc : callA fr o.op = some (f, args)) :
    ∃ cargs : Array Value, (execOp a.eval o).run P w = (callFunc f cargs).run P w ∧ RVL w0.heap.size ι args cargs.toList := by
  obtain ⟨dst, op, type, pos, after, guard⟩ := o
  simp only at hc
  unfold callA at hc
  split at hc
  · rename_i g gargs gt
    split at hc
    · rename_i f' l hf
      injection hc with hc
      injection hc with e1 e2
      subst e1 e2
      have hg := aeval_ok h.fr g
      rw [hf] at hg
      unfold RV at hg
      obtain ⟨cs, hg, hl⟩ := hg
      refine ⟨gargs.map a.eval ++ cs, ?_, ?_⟩
      · simp only [execOp, resolve, hg, Deferred.ofValue, pure_bind, invoke]
        rw [show (#[] ++ Array.map a.eval gargs) = Array.map a.eval gargs by simp]
      · rw [Array.toList_append, Array.toList_map]
        exact RVL.append (ops_ok h.fr gargs.toList) hl
    · cases hc
  · cases hc
theorem call_step {P : Program} {w0 w : World} {ι : List Loc} {N : Nat} {ds : List Deferred} {fr : AFr} {H : AH} {a : Act} (h : St w0 ι N ds fr H a w) {o : Oper} {f : FuncId} {args : List AV} (hc : callA fr o.op = some (f, args)) (hd : ∀ d, o.dst = some d → d < N) {R : AV → AH → Prop} (hs : ASpec P f args H R)
    {K : Act → World → Prop} {Q : Exit → Act → World → Prop} (hK : ∀ r H' ι' a' w', R r H' → St w0 ι' N ds (putA fr o.dst r) H' a' w' → Ext ι H w ι' H' w' → K a' w') : o.wp P a w K Q := by
  obtain ⟨cargs, hr, hv⟩ := callA_ok h hc
  unfold Oper.wp
  rcases hs w0 ι w cargs h.rep hv with ⟨he, hcalls⟩ | ⟨v, w', hr', r, H', ι', h2, h3, h4, h5⟩
  · rw [hr, enters_run he, Oper.upon_enter]
    refine hcalls.mono fun e w' hq => ?_
    obtain ⟨v, rfl, r, H', ι', h2, h3, h4, h5⟩ := hq
    exact hK r H' ι' _ w' h5 (h.put hd h3 h4.le h2) h4
  · rw [hr, hr', Oper.upon_value]
    exact hK r H' ι' _ w' h5 (h.put hd h3 h4.le h2) h4
theorem AOps_sound {P : Program} {ops : Array Oper} {Q : AFr → AH → Prop} {N : Nat} {ds : List Deferred} {QC : Exit → Act → World → Prop} : ∀ (l : List Oper) {w0 w : World} {ι : List Loc} {fr : AFr} {H : AH} {a : Act}, (∀ o ∈ l, ∀ d, o.dst = some d → d < N) → AOps P ops Q l fr H → St w0 ι N ds fr H a w →
    (∀ fr' H' ι' a' w', Q fr' H' → St w0 ι' N ds fr' H' a' w' → Ext ι H w ι' H' w' → QC .normal a' w') → wpList P ops QC l a w
  | [], w0, w, ι, fr, H, a, _, h, hs, hQ => hQ fr H ι a w h hs (Ext.refl _ _ _)
  | o :: rest, w0, w, ι, fr, H, a, hd, h, hs, hQ => by
    have hd0 := hd o (by simp)
    have hdr : ∀ o ∈ rest, ∀ d, o.dst = some d → d < N := fun o' ho' => hd o' (by simp [ho'])
    refine wpList_step fun K hK => ?_
    simp only [AOps] at h
    cases hg : guardA ops fr o with
    | none => rw [hg] at h; exact h.elim
    | some b =>
      rw [hg] at h
      rw [guardA_ok hs hg]
      cases b with
      | false =>
        simp only at h
        simp only [Bool.false_eq_true, if_false]
        exact hK _ _ (AOps_sound rest hdr h (hs.put hd0 hs.rep (LocLe.refl ι) RV_undef) hQ)
      | true =>
        simp only at h
        simp only [if_true]
        cases hc : callA fr o.op with
        | some fa =>
          obtain ⟨f, args⟩ := fa
          rw [hc] at h
          simp only at h
          exact call_step hs hc hd0 h fun r H' ι' a' w' h1 h2 h3 => hK _ _ (AOps_sound rest hdr h1 h2 fun fr' H'' ι'' a'' w'' g1 g2 g3 => hQ fr' H'' ι'' a'' w'' g1 g2 (h3.trans g3))
        | none =>
          rw [hc] at h
          simp only at h
          cases ho : opA P fr H o.op with
          | none => rw [ho] at h; exact h.elim
          | some vh =>
          obtain ⟨v, H'⟩ := vh
          rw [ho] at h
          exact op_step hs ho hd0 fun ι' a' w' h2 h3 => hK _ _ (AOps_sound rest hdr h h2 fun fr' H'' ι'' a'' w'' g1 g2 g3 => hQ fr' H'' ι'' a'' w'' g1 g2 (h3.trans g3))
def AWp (P : Program) (N : Nat) (c : Code) (Q : Exit → AFr → AH → Prop) (fr : AFr) (H : AH) : Prop :=
  ∀ (ds : List Deferred) (w0 : World) (ι : List Loc) (a : Act) (w : World) (QC : Exit → Act → World → Prop), St w0 ι N ds fr H a w →
    (∀ e fr' H' ι' a' w', Q e fr' H' → St w0 ι' N ds fr' H' a' w' → Ext ι H w ι' H' w' → QC e a' w') → c.wp P QC a w
section
variable {P : Program} {N : Nat} {Q : Exit → AFr → AH → Prop} {fr : AFr} {H : AH}
theorem AWp.mono {c : Code} {Q' : Exit → AFr → AH → Prop} (h : AWp P N c Q fr H) (hq : ∀ e fr H, Q e fr H → Q' e fr H) : AWp P N c Q' fr H :=
  fun ds w0 ι a w QC hs hQ => h ds w0 ι a w QC hs fun e fr' H' ι' a' w' g1 g2 g3 => hQ e fr' H' ι' a' w' (hq _ _ _ g1) g2 g3
theorem awp_skip (h : Q .normal fr H) : AWp P N .skip Q fr H := fun _ _ ι a w _ hs hQ => wp_skip (hQ _ _ _ ι a w h hs (Ext.refl _ _ _))
theorem awp_exit {id : Nat} (h : Q (.exit id) fr H) : AWp P N (.exit id) Q fr H := fun _ _ ι a w _ hs hQ => wp_exit (hQ _ _ _ ι a w h hs (Ext.refl _ _ _))
theorem awp_ret (h : Q .ret fr H) : AWp P N .ret Q fr H := fun _ _ ι a w _ hs hQ => wp_ret (hQ _ _ _ ι a w h hs (Ext.refl _ _ _))
theorem nr {α : Sort _} {a b : α} (h : a = b) : a = b := h
def thenA (next : AFr → AH → Prop) (Q : Exit → AFr → AH → Prop) : Exit → AFr → AH → Prop
  | .normal, fr, H => next fr H
  | e, fr, H => Q e fr H
theorem thenA_normal (next : AFr → AH → Prop) (Q : Exit → AFr → AH → Prop) (fr : AFr) (H : AH) : thenA next Q .normal fr H = next fr H := nr rfl
theorem awp_seq {x y : Code} (h : AWp P N x (thenA (AWp P N y Q) Q) fr H) : AWp P N (.seq x y) Q fr H := fun ds w0 ι a w QC hs hQ =>
  wp_seq (h ds w0 ι a w _ hs fun e fr' H' ι' a' w' g1 g2 g3 => by
    cases e with
    | normal => exact g1 ds w0 ι' a' w' QC g2 fun e fr'' H'' ι'' a'' w'' k1 k2 k3 => hQ e fr'' H'' ι'' a'' w'' k1 k2 (g3.trans k3)
    | exit id => exact hQ _ _ _ _ _ _ g1 g2 g3
    | goto l => exact hQ _ _ _ _ _ _ g1 g2 g3
    | ret => exact hQ _ _ _ _ _ _ g1 g2 g3
    | panic c => exact hQ _ _ _ _ _ _ g1 g2 g3
    | outgrown => exact hQ _ _ _ _ _ _ g1 g2 g3)
theorem awp_cond {c : Operand} {x y : Code} {t : Bool} (hc : aeval fr c = .bool t) (h : AWp P N (if t then x else y) Q fr H) : AWp P N (.cond c x y) Q fr H := fun ds w0 ι a w QC hs hQ => by
  have hv := aeval_ok hs.fr c
  rw [hc] at hv
  unfold RV at hv
  exact wp_cond hv (h ds w0 ι a w QC hs hQ)
def blockA (id : Nat) (Q : Exit → AFr → AH → Prop) : Exit → AFr → AH → Prop
  | .exit id', fr, H => if id' = id then Q .normal fr H else Q (.exit id') fr H
  | e, fr, H => Q e fr H
theorem blockA_exit (id i : Nat) (Q : Exit → AFr → AH → Prop) (fr : AFr) (H : AH) : blockA id Q (.exit i) fr H = if i = id then Q .normal fr H else Q (.exit i) fr H := nr rfl
theorem blockA_normal (id : Nat) (Q : Exit → AFr → AH → Prop) (fr : AFr) (H : AH) : blockA id Q .normal fr H = Q .normal fr H := nr rfl
theorem blockA_ret (id : Nat) (Q : Exit → AFr → AH → Prop) (fr : AFr) (H : AH) : blockA id Q .ret fr H = Q .ret fr H := nr rfl
theorem awp_block {id : Nat} {c : Code} (h : AWp P N c (blockA id Q) fr H) : AWp P N (.block id c) Q fr H := fun ds w0 ι a w QC hs hQ =>
  wp_block (h ds w0 ι a w _ hs fun e fr' H' ι' a' w' g1 g2 g3 => by
    cases e with
    | exit id' =>
      simp only [blockA, Exit.inBlock] at g1 ⊢
      split at g1
      · rename_i hi; rw [if_pos hi]; exact hQ _ _ _ _ _ _ g1 g2 g3
      · rename_i hi; rw [if_neg hi]; exact hQ _ _ _ _ _ _ g1 g2 g3
    | normal => exact hQ _ _ _ _ _ _ g1 g2 g3
    | goto l => exact hQ _ _ _ _ _ _ g1 g2 g3
    | ret => exact hQ _ _ _ _ _ _ g1 g2 g3
    | panic c => exact hQ _ _ _ _ _ _ g1 g2 g3
    | outgrown => exact hQ _ _ _ _ _ _ g1 g2 g3)
theorem awp_loop {c : Code} (I : Nat → AFr → AH → Prop) (n : Nat) (h0 : I n fr H) (round : ∀ n fr H, I n fr H → AWp P N c (thenA (fun fr' H' => ∃ m, m < n ∧ I m fr' H') Q) fr H) : AWp P N (.loop c) Q fr H := fun ds w0 ι a w QC hs hQ =>
  wp_loop_ghost (fun n a' w' => ∃ ι' fr' H', I n fr' H' ∧ St w0 ι' N ds fr' H' a' w' ∧ Ext ι H w ι' H' w') n ⟨ι, fr, H, h0, hs, Ext.refl _ _ _⟩ fun n a1 w1 ⟨ι1, fr1, H1, i1, s1, e1⟩ =>
    round n fr1 H1 i1 ds w0 ι1 a1 w1 _ s1 fun e fr' H' ι' a' w' g1 g2 g3 => by
      cases e with
      | normal => obtain ⟨m, hm, hi⟩ := g1; exact ⟨m, hm, ι', fr', H', hi, g2, e1.trans g3⟩
      | exit id => exact hQ _ _ _ _ _ _ g1 g2 (e1.trans g3)
      | goto l => exact hQ _ _ _ _ _ _ g1 g2 (e1.trans g3)
      | ret => exact hQ _ _ _ _ _ _ g1 g2 (e1.trans g3)
      | panic c => exact hQ _ _ _ _ _ _ g1 g2 (e1.trans g3)
      | outgrown => exact hQ _ _ _ _ _ _ g1 g2 (e1.trans g3)
def dstsOk (N : Nat) (l : List Oper) : Bool := l.all fun o => match o.dst with | some d => decide (d < N) | none => true
theorem dstsOk_spec {l : List Oper} (h : dstsOk N l = true) : ∀ o ∈ l, ∀ d, o.dst = some d → d < N := fun o ho d hd => by
  unfold dstsOk at h
  have := List.all_eq_true.1 h o ho
  rw [hd] at this
  simpa using this
theorem awp_region {id : Nat} {l : List Oper} (hd : dstsOk N l = true) (h : AOps P l.toArray (Q .normal) l fr H) : AWp P N (.region id l.toArray false) Q fr H := fun ds w0 ι a w QC hs hQ =>
  wp_region_lit (AOps_sound l (dstsOk_spec hd) h hs fun fr' H' ι' a' w' g1 g2 g3 => hQ _ _ _ _ _ _ g1 g2 g3)
end
def aresult (P : Program) (fr : AFr) (H : AH) : ResultVar → Option AV
  | .tmp t => some (lget fr t)
  | .cell a t => (match lget fr a with | .ptr p => loadA P t p H | _ => none)
def aresults (P : Program) (fr : AFr) (H : AH) : List ResultVar → Option (List AV)
  | [] => some []
  | r :: l => (aresult P fr H r).bind fun v => (aresults P fr H l).map fun vs => v :: vs
def tupA : List AV → AV
  | [x] => x
  | l => .tup l
theorem aresults_run {P : Program} {w0 w : World} {ι : List Loc} {N : Nat} {ds : List Deferred} {fr : AFr} {H : AH} {a : Act} (h : St w0 ι N ds fr H a w) : ∀ (l : List ResultVar) {vs : List AV}, aresults P fr H l = some vs →
    ∃ ys : List Value, (∀ g : ResultVar → Sem Value, (∀ t, g (.tmp t) = pure (a.tmps.getD t undef)) → (∀ p t, g (.cell p t) = do loadVar t (← asAddr (a.tmps.getD p undef))) → (l.mapM g).run P w = .ok ys w) ∧ RVL w0.heap.size ι vs ys
  | [], vs, hr => by simp only [aresults] at hr; injection hr with hr; subst hr; exact ⟨[], fun _ _ _ => rfl, by unfold RVL; rfl⟩
  | r :: l, vs, hr => by
    simp only [aresults] at hr
    obtain ⟨v, hv, hr⟩ := Option.bind_eq_some_iff.1 hr
    obtain ⟨vs', hvs, rfl⟩ := Option.map_eq_some_iff.1 hr
    obtain ⟨ys, r1, r2⟩ := aresults_run h l hvs
    have one : ∃ y, (∀ g : ResultVar → Sem Value, (∀ t, g (.tmp t) = pure (a.tmps.getD t undef)) → (∀ p t, g (.cell p t) = do loadVar t (← asAddr (a.tmps.getD p undef))) → (g r).run P w = .ok y w) ∧ RV w0.heap.size ι v y := by
      cases r with
      | tmp t => simp only [aresult] at hv; injection hv with hv; subst hv; exact ⟨_, fun g h1 _ => by rw [h1]; rfl, h.fr t⟩
      | cell p t =>
        simp only [aresult] at hv
        have hp := h.fr p
        split at hv
        · rename_i q hq
          rw [hq] at hp
          unfold RV at hp
          obtain ⟨x, g1, g2⟩ := loadA_run (P := P) h.rep hv hp
          obtain ⟨ad, had⟩ := RPtr_some hp
          rw [had] at g1
          refine ⟨x, fun g _ h2 => ?_, g2⟩
          rw [h2, had]
          simpa [Instr.loadAt, Instr.sureAddr, asAddr] using g1
        · cases hv
    obtain ⟨y, y1, y2⟩ := one
    refine ⟨y :: ys, fun g h1 h2 => ?_, by simp only [RVL]; exact ⟨y, ys, rfl, y2, r2⟩⟩
    rw [List.mapM_cons]
    simp only [Sem.run_bind, y1 g h1 h2, Result.andThen_ok, r1 g h1 h2]
    rfl
theorem aspec_of {P : Program} {f : FuncId} {fn : Func} {c : Code} {args : List AV} {H : AH} {Q : AV → AH → Prop} (hf : P.funcs[f]? = some fn) (hb : fn.body = some c) (hname : (fn.name == "runtime.NumGoroutine") = false) (hl : args.length ≤ fn.ntmps)
    (h : AWp P fn.ntmps c (fun e fr H' => (e = .normal ∨ e = .ret) ∧ ∃ vs, aresults P fr H' fn.results.toList = some vs ∧ Q (tupA vs) H') args H) : ASpec P f args H Q := by
  refine fun w0 ι w cargs hr hv => .inl ⟨by unfold enters; rw [hf]; simp [hb, hname], Calls.mono (R := fun e w' => ∃ r H' ι' v, e = .returned v ∧ RV w0.heap.size ι' r v ∧ Rep w0 ι' H' w' ∧ Ext ι H w ι' H' w' ∧ Q r H') ?_ fun e w' ⟨r, H', ι', v, h1, h2, h3, h4, h5⟩ => ⟨v, h1, r, H', ι', h2, h3, h4, h5⟩⟩
  refine calls_of_wp hf hb (h [] w0 ι _ w _ ⟨hr, ?_, ?_, rfl⟩ ?_)
  · intro i
    have hlen := hv.length
    simp only [Array.length_toList] at hlen
    by_cases hi : i < args.length
    · have hg : ∃ x, args[i]? = some x := ⟨_, List.getElem?_eq_getElem hi⟩
      obtain ⟨x, hx⟩ := hg
      obtain ⟨y, h1, h2⟩ := hv.get hx
      rw [Array.getElem?_toList] at h1
      have e1 : ∀ (l : List AV) (i : Nat) (x : AV), l[i]? = some x → lget l i = x := by
        intro l
        induction l with
        | nil => intro i x h; simp at h
        | cons z l ih => intro i x h; cases i with
          | zero => simp at h; exact h
          | succ i => simp at h; exact ih i x h
      rw [e1 _ _ _ hx, Array.getD_eq_getD_getElem?, Array.getElem?_append_left (by omega), h1]
      exact h2
    · have e1 : ∀ (l : List AV) (i : Nat), l.length ≤ i → lget l i = .unk := by
        intro l
        induction l with
        | nil => intro i _; exact lget_nil i
        | cons z l ih => intro i h; cases i with
          | zero => simp at h
          | succ i => simp at h; exact ih i h
      rw [e1 _ _ (by omega)]
      unfold RV; trivial
  · have hlen := hv.length
    simp only [Array.length_toList] at hlen
    simp; omega
  · intro e fr' H' ι' a' w' hq hs he
    obtain ⟨hq1, vs, hvs, hq2⟩ := hq
    obtain ⟨ys, r1, r2⟩ := aresults_run hs _ hvs
    have hres : ∃ v, (results fn a'.tmps).run P w' = .ok v w' ∧ RV w0.heap.size ι' (tupA vs) v := by
      refine ⟨if h : ys.toArray.size = 1 then ys.toArray[0] else .tuple ys.toArray, ?_, ?_⟩
      · simp only [results, Array.mapM_eq_mapM_toList, Sem.run_bind, Sem.run_map]
        rw [r1 _ (fun _ => rfl) (fun _ _ => rfl)]
        rfl
      · have hlen := r2.length
        split
        · rename_i h1
          simp at h1
          rw [h1] at hlen
          cases vs with
          | nil => simp at hlen
          | cons x vs =>
            cases vs with
            | cons _ _ => simp at hlen
            | nil =>
              simp only [RVL] at r2
              obtain ⟨y, m, rfl, h2, rfl⟩ := r2
              exact h2
        · rename_i h1
          have : tupA vs = .tup vs := by
            cases vs with
            | nil => rfl
            | cons x vs =>
              cases vs with
              | cons _ _ => rfl
              | nil => simp at hlen; simp at h1; exact absurd hlen h1
          rw [this]
          unfold RV
          exact ⟨ys.toArray, rfl, by simpa using r2⟩
    obtain ⟨v, h1, h2⟩ := hres
    have fin : ∃ r H'' ι'' v', Ending.returned v = .returned v' ∧ RV w0.heap.size ι'' r v' ∧ Rep w0 ι'' H'' w' ∧ Ext ι H w ι'' H'' w' ∧ Q r H'' := ⟨_, H', ι', v, rfl, h2, hs.rep, he, hq2⟩
    rcases hq1 with rfl | rfl
    · exact ⟨hs.defers, v, h1, fin⟩
    · exact ⟨hs.defers, v, h1, fin⟩
end Go.Abs
