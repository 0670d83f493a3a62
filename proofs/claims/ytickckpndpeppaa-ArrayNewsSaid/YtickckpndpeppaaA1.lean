/- The abstract state of a run: values, memory as blocks of cells, and what it says of a world of the model. -/
import Derived.Below
import Derived.Tactics
set_option linter.unusedVariables false
set_option linter.unusedSimpArgs false
namespace Go.Abs
open Go Go.RowKit

structure AAddr where
  ro : Bool
  blk : Nat
  off : Nat

inductive Cap where
  | known (c : Nat)
  | grow (sz : Nat)

inductive AV where
  | unk
  | bool (b : Bool)
  | int (k : IntKind) (n : Int)
  | str (s : ByteArray)
  | nilptr
  | ptr (a : AAddr)
  | nilslice
  | slice (a : AAddr) (n : Nat) (c : Cap)
  | nilfunc
  | func (f : FuncId) (l : List AV)
  | nilif
  | iface (t : TypeId) (v : AV)
  | agg (l : List AV)
  | tup (l : List AV)
  | nilmap
  | map (i : Nat)
  | yld (l : Nat)

abbrev AFr := List AV

def lget : AFr → Nat → AV
  | [], _ => .unk
  | v :: _, 0 => v
  | _ :: l, n + 1 => lget l n

def lput : AFr → Nat → AV → AFr
  | [], 0, v => [v]
  | [], n + 1, v => .unk :: lput [] n v
  | _ :: l, 0, v => v :: l
  | x :: l, n + 1, v => x :: lput l n v

theorem lget_lput (l : AFr) (i j : Nat) (v : AV) : lget (lput l i v) j = if j = i then v else lget l j := by
  induction i generalizing l j with
  | zero => cases l <;> cases j <;> simp [lput, lget]
  | succ i ih => cases l <;> cases j <;> simp [lput, lget, ih]

theorem lget_nil (j : Nat) : lget [] j = .unk := by cases j <;> rfl

inductive ABlk where
  | cells (l : List AV)
  | map (es : List (AV × AV))

/-- 'wr': what was written to, or is new. -/
structure AH where
  ro : Nat → List AV
  rw : List (Option ABlk)
  wr : Nat → Prop

def AH.cells? (H : AH) (i : Nat) : Option (List AV) :=
  match H.rw[i]? with
  | some (some (.cells l)) => some l
  | _ => none

def AH.get (H : AH) (a : AAddr) : Option (List AV) := if a.ro then some (H.ro a.blk) else H.cells? a.blk

/-- A memory of which nothing is one's own. -/
def AH.base (ro : Nat → List AV) : AH := ⟨ro, [], fun _ => False⟩

def AH.n (H : AH) : Nat := H.rw.length

def AH.push (H : AH) (b : Option ABlk) : AH := ⟨H.ro, H.rw ++ [b], fun j => j = H.rw.length ∨ H.wr j⟩

def AH.set (H : AH) (i : Nat) (b : Option ABlk) : AH := ⟨H.ro, H.rw.set i b, fun j => j = i ∨ H.wr j⟩

inductive Loc where
  | dead
  | pend
  | nil
  | at (B O m : Nat)

def RPtr (b : Nat) (ι : List Loc) (a : AAddr) (v : Value) : Prop :=
  if a.ro then a.blk < b ∧ v = .pointer (some ⟨a.blk, a.off, none⟩) else
  match ι[a.blk]? with
  | some (.at B O _) => v = .pointer (some ⟨B, O + a.off, none⟩)
  | some .dead => ∃ p, v = .pointer (some p)
  | _ => False

def RSliceAt (B O m off n : Nat) (c : Cap) (v : Value) : Prop :=
  match c with
  | .known c => n ≤ c ∧ ((v = .slice (some ⟨B, O + off, none⟩) n c) ∨ (c = 0 ∧ ∃ p, v = .slice (some p) 0 0))
  | .grow sz => (∃ C, n ≤ C ∧ off + C * sz ≤ m ∧ v = .slice (some ⟨B, O + off, none⟩) n C) ∨ (n = 0 ∧ ∃ p, v = .slice (some p) 0 0)

def RSlice (b : Nat) (ι : List Loc) (a : AAddr) (n : Nat) (c : Cap) (v : Value) : Prop :=
  if a.ro then ∃ c', c = .known c' ∧ n ≤ c' ∧ ((a.blk < b ∧ v = .slice (some ⟨a.blk, a.off, none⟩) n c') ∨ (c' = 0 ∧ ∃ p, v = .slice (some p) 0 0)) else
  match ι[a.blk]? with
  | some (.at B O m) => RSliceAt B O m a.off n c v
  | some .nil => n = 0 ∧ (∃ q, v = .slice q 0 0) ∧ ∃ sz, c = .grow sz
  | some .dead => ∃ q C, v = .slice q n C ∧ n ≤ C ∧ (0 < n → q ≠ none) ∧ ∀ c', c = .known c' → C = c' ∧ q ≠ none
  | _ => False

def RMap (ι : List Loc) (i : Nat) (v : Value) : Prop :=
  match ι[i]? with
  | some (.at B _ _) => v = .map (some B)
  | some .dead => ∃ p, v = .map p
  | _ => False

mutual
def RV (b : Nat) (ι : List Loc) : AV → Value → Prop
  | .unk, _ => True
  | .bool x, v => v = .bool x
  | .int k n, v => v = .int k n
  | .str s, v => v = .string s
  | .nilptr, v => v = .pointer none
  | .ptr a, v => RPtr b ι a v
  | .nilslice, v => v = .slice none 0 0
  | .slice a n c, v => RSlice b ι a n c v
  | .nilfunc, v => v = .nilFunc
  | .func f l, v => ∃ cs : Array Value, v = .func (.func f) #[] cs ∧ RVL b ι l cs.toList
  | .nilif, v => v = .nilIface
  | .iface t x, v => ∃ y, v = .iface t y ∧ RV b ι x y
  | .agg l, v => ∃ cs : Array Value, v = .agg cs ∧ RVL b ι l cs.toList
  | .tup l, v => ∃ cs : Array Value, v = .tuple cs ∧ RVL b ι l cs.toList
  | .nilmap, v => v = .map none
  | .yld l, v => v = .func (.yield l) #[] #[]
  | .map i, v => RMap ι i v
def RVL (b : Nat) (ι : List Loc) : List AV → List Value → Prop
  | [], ys => ys = []
  | x :: l, ys => ∃ y m, ys = y :: m ∧ RV b ι x y ∧ RVL b ι l m
end

/-- What a value is as an abstract one, addresses below 'b' as they are. -/
def absAddr (b : Nat) (a : Addr) : Option AAddr := if a.block < b ∧ a.spot = none then some ⟨true, a.block, a.off⟩ else none

mutual
def absV (b : Nat) : Value → AV
  | .bool x => .bool x
  | .int k n => .int k n
  | .string s => .str s
  | .pointer none => .nilptr
  | .pointer (some a) => match absAddr b a with | some p => .ptr p | none => .unk
  | .slice none 0 0 => .nilslice
  | .slice (some a) n c => if n = 0 ∧ c = 0 then .slice ⟨true, 0, 0⟩ 0 (.known 0) else match absAddr b a with | some p => if n ≤ c then .slice p n (.known c) else .unk | none => .unk
  | .nilFunc => .nilfunc
  | .nilIface => .nilif
  | .agg ⟨l⟩ => .agg (absL b l)
  | .map none => .nilmap
  | _ => .unk
def absL (b : Nat) : List Value → List AV
  | [] => []
  | v :: l => absV b v :: absL b l
end

theorem absAddr_some {b : Nat} {a : Addr} {p : AAddr} (h : absAddr b a = some p) : p.ro = true ∧ p.blk < b ∧ a = ⟨p.blk, p.off, none⟩ := by
  unfold absAddr at h
  split at h
  · rename_i hc
    obtain ⟨h1, h2⟩ := hc
    injection h with h
    subst h
    obtain ⟨blk, off, spot⟩ := a
    simp only at h1 h2
    subst h2
    exact ⟨rfl, h1, rfl⟩
  · cases h

mutual
theorem RV_abs {b b' : Nat} (ι : List Loc) (hb : b ≤ b') : (v : Value) → RV b' ι (absV b v) v
  | .bool x => rfl
  | .int k n => rfl
  | .float .. => trivial
  | .complex .. => trivial
  | .string s => rfl
  | .pointer none => rfl
  | .pointer (some a) => by
    unfold absV
    split
    · rename_i p hp
      obtain ⟨h1, h2, h3⟩ := absAddr_some hp
      unfold RV RPtr
      rw [if_pos h1]
      exact ⟨Nat.lt_of_lt_of_le h2 hb, by rw [h3]⟩
    · unfold RV; trivial
  | .slice none n c => by
    unfold absV
    split
    all_goals first | (rename_i h; injection h with h1 h2 h3; subst h2 h3; unfold RV; rfl) | (rename_i h; cases h) | skip
    all_goals first | (simp only [RV]; done) | skip
    all_goals (rename_i h1 h2; first | cases h1 | cases h2 | skip)
  | .slice (some a) n c => by
    unfold absV
    split
    · rename_i h0
      obtain ⟨rfl, rfl⟩ := h0
      unfold RV RSlice
      exact ⟨0, rfl, Nat.le_refl _, .inr ⟨rfl, a, rfl⟩⟩
    · split
      · rename_i p hp
        obtain ⟨h1, h2, h3⟩ := absAddr_some hp
        split
        · rename_i hn
          unfold RV RSlice
          rw [if_pos h1]
          exact ⟨c, rfl, hn, .inl ⟨Nat.lt_of_lt_of_le h2 hb, by rw [h3]⟩⟩
        · unfold RV; trivial
      · unfold RV; trivial
  | .map none => rfl
  | .map (some _) => trivial
  | .chan _ => trivial
  | .func .. => trivial
  | .nilFunc => rfl
  | .iface .. => trivial
  | .nilIface => rfl
  | .agg ⟨l⟩ => by unfold absV RV; exact ⟨⟨l⟩, rfl, RVL_abs ι hb l⟩
  | .tuple _ => trivial
theorem RVL_abs {b b' : Nat} (ι : List Loc) (hb : b ≤ b') : (l : List Value) → RVL b' ι (absL b l) l
  | [] => rfl
  | v :: l => by unfold absL RVL; exact ⟨v, l, rfl, RV_abs ι hb v, RVL_abs ι hb l⟩
end

end Go.Abs
