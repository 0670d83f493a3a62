import Derived.Test.YtbpojmneffngoaaE4z
namespace Go.Proofs.Ytbpojmneffngoaa
open Go Go.Abs Go.Abs.GF
set_option linter.unusedVariables false
set_option linter.unusedSimpArgs false
set_option maxHeartbeats 4000000
attribute [local irreducible] ASpec AWp WP AOps DOps
abbrev Ints := List Int
def atOk (n : Int) (l : Ints) : Prop := l.Nodup ∧ ∀ i, i < l.length → 0 ≤ l.getD i 0 ∧ l.getD i 0 < n
def decOk (k n : Int) (l : Ints) (ch : Rows8) : Prop := codeMay k n ∧ l.length = ch.length ∧ evenP ch ∧ atOk n l
instance (k n : Int) (l : Ints) (ch : Rows8) : Decidable (decOk k n l ch) := by unfold decOk atOk; infer_instance
def pickG (k : Nat) (l : Ints) : Rows8 := (l.map Int.toNat).map (genRow k)
theorem pickG_len (k : Nat) (l : Ints) : (pickG k l).length = l.length := by simp [pickG]
theorem pickG_get {k i : Nat} {l : Ints} (h : i < l.length) : (pickG k l).getD i [] = genRow k (l.getD i 0).toNat := by simp [pickG, List.getD, h]
theorem take_ok {n : Int} {l : Ints} (h : atOk n l) (t : Nat) : atOk n (l.take t) := by
  refine ⟨h.1.sublist (List.take_sublist t l), fun i hi => ?_⟩
  have hi2 : i < t ∧ i < l.length := by rw [List.length_take] at hi; omega
  have : (l.take t).getD i 0 = l.getD i 0 := by simp [List.getD, List.getElem?_take, hi2.1]
  rw [this]
  exact h.2 i hi2.2
theorem toNat_nodup {n : Int} {l : Ints} (h : atOk n l) : (l.map Int.toNat).Nodup := by
  obtain ⟨h1, h2⟩ := h
  have hp : ∀ x ∈ l, 0 ≤ x := fun x hx => by
    obtain ⟨i, hi, e⟩ := List.getElem_of_mem hx
    have := (h2 i hi).1
    rwa [show l.getD i 0 = x by simp [List.getD, hi, e]] at this
  clear h2
  induction l with
  | nil => simp
  | cons a l ih =>
    rw [List.nodup_cons] at h1
    rw [List.map_cons, List.nodup_cons]
    refine ⟨fun hm => ?_, ih h1.2 fun x hx => hp x (by simp [hx])⟩
    obtain ⟨b, hb, e⟩ := List.mem_map.1 hm
    have h3 := hp b (by simp [hb])
    have h4 := hp a (by simp)
    have : a = b := by omega
    exact h1.1 (this ▸ hb)
theorem pickG_regular {k n : Nat} (hkn : k < n) (hn : n ≤ 255) {l : Ints} (hl : l.length = k) (h : atOk n l) : ¬ Singular k (pickG k l) :=
  pick_regular hkn hn (by simp [hl]) (toNat_nodup h) fun i hi => by
    obtain ⟨x, hx, rfl⟩ := List.mem_map.1 hi
    obtain ⟨j, hj, e⟩ := List.getElem_of_mem hx
    have := h.2 j hj
    rw [show l.getD j 0 = x by simp [List.getD, hj, e]] at this
    omega
theorem pickG_sq {k : Nat} (h1 : 1 ≤ k) (h2 : k ≤ 255) {l : Ints} (hl : l.length = k) : sq (pickG k l) := by
  have hp := pickG_len k l
  have hr : ∀ i, i < k → ((pickG k l).getD i []).length = k := fun i hi => by rw [pickG_get (by omega), genRow_len]
  have h0 := hr 0 (by omega)
  exact ⟨⟨by omega, by omega, by omega, by omega, fun i hi => by rw [hr i (by omega), h0]⟩, by omega⟩
def decRes (H : AH) (k n : Int) (l : Ints) (ch : Rows8) (r : AV) (H' : AH) : Prop :=
  if decOk k n l ch then
    if (l.length : Int) < k then r = .tup [.nilslice, .int .i64 4] ∧ Grew H H'
    else ∃ X B ws, IsInv k.toNat (pickG k.toNat (l.take k.toNat)) X ∧ r = .tup [.slice ⟨false, B, 0⟩ k.toNat (.known k.toNat), .int .i64 0] ∧ NewRows H H' B ws (mulRows X (ch.take k.toNat))
  else r = .tup [.nilslice, .int .i64 1] ∧ Grew H H'
def seenN (n : Nat) (m : Ints) : List AV := (List.range n).map fun (b : Nat) => AV.bool (decide ((b : Int) ∈ m))
theorem seenN_0 (n : Nat) : seenN n [] = List.replicate n (.bool false) := by
  apply List.ext_getElem (by simp [seenN])
  intro i h1 h2
  simp [seenN]
theorem seenN_len (n : Nat) (m : Ints) : (seenN n m).length = n := by simp [seenN]
theorem seenN_get {n : Nat} {m : Ints} {i : Nat} (h : i < n) : (seenN n m)[i]? = some (.bool (decide ((i : Int) ∈ m))) := by simp [seenN, h]
theorem seenN_set {n : Nat} {m : Ints} {i : Nat} (h : i < n) : (seenN n m).set i (.bool true) = seenN n (m ++ [(i : Int)]) := by
  apply List.ext_getElem (by simp [seenN])
  intro j h1 h2
  simp only [seenN, List.getElem_set, List.getElem_map, List.getElem_range, List.mem_append, List.mem_cons, List.not_mem_nil, or_false]
  split
  · rename_i e; subst e; simp
  · rename_i e
    have : ¬ (j : Int) = i := by omega
    simp [this]
def seenL (m : Ints) : List AV := seenN 255 m
theorem seen_0 : seenL [] = List.replicate 255 (.bool false) := seenN_0 255
theorem seen_len (m : Ints) : (seenL m).length = 255 := seenN_len 255 m
theorem seen_get {m : Ints} {i : Nat} (h : i < 255) : (seenL m)[i]? = some (.bool (decide ((i : Int) ∈ m))) := seenN_get h
theorem seen_set {m : Ints} {i : Nat} (h : i < 255) : (seenL m).set i (.bool true) = seenL (m ++ [(i : Int)]) := seenN_set h
theorem dec_seen {k n : Int} {l : Ints} {ch : Rows8} (hn : ¬ decOk k n l ch) : ∀ {H r H'}, r = .tup [.nilslice, .int .i64 1] ∧ Grew H H' → decRes H k n l ch r H' := fun h => by rw [decRes, if_neg hn]; exact h
end Go.Proofs.Ytbpojmneffngoaa
