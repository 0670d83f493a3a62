/- The statement ChunkTorn, as a call over the abstract memory. -/
import Derived.Test.YtnpfoaapoinfjaaC4
namespace Go.Proofs.Ytnpfoaapoinfjaa
open Go Go.Abs Go.Abs.GF
set_option linter.unusedVariables false
set_option linter.unusedSimpArgs false
set_option maxHeartbeats 4000000
attribute [local irreducible] ASpec AWp WP AOps DOps

theorem odd_or (x : BitVec 64) : (x ||| BitVec.ofInt 64 1).toNat ≠ 0 := fun h => by
  have h1 : (x ||| BitVec.ofInt 64 1) = 0#64 := BitVec.eq_of_toNat_eq h
  have h2 := congrArg (fun y : BitVec 64 => y.getLsbD 0) h1
  simp at h2
theorem or_one (n : Nat) : ∃ p : Nat, IntKind.u64.wrap (((BitVec.ofInt 64 (n : Int) ||| BitVec.ofInt 64 1).toNat : Nat) : Int) = (p : Int) ∧ p ≠ 0 ∧ p < 18446744073709551616 := by
  have h := (BitVec.ofInt 64 (n : Int) ||| BitVec.ofInt 64 1).isLt
  exact ⟨_, IntWalk.u64_in _ ⟨by omega, by omega⟩, odd_or _, by omega⟩

theorem Dat.bools {P : Program} {H : AH} {n : Nat} {t : TypeId} {cs : List AV} (D : Dat P H n t cs) {e : TypeId} (hu : P.underlying t = some (.slice e)) (hs : sizeA P e = some 1) (hb : bytesA P e = some 1) (he : P.underlying e = some .bool) :
    ∃ v k row, ∃ c : Nat → Bool, cs = [v] ∧ Row H 1 v k row ∧ k ≤ 140737488351232 ∧ ∀ i, i < k → row[i]? = some (.bool (c i)) := by
  obtain ⟨v, k, row, h1, h2, h3, m, h4⟩ := D.slice hu (se := 0) hs hb
  have hl := h2.size
  have each : ∀ i, i < k → ∃ b, row[i]? = some (.bool b) := fun i hi => by
    obtain ⟨x, hx⟩ := (h4 i hi).bool he
    have := congrArg (·[0]?) hx
    simp at this
    exact ⟨x, this⟩
  refine ⟨v, k, row, fun i => match row[i]? with | some (.bool b) => b | _ => false, h1, h2, by omega, fun i hi => ?_⟩
  obtain ⟨b, hb⟩ := each i hi
  simp only [hb]

/-- How many of the first are taken. -/
def cnt (c : Nat → Bool) : Nat → Nat
  | 0 => 0
  | i + 1 => cnt c i + (if c i then 1 else 0)
theorem cnt_le (c : Nat → Bool) : ∀ i, cnt c i ≤ i
  | 0 => Nat.le_refl _
  | i + 1 => by have := cnt_le c i; simp only [cnt]; split <;> omega
theorem cnt_none {c : Nat → Bool} : ∀ {i : Nat}, cnt c i = 0 → ∀ j, j < i → c j = false
  | 0, _, j, hj => by omega
  | i + 1, h, j, hj => by
    simp only [cnt] at h
    by_cases hc : c i = true
    · rw [if_pos hc] at h; omega
    · by_cases hji : j = i
      · rw [hji]; simpa using hc
      · exact cnt_none (i := i) (by omega) j (by omega)
theorem cnt_all {c : Nat → Bool} : ∀ {i : Nat}, cnt c i = i → ∀ j, j < i → c j = true
  | 0, _, j, hj => by omega
  | i + 1, h, j, hj => by
    have hle := cnt_le c i
    simp only [cnt] at h
    by_cases hc : c i = true
    · by_cases hji : j = i
      · rw [hji]; exact hc
      · exact cnt_all (i := i) (by rw [if_pos hc] at h; omega) j (by omega)
    · rw [if_neg hc] at h; omega
theorem cnt_some {c : Nat → Bool} {i : Nat} (h : cnt c i ≠ 0) : ∃ j, j < i ∧ c j = true := by
  by_cases hx : ∃ j, j < i ∧ c j = true
  · exact hx
  · exfalso
    have : ∀ k, k ≤ i → cnt c k = 0 := by
      intro k
      induction k with
      | zero => intro _; rfl
      | succ k ih =>
        intro hk
        simp only [cnt, ih (by omega)]
        rw [if_neg fun hc => hx ⟨k, by omega, hc⟩]
    exact h (this i (Nat.le_refl _))
theorem cnt_not {c : Nat → Bool} {i : Nat} (h : cnt c i ≠ i) : ∃ j, j < i ∧ c j = false := by
  by_cases hx : ∃ j, j < i ∧ c j = false
  · exact hx
  · exfalso
    have : ∀ k, k ≤ i → cnt c k = k := by
      intro k
      induction k with
      | zero => intro _; rfl
      | succ k ih =>
        intro hk
        have hc : c k = true := by
          cases hck : c k with
          | true => rfl
          | false => exact absurd ⟨k, by omega, hck⟩ hx
        simp only [cnt, ih (by omega), hc]
        rfl
    exact h (this i (Nat.le_refl _))

def mixC (c : Nat → Bool) (p q : Nat) (xs ys : List UInt8) (k : Nat) : List (List UInt8) := (List.range k).map fun j => if c j then sector q (part ys j) else sector p (part xs j)
theorem mixC_len {c : Nat → Bool} {p q : Nat} {xs ys : List UInt8} {k : Nat} : (mixC c p q xs ys k).length = k := by simp [mixC]
theorem mixC_s {c : Nat → Bool} {p q : Nat} {xs ys : List UInt8} {k : Nat} : mixC c p q xs ys (k + 1) = mixC c p q xs ys k ++ [if c k then sector q (part ys k) else sector p (part xs k)] := by simp [mixC, List.range_succ]
theorem mixC_get {c : Nat → Bool} {p q : Nat} {xs ys : List UInt8} {k i : Nat} (h : i < k) : (mixC c p q xs ys k).getD i [] = if c i then sector q (part ys i) else sector p (part xs i) := by simp [mixC, List.getD, h]
theorem mixC_none {c : Nat → Bool} {p q : Nat} {xs ys : List UInt8} {k : Nat} (h : cnt c k = 0) : mixC c p q xs ys k = sectors p xs k := by
  unfold mixC sectors
  refine List.map_congr_left fun j hj => ?_
  rw [cnt_none h j (by simpa using hj)]
  rfl
theorem mixC_all {c : Nat → Bool} {p q : Nat} {xs ys : List UInt8} {k : Nat} (h : cnt c k = k) : mixC c p q xs ys k = sectors q ys k := by
  unfold mixC sectors
  refine List.map_congr_left fun j hj => ?_
  rw [cnt_all h j (by simpa using hj)]
  rfl
theorem mixC_stamp {c : Nat → Bool} {p q : Nat} {xs ys : List UInt8} {k i : Nat} (hp : p < 2 ^ 64) (hq : q < 2 ^ 64) (hx : 56 * k ≤ xs.length) (hy : 56 * k ≤ ys.length) (h : i < k) : ((mixC c p q xs ys k).getD i []).length = 64 ∧ stampOf ((mixC c p q xs ys k).getD i []) = if c i then q else p := by
  rw [mixC_get h]
  split
  · exact ⟨sector_len (by rw [part_len (by omega)]; omega), stampOf_sector hq (part_len (by omega))⟩
  · exact ⟨sector_len (by rw [part_len (by omega)]; omega), stampOf_sector hp (part_len (by omega))⟩
/-- A mix of both is a chunk just where the stamps are the same. -/
theorem mixC_take {c : Nat → Bool} {p q : Nat} {xs ys : List UInt8} {k : Nat} (hp : p < 2 ^ 64) (hq : q < 2 ^ 64) (hp0 : p ≠ 0) (hq0 : q ≠ 0) (hx : 56 * k ≤ xs.length) (hy : 56 * k ≤ ys.length) (hk : 0 < k ∧ k ≤ 64) (h0 : cnt c k ≠ 0) (h1 : cnt c k ≠ k) :
    (takeC (mixC c p q xs ys k)).isSome = decide (p = q) := by
  have hst := fun {i} (h : i < k) => mixC_stamp (c := c) (xs := xs) (ys := ys) hp hq hx hy h
  by_cases he : p = q
  · subst he
    rw [takeC, if_pos]
    · simp
    · rw [mixC_len]
      refine ⟨hk.1, hk.2, fun i hi => ?_⟩
      rw [mixC_len] at hi
      have a1 := hst hi
      have a2 := hst hk.1
      simp only [ite_self] at a1 a2
      exact ⟨a1.1, by rw [a1.2, a2.2], by rw [a2.2]; exact hp0⟩
  · rw [takeC, if_neg]
    · simp [he]
    · rintro ⟨_, _, hall⟩
      obtain ⟨i, hi, ci⟩ := cnt_some h0
      obtain ⟨j, hj, cj⟩ := cnt_not h1
      have b1 := (hall i (by rw [mixC_len]; exact hi)).2.1
      have b2 := (hall j (by rw [mixC_len]; exact hj)).2.1
      rw [(hst hi).2, ci, if_pos rfl] at b1
      rw [(hst hj).2, cj] at b2
      simp only [Bool.false_eq_true, if_false] at b2
      exact he (b2.trans b1.symm)
end Go.Proofs.Ytnpfoaapoinfjaa
