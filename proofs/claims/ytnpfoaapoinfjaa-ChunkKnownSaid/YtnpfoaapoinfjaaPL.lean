/- Plain laws of sectors. -/
import Derived.Test.YtnpfoaapoinfjaaP1
namespace Go.Proofs.Ytnpfoaapoinfjaa
open Go Go.Abs Go.Abs.GF
set_option linter.unusedVariables false
set_option linter.unusedSimpArgs false
set_option maxHeartbeats 4000000
attribute [local irreducible] ASpec AWp WP AOps DOps

theorem be8_list (n : Nat) : be8 n = [UInt8.ofNat (n / 72057594037927936), UInt8.ofNat (n / 281474976710656), UInt8.ofNat (n / 1099511627776), UInt8.ofNat (n / 4294967296), UInt8.ofNat (n / 16777216), UInt8.ofNat (n / 65536), UInt8.ofNat (n / 256), UInt8.ofNat n] := by
  simp [be8, List.range, List.range.loop]

theorem num_be8 {n : Nat} (h : n < 2 ^ 64) : num (be8 n) = n := by
  rw [be8_list]
  simp only [num, List.foldl, UInt8.toNat_ofNat']
  omega

theorem be8_num {l : List UInt8} (h : l.length = 8) : be8 (num l) = l := by
  match l, h with
  | [a, b, c, d, e, f, g, k], _ =>
    have := a.toNat_lt; have := b.toNat_lt; have := c.toNat_lt; have := d.toNat_lt
    have := e.toNat_lt; have := f.toNat_lt; have := g.toNat_lt; have := k.toNat_lt
    rw [be8_list]
    simp only [num, List.foldl]
    refine List.cons_eq_cons.2 ⟨?_, List.cons_eq_cons.2 ⟨?_, List.cons_eq_cons.2 ⟨?_, List.cons_eq_cons.2 ⟨?_, List.cons_eq_cons.2 ⟨?_, List.cons_eq_cons.2 ⟨?_, List.cons_eq_cons.2 ⟨?_, List.cons_eq_cons.2 ⟨?_, rfl⟩⟩⟩⟩⟩⟩⟩⟩ <;>
      (apply UInt8.toNat.inj; rw [UInt8.toNat_ofNat']; omega)

theorem num_lt8 {l : List UInt8} (h : l.length = 8) : num l < 2 ^ 64 := by
  have := num_lt l 8 (by omega)
  rwa [List.take_of_length_le (by omega)] at this

theorem num_fold (l : List UInt8) : ∀ a, l.foldl (fun n b => 256 * n + b.toNat) a = a * 256 ^ l.length + num l := by
  induction l with
  | nil => intro a; simp [num]
  | cons x l ih =>
    intro a
    simp only [List.foldl, num, List.length_cons]
    rw [ih, ih (256 * 0 + x.toNat), Nat.pow_succ]
    simp only [Nat.mul_zero, Nat.zero_add]
    rw [Nat.add_mul, Nat.mul_comm 256 a, Nat.mul_assoc, Nat.mul_comm 256 (256 ^ l.length), Nat.add_assoc]

theorem num_cons (x : UInt8) (l : List UInt8) : num (x :: l) = x.toNat * 256 ^ l.length + num l := by
  show l.foldl _ (256 * 0 + x.toNat) = _
  rw [num_fold]; simp

theorem num_bound (l : List UInt8) : num l < 256 ^ l.length := by
  have := num_lt l l.length (Nat.le_refl _)
  rwa [List.take_length] at this

theorem less_num (s : List UInt8) : ∀ l m : List UInt8, l.length = m.length → (Op.bytesLess (l ++ s) (m ++ s) = decide (num l < num m))
  | [], [], _ => by
    simp only [List.nil_append, num, List.foldl]
    induction s with
    | nil => rfl
    | cons x s ih => simp [Op.bytesLess, ih]
  | x :: l, y :: m, h => by
    have ih := less_num s l m (by simpa using h)
    simp only [List.length_cons, Nat.add_right_cancel_iff] at h
    rw [num_cons, num_cons, h]
    have h1 := num_bound l
    have h2 := num_bound m
    rw [h] at h1
    simp only [List.cons_append, Op.bytesLess]
    rw [ih]
    generalize 256 ^ m.length = K at *
    rcases Nat.lt_trichotomy x.toNat y.toNat with hlt | heq | hgt
    · have h3 := Nat.mul_le_mul_right K (show x.toNat + 1 ≤ y.toNat from hlt)
      rw [Nat.add_mul] at h3
      rw [decide_eq_true (UInt8.lt_iff_toNat_lt.2 hlt), decide_eq_true (show x.toNat * K + num l < y.toNat * K + num m by omega)]
      rfl
    · have : x = y := UInt8.toNat.inj heq
      subst this
      simp
    · have h3 := Nat.mul_le_mul_right K (show y.toNat + 1 ≤ x.toNat from hgt)
      rw [Nat.add_mul] at h3
      rw [decide_eq_false (fun h => by have := UInt8.lt_iff_toNat_lt.1 h; omega), decide_eq_false (show ¬ x.toNat * K + num l < y.toNat * K + num m by omega)]
      have : (x == y) = false := beq_eq_false_iff_ne.2 fun h => by subst h; omega
      rw [this]; rfl

theorem sector_less {n m : Nat} (hn : n < 2 ^ 64) (hm : m < 2 ^ 64) (xs : List UInt8) : Op.bytesLess (sector n xs) (sector m xs) = decide (n < m) := by
  unfold sector
  rw [List.append_assoc, List.append_assoc, less_num _ _ _ (by simp [be8_len]), num_be8 hn, num_be8 hm]

theorem sector_eq {n m : Nat} (hn : n < 2 ^ 64) (hm : m < 2 ^ 64) (xs : List UInt8) : (sector n xs == sector m xs) = decide (n = m) := by
  by_cases h : n = m
  · subst h; simp
  · rw [decide_eq_false h]
    refine beq_eq_false_iff_ne.2 fun he => h ?_
    unfold sector at he
    rw [List.append_assoc, List.append_assoc] at he
    have := (List.append_inj he (by simp [be8_len])).1
    rw [← num_be8 hn, ← num_be8 hm, this]

theorem sector_take (n : Nat) (xs : List UInt8) : (sector n xs).take 8 = be8 n := by
  unfold sector
  rw [List.append_assoc, List.take_append_of_le_length (by simp [be8_len]), List.take_of_length_le (by simp [be8_len])]

theorem sector_drop (n : Nat) (xs : List UInt8) : (sector n xs).drop 8 = xs ++ List.replicate (56 - xs.length) 0 := by
  unfold sector
  rw [List.append_assoc, List.drop_append, List.drop_of_length_le (by simp [be8_len])]
  simp [be8_len]

theorem sector_back {xs : List UInt8} (h : xs.length = 64) : sector (num (xs.take 8)) (xs.drop 8) = xs := by
  unfold sector
  rw [be8_num (by simp; omega), show 56 - (xs.drop 8).length = 0 by simp; omega]
  simp

theorem str_list' (xs : List UInt8) : (⟨xs.toArray⟩ : ByteArray).toList = xs := by rw [ByteArray.toList_eq]
end Go.Proofs.Ytnpfoaapoinfjaa
