import Derived.Test.YtbpojmneffngoaaG1z
set_option linter.unusedVariables false
set_option linter.unusedSimpArgs false
namespace Go.Abs.GF
def pstep (a b i p : Nat) : Nat := if b / 2 ^ i % 2 = 1 then p ^^^ (a * 2 ^ i) else p
def pmul (a b : Nat) : Nat → Nat
  | 0 => 0
  | i + 1 => pstep a b i (pmul a b i)
def rstep (i p : Nat) : Nat := if p / 2 ^ i % 2 = 1 then p ^^^ (285 * 2 ^ (i - 8)) else p
def rdown (p : Nat) : Nat → Nat
  | 0 => p
  | k + 1 => rstep (14 - k) (rdown p k)
def rmul (a b : Nat) : Nat := rdown (pmul a b 8) 7
theorem tb (x i : Nat) : (x / 2 ^ i % 2 = 1) = (x.testBit i = true) := by rw [Nat.testBit_eq_decide_div_mod_eq]; simp
theorem mul_pow_xor (a b i : Nat) : (a ^^^ b) * 2 ^ i = (a * 2 ^ i) ^^^ (b * 2 ^ i) := by
  rw [← Nat.shiftLeft_eq, ← Nat.shiftLeft_eq, ← Nat.shiftLeft_eq, Nat.shiftLeft_xor_distrib]
theorem xor4 (a b c d : Nat) : (a ^^^ b) ^^^ (c ^^^ d) = (a ^^^ c) ^^^ (b ^^^ d) := by
  rw [Nat.xor_assoc, Nat.xor_assoc, ← Nat.xor_assoc b c d, Nat.xor_comm b c, Nat.xor_assoc c b d]
theorem pmul_left (a a' b : Nat) : ∀ n, pmul (a ^^^ a') b n = pmul a b n ^^^ pmul a' b n
  | 0 => (Nat.xor_self 0).symm
  | n + 1 => by
    simp only [pmul, pstep, pmul_left a a' b n]
    split
    · rw [mul_pow_xor, xor4]
    · rfl
theorem pmul_right (a b b' : Nat) : ∀ n, pmul a (b ^^^ b') n = pmul a b n ^^^ pmul a b' n
  | 0 => (Nat.xor_self 0).symm
  | n + 1 => by
    simp only [pmul, pstep, pmul_right a b b' n, tb, Nat.testBit_xor]
    cases b.testBit n <;> cases b'.testBit n <;> simp
    · rw [Nat.xor_assoc]
    · rw [Nat.xor_assoc, Nat.xor_assoc, Nat.xor_comm (a * 2 ^ n)]
    · rw [xor4, Nat.xor_self, Nat.xor_zero]
theorem rstep_xor (i p q : Nat) : rstep i (p ^^^ q) = rstep i p ^^^ rstep i q := by
  simp only [rstep, tb, Nat.testBit_xor]
  cases p.testBit i <;> cases q.testBit i <;> simp
  · rw [Nat.xor_assoc]
  · rw [Nat.xor_assoc, Nat.xor_comm q, ← Nat.xor_assoc]
  · rw [xor4, Nat.xor_self, Nat.xor_zero]
theorem rdown_xor (p q : Nat) : ∀ n, rdown (p ^^^ q) n = rdown p n ^^^ rdown q n
  | 0 => rfl
  | n + 1 => by simp only [rdown, rdown_xor p q n, rstep_xor]
theorem ofNat_xor (x y : Nat) : UInt8.ofNat (x ^^^ y) = UInt8.ofNat x ^^^ UInt8.ofNat y := by
  apply UInt8.toNat.inj
  rw [UInt8.toNat_ofNat', UInt8.toNat_xor, UInt8.toNat_ofNat', UInt8.toNat_ofNat', Nat.xor_mod_two_pow]
theorem rmul_eq (a b : UInt8) : UInt8.ofNat (rmul a.toNat b.toNat) = gmul a b := by
  have h1 : ∀ b : UInt8, Add1 fun a => UInt8.ofNat (rmul a.toNat b.toNat) := fun b x y => by
    simp only [rmul, UInt8.toNat_xor, pmul_left, rdown_xor, ofNat_xor]
  have h2 : ∀ a : UInt8, Add1 fun b => UInt8.ofNat (rmul a.toNat b.toNat) := fun a x y => by
    simp only [rmul, UInt8.toNat_xor, pmul_right, rdown_xor, ofNat_xor]
  refine Add1.ext (h1 b) (add_left b) ?_ ?_ ?_ ?_ ?_ ?_ ?_ ?_ a
  all_goals
    refine Add1.ext (h2 _) (add_right _) ?_ ?_ ?_ ?_ ?_ ?_ ?_ ?_ b <;> decide +kernel
theorem pmul_lt {a : Nat} (b : Nat) (ha : a < 256) : ∀ n, n ≤ 8 → pmul a b n < 2 ^ 15
  | 0, _ => by simp [pmul]
  | n + 1, h => by
    have ih := pmul_lt b ha n (by omega)
    simp only [pmul, pstep]
    split
    · refine Nat.xor_lt_two_pow ih ?_
      have : 2 ^ n ≤ 2 ^ 7 := Nat.pow_le_pow_right (by omega) (by omega)
      have := Nat.mul_lt_mul_of_lt_of_le ha this (by omega)
      omega
    · exact ih
theorem rdown_lt {p : Nat} (hp : p < 2 ^ 15) : ∀ n, rdown p n < 2 ^ 15
  | 0 => hp
  | n + 1 => by
    have ih := rdown_lt hp n
    simp only [rdown, rstep]
    split
    · refine Nat.xor_lt_two_pow ih ?_
      have : 2 ^ (14 - n - 8) ≤ 2 ^ 6 := Nat.pow_le_pow_right (by omega) (by omega)
      have := Nat.mul_le_mul_left 285 this
      omega
    · exact ih
end Go.Abs.GF
