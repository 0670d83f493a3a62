/- Plain laws of combinations: they are linear, and so is the product. -/
import Derived.Test.YtblakmabfijofaaV3
namespace Go.Proofs.Ytblakmabfijofaa
open Go Go.Abs Go.Abs.GF
set_option linter.unusedVariables false
set_option linter.unusedSimpArgs false
set_option maxHeartbeats 4000000
attribute [local irreducible] ASpec AWp WP AOps DOps

theorem xor4u (a b c d : UInt8) : (a ^^^ b) ^^^ (c ^^^ d) = (a ^^^ c) ^^^ (b ^^^ d) := by
  rw [UInt8.xor_assoc, ← UInt8.xor_assoc b, UInt8.xor_comm b c, UInt8.xor_assoc c, ← UInt8.xor_assoc]
theorem dotB_zero : ∀ (n : Nat) (v : List UInt8), dotB (List.replicate n 0) v = 0
  | 0, v => by simp [dotB]
  | n + 1, [] => by simp [List.replicate, dotB]
  | n + 1, x :: v => by simp [List.replicate, dotB, zero_mul, dotB_zero n v]
theorem dotB_comb1 : ∀ {A B v : List UInt8} {c : UInt8}, A.length = v.length → B.length = v.length →
    dotB (List.zipWith (fun x y => x ^^^ gmul y c) A B) v = dotB A v ^^^ gmul (dotB B v) c
  | [], [], [], c, _, _ => by simp [dotB, zero_mul]
  | a :: A, b :: B, x :: v, c, h1, h2 => by
    simp only [List.zipWith_cons_cons, dotB]
    rw [dotB_comb1 (by simpa using h1) (by simpa using h2), xor_mul, xor_mul, mul_assoc b c x, mul_comm c x, ← mul_assoc, xor4u]
  | [], b :: B, v, c, h1, h2 => by simp at h1 h2; omega
  | [], [], x :: v, c, h1, h2 => by simp at h1
  | a :: A, [], v, c, h1, h2 => by simp at h1 h2; omega
  | a :: A, b :: B, [], c, h1, h2 => by simp at h1

/-- The products of the first rows, combined. -/
def dotsAt (c : List UInt8) (rows : List (List UInt8)) (v : List UInt8) : Nat → UInt8
  | 0 => 0
  | i + 1 => dotsAt c rows v i ^^^ gmul (dotB (rows.getD i []) v) (c.getD i 0)
theorem dot_comb {c : List UInt8} {rows : List (List UInt8)} {v : List UInt8} : ∀ {i : Nat}, (∀ j, j < i → (rows.getD j []).length = v.length) → dotB (combAt c rows v.length i) v = dotsAt c rows v i
  | 0, _ => by rw [combAt, dotB_zero]; rfl
  | i + 1, h => by
    rw [combAt, dotB_comb1 (combAt_len fun j hj => h j (by omega)) (h i (by omega)), dot_comb fun j hj => h j (by omega)]
    rfl
theorem zip_add {c : UInt8} : ∀ {X Y A B : List UInt8}, X.length = Y.length → A.length = X.length → B.length = X.length →
    List.zipWith (fun x y => x ^^^ gmul y c) (List.zipWith (fun x y => x ^^^ y) X Y) (List.zipWith (fun x y => x ^^^ y) A B) = List.zipWith (fun x y => x ^^^ y) (List.zipWith (fun x y => x ^^^ gmul y c) X A) (List.zipWith (fun x y => x ^^^ gmul y c) Y B)
  | [], [], [], [], _, _, _ => rfl
  | x :: X, y :: Y, a :: A, b :: B, h1, h2, h3 => by
    simp only [List.zipWith_cons_cons]
    rw [zip_add (by simpa using h1) (by simpa using h2) (by simpa using h3), xor_mul, xor4u]
  | [], y :: Y, _, _, h, _, _ => by simp at h
  | x :: X, [], _, _, h, _, _ => by simp at h
  | [], [], a :: A, _, _, h, _ => by simp at h
  | [], [], [], b :: B, _, _, h => by simp at h
  | x :: X, y :: Y, [], _, _, h, _ => by simp at h
  | x :: X, y :: Y, a :: A, [], _, _, h => by simp at h
/-- A combination of sums is the sum of combinations. -/
theorem comb_add {c : List UInt8} {S A B : List (List UInt8)} {n : Nat} : ∀ {i : Nat}, (∀ j, j < i → (A.getD j []).length = n) → (∀ j, j < i → (B.getD j []).length = n) → (∀ j, j < i → S.getD j [] = List.zipWith (fun x y => x ^^^ y) (A.getD j []) (B.getD j [])) →
    combAt c S n i = List.zipWith (fun x y => x ^^^ y) (combAt c A n i) (combAt c B n i)
  | 0, _, _, _ => by simp [combAt, List.zipWith_replicate]
  | i + 1, h1, h2, h3 => by
    have k1 := combAt_len (c := c) (n := n) fun j (hj : j < i) => h1 j (by omega)
    have k2 := combAt_len (c := c) (n := n) fun j (hj : j < i) => h2 j (by omega)
    rw [combAt, comb_add (fun j hj => h1 j (by omega)) (fun j hj => h2 j (by omega)) (fun j hj => h3 j (by omega)), h3 i (by omega), zip_add (by omega) (by rw [h1 i (by omega), k1]) (by rw [h2 i (by omega), k1])]
    rfl
end Go.Proofs.Ytblakmabfijofaa
