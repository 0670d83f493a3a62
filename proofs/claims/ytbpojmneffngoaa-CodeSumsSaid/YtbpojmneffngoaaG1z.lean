set_option linter.unusedVariables false
set_option linter.unusedSimpArgs false
namespace Go.Abs.GF
def twice (a : UInt8) : UInt8 := if 128 ≤ a then (a <<< 1) ^^^ 29 else a <<< 1
def mulL : Nat → UInt8 → UInt8 → UInt8
  | 0, _, _ => 0
  | n + 1, a, b => (if b &&& 1 = 1 then a else 0) ^^^ mulL n (twice a) (b >>> 1)
def gmul (a b : UInt8) : UInt8 := mulL 8 a b
def Add1 (f : UInt8 → UInt8) : Prop := ∀ a b, f (a ^^^ b) = f a ^^^ f b
theorem all8 (p : UInt8 → Bool) (h : (List.range 256).all (fun i => p (UInt8.ofNat i)) = true) (a : UInt8) : p a = true := by
  have := List.all_eq_true.1 h a.toNat (List.mem_range.2 a.toNat_lt)
  simpa using this
theorem bits_cases (a : UInt8) : a = (((((((a &&& 1) ^^^ (a &&& 2)) ^^^ (a &&& 4)) ^^^ (a &&& 8)) ^^^ (a &&& 16)) ^^^ (a &&& 32)) ^^^ (a &&& 64)) ^^^ (a &&& 128) := by
  have := all8 (fun a => a == (((((((a &&& 1) ^^^ (a &&& 2)) ^^^ (a &&& 4)) ^^^ (a &&& 8)) ^^^ (a &&& 16)) ^^^ (a &&& 32)) ^^^ (a &&& 64)) ^^^ (a &&& 128)) (by decide +kernel) a
  simpa using this
theorem bit_cases (a : UInt8) : (a &&& 1 = 0 ∨ a &&& 1 = 1) ∧ (a &&& 2 = 0 ∨ a &&& 2 = 2) ∧ (a &&& 4 = 0 ∨ a &&& 4 = 4) ∧ (a &&& 8 = 0 ∨ a &&& 8 = 8) ∧ (a &&& 16 = 0 ∨ a &&& 16 = 16) ∧ (a &&& 32 = 0 ∨ a &&& 32 = 32) ∧ (a &&& 64 = 0 ∨ a &&& 64 = 64) ∧ (a &&& 128 = 0 ∨ a &&& 128 = 128) := by
  have := all8 (fun a => decide ((a &&& 1 = 0 ∨ a &&& 1 = 1) ∧ (a &&& 2 = 0 ∨ a &&& 2 = 2) ∧ (a &&& 4 = 0 ∨ a &&& 4 = 4) ∧ (a &&& 8 = 0 ∨ a &&& 8 = 8) ∧ (a &&& 16 = 0 ∨ a &&& 16 = 16) ∧ (a &&& 32 = 0 ∨ a &&& 32 = 32) ∧ (a &&& 64 = 0 ∨ a &&& 64 = 64) ∧ (a &&& 128 = 0 ∨ a &&& 128 = 128))) (by decide +kernel) a
  simpa using this
theorem Add1.zero {f : UInt8 → UInt8} (h : Add1 f) : f 0 = 0 := by
  have := h 0 0
  rw [UInt8.xor_self, UInt8.xor_self] at this
  exact this
theorem Add1.ext {f g : UInt8 → UInt8} (hf : Add1 f) (hg : Add1 g) (h1 : f 1 = g 1) (h2 : f 2 = g 2) (h4 : f 4 = g 4) (h8 : f 8 = g 8) (h16 : f 16 = g 16) (h32 : f 32 = g 32) (h64 : f 64 = g 64) (h128 : f 128 = g 128) (a : UInt8) : f a = g a := by
  have z : f 0 = g 0 := by rw [hf.zero, hg.zero]
  obtain ⟨c1, c2, c3, c4, c5, c6, c7, c8⟩ := bit_cases a
  rw [bits_cases a, hf, hf, hf, hf, hf, hf, hf, hg, hg, hg, hg, hg, hg, hg]
  have e : ∀ {x y : UInt8}, (x = 0 ∨ x = y) → f y = g y → f x = g x := fun h k => by
    rcases h with h | h
    · rw [h]; exact z
    · rw [h]; exact k
  rw [e c1 h1, e c2 h2, e c3 h4, e c4 h8, e c5 h16, e c6 h32, e c7 h64, e c8 h128]
theorem and_xor (a b c : UInt8) : (a ^^^ b) &&& c = (a &&& c) ^^^ (b &&& c) := by
  apply UInt8.toBitVec_inj.1
  apply BitVec.eq_of_getElem_eq
  intro i hi
  simp only [UInt8.toBitVec_and, UInt8.toBitVec_xor, BitVec.getElem_and, BitVec.getElem_xor]
  cases a.toBitVec[i] <;> cases b.toBitVec[i] <;> cases c.toBitVec[i] <;> rfl
theorem twice_add : Add1 twice := fun a b => by
  have h : ∀ a : UInt8, twice a = (a <<< 1) ^^^ (if a &&& 128 = 128 then 29 else 0) := fun a => by
    have := all8 (fun a => twice a == (a <<< 1) ^^^ (if a &&& 128 = 128 then 29 else 0)) (by decide +kernel) a
    simpa using this
  have k : ∀ a b : UInt8, (if (a ^^^ b) &&& 128 = 128 then (29 : UInt8) else 0) = (if a &&& 128 = 128 then 29 else 0) ^^^ (if b &&& 128 = 128 then 29 else 0) := fun a b => by
    rw [and_xor]
    rcases (bit_cases a).2.2.2.2.2.2.2 with h1 | h1 <;> rcases (bit_cases b).2.2.2.2.2.2.2 with h2 | h2 <;> rw [h1, h2] <;> rfl
  rw [h, h, h, k, UInt8.shiftLeft_xor]
  ac_rfl
theorem mulL_left (n : Nat) (b : UInt8) : Add1 fun a => mulL n a b := by
  induction n generalizing b with
  | zero => intro x y; exact (UInt8.xor_self (a := 0)).symm
  | succ n ih =>
    intro x y
    simp only [mulL]
    have ih := ih (b >>> 1) (twice x) (twice y)
    simp only at ih
    rw [twice_add, ih]
    split
    · ac_rfl
    · simp only [UInt8.zero_xor]
theorem mulL_right (n : Nat) (a : UInt8) : Add1 fun b => mulL n a b := by
  induction n generalizing a with
  | zero => intro x y; exact (UInt8.xor_self (a := 0)).symm
  | succ n ih =>
    intro x y
    simp only [mulL]
    have ih := ih (twice a) (x >>> 1) (y >>> 1)
    simp only at ih
    rw [UInt8.shiftRight_xor, ih]
    have k : (if (x ^^^ y) &&& 1 = 1 then a else 0) = (if x &&& 1 = 1 then a else 0) ^^^ (if y &&& 1 = 1 then a else 0) := by
      rw [and_xor]
      rcases (bit_cases x).1 with h1 | h1 <;> rcases (bit_cases y).1 with h2 | h2 <;> rw [h1, h2] <;> simp
    rw [k]
    ac_rfl
theorem mul_zero' (n : Nat) (a : UInt8) : mulL n a 0 = 0 := (mulL_right n a).zero
theorem mul_xor (a b c : UInt8) : gmul a (b ^^^ c) = gmul a b ^^^ gmul a c := mulL_right 8 a b c
theorem xor_mul (a b c : UInt8) : gmul (a ^^^ b) c = gmul a c ^^^ gmul b c := mulL_left 8 c a b
theorem add_left (b : UInt8) : Add1 fun a => gmul a b := mulL_left 8 b
theorem add_right (a : UInt8) : Add1 fun b => gmul a b := mulL_right 8 a
theorem mul_zero (a : UInt8) : gmul a 0 = 0 := (add_right a).zero
theorem zero_mul (a : UInt8) : gmul 0 a = 0 := (add_left a).zero
theorem mul_comm (a b : UInt8) : gmul a b = gmul b a := by
  refine Add1.ext (add_left b) (add_right b) ?_ ?_ ?_ ?_ ?_ ?_ ?_ ?_ a
  all_goals
    refine Add1.ext (add_right _) (add_left _) ?_ ?_ ?_ ?_ ?_ ?_ ?_ ?_ b <;> decide +kernel
theorem Add1.comp {f g : UInt8 → UInt8} (hf : Add1 f) (hg : Add1 g) : Add1 fun a => f (g a) := fun a b => by show f (g (a ^^^ b)) = _; rw [hg, hf]
theorem mul_assoc (a b c : UInt8) : gmul (gmul a b) c = gmul a (gmul b c) := by
  refine Add1.ext ((add_left c).comp (add_left b)) (add_left (gmul b c)) ?_ ?_ ?_ ?_ ?_ ?_ ?_ ?_ a
  all_goals
    refine Add1.ext ((add_left c).comp (add_right _)) ((add_right _).comp (add_left c)) ?_ ?_ ?_ ?_ ?_ ?_ ?_ ?_ b
  all_goals
    refine Add1.ext (add_right _) ((add_right _).comp (add_right _)) ?_ ?_ ?_ ?_ ?_ ?_ ?_ ?_ c <;> decide +kernel
theorem mul_one (a : UInt8) : gmul a 1 = a := by
  have := all8 (fun a => gmul a 1 == a) (by decide +kernel) a
  simpa using this
theorem one_mul (a : UInt8) : gmul 1 a = a := by rw [mul_comm, mul_one]
def gpow (a : UInt8) : Nat → UInt8
  | 0 => 1
  | n + 1 => gmul (gpow a n) a
theorem gpow_add (a : UInt8) (m n : Nat) : gpow a (m + n) = gmul (gpow a m) (gpow a n) := by
  induction n with
  | zero => simp [gpow, mul_one]
  | succ n ih => rw [← Nat.add_assoc]; simp only [gpow]; rw [ih, mul_assoc]
theorem gpow_mul (a : UInt8) (m n : Nat) : gpow a (m * n) = gpow (gpow a m) n := by
  induction n with
  | zero => rfl
  | succ n ih => rw [Nat.mul_succ, gpow_add, ih]; rfl
def pows : Nat → UInt8 → List UInt8
  | 0, _ => []
  | n + 1, a => a :: pows n (twice a)
theorem twice_eq (a : UInt8) : twice a = gmul a 2 := by
  have := all8 (fun a => twice a == gmul a 2) (by decide +kernel) a
  simpa using this
theorem pows_get (n : Nat) : ∀ (a : UInt8) (i : Nat), i < n → (pows n a)[i]? = some (gmul a (gpow 2 i)) := by
  induction n with
  | zero => intro a i h; omega
  | succ n ih =>
    intro a i h
    cases i with
    | zero => simp [pows, gpow, mul_one]
    | succ i =>
      simp only [pows, List.getElem?_cons_succ]
      rw [ih _ i (by omega), twice_eq, mul_assoc]
      simp only [gpow]
      rw [mul_comm 2]
def logT : List Nat := [0, 0, 1, 25, 2, 50, 26, 198, 3, 223, 51, 238, 27, 104, 199, 75, 4, 100, 224, 14, 52, 141, 239, 129, 28, 193, 105, 248, 200, 8, 76, 113, 5, 138, 101, 47, 225, 36, 15, 33, 53, 147, 142, 218, 240, 18, 130, 69, 29, 181, 194, 125, 106, 39, 249, 185, 201, 154, 9, 120, 77, 228, 114, 166, 6, 191, 139, 98, 102, 221, 48, 253, 226, 152, 37, 179, 16, 145, 34, 136, 54, 208, 148, 206, 143, 150, 219, 189, 241, 210, 19, 92, 131, 56, 70, 64, 30, 66, 182, 163, 195, 72, 126, 110, 107, 58, 40, 84, 250, 133, 186, 61, 202, 94, 155, 159, 10, 21, 121, 43, 78, 212, 229, 172, 115, 243, 167, 87, 7, 112, 192, 247, 140, 128, 99, 13, 103, 74, 222, 237, 49, 197, 254, 24, 227, 165, 153, 119, 38, 184, 180, 124, 17, 68, 146, 217, 35, 32, 137, 46, 55, 63, 209, 91, 149, 188, 207, 205, 144, 135, 151, 178, 220, 252, 190, 97, 242, 86, 211, 171, 20, 42, 93, 158, 132, 60, 57, 83, 71, 109, 65, 162, 31, 45, 67, 216, 183, 123, 164, 118, 196, 23, 73, 236, 127, 12, 111, 246, 108, 161, 59, 82, 41, 157, 85, 170, 251, 96, 134, 177, 187, 204, 62, 90, 203, 89, 95, 176, 156, 169, 160, 81, 11, 245, 22, 235, 122, 117, 44, 215, 79, 174, 213, 233, 230, 231, 173, 232, 116, 214, 244, 234, 168, 80, 88, 175]
def powT : List UInt8 := [1, 2, 4, 8, 16, 32, 64, 128, 29, 58, 116, 232, 205, 135, 19, 38, 76, 152, 45, 90, 180, 117, 234, 201, 143, 3, 6, 12, 24, 48, 96, 192, 157, 39, 78, 156, 37, 74, 148, 53, 106, 212, 181, 119, 238, 193, 159, 35, 70, 140, 5, 10, 20, 40, 80, 160, 93, 186, 105, 210, 185, 111, 222, 161, 95, 190, 97, 194, 153, 47, 94, 188, 101, 202, 137, 15, 30, 60, 120, 240, 253, 231, 211, 187, 107, 214, 177, 127, 254, 225, 223, 163, 91, 182, 113, 226, 217, 175, 67, 134, 17, 34, 68, 136, 13, 26, 52, 104, 208, 189, 103, 206, 129, 31, 62, 124, 248, 237, 199, 147, 59, 118, 236, 197, 151, 51, 102, 204, 133, 23, 46, 92, 184, 109, 218, 169, 79, 158, 33, 66, 132, 21, 42, 84, 168, 77, 154, 41, 82, 164, 85, 170, 73, 146, 57, 114, 228, 213, 183, 115, 230, 209, 191, 99, 198, 145, 63, 126, 252, 229, 215, 179, 123, 246, 241, 255, 227, 219, 171, 75, 150, 49, 98, 196, 149, 55, 110, 220, 165, 87, 174, 65, 130, 25, 50, 100, 200, 141, 7, 14, 28, 56, 112, 224, 221, 167, 83, 166, 81, 162, 89, 178, 121, 242, 249, 239, 195, 155, 43, 86, 172, 69, 138, 9, 18, 36, 72, 144, 61, 122, 244, 245, 247, 243, 251, 235, 203, 139, 11, 22, 44, 88, 176, 125, 250, 233, 207, 131, 27, 54, 108, 216, 173, 71, 142]
def glog (a : UInt8) : Nat := logT.getD a.toNat 0
theorem pows_all : pows 255 1 = powT := by decide +kernel
theorem log_all : (List.range 256).all (fun i => i == 0 || (logT.getD i 0 < 255 && powT[logT.getD i 0]? == some (UInt8.ofNat i))) = true := by decide +kernel
theorem powT_get {i : Nat} (h : i < 255) : powT[i]? = some (gpow 2 i) := by
  have := pows_get 255 1 i h
  rwa [one_mul, pows_all] at this
theorem glog_lt {a : UInt8} (h : a ≠ 0) : glog a < 255 := by
  have := List.all_eq_true.1 log_all a.toNat (List.mem_range.2 a.toNat_lt)
  simp only [Bool.or_eq_true, beq_iff_eq, Bool.and_eq_true, decide_eq_true_eq] at this
  rcases this with h1 | h1
  · exact absurd (UInt8.toNat.inj h1) h
  · exact h1.1
theorem exp_log {a : UInt8} (h : a ≠ 0) : gpow 2 (glog a) = a := by
  have := List.all_eq_true.1 log_all a.toNat (List.mem_range.2 a.toNat_lt)
  simp only [Bool.or_eq_true, beq_iff_eq, Bool.and_eq_true, decide_eq_true_eq, UInt8.ofNat_toNat] at this
  rcases this with h1 | h1
  · exact absurd (UInt8.toNat.inj h1) h
  · have h2 := powT_get (i := glog a) h1.1
    have h3 : powT[glog a]? = some a := h1.2
    exact Option.some.inj (h2.symm.trans h3)
theorem pow_255 : gpow 2 255 = 1 := by
  have e : gpow 2 255 = gmul (gpow 2 254) 2 := by rw [show 255 = 254 + 1 from rfl, gpow]
  rw [e]
  have h := powT_get (i := 254) (by omega)
  have k : powT[254]? = some 142 := by decide +kernel
  have h2 := Option.some.inj (k.symm.trans h)
  rw [← h2]
  decide +kernel
theorem pow_ne (i : Nat) : gpow 2 i ≠ 0 := by
  intro h
  have h1 : gmul (gpow 2 i) (gpow 2 (255 * i - i)) = gpow 2 (255 * i) := by rw [← gpow_add]; congr 1; omega
  rw [gpow_mul, pow_255, h, zero_mul] at h1
  have : ∀ n, gpow 1 n = 1 := by intro n; induction n with
    | zero => rfl
    | succ n ih => simp only [gpow, ih, mul_one]
  rw [this] at h1
  exact absurd h1 (by decide)
theorem pow_mod (i : Nat) : gpow 2 i = gpow 2 (i % 255) := by
  have : ∀ n, gpow 1 n = 1 := by intro n; induction n with
    | zero => rfl
    | succ n ih => simp only [gpow, ih, mul_one]
  conv => lhs; rw [← Nat.div_add_mod i 255, gpow_add, gpow_mul, pow_255, this, one_mul]
theorem mul_ne {a b : UInt8} (ha : a ≠ 0) (hb : b ≠ 0) : gmul a b ≠ 0 := by
  rw [← exp_log ha, ← exp_log hb, ← gpow_add]
  exact pow_ne _
def ginv (a : UInt8) : UInt8 := if a = 0 then 0 else gpow 2 ((255 - glog a) % 255)
theorem mul_inv {a : UInt8} (h : a ≠ 0) : gmul a (ginv a) = 1 := by
  unfold ginv
  rw [if_neg h]
  conv => lhs; arg 1; rw [← exp_log h]
  rw [← gpow_add, pow_mod]
  have := glog_lt h
  have e : (glog a + (255 - glog a) % 255) % 255 = 0 := by omega
  rw [e]; rfl
theorem inv_ne {a : UInt8} (h : a ≠ 0) : ginv a ≠ 0 := fun h0 => by
  have := mul_inv h
  rw [h0, mul_zero] at this
  exact absurd this (by decide)
end Go.Abs.GF
