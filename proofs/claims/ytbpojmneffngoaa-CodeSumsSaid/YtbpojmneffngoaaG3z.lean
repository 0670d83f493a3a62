import Derived.Test.YtbpojmneffngoaaG1z
set_option linter.unusedVariables false
set_option linter.unusedSimpArgs false
namespace Go.Abs.GF
def sx (f : Nat → UInt8) : Nat → UInt8
  | 0 => 0
  | n + 1 => sx f n ^^^ f n
theorem xor4' (a b c d : UInt8) : (a ^^^ b) ^^^ (c ^^^ d) = (a ^^^ c) ^^^ (b ^^^ d) := by
  rw [UInt8.xor_assoc, UInt8.xor_assoc, ← UInt8.xor_assoc b, ← UInt8.xor_assoc c, UInt8.xor_comm b c]
theorem sx_congr {f g : Nat → UInt8} : ∀ {n : Nat}, (∀ t, t < n → f t = g t) → sx f n = sx g n
  | 0, _ => rfl
  | n + 1, h => by rw [sx, sx, sx_congr fun t ht => h t (by omega), h n (by omega)]
theorem sx_zero {f : Nat → UInt8} : ∀ {n : Nat}, (∀ t, t < n → f t = 0) → sx f n = 0
  | 0, _ => rfl
  | n + 1, h => by rw [sx, sx_zero fun t ht => h t (by omega), h n (by omega), UInt8.xor_zero]
theorem sx_add (f g : Nat → UInt8) : ∀ n, sx (fun t => f t ^^^ g t) n = sx f n ^^^ sx g n
  | 0 => by simp [sx]
  | n + 1 => by rw [sx, sx, sx, sx_add f g n, xor4']
theorem sx_mul (c : UInt8) (f : Nat → UInt8) : ∀ n, sx (fun t => gmul c (f t)) n = gmul c (sx f n)
  | 0 => by rw [sx, sx, mul_zero]
  | n + 1 => by rw [sx, sx, sx_mul c f n, mul_xor]
theorem sx_mulr (c : UInt8) (f : Nat → UInt8) (n : Nat) : sx (fun t => gmul (f t) c) n = gmul (sx f n) c := by
  rw [mul_comm (sx f n) c, ← sx_mul]
  exact sx_congr fun t _ => mul_comm _ _
theorem sx_swap (f : Nat → Nat → UInt8) (n : Nat) : ∀ m, sx (fun i => sx (fun j => f i j) n) m = sx (fun j => sx (fun i => f i j) m) n
  | 0 => by rw [sx]; exact (sx_zero fun t _ => rfl).symm
  | m + 1 => by
    rw [sx, sx_swap f n m, ← sx_add]
    rfl
theorem sx_one {f : Nat → UInt8} {k : Nat} : ∀ {n : Nat}, k < n → (∀ t, t < n → t ≠ k → f t = 0) → sx f n = f k
  | 0, h, _ => by omega
  | n + 1, hk, h => by
    rw [sx]
    by_cases e : k = n
    · subst e
      rw [sx_zero fun t ht => h t (by omega) (by omega), UInt8.zero_xor]
    · rw [sx_one (k := k) (by omega) fun t ht hn => h t (by omega) hn, h n (by omega) (by omega), UInt8.xor_zero]
abbrev Rows8 := List (List UInt8)
def ent (A : Rows8) (r c : Nat) : UInt8 := (A.getD r []).getD c 0
def Shape (n m : Nat) (A : Rows8) : Prop := A.length = n ∧ ∀ i, i < n → (A.getD i []).length = m
def act (A : Rows8) (n : Nat) (v : Nat → UInt8) (r : Nat) : UInt8 := sx (fun t => gmul (ent A r t) (v t)) n
def unitC (c : Nat) (t : Nat) : UInt8 := if t = c then 1 else 0
theorem act_congr {A : Rows8} {n : Nat} {v w : Nat → UInt8} (h : ∀ t, t < n → v t = w t) (r : Nat) : act A n v r = act A n w r := sx_congr fun t ht => by rw [h t ht]
theorem act_unit {A : Rows8} {n c : Nat} (hc : c < n) (r : Nat) : act A n (unitC c) r = ent A r c := by
  unfold act
  rw [sx_one hc]
  · simp [unitC, mul_one]
  · intro t _ hn
    simp [unitC, hn, mul_zero]
theorem act_add (A : Rows8) (n : Nat) (v w : Nat → UInt8) (r : Nat) : act A n (fun t => v t ^^^ w t) r = act A n v r ^^^ act A n w r := by
  unfold act
  rw [← sx_add]
  exact sx_congr fun t _ => mul_xor _ _ _
def addRow (to row : List UInt8) (y : UInt8) : List UInt8 := List.zipWith (fun t r => t ^^^ gmul r y) to row
def scaleRow (row : List UInt8) (x : UInt8) : List UInt8 := row.map fun t => gmul t x
theorem addRow_len {to row : List UInt8} {y : UInt8} (h : to.length = row.length) : (addRow to row y).length = to.length := by simp [addRow]; omega
theorem scaleRow_len {row : List UInt8} {x : UInt8} : (scaleRow row x).length = row.length := by simp [scaleRow]
theorem addRow_get {to row : List UInt8} {y : UInt8} {c : Nat} (h : to.length = row.length) : (addRow to row y).getD c 0 = to.getD c 0 ^^^ gmul (row.getD c 0) y := by
  simp only [List.getD, addRow, List.getElem?_zipWith]
  by_cases hc : c < to.length
  · simp [hc, show c < row.length by omega]
  · simp [List.getElem?_eq_none (show to.length ≤ c by omega), List.getElem?_eq_none (show row.length ≤ c by omega), zero_mul]
theorem scaleRow_get {row : List UInt8} {x : UInt8} {c : Nat} : (scaleRow row x).getD c 0 = gmul (row.getD c 0) x := by
  simp only [List.getD, scaleRow, List.getElem?_map]
  by_cases hc : c < row.length
  · simp [hc]
  · simp [List.getElem?_eq_none (show row.length ≤ c by omega), zero_mul]
theorem getD_set {α : Type} (A : List α) (k r : Nat) (x d : α) (hk : k < A.length) : (A.set k x).getD r d = if r = k then x else A.getD r d := by
  simp only [List.getD, List.getElem?_set]
  by_cases h : k = r
  · subst h; simp [hk]
  · simp [h, show ¬ r = k by omega]
theorem Shape.set {n m : Nat} {A : Rows8} (h : Shape n m A) {k : Nat} {row : List UInt8} (hr : row.length = m) : Shape n m (A.set k row) := by
  refine ⟨by rw [List.length_set]; exact h.1, fun i hi => ?_⟩
  by_cases hk : k < A.length
  · rw [getD_set _ _ _ _ _ hk]
    split
    · exact hr
    · exact h.2 i hi
  · rw [List.set_eq_of_length_le (by omega)]
    exact h.2 i hi
theorem ent_set {A : Rows8} {k : Nat} {row : List UInt8} (hk : k < A.length) (r c : Nat) : ent (A.set k row) r c = if r = k then row.getD c 0 else ent A r c := by
  unfold ent
  rw [getD_set _ _ _ _ _ hk]
  split <;> rfl
theorem act_set {A : Rows8} {k : Nat} {row : List UInt8} (hk : k < A.length) (n : Nat) (v : Nat → UInt8) (r : Nat) : act (A.set k row) n v r = if r = k then sx (fun t => gmul (row.getD t 0) (v t)) n else act A n v r := by
  unfold act
  split
  · rename_i h
    exact sx_congr fun t _ => by rw [ent_set hk, if_pos h]
  · rename_i h
    exact sx_congr fun t _ => by rw [ent_set hk, if_neg h]
theorem act_addRow {n : Nat} {A : Rows8} (h : Shape n n A) {k j : Nat} (hk : k < n) (hj : j < n) (y : UInt8) (v : Nat → UInt8) (r : Nat) :
    act (A.set k (addRow (A.getD k []) (A.getD j []) y)) n v r = if r = k then act A n v k ^^^ gmul y (act A n v j) else act A n v r := by
  rw [act_set (by rw [h.1]; exact hk)]
  split
  · unfold act
    rw [← sx_mul, ← sx_add]
    refine sx_congr fun t _ => ?_
    rw [addRow_get (by rw [h.2 k hk, h.2 j hj]), xor_mul, mul_comm _ y, mul_assoc]
    rfl
  · rfl
theorem act_scaleRow {n : Nat} {A : Rows8} (h : Shape n n A) {k : Nat} (hk : k < n) (x : UInt8) (v : Nat → UInt8) (r : Nat) :
    act (A.set k (scaleRow (A.getD k []) x)) n v r = if r = k then gmul x (act A n v k) else act A n v r := by
  rw [act_set (by rw [h.1]; exact hk)]
  split
  · unfold act
    rw [← sx_mul]
    refine sx_congr fun t _ => ?_
    rw [scaleRow_get, mul_comm _ x, mul_assoc]
    rfl
  · rfl
def swapR {α : Type} (d : α) (A : List α) (i j : Nat) : List α := (A.set i (A.getD j d)).set j (A.getD i d)
theorem swapR_len {α : Type} (d : α) (A : List α) (i j : Nat) : (swapR d A i j).length = A.length := by simp [swapR]
theorem swapR_get {α : Type} (d : α) {A : List α} {i j : Nat} (hi : i < A.length) (hj : j < A.length) (r : Nat) : (swapR d A i j).getD r d = if r = j then A.getD i d else if r = i then A.getD j d else A.getD r d := by
  unfold swapR
  rw [getD_set _ _ _ _ _ (by rw [List.length_set]; exact hj), getD_set _ _ _ _ _ hi]
theorem act_row {A A' : Rows8} {r r' : Nat} (h : A'.getD r [] = A.getD r' []) (n : Nat) (v : Nat → UInt8) : act A' n v r = act A n v r' := by
  unfold act ent
  rw [h]
structure Elim (n : Nat) (M A B : Rows8) (i : Nat) : Prop where
  sa : Shape n n A
  sb : Shape n n B
  eq : ∀ v r, r < n → act B n (act M n v) r = act A n v r
  inj : ∀ v, (∀ r, r < n → act B n v r = 0) → ∀ t, t < n → v t = 0
  unit : ∀ r c, r < n → c < i → ent A r c = if r = c then 1 else 0
theorem xor_cancel {a b : UInt8} (h : a ^^^ b = 0) : a = b := UInt8.xor_eq_zero_iff.1 h
theorem Elim.add {n : Nat} {M A B : Rows8} {i : Nat} (E : Elim n M A B i) {k j : Nat} (hk : k < n) (hj : j < n) (hkj : k ≠ j) (hji : i ≤ j) (y : UInt8) :
    Elim n M (A.set k (addRow (A.getD k []) (A.getD j []) y)) (B.set k (addRow (B.getD k []) (B.getD j []) y)) i := by
  refine ⟨E.sa.set (by rw [addRow_len (by rw [E.sa.2 k hk, E.sa.2 j hj])]; exact E.sa.2 k hk), E.sb.set (by rw [addRow_len (by rw [E.sb.2 k hk, E.sb.2 j hj])]; exact E.sb.2 k hk), fun v r hr => ?_, fun v hv t ht => E.inj v (fun r hr => ?_) t ht, fun r c hr hc => ?_⟩
  · rw [act_addRow E.sa hk hj, act_addRow E.sb hk hj]
    split
    · rw [E.eq v k hk, E.eq v j hj]
    · exact E.eq v r hr
  · have hj0 : act B n v j = 0 := by
      have := hv j hj
      rwa [act_addRow E.sb hk hj, if_neg (by omega)] at this
    have := hv r hr
    rw [act_addRow E.sb hk hj] at this
    split at this
    · rename_i e
      rw [e, ← this, hj0, mul_zero, UInt8.xor_zero]
    · exact this
  · rw [ent_set (by rw [E.sa.1]; exact hk)]
    split
    · rename_i e
      subst e
      rw [addRow_get (by rw [E.sa.2 r hk, E.sa.2 j hj])]
      have h1 := E.unit j c hj hc
      rw [if_neg (by omega)] at h1
      have h2 := E.unit r c hk hc
      unfold ent at h1 h2
      rw [h1, zero_mul, UInt8.xor_zero, h2]
    · exact E.unit r c hr hc
theorem mul_eq_zero {x a : UInt8} (hx : x ≠ 0) (h : gmul x a = 0) : a = 0 := Classical.byContradiction fun ha => mul_ne hx ha h
theorem Elim.scale {n : Nat} {M A B : Rows8} {i : Nat} (E : Elim n M A B i) (hi : i < n) {x : UInt8} (hx : x ≠ 0) :
    Elim n M (A.set i (scaleRow (A.getD i []) x)) (B.set i (scaleRow (B.getD i []) x)) i := by
  refine ⟨E.sa.set (by rw [scaleRow_len]; exact E.sa.2 i hi), E.sb.set (by rw [scaleRow_len]; exact E.sb.2 i hi), fun v r hr => ?_, fun v hv t ht => E.inj v (fun r hr => ?_) t ht, fun r c hr hc => ?_⟩
  · rw [act_scaleRow E.sa hi, act_scaleRow E.sb hi]
    split
    · rw [E.eq v i hi]
    · exact E.eq v r hr
  · have := hv r hr
    rw [act_scaleRow E.sb hi] at this
    split at this
    · rename_i e
      rw [e]
      exact mul_eq_zero hx this
    · exact this
  · rw [ent_set (by rw [E.sa.1]; exact hi)]
    split
    · rename_i e
      subst e
      rw [scaleRow_get]
      have h1 := E.unit r c hi hc
      rw [if_neg (by omega)] at h1 ⊢
      unfold ent at h1
      rw [h1, zero_mul]
    · exact E.unit r c hr hc
theorem Elim.swap {n : Nat} {M A B : Rows8} {i : Nat} (E : Elim n M A B i) {k j : Nat} (hk : k < n) (hj : j < n) (hki : i ≤ k) (hji : i ≤ j) :
    Elim n M (swapR [] A k j) (swapR [] B k j) i := by
  have ga := swapR_get (d := ([] : List UInt8)) (A := A) (i := k) (j := j) (by rw [E.sa.1]; exact hk) (by rw [E.sa.1]; exact hj)
  have gb := swapR_get (d := ([] : List UInt8)) (A := B) (i := k) (j := j) (by rw [E.sb.1]; exact hk) (by rw [E.sb.1]; exact hj)
  have sh : ∀ {C : Rows8}, Shape n n C → Shape n n (swapR [] C k j) := fun {C} h => (h.set (h.2 j hj)).set (h.2 k hk)
  have aa : ∀ {C : Rows8}, Shape n n C → ∀ v r, r < n → act (swapR [] C k j) n v r = if r = j then act C n v k else if r = k then act C n v j else act C n v r := fun {C} h v r hr => by
    have g := swapR_get (d := ([] : List UInt8)) (A := C) (i := k) (j := j) (by rw [h.1]; exact hk) (by rw [h.1]; exact hj) r
    split
    · rename_i e; rw [if_pos e] at g; exact act_row g n v
    · rename_i e; rw [if_neg e] at g
      split
      · rename_i e2; rw [if_pos e2] at g; exact act_row g n v
      · rename_i e2; rw [if_neg e2] at g; exact act_row g n v
  refine ⟨sh E.sa, sh E.sb, fun v r hr => ?_, fun v hv t ht => E.inj v (fun r hr => ?_) t ht, fun r c hr hc => ?_⟩
  · rw [aa E.sa v r hr, aa E.sb _ r hr]
    split
    · exact E.eq v k hk
    · split
      · exact E.eq v j hj
      · exact E.eq v r hr
  · by_cases e : r = j
    · have := hv k hk
      rw [aa E.sb v k hk] at this
      split at this
      · rename_i e2; rw [e, ← e2]; exact this
      · rw [if_pos rfl] at this; rw [e]; exact this
    · by_cases e2 : r = k
      · have := hv j hj
        rw [aa E.sb v j hj, if_pos rfl] at this
        rw [e2]; exact this
      · have := hv r hr
        rw [aa E.sb v r hr, if_neg e, if_neg e2] at this
        exact this
  · unfold ent
    rw [ga r]
    split
    · rename_i e
      have h1 := E.unit k c hk hc
      rw [if_neg (by omega)] at h1
      rw [if_neg (by omega)]
      exact h1
    · split
      · rename_i e
        have h1 := E.unit j c hj hc
        rw [if_neg (by omega)] at h1
        rw [if_neg (by omega)]
        exact h1
      · exact E.unit r c hr hc
theorem Elim.next {n : Nat} {M A B : Rows8} {i : Nat} (E : Elim n M A B i) (hi : i < n) (h1 : ent A i i = 1) (h0 : ∀ r, r < n → r ≠ i → ent A r i = 0) : Elim n M A B (i + 1) :=
  ⟨E.sa, E.sb, E.eq, E.inj, fun r c hr hc => by
    by_cases e : c = i
    · subst e
      split
      · rename_i e; rw [e]; exact h1
      · rename_i e; exact h0 r hr e
    · exact E.unit r c hr (by omega)⟩
def idRows (n : Nat) : Rows8 := (List.range n).map fun i => (List.replicate n (0 : UInt8)).set i 1
theorem idRows_len (n : Nat) : (idRows n).length = n := by simp [idRows]
theorem idRows_get {n i : Nat} (h : i < n) : (idRows n).getD i [] = (List.replicate n (0 : UInt8)).set i 1 := by simp [idRows, List.getD, h]
theorem idRows_shape (n : Nat) : Shape n n (idRows n) := ⟨idRows_len n, fun i hi => by rw [idRows_get hi]; simp⟩
theorem idRows_ent {n r c : Nat} (hr : r < n) (hc : c < n) : ent (idRows n) r c = if r = c then 1 else 0 := by
  unfold ent
  rw [idRows_get hr, getD_set _ _ _ _ _ (by simp; exact hr)]
  by_cases e : c = r
  · subst e; simp
  · rw [if_neg e, if_neg (fun h => e h.symm)]
    simp [List.getD, hc]
theorem act_id {n : Nat} (v : Nat → UInt8) {r : Nat} (hr : r < n) {A : Rows8} (hA : ∀ c, c < n → ent A r c = if r = c then 1 else 0) : act A n v r = v r := by
  unfold act
  rw [sx_one hr]
  · rw [hA r hr, if_pos rfl, one_mul]
  · intro t ht hn
    rw [hA t ht, if_neg (fun e => hn e.symm), zero_mul]
theorem Elim.start {n : Nat} {M : Rows8} (h : Shape n n M) : Elim n M M (idRows n) 0 :=
  ⟨h, idRows_shape n, fun v r hr => act_id _ hr fun c hc => idRows_ent hr hc, fun v hv t ht => by rw [← hv t ht]; exact (act_id v ht fun c hc => idRows_ent ht hc).symm, fun r c _ hc => by omega⟩
structure IsInv (n : Nat) (M B : Rows8) : Prop where
  sb : Shape n n B
  left : ∀ v r, r < n → act B n (act M n v) r = v r
  right : ∀ v r, r < n → act M n (act B n v) r = v r
def Singular (n : Nat) (M : Rows8) : Prop := ∃ v t, t < n ∧ v t ≠ 0 ∧ ∀ r, r < n → act M n v r = 0
theorem Elim.done {n : Nat} {M A B : Rows8} (E : Elim n M A B n) : IsInv n M B := by
  have l : ∀ v r, r < n → act B n (act M n v) r = v r := fun v r hr => by
    rw [E.eq v r hr]
    exact act_id v hr fun c hc => E.unit r c hr hc
  refine ⟨E.sb, l, fun v r hr => ?_⟩
  have := E.inj (fun t => act M n (act B n v) t ^^^ v t) (fun r hr => ?_) r hr
  · exact xor_cancel this
  · rw [act_add, l (act B n v) r hr, UInt8.xor_self]
theorem Elim.stuck {n : Nat} {M A B : Rows8} {i : Nat} (E : Elim n M A B i) (hi : i < n) (h : ∀ r, i ≤ r → r < n → ent A r i = 0) : Singular n M := by
  refine ⟨fun t => if t = i then 1 else if t < i then ent A t i else 0, i, hi, by simp, fun r hr => ?_⟩
  refine E.inj _ (fun r hr => ?_) r hr
  rw [E.eq _ r hr]
  unfold act
  by_cases hri : r < i
  ·
    have key : sx (fun t => gmul (ent A r t) (if t = i then 1 else if t < i then ent A t i else 0)) n = sx (fun t => (if t = r then ent A r i else 0) ^^^ (if t = i then ent A r i else 0)) n := by
      refine sx_congr fun t ht => ?_
      by_cases e1 : t = i
      · subst e1
        rw [if_pos rfl, if_neg (by omega), if_pos rfl, mul_one, UInt8.zero_xor]
      · rw [if_neg e1, if_neg e1]
        by_cases e2 : t < i
        · rw [if_pos e2, E.unit r t hr e2]
          by_cases e3 : r = t
          · subst e3
            rw [if_pos rfl, if_pos rfl, one_mul, UInt8.xor_zero]
          · rw [if_neg e3, if_neg (fun e => e3 e.symm), zero_mul, UInt8.xor_zero]
        · rw [if_neg e2, if_neg (by omega), mul_zero, UInt8.xor_zero]
    rw [key, sx_add, sx_one hr, sx_one hi]
    · simp
    · intro t _ hn; simp [hn]
    · intro t _ hn; simp [hn]
  · refine sx_zero fun t ht => ?_
    show gmul (ent A r t) (if t = i then 1 else if t < i then ent A t i else 0) = 0
    by_cases e1 : t = i
    · subst e1
      rw [h r (by omega) hr, zero_mul]
    · rw [if_neg e1]
      by_cases e2 : t < i
      · rw [if_pos e2, E.unit r t hr e2, if_neg (by omega), zero_mul]
      · rw [if_neg e2, mul_zero]
theorem rows_ext {n m : Nat} {A B : Rows8} (ha : Shape n m A) (hb : Shape n m B) (h : ∀ r c, r < n → c < m → ent A r c = ent B r c) : A = B := by
  apply List.ext_getElem?
  intro r
  by_cases hr : r < n
  · have h1 : r < A.length := by rw [ha.1]; exact hr
    have h2 : r < B.length := by rw [hb.1]; exact hr
    rw [List.getElem?_eq_getElem h1, List.getElem?_eq_getElem h2]
    congr 1
    have e1 : A.getD r [] = A[r] := by simp [List.getD, h1]
    have e2 : B.getD r [] = B[r] := by simp [List.getD, h2]
    have l1 := ha.2 r hr
    have l2 := hb.2 r hr
    rw [e1] at l1
    rw [e2] at l2
    apply List.ext_getElem?
    intro c
    by_cases hc : c < m
    · have := h r c hr hc
      unfold ent at this
      rw [e1, e2] at this
      simpa [List.getD, show c < A[r].length by omega, show c < B[r].length by omega] using this
    · rw [List.getElem?_eq_none (by omega), List.getElem?_eq_none (by omega)]
  · rw [List.getElem?_eq_none (by rw [ha.1]; omega), List.getElem?_eq_none (by rw [hb.1]; omega)]
theorem IsInv.unique {n : Nat} {M B B' : Rows8} (h : IsInv n M B) (h' : IsInv n M B') : B = B' := by
  refine rows_ext h.sb h'.sb fun r c hr hc => ?_
  rw [← act_unit hc, ← act_unit hc, ← h'.left (act B n (unitC c)) r hr]
  exact act_congr (fun t ht => h.right (unitC c) t ht) r
theorem IsInv.symm {n : Nat} {M B : Rows8} (h : IsInv n M B) (hm : Shape n n M) : IsInv n B M := ⟨hm, h.right, h.left⟩
def mulRows (a b : Rows8) : Rows8 := (List.range a.length).map fun i => (List.range (b.getD 0 []).length).map fun j => sx (fun t => gmul (ent a i t) (ent b t j)) b.length
theorem mulRows_len (a b : Rows8) : (mulRows a b).length = a.length := by simp [mulRows]
theorem mulRows_get {a b : Rows8} {i : Nat} (hi : i < a.length) : (mulRows a b).getD i [] = (List.range (b.getD 0 []).length).map fun j => sx (fun t => gmul (ent a i t) (ent b t j)) b.length := by
  simp [mulRows, List.getD, hi]
theorem mulRows_ent {a b : Rows8} {i j : Nat} (hi : i < a.length) (hj : j < (b.getD 0 []).length) : ent (mulRows a b) i j = sx (fun t => gmul (ent a i t) (ent b t j)) b.length := by
  show ((mulRows a b).getD i []).getD j 0 = _
  rw [mulRows_get hi]
  have key : ∀ (f : Nat → UInt8) (n : Nat), j < n → ((List.range n).map f).getD j 0 = f j := fun f n h => by simp [List.getD, h]
  exact key _ _ hj
theorem act_mul {n : Nat} {a b : Rows8} (ha : Shape n n a) (hb : Shape n n b) (hn : 0 < n) (v : Nat → UInt8) {r : Nat} (hr : r < n) : act (mulRows a b) n v r = act a n (act b n v) r := by
  unfold act
  have e1 : sx (fun t => gmul (ent (mulRows a b) r t) (v t)) n = sx (fun t => sx (fun u => gmul (gmul (ent a r u) (ent b u t)) (v t)) n) n := sx_congr fun t ht => by
    rw [mulRows_ent (by rw [ha.1]; exact hr) (by rw [hb.2 0 hn]; exact ht), hb.1, sx_mulr]
  rw [e1, sx_swap]
  refine sx_congr fun u _ => ?_
  rw [← sx_mul]
  exact sx_congr fun t _ => mul_assoc _ _ _
theorem inv_of_mul {n : Nat} {M B : Rows8} (hm : Shape n n M) (hb : Shape n n B) (hn : 0 < n) (h1 : mulRows B M = idRows n) (h2 : mulRows M B = idRows n) : IsInv n M B :=
  ⟨hb, fun v r hr => by rw [← act_mul hb hm hn v hr, h1]; exact act_id v hr fun c hc => idRows_ent hr hc, fun v r hr => by rw [← act_mul hm hb hn v hr, h2]; exact act_id v hr fun c hc => idRows_ent hr hc⟩
instance (n m : Nat) (A : Rows8) : Decidable (Shape n m A) := by unfold Shape; infer_instance
end Go.Abs.GF
