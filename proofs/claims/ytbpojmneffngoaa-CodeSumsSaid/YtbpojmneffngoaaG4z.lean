import Derived.Test.YtbpojmneffngoaaG3z
set_option linter.unusedVariables false
set_option linter.unusedSimpArgs false
namespace Go.Abs.GF
def lsum (f : UInt8 → UInt8) : List UInt8 → UInt8
  | [] => 0
  | j :: l => f j ^^^ lsum f l
theorem lsum_add (f g : UInt8 → UInt8) : ∀ l, lsum (fun j => f j ^^^ g j) l = lsum f l ^^^ lsum g l
  | [] => by simp [lsum]
  | j :: l => by rw [lsum, lsum, lsum, lsum_add f g l, xor4']
theorem lsum_mul (c : UInt8) (f : UInt8 → UInt8) : ∀ l, lsum (fun j => gmul c (f j)) l = gmul c (lsum f l)
  | [] => by rw [lsum, lsum, mul_zero]
  | j :: l => by rw [lsum, lsum, lsum_mul c f l, mul_xor]
theorem lsum_congr {f g : UInt8 → UInt8} : ∀ {l : List UInt8}, (∀ j ∈ l, f j = g j) → lsum f l = lsum g l
  | [], _ => rfl
  | j :: l, h => by rw [lsum, lsum, h j (by simp), lsum_congr fun k hk => h k (by simp [hk])]
theorem lsum_zero : ∀ l, lsum (fun _ => (0 : UInt8)) l = 0
  | [] => rfl
  | j :: l => by rw [lsum, lsum_zero l]; rfl
instance : Std.Associative gmul := ⟨mul_assoc⟩
instance : Std.Commutative gmul := ⟨mul_comm⟩
theorem xor_ne {a b : UInt8} (h : a ≠ b) : a ^^^ b ≠ 0 := fun e => h (xor_cancel e)
theorem frac1 {i j j0 : UInt8} (h : i ≠ j) : gmul (i ^^^ j0) (ginv (i ^^^ j)) = 1 ^^^ gmul (j ^^^ j0) (ginv (i ^^^ j)) := by
  have e : i ^^^ j0 = (i ^^^ j) ^^^ (j ^^^ j0) := by
    rw [UInt8.xor_assoc, ← UInt8.xor_assoc j, UInt8.xor_self, UInt8.zero_xor]
  rw [e, xor_mul, mul_inv (xor_ne h)]
theorem frac2 {i i0 j : UInt8} (h : i ≠ j) (h0 : i0 ≠ j) : ginv (i ^^^ j) ^^^ ginv (i0 ^^^ j) = gmul (i ^^^ i0) (gmul (ginv (i ^^^ j)) (ginv (i0 ^^^ j))) := by
  have e : i ^^^ i0 = (i ^^^ j) ^^^ (i0 ^^^ j) := by
    rw [UInt8.xor_comm i0 j, UInt8.xor_assoc, ← UInt8.xor_assoc j, UInt8.xor_self, UInt8.zero_xor]
  rw [e, xor_mul, ← mul_assoc, mul_inv (xor_ne h), one_mul, mul_comm (ginv (i ^^^ j)), ← mul_assoc, mul_inv (xor_ne h0), one_mul, UInt8.xor_comm]
theorem cauchy : ∀ (J I : List UInt8) (v : UInt8 → UInt8), J.Nodup → I.Nodup → J.length ≤ I.length → (∀ i ∈ I, ∀ j ∈ J, i ≠ j) → (∀ i ∈ I, lsum (fun j => gmul (v j) (ginv (i ^^^ j))) J = 0) → ∀ j ∈ J, v j = 0
  | [], _, _, _, _, _, _, _, j, hj => by simp at hj
  | j0 :: J, [], _, _, _, hl, _, _, _, _ => by simp at hl
  | j0 :: J, i0 :: I, v, hJ, hI, hl, hd, h, j, hj => by
    rw [List.nodup_cons] at hJ hI
    have hd0 : ∀ j ∈ J, i0 ≠ j := fun j hj => hd i0 (by simp) j (by simp [hj])
    have hdI : ∀ i ∈ I, ∀ j ∈ J, i ≠ j := fun i hi j hj => hd i (by simp [hi]) j (by simp [hj])
    have key : ∀ i ∈ i0 :: I, lsum v (j0 :: J) = lsum (fun j => gmul (gmul (v j) (j ^^^ j0)) (ginv (i ^^^ j))) J := fun i hi => by
      have hij0 : i ≠ j0 := hd i hi j0 (by simp)
      have h1 := h i hi
      have h2 : lsum (fun j => gmul (i ^^^ j0) (gmul (v j) (ginv (i ^^^ j)))) (j0 :: J) = 0 := by rw [lsum_mul, h1, mul_zero]
      have h3 : lsum (fun j => gmul (i ^^^ j0) (gmul (v j) (ginv (i ^^^ j)))) (j0 :: J) = lsum (fun j => v j ^^^ gmul (gmul (v j) (j ^^^ j0)) (ginv (i ^^^ j))) (j0 :: J) := lsum_congr fun j hj => by
        have hij : i ≠ j := hd i hi j hj
        rw [← mul_assoc, mul_comm (i ^^^ j0), mul_assoc, frac1 hij, mul_xor, mul_one, mul_assoc]
      rw [h3, lsum_add] at h2
      rw [xor_cancel h2, lsum, UInt8.xor_self, mul_zero, zero_mul, UInt8.zero_xor]
    have w0 : ∀ j ∈ J, gmul (gmul (v j) (j ^^^ j0)) (ginv (i0 ^^^ j)) = 0 := by
      refine cauchy J I (fun j => gmul (gmul (v j) (j ^^^ j0)) (ginv (i0 ^^^ j))) hJ.2 hI.2 (by simpa using hl) hdI fun i hi => ?_
      have hne : i ≠ i0 := fun e => hI.1 (e ▸ hi)
      have e1 := (key i (by simp [hi])).symm.trans (key i0 (by simp))
      have e2 : lsum (fun j => gmul (gmul (v j) (j ^^^ j0)) (ginv (i ^^^ j)) ^^^ gmul (gmul (v j) (j ^^^ j0)) (ginv (i0 ^^^ j))) J = 0 := by rw [lsum_add, e1, UInt8.xor_self]
      have e3 : lsum (fun j => gmul (i ^^^ i0) (gmul (gmul (gmul (v j) (j ^^^ j0)) (ginv (i0 ^^^ j))) (ginv (i ^^^ j)))) J = 0 := by
        rw [← e2]
        refine lsum_congr fun j hj => ?_
        rw [← mul_xor, frac2 (hdI i hi j hj) (hd0 j hj)]
        ac_rfl
      rw [lsum_mul] at e3
      exact mul_eq_zero (xor_ne hne) e3
    have vJ : ∀ j ∈ J, v j = 0 := fun j hj => by
      have hjj : j ≠ j0 := fun e => hJ.1 (e ▸ hj)
      have h1 := w0 j hj
      rw [mul_comm] at h1
      have h2 := mul_eq_zero (inv_ne (xor_ne (hd0 j hj))) h1
      rw [mul_comm] at h2
      exact mul_eq_zero (xor_ne hjj) h2
    rcases List.mem_cons.1 hj with rfl | hj
    · have h1 := h i0 (by simp)
      rw [lsum, lsum_congr (g := fun _ => 0) (fun j hj => by rw [vJ j hj, zero_mul])] at h1
      rw [lsum_zero, UInt8.xor_zero, mul_comm] at h1
      exact mul_eq_zero (inv_ne (xor_ne (hd i0 (by simp) j (by simp)))) h1
    · exact vJ j hj
def nsum (f : Nat → UInt8) : List Nat → UInt8
  | [] => 0
  | j :: l => f j ^^^ nsum f l
theorem nsum_append (f : Nat → UInt8) : ∀ l m, nsum f (l ++ m) = nsum f l ^^^ nsum f m
  | [], m => by simp [nsum]
  | j :: l, m => by rw [List.cons_append, nsum, nsum, nsum_append f l m, UInt8.xor_assoc]
theorem sx_nsum (f : Nat → UInt8) : ∀ n, sx f n = nsum f (List.range n)
  | 0 => rfl
  | n + 1 => by
    rw [sx, sx_nsum f n, List.range_succ, nsum_append]
    simp [nsum]
theorem nsum_filter {f : Nat → UInt8} {p : Nat → Bool} : ∀ {l : List Nat}, (∀ j ∈ l, p j = false → f j = 0) → nsum f (l.filter p) = nsum f l
  | [], _ => rfl
  | j :: l, h => by
    rw [nsum, ← nsum_filter (l := l) fun k hk => h k (by simp [hk])]
    cases hp : p j with
    | true => rw [List.filter_cons_of_pos hp, nsum]
    | false => rw [List.filter_cons_of_neg (by simp [hp]), h j (by simp) hp, UInt8.zero_xor]
theorem lsum_map (g : UInt8 → UInt8) (h : Nat → UInt8) : ∀ l, lsum g (l.map h) = nsum (fun t => g (h t)) l
  | [] => rfl
  | j :: l => by rw [List.map_cons, lsum, nsum, lsum_map g h l]
theorem nodup_le : ∀ {l m : List Nat}, l.Nodup → (∀ a ∈ l, a ∈ m) → l.length ≤ m.length
  | [], m, _, _ => by simp
  | a :: l, m, hn, hs => by
    rw [List.nodup_cons] at hn
    have ha : a ∈ m := hs a (by simp)
    have h1 : l.length ≤ (m.erase a).length := nodup_le hn.2 fun b hb => (List.mem_erase_of_ne (fun e => by subst e; exact hn.1 hb)).2 (hs b (by simp [hb]))
    rw [List.length_erase_of_mem ha] at h1
    have : 0 < m.length := List.length_pos_of_mem ha
    simp only [List.length_cons]
    omega
theorem filter_len (p : Nat → Bool) : ∀ l : List Nat, (l.filter p).length + (l.filter fun a => !p a).length = l.length
  | [] => rfl
  | a :: l => by
    have := filter_len p l
    cases h : p a <;> simp [List.filter_cons, h] <;> omega
def ge (k i j : Nat) : UInt8 := if i < k then (if i = j then 1 else 0) else ginv (UInt8.ofNat i ^^^ UInt8.ofNat j)
def genRow (k i : Nat) : List UInt8 := (List.range k).map (ge k i)
def genRows (k n : Nat) : Rows8 := (List.range n).map (genRow k)
theorem genRow_len (k i : Nat) : (genRow k i).length = k := by simp [genRow]
theorem genRow_get {k i j : Nat} (h : j < k) : (genRow k i).getD j 0 = ge k i j := by simp [genRow, List.getD, h]
theorem genRows_len (k n : Nat) : (genRows k n).length = n := by simp [genRows]
theorem genRows_get {k n i : Nat} (h : i < n) : (genRows k n).getD i [] = genRow k i := by simp [genRows, List.getD, h]
theorem ofNat_inj {a b : Nat} (ha : a < 256) (hb : b < 256) (h : UInt8.ofNat a = UInt8.ofNat b) : a = b := by
  have := congrArg UInt8.toNat h
  simpa [Nat.mod_eq_of_lt ha, Nat.mod_eq_of_lt hb] using this
theorem map_nodup {l : List Nat} (h : l.Nodup) (hl : ∀ a ∈ l, a < 256) : (l.map UInt8.ofNat).Nodup := by
  induction l with
  | nil => simp
  | cons a l ih =>
    rw [List.nodup_cons] at h
    rw [List.map_cons, List.nodup_cons]
    refine ⟨fun hm => ?_, ih h.2 fun b hb => hl b (by simp [hb])⟩
    obtain ⟨b, hb, e⟩ := List.mem_map.1 hm
    have := ofNat_inj (hl b (by simp [hb])) (hl a (by simp)) e
    exact h.1 (this ▸ hb)
theorem pick_regular {k n : Nat} (hkn : k < n) (hn : n ≤ 255) {l : List Nat} (hl : l.length = k) (hnd : l.Nodup) (hr : ∀ i ∈ l, i < n) : ¬ Singular k (l.map (genRow k)) := by
  rintro ⟨v, t0, ht0, hv0, h⟩
  have hrow : ∀ i ∈ l, sx (fun t => gmul (ge k i t) (v t)) k = 0 := fun i hi => by
    obtain ⟨r, hr1, e⟩ := List.getElem_of_mem hi
    rw [← h r (by omega)]
    refine sx_congr fun t ht => ?_
    congr 1
    unfold ent
    have : (l.map (genRow k)).getD r [] = genRow k i := by simp [List.getD, hr1, e]
    rw [this, genRow_get ht]
  have hlow : ∀ i ∈ l, i < k → v i = 0 := fun i hi hik => by
    have := hrow i hi
    rw [sx_one hik] at this
    · simpa [ge, hik, one_mul] using this
    · intro t _ hne
      simp [ge, hik, show ¬ i = t from fun e => hne e.symm, zero_mul]
  have hJn : ((List.range k).filter fun t => !(l.contains t)).Nodup := List.Pairwise.filter _ List.nodup_range
  have hIn : (l.filter fun i => !(decide (i < k))).Nodup := List.Pairwise.filter _ hnd
  have hlen : ((List.range k).filter fun t => !(l.contains t)).length ≤ (l.filter fun i => !(decide (i < k))).length := by
    have h1 := filter_len (fun i => decide (i < k)) l
    have h2 : (((List.range k).filter fun t => !(l.contains t)) ++ l.filter fun i => decide (i < k)).length ≤ (List.range k).length := by
      refine nodup_le ?_ fun a ha => ?_
      · rw [List.nodup_append]
        refine ⟨hJn, List.Pairwise.filter _ hnd, fun a ha b hb e => ?_⟩
        subst e
        simp at ha hb
        exact ha.2 hb.1
      · simp only [List.mem_append, List.mem_filter, List.mem_range, decide_eq_true_eq] at ha ⊢
        rcases ha with ha | ha
        · exact ha.1
        · exact ha.2
    rw [List.length_append, List.length_range] at h2
    omega
  have hz := cauchy (((List.range k).filter fun t => !(l.contains t)).map UInt8.ofNat) ((l.filter fun i => !(decide (i < k))).map UInt8.ofNat) (fun b => v b.toNat)
    (map_nodup hJn fun a ha => by simp at ha; omega) (map_nodup hIn fun a ha => by simp at ha; have := hr a ha.1; omega) (by simpa using hlen)
    (fun i hi j hj e => by
      obtain ⟨a, ha, rfl⟩ := List.mem_map.1 hi
      obtain ⟨b, hb, rfl⟩ := List.mem_map.1 hj
      simp at ha hb
      have := hr a ha.1
      have := ofNat_inj (by omega) (by omega) e
      omega)
    (fun i hi => by
      obtain ⟨a, ha, rfl⟩ := List.mem_map.1 hi
      simp at ha
      have h1 := hrow a ha.1
      have e2 := nsum_filter (f := fun t => gmul (ge k a t) (v t)) (p := fun t => !(l.contains t)) (l := List.range k) (fun t ht hc => by
        simp at ht hc
        rw [hlow t hc ht, mul_zero])
      rw [lsum_map, ← h1, sx_nsum, ← e2]
      have : ∀ (L : List Nat), (∀ t ∈ L, t < 256) → nsum (fun t => gmul (v (UInt8.ofNat t).toNat) (ginv (UInt8.ofNat a ^^^ UInt8.ofNat t))) L = nsum (fun t => gmul (ge k a t) (v t)) L := by
        intro L hL
        induction L with
        | nil => rfl
        | cons t L ih =>
          rw [nsum, nsum, ih fun b hb => hL b (by simp [hb])]
          have ht := hL t (by simp)
          rw [show (UInt8.ofNat t).toNat = t by simp [Nat.mod_eq_of_lt ht]]
          congr 1
          rw [ge, if_neg (by omega), mul_comm]
      exact this _ fun t ht => by simp at ht; omega)
  by_cases hm : t0 ∈ l
  · exact hv0 (hlow t0 hm ht0)
  · have := hz (UInt8.ofNat t0) (List.mem_map.2 ⟨t0, by simp [ht0, hm], rfl⟩)
    rw [show (UInt8.ofNat t0).toNat = t0 by simp; omega] at this
    exact hv0 this
end Go.Abs.GF
