/- Forms there and back: plain laws. -/
import Derived.Test.YtbicbjfdinhpoaaS11
namespace Go.Proofs.Ytbicbjfdinhpoaa
open Go Go.Abs Go.Abs.GF
set_option linter.unusedVariables false
set_option linter.unusedSimpArgs false
set_option maxHeartbeats 4000000
attribute [local irreducible] ASpec AWp WP AOps DOps

theorem getD_drop {α : Type} (b : List α) (o j : Nat) (d : α) : (b.drop o).getD j d = b.getD (o + j) d := by simp [List.getD]

theorem rd_rec {r : Rec} (h : mayR r) (l : List UInt8) : rdRec (recB r ++ l) = r := by
  obtain ⟨k, i, x, h1, h2, h3, h4, h5, h6, h7⟩ := may_nat h
  obtain ⟨kind, fin, ino, idx⟩ := r
  simp only at h1 h2 h3
  subst h1 h2 h3
  simp only [rdRec, recB, List.getD, List.cons_append, List.getElem?_cons_zero, List.getElem?_cons_succ, Option.getD_some, Int.toNat_natCast, UInt8.toNat_ofNat', Rec.mk.injEq]
  refine ⟨by omega, by cases fin <;> rfl, by omega, ?_⟩
  have e : (0 : UInt8).toNat = 0 := rfl
  rw [e]
  omega
theorem rec_first {r : Rec} (h : mayR r) (l : List UInt8) : (recB r ++ l).getD 0 0 ≠ 0 ∧ ((recB r ++ l).getD 1 0).toNat ≤ 1 := by
  obtain ⟨k, i, x, h1, h2, h3, h4, h5, h6, h7⟩ := may_nat h
  obtain ⟨kind, fin, ino, idx⟩ := r
  simp only at h1 h2 h3
  subst h1 h2 h3
  simp only [recB, List.getD, List.cons_append, List.getElem?_cons_zero, List.getElem?_cons_succ, Option.getD_some, Int.toNat_natCast]
  refine ⟨fun h => ?_, by cases fin <;> simp⟩
  have h' := congrArg UInt8.toNat h
  rw [UInt8.toNat_ofNat'] at h'
  have e : (0 : UInt8).toNat = 0 := rfl
  omega

theorem take_put : ∀ (rs : List Rec) (b : List UInt8) (i n z : Nat), (∀ r ∈ rs, mayR r) → b.drop (8 * i) = rs.flatMap recB ++ List.replicate z 0 → rs.length ≤ n → takeAll b i n = some rs
  | [], b, i, n, z, hm, hb, hn => by
    have hz : zeroB b (8 * i) := fun j h1 h2 => by
      have := congrArg (·.getD (j - 8 * i) 0) hb
      simp only [getD_drop] at this
      rw [show 8 * i + (j - 8 * i) = j by omega] at this
      rw [this]
      simp [List.getD, List.getElem?_replicate]
      split <;> rfl
    cases n with
    | zero => rw [takeAll, if_pos hz]
    | succ n =>
      have h0 : b.getD (8 * i) 0 = 0 := by
        by_cases h : 8 * i < b.length
        · exact hz _ (Nat.le_refl _) h
        · simp [List.getD, show b.length ≤ 8 * i by omega]
      rw [takeAll, if_pos h0, if_pos hz]
  | r :: rs, b, i, n, z, hm, hb, hn => by
    obtain ⟨m, rfl⟩ : ∃ m, n = m + 1 := ⟨n - 1, by simp at hn; omega⟩
    have hr := hm r (by simp)
    rw [List.flatMap_cons, List.append_assoc] at hb
    have f := rec_first hr (rs.flatMap recB ++ List.replicate z 0)
    rw [← hb, getD_drop, getD_drop, Nat.add_zero] at f
    have e := rd_rec hr (rs.flatMap recB ++ List.replicate z 0)
    rw [← hb] at e
    rw [takeAll, if_neg f.1, e, if_neg (by rintro (h | h); omega; exact h hr), take_put rs b (i + 1) m z (fun r h => hm r (by simp [h])) ?_ (by simp at hn; omega)]
    · rfl
    · have := congrArg (List.drop 8) hb
      rw [List.drop_drop] at this
      have e8 : List.drop 8 (recB r ++ (rs.flatMap recB ++ List.replicate z (0 : UInt8))) = rs.flatMap recB ++ List.replicate z 0 := rfl
      rw [e8] at this
      rw [show 8 * (i + 1) = 8 * i + 8 by omega, this]

theorem eight (l : List UInt8) (h : 8 ≤ l.length) : l = [l.getD 0 0, l.getD 1 0, l.getD 2 0, l.getD 3 0, l.getD 4 0, l.getD 5 0, l.getD 6 0, l.getD 7 0] ++ l.drop 8 := by
  match l, h with
  | a0 :: a1 :: a2 :: a3 :: a4 :: a5 :: a6 :: a7 :: l, _ => rfl

set_option maxRecDepth 4000 in
theorem key8 (x0 x1 x2 x3 x4 x5 x6 x7 : UInt8) (h1 : x1.toNat ≤ 1) (hm : mayR ⟨x0.toNat, x1 == 1, (x2.toNat : Int) * 256 + x3.toNat, (((x4.toNat : Int) * 256 + x5.toNat) * 256 + x6.toNat) * 256 + x7.toNat⟩) :
    recB ⟨x0.toNat, x1 == 1, (x2.toNat : Int) * 256 + x3.toNat, (((x4.toNat : Int) * 256 + x5.toNat) * 256 + x6.toNat) * 256 + x7.toNat⟩ = [x0, x1, x2, x3, x4, x5, x6, x7] := by
  simp only [mayR] at hm
  simp only [recB]
  have b0 := x0.toNat_lt
  have b2 := x2.toNat_lt
  have b3 := x3.toNat_lt
  have b7 := x7.toNat_lt
  have z4 : x4.toNat = 0 := by omega
  have z5 : x5.toNat = 0 := by omega
  have z6 : x6.toNat = 0 := by omega
  have w4 : (0 : UInt8) = x4 := UInt8.toNat_inj.1 (by rw [z4]; rfl)
  have w5 : (0 : UInt8) = x5 := UInt8.toNat_inj.1 (by rw [z5]; rfl)
  have w6 : (0 : UInt8) = x6 := UInt8.toNat_inj.1 (by rw [z6]; rfl)
  have e1 : (if (x1 == 1) = true then (1 : UInt8) else 0) = x1 := by
    by_cases hx : x1 = 1
    · simp [hx]
    · rw [if_neg (by simpa using hx)]
      have : x1.toNat ≠ 1 := fun h => hx (UInt8.toNat_inj.1 h)
      exact UInt8.toNat_inj.1 (by show 0 = x1.toNat; omega)
  have e2 : UInt8.ofNat (((x2.toNat : Int) * 256 + (x3.toNat : Int)).toNat / 256) = x2 := by
    rw [show ((x2.toNat : Int) * 256 + (x3.toNat : Int)).toNat / 256 = x2.toNat by omega]; simp
  have e3 : UInt8.ofNat ((x2.toNat : Int) * 256 + (x3.toNat : Int)).toNat = x3 := by
    apply UInt8.toNat_inj.1
    rw [UInt8.toNat_ofNat']; omega
  have e7 : UInt8.ofNat ((((x4.toNat : Int) * 256 + (x5.toNat : Int)) * 256 + (x6.toNat : Int)) * 256 + (x7.toNat : Int)).toNat = x7 := by
    rw [z4, z5, z6, show ((((((0 : Nat) : Int) * 256 + ((0 : Nat) : Int)) * 256 + ((0 : Nat) : Int)) * 256 + (x7.toNat : Int)).toNat) = x7.toNat by omega]; simp
  have e0 : UInt8.ofNat (x0.toNat : Int).toNat = x0 := by simp
  rw [e0, e1, e2, e3, e7]
  simp only [List.cons.injEq, true_and, and_true]
  exact ⟨w4, w5, w6⟩
theorem rec_back {l : List UInt8} (h : 8 ≤ l.length) (h1 : (l.getD 1 0).toNat ≤ 1) (hm : mayR (rdRec l)) : l = recB (rdRec l) ++ l.drop 8 := by
  have e := eight l h
  have k : rdRec l = ⟨(l.getD 0 0).toNat, l.getD 1 0 == 1, ((l.getD 2 0).toNat : Int) * 256 + (l.getD 3 0).toNat, ((((l.getD 4 0).toNat : Int) * 256 + (l.getD 5 0).toNat) * 256 + (l.getD 6 0).toNat) * 256 + (l.getD 7 0).toNat⟩ := by
    simp only [rdRec]
  rw [k] at hm
  rw [k, key8 _ _ _ _ _ _ _ _ h1 hm]
  exact e

theorem put_take : ∀ (n : Nat) (b : List UInt8) (i : Nat) {rs : List Rec}, 8 * (i + n) ≤ b.length → takeAll b i n = some rs → (∀ r ∈ rs, mayR r) ∧ rs.length ≤ n ∧ b.drop (8 * i) = rs.flatMap recB ++ List.replicate (b.length - 8 * i - 8 * rs.length) 0 := by
  have zero : ∀ (b : List UInt8) (i : Nat), zeroB b (8 * i) → b.drop (8 * i) = List.replicate (b.length - 8 * i) 0 := fun b i h => by
    apply List.ext_getElem?
    intro j
    rw [List.getElem?_drop, List.getElem?_replicate]
    by_cases hj : 8 * i + j < b.length
    · have := h (8 * i + j) (by omega) hj
      rw [if_pos (by omega), List.getElem?_eq_getElem hj]
      simpa [List.getD, hj] using this
    · rw [if_neg (by omega), List.getElem?_eq_none (by omega)]
  intro n
  induction n with
  | zero =>
    intro b i rs hl h
    unfold takeAll at h
    split at h
    · rename_i hz
      injection h with h
      subst h
      exact ⟨by simp, by simp, by simpa using zero b i hz⟩
    · cases h
  | succ n ih =>
    intro b i rs hl h
    unfold takeAll at h
    split at h
    · split at h
      · rename_i hz
        injection h with h
        subst h
        exact ⟨by simp, by simp, by simpa using zero b i hz⟩
      · cases h
    · split at h
      · cases h
      · rename_i h0 hbad
        obtain ⟨l, h1, rfl⟩ := Option.map_eq_some_iff.1 h
        obtain ⟨k1, k2, k3⟩ := ih b (i + 1) (by omega) h1
        have hm : mayR (rdRec (b.drop (8 * i))) := Decidable.byContradiction fun h => hbad (.inr h)
        have h8 : 8 ≤ (b.drop (8 * i)).length := by simp; omega
        have hb1 : ((b.drop (8 * i)).getD 1 0).toNat ≤ 1 := by
          rw [getD_drop]
          exact Nat.le_of_not_gt fun h => hbad (.inl h)
        have hb := rec_back h8 hb1 hm
        refine ⟨fun r hr => ?_, by simp; omega, ?_⟩
        · simp only [List.mem_cons] at hr
          rcases hr with rfl | hr
          · exact hm
          · exact k1 r hr
        · rw [List.flatMap_cons, List.append_assoc]
          rw [List.drop_drop, show 8 * i + 8 = 8 * (i + 1) by omega, k3] at hb
          rw [hb]
          congr 3
          simp only [List.length_cons]
          omega

theorem take_putB {k : Int} {rs : List Rec} (h : putErr k rs = none) : takeO k (putB k rs) = .ok rs := by
  unfold putErr at h
  split at h
  · cases h
  · rename_i hk
    split at h
    · cases h
    · rename_i hm
      split at h
      · cases h
      · rename_i hc
        obtain ⟨s1, s2, s3, s4⟩ := sum_in (k := k) (by simpa using hk)
        have hl : (putB k rs).length = (112 * sumK k).toNat := by rw [putB, List.length_append, recBs_len, List.length_replicate]; omega
        have ht := take_put rs (putB k rs) 0 (capK k).toNat ((112 * sumK k).toNat - 8 * rs.length) (by simpa using hm) rfl (by omega)
        rw [takeO, if_neg hk, if_neg (by omega), if_neg (by omega), ht]
theorem put_takeO {k : Int} {b : List UInt8} {rs : List Rec} (h : takeO k b = .ok rs) : putErr k rs = none ∧ putB k rs = b := by
  unfold takeO at h
  split at h
  · cases h
  · rename_i hk
    split at h
    · cases h
    · rename_i h1
      split at h
      · cases h
      · rename_i h2
        obtain ⟨s1, s2, s3, s4⟩ := sum_in (k := k) (by simpa using hk)
        cases ht : takeAll b 0 (capK k).toNat with
        | none => rw [ht] at h; cases h
        | some l =>
          rw [ht] at h
          have e : l = rs := by injection h
          subst e
          obtain ⟨k1, k2, k3⟩ := put_take _ b 0 (by omega) ht
          refine ⟨by rw [putErr, if_neg hk, if_neg (by simpa using k1), if_neg (by omega)], ?_⟩
          rw [Nat.mul_zero, List.drop_zero] at k3
          rw [putB]
          conv => rhs; rw [k3]
          congr 2
          omega
end Go.Proofs.Ytbicbjfdinhpoaa
