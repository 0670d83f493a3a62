/- Both arrays of disks: new blocks, copies, what was forgotten; how much is in flight. -/
import Derived.Test.YtickckpndpeppaaALz
namespace Go.Proofs.Ytickckpndpeppaa
open Go Go.Abs Go.Abs.GF
set_option linter.unusedVariables false
set_option linter.unusedSimpArgs false
set_option maxHeartbeats 4000000
attribute [local irreducible] ASpec AWp WP AOps DOps

section
variable {H0 H H' : AH} {X Y : List Nat} {P Q : Nat} {A B : Arr}
theorem ArrN.addL (h : ArrN H0 X H P A) (g : Grew H H') {L : List Nat} (hL : ∀ i ∈ L, H.n ≤ i ∧ i < H'.n) : ArrN H0 (X ++ L) H' P A := by
  obtain ⟨⟨D, fv, dvs, k1, k2⟩, k3, k4⟩ := h
  have hlt := k1.lt
  refine ⟨⟨D, fv, dvs, k1.grew g, fun j hj => ⟨(k2 j hj).1, fun hm => ?_⟩⟩, fun j hj => ?_, k4.trans g⟩
  · rcases List.mem_append.1 hm with hm | hm
    · exact (k2 j hj).2 hm
    · have := hlt _ hj; have := hL j hm; omega
  · rcases List.mem_append.1 hj with hj | hj
    · exact Nat.lt_of_lt_of_le (k3 j hj) g.n
    · exact (hL j hj).2
theorem Duo.addL (h : Duo H0 Y H Q P B A) (g : Grew H H') {L : List Nat} (hL : ∀ i ∈ L, H.n ≤ i ∧ i < H'.n) : Duo H0 (Y ++ L) H' Q P B A := by
  obtain ⟨X, k1, k2, k3⟩ := h.ex
  refine ⟨X, by rw [← List.append_assoc]; exact k1.addL g hL, k2.grew g, fun j hj hm => ?_⟩
  rcases List.mem_append.1 hj with hj | hj
  · exact k3 j hj hm
  · have := k2.lt _ hm; have := hL j hj; omega
theorem IsArr.also {H : AH} {Z : Nat → Prop} {P D : Nat} {fv : AV} {dvs : List AV} {A : Arr} (h : IsArr H P D fv dvs A) : IsArr (H.also Z) P D fv dvs A :=
  { h with hd := h.hd, ds := h.ds, each := fun d hd => (h.each d hd).also, fl := h.fl }
theorem Duo.clr (h : Duo H0 Y H Q P B A) : Duo H0 Y H.clr Q P B A := by
  obtain ⟨X, k1, k2, k3⟩ := h.ex
  obtain ⟨D, lv, ds, fl, h1, rfl⟩ := k2.is
  exact ⟨_, k1.clr, ⟨⟨D, lv, ds, fl, h1.clr, rfl⟩, k2.new, k2.good⟩, k3⟩
theorem Duo.also {H1 : AH} (h : Duo H0 Y H' Q P B A) (g : Grew H0 H1) : Duo H0 Y (H'.also H1.wr) Q P B A := by
  obtain ⟨X, k1, k2, k3⟩ := h.ex
  obtain ⟨D, lv, ds, fl, h1, rfl⟩ := k2.is
  obtain ⟨⟨D', fv, dvs, h3, h4⟩, h5, h6⟩ := k1
  exact ⟨_, ⟨⟨D', fv, dvs, h3.also, h4⟩, h5, ⟨h6.ro, h6.n, h6.old, fun i hi => hi.elim (h6.wr i) (g.wr i)⟩⟩, ⟨⟨D, lv, ds, fl, h1.also, rfl⟩, k2.new, k2.good⟩, k3⟩
/-- Another one in the place of the program's. -/
theorem Duo.swap {Q' D' : Nat} {fv' : AV} {dvs' : List AV} {X : List Nat} {H1 : AH} (k2 : RefS H0 H P A X) (k3 : ∀ i ∈ Y, i ∉ X) (y1 : IsArr H1 Q' D' fv' dvs' A) (y2 : ∀ i ∈ ownB Q' D' fv' dvs', H0.n ≤ i ∧ i ∉ X ++ Y) (g : Grew H H1) (hY : ∀ i ∈ Y, i < H.n) (g0 : Grew H0 H)
    (s : Stp H0 ((X ++ Y) ++ ownB Q' D' fv' dvs') H1 H') : Duo H0 Y H' Q' P A A := by
  have hr := (k2.grew g).stp (s.more fun i hi => List.mem_append_left _ (List.mem_append_left _ hi))
  have hn := s.n
  refine ⟨X, ⟨⟨D', fv', dvs', ?_, y2⟩, fun i hi => ?_, s.grew (g0.trans g)⟩, hr, k3⟩
  · obtain ⟨S, c, hs⟩ := s
    exact y1.chg c fun i hi hm => (hs i hm).2 (List.mem_append_right _ hi)
  · rcases List.mem_append.1 hi with hi | hi
    · exact hr.lt i hi
    · have := hY i hi; have := g.n; omega
end
theorem Duo.start {H H1 H2 : AH} {Q P D : Nat} {lv : AV} {ds : List RD} {fl : List RF} {A B : Arr} (c1 : ArrN H [] H1 Q B) (g2 : Grew H1 H2) (c2 : IsRef H2 P D lv ds fl A) (hnew : ∀ i ∈ allR P D lv ds fl, H1.n ≤ i) (hg : A.good) : Duo H [] H2 Q P B A := by
  obtain ⟨⟨D1, fv, dvs, k1, k2⟩, _, k4⟩ := c1
  refine ⟨allR P D lv ds fl, ⟨⟨D1, fv, dvs, k1.grew g2, fun i hi => ⟨(k2 i hi).1, fun hm => ?_⟩⟩, fun i hi => ?_, k4.trans g2⟩, ⟨⟨D, lv, ds, fl, c2, rfl⟩, fun i hi => Nat.le_trans k4.n (hnew i hi), hg⟩, by simp⟩
  · rw [List.append_nil] at hm
    have := k1.lt i hi; have := hnew i hm; omega
  · rw [List.append_nil] at hi
    exact c2.ltA i hi
theorem Stp.unwr {H0 H H' : AH} {X : List Nat} (s : Stp H0 X H.clr H') {i : Nat} (hi : i ∈ X) (hl : i < H.n) : ¬ H'.wr i := fun hw => by
  obtain ⟨S, c, hs⟩ := s
  rcases c.wr i hw with h | h | h
  · exact h
  · exact (hs i h).2 hi
  · rw [clr_n] at h; omega
theorem Stp.also {H0 H H' : AH} {X : List Nat} (s : Stp H0 X H.clr H') : Stp H0 X H (H'.also H.wr) := by
  obtain ⟨S, c, hs⟩ := s
  exact ⟨S, ⟨c.ro, c.n, c.old, fun i hi => hi.elim (fun e => (c.wr i e).elim False.elim .inr) .inl⟩, hs⟩
theorem fly_write (A : Arr) (d i : Int) (bs : List UInt8) : (A.write d i bs).2.fly.length ≤ A.fly.length + 1 := by
  unfold Arr.write
  split
  · simp
  · split
    · simp
    · split
      · rw [Arr.burn_fly]; simp
      · simp [Arr.burn_fly]
theorem fly_barrier (A : Arr) : A.barrier.2.fly.length ≤ A.fly.length := by
  unfold Arr.barrier
  split
  · simp
  · split
    · rw [Arr.burn_fly]; simp
    · simp
theorem fly_lose (A : Arr) (d : Int) : (A.lose d).2.fly.length ≤ A.fly.length := by
  unfold Arr.lose
  split
  · simp
  · split
    · exact List.length_filter_le _ _
    · simp
theorem fly_replace (A : Arr) (d : Int) : (A.replace d).2.fly.length = A.fly.length := by
  unfold Arr.replace
  split
  · rfl
  · split <;> rfl
end Go.Proofs.Ytickckpndpeppaa
