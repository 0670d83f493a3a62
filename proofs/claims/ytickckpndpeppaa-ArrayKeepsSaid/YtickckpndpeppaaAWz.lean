/- Arrays of disks among other things: what each call does, and what it leaves alone. -/
import Derived.Test.YtickckpndpeppaaAM7z
namespace Go.Proofs.Ytickckpndpeppaa
open Go Go.Abs Go.Abs.GF
set_option linter.unusedVariables false
set_option linter.unusedSimpArgs false
set_option maxHeartbeats 4000000
attribute [local irreducible] ASpec AWp WP AOps DOps

/-- A step that changes none of these blocks, nor what was there at the beginning. -/
def Stp (H0 : AH) (X : List Nat) (H H' : AH) : Prop := ∃ S, Chg S H H' ∧ ∀ i ∈ S, H0.n ≤ i ∧ i ∉ X
structure ArrN (H0 : AH) (X : List Nat) (H : AH) (P : Nat) (A : Arr) : Prop where
  is : ∃ D fv dvs, IsArr H P D fv dvs A ∧ ∀ i ∈ ownB P D fv dvs, H0.n ≤ i ∧ i ∉ X
  lt : ∀ i ∈ X, i < H.n
  g : Grew H0 H
section
variable {H0 H H' H'' : AH} {X : List Nat} {P : Nat} {A : Arr}
theorem Stp.refl (H0 : AH) (X : List Nat) (H : AH) : Stp H0 X H H := ⟨[], Chg.refl _ _, by simp⟩
theorem Stp.of {H0 H H' : AH} {X : List Nat} (g : Grew H H') : Stp H0 X H H' := ⟨[], g.chg _, by simp⟩
theorem Stp.trans (h : Stp H0 X H H') (k : Stp H0 X H' H'') : Stp H0 X H H'' := by
  obtain ⟨S, h1, h2⟩ := h
  obtain ⟨S', k1, k2⟩ := k
  exact ⟨S ++ S', (h1.mono fun i hi => List.mem_append_left _ hi).trans (k1.mono fun i hi => List.mem_append_right _ hi), fun i hi => (List.mem_append.1 hi).elim (h2 i) (k2 i)⟩
theorem Stp.grew (h : Stp H0 X H H') (g : Grew H0 H) : Grew H0 H' := by
  obtain ⟨S, h1, h2⟩ := h
  exact ((g.chg S).trans h1).grew fun i hi => (h2 i hi).1
theorem Stp.n (h : Stp H0 X H H') : H.n ≤ H'.n := by obtain ⟨S, h1, _⟩ := h; exact h1.n
theorem Stp.cells (h : Stp H0 X H H') {i : Nat} (hi : i ∈ X) {l : List AV} (hl : H.cells? i = some l) : H'.cells? i = some l := by
  obtain ⟨S, h1, h2⟩ := h
  exact h1.cells (fun hm => (h2 i hm).2 hi) hl
theorem Stp.more {Y : List Nat} (h : Stp H0 X H H') (hy : ∀ i ∈ Y, i ∈ X) : Stp H0 Y H H' := by
  obtain ⟨S, h1, h2⟩ := h
  exact ⟨S, h1, fun i hi => ⟨(h2 i hi).1, fun hm => (h2 i hi).2 (hy i hm)⟩⟩
/-- Bytes that were there at the beginning, or lie in a block that is kept. -/
theorem Stp.bytes (h : Stp H0 X H H') {v : AV} {bs : List UInt8} (hb : IsBytes H v bs) (hv : ∀ i ∈ blkOf v, i ∈ X) : IsBytes H' v bs := by
  obtain ⟨S, h1, h2⟩ := h
  refine hb.chg h1 ?_
  rcases hb.elim with ⟨rfl, _⟩ | ⟨a, c, l, rfl, _⟩
  · trivial
  · exact .inr fun hm => (h2 _ hm).2 (hv _ (by simp [blkOf]))
theorem ArrN.of_went {S S' : List Nat} (w : Went H S H' S') (hS : ∀ i ∈ S, H0.n ≤ i ∧ i ∉ X) (hX : ∀ i ∈ X, i < H.n) (g : Grew H0 H) : (∀ i ∈ S', H0.n ≤ i ∧ i ∉ X) ∧ (∀ i ∈ X, i < H'.n) ∧ Grew H0 H' ∧ Stp H0 X H H' := by
  have st : Stp H0 X H H' := ⟨S, w.chg, hS⟩
  refine ⟨fun i hi => ?_, fun i hi => Nat.lt_of_lt_of_le (hX i hi) w.chg.n, st.grew g, st⟩
  rcases w.sub i hi with h1 | h1
  · exact hS i h1
  · exact ⟨Nat.le_trans g.n h1, fun hm => by have := hX i hm; omega⟩
theorem ArrN.grew (h : ArrN H0 X H P A) (g : Grew H H') : ArrN H0 X H' P A := by
  obtain ⟨⟨D, fv, dvs, h1, h2⟩, h3, h4⟩ := h
  exact ⟨⟨D, fv, dvs, h1.grew g, h2⟩, fun i hi => Nat.lt_of_lt_of_le (h3 i hi) g.n, h4.trans g⟩
/-- Another's step. -/
theorem ArrN.stp (h : ArrN H0 X H P A) {S : List Nat} (c : Chg S H H') (hs : ∀ i ∈ S, H0.n ≤ i ∧ i ∉ X) (ho : ∀ D fv dvs, IsArr H P D fv dvs A → ∀ i ∈ ownB P D fv dvs, i ∉ S) : ArrN H0 X H' P A := by
  obtain ⟨⟨D, fv, dvs, h1, h2⟩, h3, h4⟩ := h
  exact ⟨⟨D, fv, dvs, h1.chg c (ho _ _ _ h1), h2⟩, fun i hi => Nat.lt_of_lt_of_le (h3 i hi) c.n, ((h4.chg S).trans c).grew fun i hi => (hs i hi).1⟩
/-- More is kept: what lies in none of its blocks. -/
theorem ArrN.keep (h : ArrN H0 X H P A) {i : Nat} (hi : i < H.n) (ho : ∀ D fv dvs, IsArr H P D fv dvs A → i ∉ ownB P D fv dvs) : ArrN H0 (i :: X) H P A := by
  obtain ⟨⟨D, fv, dvs, h1, h2⟩, h3, h4⟩ := h
  refine ⟨⟨D, fv, dvs, h1, fun j hj => ⟨(h2 j hj).1, fun hm => ?_⟩⟩, fun j hj => ?_, h4⟩
  · rcases List.mem_cons.1 hm with rfl | hm
    · exact ho _ _ _ h1 hj
    · exact (h2 j hj).2 hm
  · rcases List.mem_cons.1 hj with rfl | hj
    · exact hi
    · exact h3 j hj
theorem ArrN.newBlk (h : ArrN H0 X H P A) (g : Grew H H') {i : Nat} (h1 : H.n ≤ i) (h2 : i < H'.n) : ArrN H0 (i :: X) H' P A := by
  obtain ⟨⟨D, fv, dvs, k1, k2⟩, k3, k4⟩ := h
  have hlt := k1.lt
  refine ⟨⟨D, fv, dvs, k1.grew g, fun j hj => ⟨(k2 j hj).1, fun hm => ?_⟩⟩, fun j hj => ?_, k4.trans g⟩
  · rcases List.mem_cons.1 hm with rfl | hm
    · have := hlt _ hj; omega
    · exact (k2 j hj).2 hm
  · rcases List.mem_cons.1 hj with rfl | hj
    · exact h2
    · exact Nat.lt_of_lt_of_le (k3 j hj) g.n
theorem ArrN.less {Y : List Nat} (h : ArrN H0 X H P A) (hy : ∀ i ∈ Y, i ∈ X) : ArrN H0 Y H P A := by
  obtain ⟨⟨D, fv, dvs, h1, h2⟩, h3, h4⟩ := h
  exact ⟨⟨D, fv, dvs, h1, fun i hi => ⟨(h2 i hi).1, fun hm => (h2 i hi).2 (hy i hm)⟩⟩, fun i hi => h3 i (hy i hi), h4⟩
theorem ArrN.pP (h : ArrN H0 X H P A) : H0.n ≤ P ∧ P < H.n ∧ P ∉ X := by
  obtain ⟨⟨D, fv, dvs, h1, h2⟩, h3, h4⟩ := h
  exact ⟨(h2 P own_P).1, h1.lt P own_P, (h2 P own_P).2⟩
theorem ArrN.cnt (h : ArrN H0 X H P A) : (0 < A.count ∧ A.count ≤ 4096) ∧ 0 < A.disks.length ∧ A.disks.length ≤ 255 := by
  obtain ⟨⟨D, fv, dvs, h1, h2⟩, h3, h4⟩ := h
  exact ⟨h1.cnt, h1.dn⟩
theorem newN_spec (hX : ∀ i ∈ X, i < H.n) (g : Grew H0 H) (disks count : Nat) (hd : 1 ≤ disks ∧ disks ≤ 255) (hc : 1 ≤ count ∧ count ≤ 4096) : ASpec Try.prog 10 [.int .i64 disks, .int .i64 count] H fun r H' => ∃ P, r = .tup [.ptr ⟨false, P, 0⟩, .int .i64 0] ∧ H.n ≤ P ∧ ArrN H0 X H' P (newArr disks count) ∧ Grew H H' := by
  refine (new_spec H disks count).mono ?_
  rintro r H' (⟨h1, _⟩ | ⟨_, P, D, dvs, rfl, hA, g1, hnew⟩)
  · omega
  · simp only [Int.toNat_natCast] at hA
    exact ⟨P, rfl, hnew P own_P, ⟨⟨D, _, dvs, hA, fun i hi => ⟨Nat.le_trans g.n (hnew i hi), fun hm => by have := hX i hm; have := hnew i hi; omega⟩⟩, fun i hi => Nat.lt_of_lt_of_le (hX i hi) g1.n, g.trans g1⟩, g1⟩
theorem disksN_spec (h : ArrN H0 X H P A) : ASpec Try.prog 12 [.ptr ⟨false, P, 0⟩] H fun r H' => r = .int .i64 A.disks.length ∧ H' = H := by
  obtain ⟨⟨D, fv, dvs, h1, h2⟩, h3, h4⟩ := h; exact disks_spec h1
theorem sectorsN_spec (h : ArrN H0 X H P A) : ASpec Try.prog 13 [.ptr ⟨false, P, 0⟩] H fun r H' => r = .int .i64 A.count ∧ H' = H := by
  obtain ⟨⟨D, fv, dvs, h1, h2⟩, h3, h4⟩ := h; exact sectors_spec h1
theorem offN_spec (h : ArrN H0 X H P A) : ASpec Try.prog 25 [.ptr ⟨false, P, 0⟩] H fun r H' => r = .bool A.off ∧ H' = H := by
  obtain ⟨⟨D, fv, dvs, h1, h2⟩, h3, h4⟩ := h; exact off_spec h1
theorem flightN_spec (h : ArrN H0 X H P A) : ASpec Try.prog 20 [.ptr ⟨false, P, 0⟩] H fun r H' => r = .int .i64 A.fly.length ∧ H' = H := by
  obtain ⟨⟨D, fv, dvs, h1, h2⟩, h3, h4⟩ := h; exact flight_spec h1
theorem onN_spec (h : ArrN H0 X H P A) (d : Int) : ASpec Try.prog 26 [.ptr ⟨false, P, 0⟩, .int .i64 d] H fun r H' => r = .bool (A.on d) ∧ H' = H := by
  obtain ⟨⟨D, fv, dvs, h1, h2⟩, h3, h4⟩ := h; exact on_spec h1 d
theorem onsN_spec (h : ArrN H0 X H P A) : ASpec Try.prog 14 [.ptr ⟨false, P, 0⟩] H fun r H' => r = .int .i64 (A.ons : Nat) ∧ H' = H := by
  obtain ⟨⟨D, fv, dvs, h1, h2⟩, h3, h4⟩ := h; exact ons_spec h1
theorem writeN_spec (h : ArrN H0 X H P A) (d i : Int) (v : AV) (bs : List UInt8) (hb : IsBytes H v bs) (hbl : bs.length ≤ 140737488351232) (ho : offB [P] v) (hn : A.fly.length < 1000000) :
    ASpec Try.prog 17 [.ptr ⟨false, P, 0⟩, .int .i64 d, .int .i64 i, v] H fun r H' => r = .int .i64 ((A.write d i bs).1 : Nat) ∧ ArrN H0 X H' P (A.write d i bs).2 ∧ Stp H0 X H H' := by
  obtain ⟨⟨D, fv, dvs, h1, h2⟩, h3, h4⟩ := h
  refine (write_spec h1 d i v bs hb hbl ho hn).mono ?_
  rintro r H' ⟨rfl, fv', k1, w⟩
  obtain ⟨w1, w2, w3, w4⟩ := ArrN.of_went w h2 h3 h4
  exact ⟨rfl, ⟨⟨D, fv', dvs, k1, w1⟩, w2, w3⟩, w4⟩
theorem readN_spec (h : ArrN H0 X H P A) (d i : Int) (hn : A.fly.length < 1000000) : ASpec Try.prog 11 [.ptr ⟨false, P, 0⟩, .int .i64 d, .int .i64 i] H fun r H' =>
    (A.why d i ≠ 0 ∧ r = .tup [.nilslice, .int .i64 (A.why d i : Nat)] ∧ H' = H) ∨ (A.why d i = 0 ∧ ∃ B, r = .tup [.slice ⟨false, B, 0⟩ 64 (.known 64), .int .i64 0] ∧ H.n ≤ B ∧ Grew H H' ∧ IsBytes H' (.slice ⟨false, B, 0⟩ 64 (.known 64)) (A.read d.toNat i.toNat) ∧ (A.read d.toNat i.toNat).length = 64) := by
  obtain ⟨⟨D, fv, dvs, h1, h2⟩, h3, h4⟩ := h; exact read_spec h1 d i hn
theorem barrierN_spec (h : ArrN H0 X H P A) (hn : A.fly.length < 1000000) : ASpec Try.prog 24 [.ptr ⟨false, P, 0⟩] H fun r H' => r = .int .i64 (A.barrier.1 : Nat) ∧ ArrN H0 X H' P A.barrier.2 ∧ Stp H0 X H H' := by
  obtain ⟨⟨D, fv, dvs, h1, h2⟩, h3, h4⟩ := h
  refine (barrier_spec h1 hn).mono ?_
  rintro r H' ⟨rfl, fv', k1, w⟩
  obtain ⟨w1, w2, w3, w4⟩ := ArrN.of_went w h2 h3 h4
  exact ⟨rfl, ⟨⟨D, fv', dvs, k1, w1⟩, w2, w3⟩, w4⟩
theorem crashN_spec (h : ArrN H0 X H P A) (v : AV) (picks : List UInt8) (hb : IsBytes H v picks) (hn : A.fly.length < 1000000) (ho : ∀ S : List Nat, (∀ i ∈ S, H0.n ≤ i ∧ i ∉ X) → offB S v) : ASpec Try.prog 22 [.ptr ⟨false, P, 0⟩, v] H fun r H' => ArrN H0 X H' P (A.crash picks) ∧ Stp H0 X H H' := by
  obtain ⟨⟨D, fv, dvs, h1, h2⟩, h3, h4⟩ := h
  refine (crash_spec h1 v picks hb hn (ho _ h2)).mono ?_
  rintro r H' ⟨fv', k1, w⟩
  obtain ⟨w1, w2, w3, w4⟩ := ArrN.of_went w h2 h3 h4
  exact ⟨⟨⟨D, fv', dvs, k1, w1⟩, w2, w3⟩, w4⟩
theorem loseN_spec (h : ArrN H0 X H P A) (hn : A.fly.length < 1000000) (d : Int) : ASpec Try.prog 19 [.ptr ⟨false, P, 0⟩, .int .i64 d] H fun r H' => r = .int .i64 ((A.lose d).1 : Nat) ∧ ArrN H0 X H' P (A.lose d).2 ∧ Stp H0 X H H' := by
  obtain ⟨⟨D, fv, dvs, h1, h2⟩, h3, h4⟩ := h
  refine (lose_spec h1 hn d).mono ?_
  rintro r H' ⟨rfl, fv', dvs', k1, w⟩
  obtain ⟨w1, w2, w3, w4⟩ := ArrN.of_went w h2 h3 h4
  exact ⟨rfl, ⟨⟨D, fv', dvs', k1, w1⟩, w2, w3⟩, w4⟩
theorem replaceN_spec (h : ArrN H0 X H P A) (d : Int) : ASpec Try.prog 21 [.ptr ⟨false, P, 0⟩, .int .i64 d] H fun r H' => r = .int .i64 ((A.replace d).1 : Nat) ∧ ArrN H0 X H' P (A.replace d).2 ∧ Stp H0 X H H' := by
  obtain ⟨⟨D, fv, dvs, h1, h2⟩, h3, h4⟩ := h
  refine (replace_spec h1 d).mono ?_
  rintro r H' ⟨rfl, dvs', k1, w⟩
  obtain ⟨w1, w2, w3, w4⟩ := ArrN.of_went w h2 h3 h4
  exact ⟨rfl, ⟨⟨D, fv, dvs', k1, w1⟩, w2, w3⟩, w4⟩
theorem fuseN_spec (h : ArrN H0 X H P A) (n : Int) (hn : n ≤ 9223372036854775807) : ASpec Try.prog 33 [.ptr ⟨false, P, 0⟩, .int .i64 n] H fun r H' => ArrN H0 X H' P { A with fuse := n.toNat } ∧ Stp H0 X H H' := by
  obtain ⟨⟨D, fv, dvs, h1, h2⟩, h3, h4⟩ := h
  refine (fuse_spec h1 n hn).mono ?_
  rintro r H' ⟨k1, c⟩
  obtain ⟨w1, w2, w3, w4⟩ := ArrN.of_went (S' := ownB P D fv dvs) ⟨c.mono (by simp [ownB]), fun i hi => .inl hi⟩ h2 h3 h4
  exact ⟨⟨⟨D, fv, dvs, k1, w1⟩, w2, w3⟩, w4⟩
theorem copyN_spec (h : ArrN H0 X H P A) (hn : A.fly.length < 1000000) : ASpec Try.prog 36 [.ptr ⟨false, P, 0⟩] H fun r H' => ∃ P', r = .ptr ⟨false, P', 0⟩ ∧ H.n ≤ P' ∧ Grew H H' ∧ ∀ Y : List Nat, (∀ i ∈ Y, i < H.n) → ArrN H Y H' P' A := by
  obtain ⟨⟨D, fv, dvs, h1, h2⟩, h3, h4⟩ := h
  refine (copy_spec h1 hn).mono ?_
  rintro r H' ⟨P', D', fv', dvs', rfl, k1, g, hnew⟩
  exact ⟨P', rfl, hnew P' own_P, g, fun Y hY => ⟨⟨D', fv', dvs', k1, fun i hi => ⟨hnew i hi, fun hm => by have := hnew i hi; have := hY i hm; omega⟩⟩, fun i hi => Nat.lt_of_lt_of_le (hY i hi) g.n, g⟩⟩
/-- Counted from an older memory. -/
theorem ArrN.base {H1 : AH} (g : Grew H0 H1) (h : ArrN H1 X H P A) : ArrN H0 X H P A := by
  obtain ⟨⟨D, fv, dvs, h1, h2⟩, h3, h4⟩ := h
  exact ⟨⟨D, fv, dvs, h1, fun i hi => ⟨Nat.le_trans g.n (h2 i hi).1, (h2 i hi).2⟩⟩, h3, g.trans h4⟩
end
end Go.Proofs.Ytickckpndpeppaa
