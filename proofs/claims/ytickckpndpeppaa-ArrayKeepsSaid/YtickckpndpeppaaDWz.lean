/- Both arrays of disks side by side. -/
import Derived.Test.YtickckpndpeppaaAWz
import Derived.Test.YtickckpndpeppaaDM6z
namespace Go.Proofs.Ytickckpndpeppaa
open Go Go.Abs Go.Abs.GF
set_option linter.unusedVariables false
set_option linter.unusedSimpArgs false
set_option maxHeartbeats 4000000
attribute [local irreducible] ASpec AWp WP AOps DOps

/-- The document's array, and all its blocks. -/
structure RefS (H0 H : AH) (P : Nat) (A : Arr) (X : List Nat) : Prop where
  is : ∃ D lv ds fl, IsRef H P D lv ds fl A ∧ X = allR P D lv ds fl
  new : ∀ i ∈ X, H0.n ≤ i
  good : A.good
section
variable {H0 H H' : AH} {X : List Nat} {P Q : Nat} {A B : Arr}
theorem RefS.lt (h : RefS H0 H P A X) : ∀ i ∈ X, i < H.n := by
  obtain ⟨D, lv, ds, fl, h1, rfl⟩ := h.is
  exact h1.ltA
theorem RefS.stp (h : RefS H0 H P A X) (s : Stp H0 X H H') : RefS H0 H' P A X := by
  obtain ⟨D, lv, ds, fl, h1, rfl⟩ := h.is
  obtain ⟨S, c, hs⟩ := s
  exact ⟨⟨D, lv, ds, fl, h1.chg c fun i hi hm => (hs i hm).2 hi, rfl⟩, h.new, h.good⟩
theorem RefS.grew (h : RefS H0 H P A X) (g : Grew H H') : RefS H0 H' P A X := h.stp (Stp.of g)
theorem RefS.of (h : RefS H0 H P A X) (g0 : Grew H0 H) {X' : List Nat} {D : Nat} {lv : AV} {ds : List RD} {fl : List RF} (h1 : IsRef H' P D lv ds fl B) (e : X' = allR P D lv ds fl) (w : Went H X H' X') (hg : B.good) : RefS H0 H' P B X' :=
  ⟨⟨D, lv, ds, fl, h1, e⟩, fun i hi => (w.sub i hi).elim (h.new i) fun e => Nat.le_trans g0.n e, hg⟩
end
/-- Both arrays; these blocks are somebody else's. -/
structure Duo (H0 : AH) (Y : List Nat) (H : AH) (Q P : Nat) (B A : Arr) : Prop where
  ex : ∃ X, ArrN H0 (X ++ Y) H Q B ∧ RefS H0 H P A X ∧ ∀ i ∈ Y, i ∉ X
section
variable {H0 H H' : AH} {Y : List Nat} {P Q : Nat} {A B A' B' : Arr}
theorem Duo.g (h : Duo H0 Y H Q P B A) : Grew H0 H := by obtain ⟨X, h1, _⟩ := h.ex; exact h1.g
theorem Duo.lt (h : Duo H0 Y H Q P B A) : ∀ i ∈ Y, i < H.n := fun i hi => by obtain ⟨X, h1, _⟩ := h.ex; exact h1.lt i (List.mem_append_right _ hi)
theorem Duo.good (h : Duo H0 Y H Q P B A) : A.good := by obtain ⟨X, _, h2, _⟩ := h.ex; exact h2.good
theorem Duo.grew (h : Duo H0 Y H Q P B A) (g : Grew H H') : Duo H0 Y H' Q P B A := by
  obtain ⟨X, h1, h2, h3⟩ := h.ex
  exact ⟨X, h1.grew g, h2.grew g, h3⟩
theorem Duo.less {Y' : List Nat} (h : Duo H0 Y H Q P B A) (hy : ∀ i ∈ Y', i ∈ Y) : Duo H0 Y' H Q P B A := by
  obtain ⟨X, h1, h2, h3⟩ := h.ex
  exact ⟨X, h1.less fun i hi => (List.mem_append.1 hi).elim (List.mem_append_left _) fun e => List.mem_append_right _ (hy i e), h2, fun i hi => h3 i (hy i hi)⟩
/-- A new block, somebody else's. -/
theorem Duo.newBlk (h : Duo H0 Y H Q P B A) (g : Grew H H') {i : Nat} (h1 : H.n ≤ i) (h2 : i < H'.n) : Duo H0 (i :: Y) H' Q P B A := by
  obtain ⟨X, k1, k2, k3⟩ := h.ex
  refine ⟨X, (k1.newBlk g h1 h2).less fun j hj => ?_, k2.grew g, fun j hj hm => ?_⟩
  · rcases List.mem_append.1 hj with hj | hj
    · exact List.mem_cons_of_mem _ (List.mem_append_left _ hj)
    · rcases List.mem_cons.1 hj with rfl | hj
      · simp
      · exact List.mem_cons_of_mem _ (List.mem_append_right _ hj)
  · rcases List.mem_cons.1 hj with rfl | hj
    · have := k2.lt _ hm; omega
    · exact k3 j hj hm
/-- Somebody else's step. -/
theorem Duo.theirs (h : Duo H0 Y H Q P B A) {S : List Nat} (c : Chg S H H') (hS : ∀ i ∈ S, i ∈ Y) (hn : ∀ i ∈ S, H0.n ≤ i) : Duo H0 Y H' Q P B A := by
  obtain ⟨X, k1, k2, k3⟩ := h.ex
  obtain ⟨⟨D, fv, dvs, h1, h2⟩, h3, h4⟩ := k1
  refine ⟨X, ⟨⟨D, fv, dvs, h1.chg c fun i hi hm => (h2 i hi).2 (List.mem_append_right _ (hS i hm)), h2⟩, fun i hi => Nat.lt_of_lt_of_le (h3 i hi) c.n, ((h4.chg S).trans c).grew hn⟩, k2.stp ⟨S, c, fun i hi => ⟨hn i hi, k3 i (hS i hi)⟩⟩, k3⟩
/-- The program's array has been done something to. -/
theorem Duo.one {X : List Nat} (k1 : ArrN H0 (X ++ Y) H' Q B') (s : Stp H0 (X ++ Y) H H') (k2 : RefS H0 H P A X) (k3 : ∀ i ∈ Y, i ∉ X) : Duo H0 Y H' Q P B' A ∧ Stp H0 Y H H' :=
  ⟨⟨X, k1, k2.stp (s.more fun i hi => List.mem_append_left _ hi), k3⟩, s.more fun i hi => List.mem_append_right _ hi⟩
/-- The document's has. -/
theorem Duo.two {X X' : List Nat} (k1 : ArrN H0 (X ++ Y) H Q B) (k2 : RefS H0 H P A X) (k3 : ∀ i ∈ Y, i ∉ X) (r : RefS H0 H' P A' X') (w : Went H X H' X') : Duo H0 Y H' Q P B A' ∧ Stp H0 Y H H' := by
  obtain ⟨⟨D, fv, dvs, h1, h2⟩, h3, h4⟩ := k1
  have hlt := h1.lt
  refine ⟨⟨X', ⟨⟨D, fv, dvs, h1.chg w.chg fun i hi hm => (h2 i hi).2 (List.mem_append_left _ hm), fun i hi => ⟨(h2 i hi).1, fun hm => ?_⟩⟩, fun i hi => ?_, ((h4.chg X).trans w.chg).grew k2.new⟩, r, fun i hi hm => ?_⟩, X, w.chg, fun i hi => ⟨k2.new i hi, fun hm => k3 i hm hi⟩⟩
  · rcases List.mem_append.1 hm with hm | hm
    · rcases w.sub i hm with h5 | h5
      · exact (h2 i hi).2 (List.mem_append_left _ h5)
      · have := hlt i hi; omega
    · exact (h2 i hi).2 (List.mem_append_right _ hm)
  · rcases List.mem_append.1 hi with hi | hi
    · exact r.lt i hi
    · exact Nat.lt_of_lt_of_le (h3 i (List.mem_append_right _ hi)) w.chg.n
  · rcases w.sub i hm with h5 | h5
    · exact k3 i hi h5
    · have := h3 i (List.mem_append_right _ hi); omega
theorem duoWrite (h : Duo H0 Y H Q P B A) (d i : Int) (v : AV) (bs : List UInt8) (hb : IsBytes H v bs) (hbl : bs.length ≤ 140737488351232) (ho : offB [Q] v) (hn : B.fly.length < 1000000) :
    ASpec Try.prog 17 [.ptr ⟨false, Q, 0⟩, .int .i64 d, .int .i64 i, v] H fun r H' => r = .int .i64 ((B.write d i bs).1 : Nat) ∧ Duo H0 Y H' Q P (B.write d i bs).2 A ∧ Stp H0 Y H H' := by
  obtain ⟨X, k1, k2, k3⟩ := h.ex
  refine (writeN_spec k1 d i v bs hb hbl ho hn).mono ?_
  rintro r H' ⟨rfl, a, s⟩
  exact ⟨rfl, Duo.one a s k2 k3⟩
theorem duoBarrier (h : Duo H0 Y H Q P B A) (hn : B.fly.length < 1000000) : ASpec Try.prog 24 [.ptr ⟨false, Q, 0⟩] H fun r H' => r = .int .i64 (B.barrier.1 : Nat) ∧ Duo H0 Y H' Q P B.barrier.2 A ∧ Stp H0 Y H H' := by
  obtain ⟨X, k1, k2, k3⟩ := h.ex
  refine (barrierN_spec k1 hn).mono ?_
  rintro r H' ⟨rfl, a, s⟩
  exact ⟨rfl, Duo.one a s k2 k3⟩
theorem duoLose (h : Duo H0 Y H Q P B A) (hn : B.fly.length < 1000000) (d : Int) : ASpec Try.prog 19 [.ptr ⟨false, Q, 0⟩, .int .i64 d] H fun r H' => r = .int .i64 ((B.lose d).1 : Nat) ∧ Duo H0 Y H' Q P (B.lose d).2 A ∧ Stp H0 Y H H' := by
  obtain ⟨X, k1, k2, k3⟩ := h.ex
  refine (loseN_spec k1 hn d).mono ?_
  rintro r H' ⟨rfl, a, s⟩
  exact ⟨rfl, Duo.one a s k2 k3⟩
theorem duoReplace (h : Duo H0 Y H Q P B A) (d : Int) : ASpec Try.prog 21 [.ptr ⟨false, Q, 0⟩, .int .i64 d] H fun r H' => r = .int .i64 ((B.replace d).1 : Nat) ∧ Duo H0 Y H' Q P (B.replace d).2 A ∧ Stp H0 Y H H' := by
  obtain ⟨X, k1, k2, k3⟩ := h.ex
  refine (replaceN_spec k1 d).mono ?_
  rintro r H' ⟨rfl, a, s⟩
  exact ⟨rfl, Duo.one a s k2 k3⟩
theorem duoFuse (h : Duo H0 Y H Q P B A) (n : Int) (hn : n ≤ 9223372036854775807) : ASpec Try.prog 33 [.ptr ⟨false, Q, 0⟩, .int .i64 n] H fun r H' => Duo H0 Y H' Q P { B with fuse := n.toNat } A ∧ Stp H0 Y H H' := by
  obtain ⟨X, k1, k2, k3⟩ := h.ex
  refine (fuseN_spec k1 n hn).mono ?_
  rintro r H' ⟨a, s⟩
  exact Duo.one a s k2 k3
theorem duoCrash (h : Duo H0 Y H Q P B A) (v : AV) (picks : List UInt8) (hb : IsBytes H v picks) (hn : B.fly.length < 1000000) (ho : ∀ S : List Nat, (∀ i ∈ S, H0.n ≤ i ∧ i ∉ Y) → offB S v) : ASpec Try.prog 22 [.ptr ⟨false, Q, 0⟩, v] H fun r H' => Duo H0 Y H' Q P (B.crash picks) A ∧ Stp H0 Y H H' := by
  obtain ⟨X, k1, k2, k3⟩ := h.ex
  refine (crashN_spec k1 v picks hb hn fun S hS => ho S fun i hi => ⟨(hS i hi).1, fun hm => (hS i hi).2 (List.mem_append_right _ hm)⟩).mono ?_
  rintro r H' ⟨a, s⟩
  exact Duo.one a s k2 k3
theorem duoRead (h : Duo H0 Y H Q P B A) (d i : Int) (hn : B.fly.length < 1000000) : ASpec Try.prog 11 [.ptr ⟨false, Q, 0⟩, .int .i64 d, .int .i64 i] H fun r H' =>
    (B.why d i ≠ 0 ∧ r = .tup [.nilslice, .int .i64 (B.why d i : Nat)] ∧ H' = H) ∨ (B.why d i = 0 ∧ ∃ C, r = .tup [.slice ⟨false, C, 0⟩ 64 (.known 64), .int .i64 0] ∧ H.n ≤ C ∧ Grew H H' ∧ IsBytes H' (.slice ⟨false, C, 0⟩ 64 (.known 64)) (B.read d.toNat i.toNat) ∧ (B.read d.toNat i.toNat).length = 64) := by
  obtain ⟨X, k1, k2, k3⟩ := h.ex
  exact readN_spec k1 d i hn
theorem duoWriteR (h : Duo H0 Y H Q P B A) (d i : Int) (v : AV) (bs : List UInt8) (hb : IsBytes H v bs) (hbl : bs.length ≤ 140737488351232) (ho : offB [P] v) (hn : A.fly.length < 1000000) :
    ASpec Try.prog 28 [.ptr ⟨false, P, 0⟩, .int .i64 d, .int .i64 i, v] H fun r H' => r = .int .i64 ((A.write d i bs).1 : Nat) ∧ Duo H0 Y H' Q P B (A.write d i bs).2 ∧ Stp H0 Y H H' := by
  obtain ⟨X, k1, k2, k3⟩ := h.ex
  obtain ⟨D, lv, ds, fl, h1, rfl⟩ := k2.is
  refine (refWrite_spec h1 d i v bs hb hbl ho hn).mono ?_
  rintro r H' ⟨rfl, lv', fl', h2, w⟩
  exact ⟨rfl, Duo.two k1 k2 k3 (k2.of k1.g h2 rfl w (k2.good.write d i bs)) w⟩
theorem duoBarrierR (h : Duo H0 Y H Q P B A) (hn : A.fly.length < 1000000) : ASpec Try.prog 30 [.ptr ⟨false, P, 0⟩] H fun r H' => r = .int .i64 (A.barrier.1 : Nat) ∧ Duo H0 Y H' Q P B A.barrier.2 ∧ Stp H0 Y H H' := by
  obtain ⟨X, k1, k2, k3⟩ := h.ex
  obtain ⟨D, lv, ds, fl, h1, rfl⟩ := k2.is
  refine (refBarrier_spec h1 k2.good hn).mono ?_
  rintro r H' ⟨rfl, lv', ds', fl', h2, w⟩
  exact ⟨rfl, Duo.two k1 k2 k3 (k2.of k1.g h2 rfl w k2.good.barrier) w⟩
theorem duoLoseR (h : Duo H0 Y H Q P B A) (hn : A.fly.length < 1000000) (d : Int) : ASpec Try.prog 31 [.ptr ⟨false, P, 0⟩, .int .i64 d] H fun r H' => r = .int .i64 ((A.lose d).1 : Nat) ∧ Duo H0 Y H' Q P B (A.lose d).2 ∧ Stp H0 Y H H' := by
  obtain ⟨X, k1, k2, k3⟩ := h.ex
  obtain ⟨D, lv, ds, fl, h1, rfl⟩ := k2.is
  refine (refLose_spec h1 hn d).mono ?_
  rintro r H' ⟨rfl, lv', ds', fl', h2, w⟩
  exact ⟨rfl, Duo.two k1 k2 k3 (k2.of k1.g h2 rfl w (k2.good.lose d)) w⟩
theorem duoReplaceR (h : Duo H0 Y H Q P B A) (d : Int) : ASpec Try.prog 32 [.ptr ⟨false, P, 0⟩, .int .i64 d] H fun r H' => r = .int .i64 ((A.replace d).1 : Nat) ∧ Duo H0 Y H' Q P B (A.replace d).2 ∧ Stp H0 Y H H' := by
  obtain ⟨X, k1, k2, k3⟩ := h.ex
  obtain ⟨D, lv, ds, fl, h1, rfl⟩ := k2.is
  refine (refReplace_spec h1 d).mono ?_
  rintro r H' ⟨rfl, ds', h2, w⟩
  exact ⟨rfl, Duo.two k1 k2 k3 (k2.of k1.g h2 rfl w (k2.good.replace d)) w⟩
theorem duoFuseR (h : Duo H0 Y H Q P B A) (n : Int) (hn : n ≤ 9223372036854775807) : ASpec Try.prog 34 [.ptr ⟨false, P, 0⟩, .int .i64 n] H fun r H' => Duo H0 Y H' Q P B { A with fuse := n.toNat } ∧ Stp H0 Y H H' := by
  obtain ⟨X, k1, k2, k3⟩ := h.ex
  obtain ⟨D, lv, ds, fl, h1, rfl⟩ := k2.is
  refine (refFuse_spec h1 n hn).mono ?_
  rintro r H' ⟨h2, c⟩
  have w : Went H (allR P D lv ds fl) H' (allR P D lv ds fl) := ⟨c.mono fun j hj => by simp only [List.mem_cons, List.not_mem_nil, or_false] at hj; subst hj; exact allR_own own_PR, fun j hj => .inl hj⟩
  exact Duo.two k1 k2 k3 (k2.of k1.g h2 rfl w (k2.good.fuse _)) w
theorem duoCrashR (h : Duo H0 Y H Q P B A) (v : AV) (picks : List UInt8) (hb : IsBytes H v picks) (hn : A.fly.length < 1000000) (ho : ∀ S : List Nat, (∀ i ∈ S, H0.n ≤ i ∧ i ∉ Y) → offB S v) : ASpec Try.prog 35 [.ptr ⟨false, P, 0⟩, v] H fun r H' => Duo H0 Y H' Q P B (A.crash picks) ∧ Stp H0 Y H H' := by
  obtain ⟨X, k1, k2, k3⟩ := h.ex
  obtain ⟨D, lv, ds, fl, h1, rfl⟩ := k2.is
  refine (refCrash_spec h1 k2.good v picks hb hn (ho _ fun i hi => ⟨k2.new i hi, fun hm => k3 i hm hi⟩)).mono ?_
  rintro r H' ⟨lv', ds', fl', h2, w⟩
  exact Duo.two k1 k2 k3 (k2.of k1.g h2 rfl w (k2.good.crash picks)) w
theorem duoReadR (h : Duo H0 Y H Q P B A) (d i : Int) (hn : A.fly.length < 1000000) : ASpec Try.prog 29 [.ptr ⟨false, P, 0⟩, .int .i64 d, .int .i64 i] H fun r H' =>
    (A.why d i ≠ 0 ∧ r = .tup [.nilslice, .int .i64 (A.why d i : Nat)] ∧ H' = H) ∨ (A.why d i = 0 ∧ r = .tup [.slice ⟨false, H.n, 0⟩ 64 (.grow 1), .int .i64 0] ∧ Grew H H' ∧ IsBytes H' (.slice ⟨false, H.n, 0⟩ 64 (.grow 1)) (A.read d.toNat i.toNat)) := by
  obtain ⟨X, k1, k2, k3⟩ := h.ex
  obtain ⟨D, lv, ds, fl, h1, rfl⟩ := k2.is
  exact refRead_spec h1 d i hn
/-- A copy of both, in new memory. -/
theorem Duo.copies {H1 H2 : AH} {Q' P' : Nat} (h : Duo H0 Y H Q P B A) (c1 : ∀ Z : List Nat, (∀ i ∈ Z, i < H.n) → ArrN H Z H1 Q' B) (g2 : Grew H1 H2) {D : Nat} {lv : AV} {ds : List RD} {fl : List RF} (c2 : IsRef H2 P' D lv ds fl A) (hnew : ∀ i ∈ allR P' D lv ds fl, H1.n ≤ i) (hg : A.good) : Duo H [] H2 Q' P' B A := by
  obtain ⟨⟨D1, fv, dvs, k1, k2⟩, _, k4⟩ := c1 [] (by simp)
  refine ⟨allR P' D lv ds fl, ⟨⟨D1, fv, dvs, k1.grew g2, fun i hi => ⟨(k2 i hi).1, fun hm => ?_⟩⟩, fun i hi => ?_, k4.trans g2⟩, ⟨⟨D, lv, ds, fl, c2, rfl⟩, fun i hi => Nat.le_trans k4.n (hnew i hi), hg⟩, by simp⟩
  · rw [List.append_nil] at hm
    have := k1.lt i hi; have := hnew i hm; omega
  · rw [List.append_nil] at hi
    exact c2.ltA i hi
end
end Go.Proofs.Ytickckpndpeppaa
