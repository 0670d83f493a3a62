/- Plain laws for ArrayKeeps: what lies on the disks behind a crash. -/
import Derived.Test.YtickckpndpeppaaB6z
namespace Go.Proofs.Ytickckpndpeppaa
open Go Go.Abs Go.Abs.GF
set_option linter.unusedVariables false
set_option linter.unusedSimpArgs false
set_option maxHeartbeats 4000000
attribute [local irreducible] ASpec AWp WP AOps DOps

structure Kp (A : Arr) : Prop where
  off : A.off = false
  fuse : A.fuse = 0
  cnt : A.count = 4
  len : A.disks.length = 3
  good : A.good
  on : ∀ d : Nat, d < 3 → A.on d = true
theorem Kp.why {A : Arr} (h : Kp A) {d i : Nat} (hd : d < 3) (hi : i < 4) : A.why d i = 0 := by
  have hin : A.inn d ∧ (0 : Int) ≤ i ∧ (i : Int) < A.count := ⟨⟨by omega, by rw [h.len]; omega⟩, by omega, by rw [h.cnt]; omega⟩
  unfold Arr.why
  rw [if_neg (by simp [h.off]), if_pos hin, if_pos (h.on d hd)]
def Arr.add (A : Arr) (f : Fl) : Arr := { A with fly := A.fly ++ [f] }
theorem Kp.write {A : Arr} (h : Kp A) {d i : Nat} (hd : d < 3) (hi : i < 4) {bs : List UInt8} (hl : bs.length = 64) : A.write d i bs = (0, A.add ⟨d, i, bs⟩) := write_ok h.off h.fuse (h.why hd hi) hl
theorem Kp.add {A : Arr} (h : Kp A) {d i : Nat} (hd : d < 3) (hi : i < 4) {bs : List UInt8} (hl : bs.length = 64) : Kp (A.add ⟨d, i, bs⟩) := by
  have hg := h.good.write d i bs
  rw [h.write hd hi hl] at hg
  exact ⟨h.off, h.fuse, h.cnt, h.len, hg, h.on⟩
theorem read_add (A : Arr) (f : Fl) (d i : Nat) : (A.add f).read d i = if f.disk = d ∧ f.pos = i then f.data else A.read d i := lastOf_append
theorem pick_add (A : Arr) (f : Fl) (p : Nat → Bool) (d i : Nat) : ∀ k, k ≤ A.fly.length → pickSec (A.add f) p d i k = pickSec A p d i k
  | 0, _ => rfl
  | k + 1, hk => by
    have e : (A.add f).fly.getD k default = A.fly.getD k default := by
      show (A.fly ++ [f]).getD k default = _
      simp [List.getD, List.getElem?_append_left (show k < A.fly.length by omega)]
    simp only [pickSec]
    rw [e, pick_add A f p d i k (by omega)]
theorem pick_step (A : Arr) (f : Fl) (p : Nat → Bool) (d i : Nat) : pickSec (A.add f) p d i (A.fly.length + 1) = if p A.fly.length = true ∧ f.disk = d ∧ f.pos = i then f.data else pickSec A p d i A.fly.length := by
  have e : (A.add f).fly.getD A.fly.length default = f := by
    show (A.fly ++ [f]).getD A.fly.length default = _
    simp [List.getD]
  simp only [pickSec]
  rw [e, pick_add A f p d i _ (Nat.le_refl _)]
theorem Kp.landed {A : Arr} (h : Kp A) (p : Nat → Bool) : Kp { landed A p A.fly.length with fly := [], fuse := 0, off := false } := by
  have hg := (h.good.landed p A.fly.length).ds
  have h1 := landed_count A p A.fly.length
  have h2 := landed_len A p A.fly.length
  have h3 := landed_on A p A.fly.length
  exact ⟨rfl, rfl, h1.trans h.cnt, h2.trans h.len, ⟨hg, by simp⟩, fun d hd => (h3 d).trans (h.on d hd)⟩
theorem Kp.crash {A : Arr} (h : Kp A) (picks : List UInt8) : Kp (A.crash picks) := h.landed _
theorem Kp.crash_read {A : Arr} (h : Kp A) (picks : List UInt8) (d i : Nat) : (A.crash picks).read d i = pickSec A (pickOf picks) d i A.fly.length := landed_sec h.good (pickOf picks) d i A.fly.length (Nat.le_refl _)
theorem Kp.barrier {A : Arr} (h : Kp A) : A.barrier.1 = 0 ∧ Kp A.barrier.2 ∧ A.barrier.2.fly = [] ∧ ∀ d i, A.barrier.2.sec d i = A.read d i := by
  have e : A.burn = A := by simp [Arr.burn, h.fuse]
  have e2 : A.barrier = (0, { Go.Proofs.Ytickckpndpeppaa.landed A (fun _ => true) A.fly.length with fly := [] }) := by simp [Arr.barrier, h.off, Arr.burnt, h.fuse, e]
  rw [e2]
  have k := h.landed fun _ => true
  have h5 := landed_fuse A (fun _ => true) A.fly.length
  have h6 := landed_off A (fun _ => true) A.fly.length
  have h7 := fun d i => landed_read h.good d i
  rw [h.fuse] at h5
  rw [h.off] at h6
  generalize Go.Proofs.Ytickckpndpeppaa.landed A (fun _ => true) A.fly.length = B at *
  obtain ⟨c, d, f, fu, o⟩ := B
  simp only at h5 h6 ⊢
  subst h5 h6
  exact ⟨trivial, k, trivial, h7⟩
theorem new_kp : Kp (newArr 3 4) := ⟨rfl, rfl, rfl, rfl, newArr_good 3 4, fun d hd => new_on (disks := 3) (count := 4) (d := d) hd⟩
theorem pick_zero (A : Arr) (p : Nat → Bool) (d i : Nat) (h : A.fly = []) : pickSec A p d i A.fly.length = A.sec d i := by rw [h]; rfl
theorem read_zero (A : Arr) (d i : Nat) (h : A.fly = []) : A.read d i = A.sec d i := by unfold Arr.read; rw [h]; rfl
end Go.Proofs.Ytickckpndpeppaa
