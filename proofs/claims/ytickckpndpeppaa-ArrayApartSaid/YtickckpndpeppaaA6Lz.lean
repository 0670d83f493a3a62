/- Plain laws for ArrayApart: what is done to one disk. -/
import Derived.Test.YtickckpndpeppaaB6z
namespace Go.Proofs.Ytickckpndpeppaa
open Go Go.Abs Go.Abs.GF
set_option linter.unusedVariables false
set_option linter.unusedSimpArgs false
set_option maxHeartbeats 4000000
attribute [local irreducible] ASpec AWp WP AOps DOps

def X0 (i : Nat) : List UInt8 := List.replicate 64 (UInt8.ofNat (i + 1))
def X2 (i : Nat) : List UInt8 := List.replicate 64 (UInt8.ofNat (i + 9))
structure Ap (A : Arr) : Prop where
  off : A.off = false
  fuse : A.fuse = 0
  cnt : A.count = 4
  len : A.disks.length = 3
  good : A.good
  on0 : A.on 0 = true
  on2 : A.on 2 = true
  fly : ∀ f ∈ A.fly, f.disk = 1
  s0 : ∀ i, i < 4 → A.sec 0 i = X0 i
  s2 : ∀ i, i < 4 → A.sec 2 i = X2 i
theorem Ap.of {A B : Arr} (h : Ap A) (h1 : B.off = false) (h2 : B.fuse = 0) (h3 : B.count = A.count) (h4 : B.disks.length = A.disks.length) (hg : B.good) (hf : ∀ f ∈ B.fly, f.disk = 1) (hd : ∀ d, d ≠ 1 → (B.disks.getD d none).isSome = (A.disks.getD d none).isSome) (hs : ∀ d i, d ≠ 1 → B.sec d i = A.sec d i) : Ap B := by
  refine ⟨h1, h2, h3.trans h.cnt, h4.trans h.len, hg, ?_, ?_, hf, fun i hi => by rw [hs 0 i (by omega)]; exact h.s0 i hi, fun i hi => by rw [hs 2 i (by omega)]; exact h.s2 i hi⟩
  · have := Arr.on_nat (A := A) (d := 0) |>.1 h.on0
    exact Arr.on_nat (A := B) (d := 0) |>.2 ⟨by omega, by rw [hd 0 (by omega)]; exact this.2⟩
  · have := Arr.on_nat (A := A) (d := 2) |>.1 h.on2
    exact Arr.on_nat (A := B) (d := 2) |>.2 ⟨by omega, by rw [hd 2 (by omega)]; exact this.2⟩
theorem pickSec_other {A : Arr} {p : Nat → Bool} {d i : Nat} (h : ∀ f ∈ A.fly, f.disk ≠ d) : ∀ k, k ≤ A.fly.length → pickSec A p d i k = A.sec d i
  | 0, _ => rfl
  | k + 1, hk => by
    have hm : A.fly.getD k default ∈ A.fly := by rw [show A.fly.getD k default = A.fly[k] by simp [List.getD, show k < A.fly.length by omega]]; exact List.getElem_mem _
    simp only [pickSec]
    rw [if_neg (fun e => h _ hm e.2.1)]
    exact pickSec_other h k (by omega)
theorem sec_of {A B : Arr} {d i : Nat} (h : B.disks.getD d none = A.disks.getD d none) : B.sec d i = A.sec d i := by unfold Arr.sec; rw [h]
theorem Ap.landed {A : Arr} (h : Ap A) (p : Nat → Bool) : Ap { landed A p A.fly.length with fly := [], fuse := 0, off := false } := by
  have hg := h.good.landed p A.fly.length
  refine h.of rfl rfl (landed_count _ _ _) (landed_len _ _ _) ⟨hg.ds, by simp⟩ (by simp) (fun d _ => landed_some A p d _) fun d i hd => ?_
  have e1 := landed_sec h.good p d i A.fly.length (Nat.le_refl _)
  rw [pickSec_other (fun f hf => by rw [h.fly f hf]; exact fun e => hd e.symm) _ (Nat.le_refl _)] at e1
  exact e1
theorem Ap.write {A : Arr} (h : Ap A) (i : Int) (bs : List UInt8) : Ap (A.write 1 i bs).2 := by
  have hg := h.good.write 1 i bs
  by_cases hw : A.why 1 i = 0
  · by_cases hl : bs.length = 64
    · rw [write_ok h.off h.fuse hw hl] at hg ⊢
      refine h.of h.off h.fuse rfl rfl hg (fun f hf => ?_) (fun _ _ => rfl) fun _ _ _ => rfl
      rcases List.mem_append.1 hf with h1 | h1
      · exact h.fly f h1
      · simp only [List.mem_cons, List.not_mem_nil, or_false] at h1; rw [h1]; rfl
    · rw [show A.write 1 i bs = (1, A) by simp [Arr.write, hw, hl]]; exact h
  · rw [show A.write 1 i bs = (A.why 1 i, A) by simp [Arr.write, hw]]; exact h
theorem Ap.barrier {A : Arr} (h : Ap A) : Ap A.barrier.2 := by
  have e : A.burn = A := by simp [Arr.burn, h.fuse]
  have e2 : A.barrier = (0, { Go.Proofs.Ytickckpndpeppaa.landed A (fun _ => true) A.fly.length with fly := [] }) := by simp [Arr.barrier, h.off, Arr.burnt, h.fuse, e]
  rw [e2]
  have k := h.landed fun _ => true
  have h5 := landed_fuse A (fun _ => true) A.fly.length
  have h6 := landed_off A (fun _ => true) A.fly.length
  rw [h.fuse] at h5
  rw [h.off] at h6
  generalize Go.Proofs.Ytickckpndpeppaa.landed A (fun _ => true) A.fly.length = B at *
  obtain ⟨c, d, f, fu, o⟩ := B
  simp only at h5 h6 ⊢
  subst h5 h6
  exact k
theorem Ap.crash {A : Arr} (h : Ap A) (picks : List UInt8) : Ap (A.crash picks) := h.landed _
theorem Ap.lose {A : Arr} (h : Ap A) : Ap (A.lose 1).2 := by
  have hg := h.good.lose 1
  have hin : A.inn 1 := ⟨by omega, by rw [h.len]; omega⟩
  cases hon : A.on 1 with
  | true =>
    rw [show A.lose 1 = (0, { A with disks := A.disks.set 1 none, fly := A.fly.filter fun f => decide (f.disk ≠ 1) }) by simp [Arr.lose, hin, hon]] at hg ⊢
    refine h.of h.off h.fuse rfl (by simp) hg (fun f hf => h.fly f (List.mem_filter.1 hf).1) (fun d hd => ?_) fun d i hd => sec_of ?_
    · simp only [getD_set']; rw [if_neg (fun e => hd e.1)]
    · simp only [getD_set']; rw [if_neg (fun e => hd e.1)]
  | false => rw [show A.lose 1 = (9, A) by simp [Arr.lose, hin, hon]]; exact h
theorem Ap.replace {A : Arr} (h : Ap A) : Ap (A.replace 1).2 := by
  have hg := h.good.replace 1
  have hin : A.inn 1 := ⟨by omega, by rw [h.len]; omega⟩
  cases hon : A.on 1 with
  | false =>
    rw [show A.replace 1 = (0, { A with disks := A.disks.set 1 (some (blankS A.count)) }) by simp [Arr.replace, hin, hon]] at hg ⊢
    refine h.of h.off h.fuse rfl (by simp) hg h.fly (fun d hd => ?_) fun d i hd => sec_of ?_
    · simp only [getD_set']; rw [if_neg (fun e => hd e.1)]
    · simp only [getD_set']; rw [if_neg (fun e => hd e.1)]
  | true => rw [show A.replace 1 = (1, A) by simp [Arr.replace, hin, hon]]; exact h
theorem Ap.why {A : Arr} (h : Ap A) {d i : Nat} (hd : d = 0 ∨ d = 2) (hi : i < 4) : A.why d i = 0 := by
  have hon : A.on d = true := by rcases hd with rfl | rfl; exact h.on0; exact h.on2
  have hin : A.inn d ∧ (0 : Int) ≤ i ∧ (i : Int) < A.count := ⟨⟨by omega, by rw [h.len]; omega⟩, by omega, by rw [h.cnt]; omega⟩
  unfold Arr.why
  rw [if_neg (by simp [h.off]), if_pos hin, if_pos hon]
theorem lastOf_other {l : List Fl} {d i : Nat} {s : List UInt8} (h : ∀ f ∈ l, f.disk ≠ d) : lastOf d i s l = s := by
  induction l generalizing s with
  | nil => rfl
  | cons f l ih =>
    simp only [lastOf, List.foldl_cons]
    rw [if_neg (fun e => h f (by simp) e.1)]
    exact ih fun g hg => h g (by simp [hg])
theorem Ap.read0 {A : Arr} (h : Ap A) {i : Nat} (hi : i < 4) : A.read 0 i = X0 i := by
  unfold Arr.read; rw [lastOf_other fun f hf => by rw [h.fly f hf]; omega]; exact h.s0 i hi
theorem Ap.read2 {A : Arr} (h : Ap A) {i : Nat} (hi : i < 4) : A.read 2 i = X2 i := by
  unfold Arr.read; rw [lastOf_other fun f hf => by rw [h.fly f hf]; omega]; exact h.s2 i hi
theorem Ap.ons {A : Arr} (h : Ap A) : 2 ≤ A.ons := by
  have h0 := (Arr.on_nat (A := A) (d := 0) |>.1 h.on0).2
  have h2 := (Arr.on_nat (A := A) (d := 2) |>.1 h.on2).2
  have hl := h.len
  unfold Arr.ons
  match hd : A.disks, hl with
  | [a, b, c], _ =>
    rw [hd] at h0 h2
    simp only [List.getD, List.getElem?_cons_zero, List.getElem?_cons_succ, Option.getD_some] at h0 h2
    simp only [List.filter_cons, h0, h2, if_true, List.filter_nil]
    split <;> simp
def initL : Nat → List Fl
  | 0 => []
  | j + 1 => initL j ++ [⟨0, j, X0 j⟩, ⟨2, j, X2 j⟩]
def wr3 (l : List Fl) : Arr := { newArr 3 4 with fly := l }
theorem initL_len : ∀ j, (initL j).length = 2 * j
  | 0 => rfl
  | j + 1 => by simp [initL, initL_len j]; omega
theorem initL_mem : ∀ {j : Nat} {f : Fl}, f ∈ initL j → (f.disk = 0 ∨ f.disk = 2) ∧ f.pos < j ∧ f.data.length = 64
  | 0, f, h => by simp [initL] at h
  | j + 1, f, h => by
    simp only [initL, List.mem_append, List.mem_cons, List.not_mem_nil, or_false] at h
    rcases h with h | rfl | rfl
    · obtain ⟨h1, h2, h3⟩ := initL_mem h; exact ⟨h1, by omega, h3⟩
    · exact ⟨.inl rfl, by simp, by simp [X0]⟩
    · exact ⟨.inr rfl, by simp, by simp [X2]⟩
theorem initL_last0 : ∀ {j i : Nat} {s : List UInt8}, lastOf 0 i s (initL j) = if i < j then X0 i else s
  | 0, i, s => by simp [initL, lastOf]
  | j + 1, i, s => by
    rw [initL, show initL j ++ [⟨0, j, X0 j⟩, ⟨2, j, X2 j⟩] = (initL j ++ [⟨0, j, X0 j⟩]) ++ [⟨2, j, X2 j⟩] by simp, lastOf_append, if_neg (by simp), lastOf_append, initL_last0]
    by_cases h : j = i
    · subst h; simp
    · rw [if_neg (by simp [h])]
      by_cases h2 : i < j
      · rw [if_pos h2, if_pos (by omega)]
      · rw [if_neg h2, if_neg (by omega)]
theorem initL_last2 : ∀ {j i : Nat} {s : List UInt8}, lastOf 2 i s (initL j) = if i < j then X2 i else s
  | 0, i, s => by simp [initL, lastOf]
  | j + 1, i, s => by
    rw [initL, show initL j ++ [⟨0, j, X0 j⟩, ⟨2, j, X2 j⟩] = (initL j ++ [⟨0, j, X0 j⟩]) ++ [⟨2, j, X2 j⟩] by simp, lastOf_append]
    by_cases h : j = i
    · subst h; simp
    · rw [if_neg (by simp [h]), lastOf_append, if_neg (by simp), initL_last2]
      by_cases h2 : i < j
      · rw [if_pos h2, if_pos (by omega)]
      · rw [if_neg h2, if_neg (by omega)]
theorem wr3_why {l : List Fl} {d i : Nat} (hd : d < 3) (hi : i < 4) : (wr3 l).why d i = 0 := new_why (disks := 3) (count := 4) (d := d) (i := i) (by omega) (by omega)
theorem wr3_ap {l : List Fl} (hm : ∀ f ∈ l, (f.disk = 0 ∨ f.disk = 2) ∧ f.pos < 4 ∧ f.data.length = 64) (h0 : ∀ i s, i < 4 → lastOf 0 i s l = X0 i) (h2 : ∀ i s, i < 4 → lastOf 2 i s l = X2 i) : Ap (wr3 l).barrier.2 := by
  have hg : (wr3 l).good := ⟨(newArr_good 3 4).ds, fun f hf => by
    obtain ⟨h1, h2, h3⟩ := hm f hf
    exact ⟨new_on (disks := 3) (count := 4) (d := f.disk) (by omega), h2, h3⟩⟩
  have e : (wr3 l).burn = wr3 l := by simp [Arr.burn, wr3, newArr]
  have e2 : (wr3 l).barrier = (0, { landed (wr3 l) (fun _ => true) (wr3 l).fly.length with fly := [] }) := by
    unfold Arr.barrier
    rw [if_neg (by simp [wr3, newArr]), if_neg (by simp [Arr.burnt, wr3, newArr]), e]
  rw [e2]
  have hon := landed_on (wr3 l) (fun _ => true) (wr3 l).fly.length
  have q1 := landed_off (wr3 l) (fun _ => true) (wr3 l).fly.length
  have q2 := landed_fuse (wr3 l) (fun _ => true) (wr3 l).fly.length
  have q3 := landed_count (wr3 l) (fun _ => true) (wr3 l).fly.length
  have q4 := landed_len (wr3 l) (fun _ => true) (wr3 l).fly.length
  have q5 := (hg.landed (fun _ => true) (wr3 l).fly.length).ds
  have q6 := fun i => landed_read hg 0 i
  have q7 := fun i => landed_read hg 2 i
  have q8 : ∀ d i, (wr3 l).read d i = lastOf d i ((wr3 l).sec d i) l := fun d i => rfl
  have q9 : (wr3 l).off = false ∧ (wr3 l).fuse = 0 ∧ (wr3 l).count = 4 ∧ (wr3 l).disks.length = 3 := ⟨rfl, rfl, rfl, rfl⟩
  have q10 : (wr3 l).on 0 = true := new_on (disks := 3) (count := 4) (d := 0) (by omega)
  have q11 : (wr3 l).on 2 = true := new_on (disks := 3) (count := 4) (d := 2) (by omega)
  generalize landed (wr3 l) (fun _ => true) (wr3 l).fly.length = B at *
  refine ⟨q1.trans q9.1, q2.trans q9.2.1, q3.trans q9.2.2.1, q4.trans q9.2.2.2, ⟨q5, by simp⟩, (hon 0).trans q10, (hon 2).trans q11, by simp, fun i hi => ?_, fun i hi => ?_⟩
  · exact (q6 i).trans ((q8 0 i).trans (h0 i _ hi))
  · exact (q7 i).trans ((q8 2 i).trans (h2 i _ hi))
theorem init_ap {l : List Fl} (hl : l = initL 4) : Ap (wr3 l).barrier.2 := by
  refine wr3_ap (fun f hf => ?_) (fun i s hi => ?_) fun i s hi => ?_
  · rw [hl] at hf; exact initL_mem hf
  · rw [hl, initL_last0, if_pos hi]
  · rw [hl, initL_last2, if_pos hi]
end Go.Proofs.Ytickckpndpeppaa
