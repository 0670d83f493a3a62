/- Arrays of disks: plain laws of what is done to them. -/
import Derived.Test.YtickckpndpeppaaARz
namespace Go.Proofs.Ytickckpndpeppaa
open Go Go.Abs Go.Abs.GF
set_option linter.unusedVariables false
set_option linter.unusedSimpArgs false
set_option maxHeartbeats 4000000
attribute [local irreducible] ASpec AWp WP AOps DOps

/-- What lies where, and what is in flight, fits. -/
structure Arr.good (A : Arr) : Prop where
  ds : ∀ d ss, A.disks.getD d none = some ss → ss.length = A.count
  fl : ∀ f ∈ A.fly, A.on f.disk = true ∧ f.pos < A.count ∧ f.data.length = 64
theorem Arr.on_nat {A : Arr} {d : Nat} : A.on d = true ↔ d < A.disks.length ∧ (A.disks.getD d none).isSome = true := by
  simp only [Arr.on, Bool.and_eq_true, decide_eq_true_eq, Int.toNat_natCast]
  unfold Arr.inn
  constructor
  · rintro ⟨⟨h1, h2⟩, h3⟩; exact ⟨by omega, h3⟩
  · rintro ⟨h1, h2⟩; exact ⟨⟨by omega, by omega⟩, h2⟩
theorem Arr.on_cast {A : Arr} {d : Int} (h : A.on d = true) : A.on d.toNat = true ∧ 0 ≤ d := by
  simp only [Arr.on, Bool.and_eq_true, decide_eq_true_eq] at h
  obtain ⟨h1, h2⟩ := h
  exact ⟨Arr.on_nat.2 ⟨by have := h1.2; have := h1.1; omega, h2⟩, h1.1⟩
theorem getD_set' {α : Type} {l : List α} {i j : Nat} {x y : α} : (l.set i x).getD j y = if j = i ∧ i < l.length then x else l.getD j y := by
  by_cases hi : i < l.length
  · rw [getD_set hi]; simp [hi]
  · rw [List.set_eq_of_length_le (by omega), if_neg (by simp [hi])]
/-- Which disks are on hangs on which there are. -/
theorem Arr.on_congr {A B : Arr} (h1 : A.disks.length = B.disks.length) (h2 : ∀ d, (A.disks.getD d none).isSome = (B.disks.getD d none).isSome) (d : Int) : A.on d = B.on d := by
  simp only [Arr.on, Arr.inn, h2]
  congr 1
  simp only [h1]
theorem Arr.land_some (A : Arr) (f : Fl) (d : Nat) : ((A.land f).disks.getD d none).isSome = (A.disks.getD d none).isSome := by
  unfold Arr.land
  split
  · simp only [getD_set']
    split
    · rename_i h; rw [h.1]; simp
    · rfl
  · rfl
theorem Arr.land_on (A : Arr) (f : Fl) (d : Int) : (A.land f).on d = A.on d := Arr.on_congr (A.land_len f) (A.land_some f) d
theorem landed_some (A : Arr) (p : Nat → Bool) (d : Nat) : ∀ k, ((landed A p k).disks.getD d none).isSome = (A.disks.getD d none).isSome
  | 0 => rfl
  | k + 1 => by simp only [landed]; split; rw [Arr.land_some]; exact landed_some A p d k; exact landed_some A p d k
theorem landed_on (A : Arr) (p : Nat → Bool) (k : Nat) (d : Int) : (landed A p k).on d = A.on d := Arr.on_congr (landed_len A p k) (fun d => landed_some A p d k) d
theorem Arr.good.land {A : Arr} (h : A.good) (f : Fl) : (A.land f).good := by
  refine ⟨fun d ss hd => ?_, fun g hg => ?_⟩
  · rw [Arr.land_count]
    unfold Arr.land at hd
    split at hd
    · simp only [getD_set'] at hd
      split at hd
      · rename_i hh
        obtain ⟨s0, h0, rfl⟩ := Option.map_eq_some_iff.1 hd
        rw [List.length_set]; exact h.ds _ _ h0
      · exact h.ds _ _ hd
    · exact h.ds _ _ hd
  · rw [Arr.land_fly] at hg
    rw [Arr.land_on, Arr.land_count]
    exact h.fl g hg
theorem Arr.good.landed {A : Arr} (h : A.good) (p : Nat → Bool) : ∀ k, (landed A p k).good
  | 0 => h
  | k + 1 => by simp only [Go.Proofs.Ytickckpndpeppaa.landed]; split; exact (h.landed p k).land _; exact h.landed p k
theorem Arr.land_sec {A : Arr} (h : A.good) {f : Fl} (ho : A.on f.disk = true) (hp : f.pos < A.count) (d i : Nat) : (A.land f).sec d i = if f.disk = d ∧ f.pos = i then f.data else A.sec d i := by
  obtain ⟨h1, h2⟩ := Arr.on_nat.1 ho
  obtain ⟨ss, hs⟩ := Option.isSome_iff_exists.1 h2
  have hl := h.ds _ _ hs
  unfold Arr.land Arr.sec
  rw [if_pos ho]
  simp only [getD_set']
  by_cases hd : d = f.disk
  · subst hd
    rw [if_pos ⟨rfl, h1⟩, hs]
    simp only [Option.map_some, Option.getD_some, getD_set']
    by_cases hi : i = f.pos
    · subst hi; rw [if_pos ⟨rfl, by omega⟩]; simp
    · rw [if_neg (fun e => hi e.1), if_neg (fun e => hi e.2.symm)]
  · rw [if_neg (fun e => hd e.1), if_neg (fun e => hd e.1.symm)]
/-- What lies in a sector when the first so many have landed that are picked. -/
def pickSec (A : Arr) (p : Nat → Bool) (d i : Nat) : Nat → List UInt8
  | 0 => A.sec d i
  | k + 1 => if p k = true ∧ (A.fly.getD k default).disk = d ∧ (A.fly.getD k default).pos = i then (A.fly.getD k default).data else pickSec A p d i k
theorem good_get {A : Arr} (h : A.good) {k : Nat} (hk : k < A.fly.length) : A.on (A.fly.getD k default).disk = true ∧ (A.fly.getD k default).pos < A.count ∧ (A.fly.getD k default).data.length = 64 := by
  rw [show A.fly.getD k default = A.fly[k] by simp [List.getD, hk]]
  exact h.fl _ (List.getElem_mem hk)
theorem landed_sec {A : Arr} (h : A.good) (p : Nat → Bool) (d i : Nat) : ∀ k, k ≤ A.fly.length → (landed A p k).sec d i = pickSec A p d i k
  | 0, _ => rfl
  | k + 1, hk => by
    have ih := landed_sec h p d i k (by omega)
    obtain ⟨g1, g2, g3⟩ := good_get h (k := k) (by omega)
    simp only [landed, pickSec]
    cases hp : p k with
    | false => simp only [Bool.false_eq_true, if_false, false_and]; exact ih
    | true =>
      simp only [if_true, true_and]
      rw [Arr.land_sec (h.landed p k) (by rw [landed_on]; exact g1) (by rw [landed_count]; exact g2), ih]
theorem lastOf_append {d i : Nat} {s : List UInt8} {l : List Fl} {f : Fl} : lastOf d i s (l ++ [f]) = if f.disk = d ∧ f.pos = i then f.data else lastOf d i s l := by
  simp only [lastOf, List.foldl_append, List.foldl_cons, List.foldl_nil]
theorem pickSec_all (A : Arr) (d i : Nat) : ∀ k, k ≤ A.fly.length → pickSec A (fun _ => true) d i k = lastOf d i (A.sec d i) (A.fly.take k)
  | 0, _ => rfl
  | k + 1, hk => by
    simp only [pickSec, true_and]
    rw [List.take_add_one, List.getElem?_eq_getElem (by omega), Option.toList, lastOf_append, pickSec_all A d i k (by omega), show A.fly.getD k default = A.fly[k] by simp [List.getD, show k < A.fly.length by omega]]
/-- What lasts of all is what was read. -/
theorem landed_read {A : Arr} (h : A.good) (d i : Nat) : (landed A (fun _ => true) A.fly.length).sec d i = A.read d i := by
  rw [landed_sec h _ d i _ (Nat.le_refl _), pickSec_all A d i _ (Nat.le_refl _), List.take_length]; rfl
theorem good_fly {A : Arr} (h : A.good) {l : List Fl} (hl : ∀ f ∈ l, A.on f.disk = true ∧ f.pos < A.count ∧ f.data.length = 64) {fu : Nat} {off : Bool} : ({ A with fly := l, fuse := fu, off := off } : Arr).good := ⟨h.ds, hl⟩
theorem Arr.good.fuse {A : Arr} (h : A.good) (n : Nat) : ({ A with fuse := n } : Arr).good := ⟨h.ds, h.fl⟩
theorem Arr.good.burn {A : Arr} (h : A.good) : A.burn.good := by unfold Arr.burn; split; exact h; exact ⟨h.ds, h.fl⟩
theorem why_zero {A : Arr} {d i : Int} (hw : A.why d i = 0) : A.off = false ∧ A.inn d ∧ 0 ≤ i ∧ i < A.count ∧ A.on d = true := by
  unfold Arr.why at hw
  split at hw
  · cases hw
  · rename_i ho
    split at hw
    · rename_i hh
      split at hw
      · rename_i hon; exact ⟨by simpa using ho, hh.1, hh.2.1, hh.2.2, hon⟩
      · cases hw
    · cases hw
theorem Arr.on_burn {A : Arr} (d : Int) : A.burn.on d = A.on d := by unfold Arr.burn; split <;> rfl
theorem Arr.good.write {A : Arr} (h : A.good) (d i : Int) (bs : List UInt8) : (A.write d i bs).2.good := by
  unfold Arr.write
  split
  · exact h
  · rename_i hw
    have hw := Classical.not_not.1 hw
    obtain ⟨w1, w2, w3, w4, w5⟩ := why_zero hw
    split
    · exact h
    · rename_i hl
      split
      · exact h.burn
      · refine ⟨h.burn.ds, fun f hf => ?_⟩
        rw [Arr.burn_fly] at hf
        rcases List.mem_append.1 hf with h1 | h1
        · exact h.burn.fl f (by rw [Arr.burn_fly]; exact h1)
        · simp only [List.mem_cons, List.not_mem_nil, or_false] at h1
          subst h1
          refine ⟨?_, by simp only [Arr.burn_count]; omega, Classical.not_not.1 hl⟩
          show A.burn.on _ = true
          rw [Arr.on_burn]
          exact (Arr.on_cast w5).1
theorem Arr.good.barrier {A : Arr} (h : A.good) : A.barrier.2.good := by
  unfold Arr.barrier
  split
  · exact h
  · split
    · exact h.burn
    · exact ⟨(h.burn.landed _ _).ds, fun f hf => by simp at hf⟩
theorem Arr.good.crash {A : Arr} (h : A.good) (picks : List UInt8) : (A.crash picks).good := ⟨(h.landed _ _).ds, fun f hf => by simp [Arr.crash] at hf⟩
theorem Arr.good.lose {A : Arr} (h : A.good) (d : Int) : (A.lose d).2.good := by
  unfold Arr.lose
  split
  · exact h
  · rename_i hin
    have hin := Classical.not_not.1 hin
    split
    · refine ⟨fun d' ss hd => ?_, fun f hf => ?_⟩
      · simp only [getD_set'] at hd
        split at hd
        · cases hd
        · exact h.ds _ _ hd
      · simp only [List.mem_filter, decide_eq_true_eq] at hf
        obtain ⟨g1, g2, g3⟩ := h.fl f hf.1
        obtain ⟨k1, k2⟩ := Arr.on_nat.1 g1
        refine ⟨Arr.on_nat.2 ⟨by simpa using k1, ?_⟩, g2, g3⟩
        simp only [getD_set']
        rw [if_neg (fun e => hf.2 e.1)]
        exact k2
    · exact h
theorem Arr.good.replace {A : Arr} (h : A.good) (d : Int) : (A.replace d).2.good := by
  unfold Arr.replace
  split
  · exact h
  · rename_i hin
    have hin := Classical.not_not.1 hin
    split
    · exact h
    · refine ⟨fun d' ss hd => ?_, fun f hf => ?_⟩
      · simp only [getD_set'] at hd
        split at hd
        · injection hd with hd; subst hd; simp [blankS]
        · exact h.ds _ _ hd
      · obtain ⟨g1, g2, g3⟩ := h.fl f hf
        obtain ⟨k1, k2⟩ := Arr.on_nat.1 g1
        refine ⟨Arr.on_nat.2 ⟨by simpa using k1, ?_⟩, g2, g3⟩
        simp only [getD_set']
        split
        · rfl
        · exact k2
theorem newArr_good (disks count : Nat) : (newArr disks count).good := by
  refine ⟨fun d ss hd => ?_, fun f hf => by simp [newArr] at hf⟩
  simp only [newArr, List.getD, List.getElem?_replicate] at hd
  split at hd
  · simp only [Option.getD_some] at hd
    injection hd with hd; subst hd; simp [blankS, newArr]
  · simp at hd
end Go.Proofs.Ytickckpndpeppaa
