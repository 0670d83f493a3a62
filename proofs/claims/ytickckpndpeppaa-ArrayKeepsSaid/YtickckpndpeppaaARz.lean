/- Arrays of disks: what they are, and how they lie in memory. -/
import Derived.Test.YtickckpndpeppaaTz
import Derived.Test.YtickckpndpeppaaZ3
namespace Go.Proofs.Ytickckpndpeppaa
open Go Go.Abs Go.Abs.GF
set_option linter.unusedVariables false
set_option linter.unusedSimpArgs false
set_option maxHeartbeats 4000000
attribute [local irreducible] ASpec AWp WP AOps DOps

/-! lists of things that are all as wide -/
section
variable {α : Type} {f : α → List AV} {w : Nat}
theorem flat_len : ∀ {l : List α}, (∀ x ∈ l, (f x).length = w) → (l.flatMap f).length = l.length * w
  | [], _ => by simp
  | x :: l, h => by
    have := flat_len (l := l) fun y hy => h y (by simp [hy])
    simp only [List.flatMap_cons, List.length_append, List.length_cons, h x (by simp), this, Nat.add_mul]; omega
theorem flat_drop : ∀ {l : List α} {i : Nat}, (∀ x ∈ l, (f x).length = w) → i ≤ l.length → (l.flatMap f).drop (i * w) = (l.drop i).flatMap f
  | l, 0, _, _ => by simp
  | [], i + 1, _, h => by simp at h
  | x :: l, i + 1, h, hi => by
    rw [List.flatMap_cons, List.drop_succ_cons, show (i + 1) * w = w + i * w by rw [Nat.add_mul]; omega, ← List.drop_drop, List.drop_left' (h x (by simp))]
    exact flat_drop (fun y hy => h y (by simp [hy])) (by simpa using hi)
theorem flat_take : ∀ {l : List α} {i : Nat}, (∀ x ∈ l, (f x).length = w) → i ≤ l.length → (l.flatMap f).take (i * w) = (l.take i).flatMap f
  | l, 0, _, _ => by simp
  | [], i + 1, _, h => by simp at h
  | x :: l, i + 1, h, hi => by
    rw [List.flatMap_cons, List.take_succ_cons, List.flatMap_cons, show (i + 1) * w = w + i * w by rw [Nat.add_mul]; omega, List.take_add, List.take_left' (h x (by simp)), List.drop_left' (h x (by simp))]
    rw [flat_take (fun y hy => h y (by simp [hy])) (by simpa using hi)]
theorem flat_get {l : List α} {i : Nat} (h : ∀ x ∈ l, (f x).length = w) (hi : i < l.length) : ((l.flatMap f).drop (i * w)).take w = f l[i] := by
  rw [flat_drop h (Nat.le_of_lt hi), List.drop_eq_getElem_cons hi, List.flatMap_cons, List.take_left' (h _ (List.getElem_mem hi))]
theorem flat_set {l : List α} {i : Nat} {x : α} (h : ∀ x ∈ l, (f x).length = w) (hi : i < l.length) (hx : (f x).length = w) : putL (l.flatMap f) (i * w) (f x) = (l.set i x).flatMap f := by
  rw [putL, hx, set_take_drop hi, List.flatMap_append, List.flatMap_cons, flat_take h (Nat.le_of_lt hi), show i * w + w = (i + 1) * w by rw [Nat.add_mul]; omega, flat_drop h hi]
theorem flat_one {l : List α} (h : ∀ x ∈ l, (f x).all oneA = true) : (l.flatMap f).all oneA = true := by
  rw [List.all_eq_true]
  intro v hv
  obtain ⟨x, hx, hv⟩ := List.mem_flatMap.1 hv
  exact List.all_eq_true.1 (h x hx) v hv
end

theorem putAt_all {cs vs : List AV} (h : cs.length = vs.length) : putAt cs 0 vs = vs := by
  apply List.ext_getElem?
  intro k
  rw [putAt_get]
  split
  · simp
  · rename_i hk
    rw [List.getElem?_eq_none (by omega), List.getElem?_eq_none (by omega)]
/-- A write in flight. -/
structure Fl where
  disk : Nat
  pos : Nat
  data : List UInt8
instance : Inhabited Fl := ⟨⟨0, 0, []⟩⟩
structure Arr where
  count : Nat
  disks : List (Option (List (List UInt8)))
  fly : List Fl
  fuse : Nat
  off : Bool

def secC (ss : List (List UInt8)) : List AV := ss.flatMap fun s => s.map bv
def fl1 (f : Fl) : List AV := .int .i64 f.disk :: .int .i64 f.pos :: f.data.map bv
def flC (l : List Fl) : List AV := l.flatMap fl1

theorem fl1_len {f : Fl} (h : f.data.length = 64) : (fl1 f).length = 66 := by simp [fl1, h]
theorem fl1_one (f : Fl) : (fl1 f).all oneA = true := by simp only [fl1, List.all_cons, all_one_bv]; rfl
def sized (ss : List (List UInt8)) : Prop := ∀ s ∈ ss, s.length = 64
theorem sized.w {ss : List (List UInt8)} (h : sized ss) : ∀ s ∈ ss, (s.map bv).length = 64 := fun s hs => by rw [List.length_map]; exact h s hs
theorem secC_len {ss : List (List UInt8)} (h : sized ss) : (secC ss).length = ss.length * 64 := flat_len h.w
theorem secC_get {ss : List (List UInt8)} (h : sized ss) {i : Nat} (hi : i < ss.length) : ((secC ss).drop (i * 64)).take 64 = (ss.getD i []).map bv := by
  rw [show ss.getD i [] = ss[i] by simp [List.getD, hi]]; exact flat_get h.w hi
theorem secC_set {ss : List (List UInt8)} (h : sized ss) {i : Nat} (hi : i < ss.length) {s : List UInt8} (hs : s.length = 64) : putL (secC ss) (i * 64) (s.map bv) = secC (ss.set i s) :=
  flat_set (f := fun s : List UInt8 => s.map bv) (w := 64) (x := s) h.w hi (by simpa using hs)
theorem sized.set {ss : List (List UInt8)} (h : sized ss) (i : Nat) {s : List UInt8} (hs : s.length = 64) : sized (ss.set i s) := fun x hx => by
  rcases List.mem_or_eq_of_mem_set hx with h1 | rfl
  · exact h x h1
  · exact hs
theorem sized.at {ss : List (List UInt8)} (h : sized ss) {i : Nat} (hi : i < ss.length) : (ss.getD i []).length = 64 := by
  rw [show ss.getD i [] = ss[i] by simp [List.getD, hi]]; exact h _ (List.getElem_mem hi)

def capOk (n : Nat) : Cap → Prop
  | .known k => n ≤ k
  | .grow s => s = 64
/-- A disk: nil where it is lost. -/
def IsDisk (H : AH) (n : Nat) (v : AV) : Option (List (List UInt8)) → Prop
  | none => v = .nilslice
  | some ss => ss.length = n ∧ sized ss ∧ ∃ B c, v = .slice ⟨false, B, 0⟩ n c ∧ capOk n c ∧ H.cells? B = some (secC ss)
def IsFly (H : AH) (fv : AV) (l : List Fl) : Prop :=
  (fv = .nilslice ∧ l = []) ∨ ∃ B cs, fv = .slice ⟨false, B, 0⟩ l.length (.grow 66) ∧ H.cells? B = some cs ∧ l.length * 66 ≤ cs.length ∧ cs.take (l.length * 66) = flC l
structure IsArr (H : AH) (P D : Nat) (fv : AV) (dvs : List AV) (A : Arr) : Prop where
  hd : H.cells? P = some [.int .i64 A.count, .slice ⟨false, D, 0⟩ A.disks.length (.grow 1), fv, .int .i64 A.fuse, .bool A.off]
  ds : H.cells? D = some dvs
  len : dvs.length = A.disks.length
  each : ∀ d, d < A.disks.length → IsDisk H A.count (dvs.getD d .unk) (A.disks.getD d none)
  fl : IsFly H fv A.fly
  wf : ∀ f ∈ A.fly, f.disk < A.disks.length ∧ f.pos < A.count ∧ f.data.length = 64
  cnt : 0 < A.count ∧ A.count ≤ 4096
  dn : 0 < A.disks.length ∧ A.disks.length ≤ 255
  fuse : A.fuse < 9223372036854775808
  pD : P ≠ D
  pF : P ∉ blkOf fv
  dF : D ∉ blkOf fv
  pE : ∀ d, d < A.disks.length → P ∉ blkOf (dvs.getD d .unk)
  dE : ∀ d, d < A.disks.length → D ∉ blkOf (dvs.getD d .unk)
  fE : ∀ d, d < A.disks.length → ∀ i ∈ blkOf fv, i ∉ blkOf (dvs.getD d .unk)
  ee : ∀ d e, d < A.disks.length → e < A.disks.length → d ≠ e → ∀ i ∈ blkOf (dvs.getD d .unk), i ∉ blkOf (dvs.getD e .unk)

def ownB (P D : Nat) (fv : AV) (dvs : List AV) : List Nat := P :: D :: (blkOf fv ++ dvs.flatMap blkOf)
theorem own_P {P D : Nat} {fv : AV} {dvs : List AV} : P ∈ ownB P D fv dvs := by simp [ownB]
theorem own_D {P D : Nat} {fv : AV} {dvs : List AV} : D ∈ ownB P D fv dvs := by simp [ownB]
theorem own_F {P D : Nat} {fv : AV} {dvs : List AV} {i : Nat} (h : i ∈ blkOf fv) : i ∈ ownB P D fv dvs := by simp [ownB, h]
theorem own_E {P D : Nat} {fv : AV} {dvs : List AV} {i d : Nat} (hd : d < dvs.length) (h : i ∈ blkOf (dvs.getD d .unk)) : i ∈ ownB P D fv dvs := by
  have : dvs.getD d .unk ∈ dvs := by simp [List.getD, hd]
  simp only [ownB, List.mem_cons, List.mem_append, List.mem_flatMap]
  exact .inr (.inr (.inr ⟨_, this, h⟩))
theorem own_of {P D : Nat} {fv : AV} {dvs : List AV} {i : Nat} (h : i ∈ ownB P D fv dvs) : i = P ∨ i = D ∨ i ∈ blkOf fv ∨ ∃ d, d < dvs.length ∧ i ∈ blkOf (dvs.getD d .unk) := by
  simp only [ownB, List.mem_cons, List.mem_append, List.mem_flatMap] at h
  rcases h with h | h | h | ⟨v, hv, h⟩
  · exact .inl h
  · exact .inr (.inl h)
  · exact .inr (.inr (.inl h))
  · obtain ⟨d, hd, rfl⟩ := List.mem_iff_getElem.1 hv
    exact .inr (.inr (.inr ⟨d, hd, by simpa [List.getD, hd] using h⟩))
/-- An array, and the blocks that are its own. -/
def ArrS (H : AH) (P : Nat) (A : Arr) (S : List Nat) : Prop := ∃ D fv dvs, IsArr H P D fv dvs A ∧ S = ownB P D fv dvs
structure Went (H : AH) (S : List Nat) (H' : AH) (S' : List Nat) : Prop where
  chg : Chg S H H'
  sub : ∀ i ∈ S', i ∈ S ∨ H.n ≤ i
theorem Went.refl (H : AH) (S : List Nat) : Went H S H S := ⟨Chg.refl _ _, fun i h => .inl h⟩
theorem Went.trans {H H' H'' : AH} {S S' S'' : List Nat} (h : Went H S H' S') (k : Went H' S' H'' S'') : Went H S H'' S'' :=
  ⟨h.chg.trans' k.chg h.sub, fun i hi => by
    rcases k.sub i hi with h1 | h1
    · exact h.sub i h1
    · exact .inr (Nat.le_trans h.chg.n h1)⟩

section
variable {H H' : AH} {P D : Nat} {fv : AV} {dvs : List AV} {A : Arr}
theorem IsDisk.chg {T : List Nat} {n : Nat} {v : AV} {o : Option (List (List UInt8))} (h : IsDisk H n v o) (k : Chg T H H') (ho : ∀ i ∈ blkOf v, i ∉ T) : IsDisk H' n v o := by
  cases o with
  | none => exact h
  | some ss =>
    obtain ⟨h1, h2, B, c, rfl, h3, h4⟩ := h
    exact ⟨h1, h2, B, c, rfl, h3, k.cells (ho B (by simp [blkOf])) h4⟩
theorem IsFly.chg {T : List Nat} {v : AV} {l : List Fl} (h : IsFly H v l) (k : Chg T H H') (ho : ∀ i ∈ blkOf v, i ∉ T) : IsFly H' v l := by
  rcases h with h | ⟨B, cs, rfl, h1, h2⟩
  · exact .inl h
  · exact .inr ⟨B, cs, rfl, k.cells (ho B (by simp [blkOf])) h1, h2⟩
theorem IsArr.chg {T : List Nat} (h : IsArr H P D fv dvs A) (k : Chg T H H') (ho : ∀ i ∈ ownB P D fv dvs, i ∉ T) : IsArr H' P D fv dvs A :=
  { h with
    hd := k.cells (ho P own_P) h.hd
    ds := k.cells (ho D own_D) h.ds
    each := fun d hd => (h.each d hd).chg k fun i hi => ho i (own_E (by rw [h.len]; exact hd) hi)
    fl := h.fl.chg k fun i hi => ho i (own_F hi) }
theorem IsDisk.clr {n : Nat} {v : AV} {o : Option (List (List UInt8))} (h : IsDisk H n v o) : IsDisk H.clr n v o := by cases o <;> exact h
theorem IsDisk.also {X : Nat → Prop} {n : Nat} {v : AV} {o : Option (List (List UInt8))} (h : IsDisk H n v o) : IsDisk (H.also X) n v o := by cases o <;> exact h
theorem IsArr.lt (h : IsArr H P D fv dvs A) : ∀ i ∈ ownB P D fv dvs, i < H.n := by
  intro i hi
  rcases own_of hi with rfl | rfl | hi | ⟨d, hd, hi⟩
  · exact cells_lt h.hd
  · exact cells_lt h.ds
  · rcases h.fl with ⟨rfl, _⟩ | ⟨B, cs, rfl, h1, _⟩
    · simp [blkOf] at hi
    · simp only [blkOf, List.mem_cons, List.not_mem_nil, or_false] at hi
      subst hi; exact cells_lt h1
  · have := h.each d (by rw [← h.len]; exact hd)
    cases ho : A.disks.getD d none with
    | none => rw [ho] at this; simp only [IsDisk] at this; rw [this] at hi; simp [blkOf] at hi
    | some ss =>
      rw [ho] at this
      obtain ⟨_, _, B, c, e, _, hc⟩ := this
      rw [e] at hi
      simp only [blkOf, List.mem_cons, List.not_mem_nil, or_false] at hi
      subst hi; exact cells_lt hc
theorem ArrS.lt {S : List Nat} (h : ArrS H P A S) : ∀ i ∈ S, i < H.n := by
  obtain ⟨D, fv, dvs, h, rfl⟩ := h
  exact h.lt
theorem ArrS.chg {S T : List Nat} (h : ArrS H P A S) (k : Chg T H H') (ho : ∀ i ∈ S, i ∉ T) : ArrS H' P A S := by
  obtain ⟨D, fv, dvs, h, rfl⟩ := h
  exact ⟨D, fv, dvs, h.chg k ho, rfl⟩
theorem ArrS.grew {S : List Nat} (h : ArrS H P A S) (g : Grew H H') : ArrS H' P A S := h.chg (g.chg []) (by simp)
theorem IsArr.grew (h : IsArr H P D fv dvs A) (g : Grew H H') : IsArr H' P D fv dvs A := h.chg (g.chg []) (by simp)
/-- The head is laid anew. -/
theorem IsArr.head (h : IsArr H P D fv dvs A) {fuse : Nat} (hf : fuse < 9223372036854775808) (off : Bool) :
    IsArr (H.set P (some (.cells [.int .i64 A.count, .slice ⟨false, D, 0⟩ A.disks.length (.grow 1), fv, .int .i64 fuse, .bool off]))) P D fv dvs { A with fuse := fuse, off := off } := by
  have k := Chg.set H P (some (.cells [.int .i64 A.count, .slice ⟨false, D, 0⟩ A.disks.length (.grow 1), fv, .int .i64 fuse, .bool off])) (S := [P]) (by simp)
  exact { h with
    hd := set_cells H _ (cells_lt h.hd)
    ds := k.cells (by simp; exact fun e => h.pD e.symm) h.ds
    each := fun d hd => (h.each d hd).chg k fun i hi => by simp; rintro rfl; exact h.pE d hd hi
    fl := h.fl.chg k fun i hi => by simp; rintro rfl; exact h.pF hi
    fuse := hf }
/-- Another list of what is in flight. -/
theorem IsArr.flies (h : IsArr H P D fv dvs A) {H3 : AH} (c : Chg (blkOf fv) H H3) {fv' : AV} {fly : List Fl} (hf : IsFly H3 fv' fly) (hw : ∀ f ∈ fly, f.disk < A.disks.length ∧ f.pos < A.count ∧ f.data.length = 64) (ho : ∀ i ∈ blkOf fv', i ∈ blkOf fv ∨ i ∉ ownB P D fv dvs) {fuse : Nat} (hfu : fuse < 9223372036854775808) (off : Bool) :
    IsArr (H3.set P (some (.cells [.int .i64 A.count, .slice ⟨false, D, 0⟩ A.disks.length (.grow 1), fv', .int .i64 fuse, .bool off]))) P D fv' dvs { A with fly := fly, fuse := fuse, off := off } := by
  have k := Chg.set H3 P (some (.cells [.int .i64 A.count, .slice ⟨false, D, 0⟩ A.disks.length (.grow 1), fv', .int .i64 fuse, .bool off])) (S := [P]) (by simp)
  have pF : P ∉ blkOf fv' := fun hm => by rcases ho _ hm with h1 | h1; exact h.pF h1; exact h1 own_P
  exact { h with
    hd := set_cells H3 _ (Nat.lt_of_lt_of_le (cells_lt h.hd) c.n)
    ds := k.cells (by simp; exact fun e => h.pD e.symm) (c.cells h.dF h.ds)
    each := fun d hd => ((h.each d hd).chg c fun i hi hm => h.fE d hd i hm hi).chg k fun i hi => by simp; rintro rfl; exact h.pE d hd hi
    fl := hf.chg k fun i hi => by simp; rintro rfl; exact pF hi
    wf := hw
    fuse := hfu
    pF := pF
    dF := fun hm => by rcases ho _ hm with h1 | h1; exact h.dF h1; exact h1 own_D
    fE := fun d hd i hi hm => by rcases ho _ hi with h1 | h1; exact h.fE d hd i h1 hm; exact h1 (own_E (by rw [h.len]; exact hd) hm) }
/-- The cells of a disk that is on. -/
theorem IsArr.disk (h : IsArr H P D fv dvs A) {d : Nat} (hd : d < A.disks.length) {ss : List (List UInt8)} (hs : A.disks.getD d none = some ss) : ss.length = A.count ∧ sized ss ∧ ∃ B c, dvs.getD d .unk = .slice ⟨false, B, 0⟩ A.count c ∧ capOk A.count c ∧ H.cells? B = some (secC ss) := by
  have := h.each d hd
  rw [hs] at this
  exact this
theorem IsArr.lost (h : IsArr H P D fv dvs A) {d : Nat} (hd : d < A.disks.length) (hs : A.disks.getD d none = none) : dvs.getD d .unk = .nilslice := by
  have := h.each d hd
  rw [hs] at this
  exact this
theorem getD_set {α : Type} {l : List α} {i j : Nat} {x y : α} (hi : i < l.length) : (l.set i x).getD j y = if j = i then x else l.getD j y := by
  simp only [List.getD, List.getElem?_set]
  by_cases h : i = j
  · subst h; simp [hi]
  · rw [if_neg h, if_neg (fun e => h e.symm)]
/-- A sector of a disk is laid anew. -/
theorem IsArr.lay (h : IsArr H P D fv dvs A) {d i : Nat} (hd : d < A.disks.length) {ss : List (List UInt8)} (hs : A.disks.getD d none = some ss) {s : List UInt8} (hl : s.length = 64) {B n : Nat} {c : Cap} (hB : dvs.getD d .unk = .slice ⟨false, B, 0⟩ n c) :
    IsArr (H.set B (some (.cells (secC (ss.set i s))))) P D fv dvs { A with disks := A.disks.set d (some (ss.set i s)) } := by
  have k := Chg.set H B (some (.cells (secC (ss.set i s)))) (S := [B]) (by simp)
  obtain ⟨e1, e2, B', c', e3, e4, e5⟩ := h.disk hd hs
  rw [hB] at e3
  injection e3 with e3 e6 e7
  injection e3 with _ e3
  subst e3 e6 e7
  have hBm : B ∈ blkOf (dvs.getD d .unk) := by rw [hB]; simp [blkOf]
  refine { h with hd := ?_, ds := ?_, len := ?_, each := ?_, fl := ?_, wf := ?_, dn := ?_, pE := ?_, dE := ?_, fE := ?_, ee := ?_ }
  · rw [List.length_set]
    exact k.cells (by simp; rintro rfl; exact h.pE d hd hBm) h.hd
  · exact k.cells (by simp; rintro rfl; exact h.dE d hd hBm) h.ds
  · rw [List.length_set]; exact h.len
  · intro d' hd'
    rw [List.length_set] at hd'
    simp only [getD_set hd]
    by_cases e : d' = d
    · subst e
      rw [if_pos rfl, hB]
      exact ⟨by rw [List.length_set]; exact e1, e2.set i hl, B, c, rfl, e4, set_cells H _ (cells_lt e5)⟩
    · rw [if_neg e]
      exact (h.each d' hd').chg k fun j hj => by simp; rintro rfl; exact h.ee d d' hd hd' (fun e' => e e'.symm) _ hBm hj
  · exact h.fl.chg k fun j hj => by simp; rintro rfl; exact h.fE d hd _ hj hBm
  · intro f hf; rw [List.length_set]; exact h.wf f hf
  · rw [List.length_set]; exact h.dn
  · intro d' hd'; rw [List.length_set] at hd'; exact h.pE d' hd'
  · intro d' hd'; rw [List.length_set] at hd'; exact h.dE d' hd'
  · intro d' hd'; rw [List.length_set] at hd'; exact h.fE d' hd'
  · intro d' e' hd' he'; rw [List.length_set] at hd' he'; exact h.ee d' e' hd' he'
/-- A disk is put in a place, or taken out of it. -/
theorem IsArr.put (h : IsArr H P D fv dvs A) {d : Nat} (hd : d < A.disks.length) {v : AV} {o : Option (List (List UInt8))} (hv : IsDisk H A.count v o) (ho : ∀ i ∈ blkOf v, i ∉ ownB P D fv dvs) :
    IsArr (H.set D (some (.cells (dvs.set d v)))) P D fv (dvs.set d v) { A with disks := A.disks.set d o } := by
  have k := Chg.set H D (some (.cells (dvs.set d v))) (S := [D]) (by simp)
  have hdl : d < dvs.length := by rw [h.len]; exact hd
  refine { h with hd := ?_, ds := ?_, len := ?_, each := ?_, fl := ?_, wf := ?_, dn := ?_, pE := ?_, dE := ?_, fE := ?_, ee := ?_ }
  · rw [List.length_set]
    exact k.cells (by simp; exact h.pD) h.hd
  · exact set_cells H _ (cells_lt h.ds)
  · rw [List.length_set, List.length_set]; exact h.len
  · intro d' hd'
    rw [List.length_set] at hd'
    simp only [getD_set hd, getD_set hdl]
    by_cases e : d' = d
    · rw [if_pos e, if_pos e]
      exact hv.chg k fun j hj => by simp; rintro rfl; exact ho _ hj own_D
    · rw [if_neg e, if_neg e]
      exact (h.each d' hd').chg k fun j hj => by simp; rintro rfl; exact h.dE d' hd' hj
  · exact h.fl.chg k fun j hj => by simp; rintro rfl; exact h.dF hj
  · intro f hf; rw [List.length_set]; exact h.wf f hf
  · rw [List.length_set]; exact h.dn
  · intro d' hd'
    rw [List.length_set] at hd'
    rw [getD_set hdl]
    split
    · exact fun hm => ho _ hm own_P
    · exact h.pE d' hd'
  · intro d' hd'
    rw [List.length_set] at hd'
    rw [getD_set hdl]
    split
    · exact fun hm => ho _ hm own_D
    · exact h.dE d' hd'
  · intro d' hd'
    rw [List.length_set] at hd'
    rw [getD_set hdl]
    split
    · exact fun i hi hm => ho _ hm (own_F hi)
    · exact h.fE d' hd'
  · intro d' e' hd' he' hne
    rw [List.length_set] at hd' he'
    rw [getD_set hdl, getD_set hdl]
    split
    · rename_i e1
      rw [if_neg (fun e2 => hne (e1.trans e2.symm))]
      exact fun i hi hm => ho _ hi (own_E (by rw [h.len]; exact he') hm)
    · split
      · exact fun i hi hm => ho _ hm (own_E (by rw [h.len]; exact hd') hi)
      · exact h.ee d' e' hd' he' hne
end
/-! what is done to them -/
def Arr.inn (A : Arr) (d : Int) : Prop := 0 ≤ d ∧ d < A.disks.length
instance (A : Arr) (d : Int) : Decidable (A.inn d) := by unfold Arr.inn; infer_instance
def Arr.on (A : Arr) (d : Int) : Bool := decide (A.inn d) && (A.disks.getD d.toNat none).isSome
def Arr.why (A : Arr) (d i : Int) : Nat := if A.off then 8 else if A.inn d ∧ 0 ≤ i ∧ i < A.count then (if A.on d then 0 else 9) else 6
def Arr.burn (A : Arr) : Arr := if A.fuse = 0 then A else { A with fuse := A.fuse - 1, off := decide (A.fuse = 1) }
def Arr.burnt (A : Arr) : Bool := decide (A.fuse = 1)
def Arr.land (A : Arr) (f : Fl) : Arr := if A.on f.disk then { A with disks := A.disks.set f.disk ((A.disks.getD f.disk none).map fun ss => ss.set f.pos f.data) } else A
def Arr.write (A : Arr) (d i : Int) (bs : List UInt8) : Nat × Arr :=
  if A.why d i ≠ 0 then (A.why d i, A) else if bs.length ≠ 64 then (1, A) else if A.burnt then (8, A.burn) else (0, { A.burn with fly := A.burn.fly ++ [⟨d.toNat, i.toNat, bs⟩] })
def lastOf (d i : Nat) (s : List UInt8) (l : List Fl) : List UInt8 := l.foldl (fun s f => if f.disk = d ∧ f.pos = i then f.data else s) s
def Arr.sec (A : Arr) (d i : Nat) : List UInt8 := ((A.disks.getD d none).getD []).getD i []
def Arr.read (A : Arr) (d i : Nat) : List UInt8 := lastOf d i (A.sec d i) A.fly
/-- The first so many writes last. -/
def landed (A : Arr) (p : Nat → Bool) : Nat → Arr
  | 0 => A
  | k + 1 => if p k then (landed A p k).land (A.fly.getD k default) else landed A p k
def Arr.barrier (A : Arr) : Nat × Arr := if A.off then (8, A) else if A.burnt then (8, A.burn) else (0, { landed A.burn (fun _ => true) A.fly.length with fly := [] })
def pickOf (picks : List UInt8) (k : Nat) : Bool := decide (k < picks.length) && decide ((picks.getD k 0).toNat % 2 = 1)
def Arr.crash (A : Arr) (picks : List UInt8) : Arr := { landed A (pickOf picks) A.fly.length with fly := [], fuse := 0, off := false }
def Arr.lose (A : Arr) (d : Int) : Nat × Arr :=
  if ¬ A.inn d then (6, A) else if A.on d then (0, { A with disks := A.disks.set d.toNat none, fly := A.fly.filter fun f => f.disk ≠ d.toNat }) else (9, A)
def blankS (n : Nat) : List (List UInt8) := List.replicate n (List.replicate 64 0)
def Arr.replace (A : Arr) (d : Int) : Nat × Arr :=
  if ¬ A.inn d then (6, A) else if A.on d then (1, A) else (0, { A with disks := A.disks.set d.toNat (some (blankS A.count)) })
def newArr (disks count : Nat) : Arr := ⟨count, List.replicate disks (some (blankS count)), [], 0, false⟩
def Arr.ons (A : Arr) : Nat := (A.disks.filter (·.isSome)).length
theorem Arr.burn_fly (A : Arr) : A.burn.fly = A.fly := by unfold Arr.burn; split <;> rfl
theorem Arr.burn_disks (A : Arr) : A.burn.disks = A.disks := by unfold Arr.burn; split <;> rfl
theorem Arr.burn_count (A : Arr) : A.burn.count = A.count := by unfold Arr.burn; split <;> rfl
theorem Arr.land_fly (A : Arr) (f : Fl) : (A.land f).fly = A.fly := by unfold Arr.land; split <;> rfl
theorem Arr.land_count (A : Arr) (f : Fl) : (A.land f).count = A.count := by unfold Arr.land; split <;> rfl
theorem Arr.land_fuse (A : Arr) (f : Fl) : (A.land f).fuse = A.fuse := by unfold Arr.land; split <;> rfl
theorem Arr.land_off (A : Arr) (f : Fl) : (A.land f).off = A.off := by unfold Arr.land; split <;> rfl
theorem Arr.land_len (A : Arr) (f : Fl) : (A.land f).disks.length = A.disks.length := by unfold Arr.land; split <;> simp
theorem landed_fly (A : Arr) (p : Nat → Bool) : ∀ k, (landed A p k).fly = A.fly
  | 0 => rfl
  | k + 1 => by simp only [landed]; split; rw [Arr.land_fly]; exact landed_fly A p k; exact landed_fly A p k
theorem landed_count (A : Arr) (p : Nat → Bool) : ∀ k, (landed A p k).count = A.count
  | 0 => rfl
  | k + 1 => by simp only [landed]; split; rw [Arr.land_count]; exact landed_count A p k; exact landed_count A p k
theorem landed_len (A : Arr) (p : Nat → Bool) : ∀ k, (landed A p k).disks.length = A.disks.length
  | 0 => rfl
  | k + 1 => by simp only [landed]; split; rw [Arr.land_len]; exact landed_len A p k; exact landed_len A p k
theorem landed_fuse (A : Arr) (p : Nat → Bool) : ∀ k, (landed A p k).fuse = A.fuse
  | 0 => rfl
  | k + 1 => by simp only [landed]; split; rw [Arr.land_fuse]; exact landed_fuse A p k; exact landed_fuse A p k
theorem landed_off (A : Arr) (p : Nat → Bool) : ∀ k, (landed A p k).off = A.off
  | 0 => rfl
  | k + 1 => by simp only [landed]; split; rw [Arr.land_off]; exact landed_off A p k; exact landed_off A p k
end Go.Proofs.Ytickckpndpeppaa
