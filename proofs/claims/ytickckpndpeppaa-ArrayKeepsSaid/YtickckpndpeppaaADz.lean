/- The document's arrays of disks: how they lie in memory. -/
import Derived.Test.YtickckpndpeppaaAPz
namespace Go.Proofs.Ytickckpndpeppaa
open Go Go.Abs Go.Abs.GF
set_option linter.unusedVariables false
set_option linter.unusedSimpArgs false
set_option maxHeartbeats 4000000
attribute [local irreducible] ASpec AWp WP AOps DOps

/-- A disk: its slice, what lies in that, its sectors (none: it is gone). -/
structure RD where
  sv : AV
  ws : List AV
  ss : Option (List (List UInt8))
instance : Inhabited RD := ⟨⟨.nilslice, [], none⟩⟩
structure RF where
  w : AV
  f : Fl
instance : Inhabited RF := ⟨⟨.nilslice, default⟩⟩
def rd1 (d : RD) : List AV := [d.sv, .bool d.ss.isNone]
def rf1 (f : RF) : List AV := [.int .i64 f.f.disk, .int .i64 f.f.pos, f.w]
def rdC (l : List RD) : List AV := l.flatMap rd1
def rfC (l : List RF) : List AV := l.flatMap rf1
theorem rdC_len (l : List RD) : (rdC l).length = l.length * 2 := flat_len (w := 2) fun _ _ => rfl
theorem rfC_len (l : List RF) : (rfC l).length = l.length * 3 := flat_len (w := 3) fun _ _ => rfl
theorem flat_at {α : Type} {f : α → List AV} {w : Nat} {l : List α} {i : Nat} (h : ∀ x ∈ l, (f x).length = w) (hi : i < l.length) {j : Nat} (hj : j < w) : (l.flatMap f)[i * w + j]? = (f l[i])[j]? := by
  rw [← flat_get h hi, List.getElem?_take, if_pos hj, List.getElem?_drop]
theorem rdC_0 {l : List RD} {i : Nat} (hi : i < l.length) : (rdC l)[i * 2]? = some (l.getD i default).sv := by
  have := flat_at (f := rd1) (w := 2) (l := l) (i := i) (fun _ _ => rfl) hi (j := 0) (by omega)
  rw [show l.getD i default = l[i] by simp [List.getD, hi]]
  exact this
theorem rdC_1 {l : List RD} {i : Nat} (hi : i < l.length) : (rdC l)[i * 2 + 1]? = some (.bool (l.getD i default).ss.isNone) := by
  have := flat_at (f := rd1) (w := 2) (l := l) (i := i) (fun _ _ => rfl) hi (j := 1) (by omega)
  rw [show l.getD i default = l[i] by simp [List.getD, hi]]
  exact this
theorem rdC_set {l : List RD} {i : Nat} (hi : i < l.length) (d : RD) : putL (rdC l) (i * 2) [d.sv, .bool d.ss.isNone] = rdC (l.set i d) :=
  flat_set (f := rd1) (w := 2) (x := d) (fun _ _ => rfl) hi rfl
theorem rfC_0 {l : List RF} {i : Nat} (hi : i < l.length) : (rfC l)[i * 3]? = some (.int .i64 (l.getD i default).f.disk) := by
  have := flat_at (f := rf1) (w := 3) (l := l) (i := i) (fun _ _ => rfl) hi (j := 0) (by omega)
  rw [show l.getD i default = l[i] by simp [List.getD, hi]]
  exact this
theorem rfC_1 {l : List RF} {i : Nat} (hi : i < l.length) : (rfC l)[i * 3 + 1]? = some (.int .i64 (l.getD i default).f.pos) := by
  have := flat_at (f := rf1) (w := 3) (l := l) (i := i) (fun _ _ => rfl) hi (j := 1) (by omega)
  rw [show l.getD i default = l[i] by simp [List.getD, hi]]
  exact this
theorem rfC_2 {l : List RF} {i : Nat} (hi : i < l.length) : (rfC l)[i * 3 + 2]? = some (l.getD i default).w := by
  have := flat_at (f := rf1) (w := 3) (l := l) (i := i) (fun _ _ => rfl) hi (j := 2) (by omega)
  rw [show l.getD i default = l[i] by simp [List.getD, hi]]
  exact this
theorem rfC_3 {l : List RF} {i : Nat} (hi : i < l.length) : ((rfC l).drop (i * 3)).take 3 = rf1 (l.getD i default) := by
  rw [show l.getD i default = l[i] by simp [List.getD, hi]]
  exact flat_get (f := rf1) (w := 3) (fun _ _ => rfl) hi

/-- The blocks that are written to; and those of the bytes. -/
def ownR (P D : Nat) (lv : AV) (ds : List RD) : List Nat := P :: D :: (blkOf lv ++ ds.flatMap fun d => blkOf d.sv)
def rowsR (ds : List RD) (fl : List RF) : List Nat := (ds.flatMap fun d => d.ws.flatMap blkOf) ++ fl.flatMap fun f => blkOf f.w
def allR (P D : Nat) (lv : AV) (ds : List RD) (fl : List RF) : List Nat := ownR P D lv ds ++ rowsR ds fl
structure OkRow (H : AH) (M : List Nat) (w : AV) (xs : List UInt8) : Prop where
  b : IsBytes H w xs
  off : ∀ i ∈ blkOf w, i ∉ M
  lt : ∀ i ∈ blkOf w, i < H.n
  len : xs.length = 64
theorem off_of {M : List Nat} {w : AV} {H : AH} {xs : List UInt8} (hb : IsBytes H w xs) (h : ∀ i ∈ blkOf w, i ∉ M) : offB M w := by
  rcases hb.elim with ⟨rfl, _⟩ | ⟨a, c, l, rfl, _⟩
  · trivial
  · exact .inr (h _ (by simp [blkOf]))
theorem OkRow.offB {H : AH} {M : List Nat} {w : AV} {xs : List UInt8} (h : OkRow H M w xs) : offB M w := off_of h.b h.off
theorem OkRow.chg {H H' : AH} {M M' T : List Nat} {w : AV} {xs : List UInt8} (h : OkRow H M w xs) (k : Chg T H H') (ht : ∀ i ∈ blkOf w, i ∉ T) (hm : ∀ i ∈ M', i ∈ M ∨ H.n ≤ i) : OkRow H' M' w xs :=
  ⟨h.b.chg k (off_of h.b ht), fun i hi hn => by rcases hm i hn with h1 | h1; exact h.off i hi h1; have := h.lt i hi; omega, fun i hi => Nat.lt_of_lt_of_le (h.lt i hi) k.n, h.len⟩
def OkRD (H : AH) (M : List Nat) (n : Nat) (d : RD) : Prop :=
  match d.ss with
  | none => d.sv = .nilslice ∧ d.ws = []
  | some ss => ss.length = n ∧ d.ws.length = n ∧ (∃ B, d.sv = .slice ⟨false, B, 0⟩ n (.grow 1) ∧ H.cells? B = some d.ws) ∧ ∀ i, i < n → OkRow H M (d.ws.getD i .unk) (ss.getD i [])
def OkRL (H : AH) (lv : AV) (fl : List RF) : Prop := (lv = .nilslice ∧ fl = []) ∨ ∃ B, lv = .slice ⟨false, B, 0⟩ fl.length (.grow 3) ∧ H.cells? B = some (rfC fl)
structure IsRef (H : AH) (P D : Nat) (lv : AV) (ds : List RD) (fl : List RF) (A : Arr) : Prop where
  hd : H.cells? P = some [.slice ⟨false, D, 0⟩ ds.length (.grow 2), .int .i64 A.count, lv, .int .i64 A.fuse, .bool A.off]
  dc : H.cells? D = some (rdC ds)
  dk : ∀ d, d < ds.length → OkRD H (ownR P D lv ds) A.count (ds.getD d default)
  fk : OkRL H lv fl
  fw : ∀ f ∈ fl, OkRow H (ownR P D lv ds) f.w f.f.data
  eD : A.disks = ds.map (·.ss)
  eF : A.fly = fl.map (·.f)
  wf : ∀ f ∈ A.fly, f.disk < ds.length ∧ f.pos < A.count ∧ f.data.length = 64
  cnt : 0 < A.count ∧ A.count ≤ 4096
  dn : 0 < ds.length ∧ ds.length ≤ 255
  fuse : A.fuse < 9223372036854775808
  nd : (ownR P D lv ds).Nodup

theorem nodup4 {P D : Nat} {lv : AV} {ds : List RD} : (ownR P D lv ds).Nodup ↔ P ≠ D ∧ P ∉ blkOf lv ∧ D ∉ blkOf lv ∧ (∀ d, d < ds.length → P ∉ blkOf (ds.getD d default).sv ∧ D ∉ blkOf (ds.getD d default).sv ∧ ∀ i ∈ blkOf lv, i ∉ blkOf (ds.getD d default).sv) ∧ (blkOf lv).Nodup ∧ (ds.flatMap fun d => blkOf d.sv).Nodup := by
  have key : ∀ p : RD → Prop, (∀ d ∈ ds, p d) ↔ ∀ d, d < ds.length → p (ds.getD d default) := fun p => by
    constructor
    · intro h d hd
      rw [show ds.getD d default = ds[d] by simp [List.getD, hd]]
      exact h _ (List.getElem_mem hd)
    · intro h d hd
      obtain ⟨i, hi, rfl⟩ := List.mem_iff_getElem.1 hd
      have := h i hi
      rwa [show ds.getD i default = ds[i] by simp [List.getD, hi]] at this
  simp only [ownR, List.nodup_cons, List.mem_cons, List.mem_append, List.mem_flatMap, not_or, List.nodup_append]
  constructor
  · rintro ⟨⟨h1, h2, h3⟩, ⟨h4, h5⟩, h6, h7, h8⟩
    refine ⟨h1, h2, h4, (key fun d => P ∉ blkOf d.sv ∧ D ∉ blkOf d.sv ∧ ∀ i ∈ blkOf lv, i ∉ blkOf d.sv).1 fun d hd => ⟨fun hm => h3 ⟨d, hd, hm⟩, fun hm => h5 ⟨d, hd, hm⟩, fun i hi hm => h8 i hi i ⟨d, hd, hm⟩ rfl⟩, h6, h7⟩
  · rintro ⟨h1, h2, h3, h4, h5, h6⟩
    have h4 := (key fun d => P ∉ blkOf d.sv ∧ D ∉ blkOf d.sv ∧ ∀ i ∈ blkOf lv, i ∉ blkOf d.sv).2 h4
    refine ⟨⟨h1, h2, ?_⟩, ⟨h3, ?_⟩, h5, h6, ?_⟩
    · rintro ⟨d, hd, hm⟩; exact (h4 d hd).1 hm
    · rintro ⟨d, hd, hm⟩; exact (h4 d hd).2.1 hm
    · rintro i hi j ⟨d, hd, hm⟩ rfl; exact (h4 d hd).2.2 i hi hm

section
variable {H H' : AH} {P D : Nat} {lv : AV} {ds : List RD} {fl : List RF} {A : Arr}
theorem rd_mem {d : Nat} (hd : d < ds.length) : ds.getD d default ∈ ds := by
  rw [show ds.getD d default = ds[d] by simp [List.getD, hd]]; exact List.getElem_mem hd
theorem own_sv {d : Nat} (hd : d < ds.length) {i : Nat} (hi : i ∈ blkOf (ds.getD d default).sv) : i ∈ ownR P D lv ds := by
  simp only [ownR, List.mem_cons, List.mem_append, List.mem_flatMap]
  exact .inr (.inr (.inr ⟨_, rd_mem hd, hi⟩))
theorem own_lv {i : Nat} (hi : i ∈ blkOf lv) : i ∈ ownR P D lv ds := by simp [ownR, hi]
theorem own_PR : P ∈ ownR P D lv ds := by simp [ownR]
theorem own_DR : D ∈ ownR P D lv ds := by simp [ownR]
theorem own_ofR {i : Nat} (h : i ∈ ownR P D lv ds) : i = P ∨ i = D ∨ i ∈ blkOf lv ∨ ∃ d, d < ds.length ∧ i ∈ blkOf (ds.getD d default).sv := by
  simp only [ownR, List.mem_cons, List.mem_append, List.mem_flatMap] at h
  rcases h with h | h | h | ⟨v, hv, h⟩
  · exact .inl h
  · exact .inr (.inl h)
  · exact .inr (.inr (.inl h))
  · obtain ⟨d, hd, rfl⟩ := List.mem_iff_getElem.1 hv
    exact .inr (.inr (.inr ⟨d, hd, by simpa [List.getD, hd] using h⟩))
theorem OkRD.chg {T M M' : List Nat} {n : Nat} {d : RD} (h : OkRD H M n d) (k : Chg T H H') (h1 : ∀ i ∈ blkOf d.sv, i ∉ T) (h2 : ∀ w ∈ d.ws, ∀ i ∈ blkOf w, i ∉ T) (hm : ∀ i ∈ M', i ∈ M ∨ H.n ≤ i) : OkRD H' M' n d := by
  obtain ⟨sv, ws, ss⟩ := d
  unfold OkRD at *
  cases ss with
  | none => exact h
  | some ss =>
    obtain ⟨g1, g2, ⟨B, g3, g4⟩, g5⟩ := h
    refine ⟨g1, g2, ⟨B, g3, k.cells (h1 B (by rw [g3]; simp [blkOf])) g4⟩, fun i hi => (g5 i hi).chg k (h2 _ ?_) hm⟩
    simp only at g2 ⊢
    rw [show ws.getD i .unk = ws[i]'(by omega) by simp [List.getD, show i < ws.length by omega]]
    exact List.getElem_mem _
theorem OkRL.chg {T : List Nat} (h : OkRL H lv fl) (k : Chg T H H') (h1 : ∀ i ∈ blkOf lv, i ∉ T) : OkRL H' lv fl := by
  rcases h with h | ⟨B, rfl, h2⟩
  · exact .inl h
  · exact .inr ⟨B, rfl, k.cells (h1 B (by simp [blkOf])) h2⟩
theorem OkRD.rows {M : List Nat} {n : Nat} {d : RD} (h : OkRD H M n d) : ∀ w ∈ d.ws, ∀ i ∈ blkOf w, i ∉ M ∧ i < H.n := by
  obtain ⟨sv, ws, ss⟩ := d
  unfold OkRD at h
  cases ss with
  | none => obtain ⟨_, h⟩ := h; simp only at h ⊢; rw [h]; simp
  | some ss =>
    obtain ⟨g1, g2, _, g5⟩ := h
    intro w hw i hi
    obtain ⟨j, hj, rfl⟩ := List.mem_iff_getElem.1 hw
    simp only at g2 hj
    have := g5 j (by omega)
    simp only at this
    rw [show ws.getD j .unk = ws[j] by simp [List.getD, hj]] at this
    exact ⟨this.off i hi, this.lt i hi⟩
theorem IsRef.lt (h : IsRef H P D lv ds fl A) : ∀ i ∈ ownR P D lv ds, i < H.n := by
  intro i hi
  rcases own_ofR hi with rfl | rfl | hi | ⟨d, hd, hi⟩
  · exact cells_lt h.hd
  · exact cells_lt h.dc
  · rcases h.fk with ⟨rfl, _⟩ | ⟨B, rfl, h1⟩
    · simp [blkOf] at hi
    · simp only [blkOf, List.mem_cons, List.not_mem_nil, or_false] at hi
      subst hi; exact cells_lt h1
  · have := h.dk d hd
    unfold OkRD at this
    cases hs : (ds.getD d default).ss with
    | none => rw [hs] at this; rw [this.1] at hi; simp [blkOf] at hi
    | some ss =>
      rw [hs] at this
      obtain ⟨_, _, ⟨B, g3, g4⟩, _⟩ := this
      rw [g3] at hi
      simp only [blkOf, List.mem_cons, List.not_mem_nil, or_false] at hi
      subst hi; exact cells_lt g4
theorem rows_of {i : Nat} (h : i ∈ rowsR ds fl) : (∃ d, d < ds.length ∧ ∃ w ∈ (ds.getD d default).ws, i ∈ blkOf w) ∨ ∃ f ∈ fl, i ∈ blkOf f.w := by
  simp only [rowsR, List.mem_append, List.mem_flatMap] at h
  rcases h with ⟨d, hd, w, hw, hi⟩ | h
  · obtain ⟨j, hj, rfl⟩ := List.mem_iff_getElem.1 hd
    exact .inl ⟨j, hj, w, by simpa [List.getD, hj] using hw, hi⟩
  · exact .inr h
theorem rows_d {d : Nat} (hd : d < ds.length) {w : AV} (hw : w ∈ (ds.getD d default).ws) {i : Nat} (hi : i ∈ blkOf w) : i ∈ rowsR ds fl := by
  simp only [rowsR, List.mem_append, List.mem_flatMap]
  exact .inl ⟨_, rd_mem hd, w, hw, hi⟩
theorem rows_f {f : RF} (hf : f ∈ fl) {i : Nat} (hi : i ∈ blkOf f.w) : i ∈ rowsR ds fl := by
  simp only [rowsR, List.mem_append, List.mem_flatMap]
  exact .inr ⟨f, hf, hi⟩
theorem IsRef.row_lt (h : IsRef H P D lv ds fl A) : ∀ i ∈ rowsR ds fl, i ∉ ownR P D lv ds ∧ i < H.n := by
  intro i hi
  rcases rows_of hi with ⟨d, hd, w, hw, hi⟩ | ⟨f, hf, hi⟩
  · exact (h.dk d hd).rows w hw i hi
  · exact ⟨(h.fw f hf).off i hi, (h.fw f hf).lt i hi⟩
theorem IsRef.ltA (h : IsRef H P D lv ds fl A) : ∀ i ∈ allR P D lv ds fl, i < H.n := by
  intro i hi
  rcases List.mem_append.1 hi with hi | hi
  · exact h.lt i hi
  · exact (h.row_lt i hi).2
theorem IsRef.chg {T : List Nat} (h : IsRef H P D lv ds fl A) (k : Chg T H H') (ho : ∀ i ∈ allR P D lv ds fl, i ∉ T) : IsRef H' P D lv ds fl A :=
  have o1 : ∀ i ∈ ownR P D lv ds, i ∉ T := fun i hi => ho i (List.mem_append_left _ hi)
  have o2 : ∀ i ∈ rowsR ds fl, i ∉ T := fun i hi => ho i (List.mem_append_right _ hi)
  { h with
    hd := k.cells (o1 P own_PR) h.hd
    dc := k.cells (o1 D own_DR) h.dc
    dk := fun d hd => (h.dk d hd).chg k (fun i hi => o1 i (own_sv hd hi)) (fun w hw i hi => o2 i (rows_d hd hw hi)) fun i hi => .inl hi
    fk := h.fk.chg k fun i hi => o1 i (own_lv hi)
    fw := fun f hf => (h.fw f hf).chg k (fun i hi => o2 i (rows_f hf hi)) fun i hi => .inl hi }
theorem IsRef.grew (h : IsRef H P D lv ds fl A) (g : Grew H H') : IsRef H' P D lv ds fl A := h.chg (g.chg []) (by simp)
/-- The head is laid anew. -/
theorem IsRef.head (h : IsRef H P D lv ds fl A) {fuse : Nat} (hf : fuse < 9223372036854775808) (off : Bool) :
    IsRef (H.set P (some (.cells [.slice ⟨false, D, 0⟩ ds.length (.grow 2), .int .i64 A.count, lv, .int .i64 fuse, .bool off]))) P D lv ds fl { A with fuse := fuse, off := off } := by
  have k := Chg.set H P (some (.cells [.slice ⟨false, D, 0⟩ ds.length (.grow 2), .int .i64 A.count, lv, .int .i64 fuse, .bool off])) (S := [P]) (by simp)
  obtain ⟨n1, n2, n3, n4, _⟩ := nodup4.1 h.nd
  have nP : ∀ i ∈ rowsR ds fl, i ∉ [P] := fun i hi hm => by
    simp only [List.mem_cons, List.not_mem_nil, or_false] at hm
    subst hm; exact (h.row_lt _ hi).1 own_PR
  exact { h with
    hd := set_cells H _ (cells_lt h.hd)
    dc := k.cells (by simp; exact fun e => n1 e.symm) h.dc
    dk := fun d hd => (h.dk d hd).chg k (fun i hi => by simp; rintro rfl; exact (n4 d hd).1 hi) (fun w hw i hi => nP i (rows_d hd hw hi)) fun i hi => .inl hi
    fk := h.fk.chg k fun i hi => by simp; rintro rfl; exact n2 hi
    fw := fun f hf => (h.fw f hf).chg k (fun i hi => nP i (rows_f hf hi)) fun i hi => .inl hi
    fuse := hf }
/-- Another list of what is in flight. -/
theorem IsRef.flies (h : IsRef H P D lv ds fl A) {H3 : AH} (c : Chg (blkOf lv) H H3) {lv' : AV} {fl' : List RF} (hk : OkRL H3 lv' fl') (hn : (blkOf lv').Nodup) (hw : ∀ f ∈ fl', OkRow H3 (ownR P D lv' ds) f.w f.f.data) (hg : ∀ f ∈ fl', f.f.disk < ds.length ∧ f.f.pos < A.count ∧ f.f.data.length = 64)
    (ho : ∀ i ∈ blkOf lv', H.n ≤ i) {fuse : Nat} (hfu : fuse < 9223372036854775808) (off : Bool) :
    IsRef (H3.set P (some (.cells [.slice ⟨false, D, 0⟩ ds.length (.grow 2), .int .i64 A.count, lv', .int .i64 fuse, .bool off]))) P D lv' ds fl' { A with fly := fl'.map (·.f), fuse := fuse, off := off } := by
  have k := Chg.set H3 P (some (.cells [.slice ⟨false, D, 0⟩ ds.length (.grow 2), .int .i64 A.count, lv', .int .i64 fuse, .bool off])) (S := [P]) (by simp)
  obtain ⟨n1, n2, n3, n4, n5, n6⟩ := nodup4.1 h.nd
  have hlt := h.lt
  have hPn := hlt P own_PR
  have pF : P ∉ blkOf lv' := fun hm => by have := ho _ hm; omega
  have hM : ∀ i ∈ ownR P D lv' ds, i ∈ ownR P D lv ds ∨ H.n ≤ i := fun i hi => by
    rcases own_ofR hi with rfl | rfl | hi | ⟨d, hd, hi⟩
    · exact .inl own_PR
    · exact .inl own_DR
    · exact .inr (ho i hi)
    · exact .inl (own_sv hd hi)
  refine { hd := set_cells H3 _ (Nat.lt_of_lt_of_le hPn c.n), dc := k.cells (by simp; exact fun e => n1 e.symm) (c.cells n3 h.dc), dk := ?_, fk := hk.chg k fun i hi => by simp; rintro rfl; exact pF hi, fw := ?_, eD := h.eD, eF := rfl, wf := ?_, cnt := h.cnt, dn := h.dn, fuse := hfu, nd := ?_ }
  · intro d hd
    refine ((h.dk d hd).chg c (fun i hi hm => (n4 d hd).2.2 i hm hi) (fun w hw i hi hm => ((h.dk d hd).rows w hw i hi).1 (own_lv hm)) hM).chg k (fun i hi => by simp; rintro rfl; exact (n4 d hd).1 hi) (fun w hw2 i hi => ?_) fun i hi => .inl hi
    simp only [List.mem_cons, List.not_mem_nil, or_false]
    rintro rfl
    exact ((h.dk d hd).rows w hw2 _ hi).1 own_PR
  · intro f hf
    refine (hw f hf).chg k (fun i hi hm => ?_) fun i hi => .inl hi
    simp only [List.mem_cons, List.not_mem_nil, or_false] at hm
    subst hm
    exact (hw f hf).off _ hi own_PR
  · intro f hf
    obtain ⟨g, hg', rfl⟩ := List.mem_map.1 hf
    exact hg g hg'
  · refine nodup4.2 ⟨n1, pF, fun hm => by have := ho _ hm; have := hlt D own_DR; omega, fun d hd => ⟨(n4 d hd).1, (n4 d hd).2.1, fun i hi hm => ?_⟩, hn, n6⟩
    have := ho i hi
    have := hlt i (own_sv hd hm)
    omega
theorem IsRef.nth (h : IsRef H P D lv ds fl A) {d : Nat} : A.disks.getD d none = (ds.getD d default).ss := by
  rw [h.eD]
  simp only [List.getD, List.getElem?_map]
  cases ds[d]? <;> rfl
theorem IsRef.len (h : IsRef H P D lv ds fl A) : A.disks.length = ds.length := by rw [h.eD, List.length_map]
theorem IsRef.flen (h : IsRef H P D lv ds fl A) : A.fly.length = fl.length := by rw [h.eF, List.length_map]
theorem IsRef.fnth (h : IsRef H P D lv ds fl A) {j : Nat} (hj : j < fl.length) : A.fly.getD j default = (fl.getD j default).f := by
  rw [h.eF]
  simp only [List.getD, List.getElem?_map, List.getElem?_eq_getElem hj, Option.map_some, Option.getD_some]
/-- The row of a disk that is on. -/
theorem IsRef.disk (h : IsRef H P D lv ds fl A) {d : Nat} (hd : d < ds.length) {ss : List (List UInt8)} (hs : (ds.getD d default).ss = some ss) : ss.length = A.count ∧ (ds.getD d default).ws.length = A.count ∧ (∃ B, (ds.getD d default).sv = .slice ⟨false, B, 0⟩ A.count (.grow 1) ∧ H.cells? B = some (ds.getD d default).ws) ∧
    ∀ i, i < A.count → OkRow H (ownR P D lv ds) ((ds.getD d default).ws.getD i .unk) (ss.getD i []) := by
  have := h.dk d hd
  unfold OkRD at this
  rw [hs] at this
  exact this
theorem IsRef.lost (h : IsRef H P D lv ds fl A) {d : Nat} (hd : d < ds.length) (hs : (ds.getD d default).ss = none) : (ds.getD d default).sv = .nilslice := by
  have := h.dk d hd
  unfold OkRD at this
  rw [hs] at this
  exact this.1
theorem getD_setR {l : List RD} {i j : Nat} {x : RD} (hi : i < l.length) : (l.set i x).getD j default = if j = i then x else l.getD j default := by
  simp only [List.getD, List.getElem?_set]
  by_cases h : i = j
  · subst h; simp [hi]
  · rw [if_neg h, if_neg (fun e => h e.symm)]
theorem flat_split {l : List RD} {i : Nat} (hi : i < l.length) (x : RD) : ((l.set i x).flatMap fun d => blkOf d.sv) = ((l.take i).flatMap fun d => blkOf d.sv) ++ (blkOf x.sv ++ (l.drop (i + 1)).flatMap fun d => blkOf d.sv) := by
  rw [set_take_drop hi, List.flatMap_append, List.flatMap_cons]
theorem flat_own {l : List RD} {i : Nat} (hi : i < l.length) : (l.flatMap fun d => blkOf d.sv) = ((l.take i).flatMap fun d => blkOf d.sv) ++ (blkOf (l.getD i default).sv ++ (l.drop (i + 1)).flatMap fun d => blkOf d.sv) := by
  have : l.set i (l.getD i default) = l := by
    rw [show l.getD i default = l[i] by simp [List.getD, hi]]; simp
  rw [← flat_split hi (l.getD i default), this]
/-- A sector of a disk is laid anew. -/
theorem IsRef.lay (h : IsRef H P D lv ds fl A) {d i : Nat} (hd : d < ds.length) {ss : List (List UInt8)} (hs : (ds.getD d default).ss = some ss) (hi : i < A.count) {w : AV} {xs : List UInt8} (hw : OkRow H (ownR P D lv ds) w xs) {B : Nat} (hB : (ds.getD d default).sv = .slice ⟨false, B, 0⟩ A.count (.grow 1)) :
    IsRef (H.set B (some (.cells ((ds.getD d default).ws.set i w)))) P D lv (ds.set d ⟨(ds.getD d default).sv, (ds.getD d default).ws.set i w, some (ss.set i xs)⟩) fl { A with disks := A.disks.set d (some (ss.set i xs)) } := by
  obtain ⟨s1, s2, ⟨B', s3, s4⟩, s5⟩ := h.disk hd hs
  rw [hB] at s3
  injection s3 with s3
  injection s3 with _ s3
  subst s3
  have k := Chg.set H B (some (.cells ((ds.getD d default).ws.set i w))) (S := [B]) (by simp)
  obtain ⟨n1, n2, n3, n4, n5, n6⟩ := nodup4.1 h.nd
  have hBo : B ∈ ownR P D lv ds := own_sv hd (by rw [hB]; simp [blkOf])
  have hBm : B ∈ blkOf (ds.getD d default).sv := by rw [hB]; simp [blkOf]
  have eown : ownR P D lv (ds.set d ⟨(ds.getD d default).sv, (ds.getD d default).ws.set i w, some (ss.set i xs)⟩) = ownR P D lv ds := by
    simp only [ownR, flat_split hd, ← flat_own hd]
  have nB : ∀ j ∈ rowsR ds fl, j ∉ [B] := fun j hj hm => by
    simp only [List.mem_cons, List.not_mem_nil, or_false] at hm
    subst hm; exact (h.row_lt _ hj).1 hBo
  have hother : ∀ e, e < ds.length → e ≠ d → ∀ j ∈ blkOf (ds.getD e default).sv, j ≠ B := fun e he hne j hj hjB => by
    subst hjB
    rw [List.nodup_iff_pairwise_ne, List.pairwise_flatMap] at n6
    have key := List.pairwise_iff_getElem.1 n6.2
    rw [show ds.getD e default = ds[e] by simp [List.getD, he]] at hj
    rw [show ds.getD d default = ds[d] by simp [List.getD, hd]] at hBm
    rcases Nat.lt_or_gt_of_ne hne with h1 | h1
    · exact key e d he hd h1 _ hj _ hBm rfl
    · exact key d e hd he h1 _ hBm _ hj rfl
  refine { hd := ?_, dc := ?_, dk := ?_, fk := ?_, fw := ?_, eD := ?_, eF := h.eF, wf := ?_, cnt := h.cnt, dn := ?_, fuse := h.fuse, nd := ?_ }
  · rw [List.length_set]; exact k.cells (by simp; rintro rfl; exact (n4 d hd).1 hBm) h.hd
  · have e : rdC (ds.set d ⟨(ds.getD d default).sv, (ds.getD d default).ws.set i w, some (ss.set i xs)⟩) = rdC ds := by
      have h1 := rdC_set hd ⟨(ds.getD d default).sv, (ds.getD d default).ws.set i w, some (ss.set i xs)⟩
      have h2 := rdC_set hd (ds.getD d default)
      rw [show ds.set d (ds.getD d default) = ds by rw [show ds.getD d default = ds[d] by simp [List.getD, hd]]; simp] at h2
      rw [hs, Option.isNone_some] at h2
      simp only [Option.isNone_some] at h1
      rw [← h1, h2]
    rw [e]
    exact k.cells (by simp; rintro rfl; exact (n4 d hd).2.1 hBm) h.dc
  · intro e he
    rw [List.length_set] at he
    rw [eown, getD_setR hd]
    split
    · unfold OkRD
      refine ⟨by rw [List.length_set]; exact s1, by rw [List.length_set]; exact s2, ⟨B, hB, set_cells _ _ (cells_lt s4)⟩, fun j hj => ?_⟩
      simp only
      rw [getD_set (by omega), getD_set (by omega)]
      split
      · exact hw.chg k (fun q hq hm => by simp only [List.mem_cons, List.not_mem_nil, or_false] at hm; subst hm; exact hw.off _ hq hBo) fun q hq => .inl hq
      · exact (s5 j hj).chg k (fun q hq hm => by simp only [List.mem_cons, List.not_mem_nil, or_false] at hm; subst hm; exact (s5 j hj).off _ hq hBo) fun q hq => .inl hq
    · rename_i hne
      exact (h.dk e he).chg k (fun q hq hm => by simp only [List.mem_cons, List.not_mem_nil, or_false] at hm; exact hother e he hne q hq hm) (fun v hv q hq => nB q (rows_d he hv hq)) fun q hq => .inl hq
  · exact h.fk.chg k fun q hq => by simp; rintro rfl; exact (n4 d hd).2.2 _ hq hBm
  · intro f hf
    rw [eown]
    exact (h.fw f hf).chg k (fun q hq => nB q (rows_f hf hq)) fun q hq => .inl hq
  · simp only [h.eD, List.map_set]
  · rw [List.length_set]; exact h.wf
  · rw [List.length_set]; exact h.dn
  · rw [eown]; exact h.nd
/-- A disk is put in a place, or taken out of it. -/
theorem IsRef.put (h : IsRef H P D lv ds fl A) {d : Nat} (hd : d < ds.length) {x : RD} (hx : OkRD H (blkOf x.sv) A.count x) (hn : (blkOf x.sv).Nodup) (ho : ∀ i, i ∈ blkOf x.sv ∨ (∃ w ∈ x.ws, i ∈ blkOf w) → i ∉ allR P D lv ds fl) :
    IsRef (H.set D (some (.cells (rdC (ds.set d x))))) P D lv (ds.set d x) fl { A with disks := A.disks.set d x.ss } := by
  have k := Chg.set H D (some (.cells (rdC (ds.set d x)))) (S := [D]) (by simp)
  obtain ⟨n1, n2, n3, n4, n5, n6⟩ := nodup4.1 h.nd
  have ho1 : ∀ i ∈ blkOf x.sv, i ∉ ownR P D lv ds := fun i hi hm => ho i (.inl hi) (List.mem_append_left _ hm)
  have hsub : ∀ i ∈ ownR P D lv (ds.set d x), i ∈ ownR P D lv ds ∨ i ∈ blkOf x.sv := fun i hi => by
    rcases own_ofR hi with rfl | rfl | hi | ⟨e, he, hi⟩
    · exact .inl own_PR
    · exact .inl own_DR
    · exact .inl (own_lv hi)
    · rw [List.length_set] at he
      rw [getD_setR hd] at hi
      split at hi
      · exact .inr hi
      · exact .inl (own_sv he hi)
  have nD : ∀ j ∈ rowsR ds fl, j ∉ [D] := fun j hj hm => by
    simp only [List.mem_cons, List.not_mem_nil, or_false] at hm
    subst hm; exact (h.row_lt _ hj).1 own_DR
  have okrow : ∀ {w : AV} {xs : List UInt8}, OkRow H (ownR P D lv ds) w xs → (∀ j ∈ blkOf w, j ∈ rowsR ds fl) → OkRow (H.set D (some (.cells (rdC (ds.set d x))))) (ownR P D lv (ds.set d x)) w xs := fun {w xs} hw hr => by
    have h1 := hw.chg k (M' := ownR P D lv ds) (fun q hq => nD q (hr q hq)) fun q hq => .inl hq
    refine ⟨h1.b, fun q hq hm => ?_, h1.lt, h1.len⟩
    rcases hsub q hm with h2 | h2
    · exact h1.off q hq h2
    · exact ho q (.inl h2) (List.mem_append_right _ (hr q hq))
  refine { hd := ?_, dc := set_cells _ _ (cells_lt h.dc), dk := ?_, fk := ?_, fw := ?_, eD := ?_, eF := h.eF, wf := ?_, cnt := h.cnt, dn := ?_, fuse := h.fuse, nd := ?_ }
  · rw [List.length_set]; exact k.cells (by simp; exact n1) h.hd
  · intro e he
    rw [List.length_set] at he
    rw [getD_setR hd]
    split
    · obtain ⟨sv, ws, ss⟩ := x
      unfold OkRD at hx ⊢
      cases ss with
      | none => exact hx
      | some ss =>
        obtain ⟨x1, x2, ⟨B, x3, x4⟩, x5⟩ := hx
        simp only at x1 x2 x3 x4 x5
        refine ⟨x1, x2, ⟨B, x3, k.cells (by simp; rintro rfl; exact ho1 _ (by simp only; rw [x3]; simp [blkOf]) own_DR) x4⟩, fun j hj => ?_⟩
        have hj : j < A.count := hj
        have hm : ws.getD j .unk ∈ ws := by
          rw [show ws.getD j .unk = ws[j]'(by omega) by simp [List.getD, show j < ws.length by omega]]; exact List.getElem_mem _
        have hq0 : ∀ q ∈ blkOf (ws.getD j .unk), q ∉ allR P D lv ds fl := fun q hq => ho q (.inr ⟨_, hm, hq⟩)
        have h1 := (x5 j hj).chg k (M' := blkOf sv) (fun q hq => by simp; rintro rfl; exact hq0 _ hq (List.mem_append_left _ own_DR)) fun q hq => .inl hq
        refine ⟨h1.b, fun q hq hm2 => ?_, h1.lt, h1.len⟩
        rcases hsub q hm2 with h2 | h2
        · exact hq0 q hq (List.mem_append_left _ h2)
        · exact h1.off q hq h2
    · have hk := h.dk e he
      generalize hy : ds.getD e default = y at hk
      obtain ⟨sv, ws, ss⟩ := y
      unfold OkRD at hk ⊢
      cases ss with
      | none => exact hk
      | some ss =>
        obtain ⟨x1, x2, ⟨B, x3, x4⟩, x5⟩ := hk
        simp only at x1 x2 x3 x4 x5
        refine ⟨x1, x2, ⟨B, x3, k.cells (by simp; rintro rfl; exact (n4 e he).2.1 (by rw [hy]; simp only; rw [x3]; simp [blkOf])) x4⟩, fun j hj => okrow (x5 j hj) fun q hq => rows_d he (w := ws.getD j .unk) ?_ hq⟩
        have hj : j < A.count := hj
        rw [hy]
        simp only
        rw [show ws.getD j .unk = ws[j]'(by omega) by simp [List.getD, show j < ws.length by omega]]; exact List.getElem_mem _
  · exact h.fk.chg k fun q hq => by simp; rintro rfl; exact n3 hq
  · exact fun f hf => okrow (h.fw f hf) fun q hq => rows_f hf hq
  · simp only [h.eD, List.map_set]
  · rw [List.length_set]; exact h.wf
  · rw [List.length_set]; exact h.dn
  · refine nodup4.2 ⟨n1, n2, n3, fun e he => ?_, n5, ?_⟩
    · rw [List.length_set] at he
      rw [getD_setR hd]
      split
      · exact ⟨fun hm => ho1 _ hm own_PR, fun hm => ho1 _ hm own_DR, fun i hi hm => ho1 _ hm (own_lv hi)⟩
      · exact n4 e he
    · rw [flat_split hd]
      rw [flat_own hd] at n6
      rw [List.nodup_append, List.nodup_append] at n6 ⊢
      obtain ⟨m1, ⟨m2, m3, m4⟩, m5⟩ := n6
      have hin : ∀ q, (q ∈ (ds.take d).flatMap (fun d => blkOf d.sv) ∨ q ∈ (ds.drop (d + 1)).flatMap fun d => blkOf d.sv) → q ∈ ownR P D lv ds := fun q hq => by
        simp only [ownR, List.mem_cons, List.mem_append]
        refine .inr (.inr (.inr ?_))
        simp only [List.mem_flatMap] at hq ⊢
        rcases hq with ⟨y, hy, hq⟩ | ⟨y, hy, hq⟩
        · exact ⟨y, List.mem_of_mem_take hy, hq⟩
        · exact ⟨y, List.mem_of_mem_drop hy, hq⟩
      refine ⟨m1, ⟨hn, m3, ?_⟩, ?_⟩
      · rintro q hq r hr rfl; exact ho1 q hq (hin q (.inr hr))
      · intro q hq r hr
        rcases List.mem_append.1 hr with hr | hr
        · rintro rfl; exact ho1 q hr (hin q (.inl hq))
        · exact m5 q hq r (List.mem_append_right _ hr)
end
end Go.Proofs.Ytickckpndpeppaa
