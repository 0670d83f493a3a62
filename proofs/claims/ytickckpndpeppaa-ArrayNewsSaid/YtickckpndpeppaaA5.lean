/- Each operation of the model does what its abstract one says: reading, new memory, stores. -/
import Derived.Test.YtickckpndpeppaaA4
import Derived.Laws.IdiomCopy
import Derived.Laws.Append
set_option linter.unusedVariables false
set_option linter.unusedSimpArgs false
namespace Go.Abs
open Go Go.RowKit

variable {P : Program} {w0 w : World} {ι : List Loc} {H : AH}

theorem run_typeInfo {t : TypeId} {i : TypeInfo} (h : P.info? t = some i) (w : World) : (typeInfo t).run P w = .ok i w := by simp [typeInfo, h]

theorem sizeA_run {t : TypeId} {n : Nat} (h : sizeA P t = some n) (w : World) : (sizeOf t).run P w = .ok n w := by
  unfold sizeA at h
  cases hi : P.info? t with
  | none => rw [hi] at h; cases h
  | some i => rw [hi] at h; injection h with h; simp [sizeOf, typeInfo, hi, h]

theorem aggA_run {t : TypeId} {g : Bool} (h : aggA P t = some g) (w : World) : (isAgg t).run P w = .ok g w := by
  unfold aggA at h
  cases hu : P.underlying t with
  | none => rw [hu] at h; cases h
  | some d =>
    rw [hu] at h
    injection h with h
    subst h
    cases d <;> simp [isAgg, run_underlying hu, isAggD]

theorem zeroA_run {t : TypeId} {l : List AV} (h : zeroA P t = some l) (w : World) : ∃ z, (zeroValue t).run P w = .ok z w ∧ l = absL 0 z.cells.toList := by
  unfold zeroA at h
  cases hi : P.info? t with
  | none => rw [hi] at h; cases h
  | some i =>
    rw [hi] at h
    cases hz : i.zero with
    | none => simp [hz] at h
    | some z => simp [hz] at h; exact ⟨z, by simp [zeroValue, typeInfo, hi, hz], h.symm⟩

theorem absL_length (b : Nat) : ∀ l : List Value, (absL b l).length = l.length
  | [] => by simp [absL]
  | v :: l => by simp [absL, absL_length b l]

theorem aeval_ok {fr : AFr} {a : Act} (hf : RFr w0.heap.size ι fr a.tmps) (x : Operand) : RV w0.heap.size ι (aeval fr x) (a.eval x) := by
  cases x with
  | tmp t => exact hf t
  | const v => exact RV_abs ι (Nat.zero_le _) v
  | global g => unfold aeval RV; trivial
  | func f => unfold aeval RV; exact ⟨#[], rfl, by unfold RVL; rfl⟩

theorem cell_below (h : Rep w0 ι H w) {B k : Nat} {v : Value} (hB : B < w0.heap.size) (hc : w0.cell? ⟨B, k, none⟩ = some v) : w.cell? ⟨B, k, none⟩ = some v :=
  (h.below.cell (p := ⟨B, k, none⟩) hB).trans hc

/-- What lies at a pointer. -/
theorem Rep.at_ptr (h : Rep w0 ι H w) {a : AAddr} {v : Value} (hv : RPtr w0.heap.size ι a v) {cs : List AV} (hg : H.get a = some cs) :
    ∃ ad : Addr, v = .pointer (some ad) ∧ ad.spot = none ∧ ∀ j x, cs[a.off + j]? = some x → ∃ y, w.cell? (ad.add j) = some y ∧ RV w0.heap.size ι x y := by
  unfold RPtr at hv
  unfold AH.get at hg
  by_cases hr : a.ro = true
  · rw [if_pos hr] at hv hg
    injection hg with hg
    subst hg
    refine ⟨_, hv.2, rfl, fun j x hx => ?_⟩
    obtain ⟨y, h1, h2⟩ := h.ro a.blk hv.1 _ x hx
    refine ⟨y, ?_, h2 ▸ RV_abs ι (Nat.le_refl _) y⟩
    rw [Addr.add_lit]
    exact cell_below h hv.1 h1
  · rw [if_neg hr] at hv hg
    unfold AH.cells? at hg
    split at hg
    · rename_i l hl
      injection hg with hg
      subst hg
      rcases h.blk _ _ hl with h1 | ⟨h1, _⟩ | ⟨B, O, m, h1, h2⟩
      · rw [h1] at hv; exact hv.elim
      · rw [h1] at hv; exact hv.elim
      · rw [h1] at hv
        refine ⟨_, hv, rfl, fun j x hx => ?_⟩
        obtain ⟨c, e, fz, g1, g2, g3, g4⟩ := h2.cells
        obtain ⟨y, g5, g6⟩ := g4 _ x hx
        refine ⟨y, ?_, g6⟩
        rw [Addr.add_lit, cell_of_row w B _ c e fz g1, Nat.add_assoc]
        exact g5
    · cases hg

/-- What a slice's cells are. -/
theorem Rep.at_slice (h : Rep w0 ι H w) {a : AAddr} {n : Nat} {c : Cap} {v : Value} (hv : RSlice w0.heap.size ι a n c v) {cs : List AV} (hg : H.get a = some cs) :
    ∃ q C, v = .slice q n C ∧ (n = 0 ∨ ∃ ad : Addr, q = some ad ∧ ad.spot = none ∧ ∀ j x, cs[a.off + j]? = some x → ∃ y, w.cell? (ad.add j) = some y ∧ RV w0.heap.size ι x y) := by
  unfold RSlice at hv
  unfold AH.get at hg
  by_cases hr : a.ro = true
  · rw [if_pos hr] at hv hg
    injection hg with hg
    subst hg
    obtain ⟨c', _, hnc, ⟨hB, hv⟩ | ⟨hc0, p, hv⟩⟩ := hv
    rotate_left
    · have hn0 : n = 0 := by omega
      exact ⟨some p, 0, by rw [hn0]; exact hv, .inl hn0⟩
    refine ⟨_, _, hv, .inr ⟨_, rfl, rfl, fun j x hx => ?_⟩⟩
    obtain ⟨y, h1, h2⟩ := h.ro a.blk hB _ x hx
    refine ⟨y, ?_, h2 ▸ RV_abs ι (Nat.le_refl _) y⟩
    rw [Addr.add_lit]
    exact cell_below h hB h1
  · rw [if_neg hr] at hv hg
    unfold AH.cells? at hg
    split at hg
    · rename_i l hl
      injection hg with hg
      subst hg
      rcases h.blk _ _ hl with h1 | ⟨h1, _⟩ | ⟨B, O, m, h1, h2⟩
      · rw [h1] at hv; exact hv.elim
      · rw [h1] at hv
        obtain ⟨hn, ⟨q, hq⟩, _⟩ := hv
        exact ⟨q, 0, by rw [hn]; exact hq, .inl hn⟩
      · rw [h1] at hv
        have key : ∀ j x, l[a.off + j]? = some x → ∃ y, w.cell? ((⟨B, O + a.off, none⟩ : Addr).add j) = some y ∧ RV w0.heap.size ι x y := fun j x hx => by
          obtain ⟨c, e, fz, g1, g2, g3, g4⟩ := h2.cells
          obtain ⟨y, g5, g6⟩ := g4 _ x hx
          refine ⟨y, ?_, g6⟩
          rw [Addr.add_lit, cell_of_row w B _ c e fz g1, Nat.add_assoc]
          exact g5
        cases c with
        | known c =>
          obtain ⟨_, hv | ⟨hc, p, hv⟩⟩ := hv
          · exact ⟨_, _, hv, .inr ⟨_, rfl, rfl, key⟩⟩
          · have h0 : n = 0 := by omega
            exact ⟨some p, 0, by rw [h0]; exact hv, .inl h0⟩
        | grow sz =>
          rcases hv with ⟨C, _, _, hv⟩ | ⟨hn, p, hv⟩
          · exact ⟨_, _, hv, .inr ⟨_, rfl, rfl, key⟩⟩
          · exact ⟨some p, 0, by rw [hn]; exact hv, .inl hn⟩
    · cases hg

/-- A row of cells that are known, loaded. -/
theorem run_load_row {ad : Addr} {cs : List AV} (k : Nat) (hk : k ≤ cs.length) (hc : ∀ j x, cs[j]? = some x → ∃ y, w.cell? (ad.add j) = some y ∧ RV w0.heap.size ι x y) :
    ∃ ys : List Value, (loadCells ad k).run P w = .ok ys.toArray w ∧ RVL w0.heap.size ι (cs.take k) ys ∧ ∀ j y, ys[j]? = some y → w.cell? (ad.add j) = some y := by
  have hex : ∀ k, k ≤ cs.length → ∃ ys : List Value, ys.length = k ∧ RVL w0.heap.size ι (cs.take k) ys ∧ ∀ j y, ys[j]? = some y → w.cell? (ad.add j) = some y := by
    intro k
    induction k with
    | zero => exact fun _ => ⟨[], rfl, by simp [RVL], fun j y h => by simp at h⟩
    | succ k ih =>
      intro hk
      obtain ⟨ys, h1, h2, h3⟩ := ih (by omega)
      have hlt : k < cs.length := by omega
      obtain ⟨y, h4, h5⟩ := hc k cs[k] (List.getElem?_eq_getElem hlt)
      refine ⟨ys ++ [y], by simp [h1], ?_, fun j z hz => ?_⟩
      · rw [List.take_succ_eq_append_getElem hlt]
        exact RVL.append h2 (by simp only [RVL]; exact ⟨y, [], rfl, h5, rfl⟩)
      · rcases get_app hz with hz | ⟨rfl, rfl⟩
        · exact h3 j z hz
        · rw [h1]; exact h4
  obtain ⟨ys, h1, h2, h3⟩ := hex k hk
  refine ⟨ys, ?_, h2, h3⟩
  have := run_loadCells_list (P := P) w ad ys h3
  rwa [h1] at this

theorem partA_run {t : TypeId} {cs : List AV} {off : Nat} {v : AV} (h : partA P t cs off = some v) {ys : Array Value} (hy : RVL w0.heap.size ι cs ys.toList) (w : World) :
    ∃ x, (part t ys off).run P w = .ok x w ∧ RV w0.heap.size ι v x := by
  unfold partA at h
  cases hg : aggA P t with
  | none => rw [hg] at h; cases h
  | some g =>
    rw [hg] at h
    simp only [Option.bind_some] at h
    cases g with
    | true =>
      simp only [if_true] at h
      cases hs : sizeA P t with
      | none => rw [hs] at h; cases h
      | some n =>
        rw [hs] at h
        simp only [Option.bind_some] at h
        split at h
        · rename_i hle
          injection h with h
          subst h
          refine ⟨.agg (ys.extract off (off + n)), by simp [part, aggA_run hg, sizeA_run hs], ?_⟩
          unfold RV
          refine ⟨_, rfl, ?_⟩
          have : (ys.extract off (off + n)).toList = (ys.toList.drop off).take n := by simp
          rw [this]
          exact (hy.drop off).take n
        · cases h
    | false =>
      simp only [Bool.false_eq_true, if_false] at h
      obtain ⟨x, h1, h2⟩ := hy.get h
      refine ⟨x, ?_, h2⟩
      have h1' : ys[off]? = some x := by rw [← Array.getElem?_toList]; exact h1
      simp [part, aggA_run hg, h1']

theorem loadA_run (h : Rep w0 ι H w) {t : TypeId} {a : AAddr} {v : AV} (hl : loadA P t a H = some v) {p : Value} (hp : RPtr w0.heap.size ι a p) :
    ∃ x, (Instr.loadAt t p).run P w = .ok x w ∧ RV w0.heap.size ι v x := by
  unfold loadA at hl
  cases hg : H.get a with
  | none => rw [hg] at hl; cases hl
  | some cs =>
    rw [hg] at hl
    simp only [Option.bind_some] at hl
    obtain ⟨ad, rfl, hs0, hc⟩ := h.at_ptr hp hg
    unfold partA at hl
    cases hag : aggA P t with
    | none => rw [hag] at hl; cases hl
    | some g =>
      rw [hag] at hl
      simp only [Option.bind_some] at hl
      cases g with
      | true =>
        simp only [if_true] at hl
        cases hs : sizeA P t with
        | none => rw [hs] at hl; cases hl
        | some n =>
          rw [hs] at hl
          simp only [Option.bind_some] at hl
          split at hl
          · rename_i hle
            injection hl with hl
            subst hl
            obtain ⟨ys, h1, h2, _⟩ := run_load_row (P := P) (w := w) (w0 := w0) (ι := ι) (ad := ad) (cs := cs.drop a.off) n (by simp; omega) (fun j x hx => hc j x (by rwa [List.getElem?_drop] at hx))
            refine ⟨.agg ys.toArray, by simp [Instr.loadAt, Instr.sureAddr, loadVar, aggA_run hag, sizeA_run hs, h1], ?_⟩
            unfold RV
            exact ⟨_, rfl, by simpa using h2⟩
          · cases hl
      | false =>
        simp only [Bool.false_eq_true, if_false] at hl
        obtain ⟨y, h1, h2⟩ := hc 0 v (by simpa using hl)
        refine ⟨y, ?_, h2⟩
        have h1' : w.cell? ad = some y := by simpa [Addr.add] using h1
        simp [Instr.loadAt, Instr.sureAddr, loadVar, aggA_run hag, h1']

theorem oneA_cell {v : AV} {x : Value} (h1 : oneA v = true) (hv : RV w0.heap.size ι v x) : x.oneCell' = true := by
  cases v <;> simp only [oneA, Bool.false_eq_true] at h1 <;> unfold RV at hv
  all_goals first | (subst hv; rfl) | skip
  · unfold RPtr at hv
    split at hv
    · rw [hv.2]; rfl
    · split at hv
      · rw [hv]; rfl
      · obtain ⟨p, hv⟩ := hv; rw [hv]; rfl
      · exact hv.elim
  · unfold RSlice at hv
    split at hv
    · obtain ⟨c', _, _, ⟨_, hv⟩ | ⟨_, p, hv⟩⟩ := hv <;> (rw [hv]; rfl)
    · split at hv
      · unfold RSliceAt at hv
        split at hv
        · obtain ⟨_, hv | ⟨hc, p, hv⟩⟩ := hv <;> (rw [hv]; rfl)
        · rcases hv with ⟨C, _, _, hv⟩ | ⟨hn, p, hv⟩ <;> (rw [hv]; rfl)
      · obtain ⟨_, ⟨q, hq⟩, _⟩ := hv; rw [hq]; rfl
      · obtain ⟨q, C, hq, _⟩ := hv; rw [hq]; rfl
      · exact hv.elim
  · obtain ⟨cs, hv, _⟩ := hv; rw [hv]; rfl
  · obtain ⟨y, hv, _⟩ := hv; rw [hv]; rfl
  · unfold RMap at hv
    split at hv
    · rw [hv]; rfl
    · obtain ⟨p, hv⟩ := hv; rw [hv]; rfl
    · exact hv.elim

theorem cells?_some {H : AH} {i : Nat} {l : List AV} (h : H.cells? i = some l) : H.rw[i]? = some (some (.cells l)) := by
  unfold AH.cells? at h
  split at h
  · rename_i l' hl; injection h with h; subst h; exact hl
  · cases h

/-- Cells stored one behind the other. -/
theorem storeCellsA_run : ∀ (vs : List AV) (ys : List Value) {H H' : AH} {w : World} {i o B O m k : Nat}, Rep w0 ι H w → storeCellsA H i (o + k) vs = some H' → ι[i]? = some (.at B O m) → RVL w0.heap.size ι vs ys →
    ∃ w', (storeCells ⟨B, O + o, none⟩ ys k).run P w = .ok () w' ∧ Rep w0 ι H' w' ∧ Ext ι H w ι H' w'
  | [], ys, H, H', w, i, o, B, O, m, k, h, hs, hι, hy => by
    unfold RVL at hy
    subst hy
    simp only [storeCellsA] at hs
    injection hs with hs
    subst hs
    exact ⟨w, rfl, h, Ext.refl _ _ _⟩
  | v :: vs, ys, H, H', w, i, o, B, O, m, k, h, hs, hι, hy => by
    unfold RVL at hy
    obtain ⟨y, ys', rfl, hy1, hy2⟩ := hy
    simp only [storeCellsA] at hs
    split at hs
    · rename_i h1
      cases hc : H.cells? i with
      | none => rw [hc] at hs; cases hs
      | some l =>
        rw [hc] at hs
        simp only [Option.bind_some] at hs
        split at hs
        · rename_i hlt
          have hrw := cells?_some hc
          have hblk : RBlk w0.heap.size ι l B O m w := by
            rcases h.blk i l hrw with g1 | ⟨g1, _⟩ | ⟨B', O', m', g1, g2⟩
            · rw [hι] at g1; cases g1
            · rw [hι] at g1; cases g1
            · rw [hι] at g1; injection g1 with g1; injection g1 with e1 e2 e3; subst e1 e2 e3; exact g2
          obtain ⟨cs, e, fz, g1, g2, g3, g4⟩ := hblk.cells
          obtain ⟨hR, hE⟩ := h.setCell (k := o + k) (x := y) (l' := l.set (o + k) v) hrw hι (by omega) (by simpa using g3) (fun j x hj => by
            rw [List.getElem?_set] at hj
            by_cases e : o + k = j
            · rw [if_pos e, if_pos hlt] at hj; injection hj with hj; subst hj; exact .inl ⟨e.symm, hy1⟩
            · rw [if_neg e] at hj; exact .inr ⟨fun e' => e e'.symm, hj⟩)
          have hone := oneA_cell h1 hy1
          have hcell : w.cell? ⟨B, O + (o + k), none⟩ = cs[O + (o + k)]? := cell_of_row w B _ cs e fz g1
          have hin : O + (o + k) < cs.size := by omega
          rw [Array.getElem?_eq_getElem hin] at hcell
          have hfro := hblk.free (O + (o + k)) (by omega) (by omega)
          have hst : (store ((⟨B, O + o, none⟩ : Addr).add k) y).run P w = .ok () (w.setCell ⟨B, O + (o + k), none⟩ y) := by
            rw [Addr.add_lit, Nat.add_assoc, run_store P w _ y _ hone, hcell]
            simp [hfro]
          obtain ⟨w', r1, r2, r3⟩ := storeCellsA_run vs ys' (o := o) (k := k + 1) hR (by rw [← Nat.add_assoc]; exact hs) hι hy2
          exact ⟨w', by simp only [storeCells, Sem.run_bind, hst, Result.andThen_ok]; exact r1, r2, hE.trans r3⟩
        · cases hs
    · cases hs

theorem cellsA_run {v : AV} {l : List AV} {x : Value} (h : cellsA v = some l) (hv : RV w0.heap.size ι v x) : RVL w0.heap.size ι l x.cells.toList := by
  have one : ∀ u : AV, oneA u = true → RV w0.heap.size ι u x → RVL w0.heap.size ι [u] x.cells.toList := fun u h1 hu => by
    have hx := oneA_cell h1 hu
    simp only [RVL]
    refine ⟨x, [], ?_, hu, rfl⟩
    cases x <;> first | rfl | (simp [Value.oneCell'] at hx)
  cases v <;> simp only [cellsA] at h
  all_goals first | (cases h; done) | (injection h with h; subst h; first | exact one _ rfl hv | (unfold RV at hv; obtain ⟨cs, hc, hl⟩ := hv; rw [hc]; exact hl))

theorem storeA_run (h : Rep w0 ι H w) {t : TypeId} {a : AAddr} {v : AV} {H' : AH} (hs : storeA P t a v H = some H') {p x : Value} (hp : RPtr w0.heap.size ι a p) (hx : RV w0.heap.size ι v x) :
    ∃ w', (Instr.storeAt t p x).run P w = .ok () w' ∧ Rep w0 ι H' w' ∧ Ext ι H w ι H' w' := by
  unfold storeA at hs
  cases hc : cellsA v with
  | none => rw [hc] at hs; cases hs
  | some vs =>
    rw [hc] at hs
    simp only [Option.bind_some] at hs
    split at hs
    · rename_i hh
      obtain ⟨h1, h2⟩ := hh
      have hl := cellsA_run hc hx
      unfold RPtr at hp
      rw [if_neg (by rw [h2]; simp)] at hp
      have hsz : x.cells.size = vs.length := by have := hl.length; simpa using this
      by_cases he : vs = []
      · subst he
        simp only [storeCellsA] at hs
        injection hs with hs
        subst hs
        have hx0 : x.cells.toList = [] := by unfold RVL at hl; exact hl
        have hpp : ∃ ad, p = .pointer (some ad) := by
          split at hp
          · exact ⟨_, hp⟩
          · exact hp
          · exact hp.elim
        obtain ⟨ad, rfl⟩ := hpp
        refine ⟨w, ?_, h, Ext.refl _ _ _⟩
        simp [Instr.storeAt, Instr.sureAddr, storeVar, sizeA_run h1, hsz, hx0, storeCells]
      · have hal : ∃ B O m, ι[a.blk]? = some (.at B O m) := by
          cases vs with
          | nil => exact absurd rfl he
          | cons u vs =>
            simp only [storeCellsA] at hs
            split at hs
            · cases hc' : H.cells? a.blk with
              | none => rw [hc'] at hs; cases hs
              | some l =>
                rcases h.blk _ _ (cells?_some hc') with g1 | ⟨g1, rfl⟩ | ⟨B, O, m, g1, _⟩
                · rw [g1] at hp; exact hp.elim
                · rw [hc'] at hs; simp at hs
                · exact ⟨B, O, m, g1⟩
            · cases hs
        obtain ⟨B, O, m, hι⟩ := hal
        rw [hι] at hp
        subst hp
        obtain ⟨w', r1, r2, r3⟩ := storeCellsA_run (P := P) vs x.cells.toList (o := a.off) (k := 0) h (by simpa using hs) hι hl
        refine ⟨w', ?_, r2, r3⟩
        simp [Instr.storeAt, Instr.sureAddr, storeVar, sizeA_run h1, hsz, r1]
    · cases hs

end Go.Abs
