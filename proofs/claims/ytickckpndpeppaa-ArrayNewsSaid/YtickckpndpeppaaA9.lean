/- Each operation of the model does what its abstract one says: build, make, conversions, append, copy. -/
import Derived.Test.YtickckpndpeppaaA8
import Derived.IntWalk
set_option linter.unusedVariables false
set_option linter.unusedSimpArgs false
namespace Go.Abs
open Go Go.RowKit

variable {P : Program} {w0 w : World} {ι : List Loc} {H : AH}

theorem placesA_run (w : World) : ∀ (l : List Field) {r : List (Nat × Nat)}, placesA P l = some r → (l.mapM (fun f => do pure (f.offset, ← sizeOf f.type) : Field → Sem (Nat × Nat))).run P w = .ok r w
  | [], r, h => by simp only [placesA] at h; injection h with h; subst h; rfl
  | f :: l, r, h => by
    simp only [placesA] at h
    cases hs : sizeA P f.type with
    | none => rw [hs] at h; cases h
    | some n =>
      rw [hs] at h
      simp only [Option.bind_some] at h
      cases hr : placesA P l with
      | none => rw [hr] at h; cases h
      | some r' =>
        rw [hr] at h
        injection h with h
        subst h
        rw [List.mapM_cons]
        have ih := placesA_run w l hr
        simp only [Sem.run_bind, sizeA_run hs, Result.andThen_ok, Sem.run_pure] at ih ⊢
        rw [ih]
        rfl

theorem buildA_run {t : TypeId} {ps : List (Nat × AV)} {v : AV} (h : buildA P t ps = some v) {qs : Array (Nat × Value)} (hl : qs.toList.length = ps.length)
    (hp : ∀ (j : Nat) (p : Nat × AV), ps[j]? = some p → ∃ x, qs.toList[j]? = some (p.1, x) ∧ RV w0.heap.size ι p.2 x) (w : World) :
    ∃ z, (Instr.build t qs).run P w = .ok z w ∧ RV w0.heap.size ι v z := by
  unfold buildA at h
  cases hz : zeroA P t with
  | none => rw [hz] at h; cases h
  | some zero =>
    rw [hz] at h
    simp only [Option.bind_some] at h
    obtain ⟨z, hzr, rfl⟩ := zeroA_run hz w
    have hz0 := RVL_zero (b := w0.heap.size) (ι := ι) z.cells
    split at h
    · rename_i fields hd
      cases hpl : placesA P fields.toList with
      | none => rw [hpl] at h; cases h
      | some pl =>
      rw [hpl] at h
      simp only [Option.bind_some] at h
      cases hf : fillA (fun i => pl[i]?) (absL 0 z.cells.toList) ps with
      | none => rw [hf] at h; cases h
      | some r =>
        rw [hf] at h
        injection h with h
        subst h
        obtain ⟨cs', r1, r2⟩ := fillA_run ps qs.toList hf hl hp hz0 (fun h1 h2 => cellsA_run h1 h2)
        refine ⟨.agg cs', ?_, by unfold RV; exact ⟨_, rfl, r2⟩⟩
        have hm := placesA_run w fields.toList hpl
        have hr1 : Instr.fill (fun i => pl.toArray[i]?) z.cells qs.toList = some cs' := by simpa using r1
        simp only [Instr.build, Sem.run_bind, hzr, Result.andThen_ok, run_underlying hd, Array.mapM_eq_mapM_toList, Sem.run_map]
        rw [hm]
        simp only [Result.andThen_ok]
        rw [hr1]
        rfl
    · rename_i n elem hd
      cases hs : sizeA P elem with
      | none => rw [hs] at h; cases h
      | some size =>
        rw [hs] at h
        simp only [Option.bind_some] at h
        cases hf : fillA (fun i => some (i * size, size)) (absL 0 z.cells.toList) ps with
        | none => rw [hf] at h; cases h
        | some r =>
          rw [hf] at h
          injection h with h
          subst h
          obtain ⟨cs', r1, r2⟩ := fillA_run ps qs.toList hf hl hp hz0 (fun h1 h2 => cellsA_run h1 h2)
          exact ⟨.agg cs', by simp [Instr.build, hzr, run_underlying hd, sizeA_run hs, r1], by unfold RV; exact ⟨_, rfl, r2⟩⟩
    · cases h

theorem known_new {k : Nat} (hn : ι[H.n]? = some (.at w.heap.size 0 k)) (n c : Nat) (hc : n ≤ c) :
    RV w0.heap.size ι (.slice ⟨false, H.n, 0⟩ n (.known c)) (.slice (some ⟨w.heap.size, 0, none⟩) n c) := by
  unfold RV RSlice
  simp only [Bool.false_eq_true, if_false]
  rw [hn]
  exact ⟨hc, .inl rfl⟩

theorem buildSliceA_run (h : Rep w0 ι H w) {t : TypeId} {n : Nat} {ps : List (Nat × AV)} {v : AV} {H' : AH} (hb : buildSliceA P t n ps H = some (v, H')) {qs : Array (Nat × Value)} (hl : qs.toList.length = ps.length)
    (hp : ∀ (j : Nat) (p : Nat × AV), ps[j]? = some p → ∃ x, qs.toList[j]? = some (p.1, x) ∧ RV w0.heap.size ι p.2 x) :
    ∃ z w' ι', (Instr.buildSlice t n qs).run P w = .ok z w' ∧ RV w0.heap.size ι' v z ∧ Rep w0 ι' H' w' ∧ Ext ι H w ι' H' w' := by
  unfold buildSliceA at hb
  split at hb
  · rename_i elem hd
    cases hs : sizeA P elem with
    | none => rw [hs] at hb; cases hb
    | some size =>
      rw [hs] at hb
      simp only [Option.bind_some] at hb
      cases hz : zeroA P elem with
      | none => rw [hz] at hb; cases hb
      | some zero =>
        rw [hz] at hb
        simp only [Option.bind_some] at hb
        split at hb
        · rename_i hh
          obtain ⟨h1, h2, h3⟩ := hh
          cases hf : fillA (fun i => some (i * size, size)) (repA zero n) ps with
          | none => rw [hf] at hb; cases hb
          | some cells =>
            rw [hf] at hb
            injection hb with hb
            injection hb with e1 e2
            subst e1 e2
            obtain ⟨z, hzr, rfl⟩ := zeroA_run hz w
            have hz0 := RVL_zero (b := w0.heap.size) (ι := ι) z.cells
            have hzs : z.cells.size = size := by rw [← h2, absL_length]; simp
            have hrep := repA_rel hz0 (by omega) n
            rw [hzs] at hrep
            obtain ⟨cs', r1, r2⟩ := fillA_run ps qs.toList hf hl hp hrep (fun h1 h2 => cellsA_run h1 h2)
            obtain ⟨ι', g1, g2, g3, g4⟩ := newA_run h elem r2
            refine ⟨_, _, ι', ?_, known_new g4 n n (Nat.le_refl _), g1, g2⟩
            have hle : ¬ (16777216 < n * size) := by omega
            by_cases h0 : n * size = 0
            · have hn0 : n = 0 := by
                rcases Nat.mul_eq_zero.1 h0 with h | h
                · exact h
                · omega
              subst hn0
              simp [Instr.buildSlice, run_underlying hd, sizeA_run hs, newRow, Array.range_zero'] at r1 ⊢
              rw [r1]; rfl
            · simp [Instr.buildSlice, run_underlying hd, sizeA_run hs, hle, h0, hzr, hzs, r1, newRow]
        · cases hb
  · cases hb

theorem bytesA_run {t : TypeId} {n : Nat} (h : bytesA P t = some n) : ∃ i, P.info? t = some i ∧ i.bytes = n := by
  unfold bytesA at h
  cases hi : P.info? t with
  | none => rw [hi] at h; cases h
  | some i => rw [hi] at h; injection h with h; exact ⟨i, rfl, h⟩

theorem wrap_small {n : Int} (h0 : 0 ≤ n) (h1 : n ≤ 140737488355328) : IntKind.i64.wrap n = n := IntWalk.i64_in n (by omega)

theorem makeSliceA_run (h : Rep w0 ι H w) {t : TypeId} {x y v : AV} {H' : AH} (hm : makeSliceA P t x y H = some (v, H')) {u s : Value} (hu : RV w0.heap.size ι x u) (hs' : RV w0.heap.size ι y s) :
    ∃ z w' ι', (Instr.makeSlice t u s).run P w = .ok z w' ∧ RV w0.heap.size ι' v z ∧ Rep w0 ι' H' w' ∧ Ext ι H w ι' H' w' := by
  unfold makeSliceA at hm
  split at hm
  · rename_i elem kl l kc c hd
    unfold RV at hu hs'
    subst hu hs'
    cases hs : sizeA P elem with
    | none => rw [hs] at hm; cases hm
    | some size =>
      rw [hs] at hm
      simp only [Option.bind_some] at hm
      cases hby : bytesA P elem with
      | none => rw [hby] at hm; cases hm
      | some bytes =>
        rw [hby] at hm
        simp only [Option.bind_some] at hm
        cases hz : zeroA P elem with
        | none => rw [hz] at hm; cases hm
        | some zero =>
          rw [hz] at hm
          simp only [Option.bind_some] at hm
          split at hm
          · rename_i hh
            obtain ⟨h1, h2, h3, h4, h5, h6⟩ := hh
            injection hm with hm
            injection hm with e1 e2
            subst e1 e2
            obtain ⟨i, hi, rfl⟩ := bytesA_run hby
            obtain ⟨z, hzr, rfl⟩ := zeroA_run hz w
            have hz0 := RVL_zero (b := w0.heap.size) (ι := ι) z.cells
            have hzs : z.cells.size = size := by rw [← h5, absL_length]; simp
            have hrep := repA_rel hz0 (by omega) c.toNat
            rw [hzs] at hrep
            obtain ⟨ι', g1, g2, g3, g4⟩ := newA_run h elem hrep
            refine ⟨_, _, ι', ?_, known_new g4 l.toNat c.toNat (by omega), g1, g2⟩
            have hwl := wrap_small h1 (by omega)
            have hwc := wrap_small (n := c) (by omega) h3
            have ht1 : ¬ (c < 0) := by omega
            have ht2 : ¬ (281474976710656 < (i.bytes : Int) * c) := by rw [Int.mul_comm]; omega
            have ht3 : ¬ (l < 0) := by omega
            have ht4 : ¬ (c < l) := by omega
            by_cases h0 : c.toNat * size = 0
            · have hc0 : c.toNat = 0 := by
                rcases Nat.mul_eq_zero.1 h0 with h | h
                · exact h
                · omega
              simp [Instr.makeSlice, run_underlying hd, asInt, asIntOf, run_typeInfo hi, hwl, hwc, ht1, ht2, ht3, ht4, sizeA_run hs, h0, newRow, Array.range_zero']
            · simp [Instr.makeSlice, run_underlying hd, asInt, asIntOf, run_typeInfo hi, hwl, hwc, ht1, ht2, ht3, ht4, sizeA_run hs, h0, hzr, hzs, newRow]
          · cases hm
  · cases hm

end Go.Abs
