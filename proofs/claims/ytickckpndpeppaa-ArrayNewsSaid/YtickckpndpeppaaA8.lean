/- Each operation of the model does what its abstract one says: new memory, append, copy, conversions; and all of them in one. -/
import Derived.Test.YtickckpndpeppaaA7
set_option linter.unusedVariables false
set_option linter.unusedSimpArgs false
namespace Go.Abs
open Go Go.RowKit

variable {P : Program} {w0 w : World} {ι : List Loc} {H : AH}

theorem RVL.of_array {b : Nat} {l : List AV} {cs : Array Value} (h : RVL b ι l cs.toList) : l.length = cs.size ∧ ∀ (k : Nat) (v : AV), l[k]? = some v → ∃ x, cs[k]? = some x ∧ RV b ι v x :=
  ⟨by rw [← h.length]; simp, fun k v hk => by obtain ⟨x, h1, h2⟩ := h.get hk; exact ⟨x, by rw [← Array.getElem?_toList]; exact h1, h2⟩⟩

/-- New memory of known cells, at a pointer. -/
theorem newA_run (h : Rep w0 ι H w) {l : List AV} {cs : Array Value} (e : TypeId) (hl : RVL w0.heap.size ι l cs.toList) :
    ∃ ι', Rep w0 ι' (H.push (some (.cells l))) (w.alloc (.cells cs e)) ∧ Ext ι H w ι' (H.push (some (.cells l))) (w.alloc (.cells cs e)) ∧
      RPtr w0.heap.size ι' ⟨false, H.n, 0⟩ (.pointer (some ⟨w.heap.size, 0, none⟩)) ∧ ι'[H.n]? = some (.at w.heap.size 0 cs.size) := by
  obtain ⟨h1, h2⟩ := hl.of_array
  obtain ⟨hR, hE⟩ := h.push e (Nat.le_of_eq h1) h2
  have hn : (ι ++ [Loc.at w.heap.size 0 cs.size])[H.n]? = some (.at w.heap.size 0 cs.size) := by
    unfold AH.n; rw [← h.len]; simp
  refine ⟨_, hR, hE, ?_, hn⟩
  unfold RPtr
  simp only [Bool.false_eq_true, if_false]
  rw [hn]

theorem RVL_zero {b : Nat} (z : Array Value) : RVL b ι (absL 0 z.toList) z.toList := RVL_abs ι (Nat.zero_le _) _

theorem repA_rel {b : Nat} {zs : List AV} {z : Array Value} (hz : RVL b ι zs z.toList) (hpos : 0 < z.size) (c : Nat) : RVL b ι (repA zs c) ((Array.range (c * z.size)).map (z[· % z.size]!)).toList := by
  have hlen : zs.length = z.size := (hz.of_array).1
  have hone : ∀ x, zs = [x] → RVL b ι (List.replicate c x) ((Array.range (c * z.size)).map (z[· % z.size]!)).toList := fun x hx => by
    have h1 : z.size = 1 := by rw [← hlen, hx]; rfl
    refine RVL.of_get (by simp [h1]) fun k v hk => ?_
    rw [List.getElem?_replicate] at hk
    split at hk
    · rename_i hkc
      injection hk with hk
      subst hk
      obtain ⟨y, g1, g2⟩ := hz.get (k := 0) (v := x) (by rw [hx]; rfl)
      have g1' : z[0]! = y := by rw [getElem!_def]; rw [Array.getElem?_toList] at g1; rw [g1]
      refine ⟨y, ?_, g2⟩
      rw [getElem!_pos z 0 hpos] at g1'
      simp [h1, hkc, Nat.mod_one, g1']
    · cases hk
  have hgen : RVL b ι ((List.range (c * zs.length)).map fun i => zs.getD (i % zs.length) .unk) ((Array.range (c * z.size)).map (z[· % z.size]!)).toList := by
    rw [hlen]
    refine RVL.of_get (by simp) fun k v hk => ?_
    rw [List.getElem?_map] at hk
    cases hr : (List.range (c * z.size))[k]? with
    | none => rw [hr] at hk; cases hk
    | some i =>
      rw [hr] at hk
      injection hk with hk
      have hki := lt_of_get hr
      simp at hki
      rw [List.getElem?_range hki] at hr
      injection hr with hr
      subst hr hk
      have hlt : k % z.size < zs.length := by rw [hlen]; exact Nat.mod_lt _ hpos
      obtain ⟨y, g1, g2⟩ := hz.get (k := k % z.size) (v := zs.getD (k % z.size) .unk) (by simp [List.getD, List.getElem?_eq_getElem hlt])
      have g1' : z[k % z.size]! = y := by rw [getElem!_def]; rw [Array.getElem?_toList] at g1; rw [g1]
      refine ⟨y, ?_, g2⟩
      simp
      rw [List.getElem?_range hki]
      simp [g1']
  unfold repA
  split
  · exact hone _ rfl
  · exact hgen

theorem putAt_get : ∀ (vs : List AV) (cs : List AV) (o k : Nat), (putAt cs o vs)[k]? = if o ≤ k ∧ k < o + vs.length ∧ k < cs.length then vs[k - o]? else cs[k]?
  | [], cs, o, k => by simp [putAt]; intro h1 h2; omega
  | v :: vs, cs, o, k => by
    rw [putAt, putAt_get vs]
    simp only [List.length_set, List.length_cons, List.getElem?_set]
    by_cases h1 : o = k
    · subst h1
      have : ¬ (o + 1 ≤ o) := by omega
      simp [this]
      by_cases h2 : o < cs.length
      · simp [h2]
      · simp [h2]
    · by_cases h2 : o + 1 ≤ k ∧ k < o + 1 + vs.length ∧ k < cs.length
      · rw [if_pos h2, if_pos (by omega)]
        rw [show k - o = (k - (o + 1)) + 1 by omega]
        simp
      · rw [if_neg h2, if_neg h1, if_neg (by omega)]

theorem putAt_length : ∀ (vs : List AV) (cs : List AV) (o : Nat), (putAt cs o vs).length = cs.length
  | [], _, _ => rfl
  | v :: vs, cs, o => by rw [putAt, putAt_length vs]; simp

theorem foldl_set_get (vs : List Value) : ∀ (cs : Array Value) (o i k : Nat), ((vs.zipIdx i).foldl (fun cs (x : Value × Nat) => cs.setIfInBounds (o + x.2) x.1) cs)[k]? =
    if o + i ≤ k ∧ k < o + i + vs.length ∧ k < cs.size then vs[k - (o + i)]? else cs[k]? := by
  induction vs with
  | nil => intro cs o i k; simp; intro h1 h2; omega
  | cons v vs ih =>
    intro cs o i k
    rw [List.zipIdx_cons, List.foldl_cons, ih]
    simp only [Array.size_setIfInBounds, List.length_cons, Array.getElem?_setIfInBounds]
    by_cases h1 : o + i = k
    · subst h1
      have : ¬ (o + (i + 1) ≤ o + i) := by omega
      simp [this]
      by_cases h2 : o + i < cs.size
      · simp [h2]
      · simp [h2]
    · by_cases h2 : o + (i + 1) ≤ k ∧ k < o + (i + 1) + vs.length ∧ k < cs.size
      · rw [if_pos h2, if_pos (by omega)]
        rw [show k - (o + i) = (k - (o + (i + 1))) + 1 by omega]
        simp
      · rw [if_neg h2, if_neg h1, if_neg (by omega)]

theorem foldl_set_size (vs : List (Value × Nat)) : ∀ (cs : Array Value) (o : Nat), (vs.foldl (fun cs (x : Value × Nat) => cs.setIfInBounds (o + x.2) x.1) cs).size = cs.size := by
  induction vs with
  | nil => intro cs o; rfl
  | cons v vs ih => intro cs o; rw [List.foldl_cons, ih]; simp

theorem fillA_run {b : Nat} {place : Nat → Option (Nat × Nat)} : ∀ (ps : List (Nat × AV)) (qs : List (Nat × Value)) {cells r : List AV} {cs : Array Value}, fillA place cells ps = some r →
    qs.length = ps.length → (∀ (j : Nat) (p : Nat × AV), ps[j]? = some p → ∃ x, qs[j]? = some (p.1, x) ∧ RV b ι p.2 x) → RVL b ι cells cs.toList → (∀ {v : AV} {l : List AV} {x : Value}, cellsA v = some l → RV b ι v x → RVL b ι l x.cells.toList) →
    ∃ cs', Instr.fill place cs qs = some cs' ∧ RVL b ι r cs'.toList
  | [], qs, cells, r, cs, h, hl, hp, hc, hcells => by
    have : qs = [] := List.eq_nil_of_length_eq_zero (by simpa using hl)
    subst this
    simp only [fillA] at h
    injection h with h
    subst h
    exact ⟨cs, rfl, hc⟩
  | (i, v) :: ps, qs, cells, r, cs, h, hl, hp, hc, hcells => by
    cases qs with
    | nil => simp at hl
    | cons q qs =>
      obtain ⟨x, h1, h2⟩ := hp 0 (i, v) rfl
      simp at h1
      subst h1
      simp only [fillA] at h
      cases hpl : place i with
      | none => rw [hpl] at h; cases h
      | some p =>
        rw [hpl] at h
        simp only [Option.bind_some] at h
        cases hv : cellsA v with
        | none => rw [hv] at h; cases h
        | some vs =>
          rw [hv] at h
          simp only [Option.bind_some] at h
          split at h
          · rename_i hb
            have hx := hcells hv h2
            have hxl : x.cells.size = vs.length := by have := hx.length; simpa using this
            have hcl : cells.length = cs.size := (hc.of_array).1
            obtain ⟨p1, p2⟩ := p
            simp only at hb h
            have step : RVL b ι (putAt cells p1 vs) (x.cells.zipIdx.foldl (fun cs (y : Value × Nat) => cs.setIfInBounds (p1 + y.2) y.1) cs).toList := by
              rw [← Array.foldl_toList, Array.toList_zipIdx]
              refine RVL.of_get (by rw [putAt_length, hcl]; simp [foldl_set_size]) fun k u hk => ?_
              rw [putAt_get] at hk
              rw [Array.getElem?_toList, foldl_set_get]
              simp only [Nat.add_zero, Array.length_toList, hxl]
              by_cases hin : p1 ≤ k ∧ k < p1 + vs.length ∧ k < cells.length
              · rw [if_pos hin] at hk
                rw [if_pos (by omega)]
                exact hx.get hk
              · rw [if_neg hin] at hk
                rw [if_neg (by omega)]
                exact (hc.of_array).2 k u hk
            obtain ⟨cs', r1, r2⟩ := fillA_run ps qs h (by simpa using hl) (fun j q hj => by have := hp (j + 1) q (by simpa using hj); simpa using this) step hcells
            refine ⟨cs', ?_, r2⟩
            simp only [Instr.fill, hpl]
            rw [if_neg (by rw [← hcl, hxl]; simp; exact ⟨hb.1, by omega⟩)]
            exact r1
          · cases h

end Go.Abs
