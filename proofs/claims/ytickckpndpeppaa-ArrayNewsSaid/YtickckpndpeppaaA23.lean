/- Plain data that came in, of whatever type: what it is as abstract values. -/
import Derived.Test.YtickckpndpeppaaA22
import Derived.ChangeArms
import Derived.OpenShut
import Derived.DataReads
set_option linter.unusedVariables false
set_option linter.unusedSimpArgs false
namespace Go.Abs
open Go Go.RowKit Go.ChangeShapes Go.WideShapes

/-- These cells are a value of this type, as the memory stands. -/
def Dat (P : Program) (H : AH) : Nat → TypeId → List AV → Prop
  | 0, _, _ => False
  | n + 1, t, cs =>
    match P.underlying t with
    | some .bool => ∃ b, cs = [.bool b]
    | some (.int k) => ∃ a, cs = [.int k a] ∧ (Lit.int k a).wf = true
    | some .string => ∃ s : ByteArray, cs = [.str s] ∧ s.size ≤ 140737488351232
    | some (.slice e) => 0 < P.cellsOf e → ∃ v m row, cs = [v] ∧ Row H (P.cellsOf e) v m row ∧ m * P.bytesOf e ≤ 140737488351232 ∧ ∀ i, i < m → Dat P H n e ((row.drop (i * P.cellsOf e)).take (P.cellsOf e))
    | some (.struct fs) => cs.length = P.cellsOf t ∧ ∀ (i : Nat) (f : Field), fs[i]? = some f → Dat P H n f.type ((cs.drop f.offset).take (P.cellsOf f.type))
    | some (.array m e) => cs.length = P.cellsOf t ∧ ∀ i, i < m → Dat P H n e ((cs.drop (i * P.cellsOf e)).take (P.cellsOf e))
    | _ => True

theorem Dat.pos {P : Program} {H : AH} {n : Nat} {t : TypeId} {cs : List AV} (h : Dat P H n t cs) : ∃ m, n = m + 1 := by
  cases n with
  | zero => exact h.elim
  | succ m => exact ⟨m, rfl⟩

theorem absL_map (b : Nat) (l : List Value) : absL b l = l.map (absV b) := by
  apply List.ext_getElem?
  intro k
  rw [absL_get, List.getElem?_map]

theorem weights_all {H : Type} {P : Program} {e : TypeId} : ∀ {l : List (DataW H)} {d : DataW H}, d ∈ l → ∀ n ∈ d.weights P e, n ∈ DataW.weightsAll P e l
  | x :: l, d, hd, n, hn => by
    simp only [DataW.weightsAll, List.mem_append]
    rcases List.mem_cons.1 hd with rfl | h
    · exact .inl hn
    · exact .inr (weights_all h n hn)

theorem weights_each {H : Type} {P : Program} : ∀ {ts : List TypeId} {ds : List (DataW H)} {j : Nat} {t : TypeId} {d : DataW H}, ts[j]? = some t → ds[j]? = some d → ∀ n ∈ d.weights P t, n ∈ DataW.weightsEach P ts ds := DataW.weights_mem_each

theorem reach_le : reachBytes ≤ 140737488351232 := by decide

theorem absV_slice {b len cap : Nat} {a : Addr} (h0 : 0 < cap) (hl : len ≤ cap) (hb : a.block < b) (hs : a.spot = none) : absV b (.slice (some a) len cap) = .slice ⟨true, a.block, a.off⟩ len (.known cap) := by
  unfold absV
  rw [if_neg (by omega), absAddr_of hb hs]
  simp only
  rw [if_pos hl]

theorem spot_none {W : World} {a : Addr} {v : Value} (h : W.cell? a = some v) : a.spot = none := by
  unfold World.cell? at h
  split at h
  · cases hs : a.spot with
    | none => rfl
    | some s => rw [hs] at h; simp at h
  · cases h

/-- A slice that came in, its cells one behind the other. -/
theorem row_in {W : World} {a : Addr} {len cap sz : Nat} {cell : Nat → Nat → Value} (hsz : 0 < sz) (hl : len ≤ cap) (h : ∀ i, i < cap → ∀ j, j < sz → W.cell? (a.add (i * sz + j)) = some (cell i j)) :
    ∃ row, Row (AH.init W) sz (absV W.heap.size (.slice (some a) len cap)) len row ∧ ∀ i, i < len → (row.drop (i * sz)).take sz = (List.range sz).map fun j => absV W.heap.size (cell i j) := by
  by_cases h0 : cap = 0
  · subst h0
    obtain rfl : len = 0 := by omega
    refine ⟨[], ⟨?_, ?_, ?_⟩, fun i hi => by omega⟩ <;> simp [absV, rowA, slen, okSl, AH.get]
  · have hc0 := h 0 (by omega) 0 hsz
    rw [Nat.zero_mul, Nat.zero_add, Addr.add_zero'] at hc0
    have hblk := World.block_lt_of_cell? W a hc0
    have hsp := spot_none hc0
    obtain ⟨B, off, spot⟩ := a
    simp only at hsp hblk
    subst hsp
    have hget : ∀ i, i < cap → ∀ j, j < sz → ((AH.init W).ro B)[off + (i * sz + j)]? = some (absV W.heap.size (cell i j)) := fun i hi j hj => by
      have := h i hi j hj
      rw [Addr.add_lit] at this
      exact init_get this
    have hlast := lt_of_get (hget (cap - 1) (by omega) (sz - 1) (by omega))
    have hmul : (cap - 1) * sz + sz = cap * sz := by
      have : cap - 1 + 1 = cap := by omega
      conv => rhs; rw [← this, Nat.add_mul, Nat.one_mul]
    have hle : len * sz ≤ cap * sz := Nat.mul_le_mul_right _ hl
    refine ⟨(((AH.init W).ro B).drop off).take (len * sz), ⟨?_, ?_, ?_⟩, fun i hi => ?_⟩
    · rw [absV_slice (by omega) hl hblk rfl]
      simp only [rowA, AH.get, if_true, Option.bind_some]
      rw [if_pos (.inl (by omega))]
    · rw [absV_slice (by omega) hl hblk rfl]; rfl
    · rw [absV_slice (by omega) hl hblk rfl]; simp [okSl, hl]
    · have hi' : i * sz + sz ≤ len * sz := by
        have := Nat.mul_le_mul_right sz (show i + 1 ≤ len from hi)
        rwa [Nat.add_mul, Nat.one_mul] at this
      apply List.ext_getElem?
      intro j
      rw [List.getElem?_take, List.getElem?_drop, List.getElem?_take, List.getElem?_drop, List.getElem?_map]
      by_cases hj : j < sz
      · rw [if_pos hj, if_pos (by omega), hget i (by omega) j hj]
        simp [hj]
      · rw [if_neg hj]
        simp [hj]

theorem dat_of {T : Type} {enc : TypeId × Value → T} {P : Program} {W : World} : ∀ (fuel : Nat) {t : TypeId} {cs : List Value} {x : DataW T × List MemPlace}, DataW.trod enc P W 0 (fun _ => true) true fuel t cs = some x → (x.1.weights P t).all (· ≤ reachBytes) = true →
    Dat P (AH.init W) fuel t (absL W.heap.size cs)
  | 0, t, cs, x, h, _ => by simp [DataW.trod] at h
  | fuel + 1, t, cs, x, h, hw => by
    unfold Dat
    split
    · rename_i hu
      unfold DataW.trod at h
      rw [hu] at h
      split at h <;> simp_all
      rename_i b _
      cases b <;> simp [absL, absV]
    · rename_i k hu
      unfold DataW.trod at h
      rw [hu] at h
      split at h <;> simp_all
      obtain ⟨⟨rfl, h1⟩, _⟩ := h
      exact ⟨_, by simp only [absL, absV], h1⟩
    · rename_i hu
      unfold DataW.trod at h
      rw [hu] at h
      split at h <;> simp_all
      rename_i s
      obtain ⟨h1, rfl⟩ := h
      refine ⟨s, by simp only [absL, absV], ?_⟩
      simp [DataW.weights] at hw
      have := reach_le
      have e : s.data.size = s.size := rfl
      omega
    · rename_i e hu
      intro hsz
      rcases DataW.trod_slice hu h with ⟨rfl, rfl⟩ | ⟨a, len, cap, elems, rest, n, hn, rfl, rfl, hb, hl, hm, hlen, hel, hsp, _⟩
      · exact ⟨.nilslice, 0, [], by simp [absL, absV], Row.nil _ _, by simp, fun i hi => by omega⟩
      · obtain rfl : fuel = n := by omega
        obtain ⟨hrl, hr⟩ := hsp rfl
        have every : ∀ i, i < cap → ∃ l y, W.cells? 0 (a.add (i * P.cellsOf e)) (P.cellsOf e) = some l ∧ DataW.trod enc P W 0 (fun _ => true) true fuel e l = some y ∧ (elems ++ rest)[i]? = some y := fun i hi => by
          by_cases h1 : i < len
          · have h2 := hel i h1
            have h3 : ∃ y, elems[i]? = some y := ⟨_, List.getElem?_eq_getElem (by omega)⟩
            obtain ⟨y, h3⟩ := h3
            rw [h3] at h2
            obtain ⟨l, h4, h5⟩ := Option.bind_eq_some_iff.1 h2
            exact ⟨l, y, h4, h5, by rw [List.getElem?_append_left (by omega)]; exact h3⟩
          · have h2 := hr (i - len) (by omega)
            have h3 : ∃ y, rest[i - len]? = some y := ⟨_, List.getElem?_eq_getElem (by omega)⟩
            obtain ⟨y, h3⟩ := h3
            rw [h3, show len + (i - len) = i by omega] at h2
            obtain ⟨l, h4, h5⟩ := Option.bind_eq_some_iff.1 h2
            exact ⟨l, y, h4, h5, by rw [List.getElem?_append_right (by omega), hlen]; exact h3⟩
        have hcell : ∃ cell : Nat → List Value, ∀ i, i < cap → W.cells? 0 (a.add (i * P.cellsOf e)) (P.cellsOf e) = some (cell i) ∧ ∃ y, DataW.trod enc P W 0 (fun _ => true) true fuel e (cell i) = some y ∧ (elems ++ rest)[i]? = some y := by
          refine ⟨fun i => (W.cells? 0 (a.add (i * P.cellsOf e)) (P.cellsOf e)).getD [], fun i hi => ?_⟩
          obtain ⟨l, y, h1, h2, h3⟩ := every i hi
          simp only [h1, Option.getD_some]
          exact ⟨trivial, y, h2, h3⟩
        obtain ⟨cell, hcell⟩ := hcell
        obtain ⟨row, hrow, hparts⟩ := row_in (W := W) (a := a) (cell := fun i j => (cell i).getD j undef) hsz hl fun i hi j hj => by
          obtain ⟨h1, _⟩ := hcell i hi
          obtain ⟨_, h2, h3⟩ := World.cells?_some h1
          have := h3 j hj
          rw [List.getElem?_eq_getElem (by omega)] at this
          rw [Addr.add_add, ] at this
          rw [this]
          simp [List.getD, show j < (cell i).length by omega]
        refine ⟨_, len, row, by simp only [absL], hrow, ?_, fun i hi => ?_⟩
        · have := List.all_eq_true.1 hw ((elems.length + rest.length) * P.bytesOf e) (by simp [DataW.weights, hu])
          simp at this
          have h2 := reach_le
          have h3 : len * P.bytesOf e ≤ (elems.length + rest.length) * P.bytesOf e := Nat.mul_le_mul_right _ (by omega)
          omega
        · rw [hparts i hi]
          obtain ⟨h1, y, h2, h3⟩ := hcell i (by omega)
          obtain ⟨_, h4, _⟩ := World.cells?_some h1
          have hd := dat_of fuel h2 (List.all_eq_true.2 fun m hm => by
            refine List.all_eq_true.1 hw m ?_
            simp only [DataW.weights, hu, List.mem_cons, List.mem_append]
            rw [List.getElem?_append_left (by omega)] at h3
            exact .inr (.inl (weights_all (List.mem_map_of_mem (f := (·.1)) (List.mem_of_getElem? h3)) m hm)))
          have e2 : absL W.heap.size (cell i) = (List.range (P.cellsOf e)).map fun j => absV W.heap.size ((cell i).getD j undef) := by
            rw [absL_map]
            apply List.ext_getElem?
            intro j
            by_cases hj : j < P.cellsOf e
            · simp [List.getElem?_range, hj, List.getD, show j < (cell i).length by omega]
            · simp [hj, show ¬ j < (cell i).length by omega]
          rw [← e2]
          exact hd
    · rename_i fs hu
      obtain ⟨xs, n, hn, rfl, h1, h2, h3⟩ := DataW.trod_struct hu h
      obtain rfl : fuel = n := by omega
      refine ⟨by rw [absL_map, List.length_map]; exact h1, fun i f hf => ?_⟩
      have h4 := h3 i f hf
      have hi : i < xs.length := by rw [h2]; exact (Array.getElem?_eq_some_iff.1 hf).1
      rw [List.getElem?_eq_getElem hi] at h4
      have hd := dat_of fuel h4 (List.all_eq_true.2 fun m hm => by
        refine List.all_eq_true.1 hw m ?_
        simp only [DataW.weights, hu]
        refine weights_each (j := i) (t := f.type) (d := xs[i].1) (by simp [hf]) ?_ m hm
        simp [hi])
      rw [absL_map, ← List.map_drop, ← List.map_take, ← absL_map]
      exact hd
    · rename_i m e hu
      obtain ⟨xs, n, hn, rfl, h1, h2, h3⟩ := DataW.trod_array hu h
      obtain rfl : fuel = n := by omega
      refine ⟨by rw [absL_map, List.length_map]; exact h1, fun i hi => ?_⟩
      have h4 := h3 i hi
      have hi' : i < xs.length := by omega
      rw [List.getElem?_eq_getElem hi'] at h4
      have hd := dat_of fuel h4 (List.all_eq_true.2 fun m hm => by
        refine List.all_eq_true.1 hw m ?_
        simp only [DataW.weights, hu]
        exact weights_all (List.mem_map_of_mem (f := (·.1)) (List.getElem_mem hi')) m hm)
      rw [absL_map, ← List.map_drop, ← List.map_take, ← absL_map]
      exact hd
    · trivial

theorem cells_of {P : Program} {t : TypeId} {n : Nat} (h : sizeA P t = some n) : P.cellsOf t = n := by
  unfold sizeA at h; unfold Program.cellsOf; rw [h]; rfl
theorem bytes_of {P : Program} {t : TypeId} {n : Nat} (h : bytesA P t = some n) : P.bytesOf t = n := by
  unfold bytesA at h; unfold Program.bytesOf; rw [h]; rfl
section
variable {P : Program} {H : AH} {n : Nat} {t : TypeId} {cs : List AV}
theorem Dat.int (D : Dat P H n t cs) {k : IntKind} (hu : P.underlying t = some (.int k)) : ∃ a, cs = [.int k a] ∧ (Lit.int k a).wf = true := by
  obtain ⟨m, rfl⟩ := D.pos; unfold Dat at D; rw [hu] at D; exact D
theorem Dat.bool (D : Dat P H n t cs) (hu : P.underlying t = some .bool) : ∃ b, cs = [.bool b] := by
  obtain ⟨m, rfl⟩ := D.pos; unfold Dat at D; rw [hu] at D; exact D
theorem Dat.byte (D : Dat P H n t cs) (hu : P.underlying t = some (.int .u8)) : ∃ x : UInt8, cs = [bv x] := by
  obtain ⟨a, rfl, w⟩ := D.int hu; obtain ⟨x, rfl⟩ := byte_of w; exact ⟨x, rfl⟩
theorem Dat.i64 (D : Dat P H n t cs) (hu : P.underlying t = some (.int .i64)) : ∃ a, cs = [.int .i64 a] ∧ -9223372036854775808 ≤ a ∧ a ≤ 9223372036854775807 := by
  obtain ⟨a, rfl, w⟩ := D.int hu; exact ⟨a, rfl, i64_of w⟩
theorem Dat.u64 (D : Dat P H n t cs) (hu : P.underlying t = some (.int .u64)) : ∃ a : Nat, cs = [.int .u64 a] ∧ a < 18446744073709551616 := by
  obtain ⟨a, rfl, w⟩ := D.int hu; obtain ⟨x, rfl, h⟩ := u64_of w; exact ⟨x, rfl, h⟩
theorem Dat.u32 (D : Dat P H n t cs) (hu : P.underlying t = some (.int .u32)) : ∃ a : Nat, cs = [.int .u32 a] ∧ a < 4294967296 := by
  obtain ⟨a, rfl, w⟩ := D.int hu; obtain ⟨x, rfl, h⟩ := u32_of w; exact ⟨x, rfl, h⟩
theorem Dat.u16 (D : Dat P H n t cs) (hu : P.underlying t = some (.int .u16)) : ∃ a : Nat, cs = [.int .u16 a] ∧ a < 65536 := by
  obtain ⟨a, rfl, w⟩ := D.int hu; obtain ⟨x, rfl, h⟩ := u16_of w; exact ⟨x, rfl, h⟩
theorem Dat.struct (D : Dat P H n t cs) {fs : Array Field} (hu : P.underlying t = some (.struct fs)) {sz : Nat} (hs : sizeA P t = some sz) : cs.length = sz ∧ ∃ m, ∀ (i : Nat) {ft : TypeId} {o s : Nat}, (fs[i]?).map (fun f => (f.type, f.offset)) = some (ft, o) → sizeA P ft = some s → Dat P H m ft ((cs.drop o).take s) := by
  obtain ⟨m, rfl⟩ := D.pos; unfold Dat at D; rw [hu] at D; rw [cells_of hs] at D
  refine ⟨D.1, m, fun i ft o s hf hs => ?_⟩
  obtain ⟨f, h1, h2⟩ := Option.map_eq_some_iff.1 hf
  injection h2 with h2 h3
  subst h2 h3
  have := D.2 i f h1
  rwa [cells_of hs] at this
theorem Dat.array (D : Dat P H n t cs) {k : Nat} {e : TypeId} (hu : P.underlying t = some (.array k e)) {sz se : Nat} (hs : sizeA P t = some sz) (he : sizeA P e = some se) : cs.length = sz ∧ ∃ m, ∀ i, i < k → Dat P H m e ((cs.drop (i * se)).take se) := by
  obtain ⟨m, rfl⟩ := D.pos; unfold Dat at D; rw [hu] at D; simp only [cells_of hs, cells_of he] at D; exact ⟨D.1, m, D.2⟩
theorem Dat.slice (D : Dat P H n t cs) {e : TypeId} (hu : P.underlying t = some (.slice e)) {se by' : Nat} (he : sizeA P e = some (se + 1)) (hb : bytesA P e = some by') : ∃ v k row, cs = [v] ∧ Row H (se + 1) v k row ∧ k * by' ≤ 140737488351232 ∧ ∃ m, ∀ i, i < k → Dat P H m e ((row.drop (i * (se + 1))).take (se + 1)) := by
  obtain ⟨m, rfl⟩ := D.pos; unfold Dat at D; rw [hu] at D; simp only [cells_of he, bytes_of hb] at D
  obtain ⟨v, k, row, h1, h2, h3, h4⟩ := D (by omega)
  exact ⟨v, k, row, h1, h2, h3, m, h4⟩

/-- A slice of bytes that came in. -/
theorem Dat.bytes (D : Dat P H n t cs) {e : TypeId} (hu : P.underlying t = some (.slice e)) (he : P.underlying e = some (.int .u8)) (hs : sizeA P e = some 1) (hb : bytesA P e = some 1) : ∃ v xs, cs = [v] ∧ IsBytes H v xs ∧ xs.length ≤ 140737488351232 := by
  obtain ⟨v, k, row, h1, h2, h3, m, h4⟩ := D.slice hu (se := 0) hs hb
  have hl := h2.size
  have : ∀ i, i < k → ∃ x : UInt8, row[i]? = some (bv x) := fun i hi => by
    obtain ⟨x, hx⟩ := (h4 i hi).byte he
    have := congrArg (·[0]?) hx
    simp at this
    exact ⟨x, this⟩
  have key : ∃ xs : List UInt8, row = xs.map bv := by
    refine ⟨row.map fun v => match v with | .int _ a => UInt8.ofNat a.toNat | _ => 0, ?_⟩
    apply List.ext_getElem?
    intro i
    by_cases hi : i < k
    · obtain ⟨x, hx⟩ := this i hi
      simp [hx, bv]
    · simp [show row.length ≤ i by omega]
  obtain ⟨xs, rfl⟩ := key
  have e1 : k = xs.length := by simpa using hl.symm
  subst e1
  exact ⟨v, xs, h1, h2.toBytes, by omega⟩
end

theorem weights_at {T : Type} {P : Program} {ts : List TypeId} {ds : List (DataW T)} {j : Nat} {t : TypeId} {d : DataW T} (hsz : (DataW.weightsEach P ts ds).all (· ≤ reachBytes) = true) (ht : ts[j]? = some t) (hd : ds[j]? = some d) : (d.weights P t).all (· ≤ reachBytes) = true :=
  List.all_eq_true.2 fun n hn => List.all_eq_true.1 hsz n (DataW.weights_mem_each ht hd n hn)

variable {base : Nat}
/-- A slice that came in. -/
theorem arg_slice {T : Type} {enc : TypeId × Value → T} {P : Program} {W : World} {t e : TypeId} {v : Value} {d : DataW T} {ps : List MemPlace} {ts : List TypeId} {ds : List (DataW T)} {j : Nat} (hu : P.underlying t = some (.slice e))
    (hv : Value.okWide P W .any base t v) (hsz : (DataW.weightsEach P ts ds).all (· ≤ reachBytes) = true) (ht : ts[j]? = some t) (hd : ds[j]? = some d) (h : DataW.Trod enc P W 0 (fun _ => true) true t v d ps) :
    ∃ n, Dat P (AH.init W) n t [absV W.heap.size v] := by
  obtain ⟨a, len, cap, rfl⟩ := okWide_slice hu hv
  obtain ⟨fuel, hf⟩ := h
  exact ⟨fuel, dat_of fuel hf (weights_at hsz ht hd)⟩

/-- A struct or an array that came in. -/
theorem arg_agg {T : Type} {enc : TypeId × Value → T} {P : Program} {W : World} {t : TypeId} {v : Value} {d : DataW T} {ps : List MemPlace} {ts : List TypeId} {ds : List (DataW T)} {j : Nat} (hu : (∃ fs, P.underlying t = some (.struct fs)) ∨ ∃ m e, P.underlying t = some (.array m e))
    (hv : Value.okWide P W .any base t v) (hsz : (DataW.weightsEach P ts ds).all (· ≤ reachBytes) = true) (ht : ts[j]? = some t) (hd : ds[j]? = some d) (h : DataW.Trod enc P W 0 (fun _ => true) true t v d ps) :
    ∃ l, absV W.heap.size v = .agg l ∧ ∃ n, Dat P (AH.init W) n t l := by
  obtain ⟨cs, rfl⟩ : ∃ cs, v = .agg cs := by
    unfold Value.okWide at hv
    rcases hu with ⟨fs, hu⟩ | ⟨m, e, hu⟩
    · rw [hu] at hv; obtain ⟨cs, h1, _⟩ := hv; exact ⟨cs, h1⟩
    · rw [hu] at hv; obtain ⟨cs, h1, _⟩ := hv; exact ⟨cs, h1⟩
  obtain ⟨fuel, hf⟩ := h
  exact ⟨_, rfl, fuel, dat_of fuel hf (weights_at hsz ht hd)⟩

end Go.Abs
