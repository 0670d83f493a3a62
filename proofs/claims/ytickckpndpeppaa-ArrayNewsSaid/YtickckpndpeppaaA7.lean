/- Each operation of the model does what its abstract one says: places, conversions, new memory, append, copy; and all of them in one. -/
import Derived.Test.YtickckpndpeppaaA6
set_option linter.unusedVariables false
set_option linter.unusedSimpArgs false
namespace Go.Abs
open Go Go.RowKit

variable {P : Program} {w0 w : World} {ι : List Loc} {H : AH}

theorem RPtr_add {b : Nat} {a : AAddr} {q : Addr} (h : RPtr b ι a (.pointer (some q))) (k : Nat) : RPtr b ι ⟨a.ro, a.blk, a.off + k⟩ (.pointer (some (q.add k))) := by
  unfold RPtr at h ⊢
  by_cases hr : a.ro = true
  · rw [if_pos hr] at h ⊢
    obtain ⟨h1, h2⟩ := h
    injection h2 with h2
    injection h2 with h2
    subst h2
    exact ⟨h1, by rw [Addr.add_lit]⟩
  · rw [if_neg hr] at h ⊢
    cases hι : ι[a.blk]? with
    | none => rw [hι] at h; exact h.elim
    | some L =>
      rw [hι] at h
      cases L with
      | dead => exact ⟨_, rfl⟩
      | pend => exact h.elim
      | nil => exact h.elim
      | «at» B O m =>
        simp only at h ⊢
        injection h with h
        injection h with h
        subst h
        rw [Addr.add_lit, Nat.add_assoc]

/-- A slice with an element has a place. -/
theorem RSlice_ptr {b : Nat} {a : AAddr} {n : Nat} {c : Cap} {v : Value} (h : RSlice b ι a n c v) : ∃ q C, v = .slice q n C ∧ (0 < n → ∃ ad, q = some ad ∧ RPtr b ι a (.pointer (some ad))) := by
  unfold RSlice at h
  unfold RPtr
  by_cases hr : a.ro = true
  · rw [if_pos hr] at h
    obtain ⟨c', _, hnc, ⟨h1, h2⟩ | ⟨hc0, p, h2⟩⟩ := h
    · exact ⟨_, _, h2, fun _ => ⟨_, rfl, by rw [if_pos hr]; exact ⟨h1, rfl⟩⟩⟩
    · have h0 : n = 0 := by omega
      exact ⟨some p, 0, by rw [h0]; exact h2, fun h1 => by omega⟩
  · rw [if_neg hr] at h
    cases hι : ι[a.blk]? with
    | none => rw [hι] at h; exact h.elim
    | some L =>
      rw [hι] at h
      cases L with
      | dead =>
        obtain ⟨q, C, h1, _, h2, _⟩ := h
        refine ⟨q, C, h1, fun hn => ?_⟩
        cases q with
        | none => exact absurd rfl (h2 hn)
        | some q => exact ⟨q, rfl, by rw [if_neg hr]; exact ⟨_, rfl⟩⟩
      | pend => exact h.elim
      | nil =>
        obtain ⟨hn, ⟨q, hq⟩, _⟩ := h
        exact ⟨q, 0, by rw [hn]; exact hq, fun h0 => by omega⟩
      | «at» B O m =>
        cases c with
        | known c =>
          obtain ⟨hn, hv | ⟨hc, p, hv⟩⟩ := h
          · exact ⟨_, _, hv, fun _ => ⟨_, rfl, by rw [if_neg hr]⟩⟩
          · have h0 : n = 0 := by omega
            exact ⟨some p, 0, by rw [h0]; exact hv, fun h1 => by omega⟩
        | grow sz =>
          rcases h with ⟨C, _, _, hv⟩ | ⟨hn, p, hv⟩
          · exact ⟨_, _, hv, fun _ => ⟨_, rfl, by rw [if_neg hr]⟩⟩
          · exact ⟨some p, 0, by rw [hn]; exact hv, fun h1 => by omega⟩

theorem indexAddrA_run {t : TypeId} {x i v : AV} (h : indexAddrA P t x i = some v) {u s : Value} (hu : RV w0.heap.size ι x u) (hs : RV w0.heap.size ι i s) (w : World) :
    ∃ z, (Instr.indexAt t u s).run P w = .ok z w ∧ RV w0.heap.size ι v z := by
  unfold indexAddrA at h
  split at h
  · rename_i n e a k i hd
    unfold RV at hu hs
    subst hs
    cases hz : sizeA P e with
    | none => rw [hz] at h; cases h
    | some sz =>
      rw [hz] at h
      simp only [Option.bind_some] at h
      split at h
      · rename_i hb
        injection h with h
        subst h
        obtain ⟨q, rfl⟩ := RPtr_some hu
        refine ⟨.pointer (some (q.add (i.toNat * sz))), by simp [Instr.indexAt, asIntOf, run_underlying hd, Instr.sureAddr, hb.1, hb.2, sizeA_run hz], ?_⟩
        unfold RV
        exact RPtr_add hu _
      · cases h
  · rename_i e a n c k i hd
    unfold RV at hu hs
    subst hs
    cases hz : sizeA P e with
    | none => rw [hz] at h; cases h
    | some sz =>
      rw [hz] at h
      simp only [Option.bind_some] at h
      split at h
      · rename_i hb
        injection h with h
        subst h
        obtain ⟨q, C, rfl, hq⟩ := RSlice_ptr hu
        obtain ⟨ad, rfl, hp⟩ := hq (by omega)
        refine ⟨.pointer (some (ad.add (i.toNat * sz))), by simp [Instr.indexAt, asIntOf, run_underlying hd, hb.1, hb.2, sizeA_run hz], ?_⟩
        unfold RV
        exact RPtr_add hp _
      · cases h
  · cases h

theorem indexA_run {t : TypeId} {x i v : AV} (h : indexA P t x i = some v) {u s : Value} (hu : RV w0.heap.size ι x u) (hs : RV w0.heap.size ι i s) (w : World) :
    ∃ z, (Instr.index t u s).run P w = .ok z w ∧ RV w0.heap.size ι v z := by
  unfold indexA at h
  split at h
  · rename_i n e cs k i hd
    unfold RV at hu hs
    subst hs
    obtain ⟨ys, rfl, hy⟩ := hu
    cases hz : sizeA P e with
    | none => rw [hz] at h; cases h
    | some sz =>
      rw [hz] at h
      simp only [Option.bind_some] at h
      split at h
      · rename_i hb
        obtain ⟨z, r1, r2⟩ := partA_run h hy w
        exact ⟨z, by simp [Instr.index, asIntOf, run_underlying hd, hb.1, hb.2, sizeA_run hz, r1], r2⟩
      · cases h
  · rename_i s' k i hd
    unfold RV at hu hs
    subst hs hu
    split at h
    · rename_i hb
      cases hg : s'[i.toNat]? with
      | none => rw [hg] at h; cases h
      | some b =>
        rw [hg] at h
        injection h with h
        subst h
        exact ⟨.int .u8 b.toNat, by simp [Instr.index, asIntOf, run_underlying hd, hb, hg], rfl⟩
    · cases h
  · cases h

theorem fieldAddrA_run {t : TypeId} {x v : AV} {f : Nat} (h : fieldAddrA P t x f = some v) {u : Value} (hu : RV w0.heap.size ι x u) (w : World) :
    ∃ z, (Instr.fieldAt t u f).run P w = .ok z w ∧ RV w0.heap.size ι v z := by
  unfold fieldAddrA at h
  split at h
  · rename_i fields a hd
    unfold RV at hu
    cases hf : fields[f]? with
    | none => rw [hf] at h; cases h
    | some fd =>
      rw [hf] at h
      simp only [Option.bind_some] at h
      split at h
      · cases h
      · rename_i hz
        injection h with h
        subst h
        obtain ⟨q, rfl⟩ := RPtr_some hu
        cases hsz : sizeA P fd.type with
        | none => rw [hsz] at hz; simp at hz
        | some n =>
          have hn : n ≠ 0 := fun e => by rw [hsz, e] at hz; simp at hz
          refine ⟨_, by simp [Instr.fieldAt, run_underlying hd, hf, Instr.sureAddr, fieldPlace, sizeA_run hsz, hn]; rfl, ?_⟩
          unfold RV
          exact RPtr_add hu _
  · cases h

theorem fieldA_run {t : TypeId} {x v : AV} {f : Nat} (h : fieldA P t x f = some v) {u : Value} (hu : RV w0.heap.size ι x u) (w : World) :
    ∃ z, (Instr.field t u f).run P w = .ok z w ∧ RV w0.heap.size ι v z := by
  unfold fieldA at h
  split at h
  · rename_i fields cs hd
    unfold RV at hu
    obtain ⟨ys, rfl, hy⟩ := hu
    cases hf : fields[f]? with
    | none => rw [hf] at h; cases h
    | some fd =>
      rw [hf] at h
      simp only [Option.bind_some] at h
      obtain ⟨z, r1, r2⟩ := partA_run h hy w
      exact ⟨z, by simp [Instr.field, run_underlying hd, hf, asAgg, r1], r2⟩
  · cases h

theorem lenA_run {t : TypeId} {x v : AV} (h : lenA P t x = some v) {u : Value} (hu : RV w0.heap.size ι x u) (ty : TypeId) (w : World) :
    ∃ z, (Builtin.len_ #[t] ty #[u]).run P w = .ok z w ∧ RV w0.heap.size ι v z := by
  unfold lenA at h
  split at h
  · rename_i s hd; unfold RV at hu; subst hu; injection h with h; subst h
    exact ⟨.int .i64 s.size, by simp [Builtin.len_, run_underlying hd, goInt], rfl⟩
  · rename_i n e hd; injection h with h; subst h
    exact ⟨.int .i64 n, by simp [Builtin.len_, run_underlying hd, goInt], rfl⟩
  · rename_i e a n c hd; unfold RV at hu; injection h with h; subst h
    obtain ⟨q, C, rfl, _⟩ := RSlice_ptr hu
    exact ⟨.int .i64 n, by simp [Builtin.len_, run_underlying hd, goInt], rfl⟩
  · rename_i e hd; unfold RV at hu; subst hu; injection h with h; subst h
    exact ⟨.int .i64 0, by simp [Builtin.len_, run_underlying hd, goInt], rfl⟩
  · cases h

theorem foldA_run {f : AV → AV → Option AV} {g : Value → Value → Sem Value} (hfg : ∀ {x y z u v}, f x y = some z → RV w0.heap.size ι x u → RV w0.heap.size ι y v → ∃ r, (g u v).run P w = .ok r w ∧ RV w0.heap.size ι z r) :
    ∀ (l : List AV) (ys : List Value) {x z : AV} {u : Value}, foldA f x l = some z → RV w0.heap.size ι x u → RVL w0.heap.size ι l ys → ∃ r, (ys.foldlM g u).run P w = .ok r w ∧ RV w0.heap.size ι z r
  | [], ys, x, z, u, h, hu, hy => by
    unfold RVL at hy
    subst hy
    simp only [foldA] at h
    injection h with h
    subst h
    exact ⟨u, rfl, hu⟩
  | y :: l, ys, x, z, u, h, hu, hy => by
    unfold RVL at hy
    obtain ⟨v, ys', rfl, h1, h2⟩ := hy
    simp only [foldA] at h
    cases hz : f x y with
    | none => rw [hz] at h; cases h
    | some z' =>
      rw [hz] at h
      simp only [Option.bind_some] at h
      obtain ⟨r, r1, r2⟩ := hfg hz hu h1
      obtain ⟨r', r3, r4⟩ := foldA_run hfg l ys' h r2 h2
      exact ⟨r', by simp [r1, r3], r4⟩

theorem min2A_run {x y z : AV} {u v : Value} (h : min2A x y = some z) (hu : RV w0.heap.size ι x u) (hv : RV w0.heap.size ι y v) : ∃ r, (Builtin.min2 u v).run P w = .ok r w ∧ RV w0.heap.size ι z r := by
  unfold min2A at h
  split at h
  · unfold RV at hu hv; subst hu hv; injection h with h; subst h; exact ⟨_, rfl, rfl⟩
  · cases h

theorem max2A_run {x y z : AV} {u v : Value} (h : max2A x y = some z) (hu : RV w0.heap.size ι x u) (hv : RV w0.heap.size ι y v) : ∃ r, (Builtin.max2 u v).run P w = .ok r w ∧ RV w0.heap.size ι z r := by
  unfold max2A at h
  split at h
  · unfold RV at hu hv; subst hu hv; injection h with h; subst h; exact ⟨_, rfl, rfl⟩
  · cases h

/-- The cells of a slice, loaded. -/
theorem rowA_run (h : Rep w0 ι H w) {sz n : Nat} {x : AV} {cs : List AV} (hr : rowA H sz x = some cs) {u : Value} (hu : RV w0.heap.size ι x u) (hn : slen x = n) :
    ∃ q C, u = .slice q n C ∧ cs.length = n * sz ∧ ∀ m', m' ≤ n * sz → ∃ ys : List Value, RVL w0.heap.size ι (cs.take m') ys ∧ (∀ ad, q = some ad → (loadCells ad m').run P w = .ok ys.toArray w) ∧ (q = none → ys = []) := by
  cases x with
  | nilslice =>
    simp only [rowA, slen] at hr hn
    injection hr with hr
    subst hr hn
    unfold RV at hu
    subst hu
    exact ⟨none, 0, rfl, by simp, fun m' _ => ⟨[], by simp [RVL], (fun ad h => by cases h), fun _ => rfl⟩⟩
  | slice a m c =>
    simp only [rowA, slen] at hr hn
    subst hn
    cases hg : H.get a with
    | none => rw [hg] at hr; cases hr
    | some l =>
      rw [hg] at hr
      simp only [Option.bind_some] at hr
      split at hr
      · rename_i hle
        injection hr with hr
        subst hr
        unfold RV at hu
        obtain ⟨q, C, rfl, hq⟩ := h.at_slice hu hg
        by_cases h0 : m * sz = 0
        · refine ⟨q, C, rfl, by simp [h0], fun m' hm' => ⟨[], by simp [h0, RVL], (fun ad _ => ?_), fun _ => rfl⟩⟩
          have : m' = 0 := by omega
          rw [this]; simp [loadCells, loadCellsFrom]
        · rcases hle with hle | hle
          · rcases hq with hq | ⟨ad, rfl, hs0, hc⟩
            · rw [hq] at h0; simp at h0
            · refine ⟨_, C, rfl, by simp; omega, fun m' hm' => ?_⟩
              obtain ⟨ys, r1, r2, _⟩ := run_load_row (P := P) (w := w) (w0 := w0) (ι := ι) (ad := ad) (cs := l.drop a.off) m' (by simp; omega) (fun j x hx => hc j x (by rwa [List.getElem?_drop] at hx))
              exact ⟨ys, by rw [List.take_take, Nat.min_eq_left hm']; exact r2, (fun ad' h' => by injection h' with h'; subst h'; exact r1), fun h' => by cases h'⟩
          · exact absurd hle h0
      · cases hr
  | _ => simp only [rowA] at hr; cases hr

theorem RVL_map {α : Type} {b : Nat} {f : α → AV} {g : α → Value} (hfg : ∀ x, RV b ι (f x) (g x)) : ∀ l : List α, RVL b ι (l.map f) (l.map g)
  | [] => by simp [RVL]
  | x :: l => by simp only [List.map_cons, RVL]; exact ⟨_, _, rfl, hfg x, RVL_map hfg l⟩

/-- What is appended or copied. -/
theorem newsA_run (h : Rep w0 ι H w) {sz k : Nat} {x : AV} {cs : List AV} (hn : newsA H sz x = some (k, cs)) {u : Value} (hu : RV w0.heap.size ι x u) :
    (Builtin.lenOf u).run P w = .ok k w ∧ cs.length = k * sz ∧ ∀ k', k' ≤ k → ∃ ys : List Value, (Builtin.firstCells sz k' u).run P w = .ok ys.toArray w ∧ RVL w0.heap.size ι (cs.take (k' * sz)) ys := by
  cases x with
  | nilslice =>
    simp only [newsA] at hn
    injection hn with hn
    injection hn with h1 h2
    subst h1 h2
    unfold RV at hu
    subst hu
    exact ⟨rfl, by simp, fun k' _ => ⟨[], by simp [Builtin.firstCells], by simp [RVL]⟩⟩
  | slice a n c =>
    simp only [newsA] at hn
    cases hr : rowA H sz (.slice a n c) with
    | none => rw [hr] at hn; cases hn
    | some cs' =>
      rw [hr] at hn
      injection hn with hn
      injection hn with h1 h2
      subst h1 h2
      obtain ⟨q, C, rfl, hl, hm⟩ := rowA_run (P := P) h hr hu rfl
      refine ⟨rfl, hl, fun k' hk' => ?_⟩
      obtain ⟨ys, r1, r2, r3⟩ := hm (k' * sz) (Nat.mul_le_mul_right _ hk')
      cases q with
      | none => rw [r3 rfl] at r1; exact ⟨[], by simp [Builtin.firstCells], r1⟩
      | some ad => exact ⟨ys, by simpa [Builtin.firstCells] using r2 ad rfl, r1⟩
  | str s =>
    simp only [newsA] at hn
    split at hn
    · rename_i h1
      injection hn with hn
      injection hn with h2 h3
      subst h1 h2 h3
      unfold RV at hu
      subst hu
      refine ⟨rfl, by simp, fun k' hk' => ⟨(s.data.toList.take k').map fun b => .int .u8 b.toNat, ?_, ?_⟩⟩
      · simp only [Builtin.firstCells, Sem.run_pure]
        congr 1
        apply Array.ext'
        simp [ByteArray.data_extract]
      · rw [Nat.mul_one, ← List.map_take]
        exact RVL_map (f := fun b : UInt8 => AV.int .u8 b.toNat) (g := fun b : UInt8 => Value.int .u8 b.toNat) (fun b => by unfold RV; rfl) _
    · cases hn
  | _ => simp only [newsA] at hn; cases hn

end Go.Abs
