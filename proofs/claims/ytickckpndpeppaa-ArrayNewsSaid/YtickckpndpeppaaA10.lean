/- append and copy do what their abstract ones say. -/
import Derived.Test.YtickckpndpeppaaA9
set_option linter.unusedVariables false
set_option linter.unusedSimpArgs false
namespace Go.Abs
open Go Go.RowKit

variable {P : Program} {w0 w : World} {ι : List Loc} {H : AH}

/-- Cells written behind a row's known ones. -/
theorem extendCells_run : ∀ (vs : List AV) (ys : List Value) {H : AH} {w : World} {i o B O m k : Nat} {l : List AV}, Rep w0 ι H w → H.rw[i]? = some (some (.cells l)) → ι[i]? = some (.at B O m) → l.length = o + k → l.length + vs.length ≤ m →
    vs.all oneA = true → RVL w0.heap.size ι vs ys →
    ∃ w', (storeCells ⟨B, O + o, none⟩ ys k).run P w = .ok () w' ∧ Rep w0 ι (H.set i (some (.cells (l ++ vs)))) w' ∧ Ext ι H w ι (H.set i (some (.cells (l ++ vs)))) w'
  | [], ys, H, w, i, o, B, O, m, k, l, h, hi, hι, hlen, hroom, h1, hy => by
    unfold RVL at hy
    subst hy
    have e : H.set i (some (.cells (l ++ []))) = ⟨H.ro, H.rw, fun j => j = i ∨ H.wr j⟩ := by
      rw [List.append_nil]
      unfold AH.set
      obtain ⟨hlt, he⟩ := List.getElem?_eq_some_iff.1 hi
      cases H
      simp only at hlt he ⊢
      congr 1
      rw [← he]
      exact List.set_getElem_self hlt
    rw [e]
    exact ⟨w, rfl, h.more _, (Ext.refl _ _ _).more fun _ h => .inr h⟩
  | v :: vs, ys, H, w, i, o, B, O, m, k, l, h, hi, hι, hlen, hroom, h1, hy => by
    unfold RVL at hy
    obtain ⟨y, ys', rfl, hy1, hy2⟩ := hy
    simp only [List.all_cons, Bool.and_eq_true] at h1
    obtain ⟨h1, h1'⟩ := h1
    simp only [List.length_cons] at hroom
    have hblk : RBlk w0.heap.size ι l B O m w := by
      rcases h.blk i l hi with g1 | ⟨g1, _⟩ | ⟨B', O', m', g1, g2⟩
      · rw [hι] at g1; cases g1
      · rw [hι] at g1; cases g1
      · rw [hι] at g1; injection g1 with g1; injection g1 with e1 e2 e3; subst e1 e2 e3; exact g2
    obtain ⟨cs, e, fz, g1, g2, g3, g4⟩ := hblk.cells
    obtain ⟨hR, hE⟩ := h.setCell (k := o + k) (x := y) (l' := l ++ [v]) hi hι (by omega) (by simp; omega) (fun j x hj => by
      rcases get_app hj with hj | ⟨e1, e2⟩
      · have := lt_of_get hj; exact .inr ⟨by omega, hj⟩
      · exact .inl ⟨by omega, e2 ▸ hy1⟩)
    have hone := oneA_cell h1 hy1
    have hcell : w.cell? ⟨B, O + (o + k), none⟩ = cs[O + (o + k)]? := cell_of_row w B _ cs e fz g1
    have hin : O + (o + k) < cs.size := by omega
    rw [Array.getElem?_eq_getElem hin] at hcell
    have hfro := hblk.free (O + (o + k)) (by omega) (by omega)
    have hst : (store ((⟨B, O + o, none⟩ : Addr).add k) y).run P w = .ok () (w.setCell ⟨B, O + (o + k), none⟩ y) := by
      rw [Addr.add_lit, Nat.add_assoc, run_store P w _ y _ hone, hcell]
      simp [hfro]
    have hilt := lt_of_get hi
    obtain ⟨w', r1, r2, r3⟩ := extendCells_run vs ys' (l := l ++ [v]) (i := i) (o := o) (k := k + 1) hR (by simp [AH.set, hilt]) hι (by simp; omega) (by simp; omega) h1' hy2
    have e : (H.set i (some (.cells (l ++ [v])))).set i (some (.cells (l ++ [v] ++ vs))) = H.set i (some (.cells (l ++ v :: vs))) := by
      rw [AH.set_set', show l ++ [v] ++ vs = l ++ v :: vs by simp]
    rw [e] at r2 r3
    exact ⟨w', by simp only [storeCells, Sem.run_bind, hst, Result.andThen_ok]; exact r1, r2, hE.trans r3⟩

/-- What the second operand of an append gives: how many elements, and their cells, in each world of these blocks. -/
structure NewsOk (P : Program) (w0 : World) (ι : List Loc) (H : AH) (w : World) (e xt : TypeId) (sz : Nat) (u : Value) (k : Nat) (news : List AV) : Prop where
  len : news.length = k * sz
  alike : (∃ d, P.underlying xt = some d ∧ (d = .string ∨ ∃ e', d = .slice e') ∧ (Builtin.lenOf u).run P w = .ok k w ∧
      ∀ w', w'.heap = w.heap → w'.os = w.os → w'.tape = w.tape → w'.output = w.output → ∃ ys : List Value, (Builtin.firstCells sz k u).run P w' = .ok ys.toArray w' ∧ RVL w0.heap.size ι news ys) ∨
    (∃ kk z, P.underlying xt = some (.int kk) ∧ u = .int .i64 k ∧ k ≤ 140737488355328 ∧ (P.info? e).bind (·.zero) = some z ∧ RVL w0.heap.size ι news (Builtin.zeroCells z.cells k).toList)

theorem zeroCells_rel {b : Nat} {z : Value} (hpos : 0 < z.cells.size) (k : Nat) : RVL b ι (repA (absL 0 z.cells.toList) k) (Builtin.zeroCells z.cells k).toList := by
  have := repA_rel (ι := ι) (b := b) (RVL_zero z.cells) hpos k
  simpa [Builtin.zeroCells] using this

theorem same_all {w' : World} (h : Rep w0 ι H w) (h1 : w'.heap = w.heap) (h2 : w'.os = w.os) (h3 : w'.tape = w.tape) (h4 : w'.output = w.output) : Rep w0 ι H w' := (h.same h1 h2 h3 h4).1

theorem newsOk_of (h : Rep w0 ι H w) {e xt : TypeId} {sz k : Nat} {x : AV} {news : List AV} {zero : List AV} {u : Value} (hz : zeroA P e = some zero) (hzl : zero.length = sz) (hsz : 0 < sz) (hu : RV w0.heap.size ι x u)
    (hn : moreA P xt zero sz H x = some (k, news)) : NewsOk P w0 ι H w e xt sz u k news := by
  have hsl : ∀ d, P.underlying xt = some d → (d = .string ∨ ∃ e', d = .slice e') → newsA H sz x = some (k, news) → NewsOk P w0 ι H w e xt sz u k news := fun d hd hdd hn => by
    obtain ⟨r1, r2, r3⟩ := newsA_run (P := P) h hn hu
    refine ⟨r2, .inl ⟨_, hd, hdd, r1, fun w' a1 a2 a3 a4 => ?_⟩⟩
    obtain ⟨_, _, r4⟩ := newsA_run (P := P) (same_all h a1 a2 a3 a4) hn hu
    obtain ⟨ys, r5, r6⟩ := r4 k (Nat.le_refl _)
    exact ⟨ys, r5, by rw [← r2, List.take_length] at r6; exact r6⟩
  unfold moreA at hn
  split at hn
  · rename_i kk l hd
    split at hn
    · rename_i hl
      injection hn with hn
      injection hn with e1 e2
      subst e1 e2
      unfold RV at hu
      subst hu
      obtain ⟨z, hzr, hzz⟩ := zeroA_run hz w
      have hzi : (P.info? e).bind (·.zero) = some z := by
        unfold zeroA at hz
        cases hi : P.info? e with
        | none => rw [hi] at hz; cases hz
        | some i =>
          rw [hi] at hz
          cases hzz' : i.zero with
          | none => simp [hzz'] at hz
          | some z' => simp [zeroValue, typeInfo, hi, hzz'] at hzr; simp [hzz', hzr]
      subst hzz
      have hzs : z.cells.size = sz := by rw [← hzl, absL_length]; simp
      have hrel := zeroCells_rel (ι := ι) (b := w0.heap.size) (z := z) (show 0 < z.cells.size by omega) l.toNat
      refine ⟨?_, .inr ⟨kk, z, hd, by rw [Int.toNat_of_nonneg hl.1], by omega, hzi, hrel⟩⟩
      have := (hrel.of_array).1
      rw [this]; simp [Builtin.zeroCells, hzs]
    · cases hn
  · rename_i e' hd; exact hsl _ hd (.inr ⟨e', rfl⟩) hn
  · rename_i hd; exact hsl _ hd (.inl rfl) hn
  · cases hn

theorem news_nil {news : List AV} {e xt : TypeId} {sz : Nat} {u : Value} (hn : NewsOk P w0 ι H w e xt sz u 0 news) : news = [] := List.eq_nil_of_length_eq_zero (by simpa using hn.len)

/-- No element goes behind a slice: it stays. -/
theorem append_stays {st xt e : TypeId} {sz : Nat} {u : Value} {news : List AV} (hd : P.underlying st = some (.slice e)) (hs : sizeA P e = some sz) (hn : NewsOk P w0 ι H w e xt sz u 0 news) (ty : TypeId) (q : Option Addr) (n c : Nat) (hnc : n ≤ c) :
    (Builtin.append_ #[st, xt] ty #[.slice q n c, u]).run P w = .ok (.slice q n c) w := by
  have hl := news_nil hn
  rcases hn.alike with ⟨d, hx, hne, hlen, hfc⟩ | ⟨kk, z, hx, rfl, hk, hz, hrel⟩
  · obtain ⟨ys, r1, r2⟩ := hfc w rfl rfl rfl rfl
    have hy : ys = [] := by rw [hl] at r2; unfold RVL at r2; exact r2
    rw [hy] at r1
    rcases hne with rfl | ⟨e', rfl⟩
    · cases q <;> simp [Builtin.append_, run_underlying hd, run_underlying hx, sizeA_run hs, hlen, hnc, r1, storeCells]
    · cases q <;> simp [Builtin.append_, run_underlying hd, run_underlying hx, sizeA_run hs, hlen, hnc, r1, storeCells]
  · have hi : ∃ i, P.info? e = some i := by
      cases hi : P.info? e with
      | none => rw [hi] at hz; cases hz
      | some i => exact ⟨i, rfl⟩
    obtain ⟨i, hi⟩ := hi
    have hw0 : IntKind.i64.wrap 0 = 0 := by decide
    cases q <;> simp [Builtin.append_, run_underlying hd, run_underlying hx, sizeA_run hs, asInt, asIntOf, hw0, run_typeInfo hi, hnc, storeCells]

/-- A slice has no room for what goes behind it: a new row. -/
theorem append_grows {st xt e : TypeId} {sz bytes k : Nat} {u : Value} {news : List AV} (hd : P.underlying st = some (.slice e)) (hs : sizeA P e = some sz) (hb : bytesA P e = some bytes) {zero : List AV} (hz : zeroA P e = some zero) (hzl : zero.length = sz)
    (hn : NewsOk P w0 ι H w e xt sz u k news) (ty : TypeId) (q : Option Addr) (n c : Nat) (hnc : c < n + k) (hmax : n + k ≤ 140737488355328) (hbytes : (n + k) * bytes ≤ 140737488355328)
    (olds : List Value) (holds : (Builtin.firstCells sz n (.slice q n c)).run P w.drew = .ok olds.toArray w.drew) :
    ∃ (C : Nat) (ys rest : List Value), n + k ≤ C ∧ RVL w0.heap.size ι news ys ∧ rest.length = (C - (n + k)) * sz ∧
      (Builtin.append_ #[st, xt] ty #[.slice q n c, u]).run P w = .ok (.slice (some ⟨w.heap.size, 0, none⟩) (n + k) C) (w.drew.alloc (.cells (olds ++ ys ++ rest).toArray e)) := by
  obtain ⟨i, hi, hby⟩ := bytesA_run hb
  subst hby
  have h63 : ¬ (9223372036854775807 < ((n : Int) + (k : Int))) := by omega
  have h48 : ¬ (281474976710656 < Builtin.nextslicecap (n + k) c * i.bytes) := by have := growslice_fits hnc hbytes; omega
  have hnr : ¬ (n + k ≤ c) := by omega
  have hzi : ∃ z, i.zero = some z ∧ absL 0 z.cells.toList = zero := by
    unfold zeroA at hz
    rw [hi] at hz
    cases hzz : i.zero with
    | none => simp [hzz] at hz
    | some z => simp [hzz] at hz; exact ⟨z, rfl, hz⟩
  obtain ⟨z, hzi, hzz⟩ := hzi
  have hzs : z.cells.size = sz := by rw [← hzl, ← hzz, absL_length]; simp
  generalize hCe : grownCap w (n + k) c e = C
  have hC : n + k ≤ C := by rw [← hCe]; simp [grownCap, Question.cut]
  unfold grownCap at hCe
  refine ⟨C, ?_⟩
  have hrl : (Builtin.zeroCells z.cells (C - (n + k))).toList.length = (C - (n + k)) * sz := by simp [Builtin.zeroCells, hzs]
  rcases hn.alike with ⟨d, hx, hne, hlen, hfc⟩ | ⟨kk, z', hx, rfl, hk, hz', hrel⟩
  · obtain ⟨ys, r1, r2⟩ := hfc w.drew rfl rfl rfl rfl
    refine ⟨ys, (Builtin.zeroCells z.cells (C - (n + k))).toList, hC, r2, hrl, ?_⟩
    have e0 : (olds ++ ys ++ (Builtin.zeroCells z.cells (C - (n + k))).toList).toArray = olds.toArray ++ (ys.toArray ++ Builtin.zeroCells z.cells (C - (n + k))) := by simp
    rw [e0]
    rcases hne with rfl | ⟨e', rfl⟩
    · simp [Builtin.append_, run_underlying hd, run_underlying hx, sizeA_run hs, hlen, hnr, h63, h48, run_typeInfo hi, zeroValue, hzi, Question.forced, holds, r1, newRow, hCe]
    · simp [Builtin.append_, run_underlying hd, run_underlying hx, sizeA_run hs, hlen, hnr, h63, h48, run_typeInfo hi, zeroValue, hzi, Question.forced, holds, r1, newRow, hCe]
  · have hzz' : z' = z := by rw [hi] at hz'; simp [hzi] at hz'; exact hz'.symm
    subst hzz'
    refine ⟨(Builtin.zeroCells z'.cells k).toList, (Builtin.zeroCells z'.cells (C - (n + k))).toList, hC, hrel, hrl, ?_⟩
    have e0 : (olds ++ (Builtin.zeroCells z'.cells k).toList ++ (Builtin.zeroCells z'.cells (C - (n + k))).toList).toArray = olds.toArray ++ (Builtin.zeroCells z'.cells k ++ Builtin.zeroCells z'.cells (C - (n + k))) := by simp
    rw [e0]
    have hwk := wrap_small (n := (k : Int)) (by omega) (by omega)
    have hk0 : ¬ ((k : Int) < 0) := by omega
    have hkb : ¬ (281474976710656 < (k : Int) * (i.bytes : Int)) := by
      have h1 : k * i.bytes ≤ (n + k) * i.bytes := Nat.mul_le_mul_right _ (by omega)
      have h2 : ((k * i.bytes : Nat) : Int) ≤ 140737488355328 := by omega
      rw [Int.natCast_mul] at h2
      omega
    by_cases hks : k * sz = 0
    · have hzc : Builtin.zeroCells z'.cells k = #[] := by
        apply Array.eq_empty_of_size_eq_zero
        simp [Builtin.zeroCells, hzs, hks]
      rw [hzc]
      simp [Builtin.append_, run_underlying hd, run_underlying hx, sizeA_run hs, asInt, asIntOf, hwk, hk0, hkb, hnr, h63, h48, run_typeInfo hi, zeroValue, hzi, Question.forced, holds, hks, newRow, hCe]
    · simp [Builtin.append_, run_underlying hd, run_underlying hx, sizeA_run hs, asInt, asIntOf, hwk, hk0, hkb, hnr, h63, h48, run_typeInfo hi, zeroValue, hzi, Question.forced, holds, hks, newRow, hCe]

/-- How a new row that an append makes stands. -/
theorem append_new (h : Rep w0 ι H w) {e : TypeId} {sz n C : Nat} {l news : List AV} {olds ys rest : List Value} (hl : RVL w0.heap.size ι l olds) (hy : RVL w0.heap.size ι news ys) (hlen : olds.length + ys.length = n * sz) (hC : n ≤ C) (hr : rest.length = (C - n) * sz) :
    ∃ ι', Rep w0 ι' (H.push (some (.cells (l ++ news)))) (w.drew.alloc (.cells (olds ++ ys ++ rest).toArray e)) ∧ Ext ι H w ι' (H.push (some (.cells (l ++ news)))) (w.drew.alloc (.cells (olds ++ ys ++ rest).toArray e)) ∧
      RV w0.heap.size ι' (.slice ⟨false, H.n, 0⟩ n (.grow sz)) (.slice (some ⟨w.heap.size, 0, none⟩) n C) := by
  obtain ⟨hd1, hd2⟩ := h.drew
  have hcat := RVL.append hl hy
  have hsize : (olds ++ ys ++ rest).toArray.size = C * sz := by
    simp only [List.size_toArray, List.length_append, hr]
    rw [hlen, ← Nat.add_mul]; congr 1; omega
  have hll : (l ++ news).length = n * sz := by rw [← hlen, ← hcat.length]; simp
  obtain ⟨hR, hE⟩ := hd1.push (l := l ++ news) (cs := (olds ++ ys ++ rest).toArray) e (by rw [hll, hsize]; exact Nat.mul_le_mul_right _ hC) (fun k v hk => by
    obtain ⟨x, g1, g2⟩ := hcat.get hk
    have := lt_of_get g1
    exact ⟨x, by simp only [List.getElem?_toArray]; rw [List.getElem?_append_left this]; exact g1, g2⟩)
  refine ⟨_, hR, hd2.trans hE, ?_⟩
  unfold RV RSlice
  simp only [Bool.false_eq_true, if_false]
  have hn : (ι ++ [Loc.at w.drew.heap.size 0 (olds ++ ys ++ rest).toArray.size])[H.n]? = some (.at w.drew.heap.size 0 (olds ++ ys ++ rest).toArray.size) := by
    unfold AH.n; rw [← h.len]; simp
  rw [hn]
  exact .inl ⟨C, hC, by rw [hsize]; omega, rfl⟩

theorem push_nil_slice (h : Rep w0 ι H w) {sz : Nat} (q : Option Addr) :
    ∃ ι', Rep w0 ι' (H.push (some (.cells []))) w ∧ Ext ι H w ι' (H.push (some (.cells []))) w ∧ RV w0.heap.size ι' (.slice ⟨false, H.n, 0⟩ 0 (.grow sz)) (.slice q 0 0) := by
  obtain ⟨hR, hE⟩ := h.pushNil
  refine ⟨_, hR, hE, ?_⟩
  unfold RV RSlice
  simp only [Bool.false_eq_true, if_false]
  have hn : (ι ++ [Loc.nil])[H.n]? = some .nil := by unfold AH.n; rw [← h.len]; simp
  rw [hn]
  exact ⟨by simp, ⟨q, rfl⟩, sz, rfl⟩

theorem firstCells_zero (sz : Nat) (q : Option Addr) (n c : Nat) (h : n * sz = 0) (w : World) : (Builtin.firstCells sz n (.slice q n c)).run P w = .ok #[] w := by
  cases q with
  | none => rfl
  | some a => simp [Builtin.firstCells, h, loadCells, loadCellsFrom]

/-- What goes behind a slice of no elements and no room. -/
theorem append_empty (h : Rep w0 ι H w) {st xt e : TypeId} {sz bytes k : Nat} {u : Value} {news : List AV} (hd : P.underlying st = some (.slice e)) (hs : sizeA P e = some sz) (hb : bytesA P e = some bytes) {zero : List AV} (hz : zeroA P e = some zero) (hzl : zero.length = sz)
    (hn : NewsOk P w0 ι H w e xt sz u k news) (ty : TypeId) (q : Option Addr) (hmax : k ≤ 140737488355328) (hbytes : k * bytes ≤ 140737488355328) :
    ∃ z w' ι', (Builtin.append_ #[st, xt] ty #[.slice q 0 0, u]).run P w = .ok z w' ∧ RV w0.heap.size ι' (.slice ⟨false, H.n, 0⟩ k (.grow sz)) z ∧ Rep w0 ι' (H.push (some (.cells news))) w' ∧ Ext ι H w ι' (H.push (some (.cells news))) w' := by
  by_cases hk : k = 0
  · subst hk
    have hl := news_nil hn
    obtain ⟨ι', g1, g2, g3⟩ := push_nil_slice h (sz := sz) q
    rw [hl]
    exact ⟨_, w, ι', append_stays hd hs hn ty q 0 0 (Nat.le_refl _), g3, g1, g2⟩
  · obtain ⟨C, ys, rest, hC, hy, hr, hrun⟩ := append_grows hd hs hb hz hzl hn ty q 0 0 (by omega) (by omega) (by simpa using hbytes) [] (firstCells_zero sz q 0 0 (by simp) _)
    simp only [Nat.zero_add] at hC hr hrun
    have hyl : ys.length = k * sz := by rw [hy.length, hn.len]
    obtain ⟨ι', g1, g2, g3⟩ := append_new (l := []) (news := news) (olds := []) h (e := e) (by unfold RVL; rfl) hy (by simpa using hyl) hC hr
    exact ⟨_, _, ι', hrun, g3, g1, g2⟩

end Go.Abs
