/- What a call changes: all old blocks but some are as they were. -/
import Derived.Test.YtickckpndpeppaaA26
set_option linter.unusedVariables false
set_option linter.unusedSimpArgs false
namespace Go.Abs
open Go Go.RowKit

/-- New blocks may have come; of the old ones only these may have changed. -/
structure Chg (S : List Nat) (H H' : AH) : Prop where
  ro : H'.ro = H.ro
  n : H.n ≤ H'.n
  old : ∀ i, i < H.n → i ∉ S → H'.rw[i]? = H.rw[i]?
  wr : ∀ i, H'.wr i → H.wr i ∨ i ∈ S ∨ H.n ≤ i

theorem Chg.refl (S : List Nat) (H : AH) : Chg S H H := ⟨rfl, Nat.le_refl _, fun _ _ _ => rfl, fun _ h => .inl h⟩
theorem Chg.mono {S S' : List Nat} {H H' : AH} (h : Chg S H H') (hs : ∀ i ∈ S, i ∈ S') : Chg S' H H' := ⟨h.ro, h.n, fun i hi hn => h.old i hi fun hm => hn (hs i hm), fun i hi => (h.wr i hi).imp id (.imp (hs i) id)⟩
/-- New blocks of the first step may be changed by the second one. -/
theorem Chg.trans' {S S' : List Nat} {H H' H'' : AH} (h : Chg S H H') (k : Chg S' H' H'') (hs : ∀ i ∈ S', i ∈ S ∨ H.n ≤ i) : Chg S H H'' :=
  ⟨k.ro.trans h.ro, Nat.le_trans h.n k.n, fun i hi hn => (k.old i (Nat.lt_of_lt_of_le hi h.n) fun hm => by rcases hs i hm with h1 | h1; exact hn h1; omega).trans (h.old i hi hn), fun i hi => by
    rcases k.wr i hi with h1 | h1 | h1
    · exact h.wr i h1
    · exact .inr (hs i h1)
    · exact .inr (.inr (Nat.le_trans h.n h1))⟩
theorem Chg.trans {S : List Nat} {H H' H'' : AH} (h : Chg S H H') (k : Chg S H' H'') : Chg S H H'' := h.trans' k fun i hi => .inl hi
theorem Grew.chg {H H' : AH} (h : Grew H H') (S : List Nat) : Chg S H H' := ⟨h.ro, h.n, fun i hi _ => h.old i hi, fun i hi => (h.wr i hi).imp id .inr⟩
theorem Chg.grew {S : List Nat} {H H' : AH} (h : Chg S H H') (hs : ∀ i ∈ S, H.n ≤ i) : Grew H H' := ⟨h.ro, h.n, fun i hi => h.old i hi fun hm => by have := hs i hm; omega, fun i hi => (h.wr i hi).imp id fun e => e.elim (hs i) id⟩
theorem Chg.set (H : AH) (i : Nat) (b : Option ABlk) {S : List Nat} (hi : i ∈ S) : Chg S H (H.set i b) := ⟨rfl, by rw [set_n]; exact Nat.le_refl _, fun j hj hn => by
  simp only [AH.set]; rw [List.getElem?_set, if_neg (fun e : i = j => hn (by rw [← e]; exact hi))], fun j hj => hj.elim (fun e => .inr (.inl (e ▸ hi))) .inl⟩
theorem Chg.thenSet {S : List Nat} {H H' : AH} (h : Chg S H H') {i : Nat} (b : Option ABlk) (hi : i ∈ S ∨ H.n ≤ i) : Chg S H (H'.set i b) :=
  h.trans' (Chg.set H' i b (S := [i]) (by simp)) fun j hj => by simp at hj; subst hj; exact hi
theorem Chg.cells {S : List Nat} {H H' : AH} (h : Chg S H H') {i : Nat} (hi : i ∉ S) {l : List AV} (hc : H.cells? i = some l) : H'.cells? i = some l := by
  have := cells_lt hc
  unfold AH.cells? at *
  rw [h.old i this hi]
  exact hc

/-- A slice that lies in none of these blocks. -/
def offB (S : List Nat) : AV → Prop
  | .slice a _ _ => a.ro = true ∨ a.blk ∉ S
  | .ptr a => a.ro = true ∨ a.blk ∉ S
  | _ => True

theorem Chg.get {S : List Nat} {H H' : AH} (h : Chg S H H') {a : AAddr} (ha : a.ro = true ∨ a.blk ∉ S) {l : List AV} (hl : H.get a = some l) : H'.get a = some l := by
  unfold AH.get at *
  split
  · rename_i hr; rw [if_pos hr] at hl; rw [h.ro]; exact hl
  · rename_i hr
    rw [if_neg hr] at hl
    rcases ha with h1 | h1
    · exact absurd h1 hr
    · exact h.cells h1 hl
theorem Chg.row {S : List Nat} {H H' : AH} (h : Chg S H H') {sz : Nat} {v : AV} (ho : offB S v) {l : List AV} (hl : rowA H sz v = some l) : rowA H' sz v = some l := by
  cases v with
  | nilslice => exact hl
  | slice a n c =>
    simp only [rowA] at hl ⊢
    obtain ⟨cs, h1, h2⟩ := Option.bind_eq_some_iff.1 hl
    rw [h.get ho h1]
    exact h2
  | _ => simp only [rowA] at hl; cases hl
theorem Row.chg {S : List Nat} {H H' : AH} {sz : Nat} {v : AV} {n : Nat} {cs : List AV} (k : Row H sz v n cs) (h : Chg S H H') (ho : offB S v) : Row H' sz v n cs := ⟨h.row ho k.row, k.len, k.sl⟩
theorem IsBytes.chg {S : List Nat} {H H' : AH} {v : AV} {xs : List UInt8} (k : IsBytes H v xs) (h : Chg S H H') (ho : offB S v) : IsBytes H' v xs := ⟨h.row ho k.row, k.len, k.sl⟩
theorem IsNums.chg {S : List Nat} {H H' : AH} {k : IntKind} {v : AV} {xs : List Int} (g : IsNums k H v xs) (h : Chg S H H') (ho : offB S v) : IsNums k H' v xs := ⟨h.row ho g.row, g.len, g.sl⟩

theorem get_lt {H : AH} {a : AAddr} {l : List AV} (h : H.get a = some l) : a.ro = true ∨ a.blk < H.n := by
  unfold AH.get at h
  split at h
  · rename_i hr; exact .inl hr
  · exact .inr (cells_lt h)
/-- What was read in an older memory lies in none of the newer blocks. -/
theorem Row.off {H : AH} {sz : Nat} {v : AV} {n : Nat} {cs : List AV} (k : Row H sz v n cs) {S : List Nat} (hs : ∀ i ∈ S, H.n ≤ i) : offB S v := by
  rcases k.elim with ⟨rfl, _⟩ | ⟨a, c, l, rfl, hg, _⟩
  · trivial
  · rcases get_lt hg with h1 | h1
    · exact .inl h1
    · exact .inr fun hm => by have := hs _ hm; omega
theorem IsBytes.off {H : AH} {v : AV} {xs : List UInt8} (k : IsBytes H v xs) {S : List Nat} (hs : ∀ i ∈ S, H.n ≤ i) : offB S v := k.toRow.off hs
theorem off_blk {S : List Nat} {b o n : Nat} {c : Cap} (h : b ∉ S) : offB S (.slice ⟨false, b, o⟩ n c) := .inr h

/-- A byte is stored in a slice. -/
theorem IsBytes.store {H : AH} {B o n : Nat} {c : Cap} {xs : List UInt8} (h : IsBytes H (.slice ⟨false, B, o⟩ n c) xs) {i : Nat} (hi : i < xs.length) :
    ∃ l0, H.cells? B = some l0 ∧ o + i < l0.length ∧ ∀ z, IsBytes (H.set B (some (.cells (l0.set (o + i) (bv z))))) (.slice ⟨false, B, o⟩ n c) (xs.set i z) := by
  obtain ⟨h1, h2, h3⟩ := h
  simp only [slen] at h2
  subst h2
  simp only [rowA, get_rw] at h1
  obtain ⟨l0, g1, g2⟩ := Option.bind_eq_some_iff.1 h1
  split at g2
  · rename_i hle
    injection g2 with g2
    refine ⟨l0, g1, by omega, fun z => ⟨?_, by simp [slen], h3⟩⟩
    simp only [rowA, get_rw, set_cells H _ (cells_lt g1), Option.bind_some, List.length_set]
    rw [if_pos hle, Option.some_inj, List.map_set, ← g2, Nat.mul_one, List.drop_set]
    rw [if_neg (by omega), List.take_set, show o + i - o = i by omega]
  · cases g2
theorem IsBytes.isSome {H : AH} {B o n : Nat} {c : Cap} {xs : List UInt8} (h : IsBytes H (.slice ⟨false, B, o⟩ n c) xs) : (H.cells? B).isSome = true := by
  have h1 := h.row
  simp only [rowA, get_rw] at h1
  obtain ⟨l0, g1, g2⟩ := Option.bind_eq_some_iff.1 h1
  simp [g1]
theorem IsBytes.blk_lt {H : AH} {B o n : Nat} {c : Cap} {xs : List UInt8} (h : IsBytes H (.slice ⟨false, B, o⟩ n c) xs) : B < H.n := by
  have h1 := h.row
  simp only [rowA, get_rw] at h1
  obtain ⟨l0, g1, g2⟩ := Option.bind_eq_some_iff.1 h1
  exact cells_lt g1
theorem IsBytes.len' {H : AH} {a : AAddr} {n : Nat} {c : Cap} {xs : List UInt8} (h : IsBytes H (.slice a n c) xs) : n = xs.length := h.len

/-! so much of a list is turned -/
theorem mix_len {α : Type} (zs xs : List α) {i : Nat} (h : zs.length = xs.length) : (zs.take i ++ xs.drop i).length = xs.length := by simp; omega
theorem mix_step {α : Type} (d : α) (zs xs : List α) {i : Nat} (h1 : i < zs.length) (h2 : i < xs.length) : (zs.take i ++ xs.drop i).set i (zs.getD i d) = zs.take (i + 1) ++ xs.drop (i + 1) := by
  have h3 : xs.drop i = xs[i] :: xs.drop (i + 1) := List.drop_eq_getElem_cons h2
  have h4 : zs.take (i + 1) = zs.take i ++ [zs[i]] := (List.take_append_getElem h1).symm
  rw [h3, h4, List.set_append_right _ _ (by simp; omega), List.length_take, show i - min i zs.length = 0 by omega, List.set_cons_zero, List.append_assoc]
  simp only [List.getD, List.getElem?_eq_getElem h1, Option.getD_some]
  rfl
theorem mix_get {α : Type} (d : α) (zs xs : List α) {i : Nat} (h1 : i ≤ zs.length) : (zs.take i ++ xs.drop i).getD i d = xs.getD i d := by
  simp only [List.getD]
  rw [List.getElem?_append_right (by simp; omega), List.length_take, List.getElem?_drop]
  congr 2; omega
theorem mix_end {α : Type} (zs xs : List α) {n : Nat} (h1 : zs.length ≤ n) (h2 : xs.length ≤ n) : zs.take n ++ xs.drop n = zs := by rw [List.take_of_length_le h1, List.drop_of_length_le h2, List.append_nil]
/-! a grown slice that is empty: nil or not -/
theorem RVL.split {b : Nat} {ι : List Loc} : ∀ {l m : List AV} {ys : List Value}, RVL b ι (l ++ m) ys → ∃ ys1 ys2, ys = ys1 ++ ys2 ∧ RVL b ι l ys1 ∧ RVL b ι m ys2
  | [], m, ys, h => ⟨[], ys, rfl, by unfold RVL; rfl, h⟩
  | x :: l, m, ys, h => by
    rw [List.cons_append] at h
    unfold RVL at h
    obtain ⟨y, zs, rfl, h1, h2⟩ := h
    obtain ⟨ys1, ys2, rfl, h3, h4⟩ := RVL.split h2
    exact ⟨y :: ys1, ys2, rfl, by unfold RVL; exact ⟨y, ys1, rfl, h1, h3⟩, h4⟩
theorem aspec_nil {P : Program} {f : FuncId} {H : AH} {Q : AV → AH → Prop} {pre post : List AV} {v : AV} {sz : Nat} (hr : Row H sz v 0 []) (h0 : ASpec P f (pre ++ .nilslice :: post) H Q)
    (h1 : ∀ a c, Row H sz (.slice a 0 (.known c)) 0 [] → ASpec P f (pre ++ .slice a 0 (.known c) :: post) H Q) : ASpec P f (pre ++ v :: post) H Q := by
  rcases hr.elim with ⟨rfl, _, _⟩ | ⟨a, c, l, rfl, hg, _, _⟩
  · exact h0
  · cases c with
    | known c => exact h1 a c hr
    | grow g =>
      have hro : a.ro = false := by have := hr.sl; simp only [okSl, Bool.and_eq_true, Bool.not_eq_true'] at this; exact this.2
      refine fun w0 ι w cargs hrep hargs => ?_
      obtain ⟨ys1, ys2, e, k1, k2⟩ := RVL.split hargs
      unfold RVL at k2
      obtain ⟨y, zs, rfl, k2, k3⟩ := k2
      have go : ∀ v', RV w0.heap.size ι v' y → RVL w0.heap.size ι (pre ++ v' :: post) cargs.toList := fun v' hv => by
        rw [e]; exact k1.append (by unfold RVL; exact ⟨y, zs, rfl, hv, k3⟩)
      have row0 : ∀ c', Row H sz (.slice a 0 (.known c')) 0 [] := fun c' => ⟨by simp only [rowA, hg, Option.bind_some]; rw [if_pos (.inr (by simp))]; simp, rfl, by simp [okSl]⟩
      have rowr : Row H sz (.slice ⟨true, 0, 0⟩ 0 (.known 0)) 0 [] := ⟨by simp only [rowA, get_ro, Option.bind_some]; rw [if_pos (.inr (by simp))]; simp, rfl, by simp [okSl]⟩
      have alive : (H.cells? a.blk).isSome = true := by unfold AH.get at hg; rw [hro] at hg; simp at hg; simp [hg]
      unfold RV RSlice at k2
      rw [if_neg (by simp [hro])] at k2
      rcases live_at hrep alive with hl | hl | ⟨B, O, m, hl⟩
      · rw [hl] at k2; exact k2.elim
      · rw [hl] at k2
        obtain ⟨_, ⟨q, rfl⟩, _⟩ := k2
        cases q with
        | none => exact h0 w0 ι w cargs hrep (go _ (by unfold RV; rfl))
        | some p => exact (h1 _ _ rowr) w0 ι w cargs hrep (go _ (by unfold RV RSlice; rw [if_pos rfl]; exact ⟨0, rfl, Nat.le_refl _, .inr ⟨rfl, p, rfl⟩⟩))
      · rw [hl] at k2
        rcases k2 with ⟨C, h2, h3, h4⟩ | ⟨_, p, h4⟩
        · exact (h1 _ _ (row0 C)) w0 ι w cargs hrep (go _ (by unfold RV RSlice; rw [if_neg (by simp [hro]), hl]; exact ⟨h2, .inl h4⟩))
        · exact (h1 _ _ (row0 0)) w0 ι w cargs hrep (go _ (by unfold RV RSlice; rw [if_neg (by simp [hro]), hl]; exact ⟨Nat.le_refl _, .inr ⟨rfl, p, h4⟩⟩))
theorem AO_makeFunc {P : Program} {ops : Array Oper} {Q : AFr → AH → Prop} {rest : List Oper} {fr : AFr} {H : AH} {ty : TypeId} {ps : String} {af : Array Edge} {d : Tmp} {f : FuncId} {cap : Array Operand} : AOps P ops Q (⟨some d, .makeFunc (.func f) #[] cap, ty, ps, af, none⟩ :: rest) fr H = AOps P ops Q rest (lput fr d (.func f (cap.toList.map (aeval fr)))) H := by
  rw [AOps_cons]; simp only [guardA, ifG, callA, callOr, opA, putA, List.size_toArray, List.length_nil, if_true, opThen]
theorem AO_callT0 {P : Program} {ops : Array Oper} {Q : AFr → AH → Prop} {rest : List Oper} {fr : AFr} {H : AH} {ty : TypeId} {ps : String} {af : Array Edge} {g : Tmp} {args : Array Operand} {ts : Array TypeId} : AOps P ops Q (⟨none, .call ⟨.value (.tmp g), args, ts⟩, ty, ps, af, none⟩ :: rest) fr H = callOr (match lget fr g with | .func f l => some (f, args.toList.map (aeval fr) ++ l) | _ => none) (fun f as => ASpec P f as H fun r H' => AOps P ops Q rest fr H') False := by
  rw [AOps_cons]; simp only [guardA, ifG, callA, opA, putA, aeval, opThen]
  all_goals rfl
attribute [go_sem] AO_makeFunc AO_callT0
/-- What is laid in a new slice, and handed on. -/
theorem news_push {H : AH} {l : List AV} {i n sz : Nat} {c : Cap} (hi : i = H.n) (h : l.length = n * sz) : newsA (H.push (some (.cells l))) sz (.slice ⟨false, i, 0⟩ n c) = some (n, l) := by
  subst hi
  simp only [newsA, row_whole (push_cells H l) h c, Option.map_some]
attribute [go_sem] news_push
/-- What is gathered lies in new blocks. -/
theorem Acc.off {sz : Nat} {H0 H : AH} {b : AV} {n : Nat} {cs : List AV} (h : Acc sz H0 H b n cs) {S : List Nat} (hs : ∀ i ∈ S, i < H0.n) : offB S b := by
  rcases h.is with ⟨rfl, _⟩ | ⟨B, rfl, hB, _⟩
  · trivial
  · exact .inr fun hm => by have := hs _ hm; simp only at this; omega
/-- A byte of a slice, to be read and stored. -/
theorem IsBytes.cell {H : AH} {B o n : Nat} {c : Cap} {xs : List UInt8} (h : IsBytes H (.slice ⟨false, B, o⟩ n c) xs) {i : Nat} (hi : i < xs.length) :
    ∃ l0, H.cells? B = some l0 ∧ o + i < l0.length ∧ l0[o + i]? = some (bv (xs.getD i 0)) ∧ ∀ z, IsBytes (H.set B (some (.cells (l0.set (o + i) (bv z))))) (.slice ⟨false, B, o⟩ n c) (xs.set i z) := by
  obtain ⟨l0, h1, h2, h3⟩ := h.store hi
  refine ⟨l0, h1, h2, ?_, h3⟩
  have := h.ld hi
  simp only [eltA, get_rw, h1, Option.bind_some, Nat.mul_one] at this
  exact this
theorem IsBytes.ixS {H : AH} {B o n : Nat} {c : Cap} {xs : List UInt8} (h : IsBytes H (.slice ⟨false, B, o⟩ n c) xs) {P : Program} {t e : TypeId} (ht : P.underlying t = some (.slice e)) (hs : sizeA P e = some 1) {k : IntKind} {i : Nat} (hi : i < xs.length) :
    indexAddrA P t (.slice ⟨false, B, o⟩ n c) (.int k i) = some (.ptr ⟨false, B, o + i⟩) := by
  rw [h.ix ht hs (by omega) (by omega)]
  simp [eltA]
end Go.Abs

namespace Go.Abs.GF
end Go.Abs.GF
