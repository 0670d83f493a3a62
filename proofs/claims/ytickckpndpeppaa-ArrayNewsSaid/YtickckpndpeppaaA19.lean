/- Regions that draw their order: one order is enough, where what may come at another time reads the same. -/
import Derived.Test.YtickckpndpeppaaA18
import Derived.OrdersHeld
set_option linter.unusedVariables false
set_option linter.unusedSimpArgs false
namespace Go.Abs
open Go Go.RowKit

/-- Values that one world and the next spell alike. -/
def rigidA (H : AH) : AV → Bool
  | .bool _ | .int .. | .str _ | .nilptr | .nilslice | .nilfunc | .nilif => true
  | .ptr a => a.ro || (H.cells? a.blk).isSome
  | .slice a _ (.known c) => decide (0 < c) && (a.ro || (H.cells? a.blk).isSome)
  | .agg l => plainL l
  | _ => false

theorem LocLe.trans {ι ι' ι'' : List Loc} (h : LocLe ι ι') (k : LocLe ι' ι'') : LocLe ι ι'' := fun i L hl => by
  rcases h i L hl with h1 | ⟨h1, h2⟩
  · exact k i L h1
  · rcases k i _ h1 with h3 | ⟨h3, _⟩
    · exact .inr ⟨h3, h2⟩
    · exact .inr ⟨h3, h2⟩

theorem live_at {w0 w : World} {ι : List Loc} {H : AH} (h : Rep w0 ι H w) {i : Nat} (hc : (H.cells? i).isSome = true) : ι[i]? = some .pend ∨ ι[i]? = some .nil ∨ ∃ B O m, ι[i]? = some (.at B O m) := by
  obtain ⟨l, hl⟩ := Option.isSome_iff_exists.1 hc
  rcases h.blk i l (cells?_some hl) with h1 | ⟨h1, _⟩ | ⟨B, O, m, h1, _⟩
  · exact .inl h1
  · exact .inr (.inl h1)
  · exact .inr (.inr ⟨B, O, m, h1⟩)

theorem live_same {w0 w' : World} {ι ι' : List Loc} {H' : AH} (h' : Rep w0 ι' H' w') (le : LocLe ι ι') {i : Nat} {B O m : Nat} (ha : ι[i]? = some (.at B O m)) (hc : (H'.cells? i).isSome = true) : ι'[i]? = some (.at B O m) := by
  rcases le i _ ha with h1 | ⟨h1, _⟩
  · exact h1
  · rcases live_at h' hc with h2 | h2 | ⟨B', O', m', h2⟩ <;> rw [h1] at h2 <;> cases h2

theorem rigid_eq {w0 w w' : World} {ι ι' : List Loc} {H H' : AH} (h : Rep w0 ι H w) (h' : Rep w0 ι' H' w') (le : LocLe ι ι') {x : AV} (r : rigidA H x = true) (r' : rigidA H' x = true) {v v' : Value} (hv : RV w0.heap.size ι x v) (hv' : RV w0.heap.size ι' x v') : v' = v := by
  cases x with
  | ptr a =>
    unfold RV RPtr at hv hv'
    by_cases hro : a.ro = true
    · rw [if_pos hro] at hv hv'; rw [hv.2, hv'.2]
    · rw [if_neg hro] at hv hv'
      have hro' : a.ro = false := by simpa using hro
      simp only [rigidA, hro', Bool.false_or] at r r'
      rcases live_at h r with h1 | h1 | ⟨B, O, m, h1⟩
      · rw [h1] at hv; exact hv.elim
      · rw [h1] at hv; exact hv.elim
      · rw [h1] at hv
        rw [live_same h' le h1 r'] at hv'
        rw [hv, hv']
  | slice a n c =>
    cases c with
    | grow g => simp [rigidA] at r
    | known c =>
      simp only [rigidA, Bool.and_eq_true, decide_eq_true_eq] at r r'
      unfold RV RSlice at hv hv'
      by_cases hro : a.ro = true
      · rw [if_pos hro] at hv hv'
        obtain ⟨c1, hc1, _, hv⟩ := hv
        obtain ⟨c2, hc2, _, hv'⟩ := hv'
        injection hc1 with hc1
        injection hc2 with hc2
        subst hc1 hc2
        rcases hv with ⟨_, hv⟩ | ⟨hz, _⟩
        · rcases hv' with ⟨_, hv'⟩ | ⟨hz, _⟩
          · rw [hv, hv']
          · omega
        · omega
      · rw [if_neg hro] at hv hv'
        have hro' : a.ro = false := by simpa using hro
        simp only [hro', Bool.false_or] at r r'
        rcases live_at h r.2 with h1 | h1 | ⟨B, O, m, h1⟩
        · rw [h1] at hv; exact hv.elim
        · rw [h1] at hv; obtain ⟨_, _, sz, hc⟩ := hv; cases hc
        · rw [h1] at hv
          rw [live_same h' le h1 r'.2] at hv'
          obtain ⟨_, hv | ⟨hz, _⟩⟩ := hv
          · obtain ⟨_, hv' | ⟨hz, _⟩⟩ := hv'
            · rw [hv, hv']
            · omega
          · omega
  | agg l => exact RV_plain_eq (by simpa [rigidA, plainA] using r) hv hv'
  | bool _ => unfold RV at hv hv'; rw [hv, hv']
  | int _ _ => unfold RV at hv hv'; rw [hv, hv']
  | str _ => unfold RV at hv hv'; rw [hv, hv']
  | nilptr => unfold RV at hv hv'; rw [hv, hv']
  | nilslice => unfold RV at hv hv'; rw [hv, hv']
  | nilfunc => unfold RV at hv hv'; rw [hv, hv']
  | nilif => unfold RV at hv hv'; rw [hv, hv']
  | _ => simp [rigidA] at r

/-- Operations that hand a value on. -/
def copyOp : Op → Bool
  | .move _ | .assign _ | .pick .. | .extract .. | .slice .. | .build .. | .nilCheck _ => true
  | _ => false

/-- Operations that only look. -/
def stillOp : Op → Bool
  | .load .. | .binOp .. | .unOp .. | .slice .. | .fieldAddr .. | .field .. | .indexAddr .. | .index .. => true
  | .convert .. => true
  | .call { callee := .builtin .len, args := _, argTypes := _ } => true
  | .call { callee := .builtin .min, args := _, argTypes := _ } => true
  | .call { callee := .builtin .max, args := _, argTypes := _ } => true
  | _ => false

section
variable {P : Program} {w0 w : World} {ι : List Loc} {H : AH}

theorem steady_mapM {α β : Type} {f : α → Sem β} (hf : ∀ x, Steady P (f x)) : ∀ l : List α, Steady P (l.mapM f)
  | [] => by rw [List.mapM_nil]; exact steady_pure _
  | x :: l => by rw [List.mapM_cons]; exact steady_bind (hf x) fun _ => steady_bind (steady_mapM hf l) fun _ => steady_pure _
theorem steady_map {α β : Type} {f : α → β} {s : Sem α} (hs : Steady P s) : Steady P (f <$> s) := fun w z w' h u => by
  simp only [Sem.run_map] at h ⊢
  cases hr : s.run P w with
  | halt x w1 => rw [hr] at h; cases h
  | ok y w1 =>
    rw [hr] at h
    rw [hs w y w1 hr u]
    simp_all
theorem steady_zeroValue (t : TypeId) : Steady P (zeroValue t) := by
  unfold zeroValue
  refine steady_bind (steady_typeInfo t) fun i => ?_
  split
  · exact steady_pure _
  · exact (never_unsupported _).steady
theorem steady_build (t : TypeId) (q : Array (Nat × Value)) : Steady P (Instr.build t q) := by
  unfold Instr.build
  refine steady_bind (steady_zeroValue t) fun z => steady_bind (steady_underlying t) fun d => ?_
  split
  · refine steady_bind (by rw [Array.mapM_eq_mapM_toList]; exact steady_map (steady_mapM (fun f => steady_bind (steady_sizeOf _) fun _ => steady_pure _) _)) fun pl => ?_
    split
    · exact steady_pure _
    · exact (never_stuck _).steady
  · refine steady_bind (steady_sizeOf _) fun n => ?_
    split
    · exact steady_pure _
    · exact (never_stuck _).steady
  · exact (never_stuck _).steady

theorem opA_copy (h : Rep w0 ι H w) {fr : AFr} {a : Act} (hf : RFr w0.heap.size ι fr a.tmps) {o : Oper} {v : AV} {H' : AH} (hc : copyOp o.op = true) (ho : opA P fr H o.op = some (v, H')) :
    H' = H ∧ ∃ cv, (∀ w, (execOp a.eval o).run P w = .ok (.value cv) w) ∧ RV w0.heap.size ι v cv := by
  obtain ⟨dst, op, type, pos, after, guard⟩ := o
  simp only at ho hc
  cases op <;> simp only [copyOp, Bool.false_eq_true] at hc
  case move x => simp only [opA] at ho; injection ho with ho; injection ho with e1 e2; subst e1 e2; exact ⟨rfl, a.eval x, fun _ => rfl, aeval_ok hf x⟩
  case nilCheck x =>
    simp only [opA] at ho
    have hx := aeval_ok hf x
    split at ho
    · rename_i p hp
      injection ho with ho; injection ho with e1 e2; subst e1 e2
      rw [hp] at hx
      have hx' := hx
      unfold RV at hx
      obtain ⟨q, hq⟩ := RPtr_some hx
      exact ⟨rfl, a.eval x, fun w => by simp [execOp, hq], hx'⟩
    · rename_i f l hp
      injection ho with ho; injection ho with e1 e2; subst e1 e2
      rw [hp] at hx
      have hx' := hx
      unfold RV at hx
      obtain ⟨cs, hcs, _⟩ := hx
      exact ⟨rfl, a.eval x, fun w => by simp [execOp, hcs], hx'⟩
    · cases ho
  case assign x => simp only [opA] at ho; injection ho with ho; injection ho with e1 e2; subst e1 e2; exact ⟨rfl, a.eval x, fun _ => rfl, aeval_ok hf x⟩
  case pick c x y =>
    simp only [opA] at ho
    split at ho
    · rename_i t ht
      injection ho with ho; injection ho with e1 e2; subst e1 e2
      have hc := aeval_ok hf c
      rw [ht] at hc
      unfold RV at hc
      refine ⟨rfl, if t then a.eval x else a.eval y, fun w => by simp [execOp, hc, asBool], ?_⟩
      cases t
      · exact aeval_ok hf y
      · exact aeval_ok hf x
    · cases ho
  case extract x i =>
    simp only [opA] at ho
    have hx := aeval_ok hf x
    split at ho
    · rename_i l hl
      obtain ⟨v', hv, ho⟩ := Option.map_eq_some_iff.1 ho
      injection ho with e1 e2; subst e1 e2
      rw [hl] at hx
      unfold RV at hx
      obtain ⟨cs, hcs, hrl⟩ := hx
      obtain ⟨z, r1, r2⟩ := hrl.get hv
      rw [Array.getElem?_toList] at r1
      exact ⟨rfl, z, fun w => by simp [execOp, hcs, Instr.extract, r1], r2⟩
    · cases ho
  case build t q =>
    simp only [opA] at ho
    obtain ⟨v', hv, ho⟩ := Option.map_eq_some_iff.1 ho
    injection ho with e1 e2; subst e1 e2
    obtain ⟨p1, p2⟩ := parts_ok hf q
    obtain ⟨z, r1, r2⟩ := buildA_run (P := P) hv p1 p2 w
    have r3 := steady_build t _ w z w r1
    exact ⟨rfl, z, fun u => by simp [execOp, r3 u], r2⟩
  case slice t x lo hi mx =>
    simp only [opA] at ho
    obtain ⟨v', hv, ho⟩ := Option.map_eq_some_iff.1 ho
    injection ho with e1 e2; subst e1 e2
    obtain ⟨z, r1, r2⟩ := sliceOpA_run (P := P) hv (aeval_ok hf x) (opt_ok hf lo) (opt_ok hf hi) (opt_ok hf mx) w
    have r3 := steady_sliceAt t _ _ _ _ w z w r1
    exact ⟨rfl, z, fun u => by simp [execOp, r3 u], r2⟩

theorem opA_still (h : Rep w0 ι H w) {fr : AFr} {a : Act} (hf : RFr w0.heap.size ι fr a.tmps) {o : Oper} {v : AV} {H' : AH} (hc : stillOp o.op = true) (hr : ∀ a n c, v ≠ .slice a n c ∨ ∀ s d x, o.op ≠ .convert s d x) (ho : opA P fr H o.op = some (v, H')) :
    H' = H ∧ ∃ cv, (execOp a.eval o).run P w = .ok (.value cv) w ∧ RV w0.heap.size ι v cv := by
  have fin : ∀ {s : Sem Value} {z : Value}, s.run P w = .ok z w → (do pure (Next.value (← s)) : Sem Next).run P w = .ok (.value z) w := fun hs => by simp [hs]
  obtain ⟨dst, op, type, pos, after, guard⟩ := o
  simp only at ho hc hr
  cases op with
  | load t x =>
    simp only [opA] at ho
    split at ho
    · rename_i p hp
      obtain ⟨v', hv, ho⟩ := Option.map_eq_some_iff.1 ho
      injection ho with e1 e2; subst e1 e2
      have hx := aeval_ok hf x
      rw [hp] at hx
      unfold RV at hx
      obtain ⟨z, r1, r2⟩ := loadA_run (P := P) h hv hx
      exact ⟨rfl, z, fin r1, r2⟩
    · cases ho
  | binOp op t x y yt =>
    simp only [opA] at ho
    obtain ⟨v', hv, ho⟩ := Option.map_eq_some_iff.1 ho
    injection ho with e1 e2; subst e1 e2
    obtain ⟨z, r1, r2⟩ := binA_run (P := P) hv (aeval_ok hf x) (aeval_ok hf y) x y w
    exact ⟨rfl, z, fin r1, r2⟩
  | unOp op t x =>
    simp only [opA] at ho
    obtain ⟨v', hv, ho⟩ := Option.map_eq_some_iff.1 ho
    injection ho with e1 e2; subst e1 e2
    obtain ⟨z, r1, r2⟩ := unA_run (P := P) hv (aeval_ok hf x) w
    exact ⟨rfl, z, fin r1, r2⟩
  | slice t x lo hi mx =>
    simp only [opA] at ho
    obtain ⟨v', hv, ho⟩ := Option.map_eq_some_iff.1 ho
    injection ho with e1 e2; subst e1 e2
    obtain ⟨z, r1, r2⟩ := sliceOpA_run (P := P) hv (aeval_ok hf x) (opt_ok hf lo) (opt_ok hf hi) (opt_ok hf mx) w
    exact ⟨rfl, z, fin r1, r2⟩
  | fieldAddr s x f =>
    simp only [opA] at ho
    obtain ⟨v', hv, ho⟩ := Option.map_eq_some_iff.1 ho
    injection ho with e1 e2; subst e1 e2
    obtain ⟨z, r1, r2⟩ := fieldAddrA_run (P := P) hv (aeval_ok hf x) w
    exact ⟨rfl, z, fin r1, r2⟩
  | field t x f =>
    simp only [opA] at ho
    obtain ⟨v', hv, ho⟩ := Option.map_eq_some_iff.1 ho
    injection ho with e1 e2; subst e1 e2
    obtain ⟨z, r1, r2⟩ := fieldA_run (P := P) hv (aeval_ok hf x) w
    exact ⟨rfl, z, fin r1, r2⟩
  | indexAddr t x i =>
    simp only [opA] at ho
    obtain ⟨v', hv, ho⟩ := Option.map_eq_some_iff.1 ho
    injection ho with e1 e2; subst e1 e2
    obtain ⟨z, r1, r2⟩ := indexAddrA_run (P := P) hv (aeval_ok hf x) (aeval_ok hf i) w
    exact ⟨rfl, z, fin r1, r2⟩
  | index t x i =>
    simp only [opA] at ho
    obtain ⟨v', hv, ho⟩ := Option.map_eq_some_iff.1 ho
    injection ho with e1 e2; subst e1 e2
    obtain ⟨z, r1, r2⟩ := indexA_run (P := P) hv (aeval_ok hf x) (aeval_ok hf i) w
    exact ⟨rfl, z, fin r1, r2⟩
  | convert s d x =>
    simp only [opA] at ho
    have hx := aeval_ok hf x
    generalize aeval fr x = ax at ho hx
    unfold convertA at ho
    split at ho
    · rename_i ds k kk n hs hd
      injection ho with ho; injection ho with e1 e2; subst e1 e2
      unfold RV at hx
      refine ⟨rfl, .int k (k.wrap n), fin (s := convert s d (a.eval x)) ?_, rfl⟩
      rw [hx]
      cases ds <;> simp [convert, run_underlying hs, run_underlying hd, Conv.intToInt]
    · rename_i e _ hs hd
      split at ho
      · rename_i he
        obtain ⟨cs, hrow, ho⟩ := Option.bind_eq_some_iff.1 ho
        obtain ⟨bs, hb, ho⟩ := Option.map_eq_some_iff.1 ho
        injection ho with e1 e2; subst e1 e2
        have hrun := bytesToString_run (P := P) h hrow hb hx
        obtain ⟨q, C, hq, _⟩ := rowA_run (P := P) h hrow hx rfl
        refine ⟨rfl, _, fin (s := convert s d (a.eval x)) (by rw [hq] at hrun ⊢; simp [convert, run_underlying hs, run_underlying hd, run_underlying he, hrun]; rfl), by unfold RV; rfl⟩
      · cases ho
    · rename_i es e b n c hs hd
      split at ho
      · injection ho with ho; injection ho with e1 e2; subst e1
        rcases hr b n c with h1 | h1
        · exact absurd rfl h1
        · exact absurd rfl (h1 s d x)
      · cases ho
    · cases ho
  | call c =>
    obtain ⟨callee, args, argTypes⟩ := c
    cases callee with
    | builtin b =>
      simp only [opA] at ho
      have hy : RVL w0.heap.size ι (args.toList.map (aeval fr)) (args.map a.eval).toList := by rw [Array.toList_map]; exact ops_ok hf _
      simp only [execOp, resolve, invoke, pure_bind]
      generalize (args.map a.eval) = ys at hy ⊢
      obtain ⟨ys⟩ := ys
      simp only at hy
      obtain ⟨argTypes⟩ := argTypes
      simp only at ho ⊢
      cases b <;> simp only [stillOp, Bool.false_eq_true] at hc
      case len =>
        unfold builtinA at ho
        split at ho <;> try (rename_i h1; cases h1)
        all_goals try contradiction
        rename_i t x hxx
        obtain ⟨v', hl, ho⟩ := Option.map_eq_some_iff.1 ho
        injection ho with e1 e2; subst e1 e2
        rw [hxx] at hy
        simp only [RVL] at hy
        obtain ⟨y, m, rfl, h1, rfl⟩ := hy
        obtain ⟨z, r1, r2⟩ := lenA_run (P := P) hl h1 type w
        exact ⟨rfl, z, fin r1, r2⟩
      case min =>
        unfold builtinA at ho
        split at ho <;> try (rename_i h1; cases h1)
        all_goals try contradiction
        rename_i x l _ hxx
        obtain ⟨v', hl, ho⟩ := Option.map_eq_some_iff.1 ho
        injection ho with e1 e2; subst e1 e2
        rw [hxx] at hy
        simp only [RVL] at hy
        obtain ⟨y, m, rfl, h1, h2⟩ := hy
        obtain ⟨z, r1, r2⟩ := foldA_run (P := P) (w := w) (g := Builtin.min2) (fun h a b => min2A_run h a b) l m hl h1 h2
        exact ⟨rfl, z, fin (by simpa [builtin, Builtin.min_] using r1), r2⟩
      case max =>
        unfold builtinA at ho
        split at ho <;> try (rename_i h1; cases h1)
        all_goals try contradiction
        rename_i x l _ hxx
        obtain ⟨v', hl, ho⟩ := Option.map_eq_some_iff.1 ho
        injection ho with e1 e2; subst e1 e2
        rw [hxx] at hy
        simp only [RVL] at hy
        obtain ⟨y, m, rfl, h1, h2⟩ := hy
        obtain ⟨z, r1, r2⟩ := foldA_run (P := P) (w := w) (g := Builtin.max2) (fun h a b => max2A_run h a b) l m hl h1 h2
        exact ⟨rfl, z, fin (by simpa [builtin, Builtin.max_] using r1), r2⟩
    | _ => simp only [stillOp, Bool.false_eq_true] at hc
  | _ => simp only [stillOp, Bool.false_eq_true] at hc

end

/-- What holds of the world while a region draws: the places stand, the read-only memory is the same, and so much is known of the rest. -/
def Held (w0 : World) (ι : List Loc) (ro : Nat → List AV) (R : AH → Prop) (w : World) : Prop := ∃ ι' H', Rep w0 ι' H' w ∧ LocLe ι ι' ∧ R H' ∧ H'.ro = ro

def onlyN (QC : Exit → Act → World → Prop) : Exit → Act → World → Prop := fun e a w => e = .normal ∧ QC .normal a w

theorem wpAnyH_mono {P : Program} {md : Region.Mode} {ops : Array Oper} {Q : Exit → Act → World → Prop} {S S' : World → Prop} (hS : ∀ w, S' w → S w) : ∀ (fuel : Nat) (listed : Array Bool) (a : Act) (w : World), wpAnyH P md ops Q S' fuel listed a w → wpAnyH P md ops Q S fuel listed a w
  | 0, _, _, _, h => h
  | fuel + 1, listed, a, w, h => ⟨h.1, fun i hi => wpOp_mono (fun a' w' h' => ⟨hS _ h'.1, wpAnyH_mono hS fuel _ _ _ h'.2⟩) (h.2 i hi)⟩

def convOk : Op → AV → Bool
  | .convert .., .slice .. => false
  | _, _ => true

/-- An operation that may come at any time from here on: it reads the same whatever the others do meanwhile. -/
def StillAt (P : Program) (R : AH → Prop) (fr : AFr) (H : AH) (op : Op) (v : AV) : Prop :=
  copyOp op = true ∨ (stillOp op = true ∧ convOk op v = true ∧ rigidA H v = true ∧ ∀ H', R H' → H'.ro = H.ro → opA P fr H' op = some (v, H') ∧ rigidA H' v = true)

/-- A region in one of its orders: 'true' at what may come earlier or later, 'false' at what comes just then. -/
def DOps (P : Program) (ops : Array Oper) (R : AH → Prop) (Q : AFr → AH → Prop) : List (Option Oper × Bool) → AFr → AH → Prop
  | [], fr, H => Q fr H
  | (none, _) :: _, _, _ => False
  | (some o, true) :: rest, fr, H => ifG (guardA ops fr o) (DOps P ops R Q rest (putA fr o.dst (.tup [])) H) (opThen (opA P fr H o.op) fun v _ => StillAt P R fr H o.op v ∧ DOps P ops R Q rest (putA fr o.dst v) H)
  | (some o, false) :: rest, fr, H => AOps P ops (fun fr' H' => R H' ∧ DOps P ops R Q rest fr' H') [o] fr H

def drawOk (md : Region.Mode) (ops : Array Oper) : List (Nat × Bool) → Array Bool → Bool
  | [], listed => (Region.ready md ops listed).isEmpty
  | (i, true) :: l, listed => Region.free md ops listed i && (Region.ready md ops listed).contains i && drawOk md ops l (listed.setIfInBounds i true)
  | (i, false) :: l, listed => (Region.ready md ops listed == [i]) && drawOk md ops l (listed.setIfInBounds i true)

theorem DOps_sound {P : Program} {md : Region.Mode} {ops : Array Oper} {R : AH → Prop} {Q : AFr → AH → Prop} {N : Nat} {ds : List Deferred} {QC : Exit → Act → World → Prop} {w0 : World} (hsel : Region.noSelect ops = true) (hd : ∀ (i : Nat) (o : Oper), ops[i]? = some o → ∀ d, o.dst = some d → d < N)
    {ιs : List Loc} {Hs : AH} {ws : World} (hQ : ∀ fr' H' ι' a' w', Q fr' H' → St w0 ι' N ds fr' H' a' w' → Ext ιs Hs ws ι' H' w' → QC .normal a' w') :
    ∀ (l : List (Nat × Bool)) (listed : Array Bool) (fr : AFr) (H : AH) (a : Act) (w : World) (ι : List Loc), drawOk md ops l listed = true → DOps P ops R Q (l.map fun p => (ops[p.1]?, p.2)) fr H → St w0 ι N ds fr H a w → R H → Ext ιs Hs ws ι H w →
      wpAnyH P md ops (onlyN QC) (Held w0 ι H.ro R) l.length listed a w
  | [], listed, fr, H, a, w, ι, hok, h, hs, hR, he => by
    simp only [drawOk, List.isEmpty_iff] at hok
    exact wpAnyH_done hok ⟨rfl, hQ _ _ _ _ _ h hs he⟩ _
  | (i, true) :: l, listed, fr, H, a, w, ι, hok, h, hs, hR, he => by
    simp only [drawOk, Bool.and_eq_true] at hok
    obtain ⟨⟨hf, hr⟩, hok⟩ := hok
    simp only [List.map_cons] at h
    cases hi : ops[i]? with
    | none => rw [hi] at h; exact h.elim
    | some o =>
      rw [hi] at h
      simp only [DOps] at h
      have hheld : Held w0 ι H.ro R w := ⟨ι, H, hs.rep, LocLe.refl ι, hR, rfl⟩
      have hp : ∀ c a' (w' : World) (v : Value), onlyN QC (.panic c) (a'.put o.dst v) w' → onlyN QC (.panic c) a' w' := fun c a' w' v hh => by cases hh.1
      cases hg : guardA ops fr o with
      | none => rw [hg] at h; exact h.elim
      | some b =>
        rw [hg] at h
        have hw := guardA_ok hs hg
        cases b with
        | false =>
          simp only [ifG] at h
          exact wpAnyH_take (v := undef) hi hsel hf hr (fun c a' w' => hp c a' w' _) (.inr ⟨hw, rfl⟩) hheld
            (DOps_sound hsel hd hQ l _ _ H _ w ι hok h (hs.put (hd i o hi) hs.rep (LocLe.refl ι) RV_undef) hR he)
        | true =>
          simp only [ifG] at h
          cases ho : opA P fr H o.op with
          | none => rw [ho] at h; exact h.elim
          | some vh =>
            obtain ⟨v, H1⟩ := vh
            rw [ho] at h
            simp only [opThen] at h
            obtain ⟨hst, h⟩ := h
            have key : ∃ cv, YieldsIf P ops (Held w0 ι H.ro R) o cv a ∧ RV w0.heap.size ι v cv := by
              rcases hst with hc | ⟨hc, hconv, hrig, hall⟩
              · obtain ⟨_, cv, h1, h2⟩ := opA_copy hs.rep hs.fr hc ho
                exact ⟨cv, .inl ⟨hw, fun w' _ => h1 w'⟩, h2⟩
              · have hcv : ∀ a n c, v ≠ .slice a n c ∨ ∀ s d x, o.op ≠ .convert s d x := fun a' n c => by
                  by_cases hv : v = .slice a' n c
                  · right
                    intro s d x he
                    rw [he, hv] at hconv
                    cases hconv
                  · exact .inl hv
                obtain ⟨_, cv, h1, h2⟩ := opA_still hs.rep hs.fr hc hcv ho
                refine ⟨cv, .inl ⟨hw, fun w' hw' => ?_⟩, h2⟩
                obtain ⟨ι', H', hrep, hle, hRH, hro⟩ := hw'
                obtain ⟨g1, g2⟩ := hall H' hRH hro
                obtain ⟨_, cv', k1, k2⟩ := opA_still hrep (hs.fr.ext hle) hc hcv g1
                rw [k1, rigid_eq hs.rep hrep hle hrig g2 h2 k2]
            obtain ⟨cv, hy, hv⟩ := key
            exact wpAnyH_take (v := cv) hi hsel hf hr (fun c a' w' => hp c a' w' _) hy hheld
              (DOps_sound hsel hd hQ l _ _ H _ w ι hok h (hs.put (hd i o hi) hs.rep (LocLe.refl ι) hv) hR he)
  | (i, false) :: l, listed, fr, H, a, w, ι, hok, h, hs, hR, he => by
    simp only [drawOk, Bool.and_eq_true, beq_iff_eq] at hok
    obtain ⟨hr, hok⟩ := hok
    simp only [List.map_cons] at h
    cases hi : ops[i]? with
    | none => rw [hi] at h; exact h.elim
    | some o =>
      rw [hi] at h
      simp only [DOps] at h
      refine wpAnyH_all hr (by simp) fun j hj => ?_
      obtain rfl : j = i := by simpa using hj
      have step : ∀ fr1 H1 ι1 a1 w1, R H1 ∧ DOps P ops R Q (l.map fun p => (ops[p.1]?, p.2)) fr1 H1 → St w0 ι1 N ds fr1 H1 a1 w1 → Ext ι H w ι1 H1 w1 →
          Held w0 ι H.ro R w1 ∧ wpAnyH P md ops (onlyN QC) (Held w0 ι H.ro R) l.length (listed.setIfInBounds j true) a1 w1 := fun fr1 H1 ι1 a1 w1 hh hs1 he1 => by
        refine ⟨⟨ι1, H1, hs1.rep, he1.le, hh.1, he1.ro⟩, ?_⟩
        refine wpAnyH_mono (S' := Held w0 ι1 H1.ro R) ?_ _ _ _ _ (DOps_sound hsel hd hQ l _ fr1 H1 a1 w1 ι1 hok hh.2 hs1 hh.1 (he.trans he1))
        rintro w2 ⟨ι2, H2, k1, k2, k3, k4⟩
        exact ⟨ι2, H2, k1, he1.le.trans k2, k3, k4.trans he1.ro⟩
      unfold wpOp
      simp only [hi]
      simp only [AOps] at h
      cases hg : guardA ops fr o with
      | none => rw [hg] at h; exact h.elim
      | some b =>
        rw [hg] at h
        rw [guardA_ok hs hg]
        cases b with
        | false =>
          simp only at h
          simp only [Bool.false_eq_true, if_false]
          exact step _ _ ι _ w h (hs.put (hd j o hi) hs.rep (LocLe.refl ι) RV_undef) (Ext.refl _ _ _)
        | true =>
          simp only at h
          simp only [if_true]
          left
          cases hc : callA fr o.op with
          | some fa =>
            obtain ⟨f, args⟩ := fa
            rw [hc] at h
            simp only at h
            exact call_step hs hc (hd j o hi) h fun r H' ι' a' w' h1 h2 h3 => step _ _ _ _ _ h1 h2 h3
          | none =>
            rw [hc] at h
            simp only at h
            cases ho : opA P fr H o.op with
            | none => rw [ho] at h; exact h.elim
            | some vh =>
              obtain ⟨v, H'⟩ := vh
              rw [ho] at h
              exact op_step hs ho (hd j o hi) fun ι' a' w' h2 h3 => step _ _ _ _ _ h h2 h3

/-- A region that draws its order. -/
theorem awp_draw {P : Program} {N : Nat} {Q : Exit → AFr → AH → Prop} {fr : AFr} {H : AH} {id : Nat} {l : List Oper} (R : AH → Prop) (order : List (Nat × Bool)) (hm : P.follows .mixedOrders = true) (hd : dstsOk N l = true)
    (hok : (Region.noSelect l.toArray && order.length == l.length && drawOk .any l.toArray order (Array.replicate l.length false)) = true) (hR : R H)
    (h : DOps P l.toArray R (Q .normal) (order.map fun p => (l.toArray[p.1]?, p.2)) fr H) : AWp P N (.region id l.toArray true) Q fr H := fun ds w0 ι a w QC hs hQ => by
  simp only [Bool.and_eq_true, beq_iff_eq] at hok
  obtain ⟨⟨h1, h2⟩, h3⟩ := hok
  have hdr : ∀ (i : Nat) (o : Oper), l.toArray[i]? = some o → ∀ d, o.dst = some d → d < N := fun i o ho => dstsOk_spec hd o (List.mem_of_getElem? (by simpa using ho))
  obtain ⟨k0, k2⟩ := hs.rep.drew
  have k1 : St w0 ι N ds fr H a w.drew := ⟨k0, hs.fr, hs.size, hs.defers⟩
  refine wp_mono (Q := onlyN QC) (wp_region_held (S := Held w0 ι H.ro R) hm ?_) (fun e a w hh => hh.1 ▸ hh.2)
  have := DOps_sound (P := P) (md := .any) (QC := QC) h1 hdr (fun fr' H' ι' a' w' g1 g2 g3 => hQ .normal fr' H' ι' a' w' g1 g2 g3) order _ fr H a { w with drawn := w.drawn + 1 } ι h3 h k1 hR k2
  rw [h2] at this
  simpa using this

end Go.Abs
