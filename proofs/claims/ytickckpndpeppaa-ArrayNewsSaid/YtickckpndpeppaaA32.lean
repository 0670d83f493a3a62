/- Regions that draw their order where two operations that write are ready at once: a tree of orders. -/
import Derived.Test.YtickckpndpeppaaA27
set_option linter.unusedVariables false
set_option linter.unusedSimpArgs false
namespace Go.Abs
open Go Go.RowKit

/-- The orders: one that may float and is taken first; one operation just then; or one of two. -/
inductive OT where
  | nil
  | flt (i : Nat) (t : OT)
  | one (i : Nat) (t : OT)
  | two (i : Nat) (s : OT) (j : Nat) (t : OT)
def OT.len : OT → Nat
  | .nil => 0
  | .flt _ t => t.len + 1
  | .one _ t => t.len + 1
  | .two _ s _ t => s.len + 1

/-- It may float: it reads the same whatever the others do meanwhile. -/
def StillF (P : Program) (R : AH → Prop) (fr : AFr) (H : AH) (op : Op) (v : AV) : Prop :=
  (isLoad op = true ∧ loadRo fr op = true) ∨ StillAt P R fr H op v

def OneT (P : Program) (ops : Array Oper) (R : AH → Prop) (i : Nat) (K : AFr → AH → Prop) (fr : AFr) (H : AH) : Prop :=
  match ops[i]? with
  | none => False
  | some o => AOps P ops (fun fr' H' => R H' ∧ K fr' H') [o] fr H
def FltT (P : Program) (ops : Array Oper) (R : AH → Prop) (K : AFr → AH → Prop) : Option Oper → AFr → AH → Prop
  | none, _, _ => False
  | some o, fr, H => ifG (guardA ops fr o) (K (putA fr o.dst (.tup [])) H) (opThen (opA P fr H o.op) fun v _ => StillF P R fr H o.op v ∧ K (putA fr o.dst v) H)
def DT (P : Program) (ops : Array Oper) (R : AH → Prop) (Q : AFr → AH → Prop) : OT → AFr → AH → Prop
  | .nil, fr, H => Q fr H
  | .flt i t, fr, H => FltT P ops R (DT P ops R Q t) ops[i]? fr H
  | .one i t, fr, H => OneT P ops R i (DT P ops R Q t) fr H
  | .two i s j t, fr, H => OneT P ops R i (DT P ops R Q s) fr H ∧ OneT P ops R j (DT P ops R Q t) fr H

def treeOk (md : Region.Mode) (ops : Array Oper) : OT → Array Bool → Bool
  | .nil, listed => (Region.ready md ops listed).isEmpty
  | .flt i t, listed => Region.free md ops listed i && (Region.ready md ops listed).contains i && treeOk md ops t (listed.setIfInBounds i true)
  | .one i t, listed => (Region.ready md ops listed == [i]) && treeOk md ops t (listed.setIfInBounds i true)
  | .two i s j t, listed => (Region.ready md ops listed == [i, j]) && (s.len == t.len) && treeOk md ops s (listed.setIfInBounds i true) && treeOk md ops t (listed.setIfInBounds j true)

section
variable {P : Program} {md : Region.Mode} {ops : Array Oper} {R : AH → Prop} {Q : AFr → AH → Prop} {N : Nat} {ds : List Deferred} {QC : Exit → Act → World → Prop} {w0 : World}

/-- One operation of the tree. -/
theorem one_sound (hd : ∀ (i : Nat) (o : Oper), ops[i]? = some o → ∀ d, o.dst = some d → d < N) {i : Nat} {K : AFr → AH → Prop} {fr : AFr} {H : AH} {a : Act} {w : World} {ι : List Loc} {n : Nat} {listed : Array Bool} (h : OneT P ops R i K fr H) (hs : St w0 ι N ds fr H a w)
    (k : ∀ fr1 H1 ι1 a1 w1, K fr1 H1 → R H1 → St w0 ι1 N ds fr1 H1 a1 w1 → Ext ι H w ι1 H1 w1 → wpAnyH P md ops (onlyN QC) (Held w0 ι1 H1.ro R) n listed a1 w1) :
    wpOp P ops (onlyN QC) i (fun a' w' => Held w0 ι H.ro R w' ∧ wpAnyH P md ops (onlyN QC) (Held w0 ι H.ro R) n listed a' w') a w := by
  have step : ∀ fr1 H1 ι1 a1 w1, R H1 ∧ K fr1 H1 → St w0 ι1 N ds fr1 H1 a1 w1 → Ext ι H w ι1 H1 w1 →
      Held w0 ι H.ro R w1 ∧ wpAnyH P md ops (onlyN QC) (Held w0 ι H.ro R) n listed a1 w1 := fun fr1 H1 ι1 a1 w1 hh hs1 he1 => by
    refine ⟨⟨ι1, H1, hs1.rep, he1.le, hh.1, he1.ro⟩, ?_⟩
    refine wpAnyH_mono (S' := Held w0 ι1 H1.ro R) ?_ _ _ _ _ (k fr1 H1 ι1 a1 w1 hh.2 hh.1 hs1 he1)
    rintro w2 ⟨ι2, H2, k1, k2, k3, k4⟩
    exact ⟨ι2, H2, k1, he1.le.trans k2, k3, k4.trans he1.ro⟩
  unfold OneT at h
  cases hi : ops[i]? with
  | none => rw [hi] at h; exact h.elim
  | some o =>
    rw [hi] at h
    simp only at h
    unfold wpOp
    simp only [hi]
    simp only [AOps] at h
    cases hg : guardA ops fr o with
    | none => rw [hg] at h; exact h.elim
    | some b =>
      rw [hg] at h
      rw [guardA_ok hs hg]
      cases b with
      | false =>
        simp only at h
        simp only [Bool.false_eq_true, if_false]
        exact step _ _ ι _ w h (hs.put (hd i o hi) hs.rep (LocLe.refl ι) RV_undef) (Ext.refl _ _ _)
      | true =>
        simp only at h
        simp only [if_true]
        left
        cases hc : callA fr o.op with
        | some fa =>
          obtain ⟨f, args⟩ := fa
          rw [hc] at h
          simp only at h
          exact call_step hs hc (hd i o hi) h fun r H' ι' a' w' h1 h2 h3 => step _ _ _ _ _ h1 h2 h3
        | none =>
          rw [hc] at h
          simp only at h
          cases ho : opA P fr H o.op with
          | none => rw [ho] at h; exact h.elim
          | some vh =>
            obtain ⟨v, H'⟩ := vh
            rw [ho] at h
            exact op_step hs ho (hd i o hi) fun ι' a' w' h2 h3 => step _ _ _ _ _ h h2 h3

theorem DT_sound (hsel : Region.noSelect ops = true) (hd : ∀ (i : Nat) (o : Oper), ops[i]? = some o → ∀ d, o.dst = some d → d < N) {ιs : List Loc} {Hs : AH} {ws : World} (hQ : ∀ fr' H' ι' a' w', Q fr' H' → St w0 ι' N ds fr' H' a' w' → Ext ιs Hs ws ι' H' w' → QC .normal a' w') :
    ∀ (T : OT) (listed : Array Bool) (fr : AFr) (H : AH) (a : Act) (w : World) (ι : List Loc), treeOk md ops T listed = true → DT P ops R Q T fr H → St w0 ι N ds fr H a w → R H → Ext ιs Hs ws ι H w →
      wpAnyH P md ops (onlyN QC) (Held w0 ι H.ro R) T.len listed a w
  | .nil, listed, fr, H, a, w, ι, hok, h, hs, hR, he => by
    simp only [treeOk, List.isEmpty_iff] at hok
    exact wpAnyH_done hok ⟨rfl, hQ _ _ _ _ _ h hs he⟩ _
  | .flt i t, listed, fr, H, a, w, ι, hok, h, hs, hR, he => by
    simp only [treeOk, Bool.and_eq_true] at hok
    obtain ⟨⟨hf, hr⟩, hok⟩ := hok
    simp only [DT] at h
    show wpAnyH P md ops (onlyN QC) (Held w0 ι H.ro R) (t.len + 1) listed a w
    cases hi : ops[i]? with
    | none => rw [hi] at h; exact h.elim
    | some o =>
      rw [hi] at h
      simp only [FltT] at h
      have hheld : Held w0 ι H.ro R w := ⟨ι, H, hs.rep, LocLe.refl ι, hR, rfl⟩
      have hp : ∀ c a' (w' : World) (v : Value), onlyN QC (.panic c) (a'.put o.dst v) w' → onlyN QC (.panic c) a' w' := fun c a' w' v hh => by cases hh.1
      cases hg : guardA ops fr o with
      | none => rw [hg] at h; exact h.elim
      | some b =>
        rw [hg] at h
        have hw := guardA_ok hs hg
        cases b with
        | false =>
          simp only [ifG] at h
          exact wpAnyH_take (v := undef) hi hsel hf hr (fun c a' w' => hp c a' w' _) (.inr ⟨hw, rfl⟩) hheld
            (DT_sound hsel hd hQ t _ _ H _ w ι hok h (hs.put (hd i o hi) hs.rep (LocLe.refl ι) RV_undef) hR he)
        | true =>
          simp only [ifG] at h
          cases ho : opA P fr H o.op with
          | none => rw [ho] at h; exact h.elim
          | some vh =>
            obtain ⟨v, H1⟩ := vh
            rw [ho] at h
            simp only [opThen] at h
            obtain ⟨hst, h⟩ := h
            have key : ∃ cv, YieldsIf P ops (Held w0 ι H.ro R) o cv a ∧ RV w0.heap.size ι v cv := by
              rcases hst with ⟨hl1, hl2⟩ | hc | ⟨hc, hconv, hrig, hall⟩
              · obtain ⟨dst, op, type, pos, after, guard⟩ := o
                cases op <;> simp only [isLoad, Bool.false_eq_true] at hl1
                rename_i t x
                simp only [opA] at ho
                split at ho
                · rename_i pa hpa
                  obtain ⟨v', hv', ho⟩ := Option.map_eq_some_iff.1 ho
                  injection ho with e1 e2
                  subst e1
                  have hx := aeval_ok hs.fr x
                  rw [hpa] at hx
                  unfold RV at hx
                  obtain ⟨z, B, z1, z2, z3, _, z4⟩ := load_stable (P := P) hs.rep hv' hx
                  refine ⟨z, .inl ⟨hw, fun w' hw' => ?_⟩, z1⟩
                  obtain ⟨ι', H', hrep, hle, hRH, hro⟩ := hw'
                  have : pa.ro = true := by simpa [loadRo, hpa] using hl2
                  have hB := z3 this
                  have := z4 w' (.of (by rw [hrep.below.block B hB, hs.rep.below.block B hB]))
                  simp [execOp, this]
                · cases ho
              · obtain ⟨_, cv, h1, h2⟩ := opA_copy hs.rep hs.fr hc ho
                exact ⟨cv, .inl ⟨hw, fun w' _ => h1 w'⟩, h2⟩
              · have hcv : ∀ a n c, v ≠ .slice a n c ∨ ∀ s d x, o.op ≠ .convert s d x := fun a' n c => by
                  by_cases hv : v = .slice a' n c
                  · right
                    intro s d x he
                    rw [he, hv] at hconv
                    cases hconv
                  · exact .inl hv
                obtain ⟨_, cv, h1, h2⟩ := opA_still hs.rep hs.fr hc hcv ho
                refine ⟨cv, .inl ⟨hw, fun w' hw' => ?_⟩, h2⟩
                obtain ⟨ι', H', hrep, hle, hRH, hro⟩ := hw'
                obtain ⟨g1, g2⟩ := hall H' hRH hro
                obtain ⟨_, cv', k1, k2⟩ := opA_still hrep (hs.fr.ext hle) hc hcv g1
                rw [k1, rigid_eq hs.rep hrep hle hrig g2 h2 k2]
            obtain ⟨cv, hy, hv⟩ := key
            exact wpAnyH_take (v := cv) hi hsel hf hr (fun c a' w' => hp c a' w' _) hy hheld
              (DT_sound hsel hd hQ t _ _ H _ w ι hok h (hs.put (hd i o hi) hs.rep (LocLe.refl ι) hv) hR he)
  | .one i t, listed, fr, H, a, w, ι, hok, h, hs, hR, he => by
    simp only [treeOk, Bool.and_eq_true, beq_iff_eq] at hok
    obtain ⟨hr, hok⟩ := hok
    refine wpAnyH_all hr (by simp) fun j hj => ?_
    obtain rfl : j = i := by simpa using hj
    exact one_sound hd h hs fun fr1 H1 ι1 a1 w1 k1 k2 k3 k4 => DT_sound hsel hd hQ t _ fr1 H1 a1 w1 ι1 hok k1 k3 k2 (he.trans k4)
  | .two i s j t, listed, fr, H, a, w, ι, hok, h, hs, hR, he => by
    simp only [treeOk, Bool.and_eq_true, beq_iff_eq] at hok
    obtain ⟨⟨⟨hr, hl⟩, ok1⟩, ok2⟩ := hok
    refine wpAnyH_all hr (by simp) fun m hm => ?_
    by_cases hmi : m = i
    · subst hmi
      exact one_sound hd h.1 hs fun fr1 H1 ι1 a1 w1 k1 k2 k3 k4 => DT_sound hsel hd hQ s _ fr1 H1 a1 w1 ι1 ok1 k1 k3 k2 (he.trans k4)
    · obtain rfl : m = j := by simpa [hmi] using hm
      refine one_sound hd h.2 hs fun fr1 H1 ι1 a1 w1 k1 k2 k3 k4 => ?_
      show wpAnyH P md ops (onlyN QC) (Held w0 ι1 H1.ro R) s.len _ a1 w1
      rw [hl]
      exact DT_sound hsel hd hQ t _ fr1 H1 a1 w1 ι1 ok2 k1 k3 k2 (he.trans k4)

end

/-- A region that draws its order, over a tree. -/
theorem awp_tree {P : Program} {N : Nat} {Q : Exit → AFr → AH → Prop} {fr : AFr} {H : AH} {id : Nat} {l : List Oper} (R : AH → Prop) (T : OT) (hm : P.follows .mixedOrders = true) (hd : dstsOk N l = true)
    (hok : (Region.noSelect l.toArray && (T.len == l.length) && treeOk .any l.toArray T (Array.replicate l.length false)) = true) (hR : R H)
    (h : DT P l.toArray R (Q .normal) T fr H) : AWp P N (.region id l.toArray true) Q fr H := fun ds w0 ι a w QC hs hQ => by
  simp only [Bool.and_eq_true, beq_iff_eq] at hok
  obtain ⟨⟨h1, h2⟩, h3⟩ := hok
  have hdr : ∀ (i : Nat) (o : Oper), l.toArray[i]? = some o → ∀ d, o.dst = some d → d < N := fun i o ho => dstsOk_spec hd o (List.mem_of_getElem? (by simpa using ho))
  obtain ⟨k0, k2⟩ := hs.rep.drew
  have k1 : St w0 ι N ds fr H a w.drew := ⟨k0, hs.fr, hs.size, hs.defers⟩
  refine wp_mono (Q := onlyN QC) (wp_region_held (S := Held w0 ι H.ro R) hm ?_) (fun e a w hh => hh.1 ▸ hh.2)
  have := DT_sound (P := P) (md := .any) (QC := QC) (R := R) h1 hdr (fun fr' H' ι' a' w' g1 g2 g3 => hQ .normal fr' H' ι' a' w' g1 g2 g3) T _ fr H a { w with drawn := w.drawn + 1 } ι h3 h k1 hR k2
  rw [h2] at this
  simpa using this

/-! for simp -/
def optThen {α : Type} : Option α → (α → Prop) → Prop
  | none, _ => False
  | some x, k => k x
section
variable {P : Program} {ops : Array Oper} {R : AH → Prop} {Q : AFr → AH → Prop} {rest : List (Option Oper)} {K : AFr → AH → Prop} {fr : AFr} {H : AH} {ty : TypeId} {ps : String} {af : Array Edge} {d : Tmp}
theorem DT_nil : DT P ops R Q .nil fr H = Q fr H := nr rfl
theorem DT_flt {i : Nat} {t : OT} : DT P ops R Q (.flt i t) fr H = FltT P ops R (DT P ops R Q t) ops[i]? fr H := nr rfl
theorem DT_fltO {i : Nat} {t : OT} : DT P ops R Q (.flt i t) fr H = optThen ops[i]? fun o => FltT P ops R (DT P ops R Q t) (some o) fr H := by
  rw [DT_flt]
  unfold optThen
  cases ops[i]? <;> rfl
theorem DT_one {i : Nat} {t : OT} : DT P ops R Q (.one i t) fr H = OneT P ops R i (DT P ops R Q t) fr H := nr rfl
theorem DT_two {i j : Nat} {s t : OT} : DT P ops R Q (.two i s j t) fr H = (OneT P ops R i (DT P ops R Q s) fr H ∧ OneT P ops R j (DT P ops R Q t) fr H) := nr rfl
theorem OneT_eq {i : Nat} : OneT P ops R i K fr H = (match ops[i]? with | none => False | some o => AOps P ops (fun fr' H' => R H' ∧ K fr' H') [o] fr H) := nr rfl
theorem OneT_opt {i : Nat} : OneT P ops R i K fr H = optThen ops[i]? fun o => AOps P ops (fun fr' H' => R H' ∧ K fr' H') [o] fr H := by
  unfold OneT optThen
  cases ops[i]? <;> rfl
theorem optThen_some {α : Type} {x : α} {k : α → Prop} : optThen (some x) k = k x := nr rfl
theorem F_move {x : Operand} : FltT P ops R K (some ⟨some d, .move x, ty, ps, af, none⟩) fr H = K (lput fr d (aeval fr x)) H := by
  simp [FltT, guardA, ifG, putA, opA, opThen, StillF, StillAt, copyOp]
theorem F_assign {x : Operand} : FltT P ops R K (some ⟨some d, .assign x, ty, ps, af, none⟩) fr H = K (lput fr d (aeval fr x)) H := by
  simp [FltT, guardA, ifG, putA, opA, opThen, StillF, StillAt, copyOp]
theorem F_extract {x : Operand} {n : Nat} : FltT P ops R K (some ⟨some d, .extract x n, ty, ps, af, none⟩) fr H = opThen (match aeval fr x with | .tup l => (l[n]?).map fun v => (v, H) | _ => none) fun v _ => K (lput fr d v) H := by
  simp only [FltT, guardA, ifG, putA, opA, StillF, StillAt, show copyOp (.extract x n) = true from rfl, true_or, or_true, true_and]
  rfl
theorem F_slice {t : TypeId} {x : Operand} {lo hi mx : Option Operand} : FltT P ops R K (some ⟨some d, .slice t x lo hi mx, ty, ps, af, none⟩) fr H = opThen ((sliceOpA P t (aeval fr x) (lo.map (aeval fr)) (hi.map (aeval fr)) (mx.map (aeval fr))).map fun v => (v, H)) fun v _ => K (lput fr d v) H := by
  simp only [FltT, guardA, ifG, putA, opA, StillF, StillAt, show copyOp (.slice t x lo hi mx) = true from rfl, true_or, or_true, true_and]
theorem F_indexAddr {t : TypeId} {x y : Operand} : FltT P ops R K (some ⟨some d, .indexAddr t x y, ty, ps, af, none⟩) fr H = opThen ((indexAddrA P t (aeval fr x) (aeval fr y)).map fun v => (v, H)) fun v _ => rigR R H v ∧ K (lput fr d v) H := by
  simp only [FltT, guardA, ifG, putA, opA]
  cases h : indexAddrA P t (aeval fr x) (aeval fr y) with
  | none => rfl
  | some v =>
    simp only [Option.map_some, opThen, StillF, isLoad, StillAt, copyOp, stillOp, convOk, Bool.false_eq_true, false_and, false_or, true_and, rigR, opA, h]
theorem F_load {t : TypeId} {x : Operand} : FltT P ops R K (some ⟨some d, .load t x, ty, ps, af, none⟩) fr H = opThen (match aeval fr x with | .ptr p => (loadA P t p H).map fun v => (v, H) | _ => none) fun v _ => (roV (aeval fr x) = true ∨ sameR R H (fun H' => opA P fr H' (.load t x)) v) ∧ K (lput fr d v) H := by
  simp only [FltT, guardA, ifG, putA, opA]
  have : ∀ v, StillF P R fr H (.load t x) v = (roV (aeval fr x) = true ∨ sameR R H (fun H' => opA P fr H' (.load t x)) v) := fun v => by
    simp only [StillF, isLoad, loadRo, StillAt, copyOp, stillOp, convOk, Bool.false_eq_true, false_or, true_and, sameR, rigR]
    refine propext ⟨fun h => h.imp (fun h => by cases hx : aeval fr x <;> simp_all [roV]) fun ⟨h1, h2⟩ => ⟨⟨h1, fun H' a b => (h2 H' a b).2⟩, fun H' a b => (h2 H' a b).1⟩, fun h => h.imp (fun h => by cases hx : aeval fr x <;> simp_all [roV]) fun ⟨⟨h1, h2⟩, h3⟩ => ⟨h1, fun H' a b => ⟨h3 H' a b, h2 H' a b⟩⟩⟩
  simp only [this]
  rfl
end
theorem FltT_c {P : Program} {ops : Array Oper} {R : AH → Prop} {K : AFr → AH → Prop} {o : Option Oper} {fr fr' : AFr} {H H' : AH} (h1 : mark fr = fr') (h2 : mark H = H') : FltT P ops R K o fr H = FltT P ops R K o fr' H' := by rw [← h1, ← h2, mark_eq, mark_eq]
theorem DT_c {P : Program} {ops : Array Oper} {R : AH → Prop} {Q : AFr → AH → Prop} {T : OT} {fr fr' : AFr} {H H' : AH} (h1 : mark fr = fr') (h2 : mark H = H') : DT P ops R Q T fr H = DT P ops R Q T fr' H' := by rw [← h1, ← h2, mark_eq, mark_eq]
theorem optThen_c {α : Type} {o o' : Option α} {k : α → Prop} (h : mark o = o') : optThen o k = optThen o' k := by rw [← h, mark_eq]
attribute [congr] FltT_c DT_c optThen_c
theorem ops_at {l : List Oper} {i : Nat} : l.toArray[i]? = l[i]? := by simp
attribute [go_sem] ops_at List.getElem?_cons_zero List.getElem?_cons_succ DT_nil DT_fltO DT_one DT_two OneT_opt optThen_some F_move F_assign F_extract F_slice F_indexAddr F_load

theorem awp_loopS {P : Program} {N : Nat} {Q : Exit → AFr → AH → Prop} {fr : AFr} {H : AH} {σ : Type} {c : Code} (F : σ → List (Nat × AV)) (I : σ → AH → Prop) (μ : σ → Nat) (s : σ) (hL : hasF (F s) fr) (hI : I s H)
    (round : ∀ s H, I s H → AWp P N c (thenA (fun fr' H' => ∃ s', hasF (F s') fr' ∧ μ s' < μ s ∧ I s' H') Q) (frOf (F s)) H) : AWp P N (.loop c) Q fr H :=
  awp_loop (fun n fr H => ∃ s, I s H ∧ μ s = n ∧ hasF (F s) fr) (μ s) ⟨s, hI, rfl, hL⟩ fun n fr H ⟨s, h1, h2, h3⟩ => by
    subst h2
    exact awp_use h3 ((round s H h1).mono fun e fr' H' hq => thenA_mono (fun fr'' H'' ⟨s', k1, k2, k3⟩ => ⟨_, k2, s', k3, rfl, k1⟩) hq)
theorem rig_roA {R : AH → Prop} {H : AH} {a : AAddr} (h : a.ro = true) : rigR R H (.ptr a) = True := by
  obtain ⟨r, b, o⟩ := a
  simp only at h
  subst h
  exact rig_ro
end Go.Abs
