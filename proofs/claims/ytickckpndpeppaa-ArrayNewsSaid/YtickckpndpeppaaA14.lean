/- The logic: what code does, over the abstract state. -/
import Derived.Test.YtickckpndpeppaaA13
import Derived.Deep.LoopGhost
set_option linter.unusedVariables false
set_option linter.unusedSimpArgs false
namespace Go.Abs
open Go Go.RowKit

def enters (P : Program) (f : FuncId) : Bool :=
  match P.funcs[f]? with
  | some fn => fn.body.isSome && !(fn.name == "runtime.NumGoroutine")
  | none => false

/-- A call that returns: a function that is entered, or one of the model's own that answers at once. -/
def CallsV (P : Program) (f : FuncId) (args : Array Value) (w : World) (R : Value → World → Prop) : Prop :=
  (enters P f = true ∧ Calls P f args w fun e w' => ∃ v, e = .returned v ∧ R v w') ∨ ∃ v w', (callFunc f args).run P w = .ok (.value v) w' ∧ R v w'
theorem CallsV.mono {P : Program} {f : FuncId} {args : Array Value} {w : World} {R R' : Value → World → Prop} (h : CallsV P f args w R) (hq : ∀ v w', R v w' → R' v w') : CallsV P f args w R' := by
  rcases h with ⟨h1, h2⟩ | ⟨v, w', h1, h2⟩
  · exact .inl ⟨h1, h2.mono fun e w' ⟨v, k1, k2⟩ => ⟨v, k1, hq _ _ k2⟩⟩
  · exact .inr ⟨v, w', h1, hq _ _ h2⟩

/-- What a call of a function does: from every world that the abstract memory stands for. -/
def ASpec (P : Program) (f : FuncId) (args : List AV) (H : AH) (Q : AV → AH → Prop) : Prop :=
  ∀ (w0 : World) (ι : List Loc) (w : World) (cargs : Array Value), Rep w0 ι H w → RVL w0.heap.size ι args cargs.toList →
    CallsV P f cargs w fun v w' => ∃ r H' ι', RV w0.heap.size ι' r v ∧ Rep w0 ι' H' w' ∧ Ext ι H w ι' H' w' ∧ Q r H'

theorem ASpec.mono {P : Program} {f : FuncId} {args : List AV} {H : AH} {Q Q' : AV → AH → Prop} (h : ASpec P f args H Q) (hq : ∀ r H', Q r H' → Q' r H') : ASpec P f args H Q' :=
  fun w0 ι w cargs hr hv => (h w0 ι w cargs hr hv).mono fun _ _ ⟨r, H', ι', h2, h3, h4, h5⟩ => ⟨r, H', ι', h2, h3, h4, hq _ _ h5⟩

def putA (fr : AFr) (dst : Option Tmp) (v : AV) : AFr :=
  match dst with
  | none => fr
  | some d => lput fr d v

def callA (fr : AFr) (op : Op) : Option (FuncId × List AV) :=
  match op with
  | .call { callee := .value g, args, argTypes := _ } =>
    match aeval fr g with
    | .func f l => some (f, args.toList.map (aeval fr) ++ l)
    | _ => none
  | _ => none

/-- Is the operation carried out? -/
def guardA (ops : Array Oper) (fr : AFr) (o : Oper) : Option Bool :=
  match o.guard with
  | none => some true
  | some (j, want) =>
    match (ops[j]?).bind (·.dst) with
    | some d => (match lget fr d with | .bool b => some (b == want) | .tup [] => some false | _ => none)
    | none => none

def AOps (P : Program) (ops : Array Oper) (Q : AFr → AH → Prop) : List Oper → AFr → AH → Prop
  | [], fr, H => Q fr H
  | o :: rest, fr, H =>
    match guardA ops fr o with
    | none => False
    | some false => AOps P ops Q rest (putA fr o.dst (.tup [])) H
    | some true =>
      match callA fr o.op with
      | some (f, args) => ASpec P f args H fun r H' => AOps P ops Q rest (putA fr o.dst r) H'
      | none =>
        match opA P fr H o.op with
        | some vh => AOps P ops Q rest (putA fr o.dst vh.1) vh.2
        | none => False

/-- The abstract state stands for this one. -/
structure St (w0 : World) (ι : List Loc) (N : Nat) (ds : List Deferred) (fr : AFr) (H : AH) (a : Act) (w : World) : Prop where
  rep : Rep w0 ι H w
  fr : RFr w0.heap.size ι fr a.tmps
  size : a.tmps.size = N
  defers : a.defers = ds

theorem St.put {w0 w : World} {ι ι' : List Loc} {N : Nat} {ds : List Deferred} {fr : AFr} {H H' : AH} {a : Act} {w' : World} (h : St w0 ι N ds fr H a w) {dst : Option Tmp} (hd : ∀ d, dst = some d → d < N) {x : AV} {v : Value} (hr : Rep w0 ι' H' w') (he : LocLe ι ι') (hv : RV w0.heap.size ι' x v) :
    St w0 ι' N ds (putA fr dst x) H' (a.put dst v) w' := by
  cases dst with
  | none => exact ⟨hr, h.fr.ext he, h.size, h.defers⟩
  | some d => exact ⟨hr, (h.fr.ext he).put (by rw [h.size]; exact hd d rfl) hv, by simp [Act.put, h.size], h.defers⟩

theorem RV_undef {b : Nat} {ι : List Loc} : RV b ι (.tup []) undef := by unfold RV; exact ⟨#[], rfl, by unfold RVL; rfl⟩

theorem guardA_ok {ops : Array Oper} {w0 w : World} {ι : List Loc} {N : Nat} {ds : List Deferred} {fr : AFr} {H : AH} {a : Act} (h : St w0 ι N ds fr H a w) {o : Oper} {b : Bool} (hg : guardA ops fr o = some b) : Region.wanted o (yielded ops a.tmps) = b := by
  unfold guardA at hg
  unfold Region.wanted
  cases ho : o.guard with
  | none => rw [ho] at hg; injection hg with hg
  | some p =>
    obtain ⟨j, want⟩ := p
    rw [ho] at hg
    simp only at hg ⊢
    cases hd : (ops[j]?).bind (·.dst) with
    | none => rw [hd] at hg; cases hg
    | some d =>
      rw [hd] at hg
      simp only at hg
      split at hg
      · rename_i b' hb
        injection hg with hg
        subst hg
        have hv := h.fr d
        rw [hb] at hv
        unfold RV at hv
        have : a.tmps[d]? = some (.bool b') := by
          rw [Array.getD_eq_getD_getElem?] at hv
          cases hx : a.tmps[d]? with
          | none => rw [hx] at hv; cases hv
          | some x => rw [hx] at hv; simp at hv; rw [hv]
        unfold yielded
        rw [hd]
        simp only [Option.bind_some, this]
        cases b' <;> cases want <;> rfl
      · rename_i hb
        injection hg with hg
        subst hg
        have hv := h.fr d
        rw [hb] at hv
        unfold RV at hv
        obtain ⟨cs, hcs, hl⟩ := hv
        unfold yielded
        rw [hd]
        simp only [Option.bind_some]
        rw [Array.getD_eq_getD_getElem?] at hcs
        cases hx : a.tmps[d]? with
        | none => cases want <;> rfl
        | some x => rw [hx] at hcs; simp only [Option.getD_some] at hcs; rw [hcs]; cases want <;> rfl
      · cases hg

theorem enters_run {P : Program} {f : FuncId} (h : enters P f = true) (args : Array Value) (w : World) : (callFunc f args).run P w = .ok (.enter f args) w := by
  unfold enters at h
  cases hf : P.funcs[f]? with
  | none => rw [hf] at h; cases h
  | some fn =>
    rw [hf] at h
    simp only [Bool.and_eq_true, Bool.not_eq_true'] at h
    obtain ⟨c, hc⟩ := Option.isSome_iff_exists.1 h.1
    have h1 : fn.name ≠ "runtime.NumGoroutine" := by simpa using h.2
    simp [callFunc, hf, h1, hc]

/-- One operation, then the rest. -/
theorem op_step {P : Program} {w0 w : World} {ι : List Loc} {N : Nat} {ds : List Deferred} {fr : AFr} {H : AH} {a : Act} (h : St w0 ι N ds fr H a w) {o : Oper} {v : AV} {H' : AH} (ho : opA P fr H o.op = some (v, H')) (hd : ∀ d, o.dst = some d → d < N) {K : Act → World → Prop} {Q : Exit → Act → World → Prop}
    (hK : ∀ ι' a' w', St w0 ι' N ds (putA fr o.dst v) H' a' w' → Ext ι H w ι' H' w' → K a' w') : o.wp P a w K Q := by
  obtain ⟨w', ι', r1, r2, r3⟩ := opA_ok h.rep h.fr ho
  unfold Oper.wp
  rcases r3 with ⟨cv, hr, hv⟩ | ⟨hr, rfl⟩
  · rw [hr]
    exact hK ι' _ w' (h.put hd r1 r2.le hv) r2
  · rw [hr]
    exact hK ι' _ w' (h.put hd r1 r2.le (by unfold RV; trivial)) r2

theorem callA_ok {P : Program} {w0 w : World} {ι : List Loc} {N : Nat} {ds : List Deferred} {fr : AFr} {H : AH} {a : Act} (h : St w0 ι N ds fr H a w) {o : Oper} {f : FuncId} {args : List AV} (hc : callA fr o.op = some (f, args)) :
    ∃ cargs : Array Value, (execOp a.eval o).run P w = (callFunc f cargs).run P w ∧ RVL w0.heap.size ι args cargs.toList := by
  obtain ⟨dst, op, type, pos, after, guard⟩ := o
  simp only at hc
  unfold callA at hc
  split at hc
  · rename_i g gargs gt
    split at hc
    · rename_i f' l hf
      injection hc with hc
      injection hc with e1 e2
      subst e1 e2
      have hg := aeval_ok h.fr g
      rw [hf] at hg
      unfold RV at hg
      obtain ⟨cs, hg, hl⟩ := hg
      refine ⟨gargs.map a.eval ++ cs, ?_, ?_⟩
      · simp only [execOp, resolve, hg, Deferred.ofValue, pure_bind, invoke]
        rw [show (#[] ++ Array.map a.eval gargs) = Array.map a.eval gargs by simp]
      · rw [Array.toList_append, Array.toList_map]
        exact RVL.append (ops_ok h.fr gargs.toList) hl
    · cases hc
  · cases hc

theorem call_step {P : Program} {w0 w : World} {ι : List Loc} {N : Nat} {ds : List Deferred} {fr : AFr} {H : AH} {a : Act} (h : St w0 ι N ds fr H a w) {o : Oper} {f : FuncId} {args : List AV} (hc : callA fr o.op = some (f, args)) (hd : ∀ d, o.dst = some d → d < N) {R : AV → AH → Prop} (hs : ASpec P f args H R)
    {K : Act → World → Prop} {Q : Exit → Act → World → Prop} (hK : ∀ r H' ι' a' w', R r H' → St w0 ι' N ds (putA fr o.dst r) H' a' w' → Ext ι H w ι' H' w' → K a' w') : o.wp P a w K Q := by
  obtain ⟨cargs, hr, hv⟩ := callA_ok h hc
  unfold Oper.wp
  rcases hs w0 ι w cargs h.rep hv with ⟨he, hcalls⟩ | ⟨v, w', hr', r, H', ι', h2, h3, h4, h5⟩
  · rw [hr, enters_run he, Oper.upon_enter]
    refine hcalls.mono fun e w' hq => ?_
    obtain ⟨v, rfl, r, H', ι', h2, h3, h4, h5⟩ := hq
    exact hK r H' ι' _ w' h5 (h.put hd h3 h4.le h2) h4
  · rw [hr, hr', Oper.upon_value]
    exact hK r H' ι' _ w' h5 (h.put hd h3 h4.le h2) h4

theorem AOps_sound {P : Program} {ops : Array Oper} {Q : AFr → AH → Prop} {N : Nat} {ds : List Deferred} {QC : Exit → Act → World → Prop} : ∀ (l : List Oper) {w0 w : World} {ι : List Loc} {fr : AFr} {H : AH} {a : Act}, (∀ o ∈ l, ∀ d, o.dst = some d → d < N) → AOps P ops Q l fr H → St w0 ι N ds fr H a w →
    (∀ fr' H' ι' a' w', Q fr' H' → St w0 ι' N ds fr' H' a' w' → Ext ι H w ι' H' w' → QC .normal a' w') → wpList P ops QC l a w
  | [], w0, w, ι, fr, H, a, _, h, hs, hQ => hQ fr H ι a w h hs (Ext.refl _ _ _)
  | o :: rest, w0, w, ι, fr, H, a, hd, h, hs, hQ => by
    have hd0 := hd o (by simp)
    have hdr : ∀ o ∈ rest, ∀ d, o.dst = some d → d < N := fun o' ho' => hd o' (by simp [ho'])
    refine wpList_step fun K hK => ?_
    simp only [AOps] at h
    cases hg : guardA ops fr o with
    | none => rw [hg] at h; exact h.elim
    | some b =>
      rw [hg] at h
      rw [guardA_ok hs hg]
      cases b with
      | false =>
        simp only at h
        simp only [Bool.false_eq_true, if_false]
        exact hK _ _ (AOps_sound rest hdr h (hs.put hd0 hs.rep (LocLe.refl ι) RV_undef) hQ)
      | true =>
        simp only at h
        simp only [if_true]
        cases hc : callA fr o.op with
        | some fa =>
          obtain ⟨f, args⟩ := fa
          rw [hc] at h
          simp only at h
          exact call_step hs hc hd0 h fun r H' ι' a' w' h1 h2 h3 => hK _ _ (AOps_sound rest hdr h1 h2 fun fr' H'' ι'' a'' w'' g1 g2 g3 => hQ fr' H'' ι'' a'' w'' g1 g2 (h3.trans g3))
        | none =>
          rw [hc] at h
          simp only at h
          cases ho : opA P fr H o.op with
          | none => rw [ho] at h; exact h.elim
          | some vh =>
          obtain ⟨v, H'⟩ := vh
          rw [ho] at h
          exact op_step hs ho hd0 fun ι' a' w' h2 h3 => hK _ _ (AOps_sound rest hdr h h2 fun fr' H'' ι'' a'' w'' g1 g2 g3 => hQ fr' H'' ι'' a'' w'' g1 g2 (h3.trans g3))

/-- What code does. -/
def AWp (P : Program) (N : Nat) (c : Code) (Q : Exit → AFr → AH → Prop) (fr : AFr) (H : AH) : Prop :=
  ∀ (ds : List Deferred) (w0 : World) (ι : List Loc) (a : Act) (w : World) (QC : Exit → Act → World → Prop), St w0 ι N ds fr H a w →
    (∀ e fr' H' ι' a' w', Q e fr' H' → St w0 ι' N ds fr' H' a' w' → Ext ι H w ι' H' w' → QC e a' w') → c.wp P QC a w

section
variable {P : Program} {N : Nat} {Q : Exit → AFr → AH → Prop} {fr : AFr} {H : AH}

theorem AWp.mono {c : Code} {Q' : Exit → AFr → AH → Prop} (h : AWp P N c Q fr H) (hq : ∀ e fr H, Q e fr H → Q' e fr H) : AWp P N c Q' fr H :=
  fun ds w0 ι a w QC hs hQ => h ds w0 ι a w QC hs fun e fr' H' ι' a' w' g1 g2 g3 => hQ e fr' H' ι' a' w' (hq _ _ _ g1) g2 g3

theorem AWp_congr {P : Program} {N : Nat} {c : Code} {Q : Exit → AFr → AH → Prop} {fr fr' : AFr} {H H' : AH} (h1 : fr = fr') (h2 : H = H') : AWp P N c Q fr H = AWp P N c Q fr' H' := by rw [h1, h2]
theorem AOps_congr {P : Program} {ops : Array Oper} {Q : AFr → AH → Prop} {l : List Oper} {fr fr' : AFr} {H H' : AH} (h1 : fr = fr') (h2 : H = H') : AOps P ops Q l fr H = AOps P ops Q l fr' H' := by rw [h1, h2]

theorem awp_skip (h : Q .normal fr H) : AWp P N .skip Q fr H := fun _ _ ι a w _ hs hQ => wp_skip (hQ _ _ _ ι a w h hs (Ext.refl _ _ _))
theorem awp_exit {id : Nat} (h : Q (.exit id) fr H) : AWp P N (.exit id) Q fr H := fun _ _ ι a w _ hs hQ => wp_exit (hQ _ _ _ ι a w h hs (Ext.refl _ _ _))
theorem awp_ret (h : Q .ret fr H) : AWp P N .ret Q fr H := fun _ _ ι a w _ hs hQ => wp_ret (hQ _ _ _ ι a w h hs (Ext.refl _ _ _))

/-- A step that simp counts as one of its own, though it holds by computing: the kernel is not left to find it. -/
theorem nr {α : Sort _} {a b : α} (h : a = b) : a = b := h

def thenA (next : AFr → AH → Prop) (Q : Exit → AFr → AH → Prop) : Exit → AFr → AH → Prop
  | .normal, fr, H => next fr H
  | e, fr, H => Q e fr H

theorem thenA_normal (next : AFr → AH → Prop) (Q : Exit → AFr → AH → Prop) (fr : AFr) (H : AH) : thenA next Q .normal fr H = next fr H := nr rfl

theorem awp_seq {x y : Code} (h : AWp P N x (thenA (AWp P N y Q) Q) fr H) : AWp P N (.seq x y) Q fr H := fun ds w0 ι a w QC hs hQ =>
  wp_seq (h ds w0 ι a w _ hs fun e fr' H' ι' a' w' g1 g2 g3 => by
    cases e with
    | normal => exact g1 ds w0 ι' a' w' QC g2 fun e fr'' H'' ι'' a'' w'' k1 k2 k3 => hQ e fr'' H'' ι'' a'' w'' k1 k2 (g3.trans k3)
    | exit id => exact hQ _ _ _ _ _ _ g1 g2 g3
    | goto l => exact hQ _ _ _ _ _ _ g1 g2 g3
    | ret => exact hQ _ _ _ _ _ _ g1 g2 g3
    | panic c => exact hQ _ _ _ _ _ _ g1 g2 g3
    | outgrown => exact hQ _ _ _ _ _ _ g1 g2 g3)

theorem awp_cond {c : Operand} {x y : Code} {t : Bool} (hc : aeval fr c = .bool t) (h : AWp P N (if t then x else y) Q fr H) : AWp P N (.cond c x y) Q fr H := fun ds w0 ι a w QC hs hQ => by
  have hv := aeval_ok hs.fr c
  rw [hc] at hv
  unfold RV at hv
  exact wp_cond hv (h ds w0 ι a w QC hs hQ)

theorem awp_cond_split {c : Operand} {x y : Code} {t : Bool} (hc : aeval fr c = .bool t) (h1 : t = true → AWp P N x Q fr H) (h2 : t = false → AWp P N y Q fr H) : AWp P N (.cond c x y) Q fr H :=
  awp_cond hc (by cases t; exact h2 rfl; exact h1 rfl)

def blockA (id : Nat) (Q : Exit → AFr → AH → Prop) : Exit → AFr → AH → Prop
  | .exit id', fr, H => if id' = id then Q .normal fr H else Q (.exit id') fr H
  | e, fr, H => Q e fr H

theorem blockA_exit (id i : Nat) (Q : Exit → AFr → AH → Prop) (fr : AFr) (H : AH) : blockA id Q (.exit i) fr H = if i = id then Q .normal fr H else Q (.exit i) fr H := nr rfl
theorem blockA_normal (id : Nat) (Q : Exit → AFr → AH → Prop) (fr : AFr) (H : AH) : blockA id Q .normal fr H = Q .normal fr H := nr rfl
theorem blockA_ret (id : Nat) (Q : Exit → AFr → AH → Prop) (fr : AFr) (H : AH) : blockA id Q .ret fr H = Q .ret fr H := nr rfl

theorem awp_block {id : Nat} {c : Code} (h : AWp P N c (blockA id Q) fr H) : AWp P N (.block id c) Q fr H := fun ds w0 ι a w QC hs hQ =>
  wp_block (h ds w0 ι a w _ hs fun e fr' H' ι' a' w' g1 g2 g3 => by
    cases e with
    | exit id' =>
      simp only [blockA, Exit.inBlock] at g1 ⊢
      split at g1
      · rename_i hi; rw [if_pos hi]; exact hQ _ _ _ _ _ _ g1 g2 g3
      · rename_i hi; rw [if_neg hi]; exact hQ _ _ _ _ _ _ g1 g2 g3
    | normal => exact hQ _ _ _ _ _ _ g1 g2 g3
    | goto l => exact hQ _ _ _ _ _ _ g1 g2 g3
    | ret => exact hQ _ _ _ _ _ _ g1 g2 g3
    | panic c => exact hQ _ _ _ _ _ _ g1 g2 g3
    | outgrown => exact hQ _ _ _ _ _ _ g1 g2 g3)

/-- A loop: a relation that bears a number, which every round lowers. -/
theorem awp_loop {c : Code} (I : Nat → AFr → AH → Prop) (n : Nat) (h0 : I n fr H) (round : ∀ n fr H, I n fr H → AWp P N c (thenA (fun fr' H' => ∃ m, m < n ∧ I m fr' H') Q) fr H) : AWp P N (.loop c) Q fr H := fun ds w0 ι a w QC hs hQ =>
  wp_loop_ghost (fun n a' w' => ∃ ι' fr' H', I n fr' H' ∧ St w0 ι' N ds fr' H' a' w' ∧ Ext ι H w ι' H' w') n ⟨ι, fr, H, h0, hs, Ext.refl _ _ _⟩ fun n a1 w1 ⟨ι1, fr1, H1, i1, s1, e1⟩ =>
    round n fr1 H1 i1 ds w0 ι1 a1 w1 _ s1 fun e fr' H' ι' a' w' g1 g2 g3 => by
      cases e with
      | normal => obtain ⟨m, hm, hi⟩ := g1; exact ⟨m, hm, ι', fr', H', hi, g2, e1.trans g3⟩
      | exit id => exact hQ _ _ _ _ _ _ g1 g2 (e1.trans g3)
      | goto l => exact hQ _ _ _ _ _ _ g1 g2 (e1.trans g3)
      | ret => exact hQ _ _ _ _ _ _ g1 g2 (e1.trans g3)
      | panic c => exact hQ _ _ _ _ _ _ g1 g2 (e1.trans g3)
      | outgrown => exact hQ _ _ _ _ _ _ g1 g2 (e1.trans g3)

def dstsOk (N : Nat) (l : List Oper) : Bool := l.all fun o => match o.dst with | some d => decide (d < N) | none => true

theorem dstsOk_spec {l : List Oper} (h : dstsOk N l = true) : ∀ o ∈ l, ∀ d, o.dst = some d → d < N := fun o ho d hd => by
  unfold dstsOk at h
  have := List.all_eq_true.1 h o ho
  rw [hd] at this
  simpa using this

theorem awp_region {id : Nat} {l : List Oper} (hd : dstsOk N l = true) (h : AOps P l.toArray (Q .normal) l fr H) : AWp P N (.region id l.toArray false) Q fr H := fun ds w0 ι a w QC hs hQ =>
  wp_region_lit (AOps_sound l (dstsOk_spec hd) h hs fun fr' H' ι' a' w' g1 g2 g3 => hQ _ _ _ _ _ _ g1 g2 g3)

end

/-! functions -/
def aresult (P : Program) (fr : AFr) (H : AH) : ResultVar → Option AV
  | .tmp t => some (lget fr t)
  | .cell a t => (match lget fr a with | .ptr p => loadA P t p H | _ => none)

def aresults (P : Program) (fr : AFr) (H : AH) : List ResultVar → Option (List AV)
  | [] => some []
  | r :: l => (aresult P fr H r).bind fun v => (aresults P fr H l).map fun vs => v :: vs

def tupA : List AV → AV
  | [x] => x
  | l => .tup l

theorem aresults_run {P : Program} {w0 w : World} {ι : List Loc} {N : Nat} {ds : List Deferred} {fr : AFr} {H : AH} {a : Act} (h : St w0 ι N ds fr H a w) : ∀ (l : List ResultVar) {vs : List AV}, aresults P fr H l = some vs →
    ∃ ys : List Value, (∀ g : ResultVar → Sem Value, (∀ t, g (.tmp t) = pure (a.tmps.getD t undef)) → (∀ p t, g (.cell p t) = do loadVar t (← asAddr (a.tmps.getD p undef))) → (l.mapM g).run P w = .ok ys w) ∧ RVL w0.heap.size ι vs ys
  | [], vs, hr => by simp only [aresults] at hr; injection hr with hr; subst hr; exact ⟨[], fun _ _ _ => rfl, by unfold RVL; rfl⟩
  | r :: l, vs, hr => by
    simp only [aresults] at hr
    obtain ⟨v, hv, hr⟩ := Option.bind_eq_some_iff.1 hr
    obtain ⟨vs', hvs, rfl⟩ := Option.map_eq_some_iff.1 hr
    obtain ⟨ys, r1, r2⟩ := aresults_run h l hvs
    have one : ∃ y, (∀ g : ResultVar → Sem Value, (∀ t, g (.tmp t) = pure (a.tmps.getD t undef)) → (∀ p t, g (.cell p t) = do loadVar t (← asAddr (a.tmps.getD p undef))) → (g r).run P w = .ok y w) ∧ RV w0.heap.size ι v y := by
      cases r with
      | tmp t => simp only [aresult] at hv; injection hv with hv; subst hv; exact ⟨_, fun g h1 _ => by rw [h1]; rfl, h.fr t⟩
      | cell p t =>
        simp only [aresult] at hv
        have hp := h.fr p
        split at hv
        · rename_i q hq
          rw [hq] at hp
          unfold RV at hp
          obtain ⟨x, g1, g2⟩ := loadA_run (P := P) h.rep hv hp
          obtain ⟨ad, had⟩ := RPtr_some hp
          rw [had] at g1
          refine ⟨x, fun g _ h2 => ?_, g2⟩
          rw [h2, had]
          simpa [Instr.loadAt, Instr.sureAddr, asAddr] using g1
        · cases hv
    obtain ⟨y, y1, y2⟩ := one
    refine ⟨y :: ys, fun g h1 h2 => ?_, by simp only [RVL]; exact ⟨y, ys, rfl, y2, r2⟩⟩
    rw [List.mapM_cons]
    simp only [Sem.run_bind, y1 g h1 h2, Result.andThen_ok, r1 g h1 h2]
    rfl

theorem aspec_of {P : Program} {f : FuncId} {fn : Func} {c : Code} {args : List AV} {H : AH} {Q : AV → AH → Prop} (hf : P.funcs[f]? = some fn) (hb : fn.body = some c) (hname : (fn.name == "runtime.NumGoroutine") = false) (hl : args.length ≤ fn.ntmps)
    (h : AWp P fn.ntmps c (fun e fr H' => (e = .normal ∨ e = .ret) ∧ ∃ vs, aresults P fr H' fn.results.toList = some vs ∧ Q (tupA vs) H') args H) : ASpec P f args H Q := by
  refine fun w0 ι w cargs hr hv => .inl ⟨by unfold enters; rw [hf]; simp [hb, hname], Calls.mono (R := fun e w' => ∃ r H' ι' v, e = .returned v ∧ RV w0.heap.size ι' r v ∧ Rep w0 ι' H' w' ∧ Ext ι H w ι' H' w' ∧ Q r H') ?_ fun e w' ⟨r, H', ι', v, h1, h2, h3, h4, h5⟩ => ⟨v, h1, r, H', ι', h2, h3, h4, h5⟩⟩
  refine calls_of_wp hf hb (h [] w0 ι _ w _ ⟨hr, ?_, ?_, rfl⟩ ?_)
  · intro i
    have hlen := hv.length
    simp only [Array.length_toList] at hlen
    by_cases hi : i < args.length
    · have hg : ∃ x, args[i]? = some x := ⟨_, List.getElem?_eq_getElem hi⟩
      obtain ⟨x, hx⟩ := hg
      obtain ⟨y, h1, h2⟩ := hv.get hx
      rw [Array.getElem?_toList] at h1
      have e1 : ∀ (l : List AV) (i : Nat) (x : AV), l[i]? = some x → lget l i = x := by
        intro l
        induction l with
        | nil => intro i x h; simp at h
        | cons z l ih => intro i x h; cases i with
          | zero => simp at h; exact h
          | succ i => simp at h; exact ih i x h
      rw [e1 _ _ _ hx, Array.getD_eq_getD_getElem?, Array.getElem?_append_left (by omega), h1]
      exact h2
    · have e1 : ∀ (l : List AV) (i : Nat), l.length ≤ i → lget l i = .unk := by
        intro l
        induction l with
        | nil => intro i _; exact lget_nil i
        | cons z l ih => intro i h; cases i with
          | zero => simp at h
          | succ i => simp at h; exact ih i h
      rw [e1 _ _ (by omega)]
      unfold RV; trivial
  · have hlen := hv.length
    simp only [Array.length_toList] at hlen
    simp; omega
  · intro e fr' H' ι' a' w' hq hs he
    obtain ⟨hq1, vs, hvs, hq2⟩ := hq
    obtain ⟨ys, r1, r2⟩ := aresults_run hs _ hvs
    have hres : ∃ v, (results fn a'.tmps).run P w' = .ok v w' ∧ RV w0.heap.size ι' (tupA vs) v := by
      refine ⟨if h : ys.toArray.size = 1 then ys.toArray[0] else .tuple ys.toArray, ?_, ?_⟩
      · simp only [results, Array.mapM_eq_mapM_toList, Sem.run_bind, Sem.run_map]
        rw [r1 _ (fun _ => rfl) (fun _ _ => rfl)]
        rfl
      · have hlen := r2.length
        split
        · rename_i h1
          simp at h1
          rw [h1] at hlen
          cases vs with
          | nil => simp at hlen
          | cons x vs =>
            cases vs with
            | cons _ _ => simp at hlen
            | nil =>
              simp only [RVL] at r2
              obtain ⟨y, m, rfl, h2, rfl⟩ := r2
              exact h2
        · rename_i h1
          have : tupA vs = .tup vs := by
            cases vs with
            | nil => rfl
            | cons x vs =>
              cases vs with
              | cons _ _ => rfl
              | nil => simp at hlen; simp at h1; exact absurd hlen h1
          rw [this]
          unfold RV
          exact ⟨ys.toArray, rfl, by simpa using r2⟩
    obtain ⟨v, h1, h2⟩ := hres
    have fin : ∃ r H'' ι'' v', Ending.returned v = .returned v' ∧ RV w0.heap.size ι'' r v' ∧ Rep w0 ι'' H'' w' ∧ Ext ι H w ι'' H'' w' ∧ Q r H'' := ⟨_, H', ι', v, rfl, h2, hs.rep, he, hq2⟩
    rcases hq1 with rfl | rfl
    · exact ⟨hs.defers, v, h1, fin⟩
    · exact ⟨hs.defers, v, h1, fin⟩

end Go.Abs
