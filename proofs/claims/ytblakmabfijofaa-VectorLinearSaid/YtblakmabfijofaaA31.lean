/- A range over a function: the rounds, and functions that hold such a range. -/
import Derived.Test.YtblakmabfijofaaA29
import Derived.RangeFuncSeq
import Derived.TacticsIn
import Derived.Deep.LoopGhost
set_option linter.unusedVariables false
set_option linter.unusedSimpArgs false
namespace Go.Abs
open Go Go.RowKit

/-- All functions, no depth; the frames of a round, or plain ones. -/
def rf (ro : Option Nat) : Fence := { Fence.wide with round := ro }

section
variable {P : Program} {N : Nat} {ds : List Deferred} {w0 w : World} {ι : List Loc} {fr : AFr} {H : AH} {a : Act} {ro : Option Nat}

theorem op_stepI (h : St w0 ι N ds fr H a w) {o : Oper} {v : AV} {H' : AH} (ho : opA P fr H o.op = some (v, H')) (hd : ∀ d, o.dst = some d → d < N) {K : Act → World → Prop} {Q : Exit → Act → World → Prop}
    (hK : ∀ ι' a' w', St w0 ι' N ds (putA fr o.dst v) H' a' w' → Ext ι H w ι' H' w' → K a' w') : o.wpIn (rf ro) 0 P a w K Q := by
  obtain ⟨w', ι', r1, r2, r3⟩ := opA_ok h.rep h.fr ho
  refine ⟨fun _ _ => trivial, ?_⟩
  rw [Oper.semAt_eq _ _ _ (fun c e => by rw [e] at ho; simp [opA] at ho)]
  rcases r3 with ⟨cv, hr, hv⟩ | ⟨hr, rfl⟩
  · rw [hr]
    exact hK ι' _ w' (h.put hd r1 r2.le hv) r2
  · rw [hr]
    exact hK ι' _ w' (h.put hd r1 r2.le (by unfold RV; trivial)) r2

theorem call_stepI (h : St w0 ι N ds fr H a w) {o : Oper} {f : FuncId} {args : List AV} (hc : callA fr o.op = some (f, args)) (hd : ∀ d, o.dst = some d → d < N) {R : AV → AH → Prop} (hs : ASpec P f args H R)
    {K : Act → World → Prop} {Q : Exit → Act → World → Prop} (hK : ∀ r H' ι' a' w', R r H' → St w0 ι' N ds (putA fr o.dst r) H' a' w' → Ext ι H w ι' H' w' → K a' w') : o.wpIn (rf ro) 0 P a w K Q := by
  obtain ⟨cargs, hr, hv⟩ := callA_ok h hc
  refine ⟨fun _ _ => trivial, ?_⟩
  rw [Oper.semAt_eq _ _ _ (fun c e => by rw [e] at hc; simp [callA] at hc)]
  rcases hs w0 ι w cargs h.rep hv with ⟨he, hcalls⟩ | ⟨v, w', hr', r, H', ι', h2, h3, h4, h5⟩
  · rw [hr, enters_run he, Oper.uponIn_enter]
    refine ⟨fun h => by simp [rf, Fence.wide] at h, ?_⟩
    have hcalls' : CallsIn (rf ro) (0 - 1) P f cargs w _ := callsIn_wide.2 hcalls
    refine hcalls'.mono fun e w' hq => ?_
    obtain ⟨v, rfl, r, H', ι', h2, h3, h4, h5⟩ := hq
    exact hK r H' ι' _ w' h5 (h.put hd h3 h4.le h2) h4
  · rw [hr, hr', Oper.uponIn_value]
    exact hK r H' ι' _ w' h5 (h.put hd h3 h4.le h2) h4

theorem AOps_soundI {ops : Array Oper} {Q : AFr → AH → Prop} {QC : Exit → Act → World → Prop} (rest : List Oper) : ∀ (l : List Oper) {w0 w : World} {ι : List Loc} {fr : AFr} {H : AH} {a : Act}, (∀ o ∈ l, ∀ d, o.dst = some d → d < N) → AOps P ops Q l fr H → St w0 ι N ds fr H a w →
    (∀ fr' H' ι' a' w', Q fr' H' → St w0 ι' N ds fr' H' a' w' → Ext ι H w ι' H' w' → wpListIn (rf ro) 0 P ops QC rest a' w') → wpListIn (rf ro) 0 P ops QC (l ++ rest) a w
  | [], w0, w, ι, fr, H, a, _, h, hs, hQ => hQ fr H ι a w h hs (Ext.refl _ _ _)
  | o :: l, w0, w, ι, fr, H, a, hd, h, hs, hQ => by
    have hd0 := hd o (by simp)
    have hdr : ∀ o ∈ l, ∀ d, o.dst = some d → d < N := fun o' ho' => hd o' (by simp [ho'])
    simp only [List.cons_append, wpListIn]
    simp only [AOps] at h
    cases hg : guardA ops fr o with
    | none => rw [hg] at h; exact h.elim
    | some b =>
      rw [hg] at h
      rw [guardA_ok hs hg]
      cases b with
      | false =>
        simp only at h
        simp only [Bool.false_eq_true, if_false]
        exact ⟨fun _ _ => trivial, AOps_soundI rest l hdr h (hs.put hd0 hs.rep (LocLe.refl ι) RV_undef) hQ⟩
      | true =>
        simp only at h
        simp only [if_true]
        cases hc : callA fr o.op with
        | some fa =>
          obtain ⟨f, args⟩ := fa
          rw [hc] at h
          simp only at h
          exact call_stepI hs hc hd0 h fun r H' ι' a' w' h1 h2 h3 => AOps_soundI rest l hdr h1 h2 fun fr' H'' ι'' a'' w'' g1 g2 g3 => hQ fr' H'' ι'' a'' w'' g1 g2 (h3.trans g3)
        | none =>
          rw [hc] at h
          simp only at h
          cases ho : opA P fr H o.op with
          | none => rw [ho] at h; exact h.elim
          | some vh =>
          obtain ⟨v, H'⟩ := vh
          rw [ho] at h
          exact op_stepI hs ho hd0 fun ι' a' w' h2 h3 => AOps_soundI rest l hdr h h2 fun fr' H'' ι'' a'' w'' g1 g2 g3 => hQ fr' H'' ι'' a'' w'' g1 g2 (h3.trans g3)
end

/-- What code of a round does. -/
def AWpR (P : Program) (N : Nat) (c : Code) (Q : Exit → AFr → AH → Prop) (fr : AFr) (H : AH) : Prop :=
  ∀ (l : Nat) (w0 : World) (ι : List Loc) (a : Act) (w : World) (QC : Exit → Act → World → Prop), St w0 ι N [] fr H a w →
    (∀ e fr' H' ι' a' w', Q e fr' H' → St w0 ι' N [] fr' H' a' w' → Ext ι H w ι' H' w' → QC e a' w') → c.wpIn (rf (some l)) 0 P QC a w

section
variable {P : Program} {N : Nat} {Q : Exit → AFr → AH → Prop} {fr : AFr} {H : AH}
theorem awpR_seq {x y : Code} (h : AWpR P N x (thenA (AWpR P N y Q) Q) fr H) : AWpR P N (.seq x y) Q fr H := fun l w0 ι a w QC hs hQ =>
  wpIn_seq (h l w0 ι a w _ hs fun e fr' H' ι' a' w' g1 g2 g3 => by
    cases e with
    | normal => exact g1 l w0 ι' a' w' QC g2 fun e fr'' H'' ι'' a'' w'' k1 k2 k3 => hQ e fr'' H'' ι'' a'' w'' k1 k2 (g3.trans k3)
    | exit id => exact hQ _ _ _ _ _ _ g1 g2 g3
    | goto l => exact hQ _ _ _ _ _ _ g1 g2 g3
    | ret => exact hQ _ _ _ _ _ _ g1 g2 g3
    | panic c => exact hQ _ _ _ _ _ _ g1 g2 g3
    | outgrown => exact hQ _ _ _ _ _ _ g1 g2 g3)
theorem awpR_cond {c : Operand} {x y : Code} {t : Bool} (hc : aeval fr c = .bool t) (h : AWpR P N (if t then x else y) Q fr H) : AWpR P N (.cond c x y) Q fr H := fun l w0 ι a w QC hs hQ => by
  have hv := aeval_ok hs.fr c
  rw [hc] at hv
  unfold RV at hv
  exact wpIn_cond hv (h l w0 ι a w QC hs hQ)
theorem awpR_block {id : Nat} {c : Code} (h : AWpR P N c (blockA id Q) fr H) : AWpR P N (.block id c) Q fr H := fun l w0 ι a w QC hs hQ =>
  wpIn_block (h l w0 ι a w _ hs fun e fr' H' ι' a' w' g1 g2 g3 => by
    cases e with
    | exit id' =>
      simp only [blockA, Exit.inBlock] at g1 ⊢
      split at g1
      · rename_i hi; rw [if_pos hi]; exact hQ _ _ _ _ _ _ g1 g2 g3
      · rename_i hi; rw [if_neg hi]; exact hQ _ _ _ _ _ _ g1 g2 g3
    | normal => exact hQ _ _ _ _ _ _ g1 g2 g3
    | goto l => exact hQ _ _ _ _ _ _ g1 g2 g3
    | ret => exact hQ _ _ _ _ _ _ g1 g2 g3
    | panic c => exact hQ _ _ _ _ _ _ g1 g2 g3
    | outgrown => exact hQ _ _ _ _ _ _ g1 g2 g3)
theorem AWpR.mono {c : Code} {Q' : Exit → AFr → AH → Prop} (h : AWpR P N c Q fr H) (hq : ∀ e fr H, Q e fr H → Q' e fr H) : AWpR P N c Q' fr H :=
  fun l w0 ι a w QC hs hQ => h l w0 ι a w QC hs fun e fr' H' ι' a' w' g1 g2 g3 => hQ e fr' H' ι' a' w' (hq _ _ _ g1) g2 g3
/-- No loops, nothing drawn. -/
def codeOkR (N : Nat) : Code → Bool
  | .skip => true
  | .region _ ops draw => !draw && dstsOk N ops.toList
  | .seq x y => codeOkR N x && codeOkR N y
  | .cond _ x y => codeOkR N x && codeOkR N y
  | .block _ c => codeOkR N c
  | .exit _ => true
  | .ret => true
  | _ => false
theorem wpR_sound : ∀ (c : Code) {Q : Exit → AFr → AH → Prop} {fr : AFr} {H : AH}, codeOkR N c = true → WP P N c Q fr H → AWpR P N c Q fr H := by
  intro c
  induction c with
  | skip => intro Q fr H _ h; exact fun _ _ ι a w _ hs hQ => wpIn_skip (hQ _ _ _ ι a w h hs (Ext.refl _ _ _))
  | exit id => intro Q fr H _ h; exact fun _ _ ι a w _ hs hQ => wpIn_exit (hQ _ _ _ ι a w h hs (Ext.refl _ _ _))
  | ret => intro Q fr H _ h; exact fun _ _ ι a w _ hs hQ => wpIn_ret (hQ _ _ _ ι a w h hs (Ext.refl _ _ _))
  | region id ops draw =>
    intro Q fr H hok h
    simp only [codeOkR, Bool.and_eq_true, Bool.not_eq_true'] at hok
    obtain ⟨rfl, hok⟩ := hok
    have h' : AOps P ops (Q .normal) ops.toList fr H := by simpa [WP] using h
    intro l w0 ι a w QC hs hQ
    refine wpIn_region_list ?_
    have := AOps_soundI (ro := some l) (QC := QC) [] ops.toList (dstsOk_spec hok) h' hs fun fr' H' ι' a' w' g1 g2 g3 => hQ _ _ _ _ _ _ g1 g2 g3
    simpa using this
  | seq x y ihx ihy =>
    intro Q fr H hok h
    simp only [codeOkR, Bool.and_eq_true] at hok
    refine awpR_seq ((ihx hok.1 h).mono fun e fr' H' hq => ?_)
    exact thenA_mono (fun fr'' H'' k => ihy hok.2 k) hq
  | cond c x y ihx ihy =>
    intro Q fr H hok h
    simp only [codeOkR, Bool.and_eq_true] at hok
    rw [WP_cond] at h
    unfold condA at h
    split at h
    · rename_i e; exact awpR_cond e (ihx hok.1 h)
    · rename_i e; exact awpR_cond e (ihy hok.2 h)
    · exact h.elim
  | block id c ih =>
    intro Q fr H hok h
    exact awpR_block (ih hok h)
  | _ => intro Q fr H hok h; simp [codeOkR] at hok
end

/-! the loop's record -/
def unmapped (ι : List Loc) (B : Nat) : Prop := ∀ (i O m : Nat), ι[i]? ≠ some (.at B O m)
theorem unmapped_ext {ι ι' : List Loc} {H H' : AH} {w w' : World} {B : Nat} (h : unmapped ι B) (hB : B < w.heap.size) (e : Ext ι H w ι' H' w') : unmapped ι' B := fun i O m hi => by
  rcases e.img i B O m hi with ⟨i', O', m', h1⟩ | h1
  · exact h _ _ _ h1
  · omega
theorem unmapped_new {w0 w : World} {ι : List Loc} {H : AH} (h : Rep w0 ι H w) {B : Nat} (hB : w.heap.size ≤ B) : unmapped ι B := fun i O m hi => by have := (h.locs _ _ _ _ hi).2; omega

theorem Rep.put {w0 w : World} {ι : List Loc} {H : AH} (h : Rep w0 ι H w) {B : Nat} (o : Obj) (hb : w0.heap.size ≤ B) (hu : unmapped ι B) : Rep w0 ι H (w.putObj B o) :=
  ⟨⟨h.below.os, h.below.tape, h.below.output, by rw [World.putObj_size]; exact h.below.size, fun k hk => (World.putObj_heap_other (by omega)).trans (h.below.block k hk)⟩,
   h.ro, h.len,
   fun i l hi => by
    rcases h.blk i l hi with h1 | h1 | ⟨B', O, m, h1, h2⟩
    · exact .inl h1
    · exact .inr (.inl h1)
    · exact .inr (.inr ⟨B', O, m, h1, h2.world (World.putObj_heap_other (fun e => hu i O m (by rw [← e]; exact h1)))⟩),
   h.nomap, h.gone, h.inj, fun i B' O m hi => by rw [World.putObj_size]; exact h.locs i B' O m hi⟩
theorem Rep.alloc {w0 w : World} {ι : List Loc} {H : AH} (h : Rep w0 ι H w) (o : Obj) : Rep w0 ι H (w.alloc o) := by
  have hs := alloc_size w o
  have ho : ∀ k, k < w.heap.size → (w.alloc o).heap[k]? = w.heap[k]? := fun k hk => Below.heap_alloc w o k hk
  refine ⟨⟨h.below.os, h.below.tape, h.below.output, by have := h.below.size; omega, fun k hk => (ho k (Nat.lt_of_lt_of_le hk h.below.size)).trans (h.below.block k hk)⟩,
   h.ro, h.len,
   fun i l hi => by
    rcases h.blk i l hi with h1 | h1 | ⟨B', O, m, h1, h2⟩
    · exact .inl h1
    · exact .inr (.inl h1)
    · exact .inr (.inr ⟨B', O, m, h1, h2.world (ho _ (h.locs _ _ _ _ h1).2)⟩),
   h.nomap, h.gone, h.inj, fun i B' O m hi => by have := h.locs i B' O m hi; omega⟩
theorem Ext.put {ι ι' : List Loc} {H H' : AH} {w w' : World} (h : Ext ι H w ι' H' w') {B : Nat} (o : Obj) (hb : w.heap.size ≤ B) : Ext ι H w ι' H' (w'.putObj B o) :=
  ⟨h.ro, h.len, h.loc, h.pend, by rw [World.putObj_size]; exact h.size, fun k hk hn => (World.putObj_heap_other (by omega)).trans (h.frame k hk hn), h.img⟩
theorem Ext.alloc {ι ι' : List Loc} {H H' : AH} {w w' : World} (h : Ext ι H w ι' H' w') (o : Obj) : Ext ι H w ι' H' (w'.alloc o) :=
  ⟨h.ro, h.len, h.loc, h.pend, by rw [alloc_size]; have := h.size; omega, fun k hk hn => (Below.heap_alloc _ _ k (Nat.lt_of_lt_of_le hk h.size)).trans (h.frame k hk hn), h.img⟩

/-- The two blocks that a range lays, at D and behind it. -/
structure LoopSt (w0 : World) (D : Nat) (rc : Loop) (ι : List Loc) (w : World) : Prop where
  lo : w0.heap.size ≤ D
  dq : w.heap[D]? = some (.deferred (some []))
  rc : w.heap[D + 1]? = some (.loop rc)
  u0 : unmapped ι D
  u1 : unmapped ι (D + 1)
theorem LoopSt.ext {w0 : World} {D : Nat} {rc : Loop} {ι ι' : List Loc} {H H' : AH} {w w' : World} (h : LoopSt w0 D rc ι w) (e : Ext ι H w ι' H' w') : LoopSt w0 D rc ι' w' := by
  have l0 := (Array.getElem?_eq_some_iff.1 h.dq).1
  have l1 := (Array.getElem?_eq_some_iff.1 h.rc).1
  exact ⟨h.lo, (e.frame D l0 h.u0).trans h.dq, (e.frame (D + 1) l1 h.u1).trans h.rc, unmapped_ext h.u0 l0 e, unmapped_ext h.u1 l1 e⟩
theorem LoopSt.put {w0 : World} {D : Nat} {rc : Loop} {ι : List Loc} {w : World} (h : LoopSt w0 D rc ι w) (rc' : Loop) : LoopSt w0 D rc' ι (w.putObj (D + 1) (.loop rc')) :=
  ⟨h.lo, (World.putObj_heap_other (by omega)).trans h.dq, World.putObj_heap_same (Array.getElem?_eq_some_iff.1 h.rc).1, h.u0, h.u1⟩

/-- A round's end. -/
def roundQ (I J : AH → Prop) : Exit → AFr → AH → Prop
  | .normal, _, H => I H
  | .ret, _, H => J H
  | _, _, _ => False

/-- One round. -/
theorem round_run {P : Program} {N : Nat} {w0 W0 w : World} {ι0 ι : List Loc} {H0 H : AH} {fr : AFr} {fn : FuncId} {tmps : Array Value} {ps : Array Tmp} {assign body : Code} {cargs : Array Value} {I J : AH → Prop} (rec : LoopState → Option Code → Loop)
    (hrec : rec = fun st pe => { state := st, pending := pe, fn, tmps, params := ps, assign, body, defers := W0.heap.size }) (hsz : cargs.size = ps.size)
    (hrep : Rep w0 ι H w) (hext : Ext ι0 H0 W0 ι H w) (hls : LoopSt w0 W0.heap.size (rec .ready none) ι w)
    (hfr : RFr w0.heap.size ι fr ((ps.zip cargs).foldl (fun t (p, v) => t.setIfInBounds p v) tmps)) (hN : ((ps.zip cargs).foldl (fun t (p, v) => t.setIfInBounds p v) tmps).size = N)
    (h : AWpR P N assign (thenA (fun fr1 H1 => AWpR P N body (roundQ I J) fr1 H1) (fun _ _ _ => False)) fr H) :
    YieldAt Fence.wide 0 P (W0.heap.size + 1) cargs w fun e w' => ∃ ι' H', Rep w0 ι' H' w' ∧ LocLe ι ι' ∧ Ext ι0 H0 W0 ι' H' w' ∧
      ((e = .returned (.bool true) ∧ I H' ∧ LoopSt w0 W0.heap.size (rec .ready none) ι' w') ∨ (e = .returned (.bool false) ∧ J H' ∧ LoopSt w0 W0.heap.size (rec .done (some .ret)) ι' w')) := by
  have hy := run_yield (P := P) (args := cargs) hls.rc (by rw [hrec]; exact hsz)
  rw [hrec] at hy
  simp only at hy
  refine ⟨fn, _, assign, body, hy, roundIn_of_wpIn trivial ?_⟩
  refine h (W0.heap.size + 1) w0 ι _ w _ ⟨hrep, hfr, hN, rfl⟩ ?_
  rintro e fr1 H1 ι1 a1 w1 g1 g2 g3
  cases e with
  | normal =>
    have hls1 := hls.ext g3
    refine ⟨_, run_beginRound hls1.rc (by rw [hrec]), ?_⟩
    have hlsB := hls1.put { rec .ready none with state := .busy }
    have hrepB := g2.rep.put (.loop { rec .ready none with state := .busy }) (B := W0.heap.size + 1) (by have := hls.lo; omega) hls1.u1
    have hextB := (hext.trans g3).put (.loop { rec .ready none with state := .busy }) (B := W0.heap.size + 1) (by omega)
    refine g1 (W0.heap.size + 1) w0 ι1 a1 _ _ ⟨hrepB, g2.fr, g2.size, g2.defers⟩ ?_
    rintro e fr2 H2 ι2 a2 w2 k1 k2 k3
    have hls2 := hlsB.ext k3
    cases e with
    | normal =>
      refine ⟨_, _, run_endRound none hls2.rc, ι2, H2, k2.rep.put _ (by have := hls.lo; omega) hls2.u1, g3.le.trans k3.le, (hextB.trans k3).put _ (by omega), .inl ⟨rfl, k1, ?_⟩⟩
      have := hls2.put (rec .ready none)
      rw [hrec] at this ⊢
      exact this
    | ret =>
      refine ⟨_, _, run_endRound (some .ret) hls2.rc, ι2, H2, k2.rep.put _ (by have := hls.lo; omega) hls2.u1, g3.le.trans k3.le, (hextB.trans k3).put _ (by omega), .inr ⟨rfl, k1, ?_⟩⟩
      have := hls2.put (rec .done (some .ret))
      rw [hrec] at this ⊢
      exact this
    | exit id => exact k1.elim
    | goto l => exact k1.elim
    | panic c => exact k1.elim
    | outgrown => exact k1.elim
  | exit id => exact g1.elim
  | goto l => exact g1.elim
  | ret => exact g1.elim
  | panic c => exact g1.elim
  | outgrown => exact g1.elim

/-! functions that hold a range -/
theorem lget_getElem : ∀ {l : List AV} {i : Nat} (h : i < l.length), lget l i = l[i]
  | x :: l, 0, _ => rfl
  | x :: l, i + 1, h => lget_getElem (l := l) (by simpa using h)
  | [], i, h => by simp at h
theorem lget_len : ∀ {l : List AV} {i : Nat}, l.length ≤ i → lget l i = .unk
  | [], i, _ => lget_nil i
  | x :: l, 0, h => by simp at h
  | x :: l, i + 1, h => lget_len (l := l) (by simpa using h)
theorem results_run {P : Program} {fn : Func} {w0 w : World} {ι : List Loc} {N : Nat} {ds : List Deferred} {fr : AFr} {H : AH} {a : Act} (h : St w0 ι N ds fr H a w) {vs : List AV} (hv : aresults P fr H fn.results.toList = some vs) :
    ∃ v, (results fn a.tmps).run P w = .ok v w ∧ RV w0.heap.size ι (tupA vs) v := by
  obtain ⟨ys, r1, r2⟩ := aresults_run h _ hv
  refine ⟨if h : ys.toArray.size = 1 then ys.toArray[0] else .tuple ys.toArray, ?_, ?_⟩
  · simp only [results, Array.mapM_eq_mapM_toList, Sem.run_bind, Sem.run_map]
    rw [r1 _ (fun _ => rfl) (fun _ _ => rfl)]
    rfl
  · have hlen := r2.length
    split
    · rename_i h1
      simp at h1
      rw [h1] at hlen
      cases vs with
      | nil => simp at hlen
      | cons x vs =>
        cases vs with
        | cons _ _ => simp at hlen
        | nil =>
          simp only [RVL] at r2
          obtain ⟨y, m, rfl, h2, rfl⟩ := r2
          exact h2
    · rename_i h1
      have : tupA vs = .tup vs := by
        cases vs with
        | nil => rfl
        | cons x vs =>
          cases vs with
          | cons _ _ => rfl
          | nil => simp at hlen; simp at h1; exact absurd hlen h1
      rw [this]
      unfold RV
      exact ⟨ys.toArray, rfl, by simpa using r2⟩

/-- What a function's call comes to in the end. -/
def RR (w0 : World) (ιs : List Loc) (Hs : AH) (ws : World) (R : AV → AH → Prop) : Ending → World → Prop := fun e w' => ∃ r H' ι' v, e = .returned v ∧ RV w0.heap.size ι' r v ∧ Rep w0 ι' H' w' ∧ Ext ιs Hs ws ι' H' w' ∧ R r H'

/-- What is left of a function's code, from where no range has been entered. -/
def FWp (P : Program) (fn : Func) (R : AV → AH → Prop) (c : Code) (fr : AFr) (H : AH) : Prop :=
  ∀ (w0 : World) (ι : List Loc) (a : Act) (w : World) (ιs : List Loc) (Hs : AH) (ws : World), St w0 ι fn.ntmps [] fr H a w → Ext ιs Hs ws ι H w →
    c.wpIn Fence.wide 0 P (bodyPostM Fence.wide 0 P fn (RR w0 ιs Hs ws R)) a w

section
variable {P : Program} {fn : Func} {R : AV → AH → Prop} {fr : AFr} {H : AH}

theorem end_plain {w0 w ws : World} {ι ιs : List Loc} {Hs : AH} {a : Act} {e : Exit} (hs : St w0 ι fn.ntmps [] fr H a w) (he : Ext ιs Hs ws ι H w) (h : retA P fn.results.toList R e fr H) : bodyPostM Fence.wide 0 P fn (RR w0 ιs Hs ws R) e a w := by
  have key : resA (aresults P fr H fn.results.toList) R H → LeavesInM Fence.wide 0 P fn a.tmps (RR w0 ιs Hs ws R) a.defers .returning w := fun h => by
    cases hv : aresults P fr H fn.results.toList with
    | none => rw [hv] at h; exact h.elim
    | some vs =>
      rw [hv] at h
      obtain ⟨v, h1, h2⟩ := results_run hs hv
      rw [hs.defers]
      exact ⟨v, h1, _, H, ι, v, rfl, h2, hs.rep, he, h⟩
  cases e with
  | normal => exact key h
  | ret => exact key h
  | _ => exact h.elim
theorem end_mark {w0 w ws : World} {ι ιs : List Loc} {Hs : AH} {a : Act} {e : Exit} {D : Nat} {rc : Loop} (hs : St w0 ι fn.ntmps [{ target := .collected D, args := #[] }] fr H a w) (he : Ext ιs Hs ws ι H w) (hD : ws.heap.size ≤ D) (hl : LoopSt w0 D rc ι w) (h : retA P fn.results.toList R e fr H) :
    bodyPostM Fence.wide 0 P fn (RR w0 ιs Hs ws R) e a w := by
  have key : resA (aresults P fr H fn.results.toList) R H → LeavesInM Fence.wide 0 P fn a.tmps (RR w0 ιs Hs ws R) a.defers .returning w := fun h => by
    cases hv : aresults P fr H fn.results.toList with
    | none => rw [hv] at h; exact h.elim
    | some vs =>
      rw [hv] at h
      have hr' := hs.rep.put (.deferred none) hl.lo hl.u0
      obtain ⟨v, h1, h2⟩ := results_run (w := w.putObj D (.deferred none)) (fn := fn) ⟨hr', hs.fr, hs.size, hs.defers⟩ hv
      rw [hs.defers]
      exact ⟨by simp, .inl ⟨D, _, rfl, run_takeDeferred hl.dq, v, h1, _, H, ι, v, rfl, h2, hr', he.put _ hD, h⟩⟩
  cases e with
  | normal => exact key h
  | ret => exact key h
  | _ => exact h.elim

theorem fwp_parts {X : AFr → AH → Prop} : ∀ (n : Nat) (c : Code) {fr : AFr} {H : AH}, codeOk fn.ntmps (headN n c) = true → WP P fn.ntmps (headN n c) (thenA X (retA P fn.results.toList R)) fr H → (∀ fr H, X fr H → FWp P fn R (restC n c) fr H) → FWp P fn R c fr H
  | 0, c, fr, H, _, h, k => by
    have h' : X fr H := by cases c <;> exact h
    have := k fr H h'
    cases c <;> exact this
  | n + 1, c, fr, H, hok, h, k => by
    cases c with
    | seq a b =>
      have hok' : (codeOk fn.ntmps a && codeOk fn.ntmps (headN n b)) = true := hok
      simp only [Bool.and_eq_true] at hok'
      have h' : WP P fn.ntmps a (thenA (WP P fn.ntmps (headN n b) (thenA X (retA P fn.results.toList R))) (thenA X (retA P fn.results.toList R))) fr H := h
      intro w0 ι ac w ιs Hs ws hs he
      refine wpIn_seq (wpIn_wide.2 (wp_sound a hok'.1 h' [] w0 ι ac w _ hs ?_))
      intro e fr1 H1 ι1 a1 w1 g1 g2 g3
      cases e with
      | normal => exact fwp_parts n b hok'.2 g1 k w0 ι1 a1 w1 ιs Hs ws g2 (he.trans g3)
      | ret => exact end_plain (e := .ret) g2 (he.trans g3) g1
      | exit id => exact g1.elim
      | goto l => exact g1.elim
      | panic c => exact g1.elim
      | outgrown => exact g1.elim
    | _ =>
      have h' : X fr H := h
      exact k fr H h'

/-- A statement, and what comes behind it. -/
def FWpK (P : Program) (fn : Func) (R : AV → AH → Prop) (b post : Code) (fr : AFr) (H : AH) : Prop :=
  ∀ (w0 : World) (ι : List Loc) (a : Act) (w : World) (ιs : List Loc) (Hs : AH) (ws : World), St w0 ι fn.ntmps [] fr H a w → Ext ιs Hs ws ι H w →
    b.wpIn Fence.wide 0 P (Exit.then (post.wpIn Fence.wide 0 P (bodyPostM Fence.wide 0 P fn (RR w0 ιs Hs ws R))) (bodyPostM Fence.wide 0 P fn (RR w0 ιs Hs ws R))) a w
theorem fwp_seq {b post : Code} (h : FWpK P fn R b post fr H) : FWp P fn R (.seq b post) fr H := fun w0 ι a w ιs Hs ws hs he => wpIn_seq (h w0 ι a w ιs Hs ws hs he)
theorem fwp_seq2 {x b post : Code} (hok : codeOk fn.ntmps x = true) (h : WP P fn.ntmps x (thenA (fun fr H => FWpK P fn R b post fr H) (retA P fn.results.toList R)) fr H) : FWp P fn R (.seq (.seq x b) post) fr H := fun w0 ι ac w ιs Hs ws hs he => by
  refine wpIn_seq (wpIn_seq (wpIn_wide.2 (wp_sound x hok h [] w0 ι ac w _ hs ?_)))
  intro e fr1 H1 ι1 a1 w1 g1 g2 g3
  cases e with
  | normal => exact g1 w0 ι1 a1 w1 ιs Hs ws g2 (he.trans g3)
  | ret => exact end_plain (e := .ret) g2 (he.trans g3) g1
  | exit id => exact g1.elim
  | goto l => exact g1.elim
  | panic c => exact g1.elim
  | outgrown => exact g1.elim

/-- What an iterator does: it calls yield with x 0, x 1 .. x (k-1), as long as it is told to go on; 'C' is what it reads. -/
def IterSpec (P : Program) (gf : FuncId) (lb : List AV) (k : Nat) (x : Nat → AV) (C : AH → Prop) : Prop :=
  ∀ (w0 W0 : World) (ι0 : List Loc) (H0 : AH) (rec : LoopState → Option Code → Loop) (I : Nat → AH → Prop) (J : AH → Prop), (∀ i H', I i H' → C H') →
    (∀ i ι H' w (cargs : Array Value), i < k → I i H' → LocLe ι0 ι → Rep w0 ι H' w → Ext ι0 H0 W0 ι H' w → LoopSt w0 W0.heap.size (rec .ready none) ι w → RVL w0.heap.size ι [x i] cargs.toList →
      YieldAt Fence.wide 0 P (W0.heap.size + 1) cargs w fun e w' => ∃ ι' H'', Rep w0 ι' H'' w' ∧ LocLe ι ι' ∧ Ext ι0 H0 W0 ι' H'' w' ∧
        ((e = .returned (.bool true) ∧ I (i + 1) H'' ∧ LoopSt w0 W0.heap.size (rec .ready none) ι' w') ∨ (e = .returned (.bool false) ∧ J H'' ∧ LoopSt w0 W0.heap.size (rec .done (some .ret)) ι' w'))) →
    ∀ ι H w (cargs : Array Value), I 0 H → LocLe ι0 ι → Rep w0 ι H w → Ext ι0 H0 W0 ι H w → LoopSt w0 W0.heap.size (rec .ready none) ι w → RVL w0.heap.size ι (.yld (W0.heap.size + 1) :: lb) cargs.toList →
      CallsIn Fence.wide 0 P gf cargs w fun e w' => (∃ v, e = .returned v) ∧ ∃ ι' H', Rep w0 ι' H' w' ∧ LocLe ι ι' ∧ Ext ι0 H0 W0 ι' H' w' ∧
        ((I k H' ∧ LoopSt w0 W0.heap.size (rec .ready none) ι' w') ∨ (J H' ∧ LoopSt w0 W0.heap.size (rec .done (some .ret)) ι' w'))

theorem enters_callFunc {P : Program} {f : FuncId} (h : enters P f = true) (args : Array Value) (w : World) : (callFunc f args).run P w = .ok (.enter f args) w := enters_run h args w

/-- The range, and what comes behind it. -/
theorem fwp_range {bid : Nat} {g : Operand} {p : Tmp} {assign body post : Code} {gf : FuncId} {lb : List AV} {k : Nat} {x : Nat → AV} {C : AH → Prop} (I : Nat → AH → Prop) (J : AH → Prop)
    (hg : aeval fr g = .func gf lb) (hent : enters P gf = true) (hit : IterSpec P gf lb k x C) (hp : p < fn.ntmps) (hC : ∀ i H', I i H' → C H') (h0 : I 0 H)
    (hround : ∀ i H', i < k → I i H' → AWpR P fn.ntmps assign (thenA (fun fr1 H1 => AWpR P fn.ntmps body (roundQ (I (i + 1)) J) fr1 H1) (fun _ _ _ => False)) (lput fr p (x i)) H')
    (hpost : ∀ H', I k H' → AWp P fn.ntmps post (retA P fn.results.toList R) fr H') (hret : ∀ H', J H' → retA P fn.results.toList R .ret fr H') :
    FWpK P fn R (.block bid (.rangeFunc g #[p] assign body)) post fr H := by
  intro w0 ι a w ιs Hs ws hs he
  have hgv := aeval_ok hs.fr g
  rw [hg] at hgv
  unfold RV at hgv
  obtain ⟨lbv, hgv, hlb⟩ := hgv
  refine wpIn_block (wpIn_rangeFunc ?_)
  intro f hf
  obtain ⟨rec, hrec⟩ : ∃ rec : LoopState → Option Code → Loop, rec = fun st pe => { state := st, pending := pe, fn := f, tmps := a.tmps, params := #[p], assign, body, defers := w.heap.size } := ⟨_, rfl⟩
  obtain ⟨W1, hW1⟩ : ∃ W1, (w.alloc (.deferred (some []))).alloc (.loop (rec .ready none)) = W1 := ⟨_, rfl⟩
  have hrep1 : Rep w0 ι H W1 := by rw [← hW1]; exact (hs.rep.alloc _).alloc _
  have hext1 : Ext ι H w ι H W1 := by rw [← hW1]; exact ((Ext.refl _ _ _).alloc _).alloc _
  have hls1 : LoopSt w0 w.heap.size (rec .ready none) ι W1 := by
    refine ⟨hs.rep.below.size, ?_, ?_, unmapped_new hs.rep (Nat.le_refl _), unmapped_new hs.rep (by omega)⟩
    · rw [← hW1]; exact (Below.heap_alloc _ _ _ (by simp)).trans (World.alloc_heap_new w _)
    · rw [← hW1]; have := World.alloc_heap_new (w.alloc (.deferred (some []))) (.loop (rec .ready none)); rwa [World.size_alloc] at this
  have hD : ws.heap.size ≤ w.heap.size := he.size
  refine ⟨w.heap.size + 1, [{ target := .collected w.heap.size, args := #[] }], W1, { target := .fn (.func gf) lbv, args := #[.func (.yield (w.heap.size + 1)) #[] #[]] }, W1, gf,
    #[.func (.yield (w.heap.size + 1)) #[] #[]] ++ lbv, W1, ?_, ?_, fun _ _ => trivial, ?_, fun h => by simp [Fence.wide] at h, ?_⟩
  · rw [← hW1, hrec]; exact run_enterLoop_outer _ _ _ _ _
  · simp only [resolve, hgv]
    simp [go_sem]
  · simp [invoke, go_sem, enters_callFunc hent]
  · refine (hit w0 w ι H rec I J hC ?_ ι H W1 _ h0 (LocLe.refl _) hrep1 hext1 hls1 ?_).mono ?_
    · intro i ι' H' w' cargs hi hI hle hrep hext hls hargs
      have hlen := hargs.length
      simp only [Array.length_toList, List.length_cons, List.length_nil] at hlen
      unfold RVL at hargs
      obtain ⟨y, m, e1, e2, e3⟩ := hargs
      unfold RVL at e3
      subst e3
      obtain rfl : cargs = #[y] := by cases cargs; simp at e1; rw [e1]
      refine round_run rec hrec (by simp) hrep hext hls (fr := lput fr p (x i)) ?_ ?_ (hround i H' hi hI)
      · have e : (((#[p] : Array Tmp).zip #[y]).foldl (fun (t : Array Value) (q : Tmp × Value) => t.setIfInBounds q.1 q.2) a.tmps) = a.tmps.setIfInBounds p y := by simp
        exact e ▸ (hs.fr.ext hle).put (by rw [hs.size]; exact hp) e2
      · simp [hs.size]
    · rw [Array.toList_append]
      unfold RVL
      exact ⟨_, _, rfl, by unfold RV; rfl, hlb⟩
    · rintro e W2 ⟨⟨v, rfl⟩, ι2, H2, hrep2, hle2, hext2, hfin⟩
      rcases hfin with ⟨hI, hls⟩ | ⟨hJ, hls⟩
      · refine ⟨_, _, run_endLoop hls.rc (by rw [hrec]; simp), ?_⟩
        rw [hrec]
        have hls' := hls.put { rec .ready none with state := .exhausted }
        have hrep' := hrep2.put (.loop { rec .ready none with state := .exhausted }) (B := w.heap.size + 1) (by have := hls.lo; omega) hls.u1
        have hext' := hext2.put (.loop { rec .ready none with state := .exhausted }) (B := w.heap.size + 1) (by omega)
        rw [hrec] at hls' hrep' hext'
        refine wpIn_wide.2 (hpost H2 hI [{ target := .collected w.heap.size, args := #[] }] w0 ι2 _ _ _ ⟨hrep', hs.fr.ext hle2, hs.size, by simp [hs.defers]⟩ ?_)
        intro e fr3 H3 ι3 a3 w3 k1 k2 k3
        exact end_mark k2 ((he.trans hext').trans k3) hD (hls'.ext k3) k1
      · refine ⟨_, _, run_endLoop hls.rc (by rw [hrec]; simp), ?_⟩
        rw [hrec]
        have hls' := hls.put { rec .done (some .ret) with state := .exhausted }
        have hrep' := hrep2.put (.loop { rec .done (some .ret) with state := .exhausted }) (B := w.heap.size + 1) (by have := hls.lo; omega) hls.u1
        have hext' := hext2.put (.loop { rec .done (some .ret) with state := .exhausted }) (B := w.heap.size + 1) (by omega)
        rw [hrec] at hls' hrep' hext'
        exact wpIn_ret (end_mark (e := .ret) ⟨hrep', hs.fr.ext hle2, hs.size, by simp [hs.defers]⟩ (he.trans hext') hD hls' (hret H2 hJ))

theorem st_enter {w0 w : World} {ι : List Loc} {args : List AV} {cargs : Array Value} {n : Nat} (hr : Rep w0 ι H w) (hv : RVL w0.heap.size ι args cargs.toList) (hl : args.length ≤ n) : St w0 ι n [] args H { tmps := cargs ++ Array.replicate (n - cargs.size) undef, defers := [] } w := by
  refine ⟨hr, ?_, ?_, rfl⟩
  · intro i
    have hlen := hv.length
    simp only [Array.length_toList] at hlen
    by_cases hi : i < args.length
    · obtain ⟨y, h1, h2⟩ := hv.get (List.getElem?_eq_getElem hi)
      rw [Array.getElem?_toList] at h1
      rw [lget_getElem hi, Array.getD_eq_getD_getElem?, Array.getElem?_append_left (by omega), h1]
      exact h2
    · rw [lget_len (by omega)]
      unfold RV; trivial
  · have hlen := hv.length
    simp only [Array.length_toList] at hlen
    simp; omega

theorem aspec_fwp {f : FuncId} {c : Code} {args : List AV} (hf : P.funcs[f]? = some fn) (hb : fn.body = some c) (hname : (fn.name == "runtime.NumGoroutine") = false) (hl : args.length ≤ fn.ntmps) (h : FWp P fn R c args H) : ASpec P f args H R := by
  refine fun w0 ι w cargs hr hv => .inl ⟨by unfold enters; rw [hf]; simp [hb, hname], Calls.mono (R := RR w0 ι H w R) ?_ fun e w' ⟨r, H', ι', v, h1, h2, h3, h4, h5⟩ => ⟨v, h1, r, H', ι', h2, h3, h4, h5⟩⟩
  refine callsIn_wide.1 (callsIn_of_wp_marks (F := Fence.wide) (n := 0) hf hb trivial (h w0 ι _ w ι H w (st_enter hr hv hl) (Ext.refl _ _ _)))
end

/-- A piece of code that is walked by itself. -/
theorem awp_piece {P : Program} {N : Nat} {c : Code} {Q : Exit → AFr → AH → Prop} {fr : AFr} {H : AH} {ds : List Deferred} {w0 w : World} {ι : List Loc} {a : Act} {QC : Exit → Act → World → Prop} (h : AWp P N c Q fr H) (hs : St w0 ι N ds fr H a w)
    (hQ : ∀ e fr' H' ι' a' w', Q e fr' H' → St w0 ι' N ds fr' H' a' w' → Ext ι H w ι' H' w' → QC e a' w') : c.wpIn Fence.wide 0 P QC a w := wpIn_wide.2 (h ds w0 ι a w QC hs hQ)
theorem St.use {N : Nat} {fr : AFr} {H : AH} {ds : List Deferred} {w0 w : World} {ι : List Loc} {a : Act} (hs : St w0 ι N ds fr H a w) {L : List (Nat × AV)} (h : hasF L fr) : St w0 ι N ds (frOf L) H a w :=
  ⟨hs.rep, fun i => by
    rcases frOf_le h i with e | e
    · rw [e]; unfold RV; trivial
    · rw [e]; exact hs.fr i, hs.size, hs.defers⟩

theorem wpListIn_now {F : Fence} {n : Nat} {P : Program} {ops : Array Oper} {Q : Exit → Act → World → Prop} {a : Act} {w : World} {o : Oper} {rest : List Oper} (hg : o.guard = none) (h : o.wpIn F n P a w (wpListIn F n P ops Q rest) Q) : wpListIn F n P ops Q (o :: rest) a w := by
  unfold wpListIn
  rw [if_pos (by unfold Region.wanted; rw [hg])]
  exact h
/-- A region in two parts. -/
theorem wpIn_region_split {P : Program} {N : Nat} {fr : AFr} {H : AH} {ds : List Deferred} {w0 w : World} {ι : List Loc} {a : Act} {QC : Exit → Act → World → Prop} {id : Nat} {l : List Oper} (n : Nat) {Q : AFr → AH → Prop} (hd : dstsOk N l = true) (h : AOps P l.toArray Q (l.take n) fr H) (hs : St w0 ι N ds fr H a w)
    (hQ : ∀ fr' H' ι' a' w', Q fr' H' → St w0 ι' N ds fr' H' a' w' → Ext ι H w ι' H' w' → wpListIn (rf none) 0 P l.toArray QC (l.drop n) a' w') : (Code.region id l.toArray false).wpIn Fence.wide 0 P QC a w := by
  refine wpIn_region_lit (F := rf none) ?_
  have := AOps_soundI (ro := none) (QC := QC) (l.drop n) (l.take n) (fun o ho => dstsOk_spec hd o (List.mem_of_mem_take ho)) h hs hQ
  rwa [List.take_append_drop] at this

theorem awp_rest {P : Program} {N : Nat} {fr : AFr} {H : AH} {ds : List Deferred} {w0 w : World} {ι : List Loc} {a : Act} {QC : Exit → Act → World → Prop} {ops : Array Oper} {l : List Oper} {Q : AFr → AH → Prop} (h : AOps P ops Q l fr H) (hs : St w0 ι N ds fr H a w) (hd : dstsOk N l = true)
    (hQ : ∀ fr' H' ι' a' w', Q fr' H' → St w0 ι' N ds fr' H' a' w' → Ext ι H w ι' H' w' → QC .normal a' w') : wpListIn (rf none) 0 P ops QC l a w := by
  have := AOps_soundI (ro := none) (QC := QC) [] l (dstsOk_spec hd) h hs hQ
  rwa [List.append_nil] at this

/-- A loop: an invariant that bears a number, which every round lowers. -/
theorem wpIn_loop_ghost {F : Fence} {n : Nat} {P : Program} {Q : Exit → Act → World → Prop} {a : Act} {w : World} {c : Code} (I : Nat → Act → World → Prop) (n₀ : Nat) (h₀ : I n₀ a w)
    (round : ∀ m a w, I m a w → c.wpIn F n P (Exit.then (fun a' w' => ∃ n', n' < m ∧ I n' a' w') Q) a w) : (Code.loop c).wpIn F n P Q a w := by
  refine wpIn_loop (fun a w => ∃ n, I n a w) (fun a w => leastOf (fun n => I n a w)) ⟨n₀, h₀⟩ ?_
  intro a w hI
  refine wpIn_mono (round _ a w (leastOf_spec hI).1) ?_
  intro e a' w' hq
  cases e with
  | normal =>
    obtain ⟨n', hlt, hI'⟩ := hq
    exact show (∃ n, I n a' w') ∧ leastOf (fun n => I n a' w') < leastOf (fun n => I n a w) from ⟨⟨n', hI'⟩, Nat.lt_of_le_of_lt ((leastOf_spec ⟨n', hI'⟩).2 n' hI') hlt⟩
  | exit id => exact hq
  | goto l => exact hq
  | ret => exact hq
  | panic c => exact hq
  | outgrown => exact hq

/-- A call of yield. -/
theorem yld_step {P : Program} {N : Nat} {ds : List Deferred} {w0 w : World} {ι : List Loc} {fr : AFr} {H : AH} {a : Act} {o : Oper} {g x : Operand} {ts : Array TypeId} {l : Nat} {v : AV} {R : Ending → World → Prop} {K : Act → World → Prop} {Q : Exit → Act → World → Prop}
    (ho : o.op = .call { callee := .value g, args := #[x], argTypes := ts }) (hg : aeval fr g = .yld l) (hx : aeval fr x = v) (hs : St w0 ι N ds fr H a w)
    (hy : ∀ cargs : Array Value, RVL w0.heap.size ι [v] cargs.toList → YieldAt Fence.wide 0 P l cargs w R) (hR : ∀ e w', R e w' → ∃ u, e = .returned u ∧ K (a.put o.dst u) w') : o.wpIn (rf none) 0 P a w K Q := by
  have hgv := aeval_ok hs.fr g
  rw [hg] at hgv
  unfold RV at hgv
  have hxv := aeval_ok hs.fr x
  rw [hx] at hxv
  obtain ⟨fn, tm, as, bo, h1, h2⟩ := hy #[a.eval x] (by unfold RVL; exact ⟨_, _, rfl, hxv, by unfold RVL; rfl⟩)
  refine ⟨fun _ _ => trivial, ?_⟩
  rw [Oper.semAt_eq _ _ _ (fun c e => by rw [ho] at e; cases e)]
  have hrun : (execOp a.eval o).run P w = .ok (.round l fn tm as bo) w := by
    rw [← h1]
    obtain ⟨dst, op, ty, ps, af, gu⟩ := o
    simp only at ho
    subst ho
    simp only [execOp, resolve, hgv, Deferred.ofValue, pure_bind, invoke]
    simp
  rw [hrun, Oper.uponIn_round]
  refine ⟨fun h => by simp [rf, Fence.wide] at h, h2.mono fun e w' hr => ?_⟩
  obtain ⟨u, rfl, hk⟩ := hR e w' hr
  exact hk

/-! a part of a slice, its capacity cut -/
def cut3V (v : AV) (lo hi : Nat) : AV :=
  match v with
  | .slice a _ _ => cutA a 1 lo hi hi
  | v => v
theorem IsBytes.cut3V {H : AH} {v : AV} {xs : List UInt8} (h : IsBytes H v xs) {lo hi : Nat} (h1 : lo ≤ hi) (h2 : hi ≤ xs.length) : IsBytes H (cut3V v lo hi) ((xs.drop lo).take (hi - lo)) := by
  have hs := h.sl
  have hl := h.len
  have hlen : ((xs.drop lo).take (hi - lo)).length = hi - lo := by simp; omega
  cases v with
  | nilslice =>
    simp only [slen] at hl
    have : xs = [] := List.eq_nil_of_length_eq_zero hl.symm
    subst this
    exact ⟨by simp [Go.Abs.cut3V, rowA], by simp [Go.Abs.cut3V, slen], rfl⟩
  | slice a n c =>
    simp only [slen] at hl
    have hrow := h.row
    simp only [rowA] at hrow
    obtain ⟨cs, g1, g2⟩ := Option.bind_eq_some_iff.1 hrow
    split at g2
    · rename_i hle
      injection g2 with g2
      have hget : ∀ o, H.get ⟨a.ro, a.blk, o⟩ = some cs := fun o => by unfold AH.get at *; exact g1
      have key : ∀ (a' : AAddr) (c' : Cap), H.get a' = some cs → (a'.off = a.off + lo ∨ hi - lo = 0) → rowA H 1 (.slice a' (hi - lo) c') = some (((xs.drop lo).take (hi - lo)).map bv) := fun a' c' k1 k2 => by
        simp only [rowA, k1, Option.bind_some]
        rw [if_pos (by omega)]
        congr 1
        rcases Nat.eq_zero_or_pos (hi - lo) with h0 | h0
        · simp [h0]
        · have k3 : a'.off = a.off + lo := by omega
          rw [k3, ← List.drop_drop, List.map_take, List.map_drop, ← g2, List.drop_take, List.take_take]
          congr 1
          omega
      simp only [Go.Abs.cut3V, cutA]
      refine ⟨key _ _ ?_ ?_, by rw [hlen]; rfl, by simp [isSl]⟩
      · split
        · exact g1
        · exact hget _
      · split
        · omega
        · left; simp
    · cases g2
  | _ => simp [isSl] at hs
theorem IsBytes.slice3 {H : AH} {v : AV} {xs : List UInt8} (h : IsBytes H v xs) {P : Program} {t e : TypeId} (ht : P.underlying t = some (.slice e)) (hs : sizeA P e = some 1) {lo hi : Nat} (h1 : lo ≤ hi) (h2 : hi ≤ xs.length) (h0 : 0 < xs.length) :
    sliceOpA P t v (some (.int .i64 lo)) (some (.int .i64 hi)) (some (.int .i64 hi)) = some (Go.Abs.cut3V v lo hi) := by
  have hsl := h.sl
  have hl := h.len
  have eb : ∀ (z y d : Nat), z ≤ y → optB (some (.int .i64 z)) y d = some z := fun z y d hy => by
    simp only [optB, boundA]; rw [if_pos (by omega)]; rfl
  cases v with
  | nilslice => simp only [slen] at hl; omega
  | slice a n c =>
    simp only [slen] at hl
    subst hl
    cases c with
    | known c =>
      simp only [isSl, decide_eq_true_eq] at hsl
      simp only [sliceOpA, ht, hs, Option.bind_some, cutKnown, Option.isSome_some, Option.isNone_some, Bool.and_false, Bool.false_eq_true, if_false]
      rw [eb hi c c (by omega), Option.bind_some, eb hi hi _ (Nat.le_refl _), Option.bind_some, eb lo hi 0 h1]
      rfl
    | grow g =>
      simp only [isSl, Bool.and_eq_true, decide_eq_true_eq, Bool.not_eq_true'] at hsl
      obtain ⟨rfl, hro⟩ := hsl
      simp only [sliceOpA, ht, hs, Option.bind_some, hro, and_self, if_true]
      rw [if_pos h0, eb hi _ _ h2, Option.bind_some]
      simp only [Option.isNone_some, Bool.false_eq_true, if_false]
      rw [eb hi hi _ (Nat.le_refl _), Option.bind_some, eb lo hi 0 h1]
      rfl
  | _ => simp [isSl] at hsl
theorem slen_cut3V {H : AH} {v : AV} {xs : List UInt8} (h : IsBytes H v xs) (h0 : 0 < xs.length) (lo hi : Nat) : slen (cut3V v lo hi) = hi - lo := by
  have hsl := h.sl
  have hl := h.len
  cases v with
  | nilslice => simp only [slen] at hl; omega
  | slice a n c => rfl
  | _ => simp [isSl] at hsl

/-- All that is to be shown of a range. -/
structure RngOk (P : Program) (n : Nat) (rs : List ResultVar) (R : AV → AH → Prop) (g : Operand) (p : Tmp) (assign body post : Code) (fr : AFr) (H : AH) (gf : FuncId) (lb : List AV) (k : Nat) (x : Nat → AV) (C : AH → Prop) (I : Nat → AH → Prop) (J : AH → Prop) : Prop where
  hg : aeval fr g = .func gf lb
  hent : enters P gf = true
  hit : IterSpec P gf lb k x C
  hC : ∀ i H', I i H' → C H'
  h0 : I 0 H
  round : ∀ i H', i < k → I i H' → WP P n assign (thenA (fun fr1 H1 => WP P n body (roundQ (I (i + 1)) J) fr1 H1) (fun _ _ _ => False)) (lput fr p (x i)) H'
  post : ∀ H', I k H' → WP P n post (retA P rs R) fr H'
  ret : ∀ H', J H' → retA P rs R .ret fr H'
def Rng (P : Program) (n : Nat) (rs : List ResultVar) (R : AV → AH → Prop) (g : Operand) (p : Tmp) (assign body post : Code) (fr : AFr) (H : AH) : Prop := ∃ gf lb k x C I J, RngOk P n rs R g p assign body post fr H gf lb k x C I J
theorem aspec_rng {P : Program} {f : FuncId} {fn : Func} {c x : Code} {args : List AV} {n bid : Nat} {g : Operand} {p : Tmp} {assign body post : Code} {rs : List ResultVar} {R : AV → AH → Prop} {H : AH} (m : Nat) (hf : P.funcs[f]? = some fn) (hb : fn.body = some c) (hname : (fn.name == "runtime.NumGoroutine") = false) (hr : fn.results.toList = rs) (hn : fn.ntmps = n) (hl : args.length ≤ n)
    (hc : restC m c = .seq (.seq x (.block bid (.rangeFunc g #[p] assign body))) post) (hok : (codeOk n (headN m c) && codeOk n x && codeOkR n assign && codeOkR n body && codeOk n post && decide (p < n)) = true)
    (h : WP P n (headN m c) (thenA (fun fr H => WP P n x (thenA (fun fr H => Rng P n rs R g p assign body post fr H) (retA P rs R)) fr H) (retA P rs R)) args H) : ASpec P f args H R := by
  subst hn hr
  simp only [Bool.and_eq_true, decide_eq_true_eq] at hok
  obtain ⟨⟨⟨⟨⟨o1, o2⟩, o3⟩, o4⟩, o5⟩, o6⟩ := hok
  refine aspec_fwp hf hb hname hl (fwp_parts m c o1 h fun fr1 H1 h1 => ?_)
  rw [hc]
  refine fwp_seq2 o2 (wp_mono2 x (fun e fr2 H2 h2 => thenA_mono (fun fr3 H3 h3 => ?_) h2) h1)
  obtain ⟨gf, lb, k, xs, C, I, J, r⟩ := h3
  exact fwp_range I J r.hg r.hent r.hit o6 r.hC r.h0 (fun i H' hi hI => (wpR_sound _ o3 (r.round i H' hi hI)).mono fun e fr4 H4 h4 => thenA_mono (fun fr5 H5 h5 => wpR_sound _ o4 h5) h4) (fun H' hI => wp_sound _ o5 (r.post H' hI)) r.ret

/-! rows that lie where boxes do not -/
theorem Acc.chg {sz : Nat} {H0 H H' : AH} {b : AV} {n : Nat} {cs : List AV} {S : List Nat} (h : Acc sz H0 H b n cs) (k : Chg S H H') (hS : ∀ i ∈ S, H0.n ≤ i) (ho : offB S b) : Acc sz H0 H' b n cs := by
  refine ⟨((h.g.chg S).trans k).grew hS, h.len, ?_⟩
  rcases h.is with h1 | ⟨B, rfl, h2, h3⟩
  · exact .inl h1
  · refine .inr ⟨B, rfl, h2, k.cells (fun hm => ?_) h3⟩
    rcases ho with h4 | h4
    · cases h4
    · exact h4 hm
theorem AccRows.chg {H0 H H' : AH} {mv : AV} {ws : List AV} {rows : List (List UInt8)} {S : List Nat} (h : AccRows H0 H mv ws rows) (k : Chg S H H') (hS : ∀ i ∈ S, H0.n ≤ i) (ho : offB S mv) (he : ∀ j, j < rows.length → offB S (ws.getD j .unk)) : AccRows H0 H' mv ws rows :=
  ⟨h.acc.chg k hS ho, fun j hj => ⟨(h.each j hj).1.chg k (he j hj), (h.each j hj).2⟩⟩
end Go.Abs
