/- Running by computing: regions that draw and write; memory known phase by phase. -/
import Derived.Test.YtickckpndpeppaaA24
import Derived.Test.YtickckpndpeppaaA28
set_option linter.unusedVariables false
set_option linter.unusedSimpArgs false
namespace Go.Abs
open Go Go.RowKit

/-- Values that are the same, surely. -/
def capEq : Cap → Cap → Bool
  | .known a, .known b => a == b
  | .grow a, .grow b => a == b
  | _, _ => false
def adEq (a b : AAddr) : Bool := a.ro == b.ro && a.blk == b.blk && a.off == b.off
mutual
def avEq : AV → AV → Bool
  | .bool a, .bool b => a == b
  | .int k a, .int l b => decide (k = l) && decide (a = b)
  | .str a, .str b => decide (a = b)
  | .nilptr, .nilptr => true
  | .ptr a, .ptr b => adEq a b
  | .nilslice, .nilslice => true
  | .slice a n c, .slice b m d => adEq a b && n == m && capEq c d
  | .nilfunc, .nilfunc => true
  | .nilif, .nilif => true
  | .agg l, .agg m => avEqL l m
  | .tup l, .tup m => avEqL l m
  | _, _ => false
def avEqL : List AV → List AV → Bool
  | [], [] => true
  | x :: l, y :: m => avEq x y && avEqL l m
  | _, _ => false
end
theorem capEq_ok : ∀ {a b : Cap}, capEq a b = true → a = b
  | .known a, .known b, h => by simp [capEq] at h; rw [h]
  | .grow a, .grow b, h => by simp [capEq] at h; rw [h]
  | .known _, .grow _, h => by simp [capEq] at h
  | .grow _, .known _, h => by simp [capEq] at h
theorem adEq_ok {a b : AAddr} (h : adEq a b = true) : a = b := by
  obtain ⟨a1, a2, a3⟩ := a; obtain ⟨b1, b2, b3⟩ := b
  simp [adEq] at h
  obtain ⟨⟨rfl, rfl⟩, rfl⟩ := h
  rfl
mutual
theorem avEq_ok : ∀ {a b : AV}, avEq a b = true → a = b
  | .bool a, b, h => by cases b <;> simp [avEq] at h; rw [h]
  | .int k a, b, h => by cases b <;> simp [avEq] at h; rw [h.1, h.2]
  | .str a, b, h => by cases b <;> simp [avEq] at h; rw [h]
  | .nilptr, b, h => by cases b <;> simp [avEq] at h; rfl
  | .ptr a, b, h => by cases b <;> simp [avEq] at h; rw [adEq_ok h]
  | .nilslice, b, h => by cases b <;> simp [avEq] at h; rfl
  | .slice a n c, b, h => by cases b <;> simp [avEq] at h; rw [adEq_ok h.1.1, h.1.2, capEq_ok h.2]
  | .nilfunc, b, h => by cases b <;> simp [avEq] at h; rfl
  | .nilif, b, h => by cases b <;> simp [avEq] at h; rfl
  | .agg l, b, h => by cases b <;> simp [avEq] at h; rw [avEqL_ok h]
  | .tup l, b, h => by cases b <;> simp [avEq] at h; rw [avEqL_ok h]
  | .unk, b, h => by cases b <;> simp [avEq] at h
  | .func .., b, h => by cases b <;> simp [avEq] at h
  | .iface .., b, h => by cases b <;> simp [avEq] at h
  | .nilmap, b, h => by cases b <;> simp [avEq] at h
  | .map _, b, h => by cases b <;> simp [avEq] at h
  | .yld _, b, h => by cases b <;> simp [avEq] at h
theorem avEqL_ok : ∀ {l m : List AV}, avEqL l m = true → l = m
  | [], m, h => by cases m <;> simp [avEqL] at h; rfl
  | x :: l, m, h => by
    cases m with
    | nil => simp [avEqL] at h
    | cons y m =>
      simp [avEqL] at h
      rw [avEq_ok h.1, avEqL_ok h.2]
end

/-- How long each operation that floats may wait. -/
def dueL (md : Region.Mode) (ops : Array Oper) (i : Nat) : List (Nat × Bool) → List Nat → Nat → Nat
  | [], _, n => n
  | (j, b) :: l, D, n =>
    if (match ops[j]? with | some o => o.after.any fun e => Region.binds md e && (e.on == i || D.contains e.on) | none => false) then
      (if b then dueL md ops i l (j :: D) n else n)
    else dueL md ops i l D (if b then n else n + 1)
def dueOf (md : Region.Mode) (ops : Array Oper) : List (Nat × Bool) → List (Nat × Option Nat)
  | [] => []
  | (i, true) :: l => (i, some (dueL md ops i l [] 0)) :: dueOf md ops l
  | (i, false) :: l => (i, none) :: dueOf md ops l

def sameOp (P : Program) (fr : AFr) (op : Op) (v : AV) (K : AH) : Bool := rigidA K v && (match opA P fr K op with | some vh => avEq vh.1 v | none => false)
def okQ (P : Program) (fr : AFr) (H : AH) (Hs : List AH) (n q : Nat) (op : Op) (v : AV) : Bool :=
  copyOp op || (stillOp op && convOk op v && (n == 0 || (isLoad op && (decide (n ≤ q) || loadRo fr op)) || (rigidA H v && ((Hs.drop 1).take n).all (sameOp P fr op v))))

def runQ (call : Caller) (P : Program) (ops : Array Oper) : List (Nat × Option Nat) → AFr → AH → Option (List AH × AFr × AH)
  | [], fr, H => some ([H], fr, H)
  | (i, some n) :: rest, fr, H =>
    match ops[i]? with
    | none => none
    | some o => match guardA ops fr o with
      | none => none
      | some false => runQ call P ops rest (putA fr o.dst (.tup [])) H
      | some true => match opA P fr H o.op with
        | some vh => match runQ call P ops rest (putA fr o.dst vh.1) H with
          | some r => if okQ P fr H r.1 n (quietL (rest.map fun p => (ops[p.1]?, p.2))) o.op vh.1 then some r else none
          | none => none
        | none => none
  | (i, none) :: rest, fr, H =>
    match ops[i]? with
    | none => none
    | some o => match runOps call P ops [o] fr H with
      | some r => (runQ call P ops rest r.1 r.2).map fun q => (H :: q.1, q.2)
      | none => none

theorem allP_eqM {φ : AH → Prop} : ∀ {l : List AH}, (∀ X ∈ l, φ X) → allP φ (l.map eqM)
  | [], _ => trivial
  | X :: l, h => ⟨fun K e => by have e' : K = X := e; rw [e']; exact h X (by simp), allP_eqM fun Y hY => h Y (by simp [hY])⟩

theorem runQ_head {call : Caller} {P : Program} {ops : Array Oper} : ∀ (l : List (Nat × Option Nat)) {fr : AFr} {H : AH} {r : List AH × AFr × AH}, runQ call P ops l fr H = some r → ∃ Hs, r.1 = H :: Hs
  | [], fr, H, r, h => by simp only [runQ] at h; injection h with h; subst h; exact ⟨[], rfl⟩
  | (i, some n) :: rest, fr, H, r, h => by
    simp only [runQ] at h
    split at h
    · cases h
    · split at h
      · cases h
      · exact runQ_head rest h
      · split at h
        · split at h
          · rename_i hr
            split at h
            · injection h with h; subst h; exact runQ_head rest hr
            · cases h
          · cases h
        · cases h
  | (i, none) :: rest, fr, H, r, h => by
    simp only [runQ] at h
    split at h
    · cases h
    · split at h
      · obtain ⟨q, hq, rfl⟩ := Option.map_eq_some_iff.1 h
        exact ⟨_, rfl⟩
      · cases h

theorem runQ_ok {P : Program} {call : Caller} (hc : CallerOk P call) {ops : Array Oper} {Q : AFr → AH → Prop} : ∀ (l : List (Nat × Option Nat)) {fr : AFr} {H : AH} {r : List AH × AFr × AH}, runQ call P ops l fr H = some r → Q r.2.1 r.2.2 →
    DOpsP P ops [] Q (l.map fun p => (ops[p.1]?, p.2)) (r.1.map eqM) fr H
  | [], fr, H, r, h, hq => by simp only [runQ] at h; injection h with h; subst h; exact hq
  | (i, some n) :: rest, fr, H, r, h, hq => by
    simp only [runQ] at h
    simp only [List.map_cons]
    cases ho : ops[i]? with
    | none => rw [ho] at h; cases h
    | some o =>
      rw [ho] at h
      simp only at h
      simp only [DOpsP]
      cases hg : guardA ops fr o with
      | none => rw [hg] at h; cases h
      | some b =>
        rw [hg] at h
        cases b with
        | false => exact runQ_ok hc rest h hq
        | true =>
          simp only at h
          simp only [ifG]
          cases hop : opA P fr H o.op with
          | none => rw [hop] at h; cases h
          | some vh =>
            rw [hop] at h
            simp only at h
            cases hr : runQ call P ops rest (putA fr o.dst vh.1) H with
            | none => rw [hr] at h; cases h
            | some r' =>
              rw [hr] at h
              simp only at h
              split at h
              · rename_i hk
                injection h with h
                subst h
                simp only [opThen]
                refine ⟨?_, runQ_ok hc rest hr hq⟩
                unfold okQ at hk
                simp only [Bool.or_eq_true, Bool.and_eq_true, beq_iff_eq, decide_eq_true_eq] at hk
                rcases hk with hk | ⟨⟨h1, h2⟩, h3⟩
                · exact .inl hk
                · refine .inr ⟨h1, h2, ?_⟩
                  rcases h3 with (h3 | h3) | ⟨h3, h4⟩
                  · exact .inl h3
                  · exact .inr (.inl h3)
                  · refine .inr (.inr (.inr ⟨by cases o.dst <;> rfl, h3, ?_⟩))
                    rw [← List.map_drop, ← List.map_take]
                    refine allP_eqM fun X hX => ?_
                    have h5 := List.all_eq_true.1 h4 X hX
                    unfold sameOp at h5
                    simp only [Bool.and_eq_true] at h5
                    refine ⟨?_, h5.1⟩
                    have h6 := h5.2
                    split at h6
                    · rename_i vh' e
                      obtain ⟨v', K'⟩ := vh'
                      have h7 : v' = vh.1 := avEq_ok h6
                      rw [e, stillOp_same h1 e, h7]
                    · cases h6
              · cases h
  | (i, none) :: rest, fr, H, r, h, hq => by
    simp only [runQ] at h
    simp only [List.map_cons]
    cases ho : ops[i]? with
    | none => rw [ho] at h; cases h
    | some o =>
      rw [ho] at h
      simp only at h
      simp only [DOpsP]
      cases hr : runOps call P ops [o] fr H with
      | none => rw [hr] at h; cases h
      | some s =>
        rw [hr] at h
        simp only at h
        obtain ⟨q, hq', rfl⟩ := Option.map_eq_some_iff.1 h
        obtain ⟨Hs, he⟩ := runQ_head rest hq'
        refine runOps_ok hc [o] hr ?_
        simp only [he, List.map_cons]
        refine ⟨rfl, ?_⟩
        have := runQ_ok hc rest hq' hq
        rwa [he] at this

def runDrawQ (call : Caller) (P : Program) (ops : Array Oper) (fr : AFr) (H : AH) : Option (AFr × AH) :=
  let listed := Array.replicate ops.size false
  let order := dueOf .any ops (greedy ops ops.size listed)
  let Fs := order.filterMap fun p => if p.2.isNone then some p.1 else none
  if Region.noSelect ops && order.length == ops.size && phase Fs listed == 0 && drawOkP .any ops Fs order 0 listed then
    (runQ call P ops order fr H).map (·.2)
  else none

theorem runDrawQ_ok {P : Program} {call : Caller} (hc : CallerOk P call) {N id : Nat} {l : List Oper} {Q : Exit → AFr → AH → Prop} {fr : AFr} {H : AH} {fr' : AFr} {H' : AH} (h : runDrawQ call P l.toArray fr H = some (fr', H')) (hd : dstsOk N l = true) (hm : P.follows .mixedOrders = true) (hq : Q .normal fr' H') :
    AWp P N (.region id l.toArray true) Q fr H := by
  unfold runDrawQ at h
  simp only at h
  split at h
  · rename_i hok
    generalize dueOf .any l.toArray (greedy l.toArray l.toArray.size (Array.replicate l.toArray.size false)) = order at h hok
    generalize (order.filterMap fun p => if p.2.isNone then some p.1 else none) = Fs at h hok
    have hok' : (Region.noSelect l.toArray && order.length == l.length && phase Fs (Array.replicate l.length false) == 0 && drawOkP .any l.toArray Fs order 0 (Array.replicate l.length false)) = true := by simpa using hok
    obtain ⟨r, hr, e⟩ := Option.map_eq_some_iff.1 h
    obtain ⟨Hs, he⟩ := runQ_head order hr
    have hok2 := runQ_ok (Q := Q .normal) hc order hr (by rw [e]; exact hq)
    refine awp_drawP (r.1.map eqM) order Fs hm hd hok' ?_ hok2
    rw [he]
    exact rofP_0 rfl
  · cases h

def runCQ (call : Caller) (lf : Nat) (P : Program) (N : Nat) : Code → AFr → AH → Option (Exit × AFr × AH)
  | .skip, fr, H => some (.normal, fr, H)
  | .region _ ops false, fr, H => if dstsOk N ops.toList then (runOps call P ops ops.toList fr H).map fun r => (.normal, r.1, r.2) else none
  | .region _ ops true, fr, H => if dstsOk N ops.toList && P.follows .mixedOrders then (runDrawQ call P ops fr H).map fun r => (.normal, r.1, r.2) else none
  | .seq a b, fr, H =>
    match runCQ call lf P N a fr H with
    | some (.normal, fr', H') => runCQ call lf P N b fr' H'
    | r => r
  | .cond c x y, fr, H =>
    match aeval fr c with
    | .bool true => runCQ call lf P N x fr H
    | .bool false => runCQ call lf P N y fr H
    | _ => none
  | .block id c, fr, H =>
    match runCQ call lf P N c fr H with
    | some (.exit id', fr', H') => if id' = id then some (.normal, fr', H') else some (.exit id', fr', H')
    | r => r
  | .loop c, fr, H => loopA (fun fr H => runCQ call lf P N c fr H) lf fr H
  | .exit id, fr, H => some (.exit id, fr, H)
  | .ret, fr, H => some (.ret, fr, H)
  | _, _, _ => none


theorem runCQ_ok {P : Program} {call : Caller} (hc : CallerOk P call) {lf N : Nat} : ∀ (c : Code) {Q : Exit → AFr → AH → Prop} {fr : AFr} {H : AH} {e : Exit} {fr' : AFr} {H' : AH}, runCQ call lf P N c fr H = some (e, fr', H') → Q e fr' H' → AWp P N c Q fr H := by
  intro c
  induction c with
  | skip => intro Q fr H e fr' H' h hq; simp only [runCQ] at h; injection h with h; injection h with h1 h2; injection h2 with h2 h3; subst h1 h2 h3; exact awp_skip hq
  | region id ops draw =>
    intro Q fr H e fr' H' h hq
    cases draw with
    | true =>
      simp only [runCQ] at h
      split at h
      · rename_i hd
        simp only [Bool.and_eq_true] at hd
        obtain ⟨r, hr, h⟩ := Option.map_eq_some_iff.1 h
        injection h with h1 h2
        injection h2 with h2 h3
        subst h1 h2 h3
        have : ops = ops.toList.toArray := by simp
        rw [this]
        exact runDrawQ_ok hc (l := ops.toList) (by simpa using hr) hd.1 hd.2 hq
      · cases h
    | false =>
      simp only [runCQ] at h
      split at h
      · rename_i hd
        obtain ⟨r, hr, h⟩ := Option.map_eq_some_iff.1 h
        injection h with h1 h2
        injection h2 with h2 h3
        subst h1 h2 h3
        have : ops = ops.toList.toArray := by simp
        rw [this]
        exact awp_region hd (runOps_ok hc ops.toList (by simpa using hr) hq)
      · cases h
  | seq a b iha ihb =>
    intro Q fr H e fr' H' h hq
    simp only [runCQ] at h
    refine awp_seq ?_
    cases ha : runCQ call lf P N a fr H with
    | none => rw [ha] at h; cases h
    | some r =>
      obtain ⟨e1, fr1, H1⟩ := r
      rw [ha] at h
      refine iha ha ?_
      cases e1 with
      | normal => exact ihb h hq
      | _ => simp only at h; injection h with h; injection h with h1 h2; injection h2 with h2 h3; subst h1 h2 h3; exact hq
  | cond c x y ihx ihy =>
    intro Q fr H e fr' H' h hq
    simp only [runCQ] at h
    split at h
    · rename_i hb; exact awp_cond hb (ihx h hq)
    · rename_i hb; exact awp_cond hb (ihy h hq)
    · cases h
  | block id b ih =>
    intro Q fr H e fr' H' h hq
    simp only [runCQ] at h
    refine awp_block ?_
    cases ha : runCQ call lf P N b fr H with
    | none => rw [ha] at h; cases h
    | some r =>
      obtain ⟨e1, fr1, H1⟩ := r
      rw [ha] at h
      refine ih ha ?_
      cases e1 with
      | exit id' =>
        simp only at h
        simp only [blockA]
        split at h
        · rename_i hi; rw [if_pos hi]; injection h with h; injection h with h1 h2; injection h2 with h2 h3; subst h1 h2 h3; exact hq
        · rename_i hi; rw [if_neg hi]; injection h with h; injection h with h1 h2; injection h2 with h2 h3; subst h1 h2 h3; exact hq
      | _ => simp only at h; injection h with h; injection h with h1 h2; injection h2 with h2 h3; subst h1 h2 h3; exact hq
  | loop b ih =>
    intro Q fr H e fr' H' h hq
    simp only [runCQ] at h
    exact loopA_ok (fun Q fr H e fr' H' h hq => ih h hq) lf h hq
  | exit id => intro Q fr H e fr' H' h hq; simp only [runCQ] at h; injection h with h; injection h with h1 h2; injection h2 with h2 h3; subst h1 h2 h3; exact awp_exit hq
  | ret => intro Q fr H e fr' H' h hq; simp only [runCQ] at h; injection h with h; injection h with h1 h2; injection h2 with h2 h3; subst h1 h2 h3; exact awp_ret hq
  | _ => intro Q fr H e fr' H' h hq; simp [runCQ] at h

/-- Calls are run, but for those that have a contract. -/
def runQW (base : Caller) (P : Program) (lf : Nat) : Nat → Caller
  | 0, f, args, H => base f args H
  | d + 1, f, args, H =>
    match base f args H with
    | some r => some r
    | none =>
      match P.funcs[f]? with
      | some fn =>
        match fn.body with
        | some c =>
          if (fn.name == "runtime.NumGoroutine") = false ∧ args.length ≤ fn.ntmps then
            match runCQ (runQW base P lf d) lf P fn.ntmps c args H with
            | some (e, fr', H') => if isDone e then (aresults P fr' H' fn.results.toList).map fun vs => (tupA vs, H') else none
            | none => none
          else none
        | none => none
      | none => none

theorem runQW_ok {base : Caller} {P : Program} (hbase : CallerOk P base) (lf : Nat) : ∀ d, CallerOk P (runQW base P lf d)
  | 0 => fun f args H r H' h => hbase f args H r H' h
  | d + 1 => fun f args H r H' h => by
    simp only [runQW] at h
    cases hbs : base f args H with
    | some r0 => rw [hbs] at h; exact hbase f args H r H' (by rw [hbs]; exact h)
    | none =>
    rw [hbs] at h
    simp only at h
    cases hf : P.funcs[f]? with
    | none => rw [hf] at h; cases h
    | some fn =>
      rw [hf] at h
      simp only at h
      cases hb : fn.body with
      | none => rw [hb] at h; cases h
      | some c =>
        rw [hb] at h
        simp only at h
        split at h
        · rename_i hh
          cases hr : runCQ (runQW base P lf d) lf P fn.ntmps c args H with
          | none => rw [hr] at h; cases h
          | some x =>
            obtain ⟨e, fr', H1⟩ := x
            rw [hr] at h
            simp only at h
            split at h
            · rename_i hd
              obtain ⟨vs, hv, h⟩ := Option.map_eq_some_iff.1 h
              injection h with h1 h2
              subst h1 h2
              refine aspec_of hf hb hh.1 hh.2 (runCQ_ok (runQW_ok hbase lf d) c hr ⟨?_, vs, hv, rfl, rfl⟩)
              cases e <;> simp [isDone] at hd <;> simp
            · cases h
        · cases h

/-- The same by computing. -/
theorem aspec_runQ {P : Program} {base : Caller} (hb : CallerOk P base) {f : FuncId} {args : List AV} {v : AV} (lf d : Nat) (ha : plainL args = true) (hv : flatA v = true) (h : ∀ ro, (runQW base P lf d f args (.base ro)).map (·.1) = some v) (H : AH) : ASpec P f args H fun r H' => r = v ∧ H' = H :=
  aspec_plain (Q := fun r => r = v) ha (fun r hr => by rw [hr]; exact hv) (fun ro => by
    obtain ⟨rh, h1, h2⟩ := Option.map_eq_some_iff.1 (h ro)
    obtain ⟨r, H'⟩ := rh
    exact (runQW_ok hb lf d _ _ _ _ _ h1).mono fun r' _ ⟨e, _⟩ => e.trans h2) H

end Go.Abs
