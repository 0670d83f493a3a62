/- Running by computing, with regions that draw, and with contracts in the place of calls. -/
import Derived.Test.YtickckpndpeppaaA22
set_option linter.unusedVariables false
set_option linter.unusedSimpArgs false
namespace Go.Abs
open Go Go.RowKit

def kindFree (op : Op) : Bool := copyOp op || stillOp op

/-- An order: what may float as soon as it can come, everything else just then. -/
def greedy (ops : Array Oper) : Nat → Array Bool → List (Nat × Bool)
  | 0, _ => []
  | n + 1, listed =>
    match (Region.ready .any ops listed).find? fun i => match ops[i]? with | some o => kindFree o.op | none => false with
    | some i => (i, true) :: greedy ops n (listed.setIfInBounds i true)
    | none => match Region.ready .any ops listed with
      | i :: _ => (i, false) :: greedy ops n (listed.setIfInBounds i true)
      | [] => []

/-- Operations that hang on no memory, at these values. -/
def pureOp (fr : AFr) : Op → Bool
  | .binOp .. | .unOp .. | .field .. | .index .. => true
  | .convert _ _ x => match aeval fr x with | .int .. => true | _ => false
  | .call { callee := .builtin .len, args := _, argTypes := _ } => true
  | .call { callee := .builtin .min, args := _, argTypes := _ } => true
  | .call { callee := .builtin .max, args := _, argTypes := _ } => true
  | _ => false

theorem pureOp_same {P : Program} {fr : AFr} {H H1 : AH} {op : Op} {v : AV} (hp : pureOp fr op = true) (h : opA P fr H op = some (v, H1)) : ∀ H', opA P fr H' op = some (v, H') := by
  intro H'
  cases op with
  | binOp op t x y yt => simp only [opA] at h ⊢; obtain ⟨w, h1, h2⟩ := Option.map_eq_some_iff.1 h; injection h2 with h2 h3; rw [h1, ← h2]; rfl
  | unOp op t x => simp only [opA] at h ⊢; obtain ⟨w, h1, h2⟩ := Option.map_eq_some_iff.1 h; injection h2 with h2 h3; rw [h1, ← h2]; rfl
  | field t x f => simp only [opA] at h ⊢; obtain ⟨w, h1, h2⟩ := Option.map_eq_some_iff.1 h; injection h2 with h2 h3; rw [h1, ← h2]; rfl
  | index t x i => simp only [opA] at h ⊢; obtain ⟨w, h1, h2⟩ := Option.map_eq_some_iff.1 h; injection h2 with h2 h3; rw [h1, ← h2]; rfl
  | convert s d x =>
    simp only [pureOp] at hp
    split at hp
    · rename_i k n hx
      simp only [opA, hx] at h ⊢
      unfold convertA at h ⊢
      split at h
      · rename_i h1 h2 h3
        injection h3 with e1 e2
        subst e1 e2
        injection h with h
        injection h with h4 h5
        subst h4
        rfl
      · split at h
        · obtain ⟨cs, h6, _⟩ := Option.bind_eq_some_iff.1 h; simp [rowA] at h6
        · cases h
      · rename_i h3; cases h3
      · cases h
    · cases hp
  | call c =>
    obtain ⟨callee, args, ats⟩ := c
    cases callee with
    | builtin b =>
      cases b <;> simp only [pureOp, Bool.false_eq_true] at hp
      all_goals
        simp only [opA] at h ⊢
        unfold builtinA at h ⊢
        split at h <;> try (rename_i h1; cases h1)
        all_goals try contradiction
        all_goals first
          | (obtain ⟨w, h1, h2⟩ := Option.map_eq_some_iff.1 h; injection h2 with h2 h3; simp_all; done)
          | simp_all
    | _ => simp [pureOp] at hp
  | _ => simp [pureOp] at hp

/-- Values that read the same in whatever memory. -/
def scalA : AV → Bool
  | .bool _ | .int .. | .str _ | .nilptr | .nilslice | .nilfunc | .nilif => true
  | .agg l => plainL l
  | _ => false
theorem scal_rigid {v : AV} (h : scalA v = true) (H : AH) : rigidA H v = true := by
  cases v <;> simp_all [scalA, rigidA]

def okAt (P : Program) (pure' : Bool) (fr : AFr) (H : AH) (op : Op) (v : AV) : Bool :=
  copyOp op || (stillOp op && convOk op v && (if pure' then rigidA H v else scalA v && pureOp fr op))

def runD (call : Caller) (P : Program) (ops : Array Oper) (pure' : Bool) : List (Nat × Bool) → AFr → AH → Option (AFr × AH)
  | [], fr, H => some (fr, H)
  | (i, true) :: rest, fr, H =>
    match ops[i]? with
    | none => none
    | some o => match guardA ops fr o with
      | none => none
      | some false => runD call P ops pure' rest (putA fr o.dst (.tup [])) H
      | some true => match opA P fr H o.op with
        | some vh => if okAt P pure' fr H o.op vh.1 then runD call P ops pure' rest (putA fr o.dst vh.1) H else none
        | none => none
  | (i, false) :: rest, fr, H =>
    if pure' then none else
    match ops[i]? with
    | none => none
    | some o => match runOps call P ops [o] fr H with
      | some r => runD call P ops pure' rest r.1 r.2
      | none => none

theorem map_same {α : Type} {o : Option AV} {H H1 : AH} {v : AV} (h : (o.map fun v => (v, H)) = some (v, H1)) : H1 = H := by
  obtain ⟨w, _, h2⟩ := Option.map_eq_some_iff.1 h
  injection h2 with h2 h3
  exact h3.symm
theorem stillOp_same {P : Program} {fr : AFr} {H H1 : AH} {op : Op} {v : AV} (hp : stillOp op = true) (h : opA P fr H op = some (v, H1)) : H1 = H := by
  cases op with
  | load t x =>
    simp only [opA] at h
    split at h
    · exact map_same (α := Nat) h
    · cases h
  | binOp op t x y yt => exact map_same (α := Nat) h
  | unOp op t x => exact map_same (α := Nat) h
  | slice t x lo hi mx => exact map_same (α := Nat) h
  | fieldAddr s x f => exact map_same (α := Nat) h
  | field t x f => exact map_same (α := Nat) h
  | indexAddr t x i => exact map_same (α := Nat) h
  | index t x i => exact map_same (α := Nat) h
  | convert s d x =>
    simp only [opA] at h
    unfold convertA at h
    split at h
    · injection h with h; injection h with h1 h2; exact h2.symm
    · split at h
      · obtain ⟨cs, _, h⟩ := Option.bind_eq_some_iff.1 h
        obtain ⟨bs, _, h⟩ := Option.map_eq_some_iff.1 h
        injection h with h1 h2; exact h2.symm
      · cases h
    · split at h
      · injection h with h; injection h with h1 h2; exact h2.symm
      · cases h
    · cases h
  | call c =>
    obtain ⟨callee, args, ats⟩ := c
    cases callee with
    | builtin b =>
      cases b <;> simp only [stillOp, Bool.false_eq_true] at hp
      all_goals
        simp only [opA] at h
        unfold builtinA at h
        split at h <;> try (rename_i h1; cases h1)
        all_goals try contradiction
        all_goals exact map_same (α := Nat) h
    | _ => simp [stillOp] at hp
  | _ => simp [stillOp] at hp

theorem runD_ok {P : Program} {call : Caller} (hc : CallerOk P call) {ops : Array Oper} {Q : AFr → AH → Prop} (pure' : Bool) : ∀ (l : List (Nat × Bool)) {fr : AFr} {H : AH} {fr' : AFr} {H' : AH}, runD call P ops pure' l fr H = some (fr', H') → Q fr' H' →
    DOps P ops (fun K => pure' = true → K = H) Q (l.map fun p => (ops[p.1]?, p.2)) fr H
  | [], fr, H, fr', H', h, hq => by simp only [runD] at h; injection h with h; injection h with h1 h2; subst h1 h2; exact hq
  | (i, true) :: rest, fr, H, fr', H', h, hq => by
    simp only [runD] at h
    simp only [List.map_cons]
    cases ho : ops[i]? with
    | none => rw [ho] at h; cases h
    | some o =>
      rw [ho] at h
      simp only at h
      simp only [DOps]
      cases hg : guardA ops fr o with
      | none => rw [hg] at h; cases h
      | some b =>
        rw [hg] at h
        cases b with
        | false => exact runD_ok hc pure' rest h hq
        | true =>
          simp only at h
          simp only [ifG]
          cases hop : opA P fr H o.op with
          | none => rw [hop] at h; cases h
          | some vh =>
            rw [hop] at h
            simp only at h
            split at h
            · rename_i hk
              simp only [opThen]
              refine ⟨?_, runD_ok hc pure' rest h hq⟩
              unfold okAt at hk
              simp only [Bool.or_eq_true, Bool.and_eq_true] at hk
              rcases hk with hk | ⟨⟨h1, h2⟩, h3⟩
              · exact .inl hk
              · refine .inr ⟨h1, h2, ?_⟩
                cases pure' with
                | true =>
                  simp only [if_true] at h3
                  refine ⟨h3, fun K hK _ => ?_⟩
                  rw [hK rfl]
                  refine ⟨?_, h3⟩
                  rw [hop]
                  congr 1
                  obtain ⟨v, H1⟩ := vh
                  have := stillOp_same h1 hop
                  rw [this]
                | false =>
                  simp only [Bool.false_eq_true, if_false, Bool.and_eq_true] at h3
                  have hs := pureOp_same h3.2 (show opA P fr H o.op = some (vh.1, vh.2) from hop)
                  have hr : ∀ K, rigidA K vh.1 = true := scal_rigid h3.1
                  exact ⟨hr _, fun K _ _ => ⟨hs K, hr K⟩⟩
            · cases h
  | (i, false) :: rest, fr, H, fr', H', h, hq => by
    simp only [runD] at h
    split at h
    · cases h
    · rename_i hp
      simp only [List.map_cons]
      cases ho : ops[i]? with
      | none => rw [ho] at h; cases h
      | some o =>
        rw [ho] at h
        simp only at h
        simp only [DOps]
        cases hr : runOps call P ops [o] fr H with
        | none => rw [hr] at h; cases h
        | some r =>
          rw [hr] at h
          refine runOps_ok hc [o] hr ⟨fun e => absurd e hp, ?_⟩
          have := runD_ok hc pure' rest h hq
          refine (?_ : DOps P ops _ Q _ r.1 r.2)
          have e : (fun K => pure' = true → K = r.2) = (fun K => pure' = true → K = H) := by
            funext K
            exact propext ⟨fun _ e => absurd e hp, fun _ e => absurd e hp⟩
          rw [e] at this
          exact this

def runDraw (call : Caller) (P : Program) (ops : Array Oper) (fr : AFr) (H : AH) : Option (AFr × AH) :=
  let order := greedy ops ops.size (Array.replicate ops.size false)
  if Region.noSelect ops && order.length == ops.size && drawOk .any ops order (Array.replicate ops.size false) then
    if order.all (·.2) then runD call P ops true order fr H else runD call P ops false order fr H
  else none

theorem runDraw_ok {P : Program} {call : Caller} (hc : CallerOk P call) {N id : Nat} {l : List Oper} {Q : Exit → AFr → AH → Prop} {fr : AFr} {H : AH} {fr' : AFr} {H' : AH} (h : runDraw call P l.toArray fr H = some (fr', H')) (hd : dstsOk N l = true) (hm : P.follows .mixedOrders = true) (hq : Q .normal fr' H') :
    AWp P N (.region id l.toArray true) Q fr H := by
  unfold runDraw at h
  simp only at h
  split at h
  · rename_i hok
    generalize greedy l.toArray l.toArray.size (Array.replicate l.toArray.size false) = order at h hok
    have hok' : (Region.noSelect l.toArray && order.length == l.length && drawOk .any l.toArray order (Array.replicate l.length false)) = true := by simpa using hok
    split at h
    · exact awp_draw _ order hm hd hok' (fun _ => rfl) (runD_ok hc true order h hq)
    · exact awp_draw _ order hm hd hok' (fun e => by cases e) (runD_ok hc false order h hq)
  · cases h

def runC (call : Caller) (lf : Nat) (P : Program) (N : Nat) : Code → AFr → AH → Option (Exit × AFr × AH)
  | .skip, fr, H => some (.normal, fr, H)
  | .region _ ops false, fr, H => if dstsOk N ops.toList then (runOps call P ops ops.toList fr H).map fun r => (.normal, r.1, r.2) else none
  | .region _ ops true, fr, H => if dstsOk N ops.toList && P.follows .mixedOrders then (runDraw call P ops fr H).map fun r => (.normal, r.1, r.2) else none
  | .seq a b, fr, H =>
    match runC call lf P N a fr H with
    | some (.normal, fr', H') => runC call lf P N b fr' H'
    | r => r
  | .cond c x y, fr, H =>
    match aeval fr c with
    | .bool true => runC call lf P N x fr H
    | .bool false => runC call lf P N y fr H
    | _ => none
  | .block id c, fr, H =>
    match runC call lf P N c fr H with
    | some (.exit id', fr', H') => if id' = id then some (.normal, fr', H') else some (.exit id', fr', H')
    | r => r
  | .loop c, fr, H => loopA (fun fr H => runC call lf P N c fr H) lf fr H
  | .exit id, fr, H => some (.exit id, fr, H)
  | .ret, fr, H => some (.ret, fr, H)
  | _, _, _ => none


theorem runC_ok {P : Program} {call : Caller} (hc : CallerOk P call) {lf N : Nat} : ∀ (c : Code) {Q : Exit → AFr → AH → Prop} {fr : AFr} {H : AH} {e : Exit} {fr' : AFr} {H' : AH}, runC call lf P N c fr H = some (e, fr', H') → Q e fr' H' → AWp P N c Q fr H := by
  intro c
  induction c with
  | skip => intro Q fr H e fr' H' h hq; simp only [runC] at h; injection h with h; injection h with h1 h2; injection h2 with h2 h3; subst h1 h2 h3; exact awp_skip hq
  | region id ops draw =>
    intro Q fr H e fr' H' h hq
    cases draw with
    | true =>
      simp only [runC] at h
      split at h
      · rename_i hd
        simp only [Bool.and_eq_true] at hd
        obtain ⟨r, hr, h⟩ := Option.map_eq_some_iff.1 h
        injection h with h1 h2
        injection h2 with h2 h3
        subst h1 h2 h3
        have : ops = ops.toList.toArray := by simp
        rw [this]
        exact runDraw_ok hc (l := ops.toList) (by simpa using hr) hd.1 hd.2 hq
      · cases h
    | false =>
      simp only [runC] at h
      split at h
      · rename_i hd
        obtain ⟨r, hr, h⟩ := Option.map_eq_some_iff.1 h
        injection h with h1 h2
        injection h2 with h2 h3
        subst h1 h2 h3
        have : ops = ops.toList.toArray := by simp
        rw [this]
        exact awp_region hd (runOps_ok hc ops.toList (by simpa using hr) hq)
      · cases h
  | seq a b iha ihb =>
    intro Q fr H e fr' H' h hq
    simp only [runC] at h
    refine awp_seq ?_
    cases ha : runC call lf P N a fr H with
    | none => rw [ha] at h; cases h
    | some r =>
      obtain ⟨e1, fr1, H1⟩ := r
      rw [ha] at h
      refine iha ha ?_
      cases e1 with
      | normal => exact ihb h hq
      | _ => simp only at h; injection h with h; injection h with h1 h2; injection h2 with h2 h3; subst h1 h2 h3; exact hq
  | cond c x y ihx ihy =>
    intro Q fr H e fr' H' h hq
    simp only [runC] at h
    split at h
    · rename_i hb; exact awp_cond hb (ihx h hq)
    · rename_i hb; exact awp_cond hb (ihy h hq)
    · cases h
  | block id b ih =>
    intro Q fr H e fr' H' h hq
    simp only [runC] at h
    refine awp_block ?_
    cases ha : runC call lf P N b fr H with
    | none => rw [ha] at h; cases h
    | some r =>
      obtain ⟨e1, fr1, H1⟩ := r
      rw [ha] at h
      refine ih ha ?_
      cases e1 with
      | exit id' =>
        simp only at h
        simp only [blockA]
        split at h
        · rename_i hi; rw [if_pos hi]; injection h with h; injection h with h1 h2; injection h2 with h2 h3; subst h1 h2 h3; exact hq
        · rename_i hi; rw [if_neg hi]; injection h with h; injection h with h1 h2; injection h2 with h2 h3; subst h1 h2 h3; exact hq
      | _ => simp only at h; injection h with h; injection h with h1 h2; injection h2 with h2 h3; subst h1 h2 h3; exact hq
  | loop b ih =>
    intro Q fr H e fr' H' h hq
    simp only [runC] at h
    exact loopA_ok (fun Q fr H e fr' H' h hq => ih h hq) lf h hq
  | exit id => intro Q fr H e fr' H' h hq; simp only [runC] at h; injection h with h; injection h with h1 h2; injection h2 with h2 h3; subst h1 h2 h3; exact awp_exit hq
  | ret => intro Q fr H e fr' H' h hq; simp only [runC] at h; injection h with h; injection h with h1 h2; injection h2 with h2 h3; subst h1 h2 h3; exact awp_ret hq
  | _ => intro Q fr H e fr' H' h hq; simp [runC] at h

/-- Calls are run, but for those that have a contract. -/
def runW (base : Caller) (P : Program) (lf : Nat) : Nat → Caller
  | 0, f, args, H => base f args H
  | d + 1, f, args, H =>
    match base f args H with
    | some r => some r
    | none =>
      match P.funcs[f]? with
      | some fn =>
        match fn.body with
        | some c =>
          if (fn.name == "runtime.NumGoroutine") = false ∧ args.length ≤ fn.ntmps then
            match runC (runW base P lf d) lf P fn.ntmps c args H with
            | some (e, fr', H') => if isDone e then (aresults P fr' H' fn.results.toList).map fun vs => (tupA vs, H') else none
            | none => none
          else none
        | none => none
      | none => none

theorem runW_ok {base : Caller} {P : Program} (hbase : CallerOk P base) (lf : Nat) : ∀ d, CallerOk P (runW base P lf d)
  | 0 => fun f args H r H' h => hbase f args H r H' h
  | d + 1 => fun f args H r H' h => by
    simp only [runW] at h
    cases hbs : base f args H with
    | some r0 => rw [hbs] at h; exact hbase f args H r H' (by rw [hbs]; exact h)
    | none =>
    rw [hbs] at h
    simp only at h
    cases hf : P.funcs[f]? with
    | none => rw [hf] at h; cases h
    | some fn =>
      rw [hf] at h
      simp only at h
      cases hb : fn.body with
      | none => rw [hb] at h; cases h
      | some c =>
        rw [hb] at h
        simp only at h
        split at h
        · rename_i hh
          cases hr : runC (runW base P lf d) lf P fn.ntmps c args H with
          | none => rw [hr] at h; cases h
          | some x =>
            obtain ⟨e, fr', H1⟩ := x
            rw [hr] at h
            simp only at h
            split at h
            · rename_i hd
              obtain ⟨vs, hv, h⟩ := Option.map_eq_some_iff.1 h
              injection h with h1 h2
              subst h1 h2
              refine aspec_of hf hb hh.1 hh.2 (runC_ok (runW_ok hbase lf d) c hr ⟨?_, vs, hv, rfl, rfl⟩)
              cases e <;> simp [isDone] at hd <;> simp
            · cases h
        · cases h


def noBase : Caller := fun _ _ _ => none
theorem noBase_ok (P : Program) : CallerOk P noBase := fun f args H r H' h => by simp [noBase] at h

/-- The same by computing. -/
theorem aspec_runW {P : Program} {base : Caller} (hb : CallerOk P base) {f : FuncId} {args : List AV} {v : AV} (lf d : Nat) (ha : plainL args = true) (hv : flatA v = true) (h : ∀ ro, (runW base P lf d f args (.base ro)).map (·.1) = some v) (H : AH) : ASpec P f args H fun r H' => r = v ∧ H' = H :=
  aspec_plain (Q := fun r => r = v) ha (fun r hr => by rw [hr]; exact hv) (fun ro => by
    obtain ⟨rh, h1, h2⟩ := Option.map_eq_some_iff.1 (h ro)
    obtain ⟨r, H'⟩ := rh
    exact (runW_ok hb lf d _ _ _ _ _ h1).mono fun r' _ ⟨e, _⟩ => e.trans h2) H

end Go.Abs
