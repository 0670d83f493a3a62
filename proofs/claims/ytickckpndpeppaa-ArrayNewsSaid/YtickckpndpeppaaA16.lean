/- Running code over the abstract memory by computing, and calls that leave it alone. -/
import Derived.Test.YtickckpndpeppaaA15
set_option linter.unusedVariables false
set_option linter.unusedSimpArgs false
namespace Go.Abs
open Go Go.RowKit

abbrev Caller := FuncId → List AV → AH → Option (AV × AH)

def runOps (call : Caller) (P : Program) (ops : Array Oper) : List Oper → AFr → AH → Option (AFr × AH)
  | [], fr, H => some (fr, H)
  | o :: rest, fr, H =>
    match guardA ops fr o with
    | none => none
    | some false => runOps call P ops rest (putA fr o.dst (.tup [])) H
    | some true =>
      match callA fr o.op with
      | some fa => (match call fa.1 fa.2 H with | some rh => runOps call P ops rest (putA fr o.dst rh.1) rh.2 | none => none)
      | none => (match opA P fr H o.op with | some vh => runOps call P ops rest (putA fr o.dst vh.1) vh.2 | none => none)

def loopA (step : AFr → AH → Option (Exit × AFr × AH)) : Nat → AFr → AH → Option (Exit × AFr × AH)
  | 0, _, _ => none
  | n + 1, fr, H =>
    match step fr H with
    | some (.normal, fr', H') => loopA step n fr' H'
    | r => r

def runCode (call : Caller) (lf : Nat) (P : Program) (N : Nat) : Code → AFr → AH → Option (Exit × AFr × AH)
  | .skip, fr, H => some (.normal, fr, H)
  | .region _ ops false, fr, H => if dstsOk N ops.toList then (runOps call P ops ops.toList fr H).map fun r => (.normal, r.1, r.2) else none
  | .seq a b, fr, H =>
    match runCode call lf P N a fr H with
    | some (.normal, fr', H') => runCode call lf P N b fr' H'
    | r => r
  | .cond c x y, fr, H =>
    match aeval fr c with
    | .bool true => runCode call lf P N x fr H
    | .bool false => runCode call lf P N y fr H
    | _ => none
  | .block id c, fr, H =>
    match runCode call lf P N c fr H with
    | some (.exit id', fr', H') => if id' = id then some (.normal, fr', H') else some (.exit id', fr', H')
    | r => r
  | .loop c, fr, H => loopA (fun fr H => runCode call lf P N c fr H) lf fr H
  | .exit id, fr, H => some (.exit id, fr, H)
  | .ret, fr, H => some (.ret, fr, H)
  | _, _, _ => none

def isDone : Exit → Bool
  | .normal | .ret => true
  | _ => false

def runFn (P : Program) (lf : Nat) : Nat → Caller
  | 0, _, _, _ => none
  | d + 1, f, args, H =>
    match P.funcs[f]? with
    | some fn =>
      match fn.body with
      | some c =>
        if (fn.name == "runtime.NumGoroutine") = false ∧ args.length ≤ fn.ntmps then
          match runCode (runFn P lf d) lf P fn.ntmps c args H with
          | some (e, fr', H') => if isDone e then (aresults P fr' H' fn.results.toList).map fun vs => (tupA vs, H') else none
          | none => none
        else none
      | none => none
    | none => none

def CallerOk (P : Program) (call : Caller) : Prop := ∀ f args H r H', call f args H = some (r, H') → ASpec P f args H fun r' H'' => r' = r ∧ H'' = H'

theorem runOps_ok {P : Program} {call : Caller} (hc : CallerOk P call) {ops : Array Oper} {Q : AFr → AH → Prop} : ∀ (l : List Oper) {fr : AFr} {H : AH} {fr' : AFr} {H' : AH}, runOps call P ops l fr H = some (fr', H') → Q fr' H' → AOps P ops Q l fr H
  | [], fr, H, fr', H', h, hq => by simp only [runOps] at h; injection h with h; injection h with h1 h2; subst h1 h2; exact hq
  | o :: rest, fr, H, fr', H', h, hq => by
    simp only [runOps] at h
    simp only [AOps]
    cases hg : guardA ops fr o with
    | none => rw [hg] at h; cases h
    | some b =>
      rw [hg] at h
      cases b with
      | false => exact runOps_ok hc rest h hq
      | true =>
        simp only at h ⊢
        cases hca : callA fr o.op with
        | some fa =>
          rw [hca] at h
          simp only at h ⊢
          cases hr : call fa.1 fa.2 H with
          | none => rw [hr] at h; cases h
          | some rh =>
            rw [hr] at h
            exact (hc _ _ _ _ _ hr).mono fun r H'' ⟨e1, e2⟩ => by subst e1 e2; exact runOps_ok hc rest h hq
        | none =>
          rw [hca] at h
          simp only at h ⊢
          cases hr : opA P fr H o.op with
          | none => rw [hr] at h; cases h
          | some vh => rw [hr] at h; exact runOps_ok hc rest h hq

theorem loopA_ok {P : Program} {N : Nat} {c : Code} {step : AFr → AH → Option (Exit × AFr × AH)} {Q : Exit → AFr → AH → Prop} (hs : ∀ (Q : Exit → AFr → AH → Prop) fr H e fr' H', step fr H = some (e, fr', H') → Q e fr' H' → AWp P N c Q fr H) :
    ∀ (n : Nat) {fr : AFr} {H : AH} {e : Exit} {fr' : AFr} {H' : AH}, loopA step n fr H = some (e, fr', H') → Q e fr' H' → AWp P N (.loop c) Q fr H := fun n fr H e fr' H' h hq =>
  awp_loop (fun k fr H => loopA step k fr H = some (e, fr', H')) n h fun k fr1 H1 hk => by
    cases k with
    | zero => simp [loopA] at hk
    | succ k =>
      simp only [loopA] at hk
      cases hst : step fr1 H1 with
      | none => rw [hst] at hk; cases hk
      | some r =>
        obtain ⟨e2, fr2, H2⟩ := r
        rw [hst] at hk
        refine hs _ _ _ _ _ _ hst ?_
        cases e2 with
        | normal => exact ⟨k, Nat.lt_succ_self k, hk⟩
        | _ => simp only at hk; injection hk with hk; injection hk with h1 h2; injection h2 with h2 h3; subst h1 h2 h3; exact hq

theorem runCode_ok {P : Program} {call : Caller} (hc : CallerOk P call) {lf N : Nat} : ∀ (c : Code) {Q : Exit → AFr → AH → Prop} {fr : AFr} {H : AH} {e : Exit} {fr' : AFr} {H' : AH}, runCode call lf P N c fr H = some (e, fr', H') → Q e fr' H' → AWp P N c Q fr H := by
  intro c
  induction c with
  | skip => intro Q fr H e fr' H' h hq; simp only [runCode] at h; injection h with h; injection h with h1 h2; injection h2 with h2 h3; subst h1 h2 h3; exact awp_skip hq
  | region id ops draw =>
    intro Q fr H e fr' H' h hq
    cases draw with
    | true => simp [runCode] at h
    | false =>
      simp only [runCode] at h
      split at h
      · rename_i hd
        obtain ⟨r, hr, h⟩ := Option.map_eq_some_iff.1 h
        injection h with h1 h2
        injection h2 with h2 h3
        subst h1 h2 h3
        have : ops = ops.toList.toArray := by simp
        rw [this]
        exact awp_region hd (runOps_ok hc ops.toList (by simpa using hr) hq)
      · cases h
  | seq a b iha ihb =>
    intro Q fr H e fr' H' h hq
    simp only [runCode] at h
    refine awp_seq ?_
    cases ha : runCode call lf P N a fr H with
    | none => rw [ha] at h; cases h
    | some r =>
      obtain ⟨e1, fr1, H1⟩ := r
      rw [ha] at h
      refine iha ha ?_
      cases e1 with
      | normal => exact ihb h hq
      | _ => simp only at h; injection h with h; injection h with h1 h2; injection h2 with h2 h3; subst h1 h2 h3; exact hq
  | cond c x y ihx ihy =>
    intro Q fr H e fr' H' h hq
    simp only [runCode] at h
    split at h
    · rename_i hb; exact awp_cond hb (ihx h hq)
    · rename_i hb; exact awp_cond hb (ihy h hq)
    · cases h
  | block id b ih =>
    intro Q fr H e fr' H' h hq
    simp only [runCode] at h
    refine awp_block ?_
    cases ha : runCode call lf P N b fr H with
    | none => rw [ha] at h; cases h
    | some r =>
      obtain ⟨e1, fr1, H1⟩ := r
      rw [ha] at h
      refine ih ha ?_
      cases e1 with
      | exit id' =>
        simp only at h
        simp only [blockA]
        split at h
        · rename_i hi; rw [if_pos hi]; injection h with h; injection h with h1 h2; injection h2 with h2 h3; subst h1 h2 h3; exact hq
        · rename_i hi; rw [if_neg hi]; injection h with h; injection h with h1 h2; injection h2 with h2 h3; subst h1 h2 h3; exact hq
      | _ => simp only at h; injection h with h; injection h with h1 h2; injection h2 with h2 h3; subst h1 h2 h3; exact hq
  | loop b ih =>
    intro Q fr H e fr' H' h hq
    simp only [runCode] at h
    exact loopA_ok (fun Q fr H e fr' H' h hq => ih h hq) lf h hq
  | exit id => intro Q fr H e fr' H' h hq; simp only [runCode] at h; injection h with h; injection h with h1 h2; injection h2 with h2 h3; subst h1 h2 h3; exact awp_exit hq
  | ret => intro Q fr H e fr' H' h hq; simp only [runCode] at h; injection h with h; injection h with h1 h2; injection h2 with h2 h3; subst h1 h2 h3; exact awp_ret hq
  | _ => intro Q fr H e fr' H' h hq; simp [runCode] at h

theorem runFn_ok (P : Program) (lf : Nat) : ∀ d, CallerOk P (runFn P lf d)
  | 0 => fun f args H r H' h => by simp [runFn] at h
  | d + 1 => fun f args H r H' h => by
    simp only [runFn] at h
    cases hf : P.funcs[f]? with
    | none => rw [hf] at h; cases h
    | some fn =>
      rw [hf] at h
      simp only at h
      cases hb : fn.body with
      | none => rw [hb] at h; cases h
      | some c =>
        rw [hb] at h
        simp only at h
        split at h
        · rename_i hh
          cases hr : runCode (runFn P lf d) lf P fn.ntmps c args H with
          | none => rw [hr] at h; cases h
          | some x =>
            obtain ⟨e, fr', H1⟩ := x
            rw [hr] at h
            simp only at h
            split at h
            · rename_i hd
              obtain ⟨vs, hv, h⟩ := Option.map_eq_some_iff.1 h
              injection h with h1 h2
              subst h1 h2
              refine aspec_of hf hb hh.1 hh.2 (runCode_ok (runFn_ok P lf d) c hr ⟨?_, vs, hv, rfl, rfl⟩)
              cases e <;> simp [isDone] at hd <;> simp
            · cases h
        · cases h

/-! calls that hand over no places -/
mutual
def plainA : AV → Bool
  | .bool _ | .int .. | .str _ | .nilptr | .nilslice | .nilfunc | .nilif | .nilmap => true
  | .agg l => plainL l
  | .tup l => plainL l
  | _ => false
def plainL : List AV → Bool
  | [] => true
  | x :: l => plainA x && plainL l
end

def flatA (x : AV) : Bool := plainA x

mutual
theorem RV_plain {b b' : Nat} {ι ι' : List Loc} : {x : AV} → {v : Value} → plainA x = true → RV b ι x v → RV b' ι' x v
  | .bool _, _, _, hv => by unfold RV at *; exact hv
  | .int .., _, _, hv => by unfold RV at *; exact hv
  | .str _, _, _, hv => by unfold RV at *; exact hv
  | .nilptr, _, _, hv => by unfold RV at *; exact hv
  | .nilslice, _, _, hv => by unfold RV at *; exact hv
  | .nilfunc, _, _, hv => by unfold RV at *; exact hv
  | .nilif, _, _, hv => by unfold RV at *; exact hv
  | .nilmap, _, _, hv => by unfold RV at *; exact hv
  | .agg l, _, h, hv => by
    unfold RV at *
    obtain ⟨cs, h1, h2⟩ := hv
    exact ⟨cs, h1, RVL_plain (by simpa [plainA] using h) h2⟩
  | .tup l, _, h, hv => by
    unfold RV at *
    obtain ⟨cs, h1, h2⟩ := hv
    exact ⟨cs, h1, RVL_plain (by simpa [plainA] using h) h2⟩
  | .unk, _, h, _ => by simp [plainA] at h
  | .ptr _, _, h, _ => by simp [plainA] at h
  | .slice .., _, h, _ => by simp [plainA] at h
  | .func .., _, h, _ => by simp [plainA] at h
  | .iface .., _, h, _ => by simp [plainA] at h
  | .map _, _, h, _ => by simp [plainA] at h
  | .yld _, _, h, _ => by simp [plainA] at h
theorem RVL_plain {b b' : Nat} {ι ι' : List Loc} : {l : List AV} → {ys : List Value} → plainL l = true → RVL b ι l ys → RVL b' ι' l ys
  | [], ys, _, hv => by unfold RVL at *; exact hv
  | x :: l, ys, h, hv => by
    simp only [plainL, Bool.and_eq_true] at h
    unfold RVL at *
    obtain ⟨y, m, h1, h2, h3⟩ := hv
    exact ⟨y, m, h1, RV_plain h.1 h2, RVL_plain h.2 h3⟩
end

mutual
theorem RV_plain_eq {b b' : Nat} {ι ι' : List Loc} : {x : AV} → {v v' : Value} → plainA x = true → RV b ι x v → RV b' ι' x v' → v' = v
  | .bool _, _, _, _, hv, hv' => by unfold RV at hv hv'; rw [hv, hv']
  | .int .., _, _, _, hv, hv' => by unfold RV at hv hv'; rw [hv, hv']
  | .str _, _, _, _, hv, hv' => by unfold RV at hv hv'; rw [hv, hv']
  | .nilptr, _, _, _, hv, hv' => by unfold RV at hv hv'; rw [hv, hv']
  | .nilslice, _, _, _, hv, hv' => by unfold RV at hv hv'; rw [hv, hv']
  | .nilfunc, _, _, _, hv, hv' => by unfold RV at hv hv'; rw [hv, hv']
  | .nilif, _, _, _, hv, hv' => by unfold RV at hv hv'; rw [hv, hv']
  | .nilmap, _, _, _, hv, hv' => by unfold RV at hv hv'; rw [hv, hv']
  | .agg l, _, _, h, hv, hv' => by
    unfold RV at hv hv'
    obtain ⟨cs, h1, h2⟩ := hv
    obtain ⟨cs', h1', h2'⟩ := hv'
    have e := RVL_plain_eq (by simpa [plainA] using h) h2 h2'
    rw [h1, h1', ← cs.toArray_toList, ← cs'.toArray_toList, e]
  | .tup l, _, _, h, hv, hv' => by
    unfold RV at hv hv'
    obtain ⟨cs, h1, h2⟩ := hv
    obtain ⟨cs', h1', h2'⟩ := hv'
    have e := RVL_plain_eq (by simpa [plainA] using h) h2 h2'
    rw [h1, h1', ← cs.toArray_toList, ← cs'.toArray_toList, e]
  | .unk, _, _, h, _, _ => by simp [plainA] at h
  | .ptr _, _, _, h, _, _ => by simp [plainA] at h
  | .slice .., _, _, h, _, _ => by simp [plainA] at h
  | .func .., _, _, h, _, _ => by simp [plainA] at h
  | .iface .., _, _, h, _, _ => by simp [plainA] at h
  | .map _, _, _, h, _, _ => by simp [plainA] at h
  | .yld _, _, _, h, _, _ => by simp [plainA] at h
theorem RVL_plain_eq {b b' : Nat} {ι ι' : List Loc} : {l : List AV} → {ys ys' : List Value} → plainL l = true → RVL b ι l ys → RVL b' ι' l ys' → ys' = ys
  | [], _, _, _, hv, hv' => by unfold RVL at hv hv'; rw [hv, hv']
  | x :: l, _, _, h, hv, hv' => by
    simp only [plainL, Bool.and_eq_true] at h
    unfold RVL at hv hv'
    obtain ⟨y, m, rfl, h2, h3⟩ := hv
    obtain ⟨y', m', rfl, h2', h3'⟩ := hv'
    rw [RV_plain_eq h.1 h2 h2', RVL_plain_eq h.2 h3 h3']
end

theorem RV_flat {b b' : Nat} {ι ι' : List Loc} {x : AV} {v : Value} (h : flatA x = true) (hv : RV b ι x v) : RV b' ι' x v := RV_plain h hv

theorem below_same {w0 w w' : World} {ι : List Loc} {H : AH} (h : Rep w0 ι H w) (hb : Below w.heap.size w w') : Rep w0 ι H w' ∧ Ext ι H w ι H w' := by
  refine ⟨⟨⟨hb.os.trans h.below.os, hb.tape.trans h.below.tape, hb.output.trans h.below.output, Nat.le_trans h.below.size hb.size, fun k hk => (hb.block k (Nat.lt_of_lt_of_le hk h.below.size)).trans (h.below.block k hk)⟩, h.ro, h.len, ?_, h.nomap, h.gone, h.inj, fun i B O m hi => ⟨(h.locs i B O m hi).1, Nat.lt_of_lt_of_le (h.locs i B O m hi).2 hb.size⟩⟩,
    ⟨rfl, Nat.le_refl _, LocLe.refl ι, fun _ _ => rfl, hb.size, fun B hB _ => hb.block B hB, fun i B O m hi => .inl ⟨_, _, _, hi⟩, fun _ h => h, fun i B O m hi _ _ => ⟨.of (hb.block B (h.locs i B O m hi).2), hi⟩⟩⟩
  intro i l hi
  rcases h.blk i l hi with h1 | h1 | ⟨B, O, m, h1, h2⟩
  · exact .inl h1
  · exact .inr (.inl h1)
  · exact .inr (.inr ⟨B, O, m, h1, h2.world (hb.block B (h.locs i B O m h1).2)⟩)

/-- A call that hands over no places and gives none back does nothing to what is known. -/
theorem aspec_plain {P : Program} {f : FuncId} {args : List AV} {Q : AV → Prop} (ha : plainL args = true) (hq : ∀ r, Q r → flatA r = true) (h : ∀ ro, ASpec P f args (.base ro) fun r _ => Q r) (H : AH) : ASpec P f args H fun r H' => Q r ∧ H' = H :=
  fun w0 ι w cargs hr hv => ((h (AH.init w).ro) w [] w cargs (init_rep w) (RVL_plain ha hv)).mono fun v w' ⟨r, H', ι', h2, h3, h4, h5⟩ =>
    ⟨r, H, ι, RV_flat (hq r h5) h2, (below_same hr h3.below).1, (below_same hr h3.below).2, h5, rfl⟩

/-- The same by computing. -/
theorem aspec_run {P : Program} {f : FuncId} {args : List AV} {v : AV} (lf d : Nat) (ha : plainL args = true) (hv : flatA v = true) (h : ∀ ro, (runFn P lf d f args (.base ro)).map (·.1) = some v) (H : AH) : ASpec P f args H fun r H' => r = v ∧ H' = H :=
  aspec_plain (Q := fun r => r = v) ha (fun r hr => by rw [hr]; exact hv) (fun ro => by
    obtain ⟨rh, h1, h2⟩ := Option.map_eq_some_iff.1 (h ro)
    obtain ⟨r, H'⟩ := rh
    exact (runFn_ok P lf d _ _ _ _ _ h1).mono fun r' _ ⟨e, _⟩ => e.trans h2) H

end Go.Abs
