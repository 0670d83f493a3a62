/- Walks made short: frames that are known in part, conditions, ends, calls. -/
import Derived.Test.YtickckpndpeppaaA20
set_option linter.unusedVariables false
set_option linter.unusedSimpArgs false
namespace Go.Abs
open Go Go.RowKit

/-- What is known of a frame. -/
def hasF : List (Nat × AV) → AFr → Prop
  | [], _ => True
  | p :: l, fr => lget fr p.1 = p.2 ∧ hasF l fr
def frOf : List (Nat × AV) → AFr
  | [] => []
  | p :: l => lput (frOf l) p.1 p.2

section
variable {P : Program} {N : Nat} {Q : Exit → AFr → AH → Prop} {fr : AFr} {H : AH}

theorem AWp.le {c : Code} {fr' : AFr} (hle : ∀ k, lget fr k = .unk ∨ lget fr k = lget fr' k) (h : AWp P N c Q fr H) : AWp P N c Q fr' H := fun ds w0 ι a w QC hs hQ =>
  h ds w0 ι a w QC ⟨hs.rep, fun i => by
    rcases hle i with e | e
    · rw [e]; unfold RV; trivial
    · rw [e]; exact hs.fr i, hs.size, hs.defers⟩ hQ

theorem frOf_le : ∀ {L : List (Nat × AV)} {fr : AFr}, hasF L fr → ∀ k, lget (frOf L) k = .unk ∨ lget (frOf L) k = lget fr k
  | [], fr, _, k => .inl (by simp [frOf, lget_nil])
  | p :: l, fr, h, k => by
    simp only [frOf, lget_lput]
    split
    · rename_i e; subst e; exact .inr h.1.symm
    · exact frOf_le h.2 k

theorem awp_use {c : Code} {L : List (Nat × AV)} (h : hasF L fr) (k : AWp P N c Q (frOf L) H) : AWp P N c Q fr H := k.le (frOf_le h)

theorem hasF_keep (fr : AFr) : ∀ ks : List Nat, hasF (ks.map fun k => (k, lget fr k)) fr
  | [] => trivial
  | k :: ks => ⟨rfl, hasF_keep fr ks⟩

/-- So many of the frame's places are looked at behind here. -/
theorem awp_keep {c : Code} (ks : List Nat) (k : AWp P N c Q (frOf (ks.map fun k => (k, lget fr k))) H) : AWp P N c Q fr H := awp_use (hasF_keep fr ks) k

/-- A condition's two ways. -/
def condA (v : AV) (x y : Prop) : Prop :=
  match v with
  | .bool true => x
  | .bool false => y
  | _ => False
theorem condA_c {v v' : AV} {x y : Prop} (h : mark v = v') : condA v x y = condA v' x y := by rw [← h, mark_eq]
theorem condA_true {x y : Prop} : condA (.bool true) x y = x := nr rfl
theorem condA_false {x y : Prop} : condA (.bool false) x y = y := nr rfl
theorem condA_b {b : Bool} {x y : Prop} : condA (.bool b) x y = ((b = true → x) ∧ (b = false → y)) := by cases b <;> simp [condA]
theorem condA_dec {p : Prop} [Decidable p] {x y : Prop} : condA (.bool (decide p)) x y = ((p → x) ∧ (¬ p → y)) := by rw [condA_b]; simp
theorem condA_pos {p : Prop} [Decidable p] {x y : Prop} (h : p) : condA (.bool (decide p)) x y = x := by rw [condA_dec]; simp [h]
theorem condA_neg {p : Prop} [Decidable p] {x y : Prop} (h : ¬ p) : condA (.bool (decide p)) x y = y := by rw [condA_dec]; simp [h]
theorem awp_condA {c : Operand} {x y : Code} (h : condA (aeval fr c) (AWp P N x Q fr H) (AWp P N y Q fr H)) : AWp P N (.cond c x y) Q fr H := by
  unfold condA at h
  split at h
  · rename_i e; exact awp_cond e h
  · rename_i e; exact awp_cond e h
  · exact h.elim

/-- Two ways, one of which is to be shown: nothing in them is looked at before it is known which. -/
def split2 (p : Prop) (x y : Prop) : Prop := (p → x) ∧ (¬ p → y)
theorem split2_c {p p' x y : Prop} (h : mark p = p') : split2 p x y = split2 p' x y := by rw [← h, mark_eq]
theorem split2_pos {p x y : Prop} (h : p) (k : x) : split2 p x y := ⟨fun _ => k, fun h' => absurd h h'⟩
theorem split2_neg {p x y : Prop} (h : ¬ p) (k : y) : split2 p x y := ⟨fun h' => absurd h' h, fun _ => k⟩
theorem split2_i {p x y : Prop} (h : p → x) (k : ¬ p → y) : split2 p x y := ⟨h, k⟩
theorem split2_pk {p x y : Prop} (h : p) (k : p = True → x) : split2 p x y := ⟨fun _ => k (eq_true h), fun h' => absurd h h'⟩
theorem split2_nk {p x y : Prop} (h : ¬ p) (k : p = False → y) : split2 p x y := ⟨fun h' => absurd h' h, fun _ => k (eq_false h)⟩
theorem split2_ik {p x y : Prop} (h : p → p = True → x) (k : ¬ p → p = False → y) : split2 p x y := ⟨fun e => h e (eq_true e), fun e => k e (eq_false e)⟩
theorem split2_true {x y : Prop} : split2 True x y = x := by simp [split2]
theorem split2_false {x y : Prop} : split2 False x y = y := by simp [split2]
theorem condA_split {p : Prop} [Decidable p] {x y : Prop} : condA (.bool (decide p)) x y = split2 p x y := condA_dec
theorem condA_and {a b : Bool} {x y : Prop} : condA (.bool (a && b)) x y = condA (.bool a) (condA (.bool b) x y) y := by cases a <;> cases b <;> rfl
theorem condA_or {a b : Bool} {x y : Prop} : condA (.bool (a || b)) x y = condA (.bool a) x (condA (.bool b) x y) := by cases a <;> cases b <;> rfl
theorem condA_not {a : Bool} {x y : Prop} : condA (.bool (!a)) x y = condA (.bool a) y x := by cases a <;> rfl

/-- A function's end. -/
def resA : Option (List AV) → (AV → AH → Prop) → AH → Prop
  | none, _, _ => False
  | some vs, R, H => R (tupA vs) H
theorem resA_some {vs : List AV} {R : AV → AH → Prop} : resA (some vs) R H = R (tupA vs) H := nr rfl
theorem resA_c {o o' : Option (List AV)} {R : AV → AH → Prop} (h : mark o = o') : resA o R H = resA o' R H := by rw [← h, mark_eq]
def retA (P : Program) (rs : List ResultVar) (R : AV → AH → Prop) : Exit → AFr → AH → Prop
  | .normal, fr, H => resA (aresults P fr H rs) R H
  | .ret, fr, H => resA (aresults P fr H rs) R H
  | _, _, _ => False
theorem retA_normal {rs : List ResultVar} {R : AV → AH → Prop} : retA P rs R .normal fr H = resA (aresults P fr H rs) R H := nr rfl
theorem retA_ret {rs : List ResultVar} {R : AV → AH → Prop} : retA P rs R .ret fr H = resA (aresults P fr H rs) R H := nr rfl

/-- What code comes to, up to its loops and to what draws its order. -/
def WP (P : Program) (N : Nat) : Code → (Exit → AFr → AH → Prop) → AFr → AH → Prop
  | .skip, Q, fr, H => Q .normal fr H
  | .region id ops draw, Q, fr, H => if draw = true then AWp P N (.region id ops draw) Q fr H else AOps P ops (Q .normal) ops.toList fr H
  | .seq x y, Q, fr, H => WP P N x (thenA (WP P N y Q) Q) fr H
  | .cond c x y, Q, fr, H => condA (aeval fr c) (WP P N x Q fr H) (WP P N y Q fr H)
  | .block id c, Q, fr, H => WP P N c (blockA id Q) fr H
  | .exit id, Q, fr, H => Q (.exit id) fr H
  | .ret, Q, fr, H => Q .ret fr H
  | c, Q, fr, H => AWp P N c Q fr H

def codeOk (N : Nat) : Code → Bool
  | .region _ ops false => dstsOk N ops.toList
  | .seq x y => codeOk N x && codeOk N y
  | .cond _ x y => codeOk N x && codeOk N y
  | .block _ c => codeOk N c
  | _ => true

theorem WP_skip : WP P N .skip Q fr H = Q .normal fr H := nr rfl
theorem WP_region {id : Nat} {ops : List Oper} : WP P N (.region id ops.toArray false) Q fr H = AOps P ops.toArray (Q .normal) ops fr H := by simp [WP]
theorem WP_draw {id : Nat} {ops : Array Oper} : WP P N (.region id ops true) Q fr H = AWp P N (.region id ops true) Q fr H := by simp [WP]
theorem WP_seq {x y : Code} : WP P N (.seq x y) Q fr H = WP P N x (thenA (WP P N y Q) Q) fr H := nr rfl
theorem WP_cond {c : Operand} {x y : Code} : WP P N (.cond c x y) Q fr H = condA (aeval fr c) (WP P N x Q fr H) (WP P N y Q fr H) := nr rfl
theorem WP_block {id : Nat} {c : Code} : WP P N (.block id c) Q fr H = WP P N c (blockA id Q) fr H := nr rfl
theorem WP_exit {id : Nat} : WP P N (.exit id) Q fr H = Q (.exit id) fr H := nr rfl
theorem WP_ret : WP P N .ret Q fr H = Q .ret fr H := nr rfl
theorem WP_loop {c : Code} : WP P N (.loop c) Q fr H = AWp P N (.loop c) Q fr H := nr rfl
theorem WP_c {c : Code} {fr' : AFr} {H' : AH} (h1 : mark fr = fr') (h2 : mark H = H') : WP P N c Q fr H = WP P N c Q fr' H' := by rw [← h1, ← h2, mark_eq, mark_eq]

theorem AOps_mono {ops : Array Oper} {Q Q' : AFr → AH → Prop} (hq : ∀ fr H, Q fr H → Q' fr H) : ∀ {l : List Oper} {fr : AFr} {H : AH}, AOps P ops Q l fr H → AOps P ops Q' l fr H
  | [], fr, H, h => hq _ _ h
  | o :: l, fr, H, h => by
    rw [AOps_cons] at h ⊢
    cases hg : guardA ops fr o with
    | none => rw [hg] at h; exact h
    | some b =>
      rw [hg] at h
      cases b with
      | false => exact AOps_mono hq h
      | true =>
        simp only [ifG_t] at h ⊢
        cases hc : callA fr o.op with
        | some fa => rw [hc] at h; exact ASpec.mono h fun r H' k => AOps_mono hq k
        | none =>
          rw [hc] at h
          simp only [callOr_n] at h ⊢
          cases ho : opA P fr H o.op with
          | none => rw [ho] at h; exact h
          | some vh => rw [ho] at h; exact AOps_mono hq h

theorem wp_mono2 : ∀ (c : Code) {Q Q' : Exit → AFr → AH → Prop} {fr : AFr} {H : AH}, (∀ e fr H, Q e fr H → Q' e fr H) → WP P N c Q fr H → WP P N c Q' fr H := by
  intro c
  induction c with
  | region id ops draw =>
    intro Q Q' fr H hq h
    cases draw with
    | true => simp only [WP, if_true] at h ⊢; exact h.mono hq
    | false => simp only [WP, Bool.false_eq_true, if_false] at h ⊢; exact AOps_mono (hq .normal) h
  | seq x y ihx ihy => intro Q Q' fr H hq h; exact ihx (fun e fr H k => by cases e <;> first | exact ihy hq k | exact hq _ _ _ k) h
  | cond c x y ihx ihy =>
    intro Q Q' fr H hq h
    rw [WP_cond] at h ⊢
    unfold condA at h ⊢
    split
    · rename_i e; rw [e] at h; exact ihx hq h
    · rename_i e; rw [e] at h; exact ihy hq h
    · rename_i e1 e2; split at h
      · rename_i e; exact absurd e e1
      · rename_i e; exact absurd e e2
      · exact h
  | block id c ih =>
    intro Q Q' fr H hq h
    refine ih (fun e fr H k => ?_) h
    cases e with
    | exit i =>
      simp only [blockA] at k ⊢
      split at k
      · rename_i hi; rw [if_pos hi]; exact hq _ _ _ k
      · rename_i hi; rw [if_neg hi]; exact hq _ _ _ k
    | _ => exact hq _ _ _ k
  | skip => intro Q Q' fr H hq h; exact hq _ _ _ h
  | exit id => intro Q Q' fr H hq h; exact hq _ _ _ h
  | ret => intro Q Q' fr H hq h; exact hq _ _ _ h
  | _ => intro Q Q' fr H hq h; exact AWp.mono h hq

theorem thenA_mono {next next' : AFr → AH → Prop} {Q : Exit → AFr → AH → Prop} (h : ∀ fr H, next fr H → next' fr H) {e : Exit} {fr : AFr} {H : AH} (k : thenA next Q e fr H) : thenA next' Q e fr H := by
  cases e <;> first | exact h _ _ k | exact k

theorem wp_sound : ∀ (c : Code) {Q : Exit → AFr → AH → Prop} {fr : AFr} {H : AH}, codeOk N c = true → WP P N c Q fr H → AWp P N c Q fr H := by
  intro c
  induction c with
  | skip => intro Q fr H _ h; exact awp_skip h
  | region id ops draw =>
    intro Q fr H hok h
    cases draw with
    | true => simpa [WP] using h
    | false =>
      simp only [codeOk] at hok
      have h' : AOps P ops (Q .normal) ops.toList fr H := by simpa [WP] using h
      have e : ops = ops.toList.toArray := by simp
      rw [e]
      exact awp_region (by simpa using hok) (by simpa using h')
  | seq x y ihx ihy =>
    intro Q fr H hok h
    simp only [codeOk, Bool.and_eq_true] at hok
    refine awp_seq ((ihx hok.1 h).mono fun e fr' H' hq => ?_)
    exact thenA_mono (fun fr'' H'' k => ihy hok.2 k) hq
  | cond c x y ihx ihy =>
    intro Q fr H hok h
    simp only [codeOk, Bool.and_eq_true] at hok
    refine awp_condA ?_
    rw [WP_cond] at h
    unfold condA at h ⊢
    split
    · rename_i e; rw [e] at h; exact ihx hok.1 h
    · rename_i e; rw [e] at h; exact ihy hok.2 h
    · rename_i e1 e2; split at h
      · rename_i e; exact absurd e e1
      · rename_i e; exact absurd e e2
      · exact h
  | block id c ih =>
    intro Q fr H hok h
    exact awp_block (ih hok h)
  | exit id => intro Q fr H _ h; exact awp_exit h
  | ret => intro Q fr H _ h; exact awp_ret h
  | _ => intro Q fr H _ h; exact h

theorem aspec_fn {f : FuncId} {fn : Func} {c : Code} {args : List AV} {n : Nat} {rs : List ResultVar} {R : AV → AH → Prop} (hf : P.funcs[f]? = some fn) (hb : fn.body = some c) (hname : (fn.name == "runtime.NumGoroutine") = false) (hr : fn.results.toList = rs) (hn : fn.ntmps = n) (hok : codeOk n c = true) (hl : args.length ≤ n)
    (h : WP P n c (retA P rs R) args H) : ASpec P f args H R := by
  subst hn hr
  refine aspec_of hf hb hname hl ((wp_sound c hok h).mono fun e fr' H' hq => ?_)
  cases e with
  | normal =>
    simp only [retA_normal] at hq
    cases hv : aresults P fr' H' fn.results.toList with
    | none => rw [hv] at hq; exact hq.elim
    | some vs => rw [hv] at hq; exact ⟨.inl rfl, vs, rfl, hq⟩
  | ret =>
    simp only [retA_ret] at hq
    cases hv : aresults P fr' H' fn.results.toList with
    | none => rw [hv] at hq; exact hq.elim
    | some vs => rw [hv] at hq; exact ⟨.inr rfl, vs, rfl, hq⟩
  | exit id => exact hq.elim
  | goto l => exact hq.elim
  | panic c => exact hq.elim
  | outgrown => exact hq.elim

theorem aspec_in {f : FuncId} {fn : Func} {c : Code} {args : List AV} {n : Nat} {rs : List ResultVar} {R : AV → AH → Prop} (hf : P.funcs[f]? = some fn) (hb : fn.body = some c) (hname : (fn.name == "runtime.NumGoroutine") = false) (hr : fn.results.toList = rs) (hn : fn.ntmps = n) (hl : args.length ≤ n)
    (h : AWp P n c (retA P rs R) args H) : ASpec P f args H R := by
  subst hn hr
  refine aspec_of hf hb hname hl (h.mono fun e fr' H' hq => ?_)
  cases e with
  | normal =>
    simp only [retA_normal] at hq
    cases hv : aresults P fr' H' fn.results.toList with
    | none => rw [hv] at hq; exact hq.elim
    | some vs => rw [hv] at hq; exact ⟨.inl rfl, vs, rfl, hq⟩
  | ret =>
    simp only [retA_ret] at hq
    cases hv : aresults P fr' H' fn.results.toList with
    | none => rw [hv] at hq; exact hq.elim
    | some vs => rw [hv] at hq; exact ⟨.inr rfl, vs, rfl, hq⟩
  | exit id => exact hq.elim
  | goto l => exact hq.elim
  | panic c => exact hq.elim
  | outgrown => exact hq.elim

theorem retA_c {rs : List ResultVar} {R : AV → AH → Prop} {e : Exit} {fr' : AFr} {H' : AH} (h1 : mark fr = fr') (h2 : mark H = H') : retA P rs R e fr H = retA P rs R e fr' H' := by rw [← h1, ← h2, mark_eq, mark_eq]

/-- A loop: 'I' bears a number that falls, what is known of the frame, and of the memory. -/
theorem wp_loop {c : Code} (hok : codeOk N c = true) (I : Nat → List (Nat × AV) → AH → Prop) (n : Nat) (L : List (Nat × AV)) (hI : I n L H) (hL : hasF L fr)
    (round : ∀ n L H, I n L H → WP P N c (thenA (fun fr' H' => ∃ m L', m < n ∧ I m L' H' ∧ hasF L' fr') Q) (frOf L) H) : AWp P N (.loop c) Q fr H :=
  awp_loop (fun n fr H => ∃ L, I n L H ∧ hasF L fr) n ⟨L, hI, hL⟩ fun n fr H ⟨L, hI, hL⟩ =>
    awp_use hL ((wp_sound c hok (round n L H hI)).mono fun e fr' H' hq => thenA_mono (fun fr'' H'' ⟨m, L', h1, h2, h3⟩ => ⟨m, h1, L', h2, h3⟩) hq)

/-- The same over a state that runs. -/
theorem wp_loopS {σ : Type} {c : Code} (hok : codeOk N c = true) (F : σ → List (Nat × AV)) (I : σ → AH → Prop) (μ : σ → Nat) (s : σ) (hL : hasF (F s) fr) (hI : I s H)
    (round : ∀ s H, I s H → WP P N c (thenA (fun fr' H' => ∃ s', hasF (F s') fr' ∧ μ s' < μ s ∧ I s' H') Q) (frOf (F s)) H) : AWp P N (.loop c) Q fr H :=
  wp_loop hok (fun n L H => ∃ s, I s H ∧ μ s = n ∧ F s = L) (μ s) (F s) ⟨s, hI, rfl, rfl⟩ hL fun n L H ⟨s, h1, h2, h3⟩ => by
    subst h2 h3
    have r := round s H h1
    have e : (fun fr' H' => ∃ m L', m < μ s ∧ (∃ s', I s' H' ∧ μ s' = m ∧ F s' = L') ∧ hasF L' fr') = fun fr' H' => ∃ s', hasF (F s') fr' ∧ μ s' < μ s ∧ I s' H' := by
      funext fr' H'
      apply propext
      constructor
      · rintro ⟨m, L', h1, ⟨s', h2, h3, h4⟩, h5⟩
        subst h3 h4
        exact ⟨s', h5, h1, h2⟩
      · rintro ⟨s', h1, h2, h3⟩
        exact ⟨_, _, h2, ⟨s', h3, rfl, rfl⟩, h1⟩
    rw [e]
    exact r

/-! a function in parts -/
def headN : Nat → Code → Code
  | n + 1, .seq a b => .seq a (headN n b)
  | _, _ => .skip

theorem wp_parts : ∀ (n : Nat) (c : Code) {Q : Exit → AFr → AH → Prop} {fr : AFr} {H : AH}, codeOk N c = true → WP P N (headN n c) (thenA (fun fr H => AWp P N (restC n c) Q fr H) Q) fr H → AWp P N c Q fr H
  | 0, c, Q, fr, H, _, h => by
    cases c <;> exact h
  | n + 1, c, Q, fr, H, hok, h => by
    cases c with
    | seq a b =>
      simp only [codeOk, Bool.and_eq_true] at hok
      refine awp_seq ((wp_sound a hok.1 h).mono fun e fr' H' hq => ?_)
      exact (by
        cases e with
        | normal => exact wp_parts n b hok.2 hq
        | _ => exact hq)
    | _ => exact h

/-- A function's code in two parts, with what is known between them: 's' runs over whatever is not said. -/
theorem wp_mid {σ : Type} {c : Code} (n : Nat) (hok : codeOk N c = true) (F : σ → List (Nat × AV)) (I : σ → AH → Prop)
    (h1 : WP P N (headN n c) (thenA (fun fr' H' => ∃ s, hasF (F s) fr' ∧ I s H') Q) fr H) (h2 : ∀ s H, I s H → AWp P N (restC n c) Q (frOf (F s)) H) : AWp P N c Q fr H :=
  wp_parts n c hok (by
    exact wp_mono2 (headN n c) (fun e fr' H' hq => thenA_mono (fun fr'' H'' ⟨s, k1, k2⟩ => awp_use k1 (h2 s H'' k2)) hq) h1)

theorem hasF_nil : hasF [] fr = True := nr rfl
theorem hasF_cons {p : Nat × AV} {l : List (Nat × AV)} : hasF (p :: l) fr = (lget fr p.1 = p.2 ∧ hasF l fr) := nr rfl
end

theorem ASpec.eq {P : Program} {f : FuncId} {args : List AV} {H H1 : AH} {v : AV} {Q : AV → AH → Prop} (h : ASpec P f args H fun r H' => r = v ∧ H' = H1) (k : Q v H1) : ASpec P f args H Q := h.mono fun r H' ⟨e1, e2⟩ => by rw [e1, e2]; exact k

/-- A call that hands over no places and gives none back. -/
theorem aspec_flat {P : Program} {f : FuncId} {args : List AV} {v : AV} (ha : plainL args = true) (hv : plainA v = true) (h : ∀ H, ASpec P f args H fun r _ => r = v) (H : AH) : ASpec P f args H fun r H' => r = v ∧ H' = H :=
  aspec_plain (Q := fun r => r = v) ha (fun r hr => by rw [hr]; exact hv) (fun ro => h (.base ro)) H

/-- A whole block is stored. -/
theorem store_all {P : Program} {t : TypeId} {H : AH} {i : Nat} {l l0 : List AV} (hc : H.cells? i = some l0) (hl : l.length = l0.length) (hs : sizeA P t = some l.length) (ha : l.all oneA = true) (h0 : l ≠ []) :
    storeA P t ⟨false, i, 0⟩ (.agg l) H = some (H.set i (some (.cells l))) := by
  simp only [storeA, cellsA, Option.bind_some, hs, and_self, if_true]
  rw [storeCells_many l 0 H l0 ha hc (by omega) (fun e => absurd e h0), Nat.zero_add, List.take_zero, List.nil_append, List.drop_of_length_le (by omega), List.append_nil]

theorem set_same {H : AH} {i : Nat} {l : List AV} (hc : H.cells? i = some l) (hw : H.wr i) : H.set i (some (.cells l)) = H := by
  have h := cells?_some hc
  obtain ⟨ro, rw', wr⟩ := H
  simp only [AH.set, AH.mk.injEq, true_and]
  refine ⟨?_, funext fun j => propext ⟨fun e => e.elim (fun e => e ▸ hw) id, .inr⟩⟩
  apply List.ext_getElem?
  intro j
  rw [List.getElem?_set]
  split
  · rename_i hj
    subst hj
    split
    · exact h.symm
    · rename_i h1; exact absurd (lt_of_get h) h1
  · rfl

theorem grew_get {H H' : AH} (h : Grew H H') {a : AAddr} {l : List AV} (hl : H.get a = some l) : H'.get a = some l := h.get hl

/-! rows: slices of anything -/
def okSl (sz : Nat) : AV → Bool
  | .nilslice => true
  | .slice _ n (.known c) => decide (n ≤ c)
  | .slice a _ (.grow g) => decide (g = sz) && !a.ro
  | _ => false

/-- A slice of so many elements of so many cells each, that reads so. -/
structure Row (H : AH) (sz : Nat) (v : AV) (n : Nat) (cs : List AV) : Prop where
  row : rowA H sz v = some cs
  len : slen v = n
  sl : okSl sz v = true

/-- Where an element of a slice lies. -/
def eltA (v : AV) (i : Nat) (sz : Nat) : AAddr :=
  match v with
  | .slice a _ _ => ⟨a.ro, a.blk, a.off + i * sz⟩
  | _ => ⟨true, 0, 0⟩

theorem Row.grew {H H' : AH} (h : Grew H H') {sz : Nat} {v : AV} {n : Nat} {cs : List AV} (k : Row H sz v n cs) : Row H' sz v n cs := ⟨h.row k.row, k.len, k.sl⟩

theorem Row.nil (H : AH) (sz : Nat) : Row H sz .nilslice 0 [] := ⟨rfl, rfl, rfl⟩

theorem Row.elim {H : AH} {sz : Nat} {v : AV} {n : Nat} {cs : List AV} (h : Row H sz v n cs) :
    (v = .nilslice ∧ n = 0 ∧ cs = []) ∨ ∃ a c l, v = .slice a n c ∧ H.get a = some l ∧ (a.off + n * sz ≤ l.length ∨ n * sz = 0) ∧ cs = (l.drop a.off).take (n * sz) := by
  obtain ⟨h1, h2, h3⟩ := h
  cases v with
  | nilslice => left; simp only [slen] at h2; simp only [rowA] at h1; injection h1 with h1; exact ⟨rfl, h2.symm, h1.symm⟩
  | slice a m c =>
    right
    simp only [slen] at h2
    subst h2
    simp only [rowA] at h1
    obtain ⟨l, g1, g2⟩ := Option.bind_eq_some_iff.1 h1
    split at g2
    · rename_i hle
      injection g2 with g2
      exact ⟨a, c, l, rfl, g1, hle, g2.symm⟩
    · cases g2
  | _ => simp [okSl] at h3

theorem Row.size {H : AH} {sz : Nat} {v : AV} {n : Nat} {cs : List AV} (h : Row H sz v n cs) : cs.length = n * sz := by
  rcases h.elim with ⟨_, rfl, rfl⟩ | ⟨a, c, l, _, _, h1, rfl⟩
  · simp
  · simp only [List.length_take, List.length_drop]
    omega

theorem Row.lenA {H : AH} {sz : Nat} {v : AV} {n : Nat} {cs : List AV} (h : Row H sz v n cs) {P : Program} {t e : TypeId} (ht : P.underlying t = some (.slice e)) : lenA P t v = some (.int .i64 n) := by
  rcases h.elim with ⟨rfl, rfl, _⟩ | ⟨a, c, l, rfl, _, _, _⟩ <;> simp [Go.Abs.lenA, ht]

theorem Row.ix {H : AH} {sz : Nat} {v : AV} {n : Nat} {cs : List AV} (h : Row H sz v n cs) {P : Program} {t e : TypeId} (ht : P.underlying t = some (.slice e)) (hs : sizeA P e = some sz) {k : IntKind} {i : Int} (h0 : 0 ≤ i) (hi : i < n) :
    indexAddrA P t v (.int k i) = some (.ptr (eltA v i.toNat sz)) := by
  rcases h.elim with ⟨rfl, rfl, _⟩ | ⟨a, c, l, rfl, _, _, _⟩
  · omega
  · simp only [indexAddrA, ht, hs, Option.bind_some, eltA]; rw [if_pos ⟨h0, hi⟩]

/-- A cell of an element. -/
theorem Row.ld {H : AH} {sz : Nat} {v : AV} {n : Nat} {cs : List AV} (h : Row H sz v n cs) {i j : Nat} (hi : i < n) (hj : j < sz) :
    ((H.get (eltA v i sz)).bind fun cs => cs[(eltA v i sz).off + j]?) = cs[i * sz + j]? := by
  rcases h.elim with ⟨rfl, rfl, _⟩ | ⟨a, c, l, rfl, hg, hb, rfl⟩
  · omega
  · have hlt : i * sz + j < n * sz := by
      have := Nat.mul_le_mul_right sz (show i + 1 ≤ n from hi)
      rw [Nat.add_mul] at this
      omega
    have e : H.get (eltA (.slice a n c) i sz) = some l := by unfold AH.get at *; exact hg
    rw [e]
    simp only [Option.bind_some, eltA]
    rw [List.getElem?_take, if_pos hlt, List.getElem?_drop, Nat.add_assoc]

theorem Row.ld1 {H : AH} {v : AV} {n : Nat} {cs : List AV} (h : Row H 1 v n cs) {i : Nat} (hi : i < n) :
    ((H.get (eltA v i 1)).bind fun cs => cs[(eltA v i 1).off]?) = cs[i]? := by
  have := h.ld hi (j := 0) (by omega)
  simpa using this

/-- A whole element. -/
theorem Row.ldA {H : AH} {sz : Nat} {v : AV} {n : Nat} {cs : List AV} (h : Row H sz v n cs) (h0 : 0 < sz) {i : Nat} (hi : i < n) :
    ((H.get (eltA v i sz)).bind fun cs => gd ((eltA v i sz).off + sz ≤ cs.length) (some (AV.agg ((cs.drop (eltA v i sz).off).take sz)))) = some (.agg ((cs.drop (i * sz)).take sz)) := by
  rcases h.elim with ⟨rfl, rfl, _⟩ | ⟨a, c, l, rfl, hg, hb, rfl⟩
  · omega
  · have hlt : i * sz + sz ≤ n * sz := by
      have := Nat.mul_le_mul_right sz (show i + 1 ≤ n from hi)
      rwa [Nat.add_mul, Nat.one_mul] at this
    have e : H.get (eltA (.slice a n c) i sz) = some l := by unfold AH.get at *; exact hg
    have hle : (eltA (.slice a n c) i sz).off + sz ≤ l.length := by
      show a.off + i * sz + sz ≤ l.length
      omega
    rw [e, Option.bind_some, gd_pos hle]
    congr 2
    apply List.ext_getElem?
    intro j
    simp only [List.getElem?_take, List.getElem?_drop, eltA]
    by_cases hj : j < sz
    · rw [if_pos hj, if_pos hj, if_pos (by omega)]
      congr 1; omega
    · rw [if_neg hj, if_neg hj]

theorem IsBytes.toRow {H : AH} {v : AV} {xs : List UInt8} (h : IsBytes H v xs) : Row H 1 v xs.length (xs.map bv) := ⟨h.row, h.len, by
  have := h.sl
  cases v with
  | slice a n c => cases c <;> exact this
  | _ => exact this⟩

theorem Row.toBytes {H : AH} {v : AV} {xs : List UInt8} (h : Row H 1 v xs.length (xs.map bv)) : IsBytes H v xs := ⟨h.row, h.len, by
  have := h.sl
  cases v with
  | slice a n c => cases c <;> exact this
  | _ => exact this⟩

theorem IsBytes.ld {H : AH} {v : AV} {xs : List UInt8} (h : IsBytes H v xs) {i : Nat} (hi : i < xs.length) :
    ((H.get (eltA v i 1)).bind fun cs => cs[(eltA v i 1).off]?) = some (bv (xs.getD i 0)) := by
  rw [h.toRow.ld1 hi]; simp [List.getD, hi]

theorem IsBytes.ix {H : AH} {v : AV} {xs : List UInt8} (h : IsBytes H v xs) {P : Program} {t e : TypeId} (ht : P.underlying t = some (.slice e)) (hs : sizeA P e = some 1) {k : IntKind} {i : Int} (h0 : 0 ≤ i) (hi : i < xs.length) :
    indexAddrA P t v (.int k i) = some (.ptr (eltA v i.toNat 1)) := h.toRow.ix ht hs h0 hi

end Go.Abs
