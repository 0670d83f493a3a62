/- All operations but calls, in one: what the model does is what the abstract operation says. -/
import Derived.Test.YtickckpndpeppaaA12
set_option linter.unusedVariables false
set_option linter.unusedSimpArgs false
namespace Go.Abs
open Go Go.RowKit

variable {P : Program} {w0 w : World} {ι : List Loc} {H : AH}

theorem OkRes.stay {v : AV} {s : Sem Value} {z : Value} (h : Rep w0 ι H w) (hr : s.run P w = .ok z w) (hv : RV w0.heap.size ι v z) : OkRes w0 ι H w v H ((do pure (.value (← s)) : Sem Next).run P w) :=
  ⟨w, ι, h, Ext.refl _ _ _, .inl ⟨z, by simp [hr], hv⟩⟩

theorem OkRes.val {v : AV} {H' : AH} {s : Sem Value} {z : Value} {w' : World} {ι' : List Loc} (hr : s.run P w = .ok z w') (hv : RV w0.heap.size ι' v z) (h : Rep w0 ι' H' w') (he : Ext ι H w ι' H' w') :
    OkRes w0 ι H w v H' ((do pure (.value (← s)) : Sem Next).run P w) :=
  ⟨w', ι', h, he, .inl ⟨z, by simp [hr], hv⟩⟩

theorem newVal_run (h : Rep w0 ι H w) {l : List AV} {x : Value} (e : TypeId) (hl : RVL w0.heap.size ι l x.cells.toList) :
    ∃ ι', (newVar e x).run P w = .ok ⟨w.heap.size, 0, none⟩ (w.alloc (.cells x.cells e)) ∧ Rep w0 ι' (newA H l).2 (w.alloc (.cells x.cells e)) ∧ Ext ι H w ι' (newA H l).2 (w.alloc (.cells x.cells e)) ∧
      RV w0.heap.size ι' (newA H l).1 (.pointer (some ⟨w.heap.size, 0, none⟩)) := by
  obtain ⟨ι', g1, g2, g3, _⟩ := newA_run h e hl
  exact ⟨ι', by simp [newVar, newRow], g1, g2, by unfold newA RV; exact g3⟩

theorem parts_ok {fr : AFr} {a : Act} (hf : RFr w0.heap.size ι fr a.tmps) (ps : Array (Nat × Operand)) :
    (ps.map fun (i, x) => (i, a.eval x)).toList.length = (ps.toList.map fun p => (p.1, aeval fr p.2)).length ∧
    ∀ (j : Nat) (p : Nat × AV), (ps.toList.map fun p => (p.1, aeval fr p.2))[j]? = some p → ∃ x, (ps.map fun (i, x) => (i, a.eval x)).toList[j]? = some (p.1, x) ∧ RV w0.heap.size ι p.2 x := by
  refine ⟨by simp, fun j p hj => ?_⟩
  rw [List.getElem?_map] at hj
  cases hq : ps.toList[j]? with
  | none => rw [hq] at hj; cases hj
  | some q =>
    rw [hq] at hj
    injection hj with hj
    subst hj
    refine ⟨a.eval q.2, ?_, aeval_ok hf q.2⟩
    rw [Array.toList_map, List.getElem?_map, hq]
    rfl

theorem ops_ok {fr : AFr} {a : Act} (hf : RFr w0.heap.size ι fr a.tmps) : ∀ l : List Operand, RVL w0.heap.size ι (l.map (aeval fr)) (l.map a.eval)
  | [] => by simp [RVL]
  | x :: l => by simp only [List.map_cons, RVL]; exact ⟨_, _, rfl, aeval_ok hf x, ops_ok hf l⟩

theorem opt_ok {fr : AFr} {a : Act} (hf : RFr w0.heap.size ι fr a.tmps) (x : Option Operand) : ROpt w0.heap.size ι (x.map (aeval fr)) (x.map a.eval) := by
  cases x with
  | none => rfl
  | some x => exact ⟨_, rfl, aeval_ok hf x⟩

theorem builtinA_ok (h : Rep w0 ι H w) {b : Builtin} {ts : Array TypeId} {xs : List AV} {v : AV} {H' : AH} (hb : builtinA P b ts.toList xs H = some (v, H')) {ys : Array Value} (hy : RVL w0.heap.size ι xs ys.toList) (ty : TypeId) (cs : Array Bool) :
    OkRes w0 ι H w v H' ((builtin b ts ty cs ys).run P w) := by
  obtain ⟨ts⟩ := ts
  obtain ⟨ys⟩ := ys
  simp only at hb hy
  unfold builtinA at hb
  split at hb
  · rename_i t x
    obtain ⟨v', hl, hb⟩ := Option.map_eq_some_iff.1 hb
    injection hb with e1 e2
    subst e1 e2
    simp only [RVL] at hy
    obtain ⟨y, m, rfl, h1, rfl⟩ := hy
    obtain ⟨z, r1, r2⟩ := lenA_run hl h1 ty w
    exact OkRes.stay h r1 r2
  · rename_i st xt s x
    simp only [RVL] at hy
    obtain ⟨y, m, rfl, h1, y2, m2, rfl, h2, rfl⟩ := hy
    obtain ⟨z, w', ι', r1, r2, r3, r4⟩ := appendA_run (P := P) (ty := ty) h hb h1 h2
    exact OkRes.val r1 r2 r3 r4
  · rename_i dt st d x
    simp only [RVL] at hy
    obtain ⟨y, m, rfl, h1, y2, m2, rfl, h2, rfl⟩ := hy
    obtain ⟨z, w', r1, r2, r3, r4⟩ := copyA_run (P := P) (st := st) (ty := ty) h hb h1 h2
    exact OkRes.val r1 r2 r3 r4
  · rename_i t x
    simp only [RVL] at hy
    obtain ⟨y, m, rfl, h1, rfl⟩ := hy
    obtain ⟨z, w', r1, r2, r3, r4⟩ := clearA_run (P := P) (ty := ty) h hb h1
    exact OkRes.val r1 r2 r3 r4
  · rename_i x l
    obtain ⟨v', hl, hb⟩ := Option.map_eq_some_iff.1 hb
    injection hb with e1 e2
    subst e1 e2
    simp only [RVL] at hy
    obtain ⟨y, m, rfl, h1, h2⟩ := hy
    obtain ⟨z, r1, r2⟩ := foldA_run (P := P) (w := w) (g := Builtin.min2) (fun h a b => min2A_run h a b) l m hl h1 h2
    exact OkRes.stay h (by simpa [Builtin.min_] using r1) r2
  · rename_i x l
    obtain ⟨v', hl, hb⟩ := Option.map_eq_some_iff.1 hb
    injection hb with e1 e2
    subst e1 e2
    simp only [RVL] at hy
    obtain ⟨y, m, rfl, h1, h2⟩ := hy
    obtain ⟨z, r1, r2⟩ := foldA_run (P := P) (w := w) (g := Builtin.max2) (fun h a b => max2A_run h a b) l m hl h1 h2
    exact OkRes.stay h (by simpa [Builtin.max_] using r1) r2
  · cases hb

theorem zeroV_run {t : TypeId} {v : AV} (h : zeroV P t = some v) (b : Nat) (ι : List Loc) (w : World) : ∃ z, (zeroValue t).run P w = .ok z w ∧ RV b ι v z := by
  unfold zeroV at h
  obtain ⟨i, hi, h⟩ := Option.bind_eq_some_iff.1 h
  obtain ⟨z, hz, rfl⟩ := Option.map_eq_some_iff.1 h
  exact ⟨z, by simp [zeroValue, run_typeInfo hi, hz], RV_abs ι (Nat.zero_le _) z⟩

theorem ifaceA_run {t : TypeId} {x v : AV} {y : Value} (h : ifaceA P t x = some v) {b : Nat} {ι : List Loc} (hx : RV b ι x y) (w : World) : ∃ z, (Instr.makeInterface t y).run P w = .ok z w ∧ RV b ι v z := by
  unfold ifaceA at h
  obtain ⟨d, hd, h⟩ := Option.bind_eq_some_iff.1 h
  split at h
  · cases h
  · rename_i hn
    injection h with h; subst h
    refine ⟨.iface t y, ?_, by unfold RV; exact ⟨_, rfl, hx⟩⟩
    cases d <;> first | (exact absurd rfl hn) | simp [Instr.makeInterface, run_underlying hd]

theorem assertA_run {t xt : TypeId} {ok : Bool} {x v : AV} {y : Value} (h : assertA P t ok x = some v) {b : Nat} {ι : List Loc} (hx : RV b ι x y) (w : World) : ∃ z, (Instr.typeAssert y xt t ok).run P w = .ok z w ∧ RV b ι v z := by
  unfold assertA at h
  obtain ⟨d, hd, h⟩ := Option.bind_eq_some_iff.1 h
  split at h
  · cases h
  · rename_i hn
    have hz : ∀ (y : Value), y = .nilIface ∨ (∃ t' u, y = .iface t' u ∧ t' ≠ t) → ok = true → ∀ z, zeroV P t = some z → ∃ q, (Instr.typeAssert y xt t ok).run P w = .ok q w ∧ RV b ι (.tup [z, .bool false]) q := by
      rintro y hy rfl z hz
      obtain ⟨q, h1, h2⟩ := zeroV_run hz b ι w
      refine ⟨.tuple #[q, .bool false], ?_, by unfold RV; exact ⟨_, rfl, by simp only [RVL]; exact ⟨_, _, rfl, h2, _, _, rfl, by unfold RV; rfl, rfl⟩⟩⟩
      rcases hy with rfl | ⟨t', u, rfl, hne⟩
      · cases d <;> first | (exact absurd rfl hn) | simp [Instr.typeAssert, run_underlying hd, h1]
      · cases d <;> first | (exact absurd rfl hn) | simp [Instr.typeAssert, run_underlying hd, h1, hne]
    unfold assertV at h
    split at h
    · rename_i t' u
      unfold RV at hx
      obtain ⟨y', rfl, hy⟩ := hx
      split at h
      · rename_i ht
        subst ht
        injection h with h
        cases ok
        · simp at h; subst h
          refine ⟨y', ?_, hy⟩
          cases d <;> first | (exact absurd rfl hn) | simp [Instr.typeAssert, run_underlying hd]
        · simp at h; subst h
          refine ⟨.tuple #[y', .bool true], ?_, by unfold RV; exact ⟨_, rfl, by simp only [RVL]; exact ⟨_, _, rfl, hy, _, _, rfl, by unfold RV; rfl, rfl⟩⟩⟩
          cases d <;> first | (exact absurd rfl hn) | simp [Instr.typeAssert, run_underlying hd]
      · rename_i ht
        split at h
        · rename_i hok
          obtain ⟨z, h1, rfl⟩ := Option.map_eq_some_iff.1 h
          exact hz _ (.inr ⟨_, _, rfl, ht⟩) hok z h1
        · cases h
    · split at h
      · rename_i hok
        unfold RV at hx
        obtain ⟨z, h1, rfl⟩ := Option.map_eq_some_iff.1 h
        exact hz _ (.inl hx) hok z h1
      · cases h
    · cases h

theorem opA_ok (h : Rep w0 ι H w) {fr : AFr} {a : Act} (hf : RFr w0.heap.size ι fr a.tmps) {o : Oper} {v : AV} {H' : AH} (ho : opA P fr H o.op = some (v, H')) : OkRes w0 ι H w v H' ((execOp a.eval o).run P w) := by
  obtain ⟨dst, op, type, pos, after, guard⟩ := o
  simp only at ho
  cases op with
  | move x => simp only [opA] at ho; injection ho with ho; injection ho with e1 e2; subst e1 e2; exact ⟨w, ι, h, Ext.refl _ _ _, .inl ⟨a.eval x, rfl, aeval_ok hf x⟩⟩
  | assign x => simp only [opA] at ho; injection ho with ho; injection ho with e1 e2; subst e1 e2; exact ⟨w, ι, h, Ext.refl _ _ _, .inl ⟨a.eval x, rfl, aeval_ok hf x⟩⟩
  | pick c x y =>
    simp only [opA] at ho
    split at ho
    · rename_i t ht
      injection ho with ho; injection ho with e1 e2; subst e1 e2
      have hc := aeval_ok hf c
      rw [ht] at hc
      unfold RV at hc
      refine ⟨w, ι, h, Ext.refl _ _ _, .inl ⟨if t then a.eval x else a.eval y, by simp [execOp, hc, asBool], ?_⟩⟩
      cases t
      · exact aeval_ok hf y
      · exact aeval_ok hf x
    · cases ho
  | alloc t =>
    simp only [opA] at ho
    obtain ⟨z, hz, ho⟩ := Option.map_eq_some_iff.1 ho
    obtain ⟨zv, hzr, rfl⟩ := zeroA_run hz w
    obtain ⟨ι', r1, r2, r3, r4⟩ := newVal_run (P := P) h (x := zv) t (RVL_zero zv.cells)
    have e1 : v = (newA H (absL 0 zv.cells.toList)).1 := by rw [ho]
    have e2 : H' = (newA H (absL 0 zv.cells.toList)).2 := by rw [ho]
    rw [e1, e2]
    exact OkRes.val (P := P) (s := Instr.alloc t true (.tuple #[])) (by simp [Instr.alloc, hzr, r1]) r4 r2 r3
  | box t x =>
    simp only [opA] at ho
    obtain ⟨l, hl, ho⟩ := Option.map_eq_some_iff.1 ho
    have hc := cellsA_run hl (aeval_ok hf x)
    obtain ⟨ι', r1, r2, r3, r4⟩ := newVal_run (P := P) h (x := a.eval x) t hc
    have e1 : v = (newA H l).1 := by rw [ho]
    have e2 : H' = (newA H l).2 := by rw [ho]
    rw [e1, e2]
    exact OkRes.val (P := P) (s := Instr.box t (a.eval x)) (by simp [Instr.box, r1]) r4 r2 r3
  | build t ps =>
    simp only [opA] at ho
    obtain ⟨v', hv, ho⟩ := Option.map_eq_some_iff.1 ho
    injection ho with e1 e2; subst e1 e2
    obtain ⟨p1, p2⟩ := parts_ok hf ps
    obtain ⟨z, r1, r2⟩ := buildA_run (P := P) hv p1 p2 w
    exact OkRes.stay h r1 r2
  | buildSlice t n ps =>
    simp only [opA] at ho
    obtain ⟨p1, p2⟩ := parts_ok hf ps
    obtain ⟨z, w', ι', r1, r2, r3, r4⟩ := buildSliceA_run (P := P) h ho p1 p2
    exact OkRes.val r1 r2 r3 r4
  | makeInterface t x =>
    simp only [opA] at ho
    obtain ⟨v', hv, ho⟩ := Option.map_eq_some_iff.1 ho
    injection ho with e1 e2; subst e1 e2
    obtain ⟨z, r1, r2⟩ := ifaceA_run hv (aeval_ok hf x) w
    exact OkRes.stay h r1 r2
  | typeAssert x xt t ok =>
    simp only [opA] at ho
    obtain ⟨v', hv, ho⟩ := Option.map_eq_some_iff.1 ho
    injection ho with e1 e2; subst e1 e2
    obtain ⟨z, r1, r2⟩ := assertA_run (xt := xt) hv (aeval_ok hf x) w
    exact OkRes.stay h r1 r2
  | load t x =>
    simp only [opA] at ho
    split at ho
    · rename_i p hp
      obtain ⟨v', hv, ho⟩ := Option.map_eq_some_iff.1 ho
      injection ho with e1 e2; subst e1 e2
      have hx := aeval_ok hf x
      rw [hp] at hx
      unfold RV at hx
      obtain ⟨z, r1, r2⟩ := loadA_run (P := P) h hv hx
      exact OkRes.stay h r1 r2
    · cases ho
  | store t x y =>
    simp only [opA] at ho
    split at ho
    · rename_i p hp
      obtain ⟨v', hv, ho⟩ := Option.map_eq_some_iff.1 ho
      injection ho with e1 e2; subst e1 e2
      have hx := aeval_ok hf x
      rw [hp] at hx
      unfold RV at hx
      obtain ⟨w', r1, r2, r3⟩ := storeA_run (P := P) h hv hx (aeval_ok hf y)
      exact ⟨w', ι, r2, r3, .inr ⟨by simp [execOp, r1], rfl⟩⟩
    · cases ho
  | nilCheck x =>
    simp only [opA] at ho
    have hx := aeval_ok hf x
    split at ho
    · rename_i p hp
      injection ho with ho; injection ho with e1 e2; subst e1 e2
      rw [hp] at hx
      have hx' := hx
      unfold RV at hx
      obtain ⟨q, hq⟩ := RPtr_some hx
      refine ⟨w, ι, h, Ext.refl _ _ _, .inl ⟨a.eval x, ?_, hx'⟩⟩
      simp [execOp, hq]
    · rename_i f l hp
      injection ho with ho; injection ho with e1 e2; subst e1 e2
      rw [hp] at hx
      have hx' := hx
      unfold RV at hx
      obtain ⟨cs, hq, _⟩ := hx
      refine ⟨w, ι, h, Ext.refl _ _ _, .inl ⟨a.eval x, ?_, hx'⟩⟩
      simp [execOp, hq]
    · cases ho
  | binOp op t x y yt =>
    simp only [opA] at ho
    obtain ⟨v', hv, ho⟩ := Option.map_eq_some_iff.1 ho
    injection ho with e1 e2; subst e1 e2
    obtain ⟨z, r1, r2⟩ := binA_run (P := P) hv (aeval_ok hf x) (aeval_ok hf y) x y w
    exact OkRes.stay h r1 r2
  | unOp op t x =>
    simp only [opA] at ho
    obtain ⟨v', hv, ho⟩ := Option.map_eq_some_iff.1 ho
    injection ho with e1 e2; subst e1 e2
    obtain ⟨z, r1, r2⟩ := unA_run (P := P) hv (aeval_ok hf x) w
    exact OkRes.stay h r1 r2
  | convert s d x =>
    simp only [opA] at ho
    obtain ⟨z, w', r1, r2, r3, r4⟩ := convertA_run (P := P) h ho (aeval_ok hf x)
    exact OkRes.val r1 r2 r3 r4
  | makeFunc fn first cap =>
    cases fn <;> simp only [opA] at ho
    case func f =>
      split at ho
      · rename_i h0
        injection ho with ho; injection ho with e1 e2; subst e1 e2
        have hfirst : first = #[] := Array.eq_empty_of_size_eq_zero h0
        subst hfirst
        refine OkRes.stay (P := P) (s := Instr.makeFunc (.func f) (#[].map a.eval) (cap.map a.eval)) h rfl ?_
        unfold RV
        refine ⟨cap.map a.eval, by simp, ?_⟩
        rw [Array.toList_map]
        exact ops_ok hf cap.toList
      · cases ho
    all_goals cases ho
  | makeSlice t l c =>
    simp only [opA] at ho
    obtain ⟨z, w', ι', r1, r2, r3, r4⟩ := makeSliceA_run (P := P) h ho (aeval_ok hf l) (aeval_ok hf c)
    exact OkRes.val r1 r2 r3 r4
  | slice t x lo hi mx =>
    simp only [opA] at ho
    obtain ⟨v', hv, ho⟩ := Option.map_eq_some_iff.1 ho
    injection ho with e1 e2; subst e1 e2
    obtain ⟨z, r1, r2⟩ := sliceOpA_run (P := P) hv (aeval_ok hf x) (opt_ok hf lo) (opt_ok hf hi) (opt_ok hf mx) w
    exact OkRes.stay h r1 r2
  | fieldAddr s x f =>
    simp only [opA] at ho
    obtain ⟨v', hv, ho⟩ := Option.map_eq_some_iff.1 ho
    injection ho with e1 e2; subst e1 e2
    obtain ⟨z, r1, r2⟩ := fieldAddrA_run (P := P) hv (aeval_ok hf x) w
    exact OkRes.stay h r1 r2
  | field t x f =>
    simp only [opA] at ho
    obtain ⟨v', hv, ho⟩ := Option.map_eq_some_iff.1 ho
    injection ho with e1 e2; subst e1 e2
    obtain ⟨z, r1, r2⟩ := fieldA_run (P := P) hv (aeval_ok hf x) w
    exact OkRes.stay h r1 r2
  | indexAddr t x i =>
    simp only [opA] at ho
    obtain ⟨v', hv, ho⟩ := Option.map_eq_some_iff.1 ho
    injection ho with e1 e2; subst e1 e2
    obtain ⟨z, r1, r2⟩ := indexAddrA_run (P := P) hv (aeval_ok hf x) (aeval_ok hf i) w
    exact OkRes.stay h r1 r2
  | index t x i =>
    simp only [opA] at ho
    obtain ⟨v', hv, ho⟩ := Option.map_eq_some_iff.1 ho
    injection ho with e1 e2; subst e1 e2
    obtain ⟨z, r1, r2⟩ := indexA_run (P := P) hv (aeval_ok hf x) (aeval_ok hf i) w
    exact OkRes.stay h r1 r2
  | extract x i =>
    simp only [opA] at ho
    have hx := aeval_ok hf x
    split at ho
    · rename_i l hl
      obtain ⟨v', hv, ho⟩ := Option.map_eq_some_iff.1 ho
      injection ho with e1 e2; subst e1 e2
      rw [hl] at hx
      unfold RV at hx
      obtain ⟨cs, hcs, hrl⟩ := hx
      obtain ⟨z, r1, r2⟩ := hrl.get hv
      rw [Array.getElem?_toList] at r1
      exact OkRes.stay (P := P) (s := Instr.extract (a.eval x) i) h (by simp [hcs, Instr.extract, r1]) r2
    · cases ho
  | call c =>
    obtain ⟨callee, args, argTypes⟩ := c
    cases callee with
    | builtin b =>
      simp only [opA] at ho
      have hy : RVL w0.heap.size ι (args.toList.map (aeval fr)) (args.map a.eval).toList := by rw [Array.toList_map]; exact ops_ok hf _
      have := fun cs => builtinA_ok (P := P) h ho hy type cs
      simp only [execOp, resolve, invoke, pure_bind]
      exact this _
    | _ => simp only [opA] at ho; cases ho
  | _ => simp only [opA] at ho; cases ho

end Go.Abs
