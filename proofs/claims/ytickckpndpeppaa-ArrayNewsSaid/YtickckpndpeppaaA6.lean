/- Each operation of the model does what its abstract one says: numbers, slices' bounds, places. -/
import Derived.Test.YtickckpndpeppaaA5
set_option linter.unusedVariables false
set_option linter.unusedSimpArgs false
namespace Go.Abs
open Go Go.RowKit

variable {P : Program} {w0 w : World} {ι : List Loc} {H : AH}

theorem intOpA_run {op : BinOp} {k : IntKind} {a b : Int} {v : AV} (h : intOpA op k a b = some v) (t : TypeId) (w : World) (hs : op ≠ .shl) (hs' : op ≠ .shr) :
    ∃ x, (binOp op t (.int k a) (.int k b)).run P w = .ok x w ∧ RV w0.heap.size ι v x := by
  cases op <;> simp only [intOpA] at h <;> first
    | (cases h; done)
    | (exact absurd rfl hs)
    | (exact absurd rfl hs')
    | (injection h with h; subst h; refine ⟨_, ?_, rfl⟩; simp [binOp, Op.intArith, Op.intBits, Op.intCmp]; done)
    | (split at h; · cases h
       · rename_i hb; injection h with h; subst h; refine ⟨_, ?_, rfl⟩; simp [binOp, Op.intDiv, hb]; done)

theorem shiftA_run {op : BinOp} {k k' : IntKind} {a b : Int} {v : AV} (h : shiftA op k a b = some v) (t : TypeId) (w : World) :
    ∃ x, (binOp op t (.int k a) (.int k' b)).run P w = .ok x w ∧ RV w0.heap.size ι v x := by
  unfold shiftA at h
  split at h
  · cases h
  · rename_i hb
    cases op <;> simp only at h <;> first
      | (cases h; done)
      | (injection h with h; subst h; refine ⟨_, ?_, rfl⟩; simp [binOp, Op.shift, hb]; done)

theorem strOpA_run {op : BinOp} {a b : ByteArray} {v : AV} (h : strOpA op a b = some v) (t : TypeId) (w : World) :
    ∃ x, (binOp op t (.string a) (.string b)).run P w = .ok x w ∧ RV w0.heap.size ι v x := by
  cases op <;> simp only [strOpA] at h <;> first
    | (cases h; done)
    | (injection h with h; subst h; refine ⟨_, ?_, rfl⟩; simp [binOp, Op.stringOp]; done)

theorem sureSlice_not {n : Nat} {c : Cap} {a : AAddr} {v : Value} (h : sureSlice n c = true) (hv : RSlice w0.heap.size ι a n c v) : ∃ q m C, v = .slice (some q) m C := by
  unfold RSlice at hv
  split at hv
  · obtain ⟨c', _, _, ⟨_, hv⟩ | ⟨_, p, hv⟩⟩ := hv
    · exact ⟨_, _, _, hv⟩
    · exact ⟨_, _, _, hv⟩
  · split at hv
    · unfold RSliceAt at hv
      split at hv
      · obtain ⟨_, hv | ⟨hc, p, hv⟩⟩ := hv
        · exact ⟨_, _, _, hv⟩
        · exact ⟨_, _, _, hv⟩
      · rcases hv with ⟨C, _, _, hv⟩ | ⟨hn, p, hv⟩
        · exact ⟨_, _, _, hv⟩
        · exact ⟨_, _, _, hv⟩
    · obtain ⟨hn, _, sz, hc⟩ := hv; rw [hc, hn] at h; simp [sureSlice] at h
    · obtain ⟨q, C, hv, _, h1, h2⟩ := hv
      have hq : q ≠ none := by
        cases c with
        | known c => exact (h2 c rfl).2
        | grow sz => simp only [sureSlice, decide_eq_true_eq] at h; exact h1 h
      cases q with
      | none => exact absurd rfl hq
      | some q => exact ⟨_, _, _, hv⟩
    · exact hv.elim

theorem RPtr_some {b : Nat} {a : AAddr} {v : Value} (h : RPtr b ι a v) : ∃ p, v = .pointer (some p) := by
  unfold RPtr at h
  split at h
  · exact ⟨_, h.2⟩
  · split at h
    · exact ⟨_, h⟩
    · exact h
    · exact h.elim

theorem eqA_in {t : TypeId} {d : TypeDesc} (hd : P.underlying t = some d) {x y : AV} {r : Bool} (h : eqA d x y = some r) {u v : Value} (hu : RV w0.heap.size ι x u) (hv : RV w0.heap.size ι y v) (k : Nat) (w : World) :
    (Op.equalIn (k + 1) t u v).run P w = .ok r w := by
  unfold eqA at h
  split at h
  · injection h with h; subst h; unfold RV at hu hv; subst hu hv; simp [Op.equalIn, run_underlying hd]
  · injection h with h; subst h; unfold RV at hu hv; subst hu hv; simp [Op.equalIn, run_underlying hd]
  · split at h
    · rename_i hsu; injection h with h; subst h
      unfold RV at hu hv
      obtain ⟨q, m, C, rfl⟩ := sureSlice_not hsu hv
      subst hu; simp [Op.equalIn, run_underlying hd]
    · cases h
  · split at h
    · rename_i hsu; injection h with h; subst h
      unfold RV at hu hv
      obtain ⟨q, m, C, rfl⟩ := sureSlice_not hsu hu
      subst hv; simp [Op.equalIn, run_underlying hd]
    · cases h
  · injection h with h; subst h; unfold RV at hu hv; subst hu hv; simp [Op.equalIn, run_underlying hd]
  · injection h with h; subst h; unfold RV at hu hv; obtain ⟨p, rfl⟩ := RPtr_some hv; subst hu; simp [Op.equalIn, run_underlying hd]
  · injection h with h; subst h; unfold RV at hu hv; obtain ⟨p, rfl⟩ := RPtr_some hu; subst hv; simp [Op.equalIn, run_underlying hd]
  · cases h

theorem eqA_run {t : TypeId} {d : TypeDesc} (hd : P.underlying t = some d) {x y : AV} {r : Bool} (h : eqA d x y = some r) {u v : Value} (hu : RV w0.heap.size ι x u) (hv : RV w0.heap.size ι y v) (w : World) :
    (Op.equal t u v).run P w = .ok r w := eqA_in hd h hu hv 9999 w

/-- The first value is no number and no text: equality asks 'equal'. -/
def plainEq : Value → Bool
  | .bool _ | .slice .. | .pointer _ => true
  | _ => false

theorem eqA_plain {d : TypeDesc} {x y : AV} {r : Bool} (h : eqA d x y = some r) {u v : Value} (hu : RV w0.heap.size ι x u) (hv : RV w0.heap.size ι y v) : plainEq u = true ∧ plainEq v = true := by
  have sl : ∀ {a n c v}, RSlice w0.heap.size ι a n c v → plainEq v = true := fun {a n c v} hv => by
    unfold RSlice at hv
    split at hv
    · obtain ⟨c', _, _, ⟨_, hv⟩ | ⟨_, p, hv⟩⟩ := hv <;> (rw [hv]; rfl)
    · split at hv
      · unfold RSliceAt at hv
        split at hv
        · obtain ⟨_, hv | ⟨hc, p, hv⟩⟩ := hv <;> (rw [hv]; rfl)
        · rcases hv with ⟨C, _, _, hv⟩ | ⟨hn, p, hv⟩ <;> (rw [hv]; rfl)
      · obtain ⟨_, ⟨q, hq⟩, _⟩ := hv; rw [hq]; rfl
      · obtain ⟨q, C, hq, _⟩ := hv; rw [hq]; rfl
      · exact hv.elim
  have pt : ∀ {a v}, RPtr w0.heap.size ι a v → plainEq v = true := fun {a v} hv => by obtain ⟨p, rfl⟩ := RPtr_some hv; rfl
  unfold eqA at h
  split at h <;> unfold RV at hu hv
  all_goals first | (cases h; done) | (constructor <;> first | (subst hu; rfl) | (subst hv; rfl) | exact sl hu | exact sl hv | exact pt hu | exact pt hv)

theorem binOp_eql_plain {t : TypeId} {u v : Value} (hu : plainEq u = true) (hv : plainEq v = true) {r : Bool} (h : (Op.equal t u v).run P w = .ok r w) :
    (binOp .eql t u v).run P w = .ok (.bool r) w ∧ (binOp .neq t u v).run P w = .ok (.bool !r) w := by
  cases u <;> simp only [plainEq, Bool.false_eq_true] at hu <;> cases v <;> simp only [plainEq, Bool.false_eq_true] at hv <;> exact ⟨by simp [binOp, h], by simp [binOp, h]⟩

theorem eqGuard_plain {op : BinOp} {t : TypeId} {x y : Operand} {u v : Value} (hu : plainEq u = true) : eqGuard op t x y u v = pure () := by
  cases u <;> simp only [plainEq, Bool.false_eq_true] at hu
  · exact eqGuard_at_bool ..
  · exact eqGuard_at_pointer ..
  · exact eqGuard_at_slice ..

theorem eqFs_run {eq : TypeId → AV → AV → Option Bool} {ceq : TypeId → Value → Value → Sem Bool} {w : World} (heq : ∀ {t x y r u v}, eq t x y = some r → RV w0.heap.size ι x u → RV w0.heap.size ι y v → (ceq t u v).run P w = .ok r w)
    {xs ys : List AV} {us vs : Array Value} (hx : RVL w0.heap.size ι xs us.toList) (hy : RVL w0.heap.size ι ys vs.toList) : ∀ (l : List Field) {r : Bool}, eqFs eq P xs ys l = some r →
    (forIn l ((none : Option Bool), ()) fun (f : Field) (_ : Option Bool × Unit) => if f.name ≠ "_" then (do
          let a ← part f.type us f.offset
          let b ← part f.type vs f.offset
          let c ← ceq f.type a b
          if (!c) = true then pure (ForInStep.done (some false, ())) else pure (ForInStep.yield (none, ())) : Sem (ForInStep (Option Bool × Unit))) else pure (ForInStep.yield (none, ()))).run P w = .ok (if r then (none, ()) else (some false, ())) w := by
  intro l
  induction l with
  | nil => intro r h; simp only [eqFs] at h; injection h with h; subst h; simp
  | cons f l ih =>
    intro r h
    simp only [eqFs] at h
    rw [List.forIn_cons, Sem.run_bind]
    by_cases hn : f.name = "_"
    · rw [if_pos hn] at h
      have := ih h
      simpa [hn] using this
    · rw [if_neg hn] at h
      obtain ⟨p, hp, h⟩ := Option.bind_eq_some_iff.1 h
      obtain ⟨q, hq, h⟩ := Option.bind_eq_some_iff.1 h
      obtain ⟨b, hb, h⟩ := Option.bind_eq_some_iff.1 h
      obtain ⟨c, hc, rfl⟩ := Option.map_eq_some_iff.1 h
      obtain ⟨z1, r1, v1⟩ := partA_run (P := P) hp hx w
      obtain ⟨z2, r2, v2⟩ := partA_run (P := P) hq hy w
      have r3 := heq hb v1 v2
      have ih := ih hc
      cases b with
      | true =>
        rw [if_pos hn]
        simp only [Sem.run_bind, r1, r2, r3, Result.andThen_ok]
        simpa using ih
      | false =>
        rw [if_pos hn]
        simp only [Sem.run_bind, r1, r2, r3, Result.andThen_ok]
        simp

theorem eqEs_run {eq : AV → AV → Option Bool} {ceq : Value → Value → Sem Bool} {e : TypeId} {sz : Nat} {w : World} (heq : ∀ {x y r u v}, eq x y = some r → RV w0.heap.size ι x u → RV w0.heap.size ι y v → (ceq u v).run P w = .ok r w)
    {xs ys : List AV} {us vs : Array Value} (hx : RVL w0.heap.size ι xs us.toList) (hy : RVL w0.heap.size ι ys vs.toList) : ∀ (l : List Nat) {r : Bool}, eqEs eq P e sz xs ys l = some r →
    (forIn l ((none : Option Bool), ()) fun (i : Nat) (_ : Option Bool × Unit) => (do
          let a ← part e us (i * sz)
          let b ← part e vs (i * sz)
          let c ← ceq a b
          if (!c) = true then pure (ForInStep.done (some false, ())) else pure (ForInStep.yield (none, ())) : Sem (ForInStep (Option Bool × Unit)))).run P w = .ok (if r then (none, ()) else (some false, ())) w := by
  intro l
  induction l with
  | nil => intro r h; simp only [eqEs] at h; injection h with h; subst h; simp
  | cons f l ih =>
    intro r h
    simp only [eqEs] at h
    rw [List.forIn_cons, Sem.run_bind]
    obtain ⟨p, hp, h⟩ := Option.bind_eq_some_iff.1 h
    obtain ⟨q, hq, h⟩ := Option.bind_eq_some_iff.1 h
    obtain ⟨b, hb, h⟩ := Option.bind_eq_some_iff.1 h
    obtain ⟨c, hc, rfl⟩ := Option.map_eq_some_iff.1 h
    obtain ⟨z1, r1, v1⟩ := partA_run (P := P) hp hx w
    obtain ⟨z2, r2, v2⟩ := partA_run (P := P) hq hy w
    have r3 := heq hb v1 v2
    have ih := ih hc
    cases b with
    | true =>
      simp only [Sem.run_bind, r1, r2, r3, Result.andThen_ok]
      simpa using ih
    | false =>
      simp only [Sem.run_bind, r1, r2, r3, Result.andThen_ok]
      simp

theorem eqD_run {w : World} : ∀ (d : Nat) {t : TypeId} {x y : AV} {r : Bool} {u v : Value}, eqD P d t x y = some r → RV w0.heap.size ι x u → RV w0.heap.size ι y v → ∀ k, (Op.equalIn (d + k) t u v).run P w = .ok r w
  | 0, t, x, y, r, u, v, h, _, _, _ => by simp [eqD] at h
  | d + 1, t, x, y, r, u, v, h, hu, hv, k => by
    simp only [eqD] at h
    rw [show d + 1 + k = (d + k) + 1 by omega]
    split at h
    · rename_i hd
      injection h with h; subst h; unfold RV at hu hv; subst hu hv; simp [Op.equalIn, run_underlying hd]
    · rename_i hd
      split at h
      · rename_i hk; injection h with h; subst h hk; unfold RV at hu hv; subst hu hv; simp [Op.equalIn, run_underlying hd]
      · cases h
    · rename_i fs xs ys hd
      split at h
      · cases h
      · rename_i hst
        unfold RV at hu hv
        obtain ⟨us, rfl, hx⟩ := hu
        obtain ⟨vs, rfl, hy⟩ := hv
        have key := eqFs_run (P := P) (w := w) (eq := eqD P d) (ceq := Op.equalIn (d + k)) (fun h1 h2 h3 => eqD_run d h1 h2 h3 k) hx hy fs.toList h
        have hp : program.run P w = .ok P w := by simp
        simp only [Op.equalIn, Sem.run_bind, run_underlying hd, Result.andThen_ok]
        rw [hp, Result.andThen_ok, if_neg hst, Sem.run_bind, ← Array.forIn_toList, key, Result.andThen_ok]
        cases r <;> simp
    · rename_i n e xs ys hd
      obtain ⟨sz, hsz, h⟩ := Option.bind_eq_some_iff.1 h
      unfold RV at hu hv
      obtain ⟨us, rfl, hx⟩ := hu
      obtain ⟨vs, rfl, hy⟩ := hv
      have key := eqEs_run (P := P) (w := w) (eq := eqD P d e) (ceq := Op.equalIn (d + k) e) (fun h1 h2 h3 => eqD_run d h1 h2 h3 k) hx hy (List.range n) h
      simp only [Op.equalIn, Sem.run_bind, run_underlying hd, Result.andThen_ok]
      rw [sizeA_run hsz w, Result.andThen_ok, Std.Legacy.Range.forIn_eq_forIn_range']
      have er : List.range' ({ stop := n, step_pos := Nat.zero_lt_one } : Std.Legacy.Range).start ({ stop := n, step_pos := Nat.zero_lt_one } : Std.Legacy.Range).size ({ stop := n, step_pos := Nat.zero_lt_one } : Std.Legacy.Range).step = List.range n := by
        rw [List.range_eq_range']; simp [Std.Legacy.Range.size]
      rw [er, key, Result.andThen_ok]
      cases r <;> simp
    · cases h

theorem eqAgg_run {t : TypeId} {xs ys : List AV} {r : Bool} (h : eqAgg P t (.agg xs) (.agg ys) = some r) {u v : Value} (hu : RV w0.heap.size ι (.agg xs) u) (hv : RV w0.heap.size ι (.agg ys) v) (w : World) (ox oy : Operand) :
    (eqGuard .eql t ox oy u v).run P w = .ok () w ∧ (eqGuard .neq t ox oy u v).run P w = .ok () w ∧ (binOp .eql t u v).run P w = .ok (.bool r) w ∧ (binOp .neq t u v).run P w = .ok (.bool !r) w := by
  unfold eqAgg at h
  split at h
  · cases h
  · rename_i hg
    have he : (Op.equal t u v).run P w = .ok r w := eqD_run 6 h hu hv 9994
    unfold RV at hu hv
    obtain ⟨us, rfl, _⟩ := hu
    obtain ⟨vs, rfl, _⟩ := hv
    have hp : program.run P w = .ok P w := by simp
    refine ⟨?_, ?_, by simp [binOp, he], by simp [binOp, he]⟩
    · simp [eqGuard, hg]
    · simp [eqGuard, hg]
theorem binA_run {op : BinOp} {t : TypeId} {x y v : AV} (h : binA P op t x y = some v) {u s : Value} (hu : RV w0.heap.size ι x u) (hv : RV w0.heap.size ι y s) (ox oy : Operand) (w : World) :
    ∃ z, (do eqGuard op t ox oy u s; binOp op t u s : Sem Value).run P w = .ok z w ∧ RV w0.heap.size ι v z := by
  unfold binA at h
  split at h
  · rename_i k a k' b
    unfold RV at hu hv
    subst hu hv
    have hg : eqGuard op t ox oy (.int k a) (.int k' b) = pure () := eqGuard_at_int ..
    rw [hg]
    split at h
    · exact shiftA_run (k' := k') h t w
    · exact shiftA_run (k' := k') h t w
    · rename_i hs hs'
      split at h
      · rename_i hk
        subst hk
        exact intOpA_run h t w hs hs'
      · cases h
  · unfold RV at hu hv
    subst hu hv
    rename_i a b
    have hg : eqGuard op t ox oy (.string a) (.string b) = pure () := eqGuard_at_string ..
    rw [hg]
    exact strOpA_run h t w
  · split at h
    · obtain ⟨r, hr, rfl⟩ := Option.map_eq_some_iff.1 h
      obtain ⟨h1, h2, h3, h4⟩ := eqAgg_run hr hu hv w ox oy
      exact ⟨.bool r, by simp [h1, h3], by unfold RV; rfl⟩
    · obtain ⟨r, hr, rfl⟩ := Option.map_eq_some_iff.1 h
      obtain ⟨h1, h2, h3, h4⟩ := eqAgg_run hr hu hv w ox oy
      exact ⟨.bool !r, by simp [h2, h4], by unfold RV; rfl⟩
    · cases h
  · split at h
    · cases hd : P.underlying t with
      | none => rw [hd] at h; cases h
      | some d =>
        rw [hd] at h
        simp only [Option.bind_some] at h
        cases he : eqA d x y with
        | none => rw [he] at h; cases h
        | some r =>
          rw [he] at h
          injection h with h
          subst h
          obtain ⟨p1, p2⟩ := eqA_plain he hu hv
          rw [eqGuard_plain p1]
          exact ⟨.bool r, (binOp_eql_plain p1 p2 (eqA_run hd he hu hv w)).1, rfl⟩
    · cases hd : P.underlying t with
      | none => rw [hd] at h; cases h
      | some d =>
        rw [hd] at h
        simp only [Option.bind_some] at h
        cases he : eqA d x y with
        | none => rw [he] at h; cases h
        | some r =>
          rw [he] at h
          injection h with h
          subst h
          obtain ⟨p1, p2⟩ := eqA_plain he hu hv
          rw [eqGuard_plain p1]
          exact ⟨.bool !r, (binOp_eql_plain p1 p2 (eqA_run hd he hu hv w)).2, rfl⟩
    · cases h

theorem unA_run {op : UnOp} {x v : AV} (h : unA op x = some v) {u : Value} (hu : RV w0.heap.size ι x u) (w : World) : ∃ z, (Op.unary op u).run P w = .ok z w ∧ RV w0.heap.size ι v z := by
  unfold unA at h
  split at h
  · unfold RV at hu; subst hu; simp only [intOpA] at h; injection h with h; subst h; exact ⟨_, rfl, rfl⟩
  · unfold RV at hu; subst hu; simp only [intOpA] at h; injection h with h; subst h; exact ⟨_, rfl, rfl⟩
  · unfold RV at hu; subst hu; injection h with h; subst h; exact ⟨_, rfl, rfl⟩
  · cases h

/-! bounds -/
theorem boundA_run {v : AV} {y n : Nat} (h : boundA v y = some n) {u : Value} (hu : RV w0.heap.size ι v u) (code : BoundsCode) {y' : Nat} (hy : y ≤ y') (w : World) :
    (Instr.sliceBound u y' code).run P w = .ok n w ∧ n ≤ y := by
  unfold boundA at h
  split at h
  · rename_i k i
    unfold RV at hu
    subst hu
    split at h
    · rename_i hi
      injection h with h
      subst h
      refine ⟨?_, by omega⟩
      have h2 : i ≤ (y' : Int) := by omega
      simp [Instr.sliceBound, asIntOf, hi.1, h2]
    · cases h
  · cases h

/-- An operand that may be missing. -/
def ROpt (b : Nat) (ι : List Loc) : Option AV → Option Value → Prop
  | none, v => v = none
  | some x, v => ∃ u, v = some u ∧ RV b ι x u

theorem cutKnown_run {a : AAddr} {sz n c c' : Nat} {lo hi mx : Option AV} {v : AV} (h : cutKnown a sz n c lo hi mx = some v) (hc : c' = c) {lo' hi' mx' : Option Value}
    (hlo : ROpt w0.heap.size ι lo lo') (hhi : ROpt w0.heap.size ι hi hi') (hmx : ROpt w0.heap.size ι mx mx') (hn : n ≤ c) (isS : Bool) (w : World) :
    ∃ l h' m, (Instr.sliceBounds isS n c' lo' hi' mx').run P w = .ok (l, h', m) w ∧ l ≤ h' ∧ h' ≤ m ∧ m ≤ c ∧ v = cutA a sz l h' m ∧ optB mx c c = some m ∧ optB hi m n = some h' ∧ optB lo h' 0 = some l := by
  subst hc
  unfold cutKnown at h
  cases hm : optB mx c' c' with
  | none => rw [hm] at h; cases h
  | some m =>
    rw [hm] at h
    simp only [Option.bind_some] at h
    split at h
    · cases h
    · rename_i hg
      cases hh : optB hi m n with
      | none => rw [hh] at h; cases h
      | some hh' =>
        rw [hh] at h
        simp only [Option.bind_some] at h
        cases hl : optB lo hh' 0 with
        | none => rw [hl] at h; cases h
        | some l =>
          rw [hl] at h
          injection h with h
          have hm0 := hm
          have hh0 := hh
          have hl0 := hl
          refine ⟨l, hh', m, ?_⟩
          cases mx with
          | none =>
            simp only [ROpt] at hmx
            subst hmx
            simp only [optB] at hm
            injection hm with hm
            subst hm
            cases hi with
            | none =>
              simp only [ROpt] at hhi
              subst hhi
              simp only [optB] at hh
              injection hh with hh
              subst hh
              cases lo with
              | none =>
                simp only [ROpt] at hlo
                subst hlo
                simp only [optB] at hl
                injection hl with hl
                subst hl
                exact ⟨by simp [Instr.sliceBounds], by omega, hn, Nat.le_refl _, h.symm, hm0, hh0, hl0⟩
              | some lo =>
                obtain ⟨u, rfl, hu⟩ := hlo
                simp only [optB] at hl
                obtain ⟨r, hle⟩ := boundA_run (P := P) hl hu (if (none : Option Value).isSome then BoundsCode.slice3C else .sliceB) (Nat.le_refl _) w
                exact ⟨by simp at r; simp [Instr.sliceBounds, r], hle, hn, Nat.le_refl _, h.symm, hm0, hh0, hl0⟩
            | some hi =>
              obtain ⟨uh, rfl, huh⟩ := hhi
              simp only [optB] at hh
              obtain ⟨rh, hleh⟩ := boundA_run (P := P) hh huh (if isS then BoundsCode.sliceAcap else .sliceAlen) (Nat.le_refl _) w
              cases lo with
              | none =>
                simp only [ROpt] at hlo
                subst hlo
                simp only [optB] at hl
                injection hl with hl
                subst hl
                exact ⟨by simp [Instr.sliceBounds, rh], by omega, hleh, Nat.le_refl _, h.symm, hm0, hh0, hl0⟩
              | some lo =>
                obtain ⟨u, rfl, hu⟩ := hlo
                simp only [optB] at hl
                obtain ⟨r, hle⟩ := boundA_run (P := P) hl hu (if (none : Option Value).isSome then BoundsCode.slice3C else .sliceB) (Nat.le_refl _) w
                exact ⟨by simp at r; simp [Instr.sliceBounds, rh, r], hle, hleh, Nat.le_refl _, h.symm, hm0, hh0, hl0⟩
          | some mx =>
            obtain ⟨um, rfl, hum⟩ := hmx
            simp only [optB] at hm
            obtain ⟨rm, hlem⟩ := boundA_run (P := P) hm hum (if isS then BoundsCode.slice3Acap else .slice3Alen) (Nat.le_refl _) w
            cases hi with
            | none => simp at hg
            | some hi =>
              obtain ⟨uh, rfl, huh⟩ := hhi
              simp only [optB] at hh
              obtain ⟨rh, hleh⟩ := boundA_run (P := P) hh huh BoundsCode.slice3B (Nat.le_refl _) w
              cases lo with
              | none =>
                simp only [ROpt] at hlo
                subst hlo
                simp only [optB] at hl
                injection hl with hl
                subst hl
                exact ⟨by simp [Instr.sliceBounds, rm, rh], by omega, hleh, hlem, h.symm, rfl, hh0, hl0⟩
              | some lo =>
                obtain ⟨u, rfl, hu⟩ := hlo
                simp only [optB] at hl
                obtain ⟨r, hle⟩ := boundA_run (P := P) hl hu BoundsCode.slice3C (Nat.le_refl _) w
                exact ⟨by simp [Instr.sliceBounds, rm, rh, r], hle, hleh, hlem, h.symm, rfl, hh0, hl0⟩

/-- A cut of something that lies at a place. -/
theorem cutA_rel {a : AAddr} {sz l h m : Nat} (hlh : l ≤ h) (hhm : h ≤ m) {q : Addr}
    (hp : RPtr w0.heap.size ι a (.pointer (some q))) : RV w0.heap.size ι (cutA a sz l h m) (.slice (if m = l then some q else some (q.add (l * sz))) (h - l) (m - l)) := by
  have hro : (if m = l then a else ⟨a.ro, a.blk, a.off + l * sz⟩ : AAddr).ro = a.ro := by split <;> rfl
  have hb : (if m = l then a else ⟨a.ro, a.blk, a.off + l * sz⟩ : AAddr).blk = a.blk := by split <;> rfl
  unfold cutA RV RSlice
  unfold RPtr at hp
  rw [hro, hb]
  by_cases hr : a.ro = true
  · rw [if_pos hr] at hp ⊢
    obtain ⟨h1, h2⟩ := hp
    injection h2 with h2
    injection h2 with h2
    subst h2
    refine ⟨m - l, rfl, by omega, .inl ⟨h1, ?_⟩⟩
    by_cases e : m = l
    · rw [if_pos e, if_pos e]
    · rw [if_neg e, if_neg e, Addr.add_lit]
  · rw [if_neg hr] at hp ⊢
    cases hι : ι[a.blk]? with
    | none => rw [hι] at hp; exact hp.elim
    | some L =>
      rw [hι] at hp
      cases L with
      | dead =>
        refine ⟨_, _, rfl, by omega, fun _ => ?_, fun c' hc' => ⟨by injection hc', ?_⟩⟩
        · split <;> (intro h; cases h)
        · split <;> (intro h; cases h)
      | pend => exact hp.elim
      | nil => exact hp.elim
      | «at» B O m' =>
        simp only at hp
        injection hp with hp
        injection hp with hp
        subst hp
        refine ⟨by omega, .inl ?_⟩
        by_cases e : m = l
        · rw [if_pos e, if_pos e]
        · rw [if_neg e, if_neg e, Addr.add_lit, Nat.add_assoc]

theorem sliceOpA_run {t : TypeId} {x v : AV} {lo hi mx : Option AV} (h : sliceOpA P t x lo hi mx = some v) {u : Value} {lo' hi' mx' : Option Value} (hu : RV w0.heap.size ι x u)
    (hlo : ROpt w0.heap.size ι lo lo') (hhi : ROpt w0.heap.size ι hi hi') (hmx : ROpt w0.heap.size ι mx mx') (w : World) :
    ∃ z, (Instr.sliceAt t u lo' hi' mx').run P w = .ok z w ∧ RV w0.heap.size ι v z := by
  unfold sliceOpA at h
  split at h
  · -- a slice of known room
    rename_i e a n c hd
    cases hs : sizeA P e with
    | none => rw [hs] at h; cases h
    | some sz =>
      rw [hs] at h
      simp only [Option.bind_some] at h
      unfold RV RSlice at hu
      have fin : ∀ (q : Option Addr) (C : Nat), u = .slice q n C → C = c → n ≤ c →
          (∀ l h' m, l ≤ h' → h' ≤ m → m ≤ c → RV w0.heap.size ι (cutA a sz l h' m) (.slice (if m = l then q else q.map (·.add (l * sz))) (h' - l) (m - l))) →
          ∃ z, (Instr.sliceAt t u lo' hi' mx').run P w = .ok z w ∧ RV w0.heap.size ι v z := fun q C hu' hC hn hrel => by
        subst hu'
        obtain ⟨l, h', m, r1, r2, r3, r4, rfl, _⟩ := cutKnown_run (P := P) h hC hlo hhi hmx hn true w
        exact ⟨_, by simp [Instr.sliceAt, Instr.slice, run_underlying hd, r1, sizeA_run hs], hrel l h' m r2 r3 r4⟩
      by_cases hr : a.ro = true
      · rw [if_pos hr] at hu
        obtain ⟨c', hc', hn, hu⟩ := hu
        injection hc' with hc'
        subst hc'
        rcases hu with ⟨hB, hu⟩ | ⟨hc0, p, hu⟩
        · refine fin _ _ hu rfl hn fun l h' m h1 h2 h3 => ?_
          exact cutA_rel h1 h2 (by unfold RPtr; rw [if_pos hr]; exact ⟨hB, rfl⟩)
        · have hn0 : n = 0 := by omega
          refine fin (some p) 0 (by rw [hn0]; exact hu) hc0.symm hn fun l h' m h1 h2 h3 => ?_
          have e1 : m = 0 := by omega
          have e2 : h' = 0 := by omega
          have e3 : l = 0 := by omega
          subst e1 e2 e3
          unfold cutA RV RSlice
          simp only [if_true]
          rw [if_pos hr]
          exact ⟨0, rfl, Nat.le_refl _, .inr ⟨rfl, p, rfl⟩⟩
      · rw [if_neg hr] at hu
        split at hu
        · rename_i B O m' hι
          obtain ⟨hn, hu | ⟨hc, p, hu⟩⟩ := hu
          · refine fin _ _ hu rfl hn fun l h' m h1 h2 h3 => ?_
            exact cutA_rel h1 h2 (by unfold RPtr; rw [if_neg hr, hι])
          · have hn0 : n = 0 := by omega
            refine fin (some p) 0 (by rw [hn0]; exact hu) hc.symm hn fun l h' m h1 h2 h3 => ?_
            have e1 : m = 0 := by omega
            have e2 : h' = 0 := by omega
            have e3 : l = 0 := by omega
            subst e1 e2 e3
            unfold cutA RV RSlice
            simp only [if_true]
            rw [if_neg hr, hι]
            exact ⟨by omega, .inr ⟨rfl, p, rfl⟩⟩
        · obtain ⟨_, _, sz', hc⟩ := hu; cases hc
        · rename_i hι
          obtain ⟨q, C, hu, hnC, h1, h2⟩ := hu
          obtain ⟨h3, h4⟩ := h2 c rfl
          refine fin _ _ hu h3 (by omega) fun l h' m g1 g2 g3 => ?_
          unfold cutA RV RSlice
          have hr' : ¬ (if m = l then a else ⟨a.ro, a.blk, a.off + l * sz⟩ : AAddr).ro = true := by split <;> exact hr
          have hb : (if m = l then a else ⟨a.ro, a.blk, a.off + l * sz⟩ : AAddr).blk = a.blk := by split <;> rfl
          rw [if_neg hr', hb, hι]
          have hne : (if m = l then q else q.map (·.add (l * sz))) ≠ none := by
            split
            · exact h4
            · cases q with
              | none => exact absurd rfl h4
              | some q => intro h; cases h
          exact ⟨_, _, rfl, by omega, fun _ => hne, fun c' hc' => ⟨by injection hc', hne⟩⟩
        · exact hu.elim
  · -- a slice that has grown
    rename_i e a n sz' hd
    cases hs : sizeA P e with
    | none => rw [hs] at h; cases h
    | some sz =>
      rw [hs] at h
      simp only [Option.bind_some] at h
      split at h
      · rename_i hh
        obtain ⟨rfl, hro⟩ := hh
        have hr : ¬ a.ro = true := by rw [hro]; simp
        unfold RV RSlice at hu
        rw [if_neg hr] at hu
        split at h
        · -- no max
          simp only [ROpt] at hmx
          subst hmx
          cases hh : optB hi n n with
          | none => rw [hh] at h; cases h
          | some h' =>
            rw [hh] at h
            simp only [Option.bind_some] at h
            cases hl : optB lo h' 0 with
            | none => rw [hl] at h; cases h
            | some l =>
              rw [hl] at h
              injection h with h
              subst h
              have bounds : ∀ C, n ≤ C → (Instr.sliceBounds true n C lo' hi' none).run P w = .ok (l, h', C) w ∧ l ≤ h' ∧ h' ≤ n := fun C hC => by
                cases hi with
                | none =>
                  simp only [ROpt] at hhi
                  subst hhi
                  simp only [optB] at hh
                  injection hh with hh
                  subst hh
                  cases lo with
                  | none =>
                    simp only [ROpt] at hlo
                    subst hlo
                    simp only [optB] at hl
                    injection hl with hl
                    subst hl
                    exact ⟨by simp [Instr.sliceBounds], by omega, Nat.le_refl _⟩
                  | some lo =>
                    obtain ⟨ul, rfl, hul⟩ := hlo
                    simp only [optB] at hl
                    obtain ⟨r, hle⟩ := boundA_run (P := P) hl hul BoundsCode.sliceB (Nat.le_refl _) w
                    exact ⟨by simp [Instr.sliceBounds, r], hle, Nat.le_refl _⟩
                | some hi =>
                  obtain ⟨uh, rfl, huh⟩ := hhi
                  simp only [optB] at hh
                  obtain ⟨rh, hleh⟩ := boundA_run (P := P) hh huh BoundsCode.sliceAcap hC w
                  cases lo with
                  | none =>
                    simp only [ROpt] at hlo
                    subst hlo
                    simp only [optB] at hl
                    injection hl with hl
                    subst hl
                    exact ⟨by simp [Instr.sliceBounds, rh], by omega, hleh⟩
                  | some lo =>
                    obtain ⟨ul, rfl, hul⟩ := hlo
                    simp only [optB] at hl
                    obtain ⟨r, hle⟩ := boundA_run (P := P) hl hul BoundsCode.sliceB (Nat.le_refl _) w
                    exact ⟨by simp [Instr.sliceBounds, rh, r], hle, hleh⟩
              split at hu
              · rename_i B O m hι
                rcases hu with ⟨C, hnC, hroom, hu⟩ | ⟨hn0, p, hu⟩
                · obtain ⟨r1, r2, r3⟩ := bounds C hnC
                  subst hu
                  refine ⟨_, by simp [Instr.sliceAt, Instr.slice, run_underlying hd, r1, sizeA_run hs]; rfl, ?_⟩
                  unfold RV RSlice
                  rw [if_neg (by simp), hι]
                  by_cases hCl : C = l
                  · have e1 : h' = l := by omega
                    refine .inr ⟨by omega, ⟨B, O + a.off, none⟩, ?_⟩
                    rw [if_pos hCl, hCl, e1]
                    simp
                  · refine .inl ⟨C - l, by omega, ?_, ?_⟩
                    · have : l * sz' + (C - l) * sz' = C * sz' := by rw [← Nat.add_mul]; congr 1; omega
                      simp only
                      omega
                    · rw [if_neg hCl]
                      simp only [Addr.add_lit, Nat.add_assoc]
                · obtain ⟨r1, r2, r3⟩ := bounds 0 (by omega)
                  have e1 : h' = 0 := by omega
                  have e2 : l = 0 := by omega
                  subst e1 e2 hn0 hu
                  refine ⟨_, by simp [Instr.sliceAt, Instr.slice, run_underlying hd, r1, sizeA_run hs]; rfl, ?_⟩
                  unfold RV RSlice
                  rw [if_neg (by simp), hι]
                  exact .inr ⟨rfl, p, by simp⟩
              · rename_i hι
                obtain ⟨hn0, ⟨q, hq⟩, _⟩ := hu
                obtain ⟨r1, r2, r3⟩ := bounds 0 (by omega)
                have e1 : h' = 0 := by omega
                have e2 : l = 0 := by omega
                subst e1 e2 hn0 hq
                refine ⟨_, by simp [Instr.sliceAt, Instr.slice, run_underlying hd, r1, sizeA_run hs]; rfl, ?_⟩
                unfold RV RSlice
                rw [if_neg (by simp), hι]
                exact ⟨rfl, ⟨q, by simp⟩, _, rfl⟩
              · rename_i hι
                obtain ⟨q, C, hu, hnC, h1, h2⟩ := hu
                obtain ⟨r1, r2, r3⟩ := bounds C hnC
                subst hu
                refine ⟨_, by simp [Instr.sliceAt, Instr.slice, run_underlying hd, r1, sizeA_run hs]; rfl, ?_⟩
                unfold RV RSlice
                rw [if_neg (by simp), hι]
                refine ⟨_, _, rfl, by omega, fun hp => ?_, fun c' hc' => by cases hc'⟩
                have := h1 (by omega)
                split
                · exact this
                · cases q with
                  | none => exact absurd rfl this
                  | some q => intro h; cases h
              · exact hu.elim
        · -- with a max
          rename_i mxv
          split at h
          · rename_i hn
            obtain ⟨um, rfl, hum⟩ := hmx
            cases hm : optB (some mxv) n n with
            | none => rw [hm] at h; cases h
            | some m =>
              rw [hm] at h
              simp only [Option.bind_some] at h
              cases hi with
              | none => simp at h
              | some hi =>
                simp only [Option.isNone_some, Bool.false_eq_true, if_false] at h
                cases hh : optB (some hi) m n with
                | none => rw [hh] at h; cases h
                | some h' =>
                  rw [hh] at h
                  simp only [Option.bind_some] at h
                  cases hl : optB lo h' 0 with
                  | none => rw [hl] at h; cases h
                  | some l =>
                    rw [hl] at h
                    injection h with h
                    subst h
                    obtain ⟨uh, rfl, huh⟩ := hhi
                    simp only [optB] at hm hh
                    have bounds : ∀ C, n ≤ C → (Instr.sliceBounds true n C lo' (some uh) (some um)).run P w = .ok (l, h', m) w ∧ l ≤ h' ∧ h' ≤ m ∧ m ≤ n := fun C hC => by
                      obtain ⟨rm, hlem⟩ := boundA_run (P := P) hm hum BoundsCode.slice3Acap hC w
                      obtain ⟨rh, hleh⟩ := boundA_run (P := P) hh huh BoundsCode.slice3B (Nat.le_refl _) w
                      cases lo with
                      | none =>
                        simp only [ROpt] at hlo
                        subst hlo
                        simp only [optB] at hl
                        injection hl with hl
                        subst hl
                        exact ⟨by simp [Instr.sliceBounds, rm, rh], by omega, hleh, hlem⟩
                      | some lo =>
                        obtain ⟨ul, rfl, hul⟩ := hlo
                        simp only [optB] at hl
                        obtain ⟨r, hle⟩ := boundA_run (P := P) hl hul BoundsCode.slice3C (Nat.le_refl _) w
                        exact ⟨by simp [Instr.sliceBounds, rm, rh, r], hle, hleh, hlem⟩
                    split at hu
                    · rename_i B O m' hι
                      rcases hu with ⟨C, hnC, hroom, hu⟩ | ⟨hn0, p, hu⟩
                      · obtain ⟨r1, r2, r3, r4⟩ := bounds C hnC
                        subst hu
                        refine ⟨_, by simp [Instr.sliceAt, Instr.slice, run_underlying hd, r1, sizeA_run hs]; rfl, ?_⟩
                        have := cutA_rel (w0 := w0) (ι := ι) (a := a) (sz := sz') r2 r3 (q := ⟨B, O + a.off, none⟩) (by unfold RPtr; rw [if_neg hr, hι])
                        simpa using this
                      · omega
                    · omega
                    · rename_i hι
                      obtain ⟨q, C, hu, hnC, h1, h2⟩ := hu
                      obtain ⟨r1, r2, r3, r4⟩ := bounds C hnC
                      have hqn := h1 hn
                      cases q with
                      | none => exact absurd rfl hqn
                      | some q =>
                        subst hu
                        refine ⟨_, by simp [Instr.sliceAt, Instr.slice, run_underlying hd, r1, sizeA_run hs]; rfl, ?_⟩
                        unfold cutA RV RSlice
                        have hr' : ¬ (if m = l then a else ⟨a.ro, a.blk, a.off + l * sz'⟩ : AAddr).ro = true := by split <;> exact hr
                        have hb : (if m = l then a else ⟨a.ro, a.blk, a.off + l * sz'⟩ : AAddr).blk = a.blk := by split <;> rfl
                        rw [if_neg hr', hb, hι]
                        have hne : (if m = l then some q else some (q.add (l * sz'))) ≠ none := by split <;> (intro h; cases h)
                        exact ⟨_, _, rfl, by omega, fun _ => by simpa using hne, fun c' hc' => ⟨by injection hc', by simpa using hne⟩⟩
                    · exact hu.elim
          · cases h
      · cases h
  · -- nil
    rename_i e hd
    unfold RV at hu
    subst hu
    have hz : ∀ {o : Option AV} {o' : Option Value} {k : Nat}, ROpt w0.heap.size ι o o' → optB o 0 0 = some k → k = 0 ∧ ∀ code, (match o' with | some v => Instr.sliceBound v 0 code | none => pure 0 : Sem Nat).run P w = .ok 0 w := by
      intro o o' k ho hk
      cases o with
      | none =>
        simp only [ROpt] at ho
        subst ho
        simp only [optB] at hk
        injection hk with hk
        exact ⟨hk.symm, fun _ => rfl⟩
      | some o =>
        obtain ⟨u, rfl, hu⟩ := ho
        simp only [optB] at hk
        have := (boundA_run (P := P) hk hu .sliceB (Nat.le_refl _) w).2
        have hk0 : k = 0 := by omega
        subst hk0
        exact ⟨rfl, fun code => (boundA_run (P := P) hk hu code (Nat.le_refl _) w).1⟩
    cases hs : sizeA P e with
    | none => rw [hs] at h; cases h
    | some sz =>
    rw [hs] at h
    simp only [Option.bind_some] at h
    cases hm : optB mx 0 0 with
    | none => rw [hm] at h; cases h
    | some m =>
      rw [hm] at h
      simp only [Option.bind_some] at h
      obtain ⟨rfl, rm⟩ := hz hmx hm
      split at h
      · cases h
      · rename_i hg
        cases hh : optB hi 0 0 with
        | none => rw [hh] at h; cases h
        | some h' =>
          rw [hh] at h
          simp only [Option.bind_some] at h
          obtain ⟨rfl, rh⟩ := hz hhi hh
          cases hl : optB lo 0 0 with
          | none => rw [hl] at h; cases h
          | some l =>
            rw [hl] at h
            injection h with h
            subst h
            obtain ⟨rfl, rl⟩ := hz hlo hl
            have hck : cutKnown ⟨true, 0, 0⟩ 0 0 0 lo hi mx = some (cutA ⟨true, 0, 0⟩ 0 0 0 0) := by
              unfold cutKnown
              rw [hm]
              simp only [Option.bind_some]
              rw [if_neg hg, hh]
              simp only [Option.bind_some]
              rw [hl]; rfl
            obtain ⟨l', h'', m', r1, r2, r3, r4, _⟩ := cutKnown_run (P := P) hck rfl hlo hhi hmx (Nat.le_refl _) true w
            have e1 : m' = 0 := by omega
            have e2 : h'' = 0 := by omega
            have e3 : l' = 0 := by omega
            subst e1 e2 e3
            exact ⟨.slice none 0 0, by simp [Instr.sliceAt, Instr.slice, run_underlying hd, r1, sizeA_run hs], rfl⟩
  · -- an array
    rename_i n e a hd
    cases hs : sizeA P e with
    | none => rw [hs] at h; cases h
    | some sz =>
      rw [hs] at h
      simp only [Option.bind_some] at h
      unfold RV at hu
      obtain ⟨l, h', m, r1, r2, r3, r4, rfl, _⟩ := cutKnown_run (P := P) h rfl hlo hhi hmx (Nat.le_refl _) false w
      obtain ⟨q, rfl⟩ := RPtr_some hu
      refine ⟨_, by simp [Instr.sliceAt, Instr.sureAddr, run_underlying hd, r1, sizeA_run hs]; rfl, ?_⟩
      have := cutA_rel (w0 := w0) (ι := ι) (a := a) (sz := sz) r2 r3 hu
      by_cases e : m = l
      · rw [if_pos e] at this ⊢; exact this
      · rw [if_neg e] at this ⊢; exact this
  · -- a text
    rename_i s hd
    unfold RV at hu
    subst hu
    split at h
    · cases h
    · rename_i hmn
      cases mx with
      | some mx => simp at hmn
      | none =>
        simp only [ROpt] at hmx
        subst hmx
        cases hh : optB hi s.size s.size with
        | none => rw [hh] at h; cases h
        | some h' =>
          rw [hh] at h
          simp only [Option.bind_some] at h
          cases hl : optB lo h' 0 with
          | none => rw [hl] at h; cases h
          | some l =>
            rw [hl] at h
            injection h with h
            subst h
            have hck : cutKnown ⟨true, 0, 0⟩ 0 s.size s.size lo hi none = some (cutA ⟨true, 0, 0⟩ 0 l h' s.size) := by
              unfold cutKnown
              rw [show optB none s.size s.size = some s.size from rfl]
              simp only [Option.bind_some, Option.isSome_none, Bool.false_and, Bool.false_eq_true, if_false]
              rw [hh]
              simp only [Option.bind_some]
              rw [hl]; rfl
            obtain ⟨l', h'', m', r1, r2, r3, r4, _, s1, s2, s3⟩ := cutKnown_run (P := P) hck rfl hlo hhi (show ROpt w0.heap.size ι none none from rfl) (Nat.le_refl _) false w
            simp only [optB] at s1
            injection s1 with s1
            subst s1
            rw [hh] at s2
            injection s2 with s2
            subst s2
            rw [hl] at s3
            injection s3 with s3
            subst s3
            exact ⟨_, by simp [Instr.sliceAt, Instr.slice, run_underlying hd, r1], rfl⟩
  · -- a pointer to an array
    rename_i arr a hd
    split at h
    · rename_i n e hda
      cases hs : sizeA P e with
      | none => rw [hs] at h; cases h
      | some sz =>
        rw [hs] at h
        simp only [Option.bind_some] at h
        unfold RV at hu
        obtain ⟨l, h', m, r1, r2, r3, r4, rfl, _⟩ := cutKnown_run (P := P) h rfl hlo hhi hmx (Nat.le_refl _) false w
        obtain ⟨q, rfl⟩ := RPtr_some hu
        refine ⟨_, by simp [Instr.sliceAt, Instr.slice, asAddr, run_underlying hd, run_underlying hda, r1, sizeA_run hs]; rfl, ?_⟩
        have := cutA_rel (w0 := w0) (ι := ι) (a := a) (sz := sz) r2 r3 hu
        by_cases e : m = l
        · rw [if_pos e] at this ⊢; exact this
        · rw [if_neg e] at this ⊢; exact this
    · cases h
  · cases h

end Go.Abs
