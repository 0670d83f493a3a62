/- A region that draws its order, for simp. -/
import Derived.Test.YtickckpndpeppaaA19
set_option linter.unusedVariables false
set_option linter.unusedSimpArgs false
namespace Go.Abs
open Go Go.RowKit

/-- The value is spelt alike, here and in every memory that may come while the region runs. -/
def rigR (R : AH → Prop) (H : AH) (v : AV) : Prop := rigidA H v = true ∧ ∀ H', R H' → H'.ro = H.ro → rigidA H' v = true
theorem rig_int {R : AH → Prop} {H : AH} {k : IntKind} {n : Int} : rigR R H (.int k n) = True := by simp [rigR, rigidA]
theorem rig_bool {R : AH → Prop} {H : AH} {b : Bool} : rigR R H (.bool b) = True := by simp [rigR, rigidA]
theorem rig_str {R : AH → Prop} {H : AH} {b : ByteArray} : rigR R H (.str b) = True := by simp [rigR, rigidA]
theorem rig_nilptr {R : AH → Prop} {H : AH} : rigR R H .nilptr = True := by simp [rigR, rigidA]
theorem rig_nilslice {R : AH → Prop} {H : AH} : rigR R H .nilslice = True := by simp [rigR, rigidA]
theorem rig_ro {R : AH → Prop} {H : AH} {b o : Nat} : rigR R H (.ptr ⟨true, b, o⟩) = True := by simp [rigR, rigidA]
theorem rig_bv {R : AH → Prop} {H : AH} {b : UInt8} : rigR R H (bv b) = True := rig_int
theorem rig_agg {R : AH → Prop} {H : AH} {l : List AV} (h : plainL l = true) : rigR R H (.agg l) = True := by simp [rigR, rigidA, h]
theorem rig_ptr {R : AH → Prop} {H : AH} {i o : Nat} (h : (H.cells? i).isSome = true) (h' : ∀ H', R H' → (H'.cells? i).isSome = true) : rigR R H (.ptr ⟨false, i, o⟩) := by
  refine ⟨by simpa [rigidA] using h, fun H' hR _ => by simpa [rigidA] using h' H' hR⟩
theorem rig_slice {R : AH → Prop} {H : AH} {i o n c : Nat} (hc : 0 < c) (h : (H.cells? i).isSome = true) (h' : ∀ H', R H' → (H'.cells? i).isSome = true) : rigR R H (.slice ⟨false, i, o⟩ n (.known c)) := by
  refine ⟨by simpa [rigidA, hc] using h, fun H' hR _ => by simpa [rigidA, hc] using h' H' hR⟩

section
variable {P : Program} {ops : Array Oper} {R : AH → Prop} {Q : AFr → AH → Prop} {rest : List (Option Oper × Bool)} {fr : AFr} {H : AH} {ty : TypeId} {ps : String} {af : Array Edge} {d : Tmp}

theorem DO_nil : DOps P ops R Q [] fr H = Q fr H := nr rfl
theorem DO_false {o : Oper} : DOps P ops R Q ((some o, false) :: rest) fr H = AOps P ops (fun fr' H' => R H' ∧ DOps P ops R Q rest fr' H') [o] fr H := nr rfl
theorem DO_guard {d : Option Tmp} {op : Op} {j : Nat} {want : Bool} : DOps P ops R Q ((some ⟨d, op, ty, ps, af, some (j, want)⟩, true) :: rest) fr H = ifG (match (ops[j]?).bind (·.dst) with | some d => (match lget fr d with | .bool b => some (b == want) | .tup [] => some false | _ => none) | none => none) (DOps P ops R Q rest (putA fr d (.tup [])) H) (DOps P ops R Q ((some ⟨d, op, ty, ps, af, none⟩, true) :: rest) fr H) := by
  simp only [DOps, guardA, ifG]
  rfl
theorem DO_plain {op : Op} : DOps P ops R Q ((some ⟨some d, op, ty, ps, af, none⟩, true) :: rest) fr H = opThen (opA P fr H op) fun v _ => StillAt P R fr H op v ∧ DOps P ops R Q rest (lput fr d v) H := by
  simp only [DOps, guardA, ifG, putA]
theorem DO_move {x : Operand} : DOps P ops R Q ((some ⟨some d, .move x, ty, ps, af, none⟩, true) :: rest) fr H = DOps P ops R Q rest (lput fr d (aeval fr x)) H := by
  rw [DO_plain]; simp [opA, opThen, StillAt, copyOp]
theorem DO_assign {x : Operand} : DOps P ops R Q ((some ⟨some d, .assign x, ty, ps, af, none⟩, true) :: rest) fr H = DOps P ops R Q rest (lput fr d (aeval fr x)) H := by
  rw [DO_plain]; simp [opA, opThen, StillAt, copyOp]
theorem still_copy {op : Op} {v : AV} (h : copyOp op = true) : StillAt P R fr H op v = True := by simp [StillAt, h]
theorem DO_pick {c x y : Operand} : DOps P ops R Q ((some ⟨some d, .pick c x y, ty, ps, af, none⟩, true) :: rest) fr H = opThen (match aeval fr c with | .bool t => some (if t then aeval fr x else aeval fr y, H) | _ => none) fun v _ => DOps P ops R Q rest (lput fr d v) H := by
  rw [DO_plain]; simp only [still_copy (show copyOp (.pick c x y) = true from rfl), true_and, opA]; rfl
theorem DO_extract {x : Operand} {n : Nat} : DOps P ops R Q ((some ⟨some d, .extract x n, ty, ps, af, none⟩, true) :: rest) fr H = opThen (match aeval fr x with | .tup l => (l[n]?).map fun v => (v, H) | _ => none) fun v _ => DOps P ops R Q rest (lput fr d v) H := by
  rw [DO_plain]; simp only [still_copy (show copyOp (.extract x n) = true from rfl), true_and, opA]; rfl

/-- An operation whose value hangs on no memory. -/
theorem DO_pure {op : Op} (f : Option AV) (h1 : copyOp op = false) (h2 : stillOp op = true) (h3 : ∀ v, convOk op v = true) (hf : ∀ H, opA P fr H op = f.map fun v => (v, H)) :
    DOps P ops R Q ((some ⟨some d, op, ty, ps, af, none⟩, true) :: rest) fr H = opThen (f.map fun v => (v, H)) fun v _ => rigR R H v ∧ DOps P ops R Q rest (lput fr d v) H := by
  rw [DO_plain, hf H]
  cases f with
  | none => rfl
  | some v =>
    simp only [Option.map_some, opThen, StillAt, h1, h2, h3, Bool.false_eq_true, false_or, true_and, rigR, hf, Option.map_some]
theorem DO_binOp {op : BinOp} {t t2 : TypeId} {x y : Operand} : DOps P ops R Q ((some ⟨some d, .binOp op t x y t2, ty, ps, af, none⟩, true) :: rest) fr H = opThen ((binA P op t (aeval fr x) (aeval fr y)).map fun v => (v, H)) fun v _ => rigR R H v ∧ DOps P ops R Q rest (lput fr d v) H := DO_pure _ rfl rfl (fun _ => rfl) fun _ => rfl
theorem DO_unOp {op : UnOp} {t : TypeId} {x : Operand} : DOps P ops R Q ((some ⟨some d, .unOp op t x, ty, ps, af, none⟩, true) :: rest) fr H = opThen ((unA op (aeval fr x)).map fun v => (v, H)) fun v _ => rigR R H v ∧ DOps P ops R Q rest (lput fr d v) H := DO_pure _ rfl rfl (fun _ => rfl) fun _ => rfl
theorem DO_slice {t : TypeId} {x : Operand} {lo hi mx : Option Operand} : DOps P ops R Q ((some ⟨some d, .slice t x lo hi mx, ty, ps, af, none⟩, true) :: rest) fr H = opThen ((sliceOpA P t (aeval fr x) (lo.map (aeval fr)) (hi.map (aeval fr)) (mx.map (aeval fr))).map fun v => (v, H)) fun v _ => DOps P ops R Q rest (lput fr d v) H := by
  rw [DO_plain]; simp only [still_copy (show copyOp (.slice t x lo hi mx) = true from rfl), true_and, opA]
theorem DO_fieldAddr {t : TypeId} {x : Operand} {f : Nat} : DOps P ops R Q ((some ⟨some d, .fieldAddr t x f, ty, ps, af, none⟩, true) :: rest) fr H = opThen ((fieldAddrA P t (aeval fr x) f).map fun v => (v, H)) fun v _ => rigR R H v ∧ DOps P ops R Q rest (lput fr d v) H := DO_pure _ rfl rfl (fun _ => rfl) fun _ => rfl
theorem DO_field {t : TypeId} {x : Operand} {f : Nat} : DOps P ops R Q ((some ⟨some d, .field t x f, ty, ps, af, none⟩, true) :: rest) fr H = opThen ((fieldA P t (aeval fr x) f).map fun v => (v, H)) fun v _ => rigR R H v ∧ DOps P ops R Q rest (lput fr d v) H := DO_pure _ rfl rfl (fun _ => rfl) fun _ => rfl
theorem DO_indexAddr {t : TypeId} {x y : Operand} : DOps P ops R Q ((some ⟨some d, .indexAddr t x y, ty, ps, af, none⟩, true) :: rest) fr H = opThen ((indexAddrA P t (aeval fr x) (aeval fr y)).map fun v => (v, H)) fun v _ => rigR R H v ∧ DOps P ops R Q rest (lput fr d v) H := DO_pure _ rfl rfl (fun _ => rfl) fun _ => rfl
theorem DO_index {t : TypeId} {x y : Operand} : DOps P ops R Q ((some ⟨some d, .index t x y, ty, ps, af, none⟩, true) :: rest) fr H = opThen ((indexA P t (aeval fr x) (aeval fr y)).map fun v => (v, H)) fun v _ => rigR R H v ∧ DOps P ops R Q rest (lput fr d v) H := DO_pure _ rfl rfl (fun _ => rfl) fun _ => rfl
theorem DO_len {t : TypeId} {x : Operand} : DOps P ops R Q ((some ⟨some d, .call ⟨.builtin .len, #[x], #[t]⟩, ty, ps, af, none⟩, true) :: rest) fr H = opThen ((lenA P t (aeval fr x)).map fun v => (v, H)) fun v _ => rigR R H v ∧ DOps P ops R Q rest (lput fr d v) H := DO_pure _ rfl rfl (fun _ => rfl) fun _ => rfl
theorem DO_min {ts : Array TypeId} {x y : Operand} : DOps P ops R Q ((some ⟨some d, .call ⟨.builtin .min, #[x, y], ts⟩, ty, ps, af, none⟩, true) :: rest) fr H = opThen ((foldA min2A (aeval fr x) [aeval fr y]).map fun v => (v, H)) fun v _ => rigR R H v ∧ DOps P ops R Q rest (lput fr d v) H := DO_pure _ rfl rfl (fun _ => rfl) fun _ => rfl
theorem DO_max {ts : Array TypeId} {x y : Operand} : DOps P ops R Q ((some ⟨some d, .call ⟨.builtin .max, #[x, y], ts⟩, ty, ps, af, none⟩, true) :: rest) fr H = opThen ((foldA max2A (aeval fr x) [aeval fr y]).map fun v => (v, H)) fun v _ => rigR R H v ∧ DOps P ops R Q rest (lput fr d v) H := DO_pure _ rfl rfl (fun _ => rfl) fun _ => rfl

/-- What a read gives in every memory that may come while the region runs. -/
def sameR (R : AH → Prop) (H : AH) (f : AH → Option (AV × AH)) (v : AV) : Prop := rigR R H v ∧ ∀ H', R H' → H'.ro = H.ro → f H' = some (v, H')
theorem sameR_c {R : AH → Prop} {H : AH} {f : AH → Option (AV × AH)} {v v' : AV} (h : mark v = v') : sameR R H f v = sameR R H f v' := by rw [← h, mark_eq]
theorem DO_load {t : TypeId} {x : Operand} : DOps P ops R Q ((some ⟨some d, .load t x, ty, ps, af, none⟩, true) :: rest) fr H = opThen (match aeval fr x with | .ptr p => (loadA P t p H).map fun v => (v, H) | _ => none) fun v _ => sameR R H (fun H' => opA P fr H' (.load t x)) v ∧ DOps P ops R Q rest (lput fr d v) H := by
  rw [DO_plain]
  have : ∀ v, StillAt P R fr H (.load t x) v = sameR R H (fun H' => opA P fr H' (.load t x)) v := fun v => by
    simp only [StillAt, copyOp, stillOp, convOk, Bool.false_eq_true, false_or, true_and, sameR, rigR]
    exact propext ⟨fun ⟨h1, h2⟩ => ⟨⟨h1, fun H' a b => (h2 H' a b).2⟩, fun H' a b => (h2 H' a b).1⟩, fun ⟨⟨h1, h2⟩, h3⟩ => ⟨h1, fun H' a b => ⟨h3 H' a b, h2 H' a b⟩⟩⟩
  simp only [this]
  rfl
theorem DO_convert {t t2 : TypeId} {x : Operand} : DOps P ops R Q ((some ⟨some d, .convert t t2 x, ty, ps, af, none⟩, true) :: rest) fr H = opThen (convertA P t t2 (aeval fr x) H) fun v _ => (convOk (.convert t t2 x) v = true ∧ sameR R H (fun H' => convertA P t t2 (aeval fr x) H') v) ∧ DOps P ops R Q rest (lput fr d v) H := by
  rw [DO_plain]
  have : ∀ v, StillAt P R fr H (.convert t t2 x) v = (convOk (.convert t t2 x) v = true ∧ sameR R H (fun H' => convertA P t t2 (aeval fr x) H') v) := fun v => by
    simp only [StillAt, copyOp, stillOp, Bool.false_eq_true, false_or, true_and, sameR, rigR, opA]
    exact propext ⟨fun ⟨h0, h1, h2⟩ => ⟨h0, ⟨h1, fun H' a b => (h2 H' a b).2⟩, fun H' a b => (h2 H' a b).1⟩, fun ⟨h0, ⟨h1, h2⟩, h3⟩ => ⟨h0, h1, fun H' a b => ⟨h3 H' a b, h2 H' a b⟩⟩⟩
  simp only [this]
  rfl
theorem DOps_c {l : List (Option Oper × Bool)} {fr' : AFr} {H' : AH} (h1 : mark fr = fr') (h2 : mark H = H') : DOps P ops R Q l fr H = DOps P ops R Q l fr' H' := by rw [← h1, ← h2, mark_eq, mark_eq]
end
end Go.Abs
