/- copy and conversions, and all operations in one. -/
import Derived.Test.YtickckpndpeppaaA11
import Derived.Laws.BytesArg
set_option linter.unusedVariables false
set_option linter.unusedSimpArgs false
namespace Go.Abs
open Go Go.RowKit

variable {P : Program} {w0 w : World} {ι : List Loc} {H : AH}

theorem copyA_run (h : Rep w0 ι H w) {dt st ty : TypeId} {d x v : AV} {H' : AH} (hc : copyA P dt d x H = some (v, H')) {ud u : Value} (hd' : RV w0.heap.size ι d ud) (hu : RV w0.heap.size ι x u) :
    ∃ z w', (Builtin.copy_ #[dt, st] ty #[ud, u]).run P w = .ok z w' ∧ RV w0.heap.size ι v z ∧ Rep w0 ι H' w' ∧ Ext ι H w ι H' w' := by
  unfold copyA at hc
  split at hc
  · rename_i e hd
    obtain ⟨sz, hsz, hc⟩ := Option.bind_eq_some_iff.1 hc
    obtain ⟨kn, hkn, hc⟩ := Option.bind_eq_some_iff.1 hc
    obtain ⟨k, cs⟩ := kn
    obtain ⟨r1, r2, r3⟩ := newsA_run (P := P) h hkn hu
    cases d with
    | nilslice =>
      simp only at hc
      injection hc with hc
      injection hc with e1 e2
      subst e1 e2
      unfold RV at hd'
      subst hd'
      obtain ⟨ys, f1, f2⟩ := r3 0 (Nat.zero_le _)
      exact ⟨.int .i64 0, w, by simp [Builtin.copy_, run_underlying hd, r1, sizeA_run hsz, f1, goInt], rfl, h, Ext.refl _ _ _⟩
    | slice a n c =>
      simp only at hc
      split at hc
      · rename_i hro
        obtain ⟨hro, hal⟩ := hro
        obtain ⟨H1, hst, hc⟩ := Option.map_eq_some_iff.1 hc
        injection hc with e1 e2
        subst e1 e2
        obtain ⟨ys, f1, f2⟩ := r3 (min k n) (Nat.min_le_left _ _)
        unfold RV at hd'
        have hs0 := hd'
        unfold RSlice at hd'
        rw [if_neg (by rw [hro]; simp)] at hd'
        have hz : n = 0 → cs.take (min k n * sz) = [] := fun h0 => by rw [h0, Nat.min_zero, Nat.zero_mul, List.take_zero]
        have empty : ∀ q C, ud = .slice q n C → n = 0 → ∃ z w', (Builtin.copy_ #[dt, st] ty #[ud, u]).run P w = .ok z w' ∧ RV w0.heap.size ι (.int .i64 (min k n : Nat)) z ∧ Rep w0 ι H1 w' ∧ Ext ι H w ι H1 w' := fun q C hq hn0 => by
          rw [hz hn0] at hst f2
          simp only [storeCellsA] at hst
          injection hst with hst
          subst hst
          unfold RVL at f2
          subst f2 hn0
          rw [Nat.min_zero] at f1
          refine ⟨.int .i64 0, w, ?_, by rw [Nat.min_zero]; rfl, h, Ext.refl _ _ _⟩
          rw [hq]
          cases q <;> simp [Builtin.copy_, run_underlying hd, r1, sizeA_run hsz, f1, goInt, storeCells]
        have full : ∀ B O m C, ι[a.blk]? = some (.at B O m) → ud = .slice (some ⟨B, O + a.off, none⟩) n C → ∃ z w', (Builtin.copy_ #[dt, st] ty #[ud, u]).run P w = .ok z w' ∧ RV w0.heap.size ι (.int .i64 (min k n : Nat)) z ∧ Rep w0 ι H1 w' ∧ Ext ι H w ι H1 w' := fun B O m C hι hq => by
          obtain ⟨w', g1, g2, g3⟩ := storeCellsA_run (P := P) (cs.take (min k n * sz)) ys (o := a.off) (k := 0) h (by simpa using hst) hι f2
          refine ⟨.int .i64 (min k n : Nat), w', ?_, rfl, g2, g3⟩
          rw [hq]
          have f1' : (Builtin.firstCells sz (Nat.min k n) u).run P w = .ok ys.toArray w := f1
          simp [Builtin.copy_, run_underlying hd, r1, sizeA_run hsz, f1', goInt, g1]
        cases hι : ι[a.blk]? with
        | none => rw [hι] at hd'; exact hd'.elim
        | some L =>
          rw [hι] at hd'
          cases L with
          | pend => exact hd'.elim
          | dead =>
            obtain ⟨l, hl⟩ := Option.isSome_iff_exists.1 hal
            rcases h.blk _ _ (cells?_some hl) with g1 | ⟨g1, _⟩ | ⟨B, O, m, g1, _⟩ <;> (rw [hι] at g1; cases g1)
          | nil =>
            obtain ⟨hn0, ⟨q, hq⟩, _⟩ := hd'
            exact empty q 0 (by rw [hn0]; exact hq) hn0
          | «at» B O m =>
            cases c with
            | known c =>
              obtain ⟨hnc, hq | ⟨hc0, p, hq⟩⟩ := hd'
              · exact full B O m _ hι hq
              · have hn0 : n = 0 := by omega
                exact empty (some p) 0 (by rw [hn0]; exact hq) hn0
            | grow sz' =>
              rcases hd' with ⟨C, _, _, hq⟩ | ⟨hn0, p, hq⟩
              · exact full B O m _ hι hq
              · exact empty (some p) 0 (by rw [hn0]; exact hq) hn0
      · cases hc
    | _ => simp only at hc; cases hc
  · cases hc

theorem clearA_run (h : Rep w0 ι H w) {t ty : TypeId} {x v : AV} {H' : AH} (hc : clearA P t x H = some (v, H')) {u : Value} (hd' : RV w0.heap.size ι x u) :
    ∃ z w', (Builtin.clear_ #[t] ty #[u]).run P w = .ok z w' ∧ RV w0.heap.size ι v z ∧ Rep w0 ι H' w' ∧ Ext ι H w ι H' w' := by
  unfold clearA at hc
  split at hc
  · rename_i e hd
    obtain ⟨zero, hz, hc⟩ := Option.bind_eq_some_iff.1 hc
    have hunit : RV w0.heap.size ι (.tup []) (.tuple #[]) := by unfold RV; exact ⟨#[], rfl, by unfold RVL; rfl⟩
    cases x with
    | nilslice =>
      simp only at hc
      injection hc with hc
      injection hc with e1 e2
      subst e1 e2
      unfold RV at hd'
      subst hd'
      exact ⟨_, w, by simp [Builtin.clear_, run_underlying hd], hunit, h, Ext.refl _ _ _⟩
    | slice a n c =>
      simp only at hc
      unfold RV at hd'
      unfold RSlice at hd'
      split at hc
      · rename_i hn0
        injection hc with hc
        injection hc with e1 e2
        subst e1 e2
        have empty : ∀ q C, u = .slice q 0 C → ∃ z w', (Builtin.clear_ #[t] ty #[u]).run P w = .ok z w' ∧ RV w0.heap.size ι (.tup []) z ∧ Rep w0 ι H w' ∧ Ext ι H w ι H w' := fun q C hq =>
          ⟨_, w, by rw [hq]; cases q <;> simp [Builtin.clear_, run_underlying hd], hunit, h, Ext.refl _ _ _⟩
        subst hn0
        by_cases hro : a.ro = true
        · rw [if_pos hro] at hd'
          obtain ⟨_, _, _, ⟨_, hq⟩ | ⟨_, p, hq⟩⟩ := hd'
          · exact empty _ _ hq
          · exact empty _ _ hq
        · rw [if_neg hro] at hd'
          cases hι : ι[a.blk]? with
          | none => rw [hι] at hd'; exact hd'.elim
          | some L =>
            rw [hι] at hd'
            cases L with
            | pend => exact hd'.elim
            | dead => obtain ⟨q, C, hq, _⟩ := hd'; exact empty q C hq
            | nil =>
              obtain ⟨_, ⟨q, hq⟩, _⟩ := hd'
              exact empty q 0 hq
            | «at» B O m =>
              cases c with
              | known c =>
                obtain ⟨_, hq | ⟨_, p, hq⟩⟩ := hd'
                · exact empty _ _ hq
                · exact empty _ _ hq
              | grow sz' =>
                rcases hd' with ⟨C, _, _, hq⟩ | ⟨_, p, hq⟩
                · exact empty _ _ hq
                · exact empty _ _ hq
      · rename_i hn0
        split at hc
        · rename_i hro
          obtain ⟨⟨hro, hal⟩, hpos⟩ := hro
          obtain ⟨H1, hst, hc⟩ := Option.map_eq_some_iff.1 hc
          injection hc with e1 e2
          subst e1 e2
          obtain ⟨z, hzr, rfl⟩ := zeroA_run hz w
          rw [absL_length] at hpos
          have hrel := zeroCells_rel (ι := ι) (b := w0.heap.size) (z := z) (by simpa using hpos) n
          rw [if_neg (by rw [hro]; simp)] at hd'
          have full : ∀ B O m C, ι[a.blk]? = some (.at B O m) → u = .slice (some ⟨B, O + a.off, none⟩) n C → ∃ z w', (Builtin.clear_ #[t] ty #[u]).run P w = .ok z w' ∧ RV w0.heap.size ι (.tup []) z ∧ Rep w0 ι H1 w' ∧ Ext ι H w ι H1 w' := fun B O m C hι hq => by
            obtain ⟨w', g1, g2, g3⟩ := storeCellsA_run (P := P) (repA (absL 0 z.cells.toList) n) (Builtin.zeroCells z.cells n).toList (o := a.off) (k := 0) h (by simpa using hst) hι hrel
            refine ⟨_, w', ?_, hunit, g2, g3⟩
            rw [hq]
            cases n with
            | zero => exact absurd rfl hn0
            | succ n => simp [Builtin.clear_, run_underlying hd, hzr, g1]
          cases hι : ι[a.blk]? with
          | none => rw [hι] at hd'; exact hd'.elim
          | some L =>
            rw [hι] at hd'
            cases L with
            | pend => exact hd'.elim
            | dead =>
              obtain ⟨l, hl⟩ := Option.isSome_iff_exists.1 hal
              rcases h.blk _ _ (cells?_some hl) with g1 | ⟨g1, _⟩ | ⟨B, O, m, g1, _⟩ <;> (rw [hι] at g1; cases g1)
            | nil =>
              obtain ⟨h0, _⟩ := hd'
              exact absurd h0 hn0
            | «at» B O m =>
              cases c with
              | known c =>
                obtain ⟨hnc, hq | ⟨hc0, p, hq⟩⟩ := hd'
                · exact full B O m _ hι hq
                · omega
              | grow sz' =>
                rcases hd' with ⟨C, _, _, hq⟩ | ⟨h0, p, hq⟩
                · exact full B O m _ hι hq
                · exact absurd h0 hn0
        · cases hc
    | _ => simp only at hc; cases hc
  · cases hc

theorem bytesOfA_nums {b : Nat} : ∀ (cs : List AV) (ys : List Value) {bs : List UInt8}, bytesOfA cs = some bs → RVL b ι cs ys → ∃ ns : List Int, ys = ns.map (Value.int .u8) ∧ bs = ns.map fun n => UInt8.ofNat n.toNat
  | [], ys, bs, h, hy => by
    unfold RVL at hy
    simp only [bytesOfA] at h
    injection h with h
    exact ⟨[], hy, h.symm⟩
  | c :: cs, ys, bs, h, hy => by
    unfold RVL at hy
    obtain ⟨y, ys', rfl, h1, h2⟩ := hy
    simp only [bytesOfA] at h
    obtain ⟨b', hb, h⟩ := Option.bind_eq_some_iff.1 h
    obtain ⟨r, hr, h⟩ := Option.map_eq_some_iff.1 h
    subst h
    obtain ⟨ns, rfl, rfl⟩ := bytesOfA_nums cs ys' hr h2
    have hcn : ∃ n, c = .int .u8 n ∧ b' = UInt8.ofNat n.toNat := by
      unfold byteA at hb
      split at hb
      · injection hb with hb; exact ⟨_, rfl, hb.symm⟩
      · cases hb
    obtain ⟨n, rfl, rfl⟩ := hcn
    unfold RV at h1
    subst h1
    exact ⟨n :: ns, rfl, rfl⟩

theorem bytesToString_run (h : Rep w0 ι H w) {x : AV} {cs : List AV} {bs : List UInt8} (hr : rowA H 1 x = some cs) (hb : bytesOfA cs = some bs) {u : Value} (hu : RV w0.heap.size ι x u) :
    (Conv.bytesToString u).run P w = .ok (.string ⟨bs.toArray⟩) w := by
  obtain ⟨q, C, rfl, hl, hm⟩ := rowA_run (P := P) h hr hu rfl
  obtain ⟨ys, y1, y2, y3⟩ := hm (slen x * 1) (Nat.le_refl _)
  rw [← hl, List.take_length] at y1
  obtain ⟨ns, rfl, rfl⟩ := bytesOfA_nums cs ys hb y1
  cases q with
  | none =>
    have : ns = [] := by have := y3 rfl; simpa using this
    subst this
    rfl
  | some ad =>
    have := y2 ad rfl
    rw [Nat.mul_one] at this
    rw [run_bytesToString w ad (slen x) C ns this, foldl_push_bytes]
    simp [ByteArray.empty, ByteArray.emptyWithCapacity]
    rfl

theorem freeze_other (w : World) (a : Addr) (n B : Nat) (h : B ≠ a.block) : (w.freeze a n).heap[B]? = w.heap[B]? := by
  unfold World.freeze
  split
  · rfl
  · simp [Array.getElem?_modify, Ne.symm h]

theorem freeze_self (w : World) (B o : Nat) {cs : Array Value} {e : TypeId} {fz : Nat × Nat} (h : w.heap[B]? = some (.cells cs e fz)) :
    (w.freeze ⟨B, o, none⟩ 1).heap[B]? = some (.cells cs e (if fz.1 == fz.2 then (o, o + 1) else (min fz.1 o, max fz.2 (o + 1)))) := by
  unfold World.freeze
  have h1 : ¬ (1 = 0) := by omega
  rw [if_neg h1]
  simp only [Array.getElem?_modify, if_true, h, Option.map_some]

theorem freeze_size (w : World) (a : Addr) (n : Nat) : (w.freeze a n).heap.size = w.heap.size := by unfold World.freeze; split <;> simp

/-- The mark behind a row's end that a text may share it. -/
theorem Rep.freeze (h : Rep w0 ι H w) {i B O m : Nat} (hι : ι[i]? = some (.at B O m)) {cs : Array Value} {e : TypeId} {fz : Nat × Nat} (hB : w.heap[B]? = some (.cells cs e fz)) :
    Rep w0 ι H (w.freeze ⟨B, cs.size, none⟩ 1) ∧ Ext ι H w ι H (w.freeze ⟨B, cs.size, none⟩ 1) := by
  obtain ⟨hB0, hB1⟩ := h.locs _ _ _ _ hι
  have hself := freeze_self w B cs.size hB
  refine ⟨⟨⟨?_, ?_, ?_, by rw [freeze_size]; exact h.below.size, fun k hk => (freeze_other w _ 1 k (by simp only; omega)).trans (h.below.block k hk)⟩, h.ro, h.len, ?_, h.nomap, h.gone, h.inj, fun j B' O' m' hj => by rw [freeze_size]; exact h.locs j B' O' m' hj⟩,
    ⟨rfl, Nat.le_refl _, LocLe.refl ι, fun _ _ => rfl, by rw [freeze_size]; exact Nat.le_refl _, fun B' _ hn => freeze_other w _ 1 B' (fun e => hn i O m (by rw [e]; exact hι)), fun i B O m hi => .inl ⟨_, _, _, hi⟩, fun _ h => h, fun j B' O' m' hj _ _ => ⟨fun a ha => by
      by_cases he : B' = B
      · subst he
        unfold World.cell?
        rw [ha, hself, hB]
      · exact SameB.of (freeze_other w _ 1 B' he) a ha, hj⟩⟩⟩
  · rw [show (w.freeze ⟨B, cs.size, none⟩ 1).os = w.os by unfold World.freeze; split <;> rfl]; exact h.below.os
  · rw [show (w.freeze ⟨B, cs.size, none⟩ 1).tape = w.tape by unfold World.freeze; split <;> rfl]; exact h.below.tape
  · rw [show (w.freeze ⟨B, cs.size, none⟩ 1).output = w.output by unfold World.freeze; split <;> rfl]; exact h.below.output
  · intro j l hj
    rcases h.blk j l hj with g1 | g1 | ⟨B', O', m', g1, g2⟩
    · exact .inl g1
    · exact .inr (.inl g1)
    · refine .inr (.inr ⟨B', O', m', g1, ?_⟩)
      by_cases e' : B' = B
      · subst e'
        obtain ⟨cs', e2, fz', g3, g4, g5, g6⟩ := g2.cells
        rw [hB] at g3
        injection g3 with g3
        injection g3 with a1 a2 a3
        subst a1 a2 a3
        refine ⟨⟨cs, e, _, hself, g4, g5, g6⟩, fun c' e'' fz'' h' => ?_⟩
        rw [hself] at h'
        injection h' with h'
        injection h' with b1 b2 b3
        rw [← b3]
        have := g2.high _ _ _ hB
        by_cases hq : fz.1 = fz.2
        · right; simp [hq]; omega
        · have hq' : (fz.1 == fz.2) = false := by simpa using hq
          right
          rw [hq']
          simp only [Bool.false_eq_true, if_false]
          omega
      · exact g2.world (freeze_other w _ 1 B' e')

/-- A result of an operation. -/
def OkRes (w0 : World) (ι : List Loc) (H : AH) (w : World) (v : AV) (H' : AH) (r : Result Next) : Prop :=
  ∃ w' ι', Rep w0 ι' H' w' ∧ Ext ι H w ι' H' w' ∧ ((∃ cv, r = .ok (.value cv) w' ∧ RV w0.heap.size ι' v cv) ∨ (r = .ok .skip w' ∧ v = .unk))

theorem convertA_run (h : Rep w0 ι H w) {s d : TypeId} {x v : AV} {H' : AH} (hc : convertA P s d x H = some (v, H')) {u : Value} (hu : RV w0.heap.size ι x u) :
    ∃ z w', (convert s d u).run P w = .ok z w' ∧ RV w0.heap.size ι v z ∧ Rep w0 ι H' w' ∧ Ext ι H w ι H' w' := by
  unfold convertA at hc
  split at hc
  · rename_i ds k kk n hs hd
    injection hc with hc
    injection hc with e1 e2
    subst e1 e2
    unfold RV at hu
    subst hu
    exact ⟨.int k (k.wrap n), w, by cases ds <;> simp [convert, run_underlying hs, run_underlying hd, Conv.intToInt], rfl, h, Ext.refl _ _ _⟩
  · rename_i e _ hs hd
    split at hc
    · rename_i he
      obtain ⟨cs, hr, hc⟩ := Option.bind_eq_some_iff.1 hc
      obtain ⟨bs, hb, hc⟩ := Option.map_eq_some_iff.1 hc
      injection hc with e1 e2
      subst e1 e2
      have hrun := bytesToString_run (P := P) h hr hb hu
      obtain ⟨q, C, rfl, _⟩ := rowA_run (P := P) h hr hu rfl
      exact ⟨_, w, by simp [convert, run_underlying hs, run_underlying hd, run_underlying he, hrun]; rfl, by unfold RV; rfl, h, Ext.refl _ _ _⟩
    · cases hc
  · rename_i es e a n c hs hd
    split at hc
    · rename_i hh
      obtain ⟨h1, h2, h3, h4, h5⟩ := hh
      injection hc with hc
      injection hc with e1 e2
      subst e1 e2 h1
      rw [hs] at hd
      injection hd with hd
      injection hd with hd
      subst hd
      have he : P.underlying es = some (.int .u8) := by
        unfold isByteT at h5
        split at h5
        · assumption
        · cases h5
      cases c with
      | grow sz => simp [isKnown] at h4
      | known c =>
        obtain ⟨l, hl⟩ := Option.isSome_iff_exists.1 h3
        have hu0 := hu
        unfold RV RSlice at hu
        rw [if_neg (by rw [h2]; simp)] at hu
        have hc0 : c ≠ 0 := fun e => by rw [e] at h4; simp [isKnown] at h4
        rcases h.blk _ _ (cells?_some hl) with g1 | ⟨g1, _⟩ | ⟨B, O, m, g1, g2⟩
        · rw [g1] at hu; exact hu.elim
        · rw [g1] at hu; obtain ⟨_, _, sz, hcc⟩ := hu; cases hcc
        · rw [g1] at hu
          obtain ⟨hnc, hu | ⟨hc1, _⟩⟩ := hu
          · obtain ⟨cs, e', fz, g3, _⟩ := g2.cells
            obtain ⟨hR, hE⟩ := h.freeze g1 g3
            refine ⟨u, w.freeze ⟨B, cs.size, none⟩ 1, ?_, hu0, hR, hE⟩
            have hsh : w.shape? B = some (e', cs.size) := by simp [World.shape?, g3]
            rw [hu]
            simp [convert, run_underlying hs, run_underlying he, markStringish, hsh]
          · exact absurd hc1 hc0
    · cases hc
  · cases hc

end Go.Abs
