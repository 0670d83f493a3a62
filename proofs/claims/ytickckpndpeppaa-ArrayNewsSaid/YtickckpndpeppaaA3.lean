/- What new memory, a store and a moved row do to the abstract memory and to the world that it stands for. -/
import Derived.Test.YtickckpndpeppaaA2
set_option linter.unusedVariables false
set_option linter.unusedSimpArgs false
namespace Go.Abs
open Go Go.RowKit

theorem LocLe.refl (ι : List Loc) : LocLe ι ι := fun _ _ h => .inl h

theorem LocLe.app (ι : List Loc) (L : Loc) : LocLe ι (ι ++ [L]) := fun i L' h => .inl (by
  have hi : i < ι.length := by
    rcases Nat.lt_or_ge i ι.length with h1 | h1
    · exact h1
    · rw [List.getElem?_eq_none h1] at h; cases h
  rw [List.getElem?_append_left hi]; exact h)

theorem alloc_size (w : World) (o : Obj) : (w.alloc o).heap.size = w.heap.size + 1 := Array.size_push ..

theorem alloc_new (w : World) (o : Obj) : (w.alloc o).heap[w.heap.size]? = some o := Array.getElem?_push_size

theorem lt_of_get {α : Type} {l : List α} {i : Nat} {x : α} (h : l[i]? = some x) : i < l.length := by
  rcases Nat.lt_or_ge i l.length with h1 | h1
  · exact h1
  · rw [List.getElem?_eq_none h1] at h; cases h

theorem get_app {α : Type} {l : List α} {i : Nat} {x y : α} (h : (l ++ [y])[i]? = some x) : l[i]? = some x ∨ (i = l.length ∧ x = y) := by
  by_cases hi : i < l.length
  · rw [List.getElem?_append_left hi] at h; exact .inl h
  · rw [List.getElem?_append_right (by omega)] at h
    have hlt := lt_of_get h
    simp at hlt
    have e : i = l.length := by omega
    subst e
    simp at h
    exact .inr ⟨rfl, h.symm⟩

theorem get_app_lt {α : Type} {l : List α} {i : Nat} {y : α} (h : i < l.length) : (l ++ [y])[i]? = l[i]? := List.getElem?_append_left h

theorem RBlk.ext {b : Nat} {ι ι' : List Loc} (h : LocLe ι ι') {l : List AV} {B O m : Nat} {w : World} (k : RBlk b ι l B O m w) : RBlk b ι' l B O m w := by
  obtain ⟨cs, e, fz, h1, h2, h3, h4⟩ := k.cells
  exact ⟨⟨cs, e, fz, h1, h2, h3, fun k v hk => let ⟨x, a, r⟩ := h4 k v hk; ⟨x, a, RV.ext h v r⟩⟩, k.high⟩

theorem RBlk.world {b : Nat} {ι : List Loc} {l : List AV} {B O m : Nat} {w w' : World} (h : w'.heap[B]? = w.heap[B]?) (k : RBlk b ι l B O m w) : RBlk b ι l B O m w' := by
  obtain ⟨cs, e, fz, h1, h2, h3, h4⟩ := k.cells
  exact ⟨⟨cs, e, fz, h.trans h1, h2, h3, h4⟩, fun cs e fz h' => k.high cs e fz (h.symm.trans h')⟩

/-- New memory, with room behind what is known of it. -/
theorem Rep.push {w0 : World} {ι : List Loc} {H : AH} {w : World} (h : Rep w0 ι H w) {l : List AV} {cs : Array Value} (e : TypeId) (hl : l.length ≤ cs.size)
    (hv : ∀ (k : Nat) (v : AV), l[k]? = some v → ∃ x, cs[k]? = some x ∧ RV w0.heap.size ι v x) :
    Rep w0 (ι ++ [.at w.heap.size 0 cs.size]) (H.push (some (.cells l))) (w.alloc (.cells cs e)) ∧
    Ext ι H w (ι ++ [.at w.heap.size 0 cs.size]) (H.push (some (.cells l))) (w.alloc (.cells cs e)) := by
  have hle := LocLe.app ι (.at w.heap.size 0 cs.size)
  have hbs := h.below.size
  refine ⟨⟨h.below.alloc hbs _, h.ro, by simp [AH.push, h.len], ?_, ?_, ?_, ?_, ?_⟩, ⟨rfl, by simp, hle, ?_, by rw [alloc_size]; omega, fun B hB _ => Below.heap_alloc _ _ _ hB, ?_, fun _ h => .inr h, fun i B O m hi _ _ => ⟨.of (Below.heap_alloc _ _ _ (h.locs i B O m hi).2), by rw [get_app_lt (lt_of_get hi)]; exact hi⟩⟩⟩
  · intro i l' hi
    rcases get_app hi with hi | ⟨hi, hl'⟩
    · have hlt : i < ι.length := by rw [h.len]; exact lt_of_get hi
      rw [get_app_lt hlt]
      rcases h.blk i l' hi with h1 | h1 | ⟨B, O, m, h1, h2⟩
      · exact .inl h1
      · exact .inr (.inl h1)
      · exact .inr (.inr ⟨B, O, m, h1, (h2.ext hle).world (Below.heap_alloc _ _ _ (h.locs i B O m h1).2)⟩)
    · refine .inr (.inr ⟨w.heap.size, 0, cs.size, ?_, ⟨cs, e, (0, 0), alloc_new _ _, by simp, ?_, ?_⟩, ?_⟩)
      · rw [hi, ← h.len]; simp
      · injection hl' with hl'; injection hl' with hl'; rw [hl']; exact hl
      · injection hl' with hl'; injection hl' with hl'; subst hl'
        intro k v hk
        obtain ⟨x, h1, h2⟩ := hv k v hk
        exact ⟨x, by simpa using h1, RV.ext hle v h2⟩
      · intro c' e' fz' h'; rw [alloc_new] at h'; injection h' with h'; injection h' with _ _ h'; rw [← h']; exact .inl rfl
  · intro i es hi
    rcases get_app hi with hi | ⟨_, hi⟩
    · exact h.nomap i es hi
    · cases hi
  · intro i hi
    rcases get_app hi with hi | ⟨_, hi⟩
    · have hlt : i < ι.length := by rw [h.len]; exact lt_of_get hi
      rw [get_app_lt hlt]; exact h.gone i hi
    · cases hi
  · intro i j B O m O' m' hi hj
    rcases get_app hi with hi | ⟨hi, hi'⟩ <;> rcases get_app hj with hj | ⟨hj, hj'⟩
    · exact h.inj i j B O m O' m' hi hj
    · injection hj' with h1; have := (h.locs _ _ _ _ hi).2; omega
    · injection hi' with h1; have := (h.locs _ _ _ _ hj).2; omega
    · omega
  · intro i B O m hi
    rcases get_app hi with hi | ⟨hi, hi'⟩
    · have := h.locs _ _ _ _ hi; rw [alloc_size]; omega
    · injection hi' with h1; subst h1; rw [alloc_size]; omega
  · intro i hi
    have hlt : i < H.rw.length := by rw [← h.len]; exact lt_of_get hi
    simp only [AH.push]; exact get_app_lt hlt
  · intro i B O m hi
    rcases get_app hi with hi | ⟨hi, hi'⟩
    · exact .inl ⟨_, _, _, hi⟩
    · injection hi' with h1; exact .inr (by omega)

theorem setCell_block (w : World) (B q : Nat) (x : Value) {cs : Array Value} {e : TypeId} {fz : Nat × Nat} (h : w.heap[B]? = some (.cells cs e fz)) :
    (w.setCell ⟨B, q, none⟩ x).heap[B]? = some (.cells (cs.setIfInBounds q x) e fz) := by
  have hlt : B < w.heap.size := by
    rcases Nat.lt_or_ge B w.heap.size with h1 | h1
    · exact h1
    · rw [Array.getElem?_eq_none h1] at h; cases h
  rw [Array.getElem?_eq_getElem hlt] at h
  injection h with h
  simp only [World.setCell, Array.getElem?_modify, Array.getElem?_eq_getElem hlt, h, Option.map_some, Option.isSome_none, Bool.false_eq_true, if_false, if_true]

theorem setCell_size (w : World) (a : Addr) (x : Value) : (w.setCell a x).heap.size = w.heap.size := by simp [World.setCell]

/-- One cell of a row is written, or the first one behind it. -/
theorem Rep.setCell {w0 : World} {ι : List Loc} {H : AH} {w : World} (h : Rep w0 ι H w) {i : Nat} {l l' : List AV} {B O m k : Nat} {x : Value} (hi : H.rw[i]? = some (some (.cells l)))
    (hι : ι[i]? = some (.at B O m)) (hk : k < m) (hl' : l'.length ≤ m) (hnew : ∀ j v, l'[j]? = some v → (j = k ∧ RV w0.heap.size ι v x) ∨ (j ≠ k ∧ l[j]? = some v)) :
    Rep w0 ι (H.set i (some (.cells l'))) (w.setCell ⟨B, O + k, none⟩ x) ∧ Ext ι H w ι (H.set i (some (.cells l'))) (w.setCell ⟨B, O + k, none⟩ x) := by
  obtain ⟨hB0, hB1⟩ := h.locs _ _ _ _ hι
  have hilt : i < H.rw.length := lt_of_get hi
  have hset : ∀ j, j ≠ i → (H.set i (some (.cells l'))).rw[j]? = H.rw[j]? := fun j hj => by simp [AH.set, Ne.symm hj]
  have hseti : (H.set i (some (.cells l'))).rw[i]? = some (some (.cells l')) := by simp [AH.set, hilt]
  refine ⟨⟨h.below.setCell hB0 _, h.ro, by simp [AH.set, h.len], ?_, ?_, ?_, h.inj, ?_⟩, ⟨rfl, Nat.le_refl _, LocLe.refl ι, ?_, by rw [setCell_size]; exact Nat.le_refl _, ?_, fun i B O m hi => .inl ⟨_, _, _, hi⟩, fun _ h => .inr h, fun j B' O' m' hj _ hn => ⟨.of (Below.heap_setCell _ _ _ _ (fun e => hn (.inl (h.inj j i B' O' m' O m hj (by rw [e]; exact hι))))), hj⟩⟩⟩
  · intro j q hj
    by_cases e : j = i
    · subst e
      rw [hseti] at hj
      injection hj with hj; injection hj with hj; injection hj with hj
      subst hj
      rcases h.blk j l hi with h1 | ⟨h1, _⟩ | ⟨B', O', m', h1, h2⟩
      · rw [hι] at h1; cases h1
      · rw [hι] at h1; cases h1
      · rw [hι] at h1
        injection h1 with h1
        injection h1 with e1 e2 e3
        subst e1 e2 e3
        obtain ⟨cs, e, fz, g1, g2, g3, g4⟩ := h2.cells
        refine .inr (.inr ⟨B, O, m, hι, ⟨cs.setIfInBounds (O + k) x, e, fz, setCell_block w B _ x g1, by simpa using g2, hl', ?_⟩, ?_⟩)
        · intro a v ha
          rcases hnew a v ha with ⟨rfl, hr⟩ | ⟨hne, ha'⟩
          · exact ⟨x, by rw [Array.getElem?_setIfInBounds_self_of_lt (by omega)], hr⟩
          · obtain ⟨y, g5, g6⟩ := g4 a v ha'
            exact ⟨y, by rw [Array.getElem?_setIfInBounds_ne (by omega)]; exact g5, g6⟩
        · intro c' e' fz' h'
          rw [setCell_block w B _ x g1] at h'
          injection h' with h'
          injection h' with _ _ h'
          rw [← h']
          exact h2.high _ _ _ g1
    · rw [hset j e] at hj
      rcases h.blk j q hj with h1 | h1 | ⟨B', O', m', h1, h2⟩
      · exact .inl h1
      · exact .inr (.inl h1)
      · have hne : B' ≠ B := fun hb => e (h.inj j i B' O' m' O m h1 (by rw [hb]; exact hι))
        exact .inr (.inr ⟨B', O', m', h1, h2.world (Below.heap_setCell _ _ _ _ hne)⟩)
  · intro j es hj
    by_cases e : j = i
    · subst e; rw [hseti] at hj; injection hj with hj; injection hj with hj; cases hj
    · rw [hset j e] at hj; exact h.nomap j es hj
  · intro j hj
    by_cases e : j = i
    · subst e; rw [hseti] at hj; injection hj with hj; cases hj
    · rw [hset j e] at hj; exact h.gone j hj
  · intro j B' O' m' hj
    rw [setCell_size]; exact h.locs j B' O' m' hj
  · intro j hj
    by_cases e : j = i
    · subst e; rw [hι] at hj; cases hj
    · exact hset j e
  · intro B' hB' hn
    exact Below.heap_setCell _ _ _ _ (fun e => hn i O m (by rw [e]; exact hι))

/-- A row goes under a new number (from some cell on); the old number is dead. -/
theorem Rep.rename {w0 : World} {ι : List Loc} {H : AH} {w : World} (h : Rep w0 ι H w) {i : Nat} {l : List AV} {B O m : Nat} (off : Nat) (hi : H.rw[i]? = some (some (.cells l)))
    (hι : ι[i]? = some (.at B O m)) (ho : off ≤ l.length) :
    Rep w0 (ι.set i .dead ++ [.at B (O + off) (m - off)]) ((H.set i none).push (some (.cells (l.drop off)))) w ∧
    Ext ι H w (ι.set i .dead ++ [.at B (O + off) (m - off)]) ((H.set i none).push (some (.cells (l.drop off)))) w := by
  have hilt : i < H.rw.length := lt_of_get hi
  have hiι : i < ι.length := by rw [h.len]; exact hilt
  have hget : ∀ j L, (ι.set i .dead ++ [.at B (O + off) (m - off)])[j]? = some L → (j ≠ i ∧ ι[j]? = some L) ∨ (j = i ∧ L = .dead) ∨ (j = ι.length ∧ L = .at B (O + off) (m - off)) := by
    intro j L hj
    rcases get_app hj with hj1 | ⟨h1, h2⟩
    · rw [List.getElem?_set] at hj1
      by_cases e : i = j
      · subst e
        rw [if_pos rfl, if_pos hiι] at hj1
        injection hj1 with hj1
        exact .inr (.inl ⟨rfl, hj1.symm⟩)
      · rw [if_neg e] at hj1; exact .inl ⟨fun e' => e e'.symm, hj1⟩
    · exact .inr (.inr ⟨by simpa using h1, h2⟩)
  have hmk : ∀ j L, j ≠ i → ι[j]? = some L → (ι.set i .dead ++ [.at B (O + off) (m - off)])[j]? = some L := by
    intro j L hne hj
    have hlt := lt_of_get hj
    rw [get_app_lt (by simpa using hlt), List.getElem?_set, if_neg (Ne.symm hne)]
    exact hj
  have hmi : (ι.set i .dead ++ [.at B (O + off) (m - off)])[i]? = some .dead := by
    rw [get_app_lt (by simpa using hiι), List.getElem?_set, if_pos rfl, if_pos hiι]
  have hml : (ι.set i .dead ++ [.at B (O + off) (m - off)])[ι.length]? = some (.at B (O + off) (m - off)) := by
    have : (ι.set i Loc.dead).length = ι.length := by simp
    rw [← this]; simp
  have hle : LocLe ι (ι.set i .dead ++ [.at B (O + off) (m - off)]) := by
    intro j L hj
    by_cases e : j = i
    · subst e
      rw [hι] at hj
      injection hj with hj
      subst hj
      exact .inr ⟨hmi, by intro h; cases h⟩
    · exact .inl (hmk j L e hj)
  have hH : ∀ j L, ((H.set i none).push (some (.cells (l.drop off)))).rw[j]? = some L → (j ≠ i ∧ H.rw[j]? = some L) ∨ (j = i ∧ L = none) ∨ (j = ι.length ∧ L = some (.cells (l.drop off))) := by
    intro j L hj
    rcases get_app hj with hj1 | ⟨h1, h2⟩
    · simp only [AH.set] at hj1
      rw [List.getElem?_set] at hj1
      by_cases e : i = j
      · subst e
        rw [if_pos rfl, if_pos hilt] at hj1
        injection hj1 with hj1
        exact .inr (.inl ⟨rfl, hj1.symm⟩)
      · rw [if_neg e] at hj1; exact .inl ⟨fun e' => e e'.symm, hj1⟩
    · exact .inr (.inr ⟨by simpa [AH.set, h.len] using h1, h2⟩)
  have hblk : RBlk w0.heap.size ι l B O m w := by
    rcases h.blk i l hi with h1 | ⟨h1, _⟩ | ⟨B', O', m', h1, h2⟩
    · rw [hι] at h1; cases h1
    · rw [hι] at h1; cases h1
    · rw [hι] at h1; injection h1 with h1; injection h1 with e1 e2 e3; subst e1 e2 e3; exact h2
  refine ⟨⟨h.below, h.ro, by simp [AH.push, AH.set, h.len], ?_, ?_, ?_, ?_, ?_⟩, ⟨rfl, by simp, hle, ?_, Nat.le_refl _, fun _ _ _ => rfl, ?_, fun _ h => .inr (.inr h), fun j B' O' m' hj _ hn => ⟨SameB.refl _ _, hmk j _ (fun e => hn (.inr (.inl e))) hj⟩⟩⟩
  · intro j q hj
    rcases hH j _ hj with ⟨hne, hk1⟩ | ⟨_, hk1⟩ | ⟨rfl, hk1⟩
    · rcases h.blk j q hk1 with h1 | ⟨h1, h2⟩ | ⟨B', O', m', h1, h2⟩
      · exact .inl (hmk j _ hne h1)
      · exact .inr (.inl ⟨hmk j _ hne h1, h2⟩)
      · exact .inr (.inr ⟨B', O', m', hmk j _ hne h1, h2.ext hle⟩)
    · cases hk1
    · injection hk1 with hk1; injection hk1 with hk1; subst hk1
      obtain ⟨cs, e, fz, g1, g2, g3, g4⟩ := hblk.cells
      refine .inr (.inr ⟨B, O + off, m - off, hml, ⟨cs, e, fz, g1, by omega, by simp; omega, ?_⟩, fun c' e' fz' h' => by rcases hblk.high _ _ _ h' with h' | h' <;> omega⟩)
      intro k v hk
      rw [List.getElem?_drop] at hk
      obtain ⟨x, g5, g6⟩ := g4 _ v hk
      exact ⟨x, by rw [Nat.add_assoc]; exact g5, RV.ext hle v g6⟩
  · intro j es hj
    rcases hH j _ hj with ⟨_, hj⟩ | ⟨_, hj⟩ | ⟨_, hj⟩
    · exact h.nomap j es hj
    · cases hj
    · injection hj with hj; cases hj
  · intro j hj
    rcases hH j _ hj with ⟨hne, hj⟩ | ⟨rfl, _⟩ | ⟨_, hj⟩
    · exact hmk j _ hne (h.gone j hj)
    · exact hmi
    · cases hj
  · intro j j' B' O1 m1 O2 m2 hj hj'
    rcases hget j _ hj with ⟨a1, a2⟩ | ⟨_, a2⟩ | ⟨a1, a2⟩ <;> rcases hget j' _ hj' with ⟨b1, b2⟩ | ⟨_, b2⟩ | ⟨b1, b2⟩
    all_goals first | (cases a2; done) | (cases b2; done) | skip
    · exact h.inj j j' _ _ _ _ _ a2 b2
    · injection b2 with c1 c2 c3; subst c1; exact absurd (h.inj j i _ _ _ _ _ a2 hι) a1
    · injection a2 with c1 c2 c3; subst c1; exact absurd (h.inj j' i _ _ _ _ _ b2 hι) b1
    · omega
  · intro j B' O' m' hj
    rcases hget j _ hj with ⟨_, a2⟩ | ⟨_, a2⟩ | ⟨_, a2⟩
    · exact h.locs _ _ _ _ a2
    · cases a2
    · injection a2 with c1 c2 c3; subst c1; exact h.locs _ _ _ _ hι
  · intro j hj
    have hne : j ≠ i := fun e => by subst e; rw [hι] at hj; cases hj
    have hlt : j < H.rw.length := by rw [← h.len]; exact lt_of_get hj
    simp only [AH.push, AH.set]
    rw [get_app_lt (by simpa using hlt), List.getElem?_set, if_neg (Ne.symm hne)]
  · intro j B' O' m' hj
    rcases hget j _ hj with ⟨_, a2⟩ | ⟨_, a2⟩ | ⟨_, a2⟩
    · exact .inl ⟨_, _, _, a2⟩
    · cases a2
    · injection a2 with c1 c2 c3; subst c1; exact .inl ⟨_, _, _, hι⟩

/-- A number is dead from now on. -/
theorem Rep.kill {w0 : World} {ι : List Loc} {H : AH} {w : World} (h : Rep w0 ι H w) {i : Nat} (hnp : ι[i]? ≠ some .pend) :
    Rep w0 (ι.set i .dead) (H.set i none) w ∧ Ext ι H w (ι.set i .dead) (H.set i none) w := by
  have hget : ∀ j L, (ι.set i .dead)[j]? = some L → (j ≠ i ∧ ι[j]? = some L) ∨ (j = i ∧ L = .dead) := by
    intro j L hj
    rw [List.getElem?_set] at hj
    by_cases e : i = j
    · subst e
      rw [if_pos rfl] at hj
      by_cases hl : i < ι.length
      · rw [if_pos hl] at hj; injection hj with hj; exact .inr ⟨rfl, hj.symm⟩
      · rw [if_neg hl] at hj; cases hj
    · rw [if_neg e] at hj; exact .inl ⟨fun e' => e e'.symm, hj⟩
  have hmk : ∀ j L, j ≠ i → ι[j]? = some L → (ι.set i .dead)[j]? = some L := by
    intro j L hne hj
    rw [List.getElem?_set, if_neg (Ne.symm hne)]
    exact hj
  have hmi : i < ι.length → (ι.set i .dead)[i]? = some .dead := fun hl => by rw [List.getElem?_set, if_pos rfl, if_pos hl]
  have hle : LocLe ι (ι.set i .dead) := by
    intro j L hj
    by_cases e : j = i
    · subst e
      exact .inr ⟨hmi (lt_of_get hj), fun e => hnp (by rw [hj, e])⟩
    · exact .inl (hmk j L e hj)
  have hH : ∀ j L, (H.set i none).rw[j]? = some L → (j ≠ i ∧ H.rw[j]? = some L) ∨ (j = i ∧ L = none ∧ i < ι.length) := by
    intro j L hj
    simp only [AH.set] at hj
    rw [List.getElem?_set] at hj
    by_cases e : i = j
    · subst e
      rw [if_pos rfl] at hj
      by_cases hl : i < H.rw.length
      · rw [if_pos hl] at hj; injection hj with hj; exact .inr ⟨rfl, hj.symm, by rw [h.len]; exact hl⟩
      · rw [if_neg hl] at hj; cases hj
    · rw [if_neg e] at hj; exact .inl ⟨fun e' => e e'.symm, hj⟩
  refine ⟨⟨h.below, h.ro, by simp [AH.set, h.len], ?_, ?_, ?_, ?_, ?_⟩, ⟨rfl, by simp, hle, ?_, Nat.le_refl _, fun _ _ _ => rfl, ?_, fun _ h => .inr h, fun j B' O' m' hj _ hn => ⟨SameB.refl _ _, hmk j _ (fun e => hn (.inl e)) hj⟩⟩⟩
  · intro j q hj
    rcases hH j _ hj with ⟨hne, hj⟩ | ⟨_, hj, _⟩
    · rcases h.blk j q hj with h1 | ⟨h1, h2⟩ | ⟨B', O', m', h1, h2⟩
      · exact .inl (hmk j _ hne h1)
      · exact .inr (.inl ⟨hmk j _ hne h1, h2⟩)
      · exact .inr (.inr ⟨B', O', m', hmk j _ hne h1, h2.ext hle⟩)
    · cases hj
  · intro j es hj
    rcases hH j _ hj with ⟨_, hj⟩ | ⟨_, hj, _⟩
    · exact h.nomap j es hj
    · cases hj
  · intro j hj
    rcases hH j _ hj with ⟨hne, hj⟩ | ⟨rfl, _, hl⟩
    · exact hmk j _ hne (h.gone j hj)
    · exact hmi hl
  · intro j j' B' O1 m1 O2 m2 hj hj'
    rcases hget j _ hj with ⟨a1, a2⟩ | ⟨_, a2⟩ <;> rcases hget j' _ hj' with ⟨b1, b2⟩ | ⟨_, b2⟩
    all_goals first | (cases a2; done) | (cases b2; done) | skip
    exact h.inj j j' _ _ _ _ _ a2 b2
  · intro j B' O' m' hj
    rcases hget j _ hj with ⟨_, a2⟩ | ⟨_, a2⟩
    · exact h.locs _ _ _ _ a2
    · cases a2
  · intro j hj
    have hne : j ≠ i := fun e => by subst e; exact hnp hj
    simp only [AH.set]
    rw [List.getElem?_set, if_neg (Ne.symm hne)]
  · intro j B' O' m' hj
    rcases hget j _ hj with ⟨_, a2⟩ | ⟨_, a2⟩
    · exact .inl ⟨_, _, _, a2⟩
    · cases a2

/-- A number for a row of no cells, which may lie nowhere. -/
theorem Rep.pushNil {w0 : World} {ι : List Loc} {H : AH} {w : World} (h : Rep w0 ι H w) :
    Rep w0 (ι ++ [.nil]) (H.push (some (.cells []))) w ∧ Ext ι H w (ι ++ [.nil]) (H.push (some (.cells []))) w := by
  have hle := LocLe.app ι .nil
  refine ⟨⟨h.below, h.ro, by simp [AH.push, h.len], ?_, ?_, ?_, ?_, ?_⟩, ⟨rfl, by simp, hle, ?_, Nat.le_refl _, fun _ _ _ => rfl, ?_, fun _ h => .inr h, fun i B O m hi _ _ => ⟨SameB.refl _ _, by rw [get_app_lt (lt_of_get hi)]; exact hi⟩⟩⟩
  · intro i l' hi
    rcases get_app hi with hi | ⟨hi, hl'⟩
    · have hlt : i < ι.length := by rw [h.len]; exact lt_of_get hi
      rw [get_app_lt hlt]
      rcases h.blk i l' hi with h1 | h1 | ⟨B, O, m, h1, h2⟩
      · exact .inl h1
      · exact .inr (.inl h1)
      · exact .inr (.inr ⟨B, O, m, h1, h2.ext hle⟩)
    · injection hl' with hl'; injection hl' with hl'
      exact .inr (.inl ⟨by rw [hi, ← h.len]; simp, hl'⟩)
  · intro i es hi
    rcases get_app hi with hi | ⟨_, hi⟩
    · exact h.nomap i es hi
    · cases hi
  · intro i hi
    rcases get_app hi with hi | ⟨_, hi⟩
    · have hlt : i < ι.length := by rw [h.len]; exact lt_of_get hi
      rw [get_app_lt hlt]; exact h.gone i hi
    · cases hi
  · intro i j B O m O' m' hi hj
    rcases get_app hi with hi | ⟨hi, hi'⟩ <;> rcases get_app hj with hj | ⟨hj, hj'⟩
    all_goals first | (cases hi'; done) | (cases hj'; done) | skip
    exact h.inj i j B O m O' m' hi hj
  · intro i B O m hi
    rcases get_app hi with hi | ⟨hi, hi'⟩
    · exact h.locs _ _ _ _ hi
    · cases hi'
  · intro i hi
    have hlt : i < H.rw.length := by rw [← h.len]; exact lt_of_get hi
    simp only [AH.push]; exact get_app_lt hlt
  · intro i B O m hi
    rcases get_app hi with hi | ⟨hi, hi'⟩
    · exact .inl ⟨_, _, _, hi⟩
    · cases hi'

/-- A draw, or anything that leaves the blocks as they are. -/
theorem Rep.same {w0 : World} {ι : List Loc} {H : AH} {w w' : World} (h : Rep w0 ι H w) (hh : w'.heap = w.heap) (ho : w'.os = w.os) (ht : w'.tape = w.tape) (hu : w'.output = w.output) :
    Rep w0 ι H w' ∧ Ext ι H w ι H w' := by
  have hb : ∀ B : Nat, w'.heap[B]? = w.heap[B]? := fun B => by rw [hh]
  refine ⟨⟨⟨ho.trans h.below.os, ht.trans h.below.tape, hu.trans h.below.output, by rw [hh]; exact h.below.size, fun k hk => by rw [hh]; exact h.below.block k hk⟩, h.ro, h.len, ?_, h.nomap, h.gone, h.inj, fun i B O m hi => by rw [hh]; exact h.locs i B O m hi⟩,
    ⟨rfl, Nat.le_refl _, LocLe.refl ι, fun _ _ => rfl, by rw [hh]; exact Nat.le_refl _, fun B _ _ => hb B, fun i B O m hi => .inl ⟨_, _, _, hi⟩, fun _ h => h, fun i B O m hi _ _ => ⟨.of (hb B), hi⟩⟩⟩
  intro i l hi
  rcases h.blk i l hi with h1 | h1 | ⟨B, O, m, h1, h2⟩
  · exact .inl h1
  · exact .inr (.inl h1)
  · exact .inr (.inr ⟨B, O, m, h1, h2.world (hb B)⟩)

/-- More may be marked. -/
theorem Rep.more {w0 : World} {ι : List Loc} {H : AH} {w : World} (h : Rep w0 ι H w) (X : Nat → Prop) : Rep w0 ι ⟨H.ro, H.rw, X⟩ w :=
  ⟨h.below, h.ro, h.len, h.blk, h.nomap, h.gone, h.inj, h.locs⟩
theorem Ext.more {ι ι' : List Loc} {H H' : AH} {w w' : World} (h : Ext ι H w ι' H' w') {X : Nat → Prop} (hx : ∀ i, H'.wr i → X i) : Ext ι H w ι' ⟨H'.ro, H'.rw, X⟩ w' :=
  ⟨h.ro, h.len, h.loc, h.pend, h.size, h.frame, h.img, fun i hi => hx i (h.mark i hi), fun i B O m hi hB hn => h.still i B O m hi hB fun e => hn (hx i e)⟩
theorem AH.set_set' (H : AH) (i : Nat) (b c : Option ABlk) : (H.set i b).set i c = H.set i c := by
  simp only [AH.set, AH.mk.injEq, true_and, List.set_set]
  exact funext fun j => propext ⟨fun h => h.elim .inl id, .inr⟩
theorem Rep.drew {w0 : World} {ι : List Loc} {H : AH} {w : World} (h : Rep w0 ι H w) : Rep w0 ι H w.drew ∧ Ext ι H w ι H w.drew := h.same rfl rfl rfl rfl

end Go.Abs
