/- The document's arrays of disks: made anew, copied. -/
import Derived.Test.YtickckpndpeppaaDM5z
namespace Go.Proofs.Ytickckpndpeppaa
open Go Go.Abs Go.Abs.GF
set_option linter.unusedVariables false
set_option linter.unusedSimpArgs false
set_option maxHeartbeats 4000000
attribute [local irreducible] ASpec AWp WP AOps DOps

abbrev RFs := List RF
def ownX (P : Nat) (dv lv : AV) (ds : List RD) : List Nat := P :: (blkOf dv ++ (blkOf lv ++ ds.flatMap fun d => blkOf d.sv))
/-- An array that is being made, out of a memory. -/
structure BldR (H0 H : AH) (P n : Nat) (dv lv : AV) (ds : List RD) (fl : List RF) (fu : Nat) (off : Bool) : Prop where
  hd : H.cells? P = some [dv, .int .i64 n, lv, .int .i64 fu, .bool off]
  acc : Acc 2 H0 H dv ds.length (rdC ds)
  accL : Acc 3 H0 H lv fl.length (rfC fl)
  dk : ∀ d, d < ds.length → OkRD H (ownX P dv lv ds) n (ds.getD d default)
  fw : ∀ f ∈ fl, OkRow H (ownX P dv lv ds) f.w f.f.data
  nd : (ownX P dv lv ds).Nodup
  new : ∀ i, i ∈ ownX P dv lv ds ∨ i ∈ rowsR ds fl → H0.n ≤ i ∧ i < H.n
theorem ownX_of {P : Nat} {dv lv : AV} {ds : List RD} {i : Nat} (h : i ∈ ownX P dv lv ds) : i = P ∨ i ∈ blkOf dv ∨ i ∈ blkOf lv ∨ ∃ d ∈ ds, i ∈ blkOf d.sv := by
  simpa only [ownX, List.mem_cons, List.mem_append, List.mem_flatMap] using h
theorem ownX_mk {P : Nat} {dv lv : AV} {ds : List RD} {i : Nat} (h : i = P ∨ i ∈ blkOf dv ∨ i ∈ blkOf lv ∨ ∃ d ∈ ds, i ∈ blkOf d.sv) : i ∈ ownX P dv lv ds := by
  simpa only [ownX, List.mem_cons, List.mem_append, List.mem_flatMap] using h
theorem rowsR_add {ds : List RD} {fl : List RF} {x : RD} {i : Nat} (h : i ∈ rowsR (ds ++ [x]) fl) : i ∈ rowsR ds fl ∨ ∃ w ∈ x.ws, i ∈ blkOf w := by
  simp only [rowsR, List.mem_append, List.mem_flatMap, List.mem_cons, List.not_mem_nil, or_false] at h ⊢
  rcases h with ⟨d, hd | rfl, h⟩ | h
  · exact .inl (.inl ⟨d, hd, h⟩)
  · exact .inr h
  · exact .inl (.inr h)
theorem rowsR_addF {ds : List RD} {fl : List RF} {x : RF} {i : Nat} (h : i ∈ rowsR ds (fl ++ [x])) : i ∈ rowsR ds fl ∨ i ∈ blkOf x.w := by
  simp only [rowsR, List.mem_append, List.mem_flatMap, List.mem_cons, List.not_mem_nil, or_false] at h ⊢
  rcases h with h | ⟨f, hf | rfl, h⟩
  · exact .inl (.inl h)
  · exact .inl (.inr ⟨f, hf, h⟩)
  · exact .inr h
section
variable {H0 H M : AH} {P n fu : Nat} {dv lv : AV} {ds : List RD} {fl : List RF} {off : Bool}
theorem rfC_add {l : List RF} {x : RF} : rfC (l ++ [x]) = rfC l ++ rf1 x := by simp [rfC]
theorem rdC_add {l : List RD} {x : RD} : rdC (l ++ [x]) = rdC l ++ rd1 x := by simp [rdC]
theorem acc_set {sz : Nat} {H0 H : AH} {b : AV} {k : Nat} {cs : List AV} (a : Acc sz H0 H b k cs) {P : Nat} (hP : H0.n ≤ P) (hb : P ∉ blkOf b) (X : Option ABlk) : Acc sz H0 (H.set P X) b k cs := by
  refine ⟨a.g.set hP _, a.len, ?_⟩
  rcases a.is with h | ⟨B, rfl, h2, h3⟩
  · exact .inl h
  · exact .inr ⟨B, rfl, h2, (Chg.set H P X (S := [P]) (by simp)).cells (by simp; rintro rfl; exact hb (by simp [blkOf])) h3⟩
theorem acc_chg {sz : Nat} {H0 H H' : AH} {b : AV} {k : Nat} {cs : List AV} (a : Acc sz H0 H b k cs) {S : List Nat} (c : Chg S H H') (hS : ∀ i ∈ S, H0.n ≤ i) (hb : ∀ i ∈ blkOf b, i ∉ S) : Acc sz H0 H' b k cs := by
  refine ⟨((a.g.chg S).trans c).grew hS, a.len, ?_⟩
  rcases a.is with h | ⟨B, rfl, h2, h3⟩
  · exact .inl h
  · exact .inr ⟨B, rfl, h2, c.cells (hb B (by simp [blkOf])) h3⟩
/-- One disk more. -/
theorem BldR.addD (b : BldR H0 H P n dv lv ds fl fu off) (g : Grew H M) {x : RD} (hx : OkRD M (blkOf x.sv) n x) (hn : (blkOf x.sv).Nodup) (hb : ∀ i, i ∈ blkOf x.sv ∨ (∃ w ∈ x.ws, i ∈ blkOf w) → H.n ≤ i ∧ i < M.n) (hk : ds.length < 255) :
    ∃ H', appendTo 2 32 M 1 (rd1 x) dv = some (.slice ⟨false, M.n, 0⟩ (ds.length + 1) (.grow 2), H') ∧ H'.cells? P = some [dv, .int .i64 n, lv, .int .i64 fu, .bool off] ∧ P < H'.n ∧
      BldR H0 (H'.set P (some (.cells [.slice ⟨false, M.n, 0⟩ (ds.length + 1) (.grow 2), .int .i64 n, lv, .int .i64 fu, .bool off]))) P n (.slice ⟨false, M.n, 0⟩ (ds.length + 1) (.grow 2)) lv (ds ++ [x]) fl fu off := by
  obtain ⟨H', a1, a2, a3, a4⟩ := (b.acc.grew g).app' (by' := 32) (k := 1) (news := rd1 x) rfl (by omega) (by omega)
  have nd := b.nd
  simp only [ownX, List.nodup_cons, List.mem_append, not_or, List.nodup_append, List.mem_flatMap] at nd
  obtain ⟨⟨n1, n2, n3⟩, n4, ⟨n5, n6, n7⟩, n8⟩ := nd
  have hlt : ∀ i ∈ ownX P dv lv ds, i < H.n := fun i hi => (b.new i (.inl hi)).2
  have hP := a4.cells n1 (g.cells_some b.hd)
  have hPn : P < H.n := cells_lt b.hd
  have pP : H0.n ≤ P := (b.new P (.inl (ownX_mk (.inl rfl)))).1
  have gn := g.n
  have g0 := b.acc.g.n
  have dlow : ∀ i ∈ blkOf dv, H0.n ≤ i ∧ i < H.n := fun i hi => b.new i (.inl (ownX_mk (.inr (.inl hi))))
  refine ⟨H', a1, hP, cells_lt hP, ?_⟩
  generalize hX : [.slice ⟨false, M.n, 0⟩ (ds.length + 1) (.grow 2), .int .i64 n, lv, .int .i64 fu, .bool off] = X
  have cM : Chg (P :: blkOf dv) M (H'.set P (some (.cells X))) := (a4.mono fun i hi => List.mem_cons_of_mem _ hi).thenSet _ (.inl (by simp))
  have cH : Chg (P :: blkOf dv) H (H'.set P (some (.cells X))) := (g.chg _).trans cM
  have hown : ∀ i ∈ ownX P (.slice ⟨false, M.n, 0⟩ (ds.length + 1) (.grow 2)) lv (ds ++ [x]), i ∈ ownX P dv lv ds ∨ i = M.n ∨ i ∈ blkOf x.sv := fun i hi => by
    rcases ownX_of hi with h | h | h | ⟨d, hd, h⟩
    · exact .inl (ownX_mk (.inl h))
    · simp only [blkOf, List.mem_cons, List.not_mem_nil, or_false] at h; exact .inr (.inl h)
    · exact .inl (ownX_mk (.inr (.inr (.inl h))))
    · rcases List.mem_append.1 hd with hd | hd
      · exact .inl (ownX_mk (.inr (.inr (.inr ⟨d, hd, h⟩))))
      · simp only [List.mem_cons, List.not_mem_nil, or_false] at hd; rw [hd] at h; exact .inr (.inr h)
  have hownH : ∀ i ∈ ownX P (.slice ⟨false, M.n, 0⟩ (ds.length + 1) (.grow 2)) lv (ds ++ [x]), i ∈ ownX P dv lv ds ∨ H.n ≤ i := fun i hi => by
    rcases hown i hi with h | h | h
    · exact .inl h
    · exact .inr (by omega)
    · exact .inr (hb i (.inl h)).1
  have dmem : ∀ d, d < ds.length → ds.getD d default ∈ ds := fun d hd => rd_mem hd
  refine ⟨by rw [← hX]; exact set_cells _ _ (cells_lt hP), ?_, ?_, ?_, ?_, ?_, ?_⟩
  · rw [List.length_append, rdC_add]
    exact acc_set a2 pP (by simp [blkOf]; omega) _
  · refine acc_chg b.accL cH (fun i hi => ?_) (fun i hi hm => ?_)
    · rcases List.mem_cons.1 hi with rfl | hi
      · exact pP
      · exact (dlow i hi).1
    · rcases List.mem_cons.1 hm with rfl | hm
      · exact n2 hi
      · exact n8 i hm i (.inl hi) rfl
  · intro d hd
    rw [getD_add hd]
    split
    · rename_i hdl
      have hok := b.dk d hdl
      refine hok.chg cH (fun i hi hm => ?_) (fun w hw i hi hm => ?_) hownH
      · rcases List.mem_cons.1 hm with rfl | hm
        · exact n3 ⟨_, dmem d hdl, hi⟩
        · exact n8 i hm i (.inr ⟨_, dmem d hdl, hi⟩) rfl
      · have h1 := (hok.rows w hw i hi).1
        rcases List.mem_cons.1 hm with rfl | hm
        · exact h1 (ownX_mk (.inl rfl))
        · exact h1 (ownX_mk (.inr (.inl hm)))
    · have hall : ∀ i, i ∈ blkOf x.sv ∨ (∃ w ∈ x.ws, i ∈ blkOf w) → i ∉ P :: blkOf dv := fun i hi hm => by
        have := hb i hi
        rcases List.mem_cons.1 hm with rfl | hm
        · omega
        · have := dlow i hm; omega
      have h1 := hx.chg cM (M' := blkOf x.sv) (fun i hi => hall i (.inl hi)) (fun w hw i hi => hall i (.inr ⟨w, hw, hi⟩)) fun i hi => .inl hi
      obtain ⟨sv, ws, ss⟩ := x
      unfold OkRD at h1 ⊢
      cases ss with
      | none => exact h1
      | some ss =>
        obtain ⟨q1, q2, q3, q4⟩ := h1
        simp only at q1 q2 q3 q4
        refine ⟨q1, q2, q3, fun j hj => ⟨(q4 j hj).b, fun i hi hm => ?_, (q4 j hj).lt, (q4 j hj).len⟩⟩
        have hwm : ws.getD j .unk ∈ ws := by
          rw [show ws.getD j .unk = ws[j]'(by omega) by simp [List.getD, show j < ws.length by omega]]; exact List.getElem_mem _
        have := hb i (.inr ⟨_, hwm, hi⟩)
        rcases hown i hm with h2 | h2 | h2
        · have := hlt i h2; omega
        · omega
        · exact (q4 j hj).off i hi h2
  · intro f hf
    have hok := b.fw f hf
    refine hok.chg cH (fun i hi hm => ?_) hownH
    have h1 := hok.off i hi
    rcases List.mem_cons.1 hm with rfl | hm
    · exact h1 (ownX_mk (.inl rfl))
    · exact h1 (ownX_mk (.inr (.inl hm)))
  · have lo : ∀ i, i ∈ blkOf lv ∨ (∃ d ∈ ds, i ∈ blkOf d.sv) → i < H.n := fun i hi => hlt i (ownX_mk (.inr (.inr hi)))
    simp only [ownX, List.nodup_cons, List.mem_append, not_or, List.nodup_append, List.mem_flatMap, blkOf, List.flatMap_append, List.flatMap_cons, List.flatMap_nil, List.append_nil, List.mem_cons, List.not_mem_nil, or_false]
    refine ⟨⟨by omega, n2, fun h => n3 h, fun h => by have := hb P (.inl h); omega⟩, ⟨by simp, List.nodup_nil⟩, ⟨n5, ⟨n6, hn, ?_⟩, ?_⟩, ?_⟩
    · rintro i hi j hj rfl; have := lo i (.inr hi); have := hb i (.inl hj); omega
    · rintro i hi j (hj | hj) rfl
      · exact n7 i hi i hj rfl
      · have := lo i (.inl hi); have := hb i (.inl hj); omega
    · rintro i rfl j (hj | hj | hj) rfl
      · have := lo _ (.inl hj); omega
      · have := lo _ (.inr hj); omega
      · have := hb _ (.inl hj); omega
  · intro i hi
    rw [set_n]
    have h3 : H'.n = M.n + 1 := a3
    rcases hi with hi | hi
    · rcases hown i hi with h | h | h
      · have := b.new i (.inl h); omega
      · omega
      · have := hb i (.inl h); omega
    · rcases rowsR_add hi with h | h
      · have := b.new i (.inr h); omega
      · have := hb i (.inr h); omega
/-- One write more. -/
theorem BldR.addF (b : BldR H0 H P n dv lv ds fl fu off) (g : Grew H M) {x : RF} (hx : IsBytes M x.w x.f.data) (hl : x.f.data.length = 64) (hb : ∀ i ∈ blkOf x.w, H.n ≤ i ∧ i < M.n) (hk : fl.length < 1000000) :
    ∃ H', appendTo 3 40 M 1 (rf1 x) lv = some (.slice ⟨false, M.n, 0⟩ (fl.length + 1) (.grow 3), H') ∧ H'.cells? P = some [dv, .int .i64 n, lv, .int .i64 fu, .bool off] ∧ P < H'.n ∧
      BldR H0 (H'.set P (some (.cells [dv, .int .i64 n, .slice ⟨false, M.n, 0⟩ (fl.length + 1) (.grow 3), .int .i64 fu, .bool off]))) P n dv (.slice ⟨false, M.n, 0⟩ (fl.length + 1) (.grow 3)) ds (fl ++ [x]) fu off := by
  obtain ⟨H', a1, a2, a3, a4⟩ := (b.accL.grew g).app' (by' := 40) (k := 1) (news := rf1 x) rfl (by omega) (by omega)
  have nd := b.nd
  simp only [ownX, List.nodup_cons, List.mem_append, not_or, List.nodup_append, List.mem_flatMap] at nd
  obtain ⟨⟨n1, n2, n3⟩, n4, ⟨n5, n6, n7⟩, n8⟩ := nd
  have hlt : ∀ i ∈ ownX P dv lv ds, i < H.n := fun i hi => (b.new i (.inl hi)).2
  have hP := a4.cells n2 (g.cells_some b.hd)
  have hPn : P < H.n := cells_lt b.hd
  have pP : H0.n ≤ P := (b.new P (.inl (ownX_mk (.inl rfl)))).1
  have gn := g.n
  have g0 := b.acc.g.n
  have llow : ∀ i ∈ blkOf lv, H0.n ≤ i ∧ i < H.n := fun i hi => b.new i (.inl (ownX_mk (.inr (.inr (.inl hi)))))
  refine ⟨H', a1, hP, cells_lt hP, ?_⟩
  generalize hX : [dv, .int .i64 n, .slice ⟨false, M.n, 0⟩ (fl.length + 1) (.grow 3), .int .i64 fu, .bool off] = X
  have cM : Chg (P :: blkOf lv) M (H'.set P (some (.cells X))) := (a4.mono fun i hi => List.mem_cons_of_mem _ hi).thenSet _ (.inl (by simp))
  have cH : Chg (P :: blkOf lv) H (H'.set P (some (.cells X))) := (g.chg _).trans cM
  have hown : ∀ i ∈ ownX P dv (.slice ⟨false, M.n, 0⟩ (fl.length + 1) (.grow 3)) ds, i ∈ ownX P dv lv ds ∨ i = M.n := fun i hi => by
    rcases ownX_of hi with h | h | h | h
    · exact .inl (ownX_mk (.inl h))
    · exact .inl (ownX_mk (.inr (.inl h)))
    · simp only [blkOf, List.mem_cons, List.not_mem_nil, or_false] at h; exact .inr h
    · exact .inl (ownX_mk (.inr (.inr (.inr h))))
  have hownH : ∀ i ∈ ownX P dv (.slice ⟨false, M.n, 0⟩ (fl.length + 1) (.grow 3)) ds, i ∈ ownX P dv lv ds ∨ H.n ≤ i := fun i hi => (hown i hi).imp id fun h => by omega
  refine ⟨by rw [← hX]; exact set_cells _ _ (cells_lt hP), ?_, ?_, ?_, ?_, ?_, ?_⟩
  · refine acc_chg b.acc cH (fun i hi => ?_) (fun i hi hm => ?_)
    · rcases List.mem_cons.1 hi with rfl | hi
      · exact pP
      · exact (llow i hi).1
    · rcases List.mem_cons.1 hm with rfl | hm
      · exact n1 hi
      · exact n8 i hi i (.inl hm) rfl
  · rw [List.length_append, rfC_add]
    exact acc_set a2 pP (by simp [blkOf]; omega) _
  · intro d hd
    have hok := b.dk d hd
    refine hok.chg cH (fun i hi hm => ?_) (fun w hw i hi hm => ?_) hownH
    · rcases List.mem_cons.1 hm with rfl | hm
      · exact n3 ⟨_, rd_mem hd, hi⟩
      · exact n7 i hm i ⟨_, rd_mem hd, hi⟩ rfl
    · have h1 := (hok.rows w hw i hi).1
      rcases List.mem_cons.1 hm with rfl | hm
      · exact h1 (ownX_mk (.inl rfl))
      · exact h1 (ownX_mk (.inr (.inr (.inl hm))))
  · intro f hf
    rcases List.mem_append.1 hf with hf | hf
    · have hok := b.fw f hf
      refine hok.chg cH (fun i hi hm => ?_) hownH
      have h1 := hok.off i hi
      rcases List.mem_cons.1 hm with rfl | hm
      · exact h1 (ownX_mk (.inl rfl))
      · exact h1 (ownX_mk (.inr (.inr (.inl hm))))
    · simp only [List.mem_cons, List.not_mem_nil, or_false] at hf
      rw [hf]
      refine ⟨hx.chg cM (off_of hx fun i hi hm => ?_), fun i hi hm => ?_, fun i hi => by rw [set_n]; have := hb i hi; have := a3; omega, hl⟩
      · have := hb i hi
        rcases List.mem_cons.1 hm with rfl | hm
        · omega
        · have := llow i hm; omega
      · have := hb i hi
        rcases hown i hm with h2 | h2
        · have := hlt i h2; omega
        · omega
  · have lo : ∀ i, i ∈ blkOf dv ∨ (∃ d ∈ ds, i ∈ blkOf d.sv) → i < H.n := fun i hi => hlt i (ownX_mk (.inr (hi.imp id .inr)))
    simp only [ownX, List.nodup_cons, List.mem_append, not_or, List.nodup_append, List.mem_flatMap, List.mem_cons, List.not_mem_nil, or_false]
    have e : blkOf (.slice ⟨false, M.n, 0⟩ (fl.length + 1) (.grow 3)) = [M.n] := rfl
    rw [e]
    simp only [List.mem_cons, List.not_mem_nil, or_false]
    refine ⟨⟨n1, by omega, fun h => n3 h⟩, n4, ⟨by simp, n6, ?_⟩, ?_⟩
    · rintro i rfl j hj rfl; have := lo _ (.inr hj); omega
    · rintro i hi j (hj | hj) rfl
      · have := lo _ (.inl hi); omega
      · exact n8 i hi i (.inr hj) rfl
  · intro i hi
    rw [set_n]
    have h3 : H'.n = M.n + 1 := a3
    rcases hi with hi | hi
    · rcases hown i hi with h | h
      · have := b.new i (.inl h); omega
      · omega
    · rcases rowsR_addF hi with h | h
      · have := b.new i (.inr h); omega
      · have := hb i h; omega
theorem BldR.ref (b : BldR H0 H P n dv lv ds fl fu off) (hn : 0 < n ∧ n ≤ 4096) (hd : 0 < ds.length ∧ ds.length ≤ 255) (hf : fu < 9223372036854775808) (hw : ∀ f ∈ fl, f.f.disk < ds.length ∧ f.f.pos < n ∧ f.f.data.length = 64) :
    ∃ D, IsRef H P D lv ds fl ⟨n, ds.map (·.ss), fl.map (·.f), fu, off⟩ ∧ ∀ i ∈ allR P D lv ds fl, H0.n ≤ i := by
  rcases b.acc.is with ⟨_, h1⟩ | ⟨D, rfl, h2, h3⟩
  · omega
  have e : ownX P (.slice ⟨false, D, 0⟩ ds.length (.grow 2)) lv ds = ownR P D lv ds := rfl
  refine ⟨D, ⟨b.hd, h3, ?_, ?_, ?_, rfl, rfl, ?_, hn, hd, hf, ?_⟩, fun i hi => (b.new i ?_).1⟩
  · rw [← e]; exact b.dk
  · rcases b.accL.is with ⟨h5, h6⟩ | ⟨B, h5, _, h6⟩
    · exact .inl ⟨h5, List.eq_nil_of_length_eq_zero h6⟩
    · exact .inr ⟨B, h5, h6⟩
  · rw [← e]; exact b.fw
  · intro f hf
    obtain ⟨y, hy, rfl⟩ := List.mem_map.1 hf
    exact hw y hy
  · rw [← e]; exact b.nd
  · rw [e]; exact allR_of hi
theorem OkRow.clr {M : List Nat} {w : AV} {xs : List UInt8} (h : OkRow H M w xs) : OkRow H.clr M w xs := ⟨h.b.clr, h.off, h.lt, h.len⟩
theorem OkRow.also {X : Nat → Prop} {M : List Nat} {w : AV} {xs : List UInt8} (h : OkRow H M w xs) : OkRow (H.also X) M w xs := ⟨h.b.also, h.off, h.lt, h.len⟩
theorem OkRD.clr {M : List Nat} {n : Nat} {x : RD} (h : OkRD H M n x) : OkRD H.clr M n x := by
  obtain ⟨sv, ws, ss⟩ := x
  unfold OkRD at *
  cases ss with
  | none => exact h
  | some ss => exact ⟨h.1, h.2.1, h.2.2.1, fun i hi => (h.2.2.2 i hi).clr⟩
theorem BldR.clr (b : BldR H0 H P n dv lv ds fl fu off) : BldR H0 H.clr P n dv lv ds fl fu off :=
  ⟨b.hd, ⟨⟨b.acc.g.ro, b.acc.g.n, b.acc.g.old, fun i hi => hi.elim⟩, b.acc.len, b.acc.is⟩, ⟨⟨b.acc.g.ro, b.acc.g.n, b.acc.g.old, fun i hi => hi.elim⟩, b.accL.len, b.accL.is⟩, fun d hd => (b.dk d hd).clr, fun f hf => (b.fw f hf).clr, b.nd, b.new⟩
theorem BldR.also {X : Nat → Prop} (b : BldR H0 H P n dv lv ds fl fu off) (g : ∀ i, X i → H0.wr i ∨ H0.n ≤ i) : BldR H0 (H.also X) P n dv lv ds fl fu off :=
  ⟨b.hd, ⟨⟨b.acc.g.ro, b.acc.g.n, b.acc.g.old, fun i hi => hi.elim (b.acc.g.wr i) (g i)⟩, b.acc.len, b.acc.is⟩, ⟨⟨b.acc.g.ro, b.acc.g.n, b.acc.g.old, fun i hi => hi.elim (b.acc.g.wr i) (g i)⟩, b.accL.len, b.accL.is⟩, fun d hd => (b.dk d hd).also, fun f hf => (b.fw f hf).also, b.nd, b.new⟩
end
set_option maxRecDepth 100000 in
theorem refNew_spec (H : AH) (disks count : Nat) (hd : 1 ≤ disks ∧ disks ≤ 255) (hc : 1 ≤ count ∧ count ≤ 4096) : ASpec Try.prog 27 [.int .i64 disks, .int .i64 count] H fun r H' =>
    ∃ P D ds, r = .tup [.ptr ⟨false, P, 0⟩, .int .i64 0] ∧ IsRef H' P D .nilslice ds [] (newArr disks count) ∧ Grew H H' ∧ ∀ i ∈ allR P D .nilslice ds [], H.n ≤ i := by
  have e1 : ¬ ((disks : Int) < 1) := by omega
  have e2 : ¬ ((disks : Int) > 255) := by omega
  have e3 : ¬ ((count : Int) < 1) := by omega
  have e4 : ¬ ((count : Int) > 4096) := by omega
  refine aspec_fn (rs := [.tmp 4, .tmp 5]) (n := 42) Try.func27 rfl rfl rfl rfl (by kernel_rfl) (Nat.le_of_ble_eq_true rfl) ?_
  (try simp (maxSteps := 4000000) (disch := first | omega | (simp only [push_n, set_n, clr_n, also_n, List.length_replicate, List.length_set, List.length_map, List.length_append, List.length_take, List.length_drop, List.length_cons, List.length_nil]; first | done | omega) | (with_reducible decide)) only [go_sem, Int.reduceEq, Int.reduceNe, Int.reduceLT, Int.reduceLE, Nat.reduceEqDiff, Int.reduceToNat, Nat.reduceSub, Nat.reduceAdd, Nat.reduceMul, Nat.reduceLT, Nat.reduceLeDiff, Int.reduceNeg, Int.reduceAdd, Int.reduceSub, Int.reduceMul, UInt8.reduceToNat, e1, e2, e3, e4]; repeat first | ((first | with_reducible refine split2_pk (by omega) ?_ | with_reducible refine split2_nk (by omega) ?_); intro hsq; try simp (maxSteps := 4000000) (disch := first | omega | (simp only [push_n, set_n, clr_n, also_n, List.length_replicate, List.length_set, List.length_map, List.length_append, List.length_take, List.length_drop, List.length_cons, List.length_nil]; first | done | omega) | (with_reducible decide)) only [go_sem, Int.reduceEq, Int.reduceNe, Int.reduceLT, Int.reduceLE, Nat.reduceEqDiff, Int.reduceToNat, Nat.reduceSub, Nat.reduceAdd, Nat.reduceMul, Nat.reduceLT, Nat.reduceLeDiff, Int.reduceNeg, Int.reduceAdd, Int.reduceSub, Int.reduceMul, UInt8.reduceToNat, e1, e2, e3, e4, hsq]))
  refine wp_loopS (σ := Nat × AV × RDs) (by kernel_rfl) (fun (i, dv, ds) => [(0, .int .i64 (disks : Nat)), (1, .int .i64 (count : Nat)), (6, .ptr ⟨false, H.n, 0⟩), (7, .int .i64 (i : Nat))]) (fun (i, dv, ds) H' => i ≤ disks ∧ BldR H H' H.n count dv .nilslice ds [] 0 false ∧ ds.map (·.ss) = List.replicate i (some (blankS count))) (fun (i, dv, ds) => disks - i) (0, .nilslice, []) (by simp (maxSteps := 4000000) (disch := first | omega | (simp only [push_n, set_n, clr_n, also_n, List.length_replicate, List.length_set, List.length_map, List.length_append, List.length_take, List.length_drop, List.length_cons, List.length_nil]; first | done | omega) | (with_reducible decide)) only [go_sem, Int.reduceEq, Int.reduceNe, Int.reduceLT, Int.reduceLE, Nat.reduceEqDiff, Int.reduceToNat, Nat.reduceSub, Nat.reduceAdd, Nat.reduceMul, Nat.reduceLT, Nat.reduceLeDiff, Int.reduceNeg, Int.reduceAdd, Int.reduceSub, Int.reduceMul, UInt8.reduceToNat]) ?_ ?_
  · refine ⟨by omega, ⟨push_cells _ _, Acc.nil (Grew.push _ _), Acc.nil (Grew.push _ _), by simp, by simp, by simp [ownX, blkOf], ?_⟩, rfl⟩
    simp [ownX, blkOf, rowsR, push_n]
  · rintro ⟨i, dv, ds⟩ H1 ⟨hi, b, hss⟩
    have hlen : ds.length = i := by have := congrArg List.length hss; simpa using this
    by_cases hik : i < disks
    · have hP1 := b.hd
      have hPlt := cells_lt hP1
      have q1 := gq_live (H := H1) (i := H.n) (by rw [hP1]; rfl)
      (try simp (maxSteps := 4000000) (disch := first | omega | (simp only [push_n, set_n, clr_n, also_n, List.length_replicate, List.length_set, List.length_map, List.length_append, List.length_take, List.length_drop, List.length_cons, List.length_nil]; first | done | omega) | (with_reducible decide)) only [go_sem, Int.reduceEq, Int.reduceNe, Int.reduceLT, Int.reduceLE, Nat.reduceEqDiff, Int.reduceToNat, Nat.reduceSub, Nat.reduceAdd, Nat.reduceMul, Nat.reduceLT, Nat.reduceLeDiff, Int.reduceNeg, Int.reduceAdd, Int.reduceSub, Int.reduceMul, UInt8.reduceToNat]; repeat first | ((first | with_reducible refine split2_pk (by omega) ?_ | with_reducible refine split2_nk (by omega) ?_); intro hsq; try simp (maxSteps := 4000000) (disch := first | omega | (simp only [push_n, set_n, clr_n, also_n, List.length_replicate, List.length_set, List.length_map, List.length_append, List.length_take, List.length_drop, List.length_cons, List.length_nil]; first | done | omega) | (with_reducible decide)) only [go_sem, Int.reduceEq, Int.reduceNe, Int.reduceLT, Int.reduceLE, Nat.reduceEqDiff, Int.reduceToNat, Nat.reduceSub, Nat.reduceAdd, Nat.reduceMul, Nat.reduceLT, Nat.reduceLeDiff, Int.reduceNeg, Int.reduceAdd, Int.reduceSub, Int.reduceMul, UInt8.reduceToNat, hsq]))
      (refine awp_drawH [34] [eqM H1.clr,  fun K => Grew H1.clr K,  fun K => Grew H1.clr K,  fun K => (K.cells? H.n).isSome = true,  fun _ => True] [(0, some 3), (1, some 2), (2, some 2), (3, some 2), (4, some 2), (5, some 0), (6, none), (7, none), (8, none), (9, some 0), (10, some 0), (11, none)] [6, 7, 8, 11] (by kernel_rfl) (by rfl) (by decide +kernel) (rofP_0 ?_) ?_; rotate_left; (conv => arg 5; simp only [List.map_cons, List.map_nil, List.getElem?_toArray, List.getElem?_cons_zero, List.getElem?_cons_succ]); rotate_left)
      · rfl
      (try simp (maxSteps := 4000000) (disch := first | omega | (simp only [push_n, set_n, clr_n, also_n, List.length_replicate, List.length_set, List.length_map, List.length_append, List.length_take, List.length_drop, List.length_cons, List.length_nil]; first | done | omega) | (with_reducible decide)) only [go_sem, Int.reduceEq, Int.reduceNe, Int.reduceLT, Int.reduceLE, Nat.reduceEqDiff, Int.reduceToNat, Nat.reduceSub, Nat.reduceAdd, Nat.reduceMul, Nat.reduceLT, Nat.reduceLeDiff, Int.reduceNeg, Int.reduceAdd, Int.reduceSub, Int.reduceMul, UInt8.reduceToNat, hP1, q1, rigP_gs, rigP_g1]; repeat first | ((first | with_reducible refine split2_pk (by omega) ?_ | with_reducible refine split2_nk (by omega) ?_); intro hsq; try simp (maxSteps := 4000000) (disch := first | omega | (simp only [push_n, set_n, clr_n, also_n, List.length_replicate, List.length_set, List.length_map, List.length_append, List.length_take, List.length_drop, List.length_cons, List.length_nil]; first | done | omega) | (with_reducible decide)) only [go_sem, Int.reduceEq, Int.reduceNe, Int.reduceLT, Int.reduceLE, Nat.reduceEqDiff, Int.reduceToNat, Nat.reduceSub, Nat.reduceAdd, Nat.reduceMul, Nat.reduceLT, Nat.reduceLeDiff, Int.reduceNeg, Int.reduceAdd, Int.reduceSub, Int.reduceMul, UInt8.reduceToNat, hP1, q1, rigP_gs, rigP_g1, hsq]))
      refine (blank_spec _ count hc.1 hc.2).mono ?_
      rintro r H2 ⟨x, rfl, hxs, hxk, hxn, hxb, hx1, g1⟩
      have hr1 : rd1 x = [x.sv, .bool false] := by simp only [rd1, hxs, Option.isNone_some]
      obtain ⟨H3, a1, a2, a3, b3⟩ := b.clr.addD (g1.trans (Grew.push H2 (some (.cells [x.sv, .bool false])))) (x := x) (hxk.chg ((Grew.push _ _).chg []) (by simp) (by simp) fun i hi => .inl hi) hxn (fun i hi => by rw [push_n]; have := hxb i hi; omega) (by omega)
      rw [hr1] at a1
      simp only [push_n] at a1 b3
      have hg6 := fun {X : Option ABlk} => g1.trans (Grew.push H2 X)
      have key := b3.also (X := H1.wr) b.acc.g.wr
      rw [also_set] at key
      (try simp (maxSteps := 4000000) (disch := first | omega | (simp only [push_n, set_n, clr_n, also_n, List.length_replicate, List.length_set, List.length_map, List.length_append, List.length_take, List.length_drop, List.length_cons, List.length_nil]; first | done | omega) | (with_reducible decide)) only [go_sem, Int.reduceEq, Int.reduceNe, Int.reduceLT, Int.reduceLE, Nat.reduceEqDiff, Int.reduceToNat, Nat.reduceSub, Nat.reduceAdd, Nat.reduceMul, Nat.reduceLT, Nat.reduceLeDiff, Int.reduceNeg, Int.reduceAdd, Int.reduceSub, Int.reduceMul, UInt8.reduceToNat, hP1, a1, a2, ↓hx1, g1, hg6]; repeat first | ((first | with_reducible refine split2_pk (by omega) ?_ | with_reducible refine split2_nk (by omega) ?_); intro hsq; try simp (maxSteps := 4000000) (disch := first | omega | (simp only [push_n, set_n, clr_n, also_n, List.length_replicate, List.length_set, List.length_map, List.length_append, List.length_take, List.length_drop, List.length_cons, List.length_nil]; first | done | omega) | (with_reducible decide)) only [go_sem, Int.reduceEq, Int.reduceNe, Int.reduceLT, Int.reduceLE, Nat.reduceEqDiff, Int.reduceToNat, Nat.reduceSub, Nat.reduceAdd, Nat.reduceMul, Nat.reduceLT, Nat.reduceLeDiff, Int.reduceNeg, Int.reduceAdd, Int.reduceSub, Int.reduceMul, UInt8.reduceToNat, hP1, a1, a2, ↓hx1, g1, hg6, hsq]))
      (refine ⟨(i + 1, .slice ⟨false, H2.n + 1, 0⟩ (ds.length + 1) (.grow 2), ds ++ [x]), ?_⟩; and_intros; all_goals (try first | rfl | assumption | omega))
      show (ds ++ [x]).map (·.ss) = _
      rw [List.map_append, hss, List.replicate_succ']; simp [hxs]
    · obtain rfl : i = disks := by omega
      (try simp (maxSteps := 4000000) (disch := first | omega | (simp only [push_n, set_n, clr_n, also_n, List.length_replicate, List.length_set, List.length_map, List.length_append, List.length_take, List.length_drop, List.length_cons, List.length_nil]; first | done | omega) | (with_reducible decide)) only [go_sem, Int.reduceEq, Int.reduceNe, Int.reduceLT, Int.reduceLE, Nat.reduceEqDiff, Int.reduceToNat, Nat.reduceSub, Nat.reduceAdd, Nat.reduceMul, Nat.reduceLT, Nat.reduceLeDiff, Int.reduceNeg, Int.reduceAdd, Int.reduceSub, Int.reduceMul, UInt8.reduceToNat]; repeat first | ((first | with_reducible refine split2_pk (by omega) ?_ | with_reducible refine split2_nk (by omega) ?_); intro hsq; try simp (maxSteps := 4000000) (disch := first | omega | (simp only [push_n, set_n, clr_n, also_n, List.length_replicate, List.length_set, List.length_map, List.length_append, List.length_take, List.length_drop, List.length_cons, List.length_nil]; first | done | omega) | (with_reducible decide)) only [go_sem, Int.reduceEq, Int.reduceNe, Int.reduceLT, Int.reduceLE, Nat.reduceEqDiff, Int.reduceToNat, Nat.reduceSub, Nat.reduceAdd, Nat.reduceMul, Nat.reduceLT, Nat.reduceLeDiff, Int.reduceNeg, Int.reduceAdd, Int.reduceSub, Int.reduceMul, UInt8.reduceToNat, hsq]))
      obtain ⟨D, q1, q2⟩ := b.ref (by omega) (by omega) (by omega) (by simp)
      rw [hss] at q1
      exact ⟨H.n, D, ds, rfl, q1, b.acc.g, q2⟩
theorem get_getD {l : List AV} {k : Nat} (h : k < l.length) : l[k]? = some (l.getD k .unk) := by simp [List.getD, h]
set_option maxRecDepth 100000 in
theorem refCopy_spec {H : AH} {P D : Nat} {lv : AV} {ds : List RD} {fl : List RF} {A : Arr} (h : IsRef H P D lv ds fl A) (hn : A.fly.length < 1000000) : ASpec Try.prog 51 [.ptr ⟨false, P, 0⟩] H fun r H' =>
    ∃ P' D' lv' ds' fl', r = .ptr ⟨false, P', 0⟩ ∧ IsRef H' P' D' lv' ds' fl' A ∧ Grew H H' ∧ ∀ i ∈ allR P' D' lv' ds' fl', H.n ≤ i := by
  have hd := h.hd
  have dc := h.dc
  have hdn := h.dn
  have hcn := h.cnt
  have hPn := cells_lt hd
  have hDn := cells_lt dc
  have hlr := rfC_len fl
  have hlR := rdC_len ds
  have hfn : fl.length < 1000000 := by rw [← h.flen]; exact hn
  have lf := h.lenL Try.underlying76
  refine aspec_fn (rs := [.tmp 2]) (n := 125) Try.func51 rfl rfl rfl rfl (by kernel_rfl) (Nat.le_of_ble_eq_true rfl) ?_
  (try simp (maxSteps := 4000000) (disch := first | omega | (simp only [push_n, set_n, clr_n, also_n, List.length_replicate, List.length_set, List.length_map, List.length_append, List.length_take, List.length_drop, List.length_cons, List.length_nil]; first | done | omega) | (with_reducible decide)) only [go_sem, Int.reduceEq, Int.reduceNe, Int.reduceLT, Int.reduceLE, Nat.reduceEqDiff, Int.reduceToNat, Nat.reduceSub, Nat.reduceAdd, Nat.reduceMul, Nat.reduceLT, Nat.reduceLeDiff, Int.reduceNeg, Int.reduceAdd, Int.reduceSub, Int.reduceMul, UInt8.reduceToNat]; repeat first | ((first | with_reducible refine split2_pk (by omega) ?_ | with_reducible refine split2_nk (by omega) ?_); intro hsq; try simp (maxSteps := 4000000) (disch := first | omega | (simp only [push_n, set_n, clr_n, also_n, List.length_replicate, List.length_set, List.length_map, List.length_append, List.length_take, List.length_drop, List.length_cons, List.length_nil]; first | done | omega) | (with_reducible decide)) only [go_sem, Int.reduceEq, Int.reduceNe, Int.reduceLT, Int.reduceLE, Nat.reduceEqDiff, Int.reduceToNat, Nat.reduceSub, Nat.reduceAdd, Nat.reduceMul, Nat.reduceLT, Nat.reduceLeDiff, Int.reduceNeg, Int.reduceAdd, Int.reduceSub, Int.reduceMul, UInt8.reduceToNat, hsq]))
  (refine awp_drawP (hl := []) [eqM H,  fun _ => True] [(0, some 0), (1, some 0), (2, some 0), (3, some 0), (4, some 0), (5, some 0), (6, some 0), (7, some 0), (8, some 0), (9, some 0), (10, some 0), (11, some 0), (12, some 0), (13, none), (14, some 0)] [13] (by kernel_rfl) (by rfl) (by decide +kernel) (rofP_0 ?_) ?_; rotate_left; (conv => arg 5; simp only [List.map_cons, List.map_nil, List.getElem?_toArray, List.getElem?_cons_zero, List.getElem?_cons_succ]); rotate_left)
  · rfl
  (try simp (maxSteps := 4000000) (disch := first | omega | (simp only [push_n, set_n, clr_n, also_n, List.length_replicate, List.length_set, List.length_map, List.length_append, List.length_take, List.length_drop, List.length_cons, List.length_nil]; first | done | omega) | (with_reducible decide)) only [go_sem, Int.reduceEq, Int.reduceNe, Int.reduceLT, Int.reduceLE, Nat.reduceEqDiff, Int.reduceToNat, Nat.reduceSub, Nat.reduceAdd, Nat.reduceMul, Nat.reduceLT, Nat.reduceLeDiff, Int.reduceNeg, Int.reduceAdd, Int.reduceSub, Int.reduceMul, UInt8.reduceToNat, hd]; repeat first | ((first | with_reducible refine split2_pk (by omega) ?_ | with_reducible refine split2_nk (by omega) ?_); intro hsq; try simp (maxSteps := 4000000) (disch := first | omega | (simp only [push_n, set_n, clr_n, also_n, List.length_replicate, List.length_set, List.length_map, List.length_append, List.length_take, List.length_drop, List.length_cons, List.length_nil]; first | done | omega) | (with_reducible decide)) only [go_sem, Int.reduceEq, Int.reduceNe, Int.reduceLT, Int.reduceLE, Nat.reduceEqDiff, Int.reduceToNat, Nat.reduceSub, Nat.reduceAdd, Nat.reduceMul, Nat.reduceLT, Nat.reduceLeDiff, Int.reduceNeg, Int.reduceAdd, Int.reduceSub, Int.reduceMul, UInt8.reduceToNat, hd, hsq]))
  refine wp_loopS (σ := Nat × AV × RDs) (by kernel_rfl) (fun (i, dv, ds') => [(0, .ptr ⟨false, P, 0⟩), (3, .ptr ⟨false, H.n, 0⟩), (4, .int .i64 (i : Nat))]) (fun (i, dv, ds') H' => i ≤ ds.length ∧ BldR H H' H.n A.count dv .nilslice ds' [] A.fuse A.off ∧ ds'.map (·.ss) = (ds.take i).map (·.ss)) (fun (i, dv, ds') => ds.length - i) (0, .nilslice, []) (by simp (maxSteps := 4000000) (disch := first | omega | (simp only [push_n, set_n, clr_n, also_n, List.length_replicate, List.length_set, List.length_map, List.length_append, List.length_take, List.length_drop, List.length_cons, List.length_nil]; first | done | omega) | (with_reducible decide)) only [go_sem, Int.reduceEq, Int.reduceNe, Int.reduceLT, Int.reduceLE, Nat.reduceEqDiff, Int.reduceToNat, Nat.reduceSub, Nat.reduceAdd, Nat.reduceMul, Nat.reduceLT, Nat.reduceLeDiff, Int.reduceNeg, Int.reduceAdd, Int.reduceSub, Int.reduceMul, UInt8.reduceToNat]) ?_ ?_
  · refine ⟨by omega, ⟨push_cells _ _, Acc.nil (Grew.push _ _), Acc.nil (Grew.push _ _), by simp, by simp, by simp [ownX, blkOf], ?_⟩, rfl⟩
    simp [ownX, blkOf, rowsR, push_n]
  rintro ⟨i, dv, ds'⟩ H1 ⟨hi, b, hss⟩
  have hlen : ds'.length = i := by have := congrArg List.length hss; simp at this; omega
  have g1 := b.acc.g
  have hd1 := g1.cells_some hd
  have dc1 := g1.cells_some dc
  by_cases hik : i < ds.length
  · have c0 := rdC_0 (l := ds) (i := i) hik
    have c1 := rdC_1 (l := ds) (i := i) hik
    (try simp (maxSteps := 4000000) (disch := first | omega | (simp only [push_n, set_n, clr_n, also_n, List.length_replicate, List.length_set, List.length_map, List.length_append, List.length_take, List.length_drop, List.length_cons, List.length_nil]; first | done | omega) | (with_reducible decide)) only [go_sem, Int.reduceEq, Int.reduceNe, Int.reduceLT, Int.reduceLE, Nat.reduceEqDiff, Int.reduceToNat, Nat.reduceSub, Nat.reduceAdd, Nat.reduceMul, Nat.reduceLT, Nat.reduceLeDiff, Int.reduceNeg, Int.reduceAdd, Int.reduceSub, Int.reduceMul, UInt8.reduceToNat, hd1, dc1, c0, c1]; repeat first | ((first | with_reducible refine split2_pk (by omega) ?_ | with_reducible refine split2_nk (by omega) ?_); intro hsq; try simp (maxSteps := 4000000) (disch := first | omega | (simp only [push_n, set_n, clr_n, also_n, List.length_replicate, List.length_set, List.length_map, List.length_append, List.length_take, List.length_drop, List.length_cons, List.length_nil]; first | done | omega) | (with_reducible decide)) only [go_sem, Int.reduceEq, Int.reduceNe, Int.reduceLT, Int.reduceLE, Nat.reduceEqDiff, Int.reduceToNat, Nat.reduceSub, Nat.reduceAdd, Nat.reduceMul, Nat.reduceLT, Nat.reduceLeDiff, Int.reduceNeg, Int.reduceAdd, Int.reduceSub, Int.reduceMul, UInt8.reduceToNat, hd1, dc1, c0, c1, hsq]))
    generalize hgone : (ds.getD i default).ss.isNone = gone at *
    obtain ⟨m, hm⟩ : ∃ m, m = slen (ds.getD i default).sv := ⟨_, rfl⟩
    obtain ⟨rows, hrows⟩ : ∃ rows : List (List UInt8), rows = (ds.getD i default).ss.getD [] := ⟨_, rfl⟩
    have hmr : m = rows.length := by
      cases hs : (ds.getD i default).ss with
      | none => rw [hm, h.lost hik hs, hrows, hs]; rfl
      | some ss =>
        obtain ⟨s1, s2, ⟨B, s3, s4⟩, s5⟩ := h.disk hik hs
        rw [hm, s3, hrows, hs]; exact s1.symm
    have hm5 : m ≤ 4096 := by
      rw [hmr, hrows]
      cases hs : (ds.getD i default).ss with
      | none => simp
      | some ss => obtain ⟨s1, _⟩ := h.disk hik hs; simp; omega
    have hlm : lenA Try.prog 79 (ds.getD i default).sv = some (.int .i64 (m : Nat)) := by
      cases hs : (ds.getD i default).ss with
      | none => rw [hm, h.lost hik hs]; simp [lenA, Try.underlying79, slen]
      | some ss =>
        obtain ⟨s1, s2, ⟨B, s3, s4⟩, s5⟩ := h.disk hik hs
        rw [hm, s3]; simp [lenA, Try.underlying79, slen]
    refine wp_loopS (σ := Nat × AV × AVs) (by kernel_rfl) (fun (k, mv, ws) => [(0, .ptr ⟨false, P, 0⟩), (3, .ptr ⟨false, H.n, 0⟩), (4, .int .i64 (i : Nat)), (5, .ptr ⟨false, H1.n, 0⟩), (6, .int .i64 (k : Nat))]) (fun (k, mv, ws) H' => k ≤ m ∧ BldD H1 H' H1.n gone mv ws (rows.take k) ∧ (k = 0 → mv = .nilslice ∧ ws = [])) (fun (k, mv, ws) => m - k) (0, .nilslice, []) (by simp (maxSteps := 4000000) (disch := first | omega | (simp only [push_n, set_n, clr_n, also_n, List.length_replicate, List.length_set, List.length_map, List.length_append, List.length_take, List.length_drop, List.length_cons, List.length_nil]; first | done | omega) | (with_reducible decide)) only [go_sem, Int.reduceEq, Int.reduceNe, Int.reduceLT, Int.reduceLE, Nat.reduceEqDiff, Int.reduceToNat, Nat.reduceSub, Nat.reduceAdd, Nat.reduceMul, Nat.reduceLT, Nat.reduceLeDiff, Int.reduceNeg, Int.reduceAdd, Int.reduceSub, Int.reduceMul, UInt8.reduceToNat]) ?_ ?_
    · refine ⟨by omega, ⟨push_cells _ _, Acc.nil (Grew.push _ _), by simp, by simp [blkOf]⟩, fun _ => ⟨rfl, rfl⟩⟩
    rintro ⟨k, mv, ws⟩ H2 ⟨hk, bd, hk0⟩
    have g2 := bd.acc.g
    have hd2 := g2.cells_some hd1
    have dc2 := g2.cells_some dc1
    by_cases hkm : k < m
    · have hon : ∃ ss, (ds.getD i default).ss = some ss := by
        cases hs : (ds.getD i default).ss with
        | none => rw [hmr, hrows, hs] at hkm; simp at hkm
        | some ss => exact ⟨ss, rfl⟩
      obtain ⟨ss, hs⟩ := hon
      obtain ⟨s1, s2, ⟨B, s3, s4⟩, s5⟩ := h.disk hik hs
      have hrs : rows = ss := by rw [hrows, hs]; rfl
      subst hrs
      have s4' := (g1.trans g2).cells_some s4
      have hkc : k < A.count := by omega
      have hrow := (s5 k hkc)
      have hb2 : IsBytes H2 ((ds.getD i default).ws.getD k .unk) (rows.getD k []) := hrow.b.grew (g1.trans g2)
      have hwk := get_getD (l := (ds.getD i default).ws) (k := k) (by omega)
      have r64 := hrow.len
      have hq2 := bd.q
      have hQ := cells_lt hq2
      have q1 := gq_live (H := H2) (i := H1.n) (by rw [hq2]; rfl)
      rw [s3] at c0 hlm
      have htake : rows.take (k + 1) = rows.take k ++ [rows.getD k []] := by
        rw [List.take_add_one, List.getElem?_eq_getElem (by omega), Option.toList]; simp [List.getD, show k < rows.length by omega]
      have hgp := fun {X : Option ABlk} => Grew.push H2.clr X
      have hgp2 := fun {X Y : Option ABlk} => hgp.trans (Grew.push (H2.clr.push X) Y)
      have x64 := bytes_whole (H := H2.clr.push (some (.cells ((rows.getD k []).map bv)))) (push_cells_at (H := H2.clr) rfl) (c := .grow 1) (by rfl)
      obtain ⟨H3, a1, a2, a3, a4, b3⟩ := bd.clr.add (M := (H2.clr.push (some (.cells ((rows.getD k []).map bv)))).push (some (.cells [.slice ⟨false, H2.n, 0⟩ (rows.getD k []).length (.grow 1)]))) hgp2 (w := .slice ⟨false, H2.n, 0⟩ (rows.getD k []).length (.grow 1)) (xs := rows.getD k []) (x64.grew (Grew.push _ _)) r64 (by simp [blkOf, push_n, clr_n]; omega) (by rw [List.length_take]; omega)
      rw [List.length_take, show min k rows.length = k by omega] at a1 b3
      simp only [push_n, clr_n] at a1 b3
      have key := b3.also (X := H2.wr) bd.acc.g.wr
      rw [also_set, ← htake] at key
      (try simp (maxSteps := 4000000) (disch := first | omega | (simp only [push_n, set_n, clr_n, also_n, List.length_replicate, List.length_set, List.length_map, List.length_append, List.length_take, List.length_drop, List.length_cons, List.length_nil]; first | done | omega) | (with_reducible decide)) only [go_sem, Int.reduceEq, Int.reduceNe, Int.reduceLT, Int.reduceLE, Nat.reduceEqDiff, Int.reduceToNat, Nat.reduceSub, Nat.reduceAdd, Nat.reduceMul, Nat.reduceLT, Nat.reduceLeDiff, Int.reduceNeg, Int.reduceAdd, Int.reduceSub, Int.reduceMul, UInt8.reduceToNat, hd2, dc2, c0, hlm]; repeat first | ((first | with_reducible refine split2_pk (by omega) ?_ | with_reducible refine split2_nk (by omega) ?_); intro hsq; try simp (maxSteps := 4000000) (disch := first | omega | (simp only [push_n, set_n, clr_n, also_n, List.length_replicate, List.length_set, List.length_map, List.length_append, List.length_take, List.length_drop, List.length_cons, List.length_nil]; first | done | omega) | (with_reducible decide)) only [go_sem, Int.reduceEq, Int.reduceNe, Int.reduceLT, Int.reduceLE, Nat.reduceEqDiff, Int.reduceToNat, Nat.reduceSub, Nat.reduceAdd, Nat.reduceMul, Nat.reduceLT, Nat.reduceLeDiff, Int.reduceNeg, Int.reduceAdd, Int.reduceSub, Int.reduceMul, UInt8.reduceToNat, hd2, dc2, c0, hlm, hsq]))
      (refine awp_drawH [54] [eqM H2.clr,  fun K => Grew H2.clr K,  fun K => Grew H2.clr K,  fun K => (K.cells? H1.n).isSome = true,  fun _ => True] [(0, some 2), (1, some 2), (2, some 0), (3, some 0), (4, some 0), (5, some 0), (6, some 0), (7, some 0), (8, some 0), (9, some 0), (10, some 0), (11, some 0), (12, some 0), (13, none), (14, none), (15, none), (16, some 0), (17, none)] [13, 14, 15, 17] (by kernel_rfl) (by rfl) (by decide +kernel) (rofP_0 ?_) ?_; rotate_left; (conv => arg 5; simp only [List.map_cons, List.map_nil, List.getElem?_toArray, List.getElem?_cons_zero, List.getElem?_cons_succ]); rotate_left)
      · rfl
      (try simp (maxSteps := 4000000) (disch := first | omega | (simp only [push_n, set_n, clr_n, also_n, List.length_replicate, List.length_set, List.length_map, List.length_append, List.length_take, List.length_drop, List.length_cons, List.length_nil]; first | done | omega) | (with_reducible decide)) only [go_sem, Int.reduceEq, Int.reduceNe, Int.reduceLT, Int.reduceLE, Nat.reduceEqDiff, Int.reduceToNat, Nat.reduceSub, Nat.reduceAdd, Nat.reduceMul, Nat.reduceLT, Nat.reduceLeDiff, Int.reduceNeg, Int.reduceAdd, Int.reduceSub, Int.reduceMul, UInt8.reduceToNat, hd2, dc2, c0, s4', hwk, hq2, q1, rigP_gs, rigP_g1, hgp, hgp2, a1, a2]; repeat first | ((first | refine ASpec.eq (own_spec _ hb2.clr (by omega)) ?_); try simp (maxSteps := 4000000) (disch := first | omega | (simp only [push_n, set_n, clr_n, also_n, List.length_replicate, List.length_set, List.length_map, List.length_append, List.length_take, List.length_drop, List.length_cons, List.length_nil]; first | done | omega) | (with_reducible decide)) only [go_sem, Int.reduceEq, Int.reduceNe, Int.reduceLT, Int.reduceLE, Nat.reduceEqDiff, Int.reduceToNat, Nat.reduceSub, Nat.reduceAdd, Nat.reduceMul, Nat.reduceLT, Nat.reduceLeDiff, Int.reduceNeg, Int.reduceAdd, Int.reduceSub, Int.reduceMul, UInt8.reduceToNat, hd2, dc2, c0, s4', hwk, hq2, q1, rigP_gs, rigP_g1, hgp, hgp2, a1, a2]) | ((first | with_reducible refine split2_pk (by omega) ?_ | with_reducible refine split2_nk (by omega) ?_); intro hsq; try simp (maxSteps := 4000000) (disch := first | omega | (simp only [push_n, set_n, clr_n, also_n, List.length_replicate, List.length_set, List.length_map, List.length_append, List.length_take, List.length_drop, List.length_cons, List.length_nil]; first | done | omega) | (with_reducible decide)) only [go_sem, Int.reduceEq, Int.reduceNe, Int.reduceLT, Int.reduceLE, Nat.reduceEqDiff, Int.reduceToNat, Nat.reduceSub, Nat.reduceAdd, Nat.reduceMul, Nat.reduceLT, Nat.reduceLeDiff, Int.reduceNeg, Int.reduceAdd, Int.reduceSub, Int.reduceMul, UInt8.reduceToNat, hd2, dc2, c0, s4', hwk, hq2, q1, rigP_gs, rigP_g1, hgp, hgp2, a1, a2, hsq]))
      (refine ⟨(k + 1, .slice ⟨false, H2.n + 1 + 1, 0⟩ (k + 1) (.grow 1), ws ++ [.slice ⟨false, H2.n, 0⟩ (rows.getD k []).length (.grow 1)]), ?_⟩; and_intros; all_goals (try first | rfl | assumption | omega))
    · obtain rfl : k = m := by omega
      have hq2 := bd.q
      have hQ := cells_lt hq2
      have hX2 := g2.cells_some b.hd
      have hXn := cells_lt hX2
      have hmone : oneA mv = true := by rcases bd.acc.is with ⟨rfl, _⟩ | ⟨_, rfl, _⟩ <;> rfl
      rw [hmr, List.take_length] at bd
      have hx : ∃ x : RD, rd1 x = [mv, .bool gone] ∧ x.ss = (ds.getD i default).ss ∧ OkRD H2 (blkOf x.sv) A.count x ∧ (blkOf x.sv).Nodup ∧ ∀ q, q ∈ blkOf x.sv ∨ (∃ w ∈ x.ws, q ∈ blkOf w) → H1.n ≤ q ∧ q < H2.n := by
        cases hs : (ds.getD i default).ss with
        | none =>
          have h0 : k = 0 := by rw [hmr, hrows, hs]; rfl
          obtain ⟨rfl, rfl⟩ := hk0 h0
          rw [hs] at hgone
          exact ⟨⟨.nilslice, [], none⟩, by rw [← hgone]; rfl, rfl, ⟨rfl, rfl⟩, by simp [blkOf], by simp [blkOf]⟩
        | some ss =>
          obtain ⟨s1, _⟩ := h.disk hik hs
          rw [hs] at hgone
          have hrs : rows = ss := by rw [hrows, hs]; rfl
          subst hrs
          rw [← hgone] at bd
          obtain ⟨r1, r2, r3, _⟩ := bd.rd s1 hcn.1
          exact ⟨⟨mv, ws, some rows⟩, by rw [← hgone]; rfl, rfl, r1, r2, r3⟩
      obtain ⟨x, x1, x2, x3, x4, x5⟩ := hx
      obtain ⟨H3, a1, a2, a3, b3⟩ := b.addD (g2.trans (Grew.push H2 (some (.cells [mv, .bool gone])))) (x := x) (x3.chg ((Grew.push _ _).chg []) (by simp) (by simp) fun q hq => .inl hq) x4 (fun q hq => by rw [push_n]; have := x5 q hq; omega) (by omega)
      rw [x1] at a1
      simp only [push_n] at a1 b3
      (try simp (maxSteps := 4000000) (disch := first | omega | (simp only [push_n, set_n, clr_n, also_n, List.length_replicate, List.length_set, List.length_map, List.length_append, List.length_take, List.length_drop, List.length_cons, List.length_nil]; first | done | omega) | (with_reducible decide)) only [go_sem, Int.reduceEq, Int.reduceNe, Int.reduceLT, Int.reduceLE, Nat.reduceEqDiff, Int.reduceToNat, Nat.reduceSub, Nat.reduceAdd, Nat.reduceMul, Nat.reduceLT, Nat.reduceLeDiff, Int.reduceNeg, Int.reduceAdd, Int.reduceSub, Int.reduceMul, UInt8.reduceToNat, hd2, dc2, c0, hlm]; repeat first | ((first | with_reducible refine split2_pk (by omega) ?_ | with_reducible refine split2_nk (by omega) ?_); intro hsq; try simp (maxSteps := 4000000) (disch := first | omega | (simp only [push_n, set_n, clr_n, also_n, List.length_replicate, List.length_set, List.length_map, List.length_append, List.length_take, List.length_drop, List.length_cons, List.length_nil]; first | done | omega) | (with_reducible decide)) only [go_sem, Int.reduceEq, Int.reduceNe, Int.reduceLT, Int.reduceLE, Nat.reduceEqDiff, Int.reduceToNat, Nat.reduceSub, Nat.reduceAdd, Nat.reduceMul, Nat.reduceLT, Nat.reduceLeDiff, Int.reduceNeg, Int.reduceAdd, Int.reduceSub, Int.reduceMul, UInt8.reduceToNat, hd2, dc2, c0, hlm, hsq]))
      refine wp_sound _ (by kernel_rfl) ?_
      (try simp (maxSteps := 4000000) (disch := first | omega | (simp only [push_n, set_n, clr_n, also_n, List.length_replicate, List.length_set, List.length_map, List.length_append, List.length_take, List.length_drop, List.length_cons, List.length_nil]; first | done | omega) | (with_reducible decide)) only [go_sem, Int.reduceEq, Int.reduceNe, Int.reduceLT, Int.reduceLE, Nat.reduceEqDiff, Int.reduceToNat, Nat.reduceSub, Nat.reduceAdd, Nat.reduceMul, Nat.reduceLT, Nat.reduceLeDiff, Int.reduceNeg, Int.reduceAdd, Int.reduceSub, Int.reduceMul, UInt8.reduceToNat]; repeat first | ((first | with_reducible refine split2_pk (by omega) ?_ | with_reducible refine split2_nk (by omega) ?_); intro hsq; try simp (maxSteps := 4000000) (disch := first | omega | (simp only [push_n, set_n, clr_n, also_n, List.length_replicate, List.length_set, List.length_map, List.length_append, List.length_take, List.length_drop, List.length_cons, List.length_nil]; first | done | omega) | (with_reducible decide)) only [go_sem, Int.reduceEq, Int.reduceNe, Int.reduceLT, Int.reduceLE, Nat.reduceEqDiff, Int.reduceToNat, Nat.reduceSub, Nat.reduceAdd, Nat.reduceMul, Nat.reduceLT, Nat.reduceLeDiff, Int.reduceNeg, Int.reduceAdd, Int.reduceSub, Int.reduceMul, UInt8.reduceToNat, hsq]))
      (refine awp_drawP (hl := []) [eqM H2,  eqM (H2.push (some (.cells [mv, .bool gone]))),  fun K => (K.cells? H.n).isSome = true,  fun _ => True] [(0, some 2), (1, some 1), (2, some 1), (3, some 1), (4, some 1), (5, some 0), (6, none), (7, none), (8, some 0), (9, some 0), (10, none)] [6, 7, 10] (by kernel_rfl) (by rfl) (by decide +kernel) (rofP_0 ?_) ?_; rotate_left; (conv => arg 5; simp only [List.map_cons, List.map_nil, List.getElem?_toArray, List.getElem?_cons_zero, List.getElem?_cons_succ]); rotate_left)
      · rfl
      (try simp (maxSteps := 4000000) (disch := first | omega | (simp only [push_n, set_n, clr_n, also_n, List.length_replicate, List.length_set, List.length_map, List.length_append, List.length_take, List.length_drop, List.length_cons, List.length_nil]; first | done | omega) | (with_reducible decide)) only [go_sem, Int.reduceEq, Int.reduceNe, Int.reduceLT, Int.reduceLE, Nat.reduceEqDiff, Int.reduceToNat, Nat.reduceSub, Nat.reduceAdd, Nat.reduceMul, Nat.reduceLT, Nat.reduceLeDiff, Int.reduceNeg, Int.reduceAdd, Int.reduceSub, Int.reduceMul, UInt8.reduceToNat, hX2, hq2, a1, a2, rigP_gs, rigP_g1, ↓hmone]; repeat first | ((first | with_reducible refine split2_pk (by omega) ?_ | with_reducible refine split2_nk (by omega) ?_); intro hsq; try simp (maxSteps := 4000000) (disch := first | omega | (simp only [push_n, set_n, clr_n, also_n, List.length_replicate, List.length_set, List.length_map, List.length_append, List.length_take, List.length_drop, List.length_cons, List.length_nil]; first | done | omega) | (with_reducible decide)) only [go_sem, Int.reduceEq, Int.reduceNe, Int.reduceLT, Int.reduceLE, Nat.reduceEqDiff, Int.reduceToNat, Nat.reduceSub, Nat.reduceAdd, Nat.reduceMul, Nat.reduceLT, Nat.reduceLeDiff, Int.reduceNeg, Int.reduceAdd, Int.reduceSub, Int.reduceMul, UInt8.reduceToNat, hX2, hq2, a1, a2, rigP_gs, rigP_g1, ↓hmone, hsq]))
      refine ⟨fun K hK => ?_, ?_⟩
      · obtain rfl : K = _ := hK
        rw [push_cells_ne hXn, hX2]; rfl
      (refine ⟨(i + 1, .slice ⟨false, H2.n + 1, 0⟩ (List.length ds' + 1) (.grow 2), ds' ++ [x]), ?_⟩; and_intros; all_goals (try first | rfl | assumption | omega))
      show (ds' ++ [x]).map (·.ss) = _
      rw [List.map_append, hss, List.take_add_one, List.getElem?_eq_getElem hik, Option.toList, List.map_append, show ds[i] = ds.getD i default by simp [List.getD, hik]]
      simp [x2]
  · obtain rfl : i = ds.length := by omega
    rw [List.take_length] at hss
    (try simp (maxSteps := 4000000) (disch := first | omega | (simp only [push_n, set_n, clr_n, also_n, List.length_replicate, List.length_set, List.length_map, List.length_append, List.length_take, List.length_drop, List.length_cons, List.length_nil]; first | done | omega) | (with_reducible decide)) only [go_sem, Int.reduceEq, Int.reduceNe, Int.reduceLT, Int.reduceLE, Nat.reduceEqDiff, Int.reduceToNat, Nat.reduceSub, Nat.reduceAdd, Nat.reduceMul, Nat.reduceLT, Nat.reduceLeDiff, Int.reduceNeg, Int.reduceAdd, Int.reduceSub, Int.reduceMul, UInt8.reduceToNat, hd1]; repeat first | ((first | with_reducible refine split2_pk (by omega) ?_ | with_reducible refine split2_nk (by omega) ?_); intro hsq; try simp (maxSteps := 4000000) (disch := first | omega | (simp only [push_n, set_n, clr_n, also_n, List.length_replicate, List.length_set, List.length_map, List.length_append, List.length_take, List.length_drop, List.length_cons, List.length_nil]; first | done | omega) | (with_reducible decide)) only [go_sem, Int.reduceEq, Int.reduceNe, Int.reduceLT, Int.reduceLE, Nat.reduceEqDiff, Int.reduceToNat, Nat.reduceSub, Nat.reduceAdd, Nat.reduceMul, Nat.reduceLT, Nat.reduceLeDiff, Int.reduceNeg, Int.reduceAdd, Int.reduceSub, Int.reduceMul, UInt8.reduceToNat, hd1, hsq]))
    refine wp_sound _ (by kernel_rfl) ?_
    (try simp (maxSteps := 4000000) (disch := first | omega | (simp only [push_n, set_n, clr_n, also_n, List.length_replicate, List.length_set, List.length_map, List.length_append, List.length_take, List.length_drop, List.length_cons, List.length_nil]; first | done | omega) | (with_reducible decide)) only [go_sem, Int.reduceEq, Int.reduceNe, Int.reduceLT, Int.reduceLE, Nat.reduceEqDiff, Int.reduceToNat, Nat.reduceSub, Nat.reduceAdd, Nat.reduceMul, Nat.reduceLT, Nat.reduceLeDiff, Int.reduceNeg, Int.reduceAdd, Int.reduceSub, Int.reduceMul, UInt8.reduceToNat]; repeat first | ((first | with_reducible refine split2_pk (by omega) ?_ | with_reducible refine split2_nk (by omega) ?_); intro hsq; try simp (maxSteps := 4000000) (disch := first | omega | (simp only [push_n, set_n, clr_n, also_n, List.length_replicate, List.length_set, List.length_map, List.length_append, List.length_take, List.length_drop, List.length_cons, List.length_nil]; first | done | omega) | (with_reducible decide)) only [go_sem, Int.reduceEq, Int.reduceNe, Int.reduceLT, Int.reduceLE, Nat.reduceEqDiff, Int.reduceToNat, Nat.reduceSub, Nat.reduceAdd, Nat.reduceMul, Nat.reduceLT, Nat.reduceLeDiff, Int.reduceNeg, Int.reduceAdd, Int.reduceSub, Int.reduceMul, UInt8.reduceToNat, hsq]))
    refine wp_loopS (σ := Nat × AV × RFs) (by kernel_rfl) (fun (j, lv', fl') => [(0, .ptr ⟨false, P, 0⟩), (3, .ptr ⟨false, H.n, 0⟩), (7, .int .i64 (j : Nat))]) (fun (j, lv', fl') H' => j ≤ fl.length ∧ BldR H H' H.n A.count dv lv' ds' fl' A.fuse A.off ∧ fl'.map (·.f) = (fl.take j).map (·.f)) (fun (j, lv', fl') => fl.length - j) (0, .nilslice, []) (by simp (maxSteps := 4000000) (disch := first | omega | (simp only [push_n, set_n, clr_n, also_n, List.length_replicate, List.length_set, List.length_map, List.length_append, List.length_take, List.length_drop, List.length_cons, List.length_nil]; first | done | omega) | (with_reducible decide)) only [go_sem, Int.reduceEq, Int.reduceNe, Int.reduceLT, Int.reduceLE, Nat.reduceEqDiff, Int.reduceToNat, Nat.reduceSub, Nat.reduceAdd, Nat.reduceMul, Nat.reduceLT, Nat.reduceLeDiff, Int.reduceNeg, Int.reduceAdd, Int.reduceSub, Int.reduceMul, UInt8.reduceToNat]) ?_ ?_
    · exact ⟨by omega, b, rfl⟩
    rintro ⟨j, lv', fl'⟩ H2 ⟨hj, b2, hff⟩
    have hflen : fl'.length = j := by have := congrArg List.length hff; simp at this; omega
    have g2 := b2.acc.g
    have hd2 := g2.cells_some hd
    by_cases hjl : j < fl.length
    · rcases h.fk with ⟨_, e⟩ | ⟨L, rfl, f1⟩
      · rw [e] at hjl; simp at hjl
      have f2 := g2.cells_some f1
      have e0 := rfC_0 (l := fl) (i := j) hjl
      have e1 := rfC_1 (l := fl) (i := j) hjl
      have e2 := rfC_2 (l := fl) (i := j) hjl
      have hfw := h.fw (fl.getD j default) (by rw [show fl.getD j default = fl[j] by simp [List.getD, hjl]]; exact List.getElem_mem hjl)
      have hb2 := hfw.b.grew g2
      have r64 := hfw.len
      have htake : (fl.take (j + 1)).map (·.f) = (fl.take j).map (·.f) ++ [(fl.getD j default).f] := by
        rw [List.take_add_one, List.getElem?_eq_getElem hjl]
        simp only [Option.toList, List.map_append, List.map_cons, List.map_nil]
        rw [show fl.getD j default = fl[j] by simp [List.getD, hjl]]
      generalize fl.getD j default = f at *
      have hX2 := b2.hd
      have hXn := cells_lt hX2
      have q1 := gq_live (H := H2) (i := H.n) (by rw [hX2]; rfl)
      have q2 := gq_live (H := H2) (i := P) (by rw [hd2]; rfl)
      have q3 := gq_live (H := H2) (i := L) (by rw [f2]; rfl)
      have p2 := cells_lt hd2
      have p3 := cells_lt f2
      have hgp := fun {X : Option ABlk} => Grew.push H2.clr X
      have hgp2 := fun {X Y : Option ABlk} => hgp.trans (Grew.push (H2.clr.push X) Y)
      have x64 := bytes_whole (H := H2.clr.push (some (.cells (f.f.data.map bv)))) (push_cells_at (H := H2.clr) rfl) (c := .grow 1) (by rfl)
      obtain ⟨x, hx⟩ : ∃ x : RF, x = ⟨.slice ⟨false, H2.n, 0⟩ f.f.data.length (.grow 1), f.f⟩ := ⟨_, rfl⟩
      have ex : rf1 x = [.int .i64 f.f.disk, .int .i64 f.f.pos, .slice ⟨false, H2.n, 0⟩ f.f.data.length (.grow 1)] := by rw [hx]; rfl
      obtain ⟨H3, a1, a2, a3, b3⟩ := b2.clr.addF (M := (H2.clr.push (some (.cells (f.f.data.map bv)))).push (some (.cells (rf1 x)))) hgp2 (x := x) (by rw [hx]; exact x64.grew (Grew.push _ _)) (by rw [hx]; exact r64) (by rw [hx]; simp [blkOf, push_n, clr_n]; omega) (by omega)
      rw [ex] at a1
      simp only [push_n, clr_n] at a1 b3
      have key := b3.also (X := H2.wr) b2.acc.g.wr
      rw [also_set] at key
      (try simp (maxSteps := 4000000) (disch := first | omega | (simp only [push_n, set_n, clr_n, also_n, List.length_replicate, List.length_set, List.length_map, List.length_append, List.length_take, List.length_drop, List.length_cons, List.length_nil]; first | done | omega) | (with_reducible decide)) only [go_sem, Int.reduceEq, Int.reduceNe, Int.reduceLT, Int.reduceLE, Nat.reduceEqDiff, Int.reduceToNat, Nat.reduceSub, Nat.reduceAdd, Nat.reduceMul, Nat.reduceLT, Nat.reduceLeDiff, Int.reduceNeg, Int.reduceAdd, Int.reduceSub, Int.reduceMul, UInt8.reduceToNat, hd2, lf]; repeat first | ((first | with_reducible refine split2_pk (by omega) ?_ | with_reducible refine split2_nk (by omega) ?_); intro hsq; try simp (maxSteps := 4000000) (disch := first | omega | (simp only [push_n, set_n, clr_n, also_n, List.length_replicate, List.length_set, List.length_map, List.length_append, List.length_take, List.length_drop, List.length_cons, List.length_nil]; first | done | omega) | (with_reducible decide)) only [go_sem, Int.reduceEq, Int.reduceNe, Int.reduceLT, Int.reduceLE, Nat.reduceEqDiff, Int.reduceToNat, Nat.reduceSub, Nat.reduceAdd, Nat.reduceMul, Nat.reduceLT, Nat.reduceLeDiff, Int.reduceNeg, Int.reduceAdd, Int.reduceSub, Int.reduceMul, UInt8.reduceToNat, hd2, lf, hsq]))
      (refine awp_drawH [93, 97, 101, 105, 109] [eqM H2.clr,  fun K => Grew H2.clr K,  fun K => Grew H2.clr K,  fun K => (K.cells? H.n).isSome = true,  fun _ => True] [(0, some 3), (1, some 2), (2, some 2), (3, some 2), (4, some 2), (5, some 1), (6, some 1), (7, some 1), (8, some 1), (9, some 1), (10, some 1), (11, some 1), (12, some 1), (13, some 1), (14, some 1), (15, some 1), (16, some 1), (17, some 1), (18, some 1), (19, some 1), (20, some 1), (21, some 0), (22, some 0), (23, some 0), (24, some 0), (25, some 0), (26, some 0), (27, some 0), (28, some 0), (29, none), (30, some 0), (31, none), (32, none), (33, some 0), (34, some 0), (35, none)] [29, 31, 32, 35] (by kernel_rfl) (by rfl) (by decide +kernel) (rofP_0 ?_) ?_; rotate_left; (conv => arg 5; simp only [List.map_cons, List.map_nil, List.getElem?_toArray, List.getElem?_cons_zero, List.getElem?_cons_succ]); rotate_left)
      · rfl
      (try simp (maxSteps := 4000000) (disch := first | omega | (simp only [push_n, set_n, clr_n, also_n, List.length_replicate, List.length_set, List.length_map, List.length_append, List.length_take, List.length_drop, List.length_cons, List.length_nil]; first | done | omega) | (with_reducible decide)) only [go_sem, Int.reduceEq, Int.reduceNe, Int.reduceLT, Int.reduceLE, Nat.reduceEqDiff, Int.reduceToNat, Nat.reduceSub, Nat.reduceAdd, Nat.reduceMul, Nat.reduceLT, Nat.reduceLeDiff, Int.reduceNeg, Int.reduceAdd, Int.reduceSub, Int.reduceMul, UInt8.reduceToNat, hd2, f2, e0, e1, e2, hX2, q1, q2, q3, rigP_gs, rigP_g1, hgp, hgp2, a1, a2]; repeat first | ((first | refine ASpec.eq (own_spec _ hb2.clr (by omega)) ?_); try simp (maxSteps := 4000000) (disch := first | omega | (simp only [push_n, set_n, clr_n, also_n, List.length_replicate, List.length_set, List.length_map, List.length_append, List.length_take, List.length_drop, List.length_cons, List.length_nil]; first | done | omega) | (with_reducible decide)) only [go_sem, Int.reduceEq, Int.reduceNe, Int.reduceLT, Int.reduceLE, Nat.reduceEqDiff, Int.reduceToNat, Nat.reduceSub, Nat.reduceAdd, Nat.reduceMul, Nat.reduceLT, Nat.reduceLeDiff, Int.reduceNeg, Int.reduceAdd, Int.reduceSub, Int.reduceMul, UInt8.reduceToNat, hd2, f2, e0, e1, e2, hX2, q1, q2, q3, rigP_gs, rigP_g1, hgp, hgp2, a1, a2]) | ((first | with_reducible refine split2_pk (by omega) ?_ | with_reducible refine split2_nk (by omega) ?_); intro hsq; try simp (maxSteps := 4000000) (disch := first | omega | (simp only [push_n, set_n, clr_n, also_n, List.length_replicate, List.length_set, List.length_map, List.length_append, List.length_take, List.length_drop, List.length_cons, List.length_nil]; first | done | omega) | (with_reducible decide)) only [go_sem, Int.reduceEq, Int.reduceNe, Int.reduceLT, Int.reduceLE, Nat.reduceEqDiff, Int.reduceToNat, Nat.reduceSub, Nat.reduceAdd, Nat.reduceMul, Nat.reduceLT, Nat.reduceLeDiff, Int.reduceNeg, Int.reduceAdd, Int.reduceSub, Int.reduceMul, UInt8.reduceToNat, hd2, f2, e0, e1, e2, hX2, q1, q2, q3, rigP_gs, rigP_g1, hgp, hgp2, a1, a2, hsq]))
      (refine ⟨(j + 1, .slice ⟨false, H2.n + 1 + 1, 0⟩ (List.length fl' + 1) (.grow 3), fl' ++ [x]), ?_⟩; and_intros; all_goals (try first | rfl | assumption | omega))
      show (fl' ++ [x]).map (·.f) = _
      rw [List.map_append, hff, htake, hx]; rfl
    · obtain rfl : j = fl.length := by omega
      rw [List.take_length] at hff
      (try simp (maxSteps := 4000000) (disch := first | omega | (simp only [push_n, set_n, clr_n, also_n, List.length_replicate, List.length_set, List.length_map, List.length_append, List.length_take, List.length_drop, List.length_cons, List.length_nil]; first | done | omega) | (with_reducible decide)) only [go_sem, Int.reduceEq, Int.reduceNe, Int.reduceLT, Int.reduceLE, Nat.reduceEqDiff, Int.reduceToNat, Nat.reduceSub, Nat.reduceAdd, Nat.reduceMul, Nat.reduceLT, Nat.reduceLeDiff, Int.reduceNeg, Int.reduceAdd, Int.reduceSub, Int.reduceMul, UInt8.reduceToNat, hd2, lf]; repeat first | ((first | with_reducible refine split2_pk (by omega) ?_ | with_reducible refine split2_nk (by omega) ?_); intro hsq; try simp (maxSteps := 4000000) (disch := first | omega | (simp only [push_n, set_n, clr_n, also_n, List.length_replicate, List.length_set, List.length_map, List.length_append, List.length_take, List.length_drop, List.length_cons, List.length_nil]; first | done | omega) | (with_reducible decide)) only [go_sem, Int.reduceEq, Int.reduceNe, Int.reduceLT, Int.reduceLE, Nat.reduceEqDiff, Int.reduceToNat, Nat.reduceSub, Nat.reduceAdd, Nat.reduceMul, Nat.reduceLT, Nat.reduceLeDiff, Int.reduceNeg, Int.reduceAdd, Int.reduceSub, Int.reduceMul, UInt8.reduceToNat, hd2, lf, hsq]))
      obtain ⟨D', r1, r2⟩ := b2.ref hcn (by omega) h.fuse (fun f hf => by
        have hm : f.f ∈ A.fly := by rw [h.eF, ← hff]; exact List.mem_map_of_mem hf
        have := h.wf f.f hm
        rw [hlen]; exact this)
      rw [hss, hff, ← h.eD, ← h.eF] at r1
      exact ⟨H.n, D', lv', ds', fl', rfl, r1, g2, r2⟩
end Go.Proofs.Ytickckpndpeppaa
