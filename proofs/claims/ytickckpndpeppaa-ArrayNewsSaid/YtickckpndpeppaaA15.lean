/- From the abstract call to the row: what came in is read as abstract values. -/
import Derived.Test.YtickckpndpeppaaA14
import Derived.ProofKit
import Derived.OpenShut
import Derived.ChangeOld
import Derived.SizedLaws
set_option linter.unusedVariables false
set_option linter.unusedSimpArgs false
namespace Go.Abs
open Go Go.RowKit Go.ChangeShapes Go.WideShapes

/-- The abstract memory at a call's begin: what is there is for reading alone. -/
def AH.init (w : World) : AH :=
  .base fun B => match w.heap[B]? with | some (.cells cs _ _) => absL w.heap.size cs.toList | _ => []

theorem absL_get (b : Nat) : ∀ (l : List Value) (k : Nat), (absL b l)[k]? = (l[k]?).map (absV b)
  | [], k => by simp [absL]
  | v :: l, k => by
    cases k with
    | zero => simp [absL]
    | succ k => simp [absL, absL_get b l k]

theorem init_get {w : World} {B k : Nat} {v : Value} (h : w.cell? ⟨B, k, none⟩ = some v) : ((AH.init w).ro B)[k]? = some (absV w.heap.size v) := by
  unfold World.cell? at h
  simp only [AH.init, AH.base]
  split at h
  · rename_i c _ _ hb
    rw [hb]
    simp only [Option.isSome_none, Bool.false_eq_true, if_false] at h
    simp only
    rw [absL_get, Array.getElem?_toList, h]
    rfl
  · cases h

theorem init_rep (w : World) : Rep w [] (AH.init w) w where
  below := Below.refl _ _
  ro := fun B hB k v hk => by
    simp only [AH.init, AH.base] at hk
    split at hk
    · rename_i c t f hb
      rw [absL_get, Array.getElem?_toList] at hk
      obtain ⟨x, hx, rfl⟩ := Option.map_eq_some_iff.1 hk
      exact ⟨x, by simp [World.cell?, hb, hx], rfl⟩
    · simp at hk
  len := rfl
  blk := fun i l h => by simp [AH.init, AH.base] at h
  nomap := fun i es h => by simp [AH.init, AH.base] at h
  gone := fun i h => by simp [AH.init, AH.base] at h
  inj := fun i j B O m O' m' h => by simp at h
  locs := fun i B O m h => by simp at h

theorem law_calls {P : Program} {f : FuncId} {W : World} {args : Array Value} (he : enters P f = true) (h : ASpec P f (absL W.heap.size args.toList) (AH.init W) fun r _ => r = .bool true) :
    Calls P f args W fun e w' => e = .returned (.bool true) ∧ Below W.heap.size W w' := by
  have key : Calls P f args W fun e w' => ∃ v, e = .returned v ∧ ∃ r H' ι', RV W.heap.size ι' r v ∧ Rep W ι' H' w' ∧ Ext [] (AH.init W) W ι' H' w' ∧ r = .bool true := by
    rcases h W [] W args (init_rep W) (RVL_abs [] (Nat.le_refl _) _) with ⟨_, hc⟩ | ⟨v, w', hr, _⟩
    · exact hc
    · rw [enters_run he] at hr
      injection hr with h1 h2
      cases h1
  refine key.mono fun e w' ⟨v, h1, r, H', ι', h2, h3, h4, h5⟩ => ?_
  subst h1 h5
  unfold RV at h2
  subst h2
  exact ⟨rfl, h3.below⟩

abbrev bv (x : UInt8) : AV := .int .u8 x.toNat

/-- A slice whose room is known to be enough, or that may have grown. -/
def isSl : AV → Bool
  | .nilslice => true
  | .slice _ n (.known c) => decide (n ≤ c)
  | .slice a _ (.grow g) => decide (g = 1) && !a.ro
  | _ => false

/-- A slice of bytes that reads so. -/
structure IsBytes (H : AH) (v : AV) (xs : List UInt8) : Prop where
  row : rowA H 1 v = some (xs.map bv)
  len : slen v = xs.length
  sl : isSl v = true

/-- A slice of numbers that reads so. -/
structure IsNums (k : IntKind) (H : AH) (v : AV) (xs : List Int) : Prop where
  row : rowA H 1 v = some (xs.map (AV.int k))
  len : slen v = xs.length
  sl : isSl v = true

theorem absAddr_of {b : Nat} {a : Addr} (h1 : a.block < b) (h2 : a.spot = none) : absAddr b a = some ⟨true, a.block, a.off⟩ := by
  unfold absAddr; rw [if_pos ⟨h1, h2⟩]

theorem open_nums {W : World} {k : IntKind} {x : Addr} {len cap : Nat} {zs : List Int} (hl : len ≤ cap) (hz : zs.length = cap) (hcell : ∀ i, i < zs.length → W.cell? (x.add i) = some (.int k (zs.getD i 0))) :
    IsNums k (AH.init W) (absV W.heap.size (.slice (some x) len cap)) (zs.take len) := by
  by_cases h0 : len = 0 ∧ cap = 0
  · obtain ⟨rfl, rfl⟩ := h0
    have : zs = [] := List.eq_nil_of_length_eq_zero hz
    subst this
    refine ⟨?_, ?_, ?_⟩ <;> simp [absV, rowA, slen, isSl, AH.get]
  · have hpos : 0 < cap := by omega
    have hc0 := hcell 0 (by omega)
    rw [Addr.add_zero'] at hc0
    have hblk := World.block_lt_of_cell? W x hc0
    have hsp : x.spot = none := by
      unfold World.cell? at hc0
      split at hc0
      · cases hs : x.spot with
        | none => rfl
        | some s => rw [hs] at hc0; simp at hc0
      · cases hc0
    obtain ⟨B, off, spot⟩ := x
    simp only at hsp hblk
    subst hsp
    have hv : absV W.heap.size (.slice (some ⟨B, off, none⟩) len cap) = .slice ⟨true, B, off⟩ len (.known cap) := by
      unfold absV
      rw [if_neg h0, absAddr_of (a := ⟨B, off, none⟩) hblk rfl]
      simp only
      rw [if_pos hl]
    have hget : ∀ i, i < zs.length → ((AH.init W).ro B)[off + i]? = some (.int k (zs.getD i 0)) := fun i hi => by
      have := hcell i hi
      rw [Addr.add_lit] at this
      rw [init_get this]; rfl
    have hlast := lt_of_get (hget (cap - 1) (by omega))
    rw [hv]
    refine ⟨?_, ?_, by simp [isSl, hl]⟩
    · simp only [rowA, AH.get, if_true, Option.bind_some]
      rw [if_pos (.inl (by omega))]
      congr 1
      apply List.ext_getElem?
      intro i
      rw [List.getElem?_take, List.getElem?_drop, List.getElem?_map, List.getElem?_take]
      by_cases hi : i < len
      · rw [if_pos (by omega), if_pos hi, hget i (by omega)]
        simp [List.getD, List.getElem?_eq_getElem (show i < zs.length by omega)]
      · rw [if_neg (by omega), if_neg hi]; rfl
    · simp only [slen, List.length_take]; omega

theorem isBytes_of_nums {H : AH} {v : AV} {zs : List Int} (h : IsNums .u8 H v zs) (hw : ∀ n ∈ zs, (Lit.int .u8 n).wf = true) : ∃ xs : List UInt8, IsBytes H v xs ∧ xs.length = zs.length := by
  refine ⟨zs.map fun n => UInt8.ofNat n.toNat, ⟨?_, by rw [h.len]; simp, h.sl⟩, by simp⟩
  rw [h.row, List.map_map]
  congr 1
  apply List.map_congr_left
  intro n hn
  have := hw n hn
  simp [Lit.wf, IntKind.has, IntKind.min, IntKind.max, IntKind.signed, IntKind.bits] at this
  simp only [Function.comp, bv]
  congr 1
  have h1 : n.toNat < 256 := by omega
  simp [UInt8.toNat_ofNat', Nat.mod_eq_of_lt h1]
  omega

theorem nil_nums (k : IntKind) (H : AH) : IsNums k H .nilslice [] := ⟨rfl, rfl, rfl⟩

/-- A slice of numbers that came in. -/
theorem open_arg_nums {H : Type} {enc : TypeId × Value → H} {P : Program} {W : World} {t e : TypeId} {k : IntKind} {v : Value} {d : DataW H} {ps : List MemPlace} {ts : List TypeId} {ds : List (DataW H)} {j B : Nat}
    (hv : ∃ a len cap, v = .slice a len cap) (hu : P.underlying t = some (.slice e)) (he : P.underlying e = some (.int k)) (hc : P.cellsOf e = 1) (hB : P.bytesOf e = B)
    (hsz : (DataW.weightsEach P ts ds).all (· ≤ reachBytes) = true) (ht : ts[j]? = some t) (hd : ds[j]? = some d) (h : DataW.Trod enc P W 0 (fun _ => true) true t v d ps) :
    ∃ zs : List Int, IsNums k (AH.init W) (absV W.heap.size v) zs ∧ (∀ n ∈ zs, (Lit.int k n).wf = true) ∧ zs.length * B ≤ 140737488351232 := by
  obtain ⟨a, len, cap, rfl⟩ := hv
  obtain ⟨fuel, hf⟩ := h
  rcases open_ints hu he hc hf with ⟨hcs, _⟩ | ⟨x, l, c, zs, hcs, _, hl, _, hz, hx, hcell, hwf⟩
  · simp [Value.cells] at hcs
    obtain ⟨rfl, rfl, rfl⟩ := hcs
    exact ⟨[], nil_nums k _, by simp, by simp⟩
  · simp [Value.cells] at hcs
    obtain ⟨rfl, rfl, rfl⟩ := hcs
    simp only [if_true] at hz
    refine ⟨zs.take len, open_nums hl hz hcell, fun n hn => hwf n (List.mem_of_mem_take hn), ?_⟩
    obtain ⟨hx, _⟩ := Prod.mk.inj hx
    subst hx
    have z := sized_slice hsz ht hd hu
    rw [hB] at z
    have h1 : (lits (H := H) k (zs.take len)).length + (lits (H := H) k (zs.drop len)).length = zs.length := by
      simp [lits]
      omega
    rw [h1] at z
    exact Nat.le_trans (Nat.mul_le_mul_right _ (by simp; omega)) z

end Go.Abs
