/-
  No cell of these rows narrows 'for every input' (looked for: loops, veiled, ifaces, maps, wideKeys, modest, calm, conditions, laid).
  DERIVED. THE GIVEN ROWS OF THIS SEAT. 6 by the template 'for every input the law returns true; each argument reads behind the call as it read before'; 0 by the template 'total and deterministic' (their statements: YtbicbjfdinhpoaaTotals.lean).
  GIVEN WITH THE SEED: the statements are not yours to turn. If you find one false, say at which input.
  Laid BY PROGRAM, IN A SANDBOX (cutbox-rows.mjs): the forced cells as the released guide's own fill.sh prints them over the translation e5daca288a37554b… (all of the seat's roots in one cut). By AI agents, Wed Nov 11 2026. No macro, syntax, notation, axiom, sorry.
-/
import Derived.Test.YtbicbjfdinhpoaaChecked
import GoSem.Claim
import GoSem.ClaimJoined
import GoSem.ClaimMapViews
import Derived.JoinedTies
import Derived.KernelRfl
namespace Go.Proofs.Ytbicbjfdinhpoaa
/- THE CELL 'sum', in the pinned program and in every row, IS THE sha256 OF THE DUMP (.gsa) THAT YtbicbjfdinhpoaaProg.lean LOADS. Nothing in Lean hashes anything: it is a label: what it is worth is what the hold of that sum in a sandbox is worth. -/
noncomputable def Try.pinned : Pinned := { name := "ytbicbjfdinhpoaa", sum := "e5daca288a37554bfc39d4319ff79df3f6bf27200be7ecc3ef471e8bd3943d2f", checked := Try.checked }
namespace Rows
def none {H : Type} : Left H := { results := [], args := [] }

/-- 'hayricklaw14.SummaryPlaces': WHATEVER THE INPUT: true; the input reads as it did. -/
def summaryPlacesSpec : ChangeSpec := { name := "summaryPlaces", fn := fun _ => fun
  | [d] => { results := [.lit (.bool true)], args := [d] }
  | _ => none }
def summaryPlacesRow : OpenClaim := { program := "ytbicbjfdinhpoaa", sum := "e5daca288a37554bfc39d4319ff79df3f6bf27200be7ecc3ef471e8bd3943d2f", func := "hayrick/hayricklaw14.SummaryPlaces", spec := "summaryPlaces", apart := false }
def SummaryPlacesSaid : Prop := summaryPlacesRow.holds Try.pinned (OpenSpec.ofChange summaryPlacesSpec)

/-- ITS FALSE NEIGHBOUR: 'it returns false'. Refute it at one input. -/
def summaryPlacesWrong : ChangeSpec := { name := "summaryPlaces", fn := fun _ => fun
  | [d] => { results := [.lit (.bool false)], args := [d] }
  | _ => none }
def SummaryPlacesWrongFalsely : Prop := summaryPlacesRow.holds Try.pinned (OpenSpec.ofChange summaryPlacesWrong)

/-- 'hayricklaw14.SummaryOnce': WHATEVER THE INPUT: true; the input reads as it did. -/
def summaryOnceSpec : ChangeSpec := { name := "summaryOnce", fn := fun _ => fun
  | [d1, d2, d3] => { results := [.lit (.bool true)], args := [d1, d2, d3] }
  | _ => none }
def summaryOnceRow : OpenClaim := { program := "ytbicbjfdinhpoaa", sum := "e5daca288a37554bfc39d4319ff79df3f6bf27200be7ecc3ef471e8bd3943d2f", func := "hayrick/hayricklaw14.SummaryOnce", spec := "summaryOnce", apart := false }
def SummaryOnceSaid : Prop := summaryOnceRow.holds Try.pinned (OpenSpec.ofChange summaryOnceSpec)

/-- ITS FALSE NEIGHBOUR: 'it returns false'. Refute it at one input. -/
def summaryOnceWrong : ChangeSpec := { name := "summaryOnce", fn := fun _ => fun
  | [d1, d2, d3] => { results := [.lit (.bool false)], args := [d1, d2, d3] }
  | _ => none }
def SummaryOnceWrongFalsely : Prop := summaryOnceRow.holds Try.pinned (OpenSpec.ofChange summaryOnceWrong)

/-- 'hayricklaw14.SummaryPuts': WHATEVER THE INPUT: true; the input reads as it did. -/
def summaryPutsSpec : ChangeSpec := { name := "summaryPuts", fn := fun _ => fun
  | [d1, d2] => { results := [.lit (.bool true)], args := [d1, d2] }
  | _ => none }
def summaryPutsRow : OpenClaim := { program := "ytbicbjfdinhpoaa", sum := "e5daca288a37554bfc39d4319ff79df3f6bf27200be7ecc3ef471e8bd3943d2f", func := "hayrick/hayricklaw14.SummaryPuts", spec := "summaryPuts", apart := false }
def SummaryPutsSaid : Prop := summaryPutsRow.holds Try.pinned (OpenSpec.ofChange summaryPutsSpec)

/-- ITS FALSE NEIGHBOUR: 'it returns false'. Refute it at one input. -/
def summaryPutsWrong : ChangeSpec := { name := "summaryPuts", fn := fun _ => fun
  | [d1, d2] => { results := [.lit (.bool false)], args := [d1, d2] }
  | _ => none }
def SummaryPutsWrongFalsely : Prop := summaryPutsRow.holds Try.pinned (OpenSpec.ofChange summaryPutsWrong)

/-- 'hayricklaw14.SummaryKnown': WHATEVER THE INPUT: true; the input reads as it did. -/
def summaryKnownSpec : ChangeSpec := { name := "summaryKnown", fn := fun _ => fun
  | [] => { results := [.lit (.bool true)], args := [] }
  | _ => none }
def summaryKnownRow : OpenClaim := { program := "ytbicbjfdinhpoaa", sum := "e5daca288a37554bfc39d4319ff79df3f6bf27200be7ecc3ef471e8bd3943d2f", func := "hayrick/hayricklaw14.SummaryKnown", spec := "summaryKnown", apart := false }
def SummaryKnownSaid : Prop := summaryKnownRow.holds Try.pinned (OpenSpec.ofChange summaryKnownSpec)

/-- ITS FALSE NEIGHBOUR: 'it returns false'. Refute it at one input. -/
def summaryKnownWrong : ChangeSpec := { name := "summaryKnown", fn := fun _ => fun
  | [] => { results := [.lit (.bool false)], args := [] }
  | _ => none }
def SummaryKnownWrongFalsely : Prop := summaryKnownRow.holds Try.pinned (OpenSpec.ofChange summaryKnownWrong)

/-- 'hayricklaw14.SummaryTakes': WHATEVER THE INPUT: true; the input reads as it did. -/
def summaryTakesSpec : ChangeSpec := { name := "summaryTakes", fn := fun _ => fun
  | [d1, d2] => { results := [.lit (.bool true)], args := [d1, d2] }
  | _ => none }
def summaryTakesRow : OpenClaim := { program := "ytbicbjfdinhpoaa", sum := "e5daca288a37554bfc39d4319ff79df3f6bf27200be7ecc3ef471e8bd3943d2f", func := "hayrick/hayricklaw14.SummaryTakes", spec := "summaryTakes", apart := false }
def SummaryTakesSaid : Prop := summaryTakesRow.holds Try.pinned (OpenSpec.ofChange summaryTakesSpec)

/-- ITS FALSE NEIGHBOUR: 'it returns false'. Refute it at one input. -/
def summaryTakesWrong : ChangeSpec := { name := "summaryTakes", fn := fun _ => fun
  | [d1, d2] => { results := [.lit (.bool false)], args := [d1, d2] }
  | _ => none }
def SummaryTakesWrongFalsely : Prop := summaryTakesRow.holds Try.pinned (OpenSpec.ofChange summaryTakesWrong)

/-- 'hayricklaw14.SummaryBack': WHATEVER THE INPUT: true; the input reads as it did. -/
def summaryBackSpec : ChangeSpec := { name := "summaryBack", fn := fun _ => fun
  | [d1, d2, d3] => { results := [.lit (.bool true)], args := [d1, d2, d3] }
  | _ => none }
def summaryBackRow : OpenClaim := { program := "ytbicbjfdinhpoaa", sum := "e5daca288a37554bfc39d4319ff79df3f6bf27200be7ecc3ef471e8bd3943d2f", func := "hayrick/hayricklaw14.SummaryBack", spec := "summaryBack", apart := false }
def SummaryBackSaid : Prop := summaryBackRow.holds Try.pinned (OpenSpec.ofChange summaryBackSpec)

/-- ITS FALSE NEIGHBOUR: 'it returns false'. Refute it at one input. -/
def summaryBackWrong : ChangeSpec := { name := "summaryBack", fn := fun _ => fun
  | [d1, d2, d3] => { results := [.lit (.bool false)], args := [d1, d2, d3] }
  | _ => none }
def SummaryBackWrongFalsely : Prop := summaryBackRow.holds Try.pinned (OpenSpec.ofChange summaryBackWrong)

/- THE SECOND FORM. 'bulk': how many values and letters a reading holds, each counted each time it is reached (what is shared counts as often as it is met; a slice's spare places count too). A statement '..UptoSaid' is the law's where the arguments, and the package variables that the reading takes, are together of bulk at most 1048576: NARROWER than '..Said'. Prove '..Said' where nothing that the law and all that it calls make is longer than what came in: it says more and counts as full. Else prove '..UptoSaid'. A law counts once. -/
mutual
def uptoBulk {H : Type} : DataW H → Nat
  | .lit (.string bytes) => bytes.length + 1
  | .lit _ => 1
  | .nil => 1
  | .ptr d => uptoBulk d + 1
  | .slice elems spare => uptoBulkAll elems + uptoBulkAll spare + 1
  | .agg parts => uptoBulkAll parts + 1
  | .iface _ d => uptoBulk d + 1
  | .map entries => uptoBulkEntries entries + 1
  | .held _ => 1
def uptoBulkAll {H : Type} : List (DataW H) → Nat
  | [] => 0
  | d :: r => uptoBulk d + uptoBulkAll r
def uptoBulkEntries {H : Type} : List (Lit × DataW H) → Nat
  | [] => 0
  | x :: r => uptoBulkEntry x + uptoBulkEntries r
def uptoBulkEntry {H : Type} : Lit × DataW H → Nat
  | (.string bytes, d) => bytes.length + uptoBulk d + 1
  | (_, d) => uptoBulk d + 1
 end
def uptoSmall : (H : Type) → List (DataW H) → Bool := fun _ ds => decide (uptoBulkAll ds ≤ 1048576)
def OpenSpec.upto (s : _root_.Go.ChangeSpec) : _root_.Go.OpenSpec := { _root_.Go.OpenSpec.ofChange s with cond := some uptoSmall }

/-- 'hayricklaw14.SummaryPlaces', WHERE WHAT IT READS IS OF BULK AT MOST 1048576: true; the input reads as it did. -/
def summaryPlacesUptoRow : OpenClaim := { program := "ytbicbjfdinhpoaa", sum := "e5daca288a37554bfc39d4319ff79df3f6bf27200be7ecc3ef471e8bd3943d2f", func := "hayrick/hayricklaw14.SummaryPlaces", spec := "summaryPlaces", apart := false, narrowed := true }
def SummaryPlacesUptoSaid : Prop := summaryPlacesUptoRow.holds Try.pinned (OpenSpec.upto summaryPlacesSpec)

/-- 'hayricklaw14.SummaryOnce', WHERE WHAT IT READS IS OF BULK AT MOST 1048576: true; the input reads as it did. -/
def summaryOnceUptoRow : OpenClaim := { program := "ytbicbjfdinhpoaa", sum := "e5daca288a37554bfc39d4319ff79df3f6bf27200be7ecc3ef471e8bd3943d2f", func := "hayrick/hayricklaw14.SummaryOnce", spec := "summaryOnce", apart := false, narrowed := true }
def SummaryOnceUptoSaid : Prop := summaryOnceUptoRow.holds Try.pinned (OpenSpec.upto summaryOnceSpec)

/-- 'hayricklaw14.SummaryPuts', WHERE WHAT IT READS IS OF BULK AT MOST 1048576: true; the input reads as it did. -/
def summaryPutsUptoRow : OpenClaim := { program := "ytbicbjfdinhpoaa", sum := "e5daca288a37554bfc39d4319ff79df3f6bf27200be7ecc3ef471e8bd3943d2f", func := "hayrick/hayricklaw14.SummaryPuts", spec := "summaryPuts", apart := false, narrowed := true }
def SummaryPutsUptoSaid : Prop := summaryPutsUptoRow.holds Try.pinned (OpenSpec.upto summaryPutsSpec)

/-- 'hayricklaw14.SummaryKnown', WHERE WHAT IT READS IS OF BULK AT MOST 1048576: true; the input reads as it did. -/
def summaryKnownUptoRow : OpenClaim := { program := "ytbicbjfdinhpoaa", sum := "e5daca288a37554bfc39d4319ff79df3f6bf27200be7ecc3ef471e8bd3943d2f", func := "hayrick/hayricklaw14.SummaryKnown", spec := "summaryKnown", apart := false, narrowed := true }
def SummaryKnownUptoSaid : Prop := summaryKnownUptoRow.holds Try.pinned (OpenSpec.upto summaryKnownSpec)

/-- 'hayricklaw14.SummaryTakes', WHERE WHAT IT READS IS OF BULK AT MOST 1048576: true; the input reads as it did. -/
def summaryTakesUptoRow : OpenClaim := { program := "ytbicbjfdinhpoaa", sum := "e5daca288a37554bfc39d4319ff79df3f6bf27200be7ecc3ef471e8bd3943d2f", func := "hayrick/hayricklaw14.SummaryTakes", spec := "summaryTakes", apart := false, narrowed := true }
def SummaryTakesUptoSaid : Prop := summaryTakesUptoRow.holds Try.pinned (OpenSpec.upto summaryTakesSpec)

/-- 'hayricklaw14.SummaryBack', WHERE WHAT IT READS IS OF BULK AT MOST 1048576: true; the input reads as it did. -/
def summaryBackUptoRow : OpenClaim := { program := "ytbicbjfdinhpoaa", sum := "e5daca288a37554bfc39d4319ff79df3f6bf27200be7ecc3ef471e8bd3943d2f", func := "hayrick/hayricklaw14.SummaryBack", spec := "summaryBack", apart := false, narrowed := true }
def SummaryBackUptoSaid : Prop := summaryBackUptoRow.holds Try.pinned (OpenSpec.upto summaryBackSpec)

end Rows
end Go.Proofs.Ytbicbjfdinhpoaa
