/-
  No cell of these rows narrows 'for every input' (looked for: loops, veiled, ifaces, maps, wideKeys, modest, calm, conditions, laid).
  DERIVED. THE GIVEN ROWS OF THIS SEAT. 5 by the template 'for every input the law returns true; each argument reads behind the call as it read before'; 0 by the template 'total and deterministic' (their statements: YtnpfoaapoinfjaaTotals.lean).
  GIVEN WITH THE SEED: the statements are not yours to turn. If you find one false, say at which input.
  Laid BY PROGRAM, IN A SANDBOX (cutbox-rows.mjs): the forced cells as the released guide's own fill.sh prints them over the translation 74fed0a439b1688f… (all of the seat's roots in one cut). By AI agents, Wed Nov 11 2026. No macro, syntax, notation, axiom, sorry.
-/
import Derived.Test.YtnpfoaapoinfjaaChecked
import GoSem.Claim
import GoSem.ClaimJoined
import GoSem.ClaimMapViews
import Derived.JoinedTies
import Derived.KernelRfl
namespace Go.Proofs.Ytnpfoaapoinfjaa
/- THE CELL 'sum', in the pinned program and in every row, IS THE sha256 OF THE DUMP (.gsa) THAT YtnpfoaapoinfjaaProg.lean LOADS. Nothing in Lean hashes anything: it is a label: what it is worth is what the hold of that sum in a sandbox is worth. -/
noncomputable def Try.pinned : Pinned := { name := "ytnpfoaapoinfjaa", sum := "74fed0a439b1688f15f24f4e1a45e5da6888cd8c3e2291a6f1f8458fe9c80b43", checked := Try.checked }
namespace Rows
def none {H : Type} : Left H := { results := [], args := [] }

/-- 'hayricklaw07.ChunkPuts': WHATEVER THE INPUT: true; the input reads as it did. -/
def chunkPutsSpec : ChangeSpec := { name := "chunkPuts", fn := fun _ => fun
  | [d1, d2] => { results := [.lit (.bool true)], args := [d1, d2] }
  | _ => none }
def chunkPutsRow : OpenClaim := { program := "ytnpfoaapoinfjaa", sum := "74fed0a439b1688f15f24f4e1a45e5da6888cd8c3e2291a6f1f8458fe9c80b43", func := "hayrick/hayricklaw07.ChunkPuts", spec := "chunkPuts", unfollowed := true, recurses := true, apart := false }
def ChunkPutsSaid : Prop := chunkPutsRow.holds Try.pinned (OpenSpec.ofChange chunkPutsSpec)

/-- ITS FALSE NEIGHBOUR: 'it returns false'. Refute it at one input. -/
def chunkPutsWrong : ChangeSpec := { name := "chunkPuts", fn := fun _ => fun
  | [d1, d2] => { results := [.lit (.bool false)], args := [d1, d2] }
  | _ => none }
def ChunkPutsWrongFalsely : Prop := chunkPutsRow.holds Try.pinned (OpenSpec.ofChange chunkPutsWrong)

/-- 'hayricklaw07.ChunkTakes': WHATEVER THE INPUT: true; the input reads as it did. -/
def chunkTakesSpec : ChangeSpec := { name := "chunkTakes", fn := fun _ => fun
  | [d1, d2] => { results := [.lit (.bool true)], args := [d1, d2] }
  | _ => none }
def chunkTakesRow : OpenClaim := { program := "ytnpfoaapoinfjaa", sum := "74fed0a439b1688f15f24f4e1a45e5da6888cd8c3e2291a6f1f8458fe9c80b43", func := "hayrick/hayricklaw07.ChunkTakes", spec := "chunkTakes", unfollowed := true, recurses := true, apart := false }
def ChunkTakesSaid : Prop := chunkTakesRow.holds Try.pinned (OpenSpec.ofChange chunkTakesSpec)

/-- ITS FALSE NEIGHBOUR: 'it returns false'. Refute it at one input. -/
def chunkTakesWrong : ChangeSpec := { name := "chunkTakes", fn := fun _ => fun
  | [d1, d2] => { results := [.lit (.bool false)], args := [d1, d2] }
  | _ => none }
def ChunkTakesWrongFalsely : Prop := chunkTakesRow.holds Try.pinned (OpenSpec.ofChange chunkTakesWrong)

/-- 'hayricklaw07.ChunkBack': WHATEVER THE INPUT: true; the input reads as it did. -/
def chunkBackSpec : ChangeSpec := { name := "chunkBack", fn := fun _ => fun
  | [d1, d2, d3] => { results := [.lit (.bool true)], args := [d1, d2, d3] }
  | _ => none }
def chunkBackRow : OpenClaim := { program := "ytnpfoaapoinfjaa", sum := "74fed0a439b1688f15f24f4e1a45e5da6888cd8c3e2291a6f1f8458fe9c80b43", func := "hayrick/hayricklaw07.ChunkBack", spec := "chunkBack", unfollowed := true, recurses := true, apart := false }
def ChunkBackSaid : Prop := chunkBackRow.holds Try.pinned (OpenSpec.ofChange chunkBackSpec)

/-- ITS FALSE NEIGHBOUR: 'it returns false'. Refute it at one input. -/
def chunkBackWrong : ChangeSpec := { name := "chunkBack", fn := fun _ => fun
  | [d1, d2, d3] => { results := [.lit (.bool false)], args := [d1, d2, d3] }
  | _ => none }
def ChunkBackWrongFalsely : Prop := chunkBackRow.holds Try.pinned (OpenSpec.ofChange chunkBackWrong)

/-- 'hayricklaw07.ChunkTorn': WHATEVER THE INPUT: true; the input reads as it did. -/
def chunkTornSpec : ChangeSpec := { name := "chunkTorn", fn := fun _ => fun
  | [d1, d2, d3, d4, d5] => { results := [.lit (.bool true)], args := [d1, d2, d3, d4, d5] }
  | _ => none }
def chunkTornRow : OpenClaim := { program := "ytnpfoaapoinfjaa", sum := "74fed0a439b1688f15f24f4e1a45e5da6888cd8c3e2291a6f1f8458fe9c80b43", func := "hayrick/hayricklaw07.ChunkTorn", spec := "chunkTorn", unfollowed := true, recurses := true, apart := false }
def ChunkTornSaid : Prop := chunkTornRow.holds Try.pinned (OpenSpec.ofChange chunkTornSpec)

/-- ITS FALSE NEIGHBOUR: 'it returns false'. Refute it at one input. -/
def chunkTornWrong : ChangeSpec := { name := "chunkTorn", fn := fun _ => fun
  | [d1, d2, d3, d4, d5] => { results := [.lit (.bool false)], args := [d1, d2, d3, d4, d5] }
  | _ => none }
def ChunkTornWrongFalsely : Prop := chunkTornRow.holds Try.pinned (OpenSpec.ofChange chunkTornWrong)

/-- 'hayricklaw07.ChunkKnown': WHATEVER THE INPUT: true; the input reads as it did. -/
def chunkKnownSpec : ChangeSpec := { name := "chunkKnown", fn := fun _ => fun
  | [] => { results := [.lit (.bool true)], args := [] }
  | _ => none }
def chunkKnownRow : OpenClaim := { program := "ytnpfoaapoinfjaa", sum := "74fed0a439b1688f15f24f4e1a45e5da6888cd8c3e2291a6f1f8458fe9c80b43", func := "hayrick/hayricklaw07.ChunkKnown", spec := "chunkKnown", unfollowed := true, recurses := true, apart := false }
def ChunkKnownSaid : Prop := chunkKnownRow.holds Try.pinned (OpenSpec.ofChange chunkKnownSpec)

/-- ITS FALSE NEIGHBOUR: 'it returns false'. Refute it at one input. -/
def chunkKnownWrong : ChangeSpec := { name := "chunkKnown", fn := fun _ => fun
  | [] => { results := [.lit (.bool false)], args := [] }
  | _ => none }
def ChunkKnownWrongFalsely : Prop := chunkKnownRow.holds Try.pinned (OpenSpec.ofChange chunkKnownWrong)

/- THE SECOND FORM. 'bulk': how many values and letters a reading holds, each counted each time it is reached (what is shared counts as often as it is met; a slice's spare places count too). A statement '..UptoSaid' is the law's where the arguments, and the package variables that the reading takes, are together of bulk at most 1048576: NARROWER than '..Said'. Prove '..Said' where nothing that the law and all that it calls make is longer than what came in: it says more and counts as full. Else prove '..UptoSaid'. A law counts once. -/
mutual
def uptoBulk {H : Type} : DataW H → Nat
  | .lit (.string bytes) => bytes.length + 1
  | .lit _ => 1
  | .nil => 1
  | .ptr d => uptoBulk d + 1
  | .slice elems spare => uptoBulkAll elems + uptoBulkAll spare + 1
  | .agg parts => uptoBulkAll parts + 1
  | .iface _ d => uptoBulk d + 1
  | .map entries => uptoBulkEntries entries + 1
  | .held _ => 1
def uptoBulkAll {H : Type} : List (DataW H) → Nat
  | [] => 0
  | d :: r => uptoBulk d + uptoBulkAll r
def uptoBulkEntries {H : Type} : List (Lit × DataW H) → Nat
  | [] => 0
  | x :: r => uptoBulkEntry x + uptoBulkEntries r
def uptoBulkEntry {H : Type} : Lit × DataW H → Nat
  | (.string bytes, d) => bytes.length + uptoBulk d + 1
  | (_, d) => uptoBulk d + 1
 end
def uptoSmall : (H : Type) → List (DataW H) → Bool := fun _ ds => decide (uptoBulkAll ds ≤ 1048576)
def OpenSpec.upto (s : _root_.Go.ChangeSpec) : _root_.Go.OpenSpec := { _root_.Go.OpenSpec.ofChange s with cond := some uptoSmall }

/-- 'hayricklaw07.ChunkPuts', WHERE WHAT IT READS IS OF BULK AT MOST 1048576: true; the input reads as it did. -/
def chunkPutsUptoRow : OpenClaim := { program := "ytnpfoaapoinfjaa", sum := "74fed0a439b1688f15f24f4e1a45e5da6888cd8c3e2291a6f1f8458fe9c80b43", func := "hayrick/hayricklaw07.ChunkPuts", spec := "chunkPuts", unfollowed := true, recurses := true, apart := false, narrowed := true }
def ChunkPutsUptoSaid : Prop := chunkPutsUptoRow.holds Try.pinned (OpenSpec.upto chunkPutsSpec)

/-- 'hayricklaw07.ChunkTakes', WHERE WHAT IT READS IS OF BULK AT MOST 1048576: true; the input reads as it did. -/
def chunkTakesUptoRow : OpenClaim := { program := "ytnpfoaapoinfjaa", sum := "74fed0a439b1688f15f24f4e1a45e5da6888cd8c3e2291a6f1f8458fe9c80b43", func := "hayrick/hayricklaw07.ChunkTakes", spec := "chunkTakes", unfollowed := true, recurses := true, apart := false, narrowed := true }
def ChunkTakesUptoSaid : Prop := chunkTakesUptoRow.holds Try.pinned (OpenSpec.upto chunkTakesSpec)

/-- 'hayricklaw07.ChunkBack', WHERE WHAT IT READS IS OF BULK AT MOST 1048576: true; the input reads as it did. -/
def chunkBackUptoRow : OpenClaim := { program := "ytnpfoaapoinfjaa", sum := "74fed0a439b1688f15f24f4e1a45e5da6888cd8c3e2291a6f1f8458fe9c80b43", func := "hayrick/hayricklaw07.ChunkBack", spec := "chunkBack", unfollowed := true, recurses := true, apart := false, narrowed := true }
def ChunkBackUptoSaid : Prop := chunkBackUptoRow.holds Try.pinned (OpenSpec.upto chunkBackSpec)

/-- 'hayricklaw07.ChunkTorn', WHERE WHAT IT READS IS OF BULK AT MOST 1048576: true; the input reads as it did. -/
def chunkTornUptoRow : OpenClaim := { program := "ytnpfoaapoinfjaa", sum := "74fed0a439b1688f15f24f4e1a45e5da6888cd8c3e2291a6f1f8458fe9c80b43", func := "hayrick/hayricklaw07.ChunkTorn", spec := "chunkTorn", unfollowed := true, recurses := true, apart := false, narrowed := true }
def ChunkTornUptoSaid : Prop := chunkTornUptoRow.holds Try.pinned (OpenSpec.upto chunkTornSpec)

/-- 'hayricklaw07.ChunkKnown', WHERE WHAT IT READS IS OF BULK AT MOST 1048576: true; the input reads as it did. -/
def chunkKnownUptoRow : OpenClaim := { program := "ytnpfoaapoinfjaa", sum := "74fed0a439b1688f15f24f4e1a45e5da6888cd8c3e2291a6f1f8458fe9c80b43", func := "hayrick/hayricklaw07.ChunkKnown", spec := "chunkKnown", unfollowed := true, recurses := true, apart := false, narrowed := true }
def ChunkKnownUptoSaid : Prop := chunkKnownUptoRow.holds Try.pinned (OpenSpec.upto chunkKnownSpec)

end Rows
end Go.Proofs.Ytnpfoaapoinfjaa
