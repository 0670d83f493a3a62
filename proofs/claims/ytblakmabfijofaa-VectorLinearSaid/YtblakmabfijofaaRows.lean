/-
  No cell of these rows narrows 'for every input' (looked for: loops, veiled, ifaces, maps, wideKeys, modest, calm, conditions, laid).
  DERIVED. THE GIVEN ROWS OF THIS SEAT. 6 by the template 'for every input the law returns true; each argument reads behind the call as it read before'; 0 by the template 'total and deterministic' (their statements: YtblakmabfijofaaTotals.lean).
  GIVEN WITH THE SEED: the statements are not yours to turn. If you find one false, say at which input.
  Laid BY PROGRAM, IN A SANDBOX (cutbox-rows.mjs): the forced cells as the released guide's own fill.sh prints them over the translation edafcab53a416e18… (all of the seat's roots in one cut). By AI agents, Wed Nov 11 2026. No macro, syntax, notation, axiom, sorry.
-/
import Derived.Test.YtblakmabfijofaaChecked
import GoSem.Claim
import GoSem.ClaimJoined
import GoSem.ClaimMapViews
import Derived.JoinedTies
import Derived.KernelRfl
namespace Go.Proofs.Ytblakmabfijofaa
/- THE CELL 'sum', in the pinned program and in every row, IS THE sha256 OF THE DUMP (.gsa) THAT YtblakmabfijofaaProg.lean LOADS. Nothing in Lean hashes anything: it is a label: what it is worth is what the hold of that sum in a sandbox is worth. -/
noncomputable def Try.pinned : Pinned := { name := "ytblakmabfijofaa", sum := "edafcab53a416e188c75f5c3a0898d976d11431b59579b27bc6231157315c356", checked := Try.checked }
namespace Rows
def none {H : Type} : Left H := { results := [], args := [] }

/-- 'hayricklaw02.VectorAdds': WHATEVER THE INPUT: true; the input reads as it did. -/
def vectorAddsSpec : ChangeSpec := { name := "vectorAdds", fn := fun _ => fun
  | [d1, d2, d3] => { results := [.lit (.bool true)], args := [d1, d2, d3] }
  | _ => none }
def vectorAddsRow : OpenClaim := { program := "ytblakmabfijofaa", sum := "edafcab53a416e188c75f5c3a0898d976d11431b59579b27bc6231157315c356", func := "hayrick/hayricklaw02.VectorAdds", spec := "vectorAdds", unfollowed := true, recurses := true, apart := false }
def VectorAddsSaid : Prop := vectorAddsRow.holds Try.pinned (OpenSpec.ofChange vectorAddsSpec)

/-- ITS FALSE NEIGHBOUR: 'it returns false'. Refute it at one input. -/
def vectorAddsWrong : ChangeSpec := { name := "vectorAdds", fn := fun _ => fun
  | [d1, d2, d3] => { results := [.lit (.bool false)], args := [d1, d2, d3] }
  | _ => none }
def VectorAddsWrongFalsely : Prop := vectorAddsRow.holds Try.pinned (OpenSpec.ofChange vectorAddsWrong)

/-- 'hayricklaw02.VectorCombines': WHATEVER THE INPUT: true; the input reads as it did. -/
def vectorCombinesSpec : ChangeSpec := { name := "vectorCombines", fn := fun _ => fun
  | [d1, d2] => { results := [.lit (.bool true)], args := [d1, d2] }
  | _ => none }
def vectorCombinesRow : OpenClaim := { program := "ytblakmabfijofaa", sum := "edafcab53a416e188c75f5c3a0898d976d11431b59579b27bc6231157315c356", func := "hayrick/hayricklaw02.VectorCombines", spec := "vectorCombines", unfollowed := true, recurses := true, apart := false }
def VectorCombinesSaid : Prop := vectorCombinesRow.holds Try.pinned (OpenSpec.ofChange vectorCombinesSpec)

/-- ITS FALSE NEIGHBOUR: 'it returns false'. Refute it at one input. -/
def vectorCombinesWrong : ChangeSpec := { name := "vectorCombines", fn := fun _ => fun
  | [d1, d2] => { results := [.lit (.bool false)], args := [d1, d2] }
  | _ => none }
def VectorCombinesWrongFalsely : Prop := vectorCombinesRow.holds Try.pinned (OpenSpec.ofChange vectorCombinesWrong)

/-- 'hayricklaw02.VectorDots': WHATEVER THE INPUT: true; the input reads as it did. -/
def vectorDotsSpec : ChangeSpec := { name := "vectorDots", fn := fun _ => fun
  | [d1, d2] => { results := [.lit (.bool true)], args := [d1, d2] }
  | _ => none }
def vectorDotsRow : OpenClaim := { program := "ytblakmabfijofaa", sum := "edafcab53a416e188c75f5c3a0898d976d11431b59579b27bc6231157315c356", func := "hayrick/hayricklaw02.VectorDots", spec := "vectorDots", unfollowed := true, recurses := true, apart := false }
def VectorDotsSaid : Prop := vectorDotsRow.holds Try.pinned (OpenSpec.ofChange vectorDotsSpec)

/-- ITS FALSE NEIGHBOUR: 'it returns false'. Refute it at one input. -/
def vectorDotsWrong : ChangeSpec := { name := "vectorDots", fn := fun _ => fun
  | [d1, d2] => { results := [.lit (.bool false)], args := [d1, d2] }
  | _ => none }
def VectorDotsWrongFalsely : Prop := vectorDotsRow.holds Try.pinned (OpenSpec.ofChange vectorDotsWrong)

/-- 'hayricklaw02.VectorUndoes': WHATEVER THE INPUT: true; the input reads as it did. -/
def vectorUndoesSpec : ChangeSpec := { name := "vectorUndoes", fn := fun _ => fun
  | [d1, d2, d3] => { results := [.lit (.bool true)], args := [d1, d2, d3] }
  | _ => none }
def vectorUndoesRow : OpenClaim := { program := "ytblakmabfijofaa", sum := "edafcab53a416e188c75f5c3a0898d976d11431b59579b27bc6231157315c356", func := "hayrick/hayricklaw02.VectorUndoes", spec := "vectorUndoes", unfollowed := true, recurses := true, apart := false }
def VectorUndoesSaid : Prop := vectorUndoesRow.holds Try.pinned (OpenSpec.ofChange vectorUndoesSpec)

/-- ITS FALSE NEIGHBOUR: 'it returns false'. Refute it at one input. -/
def vectorUndoesWrong : ChangeSpec := { name := "vectorUndoes", fn := fun _ => fun
  | [d1, d2, d3] => { results := [.lit (.bool false)], args := [d1, d2, d3] }
  | _ => none }
def VectorUndoesWrongFalsely : Prop := vectorUndoesRow.holds Try.pinned (OpenSpec.ofChange vectorUndoesWrong)

/-- 'hayricklaw02.VectorLinear': WHATEVER THE INPUT: true; the input reads as it did. -/
def vectorLinearSpec : ChangeSpec := { name := "vectorLinear", fn := fun _ => fun
  | [d1, d2, d3, d4] => { results := [.lit (.bool true)], args := [d1, d2, d3, d4] }
  | _ => none }
def vectorLinearRow : OpenClaim := { program := "ytblakmabfijofaa", sum := "edafcab53a416e188c75f5c3a0898d976d11431b59579b27bc6231157315c356", func := "hayrick/hayricklaw02.VectorLinear", spec := "vectorLinear", unfollowed := true, recurses := true, apart := false }
def VectorLinearSaid : Prop := vectorLinearRow.holds Try.pinned (OpenSpec.ofChange vectorLinearSpec)

/-- ITS FALSE NEIGHBOUR: 'it returns false'. Refute it at one input. -/
def vectorLinearWrong : ChangeSpec := { name := "vectorLinear", fn := fun _ => fun
  | [d1, d2, d3, d4] => { results := [.lit (.bool false)], args := [d1, d2, d3, d4] }
  | _ => none }
def VectorLinearWrongFalsely : Prop := vectorLinearRow.holds Try.pinned (OpenSpec.ofChange vectorLinearWrong)

/-- 'hayricklaw02.VectorKnown': WHATEVER THE INPUT: true; the input reads as it did. -/
def vectorKnownSpec : ChangeSpec := { name := "vectorKnown", fn := fun _ => fun
  | [] => { results := [.lit (.bool true)], args := [] }
  | _ => none }
def vectorKnownRow : OpenClaim := { program := "ytblakmabfijofaa", sum := "edafcab53a416e188c75f5c3a0898d976d11431b59579b27bc6231157315c356", func := "hayrick/hayricklaw02.VectorKnown", spec := "vectorKnown", unfollowed := true, recurses := true, apart := false }
def VectorKnownSaid : Prop := vectorKnownRow.holds Try.pinned (OpenSpec.ofChange vectorKnownSpec)

/-- ITS FALSE NEIGHBOUR: 'it returns false'. Refute it at one input. -/
def vectorKnownWrong : ChangeSpec := { name := "vectorKnown", fn := fun _ => fun
  | [] => { results := [.lit (.bool false)], args := [] }
  | _ => none }
def VectorKnownWrongFalsely : Prop := vectorKnownRow.holds Try.pinned (OpenSpec.ofChange vectorKnownWrong)

/- THE SECOND FORM. 'bulk': how many values and letters a reading holds, each counted each time it is reached (what is shared counts as often as it is met; a slice's spare places count too). A statement '..UptoSaid' is the law's where the arguments, and the package variables that the reading takes, are together of bulk at most 1048576: NARROWER than '..Said'. Prove '..Said' where nothing that the law and all that it calls make is longer than what came in: it says more and counts as full. Else prove '..UptoSaid'. A law counts once. -/
mutual
def uptoBulk {H : Type} : DataW H → Nat
  | .lit (.string bytes) => bytes.length + 1
  | .lit _ => 1
  | .nil => 1
  | .ptr d => uptoBulk d + 1
  | .slice elems spare => uptoBulkAll elems + uptoBulkAll spare + 1
  | .agg parts => uptoBulkAll parts + 1
  | .iface _ d => uptoBulk d + 1
  | .map entries => uptoBulkEntries entries + 1
  | .held _ => 1
def uptoBulkAll {H : Type} : List (DataW H) → Nat
  | [] => 0
  | d :: r => uptoBulk d + uptoBulkAll r
def uptoBulkEntries {H : Type} : List (Lit × DataW H) → Nat
  | [] => 0
  | x :: r => uptoBulkEntry x + uptoBulkEntries r
def uptoBulkEntry {H : Type} : Lit × DataW H → Nat
  | (.string bytes, d) => bytes.length + uptoBulk d + 1
  | (_, d) => uptoBulk d + 1
 end
def uptoSmall : (H : Type) → List (DataW H) → Bool := fun _ ds => decide (uptoBulkAll ds ≤ 1048576)
def OpenSpec.upto (s : _root_.Go.ChangeSpec) : _root_.Go.OpenSpec := { _root_.Go.OpenSpec.ofChange s with cond := some uptoSmall }

/-- 'hayricklaw02.VectorAdds', WHERE WHAT IT READS IS OF BULK AT MOST 1048576: true; the input reads as it did. -/
def vectorAddsUptoRow : OpenClaim := { program := "ytblakmabfijofaa", sum := "edafcab53a416e188c75f5c3a0898d976d11431b59579b27bc6231157315c356", func := "hayrick/hayricklaw02.VectorAdds", spec := "vectorAdds", unfollowed := true, recurses := true, apart := false, narrowed := true }
def VectorAddsUptoSaid : Prop := vectorAddsUptoRow.holds Try.pinned (OpenSpec.upto vectorAddsSpec)

/-- 'hayricklaw02.VectorCombines', WHERE WHAT IT READS IS OF BULK AT MOST 1048576: true; the input reads as it did. -/
def vectorCombinesUptoRow : OpenClaim := { program := "ytblakmabfijofaa", sum := "edafcab53a416e188c75f5c3a0898d976d11431b59579b27bc6231157315c356", func := "hayrick/hayricklaw02.VectorCombines", spec := "vectorCombines", unfollowed := true, recurses := true, apart := false, narrowed := true }
def VectorCombinesUptoSaid : Prop := vectorCombinesUptoRow.holds Try.pinned (OpenSpec.upto vectorCombinesSpec)

/-- 'hayricklaw02.VectorDots', WHERE WHAT IT READS IS OF BULK AT MOST 1048576: true; the input reads as it did. -/
def vectorDotsUptoRow : OpenClaim := { program := "ytblakmabfijofaa", sum := "edafcab53a416e188c75f5c3a0898d976d11431b59579b27bc6231157315c356", func := "hayrick/hayricklaw02.VectorDots", spec := "vectorDots", unfollowed := true, recurses := true, apart := false, narrowed := true }
def VectorDotsUptoSaid : Prop := vectorDotsUptoRow.holds Try.pinned (OpenSpec.upto vectorDotsSpec)

/-- 'hayricklaw02.VectorUndoes', WHERE WHAT IT READS IS OF BULK AT MOST 1048576: true; the input reads as it did. -/
def vectorUndoesUptoRow : OpenClaim := { program := "ytblakmabfijofaa", sum := "edafcab53a416e188c75f5c3a0898d976d11431b59579b27bc6231157315c356", func := "hayrick/hayricklaw02.VectorUndoes", spec := "vectorUndoes", unfollowed := true, recurses := true, apart := false, narrowed := true }
def VectorUndoesUptoSaid : Prop := vectorUndoesUptoRow.holds Try.pinned (OpenSpec.upto vectorUndoesSpec)

/-- 'hayricklaw02.VectorLinear', WHERE WHAT IT READS IS OF BULK AT MOST 1048576: true; the input reads as it did. -/
def vectorLinearUptoRow : OpenClaim := { program := "ytblakmabfijofaa", sum := "edafcab53a416e188c75f5c3a0898d976d11431b59579b27bc6231157315c356", func := "hayrick/hayricklaw02.VectorLinear", spec := "vectorLinear", unfollowed := true, recurses := true, apart := false, narrowed := true }
def VectorLinearUptoSaid : Prop := vectorLinearUptoRow.holds Try.pinned (OpenSpec.upto vectorLinearSpec)

/-- 'hayricklaw02.VectorKnown', WHERE WHAT IT READS IS OF BULK AT MOST 1048576: true; the input reads as it did. -/
def vectorKnownUptoRow : OpenClaim := { program := "ytblakmabfijofaa", sum := "edafcab53a416e188c75f5c3a0898d976d11431b59579b27bc6231157315c356", func := "hayrick/hayricklaw02.VectorKnown", spec := "vectorKnown", unfollowed := true, recurses := true, apart := false, narrowed := true }
def VectorKnownUptoSaid : Prop := vectorKnownUptoRow.holds Try.pinned (OpenSpec.upto vectorKnownSpec)

end Rows
end Go.Proofs.Ytblakmabfijofaa
