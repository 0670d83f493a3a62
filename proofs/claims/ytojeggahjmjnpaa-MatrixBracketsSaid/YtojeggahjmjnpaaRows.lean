/-
  No cell of these rows narrows 'for every input' (looked for: loops, veiled, ifaces, maps, wideKeys, modest, calm, conditions, laid).
  DERIVED. THE GIVEN ROWS OF THIS SEAT. 5 by the template 'for every input the law returns true; each argument reads behind the call as it read before'; 0 by the template 'total and deterministic' (their statements: YtojeggahjmjnpaaTotals.lean).
  GIVEN WITH THE SEED: the statements are not yours to turn. If you find one false, say at which input.
  Laid BY PROGRAM, IN A SANDBOX (cutbox-rows.mjs): the forced cells as the released guide's own fill.sh prints them over the translation 5373c7da18da1b06… (all of the seat's roots in one cut). By AI agents, Wed Nov 11 2026. No macro, syntax, notation, axiom, sorry.
-/
import Derived.Test.YtojeggahjmjnpaaChecked
import GoSem.Claim
import GoSem.ClaimJoined
import GoSem.ClaimMapViews
import Derived.JoinedTies
import Derived.KernelRfl
namespace Go.Proofs.Ytojeggahjmjnpaa
/- THE CELL 'sum', in the pinned program and in every row, IS THE sha256 OF THE DUMP (.gsa) THAT YtojeggahjmjnpaaProg.lean LOADS. Nothing in Lean hashes anything: it is a label: what it is worth is what the hold of that sum in a sandbox is worth. -/
noncomputable def Try.pinned : Pinned := { name := "ytojeggahjmjnpaa", sum := "5373c7da18da1b06df74b51f1e504fd720d27c5a699048a730bf9df2d40b4e90", checked := Try.checked }
namespace Rows
def none {H : Type} : Left H := { results := [], args := [] }

/-- 'hayricklaw03.MatrixOnes': WHATEVER THE INPUT: true; the input reads as it did. -/
def matrixOnesSpec : ChangeSpec := { name := "matrixOnes", fn := fun _ => fun
  | [d] => { results := [.lit (.bool true)], args := [d] }
  | _ => none }
def matrixOnesRow : OpenClaim := { program := "ytojeggahjmjnpaa", sum := "5373c7da18da1b06df74b51f1e504fd720d27c5a699048a730bf9df2d40b4e90", func := "hayrick/hayricklaw03.MatrixOnes", spec := "matrixOnes", unfollowed := true, recurses := true, apart := false }
def MatrixOnesSaid : Prop := matrixOnesRow.holds Try.pinned (OpenSpec.ofChange matrixOnesSpec)

/-- ITS FALSE NEIGHBOUR: 'it returns false'. Refute it at one input. -/
def matrixOnesWrong : ChangeSpec := { name := "matrixOnes", fn := fun _ => fun
  | [d] => { results := [.lit (.bool false)], args := [d] }
  | _ => none }
def MatrixOnesWrongFalsely : Prop := matrixOnesRow.holds Try.pinned (OpenSpec.ofChange matrixOnesWrong)

/-- 'hayricklaw03.MatrixInverse': WHATEVER THE INPUT: true; the input reads as it did. -/
def matrixInverseSpec : ChangeSpec := { name := "matrixInverse", fn := fun _ => fun
  | [d] => { results := [.lit (.bool true)], args := [d] }
  | _ => none }
def matrixInverseRow : OpenClaim := { program := "ytojeggahjmjnpaa", sum := "5373c7da18da1b06df74b51f1e504fd720d27c5a699048a730bf9df2d40b4e90", func := "hayrick/hayricklaw03.MatrixInverse", spec := "matrixInverse", unfollowed := true, recurses := true, apart := false }
def MatrixInverseSaid : Prop := matrixInverseRow.holds Try.pinned (OpenSpec.ofChange matrixInverseSpec)

/-- ITS FALSE NEIGHBOUR: 'it returns false'. Refute it at one input. -/
def matrixInverseWrong : ChangeSpec := { name := "matrixInverse", fn := fun _ => fun
  | [d] => { results := [.lit (.bool false)], args := [d] }
  | _ => none }
def MatrixInverseWrongFalsely : Prop := matrixInverseRow.holds Try.pinned (OpenSpec.ofChange matrixInverseWrong)

/-- 'hayricklaw03.MatrixDoes': WHATEVER THE INPUT: true; the input reads as it did. -/
def matrixDoesSpec : ChangeSpec := { name := "matrixDoes", fn := fun _ => fun
  | [d1, d2, d3] => { results := [.lit (.bool true)], args := [d1, d2, d3] }
  | _ => none }
def matrixDoesRow : OpenClaim := { program := "ytojeggahjmjnpaa", sum := "5373c7da18da1b06df74b51f1e504fd720d27c5a699048a730bf9df2d40b4e90", func := "hayrick/hayricklaw03.MatrixDoes", spec := "matrixDoes", unfollowed := true, recurses := true, apart := false }
def MatrixDoesSaid : Prop := matrixDoesRow.holds Try.pinned (OpenSpec.ofChange matrixDoesSpec)

/-- ITS FALSE NEIGHBOUR: 'it returns false'. Refute it at one input. -/
def matrixDoesWrong : ChangeSpec := { name := "matrixDoes", fn := fun _ => fun
  | [d1, d2, d3] => { results := [.lit (.bool false)], args := [d1, d2, d3] }
  | _ => none }
def MatrixDoesWrongFalsely : Prop := matrixDoesRow.holds Try.pinned (OpenSpec.ofChange matrixDoesWrong)

/-- 'hayricklaw03.MatrixBrackets': WHATEVER THE INPUT: true; the input reads as it did. -/
def matrixBracketsSpec : ChangeSpec := { name := "matrixBrackets", fn := fun _ => fun
  | [d] => { results := [.lit (.bool true)], args := [d] }
  | _ => none }
def matrixBracketsRow : OpenClaim := { program := "ytojeggahjmjnpaa", sum := "5373c7da18da1b06df74b51f1e504fd720d27c5a699048a730bf9df2d40b4e90", func := "hayrick/hayricklaw03.MatrixBrackets", spec := "matrixBrackets", unfollowed := true, recurses := true, apart := false }
def MatrixBracketsSaid : Prop := matrixBracketsRow.holds Try.pinned (OpenSpec.ofChange matrixBracketsSpec)

/-- ITS FALSE NEIGHBOUR: 'it returns false'. Refute it at one input. -/
def matrixBracketsWrong : ChangeSpec := { name := "matrixBrackets", fn := fun _ => fun
  | [d] => { results := [.lit (.bool false)], args := [d] }
  | _ => none }
def MatrixBracketsWrongFalsely : Prop := matrixBracketsRow.holds Try.pinned (OpenSpec.ofChange matrixBracketsWrong)

/-- 'hayricklaw03.MatrixKnown': WHATEVER THE INPUT: true; the input reads as it did. -/
def matrixKnownSpec : ChangeSpec := { name := "matrixKnown", fn := fun _ => fun
  | [] => { results := [.lit (.bool true)], args := [] }
  | _ => none }
def matrixKnownRow : OpenClaim := { program := "ytojeggahjmjnpaa", sum := "5373c7da18da1b06df74b51f1e504fd720d27c5a699048a730bf9df2d40b4e90", func := "hayrick/hayricklaw03.MatrixKnown", spec := "matrixKnown", unfollowed := true, recurses := true, apart := false }
def MatrixKnownSaid : Prop := matrixKnownRow.holds Try.pinned (OpenSpec.ofChange matrixKnownSpec)

/-- ITS FALSE NEIGHBOUR: 'it returns false'. Refute it at one input. -/
def matrixKnownWrong : ChangeSpec := { name := "matrixKnown", fn := fun _ => fun
  | [] => { results := [.lit (.bool false)], args := [] }
  | _ => none }
def MatrixKnownWrongFalsely : Prop := matrixKnownRow.holds Try.pinned (OpenSpec.ofChange matrixKnownWrong)

/- THE SECOND FORM. 'bulk': how many values and letters a reading holds, each counted each time it is reached (what is shared counts as often as it is met; a slice's spare places count too). A statement '..UptoSaid' is the law's where the arguments, and the package variables that the reading takes, are together of bulk at most 1048576: NARROWER than '..Said'. Prove '..Said' where nothing that the law and all that it calls make is longer than what came in: it says more and counts as full. Else prove '..UptoSaid'. A law counts once. -/
mutual
def uptoBulk {H : Type} : DataW H → Nat
  | .lit (.string bytes) => bytes.length + 1
  | .lit _ => 1
  | .nil => 1
  | .ptr d => uptoBulk d + 1
  | .slice elems spare => uptoBulkAll elems + uptoBulkAll spare + 1
  | .agg parts => uptoBulkAll parts + 1
  | .iface _ d => uptoBulk d + 1
  | .map entries => uptoBulkEntries entries + 1
  | .held _ => 1
def uptoBulkAll {H : Type} : List (DataW H) → Nat
  | [] => 0
  | d :: r => uptoBulk d + uptoBulkAll r
def uptoBulkEntries {H : Type} : List (Lit × DataW H) → Nat
  | [] => 0
  | x :: r => uptoBulkEntry x + uptoBulkEntries r
def uptoBulkEntry {H : Type} : Lit × DataW H → Nat
  | (.string bytes, d) => bytes.length + uptoBulk d + 1
  | (_, d) => uptoBulk d + 1
 end
def uptoSmall : (H : Type) → List (DataW H) → Bool := fun _ ds => decide (uptoBulkAll ds ≤ 1048576)
def OpenSpec.upto (s : _root_.Go.ChangeSpec) : _root_.Go.OpenSpec := { _root_.Go.OpenSpec.ofChange s with cond := some uptoSmall }

/-- 'hayricklaw03.MatrixOnes', WHERE WHAT IT READS IS OF BULK AT MOST 1048576: true; the input reads as it did. -/
def matrixOnesUptoRow : OpenClaim := { program := "ytojeggahjmjnpaa", sum := "5373c7da18da1b06df74b51f1e504fd720d27c5a699048a730bf9df2d40b4e90", func := "hayrick/hayricklaw03.MatrixOnes", spec := "matrixOnes", unfollowed := true, recurses := true, apart := false, narrowed := true }
def MatrixOnesUptoSaid : Prop := matrixOnesUptoRow.holds Try.pinned (OpenSpec.upto matrixOnesSpec)

/-- 'hayricklaw03.MatrixInverse', WHERE WHAT IT READS IS OF BULK AT MOST 1048576: true; the input reads as it did. -/
def matrixInverseUptoRow : OpenClaim := { program := "ytojeggahjmjnpaa", sum := "5373c7da18da1b06df74b51f1e504fd720d27c5a699048a730bf9df2d40b4e90", func := "hayrick/hayricklaw03.MatrixInverse", spec := "matrixInverse", unfollowed := true, recurses := true, apart := false, narrowed := true }
def MatrixInverseUptoSaid : Prop := matrixInverseUptoRow.holds Try.pinned (OpenSpec.upto matrixInverseSpec)

/-- 'hayricklaw03.MatrixDoes', WHERE WHAT IT READS IS OF BULK AT MOST 1048576: true; the input reads as it did. -/
def matrixDoesUptoRow : OpenClaim := { program := "ytojeggahjmjnpaa", sum := "5373c7da18da1b06df74b51f1e504fd720d27c5a699048a730bf9df2d40b4e90", func := "hayrick/hayricklaw03.MatrixDoes", spec := "matrixDoes", unfollowed := true, recurses := true, apart := false, narrowed := true }
def MatrixDoesUptoSaid : Prop := matrixDoesUptoRow.holds Try.pinned (OpenSpec.upto matrixDoesSpec)

/-- 'hayricklaw03.MatrixBrackets', WHERE WHAT IT READS IS OF BULK AT MOST 1048576: true; the input reads as it did. -/
def matrixBracketsUptoRow : OpenClaim := { program := "ytojeggahjmjnpaa", sum := "5373c7da18da1b06df74b51f1e504fd720d27c5a699048a730bf9df2d40b4e90", func := "hayrick/hayricklaw03.MatrixBrackets", spec := "matrixBrackets", unfollowed := true, recurses := true, apart := false, narrowed := true }
def MatrixBracketsUptoSaid : Prop := matrixBracketsUptoRow.holds Try.pinned (OpenSpec.upto matrixBracketsSpec)

/-- 'hayricklaw03.MatrixKnown', WHERE WHAT IT READS IS OF BULK AT MOST 1048576: true; the input reads as it did. -/
def matrixKnownUptoRow : OpenClaim := { program := "ytojeggahjmjnpaa", sum := "5373c7da18da1b06df74b51f1e504fd720d27c5a699048a730bf9df2d40b4e90", func := "hayrick/hayricklaw03.MatrixKnown", spec := "matrixKnown", unfollowed := true, recurses := true, apart := false, narrowed := true }
def MatrixKnownUptoSaid : Prop := matrixKnownUptoRow.holds Try.pinned (OpenSpec.upto matrixKnownSpec)

end Rows
end Go.Proofs.Ytojeggahjmjnpaa
