/-
  No cell of these rows narrows 'for every input' (looked for: loops, veiled, ifaces, maps, wideKeys, modest, calm, conditions, laid).
  DERIVED. THE GIVEN ROWS OF THIS SEAT. 6 by the template 'for every input the law returns true; each argument reads behind the call as it read before'; 0 by the template 'total and deterministic' (their statements: YtickckpndpeppaaTotals.lean).
  GIVEN WITH THE SEED: the statements are not yours to turn. If you find one false, say at which input.
  Laid BY PROGRAM, IN A SANDBOX (cutbox-rows.mjs): the forced cells as the released guide's own fill.sh prints them over the translation 88646999a94e7de4… (all of the seat's roots in one cut). By AI agents, Wed Nov 11 2026. No macro, syntax, notation, axiom, sorry.
-/
import Derived.Test.YtickckpndpeppaaChecked
import GoSem.Claim
import GoSem.ClaimJoined
import GoSem.ClaimMapViews
import Derived.JoinedTies
import Derived.KernelRfl
namespace Go.Proofs.Ytickckpndpeppaa
/- THE CELL 'sum', in the pinned program and in every row, IS THE sha256 OF THE DUMP (.gsa) THAT YtickckpndpeppaaProg.lean LOADS. Nothing in Lean hashes anything: it is a label: what it is worth is what the hold of that sum in a sandbox is worth. -/
noncomputable def Try.pinned : Pinned := { name := "ytickckpndpeppaa", sum := "88646999a94e7de4974c9e389ad7b492832a57e68f9ed9f280b5b57f98ecc3c9", checked := Try.checked }
namespace Rows
def none {H : Type} : Left H := { results := [], args := [] }

/-- 'hayricklaw06.ArrayNews': WHATEVER THE INPUT: true; the input reads as it did. -/
def arrayNewsSpec : ChangeSpec := { name := "arrayNews", fn := fun _ => fun
  | [d1, d2] => { results := [.lit (.bool true)], args := [d1, d2] }
  | _ => none }
def arrayNewsRow : OpenClaim := { program := "ytickckpndpeppaa", sum := "88646999a94e7de4974c9e389ad7b492832a57e68f9ed9f280b5b57f98ecc3c9", func := "hayrick/hayricklaw06.ArrayNews", spec := "arrayNews", inPlace := ["internal/bytealg.MakeNoZero"], unfollowed := true, recurses := true, apart := false }
def ArrayNewsSaid : Prop := arrayNewsRow.holds Try.pinned (OpenSpec.ofChange arrayNewsSpec)

/-- ITS FALSE NEIGHBOUR: 'it returns false'. Refute it at one input. -/
def arrayNewsWrong : ChangeSpec := { name := "arrayNews", fn := fun _ => fun
  | [d1, d2] => { results := [.lit (.bool false)], args := [d1, d2] }
  | _ => none }
def ArrayNewsWrongFalsely : Prop := arrayNewsRow.holds Try.pinned (OpenSpec.ofChange arrayNewsWrong)

/-- 'hayricklaw06.ArrayBlank': WHATEVER THE INPUT: true; the input reads as it did. -/
def arrayBlankSpec : ChangeSpec := { name := "arrayBlank", fn := fun _ => fun
  | [d1, d2] => { results := [.lit (.bool true)], args := [d1, d2] }
  | _ => none }
def arrayBlankRow : OpenClaim := { program := "ytickckpndpeppaa", sum := "88646999a94e7de4974c9e389ad7b492832a57e68f9ed9f280b5b57f98ecc3c9", func := "hayrick/hayricklaw06.ArrayBlank", spec := "arrayBlank", inPlace := ["internal/bytealg.MakeNoZero"], unfollowed := true, recurses := true, apart := false }
def ArrayBlankSaid : Prop := arrayBlankRow.holds Try.pinned (OpenSpec.ofChange arrayBlankSpec)

/-- ITS FALSE NEIGHBOUR: 'it returns false'. Refute it at one input. -/
def arrayBlankWrong : ChangeSpec := { name := "arrayBlank", fn := fun _ => fun
  | [d1, d2] => { results := [.lit (.bool false)], args := [d1, d2] }
  | _ => none }
def ArrayBlankWrongFalsely : Prop := arrayBlankRow.holds Try.pinned (OpenSpec.ofChange arrayBlankWrong)

/-- 'hayricklaw06.ArrayKeeps': WHATEVER THE INPUT: true; the input reads as it did. -/
def arrayKeepsSpec : ChangeSpec := { name := "arrayKeeps", fn := fun _ => fun
  | [d1, d2, d3] => { results := [.lit (.bool true)], args := [d1, d2, d3] }
  | _ => none }
def arrayKeepsRow : OpenClaim := { program := "ytickckpndpeppaa", sum := "88646999a94e7de4974c9e389ad7b492832a57e68f9ed9f280b5b57f98ecc3c9", func := "hayrick/hayricklaw06.ArrayKeeps", spec := "arrayKeeps", inPlace := ["internal/bytealg.MakeNoZero"], unfollowed := true, recurses := true, apart := false }
def ArrayKeepsSaid : Prop := arrayKeepsRow.holds Try.pinned (OpenSpec.ofChange arrayKeepsSpec)

/-- ITS FALSE NEIGHBOUR: 'it returns false'. Refute it at one input. -/
def arrayKeepsWrong : ChangeSpec := { name := "arrayKeeps", fn := fun _ => fun
  | [d1, d2, d3] => { results := [.lit (.bool false)], args := [d1, d2, d3] }
  | _ => none }
def ArrayKeepsWrongFalsely : Prop := arrayKeepsRow.holds Try.pinned (OpenSpec.ofChange arrayKeepsWrong)

/-- 'hayricklaw06.ArrayApart': WHATEVER THE INPUT: true; the input reads as it did. -/
def arrayApartSpec : ChangeSpec := { name := "arrayApart", fn := fun _ => fun
  | [d] => { results := [.lit (.bool true)], args := [d] }
  | _ => none }
def arrayApartRow : OpenClaim := { program := "ytickckpndpeppaa", sum := "88646999a94e7de4974c9e389ad7b492832a57e68f9ed9f280b5b57f98ecc3c9", func := "hayrick/hayricklaw06.ArrayApart", spec := "arrayApart", inPlace := ["internal/bytealg.MakeNoZero"], unfollowed := true, recurses := true, apart := false }
def ArrayApartSaid : Prop := arrayApartRow.holds Try.pinned (OpenSpec.ofChange arrayApartSpec)

/-- ITS FALSE NEIGHBOUR: 'it returns false'. Refute it at one input. -/
def arrayApartWrong : ChangeSpec := { name := "arrayApart", fn := fun _ => fun
  | [d] => { results := [.lit (.bool false)], args := [d] }
  | _ => none }
def ArrayApartWrongFalsely : Prop := arrayApartRow.holds Try.pinned (OpenSpec.ofChange arrayApartWrong)

/-- 'hayricklaw06.ArrayPlays': WHATEVER THE INPUT: true; the input reads as it did. -/
def arrayPlaysSpec : ChangeSpec := { name := "arrayPlays", fn := fun _ => fun
  | [d1, d2, d3] => { results := [.lit (.bool true)], args := [d1, d2, d3] }
  | _ => none }
def arrayPlaysRow : OpenClaim := { program := "ytickckpndpeppaa", sum := "88646999a94e7de4974c9e389ad7b492832a57e68f9ed9f280b5b57f98ecc3c9", func := "hayrick/hayricklaw06.ArrayPlays", spec := "arrayPlays", inPlace := ["internal/bytealg.MakeNoZero"], unfollowed := true, recurses := true, apart := false }
def ArrayPlaysSaid : Prop := arrayPlaysRow.holds Try.pinned (OpenSpec.ofChange arrayPlaysSpec)

/-- ITS FALSE NEIGHBOUR: 'it returns false'. Refute it at one input. -/
def arrayPlaysWrong : ChangeSpec := { name := "arrayPlays", fn := fun _ => fun
  | [d1, d2, d3] => { results := [.lit (.bool false)], args := [d1, d2, d3] }
  | _ => none }
def ArrayPlaysWrongFalsely : Prop := arrayPlaysRow.holds Try.pinned (OpenSpec.ofChange arrayPlaysWrong)

/-- 'hayricklaw06.ArrayKnown': WHATEVER THE INPUT: true; the input reads as it did. -/
def arrayKnownSpec : ChangeSpec := { name := "arrayKnown", fn := fun _ => fun
  | [] => { results := [.lit (.bool true)], args := [] }
  | _ => none }
def arrayKnownRow : OpenClaim := { program := "ytickckpndpeppaa", sum := "88646999a94e7de4974c9e389ad7b492832a57e68f9ed9f280b5b57f98ecc3c9", func := "hayrick/hayricklaw06.ArrayKnown", spec := "arrayKnown", inPlace := ["internal/bytealg.MakeNoZero"], unfollowed := true, recurses := true, apart := false }
def ArrayKnownSaid : Prop := arrayKnownRow.holds Try.pinned (OpenSpec.ofChange arrayKnownSpec)

/-- ITS FALSE NEIGHBOUR: 'it returns false'. Refute it at one input. -/
def arrayKnownWrong : ChangeSpec := { name := "arrayKnown", fn := fun _ => fun
  | [] => { results := [.lit (.bool false)], args := [] }
  | _ => none }
def ArrayKnownWrongFalsely : Prop := arrayKnownRow.holds Try.pinned (OpenSpec.ofChange arrayKnownWrong)

/- THE SECOND FORM. 'bulk': how many values and letters a reading holds, each counted each time it is reached (what is shared counts as often as it is met; a slice's spare places count too). A statement '..UptoSaid' is the law's where the arguments, and the package variables that the reading takes, are together of bulk at most 1048576: NARROWER than '..Said'. Prove '..Said' where nothing that the law and all that it calls make is longer than what came in: it says more and counts as full. Else prove '..UptoSaid'. A law counts once. -/
mutual
def uptoBulk {H : Type} : DataW H → Nat
  | .lit (.string bytes) => bytes.length + 1
  | .lit _ => 1
  | .nil => 1
  | .ptr d => uptoBulk d + 1
  | .slice elems spare => uptoBulkAll elems + uptoBulkAll spare + 1
  | .agg parts => uptoBulkAll parts + 1
  | .iface _ d => uptoBulk d + 1
  | .map entries => uptoBulkEntries entries + 1
  | .held _ => 1
def uptoBulkAll {H : Type} : List (DataW H) → Nat
  | [] => 0
  | d :: r => uptoBulk d + uptoBulkAll r
def uptoBulkEntries {H : Type} : List (Lit × DataW H) → Nat
  | [] => 0
  | x :: r => uptoBulkEntry x + uptoBulkEntries r
def uptoBulkEntry {H : Type} : Lit × DataW H → Nat
  | (.string bytes, d) => bytes.length + uptoBulk d + 1
  | (_, d) => uptoBulk d + 1
 end
def uptoSmall : (H : Type) → List (DataW H) → Bool := fun _ ds => decide (uptoBulkAll ds ≤ 1048576)
def OpenSpec.upto (s : _root_.Go.ChangeSpec) : _root_.Go.OpenSpec := { _root_.Go.OpenSpec.ofChange s with cond := some uptoSmall }

/-- 'hayricklaw06.ArrayNews', WHERE WHAT IT READS IS OF BULK AT MOST 1048576: true; the input reads as it did. -/
def arrayNewsUptoRow : OpenClaim := { program := "ytickckpndpeppaa", sum := "88646999a94e7de4974c9e389ad7b492832a57e68f9ed9f280b5b57f98ecc3c9", func := "hayrick/hayricklaw06.ArrayNews", spec := "arrayNews", inPlace := ["internal/bytealg.MakeNoZero"], unfollowed := true, recurses := true, apart := false, narrowed := true }
def ArrayNewsUptoSaid : Prop := arrayNewsUptoRow.holds Try.pinned (OpenSpec.upto arrayNewsSpec)

/-- 'hayricklaw06.ArrayBlank', WHERE WHAT IT READS IS OF BULK AT MOST 1048576: true; the input reads as it did. -/
def arrayBlankUptoRow : OpenClaim := { program := "ytickckpndpeppaa", sum := "88646999a94e7de4974c9e389ad7b492832a57e68f9ed9f280b5b57f98ecc3c9", func := "hayrick/hayricklaw06.ArrayBlank", spec := "arrayBlank", inPlace := ["internal/bytealg.MakeNoZero"], unfollowed := true, recurses := true, apart := false, narrowed := true }
def ArrayBlankUptoSaid : Prop := arrayBlankUptoRow.holds Try.pinned (OpenSpec.upto arrayBlankSpec)

/-- 'hayricklaw06.ArrayKeeps', WHERE WHAT IT READS IS OF BULK AT MOST 1048576: true; the input reads as it did. -/
def arrayKeepsUptoRow : OpenClaim := { program := "ytickckpndpeppaa", sum := "88646999a94e7de4974c9e389ad7b492832a57e68f9ed9f280b5b57f98ecc3c9", func := "hayrick/hayricklaw06.ArrayKeeps", spec := "arrayKeeps", inPlace := ["internal/bytealg.MakeNoZero"], unfollowed := true, recurses := true, apart := false, narrowed := true }
def ArrayKeepsUptoSaid : Prop := arrayKeepsUptoRow.holds Try.pinned (OpenSpec.upto arrayKeepsSpec)

/-- 'hayricklaw06.ArrayApart', WHERE WHAT IT READS IS OF BULK AT MOST 1048576: true; the input reads as it did. -/
def arrayApartUptoRow : OpenClaim := { program := "ytickckpndpeppaa", sum := "88646999a94e7de4974c9e389ad7b492832a57e68f9ed9f280b5b57f98ecc3c9", func := "hayrick/hayricklaw06.ArrayApart", spec := "arrayApart", inPlace := ["internal/bytealg.MakeNoZero"], unfollowed := true, recurses := true, apart := false, narrowed := true }
def ArrayApartUptoSaid : Prop := arrayApartUptoRow.holds Try.pinned (OpenSpec.upto arrayApartSpec)

/-- 'hayricklaw06.ArrayPlays', WHERE WHAT IT READS IS OF BULK AT MOST 1048576: true; the input reads as it did. -/
def arrayPlaysUptoRow : OpenClaim := { program := "ytickckpndpeppaa", sum := "88646999a94e7de4974c9e389ad7b492832a57e68f9ed9f280b5b57f98ecc3c9", func := "hayrick/hayricklaw06.ArrayPlays", spec := "arrayPlays", inPlace := ["internal/bytealg.MakeNoZero"], unfollowed := true, recurses := true, apart := false, narrowed := true }
def ArrayPlaysUptoSaid : Prop := arrayPlaysUptoRow.holds Try.pinned (OpenSpec.upto arrayPlaysSpec)

/-- 'hayricklaw06.ArrayKnown', WHERE WHAT IT READS IS OF BULK AT MOST 1048576: true; the input reads as it did. -/
def arrayKnownUptoRow : OpenClaim := { program := "ytickckpndpeppaa", sum := "88646999a94e7de4974c9e389ad7b492832a57e68f9ed9f280b5b57f98ecc3c9", func := "hayrick/hayricklaw06.ArrayKnown", spec := "arrayKnown", inPlace := ["internal/bytealg.MakeNoZero"], unfollowed := true, recurses := true, apart := false, narrowed := true }
def ArrayKnownUptoSaid : Prop := arrayKnownUptoRow.holds Try.pinned (OpenSpec.upto arrayKnownSpec)

end Rows
end Go.Proofs.Ytickckpndpeppaa
