/- What the abstract operations ask of this seat's types. -/
import Derived.Test.YtickckpndpeppaaZ2
import Derived.Test.YtickckpndpeppaaProg
namespace Go.Proofs.Ytickckpndpeppaa
open Go Go.Abs
set_option linter.unusedVariables false
theorem sz2 : sizeA Try.prog 2 = some 1 := by kernel_rfl
theorem by2 : bytesA Try.prog 2 = some 8 := by kernel_rfl
theorem ag2 : aggA Try.prog 2 = some false := by kernel_rfl
theorem ze2 : zeroA Try.prog 2 = some ([.int .i64 0]) := by kernel_rfl
theorem sz3 : sizeA Try.prog 3 = some 1 := by kernel_rfl
theorem by3 : bytesA Try.prog 3 = some 8 := by kernel_rfl
theorem ag3 : aggA Try.prog 3 = some false := by kernel_rfl
theorem ze3 : zeroA Try.prog 3 = some ([.int .i64 0]) := by kernel_rfl
theorem sz4 : sizeA Try.prog 4 = some 1 := by kernel_rfl
theorem by4 : bytesA Try.prog 4 = some 1 := by kernel_rfl
theorem ag4 : aggA Try.prog 4 = some false := by kernel_rfl
theorem ze4 : zeroA Try.prog 4 = some ([.bool false]) := by kernel_rfl
theorem sz5 : sizeA Try.prog 5 = some 1 := by kernel_rfl
theorem by5 : bytesA Try.prog 5 = some 1 := by kernel_rfl
theorem ag5 : aggA Try.prog 5 = some false := by kernel_rfl
theorem ze5 : zeroA Try.prog 5 = some ([.int .u8 0]) := by kernel_rfl
theorem sz7 : sizeA Try.prog 7 = some 4 := by kernel_rfl
theorem by7 : bytesA Try.prog 7 = some 24 := by kernel_rfl
theorem ag7 : aggA Try.prog 7 = some true := by kernel_rfl
theorem ze7 : zeroA Try.prog 7 = some ([.int .i64 0, .int .i64 0, .bool false, .int .u8 0]) := by kernel_rfl
theorem sz9 : sizeA Try.prog 9 = some 1 := by kernel_rfl
theorem by9 : bytesA Try.prog 9 = some 16 := by kernel_rfl
theorem ag9 : aggA Try.prog 9 = some false := by kernel_rfl
theorem ze9 : zeroA Try.prog 9 = some ([.str ByteArray.empty]) := by kernel_rfl
theorem sz12 : sizeA Try.prog 12 = some 1 := by kernel_rfl
theorem by12 : bytesA Try.prog 12 = some 8 := by kernel_rfl
theorem ag12 : aggA Try.prog 12 = some false := by kernel_rfl
theorem ze12 : zeroA Try.prog 12 = some ([.int .u64 0]) := by kernel_rfl
theorem sz13 : sizeA Try.prog 13 = some 2 := by kernel_rfl
theorem by13 : bytesA Try.prog 13 = some 24 := by kernel_rfl
theorem ag13 : aggA Try.prog 13 = some true := by kernel_rfl
theorem ze13 : zeroA Try.prog 13 = some ([.str ByteArray.empty, .int .u64 0]) := by kernel_rfl
theorem sz18 : sizeA Try.prog 18 = some 1 := by kernel_rfl
theorem by18 : bytesA Try.prog 18 = some 8 := by kernel_rfl
theorem ag18 : aggA Try.prog 18 = some true := by kernel_rfl
theorem ze18 : zeroA Try.prog 18 = some ([.nilptr]) := by kernel_rfl
theorem sz21 : sizeA Try.prog 21 = some 1 := by kernel_rfl
theorem by21 : bytesA Try.prog 21 = some 4 := by kernel_rfl
theorem ag21 : aggA Try.prog 21 = some false := by kernel_rfl
theorem ze21 : zeroA Try.prog 21 = some ([.int .i32 0]) := by kernel_rfl
theorem sz23 : sizeA Try.prog 23 = some 1 := by kernel_rfl
theorem by23 : bytesA Try.prog 23 = some 8 := by kernel_rfl
theorem ag23 : aggA Try.prog 23 = some false := by kernel_rfl
theorem ze23 : zeroA Try.prog 23 = some ([.nilptr]) := by kernel_rfl
theorem sz24 : sizeA Try.prog 24 = some 1 := by kernel_rfl
theorem by24 : bytesA Try.prog 24 = some 8 := by kernel_rfl
theorem ag24 : aggA Try.prog 24 = some false := by kernel_rfl
theorem ze24 : zeroA Try.prog 24 = some ([.int .i64 0]) := by kernel_rfl
theorem sz27 : sizeA Try.prog 27 = some 1 := by kernel_rfl
theorem by27 : bytesA Try.prog 27 = some 24 := by kernel_rfl
theorem ag27 : aggA Try.prog 27 = some false := by kernel_rfl
theorem ze27 : zeroA Try.prog 27 = some ([.nilslice]) := by kernel_rfl
theorem sz34 : sizeA Try.prog 34 = some 1 := by kernel_rfl
theorem by34 : bytesA Try.prog 34 = some 24 := by kernel_rfl
theorem ag34 : aggA Try.prog 34 = some false := by kernel_rfl
theorem ze34 : zeroA Try.prog 34 = some ([.nilslice]) := by kernel_rfl
theorem sz35 : sizeA Try.prog 35 = some 6 := by kernel_rfl
theorem by35 : bytesA Try.prog 35 = some 64 := by kernel_rfl
theorem ag35 : aggA Try.prog 35 = some true := by kernel_rfl
theorem ze35 : zeroA Try.prog 35 = some ([.int .i64 0, .int .i64 0, .int .i64 0, .int .u8 0, .nilslice, .bool false]) := by kernel_rfl
theorem sz36 : sizeA Try.prog 36 = some 6 := by kernel_rfl
theorem by36 : bytesA Try.prog 36 = some 64 := by kernel_rfl
theorem ag36 : aggA Try.prog 36 = some true := by kernel_rfl
theorem ze36 : zeroA Try.prog 36 = some ([.int .i64 0, .int .i64 0, .int .i64 0, .int .u8 0, .nilslice, .bool false]) := by kernel_rfl
theorem sz42 : sizeA Try.prog 42 = some 4 := by kernel_rfl
theorem by42 : bytesA Try.prog 42 = some 96 := by kernel_rfl
theorem ag42 : aggA Try.prog 42 = some true := by kernel_rfl
theorem ze42 : zeroA Try.prog 42 = some ([.nilslice, .nilslice, .nilslice, .nilslice]) := by kernel_rfl
theorem sz43 : sizeA Try.prog 43 = some 12 := by kernel_rfl
theorem by43 : bytesA Try.prog 43 = some 288 := by kernel_rfl
theorem ag43 : aggA Try.prog 43 = some true := by kernel_rfl
theorem ze43 : zeroA Try.prog 43 = some (List.replicate 12 (.nilslice)) := by kernel_rfl
theorem sz49 : sizeA Try.prog 49 = some 1 := by kernel_rfl
theorem by49 : bytesA Try.prog 49 = some 8 := by kernel_rfl
theorem ag49 : aggA Try.prog 49 = some false := by kernel_rfl
theorem ze49 : zeroA Try.prog 49 = some ([.int .u64 0]) := by kernel_rfl
theorem sz50 : sizeA Try.prog 50 = some 1 := by kernel_rfl
theorem by50 : bytesA Try.prog 50 = some 8 := by kernel_rfl
theorem ag50 : aggA Try.prog 50 = some false := by kernel_rfl
theorem ze50 : zeroA Try.prog 50 = some ([.nilptr]) := by kernel_rfl
theorem sz61 : sizeA Try.prog 61 = some 1 := by kernel_rfl
theorem by61 : bytesA Try.prog 61 = some 24 := by kernel_rfl
theorem ag61 : aggA Try.prog 61 = some false := by kernel_rfl
theorem ze61 : zeroA Try.prog 61 = some ([.nilslice]) := by kernel_rfl
theorem sz62 : sizeA Try.prog 62 = some 1 := by kernel_rfl
theorem by62 : bytesA Try.prog 62 = some 24 := by kernel_rfl
theorem ag62 : aggA Try.prog 62 = some false := by kernel_rfl
theorem ze62 : zeroA Try.prog 62 = some ([.nilslice]) := by kernel_rfl
theorem sz63 : sizeA Try.prog 63 = some 5 := by kernel_rfl
theorem by63 : bytesA Try.prog 63 = some 72 := by kernel_rfl
theorem ag63 : aggA Try.prog 63 = some true := by kernel_rfl
theorem ze63 : zeroA Try.prog 63 = some ([.int .i64 0, .nilslice, .nilslice, .int .i64 0, .bool false]) := by kernel_rfl
theorem sz64 : sizeA Try.prog 64 = some 5 := by kernel_rfl
theorem by64 : bytesA Try.prog 64 = some 72 := by kernel_rfl
theorem ag64 : aggA Try.prog 64 = some true := by kernel_rfl
theorem ze64 : zeroA Try.prog 64 = some ([.int .i64 0, .nilslice, .nilslice, .int .i64 0, .bool false]) := by kernel_rfl
theorem sz65 : sizeA Try.prog 65 = some 1 := by kernel_rfl
theorem by65 : bytesA Try.prog 65 = some 24 := by kernel_rfl
theorem ag65 : aggA Try.prog 65 = some false := by kernel_rfl
theorem ze65 : zeroA Try.prog 65 = some ([.nilslice]) := by kernel_rfl
theorem sz67 : sizeA Try.prog 67 = some 64 := by kernel_rfl
theorem by67 : bytesA Try.prog 67 = some 64 := by kernel_rfl
theorem ag67 : aggA Try.prog 67 = some true := by kernel_rfl
theorem ze67 : zeroA Try.prog 67 = some (List.replicate 64 (.int .u8 0)) := by kernel_rfl
theorem sz68 : sizeA Try.prog 68 = some 64 := by kernel_rfl
theorem by68 : bytesA Try.prog 68 = some 64 := by kernel_rfl
theorem ag68 : aggA Try.prog 68 = some true := by kernel_rfl
theorem ze68 : zeroA Try.prog 68 = some (List.replicate 64 (.int .u8 0)) := by kernel_rfl
theorem sz69 : sizeA Try.prog 69 = some 66 := by kernel_rfl
theorem by69 : bytesA Try.prog 69 = some 80 := by kernel_rfl
theorem ag69 : aggA Try.prog 69 = some true := by kernel_rfl
theorem ze69 : zeroA Try.prog 69 = some ([.int .i64 0, .int .i64 0, .int .u8 0, .int .u8 0, .int .u8 0, .int .u8 0, .int .u8 0, .int .u8 0, .int .u8 0, .int .u8 0, .int .u8 0, .int .u8 0, .int .u8 0, .int .u8 0, .int .u8 0, .int .u8 0, .int .u8 0, .int .u8 0, .int .u8 0, .int .u8 0, .int .u8 0, .int .u8 0, .int .u8 0, .int .u8 0, .int .u8 0, .int .u8 0, .int .u8 0, .int .u8 0, .int .u8 0, .int .u8 0, .int .u8 0, .int .u8 0, .int .u8 0, .int .u8 0, .int .u8 0, .int .u8 0, .int .u8 0, .int .u8 0, .int .u8 0, .int .u8 0, .int .u8 0, .int .u8 0, .int .u8 0, .int .u8 0, .int .u8 0, .int .u8 0, .int .u8 0, .int .u8 0, .int .u8 0, .int .u8 0, .int .u8 0, .int .u8 0, .int .u8 0, .int .u8 0, .int .u8 0, .int .u8 0, .int .u8 0, .int .u8 0, .int .u8 0, .int .u8 0, .int .u8 0, .int .u8 0, .int .u8 0, .int .u8 0, .int .u8 0, .int .u8 0]) := by kernel_rfl
theorem sz70 : sizeA Try.prog 70 = some 66 := by kernel_rfl
theorem by70 : bytesA Try.prog 70 = some 80 := by kernel_rfl
theorem ag70 : aggA Try.prog 70 = some true := by kernel_rfl
theorem ze70 : zeroA Try.prog 70 = some ([.int .i64 0, .int .i64 0, .int .u8 0, .int .u8 0, .int .u8 0, .int .u8 0, .int .u8 0, .int .u8 0, .int .u8 0, .int .u8 0, .int .u8 0, .int .u8 0, .int .u8 0, .int .u8 0, .int .u8 0, .int .u8 0, .int .u8 0, .int .u8 0, .int .u8 0, .int .u8 0, .int .u8 0, .int .u8 0, .int .u8 0, .int .u8 0, .int .u8 0, .int .u8 0, .int .u8 0, .int .u8 0, .int .u8 0, .int .u8 0, .int .u8 0, .int .u8 0, .int .u8 0, .int .u8 0, .int .u8 0, .int .u8 0, .int .u8 0, .int .u8 0, .int .u8 0, .int .u8 0, .int .u8 0, .int .u8 0, .int .u8 0, .int .u8 0, .int .u8 0, .int .u8 0, .int .u8 0, .int .u8 0, .int .u8 0, .int .u8 0, .int .u8 0, .int .u8 0, .int .u8 0, .int .u8 0, .int .u8 0, .int .u8 0, .int .u8 0, .int .u8 0, .int .u8 0, .int .u8 0, .int .u8 0, .int .u8 0, .int .u8 0, .int .u8 0, .int .u8 0, .int .u8 0]) := by kernel_rfl
theorem sz75 : sizeA Try.prog 75 = some 1 := by kernel_rfl
theorem by75 : bytesA Try.prog 75 = some 24 := by kernel_rfl
theorem ag75 : aggA Try.prog 75 = some false := by kernel_rfl
theorem ze75 : zeroA Try.prog 75 = some ([.nilslice]) := by kernel_rfl
theorem sz76 : sizeA Try.prog 76 = some 1 := by kernel_rfl
theorem by76 : bytesA Try.prog 76 = some 24 := by kernel_rfl
theorem ag76 : aggA Try.prog 76 = some false := by kernel_rfl
theorem ze76 : zeroA Try.prog 76 = some ([.nilslice]) := by kernel_rfl
theorem sz77 : sizeA Try.prog 77 = some 5 := by kernel_rfl
theorem by77 : bytesA Try.prog 77 = some 72 := by kernel_rfl
theorem ag77 : aggA Try.prog 77 = some true := by kernel_rfl
theorem ze77 : zeroA Try.prog 77 = some ([.nilslice, .int .i64 0, .nilslice, .int .i64 0, .bool false]) := by kernel_rfl
theorem sz78 : sizeA Try.prog 78 = some 5 := by kernel_rfl
theorem by78 : bytesA Try.prog 78 = some 72 := by kernel_rfl
theorem ag78 : aggA Try.prog 78 = some true := by kernel_rfl
theorem ze78 : zeroA Try.prog 78 = some ([.nilslice, .int .i64 0, .nilslice, .int .i64 0, .bool false]) := by kernel_rfl
theorem sz79 : sizeA Try.prog 79 = some 1 := by kernel_rfl
theorem by79 : bytesA Try.prog 79 = some 24 := by kernel_rfl
theorem ag79 : aggA Try.prog 79 = some false := by kernel_rfl
theorem ze79 : zeroA Try.prog 79 = some ([.nilslice]) := by kernel_rfl
theorem sz80 : sizeA Try.prog 80 = some 2 := by kernel_rfl
theorem by80 : bytesA Try.prog 80 = some 32 := by kernel_rfl
theorem ag80 : aggA Try.prog 80 = some true := by kernel_rfl
theorem ze80 : zeroA Try.prog 80 = some ([.nilslice, .bool false]) := by kernel_rfl
theorem sz81 : sizeA Try.prog 81 = some 2 := by kernel_rfl
theorem by81 : bytesA Try.prog 81 = some 32 := by kernel_rfl
theorem ag81 : aggA Try.prog 81 = some true := by kernel_rfl
theorem ze81 : zeroA Try.prog 81 = some ([.nilslice, .bool false]) := by kernel_rfl
theorem sz84 : sizeA Try.prog 84 = some 3 := by kernel_rfl
theorem by84 : bytesA Try.prog 84 = some 40 := by kernel_rfl
theorem ag84 : aggA Try.prog 84 = some true := by kernel_rfl
theorem ze84 : zeroA Try.prog 84 = some ([.int .i64 0, .int .i64 0, .nilslice]) := by kernel_rfl
theorem sz85 : sizeA Try.prog 85 = some 3 := by kernel_rfl
theorem by85 : bytesA Try.prog 85 = some 40 := by kernel_rfl
theorem ag85 : aggA Try.prog 85 = some true := by kernel_rfl
theorem ze85 : zeroA Try.prog 85 = some ([.int .i64 0, .int .i64 0, .nilslice]) := by kernel_rfl
theorem sz93 : sizeA Try.prog 93 = some 1 := by kernel_rfl
theorem by93 : bytesA Try.prog 93 = some 4 := by kernel_rfl
theorem ag93 : aggA Try.prog 93 = some false := by kernel_rfl
theorem ze93 : zeroA Try.prog 93 = some ([.int .u32 0]) := by kernel_rfl
theorem sz96 : sizeA Try.prog 96 = some 1 := by kernel_rfl
theorem by96 : bytesA Try.prog 96 = some 8 := by kernel_rfl
theorem ag96 : aggA Try.prog 96 = some false := by kernel_rfl
theorem ze96 : zeroA Try.prog 96 = some ([.int .u64 0]) := by kernel_rfl
theorem sz100 : sizeA Try.prog 100 = some 4 := by kernel_rfl
theorem by100 : bytesA Try.prog 100 = some 40 := by kernel_rfl
theorem ag100 : aggA Try.prog 100 = some true := by kernel_rfl
theorem ze100 : zeroA Try.prog 100 = some ([.nilptr, .nilptr, .nilptr, .str ByteArray.empty]) := by kernel_rfl
theorem sz108 : sizeA Try.prog 108 = some 1 := by kernel_rfl
theorem by108 : bytesA Try.prog 108 = some 8 := by kernel_rfl
theorem ag108 : aggA Try.prog 108 = some false := by kernel_rfl
theorem ze108 : zeroA Try.prog 108 = some ([.nilptr]) := by kernel_rfl
theorem sz111 : sizeA Try.prog 111 = some 11 := by kernel_rfl
theorem by111 : bytesA Try.prog 111 = some 48 := by kernel_rfl
theorem ag111 : aggA Try.prog 111 = some true := by kernel_rfl
theorem ze111 : zeroA Try.prog 111 = some ([.int .u64 0, .int .u64 0, .int .u32 0, .int .u8 0, .int .u8 0, .int .u8 0, .int .u8 0, .nilfunc, .nilptr, .int .i32 0, .int .i32 0]) := by kernel_rfl
theorem sz113 : sizeA Try.prog 113 = some 1 := by kernel_rfl
theorem by113 : bytesA Try.prog 113 = some 8 := by kernel_rfl
theorem ag113 : aggA Try.prog 113 = some false := by kernel_rfl
theorem ze113 : zeroA Try.prog 113 = some ([.nilptr]) := by kernel_rfl
theorem ld2 : ∀ {p : AAddr} {H : AH}, loadA Try.prog 2 p H = (H.get p).bind fun cs => cs[p.off]? := load_cell ag2
theorem pt2 : ∀ {cs : List AV} {o : Nat}, partA Try.prog 2 cs o = cs[o]? := part_cell ag2
theorem st2_0 : ∀ {k : IntKind} {a : Int} {H : AH} {i o : Nat}, storeA Try.prog 2 ⟨false, i, o⟩ (.int k a) H = (H.cells? i).bind fun l => gd (o < l.length) (some (H.set i (some (.cells (l.set o (.int k a)))))) := store_cell sz2 rfl
theorem st2_1 : ∀ {a : UInt8} {H : AH} {i o : Nat}, storeA Try.prog 2 ⟨false, i, o⟩ (bv a) H = (H.cells? i).bind fun l => gd (o < l.length) (some (H.set i (some (.cells (l.set o (bv a)))))) := store_cell sz2 rfl
theorem ifc2 : ∀ {v : AV}, ifaceA Try.prog 2 v = some (.iface 2 v) := iface_of Try.underlying2 rfl
theorem ass2 : ∀ {ok : Bool} {v : AV}, assertA Try.prog 2 ok v = assertV (zeroV Try.prog 2) 2 ok v := assert_of Try.underlying2 rfl
theorem cv2_2 : ∀ {k : IntKind} {a : Int} {H : AH}, convertA Try.prog 2 2 (.int k a) H = some (.int .i64 (IntKind.i64.wrap a), H) := conv_int Try.underlying2 (by rw [Try.underlying2]; rfl)
theorem cv3_2 : ∀ {k : IntKind} {a : Int} {H : AH}, convertA Try.prog 3 2 (.int k a) H = some (.int .i64 (IntKind.i64.wrap a), H) := conv_int Try.underlying2 (by rw [Try.underlying3]; rfl)
theorem cv5_2 : ∀ {k : IntKind} {a : Int} {H : AH}, convertA Try.prog 5 2 (.int k a) H = some (.int .i64 (IntKind.i64.wrap a), H) := conv_int Try.underlying2 (by rw [Try.underlying5]; rfl)
theorem cv12_2 : ∀ {k : IntKind} {a : Int} {H : AH}, convertA Try.prog 12 2 (.int k a) H = some (.int .i64 (IntKind.i64.wrap a), H) := conv_int Try.underlying2 (by rw [Try.underlying12]; rfl)
theorem cv21_2 : ∀ {k : IntKind} {a : Int} {H : AH}, convertA Try.prog 21 2 (.int k a) H = some (.int .i64 (IntKind.i64.wrap a), H) := conv_int Try.underlying2 (by rw [Try.underlying21]; rfl)
theorem cv24_2 : ∀ {k : IntKind} {a : Int} {H : AH}, convertA Try.prog 24 2 (.int k a) H = some (.int .i64 (IntKind.i64.wrap a), H) := conv_int Try.underlying2 (by rw [Try.underlying24]; rfl)
theorem cv49_2 : ∀ {k : IntKind} {a : Int} {H : AH}, convertA Try.prog 49 2 (.int k a) H = some (.int .i64 (IntKind.i64.wrap a), H) := conv_int Try.underlying2 (by rw [Try.underlying49]; rfl)
theorem cv93_2 : ∀ {k : IntKind} {a : Int} {H : AH}, convertA Try.prog 93 2 (.int k a) H = some (.int .i64 (IntKind.i64.wrap a), H) := conv_int Try.underlying2 (by rw [Try.underlying93]; rfl)
theorem cv96_2 : ∀ {k : IntKind} {a : Int} {H : AH}, convertA Try.prog 96 2 (.int k a) H = some (.int .i64 (IntKind.i64.wrap a), H) := conv_int Try.underlying2 (by rw [Try.underlying96]; rfl)
theorem ld3 : ∀ {p : AAddr} {H : AH}, loadA Try.prog 3 p H = (H.get p).bind fun cs => cs[p.off]? := load_cell ag3
theorem pt3 : ∀ {cs : List AV} {o : Nat}, partA Try.prog 3 cs o = cs[o]? := part_cell ag3
theorem st3_0 : ∀ {k : IntKind} {a : Int} {H : AH} {i o : Nat}, storeA Try.prog 3 ⟨false, i, o⟩ (.int k a) H = (H.cells? i).bind fun l => gd (o < l.length) (some (H.set i (some (.cells (l.set o (.int k a)))))) := store_cell sz3 rfl
theorem st3_1 : ∀ {a : UInt8} {H : AH} {i o : Nat}, storeA Try.prog 3 ⟨false, i, o⟩ (bv a) H = (H.cells? i).bind fun l => gd (o < l.length) (some (H.set i (some (.cells (l.set o (bv a)))))) := store_cell sz3 rfl
theorem ifc3 : ∀ {v : AV}, ifaceA Try.prog 3 v = some (.iface 3 v) := iface_of Try.underlying3 rfl
theorem ass3 : ∀ {ok : Bool} {v : AV}, assertA Try.prog 3 ok v = assertV (zeroV Try.prog 3) 3 ok v := assert_of Try.underlying3 rfl
theorem cv2_3 : ∀ {k : IntKind} {a : Int} {H : AH}, convertA Try.prog 2 3 (.int k a) H = some (.int .i64 (IntKind.i64.wrap a), H) := conv_int Try.underlying3 (by rw [Try.underlying2]; rfl)
theorem cv3_3 : ∀ {k : IntKind} {a : Int} {H : AH}, convertA Try.prog 3 3 (.int k a) H = some (.int .i64 (IntKind.i64.wrap a), H) := conv_int Try.underlying3 (by rw [Try.underlying3]; rfl)
theorem cv5_3 : ∀ {k : IntKind} {a : Int} {H : AH}, convertA Try.prog 5 3 (.int k a) H = some (.int .i64 (IntKind.i64.wrap a), H) := conv_int Try.underlying3 (by rw [Try.underlying5]; rfl)
theorem cv12_3 : ∀ {k : IntKind} {a : Int} {H : AH}, convertA Try.prog 12 3 (.int k a) H = some (.int .i64 (IntKind.i64.wrap a), H) := conv_int Try.underlying3 (by rw [Try.underlying12]; rfl)
theorem cv21_3 : ∀ {k : IntKind} {a : Int} {H : AH}, convertA Try.prog 21 3 (.int k a) H = some (.int .i64 (IntKind.i64.wrap a), H) := conv_int Try.underlying3 (by rw [Try.underlying21]; rfl)
theorem cv24_3 : ∀ {k : IntKind} {a : Int} {H : AH}, convertA Try.prog 24 3 (.int k a) H = some (.int .i64 (IntKind.i64.wrap a), H) := conv_int Try.underlying3 (by rw [Try.underlying24]; rfl)
theorem cv49_3 : ∀ {k : IntKind} {a : Int} {H : AH}, convertA Try.prog 49 3 (.int k a) H = some (.int .i64 (IntKind.i64.wrap a), H) := conv_int Try.underlying3 (by rw [Try.underlying49]; rfl)
theorem cv93_3 : ∀ {k : IntKind} {a : Int} {H : AH}, convertA Try.prog 93 3 (.int k a) H = some (.int .i64 (IntKind.i64.wrap a), H) := conv_int Try.underlying3 (by rw [Try.underlying93]; rfl)
theorem cv96_3 : ∀ {k : IntKind} {a : Int} {H : AH}, convertA Try.prog 96 3 (.int k a) H = some (.int .i64 (IntKind.i64.wrap a), H) := conv_int Try.underlying3 (by rw [Try.underlying96]; rfl)
theorem ld4 : ∀ {p : AAddr} {H : AH}, loadA Try.prog 4 p H = (H.get p).bind fun cs => cs[p.off]? := load_cell ag4
theorem pt4 : ∀ {cs : List AV} {o : Nat}, partA Try.prog 4 cs o = cs[o]? := part_cell ag4
theorem st4_0 : ∀ {a : Bool} {H : AH} {i o : Nat}, storeA Try.prog 4 ⟨false, i, o⟩ (.bool a) H = (H.cells? i).bind fun l => gd (o < l.length) (some (H.set i (some (.cells (l.set o (.bool a)))))) := store_cell sz4 rfl
theorem ifc4 : ∀ {v : AV}, ifaceA Try.prog 4 v = some (.iface 4 v) := iface_of Try.underlying4 rfl
theorem ass4 : ∀ {ok : Bool} {v : AV}, assertA Try.prog 4 ok v = assertV (zeroV Try.prog 4) 4 ok v := assert_of Try.underlying4 rfl
theorem eb4 : ∀ {x y : Bool}, binA Try.prog .eql 4 (.bool x) (.bool y) = some (.bool (x == y)) := bin_bool Try.underlying4
theorem nb4 : ∀ {x y : Bool}, binA Try.prog .neq 4 (.bool x) (.bool y) = some (.bool (!(x == y))) := bin_boolne Try.underlying4
theorem ld5 : ∀ {p : AAddr} {H : AH}, loadA Try.prog 5 p H = (H.get p).bind fun cs => cs[p.off]? := load_cell ag5
theorem pt5 : ∀ {cs : List AV} {o : Nat}, partA Try.prog 5 cs o = cs[o]? := part_cell ag5
theorem st5_0 : ∀ {k : IntKind} {a : Int} {H : AH} {i o : Nat}, storeA Try.prog 5 ⟨false, i, o⟩ (.int k a) H = (H.cells? i).bind fun l => gd (o < l.length) (some (H.set i (some (.cells (l.set o (.int k a)))))) := store_cell sz5 rfl
theorem st5_1 : ∀ {a : UInt8} {H : AH} {i o : Nat}, storeA Try.prog 5 ⟨false, i, o⟩ (bv a) H = (H.cells? i).bind fun l => gd (o < l.length) (some (H.set i (some (.cells (l.set o (bv a)))))) := store_cell sz5 rfl
theorem ifc5 : ∀ {v : AV}, ifaceA Try.prog 5 v = some (.iface 5 v) := iface_of Try.underlying5 rfl
theorem ass5 : ∀ {ok : Bool} {v : AV}, assertA Try.prog 5 ok v = assertV (zeroV Try.prog 5) 5 ok v := assert_of Try.underlying5 rfl
theorem cv2_5 : ∀ {k : IntKind} {a : Int} {H : AH}, convertA Try.prog 2 5 (.int k a) H = some (.int .u8 (IntKind.u8.wrap a), H) := conv_int Try.underlying5 (by rw [Try.underlying2]; rfl)
theorem cv3_5 : ∀ {k : IntKind} {a : Int} {H : AH}, convertA Try.prog 3 5 (.int k a) H = some (.int .u8 (IntKind.u8.wrap a), H) := conv_int Try.underlying5 (by rw [Try.underlying3]; rfl)
theorem cv5_5 : ∀ {k : IntKind} {a : Int} {H : AH}, convertA Try.prog 5 5 (.int k a) H = some (.int .u8 (IntKind.u8.wrap a), H) := conv_int Try.underlying5 (by rw [Try.underlying5]; rfl)
theorem cv12_5 : ∀ {k : IntKind} {a : Int} {H : AH}, convertA Try.prog 12 5 (.int k a) H = some (.int .u8 (IntKind.u8.wrap a), H) := conv_int Try.underlying5 (by rw [Try.underlying12]; rfl)
theorem cv21_5 : ∀ {k : IntKind} {a : Int} {H : AH}, convertA Try.prog 21 5 (.int k a) H = some (.int .u8 (IntKind.u8.wrap a), H) := conv_int Try.underlying5 (by rw [Try.underlying21]; rfl)
theorem cv24_5 : ∀ {k : IntKind} {a : Int} {H : AH}, convertA Try.prog 24 5 (.int k a) H = some (.int .u8 (IntKind.u8.wrap a), H) := conv_int Try.underlying5 (by rw [Try.underlying24]; rfl)
theorem cv49_5 : ∀ {k : IntKind} {a : Int} {H : AH}, convertA Try.prog 49 5 (.int k a) H = some (.int .u8 (IntKind.u8.wrap a), H) := conv_int Try.underlying5 (by rw [Try.underlying49]; rfl)
theorem cv93_5 : ∀ {k : IntKind} {a : Int} {H : AH}, convertA Try.prog 93 5 (.int k a) H = some (.int .u8 (IntKind.u8.wrap a), H) := conv_int Try.underlying5 (by rw [Try.underlying93]; rfl)
theorem cv96_5 : ∀ {k : IntKind} {a : Int} {H : AH}, convertA Try.prog 96 5 (.int k a) H = some (.int .u8 (IntKind.u8.wrap a), H) := conv_int Try.underlying5 (by rw [Try.underlying96]; rfl)
theorem ld7 : ∀ {p : AAddr} {H : AH}, loadA Try.prog 7 p H = (H.get p).bind fun cs => gd (p.off + 4 ≤ cs.length) (some (.agg ((cs.drop p.off).take 4))) := load_agg ag7 sz7
theorem pt7 : ∀ {cs : List AV} {o : Nat}, partA Try.prog 7 cs o = gd (o + 4 ≤ cs.length) (some (.agg ((cs.drop o).take 4))) := part_agg ag7 sz7
theorem eg7 : ∀ {a0 b0 : Int} {a1 b1 : Int} {a2 b2 : Bool} {a3 b3 : Int}, eqAgg Try.prog 7 (.agg [.int .i64 a0, .int .i64 a1, .bool a2, .int .u8 a3]) (.agg [.int .i64 b0, .int .i64 b1, .bool b2, .int .u8 b3]) = some (decide (a0 = b0) && (decide (a1 = b1) && ((a2 == b2) && (decide (a3 = b3) && true)))) := by intros; kernel_rfl
theorem ifc7 : ∀ {v : AV}, ifaceA Try.prog 7 v = some (.iface 7 v) := iface_of Try.underlying7 rfl
theorem ass7 : ∀ {ok : Bool} {v : AV}, assertA Try.prog 7 ok v = assertV (zeroV Try.prog 7) 7 ok v := assert_of Try.underlying7 rfl
theorem zv7 : zeroV Try.prog 7 = some (.agg [.int .i64 0, .int .i64 0, .bool false, .int .u8 0]) := by kernel_rfl
theorem sta7 : ∀ {vs : List AV} {H : AH} {i o : Nat}, storeA Try.prog 7 ⟨false, i, o⟩ (.agg vs) H = gd (vs.length = 4) (gdb (vs.all oneA) ((H.cells? i).bind fun l0 => gd (o + 4 ≤ l0.length) (some (H.set i (some (.cells (putL l0 o vs))))))) := store_aggs (n := 3) sz7
theorem fa7_0 : ∀ {p : AAddr}, fieldAddrA Try.prog 7 (.ptr p) 0 = some (.ptr ⟨p.ro, p.blk, p.off + 0⟩) := fa_struct Try.underlying7 (ft := 2) (o := 0) rfl (m := 0) sz2
theorem fl7_0 : ∀ {cs : List AV}, fieldA Try.prog 7 (.agg cs) 0 = partA Try.prog 2 cs 0 := fl_struct Try.underlying7 (ft := 2) (o := 0) rfl
theorem fa7_1 : ∀ {p : AAddr}, fieldAddrA Try.prog 7 (.ptr p) 1 = some (.ptr ⟨p.ro, p.blk, p.off + 1⟩) := fa_struct Try.underlying7 (ft := 3) (o := 1) rfl (m := 0) sz3
theorem fl7_1 : ∀ {cs : List AV}, fieldA Try.prog 7 (.agg cs) 1 = partA Try.prog 3 cs 1 := fl_struct Try.underlying7 (ft := 3) (o := 1) rfl
theorem fa7_2 : ∀ {p : AAddr}, fieldAddrA Try.prog 7 (.ptr p) 2 = some (.ptr ⟨p.ro, p.blk, p.off + 2⟩) := fa_struct Try.underlying7 (ft := 4) (o := 2) rfl (m := 0) sz4
theorem fl7_2 : ∀ {cs : List AV}, fieldA Try.prog 7 (.agg cs) 2 = partA Try.prog 4 cs 2 := fl_struct Try.underlying7 (ft := 4) (o := 2) rfl
theorem ld9 : ∀ {p : AAddr} {H : AH}, loadA Try.prog 9 p H = (H.get p).bind fun cs => cs[p.off]? := load_cell ag9
theorem pt9 : ∀ {cs : List AV} {o : Nat}, partA Try.prog 9 cs o = cs[o]? := part_cell ag9
theorem st9_0 : ∀ {a : ByteArray} {H : AH} {i o : Nat}, storeA Try.prog 9 ⟨false, i, o⟩ (.str a) H = (H.cells? i).bind fun l => gd (o < l.length) (some (H.set i (some (.cells (l.set o (.str a)))))) := store_cell sz9 rfl
theorem ifc9 : ∀ {v : AV}, ifaceA Try.prog 9 v = some (.iface 9 v) := iface_of Try.underlying9 rfl
theorem ass9 : ∀ {ok : Bool} {v : AV}, assertA Try.prog 9 ok v = assertV (zeroV Try.prog 9) 9 ok v := assert_of Try.underlying9 rfl
theorem ls9 : ∀ {s : ByteArray}, lenA Try.prog 9 (.str s) = some (.int .i64 s.size) := len_str Try.underlying9
theorem is9 : ∀ {s : ByteArray} {k : IntKind} {a : Int}, indexA Try.prog 9 (.str s) (.int k a) = gd (0 ≤ a) ((s[a.toNat]?).map fun b => .int .u8 b.toNat) := ix_str Try.underlying9
theorem ss9 : ∀ {s : ByteArray} {lo hi : Option AV}, sliceOpA Try.prog 9 (.str s) lo hi none = (optB hi s.size s.size).bind fun h => (optB lo h 0).map fun l => .str (s.extract l h) := slc_str Try.underlying9
theorem ld12 : ∀ {p : AAddr} {H : AH}, loadA Try.prog 12 p H = (H.get p).bind fun cs => cs[p.off]? := load_cell ag12
theorem pt12 : ∀ {cs : List AV} {o : Nat}, partA Try.prog 12 cs o = cs[o]? := part_cell ag12
theorem st12_0 : ∀ {k : IntKind} {a : Int} {H : AH} {i o : Nat}, storeA Try.prog 12 ⟨false, i, o⟩ (.int k a) H = (H.cells? i).bind fun l => gd (o < l.length) (some (H.set i (some (.cells (l.set o (.int k a)))))) := store_cell sz12 rfl
theorem st12_1 : ∀ {a : UInt8} {H : AH} {i o : Nat}, storeA Try.prog 12 ⟨false, i, o⟩ (bv a) H = (H.cells? i).bind fun l => gd (o < l.length) (some (H.set i (some (.cells (l.set o (bv a)))))) := store_cell sz12 rfl
theorem ifc12 : ∀ {v : AV}, ifaceA Try.prog 12 v = some (.iface 12 v) := iface_of Try.underlying12 rfl
theorem ass12 : ∀ {ok : Bool} {v : AV}, assertA Try.prog 12 ok v = assertV (zeroV Try.prog 12) 12 ok v := assert_of Try.underlying12 rfl
theorem cv2_12 : ∀ {k : IntKind} {a : Int} {H : AH}, convertA Try.prog 2 12 (.int k a) H = some (.int .u64 (IntKind.u64.wrap a), H) := conv_int Try.underlying12 (by rw [Try.underlying2]; rfl)
theorem cv3_12 : ∀ {k : IntKind} {a : Int} {H : AH}, convertA Try.prog 3 12 (.int k a) H = some (.int .u64 (IntKind.u64.wrap a), H) := conv_int Try.underlying12 (by rw [Try.underlying3]; rfl)
theorem cv5_12 : ∀ {k : IntKind} {a : Int} {H : AH}, convertA Try.prog 5 12 (.int k a) H = some (.int .u64 (IntKind.u64.wrap a), H) := conv_int Try.underlying12 (by rw [Try.underlying5]; rfl)
theorem cv12_12 : ∀ {k : IntKind} {a : Int} {H : AH}, convertA Try.prog 12 12 (.int k a) H = some (.int .u64 (IntKind.u64.wrap a), H) := conv_int Try.underlying12 (by rw [Try.underlying12]; rfl)
theorem cv21_12 : ∀ {k : IntKind} {a : Int} {H : AH}, convertA Try.prog 21 12 (.int k a) H = some (.int .u64 (IntKind.u64.wrap a), H) := conv_int Try.underlying12 (by rw [Try.underlying21]; rfl)
theorem cv24_12 : ∀ {k : IntKind} {a : Int} {H : AH}, convertA Try.prog 24 12 (.int k a) H = some (.int .u64 (IntKind.u64.wrap a), H) := conv_int Try.underlying12 (by rw [Try.underlying24]; rfl)
theorem cv49_12 : ∀ {k : IntKind} {a : Int} {H : AH}, convertA Try.prog 49 12 (.int k a) H = some (.int .u64 (IntKind.u64.wrap a), H) := conv_int Try.underlying12 (by rw [Try.underlying49]; rfl)
theorem cv93_12 : ∀ {k : IntKind} {a : Int} {H : AH}, convertA Try.prog 93 12 (.int k a) H = some (.int .u64 (IntKind.u64.wrap a), H) := conv_int Try.underlying12 (by rw [Try.underlying93]; rfl)
theorem cv96_12 : ∀ {k : IntKind} {a : Int} {H : AH}, convertA Try.prog 96 12 (.int k a) H = some (.int .u64 (IntKind.u64.wrap a), H) := conv_int Try.underlying12 (by rw [Try.underlying96]; rfl)
theorem ld13 : ∀ {p : AAddr} {H : AH}, loadA Try.prog 13 p H = (H.get p).bind fun cs => gd (p.off + 2 ≤ cs.length) (some (.agg ((cs.drop p.off).take 2))) := load_agg ag13 sz13
theorem pt13 : ∀ {cs : List AV} {o : Nat}, partA Try.prog 13 cs o = gd (o + 2 ≤ cs.length) (some (.agg ((cs.drop o).take 2))) := part_agg ag13 sz13
theorem ifc13 : ∀ {v : AV}, ifaceA Try.prog 13 v = some (.iface 13 v) := iface_of Try.underlying13 rfl
theorem ass13 : ∀ {ok : Bool} {v : AV}, assertA Try.prog 13 ok v = assertV (zeroV Try.prog 13) 13 ok v := assert_of Try.underlying13 rfl
theorem sta13 : ∀ {vs : List AV} {H : AH} {i o : Nat}, storeA Try.prog 13 ⟨false, i, o⟩ (.agg vs) H = gd (vs.length = 2) (gdb (vs.all oneA) ((H.cells? i).bind fun l0 => gd (o + 2 ≤ l0.length) (some (H.set i (some (.cells (putL l0 o vs))))))) := store_aggs (n := 1) sz13
theorem fa13_0 : ∀ {p : AAddr}, fieldAddrA Try.prog 13 (.ptr p) 0 = some (.ptr ⟨p.ro, p.blk, p.off + 0⟩) := fa_struct Try.underlying13 (ft := 9) (o := 0) rfl (m := 0) sz9
theorem fl13_0 : ∀ {cs : List AV}, fieldA Try.prog 13 (.agg cs) 0 = partA Try.prog 9 cs 0 := fl_struct Try.underlying13 (ft := 9) (o := 0) rfl
theorem fa13_1 : ∀ {p : AAddr}, fieldAddrA Try.prog 13 (.ptr p) 1 = some (.ptr ⟨p.ro, p.blk, p.off + 1⟩) := fa_struct Try.underlying13 (ft := 12) (o := 1) rfl (m := 0) sz12
theorem fl13_1 : ∀ {cs : List AV}, fieldA Try.prog 13 (.agg cs) 1 = partA Try.prog 12 cs 1 := fl_struct Try.underlying13 (ft := 12) (o := 1) rfl
theorem ld18 : ∀ {p : AAddr} {H : AH}, loadA Try.prog 18 p H = (H.get p).bind fun cs => gd (p.off + 1 ≤ cs.length) (some (.agg ((cs.drop p.off).take 1))) := load_agg ag18 sz18
theorem pt18 : ∀ {cs : List AV} {o : Nat}, partA Try.prog 18 cs o = gd (o + 1 ≤ cs.length) (some (.agg ((cs.drop o).take 1))) := part_agg ag18 sz18
theorem ifc18 : ∀ {v : AV}, ifaceA Try.prog 18 v = some (.iface 18 v) := iface_of Try.underlying18 rfl
theorem ass18 : ∀ {ok : Bool} {v : AV}, assertA Try.prog 18 ok v = assertV (zeroV Try.prog 18) 18 ok v := assert_of Try.underlying18 rfl
theorem sta18 : ∀ {vs : List AV} {H : AH} {i o : Nat}, storeA Try.prog 18 ⟨false, i, o⟩ (.agg vs) H = gd (vs.length = 1) (gdb (vs.all oneA) ((H.cells? i).bind fun l0 => gd (o + 1 ≤ l0.length) (some (H.set i (some (.cells (putL l0 o vs))))))) := store_aggs (n := 0) sz18
theorem ld21 : ∀ {p : AAddr} {H : AH}, loadA Try.prog 21 p H = (H.get p).bind fun cs => cs[p.off]? := load_cell ag21
theorem pt21 : ∀ {cs : List AV} {o : Nat}, partA Try.prog 21 cs o = cs[o]? := part_cell ag21
theorem st21_0 : ∀ {k : IntKind} {a : Int} {H : AH} {i o : Nat}, storeA Try.prog 21 ⟨false, i, o⟩ (.int k a) H = (H.cells? i).bind fun l => gd (o < l.length) (some (H.set i (some (.cells (l.set o (.int k a)))))) := store_cell sz21 rfl
theorem st21_1 : ∀ {a : UInt8} {H : AH} {i o : Nat}, storeA Try.prog 21 ⟨false, i, o⟩ (bv a) H = (H.cells? i).bind fun l => gd (o < l.length) (some (H.set i (some (.cells (l.set o (bv a)))))) := store_cell sz21 rfl
theorem ifc21 : ∀ {v : AV}, ifaceA Try.prog 21 v = some (.iface 21 v) := iface_of Try.underlying21 rfl
theorem ass21 : ∀ {ok : Bool} {v : AV}, assertA Try.prog 21 ok v = assertV (zeroV Try.prog 21) 21 ok v := assert_of Try.underlying21 rfl
theorem cv2_21 : ∀ {k : IntKind} {a : Int} {H : AH}, convertA Try.prog 2 21 (.int k a) H = some (.int .i32 (IntKind.i32.wrap a), H) := conv_int Try.underlying21 (by rw [Try.underlying2]; rfl)
theorem cv3_21 : ∀ {k : IntKind} {a : Int} {H : AH}, convertA Try.prog 3 21 (.int k a) H = some (.int .i32 (IntKind.i32.wrap a), H) := conv_int Try.underlying21 (by rw [Try.underlying3]; rfl)
theorem cv5_21 : ∀ {k : IntKind} {a : Int} {H : AH}, convertA Try.prog 5 21 (.int k a) H = some (.int .i32 (IntKind.i32.wrap a), H) := conv_int Try.underlying21 (by rw [Try.underlying5]; rfl)
theorem cv12_21 : ∀ {k : IntKind} {a : Int} {H : AH}, convertA Try.prog 12 21 (.int k a) H = some (.int .i32 (IntKind.i32.wrap a), H) := conv_int Try.underlying21 (by rw [Try.underlying12]; rfl)
theorem cv21_21 : ∀ {k : IntKind} {a : Int} {H : AH}, convertA Try.prog 21 21 (.int k a) H = some (.int .i32 (IntKind.i32.wrap a), H) := conv_int Try.underlying21 (by rw [Try.underlying21]; rfl)
theorem cv24_21 : ∀ {k : IntKind} {a : Int} {H : AH}, convertA Try.prog 24 21 (.int k a) H = some (.int .i32 (IntKind.i32.wrap a), H) := conv_int Try.underlying21 (by rw [Try.underlying24]; rfl)
theorem cv49_21 : ∀ {k : IntKind} {a : Int} {H : AH}, convertA Try.prog 49 21 (.int k a) H = some (.int .i32 (IntKind.i32.wrap a), H) := conv_int Try.underlying21 (by rw [Try.underlying49]; rfl)
theorem cv93_21 : ∀ {k : IntKind} {a : Int} {H : AH}, convertA Try.prog 93 21 (.int k a) H = some (.int .i32 (IntKind.i32.wrap a), H) := conv_int Try.underlying21 (by rw [Try.underlying93]; rfl)
theorem cv96_21 : ∀ {k : IntKind} {a : Int} {H : AH}, convertA Try.prog 96 21 (.int k a) H = some (.int .i32 (IntKind.i32.wrap a), H) := conv_int Try.underlying21 (by rw [Try.underlying96]; rfl)
theorem ld23 : ∀ {p : AAddr} {H : AH}, loadA Try.prog 23 p H = (H.get p).bind fun cs => cs[p.off]? := load_cell ag23
theorem pt23 : ∀ {cs : List AV} {o : Nat}, partA Try.prog 23 cs o = cs[o]? := part_cell ag23
theorem st23_0 : ∀ {a : AAddr} {H : AH} {i o : Nat}, storeA Try.prog 23 ⟨false, i, o⟩ (.ptr a) H = (H.cells? i).bind fun l => gd (o < l.length) (some (H.set i (some (.cells (l.set o (.ptr a)))))) := store_cell sz23 rfl
theorem st23_1 : ∀  {H : AH} {i o : Nat}, storeA Try.prog 23 ⟨false, i, o⟩ .nilptr H = (H.cells? i).bind fun l => gd (o < l.length) (some (H.set i (some (.cells (l.set o .nilptr))))) := store_cell sz23 rfl
theorem ifc23 : ∀ {v : AV}, ifaceA Try.prog 23 v = some (.iface 23 v) := iface_of Try.underlying23 rfl
theorem ass23 : ∀ {ok : Bool} {v : AV}, assertA Try.prog 23 ok v = assertV (zeroV Try.prog 23) 23 ok v := assert_of Try.underlying23 rfl
theorem eqptrnil23 : ∀ {p : AAddr}, binA Try.prog .eql 23 (.ptr p) .nilptr = some (.bool false) := eq_ptr_nil Try.underlying23
theorem neptrnil23 : ∀ {p : AAddr}, binA Try.prog .neq 23 (.ptr p) .nilptr = some (.bool true) := ne_ptr_nil Try.underlying23
theorem eqnn23 : binA Try.prog .eql 23 .nilptr .nilptr = some (.bool true) := eq_nilptr Try.underlying23
theorem nenn23 : binA Try.prog .neq 23 .nilptr .nilptr = some (.bool false) := ne_nilptr Try.underlying23
theorem ld24 : ∀ {p : AAddr} {H : AH}, loadA Try.prog 24 p H = (H.get p).bind fun cs => cs[p.off]? := load_cell ag24
theorem pt24 : ∀ {cs : List AV} {o : Nat}, partA Try.prog 24 cs o = cs[o]? := part_cell ag24
theorem st24_0 : ∀ {k : IntKind} {a : Int} {H : AH} {i o : Nat}, storeA Try.prog 24 ⟨false, i, o⟩ (.int k a) H = (H.cells? i).bind fun l => gd (o < l.length) (some (H.set i (some (.cells (l.set o (.int k a)))))) := store_cell sz24 rfl
theorem st24_1 : ∀ {a : UInt8} {H : AH} {i o : Nat}, storeA Try.prog 24 ⟨false, i, o⟩ (bv a) H = (H.cells? i).bind fun l => gd (o < l.length) (some (H.set i (some (.cells (l.set o (bv a)))))) := store_cell sz24 rfl
theorem ifc24 : ∀ {v : AV}, ifaceA Try.prog 24 v = some (.iface 24 v) := iface_of Try.underlying24 rfl
theorem ass24 : ∀ {ok : Bool} {v : AV}, assertA Try.prog 24 ok v = assertV (zeroV Try.prog 24) 24 ok v := assert_of Try.underlying24 rfl
theorem cv2_24 : ∀ {k : IntKind} {a : Int} {H : AH}, convertA Try.prog 2 24 (.int k a) H = some (.int .i64 (IntKind.i64.wrap a), H) := conv_int Try.underlying24 (by rw [Try.underlying2]; rfl)
theorem cv3_24 : ∀ {k : IntKind} {a : Int} {H : AH}, convertA Try.prog 3 24 (.int k a) H = some (.int .i64 (IntKind.i64.wrap a), H) := conv_int Try.underlying24 (by rw [Try.underlying3]; rfl)
theorem cv5_24 : ∀ {k : IntKind} {a : Int} {H : AH}, convertA Try.prog 5 24 (.int k a) H = some (.int .i64 (IntKind.i64.wrap a), H) := conv_int Try.underlying24 (by rw [Try.underlying5]; rfl)
theorem cv12_24 : ∀ {k : IntKind} {a : Int} {H : AH}, convertA Try.prog 12 24 (.int k a) H = some (.int .i64 (IntKind.i64.wrap a), H) := conv_int Try.underlying24 (by rw [Try.underlying12]; rfl)
theorem cv21_24 : ∀ {k : IntKind} {a : Int} {H : AH}, convertA Try.prog 21 24 (.int k a) H = some (.int .i64 (IntKind.i64.wrap a), H) := conv_int Try.underlying24 (by rw [Try.underlying21]; rfl)
theorem cv24_24 : ∀ {k : IntKind} {a : Int} {H : AH}, convertA Try.prog 24 24 (.int k a) H = some (.int .i64 (IntKind.i64.wrap a), H) := conv_int Try.underlying24 (by rw [Try.underlying24]; rfl)
theorem cv49_24 : ∀ {k : IntKind} {a : Int} {H : AH}, convertA Try.prog 49 24 (.int k a) H = some (.int .i64 (IntKind.i64.wrap a), H) := conv_int Try.underlying24 (by rw [Try.underlying49]; rfl)
theorem cv93_24 : ∀ {k : IntKind} {a : Int} {H : AH}, convertA Try.prog 93 24 (.int k a) H = some (.int .i64 (IntKind.i64.wrap a), H) := conv_int Try.underlying24 (by rw [Try.underlying93]; rfl)
theorem cv96_24 : ∀ {k : IntKind} {a : Int} {H : AH}, convertA Try.prog 96 24 (.int k a) H = some (.int .i64 (IntKind.i64.wrap a), H) := conv_int Try.underlying24 (by rw [Try.underlying96]; rfl)
theorem ld27 : ∀ {p : AAddr} {H : AH}, loadA Try.prog 27 p H = (H.get p).bind fun cs => cs[p.off]? := load_cell ag27
theorem pt27 : ∀ {cs : List AV} {o : Nat}, partA Try.prog 27 cs o = cs[o]? := part_cell ag27
theorem st27_0 : ∀ {a : AAddr} {n : Nat} {c : Cap} {H : AH} {i o : Nat}, storeA Try.prog 27 ⟨false, i, o⟩ (.slice a n c) H = (H.cells? i).bind fun l => gd (o < l.length) (some (H.set i (some (.cells (l.set o (.slice a n c)))))) := store_cell sz27 rfl
theorem st27_1 : ∀  {H : AH} {i o : Nat}, storeA Try.prog 27 ⟨false, i, o⟩ .nilslice H = (H.cells? i).bind fun l => gd (o < l.length) (some (H.set i (some (.cells (l.set o .nilslice))))) := store_cell sz27 rfl
theorem ifc27 : ∀ {v : AV}, ifaceA Try.prog 27 v = some (.iface 27 v) := iface_of Try.underlying27 rfl
theorem ass27 : ∀ {ok : Bool} {v : AV}, assertA Try.prog 27 ok v = assertV (zeroV Try.prog 27) 27 ok v := assert_of Try.underlying27 rfl
theorem ll27 : ∀ {p : AAddr} {n : Nat} {c : Cap}, lenA Try.prog 27 (.slice p n c) = some (.int .i64 n) := len_slice Try.underlying27
theorem ln27 : lenA Try.prog 27 .nilslice = some (.int .i64 0) := len_nil Try.underlying27
theorem ia27 : ∀ {p : AAddr} {n : Nat} {c : Cap} {k : IntKind} {a : Int}, indexAddrA Try.prog 27 (.slice p n c) (.int k a) = gd (0 ≤ a ∧ a < n) (some (.ptr ⟨p.ro, p.blk, p.off + a.toNat * 1⟩)) := ixa_slice Try.underlying27 sz5
theorem sk27 : ∀ {p : AAddr} {n c : Nat} {lo hi mx : Option AV}, sliceOpA Try.prog 27 (.slice p n (.known c)) lo hi mx = cutKnown p 1 n c lo hi mx := slc_known Try.underlying27 sz5
theorem sg27 : ∀ {p : AAddr} {n : Nat} {lo hi : Option AV}, sliceOpA Try.prog 27 (.slice p n (.grow 1)) lo hi none = if p.ro = false then (optB hi n n).bind fun h => (optB lo h 0).map fun l => .slice ⟨false, p.blk, p.off + l * 1⟩ (h - l) (.grow 1) else none := slc_grow Try.underlying27 sz5
theorem sn27 : ∀ {lo hi : Option AV}, sliceOpA Try.prog 27 .nilslice lo hi none = (optB hi 0 0).bind fun h => (optB lo h 0).map fun _ => .nilslice := slc_nil Try.underlying27 sz5
theorem ens27 : ∀ {p : AAddr} {n : Nat} {c : Cap}, binA Try.prog .eql 27 (.slice p n c) .nilslice = if sureSlice n c then some (.bool false) else none := eq_nil_slice Try.underlying27
theorem nns27 : ∀ {p : AAddr} {n : Nat} {c : Cap}, binA Try.prog .neq 27 (.slice p n c) .nilslice = if sureSlice n c then some (.bool true) else none := ne_nil_slice Try.underlying27
theorem enn27 : binA Try.prog .eql 27 .nilslice .nilslice = some (.bool true) := eq_nil_nil Try.underlying27
theorem nnn27 : binA Try.prog .neq 27 .nilslice .nilslice = some (.bool false) := ne_nil_nil Try.underlying27
theorem cp27 : ∀ {p : AAddr} {n : Nat} {c : Cap} {x : AV} {H : AH}, copyA Try.prog 27 (.slice p n c) x H = (newsA H 1 x).bind fun kn => if p.ro = false ∧ (H.cells? p.blk).isSome then (storeCellsA H p.blk p.off (kn.2.take (min kn.1 n * 1))).map fun H1 => (.int .i64 (min kn.1 n : Nat), H1) else none := copy_slice Try.underlying27 sz5
theorem cn27 : ∀ {x : AV} {H : AH}, copyA Try.prog 27 .nilslice x H = (newsA H 1 x).bind fun kn => some (.int .i64 0, H) := copy_nil Try.underlying27 sz5
theorem mk27 : ∀ {k k1 : IntKind} {a b : Int} {H : AH}, makeSliceA Try.prog 27 (.int k a) (.int k1 b) H = gd (0 ≤ a ∧ a ≤ b ∧ b ≤ 140737488355328 ∧ b * (1 : Nat) ≤ 140737488355328) (some (.slice ⟨false, H.n, 0⟩ a.toNat (.known b.toNat), H.push (some (.cells (repA ([.int .u8 0]) b.toNat))))) := make_slice Try.underlying27 sz5 by5 ze5 ⟨by simp, by decide⟩
theorem bs27 : ∀ {len : Nat} {parts : List (Nat × AV)} {H : AH}, len * 1 ≤ 16777216 → buildSliceA Try.prog 27 len parts H = (fillA (fun i => some (i * 1, 1)) (zerosL ([.int .u8 0]) len) parts).map fun cells => (.slice ⟨false, H.n, 0⟩ len (.known len), H.push (some (.cells cells))) := fun h => build_lit Try.underlying27 sz5 ze5 ⟨by simp, by decide⟩ h
theorem ap27 : ∀ {s x : AV} {H : AH}, appendA Try.prog 27 27 s x H = (newsA H 1 x).bind fun kn => if kn.2.all oneA = true then appendTo 1 1 H kn.1 kn.2 s else none := app_slice Try.underlying27 sz5 by5 ze5 ⟨by simp, by decide⟩
theorem ai27_3 : ∀ {s : AV} {l : Int} {H : AH}, appendA Try.prog 27 3 s (.int .i64 l) H = gd (0 ≤ l ∧ l ≤ 140737488355328) (gdb ((repA ([.int .u8 0]) l.toNat).all oneA) (appendTo 1 1 H l.toNat (repA ([.int .u8 0]) l.toNat) s)) := app_int Try.underlying27 sz5 by5 ze5 ⟨by simp, by decide⟩ Try.underlying3
theorem aq27_9 : ∀ {s x : AV} {H : AH}, appendA Try.prog 27 9 s x H = (newsA H 1 x).bind fun kn => if kn.2.all oneA = true then appendTo 1 1 H kn.1 kn.2 s else none := app_str Try.underlying27 sz5 by5 ze5 ⟨by simp, by decide⟩ Try.underlying9
theorem tx27_9 : ∀ {p : AAddr} {n : Nat} {c : Cap} {H : AH}, convertA Try.prog 27 9 (.slice p n c) H = (rowA H 1 (.slice p n c)).bind fun cs => (bytesOfA cs).map fun bs => (.str ⟨bs.toArray⟩, H) := conv_text Try.underlying27 Try.underlying9 Try.underlying5
theorem tn27_9 : ∀ {H : AH}, convertA Try.prog 27 9 .nilslice H = some (.str ⟨#[]⟩, H) := conv_text_nil Try.underlying27 Try.underlying9 Try.underlying5
theorem ld34 : ∀ {p : AAddr} {H : AH}, loadA Try.prog 34 p H = (H.get p).bind fun cs => cs[p.off]? := load_cell ag34
theorem pt34 : ∀ {cs : List AV} {o : Nat}, partA Try.prog 34 cs o = cs[o]? := part_cell ag34
theorem st34_0 : ∀ {a : AAddr} {n : Nat} {c : Cap} {H : AH} {i o : Nat}, storeA Try.prog 34 ⟨false, i, o⟩ (.slice a n c) H = (H.cells? i).bind fun l => gd (o < l.length) (some (H.set i (some (.cells (l.set o (.slice a n c)))))) := store_cell sz34 rfl
theorem st34_1 : ∀  {H : AH} {i o : Nat}, storeA Try.prog 34 ⟨false, i, o⟩ .nilslice H = (H.cells? i).bind fun l => gd (o < l.length) (some (H.set i (some (.cells (l.set o .nilslice))))) := store_cell sz34 rfl
theorem ifc34 : ∀ {v : AV}, ifaceA Try.prog 34 v = some (.iface 34 v) := iface_of Try.underlying34 rfl
theorem ass34 : ∀ {ok : Bool} {v : AV}, assertA Try.prog 34 ok v = assertV (zeroV Try.prog 34) 34 ok v := assert_of Try.underlying34 rfl
theorem ll34 : ∀ {p : AAddr} {n : Nat} {c : Cap}, lenA Try.prog 34 (.slice p n c) = some (.int .i64 n) := len_slice Try.underlying34
theorem ln34 : lenA Try.prog 34 .nilslice = some (.int .i64 0) := len_nil Try.underlying34
theorem ia34 : ∀ {p : AAddr} {n : Nat} {c : Cap} {k : IntKind} {a : Int}, indexAddrA Try.prog 34 (.slice p n c) (.int k a) = gd (0 ≤ a ∧ a < n) (some (.ptr ⟨p.ro, p.blk, p.off + a.toNat * 6⟩)) := ixa_slice Try.underlying34 sz36
theorem sk34 : ∀ {p : AAddr} {n c : Nat} {lo hi mx : Option AV}, sliceOpA Try.prog 34 (.slice p n (.known c)) lo hi mx = cutKnown p 6 n c lo hi mx := slc_known Try.underlying34 sz36
theorem sg34 : ∀ {p : AAddr} {n : Nat} {lo hi : Option AV}, sliceOpA Try.prog 34 (.slice p n (.grow 6)) lo hi none = if p.ro = false then (optB hi n n).bind fun h => (optB lo h 0).map fun l => .slice ⟨false, p.blk, p.off + l * 6⟩ (h - l) (.grow 6) else none := slc_grow Try.underlying34 sz36
theorem sn34 : ∀ {lo hi : Option AV}, sliceOpA Try.prog 34 .nilslice lo hi none = (optB hi 0 0).bind fun h => (optB lo h 0).map fun _ => .nilslice := slc_nil Try.underlying34 sz36
theorem ens34 : ∀ {p : AAddr} {n : Nat} {c : Cap}, binA Try.prog .eql 34 (.slice p n c) .nilslice = if sureSlice n c then some (.bool false) else none := eq_nil_slice Try.underlying34
theorem nns34 : ∀ {p : AAddr} {n : Nat} {c : Cap}, binA Try.prog .neq 34 (.slice p n c) .nilslice = if sureSlice n c then some (.bool true) else none := ne_nil_slice Try.underlying34
theorem enn34 : binA Try.prog .eql 34 .nilslice .nilslice = some (.bool true) := eq_nil_nil Try.underlying34
theorem nnn34 : binA Try.prog .neq 34 .nilslice .nilslice = some (.bool false) := ne_nil_nil Try.underlying34
theorem cp34 : ∀ {p : AAddr} {n : Nat} {c : Cap} {x : AV} {H : AH}, copyA Try.prog 34 (.slice p n c) x H = (newsA H 6 x).bind fun kn => if p.ro = false ∧ (H.cells? p.blk).isSome then (storeCellsA H p.blk p.off (kn.2.take (min kn.1 n * 6))).map fun H1 => (.int .i64 (min kn.1 n : Nat), H1) else none := copy_slice Try.underlying34 sz36
theorem cn34 : ∀ {x : AV} {H : AH}, copyA Try.prog 34 .nilslice x H = (newsA H 6 x).bind fun kn => some (.int .i64 0, H) := copy_nil Try.underlying34 sz36
theorem mk34 : ∀ {k k1 : IntKind} {a b : Int} {H : AH}, makeSliceA Try.prog 34 (.int k a) (.int k1 b) H = gd (0 ≤ a ∧ a ≤ b ∧ b ≤ 140737488355328 ∧ b * (64 : Nat) ≤ 140737488355328) (some (.slice ⟨false, H.n, 0⟩ a.toNat (.known b.toNat), H.push (some (.cells (repA ([.int .i64 0, .int .i64 0, .int .i64 0, .int .u8 0, .nilslice, .bool false]) b.toNat))))) := make_slice Try.underlying34 sz36 by36 ze36 ⟨by simp, by decide⟩
theorem bs34 : ∀ {len : Nat} {parts : List (Nat × AV)} {H : AH}, len * 6 ≤ 16777216 → buildSliceA Try.prog 34 len parts H = (fillA (fun i => some (i * 6, 6)) (zerosL ([.int .i64 0, .int .i64 0, .int .i64 0, .int .u8 0, .nilslice, .bool false]) len) parts).map fun cells => (.slice ⟨false, H.n, 0⟩ len (.known len), H.push (some (.cells cells))) := fun h => build_lit Try.underlying34 sz36 ze36 ⟨by simp, by decide⟩ h
theorem ap34 : ∀ {s x : AV} {H : AH}, appendA Try.prog 34 34 s x H = (newsA H 6 x).bind fun kn => if kn.2.all oneA = true then appendTo 6 64 H kn.1 kn.2 s else none := app_slice Try.underlying34 sz36 by36 ze36 ⟨by simp, by decide⟩
theorem ai34_3 : ∀ {s : AV} {l : Int} {H : AH}, appendA Try.prog 34 3 s (.int .i64 l) H = gd (0 ≤ l ∧ l ≤ 140737488355328) (gdb ((repA ([.int .i64 0, .int .i64 0, .int .i64 0, .int .u8 0, .nilslice, .bool false]) l.toNat).all oneA) (appendTo 6 64 H l.toNat (repA ([.int .i64 0, .int .i64 0, .int .i64 0, .int .u8 0, .nilslice, .bool false]) l.toNat) s)) := app_int Try.underlying34 sz36 by36 ze36 ⟨by simp, by decide⟩ Try.underlying3
theorem ld35 : ∀ {p : AAddr} {H : AH}, loadA Try.prog 35 p H = (H.get p).bind fun cs => gd (p.off + 6 ≤ cs.length) (some (.agg ((cs.drop p.off).take 6))) := load_agg ag35 sz35
theorem pt35 : ∀ {cs : List AV} {o : Nat}, partA Try.prog 35 cs o = gd (o + 6 ≤ cs.length) (some (.agg ((cs.drop o).take 6))) := part_agg ag35 sz35
theorem ifc35 : ∀ {v : AV}, ifaceA Try.prog 35 v = some (.iface 35 v) := iface_of Try.underlying35 rfl
theorem ass35 : ∀ {ok : Bool} {v : AV}, assertA Try.prog 35 ok v = assertV (zeroV Try.prog 35) 35 ok v := assert_of Try.underlying35 rfl
theorem sta35 : ∀ {vs : List AV} {H : AH} {i o : Nat}, storeA Try.prog 35 ⟨false, i, o⟩ (.agg vs) H = gd (vs.length = 6) (gdb (vs.all oneA) ((H.cells? i).bind fun l0 => gd (o + 6 ≤ l0.length) (some (H.set i (some (.cells (putL l0 o vs))))))) := store_aggs (n := 5) sz35
theorem fa35_0 : ∀ {p : AAddr}, fieldAddrA Try.prog 35 (.ptr p) 0 = some (.ptr ⟨p.ro, p.blk, p.off + 0⟩) := fa_struct Try.underlying35 (ft := 3) (o := 0) rfl (m := 0) sz3
theorem fl35_0 : ∀ {cs : List AV}, fieldA Try.prog 35 (.agg cs) 0 = partA Try.prog 3 cs 0 := fl_struct Try.underlying35 (ft := 3) (o := 0) rfl
theorem fa35_1 : ∀ {p : AAddr}, fieldAddrA Try.prog 35 (.ptr p) 1 = some (.ptr ⟨p.ro, p.blk, p.off + 1⟩) := fa_struct Try.underlying35 (ft := 3) (o := 1) rfl (m := 0) sz3
theorem fl35_1 : ∀ {cs : List AV}, fieldA Try.prog 35 (.agg cs) 1 = partA Try.prog 3 cs 1 := fl_struct Try.underlying35 (ft := 3) (o := 1) rfl
theorem fa35_2 : ∀ {p : AAddr}, fieldAddrA Try.prog 35 (.ptr p) 2 = some (.ptr ⟨p.ro, p.blk, p.off + 2⟩) := fa_struct Try.underlying35 (ft := 3) (o := 2) rfl (m := 0) sz3
theorem fl35_2 : ∀ {cs : List AV}, fieldA Try.prog 35 (.agg cs) 2 = partA Try.prog 3 cs 2 := fl_struct Try.underlying35 (ft := 3) (o := 2) rfl
theorem fa35_3 : ∀ {p : AAddr}, fieldAddrA Try.prog 35 (.ptr p) 3 = some (.ptr ⟨p.ro, p.blk, p.off + 3⟩) := fa_struct Try.underlying35 (ft := 5) (o := 3) rfl (m := 0) sz5
theorem fl35_3 : ∀ {cs : List AV}, fieldA Try.prog 35 (.agg cs) 3 = partA Try.prog 5 cs 3 := fl_struct Try.underlying35 (ft := 5) (o := 3) rfl
theorem fa35_4 : ∀ {p : AAddr}, fieldAddrA Try.prog 35 (.ptr p) 4 = some (.ptr ⟨p.ro, p.blk, p.off + 4⟩) := fa_struct Try.underlying35 (ft := 27) (o := 4) rfl (m := 0) sz27
theorem fl35_4 : ∀ {cs : List AV}, fieldA Try.prog 35 (.agg cs) 4 = partA Try.prog 27 cs 4 := fl_struct Try.underlying35 (ft := 27) (o := 4) rfl
theorem fa35_5 : ∀ {p : AAddr}, fieldAddrA Try.prog 35 (.ptr p) 5 = some (.ptr ⟨p.ro, p.blk, p.off + 5⟩) := fa_struct Try.underlying35 (ft := 4) (o := 5) rfl (m := 0) sz4
theorem fl35_5 : ∀ {cs : List AV}, fieldA Try.prog 35 (.agg cs) 5 = partA Try.prog 4 cs 5 := fl_struct Try.underlying35 (ft := 4) (o := 5) rfl
theorem ld36 : ∀ {p : AAddr} {H : AH}, loadA Try.prog 36 p H = (H.get p).bind fun cs => gd (p.off + 6 ≤ cs.length) (some (.agg ((cs.drop p.off).take 6))) := load_agg ag36 sz36
theorem pt36 : ∀ {cs : List AV} {o : Nat}, partA Try.prog 36 cs o = gd (o + 6 ≤ cs.length) (some (.agg ((cs.drop o).take 6))) := part_agg ag36 sz36
theorem ifc36 : ∀ {v : AV}, ifaceA Try.prog 36 v = some (.iface 36 v) := iface_of Try.underlying36 rfl
theorem ass36 : ∀ {ok : Bool} {v : AV}, assertA Try.prog 36 ok v = assertV (zeroV Try.prog 36) 36 ok v := assert_of Try.underlying36 rfl
theorem sta36 : ∀ {vs : List AV} {H : AH} {i o : Nat}, storeA Try.prog 36 ⟨false, i, o⟩ (.agg vs) H = gd (vs.length = 6) (gdb (vs.all oneA) ((H.cells? i).bind fun l0 => gd (o + 6 ≤ l0.length) (some (H.set i (some (.cells (putL l0 o vs))))))) := store_aggs (n := 5) sz36
theorem fa36_0 : ∀ {p : AAddr}, fieldAddrA Try.prog 36 (.ptr p) 0 = some (.ptr ⟨p.ro, p.blk, p.off + 0⟩) := fa_struct Try.underlying36 (ft := 3) (o := 0) rfl (m := 0) sz3
theorem fl36_0 : ∀ {cs : List AV}, fieldA Try.prog 36 (.agg cs) 0 = partA Try.prog 3 cs 0 := fl_struct Try.underlying36 (ft := 3) (o := 0) rfl
theorem fa36_1 : ∀ {p : AAddr}, fieldAddrA Try.prog 36 (.ptr p) 1 = some (.ptr ⟨p.ro, p.blk, p.off + 1⟩) := fa_struct Try.underlying36 (ft := 3) (o := 1) rfl (m := 0) sz3
theorem fl36_1 : ∀ {cs : List AV}, fieldA Try.prog 36 (.agg cs) 1 = partA Try.prog 3 cs 1 := fl_struct Try.underlying36 (ft := 3) (o := 1) rfl
theorem fa36_2 : ∀ {p : AAddr}, fieldAddrA Try.prog 36 (.ptr p) 2 = some (.ptr ⟨p.ro, p.blk, p.off + 2⟩) := fa_struct Try.underlying36 (ft := 3) (o := 2) rfl (m := 0) sz3
theorem fl36_2 : ∀ {cs : List AV}, fieldA Try.prog 36 (.agg cs) 2 = partA Try.prog 3 cs 2 := fl_struct Try.underlying36 (ft := 3) (o := 2) rfl
theorem fa36_3 : ∀ {p : AAddr}, fieldAddrA Try.prog 36 (.ptr p) 3 = some (.ptr ⟨p.ro, p.blk, p.off + 3⟩) := fa_struct Try.underlying36 (ft := 5) (o := 3) rfl (m := 0) sz5
theorem fl36_3 : ∀ {cs : List AV}, fieldA Try.prog 36 (.agg cs) 3 = partA Try.prog 5 cs 3 := fl_struct Try.underlying36 (ft := 5) (o := 3) rfl
theorem fa36_4 : ∀ {p : AAddr}, fieldAddrA Try.prog 36 (.ptr p) 4 = some (.ptr ⟨p.ro, p.blk, p.off + 4⟩) := fa_struct Try.underlying36 (ft := 27) (o := 4) rfl (m := 0) sz27
theorem fl36_4 : ∀ {cs : List AV}, fieldA Try.prog 36 (.agg cs) 4 = partA Try.prog 27 cs 4 := fl_struct Try.underlying36 (ft := 27) (o := 4) rfl
theorem fa36_5 : ∀ {p : AAddr}, fieldAddrA Try.prog 36 (.ptr p) 5 = some (.ptr ⟨p.ro, p.blk, p.off + 5⟩) := fa_struct Try.underlying36 (ft := 4) (o := 5) rfl (m := 0) sz4
theorem fl36_5 : ∀ {cs : List AV}, fieldA Try.prog 36 (.agg cs) 5 = partA Try.prog 4 cs 5 := fl_struct Try.underlying36 (ft := 4) (o := 5) rfl
theorem ld42 : ∀ {p : AAddr} {H : AH}, loadA Try.prog 42 p H = (H.get p).bind fun cs => gd (p.off + 4 ≤ cs.length) (some (.agg ((cs.drop p.off).take 4))) := load_agg ag42 sz42
theorem pt42 : ∀ {cs : List AV} {o : Nat}, partA Try.prog 42 cs o = gd (o + 4 ≤ cs.length) (some (.agg ((cs.drop o).take 4))) := part_agg ag42 sz42
theorem ifc42 : ∀ {v : AV}, ifaceA Try.prog 42 v = some (.iface 42 v) := iface_of Try.underlying42 rfl
theorem ass42 : ∀ {ok : Bool} {v : AV}, assertA Try.prog 42 ok v = assertV (zeroV Try.prog 42) 42 ok v := assert_of Try.underlying42 rfl
theorem sta42 : ∀ {vs : List AV} {H : AH} {i o : Nat}, storeA Try.prog 42 ⟨false, i, o⟩ (.agg vs) H = gd (vs.length = 4) (gdb (vs.all oneA) ((H.cells? i).bind fun l0 => gd (o + 4 ≤ l0.length) (some (H.set i (some (.cells (putL l0 o vs))))))) := store_aggs (n := 3) sz42
theorem la42 : ∀ {v : AV}, lenA Try.prog 42 v = some (.int .i64 4) := len_arr Try.underlying42
theorem ia42 : ∀ {p : AAddr} {k : IntKind} {a : Int}, indexAddrA Try.prog 42 (.ptr p) (.int k a) = gd (0 ≤ a ∧ a < (4 : Nat)) (some (.ptr ⟨p.ro, p.blk, p.off + a.toNat * 1⟩)) := ixa_arr Try.underlying42 sz27
theorem xa42 : ∀ {cs : List AV} {k : IntKind} {a : Int}, indexA Try.prog 42 (.agg cs) (.int k a) = gd (0 ≤ a ∧ a < (4 : Nat)) (partA Try.prog 27 cs (a.toNat * 1)) := ix_arr Try.underlying42 sz27
theorem sa42 : ∀ {p : AAddr} {lo hi mx : Option AV}, sliceOpA Try.prog 42 (.ptr p) lo hi mx = cutKnown p 1 4 4 lo hi mx := slc_arr Try.underlying42 sz27
theorem ld43 : ∀ {p : AAddr} {H : AH}, loadA Try.prog 43 p H = (H.get p).bind fun cs => gd (p.off + 12 ≤ cs.length) (some (.agg ((cs.drop p.off).take 12))) := load_agg ag43 sz43
theorem pt43 : ∀ {cs : List AV} {o : Nat}, partA Try.prog 43 cs o = gd (o + 12 ≤ cs.length) (some (.agg ((cs.drop o).take 12))) := part_agg ag43 sz43
theorem ifc43 : ∀ {v : AV}, ifaceA Try.prog 43 v = some (.iface 43 v) := iface_of Try.underlying43 rfl
theorem ass43 : ∀ {ok : Bool} {v : AV}, assertA Try.prog 43 ok v = assertV (zeroV Try.prog 43) 43 ok v := assert_of Try.underlying43 rfl
theorem sta43 : ∀ {vs : List AV} {H : AH} {i o : Nat}, storeA Try.prog 43 ⟨false, i, o⟩ (.agg vs) H = gd (vs.length = 12) (gdb (vs.all oneA) ((H.cells? i).bind fun l0 => gd (o + 12 ≤ l0.length) (some (H.set i (some (.cells (putL l0 o vs))))))) := store_aggs (n := 11) sz43
theorem la43 : ∀ {v : AV}, lenA Try.prog 43 v = some (.int .i64 3) := len_arr Try.underlying43
theorem ia43 : ∀ {p : AAddr} {k : IntKind} {a : Int}, indexAddrA Try.prog 43 (.ptr p) (.int k a) = gd (0 ≤ a ∧ a < (3 : Nat)) (some (.ptr ⟨p.ro, p.blk, p.off + a.toNat * 4⟩)) := ixa_arr Try.underlying43 sz42
theorem xa43 : ∀ {cs : List AV} {k : IntKind} {a : Int}, indexA Try.prog 43 (.agg cs) (.int k a) = gd (0 ≤ a ∧ a < (3 : Nat)) (partA Try.prog 42 cs (a.toNat * 4)) := ix_arr Try.underlying43 sz42
theorem sa43 : ∀ {p : AAddr} {lo hi mx : Option AV}, sliceOpA Try.prog 43 (.ptr p) lo hi mx = cutKnown p 4 3 3 lo hi mx := slc_arr Try.underlying43 sz42
theorem ld49 : ∀ {p : AAddr} {H : AH}, loadA Try.prog 49 p H = (H.get p).bind fun cs => cs[p.off]? := load_cell ag49
theorem pt49 : ∀ {cs : List AV} {o : Nat}, partA Try.prog 49 cs o = cs[o]? := part_cell ag49
theorem st49_0 : ∀ {k : IntKind} {a : Int} {H : AH} {i o : Nat}, storeA Try.prog 49 ⟨false, i, o⟩ (.int k a) H = (H.cells? i).bind fun l => gd (o < l.length) (some (H.set i (some (.cells (l.set o (.int k a)))))) := store_cell sz49 rfl
theorem st49_1 : ∀ {a : UInt8} {H : AH} {i o : Nat}, storeA Try.prog 49 ⟨false, i, o⟩ (bv a) H = (H.cells? i).bind fun l => gd (o < l.length) (some (H.set i (some (.cells (l.set o (bv a)))))) := store_cell sz49 rfl
theorem ifc49 : ∀ {v : AV}, ifaceA Try.prog 49 v = some (.iface 49 v) := iface_of Try.underlying49 rfl
theorem ass49 : ∀ {ok : Bool} {v : AV}, assertA Try.prog 49 ok v = assertV (zeroV Try.prog 49) 49 ok v := assert_of Try.underlying49 rfl
theorem cv2_49 : ∀ {k : IntKind} {a : Int} {H : AH}, convertA Try.prog 2 49 (.int k a) H = some (.int .u64 (IntKind.u64.wrap a), H) := conv_int Try.underlying49 (by rw [Try.underlying2]; rfl)
theorem cv3_49 : ∀ {k : IntKind} {a : Int} {H : AH}, convertA Try.prog 3 49 (.int k a) H = some (.int .u64 (IntKind.u64.wrap a), H) := conv_int Try.underlying49 (by rw [Try.underlying3]; rfl)
theorem cv5_49 : ∀ {k : IntKind} {a : Int} {H : AH}, convertA Try.prog 5 49 (.int k a) H = some (.int .u64 (IntKind.u64.wrap a), H) := conv_int Try.underlying49 (by rw [Try.underlying5]; rfl)
theorem cv12_49 : ∀ {k : IntKind} {a : Int} {H : AH}, convertA Try.prog 12 49 (.int k a) H = some (.int .u64 (IntKind.u64.wrap a), H) := conv_int Try.underlying49 (by rw [Try.underlying12]; rfl)
theorem cv21_49 : ∀ {k : IntKind} {a : Int} {H : AH}, convertA Try.prog 21 49 (.int k a) H = some (.int .u64 (IntKind.u64.wrap a), H) := conv_int Try.underlying49 (by rw [Try.underlying21]; rfl)
theorem cv24_49 : ∀ {k : IntKind} {a : Int} {H : AH}, convertA Try.prog 24 49 (.int k a) H = some (.int .u64 (IntKind.u64.wrap a), H) := conv_int Try.underlying49 (by rw [Try.underlying24]; rfl)
theorem cv49_49 : ∀ {k : IntKind} {a : Int} {H : AH}, convertA Try.prog 49 49 (.int k a) H = some (.int .u64 (IntKind.u64.wrap a), H) := conv_int Try.underlying49 (by rw [Try.underlying49]; rfl)
theorem cv93_49 : ∀ {k : IntKind} {a : Int} {H : AH}, convertA Try.prog 93 49 (.int k a) H = some (.int .u64 (IntKind.u64.wrap a), H) := conv_int Try.underlying49 (by rw [Try.underlying93]; rfl)
theorem cv96_49 : ∀ {k : IntKind} {a : Int} {H : AH}, convertA Try.prog 96 49 (.int k a) H = some (.int .u64 (IntKind.u64.wrap a), H) := conv_int Try.underlying49 (by rw [Try.underlying96]; rfl)
theorem ld50 : ∀ {p : AAddr} {H : AH}, loadA Try.prog 50 p H = (H.get p).bind fun cs => cs[p.off]? := load_cell ag50
theorem pt50 : ∀ {cs : List AV} {o : Nat}, partA Try.prog 50 cs o = cs[o]? := part_cell ag50
theorem st50_0 : ∀ {a : AAddr} {H : AH} {i o : Nat}, storeA Try.prog 50 ⟨false, i, o⟩ (.ptr a) H = (H.cells? i).bind fun l => gd (o < l.length) (some (H.set i (some (.cells (l.set o (.ptr a)))))) := store_cell sz50 rfl
theorem st50_1 : ∀  {H : AH} {i o : Nat}, storeA Try.prog 50 ⟨false, i, o⟩ .nilptr H = (H.cells? i).bind fun l => gd (o < l.length) (some (H.set i (some (.cells (l.set o .nilptr))))) := store_cell sz50 rfl
theorem ifc50 : ∀ {v : AV}, ifaceA Try.prog 50 v = some (.iface 50 v) := iface_of Try.underlying50 rfl
theorem ass50 : ∀ {ok : Bool} {v : AV}, assertA Try.prog 50 ok v = assertV (zeroV Try.prog 50) 50 ok v := assert_of Try.underlying50 rfl
theorem eqptrnil50 : ∀ {p : AAddr}, binA Try.prog .eql 50 (.ptr p) .nilptr = some (.bool false) := eq_ptr_nil Try.underlying50
theorem neptrnil50 : ∀ {p : AAddr}, binA Try.prog .neq 50 (.ptr p) .nilptr = some (.bool true) := ne_ptr_nil Try.underlying50
theorem eqnn50 : binA Try.prog .eql 50 .nilptr .nilptr = some (.bool true) := eq_nilptr Try.underlying50
theorem nenn50 : binA Try.prog .neq 50 .nilptr .nilptr = some (.bool false) := ne_nilptr Try.underlying50
theorem ld61 : ∀ {p : AAddr} {H : AH}, loadA Try.prog 61 p H = (H.get p).bind fun cs => cs[p.off]? := load_cell ag61
theorem pt61 : ∀ {cs : List AV} {o : Nat}, partA Try.prog 61 cs o = cs[o]? := part_cell ag61
theorem st61_0 : ∀ {a : AAddr} {n : Nat} {c : Cap} {H : AH} {i o : Nat}, storeA Try.prog 61 ⟨false, i, o⟩ (.slice a n c) H = (H.cells? i).bind fun l => gd (o < l.length) (some (H.set i (some (.cells (l.set o (.slice a n c)))))) := store_cell sz61 rfl
theorem st61_1 : ∀  {H : AH} {i o : Nat}, storeA Try.prog 61 ⟨false, i, o⟩ .nilslice H = (H.cells? i).bind fun l => gd (o < l.length) (some (H.set i (some (.cells (l.set o .nilslice))))) := store_cell sz61 rfl
theorem ifc61 : ∀ {v : AV}, ifaceA Try.prog 61 v = some (.iface 61 v) := iface_of Try.underlying61 rfl
theorem ass61 : ∀ {ok : Bool} {v : AV}, assertA Try.prog 61 ok v = assertV (zeroV Try.prog 61) 61 ok v := assert_of Try.underlying61 rfl
theorem ll61 : ∀ {p : AAddr} {n : Nat} {c : Cap}, lenA Try.prog 61 (.slice p n c) = some (.int .i64 n) := len_slice Try.underlying61
theorem ln61 : lenA Try.prog 61 .nilslice = some (.int .i64 0) := len_nil Try.underlying61
theorem ia61 : ∀ {p : AAddr} {n : Nat} {c : Cap} {k : IntKind} {a : Int}, indexAddrA Try.prog 61 (.slice p n c) (.int k a) = gd (0 ≤ a ∧ a < n) (some (.ptr ⟨p.ro, p.blk, p.off + a.toNat * 1⟩)) := ixa_slice Try.underlying61 sz65
theorem sk61 : ∀ {p : AAddr} {n c : Nat} {lo hi mx : Option AV}, sliceOpA Try.prog 61 (.slice p n (.known c)) lo hi mx = cutKnown p 1 n c lo hi mx := slc_known Try.underlying61 sz65
theorem sg61 : ∀ {p : AAddr} {n : Nat} {lo hi : Option AV}, sliceOpA Try.prog 61 (.slice p n (.grow 1)) lo hi none = if p.ro = false then (optB hi n n).bind fun h => (optB lo h 0).map fun l => .slice ⟨false, p.blk, p.off + l * 1⟩ (h - l) (.grow 1) else none := slc_grow Try.underlying61 sz65
theorem sn61 : ∀ {lo hi : Option AV}, sliceOpA Try.prog 61 .nilslice lo hi none = (optB hi 0 0).bind fun h => (optB lo h 0).map fun _ => .nilslice := slc_nil Try.underlying61 sz65
theorem ens61 : ∀ {p : AAddr} {n : Nat} {c : Cap}, binA Try.prog .eql 61 (.slice p n c) .nilslice = if sureSlice n c then some (.bool false) else none := eq_nil_slice Try.underlying61
theorem nns61 : ∀ {p : AAddr} {n : Nat} {c : Cap}, binA Try.prog .neq 61 (.slice p n c) .nilslice = if sureSlice n c then some (.bool true) else none := ne_nil_slice Try.underlying61
theorem enn61 : binA Try.prog .eql 61 .nilslice .nilslice = some (.bool true) := eq_nil_nil Try.underlying61
theorem nnn61 : binA Try.prog .neq 61 .nilslice .nilslice = some (.bool false) := ne_nil_nil Try.underlying61
theorem cp61 : ∀ {p : AAddr} {n : Nat} {c : Cap} {x : AV} {H : AH}, copyA Try.prog 61 (.slice p n c) x H = (newsA H 1 x).bind fun kn => if p.ro = false ∧ (H.cells? p.blk).isSome then (storeCellsA H p.blk p.off (kn.2.take (min kn.1 n * 1))).map fun H1 => (.int .i64 (min kn.1 n : Nat), H1) else none := copy_slice Try.underlying61 sz65
theorem cn61 : ∀ {x : AV} {H : AH}, copyA Try.prog 61 .nilslice x H = (newsA H 1 x).bind fun kn => some (.int .i64 0, H) := copy_nil Try.underlying61 sz65
theorem mk61 : ∀ {k k1 : IntKind} {a b : Int} {H : AH}, makeSliceA Try.prog 61 (.int k a) (.int k1 b) H = gd (0 ≤ a ∧ a ≤ b ∧ b ≤ 140737488355328 ∧ b * (24 : Nat) ≤ 140737488355328) (some (.slice ⟨false, H.n, 0⟩ a.toNat (.known b.toNat), H.push (some (.cells (repA ([.nilslice]) b.toNat))))) := make_slice Try.underlying61 sz65 by65 ze65 ⟨by simp, by decide⟩
theorem bs61 : ∀ {len : Nat} {parts : List (Nat × AV)} {H : AH}, len * 1 ≤ 16777216 → buildSliceA Try.prog 61 len parts H = (fillA (fun i => some (i * 1, 1)) (zerosL ([.nilslice]) len) parts).map fun cells => (.slice ⟨false, H.n, 0⟩ len (.known len), H.push (some (.cells cells))) := fun h => build_lit Try.underlying61 sz65 ze65 ⟨by simp, by decide⟩ h
theorem ap61 : ∀ {s x : AV} {H : AH}, appendA Try.prog 61 61 s x H = (newsA H 1 x).bind fun kn => if kn.2.all oneA = true then appendTo 1 24 H kn.1 kn.2 s else none := app_slice Try.underlying61 sz65 by65 ze65 ⟨by simp, by decide⟩
theorem ai61_3 : ∀ {s : AV} {l : Int} {H : AH}, appendA Try.prog 61 3 s (.int .i64 l) H = gd (0 ≤ l ∧ l ≤ 140737488355328) (gdb ((repA ([.nilslice]) l.toNat).all oneA) (appendTo 1 24 H l.toNat (repA ([.nilslice]) l.toNat) s)) := app_int Try.underlying61 sz65 by65 ze65 ⟨by simp, by decide⟩ Try.underlying3
theorem ld62 : ∀ {p : AAddr} {H : AH}, loadA Try.prog 62 p H = (H.get p).bind fun cs => cs[p.off]? := load_cell ag62
theorem pt62 : ∀ {cs : List AV} {o : Nat}, partA Try.prog 62 cs o = cs[o]? := part_cell ag62
theorem st62_0 : ∀ {a : AAddr} {n : Nat} {c : Cap} {H : AH} {i o : Nat}, storeA Try.prog 62 ⟨false, i, o⟩ (.slice a n c) H = (H.cells? i).bind fun l => gd (o < l.length) (some (H.set i (some (.cells (l.set o (.slice a n c)))))) := store_cell sz62 rfl
theorem st62_1 : ∀  {H : AH} {i o : Nat}, storeA Try.prog 62 ⟨false, i, o⟩ .nilslice H = (H.cells? i).bind fun l => gd (o < l.length) (some (H.set i (some (.cells (l.set o .nilslice))))) := store_cell sz62 rfl
theorem ifc62 : ∀ {v : AV}, ifaceA Try.prog 62 v = some (.iface 62 v) := iface_of Try.underlying62 rfl
theorem ass62 : ∀ {ok : Bool} {v : AV}, assertA Try.prog 62 ok v = assertV (zeroV Try.prog 62) 62 ok v := assert_of Try.underlying62 rfl
theorem ll62 : ∀ {p : AAddr} {n : Nat} {c : Cap}, lenA Try.prog 62 (.slice p n c) = some (.int .i64 n) := len_slice Try.underlying62
theorem ln62 : lenA Try.prog 62 .nilslice = some (.int .i64 0) := len_nil Try.underlying62
theorem ia62 : ∀ {p : AAddr} {n : Nat} {c : Cap} {k : IntKind} {a : Int}, indexAddrA Try.prog 62 (.slice p n c) (.int k a) = gd (0 ≤ a ∧ a < n) (some (.ptr ⟨p.ro, p.blk, p.off + a.toNat * 66⟩)) := ixa_slice Try.underlying62 sz70
theorem sk62 : ∀ {p : AAddr} {n c : Nat} {lo hi mx : Option AV}, sliceOpA Try.prog 62 (.slice p n (.known c)) lo hi mx = cutKnown p 66 n c lo hi mx := slc_known Try.underlying62 sz70
theorem sg62 : ∀ {p : AAddr} {n : Nat} {lo hi : Option AV}, sliceOpA Try.prog 62 (.slice p n (.grow 66)) lo hi none = if p.ro = false then (optB hi n n).bind fun h => (optB lo h 0).map fun l => .slice ⟨false, p.blk, p.off + l * 66⟩ (h - l) (.grow 66) else none := slc_grow Try.underlying62 sz70
theorem sn62 : ∀ {lo hi : Option AV}, sliceOpA Try.prog 62 .nilslice lo hi none = (optB hi 0 0).bind fun h => (optB lo h 0).map fun _ => .nilslice := slc_nil Try.underlying62 sz70
theorem ens62 : ∀ {p : AAddr} {n : Nat} {c : Cap}, binA Try.prog .eql 62 (.slice p n c) .nilslice = if sureSlice n c then some (.bool false) else none := eq_nil_slice Try.underlying62
theorem nns62 : ∀ {p : AAddr} {n : Nat} {c : Cap}, binA Try.prog .neq 62 (.slice p n c) .nilslice = if sureSlice n c then some (.bool true) else none := ne_nil_slice Try.underlying62
theorem enn62 : binA Try.prog .eql 62 .nilslice .nilslice = some (.bool true) := eq_nil_nil Try.underlying62
theorem nnn62 : binA Try.prog .neq 62 .nilslice .nilslice = some (.bool false) := ne_nil_nil Try.underlying62
theorem cp62 : ∀ {p : AAddr} {n : Nat} {c : Cap} {x : AV} {H : AH}, copyA Try.prog 62 (.slice p n c) x H = (newsA H 66 x).bind fun kn => if p.ro = false ∧ (H.cells? p.blk).isSome then (storeCellsA H p.blk p.off (kn.2.take (min kn.1 n * 66))).map fun H1 => (.int .i64 (min kn.1 n : Nat), H1) else none := copy_slice Try.underlying62 sz70
theorem cn62 : ∀ {x : AV} {H : AH}, copyA Try.prog 62 .nilslice x H = (newsA H 66 x).bind fun kn => some (.int .i64 0, H) := copy_nil Try.underlying62 sz70
theorem mk62 : ∀ {k k1 : IntKind} {a b : Int} {H : AH}, makeSliceA Try.prog 62 (.int k a) (.int k1 b) H = gd (0 ≤ a ∧ a ≤ b ∧ b ≤ 140737488355328 ∧ b * (80 : Nat) ≤ 140737488355328) (some (.slice ⟨false, H.n, 0⟩ a.toNat (.known b.toNat), H.push (some (.cells (repA ([.int .i64 0, .int .i64 0, .int .u8 0, .int .u8 0, .int .u8 0, .int .u8 0, .int .u8 0, .int .u8 0, .int .u8 0, .int .u8 0, .int .u8 0, .int .u8 0, .int .u8 0, .int .u8 0, .int .u8 0, .int .u8 0, .int .u8 0, .int .u8 0, .int .u8 0, .int .u8 0, .int .u8 0, .int .u8 0, .int .u8 0, .int .u8 0, .int .u8 0, .int .u8 0, .int .u8 0, .int .u8 0, .int .u8 0, .int .u8 0, .int .u8 0, .int .u8 0, .int .u8 0, .int .u8 0, .int .u8 0, .int .u8 0, .int .u8 0, .int .u8 0, .int .u8 0, .int .u8 0, .int .u8 0, .int .u8 0, .int .u8 0, .int .u8 0, .int .u8 0, .int .u8 0, .int .u8 0, .int .u8 0, .int .u8 0, .int .u8 0, .int .u8 0, .int .u8 0, .int .u8 0, .int .u8 0, .int .u8 0, .int .u8 0, .int .u8 0, .int .u8 0, .int .u8 0, .int .u8 0, .int .u8 0, .int .u8 0, .int .u8 0, .int .u8 0, .int .u8 0, .int .u8 0]) b.toNat))))) := make_slice Try.underlying62 sz70 by70 ze70 ⟨by simp, by decide⟩
theorem bs62 : ∀ {len : Nat} {parts : List (Nat × AV)} {H : AH}, len * 66 ≤ 16777216 → buildSliceA Try.prog 62 len parts H = (fillA (fun i => some (i * 66, 66)) (zerosL ([.int .i64 0, .int .i64 0, .int .u8 0, .int .u8 0, .int .u8 0, .int .u8 0, .int .u8 0, .int .u8 0, .int .u8 0, .int .u8 0, .int .u8 0, .int .u8 0, .int .u8 0, .int .u8 0, .int .u8 0, .int .u8 0, .int .u8 0, .int .u8 0, .int .u8 0, .int .u8 0, .int .u8 0, .int .u8 0, .int .u8 0, .int .u8 0, .int .u8 0, .int .u8 0, .int .u8 0, .int .u8 0, .int .u8 0, .int .u8 0, .int .u8 0, .int .u8 0, .int .u8 0, .int .u8 0, .int .u8 0, .int .u8 0, .int .u8 0, .int .u8 0, .int .u8 0, .int .u8 0, .int .u8 0, .int .u8 0, .int .u8 0, .int .u8 0, .int .u8 0, .int .u8 0, .int .u8 0, .int .u8 0, .int .u8 0, .int .u8 0, .int .u8 0, .int .u8 0, .int .u8 0, .int .u8 0, .int .u8 0, .int .u8 0, .int .u8 0, .int .u8 0, .int .u8 0, .int .u8 0, .int .u8 0, .int .u8 0, .int .u8 0, .int .u8 0, .int .u8 0, .int .u8 0]) len) parts).map fun cells => (.slice ⟨false, H.n, 0⟩ len (.known len), H.push (some (.cells cells))) := fun h => build_lit Try.underlying62 sz70 ze70 ⟨by simp, by decide⟩ h
theorem ap62 : ∀ {s x : AV} {H : AH}, appendA Try.prog 62 62 s x H = (newsA H 66 x).bind fun kn => if kn.2.all oneA = true then appendTo 66 80 H kn.1 kn.2 s else none := app_slice Try.underlying62 sz70 by70 ze70 ⟨by simp, by decide⟩
theorem ai62_3 : ∀ {s : AV} {l : Int} {H : AH}, appendA Try.prog 62 3 s (.int .i64 l) H = gd (0 ≤ l ∧ l ≤ 140737488355328) (gdb ((repA ([.int .i64 0, .int .i64 0, .int .u8 0, .int .u8 0, .int .u8 0, .int .u8 0, .int .u8 0, .int .u8 0, .int .u8 0, .int .u8 0, .int .u8 0, .int .u8 0, .int .u8 0, .int .u8 0, .int .u8 0, .int .u8 0, .int .u8 0, .int .u8 0, .int .u8 0, .int .u8 0, .int .u8 0, .int .u8 0, .int .u8 0, .int .u8 0, .int .u8 0, .int .u8 0, .int .u8 0, .int .u8 0, .int .u8 0, .int .u8 0, .int .u8 0, .int .u8 0, .int .u8 0, .int .u8 0, .int .u8 0, .int .u8 0, .int .u8 0, .int .u8 0, .int .u8 0, .int .u8 0, .int .u8 0, .int .u8 0, .int .u8 0, .int .u8 0, .int .u8 0, .int .u8 0, .int .u8 0, .int .u8 0, .int .u8 0, .int .u8 0, .int .u8 0, .int .u8 0, .int .u8 0, .int .u8 0, .int .u8 0, .int .u8 0, .int .u8 0, .int .u8 0, .int .u8 0, .int .u8 0, .int .u8 0, .int .u8 0, .int .u8 0, .int .u8 0, .int .u8 0, .int .u8 0]) l.toNat).all oneA) (appendTo 66 80 H l.toNat (repA ([.int .i64 0, .int .i64 0, .int .u8 0, .int .u8 0, .int .u8 0, .int .u8 0, .int .u8 0, .int .u8 0, .int .u8 0, .int .u8 0, .int .u8 0, .int .u8 0, .int .u8 0, .int .u8 0, .int .u8 0, .int .u8 0, .int .u8 0, .int .u8 0, .int .u8 0, .int .u8 0, .int .u8 0, .int .u8 0, .int .u8 0, .int .u8 0, .int .u8 0, .int .u8 0, .int .u8 0, .int .u8 0, .int .u8 0, .int .u8 0, .int .u8 0, .int .u8 0, .int .u8 0, .int .u8 0, .int .u8 0, .int .u8 0, .int .u8 0, .int .u8 0, .int .u8 0, .int .u8 0, .int .u8 0, .int .u8 0, .int .u8 0, .int .u8 0, .int .u8 0, .int .u8 0, .int .u8 0, .int .u8 0, .int .u8 0, .int .u8 0, .int .u8 0, .int .u8 0, .int .u8 0, .int .u8 0, .int .u8 0, .int .u8 0, .int .u8 0, .int .u8 0, .int .u8 0, .int .u8 0, .int .u8 0, .int .u8 0, .int .u8 0, .int .u8 0, .int .u8 0, .int .u8 0]) l.toNat) s)) := app_int Try.underlying62 sz70 by70 ze70 ⟨by simp, by decide⟩ Try.underlying3
theorem ld63 : ∀ {p : AAddr} {H : AH}, loadA Try.prog 63 p H = (H.get p).bind fun cs => gd (p.off + 5 ≤ cs.length) (some (.agg ((cs.drop p.off).take 5))) := load_agg ag63 sz63
theorem pt63 : ∀ {cs : List AV} {o : Nat}, partA Try.prog 63 cs o = gd (o + 5 ≤ cs.length) (some (.agg ((cs.drop o).take 5))) := part_agg ag63 sz63
theorem ifc63 : ∀ {v : AV}, ifaceA Try.prog 63 v = some (.iface 63 v) := iface_of Try.underlying63 rfl
theorem ass63 : ∀ {ok : Bool} {v : AV}, assertA Try.prog 63 ok v = assertV (zeroV Try.prog 63) 63 ok v := assert_of Try.underlying63 rfl
theorem sta63 : ∀ {vs : List AV} {H : AH} {i o : Nat}, storeA Try.prog 63 ⟨false, i, o⟩ (.agg vs) H = gd (vs.length = 5) (gdb (vs.all oneA) ((H.cells? i).bind fun l0 => gd (o + 5 ≤ l0.length) (some (H.set i (some (.cells (putL l0 o vs))))))) := store_aggs (n := 4) sz63
theorem fa63_0 : ∀ {p : AAddr}, fieldAddrA Try.prog 63 (.ptr p) 0 = some (.ptr ⟨p.ro, p.blk, p.off + 0⟩) := fa_struct Try.underlying63 (ft := 3) (o := 0) rfl (m := 0) sz3
theorem fl63_0 : ∀ {cs : List AV}, fieldA Try.prog 63 (.agg cs) 0 = partA Try.prog 3 cs 0 := fl_struct Try.underlying63 (ft := 3) (o := 0) rfl
theorem fa63_1 : ∀ {p : AAddr}, fieldAddrA Try.prog 63 (.ptr p) 1 = some (.ptr ⟨p.ro, p.blk, p.off + 1⟩) := fa_struct Try.underlying63 (ft := 61) (o := 1) rfl (m := 0) sz61
theorem fl63_1 : ∀ {cs : List AV}, fieldA Try.prog 63 (.agg cs) 1 = partA Try.prog 61 cs 1 := fl_struct Try.underlying63 (ft := 61) (o := 1) rfl
theorem fa63_2 : ∀ {p : AAddr}, fieldAddrA Try.prog 63 (.ptr p) 2 = some (.ptr ⟨p.ro, p.blk, p.off + 2⟩) := fa_struct Try.underlying63 (ft := 62) (o := 2) rfl (m := 0) sz62
theorem fl63_2 : ∀ {cs : List AV}, fieldA Try.prog 63 (.agg cs) 2 = partA Try.prog 62 cs 2 := fl_struct Try.underlying63 (ft := 62) (o := 2) rfl
theorem fa63_3 : ∀ {p : AAddr}, fieldAddrA Try.prog 63 (.ptr p) 3 = some (.ptr ⟨p.ro, p.blk, p.off + 3⟩) := fa_struct Try.underlying63 (ft := 3) (o := 3) rfl (m := 0) sz3
theorem fl63_3 : ∀ {cs : List AV}, fieldA Try.prog 63 (.agg cs) 3 = partA Try.prog 3 cs 3 := fl_struct Try.underlying63 (ft := 3) (o := 3) rfl
theorem fa63_4 : ∀ {p : AAddr}, fieldAddrA Try.prog 63 (.ptr p) 4 = some (.ptr ⟨p.ro, p.blk, p.off + 4⟩) := fa_struct Try.underlying63 (ft := 4) (o := 4) rfl (m := 0) sz4
theorem fl63_4 : ∀ {cs : List AV}, fieldA Try.prog 63 (.agg cs) 4 = partA Try.prog 4 cs 4 := fl_struct Try.underlying63 (ft := 4) (o := 4) rfl
theorem ld64 : ∀ {p : AAddr} {H : AH}, loadA Try.prog 64 p H = (H.get p).bind fun cs => gd (p.off + 5 ≤ cs.length) (some (.agg ((cs.drop p.off).take 5))) := load_agg ag64 sz64
theorem pt64 : ∀ {cs : List AV} {o : Nat}, partA Try.prog 64 cs o = gd (o + 5 ≤ cs.length) (some (.agg ((cs.drop o).take 5))) := part_agg ag64 sz64
theorem ifc64 : ∀ {v : AV}, ifaceA Try.prog 64 v = some (.iface 64 v) := iface_of Try.underlying64 rfl
theorem ass64 : ∀ {ok : Bool} {v : AV}, assertA Try.prog 64 ok v = assertV (zeroV Try.prog 64) 64 ok v := assert_of Try.underlying64 rfl
theorem sta64 : ∀ {vs : List AV} {H : AH} {i o : Nat}, storeA Try.prog 64 ⟨false, i, o⟩ (.agg vs) H = gd (vs.length = 5) (gdb (vs.all oneA) ((H.cells? i).bind fun l0 => gd (o + 5 ≤ l0.length) (some (H.set i (some (.cells (putL l0 o vs))))))) := store_aggs (n := 4) sz64
theorem fa64_0 : ∀ {p : AAddr}, fieldAddrA Try.prog 64 (.ptr p) 0 = some (.ptr ⟨p.ro, p.blk, p.off + 0⟩) := fa_struct Try.underlying64 (ft := 3) (o := 0) rfl (m := 0) sz3
theorem fl64_0 : ∀ {cs : List AV}, fieldA Try.prog 64 (.agg cs) 0 = partA Try.prog 3 cs 0 := fl_struct Try.underlying64 (ft := 3) (o := 0) rfl
theorem fa64_1 : ∀ {p : AAddr}, fieldAddrA Try.prog 64 (.ptr p) 1 = some (.ptr ⟨p.ro, p.blk, p.off + 1⟩) := fa_struct Try.underlying64 (ft := 61) (o := 1) rfl (m := 0) sz61
theorem fl64_1 : ∀ {cs : List AV}, fieldA Try.prog 64 (.agg cs) 1 = partA Try.prog 61 cs 1 := fl_struct Try.underlying64 (ft := 61) (o := 1) rfl
theorem fa64_2 : ∀ {p : AAddr}, fieldAddrA Try.prog 64 (.ptr p) 2 = some (.ptr ⟨p.ro, p.blk, p.off + 2⟩) := fa_struct Try.underlying64 (ft := 62) (o := 2) rfl (m := 0) sz62
theorem fl64_2 : ∀ {cs : List AV}, fieldA Try.prog 64 (.agg cs) 2 = partA Try.prog 62 cs 2 := fl_struct Try.underlying64 (ft := 62) (o := 2) rfl
theorem fa64_3 : ∀ {p : AAddr}, fieldAddrA Try.prog 64 (.ptr p) 3 = some (.ptr ⟨p.ro, p.blk, p.off + 3⟩) := fa_struct Try.underlying64 (ft := 3) (o := 3) rfl (m := 0) sz3
theorem fl64_3 : ∀ {cs : List AV}, fieldA Try.prog 64 (.agg cs) 3 = partA Try.prog 3 cs 3 := fl_struct Try.underlying64 (ft := 3) (o := 3) rfl
theorem fa64_4 : ∀ {p : AAddr}, fieldAddrA Try.prog 64 (.ptr p) 4 = some (.ptr ⟨p.ro, p.blk, p.off + 4⟩) := fa_struct Try.underlying64 (ft := 4) (o := 4) rfl (m := 0) sz4
theorem fl64_4 : ∀ {cs : List AV}, fieldA Try.prog 64 (.agg cs) 4 = partA Try.prog 4 cs 4 := fl_struct Try.underlying64 (ft := 4) (o := 4) rfl
theorem ld65 : ∀ {p : AAddr} {H : AH}, loadA Try.prog 65 p H = (H.get p).bind fun cs => cs[p.off]? := load_cell ag65
theorem pt65 : ∀ {cs : List AV} {o : Nat}, partA Try.prog 65 cs o = cs[o]? := part_cell ag65
theorem st65_0 : ∀ {a : AAddr} {n : Nat} {c : Cap} {H : AH} {i o : Nat}, storeA Try.prog 65 ⟨false, i, o⟩ (.slice a n c) H = (H.cells? i).bind fun l => gd (o < l.length) (some (H.set i (some (.cells (l.set o (.slice a n c)))))) := store_cell sz65 rfl
theorem st65_1 : ∀  {H : AH} {i o : Nat}, storeA Try.prog 65 ⟨false, i, o⟩ .nilslice H = (H.cells? i).bind fun l => gd (o < l.length) (some (H.set i (some (.cells (l.set o .nilslice))))) := store_cell sz65 rfl
theorem ifc65 : ∀ {v : AV}, ifaceA Try.prog 65 v = some (.iface 65 v) := iface_of Try.underlying65 rfl
theorem ass65 : ∀ {ok : Bool} {v : AV}, assertA Try.prog 65 ok v = assertV (zeroV Try.prog 65) 65 ok v := assert_of Try.underlying65 rfl
theorem ll65 : ∀ {p : AAddr} {n : Nat} {c : Cap}, lenA Try.prog 65 (.slice p n c) = some (.int .i64 n) := len_slice Try.underlying65
theorem ln65 : lenA Try.prog 65 .nilslice = some (.int .i64 0) := len_nil Try.underlying65
theorem ia65 : ∀ {p : AAddr} {n : Nat} {c : Cap} {k : IntKind} {a : Int}, indexAddrA Try.prog 65 (.slice p n c) (.int k a) = gd (0 ≤ a ∧ a < n) (some (.ptr ⟨p.ro, p.blk, p.off + a.toNat * 64⟩)) := ixa_slice Try.underlying65 sz68
theorem sk65 : ∀ {p : AAddr} {n c : Nat} {lo hi mx : Option AV}, sliceOpA Try.prog 65 (.slice p n (.known c)) lo hi mx = cutKnown p 64 n c lo hi mx := slc_known Try.underlying65 sz68
theorem sg65 : ∀ {p : AAddr} {n : Nat} {lo hi : Option AV}, sliceOpA Try.prog 65 (.slice p n (.grow 64)) lo hi none = if p.ro = false then (optB hi n n).bind fun h => (optB lo h 0).map fun l => .slice ⟨false, p.blk, p.off + l * 64⟩ (h - l) (.grow 64) else none := slc_grow Try.underlying65 sz68
theorem sn65 : ∀ {lo hi : Option AV}, sliceOpA Try.prog 65 .nilslice lo hi none = (optB hi 0 0).bind fun h => (optB lo h 0).map fun _ => .nilslice := slc_nil Try.underlying65 sz68
theorem ens65 : ∀ {p : AAddr} {n : Nat} {c : Cap}, binA Try.prog .eql 65 (.slice p n c) .nilslice = if sureSlice n c then some (.bool false) else none := eq_nil_slice Try.underlying65
theorem nns65 : ∀ {p : AAddr} {n : Nat} {c : Cap}, binA Try.prog .neq 65 (.slice p n c) .nilslice = if sureSlice n c then some (.bool true) else none := ne_nil_slice Try.underlying65
theorem enn65 : binA Try.prog .eql 65 .nilslice .nilslice = some (.bool true) := eq_nil_nil Try.underlying65
theorem nnn65 : binA Try.prog .neq 65 .nilslice .nilslice = some (.bool false) := ne_nil_nil Try.underlying65
theorem cp65 : ∀ {p : AAddr} {n : Nat} {c : Cap} {x : AV} {H : AH}, copyA Try.prog 65 (.slice p n c) x H = (newsA H 64 x).bind fun kn => if p.ro = false ∧ (H.cells? p.blk).isSome then (storeCellsA H p.blk p.off (kn.2.take (min kn.1 n * 64))).map fun H1 => (.int .i64 (min kn.1 n : Nat), H1) else none := copy_slice Try.underlying65 sz68
theorem cn65 : ∀ {x : AV} {H : AH}, copyA Try.prog 65 .nilslice x H = (newsA H 64 x).bind fun kn => some (.int .i64 0, H) := copy_nil Try.underlying65 sz68
theorem mk65 : ∀ {k k1 : IntKind} {a b : Int} {H : AH}, makeSliceA Try.prog 65 (.int k a) (.int k1 b) H = gd (0 ≤ a ∧ a ≤ b ∧ b ≤ 140737488355328 ∧ b * (64 : Nat) ≤ 140737488355328) (some (.slice ⟨false, H.n, 0⟩ a.toNat (.known b.toNat), H.push (some (.cells (repA (List.replicate 64 (.int .u8 0)) b.toNat))))) := make_slice Try.underlying65 sz68 by68 ze68 ⟨by simp, by decide⟩
theorem bs65 : ∀ {len : Nat} {parts : List (Nat × AV)} {H : AH}, len * 64 ≤ 16777216 → buildSliceA Try.prog 65 len parts H = (fillA (fun i => some (i * 64, 64)) (zerosL (List.replicate 64 (.int .u8 0)) len) parts).map fun cells => (.slice ⟨false, H.n, 0⟩ len (.known len), H.push (some (.cells cells))) := fun h => build_lit Try.underlying65 sz68 ze68 ⟨by simp, by decide⟩ h
theorem ap65 : ∀ {s x : AV} {H : AH}, appendA Try.prog 65 65 s x H = (newsA H 64 x).bind fun kn => if kn.2.all oneA = true then appendTo 64 64 H kn.1 kn.2 s else none := app_slice Try.underlying65 sz68 by68 ze68 ⟨by simp, by decide⟩
theorem ai65_3 : ∀ {s : AV} {l : Int} {H : AH}, appendA Try.prog 65 3 s (.int .i64 l) H = gd (0 ≤ l ∧ l ≤ 140737488355328) (gdb ((repA (List.replicate 64 (.int .u8 0)) l.toNat).all oneA) (appendTo 64 64 H l.toNat (repA (List.replicate 64 (.int .u8 0)) l.toNat) s)) := app_int Try.underlying65 sz68 by68 ze68 ⟨by simp, by decide⟩ Try.underlying3
theorem ld67 : ∀ {p : AAddr} {H : AH}, loadA Try.prog 67 p H = (H.get p).bind fun cs => gd (p.off + 64 ≤ cs.length) (some (.agg ((cs.drop p.off).take 64))) := load_agg ag67 sz67
theorem pt67 : ∀ {cs : List AV} {o : Nat}, partA Try.prog 67 cs o = gd (o + 64 ≤ cs.length) (some (.agg ((cs.drop o).take 64))) := part_agg ag67 sz67
theorem ifc67 : ∀ {v : AV}, ifaceA Try.prog 67 v = some (.iface 67 v) := iface_of Try.underlying67 rfl
theorem ass67 : ∀ {ok : Bool} {v : AV}, assertA Try.prog 67 ok v = assertV (zeroV Try.prog 67) 67 ok v := assert_of Try.underlying67 rfl
theorem sta67 : ∀ {vs : List AV} {H : AH} {i o : Nat}, storeA Try.prog 67 ⟨false, i, o⟩ (.agg vs) H = gd (vs.length = 64) (gdb (vs.all oneA) ((H.cells? i).bind fun l0 => gd (o + 64 ≤ l0.length) (some (H.set i (some (.cells (putL l0 o vs))))))) := store_aggs (n := 63) sz67
theorem la67 : ∀ {v : AV}, lenA Try.prog 67 v = some (.int .i64 64) := len_arr Try.underlying67
theorem ia67 : ∀ {p : AAddr} {k : IntKind} {a : Int}, indexAddrA Try.prog 67 (.ptr p) (.int k a) = gd (0 ≤ a ∧ a < (64 : Nat)) (some (.ptr ⟨p.ro, p.blk, p.off + a.toNat * 1⟩)) := ixa_arr Try.underlying67 sz5
theorem xa67 : ∀ {cs : List AV} {k : IntKind} {a : Int}, indexA Try.prog 67 (.agg cs) (.int k a) = gd (0 ≤ a ∧ a < (64 : Nat)) (partA Try.prog 5 cs (a.toNat * 1)) := ix_arr Try.underlying67 sz5
theorem sa67 : ∀ {p : AAddr} {lo hi mx : Option AV}, sliceOpA Try.prog 67 (.ptr p) lo hi mx = cutKnown p 1 64 64 lo hi mx := slc_arr Try.underlying67 sz5
theorem ld68 : ∀ {p : AAddr} {H : AH}, loadA Try.prog 68 p H = (H.get p).bind fun cs => gd (p.off + 64 ≤ cs.length) (some (.agg ((cs.drop p.off).take 64))) := load_agg ag68 sz68
theorem pt68 : ∀ {cs : List AV} {o : Nat}, partA Try.prog 68 cs o = gd (o + 64 ≤ cs.length) (some (.agg ((cs.drop o).take 64))) := part_agg ag68 sz68
theorem ifc68 : ∀ {v : AV}, ifaceA Try.prog 68 v = some (.iface 68 v) := iface_of Try.underlying68 rfl
theorem ass68 : ∀ {ok : Bool} {v : AV}, assertA Try.prog 68 ok v = assertV (zeroV Try.prog 68) 68 ok v := assert_of Try.underlying68 rfl
theorem sta68 : ∀ {vs : List AV} {H : AH} {i o : Nat}, storeA Try.prog 68 ⟨false, i, o⟩ (.agg vs) H = gd (vs.length = 64) (gdb (vs.all oneA) ((H.cells? i).bind fun l0 => gd (o + 64 ≤ l0.length) (some (H.set i (some (.cells (putL l0 o vs))))))) := store_aggs (n := 63) sz68
theorem la68 : ∀ {v : AV}, lenA Try.prog 68 v = some (.int .i64 64) := len_arr Try.underlying68
theorem ia68 : ∀ {p : AAddr} {k : IntKind} {a : Int}, indexAddrA Try.prog 68 (.ptr p) (.int k a) = gd (0 ≤ a ∧ a < (64 : Nat)) (some (.ptr ⟨p.ro, p.blk, p.off + a.toNat * 1⟩)) := ixa_arr Try.underlying68 sz5
theorem xa68 : ∀ {cs : List AV} {k : IntKind} {a : Int}, indexA Try.prog 68 (.agg cs) (.int k a) = gd (0 ≤ a ∧ a < (64 : Nat)) (partA Try.prog 5 cs (a.toNat * 1)) := ix_arr Try.underlying68 sz5
theorem sa68 : ∀ {p : AAddr} {lo hi mx : Option AV}, sliceOpA Try.prog 68 (.ptr p) lo hi mx = cutKnown p 1 64 64 lo hi mx := slc_arr Try.underlying68 sz5
theorem ld69 : ∀ {p : AAddr} {H : AH}, loadA Try.prog 69 p H = (H.get p).bind fun cs => gd (p.off + 66 ≤ cs.length) (some (.agg ((cs.drop p.off).take 66))) := load_agg ag69 sz69
theorem pt69 : ∀ {cs : List AV} {o : Nat}, partA Try.prog 69 cs o = gd (o + 66 ≤ cs.length) (some (.agg ((cs.drop o).take 66))) := part_agg ag69 sz69
theorem ifc69 : ∀ {v : AV}, ifaceA Try.prog 69 v = some (.iface 69 v) := iface_of Try.underlying69 rfl
theorem ass69 : ∀ {ok : Bool} {v : AV}, assertA Try.prog 69 ok v = assertV (zeroV Try.prog 69) 69 ok v := assert_of Try.underlying69 rfl
theorem sta69 : ∀ {vs : List AV} {H : AH} {i o : Nat}, storeA Try.prog 69 ⟨false, i, o⟩ (.agg vs) H = gd (vs.length = 66) (gdb (vs.all oneA) ((H.cells? i).bind fun l0 => gd (o + 66 ≤ l0.length) (some (H.set i (some (.cells (putL l0 o vs))))))) := store_aggs (n := 65) sz69
theorem fa69_0 : ∀ {p : AAddr}, fieldAddrA Try.prog 69 (.ptr p) 0 = some (.ptr ⟨p.ro, p.blk, p.off + 0⟩) := fa_struct Try.underlying69 (ft := 3) (o := 0) rfl (m := 0) sz3
theorem fl69_0 : ∀ {cs : List AV}, fieldA Try.prog 69 (.agg cs) 0 = partA Try.prog 3 cs 0 := fl_struct Try.underlying69 (ft := 3) (o := 0) rfl
theorem fa69_1 : ∀ {p : AAddr}, fieldAddrA Try.prog 69 (.ptr p) 1 = some (.ptr ⟨p.ro, p.blk, p.off + 1⟩) := fa_struct Try.underlying69 (ft := 3) (o := 1) rfl (m := 0) sz3
theorem fl69_1 : ∀ {cs : List AV}, fieldA Try.prog 69 (.agg cs) 1 = partA Try.prog 3 cs 1 := fl_struct Try.underlying69 (ft := 3) (o := 1) rfl
theorem fa69_2 : ∀ {p : AAddr}, fieldAddrA Try.prog 69 (.ptr p) 2 = some (.ptr ⟨p.ro, p.blk, p.off + 2⟩) := fa_struct Try.underlying69 (ft := 68) (o := 2) rfl (m := 63) sz68
theorem fl69_2 : ∀ {cs : List AV}, fieldA Try.prog 69 (.agg cs) 2 = partA Try.prog 68 cs 2 := fl_struct Try.underlying69 (ft := 68) (o := 2) rfl
theorem ld70 : ∀ {p : AAddr} {H : AH}, loadA Try.prog 70 p H = (H.get p).bind fun cs => gd (p.off + 66 ≤ cs.length) (some (.agg ((cs.drop p.off).take 66))) := load_agg ag70 sz70
theorem pt70 : ∀ {cs : List AV} {o : Nat}, partA Try.prog 70 cs o = gd (o + 66 ≤ cs.length) (some (.agg ((cs.drop o).take 66))) := part_agg ag70 sz70
theorem ifc70 : ∀ {v : AV}, ifaceA Try.prog 70 v = some (.iface 70 v) := iface_of Try.underlying70 rfl
theorem ass70 : ∀ {ok : Bool} {v : AV}, assertA Try.prog 70 ok v = assertV (zeroV Try.prog 70) 70 ok v := assert_of Try.underlying70 rfl
theorem sta70 : ∀ {vs : List AV} {H : AH} {i o : Nat}, storeA Try.prog 70 ⟨false, i, o⟩ (.agg vs) H = gd (vs.length = 66) (gdb (vs.all oneA) ((H.cells? i).bind fun l0 => gd (o + 66 ≤ l0.length) (some (H.set i (some (.cells (putL l0 o vs))))))) := store_aggs (n := 65) sz70
theorem fa70_0 : ∀ {p : AAddr}, fieldAddrA Try.prog 70 (.ptr p) 0 = some (.ptr ⟨p.ro, p.blk, p.off + 0⟩) := fa_struct Try.underlying70 (ft := 3) (o := 0) rfl (m := 0) sz3
theorem fl70_0 : ∀ {cs : List AV}, fieldA Try.prog 70 (.agg cs) 0 = partA Try.prog 3 cs 0 := fl_struct Try.underlying70 (ft := 3) (o := 0) rfl
theorem fa70_1 : ∀ {p : AAddr}, fieldAddrA Try.prog 70 (.ptr p) 1 = some (.ptr ⟨p.ro, p.blk, p.off + 1⟩) := fa_struct Try.underlying70 (ft := 3) (o := 1) rfl (m := 0) sz3
theorem fl70_1 : ∀ {cs : List AV}, fieldA Try.prog 70 (.agg cs) 1 = partA Try.prog 3 cs 1 := fl_struct Try.underlying70 (ft := 3) (o := 1) rfl
theorem fa70_2 : ∀ {p : AAddr}, fieldAddrA Try.prog 70 (.ptr p) 2 = some (.ptr ⟨p.ro, p.blk, p.off + 2⟩) := fa_struct Try.underlying70 (ft := 68) (o := 2) rfl (m := 63) sz68
theorem fl70_2 : ∀ {cs : List AV}, fieldA Try.prog 70 (.agg cs) 2 = partA Try.prog 68 cs 2 := fl_struct Try.underlying70 (ft := 68) (o := 2) rfl
theorem ld75 : ∀ {p : AAddr} {H : AH}, loadA Try.prog 75 p H = (H.get p).bind fun cs => cs[p.off]? := load_cell ag75
theorem pt75 : ∀ {cs : List AV} {o : Nat}, partA Try.prog 75 cs o = cs[o]? := part_cell ag75
theorem st75_0 : ∀ {a : AAddr} {n : Nat} {c : Cap} {H : AH} {i o : Nat}, storeA Try.prog 75 ⟨false, i, o⟩ (.slice a n c) H = (H.cells? i).bind fun l => gd (o < l.length) (some (H.set i (some (.cells (l.set o (.slice a n c)))))) := store_cell sz75 rfl
theorem st75_1 : ∀  {H : AH} {i o : Nat}, storeA Try.prog 75 ⟨false, i, o⟩ .nilslice H = (H.cells? i).bind fun l => gd (o < l.length) (some (H.set i (some (.cells (l.set o .nilslice))))) := store_cell sz75 rfl
theorem ifc75 : ∀ {v : AV}, ifaceA Try.prog 75 v = some (.iface 75 v) := iface_of Try.underlying75 rfl
theorem ass75 : ∀ {ok : Bool} {v : AV}, assertA Try.prog 75 ok v = assertV (zeroV Try.prog 75) 75 ok v := assert_of Try.underlying75 rfl
theorem ll75 : ∀ {p : AAddr} {n : Nat} {c : Cap}, lenA Try.prog 75 (.slice p n c) = some (.int .i64 n) := len_slice Try.underlying75
theorem ln75 : lenA Try.prog 75 .nilslice = some (.int .i64 0) := len_nil Try.underlying75
theorem ia75 : ∀ {p : AAddr} {n : Nat} {c : Cap} {k : IntKind} {a : Int}, indexAddrA Try.prog 75 (.slice p n c) (.int k a) = gd (0 ≤ a ∧ a < n) (some (.ptr ⟨p.ro, p.blk, p.off + a.toNat * 2⟩)) := ixa_slice Try.underlying75 sz81
theorem sk75 : ∀ {p : AAddr} {n c : Nat} {lo hi mx : Option AV}, sliceOpA Try.prog 75 (.slice p n (.known c)) lo hi mx = cutKnown p 2 n c lo hi mx := slc_known Try.underlying75 sz81
theorem sg75 : ∀ {p : AAddr} {n : Nat} {lo hi : Option AV}, sliceOpA Try.prog 75 (.slice p n (.grow 2)) lo hi none = if p.ro = false then (optB hi n n).bind fun h => (optB lo h 0).map fun l => .slice ⟨false, p.blk, p.off + l * 2⟩ (h - l) (.grow 2) else none := slc_grow Try.underlying75 sz81
theorem sn75 : ∀ {lo hi : Option AV}, sliceOpA Try.prog 75 .nilslice lo hi none = (optB hi 0 0).bind fun h => (optB lo h 0).map fun _ => .nilslice := slc_nil Try.underlying75 sz81
theorem ens75 : ∀ {p : AAddr} {n : Nat} {c : Cap}, binA Try.prog .eql 75 (.slice p n c) .nilslice = if sureSlice n c then some (.bool false) else none := eq_nil_slice Try.underlying75
theorem nns75 : ∀ {p : AAddr} {n : Nat} {c : Cap}, binA Try.prog .neq 75 (.slice p n c) .nilslice = if sureSlice n c then some (.bool true) else none := ne_nil_slice Try.underlying75
theorem enn75 : binA Try.prog .eql 75 .nilslice .nilslice = some (.bool true) := eq_nil_nil Try.underlying75
theorem nnn75 : binA Try.prog .neq 75 .nilslice .nilslice = some (.bool false) := ne_nil_nil Try.underlying75
theorem cp75 : ∀ {p : AAddr} {n : Nat} {c : Cap} {x : AV} {H : AH}, copyA Try.prog 75 (.slice p n c) x H = (newsA H 2 x).bind fun kn => if p.ro = false ∧ (H.cells? p.blk).isSome then (storeCellsA H p.blk p.off (kn.2.take (min kn.1 n * 2))).map fun H1 => (.int .i64 (min kn.1 n : Nat), H1) else none := copy_slice Try.underlying75 sz81
theorem cn75 : ∀ {x : AV} {H : AH}, copyA Try.prog 75 .nilslice x H = (newsA H 2 x).bind fun kn => some (.int .i64 0, H) := copy_nil Try.underlying75 sz81
theorem mk75 : ∀ {k k1 : IntKind} {a b : Int} {H : AH}, makeSliceA Try.prog 75 (.int k a) (.int k1 b) H = gd (0 ≤ a ∧ a ≤ b ∧ b ≤ 140737488355328 ∧ b * (32 : Nat) ≤ 140737488355328) (some (.slice ⟨false, H.n, 0⟩ a.toNat (.known b.toNat), H.push (some (.cells (repA ([.nilslice, .bool false]) b.toNat))))) := make_slice Try.underlying75 sz81 by81 ze81 ⟨by simp, by decide⟩
theorem bs75 : ∀ {len : Nat} {parts : List (Nat × AV)} {H : AH}, len * 2 ≤ 16777216 → buildSliceA Try.prog 75 len parts H = (fillA (fun i => some (i * 2, 2)) (zerosL ([.nilslice, .bool false]) len) parts).map fun cells => (.slice ⟨false, H.n, 0⟩ len (.known len), H.push (some (.cells cells))) := fun h => build_lit Try.underlying75 sz81 ze81 ⟨by simp, by decide⟩ h
theorem ap75 : ∀ {s x : AV} {H : AH}, appendA Try.prog 75 75 s x H = (newsA H 2 x).bind fun kn => if kn.2.all oneA = true then appendTo 2 32 H kn.1 kn.2 s else none := app_slice Try.underlying75 sz81 by81 ze81 ⟨by simp, by decide⟩
theorem ai75_3 : ∀ {s : AV} {l : Int} {H : AH}, appendA Try.prog 75 3 s (.int .i64 l) H = gd (0 ≤ l ∧ l ≤ 140737488355328) (gdb ((repA ([.nilslice, .bool false]) l.toNat).all oneA) (appendTo 2 32 H l.toNat (repA ([.nilslice, .bool false]) l.toNat) s)) := app_int Try.underlying75 sz81 by81 ze81 ⟨by simp, by decide⟩ Try.underlying3
theorem ld76 : ∀ {p : AAddr} {H : AH}, loadA Try.prog 76 p H = (H.get p).bind fun cs => cs[p.off]? := load_cell ag76
theorem pt76 : ∀ {cs : List AV} {o : Nat}, partA Try.prog 76 cs o = cs[o]? := part_cell ag76
theorem st76_0 : ∀ {a : AAddr} {n : Nat} {c : Cap} {H : AH} {i o : Nat}, storeA Try.prog 76 ⟨false, i, o⟩ (.slice a n c) H = (H.cells? i).bind fun l => gd (o < l.length) (some (H.set i (some (.cells (l.set o (.slice a n c)))))) := store_cell sz76 rfl
theorem st76_1 : ∀  {H : AH} {i o : Nat}, storeA Try.prog 76 ⟨false, i, o⟩ .nilslice H = (H.cells? i).bind fun l => gd (o < l.length) (some (H.set i (some (.cells (l.set o .nilslice))))) := store_cell sz76 rfl
theorem ifc76 : ∀ {v : AV}, ifaceA Try.prog 76 v = some (.iface 76 v) := iface_of Try.underlying76 rfl
theorem ass76 : ∀ {ok : Bool} {v : AV}, assertA Try.prog 76 ok v = assertV (zeroV Try.prog 76) 76 ok v := assert_of Try.underlying76 rfl
theorem ll76 : ∀ {p : AAddr} {n : Nat} {c : Cap}, lenA Try.prog 76 (.slice p n c) = some (.int .i64 n) := len_slice Try.underlying76
theorem ln76 : lenA Try.prog 76 .nilslice = some (.int .i64 0) := len_nil Try.underlying76
theorem ia76 : ∀ {p : AAddr} {n : Nat} {c : Cap} {k : IntKind} {a : Int}, indexAddrA Try.prog 76 (.slice p n c) (.int k a) = gd (0 ≤ a ∧ a < n) (some (.ptr ⟨p.ro, p.blk, p.off + a.toNat * 3⟩)) := ixa_slice Try.underlying76 sz85
theorem sk76 : ∀ {p : AAddr} {n c : Nat} {lo hi mx : Option AV}, sliceOpA Try.prog 76 (.slice p n (.known c)) lo hi mx = cutKnown p 3 n c lo hi mx := slc_known Try.underlying76 sz85
theorem sg76 : ∀ {p : AAddr} {n : Nat} {lo hi : Option AV}, sliceOpA Try.prog 76 (.slice p n (.grow 3)) lo hi none = if p.ro = false then (optB hi n n).bind fun h => (optB lo h 0).map fun l => .slice ⟨false, p.blk, p.off + l * 3⟩ (h - l) (.grow 3) else none := slc_grow Try.underlying76 sz85
theorem sn76 : ∀ {lo hi : Option AV}, sliceOpA Try.prog 76 .nilslice lo hi none = (optB hi 0 0).bind fun h => (optB lo h 0).map fun _ => .nilslice := slc_nil Try.underlying76 sz85
theorem ens76 : ∀ {p : AAddr} {n : Nat} {c : Cap}, binA Try.prog .eql 76 (.slice p n c) .nilslice = if sureSlice n c then some (.bool false) else none := eq_nil_slice Try.underlying76
theorem nns76 : ∀ {p : AAddr} {n : Nat} {c : Cap}, binA Try.prog .neq 76 (.slice p n c) .nilslice = if sureSlice n c then some (.bool true) else none := ne_nil_slice Try.underlying76
theorem enn76 : binA Try.prog .eql 76 .nilslice .nilslice = some (.bool true) := eq_nil_nil Try.underlying76
theorem nnn76 : binA Try.prog .neq 76 .nilslice .nilslice = some (.bool false) := ne_nil_nil Try.underlying76
theorem cp76 : ∀ {p : AAddr} {n : Nat} {c : Cap} {x : AV} {H : AH}, copyA Try.prog 76 (.slice p n c) x H = (newsA H 3 x).bind fun kn => if p.ro = false ∧ (H.cells? p.blk).isSome then (storeCellsA H p.blk p.off (kn.2.take (min kn.1 n * 3))).map fun H1 => (.int .i64 (min kn.1 n : Nat), H1) else none := copy_slice Try.underlying76 sz85
theorem cn76 : ∀ {x : AV} {H : AH}, copyA Try.prog 76 .nilslice x H = (newsA H 3 x).bind fun kn => some (.int .i64 0, H) := copy_nil Try.underlying76 sz85
theorem mk76 : ∀ {k k1 : IntKind} {a b : Int} {H : AH}, makeSliceA Try.prog 76 (.int k a) (.int k1 b) H = gd (0 ≤ a ∧ a ≤ b ∧ b ≤ 140737488355328 ∧ b * (40 : Nat) ≤ 140737488355328) (some (.slice ⟨false, H.n, 0⟩ a.toNat (.known b.toNat), H.push (some (.cells (repA ([.int .i64 0, .int .i64 0, .nilslice]) b.toNat))))) := make_slice Try.underlying76 sz85 by85 ze85 ⟨by simp, by decide⟩
theorem bs76 : ∀ {len : Nat} {parts : List (Nat × AV)} {H : AH}, len * 3 ≤ 16777216 → buildSliceA Try.prog 76 len parts H = (fillA (fun i => some (i * 3, 3)) (zerosL ([.int .i64 0, .int .i64 0, .nilslice]) len) parts).map fun cells => (.slice ⟨false, H.n, 0⟩ len (.known len), H.push (some (.cells cells))) := fun h => build_lit Try.underlying76 sz85 ze85 ⟨by simp, by decide⟩ h
theorem ap76 : ∀ {s x : AV} {H : AH}, appendA Try.prog 76 76 s x H = (newsA H 3 x).bind fun kn => if kn.2.all oneA = true then appendTo 3 40 H kn.1 kn.2 s else none := app_slice Try.underlying76 sz85 by85 ze85 ⟨by simp, by decide⟩
theorem ai76_3 : ∀ {s : AV} {l : Int} {H : AH}, appendA Try.prog 76 3 s (.int .i64 l) H = gd (0 ≤ l ∧ l ≤ 140737488355328) (gdb ((repA ([.int .i64 0, .int .i64 0, .nilslice]) l.toNat).all oneA) (appendTo 3 40 H l.toNat (repA ([.int .i64 0, .int .i64 0, .nilslice]) l.toNat) s)) := app_int Try.underlying76 sz85 by85 ze85 ⟨by simp, by decide⟩ Try.underlying3
theorem ld77 : ∀ {p : AAddr} {H : AH}, loadA Try.prog 77 p H = (H.get p).bind fun cs => gd (p.off + 5 ≤ cs.length) (some (.agg ((cs.drop p.off).take 5))) := load_agg ag77 sz77
theorem pt77 : ∀ {cs : List AV} {o : Nat}, partA Try.prog 77 cs o = gd (o + 5 ≤ cs.length) (some (.agg ((cs.drop o).take 5))) := part_agg ag77 sz77
theorem ifc77 : ∀ {v : AV}, ifaceA Try.prog 77 v = some (.iface 77 v) := iface_of Try.underlying77 rfl
theorem ass77 : ∀ {ok : Bool} {v : AV}, assertA Try.prog 77 ok v = assertV (zeroV Try.prog 77) 77 ok v := assert_of Try.underlying77 rfl
theorem sta77 : ∀ {vs : List AV} {H : AH} {i o : Nat}, storeA Try.prog 77 ⟨false, i, o⟩ (.agg vs) H = gd (vs.length = 5) (gdb (vs.all oneA) ((H.cells? i).bind fun l0 => gd (o + 5 ≤ l0.length) (some (H.set i (some (.cells (putL l0 o vs))))))) := store_aggs (n := 4) sz77
theorem fa77_0 : ∀ {p : AAddr}, fieldAddrA Try.prog 77 (.ptr p) 0 = some (.ptr ⟨p.ro, p.blk, p.off + 0⟩) := fa_struct Try.underlying77 (ft := 75) (o := 0) rfl (m := 0) sz75
theorem fl77_0 : ∀ {cs : List AV}, fieldA Try.prog 77 (.agg cs) 0 = partA Try.prog 75 cs 0 := fl_struct Try.underlying77 (ft := 75) (o := 0) rfl
theorem fa77_1 : ∀ {p : AAddr}, fieldAddrA Try.prog 77 (.ptr p) 1 = some (.ptr ⟨p.ro, p.blk, p.off + 1⟩) := fa_struct Try.underlying77 (ft := 3) (o := 1) rfl (m := 0) sz3
theorem fl77_1 : ∀ {cs : List AV}, fieldA Try.prog 77 (.agg cs) 1 = partA Try.prog 3 cs 1 := fl_struct Try.underlying77 (ft := 3) (o := 1) rfl
theorem fa77_2 : ∀ {p : AAddr}, fieldAddrA Try.prog 77 (.ptr p) 2 = some (.ptr ⟨p.ro, p.blk, p.off + 2⟩) := fa_struct Try.underlying77 (ft := 76) (o := 2) rfl (m := 0) sz76
theorem fl77_2 : ∀ {cs : List AV}, fieldA Try.prog 77 (.agg cs) 2 = partA Try.prog 76 cs 2 := fl_struct Try.underlying77 (ft := 76) (o := 2) rfl
theorem fa77_3 : ∀ {p : AAddr}, fieldAddrA Try.prog 77 (.ptr p) 3 = some (.ptr ⟨p.ro, p.blk, p.off + 3⟩) := fa_struct Try.underlying77 (ft := 3) (o := 3) rfl (m := 0) sz3
theorem fl77_3 : ∀ {cs : List AV}, fieldA Try.prog 77 (.agg cs) 3 = partA Try.prog 3 cs 3 := fl_struct Try.underlying77 (ft := 3) (o := 3) rfl
theorem fa77_4 : ∀ {p : AAddr}, fieldAddrA Try.prog 77 (.ptr p) 4 = some (.ptr ⟨p.ro, p.blk, p.off + 4⟩) := fa_struct Try.underlying77 (ft := 4) (o := 4) rfl (m := 0) sz4
theorem fl77_4 : ∀ {cs : List AV}, fieldA Try.prog 77 (.agg cs) 4 = partA Try.prog 4 cs 4 := fl_struct Try.underlying77 (ft := 4) (o := 4) rfl
theorem ld78 : ∀ {p : AAddr} {H : AH}, loadA Try.prog 78 p H = (H.get p).bind fun cs => gd (p.off + 5 ≤ cs.length) (some (.agg ((cs.drop p.off).take 5))) := load_agg ag78 sz78
theorem pt78 : ∀ {cs : List AV} {o : Nat}, partA Try.prog 78 cs o = gd (o + 5 ≤ cs.length) (some (.agg ((cs.drop o).take 5))) := part_agg ag78 sz78
theorem ifc78 : ∀ {v : AV}, ifaceA Try.prog 78 v = some (.iface 78 v) := iface_of Try.underlying78 rfl
theorem ass78 : ∀ {ok : Bool} {v : AV}, assertA Try.prog 78 ok v = assertV (zeroV Try.prog 78) 78 ok v := assert_of Try.underlying78 rfl
theorem sta78 : ∀ {vs : List AV} {H : AH} {i o : Nat}, storeA Try.prog 78 ⟨false, i, o⟩ (.agg vs) H = gd (vs.length = 5) (gdb (vs.all oneA) ((H.cells? i).bind fun l0 => gd (o + 5 ≤ l0.length) (some (H.set i (some (.cells (putL l0 o vs))))))) := store_aggs (n := 4) sz78
theorem fa78_0 : ∀ {p : AAddr}, fieldAddrA Try.prog 78 (.ptr p) 0 = some (.ptr ⟨p.ro, p.blk, p.off + 0⟩) := fa_struct Try.underlying78 (ft := 75) (o := 0) rfl (m := 0) sz75
theorem fl78_0 : ∀ {cs : List AV}, fieldA Try.prog 78 (.agg cs) 0 = partA Try.prog 75 cs 0 := fl_struct Try.underlying78 (ft := 75) (o := 0) rfl
theorem fa78_1 : ∀ {p : AAddr}, fieldAddrA Try.prog 78 (.ptr p) 1 = some (.ptr ⟨p.ro, p.blk, p.off + 1⟩) := fa_struct Try.underlying78 (ft := 3) (o := 1) rfl (m := 0) sz3
theorem fl78_1 : ∀ {cs : List AV}, fieldA Try.prog 78 (.agg cs) 1 = partA Try.prog 3 cs 1 := fl_struct Try.underlying78 (ft := 3) (o := 1) rfl
theorem fa78_2 : ∀ {p : AAddr}, fieldAddrA Try.prog 78 (.ptr p) 2 = some (.ptr ⟨p.ro, p.blk, p.off + 2⟩) := fa_struct Try.underlying78 (ft := 76) (o := 2) rfl (m := 0) sz76
theorem fl78_2 : ∀ {cs : List AV}, fieldA Try.prog 78 (.agg cs) 2 = partA Try.prog 76 cs 2 := fl_struct Try.underlying78 (ft := 76) (o := 2) rfl
theorem fa78_3 : ∀ {p : AAddr}, fieldAddrA Try.prog 78 (.ptr p) 3 = some (.ptr ⟨p.ro, p.blk, p.off + 3⟩) := fa_struct Try.underlying78 (ft := 3) (o := 3) rfl (m := 0) sz3
theorem fl78_3 : ∀ {cs : List AV}, fieldA Try.prog 78 (.agg cs) 3 = partA Try.prog 3 cs 3 := fl_struct Try.underlying78 (ft := 3) (o := 3) rfl
theorem fa78_4 : ∀ {p : AAddr}, fieldAddrA Try.prog 78 (.ptr p) 4 = some (.ptr ⟨p.ro, p.blk, p.off + 4⟩) := fa_struct Try.underlying78 (ft := 4) (o := 4) rfl (m := 0) sz4
theorem fl78_4 : ∀ {cs : List AV}, fieldA Try.prog 78 (.agg cs) 4 = partA Try.prog 4 cs 4 := fl_struct Try.underlying78 (ft := 4) (o := 4) rfl
theorem ld79 : ∀ {p : AAddr} {H : AH}, loadA Try.prog 79 p H = (H.get p).bind fun cs => cs[p.off]? := load_cell ag79
theorem pt79 : ∀ {cs : List AV} {o : Nat}, partA Try.prog 79 cs o = cs[o]? := part_cell ag79
theorem st79_0 : ∀ {a : AAddr} {n : Nat} {c : Cap} {H : AH} {i o : Nat}, storeA Try.prog 79 ⟨false, i, o⟩ (.slice a n c) H = (H.cells? i).bind fun l => gd (o < l.length) (some (H.set i (some (.cells (l.set o (.slice a n c)))))) := store_cell sz79 rfl
theorem st79_1 : ∀  {H : AH} {i o : Nat}, storeA Try.prog 79 ⟨false, i, o⟩ .nilslice H = (H.cells? i).bind fun l => gd (o < l.length) (some (H.set i (some (.cells (l.set o .nilslice))))) := store_cell sz79 rfl
theorem ifc79 : ∀ {v : AV}, ifaceA Try.prog 79 v = some (.iface 79 v) := iface_of Try.underlying79 rfl
theorem ass79 : ∀ {ok : Bool} {v : AV}, assertA Try.prog 79 ok v = assertV (zeroV Try.prog 79) 79 ok v := assert_of Try.underlying79 rfl
theorem ll79 : ∀ {p : AAddr} {n : Nat} {c : Cap}, lenA Try.prog 79 (.slice p n c) = some (.int .i64 n) := len_slice Try.underlying79
theorem ln79 : lenA Try.prog 79 .nilslice = some (.int .i64 0) := len_nil Try.underlying79
theorem ia79 : ∀ {p : AAddr} {n : Nat} {c : Cap} {k : IntKind} {a : Int}, indexAddrA Try.prog 79 (.slice p n c) (.int k a) = gd (0 ≤ a ∧ a < n) (some (.ptr ⟨p.ro, p.blk, p.off + a.toNat * 1⟩)) := ixa_slice Try.underlying79 sz27
theorem sk79 : ∀ {p : AAddr} {n c : Nat} {lo hi mx : Option AV}, sliceOpA Try.prog 79 (.slice p n (.known c)) lo hi mx = cutKnown p 1 n c lo hi mx := slc_known Try.underlying79 sz27
theorem sg79 : ∀ {p : AAddr} {n : Nat} {lo hi : Option AV}, sliceOpA Try.prog 79 (.slice p n (.grow 1)) lo hi none = if p.ro = false then (optB hi n n).bind fun h => (optB lo h 0).map fun l => .slice ⟨false, p.blk, p.off + l * 1⟩ (h - l) (.grow 1) else none := slc_grow Try.underlying79 sz27
theorem sn79 : ∀ {lo hi : Option AV}, sliceOpA Try.prog 79 .nilslice lo hi none = (optB hi 0 0).bind fun h => (optB lo h 0).map fun _ => .nilslice := slc_nil Try.underlying79 sz27
theorem ens79 : ∀ {p : AAddr} {n : Nat} {c : Cap}, binA Try.prog .eql 79 (.slice p n c) .nilslice = if sureSlice n c then some (.bool false) else none := eq_nil_slice Try.underlying79
theorem nns79 : ∀ {p : AAddr} {n : Nat} {c : Cap}, binA Try.prog .neq 79 (.slice p n c) .nilslice = if sureSlice n c then some (.bool true) else none := ne_nil_slice Try.underlying79
theorem enn79 : binA Try.prog .eql 79 .nilslice .nilslice = some (.bool true) := eq_nil_nil Try.underlying79
theorem nnn79 : binA Try.prog .neq 79 .nilslice .nilslice = some (.bool false) := ne_nil_nil Try.underlying79
theorem cp79 : ∀ {p : AAddr} {n : Nat} {c : Cap} {x : AV} {H : AH}, copyA Try.prog 79 (.slice p n c) x H = (newsA H 1 x).bind fun kn => if p.ro = false ∧ (H.cells? p.blk).isSome then (storeCellsA H p.blk p.off (kn.2.take (min kn.1 n * 1))).map fun H1 => (.int .i64 (min kn.1 n : Nat), H1) else none := copy_slice Try.underlying79 sz27
theorem cn79 : ∀ {x : AV} {H : AH}, copyA Try.prog 79 .nilslice x H = (newsA H 1 x).bind fun kn => some (.int .i64 0, H) := copy_nil Try.underlying79 sz27
theorem mk79 : ∀ {k k1 : IntKind} {a b : Int} {H : AH}, makeSliceA Try.prog 79 (.int k a) (.int k1 b) H = gd (0 ≤ a ∧ a ≤ b ∧ b ≤ 140737488355328 ∧ b * (24 : Nat) ≤ 140737488355328) (some (.slice ⟨false, H.n, 0⟩ a.toNat (.known b.toNat), H.push (some (.cells (repA ([.nilslice]) b.toNat))))) := make_slice Try.underlying79 sz27 by27 ze27 ⟨by simp, by decide⟩
theorem bs79 : ∀ {len : Nat} {parts : List (Nat × AV)} {H : AH}, len * 1 ≤ 16777216 → buildSliceA Try.prog 79 len parts H = (fillA (fun i => some (i * 1, 1)) (zerosL ([.nilslice]) len) parts).map fun cells => (.slice ⟨false, H.n, 0⟩ len (.known len), H.push (some (.cells cells))) := fun h => build_lit Try.underlying79 sz27 ze27 ⟨by simp, by decide⟩ h
theorem ap79 : ∀ {s x : AV} {H : AH}, appendA Try.prog 79 79 s x H = (newsA H 1 x).bind fun kn => if kn.2.all oneA = true then appendTo 1 24 H kn.1 kn.2 s else none := app_slice Try.underlying79 sz27 by27 ze27 ⟨by simp, by decide⟩
theorem ai79_3 : ∀ {s : AV} {l : Int} {H : AH}, appendA Try.prog 79 3 s (.int .i64 l) H = gd (0 ≤ l ∧ l ≤ 140737488355328) (gdb ((repA ([.nilslice]) l.toNat).all oneA) (appendTo 1 24 H l.toNat (repA ([.nilslice]) l.toNat) s)) := app_int Try.underlying79 sz27 by27 ze27 ⟨by simp, by decide⟩ Try.underlying3
theorem ld80 : ∀ {p : AAddr} {H : AH}, loadA Try.prog 80 p H = (H.get p).bind fun cs => gd (p.off + 2 ≤ cs.length) (some (.agg ((cs.drop p.off).take 2))) := load_agg ag80 sz80
theorem pt80 : ∀ {cs : List AV} {o : Nat}, partA Try.prog 80 cs o = gd (o + 2 ≤ cs.length) (some (.agg ((cs.drop o).take 2))) := part_agg ag80 sz80
theorem ifc80 : ∀ {v : AV}, ifaceA Try.prog 80 v = some (.iface 80 v) := iface_of Try.underlying80 rfl
theorem ass80 : ∀ {ok : Bool} {v : AV}, assertA Try.prog 80 ok v = assertV (zeroV Try.prog 80) 80 ok v := assert_of Try.underlying80 rfl
theorem sta80 : ∀ {vs : List AV} {H : AH} {i o : Nat}, storeA Try.prog 80 ⟨false, i, o⟩ (.agg vs) H = gd (vs.length = 2) (gdb (vs.all oneA) ((H.cells? i).bind fun l0 => gd (o + 2 ≤ l0.length) (some (H.set i (some (.cells (putL l0 o vs))))))) := store_aggs (n := 1) sz80
theorem fa80_0 : ∀ {p : AAddr}, fieldAddrA Try.prog 80 (.ptr p) 0 = some (.ptr ⟨p.ro, p.blk, p.off + 0⟩) := fa_struct Try.underlying80 (ft := 79) (o := 0) rfl (m := 0) sz79
theorem fl80_0 : ∀ {cs : List AV}, fieldA Try.prog 80 (.agg cs) 0 = partA Try.prog 79 cs 0 := fl_struct Try.underlying80 (ft := 79) (o := 0) rfl
theorem fa80_1 : ∀ {p : AAddr}, fieldAddrA Try.prog 80 (.ptr p) 1 = some (.ptr ⟨p.ro, p.blk, p.off + 1⟩) := fa_struct Try.underlying80 (ft := 4) (o := 1) rfl (m := 0) sz4
theorem fl80_1 : ∀ {cs : List AV}, fieldA Try.prog 80 (.agg cs) 1 = partA Try.prog 4 cs 1 := fl_struct Try.underlying80 (ft := 4) (o := 1) rfl
theorem ld81 : ∀ {p : AAddr} {H : AH}, loadA Try.prog 81 p H = (H.get p).bind fun cs => gd (p.off + 2 ≤ cs.length) (some (.agg ((cs.drop p.off).take 2))) := load_agg ag81 sz81
theorem pt81 : ∀ {cs : List AV} {o : Nat}, partA Try.prog 81 cs o = gd (o + 2 ≤ cs.length) (some (.agg ((cs.drop o).take 2))) := part_agg ag81 sz81
theorem ifc81 : ∀ {v : AV}, ifaceA Try.prog 81 v = some (.iface 81 v) := iface_of Try.underlying81 rfl
theorem ass81 : ∀ {ok : Bool} {v : AV}, assertA Try.prog 81 ok v = assertV (zeroV Try.prog 81) 81 ok v := assert_of Try.underlying81 rfl
theorem sta81 : ∀ {vs : List AV} {H : AH} {i o : Nat}, storeA Try.prog 81 ⟨false, i, o⟩ (.agg vs) H = gd (vs.length = 2) (gdb (vs.all oneA) ((H.cells? i).bind fun l0 => gd (o + 2 ≤ l0.length) (some (H.set i (some (.cells (putL l0 o vs))))))) := store_aggs (n := 1) sz81
theorem fa81_0 : ∀ {p : AAddr}, fieldAddrA Try.prog 81 (.ptr p) 0 = some (.ptr ⟨p.ro, p.blk, p.off + 0⟩) := fa_struct Try.underlying81 (ft := 79) (o := 0) rfl (m := 0) sz79
theorem fl81_0 : ∀ {cs : List AV}, fieldA Try.prog 81 (.agg cs) 0 = partA Try.prog 79 cs 0 := fl_struct Try.underlying81 (ft := 79) (o := 0) rfl
theorem fa81_1 : ∀ {p : AAddr}, fieldAddrA Try.prog 81 (.ptr p) 1 = some (.ptr ⟨p.ro, p.blk, p.off + 1⟩) := fa_struct Try.underlying81 (ft := 4) (o := 1) rfl (m := 0) sz4
theorem fl81_1 : ∀ {cs : List AV}, fieldA Try.prog 81 (.agg cs) 1 = partA Try.prog 4 cs 1 := fl_struct Try.underlying81 (ft := 4) (o := 1) rfl
theorem ld84 : ∀ {p : AAddr} {H : AH}, loadA Try.prog 84 p H = (H.get p).bind fun cs => gd (p.off + 3 ≤ cs.length) (some (.agg ((cs.drop p.off).take 3))) := load_agg ag84 sz84
theorem pt84 : ∀ {cs : List AV} {o : Nat}, partA Try.prog 84 cs o = gd (o + 3 ≤ cs.length) (some (.agg ((cs.drop o).take 3))) := part_agg ag84 sz84
theorem ifc84 : ∀ {v : AV}, ifaceA Try.prog 84 v = some (.iface 84 v) := iface_of Try.underlying84 rfl
theorem ass84 : ∀ {ok : Bool} {v : AV}, assertA Try.prog 84 ok v = assertV (zeroV Try.prog 84) 84 ok v := assert_of Try.underlying84 rfl
theorem sta84 : ∀ {vs : List AV} {H : AH} {i o : Nat}, storeA Try.prog 84 ⟨false, i, o⟩ (.agg vs) H = gd (vs.length = 3) (gdb (vs.all oneA) ((H.cells? i).bind fun l0 => gd (o + 3 ≤ l0.length) (some (H.set i (some (.cells (putL l0 o vs))))))) := store_aggs (n := 2) sz84
theorem fa84_0 : ∀ {p : AAddr}, fieldAddrA Try.prog 84 (.ptr p) 0 = some (.ptr ⟨p.ro, p.blk, p.off + 0⟩) := fa_struct Try.underlying84 (ft := 3) (o := 0) rfl (m := 0) sz3
theorem fl84_0 : ∀ {cs : List AV}, fieldA Try.prog 84 (.agg cs) 0 = partA Try.prog 3 cs 0 := fl_struct Try.underlying84 (ft := 3) (o := 0) rfl
theorem fa84_1 : ∀ {p : AAddr}, fieldAddrA Try.prog 84 (.ptr p) 1 = some (.ptr ⟨p.ro, p.blk, p.off + 1⟩) := fa_struct Try.underlying84 (ft := 3) (o := 1) rfl (m := 0) sz3
theorem fl84_1 : ∀ {cs : List AV}, fieldA Try.prog 84 (.agg cs) 1 = partA Try.prog 3 cs 1 := fl_struct Try.underlying84 (ft := 3) (o := 1) rfl
theorem fa84_2 : ∀ {p : AAddr}, fieldAddrA Try.prog 84 (.ptr p) 2 = some (.ptr ⟨p.ro, p.blk, p.off + 2⟩) := fa_struct Try.underlying84 (ft := 27) (o := 2) rfl (m := 0) sz27
theorem fl84_2 : ∀ {cs : List AV}, fieldA Try.prog 84 (.agg cs) 2 = partA Try.prog 27 cs 2 := fl_struct Try.underlying84 (ft := 27) (o := 2) rfl
theorem ld85 : ∀ {p : AAddr} {H : AH}, loadA Try.prog 85 p H = (H.get p).bind fun cs => gd (p.off + 3 ≤ cs.length) (some (.agg ((cs.drop p.off).take 3))) := load_agg ag85 sz85
theorem pt85 : ∀ {cs : List AV} {o : Nat}, partA Try.prog 85 cs o = gd (o + 3 ≤ cs.length) (some (.agg ((cs.drop o).take 3))) := part_agg ag85 sz85
theorem ifc85 : ∀ {v : AV}, ifaceA Try.prog 85 v = some (.iface 85 v) := iface_of Try.underlying85 rfl
theorem ass85 : ∀ {ok : Bool} {v : AV}, assertA Try.prog 85 ok v = assertV (zeroV Try.prog 85) 85 ok v := assert_of Try.underlying85 rfl
theorem sta85 : ∀ {vs : List AV} {H : AH} {i o : Nat}, storeA Try.prog 85 ⟨false, i, o⟩ (.agg vs) H = gd (vs.length = 3) (gdb (vs.all oneA) ((H.cells? i).bind fun l0 => gd (o + 3 ≤ l0.length) (some (H.set i (some (.cells (putL l0 o vs))))))) := store_aggs (n := 2) sz85
theorem fa85_0 : ∀ {p : AAddr}, fieldAddrA Try.prog 85 (.ptr p) 0 = some (.ptr ⟨p.ro, p.blk, p.off + 0⟩) := fa_struct Try.underlying85 (ft := 3) (o := 0) rfl (m := 0) sz3
theorem fl85_0 : ∀ {cs : List AV}, fieldA Try.prog 85 (.agg cs) 0 = partA Try.prog 3 cs 0 := fl_struct Try.underlying85 (ft := 3) (o := 0) rfl
theorem fa85_1 : ∀ {p : AAddr}, fieldAddrA Try.prog 85 (.ptr p) 1 = some (.ptr ⟨p.ro, p.blk, p.off + 1⟩) := fa_struct Try.underlying85 (ft := 3) (o := 1) rfl (m := 0) sz3
theorem fl85_1 : ∀ {cs : List AV}, fieldA Try.prog 85 (.agg cs) 1 = partA Try.prog 3 cs 1 := fl_struct Try.underlying85 (ft := 3) (o := 1) rfl
theorem fa85_2 : ∀ {p : AAddr}, fieldAddrA Try.prog 85 (.ptr p) 2 = some (.ptr ⟨p.ro, p.blk, p.off + 2⟩) := fa_struct Try.underlying85 (ft := 27) (o := 2) rfl (m := 0) sz27
theorem fl85_2 : ∀ {cs : List AV}, fieldA Try.prog 85 (.agg cs) 2 = partA Try.prog 27 cs 2 := fl_struct Try.underlying85 (ft := 27) (o := 2) rfl
theorem ld93 : ∀ {p : AAddr} {H : AH}, loadA Try.prog 93 p H = (H.get p).bind fun cs => cs[p.off]? := load_cell ag93
theorem pt93 : ∀ {cs : List AV} {o : Nat}, partA Try.prog 93 cs o = cs[o]? := part_cell ag93
theorem st93_0 : ∀ {k : IntKind} {a : Int} {H : AH} {i o : Nat}, storeA Try.prog 93 ⟨false, i, o⟩ (.int k a) H = (H.cells? i).bind fun l => gd (o < l.length) (some (H.set i (some (.cells (l.set o (.int k a)))))) := store_cell sz93 rfl
theorem st93_1 : ∀ {a : UInt8} {H : AH} {i o : Nat}, storeA Try.prog 93 ⟨false, i, o⟩ (bv a) H = (H.cells? i).bind fun l => gd (o < l.length) (some (H.set i (some (.cells (l.set o (bv a)))))) := store_cell sz93 rfl
theorem ifc93 : ∀ {v : AV}, ifaceA Try.prog 93 v = some (.iface 93 v) := iface_of Try.underlying93 rfl
theorem ass93 : ∀ {ok : Bool} {v : AV}, assertA Try.prog 93 ok v = assertV (zeroV Try.prog 93) 93 ok v := assert_of Try.underlying93 rfl
theorem cv2_93 : ∀ {k : IntKind} {a : Int} {H : AH}, convertA Try.prog 2 93 (.int k a) H = some (.int .u32 (IntKind.u32.wrap a), H) := conv_int Try.underlying93 (by rw [Try.underlying2]; rfl)
theorem cv3_93 : ∀ {k : IntKind} {a : Int} {H : AH}, convertA Try.prog 3 93 (.int k a) H = some (.int .u32 (IntKind.u32.wrap a), H) := conv_int Try.underlying93 (by rw [Try.underlying3]; rfl)
theorem cv5_93 : ∀ {k : IntKind} {a : Int} {H : AH}, convertA Try.prog 5 93 (.int k a) H = some (.int .u32 (IntKind.u32.wrap a), H) := conv_int Try.underlying93 (by rw [Try.underlying5]; rfl)
theorem cv12_93 : ∀ {k : IntKind} {a : Int} {H : AH}, convertA Try.prog 12 93 (.int k a) H = some (.int .u32 (IntKind.u32.wrap a), H) := conv_int Try.underlying93 (by rw [Try.underlying12]; rfl)
theorem cv21_93 : ∀ {k : IntKind} {a : Int} {H : AH}, convertA Try.prog 21 93 (.int k a) H = some (.int .u32 (IntKind.u32.wrap a), H) := conv_int Try.underlying93 (by rw [Try.underlying21]; rfl)
theorem cv24_93 : ∀ {k : IntKind} {a : Int} {H : AH}, convertA Try.prog 24 93 (.int k a) H = some (.int .u32 (IntKind.u32.wrap a), H) := conv_int Try.underlying93 (by rw [Try.underlying24]; rfl)
theorem cv49_93 : ∀ {k : IntKind} {a : Int} {H : AH}, convertA Try.prog 49 93 (.int k a) H = some (.int .u32 (IntKind.u32.wrap a), H) := conv_int Try.underlying93 (by rw [Try.underlying49]; rfl)
theorem cv93_93 : ∀ {k : IntKind} {a : Int} {H : AH}, convertA Try.prog 93 93 (.int k a) H = some (.int .u32 (IntKind.u32.wrap a), H) := conv_int Try.underlying93 (by rw [Try.underlying93]; rfl)
theorem cv96_93 : ∀ {k : IntKind} {a : Int} {H : AH}, convertA Try.prog 96 93 (.int k a) H = some (.int .u32 (IntKind.u32.wrap a), H) := conv_int Try.underlying93 (by rw [Try.underlying96]; rfl)
theorem ld96 : ∀ {p : AAddr} {H : AH}, loadA Try.prog 96 p H = (H.get p).bind fun cs => cs[p.off]? := load_cell ag96
theorem pt96 : ∀ {cs : List AV} {o : Nat}, partA Try.prog 96 cs o = cs[o]? := part_cell ag96
theorem st96_0 : ∀ {k : IntKind} {a : Int} {H : AH} {i o : Nat}, storeA Try.prog 96 ⟨false, i, o⟩ (.int k a) H = (H.cells? i).bind fun l => gd (o < l.length) (some (H.set i (some (.cells (l.set o (.int k a)))))) := store_cell sz96 rfl
theorem st96_1 : ∀ {a : UInt8} {H : AH} {i o : Nat}, storeA Try.prog 96 ⟨false, i, o⟩ (bv a) H = (H.cells? i).bind fun l => gd (o < l.length) (some (H.set i (some (.cells (l.set o (bv a)))))) := store_cell sz96 rfl
theorem ifc96 : ∀ {v : AV}, ifaceA Try.prog 96 v = some (.iface 96 v) := iface_of Try.underlying96 rfl
theorem ass96 : ∀ {ok : Bool} {v : AV}, assertA Try.prog 96 ok v = assertV (zeroV Try.prog 96) 96 ok v := assert_of Try.underlying96 rfl
theorem cv2_96 : ∀ {k : IntKind} {a : Int} {H : AH}, convertA Try.prog 2 96 (.int k a) H = some (.int .u64 (IntKind.u64.wrap a), H) := conv_int Try.underlying96 (by rw [Try.underlying2]; rfl)
theorem cv3_96 : ∀ {k : IntKind} {a : Int} {H : AH}, convertA Try.prog 3 96 (.int k a) H = some (.int .u64 (IntKind.u64.wrap a), H) := conv_int Try.underlying96 (by rw [Try.underlying3]; rfl)
theorem cv5_96 : ∀ {k : IntKind} {a : Int} {H : AH}, convertA Try.prog 5 96 (.int k a) H = some (.int .u64 (IntKind.u64.wrap a), H) := conv_int Try.underlying96 (by rw [Try.underlying5]; rfl)
theorem cv12_96 : ∀ {k : IntKind} {a : Int} {H : AH}, convertA Try.prog 12 96 (.int k a) H = some (.int .u64 (IntKind.u64.wrap a), H) := conv_int Try.underlying96 (by rw [Try.underlying12]; rfl)
theorem cv21_96 : ∀ {k : IntKind} {a : Int} {H : AH}, convertA Try.prog 21 96 (.int k a) H = some (.int .u64 (IntKind.u64.wrap a), H) := conv_int Try.underlying96 (by rw [Try.underlying21]; rfl)
theorem cv24_96 : ∀ {k : IntKind} {a : Int} {H : AH}, convertA Try.prog 24 96 (.int k a) H = some (.int .u64 (IntKind.u64.wrap a), H) := conv_int Try.underlying96 (by rw [Try.underlying24]; rfl)
theorem cv49_96 : ∀ {k : IntKind} {a : Int} {H : AH}, convertA Try.prog 49 96 (.int k a) H = some (.int .u64 (IntKind.u64.wrap a), H) := conv_int Try.underlying96 (by rw [Try.underlying49]; rfl)
theorem cv93_96 : ∀ {k : IntKind} {a : Int} {H : AH}, convertA Try.prog 93 96 (.int k a) H = some (.int .u64 (IntKind.u64.wrap a), H) := conv_int Try.underlying96 (by rw [Try.underlying93]; rfl)
theorem cv96_96 : ∀ {k : IntKind} {a : Int} {H : AH}, convertA Try.prog 96 96 (.int k a) H = some (.int .u64 (IntKind.u64.wrap a), H) := conv_int Try.underlying96 (by rw [Try.underlying96]; rfl)
theorem ld100 : ∀ {p : AAddr} {H : AH}, loadA Try.prog 100 p H = (H.get p).bind fun cs => gd (p.off + 4 ≤ cs.length) (some (.agg ((cs.drop p.off).take 4))) := load_agg ag100 sz100
theorem pt100 : ∀ {cs : List AV} {o : Nat}, partA Try.prog 100 cs o = gd (o + 4 ≤ cs.length) (some (.agg ((cs.drop o).take 4))) := part_agg ag100 sz100
theorem ifc100 : ∀ {v : AV}, ifaceA Try.prog 100 v = some (.iface 100 v) := iface_of Try.underlying100 rfl
theorem ass100 : ∀ {ok : Bool} {v : AV}, assertA Try.prog 100 ok v = assertV (zeroV Try.prog 100) 100 ok v := assert_of Try.underlying100 rfl
theorem sta100 : ∀ {vs : List AV} {H : AH} {i o : Nat}, storeA Try.prog 100 ⟨false, i, o⟩ (.agg vs) H = gd (vs.length = 4) (gdb (vs.all oneA) ((H.cells? i).bind fun l0 => gd (o + 4 ≤ l0.length) (some (H.set i (some (.cells (putL l0 o vs))))))) := store_aggs (n := 3) sz100
theorem fa100_3 : ∀ {p : AAddr}, fieldAddrA Try.prog 100 (.ptr p) 3 = some (.ptr ⟨p.ro, p.blk, p.off + 3⟩) := fa_struct Try.underlying100 (ft := 9) (o := 3) rfl (m := 0) sz9
theorem fl100_3 : ∀ {cs : List AV}, fieldA Try.prog 100 (.agg cs) 3 = partA Try.prog 9 cs 3 := fl_struct Try.underlying100 (ft := 9) (o := 3) rfl
theorem ld108 : ∀ {p : AAddr} {H : AH}, loadA Try.prog 108 p H = (H.get p).bind fun cs => cs[p.off]? := load_cell ag108
theorem pt108 : ∀ {cs : List AV} {o : Nat}, partA Try.prog 108 cs o = cs[o]? := part_cell ag108
theorem st108_0 : ∀ {a : AAddr} {H : AH} {i o : Nat}, storeA Try.prog 108 ⟨false, i, o⟩ (.ptr a) H = (H.cells? i).bind fun l => gd (o < l.length) (some (H.set i (some (.cells (l.set o (.ptr a)))))) := store_cell sz108 rfl
theorem st108_1 : ∀  {H : AH} {i o : Nat}, storeA Try.prog 108 ⟨false, i, o⟩ .nilptr H = (H.cells? i).bind fun l => gd (o < l.length) (some (H.set i (some (.cells (l.set o .nilptr))))) := store_cell sz108 rfl
theorem ifc108 : ∀ {v : AV}, ifaceA Try.prog 108 v = some (.iface 108 v) := iface_of Try.underlying108 rfl
theorem ass108 : ∀ {ok : Bool} {v : AV}, assertA Try.prog 108 ok v = assertV (zeroV Try.prog 108) 108 ok v := assert_of Try.underlying108 rfl
theorem eqptrnil108 : ∀ {p : AAddr}, binA Try.prog .eql 108 (.ptr p) .nilptr = some (.bool false) := eq_ptr_nil Try.underlying108
theorem neptrnil108 : ∀ {p : AAddr}, binA Try.prog .neq 108 (.ptr p) .nilptr = some (.bool true) := ne_ptr_nil Try.underlying108
theorem eqnn108 : binA Try.prog .eql 108 .nilptr .nilptr = some (.bool true) := eq_nilptr Try.underlying108
theorem nenn108 : binA Try.prog .neq 108 .nilptr .nilptr = some (.bool false) := ne_nilptr Try.underlying108
theorem ld111 : ∀ {p : AAddr} {H : AH}, loadA Try.prog 111 p H = (H.get p).bind fun cs => gd (p.off + 11 ≤ cs.length) (some (.agg ((cs.drop p.off).take 11))) := load_agg ag111 sz111
theorem pt111 : ∀ {cs : List AV} {o : Nat}, partA Try.prog 111 cs o = gd (o + 11 ≤ cs.length) (some (.agg ((cs.drop o).take 11))) := part_agg ag111 sz111
theorem ifc111 : ∀ {v : AV}, ifaceA Try.prog 111 v = some (.iface 111 v) := iface_of Try.underlying111 rfl
theorem ass111 : ∀ {ok : Bool} {v : AV}, assertA Try.prog 111 ok v = assertV (zeroV Try.prog 111) 111 ok v := assert_of Try.underlying111 rfl
theorem sta111 : ∀ {vs : List AV} {H : AH} {i o : Nat}, storeA Try.prog 111 ⟨false, i, o⟩ (.agg vs) H = gd (vs.length = 11) (gdb (vs.all oneA) ((H.cells? i).bind fun l0 => gd (o + 11 ≤ l0.length) (some (H.set i (some (.cells (putL l0 o vs))))))) := store_aggs (n := 10) sz111
theorem fa111_0 : ∀ {p : AAddr}, fieldAddrA Try.prog 111 (.ptr p) 0 = some (.ptr ⟨p.ro, p.blk, p.off + 0⟩) := fa_struct Try.underlying111 (ft := 12) (o := 0) rfl (m := 0) sz12
theorem fl111_0 : ∀ {cs : List AV}, fieldA Try.prog 111 (.agg cs) 0 = partA Try.prog 12 cs 0 := fl_struct Try.underlying111 (ft := 12) (o := 0) rfl
theorem fa111_1 : ∀ {p : AAddr}, fieldAddrA Try.prog 111 (.ptr p) 1 = some (.ptr ⟨p.ro, p.blk, p.off + 1⟩) := fa_struct Try.underlying111 (ft := 12) (o := 1) rfl (m := 0) sz12
theorem fl111_1 : ∀ {cs : List AV}, fieldA Try.prog 111 (.agg cs) 1 = partA Try.prog 12 cs 1 := fl_struct Try.underlying111 (ft := 12) (o := 1) rfl
theorem fa111_2 : ∀ {p : AAddr}, fieldAddrA Try.prog 111 (.ptr p) 2 = some (.ptr ⟨p.ro, p.blk, p.off + 2⟩) := fa_struct Try.underlying111 (ft := 93) (o := 2) rfl (m := 0) sz93
theorem fl111_2 : ∀ {cs : List AV}, fieldA Try.prog 111 (.agg cs) 2 = partA Try.prog 93 cs 2 := fl_struct Try.underlying111 (ft := 93) (o := 2) rfl
theorem fa111_4 : ∀ {p : AAddr}, fieldAddrA Try.prog 111 (.ptr p) 4 = some (.ptr ⟨p.ro, p.blk, p.off + 4⟩) := fa_struct Try.underlying111 (ft := 5) (o := 4) rfl (m := 0) sz5
theorem fl111_4 : ∀ {cs : List AV}, fieldA Try.prog 111 (.agg cs) 4 = partA Try.prog 5 cs 4 := fl_struct Try.underlying111 (ft := 5) (o := 4) rfl
theorem fa111_5 : ∀ {p : AAddr}, fieldAddrA Try.prog 111 (.ptr p) 5 = some (.ptr ⟨p.ro, p.blk, p.off + 5⟩) := fa_struct Try.underlying111 (ft := 5) (o := 5) rfl (m := 0) sz5
theorem fl111_5 : ∀ {cs : List AV}, fieldA Try.prog 111 (.agg cs) 5 = partA Try.prog 5 cs 5 := fl_struct Try.underlying111 (ft := 5) (o := 5) rfl
theorem fa111_8 : ∀ {p : AAddr}, fieldAddrA Try.prog 111 (.ptr p) 8 = some (.ptr ⟨p.ro, p.blk, p.off + 8⟩) := fa_struct Try.underlying111 (ft := 108) (o := 8) rfl (m := 0) sz108
theorem fl111_8 : ∀ {cs : List AV}, fieldA Try.prog 111 (.agg cs) 8 = partA Try.prog 108 cs 8 := fl_struct Try.underlying111 (ft := 108) (o := 8) rfl
theorem ld113 : ∀ {p : AAddr} {H : AH}, loadA Try.prog 113 p H = (H.get p).bind fun cs => cs[p.off]? := load_cell ag113
theorem pt113 : ∀ {cs : List AV} {o : Nat}, partA Try.prog 113 cs o = cs[o]? := part_cell ag113
theorem ifc113 : ∀ {v : AV}, ifaceA Try.prog 113 v = some (.iface 113 v) := iface_of Try.underlying113 rfl
theorem ass113 : ∀ {ok : Bool} {v : AV}, assertA Try.prog 113 ok v = assertV (zeroV Try.prog 113) 113 ok v := assert_of Try.underlying113 rfl
attribute [go_sem] sz2 ze2 Try.underlying2 sz3 ze3 Try.underlying3 sz4 ze4 Try.underlying4 sz5 ze5 Try.underlying5 sz7 ze7 Try.underlying7 sz9 ze9 Try.underlying9 sz12 ze12 Try.underlying12 sz13 ze13 Try.underlying13 sz18 ze18 Try.underlying18 sz21 ze21 Try.underlying21 sz23 ze23 Try.underlying23 sz24 ze24 Try.underlying24 sz27 ze27 Try.underlying27 sz34
attribute [go_sem] ze34 Try.underlying34 sz35 ze35 Try.underlying35 sz36 ze36 Try.underlying36 sz42 ze42 Try.underlying42 sz43 ze43 Try.underlying43 sz49 ze49 Try.underlying49 sz50 ze50 Try.underlying50 sz61 ze61 Try.underlying61 sz62 ze62 Try.underlying62 sz63 ze63 Try.underlying63 sz64 ze64 Try.underlying64 sz65 ze65 Try.underlying65 sz67 ze67 Try.underlying67 sz68 ze68
attribute [go_sem] Try.underlying68 sz69 ze69 Try.underlying69 sz70 ze70 Try.underlying70 sz75 ze75 Try.underlying75 sz76 ze76 Try.underlying76 sz77 ze77 Try.underlying77 sz78 ze78 Try.underlying78 sz79 ze79 Try.underlying79 sz80 ze80 Try.underlying80 sz81 ze81 Try.underlying81 sz84 ze84 Try.underlying84 sz85 ze85 Try.underlying85 sz93 ze93 Try.underlying93 sz96 ze96 Try.underlying96
attribute [go_sem] sz100 ze100 Try.underlying100 sz108 ze108 Try.underlying108 sz111 ze111 Try.underlying111 sz113 ze113 Try.underlying113 ld2 pt2 st2_0 st2_1 ifc2 ass2 cv2_2 cv3_2 cv5_2 cv12_2 cv21_2 cv24_2 cv49_2 cv93_2 cv96_2 ld3 pt3 st3_0 st3_1 ifc3 ass3 cv2_3 cv3_3 cv5_3 cv12_3 cv21_3 cv24_3 cv49_3
attribute [go_sem] cv93_3 cv96_3 ld4 pt4 st4_0 ifc4 ass4 eb4 nb4 ld5 pt5 st5_0 st5_1 ifc5 ass5 cv2_5 cv3_5 cv5_5 cv12_5 cv21_5 cv24_5 cv49_5 cv93_5 cv96_5 ld7 pt7 eg7 ifc7 ass7 zv7 sta7 fa7_0 fl7_0 fa7_1 fl7_1 fa7_2 fl7_2 ld9 pt9 st9_0
attribute [go_sem] ifc9 ass9 ls9 is9 ss9 ld12 pt12 st12_0 st12_1 ifc12 ass12 cv2_12 cv3_12 cv5_12 cv12_12 cv21_12 cv24_12 cv49_12 cv93_12 cv96_12 ld13 pt13 ifc13 ass13 sta13 fa13_0 fl13_0 fa13_1 fl13_1 ld18 pt18 ifc18 ass18 sta18 ld21 pt21 st21_0 st21_1 ifc21 ass21
attribute [go_sem] cv2_21 cv3_21 cv5_21 cv12_21 cv21_21 cv24_21 cv49_21 cv93_21 cv96_21 ld23 pt23 st23_0 st23_1 ifc23 ass23 eqptrnil23 neptrnil23 eqnn23 nenn23 ld24 pt24 st24_0 st24_1 ifc24 ass24 cv2_24 cv3_24 cv5_24 cv12_24 cv21_24 cv24_24 cv49_24 cv93_24 cv96_24 ld27 pt27 st27_0 st27_1 ifc27 ass27
attribute [go_sem] ll27 ln27 ia27 sk27 sg27 sn27 ens27 nns27 enn27 nnn27 cp27 cn27 mk27 bs27 ap27 ai27_3 aq27_9 tx27_9 tn27_9 ld34 pt34 st34_0 st34_1 ifc34 ass34 ll34 ln34 ia34 sk34 sg34 sn34 ens34 nns34 enn34 nnn34 cp34 cn34 mk34 bs34 ap34
attribute [go_sem] ai34_3 ld35 pt35 ifc35 ass35 sta35 fa35_0 fl35_0 fa35_1 fl35_1 fa35_2 fl35_2 fa35_3 fl35_3 fa35_4 fl35_4 fa35_5 fl35_5 ld36 pt36 ifc36 ass36 sta36 fa36_0 fl36_0 fa36_1 fl36_1 fa36_2 fl36_2 fa36_3 fl36_3 fa36_4 fl36_4 fa36_5 fl36_5 ld42 pt42 ifc42 ass42 sta42
attribute [go_sem] la42 ia42 xa42 sa42 ld43 pt43 ifc43 ass43 sta43 la43 ia43 xa43 sa43 ld49 pt49 st49_0 st49_1 ifc49 ass49 cv2_49 cv3_49 cv5_49 cv12_49 cv21_49 cv24_49 cv49_49 cv93_49 cv96_49 ld50 pt50 st50_0 st50_1 ifc50 ass50 eqptrnil50 neptrnil50 eqnn50 nenn50 ld61 pt61
attribute [go_sem] st61_0 st61_1 ifc61 ass61 ll61 ln61 ia61 sk61 sg61 sn61 ens61 nns61 enn61 nnn61 cp61 cn61 mk61 bs61 ap61 ai61_3 ld62 pt62 st62_0 st62_1 ifc62 ass62 ll62 ln62 ia62 sk62 sg62 sn62 ens62 nns62 enn62 nnn62 cp62 cn62 mk62 bs62
attribute [go_sem] ap62 ai62_3 ld63 pt63 ifc63 ass63 sta63 fa63_0 fl63_0 fa63_1 fl63_1 fa63_2 fl63_2 fa63_3 fl63_3 fa63_4 fl63_4 ld64 pt64 ifc64 ass64 sta64 fa64_0 fl64_0 fa64_1 fl64_1 fa64_2 fl64_2 fa64_3 fl64_3 fa64_4 fl64_4 ld65 pt65 st65_0 st65_1 ifc65 ass65 ll65 ln65
attribute [go_sem] ia65 sk65 sg65 sn65 ens65 nns65 enn65 nnn65 cp65 cn65 mk65 bs65 ap65 ai65_3 ld67 pt67 ifc67 ass67 sta67 la67 ia67 xa67 sa67 ld68 pt68 ifc68 ass68 sta68 la68 ia68 xa68 sa68 ld69 pt69 ifc69 ass69 sta69 fa69_0 fl69_0 fa69_1
attribute [go_sem] fl69_1 fa69_2 fl69_2 ld70 pt70 ifc70 ass70 sta70 fa70_0 fl70_0 fa70_1 fl70_1 fa70_2 fl70_2 ld75 pt75 st75_0 st75_1 ifc75 ass75 ll75 ln75 ia75 sk75 sg75 sn75 ens75 nns75 enn75 nnn75 cp75 cn75 mk75 bs75 ap75 ai75_3 ld76 pt76 st76_0 st76_1
attribute [go_sem] ifc76 ass76 ll76 ln76 ia76 sk76 sg76 sn76 ens76 nns76 enn76 nnn76 cp76 cn76 mk76 bs76 ap76 ai76_3 ld77 pt77 ifc77 ass77 sta77 fa77_0 fl77_0 fa77_1 fl77_1 fa77_2 fl77_2 fa77_3 fl77_3 fa77_4 fl77_4 ld78 pt78 ifc78 ass78 sta78 fa78_0 fl78_0
attribute [go_sem] fa78_1 fl78_1 fa78_2 fl78_2 fa78_3 fl78_3 fa78_4 fl78_4 ld79 pt79 st79_0 st79_1 ifc79 ass79 ll79 ln79 ia79 sk79 sg79 sn79 ens79 nns79 enn79 nnn79 cp79 cn79 mk79 bs79 ap79 ai79_3 ld80 pt80 ifc80 ass80 sta80 fa80_0 fl80_0 fa80_1 fl80_1 ld81
attribute [go_sem] pt81 ifc81 ass81 sta81 fa81_0 fl81_0 fa81_1 fl81_1 ld84 pt84 ifc84 ass84 sta84 fa84_0 fl84_0 fa84_1 fl84_1 fa84_2 fl84_2 ld85 pt85 ifc85 ass85 sta85 fa85_0 fl85_0 fa85_1 fl85_1 fa85_2 fl85_2 ld93 pt93 st93_0 st93_1 ifc93 ass93 cv2_93 cv3_93 cv5_93 cv12_93
attribute [go_sem] cv21_93 cv24_93 cv49_93 cv93_93 cv96_93 ld96 pt96 st96_0 st96_1 ifc96 ass96 cv2_96 cv3_96 cv5_96 cv12_96 cv21_96 cv24_96 cv49_96 cv93_96 cv96_96 ld100 pt100 ifc100 ass100 sta100 fa100_3 fl100_3 ld108 pt108 st108_0 st108_1 ifc108 ass108 eqptrnil108 neptrnil108 eqnn108 nenn108 ld111 pt111 ifc111
attribute [go_sem] ass111 sta111 fa111_0 fl111_0 fa111_1 fl111_1 fa111_2 fl111_2 fa111_4 fl111_4 fa111_5 fl111_5 fa111_8 fl111_8 ld113 pt113 ifc113 ass113
end Go.Proofs.Ytickckpndpeppaa
