/- What the abstract operations ask of this seat's types. -/
import Derived.Test.YtbicbjfdinhpoaaA22
import Derived.Test.YtbicbjfdinhpoaaProg
namespace Go.Proofs.Ytbicbjfdinhpoaa
open Go Go.Abs
set_option linter.unusedVariables false
theorem sz2 : sizeA Try.prog 2 = some 1 := by kernel_rfl
theorem by2 : bytesA Try.prog 2 = some 8 := by kernel_rfl
theorem ag2 : aggA Try.prog 2 = some false := by kernel_rfl
theorem ze2 : zeroA Try.prog 2 = some ([.int .i64 0]) := by kernel_rfl
theorem sz3 : sizeA Try.prog 3 = some 1 := by kernel_rfl
theorem by3 : bytesA Try.prog 3 = some 8 := by kernel_rfl
theorem ag3 : aggA Try.prog 3 = some false := by kernel_rfl
theorem ze3 : zeroA Try.prog 3 = some ([.int .i64 0]) := by kernel_rfl
theorem sz4 : sizeA Try.prog 4 = some 1 := by kernel_rfl
theorem by4 : bytesA Try.prog 4 = some 1 := by kernel_rfl
theorem ag4 : aggA Try.prog 4 = some false := by kernel_rfl
theorem ze4 : zeroA Try.prog 4 = some ([.bool false]) := by kernel_rfl
theorem sz5 : sizeA Try.prog 5 = some 1 := by kernel_rfl
theorem by5 : bytesA Try.prog 5 = some 1 := by kernel_rfl
theorem ag5 : aggA Try.prog 5 = some false := by kernel_rfl
theorem ze5 : zeroA Try.prog 5 = some ([.int .u8 0]) := by kernel_rfl
theorem sz7 : sizeA Try.prog 7 = some 4 := by kernel_rfl
theorem by7 : bytesA Try.prog 7 = some 24 := by kernel_rfl
theorem ag7 : aggA Try.prog 7 = some true := by kernel_rfl
theorem ze7 : zeroA Try.prog 7 = some ([.int .i64 0, .int .i64 0, .bool false, .int .u8 0]) := by kernel_rfl
theorem sz9 : sizeA Try.prog 9 = some 1 := by kernel_rfl
theorem by9 : bytesA Try.prog 9 = some 16 := by kernel_rfl
theorem ag9 : aggA Try.prog 9 = some false := by kernel_rfl
theorem ze9 : zeroA Try.prog 9 = some ([.str ByteArray.empty]) := by kernel_rfl
theorem sz12 : sizeA Try.prog 12 = some 1 := by kernel_rfl
theorem by12 : bytesA Try.prog 12 = some 8 := by kernel_rfl
theorem ag12 : aggA Try.prog 12 = some false := by kernel_rfl
theorem ze12 : zeroA Try.prog 12 = some ([.int .u64 0]) := by kernel_rfl
theorem sz13 : sizeA Try.prog 13 = some 2 := by kernel_rfl
theorem by13 : bytesA Try.prog 13 = some 24 := by kernel_rfl
theorem ag13 : aggA Try.prog 13 = some true := by kernel_rfl
theorem ze13 : zeroA Try.prog 13 = some ([.str ByteArray.empty, .int .u64 0]) := by kernel_rfl
theorem sz18 : sizeA Try.prog 18 = some 1 := by kernel_rfl
theorem by18 : bytesA Try.prog 18 = some 8 := by kernel_rfl
theorem ag18 : aggA Try.prog 18 = some true := by kernel_rfl
theorem ze18 : zeroA Try.prog 18 = some ([.nilptr]) := by kernel_rfl
theorem sz21 : sizeA Try.prog 21 = some 1 := by kernel_rfl
theorem by21 : bytesA Try.prog 21 = some 4 := by kernel_rfl
theorem ag21 : aggA Try.prog 21 = some false := by kernel_rfl
theorem ze21 : zeroA Try.prog 21 = some ([.int .i32 0]) := by kernel_rfl
theorem sz22 : sizeA Try.prog 22 = some 1 := by kernel_rfl
theorem by22 : bytesA Try.prog 22 = some 4 := by kernel_rfl
theorem ag22 : aggA Try.prog 22 = some false := by kernel_rfl
theorem ze22 : zeroA Try.prog 22 = some ([.int .u32 0]) := by kernel_rfl
theorem sz23 : sizeA Try.prog 23 = some 4 := by kernel_rfl
theorem by23 : bytesA Try.prog 23 = some 32 := by kernel_rfl
theorem ag23 : aggA Try.prog 23 = some true := by kernel_rfl
theorem ze23 : zeroA Try.prog 23 = some ([.int .i64 0, .int .i64 0, .int .i64 0, .int .u32 0]) := by kernel_rfl
theorem sz24 : sizeA Try.prog 24 = some 4 := by kernel_rfl
theorem by24 : bytesA Try.prog 24 = some 32 := by kernel_rfl
theorem ag24 : aggA Try.prog 24 = some true := by kernel_rfl
theorem ze24 : zeroA Try.prog 24 = some ([.int .i64 0, .int .i64 0, .int .i64 0, .int .u32 0]) := by kernel_rfl
theorem sz25 : sizeA Try.prog 25 = some 1 := by kernel_rfl
theorem by25 : bytesA Try.prog 25 = some 8 := by kernel_rfl
theorem ag25 : aggA Try.prog 25 = some false := by kernel_rfl
theorem ze25 : zeroA Try.prog 25 = some ([.int .i64 0]) := by kernel_rfl
theorem sz36 : sizeA Try.prog 36 = some 2 := by kernel_rfl
theorem by36 : bytesA Try.prog 36 = some 16 := by kernel_rfl
theorem ag36 : aggA Try.prog 36 = some true := by kernel_rfl
theorem ze36 : zeroA Try.prog 36 = some ([.int .i64 0, .int .i64 0]) := by kernel_rfl
theorem sz38 : sizeA Try.prog 38 = some 1 := by kernel_rfl
theorem by38 : bytesA Try.prog 38 = some 24 := by kernel_rfl
theorem ag38 : aggA Try.prog 38 = some false := by kernel_rfl
theorem ze38 : zeroA Try.prog 38 = some ([.nilslice]) := by kernel_rfl
theorem sz39 : sizeA Try.prog 39 = some 1 := by kernel_rfl
theorem by39 : bytesA Try.prog 39 = some 24 := by kernel_rfl
theorem ag39 : aggA Try.prog 39 = some false := by kernel_rfl
theorem ze39 : zeroA Try.prog 39 = some ([.nilslice]) := by kernel_rfl
theorem sz45 : sizeA Try.prog 45 = some 4 := by kernel_rfl
theorem by45 : bytesA Try.prog 45 = some 32 := by kernel_rfl
theorem ag45 : aggA Try.prog 45 = some true := by kernel_rfl
theorem ze45 : zeroA Try.prog 45 = some ([.int .i64 0, .bool false, .int .i64 0, .int .i64 0]) := by kernel_rfl
theorem sz46 : sizeA Try.prog 46 = some 4 := by kernel_rfl
theorem by46 : bytesA Try.prog 46 = some 32 := by kernel_rfl
theorem ag46 : aggA Try.prog 46 = some true := by kernel_rfl
theorem ze46 : zeroA Try.prog 46 = some ([.int .i64 0, .bool false, .int .i64 0, .int .i64 0]) := by kernel_rfl
theorem sz58 : sizeA Try.prog 58 = some 1 := by kernel_rfl
theorem by58 : bytesA Try.prog 58 = some 8 := by kernel_rfl
theorem ag58 : aggA Try.prog 58 = some false := by kernel_rfl
theorem ze58 : zeroA Try.prog 58 = some ([.int .u64 0]) := by kernel_rfl
theorem sz61 : sizeA Try.prog 61 = some 1 := by kernel_rfl
theorem by61 : bytesA Try.prog 61 = some 16 := by kernel_rfl
theorem ag61 : aggA Try.prog 61 = some false := by kernel_rfl
theorem ze61 : zeroA Try.prog 61 = some ([.nilif]) := by kernel_rfl
theorem sz63 : sizeA Try.prog 63 = some 0 := by kernel_rfl
theorem by63 : bytesA Try.prog 63 = some 0 := by kernel_rfl
theorem ag63 : aggA Try.prog 63 = some true := by kernel_rfl
theorem ze63 : zeroA Try.prog 63 = some ([]) := by kernel_rfl
theorem sz64 : sizeA Try.prog 64 = some 0 := by kernel_rfl
theorem by64 : bytesA Try.prog 64 = some 0 := by kernel_rfl
theorem ag64 : aggA Try.prog 64 = some true := by kernel_rfl
theorem ze64 : zeroA Try.prog 64 = some ([]) := by kernel_rfl
theorem sz66 : sizeA Try.prog 66 = some 0 := by kernel_rfl
theorem by66 : bytesA Try.prog 66 = some 0 := by kernel_rfl
theorem ag66 : aggA Try.prog 66 = some true := by kernel_rfl
theorem ze66 : zeroA Try.prog 66 = some ([]) := by kernel_rfl
theorem sz68 : sizeA Try.prog 68 = some 4 := by kernel_rfl
theorem by68 : bytesA Try.prog 68 = some 32 := by kernel_rfl
theorem ag68 : aggA Try.prog 68 = some true := by kernel_rfl
theorem ze68 : zeroA Try.prog 68 = some ([.int .i64 0, .bool false, .int .i64 0, .int .i64 0]) := by kernel_rfl
theorem sz69 : sizeA Try.prog 69 = some 4 := by kernel_rfl
theorem by69 : bytesA Try.prog 69 = some 32 := by kernel_rfl
theorem ag69 : aggA Try.prog 69 = some true := by kernel_rfl
theorem ze69 : zeroA Try.prog 69 = some ([.int .i64 0, .bool false, .int .i64 0, .int .i64 0]) := by kernel_rfl
theorem sz71 : sizeA Try.prog 71 = some 4 := by kernel_rfl
theorem by71 : bytesA Try.prog 71 = some 40 := by kernel_rfl
theorem ag71 : aggA Try.prog 71 = some true := by kernel_rfl
theorem ze71 : zeroA Try.prog 71 = some ([.nilptr, .nilptr, .nilptr, .str ByteArray.empty]) := by kernel_rfl
theorem sz80 : sizeA Try.prog 80 = some 1 := by kernel_rfl
theorem by80 : bytesA Try.prog 80 = some 8 := by kernel_rfl
theorem ag80 : aggA Try.prog 80 = some false := by kernel_rfl
theorem ze80 : zeroA Try.prog 80 = some ([.nilptr]) := by kernel_rfl
theorem sz83 : sizeA Try.prog 83 = some 11 := by kernel_rfl
theorem by83 : bytesA Try.prog 83 = some 48 := by kernel_rfl
theorem ag83 : aggA Try.prog 83 = some true := by kernel_rfl
theorem ze83 : zeroA Try.prog 83 = some ([.int .u64 0, .int .u64 0, .int .u32 0, .int .u8 0, .int .u8 0, .int .u8 0, .int .u8 0, .nilfunc, .nilptr, .int .i32 0, .int .i32 0]) := by kernel_rfl
theorem sz85 : sizeA Try.prog 85 = some 1 := by kernel_rfl
theorem by85 : bytesA Try.prog 85 = some 8 := by kernel_rfl
theorem ag85 : aggA Try.prog 85 = some false := by kernel_rfl
theorem ze85 : zeroA Try.prog 85 = some ([.nilptr]) := by kernel_rfl
theorem ld2 : ∀ {p : AAddr} {H : AH}, loadA Try.prog 2 p H = (H.get p).bind fun cs => cs[p.off]? := load_cell ag2
theorem pt2 : ∀ {cs : List AV} {o : Nat}, partA Try.prog 2 cs o = cs[o]? := part_cell ag2
theorem st2_0 : ∀ {k : IntKind} {a : Int} {H : AH} {i o : Nat}, storeA Try.prog 2 ⟨false, i, o⟩ (.int k a) H = (H.cells? i).bind fun l => gd (o < l.length) (some (H.set i (some (.cells (l.set o (.int k a)))))) := store_cell sz2 rfl
theorem st2_1 : ∀ {a : UInt8} {H : AH} {i o : Nat}, storeA Try.prog 2 ⟨false, i, o⟩ (bv a) H = (H.cells? i).bind fun l => gd (o < l.length) (some (H.set i (some (.cells (l.set o (bv a)))))) := store_cell sz2 rfl
theorem ifc2 : ∀ {v : AV}, ifaceA Try.prog 2 v = some (.iface 2 v) := iface_of Try.underlying2 rfl
theorem ass2 : ∀ {ok : Bool} {v : AV}, assertA Try.prog 2 ok v = assertV (zeroV Try.prog 2) 2 ok v := assert_of Try.underlying2 rfl
theorem cv2_2 : ∀ {k : IntKind} {a : Int} {H : AH}, convertA Try.prog 2 2 (.int k a) H = some (.int .i64 (IntKind.i64.wrap a), H) := conv_int Try.underlying2 (by rw [Try.underlying2]; rfl)
theorem cv3_2 : ∀ {k : IntKind} {a : Int} {H : AH}, convertA Try.prog 3 2 (.int k a) H = some (.int .i64 (IntKind.i64.wrap a), H) := conv_int Try.underlying2 (by rw [Try.underlying3]; rfl)
theorem cv5_2 : ∀ {k : IntKind} {a : Int} {H : AH}, convertA Try.prog 5 2 (.int k a) H = some (.int .i64 (IntKind.i64.wrap a), H) := conv_int Try.underlying2 (by rw [Try.underlying5]; rfl)
theorem cv12_2 : ∀ {k : IntKind} {a : Int} {H : AH}, convertA Try.prog 12 2 (.int k a) H = some (.int .i64 (IntKind.i64.wrap a), H) := conv_int Try.underlying2 (by rw [Try.underlying12]; rfl)
theorem cv21_2 : ∀ {k : IntKind} {a : Int} {H : AH}, convertA Try.prog 21 2 (.int k a) H = some (.int .i64 (IntKind.i64.wrap a), H) := conv_int Try.underlying2 (by rw [Try.underlying21]; rfl)
theorem cv22_2 : ∀ {k : IntKind} {a : Int} {H : AH}, convertA Try.prog 22 2 (.int k a) H = some (.int .i64 (IntKind.i64.wrap a), H) := conv_int Try.underlying2 (by rw [Try.underlying22]; rfl)
theorem cv25_2 : ∀ {k : IntKind} {a : Int} {H : AH}, convertA Try.prog 25 2 (.int k a) H = some (.int .i64 (IntKind.i64.wrap a), H) := conv_int Try.underlying2 (by rw [Try.underlying25]; rfl)
theorem cv58_2 : ∀ {k : IntKind} {a : Int} {H : AH}, convertA Try.prog 58 2 (.int k a) H = some (.int .i64 (IntKind.i64.wrap a), H) := conv_int Try.underlying2 (by rw [Try.underlying58]; rfl)
theorem ld3 : ∀ {p : AAddr} {H : AH}, loadA Try.prog 3 p H = (H.get p).bind fun cs => cs[p.off]? := load_cell ag3
theorem pt3 : ∀ {cs : List AV} {o : Nat}, partA Try.prog 3 cs o = cs[o]? := part_cell ag3
theorem st3_0 : ∀ {k : IntKind} {a : Int} {H : AH} {i o : Nat}, storeA Try.prog 3 ⟨false, i, o⟩ (.int k a) H = (H.cells? i).bind fun l => gd (o < l.length) (some (H.set i (some (.cells (l.set o (.int k a)))))) := store_cell sz3 rfl
theorem st3_1 : ∀ {a : UInt8} {H : AH} {i o : Nat}, storeA Try.prog 3 ⟨false, i, o⟩ (bv a) H = (H.cells? i).bind fun l => gd (o < l.length) (some (H.set i (some (.cells (l.set o (bv a)))))) := store_cell sz3 rfl
theorem ifc3 : ∀ {v : AV}, ifaceA Try.prog 3 v = some (.iface 3 v) := iface_of Try.underlying3 rfl
theorem ass3 : ∀ {ok : Bool} {v : AV}, assertA Try.prog 3 ok v = assertV (zeroV Try.prog 3) 3 ok v := assert_of Try.underlying3 rfl
theorem cv2_3 : ∀ {k : IntKind} {a : Int} {H : AH}, convertA Try.prog 2 3 (.int k a) H = some (.int .i64 (IntKind.i64.wrap a), H) := conv_int Try.underlying3 (by rw [Try.underlying2]; rfl)
theorem cv3_3 : ∀ {k : IntKind} {a : Int} {H : AH}, convertA Try.prog 3 3 (.int k a) H = some (.int .i64 (IntKind.i64.wrap a), H) := conv_int Try.underlying3 (by rw [Try.underlying3]; rfl)
theorem cv5_3 : ∀ {k : IntKind} {a : Int} {H : AH}, convertA Try.prog 5 3 (.int k a) H = some (.int .i64 (IntKind.i64.wrap a), H) := conv_int Try.underlying3 (by rw [Try.underlying5]; rfl)
theorem cv12_3 : ∀ {k : IntKind} {a : Int} {H : AH}, convertA Try.prog 12 3 (.int k a) H = some (.int .i64 (IntKind.i64.wrap a), H) := conv_int Try.underlying3 (by rw [Try.underlying12]; rfl)
theorem cv21_3 : ∀ {k : IntKind} {a : Int} {H : AH}, convertA Try.prog 21 3 (.int k a) H = some (.int .i64 (IntKind.i64.wrap a), H) := conv_int Try.underlying3 (by rw [Try.underlying21]; rfl)
theorem cv22_3 : ∀ {k : IntKind} {a : Int} {H : AH}, convertA Try.prog 22 3 (.int k a) H = some (.int .i64 (IntKind.i64.wrap a), H) := conv_int Try.underlying3 (by rw [Try.underlying22]; rfl)
theorem cv25_3 : ∀ {k : IntKind} {a : Int} {H : AH}, convertA Try.prog 25 3 (.int k a) H = some (.int .i64 (IntKind.i64.wrap a), H) := conv_int Try.underlying3 (by rw [Try.underlying25]; rfl)
theorem cv58_3 : ∀ {k : IntKind} {a : Int} {H : AH}, convertA Try.prog 58 3 (.int k a) H = some (.int .i64 (IntKind.i64.wrap a), H) := conv_int Try.underlying3 (by rw [Try.underlying58]; rfl)
theorem ld4 : ∀ {p : AAddr} {H : AH}, loadA Try.prog 4 p H = (H.get p).bind fun cs => cs[p.off]? := load_cell ag4
theorem pt4 : ∀ {cs : List AV} {o : Nat}, partA Try.prog 4 cs o = cs[o]? := part_cell ag4
theorem st4_0 : ∀ {a : Bool} {H : AH} {i o : Nat}, storeA Try.prog 4 ⟨false, i, o⟩ (.bool a) H = (H.cells? i).bind fun l => gd (o < l.length) (some (H.set i (some (.cells (l.set o (.bool a)))))) := store_cell sz4 rfl
theorem ifc4 : ∀ {v : AV}, ifaceA Try.prog 4 v = some (.iface 4 v) := iface_of Try.underlying4 rfl
theorem ass4 : ∀ {ok : Bool} {v : AV}, assertA Try.prog 4 ok v = assertV (zeroV Try.prog 4) 4 ok v := assert_of Try.underlying4 rfl
theorem eb4 : ∀ {x y : Bool}, binA Try.prog .eql 4 (.bool x) (.bool y) = some (.bool (x == y)) := bin_bool Try.underlying4
theorem nb4 : ∀ {x y : Bool}, binA Try.prog .neq 4 (.bool x) (.bool y) = some (.bool (!(x == y))) := bin_boolne Try.underlying4
theorem ld5 : ∀ {p : AAddr} {H : AH}, loadA Try.prog 5 p H = (H.get p).bind fun cs => cs[p.off]? := load_cell ag5
theorem pt5 : ∀ {cs : List AV} {o : Nat}, partA Try.prog 5 cs o = cs[o]? := part_cell ag5
theorem st5_0 : ∀ {k : IntKind} {a : Int} {H : AH} {i o : Nat}, storeA Try.prog 5 ⟨false, i, o⟩ (.int k a) H = (H.cells? i).bind fun l => gd (o < l.length) (some (H.set i (some (.cells (l.set o (.int k a)))))) := store_cell sz5 rfl
theorem st5_1 : ∀ {a : UInt8} {H : AH} {i o : Nat}, storeA Try.prog 5 ⟨false, i, o⟩ (bv a) H = (H.cells? i).bind fun l => gd (o < l.length) (some (H.set i (some (.cells (l.set o (bv a)))))) := store_cell sz5 rfl
theorem ifc5 : ∀ {v : AV}, ifaceA Try.prog 5 v = some (.iface 5 v) := iface_of Try.underlying5 rfl
theorem ass5 : ∀ {ok : Bool} {v : AV}, assertA Try.prog 5 ok v = assertV (zeroV Try.prog 5) 5 ok v := assert_of Try.underlying5 rfl
theorem cv2_5 : ∀ {k : IntKind} {a : Int} {H : AH}, convertA Try.prog 2 5 (.int k a) H = some (.int .u8 (IntKind.u8.wrap a), H) := conv_int Try.underlying5 (by rw [Try.underlying2]; rfl)
theorem cv3_5 : ∀ {k : IntKind} {a : Int} {H : AH}, convertA Try.prog 3 5 (.int k a) H = some (.int .u8 (IntKind.u8.wrap a), H) := conv_int Try.underlying5 (by rw [Try.underlying3]; rfl)
theorem cv5_5 : ∀ {k : IntKind} {a : Int} {H : AH}, convertA Try.prog 5 5 (.int k a) H = some (.int .u8 (IntKind.u8.wrap a), H) := conv_int Try.underlying5 (by rw [Try.underlying5]; rfl)
theorem cv12_5 : ∀ {k : IntKind} {a : Int} {H : AH}, convertA Try.prog 12 5 (.int k a) H = some (.int .u8 (IntKind.u8.wrap a), H) := conv_int Try.underlying5 (by rw [Try.underlying12]; rfl)
theorem cv21_5 : ∀ {k : IntKind} {a : Int} {H : AH}, convertA Try.prog 21 5 (.int k a) H = some (.int .u8 (IntKind.u8.wrap a), H) := conv_int Try.underlying5 (by rw [Try.underlying21]; rfl)
theorem cv22_5 : ∀ {k : IntKind} {a : Int} {H : AH}, convertA Try.prog 22 5 (.int k a) H = some (.int .u8 (IntKind.u8.wrap a), H) := conv_int Try.underlying5 (by rw [Try.underlying22]; rfl)
theorem cv25_5 : ∀ {k : IntKind} {a : Int} {H : AH}, convertA Try.prog 25 5 (.int k a) H = some (.int .u8 (IntKind.u8.wrap a), H) := conv_int Try.underlying5 (by rw [Try.underlying25]; rfl)
theorem cv58_5 : ∀ {k : IntKind} {a : Int} {H : AH}, convertA Try.prog 58 5 (.int k a) H = some (.int .u8 (IntKind.u8.wrap a), H) := conv_int Try.underlying5 (by rw [Try.underlying58]; rfl)
theorem ld7 : ∀ {p : AAddr} {H : AH}, loadA Try.prog 7 p H = (H.get p).bind fun cs => gd (p.off + 4 ≤ cs.length) (some (.agg ((cs.drop p.off).take 4))) := load_agg ag7 sz7
theorem pt7 : ∀ {cs : List AV} {o : Nat}, partA Try.prog 7 cs o = gd (o + 4 ≤ cs.length) (some (.agg ((cs.drop o).take 4))) := part_agg ag7 sz7
theorem eg7 : ∀ {a0 b0 : Int} {a1 b1 : Int} {a2 b2 : Bool} {a3 b3 : Int}, eqAgg Try.prog 7 (.agg [.int .i64 a0, .int .i64 a1, .bool a2, .int .u8 a3]) (.agg [.int .i64 b0, .int .i64 b1, .bool b2, .int .u8 b3]) = some (decide (a0 = b0) && (decide (a1 = b1) && ((a2 == b2) && (decide (a3 = b3) && true)))) := by intros; kernel_rfl
theorem ifc7 : ∀ {v : AV}, ifaceA Try.prog 7 v = some (.iface 7 v) := iface_of Try.underlying7 rfl
theorem ass7 : ∀ {ok : Bool} {v : AV}, assertA Try.prog 7 ok v = assertV (zeroV Try.prog 7) 7 ok v := assert_of Try.underlying7 rfl
theorem zv7 : zeroV Try.prog 7 = some (.agg [.int .i64 0, .int .i64 0, .bool false, .int .u8 0]) := by kernel_rfl
theorem sta7 : ∀ {vs : List AV} {H : AH} {i o : Nat}, storeA Try.prog 7 ⟨false, i, o⟩ (.agg vs) H = gd (vs.length = 4) (gdb (vs.all oneA) ((H.cells? i).bind fun l0 => gd (o + 4 ≤ l0.length) (some (H.set i (some (.cells (putL l0 o vs))))))) := store_aggs (n := 3) sz7
theorem fa7_0 : ∀ {p : AAddr}, fieldAddrA Try.prog 7 (.ptr p) 0 = some (.ptr ⟨p.ro, p.blk, p.off + 0⟩) := fa_struct Try.underlying7 (ft := 2) (o := 0) rfl (m := 0) sz2
theorem fl7_0 : ∀ {cs : List AV}, fieldA Try.prog 7 (.agg cs) 0 = partA Try.prog 2 cs 0 := fl_struct Try.underlying7 (ft := 2) (o := 0) rfl
theorem fa7_1 : ∀ {p : AAddr}, fieldAddrA Try.prog 7 (.ptr p) 1 = some (.ptr ⟨p.ro, p.blk, p.off + 1⟩) := fa_struct Try.underlying7 (ft := 3) (o := 1) rfl (m := 0) sz3
theorem fl7_1 : ∀ {cs : List AV}, fieldA Try.prog 7 (.agg cs) 1 = partA Try.prog 3 cs 1 := fl_struct Try.underlying7 (ft := 3) (o := 1) rfl
theorem fa7_2 : ∀ {p : AAddr}, fieldAddrA Try.prog 7 (.ptr p) 2 = some (.ptr ⟨p.ro, p.blk, p.off + 2⟩) := fa_struct Try.underlying7 (ft := 4) (o := 2) rfl (m := 0) sz4
theorem fl7_2 : ∀ {cs : List AV}, fieldA Try.prog 7 (.agg cs) 2 = partA Try.prog 4 cs 2 := fl_struct Try.underlying7 (ft := 4) (o := 2) rfl
theorem ld9 : ∀ {p : AAddr} {H : AH}, loadA Try.prog 9 p H = (H.get p).bind fun cs => cs[p.off]? := load_cell ag9
theorem pt9 : ∀ {cs : List AV} {o : Nat}, partA Try.prog 9 cs o = cs[o]? := part_cell ag9
theorem st9_0 : ∀ {a : ByteArray} {H : AH} {i o : Nat}, storeA Try.prog 9 ⟨false, i, o⟩ (.str a) H = (H.cells? i).bind fun l => gd (o < l.length) (some (H.set i (some (.cells (l.set o (.str a)))))) := store_cell sz9 rfl
theorem ifc9 : ∀ {v : AV}, ifaceA Try.prog 9 v = some (.iface 9 v) := iface_of Try.underlying9 rfl
theorem ass9 : ∀ {ok : Bool} {v : AV}, assertA Try.prog 9 ok v = assertV (zeroV Try.prog 9) 9 ok v := assert_of Try.underlying9 rfl
theorem ls9 : ∀ {s : ByteArray}, lenA Try.prog 9 (.str s) = some (.int .i64 s.size) := len_str Try.underlying9
theorem is9 : ∀ {s : ByteArray} {k : IntKind} {a : Int}, indexA Try.prog 9 (.str s) (.int k a) = gd (0 ≤ a) ((s[a.toNat]?).map fun b => .int .u8 b.toNat) := ix_str Try.underlying9
theorem ss9 : ∀ {s : ByteArray} {lo hi : Option AV}, sliceOpA Try.prog 9 (.str s) lo hi none = (optB hi s.size s.size).bind fun h => (optB lo h 0).map fun l => .str (s.extract l h) := slc_str Try.underlying9
theorem ld12 : ∀ {p : AAddr} {H : AH}, loadA Try.prog 12 p H = (H.get p).bind fun cs => cs[p.off]? := load_cell ag12
theorem pt12 : ∀ {cs : List AV} {o : Nat}, partA Try.prog 12 cs o = cs[o]? := part_cell ag12
theorem st12_0 : ∀ {k : IntKind} {a : Int} {H : AH} {i o : Nat}, storeA Try.prog 12 ⟨false, i, o⟩ (.int k a) H = (H.cells? i).bind fun l => gd (o < l.length) (some (H.set i (some (.cells (l.set o (.int k a)))))) := store_cell sz12 rfl
theorem st12_1 : ∀ {a : UInt8} {H : AH} {i o : Nat}, storeA Try.prog 12 ⟨false, i, o⟩ (bv a) H = (H.cells? i).bind fun l => gd (o < l.length) (some (H.set i (some (.cells (l.set o (bv a)))))) := store_cell sz12 rfl
theorem ifc12 : ∀ {v : AV}, ifaceA Try.prog 12 v = some (.iface 12 v) := iface_of Try.underlying12 rfl
theorem ass12 : ∀ {ok : Bool} {v : AV}, assertA Try.prog 12 ok v = assertV (zeroV Try.prog 12) 12 ok v := assert_of Try.underlying12 rfl
theorem cv2_12 : ∀ {k : IntKind} {a : Int} {H : AH}, convertA Try.prog 2 12 (.int k a) H = some (.int .u64 (IntKind.u64.wrap a), H) := conv_int Try.underlying12 (by rw [Try.underlying2]; rfl)
theorem cv3_12 : ∀ {k : IntKind} {a : Int} {H : AH}, convertA Try.prog 3 12 (.int k a) H = some (.int .u64 (IntKind.u64.wrap a), H) := conv_int Try.underlying12 (by rw [Try.underlying3]; rfl)
theorem cv5_12 : ∀ {k : IntKind} {a : Int} {H : AH}, convertA Try.prog 5 12 (.int k a) H = some (.int .u64 (IntKind.u64.wrap a), H) := conv_int Try.underlying12 (by rw [Try.underlying5]; rfl)
theorem cv12_12 : ∀ {k : IntKind} {a : Int} {H : AH}, convertA Try.prog 12 12 (.int k a) H = some (.int .u64 (IntKind.u64.wrap a), H) := conv_int Try.underlying12 (by rw [Try.underlying12]; rfl)
theorem cv21_12 : ∀ {k : IntKind} {a : Int} {H : AH}, convertA Try.prog 21 12 (.int k a) H = some (.int .u64 (IntKind.u64.wrap a), H) := conv_int Try.underlying12 (by rw [Try.underlying21]; rfl)
theorem cv22_12 : ∀ {k : IntKind} {a : Int} {H : AH}, convertA Try.prog 22 12 (.int k a) H = some (.int .u64 (IntKind.u64.wrap a), H) := conv_int Try.underlying12 (by rw [Try.underlying22]; rfl)
theorem cv25_12 : ∀ {k : IntKind} {a : Int} {H : AH}, convertA Try.prog 25 12 (.int k a) H = some (.int .u64 (IntKind.u64.wrap a), H) := conv_int Try.underlying12 (by rw [Try.underlying25]; rfl)
theorem cv58_12 : ∀ {k : IntKind} {a : Int} {H : AH}, convertA Try.prog 58 12 (.int k a) H = some (.int .u64 (IntKind.u64.wrap a), H) := conv_int Try.underlying12 (by rw [Try.underlying58]; rfl)
theorem ld13 : ∀ {p : AAddr} {H : AH}, loadA Try.prog 13 p H = (H.get p).bind fun cs => gd (p.off + 2 ≤ cs.length) (some (.agg ((cs.drop p.off).take 2))) := load_agg ag13 sz13
theorem pt13 : ∀ {cs : List AV} {o : Nat}, partA Try.prog 13 cs o = gd (o + 2 ≤ cs.length) (some (.agg ((cs.drop o).take 2))) := part_agg ag13 sz13
theorem ifc13 : ∀ {v : AV}, ifaceA Try.prog 13 v = some (.iface 13 v) := iface_of Try.underlying13 rfl
theorem ass13 : ∀ {ok : Bool} {v : AV}, assertA Try.prog 13 ok v = assertV (zeroV Try.prog 13) 13 ok v := assert_of Try.underlying13 rfl
theorem sta13 : ∀ {vs : List AV} {H : AH} {i o : Nat}, storeA Try.prog 13 ⟨false, i, o⟩ (.agg vs) H = gd (vs.length = 2) (gdb (vs.all oneA) ((H.cells? i).bind fun l0 => gd (o + 2 ≤ l0.length) (some (H.set i (some (.cells (putL l0 o vs))))))) := store_aggs (n := 1) sz13
theorem fa13_0 : ∀ {p : AAddr}, fieldAddrA Try.prog 13 (.ptr p) 0 = some (.ptr ⟨p.ro, p.blk, p.off + 0⟩) := fa_struct Try.underlying13 (ft := 9) (o := 0) rfl (m := 0) sz9
theorem fl13_0 : ∀ {cs : List AV}, fieldA Try.prog 13 (.agg cs) 0 = partA Try.prog 9 cs 0 := fl_struct Try.underlying13 (ft := 9) (o := 0) rfl
theorem fa13_1 : ∀ {p : AAddr}, fieldAddrA Try.prog 13 (.ptr p) 1 = some (.ptr ⟨p.ro, p.blk, p.off + 1⟩) := fa_struct Try.underlying13 (ft := 12) (o := 1) rfl (m := 0) sz12
theorem fl13_1 : ∀ {cs : List AV}, fieldA Try.prog 13 (.agg cs) 1 = partA Try.prog 12 cs 1 := fl_struct Try.underlying13 (ft := 12) (o := 1) rfl
theorem ld18 : ∀ {p : AAddr} {H : AH}, loadA Try.prog 18 p H = (H.get p).bind fun cs => gd (p.off + 1 ≤ cs.length) (some (.agg ((cs.drop p.off).take 1))) := load_agg ag18 sz18
theorem pt18 : ∀ {cs : List AV} {o : Nat}, partA Try.prog 18 cs o = gd (o + 1 ≤ cs.length) (some (.agg ((cs.drop o).take 1))) := part_agg ag18 sz18
theorem ifc18 : ∀ {v : AV}, ifaceA Try.prog 18 v = some (.iface 18 v) := iface_of Try.underlying18 rfl
theorem ass18 : ∀ {ok : Bool} {v : AV}, assertA Try.prog 18 ok v = assertV (zeroV Try.prog 18) 18 ok v := assert_of Try.underlying18 rfl
theorem sta18 : ∀ {vs : List AV} {H : AH} {i o : Nat}, storeA Try.prog 18 ⟨false, i, o⟩ (.agg vs) H = gd (vs.length = 1) (gdb (vs.all oneA) ((H.cells? i).bind fun l0 => gd (o + 1 ≤ l0.length) (some (H.set i (some (.cells (putL l0 o vs))))))) := store_aggs (n := 0) sz18
theorem ld21 : ∀ {p : AAddr} {H : AH}, loadA Try.prog 21 p H = (H.get p).bind fun cs => cs[p.off]? := load_cell ag21
theorem pt21 : ∀ {cs : List AV} {o : Nat}, partA Try.prog 21 cs o = cs[o]? := part_cell ag21
theorem st21_0 : ∀ {k : IntKind} {a : Int} {H : AH} {i o : Nat}, storeA Try.prog 21 ⟨false, i, o⟩ (.int k a) H = (H.cells? i).bind fun l => gd (o < l.length) (some (H.set i (some (.cells (l.set o (.int k a)))))) := store_cell sz21 rfl
theorem st21_1 : ∀ {a : UInt8} {H : AH} {i o : Nat}, storeA Try.prog 21 ⟨false, i, o⟩ (bv a) H = (H.cells? i).bind fun l => gd (o < l.length) (some (H.set i (some (.cells (l.set o (bv a)))))) := store_cell sz21 rfl
theorem ifc21 : ∀ {v : AV}, ifaceA Try.prog 21 v = some (.iface 21 v) := iface_of Try.underlying21 rfl
theorem ass21 : ∀ {ok : Bool} {v : AV}, assertA Try.prog 21 ok v = assertV (zeroV Try.prog 21) 21 ok v := assert_of Try.underlying21 rfl
theorem cv2_21 : ∀ {k : IntKind} {a : Int} {H : AH}, convertA Try.prog 2 21 (.int k a) H = some (.int .i32 (IntKind.i32.wrap a), H) := conv_int Try.underlying21 (by rw [Try.underlying2]; rfl)
theorem cv3_21 : ∀ {k : IntKind} {a : Int} {H : AH}, convertA Try.prog 3 21 (.int k a) H = some (.int .i32 (IntKind.i32.wrap a), H) := conv_int Try.underlying21 (by rw [Try.underlying3]; rfl)
theorem cv5_21 : ∀ {k : IntKind} {a : Int} {H : AH}, convertA Try.prog 5 21 (.int k a) H = some (.int .i32 (IntKind.i32.wrap a), H) := conv_int Try.underlying21 (by rw [Try.underlying5]; rfl)
theorem cv12_21 : ∀ {k : IntKind} {a : Int} {H : AH}, convertA Try.prog 12 21 (.int k a) H = some (.int .i32 (IntKind.i32.wrap a), H) := conv_int Try.underlying21 (by rw [Try.underlying12]; rfl)
theorem cv21_21 : ∀ {k : IntKind} {a : Int} {H : AH}, convertA Try.prog 21 21 (.int k a) H = some (.int .i32 (IntKind.i32.wrap a), H) := conv_int Try.underlying21 (by rw [Try.underlying21]; rfl)
theorem cv22_21 : ∀ {k : IntKind} {a : Int} {H : AH}, convertA Try.prog 22 21 (.int k a) H = some (.int .i32 (IntKind.i32.wrap a), H) := conv_int Try.underlying21 (by rw [Try.underlying22]; rfl)
theorem cv25_21 : ∀ {k : IntKind} {a : Int} {H : AH}, convertA Try.prog 25 21 (.int k a) H = some (.int .i32 (IntKind.i32.wrap a), H) := conv_int Try.underlying21 (by rw [Try.underlying25]; rfl)
theorem cv58_21 : ∀ {k : IntKind} {a : Int} {H : AH}, convertA Try.prog 58 21 (.int k a) H = some (.int .i32 (IntKind.i32.wrap a), H) := conv_int Try.underlying21 (by rw [Try.underlying58]; rfl)
theorem ld22 : ∀ {p : AAddr} {H : AH}, loadA Try.prog 22 p H = (H.get p).bind fun cs => cs[p.off]? := load_cell ag22
theorem pt22 : ∀ {cs : List AV} {o : Nat}, partA Try.prog 22 cs o = cs[o]? := part_cell ag22
theorem st22_0 : ∀ {k : IntKind} {a : Int} {H : AH} {i o : Nat}, storeA Try.prog 22 ⟨false, i, o⟩ (.int k a) H = (H.cells? i).bind fun l => gd (o < l.length) (some (H.set i (some (.cells (l.set o (.int k a)))))) := store_cell sz22 rfl
theorem st22_1 : ∀ {a : UInt8} {H : AH} {i o : Nat}, storeA Try.prog 22 ⟨false, i, o⟩ (bv a) H = (H.cells? i).bind fun l => gd (o < l.length) (some (H.set i (some (.cells (l.set o (bv a)))))) := store_cell sz22 rfl
theorem ifc22 : ∀ {v : AV}, ifaceA Try.prog 22 v = some (.iface 22 v) := iface_of Try.underlying22 rfl
theorem ass22 : ∀ {ok : Bool} {v : AV}, assertA Try.prog 22 ok v = assertV (zeroV Try.prog 22) 22 ok v := assert_of Try.underlying22 rfl
theorem cv2_22 : ∀ {k : IntKind} {a : Int} {H : AH}, convertA Try.prog 2 22 (.int k a) H = some (.int .u32 (IntKind.u32.wrap a), H) := conv_int Try.underlying22 (by rw [Try.underlying2]; rfl)
theorem cv3_22 : ∀ {k : IntKind} {a : Int} {H : AH}, convertA Try.prog 3 22 (.int k a) H = some (.int .u32 (IntKind.u32.wrap a), H) := conv_int Try.underlying22 (by rw [Try.underlying3]; rfl)
theorem cv5_22 : ∀ {k : IntKind} {a : Int} {H : AH}, convertA Try.prog 5 22 (.int k a) H = some (.int .u32 (IntKind.u32.wrap a), H) := conv_int Try.underlying22 (by rw [Try.underlying5]; rfl)
theorem cv12_22 : ∀ {k : IntKind} {a : Int} {H : AH}, convertA Try.prog 12 22 (.int k a) H = some (.int .u32 (IntKind.u32.wrap a), H) := conv_int Try.underlying22 (by rw [Try.underlying12]; rfl)
theorem cv21_22 : ∀ {k : IntKind} {a : Int} {H : AH}, convertA Try.prog 21 22 (.int k a) H = some (.int .u32 (IntKind.u32.wrap a), H) := conv_int Try.underlying22 (by rw [Try.underlying21]; rfl)
theorem cv22_22 : ∀ {k : IntKind} {a : Int} {H : AH}, convertA Try.prog 22 22 (.int k a) H = some (.int .u32 (IntKind.u32.wrap a), H) := conv_int Try.underlying22 (by rw [Try.underlying22]; rfl)
theorem cv25_22 : ∀ {k : IntKind} {a : Int} {H : AH}, convertA Try.prog 25 22 (.int k a) H = some (.int .u32 (IntKind.u32.wrap a), H) := conv_int Try.underlying22 (by rw [Try.underlying25]; rfl)
theorem cv58_22 : ∀ {k : IntKind} {a : Int} {H : AH}, convertA Try.prog 58 22 (.int k a) H = some (.int .u32 (IntKind.u32.wrap a), H) := conv_int Try.underlying22 (by rw [Try.underlying58]; rfl)
theorem ld23 : ∀ {p : AAddr} {H : AH}, loadA Try.prog 23 p H = (H.get p).bind fun cs => gd (p.off + 4 ≤ cs.length) (some (.agg ((cs.drop p.off).take 4))) := load_agg ag23 sz23
theorem pt23 : ∀ {cs : List AV} {o : Nat}, partA Try.prog 23 cs o = gd (o + 4 ≤ cs.length) (some (.agg ((cs.drop o).take 4))) := part_agg ag23 sz23
theorem eg23 : ∀ {a0 b0 : Int} {a1 b1 : Int} {a2 b2 : Int} {a3 b3 : Int}, eqAgg Try.prog 23 (.agg [.int .i64 a0, .int .i64 a1, .int .i64 a2, .int .u32 a3]) (.agg [.int .i64 b0, .int .i64 b1, .int .i64 b2, .int .u32 b3]) = some (decide (a0 = b0) && (decide (a1 = b1) && (decide (a2 = b2) && (decide (a3 = b3) && true)))) := by intros; kernel_rfl
theorem ifc23 : ∀ {v : AV}, ifaceA Try.prog 23 v = some (.iface 23 v) := iface_of Try.underlying23 rfl
theorem ass23 : ∀ {ok : Bool} {v : AV}, assertA Try.prog 23 ok v = assertV (zeroV Try.prog 23) 23 ok v := assert_of Try.underlying23 rfl
theorem zv23 : zeroV Try.prog 23 = some (.agg [.int .i64 0, .int .i64 0, .int .i64 0, .int .u32 0]) := by kernel_rfl
theorem sta23 : ∀ {vs : List AV} {H : AH} {i o : Nat}, storeA Try.prog 23 ⟨false, i, o⟩ (.agg vs) H = gd (vs.length = 4) (gdb (vs.all oneA) ((H.cells? i).bind fun l0 => gd (o + 4 ≤ l0.length) (some (H.set i (some (.cells (putL l0 o vs))))))) := store_aggs (n := 3) sz23
theorem fa23_0 : ∀ {p : AAddr}, fieldAddrA Try.prog 23 (.ptr p) 0 = some (.ptr ⟨p.ro, p.blk, p.off + 0⟩) := fa_struct Try.underlying23 (ft := 3) (o := 0) rfl (m := 0) sz3
theorem fl23_0 : ∀ {cs : List AV}, fieldA Try.prog 23 (.agg cs) 0 = partA Try.prog 3 cs 0 := fl_struct Try.underlying23 (ft := 3) (o := 0) rfl
theorem fa23_1 : ∀ {p : AAddr}, fieldAddrA Try.prog 23 (.ptr p) 1 = some (.ptr ⟨p.ro, p.blk, p.off + 1⟩) := fa_struct Try.underlying23 (ft := 3) (o := 1) rfl (m := 0) sz3
theorem fl23_1 : ∀ {cs : List AV}, fieldA Try.prog 23 (.agg cs) 1 = partA Try.prog 3 cs 1 := fl_struct Try.underlying23 (ft := 3) (o := 1) rfl
theorem fa23_2 : ∀ {p : AAddr}, fieldAddrA Try.prog 23 (.ptr p) 2 = some (.ptr ⟨p.ro, p.blk, p.off + 2⟩) := fa_struct Try.underlying23 (ft := 3) (o := 2) rfl (m := 0) sz3
theorem fl23_2 : ∀ {cs : List AV}, fieldA Try.prog 23 (.agg cs) 2 = partA Try.prog 3 cs 2 := fl_struct Try.underlying23 (ft := 3) (o := 2) rfl
theorem fa23_3 : ∀ {p : AAddr}, fieldAddrA Try.prog 23 (.ptr p) 3 = some (.ptr ⟨p.ro, p.blk, p.off + 3⟩) := fa_struct Try.underlying23 (ft := 22) (o := 3) rfl (m := 0) sz22
theorem fl23_3 : ∀ {cs : List AV}, fieldA Try.prog 23 (.agg cs) 3 = partA Try.prog 22 cs 3 := fl_struct Try.underlying23 (ft := 22) (o := 3) rfl
theorem ld24 : ∀ {p : AAddr} {H : AH}, loadA Try.prog 24 p H = (H.get p).bind fun cs => gd (p.off + 4 ≤ cs.length) (some (.agg ((cs.drop p.off).take 4))) := load_agg ag24 sz24
theorem pt24 : ∀ {cs : List AV} {o : Nat}, partA Try.prog 24 cs o = gd (o + 4 ≤ cs.length) (some (.agg ((cs.drop o).take 4))) := part_agg ag24 sz24
theorem eg24 : ∀ {a0 b0 : Int} {a1 b1 : Int} {a2 b2 : Int} {a3 b3 : Int}, eqAgg Try.prog 24 (.agg [.int .i64 a0, .int .i64 a1, .int .i64 a2, .int .u32 a3]) (.agg [.int .i64 b0, .int .i64 b1, .int .i64 b2, .int .u32 b3]) = some (decide (a0 = b0) && (decide (a1 = b1) && (decide (a2 = b2) && (decide (a3 = b3) && true)))) := by intros; kernel_rfl
theorem ifc24 : ∀ {v : AV}, ifaceA Try.prog 24 v = some (.iface 24 v) := iface_of Try.underlying24 rfl
theorem ass24 : ∀ {ok : Bool} {v : AV}, assertA Try.prog 24 ok v = assertV (zeroV Try.prog 24) 24 ok v := assert_of Try.underlying24 rfl
theorem zv24 : zeroV Try.prog 24 = some (.agg [.int .i64 0, .int .i64 0, .int .i64 0, .int .u32 0]) := by kernel_rfl
theorem sta24 : ∀ {vs : List AV} {H : AH} {i o : Nat}, storeA Try.prog 24 ⟨false, i, o⟩ (.agg vs) H = gd (vs.length = 4) (gdb (vs.all oneA) ((H.cells? i).bind fun l0 => gd (o + 4 ≤ l0.length) (some (H.set i (some (.cells (putL l0 o vs))))))) := store_aggs (n := 3) sz24
theorem fa24_0 : ∀ {p : AAddr}, fieldAddrA Try.prog 24 (.ptr p) 0 = some (.ptr ⟨p.ro, p.blk, p.off + 0⟩) := fa_struct Try.underlying24 (ft := 3) (o := 0) rfl (m := 0) sz3
theorem fl24_0 : ∀ {cs : List AV}, fieldA Try.prog 24 (.agg cs) 0 = partA Try.prog 3 cs 0 := fl_struct Try.underlying24 (ft := 3) (o := 0) rfl
theorem fa24_1 : ∀ {p : AAddr}, fieldAddrA Try.prog 24 (.ptr p) 1 = some (.ptr ⟨p.ro, p.blk, p.off + 1⟩) := fa_struct Try.underlying24 (ft := 3) (o := 1) rfl (m := 0) sz3
theorem fl24_1 : ∀ {cs : List AV}, fieldA Try.prog 24 (.agg cs) 1 = partA Try.prog 3 cs 1 := fl_struct Try.underlying24 (ft := 3) (o := 1) rfl
theorem fa24_2 : ∀ {p : AAddr}, fieldAddrA Try.prog 24 (.ptr p) 2 = some (.ptr ⟨p.ro, p.blk, p.off + 2⟩) := fa_struct Try.underlying24 (ft := 3) (o := 2) rfl (m := 0) sz3
theorem fl24_2 : ∀ {cs : List AV}, fieldA Try.prog 24 (.agg cs) 2 = partA Try.prog 3 cs 2 := fl_struct Try.underlying24 (ft := 3) (o := 2) rfl
theorem fa24_3 : ∀ {p : AAddr}, fieldAddrA Try.prog 24 (.ptr p) 3 = some (.ptr ⟨p.ro, p.blk, p.off + 3⟩) := fa_struct Try.underlying24 (ft := 22) (o := 3) rfl (m := 0) sz22
theorem fl24_3 : ∀ {cs : List AV}, fieldA Try.prog 24 (.agg cs) 3 = partA Try.prog 22 cs 3 := fl_struct Try.underlying24 (ft := 22) (o := 3) rfl
theorem ld25 : ∀ {p : AAddr} {H : AH}, loadA Try.prog 25 p H = (H.get p).bind fun cs => cs[p.off]? := load_cell ag25
theorem pt25 : ∀ {cs : List AV} {o : Nat}, partA Try.prog 25 cs o = cs[o]? := part_cell ag25
theorem st25_0 : ∀ {k : IntKind} {a : Int} {H : AH} {i o : Nat}, storeA Try.prog 25 ⟨false, i, o⟩ (.int k a) H = (H.cells? i).bind fun l => gd (o < l.length) (some (H.set i (some (.cells (l.set o (.int k a)))))) := store_cell sz25 rfl
theorem st25_1 : ∀ {a : UInt8} {H : AH} {i o : Nat}, storeA Try.prog 25 ⟨false, i, o⟩ (bv a) H = (H.cells? i).bind fun l => gd (o < l.length) (some (H.set i (some (.cells (l.set o (bv a)))))) := store_cell sz25 rfl
theorem ifc25 : ∀ {v : AV}, ifaceA Try.prog 25 v = some (.iface 25 v) := iface_of Try.underlying25 rfl
theorem ass25 : ∀ {ok : Bool} {v : AV}, assertA Try.prog 25 ok v = assertV (zeroV Try.prog 25) 25 ok v := assert_of Try.underlying25 rfl
theorem cv2_25 : ∀ {k : IntKind} {a : Int} {H : AH}, convertA Try.prog 2 25 (.int k a) H = some (.int .i64 (IntKind.i64.wrap a), H) := conv_int Try.underlying25 (by rw [Try.underlying2]; rfl)
theorem cv3_25 : ∀ {k : IntKind} {a : Int} {H : AH}, convertA Try.prog 3 25 (.int k a) H = some (.int .i64 (IntKind.i64.wrap a), H) := conv_int Try.underlying25 (by rw [Try.underlying3]; rfl)
theorem cv5_25 : ∀ {k : IntKind} {a : Int} {H : AH}, convertA Try.prog 5 25 (.int k a) H = some (.int .i64 (IntKind.i64.wrap a), H) := conv_int Try.underlying25 (by rw [Try.underlying5]; rfl)
theorem cv12_25 : ∀ {k : IntKind} {a : Int} {H : AH}, convertA Try.prog 12 25 (.int k a) H = some (.int .i64 (IntKind.i64.wrap a), H) := conv_int Try.underlying25 (by rw [Try.underlying12]; rfl)
theorem cv21_25 : ∀ {k : IntKind} {a : Int} {H : AH}, convertA Try.prog 21 25 (.int k a) H = some (.int .i64 (IntKind.i64.wrap a), H) := conv_int Try.underlying25 (by rw [Try.underlying21]; rfl)
theorem cv22_25 : ∀ {k : IntKind} {a : Int} {H : AH}, convertA Try.prog 22 25 (.int k a) H = some (.int .i64 (IntKind.i64.wrap a), H) := conv_int Try.underlying25 (by rw [Try.underlying22]; rfl)
theorem cv25_25 : ∀ {k : IntKind} {a : Int} {H : AH}, convertA Try.prog 25 25 (.int k a) H = some (.int .i64 (IntKind.i64.wrap a), H) := conv_int Try.underlying25 (by rw [Try.underlying25]; rfl)
theorem cv58_25 : ∀ {k : IntKind} {a : Int} {H : AH}, convertA Try.prog 58 25 (.int k a) H = some (.int .i64 (IntKind.i64.wrap a), H) := conv_int Try.underlying25 (by rw [Try.underlying58]; rfl)
theorem ld36 : ∀ {p : AAddr} {H : AH}, loadA Try.prog 36 p H = (H.get p).bind fun cs => gd (p.off + 2 ≤ cs.length) (some (.agg ((cs.drop p.off).take 2))) := load_agg ag36 sz36
theorem pt36 : ∀ {cs : List AV} {o : Nat}, partA Try.prog 36 cs o = gd (o + 2 ≤ cs.length) (some (.agg ((cs.drop o).take 2))) := part_agg ag36 sz36
theorem eg36 : ∀ {a0 b0 : Int} {a1 b1 : Int}, eqAgg Try.prog 36 (.agg [.int .i64 a0, .int .i64 a1]) (.agg [.int .i64 b0, .int .i64 b1]) = some (decide (a0 = b0) && (decide (a1 = b1) && true)) := by intros; kernel_rfl
theorem ifc36 : ∀ {v : AV}, ifaceA Try.prog 36 v = some (.iface 36 v) := iface_of Try.underlying36 rfl
theorem ass36 : ∀ {ok : Bool} {v : AV}, assertA Try.prog 36 ok v = assertV (zeroV Try.prog 36) 36 ok v := assert_of Try.underlying36 rfl
theorem zv36 : zeroV Try.prog 36 = some (.agg [.int .i64 0, .int .i64 0]) := by kernel_rfl
theorem sta36 : ∀ {vs : List AV} {H : AH} {i o : Nat}, storeA Try.prog 36 ⟨false, i, o⟩ (.agg vs) H = gd (vs.length = 2) (gdb (vs.all oneA) ((H.cells? i).bind fun l0 => gd (o + 2 ≤ l0.length) (some (H.set i (some (.cells (putL l0 o vs))))))) := store_aggs (n := 1) sz36
theorem la36 : ∀ {v : AV}, lenA Try.prog 36 v = some (.int .i64 2) := len_arr Try.underlying36
theorem ia36 : ∀ {p : AAddr} {k : IntKind} {a : Int}, indexAddrA Try.prog 36 (.ptr p) (.int k a) = gd (0 ≤ a ∧ a < (2 : Nat)) (some (.ptr ⟨p.ro, p.blk, p.off + a.toNat * 1⟩)) := ixa_arr Try.underlying36 sz3
theorem xa36 : ∀ {cs : List AV} {k : IntKind} {a : Int}, indexA Try.prog 36 (.agg cs) (.int k a) = gd (0 ≤ a ∧ a < (2 : Nat)) (partA Try.prog 3 cs (a.toNat * 1)) := ix_arr Try.underlying36 sz3
theorem sa36 : ∀ {p : AAddr} {lo hi mx : Option AV}, sliceOpA Try.prog 36 (.ptr p) lo hi mx = cutKnown p 1 2 2 lo hi mx := slc_arr Try.underlying36 sz3
theorem ld38 : ∀ {p : AAddr} {H : AH}, loadA Try.prog 38 p H = (H.get p).bind fun cs => cs[p.off]? := load_cell ag38
theorem pt38 : ∀ {cs : List AV} {o : Nat}, partA Try.prog 38 cs o = cs[o]? := part_cell ag38
theorem st38_0 : ∀ {a : AAddr} {n : Nat} {c : Cap} {H : AH} {i o : Nat}, storeA Try.prog 38 ⟨false, i, o⟩ (.slice a n c) H = (H.cells? i).bind fun l => gd (o < l.length) (some (H.set i (some (.cells (l.set o (.slice a n c)))))) := store_cell sz38 rfl
theorem st38_1 : ∀  {H : AH} {i o : Nat}, storeA Try.prog 38 ⟨false, i, o⟩ .nilslice H = (H.cells? i).bind fun l => gd (o < l.length) (some (H.set i (some (.cells (l.set o .nilslice))))) := store_cell sz38 rfl
theorem ifc38 : ∀ {v : AV}, ifaceA Try.prog 38 v = some (.iface 38 v) := iface_of Try.underlying38 rfl
theorem ass38 : ∀ {ok : Bool} {v : AV}, assertA Try.prog 38 ok v = assertV (zeroV Try.prog 38) 38 ok v := assert_of Try.underlying38 rfl
theorem ll38 : ∀ {p : AAddr} {n : Nat} {c : Cap}, lenA Try.prog 38 (.slice p n c) = some (.int .i64 n) := len_slice Try.underlying38
theorem ln38 : lenA Try.prog 38 .nilslice = some (.int .i64 0) := len_nil Try.underlying38
theorem ia38 : ∀ {p : AAddr} {n : Nat} {c : Cap} {k : IntKind} {a : Int}, indexAddrA Try.prog 38 (.slice p n c) (.int k a) = gd (0 ≤ a ∧ a < n) (some (.ptr ⟨p.ro, p.blk, p.off + a.toNat * 4⟩)) := ixa_slice Try.underlying38 sz46
theorem sk38 : ∀ {p : AAddr} {n c : Nat} {lo hi mx : Option AV}, sliceOpA Try.prog 38 (.slice p n (.known c)) lo hi mx = cutKnown p 4 n c lo hi mx := slc_known Try.underlying38 sz46
theorem sg38 : ∀ {p : AAddr} {n : Nat} {lo hi : Option AV}, sliceOpA Try.prog 38 (.slice p n (.grow 4)) lo hi none = if p.ro = false then (optB hi n n).bind fun h => (optB lo h 0).map fun l => .slice ⟨false, p.blk, p.off + l * 4⟩ (h - l) (.grow 4) else none := slc_grow Try.underlying38 sz46
theorem sn38 : ∀ {lo hi : Option AV}, sliceOpA Try.prog 38 .nilslice lo hi none = (optB hi 0 0).bind fun h => (optB lo h 0).map fun _ => .nilslice := slc_nil Try.underlying38 sz46
theorem ens38 : ∀ {p : AAddr} {n : Nat} {c : Cap}, binA Try.prog .eql 38 (.slice p n c) .nilslice = if sureSlice n c then some (.bool false) else none := eq_nil_slice Try.underlying38
theorem nns38 : ∀ {p : AAddr} {n : Nat} {c : Cap}, binA Try.prog .neq 38 (.slice p n c) .nilslice = if sureSlice n c then some (.bool true) else none := ne_nil_slice Try.underlying38
theorem enn38 : binA Try.prog .eql 38 .nilslice .nilslice = some (.bool true) := eq_nil_nil Try.underlying38
theorem nnn38 : binA Try.prog .neq 38 .nilslice .nilslice = some (.bool false) := ne_nil_nil Try.underlying38
theorem cp38 : ∀ {p : AAddr} {n : Nat} {c : Cap} {x : AV} {H : AH}, copyA Try.prog 38 (.slice p n c) x H = (newsA H 4 x).bind fun kn => if p.ro = false ∧ (H.cells? p.blk).isSome then (storeCellsA H p.blk p.off (kn.2.take (min kn.1 n * 4))).map fun H1 => (.int .i64 (min kn.1 n : Nat), H1) else none := copy_slice Try.underlying38 sz46
theorem cn38 : ∀ {x : AV} {H : AH}, copyA Try.prog 38 .nilslice x H = (newsA H 4 x).bind fun kn => some (.int .i64 0, H) := copy_nil Try.underlying38 sz46
theorem mk38 : ∀ {k k1 : IntKind} {a b : Int} {H : AH}, makeSliceA Try.prog 38 (.int k a) (.int k1 b) H = gd (0 ≤ a ∧ a ≤ b ∧ b ≤ 140737488355328 ∧ b * (32 : Nat) ≤ 140737488355328) (some (.slice ⟨false, H.n, 0⟩ a.toNat (.known b.toNat), H.push (some (.cells (repA ([.int .i64 0, .bool false, .int .i64 0, .int .i64 0]) b.toNat))))) := make_slice Try.underlying38 sz46 by46 ze46 ⟨by simp, by decide⟩
theorem bs38 : ∀ {len : Nat} {parts : List (Nat × AV)} {H : AH}, len * 4 ≤ 16777216 → buildSliceA Try.prog 38 len parts H = (fillA (fun i => some (i * 4, 4)) (zerosL ([.int .i64 0, .bool false, .int .i64 0, .int .i64 0]) len) parts).map fun cells => (.slice ⟨false, H.n, 0⟩ len (.known len), H.push (some (.cells cells))) := fun h => build_lit Try.underlying38 sz46 ze46 ⟨by simp, by decide⟩ h
theorem ap38 : ∀ {s x : AV} {H : AH}, appendA Try.prog 38 38 s x H = (newsA H 4 x).bind fun kn => if kn.2.all oneA = true then appendTo 4 32 H kn.1 kn.2 s else none := app_slice Try.underlying38 sz46 by46 ze46 ⟨by simp, by decide⟩
theorem ai38_3 : ∀ {s : AV} {l : Int} {H : AH}, appendA Try.prog 38 3 s (.int .i64 l) H = gd (0 ≤ l ∧ l ≤ 140737488355328) (gdb ((repA ([.int .i64 0, .bool false, .int .i64 0, .int .i64 0]) l.toNat).all oneA) (appendTo 4 32 H l.toNat (repA ([.int .i64 0, .bool false, .int .i64 0, .int .i64 0]) l.toNat) s)) := app_int Try.underlying38 sz46 by46 ze46 ⟨by simp, by decide⟩ Try.underlying3
theorem ld39 : ∀ {p : AAddr} {H : AH}, loadA Try.prog 39 p H = (H.get p).bind fun cs => cs[p.off]? := load_cell ag39
theorem pt39 : ∀ {cs : List AV} {o : Nat}, partA Try.prog 39 cs o = cs[o]? := part_cell ag39
theorem st39_0 : ∀ {a : AAddr} {n : Nat} {c : Cap} {H : AH} {i o : Nat}, storeA Try.prog 39 ⟨false, i, o⟩ (.slice a n c) H = (H.cells? i).bind fun l => gd (o < l.length) (some (H.set i (some (.cells (l.set o (.slice a n c)))))) := store_cell sz39 rfl
theorem st39_1 : ∀  {H : AH} {i o : Nat}, storeA Try.prog 39 ⟨false, i, o⟩ .nilslice H = (H.cells? i).bind fun l => gd (o < l.length) (some (H.set i (some (.cells (l.set o .nilslice))))) := store_cell sz39 rfl
theorem ifc39 : ∀ {v : AV}, ifaceA Try.prog 39 v = some (.iface 39 v) := iface_of Try.underlying39 rfl
theorem ass39 : ∀ {ok : Bool} {v : AV}, assertA Try.prog 39 ok v = assertV (zeroV Try.prog 39) 39 ok v := assert_of Try.underlying39 rfl
theorem ll39 : ∀ {p : AAddr} {n : Nat} {c : Cap}, lenA Try.prog 39 (.slice p n c) = some (.int .i64 n) := len_slice Try.underlying39
theorem ln39 : lenA Try.prog 39 .nilslice = some (.int .i64 0) := len_nil Try.underlying39
theorem ia39 : ∀ {p : AAddr} {n : Nat} {c : Cap} {k : IntKind} {a : Int}, indexAddrA Try.prog 39 (.slice p n c) (.int k a) = gd (0 ≤ a ∧ a < n) (some (.ptr ⟨p.ro, p.blk, p.off + a.toNat * 1⟩)) := ixa_slice Try.underlying39 sz5
theorem sk39 : ∀ {p : AAddr} {n c : Nat} {lo hi mx : Option AV}, sliceOpA Try.prog 39 (.slice p n (.known c)) lo hi mx = cutKnown p 1 n c lo hi mx := slc_known Try.underlying39 sz5
theorem sg39 : ∀ {p : AAddr} {n : Nat} {lo hi : Option AV}, sliceOpA Try.prog 39 (.slice p n (.grow 1)) lo hi none = if p.ro = false then (optB hi n n).bind fun h => (optB lo h 0).map fun l => .slice ⟨false, p.blk, p.off + l * 1⟩ (h - l) (.grow 1) else none := slc_grow Try.underlying39 sz5
theorem sn39 : ∀ {lo hi : Option AV}, sliceOpA Try.prog 39 .nilslice lo hi none = (optB hi 0 0).bind fun h => (optB lo h 0).map fun _ => .nilslice := slc_nil Try.underlying39 sz5
theorem ens39 : ∀ {p : AAddr} {n : Nat} {c : Cap}, binA Try.prog .eql 39 (.slice p n c) .nilslice = if sureSlice n c then some (.bool false) else none := eq_nil_slice Try.underlying39
theorem nns39 : ∀ {p : AAddr} {n : Nat} {c : Cap}, binA Try.prog .neq 39 (.slice p n c) .nilslice = if sureSlice n c then some (.bool true) else none := ne_nil_slice Try.underlying39
theorem enn39 : binA Try.prog .eql 39 .nilslice .nilslice = some (.bool true) := eq_nil_nil Try.underlying39
theorem nnn39 : binA Try.prog .neq 39 .nilslice .nilslice = some (.bool false) := ne_nil_nil Try.underlying39
theorem cp39 : ∀ {p : AAddr} {n : Nat} {c : Cap} {x : AV} {H : AH}, copyA Try.prog 39 (.slice p n c) x H = (newsA H 1 x).bind fun kn => if p.ro = false ∧ (H.cells? p.blk).isSome then (storeCellsA H p.blk p.off (kn.2.take (min kn.1 n * 1))).map fun H1 => (.int .i64 (min kn.1 n : Nat), H1) else none := copy_slice Try.underlying39 sz5
theorem cn39 : ∀ {x : AV} {H : AH}, copyA Try.prog 39 .nilslice x H = (newsA H 1 x).bind fun kn => some (.int .i64 0, H) := copy_nil Try.underlying39 sz5
theorem mk39 : ∀ {k k1 : IntKind} {a b : Int} {H : AH}, makeSliceA Try.prog 39 (.int k a) (.int k1 b) H = gd (0 ≤ a ∧ a ≤ b ∧ b ≤ 140737488355328 ∧ b * (1 : Nat) ≤ 140737488355328) (some (.slice ⟨false, H.n, 0⟩ a.toNat (.known b.toNat), H.push (some (.cells (repA ([.int .u8 0]) b.toNat))))) := make_slice Try.underlying39 sz5 by5 ze5 ⟨by simp, by decide⟩
theorem bs39 : ∀ {len : Nat} {parts : List (Nat × AV)} {H : AH}, len * 1 ≤ 16777216 → buildSliceA Try.prog 39 len parts H = (fillA (fun i => some (i * 1, 1)) (zerosL ([.int .u8 0]) len) parts).map fun cells => (.slice ⟨false, H.n, 0⟩ len (.known len), H.push (some (.cells cells))) := fun h => build_lit Try.underlying39 sz5 ze5 ⟨by simp, by decide⟩ h
theorem ap39 : ∀ {s x : AV} {H : AH}, appendA Try.prog 39 39 s x H = (newsA H 1 x).bind fun kn => if kn.2.all oneA = true then appendTo 1 1 H kn.1 kn.2 s else none := app_slice Try.underlying39 sz5 by5 ze5 ⟨by simp, by decide⟩
theorem ai39_3 : ∀ {s : AV} {l : Int} {H : AH}, appendA Try.prog 39 3 s (.int .i64 l) H = gd (0 ≤ l ∧ l ≤ 140737488355328) (gdb ((repA ([.int .u8 0]) l.toNat).all oneA) (appendTo 1 1 H l.toNat (repA ([.int .u8 0]) l.toNat) s)) := app_int Try.underlying39 sz5 by5 ze5 ⟨by simp, by decide⟩ Try.underlying3
theorem aq39_9 : ∀ {s x : AV} {H : AH}, appendA Try.prog 39 9 s x H = (newsA H 1 x).bind fun kn => if kn.2.all oneA = true then appendTo 1 1 H kn.1 kn.2 s else none := app_str Try.underlying39 sz5 by5 ze5 ⟨by simp, by decide⟩ Try.underlying9
theorem tx39_9 : ∀ {p : AAddr} {n : Nat} {c : Cap} {H : AH}, convertA Try.prog 39 9 (.slice p n c) H = (rowA H 1 (.slice p n c)).bind fun cs => (bytesOfA cs).map fun bs => (.str ⟨bs.toArray⟩, H) := conv_text Try.underlying39 Try.underlying9 Try.underlying5
theorem tn39_9 : ∀ {H : AH}, convertA Try.prog 39 9 .nilslice H = some (.str ⟨#[]⟩, H) := conv_text_nil Try.underlying39 Try.underlying9 Try.underlying5
theorem ld45 : ∀ {p : AAddr} {H : AH}, loadA Try.prog 45 p H = (H.get p).bind fun cs => gd (p.off + 4 ≤ cs.length) (some (.agg ((cs.drop p.off).take 4))) := load_agg ag45 sz45
theorem pt45 : ∀ {cs : List AV} {o : Nat}, partA Try.prog 45 cs o = gd (o + 4 ≤ cs.length) (some (.agg ((cs.drop o).take 4))) := part_agg ag45 sz45
theorem eg45 : ∀ {a0 b0 : Int} {a1 b1 : Bool} {a2 b2 : Int} {a3 b3 : Int}, eqAgg Try.prog 45 (.agg [.int .i64 a0, .bool a1, .int .i64 a2, .int .i64 a3]) (.agg [.int .i64 b0, .bool b1, .int .i64 b2, .int .i64 b3]) = some (decide (a0 = b0) && ((a1 == b1) && (decide (a2 = b2) && (decide (a3 = b3) && true)))) := by intros; kernel_rfl
theorem ifc45 : ∀ {v : AV}, ifaceA Try.prog 45 v = some (.iface 45 v) := iface_of Try.underlying45 rfl
theorem ass45 : ∀ {ok : Bool} {v : AV}, assertA Try.prog 45 ok v = assertV (zeroV Try.prog 45) 45 ok v := assert_of Try.underlying45 rfl
theorem zv45 : zeroV Try.prog 45 = some (.agg [.int .i64 0, .bool false, .int .i64 0, .int .i64 0]) := by kernel_rfl
theorem sta45 : ∀ {vs : List AV} {H : AH} {i o : Nat}, storeA Try.prog 45 ⟨false, i, o⟩ (.agg vs) H = gd (vs.length = 4) (gdb (vs.all oneA) ((H.cells? i).bind fun l0 => gd (o + 4 ≤ l0.length) (some (H.set i (some (.cells (putL l0 o vs))))))) := store_aggs (n := 3) sz45
theorem fa45_0 : ∀ {p : AAddr}, fieldAddrA Try.prog 45 (.ptr p) 0 = some (.ptr ⟨p.ro, p.blk, p.off + 0⟩) := fa_struct Try.underlying45 (ft := 3) (o := 0) rfl (m := 0) sz3
theorem fl45_0 : ∀ {cs : List AV}, fieldA Try.prog 45 (.agg cs) 0 = partA Try.prog 3 cs 0 := fl_struct Try.underlying45 (ft := 3) (o := 0) rfl
theorem fa45_1 : ∀ {p : AAddr}, fieldAddrA Try.prog 45 (.ptr p) 1 = some (.ptr ⟨p.ro, p.blk, p.off + 1⟩) := fa_struct Try.underlying45 (ft := 4) (o := 1) rfl (m := 0) sz4
theorem fl45_1 : ∀ {cs : List AV}, fieldA Try.prog 45 (.agg cs) 1 = partA Try.prog 4 cs 1 := fl_struct Try.underlying45 (ft := 4) (o := 1) rfl
theorem fa45_2 : ∀ {p : AAddr}, fieldAddrA Try.prog 45 (.ptr p) 2 = some (.ptr ⟨p.ro, p.blk, p.off + 2⟩) := fa_struct Try.underlying45 (ft := 3) (o := 2) rfl (m := 0) sz3
theorem fl45_2 : ∀ {cs : List AV}, fieldA Try.prog 45 (.agg cs) 2 = partA Try.prog 3 cs 2 := fl_struct Try.underlying45 (ft := 3) (o := 2) rfl
theorem fa45_3 : ∀ {p : AAddr}, fieldAddrA Try.prog 45 (.ptr p) 3 = some (.ptr ⟨p.ro, p.blk, p.off + 3⟩) := fa_struct Try.underlying45 (ft := 3) (o := 3) rfl (m := 0) sz3
theorem fl45_3 : ∀ {cs : List AV}, fieldA Try.prog 45 (.agg cs) 3 = partA Try.prog 3 cs 3 := fl_struct Try.underlying45 (ft := 3) (o := 3) rfl
theorem ld46 : ∀ {p : AAddr} {H : AH}, loadA Try.prog 46 p H = (H.get p).bind fun cs => gd (p.off + 4 ≤ cs.length) (some (.agg ((cs.drop p.off).take 4))) := load_agg ag46 sz46
theorem pt46 : ∀ {cs : List AV} {o : Nat}, partA Try.prog 46 cs o = gd (o + 4 ≤ cs.length) (some (.agg ((cs.drop o).take 4))) := part_agg ag46 sz46
theorem eg46 : ∀ {a0 b0 : Int} {a1 b1 : Bool} {a2 b2 : Int} {a3 b3 : Int}, eqAgg Try.prog 46 (.agg [.int .i64 a0, .bool a1, .int .i64 a2, .int .i64 a3]) (.agg [.int .i64 b0, .bool b1, .int .i64 b2, .int .i64 b3]) = some (decide (a0 = b0) && ((a1 == b1) && (decide (a2 = b2) && (decide (a3 = b3) && true)))) := by intros; kernel_rfl
theorem ifc46 : ∀ {v : AV}, ifaceA Try.prog 46 v = some (.iface 46 v) := iface_of Try.underlying46 rfl
theorem ass46 : ∀ {ok : Bool} {v : AV}, assertA Try.prog 46 ok v = assertV (zeroV Try.prog 46) 46 ok v := assert_of Try.underlying46 rfl
theorem zv46 : zeroV Try.prog 46 = some (.agg [.int .i64 0, .bool false, .int .i64 0, .int .i64 0]) := by kernel_rfl
theorem sta46 : ∀ {vs : List AV} {H : AH} {i o : Nat}, storeA Try.prog 46 ⟨false, i, o⟩ (.agg vs) H = gd (vs.length = 4) (gdb (vs.all oneA) ((H.cells? i).bind fun l0 => gd (o + 4 ≤ l0.length) (some (H.set i (some (.cells (putL l0 o vs))))))) := store_aggs (n := 3) sz46
theorem fa46_0 : ∀ {p : AAddr}, fieldAddrA Try.prog 46 (.ptr p) 0 = some (.ptr ⟨p.ro, p.blk, p.off + 0⟩) := fa_struct Try.underlying46 (ft := 3) (o := 0) rfl (m := 0) sz3
theorem fl46_0 : ∀ {cs : List AV}, fieldA Try.prog 46 (.agg cs) 0 = partA Try.prog 3 cs 0 := fl_struct Try.underlying46 (ft := 3) (o := 0) rfl
theorem fa46_1 : ∀ {p : AAddr}, fieldAddrA Try.prog 46 (.ptr p) 1 = some (.ptr ⟨p.ro, p.blk, p.off + 1⟩) := fa_struct Try.underlying46 (ft := 4) (o := 1) rfl (m := 0) sz4
theorem fl46_1 : ∀ {cs : List AV}, fieldA Try.prog 46 (.agg cs) 1 = partA Try.prog 4 cs 1 := fl_struct Try.underlying46 (ft := 4) (o := 1) rfl
theorem fa46_2 : ∀ {p : AAddr}, fieldAddrA Try.prog 46 (.ptr p) 2 = some (.ptr ⟨p.ro, p.blk, p.off + 2⟩) := fa_struct Try.underlying46 (ft := 3) (o := 2) rfl (m := 0) sz3
theorem fl46_2 : ∀ {cs : List AV}, fieldA Try.prog 46 (.agg cs) 2 = partA Try.prog 3 cs 2 := fl_struct Try.underlying46 (ft := 3) (o := 2) rfl
theorem fa46_3 : ∀ {p : AAddr}, fieldAddrA Try.prog 46 (.ptr p) 3 = some (.ptr ⟨p.ro, p.blk, p.off + 3⟩) := fa_struct Try.underlying46 (ft := 3) (o := 3) rfl (m := 0) sz3
theorem fl46_3 : ∀ {cs : List AV}, fieldA Try.prog 46 (.agg cs) 3 = partA Try.prog 3 cs 3 := fl_struct Try.underlying46 (ft := 3) (o := 3) rfl
theorem ld58 : ∀ {p : AAddr} {H : AH}, loadA Try.prog 58 p H = (H.get p).bind fun cs => cs[p.off]? := load_cell ag58
theorem pt58 : ∀ {cs : List AV} {o : Nat}, partA Try.prog 58 cs o = cs[o]? := part_cell ag58
theorem st58_0 : ∀ {k : IntKind} {a : Int} {H : AH} {i o : Nat}, storeA Try.prog 58 ⟨false, i, o⟩ (.int k a) H = (H.cells? i).bind fun l => gd (o < l.length) (some (H.set i (some (.cells (l.set o (.int k a)))))) := store_cell sz58 rfl
theorem st58_1 : ∀ {a : UInt8} {H : AH} {i o : Nat}, storeA Try.prog 58 ⟨false, i, o⟩ (bv a) H = (H.cells? i).bind fun l => gd (o < l.length) (some (H.set i (some (.cells (l.set o (bv a)))))) := store_cell sz58 rfl
theorem ifc58 : ∀ {v : AV}, ifaceA Try.prog 58 v = some (.iface 58 v) := iface_of Try.underlying58 rfl
theorem ass58 : ∀ {ok : Bool} {v : AV}, assertA Try.prog 58 ok v = assertV (zeroV Try.prog 58) 58 ok v := assert_of Try.underlying58 rfl
theorem cv2_58 : ∀ {k : IntKind} {a : Int} {H : AH}, convertA Try.prog 2 58 (.int k a) H = some (.int .u64 (IntKind.u64.wrap a), H) := conv_int Try.underlying58 (by rw [Try.underlying2]; rfl)
theorem cv3_58 : ∀ {k : IntKind} {a : Int} {H : AH}, convertA Try.prog 3 58 (.int k a) H = some (.int .u64 (IntKind.u64.wrap a), H) := conv_int Try.underlying58 (by rw [Try.underlying3]; rfl)
theorem cv5_58 : ∀ {k : IntKind} {a : Int} {H : AH}, convertA Try.prog 5 58 (.int k a) H = some (.int .u64 (IntKind.u64.wrap a), H) := conv_int Try.underlying58 (by rw [Try.underlying5]; rfl)
theorem cv12_58 : ∀ {k : IntKind} {a : Int} {H : AH}, convertA Try.prog 12 58 (.int k a) H = some (.int .u64 (IntKind.u64.wrap a), H) := conv_int Try.underlying58 (by rw [Try.underlying12]; rfl)
theorem cv21_58 : ∀ {k : IntKind} {a : Int} {H : AH}, convertA Try.prog 21 58 (.int k a) H = some (.int .u64 (IntKind.u64.wrap a), H) := conv_int Try.underlying58 (by rw [Try.underlying21]; rfl)
theorem cv22_58 : ∀ {k : IntKind} {a : Int} {H : AH}, convertA Try.prog 22 58 (.int k a) H = some (.int .u64 (IntKind.u64.wrap a), H) := conv_int Try.underlying58 (by rw [Try.underlying22]; rfl)
theorem cv25_58 : ∀ {k : IntKind} {a : Int} {H : AH}, convertA Try.prog 25 58 (.int k a) H = some (.int .u64 (IntKind.u64.wrap a), H) := conv_int Try.underlying58 (by rw [Try.underlying25]; rfl)
theorem cv58_58 : ∀ {k : IntKind} {a : Int} {H : AH}, convertA Try.prog 58 58 (.int k a) H = some (.int .u64 (IntKind.u64.wrap a), H) := conv_int Try.underlying58 (by rw [Try.underlying58]; rfl)
theorem ld61 : ∀ {p : AAddr} {H : AH}, loadA Try.prog 61 p H = (H.get p).bind fun cs => cs[p.off]? := load_cell ag61
theorem pt61 : ∀ {cs : List AV} {o : Nat}, partA Try.prog 61 cs o = cs[o]? := part_cell ag61
theorem st61_0 : ∀ {a : TypeId} {b : AV} {H : AH} {i o : Nat}, storeA Try.prog 61 ⟨false, i, o⟩ (.iface a b) H = (H.cells? i).bind fun l => gd (o < l.length) (some (H.set i (some (.cells (l.set o (.iface a b)))))) := store_cell sz61 rfl
theorem st61_1 : ∀  {H : AH} {i o : Nat}, storeA Try.prog 61 ⟨false, i, o⟩ .nilif H = (H.cells? i).bind fun l => gd (o < l.length) (some (H.set i (some (.cells (l.set o .nilif))))) := store_cell sz61 rfl
theorem ld63 : ∀ {p : AAddr} {H : AH}, loadA Try.prog 63 p H = (H.get p).bind fun cs => gd (p.off + 0 ≤ cs.length) (some (.agg ((cs.drop p.off).take 0))) := load_agg ag63 sz63
theorem pt63 : ∀ {cs : List AV} {o : Nat}, partA Try.prog 63 cs o = gd (o + 0 ≤ cs.length) (some (.agg ((cs.drop o).take 0))) := part_agg ag63 sz63
theorem ifc63 : ∀ {v : AV}, ifaceA Try.prog 63 v = some (.iface 63 v) := iface_of Try.underlying63 rfl
theorem ass63 : ∀ {ok : Bool} {v : AV}, assertA Try.prog 63 ok v = assertV (zeroV Try.prog 63) 63 ok v := assert_of Try.underlying63 rfl
theorem stz63 : ∀ {H : AH} {i o : Nat}, storeA Try.prog 63 ⟨false, i, o⟩ (.agg []) H = some H := store_none sz63
theorem zv63 : zeroV Try.prog 63 = some (.agg []) := by kernel_rfl
theorem ld64 : ∀ {p : AAddr} {H : AH}, loadA Try.prog 64 p H = (H.get p).bind fun cs => gd (p.off + 0 ≤ cs.length) (some (.agg ((cs.drop p.off).take 0))) := load_agg ag64 sz64
theorem pt64 : ∀ {cs : List AV} {o : Nat}, partA Try.prog 64 cs o = gd (o + 0 ≤ cs.length) (some (.agg ((cs.drop o).take 0))) := part_agg ag64 sz64
theorem ifc64 : ∀ {v : AV}, ifaceA Try.prog 64 v = some (.iface 64 v) := iface_of Try.underlying64 rfl
theorem ass64 : ∀ {ok : Bool} {v : AV}, assertA Try.prog 64 ok v = assertV (zeroV Try.prog 64) 64 ok v := assert_of Try.underlying64 rfl
theorem stz64 : ∀ {H : AH} {i o : Nat}, storeA Try.prog 64 ⟨false, i, o⟩ (.agg []) H = some H := store_none sz64
theorem zv64 : zeroV Try.prog 64 = some (.agg []) := by kernel_rfl
theorem ld66 : ∀ {p : AAddr} {H : AH}, loadA Try.prog 66 p H = (H.get p).bind fun cs => gd (p.off + 0 ≤ cs.length) (some (.agg ((cs.drop p.off).take 0))) := load_agg ag66 sz66
theorem pt66 : ∀ {cs : List AV} {o : Nat}, partA Try.prog 66 cs o = gd (o + 0 ≤ cs.length) (some (.agg ((cs.drop o).take 0))) := part_agg ag66 sz66
theorem ifc66 : ∀ {v : AV}, ifaceA Try.prog 66 v = some (.iface 66 v) := iface_of Try.underlying66 rfl
theorem ass66 : ∀ {ok : Bool} {v : AV}, assertA Try.prog 66 ok v = assertV (zeroV Try.prog 66) 66 ok v := assert_of Try.underlying66 rfl
theorem stz66 : ∀ {H : AH} {i o : Nat}, storeA Try.prog 66 ⟨false, i, o⟩ (.agg []) H = some H := store_none sz66
theorem zv66 : zeroV Try.prog 66 = some (.agg []) := by kernel_rfl
theorem ld68 : ∀ {p : AAddr} {H : AH}, loadA Try.prog 68 p H = (H.get p).bind fun cs => gd (p.off + 4 ≤ cs.length) (some (.agg ((cs.drop p.off).take 4))) := load_agg ag68 sz68
theorem pt68 : ∀ {cs : List AV} {o : Nat}, partA Try.prog 68 cs o = gd (o + 4 ≤ cs.length) (some (.agg ((cs.drop o).take 4))) := part_agg ag68 sz68
theorem eg68 : ∀ {a0 b0 : Int} {a1 b1 : Bool} {a2 b2 : Int} {a3 b3 : Int}, eqAgg Try.prog 68 (.agg [.int .i64 a0, .bool a1, .int .i64 a2, .int .i64 a3]) (.agg [.int .i64 b0, .bool b1, .int .i64 b2, .int .i64 b3]) = some ((decide (a0 = b0) && ((a1 == b1) && (decide (a2 = b2) && (decide (a3 = b3) && true)))) && true) := by intros; kernel_rfl
theorem ifc68 : ∀ {v : AV}, ifaceA Try.prog 68 v = some (.iface 68 v) := iface_of Try.underlying68 rfl
theorem ass68 : ∀ {ok : Bool} {v : AV}, assertA Try.prog 68 ok v = assertV (zeroV Try.prog 68) 68 ok v := assert_of Try.underlying68 rfl
theorem zv68 : zeroV Try.prog 68 = some (.agg [.int .i64 0, .bool false, .int .i64 0, .int .i64 0]) := by kernel_rfl
theorem sta68 : ∀ {vs : List AV} {H : AH} {i o : Nat}, storeA Try.prog 68 ⟨false, i, o⟩ (.agg vs) H = gd (vs.length = 4) (gdb (vs.all oneA) ((H.cells? i).bind fun l0 => gd (o + 4 ≤ l0.length) (some (H.set i (some (.cells (putL l0 o vs))))))) := store_aggs (n := 3) sz68
theorem fa68_0 : ∀ {p : AAddr}, fieldAddrA Try.prog 68 (.ptr p) 0 = some (.ptr ⟨p.ro, p.blk, p.off + 0⟩) := fa_struct Try.underlying68 (ft := 46) (o := 0) rfl (m := 3) sz46
theorem fl68_0 : ∀ {cs : List AV}, fieldA Try.prog 68 (.agg cs) 0 = partA Try.prog 46 cs 0 := fl_struct Try.underlying68 (ft := 46) (o := 0) rfl
theorem ld69 : ∀ {p : AAddr} {H : AH}, loadA Try.prog 69 p H = (H.get p).bind fun cs => gd (p.off + 4 ≤ cs.length) (some (.agg ((cs.drop p.off).take 4))) := load_agg ag69 sz69
theorem pt69 : ∀ {cs : List AV} {o : Nat}, partA Try.prog 69 cs o = gd (o + 4 ≤ cs.length) (some (.agg ((cs.drop o).take 4))) := part_agg ag69 sz69
theorem eg69 : ∀ {a0 b0 : Int} {a1 b1 : Bool} {a2 b2 : Int} {a3 b3 : Int}, eqAgg Try.prog 69 (.agg [.int .i64 a0, .bool a1, .int .i64 a2, .int .i64 a3]) (.agg [.int .i64 b0, .bool b1, .int .i64 b2, .int .i64 b3]) = some ((decide (a0 = b0) && ((a1 == b1) && (decide (a2 = b2) && (decide (a3 = b3) && true)))) && true) := by intros; kernel_rfl
theorem ifc69 : ∀ {v : AV}, ifaceA Try.prog 69 v = some (.iface 69 v) := iface_of Try.underlying69 rfl
theorem ass69 : ∀ {ok : Bool} {v : AV}, assertA Try.prog 69 ok v = assertV (zeroV Try.prog 69) 69 ok v := assert_of Try.underlying69 rfl
theorem zv69 : zeroV Try.prog 69 = some (.agg [.int .i64 0, .bool false, .int .i64 0, .int .i64 0]) := by kernel_rfl
theorem sta69 : ∀ {vs : List AV} {H : AH} {i o : Nat}, storeA Try.prog 69 ⟨false, i, o⟩ (.agg vs) H = gd (vs.length = 4) (gdb (vs.all oneA) ((H.cells? i).bind fun l0 => gd (o + 4 ≤ l0.length) (some (H.set i (some (.cells (putL l0 o vs))))))) := store_aggs (n := 3) sz69
theorem fa69_0 : ∀ {p : AAddr}, fieldAddrA Try.prog 69 (.ptr p) 0 = some (.ptr ⟨p.ro, p.blk, p.off + 0⟩) := fa_struct Try.underlying69 (ft := 46) (o := 0) rfl (m := 3) sz46
theorem fl69_0 : ∀ {cs : List AV}, fieldA Try.prog 69 (.agg cs) 0 = partA Try.prog 46 cs 0 := fl_struct Try.underlying69 (ft := 46) (o := 0) rfl
theorem ld71 : ∀ {p : AAddr} {H : AH}, loadA Try.prog 71 p H = (H.get p).bind fun cs => gd (p.off + 4 ≤ cs.length) (some (.agg ((cs.drop p.off).take 4))) := load_agg ag71 sz71
theorem pt71 : ∀ {cs : List AV} {o : Nat}, partA Try.prog 71 cs o = gd (o + 4 ≤ cs.length) (some (.agg ((cs.drop o).take 4))) := part_agg ag71 sz71
theorem ifc71 : ∀ {v : AV}, ifaceA Try.prog 71 v = some (.iface 71 v) := iface_of Try.underlying71 rfl
theorem ass71 : ∀ {ok : Bool} {v : AV}, assertA Try.prog 71 ok v = assertV (zeroV Try.prog 71) 71 ok v := assert_of Try.underlying71 rfl
theorem sta71 : ∀ {vs : List AV} {H : AH} {i o : Nat}, storeA Try.prog 71 ⟨false, i, o⟩ (.agg vs) H = gd (vs.length = 4) (gdb (vs.all oneA) ((H.cells? i).bind fun l0 => gd (o + 4 ≤ l0.length) (some (H.set i (some (.cells (putL l0 o vs))))))) := store_aggs (n := 3) sz71
theorem fa71_3 : ∀ {p : AAddr}, fieldAddrA Try.prog 71 (.ptr p) 3 = some (.ptr ⟨p.ro, p.blk, p.off + 3⟩) := fa_struct Try.underlying71 (ft := 9) (o := 3) rfl (m := 0) sz9
theorem fl71_3 : ∀ {cs : List AV}, fieldA Try.prog 71 (.agg cs) 3 = partA Try.prog 9 cs 3 := fl_struct Try.underlying71 (ft := 9) (o := 3) rfl
theorem ld80 : ∀ {p : AAddr} {H : AH}, loadA Try.prog 80 p H = (H.get p).bind fun cs => cs[p.off]? := load_cell ag80
theorem pt80 : ∀ {cs : List AV} {o : Nat}, partA Try.prog 80 cs o = cs[o]? := part_cell ag80
theorem st80_0 : ∀ {a : AAddr} {H : AH} {i o : Nat}, storeA Try.prog 80 ⟨false, i, o⟩ (.ptr a) H = (H.cells? i).bind fun l => gd (o < l.length) (some (H.set i (some (.cells (l.set o (.ptr a)))))) := store_cell sz80 rfl
theorem st80_1 : ∀  {H : AH} {i o : Nat}, storeA Try.prog 80 ⟨false, i, o⟩ .nilptr H = (H.cells? i).bind fun l => gd (o < l.length) (some (H.set i (some (.cells (l.set o .nilptr))))) := store_cell sz80 rfl
theorem ifc80 : ∀ {v : AV}, ifaceA Try.prog 80 v = some (.iface 80 v) := iface_of Try.underlying80 rfl
theorem ass80 : ∀ {ok : Bool} {v : AV}, assertA Try.prog 80 ok v = assertV (zeroV Try.prog 80) 80 ok v := assert_of Try.underlying80 rfl
theorem eqptrnil80 : ∀ {p : AAddr}, binA Try.prog .eql 80 (.ptr p) .nilptr = some (.bool false) := eq_ptr_nil Try.underlying80
theorem neptrnil80 : ∀ {p : AAddr}, binA Try.prog .neq 80 (.ptr p) .nilptr = some (.bool true) := ne_ptr_nil Try.underlying80
theorem eqnn80 : binA Try.prog .eql 80 .nilptr .nilptr = some (.bool true) := eq_nilptr Try.underlying80
theorem nenn80 : binA Try.prog .neq 80 .nilptr .nilptr = some (.bool false) := ne_nilptr Try.underlying80
theorem ld83 : ∀ {p : AAddr} {H : AH}, loadA Try.prog 83 p H = (H.get p).bind fun cs => gd (p.off + 11 ≤ cs.length) (some (.agg ((cs.drop p.off).take 11))) := load_agg ag83 sz83
theorem pt83 : ∀ {cs : List AV} {o : Nat}, partA Try.prog 83 cs o = gd (o + 11 ≤ cs.length) (some (.agg ((cs.drop o).take 11))) := part_agg ag83 sz83
theorem ifc83 : ∀ {v : AV}, ifaceA Try.prog 83 v = some (.iface 83 v) := iface_of Try.underlying83 rfl
theorem ass83 : ∀ {ok : Bool} {v : AV}, assertA Try.prog 83 ok v = assertV (zeroV Try.prog 83) 83 ok v := assert_of Try.underlying83 rfl
theorem sta83 : ∀ {vs : List AV} {H : AH} {i o : Nat}, storeA Try.prog 83 ⟨false, i, o⟩ (.agg vs) H = gd (vs.length = 11) (gdb (vs.all oneA) ((H.cells? i).bind fun l0 => gd (o + 11 ≤ l0.length) (some (H.set i (some (.cells (putL l0 o vs))))))) := store_aggs (n := 10) sz83
theorem fa83_0 : ∀ {p : AAddr}, fieldAddrA Try.prog 83 (.ptr p) 0 = some (.ptr ⟨p.ro, p.blk, p.off + 0⟩) := fa_struct Try.underlying83 (ft := 12) (o := 0) rfl (m := 0) sz12
theorem fl83_0 : ∀ {cs : List AV}, fieldA Try.prog 83 (.agg cs) 0 = partA Try.prog 12 cs 0 := fl_struct Try.underlying83 (ft := 12) (o := 0) rfl
theorem fa83_1 : ∀ {p : AAddr}, fieldAddrA Try.prog 83 (.ptr p) 1 = some (.ptr ⟨p.ro, p.blk, p.off + 1⟩) := fa_struct Try.underlying83 (ft := 12) (o := 1) rfl (m := 0) sz12
theorem fl83_1 : ∀ {cs : List AV}, fieldA Try.prog 83 (.agg cs) 1 = partA Try.prog 12 cs 1 := fl_struct Try.underlying83 (ft := 12) (o := 1) rfl
theorem fa83_2 : ∀ {p : AAddr}, fieldAddrA Try.prog 83 (.ptr p) 2 = some (.ptr ⟨p.ro, p.blk, p.off + 2⟩) := fa_struct Try.underlying83 (ft := 22) (o := 2) rfl (m := 0) sz22
theorem fl83_2 : ∀ {cs : List AV}, fieldA Try.prog 83 (.agg cs) 2 = partA Try.prog 22 cs 2 := fl_struct Try.underlying83 (ft := 22) (o := 2) rfl
theorem fa83_4 : ∀ {p : AAddr}, fieldAddrA Try.prog 83 (.ptr p) 4 = some (.ptr ⟨p.ro, p.blk, p.off + 4⟩) := fa_struct Try.underlying83 (ft := 5) (o := 4) rfl (m := 0) sz5
theorem fl83_4 : ∀ {cs : List AV}, fieldA Try.prog 83 (.agg cs) 4 = partA Try.prog 5 cs 4 := fl_struct Try.underlying83 (ft := 5) (o := 4) rfl
theorem fa83_5 : ∀ {p : AAddr}, fieldAddrA Try.prog 83 (.ptr p) 5 = some (.ptr ⟨p.ro, p.blk, p.off + 5⟩) := fa_struct Try.underlying83 (ft := 5) (o := 5) rfl (m := 0) sz5
theorem fl83_5 : ∀ {cs : List AV}, fieldA Try.prog 83 (.agg cs) 5 = partA Try.prog 5 cs 5 := fl_struct Try.underlying83 (ft := 5) (o := 5) rfl
theorem fa83_8 : ∀ {p : AAddr}, fieldAddrA Try.prog 83 (.ptr p) 8 = some (.ptr ⟨p.ro, p.blk, p.off + 8⟩) := fa_struct Try.underlying83 (ft := 80) (o := 8) rfl (m := 0) sz80
theorem fl83_8 : ∀ {cs : List AV}, fieldA Try.prog 83 (.agg cs) 8 = partA Try.prog 80 cs 8 := fl_struct Try.underlying83 (ft := 80) (o := 8) rfl
theorem ld85 : ∀ {p : AAddr} {H : AH}, loadA Try.prog 85 p H = (H.get p).bind fun cs => cs[p.off]? := load_cell ag85
theorem pt85 : ∀ {cs : List AV} {o : Nat}, partA Try.prog 85 cs o = cs[o]? := part_cell ag85
theorem ifc85 : ∀ {v : AV}, ifaceA Try.prog 85 v = some (.iface 85 v) := iface_of Try.underlying85 rfl
theorem ass85 : ∀ {ok : Bool} {v : AV}, assertA Try.prog 85 ok v = assertV (zeroV Try.prog 85) 85 ok v := assert_of Try.underlying85 rfl
attribute [go_sem] sz2 ze2 Try.underlying2 sz3 ze3 Try.underlying3 sz4 ze4 Try.underlying4 sz5 ze5 Try.underlying5 sz7 ze7 Try.underlying7 sz9 ze9 Try.underlying9 sz12 ze12 Try.underlying12 sz13 ze13 Try.underlying13 sz18 ze18 Try.underlying18 sz21 ze21 Try.underlying21 sz22 ze22 Try.underlying22 sz23 ze23 Try.underlying23 sz24 ze24 Try.underlying24 sz25
attribute [go_sem] ze25 Try.underlying25 sz36 ze36 Try.underlying36 sz38 ze38 Try.underlying38 sz39 ze39 Try.underlying39 sz45 ze45 Try.underlying45 sz46 ze46 Try.underlying46 sz58 ze58 Try.underlying58 sz61 ze61 Try.underlying61 sz63 ze63 Try.underlying63 sz64 ze64 Try.underlying64 sz66 ze66 Try.underlying66 sz68 ze68 Try.underlying68 sz69 ze69 Try.underlying69 sz71 ze71
attribute [go_sem] Try.underlying71 sz80 ze80 Try.underlying80 sz83 ze83 Try.underlying83 sz85 ze85 Try.underlying85 ld2 pt2 st2_0 st2_1 ifc2 ass2 cv2_2 cv3_2 cv5_2 cv12_2 cv21_2 cv22_2 cv25_2 cv58_2 ld3 pt3 st3_0 st3_1 ifc3 ass3 cv2_3 cv3_3 cv5_3 cv12_3 cv21_3 cv22_3 cv25_3 cv58_3 ld4 pt4
attribute [go_sem] st4_0 ifc4 ass4 eb4 nb4 ld5 pt5 st5_0 st5_1 ifc5 ass5 cv2_5 cv3_5 cv5_5 cv12_5 cv21_5 cv22_5 cv25_5 cv58_5 ld7 pt7 eg7 ifc7 ass7 zv7 sta7 fa7_0 fl7_0 fa7_1 fl7_1 fa7_2 fl7_2 ld9 pt9 st9_0 ifc9 ass9 ls9 is9 ss9
attribute [go_sem] ld12 pt12 st12_0 st12_1 ifc12 ass12 cv2_12 cv3_12 cv5_12 cv12_12 cv21_12 cv22_12 cv25_12 cv58_12 ld13 pt13 ifc13 ass13 sta13 fa13_0 fl13_0 fa13_1 fl13_1 ld18 pt18 ifc18 ass18 sta18 ld21 pt21 st21_0 st21_1 ifc21 ass21 cv2_21 cv3_21 cv5_21 cv12_21 cv21_21 cv22_21
attribute [go_sem] cv25_21 cv58_21 ld22 pt22 st22_0 st22_1 ifc22 ass22 cv2_22 cv3_22 cv5_22 cv12_22 cv21_22 cv22_22 cv25_22 cv58_22 ld23 pt23 eg23 ifc23 ass23 zv23 sta23 fa23_0 fl23_0 fa23_1 fl23_1 fa23_2 fl23_2 fa23_3 fl23_3 ld24 pt24 eg24 ifc24 ass24 zv24 sta24 fa24_0 fl24_0
attribute [go_sem] fa24_1 fl24_1 fa24_2 fl24_2 fa24_3 fl24_3 ld25 pt25 st25_0 st25_1 ifc25 ass25 cv2_25 cv3_25 cv5_25 cv12_25 cv21_25 cv22_25 cv25_25 cv58_25 ld36 pt36 eg36 ifc36 ass36 zv36 sta36 la36 ia36 xa36 sa36 ld38 pt38 st38_0 st38_1 ifc38 ass38 ll38 ln38 ia38
attribute [go_sem] sk38 sg38 sn38 ens38 nns38 enn38 nnn38 cp38 cn38 mk38 bs38 ap38 ai38_3 ld39 pt39 st39_0 st39_1 ifc39 ass39 ll39 ln39 ia39 sk39 sg39 sn39 ens39 nns39 enn39 nnn39 cp39 cn39 mk39 bs39 ap39 ai39_3 aq39_9 tx39_9 tn39_9 ld45 pt45
attribute [go_sem] eg45 ifc45 ass45 zv45 sta45 fa45_0 fl45_0 fa45_1 fl45_1 fa45_2 fl45_2 fa45_3 fl45_3 ld46 pt46 eg46 ifc46 ass46 zv46 sta46 fa46_0 fl46_0 fa46_1 fl46_1 fa46_2 fl46_2 fa46_3 fl46_3 ld58 pt58 st58_0 st58_1 ifc58 ass58 cv2_58 cv3_58 cv5_58 cv12_58 cv21_58 cv22_58
attribute [go_sem] cv25_58 cv58_58 ld61 pt61 st61_0 st61_1 ld63 pt63 ifc63 ass63 stz63 zv63 ld64 pt64 ifc64 ass64 stz64 zv64 ld66 pt66 ifc66 ass66 stz66 zv66 ld68 pt68 eg68 ifc68 ass68 zv68 sta68 fa68_0 fl68_0 ld69 pt69 eg69 ifc69 ass69 zv69 sta69
attribute [go_sem] fa69_0 fl69_0 ld71 pt71 ifc71 ass71 sta71 fa71_3 fl71_3 ld80 pt80 st80_0 st80_1 ifc80 ass80 eqptrnil80 neptrnil80 eqnn80 nenn80 ld83 pt83 ifc83 ass83 sta83 fa83_0 fl83_0 fa83_1 fl83_1 fa83_2 fl83_2 fa83_4 fl83_4 fa83_5 fl83_5 fa83_8 fl83_8 ld85 pt85 ifc85 ass85
end Go.Proofs.Ytbicbjfdinhpoaa
