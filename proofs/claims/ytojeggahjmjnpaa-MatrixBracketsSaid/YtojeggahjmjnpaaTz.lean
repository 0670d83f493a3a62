/- What the abstract operations ask of this seat's types. -/
import Derived.Test.YtojeggahjmjnpaaZ2
import Derived.Test.YtojeggahjmjnpaaProg
namespace Go.Proofs.Ytojeggahjmjnpaa
open Go Go.Abs
set_option linter.unusedVariables false
theorem sz2 : sizeA Try.prog 2 = some 1 := by kernel_rfl
theorem by2 : bytesA Try.prog 2 = some 8 := by kernel_rfl
theorem ag2 : aggA Try.prog 2 = some false := by kernel_rfl
theorem ze2 : zeroA Try.prog 2 = some ([.int .i64 0]) := by kernel_rfl
theorem sz3 : sizeA Try.prog 3 = some 1 := by kernel_rfl
theorem by3 : bytesA Try.prog 3 = some 8 := by kernel_rfl
theorem ag3 : aggA Try.prog 3 = some false := by kernel_rfl
theorem ze3 : zeroA Try.prog 3 = some ([.int .i64 0]) := by kernel_rfl
theorem sz4 : sizeA Try.prog 4 = some 1 := by kernel_rfl
theorem by4 : bytesA Try.prog 4 = some 1 := by kernel_rfl
theorem ag4 : aggA Try.prog 4 = some false := by kernel_rfl
theorem ze4 : zeroA Try.prog 4 = some ([.bool false]) := by kernel_rfl
theorem sz5 : sizeA Try.prog 5 = some 1 := by kernel_rfl
theorem by5 : bytesA Try.prog 5 = some 1 := by kernel_rfl
theorem ag5 : aggA Try.prog 5 = some false := by kernel_rfl
theorem ze5 : zeroA Try.prog 5 = some ([.int .u8 0]) := by kernel_rfl
theorem sz7 : sizeA Try.prog 7 = some 4 := by kernel_rfl
theorem by7 : bytesA Try.prog 7 = some 24 := by kernel_rfl
theorem ag7 : aggA Try.prog 7 = some true := by kernel_rfl
theorem ze7 : zeroA Try.prog 7 = some ([.int .i64 0, .int .i64 0, .bool false, .int .u8 0]) := by kernel_rfl
theorem sz9 : sizeA Try.prog 9 = some 1 := by kernel_rfl
theorem by9 : bytesA Try.prog 9 = some 16 := by kernel_rfl
theorem ag9 : aggA Try.prog 9 = some false := by kernel_rfl
theorem ze9 : zeroA Try.prog 9 = some ([.str ByteArray.empty]) := by kernel_rfl
theorem sz12 : sizeA Try.prog 12 = some 1 := by kernel_rfl
theorem by12 : bytesA Try.prog 12 = some 8 := by kernel_rfl
theorem ag12 : aggA Try.prog 12 = some false := by kernel_rfl
theorem ze12 : zeroA Try.prog 12 = some ([.int .u64 0]) := by kernel_rfl
theorem sz13 : sizeA Try.prog 13 = some 2 := by kernel_rfl
theorem by13 : bytesA Try.prog 13 = some 24 := by kernel_rfl
theorem ag13 : aggA Try.prog 13 = some true := by kernel_rfl
theorem ze13 : zeroA Try.prog 13 = some ([.str ByteArray.empty, .int .u64 0]) := by kernel_rfl
theorem sz18 : sizeA Try.prog 18 = some 1 := by kernel_rfl
theorem by18 : bytesA Try.prog 18 = some 8 := by kernel_rfl
theorem ag18 : aggA Try.prog 18 = some true := by kernel_rfl
theorem ze18 : zeroA Try.prog 18 = some ([.nilptr]) := by kernel_rfl
theorem sz21 : sizeA Try.prog 21 = some 1 := by kernel_rfl
theorem by21 : bytesA Try.prog 21 = some 4 := by kernel_rfl
theorem ag21 : aggA Try.prog 21 = some false := by kernel_rfl
theorem ze21 : zeroA Try.prog 21 = some ([.int .i32 0]) := by kernel_rfl
theorem sz22 : sizeA Try.prog 22 = some 1 := by kernel_rfl
theorem by22 : bytesA Try.prog 22 = some 24 := by kernel_rfl
theorem ag22 : aggA Try.prog 22 = some false := by kernel_rfl
theorem ze22 : zeroA Try.prog 22 = some ([.nilslice]) := by kernel_rfl
theorem sz23 : sizeA Try.prog 23 = some 1 := by kernel_rfl
theorem by23 : bytesA Try.prog 23 = some 24 := by kernel_rfl
theorem ag23 : aggA Try.prog 23 = some false := by kernel_rfl
theorem ze23 : zeroA Try.prog 23 = some ([.nilslice]) := by kernel_rfl
theorem sz24 : sizeA Try.prog 24 = some 1 := by kernel_rfl
theorem by24 : bytesA Try.prog 24 = some 8 := by kernel_rfl
theorem ag24 : aggA Try.prog 24 = some false := by kernel_rfl
theorem ze24 : zeroA Try.prog 24 = some ([.int .i64 0]) := by kernel_rfl
theorem sz35 : sizeA Try.prog 35 = some 1 := by kernel_rfl
theorem by35 : bytesA Try.prog 35 = some 24 := by kernel_rfl
theorem ag35 : aggA Try.prog 35 = some false := by kernel_rfl
theorem ze35 : zeroA Try.prog 35 = some ([.nilslice]) := by kernel_rfl
theorem sz38 : sizeA Try.prog 38 = some 1 := by kernel_rfl
theorem by38 : bytesA Try.prog 38 = some 24 := by kernel_rfl
theorem ag38 : aggA Try.prog 38 = some false := by kernel_rfl
theorem ze38 : zeroA Try.prog 38 = some ([.nilslice]) := by kernel_rfl
theorem sz46 : sizeA Try.prog 46 = some 8 := by kernel_rfl
theorem by46 : bytesA Try.prog 46 = some 104 := by kernel_rfl
theorem ag46 : aggA Try.prog 46 = some true := by kernel_rfl
theorem ze46 : zeroA Try.prog 46 = some ([.int .u8 0, .int .u8 0, .int .u8 0, .int .u8 0, .nilslice, .nilslice, .nilslice, .nilslice]) := by kernel_rfl
theorem sz47 : sizeA Try.prog 47 = some 8 := by kernel_rfl
theorem by47 : bytesA Try.prog 47 = some 104 := by kernel_rfl
theorem ag47 : aggA Try.prog 47 = some true := by kernel_rfl
theorem ze47 : zeroA Try.prog 47 = some ([.int .u8 0, .int .u8 0, .int .u8 0, .int .u8 0, .nilslice, .nilslice, .nilslice, .nilslice]) := by kernel_rfl
theorem sz51 : sizeA Try.prog 51 = some 1 := by kernel_rfl
theorem by51 : bytesA Try.prog 51 = some 8 := by kernel_rfl
theorem ag51 : aggA Try.prog 51 = some true := by kernel_rfl
theorem ze51 : zeroA Try.prog 51 = some ([.int .i64 0]) := by kernel_rfl
theorem sz52 : sizeA Try.prog 52 = some 1 := by kernel_rfl
theorem by52 : bytesA Try.prog 52 = some 8 := by kernel_rfl
theorem ag52 : aggA Try.prog 52 = some true := by kernel_rfl
theorem ze52 : zeroA Try.prog 52 = some ([.int .i64 0]) := by kernel_rfl
theorem sz67 : sizeA Try.prog 67 = some 1 := by kernel_rfl
theorem by67 : bytesA Try.prog 67 = some 8 := by kernel_rfl
theorem ag67 : aggA Try.prog 67 = some false := by kernel_rfl
theorem ze67 : zeroA Try.prog 67 = some ([.int .u64 0]) := by kernel_rfl
theorem sz69 : sizeA Try.prog 69 = some 255 := by kernel_rfl
theorem by69 : bytesA Try.prog 69 = some 255 := by kernel_rfl
theorem ag69 : aggA Try.prog 69 = some true := by kernel_rfl
theorem ze69 : zeroA Try.prog 69 = some (List.replicate 255 (.int .u8 0)) := by kernel_rfl
theorem sz70 : sizeA Try.prog 70 = some 256 := by kernel_rfl
theorem by70 : bytesA Try.prog 70 = some 2048 := by kernel_rfl
theorem ag70 : aggA Try.prog 70 = some true := by kernel_rfl
theorem ze70 : zeroA Try.prog 70 = some (List.replicate 256 (.int .i64 0)) := by kernel_rfl
theorem sz75 : sizeA Try.prog 75 = some 4 := by kernel_rfl
theorem by75 : bytesA Try.prog 75 = some 40 := by kernel_rfl
theorem ag75 : aggA Try.prog 75 = some true := by kernel_rfl
theorem ze75 : zeroA Try.prog 75 = some ([.nilptr, .nilptr, .nilptr, .str ByteArray.empty]) := by kernel_rfl
theorem sz81 : sizeA Try.prog 81 = some 1 := by kernel_rfl
theorem by81 : bytesA Try.prog 81 = some 4 := by kernel_rfl
theorem ag81 : aggA Try.prog 81 = some false := by kernel_rfl
theorem ze81 : zeroA Try.prog 81 = some ([.int .u32 0]) := by kernel_rfl
theorem sz85 : sizeA Try.prog 85 = some 1 := by kernel_rfl
theorem by85 : bytesA Try.prog 85 = some 8 := by kernel_rfl
theorem ag85 : aggA Try.prog 85 = some false := by kernel_rfl
theorem ze85 : zeroA Try.prog 85 = some ([.nilptr]) := by kernel_rfl
theorem sz88 : sizeA Try.prog 88 = some 11 := by kernel_rfl
theorem by88 : bytesA Try.prog 88 = some 48 := by kernel_rfl
theorem ag88 : aggA Try.prog 88 = some true := by kernel_rfl
theorem ze88 : zeroA Try.prog 88 = some ([.int .u64 0, .int .u64 0, .int .u32 0, .int .u8 0, .int .u8 0, .int .u8 0, .int .u8 0, .nilfunc, .nilptr, .int .i32 0, .int .i32 0]) := by kernel_rfl
theorem sz90 : sizeA Try.prog 90 = some 1 := by kernel_rfl
theorem by90 : bytesA Try.prog 90 = some 8 := by kernel_rfl
theorem ag90 : aggA Try.prog 90 = some false := by kernel_rfl
theorem ze90 : zeroA Try.prog 90 = some ([.nilptr]) := by kernel_rfl
theorem ld2 : ∀ {p : AAddr} {H : AH}, loadA Try.prog 2 p H = (H.get p).bind fun cs => cs[p.off]? := load_cell ag2
theorem pt2 : ∀ {cs : List AV} {o : Nat}, partA Try.prog 2 cs o = cs[o]? := part_cell ag2
theorem st2_0 : ∀ {k : IntKind} {a : Int} {H : AH} {i o : Nat}, storeA Try.prog 2 ⟨false, i, o⟩ (.int k a) H = (H.cells? i).bind fun l => gd (o < l.length) (some (H.set i (some (.cells (l.set o (.int k a)))))) := store_cell sz2 rfl
theorem st2_1 : ∀ {a : UInt8} {H : AH} {i o : Nat}, storeA Try.prog 2 ⟨false, i, o⟩ (bv a) H = (H.cells? i).bind fun l => gd (o < l.length) (some (H.set i (some (.cells (l.set o (bv a)))))) := store_cell sz2 rfl
theorem ifc2 : ∀ {v : AV}, ifaceA Try.prog 2 v = some (.iface 2 v) := iface_of Try.underlying2 rfl
theorem ass2 : ∀ {ok : Bool} {v : AV}, assertA Try.prog 2 ok v = assertV (zeroV Try.prog 2) 2 ok v := assert_of Try.underlying2 rfl
theorem cv2_2 : ∀ {k : IntKind} {a : Int} {H : AH}, convertA Try.prog 2 2 (.int k a) H = some (.int .i64 (IntKind.i64.wrap a), H) := conv_int Try.underlying2 (by rw [Try.underlying2]; rfl)
theorem cv3_2 : ∀ {k : IntKind} {a : Int} {H : AH}, convertA Try.prog 3 2 (.int k a) H = some (.int .i64 (IntKind.i64.wrap a), H) := conv_int Try.underlying2 (by rw [Try.underlying3]; rfl)
theorem cv5_2 : ∀ {k : IntKind} {a : Int} {H : AH}, convertA Try.prog 5 2 (.int k a) H = some (.int .i64 (IntKind.i64.wrap a), H) := conv_int Try.underlying2 (by rw [Try.underlying5]; rfl)
theorem cv12_2 : ∀ {k : IntKind} {a : Int} {H : AH}, convertA Try.prog 12 2 (.int k a) H = some (.int .i64 (IntKind.i64.wrap a), H) := conv_int Try.underlying2 (by rw [Try.underlying12]; rfl)
theorem cv21_2 : ∀ {k : IntKind} {a : Int} {H : AH}, convertA Try.prog 21 2 (.int k a) H = some (.int .i64 (IntKind.i64.wrap a), H) := conv_int Try.underlying2 (by rw [Try.underlying21]; rfl)
theorem cv24_2 : ∀ {k : IntKind} {a : Int} {H : AH}, convertA Try.prog 24 2 (.int k a) H = some (.int .i64 (IntKind.i64.wrap a), H) := conv_int Try.underlying2 (by rw [Try.underlying24]; rfl)
theorem cv67_2 : ∀ {k : IntKind} {a : Int} {H : AH}, convertA Try.prog 67 2 (.int k a) H = some (.int .i64 (IntKind.i64.wrap a), H) := conv_int Try.underlying2 (by rw [Try.underlying67]; rfl)
theorem cv81_2 : ∀ {k : IntKind} {a : Int} {H : AH}, convertA Try.prog 81 2 (.int k a) H = some (.int .i64 (IntKind.i64.wrap a), H) := conv_int Try.underlying2 (by rw [Try.underlying81]; rfl)
theorem ld3 : ∀ {p : AAddr} {H : AH}, loadA Try.prog 3 p H = (H.get p).bind fun cs => cs[p.off]? := load_cell ag3
theorem pt3 : ∀ {cs : List AV} {o : Nat}, partA Try.prog 3 cs o = cs[o]? := part_cell ag3
theorem st3_0 : ∀ {k : IntKind} {a : Int} {H : AH} {i o : Nat}, storeA Try.prog 3 ⟨false, i, o⟩ (.int k a) H = (H.cells? i).bind fun l => gd (o < l.length) (some (H.set i (some (.cells (l.set o (.int k a)))))) := store_cell sz3 rfl
theorem st3_1 : ∀ {a : UInt8} {H : AH} {i o : Nat}, storeA Try.prog 3 ⟨false, i, o⟩ (bv a) H = (H.cells? i).bind fun l => gd (o < l.length) (some (H.set i (some (.cells (l.set o (bv a)))))) := store_cell sz3 rfl
theorem ifc3 : ∀ {v : AV}, ifaceA Try.prog 3 v = some (.iface 3 v) := iface_of Try.underlying3 rfl
theorem ass3 : ∀ {ok : Bool} {v : AV}, assertA Try.prog 3 ok v = assertV (zeroV Try.prog 3) 3 ok v := assert_of Try.underlying3 rfl
theorem cv2_3 : ∀ {k : IntKind} {a : Int} {H : AH}, convertA Try.prog 2 3 (.int k a) H = some (.int .i64 (IntKind.i64.wrap a), H) := conv_int Try.underlying3 (by rw [Try.underlying2]; rfl)
theorem cv3_3 : ∀ {k : IntKind} {a : Int} {H : AH}, convertA Try.prog 3 3 (.int k a) H = some (.int .i64 (IntKind.i64.wrap a), H) := conv_int Try.underlying3 (by rw [Try.underlying3]; rfl)
theorem cv5_3 : ∀ {k : IntKind} {a : Int} {H : AH}, convertA Try.prog 5 3 (.int k a) H = some (.int .i64 (IntKind.i64.wrap a), H) := conv_int Try.underlying3 (by rw [Try.underlying5]; rfl)
theorem cv12_3 : ∀ {k : IntKind} {a : Int} {H : AH}, convertA Try.prog 12 3 (.int k a) H = some (.int .i64 (IntKind.i64.wrap a), H) := conv_int Try.underlying3 (by rw [Try.underlying12]; rfl)
theorem cv21_3 : ∀ {k : IntKind} {a : Int} {H : AH}, convertA Try.prog 21 3 (.int k a) H = some (.int .i64 (IntKind.i64.wrap a), H) := conv_int Try.underlying3 (by rw [Try.underlying21]; rfl)
theorem cv24_3 : ∀ {k : IntKind} {a : Int} {H : AH}, convertA Try.prog 24 3 (.int k a) H = some (.int .i64 (IntKind.i64.wrap a), H) := conv_int Try.underlying3 (by rw [Try.underlying24]; rfl)
theorem cv67_3 : ∀ {k : IntKind} {a : Int} {H : AH}, convertA Try.prog 67 3 (.int k a) H = some (.int .i64 (IntKind.i64.wrap a), H) := conv_int Try.underlying3 (by rw [Try.underlying67]; rfl)
theorem cv81_3 : ∀ {k : IntKind} {a : Int} {H : AH}, convertA Try.prog 81 3 (.int k a) H = some (.int .i64 (IntKind.i64.wrap a), H) := conv_int Try.underlying3 (by rw [Try.underlying81]; rfl)
theorem ld4 : ∀ {p : AAddr} {H : AH}, loadA Try.prog 4 p H = (H.get p).bind fun cs => cs[p.off]? := load_cell ag4
theorem pt4 : ∀ {cs : List AV} {o : Nat}, partA Try.prog 4 cs o = cs[o]? := part_cell ag4
theorem st4_0 : ∀ {a : Bool} {H : AH} {i o : Nat}, storeA Try.prog 4 ⟨false, i, o⟩ (.bool a) H = (H.cells? i).bind fun l => gd (o < l.length) (some (H.set i (some (.cells (l.set o (.bool a)))))) := store_cell sz4 rfl
theorem ifc4 : ∀ {v : AV}, ifaceA Try.prog 4 v = some (.iface 4 v) := iface_of Try.underlying4 rfl
theorem ass4 : ∀ {ok : Bool} {v : AV}, assertA Try.prog 4 ok v = assertV (zeroV Try.prog 4) 4 ok v := assert_of Try.underlying4 rfl
theorem eb4 : ∀ {x y : Bool}, binA Try.prog .eql 4 (.bool x) (.bool y) = some (.bool (x == y)) := bin_bool Try.underlying4
theorem nb4 : ∀ {x y : Bool}, binA Try.prog .neq 4 (.bool x) (.bool y) = some (.bool (!(x == y))) := bin_boolne Try.underlying4
theorem ld5 : ∀ {p : AAddr} {H : AH}, loadA Try.prog 5 p H = (H.get p).bind fun cs => cs[p.off]? := load_cell ag5
theorem pt5 : ∀ {cs : List AV} {o : Nat}, partA Try.prog 5 cs o = cs[o]? := part_cell ag5
theorem st5_0 : ∀ {k : IntKind} {a : Int} {H : AH} {i o : Nat}, storeA Try.prog 5 ⟨false, i, o⟩ (.int k a) H = (H.cells? i).bind fun l => gd (o < l.length) (some (H.set i (some (.cells (l.set o (.int k a)))))) := store_cell sz5 rfl
theorem st5_1 : ∀ {a : UInt8} {H : AH} {i o : Nat}, storeA Try.prog 5 ⟨false, i, o⟩ (bv a) H = (H.cells? i).bind fun l => gd (o < l.length) (some (H.set i (some (.cells (l.set o (bv a)))))) := store_cell sz5 rfl
theorem ifc5 : ∀ {v : AV}, ifaceA Try.prog 5 v = some (.iface 5 v) := iface_of Try.underlying5 rfl
theorem ass5 : ∀ {ok : Bool} {v : AV}, assertA Try.prog 5 ok v = assertV (zeroV Try.prog 5) 5 ok v := assert_of Try.underlying5 rfl
theorem cv2_5 : ∀ {k : IntKind} {a : Int} {H : AH}, convertA Try.prog 2 5 (.int k a) H = some (.int .u8 (IntKind.u8.wrap a), H) := conv_int Try.underlying5 (by rw [Try.underlying2]; rfl)
theorem cv3_5 : ∀ {k : IntKind} {a : Int} {H : AH}, convertA Try.prog 3 5 (.int k a) H = some (.int .u8 (IntKind.u8.wrap a), H) := conv_int Try.underlying5 (by rw [Try.underlying3]; rfl)
theorem cv5_5 : ∀ {k : IntKind} {a : Int} {H : AH}, convertA Try.prog 5 5 (.int k a) H = some (.int .u8 (IntKind.u8.wrap a), H) := conv_int Try.underlying5 (by rw [Try.underlying5]; rfl)
theorem cv12_5 : ∀ {k : IntKind} {a : Int} {H : AH}, convertA Try.prog 12 5 (.int k a) H = some (.int .u8 (IntKind.u8.wrap a), H) := conv_int Try.underlying5 (by rw [Try.underlying12]; rfl)
theorem cv21_5 : ∀ {k : IntKind} {a : Int} {H : AH}, convertA Try.prog 21 5 (.int k a) H = some (.int .u8 (IntKind.u8.wrap a), H) := conv_int Try.underlying5 (by rw [Try.underlying21]; rfl)
theorem cv24_5 : ∀ {k : IntKind} {a : Int} {H : AH}, convertA Try.prog 24 5 (.int k a) H = some (.int .u8 (IntKind.u8.wrap a), H) := conv_int Try.underlying5 (by rw [Try.underlying24]; rfl)
theorem cv67_5 : ∀ {k : IntKind} {a : Int} {H : AH}, convertA Try.prog 67 5 (.int k a) H = some (.int .u8 (IntKind.u8.wrap a), H) := conv_int Try.underlying5 (by rw [Try.underlying67]; rfl)
theorem cv81_5 : ∀ {k : IntKind} {a : Int} {H : AH}, convertA Try.prog 81 5 (.int k a) H = some (.int .u8 (IntKind.u8.wrap a), H) := conv_int Try.underlying5 (by rw [Try.underlying81]; rfl)
theorem ld7 : ∀ {p : AAddr} {H : AH}, loadA Try.prog 7 p H = (H.get p).bind fun cs => gd (p.off + 4 ≤ cs.length) (some (.agg ((cs.drop p.off).take 4))) := load_agg ag7 sz7
theorem pt7 : ∀ {cs : List AV} {o : Nat}, partA Try.prog 7 cs o = gd (o + 4 ≤ cs.length) (some (.agg ((cs.drop o).take 4))) := part_agg ag7 sz7
theorem eg7 : ∀ {a0 b0 : Int} {a1 b1 : Int} {a2 b2 : Bool} {a3 b3 : Int}, eqAgg Try.prog 7 (.agg [.int .i64 a0, .int .i64 a1, .bool a2, .int .u8 a3]) (.agg [.int .i64 b0, .int .i64 b1, .bool b2, .int .u8 b3]) = some (decide (a0 = b0) && (decide (a1 = b1) && ((a2 == b2) && (decide (a3 = b3) && true)))) := by intros; kernel_rfl
theorem ifc7 : ∀ {v : AV}, ifaceA Try.prog 7 v = some (.iface 7 v) := iface_of Try.underlying7 rfl
theorem ass7 : ∀ {ok : Bool} {v : AV}, assertA Try.prog 7 ok v = assertV (zeroV Try.prog 7) 7 ok v := assert_of Try.underlying7 rfl
theorem zv7 : zeroV Try.prog 7 = some (.agg [.int .i64 0, .int .i64 0, .bool false, .int .u8 0]) := by kernel_rfl
theorem sta7 : ∀ {vs : List AV} {H : AH} {i o : Nat}, storeA Try.prog 7 ⟨false, i, o⟩ (.agg vs) H = gd (vs.length = 4) (gdb (vs.all oneA) ((H.cells? i).bind fun l0 => gd (o + 4 ≤ l0.length) (some (H.set i (some (.cells (putL l0 o vs))))))) := store_aggs (n := 3) sz7
theorem fa7_0 : ∀ {p : AAddr}, fieldAddrA Try.prog 7 (.ptr p) 0 = some (.ptr ⟨p.ro, p.blk, p.off + 0⟩) := fa_struct Try.underlying7 (ft := 2) (o := 0) rfl (m := 0) sz2
theorem fl7_0 : ∀ {cs : List AV}, fieldA Try.prog 7 (.agg cs) 0 = partA Try.prog 2 cs 0 := fl_struct Try.underlying7 (ft := 2) (o := 0) rfl
theorem fa7_1 : ∀ {p : AAddr}, fieldAddrA Try.prog 7 (.ptr p) 1 = some (.ptr ⟨p.ro, p.blk, p.off + 1⟩) := fa_struct Try.underlying7 (ft := 3) (o := 1) rfl (m := 0) sz3
theorem fl7_1 : ∀ {cs : List AV}, fieldA Try.prog 7 (.agg cs) 1 = partA Try.prog 3 cs 1 := fl_struct Try.underlying7 (ft := 3) (o := 1) rfl
theorem fa7_2 : ∀ {p : AAddr}, fieldAddrA Try.prog 7 (.ptr p) 2 = some (.ptr ⟨p.ro, p.blk, p.off + 2⟩) := fa_struct Try.underlying7 (ft := 4) (o := 2) rfl (m := 0) sz4
theorem fl7_2 : ∀ {cs : List AV}, fieldA Try.prog 7 (.agg cs) 2 = partA Try.prog 4 cs 2 := fl_struct Try.underlying7 (ft := 4) (o := 2) rfl
theorem ld9 : ∀ {p : AAddr} {H : AH}, loadA Try.prog 9 p H = (H.get p).bind fun cs => cs[p.off]? := load_cell ag9
theorem pt9 : ∀ {cs : List AV} {o : Nat}, partA Try.prog 9 cs o = cs[o]? := part_cell ag9
theorem st9_0 : ∀ {a : ByteArray} {H : AH} {i o : Nat}, storeA Try.prog 9 ⟨false, i, o⟩ (.str a) H = (H.cells? i).bind fun l => gd (o < l.length) (some (H.set i (some (.cells (l.set o (.str a)))))) := store_cell sz9 rfl
theorem ifc9 : ∀ {v : AV}, ifaceA Try.prog 9 v = some (.iface 9 v) := iface_of Try.underlying9 rfl
theorem ass9 : ∀ {ok : Bool} {v : AV}, assertA Try.prog 9 ok v = assertV (zeroV Try.prog 9) 9 ok v := assert_of Try.underlying9 rfl
theorem ls9 : ∀ {s : ByteArray}, lenA Try.prog 9 (.str s) = some (.int .i64 s.size) := len_str Try.underlying9
theorem is9 : ∀ {s : ByteArray} {k : IntKind} {a : Int}, indexA Try.prog 9 (.str s) (.int k a) = gd (0 ≤ a) ((s[a.toNat]?).map fun b => .int .u8 b.toNat) := ix_str Try.underlying9
theorem ss9 : ∀ {s : ByteArray} {lo hi : Option AV}, sliceOpA Try.prog 9 (.str s) lo hi none = (optB hi s.size s.size).bind fun h => (optB lo h 0).map fun l => .str (s.extract l h) := slc_str Try.underlying9
theorem ld12 : ∀ {p : AAddr} {H : AH}, loadA Try.prog 12 p H = (H.get p).bind fun cs => cs[p.off]? := load_cell ag12
theorem pt12 : ∀ {cs : List AV} {o : Nat}, partA Try.prog 12 cs o = cs[o]? := part_cell ag12
theorem st12_0 : ∀ {k : IntKind} {a : Int} {H : AH} {i o : Nat}, storeA Try.prog 12 ⟨false, i, o⟩ (.int k a) H = (H.cells? i).bind fun l => gd (o < l.length) (some (H.set i (some (.cells (l.set o (.int k a)))))) := store_cell sz12 rfl
theorem st12_1 : ∀ {a : UInt8} {H : AH} {i o : Nat}, storeA Try.prog 12 ⟨false, i, o⟩ (bv a) H = (H.cells? i).bind fun l => gd (o < l.length) (some (H.set i (some (.cells (l.set o (bv a)))))) := store_cell sz12 rfl
theorem ifc12 : ∀ {v : AV}, ifaceA Try.prog 12 v = some (.iface 12 v) := iface_of Try.underlying12 rfl
theorem ass12 : ∀ {ok : Bool} {v : AV}, assertA Try.prog 12 ok v = assertV (zeroV Try.prog 12) 12 ok v := assert_of Try.underlying12 rfl
theorem cv2_12 : ∀ {k : IntKind} {a : Int} {H : AH}, convertA Try.prog 2 12 (.int k a) H = some (.int .u64 (IntKind.u64.wrap a), H) := conv_int Try.underlying12 (by rw [Try.underlying2]; rfl)
theorem cv3_12 : ∀ {k : IntKind} {a : Int} {H : AH}, convertA Try.prog 3 12 (.int k a) H = some (.int .u64 (IntKind.u64.wrap a), H) := conv_int Try.underlying12 (by rw [Try.underlying3]; rfl)
theorem cv5_12 : ∀ {k : IntKind} {a : Int} {H : AH}, convertA Try.prog 5 12 (.int k a) H = some (.int .u64 (IntKind.u64.wrap a), H) := conv_int Try.underlying12 (by rw [Try.underlying5]; rfl)
theorem cv12_12 : ∀ {k : IntKind} {a : Int} {H : AH}, convertA Try.prog 12 12 (.int k a) H = some (.int .u64 (IntKind.u64.wrap a), H) := conv_int Try.underlying12 (by rw [Try.underlying12]; rfl)
theorem cv21_12 : ∀ {k : IntKind} {a : Int} {H : AH}, convertA Try.prog 21 12 (.int k a) H = some (.int .u64 (IntKind.u64.wrap a), H) := conv_int Try.underlying12 (by rw [Try.underlying21]; rfl)
theorem cv24_12 : ∀ {k : IntKind} {a : Int} {H : AH}, convertA Try.prog 24 12 (.int k a) H = some (.int .u64 (IntKind.u64.wrap a), H) := conv_int Try.underlying12 (by rw [Try.underlying24]; rfl)
theorem cv67_12 : ∀ {k : IntKind} {a : Int} {H : AH}, convertA Try.prog 67 12 (.int k a) H = some (.int .u64 (IntKind.u64.wrap a), H) := conv_int Try.underlying12 (by rw [Try.underlying67]; rfl)
theorem cv81_12 : ∀ {k : IntKind} {a : Int} {H : AH}, convertA Try.prog 81 12 (.int k a) H = some (.int .u64 (IntKind.u64.wrap a), H) := conv_int Try.underlying12 (by rw [Try.underlying81]; rfl)
theorem ld13 : ∀ {p : AAddr} {H : AH}, loadA Try.prog 13 p H = (H.get p).bind fun cs => gd (p.off + 2 ≤ cs.length) (some (.agg ((cs.drop p.off).take 2))) := load_agg ag13 sz13
theorem pt13 : ∀ {cs : List AV} {o : Nat}, partA Try.prog 13 cs o = gd (o + 2 ≤ cs.length) (some (.agg ((cs.drop o).take 2))) := part_agg ag13 sz13
theorem ifc13 : ∀ {v : AV}, ifaceA Try.prog 13 v = some (.iface 13 v) := iface_of Try.underlying13 rfl
theorem ass13 : ∀ {ok : Bool} {v : AV}, assertA Try.prog 13 ok v = assertV (zeroV Try.prog 13) 13 ok v := assert_of Try.underlying13 rfl
theorem sta13 : ∀ {vs : List AV} {H : AH} {i o : Nat}, storeA Try.prog 13 ⟨false, i, o⟩ (.agg vs) H = gd (vs.length = 2) (gdb (vs.all oneA) ((H.cells? i).bind fun l0 => gd (o + 2 ≤ l0.length) (some (H.set i (some (.cells (putL l0 o vs))))))) := store_aggs (n := 1) sz13
theorem fa13_0 : ∀ {p : AAddr}, fieldAddrA Try.prog 13 (.ptr p) 0 = some (.ptr ⟨p.ro, p.blk, p.off + 0⟩) := fa_struct Try.underlying13 (ft := 9) (o := 0) rfl (m := 0) sz9
theorem fl13_0 : ∀ {cs : List AV}, fieldA Try.prog 13 (.agg cs) 0 = partA Try.prog 9 cs 0 := fl_struct Try.underlying13 (ft := 9) (o := 0) rfl
theorem fa13_1 : ∀ {p : AAddr}, fieldAddrA Try.prog 13 (.ptr p) 1 = some (.ptr ⟨p.ro, p.blk, p.off + 1⟩) := fa_struct Try.underlying13 (ft := 12) (o := 1) rfl (m := 0) sz12
theorem fl13_1 : ∀ {cs : List AV}, fieldA Try.prog 13 (.agg cs) 1 = partA Try.prog 12 cs 1 := fl_struct Try.underlying13 (ft := 12) (o := 1) rfl
theorem ld18 : ∀ {p : AAddr} {H : AH}, loadA Try.prog 18 p H = (H.get p).bind fun cs => gd (p.off + 1 ≤ cs.length) (some (.agg ((cs.drop p.off).take 1))) := load_agg ag18 sz18
theorem pt18 : ∀ {cs : List AV} {o : Nat}, partA Try.prog 18 cs o = gd (o + 1 ≤ cs.length) (some (.agg ((cs.drop o).take 1))) := part_agg ag18 sz18
theorem ifc18 : ∀ {v : AV}, ifaceA Try.prog 18 v = some (.iface 18 v) := iface_of Try.underlying18 rfl
theorem ass18 : ∀ {ok : Bool} {v : AV}, assertA Try.prog 18 ok v = assertV (zeroV Try.prog 18) 18 ok v := assert_of Try.underlying18 rfl
theorem sta18 : ∀ {vs : List AV} {H : AH} {i o : Nat}, storeA Try.prog 18 ⟨false, i, o⟩ (.agg vs) H = gd (vs.length = 1) (gdb (vs.all oneA) ((H.cells? i).bind fun l0 => gd (o + 1 ≤ l0.length) (some (H.set i (some (.cells (putL l0 o vs))))))) := store_aggs (n := 0) sz18
theorem ld21 : ∀ {p : AAddr} {H : AH}, loadA Try.prog 21 p H = (H.get p).bind fun cs => cs[p.off]? := load_cell ag21
theorem pt21 : ∀ {cs : List AV} {o : Nat}, partA Try.prog 21 cs o = cs[o]? := part_cell ag21
theorem st21_0 : ∀ {k : IntKind} {a : Int} {H : AH} {i o : Nat}, storeA Try.prog 21 ⟨false, i, o⟩ (.int k a) H = (H.cells? i).bind fun l => gd (o < l.length) (some (H.set i (some (.cells (l.set o (.int k a)))))) := store_cell sz21 rfl
theorem st21_1 : ∀ {a : UInt8} {H : AH} {i o : Nat}, storeA Try.prog 21 ⟨false, i, o⟩ (bv a) H = (H.cells? i).bind fun l => gd (o < l.length) (some (H.set i (some (.cells (l.set o (bv a)))))) := store_cell sz21 rfl
theorem ifc21 : ∀ {v : AV}, ifaceA Try.prog 21 v = some (.iface 21 v) := iface_of Try.underlying21 rfl
theorem ass21 : ∀ {ok : Bool} {v : AV}, assertA Try.prog 21 ok v = assertV (zeroV Try.prog 21) 21 ok v := assert_of Try.underlying21 rfl
theorem cv2_21 : ∀ {k : IntKind} {a : Int} {H : AH}, convertA Try.prog 2 21 (.int k a) H = some (.int .i32 (IntKind.i32.wrap a), H) := conv_int Try.underlying21 (by rw [Try.underlying2]; rfl)
theorem cv3_21 : ∀ {k : IntKind} {a : Int} {H : AH}, convertA Try.prog 3 21 (.int k a) H = some (.int .i32 (IntKind.i32.wrap a), H) := conv_int Try.underlying21 (by rw [Try.underlying3]; rfl)
theorem cv5_21 : ∀ {k : IntKind} {a : Int} {H : AH}, convertA Try.prog 5 21 (.int k a) H = some (.int .i32 (IntKind.i32.wrap a), H) := conv_int Try.underlying21 (by rw [Try.underlying5]; rfl)
theorem cv12_21 : ∀ {k : IntKind} {a : Int} {H : AH}, convertA Try.prog 12 21 (.int k a) H = some (.int .i32 (IntKind.i32.wrap a), H) := conv_int Try.underlying21 (by rw [Try.underlying12]; rfl)
theorem cv21_21 : ∀ {k : IntKind} {a : Int} {H : AH}, convertA Try.prog 21 21 (.int k a) H = some (.int .i32 (IntKind.i32.wrap a), H) := conv_int Try.underlying21 (by rw [Try.underlying21]; rfl)
theorem cv24_21 : ∀ {k : IntKind} {a : Int} {H : AH}, convertA Try.prog 24 21 (.int k a) H = some (.int .i32 (IntKind.i32.wrap a), H) := conv_int Try.underlying21 (by rw [Try.underlying24]; rfl)
theorem cv67_21 : ∀ {k : IntKind} {a : Int} {H : AH}, convertA Try.prog 67 21 (.int k a) H = some (.int .i32 (IntKind.i32.wrap a), H) := conv_int Try.underlying21 (by rw [Try.underlying67]; rfl)
theorem cv81_21 : ∀ {k : IntKind} {a : Int} {H : AH}, convertA Try.prog 81 21 (.int k a) H = some (.int .i32 (IntKind.i32.wrap a), H) := conv_int Try.underlying21 (by rw [Try.underlying81]; rfl)
theorem ld22 : ∀ {p : AAddr} {H : AH}, loadA Try.prog 22 p H = (H.get p).bind fun cs => cs[p.off]? := load_cell ag22
theorem pt22 : ∀ {cs : List AV} {o : Nat}, partA Try.prog 22 cs o = cs[o]? := part_cell ag22
theorem st22_0 : ∀ {a : AAddr} {n : Nat} {c : Cap} {H : AH} {i o : Nat}, storeA Try.prog 22 ⟨false, i, o⟩ (.slice a n c) H = (H.cells? i).bind fun l => gd (o < l.length) (some (H.set i (some (.cells (l.set o (.slice a n c)))))) := store_cell sz22 rfl
theorem st22_1 : ∀  {H : AH} {i o : Nat}, storeA Try.prog 22 ⟨false, i, o⟩ .nilslice H = (H.cells? i).bind fun l => gd (o < l.length) (some (H.set i (some (.cells (l.set o .nilslice))))) := store_cell sz22 rfl
theorem ifc22 : ∀ {v : AV}, ifaceA Try.prog 22 v = some (.iface 22 v) := iface_of Try.underlying22 rfl
theorem ass22 : ∀ {ok : Bool} {v : AV}, assertA Try.prog 22 ok v = assertV (zeroV Try.prog 22) 22 ok v := assert_of Try.underlying22 rfl
theorem ll22 : ∀ {p : AAddr} {n : Nat} {c : Cap}, lenA Try.prog 22 (.slice p n c) = some (.int .i64 n) := len_slice Try.underlying22
theorem ln22 : lenA Try.prog 22 .nilslice = some (.int .i64 0) := len_nil Try.underlying22
theorem ia22 : ∀ {p : AAddr} {n : Nat} {c : Cap} {k : IntKind} {a : Int}, indexAddrA Try.prog 22 (.slice p n c) (.int k a) = gd (0 ≤ a ∧ a < n) (some (.ptr ⟨p.ro, p.blk, p.off + a.toNat * 1⟩)) := ixa_slice Try.underlying22 sz35
theorem sk22 : ∀ {p : AAddr} {n c : Nat} {lo hi mx : Option AV}, sliceOpA Try.prog 22 (.slice p n (.known c)) lo hi mx = cutKnown p 1 n c lo hi mx := slc_known Try.underlying22 sz35
theorem sg22 : ∀ {p : AAddr} {n : Nat} {lo hi : Option AV}, sliceOpA Try.prog 22 (.slice p n (.grow 1)) lo hi none = if p.ro = false then (optB hi n n).bind fun h => (optB lo h 0).map fun l => .slice ⟨false, p.blk, p.off + l * 1⟩ (h - l) (.grow 1) else none := slc_grow Try.underlying22 sz35
theorem sn22 : ∀ {lo hi : Option AV}, sliceOpA Try.prog 22 .nilslice lo hi none = (optB hi 0 0).bind fun h => (optB lo h 0).map fun _ => .nilslice := slc_nil Try.underlying22 sz35
theorem ens22 : ∀ {p : AAddr} {n : Nat} {c : Cap}, binA Try.prog .eql 22 (.slice p n c) .nilslice = if sureSlice n c then some (.bool false) else none := eq_nil_slice Try.underlying22
theorem nns22 : ∀ {p : AAddr} {n : Nat} {c : Cap}, binA Try.prog .neq 22 (.slice p n c) .nilslice = if sureSlice n c then some (.bool true) else none := ne_nil_slice Try.underlying22
theorem enn22 : binA Try.prog .eql 22 .nilslice .nilslice = some (.bool true) := eq_nil_nil Try.underlying22
theorem nnn22 : binA Try.prog .neq 22 .nilslice .nilslice = some (.bool false) := ne_nil_nil Try.underlying22
theorem cp22 : ∀ {p : AAddr} {n : Nat} {c : Cap} {x : AV} {H : AH}, copyA Try.prog 22 (.slice p n c) x H = (newsA H 1 x).bind fun kn => if p.ro = false ∧ (H.cells? p.blk).isSome then (storeCellsA H p.blk p.off (kn.2.take (min kn.1 n * 1))).map fun H1 => (.int .i64 (min kn.1 n : Nat), H1) else none := copy_slice Try.underlying22 sz35
theorem cn22 : ∀ {x : AV} {H : AH}, copyA Try.prog 22 .nilslice x H = (newsA H 1 x).bind fun kn => some (.int .i64 0, H) := copy_nil Try.underlying22 sz35
theorem mk22 : ∀ {k k1 : IntKind} {a b : Int} {H : AH}, makeSliceA Try.prog 22 (.int k a) (.int k1 b) H = gd (0 ≤ a ∧ a ≤ b ∧ b ≤ 140737488355328 ∧ b * (24 : Nat) ≤ 140737488355328) (some (.slice ⟨false, H.n, 0⟩ a.toNat (.known b.toNat), H.push (some (.cells (repA ([.nilslice]) b.toNat))))) := make_slice Try.underlying22 sz35 by35 ze35 ⟨by simp, by decide⟩
theorem bs22 : ∀ {len : Nat} {parts : List (Nat × AV)} {H : AH}, len * 1 ≤ 16777216 → buildSliceA Try.prog 22 len parts H = (fillA (fun i => some (i * 1, 1)) (zerosL ([.nilslice]) len) parts).map fun cells => (.slice ⟨false, H.n, 0⟩ len (.known len), H.push (some (.cells cells))) := fun h => build_lit Try.underlying22 sz35 ze35 ⟨by simp, by decide⟩ h
theorem ap22 : ∀ {s x : AV} {H : AH}, appendA Try.prog 22 22 s x H = (newsA H 1 x).bind fun kn => if kn.2.all oneA = true then appendTo 1 24 H kn.1 kn.2 s else none := app_slice Try.underlying22 sz35 by35 ze35 ⟨by simp, by decide⟩
theorem ai22_3 : ∀ {s : AV} {l : Int} {H : AH}, appendA Try.prog 22 3 s (.int .i64 l) H = gd (0 ≤ l ∧ l ≤ 140737488355328) (gdb ((repA ([.nilslice]) l.toNat).all oneA) (appendTo 1 24 H l.toNat (repA ([.nilslice]) l.toNat) s)) := app_int Try.underlying22 sz35 by35 ze35 ⟨by simp, by decide⟩ Try.underlying3
theorem ld23 : ∀ {p : AAddr} {H : AH}, loadA Try.prog 23 p H = (H.get p).bind fun cs => cs[p.off]? := load_cell ag23
theorem pt23 : ∀ {cs : List AV} {o : Nat}, partA Try.prog 23 cs o = cs[o]? := part_cell ag23
theorem st23_0 : ∀ {a : AAddr} {n : Nat} {c : Cap} {H : AH} {i o : Nat}, storeA Try.prog 23 ⟨false, i, o⟩ (.slice a n c) H = (H.cells? i).bind fun l => gd (o < l.length) (some (H.set i (some (.cells (l.set o (.slice a n c)))))) := store_cell sz23 rfl
theorem st23_1 : ∀  {H : AH} {i o : Nat}, storeA Try.prog 23 ⟨false, i, o⟩ .nilslice H = (H.cells? i).bind fun l => gd (o < l.length) (some (H.set i (some (.cells (l.set o .nilslice))))) := store_cell sz23 rfl
theorem ifc23 : ∀ {v : AV}, ifaceA Try.prog 23 v = some (.iface 23 v) := iface_of Try.underlying23 rfl
theorem ass23 : ∀ {ok : Bool} {v : AV}, assertA Try.prog 23 ok v = assertV (zeroV Try.prog 23) 23 ok v := assert_of Try.underlying23 rfl
theorem ll23 : ∀ {p : AAddr} {n : Nat} {c : Cap}, lenA Try.prog 23 (.slice p n c) = some (.int .i64 n) := len_slice Try.underlying23
theorem ln23 : lenA Try.prog 23 .nilslice = some (.int .i64 0) := len_nil Try.underlying23
theorem ia23 : ∀ {p : AAddr} {n : Nat} {c : Cap} {k : IntKind} {a : Int}, indexAddrA Try.prog 23 (.slice p n c) (.int k a) = gd (0 ≤ a ∧ a < n) (some (.ptr ⟨p.ro, p.blk, p.off + a.toNat * 1⟩)) := ixa_slice Try.underlying23 sz35
theorem sk23 : ∀ {p : AAddr} {n c : Nat} {lo hi mx : Option AV}, sliceOpA Try.prog 23 (.slice p n (.known c)) lo hi mx = cutKnown p 1 n c lo hi mx := slc_known Try.underlying23 sz35
theorem sg23 : ∀ {p : AAddr} {n : Nat} {lo hi : Option AV}, sliceOpA Try.prog 23 (.slice p n (.grow 1)) lo hi none = if p.ro = false then (optB hi n n).bind fun h => (optB lo h 0).map fun l => .slice ⟨false, p.blk, p.off + l * 1⟩ (h - l) (.grow 1) else none := slc_grow Try.underlying23 sz35
theorem sn23 : ∀ {lo hi : Option AV}, sliceOpA Try.prog 23 .nilslice lo hi none = (optB hi 0 0).bind fun h => (optB lo h 0).map fun _ => .nilslice := slc_nil Try.underlying23 sz35
theorem ens23 : ∀ {p : AAddr} {n : Nat} {c : Cap}, binA Try.prog .eql 23 (.slice p n c) .nilslice = if sureSlice n c then some (.bool false) else none := eq_nil_slice Try.underlying23
theorem nns23 : ∀ {p : AAddr} {n : Nat} {c : Cap}, binA Try.prog .neq 23 (.slice p n c) .nilslice = if sureSlice n c then some (.bool true) else none := ne_nil_slice Try.underlying23
theorem enn23 : binA Try.prog .eql 23 .nilslice .nilslice = some (.bool true) := eq_nil_nil Try.underlying23
theorem nnn23 : binA Try.prog .neq 23 .nilslice .nilslice = some (.bool false) := ne_nil_nil Try.underlying23
theorem cp23 : ∀ {p : AAddr} {n : Nat} {c : Cap} {x : AV} {H : AH}, copyA Try.prog 23 (.slice p n c) x H = (newsA H 1 x).bind fun kn => if p.ro = false ∧ (H.cells? p.blk).isSome then (storeCellsA H p.blk p.off (kn.2.take (min kn.1 n * 1))).map fun H1 => (.int .i64 (min kn.1 n : Nat), H1) else none := copy_slice Try.underlying23 sz35
theorem cn23 : ∀ {x : AV} {H : AH}, copyA Try.prog 23 .nilslice x H = (newsA H 1 x).bind fun kn => some (.int .i64 0, H) := copy_nil Try.underlying23 sz35
theorem mk23 : ∀ {k k1 : IntKind} {a b : Int} {H : AH}, makeSliceA Try.prog 23 (.int k a) (.int k1 b) H = gd (0 ≤ a ∧ a ≤ b ∧ b ≤ 140737488355328 ∧ b * (24 : Nat) ≤ 140737488355328) (some (.slice ⟨false, H.n, 0⟩ a.toNat (.known b.toNat), H.push (some (.cells (repA ([.nilslice]) b.toNat))))) := make_slice Try.underlying23 sz35 by35 ze35 ⟨by simp, by decide⟩
theorem bs23 : ∀ {len : Nat} {parts : List (Nat × AV)} {H : AH}, len * 1 ≤ 16777216 → buildSliceA Try.prog 23 len parts H = (fillA (fun i => some (i * 1, 1)) (zerosL ([.nilslice]) len) parts).map fun cells => (.slice ⟨false, H.n, 0⟩ len (.known len), H.push (some (.cells cells))) := fun h => build_lit Try.underlying23 sz35 ze35 ⟨by simp, by decide⟩ h
theorem ap23 : ∀ {s x : AV} {H : AH}, appendA Try.prog 23 23 s x H = (newsA H 1 x).bind fun kn => if kn.2.all oneA = true then appendTo 1 24 H kn.1 kn.2 s else none := app_slice Try.underlying23 sz35 by35 ze35 ⟨by simp, by decide⟩
theorem ai23_3 : ∀ {s : AV} {l : Int} {H : AH}, appendA Try.prog 23 3 s (.int .i64 l) H = gd (0 ≤ l ∧ l ≤ 140737488355328) (gdb ((repA ([.nilslice]) l.toNat).all oneA) (appendTo 1 24 H l.toNat (repA ([.nilslice]) l.toNat) s)) := app_int Try.underlying23 sz35 by35 ze35 ⟨by simp, by decide⟩ Try.underlying3
theorem ld24 : ∀ {p : AAddr} {H : AH}, loadA Try.prog 24 p H = (H.get p).bind fun cs => cs[p.off]? := load_cell ag24
theorem pt24 : ∀ {cs : List AV} {o : Nat}, partA Try.prog 24 cs o = cs[o]? := part_cell ag24
theorem st24_0 : ∀ {k : IntKind} {a : Int} {H : AH} {i o : Nat}, storeA Try.prog 24 ⟨false, i, o⟩ (.int k a) H = (H.cells? i).bind fun l => gd (o < l.length) (some (H.set i (some (.cells (l.set o (.int k a)))))) := store_cell sz24 rfl
theorem st24_1 : ∀ {a : UInt8} {H : AH} {i o : Nat}, storeA Try.prog 24 ⟨false, i, o⟩ (bv a) H = (H.cells? i).bind fun l => gd (o < l.length) (some (H.set i (some (.cells (l.set o (bv a)))))) := store_cell sz24 rfl
theorem ifc24 : ∀ {v : AV}, ifaceA Try.prog 24 v = some (.iface 24 v) := iface_of Try.underlying24 rfl
theorem ass24 : ∀ {ok : Bool} {v : AV}, assertA Try.prog 24 ok v = assertV (zeroV Try.prog 24) 24 ok v := assert_of Try.underlying24 rfl
theorem cv2_24 : ∀ {k : IntKind} {a : Int} {H : AH}, convertA Try.prog 2 24 (.int k a) H = some (.int .i64 (IntKind.i64.wrap a), H) := conv_int Try.underlying24 (by rw [Try.underlying2]; rfl)
theorem cv3_24 : ∀ {k : IntKind} {a : Int} {H : AH}, convertA Try.prog 3 24 (.int k a) H = some (.int .i64 (IntKind.i64.wrap a), H) := conv_int Try.underlying24 (by rw [Try.underlying3]; rfl)
theorem cv5_24 : ∀ {k : IntKind} {a : Int} {H : AH}, convertA Try.prog 5 24 (.int k a) H = some (.int .i64 (IntKind.i64.wrap a), H) := conv_int Try.underlying24 (by rw [Try.underlying5]; rfl)
theorem cv12_24 : ∀ {k : IntKind} {a : Int} {H : AH}, convertA Try.prog 12 24 (.int k a) H = some (.int .i64 (IntKind.i64.wrap a), H) := conv_int Try.underlying24 (by rw [Try.underlying12]; rfl)
theorem cv21_24 : ∀ {k : IntKind} {a : Int} {H : AH}, convertA Try.prog 21 24 (.int k a) H = some (.int .i64 (IntKind.i64.wrap a), H) := conv_int Try.underlying24 (by rw [Try.underlying21]; rfl)
theorem cv24_24 : ∀ {k : IntKind} {a : Int} {H : AH}, convertA Try.prog 24 24 (.int k a) H = some (.int .i64 (IntKind.i64.wrap a), H) := conv_int Try.underlying24 (by rw [Try.underlying24]; rfl)
theorem cv67_24 : ∀ {k : IntKind} {a : Int} {H : AH}, convertA Try.prog 67 24 (.int k a) H = some (.int .i64 (IntKind.i64.wrap a), H) := conv_int Try.underlying24 (by rw [Try.underlying67]; rfl)
theorem cv81_24 : ∀ {k : IntKind} {a : Int} {H : AH}, convertA Try.prog 81 24 (.int k a) H = some (.int .i64 (IntKind.i64.wrap a), H) := conv_int Try.underlying24 (by rw [Try.underlying81]; rfl)
theorem ld35 : ∀ {p : AAddr} {H : AH}, loadA Try.prog 35 p H = (H.get p).bind fun cs => cs[p.off]? := load_cell ag35
theorem pt35 : ∀ {cs : List AV} {o : Nat}, partA Try.prog 35 cs o = cs[o]? := part_cell ag35
theorem st35_0 : ∀ {a : AAddr} {n : Nat} {c : Cap} {H : AH} {i o : Nat}, storeA Try.prog 35 ⟨false, i, o⟩ (.slice a n c) H = (H.cells? i).bind fun l => gd (o < l.length) (some (H.set i (some (.cells (l.set o (.slice a n c)))))) := store_cell sz35 rfl
theorem st35_1 : ∀  {H : AH} {i o : Nat}, storeA Try.prog 35 ⟨false, i, o⟩ .nilslice H = (H.cells? i).bind fun l => gd (o < l.length) (some (H.set i (some (.cells (l.set o .nilslice))))) := store_cell sz35 rfl
theorem ifc35 : ∀ {v : AV}, ifaceA Try.prog 35 v = some (.iface 35 v) := iface_of Try.underlying35 rfl
theorem ass35 : ∀ {ok : Bool} {v : AV}, assertA Try.prog 35 ok v = assertV (zeroV Try.prog 35) 35 ok v := assert_of Try.underlying35 rfl
theorem ll35 : ∀ {p : AAddr} {n : Nat} {c : Cap}, lenA Try.prog 35 (.slice p n c) = some (.int .i64 n) := len_slice Try.underlying35
theorem ln35 : lenA Try.prog 35 .nilslice = some (.int .i64 0) := len_nil Try.underlying35
theorem ia35 : ∀ {p : AAddr} {n : Nat} {c : Cap} {k : IntKind} {a : Int}, indexAddrA Try.prog 35 (.slice p n c) (.int k a) = gd (0 ≤ a ∧ a < n) (some (.ptr ⟨p.ro, p.blk, p.off + a.toNat * 1⟩)) := ixa_slice Try.underlying35 sz5
theorem sk35 : ∀ {p : AAddr} {n c : Nat} {lo hi mx : Option AV}, sliceOpA Try.prog 35 (.slice p n (.known c)) lo hi mx = cutKnown p 1 n c lo hi mx := slc_known Try.underlying35 sz5
theorem sg35 : ∀ {p : AAddr} {n : Nat} {lo hi : Option AV}, sliceOpA Try.prog 35 (.slice p n (.grow 1)) lo hi none = if p.ro = false then (optB hi n n).bind fun h => (optB lo h 0).map fun l => .slice ⟨false, p.blk, p.off + l * 1⟩ (h - l) (.grow 1) else none := slc_grow Try.underlying35 sz5
theorem sn35 : ∀ {lo hi : Option AV}, sliceOpA Try.prog 35 .nilslice lo hi none = (optB hi 0 0).bind fun h => (optB lo h 0).map fun _ => .nilslice := slc_nil Try.underlying35 sz5
theorem ens35 : ∀ {p : AAddr} {n : Nat} {c : Cap}, binA Try.prog .eql 35 (.slice p n c) .nilslice = if sureSlice n c then some (.bool false) else none := eq_nil_slice Try.underlying35
theorem nns35 : ∀ {p : AAddr} {n : Nat} {c : Cap}, binA Try.prog .neq 35 (.slice p n c) .nilslice = if sureSlice n c then some (.bool true) else none := ne_nil_slice Try.underlying35
theorem enn35 : binA Try.prog .eql 35 .nilslice .nilslice = some (.bool true) := eq_nil_nil Try.underlying35
theorem nnn35 : binA Try.prog .neq 35 .nilslice .nilslice = some (.bool false) := ne_nil_nil Try.underlying35
theorem cp35 : ∀ {p : AAddr} {n : Nat} {c : Cap} {x : AV} {H : AH}, copyA Try.prog 35 (.slice p n c) x H = (newsA H 1 x).bind fun kn => if p.ro = false ∧ (H.cells? p.blk).isSome then (storeCellsA H p.blk p.off (kn.2.take (min kn.1 n * 1))).map fun H1 => (.int .i64 (min kn.1 n : Nat), H1) else none := copy_slice Try.underlying35 sz5
theorem cn35 : ∀ {x : AV} {H : AH}, copyA Try.prog 35 .nilslice x H = (newsA H 1 x).bind fun kn => some (.int .i64 0, H) := copy_nil Try.underlying35 sz5
theorem mk35 : ∀ {k k1 : IntKind} {a b : Int} {H : AH}, makeSliceA Try.prog 35 (.int k a) (.int k1 b) H = gd (0 ≤ a ∧ a ≤ b ∧ b ≤ 140737488355328 ∧ b * (1 : Nat) ≤ 140737488355328) (some (.slice ⟨false, H.n, 0⟩ a.toNat (.known b.toNat), H.push (some (.cells (repA ([.int .u8 0]) b.toNat))))) := make_slice Try.underlying35 sz5 by5 ze5 ⟨by simp, by decide⟩
theorem bs35 : ∀ {len : Nat} {parts : List (Nat × AV)} {H : AH}, len * 1 ≤ 16777216 → buildSliceA Try.prog 35 len parts H = (fillA (fun i => some (i * 1, 1)) (zerosL ([.int .u8 0]) len) parts).map fun cells => (.slice ⟨false, H.n, 0⟩ len (.known len), H.push (some (.cells cells))) := fun h => build_lit Try.underlying35 sz5 ze5 ⟨by simp, by decide⟩ h
theorem ap35 : ∀ {s x : AV} {H : AH}, appendA Try.prog 35 35 s x H = (newsA H 1 x).bind fun kn => if kn.2.all oneA = true then appendTo 1 1 H kn.1 kn.2 s else none := app_slice Try.underlying35 sz5 by5 ze5 ⟨by simp, by decide⟩
theorem ai35_3 : ∀ {s : AV} {l : Int} {H : AH}, appendA Try.prog 35 3 s (.int .i64 l) H = gd (0 ≤ l ∧ l ≤ 140737488355328) (gdb ((repA ([.int .u8 0]) l.toNat).all oneA) (appendTo 1 1 H l.toNat (repA ([.int .u8 0]) l.toNat) s)) := app_int Try.underlying35 sz5 by5 ze5 ⟨by simp, by decide⟩ Try.underlying3
theorem aq35_9 : ∀ {s x : AV} {H : AH}, appendA Try.prog 35 9 s x H = (newsA H 1 x).bind fun kn => if kn.2.all oneA = true then appendTo 1 1 H kn.1 kn.2 s else none := app_str Try.underlying35 sz5 by5 ze5 ⟨by simp, by decide⟩ Try.underlying9
theorem tx35_9 : ∀ {p : AAddr} {n : Nat} {c : Cap} {H : AH}, convertA Try.prog 35 9 (.slice p n c) H = (rowA H 1 (.slice p n c)).bind fun cs => (bytesOfA cs).map fun bs => (.str ⟨bs.toArray⟩, H) := conv_text Try.underlying35 Try.underlying9 Try.underlying5
theorem tn35_9 : ∀ {H : AH}, convertA Try.prog 35 9 .nilslice H = some (.str ⟨#[]⟩, H) := conv_text_nil Try.underlying35 Try.underlying9 Try.underlying5
theorem ld38 : ∀ {p : AAddr} {H : AH}, loadA Try.prog 38 p H = (H.get p).bind fun cs => cs[p.off]? := load_cell ag38
theorem pt38 : ∀ {cs : List AV} {o : Nat}, partA Try.prog 38 cs o = cs[o]? := part_cell ag38
theorem st38_0 : ∀ {a : AAddr} {n : Nat} {c : Cap} {H : AH} {i o : Nat}, storeA Try.prog 38 ⟨false, i, o⟩ (.slice a n c) H = (H.cells? i).bind fun l => gd (o < l.length) (some (H.set i (some (.cells (l.set o (.slice a n c)))))) := store_cell sz38 rfl
theorem st38_1 : ∀  {H : AH} {i o : Nat}, storeA Try.prog 38 ⟨false, i, o⟩ .nilslice H = (H.cells? i).bind fun l => gd (o < l.length) (some (H.set i (some (.cells (l.set o .nilslice))))) := store_cell sz38 rfl
theorem ifc38 : ∀ {v : AV}, ifaceA Try.prog 38 v = some (.iface 38 v) := iface_of Try.underlying38 rfl
theorem ass38 : ∀ {ok : Bool} {v : AV}, assertA Try.prog 38 ok v = assertV (zeroV Try.prog 38) 38 ok v := assert_of Try.underlying38 rfl
theorem ll38 : ∀ {p : AAddr} {n : Nat} {c : Cap}, lenA Try.prog 38 (.slice p n c) = some (.int .i64 n) := len_slice Try.underlying38
theorem ln38 : lenA Try.prog 38 .nilslice = some (.int .i64 0) := len_nil Try.underlying38
theorem ia38 : ∀ {p : AAddr} {n : Nat} {c : Cap} {k : IntKind} {a : Int}, indexAddrA Try.prog 38 (.slice p n c) (.int k a) = gd (0 ≤ a ∧ a < n) (some (.ptr ⟨p.ro, p.blk, p.off + a.toNat * 1⟩)) := ixa_slice Try.underlying38 sz3
theorem sk38 : ∀ {p : AAddr} {n c : Nat} {lo hi mx : Option AV}, sliceOpA Try.prog 38 (.slice p n (.known c)) lo hi mx = cutKnown p 1 n c lo hi mx := slc_known Try.underlying38 sz3
theorem sg38 : ∀ {p : AAddr} {n : Nat} {lo hi : Option AV}, sliceOpA Try.prog 38 (.slice p n (.grow 1)) lo hi none = if p.ro = false then (optB hi n n).bind fun h => (optB lo h 0).map fun l => .slice ⟨false, p.blk, p.off + l * 1⟩ (h - l) (.grow 1) else none := slc_grow Try.underlying38 sz3
theorem sn38 : ∀ {lo hi : Option AV}, sliceOpA Try.prog 38 .nilslice lo hi none = (optB hi 0 0).bind fun h => (optB lo h 0).map fun _ => .nilslice := slc_nil Try.underlying38 sz3
theorem ens38 : ∀ {p : AAddr} {n : Nat} {c : Cap}, binA Try.prog .eql 38 (.slice p n c) .nilslice = if sureSlice n c then some (.bool false) else none := eq_nil_slice Try.underlying38
theorem nns38 : ∀ {p : AAddr} {n : Nat} {c : Cap}, binA Try.prog .neq 38 (.slice p n c) .nilslice = if sureSlice n c then some (.bool true) else none := ne_nil_slice Try.underlying38
theorem enn38 : binA Try.prog .eql 38 .nilslice .nilslice = some (.bool true) := eq_nil_nil Try.underlying38
theorem nnn38 : binA Try.prog .neq 38 .nilslice .nilslice = some (.bool false) := ne_nil_nil Try.underlying38
theorem cp38 : ∀ {p : AAddr} {n : Nat} {c : Cap} {x : AV} {H : AH}, copyA Try.prog 38 (.slice p n c) x H = (newsA H 1 x).bind fun kn => if p.ro = false ∧ (H.cells? p.blk).isSome then (storeCellsA H p.blk p.off (kn.2.take (min kn.1 n * 1))).map fun H1 => (.int .i64 (min kn.1 n : Nat), H1) else none := copy_slice Try.underlying38 sz3
theorem cn38 : ∀ {x : AV} {H : AH}, copyA Try.prog 38 .nilslice x H = (newsA H 1 x).bind fun kn => some (.int .i64 0, H) := copy_nil Try.underlying38 sz3
theorem mk38 : ∀ {k k1 : IntKind} {a b : Int} {H : AH}, makeSliceA Try.prog 38 (.int k a) (.int k1 b) H = gd (0 ≤ a ∧ a ≤ b ∧ b ≤ 140737488355328 ∧ b * (8 : Nat) ≤ 140737488355328) (some (.slice ⟨false, H.n, 0⟩ a.toNat (.known b.toNat), H.push (some (.cells (repA ([.int .i64 0]) b.toNat))))) := make_slice Try.underlying38 sz3 by3 ze3 ⟨by simp, by decide⟩
theorem bs38 : ∀ {len : Nat} {parts : List (Nat × AV)} {H : AH}, len * 1 ≤ 16777216 → buildSliceA Try.prog 38 len parts H = (fillA (fun i => some (i * 1, 1)) (zerosL ([.int .i64 0]) len) parts).map fun cells => (.slice ⟨false, H.n, 0⟩ len (.known len), H.push (some (.cells cells))) := fun h => build_lit Try.underlying38 sz3 ze3 ⟨by simp, by decide⟩ h
theorem ap38 : ∀ {s x : AV} {H : AH}, appendA Try.prog 38 38 s x H = (newsA H 1 x).bind fun kn => if kn.2.all oneA = true then appendTo 1 8 H kn.1 kn.2 s else none := app_slice Try.underlying38 sz3 by3 ze3 ⟨by simp, by decide⟩
theorem ai38_3 : ∀ {s : AV} {l : Int} {H : AH}, appendA Try.prog 38 3 s (.int .i64 l) H = gd (0 ≤ l ∧ l ≤ 140737488355328) (gdb ((repA ([.int .i64 0]) l.toNat).all oneA) (appendTo 1 8 H l.toNat (repA ([.int .i64 0]) l.toNat) s)) := app_int Try.underlying38 sz3 by3 ze3 ⟨by simp, by decide⟩ Try.underlying3
theorem ld46 : ∀ {p : AAddr} {H : AH}, loadA Try.prog 46 p H = (H.get p).bind fun cs => gd (p.off + 8 ≤ cs.length) (some (.agg ((cs.drop p.off).take 8))) := load_agg ag46 sz46
theorem pt46 : ∀ {cs : List AV} {o : Nat}, partA Try.prog 46 cs o = gd (o + 8 ≤ cs.length) (some (.agg ((cs.drop o).take 8))) := part_agg ag46 sz46
theorem ifc46 : ∀ {v : AV}, ifaceA Try.prog 46 v = some (.iface 46 v) := iface_of Try.underlying46 rfl
theorem ass46 : ∀ {ok : Bool} {v : AV}, assertA Try.prog 46 ok v = assertV (zeroV Try.prog 46) 46 ok v := assert_of Try.underlying46 rfl
theorem sta46 : ∀ {vs : List AV} {H : AH} {i o : Nat}, storeA Try.prog 46 ⟨false, i, o⟩ (.agg vs) H = gd (vs.length = 8) (gdb (vs.all oneA) ((H.cells? i).bind fun l0 => gd (o + 8 ≤ l0.length) (some (H.set i (some (.cells (putL l0 o vs))))))) := store_aggs (n := 7) sz46
theorem fa46_0 : ∀ {p : AAddr}, fieldAddrA Try.prog 46 (.ptr p) 0 = some (.ptr ⟨p.ro, p.blk, p.off + 0⟩) := fa_struct Try.underlying46 (ft := 5) (o := 0) rfl (m := 0) sz5
theorem fl46_0 : ∀ {cs : List AV}, fieldA Try.prog 46 (.agg cs) 0 = partA Try.prog 5 cs 0 := fl_struct Try.underlying46 (ft := 5) (o := 0) rfl
theorem fa46_1 : ∀ {p : AAddr}, fieldAddrA Try.prog 46 (.ptr p) 1 = some (.ptr ⟨p.ro, p.blk, p.off + 1⟩) := fa_struct Try.underlying46 (ft := 5) (o := 1) rfl (m := 0) sz5
theorem fl46_1 : ∀ {cs : List AV}, fieldA Try.prog 46 (.agg cs) 1 = partA Try.prog 5 cs 1 := fl_struct Try.underlying46 (ft := 5) (o := 1) rfl
theorem fa46_2 : ∀ {p : AAddr}, fieldAddrA Try.prog 46 (.ptr p) 2 = some (.ptr ⟨p.ro, p.blk, p.off + 2⟩) := fa_struct Try.underlying46 (ft := 5) (o := 2) rfl (m := 0) sz5
theorem fl46_2 : ∀ {cs : List AV}, fieldA Try.prog 46 (.agg cs) 2 = partA Try.prog 5 cs 2 := fl_struct Try.underlying46 (ft := 5) (o := 2) rfl
theorem fa46_3 : ∀ {p : AAddr}, fieldAddrA Try.prog 46 (.ptr p) 3 = some (.ptr ⟨p.ro, p.blk, p.off + 3⟩) := fa_struct Try.underlying46 (ft := 5) (o := 3) rfl (m := 0) sz5
theorem fl46_3 : ∀ {cs : List AV}, fieldA Try.prog 46 (.agg cs) 3 = partA Try.prog 5 cs 3 := fl_struct Try.underlying46 (ft := 5) (o := 3) rfl
theorem fa46_4 : ∀ {p : AAddr}, fieldAddrA Try.prog 46 (.ptr p) 4 = some (.ptr ⟨p.ro, p.blk, p.off + 4⟩) := fa_struct Try.underlying46 (ft := 35) (o := 4) rfl (m := 0) sz35
theorem fl46_4 : ∀ {cs : List AV}, fieldA Try.prog 46 (.agg cs) 4 = partA Try.prog 35 cs 4 := fl_struct Try.underlying46 (ft := 35) (o := 4) rfl
theorem fa46_5 : ∀ {p : AAddr}, fieldAddrA Try.prog 46 (.ptr p) 5 = some (.ptr ⟨p.ro, p.blk, p.off + 5⟩) := fa_struct Try.underlying46 (ft := 35) (o := 5) rfl (m := 0) sz35
theorem fl46_5 : ∀ {cs : List AV}, fieldA Try.prog 46 (.agg cs) 5 = partA Try.prog 35 cs 5 := fl_struct Try.underlying46 (ft := 35) (o := 5) rfl
theorem fa46_6 : ∀ {p : AAddr}, fieldAddrA Try.prog 46 (.ptr p) 6 = some (.ptr ⟨p.ro, p.blk, p.off + 6⟩) := fa_struct Try.underlying46 (ft := 35) (o := 6) rfl (m := 0) sz35
theorem fl46_6 : ∀ {cs : List AV}, fieldA Try.prog 46 (.agg cs) 6 = partA Try.prog 35 cs 6 := fl_struct Try.underlying46 (ft := 35) (o := 6) rfl
theorem fa46_7 : ∀ {p : AAddr}, fieldAddrA Try.prog 46 (.ptr p) 7 = some (.ptr ⟨p.ro, p.blk, p.off + 7⟩) := fa_struct Try.underlying46 (ft := 35) (o := 7) rfl (m := 0) sz35
theorem fl46_7 : ∀ {cs : List AV}, fieldA Try.prog 46 (.agg cs) 7 = partA Try.prog 35 cs 7 := fl_struct Try.underlying46 (ft := 35) (o := 7) rfl
theorem ld47 : ∀ {p : AAddr} {H : AH}, loadA Try.prog 47 p H = (H.get p).bind fun cs => gd (p.off + 8 ≤ cs.length) (some (.agg ((cs.drop p.off).take 8))) := load_agg ag47 sz47
theorem pt47 : ∀ {cs : List AV} {o : Nat}, partA Try.prog 47 cs o = gd (o + 8 ≤ cs.length) (some (.agg ((cs.drop o).take 8))) := part_agg ag47 sz47
theorem ifc47 : ∀ {v : AV}, ifaceA Try.prog 47 v = some (.iface 47 v) := iface_of Try.underlying47 rfl
theorem ass47 : ∀ {ok : Bool} {v : AV}, assertA Try.prog 47 ok v = assertV (zeroV Try.prog 47) 47 ok v := assert_of Try.underlying47 rfl
theorem sta47 : ∀ {vs : List AV} {H : AH} {i o : Nat}, storeA Try.prog 47 ⟨false, i, o⟩ (.agg vs) H = gd (vs.length = 8) (gdb (vs.all oneA) ((H.cells? i).bind fun l0 => gd (o + 8 ≤ l0.length) (some (H.set i (some (.cells (putL l0 o vs))))))) := store_aggs (n := 7) sz47
theorem fa47_0 : ∀ {p : AAddr}, fieldAddrA Try.prog 47 (.ptr p) 0 = some (.ptr ⟨p.ro, p.blk, p.off + 0⟩) := fa_struct Try.underlying47 (ft := 5) (o := 0) rfl (m := 0) sz5
theorem fl47_0 : ∀ {cs : List AV}, fieldA Try.prog 47 (.agg cs) 0 = partA Try.prog 5 cs 0 := fl_struct Try.underlying47 (ft := 5) (o := 0) rfl
theorem fa47_1 : ∀ {p : AAddr}, fieldAddrA Try.prog 47 (.ptr p) 1 = some (.ptr ⟨p.ro, p.blk, p.off + 1⟩) := fa_struct Try.underlying47 (ft := 5) (o := 1) rfl (m := 0) sz5
theorem fl47_1 : ∀ {cs : List AV}, fieldA Try.prog 47 (.agg cs) 1 = partA Try.prog 5 cs 1 := fl_struct Try.underlying47 (ft := 5) (o := 1) rfl
theorem fa47_2 : ∀ {p : AAddr}, fieldAddrA Try.prog 47 (.ptr p) 2 = some (.ptr ⟨p.ro, p.blk, p.off + 2⟩) := fa_struct Try.underlying47 (ft := 5) (o := 2) rfl (m := 0) sz5
theorem fl47_2 : ∀ {cs : List AV}, fieldA Try.prog 47 (.agg cs) 2 = partA Try.prog 5 cs 2 := fl_struct Try.underlying47 (ft := 5) (o := 2) rfl
theorem fa47_3 : ∀ {p : AAddr}, fieldAddrA Try.prog 47 (.ptr p) 3 = some (.ptr ⟨p.ro, p.blk, p.off + 3⟩) := fa_struct Try.underlying47 (ft := 5) (o := 3) rfl (m := 0) sz5
theorem fl47_3 : ∀ {cs : List AV}, fieldA Try.prog 47 (.agg cs) 3 = partA Try.prog 5 cs 3 := fl_struct Try.underlying47 (ft := 5) (o := 3) rfl
theorem fa47_4 : ∀ {p : AAddr}, fieldAddrA Try.prog 47 (.ptr p) 4 = some (.ptr ⟨p.ro, p.blk, p.off + 4⟩) := fa_struct Try.underlying47 (ft := 35) (o := 4) rfl (m := 0) sz35
theorem fl47_4 : ∀ {cs : List AV}, fieldA Try.prog 47 (.agg cs) 4 = partA Try.prog 35 cs 4 := fl_struct Try.underlying47 (ft := 35) (o := 4) rfl
theorem fa47_5 : ∀ {p : AAddr}, fieldAddrA Try.prog 47 (.ptr p) 5 = some (.ptr ⟨p.ro, p.blk, p.off + 5⟩) := fa_struct Try.underlying47 (ft := 35) (o := 5) rfl (m := 0) sz35
theorem fl47_5 : ∀ {cs : List AV}, fieldA Try.prog 47 (.agg cs) 5 = partA Try.prog 35 cs 5 := fl_struct Try.underlying47 (ft := 35) (o := 5) rfl
theorem fa47_6 : ∀ {p : AAddr}, fieldAddrA Try.prog 47 (.ptr p) 6 = some (.ptr ⟨p.ro, p.blk, p.off + 6⟩) := fa_struct Try.underlying47 (ft := 35) (o := 6) rfl (m := 0) sz35
theorem fl47_6 : ∀ {cs : List AV}, fieldA Try.prog 47 (.agg cs) 6 = partA Try.prog 35 cs 6 := fl_struct Try.underlying47 (ft := 35) (o := 6) rfl
theorem fa47_7 : ∀ {p : AAddr}, fieldAddrA Try.prog 47 (.ptr p) 7 = some (.ptr ⟨p.ro, p.blk, p.off + 7⟩) := fa_struct Try.underlying47 (ft := 35) (o := 7) rfl (m := 0) sz35
theorem fl47_7 : ∀ {cs : List AV}, fieldA Try.prog 47 (.agg cs) 7 = partA Try.prog 35 cs 7 := fl_struct Try.underlying47 (ft := 35) (o := 7) rfl
theorem ld51 : ∀ {p : AAddr} {H : AH}, loadA Try.prog 51 p H = (H.get p).bind fun cs => gd (p.off + 1 ≤ cs.length) (some (.agg ((cs.drop p.off).take 1))) := load_agg ag51 sz51
theorem pt51 : ∀ {cs : List AV} {o : Nat}, partA Try.prog 51 cs o = gd (o + 1 ≤ cs.length) (some (.agg ((cs.drop o).take 1))) := part_agg ag51 sz51
theorem eg51 : ∀ {a0 b0 : Int}, eqAgg Try.prog 51 (.agg [.int .i64 a0]) (.agg [.int .i64 b0]) = some (decide (a0 = b0) && true) := by intros; kernel_rfl
theorem ifc51 : ∀ {v : AV}, ifaceA Try.prog 51 v = some (.iface 51 v) := iface_of Try.underlying51 rfl
theorem ass51 : ∀ {ok : Bool} {v : AV}, assertA Try.prog 51 ok v = assertV (zeroV Try.prog 51) 51 ok v := assert_of Try.underlying51 rfl
theorem zv51 : zeroV Try.prog 51 = some (.agg [.int .i64 0]) := by kernel_rfl
theorem sta51 : ∀ {vs : List AV} {H : AH} {i o : Nat}, storeA Try.prog 51 ⟨false, i, o⟩ (.agg vs) H = gd (vs.length = 1) (gdb (vs.all oneA) ((H.cells? i).bind fun l0 => gd (o + 1 ≤ l0.length) (some (H.set i (some (.cells (putL l0 o vs))))))) := store_aggs (n := 0) sz51
theorem fa51_0 : ∀ {p : AAddr}, fieldAddrA Try.prog 51 (.ptr p) 0 = some (.ptr ⟨p.ro, p.blk, p.off + 0⟩) := fa_struct Try.underlying51 (ft := 3) (o := 0) rfl (m := 0) sz3
theorem fl51_0 : ∀ {cs : List AV}, fieldA Try.prog 51 (.agg cs) 0 = partA Try.prog 3 cs 0 := fl_struct Try.underlying51 (ft := 3) (o := 0) rfl
theorem ld52 : ∀ {p : AAddr} {H : AH}, loadA Try.prog 52 p H = (H.get p).bind fun cs => gd (p.off + 1 ≤ cs.length) (some (.agg ((cs.drop p.off).take 1))) := load_agg ag52 sz52
theorem pt52 : ∀ {cs : List AV} {o : Nat}, partA Try.prog 52 cs o = gd (o + 1 ≤ cs.length) (some (.agg ((cs.drop o).take 1))) := part_agg ag52 sz52
theorem eg52 : ∀ {a0 b0 : Int}, eqAgg Try.prog 52 (.agg [.int .i64 a0]) (.agg [.int .i64 b0]) = some (decide (a0 = b0) && true) := by intros; kernel_rfl
theorem ifc52 : ∀ {v : AV}, ifaceA Try.prog 52 v = some (.iface 52 v) := iface_of Try.underlying52 rfl
theorem ass52 : ∀ {ok : Bool} {v : AV}, assertA Try.prog 52 ok v = assertV (zeroV Try.prog 52) 52 ok v := assert_of Try.underlying52 rfl
theorem zv52 : zeroV Try.prog 52 = some (.agg [.int .i64 0]) := by kernel_rfl
theorem sta52 : ∀ {vs : List AV} {H : AH} {i o : Nat}, storeA Try.prog 52 ⟨false, i, o⟩ (.agg vs) H = gd (vs.length = 1) (gdb (vs.all oneA) ((H.cells? i).bind fun l0 => gd (o + 1 ≤ l0.length) (some (H.set i (some (.cells (putL l0 o vs))))))) := store_aggs (n := 0) sz52
theorem fa52_0 : ∀ {p : AAddr}, fieldAddrA Try.prog 52 (.ptr p) 0 = some (.ptr ⟨p.ro, p.blk, p.off + 0⟩) := fa_struct Try.underlying52 (ft := 3) (o := 0) rfl (m := 0) sz3
theorem fl52_0 : ∀ {cs : List AV}, fieldA Try.prog 52 (.agg cs) 0 = partA Try.prog 3 cs 0 := fl_struct Try.underlying52 (ft := 3) (o := 0) rfl
theorem ld67 : ∀ {p : AAddr} {H : AH}, loadA Try.prog 67 p H = (H.get p).bind fun cs => cs[p.off]? := load_cell ag67
theorem pt67 : ∀ {cs : List AV} {o : Nat}, partA Try.prog 67 cs o = cs[o]? := part_cell ag67
theorem st67_0 : ∀ {k : IntKind} {a : Int} {H : AH} {i o : Nat}, storeA Try.prog 67 ⟨false, i, o⟩ (.int k a) H = (H.cells? i).bind fun l => gd (o < l.length) (some (H.set i (some (.cells (l.set o (.int k a)))))) := store_cell sz67 rfl
theorem st67_1 : ∀ {a : UInt8} {H : AH} {i o : Nat}, storeA Try.prog 67 ⟨false, i, o⟩ (bv a) H = (H.cells? i).bind fun l => gd (o < l.length) (some (H.set i (some (.cells (l.set o (bv a)))))) := store_cell sz67 rfl
theorem ifc67 : ∀ {v : AV}, ifaceA Try.prog 67 v = some (.iface 67 v) := iface_of Try.underlying67 rfl
theorem ass67 : ∀ {ok : Bool} {v : AV}, assertA Try.prog 67 ok v = assertV (zeroV Try.prog 67) 67 ok v := assert_of Try.underlying67 rfl
theorem cv2_67 : ∀ {k : IntKind} {a : Int} {H : AH}, convertA Try.prog 2 67 (.int k a) H = some (.int .u64 (IntKind.u64.wrap a), H) := conv_int Try.underlying67 (by rw [Try.underlying2]; rfl)
theorem cv3_67 : ∀ {k : IntKind} {a : Int} {H : AH}, convertA Try.prog 3 67 (.int k a) H = some (.int .u64 (IntKind.u64.wrap a), H) := conv_int Try.underlying67 (by rw [Try.underlying3]; rfl)
theorem cv5_67 : ∀ {k : IntKind} {a : Int} {H : AH}, convertA Try.prog 5 67 (.int k a) H = some (.int .u64 (IntKind.u64.wrap a), H) := conv_int Try.underlying67 (by rw [Try.underlying5]; rfl)
theorem cv12_67 : ∀ {k : IntKind} {a : Int} {H : AH}, convertA Try.prog 12 67 (.int k a) H = some (.int .u64 (IntKind.u64.wrap a), H) := conv_int Try.underlying67 (by rw [Try.underlying12]; rfl)
theorem cv21_67 : ∀ {k : IntKind} {a : Int} {H : AH}, convertA Try.prog 21 67 (.int k a) H = some (.int .u64 (IntKind.u64.wrap a), H) := conv_int Try.underlying67 (by rw [Try.underlying21]; rfl)
theorem cv24_67 : ∀ {k : IntKind} {a : Int} {H : AH}, convertA Try.prog 24 67 (.int k a) H = some (.int .u64 (IntKind.u64.wrap a), H) := conv_int Try.underlying67 (by rw [Try.underlying24]; rfl)
theorem cv67_67 : ∀ {k : IntKind} {a : Int} {H : AH}, convertA Try.prog 67 67 (.int k a) H = some (.int .u64 (IntKind.u64.wrap a), H) := conv_int Try.underlying67 (by rw [Try.underlying67]; rfl)
theorem cv81_67 : ∀ {k : IntKind} {a : Int} {H : AH}, convertA Try.prog 81 67 (.int k a) H = some (.int .u64 (IntKind.u64.wrap a), H) := conv_int Try.underlying67 (by rw [Try.underlying81]; rfl)
theorem ld69 : ∀ {p : AAddr} {H : AH}, loadA Try.prog 69 p H = (H.get p).bind fun cs => gd (p.off + 255 ≤ cs.length) (some (.agg ((cs.drop p.off).take 255))) := load_agg ag69 sz69
theorem pt69 : ∀ {cs : List AV} {o : Nat}, partA Try.prog 69 cs o = gd (o + 255 ≤ cs.length) (some (.agg ((cs.drop o).take 255))) := part_agg ag69 sz69
theorem ifc69 : ∀ {v : AV}, ifaceA Try.prog 69 v = some (.iface 69 v) := iface_of Try.underlying69 rfl
theorem ass69 : ∀ {ok : Bool} {v : AV}, assertA Try.prog 69 ok v = assertV (zeroV Try.prog 69) 69 ok v := assert_of Try.underlying69 rfl
theorem sta69 : ∀ {vs : List AV} {H : AH} {i o : Nat}, storeA Try.prog 69 ⟨false, i, o⟩ (.agg vs) H = gd (vs.length = 255) (gdb (vs.all oneA) ((H.cells? i).bind fun l0 => gd (o + 255 ≤ l0.length) (some (H.set i (some (.cells (putL l0 o vs))))))) := store_aggs (n := 254) sz69
theorem la69 : ∀ {v : AV}, lenA Try.prog 69 v = some (.int .i64 255) := len_arr Try.underlying69
theorem ia69 : ∀ {p : AAddr} {k : IntKind} {a : Int}, indexAddrA Try.prog 69 (.ptr p) (.int k a) = gd (0 ≤ a ∧ a < (255 : Nat)) (some (.ptr ⟨p.ro, p.blk, p.off + a.toNat * 1⟩)) := ixa_arr Try.underlying69 sz5
theorem xa69 : ∀ {cs : List AV} {k : IntKind} {a : Int}, indexA Try.prog 69 (.agg cs) (.int k a) = gd (0 ≤ a ∧ a < (255 : Nat)) (partA Try.prog 5 cs (a.toNat * 1)) := ix_arr Try.underlying69 sz5
theorem sa69 : ∀ {p : AAddr} {lo hi mx : Option AV}, sliceOpA Try.prog 69 (.ptr p) lo hi mx = cutKnown p 1 255 255 lo hi mx := slc_arr Try.underlying69 sz5
theorem ld70 : ∀ {p : AAddr} {H : AH}, loadA Try.prog 70 p H = (H.get p).bind fun cs => gd (p.off + 256 ≤ cs.length) (some (.agg ((cs.drop p.off).take 256))) := load_agg ag70 sz70
theorem pt70 : ∀ {cs : List AV} {o : Nat}, partA Try.prog 70 cs o = gd (o + 256 ≤ cs.length) (some (.agg ((cs.drop o).take 256))) := part_agg ag70 sz70
theorem ifc70 : ∀ {v : AV}, ifaceA Try.prog 70 v = some (.iface 70 v) := iface_of Try.underlying70 rfl
theorem ass70 : ∀ {ok : Bool} {v : AV}, assertA Try.prog 70 ok v = assertV (zeroV Try.prog 70) 70 ok v := assert_of Try.underlying70 rfl
theorem sta70 : ∀ {vs : List AV} {H : AH} {i o : Nat}, storeA Try.prog 70 ⟨false, i, o⟩ (.agg vs) H = gd (vs.length = 256) (gdb (vs.all oneA) ((H.cells? i).bind fun l0 => gd (o + 256 ≤ l0.length) (some (H.set i (some (.cells (putL l0 o vs))))))) := store_aggs (n := 255) sz70
theorem la70 : ∀ {v : AV}, lenA Try.prog 70 v = some (.int .i64 256) := len_arr Try.underlying70
theorem ia70 : ∀ {p : AAddr} {k : IntKind} {a : Int}, indexAddrA Try.prog 70 (.ptr p) (.int k a) = gd (0 ≤ a ∧ a < (256 : Nat)) (some (.ptr ⟨p.ro, p.blk, p.off + a.toNat * 1⟩)) := ixa_arr Try.underlying70 sz3
theorem xa70 : ∀ {cs : List AV} {k : IntKind} {a : Int}, indexA Try.prog 70 (.agg cs) (.int k a) = gd (0 ≤ a ∧ a < (256 : Nat)) (partA Try.prog 3 cs (a.toNat * 1)) := ix_arr Try.underlying70 sz3
theorem sa70 : ∀ {p : AAddr} {lo hi mx : Option AV}, sliceOpA Try.prog 70 (.ptr p) lo hi mx = cutKnown p 1 256 256 lo hi mx := slc_arr Try.underlying70 sz3
theorem ld75 : ∀ {p : AAddr} {H : AH}, loadA Try.prog 75 p H = (H.get p).bind fun cs => gd (p.off + 4 ≤ cs.length) (some (.agg ((cs.drop p.off).take 4))) := load_agg ag75 sz75
theorem pt75 : ∀ {cs : List AV} {o : Nat}, partA Try.prog 75 cs o = gd (o + 4 ≤ cs.length) (some (.agg ((cs.drop o).take 4))) := part_agg ag75 sz75
theorem ifc75 : ∀ {v : AV}, ifaceA Try.prog 75 v = some (.iface 75 v) := iface_of Try.underlying75 rfl
theorem ass75 : ∀ {ok : Bool} {v : AV}, assertA Try.prog 75 ok v = assertV (zeroV Try.prog 75) 75 ok v := assert_of Try.underlying75 rfl
theorem sta75 : ∀ {vs : List AV} {H : AH} {i o : Nat}, storeA Try.prog 75 ⟨false, i, o⟩ (.agg vs) H = gd (vs.length = 4) (gdb (vs.all oneA) ((H.cells? i).bind fun l0 => gd (o + 4 ≤ l0.length) (some (H.set i (some (.cells (putL l0 o vs))))))) := store_aggs (n := 3) sz75
theorem fa75_3 : ∀ {p : AAddr}, fieldAddrA Try.prog 75 (.ptr p) 3 = some (.ptr ⟨p.ro, p.blk, p.off + 3⟩) := fa_struct Try.underlying75 (ft := 9) (o := 3) rfl (m := 0) sz9
theorem fl75_3 : ∀ {cs : List AV}, fieldA Try.prog 75 (.agg cs) 3 = partA Try.prog 9 cs 3 := fl_struct Try.underlying75 (ft := 9) (o := 3) rfl
theorem ld81 : ∀ {p : AAddr} {H : AH}, loadA Try.prog 81 p H = (H.get p).bind fun cs => cs[p.off]? := load_cell ag81
theorem pt81 : ∀ {cs : List AV} {o : Nat}, partA Try.prog 81 cs o = cs[o]? := part_cell ag81
theorem st81_0 : ∀ {k : IntKind} {a : Int} {H : AH} {i o : Nat}, storeA Try.prog 81 ⟨false, i, o⟩ (.int k a) H = (H.cells? i).bind fun l => gd (o < l.length) (some (H.set i (some (.cells (l.set o (.int k a)))))) := store_cell sz81 rfl
theorem st81_1 : ∀ {a : UInt8} {H : AH} {i o : Nat}, storeA Try.prog 81 ⟨false, i, o⟩ (bv a) H = (H.cells? i).bind fun l => gd (o < l.length) (some (H.set i (some (.cells (l.set o (bv a)))))) := store_cell sz81 rfl
theorem ifc81 : ∀ {v : AV}, ifaceA Try.prog 81 v = some (.iface 81 v) := iface_of Try.underlying81 rfl
theorem ass81 : ∀ {ok : Bool} {v : AV}, assertA Try.prog 81 ok v = assertV (zeroV Try.prog 81) 81 ok v := assert_of Try.underlying81 rfl
theorem cv2_81 : ∀ {k : IntKind} {a : Int} {H : AH}, convertA Try.prog 2 81 (.int k a) H = some (.int .u32 (IntKind.u32.wrap a), H) := conv_int Try.underlying81 (by rw [Try.underlying2]; rfl)
theorem cv3_81 : ∀ {k : IntKind} {a : Int} {H : AH}, convertA Try.prog 3 81 (.int k a) H = some (.int .u32 (IntKind.u32.wrap a), H) := conv_int Try.underlying81 (by rw [Try.underlying3]; rfl)
theorem cv5_81 : ∀ {k : IntKind} {a : Int} {H : AH}, convertA Try.prog 5 81 (.int k a) H = some (.int .u32 (IntKind.u32.wrap a), H) := conv_int Try.underlying81 (by rw [Try.underlying5]; rfl)
theorem cv12_81 : ∀ {k : IntKind} {a : Int} {H : AH}, convertA Try.prog 12 81 (.int k a) H = some (.int .u32 (IntKind.u32.wrap a), H) := conv_int Try.underlying81 (by rw [Try.underlying12]; rfl)
theorem cv21_81 : ∀ {k : IntKind} {a : Int} {H : AH}, convertA Try.prog 21 81 (.int k a) H = some (.int .u32 (IntKind.u32.wrap a), H) := conv_int Try.underlying81 (by rw [Try.underlying21]; rfl)
theorem cv24_81 : ∀ {k : IntKind} {a : Int} {H : AH}, convertA Try.prog 24 81 (.int k a) H = some (.int .u32 (IntKind.u32.wrap a), H) := conv_int Try.underlying81 (by rw [Try.underlying24]; rfl)
theorem cv67_81 : ∀ {k : IntKind} {a : Int} {H : AH}, convertA Try.prog 67 81 (.int k a) H = some (.int .u32 (IntKind.u32.wrap a), H) := conv_int Try.underlying81 (by rw [Try.underlying67]; rfl)
theorem cv81_81 : ∀ {k : IntKind} {a : Int} {H : AH}, convertA Try.prog 81 81 (.int k a) H = some (.int .u32 (IntKind.u32.wrap a), H) := conv_int Try.underlying81 (by rw [Try.underlying81]; rfl)
theorem ld85 : ∀ {p : AAddr} {H : AH}, loadA Try.prog 85 p H = (H.get p).bind fun cs => cs[p.off]? := load_cell ag85
theorem pt85 : ∀ {cs : List AV} {o : Nat}, partA Try.prog 85 cs o = cs[o]? := part_cell ag85
theorem st85_0 : ∀ {a : AAddr} {H : AH} {i o : Nat}, storeA Try.prog 85 ⟨false, i, o⟩ (.ptr a) H = (H.cells? i).bind fun l => gd (o < l.length) (some (H.set i (some (.cells (l.set o (.ptr a)))))) := store_cell sz85 rfl
theorem st85_1 : ∀  {H : AH} {i o : Nat}, storeA Try.prog 85 ⟨false, i, o⟩ .nilptr H = (H.cells? i).bind fun l => gd (o < l.length) (some (H.set i (some (.cells (l.set o .nilptr))))) := store_cell sz85 rfl
theorem ifc85 : ∀ {v : AV}, ifaceA Try.prog 85 v = some (.iface 85 v) := iface_of Try.underlying85 rfl
theorem ass85 : ∀ {ok : Bool} {v : AV}, assertA Try.prog 85 ok v = assertV (zeroV Try.prog 85) 85 ok v := assert_of Try.underlying85 rfl
theorem eqptrnil85 : ∀ {p : AAddr}, binA Try.prog .eql 85 (.ptr p) .nilptr = some (.bool false) := eq_ptr_nil Try.underlying85
theorem neptrnil85 : ∀ {p : AAddr}, binA Try.prog .neq 85 (.ptr p) .nilptr = some (.bool true) := ne_ptr_nil Try.underlying85
theorem eqnn85 : binA Try.prog .eql 85 .nilptr .nilptr = some (.bool true) := eq_nilptr Try.underlying85
theorem nenn85 : binA Try.prog .neq 85 .nilptr .nilptr = some (.bool false) := ne_nilptr Try.underlying85
theorem ld88 : ∀ {p : AAddr} {H : AH}, loadA Try.prog 88 p H = (H.get p).bind fun cs => gd (p.off + 11 ≤ cs.length) (some (.agg ((cs.drop p.off).take 11))) := load_agg ag88 sz88
theorem pt88 : ∀ {cs : List AV} {o : Nat}, partA Try.prog 88 cs o = gd (o + 11 ≤ cs.length) (some (.agg ((cs.drop o).take 11))) := part_agg ag88 sz88
theorem ifc88 : ∀ {v : AV}, ifaceA Try.prog 88 v = some (.iface 88 v) := iface_of Try.underlying88 rfl
theorem ass88 : ∀ {ok : Bool} {v : AV}, assertA Try.prog 88 ok v = assertV (zeroV Try.prog 88) 88 ok v := assert_of Try.underlying88 rfl
theorem sta88 : ∀ {vs : List AV} {H : AH} {i o : Nat}, storeA Try.prog 88 ⟨false, i, o⟩ (.agg vs) H = gd (vs.length = 11) (gdb (vs.all oneA) ((H.cells? i).bind fun l0 => gd (o + 11 ≤ l0.length) (some (H.set i (some (.cells (putL l0 o vs))))))) := store_aggs (n := 10) sz88
theorem fa88_0 : ∀ {p : AAddr}, fieldAddrA Try.prog 88 (.ptr p) 0 = some (.ptr ⟨p.ro, p.blk, p.off + 0⟩) := fa_struct Try.underlying88 (ft := 12) (o := 0) rfl (m := 0) sz12
theorem fl88_0 : ∀ {cs : List AV}, fieldA Try.prog 88 (.agg cs) 0 = partA Try.prog 12 cs 0 := fl_struct Try.underlying88 (ft := 12) (o := 0) rfl
theorem fa88_1 : ∀ {p : AAddr}, fieldAddrA Try.prog 88 (.ptr p) 1 = some (.ptr ⟨p.ro, p.blk, p.off + 1⟩) := fa_struct Try.underlying88 (ft := 12) (o := 1) rfl (m := 0) sz12
theorem fl88_1 : ∀ {cs : List AV}, fieldA Try.prog 88 (.agg cs) 1 = partA Try.prog 12 cs 1 := fl_struct Try.underlying88 (ft := 12) (o := 1) rfl
theorem fa88_2 : ∀ {p : AAddr}, fieldAddrA Try.prog 88 (.ptr p) 2 = some (.ptr ⟨p.ro, p.blk, p.off + 2⟩) := fa_struct Try.underlying88 (ft := 81) (o := 2) rfl (m := 0) sz81
theorem fl88_2 : ∀ {cs : List AV}, fieldA Try.prog 88 (.agg cs) 2 = partA Try.prog 81 cs 2 := fl_struct Try.underlying88 (ft := 81) (o := 2) rfl
theorem fa88_4 : ∀ {p : AAddr}, fieldAddrA Try.prog 88 (.ptr p) 4 = some (.ptr ⟨p.ro, p.blk, p.off + 4⟩) := fa_struct Try.underlying88 (ft := 5) (o := 4) rfl (m := 0) sz5
theorem fl88_4 : ∀ {cs : List AV}, fieldA Try.prog 88 (.agg cs) 4 = partA Try.prog 5 cs 4 := fl_struct Try.underlying88 (ft := 5) (o := 4) rfl
theorem fa88_5 : ∀ {p : AAddr}, fieldAddrA Try.prog 88 (.ptr p) 5 = some (.ptr ⟨p.ro, p.blk, p.off + 5⟩) := fa_struct Try.underlying88 (ft := 5) (o := 5) rfl (m := 0) sz5
theorem fl88_5 : ∀ {cs : List AV}, fieldA Try.prog 88 (.agg cs) 5 = partA Try.prog 5 cs 5 := fl_struct Try.underlying88 (ft := 5) (o := 5) rfl
theorem fa88_8 : ∀ {p : AAddr}, fieldAddrA Try.prog 88 (.ptr p) 8 = some (.ptr ⟨p.ro, p.blk, p.off + 8⟩) := fa_struct Try.underlying88 (ft := 85) (o := 8) rfl (m := 0) sz85
theorem fl88_8 : ∀ {cs : List AV}, fieldA Try.prog 88 (.agg cs) 8 = partA Try.prog 85 cs 8 := fl_struct Try.underlying88 (ft := 85) (o := 8) rfl
theorem ld90 : ∀ {p : AAddr} {H : AH}, loadA Try.prog 90 p H = (H.get p).bind fun cs => cs[p.off]? := load_cell ag90
theorem pt90 : ∀ {cs : List AV} {o : Nat}, partA Try.prog 90 cs o = cs[o]? := part_cell ag90
theorem ifc90 : ∀ {v : AV}, ifaceA Try.prog 90 v = some (.iface 90 v) := iface_of Try.underlying90 rfl
theorem ass90 : ∀ {ok : Bool} {v : AV}, assertA Try.prog 90 ok v = assertV (zeroV Try.prog 90) 90 ok v := assert_of Try.underlying90 rfl
attribute [go_sem] sz2 ze2 Try.underlying2 sz3 ze3 Try.underlying3 sz4 ze4 Try.underlying4 sz5 ze5 Try.underlying5 sz7 ze7 Try.underlying7 sz9 ze9 Try.underlying9 sz12 ze12 Try.underlying12 sz13 ze13 Try.underlying13 sz18 ze18 Try.underlying18 sz21 ze21 Try.underlying21 sz22 ze22 Try.underlying22 sz23 ze23 Try.underlying23 sz24 ze24 Try.underlying24 sz35
attribute [go_sem] ze35 Try.underlying35 sz38 ze38 Try.underlying38 sz46 ze46 Try.underlying46 sz47 ze47 Try.underlying47 sz51 ze51 Try.underlying51 sz52 ze52 Try.underlying52 sz67 ze67 Try.underlying67 sz69 ze69 Try.underlying69 sz70 ze70 Try.underlying70 sz75 ze75 Try.underlying75 sz81 ze81 Try.underlying81 sz85 ze85 Try.underlying85 sz88 ze88 Try.underlying88 sz90 ze90
attribute [go_sem] Try.underlying90 ld2 pt2 st2_0 st2_1 ifc2 ass2 cv2_2 cv3_2 cv5_2 cv12_2 cv21_2 cv24_2 cv67_2 cv81_2 ld3 pt3 st3_0 st3_1 ifc3 ass3 cv2_3 cv3_3 cv5_3 cv12_3 cv21_3 cv24_3 cv67_3 cv81_3 ld4 pt4 st4_0 ifc4 ass4 eb4 nb4 ld5 pt5 st5_0 st5_1
attribute [go_sem] ifc5 ass5 cv2_5 cv3_5 cv5_5 cv12_5 cv21_5 cv24_5 cv67_5 cv81_5 ld7 pt7 eg7 ifc7 ass7 zv7 sta7 fa7_0 fl7_0 fa7_1 fl7_1 fa7_2 fl7_2 ld9 pt9 st9_0 ifc9 ass9 ls9 is9 ss9 ld12 pt12 st12_0 st12_1 ifc12 ass12 cv2_12 cv3_12 cv5_12
attribute [go_sem] cv12_12 cv21_12 cv24_12 cv67_12 cv81_12 ld13 pt13 ifc13 ass13 sta13 fa13_0 fl13_0 fa13_1 fl13_1 ld18 pt18 ifc18 ass18 sta18 ld21 pt21 st21_0 st21_1 ifc21 ass21 cv2_21 cv3_21 cv5_21 cv12_21 cv21_21 cv24_21 cv67_21 cv81_21 ld22 pt22 st22_0 st22_1 ifc22 ass22 ll22
attribute [go_sem] ln22 ia22 sk22 sg22 sn22 ens22 nns22 enn22 nnn22 cp22 cn22 mk22 bs22 ap22 ai22_3 ld23 pt23 st23_0 st23_1 ifc23 ass23 ll23 ln23 ia23 sk23 sg23 sn23 ens23 nns23 enn23 nnn23 cp23 cn23 mk23 bs23 ap23 ai23_3 ld24 pt24 st24_0
attribute [go_sem] st24_1 ifc24 ass24 cv2_24 cv3_24 cv5_24 cv12_24 cv21_24 cv24_24 cv67_24 cv81_24 ld35 pt35 st35_0 st35_1 ifc35 ass35 ll35 ln35 ia35 sk35 sg35 sn35 ens35 nns35 enn35 nnn35 cp35 cn35 mk35 bs35 ap35 ai35_3 aq35_9 tx35_9 tn35_9 ld38 pt38 st38_0 st38_1
attribute [go_sem] ifc38 ass38 ll38 ln38 ia38 sk38 sg38 sn38 ens38 nns38 enn38 nnn38 cp38 cn38 mk38 bs38 ap38 ai38_3 ld46 pt46 ifc46 ass46 sta46 fa46_0 fl46_0 fa46_1 fl46_1 fa46_2 fl46_2 fa46_3 fl46_3 fa46_4 fl46_4 fa46_5 fl46_5 fa46_6 fl46_6 fa46_7 fl46_7 ld47
attribute [go_sem] pt47 ifc47 ass47 sta47 fa47_0 fl47_0 fa47_1 fl47_1 fa47_2 fl47_2 fa47_3 fl47_3 fa47_4 fl47_4 fa47_5 fl47_5 fa47_6 fl47_6 fa47_7 fl47_7 ld51 pt51 eg51 ifc51 ass51 zv51 sta51 fa51_0 fl51_0 ld52 pt52 eg52 ifc52 ass52 zv52 sta52 fa52_0 fl52_0 ld67 pt67
attribute [go_sem] st67_0 st67_1 ifc67 ass67 cv2_67 cv3_67 cv5_67 cv12_67 cv21_67 cv24_67 cv67_67 cv81_67 ld69 pt69 ifc69 ass69 sta69 la69 ia69 xa69 sa69 ld70 pt70 ifc70 ass70 sta70 la70 ia70 xa70 sa70 ld75 pt75 ifc75 ass75 sta75 fa75_3 fl75_3 ld81 pt81 st81_0
attribute [go_sem] st81_1 ifc81 ass81 cv2_81 cv3_81 cv5_81 cv12_81 cv21_81 cv24_81 cv67_81 cv81_81 ld85 pt85 st85_0 st85_1 ifc85 ass85 eqptrnil85 neptrnil85 eqnn85 nenn85 ld88 pt88 ifc88 ass88 sta88 fa88_0 fl88_0 fa88_1 fl88_1 fa88_2 fl88_2 fa88_4 fl88_4 fa88_5 fl88_5 fa88_8 fl88_8 ld90 pt90
attribute [go_sem] ifc90 ass90
end Go.Proofs.Ytojeggahjmjnpaa
