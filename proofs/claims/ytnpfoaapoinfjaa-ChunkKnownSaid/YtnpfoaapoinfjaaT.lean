/- What the abstract operations ask of this seat's types. -/
import Derived.Test.YtnpfoaapoinfjaaA22
import Derived.Test.YtnpfoaapoinfjaaProg
namespace Go.Proofs.Ytnpfoaapoinfjaa
open Go Go.Abs
set_option linter.unusedVariables false
theorem sz2 : sizeA Try.prog 2 = some 1 := by kernel_rfl
theorem by2 : bytesA Try.prog 2 = some 8 := by kernel_rfl
theorem ag2 : aggA Try.prog 2 = some false := by kernel_rfl
theorem ze2 : zeroA Try.prog 2 = some ([.int .i64 0]) := by kernel_rfl
theorem sz3 : sizeA Try.prog 3 = some 1 := by kernel_rfl
theorem by3 : bytesA Try.prog 3 = some 8 := by kernel_rfl
theorem ag3 : aggA Try.prog 3 = some false := by kernel_rfl
theorem ze3 : zeroA Try.prog 3 = some ([.int .i64 0]) := by kernel_rfl
theorem sz4 : sizeA Try.prog 4 = some 1 := by kernel_rfl
theorem by4 : bytesA Try.prog 4 = some 1 := by kernel_rfl
theorem ag4 : aggA Try.prog 4 = some false := by kernel_rfl
theorem ze4 : zeroA Try.prog 4 = some ([.bool false]) := by kernel_rfl
theorem sz5 : sizeA Try.prog 5 = some 1 := by kernel_rfl
theorem by5 : bytesA Try.prog 5 = some 1 := by kernel_rfl
theorem ag5 : aggA Try.prog 5 = some false := by kernel_rfl
theorem ze5 : zeroA Try.prog 5 = some ([.int .u8 0]) := by kernel_rfl
theorem sz7 : sizeA Try.prog 7 = some 4 := by kernel_rfl
theorem by7 : bytesA Try.prog 7 = some 24 := by kernel_rfl
theorem ag7 : aggA Try.prog 7 = some true := by kernel_rfl
theorem ze7 : zeroA Try.prog 7 = some ([.int .i64 0, .int .i64 0, .bool false, .int .u8 0]) := by kernel_rfl
theorem sz9 : sizeA Try.prog 9 = some 1 := by kernel_rfl
theorem by9 : bytesA Try.prog 9 = some 16 := by kernel_rfl
theorem ag9 : aggA Try.prog 9 = some false := by kernel_rfl
theorem ze9 : zeroA Try.prog 9 = some ([.str ByteArray.empty]) := by kernel_rfl
theorem sz12 : sizeA Try.prog 12 = some 1 := by kernel_rfl
theorem by12 : bytesA Try.prog 12 = some 8 := by kernel_rfl
theorem ag12 : aggA Try.prog 12 = some false := by kernel_rfl
theorem ze12 : zeroA Try.prog 12 = some ([.int .u64 0]) := by kernel_rfl
theorem sz13 : sizeA Try.prog 13 = some 2 := by kernel_rfl
theorem by13 : bytesA Try.prog 13 = some 24 := by kernel_rfl
theorem ag13 : aggA Try.prog 13 = some true := by kernel_rfl
theorem ze13 : zeroA Try.prog 13 = some ([.str ByteArray.empty, .int .u64 0]) := by kernel_rfl
theorem sz18 : sizeA Try.prog 18 = some 1 := by kernel_rfl
theorem by18 : bytesA Try.prog 18 = some 8 := by kernel_rfl
theorem ag18 : aggA Try.prog 18 = some true := by kernel_rfl
theorem ze18 : zeroA Try.prog 18 = some ([.nilptr]) := by kernel_rfl
theorem sz21 : sizeA Try.prog 21 = some 1 := by kernel_rfl
theorem by21 : bytesA Try.prog 21 = some 4 := by kernel_rfl
theorem ag21 : aggA Try.prog 21 = some false := by kernel_rfl
theorem ze21 : zeroA Try.prog 21 = some ([.int .i32 0]) := by kernel_rfl
theorem sz22 : sizeA Try.prog 22 = some 1 := by kernel_rfl
theorem by22 : bytesA Try.prog 22 = some 8 := by kernel_rfl
theorem ag22 : aggA Try.prog 22 = some false := by kernel_rfl
theorem ze22 : zeroA Try.prog 22 = some ([.int .u64 0]) := by kernel_rfl
theorem sz23 : sizeA Try.prog 23 = some 1 := by kernel_rfl
theorem by23 : bytesA Try.prog 23 = some 24 := by kernel_rfl
theorem ag23 : aggA Try.prog 23 = some false := by kernel_rfl
theorem ze23 : zeroA Try.prog 23 = some ([.nilslice]) := by kernel_rfl
theorem sz24 : sizeA Try.prog 24 = some 1 := by kernel_rfl
theorem by24 : bytesA Try.prog 24 = some 24 := by kernel_rfl
theorem ag24 : aggA Try.prog 24 = some false := by kernel_rfl
theorem ze24 : zeroA Try.prog 24 = some ([.nilslice]) := by kernel_rfl
theorem sz25 : sizeA Try.prog 25 = some 1 := by kernel_rfl
theorem by25 : bytesA Try.prog 25 = some 8 := by kernel_rfl
theorem ag25 : aggA Try.prog 25 = some false := by kernel_rfl
theorem ze25 : zeroA Try.prog 25 = some ([.int .i64 0]) := by kernel_rfl
theorem sz37 : sizeA Try.prog 37 = some 1 := by kernel_rfl
theorem by37 : bytesA Try.prog 37 = some 24 := by kernel_rfl
theorem ag37 : aggA Try.prog 37 = some false := by kernel_rfl
theorem ze37 : zeroA Try.prog 37 = some ([.nilslice]) := by kernel_rfl
theorem sz40 : sizeA Try.prog 40 = some 1 := by kernel_rfl
theorem by40 : bytesA Try.prog 40 = some 8 := by kernel_rfl
theorem ag40 : aggA Try.prog 40 = some false := by kernel_rfl
theorem ze40 : zeroA Try.prog 40 = some ([.nilfunc]) := by kernel_rfl
theorem sz52 : sizeA Try.prog 52 = some 64 := by kernel_rfl
theorem by52 : bytesA Try.prog 52 = some 64 := by kernel_rfl
theorem ag52 : aggA Try.prog 52 = some true := by kernel_rfl
theorem ze52 : zeroA Try.prog 52 = some (List.replicate 64 (.int .u8 0)) := by kernel_rfl
theorem sz53 : sizeA Try.prog 53 = some 1 := by kernel_rfl
theorem by53 : bytesA Try.prog 53 = some 8 := by kernel_rfl
theorem ag53 : aggA Try.prog 53 = some false := by kernel_rfl
theorem ze53 : zeroA Try.prog 53 = some ([.int .u64 0]) := by kernel_rfl
theorem sz57 : sizeA Try.prog 57 = some 4 := by kernel_rfl
theorem by57 : bytesA Try.prog 57 = some 40 := by kernel_rfl
theorem ag57 : aggA Try.prog 57 = some true := by kernel_rfl
theorem ze57 : zeroA Try.prog 57 = some ([.nilptr, .nilptr, .nilptr, .str ByteArray.empty]) := by kernel_rfl
theorem sz63 : sizeA Try.prog 63 = some 1 := by kernel_rfl
theorem by63 : bytesA Try.prog 63 = some 4 := by kernel_rfl
theorem ag63 : aggA Try.prog 63 = some false := by kernel_rfl
theorem ze63 : zeroA Try.prog 63 = some ([.int .u32 0]) := by kernel_rfl
theorem sz67 : sizeA Try.prog 67 = some 1 := by kernel_rfl
theorem by67 : bytesA Try.prog 67 = some 8 := by kernel_rfl
theorem ag67 : aggA Try.prog 67 = some false := by kernel_rfl
theorem ze67 : zeroA Try.prog 67 = some ([.nilptr]) := by kernel_rfl
theorem sz70 : sizeA Try.prog 70 = some 11 := by kernel_rfl
theorem by70 : bytesA Try.prog 70 = some 48 := by kernel_rfl
theorem ag70 : aggA Try.prog 70 = some true := by kernel_rfl
theorem ze70 : zeroA Try.prog 70 = some ([.int .u64 0, .int .u64 0, .int .u32 0, .int .u8 0, .int .u8 0, .int .u8 0, .int .u8 0, .nilfunc, .nilptr, .int .i32 0, .int .i32 0]) := by kernel_rfl
theorem sz72 : sizeA Try.prog 72 = some 1 := by kernel_rfl
theorem by72 : bytesA Try.prog 72 = some 8 := by kernel_rfl
theorem ag72 : aggA Try.prog 72 = some false := by kernel_rfl
theorem ze72 : zeroA Try.prog 72 = some ([.nilptr]) := by kernel_rfl
theorem ld2 : ∀ {p : AAddr} {H : AH}, loadA Try.prog 2 p H = (H.get p).bind fun cs => cs[p.off]? := load_cell ag2
theorem pt2 : ∀ {cs : List AV} {o : Nat}, partA Try.prog 2 cs o = cs[o]? := part_cell ag2
theorem st2_0 : ∀ {k : IntKind} {a : Int} {H : AH} {i o : Nat}, storeA Try.prog 2 ⟨false, i, o⟩ (.int k a) H = (H.cells? i).bind fun l => gd (o < l.length) (some (H.set i (some (.cells (l.set o (.int k a)))))) := store_cell sz2 rfl
theorem st2_1 : ∀ {a : UInt8} {H : AH} {i o : Nat}, storeA Try.prog 2 ⟨false, i, o⟩ (bv a) H = (H.cells? i).bind fun l => gd (o < l.length) (some (H.set i (some (.cells (l.set o (bv a)))))) := store_cell sz2 rfl
theorem ifc2 : ∀ {v : AV}, ifaceA Try.prog 2 v = some (.iface 2 v) := iface_of Try.underlying2 rfl
theorem ass2 : ∀ {ok : Bool} {v : AV}, assertA Try.prog 2 ok v = assertV (zeroV Try.prog 2) 2 ok v := assert_of Try.underlying2 rfl
theorem cv2_2 : ∀ {k : IntKind} {a : Int} {H : AH}, convertA Try.prog 2 2 (.int k a) H = some (.int .i64 (IntKind.i64.wrap a), H) := conv_int Try.underlying2 (by rw [Try.underlying2]; rfl)
theorem cv3_2 : ∀ {k : IntKind} {a : Int} {H : AH}, convertA Try.prog 3 2 (.int k a) H = some (.int .i64 (IntKind.i64.wrap a), H) := conv_int Try.underlying2 (by rw [Try.underlying3]; rfl)
theorem cv5_2 : ∀ {k : IntKind} {a : Int} {H : AH}, convertA Try.prog 5 2 (.int k a) H = some (.int .i64 (IntKind.i64.wrap a), H) := conv_int Try.underlying2 (by rw [Try.underlying5]; rfl)
theorem cv12_2 : ∀ {k : IntKind} {a : Int} {H : AH}, convertA Try.prog 12 2 (.int k a) H = some (.int .i64 (IntKind.i64.wrap a), H) := conv_int Try.underlying2 (by rw [Try.underlying12]; rfl)
theorem cv21_2 : ∀ {k : IntKind} {a : Int} {H : AH}, convertA Try.prog 21 2 (.int k a) H = some (.int .i64 (IntKind.i64.wrap a), H) := conv_int Try.underlying2 (by rw [Try.underlying21]; rfl)
theorem cv22_2 : ∀ {k : IntKind} {a : Int} {H : AH}, convertA Try.prog 22 2 (.int k a) H = some (.int .i64 (IntKind.i64.wrap a), H) := conv_int Try.underlying2 (by rw [Try.underlying22]; rfl)
theorem cv25_2 : ∀ {k : IntKind} {a : Int} {H : AH}, convertA Try.prog 25 2 (.int k a) H = some (.int .i64 (IntKind.i64.wrap a), H) := conv_int Try.underlying2 (by rw [Try.underlying25]; rfl)
theorem cv53_2 : ∀ {k : IntKind} {a : Int} {H : AH}, convertA Try.prog 53 2 (.int k a) H = some (.int .i64 (IntKind.i64.wrap a), H) := conv_int Try.underlying2 (by rw [Try.underlying53]; rfl)
theorem cv63_2 : ∀ {k : IntKind} {a : Int} {H : AH}, convertA Try.prog 63 2 (.int k a) H = some (.int .i64 (IntKind.i64.wrap a), H) := conv_int Try.underlying2 (by rw [Try.underlying63]; rfl)
theorem ld3 : ∀ {p : AAddr} {H : AH}, loadA Try.prog 3 p H = (H.get p).bind fun cs => cs[p.off]? := load_cell ag3
theorem pt3 : ∀ {cs : List AV} {o : Nat}, partA Try.prog 3 cs o = cs[o]? := part_cell ag3
theorem st3_0 : ∀ {k : IntKind} {a : Int} {H : AH} {i o : Nat}, storeA Try.prog 3 ⟨false, i, o⟩ (.int k a) H = (H.cells? i).bind fun l => gd (o < l.length) (some (H.set i (some (.cells (l.set o (.int k a)))))) := store_cell sz3 rfl
theorem st3_1 : ∀ {a : UInt8} {H : AH} {i o : Nat}, storeA Try.prog 3 ⟨false, i, o⟩ (bv a) H = (H.cells? i).bind fun l => gd (o < l.length) (some (H.set i (some (.cells (l.set o (bv a)))))) := store_cell sz3 rfl
theorem ifc3 : ∀ {v : AV}, ifaceA Try.prog 3 v = some (.iface 3 v) := iface_of Try.underlying3 rfl
theorem ass3 : ∀ {ok : Bool} {v : AV}, assertA Try.prog 3 ok v = assertV (zeroV Try.prog 3) 3 ok v := assert_of Try.underlying3 rfl
theorem cv2_3 : ∀ {k : IntKind} {a : Int} {H : AH}, convertA Try.prog 2 3 (.int k a) H = some (.int .i64 (IntKind.i64.wrap a), H) := conv_int Try.underlying3 (by rw [Try.underlying2]; rfl)
theorem cv3_3 : ∀ {k : IntKind} {a : Int} {H : AH}, convertA Try.prog 3 3 (.int k a) H = some (.int .i64 (IntKind.i64.wrap a), H) := conv_int Try.underlying3 (by rw [Try.underlying3]; rfl)
theorem cv5_3 : ∀ {k : IntKind} {a : Int} {H : AH}, convertA Try.prog 5 3 (.int k a) H = some (.int .i64 (IntKind.i64.wrap a), H) := conv_int Try.underlying3 (by rw [Try.underlying5]; rfl)
theorem cv12_3 : ∀ {k : IntKind} {a : Int} {H : AH}, convertA Try.prog 12 3 (.int k a) H = some (.int .i64 (IntKind.i64.wrap a), H) := conv_int Try.underlying3 (by rw [Try.underlying12]; rfl)
theorem cv21_3 : ∀ {k : IntKind} {a : Int} {H : AH}, convertA Try.prog 21 3 (.int k a) H = some (.int .i64 (IntKind.i64.wrap a), H) := conv_int Try.underlying3 (by rw [Try.underlying21]; rfl)
theorem cv22_3 : ∀ {k : IntKind} {a : Int} {H : AH}, convertA Try.prog 22 3 (.int k a) H = some (.int .i64 (IntKind.i64.wrap a), H) := conv_int Try.underlying3 (by rw [Try.underlying22]; rfl)
theorem cv25_3 : ∀ {k : IntKind} {a : Int} {H : AH}, convertA Try.prog 25 3 (.int k a) H = some (.int .i64 (IntKind.i64.wrap a), H) := conv_int Try.underlying3 (by rw [Try.underlying25]; rfl)
theorem cv53_3 : ∀ {k : IntKind} {a : Int} {H : AH}, convertA Try.prog 53 3 (.int k a) H = some (.int .i64 (IntKind.i64.wrap a), H) := conv_int Try.underlying3 (by rw [Try.underlying53]; rfl)
theorem cv63_3 : ∀ {k : IntKind} {a : Int} {H : AH}, convertA Try.prog 63 3 (.int k a) H = some (.int .i64 (IntKind.i64.wrap a), H) := conv_int Try.underlying3 (by rw [Try.underlying63]; rfl)
theorem ld4 : ∀ {p : AAddr} {H : AH}, loadA Try.prog 4 p H = (H.get p).bind fun cs => cs[p.off]? := load_cell ag4
theorem pt4 : ∀ {cs : List AV} {o : Nat}, partA Try.prog 4 cs o = cs[o]? := part_cell ag4
theorem st4_0 : ∀ {a : Bool} {H : AH} {i o : Nat}, storeA Try.prog 4 ⟨false, i, o⟩ (.bool a) H = (H.cells? i).bind fun l => gd (o < l.length) (some (H.set i (some (.cells (l.set o (.bool a)))))) := store_cell sz4 rfl
theorem ifc4 : ∀ {v : AV}, ifaceA Try.prog 4 v = some (.iface 4 v) := iface_of Try.underlying4 rfl
theorem ass4 : ∀ {ok : Bool} {v : AV}, assertA Try.prog 4 ok v = assertV (zeroV Try.prog 4) 4 ok v := assert_of Try.underlying4 rfl
theorem eb4 : ∀ {x y : Bool}, binA Try.prog .eql 4 (.bool x) (.bool y) = some (.bool (x == y)) := bin_bool Try.underlying4
theorem nb4 : ∀ {x y : Bool}, binA Try.prog .neq 4 (.bool x) (.bool y) = some (.bool (!(x == y))) := bin_boolne Try.underlying4
theorem ld5 : ∀ {p : AAddr} {H : AH}, loadA Try.prog 5 p H = (H.get p).bind fun cs => cs[p.off]? := load_cell ag5
theorem pt5 : ∀ {cs : List AV} {o : Nat}, partA Try.prog 5 cs o = cs[o]? := part_cell ag5
theorem st5_0 : ∀ {k : IntKind} {a : Int} {H : AH} {i o : Nat}, storeA Try.prog 5 ⟨false, i, o⟩ (.int k a) H = (H.cells? i).bind fun l => gd (o < l.length) (some (H.set i (some (.cells (l.set o (.int k a)))))) := store_cell sz5 rfl
theorem st5_1 : ∀ {a : UInt8} {H : AH} {i o : Nat}, storeA Try.prog 5 ⟨false, i, o⟩ (bv a) H = (H.cells? i).bind fun l => gd (o < l.length) (some (H.set i (some (.cells (l.set o (bv a)))))) := store_cell sz5 rfl
theorem ifc5 : ∀ {v : AV}, ifaceA Try.prog 5 v = some (.iface 5 v) := iface_of Try.underlying5 rfl
theorem ass5 : ∀ {ok : Bool} {v : AV}, assertA Try.prog 5 ok v = assertV (zeroV Try.prog 5) 5 ok v := assert_of Try.underlying5 rfl
theorem cv2_5 : ∀ {k : IntKind} {a : Int} {H : AH}, convertA Try.prog 2 5 (.int k a) H = some (.int .u8 (IntKind.u8.wrap a), H) := conv_int Try.underlying5 (by rw [Try.underlying2]; rfl)
theorem cv3_5 : ∀ {k : IntKind} {a : Int} {H : AH}, convertA Try.prog 3 5 (.int k a) H = some (.int .u8 (IntKind.u8.wrap a), H) := conv_int Try.underlying5 (by rw [Try.underlying3]; rfl)
theorem cv5_5 : ∀ {k : IntKind} {a : Int} {H : AH}, convertA Try.prog 5 5 (.int k a) H = some (.int .u8 (IntKind.u8.wrap a), H) := conv_int Try.underlying5 (by rw [Try.underlying5]; rfl)
theorem cv12_5 : ∀ {k : IntKind} {a : Int} {H : AH}, convertA Try.prog 12 5 (.int k a) H = some (.int .u8 (IntKind.u8.wrap a), H) := conv_int Try.underlying5 (by rw [Try.underlying12]; rfl)
theorem cv21_5 : ∀ {k : IntKind} {a : Int} {H : AH}, convertA Try.prog 21 5 (.int k a) H = some (.int .u8 (IntKind.u8.wrap a), H) := conv_int Try.underlying5 (by rw [Try.underlying21]; rfl)
theorem cv22_5 : ∀ {k : IntKind} {a : Int} {H : AH}, convertA Try.prog 22 5 (.int k a) H = some (.int .u8 (IntKind.u8.wrap a), H) := conv_int Try.underlying5 (by rw [Try.underlying22]; rfl)
theorem cv25_5 : ∀ {k : IntKind} {a : Int} {H : AH}, convertA Try.prog 25 5 (.int k a) H = some (.int .u8 (IntKind.u8.wrap a), H) := conv_int Try.underlying5 (by rw [Try.underlying25]; rfl)
theorem cv53_5 : ∀ {k : IntKind} {a : Int} {H : AH}, convertA Try.prog 53 5 (.int k a) H = some (.int .u8 (IntKind.u8.wrap a), H) := conv_int Try.underlying5 (by rw [Try.underlying53]; rfl)
theorem cv63_5 : ∀ {k : IntKind} {a : Int} {H : AH}, convertA Try.prog 63 5 (.int k a) H = some (.int .u8 (IntKind.u8.wrap a), H) := conv_int Try.underlying5 (by rw [Try.underlying63]; rfl)
theorem ld7 : ∀ {p : AAddr} {H : AH}, loadA Try.prog 7 p H = (H.get p).bind fun cs => gd (p.off + 4 ≤ cs.length) (some (.agg ((cs.drop p.off).take 4))) := load_agg ag7 sz7
theorem pt7 : ∀ {cs : List AV} {o : Nat}, partA Try.prog 7 cs o = gd (o + 4 ≤ cs.length) (some (.agg ((cs.drop o).take 4))) := part_agg ag7 sz7
theorem eg7 : ∀ {a0 b0 : Int} {a1 b1 : Int} {a2 b2 : Bool} {a3 b3 : Int}, eqAgg Try.prog 7 (.agg [.int .i64 a0, .int .i64 a1, .bool a2, .int .u8 a3]) (.agg [.int .i64 b0, .int .i64 b1, .bool b2, .int .u8 b3]) = some (decide (a0 = b0) && (decide (a1 = b1) && ((a2 == b2) && (decide (a3 = b3) && true)))) := by intros; kernel_rfl
theorem ifc7 : ∀ {v : AV}, ifaceA Try.prog 7 v = some (.iface 7 v) := iface_of Try.underlying7 rfl
theorem ass7 : ∀ {ok : Bool} {v : AV}, assertA Try.prog 7 ok v = assertV (zeroV Try.prog 7) 7 ok v := assert_of Try.underlying7 rfl
theorem zv7 : zeroV Try.prog 7 = some (.agg [.int .i64 0, .int .i64 0, .bool false, .int .u8 0]) := by kernel_rfl
theorem sta7 : ∀ {vs : List AV} {H : AH} {i o : Nat}, storeA Try.prog 7 ⟨false, i, o⟩ (.agg vs) H = gd (vs.length = 4) (gdb (vs.all oneA) ((H.cells? i).bind fun l0 => gd (o + 4 ≤ l0.length) (some (H.set i (some (.cells (putL l0 o vs))))))) := store_aggs (n := 3) sz7
theorem fa7_0 : ∀ {p : AAddr}, fieldAddrA Try.prog 7 (.ptr p) 0 = some (.ptr ⟨p.ro, p.blk, p.off + 0⟩) := fa_struct Try.underlying7 (ft := 2) (o := 0) rfl (m := 0) sz2
theorem fl7_0 : ∀ {cs : List AV}, fieldA Try.prog 7 (.agg cs) 0 = partA Try.prog 2 cs 0 := fl_struct Try.underlying7 (ft := 2) (o := 0) rfl
theorem fa7_1 : ∀ {p : AAddr}, fieldAddrA Try.prog 7 (.ptr p) 1 = some (.ptr ⟨p.ro, p.blk, p.off + 1⟩) := fa_struct Try.underlying7 (ft := 3) (o := 1) rfl (m := 0) sz3
theorem fl7_1 : ∀ {cs : List AV}, fieldA Try.prog 7 (.agg cs) 1 = partA Try.prog 3 cs 1 := fl_struct Try.underlying7 (ft := 3) (o := 1) rfl
theorem fa7_2 : ∀ {p : AAddr}, fieldAddrA Try.prog 7 (.ptr p) 2 = some (.ptr ⟨p.ro, p.blk, p.off + 2⟩) := fa_struct Try.underlying7 (ft := 4) (o := 2) rfl (m := 0) sz4
theorem fl7_2 : ∀ {cs : List AV}, fieldA Try.prog 7 (.agg cs) 2 = partA Try.prog 4 cs 2 := fl_struct Try.underlying7 (ft := 4) (o := 2) rfl
theorem ld9 : ∀ {p : AAddr} {H : AH}, loadA Try.prog 9 p H = (H.get p).bind fun cs => cs[p.off]? := load_cell ag9
theorem pt9 : ∀ {cs : List AV} {o : Nat}, partA Try.prog 9 cs o = cs[o]? := part_cell ag9
theorem st9_0 : ∀ {a : ByteArray} {H : AH} {i o : Nat}, storeA Try.prog 9 ⟨false, i, o⟩ (.str a) H = (H.cells? i).bind fun l => gd (o < l.length) (some (H.set i (some (.cells (l.set o (.str a)))))) := store_cell sz9 rfl
theorem ifc9 : ∀ {v : AV}, ifaceA Try.prog 9 v = some (.iface 9 v) := iface_of Try.underlying9 rfl
theorem ass9 : ∀ {ok : Bool} {v : AV}, assertA Try.prog 9 ok v = assertV (zeroV Try.prog 9) 9 ok v := assert_of Try.underlying9 rfl
theorem ls9 : ∀ {s : ByteArray}, lenA Try.prog 9 (.str s) = some (.int .i64 s.size) := len_str Try.underlying9
theorem is9 : ∀ {s : ByteArray} {k : IntKind} {a : Int}, indexA Try.prog 9 (.str s) (.int k a) = gd (0 ≤ a) ((s[a.toNat]?).map fun b => .int .u8 b.toNat) := ix_str Try.underlying9
theorem ss9 : ∀ {s : ByteArray} {lo hi : Option AV}, sliceOpA Try.prog 9 (.str s) lo hi none = (optB hi s.size s.size).bind fun h => (optB lo h 0).map fun l => .str (s.extract l h) := slc_str Try.underlying9
theorem ld12 : ∀ {p : AAddr} {H : AH}, loadA Try.prog 12 p H = (H.get p).bind fun cs => cs[p.off]? := load_cell ag12
theorem pt12 : ∀ {cs : List AV} {o : Nat}, partA Try.prog 12 cs o = cs[o]? := part_cell ag12
theorem st12_0 : ∀ {k : IntKind} {a : Int} {H : AH} {i o : Nat}, storeA Try.prog 12 ⟨false, i, o⟩ (.int k a) H = (H.cells? i).bind fun l => gd (o < l.length) (some (H.set i (some (.cells (l.set o (.int k a)))))) := store_cell sz12 rfl
theorem st12_1 : ∀ {a : UInt8} {H : AH} {i o : Nat}, storeA Try.prog 12 ⟨false, i, o⟩ (bv a) H = (H.cells? i).bind fun l => gd (o < l.length) (some (H.set i (some (.cells (l.set o (bv a)))))) := store_cell sz12 rfl
theorem ifc12 : ∀ {v : AV}, ifaceA Try.prog 12 v = some (.iface 12 v) := iface_of Try.underlying12 rfl
theorem ass12 : ∀ {ok : Bool} {v : AV}, assertA Try.prog 12 ok v = assertV (zeroV Try.prog 12) 12 ok v := assert_of Try.underlying12 rfl
theorem cv2_12 : ∀ {k : IntKind} {a : Int} {H : AH}, convertA Try.prog 2 12 (.int k a) H = some (.int .u64 (IntKind.u64.wrap a), H) := conv_int Try.underlying12 (by rw [Try.underlying2]; rfl)
theorem cv3_12 : ∀ {k : IntKind} {a : Int} {H : AH}, convertA Try.prog 3 12 (.int k a) H = some (.int .u64 (IntKind.u64.wrap a), H) := conv_int Try.underlying12 (by rw [Try.underlying3]; rfl)
theorem cv5_12 : ∀ {k : IntKind} {a : Int} {H : AH}, convertA Try.prog 5 12 (.int k a) H = some (.int .u64 (IntKind.u64.wrap a), H) := conv_int Try.underlying12 (by rw [Try.underlying5]; rfl)
theorem cv12_12 : ∀ {k : IntKind} {a : Int} {H : AH}, convertA Try.prog 12 12 (.int k a) H = some (.int .u64 (IntKind.u64.wrap a), H) := conv_int Try.underlying12 (by rw [Try.underlying12]; rfl)
theorem cv21_12 : ∀ {k : IntKind} {a : Int} {H : AH}, convertA Try.prog 21 12 (.int k a) H = some (.int .u64 (IntKind.u64.wrap a), H) := conv_int Try.underlying12 (by rw [Try.underlying21]; rfl)
theorem cv22_12 : ∀ {k : IntKind} {a : Int} {H : AH}, convertA Try.prog 22 12 (.int k a) H = some (.int .u64 (IntKind.u64.wrap a), H) := conv_int Try.underlying12 (by rw [Try.underlying22]; rfl)
theorem cv25_12 : ∀ {k : IntKind} {a : Int} {H : AH}, convertA Try.prog 25 12 (.int k a) H = some (.int .u64 (IntKind.u64.wrap a), H) := conv_int Try.underlying12 (by rw [Try.underlying25]; rfl)
theorem cv53_12 : ∀ {k : IntKind} {a : Int} {H : AH}, convertA Try.prog 53 12 (.int k a) H = some (.int .u64 (IntKind.u64.wrap a), H) := conv_int Try.underlying12 (by rw [Try.underlying53]; rfl)
theorem cv63_12 : ∀ {k : IntKind} {a : Int} {H : AH}, convertA Try.prog 63 12 (.int k a) H = some (.int .u64 (IntKind.u64.wrap a), H) := conv_int Try.underlying12 (by rw [Try.underlying63]; rfl)
theorem ld13 : ∀ {p : AAddr} {H : AH}, loadA Try.prog 13 p H = (H.get p).bind fun cs => gd (p.off + 2 ≤ cs.length) (some (.agg ((cs.drop p.off).take 2))) := load_agg ag13 sz13
theorem pt13 : ∀ {cs : List AV} {o : Nat}, partA Try.prog 13 cs o = gd (o + 2 ≤ cs.length) (some (.agg ((cs.drop o).take 2))) := part_agg ag13 sz13
theorem ifc13 : ∀ {v : AV}, ifaceA Try.prog 13 v = some (.iface 13 v) := iface_of Try.underlying13 rfl
theorem ass13 : ∀ {ok : Bool} {v : AV}, assertA Try.prog 13 ok v = assertV (zeroV Try.prog 13) 13 ok v := assert_of Try.underlying13 rfl
theorem sta13 : ∀ {vs : List AV} {H : AH} {i o : Nat}, storeA Try.prog 13 ⟨false, i, o⟩ (.agg vs) H = gd (vs.length = 2) (gdb (vs.all oneA) ((H.cells? i).bind fun l0 => gd (o + 2 ≤ l0.length) (some (H.set i (some (.cells (putL l0 o vs))))))) := store_aggs (n := 1) sz13
theorem fa13_0 : ∀ {p : AAddr}, fieldAddrA Try.prog 13 (.ptr p) 0 = some (.ptr ⟨p.ro, p.blk, p.off + 0⟩) := fa_struct Try.underlying13 (ft := 9) (o := 0) rfl (m := 0) sz9
theorem fl13_0 : ∀ {cs : List AV}, fieldA Try.prog 13 (.agg cs) 0 = partA Try.prog 9 cs 0 := fl_struct Try.underlying13 (ft := 9) (o := 0) rfl
theorem fa13_1 : ∀ {p : AAddr}, fieldAddrA Try.prog 13 (.ptr p) 1 = some (.ptr ⟨p.ro, p.blk, p.off + 1⟩) := fa_struct Try.underlying13 (ft := 12) (o := 1) rfl (m := 0) sz12
theorem fl13_1 : ∀ {cs : List AV}, fieldA Try.prog 13 (.agg cs) 1 = partA Try.prog 12 cs 1 := fl_struct Try.underlying13 (ft := 12) (o := 1) rfl
theorem ld18 : ∀ {p : AAddr} {H : AH}, loadA Try.prog 18 p H = (H.get p).bind fun cs => gd (p.off + 1 ≤ cs.length) (some (.agg ((cs.drop p.off).take 1))) := load_agg ag18 sz18
theorem pt18 : ∀ {cs : List AV} {o : Nat}, partA Try.prog 18 cs o = gd (o + 1 ≤ cs.length) (some (.agg ((cs.drop o).take 1))) := part_agg ag18 sz18
theorem ifc18 : ∀ {v : AV}, ifaceA Try.prog 18 v = some (.iface 18 v) := iface_of Try.underlying18 rfl
theorem ass18 : ∀ {ok : Bool} {v : AV}, assertA Try.prog 18 ok v = assertV (zeroV Try.prog 18) 18 ok v := assert_of Try.underlying18 rfl
theorem sta18 : ∀ {vs : List AV} {H : AH} {i o : Nat}, storeA Try.prog 18 ⟨false, i, o⟩ (.agg vs) H = gd (vs.length = 1) (gdb (vs.all oneA) ((H.cells? i).bind fun l0 => gd (o + 1 ≤ l0.length) (some (H.set i (some (.cells (putL l0 o vs))))))) := store_aggs (n := 0) sz18
theorem ld21 : ∀ {p : AAddr} {H : AH}, loadA Try.prog 21 p H = (H.get p).bind fun cs => cs[p.off]? := load_cell ag21
theorem pt21 : ∀ {cs : List AV} {o : Nat}, partA Try.prog 21 cs o = cs[o]? := part_cell ag21
theorem st21_0 : ∀ {k : IntKind} {a : Int} {H : AH} {i o : Nat}, storeA Try.prog 21 ⟨false, i, o⟩ (.int k a) H = (H.cells? i).bind fun l => gd (o < l.length) (some (H.set i (some (.cells (l.set o (.int k a)))))) := store_cell sz21 rfl
theorem st21_1 : ∀ {a : UInt8} {H : AH} {i o : Nat}, storeA Try.prog 21 ⟨false, i, o⟩ (bv a) H = (H.cells? i).bind fun l => gd (o < l.length) (some (H.set i (some (.cells (l.set o (bv a)))))) := store_cell sz21 rfl
theorem ifc21 : ∀ {v : AV}, ifaceA Try.prog 21 v = some (.iface 21 v) := iface_of Try.underlying21 rfl
theorem ass21 : ∀ {ok : Bool} {v : AV}, assertA Try.prog 21 ok v = assertV (zeroV Try.prog 21) 21 ok v := assert_of Try.underlying21 rfl
theorem cv2_21 : ∀ {k : IntKind} {a : Int} {H : AH}, convertA Try.prog 2 21 (.int k a) H = some (.int .i32 (IntKind.i32.wrap a), H) := conv_int Try.underlying21 (by rw [Try.underlying2]; rfl)
theorem cv3_21 : ∀ {k : IntKind} {a : Int} {H : AH}, convertA Try.prog 3 21 (.int k a) H = some (.int .i32 (IntKind.i32.wrap a), H) := conv_int Try.underlying21 (by rw [Try.underlying3]; rfl)
theorem cv5_21 : ∀ {k : IntKind} {a : Int} {H : AH}, convertA Try.prog 5 21 (.int k a) H = some (.int .i32 (IntKind.i32.wrap a), H) := conv_int Try.underlying21 (by rw [Try.underlying5]; rfl)
theorem cv12_21 : ∀ {k : IntKind} {a : Int} {H : AH}, convertA Try.prog 12 21 (.int k a) H = some (.int .i32 (IntKind.i32.wrap a), H) := conv_int Try.underlying21 (by rw [Try.underlying12]; rfl)
theorem cv21_21 : ∀ {k : IntKind} {a : Int} {H : AH}, convertA Try.prog 21 21 (.int k a) H = some (.int .i32 (IntKind.i32.wrap a), H) := conv_int Try.underlying21 (by rw [Try.underlying21]; rfl)
theorem cv22_21 : ∀ {k : IntKind} {a : Int} {H : AH}, convertA Try.prog 22 21 (.int k a) H = some (.int .i32 (IntKind.i32.wrap a), H) := conv_int Try.underlying21 (by rw [Try.underlying22]; rfl)
theorem cv25_21 : ∀ {k : IntKind} {a : Int} {H : AH}, convertA Try.prog 25 21 (.int k a) H = some (.int .i32 (IntKind.i32.wrap a), H) := conv_int Try.underlying21 (by rw [Try.underlying25]; rfl)
theorem cv53_21 : ∀ {k : IntKind} {a : Int} {H : AH}, convertA Try.prog 53 21 (.int k a) H = some (.int .i32 (IntKind.i32.wrap a), H) := conv_int Try.underlying21 (by rw [Try.underlying53]; rfl)
theorem cv63_21 : ∀ {k : IntKind} {a : Int} {H : AH}, convertA Try.prog 63 21 (.int k a) H = some (.int .i32 (IntKind.i32.wrap a), H) := conv_int Try.underlying21 (by rw [Try.underlying63]; rfl)
theorem ld22 : ∀ {p : AAddr} {H : AH}, loadA Try.prog 22 p H = (H.get p).bind fun cs => cs[p.off]? := load_cell ag22
theorem pt22 : ∀ {cs : List AV} {o : Nat}, partA Try.prog 22 cs o = cs[o]? := part_cell ag22
theorem st22_0 : ∀ {k : IntKind} {a : Int} {H : AH} {i o : Nat}, storeA Try.prog 22 ⟨false, i, o⟩ (.int k a) H = (H.cells? i).bind fun l => gd (o < l.length) (some (H.set i (some (.cells (l.set o (.int k a)))))) := store_cell sz22 rfl
theorem st22_1 : ∀ {a : UInt8} {H : AH} {i o : Nat}, storeA Try.prog 22 ⟨false, i, o⟩ (bv a) H = (H.cells? i).bind fun l => gd (o < l.length) (some (H.set i (some (.cells (l.set o (bv a)))))) := store_cell sz22 rfl
theorem ifc22 : ∀ {v : AV}, ifaceA Try.prog 22 v = some (.iface 22 v) := iface_of Try.underlying22 rfl
theorem ass22 : ∀ {ok : Bool} {v : AV}, assertA Try.prog 22 ok v = assertV (zeroV Try.prog 22) 22 ok v := assert_of Try.underlying22 rfl
theorem cv2_22 : ∀ {k : IntKind} {a : Int} {H : AH}, convertA Try.prog 2 22 (.int k a) H = some (.int .u64 (IntKind.u64.wrap a), H) := conv_int Try.underlying22 (by rw [Try.underlying2]; rfl)
theorem cv3_22 : ∀ {k : IntKind} {a : Int} {H : AH}, convertA Try.prog 3 22 (.int k a) H = some (.int .u64 (IntKind.u64.wrap a), H) := conv_int Try.underlying22 (by rw [Try.underlying3]; rfl)
theorem cv5_22 : ∀ {k : IntKind} {a : Int} {H : AH}, convertA Try.prog 5 22 (.int k a) H = some (.int .u64 (IntKind.u64.wrap a), H) := conv_int Try.underlying22 (by rw [Try.underlying5]; rfl)
theorem cv12_22 : ∀ {k : IntKind} {a : Int} {H : AH}, convertA Try.prog 12 22 (.int k a) H = some (.int .u64 (IntKind.u64.wrap a), H) := conv_int Try.underlying22 (by rw [Try.underlying12]; rfl)
theorem cv21_22 : ∀ {k : IntKind} {a : Int} {H : AH}, convertA Try.prog 21 22 (.int k a) H = some (.int .u64 (IntKind.u64.wrap a), H) := conv_int Try.underlying22 (by rw [Try.underlying21]; rfl)
theorem cv22_22 : ∀ {k : IntKind} {a : Int} {H : AH}, convertA Try.prog 22 22 (.int k a) H = some (.int .u64 (IntKind.u64.wrap a), H) := conv_int Try.underlying22 (by rw [Try.underlying22]; rfl)
theorem cv25_22 : ∀ {k : IntKind} {a : Int} {H : AH}, convertA Try.prog 25 22 (.int k a) H = some (.int .u64 (IntKind.u64.wrap a), H) := conv_int Try.underlying22 (by rw [Try.underlying25]; rfl)
theorem cv53_22 : ∀ {k : IntKind} {a : Int} {H : AH}, convertA Try.prog 53 22 (.int k a) H = some (.int .u64 (IntKind.u64.wrap a), H) := conv_int Try.underlying22 (by rw [Try.underlying53]; rfl)
theorem cv63_22 : ∀ {k : IntKind} {a : Int} {H : AH}, convertA Try.prog 63 22 (.int k a) H = some (.int .u64 (IntKind.u64.wrap a), H) := conv_int Try.underlying22 (by rw [Try.underlying63]; rfl)
theorem ld23 : ∀ {p : AAddr} {H : AH}, loadA Try.prog 23 p H = (H.get p).bind fun cs => cs[p.off]? := load_cell ag23
theorem pt23 : ∀ {cs : List AV} {o : Nat}, partA Try.prog 23 cs o = cs[o]? := part_cell ag23
theorem st23_0 : ∀ {a : AAddr} {n : Nat} {c : Cap} {H : AH} {i o : Nat}, storeA Try.prog 23 ⟨false, i, o⟩ (.slice a n c) H = (H.cells? i).bind fun l => gd (o < l.length) (some (H.set i (some (.cells (l.set o (.slice a n c)))))) := store_cell sz23 rfl
theorem st23_1 : ∀  {H : AH} {i o : Nat}, storeA Try.prog 23 ⟨false, i, o⟩ .nilslice H = (H.cells? i).bind fun l => gd (o < l.length) (some (H.set i (some (.cells (l.set o .nilslice))))) := store_cell sz23 rfl
theorem ifc23 : ∀ {v : AV}, ifaceA Try.prog 23 v = some (.iface 23 v) := iface_of Try.underlying23 rfl
theorem ass23 : ∀ {ok : Bool} {v : AV}, assertA Try.prog 23 ok v = assertV (zeroV Try.prog 23) 23 ok v := assert_of Try.underlying23 rfl
theorem ll23 : ∀ {p : AAddr} {n : Nat} {c : Cap}, lenA Try.prog 23 (.slice p n c) = some (.int .i64 n) := len_slice Try.underlying23
theorem ln23 : lenA Try.prog 23 .nilslice = some (.int .i64 0) := len_nil Try.underlying23
theorem ia23 : ∀ {p : AAddr} {n : Nat} {c : Cap} {k : IntKind} {a : Int}, indexAddrA Try.prog 23 (.slice p n c) (.int k a) = gd (0 ≤ a ∧ a < n) (some (.ptr ⟨p.ro, p.blk, p.off + a.toNat * 1⟩)) := ixa_slice Try.underlying23 sz5
theorem sk23 : ∀ {p : AAddr} {n c : Nat} {lo hi mx : Option AV}, sliceOpA Try.prog 23 (.slice p n (.known c)) lo hi mx = cutKnown p 1 n c lo hi mx := slc_known Try.underlying23 sz5
theorem sg23 : ∀ {p : AAddr} {n : Nat} {lo hi : Option AV}, sliceOpA Try.prog 23 (.slice p n (.grow 1)) lo hi none = if p.ro = false then (optB hi n n).bind fun h => (optB lo h 0).map fun l => .slice ⟨false, p.blk, p.off + l * 1⟩ (h - l) (.grow 1) else none := slc_grow Try.underlying23 sz5
theorem sn23 : ∀ {lo hi : Option AV}, sliceOpA Try.prog 23 .nilslice lo hi none = (optB hi 0 0).bind fun h => (optB lo h 0).map fun _ => .nilslice := slc_nil Try.underlying23 sz5
theorem ens23 : ∀ {p : AAddr} {n : Nat} {c : Cap}, binA Try.prog .eql 23 (.slice p n c) .nilslice = if sureSlice n c then some (.bool false) else none := eq_nil_slice Try.underlying23
theorem nns23 : ∀ {p : AAddr} {n : Nat} {c : Cap}, binA Try.prog .neq 23 (.slice p n c) .nilslice = if sureSlice n c then some (.bool true) else none := ne_nil_slice Try.underlying23
theorem enn23 : binA Try.prog .eql 23 .nilslice .nilslice = some (.bool true) := eq_nil_nil Try.underlying23
theorem nnn23 : binA Try.prog .neq 23 .nilslice .nilslice = some (.bool false) := ne_nil_nil Try.underlying23
theorem cp23 : ∀ {p : AAddr} {n : Nat} {c : Cap} {x : AV} {H : AH}, copyA Try.prog 23 (.slice p n c) x H = (newsA H 1 x).bind fun kn => if p.ro = false ∧ (H.cells? p.blk).isSome then (storeCellsA H p.blk p.off (kn.2.take (min kn.1 n * 1))).map fun H1 => (.int .i64 (min kn.1 n : Nat), H1) else none := copy_slice Try.underlying23 sz5
theorem cn23 : ∀ {x : AV} {H : AH}, copyA Try.prog 23 .nilslice x H = (newsA H 1 x).bind fun kn => some (.int .i64 0, H) := copy_nil Try.underlying23 sz5
theorem mk23 : ∀ {k k1 : IntKind} {a b : Int} {H : AH}, makeSliceA Try.prog 23 (.int k a) (.int k1 b) H = gd (0 ≤ a ∧ a ≤ b ∧ b ≤ 140737488355328 ∧ b * (1 : Nat) ≤ 140737488355328) (some (.slice ⟨false, H.n, 0⟩ a.toNat (.known b.toNat), H.push (some (.cells (repA ([.int .u8 0]) b.toNat))))) := make_slice Try.underlying23 sz5 by5 ze5 ⟨by simp, by decide⟩
theorem bs23 : ∀ {len : Nat} {parts : List (Nat × AV)} {H : AH}, len * 1 ≤ 16777216 → buildSliceA Try.prog 23 len parts H = (fillA (fun i => some (i * 1, 1)) (zerosL ([.int .u8 0]) len) parts).map fun cells => (.slice ⟨false, H.n, 0⟩ len (.known len), H.push (some (.cells cells))) := fun h => build_lit Try.underlying23 sz5 ze5 ⟨by simp, by decide⟩ h
theorem ap23 : ∀ {s x : AV} {H : AH}, appendA Try.prog 23 23 s x H = (newsA H 1 x).bind fun kn => if kn.2.all oneA = true then appendTo 1 1 H kn.1 kn.2 s else none := app_slice Try.underlying23 sz5 by5 ze5 ⟨by simp, by decide⟩
theorem ai23_3 : ∀ {s : AV} {l : Int} {H : AH}, appendA Try.prog 23 3 s (.int .i64 l) H = gd (0 ≤ l ∧ l ≤ 140737488355328) (gdb ((repA ([.int .u8 0]) l.toNat).all oneA) (appendTo 1 1 H l.toNat (repA ([.int .u8 0]) l.toNat) s)) := app_int Try.underlying23 sz5 by5 ze5 ⟨by simp, by decide⟩ Try.underlying3
theorem aq23_9 : ∀ {s x : AV} {H : AH}, appendA Try.prog 23 9 s x H = (newsA H 1 x).bind fun kn => if kn.2.all oneA = true then appendTo 1 1 H kn.1 kn.2 s else none := app_str Try.underlying23 sz5 by5 ze5 ⟨by simp, by decide⟩ Try.underlying9
theorem tx23_9 : ∀ {p : AAddr} {n : Nat} {c : Cap} {H : AH}, convertA Try.prog 23 9 (.slice p n c) H = (rowA H 1 (.slice p n c)).bind fun cs => (bytesOfA cs).map fun bs => (.str ⟨bs.toArray⟩, H) := conv_text Try.underlying23 Try.underlying9 Try.underlying5
theorem tn23_9 : ∀ {H : AH}, convertA Try.prog 23 9 .nilslice H = some (.str ⟨#[]⟩, H) := conv_text_nil Try.underlying23 Try.underlying9 Try.underlying5
theorem ld24 : ∀ {p : AAddr} {H : AH}, loadA Try.prog 24 p H = (H.get p).bind fun cs => cs[p.off]? := load_cell ag24
theorem pt24 : ∀ {cs : List AV} {o : Nat}, partA Try.prog 24 cs o = cs[o]? := part_cell ag24
theorem st24_0 : ∀ {a : AAddr} {n : Nat} {c : Cap} {H : AH} {i o : Nat}, storeA Try.prog 24 ⟨false, i, o⟩ (.slice a n c) H = (H.cells? i).bind fun l => gd (o < l.length) (some (H.set i (some (.cells (l.set o (.slice a n c)))))) := store_cell sz24 rfl
theorem st24_1 : ∀  {H : AH} {i o : Nat}, storeA Try.prog 24 ⟨false, i, o⟩ .nilslice H = (H.cells? i).bind fun l => gd (o < l.length) (some (H.set i (some (.cells (l.set o .nilslice))))) := store_cell sz24 rfl
theorem ifc24 : ∀ {v : AV}, ifaceA Try.prog 24 v = some (.iface 24 v) := iface_of Try.underlying24 rfl
theorem ass24 : ∀ {ok : Bool} {v : AV}, assertA Try.prog 24 ok v = assertV (zeroV Try.prog 24) 24 ok v := assert_of Try.underlying24 rfl
theorem ll24 : ∀ {p : AAddr} {n : Nat} {c : Cap}, lenA Try.prog 24 (.slice p n c) = some (.int .i64 n) := len_slice Try.underlying24
theorem ln24 : lenA Try.prog 24 .nilslice = some (.int .i64 0) := len_nil Try.underlying24
theorem ia24 : ∀ {p : AAddr} {n : Nat} {c : Cap} {k : IntKind} {a : Int}, indexAddrA Try.prog 24 (.slice p n c) (.int k a) = gd (0 ≤ a ∧ a < n) (some (.ptr ⟨p.ro, p.blk, p.off + a.toNat * 1⟩)) := ixa_slice Try.underlying24 sz23
theorem sk24 : ∀ {p : AAddr} {n c : Nat} {lo hi mx : Option AV}, sliceOpA Try.prog 24 (.slice p n (.known c)) lo hi mx = cutKnown p 1 n c lo hi mx := slc_known Try.underlying24 sz23
theorem sg24 : ∀ {p : AAddr} {n : Nat} {lo hi : Option AV}, sliceOpA Try.prog 24 (.slice p n (.grow 1)) lo hi none = if p.ro = false then (optB hi n n).bind fun h => (optB lo h 0).map fun l => .slice ⟨false, p.blk, p.off + l * 1⟩ (h - l) (.grow 1) else none := slc_grow Try.underlying24 sz23
theorem sn24 : ∀ {lo hi : Option AV}, sliceOpA Try.prog 24 .nilslice lo hi none = (optB hi 0 0).bind fun h => (optB lo h 0).map fun _ => .nilslice := slc_nil Try.underlying24 sz23
theorem ens24 : ∀ {p : AAddr} {n : Nat} {c : Cap}, binA Try.prog .eql 24 (.slice p n c) .nilslice = if sureSlice n c then some (.bool false) else none := eq_nil_slice Try.underlying24
theorem nns24 : ∀ {p : AAddr} {n : Nat} {c : Cap}, binA Try.prog .neq 24 (.slice p n c) .nilslice = if sureSlice n c then some (.bool true) else none := ne_nil_slice Try.underlying24
theorem enn24 : binA Try.prog .eql 24 .nilslice .nilslice = some (.bool true) := eq_nil_nil Try.underlying24
theorem nnn24 : binA Try.prog .neq 24 .nilslice .nilslice = some (.bool false) := ne_nil_nil Try.underlying24
theorem cp24 : ∀ {p : AAddr} {n : Nat} {c : Cap} {x : AV} {H : AH}, copyA Try.prog 24 (.slice p n c) x H = (newsA H 1 x).bind fun kn => if p.ro = false ∧ (H.cells? p.blk).isSome then (storeCellsA H p.blk p.off (kn.2.take (min kn.1 n * 1))).map fun H1 => (.int .i64 (min kn.1 n : Nat), H1) else none := copy_slice Try.underlying24 sz23
theorem cn24 : ∀ {x : AV} {H : AH}, copyA Try.prog 24 .nilslice x H = (newsA H 1 x).bind fun kn => some (.int .i64 0, H) := copy_nil Try.underlying24 sz23
theorem mk24 : ∀ {k k1 : IntKind} {a b : Int} {H : AH}, makeSliceA Try.prog 24 (.int k a) (.int k1 b) H = gd (0 ≤ a ∧ a ≤ b ∧ b ≤ 140737488355328 ∧ b * (24 : Nat) ≤ 140737488355328) (some (.slice ⟨false, H.n, 0⟩ a.toNat (.known b.toNat), H.push (some (.cells (repA ([.nilslice]) b.toNat))))) := make_slice Try.underlying24 sz23 by23 ze23 ⟨by simp, by decide⟩
theorem bs24 : ∀ {len : Nat} {parts : List (Nat × AV)} {H : AH}, len * 1 ≤ 16777216 → buildSliceA Try.prog 24 len parts H = (fillA (fun i => some (i * 1, 1)) (zerosL ([.nilslice]) len) parts).map fun cells => (.slice ⟨false, H.n, 0⟩ len (.known len), H.push (some (.cells cells))) := fun h => build_lit Try.underlying24 sz23 ze23 ⟨by simp, by decide⟩ h
theorem ap24 : ∀ {s x : AV} {H : AH}, appendA Try.prog 24 24 s x H = (newsA H 1 x).bind fun kn => if kn.2.all oneA = true then appendTo 1 24 H kn.1 kn.2 s else none := app_slice Try.underlying24 sz23 by23 ze23 ⟨by simp, by decide⟩
theorem ai24_3 : ∀ {s : AV} {l : Int} {H : AH}, appendA Try.prog 24 3 s (.int .i64 l) H = gd (0 ≤ l ∧ l ≤ 140737488355328) (gdb ((repA ([.nilslice]) l.toNat).all oneA) (appendTo 1 24 H l.toNat (repA ([.nilslice]) l.toNat) s)) := app_int Try.underlying24 sz23 by23 ze23 ⟨by simp, by decide⟩ Try.underlying3
theorem ld25 : ∀ {p : AAddr} {H : AH}, loadA Try.prog 25 p H = (H.get p).bind fun cs => cs[p.off]? := load_cell ag25
theorem pt25 : ∀ {cs : List AV} {o : Nat}, partA Try.prog 25 cs o = cs[o]? := part_cell ag25
theorem st25_0 : ∀ {k : IntKind} {a : Int} {H : AH} {i o : Nat}, storeA Try.prog 25 ⟨false, i, o⟩ (.int k a) H = (H.cells? i).bind fun l => gd (o < l.length) (some (H.set i (some (.cells (l.set o (.int k a)))))) := store_cell sz25 rfl
theorem st25_1 : ∀ {a : UInt8} {H : AH} {i o : Nat}, storeA Try.prog 25 ⟨false, i, o⟩ (bv a) H = (H.cells? i).bind fun l => gd (o < l.length) (some (H.set i (some (.cells (l.set o (bv a)))))) := store_cell sz25 rfl
theorem ifc25 : ∀ {v : AV}, ifaceA Try.prog 25 v = some (.iface 25 v) := iface_of Try.underlying25 rfl
theorem ass25 : ∀ {ok : Bool} {v : AV}, assertA Try.prog 25 ok v = assertV (zeroV Try.prog 25) 25 ok v := assert_of Try.underlying25 rfl
theorem cv2_25 : ∀ {k : IntKind} {a : Int} {H : AH}, convertA Try.prog 2 25 (.int k a) H = some (.int .i64 (IntKind.i64.wrap a), H) := conv_int Try.underlying25 (by rw [Try.underlying2]; rfl)
theorem cv3_25 : ∀ {k : IntKind} {a : Int} {H : AH}, convertA Try.prog 3 25 (.int k a) H = some (.int .i64 (IntKind.i64.wrap a), H) := conv_int Try.underlying25 (by rw [Try.underlying3]; rfl)
theorem cv5_25 : ∀ {k : IntKind} {a : Int} {H : AH}, convertA Try.prog 5 25 (.int k a) H = some (.int .i64 (IntKind.i64.wrap a), H) := conv_int Try.underlying25 (by rw [Try.underlying5]; rfl)
theorem cv12_25 : ∀ {k : IntKind} {a : Int} {H : AH}, convertA Try.prog 12 25 (.int k a) H = some (.int .i64 (IntKind.i64.wrap a), H) := conv_int Try.underlying25 (by rw [Try.underlying12]; rfl)
theorem cv21_25 : ∀ {k : IntKind} {a : Int} {H : AH}, convertA Try.prog 21 25 (.int k a) H = some (.int .i64 (IntKind.i64.wrap a), H) := conv_int Try.underlying25 (by rw [Try.underlying21]; rfl)
theorem cv22_25 : ∀ {k : IntKind} {a : Int} {H : AH}, convertA Try.prog 22 25 (.int k a) H = some (.int .i64 (IntKind.i64.wrap a), H) := conv_int Try.underlying25 (by rw [Try.underlying22]; rfl)
theorem cv25_25 : ∀ {k : IntKind} {a : Int} {H : AH}, convertA Try.prog 25 25 (.int k a) H = some (.int .i64 (IntKind.i64.wrap a), H) := conv_int Try.underlying25 (by rw [Try.underlying25]; rfl)
theorem cv53_25 : ∀ {k : IntKind} {a : Int} {H : AH}, convertA Try.prog 53 25 (.int k a) H = some (.int .i64 (IntKind.i64.wrap a), H) := conv_int Try.underlying25 (by rw [Try.underlying53]; rfl)
theorem cv63_25 : ∀ {k : IntKind} {a : Int} {H : AH}, convertA Try.prog 63 25 (.int k a) H = some (.int .i64 (IntKind.i64.wrap a), H) := conv_int Try.underlying25 (by rw [Try.underlying63]; rfl)
theorem ld37 : ∀ {p : AAddr} {H : AH}, loadA Try.prog 37 p H = (H.get p).bind fun cs => cs[p.off]? := load_cell ag37
theorem pt37 : ∀ {cs : List AV} {o : Nat}, partA Try.prog 37 cs o = cs[o]? := part_cell ag37
theorem st37_0 : ∀ {a : AAddr} {n : Nat} {c : Cap} {H : AH} {i o : Nat}, storeA Try.prog 37 ⟨false, i, o⟩ (.slice a n c) H = (H.cells? i).bind fun l => gd (o < l.length) (some (H.set i (some (.cells (l.set o (.slice a n c)))))) := store_cell sz37 rfl
theorem st37_1 : ∀  {H : AH} {i o : Nat}, storeA Try.prog 37 ⟨false, i, o⟩ .nilslice H = (H.cells? i).bind fun l => gd (o < l.length) (some (H.set i (some (.cells (l.set o .nilslice))))) := store_cell sz37 rfl
theorem ifc37 : ∀ {v : AV}, ifaceA Try.prog 37 v = some (.iface 37 v) := iface_of Try.underlying37 rfl
theorem ass37 : ∀ {ok : Bool} {v : AV}, assertA Try.prog 37 ok v = assertV (zeroV Try.prog 37) 37 ok v := assert_of Try.underlying37 rfl
theorem ll37 : ∀ {p : AAddr} {n : Nat} {c : Cap}, lenA Try.prog 37 (.slice p n c) = some (.int .i64 n) := len_slice Try.underlying37
theorem ln37 : lenA Try.prog 37 .nilslice = some (.int .i64 0) := len_nil Try.underlying37
theorem ia37 : ∀ {p : AAddr} {n : Nat} {c : Cap} {k : IntKind} {a : Int}, indexAddrA Try.prog 37 (.slice p n c) (.int k a) = gd (0 ≤ a ∧ a < n) (some (.ptr ⟨p.ro, p.blk, p.off + a.toNat * 1⟩)) := ixa_slice Try.underlying37 sz4
theorem sk37 : ∀ {p : AAddr} {n c : Nat} {lo hi mx : Option AV}, sliceOpA Try.prog 37 (.slice p n (.known c)) lo hi mx = cutKnown p 1 n c lo hi mx := slc_known Try.underlying37 sz4
theorem sg37 : ∀ {p : AAddr} {n : Nat} {lo hi : Option AV}, sliceOpA Try.prog 37 (.slice p n (.grow 1)) lo hi none = if p.ro = false then (optB hi n n).bind fun h => (optB lo h 0).map fun l => .slice ⟨false, p.blk, p.off + l * 1⟩ (h - l) (.grow 1) else none := slc_grow Try.underlying37 sz4
theorem sn37 : ∀ {lo hi : Option AV}, sliceOpA Try.prog 37 .nilslice lo hi none = (optB hi 0 0).bind fun h => (optB lo h 0).map fun _ => .nilslice := slc_nil Try.underlying37 sz4
theorem ens37 : ∀ {p : AAddr} {n : Nat} {c : Cap}, binA Try.prog .eql 37 (.slice p n c) .nilslice = if sureSlice n c then some (.bool false) else none := eq_nil_slice Try.underlying37
theorem nns37 : ∀ {p : AAddr} {n : Nat} {c : Cap}, binA Try.prog .neq 37 (.slice p n c) .nilslice = if sureSlice n c then some (.bool true) else none := ne_nil_slice Try.underlying37
theorem enn37 : binA Try.prog .eql 37 .nilslice .nilslice = some (.bool true) := eq_nil_nil Try.underlying37
theorem nnn37 : binA Try.prog .neq 37 .nilslice .nilslice = some (.bool false) := ne_nil_nil Try.underlying37
theorem cp37 : ∀ {p : AAddr} {n : Nat} {c : Cap} {x : AV} {H : AH}, copyA Try.prog 37 (.slice p n c) x H = (newsA H 1 x).bind fun kn => if p.ro = false ∧ (H.cells? p.blk).isSome then (storeCellsA H p.blk p.off (kn.2.take (min kn.1 n * 1))).map fun H1 => (.int .i64 (min kn.1 n : Nat), H1) else none := copy_slice Try.underlying37 sz4
theorem cn37 : ∀ {x : AV} {H : AH}, copyA Try.prog 37 .nilslice x H = (newsA H 1 x).bind fun kn => some (.int .i64 0, H) := copy_nil Try.underlying37 sz4
theorem mk37 : ∀ {k k1 : IntKind} {a b : Int} {H : AH}, makeSliceA Try.prog 37 (.int k a) (.int k1 b) H = gd (0 ≤ a ∧ a ≤ b ∧ b ≤ 140737488355328 ∧ b * (1 : Nat) ≤ 140737488355328) (some (.slice ⟨false, H.n, 0⟩ a.toNat (.known b.toNat), H.push (some (.cells (repA ([.bool false]) b.toNat))))) := make_slice Try.underlying37 sz4 by4 ze4 ⟨by simp, by decide⟩
theorem bs37 : ∀ {len : Nat} {parts : List (Nat × AV)} {H : AH}, len * 1 ≤ 16777216 → buildSliceA Try.prog 37 len parts H = (fillA (fun i => some (i * 1, 1)) (zerosL ([.bool false]) len) parts).map fun cells => (.slice ⟨false, H.n, 0⟩ len (.known len), H.push (some (.cells cells))) := fun h => build_lit Try.underlying37 sz4 ze4 ⟨by simp, by decide⟩ h
theorem ap37 : ∀ {s x : AV} {H : AH}, appendA Try.prog 37 37 s x H = (newsA H 1 x).bind fun kn => if kn.2.all oneA = true then appendTo 1 1 H kn.1 kn.2 s else none := app_slice Try.underlying37 sz4 by4 ze4 ⟨by simp, by decide⟩
theorem ai37_3 : ∀ {s : AV} {l : Int} {H : AH}, appendA Try.prog 37 3 s (.int .i64 l) H = gd (0 ≤ l ∧ l ≤ 140737488355328) (gdb ((repA ([.bool false]) l.toNat).all oneA) (appendTo 1 1 H l.toNat (repA ([.bool false]) l.toNat) s)) := app_int Try.underlying37 sz4 by4 ze4 ⟨by simp, by decide⟩ Try.underlying3
theorem ld40 : ∀ {p : AAddr} {H : AH}, loadA Try.prog 40 p H = (H.get p).bind fun cs => cs[p.off]? := load_cell ag40
theorem pt40 : ∀ {cs : List AV} {o : Nat}, partA Try.prog 40 cs o = cs[o]? := part_cell ag40
theorem ifc40 : ∀ {v : AV}, ifaceA Try.prog 40 v = some (.iface 40 v) := iface_of Try.underlying40 rfl
theorem ass40 : ∀ {ok : Bool} {v : AV}, assertA Try.prog 40 ok v = assertV (zeroV Try.prog 40) 40 ok v := assert_of Try.underlying40 rfl
theorem ld52 : ∀ {p : AAddr} {H : AH}, loadA Try.prog 52 p H = (H.get p).bind fun cs => gd (p.off + 64 ≤ cs.length) (some (.agg ((cs.drop p.off).take 64))) := load_agg ag52 sz52
theorem pt52 : ∀ {cs : List AV} {o : Nat}, partA Try.prog 52 cs o = gd (o + 64 ≤ cs.length) (some (.agg ((cs.drop o).take 64))) := part_agg ag52 sz52
theorem ifc52 : ∀ {v : AV}, ifaceA Try.prog 52 v = some (.iface 52 v) := iface_of Try.underlying52 rfl
theorem ass52 : ∀ {ok : Bool} {v : AV}, assertA Try.prog 52 ok v = assertV (zeroV Try.prog 52) 52 ok v := assert_of Try.underlying52 rfl
theorem sta52 : ∀ {vs : List AV} {H : AH} {i o : Nat}, storeA Try.prog 52 ⟨false, i, o⟩ (.agg vs) H = gd (vs.length = 64) (gdb (vs.all oneA) ((H.cells? i).bind fun l0 => gd (o + 64 ≤ l0.length) (some (H.set i (some (.cells (putL l0 o vs))))))) := store_aggs (n := 63) sz52
theorem la52 : ∀ {v : AV}, lenA Try.prog 52 v = some (.int .i64 64) := len_arr Try.underlying52
theorem ia52 : ∀ {p : AAddr} {k : IntKind} {a : Int}, indexAddrA Try.prog 52 (.ptr p) (.int k a) = gd (0 ≤ a ∧ a < (64 : Nat)) (some (.ptr ⟨p.ro, p.blk, p.off + a.toNat * 1⟩)) := ixa_arr Try.underlying52 sz5
theorem xa52 : ∀ {cs : List AV} {k : IntKind} {a : Int}, indexA Try.prog 52 (.agg cs) (.int k a) = gd (0 ≤ a ∧ a < (64 : Nat)) (partA Try.prog 5 cs (a.toNat * 1)) := ix_arr Try.underlying52 sz5
theorem sa52 : ∀ {p : AAddr} {lo hi mx : Option AV}, sliceOpA Try.prog 52 (.ptr p) lo hi mx = cutKnown p 1 64 64 lo hi mx := slc_arr Try.underlying52 sz5
theorem ld53 : ∀ {p : AAddr} {H : AH}, loadA Try.prog 53 p H = (H.get p).bind fun cs => cs[p.off]? := load_cell ag53
theorem pt53 : ∀ {cs : List AV} {o : Nat}, partA Try.prog 53 cs o = cs[o]? := part_cell ag53
theorem st53_0 : ∀ {k : IntKind} {a : Int} {H : AH} {i o : Nat}, storeA Try.prog 53 ⟨false, i, o⟩ (.int k a) H = (H.cells? i).bind fun l => gd (o < l.length) (some (H.set i (some (.cells (l.set o (.int k a)))))) := store_cell sz53 rfl
theorem st53_1 : ∀ {a : UInt8} {H : AH} {i o : Nat}, storeA Try.prog 53 ⟨false, i, o⟩ (bv a) H = (H.cells? i).bind fun l => gd (o < l.length) (some (H.set i (some (.cells (l.set o (bv a)))))) := store_cell sz53 rfl
theorem ifc53 : ∀ {v : AV}, ifaceA Try.prog 53 v = some (.iface 53 v) := iface_of Try.underlying53 rfl
theorem ass53 : ∀ {ok : Bool} {v : AV}, assertA Try.prog 53 ok v = assertV (zeroV Try.prog 53) 53 ok v := assert_of Try.underlying53 rfl
theorem cv2_53 : ∀ {k : IntKind} {a : Int} {H : AH}, convertA Try.prog 2 53 (.int k a) H = some (.int .u64 (IntKind.u64.wrap a), H) := conv_int Try.underlying53 (by rw [Try.underlying2]; rfl)
theorem cv3_53 : ∀ {k : IntKind} {a : Int} {H : AH}, convertA Try.prog 3 53 (.int k a) H = some (.int .u64 (IntKind.u64.wrap a), H) := conv_int Try.underlying53 (by rw [Try.underlying3]; rfl)
theorem cv5_53 : ∀ {k : IntKind} {a : Int} {H : AH}, convertA Try.prog 5 53 (.int k a) H = some (.int .u64 (IntKind.u64.wrap a), H) := conv_int Try.underlying53 (by rw [Try.underlying5]; rfl)
theorem cv12_53 : ∀ {k : IntKind} {a : Int} {H : AH}, convertA Try.prog 12 53 (.int k a) H = some (.int .u64 (IntKind.u64.wrap a), H) := conv_int Try.underlying53 (by rw [Try.underlying12]; rfl)
theorem cv21_53 : ∀ {k : IntKind} {a : Int} {H : AH}, convertA Try.prog 21 53 (.int k a) H = some (.int .u64 (IntKind.u64.wrap a), H) := conv_int Try.underlying53 (by rw [Try.underlying21]; rfl)
theorem cv22_53 : ∀ {k : IntKind} {a : Int} {H : AH}, convertA Try.prog 22 53 (.int k a) H = some (.int .u64 (IntKind.u64.wrap a), H) := conv_int Try.underlying53 (by rw [Try.underlying22]; rfl)
theorem cv25_53 : ∀ {k : IntKind} {a : Int} {H : AH}, convertA Try.prog 25 53 (.int k a) H = some (.int .u64 (IntKind.u64.wrap a), H) := conv_int Try.underlying53 (by rw [Try.underlying25]; rfl)
theorem cv53_53 : ∀ {k : IntKind} {a : Int} {H : AH}, convertA Try.prog 53 53 (.int k a) H = some (.int .u64 (IntKind.u64.wrap a), H) := conv_int Try.underlying53 (by rw [Try.underlying53]; rfl)
theorem cv63_53 : ∀ {k : IntKind} {a : Int} {H : AH}, convertA Try.prog 63 53 (.int k a) H = some (.int .u64 (IntKind.u64.wrap a), H) := conv_int Try.underlying53 (by rw [Try.underlying63]; rfl)
theorem ld57 : ∀ {p : AAddr} {H : AH}, loadA Try.prog 57 p H = (H.get p).bind fun cs => gd (p.off + 4 ≤ cs.length) (some (.agg ((cs.drop p.off).take 4))) := load_agg ag57 sz57
theorem pt57 : ∀ {cs : List AV} {o : Nat}, partA Try.prog 57 cs o = gd (o + 4 ≤ cs.length) (some (.agg ((cs.drop o).take 4))) := part_agg ag57 sz57
theorem ifc57 : ∀ {v : AV}, ifaceA Try.prog 57 v = some (.iface 57 v) := iface_of Try.underlying57 rfl
theorem ass57 : ∀ {ok : Bool} {v : AV}, assertA Try.prog 57 ok v = assertV (zeroV Try.prog 57) 57 ok v := assert_of Try.underlying57 rfl
theorem sta57 : ∀ {vs : List AV} {H : AH} {i o : Nat}, storeA Try.prog 57 ⟨false, i, o⟩ (.agg vs) H = gd (vs.length = 4) (gdb (vs.all oneA) ((H.cells? i).bind fun l0 => gd (o + 4 ≤ l0.length) (some (H.set i (some (.cells (putL l0 o vs))))))) := store_aggs (n := 3) sz57
theorem fa57_3 : ∀ {p : AAddr}, fieldAddrA Try.prog 57 (.ptr p) 3 = some (.ptr ⟨p.ro, p.blk, p.off + 3⟩) := fa_struct Try.underlying57 (ft := 9) (o := 3) rfl (m := 0) sz9
theorem fl57_3 : ∀ {cs : List AV}, fieldA Try.prog 57 (.agg cs) 3 = partA Try.prog 9 cs 3 := fl_struct Try.underlying57 (ft := 9) (o := 3) rfl
theorem ld63 : ∀ {p : AAddr} {H : AH}, loadA Try.prog 63 p H = (H.get p).bind fun cs => cs[p.off]? := load_cell ag63
theorem pt63 : ∀ {cs : List AV} {o : Nat}, partA Try.prog 63 cs o = cs[o]? := part_cell ag63
theorem st63_0 : ∀ {k : IntKind} {a : Int} {H : AH} {i o : Nat}, storeA Try.prog 63 ⟨false, i, o⟩ (.int k a) H = (H.cells? i).bind fun l => gd (o < l.length) (some (H.set i (some (.cells (l.set o (.int k a)))))) := store_cell sz63 rfl
theorem st63_1 : ∀ {a : UInt8} {H : AH} {i o : Nat}, storeA Try.prog 63 ⟨false, i, o⟩ (bv a) H = (H.cells? i).bind fun l => gd (o < l.length) (some (H.set i (some (.cells (l.set o (bv a)))))) := store_cell sz63 rfl
theorem ifc63 : ∀ {v : AV}, ifaceA Try.prog 63 v = some (.iface 63 v) := iface_of Try.underlying63 rfl
theorem ass63 : ∀ {ok : Bool} {v : AV}, assertA Try.prog 63 ok v = assertV (zeroV Try.prog 63) 63 ok v := assert_of Try.underlying63 rfl
theorem cv2_63 : ∀ {k : IntKind} {a : Int} {H : AH}, convertA Try.prog 2 63 (.int k a) H = some (.int .u32 (IntKind.u32.wrap a), H) := conv_int Try.underlying63 (by rw [Try.underlying2]; rfl)
theorem cv3_63 : ∀ {k : IntKind} {a : Int} {H : AH}, convertA Try.prog 3 63 (.int k a) H = some (.int .u32 (IntKind.u32.wrap a), H) := conv_int Try.underlying63 (by rw [Try.underlying3]; rfl)
theorem cv5_63 : ∀ {k : IntKind} {a : Int} {H : AH}, convertA Try.prog 5 63 (.int k a) H = some (.int .u32 (IntKind.u32.wrap a), H) := conv_int Try.underlying63 (by rw [Try.underlying5]; rfl)
theorem cv12_63 : ∀ {k : IntKind} {a : Int} {H : AH}, convertA Try.prog 12 63 (.int k a) H = some (.int .u32 (IntKind.u32.wrap a), H) := conv_int Try.underlying63 (by rw [Try.underlying12]; rfl)
theorem cv21_63 : ∀ {k : IntKind} {a : Int} {H : AH}, convertA Try.prog 21 63 (.int k a) H = some (.int .u32 (IntKind.u32.wrap a), H) := conv_int Try.underlying63 (by rw [Try.underlying21]; rfl)
theorem cv22_63 : ∀ {k : IntKind} {a : Int} {H : AH}, convertA Try.prog 22 63 (.int k a) H = some (.int .u32 (IntKind.u32.wrap a), H) := conv_int Try.underlying63 (by rw [Try.underlying22]; rfl)
theorem cv25_63 : ∀ {k : IntKind} {a : Int} {H : AH}, convertA Try.prog 25 63 (.int k a) H = some (.int .u32 (IntKind.u32.wrap a), H) := conv_int Try.underlying63 (by rw [Try.underlying25]; rfl)
theorem cv53_63 : ∀ {k : IntKind} {a : Int} {H : AH}, convertA Try.prog 53 63 (.int k a) H = some (.int .u32 (IntKind.u32.wrap a), H) := conv_int Try.underlying63 (by rw [Try.underlying53]; rfl)
theorem cv63_63 : ∀ {k : IntKind} {a : Int} {H : AH}, convertA Try.prog 63 63 (.int k a) H = some (.int .u32 (IntKind.u32.wrap a), H) := conv_int Try.underlying63 (by rw [Try.underlying63]; rfl)
theorem ld67 : ∀ {p : AAddr} {H : AH}, loadA Try.prog 67 p H = (H.get p).bind fun cs => cs[p.off]? := load_cell ag67
theorem pt67 : ∀ {cs : List AV} {o : Nat}, partA Try.prog 67 cs o = cs[o]? := part_cell ag67
theorem st67_0 : ∀ {a : AAddr} {H : AH} {i o : Nat}, storeA Try.prog 67 ⟨false, i, o⟩ (.ptr a) H = (H.cells? i).bind fun l => gd (o < l.length) (some (H.set i (some (.cells (l.set o (.ptr a)))))) := store_cell sz67 rfl
theorem st67_1 : ∀  {H : AH} {i o : Nat}, storeA Try.prog 67 ⟨false, i, o⟩ .nilptr H = (H.cells? i).bind fun l => gd (o < l.length) (some (H.set i (some (.cells (l.set o .nilptr))))) := store_cell sz67 rfl
theorem ifc67 : ∀ {v : AV}, ifaceA Try.prog 67 v = some (.iface 67 v) := iface_of Try.underlying67 rfl
theorem ass67 : ∀ {ok : Bool} {v : AV}, assertA Try.prog 67 ok v = assertV (zeroV Try.prog 67) 67 ok v := assert_of Try.underlying67 rfl
theorem eqptrnil67 : ∀ {p : AAddr}, binA Try.prog .eql 67 (.ptr p) .nilptr = some (.bool false) := eq_ptr_nil Try.underlying67
theorem neptrnil67 : ∀ {p : AAddr}, binA Try.prog .neq 67 (.ptr p) .nilptr = some (.bool true) := ne_ptr_nil Try.underlying67
theorem eqnn67 : binA Try.prog .eql 67 .nilptr .nilptr = some (.bool true) := eq_nilptr Try.underlying67
theorem nenn67 : binA Try.prog .neq 67 .nilptr .nilptr = some (.bool false) := ne_nilptr Try.underlying67
theorem ld70 : ∀ {p : AAddr} {H : AH}, loadA Try.prog 70 p H = (H.get p).bind fun cs => gd (p.off + 11 ≤ cs.length) (some (.agg ((cs.drop p.off).take 11))) := load_agg ag70 sz70
theorem pt70 : ∀ {cs : List AV} {o : Nat}, partA Try.prog 70 cs o = gd (o + 11 ≤ cs.length) (some (.agg ((cs.drop o).take 11))) := part_agg ag70 sz70
theorem ifc70 : ∀ {v : AV}, ifaceA Try.prog 70 v = some (.iface 70 v) := iface_of Try.underlying70 rfl
theorem ass70 : ∀ {ok : Bool} {v : AV}, assertA Try.prog 70 ok v = assertV (zeroV Try.prog 70) 70 ok v := assert_of Try.underlying70 rfl
theorem sta70 : ∀ {vs : List AV} {H : AH} {i o : Nat}, storeA Try.prog 70 ⟨false, i, o⟩ (.agg vs) H = gd (vs.length = 11) (gdb (vs.all oneA) ((H.cells? i).bind fun l0 => gd (o + 11 ≤ l0.length) (some (H.set i (some (.cells (putL l0 o vs))))))) := store_aggs (n := 10) sz70
theorem fa70_0 : ∀ {p : AAddr}, fieldAddrA Try.prog 70 (.ptr p) 0 = some (.ptr ⟨p.ro, p.blk, p.off + 0⟩) := fa_struct Try.underlying70 (ft := 12) (o := 0) rfl (m := 0) sz12
theorem fl70_0 : ∀ {cs : List AV}, fieldA Try.prog 70 (.agg cs) 0 = partA Try.prog 12 cs 0 := fl_struct Try.underlying70 (ft := 12) (o := 0) rfl
theorem fa70_1 : ∀ {p : AAddr}, fieldAddrA Try.prog 70 (.ptr p) 1 = some (.ptr ⟨p.ro, p.blk, p.off + 1⟩) := fa_struct Try.underlying70 (ft := 12) (o := 1) rfl (m := 0) sz12
theorem fl70_1 : ∀ {cs : List AV}, fieldA Try.prog 70 (.agg cs) 1 = partA Try.prog 12 cs 1 := fl_struct Try.underlying70 (ft := 12) (o := 1) rfl
theorem fa70_2 : ∀ {p : AAddr}, fieldAddrA Try.prog 70 (.ptr p) 2 = some (.ptr ⟨p.ro, p.blk, p.off + 2⟩) := fa_struct Try.underlying70 (ft := 63) (o := 2) rfl (m := 0) sz63
theorem fl70_2 : ∀ {cs : List AV}, fieldA Try.prog 70 (.agg cs) 2 = partA Try.prog 63 cs 2 := fl_struct Try.underlying70 (ft := 63) (o := 2) rfl
theorem fa70_4 : ∀ {p : AAddr}, fieldAddrA Try.prog 70 (.ptr p) 4 = some (.ptr ⟨p.ro, p.blk, p.off + 4⟩) := fa_struct Try.underlying70 (ft := 5) (o := 4) rfl (m := 0) sz5
theorem fl70_4 : ∀ {cs : List AV}, fieldA Try.prog 70 (.agg cs) 4 = partA Try.prog 5 cs 4 := fl_struct Try.underlying70 (ft := 5) (o := 4) rfl
theorem fa70_5 : ∀ {p : AAddr}, fieldAddrA Try.prog 70 (.ptr p) 5 = some (.ptr ⟨p.ro, p.blk, p.off + 5⟩) := fa_struct Try.underlying70 (ft := 5) (o := 5) rfl (m := 0) sz5
theorem fl70_5 : ∀ {cs : List AV}, fieldA Try.prog 70 (.agg cs) 5 = partA Try.prog 5 cs 5 := fl_struct Try.underlying70 (ft := 5) (o := 5) rfl
theorem fa70_8 : ∀ {p : AAddr}, fieldAddrA Try.prog 70 (.ptr p) 8 = some (.ptr ⟨p.ro, p.blk, p.off + 8⟩) := fa_struct Try.underlying70 (ft := 67) (o := 8) rfl (m := 0) sz67
theorem fl70_8 : ∀ {cs : List AV}, fieldA Try.prog 70 (.agg cs) 8 = partA Try.prog 67 cs 8 := fl_struct Try.underlying70 (ft := 67) (o := 8) rfl
theorem ld72 : ∀ {p : AAddr} {H : AH}, loadA Try.prog 72 p H = (H.get p).bind fun cs => cs[p.off]? := load_cell ag72
theorem pt72 : ∀ {cs : List AV} {o : Nat}, partA Try.prog 72 cs o = cs[o]? := part_cell ag72
theorem ifc72 : ∀ {v : AV}, ifaceA Try.prog 72 v = some (.iface 72 v) := iface_of Try.underlying72 rfl
theorem ass72 : ∀ {ok : Bool} {v : AV}, assertA Try.prog 72 ok v = assertV (zeroV Try.prog 72) 72 ok v := assert_of Try.underlying72 rfl
attribute [go_sem] sz2 ze2 Try.underlying2 sz3 ze3 Try.underlying3 sz4 ze4 Try.underlying4 sz5 ze5 Try.underlying5 sz7 ze7 Try.underlying7 sz9 ze9 Try.underlying9 sz12 ze12 Try.underlying12 sz13 ze13 Try.underlying13 sz18 ze18 Try.underlying18 sz21 ze21 Try.underlying21 sz22 ze22 Try.underlying22 sz23 ze23 Try.underlying23 sz24 ze24 Try.underlying24 sz25
attribute [go_sem] ze25 Try.underlying25 sz37 ze37 Try.underlying37 sz40 ze40 Try.underlying40 sz52 ze52 Try.underlying52 sz53 ze53 Try.underlying53 sz57 ze57 Try.underlying57 sz63 ze63 Try.underlying63 sz67 ze67 Try.underlying67 sz70 ze70 Try.underlying70 sz72 ze72 Try.underlying72 ld2 pt2 st2_0 st2_1 ifc2 ass2 cv2_2 cv3_2 cv5_2 cv12_2 cv21_2
attribute [go_sem] cv22_2 cv25_2 cv53_2 cv63_2 ld3 pt3 st3_0 st3_1 ifc3 ass3 cv2_3 cv3_3 cv5_3 cv12_3 cv21_3 cv22_3 cv25_3 cv53_3 cv63_3 ld4 pt4 st4_0 ifc4 ass4 eb4 nb4 ld5 pt5 st5_0 st5_1 ifc5 ass5 cv2_5 cv3_5 cv5_5 cv12_5 cv21_5 cv22_5 cv25_5 cv53_5
attribute [go_sem] cv63_5 ld7 pt7 eg7 ifc7 ass7 zv7 sta7 fa7_0 fl7_0 fa7_1 fl7_1 fa7_2 fl7_2 ld9 pt9 st9_0 ifc9 ass9 ls9 is9 ss9 ld12 pt12 st12_0 st12_1 ifc12 ass12 cv2_12 cv3_12 cv5_12 cv12_12 cv21_12 cv22_12 cv25_12 cv53_12 cv63_12 ld13 pt13 ifc13
attribute [go_sem] ass13 sta13 fa13_0 fl13_0 fa13_1 fl13_1 ld18 pt18 ifc18 ass18 sta18 ld21 pt21 st21_0 st21_1 ifc21 ass21 cv2_21 cv3_21 cv5_21 cv12_21 cv21_21 cv22_21 cv25_21 cv53_21 cv63_21 ld22 pt22 st22_0 st22_1 ifc22 ass22 cv2_22 cv3_22 cv5_22 cv12_22 cv21_22 cv22_22 cv25_22 cv53_22
attribute [go_sem] cv63_22 ld23 pt23 st23_0 st23_1 ifc23 ass23 ll23 ln23 ia23 sk23 sg23 sn23 ens23 nns23 enn23 nnn23 cp23 cn23 mk23 bs23 ap23 ai23_3 aq23_9 tx23_9 tn23_9 ld24 pt24 st24_0 st24_1 ifc24 ass24 ll24 ln24 ia24 sk24 sg24 sn24 ens24 nns24
attribute [go_sem] enn24 nnn24 cp24 cn24 mk24 bs24 ap24 ai24_3 ld25 pt25 st25_0 st25_1 ifc25 ass25 cv2_25 cv3_25 cv5_25 cv12_25 cv21_25 cv22_25 cv25_25 cv53_25 cv63_25 ld37 pt37 st37_0 st37_1 ifc37 ass37 ll37 ln37 ia37 sk37 sg37 sn37 ens37 nns37 enn37 nnn37 cp37
attribute [go_sem] cn37 mk37 bs37 ap37 ai37_3 ld40 pt40 ifc40 ass40 ld52 pt52 ifc52 ass52 sta52 la52 ia52 xa52 sa52 ld53 pt53 st53_0 st53_1 ifc53 ass53 cv2_53 cv3_53 cv5_53 cv12_53 cv21_53 cv22_53 cv25_53 cv53_53 cv63_53 ld57 pt57 ifc57 ass57 sta57 fa57_3 fl57_3
attribute [go_sem] ld63 pt63 st63_0 st63_1 ifc63 ass63 cv2_63 cv3_63 cv5_63 cv12_63 cv21_63 cv22_63 cv25_63 cv53_63 cv63_63 ld67 pt67 st67_0 st67_1 ifc67 ass67 eqptrnil67 neptrnil67 eqnn67 nenn67 ld70 pt70 ifc70 ass70 sta70 fa70_0 fl70_0 fa70_1 fl70_1 fa70_2 fl70_2 fa70_4 fl70_4 fa70_5 fl70_5
attribute [go_sem] fa70_8 fl70_8 ld72 pt72 ifc72 ass72
end Go.Proofs.Ytnpfoaapoinfjaa
