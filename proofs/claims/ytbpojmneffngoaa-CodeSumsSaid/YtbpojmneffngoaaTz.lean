import Derived.Test.YtbpojmneffngoaaZ2
import Derived.Test.YtbpojmneffngoaaProg
namespace Go.Proofs.Ytbpojmneffngoaa
open Go Go.Abs
set_option linter.unusedVariables false
theorem sz2 : sizeA Try.prog 2 = some 1 := by kernel_rfl
theorem ag2 : aggA Try.prog 2 = some false := by kernel_rfl
theorem ze2 : zeroA Try.prog 2 = some ([.int .i64 0]) := by kernel_rfl
theorem sz3 : sizeA Try.prog 3 = some 1 := by kernel_rfl
theorem by3 : bytesA Try.prog 3 = some 8 := by kernel_rfl
theorem ag3 : aggA Try.prog 3 = some false := by kernel_rfl
theorem ze3 : zeroA Try.prog 3 = some ([.int .i64 0]) := by kernel_rfl
theorem sz4 : sizeA Try.prog 4 = some 1 := by kernel_rfl
theorem ag4 : aggA Try.prog 4 = some false := by kernel_rfl
theorem ze4 : zeroA Try.prog 4 = some ([.bool false]) := by kernel_rfl
theorem sz5 : sizeA Try.prog 5 = some 1 := by kernel_rfl
theorem by5 : bytesA Try.prog 5 = some 1 := by kernel_rfl
theorem ag5 : aggA Try.prog 5 = some false := by kernel_rfl
theorem ze5 : zeroA Try.prog 5 = some ([.int .u8 0]) := by kernel_rfl
theorem sz7 : sizeA Try.prog 7 = some 4 := by kernel_rfl
theorem ag7 : aggA Try.prog 7 = some true := by kernel_rfl
theorem ze7 : zeroA Try.prog 7 = some ([.int .i64 0, .int .i64 0, .bool false, .int .u8 0]) := by kernel_rfl
theorem sz9 : sizeA Try.prog 9 = some 1 := by kernel_rfl
theorem ag9 : aggA Try.prog 9 = some false := by kernel_rfl
theorem ze9 : zeroA Try.prog 9 = some ([.str ByteArray.empty]) := by kernel_rfl
theorem sz12 : sizeA Try.prog 12 = some 1 := by kernel_rfl
theorem ag12 : aggA Try.prog 12 = some false := by kernel_rfl
theorem ze12 : zeroA Try.prog 12 = some ([.int .u64 0]) := by kernel_rfl
theorem sz13 : sizeA Try.prog 13 = some 2 := by kernel_rfl
theorem ag13 : aggA Try.prog 13 = some true := by kernel_rfl
theorem ze13 : zeroA Try.prog 13 = some ([.str ByteArray.empty, .int .u64 0]) := by kernel_rfl
theorem sz18 : sizeA Try.prog 18 = some 1 := by kernel_rfl
theorem ag18 : aggA Try.prog 18 = some true := by kernel_rfl
theorem ze18 : zeroA Try.prog 18 = some ([.nilptr]) := by kernel_rfl
theorem sz21 : sizeA Try.prog 21 = some 1 := by kernel_rfl
theorem ag21 : aggA Try.prog 21 = some false := by kernel_rfl
theorem ze21 : zeroA Try.prog 21 = some ([.int .i32 0]) := by kernel_rfl
theorem sz24 : sizeA Try.prog 24 = some 1 := by kernel_rfl
theorem ag24 : aggA Try.prog 24 = some false := by kernel_rfl
theorem ze24 : zeroA Try.prog 24 = some ([.nilslice]) := by kernel_rfl
theorem sz25 : sizeA Try.prog 25 = some 1 := by kernel_rfl
theorem ag25 : aggA Try.prog 25 = some false := by kernel_rfl
theorem ze25 : zeroA Try.prog 25 = some ([.nilslice]) := by kernel_rfl
theorem sz26 : sizeA Try.prog 26 = some 1 := by kernel_rfl
theorem ag26 : aggA Try.prog 26 = some false := by kernel_rfl
theorem ze26 : zeroA Try.prog 26 = some ([.int .i64 0]) := by kernel_rfl
theorem sz32 : sizeA Try.prog 32 = some 1 := by kernel_rfl
theorem ag32 : aggA Try.prog 32 = some false := by kernel_rfl
theorem ze32 : zeroA Try.prog 32 = some ([.nilslice]) := by kernel_rfl
theorem sz33 : sizeA Try.prog 33 = some 4 := by kernel_rfl
theorem ag33 : aggA Try.prog 33 = some true := by kernel_rfl
theorem ze33 : zeroA Try.prog 33 = some ([.int .i64 0, .int .i64 0, .nilslice, .nilslice]) := by kernel_rfl
theorem sz34 : sizeA Try.prog 34 = some 4 := by kernel_rfl
theorem ag34 : aggA Try.prog 34 = some true := by kernel_rfl
theorem ze34 : zeroA Try.prog 34 = some ([.int .i64 0, .int .i64 0, .nilslice, .nilslice]) := by kernel_rfl
theorem sz40 : sizeA Try.prog 40 = some 1 := by kernel_rfl
theorem by40 : bytesA Try.prog 40 = some 24 := by kernel_rfl
theorem ag40 : aggA Try.prog 40 = some false := by kernel_rfl
theorem ze40 : zeroA Try.prog 40 = some ([.nilslice]) := by kernel_rfl
theorem sz42 : sizeA Try.prog 42 = some 5 := by kernel_rfl
theorem ag42 : aggA Try.prog 42 = some true := by kernel_rfl
theorem ze42 : zeroA Try.prog 42 = some ([.int .u8 0, .int .u8 0, .int .u8 0, .nilslice, .nilslice]) := by kernel_rfl
theorem sz43 : sizeA Try.prog 43 = some 5 := by kernel_rfl
theorem ag43 : aggA Try.prog 43 = some true := by kernel_rfl
theorem ze43 : zeroA Try.prog 43 = some ([.int .u8 0, .int .u8 0, .int .u8 0, .nilslice, .nilslice]) := by kernel_rfl
theorem sz49 : sizeA Try.prog 49 = some 4 := by kernel_rfl
theorem ag49 : aggA Try.prog 49 = some true := by kernel_rfl
theorem ze49 : zeroA Try.prog 49 = some ([.int .i64 0, .int .i64 0, .int .i64 0, .nilslice]) := by kernel_rfl
theorem sz50 : sizeA Try.prog 50 = some 4 := by kernel_rfl
theorem ag50 : aggA Try.prog 50 = some true := by kernel_rfl
theorem ze50 : zeroA Try.prog 50 = some ([.int .i64 0, .int .i64 0, .int .i64 0, .nilslice]) := by kernel_rfl
theorem sz64 : sizeA Try.prog 64 = some 255 := by kernel_rfl
theorem ag64 : aggA Try.prog 64 = some true := by kernel_rfl
theorem ze64 : zeroA Try.prog 64 = some (List.replicate 255 (.bool false)) := by kernel_rfl
theorem sz70 : sizeA Try.prog 70 = some 1 := by kernel_rfl
theorem ag70 : aggA Try.prog 70 = some false := by kernel_rfl
theorem ze70 : zeroA Try.prog 70 = some ([.int .u64 0]) := by kernel_rfl
theorem sz75 : sizeA Try.prog 75 = some 1 := by kernel_rfl
theorem ag75 : aggA Try.prog 75 = some true := by kernel_rfl
theorem ze75 : zeroA Try.prog 75 = some ([.int .i64 0]) := by kernel_rfl
theorem sz76 : sizeA Try.prog 76 = some 1 := by kernel_rfl
theorem ag76 : aggA Try.prog 76 = some true := by kernel_rfl
theorem ze76 : zeroA Try.prog 76 = some ([.int .i64 0]) := by kernel_rfl
theorem sz87 : sizeA Try.prog 87 = some 255 := by kernel_rfl
theorem ag87 : aggA Try.prog 87 = some true := by kernel_rfl
theorem ze87 : zeroA Try.prog 87 = some (List.replicate 255 (.int .u8 0)) := by kernel_rfl
theorem sz88 : sizeA Try.prog 88 = some 256 := by kernel_rfl
theorem ag88 : aggA Try.prog 88 = some true := by kernel_rfl
theorem ze88 : zeroA Try.prog 88 = some (List.replicate 256 (.int .i64 0)) := by kernel_rfl
theorem sz93 : sizeA Try.prog 93 = some 4 := by kernel_rfl
theorem ag93 : aggA Try.prog 93 = some true := by kernel_rfl
theorem ze93 : zeroA Try.prog 93 = some ([.nilptr, .nilptr, .nilptr, .str ByteArray.empty]) := by kernel_rfl
theorem sz99 : sizeA Try.prog 99 = some 1 := by kernel_rfl
theorem ag99 : aggA Try.prog 99 = some false := by kernel_rfl
theorem ze99 : zeroA Try.prog 99 = some ([.int .u32 0]) := by kernel_rfl
theorem sz103 : sizeA Try.prog 103 = some 1 := by kernel_rfl
theorem ag103 : aggA Try.prog 103 = some false := by kernel_rfl
theorem ze103 : zeroA Try.prog 103 = some ([.nilptr]) := by kernel_rfl
theorem sz106 : sizeA Try.prog 106 = some 11 := by kernel_rfl
theorem ag106 : aggA Try.prog 106 = some true := by kernel_rfl
theorem ze106 : zeroA Try.prog 106 = some ([.int .u64 0, .int .u64 0, .int .u32 0, .int .u8 0, .int .u8 0, .int .u8 0, .int .u8 0, .nilfunc, .nilptr, .int .i32 0, .int .i32 0]) := by kernel_rfl
theorem sz108 : sizeA Try.prog 108 = some 1 := by kernel_rfl
theorem ag108 : aggA Try.prog 108 = some false := by kernel_rfl
theorem ze108 : zeroA Try.prog 108 = some ([.nilptr]) := by kernel_rfl
theorem ld2 : ∀ {p : AAddr} {H : AH}, loadA Try.prog 2 p H = (H.get p).bind fun cs => cs[p.off]? := load_cell ag2
theorem pt2 : ∀ {cs : List AV} {o : Nat}, partA Try.prog 2 cs o = cs[o]? := part_cell ag2
theorem st2_0 : ∀ {k : IntKind} {a : Int} {H : AH} {i o : Nat}, storeA Try.prog 2 ⟨false, i, o⟩ (.int k a) H = (H.cells? i).bind fun l => gd (o < l.length) (some (H.set i (some (.cells (l.set o (.int k a)))))) := store_cell sz2 rfl
theorem st2_1 : ∀ {a : UInt8} {H : AH} {i o : Nat}, storeA Try.prog 2 ⟨false, i, o⟩ (bv a) H = (H.cells? i).bind fun l => gd (o < l.length) (some (H.set i (some (.cells (l.set o (bv a)))))) := store_cell sz2 rfl
theorem ifc2 : ∀ {v : AV}, ifaceA Try.prog 2 v = some (.iface 2 v) := iface_of Try.underlying2 rfl
theorem ass2 : ∀ {ok : Bool} {v : AV}, assertA Try.prog 2 ok v = assertV (zeroV Try.prog 2) 2 ok v := assert_of Try.underlying2 rfl
theorem cv2_2 : ∀ {k : IntKind} {a : Int} {H : AH}, convertA Try.prog 2 2 (.int k a) H = some (.int .i64 (IntKind.i64.wrap a), H) := conv_int Try.underlying2 (by rw [Try.underlying2]; rfl)
theorem cv3_2 : ∀ {k : IntKind} {a : Int} {H : AH}, convertA Try.prog 3 2 (.int k a) H = some (.int .i64 (IntKind.i64.wrap a), H) := conv_int Try.underlying2 (by rw [Try.underlying3]; rfl)
theorem cv5_2 : ∀ {k : IntKind} {a : Int} {H : AH}, convertA Try.prog 5 2 (.int k a) H = some (.int .i64 (IntKind.i64.wrap a), H) := conv_int Try.underlying2 (by rw [Try.underlying5]; rfl)
theorem cv12_2 : ∀ {k : IntKind} {a : Int} {H : AH}, convertA Try.prog 12 2 (.int k a) H = some (.int .i64 (IntKind.i64.wrap a), H) := conv_int Try.underlying2 (by rw [Try.underlying12]; rfl)
theorem cv21_2 : ∀ {k : IntKind} {a : Int} {H : AH}, convertA Try.prog 21 2 (.int k a) H = some (.int .i64 (IntKind.i64.wrap a), H) := conv_int Try.underlying2 (by rw [Try.underlying21]; rfl)
theorem cv26_2 : ∀ {k : IntKind} {a : Int} {H : AH}, convertA Try.prog 26 2 (.int k a) H = some (.int .i64 (IntKind.i64.wrap a), H) := conv_int Try.underlying2 (by rw [Try.underlying26]; rfl)
theorem cv70_2 : ∀ {k : IntKind} {a : Int} {H : AH}, convertA Try.prog 70 2 (.int k a) H = some (.int .i64 (IntKind.i64.wrap a), H) := conv_int Try.underlying2 (by rw [Try.underlying70]; rfl)
theorem cv99_2 : ∀ {k : IntKind} {a : Int} {H : AH}, convertA Try.prog 99 2 (.int k a) H = some (.int .i64 (IntKind.i64.wrap a), H) := conv_int Try.underlying2 (by rw [Try.underlying99]; rfl)
theorem ld3 : ∀ {p : AAddr} {H : AH}, loadA Try.prog 3 p H = (H.get p).bind fun cs => cs[p.off]? := load_cell ag3
theorem pt3 : ∀ {cs : List AV} {o : Nat}, partA Try.prog 3 cs o = cs[o]? := part_cell ag3
theorem st3_0 : ∀ {k : IntKind} {a : Int} {H : AH} {i o : Nat}, storeA Try.prog 3 ⟨false, i, o⟩ (.int k a) H = (H.cells? i).bind fun l => gd (o < l.length) (some (H.set i (some (.cells (l.set o (.int k a)))))) := store_cell sz3 rfl
theorem st3_1 : ∀ {a : UInt8} {H : AH} {i o : Nat}, storeA Try.prog 3 ⟨false, i, o⟩ (bv a) H = (H.cells? i).bind fun l => gd (o < l.length) (some (H.set i (some (.cells (l.set o (bv a)))))) := store_cell sz3 rfl
theorem ifc3 : ∀ {v : AV}, ifaceA Try.prog 3 v = some (.iface 3 v) := iface_of Try.underlying3 rfl
theorem ass3 : ∀ {ok : Bool} {v : AV}, assertA Try.prog 3 ok v = assertV (zeroV Try.prog 3) 3 ok v := assert_of Try.underlying3 rfl
theorem cv2_3 : ∀ {k : IntKind} {a : Int} {H : AH}, convertA Try.prog 2 3 (.int k a) H = some (.int .i64 (IntKind.i64.wrap a), H) := conv_int Try.underlying3 (by rw [Try.underlying2]; rfl)
theorem cv3_3 : ∀ {k : IntKind} {a : Int} {H : AH}, convertA Try.prog 3 3 (.int k a) H = some (.int .i64 (IntKind.i64.wrap a), H) := conv_int Try.underlying3 (by rw [Try.underlying3]; rfl)
theorem cv5_3 : ∀ {k : IntKind} {a : Int} {H : AH}, convertA Try.prog 5 3 (.int k a) H = some (.int .i64 (IntKind.i64.wrap a), H) := conv_int Try.underlying3 (by rw [Try.underlying5]; rfl)
theorem cv12_3 : ∀ {k : IntKind} {a : Int} {H : AH}, convertA Try.prog 12 3 (.int k a) H = some (.int .i64 (IntKind.i64.wrap a), H) := conv_int Try.underlying3 (by rw [Try.underlying12]; rfl)
theorem cv21_3 : ∀ {k : IntKind} {a : Int} {H : AH}, convertA Try.prog 21 3 (.int k a) H = some (.int .i64 (IntKind.i64.wrap a), H) := conv_int Try.underlying3 (by rw [Try.underlying21]; rfl)
theorem cv26_3 : ∀ {k : IntKind} {a : Int} {H : AH}, convertA Try.prog 26 3 (.int k a) H = some (.int .i64 (IntKind.i64.wrap a), H) := conv_int Try.underlying3 (by rw [Try.underlying26]; rfl)
theorem cv70_3 : ∀ {k : IntKind} {a : Int} {H : AH}, convertA Try.prog 70 3 (.int k a) H = some (.int .i64 (IntKind.i64.wrap a), H) := conv_int Try.underlying3 (by rw [Try.underlying70]; rfl)
theorem cv99_3 : ∀ {k : IntKind} {a : Int} {H : AH}, convertA Try.prog 99 3 (.int k a) H = some (.int .i64 (IntKind.i64.wrap a), H) := conv_int Try.underlying3 (by rw [Try.underlying99]; rfl)
theorem ld4 : ∀ {p : AAddr} {H : AH}, loadA Try.prog 4 p H = (H.get p).bind fun cs => cs[p.off]? := load_cell ag4
theorem pt4 : ∀ {cs : List AV} {o : Nat}, partA Try.prog 4 cs o = cs[o]? := part_cell ag4
theorem st4_0 : ∀ {a : Bool} {H : AH} {i o : Nat}, storeA Try.prog 4 ⟨false, i, o⟩ (.bool a) H = (H.cells? i).bind fun l => gd (o < l.length) (some (H.set i (some (.cells (l.set o (.bool a)))))) := store_cell sz4 rfl
theorem ifc4 : ∀ {v : AV}, ifaceA Try.prog 4 v = some (.iface 4 v) := iface_of Try.underlying4 rfl
theorem ass4 : ∀ {ok : Bool} {v : AV}, assertA Try.prog 4 ok v = assertV (zeroV Try.prog 4) 4 ok v := assert_of Try.underlying4 rfl
theorem eb4 : ∀ {x y : Bool}, binA Try.prog .eql 4 (.bool x) (.bool y) = some (.bool (x == y)) := bin_bool Try.underlying4
theorem nb4 : ∀ {x y : Bool}, binA Try.prog .neq 4 (.bool x) (.bool y) = some (.bool (!(x == y))) := bin_boolne Try.underlying4
theorem ld5 : ∀ {p : AAddr} {H : AH}, loadA Try.prog 5 p H = (H.get p).bind fun cs => cs[p.off]? := load_cell ag5
theorem pt5 : ∀ {cs : List AV} {o : Nat}, partA Try.prog 5 cs o = cs[o]? := part_cell ag5
theorem st5_0 : ∀ {k : IntKind} {a : Int} {H : AH} {i o : Nat}, storeA Try.prog 5 ⟨false, i, o⟩ (.int k a) H = (H.cells? i).bind fun l => gd (o < l.length) (some (H.set i (some (.cells (l.set o (.int k a)))))) := store_cell sz5 rfl
theorem st5_1 : ∀ {a : UInt8} {H : AH} {i o : Nat}, storeA Try.prog 5 ⟨false, i, o⟩ (bv a) H = (H.cells? i).bind fun l => gd (o < l.length) (some (H.set i (some (.cells (l.set o (bv a)))))) := store_cell sz5 rfl
theorem ifc5 : ∀ {v : AV}, ifaceA Try.prog 5 v = some (.iface 5 v) := iface_of Try.underlying5 rfl
theorem ass5 : ∀ {ok : Bool} {v : AV}, assertA Try.prog 5 ok v = assertV (zeroV Try.prog 5) 5 ok v := assert_of Try.underlying5 rfl
theorem cv2_5 : ∀ {k : IntKind} {a : Int} {H : AH}, convertA Try.prog 2 5 (.int k a) H = some (.int .u8 (IntKind.u8.wrap a), H) := conv_int Try.underlying5 (by rw [Try.underlying2]; rfl)
theorem cv3_5 : ∀ {k : IntKind} {a : Int} {H : AH}, convertA Try.prog 3 5 (.int k a) H = some (.int .u8 (IntKind.u8.wrap a), H) := conv_int Try.underlying5 (by rw [Try.underlying3]; rfl)
theorem cv5_5 : ∀ {k : IntKind} {a : Int} {H : AH}, convertA Try.prog 5 5 (.int k a) H = some (.int .u8 (IntKind.u8.wrap a), H) := conv_int Try.underlying5 (by rw [Try.underlying5]; rfl)
theorem cv12_5 : ∀ {k : IntKind} {a : Int} {H : AH}, convertA Try.prog 12 5 (.int k a) H = some (.int .u8 (IntKind.u8.wrap a), H) := conv_int Try.underlying5 (by rw [Try.underlying12]; rfl)
theorem cv21_5 : ∀ {k : IntKind} {a : Int} {H : AH}, convertA Try.prog 21 5 (.int k a) H = some (.int .u8 (IntKind.u8.wrap a), H) := conv_int Try.underlying5 (by rw [Try.underlying21]; rfl)
theorem cv26_5 : ∀ {k : IntKind} {a : Int} {H : AH}, convertA Try.prog 26 5 (.int k a) H = some (.int .u8 (IntKind.u8.wrap a), H) := conv_int Try.underlying5 (by rw [Try.underlying26]; rfl)
theorem cv70_5 : ∀ {k : IntKind} {a : Int} {H : AH}, convertA Try.prog 70 5 (.int k a) H = some (.int .u8 (IntKind.u8.wrap a), H) := conv_int Try.underlying5 (by rw [Try.underlying70]; rfl)
theorem cv99_5 : ∀ {k : IntKind} {a : Int} {H : AH}, convertA Try.prog 99 5 (.int k a) H = some (.int .u8 (IntKind.u8.wrap a), H) := conv_int Try.underlying5 (by rw [Try.underlying99]; rfl)
theorem ld7 : ∀ {p : AAddr} {H : AH}, loadA Try.prog 7 p H = (H.get p).bind fun cs => gd (p.off + 4 ≤ cs.length) (some (.agg ((cs.drop p.off).take 4))) := load_agg ag7 sz7
theorem pt7 : ∀ {cs : List AV} {o : Nat}, partA Try.prog 7 cs o = gd (o + 4 ≤ cs.length) (some (.agg ((cs.drop o).take 4))) := part_agg ag7 sz7
theorem eg7 : ∀ {a0 b0 : Int} {a1 b1 : Int} {a2 b2 : Bool} {a3 b3 : Int}, eqAgg Try.prog 7 (.agg [.int .i64 a0, .int .i64 a1, .bool a2, .int .u8 a3]) (.agg [.int .i64 b0, .int .i64 b1, .bool b2, .int .u8 b3]) = some (decide (a0 = b0) && (decide (a1 = b1) && ((a2 == b2) && (decide (a3 = b3) && true)))) := by intros; kernel_rfl
theorem ifc7 : ∀ {v : AV}, ifaceA Try.prog 7 v = some (.iface 7 v) := iface_of Try.underlying7 rfl
theorem ass7 : ∀ {ok : Bool} {v : AV}, assertA Try.prog 7 ok v = assertV (zeroV Try.prog 7) 7 ok v := assert_of Try.underlying7 rfl
theorem zv7 : zeroV Try.prog 7 = some (.agg [.int .i64 0, .int .i64 0, .bool false, .int .u8 0]) := by kernel_rfl
theorem sta7 : ∀ {vs : List AV} {H : AH} {i o : Nat}, storeA Try.prog 7 ⟨false, i, o⟩ (.agg vs) H = gd (vs.length = 4) (gdb (vs.all oneA) ((H.cells? i).bind fun l0 => gd (o + 4 ≤ l0.length) (some (H.set i (some (.cells (putL l0 o vs))))))) := store_aggs (n := 3) sz7
theorem fa7_0 : ∀ {p : AAddr}, fieldAddrA Try.prog 7 (.ptr p) 0 = some (.ptr ⟨p.ro, p.blk, p.off + 0⟩) := fa_struct Try.underlying7 (ft := 2) (o := 0) rfl (m := 0) sz2
theorem fl7_0 : ∀ {cs : List AV}, fieldA Try.prog 7 (.agg cs) 0 = partA Try.prog 2 cs 0 := fl_struct Try.underlying7 (ft := 2) (o := 0) rfl
theorem fa7_1 : ∀ {p : AAddr}, fieldAddrA Try.prog 7 (.ptr p) 1 = some (.ptr ⟨p.ro, p.blk, p.off + 1⟩) := fa_struct Try.underlying7 (ft := 3) (o := 1) rfl (m := 0) sz3
theorem fl7_1 : ∀ {cs : List AV}, fieldA Try.prog 7 (.agg cs) 1 = partA Try.prog 3 cs 1 := fl_struct Try.underlying7 (ft := 3) (o := 1) rfl
theorem fa7_2 : ∀ {p : AAddr}, fieldAddrA Try.prog 7 (.ptr p) 2 = some (.ptr ⟨p.ro, p.blk, p.off + 2⟩) := fa_struct Try.underlying7 (ft := 4) (o := 2) rfl (m := 0) sz4
theorem fl7_2 : ∀ {cs : List AV}, fieldA Try.prog 7 (.agg cs) 2 = partA Try.prog 4 cs 2 := fl_struct Try.underlying7 (ft := 4) (o := 2) rfl
theorem ld9 : ∀ {p : AAddr} {H : AH}, loadA Try.prog 9 p H = (H.get p).bind fun cs => cs[p.off]? := load_cell ag9
theorem pt9 : ∀ {cs : List AV} {o : Nat}, partA Try.prog 9 cs o = cs[o]? := part_cell ag9
theorem st9_0 : ∀ {a : ByteArray} {H : AH} {i o : Nat}, storeA Try.prog 9 ⟨false, i, o⟩ (.str a) H = (H.cells? i).bind fun l => gd (o < l.length) (some (H.set i (some (.cells (l.set o (.str a)))))) := store_cell sz9 rfl
theorem ifc9 : ∀ {v : AV}, ifaceA Try.prog 9 v = some (.iface 9 v) := iface_of Try.underlying9 rfl
theorem ass9 : ∀ {ok : Bool} {v : AV}, assertA Try.prog 9 ok v = assertV (zeroV Try.prog 9) 9 ok v := assert_of Try.underlying9 rfl
theorem ls9 : ∀ {s : ByteArray}, lenA Try.prog 9 (.str s) = some (.int .i64 s.size) := len_str Try.underlying9
theorem is9 : ∀ {s : ByteArray} {k : IntKind} {a : Int}, indexA Try.prog 9 (.str s) (.int k a) = gd (0 ≤ a) ((s[a.toNat]?).map fun b => .int .u8 b.toNat) := ix_str Try.underlying9
theorem ss9 : ∀ {s : ByteArray} {lo hi : Option AV}, sliceOpA Try.prog 9 (.str s) lo hi none = (optB hi s.size s.size).bind fun h => (optB lo h 0).map fun l => .str (s.extract l h) := slc_str Try.underlying9
theorem ld12 : ∀ {p : AAddr} {H : AH}, loadA Try.prog 12 p H = (H.get p).bind fun cs => cs[p.off]? := load_cell ag12
theorem pt12 : ∀ {cs : List AV} {o : Nat}, partA Try.prog 12 cs o = cs[o]? := part_cell ag12
theorem st12_0 : ∀ {k : IntKind} {a : Int} {H : AH} {i o : Nat}, storeA Try.prog 12 ⟨false, i, o⟩ (.int k a) H = (H.cells? i).bind fun l => gd (o < l.length) (some (H.set i (some (.cells (l.set o (.int k a)))))) := store_cell sz12 rfl
theorem st12_1 : ∀ {a : UInt8} {H : AH} {i o : Nat}, storeA Try.prog 12 ⟨false, i, o⟩ (bv a) H = (H.cells? i).bind fun l => gd (o < l.length) (some (H.set i (some (.cells (l.set o (bv a)))))) := store_cell sz12 rfl
theorem ifc12 : ∀ {v : AV}, ifaceA Try.prog 12 v = some (.iface 12 v) := iface_of Try.underlying12 rfl
theorem ass12 : ∀ {ok : Bool} {v : AV}, assertA Try.prog 12 ok v = assertV (zeroV Try.prog 12) 12 ok v := assert_of Try.underlying12 rfl
theorem cv2_12 : ∀ {k : IntKind} {a : Int} {H : AH}, convertA Try.prog 2 12 (.int k a) H = some (.int .u64 (IntKind.u64.wrap a), H) := conv_int Try.underlying12 (by rw [Try.underlying2]; rfl)
theorem cv3_12 : ∀ {k : IntKind} {a : Int} {H : AH}, convertA Try.prog 3 12 (.int k a) H = some (.int .u64 (IntKind.u64.wrap a), H) := conv_int Try.underlying12 (by rw [Try.underlying3]; rfl)
theorem cv5_12 : ∀ {k : IntKind} {a : Int} {H : AH}, convertA Try.prog 5 12 (.int k a) H = some (.int .u64 (IntKind.u64.wrap a), H) := conv_int Try.underlying12 (by rw [Try.underlying5]; rfl)
theorem cv12_12 : ∀ {k : IntKind} {a : Int} {H : AH}, convertA Try.prog 12 12 (.int k a) H = some (.int .u64 (IntKind.u64.wrap a), H) := conv_int Try.underlying12 (by rw [Try.underlying12]; rfl)
theorem cv21_12 : ∀ {k : IntKind} {a : Int} {H : AH}, convertA Try.prog 21 12 (.int k a) H = some (.int .u64 (IntKind.u64.wrap a), H) := conv_int Try.underlying12 (by rw [Try.underlying21]; rfl)
theorem cv26_12 : ∀ {k : IntKind} {a : Int} {H : AH}, convertA Try.prog 26 12 (.int k a) H = some (.int .u64 (IntKind.u64.wrap a), H) := conv_int Try.underlying12 (by rw [Try.underlying26]; rfl)
theorem cv70_12 : ∀ {k : IntKind} {a : Int} {H : AH}, convertA Try.prog 70 12 (.int k a) H = some (.int .u64 (IntKind.u64.wrap a), H) := conv_int Try.underlying12 (by rw [Try.underlying70]; rfl)
theorem cv99_12 : ∀ {k : IntKind} {a : Int} {H : AH}, convertA Try.prog 99 12 (.int k a) H = some (.int .u64 (IntKind.u64.wrap a), H) := conv_int Try.underlying12 (by rw [Try.underlying99]; rfl)
theorem ld13 : ∀ {p : AAddr} {H : AH}, loadA Try.prog 13 p H = (H.get p).bind fun cs => gd (p.off + 2 ≤ cs.length) (some (.agg ((cs.drop p.off).take 2))) := load_agg ag13 sz13
theorem pt13 : ∀ {cs : List AV} {o : Nat}, partA Try.prog 13 cs o = gd (o + 2 ≤ cs.length) (some (.agg ((cs.drop o).take 2))) := part_agg ag13 sz13
theorem ifc13 : ∀ {v : AV}, ifaceA Try.prog 13 v = some (.iface 13 v) := iface_of Try.underlying13 rfl
theorem ass13 : ∀ {ok : Bool} {v : AV}, assertA Try.prog 13 ok v = assertV (zeroV Try.prog 13) 13 ok v := assert_of Try.underlying13 rfl
theorem sta13 : ∀ {vs : List AV} {H : AH} {i o : Nat}, storeA Try.prog 13 ⟨false, i, o⟩ (.agg vs) H = gd (vs.length = 2) (gdb (vs.all oneA) ((H.cells? i).bind fun l0 => gd (o + 2 ≤ l0.length) (some (H.set i (some (.cells (putL l0 o vs))))))) := store_aggs (n := 1) sz13
theorem fa13_0 : ∀ {p : AAddr}, fieldAddrA Try.prog 13 (.ptr p) 0 = some (.ptr ⟨p.ro, p.blk, p.off + 0⟩) := fa_struct Try.underlying13 (ft := 9) (o := 0) rfl (m := 0) sz9
theorem fl13_0 : ∀ {cs : List AV}, fieldA Try.prog 13 (.agg cs) 0 = partA Try.prog 9 cs 0 := fl_struct Try.underlying13 (ft := 9) (o := 0) rfl
theorem fa13_1 : ∀ {p : AAddr}, fieldAddrA Try.prog 13 (.ptr p) 1 = some (.ptr ⟨p.ro, p.blk, p.off + 1⟩) := fa_struct Try.underlying13 (ft := 12) (o := 1) rfl (m := 0) sz12
theorem fl13_1 : ∀ {cs : List AV}, fieldA Try.prog 13 (.agg cs) 1 = partA Try.prog 12 cs 1 := fl_struct Try.underlying13 (ft := 12) (o := 1) rfl
theorem ld18 : ∀ {p : AAddr} {H : AH}, loadA Try.prog 18 p H = (H.get p).bind fun cs => gd (p.off + 1 ≤ cs.length) (some (.agg ((cs.drop p.off).take 1))) := load_agg ag18 sz18
theorem pt18 : ∀ {cs : List AV} {o : Nat}, partA Try.prog 18 cs o = gd (o + 1 ≤ cs.length) (some (.agg ((cs.drop o).take 1))) := part_agg ag18 sz18
theorem ifc18 : ∀ {v : AV}, ifaceA Try.prog 18 v = some (.iface 18 v) := iface_of Try.underlying18 rfl
theorem ass18 : ∀ {ok : Bool} {v : AV}, assertA Try.prog 18 ok v = assertV (zeroV Try.prog 18) 18 ok v := assert_of Try.underlying18 rfl
theorem sta18 : ∀ {vs : List AV} {H : AH} {i o : Nat}, storeA Try.prog 18 ⟨false, i, o⟩ (.agg vs) H = gd (vs.length = 1) (gdb (vs.all oneA) ((H.cells? i).bind fun l0 => gd (o + 1 ≤ l0.length) (some (H.set i (some (.cells (putL l0 o vs))))))) := store_aggs (n := 0) sz18
theorem ld21 : ∀ {p : AAddr} {H : AH}, loadA Try.prog 21 p H = (H.get p).bind fun cs => cs[p.off]? := load_cell ag21
theorem pt21 : ∀ {cs : List AV} {o : Nat}, partA Try.prog 21 cs o = cs[o]? := part_cell ag21
theorem st21_0 : ∀ {k : IntKind} {a : Int} {H : AH} {i o : Nat}, storeA Try.prog 21 ⟨false, i, o⟩ (.int k a) H = (H.cells? i).bind fun l => gd (o < l.length) (some (H.set i (some (.cells (l.set o (.int k a)))))) := store_cell sz21 rfl
theorem st21_1 : ∀ {a : UInt8} {H : AH} {i o : Nat}, storeA Try.prog 21 ⟨false, i, o⟩ (bv a) H = (H.cells? i).bind fun l => gd (o < l.length) (some (H.set i (some (.cells (l.set o (bv a)))))) := store_cell sz21 rfl
theorem ifc21 : ∀ {v : AV}, ifaceA Try.prog 21 v = some (.iface 21 v) := iface_of Try.underlying21 rfl
theorem ass21 : ∀ {ok : Bool} {v : AV}, assertA Try.prog 21 ok v = assertV (zeroV Try.prog 21) 21 ok v := assert_of Try.underlying21 rfl
theorem cv2_21 : ∀ {k : IntKind} {a : Int} {H : AH}, convertA Try.prog 2 21 (.int k a) H = some (.int .i32 (IntKind.i32.wrap a), H) := conv_int Try.underlying21 (by rw [Try.underlying2]; rfl)
theorem cv3_21 : ∀ {k : IntKind} {a : Int} {H : AH}, convertA Try.prog 3 21 (.int k a) H = some (.int .i32 (IntKind.i32.wrap a), H) := conv_int Try.underlying21 (by rw [Try.underlying3]; rfl)
theorem cv5_21 : ∀ {k : IntKind} {a : Int} {H : AH}, convertA Try.prog 5 21 (.int k a) H = some (.int .i32 (IntKind.i32.wrap a), H) := conv_int Try.underlying21 (by rw [Try.underlying5]; rfl)
theorem cv12_21 : ∀ {k : IntKind} {a : Int} {H : AH}, convertA Try.prog 12 21 (.int k a) H = some (.int .i32 (IntKind.i32.wrap a), H) := conv_int Try.underlying21 (by rw [Try.underlying12]; rfl)
theorem cv21_21 : ∀ {k : IntKind} {a : Int} {H : AH}, convertA Try.prog 21 21 (.int k a) H = some (.int .i32 (IntKind.i32.wrap a), H) := conv_int Try.underlying21 (by rw [Try.underlying21]; rfl)
theorem cv26_21 : ∀ {k : IntKind} {a : Int} {H : AH}, convertA Try.prog 26 21 (.int k a) H = some (.int .i32 (IntKind.i32.wrap a), H) := conv_int Try.underlying21 (by rw [Try.underlying26]; rfl)
theorem cv70_21 : ∀ {k : IntKind} {a : Int} {H : AH}, convertA Try.prog 70 21 (.int k a) H = some (.int .i32 (IntKind.i32.wrap a), H) := conv_int Try.underlying21 (by rw [Try.underlying70]; rfl)
theorem cv99_21 : ∀ {k : IntKind} {a : Int} {H : AH}, convertA Try.prog 99 21 (.int k a) H = some (.int .i32 (IntKind.i32.wrap a), H) := conv_int Try.underlying21 (by rw [Try.underlying99]; rfl)
theorem ld24 : ∀ {p : AAddr} {H : AH}, loadA Try.prog 24 p H = (H.get p).bind fun cs => cs[p.off]? := load_cell ag24
theorem pt24 : ∀ {cs : List AV} {o : Nat}, partA Try.prog 24 cs o = cs[o]? := part_cell ag24
theorem st24_0 : ∀ {a : AAddr} {n : Nat} {c : Cap} {H : AH} {i o : Nat}, storeA Try.prog 24 ⟨false, i, o⟩ (.slice a n c) H = (H.cells? i).bind fun l => gd (o < l.length) (some (H.set i (some (.cells (l.set o (.slice a n c)))))) := store_cell sz24 rfl
theorem st24_1 : ∀  {H : AH} {i o : Nat}, storeA Try.prog 24 ⟨false, i, o⟩ .nilslice H = (H.cells? i).bind fun l => gd (o < l.length) (some (H.set i (some (.cells (l.set o .nilslice))))) := store_cell sz24 rfl
theorem ifc24 : ∀ {v : AV}, ifaceA Try.prog 24 v = some (.iface 24 v) := iface_of Try.underlying24 rfl
theorem ass24 : ∀ {ok : Bool} {v : AV}, assertA Try.prog 24 ok v = assertV (zeroV Try.prog 24) 24 ok v := assert_of Try.underlying24 rfl
theorem ll24 : ∀ {p : AAddr} {n : Nat} {c : Cap}, lenA Try.prog 24 (.slice p n c) = some (.int .i64 n) := len_slice Try.underlying24
theorem ln24 : lenA Try.prog 24 .nilslice = some (.int .i64 0) := len_nil Try.underlying24
theorem ia24 : ∀ {p : AAddr} {n : Nat} {c : Cap} {k : IntKind} {a : Int}, indexAddrA Try.prog 24 (.slice p n c) (.int k a) = gd (0 ≤ a ∧ a < n) (some (.ptr ⟨p.ro, p.blk, p.off + a.toNat * 1⟩)) := ixa_slice Try.underlying24 sz40
theorem sk24 : ∀ {p : AAddr} {n c : Nat} {lo hi mx : Option AV}, sliceOpA Try.prog 24 (.slice p n (.known c)) lo hi mx = cutKnown p 1 n c lo hi mx := slc_known Try.underlying24 sz40
theorem sg24 : ∀ {p : AAddr} {n : Nat} {lo hi : Option AV}, sliceOpA Try.prog 24 (.slice p n (.grow 1)) lo hi none = if p.ro = false then (optB hi n n).bind fun h => (optB lo h 0).map fun l => .slice ⟨false, p.blk, p.off + l * 1⟩ (h - l) (.grow 1) else none := slc_grow Try.underlying24 sz40
theorem sn24 : ∀ {lo hi : Option AV}, sliceOpA Try.prog 24 .nilslice lo hi none = (optB hi 0 0).bind fun h => (optB lo h 0).map fun _ => .nilslice := slc_nil Try.underlying24 sz40
theorem ens24 : ∀ {p : AAddr} {n : Nat} {c : Cap}, binA Try.prog .eql 24 (.slice p n c) .nilslice = if sureSlice n c then some (.bool false) else none := eq_nil_slice Try.underlying24
theorem nns24 : ∀ {p : AAddr} {n : Nat} {c : Cap}, binA Try.prog .neq 24 (.slice p n c) .nilslice = if sureSlice n c then some (.bool true) else none := ne_nil_slice Try.underlying24
theorem enn24 : binA Try.prog .eql 24 .nilslice .nilslice = some (.bool true) := eq_nil_nil Try.underlying24
theorem nnn24 : binA Try.prog .neq 24 .nilslice .nilslice = some (.bool false) := ne_nil_nil Try.underlying24
theorem cp24 : ∀ {p : AAddr} {n : Nat} {c : Cap} {x : AV} {H : AH}, copyA Try.prog 24 (.slice p n c) x H = (newsA H 1 x).bind fun kn => if p.ro = false ∧ (H.cells? p.blk).isSome then (storeCellsA H p.blk p.off (kn.2.take (min kn.1 n * 1))).map fun H1 => (.int .i64 (min kn.1 n : Nat), H1) else none := copy_slice Try.underlying24 sz40
theorem cn24 : ∀ {x : AV} {H : AH}, copyA Try.prog 24 .nilslice x H = (newsA H 1 x).bind fun kn => some (.int .i64 0, H) := copy_nil Try.underlying24 sz40
theorem mk24 : ∀ {k k1 : IntKind} {a b : Int} {H : AH}, makeSliceA Try.prog 24 (.int k a) (.int k1 b) H = gd (0 ≤ a ∧ a ≤ b ∧ b ≤ 140737488355328 ∧ b * (24 : Nat) ≤ 140737488355328) (some (.slice ⟨false, H.n, 0⟩ a.toNat (.known b.toNat), H.push (some (.cells (repA ([.nilslice]) b.toNat))))) := make_slice Try.underlying24 sz40 by40 ze40 ⟨by simp, by decide⟩
theorem bs24 : ∀ {len : Nat} {parts : List (Nat × AV)} {H : AH}, len * 1 ≤ 16777216 → buildSliceA Try.prog 24 len parts H = (fillA (fun i => some (i * 1, 1)) (zerosL ([.nilslice]) len) parts).map fun cells => (.slice ⟨false, H.n, 0⟩ len (.known len), H.push (some (.cells cells))) := fun h => build_lit Try.underlying24 sz40 ze40 ⟨by simp, by decide⟩ h
theorem ap24 : ∀ {s x : AV} {H : AH}, appendA Try.prog 24 24 s x H = (newsA H 1 x).bind fun kn => if kn.2.all oneA = true then appendTo 1 24 H kn.1 kn.2 s else none := app_slice Try.underlying24 sz40 by40 ze40 ⟨by simp, by decide⟩
theorem ai24_3 : ∀ {s : AV} {l : Int} {H : AH}, appendA Try.prog 24 3 s (.int .i64 l) H = gd (0 ≤ l ∧ l ≤ 140737488355328) (gdb ((repA ([.nilslice]) l.toNat).all oneA) (appendTo 1 24 H l.toNat (repA ([.nilslice]) l.toNat) s)) := app_int Try.underlying24 sz40 by40 ze40 ⟨by simp, by decide⟩ Try.underlying3
theorem ld25 : ∀ {p : AAddr} {H : AH}, loadA Try.prog 25 p H = (H.get p).bind fun cs => cs[p.off]? := load_cell ag25
theorem pt25 : ∀ {cs : List AV} {o : Nat}, partA Try.prog 25 cs o = cs[o]? := part_cell ag25
theorem st25_0 : ∀ {a : AAddr} {n : Nat} {c : Cap} {H : AH} {i o : Nat}, storeA Try.prog 25 ⟨false, i, o⟩ (.slice a n c) H = (H.cells? i).bind fun l => gd (o < l.length) (some (H.set i (some (.cells (l.set o (.slice a n c)))))) := store_cell sz25 rfl
theorem st25_1 : ∀  {H : AH} {i o : Nat}, storeA Try.prog 25 ⟨false, i, o⟩ .nilslice H = (H.cells? i).bind fun l => gd (o < l.length) (some (H.set i (some (.cells (l.set o .nilslice))))) := store_cell sz25 rfl
theorem ifc25 : ∀ {v : AV}, ifaceA Try.prog 25 v = some (.iface 25 v) := iface_of Try.underlying25 rfl
theorem ass25 : ∀ {ok : Bool} {v : AV}, assertA Try.prog 25 ok v = assertV (zeroV Try.prog 25) 25 ok v := assert_of Try.underlying25 rfl
theorem ll25 : ∀ {p : AAddr} {n : Nat} {c : Cap}, lenA Try.prog 25 (.slice p n c) = some (.int .i64 n) := len_slice Try.underlying25
theorem ln25 : lenA Try.prog 25 .nilslice = some (.int .i64 0) := len_nil Try.underlying25
theorem ia25 : ∀ {p : AAddr} {n : Nat} {c : Cap} {k : IntKind} {a : Int}, indexAddrA Try.prog 25 (.slice p n c) (.int k a) = gd (0 ≤ a ∧ a < n) (some (.ptr ⟨p.ro, p.blk, p.off + a.toNat * 1⟩)) := ixa_slice Try.underlying25 sz40
theorem sk25 : ∀ {p : AAddr} {n c : Nat} {lo hi mx : Option AV}, sliceOpA Try.prog 25 (.slice p n (.known c)) lo hi mx = cutKnown p 1 n c lo hi mx := slc_known Try.underlying25 sz40
theorem sg25 : ∀ {p : AAddr} {n : Nat} {lo hi : Option AV}, sliceOpA Try.prog 25 (.slice p n (.grow 1)) lo hi none = if p.ro = false then (optB hi n n).bind fun h => (optB lo h 0).map fun l => .slice ⟨false, p.blk, p.off + l * 1⟩ (h - l) (.grow 1) else none := slc_grow Try.underlying25 sz40
theorem sn25 : ∀ {lo hi : Option AV}, sliceOpA Try.prog 25 .nilslice lo hi none = (optB hi 0 0).bind fun h => (optB lo h 0).map fun _ => .nilslice := slc_nil Try.underlying25 sz40
theorem ens25 : ∀ {p : AAddr} {n : Nat} {c : Cap}, binA Try.prog .eql 25 (.slice p n c) .nilslice = if sureSlice n c then some (.bool false) else none := eq_nil_slice Try.underlying25
theorem nns25 : ∀ {p : AAddr} {n : Nat} {c : Cap}, binA Try.prog .neq 25 (.slice p n c) .nilslice = if sureSlice n c then some (.bool true) else none := ne_nil_slice Try.underlying25
theorem enn25 : binA Try.prog .eql 25 .nilslice .nilslice = some (.bool true) := eq_nil_nil Try.underlying25
theorem nnn25 : binA Try.prog .neq 25 .nilslice .nilslice = some (.bool false) := ne_nil_nil Try.underlying25
theorem cp25 : ∀ {p : AAddr} {n : Nat} {c : Cap} {x : AV} {H : AH}, copyA Try.prog 25 (.slice p n c) x H = (newsA H 1 x).bind fun kn => if p.ro = false ∧ (H.cells? p.blk).isSome then (storeCellsA H p.blk p.off (kn.2.take (min kn.1 n * 1))).map fun H1 => (.int .i64 (min kn.1 n : Nat), H1) else none := copy_slice Try.underlying25 sz40
theorem cn25 : ∀ {x : AV} {H : AH}, copyA Try.prog 25 .nilslice x H = (newsA H 1 x).bind fun kn => some (.int .i64 0, H) := copy_nil Try.underlying25 sz40
theorem mk25 : ∀ {k k1 : IntKind} {a b : Int} {H : AH}, makeSliceA Try.prog 25 (.int k a) (.int k1 b) H = gd (0 ≤ a ∧ a ≤ b ∧ b ≤ 140737488355328 ∧ b * (24 : Nat) ≤ 140737488355328) (some (.slice ⟨false, H.n, 0⟩ a.toNat (.known b.toNat), H.push (some (.cells (repA ([.nilslice]) b.toNat))))) := make_slice Try.underlying25 sz40 by40 ze40 ⟨by simp, by decide⟩
theorem bs25 : ∀ {len : Nat} {parts : List (Nat × AV)} {H : AH}, len * 1 ≤ 16777216 → buildSliceA Try.prog 25 len parts H = (fillA (fun i => some (i * 1, 1)) (zerosL ([.nilslice]) len) parts).map fun cells => (.slice ⟨false, H.n, 0⟩ len (.known len), H.push (some (.cells cells))) := fun h => build_lit Try.underlying25 sz40 ze40 ⟨by simp, by decide⟩ h
theorem ap25 : ∀ {s x : AV} {H : AH}, appendA Try.prog 25 25 s x H = (newsA H 1 x).bind fun kn => if kn.2.all oneA = true then appendTo 1 24 H kn.1 kn.2 s else none := app_slice Try.underlying25 sz40 by40 ze40 ⟨by simp, by decide⟩
theorem ai25_3 : ∀ {s : AV} {l : Int} {H : AH}, appendA Try.prog 25 3 s (.int .i64 l) H = gd (0 ≤ l ∧ l ≤ 140737488355328) (gdb ((repA ([.nilslice]) l.toNat).all oneA) (appendTo 1 24 H l.toNat (repA ([.nilslice]) l.toNat) s)) := app_int Try.underlying25 sz40 by40 ze40 ⟨by simp, by decide⟩ Try.underlying3
theorem ld26 : ∀ {p : AAddr} {H : AH}, loadA Try.prog 26 p H = (H.get p).bind fun cs => cs[p.off]? := load_cell ag26
theorem pt26 : ∀ {cs : List AV} {o : Nat}, partA Try.prog 26 cs o = cs[o]? := part_cell ag26
theorem st26_0 : ∀ {k : IntKind} {a : Int} {H : AH} {i o : Nat}, storeA Try.prog 26 ⟨false, i, o⟩ (.int k a) H = (H.cells? i).bind fun l => gd (o < l.length) (some (H.set i (some (.cells (l.set o (.int k a)))))) := store_cell sz26 rfl
theorem st26_1 : ∀ {a : UInt8} {H : AH} {i o : Nat}, storeA Try.prog 26 ⟨false, i, o⟩ (bv a) H = (H.cells? i).bind fun l => gd (o < l.length) (some (H.set i (some (.cells (l.set o (bv a)))))) := store_cell sz26 rfl
theorem ifc26 : ∀ {v : AV}, ifaceA Try.prog 26 v = some (.iface 26 v) := iface_of Try.underlying26 rfl
theorem ass26 : ∀ {ok : Bool} {v : AV}, assertA Try.prog 26 ok v = assertV (zeroV Try.prog 26) 26 ok v := assert_of Try.underlying26 rfl
theorem cv2_26 : ∀ {k : IntKind} {a : Int} {H : AH}, convertA Try.prog 2 26 (.int k a) H = some (.int .i64 (IntKind.i64.wrap a), H) := conv_int Try.underlying26 (by rw [Try.underlying2]; rfl)
theorem cv3_26 : ∀ {k : IntKind} {a : Int} {H : AH}, convertA Try.prog 3 26 (.int k a) H = some (.int .i64 (IntKind.i64.wrap a), H) := conv_int Try.underlying26 (by rw [Try.underlying3]; rfl)
theorem cv5_26 : ∀ {k : IntKind} {a : Int} {H : AH}, convertA Try.prog 5 26 (.int k a) H = some (.int .i64 (IntKind.i64.wrap a), H) := conv_int Try.underlying26 (by rw [Try.underlying5]; rfl)
theorem cv12_26 : ∀ {k : IntKind} {a : Int} {H : AH}, convertA Try.prog 12 26 (.int k a) H = some (.int .i64 (IntKind.i64.wrap a), H) := conv_int Try.underlying26 (by rw [Try.underlying12]; rfl)
theorem cv21_26 : ∀ {k : IntKind} {a : Int} {H : AH}, convertA Try.prog 21 26 (.int k a) H = some (.int .i64 (IntKind.i64.wrap a), H) := conv_int Try.underlying26 (by rw [Try.underlying21]; rfl)
theorem cv26_26 : ∀ {k : IntKind} {a : Int} {H : AH}, convertA Try.prog 26 26 (.int k a) H = some (.int .i64 (IntKind.i64.wrap a), H) := conv_int Try.underlying26 (by rw [Try.underlying26]; rfl)
theorem cv70_26 : ∀ {k : IntKind} {a : Int} {H : AH}, convertA Try.prog 70 26 (.int k a) H = some (.int .i64 (IntKind.i64.wrap a), H) := conv_int Try.underlying26 (by rw [Try.underlying70]; rfl)
theorem cv99_26 : ∀ {k : IntKind} {a : Int} {H : AH}, convertA Try.prog 99 26 (.int k a) H = some (.int .i64 (IntKind.i64.wrap a), H) := conv_int Try.underlying26 (by rw [Try.underlying99]; rfl)
theorem ld32 : ∀ {p : AAddr} {H : AH}, loadA Try.prog 32 p H = (H.get p).bind fun cs => cs[p.off]? := load_cell ag32
theorem pt32 : ∀ {cs : List AV} {o : Nat}, partA Try.prog 32 cs o = cs[o]? := part_cell ag32
theorem st32_0 : ∀ {a : AAddr} {n : Nat} {c : Cap} {H : AH} {i o : Nat}, storeA Try.prog 32 ⟨false, i, o⟩ (.slice a n c) H = (H.cells? i).bind fun l => gd (o < l.length) (some (H.set i (some (.cells (l.set o (.slice a n c)))))) := store_cell sz32 rfl
theorem st32_1 : ∀  {H : AH} {i o : Nat}, storeA Try.prog 32 ⟨false, i, o⟩ .nilslice H = (H.cells? i).bind fun l => gd (o < l.length) (some (H.set i (some (.cells (l.set o .nilslice))))) := store_cell sz32 rfl
theorem ifc32 : ∀ {v : AV}, ifaceA Try.prog 32 v = some (.iface 32 v) := iface_of Try.underlying32 rfl
theorem ass32 : ∀ {ok : Bool} {v : AV}, assertA Try.prog 32 ok v = assertV (zeroV Try.prog 32) 32 ok v := assert_of Try.underlying32 rfl
theorem ll32 : ∀ {p : AAddr} {n : Nat} {c : Cap}, lenA Try.prog 32 (.slice p n c) = some (.int .i64 n) := len_slice Try.underlying32
theorem ln32 : lenA Try.prog 32 .nilslice = some (.int .i64 0) := len_nil Try.underlying32
theorem ia32 : ∀ {p : AAddr} {n : Nat} {c : Cap} {k : IntKind} {a : Int}, indexAddrA Try.prog 32 (.slice p n c) (.int k a) = gd (0 ≤ a ∧ a < n) (some (.ptr ⟨p.ro, p.blk, p.off + a.toNat * 1⟩)) := ixa_slice Try.underlying32 sz3
theorem sk32 : ∀ {p : AAddr} {n c : Nat} {lo hi mx : Option AV}, sliceOpA Try.prog 32 (.slice p n (.known c)) lo hi mx = cutKnown p 1 n c lo hi mx := slc_known Try.underlying32 sz3
theorem sg32 : ∀ {p : AAddr} {n : Nat} {lo hi : Option AV}, sliceOpA Try.prog 32 (.slice p n (.grow 1)) lo hi none = if p.ro = false then (optB hi n n).bind fun h => (optB lo h 0).map fun l => .slice ⟨false, p.blk, p.off + l * 1⟩ (h - l) (.grow 1) else none := slc_grow Try.underlying32 sz3
theorem sn32 : ∀ {lo hi : Option AV}, sliceOpA Try.prog 32 .nilslice lo hi none = (optB hi 0 0).bind fun h => (optB lo h 0).map fun _ => .nilslice := slc_nil Try.underlying32 sz3
theorem ens32 : ∀ {p : AAddr} {n : Nat} {c : Cap}, binA Try.prog .eql 32 (.slice p n c) .nilslice = if sureSlice n c then some (.bool false) else none := eq_nil_slice Try.underlying32
theorem nns32 : ∀ {p : AAddr} {n : Nat} {c : Cap}, binA Try.prog .neq 32 (.slice p n c) .nilslice = if sureSlice n c then some (.bool true) else none := ne_nil_slice Try.underlying32
theorem enn32 : binA Try.prog .eql 32 .nilslice .nilslice = some (.bool true) := eq_nil_nil Try.underlying32
theorem nnn32 : binA Try.prog .neq 32 .nilslice .nilslice = some (.bool false) := ne_nil_nil Try.underlying32
theorem cp32 : ∀ {p : AAddr} {n : Nat} {c : Cap} {x : AV} {H : AH}, copyA Try.prog 32 (.slice p n c) x H = (newsA H 1 x).bind fun kn => if p.ro = false ∧ (H.cells? p.blk).isSome then (storeCellsA H p.blk p.off (kn.2.take (min kn.1 n * 1))).map fun H1 => (.int .i64 (min kn.1 n : Nat), H1) else none := copy_slice Try.underlying32 sz3
theorem cn32 : ∀ {x : AV} {H : AH}, copyA Try.prog 32 .nilslice x H = (newsA H 1 x).bind fun kn => some (.int .i64 0, H) := copy_nil Try.underlying32 sz3
theorem mk32 : ∀ {k k1 : IntKind} {a b : Int} {H : AH}, makeSliceA Try.prog 32 (.int k a) (.int k1 b) H = gd (0 ≤ a ∧ a ≤ b ∧ b ≤ 140737488355328 ∧ b * (8 : Nat) ≤ 140737488355328) (some (.slice ⟨false, H.n, 0⟩ a.toNat (.known b.toNat), H.push (some (.cells (repA ([.int .i64 0]) b.toNat))))) := make_slice Try.underlying32 sz3 by3 ze3 ⟨by simp, by decide⟩
theorem bs32 : ∀ {len : Nat} {parts : List (Nat × AV)} {H : AH}, len * 1 ≤ 16777216 → buildSliceA Try.prog 32 len parts H = (fillA (fun i => some (i * 1, 1)) (zerosL ([.int .i64 0]) len) parts).map fun cells => (.slice ⟨false, H.n, 0⟩ len (.known len), H.push (some (.cells cells))) := fun h => build_lit Try.underlying32 sz3 ze3 ⟨by simp, by decide⟩ h
theorem ap32 : ∀ {s x : AV} {H : AH}, appendA Try.prog 32 32 s x H = (newsA H 1 x).bind fun kn => if kn.2.all oneA = true then appendTo 1 8 H kn.1 kn.2 s else none := app_slice Try.underlying32 sz3 by3 ze3 ⟨by simp, by decide⟩
theorem ai32_3 : ∀ {s : AV} {l : Int} {H : AH}, appendA Try.prog 32 3 s (.int .i64 l) H = gd (0 ≤ l ∧ l ≤ 140737488355328) (gdb ((repA ([.int .i64 0]) l.toNat).all oneA) (appendTo 1 8 H l.toNat (repA ([.int .i64 0]) l.toNat) s)) := app_int Try.underlying32 sz3 by3 ze3 ⟨by simp, by decide⟩ Try.underlying3
theorem ld33 : ∀ {p : AAddr} {H : AH}, loadA Try.prog 33 p H = (H.get p).bind fun cs => gd (p.off + 4 ≤ cs.length) (some (.agg ((cs.drop p.off).take 4))) := load_agg ag33 sz33
theorem pt33 : ∀ {cs : List AV} {o : Nat}, partA Try.prog 33 cs o = gd (o + 4 ≤ cs.length) (some (.agg ((cs.drop o).take 4))) := part_agg ag33 sz33
theorem ifc33 : ∀ {v : AV}, ifaceA Try.prog 33 v = some (.iface 33 v) := iface_of Try.underlying33 rfl
theorem ass33 : ∀ {ok : Bool} {v : AV}, assertA Try.prog 33 ok v = assertV (zeroV Try.prog 33) 33 ok v := assert_of Try.underlying33 rfl
theorem sta33 : ∀ {vs : List AV} {H : AH} {i o : Nat}, storeA Try.prog 33 ⟨false, i, o⟩ (.agg vs) H = gd (vs.length = 4) (gdb (vs.all oneA) ((H.cells? i).bind fun l0 => gd (o + 4 ≤ l0.length) (some (H.set i (some (.cells (putL l0 o vs))))))) := store_aggs (n := 3) sz33
theorem fa33_0 : ∀ {p : AAddr}, fieldAddrA Try.prog 33 (.ptr p) 0 = some (.ptr ⟨p.ro, p.blk, p.off + 0⟩) := fa_struct Try.underlying33 (ft := 3) (o := 0) rfl (m := 0) sz3
theorem fl33_0 : ∀ {cs : List AV}, fieldA Try.prog 33 (.agg cs) 0 = partA Try.prog 3 cs 0 := fl_struct Try.underlying33 (ft := 3) (o := 0) rfl
theorem fa33_1 : ∀ {p : AAddr}, fieldAddrA Try.prog 33 (.ptr p) 1 = some (.ptr ⟨p.ro, p.blk, p.off + 1⟩) := fa_struct Try.underlying33 (ft := 3) (o := 1) rfl (m := 0) sz3
theorem fl33_1 : ∀ {cs : List AV}, fieldA Try.prog 33 (.agg cs) 1 = partA Try.prog 3 cs 1 := fl_struct Try.underlying33 (ft := 3) (o := 1) rfl
theorem fa33_2 : ∀ {p : AAddr}, fieldAddrA Try.prog 33 (.ptr p) 2 = some (.ptr ⟨p.ro, p.blk, p.off + 2⟩) := fa_struct Try.underlying33 (ft := 32) (o := 2) rfl (m := 0) sz32
theorem fl33_2 : ∀ {cs : List AV}, fieldA Try.prog 33 (.agg cs) 2 = partA Try.prog 32 cs 2 := fl_struct Try.underlying33 (ft := 32) (o := 2) rfl
theorem fa33_3 : ∀ {p : AAddr}, fieldAddrA Try.prog 33 (.ptr p) 3 = some (.ptr ⟨p.ro, p.blk, p.off + 3⟩) := fa_struct Try.underlying33 (ft := 24) (o := 3) rfl (m := 0) sz24
theorem fl33_3 : ∀ {cs : List AV}, fieldA Try.prog 33 (.agg cs) 3 = partA Try.prog 24 cs 3 := fl_struct Try.underlying33 (ft := 24) (o := 3) rfl
theorem ld34 : ∀ {p : AAddr} {H : AH}, loadA Try.prog 34 p H = (H.get p).bind fun cs => gd (p.off + 4 ≤ cs.length) (some (.agg ((cs.drop p.off).take 4))) := load_agg ag34 sz34
theorem pt34 : ∀ {cs : List AV} {o : Nat}, partA Try.prog 34 cs o = gd (o + 4 ≤ cs.length) (some (.agg ((cs.drop o).take 4))) := part_agg ag34 sz34
theorem ifc34 : ∀ {v : AV}, ifaceA Try.prog 34 v = some (.iface 34 v) := iface_of Try.underlying34 rfl
theorem ass34 : ∀ {ok : Bool} {v : AV}, assertA Try.prog 34 ok v = assertV (zeroV Try.prog 34) 34 ok v := assert_of Try.underlying34 rfl
theorem sta34 : ∀ {vs : List AV} {H : AH} {i o : Nat}, storeA Try.prog 34 ⟨false, i, o⟩ (.agg vs) H = gd (vs.length = 4) (gdb (vs.all oneA) ((H.cells? i).bind fun l0 => gd (o + 4 ≤ l0.length) (some (H.set i (some (.cells (putL l0 o vs))))))) := store_aggs (n := 3) sz34
theorem fa34_0 : ∀ {p : AAddr}, fieldAddrA Try.prog 34 (.ptr p) 0 = some (.ptr ⟨p.ro, p.blk, p.off + 0⟩) := fa_struct Try.underlying34 (ft := 3) (o := 0) rfl (m := 0) sz3
theorem fl34_0 : ∀ {cs : List AV}, fieldA Try.prog 34 (.agg cs) 0 = partA Try.prog 3 cs 0 := fl_struct Try.underlying34 (ft := 3) (o := 0) rfl
theorem fa34_1 : ∀ {p : AAddr}, fieldAddrA Try.prog 34 (.ptr p) 1 = some (.ptr ⟨p.ro, p.blk, p.off + 1⟩) := fa_struct Try.underlying34 (ft := 3) (o := 1) rfl (m := 0) sz3
theorem fl34_1 : ∀ {cs : List AV}, fieldA Try.prog 34 (.agg cs) 1 = partA Try.prog 3 cs 1 := fl_struct Try.underlying34 (ft := 3) (o := 1) rfl
theorem fa34_2 : ∀ {p : AAddr}, fieldAddrA Try.prog 34 (.ptr p) 2 = some (.ptr ⟨p.ro, p.blk, p.off + 2⟩) := fa_struct Try.underlying34 (ft := 32) (o := 2) rfl (m := 0) sz32
theorem fl34_2 : ∀ {cs : List AV}, fieldA Try.prog 34 (.agg cs) 2 = partA Try.prog 32 cs 2 := fl_struct Try.underlying34 (ft := 32) (o := 2) rfl
theorem fa34_3 : ∀ {p : AAddr}, fieldAddrA Try.prog 34 (.ptr p) 3 = some (.ptr ⟨p.ro, p.blk, p.off + 3⟩) := fa_struct Try.underlying34 (ft := 24) (o := 3) rfl (m := 0) sz24
theorem fl34_3 : ∀ {cs : List AV}, fieldA Try.prog 34 (.agg cs) 3 = partA Try.prog 24 cs 3 := fl_struct Try.underlying34 (ft := 24) (o := 3) rfl
theorem ld40 : ∀ {p : AAddr} {H : AH}, loadA Try.prog 40 p H = (H.get p).bind fun cs => cs[p.off]? := load_cell ag40
theorem pt40 : ∀ {cs : List AV} {o : Nat}, partA Try.prog 40 cs o = cs[o]? := part_cell ag40
theorem st40_0 : ∀ {a : AAddr} {n : Nat} {c : Cap} {H : AH} {i o : Nat}, storeA Try.prog 40 ⟨false, i, o⟩ (.slice a n c) H = (H.cells? i).bind fun l => gd (o < l.length) (some (H.set i (some (.cells (l.set o (.slice a n c)))))) := store_cell sz40 rfl
theorem st40_1 : ∀  {H : AH} {i o : Nat}, storeA Try.prog 40 ⟨false, i, o⟩ .nilslice H = (H.cells? i).bind fun l => gd (o < l.length) (some (H.set i (some (.cells (l.set o .nilslice))))) := store_cell sz40 rfl
theorem ifc40 : ∀ {v : AV}, ifaceA Try.prog 40 v = some (.iface 40 v) := iface_of Try.underlying40 rfl
theorem ass40 : ∀ {ok : Bool} {v : AV}, assertA Try.prog 40 ok v = assertV (zeroV Try.prog 40) 40 ok v := assert_of Try.underlying40 rfl
theorem ll40 : ∀ {p : AAddr} {n : Nat} {c : Cap}, lenA Try.prog 40 (.slice p n c) = some (.int .i64 n) := len_slice Try.underlying40
theorem ln40 : lenA Try.prog 40 .nilslice = some (.int .i64 0) := len_nil Try.underlying40
theorem ia40 : ∀ {p : AAddr} {n : Nat} {c : Cap} {k : IntKind} {a : Int}, indexAddrA Try.prog 40 (.slice p n c) (.int k a) = gd (0 ≤ a ∧ a < n) (some (.ptr ⟨p.ro, p.blk, p.off + a.toNat * 1⟩)) := ixa_slice Try.underlying40 sz5
theorem sk40 : ∀ {p : AAddr} {n c : Nat} {lo hi mx : Option AV}, sliceOpA Try.prog 40 (.slice p n (.known c)) lo hi mx = cutKnown p 1 n c lo hi mx := slc_known Try.underlying40 sz5
theorem sg40 : ∀ {p : AAddr} {n : Nat} {lo hi : Option AV}, sliceOpA Try.prog 40 (.slice p n (.grow 1)) lo hi none = if p.ro = false then (optB hi n n).bind fun h => (optB lo h 0).map fun l => .slice ⟨false, p.blk, p.off + l * 1⟩ (h - l) (.grow 1) else none := slc_grow Try.underlying40 sz5
theorem sn40 : ∀ {lo hi : Option AV}, sliceOpA Try.prog 40 .nilslice lo hi none = (optB hi 0 0).bind fun h => (optB lo h 0).map fun _ => .nilslice := slc_nil Try.underlying40 sz5
theorem ens40 : ∀ {p : AAddr} {n : Nat} {c : Cap}, binA Try.prog .eql 40 (.slice p n c) .nilslice = if sureSlice n c then some (.bool false) else none := eq_nil_slice Try.underlying40
theorem nns40 : ∀ {p : AAddr} {n : Nat} {c : Cap}, binA Try.prog .neq 40 (.slice p n c) .nilslice = if sureSlice n c then some (.bool true) else none := ne_nil_slice Try.underlying40
theorem enn40 : binA Try.prog .eql 40 .nilslice .nilslice = some (.bool true) := eq_nil_nil Try.underlying40
theorem nnn40 : binA Try.prog .neq 40 .nilslice .nilslice = some (.bool false) := ne_nil_nil Try.underlying40
theorem cp40 : ∀ {p : AAddr} {n : Nat} {c : Cap} {x : AV} {H : AH}, copyA Try.prog 40 (.slice p n c) x H = (newsA H 1 x).bind fun kn => if p.ro = false ∧ (H.cells? p.blk).isSome then (storeCellsA H p.blk p.off (kn.2.take (min kn.1 n * 1))).map fun H1 => (.int .i64 (min kn.1 n : Nat), H1) else none := copy_slice Try.underlying40 sz5
theorem cn40 : ∀ {x : AV} {H : AH}, copyA Try.prog 40 .nilslice x H = (newsA H 1 x).bind fun kn => some (.int .i64 0, H) := copy_nil Try.underlying40 sz5
theorem mk40 : ∀ {k k1 : IntKind} {a b : Int} {H : AH}, makeSliceA Try.prog 40 (.int k a) (.int k1 b) H = gd (0 ≤ a ∧ a ≤ b ∧ b ≤ 140737488355328 ∧ b * (1 : Nat) ≤ 140737488355328) (some (.slice ⟨false, H.n, 0⟩ a.toNat (.known b.toNat), H.push (some (.cells (repA ([.int .u8 0]) b.toNat))))) := make_slice Try.underlying40 sz5 by5 ze5 ⟨by simp, by decide⟩
theorem bs40 : ∀ {len : Nat} {parts : List (Nat × AV)} {H : AH}, len * 1 ≤ 16777216 → buildSliceA Try.prog 40 len parts H = (fillA (fun i => some (i * 1, 1)) (zerosL ([.int .u8 0]) len) parts).map fun cells => (.slice ⟨false, H.n, 0⟩ len (.known len), H.push (some (.cells cells))) := fun h => build_lit Try.underlying40 sz5 ze5 ⟨by simp, by decide⟩ h
theorem ap40 : ∀ {s x : AV} {H : AH}, appendA Try.prog 40 40 s x H = (newsA H 1 x).bind fun kn => if kn.2.all oneA = true then appendTo 1 1 H kn.1 kn.2 s else none := app_slice Try.underlying40 sz5 by5 ze5 ⟨by simp, by decide⟩
theorem ai40_3 : ∀ {s : AV} {l : Int} {H : AH}, appendA Try.prog 40 3 s (.int .i64 l) H = gd (0 ≤ l ∧ l ≤ 140737488355328) (gdb ((repA ([.int .u8 0]) l.toNat).all oneA) (appendTo 1 1 H l.toNat (repA ([.int .u8 0]) l.toNat) s)) := app_int Try.underlying40 sz5 by5 ze5 ⟨by simp, by decide⟩ Try.underlying3
theorem aq40_9 : ∀ {s x : AV} {H : AH}, appendA Try.prog 40 9 s x H = (newsA H 1 x).bind fun kn => if kn.2.all oneA = true then appendTo 1 1 H kn.1 kn.2 s else none := app_str Try.underlying40 sz5 by5 ze5 ⟨by simp, by decide⟩ Try.underlying9
theorem tx40_9 : ∀ {p : AAddr} {n : Nat} {c : Cap} {H : AH}, convertA Try.prog 40 9 (.slice p n c) H = (rowA H 1 (.slice p n c)).bind fun cs => (bytesOfA cs).map fun bs => (.str ⟨bs.toArray⟩, H) := conv_text Try.underlying40 Try.underlying9 Try.underlying5
theorem tn40_9 : ∀ {H : AH}, convertA Try.prog 40 9 .nilslice H = some (.str ⟨#[]⟩, H) := conv_text_nil Try.underlying40 Try.underlying9 Try.underlying5
theorem ld42 : ∀ {p : AAddr} {H : AH}, loadA Try.prog 42 p H = (H.get p).bind fun cs => gd (p.off + 5 ≤ cs.length) (some (.agg ((cs.drop p.off).take 5))) := load_agg ag42 sz42
theorem pt42 : ∀ {cs : List AV} {o : Nat}, partA Try.prog 42 cs o = gd (o + 5 ≤ cs.length) (some (.agg ((cs.drop o).take 5))) := part_agg ag42 sz42
theorem ifc42 : ∀ {v : AV}, ifaceA Try.prog 42 v = some (.iface 42 v) := iface_of Try.underlying42 rfl
theorem ass42 : ∀ {ok : Bool} {v : AV}, assertA Try.prog 42 ok v = assertV (zeroV Try.prog 42) 42 ok v := assert_of Try.underlying42 rfl
theorem sta42 : ∀ {vs : List AV} {H : AH} {i o : Nat}, storeA Try.prog 42 ⟨false, i, o⟩ (.agg vs) H = gd (vs.length = 5) (gdb (vs.all oneA) ((H.cells? i).bind fun l0 => gd (o + 5 ≤ l0.length) (some (H.set i (some (.cells (putL l0 o vs))))))) := store_aggs (n := 4) sz42
theorem fa42_0 : ∀ {p : AAddr}, fieldAddrA Try.prog 42 (.ptr p) 0 = some (.ptr ⟨p.ro, p.blk, p.off + 0⟩) := fa_struct Try.underlying42 (ft := 5) (o := 0) rfl (m := 0) sz5
theorem fl42_0 : ∀ {cs : List AV}, fieldA Try.prog 42 (.agg cs) 0 = partA Try.prog 5 cs 0 := fl_struct Try.underlying42 (ft := 5) (o := 0) rfl
theorem fa42_1 : ∀ {p : AAddr}, fieldAddrA Try.prog 42 (.ptr p) 1 = some (.ptr ⟨p.ro, p.blk, p.off + 1⟩) := fa_struct Try.underlying42 (ft := 5) (o := 1) rfl (m := 0) sz5
theorem fl42_1 : ∀ {cs : List AV}, fieldA Try.prog 42 (.agg cs) 1 = partA Try.prog 5 cs 1 := fl_struct Try.underlying42 (ft := 5) (o := 1) rfl
theorem fa42_2 : ∀ {p : AAddr}, fieldAddrA Try.prog 42 (.ptr p) 2 = some (.ptr ⟨p.ro, p.blk, p.off + 2⟩) := fa_struct Try.underlying42 (ft := 5) (o := 2) rfl (m := 0) sz5
theorem fl42_2 : ∀ {cs : List AV}, fieldA Try.prog 42 (.agg cs) 2 = partA Try.prog 5 cs 2 := fl_struct Try.underlying42 (ft := 5) (o := 2) rfl
theorem fa42_3 : ∀ {p : AAddr}, fieldAddrA Try.prog 42 (.ptr p) 3 = some (.ptr ⟨p.ro, p.blk, p.off + 3⟩) := fa_struct Try.underlying42 (ft := 40) (o := 3) rfl (m := 0) sz40
theorem fl42_3 : ∀ {cs : List AV}, fieldA Try.prog 42 (.agg cs) 3 = partA Try.prog 40 cs 3 := fl_struct Try.underlying42 (ft := 40) (o := 3) rfl
theorem fa42_4 : ∀ {p : AAddr}, fieldAddrA Try.prog 42 (.ptr p) 4 = some (.ptr ⟨p.ro, p.blk, p.off + 4⟩) := fa_struct Try.underlying42 (ft := 40) (o := 4) rfl (m := 0) sz40
theorem fl42_4 : ∀ {cs : List AV}, fieldA Try.prog 42 (.agg cs) 4 = partA Try.prog 40 cs 4 := fl_struct Try.underlying42 (ft := 40) (o := 4) rfl
theorem ld43 : ∀ {p : AAddr} {H : AH}, loadA Try.prog 43 p H = (H.get p).bind fun cs => gd (p.off + 5 ≤ cs.length) (some (.agg ((cs.drop p.off).take 5))) := load_agg ag43 sz43
theorem pt43 : ∀ {cs : List AV} {o : Nat}, partA Try.prog 43 cs o = gd (o + 5 ≤ cs.length) (some (.agg ((cs.drop o).take 5))) := part_agg ag43 sz43
theorem ifc43 : ∀ {v : AV}, ifaceA Try.prog 43 v = some (.iface 43 v) := iface_of Try.underlying43 rfl
theorem ass43 : ∀ {ok : Bool} {v : AV}, assertA Try.prog 43 ok v = assertV (zeroV Try.prog 43) 43 ok v := assert_of Try.underlying43 rfl
theorem sta43 : ∀ {vs : List AV} {H : AH} {i o : Nat}, storeA Try.prog 43 ⟨false, i, o⟩ (.agg vs) H = gd (vs.length = 5) (gdb (vs.all oneA) ((H.cells? i).bind fun l0 => gd (o + 5 ≤ l0.length) (some (H.set i (some (.cells (putL l0 o vs))))))) := store_aggs (n := 4) sz43
theorem fa43_0 : ∀ {p : AAddr}, fieldAddrA Try.prog 43 (.ptr p) 0 = some (.ptr ⟨p.ro, p.blk, p.off + 0⟩) := fa_struct Try.underlying43 (ft := 5) (o := 0) rfl (m := 0) sz5
theorem fl43_0 : ∀ {cs : List AV}, fieldA Try.prog 43 (.agg cs) 0 = partA Try.prog 5 cs 0 := fl_struct Try.underlying43 (ft := 5) (o := 0) rfl
theorem fa43_1 : ∀ {p : AAddr}, fieldAddrA Try.prog 43 (.ptr p) 1 = some (.ptr ⟨p.ro, p.blk, p.off + 1⟩) := fa_struct Try.underlying43 (ft := 5) (o := 1) rfl (m := 0) sz5
theorem fl43_1 : ∀ {cs : List AV}, fieldA Try.prog 43 (.agg cs) 1 = partA Try.prog 5 cs 1 := fl_struct Try.underlying43 (ft := 5) (o := 1) rfl
theorem fa43_2 : ∀ {p : AAddr}, fieldAddrA Try.prog 43 (.ptr p) 2 = some (.ptr ⟨p.ro, p.blk, p.off + 2⟩) := fa_struct Try.underlying43 (ft := 5) (o := 2) rfl (m := 0) sz5
theorem fl43_2 : ∀ {cs : List AV}, fieldA Try.prog 43 (.agg cs) 2 = partA Try.prog 5 cs 2 := fl_struct Try.underlying43 (ft := 5) (o := 2) rfl
theorem fa43_3 : ∀ {p : AAddr}, fieldAddrA Try.prog 43 (.ptr p) 3 = some (.ptr ⟨p.ro, p.blk, p.off + 3⟩) := fa_struct Try.underlying43 (ft := 40) (o := 3) rfl (m := 0) sz40
theorem fl43_3 : ∀ {cs : List AV}, fieldA Try.prog 43 (.agg cs) 3 = partA Try.prog 40 cs 3 := fl_struct Try.underlying43 (ft := 40) (o := 3) rfl
theorem fa43_4 : ∀ {p : AAddr}, fieldAddrA Try.prog 43 (.ptr p) 4 = some (.ptr ⟨p.ro, p.blk, p.off + 4⟩) := fa_struct Try.underlying43 (ft := 40) (o := 4) rfl (m := 0) sz40
theorem fl43_4 : ∀ {cs : List AV}, fieldA Try.prog 43 (.agg cs) 4 = partA Try.prog 40 cs 4 := fl_struct Try.underlying43 (ft := 40) (o := 4) rfl
theorem ld49 : ∀ {p : AAddr} {H : AH}, loadA Try.prog 49 p H = (H.get p).bind fun cs => gd (p.off + 4 ≤ cs.length) (some (.agg ((cs.drop p.off).take 4))) := load_agg ag49 sz49
theorem pt49 : ∀ {cs : List AV} {o : Nat}, partA Try.prog 49 cs o = gd (o + 4 ≤ cs.length) (some (.agg ((cs.drop o).take 4))) := part_agg ag49 sz49
theorem ifc49 : ∀ {v : AV}, ifaceA Try.prog 49 v = some (.iface 49 v) := iface_of Try.underlying49 rfl
theorem ass49 : ∀ {ok : Bool} {v : AV}, assertA Try.prog 49 ok v = assertV (zeroV Try.prog 49) 49 ok v := assert_of Try.underlying49 rfl
theorem sta49 : ∀ {vs : List AV} {H : AH} {i o : Nat}, storeA Try.prog 49 ⟨false, i, o⟩ (.agg vs) H = gd (vs.length = 4) (gdb (vs.all oneA) ((H.cells? i).bind fun l0 => gd (o + 4 ≤ l0.length) (some (H.set i (some (.cells (putL l0 o vs))))))) := store_aggs (n := 3) sz49
theorem fa49_0 : ∀ {p : AAddr}, fieldAddrA Try.prog 49 (.ptr p) 0 = some (.ptr ⟨p.ro, p.blk, p.off + 0⟩) := fa_struct Try.underlying49 (ft := 3) (o := 0) rfl (m := 0) sz3
theorem fl49_0 : ∀ {cs : List AV}, fieldA Try.prog 49 (.agg cs) 0 = partA Try.prog 3 cs 0 := fl_struct Try.underlying49 (ft := 3) (o := 0) rfl
theorem fa49_1 : ∀ {p : AAddr}, fieldAddrA Try.prog 49 (.ptr p) 1 = some (.ptr ⟨p.ro, p.blk, p.off + 1⟩) := fa_struct Try.underlying49 (ft := 3) (o := 1) rfl (m := 0) sz3
theorem fl49_1 : ∀ {cs : List AV}, fieldA Try.prog 49 (.agg cs) 1 = partA Try.prog 3 cs 1 := fl_struct Try.underlying49 (ft := 3) (o := 1) rfl
theorem fa49_2 : ∀ {p : AAddr}, fieldAddrA Try.prog 49 (.ptr p) 2 = some (.ptr ⟨p.ro, p.blk, p.off + 2⟩) := fa_struct Try.underlying49 (ft := 3) (o := 2) rfl (m := 0) sz3
theorem fl49_2 : ∀ {cs : List AV}, fieldA Try.prog 49 (.agg cs) 2 = partA Try.prog 3 cs 2 := fl_struct Try.underlying49 (ft := 3) (o := 2) rfl
theorem fa49_3 : ∀ {p : AAddr}, fieldAddrA Try.prog 49 (.ptr p) 3 = some (.ptr ⟨p.ro, p.blk, p.off + 3⟩) := fa_struct Try.underlying49 (ft := 24) (o := 3) rfl (m := 0) sz24
theorem fl49_3 : ∀ {cs : List AV}, fieldA Try.prog 49 (.agg cs) 3 = partA Try.prog 24 cs 3 := fl_struct Try.underlying49 (ft := 24) (o := 3) rfl
theorem ld50 : ∀ {p : AAddr} {H : AH}, loadA Try.prog 50 p H = (H.get p).bind fun cs => gd (p.off + 4 ≤ cs.length) (some (.agg ((cs.drop p.off).take 4))) := load_agg ag50 sz50
theorem pt50 : ∀ {cs : List AV} {o : Nat}, partA Try.prog 50 cs o = gd (o + 4 ≤ cs.length) (some (.agg ((cs.drop o).take 4))) := part_agg ag50 sz50
theorem ifc50 : ∀ {v : AV}, ifaceA Try.prog 50 v = some (.iface 50 v) := iface_of Try.underlying50 rfl
theorem ass50 : ∀ {ok : Bool} {v : AV}, assertA Try.prog 50 ok v = assertV (zeroV Try.prog 50) 50 ok v := assert_of Try.underlying50 rfl
theorem sta50 : ∀ {vs : List AV} {H : AH} {i o : Nat}, storeA Try.prog 50 ⟨false, i, o⟩ (.agg vs) H = gd (vs.length = 4) (gdb (vs.all oneA) ((H.cells? i).bind fun l0 => gd (o + 4 ≤ l0.length) (some (H.set i (some (.cells (putL l0 o vs))))))) := store_aggs (n := 3) sz50
theorem fa50_0 : ∀ {p : AAddr}, fieldAddrA Try.prog 50 (.ptr p) 0 = some (.ptr ⟨p.ro, p.blk, p.off + 0⟩) := fa_struct Try.underlying50 (ft := 3) (o := 0) rfl (m := 0) sz3
theorem fl50_0 : ∀ {cs : List AV}, fieldA Try.prog 50 (.agg cs) 0 = partA Try.prog 3 cs 0 := fl_struct Try.underlying50 (ft := 3) (o := 0) rfl
theorem fa50_1 : ∀ {p : AAddr}, fieldAddrA Try.prog 50 (.ptr p) 1 = some (.ptr ⟨p.ro, p.blk, p.off + 1⟩) := fa_struct Try.underlying50 (ft := 3) (o := 1) rfl (m := 0) sz3
theorem fl50_1 : ∀ {cs : List AV}, fieldA Try.prog 50 (.agg cs) 1 = partA Try.prog 3 cs 1 := fl_struct Try.underlying50 (ft := 3) (o := 1) rfl
theorem fa50_2 : ∀ {p : AAddr}, fieldAddrA Try.prog 50 (.ptr p) 2 = some (.ptr ⟨p.ro, p.blk, p.off + 2⟩) := fa_struct Try.underlying50 (ft := 3) (o := 2) rfl (m := 0) sz3
theorem fl50_2 : ∀ {cs : List AV}, fieldA Try.prog 50 (.agg cs) 2 = partA Try.prog 3 cs 2 := fl_struct Try.underlying50 (ft := 3) (o := 2) rfl
theorem fa50_3 : ∀ {p : AAddr}, fieldAddrA Try.prog 50 (.ptr p) 3 = some (.ptr ⟨p.ro, p.blk, p.off + 3⟩) := fa_struct Try.underlying50 (ft := 24) (o := 3) rfl (m := 0) sz24
theorem fl50_3 : ∀ {cs : List AV}, fieldA Try.prog 50 (.agg cs) 3 = partA Try.prog 24 cs 3 := fl_struct Try.underlying50 (ft := 24) (o := 3) rfl
theorem ld64 : ∀ {p : AAddr} {H : AH}, loadA Try.prog 64 p H = (H.get p).bind fun cs => gd (p.off + 255 ≤ cs.length) (some (.agg ((cs.drop p.off).take 255))) := load_agg ag64 sz64
theorem pt64 : ∀ {cs : List AV} {o : Nat}, partA Try.prog 64 cs o = gd (o + 255 ≤ cs.length) (some (.agg ((cs.drop o).take 255))) := part_agg ag64 sz64
theorem ifc64 : ∀ {v : AV}, ifaceA Try.prog 64 v = some (.iface 64 v) := iface_of Try.underlying64 rfl
theorem ass64 : ∀ {ok : Bool} {v : AV}, assertA Try.prog 64 ok v = assertV (zeroV Try.prog 64) 64 ok v := assert_of Try.underlying64 rfl
theorem sta64 : ∀ {vs : List AV} {H : AH} {i o : Nat}, storeA Try.prog 64 ⟨false, i, o⟩ (.agg vs) H = gd (vs.length = 255) (gdb (vs.all oneA) ((H.cells? i).bind fun l0 => gd (o + 255 ≤ l0.length) (some (H.set i (some (.cells (putL l0 o vs))))))) := store_aggs (n := 254) sz64
theorem la64 : ∀ {v : AV}, lenA Try.prog 64 v = some (.int .i64 255) := len_arr Try.underlying64
theorem ia64 : ∀ {p : AAddr} {k : IntKind} {a : Int}, indexAddrA Try.prog 64 (.ptr p) (.int k a) = gd (0 ≤ a ∧ a < (255 : Nat)) (some (.ptr ⟨p.ro, p.blk, p.off + a.toNat * 1⟩)) := ixa_arr Try.underlying64 sz4
theorem xa64 : ∀ {cs : List AV} {k : IntKind} {a : Int}, indexA Try.prog 64 (.agg cs) (.int k a) = gd (0 ≤ a ∧ a < (255 : Nat)) (partA Try.prog 4 cs (a.toNat * 1)) := ix_arr Try.underlying64 sz4
theorem sa64 : ∀ {p : AAddr} {lo hi mx : Option AV}, sliceOpA Try.prog 64 (.ptr p) lo hi mx = cutKnown p 1 255 255 lo hi mx := slc_arr Try.underlying64 sz4
theorem ld70 : ∀ {p : AAddr} {H : AH}, loadA Try.prog 70 p H = (H.get p).bind fun cs => cs[p.off]? := load_cell ag70
theorem pt70 : ∀ {cs : List AV} {o : Nat}, partA Try.prog 70 cs o = cs[o]? := part_cell ag70
theorem st70_0 : ∀ {k : IntKind} {a : Int} {H : AH} {i o : Nat}, storeA Try.prog 70 ⟨false, i, o⟩ (.int k a) H = (H.cells? i).bind fun l => gd (o < l.length) (some (H.set i (some (.cells (l.set o (.int k a)))))) := store_cell sz70 rfl
theorem st70_1 : ∀ {a : UInt8} {H : AH} {i o : Nat}, storeA Try.prog 70 ⟨false, i, o⟩ (bv a) H = (H.cells? i).bind fun l => gd (o < l.length) (some (H.set i (some (.cells (l.set o (bv a)))))) := store_cell sz70 rfl
theorem ifc70 : ∀ {v : AV}, ifaceA Try.prog 70 v = some (.iface 70 v) := iface_of Try.underlying70 rfl
theorem ass70 : ∀ {ok : Bool} {v : AV}, assertA Try.prog 70 ok v = assertV (zeroV Try.prog 70) 70 ok v := assert_of Try.underlying70 rfl
theorem cv2_70 : ∀ {k : IntKind} {a : Int} {H : AH}, convertA Try.prog 2 70 (.int k a) H = some (.int .u64 (IntKind.u64.wrap a), H) := conv_int Try.underlying70 (by rw [Try.underlying2]; rfl)
theorem cv3_70 : ∀ {k : IntKind} {a : Int} {H : AH}, convertA Try.prog 3 70 (.int k a) H = some (.int .u64 (IntKind.u64.wrap a), H) := conv_int Try.underlying70 (by rw [Try.underlying3]; rfl)
theorem cv5_70 : ∀ {k : IntKind} {a : Int} {H : AH}, convertA Try.prog 5 70 (.int k a) H = some (.int .u64 (IntKind.u64.wrap a), H) := conv_int Try.underlying70 (by rw [Try.underlying5]; rfl)
theorem cv12_70 : ∀ {k : IntKind} {a : Int} {H : AH}, convertA Try.prog 12 70 (.int k a) H = some (.int .u64 (IntKind.u64.wrap a), H) := conv_int Try.underlying70 (by rw [Try.underlying12]; rfl)
theorem cv21_70 : ∀ {k : IntKind} {a : Int} {H : AH}, convertA Try.prog 21 70 (.int k a) H = some (.int .u64 (IntKind.u64.wrap a), H) := conv_int Try.underlying70 (by rw [Try.underlying21]; rfl)
theorem cv26_70 : ∀ {k : IntKind} {a : Int} {H : AH}, convertA Try.prog 26 70 (.int k a) H = some (.int .u64 (IntKind.u64.wrap a), H) := conv_int Try.underlying70 (by rw [Try.underlying26]; rfl)
theorem cv70_70 : ∀ {k : IntKind} {a : Int} {H : AH}, convertA Try.prog 70 70 (.int k a) H = some (.int .u64 (IntKind.u64.wrap a), H) := conv_int Try.underlying70 (by rw [Try.underlying70]; rfl)
theorem cv99_70 : ∀ {k : IntKind} {a : Int} {H : AH}, convertA Try.prog 99 70 (.int k a) H = some (.int .u64 (IntKind.u64.wrap a), H) := conv_int Try.underlying70 (by rw [Try.underlying99]; rfl)
theorem ld75 : ∀ {p : AAddr} {H : AH}, loadA Try.prog 75 p H = (H.get p).bind fun cs => gd (p.off + 1 ≤ cs.length) (some (.agg ((cs.drop p.off).take 1))) := load_agg ag75 sz75
theorem pt75 : ∀ {cs : List AV} {o : Nat}, partA Try.prog 75 cs o = gd (o + 1 ≤ cs.length) (some (.agg ((cs.drop o).take 1))) := part_agg ag75 sz75
theorem eg75 : ∀ {a0 b0 : Int}, eqAgg Try.prog 75 (.agg [.int .i64 a0]) (.agg [.int .i64 b0]) = some (decide (a0 = b0) && true) := by intros; kernel_rfl
theorem ifc75 : ∀ {v : AV}, ifaceA Try.prog 75 v = some (.iface 75 v) := iface_of Try.underlying75 rfl
theorem ass75 : ∀ {ok : Bool} {v : AV}, assertA Try.prog 75 ok v = assertV (zeroV Try.prog 75) 75 ok v := assert_of Try.underlying75 rfl
theorem zv75 : zeroV Try.prog 75 = some (.agg [.int .i64 0]) := by kernel_rfl
theorem sta75 : ∀ {vs : List AV} {H : AH} {i o : Nat}, storeA Try.prog 75 ⟨false, i, o⟩ (.agg vs) H = gd (vs.length = 1) (gdb (vs.all oneA) ((H.cells? i).bind fun l0 => gd (o + 1 ≤ l0.length) (some (H.set i (some (.cells (putL l0 o vs))))))) := store_aggs (n := 0) sz75
theorem fa75_0 : ∀ {p : AAddr}, fieldAddrA Try.prog 75 (.ptr p) 0 = some (.ptr ⟨p.ro, p.blk, p.off + 0⟩) := fa_struct Try.underlying75 (ft := 3) (o := 0) rfl (m := 0) sz3
theorem fl75_0 : ∀ {cs : List AV}, fieldA Try.prog 75 (.agg cs) 0 = partA Try.prog 3 cs 0 := fl_struct Try.underlying75 (ft := 3) (o := 0) rfl
theorem ld76 : ∀ {p : AAddr} {H : AH}, loadA Try.prog 76 p H = (H.get p).bind fun cs => gd (p.off + 1 ≤ cs.length) (some (.agg ((cs.drop p.off).take 1))) := load_agg ag76 sz76
theorem pt76 : ∀ {cs : List AV} {o : Nat}, partA Try.prog 76 cs o = gd (o + 1 ≤ cs.length) (some (.agg ((cs.drop o).take 1))) := part_agg ag76 sz76
theorem eg76 : ∀ {a0 b0 : Int}, eqAgg Try.prog 76 (.agg [.int .i64 a0]) (.agg [.int .i64 b0]) = some (decide (a0 = b0) && true) := by intros; kernel_rfl
theorem ifc76 : ∀ {v : AV}, ifaceA Try.prog 76 v = some (.iface 76 v) := iface_of Try.underlying76 rfl
theorem ass76 : ∀ {ok : Bool} {v : AV}, assertA Try.prog 76 ok v = assertV (zeroV Try.prog 76) 76 ok v := assert_of Try.underlying76 rfl
theorem zv76 : zeroV Try.prog 76 = some (.agg [.int .i64 0]) := by kernel_rfl
theorem sta76 : ∀ {vs : List AV} {H : AH} {i o : Nat}, storeA Try.prog 76 ⟨false, i, o⟩ (.agg vs) H = gd (vs.length = 1) (gdb (vs.all oneA) ((H.cells? i).bind fun l0 => gd (o + 1 ≤ l0.length) (some (H.set i (some (.cells (putL l0 o vs))))))) := store_aggs (n := 0) sz76
theorem fa76_0 : ∀ {p : AAddr}, fieldAddrA Try.prog 76 (.ptr p) 0 = some (.ptr ⟨p.ro, p.blk, p.off + 0⟩) := fa_struct Try.underlying76 (ft := 3) (o := 0) rfl (m := 0) sz3
theorem fl76_0 : ∀ {cs : List AV}, fieldA Try.prog 76 (.agg cs) 0 = partA Try.prog 3 cs 0 := fl_struct Try.underlying76 (ft := 3) (o := 0) rfl
theorem ld87 : ∀ {p : AAddr} {H : AH}, loadA Try.prog 87 p H = (H.get p).bind fun cs => gd (p.off + 255 ≤ cs.length) (some (.agg ((cs.drop p.off).take 255))) := load_agg ag87 sz87
theorem pt87 : ∀ {cs : List AV} {o : Nat}, partA Try.prog 87 cs o = gd (o + 255 ≤ cs.length) (some (.agg ((cs.drop o).take 255))) := part_agg ag87 sz87
theorem ifc87 : ∀ {v : AV}, ifaceA Try.prog 87 v = some (.iface 87 v) := iface_of Try.underlying87 rfl
theorem ass87 : ∀ {ok : Bool} {v : AV}, assertA Try.prog 87 ok v = assertV (zeroV Try.prog 87) 87 ok v := assert_of Try.underlying87 rfl
theorem sta87 : ∀ {vs : List AV} {H : AH} {i o : Nat}, storeA Try.prog 87 ⟨false, i, o⟩ (.agg vs) H = gd (vs.length = 255) (gdb (vs.all oneA) ((H.cells? i).bind fun l0 => gd (o + 255 ≤ l0.length) (some (H.set i (some (.cells (putL l0 o vs))))))) := store_aggs (n := 254) sz87
theorem la87 : ∀ {v : AV}, lenA Try.prog 87 v = some (.int .i64 255) := len_arr Try.underlying87
theorem ia87 : ∀ {p : AAddr} {k : IntKind} {a : Int}, indexAddrA Try.prog 87 (.ptr p) (.int k a) = gd (0 ≤ a ∧ a < (255 : Nat)) (some (.ptr ⟨p.ro, p.blk, p.off + a.toNat * 1⟩)) := ixa_arr Try.underlying87 sz5
theorem xa87 : ∀ {cs : List AV} {k : IntKind} {a : Int}, indexA Try.prog 87 (.agg cs) (.int k a) = gd (0 ≤ a ∧ a < (255 : Nat)) (partA Try.prog 5 cs (a.toNat * 1)) := ix_arr Try.underlying87 sz5
theorem sa87 : ∀ {p : AAddr} {lo hi mx : Option AV}, sliceOpA Try.prog 87 (.ptr p) lo hi mx = cutKnown p 1 255 255 lo hi mx := slc_arr Try.underlying87 sz5
theorem ld88 : ∀ {p : AAddr} {H : AH}, loadA Try.prog 88 p H = (H.get p).bind fun cs => gd (p.off + 256 ≤ cs.length) (some (.agg ((cs.drop p.off).take 256))) := load_agg ag88 sz88
theorem pt88 : ∀ {cs : List AV} {o : Nat}, partA Try.prog 88 cs o = gd (o + 256 ≤ cs.length) (some (.agg ((cs.drop o).take 256))) := part_agg ag88 sz88
theorem ifc88 : ∀ {v : AV}, ifaceA Try.prog 88 v = some (.iface 88 v) := iface_of Try.underlying88 rfl
theorem ass88 : ∀ {ok : Bool} {v : AV}, assertA Try.prog 88 ok v = assertV (zeroV Try.prog 88) 88 ok v := assert_of Try.underlying88 rfl
theorem sta88 : ∀ {vs : List AV} {H : AH} {i o : Nat}, storeA Try.prog 88 ⟨false, i, o⟩ (.agg vs) H = gd (vs.length = 256) (gdb (vs.all oneA) ((H.cells? i).bind fun l0 => gd (o + 256 ≤ l0.length) (some (H.set i (some (.cells (putL l0 o vs))))))) := store_aggs (n := 255) sz88
theorem la88 : ∀ {v : AV}, lenA Try.prog 88 v = some (.int .i64 256) := len_arr Try.underlying88
theorem ia88 : ∀ {p : AAddr} {k : IntKind} {a : Int}, indexAddrA Try.prog 88 (.ptr p) (.int k a) = gd (0 ≤ a ∧ a < (256 : Nat)) (some (.ptr ⟨p.ro, p.blk, p.off + a.toNat * 1⟩)) := ixa_arr Try.underlying88 sz3
theorem xa88 : ∀ {cs : List AV} {k : IntKind} {a : Int}, indexA Try.prog 88 (.agg cs) (.int k a) = gd (0 ≤ a ∧ a < (256 : Nat)) (partA Try.prog 3 cs (a.toNat * 1)) := ix_arr Try.underlying88 sz3
theorem sa88 : ∀ {p : AAddr} {lo hi mx : Option AV}, sliceOpA Try.prog 88 (.ptr p) lo hi mx = cutKnown p 1 256 256 lo hi mx := slc_arr Try.underlying88 sz3
theorem ld93 : ∀ {p : AAddr} {H : AH}, loadA Try.prog 93 p H = (H.get p).bind fun cs => gd (p.off + 4 ≤ cs.length) (some (.agg ((cs.drop p.off).take 4))) := load_agg ag93 sz93
theorem pt93 : ∀ {cs : List AV} {o : Nat}, partA Try.prog 93 cs o = gd (o + 4 ≤ cs.length) (some (.agg ((cs.drop o).take 4))) := part_agg ag93 sz93
theorem ifc93 : ∀ {v : AV}, ifaceA Try.prog 93 v = some (.iface 93 v) := iface_of Try.underlying93 rfl
theorem ass93 : ∀ {ok : Bool} {v : AV}, assertA Try.prog 93 ok v = assertV (zeroV Try.prog 93) 93 ok v := assert_of Try.underlying93 rfl
theorem sta93 : ∀ {vs : List AV} {H : AH} {i o : Nat}, storeA Try.prog 93 ⟨false, i, o⟩ (.agg vs) H = gd (vs.length = 4) (gdb (vs.all oneA) ((H.cells? i).bind fun l0 => gd (o + 4 ≤ l0.length) (some (H.set i (some (.cells (putL l0 o vs))))))) := store_aggs (n := 3) sz93
theorem fa93_3 : ∀ {p : AAddr}, fieldAddrA Try.prog 93 (.ptr p) 3 = some (.ptr ⟨p.ro, p.blk, p.off + 3⟩) := fa_struct Try.underlying93 (ft := 9) (o := 3) rfl (m := 0) sz9
theorem fl93_3 : ∀ {cs : List AV}, fieldA Try.prog 93 (.agg cs) 3 = partA Try.prog 9 cs 3 := fl_struct Try.underlying93 (ft := 9) (o := 3) rfl
theorem ld99 : ∀ {p : AAddr} {H : AH}, loadA Try.prog 99 p H = (H.get p).bind fun cs => cs[p.off]? := load_cell ag99
theorem pt99 : ∀ {cs : List AV} {o : Nat}, partA Try.prog 99 cs o = cs[o]? := part_cell ag99
theorem st99_0 : ∀ {k : IntKind} {a : Int} {H : AH} {i o : Nat}, storeA Try.prog 99 ⟨false, i, o⟩ (.int k a) H = (H.cells? i).bind fun l => gd (o < l.length) (some (H.set i (some (.cells (l.set o (.int k a)))))) := store_cell sz99 rfl
theorem st99_1 : ∀ {a : UInt8} {H : AH} {i o : Nat}, storeA Try.prog 99 ⟨false, i, o⟩ (bv a) H = (H.cells? i).bind fun l => gd (o < l.length) (some (H.set i (some (.cells (l.set o (bv a)))))) := store_cell sz99 rfl
theorem ifc99 : ∀ {v : AV}, ifaceA Try.prog 99 v = some (.iface 99 v) := iface_of Try.underlying99 rfl
theorem ass99 : ∀ {ok : Bool} {v : AV}, assertA Try.prog 99 ok v = assertV (zeroV Try.prog 99) 99 ok v := assert_of Try.underlying99 rfl
theorem cv2_99 : ∀ {k : IntKind} {a : Int} {H : AH}, convertA Try.prog 2 99 (.int k a) H = some (.int .u32 (IntKind.u32.wrap a), H) := conv_int Try.underlying99 (by rw [Try.underlying2]; rfl)
theorem cv3_99 : ∀ {k : IntKind} {a : Int} {H : AH}, convertA Try.prog 3 99 (.int k a) H = some (.int .u32 (IntKind.u32.wrap a), H) := conv_int Try.underlying99 (by rw [Try.underlying3]; rfl)
theorem cv5_99 : ∀ {k : IntKind} {a : Int} {H : AH}, convertA Try.prog 5 99 (.int k a) H = some (.int .u32 (IntKind.u32.wrap a), H) := conv_int Try.underlying99 (by rw [Try.underlying5]; rfl)
theorem cv12_99 : ∀ {k : IntKind} {a : Int} {H : AH}, convertA Try.prog 12 99 (.int k a) H = some (.int .u32 (IntKind.u32.wrap a), H) := conv_int Try.underlying99 (by rw [Try.underlying12]; rfl)
theorem cv21_99 : ∀ {k : IntKind} {a : Int} {H : AH}, convertA Try.prog 21 99 (.int k a) H = some (.int .u32 (IntKind.u32.wrap a), H) := conv_int Try.underlying99 (by rw [Try.underlying21]; rfl)
theorem cv26_99 : ∀ {k : IntKind} {a : Int} {H : AH}, convertA Try.prog 26 99 (.int k a) H = some (.int .u32 (IntKind.u32.wrap a), H) := conv_int Try.underlying99 (by rw [Try.underlying26]; rfl)
theorem cv70_99 : ∀ {k : IntKind} {a : Int} {H : AH}, convertA Try.prog 70 99 (.int k a) H = some (.int .u32 (IntKind.u32.wrap a), H) := conv_int Try.underlying99 (by rw [Try.underlying70]; rfl)
theorem cv99_99 : ∀ {k : IntKind} {a : Int} {H : AH}, convertA Try.prog 99 99 (.int k a) H = some (.int .u32 (IntKind.u32.wrap a), H) := conv_int Try.underlying99 (by rw [Try.underlying99]; rfl)
theorem ld103 : ∀ {p : AAddr} {H : AH}, loadA Try.prog 103 p H = (H.get p).bind fun cs => cs[p.off]? := load_cell ag103
theorem pt103 : ∀ {cs : List AV} {o : Nat}, partA Try.prog 103 cs o = cs[o]? := part_cell ag103
theorem st103_0 : ∀ {a : AAddr} {H : AH} {i o : Nat}, storeA Try.prog 103 ⟨false, i, o⟩ (.ptr a) H = (H.cells? i).bind fun l => gd (o < l.length) (some (H.set i (some (.cells (l.set o (.ptr a)))))) := store_cell sz103 rfl
theorem st103_1 : ∀  {H : AH} {i o : Nat}, storeA Try.prog 103 ⟨false, i, o⟩ .nilptr H = (H.cells? i).bind fun l => gd (o < l.length) (some (H.set i (some (.cells (l.set o .nilptr))))) := store_cell sz103 rfl
theorem ifc103 : ∀ {v : AV}, ifaceA Try.prog 103 v = some (.iface 103 v) := iface_of Try.underlying103 rfl
theorem ass103 : ∀ {ok : Bool} {v : AV}, assertA Try.prog 103 ok v = assertV (zeroV Try.prog 103) 103 ok v := assert_of Try.underlying103 rfl
theorem eqptrnil103 : ∀ {p : AAddr}, binA Try.prog .eql 103 (.ptr p) .nilptr = some (.bool false) := eq_ptr_nil Try.underlying103
theorem neptrnil103 : ∀ {p : AAddr}, binA Try.prog .neq 103 (.ptr p) .nilptr = some (.bool true) := ne_ptr_nil Try.underlying103
theorem eqnn103 : binA Try.prog .eql 103 .nilptr .nilptr = some (.bool true) := eq_nilptr Try.underlying103
theorem nenn103 : binA Try.prog .neq 103 .nilptr .nilptr = some (.bool false) := ne_nilptr Try.underlying103
theorem ld106 : ∀ {p : AAddr} {H : AH}, loadA Try.prog 106 p H = (H.get p).bind fun cs => gd (p.off + 11 ≤ cs.length) (some (.agg ((cs.drop p.off).take 11))) := load_agg ag106 sz106
theorem pt106 : ∀ {cs : List AV} {o : Nat}, partA Try.prog 106 cs o = gd (o + 11 ≤ cs.length) (some (.agg ((cs.drop o).take 11))) := part_agg ag106 sz106
theorem ifc106 : ∀ {v : AV}, ifaceA Try.prog 106 v = some (.iface 106 v) := iface_of Try.underlying106 rfl
theorem ass106 : ∀ {ok : Bool} {v : AV}, assertA Try.prog 106 ok v = assertV (zeroV Try.prog 106) 106 ok v := assert_of Try.underlying106 rfl
theorem sta106 : ∀ {vs : List AV} {H : AH} {i o : Nat}, storeA Try.prog 106 ⟨false, i, o⟩ (.agg vs) H = gd (vs.length = 11) (gdb (vs.all oneA) ((H.cells? i).bind fun l0 => gd (o + 11 ≤ l0.length) (some (H.set i (some (.cells (putL l0 o vs))))))) := store_aggs (n := 10) sz106
theorem fa106_0 : ∀ {p : AAddr}, fieldAddrA Try.prog 106 (.ptr p) 0 = some (.ptr ⟨p.ro, p.blk, p.off + 0⟩) := fa_struct Try.underlying106 (ft := 12) (o := 0) rfl (m := 0) sz12
theorem fl106_0 : ∀ {cs : List AV}, fieldA Try.prog 106 (.agg cs) 0 = partA Try.prog 12 cs 0 := fl_struct Try.underlying106 (ft := 12) (o := 0) rfl
theorem fa106_1 : ∀ {p : AAddr}, fieldAddrA Try.prog 106 (.ptr p) 1 = some (.ptr ⟨p.ro, p.blk, p.off + 1⟩) := fa_struct Try.underlying106 (ft := 12) (o := 1) rfl (m := 0) sz12
theorem fl106_1 : ∀ {cs : List AV}, fieldA Try.prog 106 (.agg cs) 1 = partA Try.prog 12 cs 1 := fl_struct Try.underlying106 (ft := 12) (o := 1) rfl
theorem fa106_2 : ∀ {p : AAddr}, fieldAddrA Try.prog 106 (.ptr p) 2 = some (.ptr ⟨p.ro, p.blk, p.off + 2⟩) := fa_struct Try.underlying106 (ft := 99) (o := 2) rfl (m := 0) sz99
theorem fl106_2 : ∀ {cs : List AV}, fieldA Try.prog 106 (.agg cs) 2 = partA Try.prog 99 cs 2 := fl_struct Try.underlying106 (ft := 99) (o := 2) rfl
theorem fa106_4 : ∀ {p : AAddr}, fieldAddrA Try.prog 106 (.ptr p) 4 = some (.ptr ⟨p.ro, p.blk, p.off + 4⟩) := fa_struct Try.underlying106 (ft := 5) (o := 4) rfl (m := 0) sz5
theorem fl106_4 : ∀ {cs : List AV}, fieldA Try.prog 106 (.agg cs) 4 = partA Try.prog 5 cs 4 := fl_struct Try.underlying106 (ft := 5) (o := 4) rfl
theorem fa106_5 : ∀ {p : AAddr}, fieldAddrA Try.prog 106 (.ptr p) 5 = some (.ptr ⟨p.ro, p.blk, p.off + 5⟩) := fa_struct Try.underlying106 (ft := 5) (o := 5) rfl (m := 0) sz5
theorem fl106_5 : ∀ {cs : List AV}, fieldA Try.prog 106 (.agg cs) 5 = partA Try.prog 5 cs 5 := fl_struct Try.underlying106 (ft := 5) (o := 5) rfl
theorem fa106_8 : ∀ {p : AAddr}, fieldAddrA Try.prog 106 (.ptr p) 8 = some (.ptr ⟨p.ro, p.blk, p.off + 8⟩) := fa_struct Try.underlying106 (ft := 103) (o := 8) rfl (m := 0) sz103
theorem fl106_8 : ∀ {cs : List AV}, fieldA Try.prog 106 (.agg cs) 8 = partA Try.prog 103 cs 8 := fl_struct Try.underlying106 (ft := 103) (o := 8) rfl
theorem ld108 : ∀ {p : AAddr} {H : AH}, loadA Try.prog 108 p H = (H.get p).bind fun cs => cs[p.off]? := load_cell ag108
theorem pt108 : ∀ {cs : List AV} {o : Nat}, partA Try.prog 108 cs o = cs[o]? := part_cell ag108
theorem ifc108 : ∀ {v : AV}, ifaceA Try.prog 108 v = some (.iface 108 v) := iface_of Try.underlying108 rfl
theorem ass108 : ∀ {ok : Bool} {v : AV}, assertA Try.prog 108 ok v = assertV (zeroV Try.prog 108) 108 ok v := assert_of Try.underlying108 rfl
attribute [go_sem] sz2 ze2 Try.underlying2 sz3 ze3 Try.underlying3 sz4 ze4 Try.underlying4 sz5 ze5 Try.underlying5 sz7 ze7 Try.underlying7 sz9 ze9 Try.underlying9 sz12 ze12 Try.underlying12 sz13 ze13 Try.underlying13 sz18 ze18 Try.underlying18 sz21 ze21 Try.underlying21 sz24 ze24 Try.underlying24 sz25 ze25 Try.underlying25 sz26 ze26 Try.underlying26 sz32
attribute [go_sem] ze32 Try.underlying32 sz33 ze33 Try.underlying33 sz34 ze34 Try.underlying34 sz40 ze40 Try.underlying40 sz42 ze42 Try.underlying42 sz43 ze43 Try.underlying43 sz49 ze49 Try.underlying49 sz50 ze50 Try.underlying50 sz64 ze64 Try.underlying64 sz70 ze70 Try.underlying70 sz75 ze75 Try.underlying75 sz76 ze76 Try.underlying76 sz87 ze87 Try.underlying87 sz88 ze88
attribute [go_sem] Try.underlying88 sz93 ze93 Try.underlying93 sz99 ze99 Try.underlying99 sz103 ze103 Try.underlying103 sz106 ze106 Try.underlying106 sz108 ze108 Try.underlying108 ld2 pt2 st2_0 st2_1 ifc2 ass2 cv2_2 cv3_2 cv5_2 cv12_2 cv21_2 cv26_2 cv70_2 cv99_2 ld3 pt3 st3_0 st3_1 ifc3 ass3 cv2_3 cv3_3 cv5_3 cv12_3
attribute [go_sem] cv21_3 cv26_3 cv70_3 cv99_3 ld4 pt4 st4_0 ifc4 ass4 eb4 nb4 ld5 pt5 st5_0 st5_1 ifc5 ass5 cv2_5 cv3_5 cv5_5 cv12_5 cv21_5 cv26_5 cv70_5 cv99_5 ld7 pt7 eg7 ifc7 ass7 zv7 sta7 fa7_0 fl7_0 fa7_1 fl7_1 fa7_2 fl7_2 ld9 pt9
attribute [go_sem] st9_0 ifc9 ass9 ls9 is9 ss9 ld12 pt12 st12_0 st12_1 ifc12 ass12 cv2_12 cv3_12 cv5_12 cv12_12 cv21_12 cv26_12 cv70_12 cv99_12 ld13 pt13 ifc13 ass13 sta13 fa13_0 fl13_0 fa13_1 fl13_1 ld18 pt18 ifc18 ass18 sta18 ld21 pt21 st21_0 st21_1 ifc21 ass21
attribute [go_sem] cv2_21 cv3_21 cv5_21 cv12_21 cv21_21 cv26_21 cv70_21 cv99_21 ld24 pt24 st24_0 st24_1 ifc24 ass24 ll24 ln24 ia24 sk24 sg24 sn24 ens24 nns24 enn24 nnn24 cp24 cn24 mk24 bs24 ap24 ai24_3 ld25 pt25 st25_0 st25_1 ifc25 ass25 ll25 ln25 ia25 sk25
attribute [go_sem] sg25 sn25 ens25 nns25 enn25 nnn25 cp25 cn25 mk25 bs25 ap25 ai25_3 ld26 pt26 st26_0 st26_1 ifc26 ass26 cv2_26 cv3_26 cv5_26 cv12_26 cv21_26 cv26_26 cv70_26 cv99_26 ld32 pt32 st32_0 st32_1 ifc32 ass32 ll32 ln32 ia32 sk32 sg32 sn32 ens32 nns32
attribute [go_sem] enn32 nnn32 cp32 cn32 mk32 bs32 ap32 ai32_3 ld33 pt33 ifc33 ass33 sta33 fa33_0 fl33_0 fa33_1 fl33_1 fa33_2 fl33_2 fa33_3 fl33_3 ld34 pt34 ifc34 ass34 sta34 fa34_0 fl34_0 fa34_1 fl34_1 fa34_2 fl34_2 fa34_3 fl34_3 ld40 pt40 st40_0 st40_1 ifc40 ass40
attribute [go_sem] ll40 ln40 ia40 sk40 sg40 sn40 ens40 nns40 enn40 nnn40 cp40 cn40 mk40 bs40 ap40 ai40_3 aq40_9 tx40_9 tn40_9 ld42 pt42 ifc42 ass42 sta42 fa42_0 fl42_0 fa42_1 fl42_1 fa42_2 fl42_2 fa42_3 fl42_3 fa42_4 fl42_4 ld43 pt43 ifc43 ass43 sta43 fa43_0
attribute [go_sem] fl43_0 fa43_1 fl43_1 fa43_2 fl43_2 fa43_3 fl43_3 fa43_4 fl43_4 ld49 pt49 ifc49 ass49 sta49 fa49_0 fl49_0 fa49_1 fl49_1 fa49_2 fl49_2 fa49_3 fl49_3 ld50 pt50 ifc50 ass50 sta50 fa50_0 fl50_0 fa50_1 fl50_1 fa50_2 fl50_2 fa50_3 fl50_3 ld64 pt64 ifc64 ass64 sta64
attribute [go_sem] la64 ia64 xa64 sa64 ld70 pt70 st70_0 st70_1 ifc70 ass70 cv2_70 cv3_70 cv5_70 cv12_70 cv21_70 cv26_70 cv70_70 cv99_70 ld75 pt75 eg75 ifc75 ass75 zv75 sta75 fa75_0 fl75_0 ld76 pt76 eg76 ifc76 ass76 zv76 sta76 fa76_0 fl76_0 ld87 pt87 ifc87 ass87
attribute [go_sem] sta87 la87 ia87 xa87 sa87 ld88 pt88 ifc88 ass88 sta88 la88 ia88 xa88 sa88 ld93 pt93 ifc93 ass93 sta93 fa93_3 fl93_3 ld99 pt99 st99_0 st99_1 ifc99 ass99 cv2_99 cv3_99 cv5_99 cv12_99 cv21_99 cv26_99 cv70_99 cv99_99 ld103 pt103 st103_0 st103_1 ifc103
attribute [go_sem] ass103 eqptrnil103 neptrnil103 eqnn103 nenn103 ld106 pt106 ifc106 ass106 sta106 fa106_0 fl106_0 fa106_1 fl106_1 fa106_2 fl106_2 fa106_4 fl106_4 fa106_5 fl106_5 fa106_8 fl106_8 ld108 pt108 ifc108 ass108
end Go.Proofs.Ytbpojmneffngoaa
