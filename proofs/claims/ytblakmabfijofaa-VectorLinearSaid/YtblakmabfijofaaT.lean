/- What the abstract operations ask of this seat's types. -/
import Derived.Test.YtblakmabfijofaaA22
import Derived.Test.YtblakmabfijofaaProg
namespace Go.Proofs.Ytblakmabfijofaa
open Go Go.Abs
set_option linter.unusedVariables false
theorem sz2 : sizeA Try.prog 2 = some 1 := by kernel_rfl
theorem by2 : bytesA Try.prog 2 = some 8 := by kernel_rfl
theorem ag2 : aggA Try.prog 2 = some false := by kernel_rfl
theorem ze2 : zeroA Try.prog 2 = some ([.int .i64 0]) := by kernel_rfl
theorem sz3 : sizeA Try.prog 3 = some 1 := by kernel_rfl
theorem by3 : bytesA Try.prog 3 = some 8 := by kernel_rfl
theorem ag3 : aggA Try.prog 3 = some false := by kernel_rfl
theorem ze3 : zeroA Try.prog 3 = some ([.int .i64 0]) := by kernel_rfl
theorem sz4 : sizeA Try.prog 4 = some 1 := by kernel_rfl
theorem by4 : bytesA Try.prog 4 = some 1 := by kernel_rfl
theorem ag4 : aggA Try.prog 4 = some false := by kernel_rfl
theorem ze4 : zeroA Try.prog 4 = some ([.bool false]) := by kernel_rfl
theorem sz5 : sizeA Try.prog 5 = some 1 := by kernel_rfl
theorem by5 : bytesA Try.prog 5 = some 1 := by kernel_rfl
theorem ag5 : aggA Try.prog 5 = some false := by kernel_rfl
theorem ze5 : zeroA Try.prog 5 = some ([.int .u8 0]) := by kernel_rfl
theorem sz7 : sizeA Try.prog 7 = some 4 := by kernel_rfl
theorem by7 : bytesA Try.prog 7 = some 24 := by kernel_rfl
theorem ag7 : aggA Try.prog 7 = some true := by kernel_rfl
theorem ze7 : zeroA Try.prog 7 = some ([.int .i64 0, .int .i64 0, .bool false, .int .u8 0]) := by kernel_rfl
theorem sz9 : sizeA Try.prog 9 = some 1 := by kernel_rfl
theorem by9 : bytesA Try.prog 9 = some 16 := by kernel_rfl
theorem ag9 : aggA Try.prog 9 = some false := by kernel_rfl
theorem ze9 : zeroA Try.prog 9 = some ([.str ByteArray.empty]) := by kernel_rfl
theorem sz12 : sizeA Try.prog 12 = some 1 := by kernel_rfl
theorem by12 : bytesA Try.prog 12 = some 8 := by kernel_rfl
theorem ag12 : aggA Try.prog 12 = some false := by kernel_rfl
theorem ze12 : zeroA Try.prog 12 = some ([.int .u64 0]) := by kernel_rfl
theorem sz13 : sizeA Try.prog 13 = some 2 := by kernel_rfl
theorem by13 : bytesA Try.prog 13 = some 24 := by kernel_rfl
theorem ag13 : aggA Try.prog 13 = some true := by kernel_rfl
theorem ze13 : zeroA Try.prog 13 = some ([.str ByteArray.empty, .int .u64 0]) := by kernel_rfl
theorem sz18 : sizeA Try.prog 18 = some 1 := by kernel_rfl
theorem by18 : bytesA Try.prog 18 = some 8 := by kernel_rfl
theorem ag18 : aggA Try.prog 18 = some true := by kernel_rfl
theorem ze18 : zeroA Try.prog 18 = some ([.nilptr]) := by kernel_rfl
theorem sz21 : sizeA Try.prog 21 = some 1 := by kernel_rfl
theorem by21 : bytesA Try.prog 21 = some 4 := by kernel_rfl
theorem ag21 : aggA Try.prog 21 = some false := by kernel_rfl
theorem ze21 : zeroA Try.prog 21 = some ([.int .i32 0]) := by kernel_rfl
theorem sz22 : sizeA Try.prog 22 = some 1 := by kernel_rfl
theorem by22 : bytesA Try.prog 22 = some 24 := by kernel_rfl
theorem ag22 : aggA Try.prog 22 = some false := by kernel_rfl
theorem ze22 : zeroA Try.prog 22 = some ([.nilslice]) := by kernel_rfl
theorem sz24 : sizeA Try.prog 24 = some 1 := by kernel_rfl
theorem by24 : bytesA Try.prog 24 = some 8 := by kernel_rfl
theorem ag24 : aggA Try.prog 24 = some false := by kernel_rfl
theorem ze24 : zeroA Try.prog 24 = some ([.int .i64 0]) := by kernel_rfl
theorem sz33 : sizeA Try.prog 33 = some 1 := by kernel_rfl
theorem by33 : bytesA Try.prog 33 = some 24 := by kernel_rfl
theorem ag33 : aggA Try.prog 33 = some false := by kernel_rfl
theorem ze33 : zeroA Try.prog 33 = some ([.nilslice]) := by kernel_rfl
theorem sz46 : sizeA Try.prog 46 = some 1 := by kernel_rfl
theorem by46 : bytesA Try.prog 46 = some 8 := by kernel_rfl
theorem ag46 : aggA Try.prog 46 = some false := by kernel_rfl
theorem ze46 : zeroA Try.prog 46 = some ([.int .u64 0]) := by kernel_rfl
theorem sz49 : sizeA Try.prog 49 = some 4 := by kernel_rfl
theorem by49 : bytesA Try.prog 49 = some 40 := by kernel_rfl
theorem ag49 : aggA Try.prog 49 = some true := by kernel_rfl
theorem ze49 : zeroA Try.prog 49 = some ([.nilptr, .nilptr, .nilptr, .str ByteArray.empty]) := by kernel_rfl
theorem sz55 : sizeA Try.prog 55 = some 1 := by kernel_rfl
theorem by55 : bytesA Try.prog 55 = some 4 := by kernel_rfl
theorem ag55 : aggA Try.prog 55 = some false := by kernel_rfl
theorem ze55 : zeroA Try.prog 55 = some ([.int .u32 0]) := by kernel_rfl
theorem sz59 : sizeA Try.prog 59 = some 1 := by kernel_rfl
theorem by59 : bytesA Try.prog 59 = some 8 := by kernel_rfl
theorem ag59 : aggA Try.prog 59 = some false := by kernel_rfl
theorem ze59 : zeroA Try.prog 59 = some ([.nilptr]) := by kernel_rfl
theorem sz62 : sizeA Try.prog 62 = some 11 := by kernel_rfl
theorem by62 : bytesA Try.prog 62 = some 48 := by kernel_rfl
theorem ag62 : aggA Try.prog 62 = some true := by kernel_rfl
theorem ze62 : zeroA Try.prog 62 = some ([.int .u64 0, .int .u64 0, .int .u32 0, .int .u8 0, .int .u8 0, .int .u8 0, .int .u8 0, .nilfunc, .nilptr, .int .i32 0, .int .i32 0]) := by kernel_rfl
theorem sz64 : sizeA Try.prog 64 = some 1 := by kernel_rfl
theorem by64 : bytesA Try.prog 64 = some 8 := by kernel_rfl
theorem ag64 : aggA Try.prog 64 = some false := by kernel_rfl
theorem ze64 : zeroA Try.prog 64 = some ([.nilptr]) := by kernel_rfl
theorem ld2 : ∀ {p : AAddr} {H : AH}, loadA Try.prog 2 p H = (H.get p).bind fun cs => cs[p.off]? := load_cell ag2
theorem pt2 : ∀ {cs : List AV} {o : Nat}, partA Try.prog 2 cs o = cs[o]? := part_cell ag2
theorem st2_0 : ∀ {k : IntKind} {a : Int} {H : AH} {i o : Nat}, storeA Try.prog 2 ⟨false, i, o⟩ (.int k a) H = (H.cells? i).bind fun l => gd (o < l.length) (some (H.set i (some (.cells (l.set o (.int k a)))))) := store_cell sz2 rfl
theorem st2_1 : ∀ {a : UInt8} {H : AH} {i o : Nat}, storeA Try.prog 2 ⟨false, i, o⟩ (bv a) H = (H.cells? i).bind fun l => gd (o < l.length) (some (H.set i (some (.cells (l.set o (bv a)))))) := store_cell sz2 rfl
theorem ifc2 : ∀ {v : AV}, ifaceA Try.prog 2 v = some (.iface 2 v) := iface_of Try.underlying2 rfl
theorem ass2 : ∀ {ok : Bool} {v : AV}, assertA Try.prog 2 ok v = assertV (zeroV Try.prog 2) 2 ok v := assert_of Try.underlying2 rfl
theorem cv2_2 : ∀ {k : IntKind} {a : Int} {H : AH}, convertA Try.prog 2 2 (.int k a) H = some (.int .i64 (IntKind.i64.wrap a), H) := conv_int Try.underlying2 (by rw [Try.underlying2]; rfl)
theorem cv3_2 : ∀ {k : IntKind} {a : Int} {H : AH}, convertA Try.prog 3 2 (.int k a) H = some (.int .i64 (IntKind.i64.wrap a), H) := conv_int Try.underlying2 (by rw [Try.underlying3]; rfl)
theorem cv5_2 : ∀ {k : IntKind} {a : Int} {H : AH}, convertA Try.prog 5 2 (.int k a) H = some (.int .i64 (IntKind.i64.wrap a), H) := conv_int Try.underlying2 (by rw [Try.underlying5]; rfl)
theorem cv12_2 : ∀ {k : IntKind} {a : Int} {H : AH}, convertA Try.prog 12 2 (.int k a) H = some (.int .i64 (IntKind.i64.wrap a), H) := conv_int Try.underlying2 (by rw [Try.underlying12]; rfl)
theorem cv21_2 : ∀ {k : IntKind} {a : Int} {H : AH}, convertA Try.prog 21 2 (.int k a) H = some (.int .i64 (IntKind.i64.wrap a), H) := conv_int Try.underlying2 (by rw [Try.underlying21]; rfl)
theorem cv24_2 : ∀ {k : IntKind} {a : Int} {H : AH}, convertA Try.prog 24 2 (.int k a) H = some (.int .i64 (IntKind.i64.wrap a), H) := conv_int Try.underlying2 (by rw [Try.underlying24]; rfl)
theorem cv46_2 : ∀ {k : IntKind} {a : Int} {H : AH}, convertA Try.prog 46 2 (.int k a) H = some (.int .i64 (IntKind.i64.wrap a), H) := conv_int Try.underlying2 (by rw [Try.underlying46]; rfl)
theorem cv55_2 : ∀ {k : IntKind} {a : Int} {H : AH}, convertA Try.prog 55 2 (.int k a) H = some (.int .i64 (IntKind.i64.wrap a), H) := conv_int Try.underlying2 (by rw [Try.underlying55]; rfl)
theorem ld3 : ∀ {p : AAddr} {H : AH}, loadA Try.prog 3 p H = (H.get p).bind fun cs => cs[p.off]? := load_cell ag3
theorem pt3 : ∀ {cs : List AV} {o : Nat}, partA Try.prog 3 cs o = cs[o]? := part_cell ag3
theorem st3_0 : ∀ {k : IntKind} {a : Int} {H : AH} {i o : Nat}, storeA Try.prog 3 ⟨false, i, o⟩ (.int k a) H = (H.cells? i).bind fun l => gd (o < l.length) (some (H.set i (some (.cells (l.set o (.int k a)))))) := store_cell sz3 rfl
theorem st3_1 : ∀ {a : UInt8} {H : AH} {i o : Nat}, storeA Try.prog 3 ⟨false, i, o⟩ (bv a) H = (H.cells? i).bind fun l => gd (o < l.length) (some (H.set i (some (.cells (l.set o (bv a)))))) := store_cell sz3 rfl
theorem ifc3 : ∀ {v : AV}, ifaceA Try.prog 3 v = some (.iface 3 v) := iface_of Try.underlying3 rfl
theorem ass3 : ∀ {ok : Bool} {v : AV}, assertA Try.prog 3 ok v = assertV (zeroV Try.prog 3) 3 ok v := assert_of Try.underlying3 rfl
theorem cv2_3 : ∀ {k : IntKind} {a : Int} {H : AH}, convertA Try.prog 2 3 (.int k a) H = some (.int .i64 (IntKind.i64.wrap a), H) := conv_int Try.underlying3 (by rw [Try.underlying2]; rfl)
theorem cv3_3 : ∀ {k : IntKind} {a : Int} {H : AH}, convertA Try.prog 3 3 (.int k a) H = some (.int .i64 (IntKind.i64.wrap a), H) := conv_int Try.underlying3 (by rw [Try.underlying3]; rfl)
theorem cv5_3 : ∀ {k : IntKind} {a : Int} {H : AH}, convertA Try.prog 5 3 (.int k a) H = some (.int .i64 (IntKind.i64.wrap a), H) := conv_int Try.underlying3 (by rw [Try.underlying5]; rfl)
theorem cv12_3 : ∀ {k : IntKind} {a : Int} {H : AH}, convertA Try.prog 12 3 (.int k a) H = some (.int .i64 (IntKind.i64.wrap a), H) := conv_int Try.underlying3 (by rw [Try.underlying12]; rfl)
theorem cv21_3 : ∀ {k : IntKind} {a : Int} {H : AH}, convertA Try.prog 21 3 (.int k a) H = some (.int .i64 (IntKind.i64.wrap a), H) := conv_int Try.underlying3 (by rw [Try.underlying21]; rfl)
theorem cv24_3 : ∀ {k : IntKind} {a : Int} {H : AH}, convertA Try.prog 24 3 (.int k a) H = some (.int .i64 (IntKind.i64.wrap a), H) := conv_int Try.underlying3 (by rw [Try.underlying24]; rfl)
theorem cv46_3 : ∀ {k : IntKind} {a : Int} {H : AH}, convertA Try.prog 46 3 (.int k a) H = some (.int .i64 (IntKind.i64.wrap a), H) := conv_int Try.underlying3 (by rw [Try.underlying46]; rfl)
theorem cv55_3 : ∀ {k : IntKind} {a : Int} {H : AH}, convertA Try.prog 55 3 (.int k a) H = some (.int .i64 (IntKind.i64.wrap a), H) := conv_int Try.underlying3 (by rw [Try.underlying55]; rfl)
theorem ld4 : ∀ {p : AAddr} {H : AH}, loadA Try.prog 4 p H = (H.get p).bind fun cs => cs[p.off]? := load_cell ag4
theorem pt4 : ∀ {cs : List AV} {o : Nat}, partA Try.prog 4 cs o = cs[o]? := part_cell ag4
theorem st4_0 : ∀ {a : Bool} {H : AH} {i o : Nat}, storeA Try.prog 4 ⟨false, i, o⟩ (.bool a) H = (H.cells? i).bind fun l => gd (o < l.length) (some (H.set i (some (.cells (l.set o (.bool a)))))) := store_cell sz4 rfl
theorem ifc4 : ∀ {v : AV}, ifaceA Try.prog 4 v = some (.iface 4 v) := iface_of Try.underlying4 rfl
theorem ass4 : ∀ {ok : Bool} {v : AV}, assertA Try.prog 4 ok v = assertV (zeroV Try.prog 4) 4 ok v := assert_of Try.underlying4 rfl
theorem eb4 : ∀ {x y : Bool}, binA Try.prog .eql 4 (.bool x) (.bool y) = some (.bool (x == y)) := bin_bool Try.underlying4
theorem nb4 : ∀ {x y : Bool}, binA Try.prog .neq 4 (.bool x) (.bool y) = some (.bool (!(x == y))) := bin_boolne Try.underlying4
theorem ld5 : ∀ {p : AAddr} {H : AH}, loadA Try.prog 5 p H = (H.get p).bind fun cs => cs[p.off]? := load_cell ag5
theorem pt5 : ∀ {cs : List AV} {o : Nat}, partA Try.prog 5 cs o = cs[o]? := part_cell ag5
theorem st5_0 : ∀ {k : IntKind} {a : Int} {H : AH} {i o : Nat}, storeA Try.prog 5 ⟨false, i, o⟩ (.int k a) H = (H.cells? i).bind fun l => gd (o < l.length) (some (H.set i (some (.cells (l.set o (.int k a)))))) := store_cell sz5 rfl
theorem st5_1 : ∀ {a : UInt8} {H : AH} {i o : Nat}, storeA Try.prog 5 ⟨false, i, o⟩ (bv a) H = (H.cells? i).bind fun l => gd (o < l.length) (some (H.set i (some (.cells (l.set o (bv a)))))) := store_cell sz5 rfl
theorem ifc5 : ∀ {v : AV}, ifaceA Try.prog 5 v = some (.iface 5 v) := iface_of Try.underlying5 rfl
theorem ass5 : ∀ {ok : Bool} {v : AV}, assertA Try.prog 5 ok v = assertV (zeroV Try.prog 5) 5 ok v := assert_of Try.underlying5 rfl
theorem cv2_5 : ∀ {k : IntKind} {a : Int} {H : AH}, convertA Try.prog 2 5 (.int k a) H = some (.int .u8 (IntKind.u8.wrap a), H) := conv_int Try.underlying5 (by rw [Try.underlying2]; rfl)
theorem cv3_5 : ∀ {k : IntKind} {a : Int} {H : AH}, convertA Try.prog 3 5 (.int k a) H = some (.int .u8 (IntKind.u8.wrap a), H) := conv_int Try.underlying5 (by rw [Try.underlying3]; rfl)
theorem cv5_5 : ∀ {k : IntKind} {a : Int} {H : AH}, convertA Try.prog 5 5 (.int k a) H = some (.int .u8 (IntKind.u8.wrap a), H) := conv_int Try.underlying5 (by rw [Try.underlying5]; rfl)
theorem cv12_5 : ∀ {k : IntKind} {a : Int} {H : AH}, convertA Try.prog 12 5 (.int k a) H = some (.int .u8 (IntKind.u8.wrap a), H) := conv_int Try.underlying5 (by rw [Try.underlying12]; rfl)
theorem cv21_5 : ∀ {k : IntKind} {a : Int} {H : AH}, convertA Try.prog 21 5 (.int k a) H = some (.int .u8 (IntKind.u8.wrap a), H) := conv_int Try.underlying5 (by rw [Try.underlying21]; rfl)
theorem cv24_5 : ∀ {k : IntKind} {a : Int} {H : AH}, convertA Try.prog 24 5 (.int k a) H = some (.int .u8 (IntKind.u8.wrap a), H) := conv_int Try.underlying5 (by rw [Try.underlying24]; rfl)
theorem cv46_5 : ∀ {k : IntKind} {a : Int} {H : AH}, convertA Try.prog 46 5 (.int k a) H = some (.int .u8 (IntKind.u8.wrap a), H) := conv_int Try.underlying5 (by rw [Try.underlying46]; rfl)
theorem cv55_5 : ∀ {k : IntKind} {a : Int} {H : AH}, convertA Try.prog 55 5 (.int k a) H = some (.int .u8 (IntKind.u8.wrap a), H) := conv_int Try.underlying5 (by rw [Try.underlying55]; rfl)
theorem ld7 : ∀ {p : AAddr} {H : AH}, loadA Try.prog 7 p H = (H.get p).bind fun cs => gd (p.off + 4 ≤ cs.length) (some (.agg ((cs.drop p.off).take 4))) := load_agg ag7 sz7
theorem pt7 : ∀ {cs : List AV} {o : Nat}, partA Try.prog 7 cs o = gd (o + 4 ≤ cs.length) (some (.agg ((cs.drop o).take 4))) := part_agg ag7 sz7
theorem eg7 : ∀ {a0 b0 : Int} {a1 b1 : Int} {a2 b2 : Bool} {a3 b3 : Int}, eqAgg Try.prog 7 (.agg [.int .i64 a0, .int .i64 a1, .bool a2, .int .u8 a3]) (.agg [.int .i64 b0, .int .i64 b1, .bool b2, .int .u8 b3]) = some (decide (a0 = b0) && (decide (a1 = b1) && ((a2 == b2) && (decide (a3 = b3) && true)))) := by intros; kernel_rfl
theorem ifc7 : ∀ {v : AV}, ifaceA Try.prog 7 v = some (.iface 7 v) := iface_of Try.underlying7 rfl
theorem ass7 : ∀ {ok : Bool} {v : AV}, assertA Try.prog 7 ok v = assertV (zeroV Try.prog 7) 7 ok v := assert_of Try.underlying7 rfl
theorem zv7 : zeroV Try.prog 7 = some (.agg [.int .i64 0, .int .i64 0, .bool false, .int .u8 0]) := by kernel_rfl
theorem sta7 : ∀ {vs : List AV} {H : AH} {i o : Nat}, storeA Try.prog 7 ⟨false, i, o⟩ (.agg vs) H = gd (vs.length = 4) (gdb (vs.all oneA) ((H.cells? i).bind fun l0 => gd (o + 4 ≤ l0.length) (some (H.set i (some (.cells (putL l0 o vs))))))) := store_aggs (n := 3) sz7
theorem fa7_0 : ∀ {p : AAddr}, fieldAddrA Try.prog 7 (.ptr p) 0 = some (.ptr ⟨p.ro, p.blk, p.off + 0⟩) := fa_struct Try.underlying7 (ft := 2) (o := 0) rfl (m := 0) sz2
theorem fl7_0 : ∀ {cs : List AV}, fieldA Try.prog 7 (.agg cs) 0 = partA Try.prog 2 cs 0 := fl_struct Try.underlying7 (ft := 2) (o := 0) rfl
theorem fa7_1 : ∀ {p : AAddr}, fieldAddrA Try.prog 7 (.ptr p) 1 = some (.ptr ⟨p.ro, p.blk, p.off + 1⟩) := fa_struct Try.underlying7 (ft := 3) (o := 1) rfl (m := 0) sz3
theorem fl7_1 : ∀ {cs : List AV}, fieldA Try.prog 7 (.agg cs) 1 = partA Try.prog 3 cs 1 := fl_struct Try.underlying7 (ft := 3) (o := 1) rfl
theorem fa7_2 : ∀ {p : AAddr}, fieldAddrA Try.prog 7 (.ptr p) 2 = some (.ptr ⟨p.ro, p.blk, p.off + 2⟩) := fa_struct Try.underlying7 (ft := 4) (o := 2) rfl (m := 0) sz4
theorem fl7_2 : ∀ {cs : List AV}, fieldA Try.prog 7 (.agg cs) 2 = partA Try.prog 4 cs 2 := fl_struct Try.underlying7 (ft := 4) (o := 2) rfl
theorem ld9 : ∀ {p : AAddr} {H : AH}, loadA Try.prog 9 p H = (H.get p).bind fun cs => cs[p.off]? := load_cell ag9
theorem pt9 : ∀ {cs : List AV} {o : Nat}, partA Try.prog 9 cs o = cs[o]? := part_cell ag9
theorem st9_0 : ∀ {a : ByteArray} {H : AH} {i o : Nat}, storeA Try.prog 9 ⟨false, i, o⟩ (.str a) H = (H.cells? i).bind fun l => gd (o < l.length) (some (H.set i (some (.cells (l.set o (.str a)))))) := store_cell sz9 rfl
theorem ifc9 : ∀ {v : AV}, ifaceA Try.prog 9 v = some (.iface 9 v) := iface_of Try.underlying9 rfl
theorem ass9 : ∀ {ok : Bool} {v : AV}, assertA Try.prog 9 ok v = assertV (zeroV Try.prog 9) 9 ok v := assert_of Try.underlying9 rfl
theorem ls9 : ∀ {s : ByteArray}, lenA Try.prog 9 (.str s) = some (.int .i64 s.size) := len_str Try.underlying9
theorem is9 : ∀ {s : ByteArray} {k : IntKind} {a : Int}, indexA Try.prog 9 (.str s) (.int k a) = gd (0 ≤ a) ((s[a.toNat]?).map fun b => .int .u8 b.toNat) := ix_str Try.underlying9
theorem ss9 : ∀ {s : ByteArray} {lo hi : Option AV}, sliceOpA Try.prog 9 (.str s) lo hi none = (optB hi s.size s.size).bind fun h => (optB lo h 0).map fun l => .str (s.extract l h) := slc_str Try.underlying9
theorem ld12 : ∀ {p : AAddr} {H : AH}, loadA Try.prog 12 p H = (H.get p).bind fun cs => cs[p.off]? := load_cell ag12
theorem pt12 : ∀ {cs : List AV} {o : Nat}, partA Try.prog 12 cs o = cs[o]? := part_cell ag12
theorem st12_0 : ∀ {k : IntKind} {a : Int} {H : AH} {i o : Nat}, storeA Try.prog 12 ⟨false, i, o⟩ (.int k a) H = (H.cells? i).bind fun l => gd (o < l.length) (some (H.set i (some (.cells (l.set o (.int k a)))))) := store_cell sz12 rfl
theorem st12_1 : ∀ {a : UInt8} {H : AH} {i o : Nat}, storeA Try.prog 12 ⟨false, i, o⟩ (bv a) H = (H.cells? i).bind fun l => gd (o < l.length) (some (H.set i (some (.cells (l.set o (bv a)))))) := store_cell sz12 rfl
theorem ifc12 : ∀ {v : AV}, ifaceA Try.prog 12 v = some (.iface 12 v) := iface_of Try.underlying12 rfl
theorem ass12 : ∀ {ok : Bool} {v : AV}, assertA Try.prog 12 ok v = assertV (zeroV Try.prog 12) 12 ok v := assert_of Try.underlying12 rfl
theorem cv2_12 : ∀ {k : IntKind} {a : Int} {H : AH}, convertA Try.prog 2 12 (.int k a) H = some (.int .u64 (IntKind.u64.wrap a), H) := conv_int Try.underlying12 (by rw [Try.underlying2]; rfl)
theorem cv3_12 : ∀ {k : IntKind} {a : Int} {H : AH}, convertA Try.prog 3 12 (.int k a) H = some (.int .u64 (IntKind.u64.wrap a), H) := conv_int Try.underlying12 (by rw [Try.underlying3]; rfl)
theorem cv5_12 : ∀ {k : IntKind} {a : Int} {H : AH}, convertA Try.prog 5 12 (.int k a) H = some (.int .u64 (IntKind.u64.wrap a), H) := conv_int Try.underlying12 (by rw [Try.underlying5]; rfl)
theorem cv12_12 : ∀ {k : IntKind} {a : Int} {H : AH}, convertA Try.prog 12 12 (.int k a) H = some (.int .u64 (IntKind.u64.wrap a), H) := conv_int Try.underlying12 (by rw [Try.underlying12]; rfl)
theorem cv21_12 : ∀ {k : IntKind} {a : Int} {H : AH}, convertA Try.prog 21 12 (.int k a) H = some (.int .u64 (IntKind.u64.wrap a), H) := conv_int Try.underlying12 (by rw [Try.underlying21]; rfl)
theorem cv24_12 : ∀ {k : IntKind} {a : Int} {H : AH}, convertA Try.prog 24 12 (.int k a) H = some (.int .u64 (IntKind.u64.wrap a), H) := conv_int Try.underlying12 (by rw [Try.underlying24]; rfl)
theorem cv46_12 : ∀ {k : IntKind} {a : Int} {H : AH}, convertA Try.prog 46 12 (.int k a) H = some (.int .u64 (IntKind.u64.wrap a), H) := conv_int Try.underlying12 (by rw [Try.underlying46]; rfl)
theorem cv55_12 : ∀ {k : IntKind} {a : Int} {H : AH}, convertA Try.prog 55 12 (.int k a) H = some (.int .u64 (IntKind.u64.wrap a), H) := conv_int Try.underlying12 (by rw [Try.underlying55]; rfl)
theorem ld13 : ∀ {p : AAddr} {H : AH}, loadA Try.prog 13 p H = (H.get p).bind fun cs => gd (p.off + 2 ≤ cs.length) (some (.agg ((cs.drop p.off).take 2))) := load_agg ag13 sz13
theorem pt13 : ∀ {cs : List AV} {o : Nat}, partA Try.prog 13 cs o = gd (o + 2 ≤ cs.length) (some (.agg ((cs.drop o).take 2))) := part_agg ag13 sz13
theorem ifc13 : ∀ {v : AV}, ifaceA Try.prog 13 v = some (.iface 13 v) := iface_of Try.underlying13 rfl
theorem ass13 : ∀ {ok : Bool} {v : AV}, assertA Try.prog 13 ok v = assertV (zeroV Try.prog 13) 13 ok v := assert_of Try.underlying13 rfl
theorem sta13 : ∀ {vs : List AV} {H : AH} {i o : Nat}, storeA Try.prog 13 ⟨false, i, o⟩ (.agg vs) H = gd (vs.length = 2) (gdb (vs.all oneA) ((H.cells? i).bind fun l0 => gd (o + 2 ≤ l0.length) (some (H.set i (some (.cells (putL l0 o vs))))))) := store_aggs (n := 1) sz13
theorem fa13_0 : ∀ {p : AAddr}, fieldAddrA Try.prog 13 (.ptr p) 0 = some (.ptr ⟨p.ro, p.blk, p.off + 0⟩) := fa_struct Try.underlying13 (ft := 9) (o := 0) rfl (m := 0) sz9
theorem fl13_0 : ∀ {cs : List AV}, fieldA Try.prog 13 (.agg cs) 0 = partA Try.prog 9 cs 0 := fl_struct Try.underlying13 (ft := 9) (o := 0) rfl
theorem fa13_1 : ∀ {p : AAddr}, fieldAddrA Try.prog 13 (.ptr p) 1 = some (.ptr ⟨p.ro, p.blk, p.off + 1⟩) := fa_struct Try.underlying13 (ft := 12) (o := 1) rfl (m := 0) sz12
theorem fl13_1 : ∀ {cs : List AV}, fieldA Try.prog 13 (.agg cs) 1 = partA Try.prog 12 cs 1 := fl_struct Try.underlying13 (ft := 12) (o := 1) rfl
theorem ld18 : ∀ {p : AAddr} {H : AH}, loadA Try.prog 18 p H = (H.get p).bind fun cs => gd (p.off + 1 ≤ cs.length) (some (.agg ((cs.drop p.off).take 1))) := load_agg ag18 sz18
theorem pt18 : ∀ {cs : List AV} {o : Nat}, partA Try.prog 18 cs o = gd (o + 1 ≤ cs.length) (some (.agg ((cs.drop o).take 1))) := part_agg ag18 sz18
theorem ifc18 : ∀ {v : AV}, ifaceA Try.prog 18 v = some (.iface 18 v) := iface_of Try.underlying18 rfl
theorem ass18 : ∀ {ok : Bool} {v : AV}, assertA Try.prog 18 ok v = assertV (zeroV Try.prog 18) 18 ok v := assert_of Try.underlying18 rfl
theorem sta18 : ∀ {vs : List AV} {H : AH} {i o : Nat}, storeA Try.prog 18 ⟨false, i, o⟩ (.agg vs) H = gd (vs.length = 1) (gdb (vs.all oneA) ((H.cells? i).bind fun l0 => gd (o + 1 ≤ l0.length) (some (H.set i (some (.cells (putL l0 o vs))))))) := store_aggs (n := 0) sz18
theorem ld21 : ∀ {p : AAddr} {H : AH}, loadA Try.prog 21 p H = (H.get p).bind fun cs => cs[p.off]? := load_cell ag21
theorem pt21 : ∀ {cs : List AV} {o : Nat}, partA Try.prog 21 cs o = cs[o]? := part_cell ag21
theorem st21_0 : ∀ {k : IntKind} {a : Int} {H : AH} {i o : Nat}, storeA Try.prog 21 ⟨false, i, o⟩ (.int k a) H = (H.cells? i).bind fun l => gd (o < l.length) (some (H.set i (some (.cells (l.set o (.int k a)))))) := store_cell sz21 rfl
theorem st21_1 : ∀ {a : UInt8} {H : AH} {i o : Nat}, storeA Try.prog 21 ⟨false, i, o⟩ (bv a) H = (H.cells? i).bind fun l => gd (o < l.length) (some (H.set i (some (.cells (l.set o (bv a)))))) := store_cell sz21 rfl
theorem ifc21 : ∀ {v : AV}, ifaceA Try.prog 21 v = some (.iface 21 v) := iface_of Try.underlying21 rfl
theorem ass21 : ∀ {ok : Bool} {v : AV}, assertA Try.prog 21 ok v = assertV (zeroV Try.prog 21) 21 ok v := assert_of Try.underlying21 rfl
theorem cv2_21 : ∀ {k : IntKind} {a : Int} {H : AH}, convertA Try.prog 2 21 (.int k a) H = some (.int .i32 (IntKind.i32.wrap a), H) := conv_int Try.underlying21 (by rw [Try.underlying2]; rfl)
theorem cv3_21 : ∀ {k : IntKind} {a : Int} {H : AH}, convertA Try.prog 3 21 (.int k a) H = some (.int .i32 (IntKind.i32.wrap a), H) := conv_int Try.underlying21 (by rw [Try.underlying3]; rfl)
theorem cv5_21 : ∀ {k : IntKind} {a : Int} {H : AH}, convertA Try.prog 5 21 (.int k a) H = some (.int .i32 (IntKind.i32.wrap a), H) := conv_int Try.underlying21 (by rw [Try.underlying5]; rfl)
theorem cv12_21 : ∀ {k : IntKind} {a : Int} {H : AH}, convertA Try.prog 12 21 (.int k a) H = some (.int .i32 (IntKind.i32.wrap a), H) := conv_int Try.underlying21 (by rw [Try.underlying12]; rfl)
theorem cv21_21 : ∀ {k : IntKind} {a : Int} {H : AH}, convertA Try.prog 21 21 (.int k a) H = some (.int .i32 (IntKind.i32.wrap a), H) := conv_int Try.underlying21 (by rw [Try.underlying21]; rfl)
theorem cv24_21 : ∀ {k : IntKind} {a : Int} {H : AH}, convertA Try.prog 24 21 (.int k a) H = some (.int .i32 (IntKind.i32.wrap a), H) := conv_int Try.underlying21 (by rw [Try.underlying24]; rfl)
theorem cv46_21 : ∀ {k : IntKind} {a : Int} {H : AH}, convertA Try.prog 46 21 (.int k a) H = some (.int .i32 (IntKind.i32.wrap a), H) := conv_int Try.underlying21 (by rw [Try.underlying46]; rfl)
theorem cv55_21 : ∀ {k : IntKind} {a : Int} {H : AH}, convertA Try.prog 55 21 (.int k a) H = some (.int .i32 (IntKind.i32.wrap a), H) := conv_int Try.underlying21 (by rw [Try.underlying55]; rfl)
theorem ld22 : ∀ {p : AAddr} {H : AH}, loadA Try.prog 22 p H = (H.get p).bind fun cs => cs[p.off]? := load_cell ag22
theorem pt22 : ∀ {cs : List AV} {o : Nat}, partA Try.prog 22 cs o = cs[o]? := part_cell ag22
theorem st22_0 : ∀ {a : AAddr} {n : Nat} {c : Cap} {H : AH} {i o : Nat}, storeA Try.prog 22 ⟨false, i, o⟩ (.slice a n c) H = (H.cells? i).bind fun l => gd (o < l.length) (some (H.set i (some (.cells (l.set o (.slice a n c)))))) := store_cell sz22 rfl
theorem st22_1 : ∀  {H : AH} {i o : Nat}, storeA Try.prog 22 ⟨false, i, o⟩ .nilslice H = (H.cells? i).bind fun l => gd (o < l.length) (some (H.set i (some (.cells (l.set o .nilslice))))) := store_cell sz22 rfl
theorem ifc22 : ∀ {v : AV}, ifaceA Try.prog 22 v = some (.iface 22 v) := iface_of Try.underlying22 rfl
theorem ass22 : ∀ {ok : Bool} {v : AV}, assertA Try.prog 22 ok v = assertV (zeroV Try.prog 22) 22 ok v := assert_of Try.underlying22 rfl
theorem ll22 : ∀ {p : AAddr} {n : Nat} {c : Cap}, lenA Try.prog 22 (.slice p n c) = some (.int .i64 n) := len_slice Try.underlying22
theorem ln22 : lenA Try.prog 22 .nilslice = some (.int .i64 0) := len_nil Try.underlying22
theorem ia22 : ∀ {p : AAddr} {n : Nat} {c : Cap} {k : IntKind} {a : Int}, indexAddrA Try.prog 22 (.slice p n c) (.int k a) = gd (0 ≤ a ∧ a < n) (some (.ptr ⟨p.ro, p.blk, p.off + a.toNat * 1⟩)) := ixa_slice Try.underlying22 sz5
theorem sk22 : ∀ {p : AAddr} {n c : Nat} {lo hi mx : Option AV}, sliceOpA Try.prog 22 (.slice p n (.known c)) lo hi mx = cutKnown p 1 n c lo hi mx := slc_known Try.underlying22 sz5
theorem sg22 : ∀ {p : AAddr} {n : Nat} {lo hi : Option AV}, sliceOpA Try.prog 22 (.slice p n (.grow 1)) lo hi none = if p.ro = false then (optB hi n n).bind fun h => (optB lo h 0).map fun l => .slice ⟨false, p.blk, p.off + l * 1⟩ (h - l) (.grow 1) else none := slc_grow Try.underlying22 sz5
theorem sn22 : ∀ {lo hi : Option AV}, sliceOpA Try.prog 22 .nilslice lo hi none = (optB hi 0 0).bind fun h => (optB lo h 0).map fun _ => .nilslice := slc_nil Try.underlying22 sz5
theorem ens22 : ∀ {p : AAddr} {n : Nat} {c : Cap}, binA Try.prog .eql 22 (.slice p n c) .nilslice = if sureSlice n c then some (.bool false) else none := eq_nil_slice Try.underlying22
theorem nns22 : ∀ {p : AAddr} {n : Nat} {c : Cap}, binA Try.prog .neq 22 (.slice p n c) .nilslice = if sureSlice n c then some (.bool true) else none := ne_nil_slice Try.underlying22
theorem enn22 : binA Try.prog .eql 22 .nilslice .nilslice = some (.bool true) := eq_nil_nil Try.underlying22
theorem nnn22 : binA Try.prog .neq 22 .nilslice .nilslice = some (.bool false) := ne_nil_nil Try.underlying22
theorem cp22 : ∀ {p : AAddr} {n : Nat} {c : Cap} {x : AV} {H : AH}, copyA Try.prog 22 (.slice p n c) x H = (newsA H 1 x).bind fun kn => if p.ro = false ∧ (H.cells? p.blk).isSome then (storeCellsA H p.blk p.off (kn.2.take (min kn.1 n * 1))).map fun H1 => (.int .i64 (min kn.1 n : Nat), H1) else none := copy_slice Try.underlying22 sz5
theorem cn22 : ∀ {x : AV} {H : AH}, copyA Try.prog 22 .nilslice x H = (newsA H 1 x).bind fun kn => some (.int .i64 0, H) := copy_nil Try.underlying22 sz5
theorem mk22 : ∀ {k k1 : IntKind} {a b : Int} {H : AH}, makeSliceA Try.prog 22 (.int k a) (.int k1 b) H = gd (0 ≤ a ∧ a ≤ b ∧ b ≤ 140737488355328 ∧ b * (1 : Nat) ≤ 140737488355328) (some (.slice ⟨false, H.n, 0⟩ a.toNat (.known b.toNat), H.push (some (.cells (repA ([.int .u8 0]) b.toNat))))) := make_slice Try.underlying22 sz5 by5 ze5 ⟨by simp, by decide⟩
theorem bs22 : ∀ {len : Nat} {parts : List (Nat × AV)} {H : AH}, len * 1 ≤ 16777216 → buildSliceA Try.prog 22 len parts H = (fillA (fun i => some (i * 1, 1)) (zerosL ([.int .u8 0]) len) parts).map fun cells => (.slice ⟨false, H.n, 0⟩ len (.known len), H.push (some (.cells cells))) := fun h => build_lit Try.underlying22 sz5 ze5 ⟨by simp, by decide⟩ h
theorem ap22 : ∀ {s x : AV} {H : AH}, appendA Try.prog 22 22 s x H = (newsA H 1 x).bind fun kn => if kn.2.all oneA = true then appendTo 1 1 H kn.1 kn.2 s else none := app_slice Try.underlying22 sz5 by5 ze5 ⟨by simp, by decide⟩
theorem ai22_3 : ∀ {s : AV} {l : Int} {H : AH}, appendA Try.prog 22 3 s (.int .i64 l) H = gd (0 ≤ l ∧ l ≤ 140737488355328) (gdb ((repA ([.int .u8 0]) l.toNat).all oneA) (appendTo 1 1 H l.toNat (repA ([.int .u8 0]) l.toNat) s)) := app_int Try.underlying22 sz5 by5 ze5 ⟨by simp, by decide⟩ Try.underlying3
theorem aq22_9 : ∀ {s x : AV} {H : AH}, appendA Try.prog 22 9 s x H = (newsA H 1 x).bind fun kn => if kn.2.all oneA = true then appendTo 1 1 H kn.1 kn.2 s else none := app_str Try.underlying22 sz5 by5 ze5 ⟨by simp, by decide⟩ Try.underlying9
theorem tx22_9 : ∀ {p : AAddr} {n : Nat} {c : Cap} {H : AH}, convertA Try.prog 22 9 (.slice p n c) H = (rowA H 1 (.slice p n c)).bind fun cs => (bytesOfA cs).map fun bs => (.str ⟨bs.toArray⟩, H) := conv_text Try.underlying22 Try.underlying9 Try.underlying5
theorem tn22_9 : ∀ {H : AH}, convertA Try.prog 22 9 .nilslice H = some (.str ⟨#[]⟩, H) := conv_text_nil Try.underlying22 Try.underlying9 Try.underlying5
theorem ld24 : ∀ {p : AAddr} {H : AH}, loadA Try.prog 24 p H = (H.get p).bind fun cs => cs[p.off]? := load_cell ag24
theorem pt24 : ∀ {cs : List AV} {o : Nat}, partA Try.prog 24 cs o = cs[o]? := part_cell ag24
theorem st24_0 : ∀ {k : IntKind} {a : Int} {H : AH} {i o : Nat}, storeA Try.prog 24 ⟨false, i, o⟩ (.int k a) H = (H.cells? i).bind fun l => gd (o < l.length) (some (H.set i (some (.cells (l.set o (.int k a)))))) := store_cell sz24 rfl
theorem st24_1 : ∀ {a : UInt8} {H : AH} {i o : Nat}, storeA Try.prog 24 ⟨false, i, o⟩ (bv a) H = (H.cells? i).bind fun l => gd (o < l.length) (some (H.set i (some (.cells (l.set o (bv a)))))) := store_cell sz24 rfl
theorem ifc24 : ∀ {v : AV}, ifaceA Try.prog 24 v = some (.iface 24 v) := iface_of Try.underlying24 rfl
theorem ass24 : ∀ {ok : Bool} {v : AV}, assertA Try.prog 24 ok v = assertV (zeroV Try.prog 24) 24 ok v := assert_of Try.underlying24 rfl
theorem cv2_24 : ∀ {k : IntKind} {a : Int} {H : AH}, convertA Try.prog 2 24 (.int k a) H = some (.int .i64 (IntKind.i64.wrap a), H) := conv_int Try.underlying24 (by rw [Try.underlying2]; rfl)
theorem cv3_24 : ∀ {k : IntKind} {a : Int} {H : AH}, convertA Try.prog 3 24 (.int k a) H = some (.int .i64 (IntKind.i64.wrap a), H) := conv_int Try.underlying24 (by rw [Try.underlying3]; rfl)
theorem cv5_24 : ∀ {k : IntKind} {a : Int} {H : AH}, convertA Try.prog 5 24 (.int k a) H = some (.int .i64 (IntKind.i64.wrap a), H) := conv_int Try.underlying24 (by rw [Try.underlying5]; rfl)
theorem cv12_24 : ∀ {k : IntKind} {a : Int} {H : AH}, convertA Try.prog 12 24 (.int k a) H = some (.int .i64 (IntKind.i64.wrap a), H) := conv_int Try.underlying24 (by rw [Try.underlying12]; rfl)
theorem cv21_24 : ∀ {k : IntKind} {a : Int} {H : AH}, convertA Try.prog 21 24 (.int k a) H = some (.int .i64 (IntKind.i64.wrap a), H) := conv_int Try.underlying24 (by rw [Try.underlying21]; rfl)
theorem cv24_24 : ∀ {k : IntKind} {a : Int} {H : AH}, convertA Try.prog 24 24 (.int k a) H = some (.int .i64 (IntKind.i64.wrap a), H) := conv_int Try.underlying24 (by rw [Try.underlying24]; rfl)
theorem cv46_24 : ∀ {k : IntKind} {a : Int} {H : AH}, convertA Try.prog 46 24 (.int k a) H = some (.int .i64 (IntKind.i64.wrap a), H) := conv_int Try.underlying24 (by rw [Try.underlying46]; rfl)
theorem cv55_24 : ∀ {k : IntKind} {a : Int} {H : AH}, convertA Try.prog 55 24 (.int k a) H = some (.int .i64 (IntKind.i64.wrap a), H) := conv_int Try.underlying24 (by rw [Try.underlying55]; rfl)
theorem ld33 : ∀ {p : AAddr} {H : AH}, loadA Try.prog 33 p H = (H.get p).bind fun cs => cs[p.off]? := load_cell ag33
theorem pt33 : ∀ {cs : List AV} {o : Nat}, partA Try.prog 33 cs o = cs[o]? := part_cell ag33
theorem st33_0 : ∀ {a : AAddr} {n : Nat} {c : Cap} {H : AH} {i o : Nat}, storeA Try.prog 33 ⟨false, i, o⟩ (.slice a n c) H = (H.cells? i).bind fun l => gd (o < l.length) (some (H.set i (some (.cells (l.set o (.slice a n c)))))) := store_cell sz33 rfl
theorem st33_1 : ∀  {H : AH} {i o : Nat}, storeA Try.prog 33 ⟨false, i, o⟩ .nilslice H = (H.cells? i).bind fun l => gd (o < l.length) (some (H.set i (some (.cells (l.set o .nilslice))))) := store_cell sz33 rfl
theorem ifc33 : ∀ {v : AV}, ifaceA Try.prog 33 v = some (.iface 33 v) := iface_of Try.underlying33 rfl
theorem ass33 : ∀ {ok : Bool} {v : AV}, assertA Try.prog 33 ok v = assertV (zeroV Try.prog 33) 33 ok v := assert_of Try.underlying33 rfl
theorem ll33 : ∀ {p : AAddr} {n : Nat} {c : Cap}, lenA Try.prog 33 (.slice p n c) = some (.int .i64 n) := len_slice Try.underlying33
theorem ln33 : lenA Try.prog 33 .nilslice = some (.int .i64 0) := len_nil Try.underlying33
theorem ia33 : ∀ {p : AAddr} {n : Nat} {c : Cap} {k : IntKind} {a : Int}, indexAddrA Try.prog 33 (.slice p n c) (.int k a) = gd (0 ≤ a ∧ a < n) (some (.ptr ⟨p.ro, p.blk, p.off + a.toNat * 1⟩)) := ixa_slice Try.underlying33 sz22
theorem sk33 : ∀ {p : AAddr} {n c : Nat} {lo hi mx : Option AV}, sliceOpA Try.prog 33 (.slice p n (.known c)) lo hi mx = cutKnown p 1 n c lo hi mx := slc_known Try.underlying33 sz22
theorem sg33 : ∀ {p : AAddr} {n : Nat} {lo hi : Option AV}, sliceOpA Try.prog 33 (.slice p n (.grow 1)) lo hi none = if p.ro = false then (optB hi n n).bind fun h => (optB lo h 0).map fun l => .slice ⟨false, p.blk, p.off + l * 1⟩ (h - l) (.grow 1) else none := slc_grow Try.underlying33 sz22
theorem sn33 : ∀ {lo hi : Option AV}, sliceOpA Try.prog 33 .nilslice lo hi none = (optB hi 0 0).bind fun h => (optB lo h 0).map fun _ => .nilslice := slc_nil Try.underlying33 sz22
theorem ens33 : ∀ {p : AAddr} {n : Nat} {c : Cap}, binA Try.prog .eql 33 (.slice p n c) .nilslice = if sureSlice n c then some (.bool false) else none := eq_nil_slice Try.underlying33
theorem nns33 : ∀ {p : AAddr} {n : Nat} {c : Cap}, binA Try.prog .neq 33 (.slice p n c) .nilslice = if sureSlice n c then some (.bool true) else none := ne_nil_slice Try.underlying33
theorem enn33 : binA Try.prog .eql 33 .nilslice .nilslice = some (.bool true) := eq_nil_nil Try.underlying33
theorem nnn33 : binA Try.prog .neq 33 .nilslice .nilslice = some (.bool false) := ne_nil_nil Try.underlying33
theorem cp33 : ∀ {p : AAddr} {n : Nat} {c : Cap} {x : AV} {H : AH}, copyA Try.prog 33 (.slice p n c) x H = (newsA H 1 x).bind fun kn => if p.ro = false ∧ (H.cells? p.blk).isSome then (storeCellsA H p.blk p.off (kn.2.take (min kn.1 n * 1))).map fun H1 => (.int .i64 (min kn.1 n : Nat), H1) else none := copy_slice Try.underlying33 sz22
theorem cn33 : ∀ {x : AV} {H : AH}, copyA Try.prog 33 .nilslice x H = (newsA H 1 x).bind fun kn => some (.int .i64 0, H) := copy_nil Try.underlying33 sz22
theorem mk33 : ∀ {k k1 : IntKind} {a b : Int} {H : AH}, makeSliceA Try.prog 33 (.int k a) (.int k1 b) H = gd (0 ≤ a ∧ a ≤ b ∧ b ≤ 140737488355328 ∧ b * (24 : Nat) ≤ 140737488355328) (some (.slice ⟨false, H.n, 0⟩ a.toNat (.known b.toNat), H.push (some (.cells (repA ([.nilslice]) b.toNat))))) := make_slice Try.underlying33 sz22 by22 ze22 ⟨by simp, by decide⟩
theorem bs33 : ∀ {len : Nat} {parts : List (Nat × AV)} {H : AH}, len * 1 ≤ 16777216 → buildSliceA Try.prog 33 len parts H = (fillA (fun i => some (i * 1, 1)) (zerosL ([.nilslice]) len) parts).map fun cells => (.slice ⟨false, H.n, 0⟩ len (.known len), H.push (some (.cells cells))) := fun h => build_lit Try.underlying33 sz22 ze22 ⟨by simp, by decide⟩ h
theorem ap33 : ∀ {s x : AV} {H : AH}, appendA Try.prog 33 33 s x H = (newsA H 1 x).bind fun kn => if kn.2.all oneA = true then appendTo 1 24 H kn.1 kn.2 s else none := app_slice Try.underlying33 sz22 by22 ze22 ⟨by simp, by decide⟩
theorem ai33_3 : ∀ {s : AV} {l : Int} {H : AH}, appendA Try.prog 33 3 s (.int .i64 l) H = gd (0 ≤ l ∧ l ≤ 140737488355328) (gdb ((repA ([.nilslice]) l.toNat).all oneA) (appendTo 1 24 H l.toNat (repA ([.nilslice]) l.toNat) s)) := app_int Try.underlying33 sz22 by22 ze22 ⟨by simp, by decide⟩ Try.underlying3
theorem ld46 : ∀ {p : AAddr} {H : AH}, loadA Try.prog 46 p H = (H.get p).bind fun cs => cs[p.off]? := load_cell ag46
theorem pt46 : ∀ {cs : List AV} {o : Nat}, partA Try.prog 46 cs o = cs[o]? := part_cell ag46
theorem st46_0 : ∀ {k : IntKind} {a : Int} {H : AH} {i o : Nat}, storeA Try.prog 46 ⟨false, i, o⟩ (.int k a) H = (H.cells? i).bind fun l => gd (o < l.length) (some (H.set i (some (.cells (l.set o (.int k a)))))) := store_cell sz46 rfl
theorem st46_1 : ∀ {a : UInt8} {H : AH} {i o : Nat}, storeA Try.prog 46 ⟨false, i, o⟩ (bv a) H = (H.cells? i).bind fun l => gd (o < l.length) (some (H.set i (some (.cells (l.set o (bv a)))))) := store_cell sz46 rfl
theorem ifc46 : ∀ {v : AV}, ifaceA Try.prog 46 v = some (.iface 46 v) := iface_of Try.underlying46 rfl
theorem ass46 : ∀ {ok : Bool} {v : AV}, assertA Try.prog 46 ok v = assertV (zeroV Try.prog 46) 46 ok v := assert_of Try.underlying46 rfl
theorem cv2_46 : ∀ {k : IntKind} {a : Int} {H : AH}, convertA Try.prog 2 46 (.int k a) H = some (.int .u64 (IntKind.u64.wrap a), H) := conv_int Try.underlying46 (by rw [Try.underlying2]; rfl)
theorem cv3_46 : ∀ {k : IntKind} {a : Int} {H : AH}, convertA Try.prog 3 46 (.int k a) H = some (.int .u64 (IntKind.u64.wrap a), H) := conv_int Try.underlying46 (by rw [Try.underlying3]; rfl)
theorem cv5_46 : ∀ {k : IntKind} {a : Int} {H : AH}, convertA Try.prog 5 46 (.int k a) H = some (.int .u64 (IntKind.u64.wrap a), H) := conv_int Try.underlying46 (by rw [Try.underlying5]; rfl)
theorem cv12_46 : ∀ {k : IntKind} {a : Int} {H : AH}, convertA Try.prog 12 46 (.int k a) H = some (.int .u64 (IntKind.u64.wrap a), H) := conv_int Try.underlying46 (by rw [Try.underlying12]; rfl)
theorem cv21_46 : ∀ {k : IntKind} {a : Int} {H : AH}, convertA Try.prog 21 46 (.int k a) H = some (.int .u64 (IntKind.u64.wrap a), H) := conv_int Try.underlying46 (by rw [Try.underlying21]; rfl)
theorem cv24_46 : ∀ {k : IntKind} {a : Int} {H : AH}, convertA Try.prog 24 46 (.int k a) H = some (.int .u64 (IntKind.u64.wrap a), H) := conv_int Try.underlying46 (by rw [Try.underlying24]; rfl)
theorem cv46_46 : ∀ {k : IntKind} {a : Int} {H : AH}, convertA Try.prog 46 46 (.int k a) H = some (.int .u64 (IntKind.u64.wrap a), H) := conv_int Try.underlying46 (by rw [Try.underlying46]; rfl)
theorem cv55_46 : ∀ {k : IntKind} {a : Int} {H : AH}, convertA Try.prog 55 46 (.int k a) H = some (.int .u64 (IntKind.u64.wrap a), H) := conv_int Try.underlying46 (by rw [Try.underlying55]; rfl)
theorem ld49 : ∀ {p : AAddr} {H : AH}, loadA Try.prog 49 p H = (H.get p).bind fun cs => gd (p.off + 4 ≤ cs.length) (some (.agg ((cs.drop p.off).take 4))) := load_agg ag49 sz49
theorem pt49 : ∀ {cs : List AV} {o : Nat}, partA Try.prog 49 cs o = gd (o + 4 ≤ cs.length) (some (.agg ((cs.drop o).take 4))) := part_agg ag49 sz49
theorem ifc49 : ∀ {v : AV}, ifaceA Try.prog 49 v = some (.iface 49 v) := iface_of Try.underlying49 rfl
theorem ass49 : ∀ {ok : Bool} {v : AV}, assertA Try.prog 49 ok v = assertV (zeroV Try.prog 49) 49 ok v := assert_of Try.underlying49 rfl
theorem sta49 : ∀ {vs : List AV} {H : AH} {i o : Nat}, storeA Try.prog 49 ⟨false, i, o⟩ (.agg vs) H = gd (vs.length = 4) (gdb (vs.all oneA) ((H.cells? i).bind fun l0 => gd (o + 4 ≤ l0.length) (some (H.set i (some (.cells (putL l0 o vs))))))) := store_aggs (n := 3) sz49
theorem fa49_3 : ∀ {p : AAddr}, fieldAddrA Try.prog 49 (.ptr p) 3 = some (.ptr ⟨p.ro, p.blk, p.off + 3⟩) := fa_struct Try.underlying49 (ft := 9) (o := 3) rfl (m := 0) sz9
theorem fl49_3 : ∀ {cs : List AV}, fieldA Try.prog 49 (.agg cs) 3 = partA Try.prog 9 cs 3 := fl_struct Try.underlying49 (ft := 9) (o := 3) rfl
theorem ld55 : ∀ {p : AAddr} {H : AH}, loadA Try.prog 55 p H = (H.get p).bind fun cs => cs[p.off]? := load_cell ag55
theorem pt55 : ∀ {cs : List AV} {o : Nat}, partA Try.prog 55 cs o = cs[o]? := part_cell ag55
theorem st55_0 : ∀ {k : IntKind} {a : Int} {H : AH} {i o : Nat}, storeA Try.prog 55 ⟨false, i, o⟩ (.int k a) H = (H.cells? i).bind fun l => gd (o < l.length) (some (H.set i (some (.cells (l.set o (.int k a)))))) := store_cell sz55 rfl
theorem st55_1 : ∀ {a : UInt8} {H : AH} {i o : Nat}, storeA Try.prog 55 ⟨false, i, o⟩ (bv a) H = (H.cells? i).bind fun l => gd (o < l.length) (some (H.set i (some (.cells (l.set o (bv a)))))) := store_cell sz55 rfl
theorem ifc55 : ∀ {v : AV}, ifaceA Try.prog 55 v = some (.iface 55 v) := iface_of Try.underlying55 rfl
theorem ass55 : ∀ {ok : Bool} {v : AV}, assertA Try.prog 55 ok v = assertV (zeroV Try.prog 55) 55 ok v := assert_of Try.underlying55 rfl
theorem cv2_55 : ∀ {k : IntKind} {a : Int} {H : AH}, convertA Try.prog 2 55 (.int k a) H = some (.int .u32 (IntKind.u32.wrap a), H) := conv_int Try.underlying55 (by rw [Try.underlying2]; rfl)
theorem cv3_55 : ∀ {k : IntKind} {a : Int} {H : AH}, convertA Try.prog 3 55 (.int k a) H = some (.int .u32 (IntKind.u32.wrap a), H) := conv_int Try.underlying55 (by rw [Try.underlying3]; rfl)
theorem cv5_55 : ∀ {k : IntKind} {a : Int} {H : AH}, convertA Try.prog 5 55 (.int k a) H = some (.int .u32 (IntKind.u32.wrap a), H) := conv_int Try.underlying55 (by rw [Try.underlying5]; rfl)
theorem cv12_55 : ∀ {k : IntKind} {a : Int} {H : AH}, convertA Try.prog 12 55 (.int k a) H = some (.int .u32 (IntKind.u32.wrap a), H) := conv_int Try.underlying55 (by rw [Try.underlying12]; rfl)
theorem cv21_55 : ∀ {k : IntKind} {a : Int} {H : AH}, convertA Try.prog 21 55 (.int k a) H = some (.int .u32 (IntKind.u32.wrap a), H) := conv_int Try.underlying55 (by rw [Try.underlying21]; rfl)
theorem cv24_55 : ∀ {k : IntKind} {a : Int} {H : AH}, convertA Try.prog 24 55 (.int k a) H = some (.int .u32 (IntKind.u32.wrap a), H) := conv_int Try.underlying55 (by rw [Try.underlying24]; rfl)
theorem cv46_55 : ∀ {k : IntKind} {a : Int} {H : AH}, convertA Try.prog 46 55 (.int k a) H = some (.int .u32 (IntKind.u32.wrap a), H) := conv_int Try.underlying55 (by rw [Try.underlying46]; rfl)
theorem cv55_55 : ∀ {k : IntKind} {a : Int} {H : AH}, convertA Try.prog 55 55 (.int k a) H = some (.int .u32 (IntKind.u32.wrap a), H) := conv_int Try.underlying55 (by rw [Try.underlying55]; rfl)
theorem ld59 : ∀ {p : AAddr} {H : AH}, loadA Try.prog 59 p H = (H.get p).bind fun cs => cs[p.off]? := load_cell ag59
theorem pt59 : ∀ {cs : List AV} {o : Nat}, partA Try.prog 59 cs o = cs[o]? := part_cell ag59
theorem st59_0 : ∀ {a : AAddr} {H : AH} {i o : Nat}, storeA Try.prog 59 ⟨false, i, o⟩ (.ptr a) H = (H.cells? i).bind fun l => gd (o < l.length) (some (H.set i (some (.cells (l.set o (.ptr a)))))) := store_cell sz59 rfl
theorem st59_1 : ∀  {H : AH} {i o : Nat}, storeA Try.prog 59 ⟨false, i, o⟩ .nilptr H = (H.cells? i).bind fun l => gd (o < l.length) (some (H.set i (some (.cells (l.set o .nilptr))))) := store_cell sz59 rfl
theorem ifc59 : ∀ {v : AV}, ifaceA Try.prog 59 v = some (.iface 59 v) := iface_of Try.underlying59 rfl
theorem ass59 : ∀ {ok : Bool} {v : AV}, assertA Try.prog 59 ok v = assertV (zeroV Try.prog 59) 59 ok v := assert_of Try.underlying59 rfl
theorem eqptrnil59 : ∀ {p : AAddr}, binA Try.prog .eql 59 (.ptr p) .nilptr = some (.bool false) := eq_ptr_nil Try.underlying59
theorem neptrnil59 : ∀ {p : AAddr}, binA Try.prog .neq 59 (.ptr p) .nilptr = some (.bool true) := ne_ptr_nil Try.underlying59
theorem eqnn59 : binA Try.prog .eql 59 .nilptr .nilptr = some (.bool true) := eq_nilptr Try.underlying59
theorem nenn59 : binA Try.prog .neq 59 .nilptr .nilptr = some (.bool false) := ne_nilptr Try.underlying59
theorem ld62 : ∀ {p : AAddr} {H : AH}, loadA Try.prog 62 p H = (H.get p).bind fun cs => gd (p.off + 11 ≤ cs.length) (some (.agg ((cs.drop p.off).take 11))) := load_agg ag62 sz62
theorem pt62 : ∀ {cs : List AV} {o : Nat}, partA Try.prog 62 cs o = gd (o + 11 ≤ cs.length) (some (.agg ((cs.drop o).take 11))) := part_agg ag62 sz62
theorem ifc62 : ∀ {v : AV}, ifaceA Try.prog 62 v = some (.iface 62 v) := iface_of Try.underlying62 rfl
theorem ass62 : ∀ {ok : Bool} {v : AV}, assertA Try.prog 62 ok v = assertV (zeroV Try.prog 62) 62 ok v := assert_of Try.underlying62 rfl
theorem sta62 : ∀ {vs : List AV} {H : AH} {i o : Nat}, storeA Try.prog 62 ⟨false, i, o⟩ (.agg vs) H = gd (vs.length = 11) (gdb (vs.all oneA) ((H.cells? i).bind fun l0 => gd (o + 11 ≤ l0.length) (some (H.set i (some (.cells (putL l0 o vs))))))) := store_aggs (n := 10) sz62
theorem fa62_0 : ∀ {p : AAddr}, fieldAddrA Try.prog 62 (.ptr p) 0 = some (.ptr ⟨p.ro, p.blk, p.off + 0⟩) := fa_struct Try.underlying62 (ft := 12) (o := 0) rfl (m := 0) sz12
theorem fl62_0 : ∀ {cs : List AV}, fieldA Try.prog 62 (.agg cs) 0 = partA Try.prog 12 cs 0 := fl_struct Try.underlying62 (ft := 12) (o := 0) rfl
theorem fa62_1 : ∀ {p : AAddr}, fieldAddrA Try.prog 62 (.ptr p) 1 = some (.ptr ⟨p.ro, p.blk, p.off + 1⟩) := fa_struct Try.underlying62 (ft := 12) (o := 1) rfl (m := 0) sz12
theorem fl62_1 : ∀ {cs : List AV}, fieldA Try.prog 62 (.agg cs) 1 = partA Try.prog 12 cs 1 := fl_struct Try.underlying62 (ft := 12) (o := 1) rfl
theorem fa62_2 : ∀ {p : AAddr}, fieldAddrA Try.prog 62 (.ptr p) 2 = some (.ptr ⟨p.ro, p.blk, p.off + 2⟩) := fa_struct Try.underlying62 (ft := 55) (o := 2) rfl (m := 0) sz55
theorem fl62_2 : ∀ {cs : List AV}, fieldA Try.prog 62 (.agg cs) 2 = partA Try.prog 55 cs 2 := fl_struct Try.underlying62 (ft := 55) (o := 2) rfl
theorem fa62_4 : ∀ {p : AAddr}, fieldAddrA Try.prog 62 (.ptr p) 4 = some (.ptr ⟨p.ro, p.blk, p.off + 4⟩) := fa_struct Try.underlying62 (ft := 5) (o := 4) rfl (m := 0) sz5
theorem fl62_4 : ∀ {cs : List AV}, fieldA Try.prog 62 (.agg cs) 4 = partA Try.prog 5 cs 4 := fl_struct Try.underlying62 (ft := 5) (o := 4) rfl
theorem fa62_5 : ∀ {p : AAddr}, fieldAddrA Try.prog 62 (.ptr p) 5 = some (.ptr ⟨p.ro, p.blk, p.off + 5⟩) := fa_struct Try.underlying62 (ft := 5) (o := 5) rfl (m := 0) sz5
theorem fl62_5 : ∀ {cs : List AV}, fieldA Try.prog 62 (.agg cs) 5 = partA Try.prog 5 cs 5 := fl_struct Try.underlying62 (ft := 5) (o := 5) rfl
theorem fa62_8 : ∀ {p : AAddr}, fieldAddrA Try.prog 62 (.ptr p) 8 = some (.ptr ⟨p.ro, p.blk, p.off + 8⟩) := fa_struct Try.underlying62 (ft := 59) (o := 8) rfl (m := 0) sz59
theorem fl62_8 : ∀ {cs : List AV}, fieldA Try.prog 62 (.agg cs) 8 = partA Try.prog 59 cs 8 := fl_struct Try.underlying62 (ft := 59) (o := 8) rfl
theorem ld64 : ∀ {p : AAddr} {H : AH}, loadA Try.prog 64 p H = (H.get p).bind fun cs => cs[p.off]? := load_cell ag64
theorem pt64 : ∀ {cs : List AV} {o : Nat}, partA Try.prog 64 cs o = cs[o]? := part_cell ag64
theorem ifc64 : ∀ {v : AV}, ifaceA Try.prog 64 v = some (.iface 64 v) := iface_of Try.underlying64 rfl
theorem ass64 : ∀ {ok : Bool} {v : AV}, assertA Try.prog 64 ok v = assertV (zeroV Try.prog 64) 64 ok v := assert_of Try.underlying64 rfl
attribute [go_sem] sz2 ze2 Try.underlying2 sz3 ze3 Try.underlying3 sz4 ze4 Try.underlying4 sz5 ze5 Try.underlying5 sz7 ze7 Try.underlying7 sz9 ze9 Try.underlying9 sz12 ze12 Try.underlying12 sz13 ze13 Try.underlying13 sz18 ze18 Try.underlying18 sz21 ze21 Try.underlying21 sz22 ze22 Try.underlying22 sz24 ze24 Try.underlying24 sz33 ze33 Try.underlying33 sz46
attribute [go_sem] ze46 Try.underlying46 sz49 ze49 Try.underlying49 sz55 ze55 Try.underlying55 sz59 ze59 Try.underlying59 sz62 ze62 Try.underlying62 sz64 ze64 Try.underlying64 ld2 pt2 st2_0 st2_1 ifc2 ass2 cv2_2 cv3_2 cv5_2 cv12_2 cv21_2 cv24_2 cv46_2 cv55_2 ld3 pt3 st3_0 st3_1 ifc3 ass3 cv2_3 cv3_3 cv5_3
attribute [go_sem] cv12_3 cv21_3 cv24_3 cv46_3 cv55_3 ld4 pt4 st4_0 ifc4 ass4 eb4 nb4 ld5 pt5 st5_0 st5_1 ifc5 ass5 cv2_5 cv3_5 cv5_5 cv12_5 cv21_5 cv24_5 cv46_5 cv55_5 ld7 pt7 eg7 ifc7 ass7 zv7 sta7 fa7_0 fl7_0 fa7_1 fl7_1 fa7_2 fl7_2 ld9
attribute [go_sem] pt9 st9_0 ifc9 ass9 ls9 is9 ss9 ld12 pt12 st12_0 st12_1 ifc12 ass12 cv2_12 cv3_12 cv5_12 cv12_12 cv21_12 cv24_12 cv46_12 cv55_12 ld13 pt13 ifc13 ass13 sta13 fa13_0 fl13_0 fa13_1 fl13_1 ld18 pt18 ifc18 ass18 sta18 ld21 pt21 st21_0 st21_1 ifc21
attribute [go_sem] ass21 cv2_21 cv3_21 cv5_21 cv12_21 cv21_21 cv24_21 cv46_21 cv55_21 ld22 pt22 st22_0 st22_1 ifc22 ass22 ll22 ln22 ia22 sk22 sg22 sn22 ens22 nns22 enn22 nnn22 cp22 cn22 mk22 bs22 ap22 ai22_3 aq22_9 tx22_9 tn22_9 ld24 pt24 st24_0 st24_1 ifc24 ass24
attribute [go_sem] cv2_24 cv3_24 cv5_24 cv12_24 cv21_24 cv24_24 cv46_24 cv55_24 ld33 pt33 st33_0 st33_1 ifc33 ass33 ll33 ln33 ia33 sk33 sg33 sn33 ens33 nns33 enn33 nnn33 cp33 cn33 mk33 bs33 ap33 ai33_3 ld46 pt46 st46_0 st46_1 ifc46 ass46 cv2_46 cv3_46 cv5_46 cv12_46
attribute [go_sem] cv21_46 cv24_46 cv46_46 cv55_46 ld49 pt49 ifc49 ass49 sta49 fa49_3 fl49_3 ld55 pt55 st55_0 st55_1 ifc55 ass55 cv2_55 cv3_55 cv5_55 cv12_55 cv21_55 cv24_55 cv46_55 cv55_55 ld59 pt59 st59_0 st59_1 ifc59 ass59 eqptrnil59 neptrnil59 eqnn59 nenn59 ld62 pt62 ifc62 ass62 sta62
attribute [go_sem] fa62_0 fl62_0 fa62_1 fl62_1 fa62_2 fl62_2 fa62_4 fl62_4 fa62_5 fl62_5 fa62_8 fl62_8 ld64 pt64 ifc64 ass64
end Go.Proofs.Ytblakmabfijofaa
