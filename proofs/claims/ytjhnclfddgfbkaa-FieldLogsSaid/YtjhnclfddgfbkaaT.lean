/- What the abstract operations ask of this seat's types. -/
import Derived.Test.YtjhnclfddgfbkaaA22
import Derived.Test.YtjhnclfddgfbkaaProg
namespace Go.Proofs.Ytjhnclfddgfbkaa
open Go Go.Abs
set_option linter.unusedVariables false
theorem sz2 : sizeA Try.prog 2 = some 1 := by kernel_rfl
theorem by2 : bytesA Try.prog 2 = some 8 := by kernel_rfl
theorem ag2 : aggA Try.prog 2 = some false := by kernel_rfl
theorem ze2 : zeroA Try.prog 2 = some ([.int .i64 0]) := by kernel_rfl
theorem sz3 : sizeA Try.prog 3 = some 1 := by kernel_rfl
theorem by3 : bytesA Try.prog 3 = some 8 := by kernel_rfl
theorem ag3 : aggA Try.prog 3 = some false := by kernel_rfl
theorem ze3 : zeroA Try.prog 3 = some ([.int .i64 0]) := by kernel_rfl
theorem sz4 : sizeA Try.prog 4 = some 1 := by kernel_rfl
theorem by4 : bytesA Try.prog 4 = some 1 := by kernel_rfl
theorem ag4 : aggA Try.prog 4 = some false := by kernel_rfl
theorem ze4 : zeroA Try.prog 4 = some ([.bool false]) := by kernel_rfl
theorem sz5 : sizeA Try.prog 5 = some 1 := by kernel_rfl
theorem by5 : bytesA Try.prog 5 = some 1 := by kernel_rfl
theorem ag5 : aggA Try.prog 5 = some false := by kernel_rfl
theorem ze5 : zeroA Try.prog 5 = some ([.int .u8 0]) := by kernel_rfl
theorem sz7 : sizeA Try.prog 7 = some 4 := by kernel_rfl
theorem by7 : bytesA Try.prog 7 = some 24 := by kernel_rfl
theorem ag7 : aggA Try.prog 7 = some true := by kernel_rfl
theorem ze7 : zeroA Try.prog 7 = some ([.int .i64 0, .int .i64 0, .bool false, .int .u8 0]) := by kernel_rfl
theorem sz9 : sizeA Try.prog 9 = some 1 := by kernel_rfl
theorem by9 : bytesA Try.prog 9 = some 16 := by kernel_rfl
theorem ag9 : aggA Try.prog 9 = some false := by kernel_rfl
theorem ze9 : zeroA Try.prog 9 = some ([.str ByteArray.empty]) := by kernel_rfl
theorem sz12 : sizeA Try.prog 12 = some 1 := by kernel_rfl
theorem by12 : bytesA Try.prog 12 = some 8 := by kernel_rfl
theorem ag12 : aggA Try.prog 12 = some false := by kernel_rfl
theorem ze12 : zeroA Try.prog 12 = some ([.int .u64 0]) := by kernel_rfl
theorem sz13 : sizeA Try.prog 13 = some 2 := by kernel_rfl
theorem by13 : bytesA Try.prog 13 = some 24 := by kernel_rfl
theorem ag13 : aggA Try.prog 13 = some true := by kernel_rfl
theorem ze13 : zeroA Try.prog 13 = some ([.str ByteArray.empty, .int .u64 0]) := by kernel_rfl
theorem sz18 : sizeA Try.prog 18 = some 1 := by kernel_rfl
theorem by18 : bytesA Try.prog 18 = some 8 := by kernel_rfl
theorem ag18 : aggA Try.prog 18 = some true := by kernel_rfl
theorem ze18 : zeroA Try.prog 18 = some ([.nilptr]) := by kernel_rfl
theorem sz21 : sizeA Try.prog 21 = some 1 := by kernel_rfl
theorem by21 : bytesA Try.prog 21 = some 4 := by kernel_rfl
theorem ag21 : aggA Try.prog 21 = some false := by kernel_rfl
theorem ze21 : zeroA Try.prog 21 = some ([.int .i32 0]) := by kernel_rfl
theorem sz22 : sizeA Try.prog 22 = some 1 := by kernel_rfl
theorem by22 : bytesA Try.prog 22 = some 8 := by kernel_rfl
theorem ag22 : aggA Try.prog 22 = some false := by kernel_rfl
theorem ze22 : zeroA Try.prog 22 = some ([.int .i64 0]) := by kernel_rfl
theorem sz31 : sizeA Try.prog 31 = some 4 := by kernel_rfl
theorem by31 : bytesA Try.prog 31 = some 24 := by kernel_rfl
theorem ag31 : aggA Try.prog 31 = some true := by kernel_rfl
theorem ze31 : zeroA Try.prog 31 = some ([.int .u8 0, .int .u8 0, .int .i64 0, .int .i64 0]) := by kernel_rfl
theorem sz32 : sizeA Try.prog 32 = some 4 := by kernel_rfl
theorem by32 : bytesA Try.prog 32 = some 24 := by kernel_rfl
theorem ag32 : aggA Try.prog 32 = some true := by kernel_rfl
theorem ze32 : zeroA Try.prog 32 = some ([.int .u8 0, .int .u8 0, .int .i64 0, .int .i64 0]) := by kernel_rfl
theorem sz43 : sizeA Try.prog 43 = some 255 := by kernel_rfl
theorem by43 : bytesA Try.prog 43 = some 255 := by kernel_rfl
theorem ag43 : aggA Try.prog 43 = some true := by kernel_rfl
theorem ze43 : zeroA Try.prog 43 = some (List.replicate 255 (.int .u8 0)) := by kernel_rfl
theorem sz44 : sizeA Try.prog 44 = some 256 := by kernel_rfl
theorem by44 : bytesA Try.prog 44 = some 2048 := by kernel_rfl
theorem ag44 : aggA Try.prog 44 = some true := by kernel_rfl
theorem ze44 : zeroA Try.prog 44 = some (List.replicate 256 (.int .i64 0)) := by kernel_rfl
theorem sz48 : sizeA Try.prog 48 = some 1 := by kernel_rfl
theorem by48 : bytesA Try.prog 48 = some 8 := by kernel_rfl
theorem ag48 : aggA Try.prog 48 = some false := by kernel_rfl
theorem ze48 : zeroA Try.prog 48 = some ([.int .u64 0]) := by kernel_rfl
theorem sz51 : sizeA Try.prog 51 = some 4 := by kernel_rfl
theorem by51 : bytesA Try.prog 51 = some 40 := by kernel_rfl
theorem ag51 : aggA Try.prog 51 = some true := by kernel_rfl
theorem ze51 : zeroA Try.prog 51 = some ([.nilptr, .nilptr, .nilptr, .str ByteArray.empty]) := by kernel_rfl
theorem sz57 : sizeA Try.prog 57 = some 1 := by kernel_rfl
theorem by57 : bytesA Try.prog 57 = some 4 := by kernel_rfl
theorem ag57 : aggA Try.prog 57 = some false := by kernel_rfl
theorem ze57 : zeroA Try.prog 57 = some ([.int .u32 0]) := by kernel_rfl
theorem sz61 : sizeA Try.prog 61 = some 1 := by kernel_rfl
theorem by61 : bytesA Try.prog 61 = some 8 := by kernel_rfl
theorem ag61 : aggA Try.prog 61 = some false := by kernel_rfl
theorem ze61 : zeroA Try.prog 61 = some ([.nilptr]) := by kernel_rfl
theorem sz64 : sizeA Try.prog 64 = some 11 := by kernel_rfl
theorem by64 : bytesA Try.prog 64 = some 48 := by kernel_rfl
theorem ag64 : aggA Try.prog 64 = some true := by kernel_rfl
theorem ze64 : zeroA Try.prog 64 = some ([.int .u64 0, .int .u64 0, .int .u32 0, .int .u8 0, .int .u8 0, .int .u8 0, .int .u8 0, .nilfunc, .nilptr, .int .i32 0, .int .i32 0]) := by kernel_rfl
theorem sz66 : sizeA Try.prog 66 = some 1 := by kernel_rfl
theorem by66 : bytesA Try.prog 66 = some 8 := by kernel_rfl
theorem ag66 : aggA Try.prog 66 = some false := by kernel_rfl
theorem ze66 : zeroA Try.prog 66 = some ([.nilptr]) := by kernel_rfl
theorem ld2 : ∀ {p : AAddr} {H : AH}, loadA Try.prog 2 p H = (H.get p).bind fun cs => cs[p.off]? := load_cell ag2
theorem pt2 : ∀ {cs : List AV} {o : Nat}, partA Try.prog 2 cs o = cs[o]? := part_cell ag2
theorem st2_0 : ∀ {k : IntKind} {a : Int} {H : AH} {i o : Nat}, storeA Try.prog 2 ⟨false, i, o⟩ (.int k a) H = (H.cells? i).bind fun l => gd (o < l.length) (some (H.set i (some (.cells (l.set o (.int k a)))))) := store_cell sz2 rfl
theorem st2_1 : ∀ {a : UInt8} {H : AH} {i o : Nat}, storeA Try.prog 2 ⟨false, i, o⟩ (bv a) H = (H.cells? i).bind fun l => gd (o < l.length) (some (H.set i (some (.cells (l.set o (bv a)))))) := store_cell sz2 rfl
theorem cv2_2 : ∀ {k : IntKind} {a : Int} {H : AH}, convertA Try.prog 2 2 (.int k a) H = some (.int .i64 (IntKind.i64.wrap a), H) := conv_int Try.underlying2 (by rw [Try.underlying2]; rfl)
theorem cv3_2 : ∀ {k : IntKind} {a : Int} {H : AH}, convertA Try.prog 3 2 (.int k a) H = some (.int .i64 (IntKind.i64.wrap a), H) := conv_int Try.underlying2 (by rw [Try.underlying3]; rfl)
theorem cv5_2 : ∀ {k : IntKind} {a : Int} {H : AH}, convertA Try.prog 5 2 (.int k a) H = some (.int .i64 (IntKind.i64.wrap a), H) := conv_int Try.underlying2 (by rw [Try.underlying5]; rfl)
theorem cv12_2 : ∀ {k : IntKind} {a : Int} {H : AH}, convertA Try.prog 12 2 (.int k a) H = some (.int .i64 (IntKind.i64.wrap a), H) := conv_int Try.underlying2 (by rw [Try.underlying12]; rfl)
theorem cv21_2 : ∀ {k : IntKind} {a : Int} {H : AH}, convertA Try.prog 21 2 (.int k a) H = some (.int .i64 (IntKind.i64.wrap a), H) := conv_int Try.underlying2 (by rw [Try.underlying21]; rfl)
theorem cv22_2 : ∀ {k : IntKind} {a : Int} {H : AH}, convertA Try.prog 22 2 (.int k a) H = some (.int .i64 (IntKind.i64.wrap a), H) := conv_int Try.underlying2 (by rw [Try.underlying22]; rfl)
theorem cv48_2 : ∀ {k : IntKind} {a : Int} {H : AH}, convertA Try.prog 48 2 (.int k a) H = some (.int .i64 (IntKind.i64.wrap a), H) := conv_int Try.underlying2 (by rw [Try.underlying48]; rfl)
theorem cv57_2 : ∀ {k : IntKind} {a : Int} {H : AH}, convertA Try.prog 57 2 (.int k a) H = some (.int .i64 (IntKind.i64.wrap a), H) := conv_int Try.underlying2 (by rw [Try.underlying57]; rfl)
theorem ld3 : ∀ {p : AAddr} {H : AH}, loadA Try.prog 3 p H = (H.get p).bind fun cs => cs[p.off]? := load_cell ag3
theorem pt3 : ∀ {cs : List AV} {o : Nat}, partA Try.prog 3 cs o = cs[o]? := part_cell ag3
theorem st3_0 : ∀ {k : IntKind} {a : Int} {H : AH} {i o : Nat}, storeA Try.prog 3 ⟨false, i, o⟩ (.int k a) H = (H.cells? i).bind fun l => gd (o < l.length) (some (H.set i (some (.cells (l.set o (.int k a)))))) := store_cell sz3 rfl
theorem st3_1 : ∀ {a : UInt8} {H : AH} {i o : Nat}, storeA Try.prog 3 ⟨false, i, o⟩ (bv a) H = (H.cells? i).bind fun l => gd (o < l.length) (some (H.set i (some (.cells (l.set o (bv a)))))) := store_cell sz3 rfl
theorem cv2_3 : ∀ {k : IntKind} {a : Int} {H : AH}, convertA Try.prog 2 3 (.int k a) H = some (.int .i64 (IntKind.i64.wrap a), H) := conv_int Try.underlying3 (by rw [Try.underlying2]; rfl)
theorem cv3_3 : ∀ {k : IntKind} {a : Int} {H : AH}, convertA Try.prog 3 3 (.int k a) H = some (.int .i64 (IntKind.i64.wrap a), H) := conv_int Try.underlying3 (by rw [Try.underlying3]; rfl)
theorem cv5_3 : ∀ {k : IntKind} {a : Int} {H : AH}, convertA Try.prog 5 3 (.int k a) H = some (.int .i64 (IntKind.i64.wrap a), H) := conv_int Try.underlying3 (by rw [Try.underlying5]; rfl)
theorem cv12_3 : ∀ {k : IntKind} {a : Int} {H : AH}, convertA Try.prog 12 3 (.int k a) H = some (.int .i64 (IntKind.i64.wrap a), H) := conv_int Try.underlying3 (by rw [Try.underlying12]; rfl)
theorem cv21_3 : ∀ {k : IntKind} {a : Int} {H : AH}, convertA Try.prog 21 3 (.int k a) H = some (.int .i64 (IntKind.i64.wrap a), H) := conv_int Try.underlying3 (by rw [Try.underlying21]; rfl)
theorem cv22_3 : ∀ {k : IntKind} {a : Int} {H : AH}, convertA Try.prog 22 3 (.int k a) H = some (.int .i64 (IntKind.i64.wrap a), H) := conv_int Try.underlying3 (by rw [Try.underlying22]; rfl)
theorem cv48_3 : ∀ {k : IntKind} {a : Int} {H : AH}, convertA Try.prog 48 3 (.int k a) H = some (.int .i64 (IntKind.i64.wrap a), H) := conv_int Try.underlying3 (by rw [Try.underlying48]; rfl)
theorem cv57_3 : ∀ {k : IntKind} {a : Int} {H : AH}, convertA Try.prog 57 3 (.int k a) H = some (.int .i64 (IntKind.i64.wrap a), H) := conv_int Try.underlying3 (by rw [Try.underlying57]; rfl)
theorem ld4 : ∀ {p : AAddr} {H : AH}, loadA Try.prog 4 p H = (H.get p).bind fun cs => cs[p.off]? := load_cell ag4
theorem pt4 : ∀ {cs : List AV} {o : Nat}, partA Try.prog 4 cs o = cs[o]? := part_cell ag4
theorem st4_0 : ∀ {a : Bool} {H : AH} {i o : Nat}, storeA Try.prog 4 ⟨false, i, o⟩ (.bool a) H = (H.cells? i).bind fun l => gd (o < l.length) (some (H.set i (some (.cells (l.set o (.bool a)))))) := store_cell sz4 rfl
theorem eb4 : ∀ {x y : Bool}, binA Try.prog .eql 4 (.bool x) (.bool y) = some (.bool (x == y)) := bin_bool Try.underlying4
theorem nb4 : ∀ {x y : Bool}, binA Try.prog .neq 4 (.bool x) (.bool y) = some (.bool (!(x == y))) := bin_boolne Try.underlying4
theorem ld5 : ∀ {p : AAddr} {H : AH}, loadA Try.prog 5 p H = (H.get p).bind fun cs => cs[p.off]? := load_cell ag5
theorem pt5 : ∀ {cs : List AV} {o : Nat}, partA Try.prog 5 cs o = cs[o]? := part_cell ag5
theorem st5_0 : ∀ {k : IntKind} {a : Int} {H : AH} {i o : Nat}, storeA Try.prog 5 ⟨false, i, o⟩ (.int k a) H = (H.cells? i).bind fun l => gd (o < l.length) (some (H.set i (some (.cells (l.set o (.int k a)))))) := store_cell sz5 rfl
theorem st5_1 : ∀ {a : UInt8} {H : AH} {i o : Nat}, storeA Try.prog 5 ⟨false, i, o⟩ (bv a) H = (H.cells? i).bind fun l => gd (o < l.length) (some (H.set i (some (.cells (l.set o (bv a)))))) := store_cell sz5 rfl
theorem cv2_5 : ∀ {k : IntKind} {a : Int} {H : AH}, convertA Try.prog 2 5 (.int k a) H = some (.int .u8 (IntKind.u8.wrap a), H) := conv_int Try.underlying5 (by rw [Try.underlying2]; rfl)
theorem cv3_5 : ∀ {k : IntKind} {a : Int} {H : AH}, convertA Try.prog 3 5 (.int k a) H = some (.int .u8 (IntKind.u8.wrap a), H) := conv_int Try.underlying5 (by rw [Try.underlying3]; rfl)
theorem cv5_5 : ∀ {k : IntKind} {a : Int} {H : AH}, convertA Try.prog 5 5 (.int k a) H = some (.int .u8 (IntKind.u8.wrap a), H) := conv_int Try.underlying5 (by rw [Try.underlying5]; rfl)
theorem cv12_5 : ∀ {k : IntKind} {a : Int} {H : AH}, convertA Try.prog 12 5 (.int k a) H = some (.int .u8 (IntKind.u8.wrap a), H) := conv_int Try.underlying5 (by rw [Try.underlying12]; rfl)
theorem cv21_5 : ∀ {k : IntKind} {a : Int} {H : AH}, convertA Try.prog 21 5 (.int k a) H = some (.int .u8 (IntKind.u8.wrap a), H) := conv_int Try.underlying5 (by rw [Try.underlying21]; rfl)
theorem cv22_5 : ∀ {k : IntKind} {a : Int} {H : AH}, convertA Try.prog 22 5 (.int k a) H = some (.int .u8 (IntKind.u8.wrap a), H) := conv_int Try.underlying5 (by rw [Try.underlying22]; rfl)
theorem cv48_5 : ∀ {k : IntKind} {a : Int} {H : AH}, convertA Try.prog 48 5 (.int k a) H = some (.int .u8 (IntKind.u8.wrap a), H) := conv_int Try.underlying5 (by rw [Try.underlying48]; rfl)
theorem cv57_5 : ∀ {k : IntKind} {a : Int} {H : AH}, convertA Try.prog 57 5 (.int k a) H = some (.int .u8 (IntKind.u8.wrap a), H) := conv_int Try.underlying5 (by rw [Try.underlying57]; rfl)
theorem ld7 : ∀ {p : AAddr} {H : AH}, loadA Try.prog 7 p H = (H.get p).bind fun cs => gd (p.off + 4 ≤ cs.length) (some (.agg ((cs.drop p.off).take 4))) := load_agg ag7 sz7
theorem pt7 : ∀ {cs : List AV} {o : Nat}, partA Try.prog 7 cs o = gd (o + 4 ≤ cs.length) (some (.agg ((cs.drop o).take 4))) := part_agg ag7 sz7
theorem sta7 : ∀ {vs : List AV} {H : AH} {i o : Nat}, storeA Try.prog 7 ⟨false, i, o⟩ (.agg vs) H = gd (vs.length = 4) (gdb (vs.all oneA) ((H.cells? i).bind fun l0 => gd (o + 4 ≤ l0.length) (some (H.set i (some (.cells (putL l0 o vs))))))) := store_aggs (n := 3) sz7
theorem fa7_0 : ∀ {p : AAddr}, fieldAddrA Try.prog 7 (.ptr p) 0 = some (.ptr ⟨p.ro, p.blk, p.off + 0⟩) := fa_struct Try.underlying7 (ft := 2) (o := 0) rfl (m := 0) sz2
theorem fl7_0 : ∀ {cs : List AV}, fieldA Try.prog 7 (.agg cs) 0 = partA Try.prog 2 cs 0 := fl_struct Try.underlying7 (ft := 2) (o := 0) rfl
theorem fa7_1 : ∀ {p : AAddr}, fieldAddrA Try.prog 7 (.ptr p) 1 = some (.ptr ⟨p.ro, p.blk, p.off + 1⟩) := fa_struct Try.underlying7 (ft := 3) (o := 1) rfl (m := 0) sz3
theorem fl7_1 : ∀ {cs : List AV}, fieldA Try.prog 7 (.agg cs) 1 = partA Try.prog 3 cs 1 := fl_struct Try.underlying7 (ft := 3) (o := 1) rfl
theorem fa7_2 : ∀ {p : AAddr}, fieldAddrA Try.prog 7 (.ptr p) 2 = some (.ptr ⟨p.ro, p.blk, p.off + 2⟩) := fa_struct Try.underlying7 (ft := 4) (o := 2) rfl (m := 0) sz4
theorem fl7_2 : ∀ {cs : List AV}, fieldA Try.prog 7 (.agg cs) 2 = partA Try.prog 4 cs 2 := fl_struct Try.underlying7 (ft := 4) (o := 2) rfl
theorem ld9 : ∀ {p : AAddr} {H : AH}, loadA Try.prog 9 p H = (H.get p).bind fun cs => cs[p.off]? := load_cell ag9
theorem pt9 : ∀ {cs : List AV} {o : Nat}, partA Try.prog 9 cs o = cs[o]? := part_cell ag9
theorem st9_0 : ∀ {a : ByteArray} {H : AH} {i o : Nat}, storeA Try.prog 9 ⟨false, i, o⟩ (.str a) H = (H.cells? i).bind fun l => gd (o < l.length) (some (H.set i (some (.cells (l.set o (.str a)))))) := store_cell sz9 rfl
theorem ls9 : ∀ {s : ByteArray}, lenA Try.prog 9 (.str s) = some (.int .i64 s.size) := len_str Try.underlying9
theorem is9 : ∀ {s : ByteArray} {k : IntKind} {a : Int}, indexA Try.prog 9 (.str s) (.int k a) = gd (0 ≤ a) ((s[a.toNat]?).map fun b => .int .u8 b.toNat) := ix_str Try.underlying9
theorem ss9 : ∀ {s : ByteArray} {lo hi : Option AV}, sliceOpA Try.prog 9 (.str s) lo hi none = (optB hi s.size s.size).bind fun h => (optB lo h 0).map fun l => .str (s.extract l h) := slc_str Try.underlying9
theorem ld12 : ∀ {p : AAddr} {H : AH}, loadA Try.prog 12 p H = (H.get p).bind fun cs => cs[p.off]? := load_cell ag12
theorem pt12 : ∀ {cs : List AV} {o : Nat}, partA Try.prog 12 cs o = cs[o]? := part_cell ag12
theorem st12_0 : ∀ {k : IntKind} {a : Int} {H : AH} {i o : Nat}, storeA Try.prog 12 ⟨false, i, o⟩ (.int k a) H = (H.cells? i).bind fun l => gd (o < l.length) (some (H.set i (some (.cells (l.set o (.int k a)))))) := store_cell sz12 rfl
theorem st12_1 : ∀ {a : UInt8} {H : AH} {i o : Nat}, storeA Try.prog 12 ⟨false, i, o⟩ (bv a) H = (H.cells? i).bind fun l => gd (o < l.length) (some (H.set i (some (.cells (l.set o (bv a)))))) := store_cell sz12 rfl
theorem cv2_12 : ∀ {k : IntKind} {a : Int} {H : AH}, convertA Try.prog 2 12 (.int k a) H = some (.int .u64 (IntKind.u64.wrap a), H) := conv_int Try.underlying12 (by rw [Try.underlying2]; rfl)
theorem cv3_12 : ∀ {k : IntKind} {a : Int} {H : AH}, convertA Try.prog 3 12 (.int k a) H = some (.int .u64 (IntKind.u64.wrap a), H) := conv_int Try.underlying12 (by rw [Try.underlying3]; rfl)
theorem cv5_12 : ∀ {k : IntKind} {a : Int} {H : AH}, convertA Try.prog 5 12 (.int k a) H = some (.int .u64 (IntKind.u64.wrap a), H) := conv_int Try.underlying12 (by rw [Try.underlying5]; rfl)
theorem cv12_12 : ∀ {k : IntKind} {a : Int} {H : AH}, convertA Try.prog 12 12 (.int k a) H = some (.int .u64 (IntKind.u64.wrap a), H) := conv_int Try.underlying12 (by rw [Try.underlying12]; rfl)
theorem cv21_12 : ∀ {k : IntKind} {a : Int} {H : AH}, convertA Try.prog 21 12 (.int k a) H = some (.int .u64 (IntKind.u64.wrap a), H) := conv_int Try.underlying12 (by rw [Try.underlying21]; rfl)
theorem cv22_12 : ∀ {k : IntKind} {a : Int} {H : AH}, convertA Try.prog 22 12 (.int k a) H = some (.int .u64 (IntKind.u64.wrap a), H) := conv_int Try.underlying12 (by rw [Try.underlying22]; rfl)
theorem cv48_12 : ∀ {k : IntKind} {a : Int} {H : AH}, convertA Try.prog 48 12 (.int k a) H = some (.int .u64 (IntKind.u64.wrap a), H) := conv_int Try.underlying12 (by rw [Try.underlying48]; rfl)
theorem cv57_12 : ∀ {k : IntKind} {a : Int} {H : AH}, convertA Try.prog 57 12 (.int k a) H = some (.int .u64 (IntKind.u64.wrap a), H) := conv_int Try.underlying12 (by rw [Try.underlying57]; rfl)
theorem ld13 : ∀ {p : AAddr} {H : AH}, loadA Try.prog 13 p H = (H.get p).bind fun cs => gd (p.off + 2 ≤ cs.length) (some (.agg ((cs.drop p.off).take 2))) := load_agg ag13 sz13
theorem pt13 : ∀ {cs : List AV} {o : Nat}, partA Try.prog 13 cs o = gd (o + 2 ≤ cs.length) (some (.agg ((cs.drop o).take 2))) := part_agg ag13 sz13
theorem sta13 : ∀ {vs : List AV} {H : AH} {i o : Nat}, storeA Try.prog 13 ⟨false, i, o⟩ (.agg vs) H = gd (vs.length = 2) (gdb (vs.all oneA) ((H.cells? i).bind fun l0 => gd (o + 2 ≤ l0.length) (some (H.set i (some (.cells (putL l0 o vs))))))) := store_aggs (n := 1) sz13
theorem fa13_0 : ∀ {p : AAddr}, fieldAddrA Try.prog 13 (.ptr p) 0 = some (.ptr ⟨p.ro, p.blk, p.off + 0⟩) := fa_struct Try.underlying13 (ft := 9) (o := 0) rfl (m := 0) sz9
theorem fl13_0 : ∀ {cs : List AV}, fieldA Try.prog 13 (.agg cs) 0 = partA Try.prog 9 cs 0 := fl_struct Try.underlying13 (ft := 9) (o := 0) rfl
theorem fa13_1 : ∀ {p : AAddr}, fieldAddrA Try.prog 13 (.ptr p) 1 = some (.ptr ⟨p.ro, p.blk, p.off + 1⟩) := fa_struct Try.underlying13 (ft := 12) (o := 1) rfl (m := 0) sz12
theorem fl13_1 : ∀ {cs : List AV}, fieldA Try.prog 13 (.agg cs) 1 = partA Try.prog 12 cs 1 := fl_struct Try.underlying13 (ft := 12) (o := 1) rfl
theorem ld18 : ∀ {p : AAddr} {H : AH}, loadA Try.prog 18 p H = (H.get p).bind fun cs => gd (p.off + 1 ≤ cs.length) (some (.agg ((cs.drop p.off).take 1))) := load_agg ag18 sz18
theorem pt18 : ∀ {cs : List AV} {o : Nat}, partA Try.prog 18 cs o = gd (o + 1 ≤ cs.length) (some (.agg ((cs.drop o).take 1))) := part_agg ag18 sz18
theorem sta18 : ∀ {vs : List AV} {H : AH} {i o : Nat}, storeA Try.prog 18 ⟨false, i, o⟩ (.agg vs) H = gd (vs.length = 1) (gdb (vs.all oneA) ((H.cells? i).bind fun l0 => gd (o + 1 ≤ l0.length) (some (H.set i (some (.cells (putL l0 o vs))))))) := store_aggs (n := 0) sz18
theorem ld21 : ∀ {p : AAddr} {H : AH}, loadA Try.prog 21 p H = (H.get p).bind fun cs => cs[p.off]? := load_cell ag21
theorem pt21 : ∀ {cs : List AV} {o : Nat}, partA Try.prog 21 cs o = cs[o]? := part_cell ag21
theorem st21_0 : ∀ {k : IntKind} {a : Int} {H : AH} {i o : Nat}, storeA Try.prog 21 ⟨false, i, o⟩ (.int k a) H = (H.cells? i).bind fun l => gd (o < l.length) (some (H.set i (some (.cells (l.set o (.int k a)))))) := store_cell sz21 rfl
theorem st21_1 : ∀ {a : UInt8} {H : AH} {i o : Nat}, storeA Try.prog 21 ⟨false, i, o⟩ (bv a) H = (H.cells? i).bind fun l => gd (o < l.length) (some (H.set i (some (.cells (l.set o (bv a)))))) := store_cell sz21 rfl
theorem cv2_21 : ∀ {k : IntKind} {a : Int} {H : AH}, convertA Try.prog 2 21 (.int k a) H = some (.int .i32 (IntKind.i32.wrap a), H) := conv_int Try.underlying21 (by rw [Try.underlying2]; rfl)
theorem cv3_21 : ∀ {k : IntKind} {a : Int} {H : AH}, convertA Try.prog 3 21 (.int k a) H = some (.int .i32 (IntKind.i32.wrap a), H) := conv_int Try.underlying21 (by rw [Try.underlying3]; rfl)
theorem cv5_21 : ∀ {k : IntKind} {a : Int} {H : AH}, convertA Try.prog 5 21 (.int k a) H = some (.int .i32 (IntKind.i32.wrap a), H) := conv_int Try.underlying21 (by rw [Try.underlying5]; rfl)
theorem cv12_21 : ∀ {k : IntKind} {a : Int} {H : AH}, convertA Try.prog 12 21 (.int k a) H = some (.int .i32 (IntKind.i32.wrap a), H) := conv_int Try.underlying21 (by rw [Try.underlying12]; rfl)
theorem cv21_21 : ∀ {k : IntKind} {a : Int} {H : AH}, convertA Try.prog 21 21 (.int k a) H = some (.int .i32 (IntKind.i32.wrap a), H) := conv_int Try.underlying21 (by rw [Try.underlying21]; rfl)
theorem cv22_21 : ∀ {k : IntKind} {a : Int} {H : AH}, convertA Try.prog 22 21 (.int k a) H = some (.int .i32 (IntKind.i32.wrap a), H) := conv_int Try.underlying21 (by rw [Try.underlying22]; rfl)
theorem cv48_21 : ∀ {k : IntKind} {a : Int} {H : AH}, convertA Try.prog 48 21 (.int k a) H = some (.int .i32 (IntKind.i32.wrap a), H) := conv_int Try.underlying21 (by rw [Try.underlying48]; rfl)
theorem cv57_21 : ∀ {k : IntKind} {a : Int} {H : AH}, convertA Try.prog 57 21 (.int k a) H = some (.int .i32 (IntKind.i32.wrap a), H) := conv_int Try.underlying21 (by rw [Try.underlying57]; rfl)
theorem ld22 : ∀ {p : AAddr} {H : AH}, loadA Try.prog 22 p H = (H.get p).bind fun cs => cs[p.off]? := load_cell ag22
theorem pt22 : ∀ {cs : List AV} {o : Nat}, partA Try.prog 22 cs o = cs[o]? := part_cell ag22
theorem st22_0 : ∀ {k : IntKind} {a : Int} {H : AH} {i o : Nat}, storeA Try.prog 22 ⟨false, i, o⟩ (.int k a) H = (H.cells? i).bind fun l => gd (o < l.length) (some (H.set i (some (.cells (l.set o (.int k a)))))) := store_cell sz22 rfl
theorem st22_1 : ∀ {a : UInt8} {H : AH} {i o : Nat}, storeA Try.prog 22 ⟨false, i, o⟩ (bv a) H = (H.cells? i).bind fun l => gd (o < l.length) (some (H.set i (some (.cells (l.set o (bv a)))))) := store_cell sz22 rfl
theorem cv2_22 : ∀ {k : IntKind} {a : Int} {H : AH}, convertA Try.prog 2 22 (.int k a) H = some (.int .i64 (IntKind.i64.wrap a), H) := conv_int Try.underlying22 (by rw [Try.underlying2]; rfl)
theorem cv3_22 : ∀ {k : IntKind} {a : Int} {H : AH}, convertA Try.prog 3 22 (.int k a) H = some (.int .i64 (IntKind.i64.wrap a), H) := conv_int Try.underlying22 (by rw [Try.underlying3]; rfl)
theorem cv5_22 : ∀ {k : IntKind} {a : Int} {H : AH}, convertA Try.prog 5 22 (.int k a) H = some (.int .i64 (IntKind.i64.wrap a), H) := conv_int Try.underlying22 (by rw [Try.underlying5]; rfl)
theorem cv12_22 : ∀ {k : IntKind} {a : Int} {H : AH}, convertA Try.prog 12 22 (.int k a) H = some (.int .i64 (IntKind.i64.wrap a), H) := conv_int Try.underlying22 (by rw [Try.underlying12]; rfl)
theorem cv21_22 : ∀ {k : IntKind} {a : Int} {H : AH}, convertA Try.prog 21 22 (.int k a) H = some (.int .i64 (IntKind.i64.wrap a), H) := conv_int Try.underlying22 (by rw [Try.underlying21]; rfl)
theorem cv22_22 : ∀ {k : IntKind} {a : Int} {H : AH}, convertA Try.prog 22 22 (.int k a) H = some (.int .i64 (IntKind.i64.wrap a), H) := conv_int Try.underlying22 (by rw [Try.underlying22]; rfl)
theorem cv48_22 : ∀ {k : IntKind} {a : Int} {H : AH}, convertA Try.prog 48 22 (.int k a) H = some (.int .i64 (IntKind.i64.wrap a), H) := conv_int Try.underlying22 (by rw [Try.underlying48]; rfl)
theorem cv57_22 : ∀ {k : IntKind} {a : Int} {H : AH}, convertA Try.prog 57 22 (.int k a) H = some (.int .i64 (IntKind.i64.wrap a), H) := conv_int Try.underlying22 (by rw [Try.underlying57]; rfl)
theorem ld31 : ∀ {p : AAddr} {H : AH}, loadA Try.prog 31 p H = (H.get p).bind fun cs => gd (p.off + 4 ≤ cs.length) (some (.agg ((cs.drop p.off).take 4))) := load_agg ag31 sz31
theorem pt31 : ∀ {cs : List AV} {o : Nat}, partA Try.prog 31 cs o = gd (o + 4 ≤ cs.length) (some (.agg ((cs.drop o).take 4))) := part_agg ag31 sz31
theorem sta31 : ∀ {vs : List AV} {H : AH} {i o : Nat}, storeA Try.prog 31 ⟨false, i, o⟩ (.agg vs) H = gd (vs.length = 4) (gdb (vs.all oneA) ((H.cells? i).bind fun l0 => gd (o + 4 ≤ l0.length) (some (H.set i (some (.cells (putL l0 o vs))))))) := store_aggs (n := 3) sz31
theorem fa31_0 : ∀ {p : AAddr}, fieldAddrA Try.prog 31 (.ptr p) 0 = some (.ptr ⟨p.ro, p.blk, p.off + 0⟩) := fa_struct Try.underlying31 (ft := 5) (o := 0) rfl (m := 0) sz5
theorem fl31_0 : ∀ {cs : List AV}, fieldA Try.prog 31 (.agg cs) 0 = partA Try.prog 5 cs 0 := fl_struct Try.underlying31 (ft := 5) (o := 0) rfl
theorem fa31_1 : ∀ {p : AAddr}, fieldAddrA Try.prog 31 (.ptr p) 1 = some (.ptr ⟨p.ro, p.blk, p.off + 1⟩) := fa_struct Try.underlying31 (ft := 5) (o := 1) rfl (m := 0) sz5
theorem fl31_1 : ∀ {cs : List AV}, fieldA Try.prog 31 (.agg cs) 1 = partA Try.prog 5 cs 1 := fl_struct Try.underlying31 (ft := 5) (o := 1) rfl
theorem fa31_2 : ∀ {p : AAddr}, fieldAddrA Try.prog 31 (.ptr p) 2 = some (.ptr ⟨p.ro, p.blk, p.off + 2⟩) := fa_struct Try.underlying31 (ft := 3) (o := 2) rfl (m := 0) sz3
theorem fl31_2 : ∀ {cs : List AV}, fieldA Try.prog 31 (.agg cs) 2 = partA Try.prog 3 cs 2 := fl_struct Try.underlying31 (ft := 3) (o := 2) rfl
theorem fa31_3 : ∀ {p : AAddr}, fieldAddrA Try.prog 31 (.ptr p) 3 = some (.ptr ⟨p.ro, p.blk, p.off + 3⟩) := fa_struct Try.underlying31 (ft := 3) (o := 3) rfl (m := 0) sz3
theorem fl31_3 : ∀ {cs : List AV}, fieldA Try.prog 31 (.agg cs) 3 = partA Try.prog 3 cs 3 := fl_struct Try.underlying31 (ft := 3) (o := 3) rfl
theorem ld32 : ∀ {p : AAddr} {H : AH}, loadA Try.prog 32 p H = (H.get p).bind fun cs => gd (p.off + 4 ≤ cs.length) (some (.agg ((cs.drop p.off).take 4))) := load_agg ag32 sz32
theorem pt32 : ∀ {cs : List AV} {o : Nat}, partA Try.prog 32 cs o = gd (o + 4 ≤ cs.length) (some (.agg ((cs.drop o).take 4))) := part_agg ag32 sz32
theorem sta32 : ∀ {vs : List AV} {H : AH} {i o : Nat}, storeA Try.prog 32 ⟨false, i, o⟩ (.agg vs) H = gd (vs.length = 4) (gdb (vs.all oneA) ((H.cells? i).bind fun l0 => gd (o + 4 ≤ l0.length) (some (H.set i (some (.cells (putL l0 o vs))))))) := store_aggs (n := 3) sz32
theorem fa32_0 : ∀ {p : AAddr}, fieldAddrA Try.prog 32 (.ptr p) 0 = some (.ptr ⟨p.ro, p.blk, p.off + 0⟩) := fa_struct Try.underlying32 (ft := 5) (o := 0) rfl (m := 0) sz5
theorem fl32_0 : ∀ {cs : List AV}, fieldA Try.prog 32 (.agg cs) 0 = partA Try.prog 5 cs 0 := fl_struct Try.underlying32 (ft := 5) (o := 0) rfl
theorem fa32_1 : ∀ {p : AAddr}, fieldAddrA Try.prog 32 (.ptr p) 1 = some (.ptr ⟨p.ro, p.blk, p.off + 1⟩) := fa_struct Try.underlying32 (ft := 5) (o := 1) rfl (m := 0) sz5
theorem fl32_1 : ∀ {cs : List AV}, fieldA Try.prog 32 (.agg cs) 1 = partA Try.prog 5 cs 1 := fl_struct Try.underlying32 (ft := 5) (o := 1) rfl
theorem fa32_2 : ∀ {p : AAddr}, fieldAddrA Try.prog 32 (.ptr p) 2 = some (.ptr ⟨p.ro, p.blk, p.off + 2⟩) := fa_struct Try.underlying32 (ft := 3) (o := 2) rfl (m := 0) sz3
theorem fl32_2 : ∀ {cs : List AV}, fieldA Try.prog 32 (.agg cs) 2 = partA Try.prog 3 cs 2 := fl_struct Try.underlying32 (ft := 3) (o := 2) rfl
theorem fa32_3 : ∀ {p : AAddr}, fieldAddrA Try.prog 32 (.ptr p) 3 = some (.ptr ⟨p.ro, p.blk, p.off + 3⟩) := fa_struct Try.underlying32 (ft := 3) (o := 3) rfl (m := 0) sz3
theorem fl32_3 : ∀ {cs : List AV}, fieldA Try.prog 32 (.agg cs) 3 = partA Try.prog 3 cs 3 := fl_struct Try.underlying32 (ft := 3) (o := 3) rfl
theorem ld43 : ∀ {p : AAddr} {H : AH}, loadA Try.prog 43 p H = (H.get p).bind fun cs => gd (p.off + 255 ≤ cs.length) (some (.agg ((cs.drop p.off).take 255))) := load_agg ag43 sz43
theorem pt43 : ∀ {cs : List AV} {o : Nat}, partA Try.prog 43 cs o = gd (o + 255 ≤ cs.length) (some (.agg ((cs.drop o).take 255))) := part_agg ag43 sz43
theorem sta43 : ∀ {vs : List AV} {H : AH} {i o : Nat}, storeA Try.prog 43 ⟨false, i, o⟩ (.agg vs) H = gd (vs.length = 255) (gdb (vs.all oneA) ((H.cells? i).bind fun l0 => gd (o + 255 ≤ l0.length) (some (H.set i (some (.cells (putL l0 o vs))))))) := store_aggs (n := 254) sz43
theorem la43 : ∀ {v : AV}, lenA Try.prog 43 v = some (.int .i64 255) := len_arr Try.underlying43
theorem ia43 : ∀ {p : AAddr} {k : IntKind} {a : Int}, indexAddrA Try.prog 43 (.ptr p) (.int k a) = gd (0 ≤ a ∧ a < (255 : Nat)) (some (.ptr ⟨p.ro, p.blk, p.off + a.toNat * 1⟩)) := ixa_arr Try.underlying43 sz5
theorem xa43 : ∀ {cs : List AV} {k : IntKind} {a : Int}, indexA Try.prog 43 (.agg cs) (.int k a) = gd (0 ≤ a ∧ a < (255 : Nat)) (partA Try.prog 5 cs (a.toNat * 1)) := ix_arr Try.underlying43 sz5
theorem sa43 : ∀ {p : AAddr} {lo hi mx : Option AV}, sliceOpA Try.prog 43 (.ptr p) lo hi mx = cutKnown p 1 255 255 lo hi mx := slc_arr Try.underlying43 sz5
theorem ld44 : ∀ {p : AAddr} {H : AH}, loadA Try.prog 44 p H = (H.get p).bind fun cs => gd (p.off + 256 ≤ cs.length) (some (.agg ((cs.drop p.off).take 256))) := load_agg ag44 sz44
theorem pt44 : ∀ {cs : List AV} {o : Nat}, partA Try.prog 44 cs o = gd (o + 256 ≤ cs.length) (some (.agg ((cs.drop o).take 256))) := part_agg ag44 sz44
theorem sta44 : ∀ {vs : List AV} {H : AH} {i o : Nat}, storeA Try.prog 44 ⟨false, i, o⟩ (.agg vs) H = gd (vs.length = 256) (gdb (vs.all oneA) ((H.cells? i).bind fun l0 => gd (o + 256 ≤ l0.length) (some (H.set i (some (.cells (putL l0 o vs))))))) := store_aggs (n := 255) sz44
theorem la44 : ∀ {v : AV}, lenA Try.prog 44 v = some (.int .i64 256) := len_arr Try.underlying44
theorem ia44 : ∀ {p : AAddr} {k : IntKind} {a : Int}, indexAddrA Try.prog 44 (.ptr p) (.int k a) = gd (0 ≤ a ∧ a < (256 : Nat)) (some (.ptr ⟨p.ro, p.blk, p.off + a.toNat * 1⟩)) := ixa_arr Try.underlying44 sz3
theorem xa44 : ∀ {cs : List AV} {k : IntKind} {a : Int}, indexA Try.prog 44 (.agg cs) (.int k a) = gd (0 ≤ a ∧ a < (256 : Nat)) (partA Try.prog 3 cs (a.toNat * 1)) := ix_arr Try.underlying44 sz3
theorem sa44 : ∀ {p : AAddr} {lo hi mx : Option AV}, sliceOpA Try.prog 44 (.ptr p) lo hi mx = cutKnown p 1 256 256 lo hi mx := slc_arr Try.underlying44 sz3
theorem ld48 : ∀ {p : AAddr} {H : AH}, loadA Try.prog 48 p H = (H.get p).bind fun cs => cs[p.off]? := load_cell ag48
theorem pt48 : ∀ {cs : List AV} {o : Nat}, partA Try.prog 48 cs o = cs[o]? := part_cell ag48
theorem st48_0 : ∀ {k : IntKind} {a : Int} {H : AH} {i o : Nat}, storeA Try.prog 48 ⟨false, i, o⟩ (.int k a) H = (H.cells? i).bind fun l => gd (o < l.length) (some (H.set i (some (.cells (l.set o (.int k a)))))) := store_cell sz48 rfl
theorem st48_1 : ∀ {a : UInt8} {H : AH} {i o : Nat}, storeA Try.prog 48 ⟨false, i, o⟩ (bv a) H = (H.cells? i).bind fun l => gd (o < l.length) (some (H.set i (some (.cells (l.set o (bv a)))))) := store_cell sz48 rfl
theorem cv2_48 : ∀ {k : IntKind} {a : Int} {H : AH}, convertA Try.prog 2 48 (.int k a) H = some (.int .u64 (IntKind.u64.wrap a), H) := conv_int Try.underlying48 (by rw [Try.underlying2]; rfl)
theorem cv3_48 : ∀ {k : IntKind} {a : Int} {H : AH}, convertA Try.prog 3 48 (.int k a) H = some (.int .u64 (IntKind.u64.wrap a), H) := conv_int Try.underlying48 (by rw [Try.underlying3]; rfl)
theorem cv5_48 : ∀ {k : IntKind} {a : Int} {H : AH}, convertA Try.prog 5 48 (.int k a) H = some (.int .u64 (IntKind.u64.wrap a), H) := conv_int Try.underlying48 (by rw [Try.underlying5]; rfl)
theorem cv12_48 : ∀ {k : IntKind} {a : Int} {H : AH}, convertA Try.prog 12 48 (.int k a) H = some (.int .u64 (IntKind.u64.wrap a), H) := conv_int Try.underlying48 (by rw [Try.underlying12]; rfl)
theorem cv21_48 : ∀ {k : IntKind} {a : Int} {H : AH}, convertA Try.prog 21 48 (.int k a) H = some (.int .u64 (IntKind.u64.wrap a), H) := conv_int Try.underlying48 (by rw [Try.underlying21]; rfl)
theorem cv22_48 : ∀ {k : IntKind} {a : Int} {H : AH}, convertA Try.prog 22 48 (.int k a) H = some (.int .u64 (IntKind.u64.wrap a), H) := conv_int Try.underlying48 (by rw [Try.underlying22]; rfl)
theorem cv48_48 : ∀ {k : IntKind} {a : Int} {H : AH}, convertA Try.prog 48 48 (.int k a) H = some (.int .u64 (IntKind.u64.wrap a), H) := conv_int Try.underlying48 (by rw [Try.underlying48]; rfl)
theorem cv57_48 : ∀ {k : IntKind} {a : Int} {H : AH}, convertA Try.prog 57 48 (.int k a) H = some (.int .u64 (IntKind.u64.wrap a), H) := conv_int Try.underlying48 (by rw [Try.underlying57]; rfl)
theorem ld51 : ∀ {p : AAddr} {H : AH}, loadA Try.prog 51 p H = (H.get p).bind fun cs => gd (p.off + 4 ≤ cs.length) (some (.agg ((cs.drop p.off).take 4))) := load_agg ag51 sz51
theorem pt51 : ∀ {cs : List AV} {o : Nat}, partA Try.prog 51 cs o = gd (o + 4 ≤ cs.length) (some (.agg ((cs.drop o).take 4))) := part_agg ag51 sz51
theorem sta51 : ∀ {vs : List AV} {H : AH} {i o : Nat}, storeA Try.prog 51 ⟨false, i, o⟩ (.agg vs) H = gd (vs.length = 4) (gdb (vs.all oneA) ((H.cells? i).bind fun l0 => gd (o + 4 ≤ l0.length) (some (H.set i (some (.cells (putL l0 o vs))))))) := store_aggs (n := 3) sz51
theorem fa51_3 : ∀ {p : AAddr}, fieldAddrA Try.prog 51 (.ptr p) 3 = some (.ptr ⟨p.ro, p.blk, p.off + 3⟩) := fa_struct Try.underlying51 (ft := 9) (o := 3) rfl (m := 0) sz9
theorem fl51_3 : ∀ {cs : List AV}, fieldA Try.prog 51 (.agg cs) 3 = partA Try.prog 9 cs 3 := fl_struct Try.underlying51 (ft := 9) (o := 3) rfl
theorem ld57 : ∀ {p : AAddr} {H : AH}, loadA Try.prog 57 p H = (H.get p).bind fun cs => cs[p.off]? := load_cell ag57
theorem pt57 : ∀ {cs : List AV} {o : Nat}, partA Try.prog 57 cs o = cs[o]? := part_cell ag57
theorem st57_0 : ∀ {k : IntKind} {a : Int} {H : AH} {i o : Nat}, storeA Try.prog 57 ⟨false, i, o⟩ (.int k a) H = (H.cells? i).bind fun l => gd (o < l.length) (some (H.set i (some (.cells (l.set o (.int k a)))))) := store_cell sz57 rfl
theorem st57_1 : ∀ {a : UInt8} {H : AH} {i o : Nat}, storeA Try.prog 57 ⟨false, i, o⟩ (bv a) H = (H.cells? i).bind fun l => gd (o < l.length) (some (H.set i (some (.cells (l.set o (bv a)))))) := store_cell sz57 rfl
theorem cv2_57 : ∀ {k : IntKind} {a : Int} {H : AH}, convertA Try.prog 2 57 (.int k a) H = some (.int .u32 (IntKind.u32.wrap a), H) := conv_int Try.underlying57 (by rw [Try.underlying2]; rfl)
theorem cv3_57 : ∀ {k : IntKind} {a : Int} {H : AH}, convertA Try.prog 3 57 (.int k a) H = some (.int .u32 (IntKind.u32.wrap a), H) := conv_int Try.underlying57 (by rw [Try.underlying3]; rfl)
theorem cv5_57 : ∀ {k : IntKind} {a : Int} {H : AH}, convertA Try.prog 5 57 (.int k a) H = some (.int .u32 (IntKind.u32.wrap a), H) := conv_int Try.underlying57 (by rw [Try.underlying5]; rfl)
theorem cv12_57 : ∀ {k : IntKind} {a : Int} {H : AH}, convertA Try.prog 12 57 (.int k a) H = some (.int .u32 (IntKind.u32.wrap a), H) := conv_int Try.underlying57 (by rw [Try.underlying12]; rfl)
theorem cv21_57 : ∀ {k : IntKind} {a : Int} {H : AH}, convertA Try.prog 21 57 (.int k a) H = some (.int .u32 (IntKind.u32.wrap a), H) := conv_int Try.underlying57 (by rw [Try.underlying21]; rfl)
theorem cv22_57 : ∀ {k : IntKind} {a : Int} {H : AH}, convertA Try.prog 22 57 (.int k a) H = some (.int .u32 (IntKind.u32.wrap a), H) := conv_int Try.underlying57 (by rw [Try.underlying22]; rfl)
theorem cv48_57 : ∀ {k : IntKind} {a : Int} {H : AH}, convertA Try.prog 48 57 (.int k a) H = some (.int .u32 (IntKind.u32.wrap a), H) := conv_int Try.underlying57 (by rw [Try.underlying48]; rfl)
theorem cv57_57 : ∀ {k : IntKind} {a : Int} {H : AH}, convertA Try.prog 57 57 (.int k a) H = some (.int .u32 (IntKind.u32.wrap a), H) := conv_int Try.underlying57 (by rw [Try.underlying57]; rfl)
theorem ld61 : ∀ {p : AAddr} {H : AH}, loadA Try.prog 61 p H = (H.get p).bind fun cs => cs[p.off]? := load_cell ag61
theorem pt61 : ∀ {cs : List AV} {o : Nat}, partA Try.prog 61 cs o = cs[o]? := part_cell ag61
theorem st61_0 : ∀ {a : AAddr} {H : AH} {i o : Nat}, storeA Try.prog 61 ⟨false, i, o⟩ (.ptr a) H = (H.cells? i).bind fun l => gd (o < l.length) (some (H.set i (some (.cells (l.set o (.ptr a)))))) := store_cell sz61 rfl
theorem st61_1 : ∀  {H : AH} {i o : Nat}, storeA Try.prog 61 ⟨false, i, o⟩ .nilptr H = (H.cells? i).bind fun l => gd (o < l.length) (some (H.set i (some (.cells (l.set o .nilptr))))) := store_cell sz61 rfl
theorem eqptrnil61 : ∀ {p : AAddr}, binA Try.prog .eql 61 (.ptr p) .nilptr = some (.bool false) := eq_ptr_nil Try.underlying61
theorem neptrnil61 : ∀ {p : AAddr}, binA Try.prog .neq 61 (.ptr p) .nilptr = some (.bool true) := ne_ptr_nil Try.underlying61
theorem eqnn61 : binA Try.prog .eql 61 .nilptr .nilptr = some (.bool true) := eq_nilptr Try.underlying61
theorem nenn61 : binA Try.prog .neq 61 .nilptr .nilptr = some (.bool false) := ne_nilptr Try.underlying61
theorem ld64 : ∀ {p : AAddr} {H : AH}, loadA Try.prog 64 p H = (H.get p).bind fun cs => gd (p.off + 11 ≤ cs.length) (some (.agg ((cs.drop p.off).take 11))) := load_agg ag64 sz64
theorem pt64 : ∀ {cs : List AV} {o : Nat}, partA Try.prog 64 cs o = gd (o + 11 ≤ cs.length) (some (.agg ((cs.drop o).take 11))) := part_agg ag64 sz64
theorem sta64 : ∀ {vs : List AV} {H : AH} {i o : Nat}, storeA Try.prog 64 ⟨false, i, o⟩ (.agg vs) H = gd (vs.length = 11) (gdb (vs.all oneA) ((H.cells? i).bind fun l0 => gd (o + 11 ≤ l0.length) (some (H.set i (some (.cells (putL l0 o vs))))))) := store_aggs (n := 10) sz64
theorem fa64_0 : ∀ {p : AAddr}, fieldAddrA Try.prog 64 (.ptr p) 0 = some (.ptr ⟨p.ro, p.blk, p.off + 0⟩) := fa_struct Try.underlying64 (ft := 12) (o := 0) rfl (m := 0) sz12
theorem fl64_0 : ∀ {cs : List AV}, fieldA Try.prog 64 (.agg cs) 0 = partA Try.prog 12 cs 0 := fl_struct Try.underlying64 (ft := 12) (o := 0) rfl
theorem fa64_1 : ∀ {p : AAddr}, fieldAddrA Try.prog 64 (.ptr p) 1 = some (.ptr ⟨p.ro, p.blk, p.off + 1⟩) := fa_struct Try.underlying64 (ft := 12) (o := 1) rfl (m := 0) sz12
theorem fl64_1 : ∀ {cs : List AV}, fieldA Try.prog 64 (.agg cs) 1 = partA Try.prog 12 cs 1 := fl_struct Try.underlying64 (ft := 12) (o := 1) rfl
theorem fa64_2 : ∀ {p : AAddr}, fieldAddrA Try.prog 64 (.ptr p) 2 = some (.ptr ⟨p.ro, p.blk, p.off + 2⟩) := fa_struct Try.underlying64 (ft := 57) (o := 2) rfl (m := 0) sz57
theorem fl64_2 : ∀ {cs : List AV}, fieldA Try.prog 64 (.agg cs) 2 = partA Try.prog 57 cs 2 := fl_struct Try.underlying64 (ft := 57) (o := 2) rfl
theorem fa64_4 : ∀ {p : AAddr}, fieldAddrA Try.prog 64 (.ptr p) 4 = some (.ptr ⟨p.ro, p.blk, p.off + 4⟩) := fa_struct Try.underlying64 (ft := 5) (o := 4) rfl (m := 0) sz5
theorem fl64_4 : ∀ {cs : List AV}, fieldA Try.prog 64 (.agg cs) 4 = partA Try.prog 5 cs 4 := fl_struct Try.underlying64 (ft := 5) (o := 4) rfl
theorem fa64_5 : ∀ {p : AAddr}, fieldAddrA Try.prog 64 (.ptr p) 5 = some (.ptr ⟨p.ro, p.blk, p.off + 5⟩) := fa_struct Try.underlying64 (ft := 5) (o := 5) rfl (m := 0) sz5
theorem fl64_5 : ∀ {cs : List AV}, fieldA Try.prog 64 (.agg cs) 5 = partA Try.prog 5 cs 5 := fl_struct Try.underlying64 (ft := 5) (o := 5) rfl
theorem fa64_8 : ∀ {p : AAddr}, fieldAddrA Try.prog 64 (.ptr p) 8 = some (.ptr ⟨p.ro, p.blk, p.off + 8⟩) := fa_struct Try.underlying64 (ft := 61) (o := 8) rfl (m := 0) sz61
theorem fl64_8 : ∀ {cs : List AV}, fieldA Try.prog 64 (.agg cs) 8 = partA Try.prog 61 cs 8 := fl_struct Try.underlying64 (ft := 61) (o := 8) rfl
theorem ld66 : ∀ {p : AAddr} {H : AH}, loadA Try.prog 66 p H = (H.get p).bind fun cs => cs[p.off]? := load_cell ag66
theorem pt66 : ∀ {cs : List AV} {o : Nat}, partA Try.prog 66 cs o = cs[o]? := part_cell ag66
attribute [go_sem] sz2 ze2 Try.underlying2 sz3 ze3 Try.underlying3 sz4 ze4 Try.underlying4 sz5 ze5 Try.underlying5 sz7 ze7 Try.underlying7 sz9 ze9 Try.underlying9 sz12 ze12 Try.underlying12 sz13 ze13 Try.underlying13 sz18 ze18 Try.underlying18 sz21 ze21 Try.underlying21 sz22 ze22 Try.underlying22 sz31 ze31 Try.underlying31 sz32 ze32 Try.underlying32 sz43
attribute [go_sem] ze43 Try.underlying43 sz44 ze44 Try.underlying44 sz48 ze48 Try.underlying48 sz51 ze51 Try.underlying51 sz57 ze57 Try.underlying57 sz61 ze61 Try.underlying61 sz64 ze64 Try.underlying64 sz66 ze66 Try.underlying66 ld2 pt2 st2_0 st2_1 cv2_2 cv3_2 cv5_2 cv12_2 cv21_2 cv22_2 cv48_2 cv57_2 ld3 pt3 st3_0 st3_1 cv2_3
attribute [go_sem] cv3_3 cv5_3 cv12_3 cv21_3 cv22_3 cv48_3 cv57_3 ld4 pt4 st4_0 eb4 nb4 ld5 pt5 st5_0 st5_1 cv2_5 cv3_5 cv5_5 cv12_5 cv21_5 cv22_5 cv48_5 cv57_5 ld7 pt7 sta7 fa7_0 fl7_0 fa7_1 fl7_1 fa7_2 fl7_2 ld9 pt9 st9_0 ls9 is9 ss9 ld12
attribute [go_sem] pt12 st12_0 st12_1 cv2_12 cv3_12 cv5_12 cv12_12 cv21_12 cv22_12 cv48_12 cv57_12 ld13 pt13 sta13 fa13_0 fl13_0 fa13_1 fl13_1 ld18 pt18 sta18 ld21 pt21 st21_0 st21_1 cv2_21 cv3_21 cv5_21 cv12_21 cv21_21 cv22_21 cv48_21 cv57_21 ld22 pt22 st22_0 st22_1 cv2_22 cv3_22 cv5_22
attribute [go_sem] cv12_22 cv21_22 cv22_22 cv48_22 cv57_22 ld31 pt31 sta31 fa31_0 fl31_0 fa31_1 fl31_1 fa31_2 fl31_2 fa31_3 fl31_3 ld32 pt32 sta32 fa32_0 fl32_0 fa32_1 fl32_1 fa32_2 fl32_2 fa32_3 fl32_3 ld43 pt43 sta43 la43 ia43 xa43 sa43 ld44 pt44 sta44 la44 ia44 xa44
attribute [go_sem] sa44 ld48 pt48 st48_0 st48_1 cv2_48 cv3_48 cv5_48 cv12_48 cv21_48 cv22_48 cv48_48 cv57_48 ld51 pt51 sta51 fa51_3 fl51_3 ld57 pt57 st57_0 st57_1 cv2_57 cv3_57 cv5_57 cv12_57 cv21_57 cv22_57 cv48_57 cv57_57 ld61 pt61 st61_0 st61_1 eqptrnil61 neptrnil61 eqnn61 nenn61 ld64 pt64
attribute [go_sem] sta64 fa64_0 fl64_0 fa64_1 fl64_1 fa64_2 fl64_2 fa64_4 fl64_4 fa64_5 fl64_5 fa64_8 fl64_8 ld66 pt66
end Go.Proofs.Ytjhnclfddgfbkaa
