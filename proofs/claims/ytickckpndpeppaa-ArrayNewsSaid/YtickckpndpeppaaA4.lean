/- What each operation does to the abstract state. -/
import Derived.Test.YtickckpndpeppaaA3
set_option linter.unusedVariables false
set_option linter.unusedSimpArgs false
namespace Go.Abs
open Go Go.RowKit

def aeval (fr : AFr) : Operand → AV
  | .tmp t => lget fr t
  | .const v => absV 0 v
  | .global _ => .unk
  | .func f => .func f []

def sizeA (P : Program) (t : TypeId) : Option Nat := (P.info? t).map (·.size)
def bytesA (P : Program) (t : TypeId) : Option Nat := (P.info? t).map (·.bytes)
def zeroA (P : Program) (t : TypeId) : Option (List AV) := (P.info? t).bind fun i => i.zero.map fun z => absL 0 z.cells.toList
def isAggD : TypeDesc → Bool
  | .struct _ | .array .. => true
  | _ => false
def aggA (P : Program) (t : TypeId) : Option Bool := (P.underlying t).map isAggD

def partA (P : Program) (t : TypeId) (cs : List AV) (off : Nat) : Option AV :=
  (aggA P t).bind fun g => if g then (sizeA P t).bind fun n => if off + n ≤ cs.length then some (.agg ((cs.drop off).take n)) else none else cs[off]?

def loadA (P : Program) (t : TypeId) (a : AAddr) (H : AH) : Option AV := (H.get a).bind fun cs => partA P t cs a.off

def cellsA : AV → Option (List AV)
  | .unk => none
  | .tup _ => none
  | .agg l => some l
  | v => some [v]

def oneA : AV → Bool
  | .unk | .agg _ | .tup _ => false
  | _ => true

def storeCellsA (H : AH) (i o : Nat) : List AV → Option AH
  | [] => some H
  | v :: r => if oneA v then (H.cells? i).bind fun l => if o < l.length then storeCellsA (H.set i (some (.cells (l.set o v)))) i (o + 1) r else none else none

def storeA (P : Program) (t : TypeId) (a : AAddr) (v : AV) (H : AH) : Option AH :=
  (cellsA v).bind fun vs => if sizeA P t = some vs.length ∧ a.ro = false then storeCellsA H a.blk a.off vs else none

def newA (H : AH) (l : List AV) : AV × AH := (.ptr ⟨false, H.n, 0⟩, H.push (some (.cells l)))

def repA (z : List AV) (c : Nat) : List AV :=
  match z with
  | [x] => List.replicate c x
  | _ => (List.range (c * z.length)).map fun i => z.getD (i % z.length) .unk

/-- Parts laid into cells. -/
def putAt (cs : List AV) (o : Nat) : List AV → List AV
  | [] => cs
  | v :: r => putAt (cs.set o v) (o + 1) r

def fillA (place : Nat → Option (Nat × Nat)) (cells : List AV) : List (Nat × AV) → Option (List AV)
  | [] => some cells
  | (i, v) :: rest => (place i).bind fun p => (cellsA v).bind fun vs =>
    if vs.length = p.2 ∧ p.1 + vs.length ≤ cells.length then fillA place (putAt cells p.1 vs) rest else none

def placesA (P : Program) : List Field → Option (List (Nat × Nat))
  | [] => some []
  | f :: l => (sizeA P f.type).bind fun n => (placesA P l).map fun r => (f.offset, n) :: r

def buildA (P : Program) (t : TypeId) (parts : List (Nat × AV)) : Option AV :=
  (zeroA P t).bind fun zero =>
  match P.underlying t with
  | some (.struct fields) => (placesA P fields.toList).bind fun pl => (fillA (fun i => pl[i]?) zero parts).map .agg
  | some (.array _ elem) => (sizeA P elem).bind fun size => (fillA (fun i => some (i * size, size)) zero parts).map .agg
  | _ => none

def buildSliceA (P : Program) (t : TypeId) (len : Nat) (parts : List (Nat × AV)) (H : AH) : Option (AV × AH) :=
  match P.underlying t with
  | some (.slice elem) => (sizeA P elem).bind fun size => (zeroA P elem).bind fun zero =>
    if len * size ≤ 16777216 ∧ zero.length = size ∧ 0 < size then
      (fillA (fun i => some (i * size, size)) (repA zero len) parts).map fun cells => (.slice ⟨false, H.n, 0⟩ len (.known len), H.push (some (.cells cells)))
    else none
  | _ => none

def makeSliceA (P : Program) (t : TypeId) (len cap : AV) (H : AH) : Option (AV × AH) :=
  match P.underlying t, len, cap with
  | some (.slice elem), .int _ l, .int _ c => (sizeA P elem).bind fun size => (bytesA P elem).bind fun bytes => (zeroA P elem).bind fun zero =>
    if 0 ≤ l ∧ l ≤ c ∧ c ≤ 140737488355328 ∧ c * bytes ≤ 140737488355328 ∧ zero.length = size ∧ 0 < size then
      some (.slice ⟨false, H.n, 0⟩ l.toNat (.known c.toNat), H.push (some (.cells (repA zero c.toNat))))
    else none
  | _, _, _ => none

def intOpA (op : BinOp) (k : IntKind) (x y : Int) : Option AV :=
  match op with
  | .add => some (.int k (k.wrap (x + y)))
  | .sub => some (.int k (k.wrap (x - y)))
  | .mul => some (.int k (k.wrap (x * y)))
  | .quo => if y = 0 then none else some (.int k (k.wrap (x.tdiv y)))
  | .rem => if y = 0 then none else some (.int k (x.tmod y))
  | .and => some (.int k (k.wrap ((BitVec.ofInt k.bits x &&& BitVec.ofInt k.bits y).toNat)))
  | .or => some (.int k (k.wrap ((BitVec.ofInt k.bits x ||| BitVec.ofInt k.bits y).toNat)))
  | .xor => some (.int k (k.wrap ((BitVec.ofInt k.bits x ^^^ BitVec.ofInt k.bits y).toNat)))
  | .andNot => some (.int k (k.wrap ((BitVec.ofInt k.bits x &&& ~~~BitVec.ofInt k.bits y).toNat)))
  | .eql => some (.bool (x == y))
  | .neq => some (.bool (x != y))
  | .lss => some (.bool (x < y))
  | .leq => some (.bool (x ≤ y))
  | .gtr => some (.bool (x > y))
  | .geq => some (.bool (x ≥ y))
  | _ => none

def shiftA (op : BinOp) (k : IntKind) (x y : Int) : Option AV :=
  if y < 0 then none else
  match op with
  | .shl => some (.int k (k.wrap (x * 2 ^ min y.toNat k.bits)))
  | .shr => some (.int k (x.fdiv (2 ^ min y.toNat k.bits)))
  | _ => none

def strOpA (op : BinOp) (x y : ByteArray) : Option AV :=
  match op with
  | .eql => some (.bool (x.toList == y.toList))
  | .neq => some (.bool !(x.toList == y.toList))
  | .lss => some (.bool (Op.bytesLess x.toList y.toList))
  | .leq => some (.bool (Op.bytesLess x.toList y.toList || x.toList == y.toList))
  | .gtr => some (.bool !(Op.bytesLess x.toList y.toList || x.toList == y.toList))
  | .geq => some (.bool !(Op.bytesLess x.toList y.toList))
  | _ => none

/-- A slice that is surely not nil. -/
def sureSlice (n : Nat) : Cap → Bool
  | .known _ => true
  | .grow _ => decide (0 < n)

def eqA (d : TypeDesc) (x y : AV) : Option Bool :=
  match d, x, y with
  | .bool, .bool a, .bool b => some (a == b)
  | .slice _, .nilslice, .nilslice => some true
  | .slice _, .nilslice, .slice _ n c => if sureSlice n c then some false else none
  | .slice _, .slice _ n c, .nilslice => if sureSlice n c then some false else none
  | .pointer _, .nilptr, .nilptr => some true
  | .pointer _, .nilptr, .ptr _ => some false
  | .pointer _, .ptr _, .nilptr => some false
  | _, _, _ => none

/-- Structs and arrays of numbers and truths, part by part. -/
def eqFs (eq : TypeId → AV → AV → Option Bool) (P : Program) (xs ys : List AV) : List Field → Option Bool
  | [] => some true
  | f :: l => if f.name = "_" then eqFs eq P xs ys l else (partA P f.type xs f.offset).bind fun p => (partA P f.type ys f.offset).bind fun q => (eq f.type p q).bind fun b => (eqFs eq P xs ys l).map fun c => b && c
def eqEs (eq : AV → AV → Option Bool) (P : Program) (e : TypeId) (sz : Nat) (xs ys : List AV) : List Nat → Option Bool
  | [] => some true
  | i :: l => (partA P e xs (i * sz)).bind fun p => (partA P e ys (i * sz)).bind fun q => (eq p q).bind fun b => (eqEs eq P e sz xs ys l).map fun c => b && c
def eqD (P : Program) : Nat → TypeId → AV → AV → Option Bool
  | 0, _, _, _ => none
  | d + 1, t, x, y =>
    match P.underlying t, x, y with
    | some .bool, .bool a, .bool b => some (a == b)
    | some (.int _), .int k a, .int k' b => if k = k' then some (a == b) else none
    | some (.struct fs), .agg xs, .agg ys => if P.stoodInHeld t then none else eqFs (eqD P d) P xs ys fs.toList
    | some (.array n e), .agg xs, .agg ys => (sizeA P e).bind fun sz => eqEs (eqD P d e) P e sz xs ys (List.range n)
    | _, _, _ => none
def eqAgg (P : Program) (t : TypeId) (x y : AV) : Option Bool := if P.eqGuardType P.depth t then none else eqD P 6 t x y

def binA (P : Program) (op : BinOp) (t : TypeId) (x y : AV) : Option AV :=
  match x, y with
  | .int k a, .int k' b =>
    match op with
    | .shl => shiftA .shl k a b
    | .shr => shiftA .shr k a b
    | op => if k = k' then intOpA op k a b else none
  | .str a, .str b => strOpA op a b
  | .agg a, .agg b =>
    match op with
    | .eql => (eqAgg P t (.agg a) (.agg b)).map .bool
    | .neq => (eqAgg P t (.agg a) (.agg b)).map fun b => .bool !b
    | _ => none
  | x, y =>
    match op with
    | .eql => (P.underlying t).bind fun d => (eqA d x y).map .bool
    | .neq => (P.underlying t).bind fun d => (eqA d x y).map fun b => .bool !b
    | _ => none

def unA (op : UnOp) (x : AV) : Option AV :=
  match op, x with
  | .neg, .int k n => intOpA .sub k 0 n
  | .xor, .int k n => intOpA .xor k (if k.signed then -1 else k.max) n
  | .not, .bool b => some (.bool !b)
  | _, _ => none

def boundA (v : AV) (y : Nat) : Option Nat :=
  match v with
  | .int _ i => if 0 ≤ i ∧ i ≤ y then some i.toNat else none
  | _ => none

def optB (v : Option AV) (y d : Nat) : Option Nat :=
  match v with
  | some v => boundA v y
  | none => some d

def cutA (a : AAddr) (sz l h m : Nat) : AV := .slice (if m = l then a else ⟨a.ro, a.blk, a.off + l * sz⟩) (h - l) (.known (m - l))

def cutKnown (a : AAddr) (sz n c : Nat) (lo hi mx : Option AV) : Option AV :=
  (optB mx c c).bind fun m => (if mx.isSome && hi.isNone then none else optB hi m n).bind fun h => (optB lo h 0).map fun l => cutA a sz l h m

def sliceOpA (P : Program) (t : TypeId) (x : AV) (lo hi mx : Option AV) : Option AV :=
  match P.underlying t, x with
  | some (.slice e), .slice a n (.known c) => (sizeA P e).bind fun sz => cutKnown a sz n c lo hi mx
  | some (.slice e), .slice a n (.grow sz') => (sizeA P e).bind fun sz =>
    if sz' = sz ∧ a.ro = false then
      match mx with
      | none => (optB hi n n).bind fun h => (optB lo h 0).map fun l => .slice ⟨false, a.blk, a.off + l * sz⟩ (h - l) (.grow sz)
      | some _ => if 0 < n then (optB mx n n).bind fun m => (if hi.isNone then none else optB hi m n).bind fun h => (optB lo h 0).map fun l => cutA a sz l h m else none
    else none
  | some (.slice e), .nilslice => (sizeA P e).bind fun _ => (optB mx 0 0).bind fun m => (if mx.isSome && hi.isNone then none else optB hi m 0).bind fun h => (optB lo h 0).map fun _ => .nilslice
  | some (.array n e), .ptr a => (sizeA P e).bind fun sz => cutKnown a sz n n lo hi mx
  | some .string, .str s => if mx.isSome then none else (optB hi s.size s.size).bind fun h => (optB lo h 0).map fun l => .str (s.extract l h)
  | some (.pointer arr), .ptr a =>
    match P.underlying arr with
    | some (.array n e) => (sizeA P e).bind fun sz => cutKnown a sz n n lo hi mx
    | _ => none
  | _, _ => none

def indexAddrA (P : Program) (t : TypeId) (x i : AV) : Option AV :=
  match P.underlying t, x, i with
  | some (.array n e), .ptr a, .int _ i => (sizeA P e).bind fun sz => if 0 ≤ i ∧ i < n then some (.ptr ⟨a.ro, a.blk, a.off + i.toNat * sz⟩) else none
  | some (.slice e), .slice a n _, .int _ i => (sizeA P e).bind fun sz => if 0 ≤ i ∧ i < n then some (.ptr ⟨a.ro, a.blk, a.off + i.toNat * sz⟩) else none
  | _, _, _ => none

def indexA (P : Program) (t : TypeId) (x i : AV) : Option AV :=
  match P.underlying t, x, i with
  | some (.array n e), .agg cs, .int _ i => (sizeA P e).bind fun sz => if 0 ≤ i ∧ i < n then partA P e cs (i.toNat * sz) else none
  | some .string, .str s, .int _ i => if 0 ≤ i then (s[i.toNat]?).map fun b => .int .u8 b.toNat else none
  | _, _, _ => none

def fieldAddrA (P : Program) (s : TypeId) (x : AV) (f : Nat) : Option AV :=
  match P.underlying s, x with
  | some (.struct fields), .ptr a => (fields[f]?).bind fun f => if sizeA P f.type = some 0 ∨ sizeA P f.type = none then none else some (.ptr ⟨a.ro, a.blk, a.off + f.offset⟩)
  | _, _ => none

def fieldA (P : Program) (t : TypeId) (x : AV) (f : Nat) : Option AV :=
  match P.underlying t, x with
  | some (.struct fields), .agg cs => (fields[f]?).bind fun f => partA P f.type cs f.offset
  | _, _ => none

def byteA : AV → Option UInt8
  | .int .u8 n => some (UInt8.ofNat n.toNat)
  | _ => none

def bytesOfA : List AV → Option (List UInt8)
  | [] => some []
  | v :: l => (byteA v).bind fun b => (bytesOfA l).map fun r => b :: r

def slen : AV → Nat
  | .slice _ n _ => n
  | _ => 0

/-- The cells of a slice. -/
def rowA (H : AH) (sz : Nat) (x : AV) : Option (List AV) :=
  match x with
  | .nilslice => some []
  | .slice a n _ => (H.get a).bind fun cs => if a.off + n * sz ≤ cs.length ∨ n * sz = 0 then some ((cs.drop a.off).take (n * sz)) else none
  | _ => none

def isKnown : Cap → Bool
  | .known c => decide (0 < c)
  | _ => false

def isByteT (P : Program) (e : TypeId) : Bool :=
  match P.underlying e with
  | some (.int .u8) => true
  | _ => false

def convertA (P : Program) (src dst : TypeId) (x : AV) (H : AH) : Option (AV × AH) :=
  match P.underlying src, P.underlying dst, x with
  | some _, some (.int k), .int _ n => some (.int k (k.wrap n), H)
  | some (.slice e), some .string, x =>
    match P.underlying e with
    | some (.int .u8) => (rowA H 1 x).bind fun cs => (bytesOfA cs).map fun bs => (.str ⟨bs.toArray⟩, H)
    | _ => none
  | some (.slice _), some (.slice e), .slice a n c => if src = dst ∧ a.ro = false ∧ (H.cells? a.blk).isSome ∧ isKnown c = true ∧ isByteT P e = true then some (.slice a n c, H) else none
  | _, _, _ => none

def lenA (P : Program) (t : TypeId) (x : AV) : Option AV :=
  match P.underlying t, x with
  | some .string, .str s => some (.int .i64 s.size)
  | some (.array n _), _ => some (.int .i64 n)
  | some (.slice _), .slice _ n _ => some (.int .i64 n)
  | some (.slice _), .nilslice => some (.int .i64 0)
  | _, _ => none

def min2A : AV → AV → Option AV
  | .int k x, .int _ y => some (.int k (if y < x then y else x))
  | _, _ => none
def max2A : AV → AV → Option AV
  | .int k x, .int _ y => some (.int k (if y > x then y else x))
  | _, _ => none

def foldA (f : AV → AV → Option AV) : AV → List AV → Option AV
  | x, [] => some x
  | x, y :: l => (f x y).bind fun z => foldA f z l

/-- How many elements, and their cells. -/
def newsA (H : AH) (sz : Nat) (x : AV) : Option (Nat × List AV) :=
  match x with
  | .nilslice => some (0, [])
  | .slice _ n _ => (rowA H sz x).map fun cs => (n, cs)
  | .str s => if sz = 1 then some (s.size, s.data.toList.map fun b => .int .u8 b.toNat) else none
  | _ => none

/-- What goes behind a slice: so many elements, these cells ('append(x, make([]T, n)...)' has a number in the slice's place). -/
def moreA (P : Program) (xt : TypeId) (zero : List AV) (sz : Nat) (H : AH) (x : AV) : Option (Nat × List AV) :=
  match P.underlying xt, x with
  | some (.int _), .int .i64 l => if 0 ≤ l ∧ l ≤ 140737488355328 then some (l.toNat, repA zero l.toNat) else none
  | some (.slice _), x => newsA H sz x
  | some .string, x => newsA H sz x
  | _, _ => none

def appendTo0 (sz bytes : Nat) (H : AH) (k : Nat) (news : List AV) (s : AV) : Option (AV × AH) :=
  match s with
  | .nilslice => if k ≤ 140737488355328 ∧ k * bytes ≤ 140737488355328 then some (.slice ⟨false, H.n, 0⟩ k (.grow sz), H.push (some (.cells news))) else none
  | .slice a n (.grow sz') =>
    if sz' = sz ∧ a.ro = false ∧ n + k ≤ 140737488355328 ∧ (n + k) * bytes ≤ 140737488355328 then
      (H.cells? a.blk).bind fun l => if a.off + n * sz = l.length then
        some (.slice ⟨false, H.n, 0⟩ (n + k) (.grow sz), (H.set a.blk none).push (some (.cells (l.drop a.off ++ news)))) else none
    else none
  | .slice a n (.known c) =>
    if n + k ≤ 140737488355328 ∧ (n + k) * bytes ≤ 140737488355328 ∧ n ≤ c then
      if c = 0 then some (.slice ⟨false, H.n, 0⟩ k (.grow sz), H.push (some (.cells news)))
      else if k = 0 then some (.slice a n (.known c), H)
      else if c < n + k then
        (H.get a).bind fun l => if a.off + n * sz ≤ l.length then some (.slice ⟨false, H.n, 0⟩ (n + k) (.grow sz), H.push (some (.cells ((l.drop a.off).take (n * sz) ++ news)))) else none
      else none
    else none
  | _ => none

/-- Of a grown slice that was cut short only what is left counts. -/
def trimA (H : AH) (sz : Nat) (s : AV) : AH :=
  match s with
  | .slice a n (.grow _) => (match H.cells? a.blk with
    | some l => if a.off + n * sz < l.length then H.set a.blk (some (.cells (l.take (a.off + n * sz)))) else H
    | none => H)
  | _ => H
def appendTo (sz bytes : Nat) (H : AH) (k : Nat) (news : List AV) (s : AV) : Option (AV × AH) := appendTo0 sz bytes (trimA H sz s) k news s

def appendA (P : Program) (st xt : TypeId) (s x : AV) (H : AH) : Option (AV × AH) :=
  match P.underlying st with
  | some (.slice e) => (sizeA P e).bind fun sz => (bytesA P e).bind fun bytes => (zeroA P e).bind fun zero =>
    if zero.length = sz ∧ 0 < sz then (moreA P xt zero sz H x).bind fun kn => if kn.2.all oneA = true then appendTo sz bytes H kn.1 kn.2 s else none
    else none
  | _ => none

def copyA (P : Program) (dt : TypeId) (d x : AV) (H : AH) : Option (AV × AH) :=
  match P.underlying dt with
  | some (.slice e) => (sizeA P e).bind fun sz => (newsA H sz x).bind fun kn =>
    match d with
    | .nilslice => some (.int .i64 0, H)
    | .slice a n _ => if a.ro = false ∧ (H.cells? a.blk).isSome then (storeCellsA H a.blk a.off (kn.2.take (min kn.1 n * sz))).map fun H' => (.int .i64 (min kn.1 n : Nat), H') else none
    | _ => none
  | _ => none

def clearA (P : Program) (t : TypeId) (x : AV) (H : AH) : Option (AV × AH) :=
  match P.underlying t with
  | some (.slice e) => (zeroA P e).bind fun zero =>
    match x with
    | .nilslice => some (.tup [], H)
    | .slice a n _ => if n = 0 then some (.tup [], H) else if (a.ro = false ∧ (H.cells? a.blk).isSome) ∧ 0 < zero.length then (storeCellsA H a.blk a.off (repA zero n)).map fun H' => (.tup [], H') else none
    | _ => none
  | _ => none

def builtinA (P : Program) (b : Builtin) (ts : List TypeId) (xs : List AV) (H : AH) : Option (AV × AH) :=
  match b, ts, xs with
  | .len, [t], [x] => (lenA P t x).map fun v => (v, H)
  | .append, [st, xt], [s, x] => appendA P st xt s x H
  | .copy, [dt, _], [d, x] => copyA P dt d x H
  | .clear, [t], [x] => clearA P t x H
  | .min, _, x :: l => (foldA min2A x l).map fun v => (v, H)
  | .max, _, x :: l => (foldA max2A x l).map fun v => (v, H)
  | _, _, _ => none

def isIfaceD : TypeDesc → Bool
  | .interface _ => true
  | _ => false
def zeroV (P : Program) (t : TypeId) : Option AV := (P.info? t).bind fun i => i.zero.map (absV 0)
/-- A value in an interface; and what an assertion to a type that is no interface makes of one. -/
def ifaceA (P : Program) (t : TypeId) (v : AV) : Option AV := (P.underlying t).bind fun d => if isIfaceD d then none else some (.iface t v)
def assertV (z : Option AV) (t : TypeId) (ok : Bool) : AV → Option AV
  | .iface t' x => if t' = t then some (if ok then .tup [x, .bool true] else x) else if ok then z.map fun z => .tup [z, .bool false] else none
  | .nilif => if ok then z.map fun z => .tup [z, .bool false] else none
  | _ => none
def assertA (P : Program) (t : TypeId) (ok : Bool) (v : AV) : Option AV := (P.underlying t).bind fun d => if isIfaceD d then none else assertV (zeroV P t) t ok v

def opA (P : Program) (fr : AFr) (H : AH) (op : Op) : Option (AV × AH) :=
  match op with
  | .move x | .assign x => some (aeval fr x, H)
  | .pick c a b => (match aeval fr c with | .bool t => some (if t then aeval fr a else aeval fr b, H) | _ => none)
  | .alloc t => (zeroA P t).map fun z => newA H z
  | .box _ x => (cellsA (aeval fr x)).map fun l => newA H l
  | .build t ps => (buildA P t (ps.toList.map fun p => (p.1, aeval fr p.2))).map fun v => (v, H)
  | .buildSlice t n ps => buildSliceA P t n (ps.toList.map fun p => (p.1, aeval fr p.2)) H
  | .load t a => (match aeval fr a with | .ptr p => (loadA P t p H).map fun v => (v, H) | _ => none)
  | .store t a x => (match aeval fr a with | .ptr p => (storeA P t p (aeval fr x) H).map fun H' => (.unk, H') | _ => none)
  | .nilCheck x => (match aeval fr x with | .ptr p => some (.ptr p, H) | .func f l => some (.func f l, H) | _ => none)
  | .binOp op t x y _ => (binA P op t (aeval fr x) (aeval fr y)).map fun v => (v, H)
  | .unOp op _ x => (unA op (aeval fr x)).map fun v => (v, H)
  | .convert s d x => convertA P s d (aeval fr x) H
  | .makeFunc (.func f) first cap => if first.size = 0 then some (.func f (cap.toList.map (aeval fr)), H) else none
  | .makeSlice t l c => makeSliceA P t (aeval fr l) (aeval fr c) H
  | .slice t x lo hi mx => (sliceOpA P t (aeval fr x) (lo.map (aeval fr)) (hi.map (aeval fr)) (mx.map (aeval fr))).map fun v => (v, H)
  | .fieldAddr s x f => (fieldAddrA P s (aeval fr x) f).map fun v => (v, H)
  | .field t x f => (fieldA P t (aeval fr x) f).map fun v => (v, H)
  | .indexAddr t x i => (indexAddrA P t (aeval fr x) (aeval fr i)).map fun v => (v, H)
  | .index t x i => (indexA P t (aeval fr x) (aeval fr i)).map fun v => (v, H)
  | .extract x i => (match aeval fr x with | .tup l => (l[i]?).map fun v => (v, H) | _ => none)
  | .makeInterface t x => (ifaceA P t (aeval fr x)).map fun v => (v, H)
  | .typeAssert x _ t ok => (assertA P t ok (aeval fr x)).map fun v => (v, H)
  | .call { callee := .builtin b, args, argTypes } => builtinA P b argTypes.toList (args.toList.map (aeval fr)) H
  | _ => none

end Go.Abs
