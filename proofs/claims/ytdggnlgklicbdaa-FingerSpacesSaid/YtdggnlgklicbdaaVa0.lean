import Derived.Calls
import Derived.KernelRfl
import Derived.Deep.AppendSrc
import Derived.Laws.Strings
import Derived.Laws.Strings2
set_option linter.all false
namespace Go.Ve
open Go
inductive Own where
  | no
  | cap
  | own (s : Nat)
  | nil
  | mem
  deriving DecidableEq, Inhabited
inductive AV where
  | undef
  | bool (b : Bool)
  | int (k : IntKind) (n : Int)
  | str (s : List UInt8)
  | nilPtr
  | ptr (id off : Nat)
  | rptr (cells : List AV) (off : Nat)
  | list (rows : List (List AV)) (o : Own)
  | slc (id off len s : Nat)
  | nilMap
  | map (id : Nat)
  | nilFunc
  | func (fn : Fn) (first captured : List AV)
  | nilIface
  | iface (t : TypeId) (v : AV)
  | agg (cells : List AV)
  | tuple (vs : List AV)
  deriving Inhabited
inductive AObj where
  | arr (cells : List AV) (ro : Bool)
  | map (es : List (AV × AV))
  | siter (s : List UInt8) (pos : Nat)
  deriving Inhabited
abbrev H := List AObj
mutual
def AV.eqb : AV → AV → Bool
  | .undef, .undef => true
  | .bool a, .bool b => a == b
  | .int k a, .int k' b => decide (k = k') && decide (a = b)
  | .str a, .str b => decide (a = b)
  | .nilPtr, .nilPtr => true
  | .ptr i o, .ptr i' o' => Nat.beq i i' && Nat.beq o o'
  | .rptr c o, .rptr c' o' => eqbL c c' && Nat.beq o o'
  | .list r o, .list r' o' => eqbR r r' && decide (o = o')
  | .slc i o l s, .slc i' o' l' s' => Nat.beq i i' && Nat.beq o o' && Nat.beq l l' && Nat.beq s s'
  | .nilMap, .nilMap => true
  | .map i, .map i' => Nat.beq i i'
  | .nilFunc, .nilFunc => true
  | .func f a b, .func f' a' b' => decide (f = f') && eqbL a a' && eqbL b b'
  | .nilIface, .nilIface => true
  | .iface t v, .iface t' v' => Nat.beq t t' && AV.eqb v v'
  | .agg c, .agg c' => eqbL c c'
  | .tuple c, .tuple c' => eqbL c c'
  | _, _ => false
def eqbL : List AV → List AV → Bool
  | [], [] => true
  | a :: l, b :: l' => AV.eqb a b && eqbL l l'
  | _, _ => false
def eqbR : List (List AV) → List (List AV) → Bool
  | [], [] => true
  | a :: l, b :: l' => eqbL a b && eqbR l l'
  | _, _ => false
end
namespace AV
def cells : AV → List AV
  | .agg cs => cs
  | v => [v]
def one : AV → Bool
  | .undef | .agg _ | .tuple _ => false
  | _ => true
def copyCell : AV → AV
  | .list rows (.own _) => .list rows .no
  | .agg _ => .undef
  | .tuple _ => .undef
  | v => v
def copyAgg : AV → AV
  | .agg cs => .agg (cs.map copyCell)
  | v => v.copyCell
def copy : AV → AV
  | .tuple vs => .tuple (vs.map copyAgg)
  | v => v.copyAgg
def ofCell : Value → AV
  | .bool b => .bool b
  | .int k n => .int k n
  | .string s => .str s.data.toList
  | .pointer none => .nilPtr
  | .slice none 0 0 => .list [] .cap
  | .map none => .nilMap
  | .nilFunc => .nilFunc
  | .nilIface => .nilIface
  | _ => .undef
def ofVal : Value → AV
  | .agg cs => .agg (cs.toList.map ofCell)
  | v => ofCell v
end AV
def AV.canonCell : AV → AV
  | .list rows _ => .list rows .no
  | v => v
def AV.canon : AV → AV
  | .agg cs => .agg (cs.map AV.canonCell)
  | v => v.canonCell
section
variable (P : Program)
def isAgg (t : TypeId) : Bool :=
  match P.underlying t with
  | some (.struct _) | some (.array _ _) => true
  | _ => false
def isCell (t : TypeId) : Bool :=
  match P.underlying t with
  | none | some (.struct _) | some (.array _ _) => false
  | _ => true
def zero (t : TypeId) : Option AV := ((P.info? t).bind (·.zero)).map AV.ofVal
def elemOf (t : TypeId) : Option TypeId :=
  match P.underlying t with
  | some (.slice e) => some e
  | _ => none
def cellAt (cells : List AV) (off : Nat) : Option AV := cells[off]?
def aggAt (n : Nat) (cells : List AV) (off : Nat) : Option AV :=
  if off + n ≤ cells.length then some (.agg ((cells.drop off).take n)) else none
def cellsAt (h : H) : AV → Option (List AV × Nat)
  | .rptr cells off => some (cells, off)
  | .ptr id off =>
    match h[id]? with
    | some (.arr cells _) => some (cells, off)
    | _ => none
  | _ => none
def ldCell (h : H) (a : AV) : Option AV := (cellsAt h a).bind fun p => cellAt p.1 p.2
def ldAgg (n : Nat) (h : H) (a : AV) : Option AV := (cellsAt h a).bind fun p => aggAt n p.1 p.2
def splice (cells : List AV) (off : Nat) : AV → Option (List AV)
  | .agg vs => if off + vs.length ≤ cells.length then some (cells.take off ++ vs ++ cells.drop (off + vs.length)) else none
  | v => if off < cells.length then some (cells.set off v) else none
def stN (n : Nat) (h : H) (a v : AV) : Option (AV × H) :=
  match a with
  | .ptr id off =>
    match h[id]? with
    | some (.arr cells false) => if v.cells.length = n ∧ v.cells.all AV.one then (splice cells off v).map fun cs => (.undef, h.set id (.arr cs false)) else none
    | _ => none
  | _ => none
def ldTake (h : H) (a : AV) : Option (AV × H) := (ldCell h a).bind fun v => (stN 1 h a v.copy).map fun p => (v, p.2)
def bx (h : H) (v : AV) : Option (AV × H) := if v.cells.all AV.one then some (.ptr h.length 0, h ++ [.arr v.cells false]) else none
def fAddr (off : Nat) : AV → Option AV
  | .ptr id o => some (.ptr id (o + off))
  | .rptr cells o => some (.rptr cells (o + off))
  | _ => none
def fCell (off : Nat) : AV → Option AV
  | .agg cs => cs[off]?
  | _ => none
def fAgg (off n : Nat) : AV → Option AV
  | .agg cs => aggAt n cs off
  | _ => none
def natOf : AV → Option Nat
  | .int _ n => if 0 ≤ n then some n.toNat else none
  | _ => none
def ixSlice (s : Nat) (x ix : AV) : Option AV :=
  (natOf ix).bind fun i =>
    match x with
    | .list rows _ => match rows[i]? with
      | some r => if r.length = s then some (.rptr r 0) else none
      | none => none
    | .slc id off len s' => if i < len ∧ s' = s then some (.ptr id (off + i * s)) else none
    | _ => none
def ixArray (s n : Nat) (x ix : AV) : Option AV :=
  (natOf ix).bind fun i => if i < n then fAddr (i * s) x else none
def ixStr (x ix : AV) : Option AV :=
  (natOf ix).bind fun i =>
    match x with
    | .str s => match s[i]? with
      | some b => some (.int .u8 b.toNat)
      | none => none
    | _ => none
def ixAgg (agg : Bool) (s n : Nat) (x ix : AV) : Option AV :=
  (natOf ix).bind fun i => if i < n then (if agg then fAgg (i * s) s x else fCell (i * s) x) else none
def part (t : TypeId) (cells : List AV) (off : Nat) : Option AV :=
  if isAgg P t then aggAt (P.cellsOf t) cells off else if isCell P t then cellAt cells off else none
def load (t : TypeId) (h : H) (a : AV) : Option AV := if isAgg P t then ldAgg (P.cellsOf t) h a else if isCell P t then ldCell h a else none
def storeTo (t : TypeId) (h : H) (a v : AV) : Option (AV × H) := if (P.info? t).isSome then stN (P.cellsOf t) h a v else none
def fieldOf (t : TypeId) (i : Nat) : Option Field :=
  match P.underlying t with
  | some (.struct fs) => fs[i]?
  | _ => none
def field (t : TypeId) (x : AV) (i : Nat) : Option AV :=
  match fieldOf P t i with
  | some f => if isAgg P f.type then fAgg f.offset (P.cellsOf f.type) x else if isCell P f.type then fCell f.offset x else none
  | none => none
def fieldAddr (t : TypeId) (x : AV) (i : Nat) : Option AV :=
  match fieldOf P t i with
  | none => none
  | some f => if P.cellsOf f.type = 0 ∨ (P.info? f.type).isNone then none else fAddr f.offset x
def indexAddr (t : TypeId) (x ix : AV) : Option AV :=
  match P.underlying t with
  | some (.slice e) => if (P.info? e).isSome then ixSlice (P.cellsOf e) x ix else none
  | some (.array n e) => if (P.info? e).isSome then ixArray (P.cellsOf e) n x ix else none
  | _ => none
def index (t : TypeId) (x ix : AV) : Option AV :=
  match P.underlying t with
  | some .string => ixStr x ix
  | some (.array n e) => if isAgg P e || isCell P e then ixAgg (isAgg P e) (P.cellsOf e) n x ix else none
  | _ => none
def aeqFields (eq : TypeId → AV → AV → Option Bool) (xs ys : List AV) : List Field → Option Bool
  | [] => some true
  | f :: fs =>
    if f.name = "_" then aeqFields eq xs ys fs else
    (part P f.type xs f.offset).bind fun a => (part P f.type ys f.offset).bind fun b => (eq f.type a b).bind fun r => (aeqFields eq xs ys fs).map (r && ·)
def aeq : Nat → TypeId → AV → AV → Option Bool
  | 0, _, _, _ => none
  | d + 1, t, x, y =>
    match P.underlying t, x, y with
    | some .bool, .bool a, .bool b => some (a == b)
    | some (.int _), .int k a, .int k' b => if k = k' then some (a == b) else none
    | some .string, .str a, .str b => some (a == b)
    | some (.pointer _), .nilPtr, .nilPtr => some true
    | some (.pointer _), .nilPtr, .ptr _ _ => some false
    | some (.pointer _), .ptr _ _, .nilPtr => some false
    | some (.interface _), .nilIface, .iface _ _ => some false
    | some (.interface _), .iface _ _, .nilIface => some false
    | some (.interface _), .nilIface, .nilIface => some true
    | some (.struct fs), .agg xs, .agg ys => if P.stoodInHeld t then none else aeqFields P (aeq d) xs ys fs.toList
    | some (.map _ _), .map _, .nilMap => some false
    | some (.map _ _), .nilMap, .nilMap => some true
    | some (.func _ _ _), .func _ _ _, .nilFunc => some false
    | some (.func _ _ _), .nilFunc, .nilFunc => some true
    | _, _, _ => none
def intBits (op : BinOp) (k : IntKind) (x y : Int) : Option AV :=
  let a := BitVec.ofInt k.bits x
  let b := BitVec.ofInt k.bits y
  match op with
  | .and => some (.int k (k.wrap (a &&& b).toNat))
  | .or => some (.int k (k.wrap (a ||| b).toNat))
  | .xor => some (.int k (k.wrap (a ^^^ b).toNat))
  | .andNot => some (.int k (k.wrap (a &&& ~~~b).toNat))
  | _ => none
def intBin (op : BinOp) (k : IntKind) (a b : Int) : Option AV :=
  match op with
  | .add => some (.int k (k.wrap (a + b)))
  | .sub => some (.int k (k.wrap (a - b)))
  | .mul => some (.int k (k.wrap (a * b)))
  | .quo => if b = 0 then none else some (.int k (k.wrap (a.tdiv b)))
  | .rem => if b = 0 then none else some (.int k (a.tmod b))
  | .eql => some (.bool (a == b))
  | .neq => some (.bool (a != b))
  | .lss => some (.bool (a < b))
  | .leq => some (.bool (a ≤ b))
  | .gtr => some (.bool (a > b))
  | .geq => some (.bool (a ≥ b))
  | op => intBits op k a b
def strBin (op : BinOp) (a b : List UInt8) : Option AV :=
  match op with
  | .add => if a.length + b.length < 2 ^ 62 then some (.str (a ++ b)) else none
  | .eql => some (.bool (a == b))
  | .neq => some (.bool (!(a == b)))
  | .lss => some (.bool (Op.bytesLess a b))
  | .leq => some (.bool (Op.bytesLess a b || a == b))
  | .gtr => some (.bool (!(Op.bytesLess a b || a == b)))
  | .geq => some (.bool (!Op.bytesLess a b))
  | _ => none
def shiftBin (op : BinOp) (k : IntKind) (a b : Int) : Option AV :=
  if b < 0 then none else
  match op with
  | .shl => some (.int k (k.wrap (a * 2 ^ (min b.toNat k.bits))))
  | .shr => some (.int k (a.fdiv (2 ^ (min b.toNat k.bits))))
  | _ => none
def bin (op : BinOp) (x y : AV) : Option AV :=
  match op, x, y with
  | .shl, .int k a, .int _ b => shiftBin .shl k a b
  | .shr, .int k a, .int _ b => shiftBin .shr k a b
  | op, .int k a, .int k' b => if k = k' then intBin op k a b else none
  | op, .str a, .str b => strBin op a b
  | _, _, _ => none
def binBool (op : BinOp) (x y : AV) : Option AV :=
  match op, x, y with
  | .eql, .bool a, .bool b => some (.bool (a == b))
  | .neq, .bool a, .bool b => some (.bool (!(a == b)))
  | _, _, _ => none
def eqv (neq : Bool) (r : Option Bool) : Option AV := r.map fun b => .bool (neq != b)
def isFlat (t : TypeId) : Bool :=
  match P.underlying t with
  | some (.int _) | some .string => true
  | _ => false
def isBool (t : TypeId) : Bool :=
  match P.underlying t with
  | some .bool => true
  | _ => false
def isSlice (t : TypeId) : Bool :=
  match P.underlying t with
  | some (.slice _) => true
  | _ => false
def isStr (t : TypeId) : Bool :=
  match P.underlying t with
  | some .string => true
  | _ => false
def slNil (neq : Bool) : AV → Option AV
  | .list (_ :: _) _ => some (.bool neq)
  | .list [] .nil => some (.bool !neq)
  | .list [] .mem => some (.bool neq)
  | .slc _ _ (_ + 1) _ => some (.bool neq)
  | _ => none
def binOp (op : BinOp) (t : TypeId) (cst nilR : Bool) (x y : AV) : Option AV :=
  if isFlat P t then bin op x y else
  if isBool P t then binBool op x y else
  if isSlice P t then
    (if nilR then (match op with | .eql => slNil false x | .neq => slNil true x | _ => none) else none)
  else
  if (isAgg P t || !cst) && P.eqGuardType P.depth t then none else
  match op with
  | .eql => eqv false (aeq P 20 t x y)
  | .neq => eqv true (aeq P 20 t x y)
  | _ => none
def unOp (op : UnOp) (x : AV) : Option AV :=
  match op, x with
  | .neg, .int k n => some (.int k (k.wrap (0 - n)))
  | .xor, .int k n => intBits .xor k (if k.signed then -1 else k.max) n
  | .not, .bool b => some (.bool !b)
  | _, _ => none
def byteRow (b : UInt8) : List AV := [.int .u8 b.toNat]
def rowByte : List AV → Option UInt8
  | [.int .u8 n] => some (UInt8.ofNat n.toNat)
  | _ => none
def cellByte : AV → Option UInt8
  | .int .u8 n => some (UInt8.ofNat n.toNat)
  | _ => none
def cvInt (k : IntKind) : AV → Option AV
  | .int _ n => some (.int k (k.wrap n))
  | _ => none
def cvStr : AV → Option AV
  | .str s => some (.str s)
  | _ => none
def strBytes : AV → Option AV
  | .str s => some (.list (s.map byteRow) (.own 1))
  | _ => none
def bytesStr (h : H) : AV → Option AV
  | .list rows _ => (rows.mapM rowByte).map .str
  | .slc id off len _ =>
    match h[id]? with
    | some (.arr cells _) => if off + len ≤ cells.length then (((cells.drop off).take len).mapM cellByte).map .str else none
    | _ => none
  | _ => none
def isByte (e : TypeId) : Bool := P.underlying e matches some (.int .u8)
def convert (src dst : TypeId) (h : H) (x : AV) : Option AV :=
  match P.underlying src, P.underlying dst with
  | some (.int _), some (.int k) => cvInt k x
  | some .string, some .string => cvStr x
  | some .string, some (.slice e) => if isByte P e && P.cellsOf e == 1 then strBytes x else none
  | some (.slice e), some .string => if isByte P e && P.cellsOf e == 1 then bytesStr h x else none
  | _, _ => none
def mkAgg (z : List AV) (parts : List (Nat × Nat × AV)) : Option AV :=
  (parts.foldlM (fun cells p => if p.2.2.cells.length = p.2.1 ∧ p.2.2.cells.all AV.one = true ∧ p.1 + p.2.1 ≤ cells.length then some (cells.take p.1 ++ p.2.2.cells ++ cells.drop (p.1 + p.2.1)) else none) z).map .agg
def build (t : TypeId) (parts : List (Nat × AV)) : Option AV :=
  match zero P t, P.underlying t with
  | some z, some (.struct fs) => if z.cells.all AV.one && fs.all (fun f => (P.info? f.type).isSome) && parts.all (fun p => Nat.blt p.1 fs.size) then mkAgg z.cells (parts.map fun p => (((fs[p.1]?).map (·.offset)).getD 0, ((fs[p.1]?).map fun f => P.cellsOf f.type).getD 0, p.2)) else none
  | some z, some (.array _ e) => if z.cells.all AV.one && (P.info? e).isSome then mkAgg z.cells (parts.map fun p => (p.1 * P.cellsOf e, P.cellsOf e, p.2)) else none
  | _, _ => none
def mkRows (s : Nat) (z : List AV) (len : Nat) (parts : List (Nat × AV)) : Option AV :=
  (parts.foldlM (fun rows p => if p.2.cells.length = s ∧ p.2.cells.all AV.one ∧ p.1 < rows.length then some (rows.set p.1 p.2.canon.cells) else none) (List.replicate len z)).map fun rows => .list rows .cap
def buildSlice (t : TypeId) (len : Nat) (parts : List (Nat × AV)) : Option AV :=
  match elemOf P t with
  | none => none
  | some e =>
    match zero P e with
    | some z => if (P.info? e).isSome ∧ P.cellsOf e ≠ 0 ∧ len * P.cellsOf e ≤ 2 ^ 24 ∧ z.cells.length = P.cellsOf e ∧ z.cells.all AV.one then mkRows (P.cellsOf e) z.cells len parts else none
    | none => none
def mkSlice (s bytes : Nat) (z : List AV) (asList : Bool) (h : H) (l c : AV) : Option (AV × H) :=
  match l, c with
  | .int .i64 l, .int .i64 c =>
    if 0 ≤ l ∧ l ≤ c ∧ c < 2 ^ 40 ∧ c * bytes ≤ 2 ^ 46 then
      if asList then some (.list (List.replicate l.toNat z) (.own s), h)
      else some (.slc h.length 0 l.toNat s, h ++ [.arr ((List.replicate c.toNat z).flatten) false])
    else none
  | _, _ => none
def makeSlice (t : TypeId) (asList : Bool) (h : H) (l c : AV) : Option (AV × H) :=
  match elemOf P t with
  | some e =>
    match zero P e with
    | some z => if P.cellsOf e ≠ 0 ∧ z.cells.length = P.cellsOf e ∧ z.cells.all AV.one then mkSlice (P.cellsOf e) (P.bytesOf e) z.cells asList h l c else none
    | none => none
  | none => none
def bound (dflt : Nat) : Option AV → Option Nat
  | none => some dflt
  | some v => natOf v
def slStr (x : AV) (lo hi : Option AV) : Option AV :=
  match x with
  | .str s => (bound 0 lo).bind fun l => (bound s.length hi).bind fun h => if l ≤ h ∧ h ≤ s.length then some (.str ((s.take h).drop l)) else none
  | _ => none
def slSlice (s : Nat) (x : AV) (lo hi mx : Option AV) : Option AV :=
  match x with
  | .list rows _ =>
    (bound 0 lo).bind fun l => (bound rows.length hi).bind fun h =>
      if l ≤ h ∧ h ≤ rows.length ∧ rows.all (·.length == s) then
        match mx with
        | none => some (.list ((rows.take h).drop l) .no)
        | some m => if natOf m = some h ∧ hi.isSome then some (.list ((rows.take h).drop l) .cap) else none
      else none
  | .slc id off len s' =>
    match mx with
    | none => (bound 0 lo).bind fun l => (bound len hi).bind fun h => if l ≤ h ∧ h ≤ len ∧ s' = s then some (.slc id (off + l * s) (h - l) s) else none
    | some _ => none
  | _ => none
def slice (t : TypeId) (x : AV) (lo hi mx : Option AV) : Option AV :=
  match P.underlying t with
  | some .string => if mx.isNone then slStr x lo hi else none
  | some (.slice e) => if (P.info? e).isSome then slSlice (P.cellsOf e) x lo hi mx else none
  | _ => none
def lnStr : AV → Option AV
  | .str s => some (.int .i64 s.length)
  | _ => none
def lnSl : AV → Option AV
  | .list rows _ => some (.int .i64 rows.length)
  | .slc _ _ len _ => some (.int .i64 len)
  | _ => none
def lnMap (h : H) : AV → Option AV
  | .nilMap => some (.int .i64 0)
  | .map id => match h[id]? with
    | some (.map es) => some (.int .i64 es.length)
    | _ => none
  | _ => none
def alen (t : TypeId) (h : H) (x : AV) : Option AV :=
  match P.underlying t with
  | some .string => lnStr x
  | some (.slice _) => lnSl x
  | some (.map _ _) => lnMap h x
  | some (.array n _) => some (.int .i64 n)
  | _ => none
def chunks (s : Nat) : Nat → List AV → List (List AV)
  | 0, _ => []
  | n + 1, cs => cs.take s :: chunks s n (cs.drop s)
def rowsOf (s : Nat) (byte : Bool) (h : H) : AV → Option (List (List AV))
  | .list rows _ => some rows
  | .slc id off len s' =>
    match h[id]? with
    | some (.arr cells _) => if s' = s ∧ off + len * s ≤ cells.length then some ((chunks s len (cells.drop off)).map (·.map AV.copyCell)) else none
    | _ => none
  | .str b => if byte && s == 1 then some (b.map byteRow) else none
  | _ => none
def mayApp (o : Own) (s : Nat) (owned : Bool) : Bool :=
  match o with
  | .cap => true
  | .own s' => s' == s && owned
  | _ => false
def apSlice (s bytes : Nat) (byte owned : Bool) (h : H) (x y : AV) : Option AV :=
  match x with
  | .list rows o =>
    (rowsOf s byte h y).bind fun more =>
      if mayApp o s owned ∧ s ≠ 0 ∧ rows.all (·.length == s) ∧ more.all (·.length == s) ∧ (rows.length + more.length) * bytes ≤ 2 ^ 46 ∧ rows.length + more.length < 2 ^ 46 then
        some (.list (rows ++ more) (.own s))
      else none
  | _ => none
def apObj (s bytes : Nat) (byte : Bool) (h : H) (x y : AV) : Option (AV × H) :=
  match x with
  | .list [] .cap =>
    (rowsOf s byte h y).bind fun more =>
      if s ≠ 0 ∧ more.all (·.length == s) ∧ more.length * bytes ≤ 2 ^ 46 ∧ more.length < 2 ^ 46 then
        some (.slc h.length 0 more.length s, h ++ [.arr (more.flatten.map AV.copyCell) false])
      else none
  | _ => none
def appendObj (e : TypeId) (h : H) (x y : AV) : Option (AV × H) :=
  match zero P e with
  | some z => if z.cells.length = P.cellsOf e ∧ z.cells.all AV.one then apObj (P.cellsOf e) (P.bytesOf e) (isByte P e) h x y else none
  | none => none
def appendTo (e : TypeId) (h : H) (owned : Bool) (x y : AV) : Option AV :=
  match zero P e with
  | some z => if z.cells.length = P.cellsOf e ∧ z.cells.all AV.one then apSlice (P.cellsOf e) (P.bytesOf e) (isByte P e) owned h x y else none
  | none => none
def maxMin (isMax : Bool) : AV → AV → Option AV
  | .int k x, .int _ y => some (.int k (if isMax then (if y > x then y else x) else (if y < x then y else x)))
  | _, _ => none
def maxMinAll (isMax : Bool) : List AV → Option AV
  | [] => none
  | x :: rest => rest.foldlM (maxMin isMax) x
def keyEq (x y : AV) : Option Bool :=
  match x, y with
  | .int k a, .int k' b => if k = k' then some (a == b) else none
  | .str a, .str b => some (a == b)
  | .bool a, .bool b => some (a == b)
  | _, _ => none
def findKey (x : AV) : List (AV × AV) → Nat → Option (Option Nat)
  | [], _ => some none
  | e :: es, i => match keyEq x e.1 with
    | some true => some (some i)
    | some false => findKey x es (i + 1)
    | none => none
inductive KK where
  | int | str | bool
def isKey : KK → AV → Bool
  | .int, .int _ _ | .str, .str _ | .bool, .bool _ => true
  | _, _ => false
def mapEs (h : H) : AV → Option (List (AV × AV))
  | .nilMap => some []
  | .map id => match h[id]? with
    | some (.map es) => some es
    | _ => none
  | _ => none
def lkMap (kk : KK) (z : AV) (h : H) (x ix : AV) (ok : Bool) : Option AV :=
  if isKey kk ix then
    (mapEs h x).bind fun es => (findKey ix es 0).bind fun r =>
      let v := match r with
        | some i => ((es[i]?).map fun (e : AV × AV) => e.2).getD .undef
        | none => z
      some (if ok then .tuple [v, .bool r.isSome] else v)
  else none
def keyKind (k : TypeId) : Option KK :=
  match P.underlying k with
  | some (.int _) => some .int
  | some .string => some .str
  | some .bool => some .bool
  | _ => none
def lookup (t : TypeId) (h : H) (x ix : AV) (ok : Bool) : Option AV :=
  match P.underlying t with
  | some (.map k e) =>
    match zero P e, keyKind P k with
    | some z, some kk => lkMap kk z h x ix ok
    | _, _ => none
  | _ => none
def upMap (kk : KK) (h : H) (x k v : AV) : Option (AV × H) :=
  match x with
  | .map id =>
    match h[id]? with
    | some (.map es) =>
      if isKey kk k then
        (findKey k es 0).bind fun r =>
          match r with
          | some i => some (.undef, h.set id (.map (es.modify i fun _ => (k, v.copy))))
          | none => some (.undef, h.set id (.map (es ++ [(k, v.copy)])))
      else none
    | _ => none
  | _ => none
def mapUpdate (t : TypeId) (h : H) (x k v : AV) : Option (AV × H) :=
  match P.underlying t with
  | some (.map kt _) => match keyKind P kt with
    | some kk => upMap kk h x k v
    | none => none
  | _ => none
def rgStr (h : H) : AV → Option (AV × H)
  | .str b => some (.ptr h.length 0, h ++ [.siter b 0])
  | _ => none
def next (h : H) (it : AV) (isString : Bool) : Option (AV × H) :=
  match it, isString with
  | .ptr id 0, true =>
    match h[id]? with
    | some (.siter s pos) =>
      if pos < s.length then
        some (.tuple [.bool true, .int .i64 pos, .int .i32 (Utf8.decode ⟨s.toArray⟩ pos).1], h.set id (.siter s (pos + (Utf8.decode ⟨s.toArray⟩ pos).2)))
      else some (.tuple [.bool false], h)
    | _ => none
  | _, _ => none
def taTo (z : AV) (t : TypeId) (ok : Bool) (x : AV) : Option AV :=
  match x with
  | .iface t' v => if t' = t then some (if ok then .tuple [v, .bool true] else v) else if ok then some (.tuple [z, .bool false]) else none
  | .nilIface => if ok then some (.tuple [z, .bool false]) else none
  | _ => none
def taIface (want : Array (String × TypeId)) (ok : Bool) (x : AV) : Option AV :=
  match x with
  | .iface t v =>
    match P.info? t with
    | some info =>
      match Instr.missingMethod want info.methods with
      | none => some (if ok then .tuple [.iface t v, .bool true] else .iface t v)
      | some _ => if ok then some (.tuple [.nilIface, .bool false]) else none
    | none => none
  | .nilIface => if ok then some (.tuple [.nilIface, .bool false]) else none
  | _ => none
def typeAssert (x : AV) (asserted : TypeId) (ok : Bool) : Option AV :=
  match P.underlying asserted, zero P asserted with
  | some (.interface want), some .nilIface => taIface P want ok x
  | some (.interface _), _ => none
  | some _, some z => taTo z asserted ok x
  | _, _ => none
end
inductive AEnd where
  | ret (v : AV)
  | pan (v : AV)
  deriving Inhabited
structure ADef where
  f : FuncId
  args : List AV
  deriving Inhabited
def getV (t : Nat) : List (Nat × AV) → AV
  | [] => .undef
  | p :: r => bif Nat.beq p.1 t then p.2 else getV t r
def getM (t : Nat) : List (Nat × Nat) → Nat
  | [] => 0
  | p :: r => bif Nat.beq p.1 t then p.2 else getM t r
structure St where
  fr : List (Nat × AV)
  ob : List (Nat × Nat)
  ds : List ADef
  h : H
  deriving Inhabited
abbrev full : Nat := 255
inductive Ann where
  | nil
  | mk (keep : Option (List (Nat × Nat))) (a b : Ann)
def Ann.a : Ann → Ann | .nil => .nil | .mk _ a _ => a
def Ann.b : Ann → Ann | .nil => .nil | .mk _ _ b => b
structure DAnn where
  nv : Nat := 0
  mv : List (Nat × Nat) := []
  ld : List (Nat × Nat) := []
  raw : List Nat := []
  an : Ann := .nil
def lookN {α : Type} (f : Nat) : List (Nat × α) → Option α
  | [] => none
  | p :: l => bif Nat.beq p.1 f then some p.2 else lookN f l
structure FAnn where
  nt : Nat := 0
  nv : Nat := 0
  mv : List (Nat × Nat) := []
  ld : List (Nat × Nat) := []
  lst : List (Nat × Nat) := []
  obj : List (Nat × Nat) := []
  q : List Nat := []
  raw : List Nat := []
  df : List (Nat × DAnn) := []
  drawn : Bool := false
  base : Nat := 0
  deriving Inhabited
def DAnn.toF (d : DAnn) : FAnn := { nv := d.nv, mv := d.mv, ld := d.ld, raw := d.raw }
def vOf (fr : List (Nat × AV)) : Operand → AV
  | .tmp t => getV t fr
  | .const v => .ofVal v
  | .global _ => .undef
  | .func f => .func (.func f) [] []
def FAnn.takes (A : FAnn) (r i t : Nat) : Bool := Nat.ble A.nv t || A.mv.contains (r, i)
def mOf (A : FAnn) (r i : Nat) (ob : List (Nat × Nat)) : Operand → Nat
  | .tmp t => bif A.takes r i t then getM t ob else 0
  | .const _ => full
  | _ => 0
def obOff (A : FAnn) (r i : Nat) (ob : List (Nat × Nat)) : Operand → List (Nat × Nat)
  | .tmp t => bif A.takes r i t then (t, 0) :: ob else ob
  | _ => ob
abbrev strict {α : Type} (m : Nat) (k : Nat → α) : α :=
  match m with
  | 0 => k 0
  | m + 1 => k (m + 1)
def putV (nt : Nat) (d : Option Tmp) (v : AV) (fr : List (Nat × AV)) : List (Nat × AV) :=
  match d with
  | some d => bif Nat.blt d nt then (d, v) :: fr else (d, .undef) :: fr
  | none => fr
def putM (d : Option Tmp) (m : Nat) (ob : List (Nat × Nat)) : List (Nat × Nat) :=
  match d with
  | some d => (d, m) :: ob
  | none => ob
def hold (m : Nat) (v : AV) : AV := bif m.testBit 0 then v else v.copy
abbrev Cl := FuncId → List AV → H → Option (AEnd × H)
def isConstO : Operand → Bool
  | .const _ => true
  | _ => false
def constOp (x y : Operand) : Bool := isConstO x || isConstO y
def isNilO : Operand → Bool
  | .const (.slice none 0 0) => true
  | _ => false
def pickV (c a b : AV) : Option AV :=
  match c with
  | .bool t => some (if t then a else b)
  | _ => none
def nilOk : AV → Option AV
  | .ptr id off => some (.ptr id off)
  | .rptr cs off => some (.rptr cs off)
  | .func (.func f) a b => some (.func (.func f) a b)
  | .iface t w => some (.iface t w)
  | _ => none
def exTuple (j : Nat) : AV → Option AV
  | .tuple vs => vs[j]?
  | _ => none
def slotPos (r i : Nat) : List (Nat × Nat) → Nat → Option Nat
  | [], _ => none
  | p :: l, n => bif Nat.beq p.1 r then (bif Nat.beq p.2 i then some n else slotPos r i l (n + 1)) else slotPos r i l n
def slotOp (id : Nat) (cs : List AV) (h : H) : Option AV :=
  match h[id]? with
  | some (.arr cs' false) => bif eqbL cs' cs then some (.ptr id 0) else none
  | _ => none
section
variable (P : Program) (A : FAnn)
def valOp (r i : Nat) (fr : List (Nat × AV)) (ob : List (Nat × Nat)) (h : H) : Op → Option AV
  | .alloc t => bif A.drawn then (match slotPos r i A.obj 0, zero P t with | some n, some z => bif z.cells.all AV.one then slotOp (A.base + n) z.cells h else none | _, _ => none) else none
  | .pick c a b => pickV (vOf fr c) (vOf fr a) (vOf fr b)
  | .build t parts => build P t (parts.toList.map fun (p : Nat × Operand) => (p.1, (vOf fr p.2).copy))
  | .buildSlice t len parts => buildSlice P t len (parts.toList.map fun (p : Nat × Operand) => (p.1, vOf fr p.2))
  | .load t a => load P t h (vOf fr a)
  | .nilCheck x => nilOk (vOf fr x)
  | .binOp op t x y _ => binOp P op t (constOp x y) (isNilO y) (vOf fr x) (vOf fr y)
  | .unOp op _ x => unOp op (vOf fr x)
  | .convert a b x => convert P a b h (vOf fr x)
  | .slice t x lo hi mx => slice P t (vOf fr x) (lo.map (vOf fr)) (hi.map (vOf fr)) (mx.map (vOf fr))
  | .fieldAddr t x f => fieldAddr P t (vOf fr x) f
  | .field t x f => field P t (vOf fr x) f
  | .indexAddr t x ix => indexAddr P t (vOf fr x) (vOf fr ix)
  | .index t x ix => index P t (vOf fr x) (vOf fr ix)
  | .lookup t x ix ok => lookup P t h (vOf fr x) (vOf fr ix) ok
  | .typeAssert x _ t ok => typeAssert P (vOf fr x) t ok
  | .extract x j => exTuple j (vOf fr x)
  | .call { callee := .builtin .len, args, argTypes } => match args.toList, argTypes.toList with | [x], [t] => alen P t h (vOf fr x) | _, _ => none
  | .call { callee := .builtin .max, args, .. } => maxMinAll true (args.toList.map (vOf fr))
  | .call { callee := .builtin .min, args, .. } => maxMinAll false (args.toList.map (vOf fr))
  | .call { callee := .builtin .append, args, argTypes } =>
    match args.toList, argTypes.toList with
    | [x, y], [t, t2] => match elemOf P t with
      | some e => if isSlice P t2 || isStr P t2 then appendTo P e h ((mOf A r i ob x).testBit 0) (vOf fr x) (vOf fr y) else none
      | none => none
    | _, _ => none
  | _ => none
def heapOp (r i : Nat) (fr : List (Nat × AV)) (ob : List (Nat × Nat)) (h : H) : Op → Option (AV × H)
  | .box _ x => bx h (hold (mOf A r i ob x) (vOf fr x))
  | .store t a x => storeTo P t h (vOf fr a) (hold (mOf A r i ob x) (vOf fr x))
  | .makeSlice t l c => makeSlice P t (A.lst.contains (r, i)) h (vOf fr l) (vOf fr c)
  | .mapUpdate t m k x => mapUpdate P t h (vOf fr m) (vOf fr k) (vOf fr x)
  | .insert t m k x => mapUpdate P t h (vOf fr m) (vOf fr k) (vOf fr x)
  | .range t x =>
    match P.underlying t with
    | some .string => rgStr h (vOf fr x)
    | _ => none
  | .next it isString => next h (vOf fr it) isString
  | .load t a => if isCell P t then ldTake h (vOf fr a) else none
  | .call { callee := .builtin .append, args, argTypes } =>
    match args.toList, argTypes.toList with
    | [x, y], [t, t2] => match elemOf P t with
      | some e => if isSlice P t2 || isStr P t2 then appendObj P e h (vOf fr x) (vOf fr y) else none
      | none => none
    | _, _ => none
  | _ => none
def maskOf (r i : Nat) (ob : List (Nat × Nat)) : Op → Nat
  | .move x | .assign x => mOf A r i ob x
  | .build _ _ | .convert _ _ _ | .call { callee := .builtin .append, .. } | .makeSlice _ _ _ => full
  | .load _ _ => bif A.ld.contains (r, i) then full else 0
  | .extract (.tmp t) j => bif (getM t ob).testBit j then 1 else 0
  | _ => 0
def offOf (r i : Nat) (ob : List (Nat × Nat)) : Op → List (Nat × Nat)
  | .move x | .assign x | .box _ x | .store _ _ x => obOff A r i ob x
  | .call { callee := .builtin .append, args, .. } => match args.toList with | x :: _ => obOff A r i ob x | _ => ob
  | .extract (.tmp t) j => strict (bif (getM t ob).testBit j then Nat.xor (getM t ob) (Nat.shiftLeft 1 j) else getM t ob) fun m => (t, m) :: ob
  | _ => ob
def totOp (fr : List (Nat × AV)) : Op → Option AV
  | .move x | .assign x => some (vOf fr x)
  | .makeInterface t x =>
    match P.underlying t with
    | some (.interface _) | none => none
    | _ => some (.iface t (vOf fr x).copy)
  | .makeFunc fn first captured => some (.func fn (first.toList.map fun x => (vOf fr x).copy) (captured.toList.map fun x => (vOf fr x).copy))
  | _ => none
def newOp (h : H) : Op → Option (AV × H)
  | .alloc t => match zero P t with
    | some z => if z.cells.all AV.one then some (.ptr h.length 0, h ++ [.arr z.cells false]) else none
    | none => none
  | .makeMap _ none => some (.map h.length, h ++ [.map []])
  | _ => none
inductive Kind where
  | tot | new | val | heap | call (f : Operand) (args : Array Operand) | pan (x : Operand) | dfr (f : Operand) (args : Array Operand)
def kindOf (r i : Nat) : Op → Kind
  | .move _ | .assign _ | .makeInterface _ _ | .makeFunc _ _ _ => .tot
  | .alloc _ => if A.drawn && (slotPos r i A.obj 0).isSome then .val else .new
  | .makeMap _ _ => .new
  | .box _ _ | .store _ _ _ | .makeSlice _ _ _ | .mapUpdate _ _ _ _ | .insert _ _ _ _ | .range _ _ | .next _ _ => .heap
  | .load _ _ => if A.ld.contains (r, i) then .heap else .val
  | .call { callee := .value f, args, .. } => .call f args
  | .call { callee := .builtin .append, .. } => if A.lst.contains (r, i) then .heap else .val
  | .panic x => .pan x
  | .defer { callee := .value f, args, .. } => .dfr f args
  | _ => .val
def isRaw (A : FAnn) : Operand → Bool
  | .func g => A.raw.contains g
  | _ => false
def callArgs (A : FAnn) (f : Operand) (fr : List (Nat × AV)) (args : Array Operand) : List AV :=
  bif isRaw A f then args.toList.map fun x => (vOf fr x).copy else args.toList.map fun x => (vOf fr x).canon
def callVal (call : Cl) (h : H) (f : AV) (args : List AV) : Option (AEnd × H) :=
  match f with
  | .func (.func g) first captured => call g (first ++ args ++ captured) h
  | _ => none
def deferA (f : AV) (args : List AV) : Option ADef :=
  match f with
  | .func (.func g) first captured => some ⟨g, first ++ args ++ captured⟩
  | _ => none
def condV {R : Type} (c : AV) (x y : Option R) : Option R :=
  match c with
  | .bool t => if t then x else y
  | _ => none
structure K (R : Type) where
  normal : St → Option R
  exit : Nat → St → Option R
  ret : St → Option R
  pan : AV → St → Option R
def gate {α : Type} (g : AV) (w : Bool) (x y : Option α) : Option α :=
  match g with
  | .bool b => if b = w then x else y
  | .tuple [] => y
  | _ => none
def gated {α : Type} (ops : List Oper) (fr : List (Nat × AV)) (o : Oper) (x : Option α) (y : α) : Option α :=
  match o.guard with
  | none => x
  | some (j, w) =>
    match (ops[j]?).bind (·.dst) with
    | some t => gate (getV t fr) w x (some y)
    | none => none
def retOr {R : Type} (e : AEnd) (kp kv : AV → R) : R :=
  match e with
  | .ret v => kv v
  | .pan v => kp v
def panOr {R : Type} (x : AV) (kp : AV → Option R) : Option R :=
  match x with
  | .iface t w => kp (.iface t w.copy)
  | _ => none
def enum : Nat → List Oper → List (Nat × Oper)
  | _, [] => []
  | i, o :: rest => (i, o) :: enum (i + 1) rest
def region {R : Type} (call : Cl) (r : Nat) (all : List Oper) (k : K R) : List (Nat × Oper) → List (Nat × AV) → List (Nat × Nat) → List ADef → H → Option R
  | [], fr, ob, ds, h => k.normal ⟨fr, ob, ds, h⟩
  | (i, o) :: rest, fr, ob, ds, h =>
    match kindOf A r i o.op with
    | .tot =>
      match o.guard, totOp P fr o.op with
      | none, some v => strict (maskOf A r i ob o.op) fun m => region call r all k rest (putV A.nt o.dst v fr) (putM o.dst m (offOf A r i ob o.op)) ds h
      | some _, x => (gated all fr o x (.tuple [])).bind fun v =>
        strict (maskOf A r i ob o.op) fun m => region call r all k rest (putV A.nt o.dst v fr) (putM o.dst m (offOf A r i ob o.op)) ds h
      | none, none => none
    | .new =>
      match o.guard, newOp P h o.op with
      | none, some p => strict (maskOf A r i ob o.op) fun m => region call r all k rest (putV A.nt o.dst p.1 fr) (putM o.dst m (offOf A r i ob o.op)) ds p.2
      | some _, x => (gated all fr o x (.tuple [], h)).bind fun p =>
        strict (maskOf A r i ob o.op) fun m => region call r all k rest (putV A.nt o.dst p.1 fr) (putM o.dst m (offOf A r i ob o.op)) ds p.2
      | none, none => none
    | .val => (gated all fr o (valOp P A r i fr ob h o.op) (.tuple [])).bind fun v =>
      strict (maskOf A r i ob o.op) fun m => region call r all k rest (putV A.nt o.dst v fr) (putM o.dst m (offOf A r i ob o.op)) ds h
    | .heap => (gated all fr o (heapOp P A r i fr ob h o.op) (.tuple [], h)).bind fun p =>
      strict (maskOf A r i ob o.op) fun m => region call r all k rest (putV A.nt o.dst p.1 fr) (putM o.dst m (offOf A r i ob o.op)) ds p.2
    | .call f args => (gated all fr o (callVal call h (vOf fr f) (callArgs A f fr args)) (.ret (.tuple []), h)).bind fun p =>
      retOr p.1 (fun v => k.pan v ⟨fr, ob, ds, p.2⟩) fun v => region call r all k rest (putV A.nt o.dst v fr) (putM o.dst full ob) ds p.2
    | .pan x => bif o.guard.isNone then panOr (vOf fr x) (fun v => k.pan v ⟨fr, ob, ds, h⟩) else none
    | .dfr f args => bif o.guard.isNone then (deferA (vOf fr f) (callArgs A f fr args)).bind fun d => region call r all k rest (putV A.nt o.dst .undef fr) (putM o.dst 0 ob) (d :: ds) h else none
abbrev bindA {α R : Type} (x : Option α) (f : α → Option R) : Option R :=
  match x with
  | some a => f a
  | none => none
abbrev condA {R : Type} (c : AV) (x y : Option R) : Option R :=
  match c with
  | .bool t => if t then x else y
  | _ => none
def isG (all : List Oper) (i : Nat) : Bool := all.any fun o => match o.guard with | some (j, _) => Nat.beq j i | none => false
abbrev gateK {R : Type} (all : List Oper) (fr : List (Nat × AV)) (o : Oper) (x y : Option R) : Option R :=
  match o.guard with
  | none => x
  | some (j, w) =>
    match (all[j]?).bind (·.dst) with
    | some t => gate (getV t fr) w x y
    | none => none
abbrev withV {R : Type} (g : Bool) (v : AV) (k : AV → Option R) : Option R := bif g then condA v (k (.bool true)) (k (.bool false)) else k v
def regionC {R : Type} (call : Cl) (r : Nat) (all : List Oper) (k : K R) : List (Nat × Oper) → List (Nat × AV) → List (Nat × Nat) → List ADef → H → Option R
  | [], fr, ob, ds, h => k.normal ⟨fr, ob, ds, h⟩
  | (i, o) :: rest, fr, ob, ds, h =>
    match kindOf A r i o.op with
    | .tot => gateK all fr o
      (bindA (totOp P fr o.op) fun v => withV (isG all i) v fun v => strict (maskOf A r i ob o.op) fun m => regionC call r all k rest (putV A.nt o.dst v fr) (putM o.dst m (offOf A r i ob o.op)) ds h)
      (strict (maskOf A r i ob o.op) fun m => regionC call r all k rest (putV A.nt o.dst (.tuple []) fr) (putM o.dst m (offOf A r i ob o.op)) ds h)
    | .new => gateK all fr o
      (bindA (newOp P h o.op) fun p => strict (maskOf A r i ob o.op) fun m => regionC call r all k rest (putV A.nt o.dst p.1 fr) (putM o.dst m (offOf A r i ob o.op)) ds p.2)
      (strict (maskOf A r i ob o.op) fun m => regionC call r all k rest (putV A.nt o.dst (.tuple []) fr) (putM o.dst m (offOf A r i ob o.op)) ds h)
    | .val => gateK all fr o
      (bindA (valOp P A r i fr ob h o.op) fun v => withV (isG all i) v fun v => strict (maskOf A r i ob o.op) fun m => regionC call r all k rest (putV A.nt o.dst v fr) (putM o.dst m (offOf A r i ob o.op)) ds h)
      (strict (maskOf A r i ob o.op) fun m => regionC call r all k rest (putV A.nt o.dst (.tuple []) fr) (putM o.dst m (offOf A r i ob o.op)) ds h)
    | .heap => gateK all fr o
      (bindA (heapOp P A r i fr ob h o.op) fun p => withV (isG all i) p.1 fun v => strict (maskOf A r i ob o.op) fun m => regionC call r all k rest (putV A.nt o.dst v fr) (putM o.dst m (offOf A r i ob o.op)) ds p.2)
      (strict (maskOf A r i ob o.op) fun m => regionC call r all k rest (putV A.nt o.dst (.tuple []) fr) (putM o.dst m (offOf A r i ob o.op)) ds h)
    | .call f args => gateK all fr o
      (bindA (callVal call h (vOf fr f) (callArgs A f fr args)) fun p =>
        retOr p.1 (fun v => k.pan v ⟨fr, ob, ds, p.2⟩) fun v => withV (isG all i) v fun v => regionC call r all k rest (putV A.nt o.dst v fr) (putM o.dst full ob) ds p.2)
      (regionC call r all k rest (putV A.nt o.dst (.tuple []) fr) (putM o.dst full ob) ds h)
    | .pan x => bif o.guard.isNone then panOr (vOf fr x) (fun v => k.pan v ⟨fr, ob, ds, h⟩) else none
    | .dfr f args => bif o.guard.isNone then bindA (deferA (vOf fr f) (callArgs A f fr args)) fun d => regionC call r all k rest (putV A.nt o.dst .undef fr) (putM o.dst 0 ob) (d :: ds) h else none
def FAnn.quiet (A : FAnn) (base : Nat) : FAnn := { A with ld := [], drawn := true, base := base }
def opTmps (op : Op) : List Nat := op.operands.toList.filterMap fun | .tmp t => some t | _ => none
def looks (all : List Oper) (o : Oper) : List Nat :=
  opTmps o.op ++ match o.guard with
    | some (j, _) => ((all[j]?).bind (·.dst)).toList
    | none => []
def clsOf (r i : Nat) (op : Op) : Nat :=
  match kindOf A r i op with
  | .tot => 0
  | .new => 2
  | .heap | .pan _ | .dfr _ _ => 3
  | .call f _ => match f with
    | .func g => bif A.q.contains g then 1 else 3
    | _ => 3
  | .val => match op with
    | .call { callee := .builtin .max, .. } | .call { callee := .builtin .min, .. } => 0
    | .load _ _ | .convert _ _ _ | .lookup _ _ _ _ | .call _ | .alloc _ => 1
    | _ => 0
def directs (o : Oper) : List Nat := (o.after.toList.filter (Region.binds .any)).map (·.on)
def befM : List Oper → List Nat → List Nat
  | [], acc => acc
  | o :: l, acc => befM l (acc ++ [(directs o).foldl (fun m j => Nat.lor m (Nat.lor (Nat.shiftLeft 1 j) ((acc[j]?).getD 0))) 0])
def clsOk : Nat → Nat → Bool
  | 0, _ | _, 0 | 1, _ | _, 1 => true
  | _, _ => false
def inL (d : Option Nat) (l : List Nat) : Bool :=
  match d with
  | some t => l.contains t
  | none => false
def sameD (x y : Option Nat) : Bool :=
  match x, y with
  | some a, some b => Nat.beq a b
  | _, _ => false
def takeT (r i : Nat) : Operand → List Nat
  | .tmp t => bif A.takes r i t then [t] else []
  | _ => []
def takesL (r i : Nat) : Op → List Nat
  | .move x | .assign x | .box _ x | .store _ _ x => takeT A r i x
  | .call { callee := .builtin .append, args, .. } => match args.toList with | x :: _ => takeT A r i x | _ => []
  | _ => []
def touchL (r i : Nat) (o : Oper) : List Nat := o.dst.toList ++ takesL A r i o.op
def pairOk (r : Nat) (all : List Oper) (bs : List Nat) (i : Nat) (o : Oper) (j : Nat) (p : Oper) : Bool :=
  ((bs[j]?).getD 0).testBit i || (!sameD o.dst p.dst && !inL p.dst (looks all o) && !inL o.dst (looks all p) && (touchL A r i o).all (fun t => !(touchL A r j p).contains t) && clsOk (clsOf A r i o.op) (clsOf A r j p.op))
def maskQ (r i : Nat) (ob : List (Nat × Nat)) (o : Oper) : Nat :=
  match o.op with
  | .extract _ _ => 0
  | .call { callee := .value _, .. } => bif isSlice P o.type then full else 0
  | op => maskOf A r i ob op
def offQ (r i : Nat) (ob : List (Nat × Nat)) : Op → List (Nat × Nat)
  | .extract _ _ => ob
  | op => offOf A r i ob op
def obN (r : Nat) (all : List Oper) (ob : List (Nat × Nat)) : Nat → List (Nat × Nat)
  | 0 => ob
  | n + 1 => match all[n]? with
    | some o => putM o.dst (maskQ P A r n (obN r all ob n) o) (offQ A r n (obN r all ob n) o.op)
    | none => obN r all ob n
def obL (r : Nat) : List (Nat × Oper) → List (Nat × Nat) → List (List (Nat × Nat))
  | [], ob => [ob]
  | (i, o) :: l, ob => ob :: strict (maskQ P A r i ob o) fun m => obL r l (putM o.dst m (offQ A r i ob o.op))
def exSrc : Op → Option Nat
  | .extract (.tmp t) _ => some t
  | _ => none
def drawChk (r : Nat) (all : List Oper) (ob : List (Nat × Nat)) : Bool :=
  (enum 0 all).all fun x =>
    (directs x.2).all (fun j => Nat.blt j x.1) && !inL x.2.dst (looks all x.2) &&
      (match exSrc x.2.op with
       | some t => (obL P A r (enum 0 all) ob).all fun ob => Nat.beq (getM t ob) 0
       | none => true) &&
      (enum 0 all).all fun y => Nat.ble y.1 x.1 || pairOk A r all (befM all []) x.1 x.2 y.1 y.2
def stepQ {R : Type} (call : Cl) (r : Nat) (all : List Oper) (ob : List (Nat × Nat)) (i : Nat) (o : Oper) (fr : List (Nat × AV)) (h : H) (k : AV → H → Option R) : Option R :=
  match kindOf A r i o.op with
  | .tot =>
    match o.guard, totOp P fr o.op with
    | none, some v => k v h
    | some _, x => (gated all fr o x (.tuple [])).bind fun v => k v h
    | none, none => none
  | .new =>
    match o.guard, newOp P h o.op with
    | none, some p => k p.1 p.2
    | some _, x => (gated all fr o x (.tuple [], h)).bind fun p => k p.1 p.2
    | none, none => none
  | .val => (gated all fr o (valOp P A r i fr ob h o.op) (.tuple [])).bind fun v => k v h
  | .heap => (gated all fr o (heapOp P A r i fr ob h o.op) (.tuple [], h)).bind fun p => k p.1 p.2
  | .call f args => (gated all fr o (callVal call h (vOf fr f) (callArgs A f fr args)) (.ret (.tuple []), h)).bind fun p =>
    retOr p.1 (fun _ => none) fun v => k v p.2
  | .pan _ | .dfr _ _ => none
def regionQ {R : Type} (call : Cl) (r : Nat) (all : List Oper) (obf : Nat → List (Nat × Nat)) (k : List (Nat × AV) → H → Option R) : List (Nat × Oper) → List (Nat × AV) → H → Option R
  | [], fr, h => k fr h
  | (i, o) :: rest, fr, h => stepQ P A call r all (obf i) i o fr h fun v h' => regionQ call r all obf k rest (putV A.nt o.dst v fr) h'
abbrev pickJ {α : Type} (b : Bool) (x y : α) : α :=
  match b with
  | true => x
  | false => y
def whenB {R : Type} (p : Bool) (x : Option R) : Option R := bif p then x else none
def eqO (x : Option AV) (v : AV) : Bool :=
  match x with
  | some w => AV.eqb w v
  | none => false
def eqE (x : Option (AEnd × H)) (v : AV) : Bool :=
  match x with
  | some (.ret w, _) => AV.eqb w v
  | _ => false
def chkBack {R : Type} (b : Nat) (p : H → Bool) : List (Nat × H) → Option R → Option R
  | [], k => k
  | x :: l, k => bif b.testBit x.1 then chkBack b p l k else whenB (p x.2) (chkBack b p l k)
def chkFwd {R : Type} (b : Nat) (h : H) : List (Nat × (H → Bool)) → Option R → Option R
  | [], k => k
  | x :: l, k => bif b.testBit x.1 then chkFwd b h l k else whenB (x.2 h) (chkFwd b h l k)
def befAt (bs : List Nat) (i : Nat) : Nat := (bs[i]?).getD 0
def rdVal (r i : Nat) (o : Oper) (fr : List (Nat × AV)) (ob : List (Nat × Nat)) (v : AV) (h : H) : Bool := eqO (valOp P A r i fr ob h o.op) v
def rdCall (call : Cl) (f : Operand) (args : Array Operand) (fr : List (Nat × AV)) (v : AV) (h : H) : Bool := eqE (callVal call h (vOf fr f) (callArgs A f fr args)) v
def regionQC {R : Type} (call : Cl) (r : Nat) (all : List Oper) (bs : List Nat) (k : List (Nat × AV) → List (Nat × Nat) → H → Option R) : List (Nat × Oper) → List (Nat × (H → Bool)) → List (Nat × H) → List (Nat × AV) → List (Nat × Nat) → H → Option R
  | [], _, _, fr, ob, h => k fr ob h
  | (i, o) :: rest, pr, pw, fr, ob, h =>
    match kindOf A r i o.op with
    | .tot => gateK all fr o
      (bindA (totOp P fr o.op) fun v => withV (isG all i) v fun v => strict (maskQ P A r i ob o) fun m => regionQC call r all bs k rest pr pw (putV A.nt o.dst v fr) (putM o.dst m (offQ A r i ob o.op)) h)
      (strict (maskQ P A r i ob o) fun m => regionQC call r all bs k rest pr pw (putV A.nt o.dst (.tuple []) fr) (putM o.dst m (offQ A r i ob o.op)) h)
    | .new => gateK all fr o
      (bindA (newOp P h o.op) fun p => strict (maskQ P A r i ob o) fun m => regionQC call r all bs k rest pr ((i, h) :: pw) (putV A.nt o.dst p.1 fr) (putM o.dst m (offQ A r i ob o.op)) p.2)
      (strict (maskQ P A r i ob o) fun m => regionQC call r all bs k rest pr pw (putV A.nt o.dst (.tuple []) fr) (putM o.dst m (offQ A r i ob o.op)) h)
    | .val => gateK all fr o
      (bindA (valOp P A r i fr ob h o.op) fun v => pickJ (Nat.beq (clsOf A r i o.op) 1)
        (chkBack (befAt bs i) (rdVal P A r i o fr ob v) pw (withV (isG all i) v fun v => strict (maskQ P A r i ob o) fun m => regionQC call r all bs k rest ((i, rdVal P A r i o fr ob v) :: pr) pw (putV A.nt o.dst v fr) (putM o.dst m (offQ A r i ob o.op)) h))
        (withV (isG all i) v fun v => strict (maskQ P A r i ob o) fun m => regionQC call r all bs k rest pr pw (putV A.nt o.dst v fr) (putM o.dst m (offQ A r i ob o.op)) h))
      (strict (maskQ P A r i ob o) fun m => regionQC call r all bs k rest pr pw (putV A.nt o.dst (.tuple []) fr) (putM o.dst m (offQ A r i ob o.op)) h)
    | .heap => gateK all fr o
      (bindA (heapOp P A r i fr ob h o.op) fun p => chkFwd (befAt bs i) p.2 pr (withV (isG all i) p.1 fun v => strict (maskQ P A r i ob o) fun m => regionQC call r all bs k rest pr ((i, h) :: pw) (putV A.nt o.dst v fr) (putM o.dst m (offQ A r i ob o.op)) p.2))
      (strict (maskQ P A r i ob o) fun m => regionQC call r all bs k rest pr pw (putV A.nt o.dst (.tuple []) fr) (putM o.dst m (offQ A r i ob o.op)) h)
    | .call f args => gateK all fr o
      (bindA (callVal call h (vOf fr f) (callArgs A f fr args)) fun p =>
        retOr p.1 (fun _ => none) fun v => pickJ (Nat.beq (clsOf A r i o.op) 1)
          (chkBack (befAt bs i) (rdCall A call f args fr v) pw (withV (isG all i) v fun v => strict (maskQ P A r i ob o) fun m => regionQC call r all bs k rest ((i, rdCall A call f args fr v) :: pr) pw (putV A.nt o.dst v fr) (putM o.dst m (offQ A r i ob o.op)) p.2))
          (chkFwd (befAt bs i) p.2 pr (withV (isG all i) v fun v => strict (maskQ P A r i ob o) fun m => regionQC call r all bs k rest pr ((i, h) :: pw) (putV A.nt o.dst v fr) (putM o.dst m (offQ A r i ob o.op)) p.2)))
      (strict (maskQ P A r i ob o) fun m => regionQC call r all bs k rest pr pw (putV A.nt o.dst (.tuple []) fr) (putM o.dst m (offQ A r i ob o.op)) h)
    | .pan _ | .dfr _ _ => none
def keepFr (fr : List (Nat × AV)) : List (Nat × Nat) → List (Nat × AV)
  | [] => []
  | p :: l => (p.1, getV p.1 fr) :: keepFr fr l
def keepOb (ob : List (Nat × Nat)) : List (Nat × Nat) → List (Nat × Nat)
  | [] => []
  | p :: l => strict (Nat.land (getM p.1 ob) p.2) fun m => (p.1, m) :: keepOb ob l
def Ann.enter (an : Ann) (s : St) : St :=
  match an with
  | .mk (some l) _ _ => ⟨keepFr s.fr l, keepOb s.ob l, s.ds, s.h⟩
  | _ => s
def loopN {R : Type} (f : (St → Option R) → St → Option R) : Nat → St → Option R
  | 0, _ => none
  | n + 1, s => f (loopN f n) s
def execG {R : Type} (rg rq : Nat → List Oper → K R → St → Option R) (n : Nat) : Code → Ann → K R → St → Option R
  | .skip, _, k, s => k.normal s
  | .region r ops false, _, k, s => rg r ops.toList k s
  | .region r ops true, _, k, s => rq r ops.toList k s
  | .seq a b, an, k, s => execG rg rq n a an.a { k with normal := fun s' => execG rg rq n b an.b k (an.b.enter s') } (an.a.enter s)
  | .cond c a b, an, k, s =>
    condA (vOf s.fr c) (execG rg rq n a an.a k (an.a.enter s)) (execG rg rq n b an.b k (an.b.enter s))
  | .block id c, an, k, s => execG rg rq n c an.a { k with exit := fun j s' => pickJ (j == id) (k.normal s') (k.exit j s') } (an.a.enter s)
  | .loop c, an, k, s => loopN (fun again s' => execG rg rq n c an.a { k with normal := fun s'' => again (an.a.enter s'') } s') n (an.a.enter s)
  | .exit id, _, k, s => k.exit id s
  | .scope c, an, k, s => execG rg rq n c an.a k (an.a.enter s)
  | .label _, _, k, s => k.normal s
  | .ret, _, k, s => k.ret s
  | _, _, _, _ => none
def rgOf {R : Type} (call : Cl) (r : Nat) (ops : List Oper) (k : K R) (s : St) : Option R := regionC P A call r ops k (enum 0 ops) s.fr s.ob s.ds s.h
def slotsOf (r : Nat) (ops : List Oper) : List AObj :=
  (A.obj.filter fun p => Nat.beq p.1 r).map fun p =>
    match (ops[p.2]?).map Oper.op with
    | some (Op.alloc t) => match zero P t with
      | some z => .arr z.cells false
      | none => .siter [] 0
    | _ => .siter [] 0
def aheadH (h : H) : List AObj → H
  | [] => h
  | o :: l => h ++ o :: l
def rqOf {R : Type} (call : Cl) (r : Nat) (ops : List Oper) (k : K R) (s : St) : Option R :=
  bif drawChk P (A.quiet s.h.length) r ops s.ob then regionQC P (A.quiet s.h.length) call r ops (befM ops []) (fun fr ob h => k.normal ⟨fr, ob, s.ds, h⟩) (enum 0 ops) [] [] s.fr s.ob (aheadH s.h (slotsOf P A r ops)) else none
abbrev exec {R : Type} (call : Cl) (n : Nat) (c : Code) (an : Ann) (k : K R) (s : St) : Option R := execG (rgOf P A call) (rqOf P A call) n c an k s
def resultOf (s : St) : ResultVar → Option AV
  | .tmp t => some (hold (getM t s.ob) (getV t s.fr))
  | .cell a t => (load P t s.h (getV a s.fr)).map AV.copy
def seqO : List (Option AV) → Option (List AV)
  | [] => some []
  | x :: xs => x.bind fun v => (seqO xs).map (v :: ·)
def resN : List (Option AV) → Option AV
  | [x] => x
  | xs => (seqO xs).map .tuple
def results (fn : Func) (s : St) : Option AV := resN (fn.results.toList.map (resultOf P s))
def argFr : Nat → List AV → List (Nat × AV)
  | _, [] => []
  | i, v :: r => (i, v) :: argFr (i + 1) r
def resTmps : List ResultVar → List Nat
  | [] => []
  | .tmp t :: l => t :: resTmps l
  | _ :: l => resTmps l
def nodupB : List Nat → Bool
  | [] => true
  | t :: l => !l.contains t && nodupB l
def resOk (fn : Func) : Bool := nodupB (resTmps fn.results.toList) && fn.name != "runtime.NumGoroutine"
def isRecover (o : Oper) : Bool :=
  match o.op, o.guard with
  | .call { callee := .builtin .recover, .. }, none => true
  | _, _ => false
def regionD {R : Type} (call : Cl) (r : Nat) (ops : List Oper) (k : K R) (v : AV) (s : St) : Option R :=
  match ops with
  | o :: _ => bif isRecover o then regionC P A call r ops k (enum 0 ops).tail (putV A.nt o.dst v s.fr) (putM o.dst 0 s.ob) s.ds s.h else none
  | [] => none
def execD {R : Type} (call : Cl) (n : Nat) : Code → Ann → K R → AV → St → Option R
  | .region r ops false, _, k, v, s => regionD P A call r ops.toList k v s
  | .seq a b, an, k, v, s => execD call n a an.a { k with normal := fun s' => exec P A call n b an.b k (an.b.enter s') } v (an.a.enter s)
  | _, _, _, _, _ => none
def doneD (s : St) : Option H :=
  match s.ds with
  | [] => some s.h
  | _ => none
def kDef : K H := { normal := doneD, exit := fun _ _ => none, ret := doneD, pan := fun _ _ => none }
def dcall (call : Cl) (n : Nat) (f : FuncId) (args : List AV) (h : H) (v : AV) : Option H :=
  match lookN f A.df, P.funcs[f]? with
  | some d, some fn =>
    match fn.body with
    | some c => if resOk fn && Nat.ble args.length fn.ntmps && Nat.beq fn.results.size 0 then
        execD P { d.toF with nt := fn.ntmps } call n c d.an kDef v (d.an.enter ⟨argFr 0 args, [], [], h⟩)
      else none
    | none => none
  | _, _ => none
def leaveA (dc : FuncId → List AV → H → AV → Option H) (fn : Func) : List ADef → Option AV → List (Nat × AV) → List (Nat × Nat) → H → Option (AEnd × H)
  | [], none, fr, ob, h => (results P fn ⟨fr, ob, [], h⟩).map fun v => (.ret v, h)
  | [], some v, _, _, h => some (.pan v, h)
  | d :: ds, none, fr, ob, h => (dc d.f d.args h .nilIface).bind fun h' => leaveA dc fn ds none fr ob h'
  | d :: ds, some v, fr, ob, h => (dc d.f d.args h v).bind fun h' => leaveA dc fn ds none fr ob h'
def finish (call : Cl) (n : Nat) (fn : Func) (s : St) : Option (AEnd × H) := leaveA P (dcall P A call n) fn s.ds none s.fr s.ob s.h
def kTop (call : Cl) (n : Nat) (fn : Func) : K (AEnd × H) := { normal := finish P A call n fn, exit := fun _ _ => none, ret := finish P A call n fn, pan := fun v s => leaveA P (dcall P A call n) fn s.ds (some v) s.fr s.ob s.h }
def FAnn.fit (A : FAnn) (fn : Func) : FAnn := { A with nt := fn.ntmps, drawn := false }
def body (call : Cl) (fn : Func) (an : Ann) (n : Nat) (c : Code) (args : List AV) (h : H) : Option (AEnd × H) :=
  exec P (A.fit fn) call n c an (kTop P A call n fn)
    (an.enter ⟨argFr 0 args, [], [], h⟩)
end
def AV.freezeCell (h : H) : AV → Option AV
  | .slc id off len s =>
    match h[id]? with
    | some (.arr cells _) => if off + len * s ≤ cells.length then some (.list (chunks s len (cells.drop off)) .no) else none
    | _ => none
  | v => some v
def AV.freezeAgg (h : H) : AV → Option AV
  | .agg cs => (cs.mapM (AV.freezeCell h)).map .agg
  | v => v.freezeCell h
def AV.freeze (h : H) : AV → Option AV
  | .tuple vs => (vs.mapM (AV.freezeAgg h)).map .tuple
  | v => v.freezeAgg h
structure Pol where
  ann : FuncId → FAnn × Ann
  mode : FuncId → Nat
  ext : FuncId → Option (List AV → H → Option (AEnd × H))
def Pol.still (pol : Pol) (f : FuncId) : Bool := (pol.ext f).isNone && Nat.beq (pol.mode f) 0
mutual
def AV.pure : AV → Bool
  | .ptr _ _ | .map _ => false
  | .slc _ _ _ _ => false
  | .rptr cells _ => pureL cells
  | .list rows _ => pureR rows
  | .func _ a b => pureL a && pureL b
  | .iface _ v => AV.pure v
  | .agg cells => pureL cells
  | .tuple vs => pureL vs
  | _ => true
def pureL : List AV → Bool
  | [] => true
  | v :: l => AV.pure v && pureL l
def pureR : List (List AV) → Bool
  | [] => true
  | v :: l => pureL v && pureR l
end
def AV.flatCell : AV → Bool
  | .bool _ | .int _ _ | .str _ | .nilPtr | .nilMap | .nilFunc | .nilIface => true
  | .list rows _ => rows.isEmpty
  | _ => false
def AV.flat : AV → Bool
  | .agg cells => cells.all AV.flatCell
  | .tuple vs => vs.all AV.flatCell
  | v => v.flatCell
def pureCall (run : List AV → H → Option (AEnd × H)) (args : List AV) (h : H) : Option (AEnd × H) :=
  match args.mapM (AV.freeze h) with
  | none => none
  | some as₁ =>
    if pureL as₁ then
      match run as₁ [] with
      | some (.ret v, h') => (v.freeze h').bind fun w => if w.pure && (pureL args || w.flat) then some (.ret w, h) else none
      | some (.pan v, h') => (v.freeze h').bind fun w => if w.pure && (pureL args || w.flat) then some (.pan w, h) else none
      | none => none
    else none
def AV.notTup : AV → Bool
  | .tuple _ => false
  | _ => true
def retOk (fn : Func) : AEnd → Bool
  | .ret (.tuple vs) => !Nat.beq fn.results.size 1 && vs.all AV.notTup
  | _ => true
def retChk (fn : Func) : Option (AEnd × H) → Option (AEnd × H)
  | some r => if retOk fn r.1 then some r else none
  | none => none
def acall (P : Program) (pol : Pol) : Nat → FuncId → List AV → H → Option (AEnd × H)
  | 0, _, _, _ => none
  | n + 1, f, args, h =>
    match pol.ext f with
    | some e => e args h
    | none =>
      match P.funcs[f]? with
      | none => none
      | some fn =>
        match fn.body with
        | none => none
        | some c =>
          if resOk fn && Nat.ble args.length fn.ntmps && (pol.ann f).1.q.all pol.still then
            let run := body P (pol.ann f).1 (acall P pol n) fn (pol.ann f).2 n c
            retChk fn (if pol.mode f = 0 then pureCall run args h else run args h)
          else none
def sub : List Nat → Code → Code
  | [], c => c
  | 0 :: p, .seq a _ => sub p a
  | _ :: p, .seq _ b => sub p b
  | 0 :: p, .cond _ a _ => sub p a
  | _ :: p, .cond _ _ b => sub p b
  | _ :: p, .block _ c => sub p c
  | _ :: p, .loop c => sub p c
  | _ :: p, .scope c => sub p c
  | _, c => c
def Ann.sub : List Nat → Ann → Ann
  | [], an => an
  | 0 :: p, an => Ann.sub p an.a
  | _ :: p, an => Ann.sub p an.b
def loops : List Nat → Code → Nat
  | 0 :: p, .seq a _ => loops p a
  | _ :: p, .seq _ b => loops p b
  | 0 :: p, .cond _ a _ => loops p a
  | _ :: p, .cond _ _ b => loops p b
  | _ :: p, .block _ c => loops p c
  | _ :: p, .loop c => loops p c + 1
  | _ :: p, .scope c => loops p c
  | _, _ => 0
def isAt : List Nat → Code → Bool
  | [], _ => true
  | 0 :: p, .seq a _ => isAt p a
  | 1 :: p, .seq _ b => isAt p b
  | 0 :: p, .cond _ a _ => isAt p a
  | 1 :: p, .cond _ _ b => isAt p b
  | 0 :: p, .block _ c => isAt p c
  | 0 :: p, .loop c => isAt p c
  | 0 :: p, .scope c => isAt p c
  | _, _ => false
def isLoop : Code → Bool
  | .loop _ => true
  | _ => false
def okJ (c : Code) (p ms : List Nat) : Bool := isAt p c && Nat.beq ms.length (bif isLoop (sub p c) then loops p c + 1 else loops p c)
def kAt {R : Type} (P : Program) (A : FAnn) (call : Cl) (n : Nat) : List Nat → List Nat → Code → Ann → K R → K R
  | 0 :: p, ms, .seq a b, an, k => kAt P A call n p ms a an.a { k with normal := fun s' => exec P A call n b an.b k (an.b.enter s') }
  | _ :: p, ms, .seq _ b, an, k => kAt P A call n p ms b an.b k
  | 0 :: p, ms, .cond _ a _, an, k => kAt P A call n p ms a an.a k
  | _ :: p, ms, .cond _ _ b, an, k => kAt P A call n p ms b an.b k
  | _ :: p, ms, .block id c, an, k => kAt P A call n p ms c an.a { k with exit := fun j s' => pickJ (j == id) (k.normal s') (k.exit j s') }
  | _ :: p, m :: ms, .loop c, an, k => kAt P A call n p ms c an.a { k with normal := fun s'' => loopN (fun again s' => exec P A call n c an.a { k with normal := fun s'' => again (an.a.enter s'') } s') m (an.a.enter s'') }
  | _ :: p, ms, .scope c, an, k => kAt P A call n p ms c an.a k
  | _, _, _, _, k => k
def realJ (P : Program) (A : FAnn) (call : Cl) (fn : Func) (an : Ann) (c : Code) (n : Nat) (p ms : List Nat) (s : St) : Option (AEnd × H) :=
  match sub p c with
  | .loop _ =>
    match ms.reverse with
    | m :: r => loopN (fun again s' => exec P (A.fit fn) call n (sub (p ++ [0]) c) (an.sub (p ++ [0])) { kAt P (A.fit fn) call n p r.reverse c an (kTop P A call n fn) with normal := fun s'' => again ((an.sub (p ++ [0])).enter s'') } s') m s
    | [] => none
  | c' => exec P (A.fit fn) call n c' (an.sub p) (kAt P (A.fit fn) call n p ms c an (kTop P A call n fn)) s
def Ann.kept : Ann → Bool
  | .mk (some _) _ _ => true
  | _ => false
abbrev Jn (R : Type) := List Nat → List Nat → St → Option R
def execJ {R : Type} (rg rq : Nat → List Oper → K R → St → Option R) (n : Nat) (J : Jn R) : Code → List Nat → List Nat → Ann → K R → St → Option R
  | .skip, _, _, _, k, s => k.normal s
  | .region r ops false, _, _, _, k, s => rg r ops.toList k s
  | .region r ops true, _, _, _, k, s => rq r ops.toList k s
  | .seq a b, p, ms, an, k, s => execJ rg rq n J a (p ++ [0]) ms an.a { k with normal := fun s' => pickJ (an.b.kept && !isLoop b) (J (p ++ [1]) ms (an.b.enter s')) (execJ rg rq n J b (p ++ [1]) ms an.b k (an.b.enter s')) } (an.a.enter s)
  | .cond c a b, p, ms, an, k, s =>
    condA (vOf s.fr c) (execJ rg rq n J a (p ++ [0]) ms an.a k (an.a.enter s)) (execJ rg rq n J b (p ++ [1]) ms an.b k (an.b.enter s))
  | .block id c, p, ms, an, k, s => execJ rg rq n J c (p ++ [0]) ms an.a { k with exit := fun j s' => pickJ (j == id) (k.normal s') (k.exit j s') } (an.a.enter s)
  | .loop _, p, ms, an, _, s => J p (ms ++ [n]) (an.a.enter s)
  | .exit id, _, _, _, k, s => k.exit id s
  | .scope c, p, ms, an, k, s => execJ rg rq n J c (p ++ [0]) ms an.a k (an.a.enter s)
  | .label _, _, _, _, k, s => k.normal s
  | .ret, _, _, _, k, s => k.ret s
  | _, _, _, _, _, _ => none
def kAtJ {R : Type} (rg rq : Nat → List Oper → K R → St → Option R) (n : Nat) (J : Jn R) : List Nat → List Nat → List Nat → List Nat → Code → Ann → K R → K R
  | 0 :: p, ms, q, mq, .seq a b, an, k => kAtJ rg rq n J p ms (q ++ [0]) mq a an.a { k with normal := fun s' => pickJ (an.b.kept && !isLoop b) (J (q ++ [1]) mq (an.b.enter s')) (execJ rg rq n J b (q ++ [1]) mq an.b k (an.b.enter s')) }
  | _ :: p, ms, q, mq, .seq _ b, an, k => kAtJ rg rq n J p ms (q ++ [1]) mq b an.b k
  | 0 :: p, ms, q, mq, .cond _ a _, an, k => kAtJ rg rq n J p ms (q ++ [0]) mq a an.a k
  | _ :: p, ms, q, mq, .cond _ _ b, an, k => kAtJ rg rq n J p ms (q ++ [1]) mq b an.b k
  | _ :: p, ms, q, mq, .block id c, an, k => kAtJ rg rq n J p ms (q ++ [0]) mq c an.a { k with exit := fun j s' => pickJ (j == id) (k.normal s') (k.exit j s') }
  | _ :: p, m :: ms, q, mq, .loop c, an, k => kAtJ rg rq n J p ms (q ++ [0]) (mq ++ [m]) c an.a { k with normal := fun s'' => J q (mq ++ [m]) (an.a.enter s'') }
  | _ :: p, ms, q, mq, .scope c, an, k => kAtJ rg rq n J p ms (q ++ [0]) mq c an.a k
  | _, _, _, _, _, _, k => k
def atJ (P : Program) (A : FAnn) (call : Cl) (fn : Func) (an : Ann) (c : Code) (n : Nat) (J : Jn (AEnd × H)) (p ms : List Nat) (s : St) : Option (AEnd × H) :=
  match sub p c with
  | .loop c' =>
    match ms.reverse with
    | (m + 1) :: r => execJ (rgOf P (A.fit fn) call) (rqOf P (A.fit fn) call) n J c' (p ++ [0]) (r.reverse ++ [m]) (an.sub (p ++ [0])) (kAtJ (rgOf P (A.fit fn) call) (rqOf P (A.fit fn) call) n J (p ++ [0]) (r.reverse ++ [m]) [] [] c an (kTop P A call n fn)) s
    | _ => none
  | c' => execJ (rgOf P (A.fit fn) call) (rqOf P (A.fit fn) call) n J c' p ms (an.sub p) (kAtJ (rgOf P (A.fit fn) call) (rqOf P (A.fit fn) call) n J p ms [] [] c an (kTop P A call n fn)) s
def JFix (P : Program) (A : FAnn) (call : Cl) (fn : Func) (an : Ann) (c : Code) (n : Nat) (J : Jn (AEnd × H)) : Prop :=
  ∀ p ms s, okJ c p ms = true → J p ms s = atJ P A call fn an c n J p ms s
end Go.Ve

namespace Go.Ve
open Go
inductive Loc where
  | tmp (t p c : Nat)
  | cell (id c : Nat)
  | obj (id : Nat)
  | res (p c : Nat)
  deriving DecidableEq
structure Gh where
  own : Nat → Option Loc
  st : Nat → Nat → Prop
  rsv : Nat → Prop
abbrev Wh := Nat → Nat → Option Loc
def wh0 : Wh := fun _ _ => none
def Room (w : World) (g : Gh) (l : Option Loc) (o : Own) (a : Option Addr) (n c : Nat) : Prop :=
  match o with
  | .no => True
  | .cap => c = n
  | .nil => a = none
  | .mem => a ≠ none
  | .own s => ∀ l', l = some l' → c = n ∨ ∃ b off cs ty fr, a = some ⟨b, off, none⟩ ∧ g.own b = some l' ∧ w.heap[b]? = some (.cells cs ty fr) ∧ off + c * s ≤ cs.size ∧
      (∀ k, off + n * s ≤ k → ¬ g.st b k) ∧ (∀ k, off + n * s ≤ k → k < off + c * s → w.frozen? ⟨b, k, none⟩ = false)
inductive Rep (w : World) (g : Gh) : Wh → AV → Value → Prop
  | undef {wh v} : Rep w g wh .undef v
  | bool {wh b} : Rep w g wh (.bool b) (.bool b)
  | int {wh k n} : Rep w g wh (.int k n) (.int k n)
  | str {wh l} : Rep w g wh (.str l) (.string ⟨l.toArray⟩)
  | nilPtr {wh} : Rep w g wh .nilPtr (.pointer none)
  | ptr {wh id o b} : g.own b = some (.obj id) → Rep w g wh (.ptr id o) (.pointer (some ⟨b, o, none⟩))
  | rptr {wh cells off b o} (f : Nat → Value) :
      (∀ (j : Nat) c, cells[j]? = some c → c.one = true ∧ g.st b (o + j) ∧ w.cell? ⟨b, o + j, none⟩ = some (f j)) →
      (∀ (j : Nat) c, cells[j]? = some c → Rep w g wh0 c (f j)) → Rep w g wh (.rptr cells off) (.pointer (some ⟨b, o + off, none⟩))
  | list {wh rows o a n c} (b off s : Nat) (f : Nat → Nat → Value) : n = rows.length → n ≤ c → (rows ≠ [] → a = some ⟨b, off, none⟩) → (∀ r ∈ rows, r.length = s) →
      (∀ (i : Nat) r (j : Nat) cl, rows[i]? = some r → r[j]? = some cl → cl.one = true ∧ g.st b (off + i * s + j) ∧ w.cell? ⟨b, off + i * s + j, none⟩ = some (f i j)) →
      (∀ (i : Nat) r (j : Nat) cl, rows[i]? = some r → r[j]? = some cl → Rep w g wh0 cl (f i j)) →
      Room w g (wh 0 0) o a n c → Rep w g wh (.list rows o) (.slice a n c)
  | slc {wh id off l s a c} : l ≤ c → (c = 0 ∨ ∃ b, a = some ⟨b, off, none⟩ ∧ g.own b = some (.obj id)) → Rep w g wh (.slc id off l s) (.slice a l c)
  | nilMap {wh} : Rep w g wh .nilMap (.map none)
  | map {wh id b} : g.own b = some (.obj id) → Rep w g wh (.map id) (.map (some b))
  | nilFunc {wh} : Rep w g wh .nilFunc .nilFunc
  | func {wh fn first captured} {fs cs : Array Value} : fs.size = first.length → cs.size = captured.length →
      (∀ (i : Nat) x y, first[i]? = some x → fs[i]? = some y → Rep w g wh0 x y) →
      (∀ (i : Nat) x y, captured[i]? = some x → cs[i]? = some y → Rep w g wh0 x y) → Rep w g wh (.func fn first captured) (.func fn fs cs)
  | nilIface {wh} : Rep w g wh .nilIface .nilIface
  | iface {wh t x y} : Rep w g wh0 x y → Rep w g wh (.iface t x) (.iface t y)
  | agg {wh cells} {vs : Array Value} : vs.size = cells.length → (∀ (j : Nat) c v, cells[j]? = some c → vs[j]? = some v → Rep w g (fun _ _ => wh 0 j) c v) → Rep w g wh (.agg cells) (.agg vs)
  | tuple {wh xs} {vs : Array Value} : vs.size = xs.length → (∀ (i : Nat) x v, xs[i]? = some x → vs[i]? = some v → Rep w g (fun _ j => wh i j) x v) → Rep w g wh (.tuple xs) (.tuple vs)
def Keeps (w : World) (g : Gh) (w' : World) (g' : Gh) (l l' : Loc) : Prop :=
  ∀ b, g.own b = some l → g'.own b = some l' ∧ w'.heap[b]? = w.heap[b]? ∧ ∀ k, g'.st b k → g.st b k
structure Mono (w : World) (g : Gh) (w' : World) (g' : Gh) : Prop where
  st : ∀ b k, g.st b k → g'.st b k ∧ w'.cell? ⟨b, k, none⟩ = w.cell? ⟨b, k, none⟩
  obj : ∀ b id, g.own b = some (.obj id) → g'.own b = some (.obj id)
def Moves (w : World) (g : Gh) (w' : World) (g' : Gh) (wh wh' : Wh) : Prop :=
  ∀ p c l', wh' p c = some l' → ∃ l, wh p c = some l ∧ Keeps w g w' g' l l'
theorem frozen_eq {w w' : World} {b : Nat} (h : w'.heap[b]? = w.heap[b]?) (k : Nat) : w'.frozen? ⟨b, k, none⟩ = w.frozen? ⟨b, k, none⟩ := by
  simp [World.frozen?, h]
theorem Room.mono {w : World} {g : Gh} {w' : World} {g' : Gh} {l l' : Option Loc} {o : Own} {a : Option Addr} {n c : Nat}
    (h : Room w g l o a n c) (hk : ∀ x', l' = some x' → ∃ x, l = some x ∧ Keeps w g w' g' x x') : Room w' g' l' o a n c := by
  cases o with
  | no => trivial
  | cap => exact h
  | nil => exact h
  | mem => exact h
  | own s =>
    intro x' hx'
    obtain ⟨x, hx, hk⟩ := hk x' hx'
    rcases h x hx with h | ⟨b, off, cs, ty, fr, ha, ho, hb, hs, h1, h2⟩
    · exact .inl h
    · obtain ⟨k1, k2, k3⟩ := hk b ho
      exact .inr ⟨b, off, cs, ty, fr, ha, k1, k2.trans hb, hs, fun k hk hst => h1 k hk (k3 k hst), fun k hk1 hk2 => (frozen_eq k2 k).trans (h2 k hk1 hk2)⟩
theorem Rep.mono {w : World} {g : Gh} {w' : World} {g' : Gh} (m : Mono w g w' g') {wh : Wh} {x : AV} {v : Value} (h : Rep w g wh x v) :
    ∀ {wh' : Wh}, Moves w g w' g' wh wh' → Rep w' g' wh' x v := by
  have n0 : ∀ {wh : Wh}, Moves w g w' g' wh wh0 := by
    intro wh p c l' h; cases h
  induction h with
  | undef => intros; exact .undef
  | bool => intros; exact .bool
  | int => intros; exact .int
  | str => intros; exact .str
  | nilPtr => intros; exact .nilPtr
  | ptr ho => intros; exact .ptr (m.obj _ _ ho)
  | rptr f h1 _ ih =>
    intros
    exact .rptr f (fun j c hj => ⟨(h1 j c hj).1, (m.st _ _ (h1 j c hj).2.1).1, (m.st _ _ (h1 j c hj).2.1).2.trans (h1 j c hj).2.2⟩) (fun j c hj => ih j c hj n0)
  | list b off s f hn hc ha hs h1 _ hr ih =>
    intro wh' mv
    exact .list b off s f hn hc ha hs (fun i r j cl hi hj => ⟨(h1 i r j cl hi hj).1, (m.st _ _ (h1 i r j cl hi hj).2.1).1, (m.st _ _ (h1 i r j cl hi hj).2.1).2.trans (h1 i r j cl hi hj).2.2⟩)
      (fun i r j cl hi hj => ih i r j cl hi hj n0) (hr.mono (mv 0 0))
  | slc hl h =>
    intros
    exact .slc hl (h.imp id fun ⟨b, hb, ho⟩ => ⟨b, hb, m.obj _ _ ho⟩)
  | nilMap => intros; exact .nilMap
  | map ho => intros; exact .map (m.obj _ _ ho)
  | nilFunc => intros; exact .nilFunc
  | func h1 h2 _ _ i1 i2 => intros; exact .func h1 h2 (fun i x y hx hy => i1 i x y hx hy n0) (fun i x y hx hy => i2 i x y hx hy n0)
  | nilIface => intros; exact .nilIface
  | iface _ ih => intros; exact .iface (ih n0)
  | agg h1 _ ih => intro wh' mv; exact .agg h1 fun j c v hj hv => ih j c v hj hv (fun _ _ => mv 0 j)
  | tuple h1 _ ih => intro wh' mv; exact .tuple h1 fun i x v hx hv => ih i x v hx hv (fun _ j => mv i j)
theorem Mono.refl (w : World) (g : Gh) : Mono w g w g := ⟨fun _ _ h => ⟨h, rfl⟩, fun _ _ h => h⟩
theorem Rep.weak {w : World} {g : Gh} {wh : Wh} {x : AV} {v : Value} (h : Rep w g wh x v) : Rep w g wh0 x v :=
  h.mono (.refl w g) (fun _ _ _ h => by cases h)
theorem Moves.none {w : World} {g : Gh} {w' : World} {g' : Gh} {wh : Wh} : Moves w g w' g' wh wh0 := by
  intro p c l' h; cases h
def Own.drop : Own → Own
  | .own _ => .no
  | o => o
theorem Room.any {w : World} {g : Gh} {l l' : Option Loc} {o : Own} {a : Option Addr} {n c : Nat} (h : Room w g l o a n c) (ho : o = .no ∨ o = .cap) : Room w g l' o a n c := by
  rcases ho with rfl | rfl <;> exact h
theorem Rep.copyCell {w : World} {g : Gh} {wh wh' : Wh} {x : AV} {v : Value} (h : Rep w g wh x v) : Rep w g wh' x.copyCell v := by
  cases h with
  | undef => exact .undef
  | bool => exact .bool
  | int => exact .int
  | str => exact .str
  | nilPtr => exact .nilPtr
  | ptr ho => exact .ptr ho
  | rptr f h1 h2 => exact .rptr f h1 h2
  | @list _ rows o a n c b off s f hn hc ha hs h1 h2 hr =>
    cases o with
    | own s' => exact .list b off s f hn hc ha hs h1 h2 trivial
    | no => exact .list b off s f hn hc ha hs h1 h2 trivial
    | cap => exact .list b off s f hn hc ha hs h1 h2 hr
    | nil => exact .list b off s f hn hc ha hs h1 h2 hr
    | mem => exact .list b off s f hn hc ha hs h1 h2 hr
  | slc hl h => exact .slc hl h
  | nilMap => exact .nilMap
  | map ho => exact .map ho
  | nilFunc => exact .nilFunc
  | func h1 h2 i1 i2 => exact .func h1 h2 i1 i2
  | nilIface => exact .nilIface
  | iface h => exact .iface h
  | agg h1 h2 => exact .undef
  | tuple h1 h2 => exact .undef
theorem Rep.copyAgg {w : World} {g : Gh} {wh wh' : Wh} {x : AV} {v : Value} (h : Rep w g wh x v) : Rep w g wh' x.copyAgg v := by
  cases x with
  | agg cs =>
    cases h with
    | agg h1 h2 =>
      refine .agg (by simp [h1]) fun j c u hj hu => ?_
      simp only [List.getElem?_map, Option.map_eq_some_iff] at hj
      obtain ⟨c, hc, rfl⟩ := hj
      exact (h2 j c u hc hu).copyCell
  | _ => exact h.copyCell
theorem Rep.copy {w : World} {g : Gh} {wh wh' : Wh} {x : AV} {v : Value} (h : Rep w g wh x v) : Rep w g wh' x.copy v := by
  cases x with
  | tuple xs =>
    cases h with
    | tuple h1 h2 =>
      refine .tuple (by simp [h1]) fun j c u hj hu => ?_
      simp only [List.getElem?_map, Option.map_eq_some_iff] at hj
      obtain ⟨c, hc, rfl⟩ := hj
      exact (h2 j c u hc hu).copyAgg
  | _ => exact h.copyAgg
theorem Rep.canonCell {w : World} {g : Gh} {wh : Wh} {x : AV} {v : Value} (h : Rep w g wh x v) : Rep w g wh x.canonCell v := by
  cases x with
  | list rows o => cases h with | list b off s f hn hc ha hs h1 h2 hr => exact .list b off s f hn hc ha hs h1 h2 trivial
  | _ => exact h
theorem Rep.canon {w : World} {g : Gh} {wh : Wh} {x : AV} {v : Value} (h : Rep w g wh x v) : Rep w g wh x.canon v := by
  cases x with
  | agg cs =>
    cases h with
    | agg h1 h2 =>
      refine .agg (by simp [h1]) fun j c u hj hu => ?_
      simp only [List.getElem?_map, Option.map_eq_some_iff] at hj
      obtain ⟨c, hc, rfl⟩ := hj
      exact (h2 j c u hc hu).canonCell
  | _ => exact h.canonCell
end Go.Ve

namespace Go.Ve
open Go
section
variable {P : Program}
theorem info_of_und {t : TypeId} {d : TypeDesc} (h : P.underlying t = some d) : ∃ i, P.info? t = some i := by
  unfold Program.underlying at h
  cases hi : P.info? t with
  | none => simp [hi] at h
  | some i => exact ⟨i, rfl⟩
theorem run_sizeOf' {t : TypeId} (h : (P.info? t).isSome) (w : World) : (sizeOf t).run P w = .ok (P.cellsOf t) w := by
  obtain ⟨i, hi⟩ := Option.isSome_iff_exists.1 h
  simp [sizeOf, typeInfo, hi, Program.cellsOf]
theorem isSome_of_und {t : TypeId} {d : TypeDesc} (h : P.underlying t = some d) : (P.info? t).isSome := by
  obtain ⟨i, hi⟩ := info_of_und h; simp [hi]
theorem agg_und {t : TypeId} (h : isAgg P t = true) : ∃ d, P.underlying t = some d ∧ (∀ w, (Go.isAgg t).run P w = .ok true w) := by
  unfold isAgg at h
  cases hu : P.underlying t with
  | none => simp [hu] at h
  | some d =>
    refine ⟨d, rfl, fun w => ?_⟩
    cases d <;> simp [hu] at h <;> simp [Go.isAgg, run_underlying hu]
theorem cell_und {t : TypeId} (h : isCell P t = true) : ∃ d, P.underlying t = some d ∧ (∀ w, (Go.isAgg t).run P w = .ok false w) := by
  unfold isCell at h
  cases hu : P.underlying t with
  | none => simp [hu] at h
  | some d =>
    refine ⟨d, rfl, fun w => ?_⟩
    cases d <;> simp [hu] at h <;> simp [Go.isAgg, run_underlying hu]
inductive ObjRep (w : World) (g : Gh) (id : Nat) : AObj → Prop
  | arr {cells : List AV} {ro : Bool} {b : Nat} {cs : Array Value} {ty : TypeId} {fr : Nat × Nat} : g.own b = some (.obj id) → w.heap[b]? = some (.cells cs ty fr) → cells.length ≤ cs.size →
      (∀ (j : Nat) c v, cells[j]? = some c → cs[j]? = some v → c.one = true ∧ Rep w g (fun _ _ => some (.cell id j)) c v) →
      (ro = false → (∀ k, ¬ g.st b k) ∧ ∀ k, k < cs.size → w.frozen? ⟨b, k, none⟩ = false) → ObjRep w g id (.arr cells ro)
  | map {es : List (AV × AV)} {b : Nat} {ms : Array MapEntry} {clock : Nat} : g.own b = some (.obj id) → w.heap[b]? = some (.map ms clock) → ms.size = es.length → (∀ k, ¬ g.st b k) →
      (∀ (j : Nat) e m, es[j]? = some e → ms[j]? = some m → Rep w g wh0 e.1 m.key ∧ Rep w g wh0 e.2 m.val) → ObjRep w g id (.map es)
  | siter {s : List UInt8} {pos b : Nat} : g.own b = some (.obj id) → w.heap[b]? = some (.stringIter ⟨s.toArray⟩ pos) → (∀ k, ¬ g.st b k) → ObjRep w g id (.siter s pos)
structure HR (w : World) (g : Gh) (h : H) : Prop where
  obj : ∀ (id : Nat) o, h[id]? = some o → (∃ b, g.own b = some (.obj id)) → ObjRep w g id o
  inj : ∀ b b' id, g.own b = some (.obj id) → g.own b' = some (.obj id) → b = b'
  lt : ∀ b l, g.own b = some l → b < w.heap.size
  bd : ∀ b id, g.own b = some (.obj id) → id < h.length
  stlt : ∀ b k, g.st b k → b < w.heap.size
  rsv : ∀ b id, g.own b = some (.obj id) → ¬ g.rsv id
  rlt : ∀ id, g.rsv id → id < h.length
theorem one_rep {w : World} {g : Gh} {wh : Wh} {c : AV} {v : Value} (h : Rep w g wh c v) (h1 : c.one = true) : v.oneCell' = true := by
  cases h <;> first | rfl | (simp [AV.one] at h1)
theorem one_cells {w : World} {g : Gh} {wh : Wh} {c : AV} {v : Value} (h : Rep w g wh c v) (h1 : c.one = true) : c.cells = [c] ∧ v.cells = #[v] := by
  cases h <;> first | exact ⟨rfl, rfl⟩ | (simp [AV.one] at h1)
theorem Rep.relabel {w : World} {g : Gh} {wh wh' : Wh} {x : AV} {v : Value} (h : Rep w g wh x v) (h1one : x.one = true) (he : wh' 0 0 = wh 0 0) : Rep w g wh' x v := by
  cases h with
  | list b off s f hn hc ha hs h1 h2 hr => exact .list b off s f hn hc ha hs h1 h2 (he ▸ hr)
  | undef => exact .undef
  | bool => exact .bool
  | int => exact .int
  | str => exact .str
  | nilPtr => exact .nilPtr
  | ptr ho => exact .ptr ho
  | rptr f h1 h2 => exact .rptr f h1 h2
  | slc hl h => exact .slc hl h
  | nilMap => exact .nilMap
  | map ho => exact .map ho
  | nilFunc => exact .nilFunc
  | func h1 h2 i1 i2 => exact .func h1 h2 i1 i2
  | nilIface => exact .nilIface
  | iface h => exact .iface h
  | agg => simp [AV.one] at h1one
  | tuple => simp [AV.one] at h1one
theorem Rep.cells {w : World} {g : Gh} {wh : Wh} {x : AV} {v : Value} (h : Rep w g wh x v) (h1 : x.cells.all AV.one = true) :
    v.cells.size = x.cells.length ∧ ∀ (j : Nat) c u, x.cells[j]? = some c → v.cells[j]? = some u → c.one = true ∧ Rep w g (fun _ _ => wh 0 j) c u := by
  have key : x.one = true → v.cells.size = x.cells.length ∧ ∀ (j : Nat) c u, x.cells[j]? = some c → v.cells[j]? = some u → c.one = true ∧ Rep w g (fun _ _ => wh 0 j) c u := by
    intro ho
    obtain ⟨e1, e2⟩ := one_cells h ho
    rw [e1, e2]
    refine ⟨rfl, fun j c u hj hu => ?_⟩
    cases j with
    | zero =>
      simp at hj hu
      subst hj hu
      refine ⟨ho, ?_⟩
      exact h.relabel ho rfl
    | succ j => simp at hj
  cases x with
  | agg cs =>
    cases h with
    | agg hs hc =>
      refine ⟨hs, fun j c u hj hu => ⟨?_, hc j c u hj hu⟩⟩
      exact List.all_eq_true.1 h1 c (List.mem_of_getElem? hj)
  | undef => simp [AV.cells, AV.one] at h1
  | tuple => simp [AV.cells, AV.one] at h1
  | _ => exact key rfl
theorem cellsAt_sound {w : World} {g : Gh} {h : H} (hH : HR w g h) {wh : Wh} {a : AV} {v : Value} (hr : Rep w g wh a v) {cells : List AV} {off : Nat} (he : cellsAt h a = some (cells, off)) :
    ∃ b base, v = .pointer (some ⟨b, base + off, none⟩) ∧ ∀ (j : Nat) c, cells[j]? = some c → c.one = true ∧ ∃ x, w.cell? ⟨b, base + j, none⟩ = some x ∧ Rep w g wh0 c x := by
  cases hr <;> simp [cellsAt] at he
  case ptr id o b ho =>
    split at he
    · rename_i cs ro hid
      simp at he
      obtain ⟨rfl, rfl⟩ := he
      have hob := hH.obj id _ hid ⟨_, ho⟩
      cases hob with
      | @arr _ _ b' vs ty fr ho' hb hs hc hro =>
        obtain rfl := hH.inj _ _ _ ho ho'
        refine ⟨b, 0, by simp, fun j c hj => ?_⟩
        have hj' : j < vs.size := Nat.lt_of_lt_of_le (List.getElem?_eq_some_iff.1 hj).1 hs
        obtain ⟨h1, h2⟩ := hc j c vs[j] hj (by simp [hj'])
        exact ⟨h1, vs[j], by simp [World.cell?, hb, hj'], h2.weak⟩
    · simp at he
  case rptr cs o b base f h1 h2 =>
    obtain ⟨rfl, rfl⟩ := he
    exact ⟨b, base, rfl, fun j c hj => ⟨(h1 j c hj).1, f j, (h1 j c hj).2.2, h2 j c hj⟩⟩
theorem ldCell_sound {w : World} {g : Gh} {h : H} (hH : HR w g h) {wh : Wh} {a : AV} {v : Value} (hr : Rep w g wh a v) {r : AV} (he : ldCell h a = some r) {t : TypeId} (ht : isCell P t = true) :
    ∃ x, (Instr.loadAt t v).run P w = .ok x w ∧ Rep w g wh0 r x ∧ r.one = true := by
  simp only [ldCell, Option.bind_eq_some_iff, cellAt] at he
  obtain ⟨⟨cells, off⟩, h1, h2⟩ := he
  obtain ⟨b, base, rfl, hc⟩ := cellsAt_sound hH hr h1
  obtain ⟨ho, x, hx, hrx⟩ := hc off r h2
  obtain ⟨d, _, hag⟩ := cell_und ht
  exact ⟨x, by simp [Instr.loadAt, Instr.sureAddr, loadVar, hag, hx], hrx, ho⟩
theorem aggAt_get {n : Nat} {cells : List AV} {off : Nat} {r : AV} (he : aggAt n cells off = some r) :
    ∃ cs, r = .agg cs ∧ cs.length = n ∧ ∀ (j : Nat) c, cs[j]? = some c → cells[off + j]? = some c := by
  unfold aggAt at he
  split at he
  · rename_i hl
    simp at he
    subst he
    refine ⟨_, rfl, by simp; omega, fun j c hj => ?_⟩
    rw [List.getElem?_take] at hj
    split at hj
    · rwa [List.getElem?_drop] at hj
    · simp at hj
  · simp at he
theorem ldAgg_sound {w : World} {g : Gh} {h : H} (hH : HR w g h) {wh : Wh} {a : AV} {v : Value} (hr : Rep w g wh a v) {r : AV} {t : TypeId} (he : ldAgg (P.cellsOf t) h a = some r) (ht : isAgg P t = true) :
    ∃ x, (Instr.loadAt t v).run P w = .ok x w ∧ Rep w g wh0 r x := by
  simp only [ldAgg, Option.bind_eq_some_iff] at he
  obtain ⟨⟨cells, off⟩, h1, h2⟩ := he
  obtain ⟨b, base, rfl, hc⟩ := cellsAt_sound hH hr h1
  obtain ⟨cs, rfl, hl, hcs⟩ := aggAt_get h2
  obtain ⟨d, hd, hag⟩ := agg_und ht
  have hex : ∀ j : Nat, ∃ x, j < cs.length → w.cell? ⟨b, base + off + j, none⟩ = some x ∧ ∀ c, cs[j]? = some c → Rep w g wh0 c x := by
    intro j
    by_cases hj : j < cs.length
    · obtain ⟨_, x, hx, hrx⟩ := hc (off + j) cs[j] (hcs j _ (by simp [hj]))
      exact ⟨x, fun _ => ⟨by rw [Nat.add_assoc]; exact hx, fun c hc => by simp [hj] at hc; subst hc; exact hrx⟩⟩
    · exact ⟨undef, fun h => absurd h hj⟩
  have hf := fun j => Classical.choose_spec (hex j)
  generalize hg : (fun j => Classical.choose (hex j)) = f at hf
  have hf' : ∀ j, j < cs.length → w.cell? ⟨b, base + off + j, none⟩ = some (f j) ∧ ∀ c, cs[j]? = some c → Rep w g wh0 c (f j) := by
    intro j hj; have := hf j hj; rw [← hg]; exact this
  have hrun := run_loadCells (P := P) w ⟨b, base + off, none⟩ (P.cellsOf t) f (fun j hj => by
    rw [Addr.add_lit]; exact (hf' j (by omega)).1)
  refine ⟨.agg ((List.range (P.cellsOf t)).map f).toArray, ?_, ?_⟩
  · simp [Instr.loadAt, Instr.sureAddr, loadVar, hag, run_sizeOf' (isSome_of_und hd), hrun]
  · refine .agg (by simp; omega) fun j c u hj hu => ?_
    have hjl := (List.getElem?_eq_some_iff.1 hj).1
    simp [List.getElem?_map, List.getElem?_range (show j < P.cellsOf t by omega)] at hu
    subst hu
    exact (hf' j hjl).2 c hj
theorem load_sound {w : World} {g : Gh} {h : H} (hH : HR w g h) {wh : Wh} {a : AV} {v : Value} (hr : Rep w g wh a v) {r : AV} {t : TypeId} (he : load P t h a = some r) :
    ∃ x, (Instr.loadAt t v).run P w = .ok x w ∧ Rep w g wh0 r x := by
  unfold load at he
  split at he
  · exact ldAgg_sound hH hr he (by assumption)
  · split at he
    · obtain ⟨x, h1, h2, _⟩ := ldCell_sound (P := P) hH hr he (by assumption); exact ⟨x, h1, h2⟩
    · simp at he
theorem fieldOf_und {t : TypeId} {i : Nat} {f : Field} (h : fieldOf P t i = some f) : ∃ fs, P.underlying t = some (.struct fs) ∧ fs[i]? = some f := by
  unfold fieldOf at h
  split at h
  · rename_i fs hu; exact ⟨fs, hu, h⟩
  · simp at h
theorem part_run {t : TypeId} (cs : Array Value) (off : Nat) (w : World) :
    (isCell P t = true → ∀ v, cs[off]? = some v → (Go.part t cs off).run P w = .ok v w) ∧
    (isAgg P t = true → (Go.part t cs off).run P w = .ok (.agg (cs.extract off (off + P.cellsOf t))) w) := by
  constructor
  · intro h v hv
    obtain ⟨d, _, hag⟩ := cell_und h
    simp [Go.part, hag, hv]
  · intro h
    obtain ⟨d, hd, hag⟩ := agg_und h
    simp [Go.part, hag, run_sizeOf' (isSome_of_und hd)]
theorem Rep.agg_inv {w : World} {g : Gh} {wh : Wh} {cells : List AV} {v : Value} (h : Rep w g wh (.agg cells) v) :
    ∃ vs : Array Value, v = .agg vs ∧ vs.size = cells.length ∧ ∀ (j : Nat) c u, cells[j]? = some c → vs[j]? = some u → Rep w g (fun _ _ => wh 0 j) c u := by
  cases h with | agg h1 h2 => exact ⟨_, rfl, h1, h2⟩
theorem extract_rep {w : World} {g : Gh} {cells : List AV} {vs : Array Value} (hs : vs.size = cells.length) (hc : ∀ (j : Nat) c u, cells[j]? = some c → vs[j]? = some u → Rep w g wh0 c u)
    {n off : Nat} {cs : List AV} (hl : cs.length = n) (hcs : ∀ (j : Nat) c, cs[j]? = some c → cells[off + j]? = some c) (hle : n = 0 ∨ off + n ≤ cells.length) : Rep w g wh0 (.agg cs) (.agg (vs.extract off (off + n))) := by
  refine .agg (by simp; omega) fun j c u hj hu => ?_
  have hj' := hcs j c hj
  rw [Array.getElem?_extract] at hu
  split at hu
  · exact (hc (off + j) c u hj' hu)
  · simp at hu
theorem field_sound {w : World} {g : Gh} {wh : Wh} {x : AV} {v : Value} (hr : Rep w g wh x v) {t : TypeId} {i : Nat} {r : AV} (he : field P t x i = some r) :
    ∃ u, (Instr.field t v i).run P w = .ok u w ∧ Rep w g wh0 r u := by
  unfold field at he
  split at he
  · rename_i f hf
    obtain ⟨fs, hu, hfi⟩ := fieldOf_und hf
    have hrun : ∀ vs : Array Value, (Instr.field t (.agg vs) i).run P w = (Go.part f.type vs f.offset).run P w := by
      intro vs; simp [Instr.field, run_underlying hu, hfi, asAgg]
    split at he
    · rename_i ha
      cases x <;> simp [fAgg] at he
      rename_i cells
      obtain ⟨vs, rfl, hs, hc⟩ := hr.agg_inv
      obtain ⟨cs, rfl, hl, hcs⟩ := aggAt_get he
      refine ⟨_, (hrun vs).trans ((part_run vs f.offset w).2 ha), ?_⟩
      refine extract_rep hs (fun j c u h1 h2 => (hc j c u h1 h2).weak) hl hcs ?_
      unfold aggAt at he
      split at he
      · exact .inr (by assumption)
      · simp at he
    · split at he
      · rename_i hce
        cases x <;> simp [fCell] at he
        rename_i cells
        obtain ⟨vs, rfl, hs, hc⟩ := hr.agg_inv
        have hlt : f.offset < vs.size := by rw [hs]; exact (List.getElem?_eq_some_iff.1 he).1
        exact ⟨vs[f.offset], (hrun vs).trans ((part_run vs f.offset w).1 hce _ (by simp [hlt])), (hc _ _ _ he (by simp [hlt])).weak⟩
      · simp at he
  · simp at he
theorem fAddr_sound {w : World} {g : Gh} {wh wh' : Wh} {x : AV} {v : Value} (hr : Rep w g wh x v) {off : Nat} {r : AV} (he : fAddr off x = some r) :
    ∃ b o, v = .pointer (some ⟨b, o, none⟩) ∧ Rep w g wh' r (.pointer (some ⟨b, o + off, none⟩)) := by
  cases hr <;> simp [fAddr] at he
  case ptr id o b ho => subst he; exact ⟨b, o, rfl, .ptr ho⟩
  case rptr cs o b base f h1 h2 => subst he; exact ⟨b, base + o, rfl, by rw [Nat.add_assoc]; exact .rptr f h1 h2⟩
theorem fieldAddr_sound {w : World} {g : Gh} {wh : Wh} {x : AV} {v : Value} (hr : Rep w g wh x v) {t : TypeId} {i : Nat} {r : AV} (he : fieldAddr P t x i = some r) :
    ∃ u, (Instr.fieldAt t v i).run P w = .ok u w ∧ Rep w g wh0 r u := by
  unfold fieldAddr at he
  split at he
  · simp at he
  · rename_i f hf
    split at he
    · simp at he
    · rename_i hne
      obtain ⟨fs, hu, hfi⟩ := fieldOf_und hf
      obtain ⟨b, o, rfl, hr'⟩ := fAddr_sound (wh' := wh0) hr he
      rw [not_or] at hne
      have hi : (P.info? f.type).isSome := by cases h : P.info? f.type <;> simp_all
      exact ⟨_, by simp [Instr.fieldAt, run_underlying hu, hfi, Instr.sureAddr, fieldPlace, run_sizeOf' hi, hne.1, Addr.add_lit], hr'⟩
theorem natOf_some {ix : AV} {i : Nat} (h : natOf ix = some i) : ∃ k, ix = .int k (i : Int) := by
  cases ix <;> simp [natOf] at h
  rename_i k n
  obtain ⟨h1, rfl⟩ := h
  exact ⟨k, by rw [Int.toNat_of_nonneg h1]⟩
theorem indexAddr_sound {w : World} {g : Gh} {wh wi : Wh} {x ix : AV} {v vi : Value} (hr : Rep w g wh x v) (hi : Rep w g wi ix vi) {t : TypeId} {r : AV} (he : indexAddr P t x ix = some r) :
    ∃ u, (Instr.indexAt t v vi).run P w = .ok u w ∧ Rep w g wh0 r u := by
  unfold indexAddr at he
  split at he
  · rename_i e hu
    split at he
    · rename_i hie
      simp only [ixSlice, Option.bind_eq_some_iff] at he
      obtain ⟨i, hn, he⟩ := he
      obtain ⟨k, rfl⟩ := natOf_some hn
      cases hi
      have hun : (Instr.indexAt t v (.int k i)).run P w = match v with
          | .slice (some a) len _ => if i < len then .ok (.pointer (some (a.add (i * P.cellsOf e)))) w else (boundsPanic k i len .index).run P w
          | v => (Instr.indexAt t v (.int k i)).run P w := by
        split
        · rename_i a len cap
          simp [Instr.indexAt, run_underlying hu, asIntOf]
          split <;> simp [run_sizeOf' hie]
        · rfl
      cases hr <;> simp at he
      case list rows o a n c b off s f hnr hnc ha hs h1 h2 hroom =>
        split at he
        · rename_i row hrow
          simp at he
          obtain ⟨hrl, rfl⟩ := he
          have hlt := (List.getElem?_eq_some_iff.1 hrow).1
          have := ha (by rintro rfl; simp at hlt)
          subst this
          have hs' : s = P.cellsOf e := by rw [← hrl]; exact (hs row (List.mem_of_getElem? hrow)).symm
          subst hs'
          refine ⟨.pointer (some ⟨b, off + i * P.cellsOf e, none⟩), by rw [hun]; simp [Addr.add_lit]; intro h; omega, ?_⟩
          exact .rptr (off := 0) (f i) (fun j c hj => h1 i row j c hrow hj) (fun j c hj => h2 i row j c hrow hj)
        · simp at he
      case slc id off l s a c hlc hac =>
        obtain ⟨⟨hil, rfl⟩, rfl⟩ := he
        rcases hac with rfl | ⟨b, rfl, ho⟩
        · omega
        · exact ⟨.pointer (some ⟨b, off + i * P.cellsOf e, none⟩), by rw [hun]; simp [Addr.add_lit]; intro h; omega, .ptr ho⟩
    · simp at he
  · rename_i n e hu
    split at he
    · rename_i hie
      simp only [ixArray, Option.bind_eq_some_iff] at he
      obtain ⟨i, hn, he⟩ := he
      obtain ⟨k, rfl⟩ := natOf_some hn
      cases hi
      simp at he
      obtain ⟨hlt, he⟩ := he
      obtain ⟨b, o, rfl, hr'⟩ := fAddr_sound (wh' := wh0) hr he
      refine ⟨_, ?_, hr'⟩
      simp [Instr.indexAt, run_underlying hu, asIntOf, Instr.sureAddr, run_sizeOf' hie, Addr.add_lit]
      intro h; omega
    · simp at he
  · simp at he
theorem index_sound {w : World} {g : Gh} {wh wi : Wh} {x ix : AV} {v vi : Value} (hr : Rep w g wh x v) (hi : Rep w g wi ix vi) {t : TypeId} {r : AV} (he : index P t x ix = some r) :
    ∃ u, (Instr.index t v vi).run P w = .ok u w ∧ Rep w g wh0 r u := by
  unfold index at he
  split at he
  · rename_i hu
    simp only [ixStr, Option.bind_eq_some_iff] at he
    obtain ⟨i, hn, he⟩ := he
    obtain ⟨k, rfl⟩ := natOf_some hn
    cases hi
    cases hr <;> simp at he
    case str l =>
      split at he
      · rename_i b hb
        simp at he
        subst he
        have : (⟨l.toArray⟩ : ByteArray)[i]? = some b := by
          have hlt := (List.getElem?_eq_some_iff.1 hb).1
          have : i < (⟨l.toArray⟩ : ByteArray).size := by simpa [ByteArray.size] using hlt
          rw [getElem?_pos (⟨l.toArray⟩ : ByteArray) i this, ← (List.getElem?_eq_some_iff.1 hb).2]
          rfl
        exact ⟨_, by simp [Instr.index, run_underlying hu, asIntOf, this], .int⟩
      · simp at he
  · rename_i n e hu
    split at he
    · rename_i hce
      simp only [ixAgg, Option.bind_eq_some_iff] at he
      obtain ⟨i, hn, he⟩ := he
      obtain ⟨k, rfl⟩ := natOf_some hn
      cases hi
      simp at he
      obtain ⟨hlt, he⟩ := he
      have hie : (P.info? e).isSome := by
        rcases Bool.or_eq_true _ _ ▸ hce with h | h
        · obtain ⟨d, hd, _⟩ := agg_und h; exact isSome_of_und hd
        · obtain ⟨d, hd, _⟩ := cell_und h; exact isSome_of_und hd
      have hrun : ∀ vs : Array Value, (Instr.index t (.agg vs) (.int k i)).run P w = (Go.part e vs (i * P.cellsOf e)).run P w := by
        intro vs
        have : ¬ (n : Int) ≤ i := by omega
        simp [Instr.index, run_underlying hu, asIntOf, run_sizeOf' hie]
        intro h; omega
      split at he
      · rename_i ha
        cases x <;> simp [fAgg] at he
        rename_i cells
        obtain ⟨vs, rfl, hs, hc⟩ := hr.agg_inv
        obtain ⟨cs, rfl, hl, hcs⟩ := aggAt_get he
        refine ⟨_, (hrun vs).trans ((part_run vs _ w).2 ha), ?_⟩
        refine extract_rep hs (fun j c u h1 h2 => (hc j c u h1 h2).weak) hl hcs ?_
        unfold aggAt at he
        split at he
        · exact .inr (by assumption)
        · simp at he
      · rename_i ha
        have hcl : isCell P e = true := by simpa [ha] using hce
        cases x <;> simp [fCell] at he
        rename_i cells
        obtain ⟨vs, rfl, hs, hc⟩ := hr.agg_inv
        have hlt : i * P.cellsOf e < vs.size := by rw [hs]; exact (List.getElem?_eq_some_iff.1 he).1
        exact ⟨vs[i * P.cellsOf e], (hrun vs).trans ((part_run vs _ w).1 hcl _ (by simp [hlt])), (hc _ _ _ he (by simp [hlt])).weak⟩
    · simp at he
  · simp at he
theorem intBin_sound {w : World} {g : Gh} {op : BinOp} {t : TypeId} {k : IntKind} {a b : Int} {r : AV} (he : intBin op k a b = some r) (h1 : op ≠ .shl) (h2 : op ≠ .shr) :
    ∃ u, (Go.binOp op t (.int k a) (.int k b)).run P w = .ok u w ∧ Rep w g wh0 r u := by
  cases op with
  | add => simp only [intBin, Option.some.injEq] at he; subst he; exact ⟨_, by rw [binOp_add]; rfl, .int⟩
  | sub => simp only [intBin, Option.some.injEq] at he; subst he; exact ⟨_, by rw [binOp_sub]; rfl, .int⟩
  | mul => simp only [intBin, Option.some.injEq] at he; subst he; exact ⟨_, by rw [binOp_mul]; rfl, .int⟩
  | and => simp only [intBin, intBits, Option.some.injEq] at he; subst he; exact ⟨_, by rw [binOp_and]; rfl, .int⟩
  | or => simp only [intBin, intBits, Option.some.injEq] at he; subst he; exact ⟨_, by rw [binOp_or]; rfl, .int⟩
  | xor => simp only [intBin, intBits, Option.some.injEq] at he; subst he; exact ⟨_, by rw [binOp_xor]; rfl, .int⟩
  | andNot => simp only [intBin, intBits, Option.some.injEq] at he; subst he; exact ⟨_, by rw [binOp_andNot]; rfl, .int⟩
  | eql => simp only [intBin, Option.some.injEq] at he; subst he; exact ⟨_, by rw [binOp_eql]; rfl, .bool⟩
  | neq => simp only [intBin, Option.some.injEq] at he; subst he; exact ⟨_, by rw [binOp_neq]; rfl, .bool⟩
  | lss => simp only [intBin, Option.some.injEq] at he; subst he; exact ⟨_, by rw [binOp_lss]; rfl, .bool⟩
  | leq => simp only [intBin, Option.some.injEq] at he; subst he; exact ⟨_, by rw [binOp_leq]; rfl, .bool⟩
  | gtr => simp only [intBin, Option.some.injEq] at he; subst he; exact ⟨_, by rw [binOp_gtr]; rfl, .bool⟩
  | geq => simp only [intBin, Option.some.injEq] at he; subst he; exact ⟨_, by rw [binOp_geq]; rfl, .bool⟩
  | quo =>
    simp only [intBin] at he
    split at he
    · cases he
    · rename_i hb
      simp only [Option.some.injEq] at he
      subst he
      exact ⟨_, by rw [binOp_quo]; simp only [Op.intDiv, if_neg hb]; rfl, .int⟩
  | rem =>
    simp only [intBin] at he
    split at he
    · cases he
    · rename_i hb
      simp only [Option.some.injEq] at he
      subst he
      exact ⟨_, by rw [binOp_rem]; simp only [Op.intDiv, if_neg hb]; rfl, .int⟩
  | shl => exact absurd rfl h1
  | shr => exact absurd rfl h2
theorem str_size (l : List UInt8) : (⟨l.toArray⟩ : ByteArray).size = l.length := by simp [ByteArray.size]
theorem str_toList (l : List UInt8) : (⟨l.toArray⟩ : ByteArray).toList = l := by
  rw [ByteArray.toList_eq]
theorem str_append (l m : List UInt8) : (⟨l.toArray⟩ : ByteArray) ++ ⟨m.toArray⟩ = ⟨(l ++ m).toArray⟩ := by
  apply ByteArray.ext
  simp
theorem strBin_sound {w : World} {g : Gh} {op : BinOp} {t : TypeId} {a b : List UInt8} {r : AV} (he : strBin op a b = some r) :
    ∃ u, (Go.binOp op t (.string ⟨a.toArray⟩) (.string ⟨b.toArray⟩)).run P w = .ok u w ∧ Rep w g wh0 r u := by
  cases op <;> simp [strBin] at he
  · obtain ⟨hb, rfl⟩ := he
    refine ⟨.string ⟨(a ++ b).toArray⟩, ?_, .str⟩
    have : ¬ (9223372036854775807 < (a.length : Int) + (b.length : Int)) := by omega
    simp [Go.binOp, Op.stringOp, str_size, this, str_append]
  all_goals first
    | (subst he; exact ⟨_, by simp only [Go.binOp, Op.stringOp, str_toList]; rfl, .bool⟩)
    | (subst he; exact ⟨_, by simp [Go.binOp, Op.stringOp, str_toList], .bool⟩)
theorem shift_sound {w : World} {g : Gh} {op : BinOp} {k : IntKind} {a b : Int} {r : AV} (he : shiftBin op k a b = some r) (yk : IntKind) (t : TypeId) (h : op = .shl ∨ op = .shr) :
    ∃ u, (Go.binOp op t (.int k a) (.int yk b)).run P w = .ok u w ∧ Rep w g wh0 r u := by
  unfold shiftBin at he
  split at he
  · cases he
  · rename_i hb
    rcases h with rfl | rfl <;> (simp only [Option.some.injEq] at he; subst he)
    · exact ⟨_, by rw [binOp_shl]; simp only [Op.shift, if_neg hb]; rfl, .int⟩
    · exact ⟨_, by rw [binOp_shr]; simp only [Op.shift, if_neg hb]; rfl, .int⟩
theorem bin_sound {w : World} {g : Gh} {wx wy : Wh} {op : BinOp} {x y r : AV} {u v : Value} (hx : Rep w g wx x u) (hy : Rep w g wy y v) (he : bin op x y = some r) (t : TypeId)
    (xo yo : Operand) : ∃ z, (do eqGuard op t xo yo u v; Go.binOp op t u v : Sem Value).run P w = .ok z w ∧ Rep w g wh0 r z := by
  unfold bin at he
  split at he
  · cases hx; cases hy
    obtain ⟨z, h1, h2⟩ := shift_sound (P := P) (w := w) (g := g) he (by assumption) t (.inl rfl)
    exact ⟨z, by simp [h1, eqGuard_shl], h2⟩
  · cases hx; cases hy
    obtain ⟨z, h1, h2⟩ := shift_sound (P := P) (w := w) (g := g) he (by assumption) t (.inr rfl)
    exact ⟨z, by simp [h1, eqGuard_shr], h2⟩
  · cases hx; cases hy
    split at he
    · rename_i hk
      subst hk
      by_cases h1 : op = .shl
      · subst h1; exfalso; simp_all
      by_cases h2 : op = .shr
      · subst h2; exfalso; simp_all
      obtain ⟨z, h3, h4⟩ := intBin_sound (P := P) (w := w) (g := g) (t := t) he h1 h2
      exact ⟨z, by simp [h3, eqGuard_at_int], h4⟩
    · cases he
  · cases hx; cases hy
    obtain ⟨z, h1, h2⟩ := strBin_sound (P := P) (w := w) (g := g) (t := t) he
    exact ⟨z, by simp [h1, eqGuard_at_string], h2⟩
  · cases he
theorem equal_bool {t : TypeId} (h : P.underlying t = some .bool) (a b : Bool) (w : World) : (Op.equal t (.bool a) (.bool b)).run P w = .ok (a == b) w := by
  have : ∀ d, (Op.equalIn (d + 1) t (.bool a) (.bool b)).run P w = .ok (a == b) w := by
    intro d; simp [Op.equalIn, run_underlying h]
  exact this 9999
theorem binBool_sound {w : World} {g : Gh} {wx wy : Wh} {op : BinOp} {x y r : AV} {u v : Value} (hx : Rep w g wx x u) (hy : Rep w g wy y v) (he : binBool op x y = some r) {t : TypeId} (ht : isBool P t = true)
    (xo yo : Operand) : ∃ z, (do eqGuard op t xo yo u v; Go.binOp op t u v : Sem Value).run P w = .ok z w ∧ Rep w g wh0 r z := by
  have hu : P.underlying t = some .bool := by
    unfold isBool at ht
    split at ht
    · assumption
    · cases ht
  unfold binBool at he
  split at he
  · cases hx; cases hy
    simp only [Option.some.injEq] at he
    subst he
    exact ⟨_, by simp [eqGuard_at_bool, Go.binOp, equal_bool hu], .bool⟩
  · cases hx; cases hy
    simp only [Option.some.injEq] at he
    subst he
    exact ⟨_, by simp [eqGuard_at_bool, Go.binOp, equal_bool hu], .bool⟩
  · cases he
theorem unOp_sound {w : World} {g : Gh} {wx : Wh} {op : UnOp} {x r : AV} {u : Value} (hx : Rep w g wx x u) (he : unOp op x = some r) :
    ∃ z, (Op.unary op u).run P w = .ok z w ∧ Rep w g wh0 r z := by
  unfold unOp at he
  split at he
  · cases hx; simp only [Option.some.injEq] at he; subst he
    exact ⟨_, by simp only [Op.unary, Op.intArith]; rfl, .int⟩
  · cases hx; simp only [intBits, Option.some.injEq] at he; subst he
    exact ⟨_, by simp only [Op.unary, Op.intBits]; rfl, .int⟩
  · cases hx; simp only [Option.some.injEq] at he; subst he
    exact ⟨_, by simp only [Op.unary]; rfl, .bool⟩
  · cases he
theorem bound_sound {w : World} {g : Gh} {dflt : Nat} {lo : Option AV} {ol : Option Value} (hl : ∀ a, lo = some a → ∃ v, ol = some v ∧ ∃ wh, Rep w g wh a v) (hn : lo = none → ol = none) {i : Nat} (he : bound dflt lo = some i) :
    (lo = none ∧ ol = none ∧ i = dflt) ∨ ∃ k, ol = some (.int k i) ∧ lo.isSome := by
  cases lo with
  | none => simp [bound] at he; exact .inl ⟨rfl, hn rfl, he.symm⟩
  | some a =>
    obtain ⟨v, h1, wh, h2⟩ := hl a rfl
    obtain ⟨k, rfl⟩ := natOf_some he
    cases h2
    exact .inr ⟨k, h1, rfl⟩
theorem sliceBound_ok {k : IntKind} {i y : Nat} (h : i ≤ y) (c : BoundsCode) (w : World) : (Instr.sliceBound (.int k i) y c).run P w = .ok i w := by
  have : (i : Int) ≤ y := by omega
  simp [Instr.sliceBound, asIntOf, this]
theorem extract_str (l : List UInt8) (a b : Nat) : (⟨l.toArray⟩ : ByteArray).extract a b = ⟨((l.take b).drop a).toArray⟩ := by
  rw [ByteArray.extract_mk]
  congr 1
  apply Array.ext'
  simp [List.drop_take]
theorem slice_str_sound {w : World} {g : Gh} {wx : Wh} {x : AV} {u : Value} (hx : Rep w g wx x u) {t : TypeId} (ht : P.underlying t = some .string) {lo hi : Option AV} {ol oh : Option Value}
    (hl : ∀ a, lo = some a → ∃ v, ol = some v ∧ ∃ wh, Rep w g wh a v) (hln : lo = none → ol = none)
    (hh : ∀ a, hi = some a → ∃ v, oh = some v ∧ ∃ wh, Rep w g wh a v) (hhn : hi = none → oh = none) {r : AV} (he : slStr x lo hi = some r) :
    ∃ z, (Instr.slice t u ol oh none).run P w = .ok z w ∧ Rep w g wh0 r z := by
  unfold slStr at he
  split at he
  · rename_i s
    cases hx
    simp only [Option.bind_eq_some_iff] at he
    obtain ⟨l, h1, hh', h2, he⟩ := he
    split at he
    · rename_i hc
      simp only [Option.some.injEq] at he
      subst he
      refine ⟨.string (ByteArray.extract ⟨s.toArray⟩ l hh'), ?_, by rw [extract_str]; exact .str⟩
      have b1 := bound_sound (w := w) (g := g) hl hln h1
      have b2 := bound_sound (w := w) (g := g) hh hhn h2
      rcases b1 with ⟨_, rfl, rfl⟩ | ⟨k1, rfl, _⟩ <;> rcases b2 with ⟨_, rfl, rfl⟩ | ⟨k2, rfl, _⟩ <;>
        simp [Instr.slice, run_underlying ht, Instr.sliceBounds, str_size, sliceBound_ok hc.1, sliceBound_ok hc.2]
      rw [extract_str]
      simp
    · cases he
  · cases he
theorem slice_slice_sound {w : World} {g : Gh} {wx : Wh} {x : AV} {u : Value} (hx : Rep w g wx x u) {t e : TypeId} (ht : P.underlying t = some (.slice e)) (hie : (P.info? e).isSome) {lo hi mx : Option AV} {ol oh om : Option Value}
    (hl : ∀ a, lo = some a → ∃ v, ol = some v ∧ ∃ wh, Rep w g wh a v) (hln : lo = none → ol = none)
    (hh : ∀ a, hi = some a → ∃ v, oh = some v ∧ ∃ wh, Rep w g wh a v) (hhn : hi = none → oh = none)
    (hm : ∀ a, mx = some a → ∃ v, om = some v ∧ ∃ wh, Rep w g wh a v) (hmn : mx = none → om = none) {r : AV} (he : slSlice (P.cellsOf e) x lo hi mx = some r) :
    ∃ z, (Instr.slice t u ol oh om).run P w = .ok z w ∧ Rep w g wh0 r z := by
  have hrun : ∀ (a : Option Addr) (n c l h m : Nat), l ≤ h → h ≤ n → n ≤ c → ((lo = none ∧ ol = none ∧ l = 0) ∨ ∃ k, ol = some (.int k l) ∧ lo.isSome) → ((hi = none ∧ oh = none ∧ h = n) ∨ ∃ k, oh = some (.int k h) ∧ hi.isSome) →
      ((om = none ∧ m = c) ∨ ∃ k, om = some (.int k m) ∧ m = h ∧ hi.isSome) →
      (Instr.slice t (.slice a n c) ol oh om).run P w = .ok (.slice (if m = l then a else a.map (·.add (l * P.cellsOf e))) (h - l) (m - l)) w := by
    intro a n c l h m h1 h2 h3 b1 b2 b3
    have h4 : h ≤ c := by omega
    rcases b3 with ⟨rfl, rfl⟩ | ⟨k3, rfl, rfl, hi3⟩
    · rcases b1 with ⟨_, rfl, rfl⟩ | ⟨k1, rfl, _⟩ <;> rcases b2 with ⟨_, rfl, rfl⟩ | ⟨k2, rfl, _⟩ <;>
        simp [Instr.slice, run_underlying ht, Instr.sliceBounds, sliceBound_ok h1, sliceBound_ok h4, run_sizeOf' hie]
    · rcases b2 with ⟨h5, _⟩ | ⟨k2, rfl, _⟩
      · simp [h5] at hi3
      · rcases b1 with ⟨_, rfl, rfl⟩ | ⟨k1, rfl, _⟩ <;>
          simp [Instr.slice, run_underlying ht, Instr.sliceBounds, sliceBound_ok h1, sliceBound_ok h4, sliceBound_ok (Nat.le_refl m), run_sizeOf' hie]
  unfold slSlice at he
  split at he
  · rename_i rows o
    cases hx with
    | @list _ _ _ a n c b off s f hn hc ha hs h1 h2 hr =>
      simp only [Option.bind_eq_some_iff] at he
      obtain ⟨l, e1, hh', e2, he⟩ := he
      split at he
      · rename_i hcnd
        obtain ⟨c1, c2, c3⟩ := hcnd
        have b1 := bound_sound (w := w) (g := g) hl hln e1
        have b2 := bound_sound (w := w) (g := g) hh hhn e2
        have hsz : rows ≠ [] → s = P.cellsOf e := by
          intro hne
          cases rows with
          | nil => exact absurd rfl hne
          | cons r0 rs =>
            have := hs r0 (by simp)
            simp at c3
            omega
        subst hn
        have rep : ∀ (m : Nat) (ow : Own), hh' ≤ m → (ow = .no ∨ (ow = .cap ∧ m = hh')) →
            Rep w g wh0 (.list ((rows.take hh').drop l) ow) (.slice (if m = l then a else a.map (·.add (l * P.cellsOf e))) (hh' - l) (m - l)) := by
          intro m ow hm how
          by_cases hne : (rows.take hh').drop l = []
          · have : hh' - l = 0 := by
              have := congrArg List.length hne
              simp at this; omega
            rw [hne, this]
            refine .list 0 0 0 (fun _ _ => undef) rfl (by omega) (by simp) (by simp) (by simp) (by simp) ?_
            rcases how with rfl | ⟨rfl, rfl⟩
            · trivial
            · show m - l = 0; omega
          · have hlen : l < hh' := by
              rcases Nat.lt_or_ge l hh' with h | h
              · exact h
              · exact absurd (List.drop_eq_nil_of_le (by simp; omega)) hne
            have hrne : rows ≠ [] := by rintro rfl; simp at hne
            have hml : m ≠ l := by omega
            have hss := hsz hrne
            rw [ha hrne, if_neg hml]
            simp only [Option.map_some, Addr.add_lit]
            have hget : ∀ (i : Nat) r, ((rows.take hh').drop l)[i]? = some r → rows[l + i]? = some r := by
              intro i r hi
              rw [List.getElem?_drop, List.getElem?_take] at hi
              split at hi
              · exact hi
              · cases hi
            refine .list b (off + l * P.cellsOf e) s (fun i j => f (l + i) j) (by simp; omega) (by omega) (fun _ => rfl) (fun r hr' => hs r (List.mem_of_mem_take (List.mem_of_mem_drop hr'))) ?_ ?_ ?_
            · intro i r j cl hi hj
              have := h1 (l + i) r j cl (hget i r hi) hj
              rwa [show off + (l + i) * s + j = off + l * P.cellsOf e + i * s + j by rw [hss, Nat.add_mul]; omega] at this
            · intro i r j cl hi hj
              exact h2 (l + i) r j cl (hget i r hi) hj
            · rcases how with rfl | ⟨rfl, rfl⟩
              · trivial
              · show m - l = m - l; rfl
        split at he
        · simp only [Option.some.injEq] at he
          subst he
          refine ⟨_, hrun a _ c l hh' c c1 c2 hc b1 b2 (.inl ⟨hmn rfl, rfl⟩), rep c .no (by omega) (.inl rfl)⟩
        · rename_i m
          split at he
          · rename_i hm2
            simp only [Option.some.injEq] at he
            subst he
            obtain ⟨v, hv, wh, hrv⟩ := hm m rfl
            obtain ⟨k, rfl⟩ := natOf_some hm2.1
            cases hrv
            exact ⟨_, hrun a _ c l hh' hh' c1 c2 hc b1 b2 (.inr ⟨k, hv, rfl, hm2.2⟩), rep hh' .cap (Nat.le_refl _) (.inr ⟨rfl, rfl⟩)⟩
          · cases he
      · cases he
  · rename_i id off len s'
    split at he
    · rename_i hmx
      cases hx with
      | @slc _ _ _ _ _ a c hlc hac =>
        simp only [Option.bind_eq_some_iff] at he
        obtain ⟨l, e1, hh', e2, he⟩ := he
        split at he
        · rename_i hcnd
          obtain ⟨c1, c2, rfl⟩ := hcnd
          simp only [Option.some.injEq] at he
          subst he
          have b1 := bound_sound (w := w) (g := g) hl hln e1
          have b2 := bound_sound (w := w) (g := g) hh hhn e2
          refine ⟨_, hrun a len c l hh' c c1 c2 hlc b1 b2 (.inl ⟨hmn rfl, rfl⟩), .slc (by omega) ?_⟩
          by_cases hcl : c = l
          · exact .inl (by omega)
          · right
            rw [if_neg hcl]
            rcases hac with rfl | ⟨b, rfl, ho⟩
            · omega
            · exact ⟨b, by simp [Addr.add_lit], ho⟩
        · cases he
    · cases he
  · cases he
end
end Go.Ve
