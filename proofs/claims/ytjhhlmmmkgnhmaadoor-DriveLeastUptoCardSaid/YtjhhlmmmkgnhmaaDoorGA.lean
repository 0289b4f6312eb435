/- An abstract machine for a lone call: values as trees of data, memory of the call's own as a list of objects; what one operation does there. No program in sight. -/
import Derived.WalkKit
import Derived.WalkSpells
import Derived.WalkLawsBesides
import Derived.StillTail
import Derived.Lib.Hide
import Derived.Deep.MidRow
import Derived.Deep.AppendSrc
import Derived.Great.BuildSlice
import Derived.KernelRfl
import Derived.Laws.BytesString
namespace Go.Proofs.YtjhhlmmmkgnhmaaDoor
set_option linter.unusedSimpArgs false
set_option linter.unusedVariables false
set_option linter.unusedSectionVars false

/-- One cell's content. -/
inductive Lf where
  | any
  | int (k : IntKind) (n : Int)
  | bool (b : Bool)
  | str (s : ByteArray)
  | nilp
  | nils
  | ip (cells : List Lf) (off : Nat)
  | op (id sz row off : Nat)
  | sl (cl : Bool) (sz : Nat) (rows : List (List Lf))
  | os (id sz off len : Nat)
  | fn (f : Fn) (caps : List Lf)

inductive Cm where
  | one (l : Lf)
  | agg (ls : List Lf)

inductive AV where
  | cm (c : Cm)
  | tup (cs : List Cm)
  | gd (p : Prop) (c : Cm)
  | unk
  | boo

structure Ob where
  box : Bool
  sz : Nat
  ety : TypeId
  rows : List (List Lf)

inductive Hint where
  | bit (b : Bool)
  | spec
  | skip
  | cells (c : List Lf)
  | rows (r : List (List Lf))
  | num (n : Nat)
  | byte (b : UInt8)
  | ints (l : List Int)
  | draw (n : Nat) (cl : List (Nat × Nat))
  | call (ids : List Nat) (r : AV) (out : List (Option Ob))
  | wait (n : Nat)
  | frz (id : Nat)
  | relen (id n : Nat)
  | nilS (t k sz : Nat)
  | nilB (id k sz : Nat)
  | adopt (t : Nat) (sz : Nat) (e : TypeId)
  | adoptB (id cell : Nat) (sz : Nat) (e : TypeId)

/-! Numbers, under names of their own. -/
def addK (k : IntKind) (a b : Int) : Int := k.wrap (a + b)
def subK (k : IntKind) (a b : Int) : Int := k.wrap (a - b)
def mulK (k : IntKind) (a b : Int) : Int := k.wrap (a * b)
def quoK (k : IntKind) (a b : Int) : Int := k.wrap (a.tdiv b)
def remK (a b : Int) : Int := a.tmod b
def andK (k : IntKind) (a b : Int) : Int := k.wrap (BitVec.ofInt k.bits a &&& BitVec.ofInt k.bits b).toNat
def orK (k : IntKind) (a b : Int) : Int := k.wrap (BitVec.ofInt k.bits a ||| BitVec.ofInt k.bits b).toNat
def xorK (k : IntKind) (a b : Int) : Int := k.wrap (BitVec.ofInt k.bits a ^^^ BitVec.ofInt k.bits b).toNat
def andNotK (k : IntKind) (a b : Int) : Int := k.wrap (BitVec.ofInt k.bits a &&& ~~~BitVec.ofInt k.bits b).toNat
def shlK (k : IntKind) (a b : Int) : Int := k.wrap (a * 2 ^ min b.toNat k.bits)
def shrK (k : IntKind) (a b : Int) : Int := a.fdiv (2 ^ min b.toNat k.bits)
def cvK (k : IntKind) (a : Int) : Int := k.wrap a
def ltI (a b : Int) : Bool := decide (a < b)
def leI (a b : Int) : Bool := decide (a ≤ b)
def gtI (a b : Int) : Bool := decide (a > b)
def geI (a b : Int) : Bool := decide (a ≥ b)
def eqI (a b : Int) : Bool := a == b
def neI (a b : Int) : Bool := a != b
def maxI (a b : Int) : Int := if b > a then b else a
def minI (a b : Int) : Int := if b < a then b else a
def eqB (a b : Bool) : Bool := a == b
def eqS (a b : ByteArray) : Bool := a.toList == b.toList
def ltS (a b : ByteArray) : Bool := Op.bytesLess a.toList b.toList
def catS (a b : ByteArray) : ByteArray := a ++ b
def getI {α : Type} (l : List α) (i : Int) : Option α := if 0 ≤ i then l[i.toNat]? else none
def lenI {α : Type} (l : List α) : Int := l.length
def sizeS (s : ByteArray) : Int := s.size
def getS (s : ByteArray) (i : Int) : Option UInt8 := if 0 ≤ i then s[i.toNat]? else none
def byteI (b : UInt8) : Int := b.toNat
def bytesI (l : List Int) : ByteArray := ⟨(l.map fun n => UInt8.ofNat n.toNat).toArray⟩

def allP : List Prop → Prop
  | [] => True
  | p :: r => p ∧ allP r

/-! Reading operands. -/
def ofConst : Value → Option Lf
  | .int k n => some (.int k n)
  | .bool b => some (.bool b)
  | .string s => some (.str s)
  | .pointer none => some .nilp
  | .slice none 0 0 => some .nils
  | .func f first caps => bif first.size == 0 && caps.size == 0 then some (.fn f []) else none
  | _ => none
def ofConsts : List Value → Option (List Lf)
  | [] => some []
  | v :: r => match ofConst v, ofConsts r with
    | some l, some ls => some (l :: ls)
    | _, _ => none
def constCm : Value → Option Cm
  | .agg cs => (ofConsts cs.toList).map .agg
  | v => (ofConst v).map .one
def look : List (Nat × AV) → Nat → AV
  | [], _ => .unk
  | (k, v) :: r, t => bif k == t then v else look r t
def aev (L : Nat → AV) : Operand → AV
  | .tmp t => L t
  | .const v => match constCm v with
    | some c => .cm c
    | none => .unk
  | .func f => .cm (.one (.fn (.func f) []))
  | .global _ => .unk
/-- An operand where the guard g holds. -/
def getG (g : Prop) : AV → Option (Cm × List Prop)
  | .cm c => some (c, [])
  | .gd p c => some (c, [g → p])
  | _ => none
def Cm.cells : Cm → List Lf
  | .one l => [l]
  | .agg ls => ls

structure Res where
  v : AV
  news : List Ob
  obs : List Prop
  hs : List Hint

def tsz (P : Program) (t : TypeId) : Option Nat := (P.info? t).map (·.size)
def trow (P : Program) (t : TypeId) : Option Bool := (P.underlying t).map TypeDesc.isRow
def partL (row : Bool) (n off : Nat) (cells : List Lf) : Option Cm :=
  bif row then (bif ((cells.drop off).take n).length == n then some (.agg ((cells.drop off).take n)) else none)
  else (cells[off]?).map .one
def zeroL (P : Program) (t : TypeId) : Option (List Lf) :=
  match P.info? t with
  | some i => match i.zero with
    | some z => bif z.cells.size == i.size && !(i.size == 0) then ofConsts z.cells.toList else none
    | none => none
  | none => none

/-! Operations on numbers, strings, booleans. -/
def abinI (op : BinOp) (k : IntKind) (a b : Int) : Option (Lf × List Prop) :=
  match op with
  | .add => some (.int k (addK k a b), [])
  | .sub => some (.int k (subK k a b), [])
  | .mul => some (.int k (mulK k a b), [])
  | .quo => some (.int k (quoK k a b), [b ≠ 0])
  | .rem => some (.int k (remK a b), [b ≠ 0])
  | .and => some (.int k (andK k a b), [])
  | .or => some (.int k (orK k a b), [])
  | .xor => some (.int k (xorK k a b), [])
  | .andNot => some (.int k (andNotK k a b), [])
  | .eql => some (.bool (eqI a b), [])
  | .neq => some (.bool (neI a b), [])
  | .lss => some (.bool (ltI a b), [])
  | .leq => some (.bool (leI a b), [])
  | .gtr => some (.bool (gtI a b), [])
  | .geq => some (.bool (geI a b), [])
  | _ => none
def abinS (op : BinOp) (a b : ByteArray) : Option (Lf × List Prop) :=
  match op with
  | .add => some (.str (catS a b), [a.size + b.size ≤ 9223372036854775807])
  | .eql => some (.bool (eqS a b), [])
  | .neq => some (.bool (!eqS a b), [])
  | .lss => some (.bool (ltS a b), [])
  | _ => none
/-- Two leaves of a type compared. -/
def eqLf : TypeDesc → Lf → Lf → Option Bool
  | .int _, .int k a, .int k' b => bif decide (k = k') then some (eqI a b) else none
  | .bool, .bool a, .bool b => some (eqB a b)
  | .string, .str a, .str b => some (a == b)
  | _, _, _ => none
def eqLfs : List TypeDesc → List Lf → List Lf → Option Bool
  | [], [], [] => some true
  | u :: us, x :: xs, y :: ys => match eqLf u x y, eqLfs us xs ys with
    | some a, some b => some (a && b)
    | _, _ => none
  | _, _, _ => none
/-- The fields of a struct of plain cells, one for each field, from cell k on. -/
def flatU (P : Program) : Nat → List Field → Option (List TypeDesc)
  | _, [] => some []
  | k, f :: fs => bif f.offset == k && !(f.name == "_") && (trow P f.type == some false) then
      match P.underlying f.type, flatU P (k + 1) fs with
      | some u, some us => some (u :: us)
      | _, _ => none
    else none
def flatT (P : Program) (t : TypeId) : Option (List TypeDesc) :=
  match P.underlying t with
  | some (.struct fs) => bif !P.stoodInHeld t && !P.eqGuardType P.depth t then flatU P 0 fs.toList else none
  | _ => none
def isNilC : Lf → Option Bool
  | .nilp => some true
  | .nils => some true
  | .op .. => some false
  | .ip .. => some false
  | .fn .. => some false
  | _ => none
def abin (P : Program) (op : BinOp) (t : TypeId) : Cm → Cm → Option (Lf × List Prop)
  | .one (.int k a), .one (.int k' b) =>
    (match op with
    | .shl => some (.int k (shlK k a b), [0 ≤ b])
    | .shr => some (.int k (shrK k a b), [0 ≤ b])
    | _ => if k = k' then abinI op k a b else none)
  | .one (.str a), .one (.str b) => abinS op a b
  | .one (.bool a), .one (.bool b) =>
    (match op, P.underlying t with
    | .eql, some .bool => some (.bool (eqB a b), [])
    | .neq, some .bool => some (.bool (!eqB a b), [])
    | _, _ => none)
  | .agg xs, .agg ys =>
    (match flatT P t with
    | some us =>
      (match op, eqLfs us xs ys with
      | .eql, some e => some (.bool e, [])
      | .neq, some e => some (.bool (!e), [])
      | _, _ => none)
    | none => none)
  | _, _ => none

/-- A leaf of zero cells, a nil slice taken for a slice without rows. -/
def wkOk : List Lf → List Lf → Bool
  | [], [] => true
  | x :: xs, y :: ys => (match x, y with
    | .int k a, .int k' b => decide (k = k') && a == b
    | .bool a, .bool b => a == b
    | .str a, .str b => a.size == 0 && b.size == 0
    | .nils, .sl false _ [] => true
    | _, _ => false) && wkOk xs ys
  | _, _ => false
/-! New objects, slices, addresses. -/
def boxOb (e : TypeId) (cells : List Lf) : Ob := ⟨true, cells.length, e, [cells]⟩
/-- Is a leaf made of what never turns? -/
def immL : Lf → Bool
  | .op .. => false
  | .os .. => false
  | .fn .. => false
  | _ => true
def fillL (place : Nat → Option (Nat × Nat)) (cells : List Lf) : List (Nat × List Lf) → Option (List Lf)
  | [] => some cells
  | (i, v) :: rest => match place i with
    | none => none
    | some (off, size) =>
      bif v.length == size && Nat.ble (off + size) cells.length then fillL place (cells.take off ++ v ++ cells.drop (off + size)) rest
      else none
def partsG (L : Nat → AV) (g : Prop) : List (Nat × Operand) → Option (List (Nat × List Lf) × List Prop)
  | [] => some ([], [])
  | (i, x) :: r => match getG g (aev L x), partsG L g r with
    | some (c, o), some (cs, os) => some ((i, c.cells) :: cs, o ++ os)
    | _, _ => none
def argsG (L : Nat → AV) (g : Prop) : List Operand → Option (List Cm × List Prop)
  | [] => some ([], [])
  | x :: r => match getG g (aev L x), argsG L g r with
    | some (c, o), some (cs, os) => some (c :: cs, o ++ os)
    | _, _ => none
def isFn : Lf → Bool
  | .fn .. => true
  | _ => false
def capsL : List Cm → Option (List Lf)
  | [] => some []
  | .one l :: r => match capsL r with
    | some ls => bif isFn l then none else some (l :: ls)
    | none => none
  | .agg _ :: _ => none
def placesOf (P : Program) (t : TypeId) : Option (Nat → Option (Nat × Nat)) :=
  match P.underlying t with
  | some (.array _ e) => (P.info? e).map fun ie i => some (i * ie.size, ie.size)
  | some (.struct fields) =>
    (fields.toList.mapM (fun f => (P.info? f.type).map fun i => (f.offset, i.size))).map fun ps i => ps[i]?
  | _ => none
def chunk (sz : Nat) : Nat → List Lf → List (List Lf)
  | 0, _ => []
  | n + 1, l => l.take sz :: chunk sz n (l.drop sz)
def sliceElem (P : Program) (t : TypeId) : Option TypeId :=
  match P.underlying t with
  | some (.slice e) => some e
  | _ => none
def fieldOf (P : Program) (t : TypeId) (f : Nat) : Option (Nat × Nat × Bool) :=
  match P.underlying t with
  | some (.struct fs) => match fs[f]? with
    | some fd => match tsz P fd.type, trow P fd.type with
      | some n, some r => bif n == 0 then none else some (fd.offset, n, r)
      | _, _ => none
    | none => none
  | _ => none
/-- A leaf as it stands for the time of a call that only reads. -/
def loan0 (h : Nat → Option Ob) : Lf → Option (Lf × List Prop)
  | .os id sz off len => match h id with
    | some ob => bif off == 0 && !ob.box && ob.sz == sz then some (.sl false sz ob.rows, [ob.rows.length = len]) else none
    | none => none
  | .op id sz row off => match h id with
    | some ob => bif ob.box && row == 0 then (match ob.rows with
      | [cells] => bif cells.all immL then some (.ip cells off, []) else none
      | _ => none) else none
    | none => none
  | .fn .. => none
  | l => some (l, [])
def loan0s (h : Nat → Option Ob) : List Lf → Option (List Lf × List Prop)
  | [] => some ([], [])
  | l :: r => match loan0 h l, loan0s h r with
    | some (x, o), some (xs, os) => some (x :: xs, o ++ os)
    | _, _ => none
def loanL (h : Nat → Option Ob) : Lf → Option (Lf × List Prop)
  | .fn f caps => (loan0s h caps).map fun (x, o) => (.fn f x, o)
  | l => loan0 h l
def loanLs (h : Nat → Option Ob) : List Lf → Option (List Lf × List Prop)
  | [] => some ([], [])
  | l :: r => match loanL h l, loanLs h r with
    | some (x, o), some (xs, os) => some (x :: xs, o ++ os)
    | _, _ => none
def loanC (h : Nat → Option Ob) : Cm → Option (Cm × List Prop)
  | .one l => (loanL h l).map fun (x, o) => (.one x, o)
  | .agg ls => (loanLs h ls).map fun (x, o) => (.agg x, o)
def loanCs (h : Nat → Option Ob) : List Cm → Option (List Cm × List Prop)
  | [] => some ([], [])
  | c :: r => match loanC h c, loanCs h r with
    | some (x, o), some (xs, os) => some (x :: xs, o ++ os)
    | _, _ => none
def plainL : Lf → Bool
  | .int .. => true
  | .bool _ => true
  | .str _ => true
  | _ => false
def plainC : Cm → Bool
  | .one l => plainL l
  | .agg ls => ls.all plainL
def plainAV : AV → Bool
  | .cm c => plainC c
  | .tup cs => cs.all plainC
  | _ => false
def immC : Cm → Bool
  | .one l => immL l
  | .agg ls => ls.all immL

end Go.Proofs.YtjhhlmmmkgnhmaaDoor
