/- Part MA of the proof: texts GA GB GC GD GP. -/
import Derived.WalkKit
import Derived.WalkSpells
import Derived.WalkLawsBesides
import Derived.StillTail
import Derived.Lib.Hide
import Derived.Deep.MidRow
import Derived.Deep.AppendSrc
import Derived.Great.BuildSlice
import Derived.KernelRfl
import Derived.Laws.BytesString
namespace Go.Proofs.YtpkkaboonnedfaaDoor
set_option linter.unusedSimpArgs false
set_option linter.unusedVariables false
set_option linter.unusedSectionVars false

inductive Lf where
 | any
 | int (k:IntKind) (n:Int)
 | bool (b:Bool)
 | str (s:ByteArray)
 | nilp
 | nils
 | ip (cells:List Lf) (off:Nat)
 | op (id sz row off:Nat)
 | sl (cl:Bool) (sz:Nat) (rows:List (List Lf))
 | os (id sz off len:Nat)
 | fn (f:Fn) (caps:List Lf)
 | mp (id:Nat)

inductive Cm where
 | one (l:Lf)
 | agg (ls:List Lf)

inductive AV where
 | cm (c:Cm)
 | tup (cs:List Cm)
 | gd (p:Prop) (c:Cm)
 | unk
 | boo

structure Ob where
 box:Bool
 sz:Nat
 ety:TypeId
 rows:List (List Lf)

inductive Hint where
 | bit (b:Bool)
 | spec
 | skip
 | cells (c:List Lf)
 | rows (r:List (List Lf))
 | num (n:Nat)
 | byte (b:UInt8)
 | ints (l:List Int)
 | draw (n:Nat) (cl:List (Nat×Nat))
 | call (ids:List Nat) (r:AV) (out:List (Option Ob))
 | wait (n:Nat)
 | frz (id:Nat)
 | frzB (id:Nat)
 | relen (id n:Nat)
 | nilS (t k sz:Nat)
 | nilB (id k sz:Nat)
 | adopt (t:Nat) (sz:Nat) (e:TypeId)
 | adoptB (id cell:Nat) (sz:Nat) (e:TypeId)

def addK (k:IntKind) (a b:Int):Int:=k.wrap (a+b)
def subK (k:IntKind) (a b:Int):Int:=k.wrap (a-b)
def mulK (k:IntKind) (a b:Int):Int:=k.wrap (a*b)
def quoK (k:IntKind) (a b:Int):Int:=k.wrap (a.tdiv b)
def remK (a b:Int):Int:=a.tmod b
def andK (k:IntKind) (a b:Int):Int:=k.wrap (BitVec.ofInt k.bits a &&& BitVec.ofInt k.bits b).toNat
def orK (k:IntKind) (a b:Int):Int:=k.wrap (BitVec.ofInt k.bits a ||| BitVec.ofInt k.bits b).toNat
def xorK (k:IntKind) (a b:Int):Int:=k.wrap (BitVec.ofInt k.bits a ^^^ BitVec.ofInt k.bits b).toNat
def Qj6 (k:IntKind) (a b:Int):Int:=k.wrap (BitVec.ofInt k.bits a &&& ~~~BitVec.ofInt k.bits b).toNat
def shlK (k:IntKind) (a b:Int):Int:=k.wrap (a*2 ^ min b.toNat k.bits)
def shrK (k:IntKind) (a b:Int):Int:=a.fdiv (2 ^ min b.toNat k.bits)
def cvK (k:IntKind) (a:Int):Int:=k.wrap a
def ltI (a b:Int):Bool:=decide (a<b)
def leI (a b:Int):Bool:=decide (a≤b)
def gtI (a b:Int):Bool:=decide (a>b)
def geI (a b:Int):Bool:=decide (a≥b)
def eqI (a b:Int):Bool:=a == b
def neI (a b:Int):Bool:=a != b
def maxI (a b:Int):Int:=if b>a then b else a
def minI (a b:Int):Int:=if b<a then b else a
def eqB (a b:Bool):Bool:=a == b
def eqS (a b:ByteArray):Bool:=a.toList == b.toList
def ltS (a b:ByteArray):Bool:=Op.bytesLess a.toList b.toList
def catS (a b:ByteArray):ByteArray:=a++b
def getI {α:Type} (l:List α) (i:Int):Option α:=if 0≤i then l[i.toNat]? else none
def lenI {α:Type} (l:List α):Int:=l.length
def sizeS (s:ByteArray):Int:=s.size
def getS (s:ByteArray) (i:Int):Option UInt8:=if 0≤i then s[i.toNat]? else none
def byteI (b:UInt8):Int:=b.toNat
def runeS (n:Int):ByteArray:=Utf8.encode n
def Qge (l:List Int):ByteArray:=⟨(l.map fun n=>UInt8.ofNat n.toNat).toArray⟩

def allP:List Prop→Prop
 | []=>True
 | p :: r=>p∧allP r

def Qgs:Value→Option Lf
 | .int k n=>some (.int k n)
 | .bool b=>some (.bool b)
 | .string s=>some (.str s)
 | .pointer none=>some .nilp
 | .slice none 0 0=>some .nils
 | .nilFunc=>some .any
 | .func f first caps=>bif first.size == 0&&caps.size == 0 then some (.fn f []) else none
 | _=>none
def Qfj:List Value→Option (List Lf)
 | []=>some []
 | v :: r=>match Qgs v,Qfj r with
  | some l,some ls=>some (l :: ls)
  | _,_=>none
def QiC:Value→Option Cm
 | .agg cs=>(Qfj cs.toList).map .agg
 | v=>(Qgs v).map .one
def look:List (Nat×AV)→Nat→AV
 | [],_=>.unk
 | (k,v) :: r,t=>bif k == t then v else look r t
def aev (L:Nat→AV):Operand→AV
 | .tmp t=>L t
 | .const v=>match QiC v with
  | some c=>.cm c
  | none=>.unk
 | .func f=>.cm (.one (.fn (.func f) []))
 | .global _=>.unk
def getG (g:Prop):AV→Option (Cm×List Prop)
 | .cm c=>some (c,[])
 | .gd p c=>some (c,[g→p])
 | _=>none
def Cm.cells:Cm→List Lf
 | .one l=>[l]
 | .agg ls=>ls

structure Res where
 v:AV
 news:List Ob
 obs:List Prop
 hs:List Hint

def tsz (P:Program) (t:TypeId):Option Nat:=(P.info? t).map (·.size)
def trow (P:Program) (t:TypeId):Option Bool:=(P.underlying t).map TypeDesc.isRow
def partL (row:Bool) (n off:Nat) (cells:List Lf):Option Cm :=
 bif row then (bif ((cells.drop off).take n).length == n then some (.agg ((cells.drop off).take n)) else none)
 else (cells[off]?).map .one
def zeroL (P:Program) (t:TypeId):Option (List Lf) :=
 match P.info? t with
 | some i=>match i.zero with
  | some z=>bif z.cells.size == i.size&&!(i.size == 0) then Qfj z.cells.toList else none
  | none=>none
 | none=>none

def abinI (op:BinOp) (k:IntKind) (a b:Int):Option (Lf×List Prop) :=
 match op with
 | .add=>some (.int k (addK k a b),[])
 | .sub=>some (.int k (subK k a b),[])
 | .mul=>some (.int k (mulK k a b),[])
 | .quo=>some (.int k (quoK k a b),[b≠0])
 | .rem=>some (.int k (remK a b),[b≠0])
 | .and=>some (.int k (andK k a b),[])
 | .or=>some (.int k (orK k a b),[])
 | .xor=>some (.int k (xorK k a b),[])
 | .andNot=>some (.int k (Qj6 k a b),[])
 | .eql=>some (.bool (eqI a b),[])
 | .neq=>some (.bool (neI a b),[])
 | .lss=>some (.bool (ltI a b),[])
 | .leq=>some (.bool (leI a b),[])
 | .gtr=>some (.bool (gtI a b),[])
 | .geq=>some (.bool (geI a b),[])
 | _=>none
def abinS (op:BinOp) (a b:ByteArray):Option (Lf×List Prop) :=
 match op with
 | .add=>some (.str (catS a b),[a.size+b.size≤9223372036854775807])
 | .eql=>some (.bool (eqS a b),[])
 | .neq=>some (.bool (!eqS a b),[])
 | .lss=>some (.bool (ltS a b),[])
 | _=>none
def eqLf:TypeDesc→Lf→Lf→Option Bool
 | .int _,.int k a,.int k' b=>bif decide (k=k') then some (eqI a b) else none
 | .bool,.bool a,.bool b=>some (eqB a b)
 | .string,.str a,.str b=>some (a == b)
 | _,_,_=>none
def eqLfs:List TypeDesc→List Lf→List Lf→Option Bool
 | [],[],[]=>some true
 | u :: us,x :: xs,y :: ys=>match eqLf u x y,eqLfs us xs ys with
  | some a,some b=>some (a&&b)
  | _,_=>none
 | _,_,_=>none
def flatU (P:Program):Nat→List Field→Option (List TypeDesc)
 | _,[]=>some []
 | k,f :: fs=>bif f.offset == k&&!(f.name == "_")&&(trow P f.type == some false) then
   match P.underlying f.type,flatU P (k+1) fs with
   | some u,some us=>some (u :: us)
   | _,_=>none
  else none
def flatT (P:Program) (t:TypeId):Option (List TypeDesc) :=
 match P.underlying t with
 | some (.struct fs)=>bif !P.stoodInHeld t&&!P.eqGuardType P.depth t then flatU P 0 fs.toList else none
 | _=>none
def flatA (P:Program) (t:TypeId):Option (List TypeDesc) :=
 match P.underlying t with
 | some (.array n e)=>bif !P.eqGuardType P.depth t&&(trow P e == some false)&&(tsz P e == some 1) then (P.underlying e).map (List.replicate n) else none
 | _=>none
def abin (P:Program) (op:BinOp) (t:TypeId):Cm→Cm→Option (Lf×List Prop)
 | .one (.int k a),.one (.int k' b) =>
  (match op with
  | .shl=>some (.int k (shlK k a b),[0≤b])
  | .shr=>some (.int k (shrK k a b),[0≤b])
  | _=>if k=k' then abinI op k a b else none)
 | .one (.str a),.one (.str b)=>abinS op a b
 | .one (.bool a),.one (.bool b) =>
  (match op,P.underlying t with
  | .eql,some .bool=>some (.bool (eqB a b),[])
  | .neq,some .bool=>some (.bool (!eqB a b),[])
  | _,_=>none)
 | .agg xs,.agg ys =>
  (match flatT P t with
  | some us =>
   (match op,eqLfs us xs ys with
   | .eql,some e=>some (.bool e,[])
   | .neq,some e=>some (.bool (!e),[])
   | _,_=>none)
  | none=>(match flatA P t with
   | some us =>
    (match op,eqLfs us xs ys with
    | .eql,some e=>some (.bool e,[])
    | .neq,some e=>some (.bool (!e),[])
    | _,_=>none)
   | none=>none))
 | _,_=>none

def wkOk:List Lf→List Lf→Bool
 | [],[]=>true
 | x :: xs,y :: ys=>(match x,y with
  | .int k a,.int k' b=>decide (k=k')&&a == b
  | .bool a,.bool b=>a == b
  | .str a,.str b=>a.size == 0&&b.size == 0
  | .nils,.sl false _ []=>true
  | _,_=>false)&&wkOk xs ys
 | _,_=>false
def boxOb (e:TypeId) (cells:List Lf):Ob:=⟨true,cells.length,e,[cells]⟩
def immL:Lf→Bool
 | .op ..=>false
 | .os ..=>false
 | .fn _ (_ :: _)=>false
 | .mp _=>false
 | _=>true
def fillL (place:Nat→Option (Nat×Nat)) (cells:List Lf):List (Nat×List Lf)→Option (List Lf)
 | []=>some cells
 | (i,v) :: rest=>match place i with
  | none=>none
  | some (off,size) =>
   bif v.length == size&&Nat.ble (off+size) cells.length then fillL place (cells.take off++v++cells.drop (off+size)) rest
   else none
def Qi8 (L:Nat→AV) (g:Prop):List (Nat×Operand)→Option (List (Nat×List Lf)×List Prop)
 | []=>some ([],[])
 | (i,x) :: r=>match getG g (aev L x),Qi8 L g r with
  | some (c,o),some (cs,os)=>some ((i,c.cells) :: cs,o++os)
  | _,_=>none
def argsG (L:Nat→AV) (g:Prop):List Operand→Option (List Cm×List Prop)
 | []=>some ([],[])
 | x :: r=>match getG g (aev L x),argsG L g r with
  | some (c,o),some (cs,os)=>some (c :: cs,o++os)
  | _,_=>none
def isFn:Lf→Bool
 | .fn ..=>true
 | _=>false
def capsL:List Cm→Option (List Lf)
 | []=>some []
 | .one l :: r=>match capsL r with
  | some ls=>bif isFn l then none else some (l :: ls)
  | none=>none
 | .agg _ :: _=>none
def Qjc (P:Program) (t:TypeId):Option (Nat→Option (Nat×Nat)) :=
 match P.underlying t with
 | some (.array _ e)=>(P.info? e).map fun ie i=>some (i*ie.size,ie.size)
 | some (.struct fields) =>
  (fields.toList.mapM (fun f=>(P.info? f.type).map fun i=>(f.offset,i.size))).map fun ps i=>ps[i]?
 | _=>none
def chunk (sz:Nat):Nat→List Lf→List (List Lf)
 | 0,_=>[]
 | n+1,l=>l.take sz :: chunk sz n (l.drop sz)
def Qcd (P:Program) (t:TypeId):Option TypeId :=
 match P.underlying t with
 | some (.slice e)=>some e
 | _=>none
def Qhz (P:Program) (t:TypeId) (f:Nat):Option (Nat×Nat×Bool) :=
 match P.underlying t with
 | some (.struct fs)=>match fs[f]? with
  | some fd=>match tsz P fd.type,trow P fd.type with
   | some n,some r=>bif n == 0 then none else some (fd.offset,n,r)
   | _,_=>none
  | none=>none
 | _=>none
def QkO (h:Nat→Option Ob):Lf→Option (Lf×List Prop)
 | .os id sz off len=>match h id with
  | some ob=>bif off == 0&&!ob.box&&ob.sz == sz then some (.sl false sz ob.rows,[ob.rows.length=len]) else none
  | none=>none
 | .op ..=>none
 | .fn ..=>none
 | .mp _=>none
 | l=>some (l,[])
def Qgq (h:Nat→Option Ob):List Lf→Option (List Lf×List Prop)
 | []=>some ([],[])
 | l :: r=>match QkO h l,Qgq h r with
  | some (x,o),some (xs,os)=>some (x :: xs,o++os)
  | _,_=>none
def QiX (h:Nat→Option Ob) (rows:List (List Lf)) (sz len:Nat):Option (Lf×List Prop) :=
 match rows with
 | [cells]=>(Qgq h cells).map fun p=>(.sl false sz [p.1],(1=len) :: p.2)
 | _=>none
def loan0 (h:Nat→Option Ob):Lf→Option (Lf×List Prop)
 | .os id sz off len=>match h id with
  | some ob=>bif off == 0&&!ob.box&&ob.sz == sz then some (.sl false sz ob.rows,[ob.rows.length=len]) else
   bif off == 0&&ob.box&&ob.sz == sz then QiX h ob.rows sz len else none
  | none=>none
 | .op id sz row off=>match h id with
  | some ob=>bif ob.box&&row == 0 then (match ob.rows with
   | [cells]=>bif cells.all immL then some (.ip cells off,[]) else none
   | _=>none) else none
  | none=>none
 | .fn ..=>none
 | .mp _=>none
 | l=>some (l,[])
def QiW (h:Nat→Option Ob):List Lf→Option (List Lf×List Prop)
 | []=>some ([],[])
 | l :: r=>match loan0 h l,QiW h r with
  | some (x,o),some (xs,os)=>some (x :: xs,o++os)
  | _,_=>none
def loanL (h:Nat→Option Ob):Lf→Option (Lf×List Prop)
 | .fn f caps=>(QiW h caps).map fun (x,o)=>(.fn f x,o)
 | l=>loan0 h l
def QiZ (h:Nat→Option Ob):List Lf→Option (List Lf×List Prop)
 | []=>some ([],[])
 | l :: r=>match loanL h l,QiZ h r with
  | some (x,o),some (xs,os)=>some (x :: xs,o++os)
  | _,_=>none
def loanC (h:Nat→Option Ob):Cm→Option (Cm×List Prop)
 | .one l=>(loanL h l).map fun (x,o)=>(.one x,o)
 | .agg ls=>(QiZ h ls).map fun (x,o)=>(.agg x,o)
def QjQ (h:Nat→Option Ob):List Cm→Option (List Cm×List Prop)
 | []=>some ([],[])
 | c :: r=>match loanC h c,QjQ h r with
  | some (x,o),some (xs,os)=>some (x :: xs,o++os)
  | _,_=>none
def QkV:Lf→Bool
 | .int ..=>true
 | .bool _=>true
 | .str _=>true
 | .any=>true
 | _=>false
def QkU:Cm→Bool
 | .one l=>QkV l
 | .agg ls=>ls.all QkV
def Qjd:AV→Bool
 | .cm c=>QkU c
 | .tup cs=>cs.all QkU
 | _=>false
end Go.Proofs.YtpkkaboonnedfaaDoor
namespace Go.Proofs.YtpkkaboonnedfaaDoor
set_option linter.unusedSimpArgs false
set_option linter.unusedVariables false
set_option linter.unusedSectionVars false

def one (l:Lf):AV:=.cm (.one l)
def Qc0 (h:Nat→Option Ob):Lf→Option (Nat×List (List Lf)×List Prop)
 | .nils=>some (0,[],[])
 | .sl _ sz rows=>some (sz,rows,[])
 | .os id sz off len=>match h id with
  | some ob=>bif off == 0&&!ob.box&&ob.sz == sz then some (sz,ob.rows,[ob.rows.length=len]) else none
  | none=>none
 | _=>none
def QkA (P:Program) (h:Nat→Option Ob) (base:Nat) (d x:Lf) (t t':TypeId) (hs:List Hint):Option Res :=
 (match Qcd P t with
 | some e=>match P.info? e,Qc0 h x,zeroL P e with
  | some i,some (sz,new,o),some z =>
   bif t == t'&&(sz == i.size||new.isEmpty) then
    (match d,hs with
    | .nils,.rows R :: hs'=>some ⟨one (.os base i.size 0 R.length),[⟨false,i.size,e,R⟩],o++[new=R,R.length*i.bytes≤140737488355328,R.length≤9223372036854775807],hs'⟩
    | .sl true sz' rows,.rows R :: hs' =>
     bif sz' == i.size||rows.isEmpty then
      some ⟨one (.os base i.size 0 R.length),[⟨false,i.size,e,R⟩],o++[rows++new=R,new=[]→rows=[]]++[R.length*i.bytes≤140737488355328,R.length≤9223372036854775807],hs'⟩
     else none
    | _,_=>none)
   else none
  | _,_,_=>none
 | none=>none)
def Qde (P:Program) (h:Nat→Option Ob) (base:Nat) (b:Builtin) (args:List Cm) (tys:List TypeId) (hs:List Hint):Option Res :=
 match b,args,tys with
 | .len,[.one l],[t] =>
  (match l,P.underlying t with
  | .str s,some .string=>some ⟨one (.int .i64 (sizeS s)),[],[],hs⟩
  | .nils,some (.slice _)=>some ⟨one (.int .i64 0),[],[],hs⟩
  | .os _ _ _ len,some (.slice _) =>
   (match hs with
   | .num n :: hs'=>some ⟨one (.int .i64 n),[],[len=n],hs'⟩
   | _=>none)
  | .sl _ _ rows,some (.slice _) =>
   (match hs with
   | .num n :: hs'=>some ⟨one (.int .i64 n),[],[rows.length=n],hs'⟩
   | _=>none)
  | _,_=>none)
 | .cap,[.one .nils],[t] =>
  (match P.underlying t with
  | some (.slice _)=>some ⟨one (.int .i64 0),[],[],hs⟩
  | _=>none)
 | .max,[.one (.int k a),.one (.int _ b)],_=>some ⟨one (.int k (maxI a b)),[],[],hs⟩
 | .min,[.one (.int k a),.one (.int _ b)],_=>some ⟨one (.int k (minI a b)),[],[],hs⟩
 | .append,[.one .nils,.one (.int k n)],[t,t'] =>
  (match Qcd P t,P.underlying t',hs with
  | some e,some (.int _),.cells z' :: .rows R :: hs' =>
   (match P.info? e,zeroL P e with
   | some ie,some z=>bif wkOk z z'&&decide (k=.i64) then some ⟨one (.os base ie.size 0 R.length),[⟨false,ie.size,e,R⟩],
     [0≤n,n≤9223372036854775807,ie.bytes*n≤140737488355328,List.replicate n.toNat z'=R],hs'⟩ else none
   | _,_=>none)
  | _,_,_=>none)
 | .append,[.one d,.one x],[t,t']=>QkA P h base d x t t' hs
 | _,_,_=>none
def bndC (c:Option Cm):Option (Option Int):=match c with
 | none=>some none
 | some (.one (.int _ n))=>some (some n)
 | _=>none
def Qhg (P:Program) (h:Nat→Option Ob) (t:TypeId) (x:Cm) (lo hi mx:Option Cm) (hs:List Hint):Option Res :=
 match x,bndC lo,bndC hi,bndC mx with
 | .one (.str s),some lo,some hi,some none =>
  (match P.underlying t with
  | some .string =>
   some ⟨one (.str (s.extract (lo.getD 0).toNat (hi.getD s.size).toNat)),[],[0≤lo.getD 0,lo.getD 0≤hi.getD s.size,hi.getD s.size≤s.size],hs⟩
  | _=>none)
 | .one .nils,some lo,some hi,some none =>
  (match Qcd P t with
  | some e=>bif (tsz P e).isSome then some ⟨one .nils,[],[0≤lo.getD 0,lo.getD 0≤hi.getD 0,hi.getD 0≤0],hs⟩ else none
  | none=>none)
 | .one (.sl cl sz rows),some lo,some hi,some mx =>
  (match Qcd P t,hs with
  | some e,.rows R :: hs' =>
   bif tsz P e == some sz||rows.isEmpty&&(tsz P e).isSome then
    some ⟨one (.sl (mx.isSome||cl&&hi.isNone) sz R),[],
     (match mx,hi with
     | some m,some n=>[m=n]
     | some _,none=>[False]
     | _,_=>[])++[0≤lo.getD 0,lo.getD 0≤hi.getD rows.length,hi.getD rows.length≤rows.length,hi.getD rows.length≤mx.getD (hi.getD rows.length),mx.getD (hi.getD rows.length)≤rows.length,
      (rows.drop (lo.getD 0).toNat).take ((hi.getD rows.length).toNat-(lo.getD 0).toNat)=R],hs'⟩
   else none
  | _,_=>none)
 | _,_,_,_=>none
def optG (L:Nat→AV) (g:Prop):Option Operand→Option (Option Cm×List Prop)
 | none=>some (none,[])
 | some x=>(getG g (aev L x)).map fun (c,o)=>(some c,o)

def kEq:Lf→Lf→Option Bool
 | .int k a,.int k' b=>if k=k' then some (a == b) else none
 | .str a,.str b=>some (a == b)
 | _,_=>none
def kEqs:List Lf→List Lf→Option Bool
 | [],[]=>some true
 | k :: ks,k' :: ks'=>match kEq k k',kEqs ks ks' with
  | some a,some b=>some (a&&b)
  | _,_=>none
 | _,_=>none
def mpGet:List (List Lf)→List Lf→Lf→Option Lf
 | [],_,z=>some z
 | (v :: k') :: r,k,z=>match kEqs k k' with
  | some true=>some v
  | some false=>mpGet r k z
  | none=>none
 | [] :: _,_,_=>none
def mpPut:List (List Lf)→List Lf→Lf→Option (List (List Lf))
 | [],k,v=>some [v :: k]
 | (v' :: k') :: r,k,v=>match kEqs k k' with
  | some true=>some ((v :: k) :: r)
  | some false=>(mpPut r k v).map ((v' :: k') :: ·)
  | none=>none
 | [] :: _,_,_=>none
def Qgr:List (List Lf)→Option (List (List Lf))
 | [] :: [] :: r=>some r
 | _=>none
def QgV (P:Program) (kt:TypeId):Lf→Bool
 | .int k _=>(match P.underlying kt with
  | some (.int k')=>decide (k=k')
  | _=>false)
 | .str _=>(match P.underlying kt with
  | some .string=>true
  | _=>false)
 | _=>false
def QaL:List TypeDesc→List Lf→Bool
 | [],[]=>true
 | .int k :: us,.int k' _ :: ls=>decide (k=k')&&QaL us ls
 | .string :: us,.str _ :: ls=>QaL us ls
 | _,_=>false
def Qib (P:Program) (kt:TypeId):Cm→Bool
 | .one k=>QgV P kt k
 | .agg ks=>Nat.ble 2 ks.length&&(match flatT P kt with
  | some us=>QaL us ks
  | none=>false)
def zeroV (P:Program) (t:TypeId):Option Lf :=
 match P.info? t with
 | some i=>(match i.zero with
  | some z=>Qgs z
  | none=>none)
 | none=>none
def QjH (P:Program) (h:Nat→Option Ob) (base:Nat) (g:Prop) (L:Nat→AV) (op:Op) (hs:List Hint):Option Res :=
 match op with
 | .makeMap t none=>(match P.underlying t with
  | some (.map _ _)=>some ⟨one (.mp base),[⟨true,1,t,[[],[]]⟩],[],hs⟩
  | _=>none)
 | .lookup t x i false =>
  (match P.underlying t,getG g (aev L x),getG g (aev L i),hs with
  | some (.map kt vt),some (.one (.mp id),o),some (k,o'),.cells [v] :: hs' =>
   (match h id,zeroV P vt with
   | some ob,some z =>
    (match Qgr ob.rows with
    | some rs=>bif ob.box&&Qib P kt k then some ⟨one v,[],o++o'++[mpGet rs k.cells z=some v],hs'⟩ else none
    | none=>none)
   | _,_=>none)
  | _,_,_,_=>none)
 | _=>none
def QkB (P:Program) (L:Nat→AV) (g:Prop) (op:BinOp) (t:TypeId) (x y:Operand) (hs:List Hint):Option Res :=
 match getG g (aev L x),getG g (aev L y) with
 | some (a,o),some (b,o')=>(abin P op t a b).map fun (l,o2)=>⟨one l,[],o++o'++o2,hs⟩
 | _,_=>none
def QkC (P:Program) (h:Nat→Option Ob) (L:Nat→AV) (g:Prop) (op:BinOp) (t:TypeId) (x y:Operand) (hs:List Hint):Option Res :=
 match op,getG g (aev L x),getG g (aev L y),P.underlying t with
 | .eql,some (.one l,o),some (.one .nils,o'),some (.slice _) =>
  (match Qc0 h l,hs with
  | some _,.skip :: hs'=>some ⟨.boo,[],o++o',hs'⟩
  | some (_,rows,o2),.bit false :: hs'=>some ⟨one (.bool false),[],o++o'++o2++[rows≠[]],hs'⟩
  | _,_=>none)
 | _,_,_,_=>none
def fop (P:Program) (h:Nat→Option Ob) (base:Nat) (g:Prop) (L:Nat→AV) (op:Op) (hs:List Hint):Option Res :=
 match op with
 | .move x|.assign x =>
  (match aev L x with
  | .cm c=>some ⟨.cm c,[],[],hs⟩
  | .tup cs=>some ⟨.tup cs,[],[],hs⟩
  | .gd p c=>some ⟨.cm c,[],[g→p],hs⟩
  | .unk=>none
  | .boo=>some ⟨.boo,[],[],hs⟩)
 | .pick c a b =>
  (match getG g (aev L c),hs with
  | some (.one (.bool bc),o),.spec :: hs' =>
   (match getG (g∧bc=true) (aev L a),getG (g∧bc=false) (aev L b) with
   | some (.one (.bool x),oa),some (.one (.bool y),ob)=>some ⟨one (.bool (cond bc x y)),[],o++oa++ob,hs'⟩
   | _,_=>none)
  | some (.one (.bool bc),o),.bit t :: hs' =>
   (getG g (aev L (cond t a b))).map fun (x,o')=>⟨.cm x,[],o++[bc=t]++o',hs'⟩
  | _,_=>none)
 | .alloc e=>(zeroL P e).map fun cells=>⟨one (.op base cells.length 0 0),[boxOb e cells],[],hs⟩
 | .box e x =>
  (match getG g (aev L x) with
  | some (c,o)=>bif c.cells.isEmpty then none else some ⟨one (.op base c.cells.length 0 0),[boxOb e c.cells],o,hs⟩
  | none=>none)
 | .build t parts =>
  (match zeroL P t,Qjc P t,Qi8 L g parts.toList with
  | some z,some pl,some (cs,o)=>(fillL pl z cs).map fun cells=>⟨.cm (.agg cells),[],o,hs⟩
  | _,_,_=>none)
 | .buildSlice t n parts =>
  (match Qcd P t with
  | some e=>match P.info? e,zeroL P e,Qi8 L g parts.toList with
   | some ie,some z,some (cs,o) =>
    bif n == 0&&cs.isEmpty then some ⟨one (.sl true ie.size []),[],o,hs⟩ else
    bif Nat.ble (n*ie.size) 4096&&!(n == 0) then
     match fillL (fun i=>some (i*ie.size,ie.size)) (List.replicate n z).flatten cs with
     | some cells=>bif cells.all immL then some ⟨one (.os base ie.size 0 n),[⟨false,ie.size,e,chunk ie.size n cells⟩],o,hs⟩ else
       (match n,hs with
       | 1,.num 1 :: hs'=>some ⟨one (.os base ie.size 0 1),[boxOb e cells],o,hs'⟩
       | _,_=>none)
     | none=>none
    else none
   | _,_,_=>none
  | none=>none)
 | .load t a =>
  (match getG g (aev L a),tsz P t,trow P t with
  | some (.one (.ip cells off),o),some n,some r=>(partL r n off cells).map fun c=>⟨.cm c,[],o,hs⟩
  | some (.one (.op id sz row off),o),some n,some r =>
   (match h id with
   | some ob=>bif ob.sz == sz then
     (match ob.box,ob.rows,hs with
     | true,[cells],_=>bif row == 0 then (partL r n off cells).map fun c=>⟨.cm c,[],o,hs⟩ else none
     | false,rows,.cells c :: hs'=>(partL r n off c).map fun v=>⟨.cm v,[],o++[rows[row]?=some c],hs'⟩
     | _,_,_=>none) else none
   | none=>none)
  | _,_,_=>none)
 | .nilCheck x =>
  (match getG g (aev L x) with
  | some (.one (.ip c off),o)=>some ⟨one (.ip c off),[],o,hs⟩
  | some (.one (.op id sz row off),o)=>some ⟨one (.op id sz row off),[],o,hs⟩
  | _=>none)
 | .binOp op t x y _ =>
  (match QkB P L g op t x y hs with
  | some r=>some r
  | none=>QkC P h L g op t x y hs)
 | .unOp u _ x =>
  (match u,getG g (aev L x) with
  | .neg,some (.one (.int k n),o)=>some ⟨one (.int k (subK k 0 n)),[],o,hs⟩
  | .not,some (.one (.bool b),o)=>some ⟨one (.bool (!b)),[],o,hs⟩
  | _,_=>none)
 | .convert s d x =>
  (match P.underlying s,P.underlying d,getG g (aev L x),hs with
  | some _,some (.int k),some (.one (.int _ n),o),_=>some ⟨one (.int k (cvK k n)),[],o,hs⟩
  | some _,some .string,some (.one (.int _ n),o),_=>some ⟨one (.str (runeS n)),[],o,hs⟩
  | some _,some .string,some (.one (.str s),o),_=>some ⟨one (.str s),[],o,hs⟩
  | some (.slice e),some .string,some (.one l,o),.ints J :: hs' =>
   (match P.underlying e,Qc0 h l with
   | some (.int .u8),some (sz,rows,o')=>bif sz == 1||rows.isEmpty then some ⟨one (.str (Qge J)),[],o++o'++[rows=J.map fun n=>[.int .u8 n]],hs'⟩ else none
   | _,_=>none)
  | _,_,_,_=>none)
 | .makeFunc f first caps =>
  (match argsG L g caps.toList with
  | some (cs,o)=>bif first.toList.isEmpty then
    (match capsL cs with
    | some ls=>some ⟨one (.fn f ls),[],o,hs⟩
    | none=>none) else none
  | none=>none)
 | .makeSlice t l c =>
  (match Qcd P t,getG g (aev L l),getG g (aev L c),hs with
  | some e,some (.one (.int _ n),o),some (.one (.int _ m),o'),.cells z' :: .rows R :: hs' =>
   match P.info? e,zeroL P e with
   | some ie,some z=>bif wkOk z z' then some ⟨one (.os base ie.size 0 R.length),[⟨false,ie.size,e,R⟩],
     o++o'++[0≤n,n≤m,m≤9223372036854775807,ie.bytes*m≤140737488355328,List.replicate n.toNat z'=R],hs'⟩ else none
   | _,_=>none
  | _,_,_,_=>none)
 | .slice t x lo hi mx =>
  (match getG g (aev L x),optG L g lo,optG L g hi,optG L g mx with
  | some (c,o),some (lo,o1),some (hi,o2),some (mx,o3)=>(Qhg P h t c lo hi mx hs).map fun r=>{ r with obs:=o++o1++o2++o3++r.obs }
  | _,_,_,_=>none)
 | .fieldAddr s x f =>
  (match Qhz P s f,getG g (aev L x) with
  | some (fo,_,_),some (.one (.ip cells off),o)=>some ⟨one (.ip cells (off+fo)),[],o,hs⟩
  | some (fo,_,_),some (.one (.op id sz row off),o)=>some ⟨one (.op id sz row (off+fo)),[],o,hs⟩
  | _,_=>none)
 | .field s x f =>
  (match Qhz P s f,getG g (aev L x) with
  | some (fo,n,r),some (.agg cells,o)=>(partL r n fo cells).map fun c=>⟨.cm c,[],o,hs⟩
  | _,_=>none)
 | .indexAddr t x i =>
  (match P.underlying t,getG g (aev L x),getG g (aev L i) with
  | some (.slice e),some (.one (.sl _ sz rows),o),some (.one (.int _ n),o') =>
   (match hs with
   | .cells c :: hs'=>bif tsz P e == some sz then some ⟨one (.ip c 0),[],o++o'++[getI rows n=some c],hs'⟩ else none
   | _=>none)
  | some (.slice e),some (.one (.os id sz off len),o),some (.one (.int _ n),o') =>
   bif tsz P e == some sz then some ⟨one (.op id sz (off+n.toNat) 0),[],o++o'++[0≤n,n<len],hs⟩ else none
  | some (.array len e),some (.one (.ip cells off),o),some (.one (.int _ n),o') =>
   (match tsz P e with
   | some sz=>bif !(len == 0) then some ⟨one (.ip cells (off+n.toNat*sz)),[],o++o'++[0≤n,n<len],hs⟩ else none
   | none=>none)
  | some (.array len e),some (.one (.op id sz row off),o),some (.one (.int _ n),o') =>
   (match tsz P e with
   | some esz=>bif !(len == 0) then some ⟨one (.op id sz row (off+n.toNat*esz)),[],o++o'++[0≤n,n<len],hs⟩ else none
   | none=>none)
  | _,_,_=>none)
 | .index t x i =>
  (match P.underlying t,getG g (aev L x),getG g (aev L i) with
  | some .string,some (.one (.str s),o),some (.one (.int _ n),o') =>
   (match hs with
   | .byte b :: hs'=>some ⟨one (.int .u8 (byteI b)),[],o++o'++[getS s n=some b],hs'⟩
   | _=>none)
  | some (.array len e),some (.agg cells,o),some (.one (.int _ n),o') =>
   (match tsz P e,trow P e with
   | some sz,some r=>(partL r sz (n.toNat*sz) cells).map fun c=>⟨.cm c,[],o++o'++[0≤n,n<len],hs⟩
   | _,_=>none)
  | _,_,_=>none)
 | .extract x i =>
  (match aev L x with
  | .tup cs=>(cs[i]?).map fun c=>⟨.cm c,[],[],hs⟩
  | _=>none)
 | .call c =>
  (match c.callee with
  | .builtin b =>
   (match argsG L g c.args.toList with
   | some (args,o)=>(Qde P h base b args c.argTypes.toList hs).map fun r=>{ r with obs:=o++r.obs }
   | none=>none)
  | _=>none)
 | _=>QjH P h base g L op hs
end Go.Proofs.YtpkkaboonnedfaaDoor
namespace Go.Proofs.YtpkkaboonnedfaaDoor
set_option linter.unusedSimpArgs false
set_option linter.unusedVariables false
set_option linter.unusedSectionVars false
open Go.RowKit

inductive IR (w:World) (M:Nat→Prop):Lf→Value→Prop
 | any (v:Value):v.oneCell'=true→IR w M .any v
 | int (k:IntKind) (n:Int):IR w M (.int k n) (.int k n)
 | bool (b:Bool):IR w M (.bool b) (.bool b)
 | str (s:ByteArray):IR w M (.str s) (.string s)
 | nilp:IR w M .nilp (.pointer none)
 | nils:IR w M .nils (.slice none 0 0)
 | fn (f:Fn):IR w M (.fn f []) (.func f #[] #[])
 | ip (cells:List Lf) (off b o:Nat) (vs:Nat→Value):M b→(∀ (i:Nat) (l:Lf),cells[i]?=some l→w.cell? ⟨b,o+i,none⟩=some (vs i)) →
   (∀ (i:Nat) (l:Lf),cells[i]?=some l→IR w M l (vs i))→IR w M (.ip cells off) (.pointer (some ⟨b,o+off,none⟩))
 | sl0 (cl:Bool) (sz:Nat) (a:Option Addr) (cap:Nat):(cl=true→cap=0)→IR w M (.sl cl sz []) (.slice a 0 cap)
 | sl (cl:Bool) (sz:Nat) (rows:List (List Lf)) (b o cap:Nat) (vs:Nat→Nat→Value):M b→rows.length≤cap→(cl=true→cap=rows.length) →
   (∀ (i:Nat) (c:List Lf),rows[i]?=some c→c.length=sz) →
   (∀ (i:Nat) (c:List Lf) (j:Nat) (l:Lf),rows[i]?=some c→c[j]?=some l→w.cell? ⟨b,o+i*sz+j,none⟩=some (vs i j)) →
   (∀ (i:Nat) (c:List Lf) (j:Nat) (l:Lf),rows[i]?=some c→c[j]?=some l→IR w M l (vs i j))→IR w M (.sl cl sz rows) (.slice (some ⟨b,o,none⟩) rows.length cap)

abbrev Pl:=Nat→Option (Option (Nat×Nat))

def LR0 (w:World) (M:Nat→Prop) (φ:Pl):Lf→Value→Prop
 | .op id sz row off,v=>∃ b C,φ id=some (some (b,C))∧v=.pointer (some ⟨b,row*sz+off,none⟩)
 | .os id sz off len,v=>(∃ b C,φ id=some (some (b,C))∧v=.slice (some ⟨b,off*sz,none⟩) len (C-off)∧off+len≤C) ∨
   (φ id=some none∧off=0∧len=0∧∃ a,v=.slice a 0 0)
 | .mp id,v=>∃ b,φ id=some (some (b,1))∧v=.map (some b)
 | l,v=>IR w M l v

def Rs {α β:Type} (R:α→β→Prop):List α→List β→Prop
 | [],[]=>True
 | x :: xs,y :: ys=>R x y∧Rs R xs ys
 | _,_=>False

def LR (w:World) (M:Nat→Prop) (φ:Pl):Lf→Value→Prop
 | .fn f caps,v=>∃ vs:List Value,v=.func f #[] vs.toArray∧Rs (LR0 w M φ) caps vs
 | l,v=>LR0 w M φ l v

def CR (w:World) (M:Nat→Prop) (φ:Pl):Cm→Value→Prop
 | .one l,v=>LR w M φ l v
 | .agg ls,v=>∃ vs:List Value,v=.agg vs.toArray∧Rs (LR w M φ) ls vs

def AR (w:World) (M:Nat→Prop) (φ:Pl):AV→Value→Prop
 | .cm c,v=>CR w M φ c v
 | .tup cs,v=>∃ vs:List Value,v=.tuple vs.toArray∧Rs (CR w M φ) cs vs
 | .gd p c,v=>(p→CR w M φ c v)∧(¬ p→v=undef)
 | .unk,_=>True
 | .boo,v=>∃ b,v=.bool b

def KyR (w:World) (M:Nat→Prop) (ks:List Lf) (kv:Value):Prop:=(∃ k,ks=[k]∧IR w M k kv)∨(2≤ks.length∧∃ vs:List Value,kv=.agg vs.toArray∧Rs (IR w M) ks vs)
def EntR (w:World) (M:Nat→Prop) (row:List Lf) (e:MapEntry):Prop:=∃ v ks,row=v :: ks∧IR w M v e.val∧KyR w M ks e.key
def MR (w:World) (M:Nat→Prop) (φ:Pl) (id:Nat) (ob:Ob):Prop :=
 ob.box=true∧∃ rs b es clk,ob.rows=[] :: [] :: rs∧φ id=some (some (b,1))∧w.heap[b]?=some (.map es clk)∧Rs (EntR w M) rs es.toList
def OC (w:World) (M:Nat→Prop) (φ:Pl) (id:Nat) (ob:Ob):Prop :=
 0<ob.sz ∧
 match φ id with
 | none=>False
 | some none=>ob.rows=[]∧ob.box=false
 | some (some (b,C))=>∃ cur:Array Value,w.heap[b]?=some (.cells cur ob.ety (0,0))∧cur.size=C*ob.sz∧ob.rows.length≤C∧C≤maxLen ∧
   (ob.box=true→C=1) ∧
   ∀ i c,ob.rows[i]?=some c→c.length=ob.sz∧∀ j l,c[j]?=some l→∃ v,cur[i*ob.sz+j]?=some v∧(if ob.box then LR w M φ l v else IR w M l v)

def OR (w:World) (M:Nat→Prop) (φ:Pl) (id:Nat) (ob:Ob):Prop:=OC w M φ id ob∨MR w M φ id ob

structure Gam where
 w0:World
 own0:Nat→Prop
 M0:Nat→Prop
 pins:List (Nat×Nat)

def tab0:Option (Nat×Array Value):=some (0,#[.int .u64 1,.int .u64 10,.int .u64 100,.int .u64 1000,.int .u64 10000,.int .u64 100000,.int .u64 1000000,.int .u64 10000000,.int .u64 100000000,.int .u64 1000000000,.int .u64 10000000000,.int .u64 100000000000,.int .u64 1000000000000,.int .u64 10000000000000,.int .u64 100000000000000,.int .u64 1000000000000000,.int .u64 10000000000000000,.int .u64 100000000000000000,.int .u64 1000000000000000000,.int .u64 10000000000000000000])
structure Wd (Γ:Gam) (φ:Pl) (M:Nat→Prop) (h:Nat→Option Ob) (w:World):Prop where
 obs:∀ id ob,h id=some ob→OR w M φ id ob
 inj:∀ i j oi oj b Ci Cj,h i=some oi→h j=some oj→φ i=some (some (b,Ci))→φ j=some (some (b,Cj))→i=j
 mlt:∀ b,M b→b<w.heap.size
 m0:∀ b,Γ.M0 b→M b
 mold:∀ b,M b→Γ.M0 b∨Γ.own0 b∨Γ.w0.heap.size≤b
 own:∀ id ob b C,h id=some ob→φ id=some (some (b,C))→¬ M b∧b<w.heap.size∧(Γ.own0 b∨Γ.w0.heap.size≤b)
 keep:∀ b,b<Γ.w0.heap.size→¬ Γ.own0 b→w.heap[b]?=Γ.w0.heap[b]?
 os:w.os=Γ.w0.os
 tape:w.tape=Γ.w0.tape
 output:w.output=Γ.w0.output
 size:Γ.w0.heap.size≤w.heap.size
 pin:∀ p∈Γ.pins,φ p.1=some (some (p.2,1))
 tbw:∀ b cs,tab0=some (b,cs)→Γ.M0 b∧¬ Γ.own0 b∧b<Γ.w0.heap.size∧∃ t s,Γ.w0.heap[b]?=some (.cells cs t s)

def hl (H:List (Option Ob)) (id:Nat):Option Ob:=(H[id]?).join

def Qe3 (φ:Pl):Nat→List Ob→List (Nat×Nat)
 | _,[]=>[]
 | i,o :: r=>(match o.box,φ i with
  | true,some (some (b,_))=>[(i,b)]
  | _,_=>[])++Qe3 φ (i+1) r

def QjE (P:Program) (f:FuncId):Bool :=
 match P.funcs[f]? with
 | some fn=>!(fn.name == "runtime.NumGoroutine")&&fn.body.isSome
 | none=>false
def AFn (P:Program) (f:FuncId) (args:List Cm) (H0:List Ob) (r:AV) (H1:List (Option Ob)):Prop :=
 QjE P f=true∧∀ (w:World) (φ:Pl) (M0:Nat→Prop) (vals:List Value),
  Wd ⟨w,fun b=>∃ id C,id<H0.length∧φ id=some (some (b,C)),M0,Qe3 φ 0 H0⟩ φ M0 (fun id=>H0[id]?) w→(∀ id,H0.length≤id→φ id=none) →
  Rs (CR w M0 φ) args vals →
  Calls P f vals.toArray w fun e w'=>∃ v φ' M',e=.returned v∧AR w' M' φ' r v ∧
   Wd ⟨w,fun b=>∃ id C,id<H0.length∧φ id=some (some (b,C)),M0,Qe3 φ 0 H0⟩ φ' M' (hl H1) w'∧(∀ id,H1.length≤id→φ' id=none)

def ren0 (m:Nat→Option Nat):Lf→Lf
 | .op id sz row off=>match m id with
  | some j=>.op j sz row off
  | none=>.any
 | .os id sz off len=>match m id with
  | some j=>.os j sz off len
  | none=>.any
 | .mp id=>match m id with
  | some j=>.mp j
  | none=>.any
 | .fn f caps=>.any
 | l=>l
def renL (m:Nat→Option Nat):Lf→Lf
 | .fn f caps=>.fn f (caps.map (ren0 m))
 | l=>ren0 m l
def renC (m:Nat→Option Nat):Cm→Cm
 | .one l=>.one (renL m l)
 | .agg ls=>.agg (ls.map (renL m))
def renAV (m:Nat→Option Nat):AV→AV
 | .cm c=>.cm (renC m c)
 | .tup cs=>.tup (cs.map (renC m))
 | .gd p c=>.gd p (renC m c)
 | .unk=>.unk
 | .boo=>.boo
def isMap (ob:Ob):Bool:=(Qgr ob.rows).isSome
def renOb (m:Nat→Option Nat) (ob:Ob):Ob:=bif ob.box&&!isMap ob then { ob with rows:=ob.rows.map fun c=>c.map (renL m) } else ob
def posOf:List Nat→Nat→Nat→Option Nat
 | [],_,_=>none
 | x :: r,k,id=>bif x == id then some k else posOf r (k+1) id
def free0:Lf→Bool
 | .op ..=>false
 | .os ..=>false
 | .fn ..=>false
 | .mp _=>false
 | _=>true
def freeL:Lf→Bool
 | .fn _ caps=>caps.all free0
 | l=>free0 l
def freeC:Cm→Bool
 | .one l=>freeL l
 | .agg ls=>ls.all freeL
structure Mes where
 v:AV
 H:List (Option Ob)
 obs:List Prop
 hs:List Hint

def noDup:List Nat→Bool
 | []=>true
 | x :: r=>!r.contains x&&noDup r
def QkD:AV→Bool
 | .cm c=>freeC c
 | .tup cs=>cs.all freeC
 | _=>false
def Qhb (P:Program) (h:Nat→Option Ob) (L:Nat→AV) (c:Call) (hs:List Hint):Option Res :=
 match c.callee with
 | .value f =>
  match aev L f,argsG L True c.args.toList,hs with
  | .cm (.one (.fn (.func k) caps)),some (args0,o),.call [] r [] :: hs' =>
   bif (args0++caps.map Cm.one).all freeC then
    bif QkD r then some ⟨r,[],o++[AFn P k (args0++caps.map Cm.one) [] r []],hs'⟩ else none
   else match QjQ h (args0++caps.map Cm.one) with
    | some (args',o')=>bif Qjd r then some ⟨r,[],o++o'++[AFn P k args' [] r []],hs'⟩ else none
    | none=>none
  | _,_,_=>none
 | _=>none
def allOb:List (Option Ob)→Option (List Ob)
 | []=>some []
 | some o :: r=>(allOb r).map (o :: ·)
 | none :: _=>none
def Qiz (P:Program) (base:Nat) (L:Nat→AV) (c:Call) (hs:List Hint):Option Res :=
 match c.callee with
 | .value f =>
  match aev L f,argsG L True c.args.toList,hs with
  | .cm (.one (.fn (.func k) caps)),some (args0,o),.call [] r out :: hs' =>
   match allOb out with
   | some obs=>bif (args0++caps.map Cm.one).all freeC&&obs.all (fun o=>!o.box) then some ⟨renAV (fun j=>some (base+j)) r,obs,o++[AFn P k (args0++caps.map Cm.one) [] r out],hs'⟩ else none
   | none=>none
  | _,_,_=>none
 | _=>none
def Qj1 (id:Nat):Lf→Bool
 | .os id' ..=>id' == id
 | _=>false
structure Wr where
 v:AV
 upd:List (Nat×Option Ob)
 news:List Ob
 obs:List Prop
 hs:List Hint
def findU:List (Nat×Option Ob)→Nat→Option (Option Ob)
 | [],_=>none
 | (u,o) :: r,id=>bif u == id then some o else findU r id
def setU (H:List (Option Ob)):List (Nat×Option Ob)→List (Option Ob)
 | []=>H
 | (u,o) :: r=>(setU H r).set u o
def updF (h:Nat→Option Ob) (upd:List (Nat×Option Ob)) (id:Nat):Option Ob :=
 match findU upd id with
 | some o=>o
 | none=>h id
def pickF (h:Nat→Option Ob):List Nat→Option (List Ob)
 | []=>some []
 | i :: r=>match h i,pickF h r with
  | some o,some os=>some (o :: os)
  | _,_=>none
def nBox:List Ob→Nat
 | []=>0
 | o :: r=>bif o.box then nBox r+1 else 0
def Qh4 (P:Program) (h:Nat→Option Ob) (base:Nat) (L:Nat→AV) (c:Call) (hs:List Hint):Option Wr :=
 match argsG L True c.args.toList,c.argTypes.toList,hs with
 | some ([.one (.os id sz off len),.one x],o),[t,t'],.rows R :: hs' =>
  (match Qcd P t,h id,Qc0 h x with
  | some e,some ob,some (sz',new,o') =>
   (match P.info? e,zeroL P e with
   | some i,some z =>
    bif t == t'&&off == 0&&sz == i.size&&ob.sz == sz&&!ob.box&&ob.ety == e&&(sz' == sz||new.isEmpty)&&!Qj1 id x then
     some ⟨one (.os base sz 0 R.length),[(id,none)],[⟨false,sz,e,R⟩],
      o++o'++[ob.rows.length=len,ob.rows++new=R,R.length*i.bytes≤140737488355328,R.length≤9223372036854775807],hs'⟩
    else none
   | _,_=>none)
  | _,_,_=>none)
 | _,_,_=>none
def Qj5 (P:Program) (h:Nat→Option Ob) (L:Nat→AV) (t:TypeId) (a x:Operand) (hs:List Hint):Option Wr :=
 match getG True (aev L a),getG True (aev L x),tsz P t with
 | some (.one (.op id sz row off),o1),some (c,o2),some n =>
  (match h id with
  | some ob=>(match ob.box,ob.rows with
   | true,[cells]=>bif ob.sz == sz&&n == c.cells.length&&(row == 0&&Nat.ble (off+n) cells.length) then some ⟨.unk,[(id,some { ob with rows:=[cells.take off++c.cells++cells.drop (off+n)] })],[],o1++o2,hs⟩ else none
   | _,_=>none)
  | none=>none)
 | _,_,_=>none
def Qev (ids:List Nat) (nb base j:Nat):Option Nat:=bif Nat.blt j nb then ids[j]? else some (base+(j-nb))
def boxU (m:Nat→Option Nat):List Nat→List Ob→List (Nat×Option Ob)
 | i :: is,o :: os=>(i,some (renOb m o)) :: boxU m is os
 | _,_=>[]
def deadU (ids:List Nat):List (Nat×Option Ob):=ids.map fun i=>(i,none)
def wCall (P:Program) (h:Nat→Option Ob) (base:Nat) (L:Nat→AV) (c:Call) (hs:List Hint):Option Wr :=
 match c.callee with
 | .value f =>
  match aev L f,argsG L True c.args.toList,hs with
  | .cm (.one (.fn (.func k) caps)),some (args0,o),.call ids r out :: hs' =>
   match pickF h ids,allOb out with
   | some obs0,some obs1 =>
    bif noDup ids&&Nat.ble (nBox obs0) obs1.length&&((obs0.drop (nBox obs0)).all (fun x=>!x.box)&&(obs1.take (nBox obs0)).all (fun x=>x.box)) then
     some ⟨renAV (Qev ids (nBox obs0) base) r,boxU (Qev ids (nBox obs0) base) (ids.take (nBox obs0)) (obs1.take (nBox obs0))++deadU (ids.drop (nBox obs0)),
      (obs1.drop (nBox obs0)).map (renOb (Qev ids (nBox obs0) base)),o++[AFn P k ((args0++caps.map Cm.one).map (renC (posOf ids 0))) (obs0.map (renOb (posOf ids 0))) r out],hs'⟩
    else none
   | _,_=>none
  | _,_,_=>none
 | _=>none
def wMap (P:Program) (h:Nat→Option Ob) (L:Nat→AV) (t:TypeId) (m k v:Operand) (hs:List Hint):Option Wr :=
 match P.underlying t,getG True (aev L m),getG True (aev L k),getG True (aev L v),hs with
 | some (.map kt _),some (.one (.mp id),o1),some (kl,o2),some (.one vl,o3),.rows R :: hs' =>
  (match h id with
  | some ob=>(match Qgr ob.rows with
   | some rs=>bif ob.box&&immL vl&&Qib P kt kl then some ⟨.unk,[(id,some { ob with rows:=[] :: [] :: R })],[],o1++o2++o3++[mpPut rs kl.cells vl=some R],hs'⟩ else none
   | none=>none)
  | none=>none)
 | _,_,_,_,_=>none
def wCut (P:Program) (h:Nat→Option Ob) (L:Nat→AV) (t:TypeId) (x hi:Operand) (hs:List Hint):Option Wr :=
 match getG True (aev L x),getG True (aev L hi),Qcd P t,hs with
 | some (.one (.os id sz off len),o1),some (.one (.int _ n),o2),some e,.rows R :: hs' =>
  (match h id with
  | some ob=>bif off == 0&&ob.sz == sz&&!ob.box&&tsz P e == some sz then
    some ⟨one (.os id sz 0 R.length),[(id,some { ob with rows:=R })],[],o1++o2++[ob.rows.length=len,0≤n,n≤ob.rows.length,ob.rows.take n.toNat=R],hs'⟩ else none
  | none=>none)
 | _,_,_,_=>none
def wop (P:Program) (h:Nat→Option Ob) (base:Nat) (L:Nat→AV) (op:Op) (hs:List Hint):Option Wr :=
 match op with
 | .store t a x=>Qj5 P h L t a x hs
 | .mapUpdate t m k v=>wMap P h L t m k v hs
 | .slice t x none (some hi) none=>wCut P h L t x hi hs
 | .call c =>
  (match c.callee with
  | .builtin .append=>Qh4 P h base L c hs
  | _=>wCall P h base L c hs)
 | _=>none
def mop (P:Program) (H:List (Option Ob)) (L:Nat→AV) (op:Op) (hs:List Hint):Option Mes :=
 match op with
 | .store t a x =>
  (match getG True (aev L a),getG True (aev L x),tsz P t with
  | some (.one (.op id sz row off),o),some (c,o'),some n =>
   (match hl H id with
   | some ob =>
    bif ob.sz == sz&&n == c.cells.length then
     (match ob.box,ob.rows,hs with
     | true,[cells],_=>bif row == 0&&Nat.ble (off+n) cells.length then some ⟨.unk,H.set id (some { ob with rows:=[cells.take off++c.cells++cells.drop (off+n)] }),o++o',hs⟩ else none
     | false,rows,.cells old :: .rows R :: hs' =>
      bif Nat.ble (off+n) old.length&&c.cells.all immL then
       some ⟨.unk,H.set id (some { ob with rows:=R }),o++o'++[rows[row]?=some old,rows.set row (old.take off++c.cells++old.drop (off+n))=R],hs'⟩
      else none
     | _,_,_=>none) else none
   | none=>none)
  | _,_,_=>none)
 | .call c =>
  (match c.callee with
  | .builtin .copy =>
   (match argsG L True c.args.toList,c.argTypes.toList,hs with
   | some ([.one (.os id sz off len),.one x],o),[t,t'],.rows R :: .num n :: hs' =>
    (match Qcd P t,hl H id,Qc0 (hl H) x with
    | some e,some ob,some (sz',new,o') =>
     (match P.info? e with
     | some i =>
      bif t == t'&&off == 0&&sz == i.size&&ob.sz == sz&&!ob.box&&(sz' == sz||new.isEmpty)&&!Qj1 id x then
       some ⟨one (.int .i64 n),H.set id (some { ob with rows:=R }),o++o'++[ob.rows.length=len,min new.length ob.rows.length=n,new.take n++ob.rows.drop n=R],hs'⟩
      else none
     | none=>none)
    | _,_,_=>none)
   | _,_,_=>none)
  | _=>none)
 | _=>none

def frzF (id:Nat) (sz:Nat) (rows:List (List Lf)):Lf→Lf×List Prop
 | .os i s off len=>bif i == id&&s == sz&&off == 0 then (.sl false sz rows,[rows.length=len]) else (.os i s off len,[])
 | l=>(l,[])
def frzBF (id sz:Nat) (cells:List Lf):Lf→Lf×List Prop
 | .op i s row off=>bif i == id&&row == 0 then (.ip cells off,[]) else (.op i s row off,[])
 | l=>(l,[])
def relF (id n:Nat):Lf→Lf×List Prop
 | .os i s off len=>bif i == id&&off == 0 then (.os i s off n,[len=n]) else (.os i s off len,[])
 | l=>(l,[])
section
variable (f : Lf → Lf × List Prop)
def gmLs:List Lf→List Lf×List Prop
 | []=>([],[])
 | l :: r=>((f l).1 :: (gmLs r).1,(f l).2++(gmLs r).2)
def gmC:Cm→Cm×List Prop
 | .one l=>(.one (f l).1,(f l).2)
 | .agg ls=>(.agg (gmLs f ls).1,(gmLs f ls).2)
def gmCs:List Cm→List Cm×List Prop
 | []=>([],[])
 | c :: r=>((gmC f c).1 :: (gmCs r).1,(gmC f c).2++(gmCs r).2)
def gmAV:AV→AV×List Prop
 | .cm c=>(.cm (gmC f c).1,(gmC f c).2)
 | .tup cs=>(.tup (gmCs f cs).1,(gmCs f cs).2)
 | v=>(v,[])
def Qdf:List (Nat×AV)→List (Nat×AV)×List Prop
 | []=>([],[])
 | (t,v) :: r=>((t,(gmAV f v).1) :: (Qdf r).1,(gmAV f v).2++(Qdf r).2)
def Qfc:List (List Lf)→List (List Lf)×List Prop
 | []=>([],[])
 | c :: r=>((gmLs f c).1 :: (Qfc r).1,(gmLs f c).2++(Qfc r).2)
def gmOb:Option Ob→Option Ob×List Prop
 | some ob=>bif ob.box&&!isMap ob then (some { ob with rows:=(Qfc f ob.rows).1 },(Qfc f ob.rows).2) else (some ob,[])
 | none=>(none,[])
def gmH:List (Option Ob)→List (Option Ob)×List Prop
 | []=>([],[])
 | o :: r=>((gmOb f o).1 :: (gmH r).1,(gmOb f o).2++(gmH r).2)
end
def wkL (sz:Nat):Lf→Option Lf
 | .nils=>some (.sl false sz [])
 | .sl _ s rows=>some (.sl false s rows)
 | _=>none
def wkC (k sz:Nat):Cm→Option Cm
 | .one l=>bif k == 0 then (wkL sz l).map .one else none
 | .agg ls=>match ls[k]? with
  | some l=>(wkL sz l).map fun l'=>.agg (ls.set k l')
  | none=>none

structure SS where
 N:Nat
 L:List (Nat×AV)
 H:List (Option Ob)

def ghost:List Hint→SS→Option (SS×List Prop×List Hint)
 | .wait 0 :: hs,σ=>ghost hs σ
 | .wait (n+1) :: hs,σ=>some (σ,[],.wait n :: hs)
 | .frz id :: hs,σ =>
  (match hl σ.H id with
  | some ob=>bif ob.box then none else
   match ghost hs ⟨σ.N,(Qdf (frzF id ob.sz ob.rows) σ.L).1,(gmH (frzF id ob.sz ob.rows) (σ.H.set id none)).1⟩ with
   | some (σ',o,hs')=>some (σ',(Qdf (frzF id ob.sz ob.rows) σ.L).2++(gmH (frzF id ob.sz ob.rows) (σ.H.set id none)).2++o,hs')
   | none=>none
  | none=>none)
 | .frzB id :: hs,σ =>
  (match hl σ.H id with
  | some ob=>(match ob.box,ob.rows with
   | true,[cells]=>bif cells.all immL then
    (match ghost hs ⟨σ.N,(Qdf (frzBF id ob.sz cells) σ.L).1,(gmH (frzBF id ob.sz cells) (σ.H.set id none)).1⟩ with
    | some (σ',o,hs')=>some (σ',(Qdf (frzBF id ob.sz cells) σ.L).2++(gmH (frzBF id ob.sz cells) (σ.H.set id none)).2++o,hs')
    | none=>none) else none
   | _,_=>none)
  | none=>none)
 | .relen id n :: hs,σ =>
  (match ghost hs ⟨σ.N,(Qdf (relF id n) σ.L).1,(gmH (relF id n) σ.H).1⟩ with
   | some (σ',o,hs')=>some (σ',(Qdf (relF id n) σ.L).2++(gmH (relF id n) σ.H).2++o,hs')
   | none=>none)
 | .nilS t k sz :: hs,σ =>
  (match look σ.L t with
  | .cm c=>(match wkC k sz c with
   | some c'=>ghost hs ⟨σ.N,(t,.cm c') :: σ.L,σ.H⟩
   | none=>none)
  | _=>none)
 | .nilB id k sz :: hs,σ =>
  (match hl σ.H id with
  | some ob=>(match ob.box,ob.rows with
   | true,[cells]=>(match cells[k]? with
    | some l=>(match wkL sz l with
     | some l'=>ghost hs ⟨σ.N,σ.L,σ.H.set id (some { ob with rows:=[cells.set k l'] })⟩
     | none=>none)
    | none=>none)
   | _,_=>none)
  | none=>none)
 | .adopt t sz e :: hs,σ =>
  (match look σ.L t with
  | .cm (.one .nils)=>bif sz == 0 then none else ghost hs ⟨σ.N,(t,one (.os σ.H.length sz 0 0)) :: σ.L,σ.H++[some ⟨false,sz,e,[]⟩]⟩
  | _=>none)
 | .adoptB id k sz e :: hs,σ =>
  (match hl σ.H id with
  | some ob=>(match ob.box,ob.rows with
   | true,[cells]=>(match cells[k]? with
    | some .nils=>bif sz == 0 then none else ghost hs ⟨σ.N,σ.L,(σ.H.set id (some { ob with rows:=[cells.set k (.os σ.H.length sz 0 0)] }))++[some ⟨false,sz,e,[]⟩]⟩
    | _=>none)
   | _,_=>none)
  | none=>none)
 | hs,σ=>some (σ,[],hs)

structure St where
 σ:SS
 obs:List Prop
 hs:List Hint

def gdv (p:Prop):AV→Option AV
 | .cm c=>some (.gd p c)
 | _=>none
def putD (d:Option Nat) (v:AV) (L:List (Nat×AV)):List (Nat×AV) :=
 match d with
 | some t=>(t,v) :: L
 | none=>L
def dop (P:Program) (h:Nat→Option Ob) (base:Nat) (L:Nat→AV) (op:Op) (hs:List Hint):Option Res :=
 match fop P h base True L op hs with
 | some r=>some r
 | none=>match op with
  | .call c=>match Qhb P h L c hs with
   | some r=>some r
   | none=>Qiz P base L c hs
  | _=>none
def und:AV:=.gd False (.one (.bool false))
def Qhq (P:Program) (o:Oper) (σ:SS) (hs:List Hint):Option St :=
 match dop P (hl σ.H) σ.H.length (look σ.L) o.op hs with
 | some r=>some ⟨⟨σ.N,putD o.dst r.v σ.L,σ.H++r.news.map some⟩,r.obs,r.hs⟩
 | none=>match mop P σ.H (look σ.L) o.op hs with
  | some r=>some ⟨⟨σ.N,putD o.dst r.v σ.L,r.H⟩,r.obs,r.hs⟩
  | none=>match wop P (hl σ.H) σ.H.length (look σ.L) o.op hs with
   | some r=>some ⟨⟨σ.N,putD o.dst r.v σ.L,setU σ.H r.upd++r.news.map some⟩,r.obs,r.hs⟩
   | none=>none
def dstOk (N:Nat):Option Nat→Bool
 | some d=>Nat.blt d N
 | none=>true
def QkY (P:Program) (l:Array Oper) (o:Oper) (σ:SS) (hs:List Hint):Option St :=
 bif !dstOk σ.N o.dst then none else
 match o.guard with
 | none=>Qhq P o σ hs
 | some (j,want) =>
  match ((l[j]?).bind (·.dst)).map (look σ.L),hs with
  | some (.cm (.one (.bool b))),.bit t :: hs' =>
   bif t == want then (Qhq P o σ hs').map fun r=>{ r with obs:=(b=t) :: r.obs }
   else some ⟨⟨σ.N,putD o.dst und σ.L,σ.H⟩,[b=t],hs'⟩
  | some (.gd p (.one (.bool b))),.bit t :: hs' =>
   bif t == want then (Qhq P o σ hs').map fun r=>{ r with obs:=(p∧b=t) :: r.obs }
   else some ⟨⟨σ.N,putD o.dst und σ.L,σ.H⟩,[p∧b=t],hs'⟩
  | some (.gd p (.one (.bool b))),.skip :: hs'=>some ⟨⟨σ.N,putD o.dst und σ.L,σ.H⟩,[¬ p],hs'⟩
  | some (.cm (.one (.bool b))),.spec :: hs' =>
   (match fop P (hl σ.H) σ.H.length (b=want) (look σ.L) o.op hs' with
   | some r=>bif r.news.isEmpty then (gdv (b=want) r.v).map fun v=>⟨⟨σ.N,putD o.dst v σ.L,σ.H⟩,r.obs,r.hs⟩ else none
   | none=>none)
  | some (.gd p (.one (.bool b))),.spec :: hs' =>
   (match fop P (hl σ.H) σ.H.length (p∧b=want) (look σ.L) o.op hs' with
   | some r=>bif r.news.isEmpty then (gdv (p∧b=want) r.v).map fun v=>⟨⟨σ.N,putD o.dst v σ.L,σ.H⟩,r.obs,r.hs⟩ else none
   | none=>none)
  | _,_=>none
def Qe7 (P:Program) (l:Array Oper):List Oper→SS→List Hint→Option St
 | [],σ,hs=>some ⟨σ,[],hs⟩
 | o :: rest,σ,hs =>
  match ghost hs σ with
  | some (σ0,o0,hs0) =>
   match QkY P l o σ0 hs0 with
   | some s=>match Qe7 P l rest s.σ s.hs with
    | some s'=>some ⟨s'.σ,o0++s.obs++s'.obs,s'.hs⟩
    | none=>none
   | none=>none
  | none=>none

def dstep (P:Program) (l:Array Oper) (o:Oper) (h:Nat→Option Ob) (base:Nat) (L:Nat→AV) (hs:List Hint):Option Res :=
 match o.guard with
 | none=>dop P h base L o.op hs
 | some (j,want) =>
  match ((l[j]?).bind (·.dst)).map L,hs with
  | some (.cm (.one (.bool b))),.bit t :: hs' =>
   bif t == want then (dop P h base L o.op hs').map fun r=>{ r with obs:=(b=t) :: r.obs }
   else some ⟨und,[],[b=t],hs'⟩
  | some (.gd p (.one (.bool b))),.skip :: hs'=>some ⟨und,[],[¬ p],hs'⟩
  | some (.cm (.one (.bool b))),.spec :: hs' =>
   (match fop P h base (b=want) L o.op hs' with
   | some r=>bif r.news.isEmpty then (gdv (b=want) r.v).map fun v=>⟨v,[],r.obs,r.hs⟩ else none
   | none=>none)
  | _,_=>none
structure Dn where
 i:Nat
 dst:Option Nat
 v:AV
 base:Nat
 news:List Ob
 upd:List (Nat×Option Ob)
 rd:List (Nat×Nat×Nat×List Lf)
def QbV (o:Oper):List Nat:=(o.after.toList.filter fun e=>Region.binds .any e).map (·.on)
def dlook (L:List (Nat×AV)) (dsts:List Nat) (S:Nat→Bool):List Dn→Nat→AV
 | [],t=>bif dsts.contains t then .unk else look L t
 | d :: r,t=>bif d.dst == some t&&S d.i then d.v else dlook L dsts S r t
def dheap (H:List (Option Ob)) (S:Nat→Bool):List Dn→Nat→Option Ob
 | [],id=>hl H id
 | d :: r,id=>bif Nat.ble d.base id&&Nat.blt id (d.base+d.news.length) then (bif S d.i then d.news[id-d.base]? else none) else dheap H S r id
def updOf (S:Nat→Bool):List Dn→Nat→Option (Option Ob)
 | [],_=>none
 | d :: r,id=>match bif S d.i then findU d.upd id else none with
  | some ob=>some ob
  | none=>updOf S r id
def QcT (H:List (Option Ob)) (S:Nat→Bool) (l:List Dn) (id:Nat):Option Ob :=
 match updOf S l id with
 | some ob=>ob
 | none=>dheap H S l id
def claim:List (Nat×Nat)→Nat→Option Nat
 | [],_=>none
 | (u,j) :: r,id=>bif u == id then some j else claim r id
def view (cl:List (Nat×Nat)) (i:Nat) (h:Nat→Option Ob) (id:Nat):Option Ob :=
 match claim cl id with
 | some j=>bif j == i then h id else none
 | none=>h id
def Qei (o:Oper):Bool:=match o.guard with
 | none=>true
 | some _=>false
def rload (P:Program) (H:List (Option Ob)) (L:Nat→AV) (op:Op):Option (AV×(Nat×Nat×Nat×List Lf)×List Prop) :=
 match op with
 | .load t a =>
  (match getG True (aev L a),tsz P t,trow P t with
  | some (.one (.op id sz row off),o),some n,some r =>
   (match hl H id with
   | some ob=>(match ob.box,ob.rows with
    | true,[cells]=>bif ob.sz == sz&&row == 0&&(r||n == 1) then (partL r n off cells).map fun c=>(.cm c,(id,off,sz,(cells.drop off).take n),o) else none
    | _,_=>none)
   | none=>none)
  | _,_,_=>none)
 | _=>none
def rdP (q:Nat×Nat×Nat×List Lf):Option Ob→Prop
 | some ob=>(ob.box,ob.sz,ob.rows.map fun cs=>(cs.drop q.2.1).take q.2.2.2.length)=(true,q.2.2.1,[q.2.2.2])
 | none=>False
def rdOne (q:Nat×Nat×Nat×List Lf):List (Nat×Option Ob)→List Prop
 | []=>[]
 | (u,o) :: r=>bif u == q.1 then rdP q o :: rdOne q r else rdOne q r
def rdUpd (q:Nat×Nat×Nat×List Lf):List Dn→List Prop
 | []=>[]
 | d :: r=>rdOne q d.upd++rdUpd q r
def rdQs (full:List Dn):List (Nat×Nat×Nat×List Lf)→List Prop
 | []=>[]
 | q :: r=>rdUpd q full++rdQs full r
def rdObs (full:List Dn):List Dn→List Prop
 | []=>[]
 | d :: r=>rdQs full d.rd++rdObs full r
def dgo (P:Program) (l:Array Oper) (σ:SS) (dsts:List Nat) (cl:List (Nat×Nat)):Nat→List Oper→List Dn→Nat→List Hint→Option (List Dn×Nat×List Prop×List Hint)
 | _,[],done,base,hs=>some (done,base,[],hs)
 | i,o :: rest,done,base,hs =>
  bif !dstOk σ.N o.dst then none else
  match dstep P l o (view cl i (dheap σ.H (QbV o).contains done)) base (dlook σ.L dsts (QbV o).contains done) hs with
  | some r=>match dgo P l σ dsts cl (i+1) rest (⟨i,o.dst,r.v,base,r.news,[],[]⟩ :: done) (base+r.news.length) r.hs with
   | some (d,b,ob,hs')=>some (d,b,r.obs++ob,hs')
   | none=>none
  | none=>match wop P (view cl i (dheap σ.H (QbV o).contains done)) base (dlook σ.L dsts (QbV o).contains done) o.op hs with
   | some r=>bif Qei o&&r.upd.all (fun u=>claim cl u.1 == some i) then
     (match dgo P l σ dsts cl (i+1) rest (⟨i,o.dst,r.v,base,r.news,r.upd,[]⟩ :: done) (base+r.news.length) r.hs with
     | some (d,b,ob,hs')=>some (d,b,r.obs++ob,hs')
     | none=>none) else none
   | none=>match rload P σ.H (dlook σ.L dsts (QbV o).contains done) o.op with
    | some (v,q,ob0)=>bif Qei o then
      (match dgo P l σ dsts cl (i+1) rest (⟨i,o.dst,v,base,[],[],[q]⟩ :: done) base hs with
      | some (d,b,ob,hs')=>some (d,b,ob0++ob,hs')
      | none=>none) else none
    | none=>none
def dL (L:List (Nat×AV)):List Dn→List (Nat×AV)
 | []=>L
 | d :: r=>putD d.dst d.v (dL L r)
def dH (H:List (Option Ob)):List Dn→List (Option Ob)
 | []=>H
 | d :: r=>setU (dH H r) d.upd++d.news.map some
def Qc9 (l:List Oper):List Nat:=l.filterMap (·.dst)
def QkF (l:Array Oper) (n:Nat):Array Bool:=((List.range l.size).map fun i=>Nat.blt i n).toArray
def drawB (l:Array Oper) (n:Nat):Bool :=
 noDup (Qc9 (l.toList.take n))&&Nat.ble n l.size &&
 ((l.toList.take n).zipIdx.all fun (o,i)=>(QbV o).all fun j=>Nat.blt j i) &&
 (n == l.size||(Nat.blt n l.size&&Region.sinkB .any l n&&Region.chainB .any l n))&&Region.seqB .any l (l.size-n) n (QkF l n)
def QgP (P:Program) (l:Array Oper) (σ:SS) (hs:List Hint):Option St :=
 match hs with
 | .draw n cl :: hs' =>
  bif P.follows .mixedOrders&&drawB l n then
   match dgo P l σ (Qc9 (l.toList.take n)) cl 0 (l.toList.take n) [] σ.H.length hs' with
   | some (done,_,ob,hs2)=>(Qe7 P l (l.toList.drop n) ⟨σ.N,dL σ.L done,dH σ.H done⟩ hs2).map fun s=>{ s with obs:=ob++(rdObs done done++s.obs) }
   | none=>none
  else none
 | _=>none

inductive It where
 | c (p:Nat)
 | b (id:Nat)
 | l (p:Nat)

def child (k:Bool):Code→Code
 | .seq a b=>cond k b a
 | .cond _ a b=>cond k b a
 | .block _ b=>b
 | .loop b=>b
 | .scope b=>b
 | _=>.skip
def cdAt (body:Code):Nat→Nat→Code
 | 0,_=>body
 | n+1,p=>bif Nat.ble p 1 then body else child (p % 2 == 1) (cdAt body n (p / 2))
def cd (body:Code) (p:Nat):Code:=cdAt body 300 p
def It.item (body:Code):It→Item
 | .c p=>.code (cd body p)
 | .b id=>.inBlock id
 | .l p=>.inLoop (cd body p)
def exitK (id:Nat):List It→Option (List It)
 | []=>none
 | .b i :: k=>bif i == id then some k else exitK id k
 | _ :: k=>exitK id k

structure Cf where
 k:List It
 σ:SS
structure Rn where
 cf:Cf
 obs:List Prop
 hs:List Hint

def QgC:Nat:=1809251394333065553493296640760748560207343510400633813116524750123642650624
def run1 (P:Program) (body:Code) (cf:Cf) (hs:List Hint):Option Rn :=
 match cf.k with
 | []=>none
 | .b _ :: k=>some ⟨⟨k,cf.σ⟩,[],hs⟩
 | .l p :: k=>some ⟨⟨.c p :: .l p :: k,cf.σ⟩,[],hs⟩
 | .c p :: k =>
  bif !(Nat.ble 1 p&&Nat.blt p QgC) then none else
  match cd body p with
  | .skip=>some ⟨⟨k,cf.σ⟩,[],hs⟩
  | .seq _ _=>some ⟨⟨.c (2*p) :: .c (2*p+1) :: k,cf.σ⟩,[],hs⟩
  | .block id _=>some ⟨⟨.c (2*p) :: .b id :: k,cf.σ⟩,[],hs⟩
  | .loop _=>some ⟨⟨.c (2*p) :: .l (2*p) :: k,cf.σ⟩,[],hs⟩
  | .cond c _ _ =>
   (match aev (look cf.σ.L) c,hs with
   | .cm (.one (.bool b)),.bit t :: hs'=>some ⟨⟨.c (2*p+cond t 0 1) :: k,cf.σ⟩,[b=t],hs'⟩
   | _,_=>none)
  | .exit id=>(exitK id k).map fun k'=>⟨⟨k',cf.σ⟩,[],hs⟩
  | .region _ ops draw =>
   (bif draw then QgP P ops cf.σ hs else Qe7 P ops ops.toList cf.σ hs).map fun s=>⟨⟨k,s.σ⟩,s.obs,s.hs⟩
  | _=>none
def runN' (P:Program) (body:Code):Nat→Cf→List Hint→Option Rn
 | 0,cf,hs=>some ⟨cf,[],hs⟩
 | n+1,cf,hs =>
  match ghost hs cf.σ with
  | some (σ0,o0,hs0) =>
   match run1 P body ⟨cf.k,σ0⟩ hs0 with
   | some r=>match runN' P body n r.cf r.hs with
    | some r'=>some ⟨r'.cf,o0++r.obs++r'.obs,r'.hs⟩
    | none=>none
   | none=>none
  | none=>none
def cut (live ids:List Nat) (σ:SS):SS :=
 ⟨σ.N,live.map fun t=>(t,renAV (posOf ids 0) (look σ.L t)),ids.map fun i=>(hl σ.H i).map (renOb (posOf ids 0))⟩
def runC (P:Program) (body:Code) (n:Nat) (live ids:List Nat) (cf:Cf) (hs:List Hint):Option (Cf×Prop) :=
 match runN' P body n cf hs with
 | some r=>match ghost r.hs r.cf.σ with
  | some (σ,o,[])=>bif noDup ids then some (⟨r.cf.k,cut live ids σ⟩,allP (r.obs++o)) else none
  | _=>none
 | none=>none
def resC (L:Nat→AV) (h:Nat→Option Ob) (P:Program):ResultVar→Option Cm
 | .tmp t=>match L t with
  | .cm c=>some c
  | _=>none
 | .cell a t=>match L a,tsz P t,trow P t with
  | .cm (.one (.op id sz row off)),some n,some r=>(match h id with
   | some ob=>(match ob.box,ob.rows with
    | true,[cells]=>bif row == 0&&ob.sz == sz then partL r n off cells else none
    | _,_=>none)
   | none=>none)
  | _,_,_=>none
def resCs (L:Nat→AV) (h:Nat→Option Ob) (P:Program):List ResultVar→Option (List Cm)
 | []=>some []
 | x :: r=>match resC L h P x,resCs L h P r with
  | some c,some cs=>some (c :: cs)
  | _,_=>none
def resAV:List Cm→AV
 | [c]=>.cm c
 | cs=>.tup cs
end Go.Proofs.YtpkkaboonnedfaaDoor
namespace Go.Proofs.YtpkkaboonnedfaaDoor
set_option linter.unusedSimpArgs false
set_option linter.unusedVariables false
set_option linter.unusedSectionVars false
open Go.RowKit

def Sim (Γ:Gam) (σ:SS) (a:Act) (w:World):Prop :=
 a.tmps.size=σ.N∧a.defers=[]∧∃ φ M,(∀ t,AR w M φ (look σ.L t) (a.tmps.getD t undef))∧Wd Γ φ M (hl σ.H) w∧(∀ id,σ.H.length≤id→φ id=none)
def Qgf (fn:Func):Code:=fn.body.getD .skip
def KW (P:Program) (body:Code) (k:List It) (R:Exit→Act→World→Prop) (a:Act) (w:World):Prop :=
 ∀ (b:Frame) (cs:List Frame),∃ e a' w',R e a' w'∧Arrives P (lone (b.at a (k.map (It.item body))) cs w) b [] cs e a' w'
def RR (P:Program) (fn:Func) (Γ:Gam) (r:AV) (H1:List (Option Ob)):Exit→Act→World→Prop:=fun e a' w' =>
 (e=.ret∨e=.normal)∧a'.defers=[]∧∃ v φ' M',(results fn a'.tmps).run P w'=.ok v w'∧AR w' M' φ' r v∧Wd Γ φ' M' (hl H1) w'∧(∀ id,H1.length≤id→φ' id=none)
def Go (P:Program) (fn:Func) (pin:List Nat) (Γ:Gam) (r:AV) (H1:List (Option Ob)) (cf:Cf):Prop :=
 (∀ p∈Γ.pins,p.1∈pin)→∀ a w,Sim Γ cf.σ a w→KW P (Qgf fn) cf.k (RR P fn Γ r H1) a w
def pinOk (pin ids:List Nat):Bool:=pin.all fun i=>match ids[i]? with
 | some j=>i == j
 | none=>false
def isRet:Code→Bool
 | .ret=>true
 | _=>false
def atRet (body:Code):List It→Bool
 | []=>true
 | .c p :: _=>isRet (cd body p)
 | _=>false
def retC (P:Program) (fn:Func) (n:Nat) (ids:List Nat) (cf:Cf) (hs:List Hint):Option (AV×List (Option Ob)×Prop) :=
 match runN' P (Qgf fn) n cf hs with
 | some r =>
  bif atRet (Qgf fn) r.cf.k then
   match ghost r.hs r.cf.σ with
   | some (σ,o,[])=>match resCs (look σ.L) (hl σ.H) P fn.results.toList with
    | some cs=>bif noDup ids then some (renAV (posOf ids 0) (resAV cs),ids.map fun i=>(hl σ.H i).map (renOb (posOf ids 0)),allP (r.obs++o)) else none
    | none=>none
   | _=>none
  else none
 | none=>none
def QeB:Nat→List Cm→List (Nat×AV)
 | _,[]=>[]
 | i,c :: r=>(i,.cm c) :: QeB (i+1) r
def Qiv:Nat→List Ob→List Nat
 | _,[]=>[]
 | i,o :: r=>cond o.box [i] []++Qiv (i+1) r
section
variable {α β S E : Type}
def br (b:Bool) (x y:Option α):Option α:=match b with
 | true=>x
 | false=>y
def bnd (o:Option α) (f:α→Option β):Option β:=match o with
 | some a=>f a
 | none=>none
theorem Qkv {o:Option α} {f:α→Option β} {r:β} (h:bnd o f=some r):∃ a,o=some a∧f a=some r:=by
 cases o with
 | none=>cases h
 | some a=>exact ⟨a,rfl,h⟩
def chk (p:Prop) [Decidable p] (x:Option α):Option α:=if p then x else none
theorem Qkx {p:Prop} [Decidable p] {x:Option α} {r:α} (h:chk p x=some r):p∧x=some r:=by
 unfold chk at h
 split at h
 ·exact ⟨‹_›,h⟩
 ·cases h
def amb [DecidableEq α] (x y:Option α):Option α:=if x=y then x else none
def iterF (B:S→Option (S⊕E)):Nat→S→Option E
 | 0,_=>none
 | n+1,s=>match B s with
  | some (.inl s')=>iterF B n s'
  | some (.inr e)=>some e
  | none=>none
theorem QhD (B:S→Option (S⊕E)) {e:E}:∀ (n k:Nat) (s:S),iterF B n s=some e→iterF B (n+k) s=some e
 | 0,_,_,h=>by cases h
 | n+1,k,s,h=>by
  rw [show n+1+k=(n+k)+1 by omega]
  simp only [iterF] at h ⊢
  split at h
  ·exact QhD B n k _ h
  ·exact h
  ·cases h
def Qi1:Nat:=18446744073709551616
def loopF (B:S→Option (S⊕E)) (s:S):Option E:=iterF B Qi1 s
theorem Qi0 {B:S→Option (S⊕E)} {s:S} {e:E} (h:loopF B s=some e):∃ n,iterF B n s=some e:=⟨_,h⟩
theorem QkS {B:S→Option (S⊕E)} {s:S} {e:E} (n:Nat) (hn:n≤Qi1) (h:iterF B n s=some e):loopF B s=some e:=by
 have:=QhD B n (Qi1-n) s h
 rwa [Nat.add_sub_cancel' hn] at this
theorem QkT {B:S→Option (S⊕E)} (C:S→Prop) (D:E→Prop) (hstep:∀ s x,B s=some x→(∀ s',x=.inl s'→C s')→(∀ e,x=.inr e→D e)→C s) {s:S} {e:E} (h:loopF B s=some e) (hD:D e):C s:=by
 obtain ⟨n,hn⟩:=Qi0 h
 clear h
 induction n generalizing s with
 | zero=>cases hn
 | succ n ih =>
  simp only [iterF] at hn
  split at hn
  ·rename_i s' hs
   exact hstep s _ hs (fun t ht=>by cases ht; exact ih hn) (fun t ht=>by cases ht)
  ·rename_i e' hs
   exact hstep s _ hs (fun t ht=>by cases ht) (fun t ht=>by cases ht; cases hn; exact hD)
  ·cases hn
end
section
variable {K V : Type}
def eqY (a b:ByteArray):Bool:=a == b
def mGet (eq:K→K→Bool):List (K×V)→K→V→V
 | [],_,z=>z
 | p :: r,k,z=>bif eq k p.1 then p.2 else mGet eq r k z
def mPut (eq:K→K→Bool):List (K×V)→K→V→List (K×V)
 | [],k,v=>[(k,v)]
 | p :: r,k,v=>bif eq k p.1 then (k,v) :: r else p :: mPut eq r k v
end
section
variable {α β A B γ : Type}
def okN (n b:Nat):Prop:=n*b≤140737488355328
instance (n b:Nat):Decidable (okN n b):=inferInstanceAs (Decidable (n*b≤140737488355328))
def setI (l:List α) (i:Int) (x:α):List α:=l.set i.toNat x
def slcS (s:ByteArray) (lo hi:Int):Option Unit:=if 0≤lo∧lo≤hi∧hi≤s.size then some () else none
def mkI (n m:Int) (b:Nat) (z:α):Option (List α):=if 0≤n∧n≤m∧b*m≤140737488355328∧m≤9223372036854775807 then some (List.replicate n.toNat z) else none
def sel (e:A⊕B) (f:A→γ) (g:B→γ):γ:=match e with
 | .inl a=>f a
 | .inr b=>g b
theorem lenM (f:α→β) (l:List α):(l.map f).length=l.length:=List.length_map ..
theorem getM (f:α→β) {l:List α} {i:Int} {a:α} (h:getI l i=some a):getI (l.map f) i=some (f a):=by
 unfold getI at *
 split at h
 ·rename_i h0; rw [if_pos h0,List.getElem?_map,h]; rfl
 ·cases h
theorem getLo {l:List α} {i:Int} {a:α} (h:getI l i=some a):0≤i:=by
 unfold getI at h
 split at h
 ·assumption
 ·cases h
theorem getHi (f:α→β) {l:List α} {i:Int} {a:α} (h:getI l i=some a):i<(l.map f).length:=by
 unfold getI at h
 split at h
 ·have:=(List.getElem?_eq_some_iff.1 h).1; rw [List.length_map]; omega
 ·cases h
theorem rowM (f:α→β) {l:List α} {i:Int} {a:α} (h:getI l i=some a):(l.map f)[0+i.toNat]?=some (f a):=by
 have h1:=getM f h
 unfold getI at h1
 split at h1
 ·rw [Nat.zero_add]; exact h1
 ·cases h1
theorem setM (f:α→β) (l:List α) (i:Int) (x:α):(l.map f).set (0+i.toNat) (f x)=(setI l i x).map f:=by
 rw [Nat.zero_add]; unfold setI; rw [List.map_set]
theorem Qia {l:List α} {i:Int} {a:α} (h:getI l i=some a) (x:α):getI (setI l i x) i=some x:=by
 unfold getI at *
 split at h
 ·rename_i h0
  have:=(List.getElem?_eq_some_iff.1 h).1
  rw [if_pos h0]; unfold setI
  rw [List.getElem?_set_self this]
 ·cases h
theorem Qhk (f:α→β) (l:List α) (i:Int) (x:α):(l.map f).length=((setI l i x).map f).length:=by simp [setI]
theorem appM (f:α→β) (l:List α) (m:List α):l.map f++m.map f=(l++m).map f:=List.map_append.symm
theorem neZ (f:α→β) (m:List α):m.map f=[]→([]:List β)=[]:=fun _=>rfl
theorem okLe (f:α→β) {l:List α} {b:Nat} (h:okN l.length b):(l.map f).length*b≤140737488355328:=by rw [List.length_map]; exact h
theorem okLe2 (f:α→β) {l:List α} {b:Nat} (hb:0<b) (h:okN l.length b):(l.map f).length≤9223372036854775807:=by
 rw [List.length_map]; unfold okN at h
 have:=Nat.le_mul_of_pos_right l.length hb
 omega
theorem notT {b:Bool} (h:b=false):(!b)=true:=by rw [h]; rfl
theorem notF {b:Bool} (h:b=true):(!b)=false:=by rw [h]; rfl
section
variable {n m : Int} {b : Nat} {z : α} {l : List α}
theorem QhL (h:mkI n m b z=some l):(0≤n∧n≤m∧b*m≤140737488355328∧m≤9223372036854775807)∧List.replicate n.toNat z=l:=by
 unfold mkI at h
 split at h
 ·exact ⟨‹_›,Option.some.inj h⟩
 ·cases h
theorem mk1 (h:mkI n m b z=some l):0≤n:=(QhL h).1.1
theorem mk2 (h:mkI n m b z=some l):n≤m:=(QhL h).1.2.1
theorem mk3 (h:mkI n m b z=some l):m≤9223372036854775807:=(QhL h).1.2.2.2
theorem mk4 (h:mkI n m b z=some l):b*m≤140737488355328:=(QhL h).1.2.2.1
theorem mk5 (f:α→β) (h:mkI n m b z=some l):List.replicate n.toNat (f z)=l.map f:=by
 unfold mkI at h; split at h
 ·rw [← Option.some.inj h,List.map_replicate]
 ·cases h
end
end
end Go.Proofs.YtpkkaboonnedfaaDoor
namespace Go.Proofs.YtpkkaboonnedfaaDoor
set_option linter.unusedSimpArgs false
set_option linter.unusedVariables false
set_option linter.unusedSectionVars false
section
variable {α β S E : Type}
def post (o:Option α) (Q:α→Prop):Prop:=∃ a,o=some a∧Q a
theorem post.mono {o:Option α} {Q R:α→Prop} (h:post o Q) (hi:∀ a,Q a→R a):post o R:=let ⟨a,h1,h2⟩:=h; ⟨a,h1,hi a h2⟩
theorem post.eq {o:Option α} {a:α} (h:post o (fun x=>x=a)):o=some a:=by obtain ⟨x,h1,rfl⟩:=h; exact h1
theorem post.and {o:Option α} {Q R:α→Prop} (h:post o Q) (h':post o R):post o (fun a=>Q a∧R a):=by
 obtain ⟨a,h1,h2⟩:=h
 obtain ⟨b,h3,h4⟩:=h'
 rw [h1] at h3; cases h3
 exact ⟨a,h1,h2,h4⟩
@[simp] theorem QbJ {a:α} {Q:α→Prop}:post (some a) Q↔Q a:=⟨fun ⟨_,h1,h2⟩=>by cases h1; exact h2,fun h=>⟨a,rfl,h⟩⟩
@[simp] theorem Qlt {Q:α→Prop}:post none Q↔False:=⟨fun ⟨_,h1,_⟩=>by (cases h1),False.elim⟩
theorem QbA {b:Bool} {x y:Option α} {Q:α→Prop} (h1:b=true→post x Q) (h2:b=false→post y Q):post (br b x y) Q:=by
 cases b
 ·exact h2 rfl
 ·exact h1 rfl
theorem Qbn {o:Option α} {f:α→Option β} {Q:β→Prop} {R:α→Prop} (h:post o R) (h2:∀ a,R a→post (f a) Q):post (bnd o f) Q:=by
 obtain ⟨a,rfl,h1⟩:=h
 exact h2 a h1
theorem QjY {o:Option α} {f:α→Option β} {Q:β→Prop} (h:post o (fun a=>post (f a) Q)):post (bnd o f) Q:=Qbn h fun _ h=>h
theorem QbG {p:Prop} [Decidable p] {x:Option α} {Q:α→Prop} (h1:p) (h2:post x Q):post (chk p x) Q:=by
 unfold chk; rw [if_pos h1]; exact h2
@[simp] theorem Qdc {x y:Option α}:br true x y=x:=rfl
@[simp] theorem QcS {x y:Option α}:br false x y=y:=rfl
theorem Qb4 {b:Bool} {x y:Option α} (h:b=true):br b x y=x:=by rw [h]; rfl
theorem QbW {b:Bool} {x y:Option α} (h:b=false):br b x y=y:=by rw [h]; rfl
@[simp] theorem Qaq {a:α} {f:α→Option β}:bnd (some a) f=f a:=rfl
theorem Qfa {o:Option α} {a:α} {f:α→Option β} (h:o=some a):bnd o f=f a:=by rw [h]; rfl
theorem Qbi {p:Prop} [Decidable p] {x:Option α} (h:p):chk p x=x:=if_pos h
@[simp] theorem Qjs {A B γ:Type} {a:A} {f:A→γ} {g:B→γ}:sel (.inl a) f g=f a:=rfl
@[simp] theorem QlI {A B γ:Type} {b:B} {f:A→γ} {g:B→γ}:sel (.inr b) f g=g b:=rfl
theorem Qlv [DecidableEq α] {x:Option α}:amb x x=x:=by unfold amb; rw [if_pos rfl]

theorem QkH {B:S→Option (S⊕E)} (C:S→Prop) (m:S→Nat) (Q:E→Prop)
  (h:∀ s,C s→post (B s) fun x=>(∀ s',x=.inl s'→C s'∧m s'<m s)∧∀ e,x=.inr e→Q e):∀ (n:Nat) (s:S),C s→m s<n→post (iterF B n s) Q:=by
 intro n
 induction n with
 | zero=>intro s _ hm; omega
 | succ n ih =>
  intro s hs hm
  obtain ⟨x,hx,h1,h2⟩:=h s hs
  simp only [iterF,hx]
  cases x with
  | inl s' =>
   obtain ⟨h3,h4⟩:=h1 s' rfl
   exact ih s' h3 (by omega)
  | inr e=>exact ⟨e,rfl,h2 e rfl⟩
theorem Qek {B:S→Option (S⊕E)} (C:S→Prop) (m:S→Nat) {Q:E→Prop} {s:S} (hs:C s) (hm:m s<18446744073709551616)
  (h:∀ s,C s→post (B s) fun x=>(∀ s',x=.inl s'→C s'∧m s'<m s)∧∀ e,x=.inr e→Q e):post (loopF B s) Q:=QkH C m Q h _ s hs hm
theorem QiP {B:S→Option (S⊕E)} {e:E}:∀ (n:Nat) (st:Nat→S),(∀ i,i<n→B (st i)=some (.inl (st (i+1))))→B (st n)=some (.inr e)→iterF B (n+1) (st 0)=some e
 | 0,st,_,he=>by simp only [iterF,he]
 | n+1,st,hs,he=>by
  have h0:=hs 0 (by omega)
  rw [iterF]
  rw [h0]
  exact QiP n (fun i=>st (i+1)) (fun i hi=>hs (i+1) (by omega)) he
theorem QcF {B:S→Option (S⊕E)} {e:E} (n:Nat) (st:Nat→S) (hn:n<18446744073709551616) (hs:∀ i,i<n→B (st i)=some (.inl (st (i+1)))) (he:B (st n)=some (.inr e)):loopF B (st 0)=some e :=
 QkS (n+1) hn (QiP n st hs he)
theorem QgD {x:S} {C:S→Prop} {Q:E→Prop} (h:C x):post (some (Sum.inl x:S⊕E)) fun y=>(∀ s',y=.inl s'→C s')∧∀ e,y=.inr e→Q e :=
 ⟨_,rfl,fun _ he=>by cases he; exact h,fun _ he=>by cases he⟩
theorem QeJ {x:E} {C:S→Prop} {Q:E→Prop} (h:Q x):post (some (Sum.inr x:S⊕E)) fun y=>(∀ s',y=.inl s'→C s')∧∀ e,y=.inr e→Q e :=
 ⟨_,rfl,fun _ he=>by (cases he),fun _ he=>by cases he; exact h⟩
end
section
variable {a b : Int}
theorem addI (h:-9223372036854775808≤a+b) (h':a+b≤9223372036854775807):addK .i64 a b=a+b:=IntWalk.i64_in _ ⟨h,h'⟩
theorem subI (h:-9223372036854775808≤a-b) (h':a-b≤9223372036854775807):subK .i64 a b=a-b:=IntWalk.i64_in _ ⟨h,h'⟩
theorem quoI (h:-9223372036854775808≤a.tdiv b) (h':a.tdiv b≤9223372036854775807):quoK .i64 a b=a.tdiv b:=IntWalk.i64_in _ ⟨h,h'⟩
@[simp] theorem ltI_t:ltI a b=true↔a<b:=by simp [ltI]
@[simp] theorem leI_t:leI a b=true↔a≤b:=by simp [leI]
@[simp] theorem gtI_t:gtI a b=true↔b<a:=by simp [gtI]
@[simp] theorem geI_t:geI a b=true↔b≤a:=by simp [geI]
@[simp] theorem eqI_t:eqI a b=true↔a=b:=by simp [eqI]
@[simp] theorem neI_t:neI a b=true↔a≠b:=by simp [neI]
@[simp] theorem ltI_f:ltI a b=false↔b≤a:=by simp [ltI]
@[simp] theorem leI_f:leI a b=false↔b<a:=by simp [leI]
@[simp] theorem gtI_f:gtI a b=false↔a≤b:=by simp [gtI]
@[simp] theorem geI_f:geI a b=false↔a<b:=by simp [geI]
@[simp] theorem eqI_f:eqI a b=false↔a≠b:=by simp [eqI]
@[simp] theorem neI_f:neI a b=false↔a=b:=by simp [neI]
theorem QlH:maxI a b=max a b:=by unfold maxI; split <;> omega
@[simp] theorem eqB_t {x y:Bool}:eqB x y=true↔x=y:=by simp [eqB]
@[simp] theorem eqB_f {x y:Bool}:eqB x y=false↔x≠y:=by simp [eqB]
end
section
variable {α : Type} {l : List α} {i : Int}
theorem Qa9 {k:Nat} {a:α} (h:l[k]?=some a):getI l (k:Int)=some a:=by
 unfold getI; rw [if_pos (by omega)]; simpa using h
theorem Qly {k:Nat} (h:k<l.length):getI l (k:Int)=some l[k]:=Qa9 (List.getElem?_eq_getElem h)
@[simp] theorem QlA:lenI ([]:List α)=0:=rfl
theorem QlG:lenI l=l.length:=rfl
end
def lI (n:Int):Lf:=.int .i64 n
def lL {α:Type} (sz:Nat) (l:List α) (e:α→List Lf):Lf:=.sl false sz (l.map e)
def lO {α:Type} (id sz:Nat) (l:List α) (e:α→List Lf):Lf:=.os id sz 0 (l.map e).length
end Go.Proofs.YtpkkaboonnedfaaDoor
