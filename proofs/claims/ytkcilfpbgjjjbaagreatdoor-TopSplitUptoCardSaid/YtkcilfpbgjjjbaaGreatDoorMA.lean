/- Part MA. -/
import Derived.WalkKit
import Derived.WalkSpells
import Derived.WalkLawsBesides
import Derived.StillTail
import Derived.Lib.Hide
import Derived.Deep.MidRow
import Derived.Deep.AppendSrc
import Derived.Great.BuildSlice
import Derived.KernelRfl
import Derived.Laws.BytesString
set_option linter.unusedSimpArgs false
set_option linter.unusedVariables false
set_option linter.unusedSectionVars false
namespace Go.Proofs.YtkcilfpbgjjjbaaGreatDoor
inductive Lf where
 |any
 |int (k:IntKind) (n:Int)
 |bool (b:Bool)
 |str (s:ByteArray)
 |Mt
 |cB
 |ip (cells:List Lf) (off:Nat)
 |op (id sz row off:Nat)
 |sl (cl:Bool) (sz:Nat) (rows:List (List Lf))
 |os (id sz off len:Nat)
 |fn (f:Fn) (gP:List Lf)
 |mp (id:Nat)
 |bs (id n sz:Nat)
inductive Cm where
 |one (l:Lf)
 |agg (ls:List Lf)
inductive AV where
 |cm (c:Cm)
 |jx (cs:List Cm)
 |gd (p:Prop) (c:Cm)
 |Lz
 |Xp
 |vl (v:Value) (c:Cm)
structure Ob where
 box:Bool
 sz:Nat
 Ey:TypeId
 rows:List (List Lf)
inductive Hint where
 |bit (b:Bool)
 |spec
 |skip
 |cells (c:List Lf)
 |rows (r:List (List Lf))
 |num (n:Nat)
 |pos (n:Nat)
 |byte (b:UInt8)
 |ints (l:List Int)
 |draw (n:Nat) (cl:List (Nat×Nat))
 |call (ids:List Nat) (r:AV) (out:List (Option Ob))
 |wait (n:Nat)
 |jn (id:Nat)
 |Qcd (id:Nat)
 |uG (id n:Nat)
 |sg (t k sz:Nat)
 |fj (id k sz:Nat)
 |kH (t:Nat) (sz:Nat) (e:TypeId)
 |tV (id cell:Nat) (sz:Nat) (e:TypeId)
def aU(k:IntKind)(a b:Int):Int:=k.wrap (a+b)
def dd(k:IntKind)(a b:Int):Int:=k.wrap (a-b)
def oT(k:IntKind)(a b:Int):Int:=k.wrap (a*b)
def so(k:IntKind)(a b:Int):Int:=k.wrap (a.tdiv b)
def uJ(a b:Int):Int:=a.tmod b
def JD(k:IntKind)(a b:Int):Int:=k.wrap (BitVec.ofInt k.bits a &&& BitVec.ofInt k.bits b).toNat
def OE(k:IntKind)(a b:Int):Int:=k.wrap (BitVec.ofInt k.bits a |||BitVec.ofInt k.bits b).toNat
def QkG(k:IntKind)(a b:Int):Int:=k.wrap (BitVec.ofInt k.bits a ^^^ BitVec.ofInt k.bits b).toNat
def y2(k:IntKind)(a b:Int):Int:=k.wrap (BitVec.ofInt k.bits a &&& ~~~BitVec.ofInt k.bits b).toNat
def K2(k:IntKind)(a b:Int):Int:=k.wrap (a*2 ^ min b.toNat k.bits)
def zd(k:IntKind)(a b:Int):Int:=a.fdiv (2 ^ min b.toNat k.bits)
def Ax(k:IntKind)(a:Int):Int:=k.wrap a
def bh(a b:Int):Bool:=decide (a<b)
def fT(a b:Int):Bool:=decide (a≤b)
def dp(a b:Int):Bool:=decide (a>b)
def cD(a b:Int):Bool:=decide (a≥b)
def cM(a b:Int):Bool:=a == b
def cr(a b:Int):Bool:=a != b
def we(a b:Int):Int:=if b>a then b else a
def QhZ(a b:Int):Int:=if b<a then b else a
def Im(a b:Bool):Bool:=a == b
def E3(a b:ByteArray):Bool:=a.toList == b.toList
def ltS(a b:ByteArray):Bool:=Op.bytesLess a.toList b.toList
def dC(a b:ByteArray):ByteArray:=a++b
def bj{α:Type}(l:List α)(i:Int):Option α:=if 0≤i then l[i.toNat]? else none
def az{α:Type}(l:List α):Int:=l.length
def fG(s:ByteArray):Int:=s.size
def Po(s:ByteArray)(i:Int):Option UInt8:=if 0≤i then s[i.toNat]? else none
def AX(b:UInt8):Int:=b.toNat
def Ej(n:Int):ByteArray:=Utf8.encode n
def xf(l:List Int):ByteArray:=⟨(l.map fun n=>UInt8.ofNat n.toNat).toArray⟩
def c6:List Prop→Prop
 | []=>True
 |p ::r=>p∧c6 r
def ofConst:Value→Option Lf
 | .int k n=>some (.int k n)
 | .bool b=>some (.bool b)
 | .string s=>some (.str s)
 | .pointer none=>some .Mt
 | .slice none 0 0=>some .cB
 | .nilFunc=>some .any
 | .map none=>some .any
 | .func f first gP=>bif first.size == 0&&gP.size == 0 then some (.fn f [])else none
 |_=>none
def CN:List Value→Option (List Lf)
 | []=>some []
 |v ::r=>match ofConst v,CN r with
  |some l,some ls=>some (l ::ls)
  |_,_=>none
def Tc:Value→Option Cm
 | .agg cs=>(CN cs.toList).map .agg
 |v=>(ofConst v).map .one
def look:List (Nat×AV)→Nat→AV
 | [],_=>.Lz
 |(k,v) ::r,t=>bif k == t then v else look r t
def wP(L:Nat→AV):Operand→AV
 | .tmp t=>match L t with
  | .vl _ c=>.cm c
  |a=>a
 | .const v=>match Tc v with
  |some c=>.cm c
  |none=>.Lz
 | .func f=>.cm (.one (.fn (.func f) []))
 | .global _=>.Lz
def nX(g:Prop):AV→Option (Cm×List Prop)
 | .cm c=>some (c,[])
 | .gd p c=>some (c,[g→p])
 |_=>none
def Cm.cells:Cm→List Lf
 | .one l=>[l]
 | .agg ls=>ls
structure Lv where
 v:AV
 news:List Ob
 fl:List Prop
 hs:List Hint
def Ar(P:Program)(t:TypeId):Option Nat:=(P.info? t).map (·.size)
def yL(P:Program)(t:TypeId):Option Bool:=(P.underlying t).map TypeDesc.isRow
def tH(row:Bool)(n off:Nat)(cells:List Lf):Option Cm:=
 bif row then(bif ((cells.drop off).take n).length == n then some (.agg ((cells.drop off).take n))else none)
 else(cells[off]?).map .one
def GM(P:Program)(t:TypeId):Option (List Lf):=
 match P.info? t with
 |some i=>match i.zero with
  |some z=>bif z.cells.size == i.size&&!(i.size == 0)then CN z.cells.toList else none
  |none=>none
 |none=>none
def QbK(op:BinOp)(k:IntKind)(a b:Int):Option (Lf×List Prop):=
 match op with
 | .add=>some (.int k (aU k a b),[])
 | .sub=>some (.int k (dd k a b),[])
 | .mul=>some (.int k (oT k a b),[])
 | .quo=>some (.int k (so k a b),[b≠0])
 | .rem=>some (.int k (uJ a b),[b≠0])
 | .and=>some (.int k (JD k a b),[])
 | .or=>some (.int k (OE k a b),[])
 | .xor=>some (.int k (QkG k a b),[])
 | .andNot=>some (.int k (y2 k a b),[])
 | .eql=>some (.bool (cM a b),[])
 | .neq=>some (.bool (cr a b),[])
 | .lss=>some (.bool (bh a b),[])
 | .leq=>some (.bool (fT a b),[])
 | .gtr=>some (.bool (dp a b),[])
 | .geq=>some (.bool (cD a b),[])
 |_=>none
def QbM(op:BinOp)(a b:ByteArray):Option (Lf×List Prop):=
 match op with
 | .add=>some (.str (dC a b),[a.size+b.size≤9223372036854775807])
 | .eql=>some (.bool (E3 a b),[])
 | .neq=>some (.bool (!E3 a b),[])
 | .lss=>some (.bool (ltS a b),[])
 |_=>none
def Qb9:TypeDesc→Lf→Lf→Option Bool
 | .int _,.int k a,.int k' b=>bif decide (k=k')then some (cM a b)else none
 | .bool,.bool a,.bool b=>some (Im a b)
 | .string,.str a,.str b=>some (a == b)
 |_,_,_=>none
def lV:List TypeDesc→List Lf→List Lf→Option Bool
 | [],[],[]=>some true
 |u ::us,x ::xs,y ::ys=>match Qb9 u x y,lV us xs ys with
  |some a,some b=>some (a&&b)
  |_,_=>none
 |_,_,_=>none
def Ve(P:Program):Nat→List Field→Option (List TypeDesc)
 |_,[]=>some []
 | k,f :: fs=>bif f.offset == k&&!(f.name == "_")&&(yL P f.type == some false) then
   match P.underlying f.type,Ve P (k+1) fs with
   |some u,some us=>some (u ::us)
   |_,_=>none
  else none
def QfP(P:Program)(t:TypeId):Option (List TypeDesc):=
 match P.underlying t with
 |some (.struct fs)=>bif !P.stoodInHeld t&&!P.eqGuardType P.depth t then Ve P 0 fs.toList else none
 |_=>none
def QfO(P:Program)(t:TypeId):Option (List TypeDesc):=
 match P.underlying t with
 |some (.array n e)=>bif !P.eqGuardType P.depth t&&(yL P e == some false)&&(Ar P e == some 1)then(P.underlying e).map (List.replicate n)else none
 |_=>none
def QgN(P:Program)(op:BinOp)(t:TypeId):Cm→Cm→Option (Lf×List Prop)
 | .one (.int k a),.one (.int k' b) =>
  (match op with
  | .shl=>some (.int k (K2 k a b),[0≤b])
  | .shr=>some (.int k (zd k a b),[0≤b])
  |_=>if k=k' then QbK op k a b else none)
 | .one (.str a),.one (.str b)=>QbM op a b
 | .one (.bool a),.one (.bool b) =>
  (match op,P.underlying t with
  | .eql,some .bool=>some (.bool (Im a b),[])
  | .neq,some .bool=>some (.bool (!Im a b),[])
  |_,_=>none)
 | .agg xs,.agg ys =>
  (match QfP P t with
  |some us =>
   (match op,lV us xs ys with
   | .eql,some e=>some (.bool e,[])
   | .neq,some e=>some (.bool (!e),[])
   |_,_=>none)
  |none=>(match QfO P t with
   |some us =>
    (match op,lV us xs ys with
    | .eql,some e=>some (.bool e,[])
    | .neq,some e=>some (.bool (!e),[])
    |_,_=>none)
   |none=>none))
 |_,_=>none
def YQ:List Lf→List Lf→Bool
 | [],[]=>true
 |x ::xs,y ::ys=>(match x,y with
  | .int k a,.int k' b=>decide (k=k')&&a == b
  | .bool a,.bool b=>a == b
  | .str a,.str b=>a.size == 0&&b.size == 0
  | .cB,.sl false _ []=>true
  |_,_=>false)&&YQ xs ys
 |_,_=>false
def HQ(e:TypeId)(cells:List Lf):Ob:=⟨true,cells.length,e,[cells]⟩
def Ma:Lf→Bool
 | .op ..=>false
 | .os ..=>false
 | .fn _ (_ ::_)=>false
 | .mp _=>false
 | .bs ..=>false
 |_=>true
def Nf(place:Nat→Option (Nat×Nat))(cells:List Lf):List (Nat×List Lf)→Option (List Lf)
 | []=>some cells
 |(i,v) ::rest=>match place i with
  |none=>none
  |some (off,size) =>
   bif v.length == size&&Nat.ble (off+size) cells.length then Nf place (cells.take off++v++cells.drop (off+size)) rest
   else none
def PZ(L:Nat→AV)(g:Prop):List (Nat×Operand)→Option (List (Nat×List Lf)×List Prop)
 | []=>some ([],[])
 |(i,x) ::r=>match nX g (wP L x),PZ L g r with
  |some (c,o),some (cs,os)=>some ((i,c.cells) ::cs,o++os)
  |_,_=>none
def E8(L:Nat→AV)(g:Prop):List Operand→Option (List Cm×List Prop)
 | []=>some ([],[])
 |x ::r=>match nX g (wP L x),E8 L g r with
  |some (c,o),some (cs,os)=>some (c ::cs,o++os)
  |_,_=>none
def TC:Lf→Bool
 | .fn ..=>true
 |_=>false
def YV:List Cm→Option (List Lf)
 | []=>some []
 | .one l ::r=>match YV r with
  |some ls=>bif TC l then none else some (l ::ls)
  |none=>none
 | .agg _ ::_=>none
def placesOf(P:Program)(t:TypeId):Option (Nat→Option (Nat×Nat)):=
 match P.underlying t with
 |some (.array _ e)=>(P.info? e).map fun ie i=>some (i*ie.size,ie.size)
 |some (.struct fields) =>
  (fields.toList.mapM (fun f=>(P.info? f.type).map fun i=>(f.offset,i.size))).map fun ps i=>ps[i]?
 |_=>none
def chunk(sz:Nat):Nat→List Lf→List (List Lf)
 |0,_=>[]
 |n+1,l=>l.take sz ::chunk sz n (l.drop sz)
def p9(P:Program)(t:TypeId):Option TypeId:=
 match P.underlying t with
 |some (.slice e)=>some e
 |_=>none
def Oj(P:Program)(t:TypeId)(f:Nat):Option (Nat×Nat×Bool):=
 match P.underlying t with
 |some (.struct fs)=>match fs[f]? with
  |some fd=>match Ar P fd.type,yL P fd.type with
   |some n,some r=>bif n == 0 then none else some (fd.offset,n,r)
   |_,_=>none
  |none=>none
 |_=>none
def X5(h:Nat→Option Ob):Lf→Option (Lf×List Prop)
 | .os id sz off len=>match h id with
  |some ob=>bif off == 0&&!ob.box&&ob.sz == sz then some (.sl false sz ob.rows,[ob.rows.length=len])else none
  |none=>none
 | .op ..=>none
 | .fn ..=>none
 | .mp _=>none
 | .bs ..=>none
 |l=>some (l,[])
def G3(h:Nat→Option Ob):List Lf→Option (List Lf×List Prop)
 | []=>some ([],[])
 |l ::r=>match X5 h l,G3 h r with
  |some (x,o),some (xs,os)=>some (x ::xs,o++os)
  |_,_=>none
def TK(h:Nat→Option Ob)(rows:List (List Lf))(sz len:Nat):Option (Lf×List Prop):=
 match rows with
 | [cells]=>(G3 h cells).map fun p=>(.sl false sz [p.1],(1=len) ::p.2)
 |_=>none
def Nr(h:Nat→Option Ob):Lf→Option (Lf×List Prop)
 | .os id sz off len=>match h id with
  |some ob=>bif off == 0&&!ob.box&&ob.sz == sz then some (.sl false sz ob.rows,[ob.rows.length=len])else
   bif off == 0&&ob.box&&ob.sz == sz then TK h ob.rows sz len else none
  |none=>none
 | .op id sz row off=>match h id with
  |some ob=>bif ob.box&&row == 0 then(match ob.rows with
   | [cells]=>bif cells.all Ma then some (.ip cells off,[])else none
   |_=>none)else none
  |none=>none
 | .fn ..=>none
 | .mp _=>none
 | .bs ..=>none
 |l=>some (l,[])
def PL(h:Nat→Option Ob):List Lf→Option (List Lf×List Prop)
 | []=>some ([],[])
 |l ::r=>match Nr h l,PL h r with
  |some (x,o),some (xs,os)=>some (x ::xs,o++os)
  |_,_=>none
def R_(h:Nat→Option Ob):Lf→Option (Lf×List Prop)
 | .fn f gP=>(PL h gP).map fun(x,o)=>(.fn f x,o)
 |l=>Nr h l
def PM(h:Nat→Option Ob):List Lf→Option (List Lf×List Prop)
 | []=>some ([],[])
 |l ::r=>match R_ h l,PM h r with
  |some (x,o),some (xs,os)=>some (x ::xs,o++os)
  |_,_=>none
def Zw(h:Nat→Option Ob):Cm→Option (Cm×List Prop)
 | .one l=>(R_ h l).map fun(x,o)=>(.one x,o)
 | .agg ls=>(PM h ls).map fun(x,o)=>(.agg x,o)
def TL(h:Nat→Option Ob):List Cm→Option (List Cm×List Prop)
 | []=>some ([],[])
 |c ::r=>match Zw h c,TL h r with
  |some (x,o),some (xs,os)=>some (x ::xs,o++os)
  |_,_=>none
def Yk:Lf→Bool
 | .int ..=>true
 | .bool _=>true
 | .str _=>true
 | .any=>true
 |_=>false
def Yj:Cm→Bool
 | .one l=>Yk l
 | .agg ls=>ls.all Yk
def T2:AV→Bool
 | .cm c=>Yj c
 | .jx cs=>cs.all Yj
 |_=>false
def one(l:Lf):AV:=.cm (.one l)
def rowsOf(h:Nat→Option Ob):Lf→Option (Nat×List (List Lf)×List Prop)
 | .cB=>some (0,[],[])
 | .sl _ sz rows=>some (sz,rows,[])
 | .os id sz off len=>match h id with
  |some ob=>bif off == 0&&!ob.box&&ob.sz == sz then some (sz,ob.rows,[ob.rows.length=len])else none
  |none=>none
 |_=>none
def Xz(P:Program)(h:Nat→Option Ob)(base:Nat)(d x:Lf)(t t':TypeId)(hs:List Hint):Option Lv:=
 (match p9 P t with
 |some e=>match P.info? e,rowsOf h x,GM P e with
  |some i,some (sz,new,o),some z =>
   bif t == t'&&(sz == i.size||new.isEmpty)then
    (match d,hs with
    | .cB,.rows R ::fc=>some ⟨one (.os base i.size 0 R.length),[⟨false,i.size,e,R⟩],o++[new=R,R.length*i.bytes≤140737488355328,R.length≤9223372036854775807],fc⟩
    | .sl true W6 rows,.rows R ::fc =>
     bif W6 == i.size||rows.isEmpty then
      some ⟨one (.os base i.size 0 R.length),[⟨false,i.size,e,R⟩],o++[rows++new=R,new=[]→rows=[]]++[R.length*i.bytes≤140737488355328,R.length≤9223372036854775807],fc⟩
     else none
    |_,_=>none)
   else none
  |_,_,_=>none
 |none=>none)
def xm(P:Program)(h:Nat→Option Ob)(base:Nat)(b:Builtin)(args:List Cm)(tys:List TypeId)(hs:List Hint):Option Lv:=
 match b,args,tys with
 | .len,[.one l],[t] =>
  (match l,P.underlying t with
  | .str s,some .string=>some ⟨one (.int .i64 (fG s)),[],[],hs⟩
  | .cB,some (.slice _)=>some ⟨one (.int .i64 0),[],[],hs⟩
  | .bs _ len _,some (.slice _)=>some ⟨one (.int .i64 len),[],[],hs⟩
  | .os _ _ _ len,some (.slice _) =>
   (match hs with
   | .num n ::fc=>some ⟨one (.int .i64 n),[],[len=n],fc⟩
   |_=>none)
  | .sl _ _ rows,some (.slice _) =>
   (match hs with
   | .num n ::fc=>some ⟨one (.int .i64 n),[],[rows.length=n],fc⟩
   |_=>none)
  |_,_=>none)
 | .cap,[.one .cB],[t] =>
  (match P.underlying t with
  |some (.slice _)=>some ⟨one (.int .i64 0),[],[],hs⟩
  |_=>none)
 | .max,[.one (.int k a),.one (.int _ b)],_=>some ⟨one (.int k (we a b)),[],[],hs⟩
 | .min,[.one (.int k a),.one (.int _ b)],_=>some ⟨one (.int k (QhZ a b)),[],[],hs⟩
 | .append,[.one .cB,.one (.int k n)],[t,t'] =>
  (match p9 P t,P.underlying t',hs with
  |some e,some (.int _),.cells z' :: .rows R ::fc =>
   (match P.info? e,GM P e with
   | some ie,some z=>bif YQ z z'&&decide (k=.i64) then some ⟨one (.os base ie.size 0 R.length),[⟨false,ie.size,e,R⟩],
     [0≤n,n≤9223372036854775807,ie.bytes*n≤140737488355328,List.replicate n.toNat z'=R],fc⟩else none
   |_,_=>none)
  |_,_,_=>none)
 | .append,[.one d,.one x],[t,t']=>Xz P h base d x t t' hs
 |_,_,_=>none
def QbT(c:Option Cm):Option (Option Int):=match c with
 |none=>some none
 |some (.one (.int _ n))=>some (some n)
 |_=>none
def Pk(P:Program)(h:Nat→Option Ob)(t:TypeId)(x:Cm)(lo hi mx:Option Cm)(hs:List Hint):Option Lv:=
 match x,QbT lo,QbT hi,QbT mx with
 | .one (.str s),some lo,some hi,some none =>
  (match P.underlying t with
  |some .string =>
   some ⟨one (.str (s.extract (lo.getD 0).toNat (hi.getD s.size).toNat)),[],[0≤lo.getD 0,lo.getD 0≤hi.getD s.size,hi.getD s.size≤s.size],hs⟩
  |_=>none)
 | .one .cB,some lo,some hi,some none =>
  (match p9 P t with
  |some e=>bif (Ar P e).isSome then some ⟨one .cB,[],[0≤lo.getD 0,lo.getD 0≤hi.getD 0,hi.getD 0≤0],hs⟩else none
  |none=>none)
 | .one (.sl cl sz rows),some lo,some hi,some mx =>
  (match p9 P t,hs with
  |some e,.rows R ::fc =>
   bif Ar P e == some sz||rows.isEmpty&&(Ar P e).isSome then
    some ⟨one (.sl (mx.isSome||cl&&hi.isNone) sz R),[],
     (match mx,hi with
     |some m,some n=>[m=n]
     |some _,none=>[False]
     |_,_=>[])++[0≤lo.getD 0,lo.getD 0≤hi.getD rows.length,hi.getD rows.length≤rows.length,hi.getD rows.length≤mx.getD (hi.getD rows.length),mx.getD (hi.getD rows.length)≤rows.length,
      (rows.drop (lo.getD 0).toNat).take ((hi.getD rows.length).toNat-(lo.getD 0).toNat)=R],fc⟩
   else none
  |_,_=>none)
 |_,_,_,_=>none
def Qc9(L:Nat→AV)(g:Prop):Option Operand→Option (Option Cm×List Prop)
 |none=>some (none,[])
 |some x=>(nX g (wP L x)).map fun(c,o)=>(some c,o)
def kEq:Lf→Lf→Option Bool
 | .int k a,.int k' b=>if k=k' then some (a == b)else none
 | .str a,.str b=>some (a == b)
 |_,_=>none
def sK:List Lf→List Lf→Option Bool
 | [],[]=>some true
 |k ::ks,k' ::Kn=>match kEq k k',sK ks Kn with
  |some a,some b=>some (a&&b)
  |_,_=>none
 |_,_=>none
def CI:List (List Lf)→List Lf→Lf→Option Lf
 | [],_,z=>some z
 |(v ::k') ::r,k,z=>match sK k k' with
  |some true=>some v
  |some false=>CI r k z
  |none=>none
 | [] ::_,_,_=>none
def FV:List (List Lf)→List Lf→Option Bool
 | [],_=>some false
 |(_ ::k') ::r,k=>match sK k k' with
  |some true=>some true
  |some false=>FV r k
  |none=>none
 | [] ::_,_=>none
def zZ:List (List Lf)→List Lf→Lf→Option (List (List Lf))
 | [],k,v=>some [v ::k]
 |(v' ::k') ::r,k,v=>match sK k k' with
  |some true=>some ((v ::k) ::r)
  |some false=>(zZ r k v).map ((v' ::k') :: ·)
  |none=>none
 | [] ::_,_,_=>none
def DM:List (List Lf)→Option (List (List Lf))
 | [] :: [] ::r=>some r
 |_=>none
def FK(P:Program)(kt:TypeId):Lf→Bool
 | .int k _=>(match P.underlying kt with
  |some (.int k')=>decide (k=k')
  |_=>false)
 | .str _=>(match P.underlying kt with
  |some .string=>true
  |_=>false)
 |_=>false
def cj:List TypeDesc→List Lf→Bool
 | [],[]=>true
 | .int k ::us,.int k' _ ::ls=>decide (k=k')&&cj us ls
 | .string ::us,.str _ ::ls=>cj us ls
 |_,_=>false
def yQ(P:Program):Nat→List Field→Option (List TypeDesc)
 |_,[]=>some []
 | k,f :: fs=>bif f.offset == k&&!(f.name == "_") then
   match yL P f.type,P.underlying f.type with
   |some false,some u=>(yQ P (k+1) fs).map (u :: ·)
   | some true,some (.array n e)=>bif (yL P e == some false)&&(Ar P e == some 1)&&(Ar P f.type == some n) then
     (match P.underlying e with
     |some u=>(yQ P (k+n) fs).map (List.replicate n u++·)
     |none=>none)else none
   |_,_=>none
  else none
def Qcb(P:Program)(t:TypeId):Option (List TypeDesc):=
 match P.underlying t with
 |some (.struct fs)=>bif !P.stoodInHeld t then yQ P 0 fs.toList else none
 |_=>none
def FJ(P:Program)(kt:TypeId):Cm→Bool
 | .one k=>FK P kt k
 | .agg ks=>Nat.ble 2 ks.length&&(match Qcb P kt with
  |some us=>cj us ks
  |none=>false)
def zeroV(P:Program)(t:TypeId):Option Lf:=
 match P.info? t with
 |some i=>(match i.zero with
  |some z=>ofConst z
  |none=>none)
 |none=>none
def Tn(P:Program)(h:Nat→Option Ob)(base:Nat)(g:Prop)(L:Nat→AV)(op:Op)(hs:List Hint):Option Lv:=
 match op with
 | .makeMap t none=>(match P.underlying t with
  |some (.map _ _)=>some ⟨one (.mp base),[⟨true,1,t,[[],[]]⟩],[],hs⟩
  |_=>none)
 | .lookup t x i false =>
  (match P.underlying t,nX g (wP L x),nX g (wP L i),hs with
  |some (.map kt vt),some (.one (.mp id),o),some (k,o'),.cells [v] ::fc =>
   (match h id,zeroV P vt with
   |some ob,some z =>
    (match DM ob.rows with
    |some rs=>bif ob.box&&FJ P kt k then some ⟨one v,[],o++o'++[CI rs k.cells z=some v],fc⟩else none
    |none=>none)
   |_,_=>none)
  |_,_,_,_=>none)
 | .lookup t x i true =>
  (match P.underlying t,nX g (wP L x),nX g (wP L i),hs with
  |some (.map kt vt),some (.one (.mp id),o),some (k,o'),.cells [v,.bool b] ::fc =>
   (match h id,zeroV P vt with
   |some ob,some z =>
    (match DM ob.rows with
    |some rs=>bif ob.box&&FJ P kt k then some ⟨.jx [.one v,.one (.bool b)],[],o++o'++[CI rs k.cells z=some v,FV rs k.cells=some b],fc⟩else none
    |none=>none)
   |_,_=>none)
  |_,_,_,_=>none)
 |_=>none
def XA(P:Program)(L:Nat→AV)(g:Prop)(op:BinOp)(t:TypeId)(x y:Operand)(hs:List Hint):Option Lv:=
 match nX g (wP L x),nX g (wP L y)with
 |some (a,o),some (b,o')=>(QgN P op t a b).map fun(l,o2)=>⟨one l,[],o++o'++o2,hs⟩
 |_,_=>none
def XB(P:Program)(h:Nat→Option Ob)(L:Nat→AV)(g:Prop)(op:BinOp)(t:TypeId)(x y:Operand)(hs:List Hint):Option Lv:=
 match op,nX g (wP L x),nX g (wP L y),P.underlying t with
 | .eql,some (.one l,o),some (.one .cB,o'),some (.slice _) =>
  (match rowsOf h l,hs with
  |some _,.skip ::fc=>some ⟨.Xp,[],o++o',fc⟩
  |some (_,rows,o2),.bit false ::fc=>some ⟨one (.bool false),[],o++o'++o2++[rows≠[]],fc⟩
  |_,_=>none)
 |_,_,_,_=>none
def yx(P:Program)(h:Nat→Option Ob)(base:Nat)(g:Prop)(L:Nat→AV)(op:Op)(hs:List Hint):Option Lv:=
 match op with
 | .move x|.assign x =>
  (match wP L x with
  | .cm c=>some ⟨.cm c,[],[],hs⟩
  | .jx cs=>some ⟨.jx cs,[],[],hs⟩
  | .gd p c=>some ⟨.cm c,[],[g→p],hs⟩
  | .Lz=>none
  | .Xp=>some ⟨.Xp,[],[],hs⟩
  | .vl _ _=>none)
 | .pick c a b =>
  (match nX g (wP L c),hs with
  |some (.one (.bool bc),o),.spec ::fc =>
   (match nX (g∧bc=true) (wP L a),nX (g∧bc=false) (wP L b)with
   |some (.one (.bool x),oa),some (.one (.bool y),ob)=>some ⟨one (.bool (cond bc x y)),[],o++oa++ob,fc⟩
   |_,_=>none)
  |some (.one (.bool bc),o),.bit t ::fc =>
   (nX g (wP L (cond t a b))).map fun(x,o')=>⟨.cm x,[],o++[bc=t]++o',fc⟩
  |_,_=>none)
 | .alloc e=>(GM P e).map fun cells=>⟨one (.op base cells.length 0 0),[HQ e cells],[],hs⟩
 | .box e x =>
  (match nX g (wP L x)with
  |some (c,o)=>bif c.cells.isEmpty then none else some ⟨one (.op base c.cells.length 0 0),[HQ e c.cells],o,hs⟩
  |none=>none)
 | .build t parts =>
  (match GM P t,placesOf P t,PZ L g parts.toList with
  |some z,some pl,some (cs,o)=>(Nf pl z cs).map fun cells=>⟨.cm (.agg cells),[],o,hs⟩
  |_,_,_=>none)
 | .buildSlice t n parts =>
  (match p9 P t with
  |some e=>match P.info? e,GM P e,PZ L g parts.toList with
   |some ie,some z,some (cs,o) =>
    bif n == 0&&cs.isEmpty then some ⟨one (.sl true ie.size []),[],o,hs⟩else
    bif Nat.ble (n*ie.size) 4096&&!(n == 0)then
     match Nf (fun i=>some (i*ie.size,ie.size)) (List.replicate n z).flatten cs with
     | some cells=>bif cells.all Ma then some ⟨one (.os base ie.size 0 n),[⟨false,ie.size,e,chunk ie.size n cells⟩],o,hs⟩ else
       (match n,hs with
       |1,.num 1 ::fc=>some ⟨one (.os base ie.size 0 1),[HQ e cells],o,fc⟩
       |_,_=>none)
     |none=>none
    else none
   |_,_,_=>none
  |none=>none)
 | .load t a =>
  (match nX g (wP L a),Ar P t,yL P t with
  |some (.one (.ip cells off),o),some n,some r=>(tH r n off cells).map fun c=>⟨.cm c,[],o,hs⟩
  |some (.one (.op id sz row off),o),some n,some r =>
   (match h id with
   | some ob=>bif ob.sz == sz then
     (match ob.box,ob.rows,hs with
     |true,[cells],_=>bif row == 0 then(tH r n off cells).map fun c=>⟨.cm c,[],o,hs⟩else none
     |false,rows,.cells c ::fc=>(tH r n off c).map fun v=>⟨.cm v,[],o++[rows[row]?=some c],fc⟩
     |_,_,_=>none)else none
   |none=>none)
  |_,_,_=>none)
 | .nilCheck x =>
  (match nX g (wP L x)with
  |some (.one (.ip c off),o)=>some ⟨one (.ip c off),[],o,hs⟩
  |some (.one (.op id sz row off),o)=>some ⟨one (.op id sz row off),[],o,hs⟩
  |_=>none)
 | .binOp op t x y _ =>
  (match XA P L g op t x y hs with
  |some r=>some r
  |none=>XB P h L g op t x y hs)
 | .unOp u _ x =>
  (match u,nX g (wP L x)with
  | .neg,some (.one (.int k n),o)=>some ⟨one (.int k (dd k 0 n)),[],o,hs⟩
  | .not,some (.one (.bool b),o)=>some ⟨one (.bool (!b)),[],o,hs⟩
  |_,_=>none)
 | .convert s d x =>
  (match P.underlying s,P.underlying d,nX g (wP L x),hs with
  |some _,some (.int k),some (.one (.int _ n),o),_=>some ⟨one (.int k (Ax k n)),[],o,hs⟩
  |some _,some .string,some (.one (.int _ n),o),_=>some ⟨one (.str (Ej n)),[],o,hs⟩
  |some _,some .string,some (.one (.str s),o),_=>some ⟨one (.str s),[],o,hs⟩
  |some (.slice e),some .string,some (.one l,o),.ints J ::fc =>
   (match P.underlying e,rowsOf h l with
   |some (.int .u8),some (sz,rows,o')=>bif sz == 1||rows.isEmpty then some ⟨one (.str (xf J)),[],o++o'++[rows=J.map fun n=>[.int .u8 n]],fc⟩else none
   |_,_=>none)
  |_,_,_,_=>none)
 | .makeFunc f first gP =>
  (match E8 L g gP.toList with
  | some (cs,o)=>bif first.toList.isEmpty then
    (match YV cs with
    |some ls=>some ⟨one (.fn f ls),[],o,hs⟩
    |none=>none)else none
  |none=>none)
 | .makeSlice t l c =>
  (match p9 P t,nX g (wP L l),nX g (wP L c),hs with
  |some e,some (.one (.int _ n),o),some (.one (.int _ m),o'),.cells z' :: .rows R ::fc =>
   match P.info? e,GM P e with
   | some ie,some z=>bif YQ z z' then some ⟨one (.os base ie.size 0 R.length),[⟨false,ie.size,e,R⟩],
     o++o'++[0≤n,n≤m,m≤9223372036854775807,ie.bytes*m≤140737488355328,List.replicate n.toNat z'=R],fc⟩else none
   |_,_=>none
  |some e,some (.one (.int _ n),o),some (.one (.int _ m),o'),.num j ::fc =>
   (match P.info? e,GM P e with
   |some ie,some z=>bif !(j == 0)&&Nat.ble (ie.bytes*j) 4096&&Nat.ble j 4096 then some ⟨one (.bs base j ie.size),[HQ e (List.replicate j z).flatten],o++o'++[n=j,m=j],fc⟩else none
   |_,_=>none)
  |_,_,_,_=>none)
 | .slice t x lo hi mx =>
  (match nX g (wP L x),Qc9 L g lo,Qc9 L g hi,Qc9 L g mx with
  |some (c,o),some (lo,o1),some (hi,o2),some (mx,o3)=>(Pk P h t c lo hi mx hs).map fun r=>{r with fl:=o++o1++o2++o3++r.fl}
  |_,_,_,_=>none)
 | .fieldAddr s x f =>
  (match Oj P s f,nX g (wP L x)with
  |some (fo,_,_),some (.one (.ip cells off),o)=>some ⟨one (.ip cells (off+fo)),[],o,hs⟩
  |some (fo,_,_),some (.one (.op id sz row off),o)=>some ⟨one (.op id sz row (off+fo)),[],o,hs⟩
  |_,_=>none)
 | .field s x f =>
  (match Oj P s f,nX g (wP L x)with
  |some (fo,n,r),some (.agg cells,o)=>(tH r n fo cells).map fun c=>⟨.cm c,[],o,hs⟩
  |_,_=>none)
 | .indexAddr t x i =>
  (match P.underlying t,nX g (wP L x),nX g (wP L i)with
  |some (.slice e),some (.one (.sl _ sz rows),o),some (.one (.int _ n),o') =>
   (match hs with
   | .cells c ::fc=>bif Ar P e == some sz then some ⟨one (.ip c 0),[],o++o'++[bj rows n=some c],fc⟩else none
   |_=>none)
  |some (.slice e),some (.one (.os id sz off len),o),some (.one (.int _ n),o') =>
   bif Ar P e == some sz then(match hs with
    | .pos j ::fc=>some ⟨one (.op id sz (off+j) 0),[],o++o'++[n=j,j<len],fc⟩
    |_=>some ⟨one (.op id sz (off+n.toNat) 0),[],o++o'++[0≤n,n<len],hs⟩)else none
  |some (.slice e),some (.one (.bs id len sz),o),some (.one (.int _ n),o') =>
   (match hs with
   | .pos j ::fc=>bif Ar P e == some sz&&Nat.blt j len then some ⟨one (.op id (len*sz) 0 (j*sz)),[],o++o'++[n=j],fc⟩else none
   |_=>none)
  |some (.array len e),some (.one (.ip cells off),o),some (.one (.int _ n),o') =>
   (match Ar P e with
   |some sz=>bif !(len == 0)then some ⟨one (.ip cells (off+n.toNat*sz)),[],o++o'++[0≤n,n<len],hs⟩else none
   |none=>none)
  |some (.array len e),some (.one (.op id sz row off),o),some (.one (.int _ n),o') =>
   (match Ar P e with
   |some esz=>bif !(len == 0)then(match hs with
    | .pos j ::fc=>some ⟨one (.op id sz row (off+j*esz)),[],o++o'++[n=j,j<len],fc⟩
    |_=>some ⟨one (.op id sz row (off+n.toNat*esz)),[],o++o'++[0≤n,n<len],hs⟩)else none
   |none=>none)
  |_,_,_=>none)
 | .index t x i =>
  (match P.underlying t,nX g (wP L x),nX g (wP L i)with
  |some .string,some (.one (.str s),o),some (.one (.int _ n),o') =>
   (match hs with
   | .byte b ::fc=>some ⟨one (.int .u8 (AX b)),[],o++o'++[Po s n=some b],fc⟩
   |_=>none)
  |some (.array len e),some (.agg cells,o),some (.one (.int _ n),o') =>
   (match Ar P e,yL P e with
   |some sz,some r=>(tH r sz (n.toNat*sz) cells).map fun c=>⟨.cm c,[],o++o'++[0≤n,n<len],hs⟩
   |_,_=>none)
  |_,_,_=>none)
 | .extract x i =>
  (match wP L x with
  | .jx cs=>(cs[i]?).map fun c=>⟨.cm c,[],[],hs⟩
  |_=>none)
 | .call c =>
  (match c.callee with
  | .builtin b =>
   (match E8 L g c.args.toList with
   |some (args,o)=>(xm P h base b args c.argTypes.toList hs).map fun r=>{r with fl:=o++r.fl}
   |none=>none)
  |_=>none)
 |_=>Tn P h base g L op hs
section
open Go.RowKit
inductive IR (w:World) (M:Nat→Prop):Lf→Value→Prop
 |any (v:Value):v.oneCell'=true→IR w M .any v
 |int (k:IntKind) (n:Int):IR w M (.int k n) (.int k n)
 |bool (b:Bool):IR w M (.bool b) (.bool b)
 |str (s:ByteArray):IR w M (.str s) (.string s)
 |Mt:IR w M .Mt (.pointer none)
 |cB:IR w M .cB (.slice none 0 0)
 |fn (f:Fn):IR w M (.fn f []) (.func f #[] #[])
 | ip (cells:List Lf) (off b o:Nat) (vs:Nat→Value):M b→(∀ (i:Nat) (l:Lf),cells[i]?=some l→w.cell? ⟨b,o+i,none⟩=some (vs i)) →
   (∀(i:Nat) (l:Lf),cells[i]?=some l→IR w M l (vs i))→IR w M (.ip cells off) (.pointer (some ⟨b,o+off,none⟩))
 |OJ (cl:Bool) (sz:Nat) (a:Option Addr) (cap:Nat):(cl=true→cap=0)→IR w M (.sl cl sz []) (.slice a 0 cap)
 | sl (cl:Bool) (sz:Nat) (rows:List (List Lf)) (b o cap:Nat) (vs:Nat→Nat→Value):M b→rows.length≤cap→(cl=true→cap=rows.length) →
   (∀(i:Nat) (c:List Lf),rows[i]?=some c→c.length=sz)→
   (∀(i:Nat) (c:List Lf) (j:Nat) (l:Lf),rows[i]?=some c→c[j]?=some l→w.cell? ⟨b,o+i*sz+j,none⟩=some (vs i j))→
   (∀(i:Nat) (c:List Lf) (j:Nat) (l:Lf),rows[i]?=some c→c[j]?=some l→IR w M l (vs i j))→IR w M (.sl cl sz rows) (.slice (some ⟨b,o,none⟩) rows.length cap)
abbrev Pl:=Nat→Option (Option (Nat×Nat))
def uK(w:World)(M:Nat→Prop)(φ:Pl):Lf→Value→Prop
 | .op id sz row off,v=>∃b C,φ id=some (some (b,C))∧v=.pointer (some ⟨b,row*sz+off,none⟩)
 | .os id sz off len,v=>(∃ b C,φ id=some (some (b,C))∧v=.slice (some ⟨b,off*sz,none⟩) len (C-off)∧off+len≤C) ∨
   (φ id=some none∧off=0∧len=0∧∃a,v=.slice a 0 0)
 | .mp id,v=>∃b,φ id=some (some (b,1))∧v=.map (some b)
 | .bs id n _,v=>∃b,φ id=some (some (b,1))∧v=.slice (some ⟨b,0,none⟩) n n
 |l,v=>IR w M l v
def Rs{α β:Type}(R:α→β→Prop):List α→List β→Prop
 | [],[]=>True
 |x ::xs,y ::ys=>R x y∧Rs R xs ys
 |_,_=>False
def LR(w:World)(M:Nat→Prop)(φ:Pl):Lf→Value→Prop
 | .fn f gP,v=>∃vs:List Value,v=.func f #[] vs.toArray∧Rs (uK w M φ) gP vs
 |l,v=>uK w M φ l v
def CR(w:World)(M:Nat→Prop)(φ:Pl):Cm→Value→Prop
 | .one l,v=>LR w M φ l v
 | .agg ls,v=>∃vs:List Value,v=.agg vs.toArray∧Rs (LR w M φ) ls vs
def AR(w:World)(M:Nat→Prop)(φ:Pl):AV→Value→Prop
 | .cm c,v=>CR w M φ c v
 | .jx cs,v=>∃vs:List Value,v=.tuple vs.toArray∧Rs (CR w M φ) cs vs
 | .gd p c,v=>(p→CR w M φ c v)∧(¬p→v=undef)
 | .Lz,_=>True
 | .Xp,v=>∃b,v=.bool b
 | .vl u c,v=>v=u∧CR w M φ c v
def KyR(w:World)(M:Nat→Prop)(ks:List Lf)(kv:Value):Prop:=(∃k,ks=[k]∧IR w M k kv)∨(2≤ks.length∧∃vs:List Value,kv=.agg vs.toArray∧Rs (IR w M) ks vs)
def zt(w:World)(M:Nat→Prop)(row:List Lf)(e:MapEntry):Prop:=∃v ks,row=v ::ks∧IR w M v e.val∧KyR w M ks e.key
def MR(w:World)(M:Nat→Prop)(φ:Pl)(id:Nat)(ob:Ob):Prop:=
 ob.box=true∧∃rs b es O_,ob.rows=[] :: [] ::rs∧φ id=some (some (b,1))∧w.heap[b]?=some (.map es O_)∧Rs (zt w M) rs es.toList
def OC(w:World)(M:Nat→Prop)(φ:Pl)(id:Nat)(ob:Ob):Prop:=
 0<ob.sz∧
 match φ id with
 |none=>False
 |some none=>ob.rows=[]∧ob.box=false
 | some (some (b,C))=>∃ cur:Array Value,w.heap[b]?=some (.cells cur ob.Ey (0,0))∧cur.size=C*ob.sz∧ob.rows.length≤C∧C≤maxLen ∧
   (ob.box=true→C=1)∧
   ∀i c,ob.rows[i]?=some c→c.length=ob.sz∧∀j l,c[j]?=some l→∃v,cur[i*ob.sz+j]?=some v∧(if ob.box then LR w M φ l v else IR w M l v)
def OR(w:World)(M:Nat→Prop)(φ:Pl)(id:Nat)(ob:Ob):Prop:=OC w M φ id ob∨MR w M φ id ob
structure bu where
 w0:World
 Qdb:Nat→Prop
 M0:Nat→Prop
 pins:List (Nat×Nat)
def Rv:List (Nat×Array Value):=[(3,#[.int .u64 1,.int .u64 10,.int .u64 100,.int .u64 1000,.int .u64 10000,.int .u64 100000,.int .u64 1000000,.int .u64 10000000,.int .u64 100000000,.int .u64 1000000000,.int .u64 10000000000,.int .u64 100000000000,.int .u64 1000000000000,.int .u64 10000000000000,.int .u64 100000000000000,.int .u64 1000000000000000,.int .u64 10000000000000000,.int .u64 100000000000000000,.int .u64 1000000000000000000,.int .u64 10000000000000000000]),(2,#[.int .u8 0,.int .u8 1,.int .u8 56,.int .u8 2,.int .u8 57,.int .u8 49,.int .u8 28,.int .u8 3,.int .u8 61,.int .u8 58,.int .u8 42,.int .u8 50,.int .u8 38,.int .u8 29,.int .u8 17,.int .u8 4,.int .u8 62,.int .u8 47,.int .u8 59,.int .u8 36,.int .u8 45,.int .u8 43,.int .u8 51,.int .u8 22,.int .u8 53,.int .u8 39,.int .u8 33,.int .u8 30,.int .u8 24,.int .u8 18,.int .u8 12,.int .u8 5,.int .u8 63,.int .u8 55,.int .u8 48,.int .u8 27,.int .u8 60,.int .u8 41,.int .u8 37,.int .u8 16,.int .u8 46,.int .u8 35,.int .u8 44,.int .u8 21,.int .u8 52,.int .u8 32,.int .u8 23,.int .u8 11,.int .u8 54,.int .u8 26,.int .u8 40,.int .u8 15,.int .u8 34,.int .u8 20,.int .u8 31,.int .u8 10,.int .u8 25,.int .u8 14,.int .u8 19,.int .u8 9,.int .u8 13,.int .u8 8,.int .u8 7,.int .u8 6])]
structure Wd (Γ:bu) (φ:Pl) (M:Nat→Prop) (h:Nat→Option Ob) (w:World):Prop where
 fl:∀id ob,h id=some ob→OR w M φ id ob
 inj:∀i j oi oj b Ci Cj,h i=some oi→h j=some oj→φ i=some (some (b,Ci))→φ j=some (some (b,Cj))→i=j
 mlt:∀b,M b→b<w.heap.size
 m0:∀b,Γ.M0 b→M b
 ID:∀b,M b→Γ.M0 b∨Γ.Qdb b∨Γ.w0.heap.size≤b
 own:∀id ob b C,h id=some ob→φ id=some (some (b,C))→¬M b∧b<w.heap.size∧(Γ.Qdb b∨Γ.w0.heap.size≤b)
 FI:∀b,b<Γ.w0.heap.size→¬Γ.Qdb b→w.heap[b]?=Γ.w0.heap[b]?
 os:w.os=Γ.w0.os
 tape:w.tape=Γ.w0.tape
 output:w.output=Γ.w0.output
 size:Γ.w0.heap.size≤w.heap.size
 EV:∀p∈Γ.pins,φ p.1=some (some (p.2,1))
 tbw:∀b cs,(b,cs)∈Rv→Γ.M0 b∧¬Γ.Qdb b∧b<Γ.w0.heap.size∧∃t s,Γ.w0.heap[b]?=some (.cells cs t s)
def hl(H:List (Option Ob))(id:Nat):Option Ob:=(H[id]?).join
def wv(φ:Pl):Nat→List Ob→List (Nat×Nat)
 |_,[]=>[]
 |i,o ::r=>(match o.box,φ i with
  |true,some (some (b,_))=>[(i,b)]
  |_,_=>[])++wv φ (i+1) r
def Ij(P:Program)(f:FuncId):Bool:=
 match P.funcs[f]? with
 |some fn=>!(fn.name == "runtime.NumGoroutine")&&fn.body.isSome
 |none=>false
def dv(P:Program)(f:FuncId)(args:List Cm)(H0:List Ob)(r:AV)(H1:List (Option Ob)):Prop:=
 Ij P f=true∧∀(w:World) (φ:Pl) (M0:Nat→Prop) (gX:List Value),
  Wd ⟨w,fun b=>∃id C,id<H0.length∧φ id=some (some (b,C)),M0,wv φ 0 H0⟩ φ M0 (fun id=>H0[id]?) w→(∀id,H0.length≤id→φ id=none)→
  Rs (CR w M0 φ) args gX→
  Calls P f gX.toArray w fun e w'=>∃v φ' M',e=.returned v∧AR w' M' φ' r v∧
   Wd ⟨w,fun b=>∃id C,id<H0.length∧φ id=some (some (b,C)),M0,wv φ 0 H0⟩ φ' M' (hl H1) w'∧(∀id,H1.length≤id→φ' id=none)
def Rm(m:Nat→Option Nat):Lf→Lf
 | .op id sz row off=>match m id with
  |some j=>.op j sz row off
  |none=>.any
 | .os id sz off len=>match m id with
  |some j=>.os j sz off len
  |none=>.any
 | .mp id=>match m id with
  |some j=>.mp j
  |none=>.any
 | .bs id n sz=>match m id with
  |some j=>.bs j n sz
  |none=>.any
 | .fn f gP=>.any
 |l=>l
def Qa2(m:Nat→Option Nat):Lf→Lf
 | .fn f gP=>.fn f (gP.map (Rm m))
 |l=>Rm m l
def Ys(m:Nat→Option Nat):Cm→Cm
 | .one l=>.one (Qa2 m l)
 | .agg ls=>.agg (ls.map (Qa2 m))
def KM(m:Nat→Option Nat):AV→AV
 | .cm c=>.cm (Ys m c)
 | .jx cs=>.jx (cs.map (Ys m))
 | .gd p c=>.gd p (Ys m c)
 | .Lz=>.Lz
 | .Xp=>.Xp
 | .vl v c=>.vl v (Ys m c)
def isMap(ob:Ob):Bool:=(DM ob.rows).isSome
def iC(m:Nat→Option Nat)(ob:Ob):Ob:=bif ob.box&&!isMap ob then{ob with rows:=ob.rows.map fun c=>c.map (Qa2 m)}else ob
def posOf:List Nat→Nat→Nat→Option Nat
 | [],_,_=>none
 |x ::r,k,id=>bif x == id then some k else posOf r (k+1) id
def Y5:Lf→Bool
 | .op ..=>false
 | .os ..=>false
 | .fn ..=>false
 | .mp _=>false
 | .bs ..=>false
 |_=>true
def Qcc:Lf→Bool
 | .fn _ gP=>gP.all Y5
 |l=>Y5 l
def Ke:Cm→Bool
 | .one l=>Qcc l
 | .agg ls=>ls.all Qcc
structure Mes where
 v:AV
 H:List (Option Ob)
 fl:List Prop
 hs:List Hint
def Ba:List Nat→Bool
 | []=>true
 |x ::r=>!r.contains x&&Ba r
def XC:AV→Bool
 | .cm c=>Ke c
 | .jx cs=>cs.all Ke
 |_=>false
def O7(P:Program)(h:Nat→Option Ob)(L:Nat→AV)(c:Call)(hs:List Hint):Option Lv:=
 match c.callee with
 | .value f =>
  match wP L f,E8 L True c.args.toList,hs with
  | .cm (.one (.fn (.func k) gP)),some (yM,o),.call [] r [] ::fc =>
   bif (yM++gP.map Cm.one).all Ke then
    bif XC r then some ⟨r,[],o++[dv P k (yM++gP.map Cm.one) [] r []],fc⟩else none
   else match TL h (yM++gP.map Cm.one)with
    |some (RD,o')=>bif T2 r then some ⟨r,[],o++o'++[dv P k RD [] r []],fc⟩else none
    |none=>none
  |_,_,_=>none
 |_=>none
def RC:List (Option Ob)→Option (List Ob)
 | []=>some []
 |some o ::r=>(RC r).map (o :: ·)
 |none ::_=>none
def S4(P:Program)(base:Nat)(L:Nat→AV)(c:Call)(hs:List Hint):Option Lv:=
 match c.callee with
 | .value f =>
  match wP L f,E8 L True c.args.toList,hs with
  | .cm (.one (.fn (.func k) gP)),some (yM,o),.call [] r out ::fc =>
   match RC out with
   |some fl=>bif (yM++gP.map Cm.one).all Ke&&fl.all (fun o=>!o.box)then some ⟨KM (fun j=>some (base+j)) r,fl,o++[dv P k (yM++gP.map Cm.one) [] r out],fc⟩else none
   |none=>none
  |_,_,_=>none
 |_=>none
def Ud(id:Nat):Lf→Bool
 | .os WX ..=>WX == id
 |_=>false
structure Wr where
 v:AV
 yu:List (Nat×Option Ob)
 news:List Ob
 fl:List Prop
 hs:List Hint
def qS:List (Nat×Option Ob)→Nat→Option (Option Ob)
 | [],_=>none
 |(u,o) ::r,id=>bif u == id then some o else qS r id
def Wk(H:List (Option Ob)):List (Nat×Option Ob)→List (Option Ob)
 | []=>H
 |(u,o) ::r=>(Wk H r).set u o
def MY(h:Nat→Option Ob)(yu:List (Nat×Option Ob))(id:Nat):Option Ob:=
 match qS yu id with
 |some o=>o
 |none=>h id
def ZG(h:Nat→Option Ob):List Nat→Option (List Ob)
 | []=>some []
 |i ::r=>match h i,ZG h r with
  |some o,some os=>some (o ::os)
  |_,_=>none
def CK:List Ob→Nat
 | []=>0
 |o ::r=>bif o.box then CK r+1 else 0
def OO(P:Program)(h:Nat→Option Ob)(base:Nat)(L:Nat→AV)(c:Call)(hs:List Hint):Option Wr:=
 match E8 L True c.args.toList,c.argTypes.toList,hs with
 |some ([.one (.os id sz off len),.one x],o),[t,t'],.rows R ::fc =>
  (match p9 P t,h id,rowsOf h x with
  |some e,some ob,some (W6,new,o') =>
   (match P.info? e,GM P e with
   |some i,some z =>
    bif t == t'&&off == 0&&sz == i.size&&ob.sz == sz&&!ob.box&&ob.Ey == e&&(W6 == sz||new.isEmpty)&&!Ud id x then
     some ⟨one (.os base sz 0 R.length),[(id,none)],[⟨false,sz,e,R⟩],
      o++o'++[ob.rows.length=len,ob.rows++new=R,R.length*i.bytes≤140737488355328,R.length≤9223372036854775807],fc⟩
    else none
   |_,_=>none)
  |_,_,_=>none)
 |_,_,_=>none
def Uo(P:Program)(h:Nat→Option Ob)(L:Nat→AV)(t:TypeId)(a x:Operand)(hs:List Hint):Option Wr:=
 match nX True (wP L a),nX True (wP L x),Ar P t with
 |some (.one (.op id sz row off),o1),some (c,o2),some n =>
  (match h id with
  |some ob=>(match ob.box,ob.rows with
   |true,[cells]=>bif ob.sz == sz&&n == c.cells.length&&(row == 0&&Nat.ble (off+n) cells.length)then some ⟨.Lz,[(id,some {ob with rows:=[cells.take off++c.cells++cells.drop (off+n)]})],[],o1++o2,hs⟩else none
   |_,_=>none)
  |none=>none)
 |_,_,_=>none
def OP(P:Program)(h:Nat→Option Ob)(L:Nat→AV)(t:TypeId)(a x:Operand)(hs:List Hint):Option Wr:=
 match nX True (wP L a),nX True (wP L x),Ar P t,hs with
 |some (.one (.op id sz row off),o1),some (c,o2),some n,.cells Mv :: .rows R ::fc =>
  (match h id with
  | some ob=>bif !ob.box&&(ob.sz == sz&&n == c.cells.length)&&(Nat.ble (off+n) Mv.length&&c.cells.all Ma) then
    some ⟨.Lz,[(id,some {ob with rows:=R})],[],o1++o2++[ob.rows[row]?=some Mv,ob.rows.set row (Mv.take off++c.cells++Mv.drop (off+n))=R],fc⟩else none
  |none=>none)
 |_,_,_,_=>none
def tt(ids:List Nat)(nb base j:Nat):Option Nat:=bif Nat.blt j nb then ids[j]? else some (base+(j-nb))
def QL(m:Nat→Option Nat):List Nat→List Ob→List (Nat×Option Ob)
 |i ::is,o ::os=>(i,some (iC m o)) ::QL m is os
 |_,_=>[]
def U5(ids:List Nat):List (Nat×Option Ob):=ids.map fun i=>(i,none)
def ZX(P:Program)(h:Nat→Option Ob)(base:Nat)(L:Nat→AV)(c:Call)(hs:List Hint):Option Wr:=
 match c.callee with
 | .value f =>
  match wP L f,E8 L True c.args.toList,hs with
  | .cm (.one (.fn (.func k) gP)),some (yM,o),.call ids r out ::fc =>
   match ZG h ids,RC out with
   |some wj,some wk =>
    bif Ba ids&&Nat.ble (CK wj) wk.length&&((wj.drop (CK wj)).all (fun x=>!x.box)&&(wk.take (CK wj)).all (fun x=>x.box))then
     some ⟨KM (tt ids (CK wj) base) r,QL (tt ids (CK wj) base) (ids.take (CK wj)) (wk.take (CK wj))++U5 (ids.drop (CK wj)),
      (wk.drop (CK wj)).map (iC (tt ids (CK wj) base)),o++[dv P k ((yM++gP.map Cm.one).map (Ys (posOf ids 0))) (wj.map (iC (posOf ids 0))) r out],fc⟩
    else none
   |_,_=>none
  |_,_,_=>none
 |_=>none
def Qd4(P:Program)(k:FuncId)(rest:List Cm)(sz:Nat)(e:TypeId)(rows R:List (List Lf)):Prop:=
 Ij P k=true∧R.length=rows.length∧
 (∀ (w:World) (M:Nat→Prop) (A:Option Addr) (gX:List Value),rows=[]→(∀ b,M b→b<w.heap.size)→Rs (CR w M (fun _=>none)) rest gX →
  Calls P k (.slice A 0 0 ::gX).toArray w fun ex w'=>ex=.returned (.tuple #[])∧Below w.heap.size w w')∧
 ∀(w:World) (M:Nat→Prop) (b C:Nat) (cur:Array Value) (gX:List Value),(∀c,M c→c<w.heap.size)→¬M b→b<w.heap.size→(∀c cs,(c,cs)∈Rv→M c∧c<w.heap.size∧∃t s,w.heap[c]?=some (.cells cs t s))→
  w.heap[b]?=some (.cells cur e (0,0))→cur.size=C*sz→rows.length≤C→C≤maxLen→
  (∀(i:Nat) (c:List Lf),rows[i]?=some c→c.length=sz∧∀(j:Nat) (l:Lf),c[j]?=some l→∃v,cur[i*sz+j]?=some v∧IR w M l v)→Rs (CR w M (fun _=>none)) rest gX→
  Calls P k (.slice (some ⟨b,0,none⟩) rows.length C ::gX).toArray w fun ex w'=>ex=.returned (.tuple #[])∧w'.os=w.os∧w'.tape=w.tape∧w'.output=w.output∧w.heap.size≤w'.heap.size∧(∀c,c<w.heap.size→c≠b→w'.heap[c]?=w.heap[c]?)∧
   ∃Qb4:Array Value,w'.heap[b]?=some (.cells Qb4 e (0,0))∧Qb4.size=C*sz∧∀(i:Nat) (c:List Lf),R[i]?=some c→c.length=sz∧∀(j:Nat) (l:Lf),c[j]?=some l→∃v,Qb4[i*sz+j]?=some v∧IR w M l v
def ZY(P:Program)(h:Nat→Option Ob)(L:Nat→AV)(c:Call)(hs:List Hint):Option Wr:=
 match c.callee with
 | .value f =>
  (match wP L f,E8 L True c.args.toList,hs with
  | .cm (.one (.fn (.func k) [])),some (.one (.os id sz off len) ::rest,o),.rows R ::fc =>
   (match h id with
   | some ob=>bif off == 0&&!ob.box&&ob.sz == sz&&rest.all Ke then
     some ⟨.Lz,[(id,some {ob with rows:=R})],[],o++[ob.rows.length=len,Qd4 P k rest ob.sz ob.Ey ob.rows R],fc⟩else none
   |none=>none)
  |_,_,_=>none)
 |_=>none
def QfG(P:Program)(h:Nat→Option Ob)(L:Nat→AV)(t:TypeId)(m k v:Operand)(hs:List Hint):Option Wr:=
 match P.underlying t,nX True (wP L m),nX True (wP L k),nX True (wP L v),hs with
 |some (.map kt _),some (.one (.mp id),o1),some (kl,o2),some (.one vl,o3),.rows R ::fc =>
  (match h id with
  |some ob=>(match DM ob.rows with
   |some rs=>bif ob.box&&Ma vl&&FJ P kt kl then some ⟨.Lz,[(id,some {ob with rows:=[] :: [] ::R})],[],o1++o2++o3++[zZ rs kl.cells vl=some R],fc⟩else none
   |none=>none)
  |none=>none)
 |_,_,_,_,_=>none
def QfF(P:Program)(h:Nat→Option Ob)(L:Nat→AV)(t:TypeId)(x hi:Operand)(hs:List Hint):Option Wr:=
 match nX True (wP L x),nX True (wP L hi),p9 P t,hs with
 |some (.one (.os id sz off len),o1),some (.one (.int _ n),o2),some e,.rows R ::fc =>
  (match h id with
  | some ob=>bif off == 0&&ob.sz == sz&&!ob.box&&Ar P e == some sz then
    some ⟨one (.os id sz 0 R.length),[(id,some {ob with rows:=R})],[],o1++o2++[ob.rows.length=len,0≤n,n≤ob.rows.length,ob.rows.take n.toNat=R],fc⟩else none
  |none=>none)
 |_,_,_,_=>none
def wop(P:Program)(h:Nat→Option Ob)(base:Nat)(L:Nat→AV)(op:Op)(hs:List Hint):Option Wr:=
 match op with
 | .store t a x=>(match Uo P h L t a x hs with
  |some r=>some r
  |none=>OP P h L t a x hs)
 | .mapUpdate t m k v=>QfG P h L t m k v hs
 | .slice t x none (some hi) none=>QfF P h L t x hi hs
 | .call c =>
  (match c.callee with
  | .builtin .append=>OO P h base L c hs
  |_=>(match ZX P h base L c hs with
   |some r=>some r
   |none=>ZY P h L c hs))
 |_=>none
def mop(P:Program)(H:List (Option Ob))(L:Nat→AV)(op:Op)(hs:List Hint):Option Mes:=
 match op with
 | .store t a x =>
  (match nX True (wP L a),nX True (wP L x),Ar P t with
  |some (.one (.op id sz row off),o),some (c,o'),some n =>
   (match hl H id with
   |some ob =>
    bif ob.sz == sz&&n == c.cells.length then
     (match ob.box,ob.rows,hs with
     |true,[cells],_=>bif row == 0&&Nat.ble (off+n) cells.length then some ⟨.Lz,H.set id (some {ob with rows:=[cells.take off++c.cells++cells.drop (off+n)]}),o++o',hs⟩else none
     |false,rows,.cells Mv :: .rows R ::fc =>
      bif Nat.ble (off+n) Mv.length&&c.cells.all Ma then
       some ⟨.Lz,H.set id (some {ob with rows:=R}),o++o'++[rows[row]?=some Mv,rows.set row (Mv.take off++c.cells++Mv.drop (off+n))=R],fc⟩
      else none
     |_,_,_=>none)else none
   |none=>none)
  |_,_,_=>none)
 | .call c =>
  (match c.callee with
  | .builtin .copy =>
   (match E8 L True c.args.toList,c.argTypes.toList,hs with
   |some ([.one (.os id sz off len),.one x],o),[t,t'],.rows R :: .num n ::fc =>
    (match p9 P t,hl H id,rowsOf (hl H) x with
    |some e,some ob,some (W6,new,o') =>
     (match P.info? e with
     |some i =>
      bif t == t'&&off == 0&&sz == i.size&&ob.sz == sz&&!ob.box&&(W6 == sz||new.isEmpty)&&!Ud id x then
       some ⟨one (.int .i64 n),H.set id (some {ob with rows:=R}),o++o'++[ob.rows.length=len,min new.length ob.rows.length=n,new.take n++ob.rows.drop n=R],fc⟩
      else none
     |none=>none)
    |_,_,_=>none)
   |_,_,_=>none)
  |_=>none)
 |_=>none
def XD(id sz:Nat)(rows:List (List Lf)):Lf→Lf×List Prop
 | .os i s off len=>bif i == id&&s == sz&&off == 0 then(.sl false sz rows,[rows.length=len])else(.os i s off len,[])
 |l=>(l,[])
def Pn(id sz:Nat)(cells:List Lf):Lf→Lf×List Prop
 | .op i s row off=>bif i == id&&row == 0 then(.ip cells off,[])else(.op i s row off,[])
 | .bs i n s=>bif i == id&&(n*s == cells.length)then(.sl false s (chunk s n cells),[])else(.bs i n s,[])
 |l=>(l,[])
def Yr(id n:Nat):Lf→Lf×List Prop
 | .os i s off len=>bif i == id&&off == 0 then(.os i s off n,[len=n])else(.os i s off len,[])
 |l=>(l,[])
section
variable (f : Lf → Lf × List Prop)
def Co:List Lf→List Lf×List Prop
 | []=>([],[])
 |l ::r=>((f l).1 ::(Co r).1,(f l).2++(Co r).2)
def gmC:Cm→Cm×List Prop
 | .one l=>(.one (f l).1,(f l).2)
 | .agg ls=>(.agg (Co f ls).1,(Co f ls).2)
def XF:List Cm→List Cm×List Prop
 | []=>([],[])
 |c ::r=>((gmC f c).1 ::(XF r).1,(gmC f c).2++(XF r).2)
def Qal:AV→AV×List Prop
 | .cm c=>(.cm (gmC f c).1,(gmC f c).2)
 | .jx cs=>(.jx (XF f cs).1,(XF f cs).2)
 |v=>(v,[])
def sG:List (Nat×AV)→List (Nat×AV)×List Prop
 | []=>([],[])
 |(t,v) ::r=>((t,(Qal f v).1) ::(sG r).1,(Qal f v).2++(sG r).2)
def xn:List (List Lf)→List (List Lf)×List Prop
 | []=>([],[])
 |c ::r=>((Co f c).1 ::(xn r).1,(Co f c).2++(xn r).2)
def To:Option Ob→Option Ob×List Prop
 |some ob=>bif ob.box&&!isMap ob then(some {ob with rows:=(xn f ob.rows).1},(xn f ob.rows).2)else(some ob,[])
 |none=>(none,[])
def Ut:List (Option Ob)→List (Option Ob)×List Prop
 | []=>([],[])
 |o ::r=>((To f o).1 ::(Ut r).1,(To f o).2++(Ut r).2)
end
def wkL(sz:Nat):Lf→Option Lf
 | .cB=>some (.sl false sz [])
 | .sl _ s rows=>some (.sl false s rows)
 |_=>none
def wkC(k sz:Nat):Cm→Option Cm
 | .one l=>bif k == 0 then(wkL sz l).map .one else none
 | .agg ls=>match ls[k]? with
  |some l=>(wkL sz l).map fun l'=>.agg (ls.set k l')
  |none=>none
structure SS where
 N:Nat
 L:List (Nat×AV)
 H:List (Option Ob)
def ghost:List Hint→SS→Option (SS×List Prop×List Hint)
 | .wait 0 ::hs,σ=>ghost hs σ
 | .wait (n+1) ::hs,σ=>some (σ,[],.wait n ::hs)
 | .jn id ::hs,σ =>
  (match hl σ.H id with
  |some ob=>bif ob.box then none else
   match ghost hs ⟨σ.N,(sG (XD id ob.sz ob.rows) σ.L).1,(Ut (XD id ob.sz ob.rows) (σ.H.set id none)).1⟩with
   |some (σ',o,fc)=>some (σ',(sG (XD id ob.sz ob.rows) σ.L).2++(Ut (XD id ob.sz ob.rows) (σ.H.set id none)).2++o,fc)
   |none=>none
  |none=>none)
 | .Qcd id ::hs,σ =>
  (match hl σ.H id with
  |some ob=>(match ob.box,ob.rows with
   |true,[cells]=>bif cells.all Ma then
    (match ghost hs ⟨σ.N,(sG (Pn id ob.sz cells) σ.L).1,(Ut (Pn id ob.sz cells) (σ.H.set id none)).1⟩with
    |some (σ',o,fc)=>some (σ',(sG (Pn id ob.sz cells) σ.L).2++(Ut (Pn id ob.sz cells) (σ.H.set id none)).2++o,fc)
    |none=>none)else none
   |_,_=>none)
  |none=>none)
 | .uG id n ::hs,σ =>
  (match ghost hs ⟨σ.N,(sG (Yr id n) σ.L).1,(Ut (Yr id n) σ.H).1⟩ with
   |some (σ',o,fc)=>some (σ',(sG (Yr id n) σ.L).2++(Ut (Yr id n) σ.H).2++o,fc)
   |none=>none)
 | .sg t k sz ::hs,σ =>
  (match look σ.L t with
  | .cm c=>(match wkC k sz c with
   |some c'=>ghost hs ⟨σ.N,(t,.cm c') ::σ.L,σ.H⟩
   |none=>none)
  |_=>none)
 | .fj id k sz ::hs,σ =>
  (match hl σ.H id with
  |some ob=>(match ob.box,ob.rows with
   |true,[cells]=>(match cells[k]? with
    |some l=>(match wkL sz l with
     |some l'=>ghost hs ⟨σ.N,σ.L,σ.H.set id (some {ob with rows:=[cells.set k l']})⟩
     |none=>none)
    |none=>none)
   |_,_=>none)
  |none=>none)
 | .kH t sz e ::hs,σ =>
  (match look σ.L t with
  | .cm (.one .cB)=>bif sz == 0 then none else ghost hs ⟨σ.N,(t,one (.os σ.H.length sz 0 0)) ::σ.L,σ.H++[some ⟨false,sz,e,[]⟩]⟩
  |_=>none)
 | .tV id k sz e ::hs,σ =>
  (match hl σ.H id with
  |some ob=>(match ob.box,ob.rows with
   |true,[cells]=>(match cells[k]? with
    |some .cB=>bif sz == 0 then none else ghost hs ⟨σ.N,σ.L,(σ.H.set id (some {ob with rows:=[cells.set k (.os σ.H.length sz 0 0)]}))++[some ⟨false,sz,e,[]⟩]⟩
    |_=>none)
   |_,_=>none)
  |none=>none)
 |hs,σ=>some (σ,[],hs)
structure St where
 σ:SS
 fl:List Prop
 hs:List Hint
def gdv(p:Prop):AV→Option AV
 | .cm c=>some (.gd p c)
 |_=>none
def KI(d:Option Nat)(v:AV)(L:List (Nat×AV)):List (Nat×AV):=
 match d with
 |some t=>(t,v) ::L
 |none=>L
def dop(P:Program)(h:Nat→Option Ob)(base:Nat)(L:Nat→AV)(op:Op)(hs:List Hint):Option Lv:=
 match yx P h base True L op hs with
 |some r=>some r
 |none=>match op with
  | .call c=>match O7 P h L c hs with
   |some r=>some r
   |none=>S4 P base L c hs
  |_=>none
def und:AV:=.gd False (.one (.bool false))
def Js(P:Program)(o:Oper)(σ:SS)(hs:List Hint):Option St:=
 match dop P (hl σ.H) σ.H.length (look σ.L) o.op hs with
 |some r=>some ⟨⟨σ.N,KI o.dst r.v σ.L,σ.H++r.news.map some⟩,r.fl,r.hs⟩
 |none=>match mop P σ.H (look σ.L) o.op hs with
  |some r=>some ⟨⟨σ.N,KI o.dst r.v σ.L,r.H⟩,r.fl,r.hs⟩
  |none=>match wop P (hl σ.H) σ.H.length (look σ.L) o.op hs with
   |some r=>some ⟨⟨σ.N,KI o.dst r.v σ.L,Wk σ.H r.yu++r.news.map some⟩,r.fl,r.hs⟩
   |none=>none
def HW(N:Nat):Option Nat→Bool
 |some d=>Nat.blt d N
 |none=>true
def YH(P:Program)(l:Array Oper)(o:Oper)(σ:SS)(hs:List Hint):Option St:=
 bif !HW σ.N o.dst then none else
 match o.guard with
 |none=>Js P o σ hs
 |some (j,want) =>
  match((l[j]?).bind (·.dst)).map (look σ.L),hs with
  |some (.cm (.one (.bool b))),.bit t ::fc =>
   bif t == want then(Js P o σ fc).map fun r=>{r with fl:=(b=t) ::r.fl}
   else some ⟨⟨σ.N,KI o.dst und σ.L,σ.H⟩,[b=t],fc⟩
  |some (.gd p (.one (.bool b))),.bit t ::fc =>
   bif t == want then(Js P o σ fc).map fun r=>{r with fl:=(p∧b=t) ::r.fl}
   else some ⟨⟨σ.N,KI o.dst und σ.L,σ.H⟩,[p∧b=t],fc⟩
  |some (.gd p (.one (.bool b))),.skip ::fc=>some ⟨⟨σ.N,KI o.dst und σ.L,σ.H⟩,[¬p],fc⟩
  |some (.cm (.one (.bool b))),.spec ::fc =>
   (match yx P (hl σ.H) σ.H.length (b=want) (look σ.L) o.op fc with
   |some r=>bif r.news.isEmpty then(gdv (b=want) r.v).map fun v=>⟨⟨σ.N,KI o.dst v σ.L,σ.H⟩,r.fl,r.hs⟩else none
   |none=>none)
  |some (.gd p (.one (.bool b))),.spec ::fc =>
   (match yx P (hl σ.H) σ.H.length (p∧b=want) (look σ.L) o.op fc with
   |some r=>bif r.news.isEmpty then(gdv (p∧b=want) r.v).map fun v=>⟨⟨σ.N,KI o.dst v σ.L,σ.H⟩,r.fl,r.hs⟩else none
   |none=>none)
  |_,_=>none
def ze(P:Program)(l:Array Oper):List Oper→SS→List Hint→Option St
 | [],σ,hs=>some ⟨σ,[],hs⟩
 |o ::rest,σ,hs =>
  match ghost hs σ with
  |some (σ0,o0,XU) =>
   match YH P l o σ0 XU with
   |some s=>match ze P l rest s.σ s.hs with
    |some s'=>some ⟨s'.σ,o0++s.fl++s'.fl,s'.hs⟩
    |none=>none
   |none=>none
  |none=>none
def Y2(P:Program)(l:Array Oper)(o:Oper)(h:Nat→Option Ob)(base:Nat)(L:Nat→AV)(hs:List Hint):Option Lv:=
 match o.guard with
 |none=>dop P h base L o.op hs
 |some (j,want) =>
  match((l[j]?).bind (·.dst)).map L,hs with
  |some (.cm (.one (.bool b))),.bit t ::fc =>
   bif t == want then(dop P h base L o.op fc).map fun r=>{r with fl:=(b=t) ::r.fl}
   else some ⟨und,[],[b=t],fc⟩
  |some (.gd p (.one (.bool b))),.skip ::fc=>some ⟨und,[],[¬p],fc⟩
  |some (.cm (.one (.bool b))),.spec ::fc =>
   (match yx P h base (b=want) L o.op fc with
   |some r=>bif r.news.isEmpty then(gdv (b=want) r.v).map fun v=>⟨v,[],r.fl,r.hs⟩else none
   |none=>none)
  |_,_=>none
structure Dn where
 i:Nat
 dst:Option Nat
 v:AV
 base:Nat
 news:List Ob
 yu:List (Nat×Option Ob)
 rd:List (Nat×Nat×Nat×List Lf)
def iy(o:Oper):List Nat:=(o.after.toList.filter fun e=>Region.binds .any e).map (·.on)
def xU(L:List (Nat×AV))(kT:List Nat)(S:Nat→Bool):List Dn→Nat→AV
 | [],t=>bif kT.contains t then .Lz else look L t
 |d ::r,t=>bif d.dst == some t&&S d.i then d.v else xU L kT S r t
def wU(H:List (Option Ob))(S:Nat→Bool):List Dn→Nat→Option Ob
 | [],id=>hl H id
 |d ::r,id=>bif Nat.ble d.base id&&Nat.blt id (d.base+d.news.length)then(bif S d.i then d.news[id-d.base]? else none)else wU H S r id
def td(S:Nat→Bool):List Dn→Nat→Option (Option Ob)
 | [],_=>none
 |d ::r,id=>match bif S d.i then qS d.yu id else none with
  |some ob=>some ob
  |none=>td S r id
def nd(H:List (Option Ob))(S:Nat→Bool)(l:List Dn)(id:Nat):Option Ob:=
 match td S l id with
 |some ob=>ob
 |none=>wU H S l id
def O9:List (Nat×Nat)→Nat→Option Nat
 | [],_=>none
 |(u,j) ::r,id=>bif u == id then some j else O9 r id
def QbS(l:Array Oper)(i j:Nat):Bool:=(iy (l.getD j default)).any fun k=>k == i||(iy (l.getD k default)).contains i
def view(l:Array Oper)(cl:List (Nat×Nat))(i:Nat)(h:Nat→Option Ob)(id:Nat):Option Ob:=
 match O9 cl id with
 |some j=>bif j == i then h id else(match h id with
  |some ob=>bif !ob.box&&QbS l i j then some ob else none
  |none=>none)
 |none=>h id
def zk(o:Oper):Bool:=match o.guard with
 |none=>true
 |some _=>false
def Qdj(P:Program)(H:List (Option Ob))(L:Nat→AV)(op:Op):Option (AV×(Nat×Nat×Nat×List Lf)×List Prop):=
 match op with
 | .load t a =>
  (match nX True (wP L a),Ar P t,yL P t with
  |some (.one (.op id sz row off),o),some n,some r =>
   (match hl H id with
   |some ob=>(match ob.box,ob.rows with
    |true,[cells]=>bif ob.sz == sz&&row == 0&&(r||n == 1)then(tH r n off cells).map fun c=>(.cm c,(id,off,sz,(cells.drop off).take n),o)else none
    |_,_=>none)
   |none=>none)
  |_,_,_=>none)
 |_=>none
def rdP(q:Nat×Nat×Nat×List Lf):Option Ob→Prop
 |some ob=>(ob.box,ob.sz,ob.rows.map fun cs=>(cs.drop q.2.1).take q.2.2.2.length)=(true,q.2.2.1,[q.2.2.2])
 |none=>False
def V6(q:Nat×Nat×Nat×List Lf):List (Nat×Option Ob)→List Prop
 | []=>[]
 |(u,o) ::r=>bif u == q.1 then rdP q o ::V6 q r else V6 q r
def Sy(q:Nat×Nat×Nat×List Lf):List Dn→List Prop
 | []=>[]
 |d ::r=>V6 q d.yu++Sy q r
def Qfp(full:List Dn):List (Nat×Nat×Nat×List Lf)→List Prop
 | []=>[]
 |q ::r=>Sy q full++Qfp full r
def Sw(full:List Dn):List Dn→List Prop
 | []=>[]
 |d ::r=>Qfp full d.rd++Sw full r
def dgo(P:Program)(l:Array Oper)(σ:SS)(kT:List Nat)(cl:List (Nat×Nat)):Nat→List Oper→List Dn→Nat→List Hint→Option (List Dn×Nat×List Prop×List Hint)
 |_,[],done,base,hs=>some (done,base,[],hs)
 |i,o ::rest,done,base,hs =>
  bif !HW σ.N o.dst then none else
  match Y2 P l o (view l cl i (wU σ.H (iy o).contains done)) base (xU σ.L kT (iy o).contains done) hs with
  |some r=>match dgo P l σ kT cl (i+1) rest (⟨i,o.dst,r.v,base,r.news,[],[]⟩ ::done) (base+r.news.length) r.hs with
   |some (d,b,ob,fc)=>some (d,b,r.fl++ob,fc)
   |none=>none
  |none=>match wop P (view l cl i (wU σ.H (iy o).contains done)) base (xU σ.L kT (iy o).contains done) o.op hs with
   | some r=>bif zk o&&r.yu.all (fun u=>O9 cl u.1 == some i) then
     (match dgo P l σ kT cl (i+1) rest (⟨i,o.dst,r.v,base,r.news,r.yu,[]⟩ ::done) (base+r.news.length) r.hs with
     |some (d,b,ob,fc)=>some (d,b,r.fl++ob,fc)
     |none=>none)else none
   |none=>match Qdj P σ.H (xU σ.L kT (iy o).contains done) o.op with
    | some (v,q,Nw)=>bif zk o then
      (match dgo P l σ kT cl (i+1) rest (⟨i,o.dst,v,base,[],[],[q]⟩ ::done) base hs with
      |some (d,b,ob,fc)=>some (d,b,Nw++ob,fc)
      |none=>none)else none
    |none=>none
def dL(L:List (Nat×AV)):List Dn→List (Nat×AV)
 | []=>L
 |d ::r=>KI d.dst d.v (dL L r)
def dH(H:List (Option Ob)):List Dn→List (Option Ob)
 | []=>H
 |d ::r=>Wk (dH H r) d.yu++d.news.map some
def dstsOf(l:List Oper):List Nat:=l.filterMap (·.dst)
def XP(l:Array Oper)(n:Nat):Array Bool:=((List.range l.size).map fun i=>Nat.blt i n).toArray
def U7(l:Array Oper)(n:Nat):Bool:=
 Ba (dstsOf (l.toList.take n))&&Nat.ble n l.size &&
 ((l.toList.take n).zipIdx.all fun(o,i)=>(iy o).all fun j=>Nat.blt j i) &&
 (n == l.size||(Nat.blt n l.size&&Region.sinkB .any l n&&Region.chainB .any l n))&&Region.seqB .any l (l.size-n) n (XP l n)
def JR(P:Program)(l:Array Oper)(σ:SS)(hs:List Hint):Option St:=
 match hs with
 | .draw n cl ::fc =>
  bif P.follows .mixedOrders&&U7 l n then
   match dgo P l σ (dstsOf (l.toList.take n)) cl 0 (l.toList.take n) [] σ.H.length fc with
   |some (done,_,ob,Zm)=>(ze P l (l.toList.drop n) ⟨σ.N,dL σ.L done,dH σ.H done⟩ Zm).map fun s=>{s with fl:=ob++(Sw done done++s.fl)}
   |none=>none
  else none
 |_=>none
inductive It where
 |c (p:Nat)
 |b (id:Nat)
 |l (p:Nat)
 |s (p:Nat)
def child(k:Bool):Code→Code
 | .seq a b=>cond k b a
 | .cond _ a b=>cond k b a
 | .block _ b=>b
 | .loop b=>b
 | .scope b=>b
 |_=>.skip
def U1(body:Code):Nat→Nat→Code
 |0,_=>body
 |n+1,p=>bif Nat.ble p 1 then body else child (p % 2 == 1) (U1 body n (p / 2))
def cd(body:Code)(p:Nat):Code:=U1 body 300 p
def It.item(body:Code):It→Item
 | .c p=>.code (cd body p)
 | .b id=>.inBlock id
 | .l p=>.inLoop (cd body p)
 | .s p=>.inScope (cd body p)
def RO(id:Nat):List It→Option (List It)
 | []=>none
 | .b i ::k=>bif i == id then some k else RO id k
 |_ ::k=>RO id k
structure Cf where
 k:List It
 σ:SS
structure Rn where
 cf:Cf
 fl:List Prop
 hs:List Hint
def KG:Nat:=1809251394333065553493296640760748560207343510400633813116524750123642650624
def Qid(P:Program)(body:Code)(cf:Cf)(hs:List Hint):Option Rn:=
 match cf.k with
 | []=>none
 | .b _ ::k=>some ⟨⟨k,cf.σ⟩,[],hs⟩
 | .l p ::k=>some ⟨⟨.c p :: .l p ::k,cf.σ⟩,[],hs⟩
 | .s _ ::k=>some ⟨⟨k,cf.σ⟩,[],hs⟩
 | .c p ::k =>
  bif !(Nat.ble 1 p&&Nat.blt p KG)then none else
  match cd body p with
  | .skip=>some ⟨⟨k,cf.σ⟩,[],hs⟩
  | .seq _ _=>some ⟨⟨.c (2*p) :: .c (2*p+1) ::k,cf.σ⟩,[],hs⟩
  | .block id _=>some ⟨⟨.c (2*p) :: .b id ::k,cf.σ⟩,[],hs⟩
  | .loop _=>some ⟨⟨.c (2*p) :: .l (2*p) ::k,cf.σ⟩,[],hs⟩
  | .scope _=>some ⟨⟨.c (2*p) :: .s (2*p) ::k,cf.σ⟩,[],hs⟩
  | .label _=>some ⟨⟨k,cf.σ⟩,[],hs⟩
  | .cond c _ _ =>
   (match wP (look cf.σ.L) c,hs with
   | .cm (.one (.bool b)),.bit t ::fc=>some ⟨⟨.c (2*p+cond t 0 1) ::k,cf.σ⟩,[b=t],fc⟩
   |_,_=>none)
  | .exit id=>(RO id k).map fun k'=>⟨⟨k',cf.σ⟩,[],hs⟩
  | .region _ ops draw =>
   (bif draw then JR P ops cf.σ hs else ze P ops ops.toList cf.σ hs).map fun s=>⟨⟨k,s.σ⟩,s.fl,s.hs⟩
  |_=>none
def Wf(P:Program)(body:Code):Nat→Cf→List Hint→Option Rn
 |0,cf,hs=>some ⟨cf,[],hs⟩
 |n+1,cf,hs =>
  match ghost hs cf.σ with
  |some (σ0,o0,XU) =>
   match Qid P body ⟨cf.k,σ0⟩ XU with
   |some r=>match Wf P body n r.cf r.hs with
    |some r'=>some ⟨r'.cf,o0++r.fl++r'.fl,r'.hs⟩
    |none=>none
   |none=>none
  |none=>none
def cut(live ids:List Nat)(σ:SS):SS:=
 ⟨σ.N,live.map fun t=>(t,KM (posOf ids 0) (look σ.L t)),ids.map fun i=>(hl σ.H i).map (iC (posOf ids 0))⟩
def Qie(P:Program)(body:Code)(n:Nat)(live ids:List Nat)(cf:Cf)(hs:List Hint):Option (Cf×Prop):=
 match Wf P body n cf hs with
 |some r=>match ghost r.hs r.cf.σ with
  |some (σ,o,[])=>bif Ba ids then some (⟨r.cf.k,cut live ids σ⟩,c6 (r.fl++o))else none
  |_=>none
 |none=>none
def Qfq(L:Nat→AV)(h:Nat→Option Ob)(P:Program):ResultVar→Option Cm
 | .tmp t=>match L t with
  | .cm c=>some c
  |_=>none
 | .cell a t=>match L a,Ar P t,yL P t with
  | .cm (.one (.op id sz row off)),some n,some r=>(match h id with
   |some ob=>(match ob.box,ob.rows with
    |true,[cells]=>bif row == 0&&ob.sz == sz then tH r n off cells else none
    |_,_=>none)
   |none=>none)
  |_,_,_=>none
def ZL(L:Nat→AV)(h:Nat→Option Ob)(P:Program):List ResultVar→Option (List Cm)
 | []=>some []
 |x ::r=>match Qfq L h P x,ZL L h P r with
  |some c,some cs=>some (c ::cs)
  |_,_=>none
def Qdh:List Cm→AV
 | [c]=>.cm c
 |cs=>.jx cs
end
section
open Go.RowKit
def NA(Γ:bu)(σ:SS)(a:Act)(w:World):Prop:=
 a.tmps.size=σ.N∧a.defers=[]∧∃φ M,(∀t,AR w M φ (look σ.L t) (a.tmps.getD t undef))∧Wd Γ φ M (hl σ.H) w∧(∀id,σ.H.length≤id→φ id=none)
def Bv(fn:Func):Code:=fn.body.getD .skip
def KW(P:Program)(body:Code)(k:List It)(R:Exit→Act→World→Prop)(a:Act)(w:World):Prop:=
 ∀(b:Frame) (cs:List Frame),∃e a' w',R e a' w'∧Arrives P (lone (b.at a (k.map (It.item body))) cs w) b [] cs e a' w'
def RR(P:Program)(fn:Func)(Γ:bu)(r:AV)(H1:List (Option Ob)):Exit→Act→World→Prop:=fun e a' w' =>
 (e=.ret∨e=.normal)∧a'.defers=[]∧∃v φ' M',(results fn a'.tmps).run P w'=.ok v w'∧AR w' M' φ' r v∧Wd Γ φ' M' (hl H1) w'∧(∀id,H1.length≤id→φ' id=none)
def Go(P:Program)(fn:Func)(EV:List Nat)(Γ:bu)(r:AV)(H1:List (Option Ob))(cf:Cf):Prop:=
 (∀p∈Γ.pins,p.1∈EV)→∀a w,NA Γ cf.σ a w→KW P (Bv fn) cf.k (RR P fn Γ r H1) a w
def Ss(EV ids:List Nat):Bool:=EV.all fun i=>match ids[i]? with
 |some j=>i == j
 |none=>false
def Qgn:Code→Bool
 | .ret=>true
 |_=>false
def QbP(body:Code):List It→Bool
 | []=>true
 | .c p ::_=>Qgn (cd body p)
 |_=>false
def Qic(P:Program)(fn:Func)(n:Nat)(ids:List Nat)(cf:Cf)(hs:List Hint):Option (AV×List (Option Ob)×Prop):=
 match Wf P (Bv fn) n cf hs with
 |some r =>
  bif QbP (Bv fn) r.cf.k then
   match ghost r.hs r.cf.σ with
   |some (σ,o,[])=>match ZL (look σ.L) (hl σ.H) P fn.results.toList with
    |some cs=>bif Ba ids then some (KM (posOf ids 0) (Qdh cs),ids.map fun i=>(hl σ.H i).map (iC (posOf ids 0)),c6 (r.fl++o))else none
    |none=>none
   |_=>none
  else none
 |none=>none
def zw:Nat→List Cm→List (Nat×AV)
 |_,[]=>[]
 |i,c ::r=>(i,.cm c) ::zw (i+1) r
def O4:Nat→List Ob→List Nat
 |_,[]=>[]
 |i,o ::r=>cond o.box [i] []++O4 (i+1) r
section
variable {α β S E : Type}
def br(b:Bool)(x y:Option α):Option α:=match b with
 |true=>x
 |false=>y
def aR(o:Option α)(f:α→Option β):Option β:=match o with
 |some a=>f a
 |none=>none
def opt(o:Option α)(f:α→Option β)(g:Option β):Option β:=match o with
 |some a=>f a
 |none=>g
theorem UT{o:Option α}{f:α→Option β}{r:β}(h:aR o f=some r):∃a,o=some a∧f a=some r:=by
 cases o with
 |none=>cases h
 |some a=>exact⟨a,rfl,h⟩
def ef(p:Prop) [Decidable p] (x:Option α):Option α:=if p then x else none
theorem QbX{p:Prop} [Decidable p] {x:Option α}{r:α}(h:ef p x=some r):p∧x=some r:=by
 unfold ef at h;split at h
 ·exact⟨‹_›,h⟩
 ·cases h
def amb [DecidableEq α] (x y:Option α):Option α:=if x=y then x else none
theorem UM [DecidableEq α] {x y:Option α}{r:α}(h:amb x y=some r):x=some r∧y=some r:=by
 unfold amb at h;split at h
 ·rename_i e;exact⟨h,e▸h⟩
 ·cases h
theorem neE(f:α→β){l:List α}(h:l.isEmpty=false):l.map f≠[]:=by
 cases l with
 |nil=>cases h
 |cons a r=>simp
def qs(B:S→Option (S⊕E)):Nat→S→Option E
 |0,_=>none
 |n+1,s=>match B s with
  |some (.inl s')=>qs B n s'
  |some (.inr e)=>some e
  |none=>none
theorem R2(B:S→Option (S⊕E)){e:E}:∀(n k:Nat) (s:S),qs B n s=some e→qs B (n+k) s=some e
 |0,_,_,h=>by cases h
 |n+1,k,s,h=>by
  rw[show n+1+k=(n+k)+1 by omega]
  simp only[qs]at h ⊢;split at h
  ·exact R2 B n k _ h
  ·exact h
  ·cases h
def u9:Nat:=18446744073709551616
def aL(B:S→Option (S⊕E))(s:S):Option E:=qs B u9 s
theorem X6{B:S→Option (S⊕E)}{s:S}{e:E}(h:aL B s=some e):∃n,qs B n s=some e:=⟨_,h⟩
theorem ya{B:S→Option (S⊕E)}{s:S}{e:E}(n:Nat)(hn:n≤u9)(h:qs B n s=some e):aL B s=some e:=by
 have:=R2 B n (u9-n) s h;rwa [Nat.add_sub_cancel' hn]at this
theorem Qc1{B:S→Option (S⊕E)}(C:S→Prop)(D:E→Prop)(RZ:∀s x,B s=some x→(∀s',x=.inl s'→C s')→(∀e,x=.inr e→D e)→C s){s:S}{e:E}(h:aL B s=some e)(hD:D e):C s:=by
 obtain⟨n,hn⟩:=X6 h;clear h;induction n generalizing s with
 |zero=>cases hn
 |succ n ih =>
  simp only[qs]at hn;split at hn
  ·rename_i s' hs;exact RZ s _ hs (fun t ht=>by cases ht;exact ih hn) (fun t ht=>by cases ht)
  ·rename_i e' hs;exact RZ s _ hs (fun t ht=>by cases ht) (fun t ht=>by cases ht;cases hn;exact hD)
  ·cases hn
end
section
variable {K V : Type}
def nY(eq:K→K→Bool):List (K×V)→K→V→V
 | [],_,z=>z
 |p ::r,k,z=>bif eq k p.1 then p.2 else nY eq r k z
def Kw(eq:K→K→Bool):List (K×V)→K→Bool
 | [],_=>false
 |p ::r,k=>bif eq k p.1 then true else Kw eq r k
def yD(eq:K→K→Bool):List (K×V)→K→V→List (K×V)
 | [],k,v=>[(k,v)]
 |p ::r,k,v=>bif eq k p.1 then(k,v) ::r else p ::yD eq r k v
end
section
variable {α β A B γ : Type}
def eO(n b:Nat):Prop:=n*b≤140737488355328
instance(n b:Nat):Decidable (eO n b):=inferInstanceAs (Decidable (n*b≤140737488355328))
def e_(l:List α)(i:Int)(x:α):List α:=l.set i.toNat x
def LJ(l m:List α):Nat:=min m.length l.length
def He(l m:List α):List α:=m.take (LJ l m)++l.drop (LJ l m)
def wS(l:List α)(lo hi:Int):Option (List α):=if 0≤lo∧lo≤hi∧hi≤l.length then some ((l.drop lo.toNat).take (hi.toNat-lo.toNat))else none
def Qg(s:ByteArray)(lo hi:Int):Option Unit:=if 0≤lo∧lo≤hi∧hi≤s.size then some ()else none
def za(n m:Int)(b:Nat)(z:α):Option (List α):=if 0≤n∧n≤m∧b*m≤140737488355328∧m≤9223372036854775807 then some (List.replicate n.toNat z)else none
def iD(e:A⊕B)(f:A→γ)(g:B→γ):γ:=match e with
 | .inl a=>f a
 | .inr b=>g b
theorem Qm4(f:α→β)(l:List α):(l.map f).length=l.length:=List.length_map ..
theorem getM(f:α→β){l:List α}{i:Int}{a:α}(h:bj l i=some a):bj (l.map f) i=some (f a):=by
 unfold bj at *;split at h
 ·rename_i h0;rw[if_pos h0,List.getElem?_map,h];rfl
 ·cases h
theorem fJ{l:List α}{i:Int}{a:α}(h:bj l i=some a):0≤i:=by
 unfold bj at h;split at h
 ·assumption
 ·cases h
theorem fI(f:α→β){l:List α}{i:Int}{a:α}(h:bj l i=some a):i<(l.map f).length:=by
 unfold bj at h;split at h
 ·have:=(List.getElem?_eq_some_iff.1 h).1;rw[List.length_map];omega
 ·cases h
theorem Qni(f:α→β){l:List α}{i:Int}{a:α}(h:bj l i=some a):(l.map f)[0+i.toNat]?=some (f a):=by
 have h1:=getM f h;unfold bj at h1;split at h1
 ·rw[Nat.zero_add];exact h1
 ·cases h1
theorem I7(f:α→β)(l:List α)(i:Int)(x:α):(l.map f).set (0+i.toNat) (f x)=(e_ l i x).map f:=by
 rw[Nat.zero_add];unfold e_;rw[List.map_set]
theorem getSet{l:List α}{i:Int}{a:α}(h:bj l i=some a)(x:α):bj (e_ l i x) i=some x:=by
 unfold bj at *;split at h
 ·rename_i h0;have:=(List.getElem?_eq_some_iff.1 h).1;rw[if_pos h0];unfold e_;rw[List.getElem?_set_self this]
 ·cases h
theorem t_(f:α→β)(l:List α)(i:Int)(x:α):(l.map f).length=((e_ l i x).map f).length:=by simp [e_]
theorem QhX(f:α→β)(l m:List α):(l.map f).length=((He l m).map f).length:=by simp [He,LJ];omega
theorem Qi7(f:α→β)(l m:List α):l.map f++m.map f=(l++m).map f:=List.map_append.symm
theorem neM(f:α→β)(l:List α)(h:l≠[]):l.map f≠[]:=by simpa using h
theorem neA(f:α→β)(l m:List α)(h:m≠[]):m.map f=[]→l.map f=[]:=fun h'=>absurd h' (neM f m h)
theorem neZ(f:α→β)(m:List α):m.map f=[]→([]:List β)=[]:=fun _=>rfl
theorem Qfc(f:α→β){l:List α}{b:Nat}(h:eO l.length b):(l.map f).length*b≤140737488355328:=by rw[List.length_map];exact h
theorem ZD(f:α→β){l:List α}{b:Nat}(hb:0<b)(h:eO l.length b):(l.map f).length≤9223372036854775807:=by
 rw[List.length_map];unfold eO at h;have:=Nat.le_mul_of_pos_right l.length hb;omega
theorem Qm6{b:Bool}(h:b=false):(!b)=true:=by rw[h];rfl
theorem Qm5{b:Bool}(h:b=true):(!b)=false:=by rw[h];rfl
theorem Qlj(f:α→β)(l m:List α):min (m.map f).length (l.map f).length=LJ l m:=by simp [LJ]
theorem Qlk(f:α→β)(l m:List α):(m.map f).take (LJ l m)++(l.map f).drop (LJ l m)=(He l m).map f:=by simp [He,List.map_take,List.map_drop]
section
variable {l v : List α} {lo hi : Int}
theorem Qh(h:wS l lo hi=some v):(0≤lo∧lo≤hi∧hi≤l.length)∧(l.drop lo.toNat).take (hi.toNat-lo.toNat)=v:=by
 unfold wS at h;split at h
 ·exact⟨‹_›,Option.some.inj h⟩
 ·cases h
theorem sl1(h:wS l lo hi=some v):0≤lo:=(Qh h).1.1
theorem sl2(h:wS l lo hi=some v):lo≤hi:=(Qh h).1.2.1
theorem sl3(f:α→β)(h:wS l lo hi=some v):hi≤(l.map f).length:=by rw[List.length_map];exact(Qh h).1.2.2
theorem sl6(f:α→β)(h:wS l lo hi=some v):((l.map f).drop lo.toNat).take (hi.toNat-lo.toNat)=v.map f:=by
 unfold wS at h;split at h
 ·rw[←Option.some.inj h,List.map_take,List.map_drop]
 ·cases h
theorem QkA(f:α→β)(h:wS l lo (az l)=some v):lo≤(l.map f).length:=by rw[List.length_map];exact sl2 h
theorem Qnl(f:α→β)(h:wS l 0 hi=some v):(l.map f).take hi.toNat=v.map f:=by
 have:=sl6 f h;simpa using this
theorem QkB(f:α→β)(h:wS l lo (az l)=some v):((l.map f).drop lo.toNat).take (((l.map f).length:Int).toNat-lo.toNat)=v.map f:=by
 rw[List.length_map];exact sl6 f h
theorem MM{s:ByteArray}{u:Unit}(h:Qg s lo hi=some u):0≤lo∧lo≤hi∧hi≤s.size:=by
 unfold Qg at h;split at h
 ·assumption
 ·cases h
theorem ss1{s:ByteArray}{u:Unit}(h:Qg s lo hi=some u):0≤lo:=(MM h).1
theorem ss2{s:ByteArray}{u:Unit}(h:Qg s lo hi=some u):lo≤hi:=(MM h).2.1
theorem ss3{s:ByteArray}{u:Unit}(h:Qg s lo hi=some u):hi≤s.size:=(MM h).2.2
end
section
variable {n m : Int} {b : Nat} {z : α} {l : List α}
theorem Oy(h:za n m b z=some l):(0≤n∧n≤m∧b*m≤140737488355328∧m≤9223372036854775807)∧List.replicate n.toNat z=l:=by
 unfold za at h;split at h
 ·exact⟨‹_›,Option.some.inj h⟩
 ·cases h
theorem WZ(h:za n m b z=some l):0≤n:=(Oy h).1.1
theorem X9(h:za n m b z=some l):n≤m:=(Oy h).1.2.1
theorem W0(h:za n m b z=some l):m≤9223372036854775807:=(Oy h).1.2.2.2
theorem W4(h:za n m b z=some l):b*m≤140737488355328:=(Oy h).1.2.2.1
theorem W5(f:α→β)(h:za n m b z=some l):List.replicate n.toNat (f z)=l.map f:=by
 unfold za at h;split at h
 ·rw[←Option.some.inj h,List.map_replicate]
 ·cases h
end
end
end
section
variable {α β S E : Type}
def post(o:Option α)(Q:α→Prop):Prop:=∃a,o=some a∧Q a
theorem post.mono{o:Option α}{Q R:α→Prop}(h:post o Q)(hi:∀a,Q a→R a):post o R:=let⟨a,h1,h2⟩:=h;⟨a,h1,hi a h2⟩
theorem post.eq{o:Option α}{a:α}(h:post o (fun x=>x=a)):o=some a:=by obtain⟨x,h1,rfl⟩:=h;exact h1
@[simp] theorem aP{a:α}{Q:α→Prop}:post (some a) Q↔Q a:=⟨fun⟨_,h1,h2⟩=>by cases h1;exact h2,fun h=>⟨a,rfl,h⟩⟩
@[simp] theorem QiS{Q:α→Prop}:post none Q↔False:=⟨fun⟨_,h1,_⟩=>by(cases h1),False.elim⟩
theorem a_{b:Bool}{x y:Option α}{Q:α→Prop}(h1:b=true→post x Q)(h2:b=false→post y Q):post (br b x y) Q:=by
 cases b
 ·exact h2 rfl
 ·exact h1 rfl
theorem ba{o:Option α}{f:α→Option β}{Q:β→Prop}{R:α→Prop}(h:post o R)(h2:∀a,R a→post (f a) Q):post (aR o f) Q:=by
 obtain⟨a,rfl,h1⟩:=h;exact h2 a h1
theorem uE{o:Option α}{f:α→Option β}{Q:β→Prop}(h:post o (fun a=>post (f a) Q)):post (aR o f) Q:=ba h fun _ h=>h
theorem bW{p:Prop} [Decidable p] {x:Option α}{Q:α→Prop}(h1:p)(h2:post x Q):post (ef p x) Q:=by
 unfold ef;rw[if_pos h1];exact h2
@[simp] theorem fW{x y:Option α}:br true x y=x:=rfl
@[simp] theorem jg{x y:Option α}:br false x y=y:=rfl
theorem bD{b:Bool}{x y:Option α}(h:b=true):br b x y=x:=by rw[h];rfl
theorem bq{b:Bool}{x y:Option α}(h:b=false):br b x y=y:=by rw[h];rfl
theorem JI{b:Bool}{x y:Option α}:br b x y=if b=true then x else y:=by cases b <;> rfl
@[simp] theorem ak{a:α}{f:α→Option β}:aR (some a) f=f a:=rfl
theorem ct{o:Option α}{a:α}{f:α→Option β}(h:o=some a):aR o f=f a:=by rw[h];rfl
theorem fg{p:Prop} [Decidable p] {x:Option α}(h:p):ef p x=x:=if_pos h
@[simp] theorem dw{A B γ:Type}{a:A}{f:A→γ}{g:B→γ}:iD (.inl a) f g=f a:=rfl
@[simp] theorem nQ{A B γ:Type}{b:B}{f:A→γ}{g:B→γ}:iD (.inr b) f g=g b:=rfl
theorem UN [DecidableEq α] {x:Option α}:amb x x=x:=by unfold amb;rw[if_pos rfl]
theorem QcK{B:S→Option (S⊕E)}(C:S→Prop)(m:S→Nat)(Q:E→Prop)
  (h:∀s,C s→post (B s) fun x=>(∀s',x=.inl s'→C s'∧m s'<m s)∧∀e,x=.inr e→Q e):∀(n:Nat) (s:S),C s→m s<n→post (qs B n s) Q:=by
 intro n;induction n with
 |zero=>intro s _ hm;omega
 |succ n ih =>
  intro s hs hm;obtain⟨x,hx,h1,h2⟩:=h s hs;simp only[qs,hx];cases x with
  |inl s' =>
   obtain⟨h3,h4⟩:=h1 s' rfl;exact ih s' h3 (by omega)
  |inr e=>exact⟨e,rfl,h2 e rfl⟩
theorem eJ{B:S→Option (S⊕E)}(C:S→Prop)(m:S→Nat){Q:E→Prop}{s:S}(hs:C s)(hm:m s<18446744073709551616)
  (h:∀s,C s→post (B s) fun x=>(∀s',x=.inl s'→C s'∧m s'<m s)∧∀e,x=.inr e→Q e):post (aL B s) Q:=QcK C m Q h _ s hs hm
theorem VB{B:S→Option (S⊕E)}{e:E}:∀(n:Nat) (st:Nat→S),(∀i,i<n→B (st i)=some (.inl (st (i+1))))→B (st n)=some (.inr e)→qs B (n+1) (st 0)=some e
 |0,st,_,he=>by simp only[qs,he]
 |n+1,st,hs,he=>by
  have h0:=hs 0 (by omega)
  rw[qs];rw[h0];exact VB n (fun i=>st (i+1)) (fun i hi=>hs (i+1) (by omega)) he
theorem il{B:S→Option (S⊕E)}{e:E}(n:Nat)(st:Nat→S)(hn:n<18446744073709551616)(hs:∀i,i<n→B (st i)=some (.inl (st (i+1))))(he:B (st n)=some (.inr e)):aL B (st 0)=some e:=
 ya (n+1) hn (VB n st hs he)
theorem bZ{x:S}{C:S→Prop}{Q:E→Prop}(h:C x):post (some (Sum.inl x:S⊕E)) fun y=>(∀s',y=.inl s'→C s')∧∀e,y=.inr e→Q e:=
 ⟨_,rfl,fun _ he=>by cases he;exact h,fun _ he=>by cases he⟩
theorem b5{x:E}{C:S→Prop}{Q:E→Prop}(h:Q x):post (some (Sum.inr x:S⊕E)) fun y=>(∀s',y=.inl s'→C s')∧∀e,y=.inr e→Q e:=
 ⟨_,rfl,fun _ he=>by(cases he),fun _ he=>by cases he;exact h⟩
end
section
variable {a b : Int}
theorem fp(h:-9223372036854775808≤a+b)(h':a+b≤9223372036854775807):aU .i64 a b=a+b:=IntWalk.i64_in _ ⟨h,h'⟩
theorem wT(h:-9223372036854775808≤a-b)(h':a-b≤9223372036854775807):dd .i64 a b=a-b:=IntWalk.i64_in _ ⟨h,h'⟩
theorem Qh0(h:-9223372036854775808≤a*b)(h':a*b≤9223372036854775807):oT .i64 a b=a*b:=IntWalk.i64_in _ ⟨h,h'⟩
theorem Qfk(h:-9223372036854775808≤a.tdiv b)(h':a.tdiv b≤9223372036854775807):so .i64 a b=a.tdiv b:=IntWalk.i64_in _ ⟨h,h'⟩
@[simp] theorem js:bh a b=true↔a<b:=by simp [bh]
@[simp] theorem yS:fT a b=true↔a≤b:=by simp [fT]
@[simp] theorem w4:dp a b=true↔b<a:=by simp [dp]
@[simp] theorem nk:cD a b=true↔b≤a:=by simp [cD]
@[simp] theorem kJ:cM a b=true↔a=b:=by simp [cM]
@[simp] theorem xb:cr a b=true↔a≠b:=by simp [cr]
@[simp] theorem jY:bh a b=false↔b≤a:=by simp [bh]
@[simp] theorem VH:fT a b=false↔b<a:=by simp [fT]
@[simp] theorem pL:dp a b=false↔a≤b:=by simp [dp]
@[simp] theorem Cn:cD a b=false↔a<b:=by simp [cD]
@[simp] theorem zC:cM a b=false↔a≠b:=by simp [cM]
@[simp] theorem yX:cr a b=false↔a=b:=by simp [cr]
theorem DN:we a b=max a b:=by unfold we;split <;> omega
@[simp] theorem Qnu{x y:Bool}:Im x y=true↔x=y:=by simp [Im]
@[simp] theorem Qnt{x y:Bool}:Im x y=false↔x≠y:=by simp [Im]
end
section
variable {α : Type} {l : List α} {i : Int}
theorem bC{k:Nat}{a:α}(h:l[k]?=some a):bj l (k:Int)=some a:=by
 unfold bj;rw[if_pos (by omega)];simpa using h
theorem A5(h0:0≤i)(h1:i<l.length):bj l i=some (l[i.toNat]'(by omega)):=by
 unfold bj;rw[if_pos h0];exact List.getElem?_eq_getElem (by omega)
theorem Qa1{Q:α→Prop}(h0:0≤i)(h1:i<l.length)(h:∀a,l[i.toNat]?=some a→Q a):post (bj l i) Q:=
 ⟨_,A5 h0 h1,h _ (List.getElem?_eq_getElem (by omega))⟩
theorem Ir{k:Nat}(h:k<l.length):bj l (k:Int)=some l[k]:=bC (List.getElem?_eq_getElem h)
@[simp] theorem QcU:az ([]:List α)=0:=rfl
theorem Qk8:az l=l.length:=rfl
end
def lI(n:Int):Lf:=.int .i64 n
def lL{α:Type}(sz:Nat)(l:List α)(e:α→List Lf):Lf:=.sl false sz (l.map e)
def lO{α:Type}(id sz:Nat)(l:List α)(e:α→List Lf):Lf:=.os id sz 0 (l.map e).length
end Go.Proofs.YtkcilfpbgjjjbaaGreatDoor
