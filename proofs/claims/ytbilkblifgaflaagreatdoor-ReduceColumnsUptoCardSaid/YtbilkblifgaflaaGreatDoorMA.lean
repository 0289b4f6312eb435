/- Part MA. -/
import Derived.WalkKit
import Derived.WalkSpells
import Derived.WalkLawsBesides
import Derived.StillTail
import Derived.Lib.Hide
import Derived.Deep.MidRow
import Derived.Deep.AppendSrc
import Derived.Great.BuildSlice
import Derived.KernelRfl
import Derived.Laws.BytesString
set_option linter.unusedSimpArgs false
set_option linter.unusedVariables false
set_option linter.unusedSectionVars false
namespace Go.Proofs.YtbilkblifgaflaaGreatDoor
inductive Lf where
 |any
 |int (k:IntKind) (n:Int)
 |bool (b:Bool)
 |str (s:ByteArray)
 |Uv
 |dO
 |ip (cells:List Lf) (off:Nat)
 |op (id sz row off:Nat)
 |sl (cl:Bool) (sz:Nat) (rows:List (List Lf))
 |os (id sz off len:Nat)
 |fn (f:Fn) (jW:List Lf)
 |mp (id:Nat)
inductive Cm where
 |one (l:Lf)
 |agg (ls:List Lf)
inductive AV where
 |cm (c:Cm)
 |o5 (cs:List Cm)
 |gd (p:Prop) (c:Cm)
 |RO
 |boo
structure Ob where
 box:Bool
 sz:Nat
 Mi:TypeId
 rows:List (List Lf)
inductive Hint where
 |bit (b:Bool)
 |spec
 |skip
 |cells (c:List Lf)
 |rows (r:List (List Lf))
 |num (n:Nat)
 |byte (b:UInt8)
 |ints (l:List Int)
 |draw (n:Nat) (cl:List (Nat×Nat))
 |call (ids:List Nat) (r:AV) (out:List (Option Ob))
 |wait (n:Nat)
 |kX (id:Nat)
 |Qk_ (id:Nat)
 |xo (id n:Nat)
 |rh (t k sz:Nat)
 |fW (id k sz:Nat)
 |lP (t:Nat) (sz:Nat) (e:TypeId)
 |nN (id cell:Nat) (sz:Nat) (e:TypeId)
def aY(k:IntKind)(a b:Int):Int:=k.wrap (a+b)
def dZ(k:IntKind)(a b:Int):Int:=k.wrap (a-b)
def m_(k:IntKind)(a b:Int):Int:=k.wrap (a*b)
def uw(k:IntKind)(a b:Int):Int:=k.wrap (a.tdiv b)
def C6(a b:Int):Int:=a.tmod b
def Sf(k:IntKind)(a b:Int):Int:=k.wrap (BitVec.ofInt k.bits a &&& BitVec.ofInt k.bits b).toNat
def XW(k:IntKind)(a b:Int):Int:=k.wrap (BitVec.ofInt k.bits a |||BitVec.ofInt k.bits b).toNat
def Qoy(k:IntKind)(a b:Int):Int:=k.wrap (BitVec.ofInt k.bits a ^^^ BitVec.ofInt k.bits b).toNat
def wG(k:IntKind)(a b:Int):Int:=k.wrap (BitVec.ofInt k.bits a &&& ~~~BitVec.ofInt k.bits b).toNat
def Pg(k:IntKind)(a b:Int):Int:=k.wrap (a*2 ^ min b.toNat k.bits)
def wZ(k:IntKind)(a b:Int):Int:=a.fdiv (2 ^ min b.toNat k.bits)
def zV(k:IntKind)(a:Int):Int:=k.wrap a
def aT(a b:Int):Bool:=decide (a<b)
def jD(a b:Int):Bool:=decide (a≤b)
def cQ(a b:Int):Bool:=decide (a>b)
def bZ(a b:Int):Bool:=decide (a≥b)
def bP(a b:Int):Bool:=a == b
def cA(a b:Int):Bool:=a != b
def zz(a b:Int):Int:=if b>a then b else a
def QlY(a b:Int):Int:=if b<a then b else a
def T0(a b:Bool):Bool:=a == b
def Jb(a b:ByteArray):Bool:=a.toList == b.toList
def ltS(a b:ByteArray):Bool:=Op.bytesLess a.toList b.toList
def cM(a b:ByteArray):ByteArray:=a++b
def bq{α:Type}(l:List α)(i:Int):Option α:=if 0≤i then l[i.toNat]? else none
def aC{α:Type}(l:List α):Int:=l.length
def xq(s:ByteArray):Int:=s.size
def Ru(s:ByteArray)(i:Int):Option UInt8:=if 0≤i then s[i.toNat]? else none
def I1(b:UInt8):Int:=b.toNat
def TC(n:Int):ByteArray:=Utf8.encode n
def zo(l:List Int):ByteArray:=⟨(l.map fun n=>UInt8.ofNat n.toNat).toArray⟩
def d_:List Prop→Prop
 | []=>True
 |p ::r=>p∧d_ r
def ofConst:Value→Option Lf
 | .int k n=>some (.int k n)
 | .bool b=>some (.bool b)
 | .string s=>some (.str s)
 | .pointer none=>some .Uv
 | .slice none 0 0=>some .dO
 | .nilFunc=>some .any
 | .func f first jW=>bif first.size == 0&&jW.size == 0 then some (.fn f [])else none
 |_=>none
def Fo:List Value→Option (List Lf)
 | []=>some []
 |v ::r=>match ofConst v,Fo r with
  |some l,some ls=>some (l ::ls)
  |_,_=>none
def Wv:Value→Option Cm
 | .agg cs=>(Fo cs.toList).map .agg
 |v=>(ofConst v).map .one
def look:List (Nat×AV)→Nat→AV
 | [],_=>.RO
 |(k,v) ::r,t=>bif k == t then v else look r t
def Au(L:Nat→AV):Operand→AV
 | .tmp t=>L t
 | .const v=>match Wv v with
  |some c=>.cm c
  |none=>.RO
 | .func f=>.cm (.one (.fn (.func f) []))
 | .global _=>.RO
def rO(g:Prop):AV→Option (Cm×List Prop)
 | .cm c=>some (c,[])
 | .gd p c=>some (c,[g→p])
 |_=>none
def Cm.cells:Cm→List Lf
 | .one l=>[l]
 | .agg ls=>ls
structure Pu where
 v:AV
 news:List Ob
 ic:List Prop
 hs:List Hint
def KI(P:Program)(t:TypeId):Option Nat:=(P.info? t).map (·.size)
def IJ(P:Program)(t:TypeId):Option Bool:=(P.underlying t).map TypeDesc.isRow
def wv(row:Bool)(n off:Nat)(cells:List Lf):Option Cm:=
 bif row then(bif ((cells.drop off).take n).length == n then some (.agg ((cells.drop off).take n))else none)
 else(cells[off]?).map .one
def Mv(P:Program)(t:TypeId):Option (List Lf):=
 match P.info? t with
 |some i=>match i.zero with
  |some z=>bif z.cells.size == i.size&&!(i.size == 0)then Fo z.cells.toList else none
  |none=>none
 |none=>none
def Qff(op:BinOp)(k:IntKind)(a b:Int):Option (Lf×List Prop):=
 match op with
 | .add=>some (.int k (aY k a b),[])
 | .sub=>some (.int k (dZ k a b),[])
 | .mul=>some (.int k (m_ k a b),[])
 | .quo=>some (.int k (uw k a b),[b≠0])
 | .rem=>some (.int k (C6 a b),[b≠0])
 | .and=>some (.int k (Sf k a b),[])
 | .or=>some (.int k (XW k a b),[])
 | .xor=>some (.int k (Qoy k a b),[])
 | .andNot=>some (.int k (wG k a b),[])
 | .eql=>some (.bool (bP a b),[])
 | .neq=>some (.bool (cA a b),[])
 | .lss=>some (.bool (aT a b),[])
 | .leq=>some (.bool (jD a b),[])
 | .gtr=>some (.bool (cQ a b),[])
 | .geq=>some (.bool (bZ a b),[])
 |_=>none
def Qfh(op:BinOp)(a b:ByteArray):Option (Lf×List Prop):=
 match op with
 | .add=>some (.str (cM a b),[a.size+b.size≤9223372036854775807])
 | .eql=>some (.bool (Jb a b),[])
 | .neq=>some (.bool (!Jb a b),[])
 | .lss=>some (.bool (ltS a b),[])
 |_=>none
def QfI:TypeDesc→Lf→Lf→Option Bool
 | .int _,.int k a,.int k' b=>bif decide (k=k')then some (bP a b)else none
 | .bool,.bool a,.bool b=>some (T0 a b)
 | .string,.str a,.str b=>some (a == b)
 |_,_,_=>none
def w9:List TypeDesc→List Lf→List Lf→Option Bool
 | [],[],[]=>some true
 |u ::us,x ::xs,y ::ys=>match QfI u x y,w9 us xs ys with
  |some a,some b=>some (a&&b)
  |_,_=>none
 |_,_,_=>none
def Jd(P:Program):Nat→List Field→Option (List TypeDesc)
 |_,[]=>some []
 | k,f :: fs=>bif f.offset == k&&!(f.name == "_")&&(IJ P f.type == some false) then
   match P.underlying f.type,Jd P (k+1) fs with
   |some u,some us=>some (u ::us)
   |_,_=>none
  else none
def Qb2(P:Program)(t:TypeId):Option (List TypeDesc):=
 match P.underlying t with
 |some (.struct fs)=>bif !P.stoodInHeld t&&!P.eqGuardType P.depth t then Jd P 0 fs.toList else none
 |_=>none
def QjY(P:Program)(t:TypeId):Option (List TypeDesc):=
 match P.underlying t with
 |some (.array n e)=>bif !P.eqGuardType P.depth t&&(IJ P e == some false)&&(KI P e == some 1)then(P.underlying e).map (List.replicate n)else none
 |_=>none
def QkP(P:Program)(op:BinOp)(t:TypeId):Cm→Cm→Option (Lf×List Prop)
 | .one (.int k a),.one (.int k' b) =>
  (match op with
  | .shl=>some (.int k (Pg k a b),[0≤b])
  | .shr=>some (.int k (wZ k a b),[0≤b])
  |_=>if k=k' then Qff op k a b else none)
 | .one (.str a),.one (.str b)=>Qfh op a b
 | .one (.bool a),.one (.bool b) =>
  (match op,P.underlying t with
  | .eql,some .bool=>some (.bool (T0 a b),[])
  | .neq,some .bool=>some (.bool (!T0 a b),[])
  |_,_=>none)
 | .agg xs,.agg ys =>
  (match Qb2 P t with
  |some us =>
   (match op,w9 us xs ys with
   | .eql,some e=>some (.bool e,[])
   | .neq,some e=>some (.bool (!e),[])
   |_,_=>none)
  |none=>(match QjY P t with
   |some us =>
    (match op,w9 us xs ys with
    | .eql,some e=>some (.bool e,[])
    | .neq,some e=>some (.bool (!e),[])
    |_,_=>none)
   |none=>none))
 |_,_=>none
def QbG:List Lf→List Lf→Bool
 | [],[]=>true
 |x ::xs,y ::ys=>(match x,y with
  | .int k a,.int k' b=>decide (k=k')&&a == b
  | .bool a,.bool b=>a == b
  | .str a,.str b=>a.size == 0&&b.size == 0
  | .dO,.sl false _ []=>true
  |_,_=>false)&&QbG xs ys
 |_,_=>false
def NJ(e:TypeId)(cells:List Lf):Ob:=⟨true,cells.length,e,[cells]⟩
def S3:Lf→Bool
 | .op ..=>false
 | .os ..=>false
 | .fn _ (_ ::_)=>false
 | .mp _=>false
 |_=>true
def QV(place:Nat→Option (Nat×Nat))(cells:List Lf):List (Nat×List Lf)→Option (List Lf)
 | []=>some cells
 |(i,v) ::rest=>match place i with
  |none=>none
  |some (off,size) =>
   bif v.length == size&&Nat.ble (off+size) cells.length then QV place (cells.take off++v++cells.drop (off+size)) rest
   else none
def Tm(L:Nat→AV)(g:Prop):List (Nat×Operand)→Option (List (Nat×List Lf)×List Prop)
 | []=>some ([],[])
 |(i,x) ::r=>match rO g (Au L x),Tm L g r with
  |some (c,o),some (cs,os)=>some ((i,c.cells) ::cs,o++os)
  |_,_=>none
def L8(L:Nat→AV)(g:Prop):List Operand→Option (List Cm×List Prop)
 | []=>some ([],[])
 |x ::r=>match rO g (Au L x),L8 L g r with
  |some (c,o),some (cs,os)=>some (c ::cs,o++os)
  |_,_=>none
def WT:Lf→Bool
 | .fn ..=>true
 |_=>false
def QbR:List Cm→Option (List Lf)
 | []=>some []
 | .one l ::r=>match QbR r with
  |some ls=>bif WT l then none else some (l ::ls)
  |none=>none
 | .agg _ ::_=>none
def placesOf(P:Program)(t:TypeId):Option (Nat→Option (Nat×Nat)):=
 match P.underlying t with
 |some (.array _ e)=>(P.info? e).map fun ie i=>some (i*ie.size,ie.size)
 |some (.struct fields) =>
  (fields.toList.mapM (fun f=>(P.info? f.type).map fun i=>(f.offset,i.size))).map fun ps i=>ps[i]?
 |_=>none
def chunk(sz:Nat):Nat→List Lf→List (List Lf)
 |0,_=>[]
 |n+1,l=>l.take sz ::chunk sz n (l.drop sz)
def sv(P:Program)(t:TypeId):Option TypeId:=
 match P.underlying t with
 |some (.slice e)=>some e
 |_=>none
def RZ(P:Program)(t:TypeId)(f:Nat):Option (Nat×Nat×Bool):=
 match P.underlying t with
 |some (.struct fs)=>match fs[f]? with
  |some fd=>match KI P fd.type,IJ P fd.type with
   |some n,some r=>bif n == 0 then none else some (fd.offset,n,r)
   |_,_=>none
  |none=>none
 |_=>none
def QaZ(h:Nat→Option Ob):Lf→Option (Lf×List Prop)
 | .os id sz off len=>match h id with
  |some ob=>bif off == 0&&!ob.box&&ob.sz == sz then some (.sl false sz ob.rows,[ob.rows.length=len])else none
  |none=>none
 | .op ..=>none
 | .fn ..=>none
 | .mp _=>none
 |l=>some (l,[])
def KU(h:Nat→Option Ob):List Lf→Option (List Lf×List Prop)
 | []=>some ([],[])
 |l ::r=>match QaZ h l,KU h r with
  |some (x,o),some (xs,os)=>some (x ::xs,o++os)
  |_,_=>none
def W0(h:Nat→Option Ob)(rows:List (List Lf))(sz len:Nat):Option (Lf×List Prop):=
 match rows with
 | [cells]=>(KU h cells).map fun p=>(.sl false sz [p.1],(1=len) ::p.2)
 |_=>none
def Ra(h:Nat→Option Ob):Lf→Option (Lf×List Prop)
 | .os id sz off len=>match h id with
  |some ob=>bif off == 0&&!ob.box&&ob.sz == sz then some (.sl false sz ob.rows,[ob.rows.length=len])else
   bif off == 0&&ob.box&&ob.sz == sz then W0 h ob.rows sz len else none
  |none=>none
 | .op id sz row off=>match h id with
  |some ob=>bif ob.box&&row == 0 then(match ob.rows with
   | [cells]=>bif cells.all S3 then some (.ip cells off,[])else none
   |_=>none)else none
  |none=>none
 | .fn ..=>none
 | .mp _=>none
 |l=>some (l,[])
def Ta(h:Nat→Option Ob):List Lf→Option (List Lf×List Prop)
 | []=>some ([],[])
 |l ::r=>match Ra h l,Ta h r with
  |some (x,o),some (xs,os)=>some (x ::xs,o++os)
  |_,_=>none
def Vz(h:Nat→Option Ob):Lf→Option (Lf×List Prop)
 | .fn f jW=>(Ta h jW).map fun(x,o)=>(.fn f x,o)
 |l=>Ra h l
def Tb(h:Nat→Option Ob):List Lf→Option (List Lf×List Prop)
 | []=>some ([],[])
 |l ::r=>match Vz h l,Tb h r with
  |some (x,o),some (xs,os)=>some (x ::xs,o++os)
  |_,_=>none
def QcB(h:Nat→Option Ob):Cm→Option (Cm×List Prop)
 | .one l=>(Vz h l).map fun(x,o)=>(.one x,o)
 | .agg ls=>(Tb h ls).map fun(x,o)=>(.agg x,o)
def W1(h:Nat→Option Ob):List Cm→Option (List Cm×List Prop)
 | []=>some ([],[])
 |c ::r=>match QcB h c,W1 h r with
  |some (x,o),some (xs,os)=>some (x ::xs,o++os)
  |_,_=>none
def Qbd:Lf→Bool
 | .int ..=>true
 | .bool _=>true
 | .str _=>true
 | .any=>true
 |_=>false
def Qbc:Cm→Bool
 | .one l=>Qbd l
 | .agg ls=>ls.all Qbd
def Xb:AV→Bool
 | .cm c=>Qbc c
 | .o5 cs=>cs.all Qbc
 |_=>false
def one(l:Lf):AV:=.cm (.one l)
def rowsOf(h:Nat→Option Ob):Lf→Option (Nat×List (List Lf)×List Prop)
 | .dO=>some (0,[],[])
 | .sl _ sz rows=>some (sz,rows,[])
 | .os id sz off len=>match h id with
  |some ob=>bif off == 0&&!ob.box&&ob.sz == sz then some (sz,ob.rows,[ob.rows.length=len])else none
  |none=>none
 |_=>none
def Qax(P:Program)(h:Nat→Option Ob)(base:Nat)(d x:Lf)(t t':TypeId)(hs:List Hint):Option Pu:=
 (match sv P t with
 |some e=>match P.info? e,rowsOf h x,Mv P e with
  |some i,some (sz,new,o),some z =>
   bif t == t'&&(sz == i.size||new.isEmpty)then
    (match d,hs with
    | .dO,.rows R ::jC=>some ⟨one (.os base i.size 0 R.length),[⟨false,i.size,e,R⟩],o++[new=R,R.length*i.bytes≤140737488355328,R.length≤9223372036854775807],jC⟩
    | .sl true Z8 rows,.rows R ::jC =>
     bif Z8 == i.size||rows.isEmpty then
      some ⟨one (.os base i.size 0 R.length),[⟨false,i.size,e,R⟩],o++[rows++new=R,new=[]→rows=[]]++[R.length*i.bytes≤140737488355328,R.length≤9223372036854775807],jC⟩
     else none
    |_,_=>none)
   else none
  |_,_,_=>none
 |none=>none)
def zs(P:Program)(h:Nat→Option Ob)(base:Nat)(b:Builtin)(args:List Cm)(tys:List TypeId)(hs:List Hint):Option Pu:=
 match b,args,tys with
 | .len,[.one l],[t] =>
  (match l,P.underlying t with
  | .str s,some .string=>some ⟨one (.int .i64 (xq s)),[],[],hs⟩
  | .dO,some (.slice _)=>some ⟨one (.int .i64 0),[],[],hs⟩
  | .os _ _ _ len,some (.slice _) =>
   (match hs with
   | .num n ::jC=>some ⟨one (.int .i64 n),[],[len=n],jC⟩
   |_=>none)
  | .sl _ _ rows,some (.slice _) =>
   (match hs with
   | .num n ::jC=>some ⟨one (.int .i64 n),[],[rows.length=n],jC⟩
   |_=>none)
  |_,_=>none)
 | .cap,[.one .dO],[t] =>
  (match P.underlying t with
  |some (.slice _)=>some ⟨one (.int .i64 0),[],[],hs⟩
  |_=>none)
 | .max,[.one (.int k a),.one (.int _ b)],_=>some ⟨one (.int k (zz a b)),[],[],hs⟩
 | .min,[.one (.int k a),.one (.int _ b)],_=>some ⟨one (.int k (QlY a b)),[],[],hs⟩
 | .append,[.one .dO,.one (.int k n)],[t,t'] =>
  (match sv P t,P.underlying t',hs with
  |some e,some (.int _),.cells z' :: .rows R ::jC =>
   (match P.info? e,Mv P e with
   | some ie,some z=>bif QbG z z'&&decide (k=.i64) then some ⟨one (.os base ie.size 0 R.length),[⟨false,ie.size,e,R⟩],
     [0≤n,n≤9223372036854775807,ie.bytes*n≤140737488355328,List.replicate n.toNat z'=R],jC⟩else none
   |_,_=>none)
  |_,_,_=>none)
 | .append,[.one d,.one x],[t,t']=>Qax P h base d x t t' hs
 |_,_,_=>none
def Qft(c:Option Cm):Option (Option Int):=match c with
 |none=>some none
 |some (.one (.int _ n))=>some (some n)
 |_=>none
def SM(P:Program)(h:Nat→Option Ob)(t:TypeId)(x:Cm)(lo hi mx:Option Cm)(hs:List Hint):Option Pu:=
 match x,Qft lo,Qft hi,Qft mx with
 | .one (.str s),some lo,some hi,some none =>
  (match P.underlying t with
  |some .string =>
   some ⟨one (.str (s.extract (lo.getD 0).toNat (hi.getD s.size).toNat)),[],[0≤lo.getD 0,lo.getD 0≤hi.getD s.size,hi.getD s.size≤s.size],hs⟩
  |_=>none)
 | .one .dO,some lo,some hi,some none =>
  (match sv P t with
  |some e=>bif (KI P e).isSome then some ⟨one .dO,[],[0≤lo.getD 0,lo.getD 0≤hi.getD 0,hi.getD 0≤0],hs⟩else none
  |none=>none)
 | .one (.sl cl sz rows),some lo,some hi,some mx =>
  (match sv P t,hs with
  |some e,.rows R ::jC =>
   bif KI P e == some sz||rows.isEmpty&&(KI P e).isSome then
    some ⟨one (.sl (mx.isSome||cl&&hi.isNone) sz R),[],
     (match mx,hi with
     |some m,some n=>[m=n]
     |some _,none=>[False]
     |_,_=>[])++[0≤lo.getD 0,lo.getD 0≤hi.getD rows.length,hi.getD rows.length≤rows.length,hi.getD rows.length≤mx.getD (hi.getD rows.length),mx.getD (hi.getD rows.length)≤rows.length,
      (rows.drop (lo.getD 0).toNat).take ((hi.getD rows.length).toNat-(lo.getD 0).toNat)=R],jC⟩
   else none
  |_,_=>none)
 |_,_,_,_=>none
def QgY(L:Nat→AV)(g:Prop):Option Operand→Option (Option Cm×List Prop)
 |none=>some (none,[])
 |some x=>(rO g (Au L x)).map fun(c,o)=>(some c,o)
def kEq:Lf→Lf→Option Bool
 | .int k a,.int k' b=>if k=k' then some (a == b)else none
 | .str a,.str b=>some (a == b)
 |_,_=>none
def xw:List Lf→List Lf→Option Bool
 | [],[]=>some true
 |k ::ks,k' ::Q7=>match kEq k k',xw ks Q7 with
  |some a,some b=>some (a&&b)
  |_,_=>none
 |_,_=>none
def Ho:List (List Lf)→List Lf→Lf→Option Lf
 | [],_,z=>some z
 |(v ::k') ::r,k,z=>match xw k k' with
  |some true=>some v
  |some false=>Ho r k z
  |none=>none
 | [] ::_,_,_=>none
def Ce:List (List Lf)→List Lf→Lf→Option (List (List Lf))
 | [],k,v=>some [v ::k]
 |(v' ::k') ::r,k,v=>match xw k k' with
  |some true=>some ((v ::k) ::r)
  |some false=>(Ce r k v).map ((v' ::k') :: ·)
  |none=>none
 | [] ::_,_,_=>none
def KV:List (List Lf)→Option (List (List Lf))
 | [] :: [] ::r=>some r
 |_=>none
def Jr(P:Program)(kt:TypeId):Lf→Bool
 | .int k _=>(match P.underlying kt with
  |some (.int k')=>decide (k=k')
  |_=>false)
 | .str _=>(match P.underlying kt with
  |some .string=>true
  |_=>false)
 |_=>false
def ed:List TypeDesc→List Lf→Bool
 | [],[]=>true
 | .int k ::us,.int k' _ ::ls=>decide (k=k')&&ed us ls
 | .string ::us,.str _ ::ls=>ed us ls
 |_,_=>false
def P2(P:Program)(kt:TypeId):Cm→Bool
 | .one k=>Jr P kt k
 | .agg ks=>Nat.ble 2 ks.length&&(match Qb2 P kt with
  |some us=>ed us ks
  |none=>false)
def zeroV(P:Program)(t:TypeId):Option Lf:=
 match P.info? t with
 |some i=>(match i.zero with
  |some z=>ofConst z
  |none=>none)
 |none=>none
def WD(P:Program)(h:Nat→Option Ob)(base:Nat)(g:Prop)(L:Nat→AV)(op:Op)(hs:List Hint):Option Pu:=
 match op with
 | .makeMap t none=>(match P.underlying t with
  |some (.map _ _)=>some ⟨one (.mp base),[⟨true,1,t,[[],[]]⟩],[],hs⟩
  |_=>none)
 | .lookup t x i false =>
  (match P.underlying t,rO g (Au L x),rO g (Au L i),hs with
  |some (.map kt vt),some (.one (.mp id),o),some (k,o'),.cells [v] ::jC =>
   (match h id,zeroV P vt with
   |some ob,some z =>
    (match KV ob.rows with
    |some rs=>bif ob.box&&P2 P kt k then some ⟨one v,[],o++o'++[Ho rs k.cells z=some v],jC⟩else none
    |none=>none)
   |_,_=>none)
  |_,_,_,_=>none)
 |_=>none
def Qay(P:Program)(L:Nat→AV)(g:Prop)(op:BinOp)(t:TypeId)(x y:Operand)(hs:List Hint):Option Pu:=
 match rO g (Au L x),rO g (Au L y)with
 |some (a,o),some (b,o')=>(QkP P op t a b).map fun(l,o2)=>⟨one l,[],o++o'++o2,hs⟩
 |_,_=>none
def Qaz(P:Program)(h:Nat→Option Ob)(L:Nat→AV)(g:Prop)(op:BinOp)(t:TypeId)(x y:Operand)(hs:List Hint):Option Pu:=
 match op,rO g (Au L x),rO g (Au L y),P.underlying t with
 | .eql,some (.one l,o),some (.one .dO,o'),some (.slice _) =>
  (match rowsOf h l,hs with
  |some _,.skip ::jC=>some ⟨.boo,[],o++o',jC⟩
  |some (_,rows,o2),.bit false ::jC=>some ⟨one (.bool false),[],o++o'++o2++[rows≠[]],jC⟩
  |_,_=>none)
 |_,_,_,_=>none
def Av(P:Program)(h:Nat→Option Ob)(base:Nat)(g:Prop)(L:Nat→AV)(op:Op)(hs:List Hint):Option Pu:=
 match op with
 | .move x|.assign x =>
  (match Au L x with
  | .cm c=>some ⟨.cm c,[],[],hs⟩
  | .o5 cs=>some ⟨.o5 cs,[],[],hs⟩
  | .gd p c=>some ⟨.cm c,[],[g→p],hs⟩
  | .RO=>none
  | .boo=>some ⟨.boo,[],[],hs⟩)
 | .pick c a b =>
  (match rO g (Au L c),hs with
  |some (.one (.bool bc),o),.spec ::jC =>
   (match rO (g∧bc=true) (Au L a),rO (g∧bc=false) (Au L b)with
   |some (.one (.bool x),oa),some (.one (.bool y),ob)=>some ⟨one (.bool (cond bc x y)),[],o++oa++ob,jC⟩
   |_,_=>none)
  |some (.one (.bool bc),o),.bit t ::jC =>
   (rO g (Au L (cond t a b))).map fun(x,o')=>⟨.cm x,[],o++[bc=t]++o',jC⟩
  |_,_=>none)
 | .alloc e=>(Mv P e).map fun cells=>⟨one (.op base cells.length 0 0),[NJ e cells],[],hs⟩
 | .box e x =>
  (match rO g (Au L x)with
  |some (c,o)=>bif c.cells.isEmpty then none else some ⟨one (.op base c.cells.length 0 0),[NJ e c.cells],o,hs⟩
  |none=>none)
 | .build t parts =>
  (match Mv P t,placesOf P t,Tm L g parts.toList with
  |some z,some pl,some (cs,o)=>(QV pl z cs).map fun cells=>⟨.cm (.agg cells),[],o,hs⟩
  |_,_,_=>none)
 | .buildSlice t n parts =>
  (match sv P t with
  |some e=>match P.info? e,Mv P e,Tm L g parts.toList with
   |some ie,some z,some (cs,o) =>
    bif n == 0&&cs.isEmpty then some ⟨one (.sl true ie.size []),[],o,hs⟩else
    bif Nat.ble (n*ie.size) 4096&&!(n == 0)then
     match QV (fun i=>some (i*ie.size,ie.size)) (List.replicate n z).flatten cs with
     | some cells=>bif cells.all S3 then some ⟨one (.os base ie.size 0 n),[⟨false,ie.size,e,chunk ie.size n cells⟩],o,hs⟩ else
       (match n,hs with
       |1,.num 1 ::jC=>some ⟨one (.os base ie.size 0 1),[NJ e cells],o,jC⟩
       |_,_=>none)
     |none=>none
    else none
   |_,_,_=>none
  |none=>none)
 | .load t a =>
  (match rO g (Au L a),KI P t,IJ P t with
  |some (.one (.ip cells off),o),some n,some r=>(wv r n off cells).map fun c=>⟨.cm c,[],o,hs⟩
  |some (.one (.op id sz row off),o),some n,some r =>
   (match h id with
   | some ob=>bif ob.sz == sz then
     (match ob.box,ob.rows,hs with
     |true,[cells],_=>bif row == 0 then(wv r n off cells).map fun c=>⟨.cm c,[],o,hs⟩else none
     |false,rows,.cells c ::jC=>(wv r n off c).map fun v=>⟨.cm v,[],o++[rows[row]?=some c],jC⟩
     |_,_,_=>none)else none
   |none=>none)
  |_,_,_=>none)
 | .nilCheck x =>
  (match rO g (Au L x)with
  |some (.one (.ip c off),o)=>some ⟨one (.ip c off),[],o,hs⟩
  |some (.one (.op id sz row off),o)=>some ⟨one (.op id sz row off),[],o,hs⟩
  |_=>none)
 | .binOp op t x y _ =>
  (match Qay P L g op t x y hs with
  |some r=>some r
  |none=>Qaz P h L g op t x y hs)
 | .unOp u _ x =>
  (match u,rO g (Au L x)with
  | .neg,some (.one (.int k n),o)=>some ⟨one (.int k (dZ k 0 n)),[],o,hs⟩
  | .not,some (.one (.bool b),o)=>some ⟨one (.bool (!b)),[],o,hs⟩
  |_,_=>none)
 | .convert s d x =>
  (match P.underlying s,P.underlying d,rO g (Au L x),hs with
  |some _,some (.int k),some (.one (.int _ n),o),_=>some ⟨one (.int k (zV k n)),[],o,hs⟩
  |some _,some .string,some (.one (.int _ n),o),_=>some ⟨one (.str (TC n)),[],o,hs⟩
  |some _,some .string,some (.one (.str s),o),_=>some ⟨one (.str s),[],o,hs⟩
  |some (.slice e),some .string,some (.one l,o),.ints J ::jC =>
   (match P.underlying e,rowsOf h l with
   |some (.int .u8),some (sz,rows,o')=>bif sz == 1||rows.isEmpty then some ⟨one (.str (zo J)),[],o++o'++[rows=J.map fun n=>[.int .u8 n]],jC⟩else none
   |_,_=>none)
  |_,_,_,_=>none)
 | .makeFunc f first jW =>
  (match L8 L g jW.toList with
  | some (cs,o)=>bif first.toList.isEmpty then
    (match QbR cs with
    |some ls=>some ⟨one (.fn f ls),[],o,hs⟩
    |none=>none)else none
  |none=>none)
 | .makeSlice t l c =>
  (match sv P t,rO g (Au L l),rO g (Au L c),hs with
  |some e,some (.one (.int _ n),o),some (.one (.int _ m),o'),.cells z' :: .rows R ::jC =>
   match P.info? e,Mv P e with
   | some ie,some z=>bif QbG z z' then some ⟨one (.os base ie.size 0 R.length),[⟨false,ie.size,e,R⟩],
     o++o'++[0≤n,n≤m,m≤9223372036854775807,ie.bytes*m≤140737488355328,List.replicate n.toNat z'=R],jC⟩else none
   |_,_=>none
  |_,_,_,_=>none)
 | .slice t x lo hi mx =>
  (match rO g (Au L x),QgY L g lo,QgY L g hi,QgY L g mx with
  |some (c,o),some (lo,o1),some (hi,o2),some (mx,o3)=>(SM P h t c lo hi mx hs).map fun r=>{r with ic:=o++o1++o2++o3++r.ic}
  |_,_,_,_=>none)
 | .fieldAddr s x f =>
  (match RZ P s f,rO g (Au L x)with
  |some (fo,_,_),some (.one (.ip cells off),o)=>some ⟨one (.ip cells (off+fo)),[],o,hs⟩
  |some (fo,_,_),some (.one (.op id sz row off),o)=>some ⟨one (.op id sz row (off+fo)),[],o,hs⟩
  |_,_=>none)
 | .field s x f =>
  (match RZ P s f,rO g (Au L x)with
  |some (fo,n,r),some (.agg cells,o)=>(wv r n fo cells).map fun c=>⟨.cm c,[],o,hs⟩
  |_,_=>none)
 | .indexAddr t x i =>
  (match P.underlying t,rO g (Au L x),rO g (Au L i)with
  |some (.slice e),some (.one (.sl _ sz rows),o),some (.one (.int _ n),o') =>
   (match hs with
   | .cells c ::jC=>bif KI P e == some sz then some ⟨one (.ip c 0),[],o++o'++[bq rows n=some c],jC⟩else none
   |_=>none)
  |some (.slice e),some (.one (.os id sz off len),o),some (.one (.int _ n),o') =>
   bif KI P e == some sz then some ⟨one (.op id sz (off+n.toNat) 0),[],o++o'++[0≤n,n<len],hs⟩else none
  |some (.array len e),some (.one (.ip cells off),o),some (.one (.int _ n),o') =>
   (match KI P e with
   |some sz=>bif !(len == 0)then some ⟨one (.ip cells (off+n.toNat*sz)),[],o++o'++[0≤n,n<len],hs⟩else none
   |none=>none)
  |some (.array len e),some (.one (.op id sz row off),o),some (.one (.int _ n),o') =>
   (match KI P e with
   |some esz=>bif !(len == 0)then some ⟨one (.op id sz row (off+n.toNat*esz)),[],o++o'++[0≤n,n<len],hs⟩else none
   |none=>none)
  |_,_,_=>none)
 | .index t x i =>
  (match P.underlying t,rO g (Au L x),rO g (Au L i)with
  |some .string,some (.one (.str s),o),some (.one (.int _ n),o') =>
   (match hs with
   | .byte b ::jC=>some ⟨one (.int .u8 (I1 b)),[],o++o'++[Ru s n=some b],jC⟩
   |_=>none)
  |some (.array len e),some (.agg cells,o),some (.one (.int _ n),o') =>
   (match KI P e,IJ P e with
   |some sz,some r=>(wv r sz (n.toNat*sz) cells).map fun c=>⟨.cm c,[],o++o'++[0≤n,n<len],hs⟩
   |_,_=>none)
  |_,_,_=>none)
 | .extract x i =>
  (match Au L x with
  | .o5 cs=>(cs[i]?).map fun c=>⟨.cm c,[],[],hs⟩
  |_=>none)
 | .call c =>
  (match c.callee with
  | .builtin b =>
   (match L8 L g c.args.toList with
   |some (args,o)=>(zs P h base b args c.argTypes.toList hs).map fun r=>{r with ic:=o++r.ic}
   |none=>none)
  |_=>none)
 |_=>WD P h base g L op hs
section
open Go.RowKit
inductive IR (w:World) (M:Nat→Prop):Lf→Value→Prop
 |any (v:Value):v.oneCell'=true→IR w M .any v
 |int (k:IntKind) (n:Int):IR w M (.int k n) (.int k n)
 |bool (b:Bool):IR w M (.bool b) (.bool b)
 |str (s:ByteArray):IR w M (.str s) (.string s)
 |Uv:IR w M .Uv (.pointer none)
 |dO:IR w M .dO (.slice none 0 0)
 |fn (f:Fn):IR w M (.fn f []) (.func f #[] #[])
 | ip (cells:List Lf) (off b o:Nat) (vs:Nat→Value):M b→(∀ (i:Nat) (l:Lf),cells[i]?=some l→w.cell? ⟨b,o+i,none⟩=some (vs i)) →
   (∀(i:Nat) (l:Lf),cells[i]?=some l→IR w M l (vs i))→IR w M (.ip cells off) (.pointer (some ⟨b,o+off,none⟩))
 |TG (cl:Bool) (sz:Nat) (a:Option Addr) (cap:Nat):(cl=true→cap=0)→IR w M (.sl cl sz []) (.slice a 0 cap)
 | sl (cl:Bool) (sz:Nat) (rows:List (List Lf)) (b o cap:Nat) (vs:Nat→Nat→Value):M b→rows.length≤cap→(cl=true→cap=rows.length) →
   (∀(i:Nat) (c:List Lf),rows[i]?=some c→c.length=sz)→
   (∀(i:Nat) (c:List Lf) (j:Nat) (l:Lf),rows[i]?=some c→c[j]?=some l→w.cell? ⟨b,o+i*sz+j,none⟩=some (vs i j))→
   (∀(i:Nat) (c:List Lf) (j:Nat) (l:Lf),rows[i]?=some c→c[j]?=some l→IR w M l (vs i j))→IR w M (.sl cl sz rows) (.slice (some ⟨b,o,none⟩) rows.length cap)
abbrev Pl:=Nat→Option (Option (Nat×Nat))
def zH(w:World)(M:Nat→Prop)(φ:Pl):Lf→Value→Prop
 | .op id sz row off,v=>∃b C,φ id=some (some (b,C))∧v=.pointer (some ⟨b,row*sz+off,none⟩)
 | .os id sz off len,v=>(∃ b C,φ id=some (some (b,C))∧v=.slice (some ⟨b,off*sz,none⟩) len (C-off)∧off+len≤C) ∨
   (φ id=some none∧off=0∧len=0∧∃a,v=.slice a 0 0)
 | .mp id,v=>∃b,φ id=some (some (b,1))∧v=.map (some b)
 |l,v=>IR w M l v
def Rs{α β:Type}(R:α→β→Prop):List α→List β→Prop
 | [],[]=>True
 |x ::xs,y ::ys=>R x y∧Rs R xs ys
 |_,_=>False
def LR(w:World)(M:Nat→Prop)(φ:Pl):Lf→Value→Prop
 | .fn f jW,v=>∃vs:List Value,v=.func f #[] vs.toArray∧Rs (zH w M φ) jW vs
 |l,v=>zH w M φ l v
def CR(w:World)(M:Nat→Prop)(φ:Pl):Cm→Value→Prop
 | .one l,v=>LR w M φ l v
 | .agg ls,v=>∃vs:List Value,v=.agg vs.toArray∧Rs (LR w M φ) ls vs
def AR(w:World)(M:Nat→Prop)(φ:Pl):AV→Value→Prop
 | .cm c,v=>CR w M φ c v
 | .o5 cs,v=>∃vs:List Value,v=.tuple vs.toArray∧Rs (CR w M φ) cs vs
 | .gd p c,v=>(p→CR w M φ c v)∧(¬p→v=undef)
 | .RO,_=>True
 | .boo,v=>∃b,v=.bool b
def KyR(w:World)(M:Nat→Prop)(ks:List Lf)(kv:Value):Prop:=(∃k,ks=[k]∧IR w M k kv)∨(2≤ks.length∧∃vs:List Value,kv=.agg vs.toArray∧Rs (IR w M) ks vs)
def Eu(w:World)(M:Nat→Prop)(row:List Lf)(e:MapEntry):Prop:=∃v ks,row=v ::ks∧IR w M v e.val∧KyR w M ks e.key
def MR(w:World)(M:Nat→Prop)(φ:Pl)(id:Nat)(ob:Ob):Prop:=
 ob.box=true∧∃rs b es TZ,ob.rows=[] :: [] ::rs∧φ id=some (some (b,1))∧w.heap[b]?=some (.map es TZ)∧Rs (Eu w M) rs es.toList
def OC(w:World)(M:Nat→Prop)(φ:Pl)(id:Nat)(ob:Ob):Prop:=
 0<ob.sz∧
 match φ id with
 |none=>False
 |some none=>ob.rows=[]∧ob.box=false
 | some (some (b,C))=>∃ cur:Array Value,w.heap[b]?=some (.cells cur ob.Mi (0,0))∧cur.size=C*ob.sz∧ob.rows.length≤C∧C≤maxLen ∧
   (ob.box=true→C=1)∧
   ∀i c,ob.rows[i]?=some c→c.length=ob.sz∧∀j l,c[j]?=some l→∃v,cur[i*ob.sz+j]?=some v∧(if ob.box then LR w M φ l v else IR w M l v)
def OR(w:World)(M:Nat→Prop)(φ:Pl)(id:Nat)(ob:Ob):Prop:=OC w M φ id ob∨MR w M φ id ob
structure bn where
 w0:World
 Qje:Nat→Prop
 M0:Nat→Prop
 pins:List (Nat×Nat)
structure Wd (Γ:bn) (φ:Pl) (M:Nat→Prop) (h:Nat→Option Ob) (w:World):Prop where
 ic:∀id ob,h id=some ob→OR w M φ id ob
 inj:∀i j oi oj b Ci Cj,h i=some oi→h j=some oj→φ i=some (some (b,Ci))→φ j=some (some (b,Cj))→i=j
 mlt:∀b,M b→b<w.heap.size
 m0:∀b,Γ.M0 b→M b
 OE:∀b,M b→Γ.M0 b∨Γ.Qje b∨Γ.w0.heap.size≤b
 own:∀id ob b C,h id=some ob→φ id=some (some (b,C))→¬M b∧b<w.heap.size∧(Γ.Qje b∨Γ.w0.heap.size≤b)
 MH:∀b,b<Γ.w0.heap.size→¬Γ.Qje b→w.heap[b]?=Γ.w0.heap[b]?
 os:w.os=Γ.w0.os
 tape:w.tape=Γ.w0.tape
 output:w.output=Γ.w0.output
 size:Γ.w0.heap.size≤w.heap.size
 IN:∀p∈Γ.pins,φ p.1=some (some (p.2,1))
def hl(H:List (Option Ob))(id:Nat):Option Ob:=(H[id]?).join
def yF(φ:Pl):Nat→List Ob→List (Nat×Nat)
 |_,[]=>[]
 |i,o ::r=>(match o.box,φ i with
  |true,some (some (b,_))=>[(i,b)]
  |_,_=>[])++yF φ (i+1) r
def Wp(P:Program)(f:FuncId):Bool:=
 match P.funcs[f]? with
 |some fn=>!(fn.name == "runtime.NumGoroutine")&&fn.body.isSome
 |none=>false
def dF(P:Program)(f:FuncId)(args:List Cm)(H0:List Ob)(r:AV)(H1:List (Option Ob)):Prop:=
 Wp P f=true∧∀(w:World) (φ:Pl) (M0:Nat→Prop) (uc:List Value),
  Wd ⟨w,fun b=>∃id C,id<H0.length∧φ id=some (some (b,C)),M0,yF φ 0 H0⟩ φ M0 (fun id=>H0[id]?) w→(∀id,H0.length≤id→φ id=none)→
  Rs (CR w M0 φ) args uc→
  Calls P f uc.toArray w fun e w'=>∃v φ' M',e=.returned v∧AR w' M' φ' r v∧
   Wd ⟨w,fun b=>∃id C,id<H0.length∧φ id=some (some (b,C)),M0,yF φ 0 H0⟩ φ' M' (hl H1) w'∧(∀id,H1.length≤id→φ' id=none)
def Xj(m:Nat→Option Nat):Lf→Lf
 | .op id sz row off=>match m id with
  |some j=>.op j sz row off
  |none=>.any
 | .os id sz off len=>match m id with
  |some j=>.os j sz off len
  |none=>.any
 | .mp id=>match m id with
  |some j=>.mp j
  |none=>.any
 | .fn f jW=>.any
 |l=>l
def Qeu(m:Nat→Option Nat):Lf→Lf
 | .fn f jW=>.fn f (jW.map (Xj m))
 |l=>Xj m l
def Qet(m:Nat→Option Nat):Cm→Cm
 | .one l=>.one (Qeu m l)
 | .agg ls=>.agg (ls.map (Qeu m))
def O5(m:Nat→Option Nat):AV→AV
 | .cm c=>.cm (Qet m c)
 | .o5 cs=>.o5 (cs.map (Qet m))
 | .gd p c=>.gd p (Qet m c)
 | .RO=>.RO
 | .boo=>.boo
def isMap(ob:Ob):Bool:=(KV ob.rows).isSome
def kQ(m:Nat→Option Nat)(ob:Ob):Ob:=bif ob.box&&!isMap ob then{ob with rows:=ob.rows.map fun c=>c.map (Qeu m)}else ob
def posOf:List Nat→Nat→Nat→Option Nat
 | [],_,_=>none
 |x ::r,k,id=>bif x == id then some k else posOf r (k+1) id
def Qb3:Lf→Bool
 | .op ..=>false
 | .os ..=>false
 | .fn ..=>false
 | .mp _=>false
 |_=>true
def QfN:Lf→Bool
 | .fn _ jW=>jW.all Qb3
 |l=>Qb3 l
def SN:Cm→Bool
 | .one l=>QfN l
 | .agg ls=>ls.all QfN
structure Mes where
 v:AV
 H:List (Option Ob)
 ic:List Prop
 hs:List Hint
def DC:List Nat→Bool
 | []=>true
 |x ::r=>!r.contains x&&DC r
def QaA:AV→Bool
 | .cm c=>SN c
 | .o5 cs=>cs.all SN
 |_=>false
def Su(P:Program)(h:Nat→Option Ob)(L:Nat→AV)(c:Call)(hs:List Hint):Option Pu:=
 match c.callee with
 | .value f =>
  match Au L f,L8 L True c.args.toList,hs with
  | .cm (.one (.fn (.func k) jW)),some (AE,o),.call [] r [] ::jC =>
   bif (AE++jW.map Cm.one).all SN then
    bif QaA r then some ⟨r,[],o++[dF P k (AE++jW.map Cm.one) [] r []],jC⟩else none
   else match W1 h (AE++jW.map Cm.one)with
    |some (UL,o')=>bif Xb r then some ⟨r,[],o++o'++[dF P k UL [] r []],jC⟩else none
    |none=>none
  |_,_,_=>none
 |_=>none
def UK:List (Option Ob)→Option (List Ob)
 | []=>some []
 |some o ::r=>(UK r).map (o :: ·)
 |none ::_=>none
def Wq(P:Program)(base:Nat)(L:Nat→AV)(c:Call)(hs:List Hint):Option Pu:=
 match c.callee with
 | .value f =>
  match Au L f,L8 L True c.args.toList,hs with
  | .cm (.one (.fn (.func k) jW)),some (AE,o),.call [] r out ::jC =>
   match UK out with
   |some ic=>bif (AE++jW.map Cm.one).all SN&&ic.all (fun o=>!o.box)then some ⟨O5 (fun j=>some (base+j)) r,ic,o++[dF P k (AE++jW.map Cm.one) [] r out],jC⟩else none
   |none=>none
  |_,_,_=>none
 |_=>none
def Xq(id:Nat):Lf→Bool
 | .os Z5 ..=>Z5 == id
 |_=>false
structure Wr where
 v:AV
 Ar:List (Nat×Option Ob)
 news:List Ob
 ic:List Prop
 hs:List Hint
def tk:List (Nat×Option Ob)→Nat→Option (Option Ob)
 | [],_=>none
 |(u,o) ::r,id=>bif u == id then some o else tk r id
def ZF(H:List (Option Ob)):List (Nat×Option Ob)→List (Option Ob)
 | []=>H
 |(u,o) ::r=>(ZF H r).set u o
def QM(h:Nat→Option Ob)(Ar:List (Nat×Option Ob))(id:Nat):Option Ob:=
 match tk Ar id with
 |some o=>o
 |none=>h id
def QcM(h:Nat→Option Ob):List Nat→Option (List Ob)
 | []=>some []
 |i ::r=>match h i,QcM h r with
  |some o,some os=>some (o ::os)
  |_,_=>none
def Fl:List Ob→Nat
 | []=>0
 |o ::r=>bif o.box then Fl r+1 else 0
def Sc(P:Program)(h:Nat→Option Ob)(base:Nat)(L:Nat→AV)(c:Call)(hs:List Hint):Option Wr:=
 match L8 L True c.args.toList,c.argTypes.toList,hs with
 |some ([.one (.os id sz off len),.one x],o),[t,t'],.rows R ::jC =>
  (match sv P t,h id,rowsOf h x with
  |some e,some ob,some (Z8,new,o') =>
   (match P.info? e,Mv P e with
   |some i,some z =>
    bif t == t'&&off == 0&&sz == i.size&&ob.sz == sz&&!ob.box&&ob.Mi == e&&(Z8 == sz||new.isEmpty)&&!Xq id x then
     some ⟨one (.os base sz 0 R.length),[(id,none)],[⟨false,sz,e,R⟩],
      o++o'++[ob.rows.length=len,ob.rows++new=R,R.length*i.bytes≤140737488355328,R.length≤9223372036854775807],jC⟩
    else none
   |_,_=>none)
  |_,_,_=>none)
 |_,_,_=>none
def XG(P:Program)(h:Nat→Option Ob)(L:Nat→AV)(t:TypeId)(a x:Operand)(hs:List Hint):Option Wr:=
 match rO True (Au L a),rO True (Au L x),KI P t with
 |some (.one (.op id sz row off),o1),some (c,o2),some n =>
  (match h id with
  |some ob=>(match ob.box,ob.rows with
   |true,[cells]=>bif ob.sz == sz&&n == c.cells.length&&(row == 0&&Nat.ble (off+n) cells.length)then some ⟨.RO,[(id,some {ob with rows:=[cells.take off++c.cells++cells.drop (off+n)]})],[],o1++o2,hs⟩else none
   |_,_=>none)
  |none=>none)
 |_,_,_=>none
def v7(ids:List Nat)(nb base j:Nat):Option Nat:=bif Nat.blt j nb then ids[j]? else some (base+(j-nb))
def Uc(m:Nat→Option Nat):List Nat→List Ob→List (Nat×Option Ob)
 |i ::is,o ::os=>(i,some (kQ m o)) ::Uc m is os
 |_,_=>[]
def Ys(ids:List Nat):List (Nat×Option Ob):=ids.map fun i=>(i,none)
def Qc_(P:Program)(h:Nat→Option Ob)(base:Nat)(L:Nat→AV)(c:Call)(hs:List Hint):Option Wr:=
 match c.callee with
 | .value f =>
  match Au L f,L8 L True c.args.toList,hs with
  | .cm (.one (.fn (.func k) jW)),some (AE,o),.call ids r out ::jC =>
   match QcM h ids,UK out with
   |some yy,some yz =>
    bif DC ids&&Nat.ble (Fl yy) yz.length&&((yy.drop (Fl yy)).all (fun x=>!x.box)&&(yz.take (Fl yy)).all (fun x=>x.box))then
     some ⟨O5 (v7 ids (Fl yy) base) r,Uc (v7 ids (Fl yy) base) (ids.take (Fl yy)) (yz.take (Fl yy))++Ys (ids.drop (Fl yy)),
      (yz.drop (Fl yy)).map (kQ (v7 ids (Fl yy) base)),o++[dF P k ((AE++jW.map Cm.one).map (Qet (posOf ids 0))) (yy.map (kQ (posOf ids 0))) r out],jC⟩
    else none
   |_,_=>none
  |_,_,_=>none
 |_=>none
def QjR(P:Program)(h:Nat→Option Ob)(L:Nat→AV)(t:TypeId)(m k v:Operand)(hs:List Hint):Option Wr:=
 match P.underlying t,rO True (Au L m),rO True (Au L k),rO True (Au L v),hs with
 |some (.map kt _),some (.one (.mp id),o1),some (kl,o2),some (.one vl,o3),.rows R ::jC =>
  (match h id with
  |some ob=>(match KV ob.rows with
   |some rs=>bif ob.box&&S3 vl&&P2 P kt kl then some ⟨.RO,[(id,some {ob with rows:=[] :: [] ::R})],[],o1++o2++o3++[Ce rs kl.cells vl=some R],jC⟩else none
   |none=>none)
  |none=>none)
 |_,_,_,_,_=>none
def QjQ(P:Program)(h:Nat→Option Ob)(L:Nat→AV)(t:TypeId)(x hi:Operand)(hs:List Hint):Option Wr:=
 match rO True (Au L x),rO True (Au L hi),sv P t,hs with
 |some (.one (.os id sz off len),o1),some (.one (.int _ n),o2),some e,.rows R ::jC =>
  (match h id with
  | some ob=>bif off == 0&&ob.sz == sz&&!ob.box&&KI P e == some sz then
    some ⟨one (.os id sz 0 R.length),[(id,some {ob with rows:=R})],[],o1++o2++[ob.rows.length=len,0≤n,n≤ob.rows.length,ob.rows.take n.toNat=R],jC⟩else none
  |none=>none)
 |_,_,_,_=>none
def wop(P:Program)(h:Nat→Option Ob)(base:Nat)(L:Nat→AV)(op:Op)(hs:List Hint):Option Wr:=
 match op with
 | .store t a x=>XG P h L t a x hs
 | .mapUpdate t m k v=>QjR P h L t m k v hs
 | .slice t x none (some hi) none=>QjQ P h L t x hi hs
 | .call c =>
  (match c.callee with
  | .builtin .append=>Sc P h base L c hs
  |_=>Qc_ P h base L c hs)
 |_=>none
def mop(P:Program)(H:List (Option Ob))(L:Nat→AV)(op:Op)(hs:List Hint):Option Mes:=
 match op with
 | .store t a x =>
  (match rO True (Au L a),rO True (Au L x),KI P t with
  |some (.one (.op id sz row off),o),some (c,o'),some n =>
   (match hl H id with
   |some ob =>
    bif ob.sz == sz&&n == c.cells.length then
     (match ob.box,ob.rows,hs with
     |true,[cells],_=>bif row == 0&&Nat.ble (off+n) cells.length then some ⟨.RO,H.set id (some {ob with rows:=[cells.take off++c.cells++cells.drop (off+n)]}),o++o',hs⟩else none
     |false,rows,.cells Z7 :: .rows R ::jC =>
      bif Nat.ble (off+n) Z7.length&&c.cells.all S3 then
       some ⟨.RO,H.set id (some {ob with rows:=R}),o++o'++[rows[row]?=some Z7,rows.set row (Z7.take off++c.cells++Z7.drop (off+n))=R],jC⟩
      else none
     |_,_,_=>none)else none
   |none=>none)
  |_,_,_=>none)
 | .call c =>
  (match c.callee with
  | .builtin .copy =>
   (match L8 L True c.args.toList,c.argTypes.toList,hs with
   |some ([.one (.os id sz off len),.one x],o),[t,t'],.rows R :: .num n ::jC =>
    (match sv P t,hl H id,rowsOf (hl H) x with
    |some e,some ob,some (Z8,new,o') =>
     (match P.info? e with
     |some i =>
      bif t == t'&&off == 0&&sz == i.size&&ob.sz == sz&&!ob.box&&(Z8 == sz||new.isEmpty)&&!Xq id x then
       some ⟨one (.int .i64 n),H.set id (some {ob with rows:=R}),o++o'++[ob.rows.length=len,min new.length ob.rows.length=n,new.take n++ob.rows.drop n=R],jC⟩
      else none
     |none=>none)
    |_,_,_=>none)
   |_,_,_=>none)
  |_=>none)
 |_=>none
def QaB(id sz:Nat)(rows:List (List Lf)):Lf→Lf×List Prop
 | .os i s off len=>bif i == id&&s == sz&&off == 0 then(.sl false sz rows,[rows.length=len])else(.os i s off len,[])
 |l=>(l,[])
def SP(id sz:Nat)(cells:List Lf):Lf→Lf×List Prop
 | .op i s row off=>bif i == id&&row == 0 then(.ip cells off,[])else(.op i s row off,[])
 |l=>(l,[])
def Qbj(id n:Nat):Lf→Lf×List Prop
 | .os i s off len=>bif i == id&&off == 0 then(.os i s off n,[len=n])else(.os i s off len,[])
 |l=>(l,[])
section
variable (f : Lf → Lf × List Prop)
def EI:List Lf→List Lf×List Prop
 | []=>([],[])
 |l ::r=>((f l).1 ::(EI r).1,(f l).2++(EI r).2)
def gmC:Cm→Cm×List Prop
 | .one l=>(.one (f l).1,(f l).2)
 | .agg ls=>(.agg (EI f ls).1,(EI f ls).2)
def QaE:List Cm→List Cm×List Prop
 | []=>([],[])
 |c ::r=>((gmC f c).1 ::(QaE r).1,(gmC f c).2++(QaE r).2)
def QdD:AV→AV×List Prop
 | .cm c=>(.cm (gmC f c).1,(gmC f c).2)
 | .o5 cs=>(.o5 (QaE f cs).1,(QaE f cs).2)
 |v=>(v,[])
def u_:List (Nat×AV)→List (Nat×AV)×List Prop
 | []=>([],[])
 |(t,v) ::r=>((t,(QdD f v).1) ::(u_ r).1,(QdD f v).2++(u_ r).2)
def zt:List (List Lf)→List (List Lf)×List Prop
 | []=>([],[])
 |c ::r=>((EI f c).1 ::(zt r).1,(EI f c).2++(zt r).2)
def WG:Option Ob→Option Ob×List Prop
 |some ob=>bif ob.box&&!isMap ob then(some {ob with rows:=(zt f ob.rows).1},(zt f ob.rows).2)else(some ob,[])
 |none=>(none,[])
def XL:List (Option Ob)→List (Option Ob)×List Prop
 | []=>([],[])
 |o ::r=>((WG f o).1 ::(XL r).1,(WG f o).2++(XL r).2)
end
def wkL(sz:Nat):Lf→Option Lf
 | .dO=>some (.sl false sz [])
 | .sl _ s rows=>some (.sl false s rows)
 |_=>none
def wkC(k sz:Nat):Cm→Option Cm
 | .one l=>bif k == 0 then(wkL sz l).map .one else none
 | .agg ls=>match ls[k]? with
  |some l=>(wkL sz l).map fun l'=>.agg (ls.set k l')
  |none=>none
structure SS where
 N:Nat
 L:List (Nat×AV)
 H:List (Option Ob)
def ghost:List Hint→SS→Option (SS×List Prop×List Hint)
 | .wait 0 ::hs,σ=>ghost hs σ
 | .wait (n+1) ::hs,σ=>some (σ,[],.wait n ::hs)
 | .kX id ::hs,σ =>
  (match hl σ.H id with
  |some ob=>bif ob.box then none else
   match ghost hs ⟨σ.N,(u_ (QaB id ob.sz ob.rows) σ.L).1,(XL (QaB id ob.sz ob.rows) (σ.H.set id none)).1⟩with
   |some (σ',o,jC)=>some (σ',(u_ (QaB id ob.sz ob.rows) σ.L).2++(XL (QaB id ob.sz ob.rows) (σ.H.set id none)).2++o,jC)
   |none=>none
  |none=>none)
 | .Qk_ id ::hs,σ =>
  (match hl σ.H id with
  |some ob=>(match ob.box,ob.rows with
   |true,[cells]=>bif cells.all S3 then
    (match ghost hs ⟨σ.N,(u_ (SP id ob.sz cells) σ.L).1,(XL (SP id ob.sz cells) (σ.H.set id none)).1⟩with
    |some (σ',o,jC)=>some (σ',(u_ (SP id ob.sz cells) σ.L).2++(XL (SP id ob.sz cells) (σ.H.set id none)).2++o,jC)
    |none=>none)else none
   |_,_=>none)
  |none=>none)
 | .xo id n ::hs,σ =>
  (match ghost hs ⟨σ.N,(u_ (Qbj id n) σ.L).1,(XL (Qbj id n) σ.H).1⟩ with
   |some (σ',o,jC)=>some (σ',(u_ (Qbj id n) σ.L).2++(XL (Qbj id n) σ.H).2++o,jC)
   |none=>none)
 | .rh t k sz ::hs,σ =>
  (match look σ.L t with
  | .cm c=>(match wkC k sz c with
   |some c'=>ghost hs ⟨σ.N,(t,.cm c') ::σ.L,σ.H⟩
   |none=>none)
  |_=>none)
 | .fW id k sz ::hs,σ =>
  (match hl σ.H id with
  |some ob=>(match ob.box,ob.rows with
   |true,[cells]=>(match cells[k]? with
    |some l=>(match wkL sz l with
     |some l'=>ghost hs ⟨σ.N,σ.L,σ.H.set id (some {ob with rows:=[cells.set k l']})⟩
     |none=>none)
    |none=>none)
   |_,_=>none)
  |none=>none)
 | .lP t sz e ::hs,σ =>
  (match look σ.L t with
  | .cm (.one .dO)=>bif sz == 0 then none else ghost hs ⟨σ.N,(t,one (.os σ.H.length sz 0 0)) ::σ.L,σ.H++[some ⟨false,sz,e,[]⟩]⟩
  |_=>none)
 | .nN id k sz e ::hs,σ =>
  (match hl σ.H id with
  |some ob=>(match ob.box,ob.rows with
   |true,[cells]=>(match cells[k]? with
    |some .dO=>bif sz == 0 then none else ghost hs ⟨σ.N,σ.L,(σ.H.set id (some {ob with rows:=[cells.set k (.os σ.H.length sz 0 0)]}))++[some ⟨false,sz,e,[]⟩]⟩
    |_=>none)
   |_,_=>none)
  |none=>none)
 |hs,σ=>some (σ,[],hs)
structure St where
 σ:SS
 ic:List Prop
 hs:List Hint
def gdv(p:Prop):AV→Option AV
 | .cm c=>some (.gd p c)
 |_=>none
def OX(d:Option Nat)(v:AV)(L:List (Nat×AV)):List (Nat×AV):=
 match d with
 |some t=>(t,v) ::L
 |none=>L
def dop(P:Program)(h:Nat→Option Ob)(base:Nat)(L:Nat→AV)(op:Op)(hs:List Hint):Option Pu:=
 match Av P h base True L op hs with
 |some r=>some r
 |none=>match op with
  | .call c=>match Su P h L c hs with
   |some r=>some r
   |none=>Wq P base L c hs
  |_=>none
def und:AV:=.gd False (.one (.bool false))
def Ns(P:Program)(o:Oper)(σ:SS)(hs:List Hint):Option St:=
 match dop P (hl σ.H) σ.H.length (look σ.L) o.op hs with
 |some r=>some ⟨⟨σ.N,OX o.dst r.v σ.L,σ.H++r.news.map some⟩,r.ic,r.hs⟩
 |none=>match mop P σ.H (look σ.L) o.op hs with
  |some r=>some ⟨⟨σ.N,OX o.dst r.v σ.L,r.H⟩,r.ic,r.hs⟩
  |none=>match wop P (hl σ.H) σ.H.length (look σ.L) o.op hs with
   |some r=>some ⟨⟨σ.N,OX o.dst r.v σ.L,ZF σ.H r.Ar++r.news.map some⟩,r.ic,r.hs⟩
   |none=>none
def Mh(N:Nat):Option Nat→Bool
 |some d=>Nat.blt d N
 |none=>true
def Qbu(P:Program)(l:Array Oper)(o:Oper)(σ:SS)(hs:List Hint):Option St:=
 bif !Mh σ.N o.dst then none else
 match o.guard with
 |none=>Ns P o σ hs
 |some (j,want) =>
  match((l[j]?).bind (·.dst)).map (look σ.L),hs with
  |some (.cm (.one (.bool b))),.bit t ::jC =>
   bif t == want then(Ns P o σ jC).map fun r=>{r with ic:=(b=t) ::r.ic}
   else some ⟨⟨σ.N,OX o.dst und σ.L,σ.H⟩,[b=t],jC⟩
  |some (.gd p (.one (.bool b))),.bit t ::jC =>
   bif t == want then(Ns P o σ jC).map fun r=>{r with ic:=(p∧b=t) ::r.ic}
   else some ⟨⟨σ.N,OX o.dst und σ.L,σ.H⟩,[p∧b=t],jC⟩
  |some (.gd p (.one (.bool b))),.skip ::jC=>some ⟨⟨σ.N,OX o.dst und σ.L,σ.H⟩,[¬p],jC⟩
  |some (.cm (.one (.bool b))),.spec ::jC =>
   (match Av P (hl σ.H) σ.H.length (b=want) (look σ.L) o.op jC with
   |some r=>bif r.news.isEmpty then(gdv (b=want) r.v).map fun v=>⟨⟨σ.N,OX o.dst v σ.L,σ.H⟩,r.ic,r.hs⟩else none
   |none=>none)
  |some (.gd p (.one (.bool b))),.spec ::jC =>
   (match Av P (hl σ.H) σ.H.length (p∧b=want) (look σ.L) o.op jC with
   |some r=>bif r.news.isEmpty then(gdv (p∧b=want) r.v).map fun v=>⟨⟨σ.N,OX o.dst v σ.L,σ.H⟩,r.ic,r.hs⟩else none
   |none=>none)
  |_,_=>none
def Bw(P:Program)(l:Array Oper):List Oper→SS→List Hint→Option St
 | [],σ,hs=>some ⟨σ,[],hs⟩
 |o ::rest,σ,hs =>
  match ghost hs σ with
  |some (σ0,o0,Z4) =>
   match Qbu P l o σ0 Z4 with
   |some s=>match Bw P l rest s.σ s.hs with
    |some s'=>some ⟨s'.σ,o0++s.ic++s'.ic,s'.hs⟩
    |none=>none
   |none=>none
  |none=>none
def QbW(P:Program)(l:Array Oper)(o:Oper)(h:Nat→Option Ob)(base:Nat)(L:Nat→AV)(hs:List Hint):Option Pu:=
 match o.guard with
 |none=>dop P h base L o.op hs
 |some (j,want) =>
  match((l[j]?).bind (·.dst)).map L,hs with
  |some (.cm (.one (.bool b))),.bit t ::jC =>
   bif t == want then(dop P h base L o.op jC).map fun r=>{r with ic:=(b=t) ::r.ic}
   else some ⟨und,[],[b=t],jC⟩
  |some (.gd p (.one (.bool b))),.skip ::jC=>some ⟨und,[],[¬p],jC⟩
  |some (.cm (.one (.bool b))),.spec ::jC =>
   (match Av P h base (b=want) L o.op jC with
   |some r=>bif r.news.isEmpty then(gdv (b=want) r.v).map fun v=>⟨v,[],r.ic,r.hs⟩else none
   |none=>none)
  |_,_=>none
structure Dn where
 i:Nat
 dst:Option Nat
 v:AV
 base:Nat
 news:List Ob
 Ar:List (Nat×Option Ob)
 rd:List (Nat×Nat×Nat×List Lf)
def ng(o:Oper):List Nat:=(o.after.toList.filter fun e=>Region.binds .any e).map (·.on)
def zX(L:List (Nat×AV))(nn:List Nat)(S:Nat→Bool):List Dn→Nat→AV
 | [],t=>bif nn.contains t then .RO else look L t
 |d ::r,t=>bif d.dst == some t&&S d.i then d.v else zX L nn S r t
def yX(H:List (Option Ob))(S:Nat→Bool):List Dn→Nat→Option Ob
 | [],id=>hl H id
 |d ::r,id=>bif Nat.ble d.base id&&Nat.blt id (d.base+d.news.length)then(bif S d.i then d.news[id-d.base]? else none)else yX H S r id
def vT(S:Nat→Bool):List Dn→Nat→Option (Option Ob)
 | [],_=>none
 |d ::r,id=>match bif S d.i then tk d.Ar id else none with
  |some ob=>some ob
  |none=>vT S r id
def pH(H:List (Option Ob))(S:Nat→Bool)(l:List Dn)(id:Nat):Option Ob:=
 match vT S l id with
 |some ob=>ob
 |none=>yX H S l id
def Sw:List (Nat×Nat)→Nat→Option Nat
 | [],_=>none
 |(u,j) ::r,id=>bif u == id then some j else Sw r id
def view(cl:List (Nat×Nat))(i:Nat)(h:Nat→Option Ob)(id:Nat):Option Ob:=
 match Sw cl id with
 |some j=>bif j == i then h id else none
 |none=>h id
def BA(o:Oper):Bool:=match o.guard with
 |none=>true
 |some _=>false
def Qhc(P:Program)(H:List (Option Ob))(L:Nat→AV)(op:Op):Option (AV×(Nat×Nat×Nat×List Lf)×List Prop):=
 match op with
 | .load t a =>
  (match rO True (Au L a),KI P t,IJ P t with
  |some (.one (.op id sz row off),o),some n,some r =>
   (match hl H id with
   |some ob=>(match ob.box,ob.rows with
    |true,[cells]=>bif ob.sz == sz&&row == 0&&(r||n == 1)then(wv r n off cells).map fun c=>(.cm c,(id,off,sz,(cells.drop off).take n),o)else none
    |_,_=>none)
   |none=>none)
  |_,_,_=>none)
 |_=>none
def rdP(q:Nat×Nat×Nat×List Lf):Option Ob→Prop
 |some ob=>(ob.box,ob.sz,ob.rows.map fun cs=>(cs.drop q.2.1).take q.2.2.2.length)=(true,q.2.2.1,[q.2.2.2])
 |none=>False
def Zo(q:Nat×Nat×Nat×List Lf):List (Nat×Option Ob)→List Prop
 | []=>[]
 |(u,o) ::r=>bif u == q.1 then rdP q o ::Zo q r else Zo q r
def VU(q:Nat×Nat×Nat×List Lf):List Dn→List Prop
 | []=>[]
 |d ::r=>Zo q d.Ar++VU q r
def Qjq(full:List Dn):List (Nat×Nat×Nat×List Lf)→List Prop
 | []=>[]
 |q ::r=>VU q full++Qjq full r
def VS(full:List Dn):List Dn→List Prop
 | []=>[]
 |d ::r=>Qjq full d.rd++VS full r
def dgo(P:Program)(l:Array Oper)(σ:SS)(nn:List Nat)(cl:List (Nat×Nat)):Nat→List Oper→List Dn→Nat→List Hint→Option (List Dn×Nat×List Prop×List Hint)
 |_,[],done,base,hs=>some (done,base,[],hs)
 |i,o ::rest,done,base,hs =>
  bif !Mh σ.N o.dst then none else
  match QbW P l o (view cl i (yX σ.H (ng o).contains done)) base (zX σ.L nn (ng o).contains done) hs with
  |some r=>match dgo P l σ nn cl (i+1) rest (⟨i,o.dst,r.v,base,r.news,[],[]⟩ ::done) (base+r.news.length) r.hs with
   |some (d,b,ob,jC)=>some (d,b,r.ic++ob,jC)
   |none=>none
  |none=>match wop P (view cl i (yX σ.H (ng o).contains done)) base (zX σ.L nn (ng o).contains done) o.op hs with
   | some r=>bif BA o&&r.Ar.all (fun u=>Sw cl u.1 == some i) then
     (match dgo P l σ nn cl (i+1) rest (⟨i,o.dst,r.v,base,r.news,r.Ar,[]⟩ ::done) (base+r.news.length) r.hs with
     |some (d,b,ob,jC)=>some (d,b,r.ic++ob,jC)
     |none=>none)else none
   |none=>match Qhc P σ.H (zX σ.L nn (ng o).contains done) o.op with
    | some (v,q,Rc)=>bif BA o then
      (match dgo P l σ nn cl (i+1) rest (⟨i,o.dst,v,base,[],[],[q]⟩ ::done) base hs with
      |some (d,b,ob,jC)=>some (d,b,Rc++ob,jC)
      |none=>none)else none
    |none=>none
def dL(L:List (Nat×AV)):List Dn→List (Nat×AV)
 | []=>L
 |d ::r=>OX d.dst d.v (dL L r)
def dH(H:List (Option Ob)):List Dn→List (Option Ob)
 | []=>H
 |d ::r=>ZF (dH H r) d.Ar++d.news.map some
def dstsOf(l:List Oper):List Nat:=l.filterMap (·.dst)
def QaM(l:Array Oper)(n:Nat):Array Bool:=((List.range l.size).map fun i=>Nat.blt i n).toArray
def Yv(l:Array Oper)(n:Nat):Bool:=
 DC (dstsOf (l.toList.take n))&&Nat.ble n l.size &&
 ((l.toList.take n).zipIdx.all fun(o,i)=>(ng o).all fun j=>Nat.blt j i) &&
 (n == l.size||(Nat.blt n l.size&&Region.sinkB .any l n&&Region.chainB .any l n))&&Region.seqB .any l (l.size-n) n (QaM l n)
def N0(P:Program)(l:Array Oper)(σ:SS)(hs:List Hint):Option St:=
 match hs with
 | .draw n cl ::jC =>
  bif P.follows .mixedOrders&&Yv l n then
   match dgo P l σ (dstsOf (l.toList.take n)) cl 0 (l.toList.take n) [] σ.H.length jC with
   |some (done,_,ob,hs2)=>(Bw P l (l.toList.drop n) ⟨σ.N,dL σ.L done,dH σ.H done⟩ hs2).map fun s=>{s with ic:=ob++(VS done done++s.ic)}
   |none=>none
  else none
 |_=>none
inductive It where
 |c (p:Nat)
 |b (id:Nat)
 |l (p:Nat)
def child(k:Bool):Code→Code
 | .seq a b=>cond k b a
 | .cond _ a b=>cond k b a
 | .block _ b=>b
 | .loop b=>b
 | .scope b=>b
 |_=>.skip
def Yj(body:Code):Nat→Nat→Code
 |0,_=>body
 |n+1,p=>bif Nat.ble p 1 then body else child (p % 2 == 1) (Yj body n (p / 2))
def cd(body:Code)(p:Nat):Code:=Yj body 300 p
def It.item(body:Code):It→Item
 | .c p=>.code (cd body p)
 | .b id=>.inBlock id
 | .l p=>.inLoop (cd body p)
def U7(id:Nat):List It→Option (List It)
 | []=>none
 | .b i ::k=>bif i == id then some k else U7 id k
 |_ ::k=>U7 id k
structure Cf where
 k:List It
 σ:SS
structure Rn where
 cf:Cf
 ic:List Prop
 hs:List Hint
def OV:Nat:=1809251394333065553493296640760748560207343510400633813116524750123642650624
def Qma(P:Program)(body:Code)(cf:Cf)(hs:List Hint):Option Rn:=
 match cf.k with
 | []=>none
 | .b _ ::k=>some ⟨⟨k,cf.σ⟩,[],hs⟩
 | .l p ::k=>some ⟨⟨.c p :: .l p ::k,cf.σ⟩,[],hs⟩
 | .c p ::k =>
  bif !(Nat.ble 1 p&&Nat.blt p OV)then none else
  match cd body p with
  | .skip=>some ⟨⟨k,cf.σ⟩,[],hs⟩
  | .seq _ _=>some ⟨⟨.c (2*p) :: .c (2*p+1) ::k,cf.σ⟩,[],hs⟩
  | .block id _=>some ⟨⟨.c (2*p) :: .b id ::k,cf.σ⟩,[],hs⟩
  | .loop _=>some ⟨⟨.c (2*p) :: .l (2*p) ::k,cf.σ⟩,[],hs⟩
  | .cond c _ _ =>
   (match Au (look cf.σ.L) c,hs with
   | .cm (.one (.bool b)),.bit t ::jC=>some ⟨⟨.c (2*p+cond t 0 1) ::k,cf.σ⟩,[b=t],jC⟩
   |_,_=>none)
  | .exit id=>(U7 id k).map fun k'=>⟨⟨k',cf.σ⟩,[],hs⟩
  | .region _ ops draw =>
   (bif draw then N0 P ops cf.σ hs else Bw P ops ops.toList cf.σ hs).map fun s=>⟨⟨k,s.σ⟩,s.ic,s.hs⟩
  |_=>none
def Zz(P:Program)(body:Code):Nat→Cf→List Hint→Option Rn
 |0,cf,hs=>some ⟨cf,[],hs⟩
 |n+1,cf,hs =>
  match ghost hs cf.σ with
  |some (σ0,o0,Z4) =>
   match Qma P body ⟨cf.k,σ0⟩ Z4 with
   |some r=>match Zz P body n r.cf r.hs with
    |some r'=>some ⟨r'.cf,o0++r.ic++r'.ic,r'.hs⟩
    |none=>none
   |none=>none
  |none=>none
def cut(live ids:List Nat)(σ:SS):SS:=
 ⟨σ.N,live.map fun t=>(t,O5 (posOf ids 0) (look σ.L t)),ids.map fun i=>(hl σ.H i).map (kQ (posOf ids 0))⟩
def Qmb(P:Program)(body:Code)(n:Nat)(live ids:List Nat)(cf:Cf)(hs:List Hint):Option (Cf×Prop):=
 match Zz P body n cf hs with
 |some r=>match ghost r.hs r.cf.σ with
  |some (σ,o,[])=>bif DC ids then some (⟨r.cf.k,cut live ids σ⟩,d_ (r.ic++o))else none
  |_=>none
 |none=>none
def Qjr(L:Nat→AV)(h:Nat→Option Ob)(P:Program):ResultVar→Option Cm
 | .tmp t=>match L t with
  | .cm c=>some c
  |_=>none
 | .cell a t=>match L a,KI P t,IJ P t with
  | .cm (.one (.op id sz row off)),some n,some r=>(match h id with
   |some ob=>(match ob.box,ob.rows with
    |true,[cells]=>bif row == 0&&ob.sz == sz then wv r n off cells else none
    |_,_=>none)
   |none=>none)
  |_,_,_=>none
def QcX(L:Nat→AV)(h:Nat→Option Ob)(P:Program):List ResultVar→Option (List Cm)
 | []=>some []
 |x ::r=>match Qjr L h P x,QcX L h P r with
  |some c,some cs=>some (c ::cs)
  |_,_=>none
def Qg9:List Cm→AV
 | [c]=>.cm c
 |cs=>.o5 cs
end
section
open Go.RowKit
def Rk(Γ:bn)(σ:SS)(a:Act)(w:World):Prop:=
 a.tmps.size=σ.N∧a.defers=[]∧∃φ M,(∀t,AR w M φ (look σ.L t) (a.tmps.getD t undef))∧Wd Γ φ M (hl σ.H) w∧(∀id,σ.H.length≤id→φ id=none)
def DY(fn:Func):Code:=fn.body.getD .skip
def KW(P:Program)(body:Code)(k:List It)(R:Exit→Act→World→Prop)(a:Act)(w:World):Prop:=
 ∀(b:Frame) (cs:List Frame),∃e a' w',R e a' w'∧Arrives P (lone (b.at a (k.map (It.item body))) cs w) b [] cs e a' w'
def RR(P:Program)(fn:Func)(Γ:bn)(r:AV)(H1:List (Option Ob)):Exit→Act→World→Prop:=fun e a' w' =>
 (e=.ret∨e=.normal)∧a'.defers=[]∧∃v φ' M',(results fn a'.tmps).run P w'=.ok v w'∧AR w' M' φ' r v∧Wd Γ φ' M' (hl H1) w'∧(∀id,H1.length≤id→φ' id=none)
def Go(P:Program)(fn:Func)(IN:List Nat)(Γ:bn)(r:AV)(H1:List (Option Ob))(cf:Cf):Prop:=
 (∀p∈Γ.pins,p.1∈IN)→∀a w,Rk Γ cf.σ a w→KW P (DY fn) cf.k (RR P fn Γ r H1) a w
def VO(IN ids:List Nat):Bool:=IN.all fun i=>match ids[i]? with
 |some j=>i == j
 |none=>false
def Qkm:Code→Bool
 | .ret=>true
 |_=>false
def Qfr(body:Code):List It→Bool
 | []=>true
 | .c p ::_=>Qkm (cd body p)
 |_=>false
def Ql_(P:Program)(fn:Func)(n:Nat)(ids:List Nat)(cf:Cf)(hs:List Hint):Option (AV×List (Option Ob)×Prop):=
 match Zz P (DY fn) n cf hs with
 |some r =>
  bif Qfr (DY fn) r.cf.k then
   match ghost r.hs r.cf.σ with
   |some (σ,o,[])=>match QcX (look σ.L) (hl σ.H) P fn.results.toList with
    |some cs=>bif DC ids then some (O5 (posOf ids 0) (Qg9 cs),ids.map fun i=>(hl σ.H i).map (kQ (posOf ids 0)),d_ (r.ic++o))else none
    |none=>none
   |_=>none
  else none
 |none=>none
def BL:Nat→List Cm→List (Nat×AV)
 |_,[]=>[]
 |i,c ::r=>(i,.cm c) ::BL (i+1) r
def Sq:Nat→List Ob→List Nat
 |_,[]=>[]
 |i,o ::r=>cond o.box [i] []++Sq (i+1) r
section
variable {α β S E : Type}
def br(b:Bool)(x y:Option α):Option α:=match b with
 |true=>x
 |false=>y
def aS(o:Option α)(f:α→Option β):Option β:=match o with
 |some a=>f a
 |none=>none
theorem uD{o:Option α}{f:α→Option β}{r:β}(h:aS o f=some r):∃a,o=some a∧f a=some r:=by
 cases o with
 |none=>cases h
 |some a=>exact⟨a,rfl,h⟩
def eH(p:Prop) [Decidable p] (x:Option α):Option α:=if p then x else none
theorem NT{p:Prop} [Decidable p] {x:Option α}{r:α}(h:eH p x=some r):p∧x=some r:=by
 unfold eH at h;split at h
 ·exact⟨‹_›,h⟩
 ·cases h
def amb [DecidableEq α] (x y:Option α):Option α:=if x=y then x else none
theorem X8 [DecidableEq α] {x y:Option α}{r:α}(h:amb x y=some r):x=some r∧y=some r:=by
 unfold amb at h;split at h
 ·rename_i e;exact⟨h,e▸h⟩
 ·cases h
theorem neE(f:α→β){l:List α}(h:l.isEmpty=false):l.map f≠[]:=by
 cases l with
 |nil=>cases h
 |cons a r=>simp
def uh(B:S→Option (S⊕E)):Nat→S→Option E
 |0,_=>none
 |n+1,s=>match B s with
  |some (.inl s')=>uh B n s'
  |some (.inr e)=>some e
  |none=>none
theorem Vq(B:S→Option (S⊕E)){e:E}:∀(n k:Nat) (s:S),uh B n s=some e→uh B (n+k) s=some e
 |0,_,_,h=>by cases h
 |n+1,k,s,h=>by
  rw[show n+1+k=(n+k)+1 by omega]
  simp only[uh]at h ⊢;split at h
  ·exact Vq B n k _ h
  ·exact h
  ·cases h
def sU:Nat:=18446744073709551616
def aK(B:S→Option (S⊕E))(s:S):Option E:=uh B sU s
theorem Qa0{B:S→Option (S⊕E)}{s:S}{e:E}(h:aK B s=some e):∃n,uh B n s=some e:=⟨_,h⟩
theorem EP{B:S→Option (S⊕E)}{s:S}{e:E}(n:Nat)(hn:n≤sU)(h:uh B n s=some e):aK B s=some e:=by
 have:=Vq B n (sU-n) s h;rwa [Nat.add_sub_cancel' hn]at this
theorem QgP{B:S→Option (S⊕E)}(C:S→Prop)(D:E→Prop)(Vn:∀s x,B s=some x→(∀s',x=.inl s'→C s')→(∀e,x=.inr e→D e)→C s){s:S}{e:E}(h:aK B s=some e)(hD:D e):C s:=by
 obtain⟨n,hn⟩:=Qa0 h;clear h;induction n generalizing s with
 |zero=>cases hn
 |succ n ih =>
  simp only[uh]at hn;split at hn
  ·rename_i s' hs;exact Vn s _ hs (fun t ht=>by cases ht;exact ih hn) (fun t ht=>by cases ht)
  ·rename_i e' hs;exact Vn s _ hs (fun t ht=>by cases ht) (fun t ht=>by cases ht;cases hn;exact hD)
  ·cases hn
end
section
variable {K V : Type}
def T1(a b:ByteArray):Bool:=a == b
def pY(eq:K→K→Bool):List (K×V)→K→V→V
 | [],_,z=>z
 |p ::r,k,z=>bif eq k p.1 then p.2 else pY eq r k z
def vh(eq:K→K→Bool):List (K×V)→K→V→List (K×V)
 | [],k,v=>[(k,v)]
 |p ::r,k,v=>bif eq k p.1 then(k,v) ::r else p ::vh eq r k v
end
section
variable {α β A B γ : Type}
def e_(n b:Nat):Prop:=n*b≤140737488355328
instance(n b:Nat):Decidable (e_ n b):=inferInstanceAs (Decidable (n*b≤140737488355328))
def gZ(l:List α)(i:Int)(x:α):List α:=l.set i.toNat x
def PI(l m:List α):Nat:=min m.length l.length
def HA(l m:List α):List α:=m.take (PI l m)++l.drop (PI l m)
def vw(l:List α)(lo hi:Int):Option (List α):=if 0≤lo∧lo≤hi∧hi≤l.length then some ((l.drop lo.toNat).take (hi.toNat-lo.toNat))else none
def Qbp(s:ByteArray)(lo hi:Int):Option Unit:=if 0≤lo∧lo≤hi∧hi≤s.size then some ()else none
def KY(n m:Int)(b:Nat)(z:α):Option (List α):=if 0≤n∧n≤m∧b*m≤140737488355328∧m≤9223372036854775807 then some (List.replicate n.toNat z)else none
def jf(e:A⊕B)(f:A→γ)(g:B→γ):γ:=match e with
 | .inl a=>f a
 | .inr b=>g b
theorem QqI(f:α→β)(l:List α):(l.map f).length=l.length:=List.length_map ..
theorem getM(f:α→β){l:List α}{i:Int}{a:α}(h:bq l i=some a):bq (l.map f) i=some (f a):=by
 unfold bq at *;split at h
 ·rename_i h0;rw[if_pos h0,List.getElem?_map,h];rfl
 ·cases h
theorem iA{l:List α}{i:Int}{a:α}(h:bq l i=some a):0≤i:=by
 unfold bq at h;split at h
 ·assumption
 ·cases h
theorem iz(f:α→β){l:List α}{i:Int}{a:α}(h:bq l i=some a):i<(l.map f).length:=by
 unfold bq at h;split at h
 ·have:=(List.getElem?_eq_some_iff.1 h).1;rw[List.length_map];omega
 ·cases h
theorem Qq1(f:α→β){l:List α}{i:Int}{a:α}(h:bq l i=some a):(l.map f)[0+i.toNat]?=some (f a):=by
 have h1:=getM f h;unfold bq at h1;split at h1
 ·rw[Nat.zero_add];exact h1
 ·cases h1
theorem L4(f:α→β)(l:List α)(i:Int)(x:α):(l.map f).set (0+i.toNat) (f x)=(gZ l i x).map f:=by
 rw[Nat.zero_add];unfold gZ;rw[List.map_set]
theorem getSet{l:List α}{i:Int}{a:α}(h:bq l i=some a)(x:α):bq (gZ l i x) i=some x:=by
 unfold bq at *;split at h
 ·rename_i h0;have:=(List.getElem?_eq_some_iff.1 h).1;rw[if_pos h0];unfold gZ;rw[List.getElem?_set_self this]
 ·cases h
theorem vV(f:α→β)(l:List α)(i:Int)(x:α):(l.map f).length=((gZ l i x).map f).length:=by simp [gZ]
theorem QgH(f:α→β)(l m:List α):(l.map f).length=((HA l m).map f).length:=by simp [HA,PI];omega
theorem QmX(f:α→β)(l m:List α):l.map f++m.map f=(l++m).map f:=List.map_append.symm
theorem neM(f:α→β)(l:List α)(h:l≠[]):l.map f≠[]:=by simpa using h
theorem neA(f:α→β)(l m:List α)(h:m≠[]):m.map f=[]→l.map f=[]:=fun h'=>absurd h' (neM f m h)
theorem neZ(f:α→β)(m:List α):m.map f=[]→([]:List β)=[]:=fun _=>rfl
theorem Qjc(f:α→β){l:List α}{b:Nat}(h:e_ l.length b):(l.map f).length*b≤140737488355328:=by rw[List.length_map];exact h
theorem QcK(f:α→β){l:List α}{b:Nat}(hb:0<b)(h:e_ l.length b):(l.map f).length≤9223372036854775807:=by
 rw[List.length_map];unfold e_ at h;have:=Nat.le_mul_of_pos_right l.length hb;omega
theorem QqK{b:Bool}(h:b=false):(!b)=true:=by rw[h];rfl
theorem QqJ{b:Bool}(h:b=true):(!b)=false:=by rw[h];rfl
theorem Qo8(f:α→β)(l m:List α):min (m.map f).length (l.map f).length=PI l m:=by simp [PI]
theorem Qo9(f:α→β)(l m:List α):(m.map f).take (PI l m)++(l.map f).drop (PI l m)=(HA l m).map f:=by simp [HA,List.map_take,List.map_drop]
section
variable {l v : List α} {lo hi : Int}
theorem TH(h:vw l lo hi=some v):(0≤lo∧lo≤hi∧hi≤l.length)∧(l.drop lo.toNat).take (hi.toNat-lo.toNat)=v:=by
 unfold vw at h;split at h
 ·exact⟨‹_›,Option.some.inj h⟩
 ·cases h
theorem Px(h:vw l lo hi=some v):0≤lo:=(TH h).1.1
theorem Py(h:vw l lo hi=some v):lo≤hi:=(TH h).1.2.1
theorem Ap(f:α→β)(h:vw l lo hi=some v):hi≤(l.map f).length:=by rw[List.length_map];exact(TH h).1.2.2
theorem Pz(f:α→β)(h:vw l lo hi=some v):((l.map f).drop lo.toNat).take (hi.toNat-lo.toNat)=v.map f:=by
 unfold vw at h;split at h
 ·rw[←Option.some.inj h,List.map_take,List.map_drop]
 ·cases h
theorem Qov(f:α→β)(h:vw l lo (aC l)=some v):lo≤(l.map f).length:=by rw[List.length_map];exact Py h
theorem Qq4(f:α→β)(h:vw l 0 hi=some v):(l.map f).take hi.toNat=v.map f:=by
 have:=Pz f h;simpa using this
theorem Qow(f:α→β)(h:vw l lo (aC l)=some v):((l.map f).drop lo.toNat).take (((l.map f).length:Int).toNat-lo.toNat)=v.map f:=by
 rw[List.length_map];exact Pz f h
theorem QD{s:ByteArray}{u:Unit}(h:Qbp s lo hi=some u):0≤lo∧lo≤hi∧hi≤s.size:=by
 unfold Qbp at h;split at h
 ·assumption
 ·cases h
theorem ss1{s:ByteArray}{u:Unit}(h:Qbp s lo hi=some u):0≤lo:=(QD h).1
theorem ss2{s:ByteArray}{u:Unit}(h:Qbp s lo hi=some u):lo≤hi:=(QD h).2.1
theorem ss3{s:ByteArray}{u:Unit}(h:Qbp s lo hi=some u):hi≤s.size:=(QD h).2.2
end
section
variable {n m : Int} {b : Nat} {z : α} {l : List α}
theorem R3(h:KY n m b z=some l):(0≤n∧n≤m∧b*m≤140737488355328∧m≤9223372036854775807)∧List.replicate n.toNat z=l:=by
 unfold KY at h;split at h
 ·exact⟨‹_›,Option.some.inj h⟩
 ·cases h
theorem mk1(h:KY n m b z=some l):0≤n:=(R3 h).1.1
theorem mk2(h:KY n m b z=some l):n≤m:=(R3 h).1.2.1
theorem mk3(h:KY n m b z=some l):m≤9223372036854775807:=(R3 h).1.2.2.2
theorem mk4(h:KY n m b z=some l):b*m≤140737488355328:=(R3 h).1.2.2.1
theorem mk5(f:α→β)(h:KY n m b z=some l):List.replicate n.toNat (f z)=l.map f:=by
 unfold KY at h;split at h
 ·rw[←Option.some.inj h,List.map_replicate]
 ·cases h
end
end
end
section
variable {α β S E : Type}
def post(o:Option α)(Q:α→Prop):Prop:=∃a,o=some a∧Q a
theorem post.mono{o:Option α}{Q R:α→Prop}(h:post o Q)(hi:∀a,Q a→R a):post o R:=let⟨a,h1,h2⟩:=h;⟨a,h1,hi a h2⟩
theorem post.eq{o:Option α}{a:α}(h:post o (fun x=>x=a)):o=some a:=by obtain⟨x,h1,rfl⟩:=h;exact h1
@[simp] theorem bg{a:α}{Q:α→Prop}:post (some a) Q↔Q a:=⟨fun⟨_,h1,h2⟩=>by cases h1;exact h2,fun h=>⟨a,rfl,h⟩⟩
@[simp] theorem QmK{Q:α→Prop}:post none Q↔False:=⟨fun⟨_,h1,_⟩=>by(cases h1),False.elim⟩
theorem bA{b:Bool}{x y:Option α}{Q:α→Prop}(h1:b=true→post x Q)(h2:b=false→post y Q):post (br b x y) Q:=by
 cases b
 ·exact h2 rfl
 ·exact h1 rfl
theorem b_{o:Option α}{f:α→Option β}{Q:β→Prop}{R:α→Prop}(h:post o R)(h2:∀a,R a→post (f a) Q):post (aS o f) Q:=by
 obtain⟨a,rfl,h1⟩:=h;exact h2 a h1
theorem tW{o:Option α}{f:α→Option β}{Q:β→Prop}(h:post o (fun a=>post (f a) Q)):post (aS o f) Q:=b_ h fun _ h=>h
theorem dd{p:Prop} [Decidable p] {x:Option α}{Q:α→Prop}(h1:p)(h2:post x Q):post (eH p x) Q:=by
 unfold eH;rw[if_pos h1];exact h2
@[simp] theorem dc{x y:Option α}:br true x y=x:=rfl
@[simp] theorem cL{x y:Option α}:br false x y=y:=rfl
theorem bl{b:Bool}{x y:Option α}(h:b=true):br b x y=x:=by rw[h];rfl
theorem a_{b:Bool}{x y:Option α}(h:b=false):br b x y=y:=by rw[h];rfl
theorem NK{b:Bool}{x y:Option α}:br b x y=if b=true then x else y:=by cases b <;> rfl
@[simp] theorem ai{a:α}{f:α→Option β}:aS (some a) f=f a:=rfl
theorem bY{o:Option α}{a:α}{f:α→Option β}(h:o=some a):aS o f=f a:=by rw[h];rfl
theorem ch{p:Prop} [Decidable p] {x:Option α}(h:p):eH p x=x:=if_pos h
@[simp] theorem en{A B γ:Type}{a:A}{f:A→γ}{g:B→γ}:jf (.inl a) f g=f a:=rfl
@[simp] theorem q7{A B γ:Type}{b:B}{f:A→γ}{g:B→γ}:jf (.inr b) f g=g b:=rfl
theorem Qfk [DecidableEq α] {x:Option α}:amb x x=x:=by unfold amb;rw[if_pos rfl]
theorem Qgy{B:S→Option (S⊕E)}(C:S→Prop)(m:S→Nat)(Q:E→Prop)
  (h:∀s,C s→post (B s) fun x=>(∀s',x=.inl s'→C s'∧m s'<m s)∧∀e,x=.inr e→Q e):∀(n:Nat) (s:S),C s→m s<n→post (uh B n s) Q:=by
 intro n;induction n with
 |zero=>intro s _ hm;omega
 |succ n ih =>
  intro s hs hm;obtain⟨x,hx,h1,h2⟩:=h s hs;simp only[uh,hx];cases x with
  |inl s' =>
   obtain⟨h3,h4⟩:=h1 s' rfl;exact ih s' h3 (by omega)
  |inr e=>exact⟨e,rfl,h2 e rfl⟩
theorem fj{B:S→Option (S⊕E)}(C:S→Prop)(m:S→Nat){Q:E→Prop}{s:S}(hs:C s)(hm:m s<18446744073709551616)
  (h:∀s,C s→post (B s) fun x=>(∀s',x=.inl s'→C s'∧m s'<m s)∧∀e,x=.inr e→Q e):post (aK B s) Q:=Qgy C m Q h _ s hs hm
theorem Y1{B:S→Option (S⊕E)}{e:E}:∀(n:Nat) (st:Nat→S),(∀i,i<n→B (st i)=some (.inl (st (i+1))))→B (st n)=some (.inr e)→uh B (n+1) (st 0)=some e
 |0,st,_,he=>by simp only[uh,he]
 |n+1,st,hs,he=>by
  have h0:=hs 0 (by omega)
  rw[uh];rw[h0];exact Y1 n (fun i=>st (i+1)) (fun i hi=>hs (i+1) (by omega)) he
theorem dj{B:S→Option (S⊕E)}{e:E}(n:Nat)(st:Nat→S)(hn:n<18446744073709551616)(hs:∀i,i<n→B (st i)=some (.inl (st (i+1))))(he:B (st n)=some (.inr e)):aK B (st 0)=some e:=
 EP (n+1) hn (Y1 n st hs he)
theorem fO{x:S}{C:S→Prop}{Q:E→Prop}(h:C x):post (some (Sum.inl x:S⊕E)) fun y=>(∀s',y=.inl s'→C s')∧∀e,y=.inr e→Q e:=
 ⟨_,rfl,fun _ he=>by cases he;exact h,fun _ he=>by cases he⟩
theorem ef{x:E}{C:S→Prop}{Q:E→Prop}(h:Q x):post (some (Sum.inr x:S⊕E)) fun y=>(∀s',y=.inl s'→C s')∧∀e,y=.inr e→Q e:=
 ⟨_,rfl,fun _ he=>by(cases he),fun _ he=>by cases he;exact h⟩
end
section
variable {a b : Int}
theorem ig(h:-9223372036854775808≤a+b)(h':a+b≤9223372036854775807):aY .i64 a b=a+b:=IntWalk.i64_in _ ⟨h,h'⟩
theorem v9(h:-9223372036854775808≤a-b)(h':a-b≤9223372036854775807):dZ .i64 a b=a-b:=IntWalk.i64_in _ ⟨h,h'⟩
theorem Qi5(h:-9223372036854775808≤a*b)(h':a*b≤9223372036854775807):m_ .i64 a b=a*b:=IntWalk.i64_in _ ⟨h,h'⟩
theorem Qg3(h:-9223372036854775808≤a.tdiv b)(h':a.tdiv b≤9223372036854775807):uw .i64 a b=a.tdiv b:=IntWalk.i64_in _ ⟨h,h'⟩
@[simp] theorem fS:aT a b=true↔a<b:=by simp [aT]
@[simp] theorem ui:jD a b=true↔a≤b:=by simp [jD]
@[simp] theorem qi:cQ a b=true↔b<a:=by simp [cQ]
@[simp] theorem kP:bZ a b=true↔b≤a:=by simp [bZ]
@[simp] theorem pJ:bP a b=true↔a=b:=by simp [bP]
@[simp] theorem wk:cA a b=true↔a≠b:=by simp [cA]
@[simp] theorem jG:aT a b=false↔b≤a:=by simp [aT]
@[simp] theorem Q8:jD a b=false↔b<a:=by simp [jD]
@[simp] theorem nq:cQ a b=false↔a≤b:=by simp [cQ]
@[simp] theorem Hk:bZ a b=false↔a<b:=by simp [bZ]
@[simp] theorem xC:bP a b=false↔a≠b:=by simp [bP]
@[simp] theorem J0:cA a b=false↔a=b:=by simp [cA]
theorem Bn:zz a b=max a b:=by unfold zz;split <;> omega
@[simp] theorem Qrd{x y:Bool}:T0 x y=true↔x=y:=by simp [T0]
@[simp] theorem Qrc{x y:Bool}:T0 x y=false↔x≠y:=by simp [T0]
end
section
variable {α : Type} {l : List α} {i : Int}
theorem bt{k:Nat}{a:α}(h:l[k]?=some a):bq l (k:Int)=some a:=by
 unfold bq;rw[if_pos (by omega)];simpa using h
theorem Dg(h0:0≤i)(h1:i<l.length):bq l i=some (l[i.toNat]'(by omega)):=by
 unfold bq;rw[if_pos h0];exact List.getElem?_eq_getElem (by omega)
theorem QaD{k:Nat}(h:k<l.length):bq l (k:Int)=some l[k]:=bt (List.getElem?_eq_getElem h)
@[simp] theorem Qn4:aC ([]:List α)=0:=rfl
theorem Qo2:aC l=l.length:=rfl
end
def lI(n:Int):Lf:=.int .i64 n
def lL{α:Type}(sz:Nat)(l:List α)(e:α→List Lf):Lf:=.sl false sz (l.map e)
def lO{α:Type}(id sz:Nat)(l:List α)(e:α→List Lf):Lf:=.os id sz 0 (l.map e).length
end Go.Proofs.YtbilkblifgaflaaGreatDoor
