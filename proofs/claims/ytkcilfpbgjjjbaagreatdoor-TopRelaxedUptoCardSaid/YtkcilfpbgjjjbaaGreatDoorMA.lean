/- Part MA. -/
import Derived.Test.YtkcilfpbgjjjbaaGreatDoorMI
import Derived.WalkKit
import Derived.WalkSpells
import Derived.WalkLawsBesides
import Derived.StillTail
import Derived.Lib.Hide
import Derived.Deep.MidRow
import Derived.Deep.AppendSrc
import Derived.Great.BuildSlice
import Derived.KernelRfl
import Derived.Laws.BytesString
set_option linter.unusedSimpArgs false
set_option linter.unusedVariables false
set_option linter.unusedSectionVars false
namespace Go.Proofs.YtkcilfpbgjjjbaaGreatDoor
inductive Lf where
 |any
 |int (k:IntKind) (n:Int)
 |bool (b:Bool)
 |str (s:I)
 |L3
 |fk
 |ip (cells:List Lf) (off:Nat)
 |op (id sz row off:Nat)
 |sl (cl:Bool) (sz:Nat) (rows:List (List Lf))
 |os (id sz off len:Nat)
 |fn (f:Fn) (gZ:List Lf)
 |mp (id:Nat)
 |bs (id n sz:Nat)
inductive Cm where
 |one (l:Lf)
 |agg (ls:List Lf)
inductive AV where
 |cm (c:Cm)
 |j0 (cs:List Cm)
 |gd (p:Prop) (c:Cm)
 |PY
 |pM
 |vl (v:Value) (c:Cm)
structure Ob where
 box:Bool
 sz:Nat
 J0:TypeId
 rows:List (List Lf)
inductive Hint where
 |bit (b:Bool)
 |spec
 |skip
 |cells (c:List Lf)
 |rows (r:List (List Lf))
 |num (n:Nat)
 |pos (n:Nat)
 |byte (b:UInt8)
 |ints (l:List Int)
 |draw (n:Nat) (cl:List (Nat×Nat))
 |call (ids:List Nat) (r:AV) (out:List (O Ob))
 |wait (n:Nat)
 |ng (id:Nat)
 |Qmz (id:Nat)
 |Dt (id n:Nat)
 |D1 (t k sz:Nat)
 |nJ (id k sz:Nat)
 |nP (t:Nat) (sz:Nat) (e:TypeId)
 |QaV (id cell:Nat) (sz:Nat) (e:TypeId)
def aV(k:IntKind)(a b:Int):Int:=k.wrap (a+b)
def cX(k:IntKind)(a b:Int):Int:=k.wrap (a-b)
def nh(k:IntKind)(a b:Int):Int:=k.wrap (a*b)
def q_(k:IntKind)(a b:Int):Int:=k.wrap (a.tdiv b)
def wV(a b:Int):Int:=a.tmod b
def MO(k:IntKind)(a b:Int):Int:=k.wrap (BitVec.ofInt k.bits a &&& BitVec.ofInt k.bits b).toNat
def QA(k:IntKind)(a b:Int):Int:=k.wrap (BitVec.ofInt k.bits a |||BitVec.ofInt k.bits b).toNat
def QqT(k:IntKind)(a b:Int):Int:=k.wrap (BitVec.ofInt k.bits a ^^^ BitVec.ofInt k.bits b).toNat
def uO(k:IntKind)(a b:Int):Int:=k.wrap (BitVec.ofInt k.bits a &&& ~~~BitVec.ofInt k.bits b).toNat
def uh(k:IntKind)(a b:Int):Int:=k.wrap (a*2 ^ min b.toNat k.bits)
def AZ(k:IntKind)(a b:Int):Int:=a.fdiv (2 ^ min b.toNat k.bits)
def Bn(k:IntKind)(a:Int):Int:=k.wrap a
def bh(a b:Int):Bool:=decide (a<b)
def gB(a b:Int):Bool:=decide (a<=b)
def dt(a b:Int):Bool:=decide (a>b)
def cT(a b:Int):Bool:=decide (a≥b)
def dk(a b:Int):Bool:=a == b
def cp(a b:Int):Bool:=a != b
def vZ(a b:Int):Int:=if b>a then b else a
def QbX(a b:Int):Int:=if b<a then b else a
def GL(a b:Bool):Bool:=a == b
def qe(a b:I):Bool:=a.toList == b.toList
def ltS(a b:I):Bool:=Op.bytesLess a.toList b.toList
def ee(a b:I):I:=a++b
def bn{α:Type}(l:List α)(i:Int):O α:=if 0<=i then l[i.toNat]? else none
def ay{α:Type}(l:List α):Int:=l.length
def ca(s:I):Int:=s.size
def y8(s:I)(i:Int):O UInt8:=if 0<=i then s[i.toNat]? else none
def cQ(b:UInt8):Int:=b.toNat
def QiP(n:Int):I:=Utf8.encode n
def wC(l:List Int):I:=⟨(l.map λn=>UInt8.ofNat n.toNat).toArray⟩
def dF:List Prop->Prop
 | []=>True
 |p ::r=>p/\dF r
def ofConst:Value->O Lf
 | .int k n=>some (.int k n)
 | .bool b=>some (.bool b)
 | .string s=>some (.str s)
 | .pointer none=>some .L3
 | .slice none 0 0=>some .fk
 | .nilFunc=>some .any
 | .map none=>some .any
 | .func f first gZ=>bif first.size == 0&&gZ.size == 0 then some (.fn f [])else none
 |_=>none
def EU:List Value->O (List Lf)
 | []=>some []
 |v ::r=>match ofConst v,EU r with
  |some l,some ls=>some (l ::ls)
  |_,_=>none
def Wx:Value->O Cm
 | .agg cs=>(EU cs.toList).map .agg
 |v=>(ofConst v).map .one
def look:List (Nat×AV)->Nat->AV
 | [],_=>.PY
 |(k,v) ::r,t=>bif k == t then v else look r t
def y6(L:Nat->AV):Operand->AV
 | .tmp t=>match L t with
  | .vl _ c=>.cm c
  |a=>a
 | .const v=>match Wx v with
  |some c=>.cm c
  |none=>.PY
 | .func f=>.cm (.one (.fn (.func f) []))
 | .global _=>.PY
def qb(g:Prop):AV->O (Cm×List Prop)
 | .cm c=>some (c,[])
 | .gd p c=>some (c,[g->p])
 |_=>none
def Cm.cells:Cm->List Lf
 | .one l=>[l]
 | .agg ls=>ls
structure OD where
 v:AV
 news:List Ob
 fU:List Prop
 hs:List Hint
def CF(P:Program)(t:TypeId):O Nat:=(P.info? t).map (·.size)
def A1(P:Program)(t:TypeId):O Bool:=(P.underlying t).map TypeDesc.isRow
def wb(row:Bool)(n off:Nat)(cells:List Lf):O Cm:=
 bif row then(bif ((cells.drop off).take n).length == n then some (.agg ((cells.drop off).take n))else none)
 else(cells[off]?).map .one
def JQ(P:Program)(t:TypeId):O (List Lf):=
 match P.info? t with
 |some i=>match i.zero with
  |some z=>bif z.cells.size == i.size&&!(i.size == 0)then EU z.cells.toList else none
  |none=>none
 |none=>none
def Qgz(op:BinOp)(k:IntKind)(a b:Int):O (Lf×List Prop):=
 match op with
 | .add=>some (.int k (aV k a b),[])
 | .sub=>some (.int k (cX k a b),[])
 | .mul=>some (.int k (nh k a b),[])
 | .quo=>some (.int k (q_ k a b),[b≠0])
 | .rem=>some (.int k (wV a b),[b≠0])
 | .and=>some (.int k (MO k a b),[])
 | .or=>some (.int k (QA k a b),[])
 | .xor=>some (.int k (QqT k a b),[])
 | .andNot=>some (.int k (uO k a b),[])
 | .eql=>some (.bool (dk a b),[])
 | .neq=>some (.bool (cp a b),[])
 | .lss=>some (.bool (bh a b),[])
 | .leq=>some (.bool (gB a b),[])
 | .gtr=>some (.bool (dt a b),[])
 | .geq=>some (.bool (cT a b),[])
 |_=>none
def QgB(op:BinOp)(a b:I):O (Lf×List Prop):=
 match op with
 | .add=>some (.str (ee a b),[a.size+b.size<=9223372036854775807])
 | .eql=>some (.bool (qe a b),[])
 | .neq=>some (.bool (!qe a b),[])
 | .lss=>some (.bool (ltS a b),[])
 |_=>none
def Qhr:TypeDesc->Lf->Lf->O Bool
 | .int _,.int k a,.int k' b=>bif decide (k=k')then some (dk a b)else none
 | .bool,.bool a,.bool b=>some (GL a b)
 | .string,.str a,.str b=>some (a == b)
 |_,_,_=>none
def nS:List TypeDesc->List Lf->List Lf->O Bool
 | [],[],[]=>some true
 |u ::us,x ::xs,y ::ys=>match Qhr u x y,nS us xs ys with
  |some a,some b=>some (a&&b)
  |_,_=>none
 |_,_,_=>none
def YX(P:Program):Nat->List Field->O (List TypeDesc)
 |_,[]=>some []
 | k,f :: fs=>bif f.offset == k&&!(f.name == "_")&&(A1 P f.type == some false) then
   match P.underlying f.type,YX P (k+1) fs with
   |some u,some us=>some (u ::us)
   |_,_=>none
  else none
def Qll(P:Program)(t:TypeId):O (List TypeDesc):=
 match P.underlying t with
 |some (.struct fs)=>bif !P.stoodInHeld t&&!P.eqGuardType P.depth t then YX P 0 fs.toList else none
 |_=>none
def Qlk(P:Program)(t:TypeId):O (List TypeDesc):=
 match P.underlying t with
 |some (.array n e)=>bif !P.eqGuardType P.depth t&&(A1 P e == some false)&&(CF P e == some 1)then(P.underlying e).map (List.replicate n)else none
 |_=>none
def Qme(P:Program)(op:BinOp)(t:TypeId):Cm->Cm->O (Lf×List Prop)
 | .one (.int k a),.one (.int k' b) =>
  (match op with
  | .shl=>some (.int k (uh k a b),[0<=b])
  | .shr=>some (.int k (AZ k a b),[0<=b])
  |_=>if k=k' then Qgz op k a b else none)
 | .one (.str a),.one (.str b)=>QgB op a b
 | .one (.bool a),.one (.bool b) =>
  (match op,P.underlying t with
  | .eql,some .bool=>some (.bool (GL a b),[])
  | .neq,some .bool=>some (.bool (!GL a b),[])
  |_,_=>none)
 | .agg xs,.agg ys =>
  (match Qll P t with
  |some us =>
   (match op,nS us xs ys with
   | .eql,some e=>some (.bool e,[])
   | .neq,some e=>some (.bool (!e),[])
   |_,_=>none)
  |none=>(match Qlk P t with
   |some us =>
    (match op,nS us xs ys with
    | .eql,some e=>some (.bool e,[])
    | .neq,some e=>some (.bool (!e),[])
    |_,_=>none)
   |none=>none))
 |_,_=>none
def QcK:List Lf->List Lf->Bool
 | [],[]=>true
 |x ::xs,y ::ys=>(match x,y with
  | .int k a,.int k' b=>decide (k=k')&&a == b
  | .bool a,.bool b=>a == b
  | .str a,.str b=>a.size == 0&&b.size == 0
  | .fk,.sl false _ []=>true
  |_,_=>false)&&QcK xs ys
 |_,_=>false
def K8(e:TypeId)(cells:List Lf):Ob:=⟨true,cells.length,e,[cells]⟩
def O_:Lf->Bool
 | .op ..=>false
 | .os ..=>false
 | .fn _ (_ ::_)=>false
 | .mp _=>false
 | .bs ..=>false
 |_=>true
def Qk(place:Nat->O (Nat×Nat))(cells:List Lf):List (Nat×List Lf)->O (List Lf)
 | []=>some cells
 |(i,v) ::rest=>match place i with
  |none=>none
  |some (off,size) =>
   bif v.length == size&&Nat.ble (off+size) cells.length then Qk place (cells.take off++v++cells.drop (off+size)) rest
   else none
def Tl(L:Nat->AV)(g:Prop):List (Nat×Operand)->O (List (Nat×List Lf)×List Prop)
 | []=>some ([],[])
 |(i,x) ::r=>match qb g (y6 L x),Tl L g r with
  |some (c,o),some (cs,os)=>some ((i,c.cells) ::cs,o++os)
  |_,_=>none
def Ia(L:Nat->AV)(g:Prop):List Operand->O (List Cm×List Prop)
 | []=>some ([],[])
 |x ::r=>match qb g (y6 L x),Ia L g r with
  |some (c,o),some (cs,os)=>some (c ::cs,o++os)
  |_,_=>none
def Xa:Lf->Bool
 | .fn ..=>true
 |_=>false
def Qc1:List Cm->O (List Lf)
 | []=>some []
 | .one l ::r=>match Qc1 r with
  |some ls=>bif Xa l then none else some (l ::ls)
  |none=>none
 | .agg _ ::_=>none
def placesOf(P:Program)(t:TypeId):O (Nat->O (Nat×Nat)):=
 match P.underlying t with
 |some (.array _ e)=>(P.info? e).map λie i=>some (i*ie.size,ie.size)
 |some (.struct fields) =>
  (fields.toList.mapM (λf=>(P.info? f.type).map λi=>(f.offset,i.size))).map λps i=>ps[i]?
 |_=>none
def chunk(sz:Nat):Nat->List Lf->List (List Lf)
 |0,_=>[]
 |n+1,l=>l.take sz ::chunk sz n (l.drop sz)
def r_(P:Program)(t:TypeId):O TypeId:=
 match P.underlying t with
 |some (.slice e)=>some e
 |_=>none
def RE(P:Program)(t:TypeId)(f:Nat):O (Nat×Nat×Bool):=
 match P.underlying t with
 |some (.struct fs)=>match fs[f]? with
  |some fd=>match CF P fd.type,A1 P fd.type with
   |some n,some r=>bif n == 0 then none else some (fd.offset,n,r)
   |_,_=>none
  |none=>none
 |_=>none
def QbT(h:Nat->O Ob):Lf->O (Lf×List Prop)
 | .os id sz off len=>match h id with
  |some ob=>bif off == 0&&!ob.box&&ob.sz == sz then some (.sl false sz ob.rows,[ob.rows.length=len])else none
  |none=>none
 | .op ..=>none
 | .fn ..=>none
 | .mp _=>none
 | .bs ..=>none
 |l=>some (l,[])
def J6(h:Nat->O Ob):List Lf->O (List Lf×List Prop)
 | []=>some ([],[])
 |l ::r=>match QbT h l,J6 h r with
  |some (x,o),some (xs,os)=>some (x ::xs,o++os)
  |_,_=>none
def Xi(h:Nat->O Ob)(rows:List (List Lf))(sz len:Nat):O (Lf×List Prop):=
 match rows with
 | [cells]=>(J6 h cells).map λp=>(.sl false sz [p.1],(1=len) ::p.2)
 |_=>none
def Qu(h:Nat->O Ob):Lf->O (Lf×List Prop)
 | .os id sz off len=>match h id with
  |some ob=>bif off == 0&&!ob.box&&ob.sz == sz then some (.sl false sz ob.rows,[ob.rows.length=len])else
   bif off == 0&&ob.box&&ob.sz == sz then Xi h ob.rows sz len else none
  |none=>none
 | .op id sz row off=>match h id with
  |some ob=>bif ob.box&&row == 0 then(match ob.rows with
   | [cells]=>bif cells.all O_ then some (.ip cells off,[])else none
   |_=>none)else none
  |none=>none
 | .fn ..=>none
 | .mp _=>none
 | .bs ..=>none
 |l=>some (l,[])
def S9(h:Nat->O Ob):List Lf->O (List Lf×List Prop)
 | []=>some ([],[])
 |l ::r=>match Qu h l,S9 h r with
  |some (x,o),some (xs,os)=>some (x ::xs,o++os)
  |_,_=>none
def Vr(h:Nat->O Ob):Lf->O (Lf×List Prop)
 | .fn f gZ=>(S9 h gZ).map λ(x,o)=>(.fn f x,o)
 |l=>Qu h l
def S_(h:Nat->O Ob):List Lf->O (List Lf×List Prop)
 | []=>some ([],[])
 |l ::r=>match Vr h l,S_ h r with
  |some (x,o),some (xs,os)=>some (x ::xs,o++os)
  |_,_=>none
def QdF(h:Nat->O Ob):Cm->O (Cm×List Prop)
 | .one l=>(Vr h l).map λ(x,o)=>(.one x,o)
 | .agg ls=>(S_ h ls).map λ(x,o)=>(.agg x,o)
def Xj(h:Nat->O Ob):List Cm->O (List Cm×List Prop)
 | []=>some ([],[])
 |c ::r=>match QdF h c,Xj h r with
  |some (x,o),some (xs,os)=>some (x ::xs,o++os)
  |_,_=>none
def Qb_:Lf->Bool
 | .int ..=>true
 | .bool _=>true
 | .str _=>true
 | .any=>true
 |_=>false
def Qb9:Cm->Bool
 | .one l=>Qb_ l
 | .agg ls=>ls.all Qb_
def XC:AV->Bool
 | .cm c=>Qb9 c
 | .j0 cs=>cs.all Qb9
 |_=>false
def one(l:Lf):AV:=.cm (.one l)
def rowsOf(h:Nat->O Ob):Lf->O (Nat×List (List Lf)×List Prop)
 | .fk=>some (0,[],[])
 | .sl _ sz rows=>some (sz,rows,[])
 | .os id sz off len=>match h id with
  |some ob=>bif off == 0&&!ob.box&&ob.sz == sz then some (sz,ob.rows,[ob.rows.length=len])else none
  |none=>none
 |_=>none
def Qbe(P:Program)(h:Nat->O Ob)(base:Nat)(d x:Lf)(t t':TypeId)(hs:List Hint):O OD:=
 (match r_ P t with
 |some e=>match P.info? e,rowsOf h x,JQ P e with
  |some i,some (sz,new,o),some z =>
   bif t == t'&&(sz == i.size||new.isEmpty)then
    (match d,hs with
    | .fk,.rows R ::fK=>some ⟨one (.os base i.size 0 R.length),[⟨false,i.size,e,R⟩],o++[new=R,R.length*i.bytes<=140737488355328,R.length<=9223372036854775807],fK⟩
    | .sl true jQ rows,.rows R ::fK =>
     bif jQ == i.size||rows.isEmpty then
      some ⟨one (.os base i.size 0 R.length),[⟨false,i.size,e,R⟩],o++[rows++new=R,new=[]->rows=[]]++[R.length*i.bytes<=140737488355328,R.length<=9223372036854775807],fK⟩
     else none
    |_,_=>none)
   else none
  |_,_,_=>none
 |none=>none)
def zG(P:Program)(h:Nat->O Ob)(base:Nat)(b:Builtin)(args:List Cm)(tys:List TypeId)(hs:List Hint):O OD:=
 match b,args,tys with
 | .len,[.one l],[t] =>
  (match l,P.underlying t with
  | .str s,some .string=>some ⟨one (.int .i64 (ca s)),[],[],hs⟩
  | .fk,some (.slice _)=>some ⟨one (.int .i64 0),[],[],hs⟩
  | .bs _ len _,some (.slice _)=>some ⟨one (.int .i64 len),[],[],hs⟩
  | .os _ _ _ len,some (.slice _) =>
   (match hs with
   | .num n ::fK=>some ⟨one (.int .i64 n),[],[len=n],fK⟩
   |_=>none)
  | .sl _ _ rows,some (.slice _) =>
   (match hs with
   | .num n ::fK=>some ⟨one (.int .i64 n),[],[rows.length=n],fK⟩
   |_=>none)
  |_,_=>none)
 | .cap,[.one .fk],[t] =>
  (match P.underlying t with
  |some (.slice _)=>some ⟨one (.int .i64 0),[],[],hs⟩
  |_=>none)
 | .max,[.one (.int k a),.one (.int _ b)],_=>some ⟨one (.int k (vZ a b)),[],[],hs⟩
 | .min,[.one (.int k a),.one (.int _ b)],_=>some ⟨one (.int k (QbX a b)),[],[],hs⟩
 | .append,[.one .fk,.one (.int k n)],[t,t'] =>
  (match r_ P t,P.underlying t',hs with
  |some e,some (.int _),.cells z' :: .rows R ::fK =>
   (match P.info? e,JQ P e with
   | some ie,some z=>bif QcK z z'&&decide (k=.i64) then some ⟨one (.os base ie.size 0 R.length),[⟨false,ie.size,e,R⟩],
     [0<=n,n<=9223372036854775807,ie.bytes*n<=140737488355328,List.replicate n.toNat z'=R],fK⟩else none
   |_,_=>none)
  |_,_,_=>none)
 | .append,[.one d,.one x],[t,t']=>Qbe P h base d x t t' hs
 |_,_,_=>none
def QgV(c:O Cm):O (O Int):=match c with
 |none=>some none
 |some (.one (.int _ n))=>some (some n)
 |_=>none
def SK(P:Program)(h:Nat->O Ob)(t:TypeId)(x:Cm)(lo hi mx:O Cm)(hs:List Hint):O OD:=
 match x,QgV lo,QgV hi,QgV mx with
 | .one (.str s),some lo,some hi,some none =>
  (match P.underlying t with
  |some .string =>
   some ⟨one (.str (s.extract (lo.getD 0).toNat (hi.getD s.size).toNat)),[],[0<=lo.getD 0,lo.getD 0<=hi.getD s.size,hi.getD s.size<=s.size],hs⟩
  |_=>none)
 | .one .fk,some lo,some hi,some none =>
  (match r_ P t with
  |some e=>bif (CF P e).isSome then some ⟨one .fk,[],[0<=lo.getD 0,lo.getD 0<=hi.getD 0,hi.getD 0<=0],hs⟩else none
  |none=>none)
 | .one (.sl cl sz rows),some lo,some hi,some mx =>
  (match r_ P t,hs with
  |some e,.rows R ::fK =>
   bif CF P e == some sz||rows.isEmpty&&(CF P e).isSome then
    some ⟨one (.sl (mx.isSome||cl&&hi.isNone) sz R),[],
     (match mx,hi with
     |some m,some n=>[m=n]
     |some _,none=>[False]
     |_,_=>[])++[0<=lo.getD 0,lo.getD 0<=hi.getD rows.length,hi.getD rows.length<=rows.length,hi.getD rows.length<=mx.getD (hi.getD rows.length),mx.getD (hi.getD rows.length)<=rows.length,
      (rows.drop (lo.getD 0).toNat).take ((hi.getD rows.length).toNat-(lo.getD 0).toNat)=R],fK⟩
   else none
  |_,_=>none)
 |_,_,_,_=>none
def QiA(L:Nat->AV)(g:Prop):O Operand->O (O Cm×List Prop)
 |none=>some (none,[])
 |some x=>(qb g (y6 L x)).map λ(c,o)=>(some c,o)
def Mc:Lf->Lf->O Bool
 | .int k a,.int k' b=>if k=k' then some (a == b)else none
 | .str a,.str b=>some (a == b)
 |_,_=>none
def xt:List Lf->List Lf->O Bool
 | [],[]=>some true
 |k ::ks,k' ::Nt=>match Mc k k',xt ks Nt with
  |some a,some b=>some (a&&b)
  |_,_=>none
 |_,_=>none
def EN:List (List Lf)->List Lf->Lf->O Lf
 | [],_,z=>some z
 |(v ::k') ::r,k,z=>match xt k k' with
  |some true=>some v
  |some false=>EN r k z
  |none=>none
 | [] ::_,_,_=>none
def ND:List (List Lf)->List Lf->O Bool
 | [],_=>some false
 |(_ ::k') ::r,k=>match xt k k' with
  |some true=>some true
  |some false=>ND r k
  |none=>none
 | [] ::_,_=>none
def Cl:List (List Lf)->List Lf->Lf->O (List (List Lf))
 | [],k,v=>some [v ::k]
 |(v' ::k') ::r,k,v=>match xt k k' with
  |some true=>some ((v ::k) ::r)
  |some false=>(Cl r k v).map ((v' ::k') :: ·)
  |none=>none
 | [] ::_,_,_=>none
def Gd:List (List Lf)->O (List (List Lf))
 | [] :: [] ::r=>some r
 |_=>none
def IL(P:Program)(kt:TypeId):Lf->Bool
 | .int k _=>(match P.underlying kt with
  |some (.int k')=>decide (k=k')
  |_=>false)
 | .str _=>(match P.underlying kt with
  |some .string=>true
  |_=>false)
 |_=>false
def cK:List TypeDesc->List Lf->Bool
 | [],[]=>true
 | .int k ::us,.int k' _ ::ls=>decide (k=k')&&cK us ls
 | .string ::us,.str _ ::ls=>cK us ls
 |_,_=>false
def A6(P:Program):Nat->List Field->O (List TypeDesc)
 |_,[]=>some []
 | k,f :: fs=>bif f.offset == k&&!(f.name == "_") then
   match A1 P f.type,P.underlying f.type with
   |some false,some u=>(A6 P (k+1) fs).map (u :: ·)
   | some true,some (.array n e)=>bif (A1 P e == some false)&&(CF P e == some 1)&&(CF P f.type == some n) then
     (match P.underlying e with
     |some u=>(A6 P (k+n) fs).map (List.replicate n u++·)
     |none=>none)else none
   |_,_=>none
  else none
def Qhs(P:Program)(t:TypeId):O (List TypeDesc):=
 match P.underlying t with
 |some (.struct fs)=>bif !P.stoodInHeld t then A6 P 0 fs.toList else none
 |_=>none
def IK(P:Program)(kt:TypeId):Cm->Bool
 | .one k=>IL P kt k
 | .agg ks=>Nat.ble 2 ks.length&&(match Qhs P kt with
  |some us=>cK us ks
  |none=>false)
def zeroV(P:Program)(t:TypeId):O Lf:=
 match P.info? t with
 |some i=>(match i.zero with
  |some z=>ofConst z
  |none=>none)
 |none=>none
def WK(P:Program)(h:Nat->O Ob)(base:Nat)(g:Prop)(L:Nat->AV)(op:Op)(hs:List Hint):O OD:=
 match op with
 | .makeMap t none=>(match P.underlying t with
  |some (.map _ _)=>some ⟨one (.mp base),[⟨true,1,t,[[],[]]⟩],[],hs⟩
  |_=>none)
 | .lookup t x i false =>
  (match P.underlying t,qb g (y6 L x),qb g (y6 L i),hs with
  |some (.map kt vt),some (.one (.mp id),o),some (k,o'),.cells [v] ::fK =>
   (match h id,zeroV P vt with
   |some ob,some z =>
    (match Gd ob.rows with
    |some rs=>bif ob.box&&IK P kt k then some ⟨one v,[],o++o'++[EN rs k.cells z=some v],fK⟩else none
    |none=>none)
   |_,_=>none)
  |_,_,_,_=>none)
 | .lookup t x i true =>
  (match P.underlying t,qb g (y6 L x),qb g (y6 L i),hs with
  |some (.map kt vt),some (.one (.mp id),o),some (k,o'),.cells [v,.bool b] ::fK =>
   (match h id,zeroV P vt with
   |some ob,some z =>
    (match Gd ob.rows with
    |some rs=>bif ob.box&&IK P kt k then some ⟨.j0 [.one v,.one (.bool b)],[],o++o'++[EN rs k.cells z=some v,ND rs k.cells=some b],fK⟩else none
    |none=>none)
   |_,_=>none)
  |_,_,_,_=>none)
 |_=>none
def Qbf(P:Program)(L:Nat->AV)(g:Prop)(op:BinOp)(t:TypeId)(x y:Operand)(hs:List Hint):O OD:=
 match qb g (y6 L x),qb g (y6 L y)with
 |some (a,o),some (b,o')=>(Qme P op t a b).map λ(l,o2)=>⟨one l,[],o++o'++o2,hs⟩
 |_,_=>none
def Qbg(P:Program)(h:Nat->O Ob)(L:Nat->AV)(g:Prop)(op:BinOp)(t:TypeId)(x y:Operand)(hs:List Hint):O OD:=
 match op,qb g (y6 L x),qb g (y6 L y),P.underlying t with
 | .eql,some (.one l,o),some (.one .fk,o'),some (.slice _) =>
  (match rowsOf h l,hs with
  |some _,.skip ::fK=>some ⟨.pM,[],o++o',fK⟩
  |some (_,rows,o2),.bit false ::fK=>some ⟨one (.bool false),[],o++o'++o2++[rows≠[]],fK⟩
  |_,_=>none)
 | .neq,some (.one l,o),some (.one .fk,o'),some (.slice _) =>
  (match rowsOf h l,hs with
  |some (_,rows,o2),.bit true ::fK=>some ⟨one (.bool true),[],o++o'++o2++[rows≠[]],fK⟩
  |_,_=>none)
 |_,_,_,_=>none
def AJ(P:Program)(h:Nat->O Ob)(base:Nat)(g:Prop)(L:Nat->AV)(op:Op)(hs:List Hint):O OD:=
 match op with
 | .move x|.assign x =>
  (match y6 L x with
  | .cm c=>some ⟨.cm c,[],[],hs⟩
  | .j0 cs=>some ⟨.j0 cs,[],[],hs⟩
  | .gd p c=>some ⟨.cm c,[],[g->p],hs⟩
  | .PY=>none
  | .pM=>some ⟨.pM,[],[],hs⟩
  | .vl _ _=>none)
 | .pick c a b =>
  (match qb g (y6 L c),hs with
  |some (.one (.bool bc),o),.spec ::fK =>
   (match qb (g/\bc=true) (y6 L a),qb (g/\bc=false) (y6 L b)with
   |some (.one (.bool x),oa),some (.one (.bool y),ob)=>some ⟨one (.bool (cond bc x y)),[],o++oa++ob,fK⟩
   |_,_=>none)
  |some (.one (.bool bc),o),.bit t ::fK =>
   (qb g (y6 L (cond t a b))).map λ(x,o')=>⟨.cm x,[],o++[bc=t]++o',fK⟩
  |_,_=>none)
 | .alloc e=>(JQ P e).map λcells=>⟨one (.op base cells.length 0 0),[K8 e cells],[],hs⟩
 | .box e x =>
  (match qb g (y6 L x)with
  |some (c,o)=>bif c.cells.isEmpty then none else some ⟨one (.op base c.cells.length 0 0),[K8 e c.cells],o,hs⟩
  |none=>none)
 | .build t parts =>
  (match JQ P t,placesOf P t,Tl L g parts.toList with
  |some z,some pl,some (cs,o)=>(Qk pl z cs).map λcells=>⟨.cm (.agg cells),[],o,hs⟩
  |_,_,_=>none)
 | .buildSlice t n parts =>
  (match r_ P t with
  |some e=>match P.info? e,JQ P e,Tl L g parts.toList with
   |some ie,some z,some (cs,o) =>
    bif n == 0&&cs.isEmpty then some ⟨one (.sl true ie.size []),[],o,hs⟩else
    bif Nat.ble (n*ie.size) 4096&&!(n == 0)then
     match Qk (λi=>some (i*ie.size,ie.size)) (List.replicate n z).flatten cs with
     | some cells=>bif cells.all O_ then some ⟨one (.os base ie.size 0 n),[⟨false,ie.size,e,chunk ie.size n cells⟩],o,hs⟩ else
       (match n,hs with
       |1,.num 1 ::fK=>some ⟨one (.os base ie.size 0 1),[K8 e cells],o,fK⟩
       |_,_=>none)
     |none=>none
    else none
   |_,_,_=>none
  |none=>none)
 | .load t a =>
  (match qb g (y6 L a),CF P t,A1 P t with
  |some (.one (.ip cells off),o),some n,some r=>(wb r n off cells).map λc=>⟨.cm c,[],o,hs⟩
  |some (.one (.op id sz row off),o),some n,some r =>
   (match h id with
   | some ob=>bif ob.sz == sz then
     (match ob.box,ob.rows,hs with
     |true,[cells],_=>bif row == 0 then(wb r n off cells).map λc=>⟨.cm c,[],o,hs⟩else none
     |false,rows,.cells c ::fK=>(wb r n off c).map λv=>⟨.cm v,[],o++[rows[row]?=some c],fK⟩
     |_,_,_=>none)else none
   |none=>none)
  |_,_,_=>none)
 | .nilCheck x =>
  (match qb g (y6 L x)with
  |some (.one (.ip c off),o)=>some ⟨one (.ip c off),[],o,hs⟩
  |some (.one (.op id sz row off),o)=>some ⟨one (.op id sz row off),[],o,hs⟩
  |_=>none)
 | .binOp op t x y _ =>
  (match Qbf P L g op t x y hs with
  |some r=>some r
  |none=>Qbg P h L g op t x y hs)
 | .unOp u _ x =>
  (match u,qb g (y6 L x)with
  | .neg,some (.one (.int k n),o)=>some ⟨one (.int k (cX k 0 n)),[],o,hs⟩
  | .not,some (.one (.bool b),o)=>some ⟨one (.bool (!b)),[],o,hs⟩
  |_,_=>none)
 | .convert s d x =>
  (match P.underlying s,P.underlying d,qb g (y6 L x),hs with
  |some _,some (.int k),some (.one (.int _ n),o),_=>some ⟨one (.int k (Bn k n)),[],o,hs⟩
  |some _,some .string,some (.one (.int _ n),o),_=>some ⟨one (.str (QiP n)),[],o,hs⟩
  |some _,some .string,some (.one (.str s),o),_=>some ⟨one (.str s),[],o,hs⟩
  |some (.slice e),some .string,some (.one l,o),.ints J ::fK =>
   (match P.underlying e,rowsOf h l with
   |some (.int .u8),some (sz,rows,o')=>bif sz == 1||rows.isEmpty then some ⟨one (.str (wC J)),[],o++o'++[rows=J.map λn=>[.int .u8 n]],fK⟩else none
   |_,_=>none)
  |_,_,_,_=>none)
 | .makeFunc f first gZ =>
  (match Ia L g gZ.toList with
  | some (cs,o)=>bif first.toList.isEmpty then
    (match Qc1 cs with
    |some ls=>some ⟨one (.fn f ls),[],o,hs⟩
    |none=>none)else none
  |none=>none)
 | .makeSlice t l c =>
  (match r_ P t,qb g (y6 L l),qb g (y6 L c),hs with
  |some e,some (.one (.int _ n),o),some (.one (.int _ m),o'),.cells z' :: .rows R ::fK =>
   match P.info? e,JQ P e with
   | some ie,some z=>bif QcK z z' then some ⟨one (.os base ie.size 0 R.length),[⟨false,ie.size,e,R⟩],
     o++o'++[0<=n,n<=m,m<=9223372036854775807,ie.bytes*m<=140737488355328,List.replicate n.toNat z'=R],fK⟩else none
   |_,_=>none
  |some e,some (.one (.int _ n),o),some (.one (.int _ m),o'),.num j ::fK =>
   (match P.info? e,JQ P e with
   |some ie,some z=>bif !(j == 0)&&Nat.ble (ie.bytes*j) 4096&&Nat.ble j 4096 then some ⟨one (.bs base j ie.size),[K8 e (List.replicate j z).flatten],o++o'++[n=j,m=j],fK⟩else none
   |_,_=>none)
  |_,_,_,_=>none)
 | .slice t x lo hi mx =>
  (match qb g (y6 L x),QiA L g lo,QiA L g hi,QiA L g mx with
  |some (c,o),some (lo,o1),some (hi,o2),some (mx,o3)=>(SK P h t c lo hi mx hs).map λr=>{r with fU:=o++o1++o2++o3++r.fU}
  |_,_,_,_=>none)
 | .fieldAddr s x f =>
  (match RE P s f,qb g (y6 L x)with
  |some (fo,_,_),some (.one (.ip cells off),o)=>some ⟨one (.ip cells (off+fo)),[],o,hs⟩
  |some (fo,_,_),some (.one (.op id sz row off),o)=>some ⟨one (.op id sz row (off+fo)),[],o,hs⟩
  |_,_=>none)
 | .field s x f =>
  (match RE P s f,qb g (y6 L x)with
  |some (fo,n,r),some (.agg cells,o)=>(wb r n fo cells).map λc=>⟨.cm c,[],o,hs⟩
  |_,_=>none)
 | .indexAddr t x i =>
  (match P.underlying t,qb g (y6 L x),qb g (y6 L i)with
  |some (.slice e),some (.one (.sl _ sz rows),o),some (.one (.int _ n),o') =>
   (match hs with
   | .cells c ::fK=>bif CF P e == some sz then some ⟨one (.ip c 0),[],o++o'++[bn rows n=some c],fK⟩else none
   |_=>none)
  |some (.slice e),some (.one (.os id sz off len),o),some (.one (.int _ n),o') =>
   bif CF P e == some sz then(match hs with
    | .pos j ::fK=>some ⟨one (.op id sz (off+j) 0),[],o++o'++[n=j,j<len],fK⟩
    |_=>some ⟨one (.op id sz (off+n.toNat) 0),[],o++o'++[0<=n,n<len],hs⟩)else none
  |some (.slice e),some (.one (.bs id len sz),o),some (.one (.int _ n),o') =>
   (match hs with
   | .pos j ::fK=>bif CF P e == some sz&&Nat.blt j len then some ⟨one (.op id (len*sz) 0 (j*sz)),[],o++o'++[n=j],fK⟩else none
   |_=>none)
  |some (.array len e),some (.one (.ip cells off),o),some (.one (.int _ n),o') =>
   (match CF P e with
   |some sz=>bif !(len == 0)then some ⟨one (.ip cells (off+n.toNat*sz)),[],o++o'++[0<=n,n<len],hs⟩else none
   |none=>none)
  |some (.array len e),some (.one (.op id sz row off),o),some (.one (.int _ n),o') =>
   (match CF P e with
   |some esz=>bif !(len == 0)then(match hs with
    | .pos j ::fK=>some ⟨one (.op id sz row (off+j*esz)),[],o++o'++[n=j,j<len],fK⟩
    |_=>some ⟨one (.op id sz row (off+n.toNat*esz)),[],o++o'++[0<=n,n<len],hs⟩)else none
   |none=>none)
  |_,_,_=>none)
 | .index t x i =>
  (match P.underlying t,qb g (y6 L x),qb g (y6 L i)with
  |some .string,some (.one (.str s),o),some (.one (.int _ n),o') =>
   (match hs with
   | .byte b ::fK=>some ⟨one (.int .u8 (cQ b)),[],o++o'++[y8 s n=some b],fK⟩
   |_=>none)
  |some (.array len e),some (.agg cells,o),some (.one (.int _ n),o') =>
   (match CF P e,A1 P e with
   |some sz,some r=>(wb r sz (n.toNat*sz) cells).map λc=>⟨.cm c,[],o++o'++[0<=n,n<len],hs⟩
   |_,_=>none)
  |_,_,_=>none)
 | .extract x i =>
  (match y6 L x with
  | .j0 cs=>(cs[i]?).map λc=>⟨.cm c,[],[],hs⟩
  |_=>none)
 | .call c =>
  (match c.callee with
  | .builtin b =>
   (match Ia L g c.args.toList with
   |some (args,o)=>(zG P h base b args c.argTypes.toList hs).map λr=>{r with fU:=o++r.fU}
   |none=>none)
  |_=>none)
 |_=>WK P h base g L op hs
section
open Go.RowKit
inductive IR (w:World) (M:Nat->Prop):Lf->Value->Prop
 |any (v:Value):v.oneCell'=true->IR w M .any v
 |int (k:IntKind) (n:Int):IR w M (.int k n) (.int k n)
 |bool (b:Bool):IR w M (.bool b) (.bool b)
 |str (s:I):IR w M (.str s) (.string s)
 |L3:IR w M .L3 (.pointer none)
 |fk:IR w M .fk (.slice none 0 0)
 |fn (f:Fn):IR w M (.fn f []) (.func f #[] #[])
 | ip (cells:List Lf) (off b o:Nat) (vs:Nat->Value):M b->(∀ (i:Nat) (l:Lf),cells[i]?=some l->w.cell? ⟨b,o+i,none⟩=some (vs i)) ->
   (∀(i:Nat) (l:Lf),cells[i]?=some l->IR w M l (vs i))->IR w M (.ip cells off) (.pointer (some ⟨b,o+off,none⟩))
 |QF (cl:Bool) (sz:Nat) (a:O Addr) (cap:Nat):(cl=true->cap=0)->IR w M (.sl cl sz []) (.slice a 0 cap)
 | sl (cl:Bool) (sz:Nat) (rows:List (List Lf)) (b o cap:Nat) (vs:Nat->Nat->Value):M b->rows.length<=cap->(cl=true->cap=rows.length) ->
   (∀(i:Nat) (c:List Lf),rows[i]?=some c->c.length=sz)->
   (∀(i:Nat) (c:List Lf) (j:Nat) (l:Lf),rows[i]?=some c->c[j]?=some l->w.cell? ⟨b,o+i*sz+j,none⟩=some (vs i j))->
   (∀(i:Nat) (c:List Lf) (j:Nat) (l:Lf),rows[i]?=some c->c[j]?=some l->IR w M l (vs i j))->IR w M (.sl cl sz rows) (.slice (some ⟨b,o,none⟩) rows.length cap)
abbrev Pl:=Nat->O (O (Nat×Nat))
def vh(w:World)(M:Nat->Prop)(U:Pl):Lf->Value->Prop
 | .op id sz row off,v=>∃b C,U id=some (some (b,C))/\v=.pointer (some ⟨b,row*sz+off,none⟩)
 | .os id sz off len,v=>(∃ b C,U id=some (some (b,C))/\v=.slice (some ⟨b,off*sz,none⟩) len (C-off)/\off+len<=C) \/
   (U id=some none/\off=0/\len=0/\∃a,v=.slice a 0 0)
 | .mp id,v=>∃b,U id=some (some (b,1))/\v=.map (some b)
 | .bs id n _,v=>∃b,U id=some (some (b,1))/\v=.slice (some ⟨b,0,none⟩) n n
 |l,v=>IR w M l v
def Rs{α β:Type}(R:α->β->Prop):List α->List β->Prop
 | [],[]=>True
 |x ::xs,y ::ys=>R x y/\Rs R xs ys
 |_,_=>False
def LR(w:World)(M:Nat->Prop)(U:Pl):Lf->Value->Prop
 | .fn f gZ,v=>∃vs:List Value,v=.func f #[] vs.toArray/\Rs (vh w M U) gZ vs
 |l,v=>vh w M U l v
def CR(w:World)(M:Nat->Prop)(U:Pl):Cm->Value->Prop
 | .one l,v=>LR w M U l v
 | .agg ls,v=>∃vs:List Value,v=.agg vs.toArray/\Rs (LR w M U) ls vs
def AR(w:World)(M:Nat->Prop)(U:Pl):AV->Value->Prop
 | .cm c,v=>CR w M U c v
 | .j0 cs,v=>∃vs:List Value,v=.tuple vs.toArray/\Rs (CR w M U) cs vs
 | .gd p c,v=>(p->CR w M U c v)/\(¬p->v=undef)
 | .PY,_=>True
 | .pM,v=>∃b,v=.bool b
 | .vl u c,v=>v=u/\CR w M U c v
def KyR(w:World)(M:Nat->Prop)(ks:List Lf)(kv:Value):Prop:=(∃k,ks=[k]/\IR w M k kv)\/(2<=ks.length/\∃vs:List Value,kv=.agg vs.toArray/\Rs (IR w M) ks vs)
def BP(w:World)(M:Nat->Prop)(row:List Lf)(e:MapEntry):Prop:=∃v ks,row=v ::ks/\IR w M v e.val/\KyR w M ks e.key
def MR(w:World)(M:Nat->Prop)(U:Pl)(id:Nat)(ob:Ob):Prop:=
 ob.box=true/\∃rs b es BY,ob.rows=[] :: [] ::rs/\U id=some (some (b,1))/\w.heap[b]?=some (.map es BY)/\Rs (BP w M) rs es.toList
def OC(w:World)(M:Nat->Prop)(U:Pl)(id:Nat)(ob:Ob):Prop:=
 0<ob.sz/\
 match U id with
 |none=>False
 |some none=>ob.rows=[]/\ob.box=false
 | some (some (b,C))=>∃ cur:Array Value,w.heap[b]?=some (.cells cur ob.J0 (0,0))/\cur.size=C*ob.sz/\ob.rows.length<=C/\C<=maxLen /\
   (ob.box=true->C=1)/\
   ∀i c,ob.rows[i]?=some c->c.length=ob.sz/\∀j l,c[j]?=some l->∃v,cur[i*ob.sz+j]?=some v/\(if ob.box then LR w M U l v else IR w M l v)
def OR(w:World)(M:Nat->Prop)(U:Pl)(id:Nat)(ob:Ob):Prop:=OC w M U id ob\/MR w M U id ob
structure bC where
 w0:World
 QiD:Nat->Prop
 M0:Nat->Prop
 pins:List (Nat×Nat)
def UB:List (Nat×Array Value):=[(3,#[.int .u64 1,.int .u64 10,.int .u64 100,.int .u64 1000,.int .u64 10000,.int .u64 100000,.int .u64 1000000,.int .u64 10000000,.int .u64 100000000,.int .u64 1000000000,.int .u64 10000000000,.int .u64 100000000000,.int .u64 1000000000000,.int .u64 10000000000000,.int .u64 100000000000000,.int .u64 1000000000000000,.int .u64 10000000000000000,.int .u64 100000000000000000,.int .u64 1000000000000000000,.int .u64 10000000000000000000]),(2,#[.int .u8 0,.int .u8 1,.int .u8 56,.int .u8 2,.int .u8 57,.int .u8 49,.int .u8 28,.int .u8 3,.int .u8 61,.int .u8 58,.int .u8 42,.int .u8 50,.int .u8 38,.int .u8 29,.int .u8 17,.int .u8 4,.int .u8 62,.int .u8 47,.int .u8 59,.int .u8 36,.int .u8 45,.int .u8 43,.int .u8 51,.int .u8 22,.int .u8 53,.int .u8 39,.int .u8 33,.int .u8 30,.int .u8 24,.int .u8 18,.int .u8 12,.int .u8 5,.int .u8 63,.int .u8 55,.int .u8 48,.int .u8 27,.int .u8 60,.int .u8 41,.int .u8 37,.int .u8 16,.int .u8 46,.int .u8 35,.int .u8 44,.int .u8 21,.int .u8 52,.int .u8 32,.int .u8 23,.int .u8 11,.int .u8 54,.int .u8 26,.int .u8 40,.int .u8 15,.int .u8 34,.int .u8 20,.int .u8 31,.int .u8 10,.int .u8 25,.int .u8 14,.int .u8 19,.int .u8 9,.int .u8 13,.int .u8 8,.int .u8 7,.int .u8 6])]
structure Wd (G:bC) (U:Pl) (M:Nat->Prop) (h:Nat->O Ob) (w:World):Prop where
 fU:∀id ob,h id=some ob->OR w M U id ob
 inj:∀i j oi oj b Ci Cj,h i=some oi->h j=some oj->U i=some (some (b,Ci))->U j=some (some (b,Cj))->i=j
 mlt:∀b,M b->b<w.heap.size
 m0:∀b,G.M0 b->M b
 LW:∀b,M b->G.M0 b\/G.QiD b\/G.w0.heap.size<=b
 own:∀id ob b C,h id=some ob->U id=some (some (b,C))->¬M b/\b<w.heap.size/\(G.QiD b\/G.w0.heap.size<=b)
 AO:∀b,b<G.w0.heap.size->¬G.QiD b->w.heap[b]?=G.w0.heap[b]?
 os:w.os=G.w0.os
 tape:w.tape=G.w0.tape
 output:w.output=G.w0.output
 size:G.w0.heap.size<=w.heap.size
 HA:∀p∈G.pins,U p.1=some (some (p.2,1))
 zP:∀b cs,(b,cs)∈UB->G.M0 b/\¬G.QiD b/\b<G.w0.heap.size/\∃t s,G.w0.heap[b]?=some (.cells cs t s)
def hl(H:List (O Ob))(id:Nat):O Ob:=(H[id]?).join
def wT(U:Pl):Nat->List Ob->List (Nat×Nat)
 |_,[]=>[]
 |i,o ::r=>(match o.box,U i with
  |true,some (some (b,_))=>[(i,b)]
  |_,_=>[])++wT U (i+1) r
def Ij(P:Program)(f:FuncId):Bool:=
 match P.funcs[f]? with
 |some fn=>!(fn.name == "runtime.NumGoroutine")&&fn.body.isSome
 |none=>false
def dK(P:Program)(f:FuncId)(args:List Cm)(H0:List Ob)(r:AV)(H1:List (O Ob)):Prop:=
 Ij P f=true/\∀(w:World) (U:Pl) (M0:Nat->Prop) (iM:List Value),
  Wd ⟨w,λb=>∃id C,id<H0.length/\U id=some (some (b,C)),M0,wT U 0 H0⟩ U M0 (λid=>H0[id]?) w->(∀id,H0.length<=id->U id=none)->
  Rs (CR w M0 U) args iM->
  Calls P f iM.toArray w λe w'=>∃v φ' M',e=.returned v/\AR w' M' φ' r v/\
   Wd ⟨w,λb=>∃id C,id<H0.length/\U id=some (some (b,C)),M0,wT U 0 H0⟩ φ' M' (hl H1) w'/\(∀id,H1.length<=id->φ' id=none)
def Uv(m:Nat->O Nat):Lf->Lf
 | .op id sz row off=>match m id with
  |some j=>.op j sz row off
  |none=>.any
 | .os id sz off len=>match m id with
  |some j=>.os j sz off len
  |none=>.any
 | .mp id=>match m id with
  |some j=>.mp j
  |none=>.any
 | .bs id n sz=>match m id with
  |some j=>.bs j n sz
  |none=>.any
 | .fn f gZ=>.any
 |l=>l
def Qfw(m:Nat->O Nat):Lf->Lf
 | .fn f gZ=>.fn f (gZ.map (Uv m))
 |l=>Uv m l
def Qch(m:Nat->O Nat):Cm->Cm
 | .one l=>.one (Qfw m l)
 | .agg ls=>.agg (ls.map (Qfw m))
def N8(m:Nat->O Nat):AV->AV
 | .cm c=>.cm (Qch m c)
 | .j0 cs=>.j0 (cs.map (Qch m))
 | .gd p c=>.gd p (Qch m c)
 | .PY=>.PY
 | .pM=>.pM
 | .vl v c=>.vl v (Qch m c)
def isMap(ob:Ob):Bool:=(Gd ob.rows).isSome
def jA(m:Nat->O Nat)(ob:Ob):Ob:=bif ob.box&&!isMap ob then{ob with rows:=ob.rows.map λc=>c.map (Qfw m)}else ob
def posOf:List Nat->Nat->Nat->O Nat
 | [],_,_=>none
 |x ::r,k,id=>bif x == id then some k else posOf r (k+1) id
def Qdh:Lf->Bool
 | .op ..=>false
 | .os ..=>false
 | .fn ..=>false
 | .mp _=>false
 | .bs ..=>false
 |_=>true
def Qht:Lf->Bool
 | .fn _ gZ=>gZ.all Qdh
 |l=>Qdh l
def Ng:Cm->Bool
 | .one l=>Qht l
 | .agg ls=>ls.all Qht
structure Mes where
 v:AV
 H:List (O Ob)
 fU:List Prop
 hs:List Hint
def Dm:List Nat->Bool
 | []=>true
 |x ::r=>!r.contains x&&Dm r
def Qbh:AV->Bool
 | .cm c=>Ng c
 | .j0 cs=>cs.all Ng
 |_=>false
def So(P:Program)(h:Nat->O Ob)(L:Nat->AV)(c:Call)(hs:List Hint):O OD:=
 match c.callee with
 | .value f =>
  match y6 L f,Ia L True c.args.toList,hs with
  | .cm (.one (.fn (.func k) gZ)),some (A2,o),.call [] r [] ::fK =>
   bif (A2++gZ.map Cm.one).all Ng then
    bif Qbh r then some ⟨r,[],o++[dK P k (A2++gZ.map Cm.one) [] r []],fK⟩else none
   else match Xj h (A2++gZ.map Cm.one)with
    |some (UM,o')=>bif XC r then some ⟨r,[],o++o'++[dK P k UM [] r []],fK⟩else none
    |none=>none
  |_,_,_=>none
 |_=>none
def UL:List (O Ob)->O (List Ob)
 | []=>some []
 |some o ::r=>(UL r).map (o :: ·)
 |none ::_=>none
def Wp(P:Program)(base:Nat)(L:Nat->AV)(c:Call)(hs:List Hint):O OD:=
 match c.callee with
 | .value f =>
  match y6 L f,Ia L True c.args.toList,hs with
  | .cm (.one (.fn (.func k) gZ)),some (A2,o),.call [] r out ::fK =>
   match UL out with
   |some fU=>bif (A2++gZ.map Cm.one).all Ng&&fU.all (λo=>!o.box)then some ⟨N8 (λj=>some (base+j)) r,fU,o++[dK P k (A2++gZ.map Cm.one) [] r out],fK⟩else none
   |none=>none
  |_,_,_=>none
 |_=>none
def XS(id:Nat):Lf->Bool
 | .os iV ..=>iV == id
 |_=>false
structure Wr where
 v:AV
 AF:List (Nat×O Ob)
 news:List Ob
 fU:List Prop
 hs:List Hint
def tg:List (Nat×O Ob)->Nat->O (O Ob)
 | [],_=>none
 |(u,o) ::r,id=>bif u == id then some o else tg r id
def Z_(H:List (O Ob)):List (Nat×O Ob)->List (O Ob)
 | []=>H
 |(u,o) ::r=>(Z_ H r).set u o
def PZ(h:Nat->O Ob)(AF:List (Nat×O Ob))(id:Nat):O Ob:=
 match tg AF id with
 |some o=>o
 |none=>h id
def QdU(h:Nat->O Ob):List Nat->O (List Ob)
 | []=>some []
 |i ::r=>match h i,QdU h r with
  |some o,some os=>some (o ::os)
  |_,_=>none
def EO:List Ob->Nat
 | []=>0
 |o ::r=>bif o.box then EO r+1 else 0
def R7(P:Program)(h:Nat->O Ob)(base:Nat)(L:Nat->AV)(c:Call)(hs:List Hint):O Wr:=
 match Ia L True c.args.toList,c.argTypes.toList,hs with
 |some ([.one (.os id sz off len),.one x],o),[t,t'],.rows R ::fK =>
  (match r_ P t,h id,rowsOf h x with
  |some e,some ob,some (jQ,new,o') =>
   (match P.info? e,JQ P e with
   |some i,some z =>
    bif t == t'&&off == 0&&sz == i.size&&ob.sz == sz&&!ob.box&&ob.J0 == e&&(jQ == sz||new.isEmpty)&&!XS id x then
     some ⟨one (.os base sz 0 R.length),[(id,none)],[⟨false,sz,e,R⟩],
      o++o'++[ob.rows.length=len,ob.rows++new=R,R.length*i.bytes<=140737488355328,R.length<=9223372036854775807],fK⟩
    else none
   |_,_=>none)
  |_,_,_=>none)
 |_,_,_=>none
def X7(P:Program)(h:Nat->O Ob)(L:Nat->AV)(t:TypeId)(a x:Operand)(hs:List Hint):O Wr:=
 match qb True (y6 L a),qb True (y6 L x),CF P t with
 |some (.one (.op id sz row off),o1),some (c,o2),some n =>
  (match h id with
  |some ob=>(match ob.box,ob.rows with
   |true,[cells]=>bif ob.sz == sz&&n == c.cells.length&&(row == 0&&Nat.ble (off+n) cells.length)then some ⟨.PY,[(id,some {ob with rows:=[cells.take off++c.cells++cells.drop (off+n)]})],[],o1++o2,hs⟩else none
   |_,_=>none)
  |none=>none)
 |_,_,_=>none
def R8(P:Program)(h:Nat->O Ob)(L:Nat->AV)(t:TypeId)(a x:Operand)(hs:List Hint):O Wr:=
 match qb True (y6 L a),qb True (y6 L x),CF P t,hs with
 |some (.one (.op id sz row off),o1),some (c,o2),some n,.cells Pp :: .rows R ::fK =>
  (match h id with
  | some ob=>bif !ob.box&&(ob.sz == sz&&n == c.cells.length)&&(Nat.ble (off+n) Pp.length&&c.cells.all O_) then
    some ⟨.PY,[(id,some {ob with rows:=R})],[],o1++o2++[ob.rows[row]?=some Pp,ob.rows.set row (Pp.take off++c.cells++Pp.drop (off+n))=R],fK⟩else none
  |none=>none)
 |_,_,_,_=>none
def vM(ids:List Nat)(nb base j:Nat):O Nat:=bif Nat.blt j nb then ids[j]? else some (base+(j-nb))
def T3(m:Nat->O Nat):List Nat->List Ob->List (Nat×O Ob)
 |i ::is,o ::os=>(i,some (jA m o)) ::T3 m is os
 |_,_=>[]
def YF(ids:List Nat):List (Nat×O Ob):=ids.map λi=>(i,none)
def Qef(P:Program)(h:Nat->O Ob)(base:Nat)(L:Nat->AV)(c:Call)(hs:List Hint):O Wr:=
 match c.callee with
 | .value f =>
  match y6 L f,Ia L True c.args.toList,hs with
  | .cm (.one (.fn (.func k) gZ)),some (A2,o),.call ids r out ::fK =>
   match QdU h ids,UL out with
   |some yG,some yH =>
    bif Dm ids&&Nat.ble (EO yG) yH.length&&((yG.drop (EO yG)).all (λx=>!x.box)&&(yH.take (EO yG)).all (λx=>x.box))then
     some ⟨N8 (vM ids (EO yG) base) r,T3 (vM ids (EO yG) base) (ids.take (EO yG)) (yH.take (EO yG))++YF (ids.drop (EO yG)),
      (yH.drop (EO yG)).map (jA (vM ids (EO yG) base)),o++[dK P k ((A2++gZ.map Cm.one).map (Qch (posOf ids 0))) (yG.map (jA (posOf ids 0))) r out],fK⟩
    else none
   |_,_=>none
  |_,_,_=>none
 |_=>none
def QoQ(P:Program)(k:FuncId)(rest:List Cm)(sz:Nat)(e:TypeId)(rows R:List (List Lf)):Prop:=
 Ij P k=true/\R.length<=rows.length/\
 (∀ (w:World) (M:Nat->Prop) (A:O Addr) (iM:List Value),rows=[]->(∀ b,M b->b<w.heap.size)->(∀ c cs,(c,cs)∈UB->M c/\c<w.heap.size/\∃ t s,w.heap[c]?=some (.cells cs t s))->Rs (CR w M (λ_=>none)) rest iM ->
  Calls P k (.slice A 0 0 ::iM).toArray w λex w'=>(∃A',ex=.returned (.slice A' 0 0))/\Below w.heap.size w w')/\
 ∀(w:World) (M:Nat->Prop) (b C:Nat) (cur:Array Value) (iM:List Value),(∀c,M c->c<w.heap.size)->¬M b->b<w.heap.size->(∀c cs,(c,cs)∈UB->M c/\c<w.heap.size/\∃t s,w.heap[c]?=some (.cells cs t s))->
  w.heap[b]?=some (.cells cur e (0,0))->cur.size=C*sz->rows.length<=C->C<=maxLen->
  (∀(i:Nat) (c:List Lf),rows[i]?=some c->c.length=sz/\∀(j:Nat) (l:Lf),c[j]?=some l->∃v,cur[i*sz+j]?=some v/\IR w M l v)->Rs (CR w M (λ_=>none)) rest iM->
  Calls P k (.slice (some ⟨b,0,none⟩) rows.length C ::iM).toArray w λex w'=>ex=.returned (.slice (some ⟨b,0,none⟩) R.length C)/\w'.os=w.os/\w'.tape=w.tape/\w'.output=w.output/\w.heap.size<=w'.heap.size/\(∀c,c<w.heap.size->c≠b->w'.heap[c]?=w.heap[c]?)/\
   ∃Km:Array Value,w'.heap[b]?=some (.cells Km e (0,0))/\Km.size=C*sz/\∀(i:Nat) (c:List Lf),R[i]?=some c->c.length=sz/\∀(j:Nat) (l:Lf),c[j]?=some l->∃v,Km[i*sz+j]?=some v/\IR w M l v
def Qeg(P:Program)(h:Nat->O Ob)(L:Nat->AV)(c:Call)(hs:List Hint):O Wr:=
 match c.callee with
 | .value f =>
  (match y6 L f,Ia L True c.args.toList,hs with
  | .cm (.one (.fn (.func k) [])),some (.one (.os id sz off len) ::rest,o),.rows R ::fK =>
   (match h id with
   | some ob=>bif off == 0&&!ob.box&&ob.sz == sz&&rest.all Ng then
     some ⟨one (.os id sz 0 R.length),[(id,some {ob with rows:=R})],[],o++[ob.rows.length=len,QoQ P k rest ob.sz ob.J0 ob.rows R],fK⟩else none
   |none=>none)
  |_,_,_=>none)
 |_=>none
def Qld(P:Program)(h:Nat->O Ob)(L:Nat->AV)(t:TypeId)(m k v:Operand)(hs:List Hint):O Wr:=
 match P.underlying t,qb True (y6 L m),qb True (y6 L k),qb True (y6 L v),hs with
 |some (.map kt _),some (.one (.mp id),o1),some (kl,o2),some (.one vl,o3),.rows R ::fK =>
  (match h id with
  |some ob=>(match Gd ob.rows with
   |some rs=>bif ob.box&&O_ vl&&IK P kt kl then some ⟨.PY,[(id,some {ob with rows:=[] :: [] ::R})],[],o1++o2++o3++[Cl rs kl.cells vl=some R],fK⟩else none
   |none=>none)
  |none=>none)
 |_,_,_,_,_=>none
def Qlc(P:Program)(h:Nat->O Ob)(L:Nat->AV)(t:TypeId)(x hi:Operand)(hs:List Hint):O Wr:=
 match qb True (y6 L x),qb True (y6 L hi),r_ P t,hs with
 |some (.one (.os id sz off len),o1),some (.one (.int _ n),o2),some e,.rows R ::fK =>
  (match h id with
  | some ob=>bif off == 0&&ob.sz == sz&&!ob.box&&CF P e == some sz then
    some ⟨one (.os id sz 0 R.length),[(id,some {ob with rows:=R})],[],o1++o2++[ob.rows.length=len,0<=n,n<=ob.rows.length,ob.rows.take n.toNat=R],fK⟩else none
  |none=>none)
 |_,_,_,_=>none
def z6(P:Program)(h:Nat->O Ob)(base:Nat)(L:Nat->AV)(op:Op)(hs:List Hint):O Wr:=
 match op with
 | .store t a x=>(match X7 P h L t a x hs with
  |some r=>some r
  |none=>R8 P h L t a x hs)
 | .mapUpdate t m k v=>Qld P h L t m k v hs
 | .slice t x none (some hi) none=>Qlc P h L t x hi hs
 | .call c =>
  (match c.callee with
  | .builtin .append=>R7 P h base L c hs
  |_=>(match Qef P h base L c hs with
   |some r=>some r
   |none=>Qeg P h L c hs))
 |_=>none
def mop(P:Program)(H:List (O Ob))(L:Nat->AV)(op:Op)(hs:List Hint):O Mes:=
 match op with
 | .store t a x =>
  (match qb True (y6 L a),qb True (y6 L x),CF P t with
  |some (.one (.op id sz row off),o),some (c,o'),some n =>
   (match hl H id with
   |some ob =>
    bif ob.sz == sz&&n == c.cells.length then
     (match ob.box,ob.rows,hs with
     |true,[cells],_=>bif row == 0&&Nat.ble (off+n) cells.length then some ⟨.PY,H.set id (some {ob with rows:=[cells.take off++c.cells++cells.drop (off+n)]}),o++o',hs⟩else none
     |false,rows,.cells Pp :: .rows R ::fK =>
      bif Nat.ble (off+n) Pp.length&&c.cells.all O_ then
       some ⟨.PY,H.set id (some {ob with rows:=R}),o++o'++[rows[row]?=some Pp,rows.set row (Pp.take off++c.cells++Pp.drop (off+n))=R],fK⟩
      else none
     |_,_,_=>none)else none
   |none=>none)
  |_,_,_=>none)
 | .call c =>
  (match c.callee with
  | .builtin .copy =>
   (match Ia L True c.args.toList,c.argTypes.toList,hs with
   |some ([.one (.os id sz off len),.one x],o),[t,t'],.rows R :: .num n ::fK =>
    (match r_ P t,hl H id,rowsOf (hl H) x with
    |some e,some ob,some (jQ,new,o') =>
     (match P.info? e with
     |some i =>
      bif t == t'&&off == 0&&sz == i.size&&ob.sz == sz&&!ob.box&&(jQ == sz||new.isEmpty)&&!XS id x then
       some ⟨one (.int .i64 n),H.set id (some {ob with rows:=R}),o++o'++[ob.rows.length=len,min new.length ob.rows.length=n,new.take n++ob.rows.drop n=R],fK⟩
      else none
     |none=>none)
    |_,_,_=>none)
   |_,_,_=>none)
  |_=>none)
 |_=>none
def Qbi(id sz:Nat)(rows:List (List Lf)):Lf->Lf×List Prop
 | .os i s off len=>bif i == id&&s == sz&&off == 0 then(.sl false sz rows,[rows.length=len])else(.os i s off len,[])
 |l=>(l,[])
def SM(id sz:Nat)(cells:List Lf):Lf->Lf×List Prop
 | .op i s row off=>bif i == id&&row == 0 then(.ip cells off,[])else(.op i s row off,[])
 | .bs i n s=>bif i == id&&(n*s == cells.length)then(.sl false s (chunk s n cells),[])else(.bs i n s,[])
 |l=>(l,[])
def Qcg(id n:Nat):Lf->Lf×List Prop
 | .os i s off len=>bif i == id&&off == 0 then(.os i s off n,[len=n])else(.os i s off len,[])
 |l=>(l,[])
section
variable (f : Lf -> Lf × List Prop)
def Er:List Lf->List Lf×List Prop
 | []=>([],[])
 |l ::r=>((f l).1 ::(Er r).1,(f l).2++(Er r).2)
def gmC:Cm->Cm×List Prop
 | .one l=>(.one (f l).1,(f l).2)
 | .agg ls=>(.agg (Er f ls).1,(Er f ls).2)
def Qbl:List Cm->List Cm×List Prop
 | []=>([],[])
 |c ::r=>((gmC f c).1 ::(Qbl r).1,(gmC f c).2++(Qbl r).2)
def QeO:AV->AV×List Prop
 | .cm c=>(.cm (gmC f c).1,(gmC f c).2)
 | .j0 cs=>(.j0 (Qbl f cs).1,(Qbl f cs).2)
 |v=>(v,[])
def uS:List (Nat×AV)->List (Nat×AV)×List Prop
 | []=>([],[])
 |(t,v) ::r=>((t,(QeO f v).1) ::(uS r).1,(QeO f v).2++(uS r).2)
def zH:List (List Lf)->List (List Lf)×List Prop
 | []=>([],[])
 |c ::r=>((Er f c).1 ::(zH r).1,(Er f c).2++(zH r).2)
def WO:O Ob->O Ob×List Prop
 |some ob=>bif ob.box&&!isMap ob then(some {ob with rows:=(zH f ob.rows).1},(zH f ob.rows).2)else(some ob,[])
 |none=>(none,[])
def Yb:List (O Ob)->List (O Ob)×List Prop
 | []=>([],[])
 |o ::r=>((WO f o).1 ::(Yb r).1,(WO f o).2++(Yb r).2)
end
def wkL(sz:Nat):Lf->O Lf
 | .fk=>some (.sl false sz [])
 | .sl _ s rows=>some (.sl false s rows)
 |_=>none
def wkC(k sz:Nat):Cm->O Cm
 | .one l=>bif k == 0 then(wkL sz l).map .one else none
 | .agg ls=>match ls[k]? with
  |some l=>(wkL sz l).map λl'=>.agg (ls.set k l')
  |none=>none
structure SS where
 N:Nat
 L:List (Nat×AV)
 H:List (O Ob)
def ghost:List Hint->SS->O (SS×List Prop×List Hint)
 | .wait 0 ::hs,σ=>ghost hs σ
 | .wait (n+1) ::hs,σ=>some (σ,[],.wait n ::hs)
 | .ng id ::hs,σ =>
  (match hl σ.H id with
  |some ob=>bif ob.box then none else
   match ghost hs ⟨σ.N,(uS (Qbi id ob.sz ob.rows) σ.L).1,(Yb (Qbi id ob.sz ob.rows) (σ.H.set id none)).1⟩with
   |some (σ',o,fK)=>some (σ',(uS (Qbi id ob.sz ob.rows) σ.L).2++(Yb (Qbi id ob.sz ob.rows) (σ.H.set id none)).2++o,fK)
   |none=>none
  |none=>none)
 | .Qmz id ::hs,σ =>
  (match hl σ.H id with
  |some ob=>(match ob.box,ob.rows with
   |true,[cells]=>bif cells.all O_ then
    (match ghost hs ⟨σ.N,(uS (SM id ob.sz cells) σ.L).1,(Yb (SM id ob.sz cells) (σ.H.set id none)).1⟩with
    |some (σ',o,fK)=>some (σ',(uS (SM id ob.sz cells) σ.L).2++(Yb (SM id ob.sz cells) (σ.H.set id none)).2++o,fK)
    |none=>none)else none
   |_,_=>none)
  |none=>none)
 | .Dt id n ::hs,σ =>
  (match ghost hs ⟨σ.N,(uS (Qcg id n) σ.L).1,(Yb (Qcg id n) σ.H).1⟩ with
   |some (σ',o,fK)=>some (σ',(uS (Qcg id n) σ.L).2++(Yb (Qcg id n) σ.H).2++o,fK)
   |none=>none)
 | .D1 t k sz ::hs,σ =>
  (match look σ.L t with
  | .cm c=>(match wkC k sz c with
   |some c'=>ghost hs ⟨σ.N,(t,.cm c') ::σ.L,σ.H⟩
   |none=>none)
  |_=>none)
 | .nJ id k sz ::hs,σ =>
  (match hl σ.H id with
  |some ob=>(match ob.box,ob.rows with
   |true,[cells]=>(match cells[k]? with
    |some l=>(match wkL sz l with
     |some l'=>ghost hs ⟨σ.N,σ.L,σ.H.set id (some {ob with rows:=[cells.set k l']})⟩
     |none=>none)
    |none=>none)
   |_,_=>none)
  |none=>none)
 | .nP t sz e ::hs,σ =>
  (match look σ.L t with
  | .cm (.one .fk)=>bif sz == 0 then none else ghost hs ⟨σ.N,(t,one (.os σ.H.length sz 0 0)) ::σ.L,σ.H++[some ⟨false,sz,e,[]⟩]⟩
  |_=>none)
 | .QaV id k sz e ::hs,σ =>
  (match hl σ.H id with
  |some ob=>(match ob.box,ob.rows with
   |true,[cells]=>(match cells[k]? with
    |some .fk=>bif sz == 0 then none else ghost hs ⟨σ.N,σ.L,(σ.H.set id (some {ob with rows:=[cells.set k (.os σ.H.length sz 0 0)]}))++[some ⟨false,sz,e,[]⟩]⟩
    |_=>none)
   |_,_=>none)
  |none=>none)
 |hs,σ=>some (σ,[],hs)
structure St where
 σ:SS
 fU:List Prop
 hs:List Hint
def gdv(p:Prop):AV->O AV
 | .cm c=>some (.gd p c)
 |_=>none
def NO(d:O Nat)(v:AV)(L:List (Nat×AV)):List (Nat×AV):=
 match d with
 |some t=>(t,v) ::L
 |none=>L
def dop(P:Program)(h:Nat->O Ob)(base:Nat)(L:Nat->AV)(op:Op)(hs:List Hint):O OD:=
 match AJ P h base True L op hs with
 |some r=>some r
 |none=>match op with
  | .call c=>match So P h L c hs with
   |some r=>some r
   |none=>Wp P base L c hs
  |_=>none
def und:AV:=.gd False (.one (.bool false))
def Mz(P:Program)(o:Oper)(σ:SS)(hs:List Hint):O St:=
 match dop P (hl σ.H) σ.H.length (look σ.L) o.op hs with
 |some r=>some ⟨⟨σ.N,NO o.dst r.v σ.L,σ.H++r.news.map some⟩,r.fU,r.hs⟩
 |none=>match mop P σ.H (look σ.L) o.op hs with
  |some r=>some ⟨⟨σ.N,NO o.dst r.v σ.L,r.H⟩,r.fU,r.hs⟩
  |none=>match z6 P (hl σ.H) σ.H.length (look σ.L) o.op hs with
   |some r=>some ⟨⟨σ.N,NO o.dst r.v σ.L,Z_ σ.H r.AF++r.news.map some⟩,r.fU,r.hs⟩
   |none=>none
def Le(N:Nat):O Nat->Bool
 |some d=>Nat.blt d N
 |none=>true
def Qcy(P:Program)(l:Array Oper)(o:Oper)(σ:SS)(hs:List Hint):O St:=
 bif !Le σ.N o.dst then none else
 match o.guard with
 |none=>Mz P o σ hs
 |some (j,want) =>
  match((l[j]?).bind (·.dst)).map (look σ.L),hs with
  |some (.cm (.one (.bool b))),.bit t ::fK =>
   bif t == want then(Mz P o σ fK).map λr=>{r with fU:=(b=t) ::r.fU}
   else some ⟨⟨σ.N,NO o.dst und σ.L,σ.H⟩,[b=t],fK⟩
  |some (.gd p (.one (.bool b))),.bit t ::fK =>
   bif t == want then(Mz P o σ fK).map λr=>{r with fU:=(p/\b=t) ::r.fU}
   else some ⟨⟨σ.N,NO o.dst und σ.L,σ.H⟩,[p/\b=t],fK⟩
  |some (.gd p (.one (.bool b))),.skip ::fK=>some ⟨⟨σ.N,NO o.dst und σ.L,σ.H⟩,[¬p],fK⟩
  |some (.cm (.one (.bool b))),.spec ::fK =>
   (match AJ P (hl σ.H) σ.H.length (b=want) (look σ.L) o.op fK with
   |some r=>bif r.news.isEmpty then(gdv (b=want) r.v).map λv=>⟨⟨σ.N,NO o.dst v σ.L,σ.H⟩,r.fU,r.hs⟩else none
   |none=>none)
  |some (.gd p (.one (.bool b))),.spec ::fK =>
   (match AJ P (hl σ.H) σ.H.length (p/\b=want) (look σ.L) o.op fK with
   |some r=>bif r.news.isEmpty then(gdv (p/\b=want) r.v).map λv=>⟨⟨σ.N,NO o.dst v σ.L,σ.H⟩,r.fU,r.hs⟩else none
   |none=>none)
  |_,_=>none
def Bx(P:Program)(l:Array Oper):List Oper->SS->List Hint->O St
 | [],σ,hs=>some ⟨σ,[],hs⟩
 |o ::rest,σ,hs =>
  match ghost hs σ with
  |some (σ0,o0,Vd) =>
   match Qcy P l o σ0 Vd with
   |some s=>match Bx P l rest s.σ s.hs with
    |some s'=>some ⟨s'.σ,o0++s.fU++s'.fU,s'.hs⟩
    |none=>none
   |none=>none
  |none=>none
def Qdd(P:Program)(l:Array Oper)(o:Oper)(h:Nat->O Ob)(base:Nat)(L:Nat->AV)(hs:List Hint):O OD:=
 match o.guard with
 |none=>dop P h base L o.op hs
 |some (j,want) =>
  match((l[j]?).bind (·.dst)).map L,hs with
  |some (.cm (.one (.bool b))),.bit t ::fK =>
   bif t == want then(dop P h base L o.op fK).map λr=>{r with fU:=(b=t) ::r.fU}
   else some ⟨und,[],[b=t],fK⟩
  |some (.gd p (.one (.bool b))),.skip ::fK=>some ⟨und,[],[¬p],fK⟩
  |some (.cm (.one (.bool b))),.spec ::fK =>
   (match AJ P h base (b=want) L o.op fK with
   |some r=>bif r.news.isEmpty then(gdv (b=want) r.v).map λv=>⟨v,[],r.fU,r.hs⟩else none
   |none=>none)
  |_,_=>none
structure Dn where
 i:Nat
 dst:O Nat
 v:AV
 base:Nat
 news:List Ob
 AF:List (Nat×O Ob)
 rd:List (Nat×Nat×Nat×List Lf)
def ju(o:Oper):List Nat:=(o.after.toList.filter λe=>Region.binds .any e).map (·.on)
def Am(L:List (Nat×AV))(mF:List Nat)(S:Nat->Bool):List Dn->Nat->AV
 | [],t=>bif mF.contains t then .PY else look L t
 |d ::r,t=>bif d.dst == some t&&S d.i then d.v else Am L mF S r t
def zd(H:List (O Ob))(S:Nat->Bool):List Dn->Nat->O Ob
 | [],id=>hl H id
 |d ::r,id=>bif Nat.ble d.base id&&Nat.blt id (d.base+d.news.length)then(bif S d.i then d.news[id-d.base]? else none)else zd H S r id
def vw(S:Nat->Bool):List Dn->Nat->O (O Ob)
 | [],_=>none
 |d ::r,id=>match bif S d.i then tg d.AF id else none with
  |some ob=>some ob
  |none=>vw S r id
def pv(H:List (O Ob))(S:Nat->Bool)(l:List Dn)(id:Nat):O Ob:=
 match vw S l id with
 |some ob=>ob
 |none=>zd H S l id
def Sq:List (Nat×Nat)->Nat->O Nat
 | [],_=>none
 |(u,j) ::r,id=>bif u == id then some j else Sq r id
def QgQ(l:Array Oper)(i j:Nat):Bool:=(ju (l.getD j default)).any λk=>k == i||(ju (l.getD k default)).contains i
def view(l:Array Oper)(cl:List (Nat×Nat))(i:Nat)(h:Nat->O Ob)(id:Nat):O Ob:=
 match Sq cl id with
 |some j=>bif j == i then h id else(match h id with
  |some ob=>bif QgQ l i j then some ob else none
  |none=>none)
 |none=>h id
def BG(o:Oper):Bool:=match o.guard with
 |none=>true
 |some _=>false
def QiO(P:Program)(H:List (O Ob))(L:Nat->AV)(op:Op):O (AV×(Nat×Nat×Nat×List Lf)×List Prop):=
 match op with
 | .load t a =>
  (match qb True (y6 L a),CF P t,A1 P t with
  |some (.one (.op id sz row off),o),some n,some r =>
   (match hl H id with
   |some ob=>(match ob.box,ob.rows with
    |true,[cells]=>bif ob.sz == sz&&row == 0&&(r||n == 1)then(wb r n off cells).map λc=>(.cm c,(id,off,sz,(cells.drop off).take n),o)else none
    |_,_=>none)
   |none=>none)
  |_,_,_=>none)
 |_=>none
def rdP(q:Nat×Nat×Nat×List Lf):O Ob->Prop
 |some ob=>(ob.box,ob.sz,ob.rows.map λcs=>(cs.drop q.2.1).take q.2.2.2.length)=(true,q.2.2.1,[q.2.2.2])
 |none=>False
def ZV(q:Nat×Nat×Nat×List Lf):List (Nat×O Ob)->List Prop
 | []=>[]
 |(u,o) ::r=>bif u == q.1 then rdP q o ::ZV q r else ZV q r
def VP(q:Nat×Nat×Nat×List Lf):List Dn->List Prop
 | []=>[]
 |d ::r=>ZV q d.AF++VP q r
def QkS(full:List Dn):List (Nat×Nat×Nat×List Lf)->List Prop
 | []=>[]
 |q ::r=>VP q full++QkS full r
def VN(full:List Dn):List Dn->List Prop
 | []=>[]
 |d ::r=>QkS full d.rd++VN full r
def dgo(P:Program)(l:Array Oper)(σ:SS)(mF:List Nat)(cl:List (Nat×Nat)):Nat->List Oper->List Dn->Nat->List Hint->O (List Dn×Nat×List Prop×List Hint)
 |_,[],done,base,hs=>some (done,base,[],hs)
 |i,o ::rest,done,base,hs =>
  bif !Le σ.N o.dst then none else
  match Qdd P l o (view l cl i (zd σ.H (ju o).contains done)) base (Am σ.L mF (ju o).contains done) hs with
  |some r=>match dgo P l σ mF cl (i+1) rest (⟨i,o.dst,r.v,base,r.news,[],[]⟩ ::done) (base+r.news.length) r.hs with
   |some (d,b,ob,fK)=>some (d,b,r.fU++ob,fK)
   |none=>none
  |none=>match z6 P (view l cl i (zd σ.H (ju o).contains done)) base (Am σ.L mF (ju o).contains done) o.op hs with
   | some r=>bif BG o&&r.AF.all (λu=>Sq cl u.1 == some i) then
     (match dgo P l σ mF cl (i+1) rest (⟨i,o.dst,r.v,base,r.news,r.AF,[]⟩ ::done) (base+r.news.length) r.hs with
     |some (d,b,ob,fK)=>some (d,b,r.fU++ob,fK)
     |none=>none)else none
   |none=>match QiO P σ.H (Am σ.L mF (ju o).contains done) o.op with
    | some (v,q,Qz)=>bif BG o then
      (match dgo P l σ mF cl (i+1) rest (⟨i,o.dst,v,base,[],[],[q]⟩ ::done) base hs with
      |some (d,b,ob,fK)=>some (d,b,Qz++ob,fK)
      |none=>none)else none
    |none=>none
def dL(L:List (Nat×AV)):List Dn->List (Nat×AV)
 | []=>L
 |d ::r=>NO d.dst d.v (dL L r)
def dH(H:List (O Ob)):List Dn->List (O Ob)
 | []=>H
 |d ::r=>Z_ (dH H r) d.AF++d.news.map some
def dstsOf(l:List Oper):List Nat:=l.filterMap (·.dst)
def Qbz(l:Array Oper)(n:Nat):Array Bool:=((List.range l.size).map λi=>Nat.blt i n).toArray
def YL(l:Array Oper)(n:Nat):Bool:=
 Dm (dstsOf (l.toList.take n))&&Nat.ble n l.size &&
 ((l.toList.take n).zipIdx.all λ(o,i)=>(ju o).all λj=>Nat.blt j i) &&
 (n == l.size||(Nat.blt n l.size&&Region.sinkB .any l n&&Region.chainB .any l n))&&Region.seqB .any l (l.size-n) n (Qbz l n)
def M8(P:Program)(l:Array Oper)(σ:SS)(hs:List Hint):O St:=
 match hs with
 | .draw n cl ::fK =>
  bif P.follows .mixedOrders&&YL l n then
   match dgo P l σ (dstsOf (l.toList.take n)) cl 0 (l.toList.take n) [] σ.H.length fK with
   |some (done,_,ob,Ve)=>(Bx P l (l.toList.drop n) ⟨σ.N,dL σ.L done,dH σ.H done⟩ Ve).map λs=>{s with fU:=ob++(VN done done++s.fU)}
   |none=>none
  else none
 |_=>none
inductive It where
 |c (p:Nat)
 |b (id:Nat)
 |l (p:Nat)
 |s (p:Nat)
def child(k:Bool):Code->Code
 | .seq a b=>cond k b a
 | .cond _ a b=>cond k b a
 | .block _ b=>b
 | .loop b=>b
 | .scope b=>b
 |_=>.skip
def YA(body:Code):Nat->Nat->Code
 |0,_=>body
 |n+1,p=>bif Nat.ble p 1 then body else child (p % 2 == 1) (YA body n (p / 2))
def cd(body:Code)(p:Nat):Code:=YA body 300 p
def It.item(body:Code):It->Item
 | .c p=>.code (cd body p)
 | .b id=>.inBlock id
 | .l p=>.inLoop (cd body p)
 | .s p=>.inScope (cd body p)
def U2(id:Nat):List It->O (List It)
 | []=>none
 | .b i ::k=>bif i == id then some k else U2 id k
 |_ ::k=>U2 id k
structure Cf where
 k:List It
 σ:SS
structure Rn where
 cf:Cf
 fU:List Prop
 hs:List Hint
def NM:Nat:=1809251394333065553493296640760748560207343510400633813116524750123642650624
def QnS(P:Program)(body:Code)(cf:Cf)(hs:List Hint):O Rn:=
 match cf.k with
 | []=>none
 | .b _ ::k=>some ⟨⟨k,cf.σ⟩,[],hs⟩
 | .l p ::k=>some ⟨⟨.c p :: .l p ::k,cf.σ⟩,[],hs⟩
 | .s _ ::k=>some ⟨⟨k,cf.σ⟩,[],hs⟩
 | .c p ::k =>
  bif !(Nat.ble 1 p&&Nat.blt p NM)then none else
  match cd body p with
  | .skip=>some ⟨⟨k,cf.σ⟩,[],hs⟩
  | .seq _ _=>some ⟨⟨.c (2*p) :: .c (2*p+1) ::k,cf.σ⟩,[],hs⟩
  | .block id _=>some ⟨⟨.c (2*p) :: .b id ::k,cf.σ⟩,[],hs⟩
  | .loop _=>some ⟨⟨.c (2*p) :: .l (2*p) ::k,cf.σ⟩,[],hs⟩
  | .scope _=>some ⟨⟨.c (2*p) :: .s (2*p) ::k,cf.σ⟩,[],hs⟩
  | .label _=>some ⟨⟨k,cf.σ⟩,[],hs⟩
  | .cond c _ _ =>
   (match y6 (look cf.σ.L) c,hs with
   | .cm (.one (.bool b)),.bit t ::fK=>some ⟨⟨.c (2*p+cond t 0 1) ::k,cf.σ⟩,[b=t],fK⟩
   |_,_=>none)
  | .exit id=>(U2 id k).map λk'=>⟨⟨k',cf.σ⟩,[],hs⟩
  | .region _ ops draw =>
   (bif draw then M8 P ops cf.σ hs else Bx P ops ops.toList cf.σ hs).map λs=>⟨⟨k,s.σ⟩,s.fU,s.hs⟩
  |_=>none
def Z5(P:Program)(body:Code):Nat->Cf->List Hint->O Rn
 |0,cf,hs=>some ⟨cf,[],hs⟩
 |n+1,cf,hs =>
  match ghost hs cf.σ with
  |some (σ0,o0,Vd) =>
   match QnS P body ⟨cf.k,σ0⟩ Vd with
   |some r=>match Z5 P body n r.cf r.hs with
    |some r'=>some ⟨r'.cf,o0++r.fU++r'.fU,r'.hs⟩
    |none=>none
   |none=>none
  |none=>none
def cut(live ids:List Nat)(σ:SS):SS:=
 ⟨σ.N,live.map λt=>(t,N8 (posOf ids 0) (look σ.L t)),ids.map λi=>(hl σ.H i).map (jA (posOf ids 0))⟩
def QnT(P:Program)(body:Code)(n:Nat)(live ids:List Nat)(cf:Cf)(hs:List Hint):O (Cf×Prop):=
 match Z5 P body n cf hs with
 |some r=>match ghost r.hs r.cf.σ with
  |some (σ,o,[])=>bif Dm ids then some (⟨r.cf.k,cut live ids σ⟩,dF (r.fU++o))else none
  |_=>none
 |none=>none
def QkU(L:Nat->AV)(h:Nat->O Ob)(P:Program):ResultVar->O Cm
 | .tmp t=>match L t with
  | .cm c=>some c
  |_=>none
 | .cell a t=>match L a,CF P t,A1 P t with
  | .cm (.one (.op id sz row off)),some n,some r=>(match h id with
   |some ob=>(match ob.box,ob.rows with
    |true,[cells]=>bif row == 0&&ob.sz == sz then wb r n off cells else none
    |_,_=>none)
   |none=>none)
  |_,_,_=>none
def Qd4(L:Nat->AV)(h:Nat->O Ob)(P:Program):List ResultVar->O (List Cm)
 | []=>some []
 |x ::r=>match QkU L h P x,Qd4 L h P r with
  |some c,some cs=>some (c ::cs)
  |_,_=>none
def QiM:List Cm->AV
 | [c]=>.cm c
 |cs=>.j0 cs
end
section
open Go.RowKit
def QG(G:bC)(σ:SS)(a:Act)(w:World):Prop:=
 a.tmps.size=σ.N/\a.defers=[]/\∃U M,(∀t,AR w M U (look σ.L t) (a.tmps.getD t undef))/\Wd G U M (hl σ.H) w/\(∀id,σ.H.length<=id->U id=none)
def DG(fn:Func):Code:=fn.body.getD .skip
def KW(P:Program)(body:Code)(k:List It)(R:Exit->Act->World->Prop)(a:Act)(w:World):Prop:=
 ∀(b:Frame) (cs:List Frame),∃e a' w',R e a' w'/\Arrives P (lone (b.at a (k.map (It.item body))) cs w) b [] cs e a' w'
def RR(P:Program)(fn:Func)(G:bC)(r:AV)(H1:List (O Ob)):Exit->Act->World->Prop:=λe a' w' =>
 (e=.ret\/e=.normal)/\a'.defers=[]/\∃v φ' M',(results fn a'.tmps).run P w'=.ok v w'/\AR w' M' φ' r v/\Wd G φ' M' (hl H1) w'/\(∀id,H1.length<=id->φ' id=none)
def Go(P:Program)(fn:Func)(HA:List Nat)(G:bC)(r:AV)(H1:List (O Ob))(cf:Cf):Prop:=
 (∀p∈G.pins,p.1∈HA)->∀a w,QG G cf.σ a w->KW P (DG fn) cf.k (RR P fn G r H1) a w
def VI(HA ids:List Nat):Bool:=HA.all λi=>match ids[i]? with
 |some j=>i == j
 |none=>false
def QlJ:Code->Bool
 | .ret=>true
 |_=>false
def QgL(body:Code):List It->Bool
 | []=>true
 | .c p ::_=>QlJ (cd body p)
 |_=>false
def QnQ(P:Program)(fn:Func)(n:Nat)(ids:List Nat)(cf:Cf)(hs:List Hint):O (AV×List (O Ob)×Prop):=
 match Z5 P (DG fn) n cf hs with
 |some r =>
  bif QgL (DG fn) r.cf.k then
   match ghost r.hs r.cf.σ with
   |some (σ,o,[])=>match Qd4 (look σ.L) (hl σ.H) P fn.results.toList with
    |some cs=>bif Dm ids then some (N8 (posOf ids 0) (QiM cs),ids.map λi=>(hl σ.H i).map (jA (posOf ids 0)),dF (r.fU++o))else none
    |none=>none
   |_=>none
  else none
 |none=>none
def BR:Nat->List Cm->List (Nat×AV)
 |_,[]=>[]
 |i,c ::r=>(i,.cm c) ::BR (i+1) r
def Sk:Nat->List Ob->List Nat
 |_,[]=>[]
 |i,o ::r=>cond o.box [i] []++Sk (i+1) r
section
variable {α β S E : Type}
def br(b:Bool)(x y:O α):O α:=match b with
 |true=>x
 |false=>y
def aQ(o:O α)(f:α->O β):O β:=match o with
 |some a=>f a
 |none=>none
def opt(o:O α)(f:α->O β)(g:O β):O β:=match o with
 |some a=>f a
 |none=>g
theorem Yv{o:O α}{f:α->O β}{r:β}(h:aQ o f=some r):∃a,o=some a/\f a=some r:=by
 cases o with
 |none=>cases h
 |some a=>exact⟨a,rfl,h⟩
def ft(p:Prop) [Decidable p] (x:O α):O α:=if p then x else none
theorem Qg2{p:Prop} [Decidable p] {x:O α}{r:α}(h:ft p x=some r):p/\x=some r:=by
 unfold ft at h;split at h
 ·exact⟨‹_›,h⟩
 ·cases h
def amb [DecidableEq α] (x y:O α):O α:=if x=y then x else none
theorem QgH [DecidableEq α] {x y:O α}{r:α}(h:amb x y=some r):x=some r/\y=some r:=by
 unfold amb at h;split at h
 ·rename_i e;exact⟨h,e▸h⟩
 ·cases h
theorem neE(f:α->β){l:List α}(h:l.isEmpty=false):l.map f≠[]:=by
 cases l with
 |nil=>cases h
 |cons a r=>simp
def sC(B:S->O (S⊕E)):Nat->S->O E
 |0,_=>none
 |n+1,s=>match B s with
  |some (.inl s')=>sC B n s'
  |some (.inr e)=>some e
  |none=>none
theorem Vh(B:S->O (S⊕E)){e:E}:∀(n k:Nat) (s:S),sC B n s=some e->sC B (n+k) s=some e
 |0,_,_,h=>by cases h
 |n+1,k,s,h=>by
  rw[show n+1+k=(n+k)+1 by omega]
  simp only[sC]at h ⊢;split at h
  ·exact Vh B n k _ h
  ·exact h
  ·cases h
def Df:Nat:=18446744073709551616
def aL(B:S->O (S⊕E))(s:S):O E:=sC B Df s
theorem QbU{B:S->O (S⊕E)}{s:S}{e:E}(h:aL B s=some e):∃n,sC B n s=some e:=⟨_,h⟩
theorem Ar{B:S->O (S⊕E)}{s:S}{e:E}(n:Nat)(hn:n<=Df)(h:sC B n s=some e):aL B s=some e:=by
 have:=Vh B n (Df-n) s h;rwa [Nat.add_sub_cancel' hn]at this
theorem Qim{B:S->O (S⊕E)}(C:S->Prop)(D:E->Prop)(Vf:∀s x,B s=some x->(∀s',x=.inl s'->C s')->(∀e,x=.inr e->D e)->C s){s:S}{e:E}(h:aL B s=some e)(hD:D e):C s:=by
 obtain⟨n,hn⟩:=QbU h;clear h;induction n generalizing s with
 |zero=>cases hn
 |succ n ih =>
  simp only[sC]at hn;split at hn
  ·rename_i s' hs;exact Vf s _ hs (λt ht=>by cases ht;exact ih hn) (λt ht=>by cases ht)
  ·rename_i e' hs;exact Vf s _ hs (λt ht=>by cases ht) (λt ht=>by cases ht;cases hn;exact hD)
  ·cases hn
end
section
variable {K V : Type}
def wM(eq:K->K->Bool):List (K×V)->K->V->V
 | [],_,z=>z
 |p ::r,k,z=>bif eq k p.1 then p.2 else wM eq r k z
def EL(eq:K->K->Bool):List (K×V)->K->V->List (K×V)
 | [],k,v=>[(k,v)]
 |p ::r,k,v=>bif eq k p.1 then(k,v) ::r else p ::EL eq r k v
end
section
variable {α β A B γ : Type}
def fQ(n b:Nat):Prop:=n*b<=140737488355328
instance(n b:Nat):Decidable (fQ n b):=inferInstanceAs (Decidable (n*b<=140737488355328))
def jq(l:List α)(i:Int)(x:α):List α:=l.set i.toNat x
def OP(l m:List α):Nat:=min m.length l.length
def Kl(l m:List α):List α:=m.take (OP l m)++l.drop (OP l m)
def wm(l:List α)(lo hi:Int):O (List α):=if 0<=lo/\lo<=hi/\hi<=l.length then some ((l.drop lo.toNat).take (hi.toNat-lo.toNat))else none
def xu(s:I)(lo hi:Int):O Unit:=if 0<=lo/\lo<=hi/\hi<=s.size then some ()else none
def Bd(n m:Int)(b:Nat)(z:α):O (List α):=if 0<=n/\n<=m/\b*m<=140737488355328/\m<=9223372036854775807 then some (List.replicate n.toNat z)else none
def jg(e:A⊕B)(f:A->γ)(g:B->γ):γ:=match e with
 | .inl a=>f a
 | .inr b=>g b
theorem QtG(f:α->β)(l:List α):(l.map f).length=l.length:=Qbn ..
theorem getM(f:α->β){l:List α}{i:Int}{a:α}(h:bn l i=some a):bn (l.map f) i=some (f a):=by
 unfold bn at *;split at h
 ·rename_i h0;rw[if_pos h0,Qc0,h];rfl
 ·cases h
theorem lp{l:List α}{i:Int}{a:α}(h:bn l i=some a):0<=i:=by
 unfold bn at h;split at h
 ·assumption
 ·cases h
theorem ln(f:α->β){l:List α}{i:Int}{a:α}(h:bn l i=some a):i<(l.map f).length:=by
 unfold bn at h;split at h
 ·have:=(pB.1 h).1;rw[Qbn];omega
 ·cases h
theorem QtY(f:α->β){l:List α}{i:Int}{a:α}(h:bn l i=some a):(l.map f)[0+i.toNat]?=some (f a):=by
 have h1:=getM f h;unfold bn at h1;split at h1
 ·rw[Qbu];exact h1
 ·cases h1
theorem Tv(f:α->β)(l:List α)(i:Int)(x:α):(l.map f).set (0+i.toNat) (f x)=(jq l i x).map f:=by
 rw[Qbu];unfold jq;rw[List.map_set]
theorem getSet{l:List α}{i:Int}{a:α}(h:bn l i=some a)(x:α):bn (jq l i x) i=some x:=by
 unfold bn at *;split at h
 ·rename_i h0;have:=(pB.1 h).1;rw[if_pos h0];unfold jq;rw[Qf8 this]
 ·cases h
theorem B8(f:α->β)(l:List α)(i:Int)(x:α):(l.map f).length=((jq l i x).map f).length:=by simp [jq]
theorem Qnt(f:α->β)(l m:List α):(l.map f).length=((Kl l m).map f).length:=by simp [Kl,OP];omega
theorem QoY(f:α->β)(l m:List α):l.map f++m.map f=(l++m).map f:=Qh0.symm
theorem neM(f:α->β)(l:List α)(h:l≠[]):l.map f≠[]:=by simpa using h
theorem neA(f:α->β)(l m:List α)(h:m≠[]):m.map f=[]->l.map f=[]:=λh'=>absurd h' (neM f m h)
theorem neZ(f:α->β)(m:List α):m.map f=[]->([]:List β)=[]:=λ_=>rfl
theorem QkK(f:α->β){l:List α}{b:Nat}(h:fQ l.length b):(l.map f).length*b<=140737488355328:=by rw[Qbn];exact h
theorem QdN(f:α->β){l:List α}{b:Nat}(hb:0<b)(h:fQ l.length b):(l.map f).length<=9223372036854775807:=by
 rw[Qbn];unfold fQ at h;have:=Nat.le_mul_of_pos_right l.length hb;omega
theorem QtJ{b:Bool}(h:b=false):(!b)=true:=by rw[h];rfl
theorem QtI{b:Bool}(h:b=true):(!b)=false:=by rw[h];rfl
theorem QrQ(f:α->β)(l m:List α):min (m.map f).length (l.map f).length=OP l m:=by simp [OP]
theorem QrR(f:α->β)(l m:List α):(m.map f).take (OP l m)++(l.map f).drop (OP l m)=(Kl l m).map f:=by simp [Kl,List.map_take,List.map_drop]
section
variable {l v : List α} {lo hi : Int}
theorem Tw(h:wm l lo hi=some v):(0<=lo/\lo<=hi/\hi<=l.length)/\(l.drop lo.toNat).take (hi.toNat-lo.toNat)=v:=by
 unfold wm at h;split at h
 ·exact⟨‹_›,QaL h⟩
 ·cases h
theorem sl1(h:wm l lo hi=some v):0<=lo:=(Tw h).1.1
theorem sl2(h:wm l lo hi=some v):lo<=hi:=(Tw h).1.2.1
theorem wL(f:α->β)(h:wm l lo hi=some v):hi<=(l.map f).length:=by rw[Qbn];exact(Tw h).1.2.2
theorem sl6(f:α->β)(h:wm l lo hi=some v):((l.map f).drop lo.toNat).take (hi.toNat-lo.toNat)=v.map f:=by
 unfold wm at h;split at h
 ·rw[<-QaL h,List.map_take,List.map_drop]
 ·cases h
theorem QqM(f:α->β)(h:wm l lo (ay l)=some v):lo<=(l.map f).length:=by rw[Qbn];exact sl2 h
theorem QqN(f:α->β)(h:wm l lo (ay l)=some v):((l.map f).drop lo.toNat).take (((l.map f).length:Int).toNat-lo.toNat)=v.map f:=by
 rw[Qbn];exact sl6 f h
theorem PS{s:I}{u:Unit}(h:xu s lo hi=some u):0<=lo/\lo<=hi/\hi<=s.size:=by
 unfold xu at h;split at h
 ·assumption
 ·cases h
theorem ss1{s:I}{u:Unit}(h:xu s lo hi=some u):0<=lo:=(PS h).1
theorem ss2{s:I}{u:Unit}(h:xu s lo hi=some u):lo<=hi:=(PS h).2.1
theorem ss3{s:I}{u:Unit}(h:xu s lo hi=some u):hi<=s.size:=(PS h).2.2
end
section
variable {n m : Int} {b : Nat} {z : α} {l : List α}
theorem RW(h:Bd n m b z=some l):(0<=n/\n<=m/\b*m<=140737488355328/\m<=9223372036854775807)/\List.replicate n.toNat z=l:=by
 unfold Bd at h;split at h
 ·exact⟨‹_›,QaL h⟩
 ·cases h
theorem MN(h:Bd n m b z=some l):0<=n:=(RW h).1.1
theorem NT(h:Bd n m b z=some l):n<=m:=(RW h).1.2.1
theorem QC(h:Bd n m b z=some l):m<=9223372036854775807:=(RW h).1.2.2.2
theorem Rb(h:Bd n m b z=some l):b*m<=140737488355328:=(RW h).1.2.2.1
theorem RA(f:α->β)(h:Bd n m b z=some l):List.replicate n.toNat (f z)=l.map f:=by
 unfold Bd at h;split at h
 ·rw[<-QaL h,List.map_replicate]
 ·cases h
end
end
end
section
variable {α β S E : Type}
def post(o:O α)(Q:α->Prop):Prop:=∃a,o=some a/\Q a
theorem post.mono{o:O α}{Q R:α->Prop}(h:post o Q)(hi:∀a,Q a->R a):post o R:=let⟨a,h1,h2⟩:=h;⟨a,h1,hi a h2⟩
theorem post.eq{o:O α}{a:α}(h:post o (λx=>x=a)):o=some a:=by obtain⟨x,h1,rfl⟩:=h;exact h1
@[simp] theorem aI{a:α}{Q:α->Prop}:post (some a) Q↔Q a:=⟨λ⟨_,h1,h2⟩=>by cases h1;exact h2,λh=>⟨a,rfl,h⟩⟩
@[simp] theorem QoF{Q:α->Prop}:post none Q↔False:=⟨λ⟨_,h1,_⟩=>by(cases h1),False.elim⟩
theorem bg{b:Bool}{x y:O α}{Q:α->Prop}(h1:b=true->post x Q)(h2:b=false->post y Q):post (br b x y) Q:=by
 cases b
 ·exact h2 rfl
 ·exact h1 rfl
theorem bw{o:O α}{f:α->O β}{Q:β->Prop}{R:α->Prop}(h:post o R)(h2:∀a,R a->post (f a) Q):post (aQ o f) Q:=by
 obtain⟨a,rfl,h1⟩:=h;exact h2 a h1
theorem xk{o:O α}{f:α->O β}{Q:β->Prop}(h:post o (λa=>post (f a) Q)):post (aQ o f) Q:=bw h λ_ h=>h
theorem bY{p:Prop} [Decidable p] {x:O α}{Q:α->Prop}(h1:p)(h2:post x Q):post (ft p x) Q:=by
 unfold ft;rw[if_pos h1];exact h2
@[simp] theorem dT{x y:O α}:br true x y=x:=rfl
@[simp] theorem dX{x y:O α}:br false x y=y:=rfl
theorem bk{b:Bool}{x y:O α}(h:b=true):br b x y=x:=by rw[h];rfl
theorem aR{b:Bool}{x y:O α}(h:b=false):br b x y=y:=by rw[h];rfl
theorem GJ{b:Bool}{x y:O α}:br b x y=if b=true then x else y:=by cases b <;> rfl
@[simp] theorem af{a:α}{f:α->O β}:aQ (some a) f=f a:=rfl
theorem cN{o:O α}{a:α}{f:α->O β}(h:o=some a):aQ o f=f a:=by rw[h];rfl
theorem eU{p:Prop} [Decidable p] {x:O α}(h:p):ft p x=x:=if_pos h
@[simp] theorem c5{A B γ:Type}{a:A}{f:A->γ}{g:B->γ}:jg (.inl a) f g=f a:=rfl
@[simp] theorem iJ{A B γ:Type}{b:B}{f:A->γ}{g:B->γ}:jg (.inr b) f g=g b:=rfl
theorem QgI [DecidableEq α] {x:O α}:amb x x=x:=by unfold amb;rw[if_pos rfl]
theorem Qh6{B:S->O (S⊕E)}(C:S->Prop)(m:S->Nat)(Q:E->Prop)
  (h:∀s,C s->post (B s) λx=>(∀s',x=.inl s'->C s'/\m s'<m s)/\∀e,x=.inr e->Q e):∀(n:Nat) (s:S),C s->m s<n->post (sC B n s) Q:=by
 intro n;induction n with
 |zero=>intro s _ hm;omega
 |succ n ih =>
  intro s hs hm;obtain⟨x,hx,h1,h2⟩:=h s hs;simp only[sC,hx];cases x with
  |inl s' =>
   obtain⟨h3,h4⟩:=h1 s' rfl;exact ih s' h3 (by omega)
  |inr e=>exact⟨e,rfl,h2 e rfl⟩
theorem dP{B:S->O (S⊕E)}(C:S->Prop)(m:S->Nat){Q:E->Prop}{s:S}(hs:C s)(hm:m s<18446744073709551616)
  (h:∀s,C s->post (B s) λx=>(∀s',x=.inl s'->C s'/\m s'<m s)/\∀e,x=.inr e->Q e):post (aL B s) Q:=Qh6 C m Q h _ s hs hm
theorem Zn{B:S->O (S⊕E)}{e:E}:∀(n:Nat) (st:Nat->S),(∀i,i<n->B (st i)=some (.inl (st (i+1))))->B (st n)=some (.inr e)->sC B (n+1) (st 0)=some e
 |0,st,_,he=>by simp only[sC,he]
 |n+1,st,hs,he=>by
  have h0:=hs 0 (by omega)
  rw[sC];rw[h0];exact Zn n (λi=>st (i+1)) (λi hi=>hs (i+1) (by omega)) he
theorem gQ{B:S->O (S⊕E)}{e:E}(n:Nat)(st:Nat->S)(hn:n<18446744073709551616)(hs:∀i,i<n->B (st i)=some (.inl (st (i+1))))(he:B (st n)=some (.inr e)):aL B (st 0)=some e:=
 Ar (n+1) hn (Zn n st hs he)
theorem cZ{x:S}{C:S->Prop}{Q:E->Prop}(h:C x):post (some (Sum.inl x:S⊕E)) λy=>(∀s',y=.inl s'->C s')/\∀e,y=.inr e->Q e:=
 ⟨_,rfl,λ_ he=>by cases he;exact h,λ_ he=>by cases he⟩
theorem dd{x:E}{C:S->Prop}{Q:E->Prop}(h:Q x):post (some (Sum.inr x:S⊕E)) λy=>(∀s',y=.inl s'->C s')/\∀e,y=.inr e->Q e:=
 ⟨_,rfl,λ_ he=>by(cases he),λ_ he=>by cases he;exact h⟩
end
section
variable {a b : Int}
theorem dZ(h:-9223372036854775808<=a+b)(h':a+b<=9223372036854775807):aV .i64 a b=a+b:=IntWalk.i64_in _ ⟨h,h'⟩
theorem nd(h:-9223372036854775808<=a-b)(h':a-b<=9223372036854775807):cX .i64 a b=a-b:=IntWalk.i64_in _ ⟨h,h'⟩
theorem I4(h:-9223372036854775808<=a*b)(h':a*b<=9223372036854775807):nh .i64 a b=a*b:=IntWalk.i64_in _ ⟨h,h'⟩
theorem XH(h:-9223372036854775808<=a.tdiv b)(h':a.tdiv b<=9223372036854775807):q_ .i64 a b=a.tdiv b:=IntWalk.i64_in _ ⟨h,h'⟩
theorem cvI(h:-9223372036854775808<=a)(h':a<=9223372036854775807):Bn .i64 a=a:=IntWalk.i64_in _ ⟨h,h'⟩
@[simp] theorem ew:bh a b=true↔a<b:=by simp [bh]
@[simp] theorem xa:gB a b=true↔a<=b:=by simp [gB]
@[simp] theorem oH:dt a b=true↔b<a:=by simp [dt]
@[simp] theorem gX:cT a b=true↔b<=a:=by simp [cT]
@[simp] theorem kp:dk a b=true↔a=b:=by simp [dk]
@[simp] theorem uA:cp a b=true↔a≠b:=by simp [cp]
@[simp] theorem eC:bh a b=false↔b<=a:=by simp [bh]
@[simp] theorem S5:gB a b=false↔b<a:=by simp [gB]
@[simp] theorem iu:dt a b=false↔a<=b:=by simp [dt]
@[simp] theorem A7:cT a b=false↔a<b:=by simp [cT]
@[simp] theorem rC:dk a b=false↔a≠b:=by simp [dk]
@[simp] theorem vu:cp a b=false↔a=b:=by simp [cp]
theorem z7:vZ a b=max a b:=by unfold vZ;split <;> omega
theorem QkD:QbX a b=min a b:=by unfold QbX;split <;> omega
@[simp] theorem Quc{x y:Bool}:GL x y=true↔x=y:=by simp [GL]
@[simp] theorem Qub{x y:Bool}:GL x y=false↔x≠y:=by simp [GL]
end
section
variable {α : Type} {l : List α} {i : Int}
theorem bB{k:Nat}{a:α}(h:l[k]?=some a):bn l (k:Int)=some a:=by
 unfold bn;rw[if_pos (by omega)];simpa using h
theorem Db(h0:0<=i)(h1:i<l.length):bn l i=some (l[i.toNat]'(by omega)):=by
 unfold bn;rw[if_pos h0];exact dr (by omega)
theorem Qbk{k:Nat}(h:k<l.length):bn l (k:Int)=some l[k]:=bB (dr h)
@[simp] theorem Qif:ay ([]:List α)=0:=rfl
theorem QrB:ay l=l.length:=rfl
end
def lI(n:Int):Lf:=.int .i64 n
def lL{α:Type}(sz:Nat)(l:List α)(e:α->List Lf):Lf:=.sl false sz (l.map e)
def lO{α:Type}(id sz:Nat)(l:List α)(e:α->List Lf):Lf:=.os id sz 0 (l.map e).length
end Go.Proofs.YtkcilfpbgjjjbaaGreatDoor
