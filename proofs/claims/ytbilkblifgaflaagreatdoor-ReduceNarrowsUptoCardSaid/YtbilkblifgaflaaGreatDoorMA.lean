/- Part MA. -/
import Derived.WalkKit
import Derived.WalkSpells
import Derived.WalkLawsBesides
import Derived.StillTail
import Derived.Lib.Hide
import Derived.Deep.MidRow
import Derived.Deep.AppendSrc
import Derived.Great.BuildSlice
import Derived.KernelRfl
import Derived.Laws.BytesString
set_option linter.unusedSimpArgs false
set_option linter.unusedVariables false
set_option linter.unusedSectionVars false
namespace Go.Proofs.YtbilkblifgaflaaGreatDoor
inductive Lf where
 |any
 |int (k:IntKind) (n:Int)
 |bool (b:Bool)
 |str (s:ByteArray)
 |K2
 |cM
 |ip (cells:List Lf) (off:Nat)
 |op (id sz row off:Nat)
 |sl (cl:Bool) (sz:Nat) (rows:List (List Lf))
 |os (id sz off len:Nat)
 |fn (f:Fn) (gE:List Lf)
 |mp (id:Nat)
inductive Cm where
 |one (l:Lf)
 |agg (ls:List Lf)
inductive AV where
 |cm (c:Cm)
 |pX (cs:List Cm)
 |gd (p:Prop) (c:Cm)
 |Iy
 |Px
 |vl (v:Value) (c:Cm)
structure Ob where
 box:Bool
 sz:Nat
 Et:TypeId
 rows:List (List Lf)
inductive Hint where
 |bit (b:Bool)
 |spec
 |skip
 |cells (c:List Lf)
 |rows (r:List (List Lf))
 |num (n:Nat)
 |byte (b:UInt8)
 |ints (l:List Int)
 |draw (n:Nat) (cl:List (Nat×Nat))
 |call (ids:List Nat) (r:AV) (out:List (Option Ob))
 |wait (n:Nat)
 |iY (id:Nat)
 |XG (id:Nat)
 |re (id n:Nat)
 |E3 (t k sz:Nat)
 |fg (id k sz:Nat)
 |kN (t:Nat) (sz:Nat) (e:TypeId)
 |jS (id cell:Nat) (sz:Nat) (e:TypeId)
def aT(k:IntKind)(a b:Int):Int:=k.wrap (a+b)
def dA(k:IntKind)(a b:Int):Int:=k.wrap (a-b)
def sx(k:IntKind)(a b:Int):Int:=k.wrap (a*b)
def vX(k:IntKind)(a b:Int):Int:=k.wrap (a.tdiv b)
def yG(a b:Int):Int:=a.tmod b
def NG(k:IntKind)(a b:Int):Int:=k.wrap (BitVec.ofInt k.bits a &&& BitVec.ofInt k.bits b).toNat
def Pn(k:IntKind)(a b:Int):Int:=k.wrap (BitVec.ofInt k.bits a |||BitVec.ofInt k.bits b).toNat
def Qay(k:IntKind)(a b:Int):Int:=k.wrap (BitVec.ofInt k.bits a ^^^ BitVec.ofInt k.bits b).toNat
def vJ(k:IntKind)(a b:Int):Int:=k.wrap (BitVec.ofInt k.bits a &&& ~~~BitVec.ofInt k.bits b).toNat
def Kn(k:IntKind)(a b:Int):Int:=k.wrap (a*2 ^ min b.toNat k.bits)
def vb(k:IntKind)(a b:Int):Int:=a.fdiv (2 ^ min b.toNat k.bits)
def wz(k:IntKind)(a:Int):Int:=k.wrap a
def aS(a b:Int):Bool:=decide (a<b)
def kP(a b:Int):Bool:=decide (a≤b)
def bU(a b:Int):Bool:=decide (a>b)
def bP(a b:Int):Bool:=decide (a≥b)
def aW(a b:Int):Bool:=a == b
def bK(a b:Int):Bool:=a != b
def Bv(a b:Int):Int:=if b>a then b else a
def Yj(a b:Int):Int:=if b<a then b else a
def N1(a b:Bool):Bool:=a == b
def qn(a b:ByteArray):Bool:=a.toList == b.toList
def ltS(a b:ByteArray):Bool:=Op.bytesLess a.toList b.toList
def bH(a b:ByteArray):ByteArray:=a++b
def a4{α:Type}(l:List α)(i:Int):Option α:=if 0≤i then l[i.toNat]? else none
def aB{α:Type}(l:List α):Int:=l.length
def rh(s:ByteArray):Int:=s.size
def II(s:ByteArray)(i:Int):Option UInt8:=if 0≤i then s[i.toNat]? else none
def BQ(b:UInt8):Int:=b.toNat
def Kk(n:Int):ByteArray:=Utf8.encode n
def tF(l:List Int):ByteArray:=⟨(l.map fun n=>UInt8.ofNat n.toNat).toArray⟩
def cA:List Prop→Prop
 | []=>True
 |p ::r=>p∧cA r
def ofConst:Value→Option Lf
 | .int k n=>some (.int k n)
 | .bool b=>some (.bool b)
 | .string s=>some (.str s)
 | .pointer none=>some .K2
 | .slice none 0 0=>some .cM
 | .nilFunc=>some .any
 | .func f first gE=>bif first.size == 0&&gE.size == 0 then some (.fn f [])else none
 |_=>none
def zf:List Value→Option (List Lf)
 | []=>some []
 |v ::r=>match ofConst v,zf r with
  |some l,some ls=>some (l ::ls)
  |_,_=>none
def Mn:Value→Option Cm
 | .agg cs=>(zf cs.toList).map .agg
 |v=>(ofConst v).map .one
def look:List (Nat×AV)→Nat→AV
 | [],_=>.Iy
 |(k,v) ::r,t=>bif k == t then v else look r t
def uP(L:Nat→AV):Operand→AV
 | .tmp t=>match L t with
  | .vl _ c=>.cm c
  |a=>a
 | .const v=>match Mn v with
  |some c=>.cm c
  |none=>.Iy
 | .func f=>.cm (.one (.fn (.func f) []))
 | .global _=>.Iy
def mL(g:Prop):AV→Option (Cm×List Prop)
 | .cm c=>some (c,[])
 | .gd p c=>some (c,[g→p])
 |_=>none
def Cm.cells:Cm→List Lf
 | .one l=>[l]
 | .agg ls=>ls
structure G_ where
 v:AV
 news:List Ob
 e9:List Prop
 hs:List Hint
def Dd(P:Program)(t:TypeId):Option Nat:=(P.info? t).map (·.size)
def BK(P:Program)(t:TypeId):Option Bool:=(P.underlying t).map TypeDesc.isRow
def qd(row:Bool)(n off:Nat)(cells:List Lf):Option Cm:=
 bif row then(bif ((cells.drop off).take n).length == n then some (.agg ((cells.drop off).take n))else none)
 else(cells[off]?).map .one
def ED(P:Program)(t:TypeId):Option (List Lf):=
 match P.info? t with
 |some i=>match i.zero with
  |some z=>bif z.cells.size == i.size&&!(i.size == 0)then zf z.cells.toList else none
  |none=>none
 |none=>none
def Tk(op:BinOp)(k:IntKind)(a b:Int):Option (Lf×List Prop):=
 match op with
 | .add=>some (.int k (aT k a b),[])
 | .sub=>some (.int k (dA k a b),[])
 | .mul=>some (.int k (sx k a b),[])
 | .quo=>some (.int k (vX k a b),[b≠0])
 | .rem=>some (.int k (yG a b),[b≠0])
 | .and=>some (.int k (NG k a b),[])
 | .or=>some (.int k (Pn k a b),[])
 | .xor=>some (.int k (Qay k a b),[])
 | .andNot=>some (.int k (vJ k a b),[])
 | .eql=>some (.bool (aW a b),[])
 | .neq=>some (.bool (bK a b),[])
 | .lss=>some (.bool (aS a b),[])
 | .leq=>some (.bool (kP a b),[])
 | .gtr=>some (.bool (bU a b),[])
 | .geq=>some (.bool (bP a b),[])
 |_=>none
def Tm(op:BinOp)(a b:ByteArray):Option (Lf×List Prop):=
 match op with
 | .add=>some (.str (bH a b),[a.size+b.size≤9223372036854775807])
 | .eql=>some (.bool (qn a b),[])
 | .neq=>some (.bool (!qn a b),[])
 | .lss=>some (.bool (ltS a b),[])
 |_=>none
def TG:TypeDesc→Lf→Lf→Option Bool
 | .int _,.int k a,.int k' b=>bif decide (k=k')then some (aW a b)else none
 | .bool,.bool a,.bool b=>some (N1 a b)
 | .string,.str a,.str b=>some (a == b)
 |_,_,_=>none
def qQ:List TypeDesc→List Lf→List Lf→Option Bool
 | [],[],[]=>some true
 |u ::us,x ::xs,y ::ys=>match TG u x y,qQ us xs ys with
  |some a,some b=>some (a&&b)
  |_,_=>none
 |_,_,_=>none
def B5(P:Program):Nat→List Field→Option (List TypeDesc)
 |_,[]=>some []
 | k,f :: fs=>bif f.offset == k&&!(f.name == "_")&&(BK P f.type == some false) then
   match P.underlying f.type,B5 P (k+1) fs with
   |some u,some us=>some (u ::us)
   |_,_=>none
  else none
def QQ(P:Program)(t:TypeId):Option (List TypeDesc):=
 match P.underlying t with
 |some (.struct fs)=>bif !P.stoodInHeld t&&!P.eqGuardType P.depth t then B5 P 0 fs.toList else none
 |_=>none
def WI(P:Program)(t:TypeId):Option (List TypeDesc):=
 match P.underlying t with
 |some (.array n e)=>bif !P.eqGuardType P.depth t&&(BK P e == some false)&&(Dd P e == some 1)then(P.underlying e).map (List.replicate n)else none
 |_=>none
def Xv(P:Program)(op:BinOp)(t:TypeId):Cm→Cm→Option (Lf×List Prop)
 | .one (.int k a),.one (.int k' b) =>
  (match op with
  | .shl=>some (.int k (Kn k a b),[0≤b])
  | .shr=>some (.int k (vb k a b),[0≤b])
  |_=>if k=k' then Tk op k a b else none)
 | .one (.str a),.one (.str b)=>Tm op a b
 | .one (.bool a),.one (.bool b) =>
  (match op,P.underlying t with
  | .eql,some .bool=>some (.bool (N1 a b),[])
  | .neq,some .bool=>some (.bool (!N1 a b),[])
  |_,_=>none)
 | .agg xs,.agg ys =>
  (match QQ P t with
  |some us =>
   (match op,qQ us xs ys with
   | .eql,some e=>some (.bool e,[])
   | .neq,some e=>some (.bool (!e),[])
   |_,_=>none)
  |none=>(match WI P t with
   |some us =>
    (match op,qQ us xs ys with
    | .eql,some e=>some (.bool e,[])
    | .neq,some e=>some (.bool (!e),[])
    |_,_=>none)
   |none=>none))
 |_,_=>none
def QD:List Lf→List Lf→Bool
 | [],[]=>true
 |x ::xs,y ::ys=>(match x,y with
  | .int k a,.int k' b=>decide (k=k')&&a == b
  | .bool a,.bool b=>a == b
  | .str a,.str b=>a.size == 0&&b.size == 0
  | .cM,.sl false _ []=>true
  |_,_=>false)&&QD xs ys
 |_,_=>false
def FN(e:TypeId)(cells:List Lf):Ob:=⟨true,cells.length,e,[cells]⟩
def JV:Lf→Bool
 | .op ..=>false
 | .os ..=>false
 | .fn _ (_ ::_)=>false
 | .mp _=>false
 |_=>true
def Ik(place:Nat→Option (Nat×Nat))(cells:List Lf):List (Nat×List Lf)→Option (List Lf)
 | []=>some cells
 |(i,v) ::rest=>match place i with
  |none=>none
  |some (off,size) =>
   bif v.length == size&&Nat.ble (off+size) cells.length then Ik place (cells.take off++v++cells.drop (off+size)) rest
   else none
def J_(L:Nat→AV)(g:Prop):List (Nat×Operand)→Option (List (Nat×List Lf)×List Prop)
 | []=>some ([],[])
 |(i,x) ::r=>match mL g (uP L x),J_ L g r with
  |some (c,o),some (cs,os)=>some ((i,c.cells) ::cs,o++os)
  |_,_=>none
def Ej(L:Nat→AV)(g:Prop):List Operand→Option (List Cm×List Prop)
 | []=>some ([],[])
 |x ::r=>match mL g (uP L x),Ej L g r with
  |some (c,o),some (cs,os)=>some (c ::cs,o++os)
  |_,_=>none
def MH:Lf→Bool
 | .fn ..=>true
 |_=>false
def QK:List Cm→Option (List Lf)
 | []=>some []
 | .one l ::r=>match QK r with
  |some ls=>bif MH l then none else some (l ::ls)
  |none=>none
 | .agg _ ::_=>none
def placesOf(P:Program)(t:TypeId):Option (Nat→Option (Nat×Nat)):=
 match P.underlying t with
 |some (.array _ e)=>(P.info? e).map fun ie i=>some (i*ie.size,ie.size)
 |some (.struct fields) =>
  (fields.toList.mapM (fun f=>(P.info? f.type).map fun i=>(f.offset,i.size))).map fun ps i=>ps[i]?
 |_=>none
def chunk(sz:Nat):Nat→List Lf→List (List Lf)
 |0,_=>[]
 |n+1,l=>l.take sz ::chunk sz n (l.drop sz)
def m1(P:Program)(t:TypeId):Option TypeId:=
 match P.underlying t with
 |some (.slice e)=>some e
 |_=>none
def I6(P:Program)(t:TypeId)(f:Nat):Option (Nat×Nat×Bool):=
 match P.underlying t with
 |some (.struct fs)=>match fs[f]? with
  |some fd=>match Dd P fd.type,BK P fd.type with
   |some n,some r=>bif n == 0 then none else some (fd.offset,n,r)
   |_,_=>none
  |none=>none
 |_=>none
def P9(h:Nat→Option Ob):Lf→Option (Lf×List Prop)
 | .os id sz off len=>match h id with
  |some ob=>bif off == 0&&!ob.box&&ob.sz == sz then some (.sl false sz ob.rows,[ob.rows.length=len])else none
  |none=>none
 | .op ..=>none
 | .fn ..=>none
 | .mp _=>none
 |l=>some (l,[])
def xL(h:Nat→Option Ob):List Lf→Option (List Lf×List Prop)
 | []=>some ([],[])
 |l ::r=>match P9 h l,xL h r with
  |some (x,o),some (xs,os)=>some (x ::xs,o++os)
  |_,_=>none
def MK(h:Nat→Option Ob)(rows:List (List Lf))(sz len:Nat):Option (Lf×List Prop):=
 match rows with
 | [cells]=>(xL h cells).map fun p=>(.sl false sz [p.1],(1=len) ::p.2)
 |_=>none
def Iu(h:Nat→Option Ob):Lf→Option (Lf×List Prop)
 | .os id sz off len=>match h id with
  |some ob=>bif off == 0&&!ob.box&&ob.sz == sz then some (.sl false sz ob.rows,[ob.rows.length=len])else
   bif off == 0&&ob.box&&ob.sz == sz then MK h ob.rows sz len else none
  |none=>none
 | .op id sz row off=>match h id with
  |some ob=>bif ob.box&&row == 0 then(match ob.rows with
   | [cells]=>bif cells.all JV then some (.ip cells off,[])else none
   |_=>none)else none
  |none=>none
 | .fn ..=>none
 | .mp _=>none
 |l=>some (l,[])
def J1(h:Nat→Option Ob):List Lf→Option (List Lf×List Prop)
 | []=>some ([],[])
 |l ::r=>match Iu h l,J1 h r with
  |some (x,o),some (xs,os)=>some (x ::xs,o++os)
  |_,_=>none
def J2(h:Nat→Option Ob):Lf→Option (Lf×List Prop)
 | .fn f gE=>(J1 h gE).map fun(x,o)=>(.fn f x,o)
 |l=>Iu h l
def EU(h:Nat→Option Ob):List Lf→Option (List Lf×List Prop)
 | []=>some ([],[])
 |l ::r=>match J2 h l,EU h r with
  |some (x,o),some (xs,os)=>some (x ::xs,o++os)
  |_,_=>none
def Rj(h:Nat→Option Ob):Cm→Option (Cm×List Prop)
 | .one l=>(J2 h l).map fun(x,o)=>(.one x,o)
 | .agg ls=>(EU h ls).map fun(x,o)=>(.agg x,o)
def ML(h:Nat→Option Ob):List Cm→Option (List Cm×List Prop)
 | []=>some ([],[])
 |c ::r=>match Rj h c,ML h r with
  |some (x,o),some (xs,os)=>some (x ::xs,o++os)
  |_,_=>none
def Qk:Lf→Bool
 | .int ..=>true
 | .bool _=>true
 | .str _=>true
 | .any=>true
 |_=>false
def MY:Cm→Bool
 | .one l=>Qk l
 | .agg ls=>ls.all Qk
def MX:AV→Bool
 | .cm c=>MY c
 | .pX cs=>cs.all MY
 |_=>false
def one(l:Lf):AV:=.cm (.one l)
def rowsOf(h:Nat→Option Ob):Lf→Option (Nat×List (List Lf)×List Prop)
 | .cM=>some (0,[],[])
 | .sl _ sz rows=>some (sz,rows,[])
 | .os id sz off len=>match h id with
  |some ob=>bif off == 0&&!ob.box&&ob.sz == sz then some (sz,ob.rows,[ob.rows.length=len])else none
  |none=>none
 |_=>none
def PF(P:Program)(h:Nat→Option Ob)(base:Nat)(d x:Lf)(t t':TypeId)(hs:List Hint):Option G_:=
 (match m1 P t with
 |some e=>match P.info? e,rowsOf h x,ED P e with
  |some i,some (sz,new,o),some z =>
   bif t == t'&&(sz == i.size||new.isEmpty)then
    (match d,hs with
    | .cM,.rows R ::gR=>some ⟨one (.os base i.size 0 R.length),[⟨false,i.size,e,R⟩],o++[new=R,R.length*i.bytes≤140737488355328,R.length≤9223372036854775807],gR⟩
    | .sl true Po rows,.rows R ::gR =>
     bif Po == i.size||rows.isEmpty then
      some ⟨one (.os base i.size 0 R.length),[⟨false,i.size,e,R⟩],o++[rows++new=R,new=[]→rows=[]]++[R.length*i.bytes≤140737488355328,R.length≤9223372036854775807],gR⟩
     else none
    |_,_=>none)
   else none
  |_,_,_=>none
 |none=>none)
def tI(P:Program)(h:Nat→Option Ob)(base:Nat)(b:Builtin)(args:List Cm)(Yx:List TypeId)(hs:List Hint):Option G_:=
 match b,args,Yx with
 | .len,[.one l],[t] =>
  (match l,P.underlying t with
  | .str s,some .string=>some ⟨one (.int .i64 (rh s)),[],[],hs⟩
  | .cM,some (.slice _)=>some ⟨one (.int .i64 0),[],[],hs⟩
  | .os _ _ _ len,some (.slice _) =>
   (match hs with
   | .num n ::gR=>some ⟨one (.int .i64 n),[],[len=n],gR⟩
   |_=>none)
  | .sl _ _ rows,some (.slice _) =>
   (match hs with
   | .num n ::gR=>some ⟨one (.int .i64 n),[],[rows.length=n],gR⟩
   |_=>none)
  |_,_=>none)
 | .cap,[.one .cM],[t] =>
  (match P.underlying t with
  |some (.slice _)=>some ⟨one (.int .i64 0),[],[],hs⟩
  |_=>none)
 | .max,[.one (.int k a),.one (.int _ b)],_=>some ⟨one (.int k (Bv a b)),[],[],hs⟩
 | .min,[.one (.int k a),.one (.int _ b)],_=>some ⟨one (.int k (Yj a b)),[],[],hs⟩
 | .append,[.one .cM,.one (.int k n)],[t,t'] =>
  (match m1 P t,P.underlying t',hs with
  |some e,some (.int _),.cells z' :: .rows R ::gR =>
   (match P.info? e,ED P e with
   | some ie,some z=>bif QD z z'&&decide (k=.i64) then some ⟨one (.os base ie.size 0 R.length),[⟨false,ie.size,e,R⟩],
     [0≤n,n≤9223372036854775807,ie.bytes*n≤140737488355328,List.replicate n.toNat z'=R],gR⟩else none
   |_,_=>none)
  |_,_,_=>none)
 | .append,[.one d,.one x],[t,t']=>PF P h base d x t t' hs
 |_,_,_=>none
def Tw(c:Option Cm):Option (Option Int):=match c with
 |none=>some none
 |some (.one (.int _ n))=>some (some n)
 |_=>none
def JK(P:Program)(h:Nat→Option Ob)(t:TypeId)(x:Cm)(lo hi mx:Option Cm)(hs:List Hint):Option G_:=
 match x,Tw lo,Tw hi,Tw mx with
 | .one (.str s),some lo,some hi,some none =>
  (match P.underlying t with
  |some .string =>
   some ⟨one (.str (s.extract (lo.getD 0).toNat (hi.getD s.size).toNat)),[],[0≤lo.getD 0,lo.getD 0≤hi.getD s.size,hi.getD s.size≤s.size],hs⟩
  |_=>none)
 | .one .cM,some lo,some hi,some none =>
  (match m1 P t with
  |some e=>bif (Dd P e).isSome then some ⟨one .cM,[],[0≤lo.getD 0,lo.getD 0≤hi.getD 0,hi.getD 0≤0],hs⟩else none
  |none=>none)
 | .one (.sl cl sz rows),some lo,some hi,some mx =>
  (match m1 P t,hs with
  |some e,.rows R ::gR =>
   bif Dd P e == some sz||rows.isEmpty&&(Dd P e).isSome then
    some ⟨one (.sl (mx.isSome||cl&&hi.isNone) sz R),[],
     (match mx,hi with
     |some m,some n=>[m=n]
     |some _,none=>[False]
     |_,_=>[])++[0≤lo.getD 0,lo.getD 0≤hi.getD rows.length,hi.getD rows.length≤rows.length,hi.getD rows.length≤mx.getD (hi.getD rows.length),mx.getD (hi.getD rows.length)≤rows.length,
      (rows.drop (lo.getD 0).toNat).take ((hi.getD rows.length).toNat-(lo.getD 0).toNat)=R],gR⟩
   else none
  |_,_=>none)
 |_,_,_,_=>none
def Uy(L:Nat→AV)(g:Prop):Option Operand→Option (Option Cm×List Prop)
 |none=>some (none,[])
 |some x=>(mL g (uP L x)).map fun(c,o)=>(some c,o)
def Ta:Lf→Lf→Option Bool
 | .int k a,.int k' b=>if k=k' then some (a == b)else none
 | .str a,.str b=>some (a == b)
 |_,_=>none
def rm:List Lf→List Lf→Option Bool
 | [],[]=>some true
 |k ::ks,k' ::Ir=>match Ta k k',rm ks Ir with
  |some a,some b=>some (a&&b)
  |_,_=>none
 |_,_=>none
def AP:List (List Lf)→List Lf→Lf→Option Lf
 | [],_,z=>some z
 |(v ::k') ::r,k,z=>match rm k k' with
  |some true=>some v
  |some false=>AP r k z
  |none=>none
 | [] ::_,_,_=>none
def wO:List (List Lf)→List Lf→Lf→Option (List (List Lf))
 | [],k,v=>some [v ::k]
 |(v' ::k') ::r,k,v=>match rm k k' with
  |some true=>some ((v ::k) ::r)
  |some false=>(wO r k v).map ((v' ::k') :: ·)
  |none=>none
 | [] ::_,_,_=>none
def Dp:List (List Lf)→Option (List (List Lf))
 | [] :: [] ::r=>some r
 |_=>none
def Cg(P:Program)(kt:TypeId):Lf→Bool
 | .int k _=>(match P.underlying kt with
  |some (.int k')=>decide (k=k')
  |_=>false)
 | .str _=>(match P.underlying kt with
  |some .string=>true
  |_=>false)
 |_=>false
def cQ:List TypeDesc→List Lf→Bool
 | [],[]=>true
 | .int k ::us,.int k' _ ::ls=>decide (k=k')&&cQ us ls
 | .string ::us,.str _ ::ls=>cQ us ls
 |_,_=>false
def Hy(P:Program)(kt:TypeId):Cm→Bool
 | .one k=>Cg P kt k
 | .agg ks=>Nat.ble 2 ks.length&&(match QQ P kt with
  |some us=>cQ us ks
  |none=>false)
def zeroV(P:Program)(t:TypeId):Option Lf:=
 match P.info? t with
 |some i=>(match i.zero with
  |some z=>ofConst z
  |none=>none)
 |none=>none
def Mt(P:Program)(h:Nat→Option Ob)(base:Nat)(g:Prop)(L:Nat→AV)(op:Op)(hs:List Hint):Option G_:=
 match op with
 | .makeMap t none=>(match P.underlying t with
  |some (.map _ _)=>some ⟨one (.mp base),[⟨true,1,t,[[],[]]⟩],[],hs⟩
  |_=>none)
 | .lookup t x i false =>
  (match P.underlying t,mL g (uP L x),mL g (uP L i),hs with
  |some (.map kt vt),some (.one (.mp id),o),some (k,o'),.cells [v] ::gR =>
   (match h id,zeroV P vt with
   |some ob,some z =>
    (match Dp ob.rows with
    |some rs=>bif ob.box&&Hy P kt k then some ⟨one v,[],o++o'++[AP rs k.cells z=some v],gR⟩else none
    |none=>none)
   |_,_=>none)
  |_,_,_,_=>none)
 |_=>none
def PG(P:Program)(L:Nat→AV)(g:Prop)(op:BinOp)(t:TypeId)(x y:Operand)(hs:List Hint):Option G_:=
 match mL g (uP L x),mL g (uP L y)with
 |some (a,o),some (b,o')=>(Xv P op t a b).map fun(l,o2)=>⟨one l,[],o++o'++o2,hs⟩
 |_,_=>none
def PH(P:Program)(h:Nat→Option Ob)(L:Nat→AV)(g:Prop)(op:BinOp)(t:TypeId)(x y:Operand)(hs:List Hint):Option G_:=
 match op,mL g (uP L x),mL g (uP L y),P.underlying t with
 | .eql,some (.one l,o),some (.one .cM,o'),some (.slice _) =>
  (match rowsOf h l,hs with
  |some _,.skip ::gR=>some ⟨.Px,[],o++o',gR⟩
  |some (_,rows,o2),.bit false ::gR=>some ⟨one (.bool false),[],o++o'++o2++[rows≠[]],gR⟩
  |_,_=>none)
 |_,_,_,_=>none
def uT(P:Program)(h:Nat→Option Ob)(base:Nat)(g:Prop)(L:Nat→AV)(op:Op)(hs:List Hint):Option G_:=
 match op with
 | .move x|.assign x =>
  (match uP L x with
  | .cm c=>some ⟨.cm c,[],[],hs⟩
  | .pX cs=>some ⟨.pX cs,[],[],hs⟩
  | .gd p c=>some ⟨.cm c,[],[g→p],hs⟩
  | .Iy=>none
  | .Px=>some ⟨.Px,[],[],hs⟩
  | .vl _ _=>none)
 | .pick c a b =>
  (match mL g (uP L c),hs with
  |some (.one (.bool bc),o),.spec ::gR =>
   (match mL (g∧bc=true) (uP L a),mL (g∧bc=false) (uP L b)with
   |some (.one (.bool x),oa),some (.one (.bool y),ob)=>some ⟨one (.bool (cond bc x y)),[],o++oa++ob,gR⟩
   |_,_=>none)
  |some (.one (.bool bc),o),.bit t ::gR =>
   (mL g (uP L (cond t a b))).map fun(x,o')=>⟨.cm x,[],o++[bc=t]++o',gR⟩
  |_,_=>none)
 | .alloc e=>(ED P e).map fun cells=>⟨one (.op base cells.length 0 0),[FN e cells],[],hs⟩
 | .box e x =>
  (match mL g (uP L x)with
  |some (c,o)=>bif c.cells.isEmpty then none else some ⟨one (.op base c.cells.length 0 0),[FN e c.cells],o,hs⟩
  |none=>none)
 | .build t parts =>
  (match ED P t,placesOf P t,J_ L g parts.toList with
  |some z,some pl,some (cs,o)=>(Ik pl z cs).map fun cells=>⟨.cm (.agg cells),[],o,hs⟩
  |_,_,_=>none)
 | .buildSlice t n parts =>
  (match m1 P t with
  |some e=>match P.info? e,ED P e,J_ L g parts.toList with
   |some ie,some z,some (cs,o) =>
    bif n == 0&&cs.isEmpty then some ⟨one (.sl true ie.size []),[],o,hs⟩else
    bif Nat.ble (n*ie.size) 4096&&!(n == 0)then
     match Ik (fun i=>some (i*ie.size,ie.size)) (List.replicate n z).flatten cs with
     | some cells=>bif cells.all JV then some ⟨one (.os base ie.size 0 n),[⟨false,ie.size,e,chunk ie.size n cells⟩],o,hs⟩ else
       (match n,hs with
       |1,.num 1 ::gR=>some ⟨one (.os base ie.size 0 1),[FN e cells],o,gR⟩
       |_,_=>none)
     |none=>none
    else none
   |_,_,_=>none
  |none=>none)
 | .load t a =>
  (match mL g (uP L a),Dd P t,BK P t with
  |some (.one (.ip cells off),o),some n,some r=>(qd r n off cells).map fun c=>⟨.cm c,[],o,hs⟩
  |some (.one (.op id sz row off),o),some n,some r =>
   (match h id with
   | some ob=>bif ob.sz == sz then
     (match ob.box,ob.rows,hs with
     |true,[cells],_=>bif row == 0 then(qd r n off cells).map fun c=>⟨.cm c,[],o,hs⟩else none
     |false,rows,.cells c ::gR=>(qd r n off c).map fun v=>⟨.cm v,[],o++[rows[row]?=some c],gR⟩
     |_,_,_=>none)else none
   |none=>none)
  |_,_,_=>none)
 | .nilCheck x =>
  (match mL g (uP L x)with
  |some (.one (.ip c off),o)=>some ⟨one (.ip c off),[],o,hs⟩
  |some (.one (.op id sz row off),o)=>some ⟨one (.op id sz row off),[],o,hs⟩
  |_=>none)
 | .binOp op t x y _ =>
  (match PG P L g op t x y hs with
  |some r=>some r
  |none=>PH P h L g op t x y hs)
 | .unOp u _ x =>
  (match u,mL g (uP L x)with
  | .neg,some (.one (.int k n),o)=>some ⟨one (.int k (dA k 0 n)),[],o,hs⟩
  | .not,some (.one (.bool b),o)=>some ⟨one (.bool (!b)),[],o,hs⟩
  |_,_=>none)
 | .convert s d x =>
  (match P.underlying s,P.underlying d,mL g (uP L x),hs with
  |some _,some (.int k),some (.one (.int _ n),o),_=>some ⟨one (.int k (wz k n)),[],o,hs⟩
  |some _,some .string,some (.one (.int _ n),o),_=>some ⟨one (.str (Kk n)),[],o,hs⟩
  |some _,some .string,some (.one (.str s),o),_=>some ⟨one (.str s),[],o,hs⟩
  |some (.slice e),some .string,some (.one l,o),.ints J ::gR =>
   (match P.underlying e,rowsOf h l with
   |some (.int .u8),some (sz,rows,o')=>bif sz == 1||rows.isEmpty then some ⟨one (.str (tF J)),[],o++o'++[rows=J.map fun n=>[.int .u8 n]],gR⟩else none
   |_,_=>none)
  |_,_,_,_=>none)
 | .makeFunc f first gE =>
  (match Ej L g gE.toList with
  | some (cs,o)=>bif first.toList.isEmpty then
    (match QK cs with
    |some ls=>some ⟨one (.fn f ls),[],o,hs⟩
    |none=>none)else none
  |none=>none)
 | .makeSlice t l c =>
  (match m1 P t,mL g (uP L l),mL g (uP L c),hs with
  |some e,some (.one (.int _ n),o),some (.one (.int _ m),o'),.cells z' :: .rows R ::gR =>
   match P.info? e,ED P e with
   | some ie,some z=>bif QD z z' then some ⟨one (.os base ie.size 0 R.length),[⟨false,ie.size,e,R⟩],
     o++o'++[0≤n,n≤m,m≤9223372036854775807,ie.bytes*m≤140737488355328,List.replicate n.toNat z'=R],gR⟩else none
   |_,_=>none
  |_,_,_,_=>none)
 | .slice t x lo hi mx =>
  (match mL g (uP L x),Uy L g lo,Uy L g hi,Uy L g mx with
  |some (c,o),some (lo,o1),some (hi,o2),some (mx,o3)=>(JK P h t c lo hi mx hs).map fun r=>{r with e9:=o++o1++o2++o3++r.e9}
  |_,_,_,_=>none)
 | .fieldAddr s x f =>
  (match I6 P s f,mL g (uP L x)with
  |some (fo,_,_),some (.one (.ip cells off),o)=>some ⟨one (.ip cells (off+fo)),[],o,hs⟩
  |some (fo,_,_),some (.one (.op id sz row off),o)=>some ⟨one (.op id sz row (off+fo)),[],o,hs⟩
  |_,_=>none)
 | .field s x f =>
  (match I6 P s f,mL g (uP L x)with
  |some (fo,n,r),some (.agg cells,o)=>(qd r n fo cells).map fun c=>⟨.cm c,[],o,hs⟩
  |_,_=>none)
 | .indexAddr t x i =>
  (match P.underlying t,mL g (uP L x),mL g (uP L i)with
  |some (.slice e),some (.one (.sl _ sz rows),o),some (.one (.int _ n),o') =>
   (match hs with
   | .cells c ::gR=>bif Dd P e == some sz then some ⟨one (.ip c 0),[],o++o'++[a4 rows n=some c],gR⟩else none
   |_=>none)
  |some (.slice e),some (.one (.os id sz off len),o),some (.one (.int _ n),o') =>
   bif Dd P e == some sz then some ⟨one (.op id sz (off+n.toNat) 0),[],o++o'++[0≤n,n<len],hs⟩else none
  |some (.array len e),some (.one (.ip cells off),o),some (.one (.int _ n),o') =>
   (match Dd P e with
   |some sz=>bif !(len == 0)then some ⟨one (.ip cells (off+n.toNat*sz)),[],o++o'++[0≤n,n<len],hs⟩else none
   |none=>none)
  |some (.array len e),some (.one (.op id sz row off),o),some (.one (.int _ n),o') =>
   (match Dd P e with
   |some esz=>bif !(len == 0)then some ⟨one (.op id sz row (off+n.toNat*esz)),[],o++o'++[0≤n,n<len],hs⟩else none
   |none=>none)
  |_,_,_=>none)
 | .index t x i =>
  (match P.underlying t,mL g (uP L x),mL g (uP L i)with
  |some .string,some (.one (.str s),o),some (.one (.int _ n),o') =>
   (match hs with
   | .byte b ::gR=>some ⟨one (.int .u8 (BQ b)),[],o++o'++[II s n=some b],gR⟩
   |_=>none)
  |some (.array len e),some (.agg cells,o),some (.one (.int _ n),o') =>
   (match Dd P e,BK P e with
   |some sz,some r=>(qd r sz (n.toNat*sz) cells).map fun c=>⟨.cm c,[],o++o'++[0≤n,n<len],hs⟩
   |_,_=>none)
  |_,_,_=>none)
 | .extract x i =>
  (match uP L x with
  | .pX cs=>(cs[i]?).map fun c=>⟨.cm c,[],[],hs⟩
  |_=>none)
 | .call c =>
  (match c.callee with
  | .builtin b =>
   (match Ej L g c.args.toList with
   |some (args,o)=>(tI P h base b args c.argTypes.toList hs).map fun r=>{r with e9:=o++r.e9}
   |none=>none)
  |_=>none)
 |_=>Mt P h base g L op hs
section
open Go.RowKit
inductive IR (w:World) (M:Nat→Prop):Lf→Value→Prop
 |any (v:Value):v.oneCell'=true→IR w M .any v
 |int (k:IntKind) (n:Int):IR w M (.int k n) (.int k n)
 |bool (b:Bool):IR w M (.bool b) (.bool b)
 |str (s:ByteArray):IR w M (.str s) (.string s)
 |K2:IR w M .K2 (.pointer none)
 |cM:IR w M .cM (.slice none 0 0)
 |fn (f:Fn):IR w M (.fn f []) (.func f #[] #[])
 | ip (cells:List Lf) (off b o:Nat) (vs:Nat→Value):M b→(∀ (i:Nat) (l:Lf),cells[i]?=some l→w.cell? ⟨b,o+i,none⟩=some (vs i)) →
   (∀(i:Nat) (l:Lf),cells[i]?=some l→IR w M l (vs i))→IR w M (.ip cells off) (.pointer (some ⟨b,o+off,none⟩))
 |Ko (cl:Bool) (sz:Nat) (a:Option Addr) (cap:Nat):(cl=true→cap=0)→IR w M (.sl cl sz []) (.slice a 0 cap)
 | sl (cl:Bool) (sz:Nat) (rows:List (List Lf)) (b o cap:Nat) (vs:Nat→Nat→Value):M b→rows.length≤cap→(cl=true→cap=rows.length) →
   (∀(i:Nat) (c:List Lf),rows[i]?=some c→c.length=sz)→
   (∀(i:Nat) (c:List Lf) (j:Nat) (l:Lf),rows[i]?=some c→c[j]?=some l→w.cell? ⟨b,o+i*sz+j,none⟩=some (vs i j))→
   (∀(i:Nat) (c:List Lf) (j:Nat) (l:Lf),rows[i]?=some c→c[j]?=some l→IR w M l (vs i j))→IR w M (.sl cl sz rows) (.slice (some ⟨b,o,none⟩) rows.length cap)
abbrev Pl:=Nat→Option (Option (Nat×Nat))
def tC(w:World)(M:Nat→Prop)(φ:Pl):Lf→Value→Prop
 | .op id sz row off,v=>∃b C,φ id=some (some (b,C))∧v=.pointer (some ⟨b,row*sz+off,none⟩)
 | .os id sz off len,v=>(∃ b C,φ id=some (some (b,C))∧v=.slice (some ⟨b,off*sz,none⟩) len (C-off)∧off+len≤C) ∨
   (φ id=some none∧off=0∧len=0∧∃a,v=.slice a 0 0)
 | .mp id,v=>∃b,φ id=some (some (b,1))∧v=.map (some b)
 |l,v=>IR w M l v
def Rs{α β:Type}(R:α→β→Prop):List α→List β→Prop
 | [],[]=>True
 |x ::xs,y ::ys=>R x y∧Rs R xs ys
 |_,_=>False
def LR(w:World)(M:Nat→Prop)(φ:Pl):Lf→Value→Prop
 | .fn f gE,v=>∃vs:List Value,v=.func f #[] vs.toArray∧Rs (tC w M φ) gE vs
 |l,v=>tC w M φ l v
def CR(w:World)(M:Nat→Prop)(φ:Pl):Cm→Value→Prop
 | .one l,v=>LR w M φ l v
 | .agg ls,v=>∃vs:List Value,v=.agg vs.toArray∧Rs (LR w M φ) ls vs
def AR(w:World)(M:Nat→Prop)(φ:Pl):AV→Value→Prop
 | .cm c,v=>CR w M φ c v
 | .pX cs,v=>∃vs:List Value,v=.tuple vs.toArray∧Rs (CR w M φ) cs vs
 | .gd p c,v=>(p→CR w M φ c v)∧(¬p→v=undef)
 | .Iy,_=>True
 | .Px,v=>∃b,v=.bool b
 | .vl u c,v=>v=u∧CR w M φ c v
def KyR(w:World)(M:Nat→Prop)(ks:List Lf)(kv:Value):Prop:=(∃k,ks=[k]∧IR w M k kv)∨(2≤ks.length∧∃vs:List Value,kv=.agg vs.toArray∧Rs (IR w M) ks vs)
def yT(w:World)(M:Nat→Prop)(row:List Lf)(e:MapEntry):Prop:=∃v ks,row=v ::ks∧IR w M v e.val∧KyR w M ks e.key
def MR(w:World)(M:Nat→Prop)(φ:Pl)(id:Nat)(ob:Ob):Prop:=
 ob.box=true∧∃rs b es KC,ob.rows=[] :: [] ::rs∧φ id=some (some (b,1))∧w.heap[b]?=some (.map es KC)∧Rs (yT w M) rs es.toList
def OC(w:World)(M:Nat→Prop)(φ:Pl)(id:Nat)(ob:Ob):Prop:=
 0<ob.sz∧
 match φ id with
 |none=>False
 |some none=>ob.rows=[]∧ob.box=false
 | some (some (b,C))=>∃ cur:Array Value,w.heap[b]?=some (.cells cur ob.Et (0,0))∧cur.size=C*ob.sz∧ob.rows.length≤C∧C≤maxLen ∧
   (ob.box=true→C=1)∧
   ∀i c,ob.rows[i]?=some c→c.length=ob.sz∧∀j l,c[j]?=some l→∃v,cur[i*ob.sz+j]?=some v∧(if ob.box then LR w M φ l v else IR w M l v)
def OR(w:World)(M:Nat→Prop)(φ:Pl)(id:Nat)(ob:Ob):Prop:=OC w M φ id ob∨MR w M φ id ob
structure a5 where
 w0:World
 UA:Nat→Prop
 M0:Nat→Prop
 pins:List (Nat×Nat)
def Wp:Option (Nat×Array Value):=none
structure Wd (Γ:a5) (φ:Pl) (M:Nat→Prop) (h:Nat→Option Ob) (w:World):Prop where
 e9:∀id ob,h id=some ob→OR w M φ id ob
 inj:∀i j oi oj b Ci Cj,h i=some oi→h j=some oj→φ i=some (some (b,Ci))→φ j=some (some (b,Cj))→i=j
 mlt:∀b,M b→b<w.heap.size
 m0:∀b,Γ.M0 b→M b
 Gu:∀b,M b→Γ.M0 b∨Γ.UA b∨Γ.w0.heap.size≤b
 own:∀id ob b C,h id=some ob→φ id=some (some (b,C))→¬M b∧b<w.heap.size∧(Γ.UA b∨Γ.w0.heap.size≤b)
 Ce:∀b,b<Γ.w0.heap.size→¬Γ.UA b→w.heap[b]?=Γ.w0.heap[b]?
 os:w.os=Γ.w0.os
 tape:w.tape=Γ.w0.tape
 output:w.output=Γ.w0.output
 size:Γ.w0.heap.size≤w.heap.size
 zA:∀p∈Γ.pins,φ p.1=some (some (p.2,1))
 Te:∀b cs,Wp=some (b,cs)→Γ.M0 b∧¬Γ.UA b∧b<Γ.w0.heap.size∧∃t s,Γ.w0.heap[b]?=some (.cells cs t s)
def hl(H:List (Option Ob))(id:Nat):Option Ob:=(H[id]?).join
def sH(φ:Pl):Nat→List Ob→List (Nat×Nat)
 |_,[]=>[]
 |i,o ::r=>(match o.box,φ i with
  |true,some (some (b,_))=>[(i,b)]
  |_,_=>[])++sH φ (i+1) r
def Mk(P:Program)(f:FuncId):Bool:=
 match P.funcs[f]? with
 |some fn=>!(fn.name == "runtime.NumGoroutine")&&fn.body.isSome
 |none=>false
def dd(P:Program)(f:FuncId)(args:List Cm)(H0:List Ob)(r:AV)(H1:List (Option Ob)):Prop:=
 Mk P f=true∧∀(w:World) (φ:Pl) (M0:Nat→Prop) (oq:List Value),
  Wd ⟨w,fun b=>∃id C,id<H0.length∧φ id=some (some (b,C)),M0,sH φ 0 H0⟩ φ M0 (fun id=>H0[id]?) w→(∀id,H0.length≤id→φ id=none)→
  Rs (CR w M0 φ) args oq→
  Calls P f oq.toArray w fun e w'=>∃v φ' M',e=.returned v∧AR w' M' φ' r v∧
   Wd ⟨w,fun b=>∃id C,id<H0.length∧φ id=some (some (b,C)),M0,sH φ 0 H0⟩ φ' M' (hl H1) w'∧(∀id,H1.length≤id→φ' id=none)
def M4(m:Nat→Option Nat):Lf→Lf
 | .op id sz row off=>match m id with
  |some j=>.op j sz row off
  |none=>.any
 | .os id sz off len=>match m id with
  |some j=>.os j sz off len
  |none=>.any
 | .mp id=>match m id with
  |some j=>.mp j
  |none=>.any
 | .fn f gE=>.any
 |l=>l
def SI(m:Nat→Option Nat):Lf→Lf
 | .fn f gE=>.fn f (gE.map (M4 m))
 |l=>M4 m l
def Qn(m:Nat→Option Nat):Cm→Cm
 | .one l=>.one (SI m l)
 | .agg ls=>.agg (ls.map (SI m))
def GP(m:Nat→Option Nat):AV→AV
 | .cm c=>.cm (Qn m c)
 | .pX cs=>.pX (cs.map (Qn m))
 | .gd p c=>.gd p (Qn m c)
 | .Iy=>.Iy
 | .Px=>.Px
 | .vl v c=>.vl v (Qn m c)
def isMap(ob:Ob):Bool:=(Dp ob.rows).isSome
def g0(m:Nat→Option Nat)(ob:Ob):Ob:=bif ob.box&&!isMap ob then{ob with rows:=ob.rows.map fun c=>c.map (SI m)}else ob
def posOf:List Nat→Nat→Nat→Option Nat
 | [],_,_=>none
 |x ::r,k,id=>bif x == id then some k else posOf r (k+1) id
def QR:Lf→Bool
 | .op ..=>false
 | .os ..=>false
 | .fn ..=>false
 | .mp _=>false
 |_=>true
def TI:Lf→Bool
 | .fn _ gE=>gE.all QR
 |l=>QR l
def JL:Cm→Bool
 | .one l=>TI l
 | .agg ls=>ls.all TI
structure Y2 where
 v:AV
 H:List (Option Ob)
 e9:List Prop
 hs:List Hint
def wT:List Nat→Bool
 | []=>true
 |x ::r=>!r.contains x&&wT r
def PI:AV→Bool
 | .cm c=>JL c
 | .pX cs=>cs.all JL
 |_=>false
def Jv(P:Program)(h:Nat→Option Ob)(L:Nat→AV)(c:Call)(hs:List Hint):Option G_:=
 match c.callee with
 | .value f =>
  match uP L f,Ej L True c.args.toList,hs with
  | .cm (.one (.fn (.func k) gE)),some (ve,o),.call [] r [] ::gR =>
   bif (ve++gE.map Cm.one).all JL then
    bif PI r then some ⟨r,[],o++[dd P k (ve++gE.map Cm.one) [] r []],gR⟩else none
   else match ML h (ve++gE.map Cm.one)with
    |some (Lc,o')=>bif MX r then some ⟨r,[],o++o'++[dd P k Lc [] r []],gR⟩else none
    |none=>none
  |_,_,_=>none
 |_=>none
def La:List (Option Ob)→Option (List Ob)
 | []=>some []
 |some o ::r=>(La r).map (o :: ·)
 |none ::_=>none
def Ml(P:Program)(base:Nat)(L:Nat→AV)(c:Call)(hs:List Hint):Option G_:=
 match c.callee with
 | .value f =>
  match uP L f,Ej L True c.args.toList,hs with
  | .cm (.one (.fn (.func k) gE)),some (ve,o),.call [] r out ::gR =>
   match La out with
   |some e9=>bif (ve++gE.map Cm.one).all JL&&e9.all (fun o=>!o.box)then some ⟨GP (fun j=>some (base+j)) r,e9,o++[dd P k (ve++gE.map Cm.one) [] r out],gR⟩else none
   |none=>none
  |_,_,_=>none
 |_=>none
def Na(id:Nat):Lf→Bool
 | .os Pm ..=>Pm == id
 |_=>false
structure Wr where
 v:AV
 uO:List (Nat×Option Ob)
 news:List Ob
 e9:List Prop
 hs:List Hint
def nO:List (Nat×Option Ob)→Nat→Option (Option Ob)
 | [],_=>none
 |(u,o) ::r,id=>bif u == id then some o else nO r id
def OZ(H:List (Option Ob)):List (Nat×Option Ob)→List (Option Ob)
 | []=>H
 |(u,o) ::r=>(OZ H r).set u o
def Ib(h:Nat→Option Ob)(uO:List (Nat×Option Ob))(id:Nat):Option Ob:=
 match nO uO id with
 |some o=>o
 |none=>h id
def Rw(h:Nat→Option Ob):List Nat→Option (List Ob)
 | []=>some []
 |i ::r=>match h i,Rw h r with
  |some o,some os=>some (o ::os)
  |_,_=>none
def ze:List Ob→Nat
 | []=>0
 |o ::r=>bif o.box then ze r+1 else 0
def Jh(P:Program)(h:Nat→Option Ob)(base:Nat)(L:Nat→AV)(c:Call)(hs:List Hint):Option Wr:=
 match Ej L True c.args.toList,c.argTypes.toList,hs with
 |some ([.one (.os id sz off len),.one x],o),[t,t'],.rows R ::gR =>
  (match m1 P t,h id,rowsOf h x with
  |some e,some ob,some (Po,new,o') =>
   (match P.info? e,ED P e with
   |some i,some z =>
    bif t == t'&&off == 0&&sz == i.size&&ob.sz == sz&&!ob.box&&ob.Et == e&&(Po == sz||new.isEmpty)&&!Na id x then
     some ⟨one (.os base sz 0 R.length),[(id,none)],[⟨false,sz,e,R⟩],
      o++o'++[ob.rows.length=len,ob.rows++new=R,R.length*i.bytes≤140737488355328,R.length≤9223372036854775807],gR⟩
    else none
   |_,_=>none)
  |_,_,_=>none)
 |_,_,_=>none
def Nl(P:Program)(h:Nat→Option Ob)(L:Nat→AV)(t:TypeId)(a x:Operand)(hs:List Hint):Option Wr:=
 match mL True (uP L a),mL True (uP L x),Dd P t with
 |some (.one (.op id sz row off),o1),some (c,o2),some n =>
  (match h id with
  |some ob=>(match ob.box,ob.rows with
   |true,[cells]=>bif ob.sz == sz&&n == c.cells.length&&(row == 0&&Nat.ble (off+n) cells.length)then some ⟨.Iy,[(id,some {ob with rows:=[cells.take off++c.cells++cells.drop (off+n)]})],[],o1++o2,hs⟩else none
   |_,_=>none)
  |none=>none)
 |_,_,_=>none
def pV(ids:List Nat)(nb base j:Nat):Option Nat:=bif Nat.blt j nb then ids[j]? else some (base+(j-nb))
def KO(m:Nat→Option Nat):List Nat→List Ob→List (Nat×Option Ob)
 |i ::is,o ::os=>(i,some (g0 m o)) ::KO m is os
 |_,_=>[]
def NW(ids:List Nat):List (Nat×Option Ob):=ids.map fun i=>(i,none)
def RO(P:Program)(h:Nat→Option Ob)(base:Nat)(L:Nat→AV)(c:Call)(hs:List Hint):Option Wr:=
 match c.callee with
 | .value f =>
  match uP L f,Ej L True c.args.toList,hs with
  | .cm (.one (.fn (.func k) gE)),some (ve,o),.call ids r out ::gR =>
   match Rw h ids,La out with
   |some sC,some sD =>
    bif wT ids&&Nat.ble (ze sC) sD.length&&((sC.drop (ze sC)).all (fun x=>!x.box)&&(sD.take (ze sC)).all (fun x=>x.box))then
     some ⟨GP (pV ids (ze sC) base) r,KO (pV ids (ze sC) base) (ids.take (ze sC)) (sD.take (ze sC))++NW (ids.drop (ze sC)),
      (sD.drop (ze sC)).map (g0 (pV ids (ze sC) base)),o++[dd P k ((ve++gE.map Cm.one).map (Qn (posOf ids 0))) (sC.map (g0 (posOf ids 0))) r out],gR⟩
    else none
   |_,_=>none
  |_,_,_=>none
 |_=>none
def WB(P:Program)(h:Nat→Option Ob)(L:Nat→AV)(t:TypeId)(m k v:Operand)(hs:List Hint):Option Wr:=
 match P.underlying t,mL True (uP L m),mL True (uP L k),mL True (uP L v),hs with
 |some (.map kt _),some (.one (.mp id),o1),some (kl,o2),some (.one vl,o3),.rows R ::gR =>
  (match h id with
  |some ob=>(match Dp ob.rows with
   |some rs=>bif ob.box&&JV vl&&Hy P kt kl then some ⟨.Iy,[(id,some {ob with rows:=[] :: [] ::R})],[],o1++o2++o3++[wO rs kl.cells vl=some R],gR⟩else none
   |none=>none)
  |none=>none)
 |_,_,_,_,_=>none
def WA(P:Program)(h:Nat→Option Ob)(L:Nat→AV)(t:TypeId)(x hi:Operand)(hs:List Hint):Option Wr:=
 match mL True (uP L x),mL True (uP L hi),m1 P t,hs with
 |some (.one (.os id sz off len),o1),some (.one (.int _ n),o2),some e,.rows R ::gR =>
  (match h id with
  | some ob=>bif off == 0&&ob.sz == sz&&!ob.box&&Dd P e == some sz then
    some ⟨one (.os id sz 0 R.length),[(id,some {ob with rows:=R})],[],o1++o2++[ob.rows.length=len,0≤n,n≤ob.rows.length,ob.rows.take n.toNat=R],gR⟩else none
  |none=>none)
 |_,_,_,_=>none
def Tf(P:Program)(h:Nat→Option Ob)(base:Nat)(L:Nat→AV)(op:Op)(hs:List Hint):Option Wr:=
 match op with
 | .store t a x=>Nl P h L t a x hs
 | .mapUpdate t m k v=>WB P h L t m k v hs
 | .slice t x none (some hi) none=>WA P h L t x hi hs
 | .call c =>
  (match c.callee with
  | .builtin .append=>Jh P h base L c hs
  |_=>RO P h base L c hs)
 |_=>none
def Xe(P:Program)(H:List (Option Ob))(L:Nat→AV)(op:Op)(hs:List Hint):Option Y2:=
 match op with
 | .store t a x =>
  (match mL True (uP L a),mL True (uP L x),Dd P t with
  |some (.one (.op id sz row off),o),some (c,o'),some n =>
   (match hl H id with
   |some ob =>
    bif ob.sz == sz&&n == c.cells.length then
     (match ob.box,ob.rows,hs with
     |true,[cells],_=>bif row == 0&&Nat.ble (off+n) cells.length then some ⟨.Iy,H.set id (some {ob with rows:=[cells.take off++c.cells++cells.drop (off+n)]}),o++o',hs⟩else none
     |false,rows,.cells OF :: .rows R ::gR =>
      bif Nat.ble (off+n) OF.length&&c.cells.all JV then
       some ⟨.Iy,H.set id (some {ob with rows:=R}),o++o'++[rows[row]?=some OF,rows.set row (OF.take off++c.cells++OF.drop (off+n))=R],gR⟩
      else none
     |_,_,_=>none)else none
   |none=>none)
  |_,_,_=>none)
 | .call c =>
  (match c.callee with
  | .builtin .copy =>
   (match Ej L True c.args.toList,c.argTypes.toList,hs with
   |some ([.one (.os id sz off len),.one x],o),[t,t'],.rows R :: .num n ::gR =>
    (match m1 P t,hl H id,rowsOf (hl H) x with
    |some e,some ob,some (Po,new,o') =>
     (match P.info? e with
     |some i =>
      bif t == t'&&off == 0&&sz == i.size&&ob.sz == sz&&!ob.box&&(Po == sz||new.isEmpty)&&!Na id x then
       some ⟨one (.int .i64 n),H.set id (some {ob with rows:=R}),o++o'++[ob.rows.length=len,min new.length ob.rows.length=n,new.take n++ob.rows.drop n=R],gR⟩
      else none
     |none=>none)
    |_,_,_=>none)
   |_,_,_=>none)
  |_=>none)
 |_=>none
def PJ(id sz:Nat)(rows:List (List Lf)):Lf→Lf×List Prop
 | .os i s off len=>bif i == id&&s == sz&&off == 0 then(.sl false sz rows,[rows.length=len])else(.os i s off len,[])
 |l=>(l,[])
def JP(id sz:Nat)(cells:List Lf):Lf→Lf×List Prop
 | .op i s row off=>bif i == id&&row == 0 then(.ip cells off,[])else(.op i s row off,[])
 |l=>(l,[])
def Qm(id n:Nat):Lf→Lf×List Prop
 | .os i s off len=>bif i == id&&off == 0 then(.os i s off n,[len=n])else(.os i s off len,[])
 |l=>(l,[])
section
variable (f : Lf → Lf × List Prop)
def y2:List Lf→List Lf×List Prop
 | []=>([],[])
 |l ::r=>((f l).1 ::(y2 r).1,(f l).2++(y2 r).2)
def YE:Cm→Cm×List Prop
 | .one l=>(.one (f l).1,(f l).2)
 | .agg ls=>(.agg (y2 f ls).1,(y2 f ls).2)
def PL:List Cm→List Cm×List Prop
 | []=>([],[])
 |c ::r=>((YE f c).1 ::(PL r).1,(YE f c).2++(PL r).2)
def R5:AV→AV×List Prop
 | .cm c=>(.cm (YE f c).1,(YE f c).2)
 | .pX cs=>(.pX (PL f cs).1,(PL f cs).2)
 |v=>(v,[])
def ph:List (Nat×AV)→List (Nat×AV)×List Prop
 | []=>([],[])
 |(t,v) ::r=>((t,(R5 f v).1) ::(ph r).1,(R5 f v).2++(ph r).2)
def tJ:List (List Lf)→List (List Lf)×List Prop
 | []=>([],[])
 |c ::r=>((y2 f c).1 ::(tJ r).1,(y2 f c).2++(tJ r).2)
def Mu:Option Ob→Option Ob×List Prop
 |some ob=>bif ob.box&&!isMap ob then(some {ob with rows:=(tJ f ob.rows).1},(tJ f ob.rows).2)else(some ob,[])
 |none=>(none,[])
def Np:List (Option Ob)→List (Option Ob)×List Prop
 | []=>([],[])
 |o ::r=>((Mu f o).1 ::(Np r).1,(Mu f o).2++(Np r).2)
end
def Yz(sz:Nat):Lf→Option Lf
 | .cM=>some (.sl false sz [])
 | .sl _ s rows=>some (.sl false s rows)
 |_=>none
def wkC(k sz:Nat):Cm→Option Cm
 | .one l=>bif k == 0 then(Yz sz l).map .one else none
 | .agg ls=>match ls[k]? with
  |some l=>(Yz sz l).map fun l'=>.agg (ls.set k l')
  |none=>none
structure SS where
 N:Nat
 L:List (Nat×AV)
 H:List (Option Ob)
def ghost:List Hint→SS→Option (SS×List Prop×List Hint)
 | .wait 0 ::hs,σ=>ghost hs σ
 | .wait (n+1) ::hs,σ=>some (σ,[],.wait n ::hs)
 | .iY id ::hs,σ =>
  (match hl σ.H id with
  |some ob=>bif ob.box then none else
   match ghost hs ⟨σ.N,(ph (PJ id ob.sz ob.rows) σ.L).1,(Np (PJ id ob.sz ob.rows) (σ.H.set id none)).1⟩with
   |some (σ',o,gR)=>some (σ',(ph (PJ id ob.sz ob.rows) σ.L).2++(Np (PJ id ob.sz ob.rows) (σ.H.set id none)).2++o,gR)
   |none=>none
  |none=>none)
 | .XG id ::hs,σ =>
  (match hl σ.H id with
  |some ob=>(match ob.box,ob.rows with
   |true,[cells]=>bif cells.all JV then
    (match ghost hs ⟨σ.N,(ph (JP id ob.sz cells) σ.L).1,(Np (JP id ob.sz cells) (σ.H.set id none)).1⟩with
    |some (σ',o,gR)=>some (σ',(ph (JP id ob.sz cells) σ.L).2++(Np (JP id ob.sz cells) (σ.H.set id none)).2++o,gR)
    |none=>none)else none
   |_,_=>none)
  |none=>none)
 | .re id n ::hs,σ =>
  (match ghost hs ⟨σ.N,(ph (Qm id n) σ.L).1,(Np (Qm id n) σ.H).1⟩ with
   |some (σ',o,gR)=>some (σ',(ph (Qm id n) σ.L).2++(Np (Qm id n) σ.H).2++o,gR)
   |none=>none)
 | .E3 t k sz ::hs,σ =>
  (match look σ.L t with
  | .cm c=>(match wkC k sz c with
   |some c'=>ghost hs ⟨σ.N,(t,.cm c') ::σ.L,σ.H⟩
   |none=>none)
  |_=>none)
 | .fg id k sz ::hs,σ =>
  (match hl σ.H id with
  |some ob=>(match ob.box,ob.rows with
   |true,[cells]=>(match cells[k]? with
    |some l=>(match Yz sz l with
     |some l'=>ghost hs ⟨σ.N,σ.L,σ.H.set id (some {ob with rows:=[cells.set k l']})⟩
     |none=>none)
    |none=>none)
   |_,_=>none)
  |none=>none)
 | .kN t sz e ::hs,σ =>
  (match look σ.L t with
  | .cm (.one .cM)=>bif sz == 0 then none else ghost hs ⟨σ.N,(t,one (.os σ.H.length sz 0 0)) ::σ.L,σ.H++[some ⟨false,sz,e,[]⟩]⟩
  |_=>none)
 | .jS id k sz e ::hs,σ =>
  (match hl σ.H id with
  |some ob=>(match ob.box,ob.rows with
   |true,[cells]=>(match cells[k]? with
    |some .cM=>bif sz == 0 then none else ghost hs ⟨σ.N,σ.L,(σ.H.set id (some {ob with rows:=[cells.set k (.os σ.H.length sz 0 0)]}))++[some ⟨false,sz,e,[]⟩]⟩
    |_=>none)
   |_,_=>none)
  |none=>none)
 |hs,σ=>some (σ,[],hs)
structure St where
 σ:SS
 e9:List Prop
 hs:List Hint
def Vt(p:Prop):AV→Option AV
 | .cm c=>some (.gd p c)
 |_=>none
def GJ(d:Option Nat)(v:AV)(L:List (Nat×AV)):List (Nat×AV):=
 match d with
 |some t=>(t,v) ::L
 |none=>L
def YB(P:Program)(h:Nat→Option Ob)(base:Nat)(L:Nat→AV)(op:Op)(hs:List Hint):Option G_:=
 match uT P h base True L op hs with
 |some r=>some r
 |none=>match op with
  | .call c=>match Jv P h L c hs with
   |some r=>some r
   |none=>Ml P base L c hs
  |_=>none
def Y0:AV:=.gd False (.one (.bool false))
def FB(P:Program)(o:Oper)(σ:SS)(hs:List Hint):Option St:=
 match YB P (hl σ.H) σ.H.length (look σ.L) o.op hs with
 |some r=>some ⟨⟨σ.N,GJ o.dst r.v σ.L,σ.H++r.news.map some⟩,r.e9,r.hs⟩
 |none=>match Xe P σ.H (look σ.L) o.op hs with
  |some r=>some ⟨⟨σ.N,GJ o.dst r.v σ.L,r.H⟩,r.e9,r.hs⟩
  |none=>match Tf P (hl σ.H) σ.H.length (look σ.L) o.op hs with
   |some r=>some ⟨⟨σ.N,GJ o.dst r.v σ.L,OZ σ.H r.uO++r.news.map some⟩,r.e9,r.hs⟩
   |none=>none
def Es(N:Nat):Option Nat→Bool
 |some d=>Nat.blt d N
 |none=>true
def Qu(P:Program)(l:Array Oper)(o:Oper)(σ:SS)(hs:List Hint):Option St:=
 bif !Es σ.N o.dst then none else
 match o.guard with
 |none=>FB P o σ hs
 |some (j,want) =>
  match((l[j]?).bind (·.dst)).map (look σ.L),hs with
  |some (.cm (.one (.bool b))),.bit t ::gR =>
   bif t == want then(FB P o σ gR).map fun r=>{r with e9:=(b=t) ::r.e9}
   else some ⟨⟨σ.N,GJ o.dst Y0 σ.L,σ.H⟩,[b=t],gR⟩
  |some (.gd p (.one (.bool b))),.bit t ::gR =>
   bif t == want then(FB P o σ gR).map fun r=>{r with e9:=(p∧b=t) ::r.e9}
   else some ⟨⟨σ.N,GJ o.dst Y0 σ.L,σ.H⟩,[p∧b=t],gR⟩
  |some (.gd p (.one (.bool b))),.skip ::gR=>some ⟨⟨σ.N,GJ o.dst Y0 σ.L,σ.H⟩,[¬p],gR⟩
  |some (.cm (.one (.bool b))),.spec ::gR =>
   (match uT P (hl σ.H) σ.H.length (b=want) (look σ.L) o.op gR with
   |some r=>bif r.news.isEmpty then(Vt (b=want) r.v).map fun v=>⟨⟨σ.N,GJ o.dst v σ.L,σ.H⟩,r.e9,r.hs⟩else none
   |none=>none)
  |some (.gd p (.one (.bool b))),.spec ::gR =>
   (match uT P (hl σ.H) σ.H.length (p∧b=want) (look σ.L) o.op gR with
   |some r=>bif r.news.isEmpty then(Vt (p∧b=want) r.v).map fun v=>⟨⟨σ.N,GJ o.dst v σ.L,σ.H⟩,r.e9,r.hs⟩else none
   |none=>none)
  |_,_=>none
def wc(P:Program)(l:Array Oper):List Oper→SS→List Hint→Option St
 | [],σ,hs=>some ⟨σ,[],hs⟩
 |o ::rest,σ,hs =>
  match ghost hs σ with
  |some (σ0,o0,T5) =>
   match Qu P l o σ0 T5 with
   |some s=>match wc P l rest s.σ s.hs with
    |some s'=>some ⟨s'.σ,o0++s.e9++s'.e9,s'.hs⟩
    |none=>none
   |none=>none
  |none=>none
def QN(P:Program)(l:Array Oper)(o:Oper)(h:Nat→Option Ob)(base:Nat)(L:Nat→AV)(hs:List Hint):Option G_:=
 match o.guard with
 |none=>YB P h base L o.op hs
 |some (j,want) =>
  match((l[j]?).bind (·.dst)).map L,hs with
  |some (.cm (.one (.bool b))),.bit t ::gR =>
   bif t == want then(YB P h base L o.op gR).map fun r=>{r with e9:=(b=t) ::r.e9}
   else some ⟨Y0,[],[b=t],gR⟩
  |some (.gd p (.one (.bool b))),.skip ::gR=>some ⟨Y0,[],[¬p],gR⟩
  |some (.cm (.one (.bool b))),.spec ::gR =>
   (match uT P h base (b=want) L o.op gR with
   |some r=>bif r.news.isEmpty then(Vt (b=want) r.v).map fun v=>⟨v,[],r.e9,r.hs⟩else none
   |none=>none)
  |_,_=>none
structure Dn where
 i:Nat
 dst:Option Nat
 v:AV
 base:Nat
 news:List Ob
 uO:List (Nat×Option Ob)
 rd:List (Nat×Nat×Nat×List Lf)
def jw(o:Oper):List Nat:=(o.after.toList.filter fun e=>Region.binds .any e).map (·.on)
def uu(L:List (Nat×AV))(jD:List Nat)(S:Nat→Bool):List Dn→Nat→AV
 | [],t=>bif jD.contains t then .Iy else look L t
 |d ::r,t=>bif d.dst == some t&&S d.i then d.v else uu L jD S r t
def te(H:List (Option Ob))(S:Nat→Bool):List Dn→Nat→Option Ob
 | [],id=>hl H id
 |d ::r,id=>bif Nat.ble d.base id&&Nat.blt id (d.base+d.news.length)then(bif S d.i then d.news[id-d.base]? else none)else te H S r id
def pJ(S:Nat→Bool):List Dn→Nat→Option (Option Ob)
 | [],_=>none
 |d ::r,id=>match bif S d.i then nO d.uO id else none with
  |some ob=>some ob
  |none=>pJ S r id
def lk(H:List (Option Ob))(S:Nat→Bool)(l:List Dn)(id:Nat):Option Ob:=
 match pJ S l id with
 |some ob=>ob
 |none=>te H S l id
def Jx:List (Nat×Nat)→Nat→Option Nat
 | [],_=>none
 |(u,j) ::r,id=>bif u == id then some j else Jx r id
def view(cl:List (Nat×Nat))(i:Nat)(h:Nat→Option Ob)(id:Nat):Option Ob:=
 match Jx cl id with
 |some j=>bif j == i then h id else none
 |none=>h id
def wh(o:Oper):Bool:=match o.guard with
 |none=>true
 |some _=>false
def UL(P:Program)(H:List (Option Ob))(L:Nat→AV)(op:Op):Option (AV×(Nat×Nat×Nat×List Lf)×List Prop):=
 match op with
 | .load t a =>
  (match mL True (uP L a),Dd P t,BK P t with
  |some (.one (.op id sz row off),o),some n,some r =>
   (match hl H id with
   |some ob=>(match ob.box,ob.rows with
    |true,[cells]=>bif ob.sz == sz&&row == 0&&(r||n == 1)then(qd r n off cells).map fun c=>(.cm c,(id,off,sz,(cells.drop off).take n),o)else none
    |_,_=>none)
   |none=>none)
  |_,_,_=>none)
 |_=>none
def rdP(q:Nat×Nat×Nat×List Lf):Option Ob→Prop
 |some ob=>(ob.box,ob.sz,ob.rows.map fun cs=>(cs.drop q.2.1).take q.2.2.2.length)=(true,q.2.2.1,[q.2.2.2])
 |none=>False
def OO(q:Nat×Nat×Nat×List Lf):List (Nat×Option Ob)→List Prop
 | []=>[]
 |(u,o) ::r=>bif u == q.1 then rdP q o ::OO q r else OO q r
def LV(q:Nat×Nat×Nat×List Lf):List Dn→List Prop
 | []=>[]
 |d ::r=>OO q d.uO++LV q r
def Wi(full:List Dn):List (Nat×Nat×Nat×List Lf)→List Prop
 | []=>[]
 |q ::r=>LV q full++Wi full r
def LS(full:List Dn):List Dn→List Prop
 | []=>[]
 |d ::r=>Wi full d.rd++LS full r
def XE(P:Program)(l:Array Oper)(σ:SS)(jD:List Nat)(cl:List (Nat×Nat)):Nat→List Oper→List Dn→Nat→List Hint→Option (List Dn×Nat×List Prop×List Hint)
 |_,[],done,base,hs=>some (done,base,[],hs)
 |i,o ::rest,done,base,hs =>
  bif !Es σ.N o.dst then none else
  match QN P l o (view cl i (te σ.H (jw o).contains done)) base (uu σ.L jD (jw o).contains done) hs with
  |some r=>match XE P l σ jD cl (i+1) rest (⟨i,o.dst,r.v,base,r.news,[],[]⟩ ::done) (base+r.news.length) r.hs with
   |some (d,b,ob,gR)=>some (d,b,r.e9++ob,gR)
   |none=>none
  |none=>match Tf P (view cl i (te σ.H (jw o).contains done)) base (uu σ.L jD (jw o).contains done) o.op hs with
   | some r=>bif wh o&&r.uO.all (fun u=>Jx cl u.1 == some i) then
     (match XE P l σ jD cl (i+1) rest (⟨i,o.dst,r.v,base,r.news,r.uO,[]⟩ ::done) (base+r.news.length) r.hs with
     |some (d,b,ob,gR)=>some (d,b,r.e9++ob,gR)
     |none=>none)else none
   |none=>match UL P σ.H (uu σ.L jD (jw o).contains done) o.op with
    | some (v,q,Iv)=>bif wh o then
      (match XE P l σ jD cl (i+1) rest (⟨i,o.dst,v,base,[],[],[q]⟩ ::done) base hs with
      |some (d,b,ob,gR)=>some (d,b,Iv++ob,gR)
      |none=>none)else none
    |none=>none
def dL(L:List (Nat×AV)):List Dn→List (Nat×AV)
 | []=>L
 |d ::r=>GJ d.dst d.v (dL L r)
def dH(H:List (Option Ob)):List Dn→List (Option Ob)
 | []=>H
 |d ::r=>OZ (dH H r) d.uO++d.news.map some
def dstsOf(l:List Oper):List Nat:=l.filterMap (·.dst)
def PR(l:Array Oper)(n:Nat):Array Bool:=((List.range l.size).map fun i=>Nat.blt i n).toArray
def NX(l:Array Oper)(n:Nat):Bool:=
 wT (dstsOf (l.toList.take n))&&Nat.ble n l.size &&
 ((l.toList.take n).zipIdx.all fun(o,i)=>(jw o).all fun j=>Nat.blt j i) &&
 (n == l.size||(Nat.blt n l.size&&Region.sinkB .any l n&&Region.chainB .any l n))&&Region.seqB .any l (l.size-n) n (PR l n)
def F2(P:Program)(l:Array Oper)(σ:SS)(hs:List Hint):Option St:=
 match hs with
 | .draw n cl ::gR =>
  bif P.follows .mixedOrders&&NX l n then
   match XE P l σ (dstsOf (l.toList.take n)) cl 0 (l.toList.take n) [] σ.H.length gR with
   |some (done,_,ob,Rc)=>(wc P l (l.toList.drop n) ⟨σ.N,dL σ.L done,dH σ.H done⟩ Rc).map fun s=>{s with e9:=ob++(LS done done++s.e9)}
   |none=>none
  else none
 |_=>none
inductive It where
 |c (p:Nat)
 |b (id:Nat)
 |l (p:Nat)
def child(k:Bool):Code→Code
 | .seq a b=>cond k b a
 | .cond _ a b=>cond k b a
 | .block _ b=>b
 | .loop b=>b
 | .scope b=>b
 |_=>.skip
def NP(body:Code):Nat→Nat→Code
 |0,_=>body
 |n+1,p=>bif Nat.ble p 1 then body else child (p % 2 == 1) (NP body n (p / 2))
def cd(body:Code)(p:Nat):Code:=NP body 300 p
def It.item(body:Code):It→Item
 | .c p=>.code (cd body p)
 | .b id=>.inBlock id
 | .l p=>.inLoop (cd body p)
def Lo(id:Nat):List It→Option (List It)
 | []=>none
 | .b i ::k=>bif i == id then some k else Lo id k
 |_ ::k=>Lo id k
structure Cf where
 k:List It
 σ:SS
structure Rn where
 cf:Cf
 e9:List Prop
 hs:List Hint
def GH:Nat:=1809251394333065553493296640760748560207343510400633813116524750123642650624
def Yu(P:Program)(body:Code)(cf:Cf)(hs:List Hint):Option Rn:=
 match cf.k with
 | []=>none
 | .b _ ::k=>some ⟨⟨k,cf.σ⟩,[],hs⟩
 | .l p ::k=>some ⟨⟨.c p :: .l p ::k,cf.σ⟩,[],hs⟩
 | .c p ::k =>
  bif !(Nat.ble 1 p&&Nat.blt p GH)then none else
  match cd body p with
  | .skip=>some ⟨⟨k,cf.σ⟩,[],hs⟩
  | .seq _ _=>some ⟨⟨.c (2*p) :: .c (2*p+1) ::k,cf.σ⟩,[],hs⟩
  | .block id _=>some ⟨⟨.c (2*p) :: .b id ::k,cf.σ⟩,[],hs⟩
  | .loop _=>some ⟨⟨.c (2*p) :: .l (2*p) ::k,cf.σ⟩,[],hs⟩
  | .cond c _ _ =>
   (match uP (look cf.σ.L) c,hs with
   | .cm (.one (.bool b)),.bit t ::gR=>some ⟨⟨.c (2*p+cond t 0 1) ::k,cf.σ⟩,[b=t],gR⟩
   |_,_=>none)
  | .exit id=>(Lo id k).map fun k'=>⟨⟨k',cf.σ⟩,[],hs⟩
  | .region _ ops draw =>
   (bif draw then F2 P ops cf.σ hs else wc P ops ops.toList cf.σ hs).map fun s=>⟨⟨k,s.σ⟩,s.e9,s.hs⟩
  |_=>none
def OW(P:Program)(body:Code):Nat→Cf→List Hint→Option Rn
 |0,cf,hs=>some ⟨cf,[],hs⟩
 |n+1,cf,hs =>
  match ghost hs cf.σ with
  |some (σ0,o0,T5) =>
   match Yu P body ⟨cf.k,σ0⟩ T5 with
   |some r=>match OW P body n r.cf r.hs with
    |some r'=>some ⟨r'.cf,o0++r.e9++r'.e9,r'.hs⟩
    |none=>none
   |none=>none
  |none=>none
def cut(live ids:List Nat)(σ:SS):SS:=
 ⟨σ.N,live.map fun t=>(t,GP (posOf ids 0) (look σ.L t)),ids.map fun i=>(hl σ.H i).map (g0 (posOf ids 0))⟩
def UM(P:Program)(body:Code)(n:Nat)(live ids:List Nat)(cf:Cf)(hs:List Hint):Option (Cf×Prop):=
 match OW P body n cf hs with
 |some r=>match ghost r.hs r.cf.σ with
  |some (σ,o,[])=>bif wT ids then some (⟨r.cf.k,cut live ids σ⟩,cA (r.e9++o))else none
  |_=>none
 |none=>none
def Wj(L:Nat→AV)(h:Nat→Option Ob)(P:Program):ResultVar→Option Cm
 | .tmp t=>match L t with
  | .cm c=>some c
  |_=>none
 | .cell a t=>match L a,Dd P t,BK P t with
  | .cm (.one (.op id sz row off)),some n,some r=>(match h id with
   |some ob=>(match ob.box,ob.rows with
    |true,[cells]=>bif row == 0&&ob.sz == sz then qd r n off cells else none
    |_,_=>none)
   |none=>none)
  |_,_,_=>none
def RE(L:Nat→AV)(h:Nat→Option Ob)(P:Program):List ResultVar→Option (List Cm)
 | []=>some []
 |x ::r=>match Wj L h P x,RE L h P r with
  |some c,some cs=>some (c ::cs)
  |_,_=>none
def UH:List Cm→AV
 | [c]=>.cm c
 |cs=>.pX cs
end
section
open Go.RowKit
def Ie(Γ:a5)(σ:SS)(a:Act)(w:World):Prop:=
 a.tmps.size=σ.N∧a.defers=[]∧∃φ M,(∀t,AR w M φ (look σ.L t) (a.tmps.getD t undef))∧Wd Γ φ M (hl σ.H) w∧(∀id,σ.H.length≤id→φ id=none)
def uQ(fn:Func):Code:=fn.body.getD .skip
def KW(P:Program)(body:Code)(k:List It)(R:Exit→Act→World→Prop)(a:Act)(w:World):Prop:=
 ∀(b:Frame) (cs:List Frame),∃e a' w',R e a' w'∧Arrives P (lone (b.at a (k.map (It.item body))) cs w) b [] cs e a' w'
def RR(P:Program)(fn:Func)(Γ:a5)(r:AV)(H1:List (Option Ob)):Exit→Act→World→Prop:=fun e a' w' =>
 (e=.ret∨e=.normal)∧a'.defers=[]∧∃v φ' M',(results fn a'.tmps).run P w'=.ok v w'∧AR w' M' φ' r v∧Wd Γ φ' M' (hl H1) w'∧(∀id,H1.length≤id→φ' id=none)
def Go(P:Program)(fn:Func)(zA:List Nat)(Γ:a5)(r:AV)(H1:List (Option Ob))(cf:Cf):Prop:=
 (∀p∈Γ.pins,p.1∈zA)→∀a w,Ie Γ cf.σ a w→KW P (uQ fn) cf.k (RR P fn Γ r H1) a w
def LM(zA ids:List Nat):Bool:=zA.all fun i=>match ids[i]? with
 |some j=>i == j
 |none=>false
def W8:Code→Bool
 | .ret=>true
 |_=>false
def Tu(body:Code):List It→Bool
 | []=>true
 | .c p ::_=>W8 (cd body p)
 |_=>false
def Yt(P:Program)(fn:Func)(n:Nat)(ids:List Nat)(cf:Cf)(hs:List Hint):Option (AV×List (Option Ob)×Prop):=
 match OW P (uQ fn) n cf hs with
 |some r =>
  bif Tu (uQ fn) r.cf.k then
   match ghost r.hs r.cf.σ with
   |some (σ,o,[])=>match RE (look σ.L) (hl σ.H) P fn.results.toList with
    |some cs=>bif wT ids then some (GP (posOf ids 0) (UH cs),ids.map fun i=>(hl σ.H i).map (g0 (posOf ids 0)),cA (r.e9++o))else none
    |none=>none
   |_=>none
  else none
 |none=>none
def wo:Nat→List Cm→List (Nat×AV)
 |_,[]=>[]
 |i,c ::r=>(i,.cm c) ::wo (i+1) r
def Ju:Nat→List Ob→List Nat
 |_,[]=>[]
 |i,o ::r=>cond o.box [i] []++Ju (i+1) r
section
variable {α β S E : Type}
def br(b:Bool)(x y:Option α):Option α:=match b with
 |true=>x
 |false=>y
def aG(o:Option α)(f:α→Option β):Option β:=match o with
 |some a=>f a
 |none=>none
theorem pZ{o:Option α}{f:α→Option β}{r:β}(h:aG o f=some r):∃a,o=some a∧f a=some r:=by
 cases o with
 |none=>cases h
 |some a=>exact⟨a,rfl,h⟩
def dr(p:Prop) [Decidable p] (x:Option α):Option α:=if p then x else none
theorem FW{p:Prop} [Decidable p] {x:Option α}{r:α}(h:dr p x=some r):p∧x=some r:=by
 unfold dr at h;split at h
 ·exact⟨‹_›,h⟩
 ·cases h
def YA [DecidableEq α] (x y:Option α):Option α:=if x=y then x else none
theorem NF [DecidableEq α] {x y:Option α}{r:α}(h:YA x y=some r):x=some r∧y=some r:=by
 unfold YA at h;split at h
 ·rename_i e;exact⟨h,e▸h⟩
 ·cases h
theorem neE(f:α→β){l:List α}(h:l.isEmpty=false):l.map f≠[]:=by
 cases l with
 |nil=>cases h
 |cons a r=>simp
def tp(B:S→Option (S⊕E)):Nat→S→Option E
 |0,_=>none
 |n+1,s=>match B s with
  |some (.inl s')=>tp B n s'
  |some (.inr e)=>some e
  |none=>none
theorem Lz(B:S→Option (S⊕E)){e:E}:∀(n k:Nat) (s:S),tp B n s=some e→tp B (n+k) s=some e
 |0,_,_,h=>by cases h
 |n+1,k,s,h=>by
  rw[show n+1+k=(n+k)+1 by omega]
  simp only[tp]at h ⊢;split at h
  ·exact Lz B n k _ h
  ·exact h
  ·cases h
def xM:Nat:=18446744073709551616
def aF(B:S→Option (S⊕E))(s:S):Option E:=tp B xM s
theorem P_{B:S→Option (S⊕E)}{s:S}{e:E}(h:aF B s=some e):∃n,tp B n s=some e:=⟨_,h⟩
theorem Ow{B:S→Option (S⊕E)}{s:S}{e:E}(n:Nat)(hn:n≤xM)(h:tp B n s=some e):aF B s=some e:=by
 have:=Lz B n (xM-n) s h;rwa [Nat.add_sub_cancel' hn]at this
theorem Ut{B:S→Option (S⊕E)}(C:S→Prop)(D:E→Prop)(Re:∀s x,B s=some x→(∀s',x=.inl s'→C s')→(∀e,x=.inr e→D e)→C s){s:S}{e:E}(h:aF B s=some e)(hD:D e):C s:=by
 obtain⟨n,hn⟩:=P_ h;clear h;induction n generalizing s with
 |zero=>cases hn
 |succ n ih =>
  simp only[tp]at hn;split at hn
  ·rename_i s' hs;exact Re s _ hs (fun t ht=>by cases ht;exact ih hn) (fun t ht=>by cases ht)
  ·rename_i e' hs;exact Re s _ hs (fun t ht=>by cases ht) (fun t ht=>by cases ht;cases hn;exact hD)
  ·cases hn
end
section
variable {K V : Type}
def KD(a b:ByteArray):Bool:=a == b
def oH(eq:K→K→Bool):List (K×V)→K→V→V
 | [],_,z=>z
 |p ::r,k,z=>bif eq k p.1 then p.2 else oH eq r k z
def sw(eq:K→K→Bool):List (K×V)→K→V→List (K×V)
 | [],k,v=>[(k,v)]
 |p ::r,k,v=>bif eq k p.1 then(k,v) ::r else p ::sw eq r k v
end
section
variable {α β A B γ : Type}
def d_(n b:Nat):Prop:=n*b≤140737488355328
instance(n b:Nat):Decidable (d_ n b):=inferInstanceAs (Decidable (n*b≤140737488355328))
def fi(l:List α)(i:Int)(x:α):List α:=l.set i.toNat x
def JA(l m:List α):Nat:=min m.length l.length
def Mo(l m:List α):List α:=m.take (JA l m)++l.drop (JA l m)
def wa(l:List α)(lo hi:Int):Option (List α):=if 0≤lo∧lo≤hi∧hi≤l.length then some ((l.drop lo.toNat).take (hi.toNat-lo.toNat))else none
def Qp(s:ByteArray)(lo hi:Int):Option Unit:=if 0≤lo∧lo≤hi∧hi≤s.size then some ()else none
def K1(n m:Int)(b:Nat)(z:α):Option (List α):=if 0≤n∧n≤m∧b*m≤140737488355328∧m≤9223372036854775807 then some (List.replicate n.toNat z)else none
def jB(e:A⊕B)(f:A→γ)(g:B→γ):γ:=match e with
 | .inl a=>f a
 | .inr b=>g b
theorem Qck(f:α→β)(l:List α):(l.map f).length=l.length:=List.length_map ..
theorem getM(f:α→β){l:List α}{i:Int}{a:α}(h:a4 l i=some a):a4 (l.map f) i=some (f a):=by
 unfold a4 at *;split at h
 ·rename_i h0;rw[if_pos h0,List.getElem?_map,h];rfl
 ·cases h
theorem eW{l:List α}{i:Int}{a:α}(h:a4 l i=some a):0≤i:=by
 unfold a4 at h;split at h
 ·assumption
 ·cases h
theorem eV(f:α→β){l:List α}{i:Int}{a:α}(h:a4 l i=some a):i<(l.map f).length:=by
 unfold a4 at h;split at h
 ·have:=(List.getElem?_eq_some_iff.1 h).1;rw[List.length_map];omega
 ·cases h
theorem QcD(f:α→β){l:List α}{i:Int}{a:α}(h:a4 l i=some a):(l.map f)[0+i.toNat]?=some (f a):=by
 have h1:=getM f h;unfold a4 at h1;split at h1
 ·rw[Nat.zero_add];exact h1
 ·cases h1
theorem C7(f:α→β)(l:List α)(i:Int)(x:α):(l.map f).set (0+i.toNat) (f x)=(fi l i x).map f:=by
 rw[Nat.zero_add];unfold fi;rw[List.map_set]
theorem getSet{l:List α}{i:Int}{a:α}(h:a4 l i=some a)(x:α):a4 (fi l i x) i=some x:=by
 unfold a4 at *;split at h
 ·rename_i h0;have:=(List.getElem?_eq_some_iff.1 h).1;rw[if_pos h0];unfold fi;rw[List.getElem?_set_self this]
 ·cases h
theorem oV(f:α→β)(l:List α)(i:Int)(x:α):(l.map f).length=((fi l i x).map f).length:=by simp [fi]
theorem Yh(f:α→β)(l m:List α):(l.map f).length=((Mo l m).map f).length:=by simp [Mo,JA];omega
theorem Y6(f:α→β)(l m:List α):l.map f++m.map f=(l++m).map f:=List.map_append.symm
theorem neM(f:α→β)(l:List α)(h:l≠[]):l.map f≠[]:=by simpa using h
theorem neA(f:α→β)(l m:List α)(h:m≠[]):m.map f=[]→l.map f=[]:=fun h'=>absurd h' (neM f m h)
theorem neZ(f:α→β)(m:List α):m.map f=[]→([]:List β)=[]:=fun _=>rfl
theorem V8(f:α→β){l:List α}{b:Nat}(h:d_ l.length b):(l.map f).length*b≤140737488355328:=by rw[List.length_map];exact h
theorem Ru(f:α→β){l:List α}{b:Nat}(hb:0<b)(h:d_ l.length b):(l.map f).length≤9223372036854775807:=by
 rw[List.length_map];unfold d_ at h;have:=Nat.le_mul_of_pos_right l.length hb;omega
theorem Qcp{b:Bool}(h:b=false):(!b)=true:=by rw[h];rfl
theorem Qco{b:Bool}(h:b=true):(!b)=false:=by rw[h];rfl
theorem Qa6(f:α→β)(l m:List α):min (m.map f).length (l.map f).length=JA l m:=by simp [JA]
theorem Qa7(f:α→β)(l m:List α):(m.map f).take (JA l m)++(l.map f).drop (JA l m)=(Mo l m).map f:=by simp [Mo,List.map_take,List.map_drop]
section
variable {l v : List α} {lo hi : Int}
theorem Kp(h:wa l lo hi=some v):(0≤lo∧lo≤hi∧hi≤l.length)∧(l.drop lo.toNat).take (hi.toNat-lo.toNat)=v:=by
 unfold wa at h;split at h
 ·exact⟨‹_›,Option.some.inj h⟩
 ·cases h
theorem Ha(h:wa l lo hi=some v):0≤lo:=(Kp h).1.1
theorem Hb(h:wa l lo hi=some v):lo≤hi:=(Kp h).1.2.1
theorem uN(f:α→β)(h:wa l lo hi=some v):hi≤(l.map f).length:=by rw[List.length_map];exact(Kp h).1.2.2
theorem Hc(f:α→β)(h:wa l lo hi=some v):((l.map f).drop lo.toNat).take (hi.toNat-lo.toNat)=v.map f:=by
 unfold wa at h;split at h
 ·rw[←Option.some.inj h,List.map_take,List.map_drop]
 ·cases h
theorem Qau(f:α→β)(h:wa l lo (aB l)=some v):lo≤(l.map f).length:=by rw[List.length_map];exact Hb h
theorem QcF(f:α→β)(h:wa l 0 hi=some v):(l.map f).take hi.toNat=v.map f:=by
 have:=Hc f h;simpa using this
theorem Qav(f:α→β)(h:wa l lo (aB l)=some v):((l.map f).drop lo.toNat).take (((l.map f).length:Int).toNat-lo.toNat)=v.map f:=by
 rw[List.length_map];exact Hc f h
theorem H4{s:ByteArray}{u:Unit}(h:Qp s lo hi=some u):0≤lo∧lo≤hi∧hi≤s.size:=by
 unfold Qp at h;split at h
 ·assumption
 ·cases h
theorem ss1{s:ByteArray}{u:Unit}(h:Qp s lo hi=some u):0≤lo:=(H4 h).1
theorem ss2{s:ByteArray}{u:Unit}(h:Qp s lo hi=some u):lo≤hi:=(H4 h).2.1
theorem ss3{s:ByteArray}{u:Unit}(h:Qp s lo hi=some u):hi≤s.size:=(H4 h).2.2
end
section
variable {n m : Int} {b : Nat} {z : α} {l : List α}
theorem I_(h:K1 n m b z=some l):(0≤n∧n≤m∧b*m≤140737488355328∧m≤9223372036854775807)∧List.replicate n.toNat z=l:=by
 unfold K1 at h;split at h
 ·exact⟨‹_›,Option.some.inj h⟩
 ·cases h
theorem Xa(h:K1 n m b z=some l):0≤n:=(I_ h).1.1
theorem Yk(h:K1 n m b z=some l):n≤m:=(I_ h).1.2.1
theorem Xb(h:K1 n m b z=some l):m≤9223372036854775807:=(I_ h).1.2.2.2
theorem Xc(h:K1 n m b z=some l):b*m≤140737488355328:=(I_ h).1.2.2.1
theorem Xd(f:α→β)(h:K1 n m b z=some l):List.replicate n.toNat (f z)=l.map f:=by
 unfold K1 at h;split at h
 ·rw[←Option.some.inj h,List.map_replicate]
 ·cases h
end
end
end
section
variable {α β S E : Type}
def post(o:Option α)(Q:α→Prop):Prop:=∃a,o=some a∧Q a
theorem post.mono{o:Option α}{Q R:α→Prop}(h:post o Q)(hi:∀a,Q a→R a):post o R:=let⟨a,h1,h2⟩:=h;⟨a,h1,hi a h2⟩
theorem post.eq{o:Option α}{a:α}(h:post o (fun x=>x=a)):o=some a:=by obtain⟨x,h1,rfl⟩:=h;exact h1
@[simp] theorem bj{a:α}{Q:α→Prop}:post (some a) Q↔Q a:=⟨fun⟨_,h1,h2⟩=>by cases h1;exact h2,fun h=>⟨a,rfl,h⟩⟩
@[simp] theorem YW{Q:α→Prop}:post none Q↔False:=⟨fun⟨_,h1,_⟩=>by(cases h1),False.elim⟩
theorem bh{b:Bool}{x y:Option α}{Q:α→Prop}(h1:b=true→post x Q)(h2:b=false→post y Q):post (br b x y) Q:=by
 cases b
 ·exact h2 rfl
 ·exact h1 rfl
theorem bG{o:Option α}{f:α→Option β}{Q:β→Prop}{R:α→Prop}(h:post o R)(h2:∀a,R a→post (f a) Q):post (aG o f) Q:=by
 obtain⟨a,rfl,h1⟩:=h;exact h2 a h1
theorem tQ{o:Option α}{f:α→Option β}{Q:β→Prop}(h:post o (fun a=>post (f a) Q)):post (aG o f) Q:=bG h fun _ h=>h
theorem b5{p:Prop} [Decidable p] {x:Option α}{Q:α→Prop}(h1:p)(h2:post x Q):post (dr p x) Q:=by
 unfold dr;rw[if_pos h1];exact h2
@[simp] theorem de{x y:Option α}:br true x y=x:=rfl
@[simp] theorem cP{x y:Option α}:br false x y=y:=rfl
theorem bu{b:Bool}{x y:Option α}(h:b=true):br b x y=x:=by rw[h];rfl
theorem bm{b:Bool}{x y:Option α}(h:b=false):br b x y=y:=by rw[h];rfl
theorem Y7{b:Bool}{x y:Option α}:br b x y=if b=true then x else y:=by cases b <;> rfl
@[simp] theorem ax{a:α}{f:α→Option β}:aG (some a) f=f a:=rfl
theorem eg{o:Option α}{a:α}{f:α→Option β}(h:o=some a):aG o f=f a:=by rw[h];rfl
theorem cr{p:Prop} [Decidable p] {x:Option α}(h:p):dr p x=x:=if_pos h
@[simp] theorem iB{A B γ:Type}{a:A}{f:A→γ}{g:B→γ}:jB (.inl a) f g=f a:=rfl
@[simp] theorem Je{A B γ:Type}{b:B}{f:A→γ}{g:B→γ}:jB (.inr b) f g=g b:=rfl
theorem Y5 [DecidableEq α] {x:Option α}:YA x x=x:=by unfold YA;rw[if_pos rfl]
theorem Uh{B:S→Option (S⊕E)}(C:S→Prop)(m:S→Nat)(Q:E→Prop)
  (h:∀s,C s→post (B s) fun x=>(∀s',x=.inl s'→C s'∧m s'<m s)∧∀e,x=.inr e→Q e):∀(n:Nat) (s:S),C s→m s<n→post (tp B n s) Q:=by
 intro n;induction n with
 |zero=>intro s _ hm;omega
 |succ n ih =>
  intro s hs hm;obtain⟨x,hx,h1,h2⟩:=h s hs;simp only[tp,hx];cases x with
  |inl s' =>
   obtain⟨h3,h4⟩:=h1 s' rfl;exact ih s' h3 (by omega)
  |inr e=>exact⟨e,rfl,h2 e rfl⟩
theorem gT{B:S→Option (S⊕E)}(C:S→Prop)(m:S→Nat){Q:E→Prop}{s:S}(hs:C s)(hm:m s<18446744073709551616)
  (h:∀s,C s→post (B s) fun x=>(∀s',x=.inl s'→C s'∧m s'<m s)∧∀e,x=.inr e→Q e):post (aF B s) Q:=Uh C m Q h _ s hs hm
theorem On{B:S→Option (S⊕E)}{e:E}:∀(n:Nat) (st:Nat→S),(∀i,i<n→B (st i)=some (.inl (st (i+1))))→B (st n)=some (.inr e)→tp B (n+1) (st 0)=some e
 |0,st,_,he=>by simp only[tp,he]
 |n+1,st,hs,he=>by
  have h0:=hs 0 (by omega)
  rw[tp];rw[h0];exact On n (fun i=>st (i+1)) (fun i hi=>hs (i+1) (by omega)) he
theorem eJ{B:S→Option (S⊕E)}{e:E}(n:Nat)(st:Nat→S)(hn:n<18446744073709551616)(hs:∀i,i<n→B (st i)=some (.inl (st (i+1))))(he:B (st n)=some (.inr e)):aF B (st 0)=some e:=
 Ow (n+1) hn (On n st hs he)
theorem ki{x:S}{C:S→Prop}{Q:E→Prop}(h:C x):post (some (Sum.inl x:S⊕E)) fun y=>(∀s',y=.inl s'→C s')∧∀e,y=.inr e→Q e:=
 ⟨_,rfl,fun _ he=>by cases he;exact h,fun _ he=>by cases he⟩
theorem fG{x:E}{C:S→Prop}{Q:E→Prop}(h:Q x):post (some (Sum.inr x:S⊕E)) fun y=>(∀s',y=.inl s'→C s')∧∀e,y=.inr e→Q e:=
 ⟨_,rfl,fun _ he=>by(cases he),fun _ he=>by cases he;exact h⟩
end
section
variable {a b : Int}
theorem kR(h:-9223372036854775808≤a+b)(h':a+b≤9223372036854775807):aT .i64 a b=a+b:=IntWalk.i64_in _ ⟨h,h'⟩
theorem xC(h:-9223372036854775808≤a-b)(h':a-b≤9223372036854775807):dA .i64 a b=a-b:=IntWalk.i64_in _ ⟨h,h'⟩
theorem Yl(h:-9223372036854775808≤a*b)(h':a*b≤9223372036854775807):sx .i64 a b=a*b:=IntWalk.i64_in _ ⟨h,h'⟩
theorem Wa(h:-9223372036854775808≤a.tdiv b)(h':a.tdiv b≤9223372036854775807):vX .i64 a b=a.tdiv b:=IntWalk.i64_in _ ⟨h,h'⟩
@[simp] theorem ik:aS a b=true↔a<b:=by simp [aS]
@[simp] theorem xK:kP a b=true↔a≤b:=by simp [kP]
@[simp] theorem qS:bU a b=true↔b<a:=by simp [bU]
@[simp] theorem tl:bP a b=true↔b≤a:=by simp [bP]
@[simp] theorem tk:aW a b=true↔a=b:=by simp [aW]
@[simp] theorem Rt:bK a b=true↔a≠b:=by simp [bK]
@[simp] theorem jn:aS a b=false↔b≤a:=by simp [aS]
@[simp] theorem Is:kP a b=false↔b<a:=by simp [kP]
@[simp] theorem kO:bU a b=false↔a≤b:=by simp [bU]
@[simp] theorem JQ:bP a b=false↔a<b:=by simp [bP]
@[simp] theorem yZ:aW a b=false↔a≠b:=by simp [aW]
@[simp] theorem LJ:bK a b=false↔a=b:=by simp [bK]
theorem Rm:Bv a b=max a b:=by unfold Bv;split <;> omega
@[simp] theorem QcQ{x y:Bool}:N1 x y=true↔x=y:=by simp [N1]
@[simp] theorem QcP{x y:Bool}:N1 x y=false↔x≠y:=by simp [N1]
end
section
variable {α : Type} {l : List α} {i : Int}
theorem ba{k:Nat}{a:α}(h:l[k]?=some a):a4 l (k:Int)=some a:=by
 unfold a4;rw[if_pos (by omega)];simpa using h
theorem Vv(h0:0≤i)(h1:i<l.length):a4 l i=some (l[i.toNat]'(by omega)):=by
 unfold a4;rw[if_pos h0];exact List.getElem?_eq_getElem (by omega)
theorem XH{k:Nat}(h:k<l.length):a4 l (k:Int)=some l[k]:=ba (List.getElem?_eq_getElem h)
@[simp] theorem Un:aB ([]:List α)=0:=rfl
theorem QaZ:aB l=l.length:=rfl
end
def lI(n:Int):Lf:=.int .i64 n
def lL{α:Type}(sz:Nat)(l:List α)(e:α→List Lf):Lf:=.sl false sz (l.map e)
def lO{α:Type}(id sz:Nat)(l:List α)(e:α→List Lf):Lf:=.os id sz 0 (l.map e).length
end Go.Proofs.YtbilkblifgaflaaGreatDoor
