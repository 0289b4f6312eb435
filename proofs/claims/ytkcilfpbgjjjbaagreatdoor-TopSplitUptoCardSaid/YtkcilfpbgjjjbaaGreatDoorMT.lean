/- Part MT. -/
import Derived.Test.YtkcilfpbgjjjbaaGreatDoorMA
import Derived.Lib.ItoaMem
import Derived.Sort.Defs
import Derived.Lib.BitFns
import Derived.Lib.Bytealg
import Derived.Lib.TrailingZeros
import Derived.Test.YtkcilfpbgjjjbaaGreatDoorMC
set_option linter.unusedSimpArgs false
set_option linter.unusedVariables false
set_option linter.unusedSectionVars false
namespace Go.Proofs.YtkcilfpbgjjjbaaGreatDoor
noncomputable section
def Qb7:Nat→Nat→List UInt8
 |0,_=>[]
 |f+1,u=>if u<10 then [UInt8.ofNat (48+u)]else Qb7 f (u / 10)++[UInt8.ofNat (48+u % 10)]
theorem Y0:∀(f u:Nat),u<10 ^ (f+1)→Qb7 (f+1) u=Go.Lib.decDigits u
 |0,u,h=>by
  have dm:u<10:=by simpa using h
  rw[Go.Lib.decDigits.eq_1 u,dif_pos dm];unfold Qb7;rw[if_pos dm]
 |f+1,u,h=>by
  rw[Go.Lib.decDigits.eq_1 u];unfold Qb7;by_cases dm:u<10
  ·rw[if_pos dm,dif_pos dm]
  ·rw[if_neg dm,dif_neg dm,Y0 f (u / 10) (by rw[Nat.pow_succ]at h;omega)]
def PD(n:Int):Option ByteArray:=if 0≤n∧n≤9223372036854775807 then some ⟨(Qb7 19 n.toNat).toArray⟩else none
theorem VC{n:Int}(h:0≤n∧n≤9223372036854775807):PD n=some ⟨(Go.Lib.itoa n).toArray⟩:=by
 obtain⟨k,rfl⟩:∃k:Nat,n=k:=⟨n.toNat,by omega⟩
 unfold PD;rw[if_pos h,Int.toNat_natCast,Y0 18 k (by have:=h.2;omega),Go.Lib.itoa_nonneg]
section
variable {α : Type}
def cfI(f:α→α→Option Int)(l:List α)(i j:Nat):Int:=
 match l[i % l.length]?,l[j % l.length]? with
 |some a,some b=>(f a b).getD 0
 |_,_=>0
def D5(f:α→α→Option Int)(l:List α):Array Nat:=Go.Sort.pdq (fun i j=>decide (cfI f l i j<0)) (Array.range l.length) 0 l.length (Go.Lib.bitLen l.length) true true
def y1(f:α→α→Option Int)(l:List α):Option (List α):=
 if l.length<4611686018427387904 then(if l.length=0 then some l else some ((D5 f l).toList.filterMap fun i=>l[i % l.length]?))else none
end
def QeV(s sub:ByteArray):Option Int:=match sub.data.toList with
 | [c]=>some (Go.Lib.indexByte s.data.toList c)
 |_=>none
def tzM(x:Int):Option Int:=if 0≤x∧x<18446744073709551616 then some (Go.Lib.ctz 64 x.toNat)else none
def Qi_(a b:ByteArray):Option Int:=some (Go.Lib.compareBytes a.data.toList b.data.toList)
def PO(l:List Int):Option ByteArray:=match l with
 | []=>some ⟨#[48]⟩
 | [n]=>PD n
 |_=>none
def ai(n:Int):List Lf:=[.int .i64 n]
def Qai(n:Int):List Lf:=[.int .u8 n]
def uR(n:Nat):List Lf:=[.fn (.func n) []]
def cJ(b:Bool):List Lf:=[.bool b]
def bO(s:ByteArray):List Lf:=[.str s]
structure aa where
  Xw:Int
  eK:ByteArray
structure aI where
  t:Int
  a:Int
structure aH where
  a8:Int
  fN:Int
  aT:Int
  ed:Int
  jw:List aI
  ja:List aI
structure aD where
  aV:List ByteArray
  cH:List aH
structure al where
  name:ByteArray
  rH:Int
  a8:Int
  fN:Int
  cap:List Int
  cG:Int
  aT:Int
  bJ:Int
  b9:Int
  iJ:Int
  bY:Int
  rK:Int
  iY:Int
  iZ:Int
structure a6 where
  place:Int
  bJ:Int
  b9:Int
  dn:Int
instance:DecidableEq a6:=fun a b=>decidable_of_iff (a.place=b.place∧a.bJ=b.bJ∧a.b9=b.b9∧a.dn=b.dn) (by cases a;cases b;simp)
structure ag where
  name:ByteArray
  load:List Int
  pick:a6
  drop:a6
  cG:Int
  eH:Int
  split:Int
  b8:Int
  now:Int
  off:Bool
instance:DecidableEq ag:=fun a b=>decidable_of_iff (a.name=b.name∧a.load=b.load∧a.pick=b.pick∧a.drop=b.drop∧a.cG=b.cG∧a.eH=b.eH∧a.split=b.split∧a.b8=b.b8∧a.now=b.now∧a.off=b.off) (by cases a;cases b;simp)
structure aA where
  x0:Int
  x1:Int
structure ab where
  bG:aD
  types:List al
  ah:List ag
  bV:List aA
  before:List aA
structure aM where
  mi:Bool
  ru:ByteArray
structure cA where
  x0:ByteArray
  x1:ByteArray
structure ae where
  aJ:Int
  drop:Bool
instance:DecidableEq ae:=fun a b=>decidable_of_iff (a.aJ=b.aJ∧a.drop=b.drop) (by cases a;cases b;simp)
structure bH where
  uO:Int
  im:Int
  fY:Int
  GL:Int
structure W7 where
  x0:Int
  x1:Int
  x2:Int
  x3:Int
structure ay where
  aY:Int
  aK:Int
  aQ:List Bool
  aq:List ae
structure bp where
  x:ab
  t:al
  r:ay
  aG:List a6
structure bg where
  gC:Int
  rU:Int
  cF:Int
  bY:Bool
instance:DecidableEq bg:=fun a b=>decidable_of_iff (a.gC=b.gC∧a.rU=b.rU∧a.cF=b.cF∧a.bY=b.bY) (by cases a;cases b;simp)
structure aX where
  bY:Bool
  cF:Int
  jv:List bg
  oY:Int
  ed:Int
structure an where
  ready:Int
  ff:Int
  c9:aX
structure Bs where
  a8:Int
  fN:Int
  aT:Int
structure af where
  aY:Int
  bz:Int
  kM:Int
  db:ay
structure aC where
  ready:Int
  fS:Int
structure aS where
  x:ab
  kind:Int
  bz:Int
  kj:Int
  eZ:af
  mJ:Bool
structure bt where
  typ:Int
  bz:Int
structure uL where
  x0:Int
  x1:Int
  x2:Int
  x3:Int
  x4:Int
  x5:Int
structure aj where
  eK:Int
  eV:Int
  dh:uL
structure aw where
  x:ab
  dj:List (List af)
  ee:List Int
  eW:List (aj×Int)
  ah:Int
structure cT where
  mB:List ay
  de:List Int
structure ax where
  aJ:Int
  load:List Int
def aa.enc(x:aa):List Lf:=[lI x.Xw,.str x.eK]
def aI.enc(x:aI):List Lf:=[lI x.t,lI x.a]
def aH.enc(x:aH):List Lf:=[lI x.a8,lI x.fN,lI x.aT,lI x.ed,lL 2 x.jw aI.enc,lL 2 x.ja aI.enc]
def aD.enc(x:aD):List Lf:=[lL 1 x.aV bO,lL 6 x.cH aH.enc]
def al.enc(x:al):List Lf:=[.str x.name,lI x.rH,lI x.a8,lI x.fN,lL 1 x.cap ai,lI x.cG,lI x.aT,lI x.bJ,lI x.b9,lI x.iJ,lI x.bY,lI x.rK,lI x.iY,lI x.iZ]
def a6.enc(x:a6):List Lf:=[lI x.place,lI x.bJ,lI x.b9,lI x.dn]
def ag.enc(x:ag):List Lf:=[.str x.name,lL 1 x.load ai,lI x.pick.place,lI x.pick.bJ,lI x.pick.b9,lI x.pick.dn,lI x.drop.place,lI x.drop.bJ,lI x.drop.b9,lI x.drop.dn,lI x.cG,lI x.eH,lI x.split,lI x.b8,lI x.now,.bool x.off]
def aA.enc(x:aA):List Lf:=[lI x.x0,lI x.x1]
def ab.enc(x:ab):List Lf:=[lL 1 x.bG.aV bO,lL 6 x.bG.cH aH.enc,lL 14 x.types al.enc,lL 16 x.ah ag.enc,lL 2 x.bV aA.enc,lL 2 x.before aA.enc]
def aM.enc(x:aM):List Lf:=[.bool x.mi,.str x.ru]
def cA.enc(x:cA):List Lf:=[.str x.x0,.str x.x1]
def ae.enc(x:ae):List Lf:=[lI x.aJ,.bool x.drop]
def bH.enc(x:bH):List Lf:=[lI x.uO,lI x.im,lI x.fY,lI x.GL]
def ay.enc(x:ay):List Lf:=[lI x.aY,lI x.aK,lL 1 x.aQ cJ,lL 2 x.aq ae.enc]
def bp.enc(x:bp):List Lf:=[lL 1 x.x.bG.aV bO,lL 6 x.x.bG.cH aH.enc,lL 14 x.x.types al.enc,lL 16 x.x.ah ag.enc,lL 2 x.x.bV aA.enc,lL 2 x.x.before aA.enc,.str x.t.name,lI x.t.rH,lI x.t.a8,lI x.t.fN,lL 1 x.t.cap ai,lI x.t.cG,lI x.t.aT,lI x.t.bJ,lI x.t.b9,lI x.t.iJ,lI x.t.bY,lI x.t.rK,lI x.t.iY,lI x.t.iZ,lI x.r.aY,lI x.r.aK,lL 1 x.r.aQ cJ,lL 2 x.r.aq ae.enc,lL 4 x.aG a6.enc]
def bg.enc(x:bg):List Lf:=[lI x.gC,lI x.rU,lI x.cF,.bool x.bY]
def aX.enc(x:aX):List Lf:=[.bool x.bY,lI x.cF,lL 4 x.jv bg.enc,lI x.oY,lI x.ed]
def an.enc(x:an):List Lf:=[lI x.ready,lI x.ff,.bool x.c9.bY,lI x.c9.cF,lL 4 x.c9.jv bg.enc,lI x.c9.oY,lI x.c9.ed]
def af.enc(x:af):List Lf:=[lI x.aY,lI x.bz,lI x.kM,lI x.db.aY,lI x.db.aK,lL 1 x.db.aQ cJ,lL 2 x.db.aq ae.enc]
def aC.enc(x:aC):List Lf:=[lI x.ready,lI x.fS]
def aS.enc(x:aS):List Lf:=[lL 1 x.x.bG.aV bO,lL 6 x.x.bG.cH aH.enc,lL 14 x.x.types al.enc,lL 16 x.x.ah ag.enc,lL 2 x.x.bV aA.enc,lL 2 x.x.before aA.enc,lI x.kind,lI x.bz,lI x.kj,lI x.eZ.aY,lI x.eZ.bz,lI x.eZ.kM,lI x.eZ.db.aY,lI x.eZ.db.aK,lL 1 x.eZ.db.aQ cJ,lL 2 x.eZ.db.aq ae.enc,.bool x.mJ]
def bt.enc(x:bt):List Lf:=[lI x.typ,lI x.bz]
def aj.enc(x:aj):List Lf:=[lI x.eK,lI x.eV,lI x.dh.x0,lI x.dh.x1,lI x.dh.x2,lI x.dh.x3,lI x.dh.x4,lI x.dh.x5]
def bk.enc(l:List af):List Lf:=[.sl false 7 (l.map af.enc)]
def cT.enc(x:cT):List Lf:=[lL 4 x.mB ay.enc,lL 1 x.de ai]
def ax.enc(x:ax):List Lf:=[lI x.aJ,lL 1 x.load ai]
def bE(l:List Int):List Lf:=[.sl false 1 (l.map ai)]
def bP.enc(l:List ax):List Lf:=[.sl false 2 (l.map ax.enc)]
def bt.Ow(a b:bt):Bool:=cM a.typ b.typ&&(cM a.bz b.bz&&true)
theorem bt.kq(a b:bt):sK (bt.enc a) (bt.enc b)=some (bt.Ow a b):=rfl
def aj.Ow(a b:aj):Bool:=cM a.eK b.eK&&(cM a.eV b.eV&&(cM a.dh.x0 b.dh.x0&&(cM a.dh.x1 b.dh.x1&&(cM a.dh.x2 b.dh.x2&&(cM a.dh.x3 b.dh.x3&&(cM a.dh.x4 b.dh.x4&&(cM a.dh.x5 b.dh.x5&&true)))))))
theorem aj.kq(a b:aj):sK (aj.enc a) (aj.enc b)=some (aj.Ow a b):=rfl
def eQ:ByteArray:=⟨#[32]⟩
def yi:ByteArray:=⟨#[45]⟩
def tJ:ByteArray:=⟨#[112,108,97,99,101,115]⟩
def jf:ByteArray:=⟨#[112,108,97,99,101,32]⟩
def b_:ByteArray:=⟨#[97,114,99,32]⟩
def Bg:ByteArray:=⟨#[97,114,99,115]⟩
def KY:ByteArray:=⟨#[97,112,97,114,116]⟩
def Ia:ByteArray:=⟨#[98,101,102,111,114,101]⟩
def Qe:ByteArray:=⟨#[110,101,116]⟩
def Uc:ByteArray:=⟨#[116,121,112,101,115]⟩
def Ro:ByteArray:=⟨#[111,114,100,101,114,115]⟩
def Ub:ByteArray:=⟨#[114,117,108,101,115]⟩
def Gb:ByteArray:=⟨#[47]⟩
def wE:ByteArray:=⟨#[49]⟩
def ny:ByteArray:=⟨#[48]⟩
def Yu:ByteArray:=⟨#[49,47,50]⟩
def Yv:ByteArray:=⟨#[49,47,51]⟩
def Yw:ByteArray:=⟨#[53,47,54]⟩
def yj:ByteArray:=⟨#[95]⟩
def GD(n:Int):Option ByteArray:=PD n
def mg(word:ByteArray)(l l1:List aa)(i:Int)(eK:ByteArray):Option ((List aa×Int)⊕(List aa)):=aR (bj l i) fun x1=>ef (eO (l1++[(aa.mk x1.Xw eK)]).length 24) (some (.inl ((l1++[(aa.mk x1.Xw eK)]),(aU .i64 i 1))))
def mh(word:ByteArray)(l l1:List aa)(i:Int):Option ((List aa×Int)⊕(List aa)):=br (bh i (az l)) (aR (bj l i) fun x0=>br (E3 x0.eK ByteArray.empty) (mg word l l1 i word) (ef (word.size+eQ.size≤9223372036854775807) (ef ((dC word eQ).size+x0.eK.size≤9223372036854775807) (mg word l l1 i (dC (dC word eQ) x0.eK))))) (some (.inr l1))
def mV(word:ByteArray)(l:List aa):Option (List aa):=aR (aL (fun s=>mh word l s.1 s.2) ([],0)) (fun l2=>some l2)
def ij(n:Int)(s0:ByteArray)(left d:Int):Option ((ByteArray×Int×Bool)⊕(ByteArray)):=ef ((xf [(Ax .u8 (aU .i64 48 d))]).size+s0.size≤9223372036854775807) (some (.inl ((dC (xf [(Ax .u8 (aU .i64 48 d))]) s0),(so .i64 left 10),(cr (so .i64 left 10) 0))))
def rz(n:Int)(s0:ByteArray)(left:Int)(again:Bool):Option ((ByteArray×Int×Bool)⊕(ByteArray)):=br again (br (bh (uJ left 10) 0) (ij n s0 left (dd .i64 0 (uJ left 10))) (ij n s0 left (uJ left 10))) (some (.inr s0))
def eE(n:Int):Option ByteArray:=aR (aL (fun s=>rz n s.1 s.2.1 s.2.2) (ByteArray.empty,n,true)) (fun s1=>br (bh n 0) (ef (yi.size+s1.size≤9223372036854775807) (some (dC yi s1))) (some s1))
def sL(c:Int):Option Bool:=some ((cD c 48)&&(fT c 57))
def u_(c:Int):Option Bool:=some ((((cD c 97)&&(fT c 122))||((cD c 65)&&(fT c 90)))||(cM c 95))
def nm(s0:ByteArray)(b:UInt8)(i:Int):Option ((Int)⊕((Unit)⊕(Bool))):=br (bh i (fG s0)) (aR (Po s0 i) fun b1=>aR (u_ (AX b1)) fun r1=>br r1 (some (.inl (aU .i64 i 1))) (aR (sL (AX b1)) fun r2=>br r2 (some (.inl (aU .i64 i 1))) (some (.inr (.inr false))))) (some (.inr (.inl ())))
def lz(s0:ByteArray):Option Bool:=br ((bh (fG s0) 1)||(dp (fG s0) 16)) (some false) (aR (Po s0 0) fun b=>aR (sL (AX b)) fun r=>br r (some false) (aR (aL (fun s=>nm s0 b s) 0) (fun e=>iD e (fun(_:Unit)=>some true) (fun r3=>some r3))))
def jy(l:List aI)(i:Int)(x0:aI)(l3:List aa):Option ((List aa×Int)⊕(List aa)):=br (dp i 0) (aR (bj l (dd .i64 i 1)) fun x1=>br (fT x0.t x1.t) (aR (eE i) fun r1=>ef (eO (l3++[(aa.mk 13 r1)]).length 24) (some (.inl ((l3++[(aa.mk 13 r1)]),(aU .i64 i 1))))) (br (bh x0.a x1.a) (aR (eE i) fun r2=>ef (eO (l3++[(aa.mk 13 r2)]).length 24) (some (.inl ((l3++[(aa.mk 13 r2)]),(aU .i64 i 1))))) (some (.inl (l3,(aU .i64 i 1)))))) (some (.inl (l3,(aU .i64 i 1))))
def jz(l:List aI)(l2:List aa)(i:Int):Option ((List aa×Int)⊕(List aa)):=br (bh i (az l)) (aR (bj l i) fun x0=>br ((((bh x0.t 0)||(dp x0.t 4096))||(bh x0.a x0.t))||(dp x0.a (aU .i64 x0.t 4096))) (aR (eE i) fun r=>ef (eO (l2++[(aa.mk 2 r)]).length 24) (jy l i x0 (l2++[(aa.mk 2 r)]))) (jy l i x0 l2)) (some (.inr l2))
def lY(l:List aI)(l1:List aa):Option (List aa):=aR (aL (fun s=>jz l s.1 s.2) (l1,0)) (fun l4=>some l4)
def kB(l:List aI):Option (List aa):=br ((bh (az l) 1)||(dp (az l) 16)) (ef (eO [(aa.mk 4 ByteArray.empty)].length 24) (lY l [(aa.mk 4 ByteArray.empty)])) (lY l [])
def n_(t:Int):Option Bool:=some ((cD t 0)&&(fT t 4096))
def fz(n:aD)(i:Int)(r:ByteArray)(x0:aH)(l l1:List aa)(mR:Bool)(k:Int):Option ((Bool×Int)⊕(Bool)):=br (bh k i) (aR (bj n.cH k) fun x1=>some (.inl ((mR||(((cM x0.a8 x1.a8)&&(cM x0.fN x1.fN))&&(cM x0.aT x1.aT))),(aU .i64 k 1)))) (some (.inr mR))
def fA(r:ByteArray)(x0:aH)(l r1 l3:List aa)(k1:Int):Option ((List aa×Int)⊕(List aa)):=br (bh k1 (az r1)) (aR (bj r1 k1) fun x2=>ef (eO (l3++[(aa.mk x2.Xw (dC b_ r))]).length 24) (some (.inl ((l3++[(aa.mk x2.Xw (dC b_ r))]),(aU .i64 k1 1))))) (some (.inr l3))
def fB(r:ByteArray)(x0:aH)(l l6:List aa)(k2:Int):Option ((List aa×Int)⊕(List aa)):=br (bh k2 (az x0.ja)) (aR (bj x0.ja k2) fun x3=>aR (n_ x3.t) fun r2=>br r2 (aR (n_ x3.a) fun r3=>br r3 (br (dp k2 0) (aR (bj x0.ja (dd .i64 k2 1)) fun x4=>br (fT x3.t x4.t) (ef (eO (l6++[(aa.mk 2 (dC b_ r))]).length 24) (some (.inl ((l6++[(aa.mk 2 (dC b_ r))]),(aU .i64 k2 1))))) (some (.inl (l6,(aU .i64 k2 1))))) (some (.inl (l6,(aU .i64 k2 1))))) (ef (eO (l6++[(aa.mk 2 (dC b_ r))]).length 24) (some (.inl ((l6++[(aa.mk 2 (dC b_ r))]),(aU .i64 k2 1)))))) (ef (eO (l6++[(aa.mk 2 (dC b_ r))]).length 24) (some (.inl ((l6++[(aa.mk 2 (dC b_ r))]),(aU .i64 k2 1)))))) (some (.inr l6))
def fy(r:ByteArray)(x0:aH)(l l5:List aa):Option (List aa):=aR (aL (fun s=>fB r x0 l s.1 s.2) (l5,0)) (fun l7=>some l7)
def gI(r:ByteArray)(x0:aH)(l l2:List aa):Option (List aa):=aR (kB x0.jw) fun r1=>aR (aL (fun s=>fA r x0 l r1 s.1 s.2) (l2,0)) (fun l4=>br (dp (az x0.ja) 16) (ef (eO (l4++[(aa.mk 4 (dC b_ r))]).length 24) (fy r x0 l (l4++[(aa.mk 4 (dC b_ r))]))) (fy r x0 l l4))
def gH(n:aD)(i:Int)(r:ByteArray)(x0:aH)(l l1:List aa):Option (List aa):=aR (aL (fun s=>fz n i r x0 l l1 s.1 s.2) (false,0)) (fun qN=>br qN (ef (eO (l1++[(aa.mk 6 (dC b_ r))]).length 24) (gI r x0 l (l1++[(aa.mk 6 (dC b_ r))]))) (gI r x0 l l1))
def gF(n:aD)(i:Int)(r:ByteArray)(x0:aH)(l:List aa):Option (List aa):=br (((((bh x0.aT 0)||(dp x0.aT 7))||(bh x0.ed 0))||(dp x0.ed 10000))||(cM x0.a8 x0.fN)) (ef (eO (l++[(aa.mk 2 (dC b_ r))]).length 24) (gH n i r x0 l (l++[(aa.mk 2 (dC b_ r))]))) (gH n i r x0 l l)
def l_(n:aD)(i:Int):Option (List aa):=aR (eE i) fun r=>ef (b_.size+r.size≤9223372036854775807) (aR (bj n.cH i) fun x0=>br ((((bh x0.a8 0)||(cD x0.a8 (az n.aV)))||(bh x0.fN 0))||(cD x0.fN (az n.aV))) (ef (eO [(aa.mk 11 (dC b_ r))].length 24) (gF n i r x0 [(aa.mk 11 (dC b_ r))])) (gF n i r x0 []))
def dJ(n:aD)(l l1:List aa)(i:Int)(r:ByteArray)(mR:Bool)(k:Int):Option ((Bool×Int)⊕(Bool)):=br (bh k i) (br mR (some (.inl (true,(aU .i64 k 1)))) (aR (bj n.aV k) fun x1=>aR (bj n.aV i) fun x2=>some (.inl ((E3 x1 x2),(aU .i64 k 1))))) (some (.inr mR))
def dI(n:aD)(l l1:List aa)(i:Int):Option ((List aa×Int)⊕(List aa)):=br (bh i (az n.aV)) (aR (eE i) fun r=>ef (jf.size+r.size≤9223372036854775807) (aR (bj n.aV i) fun x0=>aR (lz x0) fun r1=>br r1 (aR (aL (fun s=>dJ n l l1 i r s.1 s.2) (false,0)) (fun qN=>br qN (ef (eO (l1++[(aa.mk 6 (dC jf r))]).length 24) (some (.inl ((l1++[(aa.mk 6 (dC jf r))]),(aU .i64 i 1))))) (some (.inl (l1,(aU .i64 i 1)))))) (ef (eO (l1++[(aa.mk 5 (dC jf r))]).length 24) (some (.inl ((l1++[(aa.mk 5 (dC jf r))]),(aU .i64 i 1))))))) (some (.inr l1))
def fq(n:aD)(l:List aa):Option (List aa):=aR (aL (fun s=>dI n l s.1 s.2) (l,0)) (fun l2=>some l2)
def gk(n:aD):Option (List aa):=br (dp (az n.aV) 24) (ef (eO [(aa.mk 4 tJ)].length 24) (fq n [(aa.mk 4 tJ)])) (fq n [])
def gQ(n:aD)(l l1:List aa)(i:Int):Option ((List aa×Int)⊕(List aa)):=br (bh i (az n.cH)) (aR (l_ n i) fun r1=>ef (eO (l1++r1).length 24) (some (.inl ((l1++r1),(aU .i64 i 1))))) (some (.inr l1))
def lZ(n:aD)(l:List aa):Option (List aa):=aR (aL (fun s=>gQ n l s.1 s.2) (l,0)) (fun l2=>some l2)
def pN(n:aD):Option (List aa):=aR (gk n) fun r=>br (dp (az n.cH) 1024) (ef (eO (r++[(aa.mk 4 Bg)]).length 24) (lZ n (r++[(aa.mk 4 Bg)]))) (lZ n r)
def b4(n lo hi:Int):Option Bool:=some ((cD n lo)&&(fT n hi))
def lA(l:List al):Option Int:=br (cM (az l) 0) (some 0) (aR (bj l 0) fun x0=>some (az x0.cap))
def fP(l:List al)(eK:Int)(name:ByteArray)(i:Int):Option ((Int)⊕((Unit)⊕(Bool))):=br (bh i eK) (aR (bj l i) fun x0=>br (E3 x0.name name) (some (.inr (.inr true))) (some (.inl (aU .i64 i 1)))) (some (.inr (.inl ())))
def pP(l:List al)(eK:Int)(name:ByteArray):Option Bool:=aR (aL (fun s=>fP l eK name s) 0) (fun e=>iD e (fun(_:Unit)=>some false) (fun r=>some r))
def eN(l:List Int)(i:Int):Option ((Int)⊕((Unit)⊕(Bool))):=br (bh i (az l)) (aR (bj l i) fun x0=>aR (b4 x0 0 1000) fun r1=>br r1 (some (.inl (aU .i64 i 1))) (some (.inr (.inr false)))) (some (.inr (.inl ())))
def jA(l:List Int)(cO:Int):Option Bool:=aR (b4 (az l) 1 3) fun r=>br ((!r)||(cr (az l) cO)) (some false) (aR (aL (fun s=>eN l s) 0) (fun e=>iD e (fun(_:Unit)=>some true) (fun r2=>some r2)))
def jI(x0:al)(l8:List Int):Option (List Int):=aR (b4 x0.aT 0 7) fun G8=>br G8 (aR (b4 x0.rK 0 100000) fun r12=>br r12 (aR (b4 x0.iY 0 100) fun r13=>br r13 (aR (b4 x0.iZ 0 100) fun Rj=>br Rj (some l8) (ef (eO (l8++[2]).length 8) (some (l8++[2])))) (ef (eO (l8++[2]).length 8) (some (l8++[2])))) (ef (eO (l8++[2]).length 8) (some (l8++[2])))) (ef (eO (l8++[2]).length 8) (some (l8++[2])))
def jH(x0:al)(l7:List Int):Option (List Int):=aR (b4 x0.iJ 1 4096) fun r9=>br r9 (aR (b4 x0.bY 0 4096) fun My=>br My (jI x0 l7) (ef (eO (l7++[16]).length 8) (jI x0 (l7++[16])))) (ef (eO (l7++[16]).length 8) (aR (b4 x0.aT 0 7) fun H8=>br H8 (aR (b4 x0.rK 0 100000) fun r16=>br r16 (aR (b4 x0.iY 0 100) fun r17=>br r17 (aR (b4 x0.iZ 0 100) fun r18=>br r18 (some (l7++[16])) (ef (eO ((l7++[16])++[2]).length 8) (some ((l7++[16])++[2])))) (ef (eO ((l7++[16])++[2]).length 8) (some ((l7++[16])++[2])))) (ef (eO ((l7++[16])++[2]).length 8) (some ((l7++[16])++[2])))) (ef (eO ((l7++[16])++[2]).length 8) (some ((l7++[16])++[2])))))
def jG(x0:al)(l6:List Int):Option (List Int):=aR (b4 x0.bJ 0 x0.b9) fun r8=>br ((!r8)||(dp x0.b9 4096)) (ef (eO (l6++[15]).length 8) (jH x0 (l6++[15]))) (jH x0 l6)
def jF(x0:al)(l5:List Int):Option (List Int):=aR (b4 x0.cG 0 1073741823) fun r7=>br r7 (jG x0 l5) (ef (eO (l5++[18]).length 8) (jG x0 (l5++[18])))
def jE(l:List al)(x0:al)(l4:List Int):Option (List Int):=aR (lA l) fun r5=>aR (jA x0.cap r5) fun r6=>br r6 (jF x0 l4) (ef (eO (l4++[17]).length 8) (jF x0 (l4++[17])))
def oF(x0:al)(zR:List Int):Option (List Int):=aR (b4 x0.aT 0 7) fun r25=>br r25 (aR (b4 x0.rK 0 100000) fun r26=>br r26 (aR (b4 x0.iY 0 100) fun r27=>br r27 (aR (b4 x0.iZ 0 100) fun r28=>br r28 (some zR) (ef (eO (zR++[2]).length 8) (some (zR++[2])))) (ef (eO (zR++[2]).length 8) (some (zR++[2])))) (ef (eO (zR++[2]).length 8) (some (zR++[2])))) (ef (eO (zR++[2]).length 8) (some (zR++[2])))
def oE(x0:al)(u4:List Int):Option (List Int):=aR (b4 x0.iJ 1 4096) fun r23=>br r23 (aR (b4 x0.bY 0 4096) fun r24=>br r24 (oF x0 u4) (ef (eO (u4++[16]).length 8) (oF x0 (u4++[16])))) (ef (eO (u4++[16]).length 8) (aR (b4 x0.aT 0 7) fun r29=>br r29 (aR (b4 x0.rK 0 100000) fun r30=>br r30 (aR (b4 x0.iY 0 100) fun r31=>br r31 (aR (b4 x0.iZ 0 100) fun r32=>br r32 (some (u4++[16])) (ef (eO ((u4++[16])++[2]).length 8) (some ((u4++[16])++[2])))) (ef (eO ((u4++[16])++[2]).length 8) (some ((u4++[16])++[2])))) (ef (eO ((u4++[16])++[2]).length 8) (some ((u4++[16])++[2])))) (ef (eO ((u4++[16])++[2]).length 8) (some ((u4++[16])++[2])))))
def oD(x0:al)(l10:List Int):Option (List Int):=aR (b4 x0.bJ 0 x0.b9) fun r22=>br ((!r22)||(dp x0.b9 4096)) (ef (eO (l10++[15]).length 8) (oE x0 (l10++[15]))) (oE x0 l10)
def pv(x0:al)(l9:List Int):Option (List Int):=aR (b4 x0.cG 0 1073741823) fun r21=>br r21 (oD x0 l9) (ef (eO (l9++[18]).length 8) (oD x0 (l9++[18])))
def jD(n:aD)(l:List al)(x0:al)(l3:List Int):Option (List Int):=aR (b4 x0.a8 0 (dd .i64 (az n.aV) 1)) fun r3=>br r3 (aR (b4 x0.fN 0 (dd .i64 (az n.aV) 1)) fun r4=>br r4 (jE l x0 l3) (ef (eO (l3++[11]).length 8) (jE l x0 (l3++[11])))) (ef (eO (l3++[11]).length 8) (aR (lA l) fun Mz=>aR (jA x0.cap Mz) fun r20=>br r20 (pv x0 (l3++[11])) (ef (eO ((l3++[11])++[17]).length 8) (pv x0 ((l3++[11])++[17])))))
def jC(n:aD)(l:List al)(x0:al)(l2:List Int):Option (List Int):=aR (b4 x0.rH 0 10) fun r2=>br r2 (jD n l x0 l2) (ef (eO (l2++[22]).length 8) (jD n l x0 (l2++[22])))
def jB(n:aD)(l:List al)(eK:Int)(x0:al)(l1:List Int):Option (List Int):=aR (pP l eK x0.name) fun r1=>br r1 (ef (eO (l1++[6]).length 8) (jC n l x0 (l1++[6]))) (jC n l x0 l1)
def pQ(n:aD)(l:List al)(eK:Int):Option (List Int):=aR (bj l eK) fun x0=>aR (lz x0.name) fun r=>br r (jB n l eK x0 []) (ef (eO [5].length 8) (jB n l eK x0 [5]))
def th(n:aD)(l:List al)(i:Int)(r1:List Int)(l3:List aa)(k:Int):Option ((List aa×Int)⊕(List aa)):=br (bh k (az r1)) (aR (bj r1 k) fun x0=>aR (eE i) fun r2=>ef (eO (l3++[(aa.mk x0 r2)]).length 24) (some (.inl ((l3++[(aa.mk x0 r2)]),(aU .i64 k 1))))) (some (.inr l3))
def gR(n:aD)(l:List al)(l2:List aa)(i:Int):Option ((List aa×Int)⊕(List aa)):=br (bh i (az l)) (aR (pQ n l i) fun r1=>aR (aL (fun s=>th n l i r1 s.1 s.2) (l2,0)) (fun l4=>some (.inl (l4,(aU .i64 i 1))))) (some (.inr l2))
def mc(n:aD)(l:List al)(l1:List aa):Option (List aa):=aR (aL (fun s=>gR n l s.1 s.2) (l1,0)) (fun l5=>some l5)
def pO(n:aD)(l:List al):Option (List aa):=aR (b4 (az l) 1 6) fun r=>br r (mc n l []) (ef (eO [(aa.mk 4 ByteArray.empty)].length 24) (mc n l [(aa.mk 4 ByteArray.empty)]))
def fO(a:List Int)(i:Int):Option ((Int)⊕((Unit)⊕(Bool))):=br (bh i (az a)) (aR (bj a i) fun x0=>br (bh x0 0) (some (.inr (.inr false))) (br (dp x0 1000) (some (.inr (.inr false))) (some (.inl (aU .i64 i 1))))) (some (.inr (.inl ())))
def mT(a:List Int)(cO:Int):Option Bool:=br (cr (az a) cO) (some false) (aR (aL (fun s=>fO a s) 0) (fun e=>iD e (fun(_:Unit)=>some true) (fun r=>some r)))
def eu(n low high:Int):Option Bool:=some ((cD n low)&&(fT n high))
def iM(s0:a6):Option Int:=br ((((cM s0.place (-1))&&(cM s0.bJ 0))&&(cM s0.b9 0))&&(cM s0.dn 0)) (some 0) (br ((((((bh s0.place 0)||(bh s0.bJ 0))||(dp s0.bJ s0.b9))||(dp s0.b9 4096))||(bh s0.dn 0))||(dp s0.dn 4096)) (some 2) (some 0))
def fR(aV cO types:Int)(l:List ag)(eK:Int)(x0:ag)(l1:List Int)(i:Int):Option ((Int)⊕(List Int)):=br (bh i eK) (aR (bj l i) fun x1=>br (E3 x1.name x0.name) (ef (eO (l1++[6]).length 8) (some (.inr (l1++[6])))) (some (.inl (aU .i64 i 1)))) (some (.inr l1))
def jM(types:Int)(x0:ag)(l6:List Int):Option (List Int):=aR (eu x0.eH (-1) 1000000) fun r6=>br r6 (aR (eu x0.split 1 4) fun r7=>br ((((((!r7)||((dp x0.split 1)&&((cr x0.pick.place (-1))&&(cr x0.drop.place (-1)))))||(bh x0.b8 (-1)))||(cD x0.b8 types))||(bh x0.now (-1)))||(cD x0.now types)) (ef (eO (l6++[2]).length 8) (some (l6++[2]))) (some l6)) (ef (eO (l6++[2]).length 8) (some (l6++[2])))
def pw(types:Int)(x0:ag)(l8:List Int):Option (List Int):=aR (eu x0.eH (-1) 1000000) fun My=>br My (aR (eu x0.split 1 4) fun G8=>br ((((((!G8)||((dp x0.split 1)&&((cr x0.pick.place (-1))&&(cr x0.drop.place (-1)))))||(bh x0.b8 (-1)))||(cD x0.b8 types))||(bh x0.now (-1)))||(cD x0.now types)) (ef (eO (l8++[2]).length 8) (some (l8++[2]))) (some l8)) (ef (eO (l8++[2]).length 8) (some (l8++[2])))
def jN(types:Int)(x0:ag)(l7:List Int):Option (List Int):=aR (eu x0.cG 0 1073741823) fun r9=>br r9 (pw types x0 l7) (ef (eO (l7++[18]).length 8) (pw types x0 (l7++[18])))
def jL(types:Int)(x0:ag)(l5:List Int):Option (List Int):=aR (iM x0.pick) fun r4=>br (cr r4 0) (ef (eO (l5++[14]).length 8) (aR (eu x0.cG 0 1073741823) fun r5=>br r5 (jM types x0 (l5++[14])) (ef (eO ((l5++[14])++[18]).length 8) (jM types x0 ((l5++[14])++[18]))))) (aR (iM x0.drop) fun r8=>br (cr r8 0) (ef (eO (l5++[14]).length 8) (jN types x0 (l5++[14]))) (jN types x0 l5))
def jK(types:Int)(x0:ag)(l4:List Int):Option (List Int):=br ((cM x0.pick.place (-1))&&(cM x0.drop.place (-1))) (ef (eO (l4++[19]).length 8) (jL types x0 (l4++[19]))) (jL types x0 l4)
def py(types:Int)(x0:ag)(l10:List Int):Option (List Int):=aR (eu x0.eH (-1) 1000000) fun Rj=>br Rj (aR (eu x0.split 1 4) fun H8=>br ((((((!H8)||((dp x0.split 1)&&((cr x0.pick.place (-1))&&(cr x0.drop.place (-1)))))||(bh x0.b8 (-1)))||(cD x0.b8 types))||(bh x0.now (-1)))||(cD x0.now types)) (ef (eO (l10++[2]).length 8) (some (l10++[2]))) (some l10)) (ef (eO (l10++[2]).length 8) (some (l10++[2])))
def oH(types:Int)(x0:ag)(zR:List Int):Option (List Int):=aR (eu x0.eH (-1) 1000000) fun r18=>br r18 (aR (eu x0.split 1 4) fun Mz=>br ((((((!Mz)||((dp x0.split 1)&&((cr x0.pick.place (-1))&&(cr x0.drop.place (-1)))))||(bh x0.b8 (-1)))||(cD x0.b8 types))||(bh x0.now (-1)))||(cD x0.now types)) (ef (eO (zR++[2]).length 8) (some (zR++[2]))) (some zR)) (ef (eO (zR++[2]).length 8) (some (zR++[2])))
def oG(types:Int)(x0:ag)(u4:List Int):Option (List Int):=aR (eu x0.cG 0 1073741823) fun r17=>br r17 (oH types x0 u4) (ef (eO (u4++[18]).length 8) (oH types x0 (u4++[18])))
def px(types:Int)(x0:ag)(l9:List Int):Option (List Int):=aR (iM x0.pick) fun r12=>br (cr r12 0) (ef (eO (l9++[14]).length 8) (aR (eu x0.cG 0 1073741823) fun r13=>br r13 (py types x0 (l9++[14])) (ef (eO ((l9++[14])++[18]).length 8) (py types x0 ((l9++[14])++[18]))))) (aR (iM x0.drop) fun r16=>br (cr r16 0) (ef (eO (l9++[14]).length 8) (oG types x0 (l9++[14]))) (oG types x0 l9))
def fQ(aV types:Int)(x0:ag)(l3:List Int):Option (List Int):=aR (eu x0.pick.place (-1) (dd .i64 aV 1)) fun r2=>br r2 (aR (eu x0.drop.place (-1) (dd .i64 aV 1)) fun r3=>br r3 (jK types x0 l3) (ef (eO (l3++[11]).length 8) (jK types x0 (l3++[11])))) (ef (eO (l3++[11]).length 8) (br ((cM x0.pick.place (-1))&&(cM x0.drop.place (-1))) (ef (eO ((l3++[11])++[19]).length 8) (px types x0 ((l3++[11])++[19]))) (px types x0 (l3++[11]))))
def jJ(aV cO types:Int)(l:List ag)(eK:Int)(x0:ag)(l1:List Int):Option (List Int):=aR (aL (fun s=>fR aV cO types l eK x0 l1 s) 0) (fun l2=>aR (mT x0.load cO) fun r1=>br r1 (fQ aV types x0 l2) (ef (eO (l2++[17]).length 8) (fQ aV types x0 (l2++[17]))))
def pT(aV cO types:Int)(l:List ag)(eK:Int):Option (List Int):=aR (bj l eK) fun x0=>aR (lz x0.name) fun r=>br r (jJ aV cO types l eK x0 []) (ef (eO [5].length 8) (jJ aV cO types l eK x0 [5]))
def ti(n:aD)(cO types:Int)(l:List ag)(i:Int)(r:List Int)(l3:List aa)(k:Int):Option ((List aa×Int)⊕(List aa)):=br (bh k (az r)) (aR (bj r k) fun x0=>aR (eE i) fun r1=>ef (eO (l3++[(aa.mk x0 r1)]).length 24) (some (.inl ((l3++[(aa.mk x0 r1)]),(aU .i64 k 1))))) (some (.inr l3))
def gS(n:aD)(cO types:Int)(l:List ag)(l2:List aa)(i:Int):Option ((List aa×Int)⊕(List aa)):=br (bh i (az l)) (aR (pT (az n.aV) cO types l i) fun r=>aR (aL (fun s=>ti n cO types l i r s.1 s.2) (l2,0)) (fun l4=>some (.inl (l4,(aU .i64 i 1))))) (some (.inr l2))
def me(n:aD)(cO types:Int)(l:List ag)(l1:List aa):Option (List aa):=aR (aL (fun s=>gS n cO types l s.1 s.2) (l1,0)) (fun l5=>some l5)
def pS(n:aD)(cO types:Int)(l:List ag):Option (List aa):=br (dp (az l) 10) (ef (eO [(aa.mk 4 ByteArray.empty)].length 24) (me n cO types l [(aa.mk 4 ByteArray.empty)])) (me n cO types l [])
def kf(n1:Int)(s0:ByteArray):Option ((Int×ByteArray)⊕(Int×ByteArray)):=br (cD n1 10) (ef ((xf [(Ax .u8 (aU .i64 48 (uJ n1 10)))]).size+s0.size≤9223372036854775807) (some (.inl ((so .i64 n1 10),(dC (xf [(Ax .u8 (aU .i64 48 (uJ n1 10)))]) s0))))) (some (.inr (n1,s0)))
def kC(n:Int):Option ByteArray:=aR (aL (fun s=>kf s.1 s.2) (n,ByteArray.empty)) (fun e0=>(fun n2 s1=>ef ((xf [(Ax .u8 (aU .i64 48 n2))]).size+s1.size≤9223372036854775807) (some (dC (xf [(Ax .u8 (aU .i64 48 n2))]) s1))) e0.1 e0.2)
def kW(ah:Int)(l:List aA)(word:ByteArray)(cU:Bool)(l2:List aa)(i:Int)(x0:aA)(r:ByteArray)(mR:Bool)(k:Int):Option ((Bool×Int)⊕(Bool)):=br (bh k i) (br mR (some (.inl (true,(aU .i64 k 1)))) (aR (bj l k) fun x1=>br (cM x1.x0 x0.x0) (br (cM x1.x1 x0.x1) (some (.inl (true,(aU .i64 k 1)))) (br cU (br (cM x1.x0 x0.x1) (some (.inl ((cM x1.x1 x0.x0),(aU .i64 k 1)))) (some (.inl (false,(aU .i64 k 1))))) (some (.inl (false,(aU .i64 k 1)))))) (br cU (br (cM x1.x0 x0.x1) (some (.inl ((cM x1.x1 x0.x0),(aU .i64 k 1)))) (some (.inl (false,(aU .i64 k 1))))) (some (.inl (false,(aU .i64 k 1))))))) (some (.inr mR))
def gl(ah:Int)(l:List aA)(word:ByteArray)(cU:Bool)(l2:List aa)(i:Int):Option ((List aa×Int)⊕(List aa)):=br (bh i (az l)) (aR (bj l i) fun x0=>ef (word.size+eQ.size≤9223372036854775807) (aR (kC i) fun r=>ef ((dC word eQ).size+r.size≤9223372036854775807) (br (((((bh x0.x0 0)||(cD x0.x0 ah))||(bh x0.x1 0))||(cD x0.x1 ah))||(cM x0.x0 x0.x1)) (ef (eO (l2++[(aa.mk 2 (dC (dC word eQ) r))]).length 24) (some (.inl ((l2++[(aa.mk 2 (dC (dC word eQ) r))]),(aU .i64 i 1))))) (aR (aL (fun s=>kW ah l word cU l2 i x0 r s.1 s.2) (false,0)) (fun qN=>br qN (ef (eO (l2++[(aa.mk 6 (dC (dC word eQ) r))]).length 24) (some (.inl ((l2++[(aa.mk 6 (dC (dC word eQ) r))]),(aU .i64 i 1))))) (some (.inl (l2,(aU .i64 i 1))))))))) (some (.inr l2))
def kV(ah:Int)(l:List aA)(word:ByteArray)(cU:Bool)(l1:List aa):Option (List aa):=aR (aL (fun s=>gl ah l word cU s.1 s.2) (l1,0)) (fun l3=>some l3)
def oL(ah:Int)(l:List aA)(word:ByteArray)(cU:Bool):Option (List aa):=br (dp (az l) 16) (ef (eO [(aa.mk 4 word)].length 24) (kV ah l word cU [(aa.mk 4 word)])) (kV ah l word cU [])
def o4(ah:Int)(l:List aA)(word:ByteArray)(cU:Bool)(l2:List aa)(i:Int)(x0:aA)(r:ByteArray)(mR:Bool)(k:Int):Option ((Bool×Int)⊕(Bool)):=br (bh k i) (br mR (some (.inl (true,(aU .i64 k 1)))) (aR (bj l k) fun x1=>br (cM x1.x0 x0.x0) (br (cM x1.x1 x0.x1) (some (.inl (true,(aU .i64 k 1)))) (br cU (br (cM x1.x0 x0.x1) (some (.inl ((cM x1.x1 x0.x0),(aU .i64 k 1)))) (some (.inl (false,(aU .i64 k 1))))) (some (.inl (false,(aU .i64 k 1)))))) (br cU (br (cM x1.x0 x0.x1) (some (.inl ((cM x1.x1 x0.x0),(aU .i64 k 1)))) (some (.inl (false,(aU .i64 k 1))))) (some (.inl (false,(aU .i64 k 1))))))) (some (.inr mR))
def oZ(ah:Int)(l:List aA)(word:ByteArray)(cU:Bool)(l2:List aa)(i:Int):Option ((List aa×Int)⊕(List aa)):=br (bh i (az l)) (aR (bj l i) fun x0=>ef (word.size+eQ.size≤9223372036854775807) (aR (kC i) fun r=>ef ((dC word eQ).size+r.size≤9223372036854775807) (br (((((bh x0.x0 0)||(cD x0.x0 ah))||(bh x0.x1 0))||(cD x0.x1 ah))||(cM x0.x0 x0.x1)) (ef (eO (l2++[(aa.mk 2 (dC (dC word eQ) r))]).length 24) (some (.inl ((l2++[(aa.mk 2 (dC (dC word eQ) r))]),(aU .i64 i 1))))) (aR (aL (fun s=>o4 ah l word cU l2 i x0 r s.1 s.2) (false,0)) (fun qN=>br qN (ef (eO (l2++[(aa.mk 6 (dC (dC word eQ) r))]).length 24) (some (.inl ((l2++[(aa.mk 6 (dC (dC word eQ) r))]),(aU .i64 i 1))))) (some (.inl (l2,(aU .i64 i 1))))))))) (some (.inr l2))
def kO(ah:Int)(l:List aA)(word:ByteArray)(cU:Bool)(l1:List aa):Option (List aa):=aR (aL (fun s=>oZ ah l word cU s.1 s.2) (l1,0)) (fun l3=>some l3)
def rA(ah:Int)(l:List aA)(word:ByteArray)(cU:Bool):Option (List aa):=br (dp (az l) 16) (ef (eO [(aa.mk 4 word)].length 24) (kO ah l word cU [(aa.mk 4 word)])) (kO ah l word cU [])
def pU(ah:Int)(bV before:List aA):Option (List aa):=aR (rA ah bV KY true) fun r=>aR (oL ah before Ia false) fun r1=>ef (eO (r++r1).length 24) (some (r++r1))
def ln(word:ByteArray)(l l1:List aa)(i:Int)(eK:ByteArray):Option ((List aa×Int)⊕(List aa)):=aR (bj l i) fun x1=>ef (eO (l1++[(aa.mk x1.Xw eK)]).length 24) (some (.inl ((l1++[(aa.mk x1.Xw eK)]),(aU .i64 i 1))))
def pW(word:ByteArray)(l l1:List aa)(i:Int):Option ((List aa×Int)⊕(List aa)):=br (bh i (az l)) (aR (bj l i) fun x0=>br (E3 x0.eK ByteArray.empty) (ln word l l1 i word) (ef (word.size+eQ.size≤9223372036854775807) (ef ((dC word eQ).size+x0.eK.size≤9223372036854775807) (ln word l l1 i (dC (dC word eQ) x0.eK))))) (some (.inr l1))
def oN(word:ByteArray)(l:List aa):Option (List aa):=aR (aL (fun s=>pW word l s.1 s.2) ([],0)) (fun l2=>some l2)
def pV(x0:ab):Option (List aa):=aR (pN x0.bG) fun r=>aR (oN Qe r) fun r1=>aR (pO x0.bG x0.types) fun r2=>aR (mV Uc r2) fun r3=>ef (eO (r1++r3).length 24) (aR (lA x0.types) fun r4=>aR (pS x0.bG r4 (az x0.types) x0.ah) fun r5=>aR (mV Ro r5) fun r6=>ef (eO ((r1++r3)++r6).length 24) (aR (pU (az x0.ah) x0.bV x0.before) fun r7=>aR (mV Ub r7) fun r8=>ef (eO (((r1++r3)++r6)++r8).length 24) (some (((r1++r3)++r6)++r8))))
def n9(x0:ab)(ah:Int):Option Bool:=br ((((((fT (az x0.ah) ah)&&(fT (az x0.types) 2))&&(fT (az x0.bG.aV) 6))&&(fT (az x0.bG.cH) 40))&&(fT (az x0.bV) 4))&&(fT (az x0.before) 4)) (aR (pV x0) fun r=>some (cM (az r) 0)) (some false)
def yK(s0 sep:ByteArray):Option (ByteArray×ByteArray×Bool):=aR (QeV s0 sep) fun r=>br (cD r 0) (aR (Qg s0 0 r) fun s1=>aR (Qg s0 (aU .i64 r (fG sep)) (fG s0)) fun s2=>some ((s0.extract (0:Int).toNat (r:Int).toNat),(s0.extract ((aU .i64 r (fG sep)):Int).toNat ((fG s0):Int).toNat),true)) (some (s0,ByteArray.empty,false))
def GF(s0 sep:ByteArray):Option (ByteArray×ByteArray×Bool):=aR (yK s0 sep) fun r=>some (r.1,r.2.1,r.2.2)
def yh(a:ByteArray):Option (ByteArray×ByteArray):=aR (GF a Gb) fun r=>br r.2.2 (some (r.1,r.2.1)) (some (r.1,wE))
def DQ(s0:ByteArray)(b:UInt8)(v:Int):Option ((Int)⊕((Unit)⊕(Bool))):=br (bh v (fG s0)) (aR (Po s0 v) fun b1=>br (bh (AX b1) 48) (some (.inr (.inr false))) (br (dp (AX b1) 57) (some (.inr (.inr false))) (some (.inl (aU .i64 v 1))))) (some (.inr (.inl ())))
def zn(s0:ByteArray):Option Bool:=br (E3 s0 ByteArray.empty) (some false) (aR (Po s0 0) fun b=>br ((cM (AX b) 48)&&(!E3 s0 ny)) (some false) (aR (aL (fun s=>DQ s0 b s) 0) (fun e=>iD e (fun(_:Unit)=>some true) (fun r=>some r))))
def nR(s0 fE:ByteArray):Option Bool:=br (cD (fG s0) (fG fE)) (aR (Qg s0 0 (fG fE)) fun s1=>some (E3 (s0.extract (0:Int).toNat ((fG fE):Int).toNat) fE)) (some false)
def rF(s0 fE:ByteArray):Option (ByteArray×Bool):=aR (nR s0 fE) fun r=>br r (aR (Qg s0 (fG fE) (fG s0)) fun s1=>some ((s0.extract ((fG fE):Int).toNat ((fG s0):Int).toNat),true)) (some (s0,false))
def wK(s0 fE:ByteArray):Option (ByteArray×Bool):=aR (rF s0 fE) fun r=>some (r.1,r.2)
def Bq(s0:ByteArray):Option (Bool×ByteArray×Bool):=aR (wK s0 yi) fun r=>aR (zn r.1) fun r1=>some (r.2,r.1,(r1&&(!(r.2&&(E3 r.1 ny)))))
def GK(s0:ByteArray):Option Bool:=aR (Bq s0) fun r=>some r.2.2
def qM(s0 fE:ByteArray):Option ByteArray:=aR (nR s0 fE) fun r=>br r (aR (Qg s0 (fG fE) (fG s0)) fun s1=>some (s0.extract ((fG fE):Int).toNat ((fG s0):Int).toNat)) (some s0)
def nK(s0 fE:ByteArray):Option ByteArray:=aR (qM s0 fE) fun r=>some r
def zb(s0:ByteArray):Option Int:=aR (nK s0 yi) fun r=>some (fG r)
def BW(s0 substr:ByteArray):Option Int:=aR (QeV s0 substr) fun r=>some r
def xD(s0 substr:ByteArray):Option Bool:=aR (BW s0 substr) fun r=>some (cD r 0)
def uh(a1:List Int):Option ((List Int)⊕(List Int)):=br (dp (az a1) 0) (aR (bj a1 (dd .i64 (az a1) 1)) fun x0=>br (cM x0 0) (aR (wS a1 0 (dd .i64 (az a1) 1)) fun l=>some (.inl l)) (some (.inr a1))) (some (.inr a1))
def jZ(a:List Int):Option (List Int):=aR (aL (fun s=>uh s) a) (fun a2=>some a2)
def FY(l:List Int)(s1:ByteArray)(QcW i:Int):Option ((Int×Int)⊕(Int)):=br (bh i (fG s1)) (aR (Po s1 i) fun b=>some (.inl ((aU .i64 (oT .i64 10 QcW) (Ax .i64 (dd .u8 (AX b) 48))),(aU .i64 i 1)))) (some (.inr QcW))
def FX(l:List Int)(s1:ByteArray):Option ((List Int×ByteArray)⊕(List Int)):=br (dp (fG s1) 0) (aR (aL (fun s=>FY l s1 s.1 s.2) (0,(we 0 (dd .i64 (fG s1) 9)))) (fun R7=>ef (eO (l++[R7]).length 8) (aR (Qg s1 0 (we 0 (dd .i64 (fG s1) 9))) fun s2=>some (.inl ((l++[R7]),(s1.extract (0:Int).toNat ((we 0 (dd .i64 (fG s1) 9)):Int).toNat)))))) (some (.inr l))
def KB(s0:ByteArray):Option (List Int):=aR (aL (fun s=>FX s.1 s.2) ([],s0)) (fun l1=>aR (jZ l1) fun r=>some r)
def DX(a b:ByteArray):Option (List Int×List Int×Int):=aR (zn a) fun r=>br r (aR (zn b) fun r1=>br r1 (br ((dp (fG a) 4096)||(dp (fG b) 4096)) (some ([],[],4)) (aR (KB a) fun r2=>aR (KB b) fun r3=>some (r2,r3,0))) (some ([],[],3))) (some ([],[],3))
def pE(x0:Int):Option Bool:=some (cr x0 x0)
def dR(x0 y:Int):Option Int:=aR (pE x0) fun r=>aR (pE y) fun r1=>br r (br r1 (some 0) (some (-1))) (br r1 (some 1) (br (bh x0 y) (some (-1)) (br (dp x0 y) (some 1) (some 0))))
def rB(a b:List Int)(i:Int):Option ((Int)⊕((Unit)⊕(Int))):=br (cD i 0) (aR (bj a i) fun x0=>aR (bj b i) fun x1=>br (cr x0 x1) (aR (dR x0 x1) fun r1=>some (.inr (.inr r1))) (some (.inl (dd .i64 i 1)))) (some (.inr (.inl ())))
def nw(a b:List Int):Option Int:=br (cr (az a) (az b)) (aR (dR (az a) (az b)) fun r=>some r) (aR (aL (fun s=>rB a b s) (dd .i64 (az a) 1)) (fun e=>iD e (fun(_:Unit)=>some 0) (fun r2=>some r2)))
def qU(a:List Int)(i:Int):Option Int:=br (bh i (az a)) (aR (bj a i) fun x0=>some x0) (some 0)
def pD(a b l l1:List Int)(v Of n:Int):Option ((List Int×Int×Int)⊕(List Int)):=ef (eO (l1++[n]).length 8) (some (.inl ((l1++[n]),Of,(aU .i64 v 1))))
def tp(a b l l1:List Int)(borrow v:Int):Option ((List Int×Int×Int)⊕(List Int)):=br (bh v (az a)) (aR (bj a v) fun x0=>aR (qU b v) fun r=>br (bh (dd .i64 (dd .i64 x0 r) borrow) 0) (pD a b l l1 v 1 (aU .i64 (dd .i64 (dd .i64 x0 r) borrow) 1000000000)) (pD a b l l1 v 0 (dd .i64 (dd .i64 x0 r) borrow))) (some (.inr l1))
def sO(a b:List Int):Option (List Int):=aR (za 0 (az a) 8 0) fun l=>aR (aL (fun s=>tp a b l s.1 s.2.1 s.2.2) (l,0,0)) (fun l2=>aR (jZ l2) fun r1=>some r1)
def tq(a:List Int)(k:Int)(l l1:List Int)(carry v:Int):Option ((List Int×Int×Int)⊕(List Int×Int)):=br (bh v (az a)) (aR (bj a v) fun x0=>ef (eO (l1++[(uJ (aU .i64 (oT .i64 x0 k) carry) 1000000000)]).length 8) (some (.inl ((l1++[(uJ (aU .i64 (oT .i64 x0 k) carry) 1000000000)]),(so .i64 (aU .i64 (oT .i64 x0 k) carry) 1000000000),(aU .i64 v 1))))) (some (.inr (l1,carry)))
def sP(a:List Int)(k:Int):Option (List Int):=aR (za 0 (aU .i64 (az a) 1) 8 0) fun l=>aR (aL (fun s=>tq a k l s.1 s.2.1 s.2.2) (l,0,0)) (fun e0=>(fun l2 tf=>ef (eO (l2++[tf]).length 8) (aR (jZ (l2++[tf])) fun r=>some r)) e0.1 e0.2)
def DR(bY sF:List Int)(low high:Int):Option ((Int×Int)⊕(Int)):=br (bh low high) (aR (sP sF (so .i64 (aU .i64 (aU .i64 low high) 1) 2)) fun r=>aR (nw r bY) fun r1=>br (fT r1 0) (some (.inl ((so .i64 (aU .i64 (aU .i64 low high) 1) 2),high))) (some (.inl (low,(dd .i64 (so .i64 (aU .i64 (aU .i64 low high) 1) 2) 1))))) (some (.inr low))
def Mp(bY sF:List Int):Option Int:=aR (aL (fun s=>DR bY sF s.1 s.2) (0,999999999)) (fun Qe7=>some Qe7)
def BM(a b l l1 bY:List Int)(i:Int):Option ((List Int×List Int×Int)⊕(List Int×List Int)):=br (cD i 0) (aR (bj a i) fun x0=>ef (eO ([x0]++bY).length 8) (aR (jZ ([x0]++bY)) fun r=>aR (nw r b) fun r1=>br (cM r1 (-1)) (some (.inl (l1,r,(dd .i64 i 1)))) (br (cM r1 0) (aR (bj l1 i) fun x1=>some (.inl ((e_ l1 i 1),[],(dd .i64 i 1)))) (aR (Mp r b) fun r2=>aR (bj l1 i) fun x2=>aR (sP b r2) fun r3=>aR (sO r r3) fun r4=>some (.inl ((e_ l1 i r2),r4,(dd .i64 i 1))))))) (some (.inr (l1,bY)))
def DS(a b:List Int):Option (List Int×List Int):=aR (za (az a) (az a) 8 0) fun l=>aR (aL (fun s=>BM a b l s.1 s.2.1 s.2.2) (l,[],(dd .i64 (az a) 1))) (fun e0=>(fun l2 o7=>aR (jZ l2) fun r5=>some (r5,o7)) e0.1 e0.2)
def xy(a:List Int):Option (ByteArray×Int):=aR (PO a) fun r=>br (dp (fG r) 4096) (some (ByteArray.empty,4)) (some (r,0))
def IF(b:ByteArray)(x0 y:List Int):Option ((List Int×List Int)⊕(List Int)):=br (dp (az y) 0) (aR (DS x0 y) fun r1=>some (.inl (y,r1.2))) (some (.inr x0))
def OA(a b:ByteArray):Option (ByteArray×Int):=aR (DX a b) fun r=>br (cr r.2.2 0) (some (ByteArray.empty,r.2.2)) (aR (aL (fun s=>IF b s.1 s.2) (r.1,r.2.1)) (fun x1=>aR (xy x1) fun r2=>some (r2.1,r2.2)))
def Bd(a:ByteArray):Option Bool:=aR (yh a) fun r=>aR (GK r.1) fun r1=>br r1 (aR (zb r.1) fun r2=>br (dp r2 4096) (some false) (aR (zb r.2) fun r3=>br (dp r3 4096) (some false) (aR (xD a Gb) fun r4=>br r4 (aR (zn r.2) fun r5=>br ((((!r5)||(E3 r.2 ny))||(E3 r.2 wE))||(E3 r.1 ny)) (some false) (aR (nK r.1 yi) fun r6=>aR (OA r6 r.2) fun r7=>some ((cM r7.2 0)&&(E3 r7.1 wE)))) (some true)))) (some false)
def MB(a b:ByteArray):Option (ByteArray×ByteArray×ByteArray×ByteArray×Int):=aR (Bd a) fun r=>br r (aR (Bd b) fun r1=>br r1 (aR (yh a) fun r2=>aR (yh b) fun r3=>some (r2.1,r2.2,r3.1,r3.2,0)) (some (ByteArray.empty,ByteArray.empty,ByteArray.empty,ByteArray.empty,3))) (some (ByteArray.empty,ByteArray.empty,ByteArray.empty,ByteArray.empty,3))
def BZ(l:List ByteArray)(l1:List aM)(v:Int):Option ((List aM×Int)⊕((List aM)⊕(List aM×Int))):=br (bh v (az l)) (aR (bj l v) fun x0=>aR (Bq x0) fun r=>br r.2.2 (ef (eO (l1++[(aM.mk r.1 r.2.1)]).length 24) (some (.inl ((l1++[(aM.mk r.1 r.2.1)]),(aU .i64 v 1))))) (some (.inr (.inr ([],3))))) (some (.inr (.inl l1)))
def B0(l:List ByteArray)(l2:List aM)(v1:Int):Option ((Int)⊕((Unit)⊕(List aM×Int))):=br (bh v1 (az l2)) (aR (bj l2 v1) fun x1=>br (dp (fG x1.ru) 4096) (some (.inr (.inr ([],4)))) (some (.inl (aU .i64 v1 1)))) (some (.inr (.inl ())))
def Aw(l:List ByteArray):Option (List aM×Int):=aR (aL (fun s=>BZ l s.1 s.2) ([],0)) (fun e=>iD e (fun l2=>aR (aL (fun s=>B0 l l2 s) 0) (fun e=>iD e (fun(_:Unit)=>some (l2,0)) (fun r1=>some r1))) (fun r2=>some r2))
def oW(n:aM):Option ByteArray:=br (n.mi&&(!E3 n.ru ny)) (ef (yi.size+n.ru.size≤9223372036854775807) (some (dC yi n.ru))) (some n.ru)
def mv(n:aM)(e0:Int):Option (ByteArray×Int):=br (cr e0 0) (some (ByteArray.empty,e0)) (aR (oW n) fun r=>some (r,0))
def IH(b:ByteArray)(r:List Int×List Int×Int)(l:List Int)(v x0:Int)(l2:List Int)(carry v1:Int):Option ((List Int×Int×Int)⊕(List Int×Int)):=br (bh v1 (az r.2.1)) (aR (bj r.2.1 v1) fun x1=>aR (bj l2 (aU .i64 v v1)) fun x2=>some (.inl ((e_ l2 (aU .i64 v v1) (uJ (aU .i64 (aU .i64 x2 (oT .i64 x0 x1)) carry) 1000000000)),(so .i64 (aU .i64 (aU .i64 x2 (oT .i64 x0 x1)) carry) 1000000000),(aU .i64 v1 1)))) (some (.inr (l2,carry)))
def IG(b:ByteArray)(r:List Int×List Int×Int)(l l1:List Int)(v:Int):Option ((List Int×Int)⊕(List Int)):=br (bh v (az r.1)) (aR (bj r.1 v) fun x0=>aR (aL (fun s=>IH b r l v x0 s.1 s.2.1 s.2.2) (l1,0,0)) (fun e0=>(fun l3 tf=>aR (bj l3 (aU .i64 v (az r.2.1))) fun x3=>some (.inl ((e_ l3 (aU .i64 v (az r.2.1)) (aU .i64 x3 tf)),(aU .i64 v 1)))) e0.1 e0.2)) (some (.inr l1))
def TQ(a b:ByteArray):Option (ByteArray×Int):=aR (DX a b) fun r=>br (cr r.2.2 0) (some (ByteArray.empty,r.2.2)) (aR (za (aU .i64 (az r.1) (az r.2.1)) (aU .i64 (az r.1) (az r.2.1)) 8 0) fun l=>aR (aL (fun s=>IG b r l s.1 s.2) (l,0)) (fun l4=>aR (jZ l4) fun r1=>aR (xy r1) fun r2=>some (r2.1,r2.2)))
def M1(a b:ByteArray):Option (ByteArray×Int):=aR (Aw [a,b]) fun r=>br (cr r.2 0) (some (ByteArray.empty,r.2)) (aR (bj r.1 0) fun x0=>aR (bj r.1 1) fun x1=>aR (TQ x0.ru x1.ru) fun r1=>aR (mv (aM.mk (!Im x0.mi x1.mi) r1.1) r1.2) fun r2=>some (r2.1,r2.2))
def wz(xc:List cA)(l l1:List ByteArray)(v:Int):Option ((List ByteArray×Int)⊕((List ByteArray)⊕(List ByteArray×Int))):=br (bh v (az xc)) (aR (bj xc v) fun x0=>aR (M1 x0.x0 x0.x1) fun r=>br (cr r.2 0) (some (.inr (.inr ([],r.2)))) (ef (eO (l1++[r.1]).length 16) (some (.inl ((l1++[r.1]),(aU .i64 v 1)))))) (some (.inr (.inl l1)))
def wy(xc:List cA):Option (List ByteArray×Int):=aR (za 0 (az xc) 16 ByteArray.empty) fun l=>aR (aL (fun s=>wz xc l s.1 s.2) (l,0)) (fun e=>iD e (fun l2=>some (l2,0)) (fun r1=>some r1))
def TO(a b:ByteArray):Option (ByteArray×ByteArray×Int):=aR (DX a b) fun r=>br (cr r.2.2 0) (some (ByteArray.empty,ByteArray.empty,r.2.2)) (br (cM (az r.2.1) 0) (some (ByteArray.empty,ByteArray.empty,10)) (aR (DS r.1 r.2.1) fun r1=>aR (PO r1.1) fun r2=>aR (PO r1.2) fun r3=>some (r2,r3,0)))
def IE(b:ByteArray)(r:List Int×List Int×Int)(l:List Int)(carry i:Int):Option ((List Int×Int×Int)⊕(List Int)):=br ((bh i (we (az r.1) (az r.2.1)))||(dp carry 0)) (aR (qU r.1 i) fun r1=>aR (qU r.2.1 i) fun r2=>ef (eO (l++[(uJ (aU .i64 (aU .i64 r1 r2) carry) 1000000000)]).length 8) (some (.inl ((l++[(uJ (aU .i64 (aU .i64 r1 r2) carry) 1000000000)]),(so .i64 (aU .i64 (aU .i64 r1 r2) carry) 1000000000),(aU .i64 i 1))))) (some (.inr l))
def Oz(a b:ByteArray):Option (ByteArray×Int):=aR (DX a b) fun r=>br (cr r.2.2 0) (some (ByteArray.empty,r.2.2)) (aR (aL (fun s=>IE b r s.1 s.2.1 s.2.2) ([],0,0)) (fun l1=>aR (xy l1) fun r3=>some (r3.1,r3.2)))
def OB(a b:ByteArray):Option (ByteArray×Int):=aR (DX a b) fun r=>br (cr r.2.2 0) (some (ByteArray.empty,r.2.2)) (aR (nw r.1 r.2.1) fun r1=>br (bh r1 0) (some (ByteArray.empty,2)) (aR (sO r.1 r.2.1) fun r2=>aR (xy r2) fun r3=>some (r3.1,r3.2)))
def zf(x0 x1:aM)(q r4:ByteArray):Option (ByteArray×ByteArray×Int):=aR (oW (aM.mk (!Im x0.mi x1.mi) q)) fun r5=>aR (oW (aM.mk x1.mi r4)) fun r6=>some (r5,r6,0)
def Hb(a b:ByteArray):Option (ByteArray×ByteArray×Int):=aR (Aw [a,b]) fun r=>br (cr r.2 0) (some (ByteArray.empty,ByteArray.empty,r.2)) (aR (bj r.1 0) fun x0=>aR (bj r.1 1) fun x1=>br (E3 x1.ru ny) (some (ByteArray.empty,ByteArray.empty,10)) (aR (TO x0.ru x1.ru) fun r1=>br (cr r1.2.2 0) (some (ByteArray.empty,ByteArray.empty,r1.2.2)) (br ((!Im x0.mi x1.mi)&&(!E3 r1.2.1 ny)) (aR (Oz r1.1 wE) fun r2=>br (cr r2.2 0) (some (ByteArray.empty,ByteArray.empty,r2.2)) (aR (OB x1.ru r1.2.1) fun r3=>br (cr r3.2 0) (some (ByteArray.empty,ByteArray.empty,r3.2)) (zf x0 x1 r2.1 r3.1))) (zf x0 x1 r1.1 r1.2.1))))
def D0(p q:ByteArray):Option (ByteArray×Int):=aR (nK p yi) fun r=>aR (OA r q) fun r1=>br (cr r1.2 0) (some (ByteArray.empty,r1.2)) (aR (Hb p r1.1) fun r2=>br (cr r2.2.2 0) (some (ByteArray.empty,r2.2.2)) (aR (Hb q r1.1) fun r3=>br (cr r3.2.2 0) (some (ByteArray.empty,r3.2.2)) (br (E3 r3.1 wE) (some (r2.1,0)) (ef (r2.1.size+Gb.size≤9223372036854775807) (ef ((dC r2.1 Gb).size+r3.1.size≤9223372036854775807) (some ((dC (dC r2.1 Gb) r3.1),0)))))))
def BY(a b:ByteArray):Option Int:=br (cr (fG a) (fG b)) (br (bh (fG a) (fG b)) (some (-1)) (some 1)) (aR (Qi_ a b) fun r=>some r)
def zh(x0 x1:aM):Option (ByteArray×Int):=aR (OB x0.ru x1.ru) fun r3=>aR (mv (aM.mk x0.mi r3.1) r3.2) fun r4=>some (r4.1,r4.2)
def M7(a b:aM):Option (ByteArray×Int):=br (Im a.mi b.mi) (aR (Oz a.ru b.ru) fun r=>aR (mv (aM.mk a.mi r.1) r.2) fun r1=>some (r1.1,r1.2)) (aR (BY a.ru b.ru) fun r2=>br (bh r2 0) (zh b a) (zh a b))
def MZ(a b:ByteArray):Option (ByteArray×Int):=aR (Aw [a,b]) fun r=>br (cr r.2 0) (some (ByteArray.empty,r.2)) (aR (bj r.1 0) fun x0=>aR (bj r.1 1) fun x1=>aR (M7 x0 x1) fun r1=>some (r1.1,r1.2))
def wx(a b:ByteArray):Option (ByteArray×Int):=aR (MB a b) fun r=>br (cr r.2.2.2.2 0) (some (ByteArray.empty,r.2.2.2.2)) (aR (wy [(cA.mk r.1 r.2.2.2.1),(cA.mk r.2.2.1 r.2.1)]) fun r1=>br (cr r1.2 0) (some (ByteArray.empty,r1.2)) (aR (bj r1.1 0) fun x0=>aR (bj r1.1 1) fun x1=>aR (MZ x0 x1) fun r2=>br (cr r2.2 0) (some (ByteArray.empty,r2.2)) (aR (wy [(cA.mk r.2.1 r.2.2.2.1)]) fun r3=>br (cr r3.2 0) (some (ByteArray.empty,r3.2)) (aR (bj r3.1 0) fun x2=>aR (D0 r2.1 x2) fun r4=>some (r4.1,r4.2)))))
def MA(a b:ByteArray):Option (ByteArray×Int):=aR (wx a b) fun r=>some (r.1,r.2)
def mQ(n least zY:Int):Option Bool:=some ((cD n least)&&(fT n zY))
def rh(l:List aI)(v:Int)(x0:aI)(r:ByteArray)(l3:List aa):Option ((List aa×Int)⊕(List aa)):=br (dp v 0) (aR (bj l (dd .i64 v 1)) fun x1=>br (fT x0.t x1.t) (ef (eO (l3++[(aa.mk 13 r)]).length 24) (some (.inl ((l3++[(aa.mk 13 r)]),(aU .i64 v 1))))) (br (bh x0.a x1.a) (ef (eO (l3++[(aa.mk 13 r)]).length 24) (some (.inl ((l3++[(aa.mk 13 r)]),(aU .i64 v 1))))) (some (.inl (l3,(aU .i64 v 1)))))) (some (.inl (l3,(aU .i64 v 1))))
def j8(l:List aI)(l2:List aa)(v:Int):Option ((List aa×Int)⊕(List aa)):=br (bh v (az l)) (aR (bj l v) fun x0=>aR (GD v) fun r=>aR (mQ x0.t 0 4096) fun r1=>br (((!r1)||(bh x0.a x0.t))||(dp x0.a (aU .i64 x0.t 4096))) (ef (eO (l2++[(aa.mk 2 r)]).length 24) (rh l v x0 r (l2++[(aa.mk 2 r)]))) (rh l v x0 r l2)) (some (.inr l2))
def rf(l:List aI)(l1:List aa):Option (List aa):=aR (aL (fun s=>j8 l s.1 s.2) (l1,0)) (fun l4=>some l4)
def wL(l:List aI):Option (List aa):=br ((cM (az l) 0)||(dp (az l) 16)) (ef (eO [(aa.mk 4 ByteArray.empty)].length 24) (rf l [(aa.mk 4 ByteArray.empty)])) (rf l [])
def wN(l:List aI):Option Bool:=aR (wL l) fun r=>some (cM (az r) 0)
def om(p:aI)(t:Int):Option Int:=some (dd .i64 p.t t)
def ca(x0:List aI)(target i j:Int):Option ((Int×Int)⊕(Int)):=br (bh i j) (aR (bj x0 (Ax .i64 (zd .u64 (Ax .u64 (aU .i64 i j)) 1))) fun x1=>aR (om x1 target) fun r=>br (bh r 0) (some (.inl ((aU .i64 (Ax .i64 (zd .u64 (Ax .u64 (aU .i64 i j)) 1)) 1),j))) (some (.inl (i,(Ax .i64 (zd .u64 (Ax .u64 (aU .i64 i j)) 1)))))) (some (.inr i))
def cS(x0:List aI)(target:Int):Option (Int×Bool):=aR (aL (fun s=>ca x0 target s.1 s.2) (0,(az x0))) (fun i1=>br (bh i1 (az x0)) (aR (bj x0 i1) fun x2=>aR (om x2 target) fun r1=>some (i1,(cM r1 0))) (some (i1,false)))
def tM(l:List aI)(t:Int):Option Int:=aR (cS l t) fun r=>br r.2 (aR (bj l r.1) fun x0=>some x0.a) (br (cM r.1 0) (aR (bj l 0) fun x1=>some (dd .i64 (aU .i64 t x1.a) x1.t)) (br (cM r.1 (az l)) (aR (bj l (dd .i64 r.1 1)) fun x2=>some (dd .i64 (aU .i64 t x2.a) x2.t)) (aR (bj l (dd .i64 r.1 1)) fun x3=>aR (bj l r.1) fun x4=>ef (((dd .i64 x4.t x3.t):Int)≠0) (some (aU .i64 x3.a (so .i64 (dd .i64 (aU .i64 (oT .i64 (dd .i64 t x3.t) (dd .i64 x4.a x3.a)) (dd .i64 x4.t x3.t)) 1) (dd .i64 x4.t x3.t)))))))
def rq(l:List aI)(t:Int):Option Int:=aR (mQ t 0 1073741824) fun r=>br r (aR (wN l) fun r1=>br r1 (aR (tM l t) fun r2=>some r2) (some 0)) (some 0)
def kY:Option Bool:=aR (MA Yu Yv) fun r=>br ((cM r.2 0)&&(E3 r.1 Yw)) (aR (rq [(aI.mk 0 5),(aI.mk 20 35)] 10) fun r1=>some (cM r1 20)) (some false)
def rm(q parts eK:Int):Option Int:=ef ((parts:Int)≠0) (ef ((parts:Int)≠0) (br (bh eK (uJ q parts)) (some (aU .i64 (so .i64 q parts) 1)) (some (so .i64 q parts))))
def jo(a:List Int)(cO v:Int):Option ((Int)⊕((Unit)⊕(Bool))):=br (bh v (az a)) (aR (bj a v) fun x0=>br ((bh x0 0)||(dp x0 1000)) (some (.inr (.inr false))) (some (.inl (aU .i64 v 1)))) (some (.inr (.inl ())))
def qt(a:List Int)(cO:Int):Option Bool:=aR (aL (fun s=>jo a cO s) 0) (fun e=>iD e (fun(_:Unit)=>some (cM (az a) cO)) (fun r=>some r))
def lj(load:List Int)(parts:Int)(l:List (List Int))(v:Int)(l2:List Int)(v1:Int):Option ((List Int×Int)⊕(List Int)):=br (bh v1 (az load)) (aR (bj load v1) fun x0=>aR (rm x0 parts v) fun r1=>aR (bj l2 v1) fun x1=>some (.inl ((e_ l2 v1 r1),(aU .i64 v1 1)))) (some (.inr l2))
def ju(load:List Int)(parts:Int)(l:List (List Int))(v:Int):Option ((List (List Int)×Int)⊕(List (List Int))):=br (bh v parts) (aR (za (az load) (az load) 8 0) fun l1=>aR (aL (fun s=>lj load parts l v s.1 s.2) (l1,0)) (fun l3=>ef (eO (l++[l3]).length 24) (some (.inl ((l++[l3]),(aU .i64 v 1)))))) (some (.inr l))
def yp(load:List Int)(parts:Int):Option (List (List Int)×Int):=br (((bh parts 1)||(dp parts 4))||(dp (az load) 3)) (some ([],2)) (aR (qt load (az load)) fun r=>br r (aR (aL (fun s=>ju load parts s.1 s.2) ([],0)) (fun l4=>some (l4,0))) (some ([],2)))
def qb(o:ag)(r:List (List Int)×Int)(l:List ag)(eH v:Int)(x0:List Int)(CP:Int):Option ((List ag×Int×Int)⊕(List ag)):=ef (eO (l++[(ag.mk (dC o.name (dC yj (Ej (Ax .i32 (aU .i64 49 v))))) x0 o.pick o.drop o.cG CP 1 o.b8 o.now o.off)]).length 152) (some (.inl ((l++[(ag.mk (dC o.name (dC yj (Ej (Ax .i32 (aU .i64 49 v))))) x0 o.pick o.drop o.cG CP 1 o.b8 o.now o.off)]),eH,(aU .i64 v 1))))
def nJ(o:ag)(r:List (List Int)×Int)(l:List ag)(eH v:Int):Option ((List ag×Int×Int)⊕(List ag)):=br (bh v (az r.1)) (aR (bj r.1 v) fun x0=>ef (yj.size+(Ej (Ax .i32 (aU .i64 49 v))).size≤9223372036854775807) (ef (o.name.size+(dC yj (Ej (Ax .i32 (aU .i64 49 v)))).size≤9223372036854775807) (br (cD eH 0) (aR (rm eH o.split v) fun r1=>qb o r l eH v x0 r1) (qb o r l eH v x0 eH)))) (some (.inr l))
def yt(o:ag):Option (List ag×Int):=br (fT o.split 1) (some ([o],0)) (aR (yp o.load o.split) fun r=>br (cr r.2 0) (some ([],r.2)) (aR (aL (fun s=>nJ o r s.1 s.2.1 s.2.2) ([],o.eH,0)) (fun l1=>some (l1,0))))
def xO(o:ag)(c:ByteArray):Option Bool:=some (E3 o.name c)
def bQ(s0:List ag)(c:ByteArray)(v:Int):Option ((Int)⊕((Unit)⊕(Int))):=br (bh v (az s0)) (aR (bj s0 v) fun x0=>aR (xO x0 c) fun r=>br r (some (.inr (.inr v))) (some (.inl (aU .i64 v 1)))) (some (.inr (.inl ())))
def cX(s0:List ag)(c:ByteArray):Option Int:=aR (aL (fun s=>bQ s0 c s) 0) (fun e=>iD e (fun(_:Unit)=>some (-1)) (fun r1=>some r1))
def cq(s0:List ag)(c:ByteArray):Option Bool:=aR (cX s0 c) fun r=>some (cD r 0)
def yr(x0:ab)(ahead:List ag)(name:ByteArray):Option Int:=br (dp (fG name) 16) (some 5) (aR (cq ahead name) fun r=>br r (some 6) (aR (cq x0.ah name) fun r1=>br r1 (some 6) (some 0)))
def lR(l:List aA)(origin:List Int)(v:Int)(x0:aA)(v1 x1:Int)(l3:List aA)(v2:Int):Option ((List aA×Int)⊕(List aA)):=br (bh v2 (az origin)) (aR (bj origin v2) fun x2=>br (cM x1 x0.x0) (br (cM x2 x0.x1) (ef (eO (l3++[(aA.mk v1 v2)]).length 16) (some (.inl ((l3++[(aA.mk v1 v2)]),(aU .i64 v2 1))))) (some (.inl (l3,(aU .i64 v2 1))))) (some (.inl (l3,(aU .i64 v2 1))))) (some (.inr l3))
def lQ(l:List aA)(origin:List Int)(v:Int)(x0:aA)(l2:List aA)(v1:Int):Option ((List aA×Int)⊕(List aA)):=br (bh v1 (az origin)) (aR (bj origin v1) fun x1=>aR (aL (fun s=>lR l origin v x0 v1 x1 s.1 s.2) (l2,0)) (fun l4=>some (.inl (l4,(aU .i64 v1 1))))) (some (.inr l2))
def lP(l:List aA)(origin:List Int)(l1:List aA)(v:Int):Option ((List aA×Int)⊕(List aA)):=br (bh v (az l)) (aR (bj l v) fun x0=>aR (aL (fun s=>lQ l origin v x0 s.1 s.2) (l1,0)) (fun l5=>some (.inl (l5,(aU .i64 v 1))))) (some (.inr l1))
def sV(l:List aA)(origin:List Int):Option (List aA×Int):=aR (aL (fun s=>lP l origin s.1 s.2) ([],0)) (fun l6=>br (dp (az l6) 16) (some ([],4)) (some (l6,0)))
def lG(x0:ab)(kj v:Int):Option ((Int×Int)⊕(Int)):=br (bh v (az x0.ah)) (aR (bj x0.ah v) fun x1=>some (.inl ((aU .i64 kj (we 1 x1.split)),(aU .i64 v 1)))) (some (.inr kj))
def oh(x0:ab)(l:List Int)(v1:Int)(x2:ag)(r:List ag×Int)(l2:List Int)(l3:List ag)(v2:Int)(x3:ag):Option ((List Int×List ag×Int)⊕((List Int×List ag)⊕(ab×List Int×Int))):=ef (eO (l3++[x3]).length 152) (ef (eO (l2++[v1]).length 8) (some (.inl ((l2++[v1]),(l3++[x3]),(aU .i64 v2 1)))))
def lJ(x0:ab)(l:List Int)(v1:Int)(x2:ag)(r:List ag×Int)(l2:List Int)(l3:List ag)(v2:Int):Option ((List Int×List ag×Int)⊕((List Int×List ag)⊕(ab×List Int×Int))):=br (bh v2 (az r.1)) (aR (bj r.1 v2) fun x3=>br (dp x2.split 1) (aR (yr x0 l3 x3.name) fun r1=>br (cr r1 0) (some (.inr (.inr ((ab.mk (aD.mk [] []) [] [] [] []),[],r1)))) (oh x0 l v1 x2 r l2 l3 v2 x3)) (oh x0 l v1 x2 r l2 l3 v2 x3)) (some (.inr (.inl (l2,l3))))
def lH(x0:ab)(l:List Int)(l1:List ag)(v1:Int):Option ((List Int×List ag×Int)⊕((List Int×List ag)⊕(ab×List Int×Int))):=br (bh v1 (az x0.ah)) (aR (bj x0.ah v1) fun x2=>aR (yt x2) fun r=>br (cr r.2 0) (some (.inr (.inr ((ab.mk (aD.mk [] []) [] [] [] []),[],r.2)))) (aR (aL (fun s=>lJ x0 l v1 x2 r s.1 s.2.1 s.2.2) (l,l1,0)) (fun e=>iD e (fun e0=>(fun l4 l5=>some (.inl (l4,l5,(aU .i64 v1 1)))) e0.1 e0.2) (fun r2=>some (.inr (.inr r2)))))) (some (.inr (.inl (l,l1))))
def qJ(x0:ab):Option (ab×List Int×Int):=aR (aL (fun s=>lG x0 s.1 s.2) (0,0)) (fun D8=>br (dp D8 10) (some ((ab.mk (aD.mk [] []) [] [] [] []),[],4)) (aR (aL (fun s=>lH x0 s.1 s.2.1 s.2.2) ([],[],0)) (fun e=>iD e (fun e0=>(fun l6 l7=>aR (sV x0.bV l6) fun r3=>aR (sV x0.before l6) fun r4=>br ((cr r3.2 0)||(cr r4.2 0)) (some ((ab.mk (aD.mk [] []) [] [] [] []),[],4)) (some ((ab.mk x0.bG x0.types l7 r3.1 r4.1),l6,0))) e0.1 e0.2) (fun r5=>some r5))))
def uD(l:List ag)(eK:Int):Option Bool:=some ((cD eK 0)&&(bh eK (az l)))
def od(l:List ag)(eK:Int)(l1:List ae):Option (List ae):=aR (bj l eK) fun x1=>br (cD x1.drop.place 0) (ef (eO (l1++[(ae.mk eK true)]).length 16) (some (l1++[(ae.mk eK true)]))) (some l1)
def mA(l:List ag)(eK:Int):Option (List ae):=aR (uD l eK) fun r=>br r (aR (bj l eK) fun x0=>br (cD x0.pick.place 0) (ef (eO [(ae.mk eK false)].length 16) (od l eK [(ae.mk eK false)])) (od l eK [])) (some [])
def k9(bz i:Int):Option Bool:=br ((cD i 0)&&(fT i 62)) (ef ((0:Int)≤i) (some (cM (JD .i64 (zd .i64 bz i) 1) 1))) (some false)
def iB(bz:Int)(l:List Int)(v:Int):Option ((List Int×Int)⊕(List Int)):=br (bh v 63) (aR (k9 bz v) fun r=>br r (ef (eO (l++[v]).length 8) (some (.inl ((l++[v]),(aU .i64 v 1))))) (some (.inl (l,(aU .i64 v 1))))) (some (.inr l))
def qH(bz:Int):Option (List Int):=aR (aL (fun s=>iB bz s.1 s.2) ([],0)) (fun l1=>some l1)
def qY(before:List aA)(l l2:List Int)(Se:Bool)(v:Int):Option ((List Int×Bool×Int)⊕(List Int×Bool)):=br (bh v (az before)) (aR (bj before v) fun x0=>br ((((bh x0.x0 0)||(bh x0.x1 0))||(cD x0.x0 (az l2)))||(cD x0.x1 (az l2))) (some (.inl (l2,Se,(aU .i64 v 1)))) (aR (bj l2 x0.x1) fun x1=>aR (bj l2 x0.x0) fun x2=>ef ((0:Int)≤x0.x0) (br (cr (OE .i64 (OE .i64 x1 x2) (K2 .i64 1 x0.x0)) x1) (some (.inl ((e_ l2 x0.x1 (OE .i64 (OE .i64 x1 x2) (K2 .i64 1 x0.x0))),true,(aU .i64 v 1)))) (some (.inl (l2,Se,(aU .i64 v 1))))))) (some (.inr (l2,Se)))
def qX(before:List aA)(l l1:List Int)(more:Bool):Option ((List Int×Bool)⊕(List Int)):=br more (aR (aL (fun s=>qY before l s.1 s.2.1 s.2.2) (l1,false,0)) (fun e0=>(fun l3 Zz=>some (.inl (l3,Zz))) e0.1 e0.2)) (some (.inr l1))
def wB(ah:Int)(before:List aA):Option (List Int):=aR (za (we ah 0) (we ah 0) 8 0) fun l=>aR (aL (fun s=>qX before l s.1 s.2) (l,true)) (fun l4=>some l4)
def dT(x0:ab)(bz:Int)(r:List Int)(v:Int):Option ((Int)⊕((Unit)⊕(Int))):=br (bh v (az r)) (aR (bj r v) fun x1=>br (cD x1 (az x0.ah)) (some (.inr (.inr 2))) (some (.inl (aU .i64 v 1)))) (some (.inr (.inl ())))
def dU(x0:ab)(bz:Int)(r:List Int)(v1:Int):Option ((Int)⊕((Unit)⊕(Int))):=br (bh v1 (az r)) (aR (bj r v1) fun x2=>aR (bj x0.ah x2) fun x3=>br x3.off (some (.inr (.inr 9))) (some (.inl (aU .i64 v1 1)))) (some (.inr (.inl ())))
def dV(x0:ab)(bz:Int)(r:List Int)(v2:Int):Option ((Int)⊕((Unit)⊕(Int))):=br (bh v2 (az x0.bV)) (aR (bj x0.bV v2) fun x4=>aR (k9 bz x4.x0) fun r1=>br r1 (aR (k9 bz x4.x1) fun r2=>br r2 (some (.inr (.inr 20))) (some (.inl (aU .i64 v2 1)))) (some (.inl (aU .i64 v2 1)))) (some (.inr (.inl ())))
def dW(x0:ab)(bz:Int)(r:List Int)(v3:Int):Option ((Int)⊕((Unit)⊕(Int))):=br (bh v3 (az x0.before)) (aR (bj x0.before v3) fun x5=>aR (k9 bz x5.x1) fun r3=>br r3 (aR (k9 bz x5.x0) fun r4=>br r4 (some (.inl (aU .i64 v3 1))) (some (.inr (.inr 21)))) (some (.inl (aU .i64 v3 1)))) (some (.inr (.inl ())))
def dX(r r5:List Int)(v4:Int):Option ((Int)⊕((Unit)⊕(Int))):=br (bh v4 (az r)) (aR (bj r v4) fun x6=>aR (bj r5 x6) fun x7=>aR (k9 x7 x6) fun r6=>br r6 (some (.inr (.inr 21))) (some (.inl (aU .i64 v4 1)))) (some (.inr (.inl ())))
def mO(x0:ab)(bz:Int):Option Int:=br (bh bz 0) (some 2) (aR (qH bz) fun r=>aR (aL (fun s=>dT x0 bz r s) 0) (fun e=>iD e (fun(_:Unit)=>aR (aL (fun s=>dU x0 bz r s) 0) (fun e=>iD e (fun(_:Unit)=>aR (aL (fun s=>dV x0 bz r s) 0) (fun e=>iD e (fun(_:Unit)=>aR (aL (fun s=>dW x0 bz r s) 0) (fun e=>iD e (fun(_:Unit)=>aR (wB (az x0.ah) x0.before) fun r5=>aR (aL (fun s=>dX r r5 s) 0) (fun e=>iD e (fun(_:Unit)=>some 0) (fun r7=>some r7))) (fun r8=>some r8))) (fun r9=>some r9))) (fun My=>some My))) (fun G8=>some G8)))
def tF(x1:a6):Option (a6×Int):=br (bh x1.place 0) (some ((a6.mk 0 0 0 0),19)) (some (x1,0))
def xA(l:List ag)(v:ae):Option (a6×Int):=aR (uD l v.aJ) fun r=>br r (aR (bj l v.aJ) fun x0=>br v.drop (tF x0.drop) (tF x0.pick)) (some ((a6.mk 0 0 0 0),2))
def uF(s0:bH):Option W7:=some (W7.mk s0.uO s0.im s0.fY s0.GL)
def fZ(s0:bH):Option (Int×Int):=aR (uF s0) fun r=>br (bh r.x0 0) (some (0,2)) (br (bh r.x1 0) (some (0,2)) (br (bh r.x2 0) (some (0,2)) (br (bh r.x3 0) (some (0,2)) (br ((((dp s0.uO 1073741824)||(cD s0.im 16))||(cD s0.fY 16))||(cD s0.GL 65536)) (some (0,4)) (some ((aU .i64 (oT .i64 (aU .i64 (oT .i64 (aU .i64 (oT .i64 s0.uO 16) s0.im) 16) s0.fY) 65536) s0.GL),0))))))
def cz(s0:List ae)(v:ae)(v1:Int):Option ((Int)⊕((Unit)⊕(Int))):=br (bh v1 (az s0)) (aR (bj s0 v1) fun x0=>br (cM v.aJ x0.aJ&&(Im v.drop x0.drop&&true)) (some (.inr (.inr v1))) (some (.inl (aU .i64 v1 1)))) (some (.inr (.inl ())))
def dB(s0:List ae)(v:ae):Option Int:=aR (aL (fun s=>cz s0 v s) 0) (fun e=>iD e (fun(_:Unit)=>some (-1)) (fun r=>some r))
def iq(l:List ae)(v:ae):Option Int:=aR (dB l v) fun r=>some r
def h_(l:List ae)(v:Int):Option ((Int)⊕((Unit)⊕(Bool))):=br (bh v (az l)) (aR (bj l v) fun x0=>aR (wS l 0 v) fun l1=>aR (iq l1 x0) fun r=>br (cD r 0) (some (.inr (.inr true))) (some (.inl (aU .i64 v 1)))) (some (.inr (.inl ())))
def su(l:List ae):Option Bool:=aR (aL (fun s=>h_ l s) 0) (fun e=>iD e (fun(_:Unit)=>some false) (fun r1=>some r1))
def dK(s0:List ae)(v:ae):Option Bool:=aR (dB s0 v) fun r=>some (cD r 0)
def dx(x0:ab)(l:List ae)(v:Int)(r:List ae)(b8 v1:Int):Option ((Int×Int)⊕((Unit)⊕(Bool))):=br (bh v1 (az r)) (aR (bj r v1) fun x2=>aR (iq l x2) fun r2=>br (fT r2 b8) (some (.inr (.inr false))) (some (.inl (r2,(aU .i64 v1 1))))) (some (.inr (.inl ())))
def gu(x0:ab)(l:List ae)(v:Int):Option ((Int)⊕((Unit)⊕(Bool))):=br (bh v (az l)) (aR (bj l v) fun x1=>aR (mA x0.ah x1.aJ) fun r=>aR (dK r x1) fun r1=>br r1 (aR (aL (fun s=>dx x0 l v r s.1 s.2) ((-1),0)) (fun e=>iD e (fun(_:Unit)=>some (.inl (aU .i64 v 1))) (fun r3=>some (.inr (.inr r3))))) (some (.inr (.inr false)))) (some (.inr (.inl ())))
def q9(x0:ab)(l:List ae):Option Bool:=aR (aL (fun s=>gu x0 l s) 0) (fun e=>iD e (fun(_:Unit)=>some true) (fun r4=>some r4))
def wG(v:ae)(c:Int):Option Bool:=some (cM v.aJ c)
def b3(s0:List ae)(c v:Int):Option ((Int)⊕((Unit)⊕(Int))):=br (bh v (az s0)) (aR (bj s0 v) fun x0=>aR (wG x0 c) fun r=>br r (some (.inr (.inr v))) (some (.inl (aU .i64 v 1)))) (some (.inr (.inl ())))
def dc(s0:List ae)(c:Int):Option Int:=aR (aL (fun s=>b3 s0 c s) 0) (fun e=>iD e (fun(_:Unit)=>some (-1)) (fun r1=>some r1))
def dD(s0:List ae)(c:Int):Option Bool:=aR (dc s0 c) fun r=>some (cD r 0)
def oU(l:List ae)(o:Int):Option Bool:=aR (dD l o) fun r=>some r
def rO(v:ae)(c:Int):Option Bool:=some (cM v.aJ c)
def bN(s0:List ae)(c v:Int):Option ((Int)⊕((Unit)⊕(Int))):=br (bh v (az s0)) (aR (bj s0 v) fun x0=>aR (rO x0 c) fun r=>br r (some (.inr (.inr v))) (some (.inl (aU .i64 v 1)))) (some (.inr (.inl ())))
def cV(s0:List ae)(c:Int):Option Int:=aR (aL (fun s=>bN s0 c s) 0) (fun e=>iD e (fun(_:Unit)=>some (-1)) (fun r1=>some r1))
def q8(l:List ae)(a b:Int):Option Bool:=aR (cV l b) fun r=>br (bh r 0) (some true) (aR (oU l a) fun r1=>br r1 (aR (wS l r (az l)) fun l1=>aR (oU l1 a) fun r2=>some (!r2)) (some false))
def sR(v:ae)(c:ab):Option Bool:=some ((bh v.aJ 0)||(cD v.aJ (az c.ah)))
def bR(s0:List ae)(c:ab)(v:Int):Option ((Int)⊕((Unit)⊕(Int))):=br (bh v (az s0)) (aR (bj s0 v) fun x0=>aR (sR x0 c) fun r=>br r (some (.inr (.inr v))) (some (.inl (aU .i64 v 1)))) (some (.inr (.inl ())))
def cZ(s0:List ae)(c:ab):Option Int:=aR (aL (fun s=>bR s0 c s) 0) (fun e=>iD e (fun(_:Unit)=>some (-1)) (fun r1=>some r1))
def cP(s0:List ae)(c:ab):Option Bool:=aR (cZ s0 c) fun r=>some (cD r 0)
def sS(v:ae)(c:ab):Option Bool:=aR (bj c.ah v.aJ) fun x0=>some x0.off
def bU(s0:List ae)(c:ab)(v:Int):Option ((Int)⊕((Unit)⊕(Int))):=br (bh v (az s0)) (aR (bj s0 v) fun x0=>aR (sS x0 c) fun r=>br r (some (.inr (.inr v))) (some (.inl (aU .i64 v 1)))) (some (.inr (.inl ())))
def c4(s0:List ae)(c:ab):Option Int:=aR (aL (fun s=>bU s0 c s) 0) (fun e=>iD e (fun(_:Unit)=>some (-1)) (fun r1=>some r1))
def cQ(s0:List ae)(c:ab):Option Bool:=aR (c4 s0 c) fun r=>some (cD r 0)
def gZ(x0:ab)(r:ay)(v:Int):Option ((Int)⊕((Unit)⊕(Int))):=br (bh v (az x0.bV)) (aR (bj x0.bV v) fun x1=>aR (oU r.aq x1.x0) fun r5=>br r5 (aR (oU r.aq x1.x1) fun r6=>br r6 (some (.inr (.inr 20))) (some (.inl (aU .i64 v 1)))) (some (.inl (aU .i64 v 1)))) (some (.inr (.inl ())))
def g_(x0:ab)(r:ay)(v1:Int):Option ((Int)⊕((Unit)⊕(Int))):=br (bh v1 (az x0.before)) (aR (bj x0.before v1) fun x2=>aR (q8 r.aq x2.x0 x2.x1) fun r7=>br r7 (some (.inl (aU .i64 v1 1))) (some (.inr (.inr 21)))) (some (.inr (.inl ())))
def pZ(x0:ab)(r:ay):Option Int:=br (cM (az r.aq) 0) (some 2) (aR (cP r.aq x0) fun r1=>br r1 (some 2) (aR (cQ r.aq x0) fun r2=>br r2 (some 9) (aR (su r.aq) fun r3=>br r3 (some 6) (aR (q9 x0 r.aq) fun r4=>br r4 (aR (aL (fun s=>gZ x0 r s) 0) (fun e=>iD e (fun(_:Unit)=>aR (aL (fun s=>g_ x0 r s) 0) (fun e=>iD e (fun(_:Unit)=>some 0) (fun r8=>some r8))) (fun r9=>some r9))) (some 19)))))
def tX(t:al)(cG:Int):Option Bool:=some (((cD t.cG 0)&&(cD cG 0))&&(cM (y2 .i64 cG t.cG) 0))
def mN(x0:ab)(r:ay)(v:Int):Option ((Int)⊕((Unit)⊕(Int))):=br (bh v (az r.aq)) (aR (bj r.aq v) fun x1=>aR (bj x0.types r.aY) fun x2=>aR (bj x0.ah x1.aJ) fun x3=>aR (tX x2 x3.cG) fun r1=>br r1 (some (.inl (aU .i64 v 1))) (some (.inr (.inr 18)))) (some (.inr (.inl ())))
def Ad(x0:ab)(r:ay):Option Int:=aR (aL (fun s=>mN x0 r s) 0) (fun e=>iD e (fun(_:Unit)=>some 0) (fun r2=>some r2))
def Dm(a b:Int):Option Int:=some (aU .i64 a b)
def fe(a b l l1:List Int)(v:Int):Option ((List Int×Int)⊕(List Int)):=br (bh v (az a)) (aR (bj a v) fun x0=>aR (bj b v) fun x1=>aR (Dm x0 x1) fun r=>aR (bj l1 v) fun x2=>some (.inl ((e_ l1 v r),(aU .i64 v 1)))) (some (.inr l1))
def qB(a b:List Int):Option (List Int×Int):=br (cr (az a) (az b)) (some ([],2)) (aR (za (az a) (az a) 8 0) fun l=>aR (aL (fun s=>fe a b l s.1 s.2) (l,0)) (fun l2=>some (l2,0)))
def rj(a b:List Int):Option (List Int×Int):=aR (qB a b) fun r=>some (r.1,r.2)
def A7(a b:Int):Option Int:=some (dd .i64 a b)
def eM(a b l l1:List Int)(v:Int):Option ((List Int×Int)⊕(List Int)):=br (bh v (az a)) (aR (bj a v) fun x0=>aR (bj b v) fun x1=>aR (A7 x0 x1) fun r=>aR (bj l1 v) fun x2=>some (.inl ((e_ l1 v r),(aU .i64 v 1)))) (some (.inr l1))
def pr(a b:List Int):Option (List Int×Int):=br (cr (az a) (az b)) (some ([],2)) (aR (za (az a) (az a) 8 0) fun l=>aR (aL (fun s=>eM a b l s.1 s.2) (l,0)) (fun l2=>some (l2,0)))
def Cu(a b:List Int):Option (List Int×Int):=aR (pr a b) fun r=>some (r.1,r.2)
def nz(r:ay)(bz v:Int):Option ((Int×Int)⊕((Int)⊕(Int×Int))):=br (bh v (az r.aq)) (aR (bj r.aq v) fun x0=>br ((bh x0.aJ 0)||(dp x0.aJ 62)) (some (.inr (.inr (0,2)))) (ef ((0:Int)≤x0.aJ) (some (.inl ((OE .i64 bz (K2 .i64 1 x0.aJ)),(aU .i64 v 1)))))) (some (.inr (.inl bz)))
def qZ(r:ay):Option (Int×Int):=aR (aL (fun s=>nz r s.1 s.2) (0,0)) (fun e=>iD e (fun Gs=>some (Gs,0)) (fun r1=>some r1))
def ji(x0:ab)(l r sum:List Int)(v:Int):Option ((List Int×Int)⊕(List Int)):=br (bh v (az r)) (aR (bj r v) fun x1=>aR (bj x0.ah x1) fun x2=>br (bh x2.pick.place 0) (aR (rj sum x2.load) fun r1=>some (.inl (r1.1,(aU .i64 v 1)))) (some (.inl (sum,(aU .i64 v 1))))) (some (.inr sum))
def xS(x0:ab)(bz cO:Int):Option (List Int):=aR (za cO cO 8 0) fun l=>aR (qH bz) fun r=>aR (aL (fun s=>ji x0 l r s.1 s.2) (l,0)) (fun Qfz=>some Qfz)
def zN(l:List al):Option Int:=br (cM (az l) 0) (some 0) (aR (bj l 0) fun x0=>some (az x0.cap))
def jh(x0:ab)(r:ay)(l:List (List Int))(now:List Int)(v:Int):Option ((List (List Int)×List Int×Int)⊕((List (List Int))⊕(List (List Int)×Int))):=br (bh v (az r.aq)) (aR (bj r.aq v) fun x1=>br x1.drop (aR (bj x0.ah x1.aJ) fun x2=>aR (Cu now x2.load) fun r5=>br (cr r5.2 0) (some (.inr (.inr ([],r5.2)))) (ef (eO (l++[r5.1]).length 24) (some (.inl ((l++[r5.1]),r5.1,(aU .i64 v 1)))))) (aR (bj x0.ah x1.aJ) fun x3=>aR (rj now x3.load) fun r6=>br (cr r6.2 0) (some (.inr (.inr ([],r6.2)))) (ef (eO (l++[r6.1]).length 24) (some (.inl ((l++[r6.1]),r6.1,(aU .i64 v 1))))))) (some (.inr (.inl l)))
def xR(x0:ab)(r:ay):Option (List (List Int)×Int):=aR (pZ x0 r) fun r1=>br (cr r1 0) (some ([],r1)) (aR (qZ r) fun r2=>br (cr r2.2 0) (some ([],r2.2)) (aR (zN x0.types) fun r3=>aR (xS x0 r2.1 r3) fun r4=>aR (aL (fun s=>jh x0 r s.1 s.2.1 s.2.2) ([r4],r4,0)) (fun e=>iD e (fun l1=>some (l1,0)) (fun r7=>some r7))))
def fM(a capacity:List Int)(v:Int):Option ((Int)⊕((Unit)⊕(Bool))):=br (bh v (az a)) (aR (bj a v) fun x0=>aR (bj capacity v) fun x1=>br (dp x0 x1) (some (.inr (.inr false))) (some (.inl (aU .i64 v 1)))) (some (.inr (.inl ())))
def qA(a capacity:List Int):Option Bool:=br (cr (az a) (az capacity)) (some false) (aR (aL (fun s=>fM a capacity s) 0) (fun e=>iD e (fun(_:Unit)=>some true) (fun r=>some r)))
def y4(a:List Int)(c:ab)(c1:ay):Option Bool:=aR (bj c.types c1.aY) fun x0=>aR (qA a x0.cap) fun r=>some (!r)
def ch(s0:List (List Int))(c:ab)(c1:ay)(v:Int):Option ((Int)⊕((Unit)⊕(Int))):=br (bh v (az s0)) (aR (bj s0 v) fun x0=>aR (y4 x0 c c1) fun r=>br r (some (.inr (.inr v))) (some (.inl (aU .i64 v 1)))) (some (.inr (.inl ())))
def dN(s0:List (List Int))(c:ab)(c1:ay):Option Int:=aR (aL (fun s=>ch s0 c c1 s) 0) (fun e=>iD e (fun(_:Unit)=>some (-1)) (fun r1=>some r1))
def eC(s0:List (List Int))(c:ab)(c1:ay):Option Bool:=aR (dN s0 c c1) fun r=>some (cD r 0)
def zA(x0:ab)(r:ay):Option Int:=br ((bh r.aY 0)||(cD r.aY (az x0.types))) (some 2) (aR (xR x0 r) fun r1=>br (cr r1.2 0) (some r1.2) (aR (eC r1.1 x0 r) fun r2=>br r2 (some 17) (some 0)))
def tA(x0:ab)(r:ay)(x1:al)(l:List a6)(v:Int):Option ((List a6×Int)⊕((List a6)⊕(bp×Bool))):=br (bh v (az r.aq)) (aR (bj r.aq v) fun x2=>aR (xA x0.ah x2) fun r1=>br ((cr r1.2 0)||(bh r1.1.place 0)) (some (.inr (.inr ((bp.mk (ab.mk (aD.mk [] []) [] [] [] []) (al.mk ByteArray.empty 0 0 0 [] 0 0 0 0 0 0 0 0 0) (ay.mk 0 0 [] []) []),false)))) (ef (eO (l++[r1.1]).length 32) (some (.inl ((l++[r1.1]),(aU .i64 v 1)))))) (some (.inr (.inl l)))
def xh(x0:ab)(r:ay):Option (bp×Bool):=br (((((bh r.aY 0)||(cD r.aY (az x0.types)))||(bh r.aK 0))||(dp r.aK 4096))||(dp (az r.aq) 20)) (some ((bp.mk (ab.mk (aD.mk [] []) [] [] [] []) (al.mk ByteArray.empty 0 0 0 [] 0 0 0 0 0 0 0 0 0) (ay.mk 0 0 [] []) []),false)) (aR (bj x0.types r.aY) fun x1=>aR (aL (fun s=>tA x0 r x1 s.1 s.2) ([],0)) (fun e=>iD e (fun l1=>some ((bp.mk x0 x1 r l1),true)) (fun r2=>some r2)))
def fL(p:bp):Option an:=some (an.mk (we p.t.bJ p.r.aK) 0 (aX.mk false 0 [] 0 0))
def rk(n:aD)(i:Int):Option Bool:=some ((cD i 0)&&(bh i (az n.aV)))
def xJ(a:aH):Option Bs:=some (Bs.mk a.a8 a.fN a.aT)
def qV(n:aD)(aT a8 fN v:Int):Option ((Int)⊕((Unit)⊕(aH×Bool))):=br (bh v (az n.cH)) (aR (bj n.cH v) fun x0=>aR (xJ x0) fun r=>br (cM r.a8 a8&&(cM r.fN fN&&(cM r.aT aT&&true))) (some (.inr (.inr (x0,true)))) (some (.inl (aU .i64 v 1)))) (some (.inr (.inl ())))
def wi(n:aD)(aT a8 fN:Int):Option (aH×Bool):=aR (aL (fun s=>qV n aT a8 fN s) 0) (fun e=>iD e (fun(_:Unit)=>some ((aH.mk 0 0 0 0 [] []),false)) (fun r1=>some r1))
def uj(a:aH)(t out v:Int):Option ((Int×Int)⊕(Int)):=br (bh v (az a.ja)) (aR (bj a.ja v) fun x0=>br (fT x0.t t) (some (.inl ((aU .i64 out x0.a),(aU .i64 v 1)))) (some (.inl (out,(aU .i64 v 1))))) (some (.inr out))
def qW(a:aH)(t:Int):Option Int:=aR (rq a.jw t) fun r=>aR (aL (fun s=>uj a t s.1 s.2) (r,0)) (fun Qfe=>some Qfe)
def ui(n:aD)(aT a8 fN t:Int):Option (Int×Int×Int):=aR (rk n a8) fun r=>br r (aR (rk n fN) fun r1=>br r1 (br (cM a8 fN) (some (t,0,0)) (aR (wi n aT a8 fN) fun r2=>br r2.2 (aR (qW r2.1 t) fun r3=>some (r3,r2.1.ed,0)) (some (0,0,12)))) (some (0,0,11))) (some (0,0,11))
def sW(s0:a6)(gC:Int):Option (Int×Int):=br (dp (we gC s0.bJ) s0.b9) (some (0,14)) (some ((we gC s0.bJ),0))
def mS(p:bp)(aq:Int):Option Int:=br (cM aq 0) (some p.t.a8) (aR (bj p.aG (dd .i64 aq 1)) fun x0=>some x0.place)
def dY(s0:List bg):Option (List bg):=br (List.isEmpty s0) (amb (some []) (ef (eO s0.length 32) (some s0))) (ef (eO s0.length 32) (some s0))
def kr(p:bp)(l:an)(cF ff:Int)(o7:Bool)(nN:Int)(r2:Int×Int×Int)(l2:List bg)(ready oY:Int):Option (an×Int):=br (dp (dd .i64 (aU .i64 ff r2.1) cF) p.t.iJ) (some ((an.mk 0 0 (aX.mk false 0 [] 0 0)),16)) (some ((an.mk ready (dd .i64 (aU .i64 ff r2.1) cF) (aX.mk o7 nN l2 oY (aU .i64 l.c9.ed r2.2.1))),0))
def iF(p:bp)(l:an)(done cF ff:Int)(l1:List bg)(o7:Bool)(nN fN:Int):Option (an×Int):=aR (mS p done) fun r1=>aR (ui p.x.bG p.t.aT r1 fN cF) fun r2=>br (cr r2.2.2 0) (some ((an.mk 0 0 (aX.mk false 0 [] 0 0)),12)) (br (cM done (az p.aG)) (br (dp r2.1 p.t.b9) (some ((an.mk 0 0 (aX.mk false 0 [] 0 0)),15)) (kr p l cF ff o7 nN r2 l1 r2.1 r2.1)) (aR (bj p.aG done) fun x2=>aR (sW x2 r2.1) fun r3=>br (cr r3.2 0) (some ((an.mk 0 0 (aX.mk false 0 [] 0 0)),14)) (ef (eO (l1++[(bg.mk r2.1 r3.1 0 false)]).length 32) (kr p l cF ff o7 nN r2 (l1++[(bg.mk r2.1 r3.1 0 false)]) (aU .i64 r3.1 x2.dn) l.c9.oY))))
def kp(p:bp)(l:an)(done cF ff:Int)(l1:List bg)(o7:Bool)(nN:Int):Option (an×Int):=br (cM done (az p.aG)) (iF p l done cF ff l1 o7 nN p.t.fN) (aR (bj p.aG done) fun x1=>iF p l done cF ff l1 o7 nN x1.place)
def ko(p:bp)(l:an)(done:Int)(bY:Bool)(cF ff:Int):Option (an×Int):=aR (dY l.c9.jv) fun r=>br (cM done 0) (kp p l done cF ff r bY cF) (aR (bj r (dd .i64 done 1)) fun x0=>kp p l done cF ff (e_ (e_ r (dd .i64 done 1) (bg.mk x0.gC x0.rU x0.cF bY)) (dd .i64 done 1) (bg.mk x0.gC x0.rU cF bY)) l.c9.bY l.c9.cF)
def jW(p:bp)(l:an)(done:Int)(bY:Bool):Option (an×Int):=br bY (ko p l done bY (aU .i64 l.ready p.t.bY) 0) (ko p l done bY l.ready l.ff)
def uQ(l m:an):Option Bool:=some ((cM l.ready m.ready)&&(fT l.ff m.ff))
def ou(m c:an):Option Bool:=aR (uQ m c) fun r=>some r
def bw(s0:List an)(c:an)(v:Int):Option ((Int)⊕((Unit)⊕(Int))):=br (bh v (az s0)) (aR (bj s0 v) fun x0=>aR (ou x0 c) fun r=>br r (some (.inr (.inr v))) (some (.inl (aU .i64 v 1)))) (some (.inr (.inl ())))
def dy(s0:List an)(c:an):Option Int:=aR (aL (fun s=>bw s0 c s) 0) (fun e=>iD e (fun(_:Unit)=>some (-1)) (fun r1=>some r1))
def cb(s0:List an)(c:an):Option Bool:=aR (dy s0 c) fun r=>some (cD r 0)
def fv(p:bp)(l:List an)(done:Int)(gD:List Bool)(v:Int)(x0:an)(l3:List an)(v1:Int):Option ((List an×Int)⊕(List an)):=br (bh v1 (az gD)) (aR (bj gD v1) fun x1=>aR (jW p x0 done x1) fun r=>br (cM r.2 0) (aR (cb l3 r.1) fun r1=>br r1 (some (.inl (l3,(aU .i64 v1 1)))) (ef (eO (l3++[r.1]).length 72) (some (.inl ((l3++[r.1]),(aU .i64 v1 1)))))) (some (.inl (l3,(aU .i64 v1 1))))) (some (.inr l3))
def fu(p:bp)(l:List an)(done:Int)(gD:List Bool)(l2:List an)(v:Int):Option ((List an×Int)⊕(List an)):=br (bh v (az l)) (aR (bj l v) fun x0=>aR (aL (fun s=>fv p l done gD v x0 s.1 s.2) (l2,0)) (fun l4=>some (.inl (l4,(aU .i64 v 1))))) (some (.inr l2))
def kn(p:bp)(l:List an)(done:Int)(gD:List Bool):Option (List an):=aR (aL (fun s=>fu p l done gD s.1 s.2) ([],0)) (fun l5=>some l5)
def lv(p:bp)(l:List an)(done:Int):Option (List an):=br (bh done (az p.r.aQ)) (aR (wS p.r.aQ done (aU .i64 done 1)) fun l1=>kn p l done l1) (kn p l done [false,true])
def oz(p:bp)(aQ:List Bool)(r:an)(bY:Int)(x0:an)(v:Int):Option ((Int×an×Int)⊕((an)⊕(aX×Int))):=br (bh v (az aQ)) (aR (bj aQ v) fun x1=>aR (jW (bp.mk p.x (al.mk p.t.name p.t.rH p.t.a8 p.t.fN p.t.cap p.t.cG p.t.aT p.t.bJ p.t.b9 p.t.iJ bY p.t.rK p.t.iY p.t.iZ) p.r p.aG) x0 v x1) fun r1=>br (cr r1.2 0) (some (.inr (.inr ((aX.mk false 0 [] 0 0),r1.2)))) (some (.inl (bY,r1.1,(aU .i64 v 1))))) (some (.inr (.inl x0)))
def pF(p:bp)(aQ:List Bool):Option (aX×Int):=aR (fL p) fun r=>aR (aL (fun s=>oz p aQ r s.1 s.2.1 s.2.2) (p.t.bY,r,0)) (fun e=>iD e (fun x2=>some (x2.c9,0)) (fun r2=>some r2))
def jd(r:ay)(r1:bp×Bool)(l:List an)(v:Int):Option ((List an×Int)⊕(List an)):=br (bh v (aU .i64 (az r.aq) 1)) (aR (lv r1.1 l v) fun r3=>some (.inl (r3,(aU .i64 v 1)))) (some (.inr l))
def je(l3:List an)(x2:an)(v1:Int):Option ((an×Int)⊕(an)):=br (bh v1 (az l3)) (aR (bj l3 v1) fun x3=>br (bh x3.c9.oY x2.c9.oY) (some (.inl (x3,(aU .i64 v1 1)))) (some (.inl (x2,(aU .i64 v1 1))))) (some (.inr x2))
def xg(x0:ab)(r:ay):Option (aX×Int):=aR (xh x0 r) fun r1=>br ((!r1.2)||(dp (az r.aQ) (aU .i64 (az r.aq) 1))) (some ((aX.mk false 0 [] 0 0),2)) (aR (fL r1.1) fun r2=>aR (aL (fun s=>jd r r1 s.1 s.2) ([r2],0)) (fun l1=>br (cM (az l1) 0) (aR (za (aU .i64 (az r.aq) 1) (aU .i64 (az r.aq) 1) 1 false) fun l2=>aR (pF r1.1 (He l2 r.aQ)) fun r4=>some (r4.1,r4.2)) (aR (bj l1 0) fun x1=>aR (wS l1 1 (az l1)) fun l3=>aR (aL (fun s=>je l3 s.1 s.2) (x1,0)) (fun x4=>some (x4.c9,0)))))
def tI(kind own:Int):Option Bool:=some ((cr kind (-1))&&(cr kind own))
def sj(x0:ab)(r:ay)(s0:aX)(x1:al)(l:List (Int×Int))(fY v:Int)(x2:ae)(x3:ag)(DO:Int):Option ((List (Int×Int)×Int×Int×Int)⊕(Int×Int)):=aR (tI x3.b8 r.aY) fun r2=>br r2 (some (.inl ((yD cM l x2.aJ (aU .i64 (nY cM l x2.aJ 0) 1)),DO,(aU .i64 fY 1),(aU .i64 v 1)))) (some (.inl ((yD cM l x2.aJ (aU .i64 (nY cM l x2.aJ 0) 1)),DO,fY,(aU .i64 v 1))))
def jt(x0:ab)(r:ay)(s0:aX)(x1:al)(l:List (Int×Int))(im fY v:Int):Option ((List (Int×Int)×Int×Int×Int)⊕(Int×Int)):=br (bh v (az r.aq)) (aR (bj r.aq v) fun x2=>br ((bh x2.aJ 0)||(cD x2.aJ (az x0.ah))) (some (.inl ((yD cM l x2.aJ (aU .i64 (nY cM l x2.aJ 0) 1)),im,fY,(aU .i64 v 1)))) (br (dp (nY cM (yD cM l x2.aJ (aU .i64 (nY cM l x2.aJ 0) 1)) x2.aJ 0) 1) (some (.inl ((yD cM l x2.aJ (aU .i64 (nY cM l x2.aJ 0) 1)),im,fY,(aU .i64 v 1)))) (aR (bj x0.ah x2.aJ) fun x3=>aR (tI x3.now r.aY) fun r1=>br r1 (sj x0 r s0 x1 l fY v x2 x3 (aU .i64 im 1)) (sj x0 r s0 x1 l fY v x2 x3 im)))) (some (.inr (im,fY)))
def yg(x0:ab)(r:ay)(s0:aX):Option bH:=br ((bh r.aY 0)||(cD r.aY (az x0.types))) (some (bH.mk 0 0 0 0)) (aR (bj x0.types r.aY) fun x1=>aR (aL (fun s=>jt x0 r s0 x1 s.1 s.2.1 s.2.2.1 s.2.2.2) ([],0,0,0)) (fun e0=>(fun Mn Mw=>some (bH.mk (aU .i64 (aU .i64 x1.rK (oT .i64 x1.iY s0.ed)) (oT .i64 x1.iZ (dd .i64 s0.oY x1.bJ))) Mn Mw (oT .i64 (so .i64 (dd .i64 s0.oY x1.bJ) 64) (so .i64 (dd .i64 s0.oY x1.bJ) 64)))) e0.1 e0.2))
def k8(x0:ab)(r:ay):Option (aX×bH×Int):=br ((bh r.aY 0)||(cD r.aY (az x0.types))) (some ((aX.mk false 0 [] 0 0),(bH.mk 0 0 0 0),2)) (aR (pZ x0 r) fun r1=>br (cr r1 0) (some ((aX.mk false 0 [] 0 0),(bH.mk 0 0 0 0),r1)) (aR (Ad x0 r) fun r2=>br (cr r2 0) (some ((aX.mk false 0 [] 0 0),(bH.mk 0 0 0 0),r2)) (aR (zA x0 r) fun r3=>br (cr r3 0) (some ((aX.mk false 0 [] 0 0),(bH.mk 0 0 0 0),r3)) (aR (xg x0 r) fun r4=>br (cr r4.2 0) (some ((aX.mk false 0 [] 0 0),(bH.mk 0 0 0 0),r4.2)) (aR (yg x0 r r4.1) fun r5=>some (r4.1,r5,0))))))
def mM(x0:ab)(r:ay):Option (Int×Int):=aR (k8 x0 r) fun r1=>br (cr r1.2.2 0) (some (0,r1.2.2)) (aR (fZ r1.2.1) fun r2=>some (r2.1,r2.2))
def fh(gX:List Int)(v:Int):Option ((Int)⊕((Unit)⊕(Int))):=br (bh v (az gX)) (aR (bj gX v) fun x0=>br (cr x0 0) (some (.inr (.inr x0))) (some (.inl (aU .i64 v 1)))) (some (.inr (.inl ())))
def ot(gX:List Int):Option Int:=aR (aL (fun s=>fh gX s) 0) (fun e=>iD e (fun(_:Unit)=>some 0) (fun r=>some r))
def kE(v:ae):Option Int:=br v.drop (some 1) (some 0)
def p8(a b:ae):Option Int:=aR (dR a.aJ b.aJ) fun r=>aR (kE a) fun r1=>aR (kE b) fun r2=>aR (dR r1 r2) fun r3=>aR (ot [r,r3]) fun r4=>some r4
def bn(s1 s2:List ae)(v:Int):Option ((Int)⊕((Unit)⊕(Int))):=br (bh v (az s1)) (aR (bj s1 v) fun x0=>br (cD v (az s2)) (some (.inr (.inr 1))) (aR (bj s2 v) fun x1=>aR (p8 x0 x1) fun r=>br (cr r 0) (some (.inr (.inr r))) (some (.inl (aU .i64 v 1))))) (some (.inr (.inl ())))
def ck(s1 s2:List ae):Option Int:=aR (aL (fun s=>bn s1 s2 s) 0) (fun e=>iD e (fun(_:Unit)=>br (bh (az s1) (az s2)) (some (-1)) (some 0)) (fun r1=>some r1))
def tK(a b:List ae):Option Bool:=aR (ck a b) fun r=>some (bh r 0)
def uo(a b:af):Option Bool:=br (cr a.kM b.kM) (some (bh a.kM b.kM)) (aR (tK a.db.aq b.db.aq) fun r=>some r)
def f_(x0:ab)(l:List ae)(v:ae)(r1:List ae)(v1:Int):Option ((Int)⊕((Unit)⊕(Bool))):=br (bh v1 (az r1)) (aR (bj r1 v1) fun x1=>br (cM x1.aJ v.aJ&&(Im x1.drop v.drop&&true)) (some (.inr (.inl ()))) (aR (iq l x1) fun r2=>br (bh r2 0) (some (.inr (.inr false))) (some (.inl (aU .i64 v1 1))))) (some (.inr (.inl ())))
def hZ(x0:ab)(l:List ae)(v:ae)(v2:Int)(r3:List ae)(v3:Int):Option ((Int)⊕((Unit)⊕(Bool))):=br (bh v3 (az r3)) (aR (bj r3 v3) fun x3=>aR (iq l x3) fun r4=>br (bh r4 0) (some (.inr (.inr false))) (some (.inl (aU .i64 v3 1)))) (some (.inr (.inl ())))
def hY(x0:ab)(l:List ae)(v:ae)(v2:Int):Option ((Int)⊕((Unit)⊕(Bool))):=br (bh v2 (az x0.before)) (aR (bj x0.before v2) fun x2=>br (cr x2.x1 v.aJ) (some (.inl (aU .i64 v2 1))) (aR (mA x0.ah x2.x0) fun r3=>aR (aL (fun s=>hZ x0 l v v2 r3 s) 0) (fun e=>iD e (fun(_:Unit)=>some (.inl (aU .i64 v2 1))) (fun r5=>some (.inr (.inr r5)))))) (some (.inr (.inl ())))
def ss(x0:ab)(l:List ae)(v:ae):Option Bool:=aR (iq l v) fun r=>br (cD r 0) (some false) (aR (mA x0.ah v.aJ) fun r1=>aR (aL (fun s=>f_ x0 l v r1 s) 0) (fun e=>iD e (fun(_:Unit)=>aR (aL (fun s=>hY x0 l v s) 0) (fun e=>iD e (fun(_:Unit)=>some true) (fun r6=>some r6))) (fun r7=>some r7)))
def iT(x0:ab)(bz:Int)(l:List ae)(v:Int)(r l2:List ae)(v1:Int):Option ((List ae×Int)⊕(List ae)):=br (bh v1 (az r)) (aR (bj r v1) fun x2=>aR (ss x0 l x2) fun r1=>br r1 (ef (eO (l2++[x2]).length 16) (some (.inl ((l2++[x2]),(aU .i64 v1 1))))) (some (.inl (l2,(aU .i64 v1 1))))) (some (.inr l2))
def gN(x0:ab)(bz:Int)(l l1:List ae)(v:Int):Option ((List ae×Int)⊕(List ae)):=br (bh v (az x0.ah)) (aR (bj x0.ah v) fun x1=>br (dp v 62) (some (.inl (l1,(aU .i64 v 1)))) (ef ((0:Int)≤v) (br ((cM (JD .i64 (zd .i64 bz v) 1) 0)||x1.off) (some (.inl (l1,(aU .i64 v 1)))) (aR (mA x0.ah v) fun r=>aR (aL (fun s=>iT x0 bz l v r s.1 s.2) (l1,0)) (fun l3=>some (.inl (l3,(aU .i64 v 1)))))))) (some (.inr l1))
def tL(x0:ab)(bz:Int)(l:List ae):Option (List ae):=aR (aL (fun s=>gN x0 bz l s.1 s.2) ([],0)) (fun l4=>some l4)
def cp(s0:List aC)(v:aC)(v1:Int):Option ((Int)⊕((Unit)⊕(Int))):=br (bh v1 (az s0)) (aR (bj s0 v1) fun x0=>br (cM v.ready x0.ready&&(cM v.fS x0.fS&&true)) (some (.inr (.inr v1))) (some (.inl (aU .i64 v1 1)))) (some (.inr (.inl ())))
def dZ(s0:List aC)(v:aC):Option Int:=aR (aL (fun s=>cp s0 v s) 0) (fun e=>iD e (fun(_:Unit)=>some (-1)) (fun r=>some r))
def eI(s0:List aC)(v:aC):Option Bool:=aR (dZ s0 v) fun r=>some (cD r 0)
def mI(l:List aC)(s0:aC):Option (List aC):=aR (eI l s0) fun r=>br r (some l) (ef (eO (l++[s0]).length 16) (some (l++[s0])))
def tN(s0:a6)(gC:Int):Option (Int×Int):=aR (sW s0 gC) fun r=>br (cr r.2 0) (some (0,r.2)) (some ((aU .i64 r.1 s0.dn),0))
def eF(s0:List ae):Option (List ae):=aR (wS s0 0 (az s0)) fun l=>some l
def gY(eZ:af)(some_:Bool)(Sl:af):Option af:=br some_ (aR (uo Sl eZ) fun r=>br r (some Sl) (some eZ)) (some Sl)
def j_(s0:aS)(l:List aC)(cF fS:Int):Option (List aC×aS):=aR (mI l (aC.mk cF fS)) fun r=>aR (bj s0.x.types s0.kind) fun x0=>aR (mI r (aC.mk (aU .i64 cF x0.bY) 0)) fun r1=>some (r1,s0)
def kR(a8:Int)(l:List aC)(stop:a6)(x0:al)(l1:List aC)(x1:aS)(v:Int):Option ((List aC×aS×Int)⊕(List aC×aS)):=br (bh v (az l)) (aR (bj l v) fun x2=>aR (ui x1.x.bG x0.aT a8 stop.place x2.ready) fun r=>br ((cr r.2.2 0)||(dp (dd .i64 (aU .i64 x2.fS r.1) x2.ready) x0.iJ)) (some (.inl (l1,x1,(aU .i64 v 1)))) (aR (tN stop r.1) fun r1=>br (cr r1.2 0) (some (.inl (l1,x1,(aU .i64 v 1)))) (aR (j_ x1 l1 r1.1 (dd .i64 (aU .i64 x2.fS r.1) x2.ready)) fun r2=>some (.inl (r2.1,r2.2,(aU .i64 v 1)))))) (some (.inr (l1,x1)))
def oq(s0:aS)(a8:Int)(l:List aC)(stop:a6):Option (List aC×aS):=aR (bj s0.x.types s0.kind) fun x0=>aR (aL (fun s=>kR a8 l stop x0 s.1 s.2.1 s.2.2) ([],s0,0)) (fun e0=>(fun l2 x3=>some (l2,x3)) e0.1 e0.2)
def lS(self:aS→(List ae)→Int→(List aC)→Option aS)(aq:List ae)(a8:Int)(l:List aC)(r2:List ae)(x0:aS)(v:Int):Option ((aS×Int)⊕(aS)):=br (bh v (az r2)) (aR (bj r2 v) fun x1=>aR (xA x0.x.ah x1) fun r3=>br (cr r3.2 0) (some (.inl (x0,(aU .i64 v 1)))) (aR (oq x0 a8 l r3.1) fun r4=>br (dp (az r4.1) 0) (aR (eF aq) fun r5=>ef (eO (r5++[x1]).length 16) (aR (self r4.2 (r5++[x1]) r3.1.place r4.1) fun r6=>some (.inl (r6,(aU .i64 v 1))))) (some (.inl (r4.2,(aU .i64 v 1)))))) (some (.inr x0))
def m_(self:aS→(List ae)→Int→(List aC)→Option aS)(s0:aS)(aq:List ae)(a8:Int)(l:List aC):Option aS:=br (cM (az aq) s0.kj) (aR (mM s0.x (ay.mk s0.kind 0 [] aq)) fun r=>br (cM r.2 0) (aR (gY s0.eZ s0.mJ (af.mk s0.kind s0.bz r.1 (ay.mk s0.kind 0 [] aq))) fun r1=>some (aS.mk s0.x s0.kind s0.bz s0.kj r1 true)) (some s0)) (aR (tL s0.x s0.bz aq) fun r2=>aR (aL (fun s=>lS self aq a8 l r2 s.1 s.2) (s0,0)) (fun x2=>some x2))
def iE:Nat→aS→(List ae)→Int→(List aC)→Option aS|0=>fun _ _ _ _=>none|Fz+1=>fun s0 aq a8 l=>m_ (iE Fz) s0 aq a8 l
def B9(s0:aS)(aq:List ae)(a8:Int)(l:List aC):Option aS:=iE u9 s0 aq a8 l
def my(s0:aS)(cF fS:Int):Option (List aC×aS):=aR (mI [] (aC.mk cF fS)) fun r=>aR (bj s0.x.types s0.kind) fun x0=>aR (mI r (aC.mk (aU .i64 cF x0.bY) 0)) fun r1=>some (r1,s0)
def mw(x0:ab)(kind bz:Int)(r1:List Int)(kj v:Int):Option ((Int×Int)⊕(Int)):=br (bh v (az r1)) (aR (bj r1 v) fun x1=>aR (mA x0.ah x1) fun r2=>some (.inl ((aU .i64 kj (az r2)),(aU .i64 v 1)))) (some (.inr kj))
def B6(x0:ab)(kind bz:Int):Option (af×Int):=br (((bh kind 0)||(cD kind (az x0.types)))||(fT bz 0)) (some ((af.mk 0 0 0 (ay.mk 0 0 [] [])),2)) (ef ((0:Int)≤(az x0.ah)) (br (cr (zd .i64 bz (az x0.ah)) 0) (some ((af.mk 0 0 0 (ay.mk 0 0 [] [])),2)) (aR (mO x0 bz) fun r=>br (cr r 0) (some ((af.mk 0 0 0 (ay.mk 0 0 [] [])),24)) (aR (qH bz) fun r1=>aR (aL (fun s=>mw x0 kind bz r1 s.1 s.2) (0,0)) (fun D8=>aR (bj x0.types kind) fun x2=>aR (my (aS.mk x0 kind bz D8 (af.mk 0 0 0 (ay.mk 0 0 [] [])) false) x2.bJ 0) fun r3=>aR (B9 r3.2 [] x2.a8 r3.1) fun r4=>br r4.mJ (some (r4.eZ,0)) (some ((af.mk 0 0 0 (ay.mk 0 0 [] [])),24)))))))
def qo(x0:ab)(l:List af)(v:Int)(l1:List af)(bz:Int):Option ((List af×Int)⊕(List af)):=ef ((0:Int)≤(az x0.ah)) (br (cM (zd .i64 bz (az x0.ah)) 0) (aR (B6 x0 v bz) fun r=>br (cM r.2 0) (ef (eO (l1++[r.1]).length 88) (some (.inl ((l1++[r.1]),(aU .i64 bz 1))))) (some (.inl (l1,(aU .i64 bz 1))))) (some (.inr l1)))
def oo(x0:ab)(l:List af)(v:Int):Option ((List af×Int)⊕(List af)):=br (bh v (az x0.types)) (aR (aL (fun s=>qo x0 l v s.1 s.2) (l,1)) (fun l2=>some (.inl (l2,(aU .i64 v 1))))) (some (.inr l))
def Fa(x0:ab):Option (List af×Int):=aR (aL (fun s=>oo x0 s.1 s.2) ([],0)) (fun l3=>some (l3,0))
def u2(a:ag):Option Bool:=some true
def fx(x0:ab)(bz v:Int):Option ((Int×Int)⊕(Int)):=br (bh v (az x0.ah)) (aR (bj x0.ah v) fun x1=>br x1.off (some (.inl (bz,(aU .i64 v 1)))) (aR (u2 x1) fun r=>br r (ef ((0:Int)≤v) (some (.inl ((OE .i64 bz (K2 .i64 1 v)),(aU .i64 v 1))))) (some (.inl (bz,(aU .i64 v 1)))))) (some (.inr bz))
def lX(x0:ab):Option Int:=aR (aL (fun s=>fx x0 s.1 s.2) (0,0)) (fun Gs=>some Gs)
def sJ(x0:ab):Option Int:=aR (lX x0) fun r=>some r
def bits_TrailingZeros(x0:Int):Option Int:=aR (tzM x0) fun r=>some r
def nA(bz:Int):Option Int:=br (fT bz 0) (some (-1)) (aR (bits_TrailingZeros (Ax .u64 bz)) fun r=>some r)
def Bk(a b:Int):Option Bool:=some (cM (y2 .i64 a b) 0)
def xZ(x0:ab)(c:af)(ah:Int):Option Bool:=br (((cD c.aY 0)&&(bh c.aY (az x0.types)))&&(dp c.bz 0)) (aR (Bk c.bz ah) fun r=>some ((r&&(cD c.kM 0))&&(fT c.kM 18014398509481984))) (some false)
def pK(a b:af):Option Int:=aR (dR a.aY b.aY) fun r=>aR (dR a.bz b.bz) fun r1=>aR (ot [r,r1]) fun r2=>some r2
def jk(l:List af)(l1:List (bt×Int))(l2:List af)(v:Int):Option ((List (bt×Int)×List af×Int)⊕(List af)):=br (bh v (az l)) (aR (bj l v) fun x0=>br (Kw bt.Ow l1 (bt.mk x0.aY x0.bz)) (aR (bj l2 (nY bt.Ow l1 (bt.mk x0.aY x0.bz) 0)) fun x1=>br (bh x0.kM x1.kM) (some (.inl (l1,(e_ l2 (nY bt.Ow l1 (bt.mk x0.aY x0.bz) 0) x0),(aU .i64 v 1)))) (some (.inl (l1,l2,(aU .i64 v 1))))) (ef (eO (l2++[x0]).length 88) (some (.inl ((yD bt.Ow l1 (bt.mk x0.aY x0.bz) (az l2)),(l2++[x0]),(aU .i64 v 1)))))) (some (.inr l2))
def kU(l:List af):Option (List af):=aR (aL (fun s=>jk l s.1 s.2.1 s.2.2) ([],[],0)) (fun l3=>aR (y1 pK l3) fun l4=>some l4)
def gq(x0:ab)(aJ:Int):Option (bH×Int):=br ((bh aJ 0)||(cD aJ (az x0.ah))) (some ((bH.mk 0 0 0 0),2)) (aR (bj x0.ah aJ) fun x1=>br x1.off (some ((bH.mk 0 0 0 0),9)) (br (cM x1.eH (-1)) (some ((bH.mk 0 0 0 0),23)) (br (cr x1.now (-1)) (some ((bH.mk x1.eH 1 0 0),0)) (some ((bH.mk x1.eH 0 0 0),0)))))
def ng(x0:ab)(l:List af)(r v:Int):Option ((Int)⊕((Unit)⊕((Option aw)×Int))):=br (bh v (az l)) (aR (bj l v) fun x1=>aR (xZ x0 x1 r) fun r1=>br r1 (some (.inl (aU .i64 v 1))) (some (.inr (.inr (none,2))))) (some (.inr (.inl ())))
def zF(x0:ab)(l:List af)(r:Int)(l1:List (List af))(r2:List af):Option ((Unit)⊕(Unit)):=br (bh 0 (az r2)) (aR (bj r2 0) fun x2=>aR (nA x2.bz) fun r3=>none) (some (.inr ()))
def pG(x0:ab)(l:List af)(r:Int)(l1:List (List af))(l2:List Int)(v1 skip:Int):Option ((List Int×Int)⊕(List Int)):=ef (eO (l2++[skip]).length 8) (some (.inl ((l2++[skip]),(aU .i64 v1 1))))
def zG(x0:ab)(l:List af)(r:Int)(l1:List (List af))(l2:List Int)(v1:Int):Option ((List Int×Int)⊕(List Int)):=br (bh v1 (az x0.ah)) (aR (gq x0 v1) fun r4=>br (cM r4.2 0) (aR (fZ r4.1) fun r5=>br (cM r5.2 0) (pG x0 l r l1 l2 v1 r5.1) (pG x0 l r l1 l2 v1 (-1))) (pG x0 l r l1 l2 v1 (-1))) (some (.inr l2))
def nh(x0:ab)(l:List af)(r:Int)(r6 l4:List af)(v2:Int):Option ((List af×Int)⊕(List af)):=br (bh v2 (az r6)) (aR (bj r6 v2) fun x3=>aR (nA x3.bz) fun r7=>br (cM r7 0) (ef (eO (l4++[x3]).length 88) (some (.inl ((l4++[x3]),(aU .i64 v2 1))))) (none)) (some (.inr l4))
def pH(x0:ab)(l:List af)(r:Int)(l5:List af)(l6:List Int)(v3 SD:Int):Option ((List Int×Int)⊕(List Int)):=ef (eO (l6++[SD]).length 8) (some (.inl ((l6++[SD]),(aU .i64 v3 1))))
def zH(x0:ab)(l:List af)(r:Int)(l5:List af)(l6:List Int)(v3:Int):Option ((List Int×Int)⊕(List Int)):=br (bh v3 (az x0.ah)) (aR (gq x0 v3) fun r8=>br (cM r8.2 0) (aR (fZ r8.1) fun r9=>br (cM r9.2 0) (pH x0 l r l5 l6 v3 r9.1) (pH x0 l r l5 l6 v3 (-1))) (pH x0 l r l5 l6 v3 (-1))) (some (.inr l6))
def ni(x0:ab)(l:List af)(r:Int)(My l8 l9:List af)(v4:Int):Option ((List af×List af×Int)⊕(List af×List af)):=br (bh v4 (az My)) (aR (bj My v4) fun x4=>aR (nA x4.bz) fun G8=>br (cM G8 0) (ef (eO (l8++[x4]).length 88) (some (.inl ((l8++[x4]),l9,(aU .i64 v4 1))))) (br (cM G8 1) (ef (eO (l9++[x4]).length 88) (some (.inl (l8,(l9++[x4]),(aU .i64 v4 1))))) (none))) (some (.inr (l8,l9)))
def pI(x0:ab)(l:List af)(r:Int)(l10 u4:List af)(zR:List Int)(v5 SE:Int):Option ((List Int×Int)⊕(List Int)):=ef (eO (zR++[SE]).length 8) (some (.inl ((zR++[SE]),(aU .i64 v5 1))))
def zI(x0:ab)(l:List af)(r:Int)(l10 u4:List af)(zR:List Int)(v5:Int):Option ((List Int×Int)⊕(List Int)):=br (bh v5 (az x0.ah)) (aR (gq x0 v5) fun r12=>br (cM r12.2 0) (aR (fZ r12.1) fun r13=>br (cM r13.2 0) (pI x0 l r l10 u4 zR v5 r13.1) (pI x0 l r l10 u4 zR v5 (-1))) (pI x0 l r l10 u4 zR v5 (-1))) (some (.inr zR))
def nj(x0:ab)(l:List af)(r:Int)(Rj l14 l15 l16:List af)(v6:Int):Option ((List af×List af×List af×Int)⊕(List af×List af×List af)):=br (bh v6 (az Rj)) (aR (bj Rj v6) fun x5=>aR (nA x5.bz) fun H8=>br (cM H8 0) (ef (eO (l14++[x5]).length 88) (some (.inl ((l14++[x5]),l15,l16,(aU .i64 v6 1))))) (br (cM H8 1) (ef (eO (l15++[x5]).length 88) (some (.inl (l14,(l15++[x5]),l16,(aU .i64 v6 1))))) (br (cM H8 2) (ef (eO (l16++[x5]).length 88) (some (.inl (l14,l15,(l16++[x5]),(aU .i64 v6 1))))) (none)))) (some (.inr (l14,l15,l16)))
def pJ(x0:ab)(l:List af)(r:Int)(Lw Lx Ly:List af)(X0:List Int)(v7 SF:Int):Option ((List Int×Int)⊕(List Int)):=ef (eO (X0++[SF]).length 8) (some (.inl ((X0++[SF]),(aU .i64 v7 1))))
def zJ(x0:ab)(l:List af)(r:Int)(Lw Lx Ly:List af)(X0:List Int)(v7:Int):Option ((List Int×Int)⊕(List Int)):=br (bh v7 (az x0.ah)) (aR (gq x0 v7) fun r16=>br (cM r16.2 0) (aR (fZ r16.1) fun r17=>br (cM r17.2 0) (pJ x0 l r Lw Lx Ly X0 v7 r17.1) (pJ x0 l r Lw Lx Ly X0 v7 (-1))) (pJ x0 l r Lw Lx Ly X0 v7 (-1))) (some (.inr X0))
def rY(x0:ab)(l:List af):Option ((Option aw)×Int):=br (dp (az l) 8192) (some (none,4)) (aR (sJ x0) fun r=>aR (aL (fun s=>ng x0 l r s) 0) (fun e=>iD e (fun(_:Unit)=>br (cM (az x0.ah) 0) (aR (za (az x0.ah) (az x0.ah) 24 []) fun l1=>aR (kU l) fun r2=>aR (aL (fun(_:Unit)=>zF x0 l r l1 r2) ()) (fun(_:Unit)=>aR (aL (fun s=>zG x0 l r l1 s.1 s.2) ([],0)) (fun l3=>some ((some (aw.mk x0 l1 l3 [] r)),0)))) (br (cM (az x0.ah) 1) (aR (kU l) fun r6=>aR (aL (fun s=>nh x0 l r r6 s.1 s.2) ([],0)) (fun l5=>aR (aL (fun s=>zH x0 l r l5 s.1 s.2) ([],0)) (fun l7=>some ((some (aw.mk x0 [l5] l7 [] r)),0)))) (br (cM (az x0.ah) 2) (aR (kU l) fun My=>aR (aL (fun s=>ni x0 l r My s.1 s.2.1 s.2.2) ([],[],0)) (fun e0=>(fun l10 u4=>aR (aL (fun s=>zI x0 l r l10 u4 s.1 s.2) ([],0)) (fun l13=>some ((some (aw.mk x0 [l10,u4] l13 [] r)),0))) e0.1 e0.2)) (br (cM (az x0.ah) 3) (aR (kU l) fun Rj=>aR (aL (fun s=>nj x0 l r Rj s.1 s.2.1 s.2.2.1 s.2.2.2) ([],[],[],0)) (fun e0=>(fun Lw Lx Ly=>aR (aL (fun s=>zJ x0 l r Lw Lx Ly s.1 s.2) ([],0)) (fun l21=>some ((some (aw.mk x0 [Lw,Lx,Ly] l21 [] r)),0))) e0.1 e0.2.1 e0.2.2)) (none))))) (fun r18=>some r18)))
def iK(c:aw)(s0:aj)(eK:Int):Option ((Int)⊕(Int)):=br (bh eK (az c.x.ah)) (aR (k9 c.ah eK) fun r=>br r (aR (k9 s0.eV eK) fun r1=>br r1 (some (.inl (aU .i64 eK 1))) (some (.inr eK))) (some (.inl (aU .i64 eK 1)))) (some (.inr eK))
def cW(c:aw)(s0:aj):Option (aj×aw):=aR (aL (fun s=>iK c s0 s) s0.eK) (fun Qef=>some ((aj.mk Qef s0.eV s0.dh),c))
def ku(c:aw)(s0:aj)(yw:af):Option (aj×Bool×aw):=br (cr (JD .i64 s0.eV yw.bz) 0) (some (s0,false,c)) (br (cM yw.aY 0) (aR (bj c.x.types yw.aY) fun x0=>br (cD s0.dh.x0 x0.rH) (some (s0,false,c)) (aR (cW c (aj.mk s0.eK (OE .i64 s0.eV yw.bz) (uL.mk (aU .i64 s0.dh.x0 1) s0.dh.x1 s0.dh.x2 s0.dh.x3 s0.dh.x4 s0.dh.x5))) fun r=>some (r.1,true,r.2))) (br (cM yw.aY 1) (aR (bj c.x.types yw.aY) fun x1=>br (cD s0.dh.x1 x1.rH) (some (s0,false,c)) (aR (cW c (aj.mk s0.eK (OE .i64 s0.eV yw.bz) (uL.mk s0.dh.x0 (aU .i64 s0.dh.x1 1) s0.dh.x2 s0.dh.x3 s0.dh.x4 s0.dh.x5))) fun r1=>some (r1.1,true,r1.2))) (br (cM yw.aY 2) (aR (bj c.x.types yw.aY) fun x2=>br (cD s0.dh.x2 x2.rH) (some (s0,false,c)) (aR (cW c (aj.mk s0.eK (OE .i64 s0.eV yw.bz) (uL.mk s0.dh.x0 s0.dh.x1 (aU .i64 s0.dh.x2 1) s0.dh.x3 s0.dh.x4 s0.dh.x5))) fun r2=>some (r2.1,true,r2.2))) (br (cM yw.aY 3) (aR (bj c.x.types yw.aY) fun x3=>br (cD s0.dh.x3 x3.rH) (some (s0,false,c)) (aR (cW c (aj.mk s0.eK (OE .i64 s0.eV yw.bz) (uL.mk s0.dh.x0 s0.dh.x1 s0.dh.x2 (aU .i64 s0.dh.x3 1) s0.dh.x4 s0.dh.x5))) fun r3=>some (r3.1,true,r3.2))) (br (cM yw.aY 4) (aR (bj c.x.types yw.aY) fun x4=>br (cD s0.dh.x4 x4.rH) (some (s0,false,c)) (aR (cW c (aj.mk s0.eK (OE .i64 s0.eV yw.bz) (uL.mk s0.dh.x0 s0.dh.x1 s0.dh.x2 s0.dh.x3 (aU .i64 s0.dh.x4 1) s0.dh.x5))) fun r4=>some (r4.1,true,r4.2))) (br (cM yw.aY 5) (aR (bj c.x.types yw.aY) fun x5=>br (cD s0.dh.x5 x5.rH) (some (s0,false,c)) (aR (cW c (aj.mk s0.eK (OE .i64 s0.eV yw.bz) (uL.mk s0.dh.x0 s0.dh.x1 s0.dh.x2 s0.dh.x3 s0.dh.x4 (aU .i64 s0.dh.x5 1)))) fun r5=>some (r5.1,true,r5.2))) (none)))))))
def ig(c:aw)(s0:aj):Option (aj×aw):=aR (cW c (aj.mk (aU .i64 s0.eK 1) s0.eV s0.dh)) fun r=>some (r.1,r.2)
def ib(part bY c:Int):Option Int:=br ((cD bY 0)&&((bh c 0)||(bh (aU .i64 part bY) c))) (some (aU .i64 part bY)) (some c)
def fw(self:aw→aj→Option (Int×aw))(c:aw)(s0:aj)(x0:List af)(l:List (aj×Int))(x1:ab)(dj:List (List af))(ee:List Int)(ah q x2 v:Int):Option ((List (aj×Int)×ab×List (List af)×List Int×Int×Int×Int×Int)⊕(List (aj×Int)×ab×List (List af)×List Int×Int×Int×Int×Int×Int)):=br (bh v (az x0)) (aR (bj x0 v) fun x3=>aR (ku (aw.mk x1 dj ee l ah) (aj.mk s0.eK s0.eV (uL.mk s0.dh.x0 q s0.dh.x2 s0.dh.x3 s0.dh.x4 s0.dh.x5)) x3) fun r=>br r.2.1 (aR (self r.2.2 r.1) fun r1=>aR (ib x3.kM r1.1 x2) fun r2=>some (.inl (r1.2.eW,r1.2.x,r1.2.dj,r1.2.ee,r1.2.ah,q,r2,(aU .i64 v 1)))) (some (.inl (r.2.2.eW,r.2.2.x,r.2.2.dj,r.2.2.ee,r.2.2.ah,q,x2,(aU .i64 v 1))))) (some (.inr (l,x1,dj,ee,ah,q,s0.dh.x2,s0.dh.x4,x2)))
def gE(self:aw→aj→Option (Int×aw))(c:aw)(s0:aj)(x0:List af)(q1 q2 q3 x5:Int)(l2:List (aj×Int))(x7:ab)(xG:List (List af))(BR:List Int)(xK x8:Int):Option (Int×aw):=some (x8,(aw.mk x7 xG BR (yD aj.Ow l2 (aj.mk s0.eK s0.eV (uL.mk s0.dh.x0 q1 q2 s0.dh.x3 q3 s0.dh.x5)) x8) xK))
def kb(self:aw→aj→Option (Int×aw))(c:aw)(s0:aj):Option (Int×aw):=br (cD s0.eK (az c.x.ah)) (some (0,c)) (br (Kw aj.Ow c.eW s0) (some ((nY aj.Ow c.eW s0 0),c)) (aR (bj c.dj s0.eK) fun x0=>aR (aL (fun s=>fw self c s0 x0 s.1 s.2.1 s.2.2.1 s.2.2.2.1 s.2.2.2.2.1 s.2.2.2.2.2.1 s.2.2.2.2.2.2.1 s.2.2.2.2.2.2.2) (c.eW,c.x,c.dj,c.ee,c.ah,s0.dh.x1,(-1),0)) (fun e0=>(fun l1 x4 u0 yH wq q1 q2 q3 x5=>aR (bj yH s0.eK) fun x6=>br (cD x6 0) (aR (ig (aw.mk x4 u0 yH l1 wq) (aj.mk s0.eK s0.eV (uL.mk s0.dh.x0 q1 q2 s0.dh.x3 q3 s0.dh.x5))) fun r3=>aR (self r3.2 r3.1) fun r4=>aR (ib x6 r4.1 x5) fun r5=>gE self c s0 x0 q1 q2 q3 x5 r4.2.eW r4.2.x r4.2.dj r4.2.ee r4.2.ah r5) (gE self c s0 x0 q1 q2 q3 x5 l1 x4 u0 yH wq x5)) e0.1 e0.2.1 e0.2.2.1 e0.2.2.2.1 e0.2.2.2.2.1 e0.2.2.2.2.2.1 e0.2.2.2.2.2.2.1 e0.2.2.2.2.2.2.2.1 e0.2.2.2.2.2.2.2.2)))
def ic:Nat→aw→aj→Option (Int×aw)|0=>fun _ _=>none|Fz+1=>fun c s0=>kb (ic Fz) c s0
def lW(c:aw)(s0:aj):Option (Int×aw):=ic u9 c s0
def rX(a b:af):Option Int:=aR (dR a.aY b.aY) fun r=>aR (nA a.bz) fun r1=>aR (nA b.bz) fun r2=>aR (dR r1 r2) fun r3=>aR (ot [r,r3]) fun r4=>some r4
def eh(c:aw)(l:List (aj×Int))(l1:List af)(l2:List Int)(dj:List (List af))(ee:List Int)(ah:Int)(r:Int×aw)(x2:List af)(l3:List (aj×Int))(x3:ab)(u0:List (List af))(yH:List Int)(wq:Int)(x4:aj)(v:Int):Option ((List (aj×Int)×ab×List (List af)×List Int×Int×aj×Int)⊕(List (aj×Int)×List af×ab×List (List af)×List Int×Int×aj×Bool)):=br (bh v (az x2)) (aR (bj x2 v) fun x5=>aR (ku (aw.mk x3 u0 yH l3 wq) x4 x5) fun r1=>br r1.2.1 (aR (lW r1.2.2 r1.1) fun r2=>br ((cD r2.1 0)&&(cM (aU .i64 x5.kM r2.1) r.1)) (ef (eO (l1++[x5]).length 88) (some (.inr (r2.2.eW,(l1++[x5]),r2.2.x,r2.2.dj,r2.2.ee,r2.2.ah,r1.1,true)))) (some (.inl (r2.2.eW,r2.2.x,r2.2.dj,r2.2.ee,r2.2.ah,x4,(aU .i64 v 1))))) (some (.inl (r1.2.2.eW,r1.2.2.x,r1.2.2.dj,r1.2.2.ee,r1.2.2.ah,x4,(aU .i64 v 1))))) (some (.inr (l3,l1,x3,u0,yH,wq,x4,false)))
def fX(c:aw)(l:List (aj×Int))(l1:List af)(l2:List Int)(x0:ab)(dj:List (List af))(ee:List Int)(ah:Int)(x1:aj):Option ((List (aj×Int)×List af×List Int×ab×List (List af)×List Int×Int×aj)⊕(List (aj×Int)×List af×List Int×ab×List (List af)×List Int×Int)):=br (bh x1.eK (az x0.ah)) (aR (lW (aw.mk x0 dj ee l ah) x1) fun r=>aR (bj r.2.dj x1.eK) fun x2=>aR (aL (fun s=>eh c l l1 l2 dj ee ah r x2 s.1 s.2.1 s.2.2.1 s.2.2.2.1 s.2.2.2.2.1 s.2.2.2.2.2.1 s.2.2.2.2.2.2) (r.2.eW,r.2.x,r.2.dj,r.2.ee,r.2.ah,x1,0)) (fun e0=>(fun l4 l5 x6 xG BR xK x7 mJ=>br mJ (some (.inl (l4,l5,l2,x6,xG,BR,xK,x7))) (ef (eO (l2++[x7.eK]).length 8) (aR (ig (aw.mk x6 xG BR l4 xK) x7) fun r3=>some (.inl (r3.2.eW,l5,(l2++[x7.eK]),r3.2.x,r3.2.dj,r3.2.ee,r3.2.ah,r3.1))))) e0.1 e0.2.1 e0.2.2.1 e0.2.2.2.1 e0.2.2.2.2.1 e0.2.2.2.2.2.1 e0.2.2.2.2.2.2.1 e0.2.2.2.2.2.2.2)) (some (.inr (l,l1,l2,x0,dj,ee,ah)))
def ik(c:aw)(s0:aj):Option (List af×List Int×aw):=aR (aL (fun s=>fX c s.1 s.2.1 s.2.2.1 s.2.2.2.1 s.2.2.2.2.1 s.2.2.2.2.2.1 s.2.2.2.2.2.2.1 s.2.2.2.2.2.2.2) (c.eW,[],[],c.x,c.dj,c.ee,c.ah,s0)) (fun e0=>(fun l6 l7 l8 x8 Ol Uh OF=>some (l7,l8,(aw.mk x8 Ol Uh l6 OF))) e0.1 e0.2.1 e0.2.2.1 e0.2.2.2.1 e0.2.2.2.2.1 e0.2.2.2.2.2.1 e0.2.2.2.2.2.2)
def lx(l:List af)(c:aw)(r2:Int×aw)(r3:List af×List Int×aw)(l1:List af)(l2:List ay)(v:Int):Option ((List ay×Int)⊕(List ay)):=br (bh v (az l1)) (aR (bj l1 v) fun x1=>ef (eO (l2++[x1.db]).length 64) (some (.inl ((l2++[x1.db]),(aU .i64 v 1))))) (some (.inr l2))
def uT(x0:ab)(l:List af):Option (cT×Int×Int):=aR (rY x0 l) fun r=>opt (r.1) (fun c=>br (cr r.2 0) (some ((cT.mk [] []),0,r.2)) (aR (cW c (aj.mk 0 0 (uL.mk 0 0 0 0 0 0))) fun r1=>aR (lW r1.2 r1.1) fun r2=>br (bh r2.1 0) (some ((cT.mk [] []),0,24)) (aR (ik r2.2 r1.1) fun r3=>aR (y1 rX r3.1) fun l1=>aR (aL (fun s=>lx l c r2 r3 l1 s.1 s.2) ([],0)) (fun l3=>some ((cT.mk l3 r3.2.1),r2.1,0))))) (br (cr r.2 0) (some ((cT.mk [] []),0,r.2)) (none))
def xW(x0:ab):Option (cT×Int×Int):=aR (Fa x0) fun r=>br (cr r.2 0) (some ((cT.mk [] []),0,r.2)) (aR (uT x0 r.1) fun r1=>some (r1.1,r1.2.1,r1.2.2))
def dM(s1 s2:List Int)(v:Int):Option ((Int)⊕((Unit)⊕(Bool))):=br (bh v (az s1)) (aR (bj s1 v) fun x0=>aR (bj s2 v) fun x1=>br (cr x0 x1) (some (.inr (.inr false))) (some (.inl (aU .i64 v 1)))) (some (.inr (.inl ())))
def iX(s1 s2:List Int):Option Bool:=br (cr (az s1) (az s2)) (some false) (aR (aL (fun s=>dM s1 s2 s) 0) (fun e=>iD e (fun(_:Unit)=>some true) (fun r=>some r)))
def fi(s0:List Int):Option (List Int):=br (List.isEmpty s0) (amb (some []) (ef (eO s0.length 8) (some s0))) (ef (eO s0.length 8) (some s0))
def lK(x0:ab)(origin:List Int)(r:ay)(l l1:List Bool)(v:Int):Option ((List Bool×Int)⊕((List Bool)⊕(List ax×Bool))):=br (bh v (az r.aq)) (aR (bj r.aq v) fun x1=>br ((bh x1.aJ 0)||(cD x1.aJ (az l1))) (some (.inr (.inr ([],false)))) (aR (bj l1 x1.aJ) fun x2=>some (.inl ((e_ l1 x1.aJ true),(aU .i64 v 1))))) (some (.inr (.inl l1)))
def lM(x0:ab)(origin:List Int)(l l2:List Bool)(l3:List ax)(v1:Int):Option ((List ax×Int)⊕(List ax)):=br (bh v1 (az x0.ah)) (aR (bj x0.ah v1) fun x3=>aR (bj l2 v1) fun x4=>br x4 (br (cD (dd .i64 (az l3) 1) 0) (aR (bj l3 (dd .i64 (az l3) 1)) fun x5=>aR (bj origin v1) fun x6=>br (cM x5.aJ x6) (aR (rj x5.load x3.load) fun r1=>some (.inl ((e_ l3 (dd .i64 (az l3) 1) (ax.mk x5.aJ r1.1)),(aU .i64 v1 1)))) (aR (fi x3.load) fun r2=>ef (eO (l3++[(ax.mk x6 r2)]).length 32) (some (.inl ((l3++[(ax.mk x6 r2)]),(aU .i64 v1 1)))))) (aR (bj origin v1) fun x7=>aR (fi x3.load) fun r3=>ef (eO (l3++[(ax.mk x7 r3)]).length 32) (some (.inl ((l3++[(ax.mk x7 r3)]),(aU .i64 v1 1)))))) (some (.inl (l3,(aU .i64 v1 1))))) (some (.inr l3))
def wI(x0:ab)(origin:List Int)(r:ay):Option (List ax×Bool):=aR (za (az x0.ah) (az x0.ah) 1 false) fun l=>aR (aL (fun s=>lK x0 origin r l s.1 s.2) (l,0)) (fun e=>iD e (fun l2=>aR (aL (fun s=>lM x0 origin l l2 s.1 s.2) ([],0)) (fun l4=>some (l4,true))) (fun r4=>some r4))
def nH(origin:List Int)(p:cT)(r:ab×List Int×Int)(l:List (List ax))(v:Int):Option ((List (List ax)×Int)⊕((List (List ax))⊕(List (List ax)×Int))):=br (bh v (az p.mB)) (aR (bj p.mB v) fun x1=>aR (wI r.1 origin x1) fun r2=>br r2.2 (ef (eO (l++[r2.1]).length 24) (some (.inl ((l++[r2.1]),(aU .i64 v 1))))) (some (.inr (.inr ([],2))))) (some (.inr (.inl l)))
def yq(x0:ab)(origin:List Int)(p:cT):Option (List (List ax)×Int):=aR (qJ x0) fun r=>br (cr r.2.2 0) (some ([],r.2.2)) (aR (iX origin r.2.1) fun r1=>br r1 (aR (aL (fun s=>nH origin p r s.1 s.2) ([],0)) (fun e=>iD e (fun l1=>some (l1,0)) (fun r3=>some r3))) (some ([],2)))
def c5(n:Int):Option (List ax):=br (bh n 0) (none) (br (dp (dd .i64 n (dd .i64 0 0)) 0) (aR (za (dd .i64 n (dd .i64 0 0)) (dd .i64 n (dd .i64 0 0)) 32 (ax.mk 0 [])) fun l=>aR (wS l 0 0) fun l1=>some l1) (some []))
def cu(iH:List (List ax))(size v:Int):Option ((Int×Int)⊕(Int)):=br (bh v (az iH)) (aR (bj iH v) fun x0=>br (bh (aU .i64 size (az x0)) 0) (none) (some (.inl ((aU .i64 size (az x0)),(aU .i64 v 1))))) (some (.inr size))
def cw(iH:List (List ax))(l:List ax)(v1:Int):Option ((List ax×Int)⊕(List ax)):=br (bh v1 (az iH)) (aR (bj iH v1) fun x1=>ef (eO (l++x1).length 32) (some (.inl ((l++x1),(aU .i64 v1 1))))) (some (.inr l))
def dE(iH:List (List ax)):Option (List ax):=aR (aL (fun s=>cu iH s.1 s.2) (0,0)) (fun ZO=>aR (c5 ZO) fun r=>aR (aL (fun s=>cw iH s.1 s.2) (r,0)) (fun l1=>some l1))
def qK(x0:ab)(l:List (List ax))(l2:List (List Int))(v:Int):Option ((List (List Int)×Int)⊕(List (List Int))):=br (bh v (az x0.ah)) (aR (bj x0.ah v) fun x1=>aR (za (az x1.load) (az x1.load) 8 0) fun l3=>aR (bj l2 v) fun x2=>some (.inl ((e_ l2 v l3),(aU .i64 v 1)))) (some (.inr l2))
def qL(l:List (List ax))(r:List ax)(l5:List (List Int))(v1:Int):Option ((List (List Int)×Int)⊕((List (List Int))⊕(List (List Int)×Int))):=br (bh v1 (az r)) (aR (bj r v1) fun x3=>br ((bh x3.aJ 0)||(cD x3.aJ (az l5))) (some (.inr (.inr ([],2)))) (aR (bj l5 x3.aJ) fun x4=>aR (qt x3.load (az x4)) fun r1=>br r1 (aR (rj x4 x3.load) fun r2=>some (.inl ((e_ l5 x3.aJ r2.1),(aU .i64 v1 1)))) (some (.inr (.inr ([],2)))))) (some (.inr (.inl l5)))
def C1(x0:ab)(l:List (List ax)):Option (List (List Int)×Int):=aR (za (az x0.ah) (az x0.ah) 24 []) fun l1=>aR (aL (fun s=>qK x0 l s.1 s.2) (l1,0)) (fun l4=>aR (dE l) fun r=>aR (aL (fun s=>qL l r s.1 s.2) (l4,0)) (fun e=>iD e (fun l6=>some (l6,0)) (fun r3=>some r3)))
def dO(s0:List Int)(v v1:Int):Option ((Int)⊕((Unit)⊕(Int))):=br (bh v1 (az s0)) (aR (bj s0 v1) fun x0=>br (cM v x0) (some (.inr (.inr v1))) (some (.inl (aU .i64 v1 1)))) (some (.inr (.inl ())))
def lu(s0:List Int)(v:Int):Option Int:=aR (aL (fun s=>dO s0 v s) 0) (fun e=>iD e (fun(_:Unit)=>some (-1)) (fun r=>some r))
def gw(s0:List Int)(v:Int):Option Bool:=aR (lu s0 v) fun r=>some (cD r 0)
def lk(x0:ab)(l:List (List ax))(de:List Int)(v:Int):Option ((Int)⊕((Unit)⊕(Int))):=br (bh v (az de)) (aR (bj de v) fun x1=>br ((bh x1 0)||(cD x1 (az x0.ah))) (some (.inr (.inr 2))) (some (.inl (aU .i64 v 1)))) (some (.inr (.inl ())))
def nI(x0:ab)(l:List (List ax))(de:List Int)(r:List (List Int)×Int)(r1 v1:Int):Option ((Int)⊕((Unit)⊕(Int))):=br (bh v1 (az x0.ah)) (aR (bj x0.ah v1) fun x2=>aR (bj r.1 v1) fun x3=>aR (qA x3 x2.load) fun r2=>br r2 (ef ((0:Int)≤v1) (br (cM (JD .i64 (zd .i64 r1 v1) 1) 1) (aR (gw de v1) fun r3=>br r3 (some (.inl (aU .i64 v1 1))) (aR (qA x2.load x3) fun r4=>br r4 (some (.inl (aU .i64 v1 1))) (some (.inr (.inr 23))))) (some (.inl (aU .i64 v1 1))))) (some (.inr (.inr 17)))) (some (.inr (.inl ())))
def uH(x0:ab)(l:List (List ax))(de:List Int):Option Int:=aR (aL (fun s=>lk x0 l de s) 0) (fun e=>iD e (fun(_:Unit)=>aR (C1 x0 l) fun r=>br (cr r.2 0) (some r.2) (aR (sJ x0) fun r1=>aR (aL (fun s=>nI x0 l de r r1 s) 0) (fun e=>iD e (fun(_:Unit)=>some 0) (fun r5=>some r5)))) (fun r6=>some r6))
def gm(x0:ab)(r1:ab×List Int×Int)(r4:cT×Int×Int)(r6:List (List ax)×Int)(l:List Int)(i:Int)(some_:Bool)(k:Int):Option ((Bool×Int)⊕(Bool)):=br (bh k (az r4.1.de)) (br some_ (some (.inl (true,(aU .i64 k 1)))) (aR (bj r4.1.de k) fun x2=>br (bh x2 (az r1.2.1)) (aR (bj r1.2.1 x2) fun x3=>some (.inl ((cM x3 i),(aU .i64 k 1)))) (some (.inl (false,(aU .i64 k 1)))))) (some (.inr some_))
def fr(x0:ab)(r1:ab×List Int×Int)(r4:cT×Int×Int)(r6:List (List ax)×Int)(l:List Int)(i:Int):Option ((List Int×Int)⊕(List Int)):=br (bh i (az x0.ah)) (aR (bj x0.ah i) fun x1=>aR (aL (fun s=>gm x0 r1 r4 r6 l i s.1 s.2) (x1.off,0)) (fun Ui=>br Ui (ef (eO (l++[i]).length 8) (some (.inl ((l++[i]),(aU .i64 i 1))))) (some (.inl (l,(aU .i64 i 1)))))) (some (.inr l))
def rM(x0:ab):Option Bool:=aR (n9 x0 2) fun r=>br r (aR (qJ x0) fun r1=>br (cr r1.2.2 0) (aR (kY) fun r2=>some r2) (aR (n9 r1.1 3) fun r3=>br r3 (aR (xW r1.1) fun r4=>br (cr r4.2.2 0) (aR (kY) fun r5=>some r5) (aR (yq x0 r1.2.1 r4.1) fun r6=>br ((cr r6.2 0)||(cr (az r6.1) (az r4.1.mB))) (some false) (aR (aL (fun s=>fr x0 r1 r4 r6 s.1 s.2) ([],0)) (fun l1=>aR (uH x0 r6.1 l1) fun r7=>br (cM r7 0) (aR (kY) fun r8=>some r8) (some false))))) (aR (kY) fun r9=>some r9))) (aR (kY) fun My=>some My)
structure b6 where
 place:Int
 xF:Int
 fS:Int
 ed:Int
def lC(x0:ab)(v:ae):Option (a6×Bool):=br ((bh v.aJ 0)||(cD v.aJ (az x0.ah))) (some ((a6.mk 0 0 0 0),false)) (aR (bj x0.ah v.aJ) fun x1=>br v.drop (some (x1.drop,(cD x1.drop.place 0))) (some (x1.pick,(cD x1.pick.place 0))))
def gL(x0:ab)(r:ay)(i:Int):Option ((Int)⊕((Unit)⊕(Bool))):=br (bh i (az r.aq)) (aR (bj r.aq i) fun x1=>aR (lC x0 x1) fun r1=>br r1.2 (some (.inl (aU .i64 i 1))) (some (.inr (.inr false)))) (some (.inr (.inl ())))
def jT(x0:ab)(r:ay):Option Bool:=br (((((bh r.aY 0)||(cD r.aY (az x0.types)))||(bh r.aK 0))||(dp r.aK 4096))||(dp (az r.aq) 20)) (some false) (aR (aL (fun s=>gL x0 r s) 0) (fun e=>iD e (fun(_:Unit)=>some true) (fun r2=>some r2)))
def tQ(t:al)(s0:b6)(yes:Bool):Option b6:=br yes (some (b6.mk s0.place (aU .i64 s0.xF t.bY) 0 s0.ed)) (some s0)
def sM(n:aD)(p:Int):Option Bool:=some ((cD p 0)&&(bh p (az n.aV)))
def ub(n:aD)(aT a8 fN i:Int):Option ((Int)⊕((Unit)⊕(aH×Bool))):=br (bh i (az n.cH)) (aR (bj n.cH i) fun x0=>br (((cM x0.a8 a8)&&(cM x0.fN fN))&&(cM x0.aT aT)) (some (.inr (.inr (x0,true)))) (some (.inl (aU .i64 i 1)))) (some (.inr (.inl ())))
def yA(n:aD)(aT a8 fN:Int):Option (aH×Bool):=aR (aL (fun s=>ub n aT a8 fN s) 0) (fun e=>iD e (fun(_:Unit)=>some ((aH.mk 0 0 0 0 [] []),false)) (fun r=>some r))
def sc(l:List aI)(t i:Int):Option ((Int)⊕((Unit)⊕(Int))):=br (bh (aU .i64 i 1) (az l)) (aR (bj l i) fun x0=>aR (bj l (aU .i64 i 1)) fun x1=>br ((fT x0.t t)&&(bh t x1.t)) (ef (((dd .i64 x1.t x0.t):Int)≠0) (some (.inr (.inr (aU .i64 x0.a (so .i64 (dd .i64 (dd .i64 (aU .i64 (oT .i64 (dd .i64 t x0.t) (dd .i64 x1.a x0.a)) x1.t) x0.t) 1) (dd .i64 x1.t x0.t))))))) (some (.inl (aU .i64 i 1)))) (some (.inr (.inl ())))
def vc(l:List aI)(t:Int):Option Int:=aR (kB l) fun r=>br (((dp (az r) 0)||(bh t 0))||(dp t 1073741824)) (some 0) (aR (aL (fun s=>sc l t s) 0) (fun e=>iD e (fun(_:Unit)=>aR (bj l 0) fun x2=>br (dp t x2.t) (aR (bj l (dd .i64 (az l) 1)) fun x3=>some (dd .i64 (aU .i64 t x3.a) x3.t)) (some (dd .i64 (aU .i64 t x2.a) x2.t))) (fun r1=>some r1)))
def FO(a:aH)(t n i:Int):Option ((Int×Int)⊕(Int)):=br (bh i (az a.ja)) (aR (bj a.ja i) fun x0=>br (fT x0.t t) (some (.inl ((aU .i64 n x0.a),(aU .i64 i 1)))) (some (.inl (n,(aU .i64 i 1))))) (some (.inr n))
def vh(a:aH)(t:Int):Option Int:=aR (vc a.jw t) fun r=>aR (aL (fun s=>FO a t s.1 s.2) (r,0)) (fun n1=>some n1)
def xH(n:aD)(aT a8 fN t:Int):Option (Int×Int×Int):=aR (sM n a8) fun r=>br r (aR (sM n fN) fun r1=>br r1 (br (cM a8 fN) (some (t,0,0)) (aR (yA n aT a8 fN) fun r2=>br r2.2 (aR (vh r2.1 t) fun r3=>some (r3,r2.1.ed,0)) (some (0,0,12)))) (some (0,0,11))) (some (0,0,11))
def FQ(x0:ab)(aT a8 fN t:Int):Option (Int×Int×Bool):=aR (xH x0.bG aT a8 fN t) fun r=>some (r.1,r.2.1,(cM r.2.2 0))
def lB(x0:ab)(t:al)(s0:b6)(fN b9 late:Int):Option (b6×Int):=aR (FQ x0 t.aT s0.place fN s0.xF) fun r=>br r.2.2 (br (dp r.1 b9) (some (s0,late)) (br (dp (dd .i64 (aU .i64 s0.fS r.1) s0.xF) t.iJ) (some (s0,16)) (some ((b6.mk fN r.1 (dd .i64 (aU .i64 s0.fS r.1) s0.xF) (aU .i64 s0.ed r.2.1)),0)))) (some (s0,12))
def wa(x0:ab)(r:ay)(aQ:List Bool)(x1:al)(x2:Bool)(l:List Int)(l1:List bg)(x3:b6)(cF i:Int):Option ((List Int×List bg×b6×Int×Int)⊕((List Int×List bg×b6×Int)⊕(aX×List Int×Int))):=br (bh i (az r.aq)) (aR (bj r.aq i) fun x4=>aR (lC x0 x4) fun r3=>aR (lB x0 x1 x3 r3.1.place r3.1.b9 14) fun r4=>br (cr r4.2 0) (some (.inr (.inr ((aX.mk false 0 [] 0 0),[],r4.2)))) (ef (eO (l++[r4.1.fS]).length 8) (aR (bj aQ (aU .i64 i 1)) fun x5=>aR (tQ x1 (b6.mk r4.1.place (aU .i64 (we r4.1.xF r3.1.bJ) r3.1.dn) r4.1.fS r4.1.ed) x5) fun r5=>ef (eO (l1++[(bg.mk r4.1.xF (we r4.1.xF r3.1.bJ) r5.xF x5)]).length 32) (some (.inl ((l++[r4.1.fS]),(l1++[(bg.mk r4.1.xF (we r4.1.xF r3.1.bJ) r5.xF x5)]),r5,cF,(aU .i64 i 1))))))) (some (.inr (.inl (l,l1,x3,cF))))
def v_(x0:ab)(r:ay)(aQ:List Bool):Option (aX×List Int×Int):=aR (jT x0 r) fun r1=>br ((!r1)||(cr (az aQ) (aU .i64 (az r.aq) 1))) (some ((aX.mk false 0 [] 0 0),[],2)) (aR (bj x0.types r.aY) fun x1=>aR (bj aQ 0) fun x2=>aR (tQ x1 (b6.mk x1.a8 (we x1.bJ r.aK) 0 0) x2) fun r2=>aR (aL (fun s=>wa x0 r aQ x1 x2 s.1 s.2.1 s.2.2.1 s.2.2.2.1 s.2.2.2.2) ([],[],r2,r2.xF,0)) (fun e=>iD e (fun e0=>(fun l2 l3 x6 nN=>aR (lB x0 x1 x6 x1.fN x1.b9 15) fun r6=>br (cr r6.2 0) (some ((aX.mk false 0 [] 0 0),[],r6.2)) (ef (eO (l2++[r6.1.fS]).length 8) (some ((aX.mk x2 nN l3 r6.1.xF r6.1.ed),(l2++[r6.1.fS]),0)))) e0.1 e0.2.1 e0.2.2.1 e0.2.2.2) (fun r7=>some r7)))
def kX(bz i:Int):Option Bool:=br (((cD bz 0)&&(cD i 0))&&(fT i 62)) (ef ((0:Int)≤(Ax .u64 i)) (some (cM (uJ (zd .i64 bz (Ax .u64 i)) 2) 1))) (some false)
def sf(r:ay)(bz i:Int):Option ((Int×Int)⊕((Int)⊕(Int×Int))):=br (bh i (az r.aq)) (aR (bj r.aq i) fun x0=>br ((bh x0.aJ 0)||(dp x0.aJ 62)) (some (.inr (.inr (0,2)))) (aR (kX bz x0.aJ) fun r1=>br r1 (some (.inl (bz,(aU .i64 i 1)))) (ef ((0:Int)≤(Ax .u64 x0.aJ)) (some (.inl ((aU .i64 bz (K2 .i64 1 (Ax .u64 x0.aJ))),(aU .i64 i 1))))))) (some (.inr (.inl bz)))
def vX(r:ay):Option (Int×Int):=aR (aL (fun s=>sf r s.1 s.2) (0,0)) (fun e=>iD e (fun Gs=>some (Gs,0)) (fun r2=>some r2))
def jR(l:List ae)(v:ae)(i:Int):Option ((Int)⊕((Unit)⊕(Int))):=br (bh i (az l)) (aR (bj l i) fun x0=>br (cM x0.aJ v.aJ&&(Im x0.drop v.drop&&true)) (some (.inr (.inr i))) (some (.inl (aU .i64 i 1)))) (some (.inr (.inl ())))
def gJ(l:List ae)(v:ae):Option Int:=aR (aL (fun s=>jR l v s) 0) (fun e=>iD e (fun(_:Unit)=>some (-1)) (fun r=>some r))
def oP(x0:ab)(aJ:Int)(l:List ae):Option (List ae):=aR (bj x0.ah aJ) fun x2=>br (cr x2.drop.place (-1)) (ef (eO (l++[(ae.mk aJ true)]).length 16) (some (l++[(ae.mk aJ true)]))) (some l)
def vY(x0:ab)(aJ:Int):Option (List ae):=aR (bj x0.ah aJ) fun x1=>br (cr x1.pick.place (-1)) (ef (eO [(ae.mk aJ false)].length 16) (oP x0 aJ [(ae.mk aJ false)])) (oP x0 aJ [])
def gK(l some_:List ae)(i:Int):Option ((Int)⊕((Unit)⊕(Bool))):=br (bh i (az some_)) (aR (bj some_ i) fun x0=>aR (gJ l x0) fun r=>br (bh r 0) (some (.inr (.inr false))) (some (.inl (aU .i64 i 1)))) (some (.inr (.inl ())))
def tk(l some_:List ae):Option Bool:=aR (aL (fun s=>gK l some_ s) 0) (fun e=>iD e (fun(_:Unit)=>some true) (fun r1=>some r1))
def iR(x0:ab)(l:List ae)(i:Int):Option ((Int)⊕((Unit)⊕(Bool))):=br (bh i (az l)) (aR (bj l i) fun x1=>aR (vY x0 x1.aJ) fun r=>aR (gJ r x1) fun r1=>br (bh r1 0) (some (.inr (.inr false))) (aR (tk l r) fun r2=>br r2 (br (cM (az r) 2) (aR (bj r 0) fun x2=>aR (gJ l x2) fun r3=>aR (bj r 1) fun x3=>aR (gJ l x3) fun r4=>br (dp r3 r4) (some (.inr (.inr false))) (some (.inl (aU .i64 i 1)))) (some (.inl (aU .i64 i 1)))) (some (.inr (.inr false))))) (some (.inr (.inl ())))
def v8(x0:ab)(l:List ae):Option Bool:=aR (aL (fun s=>iR x0 l s) 0) (fun e=>iD e (fun(_:Unit)=>some true) (fun r5=>some r5))
def jS(x0:ab)(bz i:Int):Option ((Int)⊕((Unit)⊕(Bool))):=br (bh i (az x0.bV)) (aR (bj x0.bV i) fun x1=>aR (kX bz x1.x0) fun r=>br r (aR (kX bz x1.x1) fun r1=>br r1 (some (.inr (.inr false))) (some (.inl (aU .i64 i 1)))) (some (.inl (aU .i64 i 1)))) (some (.inr (.inl ())))
def xp(x0:ab)(bz:Int):Option Bool:=aR (aL (fun s=>jS x0 bz s) 0) (fun e=>iD e (fun(_:Unit)=>some true) (fun r2=>some r2))
def iQ(x0:ab)(bz:Int)(l:List ae)(i:Int)(x1:aA)(j k:Int):Option ((Int)⊕((Unit)⊕(Bool))):=br (bh k j) (aR (bj l j) fun x2=>br (cM x2.aJ x1.x0) (aR (bj l k) fun x3=>br (cM x3.aJ x1.x1) (some (.inr (.inr false))) (some (.inl (aU .i64 k 1)))) (some (.inl (aU .i64 k 1)))) (some (.inr (.inl ())))
def iP(x0:ab)(bz:Int)(l:List ae)(i:Int)(x1:aA)(j:Int):Option ((Int)⊕((Unit)⊕(Bool))):=br (bh j (az l)) (aR (aL (fun s=>iQ x0 bz l i x1 j s) 0) (fun e=>iD e (fun(_:Unit)=>some (.inl (aU .i64 j 1))) (fun r2=>some (.inr (.inr r2))))) (some (.inr (.inl ())))
def iO(x0:ab)(bz:Int)(l:List ae)(i:Int):Option ((Int)⊕((Unit)⊕(Bool))):=br (bh i (az x0.before)) (aR (bj x0.before i) fun x1=>aR (kX bz x1.x1) fun r=>br r (aR (kX bz x1.x0) fun r1=>br r1 (aR (aL (fun s=>iP x0 bz l i x1 s) 0) (fun e=>iD e (fun(_:Unit)=>some (.inl (aU .i64 i 1))) (fun r3=>some (.inr (.inr r3))))) (some (.inr (.inr false)))) (some (.inl (aU .i64 i 1)))) (some (.inr (.inl ())))
def vZ(x0:ab)(bz:Int)(l:List ae):Option Bool:=aR (aL (fun s=>iO x0 bz l s) 0) (fun e=>iD e (fun(_:Unit)=>some true) (fun r4=>some r4))
def jO(x0:ab)(r:ay)(i:Int):Option ((Int)⊕((Unit)⊕(Int))):=br (bh i (az r.aq)) (aR (bj r.aq i) fun x1=>br (bh x1.aJ 0) (some (.inr (.inr 2))) (br (cD x1.aJ (az x0.ah)) (some (.inr (.inr 2))) (some (.inl (aU .i64 i 1))))) (some (.inr (.inl ())))
def jP(x0:ab)(r:ay)(r1:Int×Int)(i1:Int):Option ((Int)⊕((Unit)⊕(Int))):=br (bh i1 (az r.aq)) (aR (bj r.aq i1) fun x2=>aR (bj x0.ah x2.aJ) fun x3=>br x3.off (some (.inr (.inr 9))) (some (.inl (aU .i64 i1 1)))) (some (.inr (.inl ())))
def jQ(x0:ab)(r:ay)(r1:Int×Int)(i2:Int):Option ((Int)⊕((Unit)⊕(Int))):=br (bh i2 (az r.aq)) (aR (bj r.aq i2) fun x4=>aR (gJ r.aq x4) fun r2=>br (cr r2 i2) (some (.inr (.inr 6))) (some (.inl (aU .i64 i2 1)))) (some (.inr (.inl ())))
def sN(x0:ab)(r:ay):Option Int:=aR (aL (fun s=>jO x0 r s) 0) (fun e=>iD e (fun(_:Unit)=>aR (vX r) fun r1=>br ((cr r1.2 0)||(cM (az r.aq) 0)) (some 2) (aR (aL (fun s=>jP x0 r r1 s) 0) (fun e=>iD e (fun(_:Unit)=>aR (aL (fun s=>jQ x0 r r1 s) 0) (fun e=>iD e (fun(_:Unit)=>aR (v8 x0 r.aq) fun r3=>br r3 (aR (xp x0 r1.1) fun r4=>br r4 (aR (vZ x0 r1.1 r.aq) fun r5=>br r5 (some 0) (some 21)) (some 20)) (some 19)) (fun r6=>some r6))) (fun r7=>some r7)))) (fun r8=>some r8))
def nq(t:al)(cG bit:Int):Option ((Int)⊕((Unit)⊕(Bool))):=br (dp bit 0) (ef ((bit:Int)≠0) (br (cM (uJ (so .i64 cG bit) 2) 1) (ef ((bit:Int)≠0) (br (cM (uJ (so .i64 t.cG bit) 2) 0) (some (.inr (.inr false))) (some (.inl (oT .i64 bit 2))))) (some (.inl (oT .i64 bit 2))))) (some (.inr (.inl ())))
def tO(t:al)(cG:Int):Option Bool:=br ((bh t.cG 0)||(bh cG 0)) (some false) (aR (aL (fun s=>nq t cG s) 1) (fun e=>iD e (fun(_:Unit)=>some true) (fun r=>some r)))
def kA(l:List (List Int))(cO i:Int):Option ((Int)⊕((Unit)⊕(Bool))):=br (bh i (az l)) (aR (bj l i) fun x0=>br (cr (az x0) cO) (some (.inr (.inr false))) (some (.inl (aU .i64 i 1)))) (some (.inr (.inl ())))
def yz(l:List (List Int))(cO:Int):Option Bool:=br ((bh cO 0)||(dp cO 3)) (some false) (aR (aL (fun s=>kA l cO s) 0) (fun e=>iD e (fun(_:Unit)=>some true) (fun r=>some r)))
def jr(l:List (List Int))(cO:Int)(l1:List Int)(d n i:Int):Option ((Int×Int)⊕(Int)):=br (bh i (az l)) (aR (bj l i) fun x0=>aR (bj x0 d) fun x1=>some (.inl ((aU .i64 n x1),(aU .i64 i 1)))) (some (.inr n))
def jq(l:List (List Int))(cO:Int)(l1:List Int)(d:Int):Option ((List Int×Int)⊕(List Int)):=br (bh d cO) (aR (aL (fun s=>jr l cO l1 d s.1 s.2) (0,0)) (fun n1=>ef (eO (l1++[n1]).length 8) (some (.inl ((l1++[n1]),(aU .i64 d 1)))))) (some (.inr l1))
def zT(l:List (List Int))(cO:Int):Option (List Int×Int):=aR (yz l cO) fun r=>br r (aR (aL (fun s=>jq l cO s.1 s.2) ([],0)) (fun l2=>some (l2,0))) (some ([],2))
def yC(x0:ab):Option Int:=br (cM (az x0.types) 0) (some 0) (aR (bj x0.types 0) fun x1=>some (az x1.cap))
def gV(x0:ab)(l:List ae)(n:Int)(l1:List (List Int))(i:Int)(on_ there:Bool)(k:Int):Option ((Bool×Bool×Int)⊕(Bool×Bool)):=br (bh k (az l)) (aR (bj l k) fun x2=>br (cr x2.aJ i) (some (.inl (on_,there,(aU .i64 k 1)))) (br (bh k n) (some (.inl ((!x2.drop),true,(aU .i64 k 1)))) (some (.inl (on_,true,(aU .i64 k 1)))))) (some (.inr (on_,there)))
def gU(x0:ab)(l:List ae)(n:Int)(l1:List (List Int))(i:Int):Option ((List (List Int)×Int)⊕(List (List Int))):=br (bh i (az x0.ah)) (aR (bj x0.ah i) fun x1=>aR (aL (fun s=>gV x0 l n l1 i s.1 s.2.1 s.2.2) ((bh x1.pick.place 0),false,0)) (fun e0=>(fun Qna Qir=>br (Qna&&Qir) (aR (bj x0.ah i) fun x3=>ef (eO (l1++[x3.load]).length 24) (some (.inl ((l1++[x3.load]),(aU .i64 i 1))))) (some (.inl (l1,(aU .i64 i 1))))) e0.1 e0.2)) (some (.inr l1))
def xt(x0:ab)(l:List ae)(n:Int):Option (List Int×Int):=aR (aL (fun s=>gU x0 l n s.1 s.2) ([],0)) (fun l2=>aR (yC x0) fun r=>aR (zT l2 r) fun r1=>some (r1.1,r1.2))
def gT(x0:ab)(r:ay)(l:List (List Int))(n:Int):Option ((List (List Int)×Int)⊕((List (List Int))⊕(List (List Int)×Int))):=br (fT n (az r.aq)) (aR (xt x0 r.aq n) fun r2=>br (cr r2.2 0) (some (.inr (.inr ([],r2.2)))) (ef (eO (l++[r2.1]).length 24) (some (.inl ((l++[r2.1]),(aU .i64 n 1)))))) (some (.inr (.inl l)))
def xq(x0:ab)(r:ay):Option (List (List Int)×Int):=aR (sN x0 r) fun r1=>br (cr r1 0) (some ([],r1)) (aR (aL (fun s=>gT x0 r s.1 s.2) ([],0)) (fun e=>iD e (fun l1=>some (l1,0)) (fun r3=>some r3)))
def kz(a capacity:List Int)(i:Int):Option ((Int)⊕((Unit)⊕(Bool))):=br (bh i (az a)) (aR (bj a i) fun x0=>aR (bj capacity i) fun x1=>br (dp x0 x1) (some (.inr (.inr false))) (some (.inl (aU .i64 i 1)))) (some (.inr (.inl ())))
def yy(a capacity:List Int):Option Bool:=br (cr (az a) (az capacity)) (some false) (aR (aL (fun s=>kz a capacity s) 0) (fun e=>iD e (fun(_:Unit)=>some true) (fun r=>some r)))
def kD(x0:ab)(r:ay)(r1:List (List Int)×Int)(i:Int):Option ((Int)⊕((Unit)⊕(Int))):=br (bh i (az r1.1)) (aR (bj r1.1 i) fun x1=>aR (bj x0.types r.aY) fun x2=>aR (yy x1 x2.cap) fun r2=>br r2 (some (.inl (aU .i64 i 1))) (some (.inr (.inr 17)))) (some (.inr (.inl ())))
def yB(x0:ab)(r:ay):Option Int:=br ((bh r.aY 0)||(cD r.aY (az x0.types))) (some 2) (aR (xq x0 r) fun r1=>br (cr r1.2 0) (some r1.2) (aR (aL (fun s=>kD x0 r r1 s) 0) (fun e=>iD e (fun(_:Unit)=>some 0) (fun r3=>some r3))))
def nv(x0:ab)(r:ay)(aQ:List Bool):Option (aX×Int):=aR (v_ x0 r aQ) fun r1=>some (r1.1,r1.2.2)
def uf(n:Int)(l:List Bool)(i:Int):Option ((List Bool×Int)⊕((Unit)⊕(List Bool×Bool))):=br (cD i n) (aR (bj l i) fun x0=>br x0 (some (.inl ((e_ l i false),(dd .i64 i 1)))) (some (.inr (.inr ((e_ l i true),true))))) (some (.inr (.inl ())))
def qT(aQ:List Bool)(n:Int):Option (List Bool×Bool):=ef (eO aQ.length 1) (aR (aL (fun s=>uf n s.1 s.2) (aQ,(dd .i64 (az aQ) 1))) (fun e=>iD e (fun(_:Unit)=>some ([],false)) (fun r=>some r)))
def ud(x0:ab)(r:ay)(l:List Bool)(r2:aX×Int)(aQ P_:List Bool)(x2:aX)(Qg4:Bool):Option ((List Bool×aX×List Bool×Bool×Bool)⊕(aX×Bool)):=aR (qT P_ (az aQ)) fun r5=>some (.inl (aQ,x2,r5.1,Qg4,r5.2))
def ue(x0:ab)(r:ay)(l:List Bool)(r2:aX×Int)(aQ:List Bool)(x1:aX)(P_:List Bool)(mJ more:Bool):Option ((List Bool×aX×List Bool×Bool×Bool)⊕(aX×Bool)):=br more (aR (nv x0 (ay.mk r.aY r.aK aQ r.aq) P_) fun r4=>br ((cM r4.2 0)&&((!mJ)||(bh r4.1.oY x1.oY))) (ud x0 r l r2 aQ P_ r4.1 true) (ud x0 r l r2 aQ P_ x1 mJ)) (some (.inr (x1,mJ)))
def tP(x0:ab)(r:ay):Option (aX×Int):=aR (jT x0 r) fun r1=>br ((!r1)||(dp (az r.aQ) (aU .i64 (az r.aq) 1))) (some ((aX.mk false 0 [] 0 0),2)) (aR (za (aU .i64 (az r.aq) 1) (aU .i64 (az r.aq) 1) 1 false) fun l=>aR (nv x0 r (He l r.aQ)) fun r2=>aR (qT (He l r.aQ) (az r.aQ)) fun r3=>aR (aL (fun s=>ue x0 r l r2 s.1 s.2.1 s.2.2.1 s.2.2.2.1 s.2.2.2.2) (r.aQ,r2.1,r3.1,(cM r2.2 0),r3.2)) (fun e0=>(fun x3 Qg5=>br Qg5 (some (x3,0)) (some ((aX.mk false 0 [] 0 0),r2.2))) e0.1 e0.2))
def iS(l:List ae)(eK i:Int):Option ((Int)⊕((Unit)⊕(Bool))):=br (bh i eK) (aR (bj l i) fun x0=>aR (bj l eK) fun x1=>br (cM x0.aJ x1.aJ) (some (.inr (.inr false))) (some (.inl (aU .i64 i 1)))) (some (.inr (.inl ())))
def wc(l:List ae)(eK:Int):Option Bool:=aR (aL (fun s=>iS l eK s) 0) (fun e=>iD e (fun(_:Unit)=>some true) (fun r=>some r))
def tn(x0:ab)(r:ay)(s0:aX)(x1:al)(fY i:Int)(x2:ae)(DO:Int):Option ((Int×Int×Int)⊕(Int×Int)):=aR (bj x0.ah x2.aJ) fun x4=>br (cr x4.b8 (-1)) (br (cr x4.b8 r.aY) (some (.inl (DO,(aU .i64 fY 1),(aU .i64 i 1)))) (some (.inl (DO,fY,(aU .i64 i 1))))) (some (.inl (DO,fY,(aU .i64 i 1))))
def gW(x0:ab)(r:ay)(s0:aX)(x1:al)(im fY i:Int):Option ((Int×Int×Int)⊕(Int×Int)):=br (bh i (az r.aq)) (aR (bj r.aq i) fun x2=>br ((bh x2.aJ 0)||(cD x2.aJ (az x0.ah))) (some (.inl (im,fY,(aU .i64 i 1)))) (aR (wc r.aq i) fun r1=>br r1 (aR (bj x0.ah x2.aJ) fun x3=>br (cr x3.now (-1)) (br (cr x3.now r.aY) (tn x0 r s0 x1 fY i x2 (aU .i64 im 1)) (tn x0 r s0 x1 fY i x2 im)) (br (cr x3.b8 (-1)) (br (cr x3.b8 r.aY) (some (.inl (im,(aU .i64 fY 1),(aU .i64 i 1)))) (some (.inl (im,fY,(aU .i64 i 1))))) (some (.inl (im,fY,(aU .i64 i 1)))))) (some (.inl (im,fY,(aU .i64 i 1)))))) (some (.inr (im,fY)))
def xu(x0:ab)(r:ay)(s0:aX):Option bH:=br ((bh r.aY 0)||(cD r.aY (az x0.types))) (some (bH.mk 0 0 0 0)) (aR (bj x0.types r.aY) fun x1=>aR (aL (fun s=>gW x0 r s0 x1 s.1 s.2.1 s.2.2) (0,0,0)) (fun e0=>(fun Mn Mw=>some (bH.mk (aU .i64 (aU .i64 x1.rK (oT .i64 x1.iY s0.ed)) (oT .i64 x1.iZ (dd .i64 s0.oY x1.bJ))) Mn Mw (oT .i64 (so .i64 (dd .i64 s0.oY x1.bJ) 64) (so .i64 (dd .i64 s0.oY x1.bJ) 64)))) e0.1 e0.2))
def fD(x0:ab)(r:ay)(i:Int):Option ((Int)⊕((Unit)⊕(aX×bH×Int))):=br (bh i (az r.aq)) (aR (bj x0.types r.aY) fun x1=>aR (bj r.aq i) fun x2=>aR (bj x0.ah x2.aJ) fun x3=>aR (tO x1 x3.cG) fun r2=>br r2 (some (.inl (aU .i64 i 1))) (some (.inr (.inr ((aX.mk false 0 [] 0 0),(bH.mk 0 0 0 0),18))))) (some (.inr (.inl ())))
def pz(x0:ab)(r:ay):Option (aX×bH×Int):=br ((bh r.aY 0)||(cD r.aY (az x0.types))) (some ((aX.mk false 0 [] 0 0),(bH.mk 0 0 0 0),2)) (aR (sN x0 r) fun r1=>br (cr r1 0) (some ((aX.mk false 0 [] 0 0),(bH.mk 0 0 0 0),r1)) (aR (aL (fun s=>fD x0 r s) 0) (fun e=>iD e (fun(_:Unit)=>aR (yB x0 r) fun r3=>br (cr r3 0) (some ((aX.mk false 0 [] 0 0),(bH.mk 0 0 0 0),r3)) (aR (tP x0 r) fun r4=>br (cr r4.2 0) (some ((aX.mk false 0 [] 0 0),(bH.mk 0 0 0 0),r4.2)) (aR (xu x0 r r4.1) fun r5=>some (r4.1,r5,0)))) (fun r6=>some r6))))
def CC(s0:bH):Option Bool:=some ((((((((cD s0.uO 0)&&(fT s0.uO 1073741824))&&(cD s0.im 0))&&(fT s0.im 15))&&(cD s0.fY 0))&&(fT s0.fY 15))&&(cD s0.GL 0))&&(fT s0.GL 65535))
def wb(s0:bH):Option (Int×Int):=br ((((bh s0.uO 0)||(bh s0.im 0))||(bh s0.fY 0))||(bh s0.GL 0)) (some (0,2)) (aR (CC s0) fun r=>br r (some ((aU .i64 (oT .i64 (aU .i64 (oT .i64 (aU .i64 (oT .i64 s0.uO 16) s0.im) 16) s0.fY) 65536) s0.GL),0)) (some (0,4)))
def xw(x0:ab)(r:ay):Option (Int×Int):=aR (pz x0 r) fun r1=>br (cr r1.2.2 0) (some (0,r1.2.2)) (aR (wb r1.2.1) fun r2=>some (r2.1,r2.2))
section
open Go.RowKit
variable {N : Nat}
theorem Qh6:iI Tryz.prog N 9 (MC 1 bO (fun s:ByteArray=>s.size≤N) (fun _=>rfl)):=Qh2 Tryz.underlying9 (by kernel_rfl)
theorem Qkj:iI Tryz.prog N 22 (MC 1 (fun l:List ByteArray=>[.sl false 1 (l.map bO)]) (fun l:List (ByteArray)=>l.length≤N∧∀x∈l,(fun s:ByteArray=>s.size≤N) x) (fun _=>rfl)):=z8 Tryz.underlying22 (by kernel_rfl) Qh6 (by decide)
theorem wo:iI Tryz.prog N 3 (MC 1 ai FG (fun _=>rfl)):=Qh1 Tryz.underlying3 (by kernel_rfl)
def aI.ok(N:Nat)(x:aI):Prop:=FG x.t∧FG x.a∧True
theorem Qkq:iI Tryz.prog N 76 (MC 2 aI.enc (aI.ok N) (fun _=>rfl)):=xz Tryz.underlying76 (by kernel_rfl) (.cons rfl wo (.cons rfl wo .nil)) rfl (HE.pair HE.rd (HE.pair HE.rd HE.unit)) (fun a=>⟨a.1,a.2.1⟩) (fun _=>rfl) (fun _ h=>h)
theorem QgA:iI Tryz.prog N 77 (MC 1 (fun l:List aI=>[.sl false 2 (l.map aI.enc)]) (fun l:List (aI)=>l.length≤N∧∀x∈l,(aI.ok N) x) (fun _=>rfl)):=z8 Tryz.underlying77 (by kernel_rfl) Qkq (by decide)
def aH.ok(N:Nat)(x:aH):Prop:=FG x.a8∧FG x.fN∧FG x.aT∧FG x.ed∧(fun l:List (aI)=>l.length≤N∧∀x∈l,(aI.ok N) x) x.jw∧(fun l:List (aI)=>l.length≤N∧∀x∈l,(aI.ok N) x) x.ja∧True
theorem Qh4:iI Tryz.prog N 150 (MC 6 aH.enc (aH.ok N) (fun _=>rfl)):=xz Tryz.underlying150 (by kernel_rfl) (.cons rfl wo (.cons rfl wo (.cons rfl wo (.cons rfl wo (.cons rfl QgA (.cons rfl QgA .nil)))))) rfl (HE.pair HE.rd (HE.pair HE.rd (HE.pair HE.rd (HE.pair HE.rd (HE.pair HE.rd (HE.pair HE.rd HE.unit)))))) (fun a=>⟨a.1,a.2.1,a.2.2.1,a.2.2.2.1,a.2.2.2.2.1,a.2.2.2.2.2.1⟩) (fun _=>rfl) (fun _ h=>h)
theorem Qkk:iI Tryz.prog N 23 (MC 1 (fun l:List aH=>[.sl false 6 (l.map aH.enc)]) (fun l:List (aH)=>l.length≤N∧∀x∈l,(aH.ok N) x) (fun _=>rfl)):=z8 Tryz.underlying23 (by kernel_rfl) Qh4 (by decide)
def aD.ok(N:Nat)(x:aD):Prop:=(fun l:List (ByteArray)=>l.length≤N∧∀x∈l,(fun s:ByteArray=>s.size≤N) x) x.aV∧(fun l:List (aH)=>l.length≤N∧∀x∈l,(aH.ok N) x) x.cH∧True
theorem Qkl:iI Tryz.prog N 25 (MC 2 aD.enc (aD.ok N) (fun _=>rfl)):=xz Tryz.underlying25 (by kernel_rfl) (.cons rfl Qkj (.cons rfl Qkk .nil)) rfl (HE.pair HE.rd (HE.pair HE.rd HE.unit)) (fun a=>⟨a.1,a.2.1⟩) (fun _=>rfl) (fun _ h=>h)
theorem Qgy:iI Tryz.prog N 36 (MC 1 (fun l:List Int=>[.sl false 1 (l.map ai)]) (fun l:List (Int)=>l.length≤N∧∀x∈l,FG x) (fun _=>rfl)):=z8 Tryz.underlying36 (by kernel_rfl) wo (by decide)
def al.ok(N:Nat)(x:al):Prop:=(fun s:ByteArray=>s.size≤N) x.name∧FG x.rH∧FG x.a8∧FG x.fN∧(fun l:List (Int)=>l.length≤N∧∀x∈l,FG x) x.cap∧FG x.cG∧FG x.aT∧FG x.bJ∧FG x.b9∧FG x.iJ∧FG x.bY∧FG x.rK∧FG x.iY∧FG x.iZ∧True
theorem Qkr:iI Tryz.prog N 92 (MC 14 al.enc (al.ok N) (fun _=>rfl)):=xz Tryz.underlying92 (by kernel_rfl) (.cons rfl Qh6 (.cons rfl wo (.cons rfl wo (.cons rfl wo (.cons rfl Qgy (.cons rfl wo (.cons rfl wo (.cons rfl wo (.cons rfl wo (.cons rfl wo (.cons rfl wo (.cons rfl wo (.cons rfl wo (.cons rfl wo .nil)))))))))))))) rfl (HE.pair HE.rd (HE.pair HE.rd (HE.pair HE.rd (HE.pair HE.rd (HE.pair HE.rd (HE.pair HE.rd (HE.pair HE.rd (HE.pair HE.rd (HE.pair HE.rd (HE.pair HE.rd (HE.pair HE.rd (HE.pair HE.rd (HE.pair HE.rd (HE.pair HE.rd HE.unit)))))))))))))) (fun a=>⟨a.1,a.2.1,a.2.2.1,a.2.2.2.1,a.2.2.2.2.1,a.2.2.2.2.2.1,a.2.2.2.2.2.2.1,a.2.2.2.2.2.2.2.1,a.2.2.2.2.2.2.2.2.1,a.2.2.2.2.2.2.2.2.2.1,a.2.2.2.2.2.2.2.2.2.2.1,a.2.2.2.2.2.2.2.2.2.2.2.1,a.2.2.2.2.2.2.2.2.2.2.2.2.1,a.2.2.2.2.2.2.2.2.2.2.2.2.2.1⟩) (fun _=>rfl) (fun _ h=>h)
theorem Qkm:iI Tryz.prog N 26 (MC 1 (fun l:List al=>[.sl false 14 (l.map al.enc)]) (fun l:List (al)=>l.length≤N∧∀x∈l,(al.ok N) x) (fun _=>rfl)):=z8 Tryz.underlying26 (by kernel_rfl) Qkr (by decide)
def a6.ok(N:Nat)(x:a6):Prop:=FG x.place∧FG x.bJ∧FG x.b9∧FG x.dn∧True
theorem Qgz:iI Tryz.prog N 67 (MC 4 a6.enc (a6.ok N) (fun _=>rfl)):=xz Tryz.underlying67 (by kernel_rfl) (.cons rfl wo (.cons rfl wo (.cons rfl wo (.cons rfl wo .nil)))) rfl (HE.pair HE.rd (HE.pair HE.rd (HE.pair HE.rd (HE.pair HE.rd HE.unit)))) (fun a=>⟨a.1,a.2.1,a.2.2.1,a.2.2.2.1⟩) (fun _=>rfl) (fun _ h=>h)
theorem Qnb:iI Tryz.prog N 4 (MC 1 cJ (fun _:Bool=>True) (fun _=>rfl)):=Qfb Tryz.underlying4 (by kernel_rfl)
def ag.ok(N:Nat)(x:ag):Prop:=(fun s:ByteArray=>s.size≤N) x.name∧(fun l:List (Int)=>l.length≤N∧∀x∈l,FG x) x.load∧(a6.ok N) x.pick∧(a6.ok N) x.drop∧FG x.cG∧FG x.eH∧FG x.split∧FG x.b8∧FG x.now∧(fun _:Bool=>True) x.off∧True
theorem Qkp:iI Tryz.prog N 69 (MC 16 ag.enc (ag.ok N) (fun _=>rfl)):=xz Tryz.underlying69 (by kernel_rfl) (.cons rfl Qh6 (.cons rfl Qgy (.cons rfl Qgz (.cons rfl Qgz (.cons rfl wo (.cons rfl wo (.cons rfl wo (.cons rfl wo (.cons rfl wo (.cons rfl Qnb .nil)))))))))) rfl (HE.pair HE.rd (HE.pair HE.rd (HE.pair HE.rd (HE.pair HE.rd (HE.pair HE.rd (HE.pair HE.rd (HE.pair HE.rd (HE.pair HE.rd (HE.pair HE.rd (HE.pair HE.rd HE.unit)))))))))) (fun a=>⟨a.1,a.2.1,a.2.2.1,a.2.2.2.1,a.2.2.2.2.1,a.2.2.2.2.2.1,a.2.2.2.2.2.2.1,a.2.2.2.2.2.2.2.1,a.2.2.2.2.2.2.2.2.1,a.2.2.2.2.2.2.2.2.2.1⟩) (fun _=>rfl) (fun _ h=>h)
theorem Qkn:iI Tryz.prog N 27 (MC 1 (fun l:List ag=>[.sl false 16 (l.map ag.enc)]) (fun l:List (ag)=>l.length≤N∧∀x∈l,(ag.ok N) x) (fun _=>rfl)):=z8 Tryz.underlying27 (by kernel_rfl) Qkp (by decide)
def aA.ok(N:Nat)(x:aA):Prop:=FG x.x0∧FG x.x1
theorem Qh5:iI Tryz.prog N 196 (MC 2 aA.enc (aA.ok N) (fun _=>rfl)):=QaR Tryz.underlying196 (by kernel_rfl) wo rfl (fun a b=>⟨a,b⟩) (fun _ _=>rfl) (fun _ _ h h2=>⟨h,h2⟩)
theorem Qgx:iI Tryz.prog N 28 (MC 1 (fun l:List aA=>[.sl false 2 (l.map aA.enc)]) (fun l:List (aA)=>l.length≤N∧∀x∈l,(aA.ok N) x) (fun _=>rfl)):=z8 Tryz.underlying28 (by kernel_rfl) Qh5 (by decide)
def ab.ok(N:Nat)(x:ab):Prop:=(aD.ok N) x.bG∧(fun l:List (al)=>l.length≤N∧∀x∈l,(al.ok N) x) x.types∧(fun l:List (ag)=>l.length≤N∧∀x∈l,(ag.ok N) x) x.ah∧(fun l:List (aA)=>l.length≤N∧∀x∈l,(aA.ok N) x) x.bV∧(fun l:List (aA)=>l.length≤N∧∀x∈l,(aA.ok N) x) x.before∧True
theorem Qko:iI Tryz.prog N 30 (MC 6 ab.enc (ab.ok N) (fun _=>rfl)):=xz Tryz.underlying30 (by kernel_rfl) (.cons rfl Qkl (.cons rfl Qkm (.cons rfl Qkn (.cons rfl Qgx (.cons rfl Qgx .nil))))) rfl (HE.pair HE.rd (HE.pair HE.rd (HE.pair HE.rd (HE.pair HE.rd (HE.pair HE.rd HE.unit))))) (fun a=>⟨a.1,a.2.1,a.2.2.1,a.2.2.2.1,a.2.2.2.2.1⟩) (fun _=>rfl) (fun _ h=>h)
end
end
end Go.Proofs.YtkcilfpbgjjjbaaGreatDoor
