/- Part MT. -/
import Derived.Test.YtbilkblifgaflaaGreatDoorMA
import Derived.Test.YtbilkblifgaflaaGreatDoorMC
set_option linter.unusedSimpArgs false
set_option linter.unusedVariables false
set_option linter.unusedSectionVars false
namespace Go.Proofs.YtbilkblifgaflaaGreatDoor
noncomputable section
def ax(n:Int):List Lf:=[.int .i64 n]
def Qdy(n:Int):List Lf:=[.int .u8 n]
def xB(n:Nat):List Lf:=[.fn (.func n) []]
def bR(b:Bool):List Lf:=[.bool b]
def dC(s:ByteArray):List Lf:=[.str s]
structure aB where
  t:Int
  a:Int
structure aw where
  aE:Int
  dE:Int
  aj:Int
  cT:Int
  dM:List aB
  eU:List aB
structure ak where
  aD:List ByteArray
  bj:List aw
structure ag where
  name:ByteArray
  yW:Int
  aE:Int
  dE:Int
  cap:List Int
  bD:Int
  aj:Int
  bm:Int
  bp:Int
  kC:Int
  de:Int
  pK:Int
  ia:Int
  ib:Int
structure aM where
  place:Int
  bm:Int
  bp:Int
  bz:Int
instance:DecidableEq aM:=fun a b=>decidable_of_iff (a.place=b.place∧a.bm=b.bm∧a.bp=b.bp∧a.bz=b.bz) (by cases a;cases b;simp)
structure af where
  name:ByteArray
  load:List Int
  pick:aM
  drop:aM
  bD:Int
  dA:Int
  split:Int
  bI:Int
  now:Int
  off:Bool
instance:DecidableEq af:=fun a b=>decidable_of_iff (a.name=b.name∧a.load=b.load∧a.pick=b.pick∧a.drop=b.drop∧a.bD=b.bD∧a.dA=b.dA∧a.split=b.split∧a.bI=b.bI∧a.now=b.now∧a.off=b.off) (by cases a;cases b;simp)
structure aI where
  x0:Int
  x1:Int
structure ae where
  bG:ak
  types:List ag
  ah:List af
  db:List aI
  before:List aI
structure aa where
  IK:Int
  di:ByteArray
structure aV where
  aE:Int
  dE:Int
  aj:Int
structure bs where
  x:ae
  xD:List (List Int)
structure ab where
  aL:Int
  drop:Bool
instance:DecidableEq ab:=fun a b=>decidable_of_iff (a.aL=b.aL∧a.drop=b.drop) (by cases a;cases b;simp)
structure ay where
  aR:Int
  aH:Int
  aP:List Bool
  ar:List ab
structure bw where
  x:ae
  t:ag
  r:ay
  aG:List aM
structure aX where
  jK:Int
  uB:Int
  cF:Int
  de:Bool
instance:DecidableEq aX:=fun a b=>decidable_of_iff (a.jK=b.jK∧a.uB=b.uB∧a.cF=b.cF∧a.de=b.de) (by cases a;cases b;simp)
structure aQ where
  de:Bool
  cF:Int
  je:List aX
  lE:Int
  cT:Int
instance:DecidableEq aQ:=fun a b=>decidable_of_iff (a.de=b.de∧a.cF=b.cF∧a.je=b.je∧a.lE=b.lE∧a.cT=b.cT) (by cases a;cases b;simp)
structure au where
  ready:Int
  gw:Int
  dD:aQ
instance:DecidableEq au:=fun a b=>decidable_of_iff (a.ready=b.ready∧a.gw=b.gw∧a.dD=b.dD) (by cases a;cases b;simp)
structure bJ where
  iq:Int
  ee:Int
  eQ:Int
  C9:Int
structure Z9 where
  x0:Int
  x1:Int
  x2:Int
  x3:Int
structure al where
  aR:Int
  ba:Int
  eR:Int
  bH:ay
structure aF where
  ready:Int
  gy:Int
structure aW where
  x:ae
  kind:Int
  ba:Int
  qb:Int
  dW:al
  fZ:Bool
structure bB where
  place:Int
  v_:Int
  gy:Int
  cT:Int
def aB.enc(x:aB):List Lf:=[lI x.t,lI x.a]
def aw.enc(x:aw):List Lf:=[lI x.aE,lI x.dE,lI x.aj,lI x.cT,lL 2 x.dM aB.enc,lL 2 x.eU aB.enc]
def ak.enc(x:ak):List Lf:=[lL 1 x.aD dC,lL 6 x.bj aw.enc]
def ag.enc(x:ag):List Lf:=[.str x.name,lI x.yW,lI x.aE,lI x.dE,lL 1 x.cap ax,lI x.bD,lI x.aj,lI x.bm,lI x.bp,lI x.kC,lI x.de,lI x.pK,lI x.ia,lI x.ib]
def aM.enc(x:aM):List Lf:=[lI x.place,lI x.bm,lI x.bp,lI x.bz]
def af.enc(x:af):List Lf:=[.str x.name,lL 1 x.load ax,lI x.pick.place,lI x.pick.bm,lI x.pick.bp,lI x.pick.bz,lI x.drop.place,lI x.drop.bm,lI x.drop.bp,lI x.drop.bz,lI x.bD,lI x.dA,lI x.split,lI x.bI,lI x.now,.bool x.off]
def aI.enc(x:aI):List Lf:=[lI x.x0,lI x.x1]
def ae.enc(x:ae):List Lf:=[lL 1 x.bG.aD dC,lL 6 x.bG.bj aw.enc,lL 14 x.types ag.enc,lL 16 x.ah af.enc,lL 2 x.db aI.enc,lL 2 x.before aI.enc]
def aa.enc(x:aa):List Lf:=[lI x.IK,.str x.di]
def aV.enc(x:aV):List Lf:=[lI x.aE,lI x.dE,lI x.aj]
def cg(l:List Int):List Lf:=[.sl false 1 (l.map ax)]
def bs.enc(x:bs):List Lf:=[lL 1 x.x.bG.aD dC,lL 6 x.x.bG.bj aw.enc,lL 14 x.x.types ag.enc,lL 16 x.x.ah af.enc,lL 2 x.x.db aI.enc,lL 2 x.x.before aI.enc,lL 1 x.xD cg]
def ab.enc(x:ab):List Lf:=[lI x.aL,.bool x.drop]
def ay.enc(x:ay):List Lf:=[lI x.aR,lI x.aH,lL 1 x.aP bR,lL 2 x.ar ab.enc]
def bw.enc(x:bw):List Lf:=[lL 1 x.x.bG.aD dC,lL 6 x.x.bG.bj aw.enc,lL 14 x.x.types ag.enc,lL 16 x.x.ah af.enc,lL 2 x.x.db aI.enc,lL 2 x.x.before aI.enc,.str x.t.name,lI x.t.yW,lI x.t.aE,lI x.t.dE,lL 1 x.t.cap ax,lI x.t.bD,lI x.t.aj,lI x.t.bm,lI x.t.bp,lI x.t.kC,lI x.t.de,lI x.t.pK,lI x.t.ia,lI x.t.ib,lI x.r.aR,lI x.r.aH,lL 1 x.r.aP bR,lL 2 x.r.ar ab.enc,lL 4 x.aG aM.enc]
def aX.enc(x:aX):List Lf:=[lI x.jK,lI x.uB,lI x.cF,.bool x.de]
def aQ.enc(x:aQ):List Lf:=[.bool x.de,lI x.cF,lL 4 x.je aX.enc,lI x.lE,lI x.cT]
def au.enc(x:au):List Lf:=[lI x.ready,lI x.gw,.bool x.dD.de,lI x.dD.cF,lL 4 x.dD.je aX.enc,lI x.dD.lE,lI x.dD.cT]
def bJ.enc(x:bJ):List Lf:=[lI x.iq,lI x.ee,lI x.eQ,lI x.C9]
def al.enc(x:al):List Lf:=[lI x.aR,lI x.ba,lI x.eR,lI x.bH.aR,lI x.bH.aH,lL 1 x.bH.aP bR,lL 2 x.bH.ar ab.enc]
def aF.enc(x:aF):List Lf:=[lI x.ready,lI x.gy]
def aW.enc(x:aW):List Lf:=[lL 1 x.x.bG.aD dC,lL 6 x.x.bG.bj aw.enc,lL 14 x.x.types ag.enc,lL 16 x.x.ah af.enc,lL 2 x.x.db aI.enc,lL 2 x.x.before aI.enc,lI x.kind,lI x.ba,lI x.qb,lI x.dW.aR,lI x.dW.ba,lI x.dW.eR,lI x.dW.bH.aR,lI x.dW.bH.aH,lL 1 x.dW.bH.aP bR,lL 2 x.dW.bH.ar ab.enc,.bool x.fZ]
def bB.enc(x:bB):List Lf:=[lI x.place,lI x.v_,lI x.gy,lI x.cT]
def kD.enc(l:List aa):List Lf:=[.sl false 2 (l.map aa.enc)]
def aV.XT(a b:aV):Bool:=bP a.aE b.aE&&(bP a.dE b.dE&&(bP a.aj b.aj&&true))
theorem aV.kq(a b:aV):xw (aV.enc a) (aV.enc b)=some (aV.XT a b):=rfl
def cj:ByteArray:=⟨#[32]⟩
def A9:ByteArray:=⟨#[48,49,50,51,52,53,54,55,56,57,97,98,99,100,101,102,103,104,105,106,107,108,109,110,111,112,113,114,115,116,117,118,119,120,121,122]⟩
def A8:ByteArray:=⟨#[48,48,48,49,48,50,48,51,48,52,48,53,48,54,48,55,48,56,48,57,49,48,49,49,49,50,49,51,49,52,49,53,49,54,49,55,49,56,49,57,50,48,50,49,50,50,50,51,50,52,50,53,50,54,50,55,50,56,50,57,51,48,51,49,51,50,51,51,51,52,51,53,51,54,51,55,51,56,51,57,52,48,52,49,52,50,52,51,52,52,52,53,52,54,52,55,52,56,52,57,53,48,53,49,53,50,53,51,53,52,53,53,53,54,53,55,53,56,53,57,54,48,54,49,54,50,54,51,54,52,54,53,54,54,54,55,54,56,54,57,55,48,55,49,55,50,55,51,55,52,55,53,55,54,55,55,55,56,55,57,56,48,56,49,56,50,56,51,56,52,56,53,56,54,56,55,56,56,56,57,57,48,57,49,57,50,57,51,57,52,57,53,57,54,57,55,57,56,57,57]⟩
def A_:ByteArray:=⟨#[0,1,2,2,3,3,3,3,4,4,4,4,4,4,4,4,5,5,5,5,5,5,5,5,5,5,5,5,5,5,5,5,6,6,6,6,6,6,6,6,6,6,6,6,6,6,6,6,6,6,6,6,6,6,6,6,6,6,6,6,6,6,6,6,7,7,7,7,7,7,7,7,7,7,7,7,7,7,7,7,7,7,7,7,7,7,7,7,7,7,7,7,7,7,7,7,7,7,7,7,7,7,7,7,7,7,7,7,7,7,7,7,7,7,7,7,7,7,7,7,7,7,7,7,7,7,7,7,8,8,8,8,8,8,8,8,8,8,8,8,8,8,8,8,8,8,8,8,8,8,8,8,8,8,8,8,8,8,8,8,8,8,8,8,8,8,8,8,8,8,8,8,8,8,8,8,8,8,8,8,8,8,8,8,8,8,8,8,8,8,8,8,8,8,8,8,8,8,8,8,8,8,8,8,8,8,8,8,8,8,8,8,8,8,8,8,8,8,8,8,8,8,8,8,8,8,8,8,8,8,8,8,8,8,8,8,8,8,8,8,8,8,8,8,8,8,8,8,8,8,8,8,8,8,8,8]⟩
def iy:ByteArray:=⟨#[112,108,97,99,101,115]⟩
def e7:ByteArray:=⟨#[112,108,97,99,101,32]⟩
def qZ:ByteArray:=⟨#[97,114,99,115]⟩
def ct:ByteArray:=⟨#[97,114,99,32]⟩
def G5:ByteArray:=⟨#[97,112,97,114,116]⟩
def El:ByteArray:=⟨#[98,101,102,111,114,101]⟩
def p5:ByteArray:=⟨#[110,101,116]⟩
def yM:ByteArray:=⟨#[116,121,112,101,115]⟩
def wA:ByteArray:=⟨#[111,114,100,101,114,115]⟩
def yL:ByteArray:=⟨#[114,117,108,101,115]⟩
def G8:ByteArray:=⟨#[104,117,98]⟩
def G6:ByteArray:=⟨#[97,115,104]⟩
def G7:ByteArray:=⟨#[98,97,121]⟩
def Qz:ByteArray:=⟨#[111,97]⟩
def G9:ByteArray:=⟨#[118,97,110]⟩
def ZB:ByteArray:=⟨#[45]⟩
def kg(x0:ae)(i:Int):Option ((Int)⊕((Unit)⊕(Bool))):=br (aT i (aC x0.bG.bj)) (aS (bq x0.bG.bj i) fun x1=>br (cQ (aC x1.dM) 20) (some (.inr (.inr false))) (br (cQ (aC x1.eU) 20) (some (.inr (.inr false))) (some (.inl (aY .i64 i 1))))) (some (.inr (.inl ())))
def uI(x0:ae):Option Bool:=br ((((cQ (aC x0.ah) 3)||(cQ (aC x0.types) 3))||(cQ (aC x0.bG.aD) 6))||(cQ (aC x0.bG.bj) 30)) (some false) (aS (aK (fun s=>kg x0 s) 0) (fun e=>jf e (fun(_:Unit)=>some true) (fun r=>some r)))
def ew(n:Int):Option (List aa):=br (aT n 0) (none) (br (cQ (dZ .i64 n (dZ .i64 0 0)) 0) (aS (KY (dZ .i64 n (dZ .i64 0 0)) (dZ .i64 n (dZ .i64 0 0)) 24 (aa.mk 0 ByteArray.empty)) fun l=>aS (vw l 0 0) fun l1=>some l1) (some []))
def cJ(kW:List (List aa))(size v:Int):Option ((Int×Int)⊕(Int)):=br (aT v (aC kW)) (aS (bq kW v) fun x0=>br (aT (aY .i64 size (aC x0)) 0) (none) (some (.inl ((aY .i64 size (aC x0)),(aY .i64 v 1))))) (some (.inr size))
def cK(kW:List (List aa))(l:List aa)(v1:Int):Option ((List aa×Int)⊕(List aa)):=br (aT v1 (aC kW)) (aS (bq kW v1) fun x1=>eH (e_ (l++x1).length 24) (some (.inl ((l++x1),(aY .i64 v1 1))))) (some (.inr l))
def fA(kW:List (List aa)):Option (List aa):=aS (aK (fun s=>cJ kW s.1 s.2) (0,0)) (fun Qc3=>aS (ew Qc3) fun r=>aS (aK (fun s=>cK kW s.1 s.2) (r,0)) (fun l1=>some l1))
def qH(word:ByteArray)(l l2:List aa)(v:Int)(x0:aa)(di Qdn:ByteArray):Option ((List aa×Int)⊕(List aa)):=eH (e_ (l2++[(aa.mk x0.IK Qdn)]).length 24) (some (.inl ((l2++[(aa.mk x0.IK Qdn)]),(aY .i64 v 1))))
def qI(word:ByteArray)(l l2:List aa)(v:Int):Option ((List aa×Int)⊕(List aa)):=br (aT v (aC l)) (aS (bq l v) fun x0=>br (Jb x0.di ByteArray.empty) (qH word l l2 v x0 x0.di word) (eH (cj.size+x0.di.size≤9223372036854775807) (eH (word.size+(cM cj x0.di).size≤9223372036854775807) (qH word l l2 v x0 x0.di (cM word (cM cj x0.di)))))) (some (.inr l2))
def nt(word:ByteArray)(l:List aa):Option (List aa):=aS (KY 0 (aC l) 24 (aa.mk 0 ByteArray.empty)) fun l1=>aS (aK (fun s=>qI word l s.1 s.2) (l1,0)) (fun l3=>some l3)
def Ep(i:Int):Option ByteArray:=br (aT i 10) (aS (Qbp A9 i (aY .i64 i 1)) fun s0=>some (A9.extract (i:Int).toNat ((aY .i64 i 1):Int).toNat)) (aS (Qbp A8 (m_ .i64 i 2) (aY .i64 (m_ .i64 i 2) 2)) fun s1=>some (A8.extract ((m_ .i64 i 2):Int).toNat ((aY .i64 (m_ .i64 i 2) 2):Int).toNat))
def Pn(x0:Int):Option Int:=some (wZ .i64 (m_ .i64 x0 78913) 18)
def L_(x2 n1:Int):Option Int:=br (bZ x2 256) (aS (Ru A_ (zV .u8 (wZ .u64 x2 8))) fun b=>some (aY .i64 (aY .i64 n1 8) (zV .i64 (I1 b)))) (aS (Ru A_ (zV .u8 x2)) fun b1=>some (aY .i64 n1 (zV .i64 (I1 b1))))
def L9(x1 n:Int):Option Int:=br (bZ x1 65536) (L_ (wZ .u64 x1 16) (aY .i64 n 16)) (L_ x1 n)
def Qal(x0:Int):Option Int:=br (bZ x0 4294967296) (L9 (wZ .u64 x0 32) 32) (L9 x0 0)
def Po(d:Int):Option Int:=aS (Qal d) fun r=>aS (Pn r) fun r1=>none
def q_(i u:Int):Option ByteArray:=aS (Po u) fun r1=>none
def yQ(i base:Int):Option ByteArray:=br (bP base 10) (br ((jD 0 i)&&(aT i 100)) (aS (Ep i) fun r=>some r) (br (aT i 0) (q_ i (dZ .u64 0 (zV .u64 i))) (q_ i (zV .u64 i)))) (none)
def Hb(i:Int):Option ByteArray:=aS (yQ i 10) fun r=>some r
def nD(i:Int):Option ByteArray:=aS (Hb i) fun r=>some r
def nh(n:Int):Option ByteArray:=aS (nD n) fun r=>some r
def He(c:Int):Option Bool:=some ((bZ c 48)&&(jD c 57))
def KG(c:Int):Option Bool:=some ((((bZ c 97)&&(jD c 122))||((bZ c 65)&&(jD c 90)))||(bP c 95))
def Hd(s0:ByteArray)(b:UInt8)(v:Int):Option ((Int)⊕((Unit)⊕(Bool))):=br (aT v (xq s0)) (aS (Ru s0 v) fun b1=>aS (KG (I1 b1)) fun r1=>br r1 (some (.inl (aY .i64 v 1))) (aS (He (I1 b1)) fun r2=>br r2 (some (.inl (aY .i64 v 1))) (some (.inr (.inr false))))) (some (.inr (.inl ())))
def zG(s0:ByteArray):Option Bool:=br ((Jb s0 ByteArray.empty)||(cQ (xq s0) 16)) (some false) (aS (Ru s0 0) fun b=>aS (He (I1 b)) fun r=>br r (some false) (aS (aK (fun s=>Hd s0 b s) 0) (fun e=>jf e (fun(_:Unit)=>some true) (fun r3=>some r3))))
def kE(n:ak)(i:Int):Option Bool:=some ((bZ i 0)&&(aT i (aC n.aD)))
def nd(a:aw):Option aV:=some (aV.mk a.aE a.dE a.aj)
def ni(n least C5:Int):Option Bool:=some ((bZ n least)&&(jD n C5))
def n5(l:List aB)(v:Int)(x0:aB)(r:ByteArray)(l3:List aa):Option ((List aa×Int)⊕(List aa)):=br (cQ v 0) (aS (bq l (dZ .i64 v 1)) fun x1=>br (jD x0.t x1.t) (eH (e_ (l3++[(aa.mk 13 r)]).length 24) (some (.inl ((l3++[(aa.mk 13 r)]),(aY .i64 v 1))))) (br (aT x0.a x1.a) (eH (e_ (l3++[(aa.mk 13 r)]).length 24) (some (.inl ((l3++[(aa.mk 13 r)]),(aY .i64 v 1))))) (some (.inl (l3,(aY .i64 v 1)))))) (some (.inl (l3,(aY .i64 v 1))))
def im(l:List aB)(l2:List aa)(v:Int):Option ((List aa×Int)⊕(List aa)):=br (aT v (aC l)) (aS (bq l v) fun x0=>aS (nD v) fun r=>aS (ni x0.t 0 4096) fun r1=>br (((!r1)||(aT x0.a x0.t))||(cQ x0.a (aY .i64 x0.t 4096))) (eH (e_ (l2++[(aa.mk 2 r)]).length 24) (n5 l v x0 r (l2++[(aa.mk 2 r)]))) (n5 l v x0 r l2)) (some (.inr l2))
def n0(l:List aB)(l1:List aa):Option (List aa):=aS (aK (fun s=>im l s.1 s.2) (l1,0)) (fun l4=>some l4)
def jU(l:List aB):Option (List aa):=br ((bP (aC l) 0)||(cQ (aC l) 16)) (eH (e_ [(aa.mk 4 ByteArray.empty)].length 24) (n0 l [(aa.mk 4 ByteArray.empty)])) (n0 l [])
def vj(t:Int):Option Bool:=some ((bZ t 0)&&(jD t 4096))
def kN(l:List aB)(l2:List Int)(v:Int):Option ((List Int×Int)⊕(List Int)):=br (aT v (aC l)) (aS (bq l v) fun x0=>aS (vj x0.t) fun r=>br r (br (cQ v 0) (aS (bq l (dZ .i64 v 1)) fun x1=>br (jD x0.t x1.t) (eH (e_ (l2++[2]).length 8) (some (.inl ((l2++[2]),(aY .i64 v 1))))) (aS (vj x0.a) fun r1=>br r1 (some (.inl (l2,(aY .i64 v 1)))) (eH (e_ (l2++[2]).length 8) (some (.inl ((l2++[2]),(aY .i64 v 1))))))) (aS (vj x0.a) fun r2=>br r2 (some (.inl (l2,(aY .i64 v 1)))) (eH (e_ (l2++[2]).length 8) (some (.inl ((l2++[2]),(aY .i64 v 1))))))) (eH (e_ (l2++[2]).length 8) (some (.inl ((l2++[2]),(aY .i64 v 1)))))) (some (.inr l2))
def qt(l:List aB)(l1:List Int):Option (List Int):=aS (aK (fun s=>kN l s.1 s.2) (l1,0)) (fun l3=>some l3)
def vi(l:List aB):Option (List Int):=br (cQ (aC l) 16) (eH (e_ [4].length 8) (qt l [4])) (qt l [])
def lZ(a:aw)(known:List (aV×Bool))(l:List Int)(r3:List aa)(l3:List Int)(v:Int):Option ((List Int×Int)⊕(List Int)):=br (aT v (aC r3)) (aS (bq r3 v) fun x0=>eH (e_ (l3++[x0.IK]).length 8) (some (.inl ((l3++[x0.IK]),(aY .i64 v 1))))) (some (.inr l3))
def sf(a:aw)(known:List (aV×Bool))(l l2:List Int):Option (List Int):=aS (jU a.dM) fun r3=>aS (aK (fun s=>lZ a known l r3 s.1 s.2) (l2,0)) (fun l4=>aS (vi a.eU) fun r4=>eH (e_ (l4++r4).length 8) (some (l4++r4)))
def pZ(a:aw)(known:List (aV×Bool))(l l1:List Int):Option (List Int):=aS (nd a) fun r2=>br (pY aV.XT known r2 false) (eH (e_ (l1++[6]).length 8) (sf a known l (l1++[6]))) (sf a known l l1)
def se(a:aw)(known:List (aV×Bool))(l:List Int):Option (List Int):=br (((((aT a.aj 0)||(cQ a.aj 7))||(aT a.cT 0))||(cQ a.cT 10000))||(bP a.aE a.dE)) (eH (e_ (l++[2]).length 8) (pZ a known l (l++[2]))) (pZ a known l l)
def Ch(a:aw)(known:List (aV×Bool))(r6:List aa)(l7:List Int)(v1:Int):Option ((List Int×Int)⊕(List Int)):=br (aT v1 (aC r6)) (aS (bq r6 v1) fun x1=>eH (e_ (l7++[x1.IK]).length 8) (some (.inl ((l7++[x1.IK]),(aY .i64 v1 1))))) (some (.inr l7))
def yx(a:aw)(known:List (aV×Bool))(l6:List Int):Option (List Int):=aS (jU a.dM) fun r6=>aS (aK (fun s=>Ch a known r6 s.1 s.2) (l6,0)) (fun l8=>aS (vi a.eU) fun r7=>eH (e_ (l8++r7).length 8) (some (l8++r7)))
def uR(a:aw)(known:List (aV×Bool))(l5:List Int):Option (List Int):=aS (nd a) fun r5=>br (pY aV.XT known r5 false) (eH (e_ (l5++[6]).length 8) (yx a known (l5++[6]))) (yx a known l5)
def Ag(n:ak)(a:aw)(known:List (aV×Bool)):Option (List Int):=aS (kE n a.aE) fun r=>br r (aS (kE n a.dE) fun r1=>br r1 (se a known []) (eH (e_ [11].length 8) (se a known [11]))) (eH (e_ [11].length 8) (br (((((aT a.aj 0)||(cQ a.aj 7))||(aT a.cT 0))||(cQ a.cT 10000))||(bP a.aE a.dE)) (eH (e_ ([11]++[2]:List Int).length 8) (uR a known ([11]++[2]))) (uR a known [11])))
def po(n:ak)(l:List aa)(l2:List (ByteArray×Bool))(v:Int)(x0:ByteArray)(l3:List aa):Option ((List aa×List (ByteArray×Bool)×Int)⊕(List aa)):=some (.inl (l3,(vh T1 l2 x0 true),(aY .i64 v 1)))
def jQ(n:ak)(l l1:List aa)(l2:List (ByteArray×Bool))(v:Int):Option ((List aa×List (ByteArray×Bool)×Int)⊕(List aa)):=br (aT v (aC n.aD)) (aS (bq n.aD v) fun x0=>aS (nh v) fun r=>eH (e7.size+r.size≤9223372036854775807) (aS (zG x0) fun r1=>br r1 (br (pY T1 l2 x0 false) (eH (e_ (l1++[(aa.mk 6 (cM e7 r))]).length 24) (po n l l2 v x0 (l1++[(aa.mk 6 (cM e7 r))]))) (po n l l2 v x0 l1)) (eH (e_ (l1++[(aa.mk 5 (cM e7 r))]).length 24) (po n l l2 v x0 (l1++[(aa.mk 5 (cM e7 r))]))))) (some (.inr l1))
def jS(n:ak)(l:List aa)(l7:List (aV×Bool))(v1:Int)(x1:aw)(r2:List Int)(l8:List aa)(v2:Int):Option ((List aa×Int)⊕(List aa)):=br (aT v2 (aC r2)) (aS (bq r2 v2) fun x2=>aS (nh v1) fun r3=>eH (ct.size+r3.size≤9223372036854775807) (eH (e_ (l8++[(aa.mk x2 (cM ct r3))]).length 24) (some (.inl ((l8++[(aa.mk x2 (cM ct r3))]),(aY .i64 v2 1)))))) (some (.inr l8))
def jR(n:ak)(l l6:List aa)(l7:List (aV×Bool))(v1:Int):Option ((List aa×List (aV×Bool)×Int)⊕(List aa)):=br (aT v1 (aC n.bj)) (aS (bq n.bj v1) fun x1=>aS (Ag n x1 l7) fun r2=>aS (aK (fun s=>jS n l l7 v1 x1 r2 s.1 s.2) (l6,0)) (fun l9=>aS (nd x1) fun r4=>some (.inl (l9,(vh aV.XT l7 r4 true),(aY .i64 v1 1))))) (some (.inr l6))
def pq(n:ak)(l l5:List aa):Option (List aa):=aS (aK (fun s=>jR n l s.1 s.2.1 s.2.2) (l5,[],0)) (fun P9=>some P9)
def pn(n:ak)(l:List aa):Option (List aa):=aS (aK (fun s=>jQ n l s.1 s.2.1 s.2.2) (l,[],0)) (fun l4=>br (cQ (aC n.bj) 1024) (eH (e_ (l4++[(aa.mk 4 qZ)]).length 24) (pq n l (l4++[(aa.mk 4 qZ)]))) (pq n l l4))
def wm(n:ak):Option (List aa):=br (cQ (aC n.aD) 24) (eH (e_ [(aa.mk 4 iy)].length 24) (pn n [(aa.mk 4 iy)])) (pn n [])
def cN(n least C5:Int):Option Bool:=some ((bZ n least)&&(jD n C5))
def u9(n:Int):Option Bool:=aS (cN n 0 1000) fun r=>some (!r)
def cS(s0:List Int)(v:Int):Option ((Int)⊕((Unit)⊕(Int))):=br (aT v (aC s0)) (aS (bq s0 v) fun x0=>aS (u9 x0) fun r=>br r (some (.inr (.inr v))) (some (.inl (aY .i64 v 1)))) (some (.inr (.inl ())))
def gp(s0:List Int):Option Int:=aS (aK (fun s=>cS s0 s) 0) (fun e=>jf e (fun(_:Unit)=>some (-1)) (fun r1=>some r1))
def eG(s0:List Int):Option Bool:=aS (gp s0) fun r=>some (bZ r 0)
def rN(l xD:List Int):Option Bool:=aS (cN (aC l) 1 3) fun r=>br ((!r)||(cA (aC l) (aC xD))) (some false) (aS (eG l) fun r1=>some (!r1))
def bO(right:Bool)(e0:Int)(c:List Int):Option (List Int):=br right (some c) (eH (e_ (c++[e0]).length 8) (some (c++[e0])))
def xF(x0 c:ag):Option Bool:=some (Jb x0.name c.name)
def cu(s0:List ag)(c:ag)(v:Int):Option ((Int)⊕((Unit)⊕(Int))):=br (aT v (aC s0)) (aS (bq s0 v) fun x0=>aS (xF x0 c) fun r=>br r (some (.inr (.inr v))) (some (.inl (aY .i64 v 1)))) (some (.inr (.inl ())))
def e9(s0:List ag)(c:ag):Option Int:=aS (aK (fun s=>cu s0 c s) 0) (fun e=>jf e (fun(_:Unit)=>some (-1)) (fun r1=>some r1))
def dw(s0:List ag)(c:ag):Option Bool:=aS (e9 s0 c) fun r=>some (bZ r 0)
def xE(n:ak)(l:List ag)(i:Int):Option (List Int):=aS (bq l i) fun x0=>aS (zG x0.name) fun r=>aS (bO r 5 []) fun r1=>aS (vw l 0 i) fun l1=>aS (dw l1 x0) fun r2=>aS (bO (!r2) 6 r1) fun r3=>aS (cN x0.yW 0 10) fun r4=>aS (bO r4 22 r3) fun r5=>aS (cN x0.aE 0 (dZ .i64 (aC n.aD) 1)) fun r6=>br r6 (aS (cN x0.dE 0 (dZ .i64 (aC n.aD) 1)) fun r7=>aS (bO r7 11 r5) fun r8=>aS (bq l 0) fun x1=>aS (rN x0.cap x1.cap) fun r9=>aS (bO r9 17 r8) fun Xf=>aS (cN x0.bD 0 1073741823) fun Ft=>aS (bO Ft 18 Xf) fun XY=>aS (cN x0.bm 0 x0.bp) fun Qp=>aS (bO (Qp&&(jD x0.bp 4096)) 15 XY) fun r14=>aS (cN x0.kC 1 4096) fun LD=>br LD (aS (cN x0.de 0 4096) fun r16=>aS (bO r16 16 r14) fun r17=>aS (cN x0.aj 0 7) fun r18=>br r18 (aS (cN x0.pK 0 100000) fun J5=>br J5 (aS (cN x0.ia 0 100) fun r20=>br r20 (aS (cN x0.ib 0 100) fun r21=>aS (bO r21 2 r17) fun r22=>some r22) (aS (bO false 2 r17) fun r23=>some r23)) (aS (bO false 2 r17) fun r24=>some r24)) (aS (bO false 2 r17) fun r25=>some r25)) (aS (bO false 16 r14) fun r26=>aS (cN x0.aj 0 7) fun r27=>br r27 (aS (cN x0.pK 0 100000) fun r28=>br r28 (aS (cN x0.ia 0 100) fun r29=>br r29 (aS (cN x0.ib 0 100) fun r30=>aS (bO r30 2 r26) fun r31=>some r31) (aS (bO false 2 r26) fun r32=>some r32)) (aS (bO false 2 r26) fun r33=>some r33)) (aS (bO false 2 r26) fun r34=>some r34))) (aS (bO false 11 r5) fun r35=>aS (bq l 0) fun x2=>aS (rN x0.cap x2.cap) fun r36=>aS (bO r36 17 r35) fun r37=>aS (cN x0.bD 0 1073741823) fun r38=>aS (bO r38 18 r37) fun r39=>aS (cN x0.bm 0 x0.bp) fun XZ=>aS (bO (XZ&&(jD x0.bp 4096)) 15 r39) fun r41=>aS (cN x0.kC 1 4096) fun r42=>br r42 (aS (cN x0.de 0 4096) fun r43=>aS (bO r43 16 r41) fun r44=>aS (cN x0.aj 0 7) fun r45=>br r45 (aS (cN x0.pK 0 100000) fun r46=>br r46 (aS (cN x0.ia 0 100) fun r47=>br r47 (aS (cN x0.ib 0 100) fun r48=>aS (bO r48 2 r44) fun r49=>some r49) (aS (bO false 2 r44) fun r50=>some r50)) (aS (bO false 2 r44) fun r51=>some r51)) (aS (bO false 2 r44) fun r52=>some r52)) (aS (bO false 16 r41) fun r53=>aS (cN x0.aj 0 7) fun r54=>br r54 (aS (cN x0.pK 0 100000) fun r55=>br r55 (aS (cN x0.ia 0 100) fun r56=>br r56 (aS (cN x0.ib 0 100) fun r57=>aS (bO r57 2 r53) fun r58=>some r58) (aS (bO false 2 r53) fun r59=>some r59)) (aS (bO false 2 r53) fun r60=>some r60)) (aS (bO false 2 r53) fun r61=>some r61)))
def rM(n:ak)(l:List ag)(v:Int)(r1:List Int)(l3:List aa)(v1:Int):Option ((List aa×Int)⊕(List aa)):=br (aT v1 (aC r1)) (aS (bq r1 v1) fun x0=>aS (nh v) fun r2=>eH (e_ (l3++[(aa.mk x0 r2)]).length 24) (some (.inl ((l3++[(aa.mk x0 r2)]),(aY .i64 v1 1))))) (some (.inr l3))
def rL(n:ak)(l:List ag)(l2:List aa)(v:Int):Option ((List aa×Int)⊕(List aa)):=br (aT v (aC l)) (aS (xE n l v) fun r1=>aS (aK (fun s=>rM n l v r1 s.1 s.2) (l2,0)) (fun l4=>some (.inl (l4,(aY .i64 v 1))))) (some (.inr l2))
def rK(n:ak)(l:List ag)(l1:List aa):Option (List aa):=aS (aK (fun s=>rL n l s.1 s.2) (l1,0)) (fun l5=>some l5)
def w_(n:ak)(l:List ag):Option (List aa):=aS (cN (aC l) 1 6) fun r=>br r (rK n l []) (eH (e_ [(aa.mk 4 ByteArray.empty)].length 24) (rK n l [(aa.mk 4 ByteArray.empty)]))
def lV(a:List Int)(bL v:Int):Option ((Int)⊕((Unit)⊕(Bool))):=br (aT v (aC a)) (aS (bq a v) fun x0=>br ((aT x0 0)||(cQ x0 1000)) (some (.inr (.inr false))) (some (.inl (aY .i64 v 1)))) (some (.inr (.inl ())))
def xb(a:List Int)(bL:Int):Option Bool:=aS (aK (fun s=>lV a bL s) 0) (fun e=>jf e (fun(_:Unit)=>some (bP (aC a) bL)) (fun r=>some r))
def gM(n least C5:Int):Option Bool:=some ((bZ n least)&&(jD n C5))
def xu(n:Int):Option Bool:=some ((bZ n 0)&&(jD n 4096))
def nj(s0:aM):Option Int:=br (bP s0.place (-1)&&(bP s0.bm 0&&(bP s0.bp 0&&(bP s0.bz 0&&true)))) (some 0) (br (bZ s0.place 0) (aS (xu s0.bm) fun r=>br r (aS (xu s0.bp) fun r1=>br (r1&&(jD s0.bm s0.bp)) (aS (xu s0.bz) fun r2=>br r2 (some 0) (some 2)) (some 2)) (some 2)) (some 2))
def nf(o:af)(types:Int):Option Bool:=aS (gM o.dA (-1) 1000000) fun r=>br r (aS (gM o.split 1 4) fun r1=>some (((((r1&&(((bP o.split 1)||(bP o.pick.place (-1)))||(bP o.drop.place (-1))))&&(bZ o.bI (-1)))&&(aT o.bI types))&&(bZ o.now (-1)))&&(aT o.now types))) (some false)
def bV(right:Bool)(e0:Int)(c:List Int):Option (List Int):=br right (some c) (eH (e_ (c++[e0]).length 8) (some (c++[e0])))
def yD(x0 c:af):Option Bool:=some (Jb x0.name c.name)
def ca(s0:List af)(c:af)(v:Int):Option ((Int)⊕((Unit)⊕(Int))):=br (aT v (aC s0)) (aS (bq s0 v) fun x0=>aS (yD x0 c) fun r=>br r (some (.inr (.inr v))) (some (.inl (aY .i64 v 1)))) (some (.inr (.inl ())))
def eM(s0:List af)(c:af):Option Int:=aS (aK (fun s=>ca s0 c s) 0) (fun e=>jf e (fun(_:Unit)=>some (-1)) (fun r1=>some r1))
def cX(s0:List af)(c:af):Option Bool:=aS (eM s0 c) fun r=>some (bZ r 0)
def yC(n:ak)(bL types:Int)(l:List af)(i:Int):Option (List Int):=aS (bq l i) fun x0=>aS (zG x0.name) fun r=>aS (bV r 5 []) fun r1=>aS (vw l 0 i) fun l1=>aS (cX l1 x0) fun r2=>aS (bV (!r2) 6 r1) fun r3=>aS (xb x0.load bL) fun r4=>aS (bV r4 17 r3) fun r5=>aS (gM x0.pick.place (-1) (dZ .i64 (aC n.aD) 1)) fun r6=>br r6 (aS (gM x0.drop.place (-1) (dZ .i64 (aC n.aD) 1)) fun r7=>aS (bV r7 11 r5) fun r8=>aS (bV ((cA x0.pick.place (-1))||(cA x0.drop.place (-1))) 19 r8) fun r9=>aS (nj x0.pick) fun Xf=>br (bP Xf 0) (aS (nj x0.drop) fun Ft=>aS (bV (bP Ft 0) 14 r9) fun XY=>aS (gM x0.bD 0 1073741823) fun Qp=>aS (bV Qp 18 XY) fun r14=>aS (nf x0 types) fun LD=>aS (bV LD 2 r14) fun r16=>some r16) (aS (bV false 14 r9) fun r17=>aS (gM x0.bD 0 1073741823) fun r18=>aS (bV r18 18 r17) fun J5=>aS (nf x0 types) fun r20=>aS (bV r20 2 J5) fun r21=>some r21)) (aS (bV false 11 r5) fun r22=>aS (bV ((cA x0.pick.place (-1))||(cA x0.drop.place (-1))) 19 r22) fun r23=>aS (nj x0.pick) fun r24=>br (bP r24 0) (aS (nj x0.drop) fun r25=>aS (bV (bP r25 0) 14 r23) fun r26=>aS (gM x0.bD 0 1073741823) fun r27=>aS (bV r27 18 r26) fun r28=>aS (nf x0 types) fun r29=>aS (bV r29 2 r28) fun r30=>some r30) (aS (bV false 14 r23) fun r31=>aS (gM x0.bD 0 1073741823) fun r32=>aS (bV r32 18 r31) fun r33=>aS (nf x0 types) fun r34=>aS (bV r34 2 r33) fun r35=>some r35))
def sj(n:ak)(bL types:Int)(l:List af)(v:Int)(r:List Int)(l3:List aa)(v1:Int):Option ((List aa×Int)⊕(List aa)):=br (aT v1 (aC r)) (aS (bq r v1) fun x0=>aS (nh v) fun r1=>eH (e_ (l3++[(aa.mk x0 r1)]).length 24) (some (.inl ((l3++[(aa.mk x0 r1)]),(aY .i64 v1 1))))) (some (.inr l3))
def si(n:ak)(bL types:Int)(l:List af)(l2:List aa)(v:Int):Option ((List aa×Int)⊕(List aa)):=br (aT v (aC l)) (aS (yC n bL types l v) fun r=>aS (aK (fun s=>sj n bL types l v r s.1 s.2) (l2,0)) (fun l4=>some (.inl (l4,(aY .i64 v 1))))) (some (.inr l2))
def sg(n:ak)(bL types:Int)(l:List af)(l1:List aa):Option (List aa):=aS (aK (fun s=>si n bL types l s.1 s.2) (l1,0)) (fun l5=>some l5)
def xk(n:ak)(bL types:Int)(l:List af):Option (List aa):=br (cQ (aC l) 10) (eH (e_ [(aa.mk 4 ByteArray.empty)].length 24) (sg n bL types l [(aa.mk 4 ByteArray.empty)])) (sg n bL types l [])
def wN(l:List ag):Option Int:=br (bP (aC l) 0) (some 0) (aS (bq l 0) fun x0=>some (aC x0.cap))
def tG(self:Int→Option ByteArray)(n:Int):Option ByteArray:=br (aT n 10) (some (TC (zV .i32 (aY .i64 48 (C6 n 10))))) (aS (self (uw .i64 n 10)) fun r=>eH (r.size+(TC (zV .i32 (aY .i64 48 (C6 n 10)))).size≤9223372036854775807) (some (cM r (TC (zV .i32 (aY .i64 48 (C6 n 10)))))))
def tH:Nat→Int→Option ByteArray|0=>fun _=>none|zZ+1=>fun n=>tG (tH zZ) n
def zJ(n:Int):Option ByteArray:=tH sU n
def An(a b:aI):Option Bool:=br (bP a.x0 b.x0&&(bP a.x1 b.x1&&true)) (some true) (br (bP a.x0 b.x1) (some (bP a.x1 b.x0)) (some false))
def Am(a b:aI):Option Bool:=some (bP a.x0 b.x0&&(bP a.x1 b.x1&&true))
def o9(n c:Int):Option Bool:=some ((bZ n 0)&&(aT n c))
def gl(ah:Int)(word:ByteArray)(l:List aI)(l2:List aa)(v:Int)(x0:aI)(r:ByteArray)(l3:List aI)(v1:Int):Option ((Int)⊕(List aa)):=br (aT v1 (aC l3)) (aS (bq l3 v1) fun x1=>aS (Am x0 x1) fun r3=>br r3 (eH (e_ (l2++[(aa.mk 6 (cM (cM word cj) r))]).length 24) (some (.inr (l2++[(aa.mk 6 (cM (cM word cj) r))])))) (some (.inl (aY .i64 v1 1)))) (some (.inr l2))
def gY(ah:Int)(word:ByteArray)(l:List aI)(l2:List aa)(v:Int):Option ((List aa×Int)⊕(List aa)):=br (aT v (aC l)) (aS (bq l v) fun x0=>eH (word.size+cj.size≤9223372036854775807) (aS (zJ v) fun r=>eH ((cM word cj).size+r.size≤9223372036854775807) (aS (o9 x0.x0 ah) fun r1=>br r1 (aS (o9 x0.x1 ah) fun r2=>br r2 (br (bP x0.x0 x0.x1) (eH (e_ (l2++[(aa.mk 2 (cM (cM word cj) r))]).length 24) (some (.inl ((l2++[(aa.mk 2 (cM (cM word cj) r))]),(aY .i64 v 1))))) (aS (vw l 0 v) fun l3=>aS (aK (fun s=>gl ah word l l2 v x0 r l3 s) 0) (fun l4=>some (.inl (l4,(aY .i64 v 1)))))) (eH (e_ (l2++[(aa.mk 2 (cM (cM word cj) r))]).length 24) (some (.inl ((l2++[(aa.mk 2 (cM (cM word cj) r))]),(aY .i64 v 1)))))) (eH (e_ (l2++[(aa.mk 2 (cM (cM word cj) r))]).length 24) (some (.inl ((l2++[(aa.mk 2 (cM (cM word cj) r))]),(aY .i64 v 1)))))))) (some (.inr l2))
def lx(ah:Int)(word:ByteArray)(l:List aI)(l1:List aa):Option (List aa):=aS (aK (fun s=>gY ah word l s.1 s.2) (l1,0)) (fun l5=>some l5)
def qY(ah:Int)(word:ByteArray)(l:List aI):Option (List aa):=br (cQ (aC l) 16) (eH (e_ [(aa.mk 4 word)].length 24) (lx ah word l [(aa.mk 4 word)])) (lx ah word l [])
def eZ(ah:Int)(word:ByteArray)(l:List aI)(l2:List aa)(v:Int)(x0:aI)(r:ByteArray)(l3:List aI)(v1:Int):Option ((Int)⊕(List aa)):=br (aT v1 (aC l3)) (aS (bq l3 v1) fun x1=>aS (An x0 x1) fun r3=>br r3 (eH (e_ (l2++[(aa.mk 6 (cM (cM word cj) r))]).length 24) (some (.inr (l2++[(aa.mk 6 (cM (cM word cj) r))])))) (some (.inl (aY .i64 v1 1)))) (some (.inr l2))
def fH(ah:Int)(word:ByteArray)(l:List aI)(l2:List aa)(v:Int):Option ((List aa×Int)⊕(List aa)):=br (aT v (aC l)) (aS (bq l v) fun x0=>eH (word.size+cj.size≤9223372036854775807) (aS (zJ v) fun r=>eH ((cM word cj).size+r.size≤9223372036854775807) (aS (o9 x0.x0 ah) fun r1=>br r1 (aS (o9 x0.x1 ah) fun r2=>br r2 (br (bP x0.x0 x0.x1) (eH (e_ (l2++[(aa.mk 2 (cM (cM word cj) r))]).length 24) (some (.inl ((l2++[(aa.mk 2 (cM (cM word cj) r))]),(aY .i64 v 1))))) (aS (vw l 0 v) fun l3=>aS (aK (fun s=>eZ ah word l l2 v x0 r l3 s) 0) (fun l4=>some (.inl (l4,(aY .i64 v 1)))))) (eH (e_ (l2++[(aa.mk 2 (cM (cM word cj) r))]).length 24) (some (.inl ((l2++[(aa.mk 2 (cM (cM word cj) r))]),(aY .i64 v 1)))))) (eH (e_ (l2++[(aa.mk 2 (cM (cM word cj) r))]).length 24) (some (.inl ((l2++[(aa.mk 2 (cM (cM word cj) r))]),(aY .i64 v 1)))))))) (some (.inr l2))
def iw(ah:Int)(word:ByteArray)(l:List aI)(l1:List aa):Option (List aa):=aS (aK (fun s=>fH ah word l s.1 s.2) (l1,0)) (fun l5=>some l5)
def mI(ah:Int)(word:ByteArray)(l:List aI):Option (List aa):=br (cQ (aC l) 16) (eH (e_ [(aa.mk 4 word)].length 24) (iw ah word l [(aa.mk 4 word)])) (iw ah word l [])
def Al(ah:Int)(db before:List aI):Option (List aa):=aS (mI ah G5 db) fun r=>aS (qY ah El before) fun r1=>eH (e_ (r++r1).length 24) (some (r++r1))
def rQ(x0:ae):Option (List aa):=aS (wm x0.bG) fun r=>aS (nt p5 r) fun r1=>aS (w_ x0.bG x0.types) fun r2=>aS (nt yM r2) fun r3=>aS (wN x0.types) fun r4=>aS (xk x0.bG r4 (aC x0.types) x0.ah) fun r5=>aS (nt wA r5) fun r6=>aS (Al (aC x0.ah) x0.db x0.before) fun r7=>aS (nt yL r7) fun r8=>aS (fA [r1,r3,r6,r8]) fun r9=>some r9
def oU(x0:ae):Option Bool:=aS (rQ x0) fun r=>some (bP (aC r) 0)
def yT(l:List aB):Option Bool:=aS (jU l) fun r=>some (bP (aC r) 0)
def qy(p:aB)(t:Int):Option Int:=some (dZ .i64 p.t t)
def cO(x0:List aB)(target i j:Int):Option ((Int×Int)⊕(Int)):=br (aT i j) (aS (bq x0 (zV .i64 (wZ .u64 (zV .u64 (aY .i64 i j)) 1))) fun x1=>aS (qy x1 target) fun r=>br (aT r 0) (some (.inl ((aY .i64 (zV .i64 (wZ .u64 (zV .u64 (aY .i64 i j)) 1)) 1),j))) (some (.inl (i,(zV .i64 (wZ .u64 (zV .u64 (aY .i64 i j)) 1)))))) (some (.inr i))
def dv(x0:List aB)(target:Int):Option (Int×Bool):=aS (aK (fun s=>cO x0 target s.1 s.2) (0,(aC x0))) (fun i1=>br (aT i1 (aC x0)) (aS (bq x0 i1) fun x2=>aS (qy x2 target) fun r1=>some (i1,(bP r1 0))) (some (i1,false)))
def wE(l:List aB)(t:Int):Option Int:=aS (dv l t) fun r=>br r.2 (aS (bq l r.1) fun x0=>some x0.a) (br (bP r.1 0) (aS (bq l 0) fun x1=>some (dZ .i64 (aY .i64 t x1.a) x1.t)) (br (bP r.1 (aC l)) (aS (bq l (dZ .i64 r.1 1)) fun x2=>some (dZ .i64 (aY .i64 t x2.a) x2.t)) (aS (bq l (dZ .i64 r.1 1)) fun x3=>aS (bq l r.1) fun x4=>eH (((dZ .i64 x4.t x3.t):Int)≠0) (some (aY .i64 x3.a (uw .i64 (dZ .i64 (aY .i64 (m_ .i64 (dZ .i64 t x3.t) (dZ .i64 x4.a x3.a)) (dZ .i64 x4.t x3.t)) 1) (dZ .i64 x4.t x3.t)))))))
def wD(l:List aB)(t:Int):Option Int:=aS (ni t 0 1073741824) fun r=>br r (aS (yT l) fun r1=>br r1 (aS (wE l t) fun r2=>some r2) (some 0)) (some 0)
def wW(a:aw)(t out v:Int):Option ((Int×Int)⊕(Int)):=br (aT v (aC a.eU)) (aS (bq a.eU v) fun x0=>br (jD x0.t t) (some (.inl ((aY .i64 out x0.a),(aY .i64 v 1)))) (some (.inl (out,(aY .i64 v 1))))) (some (.inr out))
def qs(a:aw)(t:Int):Option Int:=aS (wD a.dM t) fun r=>aS (aK (fun s=>wW a t s.1 s.2) (r,0)) (fun Qeh=>some Qeh)
def gK(n:ak)(aj aE t:Int)(l l1:List Int)(v:Int):Option ((List Int×Int)⊕(List Int)):=br (aT v (aC l)) (aS (bq l1 v) fun x0=>some (.inl ((gZ l1 v (-1)),(aY .i64 v 1)))) (some (.inr l1))
def gL(n:ak)(aj aE:Int)(l l4:List Int)(Bd:Bool)(v1:Int):Option ((List Int×Bool×Int)⊕(List Int×Bool)):=br (aT v1 (aC n.bj)) (aS (bq n.bj v1) fun x2=>br (cA x2.aj aj) (some (.inl (l4,Bd,(aY .i64 v1 1)))) (aS (kE n x2.aE) fun r1=>br r1 (aS (kE n x2.dE) fun r2=>br r2 (aS (bq l4 x2.aE) fun x3=>br (aT x3 0) (some (.inl (l4,Bd,(aY .i64 v1 1)))) (aS (qs x2 x3) fun r3=>aS (bq l4 x2.dE) fun x4=>br (aT x4 0) (some (.inl ((gZ l4 x2.dE r3),true,(aY .i64 v1 1)))) (br (aT r3 x4) (some (.inl ((gZ l4 x2.dE r3),true,(aY .i64 v1 1)))) (some (.inl (l4,Bd,(aY .i64 v1 1))))))) (some (.inl (l4,Bd,(aY .i64 v1 1))))) (some (.inl (l4,Bd,(aY .i64 v1 1)))))) (some (.inr (l4,Bd)))
def oh(n:ak)(aj aE:Int)(l l3:List Int)(better:Bool):Option ((List Int×Bool)⊕(List Int)):=br better (aS (aK (fun s=>gL n aj aE l s.1 s.2.1 s.2.2) (l3,false,0)) (fun e0=>(fun l5 RU=>some (.inl (l5,RU))) e0.1 e0.2)) (some (.inr l3))
def pt(n:ak)(aj aE t:Int):Option (List Int):=aS (KY (aC n.aD) (aC n.aD) 8 0) fun l=>aS (aK (fun s=>gK n aj aE t l s.1 s.2) (l,0)) (fun l2=>aS (kE n aE) fun r=>br r (aS (bq l2 aE) fun x1=>aS (aK (fun s=>oh n aj aE l s.1 s.2) ((gZ l2 aE t),true)) (fun l6=>some l6)) (some l2))
def iY(x0:ae)(l:List (List Int))(v:Int):Option ((List (List Int)×Int)⊕(List (List Int))):=br (aT v (aC x0.types)) (aS (bq x0.types v) fun x1=>aS (pt x0.bG x1.aj x1.aE x1.bm) fun r=>eH (e_ (l++[r]).length 24) (some (.inl ((l++[r]),(aY .i64 v 1))))) (some (.inr l))
def sq(x0:ae):Option bs:=aS (aK (fun s=>iY x0 s.1 s.2) ([],0)) (fun l1=>some (bs.mk x0 l1))
def rb(t:ag)(bD:Int):Option Bool:=some (((bZ t.bD 0)&&(bZ bD 0))&&(bP (wG .i64 bD t.bD) 0))
def eY(r:bs)(o:af)(place least v:Int):Option ((Int×Int)⊕(Int)):=br (aT v (aC r.x.types)) (aS (bq r.x.types v) fun x0=>aS (bq r.xD v) fun x1=>aS (bq x1 place) fun x2=>aS (rb x0 o.bD) fun r1=>br ((r1&&(bZ x2 0))&&((aT least 0)||(aT x2 least))) (some (.inl (x2,(aY .i64 v 1)))) (some (.inl (least,(aY .i64 v 1))))) (some (.inr least))
def mH(r:bs)(o:af)(place:Int):Option Int:=aS (aK (fun s=>eY r o place s.1 s.2) ((-1),0)) (fun WY=>some WY)
def mc(t:ag)(c:af)(c1:bs)(c2 c3:Int):Option Bool:=aS (rb t c.bD) fun r=>br r (aS (pt c1.x.bG t.aj c2 c3) fun r1=>aS (bq r1 t.dE) fun x0=>some ((bZ x0 0)&&(jD x0 t.bp))) (some false)
def ck(s0:List ag)(c:af)(c1:bs)(c2 c3 v:Int):Option ((Int)⊕((Unit)⊕(Int))):=br (aT v (aC s0)) (aS (bq s0 v) fun x0=>aS (mc x0 c c1 c2 c3) fun r=>br r (some (.inr (.inr v))) (some (.inl (aY .i64 v 1)))) (some (.inr (.inl ())))
def eS(s0:List ag)(c:af)(c1:bs)(c2 c3:Int):Option Int:=aS (aK (fun s=>ck s0 c c1 c2 c3 s) 0) (fun e=>jf e (fun(_:Unit)=>some (-1)) (fun r1=>some r1))
def eu(s0:List ag)(c:af)(c1:bs)(c2 c3:Int):Option Bool:=aS (eS s0 c c1 c2 c3) fun r=>some (bZ r 0)
def nz(r:bs)(o:af)(place cF:Int):Option Bool:=aS (eu r.x.types o r place cF) fun r1=>some r1
def ln(k:Int)(c:bs)(c1:af)(c2:aM)(c3:Int):Option Bool:=aS (nz c c1 c2.place (aY .i64 (aY .i64 c3 k) c2.bz)) fun r=>some (!r)
def mg(c:bs)(c1:af)(c2:aM)(c3 i j:Int):Option ((Int×Int)⊕(Int)):=br (aT i j) (aS (ln (zV .i64 (wZ .u64 (zV .u64 (aY .i64 i j)) 1)) c c1 c2 c3) fun r=>br r (some (.inl (i,(zV .i64 (wZ .u64 (zV .u64 (aY .i64 i j)) 1))))) (some (.inl ((aY .i64 (zV .i64 (wZ .u64 (zV .u64 (aY .i64 i j)) 1)) 1),j)))) (some (.inr i))
def oF(n:Int)(c:bs)(c1:af)(c2:aM)(c3:Int):Option Int:=aS (aK (fun s=>mg c c1 c2 c3 s.1 s.2) (0,n)) (fun i1=>some i1)
def jx(r:bs)(o:af)(s0:aM):Option aM:=br (aT s0.place 0) (some s0) (aS (mH r o s0.place) fun r1=>br ((aT r1 0)||(cQ r1 s0.bp)) (some s0) (aS (oF (aY .i64 (dZ .i64 s0.bp (zz s0.bm r1)) 1) r o s0 (zz s0.bm r1)) fun r2=>br (bP r2 0) (some s0) (some (aM.mk s0.place (zz s0.bm r1) (dZ .i64 (aY .i64 (zz s0.bm r1) r2) 1) s0.bz))))
def eV(s0:List af):Option (List af):=br (List.isEmpty s0) (amb (some []) (eH (e_ s0.length 152) (some s0))) (eH (e_ s0.length 152) (some s0))
def mv(x0:ae)(r1:bs)(r2 l:List af)(v:Int):Option ((List af×Int)⊕(List af)):=br (aT v (aC r2)) (aS (bq l v) fun x1=>br x1.off (some (.inl (l,(aY .i64 v 1)))) (aS (jx r1 x1 x1.pick) fun r3=>aS (jx r1 x1 x1.drop) fun r4=>some (.inl ((gZ (gZ l v (af.mk x1.name x1.load r3 x1.drop x1.bD x1.dA x1.split x1.bI x1.now x1.off)) v (af.mk x1.name x1.load r3 r4 x1.bD x1.dA x1.split x1.bI x1.now x1.off)),(aY .i64 v 1))))) (some (.inr l))
def yI(x0:ae):Option (ae×Int):=aS (oU x0) fun r=>br r (aS (sq x0) fun r1=>aS (eV x0.ah) fun r2=>aS (aK (fun s=>mv x0 r1 r2 s.1 s.2) (r2,0)) (fun l1=>some ((ae.mk x0.bG x0.types l1 x0.db x0.before),0))) (some ((ae.mk (ak.mk [] []) [] [] [] []),2))
def tD(n:ak)(aj aE dE v:Int):Option ((Int)⊕((Unit)⊕(aw×Bool))):=br (aT v (aC n.bj)) (aS (bq n.bj v) fun x0=>aS (nd x0) fun r=>br (bP r.aE aE&&(bP r.dE dE&&(bP r.aj aj&&true))) (some (.inr (.inr (x0,true)))) (some (.inl (aY .i64 v 1)))) (some (.inr (.inl ())))
def yw(n:ak)(aj aE dE:Int):Option (aw×Bool):=aS (aK (fun s=>tD n aj aE dE s) 0) (fun e=>jf e (fun(_:Unit)=>some ((aw.mk 0 0 0 0 [] []),false)) (fun r1=>some r1))
def uQ(n:ak)(aj aE dE t:Int):Option (Int×Int×Int):=aS (kE n aE) fun r=>br r (aS (kE n dE) fun r1=>br r1 (br (bP aE dE) (some (t,0,0)) (aS (yw n aj aE dE) fun r2=>br r2.2 (aS (qs r2.1 t) fun r3=>some (r3,r2.1.cT,0)) (some (0,0,12)))) (some (0,0,11))) (some (0,0,11))
def gX(r:bs)(a:aw)(v:Int):Option ((Int)⊕((Unit)⊕(Bool))):=br (aT v (aC r.x.types)) (aS (bq r.x.types v) fun x0=>aS (bq r.xD v) fun x1=>aS (bq x1 a.aE) fun x2=>br ((cA x0.aj a.aj)||(aT x2 0)) (some (.inl (aY .i64 v 1))) (aS (uQ r.x.bG a.aj a.aE a.dE x2) fun r1=>br ((bP r1.2.2 0)&&(jD r1.1 x0.bp)) (some (.inr (.inr true))) (some (.inl (aY .i64 v 1))))) (some (.inr (.inl ())))
def qX(r:bs)(a:aw):Option Bool:=aS (aK (fun s=>gX r a s) 0) (fun e=>jf e (fun(_:Unit)=>some false) (fun r2=>some r2))
def ny(x0:ae)(r1:bs)(l:List aw)(v:Int):Option ((List aw×Int)⊕(List aw)):=br (aT v (aC x0.bG.bj)) (aS (bq x0.bG.bj v) fun x1=>aS (qX r1 x1) fun r2=>br r2 (eH (e_ (l++[x1]).length 80) (some (.inl ((l++[x1]),(aY .i64 v 1))))) (some (.inl (l,(aY .i64 v 1))))) (some (.inr l))
def Aj(x0:ae):Option (ae×Int):=aS (oU x0) fun r=>br r (aS (sq x0) fun r1=>aS (aK (fun s=>ny x0 r1 s.1 s.2) ([],0)) (fun l1=>some ((ae.mk (ak.mk x0.bG.aD l1) x0.types x0.ah x0.db x0.before),0))) (some ((ae.mk (ak.mk [] []) [] [] [] []),2))
def rj(x0:ae):Option (ae×Int):=aS (yI x0) fun r=>br (cA r.2 0) (some ((ae.mk (ak.mk [] []) [] [] [] []),r.2)) (aS (Aj r.1) fun r1=>some (r1.1,r1.2))
def Az(l:List af)(sum v:Int):Option ((Int×Int)⊕(Int)):=br (aT v (aC l)) (aS (bq l v) fun x0=>some (.inl ((aY .i64 sum (dZ .i64 (aY .i64 (dZ .i64 x0.pick.bp x0.pick.bm) x0.drop.bp) x0.drop.bm)),(aY .i64 v 1)))) (some (.inr sum))
def Bq(l:List af):Option Int:=aS (aK (fun s=>Az l s.1 s.2) (0,0)) (fun XA=>some XA)
def G0(x0:ae):Option (Int×Int×Int):=aS (rj x0) fun r=>br (cA r.2 0) (some (0,0,r.2)) (aS (Bq x0.ah) fun r1=>aS (Bq r.1.ah) fun r2=>some ((dZ .i64 r1 r2),(dZ .i64 (aC x0.bG.bj) (aC r.1.bG.bj)),0))
def su(ba i:Int):Option Bool:=br ((bZ i 0)&&(jD i 62)) (eH ((0:Int)≤i) (some (bP (Sf .i64 (wZ .i64 ba i) 1) 1))) (some false)
def kO(ba:Int)(l:List Int)(v:Int):Option ((List Int×Int)⊕(List Int)):=br (aT v 63) (aS (su ba v) fun r=>br r (eH (e_ (l++[v]).length 8) (some (.inl ((l++[v]),(aY .i64 v 1))))) (some (.inl (l,(aY .i64 v 1))))) (some (.inr l))
def s6(ba:Int):Option (List Int):=aS (aK (fun s=>kO ba s.1 s.2) ([],0)) (fun l1=>some l1)
def tF(before:List aI)(l l2:List Int)(VF:Bool)(v:Int):Option ((List Int×Bool×Int)⊕(List Int×Bool)):=br (aT v (aC before)) (aS (bq before v) fun x0=>br ((((aT x0.x0 0)||(aT x0.x1 0))||(bZ x0.x0 (aC l2)))||(bZ x0.x1 (aC l2))) (some (.inl (l2,VF,(aY .i64 v 1)))) (aS (bq l2 x0.x1) fun x1=>aS (bq l2 x0.x0) fun x2=>eH ((0:Int)≤x0.x0) (br (cA (XW .i64 (XW .i64 x1 x2) (Pg .i64 1 x0.x0)) x1) (some (.inl ((gZ l2 x0.x1 (XW .i64 (XW .i64 x1 x2) (Pg .i64 1 x0.x0))),true,(aY .i64 v 1)))) (some (.inl (l2,VF,(aY .i64 v 1))))))) (some (.inr (l2,VF)))
def tE(before:List aI)(l l1:List Int)(more:Bool):Option ((List Int×Bool)⊕(List Int)):=br more (aS (aK (fun s=>tF before l s.1 s.2.1 s.2.2) (l1,false,0)) (fun e0=>(fun l3 QcF=>some (.inl (l3,QcF))) e0.1 e0.2)) (some (.inr l1))
def yJ(ah:Int)(before:List aI):Option (List Int):=aS (KY (zz ah 0) (zz ah 0) 8 0) fun l=>aS (aK (fun s=>tE before l s.1 s.2) (l,true)) (fun l4=>some l4)
def fk(x0:ae)(ba:Int)(r:List Int)(v:Int):Option ((Int)⊕((Unit)⊕(Int))):=br (aT v (aC r)) (aS (bq r v) fun x1=>br (bZ x1 (aC x0.ah)) (some (.inr (.inr 2))) (some (.inl (aY .i64 v 1)))) (some (.inr (.inl ())))
def fl(x0:ae)(ba:Int)(r:List Int)(v1:Int):Option ((Int)⊕((Unit)⊕(Int))):=br (aT v1 (aC r)) (aS (bq r v1) fun x2=>aS (bq x0.ah x2) fun x3=>br x3.off (some (.inr (.inr 9))) (some (.inl (aY .i64 v1 1)))) (some (.inr (.inl ())))
def fm(x0:ae)(ba:Int)(r:List Int)(v2:Int):Option ((Int)⊕((Unit)⊕(Int))):=br (aT v2 (aC x0.db)) (aS (bq x0.db v2) fun x4=>aS (su ba x4.x0) fun r1=>br r1 (aS (su ba x4.x1) fun r2=>br r2 (some (.inr (.inr 20))) (some (.inl (aY .i64 v2 1)))) (some (.inl (aY .i64 v2 1)))) (some (.inr (.inl ())))
def fp(x0:ae)(ba:Int)(r:List Int)(v3:Int):Option ((Int)⊕((Unit)⊕(Int))):=br (aT v3 (aC x0.before)) (aS (bq x0.before v3) fun x5=>aS (su ba x5.x1) fun r3=>br r3 (aS (su ba x5.x0) fun r4=>br r4 (some (.inl (aY .i64 v3 1))) (some (.inr (.inr 21)))) (some (.inl (aY .i64 v3 1)))) (some (.inr (.inl ())))
def fq(r r5:List Int)(v4:Int):Option ((Int)⊕((Unit)⊕(Int))):=br (aT v4 (aC r)) (aS (bq r v4) fun x6=>aS (bq r5 x6) fun x7=>aS (su x7 x6) fun r6=>br r6 (some (.inr (.inr 21))) (some (.inl (aY .i64 v4 1)))) (some (.inr (.inl ())))
def o8(x0:ae)(ba:Int):Option Int:=br (aT ba 0) (some 2) (aS (s6 ba) fun r=>aS (aK (fun s=>fk x0 ba r s) 0) (fun e=>jf e (fun(_:Unit)=>aS (aK (fun s=>fl x0 ba r s) 0) (fun e=>jf e (fun(_:Unit)=>aS (aK (fun s=>fm x0 ba r s) 0) (fun e=>jf e (fun(_:Unit)=>aS (aK (fun s=>fp x0 ba r s) 0) (fun e=>jf e (fun(_:Unit)=>aS (yJ (aC x0.ah) x0.before) fun r5=>aS (aK (fun s=>fq r r5 s) 0) (fun e=>jf e (fun(_:Unit)=>some 0) (fun r7=>some r7))) (fun r8=>some r8))) (fun r9=>some r9))) (fun Xf=>some Xf))) (fun Ft=>some Ft)))
def xl(l:List af)(di:Int):Option Bool:=some ((bZ di 0)&&(aT di (aC l)))
def qu(l:List af)(di:Int)(l1:List ab):Option (List ab):=aS (bq l di) fun x1=>br (bZ x1.drop.place 0) (eH (e_ (l1++[(ab.mk di true)]).length 16) (some (l1++[(ab.mk di true)]))) (some l1)
def oT(l:List af)(di:Int):Option (List ab):=aS (xl l di) fun r=>br r (aS (bq l di) fun x0=>br (bZ x0.pick.place 0) (eH (e_ [(ab.mk di false)].length 16) (qu l di [(ab.mk di false)])) (qu l di [])) (some [])
def df(s0:List ab)(v:ab)(v1:Int):Option ((Int)⊕((Unit)⊕(Int))):=br (aT v1 (aC s0)) (aS (bq s0 v1) fun x0=>br (bP v.aL x0.aL&&(T0 v.drop x0.drop&&true)) (some (.inr (.inr v1))) (some (.inl (aY .i64 v1 1)))) (some (.inr (.inl ())))
def eJ(s0:List ab)(v:ab):Option Int:=aS (aK (fun s=>df s0 v s) 0) (fun e=>jf e (fun(_:Unit)=>some (-1)) (fun r=>some r))
def kG(l:List ab)(v:ab):Option Int:=aS (eJ l v) fun r=>some r
def ky(l:List ab)(v:Int):Option ((Int)⊕((Unit)⊕(Bool))):=br (aT v (aC l)) (aS (bq l v) fun x0=>aS (vw l 0 v) fun l1=>aS (kG l1 x0) fun r=>br (bZ r 0) (some (.inr (.inr true))) (some (.inl (aY .i64 v 1)))) (some (.inr (.inl ())))
def uW(l:List ab):Option Bool:=aS (aK (fun s=>ky l s) 0) (fun e=>jf e (fun(_:Unit)=>some false) (fun r1=>some r1))
def ff(s0:List ab)(v:ab):Option Bool:=aS (eJ s0 v) fun r=>some (bZ r 0)
def ep(x0:ae)(l:List ab)(v:Int)(r:List ab)(bI v1:Int):Option ((Int×Int)⊕((Unit)⊕(Bool))):=br (aT v1 (aC r)) (aS (bq r v1) fun x2=>aS (kG l x2) fun r2=>br (jD r2 bI) (some (.inr (.inr false))) (some (.inl (r2,(aY .i64 v1 1))))) (some (.inr (.inl ())))
def jy(x0:ae)(l:List ab)(v:Int):Option ((Int)⊕((Unit)⊕(Bool))):=br (aT v (aC l)) (aS (bq l v) fun x1=>aS (oT x0.ah x1.aL) fun r=>aS (ff r x1) fun r1=>br r1 (aS (aK (fun s=>ep x0 l v r s.1 s.2) ((-1),0)) (fun e=>jf e (fun(_:Unit)=>some (.inl (aY .i64 v 1))) (fun r3=>some (.inr (.inr r3))))) (some (.inr (.inr false)))) (some (.inr (.inl ())))
def tJ(x0:ae)(l:List ab):Option Bool:=aS (aK (fun s=>jy x0 l s) 0) (fun e=>jf e (fun(_:Unit)=>some true) (fun r4=>some r4))
def yN(v:ab)(c:Int):Option Bool:=some (bP v.aL c)
def cw(s0:List ab)(c v:Int):Option ((Int)⊕((Unit)⊕(Int))):=br (aT v (aC s0)) (aS (bq s0 v) fun x0=>aS (yN x0 c) fun r=>br r (some (.inr (.inr v))) (some (.inl (aY .i64 v 1)))) (some (.inr (.inl ())))
def dQ(s0:List ab)(c:Int):Option Int:=aS (aK (fun s=>cw s0 c s) 0) (fun e=>jf e (fun(_:Unit)=>some (-1)) (fun r1=>some r1))
def eK(s0:List ab)(c:Int):Option Bool:=aS (dQ s0 c) fun r=>some (bZ r 0)
def q8(l:List ab)(o:Int):Option Bool:=aS (eK l o) fun r=>some r
def uu(v:ab)(c:Int):Option Bool:=some (bP v.aL c)
def cb(s0:List ab)(c v:Int):Option ((Int)⊕((Unit)⊕(Int))):=br (aT v (aC s0)) (aS (bq s0 v) fun x0=>aS (uu x0 c) fun r=>br r (some (.inr (.inr v))) (some (.inl (aY .i64 v 1)))) (some (.inr (.inl ())))
def dG(s0:List ab)(c:Int):Option Int:=aS (aK (fun s=>cb s0 c s) 0) (fun e=>jf e (fun(_:Unit)=>some (-1)) (fun r1=>some r1))
def tI(l:List ab)(a b:Int):Option Bool:=aS (dG l b) fun r=>br (aT r 0) (some true) (aS (q8 l a) fun r1=>br r1 (aS (vw l r (aC l)) fun l1=>aS (q8 l1 a) fun r2=>some (!r2)) (some false))
def vq(v:ab)(c:ae):Option Bool:=some ((aT v.aL 0)||(bZ v.aL (aC c.ah)))
def cp(s0:List ab)(c:ae)(v:Int):Option ((Int)⊕((Unit)⊕(Int))):=br (aT v (aC s0)) (aS (bq s0 v) fun x0=>aS (vq x0 c) fun r=>br r (some (.inr (.inr v))) (some (.inl (aY .i64 v 1)))) (some (.inr (.inl ())))
def dJ(s0:List ab)(c:ae):Option Int:=aS (aK (fun s=>cp s0 c s) 0) (fun e=>jf e (fun(_:Unit)=>some (-1)) (fun r1=>some r1))
def dt(s0:List ab)(c:ae):Option Bool:=aS (dJ s0 c) fun r=>some (bZ r 0)
def vr(v:ab)(c:ae):Option Bool:=aS (bq c.ah v.aL) fun x0=>some x0.off
def cq(s0:List ab)(c:ae)(v:Int):Option ((Int)⊕((Unit)⊕(Int))):=br (aT v (aC s0)) (aS (bq s0 v) fun x0=>aS (vr x0 c) fun r=>br r (some (.inr (.inr v))) (some (.inl (aY .i64 v 1)))) (some (.inr (.inl ())))
def dK(s0:List ab)(c:ae):Option Int:=aS (aK (fun s=>cq s0 c s) 0) (fun e=>jf e (fun(_:Unit)=>some (-1)) (fun r1=>some r1))
def du(s0:List ab)(c:ae):Option Bool:=aS (dK s0 c) fun r=>some (bZ r 0)
def kk(x0:ae)(r:ay)(v:Int):Option ((Int)⊕((Unit)⊕(Int))):=br (aT v (aC x0.db)) (aS (bq x0.db v) fun x1=>aS (q8 r.ar x1.x0) fun r5=>br r5 (aS (q8 r.ar x1.x1) fun r6=>br r6 (some (.inr (.inr 20))) (some (.inl (aY .i64 v 1)))) (some (.inl (aY .i64 v 1)))) (some (.inr (.inl ())))
def ko(x0:ae)(r:ay)(v1:Int):Option ((Int)⊕((Unit)⊕(Int))):=br (aT v1 (aC x0.before)) (aS (bq x0.before v1) fun x2=>aS (tI r.ar x2.x0 x2.x1) fun r7=>br r7 (some (.inl (aY .i64 v1 1))) (some (.inr (.inr 21)))) (some (.inr (.inl ())))
def sr(x0:ae)(r:ay):Option Int:=br (bP (aC r.ar) 0) (some 2) (aS (dt r.ar x0) fun r1=>br r1 (some 2) (aS (du r.ar x0) fun r2=>br r2 (some 9) (aS (uW r.ar) fun r3=>br r3 (some 6) (aS (tJ x0 r.ar) fun r4=>br r4 (aS (aK (fun s=>kk x0 r s) 0) (fun e=>jf e (fun(_:Unit)=>aS (aK (fun s=>ko x0 r s) 0) (fun e=>jf e (fun(_:Unit)=>some 0) (fun r8=>some r8))) (fun r9=>some r9))) (some 19)))))
def iu(x0:ae)(r:ay)(v:Int):Option ((Int)⊕((Unit)⊕(Int))):=br (aT v (aC r.ar)) (aS (bq r.ar v) fun x1=>aS (bq x0.types r.aR) fun x2=>aS (bq x0.ah x1.aL) fun x3=>aS (rb x2 x3.bD) fun r1=>br r1 (some (.inl (aY .i64 v 1))) (some (.inr (.inr 18)))) (some (.inr (.inl ())))
def wY(x0:ae)(r:ay):Option Int:=aS (aK (fun s=>iu x0 r s) 0) (fun e=>jf e (fun(_:Unit)=>some 0) (fun r2=>some r2))
def p6(r:ay)(ba v:Int):Option ((Int×Int)⊕((Int)⊕(Int×Int))):=br (aT v (aC r.ar)) (aS (bq r.ar v) fun x0=>br ((aT x0.aL 0)||(cQ x0.aL 62)) (some (.inr (.inr (0,2)))) (eH ((0:Int)≤x0.aL) (some (.inl ((XW .i64 ba (Pg .i64 1 x0.aL)),(aY .i64 v 1)))))) (some (.inr (.inl ba)))
def qw(r:ay):Option (Int×Int):=aS (aK (fun s=>p6 r s.1 s.2) (0,0)) (fun e=>jf e (fun tK=>some (tK,0)) (fun r1=>some r1))
def FZ(a b:Int):Option Int:=some (aY .i64 a b)
def gA(a b l l1:List Int)(v:Int):Option ((List Int×Int)⊕(List Int)):=br (aT v (aC a)) (aS (bq a v) fun x0=>aS (bq b v) fun x1=>aS (FZ x0 x1) fun r=>aS (bq l1 v) fun x2=>some (.inl ((gZ l1 v r),(aY .i64 v 1)))) (some (.inr l1))
def sT(a b:List Int):Option (List Int×Int):=br (cA (aC a) (aC b)) (some ([],2)) (aS (KY (aC a) (aC a) 8 0) fun l=>aS (aK (fun s=>gA a b l s.1 s.2) (l,0)) (fun l2=>some (l2,0)))
def BC(a b:List Int):Option (List Int×Int):=aS (sT a b) fun r=>some (r.1,r.2)
def lR(x0:ae)(l r sum:List Int)(v:Int):Option ((List Int×Int)⊕(List Int)):=br (aT v (aC r)) (aS (bq r v) fun x1=>aS (bq x0.ah x1) fun x2=>br (aT x2.pick.place 0) (aS (BC sum x2.load) fun r1=>some (.inl (r1.1,(aY .i64 v 1)))) (some (.inl (sum,(aY .i64 v 1))))) (some (.inr sum))
def zT(x0:ae)(ba bL:Int):Option (List Int):=aS (KY bL bL 8 0) fun l=>aS (s6 ba) fun r=>aS (aK (fun s=>lR x0 l r s.1 s.2) (l,0)) (fun XA=>some XA)
def Di(a b:Int):Option Int:=some (dZ .i64 a b)
def ga(a b l l1:List Int)(v:Int):Option ((List Int×Int)⊕(List Int)):=br (aT v (aC a)) (aS (bq a v) fun x0=>aS (bq b v) fun x1=>aS (Di x0 x1) fun r=>aS (bq l1 v) fun x2=>some (.inl ((gZ l1 v r),(aY .i64 v 1)))) (some (.inr l1))
def rB(a b:List Int):Option (List Int×Int):=br (cA (aC a) (aC b)) (some ([],2)) (aS (KY (aC a) (aC a) 8 0) fun l=>aS (aK (fun s=>ga a b l s.1 s.2) (l,0)) (fun l2=>some (l2,0)))
def EN(a b:List Int):Option (List Int×Int):=aS (rB a b) fun r=>some (r.1,r.2)
def lQ(x0:ae)(r:ay)(l:List (List Int))(now:List Int)(v:Int):Option ((List (List Int)×List Int×Int)⊕((List (List Int))⊕(List (List Int)×Int))):=br (aT v (aC r.ar)) (aS (bq r.ar v) fun x1=>br x1.drop (aS (bq x0.ah x1.aL) fun x2=>aS (EN now x2.load) fun r5=>br (cA r5.2 0) (some (.inr (.inr ([],r5.2)))) (eH (e_ (l++[r5.1]).length 24) (some (.inl ((l++[r5.1]),r5.1,(aY .i64 v 1)))))) (aS (bq x0.ah x1.aL) fun x3=>aS (BC now x3.load) fun r6=>br (cA r6.2 0) (some (.inr (.inr ([],r6.2)))) (eH (e_ (l++[r6.1]).length 24) (some (.inl ((l++[r6.1]),r6.1,(aY .i64 v 1))))))) (some (.inr (.inl l)))
def zS(x0:ae)(r:ay):Option (List (List Int)×Int):=aS (sr x0 r) fun r1=>br (cA r1 0) (some ([],r1)) (aS (qw r) fun r2=>br (cA r2.2 0) (some ([],r2.2)) (aS (wN x0.types) fun r3=>aS (zT x0 r2.1 r3) fun r4=>aS (aK (fun s=>lQ x0 r s.1 s.2.1 s.2.2) ([r4],r4,0)) (fun e=>jf e (fun l1=>some (l1,0)) (fun r7=>some r7))))
def o7(a capacity:List Int)(v:Int):Option ((Int)⊕((Unit)⊕(Bool))):=br (aT v (aC a)) (aS (bq a v) fun x0=>aS (bq capacity v) fun x1=>br (cQ x0 x1) (some (.inr (.inr false))) (some (.inl (aY .i64 v 1)))) (some (.inr (.inl ())))
def BW(a capacity:List Int):Option Bool:=br (cA (aC a) (aC capacity)) (some false) (aS (aK (fun s=>o7 a capacity s) 0) (fun e=>jf e (fun(_:Unit)=>some true) (fun r=>some r)))
def Bf(a:List Int)(c:ae)(c1:ay):Option Bool:=aS (bq c.types c1.aR) fun x0=>aS (BW a x0.cap) fun r=>some (!r)
def cR(s0:List (List Int))(c:ae)(c1:ay)(v:Int):Option ((Int)⊕((Unit)⊕(Int))):=br (aT v (aC s0)) (aS (bq s0 v) fun x0=>aS (Bf x0 c c1) fun r=>br r (some (.inr (.inr v))) (some (.inl (aY .i64 v 1)))) (some (.inr (.inl ())))
def fg(s0:List (List Int))(c:ae)(c1:ay):Option Int:=aS (aK (fun s=>cR s0 c c1 s) 0) (fun e=>jf e (fun(_:Unit)=>some (-1)) (fun r1=>some r1))
def fM(s0:List (List Int))(c:ae)(c1:ay):Option Bool:=aS (fg s0 c c1) fun r=>some (bZ r 0)
def BN(x0:ae)(r:ay):Option Int:=br ((aT r.aR 0)||(bZ r.aR (aC x0.types))) (some 2) (aS (zS x0 r) fun r1=>br (cA r1.2 0) (some r1.2) (aS (fM r1.1 x0 r) fun r2=>br r2 (some 17) (some 0)))
def wq(x1:aM):Option (aM×Int):=br (aT x1.place 0) (some ((aM.mk 0 0 0 0),19)) (some (x1,0))
def zB(l:List af)(v:ab):Option (aM×Int):=aS (xl l v.aL) fun r=>br r (aS (bq l v.aL) fun x0=>br v.drop (wq x0.drop) (wq x0.pick)) (some ((aM.mk 0 0 0 0),2))
def wb(x0:ae)(r:ay)(x1:ag)(l:List aM)(v:Int):Option ((List aM×Int)⊕((List aM)⊕(bw×Bool))):=br (aT v (aC r.ar)) (aS (bq r.ar v) fun x2=>aS (zB x0.ah x2) fun r1=>br ((cA r1.2 0)||(aT r1.1.place 0)) (some (.inr (.inr ((bw.mk (ae.mk (ak.mk [] []) [] [] [] []) (ag.mk ByteArray.empty 0 0 0 [] 0 0 0 0 0 0 0 0 0) (ay.mk 0 0 [] []) []),false)))) (eH (e_ (l++[r1.1]).length 32) (some (.inl ((l++[r1.1]),(aY .i64 v 1)))))) (some (.inr (.inl l)))
def zq(x0:ae)(r:ay):Option (bw×Bool):=br (((((aT r.aR 0)||(bZ r.aR (aC x0.types)))||(aT r.aH 0))||(cQ r.aH 4096))||(cQ (aC r.ar) 20)) (some ((bw.mk (ae.mk (ak.mk [] []) [] [] [] []) (ag.mk ByteArray.empty 0 0 0 [] 0 0 0 0 0 0 0 0 0) (ay.mk 0 0 [] []) []),false)) (aS (bq x0.types r.aR) fun x1=>aS (aK (fun s=>wb x0 r x1 s.1 s.2) ([],0)) (fun e=>jf e (fun l1=>some ((bw.mk x0 x1 r l1),true)) (fun r2=>some r2)))
def ir(p:bw):Option au:=some (au.mk (zz p.t.bm p.r.aH) 0 (aQ.mk false 0 [] 0 0))
def vD(s0:aM)(jK:Int):Option (Int×Int):=br (cQ (zz jK s0.bm) s0.bp) (some (0,14)) (some ((zz jK s0.bm),0))
def pb(p:bw)(ar:Int):Option Int:=br (bP ar 0) (some p.t.aE) (aS (bq p.aG (dZ .i64 ar 1)) fun x0=>some x0.place)
def ft(s0:List aX):Option (List aX):=br (List.isEmpty s0) (amb (some []) (eH (e_ s0.length 32) (some s0))) (eH (e_ s0.length 32) (some s0))
def mQ(p:bw)(l:au)(cF gw:Int)(v8:Bool)(m6:Int)(r2:Int×Int×Int)(l2:List aX)(ready lE:Int):Option (au×Int):=br (cQ (dZ .i64 (aY .i64 gw r2.1) cF) p.t.kC) (some ((au.mk 0 0 (aQ.mk false 0 [] 0 0)),16)) (some ((au.mk ready (dZ .i64 (aY .i64 gw r2.1) cF) (aQ.mk v8 m6 l2 lE (aY .i64 l.dD.cT r2.2.1))),0))
def kT(p:bw)(l:au)(done cF gw:Int)(l1:List aX)(v8:Bool)(m6 dE:Int):Option (au×Int):=aS (pb p done) fun r1=>aS (uQ p.x.bG p.t.aj r1 dE cF) fun r2=>br (cA r2.2.2 0) (some ((au.mk 0 0 (aQ.mk false 0 [] 0 0)),12)) (br (bP done (aC p.aG)) (br (cQ r2.1 p.t.bp) (some ((au.mk 0 0 (aQ.mk false 0 [] 0 0)),15)) (mQ p l cF gw v8 m6 r2 l1 r2.1 r2.1)) (aS (bq p.aG done) fun x2=>aS (vD x2 r2.1) fun r3=>br (cA r3.2 0) (some ((au.mk 0 0 (aQ.mk false 0 [] 0 0)),14)) (eH (e_ (l1++[(aX.mk r2.1 r3.1 0 false)]).length 32) (mQ p l cF gw v8 m6 r2 (l1++[(aX.mk r2.1 r3.1 0 false)]) (aY .i64 r3.1 x2.bz) l.dD.lE))))
def mP(p:bw)(l:au)(done cF gw:Int)(l1:List aX)(v8:Bool)(m6:Int):Option (au×Int):=br (bP done (aC p.aG)) (kT p l done cF gw l1 v8 m6 p.t.dE) (aS (bq p.aG done) fun x1=>kT p l done cF gw l1 v8 m6 x1.place)
def mO(p:bw)(l:au)(done:Int)(de:Bool)(cF gw:Int):Option (au×Int):=aS (ft l.dD.je) fun r=>br (bP done 0) (mP p l done cF gw r de cF) (aS (bq r (dZ .i64 done 1)) fun x0=>mP p l done cF gw (gZ (gZ r (dZ .i64 done 1) (aX.mk x0.jK x0.uB x0.cF de)) (dZ .i64 done 1) (aX.mk x0.jK x0.uB cF de)) l.dD.de l.dD.cF)
def mu(p:bw)(l:au)(done:Int)(de:Bool):Option (au×Int):=br de (mO p l done de (aY .i64 l.ready p.t.de) 0) (mO p l done de l.ready l.gw)
def xA(l m:au):Option Bool:=some ((bP l.ready m.ready)&&(jD l.gw m.gw))
def qC(m c:au):Option Bool:=aS (xA m c) fun r=>some r
def bE(s0:List au)(c:au)(v:Int):Option ((Int)⊕((Unit)⊕(Int))):=br (aT v (aC s0)) (aS (bq s0 v) fun x0=>aS (qC x0 c) fun r=>br r (some (.inr (.inr v))) (some (.inl (aY .i64 v 1)))) (some (.inr (.inl ())))
def ez(s0:List au)(c:au):Option Int:=aS (aK (fun s=>bE s0 c s) 0) (fun e=>jf e (fun(_:Unit)=>some (-1)) (fun r1=>some r1))
def cP(s0:List au)(c:au):Option Bool:=aS (ez s0 c) fun r=>some (bZ r 0)
def hG(p:bw)(l:List au)(done:Int)(jL:List Bool)(v:Int)(x0:au)(l3:List au)(v1:Int):Option ((List au×Int)⊕(List au)):=br (aT v1 (aC jL)) (aS (bq jL v1) fun x1=>aS (mu p x0 done x1) fun r=>br (bP r.2 0) (aS (cP l3 r.1) fun r1=>br r1 (some (.inl (l3,(aY .i64 v1 1)))) (eH (e_ (l3++[r.1]).length 72) (some (.inl ((l3++[r.1]),(aY .i64 v1 1)))))) (some (.inl (l3,(aY .i64 v1 1))))) (some (.inr l3))
def g_(p:bw)(l:List au)(done:Int)(jL:List Bool)(l2:List au)(v:Int):Option ((List au×Int)⊕(List au)):=br (aT v (aC l)) (aS (bq l v) fun x0=>aS (aK (fun s=>hG p l done jL v x0 s.1 s.2) (l2,0)) (fun l4=>some (.inl (l4,(aY .i64 v 1))))) (some (.inr l2))
def mN(p:bw)(l:List au)(done:Int)(jL:List Bool):Option (List au):=aS (aK (fun s=>g_ p l done jL s.1 s.2) ([],0)) (fun l5=>some l5)
def nO(p:bw)(l:List au)(done:Int):Option (List au):=br (aT done (aC p.r.aP)) (aS (vw p.r.aP done (aY .i64 done 1)) fun l1=>mN p l done l1) (mN p l done [false,true])
def qF(p:bw)(aP:List Bool)(r:au)(de:Int)(x0:au)(v:Int):Option ((Int×au×Int)⊕((au)⊕(aQ×Int))):=br (aT v (aC aP)) (aS (bq aP v) fun x1=>aS (mu (bw.mk p.x (ag.mk p.t.name p.t.yW p.t.aE p.t.dE p.t.cap p.t.bD p.t.aj p.t.bm p.t.bp p.t.kC de p.t.pK p.t.ia p.t.ib) p.r p.aG) x0 v x1) fun r1=>br (cA r1.2 0) (some (.inr (.inr ((aQ.mk false 0 [] 0 0),r1.2)))) (some (.inl (de,r1.1,(aY .i64 v 1))))) (some (.inr (.inl x0)))
def rJ(p:bw)(aP:List Bool):Option (aQ×Int):=aS (ir p) fun r=>aS (aK (fun s=>qF p aP r s.1 s.2.1 s.2.2) (p.t.de,r,0)) (fun e=>jf e (fun x2=>some (x2.dD,0)) (fun r2=>some r2))
def lK(r:ay)(r1:bw×Bool)(l:List au)(v:Int):Option ((List au×Int)⊕(List au)):=br (aT v (aY .i64 (aC r.ar) 1)) (aS (nO r1.1 l v) fun r3=>some (.inl (r3,(aY .i64 v 1)))) (some (.inr l))
def lM(l3:List au)(x2:au)(v1:Int):Option ((au×Int)⊕(au)):=br (aT v1 (aC l3)) (aS (bq l3 v1) fun x3=>br (aT x3.dD.lE x2.dD.lE) (some (.inl (x3,(aY .i64 v1 1)))) (some (.inl (x2,(aY .i64 v1 1))))) (some (.inr x2))
def zp(x0:ae)(r:ay):Option (aQ×Int):=aS (zq x0 r) fun r1=>br ((!r1.2)||(cQ (aC r.aP) (aY .i64 (aC r.ar) 1))) (some ((aQ.mk false 0 [] 0 0),2)) (aS (ir r1.1) fun r2=>aS (aK (fun s=>lK r r1 s.1 s.2) ([r2],0)) (fun l1=>br (bP (aC l1) 0) (aS (KY (aY .i64 (aC r.ar) 1) (aY .i64 (aC r.ar) 1) 1 false) fun l2=>aS (rJ r1.1 (HA l2 r.aP)) fun r4=>some (r4.1,r4.2)) (aS (bq l1 0) fun x1=>aS (vw l1 1 (aC l1)) fun l3=>aS (aK (fun s=>lM l3 s.1 s.2) (x1,0)) (fun x4=>some (x4.dD,0)))))
def wy(kind own:Int):Option Bool:=some ((cA kind (-1))&&(cA kind own))
def uT(x0:ae)(r:ay)(s0:aQ)(x1:ag)(l:List (Int×Int))(eQ v:Int)(x2:ab)(x3:af)(Ax:Int):Option ((List (Int×Int)×Int×Int×Int)⊕(Int×Int)):=aS (wy x3.bI r.aR) fun r2=>br r2 (some (.inl ((vh bP l x2.aL (aY .i64 (pY bP l x2.aL 0) 1)),Ax,(aY .i64 eQ 1),(aY .i64 v 1)))) (some (.inl ((vh bP l x2.aL (aY .i64 (pY bP l x2.aL 0) 1)),Ax,eQ,(aY .i64 v 1))))
def l_(x0:ae)(r:ay)(s0:aQ)(x1:ag)(l:List (Int×Int))(ee eQ v:Int):Option ((List (Int×Int)×Int×Int×Int)⊕(Int×Int)):=br (aT v (aC r.ar)) (aS (bq r.ar v) fun x2=>br ((aT x2.aL 0)||(bZ x2.aL (aC x0.ah))) (some (.inl ((vh bP l x2.aL (aY .i64 (pY bP l x2.aL 0) 1)),ee,eQ,(aY .i64 v 1)))) (br (cQ (pY bP (vh bP l x2.aL (aY .i64 (pY bP l x2.aL 0) 1)) x2.aL 0) 1) (some (.inl ((vh bP l x2.aL (aY .i64 (pY bP l x2.aL 0) 1)),ee,eQ,(aY .i64 v 1)))) (aS (bq x0.ah x2.aL) fun x3=>aS (wy x3.now r.aR) fun r1=>br r1 (uT x0 r s0 x1 l eQ v x2 x3 (aY .i64 ee 1)) (uT x0 r s0 x1 l eQ v x2 x3 ee)))) (some (.inr (ee,eQ)))
def Ai(x0:ae)(r:ay)(s0:aQ):Option bJ:=br ((aT r.aR 0)||(bZ r.aR (aC x0.types))) (some (bJ.mk 0 0 0 0)) (aS (bq x0.types r.aR) fun x1=>aS (aK (fun s=>l_ x0 r s0 x1 s.1 s.2.1 s.2.2.1 s.2.2.2) ([],0,0,0)) (fun e0=>(fun GQ GY=>some (bJ.mk (aY .i64 (aY .i64 x1.pK (m_ .i64 x1.ia s0.cT)) (m_ .i64 x1.ib (dZ .i64 s0.lE x1.bm))) GQ GY (m_ .i64 (uw .i64 (dZ .i64 s0.lE x1.bm) 64) (uw .i64 (dZ .i64 s0.lE x1.bm) 64)))) e0.1 e0.2))
def me(x0:ae)(r:ay):Option (aQ×bJ×Int):=br ((aT r.aR 0)||(bZ r.aR (aC x0.types))) (some ((aQ.mk false 0 [] 0 0),(bJ.mk 0 0 0 0),2)) (aS (sr x0 r) fun r1=>br (cA r1 0) (some ((aQ.mk false 0 [] 0 0),(bJ.mk 0 0 0 0),r1)) (aS (wY x0 r) fun r2=>br (cA r2 0) (some ((aQ.mk false 0 [] 0 0),(bJ.mk 0 0 0 0),r2)) (aS (BN x0 r) fun r3=>br (cA r3 0) (some ((aQ.mk false 0 [] 0 0),(bJ.mk 0 0 0 0),r3)) (aS (zp x0 r) fun r4=>br (cA r4.2 0) (some ((aQ.mk false 0 [] 0 0),(bJ.mk 0 0 0 0),r4.2)) (aS (Ai x0 r r4.1) fun r5=>some (r4.1,r5,0))))))
def DH(s0:bJ):Option Z9:=some (Z9.mk s0.iq s0.ee s0.eQ s0.C9)
def yH(s0:bJ):Option (Int×Int):=aS (DH s0) fun r=>br (aT r.x0 0) (some (0,2)) (br (aT r.x1 0) (some (0,2)) (br (aT r.x2 0) (some (0,2)) (br (aT r.x3 0) (some (0,2)) (br ((((cQ s0.iq 1073741824)||(bZ s0.ee 16))||(bZ s0.eQ 16))||(bZ s0.C9 65536)) (some (0,4)) (some ((aY .i64 (m_ .i64 (aY .i64 (m_ .i64 (aY .i64 (m_ .i64 s0.iq 16) s0.ee) 16) s0.eQ) 65536) s0.C9),0))))))
def lu(x0:ae)(r:ay):Option (Int×Int):=aS (me x0 r) fun r1=>br (cA r1.2.2 0) (some (0,r1.2.2)) (aS (yH r1.2.1) fun r2=>some (r2.1,r2.2))
def m4(v:ab):Option Int:=br v.drop (some 1) (some 0)
def lS(uc:List Int)(v:Int):Option ((Int)⊕((Unit)⊕(Int))):=br (aT v (aC uc)) (aS (bq uc v) fun x0=>br (cA x0 0) (some (.inr (.inr x0))) (some (.inl (aY .i64 v 1)))) (some (.inr (.inl ())))
def zU(uc:List Int):Option Int:=aS (aK (fun s=>lS uc s) 0) (fun e=>jf e (fun(_:Unit)=>some 0) (fun r=>some r))
def uE(x0:Int):Option Bool:=some (cA x0 x0)
def pa(x0 y:Int):Option Int:=aS (uE x0) fun r=>aS (uE y) fun r1=>br r (br r1 (some 0) (some (-1))) (br r1 (some 1) (br (aT x0 y) (some (-1)) (br (cQ x0 y) (some 1) (some 0))))
def ss(a b:ab):Option Int:=aS (pa a.aL b.aL) fun r=>aS (m4 a) fun r1=>aS (m4 b) fun r2=>aS (pa r1 r2) fun r3=>aS (zU [r,r3]) fun r4=>some r4
def bu(s1 s2:List ab)(v:Int):Option ((Int)⊕((Unit)⊕(Int))):=br (aT v (aC s1)) (aS (bq s1 v) fun x0=>br (bZ v (aC s2)) (some (.inr (.inr 1))) (aS (bq s2 v) fun x1=>aS (ss x0 x1) fun r=>br (cA r 0) (some (.inr (.inr r))) (some (.inl (aY .i64 v 1))))) (some (.inr (.inl ())))
def cU(s1 s2:List ab):Option Int:=aS (aK (fun s=>bu s1 s2 s) 0) (fun e=>jf e (fun(_:Unit)=>br (aT (aC s1) (aC s2)) (some (-1)) (some 0)) (fun r1=>some r1))
def wB(a b:List ab):Option Bool:=aS (cU a b) fun r=>some (aT r 0)
def uC(a b:al):Option Bool:=br (cA a.eR b.eR) (some (aT a.eR b.eR)) (aS (wB a.bH.ar b.bH.ar) fun r=>some r)
def iZ(x0:ae)(l:List ab)(v:ab)(r1:List ab)(v1:Int):Option ((Int)⊕((Unit)⊕(Bool))):=br (aT v1 (aC r1)) (aS (bq r1 v1) fun x1=>br (bP x1.aL v.aL&&(T0 x1.drop v.drop&&true)) (some (.inr (.inl ()))) (aS (kG l x1) fun r2=>br (aT r2 0) (some (.inr (.inr false))) (some (.inl (aY .i64 v1 1))))) (some (.inr (.inl ())))
def ku(x0:ae)(l:List ab)(v:ab)(v2:Int)(r3:List ab)(v3:Int):Option ((Int)⊕((Unit)⊕(Bool))):=br (aT v3 (aC r3)) (aS (bq r3 v3) fun x3=>aS (kG l x3) fun r4=>br (aT r4 0) (some (.inr (.inr false))) (some (.inl (aY .i64 v3 1)))) (some (.inr (.inl ())))
def kr(x0:ae)(l:List ab)(v:ab)(v2:Int):Option ((Int)⊕((Unit)⊕(Bool))):=br (aT v2 (aC x0.before)) (aS (bq x0.before v2) fun x2=>br (cA x2.x1 v.aL) (some (.inl (aY .i64 v2 1))) (aS (oT x0.ah x2.x0) fun r3=>aS (aK (fun s=>ku x0 l v v2 r3 s) 0) (fun e=>jf e (fun(_:Unit)=>some (.inl (aY .i64 v2 1))) (fun r5=>some (.inr (.inr r5)))))) (some (.inr (.inl ())))
def uV(x0:ae)(l:List ab)(v:ab):Option Bool:=aS (kG l v) fun r=>br (bZ r 0) (some false) (aS (oT x0.ah v.aL) fun r1=>aS (aK (fun s=>iZ x0 l v r1 s) 0) (fun e=>jf e (fun(_:Unit)=>aS (aK (fun s=>kr x0 l v s) 0) (fun e=>jf e (fun(_:Unit)=>some true) (fun r6=>some r6))) (fun r7=>some r7)))
def lz(x0:ae)(ba:Int)(l:List ab)(v:Int)(r l2:List ab)(v1:Int):Option ((List ab×Int)⊕(List ab)):=br (aT v1 (aC r)) (aS (bq r v1) fun x2=>aS (uV x0 l x2) fun r1=>br r1 (eH (e_ (l2++[x2]).length 16) (some (.inl ((l2++[x2]),(aY .i64 v1 1))))) (some (.inl (l2,(aY .i64 v1 1))))) (some (.inr l2))
def jT(x0:ae)(ba:Int)(l l1:List ab)(v:Int):Option ((List ab×Int)⊕(List ab)):=br (aT v (aC x0.ah)) (aS (bq x0.ah v) fun x1=>br (cQ v 62) (some (.inl (l1,(aY .i64 v 1)))) (eH ((0:Int)≤v) (br ((bP (Sf .i64 (wZ .i64 ba v) 1) 0)||x1.off) (some (.inl (l1,(aY .i64 v 1)))) (aS (oT x0.ah v) fun r=>aS (aK (fun s=>lz x0 ba l v r s.1 s.2) (l1,0)) (fun l3=>some (.inl (l3,(aY .i64 v 1)))))))) (some (.inr l1))
def wC(x0:ae)(ba:Int)(l:List ab):Option (List ab):=aS (aK (fun s=>jT x0 ba l s.1 s.2) ([],0)) (fun l4=>some l4)
def cZ(s0:List aF)(v:aF)(v1:Int):Option ((Int)⊕((Unit)⊕(Int))):=br (aT v1 (aC s0)) (aS (bq s0 v1) fun x0=>br (bP v.ready x0.ready&&(bP v.gy x0.gy&&true)) (some (.inr (.inr v1))) (some (.inl (aY .i64 v1 1)))) (some (.inr (.inl ())))
def fu(s0:List aF)(v:aF):Option Int:=aS (aK (fun s=>cZ s0 v s) 0) (fun e=>jf e (fun(_:Unit)=>some (-1)) (fun r=>some r))
def fR(s0:List aF)(v:aF):Option Bool:=aS (fu s0 v) fun r=>some (bZ r 0)
def o6(l:List aF)(s0:aF):Option (List aF):=aS (fR l s0) fun r=>br r (some l) (eH (e_ (l++[s0]).length 16) (some (l++[s0])))
def wF(s0:aM)(jK:Int):Option (Int×Int):=aS (vD s0 jK) fun r=>br (cA r.2 0) (some (0,r.2)) (some ((aY .i64 r.1 s0.bz),0))
def fP(s0:List ab):Option (List ab):=aS (vw s0 0 (aC s0)) fun l=>some l
def kf(dW:al)(some_:Bool)(VI:al):Option al:=br some_ (aS (uC VI dW) fun r=>br r (some VI) (some dW)) (some VI)
def mB(s0:aW)(l:List aF)(cF gy:Int):Option (List aF×aW):=aS (o6 l (aF.mk cF gy)) fun r=>aS (bq s0.x.types s0.kind) fun x0=>aS (o6 r (aF.mk (aY .i64 cF x0.de) 0)) fun r1=>some (r1,s0)
def nm(aE:Int)(l:List aF)(stop:aM)(x0:ag)(l1:List aF)(x1:aW)(v:Int):Option ((List aF×aW×Int)⊕(List aF×aW)):=br (aT v (aC l)) (aS (bq l v) fun x2=>aS (uQ x1.x.bG x0.aj aE stop.place x2.ready) fun r=>br ((cA r.2.2 0)||(cQ (dZ .i64 (aY .i64 x2.gy r.1) x2.ready) x0.kC)) (some (.inl (l1,x1,(aY .i64 v 1)))) (aS (wF stop r.1) fun r1=>br (cA r1.2 0) (some (.inl (l1,x1,(aY .i64 v 1)))) (aS (mB x1 l1 r1.1 (dZ .i64 (aY .i64 x2.gy r.1) x2.ready)) fun r2=>some (.inl (r2.1,r2.2,(aY .i64 v 1)))))) (some (.inr (l1,x1)))
def qB(s0:aW)(aE:Int)(l:List aF)(stop:aM):Option (List aF×aW):=aS (bq s0.x.types s0.kind) fun x0=>aS (aK (fun s=>nm aE l stop x0 s.1 s.2.1 s.2.2) ([],s0,0)) (fun e0=>(fun l2 x3=>some (l2,x3)) e0.1 e0.2)
def n6(self:aW→(List ab)→Int→(List aF)→Option aW)(ar:List ab)(aE:Int)(l:List aF)(r2:List ab)(x0:aW)(v:Int):Option ((aW×Int)⊕(aW)):=br (aT v (aC r2)) (aS (bq r2 v) fun x1=>aS (zB x0.x.ah x1) fun r3=>br (cA r3.2 0) (some (.inl (x0,(aY .i64 v 1)))) (aS (qB x0 aE l r3.1) fun r4=>br (cQ (aC r4.1) 0) (aS (fP ar) fun r5=>eH (e_ (r5++[x1]).length 16) (aS (self r4.2 (r5++[x1]) r3.1.place r4.1) fun r6=>some (.inl (r6,(aY .i64 v 1))))) (some (.inl (r4.2,(aY .i64 v 1)))))) (some (.inr x0))
def pF(self:aW→(List ab)→Int→(List aF)→Option aW)(s0:aW)(ar:List ab)(aE:Int)(l:List aF):Option aW:=br (bP (aC ar) s0.qb) (aS (lu s0.x (ay.mk s0.kind 0 [] ar)) fun r=>br (bP r.2 0) (aS (kf s0.dW s0.fZ (al.mk s0.kind s0.ba r.1 (ay.mk s0.kind 0 [] ar))) fun r1=>some (aW.mk s0.x s0.kind s0.ba s0.qb r1 true)) (some s0)) (aS (wC s0.x s0.ba ar) fun r2=>aS (aK (fun s=>n6 self ar aE l r2 s.1 s.2) (s0,0)) (fun x2=>some x2))
def kR:Nat→aW→(List ab)→Int→(List aF)→Option aW|0=>fun _ _ _ _=>none|zZ+1=>fun s0 ar aE l=>pF (kR zZ) s0 ar aE l
def EE(s0:aW)(ar:List ab)(aE:Int)(l:List aF):Option aW:=kR sU s0 ar aE l
def oN(s0:aW)(cF gy:Int):Option (List aF×aW):=aS (o6 [] (aF.mk cF gy)) fun r=>aS (bq s0.x.types s0.kind) fun x0=>aS (o6 r (aF.mk (aY .i64 cF x0.de) 0)) fun r1=>some (r1,s0)
def oL(x0:ae)(kind ba:Int)(r1:List Int)(qb v:Int):Option ((Int×Int)⊕(Int)):=br (aT v (aC r1)) (aS (bq r1 v) fun x1=>aS (oT x0.ah x1) fun r2=>some (.inl ((aY .i64 qb (aC r2)),(aY .i64 v 1)))) (some (.inr qb))
def EB(x0:ae)(kind ba:Int):Option (al×Int):=br (((aT kind 0)||(bZ kind (aC x0.types)))||(jD ba 0)) (some ((al.mk 0 0 0 (ay.mk 0 0 [] [])),2)) (eH ((0:Int)≤(aC x0.ah)) (br (cA (wZ .i64 ba (aC x0.ah)) 0) (some ((al.mk 0 0 0 (ay.mk 0 0 [] [])),2)) (aS (o8 x0 ba) fun r=>br (cA r 0) (some ((al.mk 0 0 0 (ay.mk 0 0 [] [])),24)) (aS (s6 ba) fun r1=>aS (aK (fun s=>oL x0 kind ba r1 s.1 s.2) (0,0)) (fun XE=>aS (bq x0.types kind) fun x2=>aS (oN (aW.mk x0 kind ba XE (al.mk 0 0 0 (ay.mk 0 0 [] [])) false) x2.bm 0) fun r3=>aS (EE r3.2 [] x2.aE r3.1) fun r4=>br r4.fZ (some (r4.dW,0)) (some ((al.mk 0 0 0 (ay.mk 0 0 [] [])),24)))))))
def sM(x0:ae)(l:List al)(v:Int)(l1:List al)(ba:Int):Option ((List al×Int)⊕(List al)):=eH ((0:Int)≤(aC x0.ah)) (br (bP (wZ .i64 ba (aC x0.ah)) 0) (aS (EB x0 v ba) fun r=>br (bP r.2 0) (eH (e_ (l1++[r.1]).length 88) (some (.inl ((l1++[r.1]),(aY .i64 ba 1))))) (some (.inl (l1,(aY .i64 ba 1))))) (some (.inr l1)))
def qA(x0:ae)(l:List al)(v:Int):Option ((List al×Int)⊕(List al)):=br (aT v (aC x0.types)) (aS (aK (fun s=>sM x0 l v s.1 s.2) (l,1)) (fun l2=>some (.inl (l2,(aY .i64 v 1))))) (some (.inr l))
def IX(x0:ae):Option (List al×Int):=aS (aK (fun s=>qA x0 s.1 s.2) ([],0)) (fun l3=>some (l3,0))
def BU(a:af):Option Bool:=some true
def sS(x0:ae)(ba v:Int):Option ((Int×Int)⊕(Int)):=br (aT v (aC x0.ah)) (aS (bq x0.ah v) fun x1=>br x1.off (some (.inl (ba,(aY .i64 v 1)))) (aS (BU x1) fun r=>br r (eH ((0:Int)≤v) (some (.inl ((XW .i64 ba (Pg .i64 1 v)),(aY .i64 v 1))))) (some (.inl (ba,(aY .i64 v 1)))))) (some (.inr ba))
def vU(x0:ae):Option Int:=aS (aK (fun s=>sS x0 s.1 s.2) (0,0)) (fun tK=>some tK)
def xH(x0:ae):Option Int:=aS (vU x0) fun r=>some r
def jw(r:List al×Int)(left v:Int):Option ((Int×Int)⊕(Int)):=br (aT v (aC r.1)) (aS (bq r.1 v) fun x1=>some (.inl ((wG .i64 left x1.ba),(aY .i64 v 1)))) (some (.inr left))
def nV(x0:ae):Option Int:=aS (IX x0) fun r=>aS (xH x0) fun r1=>aS (aK (fun s=>jw r s.1 s.2) (r1,0)) (fun Oq=>some Oq)
def uj:Option ae:=some (ae.mk (ak.mk [G8,G6,G7] [(aw.mk 0 1 0 0 [(aB.mk 0 20)] []),(aw.mk 1 0 0 0 [(aB.mk 0 20)] []),(aw.mk 0 2 0 0 [(aB.mk 0 150)] [])]) [(ag.mk G9 1 0 0 [5] 0 0 0 100 1000 0 0 0 0)] [(af.mk Qz [1] (aM.mk (-1) 0 0 0) (aM.mk 1 0 200 5) 0 0 1 (-1) (-1) false)] [] [])
def rR:Option ae:=some (ae.mk (ak.mk [G8,G6,G7] [(aw.mk 0 1 0 0 [(aB.mk 0 20)] []),(aw.mk 1 0 0 0 [(aB.mk 0 20)] []),(aw.mk 0 2 0 0 [(aB.mk 0 150)] [])]) [(ag.mk G9 1 0 0 [5] 0 0 0 100 1000 0 0 0 0)] [(af.mk Qz [1] (aM.mk (-1) 0 0 0) (aM.mk 1 0 200 5) 0 0 1 (-1) (-1) false)] [] [])
def pd:Option Bool:=aS (uj) fun r=>aS (rj r) fun r1=>aS (uj) fun r2=>aS (G0 r2) fun r3=>aS (rR) fun r4=>aS (bq r4.ah 0) fun x0=>br ((bP r1.2 0)&&(bP (aC r1.1.ah) 1)) (aS (bq r1.1.ah 0) fun x1=>br (((((bP x1.drop.place 1&&(bP x1.drop.bm 20&&(bP x1.drop.bp 75&&(bP x1.drop.bz 5&&true))))&&(bP (aC r1.1.bG.bj) 2))&&(bP r3.1 145))&&(bP r3.2.1 1))&&(bP r3.2.2 0)) (aS (nV (ae.mk r4.bG r4.types (gZ r4.ah 0 (af.mk x0.name x0.load x0.pick x0.drop 1 x0.dA x0.split x0.bI x0.now x0.off)) r4.db r4.before)) fun r5=>some (bP r5 1)) (some false)) (some false)
def n9(word:ByteArray)(l l1:List aa)(i:Int)(di:ByteArray):Option ((List aa×Int)⊕(List aa)):=aS (bq l i) fun x1=>eH (e_ (l1++[(aa.mk x1.IK di)]).length 24) (some (.inl ((l1++[(aa.mk x1.IK di)]),(aY .i64 i 1))))
def n_(word:ByteArray)(l l1:List aa)(i:Int):Option ((List aa×Int)⊕(List aa)):=br (aT i (aC l)) (aS (bq l i) fun x0=>br (Jb x0.di ByteArray.empty) (n9 word l l1 i word) (eH (word.size+cj.size≤9223372036854775807) (eH ((cM word cj).size+x0.di.size≤9223372036854775807) (n9 word l l1 i (cM (cM word cj) x0.di))))) (some (.inr l1))
def jO(word:ByteArray)(l:List aa):Option (List aa):=aS (aK (fun s=>n_ word l s.1 s.2) ([],0)) (fun l2=>some l2)
def kB(n:Int)(s0:ByteArray)(left d:Int):Option ((ByteArray×Int×Bool)⊕(ByteArray)):=eH ((zo [(zV .u8 (aY .i64 48 d))]).size+s0.size≤9223372036854775807) (some (.inl ((cM (zo [(zV .u8 (aY .i64 48 d))]) s0),(uw .i64 left 10),(cA (uw .i64 left 10) 0))))
def t_(n:Int)(s0:ByteArray)(left:Int)(again:Bool):Option ((ByteArray×Int×Bool)⊕(ByteArray)):=br again (br (aT (C6 left 10) 0) (kB n s0 left (dZ .i64 0 (C6 left 10))) (kB n s0 left (C6 left 10))) (some (.inr s0))
def dh(n:Int):Option ByteArray:=aS (aK (fun s=>t_ n s.1 s.2.1 s.2.2) (ByteArray.empty,n,true)) (fun s1=>br (aT n 0) (eH (ZB.size+s1.size≤9223372036854775807) (some (cM ZB s1))) (some s1))
def vc(c:Int):Option Bool:=some ((bZ c 48)&&(jD c 57))
def xK(c:Int):Option Bool:=some ((((bZ c 97)&&(jD c 122))||((bZ c 65)&&(jD c 90)))||(bP c 95))
def pP(s0:ByteArray)(b:UInt8)(i:Int):Option ((Int)⊕((Unit)⊕(Bool))):=br (aT i (xq s0)) (aS (Ru s0 i) fun b1=>aS (xK (I1 b1)) fun r1=>br r1 (some (.inl (aY .i64 i 1))) (aS (vc (I1 b1)) fun r2=>br r2 (some (.inl (aY .i64 i 1))) (some (.inr (.inr false))))) (some (.inr (.inl ())))
def ik(s0:ByteArray):Option Bool:=br ((aT (xq s0) 1)||(cQ (xq s0) 16)) (some false) (aS (Ru s0 0) fun b=>aS (vc (I1 b)) fun r=>br r (some false) (aS (aK (fun s=>pP s0 b s) 0) (fun e=>jf e (fun(_:Unit)=>some true) (fun r3=>some r3))))
def iB(l:List aB)(i:Int)(x0:aB)(l3:List aa):Option ((List aa×Int)⊕(List aa)):=br (cQ i 0) (aS (bq l (dZ .i64 i 1)) fun x1=>br (jD x0.t x1.t) (aS (dh i) fun r1=>eH (e_ (l3++[(aa.mk 13 r1)]).length 24) (some (.inl ((l3++[(aa.mk 13 r1)]),(aY .i64 i 1))))) (br (aT x0.a x1.a) (aS (dh i) fun r2=>eH (e_ (l3++[(aa.mk 13 r2)]).length 24) (some (.inl ((l3++[(aa.mk 13 r2)]),(aY .i64 i 1))))) (some (.inl (l3,(aY .i64 i 1)))))) (some (.inl (l3,(aY .i64 i 1))))
def gD(l:List aB)(l2:List aa)(i:Int):Option ((List aa×Int)⊕(List aa)):=br (aT i (aC l)) (aS (bq l i) fun x0=>br ((((aT x0.t 0)||(cQ x0.t 4096))||(aT x0.a x0.t))||(cQ x0.a (aY .i64 x0.t 4096))) (aS (dh i) fun r=>eH (e_ (l2++[(aa.mk 2 r)]).length 24) (iB l i x0 (l2++[(aa.mk 2 r)]))) (iB l i x0 l2)) (some (.inr l2))
def jX(l:List aB)(l1:List aa):Option (List aa):=aS (aK (fun s=>gD l s.1 s.2) (l1,0)) (fun l4=>some l4)
def fI(l:List aB):Option (List aa):=br ((aT (aC l) 1)||(cQ (aC l) 16)) (eH (e_ [(aa.mk 4 ByteArray.empty)].length 24) (jX l [(aa.mk 4 ByteArray.empty)])) (jX l [])
def nR(t:Int):Option Bool:=some ((bZ t 0)&&(jD t 4096))
def dx(n:ak)(i:Int)(r:ByteArray)(x0:aw)(l l1:List aa)(o_:Bool)(k:Int):Option ((Bool×Int)⊕(Bool)):=br (aT k i) (aS (bq n.bj k) fun x1=>some (.inl ((o_||(((bP x0.aE x1.aE)&&(bP x0.dE x1.dE))&&(bP x0.aj x1.aj))),(aY .i64 k 1)))) (some (.inr o_))
def dy(r:ByteArray)(x0:aw)(l r1 l3:List aa)(k1:Int):Option ((List aa×Int)⊕(List aa)):=br (aT k1 (aC r1)) (aS (bq r1 k1) fun x2=>eH (e_ (l3++[(aa.mk x2.IK (cM ct r))]).length 24) (some (.inl ((l3++[(aa.mk x2.IK (cM ct r))]),(aY .i64 k1 1))))) (some (.inr l3))
def dz(r:ByteArray)(x0:aw)(l l6:List aa)(k2:Int):Option ((List aa×Int)⊕(List aa)):=br (aT k2 (aC x0.eU)) (aS (bq x0.eU k2) fun x3=>aS (nR x3.t) fun r2=>br r2 (aS (nR x3.a) fun r3=>br r3 (br (cQ k2 0) (aS (bq x0.eU (dZ .i64 k2 1)) fun x4=>br (jD x3.t x4.t) (eH (e_ (l6++[(aa.mk 2 (cM ct r))]).length 24) (some (.inl ((l6++[(aa.mk 2 (cM ct r))]),(aY .i64 k2 1))))) (some (.inl (l6,(aY .i64 k2 1))))) (some (.inl (l6,(aY .i64 k2 1))))) (eH (e_ (l6++[(aa.mk 2 (cM ct r))]).length 24) (some (.inl ((l6++[(aa.mk 2 (cM ct r))]),(aY .i64 k2 1)))))) (eH (e_ (l6++[(aa.mk 2 (cM ct r))]).length 24) (some (.inl ((l6++[(aa.mk 2 (cM ct r))]),(aY .i64 k2 1)))))) (some (.inr l6))
def fE(r:ByteArray)(x0:aw)(l l5:List aa):Option (List aa):=aS (aK (fun s=>dz r x0 l s.1 s.2) (l5,0)) (fun l7=>some l7)
def gg(r:ByteArray)(x0:aw)(l l2:List aa):Option (List aa):=aS (fI x0.dM) fun r1=>aS (aK (fun s=>dy r x0 l r1 s.1 s.2) (l2,0)) (fun l4=>br (cQ (aC x0.eU) 16) (eH (e_ (l4++[(aa.mk 4 (cM ct r))]).length 24) (fE r x0 l (l4++[(aa.mk 4 (cM ct r))]))) (fE r x0 l l4))
def gf(n:ak)(i:Int)(r:ByteArray)(x0:aw)(l l1:List aa):Option (List aa):=aS (aK (fun s=>dx n i r x0 l l1 s.1 s.2) (false,0)) (fun te=>br te (eH (e_ (l1++[(aa.mk 6 (cM ct r))]).length 24) (gg r x0 l (l1++[(aa.mk 6 (cM ct r))]))) (gg r x0 l l1))
def gb(n:ak)(i:Int)(r:ByteArray)(x0:aw)(l:List aa):Option (List aa):=br (((((aT x0.aj 0)||(cQ x0.aj 7))||(aT x0.cT 0))||(cQ x0.cT 10000))||(bP x0.aE x0.dE)) (eH (e_ (l++[(aa.mk 2 (cM ct r))]).length 24) (gf n i r x0 l (l++[(aa.mk 2 (cM ct r))]))) (gf n i r x0 l l)
def jZ(n:ak)(i:Int):Option (List aa):=aS (dh i) fun r=>eH (ct.size+r.size≤9223372036854775807) (aS (bq n.bj i) fun x0=>br ((((aT x0.aE 0)||(bZ x0.aE (aC n.aD)))||(aT x0.dE 0))||(bZ x0.dE (aC n.aD))) (eH (e_ [(aa.mk 11 (cM ct r))].length 24) (gb n i r x0 [(aa.mk 11 (cM ct r))])) (gb n i r x0 []))
def cH(n:ak)(l l1:List aa)(i:Int)(r:ByteArray)(o_:Bool)(k:Int):Option ((Bool×Int)⊕(Bool)):=br (aT k i) (br o_ (some (.inl (true,(aY .i64 k 1)))) (aS (bq n.aD k) fun x1=>aS (bq n.aD i) fun x2=>some (.inl ((Jb x1 x2),(aY .i64 k 1))))) (some (.inr o_))
def cG(n:ak)(l l1:List aa)(i:Int):Option ((List aa×Int)⊕(List aa)):=br (aT i (aC n.aD)) (aS (dh i) fun r=>eH (e7.size+r.size≤9223372036854775807) (aS (bq n.aD i) fun x0=>aS (ik x0) fun r1=>br r1 (aS (aK (fun s=>cH n l l1 i r s.1 s.2) (false,0)) (fun te=>br te (eH (e_ (l1++[(aa.mk 6 (cM e7 r))]).length 24) (some (.inl ((l1++[(aa.mk 6 (cM e7 r))]),(aY .i64 i 1))))) (some (.inl (l1,(aY .i64 i 1)))))) (eH (e_ (l1++[(aa.mk 5 (cM e7 r))]).length 24) (some (.inl ((l1++[(aa.mk 5 (cM e7 r))]),(aY .i64 i 1))))))) (some (.inr l1))
def fc(n:ak)(l:List aa):Option (List aa):=aS (aK (fun s=>cG n l s.1 s.2) (l,0)) (fun l2=>some l2)
def fN(n:ak):Option (List aa):=br (cQ (aC n.aD) 24) (eH (e_ [(aa.mk 4 iy)].length 24) (fc n [(aa.mk 4 iy)])) (fc n [])
def eB(n:ak)(l l1:List aa)(i:Int):Option ((List aa×Int)⊕(List aa)):=br (aT i (aC n.bj)) (aS (jZ n i) fun r1=>eH (e_ (l1++r1).length 24) (some (.inl ((l1++r1),(aY .i64 i 1))))) (some (.inr l1))
def jY(n:ak)(l:List aa):Option (List aa):=aS (aK (fun s=>eB n l s.1 s.2) (l,0)) (fun l2=>some l2)
def jM(n:ak):Option (List aa):=aS (fN n) fun r=>br (cQ (aC n.bj) 1024) (eH (e_ (r++[(aa.mk 4 qZ)]).length 24) (jY n (r++[(aa.mk 4 qZ)]))) (jY n r)
def cr(n lo hi:Int):Option Bool:=some ((bZ n lo)&&(jD n hi))
def kJ(l:List ag):Option Int:=br (bP (aC l) 0) (some 0) (aS (bq l 0) fun x0=>some (aC x0.cap))
def eC(l:List ag)(di:Int)(name:ByteArray)(i:Int):Option ((Int)⊕((Unit)⊕(Bool))):=br (aT i di) (aS (bq l i) fun x0=>br (Jb x0.name name) (some (.inr (.inr true))) (some (.inl (aY .i64 i 1)))) (some (.inr (.inl ())))
def mT(l:List ag)(di:Int)(name:ByteArray):Option Bool:=aS (aK (fun s=>eC l di name s) 0) (fun e=>jf e (fun(_:Unit)=>some false) (fun r=>some r))
def dn(l:List Int)(i:Int):Option ((Int)⊕((Unit)⊕(Bool))):=br (aT i (aC l)) (aS (bq l i) fun x0=>aS (cr x0 0 1000) fun r1=>br r1 (some (.inl (aY .i64 i 1))) (some (.inr (.inr false)))) (some (.inr (.inl ())))
def iC(l:List Int)(bL:Int):Option Bool:=aS (cr (aC l) 1 3) fun r=>br ((!r)||(cA (aC l) bL)) (some false) (aS (aK (fun s=>dn l s) 0) (fun e=>jf e (fun(_:Unit)=>some true) (fun r2=>some r2)))
def iK(x0:ag)(l8:List Int):Option (List Int):=aS (cr x0.aj 0 7) fun Ft=>br Ft (aS (cr x0.pK 0 100000) fun XY=>br XY (aS (cr x0.ia 0 100) fun Qp=>br Qp (aS (cr x0.ib 0 100) fun r14=>br r14 (some l8) (eH (e_ (l8++[2]).length 8) (some (l8++[2])))) (eH (e_ (l8++[2]).length 8) (some (l8++[2])))) (eH (e_ (l8++[2]).length 8) (some (l8++[2])))) (eH (e_ (l8++[2]).length 8) (some (l8++[2])))
def iJ(x0:ag)(l7:List Int):Option (List Int):=aS (cr x0.kC 1 4096) fun r9=>br r9 (aS (cr x0.de 0 4096) fun Xf=>br Xf (iK x0 l7) (eH (e_ (l7++[16]).length 8) (iK x0 (l7++[16])))) (eH (e_ (l7++[16]).length 8) (aS (cr x0.aj 0 7) fun LD=>br LD (aS (cr x0.pK 0 100000) fun r16=>br r16 (aS (cr x0.ia 0 100) fun r17=>br r17 (aS (cr x0.ib 0 100) fun r18=>br r18 (some (l7++[16])) (eH (e_ ((l7++[16])++[2]).length 8) (some ((l7++[16])++[2])))) (eH (e_ ((l7++[16])++[2]).length 8) (some ((l7++[16])++[2])))) (eH (e_ ((l7++[16])++[2]).length 8) (some ((l7++[16])++[2])))) (eH (e_ ((l7++[16])++[2]).length 8) (some ((l7++[16])++[2])))))
def iI(x0:ag)(l6:List Int):Option (List Int):=aS (cr x0.bm 0 x0.bp) fun r8=>br ((!r8)||(cQ x0.bp 4096)) (eH (e_ (l6++[15]).length 8) (iJ x0 (l6++[15]))) (iJ x0 l6)
def iH(x0:ag)(l5:List Int):Option (List Int):=aS (cr x0.bD 0 1073741823) fun r7=>br r7 (iI x0 l5) (eH (e_ (l5++[18]).length 8) (iI x0 (l5++[18])))
def iG(l:List ag)(x0:ag)(l4:List Int):Option (List Int):=aS (kJ l) fun r5=>aS (iC x0.cap r5) fun r6=>br r6 (iH x0 l4) (eH (e_ (l4++[17]).length 8) (iH x0 (l4++[17])))
def qO(x0:ag)(MJ:List Int):Option (List Int):=aS (cr x0.aj 0 7) fun r25=>br r25 (aS (cr x0.pK 0 100000) fun r26=>br r26 (aS (cr x0.ia 0 100) fun r27=>br r27 (aS (cr x0.ib 0 100) fun r28=>br r28 (some MJ) (eH (e_ (MJ++[2]).length 8) (some (MJ++[2])))) (eH (e_ (MJ++[2]).length 8) (some (MJ++[2])))) (eH (e_ (MJ++[2]).length 8) (some (MJ++[2])))) (eH (e_ (MJ++[2]).length 8) (some (MJ++[2])))
def qN(x0:ag)(NC:List Int):Option (List Int):=aS (cr x0.kC 1 4096) fun r23=>br r23 (aS (cr x0.de 0 4096) fun r24=>br r24 (qO x0 NC) (eH (e_ (NC++[16]).length 8) (qO x0 (NC++[16])))) (eH (e_ (NC++[16]).length 8) (aS (cr x0.aj 0 7) fun r29=>br r29 (aS (cr x0.pK 0 100000) fun r30=>br r30 (aS (cr x0.ia 0 100) fun r31=>br r31 (aS (cr x0.ib 0 100) fun r32=>br r32 (some (NC++[16])) (eH (e_ ((NC++[16])++[2]).length 8) (some ((NC++[16])++[2])))) (eH (e_ ((NC++[16])++[2]).length 8) (some ((NC++[16])++[2])))) (eH (e_ ((NC++[16])++[2]).length 8) (some ((NC++[16])++[2])))) (eH (e_ ((NC++[16])++[2]).length 8) (some ((NC++[16])++[2])))))
def qM(x0:ag)(P9:List Int):Option (List Int):=aS (cr x0.bm 0 x0.bp) fun r22=>br ((!r22)||(cQ x0.bp 4096)) (eH (e_ (P9++[15]).length 8) (qN x0 (P9++[15]))) (qN x0 P9)
def rF(x0:ag)(l9:List Int):Option (List Int):=aS (cr x0.bD 0 1073741823) fun r21=>br r21 (qM x0 l9) (eH (e_ (l9++[18]).length 8) (qM x0 (l9++[18])))
def iF(n:ak)(l:List ag)(x0:ag)(l3:List Int):Option (List Int):=aS (cr x0.aE 0 (dZ .i64 (aC n.aD) 1)) fun r3=>br r3 (aS (cr x0.dE 0 (dZ .i64 (aC n.aD) 1)) fun r4=>br r4 (iG l x0 l3) (eH (e_ (l3++[11]).length 8) (iG l x0 (l3++[11])))) (eH (e_ (l3++[11]).length 8) (aS (kJ l) fun J5=>aS (iC x0.cap J5) fun r20=>br r20 (rF x0 (l3++[11])) (eH (e_ ((l3++[11])++[17]).length 8) (rF x0 ((l3++[11])++[17])))))
def iE(n:ak)(l:List ag)(x0:ag)(l2:List Int):Option (List Int):=aS (cr x0.yW 0 10) fun r2=>br r2 (iF n l x0 l2) (eH (e_ (l2++[22]).length 8) (iF n l x0 (l2++[22])))
def iD(n:ak)(l:List ag)(di:Int)(x0:ag)(l1:List Int):Option (List Int):=aS (mT l di x0.name) fun r1=>br r1 (eH (e_ (l1++[6]).length 8) (iE n l x0 (l1++[6]))) (iE n l x0 l1)
def jN(n:ak)(l:List ag)(di:Int):Option (List Int):=aS (bq l di) fun x0=>aS (ik x0.name) fun r=>br r (iD n l di x0 []) (eH (e_ [5].length 8) (iD n l di x0 [5]))
def ml(n:ak)(l:List ag)(i:Int)(r1:List Int)(l3:List aa)(k:Int):Option ((List aa×Int)⊕(List aa)):=br (aT k (aC r1)) (aS (bq r1 k) fun x0=>aS (dh i) fun r2=>eH (e_ (l3++[(aa.mk x0 r2)]).length 24) (some (.inl ((l3++[(aa.mk x0 r2)]),(aY .i64 k 1))))) (some (.inr l3))
def fU(n:ak)(l:List ag)(l2:List aa)(i:Int):Option ((List aa×Int)⊕(List aa)):=br (aT i (aC l)) (aS (jN n l i) fun r1=>aS (aK (fun s=>ml n l i r1 s.1 s.2) (l2,0)) (fun l4=>some (.inl (l4,(aY .i64 i 1))))) (some (.inr l2))
def j0(n:ak)(l:List ag)(l1:List aa):Option (List aa):=aS (aK (fun s=>fU n l s.1 s.2) (l1,0)) (fun l5=>some l5)
def k_(n:ak)(l:List ag):Option (List aa):=aS (cr (aC l) 1 6) fun r=>br r (j0 n l []) (eH (e_ [(aa.mk 4 ByteArray.empty)].length 24) (j0 n l [(aa.mk 4 ByteArray.empty)]))
def dS(a:List Int)(i:Int):Option ((Int)⊕((Unit)⊕(Bool))):=br (aT i (aC a)) (aS (bq a i) fun x0=>br (aT x0 0) (some (.inr (.inr false))) (br (cQ x0 1000) (some (.inr (.inr false))) (some (.inl (aY .i64 i 1))))) (some (.inr (.inl ())))
def k9(a:List Int)(bL:Int):Option Bool:=br (cA (aC a) bL) (some false) (aS (aK (fun s=>dS a s) 0) (fun e=>jf e (fun(_:Unit)=>some true) (fun r=>some r)))
def eI(n low high:Int):Option Bool:=some ((bZ n low)&&(jD n high))
def dY(s0:aM):Option Int:=br ((((bP s0.place (-1))&&(bP s0.bm 0))&&(bP s0.bp 0))&&(bP s0.bz 0)) (some 0) (br ((((((aT s0.place 0)||(aT s0.bm 0))||(cQ s0.bm s0.bp))||(cQ s0.bp 4096))||(aT s0.bz 0))||(cQ s0.bz 4096)) (some 2) (some 0))
def dk(aD bL types:Int)(l:List af)(di:Int)(x0:af)(l1:List Int)(i:Int):Option ((Int)⊕(List Int)):=br (aT i di) (aS (bq l i) fun x1=>br (Jb x1.name x0.name) (eH (e_ (l1++[6]).length 8) (some (.inr (l1++[6])))) (some (.inl (aY .i64 i 1)))) (some (.inr l1))
def fz(types:Int)(x0:af)(l6:List Int):Option (List Int):=aS (eI x0.dA (-1) 1000000) fun r6=>br r6 (aS (eI x0.split 1 4) fun r7=>br ((((((!r7)||((cQ x0.split 1)&&((cA x0.pick.place (-1))&&(cA x0.drop.place (-1)))))||(aT x0.bI (-1)))||(bZ x0.bI types))||(aT x0.now (-1)))||(bZ x0.now types)) (eH (e_ (l6++[2]).length 8) (some (l6++[2]))) (some l6)) (eH (e_ (l6++[2]).length 8) (some (l6++[2])))
def iL(types:Int)(x0:af)(l8:List Int):Option (List Int):=aS (eI x0.dA (-1) 1000000) fun Xf=>br Xf (aS (eI x0.split 1 4) fun Ft=>br ((((((!Ft)||((cQ x0.split 1)&&((cA x0.pick.place (-1))&&(cA x0.drop.place (-1)))))||(aT x0.bI (-1)))||(bZ x0.bI types))||(aT x0.now (-1)))||(bZ x0.now types)) (eH (e_ (l8++[2]).length 8) (some (l8++[2]))) (some l8)) (eH (e_ (l8++[2]).length 8) (some (l8++[2])))
def dI(types:Int)(x0:af)(l7:List Int):Option (List Int):=aS (eI x0.bD 0 1073741823) fun r9=>br r9 (iL types x0 l7) (eH (e_ (l7++[18]).length 8) (iL types x0 (l7++[18])))
def eX(types:Int)(x0:af)(l5:List Int):Option (List Int):=aS (dY x0.pick) fun r4=>br (cA r4 0) (eH (e_ (l5++[14]).length 8) (aS (eI x0.bD 0 1073741823) fun r5=>br r5 (fz types x0 (l5++[14])) (eH (e_ ((l5++[14])++[18]).length 8) (fz types x0 ((l5++[14])++[18]))))) (aS (dY x0.drop) fun r8=>br (cA r8 0) (eH (e_ (l5++[14]).length 8) (dI types x0 (l5++[14]))) (dI types x0 l5))
def dT(types:Int)(x0:af)(l4:List Int):Option (List Int):=br ((bP x0.pick.place (-1))&&(bP x0.drop.place (-1))) (eH (e_ (l4++[19]).length 8) (eX types x0 (l4++[19]))) (eX types x0 l4)
def ka(types:Int)(x0:af)(P9:List Int):Option (List Int):=aS (eI x0.dA (-1) 1000000) fun r14=>br r14 (aS (eI x0.split 1 4) fun LD=>br ((((((!LD)||((cQ x0.split 1)&&((cA x0.pick.place (-1))&&(cA x0.drop.place (-1)))))||(aT x0.bI (-1)))||(bZ x0.bI types))||(aT x0.now (-1)))||(bZ x0.now types)) (eH (e_ (P9++[2]).length 8) (some (P9++[2]))) (some P9)) (eH (e_ (P9++[2]).length 8) (some (P9++[2])))
def jm(types:Int)(x0:af)(MJ:List Int):Option (List Int):=aS (eI x0.dA (-1) 1000000) fun r18=>br r18 (aS (eI x0.split 1 4) fun J5=>br ((((((!J5)||((cQ x0.split 1)&&((cA x0.pick.place (-1))&&(cA x0.drop.place (-1)))))||(aT x0.bI (-1)))||(bZ x0.bI types))||(aT x0.now (-1)))||(bZ x0.now types)) (eH (e_ (MJ++[2]).length 8) (some (MJ++[2]))) (some MJ)) (eH (e_ (MJ++[2]).length 8) (some (MJ++[2])))
def jl(types:Int)(x0:af)(NC:List Int):Option (List Int):=aS (eI x0.bD 0 1073741823) fun r17=>br r17 (jm types x0 NC) (eH (e_ (NC++[18]).length 8) (jm types x0 (NC++[18])))
def j_(types:Int)(x0:af)(l9:List Int):Option (List Int):=aS (dY x0.pick) fun XY=>br (cA XY 0) (eH (e_ (l9++[14]).length 8) (aS (eI x0.bD 0 1073741823) fun Qp=>br Qp (ka types x0 (l9++[14])) (eH (e_ ((l9++[14])++[18]).length 8) (ka types x0 ((l9++[14])++[18]))))) (aS (dY x0.drop) fun r16=>br (cA r16 0) (eH (e_ (l9++[14]).length 8) (jl types x0 (l9++[14]))) (jl types x0 l9))
def dq(aD types:Int)(x0:af)(l3:List Int):Option (List Int):=aS (eI x0.pick.place (-1) (dZ .i64 aD 1)) fun r2=>br r2 (aS (eI x0.drop.place (-1) (dZ .i64 aD 1)) fun r3=>br r3 (dT types x0 l3) (eH (e_ (l3++[11]).length 8) (dT types x0 (l3++[11])))) (eH (e_ (l3++[11]).length 8) (br ((bP x0.pick.place (-1))&&(bP x0.drop.place (-1))) (eH (e_ ((l3++[11])++[19]).length 8) (j_ types x0 ((l3++[11])++[19]))) (j_ types x0 (l3++[11]))))
def fy(aD bL types:Int)(l:List af)(di:Int)(x0:af)(l1:List Int):Option (List Int):=aS (aK (fun s=>dk aD bL types l di x0 l1 s) 0) (fun l2=>aS (k9 x0.load bL) fun r1=>br r1 (dq aD types x0 l2) (eH (e_ (l2++[17]).length 8) (dq aD types x0 (l2++[17]))))
def fX(aD bL types:Int)(l:List af)(di:Int):Option (List Int):=aS (bq l di) fun x0=>aS (ik x0.name) fun r=>br r (fy aD bL types l di x0 []) (eH (e_ [5].length 8) (fy aD bL types l di x0 [5]))
def mm(n:ak)(bL types:Int)(l:List af)(i:Int)(r:List Int)(l3:List aa)(k:Int):Option ((List aa×Int)⊕(List aa)):=br (aT k (aC r)) (aS (bq r k) fun x0=>aS (dh i) fun r1=>eH (e_ (l3++[(aa.mk x0 r1)]).length 24) (some (.inl ((l3++[(aa.mk x0 r1)]),(aY .i64 k 1))))) (some (.inr l3))
def eD(n:ak)(bL types:Int)(l:List af)(l2:List aa)(i:Int):Option ((List aa×Int)⊕(List aa)):=br (aT i (aC l)) (aS (fX (aC n.aD) bL types l i) fun r=>aS (aK (fun s=>mm n bL types l i r s.1 s.2) (l2,0)) (fun l4=>some (.inl (l4,(aY .i64 i 1))))) (some (.inr l2))
def fV(n:ak)(bL types:Int)(l:List af)(l1:List aa):Option (List aa):=aS (aK (fun s=>eD n bL types l s.1 s.2) (l1,0)) (fun l5=>some l5)
def fJ(n:ak)(bL types:Int)(l:List af):Option (List aa):=br (cQ (aC l) 10) (eH (e_ [(aa.mk 4 ByteArray.empty)].length 24) (fV n bL types l [(aa.mk 4 ByteArray.empty)])) (fV n bL types l [])
def mD(n1:Int)(s0:ByteArray):Option ((Int×ByteArray)⊕(Int×ByteArray)):=br (bZ n1 10) (eH ((zo [(zV .u8 (aY .i64 48 (C6 n1 10)))]).size+s0.size≤9223372036854775807) (some (.inl ((uw .i64 n1 10),(cM (zo [(zV .u8 (aY .i64 48 (C6 n1 10)))]) s0))))) (some (.inr (n1,s0)))
def mV(n:Int):Option ByteArray:=aS (aK (fun s=>mD s.1 s.2) (n,ByteArray.empty)) (fun e0=>(fun n2 s1=>eH ((zo [(zV .u8 (aY .i64 48 n2))]).size+s1.size≤9223372036854775807) (some (cM (zo [(zV .u8 (aY .i64 48 n2))]) s1))) e0.1 e0.2)
def fe(ah:Int)(l:List aI)(word:ByteArray)(dB:Bool)(l2:List aa)(i:Int)(x0:aI)(r:ByteArray)(o_:Bool)(k:Int):Option ((Bool×Int)⊕(Bool)):=br (aT k i) (br o_ (some (.inl (true,(aY .i64 k 1)))) (aS (bq l k) fun x1=>br (bP x1.x0 x0.x0) (br (bP x1.x1 x0.x1) (some (.inl (true,(aY .i64 k 1)))) (br dB (br (bP x1.x0 x0.x1) (some (.inl ((bP x1.x1 x0.x0),(aY .i64 k 1)))) (some (.inl (false,(aY .i64 k 1))))) (some (.inl (false,(aY .i64 k 1)))))) (br dB (br (bP x1.x0 x0.x1) (some (.inl ((bP x1.x1 x0.x0),(aY .i64 k 1)))) (some (.inl (false,(aY .i64 k 1))))) (some (.inl (false,(aY .i64 k 1))))))) (some (.inr o_))
def eF(ah:Int)(l:List aI)(word:ByteArray)(dB:Bool)(l2:List aa)(i:Int):Option ((List aa×Int)⊕(List aa)):=br (aT i (aC l)) (aS (bq l i) fun x0=>eH (word.size+cj.size≤9223372036854775807) (aS (mV i) fun r=>eH ((cM word cj).size+r.size≤9223372036854775807) (br (((((aT x0.x0 0)||(bZ x0.x0 ah))||(aT x0.x1 0))||(bZ x0.x1 ah))||(bP x0.x0 x0.x1)) (eH (e_ (l2++[(aa.mk 2 (cM (cM word cj) r))]).length 24) (some (.inl ((l2++[(aa.mk 2 (cM (cM word cj) r))]),(aY .i64 i 1))))) (aS (aK (fun s=>fe ah l word dB l2 i x0 r s.1 s.2) (false,0)) (fun te=>br te (eH (e_ (l2++[(aa.mk 6 (cM (cM word cj) r))]).length 24) (some (.inl ((l2++[(aa.mk 6 (cM (cM word cj) r))]),(aY .i64 i 1))))) (some (.inl (l2,(aY .i64 i 1))))))))) (some (.inr l2))
def jn(ah:Int)(l:List aI)(word:ByteArray)(dB:Bool)(l1:List aa):Option (List aa):=aS (aK (fun s=>eF ah l word dB s.1 s.2) (l1,0)) (fun l3=>some l3)
def ki(ah:Int)(l:List aI)(word:ByteArray)(dB:Bool):Option (List aa):=br (cQ (aC l) 16) (eH (e_ [(aa.mk 4 word)].length 24) (jn ah l word dB [(aa.mk 4 word)])) (jn ah l word dB [])
def rf(ah:Int)(l:List aI)(word:ByteArray)(dB:Bool)(l2:List aa)(i:Int)(x0:aI)(r:ByteArray)(o_:Bool)(k:Int):Option ((Bool×Int)⊕(Bool)):=br (aT k i) (br o_ (some (.inl (true,(aY .i64 k 1)))) (aS (bq l k) fun x1=>br (bP x1.x0 x0.x0) (br (bP x1.x1 x0.x1) (some (.inl (true,(aY .i64 k 1)))) (br dB (br (bP x1.x0 x0.x1) (some (.inl ((bP x1.x1 x0.x0),(aY .i64 k 1)))) (some (.inl (false,(aY .i64 k 1))))) (some (.inl (false,(aY .i64 k 1)))))) (br dB (br (bP x1.x0 x0.x1) (some (.inl ((bP x1.x1 x0.x0),(aY .i64 k 1)))) (some (.inl (false,(aY .i64 k 1))))) (some (.inl (false,(aY .i64 k 1))))))) (some (.inr o_))
def re(ah:Int)(l:List aI)(word:ByteArray)(dB:Bool)(l2:List aa)(i:Int):Option ((List aa×Int)⊕(List aa)):=br (aT i (aC l)) (aS (bq l i) fun x0=>eH (word.size+cj.size≤9223372036854775807) (aS (mV i) fun r=>eH ((cM word cj).size+r.size≤9223372036854775807) (br (((((aT x0.x0 0)||(bZ x0.x0 ah))||(aT x0.x1 0))||(bZ x0.x1 ah))||(bP x0.x0 x0.x1)) (eH (e_ (l2++[(aa.mk 2 (cM (cM word cj) r))]).length 24) (some (.inl ((l2++[(aa.mk 2 (cM (cM word cj) r))]),(aY .i64 i 1))))) (aS (aK (fun s=>rf ah l word dB l2 i x0 r s.1 s.2) (false,0)) (fun te=>br te (eH (e_ (l2++[(aa.mk 6 (cM (cM word cj) r))]).length 24) (some (.inl ((l2++[(aa.mk 6 (cM (cM word cj) r))]),(aY .i64 i 1))))) (some (.inl (l2,(aY .i64 i 1))))))))) (some (.inr l2))
def m9(ah:Int)(l:List aI)(word:ByteArray)(dB:Bool)(l1:List aa):Option (List aa):=aS (aK (fun s=>re ah l word dB s.1 s.2) (l1,0)) (fun l3=>some l3)
def qe(ah:Int)(l:List aI)(word:ByteArray)(dB:Bool):Option (List aa):=br (cQ (aC l) 16) (eH (e_ [(aa.mk 4 word)].length 24) (m9 ah l word dB [(aa.mk 4 word)])) (m9 ah l word dB [])
def ld(ah:Int)(db before:List aI):Option (List aa):=aS (qe ah db G5 true) fun r=>aS (ki ah before El false) fun r1=>eH (e_ (r++r1).length 24) (some (r++r1))
def nJ(word:ByteArray)(l l1:List aa)(i:Int)(di:ByteArray):Option ((List aa×Int)⊕(List aa)):=aS (bq l i) fun x1=>eH (e_ (l1++[(aa.mk x1.IK di)]).length 24) (some (.inl ((l1++[(aa.mk x1.IK di)]),(aY .i64 i 1))))
def rS(word:ByteArray)(l l1:List aa)(i:Int):Option ((List aa×Int)⊕(List aa)):=br (aT i (aC l)) (aS (bq l i) fun x0=>br (Jb x0.di ByteArray.empty) (nJ word l l1 i word) (eH (word.size+cj.size≤9223372036854775807) (eH ((cM word cj).size+x0.di.size≤9223372036854775807) (nJ word l l1 i (cM (cM word cj) x0.di))))) (some (.inr l1))
def gh(word:ByteArray)(l:List aa):Option (List aa):=aS (aK (fun s=>rS word l s.1 s.2) ([],0)) (fun l2=>some l2)
def dg(x0:ae):Option (List aa):=aS (jM x0.bG) fun r=>aS (gh p5 r) fun r1=>aS (k_ x0.bG x0.types) fun r2=>aS (jO yM r2) fun r3=>eH (e_ (r1++r3).length 24) (aS (kJ x0.types) fun r4=>aS (fJ x0.bG r4 (aC x0.types) x0.ah) fun r5=>aS (jO wA r5) fun r6=>eH (e_ ((r1++r3)++r6).length 24) (aS (ld (aC x0.ah) x0.db x0.before) fun r7=>aS (jO yL r7) fun r8=>eH (e_ (((r1++r3)++r6)++r8).length 24) (some (((r1++r3)++r6)++r8))))
def kU(t:ag)(bD bit:Int):Option ((Int)⊕((Unit)⊕(Bool))):=br (cQ bit 0) (eH ((bit:Int)≠0) (br (bP (C6 (uw .i64 bD bit) 2) 1) (eH ((bit:Int)≠0) (br (bP (C6 (uw .i64 t.bD bit) 2) 0) (some (.inr (.inr false))) (some (.inl (m_ .i64 bit 2))))) (some (.inl (m_ .i64 bit 2))))) (some (.inr (.inl ())))
def nS(t:ag)(bD:Int):Option Bool:=br ((aT t.bD 0)||(aT bD 0)) (some false) (aS (aK (fun s=>kU t bD s) 1) (fun e=>jf e (fun(_:Unit)=>some true) (fun r=>some r)))
def nu(l:List aB)(t i:Int):Option ((Int)⊕((Unit)⊕(Int))):=br (aT (aY .i64 i 1) (aC l)) (aS (bq l i) fun x0=>aS (bq l (aY .i64 i 1)) fun x1=>br ((jD x0.t t)&&(aT t x1.t)) (eH (((dZ .i64 x1.t x0.t):Int)≠0) (some (.inr (.inr (aY .i64 x0.a (uw .i64 (dZ .i64 (dZ .i64 (aY .i64 (m_ .i64 (dZ .i64 t x0.t) (dZ .i64 x1.a x0.a)) x1.t) x0.t) 1) (dZ .i64 x1.t x0.t))))))) (some (.inl (aY .i64 i 1)))) (some (.inr (.inl ())))
def qK(l:List aB)(t:Int):Option Int:=aS (fI l) fun r=>br (((cQ (aC r) 0)||(aT t 0))||(cQ t 1073741824)) (some 0) (aS (aK (fun s=>nu l t s) 0) (fun e=>jf e (fun(_:Unit)=>aS (bq l 0) fun x2=>br (cQ t x2.t) (aS (bq l (dZ .i64 (aC l) 1)) fun x3=>some (dZ .i64 (aY .i64 t x3.a) x3.t)) (some (dZ .i64 (aY .i64 t x2.a) x2.t))) (fun r1=>some r1)))
def uM(a:aw)(t n i:Int):Option ((Int×Int)⊕(Int)):=br (aT i (aC a.eU)) (aS (bq a.eU i) fun x0=>br (jD x0.t t) (some (.inl ((aY .i64 n x0.a),(aY .i64 i 1)))) (some (.inl (n,(aY .i64 i 1))))) (some (.inr n))
def nH(a:aw)(t:Int):Option Int:=aS (qK a.dM t) fun r=>aS (aK (fun s=>uM a t s.1 s.2) (r,0)) (fun n1=>some n1)
def hU(n:ak)(aj aE t:Int)(l:List Int)(p:Int):Option ((List Int×Int)⊕(List Int)):=br (aT p (aC n.aD)) (br (bP p aE) (eH (e_ (l++[t]).length 8) (some (.inl ((l++[t]),(aY .i64 p 1))))) (eH (e_ (l++[(-1)]).length 8) (some (.inl ((l++[(-1)]),(aY .i64 p 1)))))) (some (.inr l))
def hY(n:ak)(aj aE round:Int)(l3:List Int)(i:Int):Option ((List Int×Int)⊕(List Int)):=br (aT i (aC n.bj)) (aS (bq n.bj i) fun x0=>br (bP x0.aj aj) (aS (bq l3 x0.aE) fun x1=>br (bZ x1 0) (aS (nH x0 x1) fun r=>aS (bq l3 x0.dE) fun x2=>br (aT x2 0) (some (.inl ((gZ l3 x0.dE r),(aY .i64 i 1)))) (br (aT r x2) (some (.inl ((gZ l3 x0.dE r),(aY .i64 i 1)))) (some (.inl (l3,(aY .i64 i 1)))))) (some (.inl (l3,(aY .i64 i 1))))) (some (.inl (l3,(aY .i64 i 1))))) (some (.inr l3))
def hX(n:ak)(aj aE:Int)(l2:List Int)(round:Int):Option ((List Int×Int)⊕(List Int)):=br (aT round (aC n.aD)) (aS (aK (fun s=>hY n aj aE round s.1 s.2) (l2,0)) (fun l4=>some (.inl (l4,(aY .i64 round 1))))) (some (.inr l2))
def rD(n:ak)(aj aE t:Int):Option (List Int):=aS (aK (fun s=>hU n aj aE t s.1 s.2) ([],0)) (fun l1=>aS (aK (fun s=>hX n aj aE s.1 s.2) (l1,0)) (fun l5=>some l5))
def sd(x0:ae)(t:ag)(place:Int):Option Int:=aS (rD x0.bG t.aj t.aE t.bm) fun r=>br ((aT place 0)||(bZ place (aC r))) (some (-1)) (aS (bq r place) fun x1=>some x1)
def eE(x0:ae)(l:List ag)(place out i:Int):Option ((Int×Int)⊕(Int)):=br (aT i (aC l)) (aS (bq l i) fun x1=>aS (sd x0 x1 place) fun r=>br ((bZ r 0)&&((aT out 0)||(aT r out))) (some (.inl (r,(aY .i64 i 1)))) (some (.inl (out,(aY .i64 i 1))))) (some (.inr out))
def sc(x0:ae)(l:List ag)(place:Int):Option Int:=aS (aK (fun s=>eE x0 l place s.1 s.2) ((-1),0)) (fun Qeh=>some Qeh)
def wV(x0:ae)(t:ag)(place cF:Int):Option Bool:=aS (rD x0.bG t.aj place cF) fun r=>br ((bZ t.dE 0)&&(aT t.dE (aC r))) (aS (bq r t.dE) fun x1=>br (bZ x1 0) (some (jD x1 t.bp)) (some false)) (some false)
def lj(x0:ae)(l:List ag)(s0:aM)(r b i:Int):Option ((Int)⊕((Unit)⊕(aM))):=br (aT i (aC l)) (aS (bq l i) fun x1=>aS (wV x0 x1 s0.place (aY .i64 b s0.bz)) fun r1=>br r1 (some (.inr (.inr (aM.mk s0.place (zz s0.bm r) b s0.bz)))) (some (.inl (aY .i64 i 1)))) (some (.inr (.inl ())))
def qW(x0:ae)(l:List ag)(s0:aM)(r b:Int):Option ((Int)⊕((Unit)⊕(aM))):=br (bZ b (zz s0.bm r)) (aS (aK (fun s=>lj x0 l s0 r b s) 0) (fun e=>jf e (fun(_:Unit)=>some (.inl (dZ .i64 b 1))) (fun r2=>some (.inr (.inr r2))))) (some (.inr (.inl ())))
def yv(x0:ae)(l:List ag)(s0:aM):Option aM:=aS (sc x0 l s0.place) fun r=>br (((aT s0.place 0)||(aT r 0))||(cQ r s0.bp)) (some s0) (aS (aK (fun s=>qW x0 l s0 r s) s0.bp) (fun e=>jf e (fun(_:Unit)=>some s0) (fun r3=>some r3)))
def pe(n:ak)(p:Int):Option Bool:=some ((bZ p 0)&&(aT p (aC n.aD)))
def pQ(n:ak)(aj aE dE i:Int):Option ((Int)⊕((Unit)⊕(aw×Bool))):=br (aT i (aC n.bj)) (aS (bq n.bj i) fun x0=>br (((bP x0.aE aE)&&(bP x0.dE dE))&&(bP x0.aj aj)) (some (.inr (.inr (x0,true)))) (some (.inl (aY .i64 i 1)))) (some (.inr (.inl ())))
def tt(n:ak)(aj aE dE:Int):Option (aw×Bool):=aS (aK (fun s=>pQ n aj aE dE s) 0) (fun e=>jf e (fun(_:Unit)=>some ((aw.mk 0 0 0 0 [] []),false)) (fun r=>some r))
def tV(n:ak)(aj aE dE t:Int):Option (Int×Int×Int):=aS (pe n aE) fun r=>br r (aS (pe n dE) fun r1=>br r1 (br (bP aE dE) (some (t,0,0)) (aS (tt n aj aE dE) fun r2=>br r2.2 (aS (nH r2.1 t) fun r3=>some (r3,r2.1.cT,0)) (some (0,0,12)))) (some (0,0,11))) (some (0,0,11))
def gk(x0:ae)(ba left i:Int):Option ((Int×Int)⊕(Int)):=br ((aT i (aC x0.ah))&&(aT i 63)) (some (.inl ((uw .i64 left 2),(aY .i64 i 1)))) (some (.inr left))
def qV(x0:ae)(ba:Int):Option Bool:=aS (aK (fun s=>gk x0 ba s.1 s.2) (ba,0)) (fun Oq=>some ((cQ ba 0)&&(bP Oq 0)))
def js(ba i:Int):Option Bool:=br (((bZ ba 0)&&(bZ i 0))&&(jD i 62)) (eH ((0:Int)≤(zV .u64 i)) (some (bP (C6 (wZ .i64 ba (zV .u64 i)) 2) 1))) (some false)
def lg(x0:ae)(aL:Int)(l:List ab):Option (List ab):=aS (bq x0.ah aL) fun x2=>br (cA x2.drop.place (-1)) (eH (e_ (l++[(ab.mk aL true)]).length 16) (some (l++[(ab.mk aL true)]))) (some l)
def lX(x0:ae)(aL:Int):Option (List ab):=aS (bq x0.ah aL) fun x1=>br (cA x1.pick.place (-1)) (eH (e_ [(ab.mk aL false)].length 16) (lg x0 aL [(ab.mk aL false)])) (lg x0 aL [])
def iP(l:List ab)(v:ab)(i:Int):Option ((Int)⊕((Unit)⊕(Int))):=br (aT i (aC l)) (aS (bq l i) fun x0=>br (bP x0.aL v.aL&&(T0 x0.drop v.drop&&true)) (some (.inr (.inr i))) (some (.inl (aY .i64 i 1)))) (some (.inr (.inl ())))
def fi(l:List ab)(v:ab):Option Int:=aS (aK (fun s=>iP l v s) 0) (fun e=>jf e (fun(_:Unit)=>some (-1)) (fun r=>some r))
def gi(l some_:List ab)(i:Int):Option ((Int)⊕((Unit)⊕(Bool))):=br (aT i (aC some_)) (aS (bq some_ i) fun x0=>aS (fi l x0) fun r=>br (aT r 0) (some (.inr (.inr false))) (some (.inl (aY .i64 i 1)))) (some (.inr (.inl ())))
def mq(l some_:List ab):Option Bool:=aS (aK (fun s=>gi l some_ s) 0) (fun e=>jf e (fun(_:Unit)=>some true) (fun r1=>some r1))
def iR(x0:ae)(aL:Int)(l:List ab)(i:Int):Option ((Int)⊕((Unit)⊕(Bool))):=br (aT i (aC x0.before)) (aS (bq x0.before i) fun x1=>br (bP x1.x1 aL) (br ((aT x1.x0 0)||(bZ x1.x0 (aC x0.ah))) (some (.inr (.inr false))) (aS (lX x0 x1.x0) fun r=>aS (mq l r) fun r1=>br r1 (some (.inl (aY .i64 i 1))) (some (.inr (.inr false))))) (some (.inl (aY .i64 i 1)))) (some (.inr (.inl ())))
def rU(x0:ae)(aL:Int)(l:List ab):Option Bool:=aS (aK (fun s=>iR x0 aL l s) 0) (fun e=>jf e (fun(_:Unit)=>some true) (fun r2=>some r2))
def jq(x0:ae)(ba:Int)(l:List ab)(i:Int)(r2 l2:List ab)(k:Int):Option ((List ab×Int)⊕(List ab)):=br (aT k (aC r2)) (aS (bq r2 k) fun x2=>aS (fi l x2) fun r3=>br (aT r3 0) (br (bP k 0) (eH (e_ (l2++[x2]).length 16) (some (.inl ((l2++[x2]),(aY .i64 k 1))))) (aS (bq r2 0) fun x3=>aS (fi l x3) fun r4=>br (bZ r4 0) (eH (e_ (l2++[x2]).length 16) (some (.inl ((l2++[x2]),(aY .i64 k 1))))) (some (.inl (l2,(aY .i64 k 1)))))) (some (.inl (l2,(aY .i64 k 1))))) (some (.inr l2))
def h_(x0:ae)(ba:Int)(l l1:List ab)(i:Int):Option ((List ab×Int)⊕(List ab)):=br (aT i (aC x0.ah)) (aS (js ba i) fun r=>br r (aS (bq x0.ah i) fun x1=>br x1.off (some (.inl (l1,(aY .i64 i 1)))) (aS (rU x0 i l) fun r1=>br r1 (aS (lX x0 i) fun r2=>aS (aK (fun s=>jq x0 ba l i r2 s.1 s.2) (l1,0)) (fun l3=>some (.inl (l3,(aY .i64 i 1))))) (some (.inl (l1,(aY .i64 i 1)))))) (some (.inl (l1,(aY .i64 i 1))))) (some (.inr l1))
def tv(x0:ae)(ba:Int)(l:List ab):Option (List ab):=aS (aK (fun s=>h_ x0 ba l s.1 s.2) ([],0)) (fun l4=>some l4)
def nv(r:ay)(ba i:Int):Option ((Int×Int)⊕((Int)⊕(Int×Int))):=br (aT i (aC r.ar)) (aS (bq r.ar i) fun x0=>br ((aT x0.aL 0)||(cQ x0.aL 62)) (some (.inr (.inr (0,2)))) (aS (js ba x0.aL) fun r1=>br r1 (some (.inl (ba,(aY .i64 i 1)))) (eH ((0:Int)≤(zV .u64 x0.aL)) (some (.inl ((aY .i64 ba (Pg .i64 1 (zV .u64 x0.aL))),(aY .i64 i 1))))))) (some (.inr (.inl ba)))
def lW(r:ay):Option (Int×Int):=aS (aK (fun s=>nv r s.1 s.2) (0,0)) (fun e=>jf e (fun tK=>some (tK,0)) (fun r2=>some r2))
def gV(x0:ae)(l:List ab)(i:Int):Option ((Int)⊕((Unit)⊕(Bool))):=br (aT i (aC l)) (aS (bq l i) fun x1=>aS (lX x0 x1.aL) fun r=>aS (fi r x1) fun r1=>br (aT r1 0) (some (.inr (.inr false))) (aS (mq l r) fun r2=>br r2 (br (bP (aC r) 2) (aS (bq r 0) fun x2=>aS (fi l x2) fun r3=>aS (bq r 1) fun x3=>aS (fi l x3) fun r4=>br (cQ r3 r4) (some (.inr (.inr false))) (some (.inl (aY .i64 i 1)))) (some (.inl (aY .i64 i 1)))) (some (.inr (.inr false))))) (some (.inr (.inl ())))
def qQ(x0:ae)(l:List ab):Option Bool:=aS (aK (fun s=>gV x0 l s) 0) (fun e=>jf e (fun(_:Unit)=>some true) (fun r5=>some r5))
def iQ(x0:ae)(ba i:Int):Option ((Int)⊕((Unit)⊕(Bool))):=br (aT i (aC x0.db)) (aS (bq x0.db i) fun x1=>aS (js ba x1.x0) fun r=>br r (aS (js ba x1.x1) fun r1=>br r1 (some (.inr (.inr false))) (some (.inl (aY .i64 i 1)))) (some (.inl (aY .i64 i 1)))) (some (.inr (.inl ())))
def rT(x0:ae)(ba:Int):Option Bool:=aS (aK (fun s=>iQ x0 ba s) 0) (fun e=>jf e (fun(_:Unit)=>some true) (fun r2=>some r2))
def gU(x0:ae)(ba:Int)(l:List ab)(i:Int)(x1:aI)(j k:Int):Option ((Int)⊕((Unit)⊕(Bool))):=br (aT k j) (aS (bq l j) fun x2=>br (bP x2.aL x1.x0) (aS (bq l k) fun x3=>br (bP x3.aL x1.x1) (some (.inr (.inr false))) (some (.inl (aY .i64 k 1)))) (some (.inl (aY .i64 k 1)))) (some (.inr (.inl ())))
def gT(x0:ae)(ba:Int)(l:List ab)(i:Int)(x1:aI)(j:Int):Option ((Int)⊕((Unit)⊕(Bool))):=br (aT j (aC l)) (aS (aK (fun s=>gU x0 ba l i x1 j s) 0) (fun e=>jf e (fun(_:Unit)=>some (.inl (aY .i64 j 1))) (fun r2=>some (.inr (.inr r2))))) (some (.inr (.inl ())))
def gS(x0:ae)(ba:Int)(l:List ab)(i:Int):Option ((Int)⊕((Unit)⊕(Bool))):=br (aT i (aC x0.before)) (aS (bq x0.before i) fun x1=>aS (js ba x1.x1) fun r=>br r (aS (js ba x1.x0) fun r1=>br r1 (aS (aK (fun s=>gT x0 ba l i x1 s) 0) (fun e=>jf e (fun(_:Unit)=>some (.inl (aY .i64 i 1))) (fun r3=>some (.inr (.inr r3))))) (some (.inr (.inr false)))) (some (.inl (aY .i64 i 1)))) (some (.inr (.inl ())))
def qP(x0:ae)(ba:Int)(l:List ab):Option Bool:=aS (aK (fun s=>gS x0 ba l s) 0) (fun e=>jf e (fun(_:Unit)=>some true) (fun r4=>some r4))
def iM(x0:ae)(r:ay)(i:Int):Option ((Int)⊕((Unit)⊕(Int))):=br (aT i (aC r.ar)) (aS (bq r.ar i) fun x1=>br (aT x1.aL 0) (some (.inr (.inr 2))) (br (bZ x1.aL (aC x0.ah)) (some (.inr (.inr 2))) (some (.inl (aY .i64 i 1))))) (some (.inr (.inl ())))
def iN(x0:ae)(r:ay)(r1:Int×Int)(i1:Int):Option ((Int)⊕((Unit)⊕(Int))):=br (aT i1 (aC r.ar)) (aS (bq r.ar i1) fun x2=>aS (bq x0.ah x2.aL) fun x3=>br x3.off (some (.inr (.inr 9))) (some (.inl (aY .i64 i1 1)))) (some (.inr (.inl ())))
def iO(x0:ae)(r:ay)(r1:Int×Int)(i2:Int):Option ((Int)⊕((Unit)⊕(Int))):=br (aT i2 (aC r.ar)) (aS (bq r.ar i2) fun x4=>aS (fi r.ar x4) fun r2=>br (cA r2 i2) (some (.inr (.inr 6))) (some (.inl (aY .i64 i2 1)))) (some (.inr (.inl ())))
def pg(x0:ae)(r:ay):Option Int:=aS (aK (fun s=>iM x0 r s) 0) (fun e=>jf e (fun(_:Unit)=>aS (lW r) fun r1=>br ((cA r1.2 0)||(bP (aC r.ar) 0)) (some 2) (aS (aK (fun s=>iN x0 r r1 s) 0) (fun e=>jf e (fun(_:Unit)=>aS (aK (fun s=>iO x0 r r1 s) 0) (fun e=>jf e (fun(_:Unit)=>aS (qQ x0 r.ar) fun r3=>br r3 (aS (rT x0 r1.1) fun r4=>br r4 (aS (qP x0 r1.1 r.ar) fun r5=>br r5 (some 0) (some 21)) (some 20)) (some 19)) (fun r6=>some r6))) (fun r7=>some r7)))) (fun r8=>some r8))
def jk(l:List (List Int))(bL i:Int):Option ((Int)⊕((Unit)⊕(Bool))):=br (aT i (aC l)) (aS (bq l i) fun x0=>br (cA (aC x0) bL) (some (.inr (.inr false))) (some (.inl (aY .i64 i 1)))) (some (.inr (.inl ())))
def tq(l:List (List Int))(bL:Int):Option Bool:=br ((aT bL 0)||(cQ bL 3)) (some false) (aS (aK (fun s=>jk l bL s) 0) (fun e=>jf e (fun(_:Unit)=>some true) (fun r=>some r)))
def iV(l:List (List Int))(bL:Int)(l1:List Int)(d n i:Int):Option ((Int×Int)⊕(Int)):=br (aT i (aC l)) (aS (bq l i) fun x0=>aS (bq x0 d) fun x1=>some (.inl ((aY .i64 n x1),(aY .i64 i 1)))) (some (.inr n))
def iU(l:List (List Int))(bL:Int)(l1:List Int)(d:Int):Option ((List Int×Int)⊕(List Int)):=br (aT d bL) (aS (aK (fun s=>iV l bL l1 d s.1 s.2) (0,0)) (fun n1=>eH (e_ (l1++[n1]).length 8) (some (.inl ((l1++[n1]),(aY .i64 d 1)))))) (some (.inr l1))
def uL(l:List (List Int))(bL:Int):Option (List Int×Int):=aS (tq l bL) fun r=>br r (aS (aK (fun s=>iU l bL s.1 s.2) ([],0)) (fun l2=>some (l2,0))) (some ([],2))
def tA(x0:ae):Option Int:=br (bP (aC x0.types) 0) (some 0) (aS (bq x0.types 0) fun x1=>some (aC x1.cap))
def gI(x0:ae)(l:List ab)(n:Int)(l1:List (List Int))(i:Int)(on_ there:Bool)(k:Int):Option ((Bool×Bool×Int)⊕(Bool×Bool)):=br (aT k (aC l)) (aS (bq l k) fun x2=>br (cA x2.aL i) (some (.inl (on_,there,(aY .i64 k 1)))) (br (aT k n) (some (.inl ((!x2.drop),true,(aY .i64 k 1)))) (some (.inl (on_,true,(aY .i64 k 1)))))) (some (.inr (on_,there)))
def gH(x0:ae)(l:List ab)(n:Int)(l1:List (List Int))(i:Int):Option ((List (List Int)×Int)⊕(List (List Int))):=br (aT i (aC x0.ah)) (aS (bq x0.ah i) fun x1=>aS (aK (fun s=>gI x0 l n l1 i s.1 s.2.1 s.2.2) ((aT x1.pick.place 0),false,0)) (fun e0=>(fun Qec XD=>br (Qec&&XD) (aS (bq x0.ah i) fun x3=>eH (e_ (l1++[x3.load]).length 24) (some (.inl ((l1++[x3.load]),(aY .i64 i 1))))) (some (.inl (l1,(aY .i64 i 1))))) e0.1 e0.2)) (some (.inr l1))
def rX(x0:ae)(l:List ab)(n:Int):Option (List Int×Int):=aS (aK (fun s=>gH x0 l n s.1 s.2) ([],0)) (fun l2=>aS (tA x0) fun r=>aS (uL l2 r) fun r1=>some (r1.1,r1.2))
def gF(x0:ae)(r:ay)(l:List (List Int))(n:Int):Option ((List (List Int)×Int)⊕((List (List Int))⊕(List (List Int)×Int))):=br (jD n (aC r.ar)) (aS (rX x0 r.ar n) fun r2=>br (cA r2.2 0) (some (.inr (.inr ([],r2.2)))) (eH (e_ (l++[r2.1]).length 24) (some (.inl ((l++[r2.1]),(aY .i64 n 1)))))) (some (.inr (.inl l)))
def rV(x0:ae)(r:ay):Option (List (List Int)×Int):=aS (pg x0 r) fun r1=>br (cA r1 0) (some ([],r1)) (aS (aK (fun s=>gF x0 r s.1 s.2) ([],0)) (fun e=>jf e (fun l1=>some (l1,0)) (fun r3=>some r3)))
def ji(a capacity:List Int)(i:Int):Option ((Int)⊕((Unit)⊕(Bool))):=br (aT i (aC a)) (aS (bq a i) fun x0=>aS (bq capacity i) fun x1=>br (cQ x0 x1) (some (.inr (.inr false))) (some (.inl (aY .i64 i 1)))) (some (.inr (.inl ())))
def tp(a capacity:List Int):Option Bool:=br (cA (aC a) (aC capacity)) (some false) (aS (aK (fun s=>ji a capacity s) 0) (fun e=>jf e (fun(_:Unit)=>some true) (fun r=>some r)))
def jt(x0:ae)(r:ay)(r1:List (List Int)×Int)(i:Int):Option ((Int)⊕((Unit)⊕(Int))):=br (aT i (aC r1.1)) (aS (bq r1.1 i) fun x1=>aS (bq x0.types r.aR) fun x2=>aS (tp x1 x2.cap) fun r2=>br r2 (some (.inl (aY .i64 i 1))) (some (.inr (.inr 17)))) (some (.inr (.inl ())))
def tz(x0:ae)(r:ay):Option Int:=br ((aT r.aR 0)||(bZ r.aR (aC x0.types))) (some 2) (aS (rV x0 r) fun r1=>br (cA r1.2 0) (some r1.2) (aS (aK (fun s=>jt x0 r r1 s) 0) (fun e=>jf e (fun(_:Unit)=>some 0) (fun r3=>some r3))))
def kL(x0:ae)(v:ab):Option (aM×Bool):=br ((aT v.aL 0)||(bZ v.aL (aC x0.ah))) (some ((aM.mk 0 0 0 0),false)) (aS (bq x0.ah v.aL) fun x1=>br v.drop (some (x1.drop,(bZ x1.drop.place 0))) (some (x1.pick,(bZ x1.pick.place 0))))
def gj(x0:ae)(r:ay)(i:Int):Option ((Int)⊕((Unit)⊕(Bool))):=br (aT i (aC r.ar)) (aS (bq r.ar i) fun x1=>aS (kL x0 x1) fun r1=>br r1.2 (some (.inl (aY .i64 i 1))) (some (.inr (.inr false)))) (some (.inr (.inl ())))
def iS(x0:ae)(r:ay):Option Bool:=br (((((aT r.aR 0)||(bZ r.aR (aC x0.types)))||(aT r.aH 0))||(cQ r.aH 4096))||(cQ (aC r.ar) 20)) (some false) (aS (aK (fun s=>gj x0 r s) 0) (fun e=>jf e (fun(_:Unit)=>some true) (fun r2=>some r2)))
def qq(t:ag)(s0:bB)(yes:Bool):Option bB:=br yes (some (bB.mk s0.place (aY .i64 s0.v_ t.de) 0 s0.cT)) (some s0)
def yq(x0:ae)(aj aE dE t:Int):Option (Int×Int×Bool):=aS (tV x0.bG aj aE dE t) fun r=>some (r.1,r.2.1,(bP r.2.2 0))
def kK(x0:ae)(t:ag)(s0:bB)(dE bp late:Int):Option (bB×Int):=aS (yq x0 t.aj s0.place dE s0.v_) fun r=>br r.2.2 (br (cQ r.1 bp) (some (s0,late)) (br (cQ (dZ .i64 (aY .i64 s0.gy r.1) s0.v_) t.kC) (some (s0,16)) (some ((bB.mk dE r.1 (dZ .i64 (aY .i64 s0.gy r.1) s0.v_) (aY .i64 s0.cT r.2.1)),0)))) (some (s0,12))
def qS(x0:ae)(r:ay)(aP:List Bool)(x1:ag)(x2:Bool)(l:List Int)(l1:List aX)(x3:bB)(cF i:Int):Option ((List Int×List aX×bB×Int×Int)⊕((List Int×List aX×bB×Int)⊕(aQ×List Int×Int))):=br (aT i (aC r.ar)) (aS (bq r.ar i) fun x4=>aS (kL x0 x4) fun r3=>aS (kK x0 x1 x3 r3.1.place r3.1.bp 14) fun r4=>br (cA r4.2 0) (some (.inr (.inr ((aQ.mk false 0 [] 0 0),[],r4.2)))) (eH (e_ (l++[r4.1.gy]).length 8) (aS (bq aP (aY .i64 i 1)) fun x5=>aS (qq x1 (bB.mk r4.1.place (aY .i64 (zz r4.1.v_ r3.1.bm) r3.1.bz) r4.1.gy r4.1.cT) x5) fun r5=>eH (e_ (l1++[(aX.mk r4.1.v_ (zz r4.1.v_ r3.1.bm) r5.v_ x5)]).length 32) (some (.inl ((l++[r4.1.gy]),(l1++[(aX.mk r4.1.v_ (zz r4.1.v_ r3.1.bm) r5.v_ x5)]),r5,cF,(aY .i64 i 1))))))) (some (.inr (.inl (l,l1,x3,cF))))
def rY(x0:ae)(r:ay)(aP:List Bool):Option (aQ×List Int×Int):=aS (iS x0 r) fun r1=>br ((!r1)||(cA (aC aP) (aY .i64 (aC r.ar) 1))) (some ((aQ.mk false 0 [] 0 0),[],2)) (aS (bq x0.types r.aR) fun x1=>aS (bq aP 0) fun x2=>aS (qq x1 (bB.mk x1.aE (zz x1.bm r.aH) 0 0) x2) fun r2=>aS (aK (fun s=>qS x0 r aP x1 x2 s.1 s.2.1 s.2.2.1 s.2.2.2.1 s.2.2.2.2) ([],[],r2,r2.v_,0)) (fun e=>jf e (fun e0=>(fun l2 l3 x6 m6=>aS (kK x0 x1 x6 x1.dE x1.bp 15) fun r6=>br (cA r6.2 0) (some ((aQ.mk false 0 [] 0 0),[],r6.2)) (eH (e_ (l2++[r6.1.gy]).length 8) (some ((aQ.mk x2 m6 l3 r6.1.v_ r6.1.cT),(l2++[r6.1.gy]),0)))) e0.1 e0.2.1 e0.2.2.1 e0.2.2.2) (fun r7=>some r7)))
def lY(x0:ae)(r:ay)(aP:List Bool):Option (aQ×Int):=aS (rY x0 r aP) fun r1=>some (r1.1,r1.2.2)
def pX(n:Int)(l:List Bool)(i:Int):Option ((List Bool×Int)⊕((Unit)⊕(List Bool×Bool))):=br (bZ i n) (aS (bq l i) fun x0=>br x0 (some (.inl ((gZ l i false),(dZ .i64 i 1)))) (some (.inr (.inr ((gZ l i true),true))))) (some (.inr (.inl ())))
def nU(aP:List Bool)(n:Int):Option (List Bool×Bool):=eH (e_ aP.length 1) (aS (aK (fun s=>pX n s.1 s.2) (aP,(dZ .i64 (aC aP) 1))) (fun e=>jf e (fun(_:Unit)=>some ([],false)) (fun r=>some r)))
def pV(x0:ae)(r:ay)(l:List Bool)(r2:aQ×Int)(aP Ct:List Bool)(x2:aQ)(DZ:Bool):Option ((List Bool×aQ×List Bool×Bool×Bool)⊕(aQ×Bool)):=aS (nU Ct (aC aP)) fun r5=>some (.inl (aP,x2,r5.1,DZ,r5.2))
def pW(x0:ae)(r:ay)(l:List Bool)(r2:aQ×Int)(aP:List Bool)(x1:aQ)(Ct:List Bool)(fZ more:Bool):Option ((List Bool×aQ×List Bool×Bool×Bool)⊕(aQ×Bool)):=br more (aS (lY x0 (ay.mk r.aR r.aH aP r.ar) Ct) fun r4=>br ((bP r4.2 0)&&((!fZ)||(aT r4.1.lE x1.lE))) (pV x0 r l r2 aP Ct r4.1 true) (pV x0 r l r2 aP Ct x1 fZ)) (some (.inr (x1,fZ)))
def qp(x0:ae)(r:ay):Option (aQ×Int):=aS (iS x0 r) fun r1=>br ((!r1)||(cQ (aC r.aP) (aY .i64 (aC r.ar) 1))) (some ((aQ.mk false 0 [] 0 0),2)) (aS (KY (aY .i64 (aC r.ar) 1) (aY .i64 (aC r.ar) 1) 1 false) fun l=>aS (lY x0 r (HA l r.aP)) fun r2=>aS (nU (HA l r.aP) (aC r.aP)) fun r3=>aS (aK (fun s=>pW x0 r l r2 s.1 s.2.1 s.2.2.1 s.2.2.2.1 s.2.2.2.2) (r.aP,r2.1,r3.1,(bP r2.2 0),r3.2)) (fun e0=>(fun x3 FT=>br FT (some (x3,0)) (some ((aQ.mk false 0 [] 0 0),r2.2))) e0.1 e0.2))
def gW(l:List ab)(di i:Int):Option ((Int)⊕((Unit)⊕(Bool))):=br (aT i di) (aS (bq l i) fun x0=>aS (bq l di) fun x1=>br (bP x0.aL x1.aL) (some (.inr (.inr false))) (some (.inl (aY .i64 i 1)))) (some (.inr (.inl ())))
def qU(l:List ab)(di:Int):Option Bool:=aS (aK (fun s=>gW l di s) 0) (fun e=>jf e (fun(_:Unit)=>some true) (fun r=>some r))
def od(x0:ae)(r:ay)(s0:aQ)(x1:ag)(eQ i:Int)(x2:ab)(Ax:Int):Option ((Int×Int×Int)⊕(Int×Int)):=aS (bq x0.ah x2.aL) fun x4=>br (cA x4.bI (-1)) (br (cA x4.bI r.aR) (some (.inl (Ax,(aY .i64 eQ 1),(aY .i64 i 1)))) (some (.inl (Ax,eQ,(aY .i64 i 1))))) (some (.inl (Ax,eQ,(aY .i64 i 1))))
def gJ(x0:ae)(r:ay)(s0:aQ)(x1:ag)(ee eQ i:Int):Option ((Int×Int×Int)⊕(Int×Int)):=br (aT i (aC r.ar)) (aS (bq r.ar i) fun x2=>br ((aT x2.aL 0)||(bZ x2.aL (aC x0.ah))) (some (.inl (ee,eQ,(aY .i64 i 1)))) (aS (qU r.ar i) fun r1=>br r1 (aS (bq x0.ah x2.aL) fun x3=>br (cA x3.now (-1)) (br (cA x3.now r.aR) (od x0 r s0 x1 eQ i x2 (aY .i64 ee 1)) (od x0 r s0 x1 eQ i x2 ee)) (br (cA x3.bI (-1)) (br (cA x3.bI r.aR) (some (.inl (ee,(aY .i64 eQ 1),(aY .i64 i 1)))) (some (.inl (ee,eQ,(aY .i64 i 1))))) (some (.inl (ee,eQ,(aY .i64 i 1)))))) (some (.inl (ee,eQ,(aY .i64 i 1)))))) (some (.inr (ee,eQ)))
def rZ(x0:ae)(r:ay)(s0:aQ):Option bJ:=br ((aT r.aR 0)||(bZ r.aR (aC x0.types))) (some (bJ.mk 0 0 0 0)) (aS (bq x0.types r.aR) fun x1=>aS (aK (fun s=>gJ x0 r s0 x1 s.1 s.2.1 s.2.2) (0,0,0)) (fun e0=>(fun GQ GY=>some (bJ.mk (aY .i64 (aY .i64 x1.pK (m_ .i64 x1.ia s0.cT)) (m_ .i64 x1.ib (dZ .i64 s0.lE x1.bm))) GQ GY (m_ .i64 (uw .i64 (dZ .i64 s0.lE x1.bm) 64) (uw .i64 (dZ .i64 s0.lE x1.bm) 64)))) e0.1 e0.2))
def fG(x0:ae)(r:ay)(i:Int):Option ((Int)⊕((Unit)⊕(aQ×bJ×Int))):=br (aT i (aC r.ar)) (aS (bq x0.types r.aR) fun x1=>aS (bq r.ar i) fun x2=>aS (bq x0.ah x2.aL) fun x3=>aS (nS x1 x3.bD) fun r2=>br r2 (some (.inl (aY .i64 i 1))) (some (.inr (.inr ((aQ.mk false 0 [] 0 0),(bJ.mk 0 0 0 0),18))))) (some (.inr (.inl ())))
def kb(x0:ae)(r:ay):Option (aQ×bJ×Int):=br ((aT r.aR 0)||(bZ r.aR (aC x0.types))) (some ((aQ.mk false 0 [] 0 0),(bJ.mk 0 0 0 0),2)) (aS (pg x0 r) fun r1=>br (cA r1 0) (some ((aQ.mk false 0 [] 0 0),(bJ.mk 0 0 0 0),r1)) (aS (aK (fun s=>fG x0 r s) 0) (fun e=>jf e (fun(_:Unit)=>aS (tz x0 r) fun r3=>br (cA r3 0) (some ((aQ.mk false 0 [] 0 0),(bJ.mk 0 0 0 0),r3)) (aS (qp x0 r) fun r4=>br (cA r4.2 0) (some ((aQ.mk false 0 [] 0 0),(bJ.mk 0 0 0 0),r4.2)) (aS (rZ x0 r r4.1) fun r5=>some (r4.1,r5,0)))) (fun r6=>some r6))))
def r_(x0:ae)(r:ay):Option Int:=aS (kb x0 r) fun r1=>some r1.2.2
def vg(s0:bJ):Option Bool:=some ((((((((bZ s0.iq 0)&&(jD s0.iq 1073741824))&&(bZ s0.ee 0))&&(jD s0.ee 15))&&(bZ s0.eQ 0))&&(jD s0.eQ 15))&&(bZ s0.C9 0))&&(jD s0.C9 65535))
def qT(s0:bJ):Option (Int×Int):=br ((((aT s0.iq 0)||(aT s0.ee 0))||(aT s0.eQ 0))||(aT s0.C9 0)) (some (0,2)) (aS (vg s0) fun r=>br r (some ((aY .i64 (m_ .i64 (aY .i64 (m_ .i64 (aY .i64 (m_ .i64 s0.iq 16) s0.ee) 16) s0.eQ) 65536) s0.C9),0)) (some (0,4)))
def ph(x0:ae)(r:ay):Option (Int×Int):=aS (kb x0 r) fun r1=>br (cA r1.2.2 0) (some (0,r1.2.2)) (aS (qT r1.2.1) fun r2=>some (r2.1,r2.2))
def vf(a b:ab):Option Bool:=some ((aT a.aL b.aL)||(((bP a.aL b.aL)&&(!a.drop))&&b.drop))
def jo(a b:List ab)(i:Int):Option ((Int)⊕((Unit)⊕(Bool))):=br ((aT i (aC a))&&(aT i (aC b))) (aS (bq a i) fun x0=>aS (bq b i) fun x1=>br (bP x0.aL x1.aL&&(T0 x0.drop x1.drop&&true)) (some (.inl (aY .i64 i 1))) (aS (vf x0 x1) fun r=>some (.inr (.inr r)))) (some (.inr (.inl ())))
def tu(a b:List ab):Option Bool:=aS (aK (fun s=>jo a b s) 0) (fun e=>jf e (fun(_:Unit)=>some (aT (aC a) (aC b))) (fun r1=>some r1))
def nK(a b:al):Option Bool:=br (cA a.eR b.eR) (some (aT a.eR b.eR)) (aS (tu a.bH.ar b.bH.ar) fun r=>some r)
def nw(self:ae→al→Bool→(List ab)→Option (al×Bool))(x0:ae)(l r:List ab)(x1:al)(DZ:Bool)(i:Int):Option ((al×Bool×Int)⊕(al×Bool)):=br (aT i (aC r)) (eH (e_ l.length 16) (aS (bq r i) fun x2=>eH (e_ (l++[x2]).length 16) (aS (self x0 x1 DZ (l++[x2])) fun r5=>some (.inl (r5.1,r5.2,(aY .i64 i 1)))))) (some (.inr (x1,DZ)))
def og(self:ae→al→Bool→(List ab)→Option (al×Bool))(x0:ae)(dW:al)(fZ:Bool)(l:List ab):Option (al×Bool):=aS (tv x0 dW.ba l) fun r=>br (bP (aC r) 0) (aS (lW (ay.mk dW.aR 0 [] l)) fun r1=>br (cA r1.1 dW.ba) (some (dW,fZ)) (aS (r_ x0 (ay.mk dW.aR 0 [] l)) fun r2=>br (cA r2 0) (some (dW,fZ)) (aS (ph x0 (ay.mk dW.aR 0 [] l)) fun r3=>br (cA r3.2 0) (some (dW,fZ)) (br fZ (aS (nK (al.mk dW.aR dW.ba r3.1 (ay.mk dW.aR 0 [] l)) dW) fun r4=>br r4 (some ((al.mk dW.aR dW.ba r3.1 (ay.mk dW.aR 0 [] l)),true)) (some (dW,fZ))) (some ((al.mk dW.aR dW.ba r3.1 (ay.mk dW.aR 0 [] l)),true)))))) (aS (aK (fun s=>nw self x0 l r s.1 s.2.1 s.2.2) (dW,fZ,0)) (fun e0=>(fun x3 FT=>some (x3,FT)) e0.1 e0.2))
def ke:Nat→ae→al→Bool→(List ab)→Option (al×Bool)|0=>fun _ _ _ _=>none|zZ+1=>fun x0 dW fZ l=>og (ke zZ) x0 dW fZ l
def yu(x0:ae)(dW:al)(fZ:Bool)(l:List ab):Option (al×Bool):=ke sU x0 dW fZ l
def tB(x0:ae)(kind ba:Int):Option (al×Int):=br ((aT kind 0)||(bZ kind (aC x0.types))) (some ((al.mk 0 0 0 (ay.mk 0 0 [] [])),2)) (aS (qV x0 ba) fun r=>br r (aS (yu x0 (al.mk kind ba 0 (ay.mk 0 0 [] [])) false []) fun r1=>br r1.2 (some (r1.1,0)) (some ((al.mk 0 0 0 (ay.mk 0 0 [] [])),24))) (some ((al.mk 0 0 0 (ay.mk 0 0 [] [])),2)))
def iW(x0:ae)(Qhf i:Int):Option ((Int×Int)⊕(Int)):=br ((aT i (aC x0.ah))&&(aT i 10)) (some (.inl ((m_ .i64 Qhf 2),(aY .i64 i 1)))) (some (.inr Qhf))
def kj(x0:ae)(uX:Int)(l:List al)(kind:Int)(l1:List al)(ba:Int):Option ((List al×Int)⊕(List al)):=br (aT ba uX) (aS (tB x0 kind ba) fun r=>br (bP r.2 0) (eH (e_ (l1++[r.1]).length 88) (some (.inl ((l1++[r.1]),(aY .i64 ba 1))))) (some (.inl (l1,(aY .i64 ba 1))))) (some (.inr l1))
def iX(x0:ae)(uX:Int)(l:List al)(kind:Int):Option ((List al×Int)⊕(List al)):=br (aT kind (aC x0.types)) (aS (aK (fun s=>kj x0 uX l kind s.1 s.2) (l,1)) (fun l2=>some (.inl (l2,(aY .i64 kind 1))))) (some (.inr l))
def sa(x0:ae):Option (List al×Int):=aS (aK (fun s=>iW x0 s.1 s.2) (1,0)) (fun uX=>aS (aK (fun s=>iX x0 uX s.1 s.2) ([],0)) (fun l3=>some (l3,0)))
def um(x0:ae)(bit i tK:Int):Option ((Int×Int×Int)⊕(Int)):=some (.inl (tK,(m_ .i64 bit 2),(aY .i64 i 1)))
def yl(x0:ae)(ba bit i:Int):Option ((Int×Int×Int)⊕(Int)):=br ((aT i (aC x0.ah))&&(aT i 63)) (aS (bq x0.ah i) fun x1=>br x1.off (um x0 bit i ba) (um x0 bit i (aY .i64 ba bit))) (some (.inr ba))
def yk(x0:ae):Option Int:=aS (aK (fun s=>yl x0 s.1 s.2.1 s.2.2) (0,1,0)) (fun Qc2=>some Qc2)
def jr(a b:List ab)(i:Int):Option ((Int)⊕((Unit)⊕(Bool))):=br (aT i (aC a)) (aS (bq a i) fun x0=>aS (bq b i) fun x1=>br (bP x0.aL x1.aL&&(T0 x0.drop x1.drop&&true)) (some (.inl (aY .i64 i 1))) (some (.inr (.inr false)))) (some (.inr (.inl ())))
def wH(a b:List ab):Option Bool:=br (cA (aC a) (aC b)) (some false) (aS (aK (fun s=>jr a b s) 0) (fun e=>jf e (fun(_:Unit)=>some true) (fun r=>some r)))
def ju(a b:al)(i:Int):Option ((Int)⊕((Unit)⊕(Bool))):=br (aT i (aC a.bH.aP)) (aS (bq a.bH.aP i) fun x0=>aS (bq b.bH.aP i) fun x1=>br (T0 x0 x1) (some (.inl (aY .i64 i 1))) (some (.inr (.inr false)))) (some (.inr (.inl ())))
def tC(a b:al):Option Bool:=br ((((((cA a.aR b.aR)||(cA a.ba b.ba))||(cA a.eR b.eR))||(cA a.bH.aR b.bH.aR))||(cA a.bH.aH b.bH.aH))||(cA (aC a.bH.aP) (aC b.bH.aP))) (some false) (aS (aK (fun s=>ju a b s) 0) (fun e=>jf e (fun(_:Unit)=>aS (wH a.bH.ar b.bH.ar) fun r=>some r) (fun r1=>some r1)))
def gB(a b:List al)(i:Int):Option ((Int)⊕((Unit)⊕(Bool))):=br (aT i (aC a)) (aS (bq a i) fun x0=>aS (bq b i) fun x1=>aS (tC x0 x1) fun r=>br r (some (.inl (aY .i64 i 1))) (some (.inr (.inr false)))) (some (.inr (.inl ())))
def pM(a b:List al):Option Bool:=br (cA (aC a) (aC b)) (some false) (aS (aK (fun s=>gB a b s) 0) (fun e=>jf e (fun(_:Unit)=>some true) (fun r1=>some r1)))
def eP(x0:ae)(r3:ae×Int)(r5 r6:List al×Int)(ba i:Int):Option ((Int×Int)⊕(Int)):=br (aT i (aC r5.1)) (aS (bq r5.1 i) fun x1=>some (.inl ((wG .i64 ba x1.ba),(aY .i64 i 1)))) (some (.inr ba))
def m8(x0:ae):Option Bool:=aS (uI x0) fun r=>br r (aS (dg x0) fun r1=>br (cQ (aC r1) 0) (aS (pd) fun r2=>some r2) (aS (rj x0) fun r3=>br (cA r3.2 0) (some false) (aS (dg r3.1) fun r4=>br (cQ (aC r4) 0) (some false) (aS (sa x0) fun r5=>aS (sa r3.1) fun r6=>aS (yk x0) fun r7=>aS (aK (fun s=>eP x0 r3 r5 r6 s.1 s.2) (r7,0)) (fun tK=>aS (pM r5.1 r6.1) fun r8=>br r8 (aS (nV x0) fun r9=>br (bP r9 tK) (aS (nV r3.1) fun Xf=>br (bP Xf tK) (aS (pd) fun Ft=>some Ft) (some false)) (some false)) (some false)))))) (aS (pd) fun XY=>some XY)
section
open Go.RowKit
variable {N : Nat}
theorem Ql3:kY Tryz.prog N 9 (Qq 1 dC (fun s:ByteArray=>s.size≤N) (fun _=>rfl)):=Ql0 Tryz.underlying9 (by kernel_rfl)
theorem Qn_:kY Tryz.prog N 22 (Qq 1 (fun l:List ByteArray=>[.sl false 1 (l.map dC)]) (fun l:List (ByteArray)=>l.length≤N∧∀x∈l,(fun s:ByteArray=>s.size≤N) x) (fun _=>rfl)):=Co Tryz.underlying22 (by kernel_rfl) Ql3 (by decide)
theorem yB:kY Tryz.prog N 3 (Qq 1 ax Jo (fun _=>rfl)):=QlZ Tryz.underlying3 (by kernel_rfl)
def aB.ok(N:Nat)(x:aB):Prop:=Jo x.t∧Jo x.a∧True
theorem Qoi:kY Tryz.prog N 86 (Qq 2 aB.enc (aB.ok N) (fun _=>rfl)):=zA Tryz.underlying86 (by kernel_rfl) (.cons rfl yB (.cons rfl yB .nil)) rfl (HE.pair HE.rd (HE.pair HE.rd HE.unit)) (fun a=>⟨a.1,a.2.1⟩) (fun _=>rfl) (fun _ h=>h)
theorem Qky:kY Tryz.prog N 57 (Qq 1 (fun l:List aB=>[.sl false 2 (l.map aB.enc)]) (fun l:List (aB)=>l.length≤N∧∀x∈l,(aB.ok N) x) (fun _=>rfl)):=Co Tryz.underlying57 (by kernel_rfl) Qoi (by decide)
def aw.ok(N:Nat)(x:aw):Prop:=Jo x.aE∧Jo x.dE∧Jo x.aj∧Jo x.cT∧(fun l:List (aB)=>l.length≤N∧∀x∈l,(aB.ok N) x) x.dM∧(fun l:List (aB)=>l.length≤N∧∀x∈l,(aB.ok N) x) x.eU∧True
theorem Qog:kY Tryz.prog N 59 (Qq 6 aw.enc (aw.ok N) (fun _=>rfl)):=zA Tryz.underlying59 (by kernel_rfl) (.cons rfl yB (.cons rfl yB (.cons rfl yB (.cons rfl yB (.cons rfl Qky (.cons rfl Qky .nil)))))) rfl (HE.pair HE.rd (HE.pair HE.rd (HE.pair HE.rd (HE.pair HE.rd (HE.pair HE.rd (HE.pair HE.rd HE.unit)))))) (fun a=>⟨a.1,a.2.1,a.2.2.1,a.2.2.2.1,a.2.2.2.2.1,a.2.2.2.2.2.1⟩) (fun _=>rfl) (fun _ h=>h)
theorem Qoa:kY Tryz.prog N 23 (Qq 1 (fun l:List aw=>[.sl false 6 (l.map aw.enc)]) (fun l:List (aw)=>l.length≤N∧∀x∈l,(aw.ok N) x) (fun _=>rfl)):=Co Tryz.underlying23 (by kernel_rfl) Qog (by decide)
def ak.ok(N:Nat)(x:ak):Prop:=(fun l:List (ByteArray)=>l.length≤N∧∀x∈l,(fun s:ByteArray=>s.size≤N) x) x.aD∧(fun l:List (aw)=>l.length≤N∧∀x∈l,(aw.ok N) x) x.bj∧True
theorem Qob:kY Tryz.prog N 25 (Qq 2 ak.enc (ak.ok N) (fun _=>rfl)):=zA Tryz.underlying25 (by kernel_rfl) (.cons rfl Qn_ (.cons rfl Qoa .nil)) rfl (HE.pair HE.rd (HE.pair HE.rd HE.unit)) (fun a=>⟨a.1,a.2.1⟩) (fun _=>rfl) (fun _ h=>h)
theorem Qkw:kY Tryz.prog N 52 (Qq 1 (fun l:List Int=>[.sl false 1 (l.map ax)]) (fun l:List (Int)=>l.length≤N∧∀x∈l,Jo x) (fun _=>rfl)):=Co Tryz.underlying52 (by kernel_rfl) yB (by decide)
def ag.ok(N:Nat)(x:ag):Prop:=(fun s:ByteArray=>s.size≤N) x.name∧Jo x.yW∧Jo x.aE∧Jo x.dE∧(fun l:List (Int)=>l.length≤N∧∀x∈l,Jo x) x.cap∧Jo x.bD∧Jo x.aj∧Jo x.bm∧Jo x.bp∧Jo x.kC∧Jo x.de∧Jo x.pK∧Jo x.ia∧Jo x.ib∧True
theorem Qoh:kY Tryz.prog N 70 (Qq 14 ag.enc (ag.ok N) (fun _=>rfl)):=zA Tryz.underlying70 (by kernel_rfl) (.cons rfl Ql3 (.cons rfl yB (.cons rfl yB (.cons rfl yB (.cons rfl Qkw (.cons rfl yB (.cons rfl yB (.cons rfl yB (.cons rfl yB (.cons rfl yB (.cons rfl yB (.cons rfl yB (.cons rfl yB (.cons rfl yB .nil)))))))))))))) rfl (HE.pair HE.rd (HE.pair HE.rd (HE.pair HE.rd (HE.pair HE.rd (HE.pair HE.rd (HE.pair HE.rd (HE.pair HE.rd (HE.pair HE.rd (HE.pair HE.rd (HE.pair HE.rd (HE.pair HE.rd (HE.pair HE.rd (HE.pair HE.rd (HE.pair HE.rd HE.unit)))))))))))))) (fun a=>⟨a.1,a.2.1,a.2.2.1,a.2.2.2.1,a.2.2.2.2.1,a.2.2.2.2.2.1,a.2.2.2.2.2.2.1,a.2.2.2.2.2.2.2.1,a.2.2.2.2.2.2.2.2.1,a.2.2.2.2.2.2.2.2.2.1,a.2.2.2.2.2.2.2.2.2.2.1,a.2.2.2.2.2.2.2.2.2.2.2.1,a.2.2.2.2.2.2.2.2.2.2.2.2.1,a.2.2.2.2.2.2.2.2.2.2.2.2.2.1⟩) (fun _=>rfl) (fun _ h=>h)
theorem Qoc:kY Tryz.prog N 26 (Qq 1 (fun l:List ag=>[.sl false 14 (l.map ag.enc)]) (fun l:List (ag)=>l.length≤N∧∀x∈l,(ag.ok N) x) (fun _=>rfl)):=Co Tryz.underlying26 (by kernel_rfl) Qoh (by decide)
def aM.ok(N:Nat)(x:aM):Prop:=Jo x.place∧Jo x.bm∧Jo x.bp∧Jo x.bz∧True
theorem Qkx:kY Tryz.prog N 54 (Qq 4 aM.enc (aM.ok N) (fun _=>rfl)):=zA Tryz.underlying54 (by kernel_rfl) (.cons rfl yB (.cons rfl yB (.cons rfl yB (.cons rfl yB .nil)))) rfl (HE.pair HE.rd (HE.pair HE.rd (HE.pair HE.rd (HE.pair HE.rd HE.unit)))) (fun a=>⟨a.1,a.2.1,a.2.2.1,a.2.2.2.1⟩) (fun _=>rfl) (fun _ h=>h)
theorem QqM:kY Tryz.prog N 4 (Qq 1 bR (fun _:Bool=>True) (fun _=>rfl)):=Qja Tryz.underlying4 (by kernel_rfl)
def af.ok(N:Nat)(x:af):Prop:=(fun s:ByteArray=>s.size≤N) x.name∧(fun l:List (Int)=>l.length≤N∧∀x∈l,Jo x) x.load∧(aM.ok N) x.pick∧(aM.ok N) x.drop∧Jo x.bD∧Jo x.dA∧Jo x.split∧Jo x.bI∧Jo x.now∧(fun _:Bool=>True) x.off∧True
theorem Qof:kY Tryz.prog N 56 (Qq 16 af.enc (af.ok N) (fun _=>rfl)):=zA Tryz.underlying56 (by kernel_rfl) (.cons rfl Ql3 (.cons rfl Qkw (.cons rfl Qkx (.cons rfl Qkx (.cons rfl yB (.cons rfl yB (.cons rfl yB (.cons rfl yB (.cons rfl yB (.cons rfl QqM .nil)))))))))) rfl (HE.pair HE.rd (HE.pair HE.rd (HE.pair HE.rd (HE.pair HE.rd (HE.pair HE.rd (HE.pair HE.rd (HE.pair HE.rd (HE.pair HE.rd (HE.pair HE.rd (HE.pair HE.rd HE.unit)))))))))) (fun a=>⟨a.1,a.2.1,a.2.2.1,a.2.2.2.1,a.2.2.2.2.1,a.2.2.2.2.2.1,a.2.2.2.2.2.2.1,a.2.2.2.2.2.2.2.1,a.2.2.2.2.2.2.2.2.1,a.2.2.2.2.2.2.2.2.2.1⟩) (fun _=>rfl) (fun _ h=>h)
theorem Qod:kY Tryz.prog N 27 (Qq 1 (fun l:List af=>[.sl false 16 (l.map af.enc)]) (fun l:List (af)=>l.length≤N∧∀x∈l,(af.ok N) x) (fun _=>rfl)):=Co Tryz.underlying27 (by kernel_rfl) Qof (by decide)
def aI.ok(N:Nat)(x:aI):Prop:=Jo x.x0∧Jo x.x1
theorem Ql2:kY Tryz.prog N 100 (Qq 2 aI.enc (aI.ok N) (fun _=>rfl)):=Qea Tryz.underlying100 (by kernel_rfl) yB rfl (fun a b=>⟨a,b⟩) (fun _ _=>rfl) (fun _ _ h h2=>⟨h,h2⟩)
theorem Qkv:kY Tryz.prog N 28 (Qq 1 (fun l:List aI=>[.sl false 2 (l.map aI.enc)]) (fun l:List (aI)=>l.length≤N∧∀x∈l,(aI.ok N) x) (fun _=>rfl)):=Co Tryz.underlying28 (by kernel_rfl) Ql2 (by decide)
def ae.ok(N:Nat)(x:ae):Prop:=(ak.ok N) x.bG∧(fun l:List (ag)=>l.length≤N∧∀x∈l,(ag.ok N) x) x.types∧(fun l:List (af)=>l.length≤N∧∀x∈l,(af.ok N) x) x.ah∧(fun l:List (aI)=>l.length≤N∧∀x∈l,(aI.ok N) x) x.db∧(fun l:List (aI)=>l.length≤N∧∀x∈l,(aI.ok N) x) x.before∧True
theorem Qoe:kY Tryz.prog N 30 (Qq 6 ae.enc (ae.ok N) (fun _=>rfl)):=zA Tryz.underlying30 (by kernel_rfl) (.cons rfl Qob (.cons rfl Qoc (.cons rfl Qod (.cons rfl Qkv (.cons rfl Qkv .nil))))) rfl (HE.pair HE.rd (HE.pair HE.rd (HE.pair HE.rd (HE.pair HE.rd (HE.pair HE.rd HE.unit))))) (fun a=>⟨a.1,a.2.1,a.2.2.1,a.2.2.2.1,a.2.2.2.2.1⟩) (fun _=>rfl) (fun _ h=>h)
end
end
end Go.Proofs.YtbilkblifgaflaaGreatDoor
