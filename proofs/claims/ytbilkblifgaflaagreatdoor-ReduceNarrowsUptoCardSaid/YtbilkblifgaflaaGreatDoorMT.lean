/- Part MT. -/
import Derived.Test.YtbilkblifgaflaaGreatDoorMA
import Derived.Test.YtbilkblifgaflaaGreatDoorMC
set_option linter.unusedSimpArgs false
set_option linter.unusedVariables false
set_option linter.unusedSectionVars false
namespace Go.Proofs.YtbilkblifgaflaaGreatDoor
noncomputable section
def aq(n:Int):List Lf:=[.int .i64 n]
def RX(n:Int):List Lf:=[.int .u8 n]
def rF(n:Nat):List Lf:=[.fn (.func n) []]
def dw(b:Bool):List Lf:=[.bool b]
def bR(s:ByteArray):List Lf:=[.str s]
structure au where
  t:Int
  a:Int
structure al where
  az:Int
  cw:Int
  ai:Int
  dc:Int
  cz:List au
  dp:List au
structure ah where
  av:List ByteArray
  aI:List al
structure ag where
  name:ByteArray
  dT:Int
  az:Int
  cw:Int
  cap:List Int
  aL:Int
  ai:Int
  aH:Int
  aQ:Int
  iU:Int
  cK:Int
  jm:Int
  eR:Int
  fO:Int
structure aK where
  place:Int
  aH:Int
  aQ:Int
  aR:Int
instance:DecidableEq aK:=fun a b=>decidable_of_iff (a.place=b.place∧a.aH=b.aH∧a.aQ=b.aQ∧a.aR=b.aR) (by cases a;cases b;simp)
structure ab where
  name:ByteArray
  load:List Int
  pick:aK
  drop:aK
  aL:Int
  bg:Int
  split:Int
  a3:Int
  now:Int
  off:Bool
instance:DecidableEq ab:=fun a b=>decidable_of_iff (a.name=b.name∧a.load=b.load∧a.pick=b.pick∧a.drop=b.drop∧a.aL=b.aL∧a.bg=b.bg∧a.split=b.split∧a.a3=b.a3∧a.now=b.now∧a.off=b.off) (by cases a;cases b;simp)
structure aA where
  x0:Int
  x1:Int
structure ae where
  b8:ah
  types:List ag
  aj:List ab
  cb:List aA
  before:List aA
structure aa where
  EL:Int
  ct:ByteArray
structure aE where
  az:Int
  cw:Int
  ai:Int
structure aV where
  x:ae
  rG:List (List Int)
structure af where
  cR:Int
  drop:Bool
structure aX where
  bE:Int
  cS:Int
  fh:List Bool
  a8:List af
structure a7 where
  x:ae
  t:ag
  r:aX
  zx:List aK
structure a6 where
  g9:Int
  qN:Int
  bW:Int
  cK:Bool
instance:DecidableEq a6:=fun a b=>decidable_of_iff (a.g9=b.g9∧a.qN=b.qN∧a.bW=b.bW∧a.cK=b.cK) (by cases a;cases b;simp)
structure bz where
  cK:Bool
  bW:Int
  Dc:List a6
  p5:Int
  dc:Int
structure aw where
  ready:Int
  lE:Int
  jQ:bz
structure dC where
  zJ:Int
  oE:Int
  ng:Int
  QE:Int
structure Pp where
  x0:Int
  x1:Int
  x2:Int
  x3:Int
structure aU where
  bE:Int
  bN:Int
  sJ:Int
  ec:aX
structure aD where
  ready:Int
  qx:Int
structure aM where
  x:ae
  kind:Int
  bN:Int
  s6:Int
  eK:aU
  y0:Bool
def au.enc(x:au):List Lf:=[lI x.t,lI x.a]
def al.enc(x:al):List Lf:=[lI x.az,lI x.cw,lI x.ai,lI x.dc,lL 2 x.cz au.enc,lL 2 x.dp au.enc]
def ah.enc(x:ah):List Lf:=[lL 1 x.av bR,lL 6 x.aI al.enc]
def ag.enc(x:ag):List Lf:=[.str x.name,lI x.dT,lI x.az,lI x.cw,lL 1 x.cap aq,lI x.aL,lI x.ai,lI x.aH,lI x.aQ,lI x.iU,lI x.cK,lI x.jm,lI x.eR,lI x.fO]
def aK.enc(x:aK):List Lf:=[lI x.place,lI x.aH,lI x.aQ,lI x.aR]
def ab.enc(x:ab):List Lf:=[.str x.name,lL 1 x.load aq,lI x.pick.place,lI x.pick.aH,lI x.pick.aQ,lI x.pick.aR,lI x.drop.place,lI x.drop.aH,lI x.drop.aQ,lI x.drop.aR,lI x.aL,lI x.bg,lI x.split,lI x.a3,lI x.now,.bool x.off]
def aA.enc(x:aA):List Lf:=[lI x.x0,lI x.x1]
def ae.enc(x:ae):List Lf:=[lL 1 x.b8.av bR,lL 6 x.b8.aI al.enc,lL 14 x.types ag.enc,lL 16 x.aj ab.enc,lL 2 x.cb aA.enc,lL 2 x.before aA.enc]
def aa.enc(x:aa):List Lf:=[lI x.EL,.str x.ct]
def aE.enc(x:aE):List Lf:=[lI x.az,lI x.cw,lI x.ai]
def dM(l:List Int):List Lf:=[.sl false 1 (l.map aq)]
def aV.enc(x:aV):List Lf:=[lL 1 x.x.b8.av bR,lL 6 x.x.b8.aI al.enc,lL 14 x.x.types ag.enc,lL 16 x.x.aj ab.enc,lL 2 x.x.cb aA.enc,lL 2 x.x.before aA.enc,lL 1 x.rG dM]
def af.enc(x:af):List Lf:=[lI x.cR,.bool x.drop]
def aX.enc(x:aX):List Lf:=[lI x.bE,lI x.cS,lL 1 x.fh dw,lL 2 x.a8 af.enc]
def a7.enc(x:a7):List Lf:=[lL 1 x.x.b8.av bR,lL 6 x.x.b8.aI al.enc,lL 14 x.x.types ag.enc,lL 16 x.x.aj ab.enc,lL 2 x.x.cb aA.enc,lL 2 x.x.before aA.enc,.str x.t.name,lI x.t.dT,lI x.t.az,lI x.t.cw,lL 1 x.t.cap aq,lI x.t.aL,lI x.t.ai,lI x.t.aH,lI x.t.aQ,lI x.t.iU,lI x.t.cK,lI x.t.jm,lI x.t.eR,lI x.t.fO,lI x.r.bE,lI x.r.cS,lL 1 x.r.fh dw,lL 2 x.r.a8 af.enc,lL 4 x.zx aK.enc]
def a6.enc(x:a6):List Lf:=[lI x.g9,lI x.qN,lI x.bW,.bool x.cK]
def bz.enc(x:bz):List Lf:=[.bool x.cK,lI x.bW,lL 4 x.Dc a6.enc,lI x.p5,lI x.dc]
def aw.enc(x:aw):List Lf:=[lI x.ready,lI x.lE,.bool x.jQ.cK,lI x.jQ.bW,lL 4 x.jQ.Dc a6.enc,lI x.jQ.p5,lI x.jQ.dc]
def dC.enc(x:dC):List Lf:=[lI x.zJ,lI x.oE,lI x.ng,lI x.QE]
def aU.enc(x:aU):List Lf:=[lI x.bE,lI x.bN,lI x.sJ,lI x.ec.bE,lI x.ec.cS,lL 1 x.ec.fh dw,lL 2 x.ec.a8 af.enc]
def aD.enc(x:aD):List Lf:=[lI x.ready,lI x.qx]
def aM.enc(x:aM):List Lf:=[lL 1 x.x.b8.av bR,lL 6 x.x.b8.aI al.enc,lL 14 x.x.types ag.enc,lL 16 x.x.aj ab.enc,lL 2 x.x.cb aA.enc,lL 2 x.x.before aA.enc,lI x.kind,lI x.bN,lI x.s6,lI x.eK.bE,lI x.eK.bN,lI x.eK.sJ,lI x.eK.ec.bE,lI x.eK.ec.cS,lL 1 x.eK.ec.fh dw,lL 2 x.eK.ec.a8 af.enc,.bool x.y0]
def gV.enc(l:List aa):List Lf:=[.sl false 2 (l.map aa.enc)]
def aE.Nx(a b:aE):Bool:=aW a.az b.az&&(aW a.cw b.cw&&(aW a.ai b.ai&&true))
theorem aE.kq(a b:aE):rm (aE.enc a) (aE.enc b)=some (aE.Nx a b):=rfl
def bn:ByteArray:=⟨#[32]⟩
def vD:ByteArray:=⟨#[48,49,50,51,52,53,54,55,56,57,97,98,99,100,101,102,103,104,105,106,107,108,109,110,111,112,113,114,115,116,117,118,119,120,121,122]⟩
def vC:ByteArray:=⟨#[48,48,48,49,48,50,48,51,48,52,48,53,48,54,48,55,48,56,48,57,49,48,49,49,49,50,49,51,49,52,49,53,49,54,49,55,49,56,49,57,50,48,50,49,50,50,50,51,50,52,50,53,50,54,50,55,50,56,50,57,51,48,51,49,51,50,51,51,51,52,51,53,51,54,51,55,51,56,51,57,52,48,52,49,52,50,52,51,52,52,52,53,52,54,52,55,52,56,52,57,53,48,53,49,53,50,53,51,53,52,53,53,53,54,53,55,53,56,53,57,54,48,54,49,54,50,54,51,54,52,54,53,54,54,54,55,54,56,54,57,55,48,55,49,55,50,55,51,55,52,55,53,55,54,55,55,55,56,55,57,56,48,56,49,56,50,56,51,56,52,56,53,56,54,56,55,56,56,56,57,57,48,57,49,57,50,57,51,57,52,57,53,57,54,57,55,57,56,57,57]⟩
def vE:ByteArray:=⟨#[0,1,2,2,3,3,3,3,4,4,4,4,4,4,4,4,5,5,5,5,5,5,5,5,5,5,5,5,5,5,5,5,6,6,6,6,6,6,6,6,6,6,6,6,6,6,6,6,6,6,6,6,6,6,6,6,6,6,6,6,6,6,6,6,7,7,7,7,7,7,7,7,7,7,7,7,7,7,7,7,7,7,7,7,7,7,7,7,7,7,7,7,7,7,7,7,7,7,7,7,7,7,7,7,7,7,7,7,7,7,7,7,7,7,7,7,7,7,7,7,7,7,7,7,7,7,7,7,8,8,8,8,8,8,8,8,8,8,8,8,8,8,8,8,8,8,8,8,8,8,8,8,8,8,8,8,8,8,8,8,8,8,8,8,8,8,8,8,8,8,8,8,8,8,8,8,8,8,8,8,8,8,8,8,8,8,8,8,8,8,8,8,8,8,8,8,8,8,8,8,8,8,8,8,8,8,8,8,8,8,8,8,8,8,8,8,8,8,8,8,8,8,8,8,8,8,8,8,8,8,8,8,8,8,8,8,8,8,8,8,8,8,8,8,8,8,8,8,8,8,8,8,8,8,8,8]⟩
def fp:ByteArray:=⟨#[112,108,97,99,101,115]⟩
def dm:ByteArray:=⟨#[112,108,97,99,101,32]⟩
def ml:ByteArray:=⟨#[97,114,99,115]⟩
def bq:ByteArray:=⟨#[97,114,99,32]⟩
def Ay:ByteArray:=⟨#[97,112,97,114,116]⟩
def yK:ByteArray:=⟨#[98,101,102,111,114,101]⟩
def lC:ByteArray:=⟨#[110,101,116]⟩
def sO:ByteArray:=⟨#[116,121,112,101,115]⟩
def qf:ByteArray:=⟨#[111,114,100,101,114,115]⟩
def sN:ByteArray:=⟨#[114,117,108,101,115]⟩
def AB:ByteArray:=⟨#[104,117,98]⟩
def Az:ByteArray:=⟨#[97,115,104]⟩
def AA:ByteArray:=⟨#[98,97,121]⟩
def HY:ByteArray:=⟨#[111,97]⟩
def AD:ByteArray:=⟨#[118,97,110]⟩
def OX:ByteArray:=⟨#[45]⟩
def gM(x0:ae)(i:Int):Option ((Int)⊕((Unit)⊕(Bool))):=br (aS i (aB x0.b8.aI)) (aG (a4 x0.b8.aI i) fun x1=>br (bU (aB x1.cz) 20) (some (.inr (.inr false))) (br (bU (aB x1.dp) 20) (some (.inr (.inr false))) (some (.inl (aT .i64 i 1))))) (some (.inr (.inl ())))
def oY(x0:ae):Option Bool:=br ((((bU (aB x0.aj) 3)||(bU (aB x0.types) 3))||(bU (aB x0.b8.av) 6))||(bU (aB x0.b8.aI) 30)) (some false) (aG (aF (fun s=>gM x0 s) 0) (fun e=>jB e (fun(_:Unit)=>some true) (fun r=>some r)))
def cU(n:Int):Option (List aa):=br (aS n 0) (none) (br (bU (dA .i64 n (dA .i64 0 0)) 0) (aG (K1 (dA .i64 n (dA .i64 0 0)) (dA .i64 n (dA .i64 0 0)) 24 (aa.mk 0 ByteArray.empty)) fun l=>aG (wa l 0 0) fun l1=>some l1) (some []))
def bC(hG:List (List aa))(size v:Int):Option ((Int×Int)⊕(Int)):=br (aS v (aB hG)) (aG (a4 hG v) fun x0=>br (aS (aT .i64 size (aB x0)) 0) (none) (some (.inl ((aT .i64 size (aB x0)),(aT .i64 v 1))))) (some (.inr size))
def bD(hG:List (List aa))(l:List aa)(v1:Int):Option ((List aa×Int)⊕(List aa)):=br (aS v1 (aB hG)) (aG (a4 hG v1) fun x1=>dr (d_ (l++x1).length 24) (some (.inl ((l++x1),(aT .i64 v1 1))))) (some (.inr l))
def dF(hG:List (List aa)):Option (List aa):=aG (aF (fun s=>bC hG s.1 s.2) (0,0)) (fun RH=>aG (cU RH) fun r=>aG (aF (fun s=>bD hG s.1 s.2) (r,0)) (fun l1=>some l1))
def ma(word:ByteArray)(l l2:List aa)(v:Int)(x0:aa)(ct RS:ByteArray):Option ((List aa×Int)⊕(List aa)):=dr (d_ (l2++[(aa.mk x0.EL RS)]).length 24) (some (.inl ((l2++[(aa.mk x0.EL RS)]),(aT .i64 v 1))))
def mb(word:ByteArray)(l l2:List aa)(v:Int):Option ((List aa×Int)⊕(List aa)):=br (aS v (aB l)) (aG (a4 l v) fun x0=>br (qn x0.ct ByteArray.empty) (ma word l l2 v x0 x0.ct word) (dr (bn.size+x0.ct.size≤9223372036854775807) (dr (word.size+(bH bn x0.ct).size≤9223372036854775807) (ma word l l2 v x0 x0.ct (bH word (bH bn x0.ct)))))) (some (.inr l2))
def jE(word:ByteArray)(l:List aa):Option (List aa):=aG (K1 0 (aB l) 24 (aa.mk 0 ByteArray.empty)) fun l1=>aG (aF (fun s=>mb word l s.1 s.2) (l1,0)) (fun l3=>some l3)
def yP(i:Int):Option ByteArray:=br (aS i 10) (aG (Qp vD i (aT .i64 i 1)) fun s0=>some (vD.extract (i:Int).toNat ((aT .i64 i 1):Int).toNat)) (aG (Qp vC (sx .i64 i 2) (aT .i64 (sx .i64 i 2) 2)) fun s1=>some (vC.extract ((sx .i64 i 2):Int).toNat ((aT .i64 (sx .i64 i 2) 2):Int).toNat))
def G5(x0:Int):Option Int:=some (vb .i64 (sx .i64 x0 78913) 18)
def El(x2 n1:Int):Option Int:=br (bP x2 256) (aG (II vE (wz .u8 (vb .u64 x2 8))) fun b=>some (aT .i64 (aT .i64 n1 8) (wz .i64 (BQ b)))) (aG (II vE (wz .u8 x2)) fun b1=>some (aT .i64 n1 (wz .i64 (BQ b1))))
def Ek(x1 n:Int):Option Int:=br (bP x1 65536) (El (vb .u64 x1 16) (aT .i64 n 16)) (El x1 n)
def Pw(x0:Int):Option Int:=br (bP x0 4294967296) (Ek (vb .u64 x0 32) 32) (Ek x0 0)
def G6(d:Int):Option Int:=aG (Pw d) fun r=>aG (G5 r) fun r1=>none
def mm(i u:Int):Option ByteArray:=aG (G6 u) fun r1=>none
def s4(i base:Int):Option ByteArray:=br (aW base 10) (br ((kP 0 i)&&(aS i 100)) (aG (yP i) fun r=>some r) (br (aS i 0) (mm i (dA .u64 0 (wz .u64 i))) (mm i (wz .u64 i)))) (none)
def AF(i:Int):Option ByteArray:=aG (s4 i 10) fun r=>some r
def jL(i:Int):Option ByteArray:=aG (AF i) fun r=>some r
def jy(n:Int):Option ByteArray:=aG (jL n) fun r=>some r
def AH(c:Int):Option Bool:=some ((bP c 48)&&(kP c 57))
def Db(c:Int):Option Bool:=some ((((bP c 97)&&(kP c 122))||((bP c 65)&&(kP c 90)))||(aW c 95))
def AG(s0:ByteArray)(b:UInt8)(v:Int):Option ((Int)⊕((Unit)⊕(Bool))):=br (aS v (rh s0)) (aG (II s0 v) fun b1=>aG (Db (BQ b1)) fun r1=>br r1 (some (.inl (aT .i64 v 1))) (aG (AH (BQ b1)) fun r2=>br r2 (some (.inl (aT .i64 v 1))) (some (.inr (.inr false))))) (some (.inr (.inl ())))
def ue(s0:ByteArray):Option Bool:=br ((qn s0 ByteArray.empty)||(bU (rh s0) 16)) (some false) (aG (II s0 0) fun b=>aG (AH (BQ b)) fun r=>br r (some false) (aG (aF (fun s=>AG s0 b s) 0) (fun e=>jB e (fun(_:Unit)=>some true) (fun r3=>some r3))))
def gW(n:ah)(i:Int):Option Bool:=some ((bP i 0)&&(aS i (aB n.av)))
def ju(a:al):Option aE:=some (aE.mk a.az a.cw a.ai)
def jz(n least xz:Int):Option Bool:=some ((bP n least)&&(kP n xz))
def j0(l:List au)(v:Int)(x0:au)(r:ByteArray)(l3:List aa):Option ((List aa×Int)⊕(List aa)):=br (bU v 0) (aG (a4 l (dA .i64 v 1)) fun x1=>br (kP x0.t x1.t) (dr (d_ (l3++[(aa.mk 13 r)]).length 24) (some (.inl ((l3++[(aa.mk 13 r)]),(aT .i64 v 1))))) (br (aS x0.a x1.a) (dr (d_ (l3++[(aa.mk 13 r)]).length 24) (some (.inl ((l3++[(aa.mk 13 r)]),(aT .i64 v 1))))) (some (.inl (l3,(aT .i64 v 1)))))) (some (.inl (l3,(aT .i64 v 1))))
def fl(l:List au)(l2:List aa)(v:Int):Option ((List aa×Int)⊕(List aa)):=br (aS v (aB l)) (aG (a4 l v) fun x0=>aG (jL v) fun r=>aG (jz x0.t 0 4096) fun r1=>br (((!r1)||(aS x0.a x0.t))||(bU x0.a (aT .i64 x0.t 4096))) (dr (d_ (l2++[(aa.mk 2 r)]).length 24) (j0 l v x0 r (l2++[(aa.mk 2 r)]))) (j0 l v x0 r l2)) (some (.inr l2))
def jZ(l:List au)(l1:List aa):Option (List aa):=aG (aF (fun s=>fl l s.1 s.2) (l1,0)) (fun l4=>some l4)
def gB(l:List au):Option (List aa):=br ((aW (aB l) 0)||(bU (aB l) 16)) (dr (d_ [(aa.mk 4 ByteArray.empty)].length 24) (jZ l [(aa.mk 4 ByteArray.empty)])) (jZ l [])
def pq(t:Int):Option Bool:=some ((bP t 0)&&(kP t 4096))
def gZ(l:List au)(l2:List Int)(v:Int):Option ((List Int×Int)⊕(List Int)):=br (aS v (aB l)) (aG (a4 l v) fun x0=>aG (pq x0.t) fun r=>br r (br (bU v 0) (aG (a4 l (dA .i64 v 1)) fun x1=>br (kP x0.t x1.t) (dr (d_ (l2++[2]).length 8) (some (.inl ((l2++[2]),(aT .i64 v 1))))) (aG (pq x0.a) fun r1=>br r1 (some (.inl (l2,(aT .i64 v 1)))) (dr (d_ (l2++[2]).length 8) (some (.inl ((l2++[2]),(aT .i64 v 1))))))) (aG (pq x0.a) fun r2=>br r2 (some (.inl (l2,(aT .i64 v 1)))) (dr (d_ (l2++[2]).length 8) (some (.inl ((l2++[2]),(aT .i64 v 1))))))) (dr (d_ (l2++[2]).length 8) (some (.inl ((l2++[2]),(aT .i64 v 1)))))) (some (.inr l2))
def lS(l:List au)(l1:List Int):Option (List Int):=aG (aF (fun s=>gZ l s.1 s.2) (l1,0)) (fun l3=>some l3)
def po(l:List au):Option (List Int):=br (bU (aB l) 16) (dr (d_ [4].length 8) (lS l [4])) (lS l [])
def iL(a:al)(known:List (aE×Bool))(l:List Int)(r3:List aa)(l3:List Int)(v:Int):Option ((List Int×Int)⊕(List Int)):=br (aS v (aB r3)) (aG (a4 r3 v) fun x0=>dr (d_ (l3++[x0.EL]).length 8) (some (.inl ((l3++[x0.EL]),(aT .i64 v 1))))) (some (.inr l3))
def mS(a:al)(known:List (aE×Bool))(l l2:List Int):Option (List Int):=aG (gB a.cz) fun r3=>aG (aF (fun s=>iL a known l r3 s.1 s.2) (l2,0)) (fun l4=>aG (po a.dp) fun r4=>dr (d_ (l4++r4).length 8) (some (l4++r4)))
def lA(a:al)(known:List (aE×Bool))(l l1:List Int):Option (List Int):=aG (ju a) fun r2=>br (oH aE.Nx known r2 false) (dr (d_ (l1++[6]).length 8) (mS a known l (l1++[6]))) (mS a known l l1)
def mR(a:al)(known:List (aE×Bool))(l:List Int):Option (List Int):=br (((((aS a.ai 0)||(bU a.ai 7))||(aS a.dc 0))||(bU a.dc 10000))||(aW a.az a.cw)) (dr (d_ (l++[2]).length 8) (lA a known l (l++[2]))) (lA a known l l)
def wQ(a:al)(known:List (aE×Bool))(r6:List aa)(l7:List Int)(v1:Int):Option ((List Int×Int)⊕(List Int)):=br (aS v1 (aB r6)) (aG (a4 r6 v1) fun x1=>dr (d_ (l7++[x1.EL]).length 8) (some (.inl ((l7++[x1.EL]),(aT .i64 v1 1))))) (some (.inr l7))
def sB(a:al)(known:List (aE×Bool))(l6:List Int):Option (List Int):=aG (gB a.cz) fun r6=>aG (aF (fun s=>wQ a known r6 s.1 s.2) (l6,0)) (fun l8=>aG (po a.dp) fun r7=>dr (d_ (l8++r7).length 8) (some (l8++r7)))
def o8(a:al)(known:List (aE×Bool))(l5:List Int):Option (List Int):=aG (ju a) fun r5=>br (oH aE.Nx known r5 false) (dr (d_ (l5++[6]).length 8) (sB a known (l5++[6]))) (sB a known l5)
def uE(n:ah)(a:al)(known:List (aE×Bool)):Option (List Int):=aG (gW n a.az) fun r=>br r (aG (gW n a.cw) fun r1=>br r1 (mR a known []) (dr (d_ [11].length 8) (mR a known [11]))) (dr (d_ [11].length 8) (br (((((aS a.ai 0)||(bU a.ai 7))||(aS a.dc 0))||(bU a.dc 10000))||(aW a.az a.cw)) (dr (d_ ([11]++[2]:List Int).length 8) (o8 a known ([11]++[2]))) (o8 a known [11])))
def kX(n:ah)(l:List aa)(l2:List (ByteArray×Bool))(v:Int)(x0:ByteArray)(l3:List aa):Option ((List aa×List (ByteArray×Bool)×Int)⊕(List aa)):=some (.inl (l3,(sw KD l2 x0 true),(aT .i64 v 1)))
def gw(n:ah)(l l1:List aa)(l2:List (ByteArray×Bool))(v:Int):Option ((List aa×List (ByteArray×Bool)×Int)⊕(List aa)):=br (aS v (aB n.av)) (aG (a4 n.av v) fun x0=>aG (jy v) fun r=>dr (dm.size+r.size≤9223372036854775807) (aG (ue x0) fun r1=>br r1 (br (oH KD l2 x0 false) (dr (d_ (l1++[(aa.mk 6 (bH dm r))]).length 24) (kX n l l2 v x0 (l1++[(aa.mk 6 (bH dm r))]))) (kX n l l2 v x0 l1)) (dr (d_ (l1++[(aa.mk 5 (bH dm r))]).length 24) (kX n l l2 v x0 (l1++[(aa.mk 5 (bH dm r))]))))) (some (.inr l1))
def gy(n:ah)(l:List aa)(l7:List (aE×Bool))(v1:Int)(x1:al)(r2:List Int)(l8:List aa)(v2:Int):Option ((List aa×Int)⊕(List aa)):=br (aS v2 (aB r2)) (aG (a4 r2 v2) fun x2=>aG (jy v1) fun r3=>dr (bq.size+r3.size≤9223372036854775807) (dr (d_ (l8++[(aa.mk x2 (bH bq r3))]).length 24) (some (.inl ((l8++[(aa.mk x2 (bH bq r3))]),(aT .i64 v2 1)))))) (some (.inr l8))
def gx(n:ah)(l l6:List aa)(l7:List (aE×Bool))(v1:Int):Option ((List aa×List (aE×Bool)×Int)⊕(List aa)):=br (aS v1 (aB n.aI)) (aG (a4 n.aI v1) fun x1=>aG (uE n x1 l7) fun r2=>aG (aF (fun s=>gy n l l7 v1 x1 r2 s.1 s.2) (l6,0)) (fun l9=>aG (ju x1) fun r4=>some (.inl (l9,(sw aE.Nx l7 r4 true),(aT .i64 v1 1))))) (some (.inr l6))
def kY(n:ah)(l l5:List aa):Option (List aa):=aG (aF (fun s=>gx n l s.1 s.2.1 s.2.2) (l5,[],0)) (fun Hz=>some Hz)
def kW(n:ah)(l:List aa):Option (List aa):=aG (aF (fun s=>gw n l s.1 s.2.1 s.2.2) (l,[],0)) (fun l4=>br (bU (aB n.aI) 1024) (dr (d_ (l4++[(aa.mk 4 ml)]).length 24) (kY n l (l4++[(aa.mk 4 ml)]))) (kY n l l4))
def qa(n:ah):Option (List aa):=br (bU (aB n.av) 24) (dr (d_ [(aa.mk 4 fp)].length 24) (kW n [(aa.mk 4 fp)])) (kW n [])
def bI(n least xz:Int):Option Bool:=some ((bP n least)&&(kP n xz))
def pg(n:Int):Option Bool:=aG (bI n 0 1000) fun r=>some (!r)
def bL(s0:List Int)(v:Int):Option ((Int)⊕((Unit)⊕(Int))):=br (aS v (aB s0)) (aG (a4 s0 v) fun x0=>aG (pg x0) fun r=>br r (some (.inr (.inr v))) (some (.inl (aT .i64 v 1)))) (some (.inr (.inl ())))
def eG(s0:List Int):Option Int:=aG (aF (fun s=>bL s0 s) 0) (fun e=>jB e (fun(_:Unit)=>some (-1)) (fun r1=>some r1))
def c9(s0:List Int):Option Bool:=aG (eG s0) fun r=>some (bP r 0)
def mK(l rG:List Int):Option Bool:=aG (bI (aB l) 1 3) fun r=>br ((!r)||(bK (aB l) (aB rG))) (some false) (aG (c9 l) fun r1=>some (!r1))
def a_(right:Bool)(e0:Int)(c:List Int):Option (List Int):=br right (some c) (dr (d_ (c++[e0]).length 8) (some (c++[e0])))
def rI(x0 c:ag):Option Bool:=some (qn x0.name c.name)
def bs(s0:List ag)(c:ag)(v:Int):Option ((Int)⊕((Unit)⊕(Int))):=br (aS v (aB s0)) (aG (a4 s0 v) fun x0=>aG (rI x0 c) fun r=>br r (some (.inr (.inr v))) (some (.inl (aT .i64 v 1)))) (some (.inr (.inl ())))
def dn(s0:List ag)(c:ag):Option Int:=aG (aF (fun s=>bs s0 c s) 0) (fun e=>jB e (fun(_:Unit)=>some (-1)) (fun r1=>some r1))
def cg(s0:List ag)(c:ag):Option Bool:=aG (dn s0 c) fun r=>some (bP r 0)
def rH(n:ah)(l:List ag)(i:Int):Option (List Int):=aG (a4 l i) fun x0=>aG (ue x0.name) fun r=>aG (a_ r 5 []) fun r1=>aG (wa l 0 i) fun l1=>aG (cg l1 x0) fun r2=>aG (a_ (!r2) 6 r1) fun r3=>aG (bI x0.dT 0 10) fun r4=>aG (a_ r4 22 r3) fun r5=>aG (bI x0.az 0 (dA .i64 (aB n.av) 1)) fun r6=>br r6 (aG (bI x0.cw 0 (dA .i64 (aB n.av) 1)) fun r7=>aG (a_ r7 11 r5) fun r8=>aG (a4 l 0) fun x1=>aG (mK x0.cap x1.cap) fun r9=>aG (a_ r9 17 r8) fun M3=>aG (bI x0.aL 0 1073741823) fun zj=>aG (a_ zj 18 M3) fun Ny=>aG (bI x0.aH 0 x0.aQ) fun HQ=>aG (a_ (HQ&&(kP x0.aQ 4096)) 15 Ny) fun Tc=>aG (bI x0.iU 1 4096) fun DU=>br DU (aG (bI x0.cK 0 4096) fun Td=>aG (a_ Td 16 Tc) fun RA=>aG (bI x0.ai 0 7) fun SE=>br SE (aG (bI x0.jm 0 100000) fun CD=>br CD (aG (bI x0.eR 0 100) fun Vb=>br Vb (aG (bI x0.fO 0 100) fun UD=>aG (a_ UD 2 RA) fun SF=>some SF) (aG (a_ false 2 RA) fun Vc=>some Vc)) (aG (a_ false 2 RA) fun Wb=>some Wb)) (aG (a_ false 2 RA) fun Wc=>some Wc)) (aG (a_ false 16 Tc) fun UE=>aG (bI x0.ai 0 7) fun Xp=>br Xp (aG (bI x0.jm 0 100000) fun Xq=>br Xq (aG (bI x0.eR 0 100) fun Xr=>br Xr (aG (bI x0.fO 0 100) fun We=>aG (a_ We 2 UE) fun Wf=>some Wf) (aG (a_ false 2 UE) fun Wg=>some Wg)) (aG (a_ false 2 UE) fun YX=>some YX)) (aG (a_ false 2 UE) fun YY=>some YY))) (aG (a_ false 11 r5) fun YZ=>aG (a4 l 0) fun x2=>aG (mK x0.cap x2.cap) fun r36=>aG (a_ r36 17 YZ) fun r37=>aG (bI x0.aL 0 1073741823) fun r38=>aG (a_ r38 18 r37) fun r39=>aG (bI x0.aH 0 x0.aQ) fun Nz=>aG (a_ (Nz&&(kP x0.aQ 4096)) 15 r39) fun r41=>aG (bI x0.iU 1 4096) fun r42=>br r42 (aG (bI x0.cK 0 4096) fun r43=>aG (a_ r43 16 r41) fun r44=>aG (bI x0.ai 0 7) fun r45=>br r45 (aG (bI x0.jm 0 100000) fun r46=>br r46 (aG (bI x0.eR 0 100) fun r47=>br r47 (aG (bI x0.fO 0 100) fun r48=>aG (a_ r48 2 r44) fun r49=>some r49) (aG (a_ false 2 r44) fun r50=>some r50)) (aG (a_ false 2 r44) fun r51=>some r51)) (aG (a_ false 2 r44) fun r52=>some r52)) (aG (a_ false 16 r41) fun r53=>aG (bI x0.ai 0 7) fun r54=>br r54 (aG (bI x0.jm 0 100000) fun r55=>br r55 (aG (bI x0.eR 0 100) fun r56=>br r56 (aG (bI x0.fO 0 100) fun r57=>aG (a_ r57 2 r53) fun r58=>some r58) (aG (a_ false 2 r53) fun r59=>some r59)) (aG (a_ false 2 r53) fun r60=>some r60)) (aG (a_ false 2 r53) fun r61=>some r61)))
def mJ(n:ah)(l:List ag)(v:Int)(r1:List Int)(l3:List aa)(v1:Int):Option ((List aa×Int)⊕(List aa)):=br (aS v1 (aB r1)) (aG (a4 r1 v1) fun x0=>aG (jy v) fun r2=>dr (d_ (l3++[(aa.mk x0 r2)]).length 24) (some (.inl ((l3++[(aa.mk x0 r2)]),(aT .i64 v1 1))))) (some (.inr l3))
def mI(n:ah)(l:List ag)(l2:List aa)(v:Int):Option ((List aa×Int)⊕(List aa)):=br (aS v (aB l)) (aG (rH n l v) fun r1=>aG (aF (fun s=>mJ n l v r1 s.1 s.2) (l2,0)) (fun l4=>some (.inl (l4,(aT .i64 v 1))))) (some (.inr l2))
def mH(n:ah)(l:List ag)(l1:List aa):Option (List aa):=aG (aF (fun s=>mI n l s.1 s.2) (l1,0)) (fun l5=>some l5)
def qR(n:ah)(l:List ag):Option (List aa):=aG (bI (aB l) 1 6) fun r=>br r (mH n l []) (dr (d_ [(aa.mk 4 ByteArray.empty)].length 24) (mH n l [(aa.mk 4 ByteArray.empty)]))
def iK(a:List Int)(bt v:Int):Option ((Int)⊕((Unit)⊕(Bool))):=br (aS v (aB a)) (aG (a4 a v) fun x0=>br ((aS x0 0)||(bU x0 1000)) (some (.inr (.inr false))) (some (.inl (aT .i64 v 1)))) (some (.inr (.inl ())))
def qU(a:List Int)(bt:Int):Option Bool:=aG (aF (fun s=>iK a bt s) 0) (fun e=>jB e (fun(_:Unit)=>some (aW (aB a) bt)) (fun r=>some r))
def eQ(n least xz:Int):Option Bool:=some ((bP n least)&&(kP n xz))
def rj(n:Int):Option Bool:=some ((bP n 0)&&(kP n 4096))
def jA(s0:aK):Option Int:=br (aW s0.place (-1)&&(aW s0.aH 0&&(aW s0.aQ 0&&(aW s0.aR 0&&true)))) (some 0) (br (bP s0.place 0) (aG (rj s0.aH) fun r=>br r (aG (rj s0.aQ) fun r1=>br (r1&&(kP s0.aH s0.aQ)) (aG (rj s0.aR) fun r2=>br r2 (some 0) (some 2)) (some 2)) (some 2)) (some 2))
def jv(o:ab)(types:Int):Option Bool:=aG (eQ o.bg (-1) 1000000) fun r=>br r (aG (eQ o.split 1 4) fun r1=>some (((((r1&&(((aW o.split 1)||(aW o.pick.place (-1)))||(aW o.drop.place (-1))))&&(bP o.a3 (-1)))&&(aS o.a3 types))&&(bP o.now (-1)))&&(aS o.now types))) (some false)
def bk(right:Bool)(e0:Int)(c:List Int):Option (List Int):=br right (some c) (dr (d_ (c++[e0]).length 8) (some (c++[e0])))
def sG(x0 c:ab):Option Bool:=some (qn x0.name c.name)
def bl(s0:List ab)(c:ab)(v:Int):Option ((Int)⊕((Unit)⊕(Int))):=br (aS v (aB s0)) (aG (a4 s0 v) fun x0=>aG (sG x0 c) fun r=>br r (some (.inr (.inr v))) (some (.inl (aT .i64 v 1)))) (some (.inr (.inl ())))
def da(s0:List ab)(c:ab):Option Int:=aG (aF (fun s=>bl s0 c s) 0) (fun e=>jB e (fun(_:Unit)=>some (-1)) (fun r1=>some r1))
def bO(s0:List ab)(c:ab):Option Bool:=aG (da s0 c) fun r=>some (bP r 0)
def sF(n:ah)(bt types:Int)(l:List ab)(i:Int):Option (List Int):=aG (a4 l i) fun x0=>aG (ue x0.name) fun r=>aG (bk r 5 []) fun r1=>aG (wa l 0 i) fun l1=>aG (bO l1 x0) fun r2=>aG (bk (!r2) 6 r1) fun r3=>aG (qU x0.load bt) fun r4=>aG (bk r4 17 r3) fun r5=>aG (eQ x0.pick.place (-1) (dA .i64 (aB n.av) 1)) fun r6=>br r6 (aG (eQ x0.drop.place (-1) (dA .i64 (aB n.av) 1)) fun r7=>aG (bk r7 11 r5) fun r8=>aG (bk ((bK x0.pick.place (-1))||(bK x0.drop.place (-1))) 19 r8) fun r9=>aG (jA x0.pick) fun M3=>br (aW M3 0) (aG (jA x0.drop) fun zj=>aG (bk (aW zj 0) 14 r9) fun Ny=>aG (eQ x0.aL 0 1073741823) fun HQ=>aG (bk HQ 18 Ny) fun Tc=>aG (jv x0 types) fun DU=>aG (bk DU 2 Tc) fun Td=>some Td) (aG (bk false 14 r9) fun RA=>aG (eQ x0.aL 0 1073741823) fun SE=>aG (bk SE 18 RA) fun CD=>aG (jv x0 types) fun Vb=>aG (bk Vb 2 CD) fun UD=>some UD)) (aG (bk false 11 r5) fun SF=>aG (bk ((bK x0.pick.place (-1))||(bK x0.drop.place (-1))) 19 SF) fun Vc=>aG (jA x0.pick) fun Wb=>br (aW Wb 0) (aG (jA x0.drop) fun Wc=>aG (bk (aW Wc 0) 14 Vc) fun UE=>aG (eQ x0.aL 0 1073741823) fun Xp=>aG (bk Xp 18 UE) fun Xq=>aG (jv x0 types) fun Xr=>aG (bk Xr 2 Xq) fun We=>some We) (aG (bk false 14 Vc) fun Wf=>aG (eQ x0.aL 0 1073741823) fun Wg=>aG (bk Wg 18 Wf) fun YX=>aG (jv x0 types) fun YY=>aG (bk YY 2 YX) fun YZ=>some YZ))
def mW(n:ah)(bt types:Int)(l:List ab)(v:Int)(r:List Int)(l3:List aa)(v1:Int):Option ((List aa×Int)⊕(List aa)):=br (aS v1 (aB r)) (aG (a4 r v1) fun x0=>aG (jy v) fun r1=>dr (d_ (l3++[(aa.mk x0 r1)]).length 24) (some (.inl ((l3++[(aa.mk x0 r1)]),(aT .i64 v1 1))))) (some (.inr l3))
def mV(n:ah)(bt types:Int)(l:List ab)(l2:List aa)(v:Int):Option ((List aa×Int)⊕(List aa)):=br (aS v (aB l)) (aG (sF n bt types l v) fun r=>aG (aF (fun s=>mW n bt types l v r s.1 s.2) (l2,0)) (fun l4=>some (.inl (l4,(aT .i64 v 1))))) (some (.inr l2))
def mT(n:ah)(bt types:Int)(l:List ab)(l1:List aa):Option (List aa):=aG (aF (fun s=>mV n bt types l s.1 s.2) (l1,0)) (fun l5=>some l5)
def q9(n:ah)(bt types:Int)(l:List ab):Option (List aa):=br (bU (aB l) 10) (dr (d_ [(aa.mk 4 ByteArray.empty)].length 24) (mT n bt types l [(aa.mk 4 ByteArray.empty)])) (mT n bt types l [])
def wB(l:List ag):Option Int:=br (aW (aB l) 0) (some 0) (aG (a4 l 0) fun x0=>some (aB x0.cap))
def nX(self:Int→Option ByteArray)(n:Int):Option ByteArray:=br (aS n 10) (some (Kk (wz .i32 (aT .i64 48 (yG n 10))))) (aG (self (vX .i64 n 10)) fun r=>dr (r.size+(Kk (wz .i32 (aT .i64 48 (yG n 10)))).size≤9223372036854775807) (some (bH r (Kk (wz .i32 (aT .i64 48 (yG n 10)))))))
def nY:Nat→Int→Option ByteArray|0=>fun _=>none|B6+1=>fun n=>nX (nY B6) n
def uj(n:Int):Option ByteArray:=nY xM n
def uK(a b:aA):Option Bool:=br (aW a.x0 b.x0&&(aW a.x1 b.x1&&true)) (some true) (br (aW a.x0 b.x1) (some (aW a.x1 b.x0)) (some false))
def uJ(a b:aA):Option Bool:=some (aW a.x0 b.x0&&(aW a.x1 b.x1&&true))
def kQ(n c:Int):Option Bool:=some ((bP n 0)&&(aS n c))
def eC(aj:Int)(word:ByteArray)(l:List aA)(l2:List aa)(v:Int)(x0:aA)(r:ByteArray)(l3:List aA)(v1:Int):Option ((Int)⊕(List aa)):=br (aS v1 (aB l3)) (aG (a4 l3 v1) fun x1=>aG (uJ x0 x1) fun r3=>br r3 (dr (d_ (l2++[(aa.mk 6 (bH (bH word bn) r))]).length 24) (some (.inr (l2++[(aa.mk 6 (bH (bH word bn) r))])))) (some (.inl (aT .i64 v1 1)))) (some (.inr l2))
def eZ(aj:Int)(word:ByteArray)(l:List aA)(l2:List aa)(v:Int):Option ((List aa×Int)⊕(List aa)):=br (aS v (aB l)) (aG (a4 l v) fun x0=>dr (word.size+bn.size≤9223372036854775807) (aG (uj v) fun r=>dr ((bH word bn).size+r.size≤9223372036854775807) (aG (kQ x0.x0 aj) fun r1=>br r1 (aG (kQ x0.x1 aj) fun r2=>br r2 (br (aW x0.x0 x0.x1) (dr (d_ (l2++[(aa.mk 2 (bH (bH word bn) r))]).length 24) (some (.inl ((l2++[(aa.mk 2 (bH (bH word bn) r))]),(aT .i64 v 1))))) (aG (wa l 0 v) fun l3=>aG (aF (fun s=>eC aj word l l2 v x0 r l3 s) 0) (fun l4=>some (.inl (l4,(aT .i64 v 1)))))) (dr (d_ (l2++[(aa.mk 2 (bH (bH word bn) r))]).length 24) (some (.inl ((l2++[(aa.mk 2 (bH (bH word bn) r))]),(aT .i64 v 1)))))) (dr (d_ (l2++[(aa.mk 2 (bH (bH word bn) r))]).length 24) (some (.inl ((l2++[(aa.mk 2 (bH (bH word bn) r))]),(aT .i64 v 1)))))))) (some (.inr l2))
def ir(aj:Int)(word:ByteArray)(l:List aA)(l1:List aa):Option (List aa):=aG (aF (fun s=>eZ aj word l s.1 s.2) (l1,0)) (fun l5=>some l5)
def mj(aj:Int)(word:ByteArray)(l:List aA):Option (List aa):=br (bU (aB l) 16) (dr (d_ [(aa.mk 4 word)].length 24) (ir aj word l [(aa.mk 4 word)])) (ir aj word l [])
def dk(aj:Int)(word:ByteArray)(l:List aA)(l2:List aa)(v:Int)(x0:aA)(r:ByteArray)(l3:List aA)(v1:Int):Option ((Int)⊕(List aa)):=br (aS v1 (aB l3)) (aG (a4 l3 v1) fun x1=>aG (uK x0 x1) fun r3=>br r3 (dr (d_ (l2++[(aa.mk 6 (bH (bH word bn) r))]).length 24) (some (.inr (l2++[(aa.mk 6 (bH (bH word bn) r))])))) (some (.inl (aT .i64 v1 1)))) (some (.inr l2))
def dN(aj:Int)(word:ByteArray)(l:List aA)(l2:List aa)(v:Int):Option ((List aa×Int)⊕(List aa)):=br (aS v (aB l)) (aG (a4 l v) fun x0=>dr (word.size+bn.size≤9223372036854775807) (aG (uj v) fun r=>dr ((bH word bn).size+r.size≤9223372036854775807) (aG (kQ x0.x0 aj) fun r1=>br r1 (aG (kQ x0.x1 aj) fun r2=>br r2 (br (aW x0.x0 x0.x1) (dr (d_ (l2++[(aa.mk 2 (bH (bH word bn) r))]).length 24) (some (.inl ((l2++[(aa.mk 2 (bH (bH word bn) r))]),(aT .i64 v 1))))) (aG (wa l 0 v) fun l3=>aG (aF (fun s=>dk aj word l l2 v x0 r l3 s) 0) (fun l4=>some (.inl (l4,(aT .i64 v 1)))))) (dr (d_ (l2++[(aa.mk 2 (bH (bH word bn) r))]).length 24) (some (.inl ((l2++[(aa.mk 2 (bH (bH word bn) r))]),(aT .i64 v 1)))))) (dr (d_ (l2++[(aa.mk 2 (bH (bH word bn) r))]).length 24) (some (.inl ((l2++[(aa.mk 2 (bH (bH word bn) r))]),(aT .i64 v 1)))))))) (some (.inr l2))
def fm(aj:Int)(word:ByteArray)(l:List aA)(l1:List aa):Option (List aa):=aG (aF (fun s=>dN aj word l s.1 s.2) (l1,0)) (fun l5=>some l5)
def jc(aj:Int)(word:ByteArray)(l:List aA):Option (List aa):=br (bU (aB l) 16) (dr (d_ [(aa.mk 4 word)].length 24) (fm aj word l [(aa.mk 4 word)])) (fm aj word l [])
def uI(aj:Int)(cb before:List aA):Option (List aa):=aG (jc aj Ay cb) fun r=>aG (mj aj yK before) fun r1=>dr (d_ (r++r1).length 24) (some (r++r1))
def mM(x0:ae):Option (List aa):=aG (qa x0.b8) fun r=>aG (jE lC r) fun r1=>aG (qR x0.b8 x0.types) fun r2=>aG (jE sO r2) fun r3=>aG (wB x0.types) fun r4=>aG (q9 x0.b8 r4 (aB x0.types) x0.aj) fun r5=>aG (jE qf r5) fun r6=>aG (uI (aB x0.aj) x0.cb x0.before) fun r7=>aG (jE sN r7) fun r8=>aG (dF [r1,r3,r6,r8]) fun r9=>some r9
def jx(x0:ae):Option Bool:=aG (mM x0) fun r=>some (aW (aB r) 0)
def s9(l:List au):Option Bool:=aG (gB l) fun r=>some (aW (aB r) 0)
def lX(p:au)(t:Int):Option Int:=some (dA .i64 p.t t)
def bJ(x0:List au)(target i j:Int):Option ((Int×Int)⊕(Int)):=br (aS i j) (aG (a4 x0 (wz .i64 (vb .u64 (wz .u64 (aT .i64 i j)) 1))) fun x1=>aG (lX x1 target) fun r=>br (aS r 0) (some (.inl ((aT .i64 (wz .i64 (vb .u64 (wz .u64 (aT .i64 i j)) 1)) 1),j))) (some (.inl (i,(wz .i64 (vb .u64 (wz .u64 (aT .i64 i j)) 1)))))) (some (.inr i))
def b_(x0:List au)(target:Int):Option (Int×Bool):=aG (aF (fun s=>bJ x0 target s.1 s.2) (0,(aB x0))) (fun i1=>br (aS i1 (aB x0)) (aG (a4 x0 i1) fun x2=>aG (lX x2 target) fun r1=>some (i1,(aW r1 0))) (some (i1,false)))
def qj(l:List au)(t:Int):Option Int:=aG (b_ l t) fun r=>br r.2 (aG (a4 l r.1) fun x0=>some x0.a) (br (aW r.1 0) (aG (a4 l 0) fun x1=>some (dA .i64 (aT .i64 t x1.a) x1.t)) (br (aW r.1 (aB l)) (aG (a4 l (dA .i64 r.1 1)) fun x2=>some (dA .i64 (aT .i64 t x2.a) x2.t)) (aG (a4 l (dA .i64 r.1 1)) fun x3=>aG (a4 l r.1) fun x4=>dr (((dA .i64 x4.t x3.t):Int)≠0) (some (aT .i64 x3.a (vX .i64 (dA .i64 (aT .i64 (sx .i64 (dA .i64 t x3.t) (dA .i64 x4.a x3.a)) (dA .i64 x4.t x3.t)) 1) (dA .i64 x4.t x3.t)))))))
def qi(l:List au)(t:Int):Option Int:=aG (jz t 0 1073741824) fun r=>br r (aG (s9 l) fun r1=>br r1 (aG (qj l t) fun r2=>some r2) (some 0)) (some 0)
def qE(a:al)(t out v:Int):Option ((Int×Int)⊕(Int)):=br (aS v (aB a.dp)) (aG (a4 a.dp v) fun x0=>br (kP x0.t t) (some (.inl ((aT .i64 out x0.a),(aT .i64 v 1)))) (some (.inl (out,(aT .i64 v 1))))) (some (.inr out))
def lR(a:al)(t:Int):Option Int:=aG (qi a.cz t) fun r=>aG (aF (fun s=>qE a t s.1 s.2) (r,0)) (fun SC=>some SC)
def eO(n:ah)(ai az t:Int)(l l1:List Int)(v:Int):Option ((List Int×Int)⊕(List Int)):=br (aS v (aB l)) (aG (a4 l1 v) fun x0=>some (.inl ((fi l1 v (-1)),(aT .i64 v 1)))) (some (.inr l1))
def eP(n:ah)(ai az:Int)(l l4:List Int)(vK:Bool)(v1:Int):Option ((List Int×Bool×Int)⊕(List Int×Bool)):=br (aS v1 (aB n.aI)) (aG (a4 n.aI v1) fun x2=>br (bK x2.ai ai) (some (.inl (l4,vK,(aT .i64 v1 1)))) (aG (gW n x2.az) fun r1=>br r1 (aG (gW n x2.cw) fun r2=>br r2 (aG (a4 l4 x2.az) fun x3=>br (aS x3 0) (some (.inl (l4,vK,(aT .i64 v1 1)))) (aG (lR x2 x3) fun r3=>aG (a4 l4 x2.cw) fun x4=>br (aS x4 0) (some (.inl ((fi l4 x2.cw r3),true,(aT .i64 v1 1)))) (br (aS r3 x4) (some (.inl ((fi l4 x2.cw r3),true,(aT .i64 v1 1)))) (some (.inl (l4,vK,(aT .i64 v1 1))))))) (some (.inl (l4,vK,(aT .i64 v1 1))))) (some (.inl (l4,vK,(aT .i64 v1 1)))))) (some (.inr (l4,vK)))
def kg(n:ah)(ai az:Int)(l l3:List Int)(better:Bool):Option ((List Int×Bool)⊕(List Int)):=br better (aG (aF (fun s=>eP n ai az l s.1 s.2.1 s.2.2) (l3,false,0)) (fun e0=>(fun l5 I4=>some (.inl (l5,I4))) e0.1 e0.2)) (some (.inr l3))
def kZ(n:ah)(ai az t:Int):Option (List Int):=aG (K1 (aB n.av) (aB n.av) 8 0) fun l=>aG (aF (fun s=>eO n ai az t l s.1 s.2) (l,0)) (fun l2=>aG (gW n az) fun r=>br r (aG (a4 l2 az) fun x1=>aG (aF (fun s=>kg n ai az l s.1 s.2) ((fi l2 az t),true)) (fun l6=>some l6)) (some l2))
def fH(x0:ae)(l:List (List Int))(v:Int):Option ((List (List Int)×Int)⊕(List (List Int))):=br (aS v (aB x0.types)) (aG (a4 x0.types v) fun x1=>aG (kZ x0.b8 x1.ai x1.az x1.aH) fun r=>dr (d_ (l++[r]).length 24) (some (.inl ((l++[r]),(aT .i64 v 1))))) (some (.inr l))
def lB(x0:ae):Option aV:=aG (aF (fun s=>fH x0 s.1 s.2) ([],0)) (fun l1=>some (aV.mk x0 l1))
def nq(t:ag)(aL:Int):Option Bool:=some (((bP t.aL 0)&&(bP aL 0))&&(aW (vJ .i64 aL t.aL) 0))
def dj(r:aV)(o:ab)(place least v:Int):Option ((Int×Int)⊕(Int)):=br (aS v (aB r.x.types)) (aG (a4 r.x.types v) fun x0=>aG (a4 r.rG v) fun x1=>aG (a4 x1 place) fun x2=>aG (nq x0 o.aL) fun r1=>br ((r1&&(bP x2 0))&&((aS least 0)||(aS x2 least))) (some (.inl (x2,(aT .i64 v 1)))) (some (.inl (least,(aT .i64 v 1))))) (some (.inr least))
def jb(r:aV)(o:ab)(place:Int):Option Int:=aG (aF (fun s=>dj r o place s.1 s.2) ((-1),0)) (fun MJ=>some MJ)
def iM(t:ag)(c:ab)(c1:aV)(c2 c3:Int):Option Bool:=aG (nq t c.aL) fun r=>br r (aG (kZ c1.x.b8 t.ai c2 c3) fun r1=>aG (a4 r1 t.cw) fun x0=>some ((bP x0 0)&&(kP x0 t.aQ))) (some false)
def bo(s0:List ag)(c:ab)(c1:aV)(c2 c3 v:Int):Option ((Int)⊕((Unit)⊕(Int))):=br (aS v (aB s0)) (aG (a4 s0 v) fun x0=>aG (iM x0 c c1 c2 c3) fun r=>br r (some (.inr (.inr v))) (some (.inl (aT .i64 v 1)))) (some (.inr (.inl ())))
def df(s0:List ag)(c:ab)(c1:aV)(c2 c3:Int):Option Int:=aG (aF (fun s=>bo s0 c c1 c2 c3 s) 0) (fun e=>jB e (fun(_:Unit)=>some (-1)) (fun r1=>some r1))
def cT(s0:List ag)(c:ab)(c1:aV)(c2 c3:Int):Option Bool:=aG (df s0 c c1 c2 c3) fun r=>some (bP r 0)
def jH(r:aV)(o:ab)(place bW:Int):Option Bool:=aG (cT r.x.types o r place bW) fun r1=>some r1
def im(k:Int)(c:aV)(c1:ab)(c2:aK)(c3:Int):Option Bool:=aG (jH c c1 c2.place (aT .i64 (aT .i64 c3 k) c2.aR)) fun r=>some (!r)
def iP(c:aV)(c1:ab)(c2:aK)(c3 i j:Int):Option ((Int×Int)⊕(Int)):=br (aS i j) (aG (im (wz .i64 (vb .u64 (wz .u64 (aT .i64 i j)) 1)) c c1 c2 c3) fun r=>br r (some (.inl (i,(wz .i64 (vb .u64 (wz .u64 (aT .i64 i j)) 1))))) (some (.inl ((aT .i64 (wz .i64 (vb .u64 (wz .u64 (aT .i64 i j)) 1)) 1),j)))) (some (.inr i))
def kD(n:Int)(c:aV)(c1:ab)(c2:aK)(c3:Int):Option Int:=aG (aF (fun s=>iP c c1 c2 c3 s.1 s.2) (0,n)) (fun i1=>some i1)
def eI(r:aV)(o:ab)(s0:aK):Option aK:=br (aS s0.place 0) (some s0) (aG (jb r o s0.place) fun r1=>br ((aS r1 0)||(bU r1 s0.aQ)) (some s0) (aG (kD (aT .i64 (dA .i64 s0.aQ (Bv s0.aH r1)) 1) r o s0 (Bv s0.aH r1)) fun r2=>br (aW r2 0) (some s0) (some (aK.mk s0.place (Bv s0.aH r1) (dA .i64 (aT .i64 (Bv s0.aH r1) r2) 1) s0.aR))))
def cD(s0:List ab):Option (List ab):=br (List.isEmpty s0) (YA (some []) (dr (d_ s0.length 152) (some s0))) (dr (d_ s0.length 152) (some s0))
def iV(x0:ae)(r1:aV)(r2 l:List ab)(v:Int):Option ((List ab×Int)⊕(List ab)):=br (aS v (aB r2)) (aG (a4 l v) fun x1=>br x1.off (some (.inl (l,(aT .i64 v 1)))) (aG (eI r1 x1 x1.pick) fun r3=>aG (eI r1 x1 x1.drop) fun r4=>some (.inl ((fi (fi l v (ab.mk x1.name x1.load r3 x1.drop x1.aL x1.bg x1.split x1.a3 x1.now x1.off)) v (ab.mk x1.name x1.load r3 r4 x1.aL x1.bg x1.split x1.a3 x1.now x1.off)),(aT .i64 v 1))))) (some (.inr l))
def nz(x0:ae):Option (ae×Int):=aG (jx x0) fun r=>br r (aG (lB x0) fun r1=>aG (cD x0.aj) fun r2=>aG (aF (fun s=>iV x0 r1 r2 s.1 s.2) (r2,0)) (fun l1=>some ((ae.mk x0.b8 x0.types l1 x0.cb x0.before),0))) (some ((ae.mk (ah.mk [] []) [] [] [] []),2))
def nW(n:ah)(ai az cw v:Int):Option ((Int)⊕((Unit)⊕(al×Bool))):=br (aS v (aB n.aI)) (aG (a4 n.aI v) fun x0=>aG (ju x0) fun r=>br (aW r.az az&&(aW r.cw cw&&(aW r.ai ai&&true))) (some (.inr (.inr (x0,true)))) (some (.inl (aT .i64 v 1)))) (some (.inr (.inl ())))
def sA(n:ah)(ai az cw:Int):Option (al×Bool):=aG (aF (fun s=>nW n ai az cw s) 0) (fun e=>jB e (fun(_:Unit)=>some ((al.mk 0 0 0 0 [] []),false)) (fun r1=>some r1))
def qD(n:ah)(ai az cw t:Int):Option (Int×Int×Int):=aG (gW n az) fun r=>br r (aG (gW n cw) fun r1=>br r1 (br (aW az cw) (some (t,0,0)) (aG (sA n ai az cw) fun r2=>br r2.2 (aG (lR r2.1 t) fun r3=>some (r3,r2.1.dc,0)) (some (0,0,12)))) (some (0,0,11))) (some (0,0,11))
def eY(r:aV)(a:al)(v:Int):Option ((Int)⊕((Unit)⊕(Bool))):=br (aS v (aB r.x.types)) (aG (a4 r.x.types v) fun x0=>aG (a4 r.rG v) fun x1=>aG (a4 x1 a.az) fun x2=>br ((bK x0.ai a.ai)||(aS x2 0)) (some (.inl (aT .i64 v 1))) (aG (qD r.x.b8 a.ai a.az a.cw x2) fun r1=>br ((aW r1.2.2 0)&&(kP r1.1 x0.aQ)) (some (.inr (.inr true))) (some (.inl (aT .i64 v 1))))) (some (.inr (.inl ())))
def mi(r:aV)(a:al):Option Bool:=aG (aF (fun s=>eY r a s) 0) (fun e=>jB e (fun(_:Unit)=>some false) (fun r2=>some r2))
def jG(x0:ae)(r1:aV)(l:List al)(v:Int):Option ((List al×Int)⊕(List al)):=br (aS v (aB x0.b8.aI)) (aG (a4 x0.b8.aI v) fun x1=>aG (mi r1 x1) fun r2=>br r2 (dr (d_ (l++[x1]).length 80) (some (.inl ((l++[x1]),(aT .i64 v 1))))) (some (.inl (l,(aT .i64 v 1))))) (some (.inr l))
def o_(x0:ae):Option (ae×Int):=aG (jx x0) fun r=>br r (aG (lB x0) fun r1=>aG (aF (fun s=>jG x0 r1 s.1 s.2) ([],0)) (fun l1=>some ((ae.mk (ah.mk x0.b8.av l1) x0.types x0.aj x0.cb x0.before),0))) (some ((ae.mk (ah.mk [] []) [] [] [] []),2))
def uh(x0:ae):Option (ae×Int):=aG (nz x0) fun r=>br (bK r.2 0) (some ((ae.mk (ah.mk [] []) [] [] [] []),r.2)) (aG (o_ r.1) fun r1=>some (r1.1,r1.2))
def uY(l:List ab)(sum v:Int):Option ((Int×Int)⊕(Int)):=br (aS v (aB l)) (aG (a4 l v) fun x0=>some (.inl ((aT .i64 sum (dA .i64 (aT .i64 (dA .i64 x0.pick.aQ x0.pick.aH) x0.drop.aQ) x0.drop.aH)),(aT .i64 v 1)))) (some (.inr sum))
def v5(l:List ab):Option Int:=aG (aF (fun s=>uY l s.1 s.2) (0,0)) (fun Nh=>some Nh)
def As(x0:ae):Option (Int×Int×Int):=aG (uh x0) fun r=>br (bK r.2 0) (some (0,0,r.2)) (aG (v5 x0.aj) fun r1=>aG (v5 r.1.aj) fun r2=>some ((dA .i64 r1 r2),(dA .i64 (aB x0.b8.aI) (aB r.1.b8.aI)),0))
def uM(bN i:Int):Option Bool:=br ((bP i 0)&&(kP i 62)) (dr ((0:Int)≤i) (some (aW (NG .i64 (vb .i64 bN i) 1) 1))) (some false)
def u_(bN:Int)(l:List Int)(v:Int):Option ((List Int×Int)⊕(List Int)):=br (aS v 63) (aG (uM bN v) fun r=>br r (dr (d_ (l++[v]).length 8) (some (.inl ((l++[v]),(aT .i64 v 1))))) (some (.inl (l,(aT .i64 v 1))))) (some (.inr l))
def sY(bN:Int):Option (List Int):=aG (aF (fun s=>u_ bN s.1 s.2) ([],0)) (fun l1=>some l1)
def u5(before:List aA)(l l2:List Int)(LG:Bool)(v:Int):Option ((List Int×Bool×Int)⊕(List Int×Bool)):=br (aS v (aB before)) (aG (a4 before v) fun x0=>br ((((aS x0.x0 0)||(aS x0.x1 0))||(bP x0.x0 (aB l2)))||(bP x0.x1 (aB l2))) (some (.inl (l2,LG,(aT .i64 v 1)))) (aG (a4 l2 x0.x1) fun x1=>aG (a4 l2 x0.x0) fun x2=>dr ((0:Int)≤x0.x0) (br (bK (Pn .i64 (Pn .i64 x1 x2) (Kn .i64 1 x0.x0)) x1) (some (.inl ((fi l2 x0.x1 (Pn .i64 (Pn .i64 x1 x2) (Kn .i64 1 x0.x0))),true,(aT .i64 v 1)))) (some (.inl (l2,LG,(aT .i64 v 1))))))) (some (.inr (l2,LG)))
def u0(before:List aA)(l l1:List Int)(more:Bool):Option ((List Int×Bool)⊕(List Int)):=br more (aG (aF (fun s=>u5 before l s.1 s.2.1 s.2.2) (l1,false,0)) (fun e0=>(fun l3 Ro=>some (.inl (l3,Ro))) e0.1 e0.2)) (some (.inr l1))
def Av(aj:Int)(before:List aA):Option (List Int):=aG (K1 (Bv aj 0) (Bv aj 0) 8 0) fun l=>aG (aF (fun s=>u0 before l s.1 s.2) (l,true)) (fun l4=>some l4)
def tU(x0:ae)(bN:Int)(r:List Int)(v:Int):Option ((Int)⊕((Unit)⊕(Int))):=br (aS v (aB r)) (aG (a4 r v) fun x1=>br (bP x1 (aB x0.aj)) (some (.inr (.inr 2))) (some (.inl (aT .i64 v 1)))) (some (.inr (.inl ())))
def tV(x0:ae)(bN:Int)(r:List Int)(v1:Int):Option ((Int)⊕((Unit)⊕(Int))):=br (aS v1 (aB r)) (aG (a4 r v1) fun x2=>aG (a4 x0.aj x2) fun x3=>br x3.off (some (.inr (.inr 9))) (some (.inl (aT .i64 v1 1)))) (some (.inr (.inl ())))
def tW(x0:ae)(bN:Int)(r:List Int)(v2:Int):Option ((Int)⊕((Unit)⊕(Int))):=br (aS v2 (aB x0.cb)) (aG (a4 x0.cb v2) fun x4=>aG (uM bN x4.x0) fun r1=>br r1 (aG (uM bN x4.x1) fun r2=>br r2 (some (.inr (.inr 20))) (some (.inl (aT .i64 v2 1)))) (some (.inl (aT .i64 v2 1)))) (some (.inr (.inl ())))
def tX(x0:ae)(bN:Int)(r:List Int)(v3:Int):Option ((Int)⊕((Unit)⊕(Int))):=br (aS v3 (aB x0.before)) (aG (a4 x0.before v3) fun x5=>aG (uM bN x5.x1) fun r3=>br r3 (aG (uM bN x5.x0) fun r4=>br r4 (some (.inl (aT .i64 v3 1))) (some (.inr (.inr 21)))) (some (.inl (aT .i64 v3 1)))) (some (.inr (.inl ())))
def tY(r r5:List Int)(v4:Int):Option ((Int)⊕((Unit)⊕(Int))):=br (aS v4 (aB r)) (aG (a4 r v4) fun x6=>aG (a4 r5 x6) fun x7=>aG (uM x7 x6) fun r6=>br r6 (some (.inr (.inr 21))) (some (.inl (aT .i64 v4 1)))) (some (.inr (.inl ())))
def yI(x0:ae)(bN:Int):Option Int:=br (aS bN 0) (some 2) (aG (sY bN) fun r=>aG (aF (fun s=>tU x0 bN r s) 0) (fun e=>jB e (fun(_:Unit)=>aG (aF (fun s=>tV x0 bN r s) 0) (fun e=>jB e (fun(_:Unit)=>aG (aF (fun s=>tW x0 bN r s) 0) (fun e=>jB e (fun(_:Unit)=>aG (aF (fun s=>tX x0 bN r s) 0) (fun e=>jB e (fun(_:Unit)=>aG (Av (aB x0.aj) x0.before) fun r5=>aG (aF (fun s=>tY r r5 s) 0) (fun e=>jB e (fun(_:Unit)=>some 0) (fun r7=>some r7))) (fun r8=>some r8))) (fun r9=>some r9))) (fun M3=>some M3))) (fun zj=>some zj)))
def xY(l:List ab)(ct:Int):Option Bool:=some ((bP ct 0)&&(aS ct (aB l)))
def qp(l:List ab)(ct:Int)(l1:List af):Option (List af):=aG (a4 l ct) fun x1=>br (bP x1.drop.place 0) (dr (d_ (l1++[(af.mk ct true)]).length 16) (some (l1++[(af.mk ct true)]))) (some l1)
def ny(l:List ab)(ct:Int):Option (List af):=aG (xY l ct) fun r=>br r (aG (a4 l ct) fun x0=>br (bP x0.pick.place 0) (dr (d_ [(af.mk ct false)].length 16) (qp l ct [(af.mk ct false)])) (qp l ct [])) (some [])
def gg(s0:List af)(v:af)(v1:Int):Option ((Int)⊕((Unit)⊕(Int))):=br (aS v1 (aB s0)) (aG (a4 s0 v1) fun x0=>br (aW v.cR x0.cR&&(N1 v.drop x0.drop&&true)) (some (.inr (.inr v1))) (some (.inl (aT .i64 v1 1)))) (some (.inr (.inl ())))
def eT(s0:List af)(v:af):Option Int:=aG (aF (fun s=>gg s0 v s) 0) (fun e=>jB e (fun(_:Unit)=>some (-1)) (fun r=>some r))
def lD(l:List af)(v:af):Option Int:=aG (eT l v) fun r=>some r
def sW(l:List af)(v:Int):Option ((Int)⊕((Unit)⊕(Bool))):=br (aS v (aB l)) (aG (a4 l v) fun x0=>aG (wa l 0 v) fun l1=>aG (lD l1 x0) fun r=>br (bP r 0) (some (.inr (.inr true))) (some (.inl (aT .i64 v 1)))) (some (.inr (.inl ())))
def xb(l:List af):Option Bool:=aG (aF (fun s=>sW l s) 0) (fun e=>jB e (fun(_:Unit)=>some false) (fun r1=>some r1))
def f_(s0:List af)(v:af):Option Bool:=aG (eT s0 v) fun r=>some (bP r 0)
def qI(x0:ae)(l:List af)(v:Int)(r:List af)(a3 v1:Int):Option ((Int×Int)⊕((Unit)⊕(Bool))):=br (aS v1 (aB r)) (aG (a4 r v1) fun x2=>aG (lD l x2) fun r2=>br (kP r2 a3) (some (.inr (.inr false))) (some (.inl (r2,(aT .i64 v1 1))))) (some (.inr (.inl ())))
def qH(x0:ae)(l:List af)(v:Int):Option ((Int)⊕((Unit)⊕(Bool))):=br (aS v (aB l)) (aG (a4 l v) fun x1=>aG (ny x0.aj x1.cR) fun r=>aG (f_ r x1) fun r1=>br r1 (aG (aF (fun s=>qI x0 l v r s.1 s.2) ((-1),0)) (fun e=>jB e (fun(_:Unit)=>some (.inl (aT .i64 v 1))) (fun r3=>some (.inr (.inr r3))))) (some (.inr (.inr false)))) (some (.inr (.inl ())))
def u9(x0:ae)(l:List af):Option Bool:=aG (aF (fun s=>qH x0 l s) 0) (fun e=>jB e (fun(_:Unit)=>some true) (fun r4=>some r4))
def w9(v:af)(c:Int):Option Bool:=some (aW v.cR c)
def eo(s0:List af)(c v:Int):Option ((Int)⊕((Unit)⊕(Int))):=br (aS v (aB s0)) (aG (a4 s0 v) fun x0=>aG (w9 x0 c) fun r=>br r (some (.inr (.inr v))) (some (.inl (aT .i64 v 1)))) (some (.inr (.inl ())))
def eM(s0:List af)(c:Int):Option Int:=aG (aF (fun s=>eo s0 c s) 0) (fun e=>jB e (fun(_:Unit)=>some (-1)) (fun r1=>some r1))
def eh(s0:List af)(c:Int):Option Bool:=aG (eM s0 c) fun r=>some (bP r 0)
def py(l:List af)(o:Int):Option Bool:=aG (eh l o) fun r=>some r
def sS(v:af)(c:Int):Option Bool:=some (aW v.cR c)
def dQ(s0:List af)(c v:Int):Option ((Int)⊕((Unit)⊕(Int))):=br (aS v (aB s0)) (aG (a4 s0 v) fun x0=>aG (sS x0 c) fun r=>br r (some (.inr (.inr v))) (some (.inl (aT .i64 v 1)))) (some (.inr (.inl ())))
def en(s0:List af)(c:Int):Option Int:=aG (aF (fun s=>dQ s0 c s) 0) (fun e=>jB e (fun(_:Unit)=>some (-1)) (fun r1=>some r1))
def u7(l:List af)(a b:Int):Option Bool:=aG (en l b) fun r=>br (aS r 0) (some true) (aG (py l a) fun r1=>br r1 (aG (wa l r (aB l)) fun l1=>aG (py l1 a) fun r2=>some (!r2)) (some false))
def t_(v:af)(c:ae):Option Bool:=some ((aS v.cR 0)||(bP v.cR (aB c.aj)))
def dX(s0:List af)(c:ae)(v:Int):Option ((Int)⊕((Unit)⊕(Int))):=br (aS v (aB s0)) (aG (a4 s0 v) fun x0=>aG (t_ x0 c) fun r=>br r (some (.inr (.inr v))) (some (.inl (aT .i64 v 1)))) (some (.inr (.inl ())))
def eE(s0:List af)(c:ae):Option Int:=aG (aF (fun s=>dX s0 c s) 0) (fun e=>jB e (fun(_:Unit)=>some (-1)) (fun r1=>some r1))
def dV(s0:List af)(c:ae):Option Bool:=aG (eE s0 c) fun r=>some (bP r 0)
def ua(v:af)(c:ae):Option Bool:=aG (a4 c.aj v.cR) fun x0=>some x0.off
def dY(s0:List af)(c:ae)(v:Int):Option ((Int)⊕((Unit)⊕(Int))):=br (aS v (aB s0)) (aG (a4 s0 v) fun x0=>aG (ua x0 c) fun r=>br r (some (.inr (.inr v))) (some (.inl (aT .i64 v 1)))) (some (.inr (.inl ())))
def eF(s0:List af)(c:ae):Option Int:=aG (aF (fun s=>dY s0 c s) 0) (fun e=>jB e (fun(_:Unit)=>some (-1)) (fun r1=>some r1))
def dW(s0:List af)(c:ae):Option Bool:=aG (eF s0 c) fun r=>some (bP r 0)
def sQ(x0:ae)(r:aX)(v:Int):Option ((Int)⊕((Unit)⊕(Int))):=br (aS v (aB x0.cb)) (aG (a4 x0.cb v) fun x1=>aG (py r.a8 x1.x0) fun r5=>br r5 (aG (py r.a8 x1.x1) fun r6=>br r6 (some (.inr (.inr 20))) (some (.inl (aT .i64 v 1)))) (some (.inl (aT .i64 v 1)))) (some (.inr (.inl ())))
def sR(x0:ae)(r:aX)(v1:Int):Option ((Int)⊕((Unit)⊕(Int))):=br (aS v1 (aB x0.before)) (aG (a4 x0.before v1) fun x2=>aG (u7 r.a8 x2.x0 x2.x1) fun r7=>br r7 (some (.inl (aT .i64 v1 1))) (some (.inr (.inr 21)))) (some (.inr (.inl ())))
def sP(x0:ae)(r:aX):Option Int:=br (aW (aB r.a8) 0) (some 2) (aG (dV r.a8 x0) fun r1=>br r1 (some 2) (aG (dW r.a8 x0) fun r2=>br r2 (some 9) (aG (xb r.a8) fun r3=>br r3 (some 6) (aG (u9 x0 r.a8) fun r4=>br r4 (aG (aF (fun s=>sQ x0 r s) 0) (fun e=>jB e (fun(_:Unit)=>aG (aF (fun s=>sR x0 r s) 0) (fun e=>jB e (fun(_:Unit)=>some 0) (fun r8=>some r8))) (fun r9=>some r9))) (some 19)))))
def yH(x0:ae)(r:aX)(v:Int):Option ((Int)⊕((Unit)⊕(Int))):=br (aS v (aB r.a8)) (aG (a4 r.a8 v) fun x1=>aG (a4 x0.types r.bE) fun x2=>aG (a4 x0.aj x1.cR) fun x3=>aG (nq x2 x3.aL) fun r1=>br r1 (some (.inl (aT .i64 v 1))) (some (.inr (.inr 18)))) (some (.inr (.inl ())))
def Fg(x0:ae)(r:aX):Option Int:=aG (aF (fun s=>yH x0 r s) 0) (fun e=>jB e (fun(_:Unit)=>some 0) (fun r2=>some r2))
def qG(r:aX)(bN v:Int):Option ((Int×Int)⊕((Int)⊕(Int×Int))):=br (aS v (aB r.a8)) (aG (a4 r.a8 v) fun x0=>br ((aS x0.cR 0)||(bU x0.cR 62)) (some (.inr (.inr (0,2)))) (dr ((0:Int)≤x0.cR) (some (.inl ((Pn .i64 bN (Kn .i64 1 x0.cR)),(aT .i64 v 1)))))) (some (.inr (.inl bN)))
def u6(r:aX):Option (Int×Int):=aG (aF (fun s=>qG r s.1 s.2) (0,0)) (fun e=>jB e (fun GZ=>some (GZ,0)) (fun r1=>some r1))
def ES(a b:Int):Option Int:=some (aT .i64 a b)
def oe(a b l l1:List Int)(v:Int):Option ((List Int×Int)⊕(List Int)):=br (aS v (aB a)) (aG (a4 a v) fun x0=>aG (a4 b v) fun x1=>aG (ES x0 x1) fun r=>aG (a4 l1 v) fun x2=>some (.inl ((fi l1 v r),(aT .i64 v 1)))) (some (.inr l1))
def qy(a b:List Int):Option (List Int×Int):=br (bK (aB a) (aB b)) (some ([],2)) (aG (K1 (aB a) (aB a) 8 0) fun l=>aG (aF (fun s=>oe a b l s.1 s.2) (l,0)) (fun l2=>some (l2,0)))
def Dm(a b:List Int):Option (List Int×Int):=aG (qy a b) fun r=>some (r.1,r.2)
def wx(x0:ae)(l r sum:List Int)(v:Int):Option ((List Int×Int)⊕(List Int)):=br (aS v (aB r)) (aG (a4 r v) fun x1=>aG (a4 x0.aj x1) fun x2=>br (aS x2.pick.place 0) (aG (Dm sum x2.load) fun r1=>some (.inl (r1.1,(aT .i64 v 1)))) (some (.inl (sum,(aT .i64 v 1))))) (some (.inr sum))
def BU(x0:ae)(bN bt:Int):Option (List Int):=aG (K1 bt bt 8 0) fun l=>aG (sY bN) fun r=>aG (aF (fun s=>wx x0 l r s.1 s.2) (l,0)) (fun Nh=>some Nh)
def Cl(a b:Int):Option Int:=some (dA .i64 a b)
def nt(a b l l1:List Int)(v:Int):Option ((List Int×Int)⊕(List Int)):=br (aS v (aB a)) (aG (a4 a v) fun x0=>aG (a4 b v) fun x1=>aG (Cl x0 x1) fun r=>aG (a4 l1 v) fun x2=>some (.inl ((fi l1 v r),(aT .i64 v 1)))) (some (.inr l1))
def pP(a b:List Int):Option (List Int×Int):=br (bK (aB a) (aB b)) (some ([],2)) (aG (K1 (aB a) (aB a) 8 0) fun l=>aG (aF (fun s=>nt a b l s.1 s.2) (l,0)) (fun l2=>some (l2,0)))
def HD(a b:List Int):Option (List Int×Int):=aG (pP a b) fun r=>some (r.1,r.2)
def wu(x0:ae)(r:aX)(l:List (List Int))(now:List Int)(v:Int):Option ((List (List Int)×List Int×Int)⊕((List (List Int))⊕(List (List Int)×Int))):=br (aS v (aB r.a8)) (aG (a4 r.a8 v) fun x1=>br x1.drop (aG (a4 x0.aj x1.cR) fun x2=>aG (HD now x2.load) fun r5=>br (bK r5.2 0) (some (.inr (.inr ([],r5.2)))) (dr (d_ (l++[r5.1]).length 24) (some (.inl ((l++[r5.1]),r5.1,(aT .i64 v 1)))))) (aG (a4 x0.aj x1.cR) fun x3=>aG (Dm now x3.load) fun r6=>br (bK r6.2 0) (some (.inr (.inr ([],r6.2)))) (dr (d_ (l++[r6.1]).length 24) (some (.inl ((l++[r6.1]),r6.1,(aT .i64 v 1))))))) (some (.inr (.inl l)))
def BS(x0:ae)(r:aX):Option (List (List Int)×Int):=aG (sP x0 r) fun r1=>br (bK r1 0) (some ([],r1)) (aG (u6 r) fun r2=>br (bK r2.2 0) (some ([],r2.2)) (aG (wB x0.types) fun r3=>aG (BU x0 r2.1 r3) fun r4=>aG (aF (fun s=>wu x0 r s.1 s.2.1 s.2.2) ([r4],r4,0)) (fun e=>jB e (fun l1=>some (l1,0)) (fun r7=>some r7))))
def yp(a capacity:List Int)(v:Int):Option ((Int)⊕((Unit)⊕(Bool))):=br (aS v (aB a)) (aG (a4 a v) fun x0=>aG (a4 capacity v) fun x1=>br (bU x0 x1) (some (.inr (.inr false))) (some (.inl (aT .i64 v 1)))) (some (.inr (.inl ())))
def ER(a capacity:List Int):Option Bool:=br (bK (aB a) (aB capacity)) (some false) (aG (aF (fun s=>yp a capacity s) 0) (fun e=>jB e (fun(_:Unit)=>some true) (fun r=>some r)))
def zI(a:List Int)(c:ae)(c1:aX):Option Bool:=aG (a4 c.types c1.bE) fun x0=>aG (ER a x0.cap) fun r=>some (!r)
def fk(s0:List (List Int))(c:ae)(c1:aX)(v:Int):Option ((Int)⊕((Unit)⊕(Int))):=br (aS v (aB s0)) (aG (a4 s0 v) fun x0=>aG (zI x0 c c1) fun r=>br r (some (.inr (.inr v))) (some (.inl (aT .i64 v 1)))) (some (.inr (.inl ())))
def ga(s0:List (List Int))(c:ae)(c1:aX):Option Int:=aG (aF (fun s=>fk s0 c c1 s) 0) (fun e=>jB e (fun(_:Unit)=>some (-1)) (fun r1=>some r1))
def fj(s0:List (List Int))(c:ae)(c1:aX):Option Bool:=aG (ga s0 c c1) fun r=>some (bP r 0)
def EH(x0:ae)(r:aX):Option Int:=br ((aS r.bE 0)||(bP r.bE (aB x0.types))) (some 2) (aG (BS x0 r) fun r1=>br (bK r1.2 0) (some r1.2) (aG (fj r1.1 x0 r) fun r2=>br r2 (some 17) (some 0)))
def uf(x1:aK):Option (aK×Int):=br (aS x1.place 0) (some ((aK.mk 0 0 0 0),19)) (some (x1,0))
def Ap(l:List ab)(v:af):Option (aK×Int):=aG (xY l v.cR) fun r=>br r (aG (a4 l v.cR) fun x0=>br v.drop (uf x0.drop) (uf x0.pick)) (some ((aK.mk 0 0 0 0),2))
def yn(x0:ae)(r:aX)(x1:ag)(l:List aK)(v:Int):Option ((List aK×Int)⊕((List aK)⊕(a7×Bool))):=br (aS v (aB r.a8)) (aG (a4 r.a8 v) fun x2=>aG (Ap x0.aj x2) fun r1=>br ((bK r1.2 0)||(aS r1.1.place 0)) (some (.inr (.inr ((a7.mk (ae.mk (ah.mk [] []) [] [] [] []) (ag.mk ByteArray.empty 0 0 0 [] 0 0 0 0 0 0 0 0 0) (aX.mk 0 0 [] []) []),false)))) (dr (d_ (l++[r1.1]).length 32) (some (.inl ((l++[r1.1]),(aT .i64 v 1)))))) (some (.inr (.inl l)))
def EJ(x0:ae)(r:aX):Option (a7×Bool):=br (((((aS r.bE 0)||(bP r.bE (aB x0.types)))||(aS r.cS 0))||(bU r.cS 4096))||(bU (aB r.a8) 20)) (some ((a7.mk (ae.mk (ah.mk [] []) [] [] [] []) (ag.mk ByteArray.empty 0 0 0 [] 0 0 0 0 0 0 0 0 0) (aX.mk 0 0 [] []) []),false)) (aG (a4 x0.types r.bE) fun x1=>aG (aF (fun s=>yn x0 r x1 s.1 s.2) ([],0)) (fun e=>jB e (fun l1=>some ((a7.mk x0 x1 r l1),true)) (fun r2=>some r2)))
def pe(p:a7):Option aw:=some (aw.mk (Bv p.t.aH p.r.cS) 0 (bz.mk false 0 [] 0 0))
def we(s0:aK)(g9:Int):Option (Int×Int):=br (bU (Bv g9 s0.aH) s0.aQ) (some (0,14)) (some ((Bv g9 s0.aH),0))
def tG(p:a7)(a8:Int):Option Int:=br (aW a8 0) (some p.t.az) (aG (a4 p.zx (dA .i64 a8 1)) fun x0=>some x0.place)
def gz(s0:List a6):Option (List a6):=br (List.isEmpty s0) (YA (some []) (dr (d_ s0.length 32) (some s0))) (dr (d_ s0.length 32) (some s0))
def nn(p:a7)(l:aw)(bW lE:Int)(pW:Bool)(mA:Int)(r2:Int×Int×Int)(l2:List a6)(ready p5:Int):Option (aw×Int):=br (bU (dA .i64 (aT .i64 lE r2.1) bW) p.t.iU) (some ((aw.mk 0 0 (bz.mk false 0 [] 0 0)),16)) (some ((aw.mk ready (dA .i64 (aT .i64 lE r2.1) bW) (bz.mk pW mA l2 p5 (aT .i64 l.jQ.dc r2.2.1))),0))
def nm(p:a7)(l:aw)(done bW lE:Int)(l1:List a6)(pW:Bool)(mA cw:Int):Option (aw×Int):=aG (tG p done) fun r1=>aG (qD p.x.b8 p.t.ai r1 cw bW) fun r2=>br (bK r2.2.2 0) (some ((aw.mk 0 0 (bz.mk false 0 [] 0 0)),12)) (br (aW done (aB p.zx)) (br (bU r2.1 p.t.aQ) (some ((aw.mk 0 0 (bz.mk false 0 [] 0 0)),15)) (nn p l bW lE pW mA r2 l1 r2.1 r2.1)) (aG (a4 p.zx done) fun x2=>aG (we x2 r2.1) fun r3=>br (bK r3.2 0) (some ((aw.mk 0 0 (bz.mk false 0 [] 0 0)),14)) (dr (d_ (l1++[(a6.mk r2.1 r3.1 0 false)]).length 32) (nn p l bW lE pW mA r2 (l1++[(a6.mk r2.1 r3.1 0 false)]) (aT .i64 r3.1 x2.aR) l.jQ.p5))))
def nk(p:a7)(l:aw)(done bW lE:Int)(l1:List a6)(pW:Bool)(mA:Int):Option (aw×Int):=br (aW done (aB p.zx)) (nm p l done bW lE l1 pW mA p.t.cw) (aG (a4 p.zx done) fun x1=>nm p l done bW lE l1 pW mA x1.place)
def nj(p:a7)(l:aw)(done:Int)(cK:Bool)(bW lE:Int):Option (aw×Int):=aG (gz l.jQ.Dc) fun r=>br (aW done 0) (nk p l done bW lE r cK bW) (aG (a4 r (dA .i64 done 1)) fun x0=>nk p l done bW lE (fi (fi r (dA .i64 done 1) (a6.mk x0.g9 x0.qN x0.bW cK)) (dA .i64 done 1) (a6.mk x0.g9 x0.qN bW cK)) l.jQ.cK l.jQ.bW)
def qk(p:a7)(l:aw)(done:Int)(cK:Bool):Option (aw×Int):=br cK (nj p l done cK (aT .i64 l.ready p.t.cK) 0) (nj p l done cK l.ready l.lE)
def rB(l m:aw):Option Bool:=some ((aW l.ready m.ready)&&(kP l.lE m.lE))
def rC(m c:aw):Option Bool:=aG (rB m c) fun r=>some r
def dI(s0:List aw)(c:aw)(v:Int):Option ((Int)⊕((Unit)⊕(Int))):=br (aS v (aB s0)) (aG (a4 s0 v) fun x0=>aG (rC x0 c) fun r=>br r (some (.inr (.inr v))) (some (.inl (aT .i64 v 1)))) (some (.inr (.inl ())))
def dZ(s0:List aw)(c:aw):Option Int:=aG (aF (fun s=>dI s0 c s) 0) (fun e=>jB e (fun(_:Unit)=>some (-1)) (fun r1=>some r1))
def dG(s0:List aw)(c:aw):Option Bool:=aG (dZ s0 c) fun r=>some (bP r 0)
def qw(p:a7)(l:List aw)(done:Int)(gp:List Bool)(v:Int)(x0:aw)(l3:List aw)(v1:Int):Option ((List aw×Int)⊕(List aw)):=br (aS v1 (aB gp)) (aG (a4 gp v1) fun x1=>aG (qk p x0 done x1) fun r=>br (aW r.2 0) (aG (dG l3 r.1) fun r1=>br r1 (some (.inl (l3,(aT .i64 v1 1)))) (dr (d_ (l3++[r.1]).length 72) (some (.inl ((l3++[r.1]),(aT .i64 v1 1)))))) (some (.inl (l3,(aT .i64 v1 1))))) (some (.inr l3))
def qv(p:a7)(l:List aw)(done:Int)(gp:List Bool)(l2:List aw)(v:Int):Option ((List aw×Int)⊕(List aw)):=br (aS v (aB l)) (aG (a4 l v) fun x0=>aG (aF (fun s=>qw p l done gp v x0 s.1 s.2) (l2,0)) (fun l4=>some (.inl (l4,(aT .i64 v 1))))) (some (.inr l2))
def ni(p:a7)(l:List aw)(done:Int)(gp:List Bool):Option (List aw):=aG (aF (fun s=>qv p l done gp s.1 s.2) ([],0)) (fun l5=>some l5)
def uR(p:a7)(l:List aw)(done:Int):Option (List aw):=br (aS done (aB p.r.fh)) (aG (wa p.r.fh done (aT .i64 done 1)) fun l1=>ni p l done l1) (ni p l done [false,true])
def rD(p:a7)(fh:List Bool)(r:aw)(cK:Int)(x0:aw)(v:Int):Option ((Int×aw×Int)⊕((aw)⊕(bz×Int))):=br (aS v (aB fh)) (aG (a4 fh v) fun x1=>aG (qk (a7.mk p.x (ag.mk p.t.name p.t.dT p.t.az p.t.cw p.t.cap p.t.aL p.t.ai p.t.aH p.t.aQ p.t.iU cK p.t.jm p.t.eR p.t.fO) p.r p.zx) x0 v x1) fun r1=>br (bK r1.2 0) (some (.inr (.inr ((bz.mk false 0 [] 0 0),r1.2)))) (some (.inl (cK,r1.1,(aT .i64 v 1))))) (some (.inr (.inl x0)))
def wA(p:a7)(fh:List Bool):Option (bz×Int):=aG (pe p) fun r=>aG (aF (fun s=>rD p fh r s.1 s.2.1 s.2.2) (p.t.cK,r,0)) (fun e=>jB e (fun x2=>some (x2.jQ,0)) (fun r2=>some r2))
def yl(r:aX)(r1:a7×Bool)(l:List aw)(v:Int):Option ((List aw×Int)⊕(List aw)):=br (aS v (aT .i64 (aB r.a8) 1)) (aG (uR r1.1 l v) fun r3=>some (.inl (r3,(aT .i64 v 1)))) (some (.inr l))
def ym(l3:List aw)(x2:aw)(v1:Int):Option ((aw×Int)⊕(aw)):=br (aS v1 (aB l3)) (aG (a4 l3 v1) fun x3=>br (aS x3.jQ.p5 x2.jQ.p5) (some (.inl (x3,(aT .i64 v1 1)))) (some (.inl (x2,(aT .i64 v1 1))))) (some (.inr x2))
def EI(x0:ae)(r:aX):Option (bz×Int):=aG (EJ x0 r) fun r1=>br ((!r1.2)||(bU (aB r.fh) (aT .i64 (aB r.a8) 1))) (some ((bz.mk false 0 [] 0 0),2)) (aG (pe r1.1) fun r2=>aG (aF (fun s=>yl r r1 s.1 s.2) ([r2],0)) (fun l1=>br (aW (aB l1) 0) (aG (K1 (aT .i64 (aB r.a8) 1) (aT .i64 (aB r.a8) 1) 1 false) fun l2=>aG (wA r1.1 (Mo l2 r.fh)) fun r4=>some (r4.1,r4.2)) (aG (a4 l1 0) fun x1=>aG (wa l1 1 (aB l1)) fun l3=>aG (aF (fun s=>ym l3 s.1 s.2) (x1,0)) (fun x4=>some (x4.jQ,0)))))
def ug(kind own:Int):Option Bool:=some ((bK kind (-1))&&(bK kind own))
def sK(x0:ae)(r:aX)(s0:bz)(x1:ag)(l:List (Int×Int))(ng v:Int)(x2:af)(x3:ab)(J6:Int):Option ((List (Int×Int)×Int×Int×Int)⊕(Int×Int)):=aG (ug x3.a3 r.bE) fun r2=>br r2 (some (.inl ((sw aW l x2.cR (aT .i64 (oH aW l x2.cR 0) 1)),J6,(aT .i64 ng 1),(aT .i64 v 1)))) (some (.inl ((sw aW l x2.cR (aT .i64 (oH aW l x2.cR 0) 1)),J6,ng,(aT .i64 v 1))))
def wX(x0:ae)(r:aX)(s0:bz)(x1:ag)(l:List (Int×Int))(oE ng v:Int):Option ((List (Int×Int)×Int×Int×Int)⊕(Int×Int)):=br (aS v (aB r.a8)) (aG (a4 r.a8 v) fun x2=>br ((aS x2.cR 0)||(bP x2.cR (aB x0.aj))) (some (.inl ((sw aW l x2.cR (aT .i64 (oH aW l x2.cR 0) 1)),oE,ng,(aT .i64 v 1)))) (br (bU (oH aW (sw aW l x2.cR (aT .i64 (oH aW l x2.cR 0) 1)) x2.cR 0) 1) (some (.inl ((sw aW l x2.cR (aT .i64 (oH aW l x2.cR 0) 1)),oE,ng,(aT .i64 v 1)))) (aG (a4 x0.aj x2.cR) fun x3=>aG (ug x3.now r.bE) fun r1=>br r1 (sK x0 r s0 x1 l ng v x2 x3 (aT .i64 oE 1)) (sK x0 r s0 x1 l ng v x2 x3 oE)))) (some (.inr (oE,ng)))
def CB(x0:ae)(r:aX)(s0:bz):Option dC:=br ((aS r.bE 0)||(bP r.bE (aB x0.types))) (some (dC.mk 0 0 0 0)) (aG (a4 x0.types r.bE) fun x1=>aG (aF (fun s=>wX x0 r s0 x1 s.1 s.2.1 s.2.2.1 s.2.2.2) ([],0,0,0)) (fun e0=>(fun MN MW=>some (dC.mk (aT .i64 (aT .i64 x1.jm (sx .i64 x1.eR s0.dc)) (sx .i64 x1.fO (dA .i64 s0.p5 x1.aH))) MN MW (sx .i64 (vX .i64 (dA .i64 s0.p5 x1.aH) 64) (vX .i64 (dA .i64 s0.p5 x1.aH) 64)))) e0.1 e0.2))
def w4(x0:ae)(r:aX):Option (bz×dC×Int):=br ((aS r.bE 0)||(bP r.bE (aB x0.types))) (some ((bz.mk false 0 [] 0 0),(dC.mk 0 0 0 0),2)) (aG (sP x0 r) fun r1=>br (bK r1 0) (some ((bz.mk false 0 [] 0 0),(dC.mk 0 0 0 0),r1)) (aG (Fg x0 r) fun r2=>br (bK r2 0) (some ((bz.mk false 0 [] 0 0),(dC.mk 0 0 0 0),r2)) (aG (EH x0 r) fun r3=>br (bK r3 0) (some ((bz.mk false 0 [] 0 0),(dC.mk 0 0 0 0),r3)) (aG (EI x0 r) fun r4=>br (bK r4.2 0) (some ((bz.mk false 0 [] 0 0),(dC.mk 0 0 0 0),r4.2)) (aG (CB x0 r r4.1) fun r5=>some (r4.1,r5,0))))))
def CC(s0:dC):Option Pp:=some (Pp.mk s0.zJ s0.oE s0.ng s0.QE)
def Ar(s0:dC):Option (Int×Int):=aG (CC s0) fun r=>br (aS r.x0 0) (some (0,2)) (br (aS r.x1 0) (some (0,2)) (br (aS r.x2 0) (some (0,2)) (br (aS r.x3 0) (some (0,2)) (br ((((bU s0.zJ 1073741824)||(bP s0.oE 16))||(bP s0.ng 16))||(bP s0.QE 65536)) (some (0,4)) (some ((aT .i64 (sx .i64 (aT .i64 (sx .i64 (aT .i64 (sx .i64 s0.zJ 16) s0.oE) 16) s0.ng) 65536) s0.QE),0))))))
def CK(x0:ae)(r:aX):Option (Int×Int):=aG (w4 x0 r) fun r1=>br (bK r1.2.2 0) (some (0,r1.2.2)) (aG (Ar r1.2.1) fun r2=>some (r2.1,r2.2))
def nB(v:af):Option Int:=br v.drop (some 1) (some 0)
def wy(oq:List Int)(v:Int):Option ((Int)⊕((Unit)⊕(Int))):=br (aS v (aB oq)) (aG (a4 oq v) fun x0=>br (bK x0 0) (some (.inr (.inr x0))) (some (.inl (aT .i64 v 1)))) (some (.inr (.inl ())))
def BV(oq:List Int):Option Int:=aG (aF (fun s=>wy oq s) 0) (fun e=>jB e (fun(_:Unit)=>some 0) (fun r=>some r))
def rz(x0:Int):Option Bool:=some (bK x0 x0)
def pc(x0 y:Int):Option Int:=aG (rz x0) fun r=>aG (rz y) fun r1=>br r (br r1 (some 0) (some (-1))) (br r1 (some 1) (br (aS x0 y) (some (-1)) (br (bU x0 y) (some 1) (some 0))))
def ud(a b:af):Option Int:=aG (pc a.cR b.cR) fun r=>aG (nB a) fun r1=>aG (nB b) fun r2=>aG (pc r1 r2) fun r3=>aG (BV [r,r3]) fun r4=>some r4
def b9(s1 s2:List af)(v:Int):Option ((Int)⊕((Unit)⊕(Int))):=br (aS v (aB s1)) (aG (a4 s1 v) fun x0=>br (bP v (aB s2)) (some (.inr (.inr 1))) (aG (a4 s2 v) fun x1=>aG (ud x0 x1) fun r=>br (bK r 0) (some (.inr (.inr r))) (some (.inl (aT .i64 v 1))))) (some (.inr (.inl ())))
def cq(s1 s2:List af):Option Int:=aG (aF (fun s=>b9 s1 s2 s) 0) (fun e=>jB e (fun(_:Unit)=>br (aS (aB s1) (aB s2)) (some (-1)) (some 0)) (fun r1=>some r1))
def yL(a b:List af):Option Bool:=aG (cq a b) fun r=>some (aS r 0)
def BN(a b:aU):Option Bool:=br (bK a.sJ b.sJ) (some (aS a.sJ b.sJ)) (aG (yL a.ec.a8 b.ec.a8) fun r=>some r)
def sT(x0:ae)(l:List af)(v:af)(r1:List af)(v1:Int):Option ((Int)⊕((Unit)⊕(Bool))):=br (aS v1 (aB r1)) (aG (a4 r1 v1) fun x1=>br (aW x1.cR v.cR&&(N1 x1.drop v.drop&&true)) (some (.inr (.inl ()))) (aG (lD l x1) fun r2=>br (aS r2 0) (some (.inr (.inr false))) (some (.inl (aT .i64 v1 1))))) (some (.inr (.inl ())))
def sV(x0:ae)(l:List af)(v:af)(v2:Int)(r3:List af)(v3:Int):Option ((Int)⊕((Unit)⊕(Bool))):=br (aS v3 (aB r3)) (aG (a4 r3 v3) fun x3=>aG (lD l x3) fun r4=>br (aS r4 0) (some (.inr (.inr false))) (some (.inl (aT .i64 v3 1)))) (some (.inr (.inl ())))
def sU(x0:ae)(l:List af)(v:af)(v2:Int):Option ((Int)⊕((Unit)⊕(Bool))):=br (aS v2 (aB x0.before)) (aG (a4 x0.before v2) fun x2=>br (bK x2.x1 v.cR) (some (.inl (aT .i64 v2 1))) (aG (ny x0.aj x2.x0) fun r3=>aG (aF (fun s=>sV x0 l v v2 r3 s) 0) (fun e=>jB e (fun(_:Unit)=>some (.inl (aT .i64 v2 1))) (fun r5=>some (.inr (.inr r5)))))) (some (.inr (.inl ())))
def xa(x0:ae)(l:List af)(v:af):Option Bool:=aG (lD l v) fun r=>br (bP r 0) (some false) (aG (ny x0.aj v.cR) fun r1=>aG (aF (fun s=>sT x0 l v r1 s) 0) (fun e=>jB e (fun(_:Unit)=>aG (aF (fun s=>sU x0 l v s) 0) (fun e=>jB e (fun(_:Unit)=>some true) (fun r6=>some r6))) (fun r7=>some r7)))
def uc(x0:ae)(bN:Int)(l:List af)(v:Int)(r l2:List af)(v1:Int):Option ((List af×Int)⊕(List af)):=br (aS v1 (aB r)) (aG (a4 r v1) fun x2=>aG (xa x0 l x2) fun r1=>br r1 (dr (d_ (l2++[x2]).length 16) (some (.inl ((l2++[x2]),(aT .i64 v1 1))))) (some (.inl (l2,(aT .i64 v1 1))))) (some (.inr l2))
def ub(x0:ae)(bN:Int)(l l1:List af)(v:Int):Option ((List af×Int)⊕(List af)):=br (aS v (aB x0.aj)) (aG (a4 x0.aj v) fun x1=>br (bU v 62) (some (.inl (l1,(aT .i64 v 1)))) (dr ((0:Int)≤v) (br ((aW (NG .i64 (vb .i64 bN v) 1) 0)||x1.off) (some (.inl (l1,(aT .i64 v 1)))) (aG (ny x0.aj v) fun r=>aG (aF (fun s=>uc x0 bN l v r s.1 s.2) (l1,0)) (fun l3=>some (.inl (l3,(aT .i64 v 1)))))))) (some (.inr l1))
def yM(x0:ae)(bN:Int)(l:List af):Option (List af):=aG (aF (fun s=>ub x0 bN l s.1 s.2) ([],0)) (fun l4=>some l4)
def fE(s0:List aD)(v:aD)(v1:Int):Option ((Int)⊕((Unit)⊕(Int))):=br (aS v1 (aB s0)) (aG (a4 s0 v1) fun x0=>br (aW v.ready x0.ready&&(aW v.qx x0.qx&&true)) (some (.inr (.inr v1))) (some (.inl (aT .i64 v1 1)))) (some (.inr (.inl ())))
def gA(s0:List aD)(v:aD):Option Int:=aG (aF (fun s=>fE s0 v s) 0) (fun e=>jB e (fun(_:Unit)=>some (-1)) (fun r=>some r))
def fD(s0:List aD)(v:aD):Option Bool:=aG (gA s0 v) fun r=>some (bP r 0)
def n9(l:List aD)(s0:aD):Option (List aD):=aG (fD l s0) fun r=>br r (some l) (dr (d_ (l++[s0]).length 16) (some (l++[s0])))
def yQ(s0:aK)(g9:Int):Option (Int×Int):=aG (we s0 g9) fun r=>br (bK r.2 0) (some (0,r.2)) (some ((aT .i64 r.1 s0.aR),0))
def hU(s0:List af):Option (List af):=aG (wa s0 0 (aB s0)) fun l=>some l
def jC(eK:aU)(some_:Bool)(LK:aU):Option aU:=br some_ (aG (BN LK eK) fun r=>br r (some LK) (some eK)) (some LK)
def od(s0:aM)(l:List aD)(bW qx:Int):Option (List aD×aM):=aG (n9 l (aD.mk bW qx)) fun r=>aG (a4 s0.x.types s0.kind) fun x0=>aG (n9 r (aD.mk (aT .i64 bW x0.cK) 0)) fun r1=>some (r1,s0)
def oQ(az:Int)(l:List aD)(stop:aK)(x0:ag)(l1:List aD)(x1:aM)(v:Int):Option ((List aD×aM×Int)⊕(List aD×aM)):=br (aS v (aB l)) (aG (a4 l v) fun x2=>aG (qD x1.x.b8 x0.ai az stop.place x2.ready) fun r=>br ((bK r.2.2 0)||(bU (dA .i64 (aT .i64 x2.qx r.1) x2.ready) x0.iU)) (some (.inl (l1,x1,(aT .i64 v 1)))) (aG (yQ stop r.1) fun r1=>br (bK r1.2 0) (some (.inl (l1,x1,(aT .i64 v 1)))) (aG (od x1 l1 r1.1 (dA .i64 (aT .i64 x2.qx r.1) x2.ready)) fun r2=>some (.inl (r2.1,r2.2,(aT .i64 v 1)))))) (some (.inr (l1,x1)))
def ry(s0:aM)(az:Int)(l:List aD)(stop:aK):Option (List aD×aM):=aG (a4 s0.x.types s0.kind) fun x0=>aG (aF (fun s=>oQ az l stop x0 s.1 s.2.1 s.2.2) ([],s0,0)) (fun e0=>(fun l2 x3=>some (l2,x3)) e0.1 e0.2)
def pL(self:aM→(List af)→Int→(List aD)→Option aM)(a8:List af)(az:Int)(l:List aD)(r2:List af)(x0:aM)(v:Int):Option ((aM×Int)⊕(aM)):=br (aS v (aB r2)) (aG (a4 r2 v) fun x1=>aG (Ap x0.x.aj x1) fun r3=>br (bK r3.2 0) (some (.inl (x0,(aT .i64 v 1)))) (aG (ry x0 az l r3.1) fun r4=>br (bU (aB r4.1) 0) (aG (hU a8) fun r5=>dr (d_ (r5++[x1]).length 16) (aG (self r4.2 (r5++[x1]) r3.1.place r4.1) fun r6=>some (.inl (r6,(aT .i64 v 1))))) (some (.inl (r4.2,(aT .i64 v 1)))))) (some (.inr x0))
def qt(self:aM→(List af)→Int→(List aD)→Option aM)(s0:aM)(a8:List af)(az:Int)(l:List aD):Option aM:=br (aW (aB a8) s0.s6) (aG (CK s0.x (aX.mk s0.kind 0 [] a8)) fun r=>br (aW r.2 0) (aG (jC s0.eK s0.y0 (aU.mk s0.kind s0.bN r.1 (aX.mk s0.kind 0 [] a8))) fun r1=>some (aM.mk s0.x s0.kind s0.bN s0.s6 r1 true)) (some s0)) (aG (yM s0.x s0.bN a8) fun r2=>aG (aF (fun s=>pL self a8 az l r2 s.1 s.2) (s0,0)) (fun x2=>some x2))
def qu:Nat→aM→(List af)→Int→(List aD)→Option aM|0=>fun _ _ _ _=>none|B6+1=>fun s0 a8 az l=>qt (qu B6) s0 a8 az l
def yW(s0:aM)(a8:List af)(az:Int)(l:List aD):Option aM:=qu xM s0 a8 az l
def nh(s0:aM)(bW qx:Int):Option (List aD×aM):=aG (n9 [] (aD.mk bW qx)) fun r=>aG (a4 s0.x.types s0.kind) fun x0=>aG (n9 r (aD.mk (aT .i64 bW x0.cK) 0)) fun r1=>some (r1,s0)
def zD(x0:ae)(kind bN:Int)(r1:List Int)(s6 v:Int):Option ((Int×Int)⊕(Int)):=br (aS v (aB r1)) (aG (a4 r1 v) fun x1=>aG (ny x0.aj x1) fun r2=>some (.inl ((aT .i64 s6 (aB r2)),(aT .i64 v 1)))) (some (.inr s6))
def Hf(x0:ae)(kind bN:Int):Option (aU×Int):=br (((aS kind 0)||(bP kind (aB x0.types)))||(kP bN 0)) (some ((aU.mk 0 0 0 (aX.mk 0 0 [] [])),2)) (dr ((0:Int)≤(aB x0.aj)) (br (bK (vb .i64 bN (aB x0.aj)) 0) (some ((aU.mk 0 0 0 (aX.mk 0 0 [] [])),2)) (aG (yI x0 bN) fun r=>br (bK r 0) (some ((aU.mk 0 0 0 (aX.mk 0 0 [] [])),24)) (aG (sY bN) fun r1=>aG (aF (fun s=>zD x0 kind bN r1 s.1 s.2) (0,0)) (fun Nk=>aG (a4 x0.types kind) fun x2=>aG (nh (aM.mk x0 kind bN Nk (aU.mk 0 0 0 (aX.mk 0 0 [] [])) false) x2.aH 0) fun r3=>aG (yW r3.2 [] x2.az r3.1) fun r4=>br r4.y0 (some (r4.eK,0)) (some ((aU.mk 0 0 0 (aX.mk 0 0 [] [])),24)))))))
def BM(x0:ae)(l:List aU)(v:Int)(l1:List aU)(bN:Int):Option ((List aU×Int)⊕(List aU)):=dr ((0:Int)≤(aB x0.aj)) (br (aW (vb .i64 bN (aB x0.aj)) 0) (aG (Hf x0 v bN) fun r=>br (aW r.2 0) (dr (d_ (l1++[r.1]).length 88) (some (.inl ((l1++[r.1]),(aT .i64 bN 1))))) (some (.inl (l1,(aT .i64 bN 1))))) (some (.inr l1)))
def BL(x0:ae)(l:List aU)(v:Int):Option ((List aU×Int)⊕(List aU)):=br (aS v (aB x0.types)) (aG (aF (fun s=>BM x0 l v s.1 s.2) (l,1)) (fun l2=>some (.inl (l2,(aT .i64 v 1))))) (some (.inr l))
def Jo(x0:ae):Option (List aU×Int):=aG (aF (fun s=>BL x0 s.1 s.2) ([],0)) (fun l3=>some (l3,0))
def wE(a:ab):Option Bool:=some true
def nr(x0:ae)(bN v:Int):Option ((Int×Int)⊕(Int)):=br (aS v (aB x0.aj)) (aG (a4 x0.aj v) fun x1=>br x1.off (some (.inl (bN,(aT .i64 v 1)))) (aG (wE x1) fun r=>br r (dr ((0:Int)≤v) (some (.inl ((Pn .i64 bN (Kn .i64 1 v)),(aT .i64 v 1))))) (some (.inl (bN,(aT .i64 v 1)))))) (some (.inr bN))
def pO(x0:ae):Option Int:=aG (aF (fun s=>nr x0 s.1 s.2) (0,0)) (fun GZ=>some GZ)
def zO(x0:ae):Option Int:=aG (pO x0) fun r=>some r
def qF(r:List aU×Int)(left v:Int):Option ((Int×Int)⊕(Int)):=br (aS v (aB r.1)) (aG (a4 r.1 v) fun x1=>some (.inl ((vJ .i64 left x1.bN),(aT .i64 v 1)))) (some (.inr left))
def uV(x0:ae):Option Int:=aG (Jo x0) fun r=>aG (zO x0) fun r1=>aG (aF (fun s=>qF r s.1 s.2) (r1,0)) (fun Ri=>some Ri)
def oz:Option ae:=some (ae.mk (ah.mk [AB,Az,AA] [(al.mk 0 1 0 0 [(au.mk 0 20)] []),(al.mk 1 0 0 0 [(au.mk 0 20)] []),(al.mk 0 2 0 0 [(au.mk 0 150)] [])]) [(ag.mk AD 1 0 0 [5] 0 0 0 100 1000 0 0 0 0)] [(ab.mk HY [1] (aK.mk (-1) 0 0 0) (aK.mk 1 0 200 5) 0 0 1 (-1) (-1) false)] [] [])
def mN:Option ae:=some (ae.mk (ah.mk [AB,Az,AA] [(al.mk 0 1 0 0 [(au.mk 0 20)] []),(al.mk 1 0 0 0 [(au.mk 0 20)] []),(al.mk 0 2 0 0 [(au.mk 0 150)] [])]) [(ag.mk AD 1 0 0 [5] 0 0 0 100 1000 0 0 0 0)] [(ab.mk HY [1] (aK.mk (-1) 0 0 0) (aK.mk 1 0 200 5) 0 0 1 (-1) (-1) false)] [] [])
def kU:Option Bool:=aG (oz) fun r=>aG (uh r) fun r1=>aG (oz) fun r2=>aG (As r2) fun r3=>aG (mN) fun r4=>aG (a4 r4.aj 0) fun x0=>br ((aW r1.2 0)&&(aW (aB r1.1.aj) 1)) (aG (a4 r1.1.aj 0) fun x1=>br (((((aW x1.drop.place 1&&(aW x1.drop.aH 20&&(aW x1.drop.aQ 75&&(aW x1.drop.aR 5&&true))))&&(aW (aB r1.1.b8.aI) 2))&&(aW r3.1 145))&&(aW r3.2.1 1))&&(aW r3.2.2 0)) (aG (uV (ae.mk r4.b8 r4.types (fi r4.aj 0 (ab.mk x0.name x0.load x0.pick x0.drop 1 x0.bg x0.split x0.a3 x0.now x0.off)) r4.cb r4.before)) fun r5=>some (aW r5 1)) (some false)) (some false)
def ke(word:ByteArray)(l l1:List aa)(i:Int)(ct:ByteArray):Option ((List aa×Int)⊕(List aa)):=aG (a4 l i) fun x1=>dr (d_ (l1++[(aa.mk x1.EL ct)]).length 24) (some (.inl ((l1++[(aa.mk x1.EL ct)]),(aT .i64 i 1))))
def kf(word:ByteArray)(l l1:List aa)(i:Int):Option ((List aa×Int)⊕(List aa)):=br (aS i (aB l)) (aG (a4 l i) fun x0=>br (qn x0.ct ByteArray.empty) (ke word l l1 i word) (dr (word.size+bn.size≤9223372036854775807) (dr ((bH word bn).size+x0.ct.size≤9223372036854775807) (ke word l l1 i (bH (bH word bn) x0.ct))))) (some (.inr l1))
def gv(word:ByteArray)(l:List aa):Option (List aa):=aG (aF (fun s=>kf word l s.1 s.2) ([],0)) (fun l2=>some l2)
def gS(n:Int)(s0:ByteArray)(left d:Int):Option ((ByteArray×Int×Bool)⊕(ByteArray)):=dr ((tF [(wz .u8 (aT .i64 48 d))]).size+s0.size≤9223372036854775807) (some (.inl ((bH (tF [(wz .u8 (aT .i64 48 d))]) s0),(vX .i64 left 10),(bK (vX .i64 left 10) 0))))
def og(n:Int)(s0:ByteArray)(left:Int)(again:Bool):Option ((ByteArray×Int×Bool)⊕(ByteArray)):=br again (br (aS (yG left 10) 0) (gS n s0 left (dA .i64 0 (yG left 10))) (gS n s0 left (yG left 10))) (some (.inr s0))
def bV(n:Int):Option ByteArray:=aG (aF (fun s=>og n s.1 s.2.1 s.2.2) (ByteArray.empty,n,true)) (fun s1=>br (aS n 0) (dr (OX.size+s1.size≤9223372036854775807) (some (bH OX s1))) (some s1))
def pn(c:Int):Option Bool:=some ((bP c 48)&&(kP c 57))
def rL(c:Int):Option Bool:=some ((((bP c 97)&&(kP c 122))||((bP c 65)&&(kP c 90)))||(aW c 95))
def lu(s0:ByteArray)(b:UInt8)(i:Int):Option ((Int)⊕((Unit)⊕(Bool))):=br (aS i (rh s0)) (aG (II s0 i) fun b1=>aG (rL (BQ b1)) fun r1=>br r1 (some (.inl (aT .i64 i 1))) (aG (pn (BQ b1)) fun r2=>br r2 (some (.inl (aT .i64 i 1))) (some (.inr (.inr false))))) (some (.inr (.inl ())))
def fe(s0:ByteArray):Option Bool:=br ((aS (rh s0) 1)||(bU (rh s0) 16)) (some false) (aG (II s0 0) fun b=>aG (pn (BQ b)) fun r=>br r (some false) (aG (aF (fun s=>lu s0 b s) 0) (fun e=>jB e (fun(_:Unit)=>some true) (fun r3=>some r3))))
def fq(l:List au)(i:Int)(x0:au)(l3:List aa):Option ((List aa×Int)⊕(List aa)):=br (bU i 0) (aG (a4 l (dA .i64 i 1)) fun x1=>br (kP x0.t x1.t) (aG (bV i) fun r1=>dr (d_ (l3++[(aa.mk 13 r1)]).length 24) (some (.inl ((l3++[(aa.mk 13 r1)]),(aT .i64 i 1))))) (br (aS x0.a x1.a) (aG (bV i) fun r2=>dr (d_ (l3++[(aa.mk 13 r2)]).length 24) (some (.inl ((l3++[(aa.mk 13 r2)]),(aT .i64 i 1))))) (some (.inl (l3,(aT .i64 i 1)))))) (some (.inl (l3,(aT .i64 i 1))))
def eN(l:List au)(l2:List aa)(i:Int):Option ((List aa×Int)⊕(List aa)):=br (aS i (aB l)) (aG (a4 l i) fun x0=>br ((((aS x0.t 0)||(bU x0.t 4096))||(aS x0.a x0.t))||(bU x0.a (aT .i64 x0.t 4096))) (aG (bV i) fun r=>dr (d_ (l2++[(aa.mk 2 r)]).length 24) (fq l i x0 (l2++[(aa.mk 2 r)]))) (fq l i x0 l2)) (some (.inr l2))
def gF(l:List au)(l1:List aa):Option (List aa):=aG (aF (fun s=>eN l s.1 s.2) (l1,0)) (fun l4=>some l4)
def dO(l:List au):Option (List aa):=br ((aS (aB l) 1)||(bU (aB l) 16)) (dr (d_ [(aa.mk 4 ByteArray.empty)].length 24) (gF l [(aa.mk 4 ByteArray.empty)])) (gF l [])
def jU(t:Int):Option Bool:=some ((bP t 0)&&(kP t 4096))
def ch(n:ah)(i:Int)(r:ByteArray)(x0:al)(l l1:List aa)(kE:Bool)(k:Int):Option ((Bool×Int)⊕(Bool)):=br (aS k i) (aG (a4 n.aI k) fun x1=>some (.inl ((kE||(((aW x0.az x1.az)&&(aW x0.cw x1.cw))&&(aW x0.ai x1.ai))),(aT .i64 k 1)))) (some (.inr kE))
def cj(r:ByteArray)(x0:al)(l r1 l3:List aa)(k1:Int):Option ((List aa×Int)⊕(List aa)):=br (aS k1 (aB r1)) (aG (a4 r1 k1) fun x2=>dr (d_ (l3++[(aa.mk x2.EL (bH bq r))]).length 24) (some (.inl ((l3++[(aa.mk x2.EL (bH bq r))]),(aT .i64 k1 1))))) (some (.inr l3))
def ck(r:ByteArray)(x0:al)(l l6:List aa)(k2:Int):Option ((List aa×Int)⊕(List aa)):=br (aS k2 (aB x0.dp)) (aG (a4 x0.dp k2) fun x3=>aG (jU x3.t) fun r2=>br r2 (aG (jU x3.a) fun r3=>br r3 (br (bU k2 0) (aG (a4 x0.dp (dA .i64 k2 1)) fun x4=>br (kP x3.t x4.t) (dr (d_ (l6++[(aa.mk 2 (bH bq r))]).length 24) (some (.inl ((l6++[(aa.mk 2 (bH bq r))]),(aT .i64 k2 1))))) (some (.inl (l6,(aT .i64 k2 1))))) (some (.inl (l6,(aT .i64 k2 1))))) (dr (d_ (l6++[(aa.mk 2 (bH bq r))]).length 24) (some (.inl ((l6++[(aa.mk 2 (bH bq r))]),(aT .i64 k2 1)))))) (dr (d_ (l6++[(aa.mk 2 (bH bq r))]).length 24) (some (.inl ((l6++[(aa.mk 2 (bH bq r))]),(aT .i64 k2 1)))))) (some (.inr l6))
def dK(r:ByteArray)(x0:al)(l l5:List aa):Option (List aa):=aG (aF (fun s=>ck r x0 l s.1 s.2) (l5,0)) (fun l7=>some l7)
def eA(r:ByteArray)(x0:al)(l l2:List aa):Option (List aa):=aG (dO x0.cz) fun r1=>aG (aF (fun s=>cj r x0 l r1 s.1 s.2) (l2,0)) (fun l4=>br (bU (aB x0.dp) 16) (dr (d_ (l4++[(aa.mk 4 (bH bq r))]).length 24) (dK r x0 l (l4++[(aa.mk 4 (bH bq r))]))) (dK r x0 l l4))
def ez(n:ah)(i:Int)(r:ByteArray)(x0:al)(l l1:List aa):Option (List aa):=aG (aF (fun s=>ch n i r x0 l l1 s.1 s.2) (false,0)) (fun nJ=>br nJ (dr (d_ (l1++[(aa.mk 6 (bH bq r))]).length 24) (eA r x0 l (l1++[(aa.mk 6 (bH bq r))]))) (eA r x0 l l1))
def ew(n:ah)(i:Int)(r:ByteArray)(x0:al)(l:List aa):Option (List aa):=br (((((aS x0.ai 0)||(bU x0.ai 7))||(aS x0.dc 0))||(bU x0.dc 10000))||(aW x0.az x0.cw)) (dr (d_ (l++[(aa.mk 2 (bH bq r))]).length 24) (ez n i r x0 l (l++[(aa.mk 2 (bH bq r))]))) (ez n i r x0 l l)
def gI(n:ah)(i:Int):Option (List aa):=aG (bV i) fun r=>dr (bq.size+r.size≤9223372036854775807) (aG (a4 n.aI i) fun x0=>br ((((aS x0.az 0)||(bP x0.az (aB n.av)))||(aS x0.cw 0))||(bP x0.cw (aB n.av))) (dr (d_ [(aa.mk 11 (bH bq r))].length 24) (ew n i r x0 [(aa.mk 11 (bH bq r))])) (ew n i r x0 []))
def bB(n:ah)(l l1:List aa)(i:Int)(r:ByteArray)(kE:Bool)(k:Int):Option ((Bool×Int)⊕(Bool)):=br (aS k i) (br kE (some (.inl (true,(aT .i64 k 1)))) (aG (a4 n.av k) fun x1=>aG (a4 n.av i) fun x2=>some (.inl ((qn x1 x2),(aT .i64 k 1))))) (some (.inr kE))
def bA(n:ah)(l l1:List aa)(i:Int):Option ((List aa×Int)⊕(List aa)):=br (aS i (aB n.av)) (aG (bV i) fun r=>dr (dm.size+r.size≤9223372036854775807) (aG (a4 n.av i) fun x0=>aG (fe x0) fun r1=>br r1 (aG (aF (fun s=>bB n l l1 i r s.1 s.2) (false,0)) (fun nJ=>br nJ (dr (d_ (l1++[(aa.mk 6 (bH dm r))]).length 24) (some (.inl ((l1++[(aa.mk 6 (bH dm r))]),(aT .i64 i 1))))) (some (.inl (l1,(aT .i64 i 1)))))) (dr (d_ (l1++[(aa.mk 5 (bH dm r))]).length 24) (some (.inl ((l1++[(aa.mk 5 (bH dm r))]),(aT .i64 i 1))))))) (some (.inr l1))
def dt(n:ah)(l:List aa):Option (List aa):=aG (aF (fun s=>bA n l s.1 s.2) (l,0)) (fun l2=>some l2)
def dU(n:ah):Option (List aa):=br (bU (aB n.av) 24) (dr (d_ [(aa.mk 4 fp)].length 24) (dt n [(aa.mk 4 fp)])) (dt n [])
def cW(n:ah)(l l1:List aa)(i:Int):Option ((List aa×Int)⊕(List aa)):=br (aS i (aB n.aI)) (aG (gI n i) fun r1=>dr (d_ (l1++r1).length 24) (some (.inl ((l1++r1),(aT .i64 i 1))))) (some (.inr l1))
def gH(n:ah)(l:List aa):Option (List aa):=aG (aF (fun s=>cW n l s.1 s.2) (l,0)) (fun l2=>some l2)
def gq(n:ah):Option (List aa):=aG (dU n) fun r=>br (bU (aB n.aI) 1024) (dr (d_ (r++[(aa.mk 4 ml)]).length 24) (gH n (r++[(aa.mk 4 ml)]))) (gH n r)
def bp(n lo hi:Int):Option Bool:=some ((bP n lo)&&(kP n hi))
def gX(l:List ag):Option Int:=br (aW (aB l) 0) (some 0) (aG (a4 l 0) fun x0=>some (aB x0.cap))
def cX(l:List ag)(ct:Int)(name:ByteArray)(i:Int):Option ((Int)⊕((Unit)⊕(Bool))):=br (aS i ct) (aG (a4 l i) fun x0=>br (qn x0.name name) (some (.inr (.inr true))) (some (.inl (aT .i64 i 1)))) (some (.inr (.inl ())))
def jh(l:List ag)(ct:Int)(name:ByteArray):Option Bool:=aG (aF (fun s=>cX l ct name s) 0) (fun e=>jB e (fun(_:Unit)=>some false) (fun r=>some r))
def b0(l:List Int)(i:Int):Option ((Int)⊕((Unit)⊕(Bool))):=br (aS i (aB l)) (aG (a4 l i) fun x0=>aG (bp x0 0 1000) fun r1=>br r1 (some (.inl (aT .i64 i 1))) (some (.inr (.inr false)))) (some (.inr (.inl ())))
def fr(l:List Int)(bt:Int):Option Bool:=aG (bp (aB l) 1 3) fun r=>br ((!r)||(bK (aB l) bt)) (some false) (aG (aF (fun s=>b0 l s) 0) (fun e=>jB e (fun(_:Unit)=>some true) (fun r2=>some r2)))
def fA(x0:ag)(l8:List Int):Option (List Int):=aG (bp x0.ai 0 7) fun zj=>br zj (aG (bp x0.jm 0 100000) fun Ny=>br Ny (aG (bp x0.eR 0 100) fun HQ=>br HQ (aG (bp x0.fO 0 100) fun Tc=>br Tc (some l8) (dr (d_ (l8++[2]).length 8) (some (l8++[2])))) (dr (d_ (l8++[2]).length 8) (some (l8++[2])))) (dr (d_ (l8++[2]).length 8) (some (l8++[2])))) (dr (d_ (l8++[2]).length 8) (some (l8++[2])))
def fz(x0:ag)(l7:List Int):Option (List Int):=aG (bp x0.iU 1 4096) fun r9=>br r9 (aG (bp x0.cK 0 4096) fun M3=>br M3 (fA x0 l7) (dr (d_ (l7++[16]).length 8) (fA x0 (l7++[16])))) (dr (d_ (l7++[16]).length 8) (aG (bp x0.ai 0 7) fun DU=>br DU (aG (bp x0.jm 0 100000) fun Td=>br Td (aG (bp x0.eR 0 100) fun RA=>br RA (aG (bp x0.fO 0 100) fun SE=>br SE (some (l7++[16])) (dr (d_ ((l7++[16])++[2]).length 8) (some ((l7++[16])++[2])))) (dr (d_ ((l7++[16])++[2]).length 8) (some ((l7++[16])++[2])))) (dr (d_ ((l7++[16])++[2]).length 8) (some ((l7++[16])++[2])))) (dr (d_ ((l7++[16])++[2]).length 8) (some ((l7++[16])++[2])))))
def fy(x0:ag)(l6:List Int):Option (List Int):=aG (bp x0.aH 0 x0.aQ) fun r8=>br ((!r8)||(bU x0.aQ 4096)) (dr (d_ (l6++[15]).length 8) (fz x0 (l6++[15]))) (fz x0 l6)
def fx(x0:ag)(l5:List Int):Option (List Int):=aG (bp x0.aL 0 1073741823) fun r7=>br r7 (fy x0 l5) (dr (d_ (l5++[18]).length 8) (fy x0 (l5++[18])))
def fw(l:List ag)(x0:ag)(l4:List Int):Option (List Int):=aG (gX l) fun r5=>aG (fr x0.cap r5) fun r6=>br r6 (fx x0 l4) (dr (d_ (l4++[17]).length 8) (fx x0 (l4++[17])))
def mg(x0:ag)(EP:List Int):Option (List Int):=aG (bp x0.ai 0 7) fun Wc=>br Wc (aG (bp x0.jm 0 100000) fun UE=>br UE (aG (bp x0.eR 0 100) fun Xp=>br Xp (aG (bp x0.fO 0 100) fun Xq=>br Xq (some EP) (dr (d_ (EP++[2]).length 8) (some (EP++[2])))) (dr (d_ (EP++[2]).length 8) (some (EP++[2])))) (dr (d_ (EP++[2]).length 8) (some (EP++[2])))) (dr (d_ (EP++[2]).length 8) (some (EP++[2])))
def mf(x0:ag)(FI:List Int):Option (List Int):=aG (bp x0.iU 1 4096) fun Vc=>br Vc (aG (bp x0.cK 0 4096) fun Wb=>br Wb (mg x0 FI) (dr (d_ (FI++[16]).length 8) (mg x0 (FI++[16])))) (dr (d_ (FI++[16]).length 8) (aG (bp x0.ai 0 7) fun Xr=>br Xr (aG (bp x0.jm 0 100000) fun We=>br We (aG (bp x0.eR 0 100) fun Wf=>br Wf (aG (bp x0.fO 0 100) fun Wg=>br Wg (some (FI++[16])) (dr (d_ ((FI++[16])++[2]).length 8) (some ((FI++[16])++[2])))) (dr (d_ ((FI++[16])++[2]).length 8) (some ((FI++[16])++[2])))) (dr (d_ ((FI++[16])++[2]).length 8) (some ((FI++[16])++[2])))) (dr (d_ ((FI++[16])++[2]).length 8) (some ((FI++[16])++[2])))))
def me(x0:ag)(Hz:List Int):Option (List Int):=aG (bp x0.aH 0 x0.aQ) fun SF=>br ((!SF)||(bU x0.aQ 4096)) (dr (d_ (Hz++[15]).length 8) (mf x0 (Hz++[15]))) (mf x0 Hz)
def mD(x0:ag)(l9:List Int):Option (List Int):=aG (bp x0.aL 0 1073741823) fun UD=>br UD (me x0 l9) (dr (d_ (l9++[18]).length 8) (me x0 (l9++[18])))
def fv(n:ah)(l:List ag)(x0:ag)(l3:List Int):Option (List Int):=aG (bp x0.az 0 (dA .i64 (aB n.av) 1)) fun r3=>br r3 (aG (bp x0.cw 0 (dA .i64 (aB n.av) 1)) fun r4=>br r4 (fw l x0 l3) (dr (d_ (l3++[11]).length 8) (fw l x0 (l3++[11])))) (dr (d_ (l3++[11]).length 8) (aG (gX l) fun CD=>aG (fr x0.cap CD) fun Vb=>br Vb (mD x0 (l3++[11])) (dr (d_ ((l3++[11])++[17]).length 8) (mD x0 ((l3++[11])++[17])))))
def fu(n:ah)(l:List ag)(x0:ag)(l2:List Int):Option (List Int):=aG (bp x0.dT 0 10) fun r2=>br r2 (fv n l x0 l2) (dr (d_ (l2++[22]).length 8) (fv n l x0 (l2++[22])))
def ft(n:ah)(l:List ag)(ct:Int)(x0:ag)(l1:List Int):Option (List Int):=aG (jh l ct x0.name) fun r1=>br r1 (dr (d_ (l1++[6]).length 8) (fu n l x0 (l1++[6]))) (fu n l x0 l1)
def gu(n:ah)(l:List ag)(ct:Int):Option (List Int):=aG (a4 l ct) fun x0=>aG (fe x0.name) fun r=>br r (ft n l ct x0 []) (dr (d_ [5].length 8) (ft n l ct x0 [5]))
def iR(n:ah)(l:List ag)(i:Int)(r1:List Int)(l3:List aa)(k:Int):Option ((List aa×Int)⊕(List aa)):=br (aS k (aB r1)) (aG (a4 r1 k) fun x0=>aG (bV i) fun r2=>dr (d_ (l3++[(aa.mk x0 r2)]).length 24) (some (.inl ((l3++[(aa.mk x0 r2)]),(aT .i64 k 1))))) (some (.inr l3))
def ed(n:ah)(l:List ag)(l2:List aa)(i:Int):Option ((List aa×Int)⊕(List aa)):=br (aS i (aB l)) (aG (gu n l i) fun r1=>aG (aF (fun s=>iR n l i r1 s.1 s.2) (l2,0)) (fun l4=>some (.inl (l4,(aT .i64 i 1))))) (some (.inr l2))
def gJ(n:ah)(l:List ag)(l1:List aa):Option (List aa):=aG (aF (fun s=>ed n l s.1 s.2) (l1,0)) (fun l5=>some l5)
def ib(n:ah)(l:List ag):Option (List aa):=aG (bp (aB l) 1 6) fun r=>br r (gJ n l []) (dr (d_ [(aa.mk 4 ByteArray.empty)].length 24) (gJ n l [(aa.mk 4 ByteArray.empty)]))
def cH(a:List Int)(i:Int):Option ((Int)⊕((Unit)⊕(Bool))):=br (aS i (aB a)) (aG (a4 a i) fun x0=>br (aS x0 0) (some (.inr (.inr false))) (br (bU x0 1000) (some (.inr (.inr false))) (some (.inl (aT .i64 i 1))))) (some (.inr (.inl ())))
def ia(a:List Int)(bt:Int):Option Bool:=br (bK (aB a) bt) (some false) (aG (aF (fun s=>cH a s) 0) (fun e=>jB e (fun(_:Unit)=>some true) (fun r=>some r)))
def c_(n low high:Int):Option Bool:=some ((bP n low)&&(kP n high))
def cN(s0:aK):Option Int:=br ((((aW s0.place (-1))&&(aW s0.aH 0))&&(aW s0.aQ 0))&&(aW s0.aR 0)) (some 0) (br ((((((aS s0.place 0)||(aS s0.aH 0))||(bU s0.aH s0.aQ))||(bU s0.aQ 4096))||(aS s0.aR 0))||(bU s0.aR 4096)) (some 2) (some 0))
def bY(av bt types:Int)(l:List ab)(ct:Int)(x0:ab)(l1:List Int)(i:Int):Option ((Int)⊕(List Int)):=br (aS i ct) (aG (a4 l i) fun x1=>br (qn x1.name x0.name) (dr (d_ (l1++[6]).length 8) (some (.inr (l1++[6])))) (some (.inl (aT .i64 i 1)))) (some (.inr l1))
def dE(types:Int)(x0:ab)(l6:List Int):Option (List Int):=aG (c_ x0.bg (-1) 1000000) fun r6=>br r6 (aG (c_ x0.split 1 4) fun r7=>br ((((((!r7)||((bU x0.split 1)&&((bK x0.pick.place (-1))&&(bK x0.drop.place (-1)))))||(aS x0.a3 (-1)))||(bP x0.a3 types))||(aS x0.now (-1)))||(bP x0.now types)) (dr (d_ (l6++[2]).length 8) (some (l6++[2]))) (some l6)) (dr (d_ (l6++[2]).length 8) (some (l6++[2])))
def fB(types:Int)(x0:ab)(l8:List Int):Option (List Int):=aG (c_ x0.bg (-1) 1000000) fun M3=>br M3 (aG (c_ x0.split 1 4) fun zj=>br ((((((!zj)||((bU x0.split 1)&&((bK x0.pick.place (-1))&&(bK x0.drop.place (-1)))))||(aS x0.a3 (-1)))||(bP x0.a3 types))||(aS x0.now (-1)))||(bP x0.now types)) (dr (d_ (l8++[2]).length 8) (some (l8++[2]))) (some l8)) (dr (d_ (l8++[2]).length 8) (some (l8++[2])))
def cu(types:Int)(x0:ab)(l7:List Int):Option (List Int):=aG (c_ x0.aL 0 1073741823) fun r9=>br r9 (fB types x0 l7) (dr (d_ (l7++[18]).length 8) (fB types x0 (l7++[18])))
def di(types:Int)(x0:ab)(l5:List Int):Option (List Int):=aG (cN x0.pick) fun r4=>br (bK r4 0) (dr (d_ (l5++[14]).length 8) (aG (c_ x0.aL 0 1073741823) fun r5=>br r5 (dE types x0 (l5++[14])) (dr (d_ ((l5++[14])++[18]).length 8) (dE types x0 ((l5++[14])++[18]))))) (aG (cN x0.drop) fun r8=>br (bK r8 0) (dr (d_ (l5++[14]).length 8) (cu types x0 (l5++[14]))) (cu types x0 l5))
def cJ(types:Int)(x0:ab)(l4:List Int):Option (List Int):=br ((aW x0.pick.place (-1))&&(aW x0.drop.place (-1))) (dr (d_ (l4++[19]).length 8) (di types x0 (l4++[19]))) (di types x0 l4)
def gL(types:Int)(x0:ab)(Hz:List Int):Option (List Int):=aG (c_ x0.bg (-1) 1000000) fun Tc=>br Tc (aG (c_ x0.split 1 4) fun DU=>br ((((((!DU)||((bU x0.split 1)&&((bK x0.pick.place (-1))&&(bK x0.drop.place (-1)))))||(aS x0.a3 (-1)))||(bP x0.a3 types))||(aS x0.now (-1)))||(bP x0.now types)) (dr (d_ (Hz++[2]).length 8) (some (Hz++[2]))) (some Hz)) (dr (d_ (Hz++[2]).length 8) (some (Hz++[2])))
def fS(types:Int)(x0:ab)(EP:List Int):Option (List Int):=aG (c_ x0.bg (-1) 1000000) fun SE=>br SE (aG (c_ x0.split 1 4) fun CD=>br ((((((!CD)||((bU x0.split 1)&&((bK x0.pick.place (-1))&&(bK x0.drop.place (-1)))))||(aS x0.a3 (-1)))||(bP x0.a3 types))||(aS x0.now (-1)))||(bP x0.now types)) (dr (d_ (EP++[2]).length 8) (some (EP++[2]))) (some EP)) (dr (d_ (EP++[2]).length 8) (some (EP++[2])))
def fR(types:Int)(x0:ab)(FI:List Int):Option (List Int):=aG (c_ x0.aL 0 1073741823) fun RA=>br RA (fS types x0 FI) (dr (d_ (FI++[18]).length 8) (fS types x0 (FI++[18])))
def gK(types:Int)(x0:ab)(l9:List Int):Option (List Int):=aG (cN x0.pick) fun Ny=>br (bK Ny 0) (dr (d_ (l9++[14]).length 8) (aG (c_ x0.aL 0 1073741823) fun HQ=>br HQ (gL types x0 (l9++[14])) (dr (d_ ((l9++[14])++[18]).length 8) (gL types x0 ((l9++[14])++[18]))))) (aG (cN x0.drop) fun Td=>br (bK Td 0) (dr (d_ (l9++[14]).length 8) (fR types x0 (l9++[14]))) (fR types x0 l9))
def b7(av types:Int)(x0:ab)(l3:List Int):Option (List Int):=aG (c_ x0.pick.place (-1) (dA .i64 av 1)) fun r2=>br r2 (aG (c_ x0.drop.place (-1) (dA .i64 av 1)) fun r3=>br r3 (cJ types x0 l3) (dr (d_ (l3++[11]).length 8) (cJ types x0 (l3++[11])))) (dr (d_ (l3++[11]).length 8) (br ((aW x0.pick.place (-1))&&(aW x0.drop.place (-1))) (dr (d_ ((l3++[11])++[19]).length 8) (gK types x0 ((l3++[11])++[19]))) (gK types x0 (l3++[11]))))
def dD(av bt types:Int)(l:List ab)(ct:Int)(x0:ab)(l1:List Int):Option (List Int):=aG (aF (fun s=>bY av bt types l ct x0 l1 s) 0) (fun l2=>aG (ia x0.load bt) fun r1=>br r1 (b7 av types x0 l2) (dr (d_ (l2++[17]).length 8) (b7 av types x0 (l2++[17]))))
def ep(av bt types:Int)(l:List ab)(ct:Int):Option (List Int):=aG (a4 l ct) fun x0=>aG (fe x0.name) fun r=>br r (dD av bt types l ct x0 []) (dr (d_ [5].length 8) (dD av bt types l ct x0 [5]))
def iS(n:ah)(bt types:Int)(l:List ab)(i:Int)(r:List Int)(l3:List aa)(k:Int):Option ((List aa×Int)⊕(List aa)):=br (aS k (aB r)) (aG (a4 r k) fun x0=>aG (bV i) fun r1=>dr (d_ (l3++[(aa.mk x0 r1)]).length 24) (some (.inl ((l3++[(aa.mk x0 r1)]),(aT .i64 k 1))))) (some (.inr l3))
def cZ(n:ah)(bt types:Int)(l:List ab)(l2:List aa)(i:Int):Option ((List aa×Int)⊕(List aa)):=br (aS i (aB l)) (aG (ep (aB n.av) bt types l i) fun r=>aG (aF (fun s=>iS n bt types l i r s.1 s.2) (l2,0)) (fun l4=>some (.inl (l4,(aT .i64 i 1))))) (some (.inr l2))
def ee(n:ah)(bt types:Int)(l:List ab)(l1:List aa):Option (List aa):=aG (aF (fun s=>cZ n bt types l s.1 s.2) (l1,0)) (fun l5=>some l5)
def dP(n:ah)(bt types:Int)(l:List ab):Option (List aa):=br (bU (aB l) 10) (dr (d_ [(aa.mk 4 ByteArray.empty)].length 24) (ee n bt types l [(aa.mk 4 ByteArray.empty)])) (ee n bt types l [])
def i_(n1:Int)(s0:ByteArray):Option ((Int×ByteArray)⊕(Int×ByteArray)):=br (bP n1 10) (dr ((tF [(wz .u8 (aT .i64 48 (yG n1 10)))]).size+s0.size≤9223372036854775807) (some (.inl ((vX .i64 n1 10),(bH (tF [(wz .u8 (aT .i64 48 (yG n1 10)))]) s0))))) (some (.inr (n1,s0)))
def ji(n:Int):Option ByteArray:=aG (aF (fun s=>i_ s.1 s.2) (n,ByteArray.empty)) (fun e0=>(fun n2 s1=>dr ((tF [(wz .u8 (aT .i64 48 n2))]).size+s1.size≤9223372036854775807) (some (bH (tF [(wz .u8 (aT .i64 48 n2))]) s1))) e0.1 e0.2)
def du(aj:Int)(l:List aA)(word:ByteArray)(cp:Bool)(l2:List aa)(i:Int)(x0:aA)(r:ByteArray)(kE:Bool)(k:Int):Option ((Bool×Int)⊕(Bool)):=br (aS k i) (br kE (some (.inl (true,(aT .i64 k 1)))) (aG (a4 l k) fun x1=>br (aW x1.x0 x0.x0) (br (aW x1.x1 x0.x1) (some (.inl (true,(aT .i64 k 1)))) (br cp (br (aW x1.x0 x0.x1) (some (.inl ((aW x1.x1 x0.x0),(aT .i64 k 1)))) (some (.inl (false,(aT .i64 k 1))))) (some (.inl (false,(aT .i64 k 1)))))) (br cp (br (aW x1.x0 x0.x1) (some (.inl ((aW x1.x1 x0.x0),(aT .i64 k 1)))) (some (.inl (false,(aT .i64 k 1))))) (some (.inl (false,(aT .i64 k 1))))))) (some (.inr kE))
def c8(aj:Int)(l:List aA)(word:ByteArray)(cp:Bool)(l2:List aa)(i:Int):Option ((List aa×Int)⊕(List aa)):=br (aS i (aB l)) (aG (a4 l i) fun x0=>dr (word.size+bn.size≤9223372036854775807) (aG (ji i) fun r=>dr ((bH word bn).size+r.size≤9223372036854775807) (br (((((aS x0.x0 0)||(bP x0.x0 aj))||(aS x0.x1 0))||(bP x0.x1 aj))||(aW x0.x0 x0.x1)) (dr (d_ (l2++[(aa.mk 2 (bH (bH word bn) r))]).length 24) (some (.inl ((l2++[(aa.mk 2 (bH (bH word bn) r))]),(aT .i64 i 1))))) (aG (aF (fun s=>du aj l word cp l2 i x0 r s.1 s.2) (false,0)) (fun nJ=>br nJ (dr (d_ (l2++[(aa.mk 6 (bH (bH word bn) r))]).length 24) (some (.inl ((l2++[(aa.mk 6 (bH (bH word bn) r))]),(aT .i64 i 1))))) (some (.inl (l2,(aT .i64 i 1))))))))) (some (.inr l2))
def fU(aj:Int)(l:List aA)(word:ByteArray)(cp:Bool)(l1:List aa):Option (List aa):=aG (aF (fun s=>c8 aj l word cp s.1 s.2) (l1,0)) (fun l3=>some l3)
def gN(aj:Int)(l:List aA)(word:ByteArray)(cp:Bool):Option (List aa):=br (bU (aB l) 16) (dr (d_ [(aa.mk 4 word)].length 24) (fU aj l word cp [(aa.mk 4 word)])) (fU aj l word cp [])
def mr(aj:Int)(l:List aA)(word:ByteArray)(cp:Bool)(l2:List aa)(i:Int)(x0:aA)(r:ByteArray)(kE:Bool)(k:Int):Option ((Bool×Int)⊕(Bool)):=br (aS k i) (br kE (some (.inl (true,(aT .i64 k 1)))) (aG (a4 l k) fun x1=>br (aW x1.x0 x0.x0) (br (aW x1.x1 x0.x1) (some (.inl (true,(aT .i64 k 1)))) (br cp (br (aW x1.x0 x0.x1) (some (.inl ((aW x1.x1 x0.x0),(aT .i64 k 1)))) (some (.inl (false,(aT .i64 k 1))))) (some (.inl (false,(aT .i64 k 1)))))) (br cp (br (aW x1.x0 x0.x1) (some (.inl ((aW x1.x1 x0.x0),(aT .i64 k 1)))) (some (.inl (false,(aT .i64 k 1))))) (some (.inl (false,(aT .i64 k 1))))))) (some (.inr kE))
def mq(aj:Int)(l:List aA)(word:ByteArray)(cp:Bool)(l2:List aa)(i:Int):Option ((List aa×Int)⊕(List aa)):=br (aS i (aB l)) (aG (a4 l i) fun x0=>dr (word.size+bn.size≤9223372036854775807) (aG (ji i) fun r=>dr ((bH word bn).size+r.size≤9223372036854775807) (br (((((aS x0.x0 0)||(bP x0.x0 aj))||(aS x0.x1 0))||(bP x0.x1 aj))||(aW x0.x0 x0.x1)) (dr (d_ (l2++[(aa.mk 2 (bH (bH word bn) r))]).length 24) (some (.inl ((l2++[(aa.mk 2 (bH (bH word bn) r))]),(aT .i64 i 1))))) (aG (aF (fun s=>mr aj l word cp l2 i x0 r s.1 s.2) (false,0)) (fun nJ=>br nJ (dr (d_ (l2++[(aa.mk 6 (bH (bH word bn) r))]).length 24) (some (.inl ((l2++[(aa.mk 6 (bH (bH word bn) r))]),(aT .i64 i 1))))) (some (.inl (l2,(aT .i64 i 1))))))))) (some (.inr l2))
def js(aj:Int)(l:List aA)(word:ByteArray)(cp:Bool)(l1:List aa):Option (List aa):=aG (aF (fun s=>mq aj l word cp s.1 s.2) (l1,0)) (fun l3=>some l3)
def lM(aj:Int)(l:List aA)(word:ByteArray)(cp:Bool):Option (List aa):=br (bU (aB l) 16) (dr (d_ [(aa.mk 4 word)].length 24) (js aj l word cp [(aa.mk 4 word)])) (js aj l word cp [])
def ic(aj:Int)(cb before:List aA):Option (List aa):=aG (lM aj cb Ay true) fun r=>aG (gN aj before yK false) fun r1=>dr (d_ (r++r1).length 24) (some (r++r1))
def jP(word:ByteArray)(l l1:List aa)(i:Int)(ct:ByteArray):Option ((List aa×Int)⊕(List aa)):=aG (a4 l i) fun x1=>dr (d_ (l1++[(aa.mk x1.EL ct)]).length 24) (some (.inl ((l1++[(aa.mk x1.EL ct)]),(aT .i64 i 1))))
def mO(word:ByteArray)(l l1:List aa)(i:Int):Option ((List aa×Int)⊕(List aa)):=br (aS i (aB l)) (aG (a4 l i) fun x0=>br (qn x0.ct ByteArray.empty) (jP word l l1 i word) (dr (word.size+bn.size≤9223372036854775807) (dr ((bH word bn).size+x0.ct.size≤9223372036854775807) (jP word l l1 i (bH (bH word bn) x0.ct))))) (some (.inr l1))
def eB(word:ByteArray)(l:List aa):Option (List aa):=aG (aF (fun s=>mO word l s.1 s.2) ([],0)) (fun l2=>some l2)
def cO(x0:ae):Option (List aa):=aG (gq x0.b8) fun r=>aG (eB lC r) fun r1=>aG (ib x0.b8 x0.types) fun r2=>aG (gv sO r2) fun r3=>dr (d_ (r1++r3).length 24) (aG (gX x0.types) fun r4=>aG (dP x0.b8 r4 (aB x0.types) x0.aj) fun r5=>aG (gv qf r5) fun r6=>dr (d_ ((r1++r3)++r6).length 24) (aG (ic (aB x0.aj) x0.cb x0.before) fun r7=>aG (gv sN r7) fun r8=>dr (d_ (((r1++r3)++r6)++r8).length 24) (some (((r1++r3)++r6)++r8))))
def lv(t:ag)(aL bit:Int):Option ((Int)⊕((Unit)⊕(Bool))):=br (bU bit 0) (dr ((bit:Int)≠0) (br (aW (yG (vX .i64 aL bit) 2) 1) (dr ((bit:Int)≠0) (br (aW (yG (vX .i64 t.aL bit) 2) 0) (some (.inr (.inr false))) (some (.inl (sx .i64 bit 2))))) (some (.inl (sx .i64 bit 2))))) (some (.inr (.inl ())))
def uU(t:ag)(aL:Int):Option Bool:=br ((aS t.aL 0)||(aS aL 0)) (some false) (aG (aF (fun s=>lv t aL s) 1) (fun e=>jB e (fun(_:Unit)=>some true) (fun r=>some r)))
def o5(l:List au)(t i:Int):Option ((Int)⊕((Unit)⊕(Int))):=br (aS (aT .i64 i 1) (aB l)) (aG (a4 l i) fun x0=>aG (a4 l (aT .i64 i 1)) fun x1=>br ((kP x0.t t)&&(aS t x1.t)) (dr (((dA .i64 x1.t x0.t):Int)≠0) (some (.inr (.inr (aT .i64 x0.a (vX .i64 (dA .i64 (dA .i64 (aT .i64 (sx .i64 (dA .i64 t x0.t) (dA .i64 x1.a x0.a)) x1.t) x0.t) 1) (dA .i64 x1.t x0.t))))))) (some (.inl (aT .i64 i 1)))) (some (.inr (.inl ())))
def rM(l:List au)(t:Int):Option Int:=aG (dO l) fun r=>br (((bU (aB r) 0)||(aS t 0))||(bU t 1073741824)) (some 0) (aG (aF (fun s=>o5 l t s) 0) (fun e=>jB e (fun(_:Unit)=>aG (a4 l 0) fun x2=>br (bU t x2.t) (aG (a4 l (dA .i64 (aB l) 1)) fun x3=>some (dA .i64 (aT .i64 t x3.a) x3.t)) (some (dA .i64 (aT .i64 t x2.a) x2.t))) (fun r1=>some r1)))
def Cq(a:al)(t n i:Int):Option ((Int×Int)⊕(Int)):=br (aS i (aB a.dp)) (aG (a4 a.dp i) fun x0=>br (kP x0.t t) (some (.inl ((aT .i64 n x0.a),(aT .i64 i 1)))) (some (.inl (n,(aT .i64 i 1))))) (some (.inr n))
def rQ(a:al)(t:Int):Option Int:=aG (rM a.cz t) fun r=>aG (aF (fun s=>Cq a t s.1 s.2) (r,0)) (fun n1=>some n1)
def e_(n:ah)(ai az t:Int)(l:List Int)(p:Int):Option ((List Int×Int)⊕(List Int)):=br (aS p (aB n.av)) (br (aW p az) (dr (d_ (l++[t]).length 8) (some (.inl ((l++[t]),(aT .i64 p 1))))) (dr (d_ (l++[(-1)]).length 8) (some (.inl ((l++[(-1)]),(aT .i64 p 1)))))) (some (.inr l))
def fb(n:ah)(ai az round:Int)(l3:List Int)(i:Int):Option ((List Int×Int)⊕(List Int)):=br (aS i (aB n.aI)) (aG (a4 n.aI i) fun x0=>br (aW x0.ai ai) (aG (a4 l3 x0.az) fun x1=>br (bP x1 0) (aG (rQ x0 x1) fun r=>aG (a4 l3 x0.cw) fun x2=>br (aS x2 0) (some (.inl ((fi l3 x0.cw r),(aT .i64 i 1)))) (br (aS r x2) (some (.inl ((fi l3 x0.cw r),(aT .i64 i 1)))) (some (.inl (l3,(aT .i64 i 1)))))) (some (.inl (l3,(aT .i64 i 1))))) (some (.inl (l3,(aT .i64 i 1))))) (some (.inr l3))
def fa(n:ah)(ai az:Int)(l2:List Int)(round:Int):Option ((List Int×Int)⊕(List Int)):=br (aS round (aB n.av)) (aG (aF (fun s=>fb n ai az round s.1 s.2) (l2,0)) (fun l4=>some (.inl (l4,(aT .i64 round 1))))) (some (.inr l2))
def mC(n:ah)(ai az t:Int):Option (List Int):=aG (aF (fun s=>e_ n ai az t s.1 s.2) ([],0)) (fun l1=>aG (aF (fun s=>fa n ai az s.1 s.2) (l1,0)) (fun l5=>some l5))
def mQ(x0:ae)(t:ag)(place:Int):Option Int:=aG (mC x0.b8 t.ai t.az t.aH) fun r=>br ((aS place 0)||(bP place (aB r))) (some (-1)) (aG (a4 r place) fun x1=>some x1)
def c5(x0:ae)(l:List ag)(place out i:Int):Option ((Int×Int)⊕(Int)):=br (aS i (aB l)) (aG (a4 l i) fun x1=>aG (mQ x0 x1 place) fun r=>br ((bP r 0)&&((aS out 0)||(aS r out))) (some (.inl (r,(aT .i64 i 1)))) (some (.inl (out,(aT .i64 i 1))))) (some (.inr out))
def mP(x0:ae)(l:List ag)(place:Int):Option Int:=aG (aF (fun s=>c5 x0 l place s.1 s.2) ((-1),0)) (fun SC=>some SC)
def qC(x0:ae)(t:ag)(place bW:Int):Option Bool:=aG (mC x0.b8 t.ai place bW) fun r=>br ((bP t.cw 0)&&(aS t.cw (aB r))) (aG (a4 r t.cw) fun x1=>br (bP x1 0) (some (kP x1 t.aQ)) (some false)) (some false)
def ij(x0:ae)(l:List ag)(s0:aK)(r b i:Int):Option ((Int)⊕((Unit)⊕(aK))):=br (aS i (aB l)) (aG (a4 l i) fun x1=>aG (qC x0 x1 s0.place (aT .i64 b s0.aR)) fun r1=>br r1 (some (.inr (.inr (aK.mk s0.place (Bv s0.aH r) b s0.aR)))) (some (.inl (aT .i64 i 1)))) (some (.inr (.inl ())))
def mh(x0:ae)(l:List ag)(s0:aK)(r b:Int):Option ((Int)⊕((Unit)⊕(aK))):=br (bP b (Bv s0.aH r)) (aG (aF (fun s=>ij x0 l s0 r b s) 0) (fun e=>jB e (fun(_:Unit)=>some (.inl (dA .i64 b 1))) (fun r2=>some (.inr (.inr r2))))) (some (.inr (.inl ())))
def sv(x0:ae)(l:List ag)(s0:aK):Option aK:=aG (mP x0 l s0.place) fun r=>br (((aS s0.place 0)||(aS r 0))||(bU r s0.aQ)) (some s0) (aG (aF (fun s=>mh x0 l s0 r s) s0.aQ) (fun e=>jB e (fun(_:Unit)=>some s0) (fun r3=>some r3)))
def eX(a b:List au)(i:Int):Option ((Int)⊕((Unit)⊕(Bool))):=br (aS i (aB a)) (aG (a4 a i) fun x0=>aG (a4 b i) fun x1=>br (aW x0.t x1.t&&(aW x0.a x1.a&&true)) (some (.inl (aT .i64 i 1))) (some (.inr (.inr false)))) (some (.inr (.inl ())))
def jO(a b:List au):Option Bool:=br (bK (aB a) (aB b)) (some false) (aG (aF (fun s=>eX a b s) 0) (fun e=>jB e (fun(_:Unit)=>some true) (fun r=>some r)))
def fX(a b:ah)(i:Int):Option ((Int)⊕((Unit)⊕(Bool))):=br (aS i (aB a.av)) (aG (a4 a.av i) fun x0=>aG (a4 b.av i) fun x1=>br (qn x0 x1) (some (.inl (aT .i64 i 1))) (some (.inr (.inr false)))) (some (.inr (.inl ())))
def fY(a b:ah)(i1:Int):Option ((Int)⊕((Unit)⊕(Bool))):=br (aS i1 (aB a.aI)) (aG (a4 a.aI i1) fun x2=>aG (a4 b.aI i1) fun x3=>br ((((bK x2.az x3.az)||(bK x2.cw x3.cw))||(bK x2.ai x3.ai))||(bK x2.dc x3.dc)) (some (.inr (.inr false))) (aG (jO x2.cz x3.cz) fun r=>br r (aG (jO x2.dp x3.dp) fun r1=>br r1 (some (.inl (aT .i64 i1 1))) (some (.inr (.inr false)))) (some (.inr (.inr false))))) (some (.inr (.inl ())))
def nV(a b:ah):Option Bool:=br ((bK (aB a.av) (aB b.av))||(bK (aB a.aI) (aB b.aI))) (some false) (aG (aF (fun s=>fX a b s) 0) (fun e=>jB e (fun(_:Unit)=>aG (aF (fun s=>fY a b s) 0) (fun e=>jB e (fun(_:Unit)=>some true) (fun r2=>some r2))) (fun r3=>some r3)))
def fQ(a b:ag)(i:Int):Option ((Int)⊕((Unit)⊕(Bool))):=br (aS i (aB a.cap)) (aG (a4 a.cap i) fun x0=>aG (a4 b.cap i) fun x1=>br (bK x0 x1) (some (.inr (.inr false))) (some (.inl (aT .i64 i 1)))) (some (.inr (.inl ())))
def nR(a b:ag):Option Bool:=br (bK (aB a.cap) (aB b.cap)) (some false) (aG (aF (fun s=>fQ a b s) 0) (fun e=>jB e (fun(_:Unit)=>some (((((((((((((qn a.name b.name)&&(aW a.dT b.dT))&&(aW a.az b.az))&&(aW a.cw b.cw))&&(aW a.aL b.aL))&&(aW a.ai b.ai))&&(aW a.aH b.aH))&&(aW a.aQ b.aQ))&&(aW a.iU b.iU))&&(aW a.cK b.cK))&&(aW a.jm b.jm))&&(aW a.eR b.eR))&&(aW a.fO b.fO))) (fun r=>some r)))
def fT(a b:List Int)(i:Int):Option ((Int)⊕((Unit)⊕(Bool))):=br (aS i (aB a)) (aG (a4 a i) fun x0=>aG (a4 b i) fun x1=>br (bK x0 x1) (some (.inr (.inr false))) (some (.inl (aT .i64 i 1)))) (some (.inr (.inl ())))
def nU(a b:List Int):Option Bool:=br (bK (aB a) (aB b)) (some false) (aG (aF (fun s=>fT a b s) 0) (fun e=>jB e (fun(_:Unit)=>some true) (fun r=>some r)))
def nS(a b:ab):Option Bool:=br (qn a.name b.name) (aG (nU a.load b.load) fun r=>some ((((((((r&&(aW a.pick.place b.pick.place&&(aW a.pick.aH b.pick.aH&&(aW a.pick.aQ b.pick.aQ&&(aW a.pick.aR b.pick.aR&&true)))))&&(aW a.drop.place b.drop.place&&(aW a.drop.aH b.drop.aH&&(aW a.drop.aQ b.drop.aQ&&(aW a.drop.aR b.drop.aR&&true)))))&&(aW a.aL b.aL))&&(aW a.bg b.bg))&&(aW a.split b.split))&&(aW a.a3 b.a3))&&(aW a.now b.now))&&(N1 a.off b.off))) (some false)
def fC(a b:List aA)(i:Int):Option ((Int)⊕((Unit)⊕(Bool))):=br (aS i (aB a)) (aG (a4 a i) fun x0=>aG (a4 b i) fun x1=>br (aW x0.x0 x1.x0&&(aW x0.x1 x1.x1&&true)) (some (.inl (aT .i64 i 1))) (some (.inr (.inr false)))) (some (.inr (.inl ())))
def kV(a b:List aA):Option Bool:=br (bK (aB a) (aB b)) (some false) (aG (aF (fun s=>fC a b s) 0) (fun e=>jB e (fun(_:Unit)=>some true) (fun r=>some r)))
def fV(a b:ae)(i:Int):Option ((Int)⊕((Unit)⊕(Bool))):=br (aS i (aB a.types)) (aG (a4 a.types i) fun x0=>aG (a4 b.types i) fun x1=>aG (nR x0 x1) fun r1=>br r1 (some (.inl (aT .i64 i 1))) (some (.inr (.inr false)))) (some (.inr (.inl ())))
def fW(a b:ae)(i1:Int):Option ((Int)⊕((Unit)⊕(Bool))):=br (aS i1 (aB a.aj)) (aG (a4 a.aj i1) fun x2=>aG (a4 b.aj i1) fun x3=>aG (nS x2 x3) fun r2=>br r2 (some (.inl (aT .i64 i1 1))) (some (.inr (.inr false)))) (some (.inr (.inl ())))
def gh(a b:ae):Option Bool:=aG (nV a.b8 b.b8) fun r=>br (((!r)||(bK (aB a.types) (aB b.types)))||(bK (aB a.aj) (aB b.aj))) (some false) (aG (aF (fun s=>fV a b s) 0) (fun e=>jB e (fun(_:Unit)=>aG (aF (fun s=>fW a b s) 0) (fun e=>jB e (fun(_:Unit)=>aG (kV a.cb b.cb) fun r3=>br r3 (aG (kV a.before b.before) fun r4=>some r4) (some false)) (fun r5=>some r5))) (fun r6=>some r6)))
def oh(x0:ae)(r1:aV)(r2 l:List ab)(v:Int):Option ((List ab×Int)⊕(List ab)):=br (aS v (aB r2)) (aG (a4 l v) fun x1=>br x1.off (some (.inl (l,(aT .i64 v 1)))) (aG (eI r1 x1 x1.pick) fun r3=>aG (eI r1 x1 x1.drop) fun r4=>some (.inl ((fi (fi l v (ab.mk x1.name x1.load r3 x1.drop x1.aL x1.bg x1.split x1.a3 x1.now x1.off)) v (ab.mk x1.name x1.load r3 r4 x1.aL x1.bg x1.split x1.a3 x1.now x1.off)),(aT .i64 v 1))))) (some (.inr l))
def nA(x0:ae):Option (ae×Int):=aG (jx x0) fun r=>br r (aG (lB x0) fun r1=>aG (cD x0.aj) fun r2=>aG (aF (fun s=>oh x0 r1 r2 s.1 s.2) (r2,0)) (fun l1=>some ((ae.mk x0.b8 x0.types l1 x0.cb x0.before),0))) (some ((ae.mk (ah.mk [] []) [] [] [] []),2))
section
open Go.RowKit
variable {N : Nat}
theorem Yq:hX Tryz.prog N 9 (HR 1 bR (fun s:ByteArray=>s.size≤N) (fun _=>rfl)):=Yn Tryz.underlying9 (by kernel_rfl)
theorem Z9:hX Tryz.prog N 22 (HR 1 (fun l:List ByteArray=>[.sl false 1 (l.map bR)]) (fun l:List (ByteArray)=>l.length≤N∧∀x∈l,(fun s:ByteArray=>s.size≤N) x) (fun _=>rfl)):=wU Tryz.underlying22 (by kernel_rfl) Yq (by decide)
theorem sE:hX Tryz.prog N 3 (HR 1 aq Cc (fun _=>rfl)):=Ym Tryz.underlying3 (by kernel_rfl)
def au.ok(N:Nat)(x:au):Prop:=Cc x.t∧Cc x.a∧True
theorem Qah:hX Tryz.prog N 86 (HR 2 au.enc (au.ok N) (fun _=>rfl)):=tO Tryz.underlying86 (by kernel_rfl) (.cons rfl sE (.cons rfl sE .nil)) rfl (HE.pair HE.rd (HE.pair HE.rd HE.unit)) (fun a=>⟨a.1,a.2.1⟩) (fun _=>rfl) (fun _ h=>h)
theorem Xl:hX Tryz.prog N 57 (HR 1 (fun l:List au=>[.sl false 2 (l.map au.enc)]) (fun l:List (au)=>l.length≤N∧∀x∈l,(au.ok N) x) (fun _=>rfl)):=wU Tryz.underlying57 (by kernel_rfl) Qah (by decide)
def al.ok(N:Nat)(x:al):Prop:=Cc x.az∧Cc x.cw∧Cc x.ai∧Cc x.dc∧(fun l:List (au)=>l.length≤N∧∀x∈l,(au.ok N) x) x.cz∧(fun l:List (au)=>l.length≤N∧∀x∈l,(au.ok N) x) x.dp∧True
theorem Qaf:hX Tryz.prog N 59 (HR 6 al.enc (al.ok N) (fun _=>rfl)):=tO Tryz.underlying59 (by kernel_rfl) (.cons rfl sE (.cons rfl sE (.cons rfl sE (.cons rfl sE (.cons rfl Xl (.cons rfl Xl .nil)))))) rfl (HE.pair HE.rd (HE.pair HE.rd (HE.pair HE.rd (HE.pair HE.rd (HE.pair HE.rd (HE.pair HE.rd HE.unit)))))) (fun a=>⟨a.1,a.2.1,a.2.2.1,a.2.2.2.1,a.2.2.2.2.1,a.2.2.2.2.2.1⟩) (fun _=>rfl) (fun _ h=>h)
theorem Z_:hX Tryz.prog N 23 (HR 1 (fun l:List al=>[.sl false 6 (l.map al.enc)]) (fun l:List (al)=>l.length≤N∧∀x∈l,(al.ok N) x) (fun _=>rfl)):=wU Tryz.underlying23 (by kernel_rfl) Qaf (by decide)
def ah.ok(N:Nat)(x:ah):Prop:=(fun l:List (ByteArray)=>l.length≤N∧∀x∈l,(fun s:ByteArray=>s.size≤N) x) x.av∧(fun l:List (al)=>l.length≤N∧∀x∈l,(al.ok N) x) x.aI∧True
theorem Qaa:hX Tryz.prog N 25 (HR 2 ah.enc (ah.ok N) (fun _=>rfl)):=tO Tryz.underlying25 (by kernel_rfl) (.cons rfl Z9 (.cons rfl Z_ .nil)) rfl (HE.pair HE.rd (HE.pair HE.rd HE.unit)) (fun a=>⟨a.1,a.2.1⟩) (fun _=>rfl) (fun _ h=>h)
theorem Xj:hX Tryz.prog N 52 (HR 1 (fun l:List Int=>[.sl false 1 (l.map aq)]) (fun l:List (Int)=>l.length≤N∧∀x∈l,Cc x) (fun _=>rfl)):=wU Tryz.underlying52 (by kernel_rfl) sE (by decide)
def ag.ok(N:Nat)(x:ag):Prop:=(fun s:ByteArray=>s.size≤N) x.name∧Cc x.dT∧Cc x.az∧Cc x.cw∧(fun l:List (Int)=>l.length≤N∧∀x∈l,Cc x) x.cap∧Cc x.aL∧Cc x.ai∧Cc x.aH∧Cc x.aQ∧Cc x.iU∧Cc x.cK∧Cc x.jm∧Cc x.eR∧Cc x.fO∧True
theorem Qag:hX Tryz.prog N 70 (HR 14 ag.enc (ag.ok N) (fun _=>rfl)):=tO Tryz.underlying70 (by kernel_rfl) (.cons rfl Yq (.cons rfl sE (.cons rfl sE (.cons rfl sE (.cons rfl Xj (.cons rfl sE (.cons rfl sE (.cons rfl sE (.cons rfl sE (.cons rfl sE (.cons rfl sE (.cons rfl sE (.cons rfl sE (.cons rfl sE .nil)))))))))))))) rfl (HE.pair HE.rd (HE.pair HE.rd (HE.pair HE.rd (HE.pair HE.rd (HE.pair HE.rd (HE.pair HE.rd (HE.pair HE.rd (HE.pair HE.rd (HE.pair HE.rd (HE.pair HE.rd (HE.pair HE.rd (HE.pair HE.rd (HE.pair HE.rd (HE.pair HE.rd HE.unit)))))))))))))) (fun a=>⟨a.1,a.2.1,a.2.2.1,a.2.2.2.1,a.2.2.2.2.1,a.2.2.2.2.2.1,a.2.2.2.2.2.2.1,a.2.2.2.2.2.2.2.1,a.2.2.2.2.2.2.2.2.1,a.2.2.2.2.2.2.2.2.2.1,a.2.2.2.2.2.2.2.2.2.2.1,a.2.2.2.2.2.2.2.2.2.2.2.1,a.2.2.2.2.2.2.2.2.2.2.2.2.1,a.2.2.2.2.2.2.2.2.2.2.2.2.2.1⟩) (fun _=>rfl) (fun _ h=>h)
theorem Qab:hX Tryz.prog N 26 (HR 1 (fun l:List ag=>[.sl false 14 (l.map ag.enc)]) (fun l:List (ag)=>l.length≤N∧∀x∈l,(ag.ok N) x) (fun _=>rfl)):=wU Tryz.underlying26 (by kernel_rfl) Qag (by decide)
def aK.ok(N:Nat)(x:aK):Prop:=Cc x.place∧Cc x.aH∧Cc x.aQ∧Cc x.aR∧True
theorem Xk:hX Tryz.prog N 54 (HR 4 aK.enc (aK.ok N) (fun _=>rfl)):=tO Tryz.underlying54 (by kernel_rfl) (.cons rfl sE (.cons rfl sE (.cons rfl sE (.cons rfl sE .nil)))) rfl (HE.pair HE.rd (HE.pair HE.rd (HE.pair HE.rd (HE.pair HE.rd HE.unit)))) (fun a=>⟨a.1,a.2.1,a.2.2.1,a.2.2.2.1⟩) (fun _=>rfl) (fun _ h=>h)
theorem Qcr:hX Tryz.prog N 4 (HR 1 dw (fun _:Bool=>True) (fun _=>rfl)):=V7 Tryz.underlying4 (by kernel_rfl)
def ab.ok(N:Nat)(x:ab):Prop:=(fun s:ByteArray=>s.size≤N) x.name∧(fun l:List (Int)=>l.length≤N∧∀x∈l,Cc x) x.load∧(aK.ok N) x.pick∧(aK.ok N) x.drop∧Cc x.aL∧Cc x.bg∧Cc x.split∧Cc x.a3∧Cc x.now∧(fun _:Bool=>True) x.off∧True
theorem Qae:hX Tryz.prog N 56 (HR 16 ab.enc (ab.ok N) (fun _=>rfl)):=tO Tryz.underlying56 (by kernel_rfl) (.cons rfl Yq (.cons rfl Xj (.cons rfl Xk (.cons rfl Xk (.cons rfl sE (.cons rfl sE (.cons rfl sE (.cons rfl sE (.cons rfl sE (.cons rfl Qcr .nil)))))))))) rfl (HE.pair HE.rd (HE.pair HE.rd (HE.pair HE.rd (HE.pair HE.rd (HE.pair HE.rd (HE.pair HE.rd (HE.pair HE.rd (HE.pair HE.rd (HE.pair HE.rd (HE.pair HE.rd HE.unit)))))))))) (fun a=>⟨a.1,a.2.1,a.2.2.1,a.2.2.2.1,a.2.2.2.2.1,a.2.2.2.2.2.1,a.2.2.2.2.2.2.1,a.2.2.2.2.2.2.2.1,a.2.2.2.2.2.2.2.2.1,a.2.2.2.2.2.2.2.2.2.1⟩) (fun _=>rfl) (fun _ h=>h)
theorem Qac:hX Tryz.prog N 27 (HR 1 (fun l:List ab=>[.sl false 16 (l.map ab.enc)]) (fun l:List (ab)=>l.length≤N∧∀x∈l,(ab.ok N) x) (fun _=>rfl)):=wU Tryz.underlying27 (by kernel_rfl) Qae (by decide)
def aA.ok(N:Nat)(x:aA):Prop:=Cc x.x0∧Cc x.x1
theorem Yp:hX Tryz.prog N 100 (HR 2 aA.enc (aA.ok N) (fun _=>rfl)):=Sw Tryz.underlying100 (by kernel_rfl) sE rfl (fun a b=>⟨a,b⟩) (fun _ _=>rfl) (fun _ _ h h2=>⟨h,h2⟩)
theorem Xi:hX Tryz.prog N 28 (HR 1 (fun l:List aA=>[.sl false 2 (l.map aA.enc)]) (fun l:List (aA)=>l.length≤N∧∀x∈l,(aA.ok N) x) (fun _=>rfl)):=wU Tryz.underlying28 (by kernel_rfl) Yp (by decide)
def ae.ok(N:Nat)(x:ae):Prop:=(ah.ok N) x.b8∧(fun l:List (ag)=>l.length≤N∧∀x∈l,(ag.ok N) x) x.types∧(fun l:List (ab)=>l.length≤N∧∀x∈l,(ab.ok N) x) x.aj∧(fun l:List (aA)=>l.length≤N∧∀x∈l,(aA.ok N) x) x.cb∧(fun l:List (aA)=>l.length≤N∧∀x∈l,(aA.ok N) x) x.before∧True
theorem Qad:hX Tryz.prog N 30 (HR 6 ae.enc (ae.ok N) (fun _=>rfl)):=tO Tryz.underlying30 (by kernel_rfl) (.cons rfl Qaa (.cons rfl Qab (.cons rfl Qac (.cons rfl Xi (.cons rfl Xi .nil))))) rfl (HE.pair HE.rd (HE.pair HE.rd (HE.pair HE.rd (HE.pair HE.rd (HE.pair HE.rd HE.unit))))) (fun a=>⟨a.1,a.2.1,a.2.2.1,a.2.2.2.1,a.2.2.2.2.1⟩) (fun _=>rfl) (fun _ h=>h)
end
end
end Go.Proofs.YtbilkblifgaflaaGreatDoor
