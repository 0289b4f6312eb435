/- Part MT. -/
import Derived.Test.YtkcilfpbgjjjbaaGreatDoorMI
import Derived.Test.YtkcilfpbgjjjbaaGreatDoorMA
import Derived.Lib.ItoaMem
import Derived.Sort.Defs
import Derived.Lib.BitFns
import Derived.Lib.Bytealg
import Derived.Lib.TrailingZeros
import Derived.Test.YtkcilfpbgjjjbaaGreatDoorMC
set_option linter.unusedSimpArgs false
set_option linter.unusedVariables false
set_option linter.unusedSectionVars false
namespace Go.Proofs.YtkcilfpbgjjjbaaGreatDoor
noncomputable section
def Qhf:Nat->Nat->List UInt8
 |0,_=>[]
 |f+1,u=>if u<10 then [UInt8.ofNat (48+u)]else Qhf f (u / 10)++[UInt8.ofNat (48+u % 10)]
theorem Qc_:∀(f u:Nat),u<10 ^ (f+1)->Qhf (f+1) u=Go.Lib.decDigits u
 |0,u,h=>by
  have dO:u<10:=by simpa using h
  rw[Go.Lib.decDigits.eq_1 u,dif_pos dO];unfold Qhf;rw[if_pos dO]
 |f+1,u,h=>by
  rw[Go.Lib.decDigits.eq_1 u];unfold Qhf;by_cases dO:u<10
  ·rw[if_pos dO,dif_pos dO]
  ·rw[if_neg dO,dif_neg dO,Qc_ f (u / 10) (by rw[Qdw]at h;omega)]
def zk(n:Int):O I:=if 0<=n/\n<=9223372036854775807 then some ⟨(Qhf 19 n.toNat).toArray⟩else none
theorem IJ{n:Int}(h:0<=n/\n<=9223372036854775807):zk n=some ⟨(Go.Lib.itoa n).toArray⟩:=by
 obtain⟨k,rfl⟩:∃k:Nat,n=k:=⟨n.toNat,by omega⟩
 unfold zk;rw[if_pos h,QaC,Qc_ 18 k (by have:=h.2;omega),Go.Lib.itoa_nonneg]
def Qh1(s sub:I):O Int:=match sub.data.toList with
 | [c]=>some (Go.Lib.indexByte s.data.toList c)
 |_=>none
def Qo2(a b:I):O Int:=some (Go.Lib.compareBytes a.data.toList b.data.toList)
def R3{α β γ:Type}(l:List α)(_:β)(_:γ):O Unit:=if l.length<=1 then some ()else none
def YH{α:Type}(f:α->O Bool):List α->O (List α)
 | []=>some []
 |a ::r=>match f a,YH f r with
  |some b,some s=>some (if b=true then s else a ::s)
  |_,_=>none
def sk(k:Nat):I:=⟨(List.replicate k 48).toArray⟩
def p5(t:I):List Int->O I
 | []=>some t
 |x ::r=>match zk x with
  |some s=>if s.size<=9 then p5 (t++(sk (9-s.size)++s)) r else none
  |none=>none
def Gg(l:List Int):O I:=if l.length<=1000000 then(match l.reverse with
 | []=>some ⟨#[48]⟩
 |a ::r=>match zk a with
  |some t=>p5 t r
  |none=>none)else none
def al(n:Int):List Lf:=[.int .i64 n]
def G3(n:Int):List Lf:=[.int .u8 n]
def xD(n:Nat):List Lf:=[.fn (.func n) []]
def dN(b:Bool):List Lf:=[.bool b]
def bN(s:I):List Lf:=[.str s]
structure aa where
  err:Int
  j7:I
structure aK where
  t:Int
  a:Int
structure a7 where
  aY:Int
  eI:Int
  aJ:Int
  cV:Int
  kD:List aK
  jY:List aK
structure aC where
  bm:List I
  eX:List a7
structure av where
  name:I
  q7:Int
  aY:Int
  eI:Int
  cap:List Int
  cF:Int
  aJ:Int
  bA:Int
  bI:Int
  eu:Int
  bJ:Int
  gA:Int
  cP:Int
  de:Int
structure aS where
  place:Int
  bA:Int
  bI:Int
  dG:Int
structure aw where
  name:I
  load:List Int
  pick:aS
  drop:aS
  cF:Int
  yJ:Int
  split:Int
  cr:Int
  now:Int
  off:Bool
structure aW where
  x0:Int
  x1:Int
structure ae where
  bV:aC
  types:List av
  ai:List aw
  dx:List aW
  before:List aW
structure aG where
  mN:Bool
  qa:I
structure bj where
  x0:I
  x1:I
structure ab where
  aP:Int
  drop:Bool
instance:DecidableEq ab:=λa b=>decidable_of_iff (a.aP=b.aP/\a.drop=b.drop) (by cases a;cases b;simp)
structure ax where
  x:ae
  kind:Int
  t:av
  fZ:List Int
  cR:List I
  tn:Int
structure ag where
  ready:Int
  cz:Int
structure ah where
  place:Int
  memory:Int
  mD:Int
  ak:Int
  load:List Int
  fi:List ag
  value:I
structure DD where
  aY:Int
  eI:Int
  aJ:Int
structure cb where
  y7:Int
  jz:Int
  gY:Int
  K6:Int
structure QaM where
  x0:Int
  x1:Int
  x2:Int
  x3:Int
structure aD where
  bt:Int
  aE:Int
  aH:List Bool
  ak:List ab
structure bu where
  x:ae
  t:av
  r:aD
  aA:List aS
structure a6 where
  iA:Int
  te:Int
  cW:Int
  bJ:Bool
instance:DecidableEq a6:=λa b=>decidable_of_iff (a.iA=b.iA/\a.te=b.te/\a.cW=b.cW/\a.bJ=b.bJ) (by cases a;cases b;simp)
structure a8 where
  bJ:Bool
  cW:Int
  gK:List a6
  j8:Int
  cV:Int
structure aj where
  ready:Int
  cz:Int
  ct:a8
structure aM where
  bt:Int
  b9:Int
  p_:Int
  eG:aD
structure aB where
  ready:Int
  gL:Int
structure aT where
  x:ae
  kind:Int
  b9:Int
  pV:Int
  dw:aM
  dU:Bool
def aa.enc(x:aa):List Lf:=[lI x.err,.str x.j7]
def aK.enc(x:aK):List Lf:=[lI x.t,lI x.a]
def a7.enc(x:a7):List Lf:=[lI x.aY,lI x.eI,lI x.aJ,lI x.cV,lL 2 x.kD aK.enc,lL 2 x.jY aK.enc]
def aC.enc(x:aC):List Lf:=[lL 1 x.bm bN,lL 6 x.eX a7.enc]
def av.enc(x:av):List Lf:=[.str x.name,lI x.q7,lI x.aY,lI x.eI,lL 1 x.cap al,lI x.cF,lI x.aJ,lI x.bA,lI x.bI,lI x.eu,lI x.bJ,lI x.gA,lI x.cP,lI x.de]
def aS.enc(x:aS):List Lf:=[lI x.place,lI x.bA,lI x.bI,lI x.dG]
def aw.enc(x:aw):List Lf:=[.str x.name,lL 1 x.load al,lI x.pick.place,lI x.pick.bA,lI x.pick.bI,lI x.pick.dG,lI x.drop.place,lI x.drop.bA,lI x.drop.bI,lI x.drop.dG,lI x.cF,lI x.yJ,lI x.split,lI x.cr,lI x.now,.bool x.off]
def aW.enc(x:aW):List Lf:=[lI x.x0,lI x.x1]
def ae.enc(x:ae):List Lf:=[lL 1 x.bV.bm bN,lL 6 x.bV.eX a7.enc,lL 14 x.types av.enc,lL 16 x.ai aw.enc,lL 2 x.dx aW.enc,lL 2 x.before aW.enc]
def aG.enc(x:aG):List Lf:=[.bool x.mN,.str x.qa]
def bj.enc(x:bj):List Lf:=[.str x.x0,.str x.x1]
def ab.enc(x:ab):List Lf:=[lI x.aP,.bool x.drop]
def ax.enc(x:ax):List Lf:=[lL 1 x.x.bV.bm bN,lL 6 x.x.bV.eX a7.enc,lL 14 x.x.types av.enc,lL 16 x.x.ai aw.enc,lL 2 x.x.dx aW.enc,lL 2 x.x.before aW.enc,lI x.kind,.str x.t.name,lI x.t.q7,lI x.t.aY,lI x.t.eI,lL 1 x.t.cap al,lI x.t.cF,lI x.t.aJ,lI x.t.bA,lI x.t.bI,lI x.t.eu,lI x.t.bJ,lI x.t.gA,lI x.t.cP,lI x.t.de,lL 1 x.fZ al,lL 1 x.cR bN,lI x.tn]
def ag.enc(x:ag):List Lf:=[lI x.ready,lI x.cz]
def ah.enc(x:ah):List Lf:=[lI x.place,lI x.memory,lI x.mD,lI x.ak,lL 1 x.load al,lL 2 x.fi ag.enc,.str x.value]
def cb.enc(x:cb):List Lf:=[lI x.y7,lI x.jz,lI x.gY,lI x.K6]
def aD.enc(x:aD):List Lf:=[lI x.bt,lI x.aE,lL 1 x.aH dN,lL 2 x.ak ab.enc]
def bu.enc(x:bu):List Lf:=[lL 1 x.x.bV.bm bN,lL 6 x.x.bV.eX a7.enc,lL 14 x.x.types av.enc,lL 16 x.x.ai aw.enc,lL 2 x.x.dx aW.enc,lL 2 x.x.before aW.enc,.str x.t.name,lI x.t.q7,lI x.t.aY,lI x.t.eI,lL 1 x.t.cap al,lI x.t.cF,lI x.t.aJ,lI x.t.bA,lI x.t.bI,lI x.t.eu,lI x.t.bJ,lI x.t.gA,lI x.t.cP,lI x.t.de,lI x.r.bt,lI x.r.aE,lL 1 x.r.aH dN,lL 2 x.r.ak ab.enc,lL 4 x.aA aS.enc]
def a6.enc(x:a6):List Lf:=[lI x.iA,lI x.te,lI x.cW,.bool x.bJ]
def a8.enc(x:a8):List Lf:=[.bool x.bJ,lI x.cW,lL 4 x.gK a6.enc,lI x.j8,lI x.cV]
def aj.enc(x:aj):List Lf:=[lI x.ready,lI x.cz,.bool x.ct.bJ,lI x.ct.cW,lL 4 x.ct.gK a6.enc,lI x.ct.j8,lI x.ct.cV]
def aM.enc(x:aM):List Lf:=[lI x.bt,lI x.b9,lI x.p_,lI x.eG.bt,lI x.eG.aE,lL 1 x.eG.aH dN,lL 2 x.eG.ak ab.enc]
def aB.enc(x:aB):List Lf:=[lI x.ready,lI x.gL]
def aT.enc(x:aT):List Lf:=[lL 1 x.x.bV.bm bN,lL 6 x.x.bV.eX a7.enc,lL 14 x.x.types av.enc,lL 16 x.x.ai aw.enc,lL 2 x.x.dx aW.enc,lL 2 x.x.before aW.enc,lI x.kind,lI x.b9,lI x.pV,lI x.dw.bt,lI x.dw.b9,lI x.dw.p_,lI x.dw.eG.bt,lI x.dw.eG.aE,lL 1 x.dw.eG.aH dN,lL 2 x.dw.eG.ak ab.enc,.bool x.dU]
def mH(l:List Int):List Lf:=[.sl false 1 (l.map al)]
def fC:I:=⟨#[32]⟩
def pP:I:=⟨#[45]⟩
def wi:I:=⟨#[112,108,97,99,101,115]⟩
def ke:I:=⟨#[112,108,97,99,101,32]⟩
def cw:I:=⟨#[97,114,99,32]⟩
def Dw:I:=⟨#[97,114,99,115]⟩
def Ok:I:=⟨#[97,112,97,114,116]⟩
def Lt:I:=⟨#[98,101,102,111,114,101]⟩
def Tu:I:=⟨#[110,101,116]⟩
def XR:I:=⟨#[116,121,112,101,115]⟩
def Uw:I:=⟨#[111,114,100,101,114,115]⟩
def XQ:I:=⟨#[114,117,108,101,115]⟩
def mX:I:=⟨#[47]⟩
def od:I:=⟨#[49]⟩
def bZ:I:=⟨#[48]⟩
def Qcm:I:=⟨#[49,47,50]⟩
def Qcn:I:=⟨#[49,47,51]⟩
def Qco:I:=⟨#[53,47,54]⟩
def yQ:I:=⟨#[48,49,50,51,52,53,54,55,56,57]⟩
def yU(n:Int):O I:=zk n
def n7(word:I)(l l1:List aa)(i:Int)(j7:I):O ((List aa×Int)⊕(List aa)):=aQ (bn l i) λx1=>ft (fQ (l1++[(aa.mk x1.err j7)]).length 24) (some (.inl ((l1++[(aa.mk x1.err j7)]),(aV .i64 i 1))))
def n8(word:I)(l l1:List aa)(i:Int):O ((List aa×Int)⊕(List aa)):=br (bh i (ay l)) (aQ (bn l i) λx0=>br (qe x0.j7 ByteArray.empty) (n7 word l l1 i word) (ft (word.size+fC.size<=9223372036854775807) (ft ((ee word fC).size+x0.j7.size<=9223372036854775807) (n7 word l l1 i (ee (ee word fC) x0.j7))))) (some (.inr l1))
def pb(word:I)(l:List aa):O (List aa):=aQ (aL (λs=>n8 word l s.1 s.2) ([],0)) (λl2=>some l2)
def ji(n:Int)(s0:I)(left d:Int):O ((I×Int×Bool)⊕(I)):=ft ((wC [(Bn .u8 (aV .i64 48 d))]).size+s0.size<=9223372036854775807) (some (.inl ((ee (wC [(Bn .u8 (aV .i64 48 d))]) s0),(q_ .i64 left 10),(cp (q_ .i64 left 10) 0))))
def tS(n:Int)(s0:I)(left:Int)(again:Bool):O ((I×Int×Bool)⊕(I)):=br again (br (bh (wV left 10) 0) (ji n s0 left (cX .i64 0 (wV left 10))) (ji n s0 left (wV left 10))) (some (.inr s0))
def fj(n:Int):O I:=aQ (aL (λs=>tS n s.1 s.2.1 s.2.2) (ByteArray.empty,n,true)) (λs1=>br (bh n 0) (ft (pP.size+s1.size<=9223372036854775807) (some (ee pP s1))) (some s1))
def uU(c:Int):O Bool:=some ((cT c 48)&&(gB c 57))
def xI(c:Int):O Bool:=some ((((cT c 97)&&(gB c 122))||((cT c 65)&&(gB c 90)))||(dk c 95))
def py(s0:I)(b:UInt8)(i:Int):O ((Int)⊕((Unit)⊕(Bool))):=br (bh i (ca s0)) (aQ (y8 s0 i) λb1=>aQ (xI (cQ b1)) λr1=>br r1 (some (.inl (aV .i64 i 1))) (aQ (uU (cQ b1)) λr2=>br r2 (some (.inl (aV .i64 i 1))) (some (.inr (.inr false))))) (some (.inr (.inl ())))
def nD(s0:I):O Bool:=br ((bh (ca s0) 1)||(dt (ca s0) 16)) (some false) (aQ (y8 s0 0) λb=>aQ (uU (cQ b)) λr=>br r (some false) (aQ (aL (λs=>py s0 b s) 0) (λe=>jg e (λ(_:Unit)=>some true) (λr3=>some r3))))
def kG(l:List aK)(i:Int)(x0:aK)(l3:List aa):O ((List aa×Int)⊕(List aa)):=br (dt i 0) (aQ (bn l (cX .i64 i 1)) λx1=>br (gB x0.t x1.t) (aQ (fj i) λr1=>ft (fQ (l3++[(aa.mk 13 r1)]).length 24) (some (.inl ((l3++[(aa.mk 13 r1)]),(aV .i64 i 1))))) (br (bh x0.a x1.a) (aQ (fj i) λr2=>ft (fQ (l3++[(aa.mk 13 r2)]).length 24) (some (.inl ((l3++[(aa.mk 13 r2)]),(aV .i64 i 1))))) (some (.inl (l3,(aV .i64 i 1)))))) (some (.inl (l3,(aV .i64 i 1))))
def kH(l:List aK)(l2:List aa)(i:Int):O ((List aa×Int)⊕(List aa)):=br (bh i (ay l)) (aQ (bn l i) λx0=>br ((((bh x0.t 0)||(dt x0.t 4096))||(bh x0.a x0.t))||(dt x0.a (aV .i64 x0.t 4096))) (aQ (fj i) λr=>ft (fQ (l2++[(aa.mk 2 r)]).length 24) (kG l i x0 (l2++[(aa.mk 2 r)]))) (kG l i x0 l2)) (some (.inr l2))
def nW(l:List aK)(l1:List aa):O (List aa):=aQ (aL (λs=>kH l s.1 s.2) (l1,0)) (λl4=>some l4)
def lU(l:List aK):O (List aa):=br ((bh (ay l) 1)||(dt (ay l) 16)) (ft (fQ [(aa.mk 4 ByteArray.empty)].length 24) (nW l [(aa.mk 4 ByteArray.empty)])) (nW l [])
def qg(t:Int):O Bool:=some ((cT t 0)&&(gB t 4096))
def gi(n:aC)(i:Int)(r:I)(x0:a7)(l l1:List aa)(oY:Bool)(k:Int):O ((Bool×Int)⊕(Bool)):=br (bh k i) (aQ (bn n.eX k) λx1=>some (.inl ((oY||(((dk x0.aY x1.aY)&&(dk x0.eI x1.eI))&&(dk x0.aJ x1.aJ))),(aV .i64 k 1)))) (some (.inr oY))
def gj(r:I)(x0:a7)(l r1 l3:List aa)(k1:Int):O ((List aa×Int)⊕(List aa)):=br (bh k1 (ay r1)) (aQ (bn r1 k1) λx2=>ft (fQ (l3++[(aa.mk x2.err (ee cw r))]).length 24) (some (.inl ((l3++[(aa.mk x2.err (ee cw r))]),(aV .i64 k1 1))))) (some (.inr l3))
def gk(r:I)(x0:a7)(l l6:List aa)(k2:Int):O ((List aa×Int)⊕(List aa)):=br (bh k2 (ay x0.jY)) (aQ (bn x0.jY k2) λx3=>aQ (qg x3.t) λr2=>br r2 (aQ (qg x3.a) λr3=>br r3 (br (dt k2 0) (aQ (bn x0.jY (cX .i64 k2 1)) λx4=>br (gB x3.t x4.t) (ft (fQ (l6++[(aa.mk 2 (ee cw r))]).length 24) (some (.inl ((l6++[(aa.mk 2 (ee cw r))]),(aV .i64 k2 1))))) (some (.inl (l6,(aV .i64 k2 1))))) (some (.inl (l6,(aV .i64 k2 1))))) (ft (fQ (l6++[(aa.mk 2 (ee cw r))]).length 24) (some (.inl ((l6++[(aa.mk 2 (ee cw r))]),(aV .i64 k2 1)))))) (ft (fQ (l6++[(aa.mk 2 (ee cw r))]).length 24) (some (.inl ((l6++[(aa.mk 2 (ee cw r))]),(aV .i64 k2 1)))))) (some (.inr l6))
def gh(r:I)(x0:a7)(l l5:List aa):O (List aa):=aQ (aL (λs=>gk r x0 l s.1 s.2) (l5,0)) (λl7=>some l7)
def iE(r:I)(x0:a7)(l l2:List aa):O (List aa):=aQ (lU x0.kD) λr1=>aQ (aL (λs=>gj r x0 l r1 s.1 s.2) (l2,0)) (λl4=>br (dt (ay x0.jY) 16) (ft (fQ (l4++[(aa.mk 4 (ee cw r))]).length 24) (gh r x0 l (l4++[(aa.mk 4 (ee cw r))]))) (gh r x0 l l4))
def iD(n:aC)(i:Int)(r:I)(x0:a7)(l l1:List aa):O (List aa):=aQ (aL (λs=>gi n i r x0 l l1 s.1 s.2) (false,0)) (λsZ=>br sZ (ft (fQ (l1++[(aa.mk 6 (ee cw r))]).length 24) (iE r x0 l (l1++[(aa.mk 6 (ee cw r))]))) (iE r x0 l l1))
def iC(n:aC)(i:Int)(r:I)(x0:a7)(l:List aa):O (List aa):=br (((((bh x0.aJ 0)||(dt x0.aJ 7))||(bh x0.cV 0))||(dt x0.cV 10000))||(dk x0.aY x0.eI)) (ft (fQ (l++[(aa.mk 2 (ee cw r))]).length 24) (iD n i r x0 l (l++[(aa.mk 2 (ee cw r))]))) (iD n i r x0 l l)
def nY(n:aC)(i:Int):O (List aa):=aQ (fj i) λr=>ft (cw.size+r.size<=9223372036854775807) (aQ (bn n.eX i) λx0=>br ((((bh x0.aY 0)||(cT x0.aY (ay n.bm)))||(bh x0.eI 0))||(cT x0.eI (ay n.bm))) (ft (fQ [(aa.mk 11 (ee cw r))].length 24) (iC n i r x0 [(aa.mk 11 (ee cw r))])) (iC n i r x0 []))
def eB(n:aC)(l l1:List aa)(i:Int)(r:I)(oY:Bool)(k:Int):O ((Bool×Int)⊕(Bool)):=br (bh k i) (br oY (some (.inl (true,(aV .i64 k 1)))) (aQ (bn n.bm k) λx1=>aQ (bn n.bm i) λx2=>some (.inl ((qe x1 x2),(aV .i64 k 1))))) (some (.inr oY))
def eA(n:aC)(l l1:List aa)(i:Int):O ((List aa×Int)⊕(List aa)):=br (bh i (ay n.bm)) (aQ (fj i) λr=>ft (ke.size+r.size<=9223372036854775807) (aQ (bn n.bm i) λx0=>aQ (nD x0) λr1=>br r1 (aQ (aL (λs=>eB n l l1 i r s.1 s.2) (false,0)) (λsZ=>br sZ (ft (fQ (l1++[(aa.mk 6 (ee ke r))]).length 24) (some (.inl ((l1++[(aa.mk 6 (ee ke r))]),(aV .i64 i 1))))) (some (.inl (l1,(aV .i64 i 1)))))) (ft (fQ (l1++[(aa.mk 5 (ee ke r))]).length 24) (some (.inl ((l1++[(aa.mk 5 (ee ke r))]),(aV .i64 i 1))))))) (some (.inr l1))
def fY(n:aC)(l:List aa):O (List aa):=aQ (aL (λs=>eA n l s.1 s.2) (l,0)) (λl2=>some l2)
def ia(n:aC):O (List aa):=br (dt (ay n.bm) 24) (ft (fQ [(aa.mk 4 wi)].length 24) (fY n [(aa.mk 4 wi)])) (fY n [])
def iP(n:aC)(l l1:List aa)(i:Int):O ((List aa×Int)⊕(List aa)):=br (bh i (ay n.eX)) (aQ (nY n i) λr1=>ft (fQ (l1++r1).length 24) (some (.inl ((l1++r1),(aV .i64 i 1))))) (some (.inr l1))
def nX(n:aC)(l:List aa):O (List aa):=aQ (aL (λs=>iP n l s.1 s.2) (l,0)) (λl2=>some l2)
def rK(n:aC):O (List aa):=aQ (ia n) λr=>br (dt (ay n.eX) 1024) (ft (fQ (r++[(aa.mk 4 Dw)]).length 24) (nX n (r++[(aa.mk 4 Dw)]))) (nX n r)
def ch(n lo hi:Int):O Bool:=some ((cT n lo)&&(gB n hi))
def nE(l:List av):O Int:=br (dk (ay l) 0) (some 0) (aQ (bn l 0) λx0=>some (ay x0.cap))
def gE(l:List av)(j7:Int)(name:I)(i:Int):O ((Int)⊕((Unit)⊕(Bool))):=br (bh i j7) (aQ (bn l i) λx0=>br (qe x0.name name) (some (.inr (.inr true))) (some (.inl (aV .i64 i 1)))) (some (.inr (.inl ())))
def rM(l:List av)(j7:Int)(name:I):O Bool:=aQ (aL (λs=>gE l j7 name s) 0) (λe=>jg e (λ(_:Unit)=>some false) (λr=>some r))
def fx(l:List Int)(i:Int):O ((Int)⊕((Unit)⊕(Bool))):=br (bh i (ay l)) (aQ (bn l i) λx0=>aQ (ch x0 0 1000) λr1=>br r1 (some (.inl (aV .i64 i 1))) (some (.inr (.inr false)))) (some (.inr (.inl ())))
def kJ(l:List Int)(dS:Int):O Bool:=aQ (ch (ay l) 1 3) λr=>br ((!r)||(cp (ay l) dS)) (some false) (aQ (aL (λs=>fx l s) 0) (λe=>jg e (λ(_:Unit)=>some true) (λr2=>some r2)))
def kR(x0:av)(l8:List Int):O (List Int):=aQ (ch x0.aJ 0 7) λHI=>br HI (aQ (ch x0.gA 0 100000) λr12=>br r12 (aQ (ch x0.cP 0 100) λr13=>br r13 (aQ (ch x0.de 0 100) λr14=>br r14 (some l8) (ft (fQ (l8++[2]).length 8) (some (l8++[2])))) (ft (fQ (l8++[2]).length 8) (some (l8++[2])))) (ft (fQ (l8++[2]).length 8) (some (l8++[2])))) (ft (fQ (l8++[2]).length 8) (some (l8++[2])))
def kQ(x0:av)(l7:List Int):O (List Int):=aQ (ch x0.eu 1 4096) λr9=>br r9 (aQ (ch x0.bJ 0 4096) λwK=>br wK (kR x0 l7) (ft (fQ (l7++[16]).length 8) (kR x0 (l7++[16])))) (ft (fQ (l7++[16]).length 8) (aQ (ch x0.aJ 0 7) λML=>br ML (aQ (ch x0.gA 0 100000) λr16=>br r16 (aQ (ch x0.cP 0 100) λr17=>br r17 (aQ (ch x0.de 0 100) λr18=>br r18 (some (l7++[16])) (ft (fQ ((l7++[16])++[2]).length 8) (some ((l7++[16])++[2])))) (ft (fQ ((l7++[16])++[2]).length 8) (some ((l7++[16])++[2])))) (ft (fQ ((l7++[16])++[2]).length 8) (some ((l7++[16])++[2])))) (ft (fQ ((l7++[16])++[2]).length 8) (some ((l7++[16])++[2])))))
def kP(x0:av)(l6:List Int):O (List Int):=aQ (ch x0.bA 0 x0.bI) λr8=>br ((!r8)||(dt x0.bI 4096)) (ft (fQ (l6++[15]).length 8) (kQ x0 (l6++[15]))) (kQ x0 l6)
def kO(x0:av)(l5:List Int):O (List Int):=aQ (ch x0.cF 0 1073741823) λr7=>br r7 (kP x0 l5) (ft (fQ (l5++[18]).length 8) (kP x0 (l5++[18])))
def kN(l:List av)(x0:av)(l4:List Int):O (List Int):=aQ (nE l) λr5=>aQ (kJ x0.cap r5) λr6=>br r6 (kO x0 l4) (ft (fQ (l4++[17]).length 8) (kO x0 (l4++[17])))
def qC(x0:av)(LO:List Int):O (List Int):=aQ (ch x0.aJ 0 7) λr25=>br r25 (aQ (ch x0.gA 0 100000) λr26=>br r26 (aQ (ch x0.cP 0 100) λr27=>br r27 (aQ (ch x0.de 0 100) λr28=>br r28 (some LO) (ft (fQ (LO++[2]).length 8) (some (LO++[2])))) (ft (fQ (LO++[2]).length 8) (some (LO++[2])))) (ft (fQ (LO++[2]).length 8) (some (LO++[2])))) (ft (fQ (LO++[2]).length 8) (some (LO++[2])))
def qB(x0:av)(MK:List Int):O (List Int):=aQ (ch x0.eu 1 4096) λr23=>br r23 (aQ (ch x0.bJ 0 4096) λr24=>br r24 (qC x0 MK) (ft (fQ (MK++[16]).length 8) (qC x0 (MK++[16])))) (ft (fQ (MK++[16]).length 8) (aQ (ch x0.aJ 0 7) λr29=>br r29 (aQ (ch x0.gA 0 100000) λr30=>br r30 (aQ (ch x0.cP 0 100) λr31=>br r31 (aQ (ch x0.de 0 100) λr32=>br r32 (some (MK++[16])) (ft (fQ ((MK++[16])++[2]).length 8) (some ((MK++[16])++[2])))) (ft (fQ ((MK++[16])++[2]).length 8) (some ((MK++[16])++[2])))) (ft (fQ ((MK++[16])++[2]).length 8) (some ((MK++[16])++[2])))) (ft (fQ ((MK++[16])++[2]).length 8) (some ((MK++[16])++[2])))))
def qA(x0:av)(l10:List Int):O (List Int):=aQ (ch x0.bA 0 x0.bI) λr22=>br ((!r22)||(dt x0.bI 4096)) (ft (fQ (l10++[15]).length 8) (qB x0 (l10++[15]))) (qB x0 l10)
def rj(x0:av)(l9:List Int):O (List Int):=aQ (ch x0.cF 0 1073741823) λr21=>br r21 (qA x0 l9) (ft (fQ (l9++[18]).length 8) (qA x0 (l9++[18])))
def kM(n:aC)(l:List av)(x0:av)(l3:List Int):O (List Int):=aQ (ch x0.aY 0 (cX .i64 (ay n.bm) 1)) λr3=>br r3 (aQ (ch x0.eI 0 (cX .i64 (ay n.bm) 1)) λr4=>br r4 (kN l x0 l3) (ft (fQ (l3++[11]).length 8) (kN l x0 (l3++[11])))) (ft (fQ (l3++[11]).length 8) (aQ (nE l) λPr=>aQ (kJ x0.cap Pr) λr20=>br r20 (rj x0 (l3++[11])) (ft (fQ ((l3++[11])++[17]).length 8) (rj x0 ((l3++[11])++[17])))))
def kL(n:aC)(l:List av)(x0:av)(l2:List Int):O (List Int):=aQ (ch x0.q7 0 10) λr2=>br r2 (kM n l x0 l2) (ft (fQ (l2++[22]).length 8) (kM n l x0 (l2++[22])))
def kK(n:aC)(l:List av)(j7:Int)(x0:av)(l1:List Int):O (List Int):=aQ (rM l j7 x0.name) λr1=>br r1 (ft (fQ (l1++[6]).length 8) (kL n l x0 (l1++[6]))) (kL n l x0 l1)
def rN(n:aC)(l:List av)(j7:Int):O (List Int):=aQ (bn l j7) λx0=>aQ (nD x0.name) λr=>br r (kK n l j7 x0 []) (ft (fQ [5].length 8) (kK n l j7 x0 [5]))
def vE(n:aC)(l:List av)(i:Int)(r1:List Int)(l3:List aa)(k:Int):O ((List aa×Int)⊕(List aa)):=br (bh k (ay r1)) (aQ (bn r1 k) λx0=>aQ (fj i) λr2=>ft (fQ (l3++[(aa.mk x0 r2)]).length 24) (some (.inl ((l3++[(aa.mk x0 r2)]),(aV .i64 k 1))))) (some (.inr l3))
def iQ(n:aC)(l:List av)(l2:List aa)(i:Int):O ((List aa×Int)⊕(List aa)):=br (bh i (ay l)) (aQ (rN n l i) λr1=>aQ (aL (λs=>vE n l i r1 s.1 s.2) (l2,0)) (λl4=>some (.inl (l4,(aV .i64 i 1))))) (some (.inr l2))
def nZ(n:aC)(l:List av)(l1:List aa):O (List aa):=aQ (aL (λs=>iQ n l s.1 s.2) (l1,0)) (λl5=>some l5)
def rL(n:aC)(l:List av):O (List aa):=aQ (ch (ay l) 1 6) λr=>br r (nZ n l []) (ft (fQ [(aa.mk 4 ByteArray.empty)].length 24) (nZ n l [(aa.mk 4 ByteArray.empty)]))
def gD(a:List Int)(i:Int):O ((Int)⊕((Unit)⊕(Bool))):=br (bh i (ay a)) (aQ (bn a i) λx0=>br (bh x0 0) (some (.inr (.inr false))) (br (dt x0 1000) (some (.inr (.inr false))) (some (.inl (aV .i64 i 1))))) (some (.inr (.inl ())))
def pa(a:List Int)(dS:Int):O Bool:=br (cp (ay a) dS) (some false) (aQ (aL (λs=>gD a s) 0) (λe=>jg e (λ(_:Unit)=>some true) (λr=>some r)))
def e_(n low high:Int):O Bool:=some ((cT n low)&&(gB n high))
def jL(s0:aS):O Int:=br ((((dk s0.place (-1))&&(dk s0.bA 0))&&(dk s0.bI 0))&&(dk s0.dG 0)) (some 0) (br ((((((bh s0.place 0)||(bh s0.bA 0))||(dt s0.bA s0.bI))||(dt s0.bI 4096))||(bh s0.dG 0))||(dt s0.dG 4096)) (some 2) (some 0))
def gH(bm dS types:Int)(l:List aw)(j7:Int)(x0:aw)(l1:List Int)(i:Int):O ((Int)⊕(List Int)):=br (bh i j7) (aQ (bn l i) λx1=>br (qe x1.name x0.name) (ft (fQ (l1++[6]).length 8) (some (.inr (l1++[6])))) (some (.inl (aV .i64 i 1)))) (some (.inr l1))
def kV(types:Int)(x0:aw)(l6:List Int):O (List Int):=aQ (e_ x0.yJ (-1) 1000000) λr6=>br r6 (aQ (e_ x0.split 1 4) λr7=>br ((((((!r7)||((dt x0.split 1)&&((cp x0.pick.place (-1))&&(cp x0.drop.place (-1)))))||(bh x0.cr (-1)))||(cT x0.cr types))||(bh x0.now (-1)))||(cT x0.now types)) (ft (fQ (l6++[2]).length 8) (some (l6++[2]))) (some l6)) (ft (fQ (l6++[2]).length 8) (some (l6++[2])))
def rk(types:Int)(x0:aw)(l8:List Int):O (List Int):=aQ (e_ x0.yJ (-1) 1000000) λwK=>br wK (aQ (e_ x0.split 1 4) λHI=>br ((((((!HI)||((dt x0.split 1)&&((cp x0.pick.place (-1))&&(cp x0.drop.place (-1)))))||(bh x0.cr (-1)))||(cT x0.cr types))||(bh x0.now (-1)))||(cT x0.now types)) (ft (fQ (l8++[2]).length 8) (some (l8++[2]))) (some l8)) (ft (fQ (l8++[2]).length 8) (some (l8++[2])))
def kW(types:Int)(x0:aw)(l7:List Int):O (List Int):=aQ (e_ x0.cF 0 1073741823) λr9=>br r9 (rk types x0 l7) (ft (fQ (l7++[18]).length 8) (rk types x0 (l7++[18])))
def kU(types:Int)(x0:aw)(l5:List Int):O (List Int):=aQ (jL x0.pick) λr4=>br (cp r4 0) (ft (fQ (l5++[14]).length 8) (aQ (e_ x0.cF 0 1073741823) λr5=>br r5 (kV types x0 (l5++[14])) (ft (fQ ((l5++[14])++[18]).length 8) (kV types x0 ((l5++[14])++[18]))))) (aQ (jL x0.drop) λr8=>br (cp r8 0) (ft (fQ (l5++[14]).length 8) (kW types x0 (l5++[14]))) (kW types x0 l5))
def kT(types:Int)(x0:aw)(l4:List Int):O (List Int):=br ((dk x0.pick.place (-1))&&(dk x0.drop.place (-1))) (ft (fQ (l4++[19]).length 8) (kU types x0 (l4++[19]))) (kU types x0 l4)
def rq(types:Int)(x0:aw)(l10:List Int):O (List Int):=aQ (e_ x0.yJ (-1) 1000000) λr14=>br r14 (aQ (e_ x0.split 1 4) λML=>br ((((((!ML)||((dt x0.split 1)&&((cp x0.pick.place (-1))&&(cp x0.drop.place (-1)))))||(bh x0.cr (-1)))||(cT x0.cr types))||(bh x0.now (-1)))||(cT x0.now types)) (ft (fQ (l10++[2]).length 8) (some (l10++[2]))) (some l10)) (ft (fQ (l10++[2]).length 8) (some (l10++[2])))
def qF(types:Int)(x0:aw)(LO:List Int):O (List Int):=aQ (e_ x0.yJ (-1) 1000000) λr18=>br r18 (aQ (e_ x0.split 1 4) λPr=>br ((((((!Pr)||((dt x0.split 1)&&((cp x0.pick.place (-1))&&(cp x0.drop.place (-1)))))||(bh x0.cr (-1)))||(cT x0.cr types))||(bh x0.now (-1)))||(cT x0.now types)) (ft (fQ (LO++[2]).length 8) (some (LO++[2]))) (some LO)) (ft (fQ (LO++[2]).length 8) (some (LO++[2])))
def qD(types:Int)(x0:aw)(MK:List Int):O (List Int):=aQ (e_ x0.cF 0 1073741823) λr17=>br r17 (qF types x0 MK) (ft (fQ (MK++[18]).length 8) (qF types x0 (MK++[18])))
def rm(types:Int)(x0:aw)(l9:List Int):O (List Int):=aQ (jL x0.pick) λr12=>br (cp r12 0) (ft (fQ (l9++[14]).length 8) (aQ (e_ x0.cF 0 1073741823) λr13=>br r13 (rq types x0 (l9++[14])) (ft (fQ ((l9++[14])++[18]).length 8) (rq types x0 ((l9++[14])++[18]))))) (aQ (jL x0.drop) λr16=>br (cp r16 0) (ft (fQ (l9++[14]).length 8) (qD types x0 (l9++[14]))) (qD types x0 l9))
def gF(bm types:Int)(x0:aw)(l3:List Int):O (List Int):=aQ (e_ x0.pick.place (-1) (cX .i64 bm 1)) λr2=>br r2 (aQ (e_ x0.drop.place (-1) (cX .i64 bm 1)) λr3=>br r3 (kT types x0 l3) (ft (fQ (l3++[11]).length 8) (kT types x0 (l3++[11])))) (ft (fQ (l3++[11]).length 8) (br ((dk x0.pick.place (-1))&&(dk x0.drop.place (-1))) (ft (fQ ((l3++[11])++[19]).length 8) (rm types x0 ((l3++[11])++[19]))) (rm types x0 (l3++[11]))))
def kS(bm dS types:Int)(l:List aw)(j7:Int)(x0:aw)(l1:List Int):O (List Int):=aQ (aL (λs=>gH bm dS types l j7 x0 l1 s) 0) (λl2=>aQ (pa x0.load dS) λr1=>br r1 (gF bm types x0 l2) (ft (fQ (l2++[17]).length 8) (gF bm types x0 (l2++[17]))))
def rP(bm dS types:Int)(l:List aw)(j7:Int):O (List Int):=aQ (bn l j7) λx0=>aQ (nD x0.name) λr=>br r (kS bm dS types l j7 x0 []) (ft (fQ [5].length 8) (kS bm dS types l j7 x0 [5]))
def vF(n:aC)(dS types:Int)(l:List aw)(i:Int)(r:List Int)(l3:List aa)(k:Int):O ((List aa×Int)⊕(List aa)):=br (bh k (ay r)) (aQ (bn r k) λx0=>aQ (fj i) λr1=>ft (fQ (l3++[(aa.mk x0 r1)]).length 24) (some (.inl ((l3++[(aa.mk x0 r1)]),(aV .i64 k 1))))) (some (.inr l3))
def iR(n:aC)(dS types:Int)(l:List aw)(l2:List aa)(i:Int):O ((List aa×Int)⊕(List aa)):=br (bh i (ay l)) (aQ (rP (ay n.bm) dS types l i) λr=>aQ (aL (λs=>vF n dS types l i r s.1 s.2) (l2,0)) (λl4=>some (.inl (l4,(aV .i64 i 1))))) (some (.inr l2))
def n5(n:aC)(dS types:Int)(l:List aw)(l1:List aa):O (List aa):=aQ (aL (λs=>iR n dS types l s.1 s.2) (l1,0)) (λl5=>some l5)
def rO(n:aC)(dS types:Int)(l:List aw):O (List aa):=br (dt (ay l) 10) (ft (fQ [(aa.mk 4 ByteArray.empty)].length 24) (n5 n dS types l [(aa.mk 4 ByteArray.empty)])) (n5 n dS types l [])
def lD(n1:Int)(s0:I):O ((Int×I)⊕(Int×I)):=br (cT n1 10) (ft ((wC [(Bn .u8 (aV .i64 48 (wV n1 10)))]).size+s0.size<=9223372036854775807) (some (.inl ((q_ .i64 n1 10),(ee (wC [(Bn .u8 (aV .i64 48 (wV n1 10)))]) s0))))) (some (.inr (n1,s0)))
def lV(n:Int):O I:=aQ (aL (λs=>lD s.1 s.2) (n,ByteArray.empty)) (λe0=>(λn2 s1=>ft ((wC [(Bn .u8 (aV .i64 48 n2))]).size+s1.size<=9223372036854775807) (some (ee (wC [(Bn .u8 (aV .i64 48 n2))]) s1))) e0.1 e0.2)
def mL(ai:Int)(l:List aW)(word:I)(dp:Bool)(l2:List aa)(i:Int)(x0:aW)(r:I)(oY:Bool)(k:Int):O ((Bool×Int)⊕(Bool)):=br (bh k i) (br oY (some (.inl (true,(aV .i64 k 1)))) (aQ (bn l k) λx1=>br (dk x1.x0 x0.x0) (br (dk x1.x1 x0.x1) (some (.inl (true,(aV .i64 k 1)))) (br dp (br (dk x1.x0 x0.x1) (some (.inl ((dk x1.x1 x0.x0),(aV .i64 k 1)))) (some (.inl (false,(aV .i64 k 1))))) (some (.inl (false,(aV .i64 k 1)))))) (br dp (br (dk x1.x0 x0.x1) (some (.inl ((dk x1.x1 x0.x0),(aV .i64 k 1)))) (some (.inl (false,(aV .i64 k 1))))) (some (.inl (false,(aV .i64 k 1))))))) (some (.inr oY))
def ib(ai:Int)(l:List aW)(word:I)(dp:Bool)(l2:List aa)(i:Int):O ((List aa×Int)⊕(List aa)):=br (bh i (ay l)) (aQ (bn l i) λx0=>ft (word.size+fC.size<=9223372036854775807) (aQ (lV i) λr=>ft ((ee word fC).size+r.size<=9223372036854775807) (br (((((bh x0.x0 0)||(cT x0.x0 ai))||(bh x0.x1 0))||(cT x0.x1 ai))||(dk x0.x0 x0.x1)) (ft (fQ (l2++[(aa.mk 2 (ee (ee word fC) r))]).length 24) (some (.inl ((l2++[(aa.mk 2 (ee (ee word fC) r))]),(aV .i64 i 1))))) (aQ (aL (λs=>mL ai l word dp l2 i x0 r s.1 s.2) (false,0)) (λsZ=>br sZ (ft (fQ (l2++[(aa.mk 6 (ee (ee word fC) r))]).length 24) (some (.inl ((l2++[(aa.mk 6 (ee (ee word fC) r))]),(aV .i64 i 1))))) (some (.inl (l2,(aV .i64 i 1))))))))) (some (.inr l2))
def mK(ai:Int)(l:List aW)(word:I)(dp:Bool)(l1:List aa):O (List aa):=aQ (aL (λs=>ib ai l word dp s.1 s.2) (l1,0)) (λl3=>some l3)
def qG(ai:Int)(l:List aW)(word:I)(dp:Bool):O (List aa):=br (dt (ay l) 16) (ft (fQ [(aa.mk 4 word)].length 24) (mK ai l word dp [(aa.mk 4 word)])) (mK ai l word dp [])
def qT(ai:Int)(l:List aW)(word:I)(dp:Bool)(l2:List aa)(i:Int)(x0:aW)(r:I)(oY:Bool)(k:Int):O ((Bool×Int)⊕(Bool)):=br (bh k i) (br oY (some (.inl (true,(aV .i64 k 1)))) (aQ (bn l k) λx1=>br (dk x1.x0 x0.x0) (br (dk x1.x1 x0.x1) (some (.inl (true,(aV .i64 k 1)))) (br dp (br (dk x1.x0 x0.x1) (some (.inl ((dk x1.x1 x0.x0),(aV .i64 k 1)))) (some (.inl (false,(aV .i64 k 1))))) (some (.inl (false,(aV .i64 k 1)))))) (br dp (br (dk x1.x0 x0.x1) (some (.inl ((dk x1.x1 x0.x0),(aV .i64 k 1)))) (some (.inl (false,(aV .i64 k 1))))) (some (.inl (false,(aV .i64 k 1))))))) (some (.inr oY))
def qS(ai:Int)(l:List aW)(word:I)(dp:Bool)(l2:List aa)(i:Int):O ((List aa×Int)⊕(List aa)):=br (bh i (ay l)) (aQ (bn l i) λx0=>ft (word.size+fC.size<=9223372036854775807) (aQ (lV i) λr=>ft ((ee word fC).size+r.size<=9223372036854775807) (br (((((bh x0.x0 0)||(cT x0.x0 ai))||(bh x0.x1 0))||(cT x0.x1 ai))||(dk x0.x0 x0.x1)) (ft (fQ (l2++[(aa.mk 2 (ee (ee word fC) r))]).length 24) (some (.inl ((l2++[(aa.mk 2 (ee (ee word fC) r))]),(aV .i64 i 1))))) (aQ (aL (λs=>qT ai l word dp l2 i x0 r s.1 s.2) (false,0)) (λsZ=>br sZ (ft (fQ (l2++[(aa.mk 6 (ee (ee word fC) r))]).length 24) (some (.inl ((l2++[(aa.mk 6 (ee (ee word fC) r))]),(aV .i64 i 1))))) (some (.inl (l2,(aV .i64 i 1))))))))) (some (.inr l2))
def mn(ai:Int)(l:List aW)(word:I)(dp:Bool)(l1:List aa):O (List aa):=aQ (aL (λs=>qS ai l word dp s.1 s.2) (l1,0)) (λl3=>some l3)
def tU(ai:Int)(l:List aW)(word:I)(dp:Bool):O (List aa):=br (dt (ay l) 16) (ft (fQ [(aa.mk 4 word)].length 24) (mn ai l word dp [(aa.mk 4 word)])) (mn ai l word dp [])
def rQ(ai:Int)(dx before:List aW):O (List aa):=aQ (tU ai dx Ok true) λr=>aQ (qG ai before Lt false) λr1=>ft (fQ (r++r1).length 24) (some (r++r1))
def nt(word:I)(l l1:List aa)(i:Int)(j7:I):O ((List aa×Int)⊕(List aa)):=aQ (bn l i) λx1=>ft (fQ (l1++[(aa.mk x1.err j7)]).length 24) (some (.inl ((l1++[(aa.mk x1.err j7)]),(aV .i64 i 1))))
def rS(word:I)(l l1:List aa)(i:Int):O ((List aa×Int)⊕(List aa)):=br (bh i (ay l)) (aQ (bn l i) λx0=>br (qe x0.j7 ByteArray.empty) (nt word l l1 i word) (ft (word.size+fC.size<=9223372036854775807) (ft ((ee word fC).size+x0.j7.size<=9223372036854775807) (nt word l l1 i (ee (ee word fC) x0.j7))))) (some (.inr l1))
def qH(word:I)(l:List aa):O (List aa):=aQ (aL (λs=>rS word l s.1 s.2) ([],0)) (λl2=>some l2)
def rR(x0:ae):O (List aa):=aQ (rK x0.bV) λr=>aQ (qH Tu r) λr1=>aQ (rL x0.bV x0.types) λr2=>aQ (pb XR r2) λr3=>ft (fQ (r1++r3).length 24) (aQ (nE x0.types) λr4=>aQ (rO x0.bV r4 (ay x0.types) x0.ai) λr5=>aQ (pb Uw r5) λr6=>ft (fQ ((r1++r3)++r6).length 24) (aQ (rQ (ay x0.ai) x0.dx x0.before) λr7=>aQ (pb XQ r7) λr8=>ft (fQ (((r1++r3)++r6)++r8).length 24) (some (((r1++r3)++r6)++r8))))
def th(x0:ae)(ai:Int):O Bool:=br ((((((gB (ay x0.ai) ai)&&(gB (ay x0.types) 2))&&(gB (ay x0.bV.bm) 6))&&(gB (ay x0.bV.eX) 40))&&(gB (ay x0.dx) 4))&&(gB (ay x0.before) 4)) (aQ (rR x0) λr=>some (dk (ay r) 0)) (some false)
def tG(s0 sep:I):O (I×I×Bool):=aQ (Qh1 s0 sep) λr=>br (cT r 0) (aQ (xu s0 0 r) λs1=>aQ (xu s0 (aV .i64 r (ca sep)) (ca s0)) λs2=>some ((s0.extract (0:Int).toNat (r:Int).toNat),(s0.extract ((aV .i64 r (ca sep)):Int).toNat ((ca s0):Int).toNat),true)) (some (s0,ByteArray.empty,false))
def AE(s0 sep:I):O (I×I×Bool):=aQ (tG s0 sep) λr=>some (r.1,r.2.1,r.2.2)
def mO(a:I):O (I×I):=aQ (AE a mX) λr=>br r.2.2 (some (r.1,r.2.1)) (some (r.1,od))
def qJ(s0:I)(b:UInt8)(v:Int):O ((Int)⊕((Unit)⊕(Bool))):=br (bh v (ca s0)) (aQ (y8 s0 v) λb1=>br (bh (cQ b1) 48) (some (.inr (.inr false))) (br (dt (cQ b1) 57) (some (.inr (.inr false))) (some (.inl (aV .i64 v 1))))) (some (.inr (.inl ())))
def nv(s0:I):O Bool:=br (qe s0 ByteArray.empty) (some false) (aQ (y8 s0 0) λb=>br ((dk (cQ b) 48)&&(!qe s0 bZ)) (some false) (aQ (aL (λs=>qJ s0 b s) 0) (λe=>jg e (λ(_:Unit)=>some true) (λr=>some r))))
def stringslite_HasPrefix(s0 gp:I):O Bool:=br (cT (ca s0) (ca gp)) (aQ (xu s0 0 (ca gp)) λs1=>some (qe (s0.extract (0:Int).toNat ((ca gp):Int).toNat) gp)) (some false)
def p8(s0 gp:I):O (I×Bool):=aQ (stringslite_HasPrefix s0 gp) λr=>br r (aQ (xu s0 (ca gp) (ca s0)) λs1=>some ((s0.extract ((ca gp):Int).toNat ((ca s0):Int).toNat),true)) (some (s0,false))
def qP(s0 gp:I):O (I×Bool):=aQ (p8 s0 gp) λr=>some (r.1,r.2)
def oZ(s0:I):O (Bool×I×Bool):=aQ (qP s0 pP) λr=>aQ (nv r.1) λr1=>some (r.2,r.1,(r1&&(!(r.2&&(qe r.1 bZ)))))
def xo(s0:I):O Bool:=aQ (oZ s0) λr=>some r.2.2
def stringslite_TrimPrefix(s0 gp:I):O I:=aQ (stringslite_HasPrefix s0 gp) λr=>br r (aQ (xu s0 (ca gp) (ca s0)) λs1=>some (s0.extract ((ca gp):Int).toNat ((ca s0):Int).toNat)) (some s0)
def strings_TrimPrefix(s0 gp:I):O I:=aQ (stringslite_TrimPrefix s0 gp) λr=>some r
def sU(s0:I):O Int:=aQ (strings_TrimPrefix s0 pP) λr=>some (ca r)
def wo(s0 substr:I):O Int:=aQ (Qh1 s0 substr) λr=>some r
def iL(s0 substr:I):O Bool:=aQ (wo s0 substr) λr=>some (cT r 0)
def pN(a1:List Int):O ((List Int)⊕(List Int)):=br (dt (ay a1) 0) (aQ (bn a1 (cX .i64 (ay a1) 1)) λx0=>br (dk x0 0) (aQ (wm a1 0 (cX .i64 (ay a1) 1)) λl=>some (.inl l)) (some (.inr a1))) (some (.inr a1))
def fP(a:List Int):O (List Int):=aQ (aL (λs=>pN s) a) (λa2=>some a2)
def qK(l:List Int)(s1:I)(Qig i:Int):O ((Int×Int)⊕(Int)):=br (bh i (ca s1)) (aQ (y8 s1 i) λb=>some (.inl ((aV .i64 (nh .i64 10 Qig) (Bn .i64 (cX .u8 (cQ b) 48))),(aV .i64 i 1)))) (some (.inr Qig))
def uy(l:List Int)(s1:I):O ((List Int×I)⊕(List Int)):=br (dt (ca s1) 0) (aQ (aL (λs=>qK l s1 s.1 s.2) (0,(vZ 0 (cX .i64 (ca s1) 9)))) (λVo=>ft (fQ (l++[Vo]).length 8) (aQ (xu s1 0 (vZ 0 (cX .i64 (ca s1) 9))) λs2=>some (.inl ((l++[Vo]),(s1.extract (0:Int).toNat ((vZ 0 (cX .i64 (ca s1) 9)):Int).toNat)))))) (some (.inr l))
def ES(s0:I):O (List Int):=aQ (aL (λs=>uy s.1 s.2) ([],s0)) (λl1=>aQ (fP l1) λr=>some r)
def Bv(a b:I):O (List Int×List Int×Int):=aQ (nv a) λr=>br r (aQ (nv b) λr1=>br r1 (br ((dt (ca a) 4096)||(dt (ca b) 4096)) (some ([],[],4)) (aQ (ES a) λr2=>aQ (ES b) λr3=>some (r2,r3,0))) (some ([],[],3))) (some ([],[],3))
def rz(x0:Int):O Bool:=some (cp x0 x0)
def gw(x0 y:Int):O Int:=aQ (rz x0) λr=>aQ (rz y) λr1=>br r (br r1 (some 0) (some (-1))) (br r1 (some 1) (br (bh x0 y) (some (-1)) (br (dt x0 y) (some 1) (some 0))))
def lE(a b:List Int)(i:Int):O ((Int)⊕((Unit)⊕(Int))):=br (cT i 0) (aQ (bn a i) λx0=>aQ (bn b i) λx1=>br (cp x0 x1) (aQ (gw x0 x1) λr1=>some (.inr (.inr r1))) (some (.inl (cX .i64 i 1)))) (some (.inr (.inl ())))
def fI(a b:List Int):O Int:=br (cp (ay a) (ay b)) (aQ (gw (ay a) (ay b)) λr=>some r) (aQ (aL (λs=>lE a b s) (cX .i64 (ay a) 1)) (λe=>jg e (λ(_:Unit)=>some 0) (λr2=>some r2)))
def jt(a:List Int)(i:Int):O Int:=br (bh i (ay a)) (aQ (bn a i) λx0=>some x0) (some 0)
def ld(a b l l1:List Int)(v Bl n:Int):O ((List Int×Int×Int)⊕(List Int)):=ft (fQ (l1++[n]).length 8) (some (.inl ((l1++[n]),Bl,(aV .i64 v 1))))
def iW(a b l l1:List Int)(borrow v:Int):O ((List Int×Int×Int)⊕(List Int)):=br (bh v (ay a)) (aQ (bn a v) λx0=>aQ (jt b v) λr=>br (bh (cX .i64 (cX .i64 x0 r) borrow) 0) (ld a b l l1 v 1 (aV .i64 (cX .i64 (cX .i64 x0 r) borrow) 1000000000)) (ld a b l l1 v 0 (cX .i64 (cX .i64 x0 r) borrow))) (some (.inr l1))
def lX(a b:List Int):O (List Int):=aQ (Bd 0 (ay a) 8 0) λl=>aQ (aL (λs=>iW a b l s.1 s.2.1 s.2.2) (l,0,0)) (λl2=>aQ (fP l2) λr1=>some r1)
def iX(a:List Int)(k:Int)(l l1:List Int)(carry v:Int):O ((List Int×Int×Int)⊕(List Int×Int)):=br (bh v (ay a)) (aQ (bn a v) λx0=>ft (fQ (l1++[(wV (aV .i64 (nh .i64 x0 k) carry) 1000000000)]).length 8) (some (.inl ((l1++[(wV (aV .i64 (nh .i64 x0 k) carry) 1000000000)]),(q_ .i64 (aV .i64 (nh .i64 x0 k) carry) 1000000000),(aV .i64 v 1))))) (some (.inr (l1,carry)))
def pc(a:List Int)(k:Int):O (List Int):=aQ (Bd 0 (aV .i64 (ay a) 1) 8 0) λl=>aQ (aL (λs=>iX a k l s.1 s.2.1 s.2.2) (l,0,0)) (λe0=>(λl2 vA=>ft (fQ (l2++[vA]).length 8) (aQ (fP (l2++[vA])) λr=>some r)) e0.1 e0.2)
def yA(bJ uQ:List Int)(low high:Int):O ((Int×Int)⊕(Int)):=br (bh low high) (aQ (pc uQ (q_ .i64 (aV .i64 (aV .i64 low high) 1) 2)) λr=>aQ (fI r bJ) λr1=>br (gB r1 0) (some (.inl ((q_ .i64 (aV .i64 (aV .i64 low high) 1) 2),high))) (some (.inl (low,(cX .i64 (q_ .i64 (aV .i64 (aV .i64 low high) 1) 2) 1))))) (some (.inr low))
def EP(bJ uQ:List Int):O Int:=aQ (aL (λs=>yA bJ uQ s.1 s.2) (0,999999999)) (λQkB=>some QkB)
def v7(a b l l1 bJ:List Int)(i:Int):O ((List Int×List Int×Int)⊕(List Int×List Int)):=br (cT i 0) (aQ (bn a i) λx0=>ft (fQ ([x0]++bJ).length 8) (aQ (fP ([x0]++bJ)) λr=>aQ (fI r b) λr1=>br (dk r1 (-1)) (some (.inl (l1,r,(cX .i64 i 1)))) (br (dk r1 0) (aQ (bn l1 i) λx1=>some (.inl ((jq l1 i 1),[],(cX .i64 i 1)))) (aQ (EP r b) λr2=>aQ (bn l1 i) λx2=>aQ (pc b r2) λr3=>aQ (lX r r3) λr4=>some (.inl ((jq l1 i r2),r4,(cX .i64 i 1))))))) (some (.inr (l1,bJ)))
def wQ(a b:List Int):O (List Int×List Int):=aQ (Bd (ay a) (ay a) 8 0) λl=>aQ (aL (λs=>v7 a b l s.1 s.2.1 s.2.2) (l,[],(cX .i64 (ay a) 1))) (λe0=>(λl2 lz=>aQ (fP l2) λr5=>some (r5,lz)) e0.1 e0.2)
def uz(a:List Int):O (I×Int):=aQ (Gg a) λr=>br (dt (ca r) 4096) (some (ByteArray.empty,4)) (some (r,0))
def wO(b:I)(x0 y:List Int):O ((List Int×List Int)⊕(List Int)):=br (dt (ay y) 0) (aQ (wQ x0 y) λr1=>some (.inl (y,r1.2))) (some (.inr x0))
def Gj(a b:I):O (I×Int):=aQ (Bv a b) λr=>br (cp r.2.2 0) (some (ByteArray.empty,r.2.2)) (aQ (aL (λs=>wO b s.1 s.2) (r.1,r.2.1)) (λx1=>aQ (uz x1) λr2=>some (r2.1,r2.2)))
def oN(a:I):O Bool:=aQ (mO a) λr=>aQ (xo r.1) λr1=>br r1 (aQ (sU r.1) λr2=>br (dt r2 4096) (some false) (aQ (sU r.2) λr3=>br (dt r3 4096) (some false) (aQ (iL a mX) λr4=>br r4 (aQ (nv r.2) λr5=>br ((((!r5)||(qe r.2 bZ))||(qe r.2 od))||(qe r.1 bZ)) (some false) (aQ (strings_TrimPrefix r.1 pP) λr6=>aQ (Gj r6 r.2) λr7=>some ((dk r7.2 0)&&(qe r7.1 od)))) (some true)))) (some false)
def zV(a b:I):O (I×I×I×I×Int):=aQ (oN a) λr=>br r (aQ (oN b) λr1=>br r1 (aQ (mO a) λr2=>aQ (mO b) λr3=>some (r2.1,r2.2,r3.1,r3.2,0)) (some (ByteArray.empty,ByteArray.empty,ByteArray.empty,ByteArray.empty,3))) (some (ByteArray.empty,ByteArray.empty,ByteArray.empty,ByteArray.empty,3))
def mz(l:List I)(l1:List aG)(v:Int):O ((List aG×Int)⊕((List aG)⊕(List aG×Int))):=br (bh v (ay l)) (aQ (bn l v) λx0=>aQ (oZ x0) λr=>br r.2.2 (ft (fQ (l1++[(aG.mk r.1 r.2.1)]).length 24) (some (.inl ((l1++[(aG.mk r.1 r.2.1)]),(aV .i64 v 1))))) (some (.inr (.inr ([],3))))) (some (.inr (.inl l1)))
def o4(l:List I)(l2:List aG)(v1:Int):O ((Int)⊕((Unit)⊕(List aG×Int))):=br (bh v1 (ay l2)) (aQ (bn l2 v1) λx1=>br (dt (ca x1.qa) 4096) (some (.inr (.inr ([],4)))) (some (.inl (aV .i64 v1 1)))) (some (.inr (.inl ())))
def uM(l:List I):O (List aG×Int):=aQ (aL (λs=>mz l s.1 s.2) ([],0)) (λe=>jg e (λl2=>aQ (aL (λs=>o4 l l2 s) 0) (λe=>jg e (λ(_:Unit)=>some (l2,0)) (λr1=>some r1))) (λr2=>some r2))
def gV(n:aG):O I:=br (n.mN&&(!qe n.qa bZ)) (ft (pP.size+n.qa.size<=9223372036854775807) (some (ee pP n.qa))) (some n.qa)
def eW(n:aG)(e0:Int):O (I×Int):=br (cp e0 0) (some (ByteArray.empty,e0)) (aQ (gV n) λr=>some (r,0))
def wP(b:I)(r:List Int×List Int×Int)(l:List Int)(v x0:Int)(l2:List Int)(carry v1:Int):O ((List Int×Int×Int)⊕(List Int×Int)):=br (bh v1 (ay r.2.1)) (aQ (bn r.2.1 v1) λx1=>aQ (bn l2 (aV .i64 v v1)) λx2=>some (.inl ((jq l2 (aV .i64 v v1) (wV (aV .i64 (aV .i64 x2 (nh .i64 x0 x1)) carry) 1000000000)),(q_ .i64 (aV .i64 (aV .i64 x2 (nh .i64 x0 x1)) carry) 1000000000),(aV .i64 v1 1)))) (some (.inr (l2,carry)))
def ux(b:I)(r:List Int×List Int×Int)(l l1:List Int)(v:Int):O ((List Int×Int)⊕(List Int)):=br (bh v (ay r.1)) (aQ (bn r.1 v) λx0=>aQ (aL (λs=>wP b r l v x0 s.1 s.2.1 s.2.2) (l1,0,0)) (λe0=>(λl3 vA=>aQ (bn l3 (aV .i64 v (ay r.2.1))) λx3=>some (.inl ((jq l3 (aV .i64 v (ay r.2.1)) (aV .i64 x3 vA)),(aV .i64 v 1)))) e0.1 e0.2)) (some (.inr l1))
def J9(a b:I):O (I×Int):=aQ (Bv a b) λr=>br (cp r.2.2 0) (some (ByteArray.empty,r.2.2)) (aQ (Bd (aV .i64 (ay r.1) (ay r.2.1)) (aV .i64 (ay r.1) (ay r.2.1)) 8 0) λl=>aQ (aL (λs=>ux b r l s.1 s.2) (l,0)) (λl4=>aQ (fP l4) λr1=>aQ (uz r1) λr2=>some (r2.1,r2.2)))
def nz(a b:I):O (I×Int):=aQ (uM [a,b]) λr=>br (cp r.2 0) (some (ByteArray.empty,r.2)) (aQ (bn r.1 0) λx0=>aQ (bn r.1 1) λx1=>aQ (J9 x0.qa x1.qa) λr1=>aQ (eW (aG.mk (!GL x0.mN x1.mN) r1.1) r1.2) λr2=>some (r2.1,r2.2))
def dy(zy:List bj)(l l1:List I)(v:Int):O ((List I×Int)⊕((List I)⊕(List I×Int))):=br (bh v (ay zy)) (aQ (bn zy v) λx0=>aQ (nz x0.x0 x0.x1) λr=>br (cp r.2 0) (some (.inr (.inr ([],r.2)))) (ft (fQ (l1++[r.1]).length 16) (some (.inl ((l1++[r.1]),(aV .i64 v 1)))))) (some (.inr (.inl l1)))
def fz(zy:List bj):O (List I×Int):=aQ (Bd 0 (ay zy) 16 ByteArray.empty) λl=>aQ (aL (λs=>dy zy l s.1 s.2) (l,0)) (λe=>jg e (λl2=>some (l2,0)) (λr1=>some r1))
def J8(a b:I):O (I×I×Int):=aQ (Bv a b) λr=>br (cp r.2.2 0) (some (ByteArray.empty,ByteArray.empty,r.2.2)) (br (dk (ay r.2.1) 0) (some (ByteArray.empty,ByteArray.empty,10)) (aQ (wQ r.1 r.2.1) λr1=>aQ (Gg r1.1) λr2=>aQ (Gg r1.2) λr3=>some (r2,r3,0)))
def zQ(b:I)(r:List Int×List Int×Int)(l:List Int)(carry i:Int):O ((List Int×Int×Int)⊕(List Int)):=br ((bh i (vZ (ay r.1) (ay r.2.1)))||(dt carry 0)) (aQ (jt r.1 i) λr1=>aQ (jt r.2.1 i) λr2=>ft (fQ (l++[(wV (aV .i64 (aV .i64 r1 r2) carry) 1000000000)]).length 8) (some (.inl ((l++[(wV (aV .i64 (aV .i64 r1 r2) carry) 1000000000)]),(q_ .i64 (aV .i64 (aV .i64 r1 r2) carry) 1000000000),(aV .i64 i 1))))) (some (.inr l))
def Bu(a b:I):O (I×Int):=aQ (Bv a b) λr=>br (cp r.2.2 0) (some (ByteArray.empty,r.2.2)) (aQ (aL (λs=>zQ b r s.1 s.2.1 s.2.2) ([],0,0)) (λl1=>aQ (uz l1) λr3=>some (r3.1,r3.2)))
def Dj(a b:I):O (I×Int):=aQ (Bv a b) λr=>br (cp r.2.2 0) (some (ByteArray.empty,r.2.2)) (aQ (fI r.1 r.2.1) λr1=>br (bh r1 0) (some (ByteArray.empty,2)) (aQ (lX r.1 r.2.1) λr2=>aQ (uz r2) λr3=>some (r3.1,r3.2)))
def qR(x0 x1:aG)(q r4:I):O (I×I×Int):=aQ (gV (aG.mk (!GL x0.mN x1.mN) q)) λr5=>aQ (gV (aG.mk x1.mN r4)) λr6=>some (r5,r6,0)
def tQ(a b:I):O (I×I×Int):=aQ (uM [a,b]) λr=>br (cp r.2 0) (some (ByteArray.empty,ByteArray.empty,r.2)) (aQ (bn r.1 0) λx0=>aQ (bn r.1 1) λx1=>br (qe x1.qa bZ) (some (ByteArray.empty,ByteArray.empty,10)) (aQ (J8 x0.qa x1.qa) λr1=>br (cp r1.2.2 0) (some (ByteArray.empty,ByteArray.empty,r1.2.2)) (br ((!GL x0.mN x1.mN)&&(!qe r1.2.1 bZ)) (aQ (Bu r1.1 od) λr2=>br (cp r2.2 0) (some (ByteArray.empty,ByteArray.empty,r2.2)) (aQ (Dj x1.qa r1.2.1) λr3=>br (cp r3.2 0) (some (ByteArray.empty,ByteArray.empty,r3.2)) (qR x0 x1 r2.1 r3.1))) (qR x0 x1 r1.1 r1.2.1))))
def u0(p q:I):O (I×Int):=aQ (strings_TrimPrefix p pP) λr=>aQ (Gj r q) λr1=>br (cp r1.2 0) (some (ByteArray.empty,r1.2)) (aQ (tQ p r1.1) λr2=>br (cp r2.2.2 0) (some (ByteArray.empty,r2.2.2)) (aQ (tQ q r1.1) λr3=>br (cp r3.2.2 0) (some (ByteArray.empty,r3.2.2)) (br (qe r3.1 od) (some (r2.1,0)) (ft (r2.1.size+mX.size<=9223372036854775807) (ft ((ee r2.1 mX).size+r3.1.size<=9223372036854775807) (some ((ee (ee r2.1 mX) r3.1),0)))))))
def kf(a b:I):O Int:=br (cp (ca a) (ca b)) (br (bh (ca a) (ca b)) (some (-1)) (some 1)) (aQ (Qo2 a b) λr=>some r)
def vf(x0 x1:aG):O (I×Int):=aQ (Dj x0.qa x1.qa) λr3=>aQ (eW (aG.mk x0.mN r3.1) r3.2) λr4=>some (r4.1,r4.2)
def xp(a b:aG):O (I×Int):=br (GL a.mN b.mN) (aQ (Bu a.qa b.qa) λr=>aQ (eW (aG.mk a.mN r.1) r.2) λr1=>some (r1.1,r1.2)) (aQ (kf a.qa b.qa) λr2=>br (bh r2 0) (vf b a) (vf a b))
def Fg(a b:I):O (I×Int):=aQ (uM [a,b]) λr=>br (cp r.2 0) (some (ByteArray.empty,r.2)) (aQ (bn r.1 0) λx0=>aQ (bn r.1 1) λx1=>aQ (xp x0 x1) λr1=>some (r1.1,r1.2))
def uc(a b:I):O (I×Int):=aQ (zV a b) λr=>br (cp r.2.2.2.2 0) (some (ByteArray.empty,r.2.2.2.2)) (aQ (fz [(bj.mk r.1 r.2.2.2.1),(bj.mk r.2.2.1 r.2.1)]) λr1=>br (cp r1.2 0) (some (ByteArray.empty,r1.2)) (aQ (bn r1.1 0) λx0=>aQ (bn r1.1 1) λx1=>aQ (Fg x0 x1) λr2=>br (cp r2.2 0) (some (ByteArray.empty,r2.2)) (aQ (fz [(bj.mk r.2.1 r.2.2.2.1)]) λr3=>br (cp r3.2 0) (some (ByteArray.empty,r3.2)) (aQ (bn r3.1 0) λx2=>aQ (u0 r2.1 x2) λr4=>some (r4.1,r4.2)))))
def BK(a b:I):O (I×Int):=aQ (uc a b) λr=>some (r.1,r.2)
def oW(n least tn:Int):O Bool:=some ((cT n least)&&(gB n tn))
def tI(l:List aK)(v:Int)(x0:aK)(r:I)(l3:List aa):O ((List aa×Int)⊕(List aa)):=br (dt v 0) (aQ (bn l (cX .i64 v 1)) λx1=>br (gB x0.t x1.t) (ft (fQ (l3++[(aa.mk 13 r)]).length 24) (some (.inl ((l3++[(aa.mk 13 r)]),(aV .i64 v 1))))) (br (bh x0.a x1.a) (ft (fQ (l3++[(aa.mk 13 r)]).length 24) (some (.inl ((l3++[(aa.mk 13 r)]),(aV .i64 v 1))))) (some (.inl (l3,(aV .i64 v 1)))))) (some (.inl (l3,(aV .i64 v 1))))
def ly(l:List aK)(l2:List aa)(v:Int):O ((List aa×Int)⊕(List aa)):=br (bh v (ay l)) (aQ (bn l v) λx0=>aQ (yU v) λr=>aQ (oW x0.t 0 4096) λr1=>br (((!r1)||(bh x0.a x0.t))||(dt x0.a (aV .i64 x0.t 4096))) (ft (fQ (l2++[(aa.mk 2 r)]).length 24) (tI l v x0 r (l2++[(aa.mk 2 r)]))) (tI l v x0 r l2)) (some (.inr l2))
def tH(l:List aK)(l1:List aa):O (List aa):=aQ (aL (λs=>ly l s.1 s.2) (l1,0)) (λl4=>some l4)
def yW(l:List aK):O (List aa):=br ((dk (ay l) 0)||(dt (ay l) 16)) (ft (fQ [(aa.mk 4 ByteArray.empty)].length 24) (tH l [(aa.mk 4 ByteArray.empty)])) (tH l [])
def yY(l:List aK):O Bool:=aQ (yW l) λr=>some (dk (ay r) 0)
def qk(p:aK)(t:Int):O Int:=some (cX .i64 p.t t)
def cA(x0:List aK)(target i j:Int):O ((Int×Int)⊕(Int)):=br (bh i j) (aQ (bn x0 (Bn .i64 (AZ .u64 (Bn .u64 (aV .i64 i j)) 1))) λx1=>aQ (qk x1 target) λr=>br (bh r 0) (some (.inl ((aV .i64 (Bn .i64 (AZ .u64 (Bn .u64 (aV .i64 i j)) 1)) 1),j))) (some (.inl (i,(Bn .i64 (AZ .u64 (Bn .u64 (aV .i64 i j)) 1)))))) (some (.inr i))
def dm(x0:List aK)(target:Int):O (Int×Bool):=aQ (aL (λs=>cA x0 target s.1 s.2) (0,(ay x0))) (λi1=>br (bh i1 (ay x0)) (aQ (bn x0 i1) λx2=>aQ (qk x2 target) λr1=>some (i1,(dk r1 0))) (some (i1,false)))
def wq(l:List aK)(t:Int):O Int:=aQ (dm l t) λr=>br r.2 (aQ (bn l r.1) λx0=>some x0.a) (br (dk r.1 0) (aQ (bn l 0) λx1=>some (cX .i64 (aV .i64 t x1.a) x1.t)) (br (dk r.1 (ay l)) (aQ (bn l (cX .i64 r.1 1)) λx2=>some (cX .i64 (aV .i64 t x2.a) x2.t)) (aQ (bn l (cX .i64 r.1 1)) λx3=>aQ (bn l r.1) λx4=>ft (((cX .i64 x4.t x3.t):Int)≠0) (some (aV .i64 x3.a (q_ .i64 (cX .i64 (aV .i64 (nh .i64 (cX .i64 t x3.t) (cX .i64 x4.a x3.a)) (cX .i64 x4.t x3.t)) 1) (cX .i64 x4.t x3.t)))))))
def tO(l:List aK)(t:Int):O Int:=aQ (oW t 0 1073741824) λr=>br r (aQ (yY l) λr1=>br r1 (aQ (wq l t) λr2=>some r2) (some 0)) (some 0)
def kz:O Bool:=aQ (BK Qcm Qcn) λr=>br ((dk r.2 0)&&(qe r.1 Qco)) (aQ (tO [(aK.mk 0 5),(aK.mk 20 35)] 10) λr1=>some (dk r1 20)) (some false)
def mJ(a:I)(i:Int):O ((Int)⊕((Unit)⊕(I×I×Bool))):=br (bh i (ca a)) (aQ (y8 a i) λb=>br (dk (cQ b) 47) (aQ (xu a 0 i) λs0=>aQ (xu a (aV .i64 i 1) (ca a)) λs1=>some (.inr (.inr ((a.extract (0:Int).toNat (i:Int).toNat),(a.extract ((aV .i64 i 1):Int).toNat ((ca a):Int).toNat),true)))) (some (.inl (aV .i64 i 1)))) (some (.inr (.inl ())))
def qy(a:I):O (I×I×Bool):=aQ (aL (λs=>mJ a s) 0) (λe=>jg e (λ(_:Unit)=>some (a,od,false)) (λr=>some r))
def nV(s0:I)(b:UInt8)(aY i:Int):O ((Int)⊕((Unit)⊕(Bool))):=br (bh i (ca s0)) (aQ (y8 s0 i) λb1=>br (bh (cQ b1) 48) (some (.inr (.inr false))) (br (dt (cQ b1) 57) (some (.inr (.inr false))) (some (.inl (aV .i64 i 1))))) (some (.inr (.inl ())))
def kE(s0:I)(b:UInt8)(aY:Int):O Bool:=br (dk (ca s0) aY) (some false) (aQ (aL (λs=>nV s0 b aY s) aY) (λe=>jg e (λ(_:Unit)=>aQ (y8 s0 aY) λb2=>some ((cp (cQ b2) 48)||(qe s0 bZ))) (λr=>some r)))
def vC(s0:I)(i1:Int):O ((Int)⊕((Unit)⊕(Bool))):=br (bh i1 (ca s0)) (aQ (y8 s0 i1) λb3=>br (bh (cQ b3) 48) (some (.inr (.inr false))) (br (dt (cQ b3) 57) (some (.inr (.inr false))) (some (.inl (aV .i64 i1 1))))) (some (.inr (.inl ())))
def jK(s0:I):O Bool:=br (dt (ca s0) 0) (aQ (y8 s0 0) λb=>br (dk (cQ b) 45) (kE s0 b 1) (kE s0 b 0)) (br (dk (ca s0) 0) (some false) (aQ (aL (λs=>vC s0 s) 0) (λe=>jg e (λ(_:Unit)=>aQ (y8 s0 0) λb4=>some ((cp (cQ b4) 48)||(qe s0 bZ))) (λr1=>some r1))))
def fN(s0:I)(b:UInt8)(i:Int):O ((Int)⊕((Unit)⊕(Bool))):=br (bh i (ca s0)) (aQ (y8 s0 i) λb1=>br (bh (cQ b1) 48) (some (.inr (.inr false))) (br (dt (cQ b1) 57) (some (.inr (.inr false))) (some (.inl (aV .i64 i 1))))) (some (.inr (.inl ())))
def fO(s0:I)(i1:Int):O ((Int)⊕((Unit)⊕(Bool))):=br (bh i1 (ca s0)) (aQ (y8 s0 i1) λb2=>br (bh (cQ b2) 48) (some (.inr (.inr false))) (br (dt (cQ b2) 57) (some (.inr (.inr false))) (some (.inl (aV .i64 i1 1))))) (some (.inr (.inl ())))
def fR(s0:I):O Bool:=br (dk (ca s0) 0) (some false) (br (dt (ca s0) 1) (aQ (y8 s0 0) λb=>br (dk (cQ b) 48) (some false) (aQ (aL (λs=>fN s0 b s) 0) (λe=>jg e (λ(_:Unit)=>some true) (λr=>some r)))) (aQ (aL (λs=>fO s0 s) 0) (λe=>jg e (λ(_:Unit)=>some true) (λr1=>some r1))))
def iZ(s0:I):O Int:=br (dt (ca s0) 0) (aQ (y8 s0 0) λb=>br (dk (cQ b) 45) (some (cX .i64 (ca s0) 1)) (some (ca s0))) (some (ca s0))
def nq(s0:I):O Int:=br (dt (ca s0) 0) (aQ (y8 s0 0) λb=>br (dk (cQ b) 45) (some (cX .i64 (ca s0) 1)) (some (ca s0))) (some (ca s0))
def uW(a b:I):O Int:=aQ (jK a) λr=>br r (aQ (jK b) λr1=>br r1 (aQ (nq a) λr2=>br (dt r2 4096) (some 4) (aQ (nq b) λr3=>br (dt r3 4096) (some 4) (some 0))) (some 3)) (some 3)
def pG(l:List Int)(n:Int):O ((Int)⊕(Int)):=br (dt n 0) (aQ (bn l (cX .i64 n 1)) λx0=>br (dk x0 0) (some (.inl (cX .i64 n 1))) (some (.inr n))) (some (.inr n))
def qf(l:List Int):O (List Int):=aQ (aL (λs=>pG l s) (ay l)) (λn1=>aQ (wm l 0 n1) λl1=>some l1)
def gC(s0:I)(b:UInt8)(l:List Int)(i:Int):O ((List Int×Int)⊕(List Int)):=br (cT i 0) (aQ (y8 s0 i) λb1=>br (cp (cQ b1) 45) (ft (fQ (l++[(Bn .i64 (cX .u8 (cQ b1) 48))]).length 8) (some (.inl ((l++[(Bn .i64 (cX .u8 (cQ b1) 48))]),(cX .i64 i 1))))) (some (.inl (l,(cX .i64 i 1))))) (some (.inr l))
def rJ(s0:I):O (Bool×List Int):=aQ (y8 s0 0) λb=>aQ (aL (λs=>gC s0 b s.1 s.2) ([],(cX .i64 (ca s0) 1))) (λl1=>aQ (qf l1) λr=>some ((dk (cQ b) 45),r))
def hG(l r l2:List Int)(i:Int):O ((List Int×Int)⊕(List Int)):=br (cT i 0) (aQ (bn r i) λx0=>ft (fQ (l2++[(Bn .u8 (aV .i64 48 x0))]).length 1) (some (.inl ((l2++[(Bn .u8 (aV .i64 48 x0))]),(cX .i64 i 1))))) (some (.inr l2))
def pF(l r l1:List Int):O I:=aQ (aL (λs=>hG l r s.1 s.2) (l1,(cX .i64 (ay r) 1))) (λl3=>some (wC l3))
def tj(neg:Bool)(l:List Int):O I:=aQ (qf l) λr=>br (dk (ay r) 0) (some bZ) (br neg (ft (fQ [45].length 1) (pF l r [45])) (pF l r []))
def rI(s0:I):O (I×Int):=aQ (uW s0 s0) λr=>br (cp r 0) (some (ByteArray.empty,r)) (aQ (rJ s0) λr1=>aQ (tj false r1.2) λr2=>some (r2,0))
def o9(a b:I):O Int:=aQ (fR a) λr=>br r (aQ (fR b) λr1=>br r1 (br ((dt (ca a) 4096)||(dt (ca b) 4096)) (some 4) (some 0)) (some 3)) (some 3)
def pD(s1:I):O ((I)⊕(I)):=br (dt (ca s1) 1) (aQ (y8 s1 0) λb=>br (dk (cQ b) 48) (aQ (xu s1 1 (ca s1)) λs2=>some (.inl (s1.extract (1:Int).toNat ((ca s1):Int).toNat))) (some (.inr s1))) (some (.inr s1))
def lq(s0:I):O I:=aQ (aL (λs=>pD s) s0) (λs3=>some s3)
def pz(a b:I):O Int:=aQ (fR a) λr=>br r (aQ (fR b) λr1=>br ((!r1)||(qe a b)) (some 0) (br ((bh (ca a) (ca b))||((dk (ca a) (ca b))&&(ltS a b))) (some (-1)) (some 1))) (some 0)
def kr(n:Int):O I:=aQ (xu yQ n (aV .i64 n 1)) λs0=>some (yQ.extract (n:Int).toNat ((aV .i64 n 1):Int).toNat)
def o8(s0:I)(j7:Int):O Int:=br (cT j7 (ca s0)) (some 0) (aQ (y8 s0 (cX .i64 (cX .i64 (ca s0) 1) j7)) λb=>some (Bn .i64 (cX .u8 (cQ b) 48)))
def lQ(a b out:I)(i Bl n:Int):O ((I×Int×Int)⊕(I)):=aQ (kr n) λr2=>ft (r2.size+out.size<=9223372036854775807) (some (.inl ((ee r2 out),Bl,(aV .i64 i 1))))
def jF(a b out:I)(borrow i:Int):O ((I×Int×Int)⊕(I)):=br (bh i (ca a)) (aQ (o8 a i) λr=>aQ (o8 b i) λr1=>br (bh (cX .i64 (cX .i64 r r1) borrow) 0) (lQ a b out i 1 (aV .i64 (cX .i64 (cX .i64 r r1) borrow) 10)) (lQ a b out i 0 (cX .i64 (cX .i64 r r1) borrow))) (some (.inr out))
def ti(a b:I):O I:=aQ (aL (λs=>jF a b s.1 s.2.1 s.2.2) (ByteArray.empty,0,0)) (λL9=>aQ (lq L9) λr3=>some r3)
def nn(a b q:I)(i:Int)(lz:I)(n:Int):O ((I×Int)⊕(I×Int)):=aQ (pz lz b) λr2=>br (cT r2 0) (aQ (ti lz b) λr3=>some (.inl (r3,(aV .i64 n 1)))) (some (.inr (lz,n)))
def kq(a b q bJ:I)(i:Int):O ((I×I×Int)⊕(I×I)):=br (bh i (ca a)) (aQ (xu a i (aV .i64 i 1)) λs0=>ft (bJ.size+(a.extract (i:Int).toNat ((aV .i64 i 1):Int).toNat).size<=9223372036854775807) (aQ (lq (ee bJ (a.extract (i:Int).toNat ((aV .i64 i 1):Int).toNat))) λr1=>aQ (aL (λs=>nn a b q i s.1 s.2) (r1,0)) (λe0=>(λXJ n1=>aQ (kr n1) λr4=>ft (q.size+r4.size<=9223372036854775807) (some (.inl ((ee q r4),XJ,(aV .i64 i 1))))) e0.1 e0.2))) (some (.inr (q,bJ)))
def rH(a b:I):O (I×I×Int):=aQ (o9 a b) λr=>br (cp r 0) (some (ByteArray.empty,ByteArray.empty,r)) (br (qe b bZ) (some (ByteArray.empty,ByteArray.empty,10)) (aQ (aL (λs=>kq a b s.1 s.2.1 s.2.2) (ByteArray.empty,bZ,0)) (λe0=>(λq1 XK=>aQ (lq q1) λr5=>some (r5,XK,0)) e0.1 e0.2)))
def qx(b a1 b1:I):O ((I×I)⊕(I)):=br (qe b1 bZ) (some (.inr a1)) (aQ (rH a1 b1) λr1=>some (.inl (b1,r1.2.1)))
def pC(a b:I):O (I×Int):=aQ (o9 a b) λr=>br (cp r 0) (some (ByteArray.empty,r)) (aQ (aL (λs=>qx b s.1 s.2) (a,b)) (λa2=>some (a2,0)))
def o_(a:I):O Bool:=aQ (qy a) λr=>aQ (jK r.1) λr1=>br r1 (aQ (fR r.2.1) λr2=>br r2 (aQ (iZ r.1) λr3=>br (dt r3 4096) (some false) (aQ (iZ r.2.1) λr4=>br (dt r4 4096) (some false) (br r.2.2 (br (((qe r.1 bZ)||(qe r.2.1 bZ))||(qe r.2.1 od)) (some false) (aQ (rI r.1) λr5=>aQ (pC r5.1 r.2.1) λr6=>some ((dk r6.2 0)&&(qe r6.1 od)))) (some true)))) (some false)) (some false)
def oP(x0:ae)(size:Int)(l l1:List Int)(v:Int)(l2:List Int)(v1:Int):O ((List Int×Int)⊕(List Int)):=br (bh v1 (ay x0.ai)) (br (cp v1 v) (ft (fQ (l2++[v1]).length 8) (some (.inl ((l2++[v1]),(aV .i64 v1 1))))) (some (.inl (l2,(aV .i64 v1 1))))) (some (.inr l2))
def qX(x0:ae)(size:Int)(l:List Int)(v:Int)(l4 l5:List Int)(v2:Int):O ((List Int×Int)⊕(List Int)):=br (bh v2 (ay l4)) (aQ (bn l4 v2) λx2=>aQ (bn l5 v) λx3=>ft ((0:Int)<=x2) (some (.inl ((jq l5 v (QA .i64 x3 (uh .i64 1 x2))),(aV .i64 v2 1))))) (some (.inr l5))
def qW(x0:ae)(size:Int)(l l1:List Int)(v:Int):O ((List Int×Int)⊕(List Int)):=br (bh v (ay l)) (aQ (aL (λs=>oP x0 size l l1 v s.1 s.2) ([],0)) (λl3=>aQ (R3 l3 x0 v) λr=>ft ((0:Int)<=v) (aQ (bn l1 v) λx1=>aQ (wm l3 0 (QbX (cX .i64 size 1) (ay l3))) λl4=>aQ (aL (λs=>qX x0 size l v l4 s.1 s.2) ((jq l1 v (uh .i64 1 v)),0)) (λl6=>some (.inl (l6,(aV .i64 v 1))))))) (some (.inr l1))
def Ct(x0:ae)(size:Int):O (List Int×Int):=br ((bh size 1)||(dt size 10)) (some ([],2)) (aQ (Bd (ay x0.ai) (ay x0.ai) 8 0) λl=>aQ (aL (λs=>qW x0 size l s.1 s.2) (l,0)) (λl7=>some (l7,0)))
def tP(a b:I):O Int:=aQ (oZ a) λr=>aQ (oZ b) λr1=>br ((!r.2.2)||(!r1.2.2)) (some 0) (br (r.1&&r1.1) (aQ (kf r1.2.1 r.2.1) λr2=>some r2) (br r.1 (some (-1)) (br r1.1 (some 1) (aQ (kf r.2.1 r1.2.1) λr3=>some r3))))
def lY(b p q r1 s0:I)(Rt:Int):O ((I×I×I×I×Int)⊕(Int)):=aQ (tQ p q) λr2=>aQ (tQ r1 s0) λr3=>aQ (tP r2.1 r3.1) λr4=>br (cp r4 0) (some (.inr (nh .i64 Rt r4))) (br ((qe r2.2.1 bZ)&&(qe r3.2.1 bZ)) (some (.inr 0)) (br (qe r2.2.1 bZ) (some (.inr (cX .i64 0 Rt))) (br (qe r3.2.1 bZ) (some (.inr Rt)) (some (.inl (q,r2.2.1,s0,r3.2.1,(cX .i64 0 Rt)))))))
def jn(a b:I):O Int:=aQ (zV a b) λr=>br (cp r.2.2.2.2 0) (some 0) (aQ (aL (λs=>lY b s.1 s.2.1 s.2.2.1 s.2.2.2.1 s.2.2.2.2) (r.1,r.2.1,r.2.2.1,r.2.2.2.1,1)) (λr5=>some r5))
def xj(l:List aw)(j7:Int):O Bool:=some ((cT j7 0)&&(bh j7 (ay l)))
def qi(l:List aw)(j7:Int)(l1:List ab):O (List ab):=aQ (bn l j7) λx1=>br (cT x1.drop.place 0) (ft (fQ (l1++[(ab.mk j7 true)]).length 16) (some (l1++[(ab.mk j7 true)]))) (some l1)
def mr(l:List aw)(j7:Int):O (List ab):=aQ (xj l j7) λr=>br r (aQ (bn l j7) λx0=>br (cT x0.pick.place 0) (ft (fQ [(ab.mk j7 false)].length 16) (qi l j7 [(ab.mk j7 false)])) (qi l j7 [])) (some [])
def qL(x0:ae)(l:List ab)(v:Int):O ((List ab×Int)⊕(List ab)):=br (bh v (ay x0.ai)) (aQ (bn x0.ai v) λx1=>br x1.off (some (.inl (l,(aV .i64 v 1)))) (aQ (mr x0.ai v) λr=>ft (fQ (l++r).length 16) (some (.inl ((l++r),(aV .i64 v 1)))))) (some (.inr l))
def BL(x0:ae):O (List ab):=aQ (aL (λs=>qL x0 s.1 s.2) ([],0)) (λl1=>some l1)
def iN(b9 i:Int):O Bool:=br ((cT i 0)&&(gB i 62)) (ft ((0:Int)<=i) (some (dk (MO .i64 (AZ .i64 b9 i) 1) 1))) (some false)
def oQ(x0:ae)(kind:Int)(fZ:List Int)(v:Int):O ((Int)⊕((Unit)⊕((O ax)×Int))):=br (bh v (ay fZ)) (aQ (bn fZ v) λx1=>br (bh x1 0) (some (.inr (.inr (none,2)))) (aQ (iN x1 v) λr=>br r (ft ((0:Int)<=(ay x0.ai)) (br (cp (AZ .i64 x1 (ay x0.ai)) 0) (some (.inr (.inr (none,2)))) (some (.inl (aV .i64 v 1))))) (some (.inr (.inr (none,2)))))) (some (.inr (.inl ())))
def wU(x0:ae)(kind:Int)(fZ:List Int):O ((O ax)×Int):=br (((bh kind 0)||(cT kind (ay x0.types)))||(cp (ay fZ) (ay x0.ai))) (some (none,2)) (aQ (aL (λs=>oQ x0 kind fZ s) 0) (λe=>jg e (λ(_:Unit)=>aQ (bn x0.types kind) λx2=>aQ (BL x0) λr1=>some ((some (ax.mk x0 kind x2 fZ [] (ay r1))),0)) (λr2=>some r2)))
def lZ(w:ax):O (ah×ax):=aQ (Bd (ay w.t.cap) (ay w.t.cap) 8 0) λl=>some ((ah.mk w.t.aY 0 0 0 l [(ag.mk w.t.bA 0)] bZ),w)
def sI(t:av)(cF:Int):O Bool:=some (((cT t.cF 0)&&(cT cF 0))&&(dk (uO .i64 cF t.cF) 0))
def Fh(a b:I):O (I×Int):=aQ (uM [a,b]) λr=>br (cp r.2 0) (some (ByteArray.empty,r.2)) (aQ (bn r.1 0) λx0=>aQ (bn r.1 1) λx1=>aQ (xp x0 (aG.mk (!x1.mN) x1.qa)) λr1=>some (r1.1,r1.2))
def ud(a b:I):O (I×Int):=aQ (zV a b) λr=>br (cp r.2.2.2.2 0) (some (ByteArray.empty,r.2.2.2.2)) (aQ (fz [(bj.mk r.1 r.2.2.2.1),(bj.mk r.2.2.1 r.2.1)]) λr1=>br (cp r1.2 0) (some (ByteArray.empty,r1.2)) (aQ (bn r1.1 0) λx0=>aQ (bn r1.1 1) λx1=>aQ (Fh x0 x1) λr2=>br (cp r2.2 0) (some (ByteArray.empty,r2.2)) (aQ (fz [(bj.mk r.2.1 r.2.2.2.1)]) λr3=>br (cp r3.2 0) (some (ByteArray.empty,r3.2)) (aQ (bn r3.1 0) λx2=>aQ (u0 r2.1 x2) λr4=>some (r4.1,r4.2)))))
def zU(a b:I):O (I×Int):=aQ (ud a b) λr=>some (r.1,r.2)
def OA(n:Int):O I:=aQ (yU n) λr=>some r
def EX(n:Int):O I:=aQ (OA n) λr=>some r
def gy(w:ax)(a:I)(n:Int):O I:=aQ (EX n) λr=>aQ (BK a r) λr1=>some r1.1
def u3(fZ:List Int)(memory aP:Int):O Int:=br ((bh aP 0)||(cT aP (ay fZ))) (some memory) (aQ (bn fZ aP) λx0=>ft ((0:Int)<=aP) (some (QA .i64 (MO .i64 memory x0) (uh .i64 1 aP))))
def tM(a kind:Int):O Int:=br ((cp a (-1))&&(cp a kind)) (some 1) (some 0)
def pO(w:ax)(p:ah)(o:Int):O (ah×Bool×ax):=aQ (iN p.memory o) λr=>br r (some (p,false,w)) (aQ (iN p.mD o) λr1=>br r1 (some (p,false,w)) (aQ (u3 w.fZ p.memory o) λr2=>aQ (bn w.x.ai o) λx0=>aQ (tM x0.now w.kind) λr3=>aQ (tM x0.cr w.kind) λr4=>aQ (gy w p.value (uh .i64 (aV .i64 (nh .i64 r3 16) r4) 16)) λr5=>br (List.isEmpty w.cR) (none) (aQ (bn w.cR o) λx1=>aQ (zU r5 x1) λr6=>some ((ah.mk p.place r2 p.mD p.ak p.load p.fi r6.1),true,w))))
def oL(a capacity:List Int)(v:Int):O ((Int)⊕((Unit)⊕(Bool))):=br (bh v (ay a)) (aQ (bn a v) λx0=>aQ (bn capacity v) λx1=>br (dt x0 x1) (some (.inr (.inr false))) (some (.inl (aV .i64 v 1)))) (some (.inr (.inl ())))
def sL(a capacity:List Int):O Bool:=br (cp (ay a) (ay capacity)) (some false) (aQ (aL (λs=>oL a capacity s) 0) (λe=>jg e (λ(_:Unit)=>some true) (λr=>some r)))
def FF(a b:Int):O Int:=some (aV .i64 a b)
def fL(a b l l1:List Int)(v:Int):O ((List Int×Int)⊕(List Int)):=br (bh v (ay a)) (aQ (bn a v) λx0=>aQ (bn b v) λx1=>aQ (FF x0 x1) λr=>aQ (bn l1 v) λx2=>some (.inl ((jq l1 v r),(aV .i64 v 1)))) (some (.inr l1))
def sM(a b:List Int):O (List Int×Int):=br (cp (ay a) (ay b)) (some ([],2)) (aQ (Bd (ay a) (ay a) 8 0) λl=>aQ (aL (λs=>fL a b l s.1 s.2) (l,0)) (λl2=>some (l2,0)))
def xb(a b:List Int):O (List Int×Int):=aQ (sM a b) λr=>some (r.1,r.2)
def De(a b:Int):O Int:=some (cX .i64 a b)
def fu(a b l l1:List Int)(v:Int):O ((List Int×Int)⊕(List Int)):=br (bh v (ay a)) (aQ (bn a v) λx0=>aQ (bn b v) λx1=>aQ (De x0 x1) λr=>aQ (bn l1 v) λx2=>some (.inl ((jq l1 v r),(aV .i64 v 1)))) (some (.inr l1))
def re(a b:List Int):O (List Int×Int):=br (cp (ay a) (ay b)) (some ([],2)) (aQ (Bd (ay a) (ay a) 8 0) λl=>aQ (aL (λs=>fu a b l s.1 s.2) (l,0)) (λl2=>some (l2,0)))
def zJ(a b:List Int):O (List Int×Int):=aQ (re a b) λr=>some (r.1,r.2)
def fB(w:ax)(x1:ah):O (ah×Bool×ax):=aQ (sL x1.load w.t.cap) λr3=>some (x1,r3,w)
def n_(w:ax)(p:ah)(v:ab):O (ah×Bool×ax):=aQ (bn w.x.ai v.aP) λx0=>br v.drop (br ((cT x0.pick.place 0)&&(cT x0.drop.place 0)) (aQ (iN p.mD v.aP) λr=>br r (aQ (zJ p.load x0.load) λr1=>ft ((0:Int)<=v.aP) (fB w (ah.mk p.place p.memory (uO .i64 p.mD (uh .i64 1 v.aP)) p.ak r1.1 p.fi p.value))) (some (p,false,w))) (fB w p)) (aQ (xb p.load x0.load) λr2=>br ((cT x0.pick.place 0)&&(cT x0.drop.place 0)) (ft ((0:Int)<=v.aP) (fB w (ah.mk p.place p.memory (QA .i64 p.mD (uh .i64 1 v.aP)) p.ak r2.1 p.fi p.value))) (fB w (ah.mk p.place p.memory p.mD p.ak r2.1 p.fi p.value)))
def v_(x1:aS):O (aS×Int):=br (bh x1.place 0) (some ((aS.mk 0 0 0 0),19)) (some (x1,0))
def uC(l:List aw)(v:ab):O (aS×Int):=aQ (xj l v.aP) λr=>br r (aQ (bn l v.aP) λx0=>br v.drop (v_ x0.drop) (v_ x0.pick)) (some ((aS.mk 0 0 0 0),2))
def tL(n:aC)(i:Int):O Bool:=some ((cT i 0)&&(bh i (ay n.bm)))
def Aa(a:a7):O DD:=some (DD.mk a.aY a.eI a.aJ)
def tp(n:aC)(aJ aY eI v:Int):O ((Int)⊕((Unit)⊕(a7×Bool))):=br (bh v (ay n.eX)) (aQ (bn n.eX v) λx0=>aQ (Aa x0) λr=>br (dk r.aY aY&&(dk r.eI eI&&(dk r.aJ aJ&&true))) (some (.inr (.inr (x0,true)))) (some (.inl (aV .i64 v 1)))) (some (.inr (.inl ())))
def yD(n:aC)(aJ aY eI:Int):O (a7×Bool):=aQ (aL (λs=>tp n aJ aY eI s) 0) (λe=>jg e (λ(_:Unit)=>some ((a7.mk 0 0 0 0 [] []),false)) (λr1=>some r1))
def wS(a:a7)(t out v:Int):O ((Int×Int)⊕(Int)):=br (bh v (ay a.jY)) (aQ (bn a.jY v) λx0=>br (gB x0.t t) (some (.inl ((aV .i64 out x0.a),(aV .i64 v 1)))) (some (.inl (out,(aV .i64 v 1))))) (some (.inr out))
def tq(a:a7)(t:Int):O Int:=aQ (tO a.kD t) λr=>aQ (aL (λs=>wS a t s.1 s.2) (r,0)) (λL9=>some L9)
def uB(n:aC)(aJ aY eI t:Int):O (Int×Int×Int):=aQ (tL n aY) λr=>br r (aQ (tL n eI) λr1=>br r1 (br (dk aY eI) (some (t,0,0)) (aQ (yD n aJ aY eI) λr2=>br r2.2 (aQ (tq r2.1 t) λr3=>some (r3,r2.1.cV,0)) (some (0,0,12)))) (some (0,0,11))) (some (0,0,11))
def jl(w:ax)(p:ah)(eI:Int)(l:List ag)(v:Int)(l1:List ag)(sR v1:Int)(x3:ag):O ((List ag×ag×Int×Int)⊕(List ag×Int)):=aQ (uB w.x.bV w.t.aJ p.place eI x3.ready) λr=>br ((dk r.2.2 0)&&(gB (cX .i64 (aV .i64 x3.cz r.1) x3.ready) w.t.eu)) (ft (fQ (l1++[(ag.mk r.1 (cX .i64 (aV .i64 x3.cz r.1) x3.ready))]).length 16) (some (.inl ((l1++[(ag.mk r.1 (cX .i64 (aV .i64 x3.cz r.1) x3.ready))]),x3,r.2.1,(aV .i64 v1 1))))) (some (.inl (l1,x3,sR,(aV .i64 v1 1))))
def eS(w:ax)(p:ah)(eI:Int)(l:List ag)(v:Int)(l1:List ag)(x1:ag)(sR v1:Int):O ((List ag×ag×Int×Int)⊕(List ag×Int)):=br (bh v1 (ay [false,true])) (aQ (bn [false,true] v1) λx2=>br x2 (jl w p eI l v l1 sR v1 (ag.mk (aV .i64 x1.ready w.t.bJ) 0)) (jl w p eI l v l1 sR v1 x1)) (some (.inr (l1,sR)))
def fM(w:ax)(p:ah)(eI:Int)(l:List ag)(cV v:Int):O ((List ag×Int×Int)⊕(List ag×Int)):=br (bh v (ay p.fi)) (aQ (bn p.fi v) λx0=>aQ (aL (λs=>eS w p eI l v s.1 s.2.1 s.2.2.1 s.2.2.2) (l,x0,cV,0)) (λe0=>(λl2 Xl=>some (.inl (l2,Xl,(aV .i64 v 1)))) e0.1 e0.2)) (some (.inr (l,cV)))
def jH(w:ax)(p:ah)(eI:Int):O (List ag×Int×ax):=aQ (aL (λs=>fM w p eI s.1 s.2.1 s.2.2) ([],0,0)) (λe0=>(λl3 Xm=>some (l3,Xm,w)) e0.1 e0.2)
def vg(s0:aS)(iA:Int):O (Int×Int):=br (dt (vZ iA s0.bA) s0.bI) (some (0,14)) (some ((vZ iA s0.bA),0))
def tR(s0:aS)(iA:Int):O (Int×Int):=aQ (vg s0 iA) λr=>br (cp r.2 0) (some (0,r.2)) (some ((aV .i64 r.1 s0.dG),0))
def kC(c d:ag):O Bool:=some ((dk c.ready d.ready)&&(gB c.cz d.cz))
def yL(d c:ag):O Bool:=aQ (kC d c) λr=>some r
def bL(s0:List ag)(c:ag)(v:Int):O ((Int)⊕((Unit)⊕(Int))):=br (bh v (ay s0)) (aQ (bn s0 v) λx0=>aQ (yL x0 c) λr=>br r (some (.inr (.inr v))) (some (.inl (aV .i64 v 1)))) (some (.inr (.inl ())))
def dM(s0:List ag)(c:ag):O Int:=aQ (aL (λs=>bL s0 c s) 0) (λe=>jg e (λ(_:Unit)=>some (-1)) (λr1=>some r1))
def cq(s0:List ag)(c:ag):O Bool:=aQ (dM s0 c) λr=>some (cT r 0)
def yM(d c:ag):O Bool:=aQ (kC c d) λr=>some r
def lu(l:List ag)(s0:aS)(l1:List ag)(v:Int):O ((List ag×Int)⊕(List ag)):=br (bh v (ay l)) (aQ (bn l v) λx0=>aQ (tR s0 x0.ready) λr=>br (cp r.2 0) (some (.inl (l1,(aV .i64 v 1)))) (aQ (cq l1 (ag.mk r.1 x0.cz)) λr1=>br r1 (some (.inl (l1,(aV .i64 v 1)))) (aQ (YH (λy_=>yM y_ (ag.mk r.1 x0.cz)) l1) λl2=>ft (fQ (l2++[(ag.mk r.1 x0.cz)]).length 16) (some (.inl ((l2++[(ag.mk r.1 x0.cz)]),(aV .i64 v 1))))))) (some (.inr l1))
def u5(l:List ag)(s0:aS):O (List ag):=aQ (aL (λs=>lu l s0 s.1 s.2) ([],0)) (λl3=>some l3)
def f_(v:ab)(x1:ax)(x2:ah)(ok:Bool):O (ah×Bool×ax):=br ok (aQ (n_ x1 x2 v) λr2=>br r2.2.1 (aQ (uC r2.2.2.x.ai v) λr3=>br (cp r3.2 0) (some (r2.1,false,r2.2.2)) (aQ (jH r2.2.2 r2.1 r3.1.place) λr4=>aQ (u5 r4.1 r3.1) λr5=>aQ (gy r4.2.2 r2.1.value (uh .i64 (nh .i64 r4.2.2.t.cP r4.2.1) 24)) λr6=>some ((ah.mk r3.1.place r2.1.memory r2.1.mD (aV .i64 r2.1.ak 1) r2.1.load r5 r6),(dt (ay r5) 0),r4.2.2))) (some (r2.1,false,r2.2.2))) (some (x2,false,x1))
def qM(w:ax)(p:ah)(v:ab):O (ah×Bool×ax):=aQ (bn w.x.ai v.aP) λx0=>br ((cT p.ak w.tn)||x0.off) (some (p,false,w)) (aQ (sI w.t x0.cF) λr=>br r (br ((!v.drop)||(bh x0.pick.place 0)) (aQ (pO w p v.aP) λr1=>f_ v r1.2.2 r1.1 r1.2.1) (f_ v w p true)) (some (p,false,w)))
def gI(r:List ag×Int×ax)(out v:Int):O ((Int×Int)⊕(Int)):=br (bh v (ay r.1)) (aQ (bn r.1 v) λx0=>br (gB x0.ready r.2.2.t.bI) (br (bh out 0) (some (.inl (x0.ready,(aV .i64 v 1)))) (br (bh x0.ready out) (some (.inl (x0.ready,(aV .i64 v 1)))) (some (.inl (out,(aV .i64 v 1)))))) (some (.inl (out,(aV .i64 v 1))))) (some (.inr out))
def rX(w:ax)(p:ah):O (Int×Int×Bool×ax):=br ((dk p.ak 0)||(cp p.mD 0)) (some (0,0,false,w)) (aQ (jH w p w.t.eI) λr=>aQ (aL (λs=>gI r s.1 s.2) ((-1),0)) (λL9=>some (L9,r.2.1,(cT L9 0),r.2.2)))
def l_(w:ax)(p:ah)(j8 cV:Int):O I:=aQ (gy w p.value (aV .i64 (uh .i64 (aV .i64 (aV .i64 w.t.gA (nh .i64 w.t.cP cV)) (nh .i64 w.t.de (cX .i64 j8 w.t.bA))) 24) (nh .i64 (q_ .i64 (cX .i64 j8 w.t.bA) 64) (q_ .i64 (cX .i64 j8 w.t.bA) 64)))) λr=>some r
def DA(a b:Int):O Bool:=some (dk (uO .i64 a b) 0)
def p7(c c1:ag):O Bool:=aQ (kC c c1) λr=>some r
def bO(s0:List ag)(c:ag)(v:Int):O ((Int)⊕((Unit)⊕(Int))):=br (bh v (ay s0)) (aQ (bn s0 v) λx0=>aQ (p7 x0 c) λr=>br r (some (.inr (.inr v))) (some (.inl (aV .i64 v 1)))) (some (.inr (.inl ())))
def dQ(s0:List ag)(c:ag):O Int:=aQ (aL (λs=>bO s0 c s) 0) (λe=>jg e (λ(_:Unit)=>some (-1)) (λr1=>some r1))
def cu(s0:List ag)(c:ag):O Bool:=aQ (dQ s0 c) λr=>some (cT r 0)
def fA(p q:ah)(v:Int):O ((Int)⊕((Unit)⊕(Bool))):=br (bh v (ay q.fi)) (aQ (bn q.fi v) λx0=>aQ (cu p.fi x0) λr3=>br r3 (some (.inl (aV .i64 v 1))) (some (.inr (.inr false)))) (some (.inr (.inl ())))
def n9(p q:ah):O Bool:=br ((cp p.place q.place)||(cp p.mD q.mD)) (some false) (aQ (DA p.memory q.memory) λr=>br ((!r)||(dt p.ak q.ak)) (some false) (aQ (sL p.load q.load) λr1=>br r1 (aQ (jn p.value q.value) λr2=>br (dt r2 0) (some false) (aQ (aL (λs=>fA p q s) 0) (λe=>jg e (λ(_:Unit)=>some true) (λr4=>some r4)))) (some false)))
def Ab(k c:ah):O Bool:=aQ (n9 k c) λr=>some r
def bE(s0:List ah)(c:ah)(v:Int):O ((Int)⊕((Unit)⊕(Int))):=br (bh v (ay s0)) (aQ (bn s0 v) λx0=>aQ (Ab x0 c) λr=>br r (some (.inr (.inr v))) (some (.inl (aV .i64 v 1)))) (some (.inr (.inl ())))
def dD(s0:List ah)(c:ah):O Int:=aQ (aL (λs=>bE s0 c s) 0) (λe=>jg e (λ(_:Unit)=>some (-1)) (λr1=>some r1))
def cj(s0:List ah)(c:ah):O Bool:=aQ (dD s0 c) λr=>some (cT r 0)
def mQ(x0:ae)(cR:List I)(c:ax)(v:Int):O ((Int)⊕((Unit)⊕(I×Bool×Int))):=br (bh v (ay cR)) (aQ (bn cR v) λx1=>aQ (oN x1) λr1=>br r1 (some (.inl (aV .i64 v 1))) (some (.inr (.inr (ByteArray.empty,false,3))))) (some (.inr (.inl ())))
def mS(c:ax)(r2:List ab)(l l1:List ah)(v1:Int)(x4:ah)(l4 l5:List ah)(x5:ax)(Eg:I)(wE:Bool)(v2:Int):O ((List ah×List ah×ax×I×Bool×Int)⊕(List ah×List ah×ax×I×Bool)):=br (bh v2 (ay r2)) (aQ (bn r2 v2) λx6=>aQ (qM x5 x4 x6) λr4=>br r4.2.1 (aQ (cj l4 r4.1) λr5=>br r5 (some (.inl (l4,l5,r4.2.2,Eg,wE,(aV .i64 v2 1)))) (ft (fQ (l4++[r4.1]).length 96) (ft (fQ (l5++[r4.1]).length 96) (aQ (rX r4.2.2 r4.1) λr6=>br r6.2.2.1 (aQ (l_ r6.2.2.2 r4.1 r6.1 r6.2.1) λr7=>br wE (aQ (jn r7 Eg) λr8=>br (bh r8 0) (some (.inl ((l4++[r4.1]),(l5++[r4.1]),r6.2.2.2,r7,true,(aV .i64 v2 1)))) (some (.inl ((l4++[r4.1]),(l5++[r4.1]),r6.2.2.2,Eg,wE,(aV .i64 v2 1))))) (some (.inl ((l4++[r4.1]),(l5++[r4.1]),r6.2.2.2,r7,true,(aV .i64 v2 1))))) (some (.inl ((l4++[r4.1]),(l5++[r4.1]),r6.2.2.2,Eg,wE,(aV .i64 v2 1)))))))) (some (.inl (l4,l5,r4.2.2,Eg,wE,(aV .i64 v2 1))))) (some (.inr (l4,l5,x5,Eg,wE)))
def mR(c:ax)(r2:List ab)(l l1 l2 l3:List ah)(x3:ax)(Yt:I)(LF:Bool)(v1:Int):O ((List ah×List ah×ax×I×Bool×Int)⊕(List ah×List ah×ax×I×Bool)):=br (bh v1 (ay l1)) (aQ (bn l1 v1) λx4=>aQ (aL (λs=>mS c r2 l l1 v1 x4 s.1 s.2.1 s.2.2.1 s.2.2.2.1 s.2.2.2.2.1 s.2.2.2.2.2) (l2,l3,x3,Yt,LF,0)) (λe0=>(λl6 l7 x7 QcX WL=>some (.inl (l6,l7,x7,QcX,WL,(aV .i64 v1 1)))) e0.1 e0.2.1 e0.2.2.1 e0.2.2.2.1 e0.2.2.2.2)) (some (.inr (l2,l3,x3,Yt,LF)))
def rV(c:ax)(r2:List ab)(l l1:List ah)(x2:ax)(dw:I)(dU:Bool):O ((List ah×List ah×ax×I×Bool)⊕(I×Bool)):=br (dt (ay l1) 0) (aQ (aL (λs=>mR c r2 l l1 s.1 s.2.1 s.2.2.1 s.2.2.2.1 s.2.2.2.2.1 s.2.2.2.2.2) (l,[],x2,dw,dU,0)) (λe0=>(λl8 l9 x8 QcY WM=>some (.inl (l8,l9,x8,QcY,WM))) e0.1 e0.2.1 e0.2.2.1 e0.2.2.2.1 e0.2.2.2.2)) (some (.inr (dw,dU)))
def Cs(cR:List I)(x9:ae)(v3:Int):O ((ae×Int)⊕((ae)⊕(I×Bool×Int))):=br (bh v3 (ay cR)) (aQ (bn cR v3) λx10=>aQ (oN x10) λwK=>br wK (some (.inl (x9,(aV .i64 v3 1)))) (some (.inr (.inr (ByteArray.empty,false,3))))) (some (.inr (.inl x9)))
def AB(x0:ae)(kind:Int)(cR:List I)(fZ:List Int):O (I×Bool×Int):=aQ (wU x0 kind fZ) λr=>opt (r.1) (λc=>br ((cp r.2 0)||(cp (ay cR) (ay x0.ai))) (some (ByteArray.empty,false,2)) (aQ (aL (λs=>mQ x0 cR c s) 0) (λe=>jg e (λ(_:Unit)=>aQ (BL x0) λr2=>aQ (lZ (ax.mk c.x c.kind c.t c.fZ cR c.tn)) λr3=>aQ (aL (λs=>rV c r2 s.1 s.2.1 s.2.2.1 s.2.2.2.1 s.2.2.2.2) ([],[r3.1],r3.2,ByteArray.empty,false)) (λe0=>(λQcZ WN=>some (QcZ,WN,0)) e0.1 e0.2)) (λr9=>some r9)))) (br ((cp r.2 0)||(cp (ay cR) (ay x0.ai))) (some (ByteArray.empty,false,2)) (aQ (aL (λs=>Cs cR s.1 s.2) (x0,0)) (λe=>jg e (λx11=>none) (λHI=>some HI))))
def jx(b9:Int)(l:List Int)(v:Int):O ((List Int×Int)⊕(List Int)):=br (bh v 63) (aQ (iN b9 v) λr=>br r (ft (fQ (l++[v]).length 8) (some (.inl ((l++[v]),(aV .i64 v 1))))) (some (.inl (l,(aV .i64 v 1))))) (some (.inr l))
def sW(b9:Int):O (List Int):=aQ (aL (λs=>jx b9 s.1 s.2) ([],0)) (λl1=>some l1)
def tz(before:List aW)(l l2:List Int)(Vx:Bool)(v:Int):O ((List Int×Bool×Int)⊕(List Int×Bool)):=br (bh v (ay before)) (aQ (bn before v) λx0=>br ((((bh x0.x0 0)||(bh x0.x1 0))||(cT x0.x0 (ay l2)))||(cT x0.x1 (ay l2))) (some (.inl (l2,Vx,(aV .i64 v 1)))) (aQ (bn l2 x0.x1) λx1=>aQ (bn l2 x0.x0) λx2=>ft ((0:Int)<=x0.x0) (br (cp (QA .i64 (QA .i64 x1 x2) (uh .i64 1 x0.x0)) x1) (some (.inl ((jq l2 x0.x1 (QA .i64 (QA .i64 x1 x2) (uh .i64 1 x0.x0))),true,(aV .i64 v 1)))) (some (.inl (l2,Vx,(aV .i64 v 1))))))) (some (.inr (l2,Vx)))
def tv(before:List aW)(l l1:List Int)(more:Bool):O ((List Int×Bool)⊕(List Int)):=br more (aQ (aL (λs=>tz before l s.1 s.2.1 s.2.2) (l1,false,0)) (λe0=>(λl3 QdI=>some (.inl (l3,QdI))) e0.1 e0.2)) (some (.inr l1))
def yN(ai:Int)(before:List aW):O (List Int):=aQ (Bd (vZ ai 0) (vZ ai 0) 8 0) λl=>aQ (aL (λs=>tv before l s.1 s.2) (l,true)) (λl4=>some l4)
def eJ(x0:ae)(b9:Int)(r:List Int)(v:Int):O ((Int)⊕((Unit)⊕(Int))):=br (bh v (ay r)) (aQ (bn r v) λx1=>br (cT x1 (ay x0.ai)) (some (.inr (.inr 2))) (some (.inl (aV .i64 v 1)))) (some (.inr (.inl ())))
def eK(x0:ae)(b9:Int)(r:List Int)(v1:Int):O ((Int)⊕((Unit)⊕(Int))):=br (bh v1 (ay r)) (aQ (bn r v1) λx2=>aQ (bn x0.ai x2) λx3=>br x3.off (some (.inr (.inr 9))) (some (.inl (aV .i64 v1 1)))) (some (.inr (.inl ())))
def eM(x0:ae)(b9:Int)(r:List Int)(v2:Int):O ((Int)⊕((Unit)⊕(Int))):=br (bh v2 (ay x0.dx)) (aQ (bn x0.dx v2) λx4=>aQ (iN b9 x4.x0) λr1=>br r1 (aQ (iN b9 x4.x1) λr2=>br r2 (some (.inr (.inr 20))) (some (.inl (aV .i64 v2 1)))) (some (.inl (aV .i64 v2 1)))) (some (.inr (.inl ())))
def eN(x0:ae)(b9:Int)(r:List Int)(v3:Int):O ((Int)⊕((Unit)⊕(Int))):=br (bh v3 (ay x0.before)) (aQ (bn x0.before v3) λx5=>aQ (iN b9 x5.x1) λr3=>br r3 (aQ (iN b9 x5.x0) λr4=>br r4 (some (.inl (aV .i64 v3 1))) (some (.inr (.inr 21)))) (some (.inl (aV .i64 v3 1)))) (some (.inr (.inl ())))
def eO(r r5:List Int)(v4:Int):O ((Int)⊕((Unit)⊕(Int))):=br (bh v4 (ay r)) (aQ (bn r v4) λx6=>aQ (bn r5 x6) λx7=>aQ (iN x7 x6) λr6=>br r6 (some (.inr (.inr 21))) (some (.inl (aV .i64 v4 1)))) (some (.inr (.inl ())))
def oU(x0:ae)(b9:Int):O Int:=br (bh b9 0) (some 2) (aQ (sW b9) λr=>aQ (aL (λs=>eJ x0 b9 r s) 0) (λe=>jg e (λ(_:Unit)=>aQ (aL (λs=>eK x0 b9 r s) 0) (λe=>jg e (λ(_:Unit)=>aQ (aL (λs=>eM x0 b9 r s) 0) (λe=>jg e (λ(_:Unit)=>aQ (aL (λs=>eN x0 b9 r s) 0) (λe=>jg e (λ(_:Unit)=>aQ (yN (ay x0.ai) x0.before) λr5=>aQ (aL (λs=>eO r r5 s) 0) (λe=>jg e (λ(_:Unit)=>some 0) (λr7=>some r7))) (λr8=>some r8))) (λr9=>some r9))) (λwK=>some wK))) (λHI=>some HI)))
def AA(s0:cb):O QaM:=some (QaM.mk s0.y7 s0.jz s0.gY s0.K6)
def sT(s0:cb):O (Int×Int):=aQ (AA s0) λr=>br (bh r.x0 0) (some (0,2)) (br (bh r.x1 0) (some (0,2)) (br (bh r.x2 0) (some (0,2)) (br (bh r.x3 0) (some (0,2)) (br ((((dt s0.y7 1073741824)||(cT s0.jz 16))||(cT s0.gY 16))||(cT s0.K6 65536)) (some (0,4)) (some ((aV .i64 (nh .i64 (aV .i64 (nh .i64 (aV .i64 (nh .i64 s0.y7 16) s0.jz) 16) s0.gY) 65536) s0.K6),0))))))
def cS(s0:List ab)(v:ab)(v1:Int):O ((Int)⊕((Unit)⊕(Int))):=br (bh v1 (ay s0)) (aQ (bn s0 v1) λx0=>br (dk v.aP x0.aP&&(GL v.drop x0.drop&&true)) (some (.inr (.inr v1))) (some (.inl (aV .i64 v1 1)))) (some (.inr (.inl ())))
def d_(s0:List ab)(v:ab):O Int:=aQ (aL (λs=>cS s0 v s) 0) (λe=>jg e (λ(_:Unit)=>some (-1)) (λr=>some r))
def jo(l:List ab)(v:ab):O Int:=aQ (d_ l v) λr=>some r
def je(l:List ab)(v:Int):O ((Int)⊕((Unit)⊕(Bool))):=br (bh v (ay l)) (aQ (bn l v) λx0=>aQ (wm l 0 v) λl1=>aQ (jo l1 x0) λr=>br (cT r 0) (some (.inr (.inr true))) (some (.inl (aV .i64 v 1)))) (some (.inr (.inl ())))
def uI(l:List ab):O Bool:=aQ (aL (λs=>je l s) 0) (λe=>jg e (λ(_:Unit)=>some false) (λr1=>some r1))
def eD(s0:List ab)(v:ab):O Bool:=aQ (d_ s0 v) λr=>some (cT r 0)
def dV(x0:ae)(l:List ab)(v:Int)(r:List ab)(cr v1:Int):O ((Int×Int)⊕((Unit)⊕(Bool))):=br (bh v1 (ay r)) (aQ (bn r v1) λx2=>aQ (jo l x2) λr2=>br (gB r2 cr) (some (.inr (.inr false))) (some (.inl (r2,(aV .i64 v1 1))))) (some (.inr (.inl ())))
def ig(x0:ae)(l:List ab)(v:Int):O ((Int)⊕((Unit)⊕(Bool))):=br (bh v (ay l)) (aQ (bn l v) λx1=>aQ (mr x0.ai x1.aP) λr=>aQ (eD r x1) λr1=>br r1 (aQ (aL (λs=>dV x0 l v r s.1 s.2) ((-1),0)) (λe=>jg e (λ(_:Unit)=>some (.inl (aV .i64 v 1))) (λr3=>some (.inr (.inr r3))))) (some (.inr (.inr false)))) (some (.inr (.inl ())))
def tC(x0:ae)(l:List ab):O Bool:=aQ (aL (λs=>ig x0 l s) 0) (λe=>jg e (λ(_:Unit)=>some true) (λr4=>some r4))
def yR(v:ab)(c:Int):O Bool:=some (dk v.aP c)
def bW(s0:List ab)(c v:Int):O ((Int)⊕((Unit)⊕(Int))):=br (bh v (ay s0)) (aQ (bn s0 v) λx0=>aQ (yR x0 c) λr=>br r (some (.inr (.inr v))) (some (.inl (aV .i64 v 1)))) (some (.inr (.inl ())))
def dI(s0:List ab)(c:Int):O Int:=aQ (aL (λs=>bW s0 c s) 0) (λe=>jg e (λ(_:Unit)=>some (-1)) (λr1=>some r1))
def ec(s0:List ab)(c:Int):O Bool:=aQ (dI s0 c) λr=>some (cT r 0)
def qN(l:List ab)(o:Int):O Bool:=aQ (ec l o) λr=>some r
def ue(v:ab)(c:Int):O Bool:=some (dk v.aP c)
def bQ(s0:List ab)(c v:Int):O ((Int)⊕((Unit)⊕(Int))):=br (bh v (ay s0)) (aQ (bn s0 v) λx0=>aQ (ue x0 c) λr=>br r (some (.inr (.inr v))) (some (.inl (aV .i64 v 1)))) (some (.inr (.inl ())))
def dq(s0:List ab)(c:Int):O Int:=aQ (aL (λs=>bQ s0 c s) 0) (λe=>jg e (λ(_:Unit)=>some (-1)) (λr1=>some r1))
def tB(l:List ab)(a b:Int):O Bool:=aQ (dq l b) λr=>br (bh r 0) (some true) (aQ (qN l a) λr1=>br r1 (aQ (wm l r (ay l)) λl1=>aQ (qN l1 a) λr2=>some (!r2)) (some false))
def u6(v:ab)(c:ae):O Bool:=some ((bh v.aP 0)||(cT v.aP (ay c.ai)))
def bR(s0:List ab)(c:ae)(v:Int):O ((Int)⊕((Unit)⊕(Int))):=br (bh v (ay s0)) (aQ (bn s0 v) λx0=>aQ (u6 x0 c) λr=>br r (some (.inr (.inr v))) (some (.inl (aV .i64 v 1)))) (some (.inr (.inl ())))
def dz(s0:List ab)(c:ae):O Int:=aQ (aL (λs=>bR s0 c s) 0) (λe=>jg e (λ(_:Unit)=>some (-1)) (λr1=>some r1))
def dh(s0:List ab)(c:ae):O Bool:=aQ (dz s0 c) λr=>some (cT r 0)
def u7(v:ab)(c:ae):O Bool:=aQ (bn c.ai v.aP) λx0=>some x0.off
def bU(s0:List ab)(c:ae)(v:Int):O ((Int)⊕((Unit)⊕(Int))):=br (bh v (ay s0)) (aQ (bn s0 v) λx0=>aQ (u7 x0 c) λr=>br r (some (.inr (.inr v))) (some (.inl (aV .i64 v 1)))) (some (.inr (.inl ())))
def dA(s0:List ab)(c:ae):O Int:=aQ (aL (λs=>bU s0 c s) 0) (λe=>jg e (λ(_:Unit)=>some (-1)) (λr1=>some r1))
def di(s0:List ab)(c:ae):O Bool:=aQ (dA s0 c) λr=>some (cT r 0)
def i_(x0:ae)(r:aD)(v:Int):O ((Int)⊕((Unit)⊕(Int))):=br (bh v (ay x0.dx)) (aQ (bn x0.dx v) λx1=>aQ (qN r.ak x1.x0) λr5=>br r5 (aQ (qN r.ak x1.x1) λr6=>br r6 (some (.inr (.inr 20))) (some (.inl (aV .i64 v 1)))) (some (.inl (aV .i64 v 1)))) (some (.inr (.inl ())))
def ja(x0:ae)(r:aD)(v1:Int):O ((Int)⊕((Unit)⊕(Int))):=br (bh v1 (ay x0.before)) (aQ (bn x0.before v1) λx2=>aQ (tB r.ak x2.x0 x2.x1) λr7=>br r7 (some (.inl (aV .i64 v1 1))) (some (.inr (.inr 21)))) (some (.inr (.inl ())))
def rY(x0:ae)(r:aD):O Int:=br (dk (ay r.ak) 0) (some 2) (aQ (dh r.ak x0) λr1=>br r1 (some 2) (aQ (di r.ak x0) λr2=>br r2 (some 9) (aQ (uI r.ak) λr3=>br r3 (some 6) (aQ (tC x0 r.ak) λr4=>br r4 (aQ (aL (λs=>i_ x0 r s) 0) (λe=>jg e (λ(_:Unit)=>aQ (aL (λs=>ja x0 r s) 0) (λe=>jg e (λ(_:Unit)=>some 0) (λr8=>some r8))) (λr9=>some r9))) (some 19)))))
def oT(x0:ae)(r:aD)(v:Int):O ((Int)⊕((Unit)⊕(Int))):=br (bh v (ay r.ak)) (aQ (bn r.ak v) λx1=>aQ (bn x0.types r.bt) λx2=>aQ (bn x0.ai x1.aP) λx3=>aQ (sI x2 x3.cF) λr1=>br r1 (some (.inl (aV .i64 v 1))) (some (.inr (.inr 18)))) (some (.inr (.inl ())))
def Cv(x0:ae)(r:aD):O Int:=aQ (aL (λs=>oT x0 r s) 0) (λe=>jg e (λ(_:Unit)=>some 0) (λr2=>some r2))
def pQ(r:aD)(b9 v:Int):O ((Int×Int)⊕((Int)⊕(Int×Int))):=br (bh v (ay r.ak)) (aQ (bn r.ak v) λx0=>br ((bh x0.aP 0)||(dt x0.aP 62)) (some (.inr (.inr (0,2)))) (ft ((0:Int)<=x0.aP) (some (.inl ((QA .i64 b9 (uh .i64 1 x0.aP)),(aV .i64 v 1)))))) (some (.inr (.inl b9)))
def tA(r:aD):O (Int×Int):=aQ (aL (λs=>pQ r s.1 s.2) (0,0)) (λe=>jg e (λVV=>some (VV,0)) (λr1=>some r1))
def kj(x0:ae)(l r sum:List Int)(v:Int):O ((List Int×Int)⊕(List Int)):=br (bh v (ay r)) (aQ (bn r v) λx1=>aQ (bn x0.ai x1) λx2=>br (bh x2.pick.place 0) (aQ (xb sum x2.load) λr1=>some (.inl (r1.1,(aV .i64 v 1)))) (some (.inl (sum,(aV .i64 v 1))))) (some (.inr sum))
def Ai(x0:ae)(b9 dS:Int):O (List Int):=aQ (Bd dS dS 8 0) λl=>aQ (sW b9) λr=>aQ (aL (λs=>kj x0 l r s.1 s.2) (l,0)) (λXY=>some XY)
def B3(l:List av):O Int:=br (dk (ay l) 0) (some 0) (aQ (bn l 0) λx0=>some (ay x0.cap))
def ki(x0:ae)(r:aD)(l:List (List Int))(now:List Int)(v:Int):O ((List (List Int)×List Int×Int)⊕((List (List Int))⊕(List (List Int)×Int))):=br (bh v (ay r.ak)) (aQ (bn r.ak v) λx1=>br x1.drop (aQ (bn x0.ai x1.aP) λx2=>aQ (zJ now x2.load) λr5=>br (cp r5.2 0) (some (.inr (.inr ([],r5.2)))) (ft (fQ (l++[r5.1]).length 24) (some (.inl ((l++[r5.1]),r5.1,(aV .i64 v 1)))))) (aQ (bn x0.ai x1.aP) λx3=>aQ (xb now x3.load) λr6=>br (cp r6.2 0) (some (.inr (.inr ([],r6.2)))) (ft (fQ (l++[r6.1]).length 24) (some (.inl ((l++[r6.1]),r6.1,(aV .i64 v 1))))))) (some (.inr (.inl l)))
def Ah(x0:ae)(r:aD):O (List (List Int)×Int):=aQ (rY x0 r) λr1=>br (cp r1 0) (some ([],r1)) (aQ (tA r) λr2=>br (cp r2.2 0) (some ([],r2.2)) (aQ (B3 x0.types) λr3=>aQ (Ai x0 r2.1 r3) λr4=>aQ (aL (λs=>ki x0 r s.1 s.2.1 s.2.2) ([r4],r4,0)) (λe=>jg e (λl1=>some (l1,0)) (λr7=>some r7))))
def Bm(a:List Int)(c:ae)(c1:aD):O Bool:=aQ (bn c.types c1.bt) λx0=>aQ (sL a x0.cap) λr=>some (!r)
def cJ(s0:List (List Int))(c:ae)(c1:aD)(v:Int):O ((Int)⊕((Unit)⊕(Int))):=br (bh v (ay s0)) (aQ (bn s0 v) λx0=>aQ (Bm x0 c c1) λr=>br r (some (.inr (.inr v))) (some (.inl (aV .i64 v 1)))) (some (.inr (.inl ())))
def eE(s0:List (List Int))(c:ae)(c1:aD):O Int:=aQ (aL (λs=>cJ s0 c c1 s) 0) (λe=>jg e (λ(_:Unit)=>some (-1)) (λr1=>some r1))
def fg(s0:List (List Int))(c:ae)(c1:aD):O Bool:=aQ (eE s0 c c1) λr=>some (cT r 0)
def BV(x0:ae)(r:aD):O Int:=br ((bh r.bt 0)||(cT r.bt (ay x0.types))) (some 2) (aQ (Ah x0 r) λr1=>br (cp r1.2 0) (some r1.2) (aQ (fg r1.1 x0 r) λr2=>br r2 (some 17) (some 0)))
def vT(x0:ae)(r:aD)(x1:av)(l:List aS)(v:Int):O ((List aS×Int)⊕((List aS)⊕(bu×Bool))):=br (bh v (ay r.ak)) (aQ (bn r.ak v) λx2=>aQ (uC x0.ai x2) λr1=>br ((cp r1.2 0)||(bh r1.1.place 0)) (some (.inr (.inr ((bu.mk (ae.mk (aC.mk [] []) [] [] [] []) (av.mk ByteArray.empty 0 0 0 [] 0 0 0 0 0 0 0 0 0) (aD.mk 0 0 [] []) []),false)))) (ft (fQ (l++[r1.1]).length 32) (some (.inl ((l++[r1.1]),(aV .i64 v 1)))))) (some (.inr (.inl l)))
def zF(x0:ae)(r:aD):O (bu×Bool):=br (((((bh r.bt 0)||(cT r.bt (ay x0.types)))||(bh r.aE 0))||(dt r.aE 4096))||(dt (ay r.ak) 20)) (some ((bu.mk (ae.mk (aC.mk [] []) [] [] [] []) (av.mk ByteArray.empty 0 0 0 [] 0 0 0 0 0 0 0 0 0) (aD.mk 0 0 [] []) []),false)) (aQ (bn x0.types r.bt) λx1=>aQ (aL (λs=>vT x0 r x1 s.1 s.2) ([],0)) (λe=>jg e (λl1=>some ((bu.mk x0 x1 r l1),true)) (λr2=>some r2)))
def gx(p:bu):O aj:=some (aj.mk (vZ p.t.bA p.r.aE) 0 (a8.mk false 0 [] 0 0))
def o5(p:bu)(ak:Int):O Int:=br (dk ak 0) (some p.t.aY) (aQ (bn p.aA (cX .i64 ak 1)) λx0=>some x0.place)
def eP(s0:List a6):O (List a6):=br (List.isEmpty s0) (amb (some []) (ft (fQ s0.length 32) (some s0))) (ft (fQ s0.length 32) (some s0))
def lM(p:bu)(l:aj)(cW cz:Int)(lz:Bool)(pX:Int)(r2:Int×Int×Int)(l2:List a6)(ready j8:Int):O (aj×Int):=br (dt (cX .i64 (aV .i64 cz r2.1) cW) p.t.eu) (some ((aj.mk 0 0 (a8.mk false 0 [] 0 0)),16)) (some ((aj.mk ready (cX .i64 (aV .i64 cz r2.1) cW) (a8.mk lz pX l2 j8 (aV .i64 l.ct.cV r2.2.1))),0))
def jC(p:bu)(l:aj)(done cW cz:Int)(l1:List a6)(lz:Bool)(pX eI:Int):O (aj×Int):=aQ (o5 p done) λr1=>aQ (uB p.x.bV p.t.aJ r1 eI cW) λr2=>br (cp r2.2.2 0) (some ((aj.mk 0 0 (a8.mk false 0 [] 0 0)),12)) (br (dk done (ay p.aA)) (br (dt r2.1 p.t.bI) (some ((aj.mk 0 0 (a8.mk false 0 [] 0 0)),15)) (lM p l cW cz lz pX r2 l1 r2.1 r2.1)) (aQ (bn p.aA done) λx2=>aQ (vg x2 r2.1) λr3=>br (cp r3.2 0) (some ((aj.mk 0 0 (a8.mk false 0 [] 0 0)),14)) (ft (fQ (l1++[(a6.mk r2.1 r3.1 0 false)]).length 32) (lM p l cW cz lz pX r2 (l1++[(a6.mk r2.1 r3.1 0 false)]) (aV .i64 r3.1 x2.dG) l.ct.j8))))
def lK(p:bu)(l:aj)(done cW cz:Int)(l1:List a6)(lz:Bool)(pX:Int):O (aj×Int):=br (dk done (ay p.aA)) (jC p l done cW cz l1 lz pX p.t.eI) (aQ (bn p.aA done) λx1=>jC p l done cW cz l1 lz pX x1.place)
def lJ(p:bu)(l:aj)(done:Int)(bJ:Bool)(cW cz:Int):O (aj×Int):=aQ (eP l.ct.gK) λr=>br (dk done 0) (lK p l done cW cz r bJ cW) (aQ (bn r (cX .i64 done 1)) λx0=>lK p l done cW cz (jq (jq r (cX .i64 done 1) (a6.mk x0.iA x0.te x0.cW bJ)) (cX .i64 done 1) (a6.mk x0.iA x0.te cW bJ)) l.ct.bJ l.ct.cW)
def ll(p:bu)(l:aj)(done:Int)(bJ:Bool):O (aj×Int):=br bJ (lJ p l done bJ (aV .i64 l.ready p.t.bJ) 0) (lJ p l done bJ l.ready l.cz)
def xC(l m:aj):O Bool:=some ((dk l.ready m.ready)&&(gB l.cz m.cz))
def qs(m c:aj):O Bool:=aQ (xC m c) λr=>some r
def bD(s0:List aj)(c:aj)(v:Int):O ((Int)⊕((Unit)⊕(Int))):=br (bh v (ay s0)) (aQ (bn s0 v) λx0=>aQ (qs x0 c) λr=>br r (some (.inr (.inr v))) (some (.inl (aV .i64 v 1)))) (some (.inr (.inl ())))
def dW(s0:List aj)(c:aj):O Int:=aQ (aL (λs=>bD s0 c s) 0) (λe=>jg e (λ(_:Unit)=>some (-1)) (λr1=>some r1))
def cD(s0:List aj)(c:aj):O Bool:=aQ (dW s0 c) λr=>some (cT r 0)
def gf(p:bu)(l:List aj)(done:Int)(iB:List Bool)(v:Int)(x0:aj)(l3:List aj)(v1:Int):O ((List aj×Int)⊕(List aj)):=br (bh v1 (ay iB)) (aQ (bn iB v1) λx1=>aQ (ll p x0 done x1) λr=>br (dk r.2 0) (aQ (cD l3 r.1) λr1=>br r1 (some (.inl (l3,(aV .i64 v1 1)))) (ft (fQ (l3++[r.1]).length 72) (some (.inl ((l3++[r.1]),(aV .i64 v1 1)))))) (some (.inl (l3,(aV .i64 v1 1))))) (some (.inr l3))
def gb(p:bu)(l:List aj)(done:Int)(iB:List Bool)(l2:List aj)(v:Int):O ((List aj×Int)⊕(List aj)):=br (bh v (ay l)) (aQ (bn l v) λx0=>aQ (aL (λs=>gf p l done iB v x0 s.1 s.2) (l2,0)) (λl4=>some (.inl (l4,(aV .i64 v 1))))) (some (.inr l2))
def lH(p:bu)(l:List aj)(done:Int)(iB:List Bool):O (List aj):=aQ (aL (λs=>gb p l done iB s.1 s.2) ([],0)) (λl5=>some l5)
def nA(p:bu)(l:List aj)(done:Int):O (List aj):=br (bh done (ay p.r.aH)) (aQ (wm p.r.aH done (aV .i64 done 1)) λl1=>lH p l done l1) (lH p l done [false,true])
def qu(p:bu)(aH:List Bool)(r:aj)(bJ:Int)(x0:aj)(v:Int):O ((Int×aj×Int)⊕((aj)⊕(a8×Int))):=br (bh v (ay aH)) (aQ (bn aH v) λx1=>aQ (ll (bu.mk p.x (av.mk p.t.name p.t.q7 p.t.aY p.t.eI p.t.cap p.t.cF p.t.aJ p.t.bA p.t.bI p.t.eu bJ p.t.gA p.t.cP p.t.de) p.r p.aA) x0 v x1) λr1=>br (cp r1.2 0) (some (.inr (.inr ((a8.mk false 0 [] 0 0),r1.2)))) (some (.inl (bJ,r1.1,(aV .i64 v 1))))) (some (.inr (.inl x0)))
def rB(p:bu)(aH:List Bool):O (a8×Int):=aQ (gx p) λr=>aQ (aL (λs=>qu p aH r s.1 s.2.1 s.2.2) (p.t.bJ,r,0)) (λe=>jg e (λx2=>some (x2.ct,0)) (λr2=>some r2))
def j9(r:aD)(r1:bu×Bool)(l:List aj)(v:Int):O ((List aj×Int)⊕(List aj)):=br (bh v (aV .i64 (ay r.ak) 1)) (aQ (nA r1.1 l v) λr3=>some (.inl (r3,(aV .i64 v 1)))) (some (.inr l))
def j_(l3:List aj)(x2:aj)(v1:Int):O ((aj×Int)⊕(aj)):=br (bh v1 (ay l3)) (aQ (bn l3 v1) λx3=>br (bh x3.ct.j8 x2.ct.j8) (some (.inl (x3,(aV .i64 v1 1)))) (some (.inl (x2,(aV .i64 v1 1))))) (some (.inr x2))
def zE(x0:ae)(r:aD):O (a8×Int):=aQ (zF x0 r) λr1=>br ((!r1.2)||(dt (ay r.aH) (aV .i64 (ay r.ak) 1))) (some ((a8.mk false 0 [] 0 0),2)) (aQ (gx r1.1) λr2=>aQ (aL (λs=>j9 r r1 s.1 s.2) ([r2],0)) (λl1=>br (dk (ay l1) 0) (aQ (Bd (aV .i64 (ay r.ak) 1) (aV .i64 (ay r.ak) 1) 1 false) λl2=>aQ (rB r1.1 (Kl l2 r.aH)) λr4=>some (r4.1,r4.2)) (aQ (bn l1 0) λx1=>aQ (wm l1 1 (ay l1)) λl3=>aQ (aL (λs=>j_ l3 s.1 s.2) (x1,0)) (λx4=>some (x4.ct,0)))))
def wc(kind own:Int):O Bool:=some ((cp kind (-1))&&(cp kind own))
def uE(x0:ae)(r:aD)(s0:a8)(x1:av)(l:List (Int×Int))(gY v:Int)(x2:ab)(x3:aw)(Gf:Int):O ((List (Int×Int)×Int×Int×Int)⊕(Int×Int)):=aQ (wc x3.cr r.bt) λr2=>br r2 (some (.inl ((EL dk l x2.aP (aV .i64 (wM dk l x2.aP 0) 1)),Gf,(aV .i64 gY 1),(aV .i64 v 1)))) (some (.inl ((EL dk l x2.aP (aV .i64 (wM dk l x2.aP 0) 1)),Gf,gY,(aV .i64 v 1))))
def kA(x0:ae)(r:aD)(s0:a8)(x1:av)(l:List (Int×Int))(jz gY v:Int):O ((List (Int×Int)×Int×Int×Int)⊕(Int×Int)):=br (bh v (ay r.ak)) (aQ (bn r.ak v) λx2=>br ((bh x2.aP 0)||(cT x2.aP (ay x0.ai))) (some (.inl ((EL dk l x2.aP (aV .i64 (wM dk l x2.aP 0) 1)),jz,gY,(aV .i64 v 1)))) (br (dt (wM dk (EL dk l x2.aP (aV .i64 (wM dk l x2.aP 0) 1)) x2.aP 0) 1) (some (.inl ((EL dk l x2.aP (aV .i64 (wM dk l x2.aP 0) 1)),jz,gY,(aV .i64 v 1)))) (aQ (bn x0.ai x2.aP) λx3=>aQ (wc x3.now r.bt) λr1=>br r1 (uE x0 r s0 x1 l gY v x2 x3 (aV .i64 jz 1)) (uE x0 r s0 x1 l gY v x2 x3 jz)))) (some (.inr (jz,gY)))
def Az(x0:ae)(r:aD)(s0:a8):O cb:=br ((bh r.bt 0)||(cT r.bt (ay x0.types))) (some (cb.mk 0 0 0 0)) (aQ (bn x0.types r.bt) λx1=>aQ (aL (λs=>kA x0 r s0 x1 s.1 s.2.1 s.2.2.1 s.2.2.2) ([],0,0,0)) (λe0=>(λPj Pq=>some (cb.mk (aV .i64 (aV .i64 x1.gA (nh .i64 x1.cP s0.cV)) (nh .i64 x1.de (cX .i64 s0.j8 x1.bA))) Pj Pq (nh .i64 (q_ .i64 (cX .i64 s0.j8 x1.bA) 64) (q_ .i64 (cX .i64 s0.j8 x1.bA) 64)))) e0.1 e0.2))
def mV(x0:ae)(r:aD):O (a8×cb×Int):=br ((bh r.bt 0)||(cT r.bt (ay x0.types))) (some ((a8.mk false 0 [] 0 0),(cb.mk 0 0 0 0),2)) (aQ (rY x0 r) λr1=>br (cp r1 0) (some ((a8.mk false 0 [] 0 0),(cb.mk 0 0 0 0),r1)) (aQ (Cv x0 r) λr2=>br (cp r2 0) (some ((a8.mk false 0 [] 0 0),(cb.mk 0 0 0 0),r2)) (aQ (BV x0 r) λr3=>br (cp r3 0) (some ((a8.mk false 0 [] 0 0),(cb.mk 0 0 0 0),r3)) (aQ (zE x0 r) λr4=>br (cp r4.2 0) (some ((a8.mk false 0 [] 0 0),(cb.mk 0 0 0 0),r4.2)) (aQ (Az x0 r r4.1) λr5=>some (r4.1,r5,0))))))
def mW(x0:ae)(r:aD):O (Int×Int):=aQ (mV x0 r) λr1=>br (cp r1.2.2 0) (some (0,r1.2.2)) (aQ (sT r1.2.1) λr2=>some (r2.1,r2.2))
def ko(iM:List Int)(v:Int):O ((Int)⊕((Unit)⊕(Int))):=br (bh v (ay iM)) (aQ (bn iM v) λx0=>br (cp x0 0) (some (.inr (.inr x0))) (some (.inl (aV .i64 v 1)))) (some (.inr (.inl ())))
def Ak(iM:List Int):O Int:=aQ (aL (λs=>ko iM s) 0) (λe=>jg e (λ(_:Unit)=>some 0) (λr=>some r))
def mc(v:ab):O Int:=br v.drop (some 1) (some 0)
def rZ(a b:ab):O Int:=aQ (gw a.aP b.aP) λr=>aQ (mc a) λr1=>aQ (mc b) λr2=>aQ (gw r1 r2) λr3=>aQ (Ak [r,r3]) λr4=>some r4
def bq(s1 s2:List ab)(v:Int):O ((Int)⊕((Unit)⊕(Int))):=br (bh v (ay s1)) (aQ (bn s1 v) λx0=>br (cT v (ay s2)) (some (.inr (.inr 1))) (aQ (bn s2 v) λx1=>aQ (rZ x0 x1) λr=>br (cp r 0) (some (.inr (.inr r))) (some (.inl (aV .i64 v 1))))) (some (.inr (.inl ())))
def cL(s1 s2:List ab):O Int:=aQ (aL (λs=>bq s1 s2 s) 0) (λe=>jg e (λ(_:Unit)=>br (bh (ay s1) (ay s2)) (some (-1)) (some 0)) (λr1=>some r1))
def wj(a b:List ab):O Bool:=aQ (cL a b) λr=>some (bh r 0)
def wZ(a b:aM):O Bool:=br (cp a.p_ b.p_) (some (bh a.p_ b.p_)) (aQ (wj a.eG.ak b.eG.ak) λr=>some r)
def gR(x0:ae)(l:List ab)(v:ab)(r1:List ab)(v1:Int):O ((Int)⊕((Unit)⊕(Bool))):=br (bh v1 (ay r1)) (aQ (bn r1 v1) λx1=>br (dk x1.aP v.aP&&(GL x1.drop v.drop&&true)) (some (.inr (.inl ()))) (aQ (jo l x1) λr2=>br (bh r2 0) (some (.inr (.inr false))) (some (.inl (aV .i64 v1 1))))) (some (.inr (.inl ())))
def jd(x0:ae)(l:List ab)(v:ab)(v2:Int)(r3:List ab)(v3:Int):O ((Int)⊕((Unit)⊕(Bool))):=br (bh v3 (ay r3)) (aQ (bn r3 v3) λx3=>aQ (jo l x3) λr4=>br (bh r4 0) (some (.inr (.inr false))) (some (.inl (aV .i64 v3 1)))) (some (.inr (.inl ())))
def jc(x0:ae)(l:List ab)(v:ab)(v2:Int):O ((Int)⊕((Unit)⊕(Bool))):=br (bh v2 (ay x0.before)) (aQ (bn x0.before v2) λx2=>br (cp x2.x1 v.aP) (some (.inl (aV .i64 v2 1))) (aQ (mr x0.ai x2.x0) λr3=>aQ (aL (λs=>jd x0 l v v2 r3 s) 0) (λe=>jg e (λ(_:Unit)=>some (.inl (aV .i64 v2 1))) (λr5=>some (.inr (.inr r5)))))) (some (.inr (.inl ())))
def uH(x0:ae)(l:List ab)(v:ab):O Bool:=aQ (jo l v) λr=>br (cT r 0) (some false) (aQ (mr x0.ai v.aP) λr1=>aQ (aL (λs=>gR x0 l v r1 s) 0) (λe=>jg e (λ(_:Unit)=>aQ (aL (λs=>jc x0 l v s) 0) (λe=>jg e (λ(_:Unit)=>some true) (λr6=>some r6))) (λr7=>some r7)))
def jT(x0:ae)(b9:Int)(l:List ab)(v:Int)(r l2:List ab)(v1:Int):O ((List ab×Int)⊕(List ab)):=br (bh v1 (ay r)) (aQ (bn r v1) λx2=>aQ (uH x0 l x2) λr1=>br r1 (ft (fQ (l2++[x2]).length 16) (some (.inl ((l2++[x2]),(aV .i64 v1 1))))) (some (.inl (l2,(aV .i64 v1 1))))) (some (.inr l2))
def iK(x0:ae)(b9:Int)(l l1:List ab)(v:Int):O ((List ab×Int)⊕(List ab)):=br (bh v (ay x0.ai)) (aQ (bn x0.ai v) λx1=>br (dt v 62) (some (.inl (l1,(aV .i64 v 1)))) (ft ((0:Int)<=v) (br ((dk (MO .i64 (AZ .i64 b9 v) 1) 0)||x1.off) (some (.inl (l1,(aV .i64 v 1)))) (aQ (mr x0.ai v) λr=>aQ (aL (λs=>jT x0 b9 l v r s.1 s.2) (l1,0)) (λl3=>some (.inl (l3,(aV .i64 v 1)))))))) (some (.inr l1))
def wk(x0:ae)(b9:Int)(l:List ab):O (List ab):=aQ (aL (λs=>iK x0 b9 l s.1 s.2) ([],0)) (λl4=>some l4)
def cM(s0:List aB)(v:aB)(v1:Int):O ((Int)⊕((Unit)⊕(Int))):=br (bh v1 (ay s0)) (aQ (bn s0 v1) λx0=>br (dk v.ready x0.ready&&(dk v.gL x0.gL&&true)) (some (.inr (.inr v1))) (some (.inl (aV .i64 v1 1)))) (some (.inr (.inl ())))
def eQ(s0:List aB)(v:aB):O Int:=aQ (aL (λs=>cM s0 v s) 0) (λe=>jg e (λ(_:Unit)=>some (-1)) (λr=>some r))
def fp(s0:List aB)(v:aB):O Bool:=aQ (eQ s0 v) λr=>some (cT r 0)
def oG(l:List aB)(s0:aB):O (List aB):=aQ (fp l s0) λr=>br r (some l) (ft (fQ (l++[s0]).length 16) (some (l++[s0])))
def lC(s0:aT)(l:List aB)(cW gL:Int):O (List aB×aT):=aQ (oG l (aB.mk cW gL)) λr=>aQ (bn s0.x.types s0.kind) λx0=>aQ (oG r (aB.mk (aV .i64 cW x0.bJ) 0)) λr1=>some (r1,s0)
def mB(aY:Int)(l:List aB)(stop:aS)(x0:av)(l1:List aB)(x1:aT)(v:Int):O ((List aB×aT×Int)⊕(List aB×aT)):=br (bh v (ay l)) (aQ (bn l v) λx2=>aQ (uB x1.x.bV x0.aJ aY stop.place x2.ready) λr=>br ((cp r.2.2 0)||(dt (cX .i64 (aV .i64 x2.gL r.1) x2.ready) x0.eu)) (some (.inl (l1,x1,(aV .i64 v 1)))) (aQ (tR stop r.1) λr1=>br (cp r1.2 0) (some (.inl (l1,x1,(aV .i64 v 1)))) (aQ (lC x1 l1 r1.1 (cX .i64 (aV .i64 x2.gL r.1) x2.ready)) λr2=>some (.inl (r2.1,r2.2,(aV .i64 v 1)))))) (some (.inr (l1,x1)))
def qo(s0:aT)(aY:Int)(l:List aB)(stop:aS):O (List aB×aT):=aQ (bn s0.x.types s0.kind) λx0=>aQ (aL (λs=>mB aY l stop x0 s.1 s.2.1 s.2.2) ([],s0,0)) (λe0=>(λl2 x3=>some (l2,x3)) e0.1 e0.2)
def fl(s0:List ab):O (List ab):=aQ (wm s0 0 (ay s0)) λl=>some l
def iY(dw:aM)(some_:Bool)(VD:aM):O aM:=br some_ (aQ (wZ VD dw) λr=>br r (some VD) (some dw)) (some VD)
def nQ(self:aT->(List ab)->Int->(List aB)->O aT)(ak:List ab)(aY:Int)(l:List aB)(r2:List ab)(x0:aT)(v:Int):O ((aT×Int)⊕(aT)):=br (bh v (ay r2)) (aQ (bn r2 v) λx1=>aQ (uC x0.x.ai x1) λr3=>br (cp r3.2 0) (some (.inl (x0,(aV .i64 v 1)))) (aQ (qo x0 aY l r3.1) λr4=>br (dt (ay r4.1) 0) (aQ (fl ak) λr5=>ft (fQ (r5++[x1]).length 16) (aQ (self r4.2 (r5++[x1]) r3.1.place r4.1) λr6=>some (.inl (r6,(aV .i64 v 1))))) (some (.inl (r4.2,(aV .i64 v 1)))))) (some (.inr x0))
def po(self:aT->(List ab)->Int->(List aB)->O aT)(s0:aT)(ak:List ab)(aY:Int)(l:List aB):O aT:=br (dk (ay ak) s0.pV) (aQ (mW s0.x (aD.mk s0.kind 0 [] ak)) λr=>br (dk r.2 0) (aQ (iY s0.dw s0.dU (aM.mk s0.kind s0.b9 r.1 (aD.mk s0.kind 0 [] ak))) λr1=>some (aT.mk s0.x s0.kind s0.b9 s0.pV r1 true)) (some s0)) (aQ (wk s0.x s0.b9 ak) λr2=>aQ (aL (λs=>nQ self ak aY l r2 s.1 s.2) (s0,0)) (λx2=>some x2))
def jB:Nat->aT->(List ab)->Int->(List aB)->O aT|0=>λ_ _ _ _=>none|Y5+1=>λs0 ak aY l=>po (jB Y5) s0 ak aY l
def Ek(s0:aT)(ak:List ab)(aY:Int)(l:List aB):O aT:=jB Df s0 ak aY l
def oz(s0:aT)(cW gL:Int):O (List aB×aT):=aQ (oG [] (aB.mk cW gL)) λr=>aQ (bn s0.x.types s0.kind) λx0=>aQ (oG r (aB.mk (aV .i64 cW x0.bJ) 0)) λr1=>some (r1,s0)
def ow(x0:ae)(kind b9:Int)(r1:List Int)(pV v:Int):O ((Int×Int)⊕(Int)):=br (bh v (ay r1)) (aQ (bn r1 v) λx1=>aQ (mr x0.ai x1) λr2=>some (.inl ((aV .i64 pV (ay r2)),(aV .i64 v 1)))) (some (.inr pV))
def Eh(x0:ae)(kind b9:Int):O (aM×Int):=br (((bh kind 0)||(cT kind (ay x0.types)))||(gB b9 0)) (some ((aM.mk 0 0 0 (aD.mk 0 0 [] [])),2)) (ft ((0:Int)<=(ay x0.ai)) (br (cp (AZ .i64 b9 (ay x0.ai)) 0) (some ((aM.mk 0 0 0 (aD.mk 0 0 [] [])),2)) (aQ (oU x0 b9) λr=>br (cp r 0) (some ((aM.mk 0 0 0 (aD.mk 0 0 [] [])),24)) (aQ (sW b9) λr1=>aQ (aL (λs=>ow x0 kind b9 r1 s.1 s.2) (0,0)) (λX2=>aQ (bn x0.types kind) λx2=>aQ (oz (aT.mk x0 kind b9 X2 (aM.mk 0 0 0 (aD.mk 0 0 [] [])) false) x2.bA 0) λr3=>aQ (Ek r3.2 [] x2.aY r3.1) λr4=>br r4.dU (some (r4.dw,0)) (some ((aM.mk 0 0 0 (aD.mk 0 0 [] [])),24)))))))
def sy(x0:ae)(l:List aM)(v:Int)(l1:List aM)(b9:Int):O ((List aM×Int)⊕(List aM)):=ft ((0:Int)<=(ay x0.ai)) (br (dk (AZ .i64 b9 (ay x0.ai)) 0) (aQ (Eh x0 v b9) λr=>br (dk r.2 0) (ft (fQ (l1++[r.1]).length 88) (some (.inl ((l1++[r.1]),(aV .i64 b9 1))))) (some (.inl (l1,(aV .i64 b9 1))))) (some (.inr l1)))
def qn(x0:ae)(l:List aM)(v:Int):O ((List aM×Int)⊕(List aM)):=br (bh v (ay x0.types)) (aQ (aL (λs=>sy x0 l v s.1 s.2) (l,1)) (λl2=>some (.inl (l2,(aV .i64 v 1))))) (some (.inr l))
def Ie(x0:ae):O (List aM×Int):=aQ (aL (λs=>qn x0 s.1 s.2) ([],0)) (λl3=>some (l3,0))
def eY(x0:ae)(kind size:Int)(cR:List I)(i:Int):O ((Int)⊕((Unit)⊕(Bool))):=br (bh i (ay cR)) (aQ (bn cR i) λx1=>aQ (o_ x1) λr2=>br r2 (br (dt (ca x1) 20) (aQ (kz) λr3=>some (.inr (.inr r3))) (some (.inl (aV .i64 i 1)))) (aQ (kz) λr4=>some (.inr (.inr r4)))) (some (.inr (.inl ())))
def fy(kind:Int)(cR:List I)(r7:I×Bool×Int)(r8:List aM×Int)(i1:Int)(sum:I)(k:Int):O ((I×Int)⊕((I)⊕(Bool))):=br (bh k (ay cR)) (aQ (bn r8.1 i1) λx3=>ft ((0:Int)<=k) (br (dk (MO .i64 (AZ .i64 x3.b9 k) 1) 1) (aQ (bn cR k) λx4=>aQ (zU sum x4) λHI=>br (cp HI.2 0) (some (.inr (.inr false))) (some (.inl (HI.1,(aV .i64 k 1))))) (some (.inl (sum,(aV .i64 k 1)))))) (some (.inr (.inl sum)))
def eZ(kind:Int)(cR:List I)(r7:I×Bool×Int)(r8:List aM×Int)(i1:Int):O ((Int)⊕((Unit)⊕(Bool))):=br (bh i1 (ay r8.1)) (aQ (bn r8.1 i1) λx2=>br (cp x2.bt kind) (some (.inl (aV .i64 i1 1))) (aQ (EX x2.p_) λwK=>aQ (aL (λs=>fy kind cR r7 r8 i1 s.1 s.2) (wK,0)) (λe=>jg e (λXY=>br r7.2.1 (aQ (jn r7.1 XY) λr12=>br (dt r12 0) (some (.inr (.inr false))) (some (.inl (aV .i64 i1 1)))) (some (.inr (.inr false)))) (λr13=>some (.inr (.inr r13)))))) (some (.inr (.inl ())))
def ru(x0:ae)(kind size:Int)(cR:List I):O Bool:=aQ (th x0 2) λr=>br ((((!r)||(bh kind 0))||(cT kind (ay x0.types)))||(cp (ay cR) (ay x0.ai))) (aQ (kz) λr1=>some r1) (aQ (aL (λs=>eY x0 kind size cR s) 0) (λe=>jg e (λ(_:Unit)=>aQ (Ct x0 size) λr5=>br (cp r5.2 0) (aQ (kz) λr6=>some r6) (aQ (AB x0 kind cR r5.1) λr7=>aQ (Ie x0) λr8=>br ((cp r7.2.2 0)||(cp r8.2 0)) (aQ (kz) λr9=>some r9) (aQ (aL (λs=>eZ kind cR r7 r8 s) 0) (λe=>jg e (λ(_:Unit)=>aQ (kz) λr14=>some r14) (λML=>some ML))))) (λr16=>some r16)))
section
open Go.RowKit
variable {N : Nat}
theorem QnD:jm Tryz.prog N 9 (NP 1 bN (λs:I=>s.size<=N) (λ_=>rfl)):=Qiy Tryz.underlying9 (by kernel_rfl)
theorem Qqt:jm Tryz.prog N 22 (NP 1 (λl:List I=>[.sl false 1 (l.map bN)]) (λl:List (I)=>l.length<=N/\∀x∈l,(λs:I=>s.size<=N) x) (λ_=>rfl)):=Ax Tryz.underlying22 (by kernel_rfl) QnD (by decide)
theorem yI:jm Tryz.prog N 3 (NP 1 al II (λ_=>rfl)):=Qny Tryz.underlying3 (by kernel_rfl)
def aK.ok(N:Nat)(x:aK):Prop:=II x.t/\II x.a/\True
theorem QqC:jm Tryz.prog N 76 (NP 2 aK.enc (aK.ok N) (λ_=>rfl)):=zS Tryz.underlying76 (by kernel_rfl) (.cons rfl yI (.cons rfl yI .nil)) rfl (HE.pair HE.rd (HE.pair HE.rd HE.unit)) (λa=>⟨a.1,a.2.1⟩) (λ_=>rfl) (λ_ h=>h)
theorem QlZ:jm Tryz.prog N 77 (NP 1 (λl:List aK=>[.sl false 2 (l.map aK.enc)]) (λl:List (aK)=>l.length<=N/\∀x∈l,(aK.ok N) x) (λ_=>rfl)):=Ax Tryz.underlying77 (by kernel_rfl) QqC (by decide)
def a7.ok(N:Nat)(x:a7):Prop:=II x.aY/\II x.eI/\II x.aJ/\II x.cV/\(λl:List (aK)=>l.length<=N/\∀x∈l,(aK.ok N) x) x.kD/\(λl:List (aK)=>l.length<=N/\∀x∈l,(aK.ok N) x) x.jY/\True
theorem QnB:jm Tryz.prog N 150 (NP 6 a7.enc (a7.ok N) (λ_=>rfl)):=zS Tryz.underlying150 (by kernel_rfl) (.cons rfl yI (.cons rfl yI (.cons rfl yI (.cons rfl yI (.cons rfl QlZ (.cons rfl QlZ .nil)))))) rfl (HE.pair HE.rd (HE.pair HE.rd (HE.pair HE.rd (HE.pair HE.rd (HE.pair HE.rd (HE.pair HE.rd HE.unit)))))) (λa=>⟨a.1,a.2.1,a.2.2.1,a.2.2.2.1,a.2.2.2.2.1,a.2.2.2.2.2.1⟩) (λ_=>rfl) (λ_ h=>h)
theorem Qqu:jm Tryz.prog N 23 (NP 1 (λl:List a7=>[.sl false 6 (l.map a7.enc)]) (λl:List (a7)=>l.length<=N/\∀x∈l,(a7.ok N) x) (λ_=>rfl)):=Ax Tryz.underlying23 (by kernel_rfl) QnB (by decide)
def aC.ok(N:Nat)(x:aC):Prop:=(λl:List (I)=>l.length<=N/\∀x∈l,(λs:I=>s.size<=N) x) x.bm/\(λl:List (a7)=>l.length<=N/\∀x∈l,(a7.ok N) x) x.eX/\True
theorem Qqv:jm Tryz.prog N 25 (NP 2 aC.enc (aC.ok N) (λ_=>rfl)):=zS Tryz.underlying25 (by kernel_rfl) (.cons rfl Qqt (.cons rfl Qqu .nil)) rfl (HE.pair HE.rd (HE.pair HE.rd HE.unit)) (λa=>⟨a.1,a.2.1⟩) (λ_=>rfl) (λ_ h=>h)
theorem QlX:jm Tryz.prog N 36 (NP 1 (λl:List Int=>[.sl false 1 (l.map al)]) (λl:List (Int)=>l.length<=N/\∀x∈l,II x) (λ_=>rfl)):=Ax Tryz.underlying36 (by kernel_rfl) yI (by decide)
def av.ok(N:Nat)(x:av):Prop:=(λs:I=>s.size<=N) x.name/\II x.q7/\II x.aY/\II x.eI/\(λl:List (Int)=>l.length<=N/\∀x∈l,II x) x.cap/\II x.cF/\II x.aJ/\II x.bA/\II x.bI/\II x.eu/\II x.bJ/\II x.gA/\II x.cP/\II x.de/\True
theorem QqD:jm Tryz.prog N 92 (NP 14 av.enc (av.ok N) (λ_=>rfl)):=zS Tryz.underlying92 (by kernel_rfl) (.cons rfl QnD (.cons rfl yI (.cons rfl yI (.cons rfl yI (.cons rfl QlX (.cons rfl yI (.cons rfl yI (.cons rfl yI (.cons rfl yI (.cons rfl yI (.cons rfl yI (.cons rfl yI (.cons rfl yI (.cons rfl yI .nil)))))))))))))) rfl (HE.pair HE.rd (HE.pair HE.rd (HE.pair HE.rd (HE.pair HE.rd (HE.pair HE.rd (HE.pair HE.rd (HE.pair HE.rd (HE.pair HE.rd (HE.pair HE.rd (HE.pair HE.rd (HE.pair HE.rd (HE.pair HE.rd (HE.pair HE.rd (HE.pair HE.rd HE.unit)))))))))))))) (λa=>⟨a.1,a.2.1,a.2.2.1,a.2.2.2.1,a.2.2.2.2.1,a.2.2.2.2.2.1,a.2.2.2.2.2.2.1,a.2.2.2.2.2.2.2.1,a.2.2.2.2.2.2.2.2.1,a.2.2.2.2.2.2.2.2.2.1,a.2.2.2.2.2.2.2.2.2.2.1,a.2.2.2.2.2.2.2.2.2.2.2.1,a.2.2.2.2.2.2.2.2.2.2.2.2.1,a.2.2.2.2.2.2.2.2.2.2.2.2.2.1⟩) (λ_=>rfl) (λ_ h=>h)
theorem Qqw:jm Tryz.prog N 26 (NP 1 (λl:List av=>[.sl false 14 (l.map av.enc)]) (λl:List (av)=>l.length<=N/\∀x∈l,(av.ok N) x) (λ_=>rfl)):=Ax Tryz.underlying26 (by kernel_rfl) QqD (by decide)
def aS.ok(N:Nat)(x:aS):Prop:=II x.place/\II x.bA/\II x.bI/\II x.dG/\True
theorem QlY:jm Tryz.prog N 67 (NP 4 aS.enc (aS.ok N) (λ_=>rfl)):=zS Tryz.underlying67 (by kernel_rfl) (.cons rfl yI (.cons rfl yI (.cons rfl yI (.cons rfl yI .nil)))) rfl (HE.pair HE.rd (HE.pair HE.rd (HE.pair HE.rd (HE.pair HE.rd HE.unit)))) (λa=>⟨a.1,a.2.1,a.2.2.1,a.2.2.2.1⟩) (λ_=>rfl) (λ_ h=>h)
theorem QtP:jm Tryz.prog N 4 (NP 1 dN (λ_:Bool=>True) (λ_=>rfl)):=QkJ Tryz.underlying4 (by kernel_rfl)
def aw.ok(N:Nat)(x:aw):Prop:=(λs:I=>s.size<=N) x.name/\(λl:List (Int)=>l.length<=N/\∀x∈l,II x) x.load/\(aS.ok N) x.pick/\(aS.ok N) x.drop/\II x.cF/\II x.yJ/\II x.split/\II x.cr/\II x.now/\(λ_:Bool=>True) x.off/\True
theorem QqB:jm Tryz.prog N 69 (NP 16 aw.enc (aw.ok N) (λ_=>rfl)):=zS Tryz.underlying69 (by kernel_rfl) (.cons rfl QnD (.cons rfl QlX (.cons rfl QlY (.cons rfl QlY (.cons rfl yI (.cons rfl yI (.cons rfl yI (.cons rfl yI (.cons rfl yI (.cons rfl QtP .nil)))))))))) rfl (HE.pair HE.rd (HE.pair HE.rd (HE.pair HE.rd (HE.pair HE.rd (HE.pair HE.rd (HE.pair HE.rd (HE.pair HE.rd (HE.pair HE.rd (HE.pair HE.rd (HE.pair HE.rd HE.unit)))))))))) (λa=>⟨a.1,a.2.1,a.2.2.1,a.2.2.2.1,a.2.2.2.2.1,a.2.2.2.2.2.1,a.2.2.2.2.2.2.1,a.2.2.2.2.2.2.2.1,a.2.2.2.2.2.2.2.2.1,a.2.2.2.2.2.2.2.2.2.1⟩) (λ_=>rfl) (λ_ h=>h)
theorem Qqx:jm Tryz.prog N 27 (NP 1 (λl:List aw=>[.sl false 16 (l.map aw.enc)]) (λl:List (aw)=>l.length<=N/\∀x∈l,(aw.ok N) x) (λ_=>rfl)):=Ax Tryz.underlying27 (by kernel_rfl) QqB (by decide)
def aW.ok(N:Nat)(x:aW):Prop:=II x.x0/\II x.x1
theorem QnC:jm Tryz.prog N 196 (NP 2 aW.enc (aW.ok N) (λ_=>rfl)):=Qfp Tryz.underlying196 (by kernel_rfl) yI rfl (λa b=>⟨a,b⟩) (λ_ _=>rfl) (λ_ _ h h2=>⟨h,h2⟩)
theorem QlW:jm Tryz.prog N 28 (NP 1 (λl:List aW=>[.sl false 2 (l.map aW.enc)]) (λl:List (aW)=>l.length<=N/\∀x∈l,(aW.ok N) x) (λ_=>rfl)):=Ax Tryz.underlying28 (by kernel_rfl) QnC (by decide)
def ae.ok(N:Nat)(x:ae):Prop:=(aC.ok N) x.bV/\(λl:List (av)=>l.length<=N/\∀x∈l,(av.ok N) x) x.types/\(λl:List (aw)=>l.length<=N/\∀x∈l,(aw.ok N) x) x.ai/\(λl:List (aW)=>l.length<=N/\∀x∈l,(aW.ok N) x) x.dx/\(λl:List (aW)=>l.length<=N/\∀x∈l,(aW.ok N) x) x.before/\True
theorem Qqy:jm Tryz.prog N 30 (NP 6 ae.enc (ae.ok N) (λ_=>rfl)):=zS Tryz.underlying30 (by kernel_rfl) (.cons rfl Qqv (.cons rfl Qqw (.cons rfl Qqx (.cons rfl QlW (.cons rfl QlW .nil))))) rfl (HE.pair HE.rd (HE.pair HE.rd (HE.pair HE.rd (HE.pair HE.rd (HE.pair HE.rd HE.unit))))) (λa=>⟨a.1,a.2.1,a.2.2.1,a.2.2.2.1,a.2.2.2.2.1⟩) (λ_=>rfl) (λ_ h=>h)
theorem QqA:jm Tryz.prog N 35 (NP 1 bN (λs:I=>s.size<=N) (λ_=>rfl)):=Qiy Tryz.underlying35 (by kernel_rfl)
theorem Qqz:jm Tryz.prog N 31 (NP 1 (λl:List I=>[.sl false 1 (l.map bN)]) (λl:List (I)=>l.length<=N/\∀x∈l,(λs:I=>s.size<=N) x) (λ_=>rfl)):=Ax Tryz.underlying31 (by kernel_rfl) QqA (by decide)
end
end
end Go.Proofs.YtkcilfpbgjjjbaaGreatDoor
