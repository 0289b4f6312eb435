/- Part MV. -/
import Derived.Test.YtbilkblifgaflaaGreatDoorMU
import Derived.Test.YtbilkblifgaflaaGreatDoorProg
set_option linter.unusedSimpArgs false
set_option linter.unusedVariables false
set_option linter.unusedSectionVars false
namespace Go.Proofs.YtbilkblifgaflaaGreatDoor
open _root_.Go.Proofs.Tryz
section
set_option maxHeartbeats 4000000
set_option maxRecDepth 100000
def Ou(Γ:bn)(rv:Bool)(cf:Cf):Prop:=Go prog f222 [] Γ (one (.bool rv)) [] cf
def RB(Γ:bn)(rv:Bool)(a capacity:List Int)(v:Int):Prop:=Ou Γ rv ⟨[.c 116,.l 116,.b 0,.c 15],⟨26,[vL 1 1 capacity ax,vL 12 1 a ax,vI 13 (aC a),vI 14 v],[]⟩⟩
def P_(Γ:bn)(rv:Bool)(a capacity:List Int):Prop:=Ou Γ rv ⟨[.c 15],⟨26,[],[]⟩⟩
theorem Qa(Γ:bn)(rv:Bool){a capacity}:∀⦃s:Int⦄ ⦃e:(Unit)⊕(Bool)⦄,aK (fun s=>o7 a capacity s) s=some e→jf e (fun e=>P_ Γ rv a capacity) (fun e=>e=rv)→RB Γ rv a capacity s:=by
 refine bk ?_
 intro v z_ h hI hE;simp only[o7,az,an,aq]at h;rcases h with⟨h1,x0,h2,x1,h3,⟨h4,h⟩|⟨h4,h⟩⟩|⟨h1,h⟩
 ·obtain rfl:=(hE h:_=rv);exact gr 14 [] [bT h1,cE ax h2,cE ax h3,bT h4]
 ·exact gn 16 [1,12,13,14] [] [bT h1,cE ax h2,cE ax h3,bF h4] (hI h)
 ·exact gn 5 [] [] [bF h1] (hE h)
theorem Us{a capacity}{rv:Bool}(h:BW a capacity=some rv):dF prog 222 [.one (lL 1 a ax),.one (lL 1 capacity ax)] [] (one (.bool rv)) []:=by
 refine aU func222 fun Γ=>?_
 simp only[BW,az,an,aq]at h;rcases h with⟨h0,h⟩|⟨h0,e0,h5,h⟩
 ·obtain rfl:=oK h;exact gr 8 [] [nL ax a,nL ax capacity,bT h0]
 ·refine gn 12 [1,12,13,14] [] [nL ax a,nL ax capacity,bF h0,nL ax a] (Qa Γ rv h5 ?_);rcases e0 with e0|r
  ·obtain rfl:=oK h;exact gr 2 [] []
  ·exact oK h
theorem Hj{a c c1}{rv:Bool}(h:Bf a c c1=some rv):dF prog 221 [.one (lL 1 a ax),.one (.ip (ae.enc c) 0),.one (.ip (ay.enc c1) 0)] [] (one (.bool rv)) []:=by
 refine aU func221 fun Γ=>?_
 simp only[Bf,az,an,aq]at h;obtain⟨x0,h0,r,h1,h⟩:=h;cases h;exact gr 4 [] [cE ag.enc h0,cC (Us h1)]
def mK(Γ:bn)(rv:Int)(cf:Cf):Prop:=Go prog f248 [] Γ (one (lI rv)) [] cf
def sI(Γ:bn)(rv:Int)(s0:List (List Int))(c:ae)(c1:ay)(v:Int):Prop:=mK Γ rv ⟨[.c 52,.l 52,.b 0,.c 7],⟨19,[vL 0 1 s0 cg,(1,one (.fn (.func 221) [.ip (ae.enc c) 0,.ip (ay.enc c1) 0])),vI 7 (aC s0),vI 8 v],[]⟩⟩
def sA(Γ:bn)(rv:Int)(s0:List (List Int))(c:ae)(c1:ay):Prop:=mK Γ rv ⟨[.c 7],⟨19,[],[]⟩⟩
theorem sB(Γ:bn)(rv:Int){s0 c c1}:∀⦃s:Int⦄ ⦃e:(Unit)⊕(Int)⦄,aK (fun s=>cR s0 c c1 s) s=some e→jf e (fun e=>sA Γ rv s0 c c1) (fun e=>e=rv)→sI Γ rv s0 c c1 s:=by
 refine bk ?_
 intro v z_ h hI hE;simp only[cR,az,an,aq]at h;rcases h with⟨h0,x0,h1,r,h2,⟨h3,h⟩|⟨h3,h⟩⟩|⟨h0,h⟩
 ·obtain rfl:=(hE h:_=rv);exact gr 14 [] [bT h0,cE cg h1,cC (Hj h2),bT h3]
 ·exact gn 16 [0,1,7,8] [] [bT h0,cE cg h1,cC (Hj h2),bF h3] (hI h)
 ·exact gn 5 [] [] [bF h0] (hE h)
theorem tN{s0 c c1}{rv:Int}(h:fg s0 c c1=some rv):dF prog 248 [.one (lL 1 s0 cg),.one (.fn (.func 221) [.ip (ae.enc c) 0,.ip (ay.enc c1) 0])] [] (one (lI rv)) []:=by
 refine aU func248 fun Γ=>?_
 simp only[fg,az,an,aq]at h;obtain⟨e0,h4,h⟩:=h;refine gn 7 [0,1,7,8] [] [nL cg s0] (sB Γ rv h4 ?_);rcases e0 with e0|r1
 ·cases h;exact gr 2 [] []
 ·exact oK h
theorem lC{s0 c c1}{rv:Bool}(h:fM s0 c c1=some rv):dF prog 220 [.one (lL 1 s0 cg),.one (.fn (.func 221) [.ip (ae.enc c) 0,.ip (ay.enc c1) 0])] [] (one (.bool rv)) []:=by
 refine aU func220 fun Γ=>?_
 simp only[fM,az,an,aq]at h;obtain⟨r,h0,h⟩:=h;cases h;exact gr 4 [] [cC (tN h0)]
theorem DX{x0 r}{rv:Int}(h:BN x0 r=some rv):dF prog 198 [.agg (ae.enc x0),.agg (ay.enc r)] [] (one (lI rv)) []:=by
 refine aU func198 fun Γ=>?_
 simp only[BN,az,an,aq]at h;rcases h with⟨h0,h⟩|⟨h0,r1,h1,⟨h2,h⟩|⟨h2,r2,h3,⟨h4,h⟩|⟨h4,h⟩⟩⟩
 ·obtain rfl:=oK h;exact gr 8 [] [rp 5 hP,rp 3 (oI ((aT r.aR 0)=false)),nL ag.enc x0.types,hP,hP,rp 2 (oI ((aT r.aR 0)=false)),oR True ((aT r.aR 0)=false),bT h0]
 ·cases h;exact gr 15 [] [rp 5 hP,rp 3 (oI ((aT r.aR 0)=false)),nL ag.enc x0.types,hP,hP,rp 2 (oI ((aT r.aR 0)=false)),oR True ((aT r.aR 0)=false),bF h0,cC (BO h1),bT h2]
 ·obtain rfl:=oK h;exact gr 20 [] [rp 5 hP,rp 3 (oI ((aT r.aR 0)=false)),nL ag.enc x0.types,hP,hP,rp 2 (oI ((aT r.aR 0)=false)),oR True ((aT r.aR 0)=false),bF h0,cC (BO h1),bF h2,cC (lC h3),bT h4]
 ·obtain rfl:=oK h;exact gr 21 [] [rp 5 hP,rp 3 (oI ((aT r.aR 0)=false)),nL ag.enc x0.types,hP,hP,rp 2 (oI ((aT r.aR 0)=false)),oR True ((aT r.aR 0)=false),bF h0,cC (BO h1),bF h2,cC (lC h3),bF h4]
def W_(Γ:bn)(rv:aM×Int)(cf:Cf):Prop:=Go prog f142 [] Γ (.o5 [.agg [lI rv.1.place,lI rv.1.bm,lI rv.1.bp,lI rv.1.bz],.one (lI rv.2)]) [] cf
theorem Fp(Γ:bn)(rv:aM×Int){x1}(h:wq x1=some rv):W_ Γ rv ⟨[.c 31],⟨32,[vP 4 0 4,vP 6 1 4],[oX 4 54 [lI 0,lI 0,lI 0,lI 0],oX 4 54 (aM.enc x1)]⟩⟩:=by
 simp only[wq,az,an,aq]at h;rcases h with⟨h4,h⟩|⟨h4,h⟩
 ·cases h;exact gr 6 [] [bT h4]
 ·cases h;exact gr 7 [] [bF h4]
theorem wu{l v}{rv:aM×Int}(h:zB l v=some rv):dF prog 142 [.one (lL 16 l af.enc),.agg (ab.enc v)] [] (.o5 [.agg [lI rv.1.place,lI rv.1.bm,lI rv.1.bp,lI rv.1.bz],.one (lI rv.2)]) []:=by
 refine aU func142 fun Γ=>?_
 simp only[zB,az,an,aq]at h;rcases h with⟨r,h0,⟨h1,x0,h2,⟨h3,h⟩|⟨h3,h⟩⟩|⟨h1,h⟩⟩
 ·exact gn 14 [4,6] [1,2] [cC (sk h0),nF h1,cE af.enc h2,bT h3,cE af.enc h2] (Fp Γ rv h)
 ·exact gn 14 [4,6] [1,2] [cC (sk h0),nF h1,cE af.enc h2,bF h3] (Fp Γ rv h)
 ·cases h;exact gr 8 [] [cC (sk h0),nT h1]
def N1(Γ:bn)(rv:bw×Bool)(cf:Cf):Prop:=Go prog f223 [] Γ (.o5 [.agg [lL 1 rv.1.x.bG.aD dC,lL 6 rv.1.x.bG.bj aw.enc,lL 14 rv.1.x.types ag.enc,lL 16 rv.1.x.ah af.enc,lL 2 rv.1.x.db aI.enc,lL 2 rv.1.x.before aI.enc,.str rv.1.t.name,lI rv.1.t.yW,lI rv.1.t.aE,lI rv.1.t.dE,lL 1 rv.1.t.cap ax,lI rv.1.t.bD,lI rv.1.t.aj,lI rv.1.t.bm,lI rv.1.t.bp,lI rv.1.t.kC,lI rv.1.t.de,lI rv.1.t.pK,lI rv.1.t.ia,lI rv.1.t.ib,lI rv.1.r.aR,lI rv.1.r.aH,lL 1 rv.1.r.aP bR,lL 2 rv.1.r.ar ab.enc,lL 4 rv.1.aG aM.enc],.one (.bool rv.2)]) [] cf
def Rr(Γ:bn)(rv:bw×Bool)(x0:ae)(r:ay)(x1:ag)(l:List aM)(v:Int):Prop:=N1 Γ rv ⟨[.c 244,.l 244,.b 0,.c 31],⟨78,[vP 2 0 6,vP 4 1 25,vP 6 2 25,vL 49 2 r.ar ab.enc,vI 50 (aC r.ar),vI 51 v],[oX 6 30 (ae.enc x0),oX 25 232 [.dO,.dO,.dO,.dO,.dO,.dO,.str ByteArray.empty,lI 0,lI 0,lI 0,.dO,lI 0,lI 0,lI 0,lI 0,lI 0,lI 0,lI 0,lI 0,lI 0,lI 0,lI 0,.dO,.dO,.dO],oX 25 232 [lL 1 x0.bG.aD dC,lL 6 x0.bG.bj aw.enc,lL 14 x0.types ag.enc,lL 16 x0.ah af.enc,lL 2 x0.db aI.enc,lL 2 x0.before aI.enc,.str x1.name,lI x1.yW,lI x1.aE,lI x1.dE,lL 1 x1.cap ax,lI x1.bD,lI x1.aj,lI x1.bm,lI x1.bp,lI x1.kC,lI x1.de,lI x1.pK,lI x1.ia,lI x1.ib,lI r.aR,lI r.aH,lL 1 r.aP bR,lL 2 r.ar ab.enc,lO 3 4 l aM.enc],oS 4 54 l aM.enc]⟩⟩
def PO(Γ:bn)(rv:bw×Bool)(x0:ae)(r:ay)(x1:ag)(l1:List aM):Prop:=N1 Γ rv ⟨[.c 31],⟨78,[vP 4 0 25,vP 6 1 25],[oX 25 232 [.dO,.dO,.dO,.dO,.dO,.dO,.str ByteArray.empty,lI 0,lI 0,lI 0,.dO,lI 0,lI 0,lI 0,lI 0,lI 0,lI 0,lI 0,lI 0,lI 0,lI 0,lI 0,.dO,.dO,.dO],oX 25 232 [lL 1 x0.bG.aD dC,lL 6 x0.bG.bj aw.enc,lL 14 x0.types ag.enc,lL 16 x0.ah af.enc,lL 2 x0.db aI.enc,lL 2 x0.before aI.enc,.str x1.name,lI x1.yW,lI x1.aE,lI x1.dE,lL 1 x1.cap ax,lI x1.bD,lI x1.aj,lI x1.bm,lI x1.bp,lI x1.kC,lI x1.de,lI x1.pK,lI x1.ia,lI x1.ib,lI r.aR,lI r.aH,lL 1 r.aP bR,lL 2 r.ar ab.enc,lO 2 4 l1 aM.enc],oS 4 54 l1 aM.enc]⟩⟩
theorem PQ(Γ:bn)(rv:bw×Bool){x0 r x1}:∀⦃s:List aM×Int⦄ ⦃e:(List aM)⊕(bw×Bool)⦄,aK (fun s=>wb x0 r x1 s.1 s.2) s=some e→jf e (fun e=>PO Γ rv x0 r x1 e) (fun e=>e=rv)→Rr Γ rv x0 r x1 s.1 s.2:=by
 refine bk ?_
 rintro⟨l,v⟩ z_ h hI hE;simp only[wb,az,an,aq]at h;rcases h with⟨h2,x2,h3,r1,h4,⟨h5,h⟩|⟨h5,h6,h⟩⟩|⟨h2,h⟩
 ·obtain rfl:=(hE h:_=rv);exact gr 17 [] [bT h2,cE ab.enc h3,cC (wu h4),rp 4 hP,rp 2 (oI ((cA r1.2 0)=false)),oR True ((cA r1.2 0)=false),bT h5,hW 5,hH (.fW 1 0 1),hH (.fW 1 1 6),hH (.fW 1 2 14),hH (.fW 1 3 16),hH (.fW 1 4 2),hH (.fW 1 5 2),hH (.fW 1 10 1),hH (.fW 1 22 1),hH (.fW 1 23 2),hH (.fW 1 24 4)]
 ·exact gn 20 [2,4,6,49,50,51] [0,1,2,7] [bT h2,cE ab.enc h3,cC (wu h4),rp 4 hP,rp 2 (oI ((cA r1.2 0)=false)),oR True ((cA r1.2 0)=false),bF h5,oO (Eq.refl ([r1.1].map aM.enc).length),aO aM.enc h6] (hI h)
 ·exact gn 5 [4,6] [1,2,3] [bF h2] (hE h)
theorem Mg{x0 r}{rv:bw×Bool}(h:zq x0 r=some rv):dF prog 223 [.agg (ae.enc x0),.agg (ay.enc r)] [] (.o5 [.agg [lL 1 rv.1.x.bG.aD dC,lL 6 rv.1.x.bG.bj aw.enc,lL 14 rv.1.x.types ag.enc,lL 16 rv.1.x.ah af.enc,lL 2 rv.1.x.db aI.enc,lL 2 rv.1.x.before aI.enc,.str rv.1.t.name,lI rv.1.t.yW,lI rv.1.t.aE,lI rv.1.t.dE,lL 1 rv.1.t.cap ax,lI rv.1.t.bD,lI rv.1.t.aj,lI rv.1.t.bm,lI rv.1.t.bp,lI rv.1.t.kC,lI rv.1.t.de,lI rv.1.t.pK,lI rv.1.t.ia,lI rv.1.t.ib,lI rv.1.r.aR,lI rv.1.r.aH,lL 1 rv.1.r.aP bR,lL 2 rv.1.r.ar ab.enc,lL 4 rv.1.aG aM.enc],.one (.bool rv.2)]) []:=by
 refine aU func223 fun Γ=>?_
 simp only[zq,az,an,aq]at h;rcases h with⟨h0,h⟩|⟨h0,x1,h1,e0,h7,h⟩
 ·cases h;exact gr 8 [] [rp 5 hP,rp 3 (oI ((aT r.aR 0)=false)),nL ag.enc x0.types,rp 13 hP,rp 2 (oI ((aT r.aR 0)=false)),oR True ((aT r.aR 0)=false),rp 2 (oI (((aT r.aR 0)||(bZ r.aR (aC x0.types)))=false)),oR True (((aT r.aR 0)||(bZ r.aR (aC x0.types)))=false),rp 2 (oI ((((aT r.aR 0)||(bZ r.aR (aC x0.types)))||(aT r.aH 0))=false)),oR True ((((aT r.aR 0)||(bZ r.aR (aC x0.types)))||(aT r.aH 0))=false),rp 2 (oI (((((aT r.aR 0)||(bZ r.aR (aC x0.types)))||(aT r.aH 0))||(cQ r.aH 4096))=false)),nL ab.enc r.ar,hP,hP,oI (((((aT r.aR 0)||(bZ r.aR (aC x0.types)))||(aT r.aH 0))||(cQ r.aH 4096))=false),oR True (((((aT r.aR 0)||(bZ r.aR (aC x0.types)))||(aT r.aH 0))||(cQ r.aH 4096))=false),bT h0,hW 5,hH (.fW 2 0 1),hH (.fW 2 1 6),hH (.fW 2 2 14),hH (.fW 2 3 16),hH (.fW 2 4 2),hH (.fW 2 5 2),hH (.fW 2 10 1),hH (.fW 2 22 1),hH (.fW 2 23 2),hH (.fW 2 24 4)]
 ·refine gn 14 [2,4,6,49,50,51] [0,2,3,4] [rp 5 hP,rp 3 (oI ((aT r.aR 0)=false)),nL ag.enc x0.types,rp 13 hP,rp 2 (oI ((aT r.aR 0)=false)),oR True ((aT r.aR 0)=false),rp 2 (oI (((aT r.aR 0)||(bZ r.aR (aC x0.types)))=false)),oR True (((aT r.aR 0)||(bZ r.aR (aC x0.types)))=false),rp 2 (oI ((((aT r.aR 0)||(bZ r.aR (aC x0.types)))||(aT r.aH 0))=false)),oR True ((((aT r.aR 0)||(bZ r.aR (aC x0.types)))||(aT r.aH 0))=false),rp 2 (oI (((((aT r.aR 0)||(bZ r.aR (aC x0.types)))||(aT r.aH 0))||(cQ r.aH 4096))=false)),nL ab.enc r.ar,hP,hP,oI (((((aT r.aR 0)||(bZ r.aR (aC x0.types)))||(aT r.aH 0))||(cQ r.aH 4096))=false),oR True (((((aT r.aR 0)||(bZ r.aR (aC x0.types)))||(aT r.aH 0))||(cQ r.aH 4096))=false),bF h0,hH (.draw 10 []),cE ag.enc h1,nL ab.enc r.ar,hW 3,hH (.nN 3 24 4 54)] (PQ Γ rv h7 ?_);rcases e0 with l1|r2
  ·cases h;exact gr 2 [] [hW 5,hH (.kX 2),rp 3 (eL l1 aM.enc)]
  ·exact oK h
theorem AI{p}{rv:au}(h:ir p=some rv):dF prog 224 [.agg (bw.enc p)] [] (gG [lI rv.ready,lI rv.gw,.bool rv.dD.de,lI rv.dD.cF,lL 4 rv.dD.je aX.enc,lI rv.dD.lE,lI rv.dD.cT]) []:=by
 refine aU func224 fun Γ=>?_
 simp only[ir,az,an,aq]at h;cases h;exact gr 4 [] [hW 15,hH (.fW 1 4 4)]
theorem wL{s0 jK}{rv:Int×Int}(h:vD s0 jK=some rv):dF prog 205 [.agg (aM.enc s0),.one (lI jK)] [] (.o5 [.one (lI rv.1),.one (lI rv.2)]) []:=by
 refine aU func205 fun Γ=>?_
 simp only[vD,az,an,aq]at h;rcases h with⟨h0,h⟩|⟨h0,h⟩
 ·cases h;exact gr 10 [] [bT h0]
 ·cases h;exact gr 11 [] [bF h0]
theorem n7{p ar}{rv:Int}(h:pb p ar=some rv):dF prog 265 [.agg (bw.enc p),.one (lI ar)] [] (one (lI rv)) []:=by
 refine aU func265 fun Γ=>?_
 simp only[pb,az,an,aq]at h;rcases h with⟨h0,h⟩|⟨h0,x0,h1,h⟩
 ·cases h;exact gr 8 [] [bT h0]
 ·cases h;exact gr 9 [] [bF h0,cE aM.enc h1]
theorem mJ{s0}{rv:List aX}(h:ft s0=some rv):dF prog 264 [.one (lL 4 s0 aX.enc)] [] (one (lO 0 4 rv aX.enc)) [oS 4 258 rv aX.enc]:=by
 refine aU func264 fun Γ=>?_
 simp only[ft,az,an,aq]at h;rcases h with⟨h0,h⟩|⟨h0,h2,h⟩
 ·obtain⟨hx,h⟩:=X8 h;refine gn 5 [0,4] [] [hH (.skip)] (cf':=⟨[.c 13,.c 7],⟨8,[vL 0 4 s0 aX.enc,(4,.boo)],[]⟩⟩) (go_amb 4 rfl ?_ ?_)
  ·replace h:=hx;cases h;exact gr 3 [0] [tT,hW 3,hH (.lP 2 4 258)]
  ·simp only[az,an,aq]at h;obtain⟨h1,h⟩:=h;obtain rfl:=oK h;exact gr 4 [0] [fF,aZ aX.enc h1]
 ·obtain rfl:=oK h;exact gr 9 [0] [oO (neE aX.enc h0),fF,hH (.bit false),aZ aX.enc h2]
def uf(Γ:bn)(rv:au×Int)(cf:Cf):Prop:=Go prog f249 [] Γ (.o5 [.agg [lI rv.1.ready,lI rv.1.gw,.bool rv.1.dD.de,lI rv.1.dD.cF,lL 4 rv.1.dD.je aX.enc,lI rv.1.dD.lE,lI rv.1.dD.cT],.one (lI rv.2)]) [] cf
theorem y2(Γ:bn)(rv:au×Int){p l cF gw v8 m6 r2 l2 ready lE}(h:mQ p l cF gw v8 m6 r2 l2 ready lE=some rv):uf Γ rv ⟨[.c 32767],⟨163,[vP 4 0 25,vP 8 1 7,vP 12 2 7],[oX 25 232 (bw.enc p),oX 7 236 [lI 0,lI 0,.bool false,lI 0,.dO,lI 0,lI 0],oX 7 236 [lI ready,lI (dZ .i64 (aY .i64 gw r2.1) cF),.bool v8,lI m6,lO 3 4 l2 aX.enc,lI lE,lI (aY .i64 l.dD.cT r2.2.1)],oS 4 258 l2 aX.enc]⟩⟩:=by
 simp only[mQ,az,an,aq]at h;rcases h with⟨nk,h⟩|⟨nk,h⟩
 ·cases h;exact gr 6 [] [bT nk,hW 5,hH (.fW 1 4 4)]
 ·cases h;exact gr 7 [] [bF nk,hW 6,hH (.kX 3),rp 3 (eL l2 aX.enc)]
theorem y1(Γ:bn)(rv:au×Int){p l done cF gw l1 v8 m6 dE}(h:kT p l done cF gw l1 v8 m6 dE=some rv):uf Γ rv ⟨[.c 1023],⟨163,[vI 2 done,vP 4 0 25,vP 8 1 7,vI 10 cF,vI 11 gw,vP 12 2 7,vB 13 (bP done (aC p.aG)),vI 14 dE],[oX 25 232 (bw.enc p),oX 7 236 [lI 0,lI 0,.bool false,lI 0,.dO,lI 0,lI 0],oX 7 236 [lI 0,lI 0,.bool v8,lI m6,lO 3 4 l1 aX.enc,lI l.dD.lE,lI l.dD.cT],oS 4 258 l1 aX.enc]⟩⟩:=by
 simp only[kT,az,an,aq]at h;rcases h with⟨r1,h6,r2,h7,⟨h8,h⟩|⟨h8,⟨h9,⟨dN,h⟩|⟨dN,h⟩⟩|⟨h9,x2,gq,r3,gu,⟨ij,h⟩|⟨ij,kH,h⟩⟩⟩⟩
 ·cases h;exact gr 8 [] [hH (.draw 19 []),cC (n7 h6),cC (lN h7),bT h8,hW 5,hH (.fW 1 4 4)]
 ·cases h;exact gr 21 [] [hH (.draw 19 []),cC (n7 h6),cC (lN h7),bF h8,bT h9,bT dN,hW 5,hH (.fW 1 4 4)]
 ·exact gn 23 [4,8,12] [0,1,2,3] [hH (.draw 19 []),cC (n7 h6),cC (lN h7),bF h8,bT h9,bF dN] (y2 Γ rv h)
 ·cases h;exact gr 23 [] [hH (.draw 19 []),cC (n7 h6),cC (lN h7),bF h8,bF h9,cE aM.enc gq,cC (wL gu),bT ij,hW 5,hH (.fW 1 4 4)]
 ·exact gn 25 [4,8,12] [0,1,2,5] [hH (.draw 19 []),cC (n7 h6),cC (lN h7),bF h8,bF h9,cE aM.enc gq,cC (wL gu),bF ij,cE aM.enc gq,oO (Eq.refl ([(aX.mk r2.1 r3.1 0 false)].map aX.enc).length),aO aX.enc kH] (y2 Γ rv h)
theorem y0(Γ:bn)(rv:au×Int){p l done cF gw l1 v8 m6}(h:mP p l done cF gw l1 v8 m6=some rv):uf Γ rv ⟨[.c 127],⟨163,[vI 2 done,vP 4 0 25,vP 8 1 7,vI 10 cF,vI 11 gw,vP 12 2 7],[oX 25 232 (bw.enc p),oX 7 236 [lI 0,lI 0,.bool false,lI 0,.dO,lI 0,lI 0],oX 7 236 [lI 0,lI 0,.bool v8,lI m6,lO 3 4 l1 aX.enc,lI l.dD.lE,lI l.dD.cT],oS 4 258 l1 aX.enc]⟩⟩:=by
 simp only[mP,az,an,aq]at h;rcases h with⟨h4,h⟩|⟨h4,x1,h5,h⟩
 ·exact gn 9 [2,4,8,10,11,12,13,14] [0,1,2,3] [nL aM.enc p.aG,nF h4] (y1 Γ rv h)
 ·exact gn 9 [2,4,8,10,11,12,13,14] [0,1,2,3] [nL aM.enc p.aG,nT h4,cE aM.enc h5] (y1 Γ rv h)
theorem yZ(Γ:bn)(rv:au×Int){p l done de cF gw}(h:mO p l done de cF gw=some rv):uf Γ rv ⟨[.c 15],⟨163,[vI 2 done,vB 3 de,vP 4 0 25,vP 5 1 7,vP 8 2 7,vI 10 cF,vI 11 gw],[oX 25 232 (bw.enc p),oX 7 236 (au.enc l),oX 7 236 [lI 0,lI 0,.bool false,lI 0,.dO,lI 0,lI 0]]⟩⟩:=by
 simp only[mO,az,an,aq]at h;rcases h with⟨r,h1,⟨h2,h⟩|⟨h2,x0,h3,h⟩⟩
 ·exact gn 11 [2,4,8,10,11,12] [0,2,3,4] [cC (mJ h1),bT h2] (y0 Γ rv h)
 ·exact gn 11 [2,4,8,10,11,12] [0,2,3,4] [cC (mJ h1),bF h2,oO (iA h3),oO (iz aX.enc h3),rE aX.enc h3,hH (.rows ((gZ r (dZ .i64 done 1) (aX.mk x0.jK x0.uB x0.cF de)).map aX.enc)),hH (.xo 4 ((gZ r (dZ .i64 done 1) (aX.mk x0.jK x0.uB x0.cF de)).map aX.enc).length),oO (L4 aX.enc r (dZ .i64 done 1) (aX.mk x0.jK x0.uB x0.cF de)),rp 3 (oO (vV aX.enc r (dZ .i64 done 1) (aX.mk x0.jK x0.uB x0.cF de))),oO (iA (getSet h3 (aX.mk x0.jK x0.uB x0.cF de))),oO (iz aX.enc (getSet h3 (aX.mk x0.jK x0.uB x0.cF de))),rE aX.enc (getSet h3 (aX.mk x0.jK x0.uB x0.cF de)),hH (.rows ((gZ (gZ r (dZ .i64 done 1) (aX.mk x0.jK x0.uB x0.cF de)) (dZ .i64 done 1) (aX.mk x0.jK x0.uB cF de)).map aX.enc)),hH (.xo 4 ((gZ (gZ r (dZ .i64 done 1) (aX.mk x0.jK x0.uB x0.cF de)) (dZ .i64 done 1) (aX.mk x0.jK x0.uB cF de)).map aX.enc).length),oO (L4 aX.enc (gZ r (dZ .i64 done 1) (aX.mk x0.jK x0.uB x0.cF de)) (dZ .i64 done 1) (aX.mk x0.jK x0.uB cF de)),rp 4 (oO (vV aX.enc (gZ r (dZ .i64 done 1) (aX.mk x0.jK x0.uB x0.cF de)) (dZ .i64 done 1) (aX.mk x0.jK x0.uB cF de)))] (y0 Γ rv h)
theorem pI{p l done de}{rv:au×Int}(h:mu p l done de=some rv):dF prog 249 [.agg (bw.enc p),.agg (au.enc l),.one (lI done),.one (.bool de)] [] (.o5 [.agg [lI rv.1.ready,lI rv.1.gw,.bool rv.1.dD.de,lI rv.1.dD.cF,lL 4 rv.1.dD.je aX.enc,lI rv.1.dD.lE,lI rv.1.dD.cT],.one (lI rv.2)]) []:=by
 refine aU func249 fun Γ=>?_
 simp only[mu,az,an,aq]at h;rcases h with⟨h0,h⟩|⟨h0,h⟩
 ·exact gn 11 [2,3,4,5,8,10,11] [0,1,2] [hH (.draw 6 []),bT h0] (yZ Γ rv h)
 ·exact gn 9 [2,3,4,5,8,10,11] [0,1,2] [hH (.draw 6 []),bF h0] (yZ Γ rv h)
theorem I6{l m}{rv:Bool}(h:xA l m=some rv):dF prog 252 [.agg (au.enc l),.agg (au.enc m)] [] (one (.bool rv)) []:=by
 refine aU func252 fun Γ=>?_
 simp only[xA,az,an,aq]at h;cases h;exact gr 4 [] [rp 6 hP,rp 4 (oI ((bP l.ready m.ready)=true)),oR True ((bP l.ready m.ready)=true)]
theorem zY{m c}{rv:Bool}(h:qC m c=some rv):dF prog 251 [.agg (au.enc m),.one (.ip (au.enc c) 0)] [] (one (.bool rv)) []:=by
 refine aU func251 fun Γ=>?_
 simp only[qC,az,an,aq]at h;obtain⟨r,h0,h⟩:=h;obtain rfl:=oK h;exact gr 4 [] [cC (I6 h0)]
def jb(Γ:bn)(rv:Int)(cf:Cf):Prop:=Go prog f266 [] Γ (one (lI rv)) [] cf
def nE(Γ:bn)(rv:Int)(s0:List au)(c:au)(v:Int):Prop:=jb Γ rv ⟨[.c 52,.l 52,.b 0,.c 7],⟨19,[vL 0 7 s0 au.enc,(1,one (.fn (.func 251) [.ip (au.enc c) 0])),vI 7 (aC s0),vI 8 v],[]⟩⟩
def nA(Γ:bn)(rv:Int)(s0:List au)(c:au):Prop:=jb Γ rv ⟨[.c 7],⟨19,[],[]⟩⟩
theorem nB(Γ:bn)(rv:Int){s0 c}:∀⦃s:Int⦄ ⦃e:(Unit)⊕(Int)⦄,aK (fun s=>bE s0 c s) s=some e→jf e (fun e=>nA Γ rv s0 c) (fun e=>e=rv)→nE Γ rv s0 c s:=by
 refine bk ?_
 intro v z_ h hI hE;simp only[bE,az,an,aq]at h;rcases h with⟨h0,x0,h1,r,h2,⟨h3,h⟩|⟨h3,h⟩⟩|⟨h0,h⟩
 ·obtain rfl:=(hE h:_=rv);exact gr 14 [] [bT h0,cE au.enc h1,cC (zY h2),bT h3]
 ·exact gn 16 [0,1,7,8] [] [bT h0,cE au.enc h1,cC (zY h2),bF h3] (hI h)
 ·exact gn 5 [] [] [bF h0] (hE h)
theorem oE{s0 c}{rv:Int}(h:ez s0 c=some rv):dF prog 266 [.one (lL 7 s0 au.enc),.one (.fn (.func 251) [.ip (au.enc c) 0])] [] (one (lI rv)) []:=by
 refine aU func266 fun Γ=>?_
 simp only[ez,az,an,aq]at h;obtain⟨e0,h4,h⟩:=h;refine gn 7 [0,1,7,8] [] [nL au.enc s0] (nB Γ rv h4 ?_);rcases e0 with e0|r1
 ·cases h;exact gr 2 [] []
 ·exact oK h
theorem g9{s0 c}{rv:Bool}(h:cP s0 c=some rv):dF prog 250 [.one (lL 7 s0 au.enc),.one (.fn (.func 251) [.ip (au.enc c) 0])] [] (one (.bool rv)) []:=by
 refine aU func250 fun Γ=>?_
 simp only[cP,az,an,aq]at h;obtain⟨r,h0,h⟩:=h;cases h;exact gr 4 [] [cC (oE h0)]
def qD(Γ:bn)(rv:List au)(cf:Cf):Prop:=Go prog f225 [] Γ (one (lL 7 rv au.enc)) [] cf
def I8(Γ:bn)(rv:List au)(p:bw)(l:List au)(done:Int)(jL:List Bool)(v:Int)(x0:au)(l3:List au)(v1:Int):Prop:=qD Γ rv ⟨[.c 128204,.l 128204,.b 2,.b 1,.c 4007,.l 500,.b 0,.c 63],⟨64,[vI 2 done,vP 3 0 25,vL 7 1 jL bR,vO 8 1 7 l3 au.enc,vP 10 2 7,vL 29 7 l au.enc,vI 30 (aC l),vI 31 v,vL 35 1 jL bR,vI 36 (aC jL),vI 37 v1],[oX 25 232 (bw.enc p),oS 7 236 l3 au.enc,oX 7 236 (au.enc x0)]⟩⟩
def HD(Γ:bn)(rv:List au)(p:bw)(l:List au)(done:Int)(jL:List Bool)(v:Int)(x0:au)(l4:List au):Prop:=qD Γ rv ⟨[.b 1,.c 4007,.l 500,.b 0,.c 63],⟨64,[vI 2 done,vP 3 0 25,vL 7 1 jL bR,vO 8 1 7 l4 au.enc,vL 29 7 l au.enc,vI 30 (aC l),vI 31 v],[oX 25 232 (bw.enc p),oS 7 236 l4 au.enc]⟩⟩
def I7(Γ:bn)(rv:List au)(p:bw)(l:List au)(done:Int)(jL:List Bool)(l2:List au)(v:Int):Prop:=qD Γ rv ⟨[.c 500,.l 500,.b 0,.c 63],⟨64,[vI 2 done,vP 3 0 25,vL 7 1 jL bR,vO 8 1 7 l2 au.enc,vL 29 7 l au.enc,vI 30 (aC l),vI 31 v],[oX 25 232 (bw.enc p),oS 7 236 l2 au.enc]⟩⟩
def HB(Γ:bn)(rv:List au)(p:bw)(l:List au)(done:Int)(jL:List Bool)(l5:List au):Prop:=qD Γ rv ⟨[.c 63],⟨64,[vO 8 0 7 l5 au.enc],[oS 7 236 l5 au.enc]⟩⟩
theorem HF(Γ:bn)(rv:List au){p l done jL v x0}:∀⦃s:List au×Int⦄ ⦃e:List au⦄,aK (fun s=>hG p l done jL v x0 s.1 s.2) s=some e→HD Γ rv p l done jL v x0 e→I8 Γ rv p l done jL v x0 s.1 s.2:=by
 refine bk ?_
 rintro⟨l3,v1⟩ z_ h hI hE;simp only[hG,az,an,aq]at h;rcases h with⟨h4,x1,h5,r,h6,⟨h7,r1,h8,⟨h9,h⟩|⟨h9,dN,h⟩⟩|⟨h7,h⟩⟩|⟨h4,h⟩
 ·exact gn 18 [2,3,7,8,10,29,30,31,35,36,37] [0,1,2] [bT h4,cE bR h5,cC (pI h6),rp 3 (bT h7),eL l3 au.enc,cC (g9 h8),bT h7,bT h7,nF h9] (hI h)
 ·exact gn 18 [2,3,7,8,10,29,30,31,35,36,37] [0,5,2] [bT h4,cE bR h5,cC (pI h6),rp 3 (bT h7),eL l3 au.enc,cC (g9 h8),bT h7,bT h7,nT h9,oO (Eq.refl ([r.1].map au.enc).length),aO au.enc dN] (hI h)
 ·exact gn 18 [2,3,7,8,10,29,30,31,35,36,37] [0,1,2] [bT h4,cE bR h5,cC (pI h6),rp 5 (bF h7),fF] (hI h)
 ·exact gn 5 [2,3,7,8,29,30,31] [0,1] [bF h4] (hE h)
theorem HC(Γ:bn)(rv:List au){p l done jL}:∀⦃s:List au×Int⦄ ⦃e:List au⦄,aK (fun s=>g_ p l done jL s.1 s.2) s=some e→HB Γ rv p l done jL e→I7 Γ rv p l done jL s.1 s.2:=by
 refine bk ?_
 rintro⟨l2,v⟩ z_ h hI hE;simp only[g_,az,an,aq]at h;rcases h with⟨h2,x0,h3,l4,gq,h⟩|⟨h2,h⟩
 ·refine gn 13 [2,3,7,8,10,29,30,31,35,36,37] [0,1,2] [bT h2,cE au.enc h3,nL bR jL] (HF Γ rv gq ?_);exact gn 3 [2,3,7,8,29,30,31] [0,1] [] (hI h)
 ·exact gn 5 [8] [1] [bF h2] (hE h)
theorem yY(Γ:bn)(rv:List au){p l done jL}(h:mN p l done jL=some rv):qD Γ rv ⟨[.c 15],⟨64,[vL 1 7 l au.enc,vI 2 done,vP 3 0 25,vL 7 1 jL bR],[oX 25 232 (bw.enc p)]⟩⟩:=by
 simp only[mN,az,an,aq]at h;obtain⟨l5,gu,h⟩:=h;refine gn 7 [2,3,7,8,29,30,31] [0,1] [nL au.enc l,hW 3,hH (.lP 8 7 236)] (HC Γ rv gu ?_);obtain rfl:=oK h;exact gr 2 [] [hW 4,hH (.kX 0),rp 3 (eL l5 au.enc)]
theorem MB{p l done}{rv:List au}(h:nO p l done=some rv):dF prog 225 [.agg (bw.enc p),.one (lL 7 l au.enc),.one (lI done)] [] (one (lL 7 rv au.enc)) []:=by
 refine aU func225 fun Γ=>?_
 simp only[nO,az,an,aq]at h;rcases h with⟨h0,l1,h1,h⟩|⟨h0,h⟩
 ·exact gn 9 [1,2,3,7] [0] [nL bR p.r.aP,bT h0,hH (.rows (l1.map bR)),oO (Px h1),oO (Py h1),oO (Ap bR h1),oO (Int.le_refl (aY .i64 done 1)),oO (Ap bR h1),oO (Pz bR h1)] (yY Γ rv h)
 ·exact gn 9 [1,2,3,7] [0] [nL bR p.r.aP,bF h0,hW 1,hH (.kX 1),rp 2 (oO (Eq.refl ([false,true].map bR).length))] (yY Γ rv h)
def EH(Γ:bn)(rv:aQ×Int)(cf:Cf):Prop:=Go prog f226 [] Γ (.o5 [.agg [.bool rv.1.de,lI rv.1.cF,lL 4 rv.1.je aX.enc,lI rv.1.lE,lI rv.1.cT],.one (lI rv.2)]) [] cf
def Lb(Γ:bn)(rv:aQ×Int)(p:bw)(aP:List Bool)(r:au)(de:Int)(x0:au)(v:Int):Prop:=EH Γ rv ⟨[.c 116,.l 116,.b 0,.c 15],⟨36,[vP 2 0 25,vP 4 1 5,vP 6 2 7,vL 13 1 aP bR,vI 14 (aC aP),vI 15 v],[oX 25 232 [lL 1 p.x.bG.aD dC,lL 6 p.x.bG.bj aw.enc,lL 14 p.x.types ag.enc,lL 16 p.x.ah af.enc,lL 2 p.x.db aI.enc,lL 2 p.x.before aI.enc,.str p.t.name,lI p.t.yW,lI p.t.aE,lI p.t.dE,lL 1 p.t.cap ax,lI p.t.bD,lI p.t.aj,lI p.t.bm,lI p.t.bp,lI p.t.kC,lI de,lI p.t.pK,lI p.t.ia,lI p.t.ib,lI p.r.aR,lI p.r.aH,lL 1 p.r.aP bR,lL 2 p.r.ar ab.enc,lL 4 p.aG aM.enc],oX 5 168 [.bool false,lI 0,.dO,lI 0,lI 0],oX 7 236 (au.enc x0)]⟩⟩
def I9(Γ:bn)(rv:aQ×Int)(p:bw)(aP:List Bool)(r x2:au):Prop:=EH Γ rv ⟨[.c 15],⟨36,[vP 4 0 5,vP 6 1 7],[oX 5 168 [.bool false,lI 0,.dO,lI 0,lI 0],oX 7 236 (au.enc x2)]⟩⟩
theorem I_(Γ:bn)(rv:aQ×Int){p aP r}:∀⦃s:Int×au×Int⦄ ⦃e:(au)⊕(aQ×Int)⦄,aK (fun s=>qF p aP r s.1 s.2.1 s.2.2) s=some e→jf e (fun e=>I9 Γ rv p aP r e) (fun e=>e=rv)→Lb Γ rv p aP r s.1 s.2.1 s.2.2:=by
 refine bk ?_
 rintro⟨de,x0,v⟩ z_ h hI hE;simp only[qF,az,an,aq]at h;rcases h with⟨h1,x1,h2,r1,h3,⟨h4,h⟩|⟨h4,h⟩⟩|⟨h1,h⟩
 ·obtain rfl:=(hE h:_=rv);exact gr 17 [] [bT h1,cE bR h2,cC (pI h3),bT h4,hW 6,hH (.fW 1 2 4)]
 ·exact gn 20 [2,4,6,13,14,15] [0,1,2] [bT h1,cE bR h2,cC (pI h3),bF h4] (hI h)
 ·exact gn 5 [4,6] [1,2] [bF h1] (hE h)
theorem N2{p aP}{rv:aQ×Int}(h:rJ p aP=some rv):dF prog 226 [.agg (bw.enc p),.one (lL 1 aP bR)] [] (.o5 [.agg [.bool rv.1.de,lI rv.1.cF,lL 4 rv.1.je aX.enc,lI rv.1.lE,lI rv.1.cT],.one (lI rv.2)]) []:=by
 refine aU func226 fun Γ=>?_
 simp only[rJ,az,an,aq]at h;obtain⟨r,h0,e0,h5,h⟩:=h;refine gn 9 [2,4,6,13,14,15] [0,1,2] [cC (AI h0),nL bR aP] (I_ Γ rv h5 ?_);rcases e0 with x2|r2
 ·cases h;exact gr 2 [] []
 ·exact oK h
def Bg(Γ:bn)(rv:aQ×Int)(cf:Cf):Prop:=Go prog f199 [] Γ (.o5 [.agg [.bool rv.1.de,lI rv.1.cF,lL 4 rv.1.je aX.enc,lI rv.1.lE,lI rv.1.cT],.one (lI rv.2)]) [] cf
def Rp(Γ:bn)(rv:aQ×Int)(r:ay)(r1:bw×Bool)(l:List au)(v:Int):Prop:=Bg Γ rv ⟨[.c 1012,.l 1012,.b 0,.c 127],⟨82,[vP 3 0 4,vP 4 1 5,vP 6 2 25,vI 8 (aY .i64 (aC r.ar) 1),vL 9 7 l au.enc,vI 38 (aY .i64 (aC r.ar) 1),vI 39 v],[oX 4 48 (ay.enc r),oX 5 168 [.bool false,lI 0,.dO,lI 0,lI 0],oX 25 232 (bw.enc r1.1)]⟩⟩
def PK(Γ:bn)(rv:aQ×Int)(r:ay)(r1:bw×Bool)(l1:List au):Prop:=Bg Γ rv ⟨[.c 127],⟨82,[vP 3 0 4,vP 4 1 5,vP 6 2 25,vI 8 (aY .i64 (aC r.ar) 1),vL 9 7 l1 au.enc],[oX 4 48 (ay.enc r),oX 5 168 [.bool false,lI 0,.dO,lI 0,lI 0],oX 25 232 (bw.enc r1.1)]⟩⟩
def Rq(Γ:bn)(rv:aQ×Int)(l3:List au)(x2:au)(v1:Int):Prop:=Bg Γ rv ⟨[.c 8180,.l 8180,.b 2,.c 1023],⟨82,[vP 4 0 5,vP 12 1 7,vL 65 7 l3 au.enc,vI 66 (aC l3),vI 67 v1],[oX 5 168 [.bool false,lI 0,.dO,lI 0,lI 0],oX 7 236 (au.enc x2)]⟩⟩
def PM(Γ:bn)(rv:aQ×Int)(l3:List au)(x4:au):Prop:=Bg Γ rv ⟨[.c 1023],⟨82,[vP 4 0 5,vP 12 1 7],[oX 5 168 [.bool false,lI 0,.dO,lI 0,lI 0],oX 7 236 (au.enc x4)]⟩⟩
theorem PL(Γ:bn)(rv:aQ×Int){r r1}:∀⦃s:List au×Int⦄ ⦃e:List au⦄,aK (fun s=>lK r r1 s.1 s.2) s=some e→PK Γ rv r r1 e→Rp Γ rv r r1 s.1 s.2:=by
 refine bk ?_
 rintro⟨l,v⟩ z_ h hI hE;simp only[lK,az,an,aq]at h;rcases h with⟨h3,r3,h4,h⟩|⟨h3,h⟩
 ·exact gn 13 [3,4,6,8,9,38,39] [0,1,2] [bT h3,cC (MB h4)] (hI h)
 ·exact gn 5 [3,4,6,8,9] [0,1,2] [bF h3] (hE h)
theorem PN(Γ:bn)(rv:aQ×Int){l3}:∀⦃s:au×Int⦄ ⦃e:au⦄,aK (fun s=>lM l3 s.1 s.2) s=some e→PM Γ rv l3 e→Rq Γ rv l3 s.1 s.2:=by
 refine bk ?_
 rintro⟨x2,v1⟩ z_ h hI hE;simp only[lM,az,an,aq]at h;rcases h with⟨gq,x3,gu,⟨ij,h⟩|⟨ij,h⟩⟩|⟨gq,h⟩
 ·exact gn 16 [4,12,65,66,67] [0,1] [bT gq,cE au.enc gu,bT ij] (hI h)
 ·exact gn 16 [4,12,65,66,67] [0,1] [bT gq,cE au.enc gu,bF ij] (hI h)
 ·exact gn 5 [4,12] [0,1] [bF gq] (hE h)
theorem Mf{x0 r}{rv:aQ×Int}(h:zp x0 r=some rv):dF prog 199 [.agg (ae.enc x0),.agg (ay.enc r)] [] (.o5 [.agg [.bool rv.1.de,lI rv.1.cF,lL 4 rv.1.je aX.enc,lI rv.1.lE,lI rv.1.cT],.one (lI rv.2)]) []:=by
 refine aU func199 fun Γ=>?_
 simp only[zp,az,an,aq]at h;rcases h with⟨r1,h0,⟨h1,h⟩|⟨h1,r2,h2,l1,h5,h⟩⟩
 ·cases h;exact gr 12 [] [cC (Mg h0),nL ab.enc r.ar,hP,hP,hP,rp 2 (oI ((!r1.2)=false)),nL bR r.aP,hP,hP,hP,rp 2 (oI ((!r1.2)=false)),oR True ((!r1.2)=false),bT h1,hW 5,hH (.fW 2 2 4)]
 ·refine gn 18 [3,4,6,8,9,38,39] [1,2,3] [cC (Mg h0),nL ab.enc r.ar,hP,hP,hP,rp 2 (oI ((!r1.2)=false)),nL bR r.aP,hP,hP,hP,rp 2 (oI ((!r1.2)=false)),oR True ((!r1.2)=false),bF h1,cC (AI h2),hW 9,hH (.kX 4),rp 2 (oO (Eq.refl ([r2].map au.enc).length))] (PL Γ rv h5 ?_);rcases h with⟨h6,l2,h7,r4,h8,h⟩|⟨h6,x1,h9,l3,dN,x4,kH,h⟩
  ·cases h;exact gr 10 [] [nL au.enc l1,bT h6,hH (.cells [.bool false]),hH (.rows (l2.map bR)),oO (mk1 h7),oO (mk2 h7),oO (mk3 h7),oO (mk4 h7),oO (mk5 bR h7),cY bR l2 r.aP,hH (.xo 3 ((HA l2 r.aP).map bR).length),hW 4,hH (.kX 3),rp 3 (oO (QgH bR l2 r.aP)),rp 4 (oO (Eq.refl ((HA l2 r.aP).map bR).length)),cC (N2 h8)]
  ·refine gn 12 [4,12,65,66,67] [1,3] [nL au.enc l1,bF h6,cE au.enc h9,hH (.rows (l3.map au.enc)),oO (Px dN),oO (Qov au.enc dN),rp 3 (oO (Int.le_refl ((l1.map au.enc).length:Int))),oO (Qow au.enc dN),nL au.enc l3] (PN Γ rv kH ?_);cases h;exact gr 2 [] []
theorem vm{kind own}{rv:Bool}(h:wy kind own=some rv):dF prog 227 [.one (lI kind),.one (lI own)] [] (one (.bool rv)) []:=by
 refine aU func227 fun Γ=>?_
 simp only[wy,az,an,aq]at h;cases h;exact gr 4 [] [rp 4 hP,rp 2 (oI ((cA kind (-1))=true)),oR True ((cA kind (-1))=true)]
def Ej(Γ:bn)(rv:bJ)(cf:Cf):Prop:=Go prog f200 [] Γ (gG [lI rv.iq,lI rv.ee,lI rv.eQ,lI rv.C9]) [] cf
def Fs(Γ:bn)(rv:bJ)(x0:ae)(r:ay)(s0:aQ)(x1:ag)(l:List (Int×Int))(ee eQ v:Int):Prop:=Ej Γ rv ⟨[.c 4084,.l 4084,.b 0,.c 511],⟨114,[vP 3 0 6,vP 4 1 4,vP 6 2 4,vP 10 3 4,(11,one (.mp 4)),vL 59 2 r.ar ab.enc,vI 60 (aC r.ar),vI 61 v],[oX 6 30 (ae.enc x0),oX 4 48 (ay.enc r),oX 4 170 [lI 0,lI 0,lI 0,lI 0],oX 4 170 [lI (aY .i64 (aY .i64 x1.pK (m_ .i64 x1.ia s0.cT)) (m_ .i64 x1.ib (dZ .i64 s0.lE x1.bm))),lI ee,lI eQ,lI (m_ .i64 (uw .i64 (dZ .i64 s0.lE x1.bm) 64) (uw .i64 (dZ .i64 s0.lE x1.bm) 64))],oM 241 l (mE kI lI)]⟩⟩
def DG(Γ:bn)(rv:bJ)(x0:ae)(r:ay)(s0:aQ)(x1:ag)(GQ GY:Int):Prop:=Ej Γ rv ⟨[.c 511],⟨114,[vP 6 0 4,vP 10 1 4],[oX 4 170 [lI 0,lI 0,lI 0,lI 0],oX 4 170 [lI (aY .i64 (aY .i64 x1.pK (m_ .i64 x1.ia s0.cT)) (m_ .i64 x1.ib (dZ .i64 s0.lE x1.bm))),lI GQ,lI GY,lI (m_ .i64 (uw .i64 (dZ .i64 s0.lE x1.bm) 64) (uw .i64 (dZ .i64 s0.lE x1.bm) 64))]]⟩⟩
theorem DF(Γ:bn)(rv:bJ){x0 r s0 x1 l eQ v x2 x3 Ax}{x:(List (Int×Int)×Int×Int×Int)⊕(Int×Int)}(h:uT x0 r s0 x1 l eQ v x2 x3 Ax=some x)(hI:∀⦃s:List (Int×Int)×Int×Int×Int⦄,some (.inl s)=some x→Fs Γ rv x0 r s0 x1 s.1 s.2.1 s.2.2.1 s.2.2.2)(hE:∀⦃e:Int×Int⦄,some (.inr e)=some x→DG Γ rv x0 r s0 x1 e.1 e.2):Ej Γ rv ⟨[.c 2091423,.b 1,.c 32679,.l 4084,.b 0,.c 511],⟨114,[vP 3 0 6,vP 4 1 4,vP 6 2 4,vP 10 3 4,(11,one (.mp 4)),vP 14 5 16,vL 59 2 r.ar ab.enc,vI 60 (aC r.ar),vI 61 v],[oX 6 30 (ae.enc x0),oX 4 48 (ay.enc r),oX 4 170 [lI 0,lI 0,lI 0,lI 0],oX 4 170 [lI (aY .i64 (aY .i64 x1.pK (m_ .i64 x1.ia s0.cT)) (m_ .i64 x1.ib (dZ .i64 s0.lE x1.bm))),lI Ax,lI eQ,lI (m_ .i64 (uw .i64 (dZ .i64 s0.lE x1.bm) 64) (uw .i64 (dZ .i64 s0.lE x1.bm) 64))],oM 241 (vh bP l x2.aL (aY .i64 (pY bP l x2.aL 0) 1)) (mE kI lI),oX 16 56 (af.enc x3)]⟩⟩:=by
 simp only[uT,az,an,aq]at h;rcases h with⟨r2,h9,⟨dN,h⟩|⟨dN,h⟩⟩
 ·exact gn 7 [3,4,6,10,11,59,60,61] [0,1,2,3,4] [cC (vm h9),bT dN] (hI h)
 ·exact gn 7 [3,4,6,10,11,59,60,61] [0,1,2,3,4] [cC (vm h9),bF dN] (hI h)
theorem OW(Γ:bn)(rv:bJ){x0 r s0 x1}:∀⦃s:List (Int×Int)×Int×Int×Int⦄ ⦃e:Int×Int⦄,aK (fun s=>l_ x0 r s0 x1 s.1 s.2.1 s.2.2.1 s.2.2.2) s=some e→DG Γ rv x0 r s0 x1 e.1 e.2→Fs Γ rv x0 r s0 x1 s.1 s.2.1 s.2.2.1 s.2.2.2:=by
 refine bk ?_
 rintro⟨l,ee,eQ,v⟩ z_ h hI hE;simp only[l_,az,an,aq]at h;rcases h with⟨h2,x2,h3,⟨h4,h⟩|⟨h4,⟨h5,h⟩|⟨h5,x3,h6,r1,h7,⟨h8,h⟩|⟨h8,h⟩⟩⟩⟩|⟨h2,h⟩
 ·exact gn 18 [3,4,6,10,11,59,60,61] [0,1,2,3,4] [bT h2,cE ab.enc h3,mG kqI lI l x2.aL 0,mU kqI lI l x2.aL (aY .i64 (pY bP l x2.aL 0) 1),rp 5 hP,rp 3 (oI ((aT x2.aL 0)=false)),nL af.enc x0.ah,hP,hP,rp 2 (oI ((aT x2.aL 0)=false)),oR True ((aT x2.aL 0)=false),rp 6 (bT h4),tT] (hI h)
 ·exact gn 18 [3,4,6,10,11,59,60,61] [0,1,2,3,4] [bT h2,cE ab.enc h3,mG kqI lI l x2.aL 0,mU kqI lI l x2.aL (aY .i64 (pY bP l x2.aL 0) 1),rp 5 hP,rp 3 (oI ((aT x2.aL 0)=false)),nL af.enc x0.ah,hP,hP,rp 2 (oI ((aT x2.aL 0)=false)),oR True ((aT x2.aL 0)=false),rp 4 (bF h4),mG kqI lI (vh bP l x2.aL (aY .i64 (pY bP l x2.aL 0) 1)) x2.aL 0,bF h4,bF h4,bT h5] (hI h)
 ·exact gn 23 [3,4,6,10,11,14,59,60,61] [0,1,2,3,4,6] [bT h2,cE ab.enc h3,mG kqI lI l x2.aL 0,mU kqI lI l x2.aL (aY .i64 (pY bP l x2.aL 0) 1),rp 5 hP,rp 3 (oI ((aT x2.aL 0)=false)),nL af.enc x0.ah,hP,hP,rp 2 (oI ((aT x2.aL 0)=false)),oR True ((aT x2.aL 0)=false),rp 4 (bF h4),mG kqI lI (vh bP l x2.aL (aY .i64 (pY bP l x2.aL 0) 1)) x2.aL 0,bF h4,bF h4,bF h5,cE af.enc h6,cC (vm h7),bT h8] (DF Γ rv h hI hE)
 ·exact gn 23 [3,4,6,10,11,14,59,60,61] [0,1,2,3,4,6] [bT h2,cE ab.enc h3,mG kqI lI l x2.aL 0,mU kqI lI l x2.aL (aY .i64 (pY bP l x2.aL 0) 1),rp 5 hP,rp 3 (oI ((aT x2.aL 0)=false)),nL af.enc x0.ah,hP,hP,rp 2 (oI ((aT x2.aL 0)=false)),oR True ((aT x2.aL 0)=false),rp 4 (bF h4),mG kqI lI (vh bP l x2.aL (aY .i64 (pY bP l x2.aL 0) 1)) x2.aL 0,bF h4,bF h4,bF h5,cE af.enc h6,cC (vm h7),bF h8] (DF Γ rv h hI hE)
 ·exact gn 5 [6,10] [2,3] [bF h2] (hE h)
theorem Tq{x0 r s0}{rv:bJ}(h:Ai x0 r s0=some rv):dF prog 200 [.agg (ae.enc x0),.agg (ay.enc r),.agg (aQ.enc s0)] [] (gG [lI rv.iq,lI rv.ee,lI rv.eQ,lI rv.C9]) []:=by
 refine aU func200 fun Γ=>?_
 simp only[Ai,az,an,aq]at h;rcases h with⟨h0,h⟩|⟨h0,x1,h1,⟨GQ,GY⟩,gq,h⟩
 ·cases h;exact gr 8 [] [rp 5 hP,rp 3 (oI ((aT r.aR 0)=false)),nL ag.enc x0.types,hP,hP,rp 2 (oI ((aT r.aR 0)=false)),oR True ((aT r.aR 0)=false),bT h0]
 ·refine gn 22 [3,4,6,10,11,59,60,61] [0,1,3,5,6] [rp 5 hP,rp 3 (oI ((aT r.aR 0)=false)),nL ag.enc x0.types,hP,hP,rp 2 (oI ((aT r.aR 0)=false)),oR True ((aT r.aR 0)=false),bF h0,cE ag.enc h1,oO (oA (n:=64)),nL ab.enc r.ar] (OW Γ rv gq ?_);cases h;exact gr 2 [] []
theorem DM{x0 r}{rv:aQ×bJ×Int}(h:me x0 r=some rv):dF prog 173 [.agg (ae.enc x0),.agg (ay.enc r)] [] (.o5 [.agg [.bool rv.1.de,lI rv.1.cF,lL 4 rv.1.je aX.enc,lI rv.1.lE,lI rv.1.cT],.agg [lI rv.2.1.iq,lI rv.2.1.ee,lI rv.2.1.eQ,lI rv.2.1.C9],.one (lI rv.2.2)]) []:=by
 refine aU func173 fun Γ=>?_
 simp only[me,az,an,aq]at h;rcases h with⟨h0,h⟩|⟨h0,r1,h1,⟨h2,h⟩|⟨h2,r2,h3,⟨h4,h⟩|⟨h4,r3,h5,⟨h6,h⟩|⟨h6,r4,h7,⟨h8,h⟩|⟨h8,r5,h9,h⟩⟩⟩⟩⟩
 ·cases h;exact gr 8 [] [rp 5 hP,rp 3 (oI ((aT r.aR 0)=false)),nL ag.enc x0.types,hP,hP,rp 2 (oI ((aT r.aR 0)=false)),oR True ((aT r.aR 0)=false),bT h0,hW 7,hH (.fW 2 2 4)]
 ·cases h;exact gr 28 [] [rp 5 hP,rp 3 (oI ((aT r.aR 0)=false)),nL ag.enc x0.types,hP,hP,rp 2 (oI ((aT r.aR 0)=false)),oR True ((aT r.aR 0)=false),bF h0,nL xB [196,197,198],tT,oO (iA (rfl:bq ([196,197,198]:List Nat) 0=some 196)),oO (iz xB (rfl:bq ([196,197,198]:List Nat) 0=some 196)),rE xB (rfl:bq ([196,197,198]:List Nat) 0=some 196),cC (kp h1),bT h2,hW 8,hH (.fW 2 2 4)]
 ·cases h;exact gr 46 [] [rp 5 hP,rp 3 (oI ((aT r.aR 0)=false)),nL ag.enc x0.types,hP,hP,rp 2 (oI ((aT r.aR 0)=false)),oR True ((aT r.aR 0)=false),bF h0,nL xB [196,197,198],tT,oO (iA (rfl:bq ([196,197,198]:List Nat) 0=some 196)),oO (iz xB (rfl:bq ([196,197,198]:List Nat) 0=some 196)),rE xB (rfl:bq ([196,197,198]:List Nat) 0=some 196),cC (kp h1),bF h2,tT,oO (iA (rfl:bq ([196,197,198]:List Nat) 1=some 197)),oO (iz xB (rfl:bq ([196,197,198]:List Nat) 1=some 197)),rE xB (rfl:bq ([196,197,198]:List Nat) 1=some 197),cC (zI h3),bT h4,hW 8,hH (.fW 2 2 4)]
 ·cases h;exact gr 64 [] [rp 5 hP,rp 3 (oI ((aT r.aR 0)=false)),nL ag.enc x0.types,hP,hP,rp 2 (oI ((aT r.aR 0)=false)),oR True ((aT r.aR 0)=false),bF h0,nL xB [196,197,198],tT,oO (iA (rfl:bq ([196,197,198]:List Nat) 0=some 196)),oO (iz xB (rfl:bq ([196,197,198]:List Nat) 0=some 196)),rE xB (rfl:bq ([196,197,198]:List Nat) 0=some 196),cC (kp h1),bF h2,tT,oO (iA (rfl:bq ([196,197,198]:List Nat) 1=some 197)),oO (iz xB (rfl:bq ([196,197,198]:List Nat) 1=some 197)),rE xB (rfl:bq ([196,197,198]:List Nat) 1=some 197),cC (zI h3),bF h4,tT,oO (iA (rfl:bq ([196,197,198]:List Nat) 2=some 198)),oO (iz xB (rfl:bq ([196,197,198]:List Nat) 2=some 198)),rE xB (rfl:bq ([196,197,198]:List Nat) 2=some 198),cC (DX h5),bT h6,hW 8,hH (.fW 2 2 4)]
 ·cases h;exact gr 79 [] [rp 5 hP,rp 3 (oI ((aT r.aR 0)=false)),nL ag.enc x0.types,hP,hP,rp 2 (oI ((aT r.aR 0)=false)),oR True ((aT r.aR 0)=false),bF h0,nL xB [196,197,198],tT,oO (iA (rfl:bq ([196,197,198]:List Nat) 0=some 196)),oO (iz xB (rfl:bq ([196,197,198]:List Nat) 0=some 196)),rE xB (rfl:bq ([196,197,198]:List Nat) 0=some 196),cC (kp h1),bF h2,tT,oO (iA (rfl:bq ([196,197,198]:List Nat) 1=some 197)),oO (iz xB (rfl:bq ([196,197,198]:List Nat) 1=some 197)),rE xB (rfl:bq ([196,197,198]:List Nat) 1=some 197),cC (zI h3),bF h4,tT,oO (iA (rfl:bq ([196,197,198]:List Nat) 2=some 198)),oO (iz xB (rfl:bq ([196,197,198]:List Nat) 2=some 198)),rE xB (rfl:bq ([196,197,198]:List Nat) 2=some 198),cC (DX h5),bF h6,fF,cC (Mf h7),bT h8,hW 8,hH (.fW 2 2 4)]
 ·cases h;exact gr 80 [] [rp 5 hP,rp 3 (oI ((aT r.aR 0)=false)),nL ag.enc x0.types,hP,hP,rp 2 (oI ((aT r.aR 0)=false)),oR True ((aT r.aR 0)=false),bF h0,nL xB [196,197,198],tT,oO (iA (rfl:bq ([196,197,198]:List Nat) 0=some 196)),oO (iz xB (rfl:bq ([196,197,198]:List Nat) 0=some 196)),rE xB (rfl:bq ([196,197,198]:List Nat) 0=some 196),cC (kp h1),bF h2,tT,oO (iA (rfl:bq ([196,197,198]:List Nat) 1=some 197)),oO (iz xB (rfl:bq ([196,197,198]:List Nat) 1=some 197)),rE xB (rfl:bq ([196,197,198]:List Nat) 1=some 197),cC (zI h3),bF h4,tT,oO (iA (rfl:bq ([196,197,198]:List Nat) 2=some 198)),oO (iz xB (rfl:bq ([196,197,198]:List Nat) 2=some 198)),rE xB (rfl:bq ([196,197,198]:List Nat) 2=some 198),cC (DX h5),bF h6,fF,cC (Mf h7),bF h8,hH (.draw 5 []),cC (Tq h9)]
theorem so{s0}{rv:Z9}(h:DH s0=some rv):dF prog 201 [.agg (bJ.enc s0)] [] (gG [lI rv.x0,lI rv.x1,lI rv.x2,lI rv.x3]) []:=by
 refine aU func201 fun Γ=>?_
 simp only[DH,az,an,aq]at h;cases h;exact gr 4 [] []
theorem RF{s0}{rv:Int×Int}(h:yH s0=some rv):dF prog 174 [.agg (bJ.enc s0)] [] (.o5 [.one (lI rv.1),.one (lI rv.2)]) []:=by
 refine aU func174 fun Γ=>?_
 simp only[yH,az,an,aq]at h;rcases h with⟨r,h0,⟨h1,h⟩|⟨h1,⟨h2,h⟩|⟨h2,⟨h3,h⟩|⟨h3,⟨h4,h⟩|⟨h4,⟨h5,h⟩|⟨h5,h⟩⟩⟩⟩⟩⟩
 ·cases h;exact gr 23 [] [cC (so h0),tT,oO (zL 0),oO (lT 0 4),bT h1]
 ·cases h;exact gr 39 [] [cC (so h0),tT,oO (zL 0),oO (lT 0 4),bF h1,tT,oO (zL 1),oO (lT 1 4),bT h2]
 ·cases h;exact gr 55 [] [cC (so h0),tT,oO (zL 0),oO (lT 0 4),bF h1,tT,oO (zL 1),oO (lT 1 4),bF h2,tT,oO (zL 2),oO (lT 2 4),bT h3]
 ·cases h;exact gr 71 [] [cC (so h0),tT,oO (zL 0),oO (lT 0 4),bF h1,tT,oO (zL 1),oO (lT 1 4),bF h2,tT,oO (zL 2),oO (lT 2 4),bF h3,tT,oO (zL 3),oO (lT 3 4),bT h4]
 ·cases h;exact gr 84 [] [cC (so h0),tT,oO (zL 0),oO (lT 0 4),bF h1,tT,oO (zL 1),oO (lT 1 4),bF h2,tT,oO (zL 2),oO (lT 2 4),bF h3,tT,oO (zL 3),oO (lT 3 4),bF h4,fF,rp 12 hP,rp 2 (oI ((cQ s0.iq 1073741824)=false)),oR True ((cQ s0.iq 1073741824)=false),rp 2 (oI (((cQ s0.iq 1073741824)||(bZ s0.ee 16))=false)),oR True (((cQ s0.iq 1073741824)||(bZ s0.ee 16))=false),rp 2 (oI ((((cQ s0.iq 1073741824)||(bZ s0.ee 16))||(bZ s0.eQ 16))=false)),oR True ((((cQ s0.iq 1073741824)||(bZ s0.ee 16))||(bZ s0.eQ 16))=false),bT h5]
 ·cases h;exact gr 85 [] [cC (so h0),tT,oO (zL 0),oO (lT 0 4),bF h1,tT,oO (zL 1),oO (lT 1 4),bF h2,tT,oO (zL 2),oO (lT 2 4),bF h3,tT,oO (zL 3),oO (lT 3 4),bF h4,fF,rp 12 hP,rp 2 (oI ((cQ s0.iq 1073741824)=false)),oR True ((cQ s0.iq 1073741824)=false),rp 2 (oI (((cQ s0.iq 1073741824)||(bZ s0.ee 16))=false)),oR True (((cQ s0.iq 1073741824)||(bZ s0.ee 16))=false),rp 2 (oI ((((cQ s0.iq 1073741824)||(bZ s0.ee 16))||(bZ s0.eQ 16))=false)),oR True ((((cQ s0.iq 1073741824)||(bZ s0.ee 16))||(bZ s0.eQ 16))=false),bF h5]
theorem Kc{x0 r}{rv:Int×Int}(h:lu x0 r=some rv):dF prog 138 [.agg (ae.enc x0),.agg (ay.enc r)] [] (.o5 [.one (lI rv.1),.one (lI rv.2)]) []:=by
 refine aU func138 fun Γ=>?_
 simp only[lu,az,an,aq]at h;rcases h with⟨r1,h0,⟨h1,h⟩|⟨h1,r2,h2,h⟩⟩
 ·cases h;exact gr 10 [] [cC (DM h0),bT h1]
 ·cases h;exact gr 11 [] [cC (DM h0),bF h1,cC (RF h2)]
theorem zj{v}{rv:Int}(h:m4 v=some rv):dF prog 228 [.agg (ab.enc v)] [] (one (lI rv)) []:=by
 refine aU func228 fun Γ=>?_
 simp only[m4,az,an,aq]at h;rcases h with⟨h0,h⟩|⟨h0,h⟩
 ·obtain rfl:=oK h;exact gr 8 [] [bT h0]
 ·obtain rfl:=oK h;exact gr 9 [] [bF h0]
def Mc(Γ:bn)(rv:Int)(cf:Cf):Prop:=Go prog f229 [] Γ (one (lI rv)) [] cf
def PG(Γ:bn)(rv:Int)(uc:List Int)(v:Int):Prop:=Mc Γ rv ⟨[.c 116,.l 116,.b 0,.c 15],⟨18,[vI 3 0,vL 6 1 uc ax,vI 7 (aC uc),vI 8 v],[]⟩⟩
def NU(Γ:bn)(rv:Int)(uc:List Int):Prop:=Mc Γ rv ⟨[.c 15],⟨18,[vI 3 0],[]⟩⟩
theorem NV(Γ:bn)(rv:Int){uc}:∀⦃s:Int⦄ ⦃e:(Unit)⊕(Int)⦄,aK (fun s=>lS uc s) s=some e→jf e (fun e=>NU Γ rv uc) (fun e=>e=rv)→PG Γ rv uc s:=by
 refine bk ?_
 intro v z_ h hI hE;simp only[lS,az,an,aq]at h;rcases h with⟨h0,x0,h1,⟨h2,h⟩|⟨h2,h⟩⟩|⟨h0,h⟩
 ·obtain rfl:=(hE h:_=rv);exact gr 14 [] [bT h0,cE ax h1,bT h2]
 ·exact gn 16 [3,6,7,8] [] [bT h0,cE ax h1,bF h2] (hI h)
 ·exact gn 5 [3] [] [bF h0] (hE h)
theorem Sy{uc}{rv:Int}(h:zU uc=some rv):dF prog 229 [.one (lL 1 uc ax)] [] (one (lI rv)) []:=by
 refine aU func229 fun Γ=>?_
 simp only[zU,az,an,aq]at h;obtain⟨e0,h3,h⟩:=h;refine gn 9 [3,6,7,8] [] [nL ax uc] (NV Γ rv h3 ?_);rcases e0 with e0|r
 ·obtain rfl:=oK h;exact gr 2 [] []
 ·exact oK h
theorem fL{x0}{rv:Bool}(h:uE x0=some rv):dF prog 253 [.one (lI x0)] [] (one (.bool rv)) []:=by
 refine aU func253 fun Γ=>?_
 simp only[uE,az,an,aq]at h;cases h;exact gr 4 [] []
theorem AH{x0 y}{rv:Int}(h:pa x0 y=some rv):dF prog 230 [.one (lI x0),.one (lI y)] [] (one (lI rv)) []:=by
 refine aU func230 fun Γ=>?_
 simp only[pa,az,an,aq]at h;rcases h with⟨r,h0,r1,h1,⟨h2,⟨h3,h⟩|⟨h3,h⟩⟩|⟨h2,⟨h4,h⟩|⟨h4,⟨h5,h⟩|⟨h5,⟨h6,h⟩|⟨h6,h⟩⟩⟩⟩⟩
 ·obtain rfl:=oK h;exact gr 16 [] [cC (fL h0),cC (fL h1),bT h2,bT h3]
 ·cases h;exact gr 17 [] [cC (fL h0),cC (fL h1),bT h2,bF h3]
 ·obtain rfl:=oK h;exact gr 17 [] [cC (fL h0),cC (fL h1),bF h2,bT h4]
 ·cases h;exact gr 22 [] [cC (fL h0),cC (fL h1),bF h2,bF h4,bT h5]
 ·obtain rfl:=oK h;exact gr 27 [] [cC (fL h0),cC (fL h1),bF h2,bF h4,bF h5,bT h6]
 ·obtain rfl:=oK h;exact gr 28 [] [cC (fL h0),cC (fL h1),bF h2,bF h4,bF h5,bF h6]
theorem Bc{a b}{rv:Int}(h:ss a b=some rv):dF prog 203 [.agg (ab.enc a),.agg (ab.enc b)] [] (one (lI rv)) []:=by
 refine aU func203 fun Γ=>?_
 simp only[ss,az,an,aq]at h;obtain⟨r,h0,r1,h1,r2,h2,r3,h3,r4,h4,h⟩:=h;obtain rfl:=oK h;exact gr 6 [] [hH (.draw 15 []),cC (AH h0),cC (zj h1),cC (zj h2),cC (AH h3),oO (Eq.refl ([r,r3].map ax).length),cC (Sy h4)]
def fh(Γ:bn)(rv:Int)(cf:Cf):Prop:=Go prog f202 [] Γ (one (lI rv)) [] cf
def jd(Γ:bn)(rv:Int)(s1 s2:List ab)(v:Int):Prop:=fh Γ rv ⟨[.c 52,.l 52,.b 0,.c 7],⟨39,[vL 0 2 s1 ab.enc,vL 1 2 s2 ab.enc,(2,one (.fn (.func 203) [])),vL 11 2 s1 ab.enc,vI 12 (aC s1),vI 13 v],[]⟩⟩
def i_(Γ:bn)(rv:Int)(s1 s2:List ab):Prop:=fh Γ rv ⟨[.c 7],⟨39,[vL 0 2 s1 ab.enc,vL 1 2 s2 ab.enc],[]⟩⟩
theorem ja(Γ:bn)(rv:Int){s1 s2}:∀⦃s:Int⦄ ⦃e:(Unit)⊕(Int)⦄,aK (fun s=>bu s1 s2 s) s=some e→jf e (fun e=>i_ Γ rv s1 s2) (fun e=>e=rv)→jd Γ rv s1 s2 s:=by
 refine bk ?_
 intro v z_ h hI hE;simp only[bu,az,an,aq]at h;rcases h with⟨h0,x0,h1,⟨h2,h⟩|⟨h2,x1,h3,r,h4,⟨h5,h⟩|⟨h5,h⟩⟩⟩|⟨h0,h⟩
 ·obtain rfl:=(hE h:_=rv);exact gr 15 [] [bT h0,cE ab.enc h1,nL ab.enc s2,bT h2]
 ·obtain rfl:=(hE h:_=rv);exact gr 23 [] [bT h0,cE ab.enc h1,nL ab.enc s2,bF h2,cE ab.enc h3,cC (Bc h4),bT h5]
 ·exact gn 25 [0,1,2,11,12,13] [] [bT h0,cE ab.enc h1,nL ab.enc s2,bF h2,cE ab.enc h3,cC (Bc h4),bF h5] (hI h)
 ·exact gn 5 [0,1] [] [bF h0] (hE h)
theorem jz{s1 s2}{rv:Int}(h:cU s1 s2=some rv):dF prog 202 [.one (lL 2 s1 ab.enc),.one (lL 2 s2 ab.enc),.one (.fn (.func 203) [])] [] (one (lI rv)) []:=by
 refine aU func202 fun Γ=>?_
 simp only[cU,az,an,aq]at h;obtain⟨e0,h6,h⟩:=h;refine gn 7 [0,1,2,11,12,13] [] [nL ab.enc s1] (ja Γ rv h6 ?_);rcases e0 with e0|r1
 ·simp only[en,az,an,aq]at h;rcases h with⟨h7,h⟩|⟨h7,h⟩
  ·cases h;exact gr 6 [] [nL ab.enc s1,nL ab.enc s2,bT h7]
  ·obtain rfl:=oK h;exact gr 7 [] [nL ab.enc s1,nL ab.enc s2,bF h7]
 ·exact oK h
theorem QB{a b}{rv:Bool}(h:wB a b=some rv):dF prog 175 [.one (lL 2 a ab.enc),.one (lL 2 b ab.enc)] [] (one (.bool rv)) []:=by
 refine aU func175 fun Γ=>?_
 simp only[wB,az,an,aq]at h;obtain⟨r,h0,h⟩:=h;cases h;exact gr 4 [] [cC (jz h0)]
theorem IY{a b}{rv:Bool}(h:uC a b=some rv):dF prog 140 [.agg (al.enc a),.agg (al.enc b)] [] (one (.bool rv)) []:=by
 refine aU func140 fun Γ=>?_
 simp only[uC,az,an,aq]at h;rcases h with⟨h0,h⟩|⟨h0,r,h1,h⟩
 ·cases h;exact gr 8 [] [bT h0]
 ·obtain rfl:=oK h;exact gr 9 [] [bF h0,cC (QB h1)]
def pv(Γ:bn)(rv:Bool)(cf:Cf):Prop:=Go prog f176 [] Γ (one (.bool rv)) [] cf
def LZ(Γ:bn)(rv:Bool)(x0:ae)(l:List ab)(v:ab)(r1:List ab)(v1:Int):Prop:=pv Γ rv ⟨[.c 116,.l 116,.b 0,.c 15],⟨63,[vL 1 2 l ab.enc,vP 3 0 6,vP 5 1 2,vL 21 2 r1 ab.enc,vI 22 (aC r1),vI 23 v1],[oX 6 30 (ae.enc x0),oX 2 138 (ab.enc v)]⟩⟩
def Ks(Γ:bn)(rv:Bool)(x0:ae)(l:List ab)(v:ab)(r1:List ab):Prop:=pv Γ rv ⟨[.c 15],⟨63,[vL 1 2 l ab.enc,vP 3 0 6,vP 5 1 2],[oX 6 30 (ae.enc x0),oX 2 138 (ab.enc v)]⟩⟩
def L2(Γ:bn)(rv:Bool)(x0:ae)(l:List ab)(v:ab)(v2:Int)(r3:List ab)(v3:Int):Prop:=pv Γ rv ⟨[.c 125340,.l 125340,.b 4,.b 3,.c 1959,.l 244,.b 2,.c 31],⟨63,[vL 1 2 l ab.enc,vP 3 0 6,vP 5 1 2,vL 36 2 x0.before aI.enc,vI 37 (aC x0.before),vI 38 v2,vL 51 2 r3 ab.enc,vI 52 (aC r3),vI 53 v3],[oX 6 30 (ae.enc x0),oX 2 138 (ab.enc v)]⟩⟩
def Kw(Γ:bn)(rv:Bool)(x0:ae)(l:List ab)(v:ab)(v2:Int)(r3:List ab):Prop:=pv Γ rv ⟨[.b 3,.c 1959,.l 244,.b 2,.c 31],⟨63,[vL 1 2 l ab.enc,vP 3 0 6,vP 5 1 2,vL 36 2 x0.before aI.enc,vI 37 (aC x0.before),vI 38 v2],[oX 6 30 (ae.enc x0),oX 2 138 (ab.enc v)]⟩⟩
def L1(Γ:bn)(rv:Bool)(x0:ae)(l:List ab)(v:ab)(v2:Int):Prop:=pv Γ rv ⟨[.c 244,.l 244,.b 2,.c 31],⟨63,[vL 1 2 l ab.enc,vP 3 0 6,vP 5 1 2,vL 36 2 x0.before aI.enc,vI 37 (aC x0.before),vI 38 v2],[oX 6 30 (ae.enc x0),oX 2 138 (ab.enc v)]⟩⟩
def Ku(Γ:bn)(rv:Bool)(x0:ae)(l:List ab)(v:ab):Prop:=pv Γ rv ⟨[.c 31],⟨63,[],[]⟩⟩
theorem Kt(Γ:bn)(rv:Bool){x0 l v r1}:∀⦃s:Int⦄ ⦃e:(Unit)⊕(Bool)⦄,aK (fun s=>iZ x0 l v r1 s) s=some e→jf e (fun e=>Ks Γ rv x0 l v r1) (fun e=>e=rv)→LZ Γ rv x0 l v r1 s:=by
 refine bk ?_
 intro v1 z_ h hI hE;simp only[iZ,az,an,aq]at h;rcases h with⟨h3,x1,h4,⟨h5,h⟩|⟨h5,r2,h6,⟨h7,h⟩|⟨h7,h⟩⟩⟩|⟨h3,h⟩
 ·exact gn 14 [1,3,5] [0,1] [bT h3,cE ab.enc h4,bT h5] (hE h)
 ·obtain rfl:=(hE h:_=rv);exact gr 19 [] [bT h3,cE ab.enc h4,bF h5,cC (gO h6),bT h7]
 ·exact gn 21 [1,3,5,21,22,23] [0,1] [bT h3,cE ab.enc h4,bF h5,cC (gO h6),bF h7] (hI h)
 ·exact gn 5 [1,3,5] [0,1] [bF h3] (hE h)
theorem Kx(Γ:bn)(rv:Bool){x0 l v v2 r3}:∀⦃s:Int⦄ ⦃e:(Unit)⊕(Bool)⦄,aK (fun s=>ku x0 l v v2 r3 s) s=some e→jf e (fun e=>Kw Γ rv x0 l v v2 r3) (fun e=>e=rv)→L2 Γ rv x0 l v v2 r3 s:=by
 refine bk ?_
 intro v3 z_ h hI hE;simp only[ku,az,an,aq]at h;rcases h with⟨ij,x3,kH,r4,nk,⟨pc,h⟩|⟨pc,h⟩⟩|⟨ij,h⟩
 ·obtain rfl:=(hE h:_=rv);exact gr 14 [] [bT ij,cE ab.enc kH,cC (gO nk),bT pc]
 ·exact gn 16 [1,3,5,36,37,38,51,52,53] [0,1] [bT ij,cE ab.enc kH,cC (gO nk),bF pc] (hI h)
 ·exact gn 5 [1,3,5,36,37,38] [0,1] [bF ij] (hE h)
theorem Kv(Γ:bn)(rv:Bool){x0 l v}:∀⦃s:Int⦄ ⦃e:(Unit)⊕(Bool)⦄,aK (fun s=>kr x0 l v s) s=some e→jf e (fun e=>Ku Γ rv x0 l v) (fun e=>e=rv)→L1 Γ rv x0 l v s:=by
 refine bk ?_
 intro v2 z_ h hI hE;simp only[kr,az,an,aq]at h;rcases h with⟨h9,x2,dN,⟨gq,h⟩|⟨gq,r3,gu,e1,sG,h⟩⟩|⟨h9,h⟩
 ·exact gn 16 [1,3,5,36,37,38] [0,1] [bT h9,cE aI.enc dN,oO (zL 1),oO (lT 1 2),bT gq] (hI h)
 ·refine gn 18 [1,3,5,36,37,38,51,52,53] [0,1] [bT h9,cE aI.enc dN,oO (zL 1),oO (lT 1 2),bF gq,oO (zL 0),oO (lT 0 2),cC (qv gu),nL ab.enc r3] (Kx Γ rv sG ?_);rcases e1 with e1|r5
  ·exact gn 3 [1,3,5,36,37,38] [0,1] [] (hI h)
  ·exact(hE h:_=rv)
 ·exact gn 5 [] [] [bF h9] (hE h)
theorem DR{x0 l v}{rv:Bool}(h:uV x0 l v=some rv):dF prog 176 [.agg (ae.enc x0),.one (lL 2 l ab.enc),.agg (ab.enc v)] [] (one (.bool rv)) []:=by
 refine aU func176 fun Γ=>?_
 simp only[uV,az,an,aq]at h;rcases h with⟨r,h0,⟨h1,h⟩|⟨h1,r1,h2,e0,h8,h⟩⟩
 ·obtain rfl:=oK h;exact gr 8 [] [cC (gO h0),bT h1]
 ·refine gn 12 [1,3,5,21,22,23] [0,1] [cC (gO h0),bF h1,cC (qv h2),nL ab.enc r1] (Kt Γ rv h8 ?_);rcases e0 with e0|r7
  ·simp only[en,az,an,aq]at h;obtain⟨e2,ti,h⟩:=h;refine gn 5 [1,3,5,36,37,38] [0,1] [nL aI.enc x0.before] (Kv Γ rv ti ?_);rcases e2 with e2|r6
   ·obtain rfl:=oK h;exact gr 2 [] []
   ·exact oK h
  ·exact oK h
def wK(Γ:bn)(rv:List ab)(cf:Cf):Prop:=Go prog f141 [] Γ (one (lL 2 rv ab.enc)) [] cf
def Nl(Γ:bn)(rv:List ab)(x0:ae)(ba:Int)(l:List ab)(v:Int)(r l2:List ab)(v1:Int):Prop:=wK Γ rv ⟨[.c 59804,.l 59804,.b 2,.b 1,.c 935,.l 116,.b 0,.c 15],⟨53,[vI 1 ba,vL 2 2 l ab.enc,vP 3 0 6,vO 7 1 2 l2 ab.enc,vL 13 16 x0.ah af.enc,vI 14 (aC x0.ah),vI 15 v,vL 36 2 r ab.enc,vI 37 (aC r),vI 38 v1],[oX 6 30 (ae.enc x0),oS 2 138 l2 ab.enc]⟩⟩
def LX(Γ:bn)(rv:List ab)(x0:ae)(ba:Int)(l:List ab)(v:Int)(r l3:List ab):Prop:=wK Γ rv ⟨[.b 1,.c 935,.l 116,.b 0,.c 15],⟨53,[vI 1 ba,vL 2 2 l ab.enc,vP 3 0 6,vO 7 1 2 l3 ab.enc,vL 13 16 x0.ah af.enc,vI 14 (aC x0.ah),vI 15 v],[oX 6 30 (ae.enc x0),oS 2 138 l3 ab.enc]⟩⟩
def Nk(Γ:bn)(rv:List ab)(x0:ae)(ba:Int)(l l1:List ab)(v:Int):Prop:=wK Γ rv ⟨[.c 116,.l 116,.b 0,.c 15],⟨53,[vI 1 ba,vL 2 2 l ab.enc,vP 3 0 6,vO 7 1 2 l1 ab.enc,vL 13 16 x0.ah af.enc,vI 14 (aC x0.ah),vI 15 v],[oX 6 30 (ae.enc x0),oS 2 138 l1 ab.enc]⟩⟩
def LV(Γ:bn)(rv:List ab)(x0:ae)(ba:Int)(l l4:List ab):Prop:=wK Γ rv ⟨[.c 15],⟨53,[vO 7 0 2 l4 ab.enc],[oS 2 138 l4 ab.enc]⟩⟩
theorem LY(Γ:bn)(rv:List ab){x0 ba l v r}:∀⦃s:List ab×Int⦄ ⦃e:List ab⦄,aK (fun s=>lz x0 ba l v r s.1 s.2) s=some e→LX Γ rv x0 ba l v r e→Nl Γ rv x0 ba l v r s.1 s.2:=by
 refine bk ?_
 rintro⟨l2,v1⟩ z_ h hI hE;simp only[lz,az,an,aq]at h;rcases h with⟨h6,x2,h7,r1,h8,⟨h9,dN,h⟩|⟨h9,h⟩⟩|⟨h6,h⟩
 ·exact gn 16 [1,2,3,7,13,14,15,36,37,38] [0,4] [bT h6,cE ab.enc h7,cC (DR h8),bT h9,oO (Eq.refl ([x2].map ab.enc).length),aO ab.enc dN] (hI h)
 ·exact gn 16 [1,2,3,7,13,14,15,36,37,38] [0,1] [bT h6,cE ab.enc h7,cC (DR h8),bF h9] (hI h)
 ·exact gn 5 [1,2,3,7,13,14,15] [0,1] [bF h6] (hE h)
theorem LW(Γ:bn)(rv:List ab){x0 ba l}:∀⦃s:List ab×Int⦄ ⦃e:List ab⦄,aK (fun s=>jT x0 ba l s.1 s.2) s=some e→LV Γ rv x0 ba l e→Nk Γ rv x0 ba l s.1 s.2:=by
 refine bk ?_
 rintro⟨l1,v⟩ z_ h hI hE;simp only[jT,az,an,aq]at h;rcases h with⟨h0,x1,h1,⟨h2,h⟩|⟨h2,h3,⟨h4,h⟩|⟨h4,r,h5,l3,gq,h⟩⟩⟩|⟨h0,h⟩
 ·exact gn 16 [1,2,3,7,13,14,15] [0,1] [bT h0,cE af.enc h1,rp 6 (bT h2),rp 4 tT] (hI h)
 ·exact gn 16 [1,2,3,7,13,14,15] [0,1] [bT h0,cE af.enc h1,rp 3 (bF h2),oO (h3),rp 3 (bF h2),hP,hP,hP,oI ((bP (Sf .i64 (wZ .i64 ba v) 1) 0)=false),oR True ((bP (Sf .i64 (wZ .i64 ba v) 1) 0)=false),bT h4] (hI h)
 ·refine gn 18 [1,2,3,7,13,14,15,36,37,38] [0,1] [bT h0,cE af.enc h1,rp 3 (bF h2),oO (h3),rp 3 (bF h2),hP,hP,hP,oI ((bP (Sf .i64 (wZ .i64 ba v) 1) 0)=false),oR True ((bP (Sf .i64 (wZ .i64 ba v) 1) 0)=false),bF h4,cC (qv h5),nL ab.enc r] (LY Γ rv gq ?_);exact gn 3 [1,2,3,7,13,14,15] [0,1] [] (hI h)
 ·exact gn 5 [7] [1] [bF h0] (hE h)
theorem QC{x0 ba l}{rv:List ab}(h:wC x0 ba l=some rv):dF prog 141 [.agg (ae.enc x0),.one (lI ba),.one (lL 2 l ab.enc)] [] (one (lL 2 rv ab.enc)) []:=by
 refine aU func141 fun Γ=>?_
 simp only[wC,az,an,aq]at h;obtain⟨l4,gu,h⟩:=h;refine gn 9 [1,2,3,7,13,14,15] [0,1] [nL af.enc x0.ah,hW 3,hH (.lP 7 2 138)] (LW Γ rv gu ?_);obtain rfl:=oK h;exact gr 2 [] [hW 4,hH (.kX 0),rp 3 (eL l4 ab.enc)]
def m5(Γ:bn)(rv:Int)(cf:Cf):Prop:=Go prog f206 [] Γ (one (lI rv)) [] cf
def td(Γ:bn)(rv:Int)(s0:List aF)(v:aF)(v1:Int):Prop:=m5 Γ rv ⟨[.c 52,.l 52,.b 0,.c 7],⟨19,[vL 0 2 s0 aF.enc,vP 3 0 2,vI 7 (aC s0),vI 8 v1],[oX 2 183 (aF.enc v)]⟩⟩
def sK(Γ:bn)(rv:Int)(s0:List aF)(v:aF):Prop:=m5 Γ rv ⟨[.c 7],⟨19,[],[]⟩⟩
theorem sL(Γ:bn)(rv:Int){s0 v}:∀⦃s:Int⦄ ⦃e:(Unit)⊕(Int)⦄,aK (fun s=>cZ s0 v s) s=some e→jf e (fun e=>sK Γ rv s0 v) (fun e=>e=rv)→td Γ rv s0 v s:=by
 refine bk ?_
 intro v1 z_ h hI hE;simp only[cZ,az,an,aq]at h;rcases h with⟨h0,x0,h1,⟨h2,h⟩|⟨h2,h⟩⟩|⟨h0,h⟩
 ·obtain rfl:=(hE h:_=rv);exact gr 14 [] [bT h0,hH (.draw 6 []),cE aF.enc h1,bT h2]
 ·exact gn 16 [0,3,7,8] [0] [bT h0,hH (.draw 6 []),cE aF.enc h1,bF h2] (hI h)
 ·exact gn 5 [] [] [bF h0] (hE h)
theorem ub{s0 v}{rv:Int}(h:fu s0 v=some rv):dF prog 206 [.one (lL 2 s0 aF.enc),.agg (aF.enc v)] [] (one (lI rv)) []:=by
 refine aU func206 fun Γ=>?_
 simp only[fu,az,an,aq]at h;obtain⟨e0,h3,h⟩:=h;refine gn 7 [0,3,7,8] [0] [nL aF.enc s0] (sL Γ rv h3 ?_);rcases e0 with e0|r
 ·cases h;exact gr 2 [] []
 ·exact oK h
theorem lJ{s0 v}{rv:Bool}(h:fR s0 v=some rv):dF prog 178 [.one (lL 2 s0 aF.enc),.agg (aF.enc v)] [] (one (.bool rv)) []:=by
 refine aU func178 fun Γ=>?_
 simp only[fR,az,an,aq]at h;obtain⟨r,h0,h⟩:=h;cases h;exact gr 4 [] [cC (ub h0)]
theorem u6{l s0}{rv:List aF}(h:o6 l s0=some rv):dF prog 145 [.one (lO 0 2 l aF.enc),.agg (aF.enc s0)] [bS 2 183 l aF.enc] (one (lO 0 2 rv aF.enc)) [oS 2 183 rv aF.enc]:=by
 refine aU func145 fun Γ=>?_
 simp only[o6,az,an,aq]at h;rcases h with⟨r,h0,⟨h1,h⟩|⟨h1,h2,h⟩⟩
 ·obtain rfl:=oK h;exact gr 8 [0] [eL l aF.enc,cC (lJ h0),bT h1]
 ·cases h;exact gr 9 [3] [eL l aF.enc,cC (lJ h0),bF h1,oO (Eq.refl ([s0].map aF.enc).length),aO aF.enc h2]
theorem FI{s0 jK}{rv:Int×Int}(h:wF s0 jK=some rv):dF prog 177 [.agg (aM.enc s0),.one (lI jK)] [] (.o5 [.one (lI rv.1),.one (lI rv.2)]) []:=by
 refine aU func177 fun Γ=>?_
 simp only[wF,az,an,aq]at h;rcases h with⟨r,h0,⟨h1,h⟩|⟨h1,h⟩⟩
 ·cases h;exact gr 10 [] [cC (wL h0),bT h1]
 ·cases h;exact gr 11 [] [cC (wL h0),bF h1]
theorem vz{s0}{rv:List ab}(h:fP s0=some rv):dF prog 144 [.one (lL 2 s0 ab.enc)] [] (one (.sl true 2 (rv.map ab.enc))) []:=by
 refine aU func144 fun Γ=>?_
 simp only[fP,az,an,aq]at h;obtain⟨l,h0,h⟩:=h;obtain rfl:=oK h;exact gr 4 [] [rp 2 (nL ab.enc s0),hH (.rows (l.map ab.enc)),oO (Eq.refl (aC s0)),oO (Px h0),oO (Py h0),oO (Ap ab.enc h0),oO (Int.le_refl (aC s0)),oO (Ap ab.enc h0),oO (Pz ab.enc h0)]
theorem xz{dW some_ VI}{rv:al}(h:kf dW some_ VI=some rv):dF prog 139 [.agg (al.enc dW),.one (.bool some_),.agg (al.enc VI),.one (.fn (.func 140) [])] [] (gG [lI rv.aR,lI rv.ba,lI rv.eR,lI rv.bH.aR,lI rv.bH.aH,lL 1 rv.bH.aP bR,lL 2 rv.bH.ar ab.enc]) []:=by
 refine aU func139 fun Γ=>?_
 simp only[kf,az,an,aq]at h;rcases h with⟨h0,r,h1,⟨h2,h⟩|⟨h2,h⟩⟩|⟨h0,h⟩
 ·obtain rfl:=oK h;exact gr 8 [] [rp 4 (nF h0),cC (IY h1),nF h0,bT h2]
 ·obtain rfl:=oK h;exact gr 9 [] [rp 4 (nF h0),cC (IY h1),nF h0,bF h2]
 ·obtain rfl:=oK h;exact gr 8 [] [rp 5 (nT h0),tT]
theorem DW{s0 l cF gy}{rv:List aF×aW}(h:mB s0 l cF gy=some rv):dF prog 111 [.one (.op 0 17 0 0),.one (lO 1 2 l aF.enc),.one (lI cF),.one (lI gy)] [bX 17 142 (aW.enc s0),bS 2 183 l aF.enc] (one (lO 1 2 rv.1 aF.enc)) [oX 17 142 [lL 1 rv.2.x.bG.aD dC,lL 6 rv.2.x.bG.bj aw.enc,lL 14 rv.2.x.types ag.enc,lL 16 rv.2.x.ah af.enc,lL 2 rv.2.x.db aI.enc,lL 2 rv.2.x.before aI.enc,lI rv.2.kind,lI rv.2.ba,lI rv.2.qb,lI rv.2.dW.aR,lI rv.2.dW.ba,lI rv.2.dW.eR,lI rv.2.dW.bH.aR,lI rv.2.dW.bH.aH,lL 1 rv.2.dW.bH.aP bR,lL 2 rv.2.dW.bH.ar ab.enc,.bool rv.2.fZ],oS 2 183 rv.1 aF.enc]:=by
 refine aU func111 fun Γ=>?_
 simp only[mB,az,an,aq]at h;obtain⟨r,h0,x0,h1,r1,h2,h⟩:=h;cases h;exact gr 6 [0,3] [cI [1] (u6 h0),hH (.draw 18 [(2,16)]),cE ag.enc h1,cI [2] (u6 h2)]
def AF(Γ:bn)(rv:List aF×aW)(cf:Cf):Prop:=Go prog f143 [0] Γ (one (lL 2 rv.1 aF.enc)) [oX 17 142 [lL 1 rv.2.x.bG.aD dC,lL 6 rv.2.x.bG.bj aw.enc,lL 14 rv.2.x.types ag.enc,lL 16 rv.2.x.ah af.enc,lL 2 rv.2.x.db aI.enc,lL 2 rv.2.x.before aI.enc,lI rv.2.kind,lI rv.2.ba,lI rv.2.qb,lI rv.2.dW.aR,lI rv.2.dW.ba,lI rv.2.dW.eR,lI rv.2.dW.bH.aR,lI rv.2.dW.bH.aH,lL 1 rv.2.dW.bH.aP bR,lL 2 rv.2.dW.bH.ar ab.enc,.bool rv.2.fZ]] cf
def FM(Γ:bn)(rv:List aF×aW)(aE:Int)(l:List aF)(stop:aM)(x0:ag)(l1:List aF)(x1:aW)(v:Int):Prop:=AF Γ rv ⟨[.c 244,.l 244,.b 0,.c 31],⟨86,[vP 0 0 17,vI 1 aE,vP 7 1 4,vP 9 2 14,vO 10 3 2 l1 aF.enc,vL 28 2 l aF.enc,vI 29 (aC l),vI 30 v],[oX 17 142 (aW.enc x1),oX 4 54 (aM.enc stop),oX 14 70 (ag.enc x0),oS 2 183 l1 aF.enc]⟩⟩
def EC(Γ:bn)(rv:List aF×aW)(aE:Int)(l:List aF)(stop:aM)(x0:ag)(l2:List aF)(x3:aW):Prop:=AF Γ rv ⟨[.c 31],⟨86,[vO 10 1 2 l2 aF.enc],[oX 17 142 (aW.enc x3),oS 2 183 l2 aF.enc]⟩⟩
theorem ED(Γ:bn)(rv:List aF×aW){aE l stop x0}:∀⦃s:List aF×aW×Int⦄ ⦃e:List aF×aW⦄,aK (fun s=>nm aE l stop x0 s.1 s.2.1 s.2.2) s=some e→EC Γ rv aE l stop x0 e.1 e.2→FM Γ rv aE l stop x0 s.1 s.2.1 s.2.2:=by
 refine bk ?_
 rintro⟨l1,x1,v⟩ z_ h hI hE;simp only[nm,az,an,aq]at h;rcases h with⟨h1,x2,h2,r,h3,⟨h4,h⟩|⟨h4,r1,h5,⟨h6,h⟩|⟨h6,r2,h7,h⟩⟩⟩|⟨h1,h⟩
 ·exact gn 18 [0,1,7,9,10,28,29,30] [0,1,2,3] [bT h1,cE aF.enc h2,hH (.draw 20 []),cC (lN h3),rp 11 hP,rp 9 (oI ((cA r.2.2 0)=false)),oR True ((cA r.2.2 0)=false),bT h4] (hI h)
 ·exact gn 25 [0,1,7,9,10,28,29,30] [0,1,2,3] [bT h1,cE aF.enc h2,hH (.draw 20 []),cC (lN h3),rp 11 hP,rp 9 (oI ((cA r.2.2 0)=false)),oR True ((cA r.2.2 0)=false),bF h4,cC (FI h5),bT h6] (hI h)
 ·exact gn 27 [0,1,7,9,10,28,29,30] [0,1,2,5] [bT h1,cE aF.enc h2,hH (.draw 20 []),cC (lN h3),rp 11 hP,rp 9 (oI ((cA r.2.2 0)=false)),oR True ((cA r.2.2 0)=false),bF h4,cC (FI h5),bF h6,cI [0,3] (DW h7)] (hI h)
 ·exact gn 5 [10] [0,3] [bF h1] (hE h)
theorem zO{s0 aE l stop}{rv:List aF×aW}(h:qB s0 aE l stop=some rv):dF prog 143 [.one (.op 0 17 0 0),.one (lI aE),.one (lL 2 l aF.enc),.agg (aM.enc stop)] [bX 17 142 (aW.enc s0)] (one (lL 2 rv.1 aF.enc)) [oX 17 142 [lL 1 rv.2.x.bG.aD dC,lL 6 rv.2.x.bG.bj aw.enc,lL 14 rv.2.x.types ag.enc,lL 16 rv.2.x.ah af.enc,lL 2 rv.2.x.db aI.enc,lL 2 rv.2.x.before aI.enc,lI rv.2.kind,lI rv.2.ba,lI rv.2.qb,lI rv.2.dW.aR,lI rv.2.dW.ba,lI rv.2.dW.eR,lI rv.2.dW.bH.aR,lI rv.2.dW.bH.aH,lL 1 rv.2.dW.bH.aP bR,lL 2 rv.2.dW.bH.ar ab.enc,.bool rv.2.fZ]]:=by
 refine aU func143 fun Γ=>?_
 simp only[qB,az,an,aq]at h;obtain⟨x0,h0,⟨l2,x3⟩,h8,h⟩:=h;refine gn 11 [0,1,7,9,10,28,29,30] [0,1,2,3] [hH (.draw 12 []),cE ag.enc h0,nL aF.enc l,hW 3,hH (.lP 10 2 183)] (ED Γ rv h8 ?_);cases h;exact gr 2 [0] [hW 4,hH (.kX 1),rp 3 (eL l2 aF.enc)]
def BM(Γ:bn)(rv:aW)(cf:Cf):Prop:=Go prog f110 [0] Γ (.o5 []) [oX 17 142 [lL 1 rv.x.bG.aD dC,lL 6 rv.x.bG.bj aw.enc,lL 14 rv.x.types ag.enc,lL 16 rv.x.ah af.enc,lL 2 rv.x.db aI.enc,lL 2 rv.x.before aI.enc,lI rv.kind,lI rv.ba,lI rv.qb,lI rv.dW.aR,lI rv.dW.ba,lI rv.dW.eR,lI rv.dW.bH.aR,lI rv.dW.bH.aH,lL 1 rv.dW.bH.aP bR,lL 2 rv.dW.bH.ar ab.enc,.bool rv.fZ]] cf
def Hz(Γ:bn)(rv:aW)(self:aW→(List ab)→Int→(List aF)→Option aW)(ar:List ab)(aE:Int)(l:List aF)(r2:List ab)(x0:aW)(v:Int):Prop:=BM Γ rv ⟨[.c 28,.l 28,.b 0],⟨114,[vP 0 0 17,vL 1 2 ar ab.enc,vI 2 aE,vL 3 2 l aF.enc,vL 77 2 r2 ab.enc,vI 78 (aC r2),vI 79 v],[oX 17 142 (aW.enc x0)]⟩⟩
def FN(Γ:bn)(rv:aW)(self:aW→(List ab)→Int→(List aF)→Option aW)(ar:List ab)(aE:Int)(l:List aF)(r2:List ab)(x2:aW):Prop:=BM Γ rv ⟨[],⟨114,[],[oX 17 142 (aW.enc x2)]⟩⟩
theorem FO(Γ:bn)(rv:aW){self:aW→(List ab)→Int→(List aF)→Option aW}(AL:∀{s0:aW} {ar:List ab} {aE:Int} {l:List aF} {rv:aW},self s0 ar aE l=some rv→dF prog 110 [.one (.op 0 17 0 0),.one (lL 2 ar ab.enc),.one (lI aE),.one (lL 2 l aF.enc)] [bX 17 142 (aW.enc s0)] (.o5 []) [oX 17 142 [lL 1 rv.x.bG.aD dC,lL 6 rv.x.bG.bj aw.enc,lL 14 rv.x.types ag.enc,lL 16 rv.x.ah af.enc,lL 2 rv.x.db aI.enc,lL 2 rv.x.before aI.enc,lI rv.kind,lI rv.ba,lI rv.qb,lI rv.dW.aR,lI rv.dW.ba,lI rv.dW.eR,lI rv.dW.bH.aR,lI rv.dW.bH.aH,lL 1 rv.dW.bH.aP bR,lL 2 rv.dW.bH.ar ab.enc,.bool rv.fZ]]){ar aE l r2}:∀⦃s:aW×Int⦄ ⦃e:aW⦄,aK (fun s=>n6 self ar aE l r2 s.1 s.2) s=some e→FN Γ rv self ar aE l r2 e→Hz Γ rv self ar aE l r2 s.1 s.2:=by
 refine bk ?_
 rintro⟨x0,v⟩ z_ h hI hE;simp only[n6,az,an,aq]at h;rcases h with⟨h5,x1,h6,r3,h7,⟨h8,h⟩|⟨h8,r4,h9,⟨dN,r5,gq,gu,r6,ij,h⟩|⟨dN,h⟩⟩⟩|⟨h5,h⟩
 ·exact gn 18 [0,1,2,3,77,78,79] [0] [bT h5,cE ab.enc h6,hH (.draw 13 [(2,11)]),cC (wu h7),bT h8] (hI h)
 ·exact gn 25 [0,1,2,3,77,78,79] [0] [bT h5,cE ab.enc h6,hH (.draw 13 [(2,11)]),cC (wu h7),bF h8,cI [0] (zO h9),nL aF.enc r4.1,bT dN,hH (.draw 9 []),cC (vz gq),oO (Eq.refl ([x1].map ab.enc).length),hH (.rows ((r5++[x1]).map ab.enc)),hH (.kX 4),oO (QmX ab.enc r5 [x1]),oO (neA ab.enc r5 [x1] (by simp)),oO (Qjc (l:=((r5++[x1]):List ab)) ab.enc gu),oO (QcK (l:=((r5++[x1]):List ab)) (b:=16) ab.enc (by decide) gu),oO (Eq.refl ((r5++[x1]).map ab.enc).length),cI [0] (AL ij)] (hI h)
 ·exact gn 25 [0,1,2,3,77,78,79] [0] [bT h5,cE ab.enc h6,hH (.draw 13 [(2,11)]),cC (wu h7),bF h8,cI [0] (zO h9),nL aF.enc r4.1,bF dN] (hI h)
 ·exact gn 5 [] [0] [bF h5] (hE h)
theorem Hy{self:aW→(List ab)→Int→(List aF)→Option aW}(AL:∀{s0:aW} {ar:List ab} {aE:Int} {l:List aF} {rv:aW},self s0 ar aE l=some rv→dF prog 110 [.one (.op 0 17 0 0),.one (lL 2 ar ab.enc),.one (lI aE),.one (lL 2 l aF.enc)] [bX 17 142 (aW.enc s0)] (.o5 []) [oX 17 142 [lL 1 rv.x.bG.aD dC,lL 6 rv.x.bG.bj aw.enc,lL 14 rv.x.types ag.enc,lL 16 rv.x.ah af.enc,lL 2 rv.x.db aI.enc,lL 2 rv.x.before aI.enc,lI rv.kind,lI rv.ba,lI rv.qb,lI rv.dW.aR,lI rv.dW.ba,lI rv.dW.eR,lI rv.dW.bH.aR,lI rv.dW.bH.aH,lL 1 rv.dW.bH.aP bR,lL 2 rv.dW.bH.ar ab.enc,.bool rv.fZ]]){s0 ar aE l}{rv:aW}(h:pF self s0 ar aE l=some rv):dF prog 110 [.one (.op 0 17 0 0),.one (lL 2 ar ab.enc),.one (lI aE),.one (lL 2 l aF.enc)] [bX 17 142 (aW.enc s0)] (.o5 []) [oX 17 142 [lL 1 rv.x.bG.aD dC,lL 6 rv.x.bG.bj aw.enc,lL 14 rv.x.types ag.enc,lL 16 rv.x.ah af.enc,lL 2 rv.x.db aI.enc,lL 2 rv.x.before aI.enc,lI rv.kind,lI rv.ba,lI rv.qb,lI rv.dW.aR,lI rv.dW.ba,lI rv.dW.eR,lI rv.dW.bH.aR,lI rv.dW.bH.aH,lL 1 rv.dW.bH.aP bR,lL 2 rv.dW.bH.ar ab.enc,.bool rv.fZ]]:=by
 refine aU func110 fun Γ=>?_
 simp only[pF,az,an,aq]at h;rcases h with⟨h0,r,h1,⟨h2,r1,h3,h⟩|⟨h2,h⟩⟩|⟨h0,r2,h4,x2,kH,h⟩
 ·cases h;exact gr 17 [0] [nL ab.enc ar,bT h0,hW 11,hH (.fW 1 2 1),hH (.draw 11 []),cC (Kc h1),bT h2,hH (.draw 12 []),hH (.draw 13 []),cC (xz h3)]
 ·obtain rfl:=oK h;exact gr 13 [0] [nL ab.enc ar,bT h0,hW 11,hH (.fW 1 2 1),hH (.draw 11 []),cC (Kc h1),bF h2]
 ·refine gn 9 [0,1,2,3,77,78,79] [0] [nL ab.enc ar,bF h0,hH (.draw 12 []),cC (QC h4),nL ab.enc r2] (FO Γ rv AL kH ?_);obtain rfl:=oK h;exact gr 0 [0] []
theorem zP:∀zZ,∀{s0:aW} {ar:List ab} {aE:Int} {l:List aF} {rv:aW},kR zZ s0 ar aE l=some rv→dF prog 110 [.one (.op 0 17 0 0),.one (lL 2 ar ab.enc),.one (lI aE),.one (lL 2 l aF.enc)] [bX 17 142 (aW.enc s0)] (.o5 []) [oX 17 142 [lL 1 rv.x.bG.aD dC,lL 6 rv.x.bG.bj aw.enc,lL 14 rv.x.types ag.enc,lL 16 rv.x.ah af.enc,lL 2 rv.x.db aI.enc,lL 2 rv.x.before aI.enc,lI rv.kind,lI rv.ba,lI rv.qb,lI rv.dW.aR,lI rv.dW.ba,lI rv.dW.eR,lI rv.dW.bH.aR,lI rv.dW.bH.aH,lL 1 rv.dW.bH.aP bR,lL 2 rv.dW.bH.ar ab.enc,.bool rv.fZ]]
 |0=>fun h=>nomatch h
 |zZ+1=>fun h=>Hy (zP zZ) h
theorem AG:∀{s0:aW} {ar:List ab} {aE:Int} {l:List aF} {rv:aW},EE s0 ar aE l=some rv→dF prog 110 [.one (.op 0 17 0 0),.one (lL 2 ar ab.enc),.one (lI aE),.one (lL 2 l aF.enc)] [bX 17 142 (aW.enc s0)] (.o5 []) [oX 17 142 [lL 1 rv.x.bG.aD dC,lL 6 rv.x.bG.bj aw.enc,lL 14 rv.x.types ag.enc,lL 16 rv.x.ah af.enc,lL 2 rv.x.db aI.enc,lL 2 rv.x.before aI.enc,lI rv.kind,lI rv.ba,lI rv.qb,lI rv.dW.aR,lI rv.dW.ba,lI rv.dW.eR,lI rv.dW.bH.aR,lI rv.dW.bH.aH,lL 1 rv.dW.bH.aP bR,lL 2 rv.dW.bH.ar ab.enc,.bool rv.fZ]]:=zP _
theorem vE{s0 cF gy}{rv:List aF×aW}(h:oN s0 cF gy=some rv):dF prog 111 [.one (.op 0 17 0 0),.one (.dO),.one (lI cF),.one (lI gy)] [bX 17 142 (aW.enc s0)] (one (lL 2 rv.1 aF.enc)) [oX 17 142 [lL 1 rv.2.x.bG.aD dC,lL 6 rv.2.x.bG.bj aw.enc,lL 14 rv.2.x.types ag.enc,lL 16 rv.2.x.ah af.enc,lL 2 rv.2.x.db aI.enc,lL 2 rv.2.x.before aI.enc,lI rv.2.kind,lI rv.2.ba,lI rv.2.qb,lI rv.2.dW.aR,lI rv.2.dW.ba,lI rv.2.dW.eR,lI rv.2.dW.bH.aR,lI rv.2.dW.bH.aH,lL 1 rv.2.dW.bH.aP bR,lL 2 rv.2.dW.bH.ar ab.enc,.bool rv.2.fZ]]:=by
 refine aU func111 fun Γ=>?_
 simp only[oN,az,an,aq]at h;obtain⟨r,h0,x0,h1,r1,h2,h⟩:=h;cases h;exact gr 6 [0] [hW 9,hH (.lP 9 2 183),cI [1] (u6 h0),hH (.draw 17 [(2,16)]),cE ag.enc h1,cI [2] (u6 h2),hW 1,hH (.kX 3),rp 2 (eL r1 aF.enc)]
def QP(Γ:bn)(rv:al×Int)(cf:Cf):Prop:=Go prog f73 [] Γ (.o5 [.agg [lI rv.1.aR,lI rv.1.ba,lI rv.1.eR,lI rv.1.bH.aR,lI rv.1.bH.aH,lL 1 rv.1.bH.aP bR,lL 2 rv.1.bH.ar ab.enc],.one (lI rv.2)]) [] cf
def Sp(Γ:bn)(rv:al×Int)(x0:ae)(kind ba:Int)(r1:List Int)(qb v:Int):Prop:=QP Γ rv ⟨[.c 500,.l 500,.b 0,.c 63],⟨87,[vI 1 kind,vP 3 0 6,vP 6 1 7,vP 8 2 17,vL 45 1 r1 ax,vI 46 (aC r1),vI 47 v],[oX 6 30 (ae.enc x0),oX 7 50 [lI 0,lI 0,lI 0,lI 0,lI 0,.dO,.dO],oX 17 142 [lL 1 x0.bG.aD dC,lL 6 x0.bG.bj aw.enc,lL 14 x0.types ag.enc,lL 16 x0.ah af.enc,lL 2 x0.db aI.enc,lL 2 x0.before aI.enc,lI kind,lI ba,lI qb,lI 0,lI 0,lI 0,lI 0,lI 0,.dO,.dO,.bool false]]⟩⟩
def Rm(Γ:bn)(rv:al×Int)(x0:ae)(kind ba:Int)(r1:List Int)(XE:Int):Prop:=QP Γ rv ⟨[.c 63],⟨87,[vI 1 kind,vP 3 0 6,vP 6 1 7,vP 8 2 17],[oX 6 30 (ae.enc x0),oX 7 50 [lI 0,lI 0,lI 0,lI 0,lI 0,.dO,.dO],oX 17 142 [lL 1 x0.bG.aD dC,lL 6 x0.bG.bj aw.enc,lL 14 x0.types ag.enc,lL 16 x0.ah af.enc,lL 2 x0.db aI.enc,lL 2 x0.before aI.enc,lI kind,lI ba,lI XE,lI 0,lI 0,lI 0,lI 0,lI 0,.dO,.dO,.bool false]]⟩⟩
theorem Ro(Γ:bn)(rv:al×Int){x0 kind ba r1}:∀⦃s:Int×Int⦄ ⦃e:Int⦄,aK (fun s=>oL x0 kind ba r1 s.1 s.2) s=some e→Rm Γ rv x0 kind ba r1 e→Sp Γ rv x0 kind ba r1 s.1 s.2:=by
 refine bk ?_
 rintro⟨qb,v⟩ z_ h hI hE;simp only[oL,az,an,aq]at h;rcases h with⟨h6,x1,h7,r2,h8,h⟩|⟨h6,h⟩
 ·exact gn 13 [1,3,6,8,45,46,47] [0,1,2] [bT h6,cE ax h7,hH (.draw 12 []),cC (qv h8),nL ab.enc r2] (hI h)
 ·exact gn 5 [1,3,6,8] [0,1,2] [bF h6] (hE h)
theorem NI{x0 kind ba}{rv:al×Int}(h:EB x0 kind ba=some rv):dF prog 73 [.agg (ae.enc x0),.one (lI kind),.one (lI ba)] [] (.o5 [.agg [lI rv.1.aR,lI rv.1.ba,lI rv.1.eR,lI rv.1.bH.aR,lI rv.1.bH.aH,lL 1 rv.1.bH.aP bR,lL 2 rv.1.bH.ar ab.enc],.one (lI rv.2)]) []:=by
 refine aU func73 fun Γ=>?_
 simp only[EB,az,an,aq]at h;rcases h with⟨h0,h⟩|⟨h0,h1,⟨h2,h⟩|⟨h2,r,h3,⟨h4,h⟩|⟨h4,r1,h5,XE,h9,h⟩⟩⟩
 ·cases h;exact gr 8 [] [rp 4 hP,rp 2 (oI ((aT kind 0)=false)),nL ag.enc x0.types,rp 5 hP,rp 2 (oI ((aT kind 0)=false)),oR True ((aT kind 0)=false),oI (((aT kind 0)||(bZ kind (aC x0.types)))=false),oR True (((aT kind 0)||(bZ kind (aC x0.types)))=false),rp 7 (bT h0),tT,hW 5,hH (.fW 1 5 1),hH (.fW 1 6 2)]
 ·cases h;exact gr 8 [] [rp 4 hP,rp 2 (oI ((aT kind 0)=false)),nL ag.enc x0.types,rp 5 hP,rp 2 (oI ((aT kind 0)=false)),oR True ((aT kind 0)=false),oI (((aT kind 0)||(bZ kind (aC x0.types)))=false),oR True (((aT kind 0)||(bZ kind (aC x0.types)))=false),rp 4 (bF h0),nL af.enc x0.ah,bF h0,oO (h1),bF h0,bF h0,bT h2,hW 5,hH (.fW 1 5 1),hH (.fW 1 6 2)]
 ·cases h;exact gr 13 [] [rp 4 hP,rp 2 (oI ((aT kind 0)=false)),nL ag.enc x0.types,rp 5 hP,rp 2 (oI ((aT kind 0)=false)),oR True ((aT kind 0)=false),oI (((aT kind 0)||(bZ kind (aC x0.types)))=false),oR True (((aT kind 0)||(bZ kind (aC x0.types)))=false),rp 4 (bF h0),nL af.enc x0.ah,bF h0,oO (h1),bF h0,bF h0,bF h2,cC (Fy h3),bT h4,hW 5,hH (.fW 1 5 1),hH (.fW 1 6 2)]
 ·refine gn 19 [1,3,6,8,45,46,47] [0,1,2] [rp 4 hP,rp 2 (oI ((aT kind 0)=false)),nL ag.enc x0.types,rp 5 hP,rp 2 (oI ((aT kind 0)=false)),oR True ((aT kind 0)=false),oI (((aT kind 0)||(bZ kind (aC x0.types)))=false),oR True (((aT kind 0)||(bZ kind (aC x0.types)))=false),rp 4 (bF h0),nL af.enc x0.ah,bF h0,oO (h1),bF h0,bF h0,bF h2,cC (Fy h3),bF h4,cC (AB h5),nL ax r1] (Ro Γ rv h9 ?_);rcases h with⟨x2,dN,r3,gq,r4,gu,⟨ij,h⟩|⟨ij,h⟩⟩
  ·cases h;exact gr 11 [] [cE ag.enc dN,hW 4,hH (.fW 2 14 1),hH (.fW 2 15 2),hH (.draw 7 [(2,6)]),cI [2] (vE gq),cI [2] (dF.Qi9 1 2 (AG gu)),nF ij]
  ·cases h;exact gr 10 [] [cE ag.enc dN,hW 4,hH (.fW 2 14 1),hH (.fW 2 15 2),hH (.draw 7 [(2,6)]),cI [2] (vE gq),cI [2] (dF.Qi9 1 2 (AG gu)),nT ij,hW 5,hH (.fW 1 5 1),hH (.fW 1 6 2)]
def FL(Γ:bn)(rv:List al×Int)(cf:Cf):Prop:=Go prog f47 [] Γ (.o5 [.one (lL 7 rv.1 al.enc),.one (lI rv.2)]) [] cf
def Ub(Γ:bn)(rv:List al×Int)(x0:ae)(l:List al)(v:Int)(l1:List al)(ba:Int):Prop:=FL Γ rv ⟨[.c 29900,.l 29900,.b 2,.b 1,.c 935,.l 116,.b 0,.c 15],⟨38,[vP 1 0 6,vO 4 1 7 l1 al.enc,vI 5 v,vI 6 ba,vI 11 (aC x0.types),vI 12 v],[oX 6 30 (ae.enc x0),oS 7 50 l1 al.enc]⟩⟩
def Sn(Γ:bn)(rv:List al×Int)(x0:ae)(l:List al)(v:Int)(l2:List al):Prop:=FL Γ rv ⟨[.b 1,.c 935,.l 116,.b 0,.c 15],⟨38,[vP 1 0 6,vO 4 1 7 l2 al.enc,vI 11 (aC x0.types),vI 12 v],[oX 6 30 (ae.enc x0),oS 7 50 l2 al.enc]⟩⟩
def Ua(Γ:bn)(rv:List al×Int)(x0:ae)(l:List al)(v:Int):Prop:=FL Γ rv ⟨[.c 116,.l 116,.b 0,.c 15],⟨38,[vP 1 0 6,vO 4 1 7 l al.enc,vI 11 (aC x0.types),vI 12 v],[oX 6 30 (ae.enc x0),oS 7 50 l al.enc]⟩⟩
def Sk(Γ:bn)(rv:List al×Int)(x0:ae)(l3:List al):Prop:=FL Γ rv ⟨[.c 15],⟨38,[vO 4 0 7 l3 al.enc],[oS 7 50 l3 al.enc]⟩⟩
theorem So(Γ:bn)(rv:List al×Int){x0 l v}:∀⦃s:List al×Int⦄ ⦃e:List al⦄,aK (fun s=>sM x0 l v s.1 s.2) s=some e→Sn Γ rv x0 l v e→Ub Γ rv x0 l v s.1 s.2:=by
 refine bk ?_
 rintro⟨l1,ba⟩ z_ h hI hE;simp only[sM,az,an,aq]at h;rcases h with⟨h1,⟨h2,r,h3,⟨h4,h5,h⟩|⟨h4,h⟩⟩|⟨h2,h⟩⟩
 ·exact gn 16 [1,4,5,6,11,12] [0,4] [nL af.enc x0.ah,oO (h1),bT h2,cC (NI h3),bT h4,oO (Eq.refl ([r.1].map al.enc).length),aO al.enc h5] (hI h)
 ·exact gn 16 [1,4,5,6,11,12] [0,1] [nL af.enc x0.ah,oO (h1),bT h2,cC (NI h3),bF h4] (hI h)
 ·exact gn 5 [1,4,11,12] [0,1] [nL af.enc x0.ah,oO (h1),bF h2] (hE h)
theorem Sl(Γ:bn)(rv:List al×Int){x0}:∀⦃s:List al×Int⦄ ⦃e:List al⦄,aK (fun s=>qA x0 s.1 s.2) s=some e→Sk Γ rv x0 e→Ua Γ rv x0 s.1 s.2:=by
 refine bk ?_
 rintro⟨l,v⟩ z_ h hI hE;simp only[qA,az,an,aq]at h;rcases h with⟨h0,l2,h6,h⟩|⟨h0,h⟩
 ·refine gn 13 [1,4,5,6,11,12] [0,1] [bT h0] (So Γ rv h6 ?_);exact gn 3 [1,4,11,12] [0,1] [] (hI h)
 ·exact gn 5 [4] [1] [bF h0] (hE h)
theorem Yf{x0}{rv:List al×Int}(h:IX x0=some rv):dF prog 47 [.agg (ae.enc x0)] [] (.o5 [.one (lL 7 rv.1 al.enc),.one (lI rv.2)]) []:=by
 refine aU func47 fun Γ=>?_
 simp only[IX,az,an,aq]at h;obtain⟨l3,h7,h⟩:=h;refine gn 9 [1,4,11,12] [0,1] [nL ag.enc x0.types,hW 3,hH (.lP 4 7 50)] (Sl Γ rv h7 ?_);cases h;exact gr 2 [] [hW 5,hH (.kX 0),rp 3 (eL l3 al.enc)]
theorem Dh{a}{rv:Bool}(h:BU a=some rv):dF prog 75 [.agg (af.enc a)] [] (one (.bool rv)) []:=by
 refine aU func75 fun Γ=>?_
 simp only[BU,az,an,aq]at h;obtain rfl:=oK h;exact gr 4 [] []
def y4(Γ:bn)(rv:Int)(cf:Cf):Prop:=Go prog f74 [] Γ (one (lI rv)) [] cf
def D1(Γ:bn)(rv:Int)(x0:ae)(ba v:Int):Prop:=y4 Γ rv ⟨[.c 116,.l 116,.b 0,.c 15],⟨30,[(1,one (.fn (.func 75) [])),vI 5 ba,vL 9 16 x0.ah af.enc,vI 10 (aC x0.ah),vI 11 v],[]⟩⟩
def CL(Γ:bn)(rv:Int)(x0:ae)(tK:Int):Prop:=y4 Γ rv ⟨[.c 15],⟨30,[vI 5 tK],[]⟩⟩
theorem CM(Γ:bn)(rv:Int){x0}:∀⦃s:Int×Int⦄ ⦃e:Int⦄,aK (fun s=>sS x0 s.1 s.2) s=some e→CL Γ rv x0 e→D1 Γ rv x0 s.1 s.2:=by
 refine bk ?_
 rintro⟨ba,v⟩ z_ h hI hE;simp only[sS,az,an,aq]at h;rcases h with⟨h0,x1,h1,⟨h2,h⟩|⟨h2,r,h3,⟨h4,h5,h⟩|⟨h4,h⟩⟩⟩|⟨h0,h⟩
 ·exact gn 16 [1,5,9,10,11] [] [bT h0,cE af.enc h1,rp 4 (nF h2),fF] (hI h)
 ·exact gn 16 [1,5,9,10,11] [] [bT h0,cE af.enc h1,rp 3 (nT h2),cC (Dh h3),nT h2,bT h4,oO (h5)] (hI h)
 ·exact gn 16 [1,5,9,10,11] [] [bT h0,cE af.enc h1,rp 3 (nT h2),cC (Dh h3),nT h2,bF h4] (hI h)
 ·exact gn 5 [5] [] [bF h0] (hE h)
theorem FW{x0}{rv:Int}(h:vU x0=some rv):dF prog 74 [.agg (ae.enc x0),.one (.fn (.func 75) [])] [] (one (lI rv)) []:=by
 refine aU func74 fun Γ=>?_
 simp only[vU,az,an,aq]at h;obtain⟨tK,h6,h⟩:=h;refine gn 9 [1,5,9,10,11] [] [nL af.enc x0.ah] (CM Γ rv h6 ?_);obtain rfl:=oK h;exact gr 2 [] []
theorem Rz{x0}{rv:Int}(h:xH x0=some rv):dF prog 48 [.agg (ae.enc x0)] [] (one (lI rv)) []:=by
 refine aU func48 fun Γ=>?_
 simp only[xH,az,an,aq]at h;obtain⟨r,h0,h⟩:=h;obtain rfl:=oK h;exact gr 4 [] [cC (FW h0)]
def DJ(Γ:bn)(rv:Int)(cf:Cf):Prop:=Go prog f23 [] Γ (one (lI rv)) [] cf
def J6(Γ:bn)(rv:Int)(r:List al×Int)(left v:Int):Prop:=DJ Γ rv ⟨[.c 244,.l 244,.b 0,.c 31],⟨27,[vI 5 left,vL 15 7 r.1 al.enc,vI 16 (aC r.1),vI 17 v],[]⟩⟩
def IA(Γ:bn)(rv:Int)(r:List al×Int)(Oq:Int):Prop:=DJ Γ rv ⟨[.c 31],⟨27,[vI 5 Oq],[]⟩⟩
theorem IB(Γ:bn)(rv:Int){r}:∀⦃s:Int×Int⦄ ⦃e:Int⦄,aK (fun s=>jw r s.1 s.2) s=some e→IA Γ rv r e→J6 Γ rv r s.1 s.2:=by
 refine bk ?_
 rintro⟨left,v⟩ z_ h hI hE;simp only[jw,az,an,aq]at h;rcases h with⟨h2,x1,h3,h⟩|⟨h2,h⟩
 ·exact gn 13 [5,15,16,17] [] [bT h2,cE al.enc h3] (hI h)
 ·exact gn 5 [5] [] [bF h2] (hE h)
theorem mZ{x0}{rv:Int}(h:nV x0=some rv):dF prog 23 [.agg (ae.enc x0)] [] (one (lI rv)) []:=by
 refine aU func23 fun Γ=>?_
 simp only[nV,az,an,aq]at h;obtain⟨r,h0,r1,h1,Oq,h4,h⟩:=h;refine gn 11 [5,15,16,17] [] [cC (Yf h0),cC (Rz h1),nL al.enc r.1] (IB Γ rv h4 ?_);obtain rfl:=oK h;exact gr 2 [] []
theorem k8{rv:ae}(h:uj=some rv):dF prog 24 [] [] (gG [lL 1 rv.bG.aD dC,lL 6 rv.bG.bj aw.enc,lL 14 rv.types ag.enc,lL 16 rv.ah af.enc,lL 2 rv.db aI.enc,lL 2 rv.before aI.enc]) []:=by
 refine aU func24 fun Γ=>?_
 simp only[uj,az,an,aq]at h;cases h;exact gr 14 [] [hW 22,hH (.kX 1),hH (.rh 12 5 2),hH (.rh 14 5 2),hH (.kX 2),hH (.rh 16 5 2),hW 22,hH (.kX 8),hW 2,hH (.kX 6),hW 3,hH (.kX 3),hH (.kX 4),hH (.kX 10),hH (.kX 11),hH (.fW 0 4 2),hH (.fW 0 5 2),rp 6 (oO (Eq.refl ([(aB.mk 0 20)].map aB.enc).length)),rp 4 (oO (Eq.refl ([(aB.mk 0 150)].map aB.enc).length)),rp 4 (oO (Eq.refl ([5].map ax).length)),rp 4 (oO (Eq.refl ([1].map ax).length)),rp 6 (oO (Eq.refl ([G8,G6,G7].map dC).length)),rp 6 (oO (Eq.refl ([(aw.mk 0 1 0 0 [(aB.mk 0 20)] []),(aw.mk 1 0 0 0 [(aB.mk 0 20)] []),(aw.mk 0 2 0 0 [(aB.mk 0 150)] [])].map aw.enc).length)),rp 3 (oO (Eq.refl ([(ag.mk G9 1 0 0 [5] 0 0 0 100 1000 0 0 0 0)].map ag.enc).length)),rp 3 (oO (Eq.refl ([(af.mk Qz [1] (aM.mk (-1) 0 0 0) (aM.mk 1 0 200 5) 0 0 1 (-1) (-1) false)].map af.enc).length))]
theorem pO{rv:ae}(h:rR=some rv):dF prog 24 [] [] (gG [lL 1 rv.bG.aD dC,lL 6 rv.bG.bj aw.enc,lL 14 rv.types ag.enc,lO 0 16 rv.ah af.enc,lL 2 rv.db aI.enc,lL 2 rv.before aI.enc]) [oS 16 56 rv.ah af.enc]:=by
 refine aU func24 fun Γ=>?_
 simp only[rR,az,an,aq]at h;cases h;exact gr 14 [11] [hW 22,hH (.kX 1),hH (.rh 12 5 2),hH (.rh 14 5 2),hH (.kX 2),hH (.rh 16 5 2),hW 22,hH (.kX 8),hW 2,hH (.kX 6),hW 3,hH (.kX 3),hH (.kX 4),hH (.kX 10),hH (.fW 0 4 2),hH (.fW 0 5 2),rp 6 (oO (Eq.refl ([(aB.mk 0 20)].map aB.enc).length)),rp 4 (oO (Eq.refl ([(aB.mk 0 150)].map aB.enc).length)),rp 4 (oO (Eq.refl ([5].map ax).length)),rp 4 (oO (Eq.refl ([1].map ax).length)),rp 6 (oO (Eq.refl ([G8,G6,G7].map dC).length)),rp 6 (oO (Eq.refl ([(aw.mk 0 1 0 0 [(aB.mk 0 20)] []),(aw.mk 1 0 0 0 [(aB.mk 0 20)] []),(aw.mk 0 2 0 0 [(aB.mk 0 150)] [])].map aw.enc).length)),rp 3 (oO (Eq.refl ([(ag.mk G9 1 0 0 [5] 0 0 0 100 1000 0 0 0 0)].map ag.enc).length))]
theorem vW{rv:Bool}(h:pd=some rv):dF prog 9 [] [] (one (.bool rv)) []:=by
 refine aU func9 fun Γ=>?_
 simp only[pd,az,an,aq]at h;rcases h with⟨r,h0,r1,h1,r2,h2,r3,h3,r4,h4,x0,h5,⟨h6,x1,h7,⟨h8,r5,h9,h⟩|⟨h8,h⟩⟩|⟨h6,h⟩⟩
 ·cases h
  exact gr 12 [] [cC (k8 h0),cC (ll h1),cC (k8 h2),cC (Ay h3),cC (pO h4),oO (iA h5),oO (iz af.enc h5),rE af.enc h5,hH (.rows ((gZ r4.ah 0 (af.mk x0.name x0.load x0.pick x0.drop 1 x0.dA x0.split x0.bI x0.now x0.off)).map af.enc)),hH (.xo 1 ((gZ r4.ah 0 (af.mk x0.name x0.load x0.pick x0.drop 1 x0.dA x0.split x0.bI x0.now x0.off)).map af.enc).length),hP,hP,hP,oO (L4 af.enc r4.ah 0 (af.mk x0.name x0.load x0.pick x0.drop 1 x0.dA x0.split x0.bI x0.now x0.off)),rp 3 (oO (vV af.enc r4.ah 0 (af.mk x0.name x0.load x0.pick x0.drop 1 x0.dA x0.split x0.bI x0.now x0.off))),rp 2 (oI ((bP r1.2 0)=true)),nL af.enc r1.1.ah,hP,hP,oI ((bP r1.2 0)=true),oR True ((bP r1.2 0)=true),rp 3 (bT h6),cE af.enc h7,rp 5 (bT h6),rp 4 hP,rp 3 (oI ((bP x1.drop.place 1&&(bP x1.drop.bm 20&&(bP x1.drop.bp 75&&(bP x1.drop.bz 5&&true))))=true)),nL aw.enc r1.1.bG.bj,rp 11 hP,oI ((bP x1.drop.place 1&&(bP x1.drop.bm 20&&(bP x1.drop.bp 75&&(bP x1.drop.bz 5&&true))))=true),oR True ((bP x1.drop.place 1&&(bP x1.drop.bm 20&&(bP x1.drop.bp 75&&(bP x1.drop.bz 5&&true))))=true),oI (((bP x1.drop.place 1&&(bP x1.drop.bm 20&&(bP x1.drop.bp 75&&(bP x1.drop.bz 5&&true))))&&(bP (aC r1.1.bG.bj) 2))=true),oR True (((bP x1.drop.place 1&&(bP x1.drop.bm 20&&(bP x1.drop.bp 75&&(bP x1.drop.bz 5&&true))))&&(bP (aC r1.1.bG.bj) 2))=true),oI ((((bP x1.drop.place 1&&(bP x1.drop.bm 20&&(bP x1.drop.bp 75&&(bP x1.drop.bz 5&&true))))&&(bP (aC r1.1.bG.bj) 2))&&(bP r3.1 145))=true),oR True ((((bP x1.drop.place 1&&(bP x1.drop.bm 20&&(bP x1.drop.bp 75&&(bP x1.drop.bz 5&&true))))&&(bP (aC r1.1.bG.bj) 2))&&(bP r3.1 145))=true),oI (((((bP x1.drop.place 1&&(bP x1.drop.bm 20&&(bP x1.drop.bp 75&&(bP x1.drop.bz 5&&true))))&&(bP (aC r1.1.bG.bj) 2))&&(bP r3.1 145))&&(bP r3.2.1 1))=true),oR True (((((bP x1.drop.place 1&&(bP x1.drop.bm 20&&(bP x1.drop.bp 75&&(bP x1.drop.bz 5&&true))))&&(bP (aC r1.1.bG.bj) 2))&&(bP r3.1 145))&&(bP r3.2.1 1))=true),bT h8,bT h8,oO (Eq.refl ((gZ r4.ah 0 (af.mk x0.name x0.load x0.pick x0.drop 1 x0.dA x0.split x0.bI x0.now x0.off)).map af.enc).length),cC (mZ h9),bT h8,bT h8]
 ·obtain rfl:=oK h;exact gr 12 [] [cC (k8 h0),cC (ll h1),cC (k8 h2),cC (Ay h3),cC (pO h4),oO (iA h5),oO (iz af.enc h5),rE af.enc h5,hH (.rows ((gZ r4.ah 0 (af.mk x0.name x0.load x0.pick x0.drop 1 x0.dA x0.split x0.bI x0.now x0.off)).map af.enc)),hH (.xo 1 ((gZ r4.ah 0 (af.mk x0.name x0.load x0.pick x0.drop 1 x0.dA x0.split x0.bI x0.now x0.off)).map af.enc).length),hP,hP,hP,oO (L4 af.enc r4.ah 0 (af.mk x0.name x0.load x0.pick x0.drop 1 x0.dA x0.split x0.bI x0.now x0.off)),rp 3 (oO (vV af.enc r4.ah 0 (af.mk x0.name x0.load x0.pick x0.drop 1 x0.dA x0.split x0.bI x0.now x0.off))),rp 2 (oI ((bP r1.2 0)=true)),nL af.enc r1.1.ah,hP,hP,oI ((bP r1.2 0)=true),oR True ((bP r1.2 0)=true),rp 3 (bT h6),cE af.enc h7,rp 5 (bT h6),rp 4 hP,rp 3 (oI ((bP x1.drop.place 1&&(bP x1.drop.bm 20&&(bP x1.drop.bp 75&&(bP x1.drop.bz 5&&true))))=true)),nL aw.enc r1.1.bG.bj,rp 11 hP,oI ((bP x1.drop.place 1&&(bP x1.drop.bm 20&&(bP x1.drop.bp 75&&(bP x1.drop.bz 5&&true))))=true),oR True ((bP x1.drop.place 1&&(bP x1.drop.bm 20&&(bP x1.drop.bp 75&&(bP x1.drop.bz 5&&true))))=true),oI (((bP x1.drop.place 1&&(bP x1.drop.bm 20&&(bP x1.drop.bp 75&&(bP x1.drop.bz 5&&true))))&&(bP (aC r1.1.bG.bj) 2))=true),oR True (((bP x1.drop.place 1&&(bP x1.drop.bm 20&&(bP x1.drop.bp 75&&(bP x1.drop.bz 5&&true))))&&(bP (aC r1.1.bG.bj) 2))=true),oI ((((bP x1.drop.place 1&&(bP x1.drop.bm 20&&(bP x1.drop.bp 75&&(bP x1.drop.bz 5&&true))))&&(bP (aC r1.1.bG.bj) 2))&&(bP r3.1 145))=true),oR True ((((bP x1.drop.place 1&&(bP x1.drop.bm 20&&(bP x1.drop.bp 75&&(bP x1.drop.bz 5&&true))))&&(bP (aC r1.1.bG.bj) 2))&&(bP r3.1 145))=true),oI (((((bP x1.drop.place 1&&(bP x1.drop.bm 20&&(bP x1.drop.bp 75&&(bP x1.drop.bz 5&&true))))&&(bP (aC r1.1.bG.bj) 2))&&(bP r3.1 145))&&(bP r3.2.1 1))=true),oR True (((((bP x1.drop.place 1&&(bP x1.drop.bm 20&&(bP x1.drop.bp 75&&(bP x1.drop.bz 5&&true))))&&(bP (aC r1.1.bG.bj) 2))&&(bP r3.1 145))&&(bP r3.2.1 1))=true),rp 4 (bF h8)]
 ·obtain rfl:=oK h;exact gr 12 [] [cC (k8 h0),cC (ll h1),cC (k8 h2),cC (Ay h3),cC (pO h4),oO (iA h5),oO (iz af.enc h5),rE af.enc h5,hH (.rows ((gZ r4.ah 0 (af.mk x0.name x0.load x0.pick x0.drop 1 x0.dA x0.split x0.bI x0.now x0.off)).map af.enc)),hH (.xo 1 ((gZ r4.ah 0 (af.mk x0.name x0.load x0.pick x0.drop 1 x0.dA x0.split x0.bI x0.now x0.off)).map af.enc).length),hP,hP,hP,oO (L4 af.enc r4.ah 0 (af.mk x0.name x0.load x0.pick x0.drop 1 x0.dA x0.split x0.bI x0.now x0.off)),rp 3 (oO (vV af.enc r4.ah 0 (af.mk x0.name x0.load x0.pick x0.drop 1 x0.dA x0.split x0.bI x0.now x0.off))),rp 2 (oI ((bP r1.2 0)=true)),nL af.enc r1.1.ah,hP,hP,oI ((bP r1.2 0)=true),oR True ((bP r1.2 0)=true),rp 8 (bF h6),rp 19 fF]
def wS(Γ:bn)(rv:List aa)(cf:Cf):Prop:=Go prog f39 [] Γ (one (lL 2 rv aa.enc)) [] cf
def y9(Γ:bn)(rv:List aa)(word:ByteArray)(l l1:List aa)(i:Int):Prop:=wS Γ rv ⟨[.c 116,.l 116,.b 0,.c 15],⟨40,[vS 0 word,vL 1 2 l aa.enc,vO 5 0 2 l1 aa.enc,vI 6 i],[oS 2 104 l1 aa.enc]⟩⟩
def yn(Γ:bn)(rv:List aa)(word:ByteArray)(l l2:List aa):Prop:=wS Γ rv ⟨[.c 15],⟨40,[vO 5 0 2 l2 aa.enc],[oS 2 104 l2 aa.enc]⟩⟩
theorem ym(Γ:bn)(rv:List aa){word l l1 i di}{x:(List aa×Int)⊕(List aa)}(h:n9 word l l1 i di=some x)(hI:∀⦃s:List aa×Int⦄,some (.inl s)=some x→y9 Γ rv word l s.1 s.2)(hE:∀⦃e:List aa⦄,some (.inr e)=some x→yn Γ rv word l e):wS Γ rv ⟨[.c 3731,.b 1,.c 467,.l 116,.b 0,.c 15],⟨40,[vS 0 word,vL 1 2 l aa.enc,vO 5 0 2 l1 aa.enc,vI 6 i,vS 7 di],[oS 2 104 l1 aa.enc]⟩⟩:=by
 simp only[n9,az,an,aq]at h;obtain⟨x1,h5,h6,h⟩:=h;exact gn 4 [0,1,5,6] [2] [cE aa.enc h5,oO (Eq.refl ([(aa.mk x1.IK di)].map aa.enc).length),aO aa.enc h6] (hI h)
theorem Gl(Γ:bn)(rv:List aa){word l}:∀⦃s:List aa×Int⦄ ⦃e:List aa⦄,aK (fun s=>n_ word l s.1 s.2) s=some e→yn Γ rv word l e→y9 Γ rv word l s.1 s.2:=by
 refine bk ?_
 rintro⟨l1,i⟩ z_ h hI hE;simp only[n_,az,an,aq]at h;rcases h with⟨h0,x0,h1,⟨h2,h⟩|⟨h2,h3,h4,h⟩⟩|⟨h0,h⟩
 ·exact gn 14 [0,1,5,6,7] [0] [nL aa.enc l,bT h0,cE aa.enc h1,nF h2] (ym Γ rv h hI hE)
 ·exact gn 14 [0,1,5,6,7] [0] [nL aa.enc l,bT h0,cE aa.enc h1,nT h2,oO (h3),cE aa.enc h1,oO (h4)] (ym Γ rv h hI hE)
 ·exact gn 5 [5] [0] [nL aa.enc l,bF h0] (hE h)
theorem vY{word l}{rv:List aa}(h:jO word l=some rv):dF prog 39 [.one (.str word),.one (lL 2 l aa.enc)] [] (one (lL 2 rv aa.enc)) []:=by
 refine aU func39 fun Γ=>?_
 simp only[jO,az,an,aq]at h;obtain⟨l2,h7,h⟩:=h;refine gn 9 [0,1,5,6] [0] [hW 12,hH (.lP 5 2 104)] (Gl Γ rv h7 ?_);obtain rfl:=oK h;exact gr 2 [] [hW 4,hH (.kX 0),rp 3 (eL l2 aa.enc)]
def uJ(Γ:bn)(rv:ByteArray)(cf:Cf):Prop:=Go prog f67 [] Γ (one (.str rv)) [] cf
def xc(Γ:bn)(rv:ByteArray)(n:Int)(s0:ByteArray)(left:Int)(again:Bool):Prop:=uJ Γ rv ⟨[.c 244,.l 244,.b 0,.c 31],⟨31,[vI 0 n,vS 3 s0,vI 4 left,vB 5 again],[]⟩⟩
def wj(Γ:bn)(rv:ByteArray)(n:Int)(s1:ByteArray):Prop:=uJ Γ rv ⟨[.c 31],⟨31,[vI 0 n,vS 3 s1],[]⟩⟩
theorem wi(Γ:bn)(rv:ByteArray){n s0 left d}{x:(ByteArray×Int×Bool)⊕(ByteArray)}(h:kB n s0 left d=some x)(hI:∀⦃s:ByteArray×Int×Bool⦄,some (.inl s)=some x→xc Γ rv n s.1 s.2.1 s.2.2)(hE:∀⦃e:ByteArray⦄,some (.inr e)=some x→wj Γ rv n e):uJ Γ rv ⟨[.c 7827,.b 1,.c 979,.l 244,.b 0,.c 31],⟨31,[vI 0 n,vS 3 s0,vI 4 left,vI 6 d],[]⟩⟩:=by
 simp only[kB,az,an,aq]at h;obtain⟨h2,h⟩:=h;exact gn 6 [0,3,4,5] [] [hH (.ints [(zV .u8 (aY .i64 48 d))]),oO (Eq.refl ([(zV .u8 (aY .i64 48 d))].map Qdy).length),oO (Eq.refl (([(zV .u8 (aY .i64 48 d))].map Qdy):List (List Lf))),oO (h2),oO (oA (n:=10))] (hI h)
theorem D8(Γ:bn)(rv:ByteArray){n}:∀⦃s:ByteArray×Int×Bool⦄ ⦃e:ByteArray⦄,aK (fun s=>t_ n s.1 s.2.1 s.2.2) s=some e→wj Γ rv n e→xc Γ rv n s.1 s.2.1 s.2.2:=by
 refine bk ?_
 rintro⟨s0,left,again⟩ z_ h hI hE;simp only[t_,az,an,aq]at h;rcases h with⟨h0,⟨h1,h⟩|⟨h1,h⟩⟩|⟨h0,h⟩
 ·exact gn 14 [0,3,4,6] [] [bT h0,oO (oA (n:=10)),bT h1] (wi Γ rv h hI hE)
 ·exact gn 14 [0,3,4,6] [] [bT h0,oO (oA (n:=10)),bF h1] (wi Γ rv h hI hE)
 ·exact gn 5 [0,3] [] [bF h0] (hE h)
theorem fQ{n}{rv:ByteArray}(h:dh n=some rv):dF prog 67 [.one (lI n)] [] (one (.str rv)) []:=by
 refine aU func67 fun Γ=>?_
 simp only[dh,az,an,aq]at h;obtain⟨s1,h3,h⟩:=h;refine gn 11 [0,3,4,5] [] [] (D8 Γ rv h3 ?_);rcases h with⟨h4,h5,h⟩|⟨h4,h⟩
 ·cases h;exact gr 6 [] [bT h4,oO (h5)]
 ·obtain rfl:=oK h;exact gr 7 [] [bF h4]
theorem rC{c}{rv:Bool}(h:vc c=some rv):dF prog 126 [.one (.int .u8 c)] [] (one (.bool rv)) []:=by
 refine aU func126 fun Γ=>?_
 simp only[vc,az,an,aq]at h;cases h;exact gr 4 [] [hP,hP,hP,oI ((bZ c 48)=true),oR True ((bZ c 48)=true)]
theorem uK{c}{rv:Bool}(h:xK c=some rv):dF prog 127 [.one (.int .u8 c)] [] (one (.bool rv)) []:=by
 refine aU func127 fun Γ=>?_
 simp only[xK,az,an,aq]at h;cases h;exact gr 4 [] [rp 14 hP,oI ((bZ c 97)=true),oR True ((bZ c 97)=true),rp 2 (oI (((bZ c 97)&&(jD c 122))=false)),oI ((((bZ c 97)&&(jD c 122))=false)∧(bZ c 65)=true),oI (((bZ c 97)&&(jD c 122))=false),oI ((((bZ c 97)&&(jD c 122))=false)∧(bZ c 65)=true),oR True (((bZ c 97)&&(jD c 122))=false),oI ((((bZ c 97)&&(jD c 122))||((bZ c 65)&&(jD c 90)))=false),oR True ((((bZ c 97)&&(jD c 122))||((bZ c 65)&&(jD c 90)))=false)]
def Dj(Γ:bn)(rv:Bool)(cf:Cf):Prop:=Go prog f93 [] Γ (one (.bool rv)) [] cf
def Jw(Γ:bn)(rv:Bool)(s0:ByteArray)(b:UInt8)(i:Int):Prop:=Dj Γ rv ⟨[.c 116,.l 116,.b 0,.c 15],⟨35,[vS 0 s0,vI 3 i],[]⟩⟩
def HK(Γ:bn)(rv:Bool)(s0:ByteArray)(b:UInt8):Prop:=Dj Γ rv ⟨[.c 15],⟨35,[],[]⟩⟩
theorem HL(Γ:bn)(rv:Bool){s0 b}:∀⦃s:Int⦄ ⦃e:(Unit)⊕(Bool)⦄,aK (fun s=>pP s0 b s) s=some e→jf e (fun e=>HK Γ rv s0 b) (fun e=>e=rv)→Jw Γ rv s0 b s:=by
 refine bk ?_
 intro i z_ h hI hE;simp only[pP,az,an,aq]at h;rcases h with⟨h4,b1,h5,r1,h6,⟨h7,h⟩|⟨h7,r2,h8,⟨h9,h⟩|⟨h9,h⟩⟩⟩|⟨h4,h⟩
 ·exact gn 14 [0,3] [] [bT h4,yE h5,cC (uK h6),rp 6 (nF h7),fF] (hI h)
 ·exact gn 14 [0,3] [] [bT h4,yE h5,cC (uK h6),rp 3 (nT h7),yE h5,nT h7,cC (rC h8),nT h7,nT h7,nF h9] (hI h)
 ·obtain rfl:=(hE h:_=rv);exact gr 12 [] [bT h4,yE h5,cC (uK h6),rp 3 (nT h7),yE h5,nT h7,cC (rC h8),nT h7,nT h7,nT h9]
 ·exact gn 5 [] [] [bF h4] (hE h)
theorem mS{s0}{rv:Bool}(h:ik s0=some rv):dF prog 93 [.one (.str s0)] [] (one (.bool rv)) []:=by
 refine aU func93 fun Γ=>?_
 simp only[ik,az,an,aq]at h;rcases h with⟨h0,h⟩|⟨h0,b,h1,r,h2,⟨h3,h⟩|⟨h3,e0,dN,h⟩⟩
 ·obtain rfl:=oK h;exact gr 8 [] [rp 4 hP,rp 2 (oI ((aT (xq s0) 1)=false)),oR True ((aT (xq s0) 1)=false),rp 4 (bT h0),tT]
 ·obtain rfl:=oK h;exact gr 8 [] [rp 4 hP,rp 2 (oI ((aT (xq s0) 1)=false)),oR True ((aT (xq s0) 1)=false),bF h0,bF h0,yE h1,bF h0,cC (rC h2),bF h0,bT h3]
 ·refine gn 12 [0,3] [] [rp 4 hP,rp 2 (oI ((aT (xq s0) 1)=false)),oR True ((aT (xq s0) 1)=false),bF h0,bF h0,yE h1,bF h0,cC (rC h2),bF h0,bF h3] (HL Γ rv dN ?_);rcases e0 with e0|r3
  ·obtain rfl:=oK h;exact gr 2 [] []
  ·exact oK h
def sV(Γ:bn)(rv:List aa)(cf:Cf):Prop:=Go prog f94 [] Γ (one (lL 2 rv aa.enc)) [] cf
def y7(Γ:bn)(rv:List aa)(l:List aB)(l2:List aa)(i:Int):Prop:=sV Γ rv ⟨[.c 244,.l 244,.b 0,.c 31],⟨88,[vL 0 2 l aB.enc,vO 3 0 2 l2 aa.enc,vI 4 i],[oS 2 104 l2 aa.enc]⟩⟩
def xN(Γ:bn)(rv:List aa)(l:List aB)(l4:List aa):Prop:=sV Γ rv ⟨[.c 31],⟨88,[vO 3 0 2 l4 aa.enc],[oS 2 104 l4 aa.enc]⟩⟩
theorem xM(Γ:bn)(rv:List aa){l i x0 l3}{x:(List aa×Int)⊕(List aa)}(h:iB l i x0 l3=some x)(hI:∀⦃s:List aa×Int⦄,some (.inl s)=some x→y7 Γ rv l s.1 s.2)(hE:∀⦃e:List aa⦄,some (.inr e)=some x→xN Γ rv l e):sV Γ rv ⟨[.c 7827,.b 1,.c 979,.l 244,.b 0,.c 31],⟨88,[vL 0 2 l aB.enc,vO 3 0 2 l3 aa.enc,vI 4 i,vP 5 1 2],[oS 2 104 l3 aa.enc,oX 2 86 (aB.enc x0)]⟩⟩:=by
 simp only[iB,az,an,aq]at h;rcases h with⟨h7,x1,h8,⟨h9,r1,dN,gq,h⟩|⟨h9,⟨gu,r2,ij,kH,h⟩|⟨gu,h⟩⟩⟩|⟨h7,h⟩
 ·exact gn 7 [0,3,4] [3] [hH (.draw 24 []),rp 6 (bT h7),cE aB.enc h8,rp 4 (bT h7),rp 9 (bT h9),bT h7,bT h9,bT h7,tT,cC (fQ dN),oO (Eq.refl ([(aa.mk 13 r1)].map aa.enc).length),aO aa.enc gq] (hI h)
 ·exact gn 7 [0,3,4] [3] [hH (.draw 24 []),rp 6 (bT h7),cE aB.enc h8,rp 4 (bT h7),rp 6 (bF h9),cE aB.enc h8,rp 3 (bF h9),bT h7,bF h9,bT h7,bT gu,cC (fQ ij),oO (Eq.refl ([(aa.mk 13 r2)].map aa.enc).length),aO aa.enc kH] (hI h)
 ·exact gn 7 [0,3,4] [0] [hH (.draw 24 []),rp 6 (bT h7),cE aB.enc h8,rp 4 (bT h7),rp 6 (bF h9),cE aB.enc h8,rp 3 (bF h9),bT h7,bF h9,bT h7,bF gu] (hI h)
 ·exact gn 7 [0,3,4] [0] [hH (.draw 24 []),rp 10 (bF h7),rp 9 kF,bF h7,bF h7,fF] (hI h)
theorem F3(Γ:bn)(rv:List aa){l}:∀⦃s:List aa×Int⦄ ⦃e:List aa⦄,aK (fun s=>gD l s.1 s.2) s=some e→xN Γ rv l e→y7 Γ rv l s.1 s.2:=by
 refine bk ?_
 rintro⟨l2,i⟩ z_ h hI hE;simp only[gD,az,an,aq]at h;rcases h with⟨h2,x0,h3,⟨h4,r,h5,h6,h⟩|⟨h4,h⟩⟩|⟨h2,h⟩
 ·exact gn 14 [0,3,4,5] [3,1] [nL aB.enc l,bT h2,cE aB.enc h3,rp 17 hP,rp 2 (oI ((aT x0.t 0)=false)),oR True ((aT x0.t 0)=false),rp 4 (oI (((aT x0.t 0)||(cQ x0.t 4096))=false)),oR True (((aT x0.t 0)||(cQ x0.t 4096))=false),rp 5 (oI ((((aT x0.t 0)||(cQ x0.t 4096))||(aT x0.a x0.t))=false)),oR True ((((aT x0.t 0)||(cQ x0.t 4096))||(aT x0.a x0.t))=false),bT h4,cC (fQ h5),oO (Eq.refl ([(aa.mk 2 r)].map aa.enc).length),aO aa.enc h6] (xM Γ rv h hI hE)
 ·exact gn 14 [0,3,4,5] [0,1] [nL aB.enc l,bT h2,cE aB.enc h3,rp 17 hP,rp 2 (oI ((aT x0.t 0)=false)),oR True ((aT x0.t 0)=false),rp 4 (oI (((aT x0.t 0)||(cQ x0.t 4096))=false)),oR True (((aT x0.t 0)||(cQ x0.t 4096))=false),rp 5 (oI ((((aT x0.t 0)||(cQ x0.t 4096))||(aT x0.a x0.t))=false)),oR True ((((aT x0.t 0)||(cQ x0.t 4096))||(aT x0.a x0.t))=false),bF h4] (xM Γ rv h hI hE)
 ·exact gn 5 [3] [0] [nL aB.enc l,bF h2] (hE h)
theorem xL(Γ:bn)(rv:List aa){l l1}(h:jX l l1=some rv):sV Γ rv ⟨[.c 15],⟨88,[vL 0 2 l aB.enc,vO 3 0 2 l1 aa.enc],[oS 2 104 l1 aa.enc]⟩⟩:=by
 simp only[jX,az,an,aq]at h;obtain⟨l4,nk,h⟩:=h;refine gn 5 [0,3,4] [0] [] (F3 Γ rv nk ?_);obtain rfl:=oK h;exact gr 2 [] [hW 4,hH (.kX 0),rp 3 (eL l4 aa.enc)]
theorem vX{l}{rv:List aa}(h:fI l=some rv):dF prog 94 [.one (lL 2 l aB.enc)] [] (one (lL 2 rv aa.enc)) []:=by
 refine aU func94 fun Γ=>?_
 simp only[fI,az,an,aq]at h;rcases h with⟨h0,h1,h⟩|⟨h0,h⟩
 ·exact gn 9 [0,3] [1] [nL aB.enc l,hP,hP,oI ((aT (aC l) 1)=false),nL aB.enc l,hP,hP,oI ((aT (aC l) 1)=false),oR True ((aT (aC l) 1)=false),bT h0,oO (Eq.refl ([(aa.mk 4 ByteArray.empty)].map aa.enc).length),aN (l:=([(aa.mk 4 ByteArray.empty)]:List aa)) aa.enc h1] (xL Γ rv h)
 ·exact gn 9 [0,3] [0] [nL aB.enc l,hP,hP,oI ((aT (aC l) 1)=false),nL aB.enc l,hP,hP,oI ((aT (aC l) 1)=false),oR True ((aT (aC l) 1)=false),bF h0,hW 1,hH (.lP 3 2 104)] (xL Γ rv h)
theorem hZ{t}{rv:Bool}(h:nR t=some rv):dF prog 95 [.one (lI t)] [] (one (.bool rv)) []:=by
 refine aU func95 fun Γ=>?_
 simp only[nR,az,an,aq]at h;cases h;exact gr 4 [] [hP,hP,hP,oI ((bZ t 0)=true),oR True ((bZ t 0)=true)]
def fv(Γ:bn)(rv:List aa)(cf:Cf):Prop:=Go prog f64 [] Γ (one (lL 2 rv aa.enc)) [] cf
def D9(Γ:bn)(rv:List aa)(n:ak)(i:Int)(r:ByteArray)(x0:aw)(l l1:List aa)(o_:Bool)(k:Int):Prop:=fv Γ rv ⟨[.c 4084,.l 4084,.b 0,.c 511],⟨192,[vI 1 i,vP 2 0 2,vO 5 1 2 l1 aa.enc,vS 6 (cM ct r),vP 7 2 6,vB 8 o_,vI 9 k],[oX 2 25 (ak.enc n),oS 2 104 l1 aa.enc,oX 6 59 (aw.enc x0)]⟩⟩
def CP(Γ:bn)(rv:List aa)(n:ak)(i:Int)(r:ByteArray)(x0:aw)(l l1:List aa)(te:Bool):Prop:=fv Γ rv ⟨[.c 511],⟨192,[vO 5 0 2 l1 aa.enc,vS 6 (cM ct r),vP 7 1 6,vB 8 te],[oS 2 104 l1 aa.enc,oX 6 59 (aw.enc x0)]⟩⟩
def D_(Γ:bn)(rv:List aa)(r:ByteArray)(x0:aw)(l r1 l3:List aa)(k1:Int):Prop:=fv Γ rv ⟨[.c 32756,.l 32756,.b 2,.c 4095],⟨192,[vO 5 0 2 l3 aa.enc,vS 6 (cM ct r),vP 7 1 6,vL 11 2 r1 aa.enc,vI 12 k1],[oS 2 104 l3 aa.enc,oX 6 59 (aw.enc x0)]⟩⟩
def CS(Γ:bn)(rv:List aa)(r:ByteArray)(x0:aw)(l r1 l4:List aa):Prop:=fv Γ rv ⟨[.c 4095],⟨192,[vO 5 0 2 l4 aa.enc,vS 6 (cM ct r),vP 7 1 6],[oS 2 104 l4 aa.enc,oX 6 59 (aw.enc x0)]⟩⟩
def Ea(Γ:bn)(rv:List aa)(r:ByteArray)(x0:aw)(l l6:List aa)(k2:Int):Prop:=fv Γ rv ⟨[.c 131060,.l 131060,.b 4,.c 16383],⟨192,[vO 5 0 2 l6 aa.enc,vS 6 (cM ct r),vP 7 1 6,vI 13 k2],[oS 2 104 l6 aa.enc,oX 6 59 (aw.enc x0)]⟩⟩
def CU(Γ:bn)(rv:List aa)(r:ByteArray)(x0:aw)(l l7:List aa):Prop:=fv Γ rv ⟨[.c 16383],⟨192,[vO 5 0 2 l7 aa.enc],[oS 2 104 l7 aa.enc]⟩⟩
theorem CQ(Γ:bn)(rv:List aa){n i r x0 l l1}:∀⦃s:Bool×Int⦄ ⦃e:Bool⦄,aK (fun s=>dx n i r x0 l l1 s.1 s.2) s=some e→CP Γ rv n i r x0 l l1 e→D9 Γ rv n i r x0 l l1 s.1 s.2:=by
 refine bk ?_
 rintro⟨o_,k⟩ z_ h hI hE;simp only[dx,az,an,aq]at h;rcases h with⟨h7,x1,h8,h⟩|⟨h7,h⟩
 ·exact gn 13 [1,2,5,6,7,8,9] [0,1,2] [bT h7,cE aw.enc h8,rp 22 hP,rp 5 (oI (o_=false)),rp 4 (oI ((o_=false)∧(bP x0.aE x1.aE)=true)),oI (o_=false),oI ((o_=false)∧(bP x0.aE x1.aE)=true),oI (o_=false),rp 4 (oI ((o_=false)∧((bP x0.aE x1.aE)&&(bP x0.dE x1.dE))=true)),oI (o_=false),oI ((o_=false)∧((bP x0.aE x1.aE)&&(bP x0.dE x1.dE))=true),oR True (o_=false)] (hI h)
 ·exact gn 5 [5,6,7,8] [1,2] [bF h7] (hE h)
theorem CT(Γ:bn)(rv:List aa){r x0 l r1}:∀⦃s:List aa×Int⦄ ⦃e:List aa⦄,aK (fun s=>dy r x0 l r1 s.1 s.2) s=some e→CS Γ rv r x0 l r1 e→D_ Γ rv r x0 l r1 s.1 s.2:=by
 refine bk ?_
 rintro⟨l3,k1⟩ z_ h hI hE;simp only[dy,az,an,aq]at h;rcases h with⟨ij,x2,kH,nk,h⟩|⟨ij,h⟩
 ·exact gn 11 [5,6,7,11,12] [3,1] [nL aa.enc r1,bT ij,cE aa.enc kH,oO (Eq.refl ([(aa.mk x2.IK (cM ct r))].map aa.enc).length),aO aa.enc nk] (hI h)
 ·exact gn 5 [5,6,7] [0,1] [nL aa.enc r1,bF ij] (hE h)
theorem CV(Γ:bn)(rv:List aa){r x0 l}:∀⦃s:List aa×Int⦄ ⦃e:List aa⦄,aK (fun s=>dz r x0 l s.1 s.2) s=some e→CU Γ rv r x0 l e→Ea Γ rv r x0 l s.1 s.2:=by
 refine bk ?_
 rintro⟨l6,k2⟩ z_ h hI hE;simp only[dz,az,an,aq]at h;rcases h with⟨vF,x3,va,r2,BQ,⟨Et,r3,PU,⟨Jh,⟨MG,x4,HG,⟨Ve,T2,h⟩|⟨Ve,h⟩⟩|⟨MG,h⟩⟩|⟨Jh,YP,h⟩⟩|⟨Et,YQ,h⟩⟩|⟨vF,h⟩
 ·exact gn 16 [5,6,7,13] [4,1] [nL aB.enc x0.eU,bT vF,cE aB.enc va,hH (.draw 26 []),cC (hZ BQ),rp 3 (nF Et),cC (hZ PU),rp 2 (nF Et),rp 3 (nF Jh),rp 7 (bT MG),cE aB.enc HG,rp 3 (bT MG),nF Jh,bT MG,nF Jh,bT Ve,oO (Eq.refl ([(aa.mk 2 (cM ct r))].map aa.enc).length),aO aa.enc T2] (hI h)
 ·exact gn 16 [5,6,7,13] [0,1] [nL aB.enc x0.eU,bT vF,cE aB.enc va,hH (.draw 26 []),cC (hZ BQ),rp 3 (nF Et),cC (hZ PU),rp 2 (nF Et),rp 3 (nF Jh),rp 7 (bT MG),cE aB.enc HG,rp 3 (bT MG),nF Jh,bT MG,nF Jh,bF Ve] (hI h)
 ·exact gn 16 [5,6,7,13] [0,1] [nL aB.enc x0.eU,bT vF,cE aB.enc va,hH (.draw 26 []),cC (hZ BQ),rp 3 (nF Et),cC (hZ PU),rp 2 (nF Et),rp 3 (nF Jh),rp 10 (bF MG),nF Jh,bF MG,nF Jh,fF] (hI h)
 ·exact gn 16 [5,6,7,13] [4,1] [nL aB.enc x0.eU,bT vF,cE aB.enc va,hH (.draw 26 []),cC (hZ BQ),rp 3 (nF Et),cC (hZ PU),rp 2 (nF Et),rp 3 (nT Jh),rp 10 kF,rp 2 (nT Jh),tT,oO (Eq.refl ([(aa.mk 2 (cM ct r))].map aa.enc).length),aO aa.enc YP] (hI h)
 ·exact gn 16 [5,6,7,13] [4,1] [nL aB.enc x0.eU,bT vF,cE aB.enc va,hH (.draw 26 []),cC (hZ BQ),rp 5 (nT Et),tT,tT,tT,rp 10 kF,tT,tT,tT,oO (Eq.refl ([(aa.mk 2 (cM ct r))].map aa.enc).length),aO aa.enc YQ] (hI h)
 ·exact gn 5 [5] [0] [nL aB.enc x0.eU,bF vF] (hE h)
theorem vK(Γ:bn)(rv:List aa){r x0 l l5}(h:fE r x0 l l5=some rv):fv Γ rv ⟨[.c 8191],⟨192,[vO 5 0 2 l5 aa.enc,vS 6 (cM ct r),vP 7 1 6],[oS 2 104 l5 aa.enc,oX 6 59 (aw.enc x0)]⟩⟩:=by
 simp only[fE,az,an,aq]at h;obtain⟨l7,Ul,h⟩:=h;refine gn 5 [5,6,7,13] [0,1] [] (CV Γ rv Ul ?_);obtain rfl:=oK h;exact gr 2 [] [hW 4,hH (.kX 0),rp 3 (eL l7 aa.enc)]
theorem vJ(Γ:bn)(rv:List aa){r x0 l l2}(h:gg r x0 l l2=some rv):fv Γ rv ⟨[.c 1023],⟨192,[vO 5 0 2 l2 aa.enc,vS 6 (cM ct r),vP 7 1 6],[oS 2 104 l2 aa.enc,oX 6 59 (aw.enc x0)]⟩⟩:=by
 simp only[gg,az,an,aq]at h;obtain⟨r1,gu,l4,pc,h⟩:=h;refine gn 7 [5,6,7,11,12] [0,1] [cC (vX gu)] (CT Γ rv pc ?_);rcases h with⟨sG,ti,h⟩|⟨sG,h⟩
 ·exact gn 5 [5,6,7] [3,1] [nL aB.enc x0.eU,bT sG,oO (Eq.refl ([(aa.mk 4 (cM ct r))].map aa.enc).length),aO aa.enc ti] (vK Γ rv h)
 ·exact gn 5 [5,6,7] [0,1] [nL aB.enc x0.eU,bF sG] (vK Γ rv h)
theorem vH(Γ:bn)(rv:List aa){n i r x0 l l1}(h:gf n i r x0 l l1=some rv):fv Γ rv ⟨[.c 127],⟨192,[vI 1 i,vP 2 0 2,vO 5 1 2 l1 aa.enc,vS 6 (cM ct r),vP 7 2 6],[oX 2 25 (ak.enc n),oS 2 104 l1 aa.enc,oX 6 59 (aw.enc x0)]⟩⟩:=by
 simp only[gf,az,an,aq]at h;obtain⟨te,h9,h⟩:=h;refine gn 7 [1,2,5,6,7,8,9] [0,1,2] [] (CQ Γ rv h9 ?_);rcases h with⟨dN,gq,h⟩|⟨dN,h⟩
 ·exact gn 5 [5,6,7] [3,1] [bT dN,oO (Eq.refl ([(aa.mk 6 (cM ct r))].map aa.enc).length),aO aa.enc gq] (vJ Γ rv h)
 ·exact gn 5 [5,6,7] [0,1] [bF dN] (vJ Γ rv h)
theorem vG(Γ:bn)(rv:List aa){n i r x0 l}(h:gb n i r x0 l=some rv):fv Γ rv ⟨[.c 63],⟨192,[vI 1 i,vP 2 0 2,vO 5 1 2 l aa.enc,vS 6 (cM ct r),vP 7 2 6],[oX 2 25 (ak.enc n),oS 2 104 l aa.enc,oX 6 59 (aw.enc x0)]⟩⟩:=by
 simp only[gb,az,an,aq]at h;rcases h with⟨h5,h6,h⟩|⟨h5,h⟩
 ·exact gn 5 [1,2,5,6,7] [0,4,2] [rp 18 hP,rp 2 (oI ((aT x0.aj 0)=false)),oR True ((aT x0.aj 0)=false),rp 2 (oI (((aT x0.aj 0)||(cQ x0.aj 7))=false)),oR True (((aT x0.aj 0)||(cQ x0.aj 7))=false),rp 2 (oI ((((aT x0.aj 0)||(cQ x0.aj 7))||(aT x0.cT 0))=false)),oR True ((((aT x0.aj 0)||(cQ x0.aj 7))||(aT x0.cT 0))=false),rp 4 (oI (((((aT x0.aj 0)||(cQ x0.aj 7))||(aT x0.cT 0))||(cQ x0.cT 10000))=false)),oR True (((((aT x0.aj 0)||(cQ x0.aj 7))||(aT x0.cT 0))||(cQ x0.cT 10000))=false),bT h5,oO (Eq.refl ([(aa.mk 2 (cM ct r))].map aa.enc).length),aO aa.enc h6] (vH Γ rv h)
 ·exact gn 5 [1,2,5,6,7] [0,1,2] [rp 18 hP,rp 2 (oI ((aT x0.aj 0)=false)),oR True ((aT x0.aj 0)=false),rp 2 (oI (((aT x0.aj 0)||(cQ x0.aj 7))=false)),oR True (((aT x0.aj 0)||(cQ x0.aj 7))=false),rp 2 (oI ((((aT x0.aj 0)||(cQ x0.aj 7))||(aT x0.cT 0))=false)),oR True ((((aT x0.aj 0)||(cQ x0.aj 7))||(aT x0.cT 0))=false),rp 4 (oI (((((aT x0.aj 0)||(cQ x0.aj 7))||(aT x0.cT 0))||(cQ x0.cT 10000))=false)),oR True (((((aT x0.aj 0)||(cQ x0.aj 7))||(aT x0.cT 0))||(cQ x0.cT 10000))=false),bF h5] (vH Γ rv h)
theorem F7{n i}{rv:List aa}(h:jZ n i=some rv):dF prog 64 [.agg (ak.enc n),.one (lI i)] [] (one (lL 2 rv aa.enc)) []:=by
 refine aU func64 fun Γ=>?_
 simp only[jZ,az,an,aq]at h;rcases h with⟨r,h0,h1,x0,h2,⟨h3,h4,h⟩|⟨h3,h⟩⟩
 ·exact gn 13 [1,2,5,6,7] [0,3,1] [cC (fQ h0),oO (h1),cE aw.enc h2,rp 5 hP,rp 3 (oI ((aT x0.aE 0)=false)),nL dC n.aD,rp 11 hP,rp 2 (oI ((aT x0.aE 0)=false)),oR True ((aT x0.aE 0)=false),rp 2 (oI (((aT x0.aE 0)||(bZ x0.aE (aC n.aD)))=false)),oR True (((aT x0.aE 0)||(bZ x0.aE (aC n.aD)))=false),rp 3 (oI ((((aT x0.aE 0)||(bZ x0.aE (aC n.aD)))||(aT x0.dE 0))=false)),nL dC n.aD,hP,hP,rp 2 (oI ((((aT x0.aE 0)||(bZ x0.aE (aC n.aD)))||(aT x0.dE 0))=false)),oR True ((((aT x0.aE 0)||(bZ x0.aE (aC n.aD)))||(aT x0.dE 0))=false),bT h3,oO (Eq.refl ([(aa.mk 11 (cM ct r))].map aa.enc).length),aN (l:=([(aa.mk 11 (cM ct r))]:List aa)) aa.enc h4] (vG Γ rv h)
 ·exact gn 13 [1,2,5,6,7] [0,2,1] [cC (fQ h0),oO (h1),cE aw.enc h2,rp 5 hP,rp 3 (oI ((aT x0.aE 0)=false)),nL dC n.aD,rp 11 hP,rp 2 (oI ((aT x0.aE 0)=false)),oR True ((aT x0.aE 0)=false),rp 2 (oI (((aT x0.aE 0)||(bZ x0.aE (aC n.aD)))=false)),oR True (((aT x0.aE 0)||(bZ x0.aE (aC n.aD)))=false),rp 3 (oI ((((aT x0.aE 0)||(bZ x0.aE (aC n.aD)))||(aT x0.dE 0))=false)),nL dC n.aD,hP,hP,rp 2 (oI ((((aT x0.aE 0)||(bZ x0.aE (aC n.aD)))||(aT x0.dE 0))=false)),oR True ((((aT x0.aE 0)||(bZ x0.aE (aC n.aD)))||(aT x0.dE 0))=false),bF h3,hW 1,hH (.lP 5 2 104)] (vG Γ rv h)
def il(Γ:bn)(rv:List aa)(cf:Cf):Prop:=Go prog f63 [] Γ (one (lO 0 2 rv aa.enc)) [oS 2 104 rv aa.enc] cf
def yV(Γ:bn)(rv:List aa)(n:ak)(l l1:List aa)(i:Int)(r:ByteArray)(o_:Bool)(k:Int):Prop:=il Γ rv ⟨[.c 250484,.l 250484,.b 2,.c 31311,.b 1,.c 979,.l 244,.b 0,.c 31],⟨64,[vP 1 0 2,vO 3 1 2 l1 aa.enc,vI 4 i,vS 5 (cM e7 r),vB 6 o_,vI 7 k],[oX 2 25 (ak.enc n),oS 2 104 l1 aa.enc]⟩⟩
def xR(Γ:bn)(rv:List aa)(n:ak)(l l1:List aa)(i:Int)(r:ByteArray)(te:Bool):Prop:=il Γ rv ⟨[.c 31311,.b 1,.c 979,.l 244,.b 0,.c 31],⟨64,[vP 1 0 2,vO 3 1 2 l1 aa.enc,vI 4 i,vS 5 (cM e7 r),vB 6 te],[oX 2 25 (ak.enc n),oS 2 104 l1 aa.enc]⟩⟩
def yU(Γ:bn)(rv:List aa)(n:ak)(l l1:List aa)(i:Int):Prop:=il Γ rv ⟨[.c 244,.l 244,.b 0,.c 31],⟨64,[vP 1 0 2,vO 3 1 2 l1 aa.enc,vI 4 i],[oX 2 25 (ak.enc n),oS 2 104 l1 aa.enc]⟩⟩
def xP(Γ:bn)(rv:List aa)(n:ak)(l l2:List aa):Prop:=il Γ rv ⟨[.c 31],⟨64,[vO 3 0 2 l2 aa.enc],[oS 2 104 l2 aa.enc]⟩⟩
theorem xS(Γ:bn)(rv:List aa){n l l1 i r}:∀⦃s:Bool×Int⦄ ⦃e:Bool⦄,aK (fun s=>cH n l l1 i r s.1 s.2) s=some e→xR Γ rv n l l1 i r e→yV Γ rv n l l1 i r s.1 s.2:=by
 refine bk ?_
 rintro⟨o_,k⟩ z_ h hI hE;simp only[cH,az,an,aq]at h;rcases h with⟨h8,⟨h9,h⟩|⟨h9,x1,dN,x2,gq,h⟩⟩|⟨h8,h⟩
 ·exact gn 11 [1,3,4,5,6,7] [0,1] [bT h8,hH (.draw 14 []),rp 12 (bT h9)] (hI h)
 ·exact gn 11 [1,3,4,5,6,7] [0,1] [bT h8,hH (.draw 14 []),rp 4 (bF h9),cE dC dN,rp 5 (bF h9),cE dC gq,rp 3 (bF h9)] (hI h)
 ·exact gn 5 [1,3,4,5,6] [0,1] [bF h8] (hE h)
theorem xQ(Γ:bn)(rv:List aa){n l}:∀⦃s:List aa×Int⦄ ⦃e:List aa⦄,aK (fun s=>cG n l s.1 s.2) s=some e→xP Γ rv n l e→yU Γ rv n l s.1 s.2:=by
 refine bk ?_
 rintro⟨l1,i⟩ z_ h hI hE;simp only[cG,az,an,aq]at h;rcases h with⟨h2,r,h3,h4,x0,h5,r1,h6,⟨h7,te,gu,h⟩|⟨h7,nk,h⟩⟩|⟨h2,h⟩
 ·refine gn 21 [1,3,4,5,6,7] [0,1] [nL dC n.aD,bT h2,cC (fQ h3),oO (h4),cE dC h5,cC (mS h6),nF h7] (xS Γ rv gu ?_);rcases h with⟨ij,kH,h⟩|⟨ij,h⟩
  ·exact gn 7 [1,3,4] [0,3] [bT ij,oO (Eq.refl ([(aa.mk 6 (cM e7 r))].map aa.enc).length),aO aa.enc kH] (hI h)
  ·exact gn 7 [1,3,4] [0,1] [bF ij] (hI h)
 ·exact gn 18 [1,3,4] [0,3] [nL dC n.aD,bT h2,cC (fQ h3),oO (h4),cE dC h5,cC (mS h6),nT h7,oO (Eq.refl ([(aa.mk 5 (cM e7 r))].map aa.enc).length),aO aa.enc nk] (hI h)
 ·exact gn 5 [3] [1] [nL dC n.aD,bF h2] (hE h)
theorem qL(Γ:bn)(rv:List aa){n l}(h:fc n l=some rv):il Γ rv ⟨[.c 15],⟨64,[vP 1 0 2,vO 3 1 2 l aa.enc],[oX 2 25 (ak.enc n),oS 2 104 l aa.enc]⟩⟩:=by
 simp only[fc,az,an,aq]at h;obtain⟨l2,pc,h⟩:=h;refine gn 5 [1,3,4] [0,1] [] (xQ Γ rv pc ?_);obtain rfl:=oK h;exact gr 2 [0] []
theorem sQ{n}{rv:List aa}(h:fN n=some rv):dF prog 63 [.agg (ak.enc n)] [] (one (lO 0 2 rv aa.enc)) [oS 2 104 rv aa.enc]:=by
 refine aU func63 fun Γ=>?_
 simp only[fN,az,an,aq]at h;rcases h with⟨h0,h1,h⟩|⟨h0,h⟩
 ·exact gn 9 [1,3] [0,2] [nL dC n.aD,bT h0,oO (Eq.refl ([(aa.mk 4 iy)].map aa.enc).length),aN (l:=([(aa.mk 4 iy)]:List aa)) aa.enc h1] (qL Γ rv h)
 ·exact gn 9 [1,3] [0,1] [nL dC n.aD,bF h0,hW 1,hH (.lP 3 2 104)] (qL Γ rv h)
def wR(Γ:bn)(rv:List aa)(cf:Cf):Prop:=Go prog f40 [] Γ (one (lL 2 rv aa.enc)) [] cf
def HR(Γ:bn)(rv:List aa)(n:ak)(l l1:List aa)(i:Int):Prop:=wR Γ rv ⟨[.c 244,.l 244,.b 0,.c 31],⟨28,[vP 1 0 2,vO 3 1 2 l1 aa.enc,vI 4 i],[oX 2 25 (ak.enc n),oS 2 104 l1 aa.enc]⟩⟩
def F5(Γ:bn)(rv:List aa)(n:ak)(l l2:List aa):Prop:=wR Γ rv ⟨[.c 31],⟨28,[vO 3 0 2 l2 aa.enc],[oS 2 104 l2 aa.enc]⟩⟩
theorem F6(Γ:bn)(rv:List aa){n l}:∀⦃s:List aa×Int⦄ ⦃e:List aa⦄,aK (fun s=>eB n l s.1 s.2) s=some e→F5 Γ rv n l e→HR Γ rv n l s.1 s.2:=by
 refine bk ?_
 rintro⟨l1,i⟩ z_ h hI hE;simp only[eB,az,an,aq]at h;rcases h with⟨h3,r1,h4,h5,h⟩|⟨h3,h⟩
 ·exact gn 11 [1,3,4] [0,2] [nL aw.enc n.bj,bT h3,cC (F7 h4),aO aa.enc h5] (hI h)
 ·exact gn 5 [3] [1] [nL aw.enc n.bj,bF h3] (hE h)
theorem xO(Γ:bn)(rv:List aa){n l}(h:jY n l=some rv):wR Γ rv ⟨[.c 15],⟨28,[vP 1 0 2,vO 3 1 2 l aa.enc],[oX 2 25 (ak.enc n),oS 2 104 l aa.enc]⟩⟩:=by
 simp only[jY,az,an,aq]at h;obtain⟨l2,h6,h⟩:=h;refine gn 5 [1,3,4] [0,1] [] (F6 Γ rv h6 ?_);obtain rfl:=oK h;exact gr 2 [] [hW 4,hH (.kX 0),rp 3 (eL l2 aa.enc)]
theorem Lk{n}{rv:List aa}(h:jM n=some rv):dF prog 40 [.agg (ak.enc n)] [] (one (lL 2 rv aa.enc)) []:=by
 refine aU func40 fun Γ=>?_
 simp only[jM,az,an,aq]at h;rcases h with⟨r,h0,⟨h1,h2,h⟩|⟨h1,h⟩⟩
 ·exact gn 9 [1,3] [0,3] [cC (sQ h0),nL aw.enc n.bj,bT h1,oO (Eq.refl ([(aa.mk 4 qZ)].map aa.enc).length),aO aa.enc h2] (xO Γ rv h)
 ·exact gn 9 [1,3] [0,1] [cC (sQ h0),nL aw.enc n.bj,bF h1] (xO Γ rv h)
theorem aJ{n lo hi}{rv:Bool}(h:cr n lo hi=some rv):dF prog 65 [.one (lI n),.one (lI lo),.one (lI hi)] [] (one (.bool rv)) []:=by
 refine aU func65 fun Γ=>?_
 simp only[cr,az,an,aq]at h;cases h;exact gr 4 [] [rp 4 hP,rp 2 (oI ((bZ n lo)=true)),oR True ((bZ n lo)=true)]
theorem pT{l}{rv:Int}(h:kJ l=some rv):dF prog 43 [.one (lL 14 l ag.enc)] [] (one (lI rv)) []:=by
 refine aU func43 fun Γ=>?_
 simp only[kJ,az,an,aq]at h;rcases h with⟨h0,h⟩|⟨h0,x0,h1,h⟩
 ·obtain rfl:=oK h;exact gr 8 [] [nL ag.enc l,bT h0]
 ·cases h;exact gr 9 [] [nL ag.enc l,bF h0,cE ag.enc h1,nL ax x0.cap]
def B2(Γ:bn)(rv:Bool)(cf:Cf):Prop:=Go prog f96 [] Γ (one (.bool rv)) [] cf
def HY(Γ:bn)(rv:Bool)(l:List ag)(di:Int)(name:ByteArray)(i:Int):Prop:=B2 Γ rv ⟨[.c 52,.l 52,.b 0,.c 7],⟨20,[vL 0 14 l ag.enc,vI 1 di,vS 2 name,vI 7 i],[]⟩⟩
def Gb(Γ:bn)(rv:Bool)(l:List ag)(di:Int)(name:ByteArray):Prop:=B2 Γ rv ⟨[.c 7],⟨20,[],[]⟩⟩
theorem Gc(Γ:bn)(rv:Bool){l di name}:∀⦃s:Int⦄ ⦃e:(Unit)⊕(Bool)⦄,aK (fun s=>eC l di name s) s=some e→jf e (fun e=>Gb Γ rv l di name) (fun e=>e=rv)→HY Γ rv l di name s:=by
 refine bk ?_
 intro i z_ h hI hE;simp only[eC,az,an,aq]at h;rcases h with⟨h0,x0,h1,⟨h2,h⟩|⟨h2,h⟩⟩|⟨h0,h⟩
 ·obtain rfl:=(hE h:_=rv);exact gr 12 [] [bT h0,cE ag.enc h1,bT h2]
 ·exact gn 14 [0,1,2,7] [] [bT h0,cE ag.enc h1,bF h2] (hI h)
 ·exact gn 5 [] [] [bF h0] (hE h)
theorem AQ{l di name}{rv:Bool}(h:mT l di name=some rv):dF prog 96 [.one (lL 14 l ag.enc),.one (lI di),.one (.str name)] [] (one (.bool rv)) []:=by
 refine aU func96 fun Γ=>?_
 simp only[mT,az,an,aq]at h;obtain⟨e0,h3,h⟩:=h;refine gn 7 [0,1,2,7] [] [] (Gc Γ rv h3 ?_);rcases e0 with e0|r
 ·obtain rfl:=oK h;exact gr 2 [] []
 ·exact oK h
def y8(Γ:bn)(rv:Bool)(cf:Cf):Prop:=Go prog f97 [] Γ (one (.bool rv)) [] cf
def Eb(Γ:bn)(rv:Bool)(l:List Int)(i:Int):Prop:=y8 Γ rv ⟨[.c 116,.l 116,.b 0,.c 15],⟨28,[vL 0 1 l ax,vI 5 i],[]⟩⟩
def CW(Γ:bn)(rv:Bool)(l:List Int):Prop:=y8 Γ rv ⟨[.c 15],⟨28,[],[]⟩⟩
theorem CX(Γ:bn)(rv:Bool){l}:∀⦃s:Int⦄ ⦃e:(Unit)⊕(Bool)⦄,aK (fun s=>dn l s) s=some e→jf e (fun e=>CW Γ rv l) (fun e=>e=rv)→Eb Γ rv l s:=by
 refine bk ?_
 intro i z_ h hI hE;simp only[dn,az,an,aq]at h;rcases h with⟨h2,x0,h3,r1,h4,⟨h5,h⟩|⟨h5,h⟩⟩|⟨h2,h⟩
 ·exact gn 14 [0,5] [] [nL ax l,bT h2,cE ax h3,cC (aJ h4),nF h5] (hI h)
 ·obtain rfl:=(hE h:_=rv);exact gr 12 [] [nL ax l,bT h2,cE ax h3,cC (aJ h4),nT h5]
 ·exact gn 5 [] [] [nL ax l,bF h2] (hE h)
theorem oP{l bL}{rv:Bool}(h:iC l bL=some rv):dF prog 97 [.one (lL 1 l ax),.one (lI bL)] [] (one (.bool rv)) []:=by
 refine aU func97 fun Γ=>?_
 simp only[iC,az,an,aq]at h;rcases h with⟨r,h0,⟨h1,h⟩|⟨h1,e0,h6,h⟩⟩
 ·obtain rfl:=oK h;exact gr 8 [] [nL ax l,cC (aJ h0),hP,hP,oI ((!r)=false),nL ax l,hP,hP,hP,rp 2 (oI ((!r)=false)),oR True ((!r)=false),bT h1]
 ·refine gn 12 [0,5] [] [nL ax l,cC (aJ h0),hP,hP,oI ((!r)=false),nL ax l,hP,hP,hP,rp 2 (oI ((!r)=false)),oR True ((!r)=false),bF h1] (CX Γ rv h6 ?_);rcases e0 with e0|r2
  ·obtain rfl:=oK h;exact gr 2 [] []
  ·exact oK h
def fw(Γ:bn)(rv:List Int)(cf:Cf):Prop:=Go prog f66 [] Γ (one (lL 1 rv ax)) [] cf
theorem x9(Γ:bn)(rv:List Int){x0 l8}(h:iK x0 l8=some rv):fw Γ rv ⟨[.c 4095],⟨125,[vP 7 0 14,vO 8 1 1 l8 ax],[oX 14 70 (ag.enc x0),oS 1 33 l8 ax]⟩⟩:=by
 simp only[iK,az,an,aq]at h;rcases h with⟨Ft,YQ,⟨Ul,XY,h32,⟨h33,Qp,h34,⟨YR,r14,h36,⟨h37,h⟩|⟨h37,YS,h⟩⟩|⟨YR,h39,h⟩⟩|⟨h33,h40,h⟩⟩|⟨Ul,h41,h⟩⟩
 ·obtain rfl:=oK h;exact gr 7 [] [cC (aJ YQ),rp 3 (nF Ul),cC (aJ h32),rp 2 (nF Ul),rp 3 (nF h33),cC (aJ h34),rp 2 (nF h33),rp 3 (nF YR),cC (aJ h36),rp 2 (nF YR),nF h37,hW 5,hH (.kX 1),rp 3 (eL l8 ax)]
 ·cases h;exact gr 7 [] [cC (aJ YQ),rp 3 (nF Ul),cC (aJ h32),rp 2 (nF Ul),rp 3 (nF h33),cC (aJ h34),rp 2 (nF h33),rp 3 (nF YR),cC (aJ h36),rp 2 (nF YR),nT h37,oO (Eq.refl ([2].map ax).length),aO ax YS,hW 5,hH (.kX 3),rp 4 (oO (Eq.refl ((l8++[2]).map ax).length))]
 ·cases h;exact gr 7 [] [cC (aJ YQ),rp 3 (nF Ul),cC (aJ h32),rp 2 (nF Ul),rp 3 (nF h33),cC (aJ h34),rp 2 (nF h33),rp 5 (nT YR),tT,oO (Eq.refl ([2].map ax).length),aO ax h39,hW 5,hH (.kX 3),rp 4 (oO (Eq.refl ((l8++[2]).map ax).length))]
 ·cases h;exact gr 7 [] [cC (aJ YQ),rp 3 (nF Ul),cC (aJ h32),rp 2 (nF Ul),rp 5 (nT h33),rp 6 tT,oO (Eq.refl ([2].map ax).length),aO ax h40,hW 5,hH (.kX 3),rp 4 (oO (Eq.refl ((l8++[2]).map ax).length))]
 ·cases h;exact gr 7 [] [cC (aJ YQ),rp 5 (nT Ul),rp 11 tT,oO (Eq.refl ([2].map ax).length),aO ax h41,hW 5,hH (.kX 3),rp 4 (oO (Eq.refl ((l8++[2]).map ax).length))]
theorem x8(Γ:bn)(rv:List Int){x0 l7}(h:iJ x0 l7=some rv):fw Γ rv ⟨[.c 2047],⟨125,[vP 7 0 14,vO 8 1 1 l7 ax],[oX 14 70 (ag.enc x0),oS 1 33 l7 ax]⟩⟩:=by
 simp only[iJ,az,an,aq]at h;rcases h with⟨r9,MG,⟨HG,Xf,Ve,⟨T2,h⟩|⟨T2,YP,h⟩⟩|⟨HG,h42,LD,h43,⟨ZW,r16,h45,⟨T3,r17,Vf,⟨XM,r18,h49,⟨ZX,h⟩|⟨ZX,h51,h⟩⟩|⟨XM,h52,h⟩⟩|⟨T3,XN,h⟩⟩|⟨ZW,h54,h⟩⟩⟩
 ·exact gn 5 [7,8] [0,1] [cC (aJ MG),rp 3 (nF HG),cC (aJ Ve),rp 2 (nF HG),nF T2] (x9 Γ rv h)
 ·exact gn 5 [7,8] [0,3] [cC (aJ MG),rp 3 (nF HG),cC (aJ Ve),rp 2 (nF HG),nT T2,oO (Eq.refl ([16].map ax).length),aO ax YP] (x9 Γ rv h)
 ·cases h;exact gr 12 [] [cC (aJ MG),rp 5 (nT HG),tT,oO (Eq.refl ([16].map ax).length),aO ax h42,cC (aJ h43),rp 3 (nF ZW),cC (aJ h45),rp 2 (nF ZW),rp 3 (nF T3),cC (aJ Vf),rp 2 (nF T3),rp 3 (nF XM),cC (aJ h49),rp 2 (nF XM),nF ZX,hW 5,hH (.kX 3),rp 4 (oO (Eq.refl ((l7++[16]).map ax).length))]
 ·cases h;exact gr 12 [] [cC (aJ MG),rp 5 (nT HG),tT,oO (Eq.refl ([16].map ax).length),aO ax h42,cC (aJ h43),rp 3 (nF ZW),cC (aJ h45),rp 2 (nF ZW),rp 3 (nF T3),cC (aJ Vf),rp 2 (nF T3),rp 3 (nF XM),cC (aJ h49),rp 2 (nF XM),nT ZX,oO (Eq.refl ([2].map ax).length),aO ax h51,hW 5,hH (.kX 5),rp 4 (oO (Eq.refl (((l7++[16])++[2]).map ax).length))]
 ·cases h;exact gr 12 [] [cC (aJ MG),rp 5 (nT HG),tT,oO (Eq.refl ([16].map ax).length),aO ax h42,cC (aJ h43),rp 3 (nF ZW),cC (aJ h45),rp 2 (nF ZW),rp 3 (nF T3),cC (aJ Vf),rp 2 (nF T3),rp 5 (nT XM),tT,oO (Eq.refl ([2].map ax).length),aO ax h52,hW 5,hH (.kX 5),rp 4 (oO (Eq.refl (((l7++[16])++[2]).map ax).length))]
 ·cases h;exact gr 12 [] [cC (aJ MG),rp 5 (nT HG),tT,oO (Eq.refl ([16].map ax).length),aO ax h42,cC (aJ h43),rp 3 (nF ZW),cC (aJ h45),rp 2 (nF ZW),rp 5 (nT T3),rp 6 tT,oO (Eq.refl ([2].map ax).length),aO ax XN,hW 5,hH (.kX 5),rp 4 (oO (Eq.refl (((l7++[16])++[2]).map ax).length))]
 ·cases h;exact gr 12 [] [cC (aJ MG),rp 5 (nT HG),tT,oO (Eq.refl ([16].map ax).length),aO ax h42,cC (aJ h43),rp 5 (nT ZW),rp 11 tT,oO (Eq.refl ([2].map ax).length),aO ax h54,hW 5,hH (.kX 5),rp 4 (oO (Eq.refl (((l7++[16])++[2]).map ax).length))]
theorem xZ(Γ:bn)(rv:List Int){x0 l6}(h:iI x0 l6=some rv):fw Γ rv ⟨[.c 1023],⟨125,[vP 7 0 14,vO 8 1 1 l6 ax],[oX 14 70 (ag.enc x0),oS 1 33 l6 ax]⟩⟩:=by
 simp only[iI,az,an,aq]at h;rcases h with⟨r8,Et,⟨PU,Jh,h⟩|⟨PU,h⟩⟩
 ·exact gn 5 [7,8] [0,3] [cC (aJ Et),rp 4 hP,rp 2 (oI ((!r8)=false)),oR True ((!r8)=false),bT PU,oO (Eq.refl ([15].map ax).length),aO ax Jh] (x8 Γ rv h)
 ·exact gn 5 [7,8] [0,1] [cC (aJ Et),rp 4 hP,rp 2 (oI ((!r8)=false)),oR True ((!r8)=false),bF PU] (x8 Γ rv h)
theorem xY(Γ:bn)(rv:List Int){x0 l5}(h:iH x0 l5=some rv):fw Γ rv ⟨[.c 511],⟨125,[vP 7 0 14,vO 8 1 1 l5 ax],[oX 14 70 (ag.enc x0),oS 1 33 l5 ax]⟩⟩:=by
 simp only[iH,az,an,aq]at h;rcases h with⟨r7,vF,⟨va,h⟩|⟨va,BQ,h⟩⟩
 ·exact gn 5 [7,8] [0,1] [cC (aJ vF),nF va] (xZ Γ rv h)
 ·exact gn 5 [7,8] [0,3] [cC (aJ vF),nT va,oO (Eq.refl ([18].map ax).length),aO ax BQ] (xZ Γ rv h)
theorem xX(Γ:bn)(rv:List Int){l x0 l4}(h:iG l x0 l4=some rv):fw Γ rv ⟨[.c 255],⟨125,[vL 1 14 l ag.enc,vP 7 0 14,vO 8 1 1 l4 ax],[oX 14 70 (ag.enc x0),oS 1 33 l4 ax]⟩⟩:=by
 simp only[iG,az,an,aq]at h;rcases h with⟨r5,nk,r6,pc,⟨sG,h⟩|⟨sG,ti,h⟩⟩
 ·exact gn 5 [7,8] [0,1] [hH (.draw 6 []),cC (pT nk),cC (oP pc),nF sG] (xY Γ rv h)
 ·exact gn 5 [7,8] [0,3] [hH (.draw 6 []),cC (pT nk),cC (oP pc),nT sG,oO (Eq.refl ([17].map ax).length),aO ax ti] (xY Γ rv h)
theorem xf(Γ:bn)(rv:List Int){x0 MJ}(h:qO x0 MJ=some rv):fw Γ rv ⟨[.c 4095],⟨125,[vP 7 0 14,vO 8 1 1 MJ ax],[oX 14 70 (ag.enc x0),oS 1 33 MJ ax]⟩⟩:=by
 simp only[qO,az,an,aq]at h;rcases h with⟨r25,h71,⟨h72,r26,h73,⟨h74,r27,h75,⟨h76,r28,h77,⟨h78,h⟩|⟨h78,h79,h⟩⟩|⟨h76,h80,h⟩⟩|⟨h74,h81,h⟩⟩|⟨h72,h82,h⟩⟩
 ·obtain rfl:=oK h;exact gr 7 [] [cC (aJ h71),rp 3 (nF h72),cC (aJ h73),rp 2 (nF h72),rp 3 (nF h74),cC (aJ h75),rp 2 (nF h74),rp 3 (nF h76),cC (aJ h77),rp 2 (nF h76),nF h78,hW 5,hH (.kX 1),rp 3 (eL MJ ax)]
 ·cases h;exact gr 7 [] [cC (aJ h71),rp 3 (nF h72),cC (aJ h73),rp 2 (nF h72),rp 3 (nF h74),cC (aJ h75),rp 2 (nF h74),rp 3 (nF h76),cC (aJ h77),rp 2 (nF h76),nT h78,oO (Eq.refl ([2].map ax).length),aO ax h79,hW 5,hH (.kX 3),rp 4 (oO (Eq.refl ((MJ++[2]).map ax).length))]
 ·cases h;exact gr 7 [] [cC (aJ h71),rp 3 (nF h72),cC (aJ h73),rp 2 (nF h72),rp 3 (nF h74),cC (aJ h75),rp 2 (nF h74),rp 5 (nT h76),tT,oO (Eq.refl ([2].map ax).length),aO ax h80,hW 5,hH (.kX 3),rp 4 (oO (Eq.refl ((MJ++[2]).map ax).length))]
 ·cases h;exact gr 7 [] [cC (aJ h71),rp 3 (nF h72),cC (aJ h73),rp 2 (nF h72),rp 5 (nT h74),rp 6 tT,oO (Eq.refl ([2].map ax).length),aO ax h81,hW 5,hH (.kX 3),rp 4 (oO (Eq.refl ((MJ++[2]).map ax).length))]
 ·cases h;exact gr 7 [] [cC (aJ h71),rp 5 (nT h72),rp 11 tT,oO (Eq.refl ([2].map ax).length),aO ax h82,hW 5,hH (.kX 3),rp 4 (oO (Eq.refl ((MJ++[2]).map ax).length))]
theorem xe(Γ:bn)(rv:List Int){x0 NC}(h:qN x0 NC=some rv):fw Γ rv ⟨[.c 2047],⟨125,[vP 7 0 14,vO 8 1 1 NC ax],[oX 14 70 (ag.enc x0),oS 1 33 NC ax]⟩⟩:=by
 simp only[qN,az,an,aq]at h;rcases h with⟨r23,h66,⟨ZY,r24,h68,⟨h69,h⟩|⟨h69,h70,h⟩⟩|⟨ZY,h83,r29,h84,⟨h85,r30,h86,⟨h87,r31,h88,⟨h89,r32,h90,⟨h91,h⟩|⟨h91,h92,h⟩⟩|⟨h89,h93,h⟩⟩|⟨h87,h94,h⟩⟩|⟨h85,h95,h⟩⟩⟩
 ·exact gn 5 [7,8] [0,1] [cC (aJ h66),rp 3 (nF ZY),cC (aJ h68),rp 2 (nF ZY),nF h69] (xf Γ rv h)
 ·exact gn 5 [7,8] [0,3] [cC (aJ h66),rp 3 (nF ZY),cC (aJ h68),rp 2 (nF ZY),nT h69,oO (Eq.refl ([16].map ax).length),aO ax h70] (xf Γ rv h)
 ·cases h;exact gr 12 [] [cC (aJ h66),rp 5 (nT ZY),tT,oO (Eq.refl ([16].map ax).length),aO ax h83,cC (aJ h84),rp 3 (nF h85),cC (aJ h86),rp 2 (nF h85),rp 3 (nF h87),cC (aJ h88),rp 2 (nF h87),rp 3 (nF h89),cC (aJ h90),rp 2 (nF h89),nF h91,hW 5,hH (.kX 3),rp 4 (oO (Eq.refl ((NC++[16]).map ax).length))]
 ·cases h;exact gr 12 [] [cC (aJ h66),rp 5 (nT ZY),tT,oO (Eq.refl ([16].map ax).length),aO ax h83,cC (aJ h84),rp 3 (nF h85),cC (aJ h86),rp 2 (nF h85),rp 3 (nF h87),cC (aJ h88),rp 2 (nF h87),rp 3 (nF h89),cC (aJ h90),rp 2 (nF h89),nT h91,oO (Eq.refl ([2].map ax).length),aO ax h92,hW 5,hH (.kX 5),rp 4 (oO (Eq.refl (((NC++[16])++[2]).map ax).length))]
 ·cases h;exact gr 12 [] [cC (aJ h66),rp 5 (nT ZY),tT,oO (Eq.refl ([16].map ax).length),aO ax h83,cC (aJ h84),rp 3 (nF h85),cC (aJ h86),rp 2 (nF h85),rp 3 (nF h87),cC (aJ h88),rp 2 (nF h87),rp 5 (nT h89),tT,oO (Eq.refl ([2].map ax).length),aO ax h93,hW 5,hH (.kX 5),rp 4 (oO (Eq.refl (((NC++[16])++[2]).map ax).length))]
 ·cases h;exact gr 12 [] [cC (aJ h66),rp 5 (nT ZY),tT,oO (Eq.refl ([16].map ax).length),aO ax h83,cC (aJ h84),rp 3 (nF h85),cC (aJ h86),rp 2 (nF h85),rp 5 (nT h87),rp 6 tT,oO (Eq.refl ([2].map ax).length),aO ax h94,hW 5,hH (.kX 5),rp 4 (oO (Eq.refl (((NC++[16])++[2]).map ax).length))]
 ·cases h;exact gr 12 [] [cC (aJ h66),rp 5 (nT ZY),tT,oO (Eq.refl ([16].map ax).length),aO ax h83,cC (aJ h84),rp 5 (nT h85),rp 11 tT,oO (Eq.refl ([2].map ax).length),aO ax h95,hW 5,hH (.kX 5),rp 4 (oO (Eq.refl (((NC++[16])++[2]).map ax).length))]
theorem xd(Γ:bn)(rv:List Int){x0 P9}(h:qM x0 P9=some rv):fw Γ rv ⟨[.c 1023],⟨125,[vP 7 0 14,vO 8 1 1 P9 ax],[oX 14 70 (ag.enc x0),oS 1 33 P9 ax]⟩⟩:=by
 simp only[qM,az,an,aq]at h;rcases h with⟨r22,Vg,⟨h64,h65,h⟩|⟨h64,h⟩⟩
 ·exact gn 5 [7,8] [0,3] [cC (aJ Vg),rp 4 hP,rp 2 (oI ((!r22)=false)),oR True ((!r22)=false),bT h64,oO (Eq.refl ([15].map ax).length),aO ax h65] (xe Γ rv h)
 ·exact gn 5 [7,8] [0,1] [cC (aJ Vg),rp 4 hP,rp 2 (oI ((!r22)=false)),oR True ((!r22)=false),bF h64] (xe Γ rv h)
theorem x_(Γ:bn)(rv:List Int){x0 l9}(h:rF x0 l9=some rv):fw Γ rv ⟨[.c 511],⟨125,[vP 7 0 14,vO 8 1 1 l9 ax],[oX 14 70 (ag.enc x0),oS 1 33 l9 ax]⟩⟩:=by
 simp only[rF,az,an,aq]at h;rcases h with⟨r21,h60,⟨h61,h⟩|⟨h61,h62,h⟩⟩
 ·exact gn 5 [7,8] [0,1] [cC (aJ h60),nF h61] (xd Γ rv h)
 ·exact gn 5 [7,8] [0,3] [cC (aJ h60),nT h61,oO (Eq.refl ([18].map ax).length),aO ax h62] (xd Γ rv h)
theorem xW(Γ:bn)(rv:List Int){n l x0 l3}(h:iF n l x0 l3=some rv):fw Γ rv ⟨[.c 127],⟨125,[vL 1 14 l ag.enc,vP 3 0 2,vP 7 1 14,vO 8 2 1 l3 ax],[oX 2 25 (ak.enc n),oX 14 70 (ag.enc x0),oS 1 33 l3 ax]⟩⟩:=by
 simp only[iF,az,an,aq]at h;rcases h with⟨r3,dN,⟨gq,r4,gu,⟨ij,h⟩|⟨ij,kH,h⟩⟩|⟨gq,Um,J5,h56,r20,h57,⟨h58,h⟩|⟨h58,h59,h⟩⟩⟩
 ·exact gn 5 [1,7,8] [1,2] [nL dC n.aD,cC (aJ dN),rp 5 (nF gq),nL dC n.aD,rp 2 (nF gq),cC (aJ gu),rp 2 (nF gq),nF ij] (xX Γ rv h)
 ·exact gn 5 [1,7,8] [1,4] [nL dC n.aD,cC (aJ dN),rp 5 (nF gq),nL dC n.aD,rp 2 (nF gq),cC (aJ gu),rp 2 (nF gq),nT ij,oO (Eq.refl ([11].map ax).length),aO ax kH] (xX Γ rv h)
 ·exact gn 10 [7,8] [1,4] [nL dC n.aD,cC (aJ dN),rp 9 (nT gq),tT,oO (Eq.refl ([11].map ax).length),aO ax Um,hH (.draw 6 []),cC (pT h56),cC (oP h57),nF h58] (x_ Γ rv h)
 ·exact gn 10 [7,8] [1,6] [nL dC n.aD,cC (aJ dN),rp 9 (nT gq),tT,oO (Eq.refl ([11].map ax).length),aO ax Um,hH (.draw 6 []),cC (pT h56),cC (oP h57),nT h58,oO (Eq.refl ([17].map ax).length),aO ax h59] (x_ Γ rv h)
theorem xV(Γ:bn)(rv:List Int){n l x0 l2}(h:iE n l x0 l2=some rv):fw Γ rv ⟨[.c 63],⟨125,[vL 1 14 l ag.enc,vP 3 0 2,vP 7 1 14,vO 8 2 1 l2 ax],[oX 2 25 (ak.enc n),oX 14 70 (ag.enc x0),oS 1 33 l2 ax]⟩⟩:=by
 simp only[iE,az,an,aq]at h;rcases h with⟨r2,h7,⟨h8,h⟩|⟨h8,h9,h⟩⟩
 ·exact gn 5 [1,3,7,8] [0,1,2] [cC (aJ h7),nF h8] (xW Γ rv h)
 ·exact gn 5 [1,3,7,8] [0,1,4] [cC (aJ h7),nT h8,oO (Eq.refl ([22].map ax).length),aO ax h9] (xW Γ rv h)
theorem xU(Γ:bn)(rv:List Int){n l di x0 l1}(h:iD n l di x0 l1=some rv):fw Γ rv ⟨[.c 31],⟨125,[vL 1 14 l ag.enc,vI 2 di,vP 3 0 2,vP 7 1 14,vO 8 2 1 l1 ax],[oX 2 25 (ak.enc n),oX 14 70 (ag.enc x0),oS 1 33 l1 ax]⟩⟩:=by
 simp only[iD,az,an,aq]at h;rcases h with⟨r1,h4,⟨h5,h6,h⟩|⟨h5,h⟩⟩
 ·exact gn 5 [1,3,7,8] [0,1,4] [cC (AQ h4),bT h5,oO (Eq.refl ([6].map ax).length),aO ax h6] (xV Γ rv h)
 ·exact gn 5 [1,3,7,8] [0,1,2] [cC (AQ h4),bF h5] (xV Γ rv h)
theorem Lm{n l di}{rv:List Int}(h:jN n l di=some rv):dF prog 66 [.agg (ak.enc n),.one (lL 14 l ag.enc),.one (lI di)] [] (one (lL 1 rv ax)) []:=by
 refine aU func66 fun Γ=>?_
 simp only[jN,az,an,aq]at h;rcases h with⟨x0,h0,r,h1,⟨h2,h⟩|⟨h2,h3,h⟩⟩
 ·exact gn 11 [1,2,3,7,8] [0,1,2] [cE ag.enc h0,cC (mS h1),nF h2,hW 1,hH (.lP 8 1 33)] (xU Γ rv h)
 ·exact gn 11 [1,2,3,7,8] [0,1,3] [cE ag.enc h0,cC (mS h1),nT h2,oO (Eq.refl ([5].map ax).length),aN (l:=([5]:List Int)) ax h3] (xU Γ rv h)
def pS(Γ:bn)(rv:List aa)(cf:Cf):Prop:=Go prog f41 [] Γ (one (lL 2 rv aa.enc)) [] cf
def HX(Γ:bn)(rv:List aa)(n:ak)(l:List ag)(i:Int)(r1:List Int)(l3:List aa)(k:Int):Prop:=pS Γ rv ⟨[.c 31308,.l 31308,.b 2,.b 1,.c 979,.l 244,.b 0,.c 31],⟨44,[vL 1 14 l ag.enc,vP 2 0 2,vO 5 1 2 l3 aa.enc,vI 6 i,vL 7 1 r1 ax,vI 8 k],[oX 2 25 (ak.enc n),oS 2 104 l3 aa.enc]⟩⟩
def F_(Γ:bn)(rv:List aa)(n:ak)(l:List ag)(i:Int)(r1:List Int)(l4:List aa):Prop:=pS Γ rv ⟨[.b 1,.c 979,.l 244,.b 0,.c 31],⟨44,[vL 1 14 l ag.enc,vP 2 0 2,vO 5 1 2 l4 aa.enc,vI 6 i],[oX 2 25 (ak.enc n),oS 2 104 l4 aa.enc]⟩⟩
def HW(Γ:bn)(rv:List aa)(n:ak)(l:List ag)(l2:List aa)(i:Int):Prop:=pS Γ rv ⟨[.c 244,.l 244,.b 0,.c 31],⟨44,[vL 1 14 l ag.enc,vP 2 0 2,vO 5 1 2 l2 aa.enc,vI 6 i],[oX 2 25 (ak.enc n),oS 2 104 l2 aa.enc]⟩⟩
def F8(Γ:bn)(rv:List aa)(n:ak)(l:List ag)(l5:List aa):Prop:=pS Γ rv ⟨[.c 31],⟨44,[vO 5 0 2 l5 aa.enc],[oS 2 104 l5 aa.enc]⟩⟩
theorem Ga(Γ:bn)(rv:List aa){n l i r1}:∀⦃s:List aa×Int⦄ ⦃e:List aa⦄,aK (fun s=>ml n l i r1 s.1 s.2) s=some e→F_ Γ rv n l i r1 e→HX Γ rv n l i r1 s.1 s.2:=by
 refine bk ?_
 rintro⟨l3,k⟩ z_ h hI hE;simp only[ml,az,an,aq]at h;rcases h with⟨h5,x0,h6,r2,h7,h8,h⟩|⟨h5,h⟩
 ·exact gn 11 [1,2,5,6,7,8] [0,3] [nL ax r1,bT h5,hH (.draw 9 []),cE ax h6,cC (fQ h7),oO (Eq.refl ([(aa.mk x0 r2)].map aa.enc).length),aO aa.enc h8] (hI h)
 ·exact gn 5 [1,2,5,6] [0,1] [nL ax r1,bF h5] (hE h)
theorem F9(Γ:bn)(rv:List aa){n l}:∀⦃s:List aa×Int⦄ ⦃e:List aa⦄,aK (fun s=>fU n l s.1 s.2) s=some e→F8 Γ rv n l e→HW Γ rv n l s.1 s.2:=by
 refine bk ?_
 rintro⟨l2,i⟩ z_ h hI hE;simp only[fU,az,an,aq]at h;rcases h with⟨h3,r1,h4,l4,h9,h⟩|⟨h3,h⟩
 ·refine gn 13 [1,2,5,6,7,8] [0,1] [nL ag.enc l,bT h3,cC (Lm h4)] (Ga Γ rv h9 ?_);exact gn 3 [1,2,5,6] [0,1] [] (hI h)
 ·exact gn 5 [5] [1] [nL ag.enc l,bF h3] (hE h)
theorem xT(Γ:bn)(rv:List aa){n l l1}(h:j0 n l l1=some rv):pS Γ rv ⟨[.c 15],⟨44,[vL 1 14 l ag.enc,vP 2 0 2,vO 5 1 2 l1 aa.enc],[oX 2 25 (ak.enc n),oS 2 104 l1 aa.enc]⟩⟩:=by
 simp only[j0,az,an,aq]at h;obtain⟨l5,dN,h⟩:=h;refine gn 5 [1,2,5,6] [0,1] [] (F9 Γ rv dN ?_);obtain rfl:=oK h;exact gr 2 [] [hW 4,hH (.kX 0),rp 3 (eL l5 aa.enc)]
theorem Ll{n l}{rv:List aa}(h:k_ n l=some rv):dF prog 41 [.agg (ak.enc n),.one (lL 14 l ag.enc)] [] (one (lL 2 rv aa.enc)) []:=by
 refine aU func41 fun Γ=>?_
 simp only[k_,az,an,aq]at h;rcases h with⟨r,h0,⟨h1,h⟩|⟨h1,h2,h⟩⟩
 ·exact gn 9 [1,2,5] [0,1] [nL ag.enc l,cC (aJ h0),nF h1,hW 1,hH (.lP 5 2 104)] (xT Γ rv h)
 ·exact gn 9 [1,2,5] [0,2] [nL ag.enc l,cC (aJ h0),nT h1,oO (Eq.refl ([(aa.mk 4 ByteArray.empty)].map aa.enc).length),aN (l:=([(aa.mk 4 ByteArray.empty)]:List aa)) aa.enc h2] (xT Γ rv h)
def BY(Γ:bn)(rv:Bool)(cf:Cf):Prop:=Go prog f98 [] Γ (one (.bool rv)) [] cf
def HO(Γ:bn)(rv:Bool)(a:List Int)(i:Int):Prop:=BY Γ rv ⟨[.c 116,.l 116,.b 0,.c 15],⟨28,[vL 0 1 a ax,vI 5 i],[]⟩⟩
def F0(Γ:bn)(rv:Bool)(a:List Int):Prop:=BY Γ rv ⟨[.c 15],⟨28,[],[]⟩⟩
theorem F1(Γ:bn)(rv:Bool){a}:∀⦃s:Int⦄ ⦃e:(Unit)⊕(Bool)⦄,aK (fun s=>dS a s) s=some e→jf e (fun e=>F0 Γ rv a) (fun e=>e=rv)→HO Γ rv a s:=by
 refine bk ?_
 intro i z_ h hI hE;simp only[dS,az,an,aq]at h;rcases h with⟨h1,x0,h2,⟨h3,h⟩|⟨h3,⟨h4,h⟩|⟨h4,h⟩⟩⟩|⟨h1,h⟩
 ·obtain rfl:=(hE h:_=rv);exact gr 12 [] [nL ax a,bT h1,cE ax h2,rp 6 (bT h3),tT]
 ·obtain rfl:=(hE h:_=rv);exact gr 12 [] [nL ax a,bT h1,cE ax h2,rp 3 (bF h3),cE ax h2,rp 3 (bF h3),bT h4]
 ·exact gn 14 [0,5] [] [nL ax a,bT h1,cE ax h2,rp 3 (bF h3),cE ax h2,rp 3 (bF h3),bF h4] (hI h)
 ·exact gn 5 [] [] [nL ax a,bF h1] (hE h)
theorem AN{a bL}{rv:Bool}(h:k9 a bL=some rv):dF prog 98 [.one (lL 1 a ax),.one (lI bL)] [] (one (.bool rv)) []:=by
 refine aU func98 fun Γ=>?_
 simp only[k9,az,an,aq]at h;rcases h with⟨h0,h⟩|⟨h0,e0,h5,h⟩
 ·obtain rfl:=oK h;exact gr 8 [] [nL ax a,bT h0]
 ·refine gn 12 [0,5] [] [nL ax a,bF h0] (F1 Γ rv h5 ?_);rcases e0 with e0|r
  ·obtain rfl:=oK h;exact gr 2 [] []
  ·exact oK h
theorem bQ{n low high}{rv:Bool}(h:eI n low high=some rv):dF prog 99 [.one (lI n),.one (lI low),.one (lI high)] [] (one (.bool rv)) []:=by
 refine aU func99 fun Γ=>?_
 simp only[eI,az,an,aq]at h;cases h;exact gr 4 [] [rp 4 hP,rp 2 (oI ((bZ n low)=true)),oR True ((bZ n low)=true)]
theorem eW{s0}{rv:Int}(h:dY s0=some rv):dF prog 100 [.agg (aM.enc s0)] [] (one (lI rv)) []:=by
 refine aU func100 fun Γ=>?_
 simp only[dY,az,an,aq]at h;rcases h with⟨h0,h⟩|⟨h0,⟨h1,h⟩|⟨h1,h⟩⟩
 ·obtain rfl:=oK h;exact gr 8 [] [rp 12 hP,rp 2 (oI ((bP s0.place (-1))=true)),oR True ((bP s0.place (-1))=true),rp 2 (oI (((bP s0.place (-1))&&(bP s0.bm 0))=true)),oR True (((bP s0.place (-1))&&(bP s0.bm 0))=true),rp 2 (oI ((((bP s0.place (-1))&&(bP s0.bm 0))&&(bP s0.bp 0))=true)),oR True ((((bP s0.place (-1))&&(bP s0.bm 0))&&(bP s0.bp 0))=true),bT h0]
 ·obtain rfl:=oK h;exact gr 13 [] [rp 12 hP,rp 2 (oI ((bP s0.place (-1))=true)),oR True ((bP s0.place (-1))=true),rp 2 (oI (((bP s0.place (-1))&&(bP s0.bm 0))=true)),oR True (((bP s0.place (-1))&&(bP s0.bm 0))=true),rp 2 (oI ((((bP s0.place (-1))&&(bP s0.bm 0))&&(bP s0.bp 0))=true)),oR True ((((bP s0.place (-1))&&(bP s0.bm 0))&&(bP s0.bp 0))=true),bF h0,rp 22 hP,rp 2 (oI ((aT s0.place 0)=false)),oR True ((aT s0.place 0)=false),rp 4 (oI (((aT s0.place 0)||(aT s0.bm 0))=false)),oR True (((aT s0.place 0)||(aT s0.bm 0))=false),rp 2 (oI ((((aT s0.place 0)||(aT s0.bm 0))||(cQ s0.bm s0.bp))=false)),oR True ((((aT s0.place 0)||(aT s0.bm 0))||(cQ s0.bm s0.bp))=false),rp 2 (oI (((((aT s0.place 0)||(aT s0.bm 0))||(cQ s0.bm s0.bp))||(cQ s0.bp 4096))=false)),oR True (((((aT s0.place 0)||(aT s0.bm 0))||(cQ s0.bm s0.bp))||(cQ s0.bp 4096))=false),rp 2 (oI ((((((aT s0.place 0)||(aT s0.bm 0))||(cQ s0.bm s0.bp))||(cQ s0.bp 4096))||(aT s0.bz 0))=false)),oR True ((((((aT s0.place 0)||(aT s0.bm 0))||(cQ s0.bm s0.bp))||(cQ s0.bp 4096))||(aT s0.bz 0))=false),bT h1]
 ·obtain rfl:=oK h;exact gr 14 [] [rp 12 hP,rp 2 (oI ((bP s0.place (-1))=true)),oR True ((bP s0.place (-1))=true),rp 2 (oI (((bP s0.place (-1))&&(bP s0.bm 0))=true)),oR True (((bP s0.place (-1))&&(bP s0.bm 0))=true),rp 2 (oI ((((bP s0.place (-1))&&(bP s0.bm 0))&&(bP s0.bp 0))=true)),oR True ((((bP s0.place (-1))&&(bP s0.bm 0))&&(bP s0.bp 0))=true),bF h0,rp 22 hP,rp 2 (oI ((aT s0.place 0)=false)),oR True ((aT s0.place 0)=false),rp 4 (oI (((aT s0.place 0)||(aT s0.bm 0))=false)),oR True (((aT s0.place 0)||(aT s0.bm 0))=false),rp 2 (oI ((((aT s0.place 0)||(aT s0.bm 0))||(cQ s0.bm s0.bp))=false)),oR True ((((aT s0.place 0)||(aT s0.bm 0))||(cQ s0.bm s0.bp))=false),rp 2 (oI (((((aT s0.place 0)||(aT s0.bm 0))||(cQ s0.bm s0.bp))||(cQ s0.bp 4096))=false)),oR True (((((aT s0.place 0)||(aT s0.bm 0))||(cQ s0.bm s0.bp))||(cQ s0.bp 4096))=false),rp 2 (oI ((((((aT s0.place 0)||(aT s0.bm 0))||(cQ s0.bm s0.bp))||(cQ s0.bp 4096))||(aT s0.bz 0))=false)),oR True ((((((aT s0.place 0)||(aT s0.bm 0))||(cQ s0.bm s0.bp))||(cQ s0.bp 4096))||(aT s0.bz 0))=false),bF h1]
def eT(Γ:bn)(rv:List Int)(cf:Cf):Prop:=Go prog f68 [] Γ (one (lL 1 rv ax)) [] cf
def H3(Γ:bn)(rv:List Int)(aD bL types:Int)(l:List af)(di:Int)(x0:af)(l1:List Int)(i:Int):Prop:=eT Γ rv ⟨[.c 500,.l 500,.b 0,.c 63],⟨156,[vI 0 aD,vI 1 bL,vI 2 types,vL 3 16 l af.enc,vI 4 di,vO 11 0 1 l1 ax,vP 12 1 16,vI 13 i],[oS 1 33 l1 ax,oX 16 56 (af.enc x0)]⟩⟩
def Gh(Γ:bn)(rv:List Int)(aD bL types:Int)(l:List af)(di:Int)(x0:af)(l1 l2:List Int):Prop:=eT Γ rv ⟨[.c 63],⟨156,[vI 0 aD,vI 1 bL,vI 2 types,vO 11 0 1 l2 ax,vP 12 1 16],[oS 1 33 l2 ax,oX 16 56 (af.enc x0)]⟩⟩
theorem Gi(Γ:bn)(rv:List Int){aD bL types l di x0 l1}:∀⦃s:Int⦄ ⦃e:List Int⦄,aK (fun s=>dk aD bL types l di x0 l1 s) s=some e→Gh Γ rv aD bL types l di x0 l1 e→H3 Γ rv aD bL types l di x0 l1 s:=by
 refine bk ?_
 intro i z_ h hI hE;simp only[dk,az,an,aq]at h;rcases h with⟨h4,x1,h5,⟨h6,h7,h⟩|⟨h6,h⟩⟩|⟨h4,h⟩
 ·exact gn 13 [0,1,2,11,12] [3,1] [bT h4,hH (.draw 8 []),cE af.enc h5,bT h6,oO (Eq.refl ([6].map ax).length),aO ax h7] (hE h)
 ·exact gn 14 [0,1,2,3,4,11,12,13] [0,1] [bT h4,hH (.draw 8 []),cE af.enc h5,bF h6] (hI h)
 ·exact gn 5 [0,1,2,11,12] [0,1] [bF h4] (hE h)
theorem yf(Γ:bn)(rv:List Int){types x0 l6}(h:fz types x0 l6=some rv):eT Γ rv ⟨[.c 2047],⟨156,[vI 2 types,vO 11 0 1 l6 ax,vP 12 1 16],[oS 1 33 l6 ax,oX 16 56 (af.enc x0)]⟩⟩:=by
 simp only[fz,az,an,aq]at h;rcases h with⟨r6,MG,⟨HG,r7,Ve,⟨T2,YP,h⟩|⟨T2,h⟩⟩|⟨HG,YQ,h⟩⟩
 ·cases h;exact gr 9 [] [rp 5 hP,rp 3 (oI ((cA x0.pick.place (-1))=true)),oR True ((cA x0.pick.place (-1))=true),cC (bQ MG),rp 3 (nF HG),cC (bQ Ve),rp 2 (nF HG),rp 26 hP,rp 4 (oI ((!r7)=false)),oI (((!r7)=false)∧(cQ x0.split 1)=true),oR True ((!r7)=false),rp 2 (oI (((!r7)||((cQ x0.split 1)&&((cA x0.pick.place (-1))&&(cA x0.drop.place (-1)))))=false)),oR True (((!r7)||((cQ x0.split 1)&&((cA x0.pick.place (-1))&&(cA x0.drop.place (-1)))))=false),rp 3 (oI ((((!r7)||((cQ x0.split 1)&&((cA x0.pick.place (-1))&&(cA x0.drop.place (-1)))))||(aT x0.bI (-1)))=false)),oR True ((((!r7)||((cQ x0.split 1)&&((cA x0.pick.place (-1))&&(cA x0.drop.place (-1)))))||(aT x0.bI (-1)))=false),rp 2 (oI (((((!r7)||((cQ x0.split 1)&&((cA x0.pick.place (-1))&&(cA x0.drop.place (-1)))))||(aT x0.bI (-1)))||(bZ x0.bI types))=false)),oR True (((((!r7)||((cQ x0.split 1)&&((cA x0.pick.place (-1))&&(cA x0.drop.place (-1)))))||(aT x0.bI (-1)))||(bZ x0.bI types))=false),rp 3 (oI ((((((!r7)||((cQ x0.split 1)&&((cA x0.pick.place (-1))&&(cA x0.drop.place (-1)))))||(aT x0.bI (-1)))||(bZ x0.bI types))||(aT x0.now (-1)))=false)),oR True ((((((!r7)||((cQ x0.split 1)&&((cA x0.pick.place (-1))&&(cA x0.drop.place (-1)))))||(aT x0.bI (-1)))||(bZ x0.bI types))||(aT x0.now (-1)))=false),bT T2,oO (Eq.refl ([2].map ax).length),aO ax YP,hW 5,hH (.kX 3),rp 4 (oO (Eq.refl ((l6++[2]).map ax).length))]
 ·obtain rfl:=oK h;exact gr 9 [] [rp 5 hP,rp 3 (oI ((cA x0.pick.place (-1))=true)),oR True ((cA x0.pick.place (-1))=true),cC (bQ MG),rp 3 (nF HG),cC (bQ Ve),rp 2 (nF HG),rp 26 hP,rp 4 (oI ((!r7)=false)),oI (((!r7)=false)∧(cQ x0.split 1)=true),oR True ((!r7)=false),rp 2 (oI (((!r7)||((cQ x0.split 1)&&((cA x0.pick.place (-1))&&(cA x0.drop.place (-1)))))=false)),oR True (((!r7)||((cQ x0.split 1)&&((cA x0.pick.place (-1))&&(cA x0.drop.place (-1)))))=false),rp 3 (oI ((((!r7)||((cQ x0.split 1)&&((cA x0.pick.place (-1))&&(cA x0.drop.place (-1)))))||(aT x0.bI (-1)))=false)),oR True ((((!r7)||((cQ x0.split 1)&&((cA x0.pick.place (-1))&&(cA x0.drop.place (-1)))))||(aT x0.bI (-1)))=false),rp 2 (oI (((((!r7)||((cQ x0.split 1)&&((cA x0.pick.place (-1))&&(cA x0.drop.place (-1)))))||(aT x0.bI (-1)))||(bZ x0.bI types))=false)),oR True (((((!r7)||((cQ x0.split 1)&&((cA x0.pick.place (-1))&&(cA x0.drop.place (-1)))))||(aT x0.bI (-1)))||(bZ x0.bI types))=false),rp 3 (oI ((((((!r7)||((cQ x0.split 1)&&((cA x0.pick.place (-1))&&(cA x0.drop.place (-1)))))||(aT x0.bI (-1)))||(bZ x0.bI types))||(aT x0.now (-1)))=false)),oR True ((((((!r7)||((cQ x0.split 1)&&((cA x0.pick.place (-1))&&(cA x0.drop.place (-1)))))||(aT x0.bI (-1)))||(bZ x0.bI types))||(aT x0.now (-1)))=false),bF T2,hW 5,hH (.kX 0),rp 3 (eL l6 ax)]
 ·cases h;exact gr 9 [] [rp 5 hP,rp 3 (oI ((cA x0.pick.place (-1))=true)),oR True ((cA x0.pick.place (-1))=true),cC (bQ MG),rp 5 (nT HG),rp 4 tT,kF,rp 21 tT,oO (Eq.refl ([2].map ax).length),aO ax YQ,hW 5,hH (.kX 3),rp 4 (oO (Eq.refl ((l6++[2]).map ax).length))]
theorem yh(Γ:bn)(rv:List Int){types x0 l8}(h:iL types x0 l8=some rv):eT Γ rv ⟨[.c 2047],⟨156,[vI 2 types,vO 11 0 1 l8 ax,vP 12 1 16],[oS 1 33 l8 ax,oX 16 56 (af.enc x0)]⟩⟩:=by
 simp only[iL,az,an,aq]at h;rcases h with⟨Xf,h37,⟨YS,Ft,h39,⟨h40,h41,h⟩|⟨h40,h⟩⟩|⟨YS,h42,h⟩⟩
 ·cases h;exact gr 9 [] [rp 5 hP,rp 3 (oI ((cA x0.pick.place (-1))=true)),oR True ((cA x0.pick.place (-1))=true),cC (bQ h37),rp 3 (nF YS),cC (bQ h39),rp 2 (nF YS),rp 26 hP,rp 4 (oI ((!Ft)=false)),oI (((!Ft)=false)∧(cQ x0.split 1)=true),oR True ((!Ft)=false),rp 2 (oI (((!Ft)||((cQ x0.split 1)&&((cA x0.pick.place (-1))&&(cA x0.drop.place (-1)))))=false)),oR True (((!Ft)||((cQ x0.split 1)&&((cA x0.pick.place (-1))&&(cA x0.drop.place (-1)))))=false),rp 3 (oI ((((!Ft)||((cQ x0.split 1)&&((cA x0.pick.place (-1))&&(cA x0.drop.place (-1)))))||(aT x0.bI (-1)))=false)),oR True ((((!Ft)||((cQ x0.split 1)&&((cA x0.pick.place (-1))&&(cA x0.drop.place (-1)))))||(aT x0.bI (-1)))=false),rp 2 (oI (((((!Ft)||((cQ x0.split 1)&&((cA x0.pick.place (-1))&&(cA x0.drop.place (-1)))))||(aT x0.bI (-1)))||(bZ x0.bI types))=false)),oR True (((((!Ft)||((cQ x0.split 1)&&((cA x0.pick.place (-1))&&(cA x0.drop.place (-1)))))||(aT x0.bI (-1)))||(bZ x0.bI types))=false),rp 3 (oI ((((((!Ft)||((cQ x0.split 1)&&((cA x0.pick.place (-1))&&(cA x0.drop.place (-1)))))||(aT x0.bI (-1)))||(bZ x0.bI types))||(aT x0.now (-1)))=false)),oR True ((((((!Ft)||((cQ x0.split 1)&&((cA x0.pick.place (-1))&&(cA x0.drop.place (-1)))))||(aT x0.bI (-1)))||(bZ x0.bI types))||(aT x0.now (-1)))=false),bT h40,oO (Eq.refl ([2].map ax).length),aO ax h41,hW 5,hH (.kX 3),rp 4 (oO (Eq.refl ((l8++[2]).map ax).length))]
 ·obtain rfl:=oK h;exact gr 9 [] [rp 5 hP,rp 3 (oI ((cA x0.pick.place (-1))=true)),oR True ((cA x0.pick.place (-1))=true),cC (bQ h37),rp 3 (nF YS),cC (bQ h39),rp 2 (nF YS),rp 26 hP,rp 4 (oI ((!Ft)=false)),oI (((!Ft)=false)∧(cQ x0.split 1)=true),oR True ((!Ft)=false),rp 2 (oI (((!Ft)||((cQ x0.split 1)&&((cA x0.pick.place (-1))&&(cA x0.drop.place (-1)))))=false)),oR True (((!Ft)||((cQ x0.split 1)&&((cA x0.pick.place (-1))&&(cA x0.drop.place (-1)))))=false),rp 3 (oI ((((!Ft)||((cQ x0.split 1)&&((cA x0.pick.place (-1))&&(cA x0.drop.place (-1)))))||(aT x0.bI (-1)))=false)),oR True ((((!Ft)||((cQ x0.split 1)&&((cA x0.pick.place (-1))&&(cA x0.drop.place (-1)))))||(aT x0.bI (-1)))=false),rp 2 (oI (((((!Ft)||((cQ x0.split 1)&&((cA x0.pick.place (-1))&&(cA x0.drop.place (-1)))))||(aT x0.bI (-1)))||(bZ x0.bI types))=false)),oR True (((((!Ft)||((cQ x0.split 1)&&((cA x0.pick.place (-1))&&(cA x0.drop.place (-1)))))||(aT x0.bI (-1)))||(bZ x0.bI types))=false),rp 3 (oI ((((((!Ft)||((cQ x0.split 1)&&((cA x0.pick.place (-1))&&(cA x0.drop.place (-1)))))||(aT x0.bI (-1)))||(bZ x0.bI types))||(aT x0.now (-1)))=false)),oR True ((((((!Ft)||((cQ x0.split 1)&&((cA x0.pick.place (-1))&&(cA x0.drop.place (-1)))))||(aT x0.bI (-1)))||(bZ x0.bI types))||(aT x0.now (-1)))=false),bF h40,hW 5,hH (.kX 0),rp 3 (eL l8 ax)]
 ·cases h;exact gr 9 [] [rp 5 hP,rp 3 (oI ((cA x0.pick.place (-1))=true)),oR True ((cA x0.pick.place (-1))=true),cC (bQ h37),rp 5 (nT YS),rp 4 tT,kF,rp 21 tT,oO (Eq.refl ([2].map ax).length),aO ax h42,hW 5,hH (.kX 3),rp 4 (oO (Eq.refl ((l8++[2]).map ax).length))]
theorem yg(Γ:bn)(rv:List Int){types x0 l7}(h:dI types x0 l7=some rv):eT Γ rv ⟨[.c 1023],⟨156,[vI 2 types,vO 11 0 1 l7 ax,vP 12 1 16],[oS 1 33 l7 ax,oX 16 56 (af.enc x0)]⟩⟩:=by
 simp only[dI,az,an,aq]at h;rcases h with⟨r9,h34,⟨YR,h⟩|⟨YR,h36,h⟩⟩
 ·exact gn 5 [2,11,12] [0,1] [cC (bQ h34),nF YR] (yh Γ rv h)
 ·exact gn 5 [2,11,12] [3,1] [cC (bQ h34),nT YR,oO (Eq.refl ([18].map ax).length),aO ax h36] (yh Γ rv h)
theorem ye(Γ:bn)(rv:List Int){types x0 l5}(h:eX types x0 l5=some rv):eT Γ rv ⟨[.c 511],⟨156,[vI 2 types,vO 11 0 1 l5 ax,vP 12 1 16],[oS 1 33 l5 ax,oX 16 56 (af.enc x0)]⟩⟩:=by
 simp only[eX,az,an,aq]at h;rcases h with⟨r4,vF,⟨va,BQ,r5,Et,⟨PU,h⟩|⟨PU,Jh,h⟩⟩|⟨va,r8,Ul,⟨h32,h33,h⟩|⟨h32,h⟩⟩⟩
 ·exact gn 10 [2,11,12] [3,1] [cC (eW vF),rp 5 (bT va),tT,oO (Eq.refl ([14].map ax).length),aO ax BQ,cC (bQ Et),nF PU] (yf Γ rv h)
 ·exact gn 10 [2,11,12] [5,1] [cC (eW vF),rp 5 (bT va),tT,oO (Eq.refl ([14].map ax).length),aO ax BQ,cC (bQ Et),nT PU,oO (Eq.refl ([18].map ax).length),aO ax Jh] (yf Γ rv h)
 ·exact gn 5 [2,11,12] [3,1] [cC (eW vF),rp 3 (bF va),cC (eW Ul),rp 2 (bF va),bT h32,oO (Eq.refl ([14].map ax).length),aO ax h33] (yg Γ rv h)
 ·exact gn 5 [2,11,12] [0,1] [cC (eW vF),rp 3 (bF va),cC (eW Ul),rp 2 (bF va),bF h32] (yg Γ rv h)
theorem yd(Γ:bn)(rv:List Int){types x0 l4}(h:dT types x0 l4=some rv):eT Γ rv ⟨[.c 255],⟨156,[vI 2 types,vO 11 0 1 l4 ax,vP 12 1 16],[oS 1 33 l4 ax,oX 16 56 (af.enc x0)]⟩⟩:=by
 simp only[dT,az,an,aq]at h;rcases h with⟨sG,ti,h⟩|⟨sG,h⟩
 ·exact gn 5 [2,11,12] [3,1] [rp 5 hP,rp 3 (oI ((bP x0.pick.place (-1))=true)),oR True ((bP x0.pick.place (-1))=true),bT sG,oO (Eq.refl ([19].map ax).length),aO ax ti] (ye Γ rv h)
 ·exact gn 5 [2,11,12] [0,1] [rp 5 hP,rp 3 (oI ((bP x0.pick.place (-1))=true)),oR True ((bP x0.pick.place (-1))=true),bF sG] (ye Γ rv h)
theorem yj(Γ:bn)(rv:List Int){types x0 P9}(h:ka types x0 P9=some rv):eT Γ rv ⟨[.c 2047],⟨156,[vI 2 types,vO 11 0 1 P9 ax,vP 12 1 16],[oS 1 33 P9 ax,oX 16 56 (af.enc x0)]⟩⟩:=by
 simp only[ka,az,an,aq]at h;rcases h with⟨r14,h52,⟨XN,LD,h54,⟨Um,h56,h⟩|⟨Um,h⟩⟩|⟨XN,h57,h⟩⟩
 ·cases h;exact gr 9 [] [rp 5 hP,rp 3 (oI ((cA x0.pick.place (-1))=true)),oR True ((cA x0.pick.place (-1))=true),cC (bQ h52),rp 3 (nF XN),cC (bQ h54),rp 2 (nF XN),rp 26 hP,rp 4 (oI ((!LD)=false)),oI (((!LD)=false)∧(cQ x0.split 1)=true),oR True ((!LD)=false),rp 2 (oI (((!LD)||((cQ x0.split 1)&&((cA x0.pick.place (-1))&&(cA x0.drop.place (-1)))))=false)),oR True (((!LD)||((cQ x0.split 1)&&((cA x0.pick.place (-1))&&(cA x0.drop.place (-1)))))=false),rp 3 (oI ((((!LD)||((cQ x0.split 1)&&((cA x0.pick.place (-1))&&(cA x0.drop.place (-1)))))||(aT x0.bI (-1)))=false)),oR True ((((!LD)||((cQ x0.split 1)&&((cA x0.pick.place (-1))&&(cA x0.drop.place (-1)))))||(aT x0.bI (-1)))=false),rp 2 (oI (((((!LD)||((cQ x0.split 1)&&((cA x0.pick.place (-1))&&(cA x0.drop.place (-1)))))||(aT x0.bI (-1)))||(bZ x0.bI types))=false)),oR True (((((!LD)||((cQ x0.split 1)&&((cA x0.pick.place (-1))&&(cA x0.drop.place (-1)))))||(aT x0.bI (-1)))||(bZ x0.bI types))=false),rp 3 (oI ((((((!LD)||((cQ x0.split 1)&&((cA x0.pick.place (-1))&&(cA x0.drop.place (-1)))))||(aT x0.bI (-1)))||(bZ x0.bI types))||(aT x0.now (-1)))=false)),oR True ((((((!LD)||((cQ x0.split 1)&&((cA x0.pick.place (-1))&&(cA x0.drop.place (-1)))))||(aT x0.bI (-1)))||(bZ x0.bI types))||(aT x0.now (-1)))=false),bT Um,oO (Eq.refl ([2].map ax).length),aO ax h56,hW 5,hH (.kX 3),rp 4 (oO (Eq.refl ((P9++[2]).map ax).length))]
 ·obtain rfl:=oK h;exact gr 9 [] [rp 5 hP,rp 3 (oI ((cA x0.pick.place (-1))=true)),oR True ((cA x0.pick.place (-1))=true),cC (bQ h52),rp 3 (nF XN),cC (bQ h54),rp 2 (nF XN),rp 26 hP,rp 4 (oI ((!LD)=false)),oI (((!LD)=false)∧(cQ x0.split 1)=true),oR True ((!LD)=false),rp 2 (oI (((!LD)||((cQ x0.split 1)&&((cA x0.pick.place (-1))&&(cA x0.drop.place (-1)))))=false)),oR True (((!LD)||((cQ x0.split 1)&&((cA x0.pick.place (-1))&&(cA x0.drop.place (-1)))))=false),rp 3 (oI ((((!LD)||((cQ x0.split 1)&&((cA x0.pick.place (-1))&&(cA x0.drop.place (-1)))))||(aT x0.bI (-1)))=false)),oR True ((((!LD)||((cQ x0.split 1)&&((cA x0.pick.place (-1))&&(cA x0.drop.place (-1)))))||(aT x0.bI (-1)))=false),rp 2 (oI (((((!LD)||((cQ x0.split 1)&&((cA x0.pick.place (-1))&&(cA x0.drop.place (-1)))))||(aT x0.bI (-1)))||(bZ x0.bI types))=false)),oR True (((((!LD)||((cQ x0.split 1)&&((cA x0.pick.place (-1))&&(cA x0.drop.place (-1)))))||(aT x0.bI (-1)))||(bZ x0.bI types))=false),rp 3 (oI ((((((!LD)||((cQ x0.split 1)&&((cA x0.pick.place (-1))&&(cA x0.drop.place (-1)))))||(aT x0.bI (-1)))||(bZ x0.bI types))||(aT x0.now (-1)))=false)),oR True ((((((!LD)||((cQ x0.split 1)&&((cA x0.pick.place (-1))&&(cA x0.drop.place (-1)))))||(aT x0.bI (-1)))||(bZ x0.bI types))||(aT x0.now (-1)))=false),bF Um,hW 5,hH (.kX 0),rp 3 (eL P9 ax)]
 ·cases h;exact gr 9 [] [rp 5 hP,rp 3 (oI ((cA x0.pick.place (-1))=true)),oR True ((cA x0.pick.place (-1))=true),cC (bQ h52),rp 5 (nT XN),rp 4 tT,kF,rp 21 tT,oO (Eq.refl ([2].map ax).length),aO ax h57,hW 5,hH (.kX 3),rp 4 (oO (Eq.refl ((P9++[2]).map ax).length))]
theorem xh(Γ:bn)(rv:List Int){types x0 MJ}(h:jm types x0 MJ=some rv):eT Γ rv ⟨[.c 2047],⟨156,[vI 2 types,vO 11 0 1 MJ ax,vP 12 1 16],[oS 1 33 MJ ax,oX 16 56 (af.enc x0)]⟩⟩:=by
 simp only[jm,az,an,aq]at h;rcases h with⟨r18,h64,⟨h65,J5,h66,⟨ZY,h68,h⟩|⟨ZY,h⟩⟩|⟨h65,h69,h⟩⟩
 ·cases h;exact gr 9 [] [rp 5 hP,rp 3 (oI ((cA x0.pick.place (-1))=true)),oR True ((cA x0.pick.place (-1))=true),cC (bQ h64),rp 3 (nF h65),cC (bQ h66),rp 2 (nF h65),rp 26 hP,rp 4 (oI ((!J5)=false)),oI (((!J5)=false)∧(cQ x0.split 1)=true),oR True ((!J5)=false),rp 2 (oI (((!J5)||((cQ x0.split 1)&&((cA x0.pick.place (-1))&&(cA x0.drop.place (-1)))))=false)),oR True (((!J5)||((cQ x0.split 1)&&((cA x0.pick.place (-1))&&(cA x0.drop.place (-1)))))=false),rp 3 (oI ((((!J5)||((cQ x0.split 1)&&((cA x0.pick.place (-1))&&(cA x0.drop.place (-1)))))||(aT x0.bI (-1)))=false)),oR True ((((!J5)||((cQ x0.split 1)&&((cA x0.pick.place (-1))&&(cA x0.drop.place (-1)))))||(aT x0.bI (-1)))=false),rp 2 (oI (((((!J5)||((cQ x0.split 1)&&((cA x0.pick.place (-1))&&(cA x0.drop.place (-1)))))||(aT x0.bI (-1)))||(bZ x0.bI types))=false)),oR True (((((!J5)||((cQ x0.split 1)&&((cA x0.pick.place (-1))&&(cA x0.drop.place (-1)))))||(aT x0.bI (-1)))||(bZ x0.bI types))=false),rp 3 (oI ((((((!J5)||((cQ x0.split 1)&&((cA x0.pick.place (-1))&&(cA x0.drop.place (-1)))))||(aT x0.bI (-1)))||(bZ x0.bI types))||(aT x0.now (-1)))=false)),oR True ((((((!J5)||((cQ x0.split 1)&&((cA x0.pick.place (-1))&&(cA x0.drop.place (-1)))))||(aT x0.bI (-1)))||(bZ x0.bI types))||(aT x0.now (-1)))=false),bT ZY,oO (Eq.refl ([2].map ax).length),aO ax h68,hW 5,hH (.kX 3),rp 4 (oO (Eq.refl ((MJ++[2]).map ax).length))]
 ·obtain rfl:=oK h;exact gr 9 [] [rp 5 hP,rp 3 (oI ((cA x0.pick.place (-1))=true)),oR True ((cA x0.pick.place (-1))=true),cC (bQ h64),rp 3 (nF h65),cC (bQ h66),rp 2 (nF h65),rp 26 hP,rp 4 (oI ((!J5)=false)),oI (((!J5)=false)∧(cQ x0.split 1)=true),oR True ((!J5)=false),rp 2 (oI (((!J5)||((cQ x0.split 1)&&((cA x0.pick.place (-1))&&(cA x0.drop.place (-1)))))=false)),oR True (((!J5)||((cQ x0.split 1)&&((cA x0.pick.place (-1))&&(cA x0.drop.place (-1)))))=false),rp 3 (oI ((((!J5)||((cQ x0.split 1)&&((cA x0.pick.place (-1))&&(cA x0.drop.place (-1)))))||(aT x0.bI (-1)))=false)),oR True ((((!J5)||((cQ x0.split 1)&&((cA x0.pick.place (-1))&&(cA x0.drop.place (-1)))))||(aT x0.bI (-1)))=false),rp 2 (oI (((((!J5)||((cQ x0.split 1)&&((cA x0.pick.place (-1))&&(cA x0.drop.place (-1)))))||(aT x0.bI (-1)))||(bZ x0.bI types))=false)),oR True (((((!J5)||((cQ x0.split 1)&&((cA x0.pick.place (-1))&&(cA x0.drop.place (-1)))))||(aT x0.bI (-1)))||(bZ x0.bI types))=false),rp 3 (oI ((((((!J5)||((cQ x0.split 1)&&((cA x0.pick.place (-1))&&(cA x0.drop.place (-1)))))||(aT x0.bI (-1)))||(bZ x0.bI types))||(aT x0.now (-1)))=false)),oR True ((((((!J5)||((cQ x0.split 1)&&((cA x0.pick.place (-1))&&(cA x0.drop.place (-1)))))||(aT x0.bI (-1)))||(bZ x0.bI types))||(aT x0.now (-1)))=false),bF ZY,hW 5,hH (.kX 0),rp 3 (eL MJ ax)]
 ·cases h;exact gr 9 [] [rp 5 hP,rp 3 (oI ((cA x0.pick.place (-1))=true)),oR True ((cA x0.pick.place (-1))=true),cC (bQ h64),rp 5 (nT h65),rp 4 tT,kF,rp 21 tT,oO (Eq.refl ([2].map ax).length),aO ax h69,hW 5,hH (.kX 3),rp 4 (oO (Eq.refl ((MJ++[2]).map ax).length))]
theorem xg(Γ:bn)(rv:List Int){types x0 NC}(h:jl types x0 NC=some rv):eT Γ rv ⟨[.c 1023],⟨156,[vI 2 types,vO 11 0 1 NC ax,vP 12 1 16],[oS 1 33 NC ax,oX 16 56 (af.enc x0)]⟩⟩:=by
 simp only[jl,az,an,aq]at h;rcases h with⟨r17,h61,⟨h62,h⟩|⟨h62,Vg,h⟩⟩
 ·exact gn 5 [2,11,12] [0,1] [cC (bQ h61),nF h62] (xh Γ rv h)
 ·exact gn 5 [2,11,12] [3,1] [cC (bQ h61),nT h62,oO (Eq.refl ([18].map ax).length),aO ax Vg] (xh Γ rv h)
theorem yi(Γ:bn)(rv:List Int){types x0 l9}(h:j_ types x0 l9=some rv):eT Γ rv ⟨[.c 511],⟨156,[vI 2 types,vO 11 0 1 l9 ax,vP 12 1 16],[oS 1 33 l9 ax,oX 16 56 (af.enc x0)]⟩⟩:=by
 simp only[j_,az,an,aq]at h;rcases h with⟨XY,T3,⟨Vf,XM,Qp,h49,⟨ZX,h⟩|⟨ZX,h51,h⟩⟩|⟨Vf,r16,h58,⟨h59,h60,h⟩|⟨h59,h⟩⟩⟩
 ·exact gn 10 [2,11,12] [3,1] [cC (eW T3),rp 5 (bT Vf),tT,oO (Eq.refl ([14].map ax).length),aO ax XM,cC (bQ h49),nF ZX] (yj Γ rv h)
 ·exact gn 10 [2,11,12] [5,1] [cC (eW T3),rp 5 (bT Vf),tT,oO (Eq.refl ([14].map ax).length),aO ax XM,cC (bQ h49),nT ZX,oO (Eq.refl ([18].map ax).length),aO ax h51] (yj Γ rv h)
 ·exact gn 5 [2,11,12] [3,1] [cC (eW T3),rp 3 (bF Vf),cC (eW h58),rp 2 (bF Vf),bT h59,oO (Eq.refl ([14].map ax).length),aO ax h60] (xg Γ rv h)
 ·exact gn 5 [2,11,12] [0,1] [cC (eW T3),rp 3 (bF Vf),cC (eW h58),rp 2 (bF Vf),bF h59] (xg Γ rv h)
theorem yc(Γ:bn)(rv:List Int){aD types x0 l3}(h:dq aD types x0 l3=some rv):eT Γ rv ⟨[.c 127],⟨156,[vI 0 aD,vI 2 types,vO 11 0 1 l3 ax,vP 12 1 16],[oS 1 33 l3 ax,oX 16 56 (af.enc x0)]⟩⟩:=by
 simp only[dq,az,an,aq]at h;rcases h with⟨r2,gu,⟨ij,r3,kH,⟨nk,h⟩|⟨nk,pc,h⟩⟩|⟨ij,h43,⟨ZW,h45,h⟩|⟨ZW,h⟩⟩⟩
 ·exact gn 5 [2,11,12] [0,1] [cC (bQ gu),rp 6 (nF ij),cC (bQ kH),rp 2 (nF ij),nF nk] (yd Γ rv h)
 ·exact gn 5 [2,11,12] [3,1] [cC (bQ gu),rp 6 (nF ij),cC (bQ kH),rp 2 (nF ij),nT nk,oO (Eq.refl ([11].map ax).length),aO ax pc] (yd Γ rv h)
 ·exact gn 10 [2,11,12] [5,1] [cC (bQ gu),rp 8 (nT ij),tT,oO (Eq.refl ([11].map ax).length),aO ax h43,rp 5 hP,rp 3 (oI ((bP x0.pick.place (-1))=true)),oR True ((bP x0.pick.place (-1))=true),bT ZW,oO (Eq.refl ([19].map ax).length),aO ax h45] (yi Γ rv h)
 ·exact gn 10 [2,11,12] [3,1] [cC (bQ gu),rp 8 (nT ij),tT,oO (Eq.refl ([11].map ax).length),aO ax h43,rp 5 hP,rp 3 (oI ((bP x0.pick.place (-1))=true)),oR True ((bP x0.pick.place (-1))=true),bF ZW] (yi Γ rv h)
theorem yb(Γ:bn)(rv:List Int){aD bL types l di x0 l1}(h:fy aD bL types l di x0 l1=some rv):eT Γ rv ⟨[.c 31],⟨156,[vI 0 aD,vI 1 bL,vI 2 types,vL 3 16 l af.enc,vI 4 di,vO 11 0 1 l1 ax,vP 12 1 16],[oS 1 33 l1 ax,oX 16 56 (af.enc x0)]⟩⟩:=by
 simp only[fy,az,an,aq]at h;obtain⟨l2,h8,h⟩:=h;refine gn 5 [0,1,2,3,4,11,12,13] [0,1] [] (Gi Γ rv h8 ?_);rcases h with⟨r1,h9,⟨dN,h⟩|⟨dN,gq,h⟩⟩
 ·exact gn 5 [0,2,11,12] [0,1] [cC (AN h9),nF dN] (yc Γ rv h)
 ·exact gn 5 [0,2,11,12] [3,1] [cC (AN h9),nT dN,oO (Eq.refl ([17].map ax).length),aO ax gq] (yc Γ rv h)
theorem Lo{aD bL types l di}{rv:List Int}(h:fX aD bL types l di=some rv):dF prog 68 [.one (lI aD),.one (lI bL),.one (lI types),.one (lL 16 l af.enc),.one (lI di)] [] (one (lL 1 rv ax)) []:=by
 refine aU func68 fun Γ=>?_
 simp only[fX,az,an,aq]at h;rcases h with⟨x0,h0,r,h1,⟨h2,h⟩|⟨h2,h3,h⟩⟩
 ·exact gn 11 [0,1,2,3,4,11,12] [1,0] [cE af.enc h0,cC (mS h1),nF h2,hW 1,hH (.lP 11 1 33)] (yb Γ rv h)
 ·exact gn 11 [0,1,2,3,4,11,12] [2,0] [cE af.enc h0,cC (mS h1),nT h2,oO (Eq.refl ([5].map ax).length),aN (l:=([5]:List Int)) ax h3] (yb Γ rv h)
def pU(Γ:bn)(rv:List aa)(cf:Cf):Prop:=Go prog f42 [] Γ (one (lL 2 rv aa.enc)) [] cf
def H2(Γ:bn)(rv:List aa)(n:ak)(bL types:Int)(l:List af)(i:Int)(r:List Int)(l3:List aa)(k:Int):Prop:=pU Γ rv ⟨[.c 31308,.l 31308,.b 2,.b 1,.c 979,.l 244,.b 0,.c 31],⟨51,[vI 1 bL,vI 2 types,vL 3 16 l af.enc,vP 4 0 2,vO 9 1 2 l3 aa.enc,vI 10 i,vL 11 1 r ax,vI 12 k],[oX 2 25 (ak.enc n),oS 2 104 l3 aa.enc]⟩⟩
def Gf(Γ:bn)(rv:List aa)(n:ak)(bL types:Int)(l:List af)(i:Int)(r:List Int)(l4:List aa):Prop:=pU Γ rv ⟨[.b 1,.c 979,.l 244,.b 0,.c 31],⟨51,[vI 1 bL,vI 2 types,vL 3 16 l af.enc,vP 4 0 2,vO 9 1 2 l4 aa.enc,vI 10 i],[oX 2 25 (ak.enc n),oS 2 104 l4 aa.enc]⟩⟩
def HZ(Γ:bn)(rv:List aa)(n:ak)(bL types:Int)(l:List af)(l2:List aa)(i:Int):Prop:=pU Γ rv ⟨[.c 244,.l 244,.b 0,.c 31],⟨51,[vI 1 bL,vI 2 types,vL 3 16 l af.enc,vP 4 0 2,vO 9 1 2 l2 aa.enc,vI 10 i],[oX 2 25 (ak.enc n),oS 2 104 l2 aa.enc]⟩⟩
def Gd(Γ:bn)(rv:List aa)(n:ak)(bL types:Int)(l:List af)(l5:List aa):Prop:=pU Γ rv ⟨[.c 31],⟨51,[vO 9 0 2 l5 aa.enc],[oS 2 104 l5 aa.enc]⟩⟩
theorem Gg(Γ:bn)(rv:List aa){n bL types l i r}:∀⦃s:List aa×Int⦄ ⦃e:List aa⦄,aK (fun s=>mm n bL types l i r s.1 s.2) s=some e→Gf Γ rv n bL types l i r e→H2 Γ rv n bL types l i r s.1 s.2:=by
 refine bk ?_
 rintro⟨l3,k⟩ z_ h hI hE;simp only[mm,az,an,aq]at h;rcases h with⟨h4,x0,h5,r1,h6,h7,h⟩|⟨h4,h⟩
 ·exact gn 11 [1,2,3,4,9,10,11,12] [0,3] [nL ax r,bT h4,hH (.draw 9 []),cE ax h5,cC (fQ h6),oO (Eq.refl ([(aa.mk x0 r1)].map aa.enc).length),aO aa.enc h7] (hI h)
 ·exact gn 5 [1,2,3,4,9,10] [0,1] [nL ax r,bF h4] (hE h)
theorem Ge(Γ:bn)(rv:List aa){n bL types l}:∀⦃s:List aa×Int⦄ ⦃e:List aa⦄,aK (fun s=>eD n bL types l s.1 s.2) s=some e→Gd Γ rv n bL types l e→HZ Γ rv n bL types l s.1 s.2:=by
 refine bk ?_
 rintro⟨l2,i⟩ z_ h hI hE;simp only[eD,az,an,aq]at h;rcases h with⟨h2,r,h3,l4,h8,h⟩|⟨h2,h⟩
 ·refine gn 13 [1,2,3,4,9,10,11,12] [0,1] [nL af.enc l,bT h2,nL dC n.aD,cC (Lo h3)] (Gg Γ rv h8 ?_);exact gn 3 [1,2,3,4,9,10] [0,1] [] (hI h)
 ·exact gn 5 [9] [1] [nL af.enc l,bF h2] (hE h)
theorem ya(Γ:bn)(rv:List aa){n bL types l l1}(h:fV n bL types l l1=some rv):pU Γ rv ⟨[.c 15],⟨51,[vI 1 bL,vI 2 types,vL 3 16 l af.enc,vP 4 0 2,vO 9 1 2 l1 aa.enc],[oX 2 25 (ak.enc n),oS 2 104 l1 aa.enc]⟩⟩:=by
 simp only[fV,az,an,aq]at h;obtain⟨l5,h9,h⟩:=h;refine gn 5 [1,2,3,4,9,10] [0,1] [] (Ge Γ rv h9 ?_);obtain rfl:=oK h;exact gr 2 [] [hW 4,hH (.kX 0),rp 3 (eL l5 aa.enc)]
theorem Ln{n bL types l}{rv:List aa}(h:fJ n bL types l=some rv):dF prog 42 [.agg (ak.enc n),.one (lI bL),.one (lI types),.one (lL 16 l af.enc)] [] (one (lL 2 rv aa.enc)) []:=by
 refine aU func42 fun Γ=>?_
 simp only[fJ,az,an,aq]at h;rcases h with⟨h0,h1,h⟩|⟨h0,h⟩
 ·exact gn 9 [1,2,3,4,9] [0,2] [nL af.enc l,bT h0,oO (Eq.refl ([(aa.mk 4 ByteArray.empty)].map aa.enc).length),aN (l:=([(aa.mk 4 ByteArray.empty)]:List aa)) aa.enc h1] (ya Γ rv h)
 ·exact gn 9 [1,2,3,4,9] [0,1] [nL af.enc l,bF h0,hW 1,hH (.lP 9 2 104)] (ya Γ rv h)
def z8(Γ:bn)(rv:ByteArray)(cf:Cf):Prop:=Go prog f101 [] Γ (one (.str rv)) [] cf
def EX(Γ:bn)(rv:ByteArray)(n1:Int)(s0:ByteArray):Prop:=z8 Γ rv ⟨[.c 56,.l 56,.b 0,.c 15],⟨23,[vI 0 n1,vS 3 s0],[]⟩⟩
def Ec(Γ:bn)(rv:ByteArray)(n2:Int)(s1:ByteArray):Prop:=z8 Γ rv ⟨[.c 15],⟨23,[vI 0 n2,vS 3 s1],[]⟩⟩
theorem Ed(Γ:bn)(rv:ByteArray):∀⦃s:Int×ByteArray⦄ ⦃e:Int×ByteArray⦄,aK (fun s=>mD s.1 s.2) s=some e→Ec Γ rv e.1 e.2→EX Γ rv s.1 s.2:=by
 refine bk ?_
 rintro⟨n1,s0⟩ z_ h hI hE;simp only[mD,az,an,aq]at h;rcases h with⟨h0,h1,h⟩|⟨h0,h⟩
 ·exact gn 11 [0,3] [] [bT h0,hH (.ints [(zV .u8 (aY .i64 48 (C6 n1 10)))]),oO (oA (n:=10)),oO (Eq.refl ([(zV .u8 (aY .i64 48 (C6 n1 10)))].map Qdy).length),oO (Eq.refl (([(zV .u8 (aY .i64 48 (C6 n1 10)))].map Qdy):List (List Lf))),oO (h1),oO (oA (n:=10))] (hI h)
 ·exact gn 5 [0,3] [] [bF h0] (hE h)
theorem qd{n}{rv:ByteArray}(h:mV n=some rv):dF prog 101 [.one (lI n)] [] (one (.str rv)) []:=by
 refine aU func101 fun Γ=>?_
 simp only[mV,az,an,aq]at h;obtain⟨⟨n2,s1⟩,h2,h⟩:=h;refine gn 7 [0,3] [] [] (Ed Γ rv h2 ?_);obtain⟨h3,h⟩:=h;cases h;exact gr 2 [] [hH (.ints [(zV .u8 (aY .i64 48 n2))]),oO (Eq.refl ([(zV .u8 (aY .i64 48 n2))].map Qdy).length),oO (Eq.refl (([(zV .u8 (aY .i64 48 n2))].map Qdy):List (List Lf))),oO (h3)]
def n8(Γ:bn)(rv:List aa)(cf:Cf):Prop:=Go prog f69 [] Γ (one (lL 2 rv aa.enc)) [] cf
def Gk(Γ:bn)(rv:List aa)(ah:Int)(l:List aI)(word:ByteArray)(dB:Bool)(l2:List aa)(i:Int)(x0:aI)(r:ByteArray)(o_:Bool)(k:Int):Prop:=n8 Γ rv ⟨[.c 1001972,.l 1001972,.b 2,.c 125247,.b 1,.c 979,.l 244,.b 0,.c 31],⟨123,[vI 0 ah,vL 1 2 l aI.enc,vS 2 word,vB 3 dB,vO 9 0 2 l2 aa.enc,vI 10 i,vI 11 x0.x0,vI 12 x0.x1,vS 13 (cM (cM word cj) r),vB 14 o_,vI 15 k],[oS 2 104 l2 aa.enc]⟩⟩
def E0(Γ:bn)(rv:List aa)(ah:Int)(l:List aI)(word:ByteArray)(dB:Bool)(l2:List aa)(i:Int)(x0:aI)(r:ByteArray)(te:Bool):Prop:=n8 Γ rv ⟨[.c 125247,.b 1,.c 979,.l 244,.b 0,.c 31],⟨123,[vI 0 ah,vL 1 2 l aI.enc,vS 2 word,vB 3 dB,vO 9 0 2 l2 aa.enc,vI 10 i,vS 13 (cM (cM word cj) r),vB 14 te],[oS 2 104 l2 aa.enc]⟩⟩
def Gj(Γ:bn)(rv:List aa)(ah:Int)(l:List aI)(word:ByteArray)(dB:Bool)(l2:List aa)(i:Int):Prop:=n8 Γ rv ⟨[.c 244,.l 244,.b 0,.c 31],⟨123,[vI 0 ah,vL 1 2 l aI.enc,vS 2 word,vB 3 dB,vO 9 0 2 l2 aa.enc,vI 10 i],[oS 2 104 l2 aa.enc]⟩⟩
def EY(Γ:bn)(rv:List aa)(ah:Int)(l:List aI)(word:ByteArray)(dB:Bool)(l3:List aa):Prop:=n8 Γ rv ⟨[.c 31],⟨123,[vO 9 0 2 l3 aa.enc],[oS 2 104 l3 aa.enc]⟩⟩
theorem E1(Γ:bn)(rv:List aa){ah l word dB l2 i x0 r}:∀⦃s:Bool×Int⦄ ⦃e:Bool⦄,aK (fun s=>fe ah l word dB l2 i x0 r s.1 s.2) s=some e→E0 Γ rv ah l word dB l2 i x0 r e→Gk Γ rv ah l word dB l2 i x0 r s.1 s.2:=by
 refine bk ?_
 rintro⟨o_,k⟩ z_ h hI hE;simp only[fe,az,an,aq]at h;rcases h with⟨h9,⟨dN,h⟩|⟨dN,x1,gq,⟨gu,⟨ij,h⟩|⟨ij,⟨kH,⟨nk,h⟩|⟨nk,h⟩⟩|⟨kH,h⟩⟩⟩|⟨gu,⟨pc,⟨sG,h⟩|⟨sG,h⟩⟩|⟨pc,h⟩⟩⟩⟩|⟨h9,h⟩
 ·exact gn 11 [0,1,2,3,9,10,11,12,13,14,15] [0] [bT h9,rp 8 (bT dN),rp 7 kF,rp 2 (bT dN),tT,tT,rp 7 kF,tT,tT,rp 7 kF,tT,tT] (hI h)
 ·exact gn 11 [0,1,2,3,9,10,11,12,13,14,15] [0] [bT h9,rp 3 (bF dN),cE aI.enc gq,bF dN,oO (zL 0),oO (lT 0 2),rp 4 (bF dN),rp 3 (bT gu),cE aI.enc gq,bT gu,oO (zL 1),oO (lT 1 2),rp 3 (bT gu),bF dN,bT gu,bF dN,rp 2 (bT ij),rp 7 kF,rp 2 (bT ij),rp 7 kF,rp 2 (bT ij)] (hI h)
 ·exact gn 11 [0,1,2,3,9,10,11,12,13,14,15] [0] [bT h9,rp 3 (bF dN),cE aI.enc gq,bF dN,oO (zL 0),oO (lT 0 2),rp 4 (bF dN),rp 3 (bT gu),cE aI.enc gq,bT gu,oO (zL 1),oO (lT 1 2),rp 3 (bT gu),bF dN,bT gu,bF dN,rp 2 (bF ij),rp 3 (bT kH),cE aI.enc gq,bT kH,oO (zL 0),oO (lT 0 2),rp 3 (bT kH),bF ij,bT kH,bF ij,rp 3 (bT nk),cE aI.enc gq,bT nk,oO (zL 1),oO (lT 1 2),rp 3 (bT nk),bF ij,bT nk,bF ij] (hI h)
 ·exact gn 11 [0,1,2,3,9,10,11,12,13,14,15] [0] [bT h9,rp 3 (bF dN),cE aI.enc gq,bF dN,oO (zL 0),oO (lT 0 2),rp 4 (bF dN),rp 3 (bT gu),cE aI.enc gq,bT gu,oO (zL 1),oO (lT 1 2),rp 3 (bT gu),bF dN,bT gu,bF dN,rp 2 (bF ij),rp 3 (bT kH),cE aI.enc gq,bT kH,oO (zL 0),oO (lT 0 2),rp 3 (bT kH),bF ij,bT kH,bF ij,rp 7 (bF nk),bF ij,bF nk,bF ij] (hI h)
 ·exact gn 11 [0,1,2,3,9,10,11,12,13,14,15] [0] [bT h9,rp 3 (bF dN),cE aI.enc gq,bF dN,oO (zL 0),oO (lT 0 2),rp 4 (bF dN),rp 3 (bT gu),cE aI.enc gq,bT gu,oO (zL 1),oO (lT 1 2),rp 3 (bT gu),bF dN,bT gu,bF dN,rp 2 (bF ij),rp 7 (bF kH),bF ij,bF kH,bF ij,rp 7 fF,bF ij,fF,bF ij] (hI h)
 ·exact gn 11 [0,1,2,3,9,10,11,12,13,14,15] [0] [bT h9,rp 3 (bF dN),cE aI.enc gq,bF dN,oO (zL 0),oO (lT 0 2),rp 4 (bF dN),rp 7 (bF gu),bF dN,bF gu,bF dN,fF,fF,rp 3 (bT pc),cE aI.enc gq,bT pc,oO (zL 0),oO (lT 0 2),rp 3 (bT pc),fF,bT pc,fF,rp 3 (bT sG),cE aI.enc gq,bT sG,oO (zL 1),oO (lT 1 2),rp 3 (bT sG),fF,bT sG,fF] (hI h)
 ·exact gn 11 [0,1,2,3,9,10,11,12,13,14,15] [0] [bT h9,rp 3 (bF dN),cE aI.enc gq,bF dN,oO (zL 0),oO (lT 0 2),rp 4 (bF dN),rp 7 (bF gu),bF dN,bF gu,bF dN,fF,fF,rp 3 (bT pc),cE aI.enc gq,bT pc,oO (zL 0),oO (lT 0 2),rp 3 (bT pc),fF,bT pc,fF,rp 7 (bF sG),fF,bF sG,fF] (hI h)
 ·exact gn 11 [0,1,2,3,9,10,11,12,13,14,15] [0] [bT h9,rp 3 (bF dN),cE aI.enc gq,bF dN,oO (zL 0),oO (lT 0 2),rp 4 (bF dN),rp 7 (bF gu),bF dN,bF gu,bF dN,fF,fF,rp 7 (bF pc),fF,bF pc,rp 11 fF] (hI h)
 ·exact gn 5 [0,1,2,3,9,10,13,14] [0] [bF h9] (hE h)
theorem EZ(Γ:bn)(rv:List aa){ah l word dB}:∀⦃s:List aa×Int⦄ ⦃e:List aa⦄,aK (fun s=>eF ah l word dB s.1 s.2) s=some e→EY Γ rv ah l word dB e→Gj Γ rv ah l word dB s.1 s.2:=by
 refine bk ?_
 rintro⟨l2,i⟩ z_ h hI hE;simp only[eF,az,an,aq]at h;rcases h with⟨h2,x0,h3,h4,r,h5,h6,⟨h7,h8,h⟩|⟨h7,te,ti,h⟩⟩|⟨h2,h⟩
 ·exact gn 22 [0,1,2,3,9,10] [2] [nL aI.enc l,bT h2,cE aI.enc h3,oO (zL 0),oO (lT 0 2),cE aI.enc h3,oO (zL 1),oO (lT 1 2),oO (h4),cC (qd h5),rp 15 hP,oO (h6),rp 2 (oI ((aT x0.x0 0)=false)),oR True ((aT x0.x0 0)=false),oI (((aT x0.x0 0)||(bZ x0.x0 ah))=false),oR True (((aT x0.x0 0)||(bZ x0.x0 ah))=false),rp 2 (oI ((((aT x0.x0 0)||(bZ x0.x0 ah))||(aT x0.x1 0))=false)),oR True ((((aT x0.x0 0)||(bZ x0.x0 ah))||(aT x0.x1 0))=false),rp 2 (oI (((((aT x0.x0 0)||(bZ x0.x0 ah))||(aT x0.x1 0))||(bZ x0.x1 ah))=false)),oR True (((((aT x0.x0 0)||(bZ x0.x0 ah))||(aT x0.x1 0))||(bZ x0.x1 ah))=false),bT h7,oO (Eq.refl ([(aa.mk 2 (cM (cM word cj) r))].map aa.enc).length),aO aa.enc h8] (hI h)
 ·refine gn 25 [0,1,2,3,9,10,11,12,13,14,15] [0] [nL aI.enc l,bT h2,cE aI.enc h3,oO (zL 0),oO (lT 0 2),cE aI.enc h3,oO (zL 1),oO (lT 1 2),oO (h4),cC (qd h5),rp 15 hP,oO (h6),rp 2 (oI ((aT x0.x0 0)=false)),oR True ((aT x0.x0 0)=false),oI (((aT x0.x0 0)||(bZ x0.x0 ah))=false),oR True (((aT x0.x0 0)||(bZ x0.x0 ah))=false),rp 2 (oI ((((aT x0.x0 0)||(bZ x0.x0 ah))||(aT x0.x1 0))=false)),oR True ((((aT x0.x0 0)||(bZ x0.x0 ah))||(aT x0.x1 0))=false),rp 2 (oI (((((aT x0.x0 0)||(bZ x0.x0 ah))||(aT x0.x1 0))||(bZ x0.x1 ah))=false)),oR True (((((aT x0.x0 0)||(bZ x0.x0 ah))||(aT x0.x1 0))||(bZ x0.x1 ah))=false),bF h7] (E1 Γ rv ti ?_);rcases h with⟨vF,va,h⟩|⟨vF,h⟩
  ·exact gn 7 [0,1,2,3,9,10] [2] [bT vF,oO (Eq.refl ([(aa.mk 6 (cM (cM word cj) r))].map aa.enc).length),aO aa.enc va] (hI h)
  ·exact gn 7 [0,1,2,3,9,10] [0] [bF vF] (hI h)
 ·exact gn 5 [9] [0] [nL aI.enc l,bF h2] (hE h)
theorem xi(Γ:bn)(rv:List aa){ah l word dB l1}(h:jn ah l word dB l1=some rv):n8 Γ rv ⟨[.c 15],⟨123,[vI 0 ah,vL 1 2 l aI.enc,vS 2 word,vB 3 dB,vO 9 0 2 l1 aa.enc],[oS 2 104 l1 aa.enc]⟩⟩:=by
 simp only[jn,az,an,aq]at h;obtain⟨l3,BQ,h⟩:=h;refine gn 5 [0,1,2,3,9,10] [0] [] (EZ Γ rv BQ ?_);obtain rfl:=oK h;exact gr 2 [] [hW 4,hH (.kX 0),rp 3 (eL l3 aa.enc)]
theorem JH{ah l word dB}{rv:List aa}(h:ki ah l word dB=some rv):dF prog 69 [.one (lI ah),.one (lL 2 l aI.enc),.one (.str word),.one (.bool dB)] [] (one (lL 2 rv aa.enc)) []:=by
 refine aU func69 fun Γ=>?_
 simp only[ki,az,an,aq]at h;rcases h with⟨h0,h1,h⟩|⟨h0,h⟩
 ·exact gn 9 [0,1,2,3,9] [1] [nL aI.enc l,bT h0,oO (Eq.refl ([(aa.mk 4 word)].map aa.enc).length),aN (l:=([(aa.mk 4 word)]:List aa)) aa.enc h1] (xi Γ rv h)
 ·exact gn 9 [0,1,2,3,9] [0] [nL aI.enc l,bF h0,hW 1,hH (.lP 9 2 104)] (xi Γ rv h)
end
end Go.Proofs.YtbilkblifgaflaaGreatDoor
