/- Part MV. -/
import Derived.Test.YtbilkblifgaflaaGreatDoorMU
import Derived.Test.YtbilkblifgaflaaGreatDoorProg
set_option linter.unusedSimpArgs false
set_option linter.unusedVariables false
set_option linter.unusedSectionVars false
namespace Go.Proofs.YtbilkblifgaflaaGreatDoor
open _root_.Go.Proofs.Tryz
section
set_option maxHeartbeats 4000000
set_option maxRecDepth 100000
def Gq(Γ:a5)(rv:Bool)(cf:Cf):Prop:=Go prog f222 [] Γ (one (.bool rv)) [] cf
def IN(Γ:a5)(rv:Bool)(a capacity:List Int)(v:Int):Prop:=Gq Γ rv ⟨[.c 116,.l 116,.b 0,.c 15],⟨26,[vL 1 1 capacity aq,vL 12 1 a aq,vI 13 (aB a),vI 14 v],[]⟩⟩
def HA(Γ:a5)(rv:Bool)(a capacity:List Int):Prop:=Gq Γ rv ⟨[.c 15],⟨26,[],[]⟩⟩
theorem HB(Γ:a5)(rv:Bool){a capacity}:∀⦃s:Int⦄ ⦃e:(Unit)⊕(Bool)⦄,aF (fun s=>yp a capacity s) s=some e→jB e (fun e=>HA Γ rv a capacity) (fun e=>e=rv)→IN Γ rv a capacity s:=by
 refine aY ?_
 intro v z_ h hI hE;simp only[yp,ay,an,ao]at h;rcases h with⟨h1,x0,h2,x1,h3,⟨h4,h⟩|⟨h4,h⟩⟩|⟨h1,h⟩
 ·obtain rfl:=(hE h:_=rv);exact gr 14 [] [bT h1,cE aq h2,cE aq h3,bT h4]
 ·exact gn 16 [1,12,13,14] [] [bT h1,cE aq h2,cE aq h3,bF h4] (hI h)
 ·exact gn 5 [] [] [bF h1] (hE h)
theorem KZ{a capacity}{rv:Bool}(h:ER a capacity=some rv):dd prog 222 [.one (lL 1 a aq),.one (lL 1 capacity aq)] [] (one (.bool rv)) []:=by
 refine aP func222 fun Γ=>?_
 simp only[ER,ay,an,ao]at h;rcases h with⟨h0,h⟩|⟨h0,e0,h5,h⟩
 ·obtain rfl:=oK h;exact gr 8 [] [nL aq a,nL aq capacity,bT h0]
 ·refine gn 12 [1,12,13,14] [] [nL aq a,nL aq capacity,bF h0,nL aq a] (HB Γ rv h5 ?_);rcases e0 with e0|r
  ·obtain rfl:=oK h;exact gr 2 [] []
  ·exact oK h
theorem AJ{a c c1}{rv:Bool}(h:zI a c c1=some rv):dd prog 221 [.one (lL 1 a aq),.one (.ip (ae.enc c) 0),.one (.ip (aX.enc c1) 0)] [] (one (.bool rv)) []:=by
 refine aP func221 fun Γ=>?_
 simp only[zI,ay,an,ao]at h;obtain⟨x0,h0,r,h1,h⟩:=h;cases h;exact gr 4 [] [cE ag.enc h0,cC (KZ h1)]
def je(Γ:a5)(rv:Int)(cf:Cf):Prop:=Go prog f248 [] Γ (one (lI rv)) [] cf
def m_(Γ:a5)(rv:Int)(s0:List (List Int))(c:ae)(c1:aX)(v:Int):Prop:=je Γ rv ⟨[.c 52,.l 52,.b 0,.c 7],⟨19,[vL 0 1 s0 dM,(1,one (.fn (.func 221) [.ip (ae.enc c) 0,.ip (aX.enc c1) 0])),vI 7 (aB s0),vI 8 v],[]⟩⟩
def m4(Γ:a5)(rv:Int)(s0:List (List Int))(c:ae)(c1:aX):Prop:=je Γ rv ⟨[.c 7],⟨19,[],[]⟩⟩
theorem m5(Γ:a5)(rv:Int){s0 c c1}:∀⦃s:Int⦄ ⦃e:(Unit)⊕(Int)⦄,aF (fun s=>fk s0 c c1 s) s=some e→jB e (fun e=>m4 Γ rv s0 c c1) (fun e=>e=rv)→m_ Γ rv s0 c c1 s:=by
 refine aY ?_
 intro v z_ h hI hE;simp only[fk,ay,an,ao]at h;rcases h with⟨h0,x0,h1,r,h2,⟨h3,h⟩|⟨h3,h⟩⟩|⟨h0,h⟩
 ·obtain rfl:=(hE h:_=rv);exact gr 14 [] [bT h0,cE dM h1,cC (AJ h2),bT h3]
 ·exact gn 16 [0,1,7,8] [] [bT h0,cE dM h1,cC (AJ h2),bF h3] (hI h)
 ·exact gn 5 [] [] [bF h0] (hE h)
theorem n5{s0 c c1}{rv:Int}(h:ga s0 c c1=some rv):dd prog 248 [.one (lL 1 s0 dM),.one (.fn (.func 221) [.ip (ae.enc c) 0,.ip (aX.enc c1) 0])] [] (one (lI rv)) []:=by
 refine aP func248 fun Γ=>?_
 simp only[ga,ay,an,ao]at h;obtain⟨e0,h4,h⟩:=h;refine gn 7 [0,1,7,8] [] [nL dM s0] (m5 Γ rv h4 ?_);rcases e0 with e0|r1
 ·cases h;exact gr 2 [] []
 ·exact oK h
theorem iz{s0 c c1}{rv:Bool}(h:fj s0 c c1=some rv):dd prog 220 [.one (lL 1 s0 dM),.one (.fn (.func 221) [.ip (ae.enc c) 0,.ip (aX.enc c1) 0])] [] (one (.bool rv)) []:=by
 refine aP func220 fun Γ=>?_
 simp only[fj,ay,an,ao]at h;obtain⟨r,h0,h⟩:=h;cases h;exact gr 4 [] [cC (n5 h0)]
theorem yk{x0 r}{rv:Int}(h:EH x0 r=some rv):dd prog 198 [.agg (ae.enc x0),.agg (aX.enc r)] [] (one (lI rv)) []:=by
 refine aP func198 fun Γ=>?_
 simp only[EH,ay,an,ao]at h;rcases h with⟨h0,h⟩|⟨h0,r1,h1,⟨h2,h⟩|⟨h2,r2,h3,⟨h4,h⟩|⟨h4,h⟩⟩⟩
 ·obtain rfl:=oK h;exact gr 8 [] [rp 5 hP,rp 3 (oI ((aS r.bE 0)=false)),nL ag.enc x0.types,hP,hP,rp 2 (oI ((aS r.bE 0)=false)),oR True ((aS r.bE 0)=false),bT h0]
 ·cases h;exact gr 15 [] [rp 5 hP,rp 3 (oI ((aS r.bE 0)=false)),nL ag.enc x0.types,hP,hP,rp 2 (oI ((aS r.bE 0)=false)),oR True ((aS r.bE 0)=false),bF h0,cC (wv h1),bT h2]
 ·obtain rfl:=oK h;exact gr 20 [] [rp 5 hP,rp 3 (oI ((aS r.bE 0)=false)),nL ag.enc x0.types,hP,hP,rp 2 (oI ((aS r.bE 0)=false)),oR True ((aS r.bE 0)=false),bF h0,cC (wv h1),bF h2,cC (iz h3),bT h4]
 ·obtain rfl:=oK h;exact gr 21 [] [rp 5 hP,rp 3 (oI ((aS r.bE 0)=false)),nL ag.enc x0.types,hP,hP,rp 2 (oI ((aS r.bE 0)=false)),oR True ((aS r.bE 0)=false),bF h0,cC (wv h1),bF h2,cC (iz h3),bF h4]
def MU(Γ:a5)(rv:aK×Int)(cf:Cf):Prop:=Go prog f142 [] Γ (.pX [.agg [lI rv.1.place,lI rv.1.aH,lI rv.1.aQ,lI rv.1.aR],.one (lI rv.2)]) [] cf
theorem zg(Γ:a5)(rv:aK×Int){x1}(h:uf x1=some rv):MU Γ rv ⟨[.c 31],⟨32,[vP 4 0 4,vP 6 1 4],[oX 4 54 [lI 0,lI 0,lI 0,lI 0],oX 4 54 (aK.enc x1)]⟩⟩:=by
 simp only[uf,ay,an,ao]at h;rcases h with⟨h4,h⟩|⟨h4,h⟩
 ·cases h;exact gr 6 [] [bT h4]
 ·cases h;exact gr 7 [] [bF h4]
theorem qc{l v}{rv:aK×Int}(h:Ap l v=some rv):dd prog 142 [.one (lL 16 l ab.enc),.agg (af.enc v)] [] (.pX [.agg [lI rv.1.place,lI rv.1.aH,lI rv.1.aQ,lI rv.1.aR],.one (lI rv.2)]) []:=by
 refine aP func142 fun Γ=>?_
 simp only[Ap,ay,an,ao]at h;rcases h with⟨r,h0,⟨h1,x0,h2,⟨h3,h⟩|⟨h3,h⟩⟩|⟨h1,h⟩⟩
 ·exact gn 14 [4,6] [1,2] [cC (mX h0),nF h1,cE ab.enc h2,bT h3,cE ab.enc h2] (zg Γ rv h)
 ·exact gn 14 [4,6] [1,2] [cC (mX h0),nF h1,cE ab.enc h2,bF h3] (zg Γ rv h)
 ·cases h;exact gr 8 [] [cC (mX h0),nT h1]
def F3(Γ:a5)(rv:a7×Bool)(cf:Cf):Prop:=Go prog f223 [] Γ (.pX [.agg [lL 1 rv.1.x.b8.av bR,lL 6 rv.1.x.b8.aI al.enc,lL 14 rv.1.x.types ag.enc,lL 16 rv.1.x.aj ab.enc,lL 2 rv.1.x.cb aA.enc,lL 2 rv.1.x.before aA.enc,.str rv.1.t.name,lI rv.1.t.dT,lI rv.1.t.az,lI rv.1.t.cw,lL 1 rv.1.t.cap aq,lI rv.1.t.aL,lI rv.1.t.ai,lI rv.1.t.aH,lI rv.1.t.aQ,lI rv.1.t.iU,lI rv.1.t.cK,lI rv.1.t.jm,lI rv.1.t.eR,lI rv.1.t.fO,lI rv.1.r.bE,lI rv.1.r.cS,lL 1 rv.1.r.fh dw,lL 2 rv.1.r.a8 af.enc,lL 4 rv.1.zx aK.enc],.one (.bool rv.2)]) [] cf
def IG(Γ:a5)(rv:a7×Bool)(x0:ae)(r:aX)(x1:ag)(l:List aK)(v:Int):Prop:=F3 Γ rv ⟨[.c 244,.l 244,.b 0,.c 31],⟨78,[vP 2 0 6,vP 4 1 25,vP 6 2 25,vL 49 2 r.a8 af.enc,vI 50 (aB r.a8),vI 51 v],[oX 6 30 (ae.enc x0),oX 25 232 [.cM,.cM,.cM,.cM,.cM,.cM,.str ByteArray.empty,lI 0,lI 0,lI 0,.cM,lI 0,lI 0,lI 0,lI 0,lI 0,lI 0,lI 0,lI 0,lI 0,lI 0,lI 0,.cM,.cM,.cM],oX 25 232 [lL 1 x0.b8.av bR,lL 6 x0.b8.aI al.enc,lL 14 x0.types ag.enc,lL 16 x0.aj ab.enc,lL 2 x0.cb aA.enc,lL 2 x0.before aA.enc,.str x1.name,lI x1.dT,lI x1.az,lI x1.cw,lL 1 x1.cap aq,lI x1.aL,lI x1.ai,lI x1.aH,lI x1.aQ,lI x1.iU,lI x1.cK,lI x1.jm,lI x1.eR,lI x1.fO,lI r.bE,lI r.cS,lL 1 r.fh dw,lL 2 r.a8 af.enc,lO 3 4 l aK.enc],oS 4 54 l aK.enc]⟩⟩
def Hp(Γ:a5)(rv:a7×Bool)(x0:ae)(r:aX)(x1:ag)(l1:List aK):Prop:=F3 Γ rv ⟨[.c 31],⟨78,[vP 4 0 25,vP 6 1 25],[oX 25 232 [.cM,.cM,.cM,.cM,.cM,.cM,.str ByteArray.empty,lI 0,lI 0,lI 0,.cM,lI 0,lI 0,lI 0,lI 0,lI 0,lI 0,lI 0,lI 0,lI 0,lI 0,lI 0,.cM,.cM,.cM],oX 25 232 [lL 1 x0.b8.av bR,lL 6 x0.b8.aI al.enc,lL 14 x0.types ag.enc,lL 16 x0.aj ab.enc,lL 2 x0.cb aA.enc,lL 2 x0.before aA.enc,.str x1.name,lI x1.dT,lI x1.az,lI x1.cw,lL 1 x1.cap aq,lI x1.aL,lI x1.ai,lI x1.aH,lI x1.aQ,lI x1.iU,lI x1.cK,lI x1.jm,lI x1.eR,lI x1.fO,lI r.bE,lI r.cS,lL 1 r.fh dw,lL 2 r.a8 af.enc,lO 2 4 l1 aK.enc],oS 4 54 l1 aK.enc]⟩⟩
theorem Hq(Γ:a5)(rv:a7×Bool){x0 r x1}:∀⦃s:List aK×Int⦄ ⦃e:(List aK)⊕(a7×Bool)⦄,aF (fun s=>yn x0 r x1 s.1 s.2) s=some e→jB e (fun e=>Hp Γ rv x0 r x1 e) (fun e=>e=rv)→IG Γ rv x0 r x1 s.1 s.2:=by
 refine aY ?_
 rintro⟨l,v⟩ z_ h hI hE;simp only[yn,ay,an,ao]at h;rcases h with⟨h2,x2,h3,r1,h4,⟨h5,h⟩|⟨h5,h6,h⟩⟩|⟨h2,h⟩
 ·obtain rfl:=(hE h:_=rv);exact gr 17 [] [bT h2,cE af.enc h3,cC (qc h4),rp 4 hP,rp 2 (oI ((bK r1.2 0)=false)),oR True ((bK r1.2 0)=false),bT h5,hW 5,hH (.fg 1 0 1),hH (.fg 1 1 6),hH (.fg 1 2 14),hH (.fg 1 3 16),hH (.fg 1 4 2),hH (.fg 1 5 2),hH (.fg 1 10 1),hH (.fg 1 22 1),hH (.fg 1 23 2),hH (.fg 1 24 4)]
 ·exact gn 20 [2,4,6,49,50,51] [0,1,2,7] [bT h2,cE af.enc h3,cC (qc h4),rp 4 hP,rp 2 (oI ((bK r1.2 0)=false)),oR True ((bK r1.2 0)=false),bF h5,oO (Eq.refl ([r1.1].map aK.enc).length),aO aK.enc h6] (hI h)
 ·exact gn 5 [4,6] [1,2,3] [bF h2] (hE h)
theorem Er{x0 r}{rv:a7×Bool}(h:EJ x0 r=some rv):dd prog 223 [.agg (ae.enc x0),.agg (aX.enc r)] [] (.pX [.agg [lL 1 rv.1.x.b8.av bR,lL 6 rv.1.x.b8.aI al.enc,lL 14 rv.1.x.types ag.enc,lL 16 rv.1.x.aj ab.enc,lL 2 rv.1.x.cb aA.enc,lL 2 rv.1.x.before aA.enc,.str rv.1.t.name,lI rv.1.t.dT,lI rv.1.t.az,lI rv.1.t.cw,lL 1 rv.1.t.cap aq,lI rv.1.t.aL,lI rv.1.t.ai,lI rv.1.t.aH,lI rv.1.t.aQ,lI rv.1.t.iU,lI rv.1.t.cK,lI rv.1.t.jm,lI rv.1.t.eR,lI rv.1.t.fO,lI rv.1.r.bE,lI rv.1.r.cS,lL 1 rv.1.r.fh dw,lL 2 rv.1.r.a8 af.enc,lL 4 rv.1.zx aK.enc],.one (.bool rv.2)]) []:=by
 refine aP func223 fun Γ=>?_
 simp only[EJ,ay,an,ao]at h;rcases h with⟨h0,h⟩|⟨h0,x1,h1,e0,h7,h⟩
 ·cases h;exact gr 8 [] [rp 5 hP,rp 3 (oI ((aS r.bE 0)=false)),nL ag.enc x0.types,rp 13 hP,rp 2 (oI ((aS r.bE 0)=false)),oR True ((aS r.bE 0)=false),rp 2 (oI (((aS r.bE 0)||(bP r.bE (aB x0.types)))=false)),oR True (((aS r.bE 0)||(bP r.bE (aB x0.types)))=false),rp 2 (oI ((((aS r.bE 0)||(bP r.bE (aB x0.types)))||(aS r.cS 0))=false)),oR True ((((aS r.bE 0)||(bP r.bE (aB x0.types)))||(aS r.cS 0))=false),rp 2 (oI (((((aS r.bE 0)||(bP r.bE (aB x0.types)))||(aS r.cS 0))||(bU r.cS 4096))=false)),nL af.enc r.a8,hP,hP,oI (((((aS r.bE 0)||(bP r.bE (aB x0.types)))||(aS r.cS 0))||(bU r.cS 4096))=false),oR True (((((aS r.bE 0)||(bP r.bE (aB x0.types)))||(aS r.cS 0))||(bU r.cS 4096))=false),bT h0,hW 5,hH (.fg 2 0 1),hH (.fg 2 1 6),hH (.fg 2 2 14),hH (.fg 2 3 16),hH (.fg 2 4 2),hH (.fg 2 5 2),hH (.fg 2 10 1),hH (.fg 2 22 1),hH (.fg 2 23 2),hH (.fg 2 24 4)]
 ·refine gn 14 [2,4,6,49,50,51] [0,2,3,4] [rp 5 hP,rp 3 (oI ((aS r.bE 0)=false)),nL ag.enc x0.types,rp 13 hP,rp 2 (oI ((aS r.bE 0)=false)),oR True ((aS r.bE 0)=false),rp 2 (oI (((aS r.bE 0)||(bP r.bE (aB x0.types)))=false)),oR True (((aS r.bE 0)||(bP r.bE (aB x0.types)))=false),rp 2 (oI ((((aS r.bE 0)||(bP r.bE (aB x0.types)))||(aS r.cS 0))=false)),oR True ((((aS r.bE 0)||(bP r.bE (aB x0.types)))||(aS r.cS 0))=false),rp 2 (oI (((((aS r.bE 0)||(bP r.bE (aB x0.types)))||(aS r.cS 0))||(bU r.cS 4096))=false)),nL af.enc r.a8,hP,hP,oI (((((aS r.bE 0)||(bP r.bE (aB x0.types)))||(aS r.cS 0))||(bU r.cS 4096))=false),oR True (((((aS r.bE 0)||(bP r.bE (aB x0.types)))||(aS r.cS 0))||(bU r.cS 4096))=false),bF h0,hH (.draw 10 []),cE ag.enc h1,nL af.enc r.a8,hW 3,hH (.jS 3 24 4 54)] (Hq Γ rv h7 ?_);rcases e0 with l1|r2
  ·cases h;exact gr 2 [] [hW 5,hH (.iY 2),rp 3 (eL l1 aK.enc)]
  ·exact oK h
theorem vi{p}{rv:aw}(h:pe p=some rv):dd prog 224 [.agg (a7.enc p)] [] (gG [lI rv.ready,lI rv.lE,.bool rv.jQ.cK,lI rv.jQ.bW,lL 4 rv.jQ.Dc a6.enc,lI rv.jQ.p5,lI rv.jQ.dc]) []:=by
 refine aP func224 fun Γ=>?_
 simp only[pe,ay,an,ao]at h;cases h;exact gr 4 [] [hW 15,hH (.fg 1 4 4)]
theorem qs{s0 g9}{rv:Int×Int}(h:we s0 g9=some rv):dd prog 205 [.agg (aK.enc s0),.one (lI g9)] [] (.pX [.one (lI rv.1),.one (lI rv.2)]) []:=by
 refine aP func205 fun Γ=>?_
 simp only[we,ay,an,ao]at h;rcases h with⟨h0,h⟩|⟨h0,h⟩
 ·cases h;exact gr 10 [] [bT h0]
 ·cases h;exact gr 11 [] [bF h0]
theorem j_{p a8}{rv:Int}(h:tG p a8=some rv):dd prog 265 [.agg (a7.enc p),.one (lI a8)] [] (one (lI rv)) []:=by
 refine aP func265 fun Γ=>?_
 simp only[tG,ay,an,ao]at h;rcases h with⟨h0,h⟩|⟨h0,x0,h1,h⟩
 ·cases h;exact gr 8 [] [bT h0]
 ·cases h;exact gr 9 [] [bF h0,cE aK.enc h1]
theorem jd{s0}{rv:List a6}(h:gz s0=some rv):dd prog 264 [.one (lL 4 s0 a6.enc)] [] (one (lO 0 4 rv a6.enc)) [oS 4 258 rv a6.enc]:=by
 refine aP func264 fun Γ=>?_
 simp only[gz,ay,an,ao]at h;rcases h with⟨h0,h⟩|⟨h0,h2,h⟩
 ·obtain⟨hx,h⟩:=NF h;refine gn 5 [0,4] [] [hH (.skip)] (UY:=⟨[.c 13,.c 7],⟨8,[vL 0 4 s0 a6.enc,(4,.Px)],[]⟩⟩) (go_amb 4 rfl ?_ ?_)
  ·replace h:=hx;cases h;exact gr 3 [0] [tT,hW 3,hH (.kN 2 4 258)]
  ·simp only[ay,an,ao]at h;obtain⟨h1,h⟩:=h;obtain rfl:=oK h;exact gr 4 [0] [fF,aZ a6.enc h1]
 ·obtain rfl:=oK h;exact gr 9 [0] [oO (neE a6.enc h0),fF,hH (.bit false),aZ a6.enc h2]
def ou(Γ:a5)(rv:aw×Int)(cf:Cf):Prop:=Go prog f249 [] Γ (.pX [.agg [lI rv.1.ready,lI rv.1.lE,.bool rv.1.jQ.cK,lI rv.1.jQ.bW,lL 4 rv.1.jQ.Dc a6.enc,lI rv.1.jQ.p5,lI rv.1.jQ.dc],.one (lI rv.2)]) [] cf
theorem tj(Γ:a5)(rv:aw×Int){p l bW lE pW mA r2 l2 ready p5}(h:nn p l bW lE pW mA r2 l2 ready p5=some rv):ou Γ rv ⟨[.c 32767],⟨163,[vP 4 0 25,vP 8 1 7,vP 12 2 7],[oX 25 232 (a7.enc p),oX 7 236 [lI 0,lI 0,.bool false,lI 0,.cM,lI 0,lI 0],oX 7 236 [lI ready,lI (dA .i64 (aT .i64 lE r2.1) bW),.bool pW,lI mA,lO 3 4 l2 a6.enc,lI p5,lI (aT .i64 l.jQ.dc r2.2.1)],oS 4 258 l2 a6.enc]⟩⟩:=by
 simp only[nn,ay,an,ao]at h;rcases h with⟨kT,h⟩|⟨kT,h⟩
 ·cases h;exact gr 6 [] [bT kT,hW 5,hH (.fg 1 4 4)]
 ·cases h;exact gr 7 [] [bF kT,hW 6,hH (.iY 3),rp 3 (eL l2 a6.enc)]
theorem ti(Γ:a5)(rv:aw×Int){p l done bW lE l1 pW mA cw}(h:nm p l done bW lE l1 pW mA cw=some rv):ou Γ rv ⟨[.c 1023],⟨163,[vI 2 done,vP 4 0 25,vP 8 1 7,vI 10 bW,vI 11 lE,vP 12 2 7,vB 13 (aW done (aB p.zx)),vI 14 cw],[oX 25 232 (a7.enc p),oX 7 236 [lI 0,lI 0,.bool false,lI 0,.cM,lI 0,lI 0],oX 7 236 [lI 0,lI 0,.bool pW,lI mA,lO 3 4 l1 a6.enc,lI l.jQ.p5,lI l.jQ.dc],oS 4 258 l1 a6.enc]⟩⟩:=by
 simp only[nm,ay,an,ao]at h;rcases h with⟨r1,h6,r2,h7,⟨h8,h⟩|⟨h8,⟨h9,⟨dq,h⟩|⟨dq,h⟩⟩|⟨h9,x2,fM,r3,fN,⟨gC,h⟩|⟨gC,iH,h⟩⟩⟩⟩
 ·cases h;exact gr 8 [] [hH (.draw 19 []),cC (j_ h6),cC (iI h7),bT h8,hW 5,hH (.fg 1 4 4)]
 ·cases h;exact gr 21 [] [hH (.draw 19 []),cC (j_ h6),cC (iI h7),bF h8,bT h9,bT dq,hW 5,hH (.fg 1 4 4)]
 ·exact gn 23 [4,8,12] [0,1,2,3] [hH (.draw 19 []),cC (j_ h6),cC (iI h7),bF h8,bT h9,bF dq] (tj Γ rv h)
 ·cases h;exact gr 23 [] [hH (.draw 19 []),cC (j_ h6),cC (iI h7),bF h8,bF h9,cE aK.enc fM,cC (qs fN),bT gC,hW 5,hH (.fg 1 4 4)]
 ·exact gn 25 [4,8,12] [0,1,2,5] [hH (.draw 19 []),cC (j_ h6),cC (iI h7),bF h8,bF h9,cE aK.enc fM,cC (qs fN),bF gC,cE aK.enc fM,oO (Eq.refl ([(a6.mk r2.1 r3.1 0 false)].map a6.enc).length),aO a6.enc iH] (tj Γ rv h)
theorem th(Γ:a5)(rv:aw×Int){p l done bW lE l1 pW mA}(h:nk p l done bW lE l1 pW mA=some rv):ou Γ rv ⟨[.c 127],⟨163,[vI 2 done,vP 4 0 25,vP 8 1 7,vI 10 bW,vI 11 lE,vP 12 2 7],[oX 25 232 (a7.enc p),oX 7 236 [lI 0,lI 0,.bool false,lI 0,.cM,lI 0,lI 0],oX 7 236 [lI 0,lI 0,.bool pW,lI mA,lO 3 4 l1 a6.enc,lI l.jQ.p5,lI l.jQ.dc],oS 4 258 l1 a6.enc]⟩⟩:=by
 simp only[nk,ay,an,ao]at h;rcases h with⟨h4,h⟩|⟨h4,x1,h5,h⟩
 ·exact gn 9 [2,4,8,10,11,12,13,14] [0,1,2,3] [nL aK.enc p.zx,nF h4] (ti Γ rv h)
 ·exact gn 9 [2,4,8,10,11,12,13,14] [0,1,2,3] [nL aK.enc p.zx,nT h4,cE aK.enc h5] (ti Γ rv h)
theorem tg(Γ:a5)(rv:aw×Int){p l done cK bW lE}(h:nj p l done cK bW lE=some rv):ou Γ rv ⟨[.c 15],⟨163,[vI 2 done,vB 3 cK,vP 4 0 25,vP 5 1 7,vP 8 2 7,vI 10 bW,vI 11 lE],[oX 25 232 (a7.enc p),oX 7 236 (aw.enc l),oX 7 236 [lI 0,lI 0,.bool false,lI 0,.cM,lI 0,lI 0]]⟩⟩:=by
 simp only[nj,ay,an,ao]at h;rcases h with⟨r,h1,⟨h2,h⟩|⟨h2,x0,h3,h⟩⟩
 ·exact gn 11 [2,4,8,10,11,12] [0,2,3,4] [cC (jd h1),bT h2] (th Γ rv h)
 ·exact gn 11 [2,4,8,10,11,12] [0,2,3,4] [cC (jd h1),bF h2,oO (eW h3),oO (eV a6.enc h3),rE a6.enc h3,hH (.rows ((fi r (dA .i64 done 1) (a6.mk x0.g9 x0.qN x0.bW cK)).map a6.enc)),hH (.re 4 ((fi r (dA .i64 done 1) (a6.mk x0.g9 x0.qN x0.bW cK)).map a6.enc).length),oO (C7 a6.enc r (dA .i64 done 1) (a6.mk x0.g9 x0.qN x0.bW cK)),rp 3 (oO (oV a6.enc r (dA .i64 done 1) (a6.mk x0.g9 x0.qN x0.bW cK))),oO (eW (getSet h3 (a6.mk x0.g9 x0.qN x0.bW cK))),oO (eV a6.enc (getSet h3 (a6.mk x0.g9 x0.qN x0.bW cK))),rE a6.enc (getSet h3 (a6.mk x0.g9 x0.qN x0.bW cK)),hH (.rows ((fi (fi r (dA .i64 done 1) (a6.mk x0.g9 x0.qN x0.bW cK)) (dA .i64 done 1) (a6.mk x0.g9 x0.qN bW cK)).map a6.enc)),hH (.re 4 ((fi (fi r (dA .i64 done 1) (a6.mk x0.g9 x0.qN x0.bW cK)) (dA .i64 done 1) (a6.mk x0.g9 x0.qN bW cK)).map a6.enc).length),oO (C7 a6.enc (fi r (dA .i64 done 1) (a6.mk x0.g9 x0.qN x0.bW cK)) (dA .i64 done 1) (a6.mk x0.g9 x0.qN bW cK)),rp 4 (oO (oV a6.enc (fi r (dA .i64 done 1) (a6.mk x0.g9 x0.qN x0.bW cK)) (dA .i64 done 1) (a6.mk x0.g9 x0.qN bW cK)))] (th Γ rv h)
theorem ll{p l done cK}{rv:aw×Int}(h:qk p l done cK=some rv):dd prog 249 [.agg (a7.enc p),.agg (aw.enc l),.one (lI done),.one (.bool cK)] [] (.pX [.agg [lI rv.1.ready,lI rv.1.lE,.bool rv.1.jQ.cK,lI rv.1.jQ.bW,lL 4 rv.1.jQ.Dc a6.enc,lI rv.1.jQ.p5,lI rv.1.jQ.dc],.one (lI rv.2)]) []:=by
 refine aP func249 fun Γ=>?_
 simp only[qk,ay,an,ao]at h;rcases h with⟨h0,h⟩|⟨h0,h⟩
 ·exact gn 11 [2,3,4,5,8,10,11] [0,1,2] [hH (.draw 6 []),bT h0] (tg Γ rv h)
 ·exact gn 9 [2,3,4,5,8,10,11] [0,1,2] [hH (.draw 6 []),bF h0] (tg Γ rv h)
theorem BY{l m}{rv:Bool}(h:rB l m=some rv):dd prog 252 [.agg (aw.enc l),.agg (aw.enc m)] [] (one (.bool rv)) []:=by
 refine aP func252 fun Γ=>?_
 simp only[rB,ay,an,ao]at h;cases h;exact gr 4 [] [rp 6 hP,rp 4 (oI ((aW l.ready m.ready)=true)),oR True ((aW l.ready m.ready)=true)]
theorem uv{m c}{rv:Bool}(h:rC m c=some rv):dd prog 251 [.agg (aw.enc m),.one (.ip (aw.enc c) 0)] [] (one (.bool rv)) []:=by
 refine aP func251 fun Γ=>?_
 simp only[rC,ay,an,ao]at h;obtain⟨r,h0,h⟩:=h;obtain rfl:=oK h;exact gr 4 [] [cC (BY h0)]
def fK(Γ:a5)(rv:Int)(cf:Cf):Prop:=Go prog f266 [] Γ (one (lI rv)) [] cf
def jN(Γ:a5)(rv:Int)(s0:List aw)(c:aw)(v:Int):Prop:=fK Γ rv ⟨[.c 52,.l 52,.b 0,.c 7],⟨19,[vL 0 7 s0 aw.enc,(1,one (.fn (.func 251) [.ip (aw.enc c) 0])),vI 7 (aB s0),vI 8 v],[]⟩⟩
def jI(Γ:a5)(rv:Int)(s0:List aw)(c:aw):Prop:=fK Γ rv ⟨[.c 7],⟨19,[],[]⟩⟩
theorem jJ(Γ:a5)(rv:Int){s0 c}:∀⦃s:Int⦄ ⦃e:(Unit)⊕(Int)⦄,aF (fun s=>dI s0 c s) s=some e→jB e (fun e=>jI Γ rv s0 c) (fun e=>e=rv)→jN Γ rv s0 c s:=by
 refine aY ?_
 intro v z_ h hI hE;simp only[dI,ay,an,ao]at h;rcases h with⟨h0,x0,h1,r,h2,⟨h3,h⟩|⟨h3,h⟩⟩|⟨h0,h⟩
 ·obtain rfl:=(hE h:_=rv);exact gr 14 [] [bT h0,cE aw.enc h1,cC (uv h2),bT h3]
 ·exact gn 16 [0,1,7,8] [] [bT h0,cE aw.enc h1,cC (uv h2),bF h3] (hI h)
 ·exact gn 5 [] [] [bF h0] (hE h)
theorem kC{s0 c}{rv:Int}(h:dZ s0 c=some rv):dd prog 266 [.one (lL 7 s0 aw.enc),.one (.fn (.func 251) [.ip (aw.enc c) 0])] [] (one (lI rv)) []:=by
 refine aP func266 fun Γ=>?_
 simp only[dZ,ay,an,ao]at h;obtain⟨e0,h4,h⟩:=h;refine gn 7 [0,1,7,8] [] [nL aw.enc s0] (jJ Γ rv h4 ?_);rcases e0 with e0|r1
 ·cases h;exact gr 2 [] []
 ·exact oK h
theorem e7{s0 c}{rv:Bool}(h:dG s0 c=some rv):dd prog 250 [.one (lL 7 s0 aw.enc),.one (.fn (.func 251) [.ip (aw.enc c) 0])] [] (one (.bool rv)) []:=by
 refine aP func250 fun Γ=>?_
 simp only[dG,ay,an,ao]at h;obtain⟨r,h0,h⟩:=h;cases h;exact gr 4 [] [cC (kC h0)]
def lZ(Γ:a5)(rv:List aw)(cf:Cf):Prop:=Go prog f225 [] Γ (one (lL 7 rv aw.enc)) [] cf
def B0(Γ:a5)(rv:List aw)(p:a7)(l:List aw)(done:Int)(gp:List Bool)(v:Int)(x0:aw)(l3:List aw)(v1:Int):Prop:=lZ Γ rv ⟨[.c 128204,.l 128204,.b 2,.b 1,.c 4007,.l 500,.b 0,.c 63],⟨64,[vI 2 done,vP 3 0 25,vL 7 1 gp dw,vO 8 1 7 l3 aw.enc,vP 10 2 7,vL 29 7 l aw.enc,vI 30 (aB l),vI 31 v,vL 35 1 gp dw,vI 36 (aB gp),vI 37 v1],[oX 25 232 (a7.enc p),oS 7 236 l3 aw.enc,oX 7 236 (aw.enc x0)]⟩⟩
def A3(Γ:a5)(rv:List aw)(p:a7)(l:List aw)(done:Int)(gp:List Bool)(v:Int)(x0:aw)(l4:List aw):Prop:=lZ Γ rv ⟨[.b 1,.c 4007,.l 500,.b 0,.c 63],⟨64,[vI 2 done,vP 3 0 25,vL 7 1 gp dw,vO 8 1 7 l4 aw.enc,vL 29 7 l aw.enc,vI 30 (aB l),vI 31 v],[oX 25 232 (a7.enc p),oS 7 236 l4 aw.enc]⟩⟩
def BZ(Γ:a5)(rv:List aw)(p:a7)(l:List aw)(done:Int)(gp:List Bool)(l2:List aw)(v:Int):Prop:=lZ Γ rv ⟨[.c 500,.l 500,.b 0,.c 63],⟨64,[vI 2 done,vP 3 0 25,vL 7 1 gp dw,vO 8 1 7 l2 aw.enc,vL 29 7 l aw.enc,vI 30 (aB l),vI 31 v],[oX 25 232 (a7.enc p),oS 7 236 l2 aw.enc]⟩⟩
def A1(Γ:a5)(rv:List aw)(p:a7)(l:List aw)(done:Int)(gp:List Bool)(l5:List aw):Prop:=lZ Γ rv ⟨[.c 63],⟨64,[vO 8 0 7 l5 aw.enc],[oS 7 236 l5 aw.enc]⟩⟩
theorem A4(Γ:a5)(rv:List aw){p l done gp v x0}:∀⦃s:List aw×Int⦄ ⦃e:List aw⦄,aF (fun s=>qw p l done gp v x0 s.1 s.2) s=some e→A3 Γ rv p l done gp v x0 e→B0 Γ rv p l done gp v x0 s.1 s.2:=by
 refine aY ?_
 rintro⟨l3,v1⟩ z_ h hI hE;simp only[qw,ay,an,ao]at h;rcases h with⟨h4,x1,h5,r,h6,⟨h7,r1,h8,⟨h9,h⟩|⟨h9,dq,h⟩⟩|⟨h7,h⟩⟩|⟨h4,h⟩
 ·exact gn 18 [2,3,7,8,10,29,30,31,35,36,37] [0,1,2] [bT h4,cE dw h5,cC (ll h6),rp 3 (bT h7),eL l3 aw.enc,cC (e7 h8),bT h7,bT h7,nF h9] (hI h)
 ·exact gn 18 [2,3,7,8,10,29,30,31,35,36,37] [0,5,2] [bT h4,cE dw h5,cC (ll h6),rp 3 (bT h7),eL l3 aw.enc,cC (e7 h8),bT h7,bT h7,nT h9,oO (Eq.refl ([r.1].map aw.enc).length),aO aw.enc dq] (hI h)
 ·exact gn 18 [2,3,7,8,10,29,30,31,35,36,37] [0,1,2] [bT h4,cE dw h5,cC (ll h6),rp 5 (bF h7),fF] (hI h)
 ·exact gn 5 [2,3,7,8,29,30,31] [0,1] [bF h4] (hE h)
theorem A2(Γ:a5)(rv:List aw){p l done gp}:∀⦃s:List aw×Int⦄ ⦃e:List aw⦄,aF (fun s=>qv p l done gp s.1 s.2) s=some e→A1 Γ rv p l done gp e→BZ Γ rv p l done gp s.1 s.2:=by
 refine aY ?_
 rintro⟨l2,v⟩ z_ h hI hE;simp only[qv,ay,an,ao]at h;rcases h with⟨h2,x0,h3,l4,fM,h⟩|⟨h2,h⟩
 ·refine gn 13 [2,3,7,8,10,29,30,31,35,36,37] [0,1,2] [bT h2,cE aw.enc h3,nL dw gp] (A4 Γ rv fM ?_);exact gn 3 [2,3,7,8,29,30,31] [0,1] [] (hI h)
 ·exact gn 5 [8] [1] [bF h2] (hE h)
theorem tf(Γ:a5)(rv:List aw){p l done gp}(h:ni p l done gp=some rv):lZ Γ rv ⟨[.c 15],⟨64,[vL 1 7 l aw.enc,vI 2 done,vP 3 0 25,vL 7 1 gp dw],[oX 25 232 (a7.enc p)]⟩⟩:=by
 simp only[ni,ay,an,ao]at h;obtain⟨l5,fN,h⟩:=h;refine gn 7 [2,3,7,8,29,30,31] [0,1] [nL aw.enc l,hW 3,hH (.kN 8 7 236)] (A2 Γ rv fN ?_);obtain rfl:=oK h;exact gr 2 [] [hW 4,hH (.iY 0),rp 3 (eL l5 aw.enc)]
theorem EK{p l done}{rv:List aw}(h:uR p l done=some rv):dd prog 225 [.agg (a7.enc p),.one (lL 7 l aw.enc),.one (lI done)] [] (one (lL 7 rv aw.enc)) []:=by
 refine aP func225 fun Γ=>?_
 simp only[uR,ay,an,ao]at h;rcases h with⟨h0,l1,h1,h⟩|⟨h0,h⟩
 ·exact gn 9 [1,2,3,7] [0] [nL dw p.r.fh,bT h0,hH (.rows (l1.map dw)),oO (Ha h1),oO (Hb h1),oO (uN dw h1),oO (Int.le_refl (aT .i64 done 1)),oO (uN dw h1),oO (Hc dw h1)] (tf Γ rv h)
 ·exact gn 9 [1,2,3,7] [0] [nL dw p.r.fh,bF h0,hW 1,hH (.iY 1),rp 2 (oO (Eq.refl ([false,true].map dw).length))] (tf Γ rv h)
def yY(Γ:a5)(rv:bz×Int)(cf:Cf):Prop:=Go prog f226 [] Γ (.pX [.agg [.bool rv.1.cK,lI rv.1.bW,lL 4 rv.1.Dc a6.enc,lI rv.1.p5,lI rv.1.dc],.one (lI rv.2)]) [] cf
def DD(Γ:a5)(rv:bz×Int)(p:a7)(fh:List Bool)(r:aw)(cK:Int)(x0:aw)(v:Int):Prop:=yY Γ rv ⟨[.c 116,.l 116,.b 0,.c 15],⟨36,[vP 2 0 25,vP 4 1 5,vP 6 2 7,vL 13 1 fh dw,vI 14 (aB fh),vI 15 v],[oX 25 232 [lL 1 p.x.b8.av bR,lL 6 p.x.b8.aI al.enc,lL 14 p.x.types ag.enc,lL 16 p.x.aj ab.enc,lL 2 p.x.cb aA.enc,lL 2 p.x.before aA.enc,.str p.t.name,lI p.t.dT,lI p.t.az,lI p.t.cw,lL 1 p.t.cap aq,lI p.t.aL,lI p.t.ai,lI p.t.aH,lI p.t.aQ,lI p.t.iU,lI cK,lI p.t.jm,lI p.t.eR,lI p.t.fO,lI p.r.bE,lI p.r.cS,lL 1 p.r.fh dw,lL 2 p.r.a8 af.enc,lL 4 p.zx aK.enc],oX 5 168 [.bool false,lI 0,.cM,lI 0,lI 0],oX 7 236 (aw.enc x0)]⟩⟩
def B1(Γ:a5)(rv:bz×Int)(p:a7)(fh:List Bool)(r x2:aw):Prop:=yY Γ rv ⟨[.c 15],⟨36,[vP 4 0 5,vP 6 1 7],[oX 5 168 [.bool false,lI 0,.cM,lI 0,lI 0],oX 7 236 (aw.enc x2)]⟩⟩
theorem B2(Γ:a5)(rv:bz×Int){p fh r}:∀⦃s:Int×aw×Int⦄ ⦃e:(aw)⊕(bz×Int)⦄,aF (fun s=>rD p fh r s.1 s.2.1 s.2.2) s=some e→jB e (fun e=>B1 Γ rv p fh r e) (fun e=>e=rv)→DD Γ rv p fh r s.1 s.2.1 s.2.2:=by
 refine aY ?_
 rintro⟨cK,x0,v⟩ z_ h hI hE;simp only[rD,ay,an,ao]at h;rcases h with⟨h1,x1,h2,r1,h3,⟨h4,h⟩|⟨h4,h⟩⟩|⟨h1,h⟩
 ·obtain rfl:=(hE h:_=rv);exact gr 17 [] [bT h1,cE dw h2,cC (ll h3),bT h4,hW 6,hH (.fg 1 2 4)]
 ·exact gn 20 [2,4,6,13,14,15] [0,1,2] [bT h1,cE dw h2,cC (ll h3),bF h4] (hI h)
 ·exact gn 5 [4,6] [1,2] [bF h1] (hE h)
theorem F4{p fh}{rv:bz×Int}(h:wA p fh=some rv):dd prog 226 [.agg (a7.enc p),.one (lL 1 fh dw)] [] (.pX [.agg [.bool rv.1.cK,lI rv.1.bW,lL 4 rv.1.Dc a6.enc,lI rv.1.p5,lI rv.1.dc],.one (lI rv.2)]) []:=by
 refine aP func226 fun Γ=>?_
 simp only[wA,ay,an,ao]at h;obtain⟨r,h0,e0,h5,h⟩:=h;refine gn 9 [2,4,6,13,14,15] [0,1,2] [cC (vi h0),nL dw fh] (B2 Γ rv h5 ?_);rcases e0 with x2|r2
 ·cases h;exact gr 2 [] []
 ·exact oK h
def vN(Γ:a5)(rv:bz×Int)(cf:Cf):Prop:=Go prog f199 [] Γ (.pX [.agg [.bool rv.1.cK,lI rv.1.bW,lL 4 rv.1.Dc a6.enc,lI rv.1.p5,lI rv.1.dc],.one (lI rv.2)]) [] cf
def IE(Γ:a5)(rv:bz×Int)(r:aX)(r1:a7×Bool)(l:List aw)(v:Int):Prop:=vN Γ rv ⟨[.c 1012,.l 1012,.b 0,.c 127],⟨82,[vP 3 0 4,vP 4 1 5,vP 6 2 25,vI 8 (aT .i64 (aB r.a8) 1),vL 9 7 l aw.enc,vI 38 (aT .i64 (aB r.a8) 1),vI 39 v],[oX 4 48 (aX.enc r),oX 5 168 [.bool false,lI 0,.cM,lI 0,lI 0],oX 25 232 (a7.enc r1.1)]⟩⟩
def Hl(Γ:a5)(rv:bz×Int)(r:aX)(r1:a7×Bool)(l1:List aw):Prop:=vN Γ rv ⟨[.c 127],⟨82,[vP 3 0 4,vP 4 1 5,vP 6 2 25,vI 8 (aT .i64 (aB r.a8) 1),vL 9 7 l1 aw.enc],[oX 4 48 (aX.enc r),oX 5 168 [.bool false,lI 0,.cM,lI 0,lI 0],oX 25 232 (a7.enc r1.1)]⟩⟩
def IF(Γ:a5)(rv:bz×Int)(l3:List aw)(x2:aw)(v1:Int):Prop:=vN Γ rv ⟨[.c 8180,.l 8180,.b 2,.c 1023],⟨82,[vP 4 0 5,vP 12 1 7,vL 65 7 l3 aw.enc,vI 66 (aB l3),vI 67 v1],[oX 5 168 [.bool false,lI 0,.cM,lI 0,lI 0],oX 7 236 (aw.enc x2)]⟩⟩
def Hn(Γ:a5)(rv:bz×Int)(l3:List aw)(x4:aw):Prop:=vN Γ rv ⟨[.c 1023],⟨82,[vP 4 0 5,vP 12 1 7],[oX 5 168 [.bool false,lI 0,.cM,lI 0,lI 0],oX 7 236 (aw.enc x4)]⟩⟩
theorem Hm(Γ:a5)(rv:bz×Int){r r1}:∀⦃s:List aw×Int⦄ ⦃e:List aw⦄,aF (fun s=>yl r r1 s.1 s.2) s=some e→Hl Γ rv r r1 e→IE Γ rv r r1 s.1 s.2:=by
 refine aY ?_
 rintro⟨l,v⟩ z_ h hI hE;simp only[yl,ay,an,ao]at h;rcases h with⟨h3,r3,h4,h⟩|⟨h3,h⟩
 ·exact gn 13 [3,4,6,8,9,38,39] [0,1,2] [bT h3,cC (EK h4)] (hI h)
 ·exact gn 5 [3,4,6,8,9] [0,1,2] [bF h3] (hE h)
theorem Ho(Γ:a5)(rv:bz×Int){l3}:∀⦃s:aw×Int⦄ ⦃e:aw⦄,aF (fun s=>ym l3 s.1 s.2) s=some e→Hn Γ rv l3 e→IF Γ rv l3 s.1 s.2:=by
 refine aY ?_
 rintro⟨x2,v1⟩ z_ h hI hE;simp only[ym,ay,an,ao]at h;rcases h with⟨fM,x3,fN,⟨gC,h⟩|⟨gC,h⟩⟩|⟨fM,h⟩
 ·exact gn 16 [4,12,65,66,67] [0,1] [bT fM,cE aw.enc fN,bT gC] (hI h)
 ·exact gn 16 [4,12,65,66,67] [0,1] [bT fM,cE aw.enc fN,bF gC] (hI h)
 ·exact gn 5 [4,12] [0,1] [bF fM] (hE h)
theorem Ep{x0 r}{rv:bz×Int}(h:EI x0 r=some rv):dd prog 199 [.agg (ae.enc x0),.agg (aX.enc r)] [] (.pX [.agg [.bool rv.1.cK,lI rv.1.bW,lL 4 rv.1.Dc a6.enc,lI rv.1.p5,lI rv.1.dc],.one (lI rv.2)]) []:=by
 refine aP func199 fun Γ=>?_
 simp only[EI,ay,an,ao]at h;rcases h with⟨r1,h0,⟨h1,h⟩|⟨h1,r2,h2,l1,h5,h⟩⟩
 ·cases h;exact gr 12 [] [cC (Er h0),nL af.enc r.a8,hP,hP,hP,rp 2 (oI ((!r1.2)=false)),nL dw r.fh,hP,hP,hP,rp 2 (oI ((!r1.2)=false)),oR True ((!r1.2)=false),bT h1,hW 5,hH (.fg 2 2 4)]
 ·refine gn 18 [3,4,6,8,9,38,39] [1,2,3] [cC (Er h0),nL af.enc r.a8,hP,hP,hP,rp 2 (oI ((!r1.2)=false)),nL dw r.fh,hP,hP,hP,rp 2 (oI ((!r1.2)=false)),oR True ((!r1.2)=false),bF h1,cC (vi h2),hW 9,hH (.iY 4),rp 2 (oO (Eq.refl ([r2].map aw.enc).length))] (Hm Γ rv h5 ?_);rcases h with⟨h6,l2,h7,r4,h8,h⟩|⟨h6,x1,h9,l3,dq,x4,iH,h⟩
  ·cases h;exact gr 10 [] [nL aw.enc l1,bT h6,hH (.cells [.bool false]),hH (.rows (l2.map dw)),oO (Xa h7),oO (Yk h7),oO (Xb h7),oO (Xc h7),oO (Xd dw h7),cY dw l2 r.fh,hH (.re 3 ((Mo l2 r.fh).map dw).length),hW 4,hH (.iY 3),rp 3 (oO (Yh dw l2 r.fh)),rp 4 (oO (Eq.refl ((Mo l2 r.fh).map dw).length)),cC (F4 h8)]
  ·refine gn 12 [4,12,65,66,67] [1,3] [nL aw.enc l1,bF h6,cE aw.enc h9,hH (.rows (l3.map aw.enc)),oO (Ha dq),oO (Qau aw.enc dq),rp 3 (oO (Int.le_refl ((l1.map aw.enc).length:Int))),oO (Qav aw.enc dq),nL aw.enc l3] (Ho Γ rv iH ?_);cases h;exact gr 2 [] []
theorem pv{kind own}{rv:Bool}(h:ug kind own=some rv):dd prog 227 [.one (lI kind),.one (lI own)] [] (one (.bool rv)) []:=by
 refine aP func227 fun Γ=>?_
 simp only[ug,ay,an,ao]at h;cases h;exact gr 4 [] [rp 4 hP,rp 2 (oI ((bK kind (-1))=true)),oR True ((bK kind (-1))=true)]
def yC(Γ:a5)(rv:dC)(cf:Cf):Prop:=Go prog f200 [] Γ (gG [lI rv.zJ,lI rv.oE,lI rv.ng,lI rv.QE]) [] cf
def zi(Γ:a5)(rv:dC)(x0:ae)(r:aX)(s0:bz)(x1:ag)(l:List (Int×Int))(oE ng v:Int):Prop:=yC Γ rv ⟨[.c 4084,.l 4084,.b 0,.c 511],⟨114,[vP 3 0 6,vP 4 1 4,vP 6 2 4,vP 10 3 4,(11,one (.mp 4)),vL 59 2 r.a8 af.enc,vI 60 (aB r.a8),vI 61 v],[oX 6 30 (ae.enc x0),oX 4 48 (aX.enc r),oX 4 170 [lI 0,lI 0,lI 0,lI 0],oX 4 170 [lI (aT .i64 (aT .i64 x1.jm (sx .i64 x1.eR s0.dc)) (sx .i64 x1.fO (dA .i64 s0.p5 x1.aH))),lI oE,lI ng,lI (sx .i64 (vX .i64 (dA .i64 s0.p5 x1.aH) 64) (vX .i64 (dA .i64 s0.p5 x1.aH) 64))],oM 241 l (mE kI lI)]⟩⟩
def x8(Γ:a5)(rv:dC)(x0:ae)(r:aX)(s0:bz)(x1:ag)(MN MW:Int):Prop:=yC Γ rv ⟨[.c 511],⟨114,[vP 6 0 4,vP 10 1 4],[oX 4 170 [lI 0,lI 0,lI 0,lI 0],oX 4 170 [lI (aT .i64 (aT .i64 x1.jm (sx .i64 x1.eR s0.dc)) (sx .i64 x1.fO (dA .i64 s0.p5 x1.aH))),lI MN,lI MW,lI (sx .i64 (vX .i64 (dA .i64 s0.p5 x1.aH) 64) (vX .i64 (dA .i64 s0.p5 x1.aH) 64))]]⟩⟩
theorem xZ(Γ:a5)(rv:dC){x0 r s0 x1 l ng v x2 x3 J6}{x:(List (Int×Int)×Int×Int×Int)⊕(Int×Int)}(h:sK x0 r s0 x1 l ng v x2 x3 J6=some x)(hI:∀⦃s:List (Int×Int)×Int×Int×Int⦄,some (.inl s)=some x→zi Γ rv x0 r s0 x1 s.1 s.2.1 s.2.2.1 s.2.2.2)(hE:∀⦃e:Int×Int⦄,some (.inr e)=some x→x8 Γ rv x0 r s0 x1 e.1 e.2):yC Γ rv ⟨[.c 2091423,.b 1,.c 32679,.l 4084,.b 0,.c 511],⟨114,[vP 3 0 6,vP 4 1 4,vP 6 2 4,vP 10 3 4,(11,one (.mp 4)),vP 14 5 16,vL 59 2 r.a8 af.enc,vI 60 (aB r.a8),vI 61 v],[oX 6 30 (ae.enc x0),oX 4 48 (aX.enc r),oX 4 170 [lI 0,lI 0,lI 0,lI 0],oX 4 170 [lI (aT .i64 (aT .i64 x1.jm (sx .i64 x1.eR s0.dc)) (sx .i64 x1.fO (dA .i64 s0.p5 x1.aH))),lI J6,lI ng,lI (sx .i64 (vX .i64 (dA .i64 s0.p5 x1.aH) 64) (vX .i64 (dA .i64 s0.p5 x1.aH) 64))],oM 241 (sw aW l x2.cR (aT .i64 (oH aW l x2.cR 0) 1)) (mE kI lI),oX 16 56 (ab.enc x3)]⟩⟩:=by
 simp only[sK,ay,an,ao]at h;rcases h with⟨r2,h9,⟨dq,h⟩|⟨dq,h⟩⟩
 ·exact gn 7 [3,4,6,10,11,59,60,61] [0,1,2,3,4] [cC (pv h9),bT dq] (hI h)
 ·exact gn 7 [3,4,6,10,11,59,60,61] [0,1,2,3,4] [cC (pv h9),bF dq] (hI h)
theorem GI(Γ:a5)(rv:dC){x0 r s0 x1}:∀⦃s:List (Int×Int)×Int×Int×Int⦄ ⦃e:Int×Int⦄,aF (fun s=>wX x0 r s0 x1 s.1 s.2.1 s.2.2.1 s.2.2.2) s=some e→x8 Γ rv x0 r s0 x1 e.1 e.2→zi Γ rv x0 r s0 x1 s.1 s.2.1 s.2.2.1 s.2.2.2:=by
 refine aY ?_
 rintro⟨l,oE,ng,v⟩ z_ h hI hE;simp only[wX,ay,an,ao]at h;rcases h with⟨h2,x2,h3,⟨h4,h⟩|⟨h4,⟨h5,h⟩|⟨h5,x3,h6,r1,h7,⟨h8,h⟩|⟨h8,h⟩⟩⟩⟩|⟨h2,h⟩
 ·exact gn 18 [3,4,6,10,11,59,60,61] [0,1,2,3,4] [bT h2,cE af.enc h3,mG Ui lI l x2.cR 0,mU Ui lI l x2.cR (aT .i64 (oH aW l x2.cR 0) 1),rp 5 hP,rp 3 (oI ((aS x2.cR 0)=false)),nL ab.enc x0.aj,hP,hP,rp 2 (oI ((aS x2.cR 0)=false)),oR True ((aS x2.cR 0)=false),rp 6 (bT h4),tT] (hI h)
 ·exact gn 18 [3,4,6,10,11,59,60,61] [0,1,2,3,4] [bT h2,cE af.enc h3,mG Ui lI l x2.cR 0,mU Ui lI l x2.cR (aT .i64 (oH aW l x2.cR 0) 1),rp 5 hP,rp 3 (oI ((aS x2.cR 0)=false)),nL ab.enc x0.aj,hP,hP,rp 2 (oI ((aS x2.cR 0)=false)),oR True ((aS x2.cR 0)=false),rp 4 (bF h4),mG Ui lI (sw aW l x2.cR (aT .i64 (oH aW l x2.cR 0) 1)) x2.cR 0,bF h4,bF h4,bT h5] (hI h)
 ·exact gn 23 [3,4,6,10,11,14,59,60,61] [0,1,2,3,4,6] [bT h2,cE af.enc h3,mG Ui lI l x2.cR 0,mU Ui lI l x2.cR (aT .i64 (oH aW l x2.cR 0) 1),rp 5 hP,rp 3 (oI ((aS x2.cR 0)=false)),nL ab.enc x0.aj,hP,hP,rp 2 (oI ((aS x2.cR 0)=false)),oR True ((aS x2.cR 0)=false),rp 4 (bF h4),mG Ui lI (sw aW l x2.cR (aT .i64 (oH aW l x2.cR 0) 1)) x2.cR 0,bF h4,bF h4,bF h5,cE ab.enc h6,cC (pv h7),bT h8] (xZ Γ rv h hI hE)
 ·exact gn 23 [3,4,6,10,11,14,59,60,61] [0,1,2,3,4,6] [bT h2,cE af.enc h3,mG Ui lI l x2.cR 0,mU Ui lI l x2.cR (aT .i64 (oH aW l x2.cR 0) 1),rp 5 hP,rp 3 (oI ((aS x2.cR 0)=false)),nL ab.enc x0.aj,hP,hP,rp 2 (oI ((aS x2.cR 0)=false)),oR True ((aS x2.cR 0)=false),rp 4 (bF h4),mG Ui lI (sw aW l x2.cR (aT .i64 (oH aW l x2.cR 0) 1)) x2.cR 0,bF h4,bF h4,bF h5,cE ab.enc h6,cC (pv h7),bF h8] (xZ Γ rv h hI hE)
 ·exact gn 5 [6,10] [2,3] [bF h2] (hE h)
theorem Kc{x0 r s0}{rv:dC}(h:CB x0 r s0=some rv):dd prog 200 [.agg (ae.enc x0),.agg (aX.enc r),.agg (bz.enc s0)] [] (gG [lI rv.zJ,lI rv.oE,lI rv.ng,lI rv.QE]) []:=by
 refine aP func200 fun Γ=>?_
 simp only[CB,ay,an,ao]at h;rcases h with⟨h0,h⟩|⟨h0,x1,h1,⟨MN,MW⟩,fM,h⟩
 ·cases h;exact gr 8 [] [rp 5 hP,rp 3 (oI ((aS r.bE 0)=false)),nL ag.enc x0.types,hP,hP,rp 2 (oI ((aS r.bE 0)=false)),oR True ((aS r.bE 0)=false),bT h0]
 ·refine gn 22 [3,4,6,10,11,59,60,61] [0,1,3,5,6] [rp 5 hP,rp 3 (oI ((aS r.bE 0)=false)),nL ag.enc x0.types,hP,hP,rp 2 (oI ((aS r.bE 0)=false)),oR True ((aS r.bE 0)=false),bF h0,cE ag.enc h1,oO (oA (n:=64)),nL af.enc r.a8] (GI Γ rv fM ?_);cases h;exact gr 2 [] []
theorem yb{x0 r}{rv:bz×dC×Int}(h:w4 x0 r=some rv):dd prog 173 [.agg (ae.enc x0),.agg (aX.enc r)] [] (.pX [.agg [.bool rv.1.cK,lI rv.1.bW,lL 4 rv.1.Dc a6.enc,lI rv.1.p5,lI rv.1.dc],.agg [lI rv.2.1.zJ,lI rv.2.1.oE,lI rv.2.1.ng,lI rv.2.1.QE],.one (lI rv.2.2)]) []:=by
 refine aP func173 fun Γ=>?_
 simp only[w4,ay,an,ao]at h;rcases h with⟨h0,h⟩|⟨h0,r1,h1,⟨h2,h⟩|⟨h2,r2,h3,⟨h4,h⟩|⟨h4,r3,h5,⟨h6,h⟩|⟨h6,r4,h7,⟨h8,h⟩|⟨h8,r5,h9,h⟩⟩⟩⟩⟩
 ·cases h;exact gr 8 [] [rp 5 hP,rp 3 (oI ((aS r.bE 0)=false)),nL ag.enc x0.types,hP,hP,rp 2 (oI ((aS r.bE 0)=false)),oR True ((aS r.bE 0)=false),bT h0,hW 7,hH (.fg 2 2 4)]
 ·cases h;exact gr 28 [] [rp 5 hP,rp 3 (oI ((aS r.bE 0)=false)),nL ag.enc x0.types,hP,hP,rp 2 (oI ((aS r.bE 0)=false)),oR True ((aS r.bE 0)=false),bF h0,nL rF [196,197,198],tT,oO (eW (rfl:a4 ([196,197,198]:List Nat) 0=some 196)),oO (eV rF (rfl:a4 ([196,197,198]:List Nat) 0=some 196)),rE rF (rfl:a4 ([196,197,198]:List Nat) 0=some 196),cC (gO h1),bT h2,hW 8,hH (.fg 2 2 4)]
 ·cases h;exact gr 46 [] [rp 5 hP,rp 3 (oI ((aS r.bE 0)=false)),nL ag.enc x0.types,hP,hP,rp 2 (oI ((aS r.bE 0)=false)),oR True ((aS r.bE 0)=false),bF h0,nL rF [196,197,198],tT,oO (eW (rfl:a4 ([196,197,198]:List Nat) 0=some 196)),oO (eV rF (rfl:a4 ([196,197,198]:List Nat) 0=some 196)),rE rF (rfl:a4 ([196,197,198]:List Nat) 0=some 196),cC (gO h1),bF h2,tT,oO (eW (rfl:a4 ([196,197,198]:List Nat) 1=some 197)),oO (eV rF (rfl:a4 ([196,197,198]:List Nat) 1=some 197)),rE rF (rfl:a4 ([196,197,198]:List Nat) 1=some 197),cC (ui h3),bT h4,hW 8,hH (.fg 2 2 4)]
 ·cases h;exact gr 64 [] [rp 5 hP,rp 3 (oI ((aS r.bE 0)=false)),nL ag.enc x0.types,hP,hP,rp 2 (oI ((aS r.bE 0)=false)),oR True ((aS r.bE 0)=false),bF h0,nL rF [196,197,198],tT,oO (eW (rfl:a4 ([196,197,198]:List Nat) 0=some 196)),oO (eV rF (rfl:a4 ([196,197,198]:List Nat) 0=some 196)),rE rF (rfl:a4 ([196,197,198]:List Nat) 0=some 196),cC (gO h1),bF h2,tT,oO (eW (rfl:a4 ([196,197,198]:List Nat) 1=some 197)),oO (eV rF (rfl:a4 ([196,197,198]:List Nat) 1=some 197)),rE rF (rfl:a4 ([196,197,198]:List Nat) 1=some 197),cC (ui h3),bF h4,tT,oO (eW (rfl:a4 ([196,197,198]:List Nat) 2=some 198)),oO (eV rF (rfl:a4 ([196,197,198]:List Nat) 2=some 198)),rE rF (rfl:a4 ([196,197,198]:List Nat) 2=some 198),cC (yk h5),bT h6,hW 8,hH (.fg 2 2 4)]
 ·cases h;exact gr 79 [] [rp 5 hP,rp 3 (oI ((aS r.bE 0)=false)),nL ag.enc x0.types,hP,hP,rp 2 (oI ((aS r.bE 0)=false)),oR True ((aS r.bE 0)=false),bF h0,nL rF [196,197,198],tT,oO (eW (rfl:a4 ([196,197,198]:List Nat) 0=some 196)),oO (eV rF (rfl:a4 ([196,197,198]:List Nat) 0=some 196)),rE rF (rfl:a4 ([196,197,198]:List Nat) 0=some 196),cC (gO h1),bF h2,tT,oO (eW (rfl:a4 ([196,197,198]:List Nat) 1=some 197)),oO (eV rF (rfl:a4 ([196,197,198]:List Nat) 1=some 197)),rE rF (rfl:a4 ([196,197,198]:List Nat) 1=some 197),cC (ui h3),bF h4,tT,oO (eW (rfl:a4 ([196,197,198]:List Nat) 2=some 198)),oO (eV rF (rfl:a4 ([196,197,198]:List Nat) 2=some 198)),rE rF (rfl:a4 ([196,197,198]:List Nat) 2=some 198),cC (yk h5),bF h6,fF,cC (Ep h7),bT h8,hW 8,hH (.fg 2 2 4)]
 ·cases h;exact gr 80 [] [rp 5 hP,rp 3 (oI ((aS r.bE 0)=false)),nL ag.enc x0.types,hP,hP,rp 2 (oI ((aS r.bE 0)=false)),oR True ((aS r.bE 0)=false),bF h0,nL rF [196,197,198],tT,oO (eW (rfl:a4 ([196,197,198]:List Nat) 0=some 196)),oO (eV rF (rfl:a4 ([196,197,198]:List Nat) 0=some 196)),rE rF (rfl:a4 ([196,197,198]:List Nat) 0=some 196),cC (gO h1),bF h2,tT,oO (eW (rfl:a4 ([196,197,198]:List Nat) 1=some 197)),oO (eV rF (rfl:a4 ([196,197,198]:List Nat) 1=some 197)),rE rF (rfl:a4 ([196,197,198]:List Nat) 1=some 197),cC (ui h3),bF h4,tT,oO (eW (rfl:a4 ([196,197,198]:List Nat) 2=some 198)),oO (eV rF (rfl:a4 ([196,197,198]:List Nat) 2=some 198)),rE rF (rfl:a4 ([196,197,198]:List Nat) 2=some 198),cC (yk h5),bF h6,fF,cC (Ep h7),bF h8,hH (.draw 5 []),cC (Kc h9)]
theorem mY{s0}{rv:Pp}(h:CC s0=some rv):dd prog 201 [.agg (dC.enc s0)] [] (gG [lI rv.x0,lI rv.x1,lI rv.x2,lI rv.x3]) []:=by
 refine aP func201 fun Γ=>?_
 simp only[CC,ay,an,ao]at h;cases h;exact gr 4 [] []
theorem IQ{s0}{rv:Int×Int}(h:Ar s0=some rv):dd prog 174 [.agg (dC.enc s0)] [] (.pX [.one (lI rv.1),.one (lI rv.2)]) []:=by
 refine aP func174 fun Γ=>?_
 simp only[Ar,ay,an,ao]at h;rcases h with⟨r,h0,⟨h1,h⟩|⟨h1,⟨h2,h⟩|⟨h2,⟨h3,h⟩|⟨h3,⟨h4,h⟩|⟨h4,⟨h5,h⟩|⟨h5,h⟩⟩⟩⟩⟩⟩
 ·cases h;exact gr 23 [] [cC (mY h0),tT,oO (zL 0),oO (lT 0 4),bT h1]
 ·cases h;exact gr 39 [] [cC (mY h0),tT,oO (zL 0),oO (lT 0 4),bF h1,tT,oO (zL 1),oO (lT 1 4),bT h2]
 ·cases h;exact gr 55 [] [cC (mY h0),tT,oO (zL 0),oO (lT 0 4),bF h1,tT,oO (zL 1),oO (lT 1 4),bF h2,tT,oO (zL 2),oO (lT 2 4),bT h3]
 ·cases h;exact gr 71 [] [cC (mY h0),tT,oO (zL 0),oO (lT 0 4),bF h1,tT,oO (zL 1),oO (lT 1 4),bF h2,tT,oO (zL 2),oO (lT 2 4),bF h3,tT,oO (zL 3),oO (lT 3 4),bT h4]
 ·cases h;exact gr 84 [] [cC (mY h0),tT,oO (zL 0),oO (lT 0 4),bF h1,tT,oO (zL 1),oO (lT 1 4),bF h2,tT,oO (zL 2),oO (lT 2 4),bF h3,tT,oO (zL 3),oO (lT 3 4),bF h4,fF,rp 12 hP,rp 2 (oI ((bU s0.zJ 1073741824)=false)),oR True ((bU s0.zJ 1073741824)=false),rp 2 (oI (((bU s0.zJ 1073741824)||(bP s0.oE 16))=false)),oR True (((bU s0.zJ 1073741824)||(bP s0.oE 16))=false),rp 2 (oI ((((bU s0.zJ 1073741824)||(bP s0.oE 16))||(bP s0.ng 16))=false)),oR True ((((bU s0.zJ 1073741824)||(bP s0.oE 16))||(bP s0.ng 16))=false),bT h5]
 ·cases h;exact gr 85 [] [cC (mY h0),tT,oO (zL 0),oO (lT 0 4),bF h1,tT,oO (zL 1),oO (lT 1 4),bF h2,tT,oO (zL 2),oO (lT 2 4),bF h3,tT,oO (zL 3),oO (lT 3 4),bF h4,fF,rp 12 hP,rp 2 (oI ((bU s0.zJ 1073741824)=false)),oR True ((bU s0.zJ 1073741824)=false),rp 2 (oI (((bU s0.zJ 1073741824)||(bP s0.oE 16))=false)),oR True (((bU s0.zJ 1073741824)||(bP s0.oE 16))=false),rp 2 (oI ((((bU s0.zJ 1073741824)||(bP s0.oE 16))||(bP s0.ng 16))=false)),oR True ((((bU s0.zJ 1073741824)||(bP s0.oE 16))||(bP s0.ng 16))=false),bF h5]
theorem CL{x0 r}{rv:Int×Int}(h:CK x0 r=some rv):dd prog 138 [.agg (ae.enc x0),.agg (aX.enc r)] [] (.pX [.one (lI rv.1),.one (lI rv.2)]) []:=by
 refine aP func138 fun Γ=>?_
 simp only[CK,ay,an,ao]at h;rcases h with⟨r1,h0,⟨h1,h⟩|⟨h1,r2,h2,h⟩⟩
 ·cases h;exact gr 10 [] [cC (yb h0),bT h1]
 ·cases h;exact gr 11 [] [cC (yb h0),bF h1,cC (IQ h2)]
theorem tA{v}{rv:Int}(h:nB v=some rv):dd prog 228 [.agg (af.enc v)] [] (one (lI rv)) []:=by
 refine aP func228 fun Γ=>?_
 simp only[nB,ay,an,ao]at h;rcases h with⟨h0,h⟩|⟨h0,h⟩
 ·obtain rfl:=oK h;exact gr 8 [] [bT h0]
 ·obtain rfl:=oK h;exact gr 9 [] [bF h0]
def Eo(Γ:a5)(rv:Int)(cf:Cf):Prop:=Go prog f229 [] Γ (one (lI rv)) [] cf
def Hj(Γ:a5)(rv:Int)(oq:List Int)(v:Int):Prop:=Eo Γ rv ⟨[.c 116,.l 116,.b 0,.c 15],⟨18,[vI 3 0,vL 6 1 oq aq,vI 7 (aB oq),vI 8 v],[]⟩⟩
def FX(Γ:a5)(rv:Int)(oq:List Int):Prop:=Eo Γ rv ⟨[.c 15],⟨18,[vI 3 0],[]⟩⟩
theorem FY(Γ:a5)(rv:Int){oq}:∀⦃s:Int⦄ ⦃e:(Unit)⊕(Int)⦄,aF (fun s=>wy oq s) s=some e→jB e (fun e=>FX Γ rv oq) (fun e=>e=rv)→Hj Γ rv oq s:=by
 refine aY ?_
 intro v z_ h hI hE;simp only[wy,ay,an,ao]at h;rcases h with⟨h0,x0,h1,⟨h2,h⟩|⟨h2,h⟩⟩|⟨h0,h⟩
 ·obtain rfl:=(hE h:_=rv);exact gr 14 [] [bT h0,cE aq h1,bT h2]
 ·exact gn 16 [3,6,7,8] [] [bT h0,cE aq h1,bF h2] (hI h)
 ·exact gn 5 [3] [] [bF h0] (hE h)
theorem Jy{oq}{rv:Int}(h:BV oq=some rv):dd prog 229 [.one (lL 1 oq aq)] [] (one (lI rv)) []:=by
 refine aP func229 fun Γ=>?_
 simp only[BV,ay,an,ao]at h;obtain⟨e0,h3,h⟩:=h;refine gn 9 [3,6,7,8] [] [nL aq oq] (FY Γ rv h3 ?_);rcases e0 with e0|r
 ·obtain rfl:=oK h;exact gr 2 [] []
 ·exact oK h
theorem dS{x0}{rv:Bool}(h:rz x0=some rv):dd prog 253 [.one (lI x0)] [] (one (.bool rv)) []:=by
 refine aP func253 fun Γ=>?_
 simp only[rz,ay,an,ao]at h;cases h;exact gr 4 [] []
theorem vh{x0 y}{rv:Int}(h:pc x0 y=some rv):dd prog 230 [.one (lI x0),.one (lI y)] [] (one (lI rv)) []:=by
 refine aP func230 fun Γ=>?_
 simp only[pc,ay,an,ao]at h;rcases h with⟨r,h0,r1,h1,⟨h2,⟨h3,h⟩|⟨h3,h⟩⟩|⟨h2,⟨h4,h⟩|⟨h4,⟨h5,h⟩|⟨h5,⟨h6,h⟩|⟨h6,h⟩⟩⟩⟩⟩
 ·obtain rfl:=oK h;exact gr 16 [] [cC (dS h0),cC (dS h1),bT h2,bT h3]
 ·cases h;exact gr 17 [] [cC (dS h0),cC (dS h1),bT h2,bF h3]
 ·obtain rfl:=oK h;exact gr 17 [] [cC (dS h0),cC (dS h1),bF h2,bT h4]
 ·cases h;exact gr 22 [] [cC (dS h0),cC (dS h1),bF h2,bF h4,bT h5]
 ·obtain rfl:=oK h;exact gr 27 [] [cC (dS h0),cC (dS h1),bF h2,bF h4,bF h5,bT h6]
 ·obtain rfl:=oK h;exact gr 28 [] [cC (dS h0),cC (dS h1),bF h2,bF h4,bF h5,bF h6]
theorem vH{a b}{rv:Int}(h:ud a b=some rv):dd prog 203 [.agg (af.enc a),.agg (af.enc b)] [] (one (lI rv)) []:=by
 refine aP func203 fun Γ=>?_
 simp only[ud,ay,an,ao]at h;obtain⟨r,h0,r1,h1,r2,h2,r3,h3,r4,h4,h⟩:=h;obtain rfl:=oK h;exact gr 6 [] [hH (.draw 15 []),cC (vh h0),cC (tA h1),cC (tA h2),cC (vh h3),oO (Eq.refl ([r,r3].map aq).length),cC (Jy h4)]
def dv(Γ:a5)(rv:Int)(cf:Cf):Prop:=Go prog f202 [] Γ (one (lI rv)) [] cf
def fL(Γ:a5)(rv:Int)(s1 s2:List af)(v:Int):Prop:=dv Γ rv ⟨[.c 52,.l 52,.b 0,.c 7],⟨39,[vL 0 2 s1 af.enc,vL 1 2 s2 af.enc,(2,one (.fn (.func 203) [])),vL 11 2 s1 af.enc,vI 12 (aB s1),vI 13 v],[]⟩⟩
def fI(Γ:a5)(rv:Int)(s1 s2:List af):Prop:=dv Γ rv ⟨[.c 7],⟨39,[vL 0 2 s1 af.enc,vL 1 2 s2 af.enc],[]⟩⟩
theorem fJ(Γ:a5)(rv:Int){s1 s2}:∀⦃s:Int⦄ ⦃e:(Unit)⊕(Int)⦄,aF (fun s=>b9 s1 s2 s) s=some e→jB e (fun e=>fI Γ rv s1 s2) (fun e=>e=rv)→fL Γ rv s1 s2 s:=by
 refine aY ?_
 intro v z_ h hI hE;simp only[b9,ay,an,ao]at h;rcases h with⟨h0,x0,h1,⟨h2,h⟩|⟨h2,x1,h3,r,h4,⟨h5,h⟩|⟨h5,h⟩⟩⟩|⟨h0,h⟩
 ·obtain rfl:=(hE h:_=rv);exact gr 15 [] [bT h0,cE af.enc h1,nL af.enc s2,bT h2]
 ·obtain rfl:=(hE h:_=rv);exact gr 23 [] [bT h0,cE af.enc h1,nL af.enc s2,bF h2,cE af.enc h3,cC (vH h4),bT h5]
 ·exact gn 25 [0,1,2,11,12,13] [] [bT h0,cE af.enc h1,nL af.enc s2,bF h2,cE af.enc h3,cC (vH h4),bF h5] (hI h)
 ·exact gn 5 [0,1] [] [bF h0] (hE h)
theorem fZ{s1 s2}{rv:Int}(h:cq s1 s2=some rv):dd prog 202 [.one (lL 2 s1 af.enc),.one (lL 2 s2 af.enc),.one (.fn (.func 203) [])] [] (one (lI rv)) []:=by
 refine aP func202 fun Γ=>?_
 simp only[cq,ay,an,ao]at h;obtain⟨e0,h6,h⟩:=h;refine gn 7 [0,1,2,11,12,13] [] [nL af.enc s1] (fJ Γ rv h6 ?_);rcases e0 with e0|r1
 ·simp only[iB,ay,an,ao]at h;rcases h with⟨h7,h⟩|⟨h7,h⟩
  ·cases h;exact gr 6 [] [nL af.enc s1,nL af.enc s2,bT h7]
  ·obtain rfl:=oK h;exact gr 7 [] [nL af.enc s1,nL af.enc s2,bF h7]
 ·exact oK h
theorem H2{a b}{rv:Bool}(h:yL a b=some rv):dd prog 175 [.one (lL 2 a af.enc),.one (lL 2 b af.enc)] [] (one (.bool rv)) []:=by
 refine aP func175 fun Γ=>?_
 simp only[yL,ay,an,ao]at h;obtain⟨r,h0,h⟩:=h;cases h;exact gr 4 [] [cC (fZ h0)]
theorem BO{a b}{rv:Bool}(h:BN a b=some rv):dd prog 140 [.agg (aU.enc a),.agg (aU.enc b)] [] (one (.bool rv)) []:=by
 refine aP func140 fun Γ=>?_
 simp only[BN,ay,an,ao]at h;rcases h with⟨h0,h⟩|⟨h0,r,h1,h⟩
 ·cases h;exact gr 8 [] [bT h0]
 ·obtain rfl:=oK h;exact gr 9 [] [bF h0,cC (H2 h1)]
def k8(Γ:a5)(rv:Bool)(cf:Cf):Prop:=Go prog f176 [] Γ (one (.bool rv)) [] cf
def Ec(Γ:a5)(rv:Bool)(x0:ae)(l:List af)(v:af)(r1:List af)(v1:Int):Prop:=k8 Γ rv ⟨[.c 116,.l 116,.b 0,.c 15],⟨63,[vL 1 2 l af.enc,vP 3 0 6,vP 5 1 2,vL 21 2 r1 af.enc,vI 22 (aB r1),vI 23 v1],[oX 6 30 (ae.enc x0),oX 2 138 (af.enc v)]⟩⟩
def CY(Γ:a5)(rv:Bool)(x0:ae)(l:List af)(v:af)(r1:List af):Prop:=k8 Γ rv ⟨[.c 15],⟨63,[vL 1 2 l af.enc,vP 3 0 6,vP 5 1 2],[oX 6 30 (ae.enc x0),oX 2 138 (af.enc v)]⟩⟩
def Ee(Γ:a5)(rv:Bool)(x0:ae)(l:List af)(v:af)(v2:Int)(r3:List af)(v3:Int):Prop:=k8 Γ rv ⟨[.c 125340,.l 125340,.b 4,.b 3,.c 1959,.l 244,.b 2,.c 31],⟨63,[vL 1 2 l af.enc,vP 3 0 6,vP 5 1 2,vL 36 2 x0.before aA.enc,vI 37 (aB x0.before),vI 38 v2,vL 51 2 r3 af.enc,vI 52 (aB r3),vI 53 v3],[oX 6 30 (ae.enc x0),oX 2 138 (af.enc v)]⟩⟩
def C3(Γ:a5)(rv:Bool)(x0:ae)(l:List af)(v:af)(v2:Int)(r3:List af):Prop:=k8 Γ rv ⟨[.b 3,.c 1959,.l 244,.b 2,.c 31],⟨63,[vL 1 2 l af.enc,vP 3 0 6,vP 5 1 2,vL 36 2 x0.before aA.enc,vI 37 (aB x0.before),vI 38 v2],[oX 6 30 (ae.enc x0),oX 2 138 (af.enc v)]⟩⟩
def Ed(Γ:a5)(rv:Bool)(x0:ae)(l:List af)(v:af)(v2:Int):Prop:=k8 Γ rv ⟨[.c 244,.l 244,.b 2,.c 31],⟨63,[vL 1 2 l af.enc,vP 3 0 6,vP 5 1 2,vL 36 2 x0.before aA.enc,vI 37 (aB x0.before),vI 38 v2],[oX 6 30 (ae.enc x0),oX 2 138 (af.enc v)]⟩⟩
def C0(Γ:a5)(rv:Bool)(x0:ae)(l:List af)(v:af):Prop:=k8 Γ rv ⟨[.c 31],⟨63,[],[]⟩⟩
theorem CZ(Γ:a5)(rv:Bool){x0 l v r1}:∀⦃s:Int⦄ ⦃e:(Unit)⊕(Bool)⦄,aF (fun s=>sT x0 l v r1 s) s=some e→jB e (fun e=>CY Γ rv x0 l v r1) (fun e=>e=rv)→Ec Γ rv x0 l v r1 s:=by
 refine aY ?_
 intro v1 z_ h hI hE;simp only[sT,ay,an,ao]at h;rcases h with⟨h3,x1,h4,⟨h5,h⟩|⟨h5,r2,h6,⟨h7,h⟩|⟨h7,h⟩⟩⟩|⟨h3,h⟩
 ·exact gn 14 [1,3,5] [0,1] [bT h3,cE af.enc h4,bT h5] (hE h)
 ·obtain rfl:=(hE h:_=rv);exact gr 19 [] [bT h3,cE af.enc h4,bF h5,cC (eS h6),bT h7]
 ·exact gn 21 [1,3,5,21,22,23] [0,1] [bT h3,cE af.enc h4,bF h5,cC (eS h6),bF h7] (hI h)
 ·exact gn 5 [1,3,5] [0,1] [bF h3] (hE h)
theorem C4(Γ:a5)(rv:Bool){x0 l v v2 r3}:∀⦃s:Int⦄ ⦃e:(Unit)⊕(Bool)⦄,aF (fun s=>sV x0 l v v2 r3 s) s=some e→jB e (fun e=>C3 Γ rv x0 l v v2 r3) (fun e=>e=rv)→Ee Γ rv x0 l v v2 r3 s:=by
 refine aY ?_
 intro v3 z_ h hI hE;simp only[sV,ay,an,ao]at h;rcases h with⟨gC,x3,iH,r4,kT,⟨mo,h⟩|⟨mo,h⟩⟩|⟨gC,h⟩
 ·obtain rfl:=(hE h:_=rv);exact gr 14 [] [bT gC,cE af.enc iH,cC (eS kT),bT mo]
 ·exact gn 16 [1,3,5,36,37,38,51,52,53] [0,1] [bT gC,cE af.enc iH,cC (eS kT),bF mo] (hI h)
 ·exact gn 5 [1,3,5,36,37,38] [0,1] [bF gC] (hE h)
theorem C1(Γ:a5)(rv:Bool){x0 l v}:∀⦃s:Int⦄ ⦃e:(Unit)⊕(Bool)⦄,aF (fun s=>sU x0 l v s) s=some e→jB e (fun e=>C0 Γ rv x0 l v) (fun e=>e=rv)→Ed Γ rv x0 l v s:=by
 refine aY ?_
 intro v2 z_ h hI hE;simp only[sU,ay,an,ao]at h;rcases h with⟨h9,x2,dq,⟨fM,h⟩|⟨fM,r3,fN,e1,oN,h⟩⟩|⟨h9,h⟩
 ·exact gn 16 [1,3,5,36,37,38] [0,1] [bT h9,cE aA.enc dq,oO (zL 1),oO (lT 1 2),bT fM] (hI h)
 ·refine gn 18 [1,3,5,36,37,38,51,52,53] [0,1] [bT h9,cE aA.enc dq,oO (zL 1),oO (lT 1 2),bF fM,oO (zL 0),oO (lT 0 2),cC (lU fN),nL af.enc r3] (C4 Γ rv oN ?_);rcases e1 with e1|r5
  ·exact gn 3 [1,3,5,36,37,38] [0,1] [] (hI h)
  ·exact(hE h:_=rv)
 ·exact gn 5 [] [] [bF h9] (hE h)
theorem yh{x0 l v}{rv:Bool}(h:xa x0 l v=some rv):dd prog 176 [.agg (ae.enc x0),.one (lL 2 l af.enc),.agg (af.enc v)] [] (one (.bool rv)) []:=by
 refine aP func176 fun Γ=>?_
 simp only[xa,ay,an,ao]at h;rcases h with⟨r,h0,⟨h1,h⟩|⟨h1,r1,h2,e0,h8,h⟩⟩
 ·obtain rfl:=oK h;exact gr 8 [] [cC (eS h0),bT h1]
 ·refine gn 12 [1,3,5,21,22,23] [0,1] [cC (eS h0),bF h1,cC (lU h2),nL af.enc r1] (CZ Γ rv h8 ?_);rcases e0 with e0|r7
  ·simp only[iB,ay,an,ao]at h;obtain⟨e2,p8,h⟩:=h;refine gn 5 [1,3,5,36,37,38] [0,1] [nL aA.enc x0.before] (C1 Γ rv p8 ?_);rcases e2 with e2|r6
   ·obtain rfl:=oK h;exact gr 2 [] []
   ·exact oK h
  ·exact oK h
def qq(Γ:a5)(rv:List af)(cf:Cf):Prop:=Go prog f141 [] Γ (one (lL 2 rv af.enc)) [] cf
def Fu(Γ:a5)(rv:List af)(x0:ae)(bN:Int)(l:List af)(v:Int)(r l2:List af)(v1:Int):Prop:=qq Γ rv ⟨[.c 59804,.l 59804,.b 2,.b 1,.c 935,.l 116,.b 0,.c 15],⟨53,[vI 1 bN,vL 2 2 l af.enc,vP 3 0 6,vO 7 1 2 l2 af.enc,vL 13 16 x0.aj ab.enc,vI 14 (aB x0.aj),vI 15 v,vL 36 2 r af.enc,vI 37 (aB r),vI 38 v1],[oX 6 30 (ae.enc x0),oS 2 138 l2 af.enc]⟩⟩
def Ea(Γ:a5)(rv:List af)(x0:ae)(bN:Int)(l:List af)(v:Int)(r l3:List af):Prop:=qq Γ rv ⟨[.b 1,.c 935,.l 116,.b 0,.c 15],⟨53,[vI 1 bN,vL 2 2 l af.enc,vP 3 0 6,vO 7 1 2 l3 af.enc,vL 13 16 x0.aj ab.enc,vI 14 (aB x0.aj),vI 15 v],[oX 6 30 (ae.enc x0),oS 2 138 l3 af.enc]⟩⟩
def Ft(Γ:a5)(rv:List af)(x0:ae)(bN:Int)(l l1:List af)(v:Int):Prop:=qq Γ rv ⟨[.c 116,.l 116,.b 0,.c 15],⟨53,[vI 1 bN,vL 2 2 l af.enc,vP 3 0 6,vO 7 1 2 l1 af.enc,vL 13 16 x0.aj ab.enc,vI 14 (aB x0.aj),vI 15 v],[oX 6 30 (ae.enc x0),oS 2 138 l1 af.enc]⟩⟩
def D9(Γ:a5)(rv:List af)(x0:ae)(bN:Int)(l l4:List af):Prop:=qq Γ rv ⟨[.c 15],⟨53,[vO 7 0 2 l4 af.enc],[oS 2 138 l4 af.enc]⟩⟩
theorem Eb(Γ:a5)(rv:List af){x0 bN l v r}:∀⦃s:List af×Int⦄ ⦃e:List af⦄,aF (fun s=>uc x0 bN l v r s.1 s.2) s=some e→Ea Γ rv x0 bN l v r e→Fu Γ rv x0 bN l v r s.1 s.2:=by
 refine aY ?_
 rintro⟨l2,v1⟩ z_ h hI hE;simp only[uc,ay,an,ao]at h;rcases h with⟨h6,x2,h7,r1,h8,⟨h9,dq,h⟩|⟨h9,h⟩⟩|⟨h6,h⟩
 ·exact gn 16 [1,2,3,7,13,14,15,36,37,38] [0,4] [bT h6,cE af.enc h7,cC (yh h8),bT h9,oO (Eq.refl ([x2].map af.enc).length),aO af.enc dq] (hI h)
 ·exact gn 16 [1,2,3,7,13,14,15,36,37,38] [0,1] [bT h6,cE af.enc h7,cC (yh h8),bF h9] (hI h)
 ·exact gn 5 [1,2,3,7,13,14,15] [0,1] [bF h6] (hE h)
theorem D_(Γ:a5)(rv:List af){x0 bN l}:∀⦃s:List af×Int⦄ ⦃e:List af⦄,aF (fun s=>ub x0 bN l s.1 s.2) s=some e→D9 Γ rv x0 bN l e→Ft Γ rv x0 bN l s.1 s.2:=by
 refine aY ?_
 rintro⟨l1,v⟩ z_ h hI hE;simp only[ub,ay,an,ao]at h;rcases h with⟨h0,x1,h1,⟨h2,h⟩|⟨h2,h3,⟨h4,h⟩|⟨h4,r,h5,l3,fM,h⟩⟩⟩|⟨h0,h⟩
 ·exact gn 16 [1,2,3,7,13,14,15] [0,1] [bT h0,cE ab.enc h1,rp 6 (bT h2),rp 4 tT] (hI h)
 ·exact gn 16 [1,2,3,7,13,14,15] [0,1] [bT h0,cE ab.enc h1,rp 3 (bF h2),oO (h3),rp 3 (bF h2),hP,hP,hP,oI ((aW (NG .i64 (vb .i64 bN v) 1) 0)=false),oR True ((aW (NG .i64 (vb .i64 bN v) 1) 0)=false),bT h4] (hI h)
 ·refine gn 18 [1,2,3,7,13,14,15,36,37,38] [0,1] [bT h0,cE ab.enc h1,rp 3 (bF h2),oO (h3),rp 3 (bF h2),hP,hP,hP,oI ((aW (NG .i64 (vb .i64 bN v) 1) 0)=false),oR True ((aW (NG .i64 (vb .i64 bN v) 1) 0)=false),bF h4,cC (lU h5),nL af.enc r] (Eb Γ rv fM ?_);exact gn 3 [1,2,3,7,13,14,15] [0,1] [] (hI h)
 ·exact gn 5 [7] [1] [bF h0] (hE h)
theorem H3{x0 bN l}{rv:List af}(h:yM x0 bN l=some rv):dd prog 141 [.agg (ae.enc x0),.one (lI bN),.one (lL 2 l af.enc)] [] (one (lL 2 rv af.enc)) []:=by
 refine aP func141 fun Γ=>?_
 simp only[yM,ay,an,ao]at h;obtain⟨l4,fN,h⟩:=h;refine gn 9 [1,2,3,7,13,14,15] [0,1] [nL ab.enc x0.aj,hW 3,hH (.kN 7 2 138)] (D_ Γ rv fN ?_);obtain rfl:=oK h;exact gr 2 [] [hW 4,hH (.iY 0),rp 3 (eL l4 af.enc)]
def jo(Γ:a5)(rv:Int)(cf:Cf):Prop:=Go prog f206 [] Γ (one (lI rv)) [] cf
def nH(Γ:a5)(rv:Int)(s0:List aD)(v:aD)(v1:Int):Prop:=jo Γ rv ⟨[.c 52,.l 52,.b 0,.c 7],⟨19,[vL 0 2 s0 aD.enc,vP 3 0 2,vI 7 (aB s0),vI 8 v1],[oX 2 183 (aD.enc v)]⟩⟩
def nc(Γ:a5)(rv:Int)(s0:List aD)(v:aD):Prop:=jo Γ rv ⟨[.c 7],⟨19,[],[]⟩⟩
theorem nd(Γ:a5)(rv:Int){s0 v}:∀⦃s:Int⦄ ⦃e:(Unit)⊕(Int)⦄,aF (fun s=>fE s0 v s) s=some e→jB e (fun e=>nc Γ rv s0 v) (fun e=>e=rv)→nH Γ rv s0 v s:=by
 refine aY ?_
 intro v1 z_ h hI hE;simp only[fE,ay,an,ao]at h;rcases h with⟨h0,x0,h1,⟨h2,h⟩|⟨h2,h⟩⟩|⟨h0,h⟩
 ·obtain rfl:=(hE h:_=rv);exact gr 14 [] [bT h0,hH (.draw 6 []),cE aD.enc h1,bT h2]
 ·exact gn 16 [0,3,7,8] [0] [bT h0,hH (.draw 6 []),cE aD.enc h1,bF h2] (hI h)
 ·exact gn 5 [] [] [bF h0] (hE h)
theorem oo{s0 v}{rv:Int}(h:gA s0 v=some rv):dd prog 206 [.one (lL 2 s0 aD.enc),.agg (aD.enc v)] [] (one (lI rv)) []:=by
 refine aP func206 fun Γ=>?_
 simp only[gA,ay,an,ao]at h;obtain⟨e0,h3,h⟩:=h;refine gn 7 [0,3,7,8] [0] [nL aD.enc s0] (nd Γ rv h3 ?_);rcases e0 with e0|r
 ·cases h;exact gr 2 [] []
 ·exact oK h
theorem iG{s0 v}{rv:Bool}(h:fD s0 v=some rv):dd prog 178 [.one (lL 2 s0 aD.enc),.agg (aD.enc v)] [] (one (.bool rv)) []:=by
 refine aP func178 fun Γ=>?_
 simp only[fD,ay,an,ao]at h;obtain⟨r,h0,h⟩:=h;cases h;exact gr 4 [] [cC (oo h0)]
theorem pb{l s0}{rv:List aD}(h:n9 l s0=some rv):dd prog 145 [.one (lO 0 2 l aD.enc),.agg (aD.enc s0)] [bS 2 183 l aD.enc] (one (lO 0 2 rv aD.enc)) [oS 2 183 rv aD.enc]:=by
 refine aP func145 fun Γ=>?_
 simp only[n9,ay,an,ao]at h;rcases h with⟨r,h0,⟨h1,h⟩|⟨h1,h2,h⟩⟩
 ·obtain rfl:=oK h;exact gr 8 [0] [eL l aD.enc,cC (iG h0),bT h1]
 ·cases h;exact gr 9 [3] [eL l aD.enc,cC (iG h0),bF h1,oO (Eq.refl ([s0].map aD.enc).length),aO aD.enc h2]
theorem zy{s0 g9}{rv:Int×Int}(h:yQ s0 g9=some rv):dd prog 177 [.agg (aK.enc s0),.one (lI g9)] [] (.pX [.one (lI rv.1),.one (lI rv.2)]) []:=by
 refine aP func177 fun Γ=>?_
 simp only[yQ,ay,an,ao]at h;rcases h with⟨r,h0,⟨h1,h⟩|⟨h1,h⟩⟩
 ·cases h;exact gr 10 [] [cC (qs h0),bT h1]
 ·cases h;exact gr 11 [] [cC (qs h0),bF h1]
theorem pz{s0}{rv:List af}(h:hU s0=some rv):dd prog 144 [.one (lL 2 s0 af.enc)] [] (one (.sl true 2 (rv.map af.enc))) []:=by
 refine aP func144 fun Γ=>?_
 simp only[hU,ay,an,ao]at h;obtain⟨l,h0,h⟩:=h;obtain rfl:=oK h;exact gr 4 [] [rp 2 (nL af.enc s0),hH (.rows (l.map af.enc)),oO (Eq.refl (aB s0)),oO (Ha h0),oO (Hb h0),oO (uN af.enc h0),oO (Int.le_refl (aB s0)),oO (uN af.enc h0),oO (Hc af.enc h0)]
theorem ru{eK some_ LK}{rv:aU}(h:jC eK some_ LK=some rv):dd prog 139 [.agg (aU.enc eK),.one (.bool some_),.agg (aU.enc LK),.one (.fn (.func 140) [])] [] (gG [lI rv.bE,lI rv.bN,lI rv.sJ,lI rv.ec.bE,lI rv.ec.cS,lL 1 rv.ec.fh dw,lL 2 rv.ec.a8 af.enc]) []:=by
 refine aP func139 fun Γ=>?_
 simp only[jC,ay,an,ao]at h;rcases h with⟨h0,r,h1,⟨h2,h⟩|⟨h2,h⟩⟩|⟨h0,h⟩
 ·obtain rfl:=oK h;exact gr 8 [] [rp 4 (nF h0),cC (BO h1),nF h0,bT h2]
 ·obtain rfl:=oK h;exact gr 9 [] [rp 4 (nF h0),cC (BO h1),nF h0,bF h2]
 ·obtain rfl:=oK h;exact gr 8 [] [rp 5 (nT h0),tT]
theorem yj{s0 l bW qx}{rv:List aD×aM}(h:od s0 l bW qx=some rv):dd prog 111 [.one (.op 0 17 0 0),.one (lO 1 2 l aD.enc),.one (lI bW),.one (lI qx)] [bX 17 142 (aM.enc s0),bS 2 183 l aD.enc] (one (lO 1 2 rv.1 aD.enc)) [oX 17 142 [lL 1 rv.2.x.b8.av bR,lL 6 rv.2.x.b8.aI al.enc,lL 14 rv.2.x.types ag.enc,lL 16 rv.2.x.aj ab.enc,lL 2 rv.2.x.cb aA.enc,lL 2 rv.2.x.before aA.enc,lI rv.2.kind,lI rv.2.bN,lI rv.2.s6,lI rv.2.eK.bE,lI rv.2.eK.bN,lI rv.2.eK.sJ,lI rv.2.eK.ec.bE,lI rv.2.eK.ec.cS,lL 1 rv.2.eK.ec.fh dw,lL 2 rv.2.eK.ec.a8 af.enc,.bool rv.2.y0],oS 2 183 rv.1 aD.enc]:=by
 refine aP func111 fun Γ=>?_
 simp only[od,ay,an,ao]at h;obtain⟨r,h0,x0,h1,r1,h2,h⟩:=h;cases h;exact gr 6 [0,3] [cI [1] (pb h0),hH (.draw 18 [(2,16)]),cE ag.enc h1,cI [2] (pb h2)]
def vf(Γ:a5)(rv:List aD×aM)(cf:Cf):Prop:=Go prog f143 [0] Γ (one (lL 2 rv.1 aD.enc)) [oX 17 142 [lL 1 rv.2.x.b8.av bR,lL 6 rv.2.x.b8.aI al.enc,lL 14 rv.2.x.types ag.enc,lL 16 rv.2.x.aj ab.enc,lL 2 rv.2.x.cb aA.enc,lL 2 rv.2.x.before aA.enc,lI rv.2.kind,lI rv.2.bN,lI rv.2.s6,lI rv.2.eK.bE,lI rv.2.eK.bN,lI rv.2.eK.sJ,lI rv.2.eK.ec.bE,lI rv.2.eK.ec.cS,lL 1 rv.2.eK.ec.fh dw,lL 2 rv.2.eK.ec.a8 af.enc,.bool rv.2.y0]] cf
def zE(Γ:a5)(rv:List aD×aM)(az:Int)(l:List aD)(stop:aK)(x0:ag)(l1:List aD)(x1:aM)(v:Int):Prop:=vf Γ rv ⟨[.c 244,.l 244,.b 0,.c 31],⟨86,[vP 0 0 17,vI 1 az,vP 7 1 4,vP 9 2 14,vO 10 3 2 l1 aD.enc,vL 28 2 l aD.enc,vI 29 (aB l),vI 30 v],[oX 17 142 (aM.enc x1),oX 4 54 (aK.enc stop),oX 14 70 (ag.enc x0),oS 2 183 l1 aD.enc]⟩⟩
def yU(Γ:a5)(rv:List aD×aM)(az:Int)(l:List aD)(stop:aK)(x0:ag)(l2:List aD)(x3:aM):Prop:=vf Γ rv ⟨[.c 31],⟨86,[vO 10 1 2 l2 aD.enc],[oX 17 142 (aM.enc x3),oS 2 183 l2 aD.enc]⟩⟩
theorem yV(Γ:a5)(rv:List aD×aM){az l stop x0}:∀⦃s:List aD×aM×Int⦄ ⦃e:List aD×aM⦄,aF (fun s=>oQ az l stop x0 s.1 s.2.1 s.2.2) s=some e→yU Γ rv az l stop x0 e.1 e.2→zE Γ rv az l stop x0 s.1 s.2.1 s.2.2:=by
 refine aY ?_
 rintro⟨l1,x1,v⟩ z_ h hI hE;simp only[oQ,ay,an,ao]at h;rcases h with⟨h1,x2,h2,r,h3,⟨h4,h⟩|⟨h4,r1,h5,⟨h6,h⟩|⟨h6,r2,h7,h⟩⟩⟩|⟨h1,h⟩
 ·exact gn 18 [0,1,7,9,10,28,29,30] [0,1,2,3] [bT h1,cE aD.enc h2,hH (.draw 20 []),cC (iI h3),rp 11 hP,rp 9 (oI ((bK r.2.2 0)=false)),oR True ((bK r.2.2 0)=false),bT h4] (hI h)
 ·exact gn 25 [0,1,7,9,10,28,29,30] [0,1,2,3] [bT h1,cE aD.enc h2,hH (.draw 20 []),cC (iI h3),rp 11 hP,rp 9 (oI ((bK r.2.2 0)=false)),oR True ((bK r.2.2 0)=false),bF h4,cC (zy h5),bT h6] (hI h)
 ·exact gn 27 [0,1,7,9,10,28,29,30] [0,1,2,5] [bT h1,cE aD.enc h2,hH (.draw 20 []),cC (iI h3),rp 11 hP,rp 9 (oI ((bK r.2.2 0)=false)),oR True ((bK r.2.2 0)=false),bF h4,cC (zy h5),bF h6,cI [0,3] (yj h7)] (hI h)
 ·exact gn 5 [10] [0,3] [bF h1] (hE h)
theorem um{s0 az l stop}{rv:List aD×aM}(h:ry s0 az l stop=some rv):dd prog 143 [.one (.op 0 17 0 0),.one (lI az),.one (lL 2 l aD.enc),.agg (aK.enc stop)] [bX 17 142 (aM.enc s0)] (one (lL 2 rv.1 aD.enc)) [oX 17 142 [lL 1 rv.2.x.b8.av bR,lL 6 rv.2.x.b8.aI al.enc,lL 14 rv.2.x.types ag.enc,lL 16 rv.2.x.aj ab.enc,lL 2 rv.2.x.cb aA.enc,lL 2 rv.2.x.before aA.enc,lI rv.2.kind,lI rv.2.bN,lI rv.2.s6,lI rv.2.eK.bE,lI rv.2.eK.bN,lI rv.2.eK.sJ,lI rv.2.eK.ec.bE,lI rv.2.eK.ec.cS,lL 1 rv.2.eK.ec.fh dw,lL 2 rv.2.eK.ec.a8 af.enc,.bool rv.2.y0]]:=by
 refine aP func143 fun Γ=>?_
 simp only[ry,ay,an,ao]at h;obtain⟨x0,h0,⟨l2,x3⟩,h8,h⟩:=h;refine gn 11 [0,1,7,9,10,28,29,30] [0,1,2,3] [hH (.draw 12 []),cE ag.enc h0,nL aD.enc l,hW 3,hH (.kN 10 2 183)] (yV Γ rv h8 ?_);cases h;exact gr 2 [0] [hW 4,hH (.iY 1),rp 3 (eL l2 aD.enc)]
def wq(Γ:a5)(rv:aM)(cf:Cf):Prop:=Go prog f110 [0] Γ (.pX []) [oX 17 142 [lL 1 rv.x.b8.av bR,lL 6 rv.x.b8.aI al.enc,lL 14 rv.x.types ag.enc,lL 16 rv.x.aj ab.enc,lL 2 rv.x.cb aA.enc,lL 2 rv.x.before aA.enc,lI rv.kind,lI rv.bN,lI rv.s6,lI rv.eK.bE,lI rv.eK.bN,lI rv.eK.sJ,lI rv.eK.ec.bE,lI rv.eK.ec.cS,lL 1 rv.eK.ec.fh dw,lL 2 rv.eK.ec.a8 af.enc,.bool rv.y0]] cf
def A0(Γ:a5)(rv:aM)(self:aM→(List af)→Int→(List aD)→Option aM)(a8:List af)(az:Int)(l:List aD)(r2:List af)(x0:aM)(v:Int):Prop:=wq Γ rv ⟨[.c 28,.l 28,.b 0],⟨114,[vP 0 0 17,vL 1 2 a8 af.enc,vI 2 az,vL 3 2 l aD.enc,vL 77 2 r2 af.enc,vI 78 (aB r2),vI 79 v],[oX 17 142 (aM.enc x0)]⟩⟩
def zF(Γ:a5)(rv:aM)(self:aM→(List af)→Int→(List aD)→Option aM)(a8:List af)(az:Int)(l:List aD)(r2:List af)(x2:aM):Prop:=wq Γ rv ⟨[],⟨114,[],[oX 17 142 (aM.enc x2)]⟩⟩
theorem zG(Γ:a5)(rv:aM){self:aM→(List af)→Int→(List aD)→Option aM}(AO:∀{s0:aM} {a8:List af} {az:Int} {l:List aD} {rv:aM},self s0 a8 az l=some rv→dd prog 110 [.one (.op 0 17 0 0),.one (lL 2 a8 af.enc),.one (lI az),.one (lL 2 l aD.enc)] [bX 17 142 (aM.enc s0)] (.pX []) [oX 17 142 [lL 1 rv.x.b8.av bR,lL 6 rv.x.b8.aI al.enc,lL 14 rv.x.types ag.enc,lL 16 rv.x.aj ab.enc,lL 2 rv.x.cb aA.enc,lL 2 rv.x.before aA.enc,lI rv.kind,lI rv.bN,lI rv.s6,lI rv.eK.bE,lI rv.eK.bN,lI rv.eK.sJ,lI rv.eK.ec.bE,lI rv.eK.ec.cS,lL 1 rv.eK.ec.fh dw,lL 2 rv.eK.ec.a8 af.enc,.bool rv.y0]]){a8 az l r2}:∀⦃s:aM×Int⦄ ⦃e:aM⦄,aF (fun s=>pL self a8 az l r2 s.1 s.2) s=some e→zF Γ rv self a8 az l r2 e→A0 Γ rv self a8 az l r2 s.1 s.2:=by
 refine aY ?_
 rintro⟨x0,v⟩ z_ h hI hE;simp only[pL,ay,an,ao]at h;rcases h with⟨h5,x1,h6,r3,h7,⟨h8,h⟩|⟨h8,r4,h9,⟨dq,r5,fM,fN,r6,gC,h⟩|⟨dq,h⟩⟩⟩|⟨h5,h⟩
 ·exact gn 18 [0,1,2,3,77,78,79] [0] [bT h5,cE af.enc h6,hH (.draw 13 [(2,11)]),cC (qc h7),bT h8] (hI h)
 ·exact gn 25 [0,1,2,3,77,78,79] [0] [bT h5,cE af.enc h6,hH (.draw 13 [(2,11)]),cC (qc h7),bF h8,cI [0] (um h9),nL aD.enc r4.1,bT dq,hH (.draw 9 []),cC (pz fM),oO (Eq.refl ([x1].map af.enc).length),hH (.rows ((r5++[x1]).map af.enc)),hH (.iY 4),oO (Y6 af.enc r5 [x1]),oO (neA af.enc r5 [x1] (by simp)),oO (V8 (l:=((r5++[x1]):List af)) af.enc fN),oO (Ru (l:=((r5++[x1]):List af)) (b:=16) af.enc (by decide) fN),oO (Eq.refl ((r5++[x1]).map af.enc).length),cI [0] (AO gC)] (hI h)
 ·exact gn 25 [0,1,2,3,77,78,79] [0] [bT h5,cE af.enc h6,hH (.draw 13 [(2,11)]),cC (qc h7),bF h8,cI [0] (um h9),nL aD.enc r4.1,bF dq] (hI h)
 ·exact gn 5 [] [0] [bF h5] (hE h)
theorem AZ{self:aM→(List af)→Int→(List aD)→Option aM}(AO:∀{s0:aM} {a8:List af} {az:Int} {l:List aD} {rv:aM},self s0 a8 az l=some rv→dd prog 110 [.one (.op 0 17 0 0),.one (lL 2 a8 af.enc),.one (lI az),.one (lL 2 l aD.enc)] [bX 17 142 (aM.enc s0)] (.pX []) [oX 17 142 [lL 1 rv.x.b8.av bR,lL 6 rv.x.b8.aI al.enc,lL 14 rv.x.types ag.enc,lL 16 rv.x.aj ab.enc,lL 2 rv.x.cb aA.enc,lL 2 rv.x.before aA.enc,lI rv.kind,lI rv.bN,lI rv.s6,lI rv.eK.bE,lI rv.eK.bN,lI rv.eK.sJ,lI rv.eK.ec.bE,lI rv.eK.ec.cS,lL 1 rv.eK.ec.fh dw,lL 2 rv.eK.ec.a8 af.enc,.bool rv.y0]]){s0 a8 az l}{rv:aM}(h:qt self s0 a8 az l=some rv):dd prog 110 [.one (.op 0 17 0 0),.one (lL 2 a8 af.enc),.one (lI az),.one (lL 2 l aD.enc)] [bX 17 142 (aM.enc s0)] (.pX []) [oX 17 142 [lL 1 rv.x.b8.av bR,lL 6 rv.x.b8.aI al.enc,lL 14 rv.x.types ag.enc,lL 16 rv.x.aj ab.enc,lL 2 rv.x.cb aA.enc,lL 2 rv.x.before aA.enc,lI rv.kind,lI rv.bN,lI rv.s6,lI rv.eK.bE,lI rv.eK.bN,lI rv.eK.sJ,lI rv.eK.ec.bE,lI rv.eK.ec.cS,lL 1 rv.eK.ec.fh dw,lL 2 rv.eK.ec.a8 af.enc,.bool rv.y0]]:=by
 refine aP func110 fun Γ=>?_
 simp only[qt,ay,an,ao]at h;rcases h with⟨h0,r,h1,⟨h2,r1,h3,h⟩|⟨h2,h⟩⟩|⟨h0,r2,h4,x2,iH,h⟩
 ·cases h;exact gr 17 [0] [nL af.enc a8,bT h0,hW 11,hH (.fg 1 2 1),hH (.draw 11 []),cC (CL h1),bT h2,hH (.draw 12 []),hH (.draw 13 []),cC (ru h3)]
 ·obtain rfl:=oK h;exact gr 13 [0] [nL af.enc a8,bT h0,hW 11,hH (.fg 1 2 1),hH (.draw 11 []),cC (CL h1),bF h2]
 ·refine gn 9 [0,1,2,3,77,78,79] [0] [nL af.enc a8,bF h0,hH (.draw 12 []),cC (H3 h4),nL af.enc r2] (zG Γ rv AO iH ?_);obtain rfl:=oK h;exact gr 0 [0] []
theorem uo:∀B6,∀{s0:aM} {a8:List af} {az:Int} {l:List aD} {rv:aM},qu B6 s0 a8 az l=some rv→dd prog 110 [.one (.op 0 17 0 0),.one (lL 2 a8 af.enc),.one (lI az),.one (lL 2 l aD.enc)] [bX 17 142 (aM.enc s0)] (.pX []) [oX 17 142 [lL 1 rv.x.b8.av bR,lL 6 rv.x.b8.aI al.enc,lL 14 rv.x.types ag.enc,lL 16 rv.x.aj ab.enc,lL 2 rv.x.cb aA.enc,lL 2 rv.x.before aA.enc,lI rv.kind,lI rv.bN,lI rv.s6,lI rv.eK.bE,lI rv.eK.bN,lI rv.eK.sJ,lI rv.eK.ec.bE,lI rv.eK.ec.cS,lL 1 rv.eK.ec.fh dw,lL 2 rv.eK.ec.a8 af.enc,.bool rv.y0]]
 |0=>fun h=>nomatch h
 |B6+1=>fun h=>AZ (uo B6) h
theorem vg:∀{s0:aM} {a8:List af} {az:Int} {l:List aD} {rv:aM},yW s0 a8 az l=some rv→dd prog 110 [.one (.op 0 17 0 0),.one (lL 2 a8 af.enc),.one (lI az),.one (lL 2 l aD.enc)] [bX 17 142 (aM.enc s0)] (.pX []) [oX 17 142 [lL 1 rv.x.b8.av bR,lL 6 rv.x.b8.aI al.enc,lL 14 rv.x.types ag.enc,lL 16 rv.x.aj ab.enc,lL 2 rv.x.cb aA.enc,lL 2 rv.x.before aA.enc,lI rv.kind,lI rv.bN,lI rv.s6,lI rv.eK.bE,lI rv.eK.bN,lI rv.eK.sJ,lI rv.eK.ec.bE,lI rv.eK.ec.cS,lL 1 rv.eK.ec.fh dw,lL 2 rv.eK.ec.a8 af.enc,.bool rv.y0]]:=uo _
theorem pA{s0 bW qx}{rv:List aD×aM}(h:nh s0 bW qx=some rv):dd prog 111 [.one (.op 0 17 0 0),.one (.cM),.one (lI bW),.one (lI qx)] [bX 17 142 (aM.enc s0)] (one (lL 2 rv.1 aD.enc)) [oX 17 142 [lL 1 rv.2.x.b8.av bR,lL 6 rv.2.x.b8.aI al.enc,lL 14 rv.2.x.types ag.enc,lL 16 rv.2.x.aj ab.enc,lL 2 rv.2.x.cb aA.enc,lL 2 rv.2.x.before aA.enc,lI rv.2.kind,lI rv.2.bN,lI rv.2.s6,lI rv.2.eK.bE,lI rv.2.eK.bN,lI rv.2.eK.sJ,lI rv.2.eK.ec.bE,lI rv.2.eK.ec.cS,lL 1 rv.2.eK.ec.fh dw,lL 2 rv.2.eK.ec.a8 af.enc,.bool rv.2.y0]]:=by
 refine aP func111 fun Γ=>?_
 simp only[nh,ay,an,ao]at h;obtain⟨r,h0,x0,h1,r1,h2,h⟩:=h;cases h;exact gr 6 [0] [hW 9,hH (.kN 9 2 183),cI [1] (pb h0),hH (.draw 17 [(2,16)]),cE ag.enc h1,cI [2] (pb h2),hW 1,hH (.iY 3),rp 2 (eL r1 aD.enc)]
def Ig(Γ:a5)(rv:aU×Int)(cf:Cf):Prop:=Go prog f73 [] Γ (.pX [.agg [lI rv.1.bE,lI rv.1.bN,lI rv.1.sJ,lI rv.1.ec.bE,lI rv.1.ec.cS,lL 1 rv.1.ec.fh dw,lL 2 rv.1.ec.a8 af.enc],.one (lI rv.2)]) [] cf
def Jt(Γ:a5)(rv:aU×Int)(x0:ae)(kind bN:Int)(r1:List Int)(s6 v:Int):Prop:=Ig Γ rv ⟨[.c 500,.l 500,.b 0,.c 63],⟨87,[vI 1 kind,vP 3 0 6,vP 6 1 7,vP 8 2 17,vL 45 1 r1 aq,vI 46 (aB r1),vI 47 v],[oX 6 30 (ae.enc x0),oX 7 50 [lI 0,lI 0,lI 0,lI 0,lI 0,.cM,.cM],oX 17 142 [lL 1 x0.b8.av bR,lL 6 x0.b8.aI al.enc,lL 14 x0.types ag.enc,lL 16 x0.aj ab.enc,lL 2 x0.cb aA.enc,lL 2 x0.before aA.enc,lI kind,lI bN,lI s6,lI 0,lI 0,lI 0,lI 0,lI 0,.cM,.cM,.bool false]]⟩⟩
def IC(Γ:a5)(rv:aU×Int)(x0:ae)(kind bN:Int)(r1:List Int)(Nk:Int):Prop:=Ig Γ rv ⟨[.c 63],⟨87,[vI 1 kind,vP 3 0 6,vP 6 1 7,vP 8 2 17],[oX 6 30 (ae.enc x0),oX 7 50 [lI 0,lI 0,lI 0,lI 0,lI 0,.cM,.cM],oX 17 142 [lL 1 x0.b8.av bR,lL 6 x0.b8.aI al.enc,lL 14 x0.types ag.enc,lL 16 x0.aj ab.enc,lL 2 x0.cb aA.enc,lL 2 x0.before aA.enc,lI kind,lI bN,lI Nk,lI 0,lI 0,lI 0,lI 0,lI 0,.cM,.cM,.bool false]]⟩⟩
theorem ID(Γ:a5)(rv:aU×Int){x0 kind bN r1}:∀⦃s:Int×Int⦄ ⦃e:Int⦄,aF (fun s=>zD x0 kind bN r1 s.1 s.2) s=some e→IC Γ rv x0 kind bN r1 e→Jt Γ rv x0 kind bN r1 s.1 s.2:=by
 refine aY ?_
 rintro⟨s6,v⟩ z_ h hI hE;simp only[zD,ay,an,ao]at h;rcases h with⟨h6,x1,h7,r2,h8,h⟩|⟨h6,h⟩
 ·exact gn 13 [1,3,6,8,45,46,47] [0,1,2] [bT h6,cE aq h7,hH (.draw 12 []),cC (lU h8),nL af.enc r2] (hI h)
 ·exact gn 5 [1,3,6,8] [0,1,2] [bF h6] (hE h)
theorem FM{x0 kind bN}{rv:aU×Int}(h:Hf x0 kind bN=some rv):dd prog 73 [.agg (ae.enc x0),.one (lI kind),.one (lI bN)] [] (.pX [.agg [lI rv.1.bE,lI rv.1.bN,lI rv.1.sJ,lI rv.1.ec.bE,lI rv.1.ec.cS,lL 1 rv.1.ec.fh dw,lL 2 rv.1.ec.a8 af.enc],.one (lI rv.2)]) []:=by
 refine aP func73 fun Γ=>?_
 simp only[Hf,ay,an,ao]at h;rcases h with⟨h0,h⟩|⟨h0,h1,⟨h2,h⟩|⟨h2,r,h3,⟨h4,h⟩|⟨h4,r1,h5,Nk,h9,h⟩⟩⟩
 ·cases h;exact gr 8 [] [rp 4 hP,rp 2 (oI ((aS kind 0)=false)),nL ag.enc x0.types,rp 5 hP,rp 2 (oI ((aS kind 0)=false)),oR True ((aS kind 0)=false),oI (((aS kind 0)||(bP kind (aB x0.types)))=false),oR True (((aS kind 0)||(bP kind (aB x0.types)))=false),rp 7 (bT h0),tT,hW 5,hH (.fg 1 5 1),hH (.fg 1 6 2)]
 ·cases h;exact gr 8 [] [rp 4 hP,rp 2 (oI ((aS kind 0)=false)),nL ag.enc x0.types,rp 5 hP,rp 2 (oI ((aS kind 0)=false)),oR True ((aS kind 0)=false),oI (((aS kind 0)||(bP kind (aB x0.types)))=false),oR True (((aS kind 0)||(bP kind (aB x0.types)))=false),rp 4 (bF h0),nL ab.enc x0.aj,bF h0,oO (h1),bF h0,bF h0,bT h2,hW 5,hH (.fg 1 5 1),hH (.fg 1 6 2)]
 ·cases h;exact gr 13 [] [rp 4 hP,rp 2 (oI ((aS kind 0)=false)),nL ag.enc x0.types,rp 5 hP,rp 2 (oI ((aS kind 0)=false)),oR True ((aS kind 0)=false),oI (((aS kind 0)||(bP kind (aB x0.types)))=false),oR True (((aS kind 0)||(bP kind (aB x0.types)))=false),rp 4 (bF h0),nL ab.enc x0.aj,bF h0,oO (h1),bF h0,bF h0,bF h2,cC (zp h3),bT h4,hW 5,hH (.fg 1 5 1),hH (.fg 1 6 2)]
 ·refine gn 19 [1,3,6,8,45,46,47] [0,1,2] [rp 4 hP,rp 2 (oI ((aS kind 0)=false)),nL ag.enc x0.types,rp 5 hP,rp 2 (oI ((aS kind 0)=false)),oR True ((aS kind 0)=false),oI (((aS kind 0)||(bP kind (aB x0.types)))=false),oR True (((aS kind 0)||(bP kind (aB x0.types)))=false),rp 4 (bF h0),nL ab.enc x0.aj,bF h0,oO (h1),bF h0,bF h0,bF h2,cC (zp h3),bF h4,cC (va h5),nL aq r1] (ID Γ rv h9 ?_);rcases h with⟨x2,dq,r3,fM,r4,fN,⟨gC,h⟩|⟨gC,h⟩⟩
  ·cases h;exact gr 11 [] [cE ag.enc dq,hW 4,hH (.fg 2 14 1),hH (.fg 2 15 2),hH (.draw 7 [(2,6)]),cI [2] (pA fM),cI [2] (dd.Z6 1 2 (vg fN)),nF gC]
  ·cases h;exact gr 10 [] [cE ag.enc dq,hW 4,hH (.fg 2 14 1),hH (.fg 2 15 2),hH (.draw 7 [(2,6)]),cI [2] (pA fM),cI [2] (dd.Z6 1 2 (vg fN)),nT gC,hW 5,hH (.fg 1 5 1),hH (.fg 1 6 2)]
def zC(Γ:a5)(rv:List aU×Int)(cf:Cf):Prop:=Go prog f47 [] Γ (.pX [.one (lL 7 rv.1 aU.enc),.one (lI rv.2)]) [] cf
def KN(Γ:a5)(rv:List aU×Int)(x0:ae)(l:List aU)(v:Int)(l1:List aU)(bN:Int):Prop:=zC Γ rv ⟨[.c 29900,.l 29900,.b 2,.b 1,.c 935,.l 116,.b 0,.c 15],⟨38,[vP 1 0 6,vO 4 1 7 l1 aU.enc,vI 5 v,vI 6 bN,vI 11 (aB x0.types),vI 12 v],[oX 6 30 (ae.enc x0),oS 7 50 l1 aU.enc]⟩⟩
def Jr(Γ:a5)(rv:List aU×Int)(x0:ae)(l:List aU)(v:Int)(l2:List aU):Prop:=zC Γ rv ⟨[.b 1,.c 935,.l 116,.b 0,.c 15],⟨38,[vP 1 0 6,vO 4 1 7 l2 aU.enc,vI 11 (aB x0.types),vI 12 v],[oX 6 30 (ae.enc x0),oS 7 50 l2 aU.enc]⟩⟩
def KM(Γ:a5)(rv:List aU×Int)(x0:ae)(l:List aU)(v:Int):Prop:=zC Γ rv ⟨[.c 116,.l 116,.b 0,.c 15],⟨38,[vP 1 0 6,vO 4 1 7 l aU.enc,vI 11 (aB x0.types),vI 12 v],[oX 6 30 (ae.enc x0),oS 7 50 l aU.enc]⟩⟩
def Jp(Γ:a5)(rv:List aU×Int)(x0:ae)(l3:List aU):Prop:=zC Γ rv ⟨[.c 15],⟨38,[vO 4 0 7 l3 aU.enc],[oS 7 50 l3 aU.enc]⟩⟩
theorem Js(Γ:a5)(rv:List aU×Int){x0 l v}:∀⦃s:List aU×Int⦄ ⦃e:List aU⦄,aF (fun s=>BM x0 l v s.1 s.2) s=some e→Jr Γ rv x0 l v e→KN Γ rv x0 l v s.1 s.2:=by
 refine aY ?_
 rintro⟨l1,bN⟩ z_ h hI hE;simp only[BM,ay,an,ao]at h;rcases h with⟨h1,⟨h2,r,h3,⟨h4,h5,h⟩|⟨h4,h⟩⟩|⟨h2,h⟩⟩
 ·exact gn 16 [1,4,5,6,11,12] [0,4] [nL ab.enc x0.aj,oO (h1),bT h2,cC (FM h3),bT h4,oO (Eq.refl ([r.1].map aU.enc).length),aO aU.enc h5] (hI h)
 ·exact gn 16 [1,4,5,6,11,12] [0,1] [nL ab.enc x0.aj,oO (h1),bT h2,cC (FM h3),bF h4] (hI h)
 ·exact gn 5 [1,4,11,12] [0,1] [nL ab.enc x0.aj,oO (h1),bF h2] (hE h)
theorem Jq(Γ:a5)(rv:List aU×Int){x0}:∀⦃s:List aU×Int⦄ ⦃e:List aU⦄,aF (fun s=>BL x0 s.1 s.2) s=some e→Jp Γ rv x0 e→KM Γ rv x0 s.1 s.2:=by
 refine aY ?_
 rintro⟨l,v⟩ z_ h hI hE;simp only[BL,ay,an,ao]at h;rcases h with⟨h0,l2,h6,h⟩|⟨h0,h⟩
 ·refine gn 13 [1,4,5,6,11,12] [0,1] [bT h0] (Js Γ rv h6 ?_);exact gn 3 [1,4,11,12] [0,1] [] (hI h)
 ·exact gn 5 [4] [1] [bF h0] (hE h)
theorem NM{x0}{rv:List aU×Int}(h:Jo x0=some rv):dd prog 47 [.agg (ae.enc x0)] [] (.pX [.one (lL 7 rv.1 aU.enc),.one (lI rv.2)]) []:=by
 refine aP func47 fun Γ=>?_
 simp only[Jo,ay,an,ao]at h;obtain⟨l3,h7,h⟩:=h;refine gn 9 [1,4,11,12] [0,1] [nL ag.enc x0.types,hW 3,hH (.kN 4 7 50)] (Jq Γ rv h7 ?_);cases h;exact gr 2 [] [hW 5,hH (.iY 0),rp 3 (eL l3 aU.enc)]
theorem xJ{a}{rv:Bool}(h:wE a=some rv):dd prog 75 [.agg (ab.enc a)] [] (one (.bool rv)) []:=by
 refine aP func75 fun Γ=>?_
 simp only[wE,ay,an,ao]at h;obtain rfl:=oK h;exact gr 4 [] []
def tn(Γ:a5)(rv:Int)(cf:Cf):Prop:=Go prog f74 [] Γ (one (lI rv)) [] cf
def yo(Γ:a5)(rv:Int)(x0:ae)(bN v:Int):Prop:=tn Γ rv ⟨[.c 116,.l 116,.b 0,.c 15],⟨30,[(1,one (.fn (.func 75) [])),vI 5 bN,vL 9 16 x0.aj ab.enc,vI 10 (aB x0.aj),vI 11 v],[]⟩⟩
def xk(Γ:a5)(rv:Int)(x0:ae)(GZ:Int):Prop:=tn Γ rv ⟨[.c 15],⟨30,[vI 5 GZ],[]⟩⟩
theorem xl(Γ:a5)(rv:Int){x0}:∀⦃s:Int×Int⦄ ⦃e:Int⦄,aF (fun s=>nr x0 s.1 s.2) s=some e→xk Γ rv x0 e→yo Γ rv x0 s.1 s.2:=by
 refine aY ?_
 rintro⟨bN,v⟩ z_ h hI hE;simp only[nr,ay,an,ao]at h;rcases h with⟨h0,x1,h1,⟨h2,h⟩|⟨h2,r,h3,⟨h4,h5,h⟩|⟨h4,h⟩⟩⟩|⟨h0,h⟩
 ·exact gn 16 [1,5,9,10,11] [] [bT h0,cE ab.enc h1,rp 4 (nF h2),fF] (hI h)
 ·exact gn 16 [1,5,9,10,11] [] [bT h0,cE ab.enc h1,rp 3 (nT h2),cC (xJ h3),nT h2,bT h4,oO (h5)] (hI h)
 ·exact gn 16 [1,5,9,10,11] [] [bT h0,cE ab.enc h1,rp 3 (nT h2),cC (xJ h3),nT h2,bF h4] (hI h)
 ·exact gn 5 [5] [] [bF h0] (hE h)
theorem zP{x0}{rv:Int}(h:pO x0=some rv):dd prog 74 [.agg (ae.enc x0),.one (.fn (.func 75) [])] [] (one (lI rv)) []:=by
 refine aP func74 fun Γ=>?_
 simp only[pO,ay,an,ao]at h;obtain⟨GZ,h6,h⟩:=h;refine gn 9 [1,5,9,10,11] [] [nL ab.enc x0.aj] (xl Γ rv h6 ?_);obtain rfl:=oK h;exact gr 2 [] []
theorem IM{x0}{rv:Int}(h:zO x0=some rv):dd prog 48 [.agg (ae.enc x0)] [] (one (lI rv)) []:=by
 refine aP func48 fun Γ=>?_
 simp only[zO,ay,an,ao]at h;obtain⟨r,h0,h⟩:=h;obtain rfl:=oK h;exact gr 4 [] [cC (zP h0)]
def x_(Γ:a5)(rv:Int)(cf:Cf):Prop:=Go prog f23 [] Γ (one (lI rv)) [] cf
def CE(Γ:a5)(rv:Int)(r:List aU×Int)(left v:Int):Prop:=x_ Γ rv ⟨[.c 244,.l 244,.b 0,.c 31],⟨27,[vI 5 left,vL 15 7 r.1 aU.enc,vI 16 (aB r.1),vI 17 v],[]⟩⟩
def BB(Γ:a5)(rv:Int)(r:List aU×Int)(Ri:Int):Prop:=x_ Γ rv ⟨[.c 31],⟨27,[vI 5 Ri],[]⟩⟩
theorem BC(Γ:a5)(rv:Int){r}:∀⦃s:Int×Int⦄ ⦃e:Int⦄,aF (fun s=>qF r s.1 s.2) s=some e→BB Γ rv r e→CE Γ rv r s.1 s.2:=by
 refine aY ?_
 rintro⟨left,v⟩ z_ h hI hE;simp only[qF,ay,an,ao]at h;rcases h with⟨h2,x1,h3,h⟩|⟨h2,h⟩
 ·exact gn 13 [5,15,16,17] [] [bT h2,cE aU.enc h3] (hI h)
 ·exact gn 5 [5] [] [bF h2] (hE h)
theorem E_{x0}{rv:Int}(h:uV x0=some rv):dd prog 23 [.agg (ae.enc x0)] [] (one (lI rv)) []:=by
 refine aP func23 fun Γ=>?_
 simp only[uV,ay,an,ao]at h;obtain⟨r,h0,r1,h1,Ri,h4,h⟩:=h;refine gn 11 [5,15,16,17] [] [cC (NM h0),cC (IM h1),nL aU.enc r.1] (BC Γ rv h4 ?_);obtain rfl:=oK h;exact gr 2 [] []
theorem h_{rv:ae}(h:oz=some rv):dd prog 24 [] [] (gG [lL 1 rv.b8.av bR,lL 6 rv.b8.aI al.enc,lL 14 rv.types ag.enc,lL 16 rv.aj ab.enc,lL 2 rv.cb aA.enc,lL 2 rv.before aA.enc]) []:=by
 refine aP func24 fun Γ=>?_
 simp only[oz,ay,an,ao]at h;cases h;exact gr 14 [] [hW 22,hH (.iY 1),hH (.E3 12 5 2),hH (.E3 14 5 2),hH (.iY 2),hH (.E3 16 5 2),hW 22,hH (.iY 8),hW 2,hH (.iY 6),hW 3,hH (.iY 3),hH (.iY 4),hH (.iY 10),hH (.iY 11),hH (.fg 0 4 2),hH (.fg 0 5 2),rp 6 (oO (Eq.refl ([(au.mk 0 20)].map au.enc).length)),rp 4 (oO (Eq.refl ([(au.mk 0 150)].map au.enc).length)),rp 4 (oO (Eq.refl ([5].map aq).length)),rp 4 (oO (Eq.refl ([1].map aq).length)),rp 6 (oO (Eq.refl ([AB,Az,AA].map bR).length)),rp 6 (oO (Eq.refl ([(al.mk 0 1 0 0 [(au.mk 0 20)] []),(al.mk 1 0 0 0 [(au.mk 0 20)] []),(al.mk 0 2 0 0 [(au.mk 0 150)] [])].map al.enc).length)),rp 3 (oO (Eq.refl ([(ag.mk AD 1 0 0 [5] 0 0 0 100 1000 0 0 0 0)].map ag.enc).length)),rp 3 (oO (Eq.refl ([(ab.mk HY [1] (aK.mk (-1) 0 0 0) (aK.mk 1 0 200 5) 0 0 1 (-1) (-1) false)].map ab.enc).length))]
theorem ln{rv:ae}(h:mN=some rv):dd prog 24 [] [] (gG [lL 1 rv.b8.av bR,lL 6 rv.b8.aI al.enc,lL 14 rv.types ag.enc,lO 0 16 rv.aj ab.enc,lL 2 rv.cb aA.enc,lL 2 rv.before aA.enc]) [oS 16 56 rv.aj ab.enc]:=by
 refine aP func24 fun Γ=>?_
 simp only[mN,ay,an,ao]at h;cases h;exact gr 14 [11] [hW 22,hH (.iY 1),hH (.E3 12 5 2),hH (.E3 14 5 2),hH (.iY 2),hH (.E3 16 5 2),hW 22,hH (.iY 8),hW 2,hH (.iY 6),hW 3,hH (.iY 3),hH (.iY 4),hH (.iY 10),hH (.fg 0 4 2),hH (.fg 0 5 2),rp 6 (oO (Eq.refl ([(au.mk 0 20)].map au.enc).length)),rp 4 (oO (Eq.refl ([(au.mk 0 150)].map au.enc).length)),rp 4 (oO (Eq.refl ([5].map aq).length)),rp 4 (oO (Eq.refl ([1].map aq).length)),rp 6 (oO (Eq.refl ([AB,Az,AA].map bR).length)),rp 6 (oO (Eq.refl ([(al.mk 0 1 0 0 [(au.mk 0 20)] []),(al.mk 1 0 0 0 [(au.mk 0 20)] []),(al.mk 0 2 0 0 [(au.mk 0 150)] [])].map al.enc).length)),rp 3 (oO (Eq.refl ([(ag.mk AD 1 0 0 [5] 0 0 0 100 1000 0 0 0 0)].map ag.enc).length))]
theorem pQ{rv:Bool}(h:kU=some rv):dd prog 9 [] [] (one (.bool rv)) []:=by
 refine aP func9 fun Γ=>?_
 simp only[kU,ay,an,ao]at h;rcases h with⟨r,h0,r1,h1,r2,h2,r3,h3,r4,h4,x0,h5,⟨h6,x1,h7,⟨h8,r5,h9,h⟩|⟨h8,h⟩⟩|⟨h6,h⟩⟩
 ·cases h
  exact gr 12 [] [cC (h_ h0),cC (mZ h1),cC (h_ h2),cC (uW h3),cC (ln h4),oO (eW h5),oO (eV ab.enc h5),rE ab.enc h5,hH (.rows ((fi r4.aj 0 (ab.mk x0.name x0.load x0.pick x0.drop 1 x0.bg x0.split x0.a3 x0.now x0.off)).map ab.enc)),hH (.re 1 ((fi r4.aj 0 (ab.mk x0.name x0.load x0.pick x0.drop 1 x0.bg x0.split x0.a3 x0.now x0.off)).map ab.enc).length),hP,hP,hP,oO (C7 ab.enc r4.aj 0 (ab.mk x0.name x0.load x0.pick x0.drop 1 x0.bg x0.split x0.a3 x0.now x0.off)),rp 3 (oO (oV ab.enc r4.aj 0 (ab.mk x0.name x0.load x0.pick x0.drop 1 x0.bg x0.split x0.a3 x0.now x0.off))),rp 2 (oI ((aW r1.2 0)=true)),nL ab.enc r1.1.aj,hP,hP,oI ((aW r1.2 0)=true),oR True ((aW r1.2 0)=true),rp 3 (bT h6),cE ab.enc h7,rp 5 (bT h6),rp 4 hP,rp 3 (oI ((aW x1.drop.place 1&&(aW x1.drop.aH 20&&(aW x1.drop.aQ 75&&(aW x1.drop.aR 5&&true))))=true)),nL al.enc r1.1.b8.aI,rp 11 hP,oI ((aW x1.drop.place 1&&(aW x1.drop.aH 20&&(aW x1.drop.aQ 75&&(aW x1.drop.aR 5&&true))))=true),oR True ((aW x1.drop.place 1&&(aW x1.drop.aH 20&&(aW x1.drop.aQ 75&&(aW x1.drop.aR 5&&true))))=true),oI (((aW x1.drop.place 1&&(aW x1.drop.aH 20&&(aW x1.drop.aQ 75&&(aW x1.drop.aR 5&&true))))&&(aW (aB r1.1.b8.aI) 2))=true),oR True (((aW x1.drop.place 1&&(aW x1.drop.aH 20&&(aW x1.drop.aQ 75&&(aW x1.drop.aR 5&&true))))&&(aW (aB r1.1.b8.aI) 2))=true),oI ((((aW x1.drop.place 1&&(aW x1.drop.aH 20&&(aW x1.drop.aQ 75&&(aW x1.drop.aR 5&&true))))&&(aW (aB r1.1.b8.aI) 2))&&(aW r3.1 145))=true),oR True ((((aW x1.drop.place 1&&(aW x1.drop.aH 20&&(aW x1.drop.aQ 75&&(aW x1.drop.aR 5&&true))))&&(aW (aB r1.1.b8.aI) 2))&&(aW r3.1 145))=true),oI (((((aW x1.drop.place 1&&(aW x1.drop.aH 20&&(aW x1.drop.aQ 75&&(aW x1.drop.aR 5&&true))))&&(aW (aB r1.1.b8.aI) 2))&&(aW r3.1 145))&&(aW r3.2.1 1))=true),oR True (((((aW x1.drop.place 1&&(aW x1.drop.aH 20&&(aW x1.drop.aQ 75&&(aW x1.drop.aR 5&&true))))&&(aW (aB r1.1.b8.aI) 2))&&(aW r3.1 145))&&(aW r3.2.1 1))=true),bT h8,bT h8,oO (Eq.refl ((fi r4.aj 0 (ab.mk x0.name x0.load x0.pick x0.drop 1 x0.bg x0.split x0.a3 x0.now x0.off)).map ab.enc).length),cC (E_ h9),bT h8,bT h8]
 ·obtain rfl:=oK h;exact gr 12 [] [cC (h_ h0),cC (mZ h1),cC (h_ h2),cC (uW h3),cC (ln h4),oO (eW h5),oO (eV ab.enc h5),rE ab.enc h5,hH (.rows ((fi r4.aj 0 (ab.mk x0.name x0.load x0.pick x0.drop 1 x0.bg x0.split x0.a3 x0.now x0.off)).map ab.enc)),hH (.re 1 ((fi r4.aj 0 (ab.mk x0.name x0.load x0.pick x0.drop 1 x0.bg x0.split x0.a3 x0.now x0.off)).map ab.enc).length),hP,hP,hP,oO (C7 ab.enc r4.aj 0 (ab.mk x0.name x0.load x0.pick x0.drop 1 x0.bg x0.split x0.a3 x0.now x0.off)),rp 3 (oO (oV ab.enc r4.aj 0 (ab.mk x0.name x0.load x0.pick x0.drop 1 x0.bg x0.split x0.a3 x0.now x0.off))),rp 2 (oI ((aW r1.2 0)=true)),nL ab.enc r1.1.aj,hP,hP,oI ((aW r1.2 0)=true),oR True ((aW r1.2 0)=true),rp 3 (bT h6),cE ab.enc h7,rp 5 (bT h6),rp 4 hP,rp 3 (oI ((aW x1.drop.place 1&&(aW x1.drop.aH 20&&(aW x1.drop.aQ 75&&(aW x1.drop.aR 5&&true))))=true)),nL al.enc r1.1.b8.aI,rp 11 hP,oI ((aW x1.drop.place 1&&(aW x1.drop.aH 20&&(aW x1.drop.aQ 75&&(aW x1.drop.aR 5&&true))))=true),oR True ((aW x1.drop.place 1&&(aW x1.drop.aH 20&&(aW x1.drop.aQ 75&&(aW x1.drop.aR 5&&true))))=true),oI (((aW x1.drop.place 1&&(aW x1.drop.aH 20&&(aW x1.drop.aQ 75&&(aW x1.drop.aR 5&&true))))&&(aW (aB r1.1.b8.aI) 2))=true),oR True (((aW x1.drop.place 1&&(aW x1.drop.aH 20&&(aW x1.drop.aQ 75&&(aW x1.drop.aR 5&&true))))&&(aW (aB r1.1.b8.aI) 2))=true),oI ((((aW x1.drop.place 1&&(aW x1.drop.aH 20&&(aW x1.drop.aQ 75&&(aW x1.drop.aR 5&&true))))&&(aW (aB r1.1.b8.aI) 2))&&(aW r3.1 145))=true),oR True ((((aW x1.drop.place 1&&(aW x1.drop.aH 20&&(aW x1.drop.aQ 75&&(aW x1.drop.aR 5&&true))))&&(aW (aB r1.1.b8.aI) 2))&&(aW r3.1 145))=true),oI (((((aW x1.drop.place 1&&(aW x1.drop.aH 20&&(aW x1.drop.aQ 75&&(aW x1.drop.aR 5&&true))))&&(aW (aB r1.1.b8.aI) 2))&&(aW r3.1 145))&&(aW r3.2.1 1))=true),oR True (((((aW x1.drop.place 1&&(aW x1.drop.aH 20&&(aW x1.drop.aQ 75&&(aW x1.drop.aR 5&&true))))&&(aW (aB r1.1.b8.aI) 2))&&(aW r3.1 145))&&(aW r3.2.1 1))=true),rp 4 (bF h8)]
 ·obtain rfl:=oK h;exact gr 12 [] [cC (h_ h0),cC (mZ h1),cC (h_ h2),cC (uW h3),cC (ln h4),oO (eW h5),oO (eV ab.enc h5),rE ab.enc h5,hH (.rows ((fi r4.aj 0 (ab.mk x0.name x0.load x0.pick x0.drop 1 x0.bg x0.split x0.a3 x0.now x0.off)).map ab.enc)),hH (.re 1 ((fi r4.aj 0 (ab.mk x0.name x0.load x0.pick x0.drop 1 x0.bg x0.split x0.a3 x0.now x0.off)).map ab.enc).length),hP,hP,hP,oO (C7 ab.enc r4.aj 0 (ab.mk x0.name x0.load x0.pick x0.drop 1 x0.bg x0.split x0.a3 x0.now x0.off)),rp 3 (oO (oV ab.enc r4.aj 0 (ab.mk x0.name x0.load x0.pick x0.drop 1 x0.bg x0.split x0.a3 x0.now x0.off))),rp 2 (oI ((aW r1.2 0)=true)),nL ab.enc r1.1.aj,hP,hP,oI ((aW r1.2 0)=true),oR True ((aW r1.2 0)=true),rp 8 (bF h6),rp 19 fF]
def qB(Γ:a5)(rv:List aa)(cf:Cf):Prop:=Go prog f39 [] Γ (one (lL 2 rv aa.enc)) [] cf
def tv(Γ:a5)(rv:List aa)(word:ByteArray)(l l1:List aa)(i:Int):Prop:=qB Γ rv ⟨[.c 116,.l 116,.b 0,.c 15],⟨40,[vS 0 word,vL 1 2 l aa.enc,vO 5 0 2 l1 aa.enc,vI 6 i],[oS 2 104 l1 aa.enc]⟩⟩
def su(Γ:a5)(rv:List aa)(word:ByteArray)(l l2:List aa):Prop:=qB Γ rv ⟨[.c 15],⟨40,[vO 5 0 2 l2 aa.enc],[oS 2 104 l2 aa.enc]⟩⟩
theorem ss(Γ:a5)(rv:List aa){word l l1 i ct}{x:(List aa×Int)⊕(List aa)}(h:ke word l l1 i ct=some x)(hI:∀⦃s:List aa×Int⦄,some (.inl s)=some x→tv Γ rv word l s.1 s.2)(hE:∀⦃e:List aa⦄,some (.inr e)=some x→su Γ rv word l e):qB Γ rv ⟨[.c 3731,.b 1,.c 467,.l 116,.b 0,.c 15],⟨40,[vS 0 word,vL 1 2 l aa.enc,vO 5 0 2 l1 aa.enc,vI 6 i,vS 7 ct],[oS 2 104 l1 aa.enc]⟩⟩:=by
 simp only[ke,ay,an,ao]at h;obtain⟨x1,h5,h6,h⟩:=h;exact gn 4 [0,1,5,6] [2] [cE aa.enc h5,oO (Eq.refl ([(aa.mk x1.EL ct)].map aa.enc).length),aO aa.enc h6] (hI h)
theorem Ai(Γ:a5)(rv:List aa){word l}:∀⦃s:List aa×Int⦄ ⦃e:List aa⦄,aF (fun s=>kf word l s.1 s.2) s=some e→su Γ rv word l e→tv Γ rv word l s.1 s.2:=by
 refine aY ?_
 rintro⟨l1,i⟩ z_ h hI hE;simp only[kf,ay,an,ao]at h;rcases h with⟨h0,x0,h1,⟨h2,h⟩|⟨h2,h3,h4,h⟩⟩|⟨h0,h⟩
 ·exact gn 14 [0,1,5,6,7] [0] [nL aa.enc l,bT h0,cE aa.enc h1,nF h2] (ss Γ rv h hI hE)
 ·exact gn 14 [0,1,5,6,7] [0] [nL aa.enc l,bT h0,cE aa.enc h1,nT h2,oO (h3),cE aa.enc h1,oO (h4)] (ss Γ rv h hI hE)
 ·exact gn 5 [5] [0] [nL aa.enc l,bF h0] (hE h)
theorem pT{word l}{rv:List aa}(h:gv word l=some rv):dd prog 39 [.one (.str word),.one (lL 2 l aa.enc)] [] (one (lL 2 rv aa.enc)) []:=by
 refine aP func39 fun Γ=>?_
 simp only[gv,ay,an,ao]at h;obtain⟨l2,h7,h⟩:=h;refine gn 9 [0,1,5,6] [0] [hW 12,hH (.kN 5 2 104)] (Ai Γ rv h7 ?_);obtain rfl:=oK h;exact gr 2 [] [hW 4,hH (.iY 0),rp 3 (eL l2 aa.enc)]
def oZ(Γ:a5)(rv:ByteArray)(cf:Cf):Prop:=Go prog f67 [] Γ (one (.str rv)) [] cf
def qV(Γ:a5)(rv:ByteArray)(n:Int)(s0:ByteArray)(left:Int)(again:Bool):Prop:=oZ Γ rv ⟨[.c 244,.l 244,.b 0,.c 31],⟨31,[vI 0 n,vS 3 s0,vI 4 left,vB 5 again],[]⟩⟩
def p_(Γ:a5)(rv:ByteArray)(n:Int)(s1:ByteArray):Prop:=oZ Γ rv ⟨[.c 31],⟨31,[vI 0 n,vS 3 s1],[]⟩⟩
theorem p9(Γ:a5)(rv:ByteArray){n s0 left d}{x:(ByteArray×Int×Bool)⊕(ByteArray)}(h:gS n s0 left d=some x)(hI:∀⦃s:ByteArray×Int×Bool⦄,some (.inl s)=some x→qV Γ rv n s.1 s.2.1 s.2.2)(hE:∀⦃e:ByteArray⦄,some (.inr e)=some x→p_ Γ rv n e):oZ Γ rv ⟨[.c 7827,.b 1,.c 979,.l 244,.b 0,.c 31],⟨31,[vI 0 n,vS 3 s0,vI 4 left,vI 6 d],[]⟩⟩:=by
 simp only[gS,ay,an,ao]at h;obtain⟨h2,h⟩:=h;exact gn 6 [0,3,4,5] [] [hH (.ints [(wz .u8 (aT .i64 48 d))]),oO (Eq.refl ([(wz .u8 (aT .i64 48 d))].map RX).length),oO (Eq.refl (([(wz .u8 (aT .i64 48 d))].map RX):List (List Lf))),oO (h2),oO (oA (n:=10))] (hI h)
theorem yu(Γ:a5)(rv:ByteArray){n}:∀⦃s:ByteArray×Int×Bool⦄ ⦃e:ByteArray⦄,aF (fun s=>og n s.1 s.2.1 s.2.2) s=some e→p_ Γ rv n e→qV Γ rv n s.1 s.2.1 s.2.2:=by
 refine aY ?_
 rintro⟨s0,left,again⟩ z_ h hI hE;simp only[og,ay,an,ao]at h;rcases h with⟨h0,⟨h1,h⟩|⟨h1,h⟩⟩|⟨h0,h⟩
 ·exact gn 14 [0,3,4,6] [] [bT h0,oO (oA (n:=10)),bT h1] (p9 Γ rv h hI hE)
 ·exact gn 14 [0,3,4,6] [] [bT h0,oO (oA (n:=10)),bF h1] (p9 Γ rv h hI hE)
 ·exact gn 5 [0,3] [] [bF h0] (hE h)
theorem eb{n}{rv:ByteArray}(h:bV n=some rv):dd prog 67 [.one (lI n)] [] (one (.str rv)) []:=by
 refine aP func67 fun Γ=>?_
 simp only[bV,ay,an,ao]at h;obtain⟨s1,h3,h⟩:=h;refine gn 11 [0,3,4,5] [] [] (yu Γ rv h3 ?_);rcases h with⟨h4,h5,h⟩|⟨h4,h⟩
 ·cases h;exact gr 6 [] [bT h4,oO (h5)]
 ·obtain rfl:=oK h;exact gr 7 [] [bF h4]
theorem mB{c}{rv:Bool}(h:pn c=some rv):dd prog 126 [.one (.int .u8 c)] [] (one (.bool rv)) []:=by
 refine aP func126 fun Γ=>?_
 simp only[pn,ay,an,ao]at h;cases h;exact gr 4 [] [hP,hP,hP,oI ((bP c 48)=true),oR True ((bP c 48)=true)]
theorem o4{c}{rv:Bool}(h:rL c=some rv):dd prog 127 [.one (.int .u8 c)] [] (one (.bool rv)) []:=by
 refine aP func127 fun Γ=>?_
 simp only[rL,ay,an,ao]at h;cases h;exact gr 4 [] [rp 14 hP,oI ((bP c 97)=true),oR True ((bP c 97)=true),rp 2 (oI (((bP c 97)&&(kP c 122))=false)),oI ((((bP c 97)&&(kP c 122))=false)∧(bP c 65)=true),oI (((bP c 97)&&(kP c 122))=false),oI ((((bP c 97)&&(kP c 122))=false)∧(bP c 65)=true),oR True (((bP c 97)&&(kP c 122))=false),oI ((((bP c 97)&&(kP c 122))||((bP c 65)&&(kP c 90)))=false),oR True ((((bP c 97)&&(kP c 122))||((bP c 65)&&(kP c 90)))=false)]
def xN(Γ:a5)(rv:Bool)(cf:Cf):Prop:=Go prog f93 [] Γ (one (.bool rv)) [] cf
def Cp(Γ:a5)(rv:Bool)(s0:ByteArray)(b:UInt8)(i:Int):Prop:=xN Γ rv ⟨[.c 116,.l 116,.b 0,.c 15],⟨35,[vS 0 s0,vI 3 i],[]⟩⟩
def A9(Γ:a5)(rv:Bool)(s0:ByteArray)(b:UInt8):Prop:=xN Γ rv ⟨[.c 15],⟨35,[],[]⟩⟩
theorem A_(Γ:a5)(rv:Bool){s0 b}:∀⦃s:Int⦄ ⦃e:(Unit)⊕(Bool)⦄,aF (fun s=>lu s0 b s) s=some e→jB e (fun e=>A9 Γ rv s0 b) (fun e=>e=rv)→Cp Γ rv s0 b s:=by
 refine aY ?_
 intro i z_ h hI hE;simp only[lu,ay,an,ao]at h;rcases h with⟨h4,b1,h5,r1,h6,⟨h7,h⟩|⟨h7,r2,h8,⟨h9,h⟩|⟨h9,h⟩⟩⟩|⟨h4,h⟩
 ·exact gn 14 [0,3] [] [bT h4,yE h5,cC (o4 h6),rp 6 (nF h7),fF] (hI h)
 ·exact gn 14 [0,3] [] [bT h4,yE h5,cC (o4 h6),rp 3 (nT h7),yE h5,nT h7,cC (mB h8),nT h7,nT h7,nF h9] (hI h)
 ·obtain rfl:=(hE h:_=rv);exact gr 12 [] [bT h4,yE h5,cC (o4 h6),rp 3 (nT h7),yE h5,nT h7,cC (mB h8),nT h7,nT h7,nT h9]
 ·exact gn 5 [] [] [bF h4] (hE h)
theorem jg{s0}{rv:Bool}(h:fe s0=some rv):dd prog 93 [.one (.str s0)] [] (one (.bool rv)) []:=by
 refine aP func93 fun Γ=>?_
 simp only[fe,ay,an,ao]at h;rcases h with⟨h0,h⟩|⟨h0,b,h1,r,h2,⟨h3,h⟩|⟨h3,e0,dq,h⟩⟩
 ·obtain rfl:=oK h;exact gr 8 [] [rp 4 hP,rp 2 (oI ((aS (rh s0) 1)=false)),oR True ((aS (rh s0) 1)=false),rp 4 (bT h0),tT]
 ·obtain rfl:=oK h;exact gr 8 [] [rp 4 hP,rp 2 (oI ((aS (rh s0) 1)=false)),oR True ((aS (rh s0) 1)=false),bF h0,bF h0,yE h1,bF h0,cC (mB h2),bF h0,bT h3]
 ·refine gn 12 [0,3] [] [rp 4 hP,rp 2 (oI ((aS (rh s0) 1)=false)),oR True ((aS (rh s0) 1)=false),bF h0,bF h0,yE h1,bF h0,cC (mB h2),bF h0,bF h3] (A_ Γ rv dq ?_);rcases e0 with e0|r3
  ·obtain rfl:=oK h;exact gr 2 [] []
  ·exact oK h
def nu(Γ:a5)(rv:List aa)(cf:Cf):Prop:=Go prog f94 [] Γ (one (lL 2 rv aa.enc)) [] cf
def tt(Γ:a5)(rv:List aa)(l:List au)(l2:List aa)(i:Int):Prop:=nu Γ rv ⟨[.c 244,.l 244,.b 0,.c 31],⟨88,[vL 0 2 l au.enc,vO 3 0 2 l2 aa.enc,vI 4 i],[oS 2 104 l2 aa.enc]⟩⟩
def rP(Γ:a5)(rv:List aa)(l:List au)(l4:List aa):Prop:=nu Γ rv ⟨[.c 31],⟨88,[vO 3 0 2 l4 aa.enc],[oS 2 104 l4 aa.enc]⟩⟩
theorem rO(Γ:a5)(rv:List aa){l i x0 l3}{x:(List aa×Int)⊕(List aa)}(h:fq l i x0 l3=some x)(hI:∀⦃s:List aa×Int⦄,some (.inl s)=some x→tt Γ rv l s.1 s.2)(hE:∀⦃e:List aa⦄,some (.inr e)=some x→rP Γ rv l e):nu Γ rv ⟨[.c 7827,.b 1,.c 979,.l 244,.b 0,.c 31],⟨88,[vL 0 2 l au.enc,vO 3 0 2 l3 aa.enc,vI 4 i,vP 5 1 2],[oS 2 104 l3 aa.enc,oX 2 86 (au.enc x0)]⟩⟩:=by
 simp only[fq,ay,an,ao]at h;rcases h with⟨h7,x1,h8,⟨h9,r1,dq,fM,h⟩|⟨h9,⟨fN,r2,gC,iH,h⟩|⟨fN,h⟩⟩⟩|⟨h7,h⟩
 ·exact gn 7 [0,3,4] [3] [hH (.draw 24 []),rp 6 (bT h7),cE au.enc h8,rp 4 (bT h7),rp 9 (bT h9),bT h7,bT h9,bT h7,tT,cC (eb dq),oO (Eq.refl ([(aa.mk 13 r1)].map aa.enc).length),aO aa.enc fM] (hI h)
 ·exact gn 7 [0,3,4] [3] [hH (.draw 24 []),rp 6 (bT h7),cE au.enc h8,rp 4 (bT h7),rp 6 (bF h9),cE au.enc h8,rp 3 (bF h9),bT h7,bF h9,bT h7,bT fN,cC (eb gC),oO (Eq.refl ([(aa.mk 13 r2)].map aa.enc).length),aO aa.enc iH] (hI h)
 ·exact gn 7 [0,3,4] [0] [hH (.draw 24 []),rp 6 (bT h7),cE au.enc h8,rp 4 (bT h7),rp 6 (bF h9),cE au.enc h8,rp 3 (bF h9),bT h7,bF h9,bT h7,bF fN] (hI h)
 ·exact gn 7 [0,3,4] [0] [hH (.draw 24 []),rp 10 (bF h7),rp 9 kF,bF h7,bF h7,fF] (hI h)
theorem zU(Γ:a5)(rv:List aa){l}:∀⦃s:List aa×Int⦄ ⦃e:List aa⦄,aF (fun s=>eN l s.1 s.2) s=some e→rP Γ rv l e→tt Γ rv l s.1 s.2:=by
 refine aY ?_
 rintro⟨l2,i⟩ z_ h hI hE;simp only[eN,ay,an,ao]at h;rcases h with⟨h2,x0,h3,⟨h4,r,h5,h6,h⟩|⟨h4,h⟩⟩|⟨h2,h⟩
 ·exact gn 14 [0,3,4,5] [3,1] [nL au.enc l,bT h2,cE au.enc h3,rp 17 hP,rp 2 (oI ((aS x0.t 0)=false)),oR True ((aS x0.t 0)=false),rp 4 (oI (((aS x0.t 0)||(bU x0.t 4096))=false)),oR True (((aS x0.t 0)||(bU x0.t 4096))=false),rp 5 (oI ((((aS x0.t 0)||(bU x0.t 4096))||(aS x0.a x0.t))=false)),oR True ((((aS x0.t 0)||(bU x0.t 4096))||(aS x0.a x0.t))=false),bT h4,cC (eb h5),oO (Eq.refl ([(aa.mk 2 r)].map aa.enc).length),aO aa.enc h6] (rO Γ rv h hI hE)
 ·exact gn 14 [0,3,4,5] [0,1] [nL au.enc l,bT h2,cE au.enc h3,rp 17 hP,rp 2 (oI ((aS x0.t 0)=false)),oR True ((aS x0.t 0)=false),rp 4 (oI (((aS x0.t 0)||(bU x0.t 4096))=false)),oR True (((aS x0.t 0)||(bU x0.t 4096))=false),rp 5 (oI ((((aS x0.t 0)||(bU x0.t 4096))||(aS x0.a x0.t))=false)),oR True ((((aS x0.t 0)||(bU x0.t 4096))||(aS x0.a x0.t))=false),bF h4] (rO Γ rv h hI hE)
 ·exact gn 5 [3] [0] [nL au.enc l,bF h2] (hE h)
theorem rN(Γ:a5)(rv:List aa){l l1}(h:gF l l1=some rv):nu Γ rv ⟨[.c 15],⟨88,[vL 0 2 l au.enc,vO 3 0 2 l1 aa.enc],[oS 2 104 l1 aa.enc]⟩⟩:=by
 simp only[gF,ay,an,ao]at h;obtain⟨l4,kT,h⟩:=h;refine gn 5 [0,3,4] [0] [] (zU Γ rv kT ?_);obtain rfl:=oK h;exact gr 2 [] [hW 4,hH (.iY 0),rp 3 (eL l4 aa.enc)]
theorem DI{l}{rv:List aa}(h:dO l=some rv):dd prog 94 [.one (lL 2 l au.enc)] [] (one (lL 2 rv aa.enc)) []:=by
 refine aP func94 fun Γ=>?_
 simp only[dO,ay,an,ao]at h;rcases h with⟨h0,h1,h⟩|⟨h0,h⟩
 ·exact gn 9 [0,3] [1] [nL au.enc l,hP,hP,oI ((aS (aB l) 1)=false),nL au.enc l,hP,hP,oI ((aS (aB l) 1)=false),oR True ((aS (aB l) 1)=false),bT h0,oO (Eq.refl ([(aa.mk 4 ByteArray.empty)].map aa.enc).length),aN (l:=([(aa.mk 4 ByteArray.empty)]:List aa)) aa.enc h1] (rN Γ rv h)
 ·exact gn 9 [0,3] [0] [nL au.enc l,hP,hP,oI ((aS (aB l) 1)=false),nL au.enc l,hP,hP,oI ((aS (aB l) 1)=false),oR True ((aS (aB l) 1)=false),bF h0,hW 1,hH (.kN 3 2 104)] (rN Γ rv h)
theorem fc{t}{rv:Bool}(h:jU t=some rv):dd prog 95 [.one (lI t)] [] (one (.bool rv)) []:=by
 refine aP func95 fun Γ=>?_
 simp only[jU,ay,an,ao]at h;cases h;exact gr 4 [] [hP,hP,hP,oI ((bP t 0)=true),oR True ((bP t 0)=true)]
def dy(Γ:a5)(rv:List aa)(cf:Cf):Prop:=Go prog f64 [] Γ (one (lL 2 rv aa.enc)) [] cf
def yv(Γ:a5)(rv:List aa)(n:ah)(i:Int)(r:ByteArray)(x0:al)(l l1:List aa)(kE:Bool)(k:Int):Prop:=dy Γ rv ⟨[.c 4084,.l 4084,.b 0,.c 511],⟨192,[vI 1 i,vP 2 0 2,vO 5 1 2 l1 aa.enc,vS 6 (bH bq r),vP 7 2 6,vB 8 kE,vI 9 k],[oX 2 25 (ah.enc n),oS 2 104 l1 aa.enc,oX 6 59 (al.enc x0)]⟩⟩
def xo(Γ:a5)(rv:List aa)(n:ah)(i:Int)(r:ByteArray)(x0:al)(l l1:List aa)(nJ:Bool):Prop:=dy Γ rv ⟨[.c 511],⟨192,[vO 5 0 2 l1 aa.enc,vS 6 (bH bq r),vP 7 1 6,vB 8 nJ],[oS 2 104 l1 aa.enc,oX 6 59 (al.enc x0)]⟩⟩
def yw(Γ:a5)(rv:List aa)(r:ByteArray)(x0:al)(l r1 l3:List aa)(k1:Int):Prop:=dy Γ rv ⟨[.c 32756,.l 32756,.b 2,.c 4095],⟨192,[vO 5 0 2 l3 aa.enc,vS 6 (bH bq r),vP 7 1 6,vL 11 2 r1 aa.enc,vI 12 k1],[oS 2 104 l3 aa.enc,oX 6 59 (al.enc x0)]⟩⟩
def xq(Γ:a5)(rv:List aa)(r:ByteArray)(x0:al)(l r1 l4:List aa):Prop:=dy Γ rv ⟨[.c 4095],⟨192,[vO 5 0 2 l4 aa.enc,vS 6 (bH bq r),vP 7 1 6],[oS 2 104 l4 aa.enc,oX 6 59 (al.enc x0)]⟩⟩
def yx(Γ:a5)(rv:List aa)(r:ByteArray)(x0:al)(l l6:List aa)(k2:Int):Prop:=dy Γ rv ⟨[.c 131060,.l 131060,.b 4,.c 16383],⟨192,[vO 5 0 2 l6 aa.enc,vS 6 (bH bq r),vP 7 1 6,vI 13 k2],[oS 2 104 l6 aa.enc,oX 6 59 (al.enc x0)]⟩⟩
def xu(Γ:a5)(rv:List aa)(r:ByteArray)(x0:al)(l l7:List aa):Prop:=dy Γ rv ⟨[.c 16383],⟨192,[vO 5 0 2 l7 aa.enc],[oS 2 104 l7 aa.enc]⟩⟩
theorem xp(Γ:a5)(rv:List aa){n i r x0 l l1}:∀⦃s:Bool×Int⦄ ⦃e:Bool⦄,aF (fun s=>ch n i r x0 l l1 s.1 s.2) s=some e→xo Γ rv n i r x0 l l1 e→yv Γ rv n i r x0 l l1 s.1 s.2:=by
 refine aY ?_
 rintro⟨kE,k⟩ z_ h hI hE;simp only[ch,ay,an,ao]at h;rcases h with⟨h7,x1,h8,h⟩|⟨h7,h⟩
 ·exact gn 13 [1,2,5,6,7,8,9] [0,1,2] [bT h7,cE al.enc h8,rp 22 hP,rp 5 (oI (kE=false)),rp 4 (oI ((kE=false)∧(aW x0.az x1.az)=true)),oI (kE=false),oI ((kE=false)∧(aW x0.az x1.az)=true),oI (kE=false),rp 4 (oI ((kE=false)∧((aW x0.az x1.az)&&(aW x0.cw x1.cw))=true)),oI (kE=false),oI ((kE=false)∧((aW x0.az x1.az)&&(aW x0.cw x1.cw))=true),oR True (kE=false)] (hI h)
 ·exact gn 5 [5,6,7,8] [1,2] [bF h7] (hE h)
theorem xt(Γ:a5)(rv:List aa){r x0 l r1}:∀⦃s:List aa×Int⦄ ⦃e:List aa⦄,aF (fun s=>cj r x0 l r1 s.1 s.2) s=some e→xq Γ rv r x0 l r1 e→yw Γ rv r x0 l r1 s.1 s.2:=by
 refine aY ?_
 rintro⟨l3,k1⟩ z_ h hI hE;simp only[cj,ay,an,ao]at h;rcases h with⟨gC,x2,iH,kT,h⟩|⟨gC,h⟩
 ·exact gn 11 [5,6,7,11,12] [3,1] [nL aa.enc r1,bT gC,cE aa.enc iH,oO (Eq.refl ([(aa.mk x2.EL (bH bq r))].map aa.enc).length),aO aa.enc kT] (hI h)
 ·exact gn 5 [5,6,7] [0,1] [nL aa.enc r1,bF gC] (hE h)
theorem xw(Γ:a5)(rv:List aa){r x0 l}:∀⦃s:List aa×Int⦄ ⦃e:List aa⦄,aF (fun s=>ck r x0 l s.1 s.2) s=some e→xu Γ rv r x0 l e→yx Γ rv r x0 l s.1 s.2:=by
 refine aY ?_
 rintro⟨l6,k2⟩ z_ h hI hE;simp only[ck,ay,an,ao]at h;rcases h with⟨rk,x3,rl,r2,xI,⟨AL,r3,Hu,⟨B7,⟨EN,x4,A5,⟨Lq,KE,h⟩|⟨Lq,h⟩⟩|⟨EN,h⟩⟩|⟨B7,N_,h⟩⟩|⟨AL,Oa,h⟩⟩|⟨rk,h⟩
 ·exact gn 16 [5,6,7,13] [4,1] [nL au.enc x0.dp,bT rk,cE au.enc rl,hH (.draw 26 []),cC (fc xI),rp 3 (nF AL),cC (fc Hu),rp 2 (nF AL),rp 3 (nF B7),rp 7 (bT EN),cE au.enc A5,rp 3 (bT EN),nF B7,bT EN,nF B7,bT Lq,oO (Eq.refl ([(aa.mk 2 (bH bq r))].map aa.enc).length),aO aa.enc KE] (hI h)
 ·exact gn 16 [5,6,7,13] [0,1] [nL au.enc x0.dp,bT rk,cE au.enc rl,hH (.draw 26 []),cC (fc xI),rp 3 (nF AL),cC (fc Hu),rp 2 (nF AL),rp 3 (nF B7),rp 7 (bT EN),cE au.enc A5,rp 3 (bT EN),nF B7,bT EN,nF B7,bF Lq] (hI h)
 ·exact gn 16 [5,6,7,13] [0,1] [nL au.enc x0.dp,bT rk,cE au.enc rl,hH (.draw 26 []),cC (fc xI),rp 3 (nF AL),cC (fc Hu),rp 2 (nF AL),rp 3 (nF B7),rp 10 (bF EN),nF B7,bF EN,nF B7,fF] (hI h)
 ·exact gn 16 [5,6,7,13] [4,1] [nL au.enc x0.dp,bT rk,cE au.enc rl,hH (.draw 26 []),cC (fc xI),rp 3 (nF AL),cC (fc Hu),rp 2 (nF AL),rp 3 (nT B7),rp 10 kF,rp 2 (nT B7),tT,oO (Eq.refl ([(aa.mk 2 (bH bq r))].map aa.enc).length),aO aa.enc N_] (hI h)
 ·exact gn 16 [5,6,7,13] [4,1] [nL au.enc x0.dp,bT rk,cE au.enc rl,hH (.draw 26 []),cC (fc xI),rp 5 (nT AL),tT,tT,tT,rp 10 kF,tT,tT,tT,oO (Eq.refl ([(aa.mk 2 (bH bq r))].map aa.enc).length),aO aa.enc Oa] (hI h)
 ·exact gn 5 [5] [0] [nL au.enc x0.dp,bF rk] (hE h)
theorem pF(Γ:a5)(rv:List aa){r x0 l l5}(h:dK r x0 l l5=some rv):dy Γ rv ⟨[.c 8191],⟨192,[vO 5 0 2 l5 aa.enc,vS 6 (bH bq r),vP 7 1 6],[oS 2 104 l5 aa.enc,oX 6 59 (al.enc x0)]⟩⟩:=by
 simp only[dK,ay,an,ao]at h;obtain⟨l7,KT,h⟩:=h;refine gn 5 [5,6,7,13] [0,1] [] (xw Γ rv KT ?_);obtain rfl:=oK h;exact gr 2 [] [hW 4,hH (.iY 0),rp 3 (eL l7 aa.enc)]
theorem pD(Γ:a5)(rv:List aa){r x0 l l2}(h:eA r x0 l l2=some rv):dy Γ rv ⟨[.c 1023],⟨192,[vO 5 0 2 l2 aa.enc,vS 6 (bH bq r),vP 7 1 6],[oS 2 104 l2 aa.enc,oX 6 59 (al.enc x0)]⟩⟩:=by
 simp only[eA,ay,an,ao]at h;obtain⟨r1,fN,l4,mo,h⟩:=h;refine gn 7 [5,6,7,11,12] [0,1] [cC (DI fN)] (xt Γ rv mo ?_);rcases h with⟨oN,p8,h⟩|⟨oN,h⟩
 ·exact gn 5 [5,6,7] [3,1] [nL au.enc x0.dp,bT oN,oO (Eq.refl ([(aa.mk 4 (bH bq r))].map aa.enc).length),aO aa.enc p8] (pF Γ rv h)
 ·exact gn 5 [5,6,7] [0,1] [nL au.enc x0.dp,bF oN] (pF Γ rv h)
theorem pC(Γ:a5)(rv:List aa){n i r x0 l l1}(h:ez n i r x0 l l1=some rv):dy Γ rv ⟨[.c 127],⟨192,[vI 1 i,vP 2 0 2,vO 5 1 2 l1 aa.enc,vS 6 (bH bq r),vP 7 2 6],[oX 2 25 (ah.enc n),oS 2 104 l1 aa.enc,oX 6 59 (al.enc x0)]⟩⟩:=by
 simp only[ez,ay,an,ao]at h;obtain⟨nJ,h9,h⟩:=h;refine gn 7 [1,2,5,6,7,8,9] [0,1,2] [] (xp Γ rv h9 ?_);rcases h with⟨dq,fM,h⟩|⟨dq,h⟩
 ·exact gn 5 [5,6,7] [3,1] [bT dq,oO (Eq.refl ([(aa.mk 6 (bH bq r))].map aa.enc).length),aO aa.enc fM] (pD Γ rv h)
 ·exact gn 5 [5,6,7] [0,1] [bF dq] (pD Γ rv h)
theorem pB(Γ:a5)(rv:List aa){n i r x0 l}(h:ew n i r x0 l=some rv):dy Γ rv ⟨[.c 63],⟨192,[vI 1 i,vP 2 0 2,vO 5 1 2 l aa.enc,vS 6 (bH bq r),vP 7 2 6],[oX 2 25 (ah.enc n),oS 2 104 l aa.enc,oX 6 59 (al.enc x0)]⟩⟩:=by
 simp only[ew,ay,an,ao]at h;rcases h with⟨h5,h6,h⟩|⟨h5,h⟩
 ·exact gn 5 [1,2,5,6,7] [0,4,2] [rp 18 hP,rp 2 (oI ((aS x0.ai 0)=false)),oR True ((aS x0.ai 0)=false),rp 2 (oI (((aS x0.ai 0)||(bU x0.ai 7))=false)),oR True (((aS x0.ai 0)||(bU x0.ai 7))=false),rp 2 (oI ((((aS x0.ai 0)||(bU x0.ai 7))||(aS x0.dc 0))=false)),oR True ((((aS x0.ai 0)||(bU x0.ai 7))||(aS x0.dc 0))=false),rp 4 (oI (((((aS x0.ai 0)||(bU x0.ai 7))||(aS x0.dc 0))||(bU x0.dc 10000))=false)),oR True (((((aS x0.ai 0)||(bU x0.ai 7))||(aS x0.dc 0))||(bU x0.dc 10000))=false),bT h5,oO (Eq.refl ([(aa.mk 2 (bH bq r))].map aa.enc).length),aO aa.enc h6] (pC Γ rv h)
 ·exact gn 5 [1,2,5,6,7] [0,1,2] [rp 18 hP,rp 2 (oI ((aS x0.ai 0)=false)),oR True ((aS x0.ai 0)=false),rp 2 (oI (((aS x0.ai 0)||(bU x0.ai 7))=false)),oR True (((aS x0.ai 0)||(bU x0.ai 7))=false),rp 2 (oI ((((aS x0.ai 0)||(bU x0.ai 7))||(aS x0.dc 0))=false)),oR True ((((aS x0.ai 0)||(bU x0.ai 7))||(aS x0.dc 0))=false),rp 4 (oI (((((aS x0.ai 0)||(bU x0.ai 7))||(aS x0.dc 0))||(bU x0.dc 10000))=false)),oR True (((((aS x0.ai 0)||(bU x0.ai 7))||(aS x0.dc 0))||(bU x0.dc 10000))=false),bF h5] (pC Γ rv h)
theorem zX{n i}{rv:List aa}(h:gI n i=some rv):dd prog 64 [.agg (ah.enc n),.one (lI i)] [] (one (lL 2 rv aa.enc)) []:=by
 refine aP func64 fun Γ=>?_
 simp only[gI,ay,an,ao]at h;rcases h with⟨r,h0,h1,x0,h2,⟨h3,h4,h⟩|⟨h3,h⟩⟩
 ·exact gn 13 [1,2,5,6,7] [0,3,1] [cC (eb h0),oO (h1),cE al.enc h2,rp 5 hP,rp 3 (oI ((aS x0.az 0)=false)),nL bR n.av,rp 11 hP,rp 2 (oI ((aS x0.az 0)=false)),oR True ((aS x0.az 0)=false),rp 2 (oI (((aS x0.az 0)||(bP x0.az (aB n.av)))=false)),oR True (((aS x0.az 0)||(bP x0.az (aB n.av)))=false),rp 3 (oI ((((aS x0.az 0)||(bP x0.az (aB n.av)))||(aS x0.cw 0))=false)),nL bR n.av,hP,hP,rp 2 (oI ((((aS x0.az 0)||(bP x0.az (aB n.av)))||(aS x0.cw 0))=false)),oR True ((((aS x0.az 0)||(bP x0.az (aB n.av)))||(aS x0.cw 0))=false),bT h3,oO (Eq.refl ([(aa.mk 11 (bH bq r))].map aa.enc).length),aN (l:=([(aa.mk 11 (bH bq r))]:List aa)) aa.enc h4] (pB Γ rv h)
 ·exact gn 13 [1,2,5,6,7] [0,2,1] [cC (eb h0),oO (h1),cE al.enc h2,rp 5 hP,rp 3 (oI ((aS x0.az 0)=false)),nL bR n.av,rp 11 hP,rp 2 (oI ((aS x0.az 0)=false)),oR True ((aS x0.az 0)=false),rp 2 (oI (((aS x0.az 0)||(bP x0.az (aB n.av)))=false)),oR True (((aS x0.az 0)||(bP x0.az (aB n.av)))=false),rp 3 (oI ((((aS x0.az 0)||(bP x0.az (aB n.av)))||(aS x0.cw 0))=false)),nL bR n.av,hP,hP,rp 2 (oI ((((aS x0.az 0)||(bP x0.az (aB n.av)))||(aS x0.cw 0))=false)),oR True ((((aS x0.az 0)||(bP x0.az (aB n.av)))||(aS x0.cw 0))=false),bF h3,hW 1,hH (.kN 5 2 104)] (pB Γ rv h)
def ff(Γ:a5)(rv:List aa)(cf:Cf):Prop:=Go prog f63 [] Γ (one (lO 0 2 rv aa.enc)) [oS 2 104 rv aa.enc] cf
def tc(Γ:a5)(rv:List aa)(n:ah)(l l1:List aa)(i:Int)(r:ByteArray)(kE:Bool)(k:Int):Prop:=ff Γ rv ⟨[.c 250484,.l 250484,.b 2,.c 31311,.b 1,.c 979,.l 244,.b 0,.c 31],⟨64,[vP 1 0 2,vO 3 1 2 l1 aa.enc,vI 4 i,vS 5 (bH dm r),vB 6 kE,vI 7 k],[oX 2 25 (ah.enc n),oS 2 104 l1 aa.enc]⟩⟩
def rU(Γ:a5)(rv:List aa)(n:ah)(l l1:List aa)(i:Int)(r:ByteArray)(nJ:Bool):Prop:=ff Γ rv ⟨[.c 31311,.b 1,.c 979,.l 244,.b 0,.c 31],⟨64,[vP 1 0 2,vO 3 1 2 l1 aa.enc,vI 4 i,vS 5 (bH dm r),vB 6 nJ],[oX 2 25 (ah.enc n),oS 2 104 l1 aa.enc]⟩⟩
def ta(Γ:a5)(rv:List aa)(n:ah)(l l1:List aa)(i:Int):Prop:=ff Γ rv ⟨[.c 244,.l 244,.b 0,.c 31],⟨64,[vP 1 0 2,vO 3 1 2 l1 aa.enc,vI 4 i],[oX 2 25 (ah.enc n),oS 2 104 l1 aa.enc]⟩⟩
def rS(Γ:a5)(rv:List aa)(n:ah)(l l2:List aa):Prop:=ff Γ rv ⟨[.c 31],⟨64,[vO 3 0 2 l2 aa.enc],[oS 2 104 l2 aa.enc]⟩⟩
theorem rV(Γ:a5)(rv:List aa){n l l1 i r}:∀⦃s:Bool×Int⦄ ⦃e:Bool⦄,aF (fun s=>bB n l l1 i r s.1 s.2) s=some e→rU Γ rv n l l1 i r e→tc Γ rv n l l1 i r s.1 s.2:=by
 refine aY ?_
 rintro⟨kE,k⟩ z_ h hI hE;simp only[bB,ay,an,ao]at h;rcases h with⟨h8,⟨h9,h⟩|⟨h9,x1,dq,x2,fM,h⟩⟩|⟨h8,h⟩
 ·exact gn 11 [1,3,4,5,6,7] [0,1] [bT h8,hH (.draw 14 []),rp 12 (bT h9)] (hI h)
 ·exact gn 11 [1,3,4,5,6,7] [0,1] [bT h8,hH (.draw 14 []),rp 4 (bF h9),cE bR dq,rp 5 (bF h9),cE bR fM,rp 3 (bF h9)] (hI h)
 ·exact gn 5 [1,3,4,5,6] [0,1] [bF h8] (hE h)
theorem rT(Γ:a5)(rv:List aa){n l}:∀⦃s:List aa×Int⦄ ⦃e:List aa⦄,aF (fun s=>bA n l s.1 s.2) s=some e→rS Γ rv n l e→ta Γ rv n l s.1 s.2:=by
 refine aY ?_
 rintro⟨l1,i⟩ z_ h hI hE;simp only[bA,ay,an,ao]at h;rcases h with⟨h2,r,h3,h4,x0,h5,r1,h6,⟨h7,nJ,fN,h⟩|⟨h7,kT,h⟩⟩|⟨h2,h⟩
 ·refine gn 21 [1,3,4,5,6,7] [0,1] [nL bR n.av,bT h2,cC (eb h3),oO (h4),cE bR h5,cC (jg h6),nF h7] (rV Γ rv fN ?_);rcases h with⟨gC,iH,h⟩|⟨gC,h⟩
  ·exact gn 7 [1,3,4] [0,3] [bT gC,oO (Eq.refl ([(aa.mk 6 (bH dm r))].map aa.enc).length),aO aa.enc iH] (hI h)
  ·exact gn 7 [1,3,4] [0,1] [bF gC] (hI h)
 ·exact gn 18 [1,3,4] [0,3] [nL bR n.av,bT h2,cC (eb h3),oO (h4),cE bR h5,cC (jg h6),nT h7,oO (Eq.refl ([(aa.mk 5 (bH dm r))].map aa.enc).length),aO aa.enc kT] (hI h)
 ·exact gn 5 [3] [1] [nL bR n.av,bF h2] (hE h)
theorem mc(Γ:a5)(rv:List aa){n l}(h:dt n l=some rv):ff Γ rv ⟨[.c 15],⟨64,[vP 1 0 2,vO 3 1 2 l aa.enc],[oX 2 25 (ah.enc n),oS 2 104 l aa.enc]⟩⟩:=by
 simp only[dt,ay,an,ao]at h;obtain⟨l2,mo,h⟩:=h;refine gn 5 [1,3,4] [0,1] [] (rT Γ rv mo ?_);obtain rfl:=oK h;exact gr 2 [0] []
theorem nf{n}{rv:List aa}(h:dU n=some rv):dd prog 63 [.agg (ah.enc n)] [] (one (lO 0 2 rv aa.enc)) [oS 2 104 rv aa.enc]:=by
 refine aP func63 fun Γ=>?_
 simp only[dU,ay,an,ao]at h;rcases h with⟨h0,h1,h⟩|⟨h0,h⟩
 ·exact gn 9 [1,3] [0,2] [nL bR n.av,bT h0,oO (Eq.refl ([(aa.mk 4 fp)].map aa.enc).length),aN (l:=([(aa.mk 4 fp)]:List aa)) aa.enc h1] (mc Γ rv h)
 ·exact gn 9 [1,3] [0,1] [nL bR n.av,bF h0,hW 1,hH (.kN 3 2 104)] (mc Γ rv h)
def qz(Γ:a5)(rv:List aa)(cf:Cf):Prop:=Go prog f40 [] Γ (one (lL 2 rv aa.enc)) [] cf
def Bb(Γ:a5)(rv:List aa)(n:ah)(l l1:List aa)(i:Int):Prop:=qz Γ rv ⟨[.c 244,.l 244,.b 0,.c 31],⟨28,[vP 1 0 2,vO 3 1 2 l1 aa.enc,vI 4 i],[oX 2 25 (ah.enc n),oS 2 104 l1 aa.enc]⟩⟩
def zV(Γ:a5)(rv:List aa)(n:ah)(l l2:List aa):Prop:=qz Γ rv ⟨[.c 31],⟨28,[vO 3 0 2 l2 aa.enc],[oS 2 104 l2 aa.enc]⟩⟩
theorem zW(Γ:a5)(rv:List aa){n l}:∀⦃s:List aa×Int⦄ ⦃e:List aa⦄,aF (fun s=>cW n l s.1 s.2) s=some e→zV Γ rv n l e→Bb Γ rv n l s.1 s.2:=by
 refine aY ?_
 rintro⟨l1,i⟩ z_ h hI hE;simp only[cW,ay,an,ao]at h;rcases h with⟨h3,r1,h4,h5,h⟩|⟨h3,h⟩
 ·exact gn 11 [1,3,4] [0,2] [nL al.enc n.aI,bT h3,cC (zX h4),aO aa.enc h5] (hI h)
 ·exact gn 5 [3] [1] [nL al.enc n.aI,bF h3] (hE h)
theorem rR(Γ:a5)(rv:List aa){n l}(h:gH n l=some rv):qz Γ rv ⟨[.c 15],⟨28,[vP 1 0 2,vO 3 1 2 l aa.enc],[oX 2 25 (ah.enc n),oS 2 104 l aa.enc]⟩⟩:=by
 simp only[gH,ay,an,ao]at h;obtain⟨l2,h6,h⟩:=h;refine gn 5 [1,3,4] [0,1] [] (zW Γ rv h6 ?_);obtain rfl:=oK h;exact gr 2 [] [hW 4,hH (.iY 0),rp 3 (eL l2 aa.enc)]
theorem DJ{n}{rv:List aa}(h:gq n=some rv):dd prog 40 [.agg (ah.enc n)] [] (one (lL 2 rv aa.enc)) []:=by
 refine aP func40 fun Γ=>?_
 simp only[gq,ay,an,ao]at h;rcases h with⟨r,h0,⟨h1,h2,h⟩|⟨h1,h⟩⟩
 ·exact gn 9 [1,3] [0,3] [cC (nf h0),nL al.enc n.aI,bT h1,oO (Eq.refl ([(aa.mk 4 ml)].map aa.enc).length),aO aa.enc h2] (rR Γ rv h)
 ·exact gn 9 [1,3] [0,1] [cC (nf h0),nL al.enc n.aI,bF h1] (rR Γ rv h)
theorem aC{n lo hi}{rv:Bool}(h:bp n lo hi=some rv):dd prog 65 [.one (lI n),.one (lI lo),.one (lI hi)] [] (one (.bool rv)) []:=by
 refine aP func65 fun Γ=>?_
 simp only[bp,ay,an,ao]at h;cases h;exact gr 4 [] [rp 4 hP,rp 2 (oI ((bP n lo)=true)),oR True ((bP n lo)=true)]
theorem ly{l}{rv:Int}(h:gX l=some rv):dd prog 43 [.one (lL 14 l ag.enc)] [] (one (lI rv)) []:=by
 refine aP func43 fun Γ=>?_
 simp only[gX,ay,an,ao]at h;rcases h with⟨h0,h⟩|⟨h0,x0,h1,h⟩
 ·obtain rfl:=oK h;exact gr 8 [] [nL ag.enc l,bT h0]
 ·cases h;exact gr 9 [] [nL ag.enc l,bF h0,cE ag.enc h1,nL aq x0.cap]
def wH(Γ:a5)(rv:Bool)(cf:Cf):Prop:=Go prog f96 [] Γ (one (.bool rv)) [] cf
def Bg(Γ:a5)(rv:Bool)(l:List ag)(ct:Int)(name:ByteArray)(i:Int):Prop:=wH Γ rv ⟨[.c 52,.l 52,.b 0,.c 7],⟨20,[vL 0 14 l ag.enc,vI 1 ct,vS 2 name,vI 7 i],[]⟩⟩
def z5(Γ:a5)(rv:Bool)(l:List ag)(ct:Int)(name:ByteArray):Prop:=wH Γ rv ⟨[.c 7],⟨20,[],[]⟩⟩
theorem z6(Γ:a5)(rv:Bool){l ct name}:∀⦃s:Int⦄ ⦃e:(Unit)⊕(Bool)⦄,aF (fun s=>cX l ct name s) s=some e→jB e (fun e=>z5 Γ rv l ct name) (fun e=>e=rv)→Bg Γ rv l ct name s:=by
 refine aY ?_
 intro i z_ h hI hE;simp only[cX,ay,an,ao]at h;rcases h with⟨h0,x0,h1,⟨h2,h⟩|⟨h2,h⟩⟩|⟨h0,h⟩
 ·obtain rfl:=(hE h:_=rv);exact gr 12 [] [bT h0,cE ag.enc h1,bT h2]
 ·exact gn 14 [0,1,2,7] [] [bT h0,cE ag.enc h1,bF h2] (hI h)
 ·exact gn 5 [] [] [bF h0] (hE h)
theorem vn{l ct name}{rv:Bool}(h:jh l ct name=some rv):dd prog 96 [.one (lL 14 l ag.enc),.one (lI ct),.one (.str name)] [] (one (.bool rv)) []:=by
 refine aP func96 fun Γ=>?_
 simp only[jh,ay,an,ao]at h;obtain⟨e0,h3,h⟩:=h;refine gn 7 [0,1,2,7] [] [] (z6 Γ rv h3 ?_);rcases e0 with e0|r
 ·obtain rfl:=oK h;exact gr 2 [] []
 ·exact oK h
def tu(Γ:a5)(rv:Bool)(cf:Cf):Prop:=Go prog f97 [] Γ (one (.bool rv)) [] cf
def yy(Γ:a5)(rv:Bool)(l:List Int)(i:Int):Prop:=tu Γ rv ⟨[.c 116,.l 116,.b 0,.c 15],⟨28,[vL 0 1 l aq,vI 5 i],[]⟩⟩
def xx(Γ:a5)(rv:Bool)(l:List Int):Prop:=tu Γ rv ⟨[.c 15],⟨28,[],[]⟩⟩
theorem xy(Γ:a5)(rv:Bool){l}:∀⦃s:Int⦄ ⦃e:(Unit)⊕(Bool)⦄,aF (fun s=>b0 l s) s=some e→jB e (fun e=>xx Γ rv l) (fun e=>e=rv)→yy Γ rv l s:=by
 refine aY ?_
 intro i z_ h hI hE;simp only[b0,ay,an,ao]at h;rcases h with⟨h2,x0,h3,r1,h4,⟨h5,h⟩|⟨h5,h⟩⟩|⟨h2,h⟩
 ·exact gn 14 [0,5] [] [nL aq l,bT h2,cE aq h3,cC (aC h4),nF h5] (hI h)
 ·obtain rfl:=(hE h:_=rv);exact gr 12 [] [nL aq l,bT h2,cE aq h3,cC (aC h4),nT h5]
 ·exact gn 5 [] [] [nL aq l,bF h2] (hE h)
theorem kG{l bt}{rv:Bool}(h:fr l bt=some rv):dd prog 97 [.one (lL 1 l aq),.one (lI bt)] [] (one (.bool rv)) []:=by
 refine aP func97 fun Γ=>?_
 simp only[fr,ay,an,ao]at h;rcases h with⟨r,h0,⟨h1,h⟩|⟨h1,e0,h6,h⟩⟩
 ·obtain rfl:=oK h;exact gr 8 [] [nL aq l,cC (aC h0),hP,hP,oI ((!r)=false),nL aq l,hP,hP,hP,rp 2 (oI ((!r)=false)),oR True ((!r)=false),bT h1]
 ·refine gn 12 [0,5] [] [nL aq l,cC (aC h0),hP,hP,oI ((!r)=false),nL aq l,hP,hP,hP,rp 2 (oI ((!r)=false)),oR True ((!r)=false),bF h1] (xy Γ rv h6 ?_);rcases e0 with e0|r2
  ·obtain rfl:=oK h;exact gr 2 [] []
  ·exact oK h
def dz(Γ:a5)(rv:List Int)(cf:Cf):Prop:=Go prog f66 [] Γ (one (lL 1 rv aq)) [] cf
theorem sd(Γ:a5)(rv:List Int){x0 l8}(h:fA x0 l8=some rv):dz Γ rv ⟨[.c 4095],⟨125,[vP 7 0 14,vO 8 1 1 l8 aq],[oX 14 70 (ag.enc x0),oS 1 33 l8 aq]⟩⟩:=by
 simp only[fA,ay,an,ao]at h;rcases h with⟨zj,Oa,⟨KT,Ny,SY,⟨QW,HQ,R6,⟨Oc,Tc,PM,⟨R7,h⟩|⟨R7,Od,h⟩⟩|⟨Oc,Vy,h⟩⟩|⟨QW,SZ,h⟩⟩|⟨KT,Zb,h⟩⟩
 ·obtain rfl:=oK h;exact gr 7 [] [cC (aC Oa),rp 3 (nF KT),cC (aC SY),rp 2 (nF KT),rp 3 (nF QW),cC (aC R6),rp 2 (nF QW),rp 3 (nF Oc),cC (aC PM),rp 2 (nF Oc),nF R7,hW 5,hH (.iY 1),rp 3 (eL l8 aq)]
 ·cases h;exact gr 7 [] [cC (aC Oa),rp 3 (nF KT),cC (aC SY),rp 2 (nF KT),rp 3 (nF QW),cC (aC R6),rp 2 (nF QW),rp 3 (nF Oc),cC (aC PM),rp 2 (nF Oc),nT R7,oO (Eq.refl ([2].map aq).length),aO aq Od,hW 5,hH (.iY 3),rp 4 (oO (Eq.refl ((l8++[2]).map aq).length))]
 ·cases h;exact gr 7 [] [cC (aC Oa),rp 3 (nF KT),cC (aC SY),rp 2 (nF KT),rp 3 (nF QW),cC (aC R6),rp 2 (nF QW),rp 5 (nT Oc),tT,oO (Eq.refl ([2].map aq).length),aO aq Vy,hW 5,hH (.iY 3),rp 4 (oO (Eq.refl ((l8++[2]).map aq).length))]
 ·cases h;exact gr 7 [] [cC (aC Oa),rp 3 (nF KT),cC (aC SY),rp 2 (nF KT),rp 5 (nT QW),rp 6 tT,oO (Eq.refl ([2].map aq).length),aO aq SZ,hW 5,hH (.iY 3),rp 4 (oO (Eq.refl ((l8++[2]).map aq).length))]
 ·cases h;exact gr 7 [] [cC (aC Oa),rp 5 (nT KT),rp 11 tT,oO (Eq.refl ([2].map aq).length),aO aq Zb,hW 5,hH (.iY 3),rp 4 (oO (Eq.refl ((l8++[2]).map aq).length))]
theorem sc(Γ:a5)(rv:List Int){x0 l7}(h:fz x0 l7=some rv):dz Γ rv ⟨[.c 2047],⟨125,[vP 7 0 14,vO 8 1 1 l7 aq],[oX 14 70 (ag.enc x0),oS 1 33 l7 aq]⟩⟩:=by
 simp only[fz,ay,an,ao]at h;rcases h with⟨r9,EN,⟨A5,M3,Lq,⟨KE,h⟩|⟨KE,N_,h⟩⟩|⟨A5,Vz,DU,UZ,⟨Pd,Td,WJ,⟨KF,RA,Lr,⟨Nq,SE,QX,⟨Pe,h⟩|⟨Pe,S0,h⟩⟩|⟨Nq,QY,h⟩⟩|⟨KF,Oe,h⟩⟩|⟨Pd,R8,h⟩⟩⟩
 ·exact gn 5 [7,8] [0,1] [cC (aC EN),rp 3 (nF A5),cC (aC Lq),rp 2 (nF A5),nF KE] (sd Γ rv h)
 ·exact gn 5 [7,8] [0,3] [cC (aC EN),rp 3 (nF A5),cC (aC Lq),rp 2 (nF A5),nT KE,oO (Eq.refl ([16].map aq).length),aO aq N_] (sd Γ rv h)
 ·cases h;exact gr 12 [] [cC (aC EN),rp 5 (nT A5),tT,oO (Eq.refl ([16].map aq).length),aO aq Vz,cC (aC UZ),rp 3 (nF Pd),cC (aC WJ),rp 2 (nF Pd),rp 3 (nF KF),cC (aC Lr),rp 2 (nF KF),rp 3 (nF Nq),cC (aC QX),rp 2 (nF Nq),nF Pe,hW 5,hH (.iY 3),rp 4 (oO (Eq.refl ((l7++[16]).map aq).length))]
 ·cases h;exact gr 12 [] [cC (aC EN),rp 5 (nT A5),tT,oO (Eq.refl ([16].map aq).length),aO aq Vz,cC (aC UZ),rp 3 (nF Pd),cC (aC WJ),rp 2 (nF Pd),rp 3 (nF KF),cC (aC Lr),rp 2 (nF KF),rp 3 (nF Nq),cC (aC QX),rp 2 (nF Nq),nT Pe,oO (Eq.refl ([2].map aq).length),aO aq S0,hW 5,hH (.iY 5),rp 4 (oO (Eq.refl (((l7++[16])++[2]).map aq).length))]
 ·cases h;exact gr 12 [] [cC (aC EN),rp 5 (nT A5),tT,oO (Eq.refl ([16].map aq).length),aO aq Vz,cC (aC UZ),rp 3 (nF Pd),cC (aC WJ),rp 2 (nF Pd),rp 3 (nF KF),cC (aC Lr),rp 2 (nF KF),rp 5 (nT Nq),tT,oO (Eq.refl ([2].map aq).length),aO aq QY,hW 5,hH (.iY 5),rp 4 (oO (Eq.refl (((l7++[16])++[2]).map aq).length))]
 ·cases h;exact gr 12 [] [cC (aC EN),rp 5 (nT A5),tT,oO (Eq.refl ([16].map aq).length),aO aq Vz,cC (aC UZ),rp 3 (nF Pd),cC (aC WJ),rp 2 (nF Pd),rp 5 (nT KF),rp 6 tT,oO (Eq.refl ([2].map aq).length),aO aq Oe,hW 5,hH (.iY 5),rp 4 (oO (Eq.refl (((l7++[16])++[2]).map aq).length))]
 ·cases h;exact gr 12 [] [cC (aC EN),rp 5 (nT A5),tT,oO (Eq.refl ([16].map aq).length),aO aq Vz,cC (aC UZ),rp 5 (nT Pd),rp 11 tT,oO (Eq.refl ([2].map aq).length),aO aq R8,hW 5,hH (.iY 5),rp 4 (oO (Eq.refl (((l7++[16])++[2]).map aq).length))]
theorem sb(Γ:a5)(rv:List Int){x0 l6}(h:fy x0 l6=some rv):dz Γ rv ⟨[.c 1023],⟨125,[vP 7 0 14,vO 8 1 1 l6 aq],[oX 14 70 (ag.enc x0),oS 1 33 l6 aq]⟩⟩:=by
 simp only[fy,ay,an,ao]at h;rcases h with⟨r8,AL,⟨Hu,B7,h⟩|⟨Hu,h⟩⟩
 ·exact gn 5 [7,8] [0,3] [cC (aC AL),rp 4 hP,rp 2 (oI ((!r8)=false)),oR True ((!r8)=false),bT Hu,oO (Eq.refl ([15].map aq).length),aO aq B7] (sc Γ rv h)
 ·exact gn 5 [7,8] [0,1] [cC (aC AL),rp 4 hP,rp 2 (oI ((!r8)=false)),oR True ((!r8)=false),bF Hu] (sc Γ rv h)
theorem sa(Γ:a5)(rv:List Int){x0 l5}(h:fx x0 l5=some rv):dz Γ rv ⟨[.c 511],⟨125,[vP 7 0 14,vO 8 1 1 l5 aq],[oX 14 70 (ag.enc x0),oS 1 33 l5 aq]⟩⟩:=by
 simp only[fx,ay,an,ao]at h;rcases h with⟨r7,rk,⟨rl,h⟩|⟨rl,xI,h⟩⟩
 ·exact gn 5 [7,8] [0,1] [cC (aC rk),nF rl] (sb Γ rv h)
 ·exact gn 5 [7,8] [0,3] [cC (aC rk),nT rl,oO (Eq.refl ([18].map aq).length),aO aq xI] (sb Γ rv h)
theorem r_(Γ:a5)(rv:List Int){l x0 l4}(h:fw l x0 l4=some rv):dz Γ rv ⟨[.c 255],⟨125,[vL 1 14 l ag.enc,vP 7 0 14,vO 8 1 1 l4 aq],[oX 14 70 (ag.enc x0),oS 1 33 l4 aq]⟩⟩:=by
 simp only[fw,ay,an,ao]at h;rcases h with⟨r5,kT,r6,mo,⟨oN,h⟩|⟨oN,p8,h⟩⟩
 ·exact gn 5 [7,8] [0,1] [hH (.draw 6 []),cC (ly kT),cC (kG mo),nF oN] (sa Γ rv h)
 ·exact gn 5 [7,8] [0,3] [hH (.draw 6 []),cC (ly kT),cC (kG mo),nT oN,oO (Eq.refl ([17].map aq).length),aO aq p8] (sa Γ rv h)
theorem qY(Γ:a5)(rv:List Int){x0 EP}(h:mg x0 EP=some rv):dz Γ rv ⟨[.c 4095],⟨125,[vP 7 0 14,vO 8 1 1 EP aq],[oX 14 70 (ag.enc x0),oS 1 33 EP aq]⟩⟩:=by
 simp only[mg,ay,an,ao]at h;rcases h with⟨Wc,Q0,⟨Q1,UE,TL,⟨TM,Xp,WL,⟨WM,Xq,h77,⟨Zc,h⟩|⟨Zc,h79,h⟩⟩|⟨WM,h80,h⟩⟩|⟨TM,h81,h⟩⟩|⟨Q1,h82,h⟩⟩
 ·obtain rfl:=oK h;exact gr 7 [] [cC (aC Q0),rp 3 (nF Q1),cC (aC TL),rp 2 (nF Q1),rp 3 (nF TM),cC (aC WL),rp 2 (nF TM),rp 3 (nF WM),cC (aC h77),rp 2 (nF WM),nF Zc,hW 5,hH (.iY 1),rp 3 (eL EP aq)]
 ·cases h;exact gr 7 [] [cC (aC Q0),rp 3 (nF Q1),cC (aC TL),rp 2 (nF Q1),rp 3 (nF TM),cC (aC WL),rp 2 (nF TM),rp 3 (nF WM),cC (aC h77),rp 2 (nF WM),nT Zc,oO (Eq.refl ([2].map aq).length),aO aq h79,hW 5,hH (.iY 3),rp 4 (oO (Eq.refl ((EP++[2]).map aq).length))]
 ·cases h;exact gr 7 [] [cC (aC Q0),rp 3 (nF Q1),cC (aC TL),rp 2 (nF Q1),rp 3 (nF TM),cC (aC WL),rp 2 (nF TM),rp 5 (nT WM),tT,oO (Eq.refl ([2].map aq).length),aO aq h80,hW 5,hH (.iY 3),rp 4 (oO (Eq.refl ((EP++[2]).map aq).length))]
 ·cases h;exact gr 7 [] [cC (aC Q0),rp 3 (nF Q1),cC (aC TL),rp 2 (nF Q1),rp 5 (nT TM),rp 6 tT,oO (Eq.refl ([2].map aq).length),aO aq h81,hW 5,hH (.iY 3),rp 4 (oO (Eq.refl ((EP++[2]).map aq).length))]
 ·cases h;exact gr 7 [] [cC (aC Q0),rp 5 (nT Q1),rp 11 tT,oO (Eq.refl ([2].map aq).length),aO aq h82,hW 5,hH (.iY 3),rp 4 (oO (Eq.refl ((EP++[2]).map aq).length))]
theorem qX(Γ:a5)(rv:List Int){x0 FI}(h:mf x0 FI=some rv):dz Γ rv ⟨[.c 2047],⟨125,[vP 7 0 14,vO 8 1 1 FI aq],[oX 14 70 (ag.enc x0),oS 1 33 FI aq]⟩⟩:=by
 simp only[mf,ay,an,ao]at h;rcases h with⟨Vc,S1,⟨Pf,Wb,YF,⟨U1,h⟩|⟨U1,YG,h⟩⟩|⟨Pf,Zd,Xr,Ze,⟨U2,We,h86,⟨WN,Wf,h88,⟨YH,Wg,h90,⟨h91,h⟩|⟨h91,h92,h⟩⟩|⟨YH,h93,h⟩⟩|⟨WN,h94,h⟩⟩|⟨U2,h95,h⟩⟩⟩
 ·exact gn 5 [7,8] [0,1] [cC (aC S1),rp 3 (nF Pf),cC (aC YF),rp 2 (nF Pf),nF U1] (qY Γ rv h)
 ·exact gn 5 [7,8] [0,3] [cC (aC S1),rp 3 (nF Pf),cC (aC YF),rp 2 (nF Pf),nT U1,oO (Eq.refl ([16].map aq).length),aO aq YG] (qY Γ rv h)
 ·cases h;exact gr 12 [] [cC (aC S1),rp 5 (nT Pf),tT,oO (Eq.refl ([16].map aq).length),aO aq Zd,cC (aC Ze),rp 3 (nF U2),cC (aC h86),rp 2 (nF U2),rp 3 (nF WN),cC (aC h88),rp 2 (nF WN),rp 3 (nF YH),cC (aC h90),rp 2 (nF YH),nF h91,hW 5,hH (.iY 3),rp 4 (oO (Eq.refl ((FI++[16]).map aq).length))]
 ·cases h;exact gr 12 [] [cC (aC S1),rp 5 (nT Pf),tT,oO (Eq.refl ([16].map aq).length),aO aq Zd,cC (aC Ze),rp 3 (nF U2),cC (aC h86),rp 2 (nF U2),rp 3 (nF WN),cC (aC h88),rp 2 (nF WN),rp 3 (nF YH),cC (aC h90),rp 2 (nF YH),nT h91,oO (Eq.refl ([2].map aq).length),aO aq h92,hW 5,hH (.iY 5),rp 4 (oO (Eq.refl (((FI++[16])++[2]).map aq).length))]
 ·cases h;exact gr 12 [] [cC (aC S1),rp 5 (nT Pf),tT,oO (Eq.refl ([16].map aq).length),aO aq Zd,cC (aC Ze),rp 3 (nF U2),cC (aC h86),rp 2 (nF U2),rp 3 (nF WN),cC (aC h88),rp 2 (nF WN),rp 5 (nT YH),tT,oO (Eq.refl ([2].map aq).length),aO aq h93,hW 5,hH (.iY 5),rp 4 (oO (Eq.refl (((FI++[16])++[2]).map aq).length))]
 ·cases h;exact gr 12 [] [cC (aC S1),rp 5 (nT Pf),tT,oO (Eq.refl ([16].map aq).length),aO aq Zd,cC (aC Ze),rp 3 (nF U2),cC (aC h86),rp 2 (nF U2),rp 5 (nT WN),rp 6 tT,oO (Eq.refl ([2].map aq).length),aO aq h94,hW 5,hH (.iY 5),rp 4 (oO (Eq.refl (((FI++[16])++[2]).map aq).length))]
 ·cases h;exact gr 12 [] [cC (aC S1),rp 5 (nT Pf),tT,oO (Eq.refl ([16].map aq).length),aO aq Zd,cC (aC Ze),rp 5 (nT U2),rp 11 tT,oO (Eq.refl ([2].map aq).length),aO aq h95,hW 5,hH (.iY 5),rp 4 (oO (Eq.refl (((FI++[16])++[2]).map aq).length))]
theorem qW(Γ:a5)(rv:List Int){x0 Hz}(h:me x0 Hz=some rv):dz Γ rv ⟨[.c 1023],⟨125,[vP 7 0 14,vO 8 1 1 Hz aq],[oX 14 70 (ag.enc x0),oS 1 33 Hz aq]⟩⟩:=by
 simp only[me,ay,an,ao]at h;rcases h with⟨SF,Lt,⟨VD,U0,h⟩|⟨VD,h⟩⟩
 ·exact gn 5 [7,8] [0,3] [cC (aC Lt),rp 4 hP,rp 2 (oI ((!SF)=false)),oR True ((!SF)=false),bT VD,oO (Eq.refl ([15].map aq).length),aO aq U0] (qX Γ rv h)
 ·exact gn 5 [7,8] [0,1] [cC (aC Lt),rp 4 hP,rp 2 (oI ((!SF)=false)),oR True ((!SF)=false),bF VD] (qX Γ rv h)
theorem se(Γ:a5)(rv:List Int){x0 l9}(h:mD x0 l9=some rv):dz Γ rv ⟨[.c 511],⟨125,[vP 7 0 14,vO 8 1 1 l9 aq],[oX 14 70 (ag.enc x0),oS 1 33 l9 aq]⟩⟩:=by
 simp only[mD,ay,an,ao]at h;rcases h with⟨UD,WK,⟨R9,h⟩|⟨R9,VC,h⟩⟩
 ·exact gn 5 [7,8] [0,1] [cC (aC WK),nF R9] (qW Γ rv h)
 ·exact gn 5 [7,8] [0,3] [cC (aC WK),nT R9,oO (Eq.refl ([18].map aq).length),aO aq VC] (qW Γ rv h)
theorem rZ(Γ:a5)(rv:List Int){n l x0 l3}(h:fv n l x0 l3=some rv):dz Γ rv ⟨[.c 127],⟨125,[vL 1 14 l ag.enc,vP 3 0 2,vP 7 1 14,vO 8 2 1 l3 aq],[oX 2 25 (ah.enc n),oX 14 70 (ag.enc x0),oS 1 33 l3 aq]⟩⟩:=by
 simp only[fv,ay,an,ao]at h;rcases h with⟨r3,dq,⟨fM,r4,fN,⟨gC,h⟩|⟨gC,iH,h⟩⟩|⟨fM,Ls,CD,VA,Vb,VB,⟨TK,h⟩|⟨TK,QZ,h⟩⟩⟩
 ·exact gn 5 [1,7,8] [1,2] [nL bR n.av,cC (aC dq),rp 5 (nF fM),nL bR n.av,rp 2 (nF fM),cC (aC fN),rp 2 (nF fM),nF gC] (r_ Γ rv h)
 ·exact gn 5 [1,7,8] [1,4] [nL bR n.av,cC (aC dq),rp 5 (nF fM),nL bR n.av,rp 2 (nF fM),cC (aC fN),rp 2 (nF fM),nT gC,oO (Eq.refl ([11].map aq).length),aO aq iH] (r_ Γ rv h)
 ·exact gn 10 [7,8] [1,4] [nL bR n.av,cC (aC dq),rp 9 (nT fM),tT,oO (Eq.refl ([11].map aq).length),aO aq Ls,hH (.draw 6 []),cC (ly VA),cC (kG VB),nF TK] (se Γ rv h)
 ·exact gn 10 [7,8] [1,6] [nL bR n.av,cC (aC dq),rp 9 (nT fM),tT,oO (Eq.refl ([11].map aq).length),aO aq Ls,hH (.draw 6 []),cC (ly VA),cC (kG VB),nT TK,oO (Eq.refl ([17].map aq).length),aO aq QZ] (se Γ rv h)
theorem rY(Γ:a5)(rv:List Int){n l x0 l2}(h:fu n l x0 l2=some rv):dz Γ rv ⟨[.c 63],⟨125,[vL 1 14 l ag.enc,vP 3 0 2,vP 7 1 14,vO 8 2 1 l2 aq],[oX 2 25 (ah.enc n),oX 14 70 (ag.enc x0),oS 1 33 l2 aq]⟩⟩:=by
 simp only[fu,ay,an,ao]at h;rcases h with⟨r2,h7,⟨h8,h⟩|⟨h8,h9,h⟩⟩
 ·exact gn 5 [1,3,7,8] [0,1,2] [cC (aC h7),nF h8] (rZ Γ rv h)
 ·exact gn 5 [1,3,7,8] [0,1,4] [cC (aC h7),nT h8,oO (Eq.refl ([22].map aq).length),aO aq h9] (rZ Γ rv h)
theorem rX(Γ:a5)(rv:List Int){n l ct x0 l1}(h:ft n l ct x0 l1=some rv):dz Γ rv ⟨[.c 31],⟨125,[vL 1 14 l ag.enc,vI 2 ct,vP 3 0 2,vP 7 1 14,vO 8 2 1 l1 aq],[oX 2 25 (ah.enc n),oX 14 70 (ag.enc x0),oS 1 33 l1 aq]⟩⟩:=by
 simp only[ft,ay,an,ao]at h;rcases h with⟨r1,h4,⟨h5,h6,h⟩|⟨h5,h⟩⟩
 ·exact gn 5 [1,3,7,8] [0,1,4] [cC (vn h4),bT h5,oO (Eq.refl ([6].map aq).length),aO aq h6] (rY Γ rv h)
 ·exact gn 5 [1,3,7,8] [0,1,2] [cC (vn h4),bF h5] (rY Γ rv h)
theorem DL{n l ct}{rv:List Int}(h:gu n l ct=some rv):dd prog 66 [.agg (ah.enc n),.one (lL 14 l ag.enc),.one (lI ct)] [] (one (lL 1 rv aq)) []:=by
 refine aP func66 fun Γ=>?_
 simp only[gu,ay,an,ao]at h;rcases h with⟨x0,h0,r,h1,⟨h2,h⟩|⟨h2,h3,h⟩⟩
 ·exact gn 11 [1,2,3,7,8] [0,1,2] [cE ag.enc h0,cC (jg h1),nF h2,hW 1,hH (.kN 8 1 33)] (rX Γ rv h)
 ·exact gn 11 [1,2,3,7,8] [0,1,3] [cE ag.enc h0,cC (jg h1),nT h2,oO (Eq.refl ([5].map aq).length),aN (l:=([5]:List Int)) aq h3] (rX Γ rv h)
def lx(Γ:a5)(rv:List aa)(cf:Cf):Prop:=Go prog f41 [] Γ (one (lL 2 rv aa.enc)) [] cf
def Bd(Γ:a5)(rv:List aa)(n:ah)(l:List ag)(i:Int)(r1:List Int)(l3:List aa)(k:Int):Prop:=lx Γ rv ⟨[.c 31308,.l 31308,.b 2,.b 1,.c 979,.l 244,.b 0,.c 31],⟨44,[vL 1 14 l ag.enc,vP 2 0 2,vO 5 1 2 l3 aa.enc,vI 6 i,vL 7 1 r1 aq,vI 8 k],[oX 2 25 (ah.enc n),oS 2 104 l3 aa.enc]⟩⟩
def z3(Γ:a5)(rv:List aa)(n:ah)(l:List ag)(i:Int)(r1:List Int)(l4:List aa):Prop:=lx Γ rv ⟨[.b 1,.c 979,.l 244,.b 0,.c 31],⟨44,[vL 1 14 l ag.enc,vP 2 0 2,vO 5 1 2 l4 aa.enc,vI 6 i],[oX 2 25 (ah.enc n),oS 2 104 l4 aa.enc]⟩⟩
def Bc(Γ:a5)(rv:List aa)(n:ah)(l:List ag)(l2:List aa)(i:Int):Prop:=lx Γ rv ⟨[.c 244,.l 244,.b 0,.c 31],⟨44,[vL 1 14 l ag.enc,vP 2 0 2,vO 5 1 2 l2 aa.enc,vI 6 i],[oX 2 25 (ah.enc n),oS 2 104 l2 aa.enc]⟩⟩
def zY(Γ:a5)(rv:List aa)(n:ah)(l:List ag)(l5:List aa):Prop:=lx Γ rv ⟨[.c 31],⟨44,[vO 5 0 2 l5 aa.enc],[oS 2 104 l5 aa.enc]⟩⟩
theorem z4(Γ:a5)(rv:List aa){n l i r1}:∀⦃s:List aa×Int⦄ ⦃e:List aa⦄,aF (fun s=>iR n l i r1 s.1 s.2) s=some e→z3 Γ rv n l i r1 e→Bd Γ rv n l i r1 s.1 s.2:=by
 refine aY ?_
 rintro⟨l3,k⟩ z_ h hI hE;simp only[iR,ay,an,ao]at h;rcases h with⟨h5,x0,h6,r2,h7,h8,h⟩|⟨h5,h⟩
 ·exact gn 11 [1,2,5,6,7,8] [0,3] [nL aq r1,bT h5,hH (.draw 9 []),cE aq h6,cC (eb h7),oO (Eq.refl ([(aa.mk x0 r2)].map aa.enc).length),aO aa.enc h8] (hI h)
 ·exact gn 5 [1,2,5,6] [0,1] [nL aq r1,bF h5] (hE h)
theorem zZ(Γ:a5)(rv:List aa){n l}:∀⦃s:List aa×Int⦄ ⦃e:List aa⦄,aF (fun s=>ed n l s.1 s.2) s=some e→zY Γ rv n l e→Bc Γ rv n l s.1 s.2:=by
 refine aY ?_
 rintro⟨l2,i⟩ z_ h hI hE;simp only[ed,ay,an,ao]at h;rcases h with⟨h3,r1,h4,l4,h9,h⟩|⟨h3,h⟩
 ·refine gn 13 [1,2,5,6,7,8] [0,1] [nL ag.enc l,bT h3,cC (DL h4)] (z4 Γ rv h9 ?_);exact gn 3 [1,2,5,6] [0,1] [] (hI h)
 ·exact gn 5 [5] [1] [nL ag.enc l,bF h3] (hE h)
theorem rW(Γ:a5)(rv:List aa){n l l1}(h:gJ n l l1=some rv):lx Γ rv ⟨[.c 15],⟨44,[vL 1 14 l ag.enc,vP 2 0 2,vO 5 1 2 l1 aa.enc],[oX 2 25 (ah.enc n),oS 2 104 l1 aa.enc]⟩⟩:=by
 simp only[gJ,ay,an,ao]at h;obtain⟨l5,dq,h⟩:=h;refine gn 5 [1,2,5,6] [0,1] [] (zZ Γ rv dq ?_);obtain rfl:=oK h;exact gr 2 [] [hW 4,hH (.iY 0),rp 3 (eL l5 aa.enc)]
theorem DK{n l}{rv:List aa}(h:ib n l=some rv):dd prog 41 [.agg (ah.enc n),.one (lL 14 l ag.enc)] [] (one (lL 2 rv aa.enc)) []:=by
 refine aP func41 fun Γ=>?_
 simp only[ib,ay,an,ao]at h;rcases h with⟨r,h0,⟨h1,h⟩|⟨h1,h2,h⟩⟩
 ·exact gn 9 [1,2,5] [0,1] [nL ag.enc l,cC (aC h0),nF h1,hW 1,hH (.kN 5 2 104)] (rW Γ rv h)
 ·exact gn 9 [1,2,5] [0,2] [nL ag.enc l,cC (aC h0),nT h1,oO (Eq.refl ([(aa.mk 4 ByteArray.empty)].map aa.enc).length),aN (l:=([(aa.mk 4 ByteArray.empty)]:List aa)) aa.enc h2] (rW Γ rv h)
def wF(Γ:a5)(rv:Bool)(cf:Cf):Prop:=Go prog f98 [] Γ (one (.bool rv)) [] cf
def Ba(Γ:a5)(rv:Bool)(a:List Int)(i:Int):Prop:=wF Γ rv ⟨[.c 116,.l 116,.b 0,.c 15],⟨28,[vL 0 1 a aq,vI 5 i],[]⟩⟩
def zS(Γ:a5)(rv:Bool)(a:List Int):Prop:=wF Γ rv ⟨[.c 15],⟨28,[],[]⟩⟩
theorem zT(Γ:a5)(rv:Bool){a}:∀⦃s:Int⦄ ⦃e:(Unit)⊕(Bool)⦄,aF (fun s=>cH a s) s=some e→jB e (fun e=>zS Γ rv a) (fun e=>e=rv)→Ba Γ rv a s:=by
 refine aY ?_
 intro i z_ h hI hE;simp only[cH,ay,an,ao]at h;rcases h with⟨h1,x0,h2,⟨h3,h⟩|⟨h3,⟨h4,h⟩|⟨h4,h⟩⟩⟩|⟨h1,h⟩
 ·obtain rfl:=(hE h:_=rv);exact gr 12 [] [nL aq a,bT h1,cE aq h2,rp 6 (bT h3),tT]
 ·obtain rfl:=(hE h:_=rv);exact gr 12 [] [nL aq a,bT h1,cE aq h2,rp 3 (bF h3),cE aq h2,rp 3 (bF h3),bT h4]
 ·exact gn 14 [0,5] [] [nL aq a,bT h1,cE aq h2,rp 3 (bF h3),cE aq h2,rp 3 (bF h3),bF h4] (hI h)
 ·exact gn 5 [] [] [nL aq a,bF h1] (hE h)
theorem vm{a bt}{rv:Bool}(h:ia a bt=some rv):dd prog 98 [.one (lL 1 a aq),.one (lI bt)] [] (one (.bool rv)) []:=by
 refine aP func98 fun Γ=>?_
 simp only[ia,ay,an,ao]at h;rcases h with⟨h0,h⟩|⟨h0,e0,h5,h⟩
 ·obtain rfl:=oK h;exact gr 8 [] [nL aq a,bT h0]
 ·refine gn 12 [0,5] [] [nL aq a,bF h0] (zT Γ rv h5 ?_);rcases e0 with e0|r
  ·obtain rfl:=oK h;exact gr 2 [] []
  ·exact oK h
theorem bf{n low high}{rv:Bool}(h:c_ n low high=some rv):dd prog 99 [.one (lI n),.one (lI low),.one (lI high)] [] (one (.bool rv)) []:=by
 refine aP func99 fun Γ=>?_
 simp only[c_,ay,an,ao]at h;cases h;exact gr 4 [] [rp 4 hP,rp 2 (oI ((bP n low)=true)),oR True ((bP n low)=true)]
theorem dh{s0}{rv:Int}(h:cN s0=some rv):dd prog 100 [.agg (aK.enc s0)] [] (one (lI rv)) []:=by
 refine aP func100 fun Γ=>?_
 simp only[cN,ay,an,ao]at h;rcases h with⟨h0,h⟩|⟨h0,⟨h1,h⟩|⟨h1,h⟩⟩
 ·obtain rfl:=oK h;exact gr 8 [] [rp 12 hP,rp 2 (oI ((aW s0.place (-1))=true)),oR True ((aW s0.place (-1))=true),rp 2 (oI (((aW s0.place (-1))&&(aW s0.aH 0))=true)),oR True (((aW s0.place (-1))&&(aW s0.aH 0))=true),rp 2 (oI ((((aW s0.place (-1))&&(aW s0.aH 0))&&(aW s0.aQ 0))=true)),oR True ((((aW s0.place (-1))&&(aW s0.aH 0))&&(aW s0.aQ 0))=true),bT h0]
 ·obtain rfl:=oK h;exact gr 13 [] [rp 12 hP,rp 2 (oI ((aW s0.place (-1))=true)),oR True ((aW s0.place (-1))=true),rp 2 (oI (((aW s0.place (-1))&&(aW s0.aH 0))=true)),oR True (((aW s0.place (-1))&&(aW s0.aH 0))=true),rp 2 (oI ((((aW s0.place (-1))&&(aW s0.aH 0))&&(aW s0.aQ 0))=true)),oR True ((((aW s0.place (-1))&&(aW s0.aH 0))&&(aW s0.aQ 0))=true),bF h0,rp 22 hP,rp 2 (oI ((aS s0.place 0)=false)),oR True ((aS s0.place 0)=false),rp 4 (oI (((aS s0.place 0)||(aS s0.aH 0))=false)),oR True (((aS s0.place 0)||(aS s0.aH 0))=false),rp 2 (oI ((((aS s0.place 0)||(aS s0.aH 0))||(bU s0.aH s0.aQ))=false)),oR True ((((aS s0.place 0)||(aS s0.aH 0))||(bU s0.aH s0.aQ))=false),rp 2 (oI (((((aS s0.place 0)||(aS s0.aH 0))||(bU s0.aH s0.aQ))||(bU s0.aQ 4096))=false)),oR True (((((aS s0.place 0)||(aS s0.aH 0))||(bU s0.aH s0.aQ))||(bU s0.aQ 4096))=false),rp 2 (oI ((((((aS s0.place 0)||(aS s0.aH 0))||(bU s0.aH s0.aQ))||(bU s0.aQ 4096))||(aS s0.aR 0))=false)),oR True ((((((aS s0.place 0)||(aS s0.aH 0))||(bU s0.aH s0.aQ))||(bU s0.aQ 4096))||(aS s0.aR 0))=false),bT h1]
 ·obtain rfl:=oK h;exact gr 14 [] [rp 12 hP,rp 2 (oI ((aW s0.place (-1))=true)),oR True ((aW s0.place (-1))=true),rp 2 (oI (((aW s0.place (-1))&&(aW s0.aH 0))=true)),oR True (((aW s0.place (-1))&&(aW s0.aH 0))=true),rp 2 (oI ((((aW s0.place (-1))&&(aW s0.aH 0))&&(aW s0.aQ 0))=true)),oR True ((((aW s0.place (-1))&&(aW s0.aH 0))&&(aW s0.aQ 0))=true),bF h0,rp 22 hP,rp 2 (oI ((aS s0.place 0)=false)),oR True ((aS s0.place 0)=false),rp 4 (oI (((aS s0.place 0)||(aS s0.aH 0))=false)),oR True (((aS s0.place 0)||(aS s0.aH 0))=false),rp 2 (oI ((((aS s0.place 0)||(aS s0.aH 0))||(bU s0.aH s0.aQ))=false)),oR True ((((aS s0.place 0)||(aS s0.aH 0))||(bU s0.aH s0.aQ))=false),rp 2 (oI (((((aS s0.place 0)||(aS s0.aH 0))||(bU s0.aH s0.aQ))||(bU s0.aQ 4096))=false)),oR True (((((aS s0.place 0)||(aS s0.aH 0))||(bU s0.aH s0.aQ))||(bU s0.aQ 4096))=false),rp 2 (oI ((((((aS s0.place 0)||(aS s0.aH 0))||(bU s0.aH s0.aQ))||(bU s0.aQ 4096))||(aS s0.aR 0))=false)),oR True ((((((aS s0.place 0)||(aS s0.aH 0))||(bU s0.aH s0.aQ))||(bU s0.aQ 4096))||(aS s0.aR 0))=false),bF h1]
def dg(Γ:a5)(rv:List Int)(cf:Cf):Prop:=Go prog f68 [] Γ (one (lL 1 rv aq)) [] cf
def Bj(Γ:a5)(rv:List Int)(av bt types:Int)(l:List ab)(ct:Int)(x0:ab)(l1:List Int)(i:Int):Prop:=dg Γ rv ⟨[.c 500,.l 500,.b 0,.c 63],⟨156,[vI 0 av,vI 1 bt,vI 2 types,vL 3 16 l ab.enc,vI 4 ct,vO 11 0 1 l1 aq,vP 12 1 16,vI 13 i],[oS 1 33 l1 aq,oX 16 56 (ab.enc x0)]⟩⟩
def Ab(Γ:a5)(rv:List Int)(av bt types:Int)(l:List ab)(ct:Int)(x0:ab)(l1 l2:List Int):Prop:=dg Γ rv ⟨[.c 63],⟨156,[vI 0 av,vI 1 bt,vI 2 types,vO 11 0 1 l2 aq,vP 12 1 16],[oS 1 33 l2 aq,oX 16 56 (ab.enc x0)]⟩⟩
theorem Ac(Γ:a5)(rv:List Int){av bt types l ct x0 l1}:∀⦃s:Int⦄ ⦃e:List Int⦄,aF (fun s=>bY av bt types l ct x0 l1 s) s=some e→Ab Γ rv av bt types l ct x0 l1 e→Bj Γ rv av bt types l ct x0 l1 s:=by
 refine aY ?_
 intro i z_ h hI hE;simp only[bY,ay,an,ao]at h;rcases h with⟨h4,x1,h5,⟨h6,h7,h⟩|⟨h6,h⟩⟩|⟨h4,h⟩
 ·exact gn 13 [0,1,2,11,12] [3,1] [bT h4,hH (.draw 8 []),cE ab.enc h5,bT h6,oO (Eq.refl ([6].map aq).length),aO aq h7] (hE h)
 ·exact gn 14 [0,1,2,3,4,11,12,13] [0,1] [bT h4,hH (.draw 8 []),cE ab.enc h5,bF h6] (hI h)
 ·exact gn 5 [0,1,2,11,12] [0,1] [bF h4] (hE h)
theorem sk(Γ:a5)(rv:List Int){types x0 l6}(h:dE types x0 l6=some rv):dg Γ rv ⟨[.c 2047],⟨156,[vI 2 types,vO 11 0 1 l6 aq,vP 12 1 16],[oS 1 33 l6 aq,oX 16 56 (ab.enc x0)]⟩⟩:=by
 simp only[dE,ay,an,ao]at h;rcases h with⟨r6,EN,⟨A5,r7,Lq,⟨KE,N_,h⟩|⟨KE,h⟩⟩|⟨A5,Oa,h⟩⟩
 ·cases h;exact gr 9 [] [rp 5 hP,rp 3 (oI ((bK x0.pick.place (-1))=true)),oR True ((bK x0.pick.place (-1))=true),cC (bf EN),rp 3 (nF A5),cC (bf Lq),rp 2 (nF A5),rp 26 hP,rp 4 (oI ((!r7)=false)),oI (((!r7)=false)∧(bU x0.split 1)=true),oR True ((!r7)=false),rp 2 (oI (((!r7)||((bU x0.split 1)&&((bK x0.pick.place (-1))&&(bK x0.drop.place (-1)))))=false)),oR True (((!r7)||((bU x0.split 1)&&((bK x0.pick.place (-1))&&(bK x0.drop.place (-1)))))=false),rp 3 (oI ((((!r7)||((bU x0.split 1)&&((bK x0.pick.place (-1))&&(bK x0.drop.place (-1)))))||(aS x0.a3 (-1)))=false)),oR True ((((!r7)||((bU x0.split 1)&&((bK x0.pick.place (-1))&&(bK x0.drop.place (-1)))))||(aS x0.a3 (-1)))=false),rp 2 (oI (((((!r7)||((bU x0.split 1)&&((bK x0.pick.place (-1))&&(bK x0.drop.place (-1)))))||(aS x0.a3 (-1)))||(bP x0.a3 types))=false)),oR True (((((!r7)||((bU x0.split 1)&&((bK x0.pick.place (-1))&&(bK x0.drop.place (-1)))))||(aS x0.a3 (-1)))||(bP x0.a3 types))=false),rp 3 (oI ((((((!r7)||((bU x0.split 1)&&((bK x0.pick.place (-1))&&(bK x0.drop.place (-1)))))||(aS x0.a3 (-1)))||(bP x0.a3 types))||(aS x0.now (-1)))=false)),oR True ((((((!r7)||((bU x0.split 1)&&((bK x0.pick.place (-1))&&(bK x0.drop.place (-1)))))||(aS x0.a3 (-1)))||(bP x0.a3 types))||(aS x0.now (-1)))=false),bT KE,oO (Eq.refl ([2].map aq).length),aO aq N_,hW 5,hH (.iY 3),rp 4 (oO (Eq.refl ((l6++[2]).map aq).length))]
 ·obtain rfl:=oK h;exact gr 9 [] [rp 5 hP,rp 3 (oI ((bK x0.pick.place (-1))=true)),oR True ((bK x0.pick.place (-1))=true),cC (bf EN),rp 3 (nF A5),cC (bf Lq),rp 2 (nF A5),rp 26 hP,rp 4 (oI ((!r7)=false)),oI (((!r7)=false)∧(bU x0.split 1)=true),oR True ((!r7)=false),rp 2 (oI (((!r7)||((bU x0.split 1)&&((bK x0.pick.place (-1))&&(bK x0.drop.place (-1)))))=false)),oR True (((!r7)||((bU x0.split 1)&&((bK x0.pick.place (-1))&&(bK x0.drop.place (-1)))))=false),rp 3 (oI ((((!r7)||((bU x0.split 1)&&((bK x0.pick.place (-1))&&(bK x0.drop.place (-1)))))||(aS x0.a3 (-1)))=false)),oR True ((((!r7)||((bU x0.split 1)&&((bK x0.pick.place (-1))&&(bK x0.drop.place (-1)))))||(aS x0.a3 (-1)))=false),rp 2 (oI (((((!r7)||((bU x0.split 1)&&((bK x0.pick.place (-1))&&(bK x0.drop.place (-1)))))||(aS x0.a3 (-1)))||(bP x0.a3 types))=false)),oR True (((((!r7)||((bU x0.split 1)&&((bK x0.pick.place (-1))&&(bK x0.drop.place (-1)))))||(aS x0.a3 (-1)))||(bP x0.a3 types))=false),rp 3 (oI ((((((!r7)||((bU x0.split 1)&&((bK x0.pick.place (-1))&&(bK x0.drop.place (-1)))))||(aS x0.a3 (-1)))||(bP x0.a3 types))||(aS x0.now (-1)))=false)),oR True ((((((!r7)||((bU x0.split 1)&&((bK x0.pick.place (-1))&&(bK x0.drop.place (-1)))))||(aS x0.a3 (-1)))||(bP x0.a3 types))||(aS x0.now (-1)))=false),bF KE,hW 5,hH (.iY 0),rp 3 (eL l6 aq)]
 ·cases h;exact gr 9 [] [rp 5 hP,rp 3 (oI ((bK x0.pick.place (-1))=true)),oR True ((bK x0.pick.place (-1))=true),cC (bf EN),rp 5 (nT A5),rp 4 tT,kF,rp 21 tT,oO (Eq.refl ([2].map aq).length),aO aq Oa,hW 5,hH (.iY 3),rp 4 (oO (Eq.refl ((l6++[2]).map aq).length))]
theorem so(Γ:a5)(rv:List Int){types x0 l8}(h:fB types x0 l8=some rv):dg Γ rv ⟨[.c 2047],⟨156,[vI 2 types,vO 11 0 1 l8 aq,vP 12 1 16],[oS 1 33 l8 aq,oX 16 56 (ab.enc x0)]⟩⟩:=by
 simp only[fB,ay,an,ao]at h;rcases h with⟨M3,R7,⟨Od,zj,Vy,⟨SZ,Zb,h⟩|⟨SZ,h⟩⟩|⟨Od,Vz,h⟩⟩
 ·cases h;exact gr 9 [] [rp 5 hP,rp 3 (oI ((bK x0.pick.place (-1))=true)),oR True ((bK x0.pick.place (-1))=true),cC (bf R7),rp 3 (nF Od),cC (bf Vy),rp 2 (nF Od),rp 26 hP,rp 4 (oI ((!zj)=false)),oI (((!zj)=false)∧(bU x0.split 1)=true),oR True ((!zj)=false),rp 2 (oI (((!zj)||((bU x0.split 1)&&((bK x0.pick.place (-1))&&(bK x0.drop.place (-1)))))=false)),oR True (((!zj)||((bU x0.split 1)&&((bK x0.pick.place (-1))&&(bK x0.drop.place (-1)))))=false),rp 3 (oI ((((!zj)||((bU x0.split 1)&&((bK x0.pick.place (-1))&&(bK x0.drop.place (-1)))))||(aS x0.a3 (-1)))=false)),oR True ((((!zj)||((bU x0.split 1)&&((bK x0.pick.place (-1))&&(bK x0.drop.place (-1)))))||(aS x0.a3 (-1)))=false),rp 2 (oI (((((!zj)||((bU x0.split 1)&&((bK x0.pick.place (-1))&&(bK x0.drop.place (-1)))))||(aS x0.a3 (-1)))||(bP x0.a3 types))=false)),oR True (((((!zj)||((bU x0.split 1)&&((bK x0.pick.place (-1))&&(bK x0.drop.place (-1)))))||(aS x0.a3 (-1)))||(bP x0.a3 types))=false),rp 3 (oI ((((((!zj)||((bU x0.split 1)&&((bK x0.pick.place (-1))&&(bK x0.drop.place (-1)))))||(aS x0.a3 (-1)))||(bP x0.a3 types))||(aS x0.now (-1)))=false)),oR True ((((((!zj)||((bU x0.split 1)&&((bK x0.pick.place (-1))&&(bK x0.drop.place (-1)))))||(aS x0.a3 (-1)))||(bP x0.a3 types))||(aS x0.now (-1)))=false),bT SZ,oO (Eq.refl ([2].map aq).length),aO aq Zb,hW 5,hH (.iY 3),rp 4 (oO (Eq.refl ((l8++[2]).map aq).length))]
 ·obtain rfl:=oK h;exact gr 9 [] [rp 5 hP,rp 3 (oI ((bK x0.pick.place (-1))=true)),oR True ((bK x0.pick.place (-1))=true),cC (bf R7),rp 3 (nF Od),cC (bf Vy),rp 2 (nF Od),rp 26 hP,rp 4 (oI ((!zj)=false)),oI (((!zj)=false)∧(bU x0.split 1)=true),oR True ((!zj)=false),rp 2 (oI (((!zj)||((bU x0.split 1)&&((bK x0.pick.place (-1))&&(bK x0.drop.place (-1)))))=false)),oR True (((!zj)||((bU x0.split 1)&&((bK x0.pick.place (-1))&&(bK x0.drop.place (-1)))))=false),rp 3 (oI ((((!zj)||((bU x0.split 1)&&((bK x0.pick.place (-1))&&(bK x0.drop.place (-1)))))||(aS x0.a3 (-1)))=false)),oR True ((((!zj)||((bU x0.split 1)&&((bK x0.pick.place (-1))&&(bK x0.drop.place (-1)))))||(aS x0.a3 (-1)))=false),rp 2 (oI (((((!zj)||((bU x0.split 1)&&((bK x0.pick.place (-1))&&(bK x0.drop.place (-1)))))||(aS x0.a3 (-1)))||(bP x0.a3 types))=false)),oR True (((((!zj)||((bU x0.split 1)&&((bK x0.pick.place (-1))&&(bK x0.drop.place (-1)))))||(aS x0.a3 (-1)))||(bP x0.a3 types))=false),rp 3 (oI ((((((!zj)||((bU x0.split 1)&&((bK x0.pick.place (-1))&&(bK x0.drop.place (-1)))))||(aS x0.a3 (-1)))||(bP x0.a3 types))||(aS x0.now (-1)))=false)),oR True ((((((!zj)||((bU x0.split 1)&&((bK x0.pick.place (-1))&&(bK x0.drop.place (-1)))))||(aS x0.a3 (-1)))||(bP x0.a3 types))||(aS x0.now (-1)))=false),bF SZ,hW 5,hH (.iY 0),rp 3 (eL l8 aq)]
 ·cases h;exact gr 9 [] [rp 5 hP,rp 3 (oI ((bK x0.pick.place (-1))=true)),oR True ((bK x0.pick.place (-1))=true),cC (bf R7),rp 5 (nT Od),rp 4 tT,kF,rp 21 tT,oO (Eq.refl ([2].map aq).length),aO aq Vz,hW 5,hH (.iY 3),rp 4 (oO (Eq.refl ((l8++[2]).map aq).length))]
theorem sn(Γ:a5)(rv:List Int){types x0 l7}(h:cu types x0 l7=some rv):dg Γ rv ⟨[.c 1023],⟨156,[vI 2 types,vO 11 0 1 l7 aq,vP 12 1 16],[oS 1 33 l7 aq,oX 16 56 (ab.enc x0)]⟩⟩:=by
 simp only[cu,ay,an,ao]at h;rcases h with⟨r9,R6,⟨Oc,h⟩|⟨Oc,PM,h⟩⟩
 ·exact gn 5 [2,11,12] [0,1] [cC (bf R6),nF Oc] (so Γ rv h)
 ·exact gn 5 [2,11,12] [3,1] [cC (bf R6),nT Oc,oO (Eq.refl ([18].map aq).length),aO aq PM] (so Γ rv h)
theorem sj(Γ:a5)(rv:List Int){types x0 l5}(h:di types x0 l5=some rv):dg Γ rv ⟨[.c 511],⟨156,[vI 2 types,vO 11 0 1 l5 aq,vP 12 1 16],[oS 1 33 l5 aq,oX 16 56 (ab.enc x0)]⟩⟩:=by
 simp only[di,ay,an,ao]at h;rcases h with⟨r4,rk,⟨rl,xI,r5,AL,⟨Hu,h⟩|⟨Hu,B7,h⟩⟩|⟨rl,r8,KT,⟨SY,QW,h⟩|⟨SY,h⟩⟩⟩
 ·exact gn 10 [2,11,12] [3,1] [cC (dh rk),rp 5 (bT rl),tT,oO (Eq.refl ([14].map aq).length),aO aq xI,cC (bf AL),nF Hu] (sk Γ rv h)
 ·exact gn 10 [2,11,12] [5,1] [cC (dh rk),rp 5 (bT rl),tT,oO (Eq.refl ([14].map aq).length),aO aq xI,cC (bf AL),nT Hu,oO (Eq.refl ([18].map aq).length),aO aq B7] (sk Γ rv h)
 ·exact gn 5 [2,11,12] [3,1] [cC (dh rk),rp 3 (bF rl),cC (dh KT),rp 2 (bF rl),bT SY,oO (Eq.refl ([14].map aq).length),aO aq QW] (sn Γ rv h)
 ·exact gn 5 [2,11,12] [0,1] [cC (dh rk),rp 3 (bF rl),cC (dh KT),rp 2 (bF rl),bF SY] (sn Γ rv h)
theorem si(Γ:a5)(rv:List Int){types x0 l4}(h:cJ types x0 l4=some rv):dg Γ rv ⟨[.c 255],⟨156,[vI 2 types,vO 11 0 1 l4 aq,vP 12 1 16],[oS 1 33 l4 aq,oX 16 56 (ab.enc x0)]⟩⟩:=by
 simp only[cJ,ay,an,ao]at h;rcases h with⟨oN,p8,h⟩|⟨oN,h⟩
 ·exact gn 5 [2,11,12] [3,1] [rp 5 hP,rp 3 (oI ((aW x0.pick.place (-1))=true)),oR True ((aW x0.pick.place (-1))=true),bT oN,oO (Eq.refl ([19].map aq).length),aO aq p8] (sj Γ rv h)
 ·exact gn 5 [2,11,12] [0,1] [rp 5 hP,rp 3 (oI ((aW x0.pick.place (-1))=true)),oR True ((aW x0.pick.place (-1))=true),bF oN] (sj Γ rv h)
theorem sr(Γ:a5)(rv:List Int){types x0 Hz}(h:gL types x0 Hz=some rv):dg Γ rv ⟨[.c 2047],⟨156,[vI 2 types,vO 11 0 1 Hz aq,vP 12 1 16],[oS 1 33 Hz aq,oX 16 56 (ab.enc x0)]⟩⟩:=by
 simp only[gL,ay,an,ao]at h;rcases h with⟨Tc,QY,⟨Oe,DU,R8,⟨Ls,VA,h⟩|⟨Ls,h⟩⟩|⟨Oe,VB,h⟩⟩
 ·cases h;exact gr 9 [] [rp 5 hP,rp 3 (oI ((bK x0.pick.place (-1))=true)),oR True ((bK x0.pick.place (-1))=true),cC (bf QY),rp 3 (nF Oe),cC (bf R8),rp 2 (nF Oe),rp 26 hP,rp 4 (oI ((!DU)=false)),oI (((!DU)=false)∧(bU x0.split 1)=true),oR True ((!DU)=false),rp 2 (oI (((!DU)||((bU x0.split 1)&&((bK x0.pick.place (-1))&&(bK x0.drop.place (-1)))))=false)),oR True (((!DU)||((bU x0.split 1)&&((bK x0.pick.place (-1))&&(bK x0.drop.place (-1)))))=false),rp 3 (oI ((((!DU)||((bU x0.split 1)&&((bK x0.pick.place (-1))&&(bK x0.drop.place (-1)))))||(aS x0.a3 (-1)))=false)),oR True ((((!DU)||((bU x0.split 1)&&((bK x0.pick.place (-1))&&(bK x0.drop.place (-1)))))||(aS x0.a3 (-1)))=false),rp 2 (oI (((((!DU)||((bU x0.split 1)&&((bK x0.pick.place (-1))&&(bK x0.drop.place (-1)))))||(aS x0.a3 (-1)))||(bP x0.a3 types))=false)),oR True (((((!DU)||((bU x0.split 1)&&((bK x0.pick.place (-1))&&(bK x0.drop.place (-1)))))||(aS x0.a3 (-1)))||(bP x0.a3 types))=false),rp 3 (oI ((((((!DU)||((bU x0.split 1)&&((bK x0.pick.place (-1))&&(bK x0.drop.place (-1)))))||(aS x0.a3 (-1)))||(bP x0.a3 types))||(aS x0.now (-1)))=false)),oR True ((((((!DU)||((bU x0.split 1)&&((bK x0.pick.place (-1))&&(bK x0.drop.place (-1)))))||(aS x0.a3 (-1)))||(bP x0.a3 types))||(aS x0.now (-1)))=false),bT Ls,oO (Eq.refl ([2].map aq).length),aO aq VA,hW 5,hH (.iY 3),rp 4 (oO (Eq.refl ((Hz++[2]).map aq).length))]
 ·obtain rfl:=oK h;exact gr 9 [] [rp 5 hP,rp 3 (oI ((bK x0.pick.place (-1))=true)),oR True ((bK x0.pick.place (-1))=true),cC (bf QY),rp 3 (nF Oe),cC (bf R8),rp 2 (nF Oe),rp 26 hP,rp 4 (oI ((!DU)=false)),oI (((!DU)=false)∧(bU x0.split 1)=true),oR True ((!DU)=false),rp 2 (oI (((!DU)||((bU x0.split 1)&&((bK x0.pick.place (-1))&&(bK x0.drop.place (-1)))))=false)),oR True (((!DU)||((bU x0.split 1)&&((bK x0.pick.place (-1))&&(bK x0.drop.place (-1)))))=false),rp 3 (oI ((((!DU)||((bU x0.split 1)&&((bK x0.pick.place (-1))&&(bK x0.drop.place (-1)))))||(aS x0.a3 (-1)))=false)),oR True ((((!DU)||((bU x0.split 1)&&((bK x0.pick.place (-1))&&(bK x0.drop.place (-1)))))||(aS x0.a3 (-1)))=false),rp 2 (oI (((((!DU)||((bU x0.split 1)&&((bK x0.pick.place (-1))&&(bK x0.drop.place (-1)))))||(aS x0.a3 (-1)))||(bP x0.a3 types))=false)),oR True (((((!DU)||((bU x0.split 1)&&((bK x0.pick.place (-1))&&(bK x0.drop.place (-1)))))||(aS x0.a3 (-1)))||(bP x0.a3 types))=false),rp 3 (oI ((((((!DU)||((bU x0.split 1)&&((bK x0.pick.place (-1))&&(bK x0.drop.place (-1)))))||(aS x0.a3 (-1)))||(bP x0.a3 types))||(aS x0.now (-1)))=false)),oR True ((((((!DU)||((bU x0.split 1)&&((bK x0.pick.place (-1))&&(bK x0.drop.place (-1)))))||(aS x0.a3 (-1)))||(bP x0.a3 types))||(aS x0.now (-1)))=false),bF Ls,hW 5,hH (.iY 0),rp 3 (eL Hz aq)]
 ·cases h;exact gr 9 [] [rp 5 hP,rp 3 (oI ((bK x0.pick.place (-1))=true)),oR True ((bK x0.pick.place (-1))=true),cC (bf QY),rp 5 (nT Oe),rp 4 tT,kF,rp 21 tT,oO (Eq.refl ([2].map aq).length),aO aq VB,hW 5,hH (.iY 3),rp 4 (oO (Eq.refl ((Hz++[2]).map aq).length))]
theorem q7(Γ:a5)(rv:List Int){types x0 EP}(h:fS types x0 EP=some rv):dg Γ rv ⟨[.c 2047],⟨156,[vI 2 types,vO 11 0 1 EP aq,vP 12 1 16],[oS 1 33 EP aq,oX 16 56 (ab.enc x0)]⟩⟩:=by
 simp only[fS,ay,an,ao]at h;rcases h with⟨SE,VD,⟨U0,CD,S1,⟨Pf,YF,h⟩|⟨Pf,h⟩⟩|⟨U0,U1,h⟩⟩
 ·cases h;exact gr 9 [] [rp 5 hP,rp 3 (oI ((bK x0.pick.place (-1))=true)),oR True ((bK x0.pick.place (-1))=true),cC (bf VD),rp 3 (nF U0),cC (bf S1),rp 2 (nF U0),rp 26 hP,rp 4 (oI ((!CD)=false)),oI (((!CD)=false)∧(bU x0.split 1)=true),oR True ((!CD)=false),rp 2 (oI (((!CD)||((bU x0.split 1)&&((bK x0.pick.place (-1))&&(bK x0.drop.place (-1)))))=false)),oR True (((!CD)||((bU x0.split 1)&&((bK x0.pick.place (-1))&&(bK x0.drop.place (-1)))))=false),rp 3 (oI ((((!CD)||((bU x0.split 1)&&((bK x0.pick.place (-1))&&(bK x0.drop.place (-1)))))||(aS x0.a3 (-1)))=false)),oR True ((((!CD)||((bU x0.split 1)&&((bK x0.pick.place (-1))&&(bK x0.drop.place (-1)))))||(aS x0.a3 (-1)))=false),rp 2 (oI (((((!CD)||((bU x0.split 1)&&((bK x0.pick.place (-1))&&(bK x0.drop.place (-1)))))||(aS x0.a3 (-1)))||(bP x0.a3 types))=false)),oR True (((((!CD)||((bU x0.split 1)&&((bK x0.pick.place (-1))&&(bK x0.drop.place (-1)))))||(aS x0.a3 (-1)))||(bP x0.a3 types))=false),rp 3 (oI ((((((!CD)||((bU x0.split 1)&&((bK x0.pick.place (-1))&&(bK x0.drop.place (-1)))))||(aS x0.a3 (-1)))||(bP x0.a3 types))||(aS x0.now (-1)))=false)),oR True ((((((!CD)||((bU x0.split 1)&&((bK x0.pick.place (-1))&&(bK x0.drop.place (-1)))))||(aS x0.a3 (-1)))||(bP x0.a3 types))||(aS x0.now (-1)))=false),bT Pf,oO (Eq.refl ([2].map aq).length),aO aq YF,hW 5,hH (.iY 3),rp 4 (oO (Eq.refl ((EP++[2]).map aq).length))]
 ·obtain rfl:=oK h;exact gr 9 [] [rp 5 hP,rp 3 (oI ((bK x0.pick.place (-1))=true)),oR True ((bK x0.pick.place (-1))=true),cC (bf VD),rp 3 (nF U0),cC (bf S1),rp 2 (nF U0),rp 26 hP,rp 4 (oI ((!CD)=false)),oI (((!CD)=false)∧(bU x0.split 1)=true),oR True ((!CD)=false),rp 2 (oI (((!CD)||((bU x0.split 1)&&((bK x0.pick.place (-1))&&(bK x0.drop.place (-1)))))=false)),oR True (((!CD)||((bU x0.split 1)&&((bK x0.pick.place (-1))&&(bK x0.drop.place (-1)))))=false),rp 3 (oI ((((!CD)||((bU x0.split 1)&&((bK x0.pick.place (-1))&&(bK x0.drop.place (-1)))))||(aS x0.a3 (-1)))=false)),oR True ((((!CD)||((bU x0.split 1)&&((bK x0.pick.place (-1))&&(bK x0.drop.place (-1)))))||(aS x0.a3 (-1)))=false),rp 2 (oI (((((!CD)||((bU x0.split 1)&&((bK x0.pick.place (-1))&&(bK x0.drop.place (-1)))))||(aS x0.a3 (-1)))||(bP x0.a3 types))=false)),oR True (((((!CD)||((bU x0.split 1)&&((bK x0.pick.place (-1))&&(bK x0.drop.place (-1)))))||(aS x0.a3 (-1)))||(bP x0.a3 types))=false),rp 3 (oI ((((((!CD)||((bU x0.split 1)&&((bK x0.pick.place (-1))&&(bK x0.drop.place (-1)))))||(aS x0.a3 (-1)))||(bP x0.a3 types))||(aS x0.now (-1)))=false)),oR True ((((((!CD)||((bU x0.split 1)&&((bK x0.pick.place (-1))&&(bK x0.drop.place (-1)))))||(aS x0.a3 (-1)))||(bP x0.a3 types))||(aS x0.now (-1)))=false),bF Pf,hW 5,hH (.iY 0),rp 3 (eL EP aq)]
 ·cases h;exact gr 9 [] [rp 5 hP,rp 3 (oI ((bK x0.pick.place (-1))=true)),oR True ((bK x0.pick.place (-1))=true),cC (bf VD),rp 5 (nT U0),rp 4 tT,kF,rp 21 tT,oO (Eq.refl ([2].map aq).length),aO aq U1,hW 5,hH (.iY 3),rp 4 (oO (Eq.refl ((EP++[2]).map aq).length))]
theorem qZ(Γ:a5)(rv:List Int){types x0 FI}(h:fR types x0 FI=some rv):dg Γ rv ⟨[.c 1023],⟨156,[vI 2 types,vO 11 0 1 FI aq,vP 12 1 16],[oS 1 33 FI aq,oX 16 56 (ab.enc x0)]⟩⟩:=by
 simp only[fR,ay,an,ao]at h;rcases h with⟨RA,R9,⟨VC,h⟩|⟨VC,Lt,h⟩⟩
 ·exact gn 5 [2,11,12] [0,1] [cC (bf R9),nF VC] (q7 Γ rv h)
 ·exact gn 5 [2,11,12] [3,1] [cC (bf R9),nT VC,oO (Eq.refl ([18].map aq).length),aO aq Lt] (q7 Γ rv h)
theorem sq(Γ:a5)(rv:List Int){types x0 l9}(h:gK types x0 l9=some rv):dg Γ rv ⟨[.c 511],⟨156,[vI 2 types,vO 11 0 1 l9 aq,vP 12 1 16],[oS 1 33 l9 aq,oX 16 56 (ab.enc x0)]⟩⟩:=by
 simp only[gK,ay,an,ao]at h;rcases h with⟨Ny,KF,⟨Lr,Nq,HQ,QX,⟨Pe,h⟩|⟨Pe,S0,h⟩⟩|⟨Lr,Td,TK,⟨QZ,WK,h⟩|⟨QZ,h⟩⟩⟩
 ·exact gn 10 [2,11,12] [3,1] [cC (dh KF),rp 5 (bT Lr),tT,oO (Eq.refl ([14].map aq).length),aO aq Nq,cC (bf QX),nF Pe] (sr Γ rv h)
 ·exact gn 10 [2,11,12] [5,1] [cC (dh KF),rp 5 (bT Lr),tT,oO (Eq.refl ([14].map aq).length),aO aq Nq,cC (bf QX),nT Pe,oO (Eq.refl ([18].map aq).length),aO aq S0] (sr Γ rv h)
 ·exact gn 5 [2,11,12] [3,1] [cC (dh KF),rp 3 (bF Lr),cC (dh TK),rp 2 (bF Lr),bT QZ,oO (Eq.refl ([14].map aq).length),aO aq WK] (qZ Γ rv h)
 ·exact gn 5 [2,11,12] [0,1] [cC (dh KF),rp 3 (bF Lr),cC (dh TK),rp 2 (bF Lr),bF QZ] (qZ Γ rv h)
theorem sh(Γ:a5)(rv:List Int){av types x0 l3}(h:b7 av types x0 l3=some rv):dg Γ rv ⟨[.c 127],⟨156,[vI 0 av,vI 2 types,vO 11 0 1 l3 aq,vP 12 1 16],[oS 1 33 l3 aq,oX 16 56 (ab.enc x0)]⟩⟩:=by
 simp only[b7,ay,an,ao]at h;rcases h with⟨r2,fN,⟨gC,r3,iH,⟨kT,h⟩|⟨kT,mo,h⟩⟩|⟨gC,UZ,⟨Pd,WJ,h⟩|⟨Pd,h⟩⟩⟩
 ·exact gn 5 [2,11,12] [0,1] [cC (bf fN),rp 6 (nF gC),cC (bf iH),rp 2 (nF gC),nF kT] (si Γ rv h)
 ·exact gn 5 [2,11,12] [3,1] [cC (bf fN),rp 6 (nF gC),cC (bf iH),rp 2 (nF gC),nT kT,oO (Eq.refl ([11].map aq).length),aO aq mo] (si Γ rv h)
 ·exact gn 10 [2,11,12] [5,1] [cC (bf fN),rp 8 (nT gC),tT,oO (Eq.refl ([11].map aq).length),aO aq UZ,rp 5 hP,rp 3 (oI ((aW x0.pick.place (-1))=true)),oR True ((aW x0.pick.place (-1))=true),bT Pd,oO (Eq.refl ([19].map aq).length),aO aq WJ] (sq Γ rv h)
 ·exact gn 10 [2,11,12] [3,1] [cC (bf fN),rp 8 (nT gC),tT,oO (Eq.refl ([11].map aq).length),aO aq UZ,rp 5 hP,rp 3 (oI ((aW x0.pick.place (-1))=true)),oR True ((aW x0.pick.place (-1))=true),bF Pd] (sq Γ rv h)
theorem sg(Γ:a5)(rv:List Int){av bt types l ct x0 l1}(h:dD av bt types l ct x0 l1=some rv):dg Γ rv ⟨[.c 31],⟨156,[vI 0 av,vI 1 bt,vI 2 types,vL 3 16 l ab.enc,vI 4 ct,vO 11 0 1 l1 aq,vP 12 1 16],[oS 1 33 l1 aq,oX 16 56 (ab.enc x0)]⟩⟩:=by
 simp only[dD,ay,an,ao]at h;obtain⟨l2,h8,h⟩:=h;refine gn 5 [0,1,2,3,4,11,12,13] [0,1] [] (Ac Γ rv h8 ?_);rcases h with⟨r1,h9,⟨dq,h⟩|⟨dq,fM,h⟩⟩
 ·exact gn 5 [0,2,11,12] [0,1] [cC (vm h9),nF dq] (sh Γ rv h)
 ·exact gn 5 [0,2,11,12] [3,1] [cC (vm h9),nT dq,oO (Eq.refl ([17].map aq).length),aO aq fM] (sh Γ rv h)
theorem DN{av bt types l ct}{rv:List Int}(h:ep av bt types l ct=some rv):dd prog 68 [.one (lI av),.one (lI bt),.one (lI types),.one (lL 16 l ab.enc),.one (lI ct)] [] (one (lL 1 rv aq)) []:=by
 refine aP func68 fun Γ=>?_
 simp only[ep,ay,an,ao]at h;rcases h with⟨x0,h0,r,h1,⟨h2,h⟩|⟨h2,h3,h⟩⟩
 ·exact gn 11 [0,1,2,3,4,11,12] [1,0] [cE ab.enc h0,cC (jg h1),nF h2,hW 1,hH (.kN 11 1 33)] (sg Γ rv h)
 ·exact gn 11 [0,1,2,3,4,11,12] [2,0] [cE ab.enc h0,cC (jg h1),nT h2,oO (Eq.refl ([5].map aq).length),aN (l:=([5]:List Int)) aq h3] (sg Γ rv h)
def lz(Γ:a5)(rv:List aa)(cf:Cf):Prop:=Go prog f42 [] Γ (one (lL 2 rv aa.enc)) [] cf
def Bi(Γ:a5)(rv:List aa)(n:ah)(bt types:Int)(l:List ab)(i:Int)(r:List Int)(l3:List aa)(k:Int):Prop:=lz Γ rv ⟨[.c 31308,.l 31308,.b 2,.b 1,.c 979,.l 244,.b 0,.c 31],⟨51,[vI 1 bt,vI 2 types,vL 3 16 l ab.enc,vP 4 0 2,vO 9 1 2 l3 aa.enc,vI 10 i,vL 11 1 r aq,vI 12 k],[oX 2 25 (ah.enc n),oS 2 104 l3 aa.enc]⟩⟩
def z9(Γ:a5)(rv:List aa)(n:ah)(bt types:Int)(l:List ab)(i:Int)(r:List Int)(l4:List aa):Prop:=lz Γ rv ⟨[.b 1,.c 979,.l 244,.b 0,.c 31],⟨51,[vI 1 bt,vI 2 types,vL 3 16 l ab.enc,vP 4 0 2,vO 9 1 2 l4 aa.enc,vI 10 i],[oX 2 25 (ah.enc n),oS 2 104 l4 aa.enc]⟩⟩
def Bh(Γ:a5)(rv:List aa)(n:ah)(bt types:Int)(l:List ab)(l2:List aa)(i:Int):Prop:=lz Γ rv ⟨[.c 244,.l 244,.b 0,.c 31],⟨51,[vI 1 bt,vI 2 types,vL 3 16 l ab.enc,vP 4 0 2,vO 9 1 2 l2 aa.enc,vI 10 i],[oX 2 25 (ah.enc n),oS 2 104 l2 aa.enc]⟩⟩
def z7(Γ:a5)(rv:List aa)(n:ah)(bt types:Int)(l:List ab)(l5:List aa):Prop:=lz Γ rv ⟨[.c 31],⟨51,[vO 9 0 2 l5 aa.enc],[oS 2 104 l5 aa.enc]⟩⟩
theorem Aa(Γ:a5)(rv:List aa){n bt types l i r}:∀⦃s:List aa×Int⦄ ⦃e:List aa⦄,aF (fun s=>iS n bt types l i r s.1 s.2) s=some e→z9 Γ rv n bt types l i r e→Bi Γ rv n bt types l i r s.1 s.2:=by
 refine aY ?_
 rintro⟨l3,k⟩ z_ h hI hE;simp only[iS,ay,an,ao]at h;rcases h with⟨h4,x0,h5,r1,h6,h7,h⟩|⟨h4,h⟩
 ·exact gn 11 [1,2,3,4,9,10,11,12] [0,3] [nL aq r,bT h4,hH (.draw 9 []),cE aq h5,cC (eb h6),oO (Eq.refl ([(aa.mk x0 r1)].map aa.enc).length),aO aa.enc h7] (hI h)
 ·exact gn 5 [1,2,3,4,9,10] [0,1] [nL aq r,bF h4] (hE h)
theorem z8(Γ:a5)(rv:List aa){n bt types l}:∀⦃s:List aa×Int⦄ ⦃e:List aa⦄,aF (fun s=>cZ n bt types l s.1 s.2) s=some e→z7 Γ rv n bt types l e→Bh Γ rv n bt types l s.1 s.2:=by
 refine aY ?_
 rintro⟨l2,i⟩ z_ h hI hE;simp only[cZ,ay,an,ao]at h;rcases h with⟨h2,r,h3,l4,h8,h⟩|⟨h2,h⟩
 ·refine gn 13 [1,2,3,4,9,10,11,12] [0,1] [nL ab.enc l,bT h2,nL bR n.av,cC (DN h3)] (Aa Γ rv h8 ?_);exact gn 3 [1,2,3,4,9,10] [0,1] [] (hI h)
 ·exact gn 5 [9] [1] [nL ab.enc l,bF h2] (hE h)
theorem sf(Γ:a5)(rv:List aa){n bt types l l1}(h:ee n bt types l l1=some rv):lz Γ rv ⟨[.c 15],⟨51,[vI 1 bt,vI 2 types,vL 3 16 l ab.enc,vP 4 0 2,vO 9 1 2 l1 aa.enc],[oX 2 25 (ah.enc n),oS 2 104 l1 aa.enc]⟩⟩:=by
 simp only[ee,ay,an,ao]at h;obtain⟨l5,h9,h⟩:=h;refine gn 5 [1,2,3,4,9,10] [0,1] [] (z8 Γ rv h9 ?_);obtain rfl:=oK h;exact gr 2 [] [hW 4,hH (.iY 0),rp 3 (eL l5 aa.enc)]
theorem DM{n bt types l}{rv:List aa}(h:dP n bt types l=some rv):dd prog 42 [.agg (ah.enc n),.one (lI bt),.one (lI types),.one (lL 16 l ab.enc)] [] (one (lL 2 rv aa.enc)) []:=by
 refine aP func42 fun Γ=>?_
 simp only[dP,ay,an,ao]at h;rcases h with⟨h0,h1,h⟩|⟨h0,h⟩
 ·exact gn 9 [1,2,3,4,9] [0,2] [nL ab.enc l,bT h0,oO (Eq.refl ([(aa.mk 4 ByteArray.empty)].map aa.enc).length),aN (l:=([(aa.mk 4 ByteArray.empty)]:List aa)) aa.enc h1] (sf Γ rv h)
 ·exact gn 9 [1,2,3,4,9] [0,1] [nL ab.enc l,bF h0,hW 1,hH (.kN 9 2 104)] (sf Γ rv h)
def uC(Γ:a5)(rv:ByteArray)(cf:Cf):Prop:=Go prog f101 [] Γ (one (.str rv)) [] cf
def y6(Γ:a5)(rv:ByteArray)(n1:Int)(s0:ByteArray):Prop:=uC Γ rv ⟨[.c 56,.l 56,.b 0,.c 15],⟨23,[vI 0 n1,vS 3 s0],[]⟩⟩
def yz(Γ:a5)(rv:ByteArray)(n2:Int)(s1:ByteArray):Prop:=uC Γ rv ⟨[.c 15],⟨23,[vI 0 n2,vS 3 s1],[]⟩⟩
theorem yA(Γ:a5)(rv:ByteArray):∀⦃s:Int×ByteArray⦄ ⦃e:Int×ByteArray⦄,aF (fun s=>i_ s.1 s.2) s=some e→yz Γ rv e.1 e.2→y6 Γ rv s.1 s.2:=by
 refine aY ?_
 rintro⟨n1,s0⟩ z_ h hI hE;simp only[i_,ay,an,ao]at h;rcases h with⟨h0,h1,h⟩|⟨h0,h⟩
 ·exact gn 11 [0,3] [] [bT h0,hH (.ints [(wz .u8 (aT .i64 48 (yG n1 10)))]),oO (oA (n:=10)),oO (Eq.refl ([(wz .u8 (aT .i64 48 (yG n1 10)))].map RX).length),oO (Eq.refl (([(wz .u8 (aT .i64 48 (yG n1 10)))].map RX):List (List Lf))),oO (h1),oO (oA (n:=10))] (hI h)
 ·exact gn 5 [0,3] [] [bF h0] (hE h)
theorem lK{n}{rv:ByteArray}(h:ji n=some rv):dd prog 101 [.one (lI n)] [] (one (.str rv)) []:=by
 refine aP func101 fun Γ=>?_
 simp only[ji,ay,an,ao]at h;obtain⟨⟨n2,s1⟩,h2,h⟩:=h;refine gn 7 [0,3] [] [] (yA Γ rv h2 ?_);obtain⟨h3,h⟩:=h;cases h;exact gr 2 [] [hH (.ints [(wz .u8 (aT .i64 48 n2))]),oO (Eq.refl ([(wz .u8 (aT .i64 48 n2))].map RX).length),oO (Eq.refl (([(wz .u8 (aT .i64 48 n2))].map RX):List (List Lf))),oO (h3)]
def kb(Γ:a5)(rv:List aa)(cf:Cf):Prop:=Go prog f69 [] Γ (one (lL 2 rv aa.enc)) [] cf
def Ae(Γ:a5)(rv:List aa)(aj:Int)(l:List aA)(word:ByteArray)(cp:Bool)(l2:List aa)(i:Int)(x0:aA)(r:ByteArray)(kE:Bool)(k:Int):Prop:=kb Γ rv ⟨[.c 1001972,.l 1001972,.b 2,.c 125247,.b 1,.c 979,.l 244,.b 0,.c 31],⟨123,[vI 0 aj,vL 1 2 l aA.enc,vS 2 word,vB 3 cp,vO 9 0 2 l2 aa.enc,vI 10 i,vI 11 x0.x0,vI 12 x0.x1,vS 13 (bH (bH word bn) r),vB 14 kE,vI 15 k],[oS 2 104 l2 aa.enc]⟩⟩
def y9(Γ:a5)(rv:List aa)(aj:Int)(l:List aA)(word:ByteArray)(cp:Bool)(l2:List aa)(i:Int)(x0:aA)(r:ByteArray)(nJ:Bool):Prop:=kb Γ rv ⟨[.c 125247,.b 1,.c 979,.l 244,.b 0,.c 31],⟨123,[vI 0 aj,vL 1 2 l aA.enc,vS 2 word,vB 3 cp,vO 9 0 2 l2 aa.enc,vI 10 i,vS 13 (bH (bH word bn) r),vB 14 nJ],[oS 2 104 l2 aa.enc]⟩⟩
def Ad(Γ:a5)(rv:List aa)(aj:Int)(l:List aA)(word:ByteArray)(cp:Bool)(l2:List aa)(i:Int):Prop:=kb Γ rv ⟨[.c 244,.l 244,.b 0,.c 31],⟨123,[vI 0 aj,vL 1 2 l aA.enc,vS 2 word,vB 3 cp,vO 9 0 2 l2 aa.enc,vI 10 i],[oS 2 104 l2 aa.enc]⟩⟩
def y7(Γ:a5)(rv:List aa)(aj:Int)(l:List aA)(word:ByteArray)(cp:Bool)(l3:List aa):Prop:=kb Γ rv ⟨[.c 31],⟨123,[vO 9 0 2 l3 aa.enc],[oS 2 104 l3 aa.enc]⟩⟩
theorem y_(Γ:a5)(rv:List aa){aj l word cp l2 i x0 r}:∀⦃s:Bool×Int⦄ ⦃e:Bool⦄,aF (fun s=>du aj l word cp l2 i x0 r s.1 s.2) s=some e→y9 Γ rv aj l word cp l2 i x0 r e→Ae Γ rv aj l word cp l2 i x0 r s.1 s.2:=by
 refine aY ?_
 rintro⟨kE,k⟩ z_ h hI hE;simp only[du,ay,an,ao]at h;rcases h with⟨h9,⟨dq,h⟩|⟨dq,x1,fM,⟨fN,⟨gC,h⟩|⟨gC,⟨iH,⟨kT,h⟩|⟨kT,h⟩⟩|⟨iH,h⟩⟩⟩|⟨fN,⟨mo,⟨oN,h⟩|⟨oN,h⟩⟩|⟨mo,h⟩⟩⟩⟩|⟨h9,h⟩
 ·exact gn 11 [0,1,2,3,9,10,11,12,13,14,15] [0] [bT h9,rp 8 (bT dq),rp 7 kF,rp 2 (bT dq),tT,tT,rp 7 kF,tT,tT,rp 7 kF,tT,tT] (hI h)
 ·exact gn 11 [0,1,2,3,9,10,11,12,13,14,15] [0] [bT h9,rp 3 (bF dq),cE aA.enc fM,bF dq,oO (zL 0),oO (lT 0 2),rp 4 (bF dq),rp 3 (bT fN),cE aA.enc fM,bT fN,oO (zL 1),oO (lT 1 2),rp 3 (bT fN),bF dq,bT fN,bF dq,rp 2 (bT gC),rp 7 kF,rp 2 (bT gC),rp 7 kF,rp 2 (bT gC)] (hI h)
 ·exact gn 11 [0,1,2,3,9,10,11,12,13,14,15] [0] [bT h9,rp 3 (bF dq),cE aA.enc fM,bF dq,oO (zL 0),oO (lT 0 2),rp 4 (bF dq),rp 3 (bT fN),cE aA.enc fM,bT fN,oO (zL 1),oO (lT 1 2),rp 3 (bT fN),bF dq,bT fN,bF dq,rp 2 (bF gC),rp 3 (bT iH),cE aA.enc fM,bT iH,oO (zL 0),oO (lT 0 2),rp 3 (bT iH),bF gC,bT iH,bF gC,rp 3 (bT kT),cE aA.enc fM,bT kT,oO (zL 1),oO (lT 1 2),rp 3 (bT kT),bF gC,bT kT,bF gC] (hI h)
 ·exact gn 11 [0,1,2,3,9,10,11,12,13,14,15] [0] [bT h9,rp 3 (bF dq),cE aA.enc fM,bF dq,oO (zL 0),oO (lT 0 2),rp 4 (bF dq),rp 3 (bT fN),cE aA.enc fM,bT fN,oO (zL 1),oO (lT 1 2),rp 3 (bT fN),bF dq,bT fN,bF dq,rp 2 (bF gC),rp 3 (bT iH),cE aA.enc fM,bT iH,oO (zL 0),oO (lT 0 2),rp 3 (bT iH),bF gC,bT iH,bF gC,rp 7 (bF kT),bF gC,bF kT,bF gC] (hI h)
 ·exact gn 11 [0,1,2,3,9,10,11,12,13,14,15] [0] [bT h9,rp 3 (bF dq),cE aA.enc fM,bF dq,oO (zL 0),oO (lT 0 2),rp 4 (bF dq),rp 3 (bT fN),cE aA.enc fM,bT fN,oO (zL 1),oO (lT 1 2),rp 3 (bT fN),bF dq,bT fN,bF dq,rp 2 (bF gC),rp 7 (bF iH),bF gC,bF iH,bF gC,rp 7 fF,bF gC,fF,bF gC] (hI h)
 ·exact gn 11 [0,1,2,3,9,10,11,12,13,14,15] [0] [bT h9,rp 3 (bF dq),cE aA.enc fM,bF dq,oO (zL 0),oO (lT 0 2),rp 4 (bF dq),rp 7 (bF fN),bF dq,bF fN,bF dq,fF,fF,rp 3 (bT mo),cE aA.enc fM,bT mo,oO (zL 0),oO (lT 0 2),rp 3 (bT mo),fF,bT mo,fF,rp 3 (bT oN),cE aA.enc fM,bT oN,oO (zL 1),oO (lT 1 2),rp 3 (bT oN),fF,bT oN,fF] (hI h)
 ·exact gn 11 [0,1,2,3,9,10,11,12,13,14,15] [0] [bT h9,rp 3 (bF dq),cE aA.enc fM,bF dq,oO (zL 0),oO (lT 0 2),rp 4 (bF dq),rp 7 (bF fN),bF dq,bF fN,bF dq,fF,fF,rp 3 (bT mo),cE aA.enc fM,bT mo,oO (zL 0),oO (lT 0 2),rp 3 (bT mo),fF,bT mo,fF,rp 7 (bF oN),fF,bF oN,fF] (hI h)
 ·exact gn 11 [0,1,2,3,9,10,11,12,13,14,15] [0] [bT h9,rp 3 (bF dq),cE aA.enc fM,bF dq,oO (zL 0),oO (lT 0 2),rp 4 (bF dq),rp 7 (bF fN),bF dq,bF fN,bF dq,fF,fF,rp 7 (bF mo),fF,bF mo,rp 11 fF] (hI h)
 ·exact gn 5 [0,1,2,3,9,10,13,14] [0] [bF h9] (hE h)
theorem y8(Γ:a5)(rv:List aa){aj l word cp}:∀⦃s:List aa×Int⦄ ⦃e:List aa⦄,aF (fun s=>c8 aj l word cp s.1 s.2) s=some e→y7 Γ rv aj l word cp e→Ad Γ rv aj l word cp s.1 s.2:=by
 refine aY ?_
 rintro⟨l2,i⟩ z_ h hI hE;simp only[c8,ay,an,ao]at h;rcases h with⟨h2,x0,h3,h4,r,h5,h6,⟨h7,h8,h⟩|⟨h7,nJ,p8,h⟩⟩|⟨h2,h⟩
 ·exact gn 22 [0,1,2,3,9,10] [2] [nL aA.enc l,bT h2,cE aA.enc h3,oO (zL 0),oO (lT 0 2),cE aA.enc h3,oO (zL 1),oO (lT 1 2),oO (h4),cC (lK h5),rp 15 hP,oO (h6),rp 2 (oI ((aS x0.x0 0)=false)),oR True ((aS x0.x0 0)=false),oI (((aS x0.x0 0)||(bP x0.x0 aj))=false),oR True (((aS x0.x0 0)||(bP x0.x0 aj))=false),rp 2 (oI ((((aS x0.x0 0)||(bP x0.x0 aj))||(aS x0.x1 0))=false)),oR True ((((aS x0.x0 0)||(bP x0.x0 aj))||(aS x0.x1 0))=false),rp 2 (oI (((((aS x0.x0 0)||(bP x0.x0 aj))||(aS x0.x1 0))||(bP x0.x1 aj))=false)),oR True (((((aS x0.x0 0)||(bP x0.x0 aj))||(aS x0.x1 0))||(bP x0.x1 aj))=false),bT h7,oO (Eq.refl ([(aa.mk 2 (bH (bH word bn) r))].map aa.enc).length),aO aa.enc h8] (hI h)
 ·refine gn 25 [0,1,2,3,9,10,11,12,13,14,15] [0] [nL aA.enc l,bT h2,cE aA.enc h3,oO (zL 0),oO (lT 0 2),cE aA.enc h3,oO (zL 1),oO (lT 1 2),oO (h4),cC (lK h5),rp 15 hP,oO (h6),rp 2 (oI ((aS x0.x0 0)=false)),oR True ((aS x0.x0 0)=false),oI (((aS x0.x0 0)||(bP x0.x0 aj))=false),oR True (((aS x0.x0 0)||(bP x0.x0 aj))=false),rp 2 (oI ((((aS x0.x0 0)||(bP x0.x0 aj))||(aS x0.x1 0))=false)),oR True ((((aS x0.x0 0)||(bP x0.x0 aj))||(aS x0.x1 0))=false),rp 2 (oI (((((aS x0.x0 0)||(bP x0.x0 aj))||(aS x0.x1 0))||(bP x0.x1 aj))=false)),oR True (((((aS x0.x0 0)||(bP x0.x0 aj))||(aS x0.x1 0))||(bP x0.x1 aj))=false),bF h7] (y_ Γ rv p8 ?_);rcases h with⟨rk,rl,h⟩|⟨rk,h⟩
  ·exact gn 7 [0,1,2,3,9,10] [2] [bT rk,oO (Eq.refl ([(aa.mk 6 (bH (bH word bn) r))].map aa.enc).length),aO aa.enc rl] (hI h)
  ·exact gn 7 [0,1,2,3,9,10] [0] [bF rk] (hI h)
 ·exact gn 5 [9] [0] [nL aA.enc l,bF h2] (hE h)
theorem q8(Γ:a5)(rv:List aa){aj l word cp l1}(h:fU aj l word cp l1=some rv):kb Γ rv ⟨[.c 15],⟨123,[vI 0 aj,vL 1 2 l aA.enc,vS 2 word,vB 3 cp,vO 9 0 2 l1 aa.enc],[oS 2 104 l1 aa.enc]⟩⟩:=by
 simp only[fU,ay,an,ao]at h;obtain⟨l3,xI,h⟩:=h;refine gn 5 [0,1,2,3,9,10] [0] [] (y8 Γ rv xI ?_);obtain rfl:=oK h;exact gr 2 [] [hW 4,hH (.iY 0),rp 3 (eL l3 aa.enc)]
theorem Ct{aj l word cp}{rv:List aa}(h:gN aj l word cp=some rv):dd prog 69 [.one (lI aj),.one (lL 2 l aA.enc),.one (.str word),.one (.bool cp)] [] (one (lL 2 rv aa.enc)) []:=by
 refine aP func69 fun Γ=>?_
 simp only[gN,ay,an,ao]at h;rcases h with⟨h0,h1,h⟩|⟨h0,h⟩
 ·exact gn 9 [0,1,2,3,9] [1] [nL aA.enc l,bT h0,oO (Eq.refl ([(aa.mk 4 word)].map aa.enc).length),aN (l:=([(aa.mk 4 word)]:List aa)) aa.enc h1] (q8 Γ rv h)
 ·exact gn 9 [0,1,2,3,9] [0] [nL aA.enc l,bF h0,hW 1,hH (.kN 9 2 104)] (q8 Γ rv h)
end
end Go.Proofs.YtbilkblifgaflaaGreatDoor
