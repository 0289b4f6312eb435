/- Part MW. -/
import Derived.Test.YtbilkblifgaflaaGreatDoorMV
import Derived.Test.YtbilkblifgaflaaGreatDoorProg
set_option linter.unusedSimpArgs false
set_option linter.unusedVariables false
set_option linter.unusedSectionVars false
namespace Go.Proofs.YtbilkblifgaflaaGreatDoor
open _root_.Go.Proofs.Tryz
section
set_option maxHeartbeats 4000000
set_option maxRecDepth 100000
def lf(Γ:bn)(rv:List aa)(cf:Cf):Prop:=Go prog f69 [] Γ (one (lO 0 2 rv aa.enc)) [oS 2 104 rv aa.enc] cf
def B4(Γ:bn)(rv:List aa)(ah:Int)(l:List aI)(word:ByteArray)(dB:Bool)(l2:List aa)(i:Int)(x0:aI)(r:ByteArray)(o_:Bool)(k:Int):Prop:=lf Γ rv ⟨[.c 1001972,.l 1001972,.b 2,.c 125247,.b 1,.c 979,.l 244,.b 0,.c 31],⟨123,[vI 0 ah,vL 1 2 l aI.enc,vS 2 word,vB 3 dB,vO 9 0 2 l2 aa.enc,vI 10 i,vI 11 x0.x0,vI 12 x0.x1,vS 13 (cM (cM word cj) r),vB 14 o_,vI 15 k],[oS 2 104 l2 aa.enc]⟩⟩
def Bl(Γ:bn)(rv:List aa)(ah:Int)(l:List aI)(word:ByteArray)(dB:Bool)(l2:List aa)(i:Int)(x0:aI)(r:ByteArray)(te:Bool):Prop:=lf Γ rv ⟨[.c 125247,.b 1,.c 979,.l 244,.b 0,.c 31],⟨123,[vI 0 ah,vL 1 2 l aI.enc,vS 2 word,vB 3 dB,vO 9 0 2 l2 aa.enc,vI 10 i,vS 13 (cM (cM word cj) r),vB 14 te],[oS 2 104 l2 aa.enc]⟩⟩
def B3(Γ:bn)(rv:List aa)(ah:Int)(l:List aI)(word:ByteArray)(dB:Bool)(l2:List aa)(i:Int):Prop:=lf Γ rv ⟨[.c 244,.l 244,.b 0,.c 31],⟨123,[vI 0 ah,vL 1 2 l aI.enc,vS 2 word,vB 3 dB,vO 9 0 2 l2 aa.enc,vI 10 i],[oS 2 104 l2 aa.enc]⟩⟩
def Bj(Γ:bn)(rv:List aa)(ah:Int)(l:List aI)(word:ByteArray)(dB:Bool)(l3:List aa):Prop:=lf Γ rv ⟨[.c 31],⟨123,[vO 9 0 2 l3 aa.enc],[oS 2 104 l3 aa.enc]⟩⟩
theorem Bm(Γ:bn)(rv:List aa){ah l word dB l2 i x0 r}:∀⦃s:Bool×Int⦄ ⦃e:Bool⦄,aK (fun s=>rf ah l word dB l2 i x0 r s.1 s.2) s=some e→Bl Γ rv ah l word dB l2 i x0 r e→B4 Γ rv ah l word dB l2 i x0 r s.1 s.2:=by
 refine bk ?_
 rintro⟨o_,k⟩ z_ h hI hE;simp only[rf,az,an,aq]at h;rcases h with⟨h9,⟨dN,h⟩|⟨dN,x1,gq,⟨gu,⟨ij,h⟩|⟨ij,⟨kH,⟨nk,h⟩|⟨nk,h⟩⟩|⟨kH,h⟩⟩⟩|⟨gu,⟨pc,⟨sG,h⟩|⟨sG,h⟩⟩|⟨pc,h⟩⟩⟩⟩|⟨h9,h⟩
 ·exact gn 11 [0,1,2,3,9,10,11,12,13,14,15] [0] [bT h9,rp 8 (bT dN),rp 7 kF,rp 2 (bT dN),tT,tT,rp 7 kF,tT,tT,rp 7 kF,tT,tT] (hI h)
 ·exact gn 11 [0,1,2,3,9,10,11,12,13,14,15] [0] [bT h9,rp 3 (bF dN),cE aI.enc gq,bF dN,oO (zL 0),oO (lT 0 2),rp 4 (bF dN),rp 3 (bT gu),cE aI.enc gq,bT gu,oO (zL 1),oO (lT 1 2),rp 3 (bT gu),bF dN,bT gu,bF dN,rp 2 (bT ij),rp 7 kF,rp 2 (bT ij),rp 7 kF,rp 2 (bT ij)] (hI h)
 ·exact gn 11 [0,1,2,3,9,10,11,12,13,14,15] [0] [bT h9,rp 3 (bF dN),cE aI.enc gq,bF dN,oO (zL 0),oO (lT 0 2),rp 4 (bF dN),rp 3 (bT gu),cE aI.enc gq,bT gu,oO (zL 1),oO (lT 1 2),rp 3 (bT gu),bF dN,bT gu,bF dN,rp 2 (bF ij),rp 3 (bT kH),cE aI.enc gq,bT kH,oO (zL 0),oO (lT 0 2),rp 3 (bT kH),bF ij,bT kH,bF ij,rp 3 (bT nk),cE aI.enc gq,bT nk,oO (zL 1),oO (lT 1 2),rp 3 (bT nk),bF ij,bT nk,bF ij] (hI h)
 ·exact gn 11 [0,1,2,3,9,10,11,12,13,14,15] [0] [bT h9,rp 3 (bF dN),cE aI.enc gq,bF dN,oO (zL 0),oO (lT 0 2),rp 4 (bF dN),rp 3 (bT gu),cE aI.enc gq,bT gu,oO (zL 1),oO (lT 1 2),rp 3 (bT gu),bF dN,bT gu,bF dN,rp 2 (bF ij),rp 3 (bT kH),cE aI.enc gq,bT kH,oO (zL 0),oO (lT 0 2),rp 3 (bT kH),bF ij,bT kH,bF ij,rp 7 (bF nk),bF ij,bF nk,bF ij] (hI h)
 ·exact gn 11 [0,1,2,3,9,10,11,12,13,14,15] [0] [bT h9,rp 3 (bF dN),cE aI.enc gq,bF dN,oO (zL 0),oO (lT 0 2),rp 4 (bF dN),rp 3 (bT gu),cE aI.enc gq,bT gu,oO (zL 1),oO (lT 1 2),rp 3 (bT gu),bF dN,bT gu,bF dN,rp 2 (bF ij),rp 7 (bF kH),bF ij,bF kH,bF ij,rp 7 fF,bF ij,fF,bF ij] (hI h)
 ·exact gn 11 [0,1,2,3,9,10,11,12,13,14,15] [0] [bT h9,rp 3 (bF dN),cE aI.enc gq,bF dN,oO (zL 0),oO (lT 0 2),rp 4 (bF dN),rp 7 (bF gu),bF dN,bF gu,bF dN,fF,fF,rp 3 (bT pc),cE aI.enc gq,bT pc,oO (zL 0),oO (lT 0 2),rp 3 (bT pc),fF,bT pc,fF,rp 3 (bT sG),cE aI.enc gq,bT sG,oO (zL 1),oO (lT 1 2),rp 3 (bT sG),fF,bT sG,fF] (hI h)
 ·exact gn 11 [0,1,2,3,9,10,11,12,13,14,15] [0] [bT h9,rp 3 (bF dN),cE aI.enc gq,bF dN,oO (zL 0),oO (lT 0 2),rp 4 (bF dN),rp 7 (bF gu),bF dN,bF gu,bF dN,fF,fF,rp 3 (bT pc),cE aI.enc gq,bT pc,oO (zL 0),oO (lT 0 2),rp 3 (bT pc),fF,bT pc,fF,rp 7 (bF sG),fF,bF sG,fF] (hI h)
 ·exact gn 11 [0,1,2,3,9,10,11,12,13,14,15] [0] [bT h9,rp 3 (bF dN),cE aI.enc gq,bF dN,oO (zL 0),oO (lT 0 2),rp 4 (bF dN),rp 7 (bF gu),bF dN,bF gu,bF dN,fF,fF,rp 7 (bF pc),fF,bF pc,rp 11 fF] (hI h)
 ·exact gn 5 [0,1,2,3,9,10,13,14] [0] [bF h9] (hE h)
theorem Bk(Γ:bn)(rv:List aa){ah l word dB}:∀⦃s:List aa×Int⦄ ⦃e:List aa⦄,aK (fun s=>re ah l word dB s.1 s.2) s=some e→Bj Γ rv ah l word dB e→B3 Γ rv ah l word dB s.1 s.2:=by
 refine bk ?_
 rintro⟨l2,i⟩ z_ h hI hE;simp only[re,az,an,aq]at h;rcases h with⟨h2,x0,h3,h4,r,h5,h6,⟨h7,h8,h⟩|⟨h7,te,ti,h⟩⟩|⟨h2,h⟩
 ·exact gn 22 [0,1,2,3,9,10] [2] [nL aI.enc l,bT h2,cE aI.enc h3,oO (zL 0),oO (lT 0 2),cE aI.enc h3,oO (zL 1),oO (lT 1 2),oO (h4),cC (qd h5),rp 15 hP,oO (h6),rp 2 (oI ((aT x0.x0 0)=false)),oR True ((aT x0.x0 0)=false),oI (((aT x0.x0 0)||(bZ x0.x0 ah))=false),oR True (((aT x0.x0 0)||(bZ x0.x0 ah))=false),rp 2 (oI ((((aT x0.x0 0)||(bZ x0.x0 ah))||(aT x0.x1 0))=false)),oR True ((((aT x0.x0 0)||(bZ x0.x0 ah))||(aT x0.x1 0))=false),rp 2 (oI (((((aT x0.x0 0)||(bZ x0.x0 ah))||(aT x0.x1 0))||(bZ x0.x1 ah))=false)),oR True (((((aT x0.x0 0)||(bZ x0.x0 ah))||(aT x0.x1 0))||(bZ x0.x1 ah))=false),bT h7,oO (Eq.refl ([(aa.mk 2 (cM (cM word cj) r))].map aa.enc).length),aO aa.enc h8] (hI h)
 ·refine gn 25 [0,1,2,3,9,10,11,12,13,14,15] [0] [nL aI.enc l,bT h2,cE aI.enc h3,oO (zL 0),oO (lT 0 2),cE aI.enc h3,oO (zL 1),oO (lT 1 2),oO (h4),cC (qd h5),rp 15 hP,oO (h6),rp 2 (oI ((aT x0.x0 0)=false)),oR True ((aT x0.x0 0)=false),oI (((aT x0.x0 0)||(bZ x0.x0 ah))=false),oR True (((aT x0.x0 0)||(bZ x0.x0 ah))=false),rp 2 (oI ((((aT x0.x0 0)||(bZ x0.x0 ah))||(aT x0.x1 0))=false)),oR True ((((aT x0.x0 0)||(bZ x0.x0 ah))||(aT x0.x1 0))=false),rp 2 (oI (((((aT x0.x0 0)||(bZ x0.x0 ah))||(aT x0.x1 0))||(bZ x0.x1 ah))=false)),oR True (((((aT x0.x0 0)||(bZ x0.x0 ah))||(aT x0.x1 0))||(bZ x0.x1 ah))=false),bF h7] (Bm Γ rv ti ?_);rcases h with⟨vF,va,h⟩|⟨vF,h⟩
  ·exact gn 7 [0,1,2,3,9,10] [2] [bT vF,oO (Eq.refl ([(aa.mk 6 (cM (cM word cj) r))].map aa.enc).length),aO aa.enc va] (hI h)
  ·exact gn 7 [0,1,2,3,9,10] [0] [bF vF] (hI h)
 ·exact gn 5 [9] [0] [nL aI.enc l,bF h2] (hE h)
theorem uk(Γ:bn)(rv:List aa){ah l word dB l1}(h:m9 ah l word dB l1=some rv):lf Γ rv ⟨[.c 15],⟨123,[vI 0 ah,vL 1 2 l aI.enc,vS 2 word,vB 3 dB,vO 9 0 2 l1 aa.enc],[oS 2 104 l1 aa.enc]⟩⟩:=by
 simp only[m9,az,an,aq]at h;obtain⟨l3,BQ,h⟩:=h;refine gn 5 [0,1,2,3,9,10] [0] [] (Bk Γ rv BQ ?_);obtain rfl:=oK h;exact gr 2 [0] []
theorem Ee{ah l word dB}{rv:List aa}(h:qe ah l word dB=some rv):dF prog 69 [.one (lI ah),.one (lL 2 l aI.enc),.one (.str word),.one (.bool dB)] [] (one (lO 0 2 rv aa.enc)) [oS 2 104 rv aa.enc]:=by
 refine aU func69 fun Γ=>?_
 simp only[qe,az,an,aq]at h;rcases h with⟨h0,h1,h⟩|⟨h0,h⟩
 ·exact gn 9 [0,1,2,3,9] [1] [nL aI.enc l,bT h0,oO (Eq.refl ([(aa.mk 4 word)].map aa.enc).length),aN (l:=([(aa.mk 4 word)]:List aa)) aa.enc h1] (uk Γ rv h)
 ·exact gn 9 [0,1,2,3,9] [0] [nL aI.enc l,bF h0,hW 1,hH (.lP 9 2 104)] (uk Γ rv h)
theorem Lp{ah db before}{rv:List aa}(h:ld ah db before=some rv):dF prog 44 [.one (lI ah),.one (lL 2 db aI.enc),.one (lL 2 before aI.enc)] [] (one (lL 2 rv aa.enc)) []:=by
 refine aU func44 fun Γ=>?_
 simp only[ld,az,an,aq]at h;obtain⟨r,h0,r1,h1,h2,h⟩:=h;cases h;exact gr 6 [] [cC (Ee h0),cC (JH h1),aO aa.enc h2,hW 1,hH (.kX 1),rp 2 (oO (Eq.refl ((r++r1).map aa.enc).length))]
def sW(Γ:bn)(rv:List aa)(cf:Cf):Prop:=Go prog f39 [] Γ (one (lO 0 2 rv aa.enc)) [oS 2 104 rv aa.enc] cf
def vM(Γ:bn)(rv:List aa)(word:ByteArray)(l l1:List aa)(i:Int):Prop:=sW Γ rv ⟨[.c 116,.l 116,.b 0,.c 15],⟨40,[vS 0 word,vL 1 2 l aa.enc,vO 5 0 2 l1 aa.enc,vI 6 i],[oS 2 104 l1 aa.enc]⟩⟩
def uO(Γ:bn)(rv:List aa)(word:ByteArray)(l l2:List aa):Prop:=sW Γ rv ⟨[.c 15],⟨40,[vO 5 0 2 l2 aa.enc],[oS 2 104 l2 aa.enc]⟩⟩
theorem uN(Γ:bn)(rv:List aa){word l l1 i di}{x:(List aa×Int)⊕(List aa)}(h:nJ word l l1 i di=some x)(hI:∀⦃s:List aa×Int⦄,some (.inl s)=some x→vM Γ rv word l s.1 s.2)(hE:∀⦃e:List aa⦄,some (.inr e)=some x→uO Γ rv word l e):sW Γ rv ⟨[.c 3731,.b 1,.c 467,.l 116,.b 0,.c 15],⟨40,[vS 0 word,vL 1 2 l aa.enc,vO 5 0 2 l1 aa.enc,vI 6 i,vS 7 di],[oS 2 104 l1 aa.enc]⟩⟩:=by
 simp only[nJ,az,an,aq]at h;obtain⟨x1,h5,h6,h⟩:=h;exact gn 4 [0,1,5,6] [2] [cE aa.enc h5,oO (Eq.refl ([(aa.mk x1.IK di)].map aa.enc).length),aO aa.enc h6] (hI h)
theorem B5(Γ:bn)(rv:List aa){word l}:∀⦃s:List aa×Int⦄ ⦃e:List aa⦄,aK (fun s=>rS word l s.1 s.2) s=some e→uO Γ rv word l e→vM Γ rv word l s.1 s.2:=by
 refine bk ?_
 rintro⟨l1,i⟩ z_ h hI hE;simp only[rS,az,an,aq]at h;rcases h with⟨h0,x0,h1,⟨h2,h⟩|⟨h2,h3,h4,h⟩⟩|⟨h0,h⟩
 ·exact gn 14 [0,1,5,6,7] [0] [nL aa.enc l,bT h0,cE aa.enc h1,nF h2] (uN Γ rv h hI hE)
 ·exact gn 14 [0,1,5,6,7] [0] [nL aa.enc l,bT h0,cE aa.enc h1,nT h2,oO (h3),cE aa.enc h1,oO (h4)] (uN Γ rv h hI hE)
 ·exact gn 5 [5] [0] [nL aa.enc l,bF h0] (hE h)
theorem E2{word l}{rv:List aa}(h:gh word l=some rv):dF prog 39 [.one (.str word),.one (lL 2 l aa.enc)] [] (one (lO 0 2 rv aa.enc)) [oS 2 104 rv aa.enc]:=by
 refine aU func39 fun Γ=>?_
 simp only[gh,az,an,aq]at h;obtain⟨l2,h7,h⟩:=h;refine gn 9 [0,1,5,6] [0] [hW 12,hH (.lP 5 2 104)] (B5 Γ rv h7 ?_);obtain rfl:=oK h;exact gr 2 [0] []
theorem mn{x0}{rv:List aa}(h:dg x0=some rv):dF prog 19 [.agg (ae.enc x0)] [] (one (lL 2 rv aa.enc)) []:=by
 refine aU func19 fun Γ=>?_
 simp only[dg,az,an,aq]at h;obtain⟨r,h0,r1,h1,r2,h2,r3,h3,h4,r4,h5,r5,h6,r6,h7,h8,r7,h9,r8,dN,gq,h⟩:=h;cases h;exact gr 12 [] [cC (Lk h0),cC (E2 h1),cC (Ll h2),cC (vY h3),aO aa.enc h4,hH (.draw 13 []),cC (pT h5),nL ag.enc x0.types,cC (Ln h6),cC (vY h7),aO aa.enc h8,nL af.enc x0.ah,cC (Lp h9),cC (vY dN),aO aa.enc gq,hW 5,hH (.kX 4),rp 4 (oO (Eq.refl ((((r1++r3)++r6)++r8).map aa.enc).length))]
def Dp(Γ:bn)(rv:Bool)(cf:Cf):Prop:=Go prog f55 [] Γ (one (.bool rv)) [] cf
def JG(Γ:bn)(rv:Bool)(t:ag)(bD bit:Int):Prop:=Dp Γ rv ⟨[.c 116,.l 116,.b 0,.c 15],⟨30,[vI 1 bD,vP 2 0 14,vI 5 bit],[oX 14 70 (ag.enc t)]⟩⟩
def HU(Γ:bn)(rv:Bool)(t:ag)(bD:Int):Prop:=Dp Γ rv ⟨[.c 15],⟨30,[],[]⟩⟩
theorem HV(Γ:bn)(rv:Bool){t bD}:∀⦃s:Int⦄ ⦃e:(Unit)⊕(Bool)⦄,aK (fun s=>kU t bD s) s=some e→jf e (fun e=>HU Γ rv t bD) (fun e=>e=rv)→JG Γ rv t bD s:=by
 refine bk ?_
 intro bit z_ h hI hE;simp only[kU,az,an,aq]at h;rcases h with⟨h1,h2,⟨h3,h4,⟨h5,h⟩|⟨h5,h⟩⟩|⟨h3,h⟩⟩|⟨h1,h⟩
 ·obtain rfl:=(hE h:_=rv);exact gr 12 [] [bT h1,oO (h2),oO (oA (n:=2)),rp 4 (bT h3),oO (h4),bT h3,oO (oA (n:=2)),bT h3,bT h3,bT h5]
 ·exact gn 14 [1,2,5] [0] [bT h1,oO (h2),oO (oA (n:=2)),rp 4 (bT h3),oO (h4),bT h3,oO (oA (n:=2)),bT h3,bT h3,bF h5] (hI h)
 ·exact gn 14 [1,2,5] [0] [bT h1,oO (h2),oO (oA (n:=2)),rp 7 (bF h3),fF] (hI h)
 ·exact gn 5 [] [] [bF h1] (hE h)
theorem B1{t bD}{rv:Bool}(h:nS t bD=some rv):dF prog 55 [.agg (ag.enc t),.one (lI bD)] [] (one (.bool rv)) []:=by
 refine aU func55 fun Γ=>?_
 simp only[nS,az,an,aq]at h;rcases h with⟨h0,h⟩|⟨h0,e0,h6,h⟩
 ·obtain rfl:=oK h;exact gr 8 [] [hP,hP,hP,oI ((aT t.bD 0)=false),oR True ((aT t.bD 0)=false),bT h0]
 ·refine gn 12 [1,2,5] [0] [hP,hP,hP,oI ((aT t.bD 0)=false),oR True ((aT t.bD 0)=false),bF h0] (HV Γ rv h6 ?_);rcases e0 with e0|r
  ·obtain rfl:=oK h;exact gr 2 [] []
  ·exact oK h
def AO(Γ:bn)(rv:Int)(cf:Cf):Prop:=Go prog f125 [] Γ (one (lI rv)) [] cf
def F2(Γ:bn)(rv:Int)(l:List aB)(t i:Int):Prop:=AO Γ rv ⟨[.c 116,.l 116,.b 0,.c 15],⟨93,[vL 0 2 l aB.enc,vI 1 t,vI 5 i],[]⟩⟩
def ET(Γ:bn)(rv:Int)(l:List aB)(t:Int):Prop:=AO Γ rv ⟨[.c 15],⟨93,[vL 0 2 l aB.enc,vI 1 t],[]⟩⟩
theorem EU(Γ:bn)(rv:Int){l t}:∀⦃s:Int⦄ ⦃e:(Unit)⊕(Int)⦄,aK (fun s=>nu l t s) s=some e→jf e (fun e=>ET Γ rv l t) (fun e=>e=rv)→F2 Γ rv l t s:=by
 refine bk ?_
 intro i z_ h hI hE;simp only[nu,az,an,aq]at h;rcases h with⟨h2,x0,h3,x1,h4,⟨h5,h6,h⟩|⟨h5,h⟩⟩|⟨h2,h⟩
 ·obtain rfl:=(hE h:_=rv);exact gr 16 [] [nL aB.enc l,bT h2,cE aB.enc h3,cE aB.enc h4,rp 5 hP,rp 3 (oI ((jD x0.t t)=true)),oR True ((jD x0.t t)=true),bT h5,hH (.draw 27 []),oO (h6)]
 ·exact gn 18 [0,1,5] [] [nL aB.enc l,bT h2,cE aB.enc h3,cE aB.enc h4,rp 5 hP,rp 3 (oI ((jD x0.t t)=true)),oR True ((jD x0.t t)=true),bF h5] (hI h)
 ·exact gn 5 [0,1] [] [nL aB.enc l,bF h2] (hE h)
theorem JD{l t}{rv:Int}(h:qK l t=some rv):dF prog 125 [.one (lL 2 l aB.enc),.one (lI t)] [] (one (lI rv)) []:=by
 refine aU func125 fun Γ=>?_
 simp only[qK,az,an,aq]at h;rcases h with⟨r,h0,⟨h1,h⟩|⟨h1,e0,h7,h⟩⟩
 ·obtain rfl:=oK h;exact gr 8 [] [cC (vX h0),nL aa.enc r,rp 6 hP,oI ((cQ (aC r) 0)=false),oR True ((cQ (aC r) 0)=false),oI (((cQ (aC r) 0)||(aT t 0))=false),oR True (((cQ (aC r) 0)||(aT t 0))=false),bT h1]
 ·refine gn 12 [0,1,5] [] [cC (vX h0),nL aa.enc r,rp 6 hP,oI ((cQ (aC r) 0)=false),oR True ((cQ (aC r) 0)=false),oI (((cQ (aC r) 0)||(aT t 0))=false),oR True (((cQ (aC r) 0)||(aT t 0))=false),bF h1] (EU Γ rv h7 ?_);rcases e0 with e0|r1
  ·simp only[en,az,an,aq]at h;rcases h with⟨x2,h8,⟨h9,x3,dN,h⟩|⟨h9,h⟩⟩
   ·cases h;exact gr 9 [] [cE aB.enc h8,bT h9,nL aB.enc l,cE aB.enc dN]
   ·cases h;exact gr 9 [] [cE aB.enc h8,bF h9]
  ·exact oK h
def AP(Γ:bn)(rv:Int)(cf:Cf):Prop:=Go prog f92 [] Γ (one (lI rv)) [] cf
def F4(Γ:bn)(rv:Int)(a:aw)(t n i:Int):Prop:=AP Γ rv ⟨[.c 116,.l 116,.b 0,.c 15],⟨35,[vI 1 t,vP 2 0 6,vI 5 n,vI 6 i],[oX 6 59 (aw.enc a)]⟩⟩
def EV(Γ:bn)(rv:Int)(a:aw)(t n1:Int):Prop:=AP Γ rv ⟨[.c 15],⟨35,[vI 5 n1],[]⟩⟩
theorem EW(Γ:bn)(rv:Int){a t}:∀⦃s:Int×Int⦄ ⦃e:Int⦄,aK (fun s=>uM a t s.1 s.2) s=some e→EV Γ rv a t e→F4 Γ rv a t s.1 s.2:=by
 refine bk ?_
 rintro⟨n,i⟩ z_ h hI hE;simp only[uM,az,an,aq]at h;rcases h with⟨h1,x0,h2,⟨h3,h⟩|⟨h3,h⟩⟩|⟨h1,h⟩
 ·exact gn 14 [1,2,5,6] [0] [nL aB.enc a.eU,bT h1,cE aB.enc h2,bT h3,cE aB.enc h2] (hI h)
 ·exact gn 14 [1,2,5,6] [0] [nL aB.enc a.eU,bT h1,cE aB.enc h2,bF h3] (hI h)
 ·exact gn 5 [5] [] [nL aB.enc a.eU,bF h1] (hE h)
theorem JE{a t}{rv:Int}(h:nH a t=some rv):dF prog 92 [.agg (aw.enc a),.one (lI t)] [] (one (lI rv)) []:=by
 refine aU func92 fun Γ=>?_
 simp only[nH,az,an,aq]at h;obtain⟨r,h0,n1,h4,h⟩:=h;refine gn 9 [1,2,5,6] [0] [cC (JD h0)] (EW Γ rv h4 ?_);obtain rfl:=oK h;exact gr 2 [] []
theorem gE{n p}{rv:Bool}(h:pe n p=some rv):dF prog 90 [.agg (ak.enc n),.one (lI p)] [] (one (.bool rv)) []:=by
 refine aU func90 fun Γ=>?_
 simp only[pe,az,an,aq]at h;cases h;exact gr 4 [] [rp 4 hP,rp 2 (oI ((bZ p 0)=true)),nL dC n.aD,hP,hP,rp 2 (oI ((bZ p 0)=true)),oR True ((bZ p 0)=true)]
def Dm(Γ:bn)(rv:aw×Bool)(cf:Cf):Prop:=Go prog f91 [] Γ (.o5 [.agg [lI rv.1.aE,lI rv.1.dE,lI rv.1.aj,lI rv.1.cT,lL 2 rv.1.dM aB.enc,lL 2 rv.1.eU aB.enc],.one (.bool rv.2)]) [] cf
def JF(Γ:bn)(rv:aw×Bool)(n:ak)(aj aE dE i:Int):Prop:=Dm Γ rv ⟨[.c 52,.l 52,.b 0,.c 7],⟨42,[vI 1 aj,vI 2 aE,vI 3 dE,vP 4 0 2,vP 8 1 6,vI 10 i],[oX 2 25 (ak.enc n),oX 6 59 [lI 0,lI 0,lI 0,lI 0,.dO,.dO]]⟩⟩
def HS(Γ:bn)(rv:aw×Bool)(n:ak)(aj aE dE:Int):Prop:=Dm Γ rv ⟨[.c 7],⟨42,[vP 8 0 6],[oX 6 59 [lI 0,lI 0,lI 0,lI 0,.dO,.dO]]⟩⟩
theorem HT(Γ:bn)(rv:aw×Bool){n aj aE dE}:∀⦃s:Int⦄ ⦃e:(Unit)⊕(aw×Bool)⦄,aK (fun s=>pQ n aj aE dE s) s=some e→jf e (fun e=>HS Γ rv n aj aE dE) (fun e=>e=rv)→JF Γ rv n aj aE dE s:=by
 refine bk ?_
 intro i z_ h hI hE;simp only[pQ,az,an,aq]at h;rcases h with⟨h0,x0,h1,⟨h2,h⟩|⟨h2,h⟩⟩|⟨h0,h⟩
 ·obtain rfl:=(hE h:_=rv);exact gr 14 [] [nL aw.enc n.bj,bT h0,cE aw.enc h1,rp 10 hP,rp 3 (oI ((bP x0.aE aE)=true)),oR True ((bP x0.aE aE)=true),rp 3 (oI (((bP x0.aE aE)&&(bP x0.dE dE))=true)),oR True (((bP x0.aE aE)&&(bP x0.dE dE))=true),bT h2]
 ·exact gn 16 [1,2,3,4,8,10] [0,1] [nL aw.enc n.bj,bT h0,cE aw.enc h1,rp 10 hP,rp 3 (oI ((bP x0.aE aE)=true)),oR True ((bP x0.aE aE)=true),rp 3 (oI (((bP x0.aE aE)&&(bP x0.dE dE))=true)),oR True (((bP x0.aE aE)&&(bP x0.dE dE))=true),bF h2] (hI h)
 ·exact gn 5 [8] [1] [nL aw.enc n.bj,bF h0] (hE h)
theorem B0{n aj aE dE}{rv:aw×Bool}(h:tt n aj aE dE=some rv):dF prog 91 [.agg (ak.enc n),.one (lI aj),.one (lI aE),.one (lI dE)] [] (.o5 [.agg [lI rv.1.aE,lI rv.1.dE,lI rv.1.aj,lI rv.1.cT,lL 2 rv.1.dM aB.enc,lL 2 rv.1.eU aB.enc],.one (.bool rv.2)]) []:=by
 refine aU func91 fun Γ=>?_
 simp only[tt,az,an,aq]at h;obtain⟨e0,h3,h⟩:=h;refine gn 7 [1,2,3,4,8,10] [0,1] [] (HT Γ rv h3 ?_);rcases e0 with e0|r
 ·cases h;exact gr 2 [] [hW 5,hH (.fW 0 4 2),hH (.fW 0 5 2)]
 ·exact oK h
theorem Qd{n aj aE dE t}{rv:Int×Int×Int}(h:tV n aj aE dE t=some rv):dF prog 62 [.agg (ak.enc n),.one (lI aj),.one (lI aE),.one (lI dE),.one (lI t)] [] (.o5 [.one (lI rv.1),.one (lI rv.2.1),.one (lI rv.2.2)]) []:=by
 refine aU func62 fun Γ=>?_
 simp only[tV,az,an,aq]at h;rcases h with⟨r,h0,⟨h1,r1,h2,⟨h3,⟨h4,h⟩|⟨h4,r2,h5,⟨h6,r3,h7,h⟩|⟨h6,h⟩⟩⟩|⟨h3,h⟩⟩|⟨h1,h⟩⟩
 ·cases h;exact gr 13 [] [cC (gE h0),rp 3 (nF h1),cC (gE h2),nF h1,nF h1,nF h3,bT h4]
 ·cases h;exact gr 21 [] [cC (gE h0),rp 3 (nF h1),cC (gE h2),nF h1,nF h1,nF h3,bF h4,cC (B0 h5),nF h6,hH (.draw 8 []),cC (JE h7)]
 ·cases h;exact gr 20 [] [cC (gE h0),rp 3 (nF h1),cC (gE h2),nF h1,nF h1,nF h3,bF h4,cC (B0 h5),nT h6]
 ·cases h;exact gr 8 [] [cC (gE h0),rp 3 (nF h1),cC (gE h2),nF h1,nF h1,nT h3]
 ·cases h;exact gr 8 [] [cC (gE h0),rp 5 (nT h1),tT]
def A1(Γ:bn)(rv:Bool)(cf:Cf):Prop:=Go prog f70 [] Γ (one (.bool rv)) [] cf
def GN(Γ:bn)(rv:Bool)(x0:ae)(ba left i:Int):Prop:=A1 Γ rv ⟨[.c 116,.l 116,.b 0,.c 15],⟨27,[vI 1 ba,vP 2 0 6,vI 5 left,vI 6 i],[oX 6 30 (ae.enc x0)]⟩⟩
def Fg(Γ:bn)(rv:Bool)(x0:ae)(ba Oq:Int):Prop:=A1 Γ rv ⟨[.c 15],⟨27,[vI 1 ba,vI 5 Oq],[]⟩⟩
theorem Fh(Γ:bn)(rv:Bool){x0 ba}:∀⦃s:Int×Int⦄ ⦃e:Int⦄,aK (fun s=>gk x0 ba s.1 s.2) s=some e→Fg Γ rv x0 ba e→GN Γ rv x0 ba s.1 s.2:=by
 refine bk ?_
 rintro⟨left,i⟩ z_ h hI hE;simp only[gk,az,an,aq]at h;rcases h with⟨h0,h⟩|⟨h0,h⟩
 ·exact gn 11 [1,2,5,6] [0] [nL af.enc x0.ah,hP,hP,hP,oI ((aT i (aC x0.ah))=true),oR True ((aT i (aC x0.ah))=true),bT h0,oO (oA (n:=2))] (hI h)
 ·exact gn 5 [1,5] [] [nL af.enc x0.ah,hP,hP,hP,oI ((aT i (aC x0.ah))=true),oR True ((aT i (aC x0.ah))=true),bF h0] (hE h)
theorem uP{x0 ba}{rv:Bool}(h:qV x0 ba=some rv):dF prog 70 [.agg (ae.enc x0),.one (lI ba)] [] (one (.bool rv)) []:=by
 refine aU func70 fun Γ=>?_
 simp only[qV,az,an,aq]at h;obtain⟨Oq,h1,h⟩:=h;refine gn 9 [1,2,5,6] [0] [] (Fh Γ rv h1 ?_);cases h;exact gr 2 [] [hP,hP,hP,oI ((cQ ba 0)=true),oR True ((cQ ba 0)=true)]
theorem dU{ba i}{rv:Bool}(h:js ba i=some rv):dF prog 128 [.one (lI ba),.one (lI i)] [] (one (.bool rv)) []:=by
 refine aU func128 fun Γ=>?_
 simp only[js,az,an,aq]at h;rcases h with⟨h0,h1,h⟩|⟨h0,h⟩
 ·cases h;exact gr 4 [] [rp 6 hP,oI ((bZ ba 0)=true),oR True ((bZ ba 0)=true),oI (((bZ ba 0)&&(bZ i 0))=true),oR True (((bZ ba 0)&&(bZ i 0))=true),rp 4 (bT h0),oO (h1),bT h0,oO (oA (n:=2)),bT h0,bT h0]
 ·obtain rfl:=oK h;exact gr 4 [] [rp 6 hP,oI ((bZ ba 0)=true),oR True ((bZ ba 0)=true),oI (((bZ ba 0)&&(bZ i 0))=true),oR True (((bZ ba 0)&&(bZ i 0))=true),rp 7 (bF h0)]
def Lq(Γ:bn)(rv:List ab)(cf:Cf):Prop:=Go prog f130 [] Γ (one (lL 2 rv ab.enc)) [] cf
theorem xj(Γ:bn)(rv:List ab){x0 aL l}(h:lg x0 aL l=some rv):Lq Γ rv ⟨[.c 15],⟨33,[vI 1 aL,vP 2 0 6,vO 5 1 2 l ab.enc],[oX 6 30 (ae.enc x0),oS 2 138 l ab.enc]⟩⟩:=by
 simp only[lg,az,an,aq]at h;rcases h with⟨x2,h3,⟨h4,h5,h⟩|⟨h4,h⟩⟩
 ·cases h;exact gr 7 [] [cE af.enc h3,bT h4,oO (Eq.refl ([(ab.mk aL true)].map ab.enc).length),aO ab.enc h5,hW 5,hH (.kX 3),rp 4 (oO (Eq.refl ((l++[(ab.mk aL true)]).map ab.enc).length))]
 ·obtain rfl:=oK h;exact gr 7 [] [cE af.enc h3,bF h4,hW 5,hH (.kX 1),rp 3 (eL l ab.enc)]
theorem gR{x0 aL}{rv:List ab}(h:lX x0 aL=some rv):dF prog 130 [.agg (ae.enc x0),.one (lI aL)] [] (one (lL 2 rv ab.enc)) []:=by
 refine aU func130 fun Γ=>?_
 simp only[lX,az,an,aq]at h;rcases h with⟨x1,h0,⟨h1,h2,h⟩|⟨h1,h⟩⟩
 ·exact gn 9 [1,2,5] [0,2] [cE af.enc h0,bT h1,oO (Eq.refl ([(ab.mk aL false)].map ab.enc).length),aN (l:=([(ab.mk aL false)]:List ab)) ab.enc h2] (xj Γ rv h)
 ·exact gn 9 [1,2,5] [0,1] [cE af.enc h0,bF h1,hW 1,hH (.lP 5 2 138)] (xj Γ rv h)
def B6(Γ:bn)(rv:Int)(cf:Cf):Prop:=Go prog f131 [] Γ (one (lI rv)) [] cf
def H7(Γ:bn)(rv:Int)(l:List ab)(v:ab)(i:Int):Prop:=B6 Γ rv ⟨[.c 52,.l 52,.b 0,.c 7],⟨19,[vL 0 2 l ab.enc,vP 3 0 2,vI 5 i],[oX 2 138 (ab.enc v)]⟩⟩
def Gt(Γ:bn)(rv:Int)(l:List ab)(v:ab):Prop:=B6 Γ rv ⟨[.c 7],⟨19,[],[]⟩⟩
theorem Gu(Γ:bn)(rv:Int){l v}:∀⦃s:Int⦄ ⦃e:(Unit)⊕(Int)⦄,aK (fun s=>iP l v s) s=some e→jf e (fun e=>Gt Γ rv l v) (fun e=>e=rv)→H7 Γ rv l v s:=by
 refine bk ?_
 intro i z_ h hI hE;simp only[iP,az,an,aq]at h;rcases h with⟨h0,x0,h1,⟨h2,h⟩|⟨h2,h⟩⟩|⟨h0,h⟩
 ·obtain rfl:=(hE h:_=rv);exact gr 12 [] [nL ab.enc l,bT h0,hH (.draw 6 []),cE ab.enc h1,bT h2]
 ·exact gn 14 [0,3,5] [0] [nL ab.enc l,bT h0,hH (.draw 6 []),cE ab.enc h1,bF h2] (hI h)
 ·exact gn 5 [] [] [nL ab.enc l,bF h0] (hE h)
theorem c_{l v}{rv:Int}(h:fi l v=some rv):dF prog 131 [.one (lL 2 l ab.enc),.agg (ab.enc v)] [] (one (lI rv)) []:=by
 refine aU func131 fun Γ=>?_
 simp only[fi,az,an,aq]at h;obtain⟨e0,h3,h⟩:=h;refine gn 7 [0,3,5] [0] [] (Gu Γ rv h3 ?_);rcases e0 with e0|r
 ·cases h;exact gr 2 [] []
 ·exact oK h
def y_(Γ:bn)(rv:Bool)(cf:Cf):Prop:=Go prog f166 [] Γ (one (.bool rv)) [] cf
def Ef(Γ:bn)(rv:Bool)(l some_:List ab)(i:Int):Prop:=y_ Γ rv ⟨[.c 52,.l 52,.b 0,.c 7],⟨19,[vL 0 2 l ab.enc,vL 1 2 some_ ab.enc,vI 5 i],[]⟩⟩
def CY(Γ:bn)(rv:Bool)(l some_:List ab):Prop:=y_ Γ rv ⟨[.c 7],⟨19,[],[]⟩⟩
theorem CZ(Γ:bn)(rv:Bool){l some_}:∀⦃s:Int⦄ ⦃e:(Unit)⊕(Bool)⦄,aK (fun s=>gi l some_ s) s=some e→jf e (fun e=>CY Γ rv l some_) (fun e=>e=rv)→Ef Γ rv l some_ s:=by
 refine bk ?_
 intro i z_ h hI hE;simp only[gi,az,an,aq]at h;rcases h with⟨h0,x0,h1,r,h2,⟨h3,h⟩|⟨h3,h⟩⟩|⟨h0,h⟩
 ·obtain rfl:=(hE h:_=rv);exact gr 12 [] [nL ab.enc some_,bT h0,cE ab.enc h1,cC (c_ h2),bT h3]
 ·exact gn 14 [0,1,5] [] [nL ab.enc some_,bT h0,cE ab.enc h1,cC (c_ h2),bF h3] (hI h)
 ·exact gn 5 [] [] [nL ab.enc some_,bF h0] (hE h)
theorem jP{l some_}{rv:Bool}(h:mq l some_=some rv):dF prog 166 [.one (lL 2 l ab.enc),.one (lL 2 some_ ab.enc)] [] (one (.bool rv)) []:=by
 refine aU func166 fun Γ=>?_
 simp only[mq,az,an,aq]at h;obtain⟨e0,h4,h⟩:=h;refine gn 7 [0,1,5] [] [] (CZ Γ rv h4 ?_);rcases e0 with e0|r1
 ·obtain rfl:=oK h;exact gr 2 [] []
 ·exact oK h
def B8(Γ:bn)(rv:Bool)(cf:Cf):Prop:=Go prog f129 [] Γ (one (.bool rv)) [] cf
def Ii(Γ:bn)(rv:Bool)(x0:ae)(aL:Int)(l:List ab)(i:Int):Prop:=B8 Γ rv ⟨[.c 52,.l 52,.b 0,.c 7],⟨49,[vI 1 aL,vL 2 2 l ab.enc,vP 3 0 6,vI 7 i],[oX 6 30 (ae.enc x0)]⟩⟩
def GC(Γ:bn)(rv:Bool)(x0:ae)(aL:Int)(l:List ab):Prop:=B8 Γ rv ⟨[.c 7],⟨49,[],[]⟩⟩
theorem GD(Γ:bn)(rv:Bool){x0 aL l}:∀⦃s:Int⦄ ⦃e:(Unit)⊕(Bool)⦄,aK (fun s=>iR x0 aL l s) s=some e→jf e (fun e=>GC Γ rv x0 aL l) (fun e=>e=rv)→Ii Γ rv x0 aL l s:=by
 refine bk ?_
 intro i z_ h hI hE;simp only[iR,az,an,aq]at h;rcases h with⟨h0,x1,h1,⟨h2,⟨h3,h⟩|⟨h3,r,h4,r1,h5,⟨h6,h⟩|⟨h6,h⟩⟩⟩|⟨h2,h⟩⟩|⟨h0,h⟩
 ·obtain rfl:=(hE h:_=rv);exact gr 14 [] [nL aI.enc x0.before,bT h0,cE aI.enc h1,oO (zL 0),oO (lT 0 2),cE aI.enc h1,oO (zL 1),oO (lT 1 2),rp 3 (bT h2),rp 4 hP,rp 2 (oI ((aT x1.x0 0)=false)),nL af.enc x0.ah,hP,rp 2 (oI ((aT x1.x0 0)=false)),bT h2,hP,oR True ((aT x1.x0 0)=false),bT h2,rp 6 (bT h3),bT h2,bT h3,bT h2,tT]
 ·exact gn 16 [1,2,3,7] [0] [nL aI.enc x0.before,bT h0,cE aI.enc h1,oO (zL 0),oO (lT 0 2),cE aI.enc h1,oO (zL 1),oO (lT 1 2),rp 3 (bT h2),rp 4 hP,rp 2 (oI ((aT x1.x0 0)=false)),nL af.enc x0.ah,hP,rp 2 (oI ((aT x1.x0 0)=false)),bT h2,hP,oR True ((aT x1.x0 0)=false),bT h2,rp 4 (bF h3),cC (gR h4),bF h3,cC (jP h5),bF h3,bT h2,bF h3,bT h2,nF h6] (hI h)
 ·obtain rfl:=(hE h:_=rv);exact gr 14 [] [nL aI.enc x0.before,bT h0,cE aI.enc h1,oO (zL 0),oO (lT 0 2),cE aI.enc h1,oO (zL 1),oO (lT 1 2),rp 3 (bT h2),rp 4 hP,rp 2 (oI ((aT x1.x0 0)=false)),nL af.enc x0.ah,hP,rp 2 (oI ((aT x1.x0 0)=false)),bT h2,hP,oR True ((aT x1.x0 0)=false),bT h2,rp 4 (bF h3),cC (gR h4),bF h3,cC (jP h5),bF h3,bT h2,bF h3,bT h2,nT h6]
 ·exact gn 16 [1,2,3,7] [0] [nL aI.enc x0.before,bT h0,cE aI.enc h1,oO (zL 0),oO (lT 0 2),cE aI.enc h1,oO (zL 1),oO (lT 1 2),rp 3 (bF h2),rp 5 kF,bF h2,bF h2,rp 6 kF,bF h2,bF h2,fF] (hI h)
 ·exact gn 5 [] [] [nL aI.enc x0.before,bF h0] (hE h)
theorem AW{x0 aL l}{rv:Bool}(h:rU x0 aL l=some rv):dF prog 129 [.agg (ae.enc x0),.one (lI aL),.one (lL 2 l ab.enc)] [] (one (.bool rv)) []:=by
 refine aU func129 fun Γ=>?_
 simp only[rU,az,an,aq]at h;obtain⟨e0,h7,h⟩:=h;refine gn 7 [1,2,3,7] [0] [] (GD Γ rv h7 ?_);rcases e0 with e0|r2
 ·obtain rfl:=oK h;exact gr 2 [] []
 ·exact oK h
def uo(Γ:bn)(rv:List ab)(cf:Cf):Prop:=Go prog f102 [] Γ (one (lL 2 rv ab.enc)) [] cf
def JL(Γ:bn)(rv:List ab)(x0:ae)(ba:Int)(l:List ab)(i:Int)(r2 l2:List ab)(k:Int):Prop:=uo Γ rv ⟨[.c 29852,.l 29852,.b 2,.b 1,.c 467,.l 116,.b 0,.c 15],⟨73,[vI 1 ba,vL 2 2 l ab.enc,vP 3 0 6,vO 7 1 2 l2 ab.enc,vI 8 i,vL 9 2 r2 ab.enc,vI 10 k],[oX 6 30 (ae.enc x0),oS 2 138 l2 ab.enc]⟩⟩
def Ib(Γ:bn)(rv:List ab)(x0:ae)(ba:Int)(l:List ab)(i:Int)(r2 l3:List ab):Prop:=uo Γ rv ⟨[.b 1,.c 467,.l 116,.b 0,.c 15],⟨73,[vI 1 ba,vL 2 2 l ab.enc,vP 3 0 6,vO 7 1 2 l3 ab.enc,vI 8 i],[oX 6 30 (ae.enc x0),oS 2 138 l3 ab.enc]⟩⟩
def JK(Γ:bn)(rv:List ab)(x0:ae)(ba:Int)(l l1:List ab)(i:Int):Prop:=uo Γ rv ⟨[.c 116,.l 116,.b 0,.c 15],⟨73,[vI 1 ba,vL 2 2 l ab.enc,vP 3 0 6,vO 7 1 2 l1 ab.enc,vI 8 i],[oX 6 30 (ae.enc x0),oS 2 138 l1 ab.enc]⟩⟩
def H_(Γ:bn)(rv:List ab)(x0:ae)(ba:Int)(l l4:List ab):Prop:=uo Γ rv ⟨[.c 15],⟨73,[vO 7 0 2 l4 ab.enc],[oS 2 138 l4 ab.enc]⟩⟩
theorem Ic(Γ:bn)(rv:List ab){x0 ba l i r2}:∀⦃s:List ab×Int⦄ ⦃e:List ab⦄,aK (fun s=>jq x0 ba l i r2 s.1 s.2) s=some e→Ib Γ rv x0 ba l i r2 e→JL Γ rv x0 ba l i r2 s.1 s.2:=by
 refine bk ?_
 rintro⟨l2,k⟩ z_ h hI hE;simp only[jq,az,an,aq]at h;rcases h with⟨h8,x2,h9,r3,dN,⟨gq,⟨gu,ij,h⟩|⟨gu,x3,kH,r4,nk,⟨pc,sG,h⟩|⟨pc,h⟩⟩⟩|⟨gq,h⟩⟩|⟨h8,h⟩
 ·exact gn 14 [1,2,3,7,8,9,10] [0,3] [nL ab.enc r2,bT h8,cE ab.enc h9,cC (c_ dN),rp 3 (bT gq),rp 6 (bT gu),bT gq,bT gu,bT gq,tT,cE ab.enc h9,oO (Eq.refl ([x2].map ab.enc).length),aO ab.enc ij] (hI h)
 ·exact gn 14 [1,2,3,7,8,9,10] [0,3] [nL ab.enc r2,bT h8,cE ab.enc h9,cC (c_ dN),rp 3 (bT gq),rp 3 (bF gu),cE ab.enc kH,rp 2 (bF gu),cC (c_ nk),bF gu,bT gq,bF gu,bT gq,bT pc,cE ab.enc h9,oO (Eq.refl ([x2].map ab.enc).length),aO ab.enc sG] (hI h)
 ·exact gn 14 [1,2,3,7,8,9,10] [0,1] [nL ab.enc r2,bT h8,cE ab.enc h9,cC (c_ dN),rp 3 (bT gq),rp 3 (bF gu),cE ab.enc kH,rp 2 (bF gu),cC (c_ nk),bF gu,bT gq,bF gu,bT gq,bF pc] (hI h)
 ·exact gn 14 [1,2,3,7,8,9,10] [0,1] [nL ab.enc r2,bT h8,cE ab.enc h9,cC (c_ dN),rp 3 (bF gq),rp 6 kF,rp 2 (bF gq),fF] (hI h)
 ·exact gn 5 [1,2,3,7,8] [0,1] [nL ab.enc r2,bF h8] (hE h)
theorem Ia(Γ:bn)(rv:List ab){x0 ba l}:∀⦃s:List ab×Int⦄ ⦃e:List ab⦄,aK (fun s=>h_ x0 ba l s.1 s.2) s=some e→H_ Γ rv x0 ba l e→JK Γ rv x0 ba l s.1 s.2:=by
 refine bk ?_
 rintro⟨l1,i⟩ z_ h hI hE;simp only[h_,az,an,aq]at h;rcases h with⟨h0,r,h1,⟨h2,x1,h3,⟨h4,h⟩|⟨h4,r1,h5,⟨h6,r2,h7,l3,ti,h⟩|⟨h6,h⟩⟩⟩|⟨h2,h⟩⟩|⟨h0,h⟩
 ·exact gn 14 [1,2,3,7,8] [0,1] [nL af.enc x0.ah,bT h0,cC (dU h1),rp 4 (nF h2),cE af.enc h3,rp 3 (nF h2),rp 6 (bT h4),tT] (hI h)
 ·refine gn 18 [1,2,3,7,8,9,10] [0,1] [nL af.enc x0.ah,bT h0,cC (dU h1),rp 4 (nF h2),cE af.enc h3,rp 3 (nF h2),rp 4 (bF h4),cC (AW h5),bF h4,bF h4,nF h6,cC (gR h7)] (Ic Γ rv ti ?_);exact gn 3 [1,2,3,7,8] [0,1] [] (hI h)
 ·exact gn 14 [1,2,3,7,8] [0,1] [nL af.enc x0.ah,bT h0,cC (dU h1),rp 4 (nF h2),cE af.enc h3,rp 3 (nF h2),rp 4 (bF h4),cC (AW h5),bF h4,bF h4,nT h6] (hI h)
 ·exact gn 14 [1,2,3,7,8] [0,1] [nL af.enc x0.ah,bT h0,cC (dU h1),rp 7 (nT h2),rp 7 tT] (hI h)
 ·exact gn 5 [7] [1] [nL af.enc x0.ah,bF h0] (hE h)
theorem kV{x0 ba l}{rv:List ab}(h:tv x0 ba l=some rv):dF prog 102 [.agg (ae.enc x0),.one (lI ba),.one (lL 2 l ab.enc)] [] (one (lL 2 rv ab.enc)) []:=by
 refine aU func102 fun Γ=>?_
 simp only[tv,az,an,aq]at h;obtain⟨l4,vF,h⟩:=h;refine gn 9 [1,2,3,7,8] [0,1] [hW 13,hH (.lP 7 2 138)] (Ia Γ rv vF ?_);obtain rfl:=oK h;exact gr 2 [] [hW 4,hH (.kX 0),rp 3 (eL l4 ab.enc)]
def AT(Γ:bn)(rv:Int×Int)(cf:Cf):Prop:=Go prog f103 [] Γ (.o5 [.one (lI rv.1),.one (lI rv.2)]) [] cf
def Gv(Γ:bn)(rv:Int×Int)(r:ay)(ba i:Int):Prop:=AT Γ rv ⟨[.c 116,.l 116,.b 0,.c 15],⟨36,[vP 1 0 4,vI 4 ba,vI 5 i],[oX 4 48 (ay.enc r)]⟩⟩
def E3(Γ:bn)(rv:Int×Int)(r:ay)(tK:Int):Prop:=AT Γ rv ⟨[.c 15],⟨36,[vI 4 tK],[]⟩⟩
theorem E4(Γ:bn)(rv:Int×Int){r}:∀⦃s:Int×Int⦄ ⦃e:(Int)⊕(Int×Int)⦄,aK (fun s=>nv r s.1 s.2) s=some e→jf e (fun e=>E3 Γ rv r e) (fun e=>e=rv)→Gv Γ rv r s.1 s.2:=by
 refine bk ?_
 rintro⟨ba,i⟩ z_ h hI hE;simp only[nv,az,an,aq]at h;rcases h with⟨h0,x0,h1,⟨h2,h⟩|⟨h2,r1,h3,⟨h4,h⟩|⟨h4,h5,h⟩⟩⟩|⟨h0,h⟩
 ·obtain rfl:=(hE h:_=rv);exact gr 15 [] [nL ab.enc r.ar,bT h0,cE ab.enc h1,hP,hP,hP,oI ((aT x0.aL 0)=false),oR True ((aT x0.aL 0)=false),bT h2]
 ·exact gn 21 [1,4,5] [0] [nL ab.enc r.ar,bT h0,cE ab.enc h1,hP,hP,hP,oI ((aT x0.aL 0)=false),oR True ((aT x0.aL 0)=false),bF h2,cC (dU h3),nF h4] (hI h)
 ·exact gn 21 [1,4,5] [0] [nL ab.enc r.ar,bT h0,cE ab.enc h1,hP,hP,hP,oI ((aT x0.aL 0)=false),oR True ((aT x0.aL 0)=false),bF h2,cC (dU h3),nT h4,oO (h5)] (hI h)
 ·exact gn 5 [4] [] [nL ab.enc r.ar,bF h0] (hE h)
theorem gQ{r}{rv:Int×Int}(h:lW r=some rv):dF prog 103 [.agg (ay.enc r)] [] (.o5 [.one (lI rv.1),.one (lI rv.2)]) []:=by
 refine aU func103 fun Γ=>?_
 simp only[lW,az,an,aq]at h;obtain⟨e0,h6,h⟩:=h;refine gn 9 [1,4,5] [0] [] (E4 Γ rv h6 ?_);rcases e0 with tK|r2
 ·cases h;exact gr 2 [] []
 ·exact oK h
def AU(Γ:bn)(rv:Bool)(cf:Cf):Prop:=Go prog f187 [] Γ (one (.bool rv)) [] cf
def GB(Γ:bn)(rv:Bool)(x0:ae)(l:List ab)(i:Int):Prop:=AU Γ rv ⟨[.c 52,.l 52,.b 0,.c 7],⟨51,[vL 1 2 l ab.enc,vP 2 0 6,vI 5 i],[oX 6 30 (ae.enc x0)]⟩⟩
def Fa(Γ:bn)(rv:Bool)(x0:ae)(l:List ab):Prop:=AU Γ rv ⟨[.c 7],⟨51,[],[]⟩⟩
theorem Fb(Γ:bn)(rv:Bool){x0 l}:∀⦃s:Int⦄ ⦃e:(Unit)⊕(Bool)⦄,aK (fun s=>gV x0 l s) s=some e→jf e (fun e=>Fa Γ rv x0 l) (fun e=>e=rv)→GB Γ rv x0 l s:=by
 refine bk ?_
 intro i z_ h hI hE;simp only[gV,az,an,aq]at h;rcases h with⟨h0,x1,h1,r,h2,r1,h3,⟨h4,h⟩|⟨h4,r2,h5,⟨h6,⟨h7,x2,h8,r3,h9,x3,dN,r4,gq,⟨gu,h⟩|⟨gu,h⟩⟩|⟨h7,h⟩⟩|⟨h6,h⟩⟩⟩|⟨h0,h⟩
 ·obtain rfl:=(hE h:_=rv);exact gr 14 [] [nL ab.enc l,bT h0,hH (.draw 8 []),cE ab.enc h1,cC (gR h2),hH (.draw 31 []),cE ab.enc h1,cC (c_ h3),rp 5 (bT h4),rp 4 tT,rp 11 kF,tT,tT,tT]
 ·obtain rfl:=(hE h:_=rv);exact gr 14 [] [nL ab.enc l,bT h0,hH (.draw 8 []),cE ab.enc h1,cC (gR h2),hH (.draw 31 []),cE ab.enc h1,cC (c_ h3),rp 3 (bF h4),cC (jP h5),bF h4,bF h4,nF h6,nF h6,nL ab.enc r,nF h6,nF h6,rp 3 (bT h7),cE ab.enc h8,bT h7,bT h7,cC (c_ h9),rp 3 (bT h7),cE ab.enc dN,bT h7,bT h7,cC (c_ gq),bT h7,nF h6,bT h7,nF h6,bT gu]
 ·exact gn 16 [1,2,5] [0] [nL ab.enc l,bT h0,hH (.draw 8 []),cE ab.enc h1,cC (gR h2),hH (.draw 31 []),cE ab.enc h1,cC (c_ h3),rp 3 (bF h4),cC (jP h5),bF h4,bF h4,nF h6,nF h6,nL ab.enc r,nF h6,nF h6,rp 3 (bT h7),cE ab.enc h8,bT h7,bT h7,cC (c_ h9),rp 3 (bT h7),cE ab.enc dN,bT h7,bT h7,cC (c_ gq),bT h7,nF h6,bT h7,nF h6,bF gu] (hI h)
 ·exact gn 16 [1,2,5] [0] [nL ab.enc l,bT h0,hH (.draw 8 []),cE ab.enc h1,cC (gR h2),hH (.draw 31 []),cE ab.enc h1,cC (c_ h3),rp 3 (bF h4),cC (jP h5),bF h4,bF h4,nF h6,nF h6,nL ab.enc r,nF h6,nF h6,rp 11 (bF h7),nF h6,bF h7,nF h6,fF] (hI h)
 ·obtain rfl:=(hE h:_=rv);exact gr 14 [] [nL ab.enc l,bT h0,hH (.draw 8 []),cE ab.enc h1,cC (gR h2),hH (.draw 31 []),cE ab.enc h1,cC (c_ h3),rp 3 (bF h4),cC (jP h5),bF h4,bF h4,rp 4 (nT h6),rp 11 kF,nT h6,nT h6,tT]
 ·exact gn 5 [] [] [nL ab.enc l,bF h0] (hE h)
theorem qR{x0 l}{rv:Bool}(h:qQ x0 l=some rv):dF prog 187 [.agg (ae.enc x0),.one (lL 2 l ab.enc)] [] (one (.bool rv)) []:=by
 refine aU func187 fun Γ=>?_
 simp only[qQ,az,an,aq]at h;obtain⟨e0,ij,h⟩:=h;refine gn 7 [1,2,5] [0] [] (Fb Γ rv ij ?_);rcases e0 with e0|r5
 ·obtain rfl:=oK h;exact gr 2 [] []
 ·exact oK h
def B7(Γ:bn)(rv:Bool)(cf:Cf):Prop:=Go prog f188 [] Γ (one (.bool rv)) [] cf
def Ih(Γ:bn)(rv:Bool)(x0:ae)(ba i:Int):Prop:=B7 Γ rv ⟨[.c 52,.l 52,.b 0,.c 7],⟨31,[vI 1 ba,vP 2 0 6,vI 5 i],[oX 6 30 (ae.enc x0)]⟩⟩
def Gw(Γ:bn)(rv:Bool)(x0:ae)(ba:Int):Prop:=B7 Γ rv ⟨[.c 7],⟨31,[],[]⟩⟩
theorem Gx(Γ:bn)(rv:Bool){x0 ba}:∀⦃s:Int⦄ ⦃e:(Unit)⊕(Bool)⦄,aK (fun s=>iQ x0 ba s) s=some e→jf e (fun e=>Gw Γ rv x0 ba) (fun e=>e=rv)→Ih Γ rv x0 ba s:=by
 refine bk ?_
 intro i z_ h hI hE;simp only[iQ,az,an,aq]at h;rcases h with⟨h0,x1,h1,r,h2,⟨h3,r1,h4,⟨h5,h⟩|⟨h5,h⟩⟩|⟨h3,h⟩⟩|⟨h0,h⟩
 ·obtain rfl:=(hE h:_=rv);exact gr 12 [] [nL aI.enc x0.db,bT h0,cE aI.enc h1,oO (zL 0),oO (lT 0 2),cC (dU h2),rp 5 (bT h3),cE aI.enc h1,bT h3,oO (zL 1),oO (lT 1 2),bT h3,bT h3,cC (dU h4),bT h3,bT h5]
 ·exact gn 14 [1,2,5] [0] [nL aI.enc x0.db,bT h0,cE aI.enc h1,oO (zL 0),oO (lT 0 2),cC (dU h2),rp 5 (bT h3),cE aI.enc h1,bT h3,oO (zL 1),oO (lT 1 2),bT h3,bT h3,cC (dU h4),bT h3,bF h5] (hI h)
 ·exact gn 14 [1,2,5] [0] [nL aI.enc x0.db,bT h0,cE aI.enc h1,oO (zL 0),oO (lT 0 2),cC (dU h2),rp 9 (bF h3),fF] (hI h)
 ·exact gn 5 [] [] [nL aI.enc x0.db,bF h0] (hE h)
theorem vZ{x0 ba}{rv:Bool}(h:rT x0 ba=some rv):dF prog 188 [.agg (ae.enc x0),.one (lI ba)] [] (one (.bool rv)) []:=by
 refine aU func188 fun Γ=>?_
 simp only[rT,az,an,aq]at h;obtain⟨e0,h6,h⟩:=h;refine gn 7 [1,2,5] [0] [] (Gx Γ rv h6 ?_);rcases e0 with e0|r2
 ·obtain rfl:=oK h;exact gr 2 [] []
 ·exact oK h
def mo(Γ:bn)(rv:Bool)(cf:Cf):Prop:=Go prog f189 [] Γ (one (.bool rv)) [] cf
def GA(Γ:bn)(rv:Bool)(x0:ae)(ba:Int)(l:List ab)(i:Int)(x1:aI)(j k:Int):Prop:=mo Γ rv ⟨[.c 3448612,.l 3448612,.b 4,.b 3,.c 215539,.l 53884,.b 2,.b 1,.c 211,.l 52,.b 0,.c 7],⟨66,[vI 1 ba,vL 2 2 l ab.enc,vP 3 0 6,vI 7 i,vI 8 x1.x0,vI 9 x1.x1,vI 10 j,vI 11 k],[oX 6 30 (ae.enc x0)]⟩⟩
def E9(Γ:bn)(rv:Bool)(x0:ae)(ba:Int)(l:List ab)(i:Int)(x1:aI)(j:Int):Prop:=mo Γ rv ⟨[.b 3,.c 215539,.l 53884,.b 2,.b 1,.c 211,.l 52,.b 0,.c 7],⟨66,[vI 1 ba,vL 2 2 l ab.enc,vP 3 0 6,vI 7 i,vI 8 x1.x0,vI 9 x1.x1,vI 10 j],[oX 6 30 (ae.enc x0)]⟩⟩
def Gz(Γ:bn)(rv:Bool)(x0:ae)(ba:Int)(l:List ab)(i:Int)(x1:aI)(j:Int):Prop:=mo Γ rv ⟨[.c 53884,.l 53884,.b 2,.b 1,.c 211,.l 52,.b 0,.c 7],⟨66,[vI 1 ba,vL 2 2 l ab.enc,vP 3 0 6,vI 7 i,vI 8 x1.x0,vI 9 x1.x1,vI 10 j],[oX 6 30 (ae.enc x0)]⟩⟩
def E7(Γ:bn)(rv:Bool)(x0:ae)(ba:Int)(l:List ab)(i:Int)(x1:aI):Prop:=mo Γ rv ⟨[.b 1,.c 211,.l 52,.b 0,.c 7],⟨66,[vI 1 ba,vL 2 2 l ab.enc,vP 3 0 6,vI 7 i],[oX 6 30 (ae.enc x0)]⟩⟩
def Gy(Γ:bn)(rv:Bool)(x0:ae)(ba:Int)(l:List ab)(i:Int):Prop:=mo Γ rv ⟨[.c 52,.l 52,.b 0,.c 7],⟨66,[vI 1 ba,vL 2 2 l ab.enc,vP 3 0 6,vI 7 i],[oX 6 30 (ae.enc x0)]⟩⟩
def E5(Γ:bn)(rv:Bool)(x0:ae)(ba:Int)(l:List ab):Prop:=mo Γ rv ⟨[.c 7],⟨66,[],[]⟩⟩
theorem E_(Γ:bn)(rv:Bool){x0 ba l i x1 j}:∀⦃s:Int⦄ ⦃e:(Unit)⊕(Bool)⦄,aK (fun s=>gU x0 ba l i x1 j s) s=some e→jf e (fun e=>E9 Γ rv x0 ba l i x1 j) (fun e=>e=rv)→GA Γ rv x0 ba l i x1 j s:=by
 refine bk ?_
 intro k z_ h hI hE;simp only[gU,az,an,aq]at h;rcases h with⟨h7,x2,h8,⟨h9,x3,dN,⟨gq,h⟩|⟨gq,h⟩⟩|⟨h9,h⟩⟩|⟨h7,h⟩
 ·obtain rfl:=(hE h:_=rv);exact gr 12 [] [bT h7,cE ab.enc h8,rp 3 (bT h9),cE ab.enc dN,rp 5 (bT h9),bT gq]
 ·exact gn 14 [1,2,3,7,8,9,10,11] [0] [bT h7,cE ab.enc h8,rp 3 (bT h9),cE ab.enc dN,rp 5 (bT h9),bF gq] (hI h)
 ·exact gn 14 [1,2,3,7,8,9,10,11] [0] [bT h7,cE ab.enc h8,rp 8 (bF h9),fF] (hI h)
 ·exact gn 5 [1,2,3,7,8,9,10] [0] [bF h7] (hE h)
theorem E8(Γ:bn)(rv:Bool){x0 ba l i x1}:∀⦃s:Int⦄ ⦃e:(Unit)⊕(Bool)⦄,aK (fun s=>gT x0 ba l i x1 s) s=some e→jf e (fun e=>E7 Γ rv x0 ba l i x1) (fun e=>e=rv)→Gz Γ rv x0 ba l i x1 s:=by
 refine bk ?_
 intro j z_ h hI hE;simp only[gT,az,an,aq]at h;rcases h with⟨h6,e0,gu,h⟩|⟨h6,h⟩
 ·refine gn 11 [1,2,3,7,8,9,10,11] [0] [nL ab.enc l,bT h6] (E_ Γ rv gu ?_);rcases e0 with e0|r2
  ·exact gn 3 [1,2,3,7,8,9,10] [0] [] (hI h)
  ·exact(hE h:_=rv)
 ·exact gn 5 [1,2,3,7] [0] [nL ab.enc l,bF h6] (hE h)
theorem E6(Γ:bn)(rv:Bool){x0 ba l}:∀⦃s:Int⦄ ⦃e:(Unit)⊕(Bool)⦄,aK (fun s=>gS x0 ba l s) s=some e→jf e (fun e=>E5 Γ rv x0 ba l) (fun e=>e=rv)→Gy Γ rv x0 ba l s:=by
 refine bk ?_
 intro i z_ h hI hE;simp only[gS,az,an,aq]at h;rcases h with⟨h0,x1,h1,r,h2,⟨h3,r1,h4,⟨h5,e1,ij,h⟩|⟨h5,h⟩⟩|⟨h3,h⟩⟩|⟨h0,h⟩
 ·refine gn 25 [1,2,3,7,8,9,10] [0] [nL aI.enc x0.before,bT h0,cE aI.enc h1,oO (zL 0),oO (lT 0 2),cE aI.enc h1,oO (zL 1),oO (lT 1 2),cC (dU h2),nF h3,cC (dU h4),nF h5] (E8 Γ rv ij ?_);rcases e1 with e1|r3
  ·exact gn 3 [1,2,3,7] [0] [] (hI h)
  ·exact(hE h:_=rv)
 ·obtain rfl:=(hE h:_=rv);exact gr 22 [] [nL aI.enc x0.before,bT h0,cE aI.enc h1,oO (zL 0),oO (lT 0 2),cE aI.enc h1,oO (zL 1),oO (lT 1 2),cC (dU h2),nF h3,cC (dU h4),nT h5]
 ·exact gn 18 [1,2,3,7] [0] [nL aI.enc x0.before,bT h0,cE aI.enc h1,oO (zL 0),oO (lT 0 2),cE aI.enc h1,oO (zL 1),oO (lT 1 2),cC (dU h2),nT h3] (hI h)
 ·exact gn 5 [] [] [nL aI.enc x0.before,bF h0] (hE h)
theorem Ab{x0 ba l}{rv:Bool}(h:qP x0 ba l=some rv):dF prog 189 [.agg (ae.enc x0),.one (lI ba),.one (lL 2 l ab.enc)] [] (one (.bool rv)) []:=by
 refine aU func189 fun Γ=>?_
 simp only[qP,az,an,aq]at h;obtain⟨e2,kH,h⟩:=h;refine gn 7 [1,2,3,7] [0] [] (E6 Γ rv kH ?_);rcases e2 with e2|r4
 ·obtain rfl:=oK h;exact gr 2 [] []
 ·exact oK h
def mW(Γ:bn)(rv:Int)(cf:Cf):Prop:=Go prog f167 [] Γ (one (lI rv)) [] cf
def H4(Γ:bn)(rv:Int)(x0:ae)(r:ay)(i:Int):Prop:=mW Γ rv ⟨[.c 116,.l 116,.b 0,.c 15],⟨91,[vP 2 0 6,vP 3 1 4,vL 5 2 r.ar ab.enc,vI 6 i],[oX 6 30 (ae.enc x0),oX 4 48 (ay.enc r)]⟩⟩
def Gm(Γ:bn)(rv:Int)(x0:ae)(r:ay):Prop:=mW Γ rv ⟨[.c 15],⟨91,[vP 2 0 6,vP 3 1 4,vL 5 2 r.ar ab.enc],[oX 6 30 (ae.enc x0),oX 4 48 (ay.enc r)]⟩⟩
def H5(Γ:bn)(rv:Int)(x0:ae)(r:ay)(r1:Int×Int)(i1:Int):Prop:=mW Γ rv ⟨[.c 1012,.l 1012,.b 2,.c 127],⟨91,[vP 2 0 6,vL 5 2 r.ar ab.enc,vI 7 r1.1,vI 9 i1],[oX 6 30 (ae.enc x0)]⟩⟩
def Gp(Γ:bn)(rv:Int)(x0:ae)(r:ay)(r1:Int×Int):Prop:=mW Γ rv ⟨[.c 127],⟨91,[vP 2 0 6,vL 5 2 r.ar ab.enc,vI 7 r1.1],[oX 6 30 (ae.enc x0)]⟩⟩
def H6(Γ:bn)(rv:Int)(x0:ae)(r:ay)(r1:Int×Int)(i2:Int):Prop:=mW Γ rv ⟨[.c 2036,.l 2036,.b 4,.c 255],⟨91,[vP 2 0 6,vL 5 2 r.ar ab.enc,vI 7 r1.1,vI 10 i2],[oX 6 30 (ae.enc x0)]⟩⟩
def Gr(Γ:bn)(rv:Int)(x0:ae)(r:ay)(r1:Int×Int):Prop:=mW Γ rv ⟨[.c 255],⟨91,[vP 2 0 6,vL 5 2 r.ar ab.enc,vI 7 r1.1],[oX 6 30 (ae.enc x0)]⟩⟩
theorem Gn(Γ:bn)(rv:Int){x0 r}:∀⦃s:Int⦄ ⦃e:(Unit)⊕(Int)⦄,aK (fun s=>iM x0 r s) s=some e→jf e (fun e=>Gm Γ rv x0 r) (fun e=>e=rv)→H4 Γ rv x0 r s:=by
 refine bk ?_
 intro i z_ h hI hE;simp only[iM,az,an,aq]at h;rcases h with⟨h0,x1,h1,⟨h2,h⟩|⟨h2,⟨h3,h⟩|⟨h3,h⟩⟩⟩|⟨h0,h⟩
 ·obtain rfl:=(hE h:_=rv);exact gr 12 [] [nL ab.enc r.ar,bT h0,hH (.draw 17 []),cE ab.enc h1,rp 10 (bT h2),tT]
 ·obtain rfl:=(hE h:_=rv);exact gr 12 [] [nL ab.enc r.ar,bT h0,hH (.draw 17 []),cE ab.enc h1,rp 3 (bF h2),cE ab.enc h1,rp 5 (bF h2),nL af.enc x0.ah,bF h2,bF h2,bT h3]
 ·exact gn 14 [2,3,5,6] [0,1] [nL ab.enc r.ar,bT h0,hH (.draw 17 []),cE ab.enc h1,rp 3 (bF h2),cE ab.enc h1,rp 5 (bF h2),nL af.enc x0.ah,bF h2,bF h2,bF h3] (hI h)
 ·exact gn 5 [2,3,5] [0,1] [nL ab.enc r.ar,bF h0] (hE h)
theorem Gq(Γ:bn)(rv:Int){x0 r r1}:∀⦃s:Int⦄ ⦃e:(Unit)⊕(Int)⦄,aK (fun s=>iN x0 r r1 s) s=some e→jf e (fun e=>Gp Γ rv x0 r r1) (fun e=>e=rv)→H5 Γ rv x0 r r1 s:=by
 refine bk ?_
 intro i1 z_ h hI hE;simp only[iN,az,an,aq]at h;rcases h with⟨h7,x2,h8,x3,h9,⟨dN,h⟩|⟨dN,h⟩⟩|⟨h7,h⟩
 ·obtain rfl:=(hE h:_=rv);exact gr 12 [] [nL ab.enc r.ar,bT h7,hH (.draw 10 []),cE ab.enc h8,cE af.enc h9,bT dN]
 ·exact gn 14 [2,5,7,9] [0] [nL ab.enc r.ar,bT h7,hH (.draw 10 []),cE ab.enc h8,cE af.enc h9,bF dN] (hI h)
 ·exact gn 5 [2,5,7] [0] [nL ab.enc r.ar,bF h7] (hE h)
theorem Gs(Γ:bn)(rv:Int){x0 r r1}:∀⦃s:Int⦄ ⦃e:(Unit)⊕(Int)⦄,aK (fun s=>iO x0 r r1 s) s=some e→jf e (fun e=>Gr Γ rv x0 r r1) (fun e=>e=rv)→H6 Γ rv x0 r r1 s:=by
 refine bk ?_
 intro i2 z_ h hI hE;simp only[iO,az,an,aq]at h;rcases h with⟨gu,x4,ij,r2,kH,⟨nk,h⟩|⟨nk,h⟩⟩|⟨gu,h⟩
 ·obtain rfl:=(hE h:_=rv);exact gr 12 [] [nL ab.enc r.ar,bT gu,cE ab.enc ij,cC (c_ kH),bT nk]
 ·exact gn 14 [2,5,7,10] [0] [nL ab.enc r.ar,bT gu,cE ab.enc ij,cC (c_ kH),bF nk] (hI h)
 ·exact gn 5 [2,5,7] [0] [nL ab.enc r.ar,bF gu] (hE h)
theorem rG{x0 r}{rv:Int}(h:pg x0 r=some rv):dF prog 167 [.agg (ae.enc x0),.agg (ay.enc r)] [] (one (lI rv)) []:=by
 refine aU func167 fun Γ=>?_
 simp only[pg,az,an,aq]at h;obtain⟨e0,h4,h⟩:=h;refine gn 9 [2,3,5,6] [0,1] [] (Gn Γ rv h4 ?_);rcases e0 with e0|r8
 ·simp only[en,az,an,aq]at h;rcases h with⟨r1,h5,⟨h6,h⟩|⟨h6,e1,gq,h⟩⟩
  ·obtain rfl:=oK h;exact gr 8 [] [cC (gQ h5),hP,hP,oI ((cA r1.2 0)=false),nL ab.enc r.ar,hP,hP,oI ((cA r1.2 0)=false),oR True ((cA r1.2 0)=false),bT h6]
  ·refine gn 12 [2,5,7,9] [0] [cC (gQ h5),hP,hP,oI ((cA r1.2 0)=false),nL ab.enc r.ar,hP,hP,oI ((cA r1.2 0)=false),oR True ((cA r1.2 0)=false),bF h6] (Gq Γ rv gq ?_);rcases e1 with e1|r7
   ·simp only[en,az,an,aq]at h;obtain⟨e2,pc,h⟩:=h;refine gn 5 [2,5,7,10] [0] [] (Gs Γ rv pc ?_);rcases e2 with e2|r6
    ·simp only[en,az,an,aq]at h;rcases h with⟨r3,sG,⟨ti,r4,vF,⟨va,r5,BQ,⟨Et,h⟩|⟨Et,h⟩⟩|⟨va,h⟩⟩|⟨ti,h⟩⟩
     ·obtain rfl:=oK h;exact gr 17 [] [cC (qR sG),nF ti,cC (vZ vF),nF va,cC (Ab BQ),nF Et]
     ·obtain rfl:=oK h;exact gr 16 [] [cC (qR sG),nF ti,cC (vZ vF),nF va,cC (Ab BQ),nT Et]
     ·obtain rfl:=oK h;exact gr 11 [] [cC (qR sG),nF ti,cC (vZ vF),nT va]
     ·obtain rfl:=oK h;exact gr 6 [] [cC (qR sG),nT ti]
    ·exact oK h
   ·exact oK h
 ·exact oK h
def Dl(Γ:bn)(rv:Bool)(cf:Cf):Prop:=Go prog f259 [] Γ (one (.bool rv)) [] cf
def JC(Γ:bn)(rv:Bool)(l:List (List Int))(bL i:Int):Prop:=Dl Γ rv ⟨[.c 116,.l 116,.b 0,.c 15],⟨25,[vL 0 1 l cg,vI 1 bL,vI 5 i],[]⟩⟩
def HP(Γ:bn)(rv:Bool)(l:List (List Int))(bL:Int):Prop:=Dl Γ rv ⟨[.c 15],⟨25,[],[]⟩⟩
theorem HQ(Γ:bn)(rv:Bool){l bL}:∀⦃s:Int⦄ ⦃e:(Unit)⊕(Bool)⦄,aK (fun s=>jk l bL s) s=some e→jf e (fun e=>HP Γ rv l bL) (fun e=>e=rv)→JC Γ rv l bL s:=by
 refine bk ?_
 intro i z_ h hI hE;simp only[jk,az,an,aq]at h;rcases h with⟨h1,x0,h2,⟨h3,h⟩|⟨h3,h⟩⟩|⟨h1,h⟩
 ·obtain rfl:=(hE h:_=rv);exact gr 12 [] [nL cg l,bT h1,cE cg h2,nL ax x0,bT h3]
 ·exact gn 14 [0,1,5] [] [nL cg l,bT h1,cE cg h2,nL ax x0,bF h3] (hI h)
 ·exact gn 5 [] [] [nL cg l,bF h1] (hE h)
theorem BZ{l bL}{rv:Bool}(h:tq l bL=some rv):dF prog 259 [.one (lL 1 l cg),.one (lI bL)] [] (one (.bool rv)) []:=by
 refine aU func259 fun Γ=>?_
 simp only[tq,az,an,aq]at h;rcases h with⟨h0,h⟩|⟨h0,e0,h4,h⟩
 ·obtain rfl:=oK h;exact gr 8 [] [hP,hP,hP,oI ((aT bL 0)=false),oR True ((aT bL 0)=false),bT h0]
 ·refine gn 12 [0,1,5] [] [hP,hP,hP,oI ((aT bL 0)=false),oR True ((aT bL 0)=false),bF h0] (HQ Γ rv h4 ?_);rcases e0 with e0|r
  ·obtain rfl:=oK h;exact gr 2 [] []
  ·exact oK h
def ve(Γ:bn)(rv:List Int×Int)(cf:Cf):Prop:=Go prog f236 [] Γ (.o5 [.one (lL 1 rv.1 ax),.one (lI rv.2)]) [] cf
def Lj(Γ:bn)(rv:List Int×Int)(l:List (List Int))(bL:Int)(l1:List Int)(d n i:Int):Prop:=ve Γ rv ⟨[.c 62612,.l 62612,.b 2,.c 7827,.b 1,.c 979,.l 244,.b 0,.c 31],⟨39,[vL 0 1 l cg,vI 1 bL,vO 6 0 1 l1 ax,vI 7 d,vI 8 n,vI 9 i],[oS 1 3 l1 ax]⟩⟩
def JA(Γ:bn)(rv:List Int×Int)(l:List (List Int))(bL:Int)(l1:List Int)(d n1:Int):Prop:=ve Γ rv ⟨[.c 7827,.b 1,.c 979,.l 244,.b 0,.c 31],⟨39,[vL 0 1 l cg,vI 1 bL,vO 6 0 1 l1 ax,vI 7 d,vI 8 n1],[oS 1 3 l1 ax]⟩⟩
def Li(Γ:bn)(rv:List Int×Int)(l:List (List Int))(bL:Int)(l1:List Int)(d:Int):Prop:=ve Γ rv ⟨[.c 244,.l 244,.b 0,.c 31],⟨39,[vL 0 1 l cg,vI 1 bL,vO 6 0 1 l1 ax,vI 7 d],[oS 1 3 l1 ax]⟩⟩
def Jy(Γ:bn)(rv:List Int×Int)(l:List (List Int))(bL:Int)(l2:List Int):Prop:=ve Γ rv ⟨[.c 31],⟨39,[vO 6 0 1 l2 ax],[oS 1 3 l2 ax]⟩⟩
theorem JB(Γ:bn)(rv:List Int×Int){l bL l1 d}:∀⦃s:Int×Int⦄ ⦃e:Int⦄,aK (fun s=>iV l bL l1 d s.1 s.2) s=some e→JA Γ rv l bL l1 d e→Lj Γ rv l bL l1 d s.1 s.2:=by
 refine bk ?_
 rintro⟨n,i⟩ z_ h hI hE;simp only[iV,az,an,aq]at h;rcases h with⟨h3,x0,h4,x1,h5,h⟩|⟨h3,h⟩
 ·exact gn 11 [0,1,6,7,8,9] [0] [nL cg l,bT h3,cE cg h4,cE ax h5] (hI h)
 ·exact gn 5 [0,1,6,7,8] [0] [nL cg l,bF h3] (hE h)
theorem Jz(Γ:bn)(rv:List Int×Int){l bL}:∀⦃s:List Int×Int⦄ ⦃e:List Int⦄,aK (fun s=>iU l bL s.1 s.2) s=some e→Jy Γ rv l bL e→Li Γ rv l bL s.1 s.2:=by
 refine bk ?_
 rintro⟨l1,d⟩ z_ h hI hE;simp only[iU,az,an,aq]at h;rcases h with⟨h2,n1,h6,h⟩|⟨h2,h⟩
 ·refine gn 14 [0,1,6,7,8,9] [0] [bT h2] (JB Γ rv h6 ?_);obtain⟨h7,h⟩:=h;exact gn 4 [0,1,6,7] [2] [oO (Eq.refl ([n1].map ax).length),aO ax h7] (hI h)
 ·exact gn 5 [6] [0] [bF h2] (hE h)
theorem Oy{l bL}{rv:List Int×Int}(h:uL l bL=some rv):dF prog 236 [.one (lL 1 l cg),.one (lI bL)] [] (.o5 [.one (lL 1 rv.1 ax),.one (lI rv.2)]) []:=by
 refine aU func236 fun Γ=>?_
 simp only[uL,az,an,aq]at h;rcases h with⟨r,h0,⟨h1,l2,h8,h⟩|⟨h1,h⟩⟩
 ·refine gn 14 [0,1,6,7] [0] [cC (BZ h0),nF h1,hW 10,hH (.lP 6 1 3)] (Jz Γ rv h8 ?_);cases h;exact gr 2 [] [hW 5,hH (.kX 0),rp 3 (eL l2 ax)]
 ·cases h;exact gr 8 [] [cC (BZ h0),nT h1,hW 4,hH (.rh 4 0 1)]
theorem MN{x0}{rv:Int}(h:tA x0=some rv):dF prog 237 [.agg (ae.enc x0)] [] (one (lI rv)) []:=by
 refine aU func237 fun Γ=>?_
 simp only[tA,az,an,aq]at h;rcases h with⟨h0,h⟩|⟨h0,x1,h1,h⟩
 ·obtain rfl:=oK h;exact gr 8 [] [nL ag.enc x0.types,bT h0]
 ·cases h;exact gr 9 [] [nL ag.enc x0.types,bF h0,cE ag.enc h1,nL ax x1.cap]
def sX(Γ:bn)(rv:List Int×Int)(cf:Cf):Prop:=Go prog f209 [] Γ (.o5 [.one (lL 1 rv.1 ax),.one (lI rv.2)]) [] cf
def Io(Γ:bn)(rv:List Int×Int)(x0:ae)(l:List ab)(n:Int)(l1:List (List Int))(i:Int)(on_ there:Bool)(k:Int):Prop:=sX Γ rv ⟨[.c 29844,.l 29844,.b 2,.c 3731,.b 1,.c 467,.l 116,.b 0,.c 15],⟨69,[vL 1 2 l ab.enc,vI 2 n,vP 3 0 6,vO 8 1 1 l1 cg,vI 9 i,vB 10 on_,vB 11 there,vI 12 k],[oX 6 30 (ae.enc x0),oS 1 52 l1 cg]⟩⟩
def GJ(Γ:bn)(rv:List Int×Int)(x0:ae)(l:List ab)(n:Int)(l1:List (List Int))(i:Int)(Qec XD:Bool):Prop:=sX Γ rv ⟨[.c 3731,.b 1,.c 467,.l 116,.b 0,.c 15],⟨69,[vL 1 2 l ab.enc,vI 2 n,vP 3 0 6,vO 8 1 1 l1 cg,vI 9 i,vB 10 Qec,vB 11 XD],[oX 6 30 (ae.enc x0),oS 1 52 l1 cg]⟩⟩
def Im(Γ:bn)(rv:List Int×Int)(x0:ae)(l:List ab)(n:Int)(l1:List (List Int))(i:Int):Prop:=sX Γ rv ⟨[.c 116,.l 116,.b 0,.c 15],⟨69,[vL 1 2 l ab.enc,vI 2 n,vP 3 0 6,vO 8 1 1 l1 cg,vI 9 i],[oX 6 30 (ae.enc x0),oS 1 52 l1 cg]⟩⟩
def GH(Γ:bn)(rv:List Int×Int)(x0:ae)(l:List ab)(n:Int)(l2:List (List Int)):Prop:=sX Γ rv ⟨[.c 15],⟨69,[vP 3 0 6,vO 8 1 1 l2 cg],[oX 6 30 (ae.enc x0),oS 1 52 l2 cg]⟩⟩
theorem GK(Γ:bn)(rv:List Int×Int){x0 l n l1 i}:∀⦃s:Bool×Bool×Int⦄ ⦃e:Bool×Bool⦄,aK (fun s=>gI x0 l n l1 i s.1 s.2.1 s.2.2) s=some e→GJ Γ rv x0 l n l1 i e.1 e.2→Io Γ rv x0 l n l1 i s.1 s.2.1 s.2.2:=by
 refine bk ?_
 rintro⟨on_,there,k⟩ z_ h hI hE;simp only[gI,az,an,aq]at h;rcases h with⟨h2,x2,h3,⟨h4,h⟩|⟨h4,⟨h5,h⟩|⟨h5,h⟩⟩⟩|⟨h2,h⟩
 ·exact gn 14 [1,2,3,8,9,10,11,12] [0,1] [nL ab.enc l,bT h2,cE ab.enc h3,bT h4] (hI h)
 ·exact gn 21 [1,2,3,8,9,10,11,12] [0,1] [nL ab.enc l,bT h2,cE ab.enc h3,bF h4,bT h5,cE ab.enc h3] (hI h)
 ·exact gn 21 [1,2,3,8,9,10,11,12] [0,1] [nL ab.enc l,bT h2,cE ab.enc h3,bF h4,bF h5] (hI h)
 ·exact gn 5 [1,2,3,8,9,10,11] [0,1] [nL ab.enc l,bF h2] (hE h)
theorem GI(Γ:bn)(rv:List Int×Int){x0 l n}:∀⦃s:List (List Int)×Int⦄ ⦃e:List (List Int)⦄,aK (fun s=>gH x0 l n s.1 s.2) s=some e→GH Γ rv x0 l n e→Im Γ rv x0 l n s.1 s.2:=by
 refine bk ?_
 rintro⟨l1,i⟩ z_ h hI hE;simp only[gH,az,an,aq]at h;rcases h with⟨h0,x1,h1,⟨Qec,XD⟩,h6,h⟩|⟨h0,h⟩
 ·refine gn 14 [1,2,3,8,9,10,11,12] [0,1] [nL af.enc x0.ah,bT h0,cE af.enc h1] (GK Γ rv h6 ?_);rcases h with⟨h7,x3,h8,h9,h⟩|⟨h7,h⟩
  ·exact gn 7 [1,2,3,8,9] [0,3] [hP,hP,oR True (Qec=true),bT h7,cE af.enc h8,oO (Eq.refl ([x3.load].map cg).length),aO cg h9] (hI h)
  ·exact gn 7 [1,2,3,8,9] [0,1] [hP,hP,oR True (Qec=true),bF h7] (hI h)
 ·exact gn 5 [3,8] [0,1] [nL af.enc x0.ah,bF h0] (hE h)
theorem AY{x0 l n}{rv:List Int×Int}(h:rX x0 l n=some rv):dF prog 209 [.agg (ae.enc x0),.one (lL 2 l ab.enc),.one (lI n)] [] (.o5 [.one (lL 1 rv.1 ax),.one (lI rv.2)]) []:=by
 refine aU func209 fun Γ=>?_
 simp only[rX,az,an,aq]at h;obtain⟨l2,dN,h⟩:=h;refine gn 9 [1,2,3,8,9] [0,1] [hW 14,hH (.lP 8 1 52)] (GI Γ rv dN ?_);obtain⟨r,gq,r1,gu,h⟩:=h;cases h;exact gr 2 [] [cC (MN gq),hH (.kX 1),rp 2 (eL l2 cg),cC (Oy gu)]
def B9(Γ:bn)(rv:List (List Int)×Int)(cf:Cf):Prop:=Go prog f190 [] Γ (.o5 [.one (lL 1 rv.1 cg),.one (lI rv.2)]) [] cf
def Il(Γ:bn)(rv:List (List Int)×Int)(x0:ae)(r:ay)(l:List (List Int))(n:Int):Prop:=B9 Γ rv ⟨[.c 244,.l 244,.b 0,.c 31],⟨40,[vP 2 0 6,vP 3 1 4,vO 7 2 1 l cg,vI 8 n],[oX 6 30 (ae.enc x0),oX 4 48 (ay.enc r),oS 1 52 l cg]⟩⟩
def GF(Γ:bn)(rv:List (List Int)×Int)(x0:ae)(r:ay)(l1:List (List Int)):Prop:=B9 Γ rv ⟨[.c 31],⟨40,[vO 7 0 1 l1 cg],[oS 1 52 l1 cg]⟩⟩
theorem GG(Γ:bn)(rv:List (List Int)×Int){x0 r}:∀⦃s:List (List Int)×Int⦄ ⦃e:(List (List Int))⊕(List (List Int)×Int)⦄,aK (fun s=>gF x0 r s.1 s.2) s=some e→jf e (fun e=>GF Γ rv x0 r e) (fun e=>e=rv)→Il Γ rv x0 r s.1 s.2:=by
 refine bk ?_
 rintro⟨l,n⟩ z_ h hI hE;simp only[gF,az,an,aq]at h;rcases h with⟨h2,r2,h3,⟨h4,h⟩|⟨h4,h5,h⟩⟩|⟨h2,h⟩
 ·obtain rfl:=(hE h:_=rv);exact gr 15 [] [nL ab.enc r.ar,bT h2,cC (AY h3),bT h4,hW 5,hH (.rh 4 0 1)]
 ·exact gn 18 [2,3,7,8] [0,1,4] [nL ab.enc r.ar,bT h2,cC (AY h3),bF h4,oO (Eq.refl ([r2.1].map cg).length),aO cg h5] (hI h)
 ·exact gn 5 [7] [2] [nL ab.enc r.ar,bF h2] (hE h)
theorem AX{x0 r}{rv:List (List Int)×Int}(h:rV x0 r=some rv):dF prog 190 [.agg (ae.enc x0),.agg (ay.enc r)] [] (.o5 [.one (lL 1 rv.1 cg),.one (lI rv.2)]) []:=by
 refine aU func190 fun Γ=>?_
 simp only[rV,az,an,aq]at h;rcases h with⟨r1,h0,⟨h1,h⟩|⟨h1,e0,h6,h⟩⟩
 ·cases h;exact gr 10 [] [cC (rG h0),bT h1,hW 5,hH (.rh 4 0 1)]
 ·refine gn 16 [2,3,7,8] [0,1,2] [cC (rG h0),bF h1,hW 10,hH (.lP 7 1 52)] (GG Γ rv h6 ?_);rcases e0 with l1|r3
  ·cases h;exact gr 2 [] [hW 5,hH (.kX 0),rp 3 (eL l1 cg)]
  ·exact oK h
def Dk(Γ:bn)(rv:Bool)(cf:Cf):Prop:=Go prog f191 [] Γ (one (.bool rv)) [] cf
def Jx(Γ:bn)(rv:Bool)(a capacity:List Int)(i:Int):Prop:=Dk Γ rv ⟨[.c 116,.l 116,.b 0,.c 15],⟨26,[vL 0 1 a ax,vL 1 1 capacity ax,vI 5 i],[]⟩⟩
def HM(Γ:bn)(rv:Bool)(a capacity:List Int):Prop:=Dk Γ rv ⟨[.c 15],⟨26,[],[]⟩⟩
theorem HN(Γ:bn)(rv:Bool){a capacity}:∀⦃s:Int⦄ ⦃e:(Unit)⊕(Bool)⦄,aK (fun s=>ji a capacity s) s=some e→jf e (fun e=>HM Γ rv a capacity) (fun e=>e=rv)→Jx Γ rv a capacity s:=by
 refine bk ?_
 intro i z_ h hI hE;simp only[ji,az,an,aq]at h;rcases h with⟨h1,x0,h2,x1,h3,⟨h4,h⟩|⟨h4,h⟩⟩|⟨h1,h⟩
 ·obtain rfl:=(hE h:_=rv);exact gr 12 [] [nL ax a,bT h1,hH (.draw 9 []),cE ax h2,cE ax h3,bT h4]
 ·exact gn 14 [0,1,5] [] [nL ax a,bT h1,hH (.draw 9 []),cE ax h2,cE ax h3,bF h4] (hI h)
 ·exact gn 5 [] [] [nL ax a,bF h1] (hE h)
theorem BX{a capacity}{rv:Bool}(h:tp a capacity=some rv):dF prog 191 [.one (lL 1 a ax),.one (lL 1 capacity ax)] [] (one (.bool rv)) []:=by
 refine aU func191 fun Γ=>?_
 simp only[tp,az,an,aq]at h;rcases h with⟨h0,h⟩|⟨h0,e0,h5,h⟩
 ·obtain rfl:=oK h;exact gr 8 [] [nL ax a,nL ax capacity,bT h0]
 ·refine gn 12 [0,1,5] [] [nL ax a,nL ax capacity,bF h0] (HN Γ rv h5 ?_);rcases e0 with e0|r
  ·obtain rfl:=oK h;exact gr 2 [] []
  ·exact oK h
def Ds(Γ:bn)(rv:Int)(cf:Cf):Prop:=Go prog f168 [] Γ (one (lI rv)) [] cf
def JN(Γ:bn)(rv:Int)(x0:ae)(r:ay)(r1:List (List Int)×Int)(i:Int):Prop:=Ds Γ rv ⟨[.c 500,.l 500,.b 0,.c 63],⟨47,[vP 2 0 6,vP 3 1 4,vL 5 1 r1.1 cg,vI 7 i],[oX 6 30 (ae.enc x0),oX 4 48 (ay.enc r)]⟩⟩
def Ij(Γ:bn)(rv:Int)(x0:ae)(r:ay)(r1:List (List Int)×Int):Prop:=Ds Γ rv ⟨[.c 63],⟨47,[],[]⟩⟩
theorem Ik(Γ:bn)(rv:Int){x0 r r1}:∀⦃s:Int⦄ ⦃e:(Unit)⊕(Int)⦄,aK (fun s=>jt x0 r r1 s) s=some e→jf e (fun e=>Ij Γ rv x0 r r1) (fun e=>e=rv)→JN Γ rv x0 r r1 s:=by
 refine bk ?_
 intro i z_ h hI hE;simp only[jt,az,an,aq]at h;rcases h with⟨h3,x1,h4,x2,h5,r2,h6,⟨h7,h⟩|⟨h7,h⟩⟩|⟨h3,h⟩
 ·exact gn 14 [2,3,5,7] [0,1] [nL cg r1.1,bT h3,hH (.draw 13 []),cE cg h4,cE ag.enc h5,cC (BX h6),nF h7] (hI h)
 ·obtain rfl:=(hE h:_=rv);exact gr 12 [] [nL cg r1.1,bT h3,hH (.draw 13 []),cE cg h4,cE ag.enc h5,cC (BX h6),nT h7]
 ·exact gn 5 [] [] [nL cg r1.1,bF h3] (hE h)
theorem wT{x0 r}{rv:Int}(h:tz x0 r=some rv):dF prog 168 [.agg (ae.enc x0),.agg (ay.enc r)] [] (one (lI rv)) []:=by
 refine aU func168 fun Γ=>?_
 simp only[tz,az,an,aq]at h;rcases h with⟨h0,h⟩|⟨h0,r1,h1,⟨h2,h⟩|⟨h2,e0,h8,h⟩⟩
 ·obtain rfl:=oK h;exact gr 8 [] [rp 5 hP,rp 3 (oI ((aT r.aR 0)=false)),nL ag.enc x0.types,hP,hP,rp 2 (oI ((aT r.aR 0)=false)),oR True ((aT r.aR 0)=false),bT h0]
 ·cases h;exact gr 15 [] [rp 5 hP,rp 3 (oI ((aT r.aR 0)=false)),nL ag.enc x0.types,hP,hP,rp 2 (oI ((aT r.aR 0)=false)),oR True ((aT r.aR 0)=false),bF h0,cC (AX h1),bT h2]
 ·refine gn 19 [2,3,5,7] [0,1] [rp 5 hP,rp 3 (oI ((aT r.aR 0)=false)),nL ag.enc x0.types,hP,hP,rp 2 (oI ((aT r.aR 0)=false)),oR True ((aT r.aR 0)=false),bF h0,cC (AX h1),bF h2] (Ik Γ rv h8 ?_);rcases e0 with e0|r3
  ·obtain rfl:=oK h;exact gr 2 [] []
  ·exact oK h
theorem sZ{x0 v}{rv:aM×Bool}(h:kL x0 v=some rv):dF prog 210 [.agg (ae.enc x0),.agg (ab.enc v)] [] (.o5 [.agg [lI rv.1.place,lI rv.1.bm,lI rv.1.bp,lI rv.1.bz],.one (.bool rv.2)]) []:=by
 refine aU func210 fun Γ=>?_
 simp only[kL,az,an,aq]at h;rcases h with⟨h0,h⟩|⟨h0,x1,h1,⟨h2,h⟩|⟨h2,h⟩⟩
 ·cases h;exact gr 8 [] [rp 5 hP,rp 3 (oI ((aT v.aL 0)=false)),nL af.enc x0.ah,hP,hP,rp 2 (oI ((aT v.aL 0)=false)),oR True ((aT v.aL 0)=false),bT h0]
 ·cases h;exact gr 16 [] [rp 5 hP,rp 3 (oI ((aT v.aL 0)=false)),nL af.enc x0.ah,hP,hP,rp 2 (oI ((aT v.aL 0)=false)),oR True ((aT v.aL 0)=false),bF h0,cE af.enc h1,bT h2,cE af.enc h1,hH (.draw 6 [(2,4)])]
 ·cases h;exact gr 16 [] [rp 5 hP,rp 3 (oI ((aT v.aL 0)=false)),nL af.enc x0.ah,hP,hP,rp 2 (oI ((aT v.aL 0)=false)),oR True ((aT v.aL 0)=false),bF h0,cE af.enc h1,bF h2,hH (.draw 6 [(2,4)])]
def zd(Γ:bn)(rv:Bool)(cf:Cf):Prop:=Go prog f192 [] Γ (one (.bool rv)) [] cf
def Eg(Γ:bn)(rv:Bool)(x0:ae)(r:ay)(i:Int):Prop:=zd Γ rv ⟨[.c 116,.l 116,.b 0,.c 15],⟨54,[vP 2 0 6,vP 3 1 4,vI 5 i],[oX 6 30 (ae.enc x0),oX 4 48 (ay.enc r)]⟩⟩
def C0(Γ:bn)(rv:Bool)(x0:ae)(r:ay):Prop:=zd Γ rv ⟨[.c 15],⟨54,[],[]⟩⟩
theorem C1(Γ:bn)(rv:Bool){x0 r}:∀⦃s:Int⦄ ⦃e:(Unit)⊕(Bool)⦄,aK (fun s=>gj x0 r s) s=some e→jf e (fun e=>C0 Γ rv x0 r) (fun e=>e=rv)→Eg Γ rv x0 r s:=by
 refine bk ?_
 intro i z_ h hI hE;simp only[gj,az,an,aq]at h;rcases h with⟨h1,x1,h2,r1,h3,⟨h4,h⟩|⟨h4,h⟩⟩|⟨h1,h⟩
 ·exact gn 16 [2,3,5] [0,1] [nL ab.enc r.ar,bT h1,hH (.draw 13 [(2,11)]),cE ab.enc h2,cC (sZ h3),nF h4] (hI h)
 ·obtain rfl:=(hE h:_=rv);exact gr 14 [] [nL ab.enc r.ar,bT h1,hH (.draw 13 [(2,11)]),cE ab.enc h2,cC (sZ h3),nT h4]
 ·exact gn 5 [] [] [nL ab.enc r.ar,bF h1] (hE h)
theorem oQ{x0 r}{rv:Bool}(h:iS x0 r=some rv):dF prog 192 [.agg (ae.enc x0),.agg (ay.enc r)] [] (one (.bool rv)) []:=by
 refine aU func192 fun Γ=>?_
 simp only[iS,az,an,aq]at h;rcases h with⟨h0,h⟩|⟨h0,e0,h5,h⟩
 ·obtain rfl:=oK h;exact gr 8 [] [rp 5 hP,rp 3 (oI ((aT r.aR 0)=false)),nL ag.enc x0.types,rp 13 hP,rp 2 (oI ((aT r.aR 0)=false)),oR True ((aT r.aR 0)=false),rp 2 (oI (((aT r.aR 0)||(bZ r.aR (aC x0.types)))=false)),oR True (((aT r.aR 0)||(bZ r.aR (aC x0.types)))=false),rp 2 (oI ((((aT r.aR 0)||(bZ r.aR (aC x0.types)))||(aT r.aH 0))=false)),oR True ((((aT r.aR 0)||(bZ r.aR (aC x0.types)))||(aT r.aH 0))=false),rp 2 (oI (((((aT r.aR 0)||(bZ r.aR (aC x0.types)))||(aT r.aH 0))||(cQ r.aH 4096))=false)),nL ab.enc r.ar,hP,hP,oI (((((aT r.aR 0)||(bZ r.aR (aC x0.types)))||(aT r.aH 0))||(cQ r.aH 4096))=false),oR True (((((aT r.aR 0)||(bZ r.aR (aC x0.types)))||(aT r.aH 0))||(cQ r.aH 4096))=false),bT h0]
 ·refine gn 12 [2,3,5] [0,1] [rp 5 hP,rp 3 (oI ((aT r.aR 0)=false)),nL ag.enc x0.types,rp 13 hP,rp 2 (oI ((aT r.aR 0)=false)),oR True ((aT r.aR 0)=false),rp 2 (oI (((aT r.aR 0)||(bZ r.aR (aC x0.types)))=false)),oR True (((aT r.aR 0)||(bZ r.aR (aC x0.types)))=false),rp 2 (oI ((((aT r.aR 0)||(bZ r.aR (aC x0.types)))||(aT r.aH 0))=false)),oR True ((((aT r.aR 0)||(bZ r.aR (aC x0.types)))||(aT r.aH 0))=false),rp 2 (oI (((((aT r.aR 0)||(bZ r.aR (aC x0.types)))||(aT r.aH 0))||(cQ r.aH 4096))=false)),nL ab.enc r.ar,hP,hP,oI (((((aT r.aR 0)||(bZ r.aR (aC x0.types)))||(aT r.aH 0))||(cQ r.aH 4096))=false),oR True (((((aT r.aR 0)||(bZ r.aR (aC x0.types)))||(aT r.aH 0))||(cQ r.aH 4096))=false),bF h0] (C1 Γ rv h5 ?_);rcases e0 with e0|r2
  ·obtain rfl:=oK h;exact gr 2 [] []
  ·exact oK h
theorem Cb{t s0 yes}{rv:bB}(h:qq t s0 yes=some rv):dF prog 238 [.agg (ag.enc t),.agg (bB.enc s0),.one (.bool yes)] [] (gG [lI rv.place,lI rv.v_,lI rv.gy,lI rv.cT]) []:=by
 refine aU func238 fun Γ=>?_
 simp only[qq,az,an,aq]at h;rcases h with⟨h0,h⟩|⟨h0,h⟩
 ·cases h;exact gr 11 [] [bT h0]
 ·obtain rfl:=oK h;exact gr 9 [] [bF h0]
theorem uq{x0 aj aE dE t}{rv:Int×Int×Bool}(h:yq x0 aj aE dE t=some rv):dF prog 260 [.agg (ae.enc x0),.one (lI aj),.one (lI aE),.one (lI dE),.one (lI t)] [] (.o5 [.one (lI rv.1),.one (lI rv.2.1),.one (.bool rv.2.2)]) []:=by
 refine aU func260 fun Γ=>?_
 simp only[yq,az,an,aq]at h;obtain⟨r,h0,h⟩:=h;cases h;exact gr 6 [] [cC (Qd h0)]
theorem sY{x0 t s0 dE bp late}{rv:bB×Int}(h:kK x0 t s0 dE bp late=some rv):dF prog 239 [.agg (ae.enc x0),.agg (ag.enc t),.agg (bB.enc s0),.one (lI dE),.one (lI bp),.one (lI late)] [] (.o5 [.agg [lI rv.1.place,lI rv.1.v_,lI rv.1.gy,lI rv.1.cT],.one (lI rv.2)]) []:=by
 refine aU func239 fun Γ=>?_
 simp only[kK,az,an,aq]at h;rcases h with⟨r,h0,⟨h1,⟨h2,h⟩|⟨h2,⟨h3,h⟩|⟨h3,h⟩⟩⟩|⟨h1,h⟩⟩
 ·cases h;exact gr 15 [] [cC (uq h0),nF h1,bT h2]
 ·cases h;exact gr 22 [] [cC (uq h0),nF h1,bF h2,bT h3]
 ·cases h;exact gr 23 [] [cC (uq h0),nF h1,bF h2,bF h3]
 ·cases h;exact gr 10 [] [cC (uq h0),nT h1]
def Fc(Γ:bn)(rv:aQ×List Int×Int)(cf:Cf):Prop:=Go prog f211 [] Γ (.o5 [.agg [.bool rv.1.de,lI rv.1.cF,lL 4 rv.1.je aX.enc,lI rv.1.lE,lI rv.1.cT],.one (lL 1 rv.2.1 ax),.one (lI rv.2.2)]) [] cf
def Ls(Γ:bn)(rv:aQ×List Int×Int)(x0:ae)(r:ay)(aP:List Bool)(x1:ag)(x2:Bool)(l:List Int)(l1:List aX)(x3:bB)(cF i:Int):Prop:=Fc Γ rv ⟨[.c 2036,.l 2036,.b 0,.c 255],⟨161,[vL 2 1 aP bR,vP 3 0 6,vP 4 1 4,vP 6 2 5,vP 9 3 14,vP 10 4 4,vP 11 5 5,vO 12 6 1 l ax,vI 13 i],[oX 6 30 (ae.enc x0),oX 4 48 (ay.enc r),oX 5 168 [.bool false,lI 0,.dO,lI 0,lI 0],oX 14 70 (ag.enc x1),oX 4 253 (bB.enc x3),oX 5 168 [.bool x2,lI cF,lO 7 4 l1 aX.enc,lI 0,lI 0],oS 1 3 l ax,oS 4 258 l1 aX.enc]⟩⟩
def JP(Γ:bn)(rv:aQ×List Int×Int)(x0:ae)(r:ay)(aP:List Bool)(x1:ag)(x2:Bool)(l2:List Int)(l3:List aX)(x6:bB)(m6:Int):Prop:=Fc Γ rv ⟨[.c 255],⟨161,[vP 3 0 6,vP 6 1 5,vP 9 2 14,vP 10 3 4,vP 11 4 5,vO 12 5 1 l2 ax],[oX 6 30 (ae.enc x0),oX 5 168 [.bool false,lI 0,.dO,lI 0,lI 0],oX 14 70 (ag.enc x1),oX 4 253 (bB.enc x6),oX 5 168 [.bool x2,lI m6,lO 6 4 l3 aX.enc,lI 0,lI 0],oS 1 3 l2 ax,oS 4 258 l3 aX.enc]⟩⟩
theorem JQ(Γ:bn)(rv:aQ×List Int×Int){x0 r aP x1 x2}:∀⦃s:List Int×List aX×bB×Int×Int⦄ ⦃e:(List Int×List aX×bB×Int)⊕(aQ×List Int×Int)⦄,aK (fun s=>qS x0 r aP x1 x2 s.1 s.2.1 s.2.2.1 s.2.2.2.1 s.2.2.2.2) s=some e→jf e (fun e=>JP Γ rv x0 r aP x1 x2 e.1 e.2.1 e.2.2.1 e.2.2.2) (fun e=>e=rv)→Ls Γ rv x0 r aP x1 x2 s.1 s.2.1 s.2.2.1 s.2.2.2.1 s.2.2.2.2:=by
 refine bk ?_
 rintro⟨l,l1,x3,cF,i⟩ z_ h hI hE;simp only[qS,az,an,aq]at h;rcases h with⟨h5,x4,h6,r3,h7,r4,h8,⟨h9,h⟩|⟨h9,dN,x5,gq,r5,gu,ij,h⟩⟩|⟨h5,h⟩
 ·obtain rfl:=(hE h:_=rv);exact gr 17 [] [nL ab.enc r.ar,bT h5,hH (.draw 13 [(8,11)]),cE ab.enc h6,cC (sZ h7),cC (sY h8),bT h9,hW 7,hH (.fW 2 2 4),hH (.rh 7 0 1)]
 ·exact gn 30 [2,3,4,6,9,10,11,12,13] [0,1,2,3,4,5,11,14] [nL ab.enc r.ar,bT h5,hH (.draw 13 [(8,11)]),cE ab.enc h6,cC (sZ h7),cC (sY h8),bF h9,oO (Eq.refl ([r4.1.gy].map ax).length),aO ax dN,hH (.draw 14 []),cE bR gq,hH (.draw 8 []),cE bR gq,cC (Cb gu),oO (Eq.refl ([(aX.mk r4.1.v_ (zz r4.1.v_ r3.1.bm) r5.v_ x5)].map aX.enc).length),aO aX.enc ij] (hI h)
 ·exact gn 5 [3,6,9,10,11,12] [0,2,3,4,5,6,7] [nL ab.enc r.ar,bF h5] (hE h)
theorem OA{x0 r aP}{rv:aQ×List Int×Int}(h:rY x0 r aP=some rv):dF prog 211 [.agg (ae.enc x0),.agg (ay.enc r),.one (lL 1 aP bR)] [] (.o5 [.agg [.bool rv.1.de,lI rv.1.cF,lL 4 rv.1.je aX.enc,lI rv.1.lE,lI rv.1.cT],.one (lL 1 rv.2.1 ax),.one (lI rv.2.2)]) []:=by
 refine aU func211 fun Γ=>?_
 simp only[rY,az,an,aq]at h;rcases h with⟨r1,h0,⟨h1,h⟩|⟨h1,x1,h2,x2,h3,r2,h4,e0,kH,h⟩⟩
 ·cases h;exact gr 8 [] [cC (oQ h0),hP,hP,oI ((!r1)=false),nL bR aP,hP,hP,hP,rp 2 (oI ((!r1)=false)),nL ab.enc r.ar,hP,hP,hP,rp 3 (oI ((!r1)=false)),oR True ((!r1)=false),bT h1,hW 6,hH (.fW 2 2 4),hH (.rh 7 0 1)]
 ·refine gn 20 [2,3,4,6,9,10,11,12,13] [0,1,2,3,4,5,6,7] [cC (oQ h0),hP,hP,oI ((!r1)=false),nL bR aP,hP,hP,hP,rp 2 (oI ((!r1)=false)),nL ab.enc r.ar,hP,hP,hP,rp 3 (oI ((!r1)=false)),oR True ((!r1)=false),bF h1,cE ag.enc h2,hH (.draw 14 []),cE bR h3,cC (Cb h4),hH (.draw 7 []),cE bR h3,hW 10,hH (.lP 12 1 3),hH (.nN 5 2 4 258)] (JQ Γ rv kH ?_);rcases e0 with⟨l2,l3,x6,m6⟩|r7
  ·simp only[en,az,an,aq]at h;rcases h with⟨r6,nk,⟨pc,h⟩|⟨pc,sG,h⟩⟩
   ·cases h;exact gr 8 [] [cC (sY nk),bT pc,hW 7,hH (.fW 1 2 4),hH (.rh 7 0 1)]
   ·cases h;exact gr 15 [] [cC (sY nk),bF pc,oO (Eq.refl ([r6.1.gy].map ax).length),aO ax sG,hW 20,hH (.kX 6),hH (.kX 9),rp 3 (eL l3 aX.enc),rp 4 (oO (Eq.refl ((l2++[r6.1.gy]).map ax).length))]
  ·exact oK h
theorem yp{x0 r aP}{rv:aQ×Int}(h:lY x0 r aP=some rv):dF prog 193 [.agg (ae.enc x0),.agg (ay.enc r),.one (lL 1 aP bR)] [] (.o5 [.agg [.bool rv.1.de,lI rv.1.cF,lL 4 rv.1.je aX.enc,lI rv.1.lE,lI rv.1.cT],.one (lI rv.2)]) []:=by
 refine aU func193 fun Γ=>?_
 simp only[lY,az,an,aq]at h;obtain⟨r1,h0,h⟩:=h;cases h;exact gr 6 [] [cC (OA h0)]
def Dt(Γ:bn)(rv:List Bool×Bool)(cf:Cf):Prop:=Go prog f194 [] Γ (.o5 [.one (lL 1 rv.1 bR),.one (.bool rv.2)]) [] cf
def JO(Γ:bn)(rv:List Bool×Bool)(n:Int)(l:List Bool)(i:Int):Prop:=Dt Γ rv ⟨[.c 244,.l 244,.b 0,.c 31],⟨31,[vI 1 n,vO 6 0 1 l bR,vI 7 i],[oS 1 4 l bR]⟩⟩
def Iq(Γ:bn)(rv:List Bool×Bool)(n:Int):Prop:=Dt Γ rv ⟨[.c 31],⟨31,[],[]⟩⟩
theorem Ir(Γ:bn)(rv:List Bool×Bool){n}:∀⦃s:List Bool×Int⦄ ⦃e:(Unit)⊕(List Bool×Bool)⦄,aK (fun s=>pX n s.1 s.2) s=some e→jf e (fun e=>Iq Γ rv n) (fun e=>e=rv)→JO Γ rv n s.1 s.2:=by
 refine bk ?_
 rintro⟨l,i⟩ z_ h hI hE;simp only[pX,az,an,aq]at h;rcases h with⟨h1,x0,h2,⟨h3,h⟩|⟨h3,h⟩⟩|⟨h1,h⟩
 ·exact gn 16 [1,6,7] [0] [bT h1,oO (iA h2),oO (iz bR h2),rE bR h2,nF h3,oO (iA h2),oO (iz bR h2),rE bR h2,hH (.rows ((gZ l i false).map bR)),hH (.xo 0 ((gZ l i false).map bR).length),oO (L4 bR l i false),rp 3 (oO (vV bR l i false))] (hI h)
 ·obtain rfl:=(hE h:_=rv);exact gr 15 [] [bT h1,oO (iA h2),oO (iz bR h2),rE bR h2,nT h3,oO (iA h2),oO (iz bR h2),rE bR h2,hH (.rows ((gZ l i true).map bR)),hH (.xo 0 ((gZ l i true).map bR).length),hW 5,hH (.kX 0),oO (L4 bR l i true),rp 3 (oO (vV bR l i true)),rp 5 (oO (Eq.refl ((gZ l i true).map bR).length))]
 ·exact gn 5 [] [] [bF h1] (hE h)
theorem Ca{aP n}{rv:List Bool×Bool}(h:nU aP n=some rv):dF prog 194 [.one (lL 1 aP bR),.one (lI n)] [] (.o5 [.one (lL 1 rv.1 bR),.one (.bool rv.2)]) []:=by
 refine aU func194 fun Γ=>?_
 simp only[nU,az,an,aq]at h;obtain⟨h0,e0,h4,h⟩:=h;refine gn 11 [1,6,7] [0] [aN bR h0,nL bR aP] (Ir Γ rv h4 ?_);rcases e0 with e0|r
 ·cases h;exact gr 2 [] [hW 4,hH (.rh 4 0 1)]
 ·exact oK h
def yo(Γ:bn)(rv:aQ×Int)(cf:Cf):Prop:=Go prog f169 [] Γ (.o5 [.agg [.bool rv.1.de,lI rv.1.cF,lL 4 rv.1.je aX.enc,lI rv.1.lE,lI rv.1.cT],.one (lI rv.2)]) [] cf
def Ac(Γ:bn)(rv:aQ×Int)(x0:ae)(r:ay)(l:List Bool)(r2:aQ×Int)(aP:List Bool)(x1:aQ)(Ct:List Bool)(fZ more:Bool):Prop:=yo Γ rv ⟨[.c 4088,.l 4088,.b 0,.c 1023],⟨88,[vP 2 0 6,vP 3 1 4,vP 4 2 5,vL 7 1 Ct bR,vP 8 3 5,vI 9 r2.2,vB 10 fZ,vB 11 more],[oX 6 30 (ae.enc x0),oX 4 48 [lI r.aR,lI r.aH,lL 1 aP bR,lL 2 r.ar ab.enc],oX 5 168 [.bool false,lI 0,.dO,lI 0,lI 0],oX 5 168 (aQ.enc x1)]⟩⟩
def zb(Γ:bn)(rv:aQ×Int)(x0:ae)(r:ay)(l:List Bool)(r2:aQ×Int)(x3:aQ)(FT:Bool):Prop:=yo Γ rv ⟨[.c 1023],⟨88,[vP 4 0 5,vP 8 1 5,vI 9 r2.2,vB 10 FT],[oX 5 168 [.bool false,lI 0,.dO,lI 0,lI 0],oX 5 168 (aQ.enc x3)]⟩⟩
theorem za(Γ:bn)(rv:aQ×Int){x0 r l r2 aP Ct x2 DZ}{x:(List Bool×aQ×List Bool×Bool×Bool)⊕(aQ×Bool)}(h:pV x0 r l r2 aP Ct x2 DZ=some x)(hI:∀⦃s:List Bool×aQ×List Bool×Bool×Bool⦄,some (.inl s)=some x→Ac Γ rv x0 r l r2 s.1 s.2.1 s.2.2.1 s.2.2.2.1 s.2.2.2.2)(hE:∀⦃e:aQ×Bool⦄,some (.inr e)=some x→zb Γ rv x0 r l r2 e.1 e.2):yo Γ rv ⟨[.c 65419,.b 1,.l 4088,.b 0,.c 1023],⟨88,[vP 2 0 6,vP 3 1 4,vP 4 2 5,vL 7 1 Ct bR,vP 8 3 5,vI 9 r2.2,vB 10 DZ],[oX 6 30 (ae.enc x0),oX 4 48 [lI r.aR,lI r.aH,lL 1 aP bR,lL 2 r.ar ab.enc],oX 5 168 [.bool false,lI 0,.dO,lI 0,lI 0],oX 5 168 (aQ.enc x2)]⟩⟩:=by
 simp only[pV,az,an,aq]at h;obtain⟨r5,h8,h⟩:=h;exact gn 3 [2,3,4,7,8,9,10,11] [0,1,2,3] [nL bR aP,cC (Ca h8)] (hI h)
theorem Ip(Γ:bn)(rv:aQ×Int){x0 r l r2}:∀⦃s:List Bool×aQ×List Bool×Bool×Bool⦄ ⦃e:aQ×Bool⦄,aK (fun s=>pW x0 r l r2 s.1 s.2.1 s.2.2.1 s.2.2.2.1 s.2.2.2.2) s=some e→zb Γ rv x0 r l r2 e.1 e.2→Ac Γ rv x0 r l r2 s.1 s.2.1 s.2.2.1 s.2.2.2.1 s.2.2.2.2:=by
 refine bk ?_
 rintro⟨aP,x1,Ct,fZ,more⟩ z_ h hI hE;simp only[pW,az,an,aq]at h;rcases h with⟨h5,r4,h6,⟨h7,h⟩|⟨h7,h⟩⟩|⟨h5,h⟩
 ·exact gn 15 [2,3,4,7,8,9,10] [0,1,2,3] [bT h5,cC (yp h6),rp 11 hP,rp 2 (oI ((bP r4.2 0)=true)),rp 4 (oI (((bP r4.2 0)=true)∧(!fZ)=false)),oI ((bP r4.2 0)=true),oI (((bP r4.2 0)=true)∧(!fZ)=false),oR True ((bP r4.2 0)=true),bT h7] (za Γ rv h hI hE)
 ·exact gn 13 [2,3,4,7,8,9,10] [0,1,2,3] [bT h5,cC (yp h6),rp 11 hP,rp 2 (oI ((bP r4.2 0)=true)),rp 4 (oI (((bP r4.2 0)=true)∧(!fZ)=false)),oI ((bP r4.2 0)=true),oI (((bP r4.2 0)=true)∧(!fZ)=false),oR True ((bP r4.2 0)=true),bF h7] (za Γ rv h hI hE)
 ·exact gn 5 [4,8,9,10] [2,3] [bF h5] (hE h)
theorem B_{x0 r}{rv:aQ×Int}(h:qp x0 r=some rv):dF prog 169 [.agg (ae.enc x0),.agg (ay.enc r)] [] (.o5 [.agg [.bool rv.1.de,lI rv.1.cF,lL 4 rv.1.je aX.enc,lI rv.1.lE,lI rv.1.cT],.one (lI rv.2)]) []:=by
 refine aU func169 fun Γ=>?_
 simp only[qp,az,an,aq]at h;rcases h with⟨r1,h0,⟨h1,h⟩|⟨h1,l,h2,r2,h3,r3,h4,⟨x3,FT⟩,h9,h⟩⟩
 ·cases h;exact gr 10 [] [nL ab.enc r.ar,cC (oQ h0),hP,hP,hP,rp 2 (oI ((!r1)=false)),nL bR r.aP,hP,hP,hP,rp 2 (oI ((!r1)=false)),oR True ((!r1)=false),bT h1,hW 5,hH (.fW 2 2 4)]
 ·refine gn 22 [2,3,4,7,8,9,10,11] [0,1,2,4] [nL ab.enc r.ar,cC (oQ h0),hP,hP,hP,rp 2 (oI ((!r1)=false)),nL bR r.aP,hP,hP,hP,rp 2 (oI ((!r1)=false)),oR True ((!r1)=false),bF h1,hH (.cells [.bool false]),hH (.rows (l.map bR)),oO (mk1 h2),oO (mk2 h2),oO (mk3 h2),oO (mk4 h2),oO (mk5 bR h2),cY bR l r.aP,hH (.xo 3 ((HA l r.aP).map bR).length),hW 5,hH (.kX 3),rp 3 (oO (QgH bR l r.aP)),rp 4 (oO (Eq.refl ((HA l r.aP).map bR).length)),cC (yp h3),nL bR r.aP,cC (Ca h4)] (Ip Γ rv h9 ?_);rcases h with⟨dN,h⟩|⟨dN,h⟩
  ·cases h;exact gr 7 [] [nF dN]
  ·cases h;exact gr 6 [] [nT dN,hW 6,hH (.fW 0 2 4)]
def A0(Γ:bn)(rv:Bool)(cf:Cf):Prop:=Go prog f195 [] Γ (one (.bool rv)) [] cf
def GM(Γ:bn)(rv:Bool)(l:List ab)(di i:Int):Prop:=A0 Γ rv ⟨[.c 52,.l 52,.b 0,.c 7],⟨22,[vL 0 2 l ab.enc,vI 1 di,vI 5 i],[]⟩⟩
def Fe(Γ:bn)(rv:Bool)(l:List ab)(di:Int):Prop:=A0 Γ rv ⟨[.c 7],⟨22,[],[]⟩⟩
theorem Ff(Γ:bn)(rv:Bool){l di}:∀⦃s:Int⦄ ⦃e:(Unit)⊕(Bool)⦄,aK (fun s=>gW l di s) s=some e→jf e (fun e=>Fe Γ rv l di) (fun e=>e=rv)→GM Γ rv l di s:=by
 refine bk ?_
 intro i z_ h hI hE;simp only[gW,az,an,aq]at h;rcases h with⟨h0,x0,h1,x1,h2,⟨h3,h⟩|⟨h3,h⟩⟩|⟨h0,h⟩
 ·obtain rfl:=(hE h:_=rv);exact gr 12 [] [bT h0,hH (.draw 11 []),cE ab.enc h1,cE ab.enc h2,bT h3]
 ·exact gn 14 [0,1,5] [] [bT h0,hH (.draw 11 []),cE ab.enc h1,cE ab.enc h2,bF h3] (hI h)
 ·exact gn 5 [] [] [bF h0] (hE h)
theorem lh{l di}{rv:Bool}(h:qU l di=some rv):dF prog 195 [.one (lL 2 l ab.enc),.one (lI di)] [] (one (.bool rv)) []:=by
 refine aU func195 fun Γ=>?_
 simp only[qU,az,an,aq]at h;obtain⟨e0,h4,h⟩:=h;refine gn 7 [0,1,5] [] [] (Ff Γ rv h4 ?_);rcases e0 with e0|r
 ·obtain rfl:=oK h;exact gr 2 [] []
 ·exact oK h
def wU(Γ:bn)(rv:bJ)(cf:Cf):Prop:=Go prog f170 [] Γ (gG [lI rv.iq,lI rv.ee,lI rv.eQ,lI rv.C9]) [] cf
def ze(Γ:bn)(rv:bJ)(x0:ae)(r:ay)(s0:aQ)(x1:ag)(ee eQ i:Int):Prop:=wU Γ rv ⟨[.c 1012,.l 1012,.b 0,.c 127],⟨128,[vP 3 0 6,vP 4 1 4,vP 6 2 4,vP 9 3 4,vI 10 i],[oX 6 30 (ae.enc x0),oX 4 48 (ay.enc r),oX 4 170 [lI 0,lI 0,lI 0,lI 0],oX 4 170 [lI (aY .i64 (aY .i64 x1.pK (m_ .i64 x1.ia s0.cT)) (m_ .i64 x1.ib (dZ .i64 s0.lE x1.bm))),lI ee,lI eQ,lI (m_ .i64 (uw .i64 (dZ .i64 s0.lE x1.bm) 64) (uw .i64 (dZ .i64 s0.lE x1.bm) 64))]]⟩⟩
def yt(Γ:bn)(rv:bJ)(x0:ae)(r:ay)(s0:aQ)(x1:ag)(GQ GY:Int):Prop:=wU Γ rv ⟨[.c 127],⟨128,[vP 6 0 4,vP 9 1 4],[oX 4 170 [lI 0,lI 0,lI 0,lI 0],oX 4 170 [lI (aY .i64 (aY .i64 x1.pK (m_ .i64 x1.ia s0.cT)) (m_ .i64 x1.ib (dZ .i64 s0.lE x1.bm))),lI GQ,lI GY,lI (m_ .i64 (uw .i64 (dZ .i64 s0.lE x1.bm) 64) (uw .i64 (dZ .i64 s0.lE x1.bm) 64))]]⟩⟩
theorem yr(Γ:bn)(rv:bJ){x0 r s0 x1 eQ i x2 Ax}{x:(Int×Int×Int)⊕(Int×Int)}(h:od x0 r s0 x1 eQ i x2 Ax=some x)(hI:∀⦃s:Int×Int×Int⦄,some (.inl s)=some x→ze Γ rv x0 r s0 x1 s.1 s.2.1 s.2.2)(hE:∀⦃e:Int×Int⦄,some (.inr e)=some x→yt Γ rv x0 r s0 x1 e.1 e.2):wU Γ rv ⟨[.c 64807,.b 1,.c 4051,.l 1012,.b 0,.c 127],⟨128,[vP 3 0 6,vP 4 1 4,vP 6 2 4,vP 9 3 4,vI 10 i,vI 11 x2.aL],[oX 6 30 (ae.enc x0),oX 4 48 (ay.enc r),oX 4 170 [lI 0,lI 0,lI 0,lI 0],oX 4 170 [lI (aY .i64 (aY .i64 x1.pK (m_ .i64 x1.ia s0.cT)) (m_ .i64 x1.ib (dZ .i64 s0.lE x1.bm))),lI Ax,lI eQ,lI (m_ .i64 (uw .i64 (dZ .i64 s0.lE x1.bm) 64) (uw .i64 (dZ .i64 s0.lE x1.bm) 64))]]⟩⟩:=by
 simp only[od,az,an,aq]at h;rcases h with⟨x4,dN,⟨gq,⟨gu,h⟩|⟨gu,h⟩⟩|⟨gq,h⟩⟩
 ·exact gn 7 [3,4,6,9,10] [0,1,2,3] [hH (.draw 18 []),cE af.enc dN,rp 4 (bT gq),cE af.enc dN,rp 6 (bT gq),bT gu] (hI h)
 ·exact gn 7 [3,4,6,9,10] [0,1,2,3] [hH (.draw 18 []),cE af.enc dN,rp 4 (bT gq),cE af.enc dN,rp 6 (bT gq),bF gu] (hI h)
 ·exact gn 7 [3,4,6,9,10] [0,1,2,3] [hH (.draw 18 []),cE af.enc dN,rp 10 (bF gq),fF] (hI h)
theorem GL(Γ:bn)(rv:bJ){x0 r s0 x1}:∀⦃s:Int×Int×Int⦄ ⦃e:Int×Int⦄,aK (fun s=>gJ x0 r s0 x1 s.1 s.2.1 s.2.2) s=some e→yt Γ rv x0 r s0 x1 e.1 e.2→ze Γ rv x0 r s0 x1 s.1 s.2.1 s.2.2:=by
 refine bk ?_
 rintro⟨ee,eQ,i⟩ z_ h hI hE;simp only[gJ,az,an,aq]at h;rcases h with⟨h2,x2,h3,⟨h4,h⟩|⟨h4,r1,h5,⟨h6,x3,h7,⟨h8,⟨h9,h⟩|⟨h9,h⟩⟩|⟨h8,⟨ij,⟨kH,h⟩|⟨kH,h⟩⟩|⟨ij,h⟩⟩⟩|⟨h6,h⟩⟩⟩|⟨h2,h⟩
 ·exact gn 16 [3,4,6,9,10] [0,1,2,3] [nL ab.enc r.ar,bT h2,cE ab.enc h3,rp 4 hP,rp 2 (oI ((aT x2.aL 0)=false)),nL af.enc x0.ah,hP,hP,rp 2 (oI ((aT x2.aL 0)=false)),oR True ((aT x2.aL 0)=false),rp 6 (bT h4),tT] (hI h)
 ·exact gn 19 [3,4,6,9,10,11] [0,1,2,3] [nL ab.enc r.ar,bT h2,cE ab.enc h3,rp 4 hP,rp 2 (oI ((aT x2.aL 0)=false)),nL af.enc x0.ah,hP,hP,rp 2 (oI ((aT x2.aL 0)=false)),oR True ((aT x2.aL 0)=false),rp 4 (bF h4),cC (lh h5),bF h4,bF h4,nF h6,hH (.draw 18 []),cE af.enc h7,rp 4 (bT h8),cE af.enc h7,rp 6 (bT h8),bT h9] (yr Γ rv h hI hE)
 ·exact gn 19 [3,4,6,9,10,11] [0,1,2,3] [nL ab.enc r.ar,bT h2,cE ab.enc h3,rp 4 hP,rp 2 (oI ((aT x2.aL 0)=false)),nL af.enc x0.ah,hP,hP,rp 2 (oI ((aT x2.aL 0)=false)),oR True ((aT x2.aL 0)=false),rp 4 (bF h4),cC (lh h5),bF h4,bF h4,nF h6,hH (.draw 18 []),cE af.enc h7,rp 4 (bT h8),cE af.enc h7,rp 6 (bT h8),bF h9] (yr Γ rv h hI hE)
 ·exact gn 26 [3,4,6,9,10] [0,1,2,3] [nL ab.enc r.ar,bT h2,cE ab.enc h3,rp 4 hP,rp 2 (oI ((aT x2.aL 0)=false)),nL af.enc x0.ah,hP,hP,rp 2 (oI ((aT x2.aL 0)=false)),oR True ((aT x2.aL 0)=false),rp 4 (bF h4),cC (lh h5),bF h4,bF h4,nF h6,hH (.draw 18 []),cE af.enc h7,rp 10 (bF h8),fF,hH (.draw 18 []),cE af.enc h7,rp 4 (bT ij),cE af.enc h7,rp 6 (bT ij),bT kH] (hI h)
 ·exact gn 26 [3,4,6,9,10] [0,1,2,3] [nL ab.enc r.ar,bT h2,cE ab.enc h3,rp 4 hP,rp 2 (oI ((aT x2.aL 0)=false)),nL af.enc x0.ah,hP,hP,rp 2 (oI ((aT x2.aL 0)=false)),oR True ((aT x2.aL 0)=false),rp 4 (bF h4),cC (lh h5),bF h4,bF h4,nF h6,hH (.draw 18 []),cE af.enc h7,rp 10 (bF h8),fF,hH (.draw 18 []),cE af.enc h7,rp 4 (bT ij),cE af.enc h7,rp 6 (bT ij),bF kH] (hI h)
 ·exact gn 26 [3,4,6,9,10] [0,1,2,3] [nL ab.enc r.ar,bT h2,cE ab.enc h3,rp 4 hP,rp 2 (oI ((aT x2.aL 0)=false)),nL af.enc x0.ah,hP,hP,rp 2 (oI ((aT x2.aL 0)=false)),oR True ((aT x2.aL 0)=false),rp 4 (bF h4),cC (lh h5),bF h4,bF h4,nF h6,hH (.draw 18 []),cE af.enc h7,rp 10 (bF h8),fF,hH (.draw 18 []),cE af.enc h7,rp 10 (bF ij),fF] (hI h)
 ·exact gn 16 [3,4,6,9,10] [0,1,2,3] [nL ab.enc r.ar,bT h2,cE ab.enc h3,rp 4 hP,rp 2 (oI ((aT x2.aL 0)=false)),nL af.enc x0.ah,hP,hP,rp 2 (oI ((aT x2.aL 0)=false)),oR True ((aT x2.aL 0)=false),rp 4 (bF h4),cC (lh h5),bF h4,bF h4,nT h6] (hI h)
 ·exact gn 5 [6,9] [2,3] [nL ab.enc r.ar,bF h2] (hE h)
theorem Lt{x0 r s0}{rv:bJ}(h:rZ x0 r s0=some rv):dF prog 170 [.agg (ae.enc x0),.agg (ay.enc r),.agg (aQ.enc s0)] [] (gG [lI rv.iq,lI rv.ee,lI rv.eQ,lI rv.C9]) []:=by
 refine aU func170 fun Γ=>?_
 simp only[rZ,az,an,aq]at h;rcases h with⟨h0,h⟩|⟨h0,x1,h1,⟨GQ,GY⟩,nk,h⟩
 ·cases h;exact gr 8 [] [rp 5 hP,rp 3 (oI ((aT r.aR 0)=false)),nL ag.enc x0.types,hP,hP,rp 2 (oI ((aT r.aR 0)=false)),oR True ((aT r.aR 0)=false),bT h0]
 ·refine gn 18 [3,4,6,9,10] [0,1,3,5] [rp 5 hP,rp 3 (oI ((aT r.aR 0)=false)),nL ag.enc x0.types,hP,hP,rp 2 (oI ((aT r.aR 0)=false)),oR True ((aT r.aR 0)=false),bF h0,cE ag.enc h1,rp 2 (oO (oA (n:=64)))] (GL Γ rv nk ?_);cases h;exact gr 2 [] []
def zf(Γ:bn)(rv:aQ×bJ×Int)(cf:Cf):Prop:=Go prog f132 [] Γ (.o5 [.agg [.bool rv.1.de,lI rv.1.cF,lL 4 rv.1.je aX.enc,lI rv.1.lE,lI rv.1.cT],.agg [lI rv.2.1.iq,lI rv.2.1.ee,lI rv.2.1.eQ,lI rv.2.1.C9],.one (lI rv.2.2)]) [] cf
def Eh(Γ:bn)(rv:aQ×bJ×Int)(x0:ae)(r:ay)(i:Int):Prop:=zf Γ rv ⟨[.c 244,.l 244,.b 0,.c 31],⟨85,[vP 2 0 6,vP 3 1 4,vP 4 2 5,vP 5 3 4,vI 8 i],[oX 6 30 (ae.enc x0),oX 4 48 (ay.enc r),oX 5 168 [.bool false,lI 0,.dO,lI 0,lI 0],oX 4 170 [lI 0,lI 0,lI 0,lI 0]]⟩⟩
def C3(Γ:bn)(rv:aQ×bJ×Int)(x0:ae)(r:ay):Prop:=zf Γ rv ⟨[.c 31],⟨85,[vP 2 0 6,vP 3 1 4,vP 4 2 5,vP 5 3 4],[oX 6 30 (ae.enc x0),oX 4 48 (ay.enc r),oX 5 168 [.bool false,lI 0,.dO,lI 0,lI 0],oX 4 170 [lI 0,lI 0,lI 0,lI 0]]⟩⟩
theorem C4(Γ:bn)(rv:aQ×bJ×Int){x0 r}:∀⦃s:Int⦄ ⦃e:(Unit)⊕(aQ×bJ×Int)⦄,aK (fun s=>fG x0 r s) s=some e→jf e (fun e=>C3 Γ rv x0 r) (fun e=>e=rv)→Eh Γ rv x0 r s:=by
 refine bk ?_
 intro i z_ h hI hE;simp only[fG,az,an,aq]at h;rcases h with⟨h3,x1,h4,x2,h5,x3,h6,r2,h7,⟨h8,h⟩|⟨h8,h⟩⟩|⟨h3,h⟩
 ·exact gn 14 [2,3,4,5,8] [0,1,2,3] [nL ab.enc r.ar,bT h3,hH (.draw 19 []),cE ag.enc h4,cE ab.enc h5,cE af.enc h6,cC (B1 h7),nF h8] (hI h)
 ·obtain rfl:=(hE h:_=rv);exact gr 12 [] [nL ab.enc r.ar,bT h3,hH (.draw 19 []),cE ag.enc h4,cE ab.enc h5,cE af.enc h6,cC (B1 h7),nT h8,hW 7,hH (.fW 2 2 4)]
 ·exact gn 5 [2,3,4,5] [0,1,2,3] [nL ab.enc r.ar,bF h3] (hE h)
theorem s4{x0 r}{rv:aQ×bJ×Int}(h:kb x0 r=some rv):dF prog 132 [.agg (ae.enc x0),.agg (ay.enc r)] [] (.o5 [.agg [.bool rv.1.de,lI rv.1.cF,lL 4 rv.1.je aX.enc,lI rv.1.lE,lI rv.1.cT],.agg [lI rv.2.1.iq,lI rv.2.1.ee,lI rv.2.1.eQ,lI rv.2.1.C9],.one (lI rv.2.2)]) []:=by
 refine aU func132 fun Γ=>?_
 simp only[kb,az,an,aq]at h;rcases h with⟨h0,h⟩|⟨h0,r1,h1,⟨h2,h⟩|⟨h2,e0,h9,h⟩⟩
 ·cases h;exact gr 8 [] [rp 5 hP,rp 3 (oI ((aT r.aR 0)=false)),nL ag.enc x0.types,hP,hP,rp 2 (oI ((aT r.aR 0)=false)),oR True ((aT r.aR 0)=false),bT h0,hW 7,hH (.fW 2 2 4)]
 ·cases h;exact gr 15 [] [rp 5 hP,rp 3 (oI ((aT r.aR 0)=false)),nL ag.enc x0.types,hP,hP,rp 2 (oI ((aT r.aR 0)=false)),oR True ((aT r.aR 0)=false),bF h0,cC (rG h1),bT h2,hW 8,hH (.fW 2 2 4)]
 ·refine gn 19 [2,3,4,5,8] [0,1,2,3] [rp 5 hP,rp 3 (oI ((aT r.aR 0)=false)),nL ag.enc x0.types,hP,hP,rp 2 (oI ((aT r.aR 0)=false)),oR True ((aT r.aR 0)=false),bF h0,cC (rG h1),bF h2] (C4 Γ rv h9 ?_);rcases e0 with e0|r6
  ·simp only[en,az,an,aq]at h;rcases h with⟨r3,dN,⟨gq,h⟩|⟨gq,r4,gu,⟨ij,h⟩|⟨ij,r5,kH,h⟩⟩⟩
   ·cases h;exact gr 8 [] [cC (wT dN),bT gq,hW 8,hH (.fW 2 2 4)]
   ·cases h;exact gr 15 [] [cC (wT dN),bF gq,cC (B_ gu),bT ij,hW 8,hH (.fW 2 2 4)]
   ·cases h;exact gr 16 [] [cC (wT dN),bF gq,cC (B_ gu),bF ij,hH (.draw 5 []),cC (Lt kH)]
  ·exact oK h
theorem oe{x0 r}{rv:Int}(h:r_ x0 r=some rv):dF prog 104 [.agg (ae.enc x0),.agg (ay.enc r)] [] (one (lI rv)) []:=by
 refine aU func104 fun Γ=>?_
 simp only[r_,az,an,aq]at h;obtain⟨r1,h0,h⟩:=h;cases h;exact gr 6 [] [cC (s4 h0)]
theorem AZ{s0}{rv:Bool}(h:vg s0=some rv):dF prog 171 [.agg (bJ.enc s0)] [] (one (.bool rv)) []:=by
 refine aU func171 fun Γ=>?_
 simp only[vg,az,an,aq]at h;cases h;exact gr 4 [] [rp 28 hP,rp 2 (oI ((bZ s0.iq 0)=true)),oR True ((bZ s0.iq 0)=true),rp 2 (oI (((bZ s0.iq 0)&&(jD s0.iq 1073741824))=true)),oR True (((bZ s0.iq 0)&&(jD s0.iq 1073741824))=true),rp 2 (oI ((((bZ s0.iq 0)&&(jD s0.iq 1073741824))&&(bZ s0.ee 0))=true)),oR True ((((bZ s0.iq 0)&&(jD s0.iq 1073741824))&&(bZ s0.ee 0))=true),rp 2 (oI (((((bZ s0.iq 0)&&(jD s0.iq 1073741824))&&(bZ s0.ee 0))&&(jD s0.ee 15))=true)),oR True (((((bZ s0.iq 0)&&(jD s0.iq 1073741824))&&(bZ s0.ee 0))&&(jD s0.ee 15))=true),rp 2 (oI ((((((bZ s0.iq 0)&&(jD s0.iq 1073741824))&&(bZ s0.ee 0))&&(jD s0.ee 15))&&(bZ s0.eQ 0))=true)),oR True ((((((bZ s0.iq 0)&&(jD s0.iq 1073741824))&&(bZ s0.ee 0))&&(jD s0.ee 15))&&(bZ s0.eQ 0))=true),rp 2 (oI (((((((bZ s0.iq 0)&&(jD s0.iq 1073741824))&&(bZ s0.ee 0))&&(jD s0.ee 15))&&(bZ s0.eQ 0))&&(jD s0.eQ 15))=true)),oR True (((((((bZ s0.iq 0)&&(jD s0.iq 1073741824))&&(bZ s0.ee 0))&&(jD s0.ee 15))&&(bZ s0.eQ 0))&&(jD s0.eQ 15))=true),rp 2 (oI ((((((((bZ s0.iq 0)&&(jD s0.iq 1073741824))&&(bZ s0.ee 0))&&(jD s0.ee 15))&&(bZ s0.eQ 0))&&(jD s0.eQ 15))&&(bZ s0.C9 0))=true)),oR True ((((((((bZ s0.iq 0)&&(jD s0.iq 1073741824))&&(bZ s0.ee 0))&&(jD s0.ee 15))&&(bZ s0.eQ 0))&&(jD s0.eQ 15))&&(bZ s0.C9 0))=true)]
theorem JR{s0}{rv:Int×Int}(h:qT s0=some rv):dF prog 133 [.agg (bJ.enc s0)] [] (.o5 [.one (lI rv.1),.one (lI rv.2)]) []:=by
 refine aU func133 fun Γ=>?_
 simp only[qT,az,an,aq]at h;rcases h with⟨h0,h⟩|⟨h0,r,h1,⟨h2,h⟩|⟨h2,h⟩⟩
 ·cases h;exact gr 8 [] [rp 12 hP,rp 2 (oI ((aT s0.iq 0)=false)),oR True ((aT s0.iq 0)=false),rp 2 (oI (((aT s0.iq 0)||(aT s0.ee 0))=false)),oR True (((aT s0.iq 0)||(aT s0.ee 0))=false),rp 2 (oI ((((aT s0.iq 0)||(aT s0.ee 0))||(aT s0.eQ 0))=false)),oR True ((((aT s0.iq 0)||(aT s0.ee 0))||(aT s0.eQ 0))=false),bT h0]
 ·cases h;exact gr 14 [] [rp 12 hP,rp 2 (oI ((aT s0.iq 0)=false)),oR True ((aT s0.iq 0)=false),rp 2 (oI (((aT s0.iq 0)||(aT s0.ee 0))=false)),oR True (((aT s0.iq 0)||(aT s0.ee 0))=false),rp 2 (oI ((((aT s0.iq 0)||(aT s0.ee 0))||(aT s0.eQ 0))=false)),oR True ((((aT s0.iq 0)||(aT s0.ee 0))||(aT s0.eQ 0))=false),bF h0,cC (AZ h1),nF h2]
 ·cases h;exact gr 13 [] [rp 12 hP,rp 2 (oI ((aT s0.iq 0)=false)),oR True ((aT s0.iq 0)=false),rp 2 (oI (((aT s0.iq 0)||(aT s0.ee 0))=false)),oR True (((aT s0.iq 0)||(aT s0.ee 0))=false),rp 2 (oI ((((aT s0.iq 0)||(aT s0.ee 0))||(aT s0.eQ 0))=false)),oR True ((((aT s0.iq 0)||(aT s0.ee 0))||(aT s0.eQ 0))=false),bF h0,cC (AZ h1),nT h2]
theorem rH{x0 r}{rv:Int×Int}(h:ph x0 r=some rv):dF prog 105 [.agg (ae.enc x0),.agg (ay.enc r)] [] (.o5 [.one (lI rv.1),.one (lI rv.2)]) []:=by
 refine aU func105 fun Γ=>?_
 simp only[ph,az,an,aq]at h;rcases h with⟨r1,h0,⟨h1,h⟩|⟨h1,r2,h2,h⟩⟩
 ·cases h;exact gr 10 [] [cC (s4 h0),bT h1]
 ·cases h;exact gr 11 [] [cC (s4 h0),bF h1,cC (JR h2)]
theorem Lr{a b}{rv:Bool}(h:vf a b=some rv):dF prog 172 [.agg (ab.enc a),.agg (ab.enc b)] [] (one (.bool rv)) []:=by
 refine aU func172 fun Γ=>?_
 simp only[vf,az,an,aq]at h;cases h;exact gr 4 [] [rp 17 hP,rp 5 (oI ((aT a.aL b.aL)=false)),rp 2 (oI (((aT a.aL b.aL)=false)∧(bP a.aL b.aL)=true)),oI ((aT a.aL b.aL)=false),oI (((aT a.aL b.aL)=false)∧(bP a.aL b.aL)=true),oI ((aT a.aL b.aL)=false),oI (((aT a.aL b.aL)=false)∧((bP a.aL b.aL)&&(!a.drop))=true),oI ((aT a.aL b.aL)=false),oI (((aT a.aL b.aL)=false)∧((bP a.aL b.aL)&&(!a.drop))=true),oR True ((aT a.aL b.aL)=false)]
def Dq(Γ:bn)(rv:Bool)(cf:Cf):Prop:=Go prog f134 [] Γ (one (.bool rv)) [] cf
def JJ(Γ:bn)(rv:Bool)(a b:List ab)(i:Int):Prop:=Dq Γ rv ⟨[.c 52,.l 52,.b 0,.c 7],⟨41,[vL 0 2 a ab.enc,vL 1 2 b ab.enc,vI 5 i],[]⟩⟩
def H8(Γ:bn)(rv:Bool)(a b:List ab):Prop:=Dq Γ rv ⟨[.c 7],⟨41,[vL 0 2 a ab.enc,vL 1 2 b ab.enc],[]⟩⟩
theorem H9(Γ:bn)(rv:Bool){a b}:∀⦃s:Int⦄ ⦃e:(Unit)⊕(Bool)⦄,aK (fun s=>jo a b s) s=some e→jf e (fun e=>H8 Γ rv a b) (fun e=>e=rv)→JJ Γ rv a b s:=by
 refine bk ?_
 intro i z_ h hI hE;simp only[jo,az,an,aq]at h;rcases h with⟨h0,x0,h1,x1,h2,⟨h3,h⟩|⟨h3,r,h4,h⟩⟩|⟨h0,h⟩
 ·exact gn 14 [0,1,5] [] [nL ab.enc a,hP,hP,hP,oI ((aT i (aC a))=true),nL ab.enc b,hP,hP,rp 2 (oI ((aT i (aC a))=true)),oR True ((aT i (aC a))=true),bT h0,hH (.draw 9 []),cE ab.enc h1,cE ab.enc h2,nF h3] (hI h)
 ·obtain rfl:=(hE h:_=rv);exact gr 12 [] [nL ab.enc a,hP,hP,hP,oI ((aT i (aC a))=true),nL ab.enc b,hP,hP,rp 2 (oI ((aT i (aC a))=true)),oR True ((aT i (aC a))=true),bT h0,hH (.draw 9 []),cE ab.enc h1,cE ab.enc h2,nT h3,hH (.draw 10 []),cE ab.enc h1,cE ab.enc h2,cC (Lr h4)]
 ·exact gn 5 [0,1] [] [nL ab.enc a,hP,hP,hP,oI ((aT i (aC a))=true),nL ab.enc b,hP,hP,rp 2 (oI ((aT i (aC a))=true)),oR True ((aT i (aC a))=true),bF h0] (hE h)
theorem ML{a b}{rv:Bool}(h:tu a b=some rv):dF prog 134 [.one (lL 2 a ab.enc),.one (lL 2 b ab.enc)] [] (one (.bool rv)) []:=by
 refine aU func134 fun Γ=>?_
 simp only[tu,az,an,aq]at h;obtain⟨e0,h5,h⟩:=h;refine gn 7 [0,1,5] [] [] (H9 Γ rv h5 ?_);rcases e0 with e0|r1
 ·cases h;exact gr 2 [] [nL ab.enc a,nL ab.enc b]
 ·exact oK h
theorem Ad{a b}{rv:Bool}(h:nK a b=some rv):dF prog 106 [.agg (al.enc a),.agg (al.enc b)] [] (one (.bool rv)) []:=by
 refine aU func106 fun Γ=>?_
 simp only[nK,az,an,aq]at h;rcases h with⟨h0,h⟩|⟨h0,r,h1,h⟩
 ·cases h;exact gr 8 [] [bT h0]
 ·obtain rfl:=oK h;exact gr 9 [] [bF h0,cC (ML h1)]
def A2(Γ:bn)(rv:al×Bool)(cf:Cf):Prop:=Go prog f71 [] Γ (.o5 [.agg [lI rv.1.aR,lI rv.1.ba,lI rv.1.eR,lI rv.1.bH.aR,lI rv.1.bH.aH,lL 1 rv.1.bH.aP bR,lL 2 rv.1.bH.ar ab.enc],.one (.bool rv.2)]) [] cf
def GP(Γ:bn)(rv:al×Bool)(self:ae→al→Bool→(List ab)→Option (al×Bool))(x0:ae)(l r:List ab)(x1:al)(DZ:Bool)(i:Int):Prop:=A2 Γ rv ⟨[.c 244,.l 244,.b 0,.c 31],⟨100,[vB 2 DZ,vL 3 2 l ab.enc,vP 4 0 6,vP 5 1 7,vP 8 2 7,vL 10 2 r ab.enc,vI 16 i],[oX 6 30 (ae.enc x0),oX 7 50 (al.enc x1),oX 7 50 [lI 0,lI 0,lI 0,lI 0,lI 0,.dO,.dO]]⟩⟩
def Fi(Γ:bn)(rv:al×Bool)(self:ae→al→Bool→(List ab)→Option (al×Bool))(x0:ae)(l r:List ab)(x3:al)(FT:Bool):Prop:=A2 Γ rv ⟨[.c 31],⟨100,[vB 2 FT,vP 5 0 7,vP 8 1 7],[oX 7 50 (al.enc x3),oX 7 50 [lI 0,lI 0,lI 0,lI 0,lI 0,.dO,.dO]]⟩⟩
theorem Fj(Γ:bn)(rv:al×Bool){self:ae→al→Bool→(List ab)→Option (al×Bool)}(AL:∀{x0:ae} {dW:al} {fZ:Bool} {l:List ab} {rv:al×Bool},self x0 dW fZ l=some rv→dF prog 71 [.agg (ae.enc x0),.agg (al.enc dW),.one (.bool fZ),.one (lL 2 l ab.enc)] [] (.o5 [.agg [lI rv.1.aR,lI rv.1.ba,lI rv.1.eR,lI rv.1.bH.aR,lI rv.1.bH.aH,lL 1 rv.1.bH.aP bR,lL 2 rv.1.bH.ar ab.enc],.one (.bool rv.2)]) []){x0 l r}:∀⦃s:al×Bool×Int⦄ ⦃e:al×Bool⦄,aK (fun s=>nw self x0 l r s.1 s.2.1 s.2.2) s=some e→Fi Γ rv self x0 l r e.1 e.2→GP Γ rv self x0 l r s.1 s.2.1 s.2.2:=by
 refine bk ?_
 rintro⟨x1,DZ,i⟩ z_ h hI hE;simp only[nw,az,an,aq]at h;rcases h with⟨gq,gu,x2,ij,kH,r5,nk,h⟩|⟨gq,h⟩
 ·exact gn 15 [2,3,4,5,8,10,16] [0,1,2] [nL ab.enc r,bT gq,aZ ab.enc gu,cE ab.enc ij,oO (Eq.refl ([x2].map ab.enc).length),aO ab.enc kH,hW 6,hH (.kX 5),rp 3 (oO (Eq.refl ((l++[x2]).map ab.enc).length)),cC (AL nk)] (hI h)
 ·exact gn 5 [2,5,8] [1,2] [nL ab.enc r,bF gq] (hE h)
theorem GO{self:ae→al→Bool→(List ab)→Option (al×Bool)}(AL:∀{x0:ae} {dW:al} {fZ:Bool} {l:List ab} {rv:al×Bool},self x0 dW fZ l=some rv→dF prog 71 [.agg (ae.enc x0),.agg (al.enc dW),.one (.bool fZ),.one (lL 2 l ab.enc)] [] (.o5 [.agg [lI rv.1.aR,lI rv.1.ba,lI rv.1.eR,lI rv.1.bH.aR,lI rv.1.bH.aH,lL 1 rv.1.bH.aP bR,lL 2 rv.1.bH.ar ab.enc],.one (.bool rv.2)]) []){x0 dW fZ l}{rv:al×Bool}(h:og self x0 dW fZ l=some rv):dF prog 71 [.agg (ae.enc x0),.agg (al.enc dW),.one (.bool fZ),.one (lL 2 l ab.enc)] [] (.o5 [.agg [lI rv.1.aR,lI rv.1.ba,lI rv.1.eR,lI rv.1.bH.aR,lI rv.1.bH.aH,lL 1 rv.1.bH.aP bR,lL 2 rv.1.bH.ar ab.enc],.one (.bool rv.2)]) []:=by
 refine aU func71 fun Γ=>?_
 simp only[og,az,an,aq]at h;rcases h with⟨r,h0,⟨h1,r1,h2,⟨h3,h⟩|⟨h3,r2,h4,⟨h5,h⟩|⟨h5,r3,h6,⟨h7,h⟩|⟨h7,⟨h8,r4,h9,⟨dN,h⟩|⟨dN,h⟩⟩|⟨h8,h⟩⟩⟩⟩⟩|⟨h1,⟨x3,FT⟩,pc,h⟩⟩
 ·cases h;exact gr 20 [] [cC (kV h0),nL ab.enc r,bT h1,hW 17,hH (.rh 34 2 1),cC (gQ h2),rp 6 (bT h3),tT]
 ·cases h;exact gr 20 [] [cC (kV h0),nL ab.enc r,bT h1,hW 17,hH (.rh 34 2 1),cC (gQ h2),rp 3 (bF h3),hH (.rh 45 2 1),bF h3,cC (oe h4),bF h3,bF h3,bT h5]
 ·cases h;exact gr 29 [] [cC (kV h0),nL ab.enc r,bT h1,hW 17,hH (.rh 34 2 1),cC (gQ h2),rp 3 (bF h3),hH (.rh 45 2 1),bF h3,cC (oe h4),bF h3,bF h3,bF h5,hW 6,hH (.rh 54 2 1),cC (rH h6),bT h7,bT h7,rp 4 kF,bT h7,bT h7,tT]
 ·cases h;exact gr 30 [] [cC (kV h0),nL ab.enc r,bT h1,hW 17,hH (.rh 34 2 1),cC (gQ h2),rp 3 (bF h3),hH (.rh 45 2 1),bF h3,cC (oe h4),bF h3,bF h3,bF h5,hW 6,hH (.rh 54 2 1),cC (rH h6),bF h7,bF h7,bT h8,bT h8,hH (.rh 65 5 1),bT h8,cC (Ad h9),bT h8,bF h7,bT h8,bF h7,nF dN,hW 6,hH (.fW 2 5 1)]
 ·cases h;exact gr 29 [] [cC (kV h0),nL ab.enc r,bT h1,hW 17,hH (.rh 34 2 1),cC (gQ h2),rp 3 (bF h3),hH (.rh 45 2 1),bF h3,cC (oe h4),bF h3,bF h3,bF h5,hW 6,hH (.rh 54 2 1),cC (rH h6),bF h7,bF h7,bT h8,bT h8,hH (.rh 65 5 1),bT h8,cC (Ad h9),bT h8,bF h7,bT h8,bF h7,nT dN]
 ·cases h;exact gr 30 [] [cC (kV h0),nL ab.enc r,bT h1,hW 17,hH (.rh 34 2 1),cC (gQ h2),rp 3 (bF h3),hH (.rh 45 2 1),bF h3,cC (oe h4),bF h3,bF h3,bF h5,hW 6,hH (.rh 54 2 1),cC (rH h6),bF h7,bF h7,rp 4 (bF h8),bF h7,bF h8,bF h7,fF,hW 6,hH (.fW 2 5 1)]
 ·refine gn 14 [2,3,4,5,8,10,16] [0,1,2] [cC (kV h0),nL ab.enc r,bF h1] (Fj Γ rv AL pc ?_);cases h;exact gr 2 [] []
theorem zg:∀zZ,∀{x0:ae} {dW:al} {fZ:Bool} {l:List ab} {rv:al×Bool},ke zZ x0 dW fZ l=some rv→dF prog 71 [.agg (ae.enc x0),.agg (al.enc dW),.one (.bool fZ),.one (lL 2 l ab.enc)] [] (.o5 [.agg [lI rv.1.aR,lI rv.1.ba,lI rv.1.eR,lI rv.1.bH.aR,lI rv.1.bH.aH,lL 1 rv.1.bH.aP bR,lL 2 rv.1.bH.ar ab.enc],.one (.bool rv.2)]) []
 |0=>fun h=>nomatch h
 |zZ+1=>fun h=>GO (zg zZ) h
theorem Ae:∀{x0:ae} {dW:al} {fZ:Bool} {l:List ab} {rv:al×Bool},yu x0 dW fZ l=some rv→dF prog 71 [.agg (ae.enc x0),.agg (al.enc dW),.one (.bool fZ),.one (lL 2 l ab.enc)] [] (.o5 [.agg [lI rv.1.aR,lI rv.1.ba,lI rv.1.eR,lI rv.1.bH.aR,lI rv.1.bH.aH,lL 1 rv.1.bH.aP bR,lL 2 rv.1.bH.ar ab.enc],.one (.bool rv.2)]) []:=zg _
theorem Cc{x0 kind ba}{rv:al×Int}(h:tB x0 kind ba=some rv):dF prog 45 [.agg (ae.enc x0),.one (lI kind),.one (lI ba)] [] (.o5 [.agg [lI rv.1.aR,lI rv.1.ba,lI rv.1.eR,lI rv.1.bH.aR,lI rv.1.bH.aH,lL 1 rv.1.bH.aP bR,lL 2 rv.1.bH.ar ab.enc],.one (lI rv.2)]) []:=by
 refine aU func45 fun Γ=>?_
 simp only[tB,az,an,aq]at h;rcases h with⟨h0,h⟩|⟨h0,r,h1,⟨h2,r1,h3,⟨h4,h⟩|⟨h4,h⟩⟩|⟨h2,h⟩⟩
 ·cases h;exact gr 8 [] [rp 4 hP,rp 2 (oI ((aT kind 0)=false)),nL ag.enc x0.types,hP,hP,rp 2 (oI ((aT kind 0)=false)),oR True ((aT kind 0)=false),rp 5 (bT h0),tT,hW 5,hH (.fW 1 5 1),hH (.fW 1 6 2)]
 ·cases h;exact gr 16 [] [rp 4 hP,rp 2 (oI ((aT kind 0)=false)),nL ag.enc x0.types,hP,hP,rp 2 (oI ((aT kind 0)=false)),oR True ((aT kind 0)=false),rp 3 (bF h0),cC (uP h1),bF h0,bF h0,nF h2,hW 7,hH (.rh 30 5 1),hH (.rh 30 6 2),cC (dF.Qi9 3 2 (Ae h3)),nF h4]
 ·cases h;exact gr 15 [] [rp 4 hP,rp 2 (oI ((aT kind 0)=false)),nL ag.enc x0.types,hP,hP,rp 2 (oI ((aT kind 0)=false)),oR True ((aT kind 0)=false),rp 3 (bF h0),cC (uP h1),bF h0,bF h0,nF h2,hW 7,hH (.rh 30 5 1),hH (.rh 30 6 2),cC (dF.Qi9 3 2 (Ae h3)),nT h4,hW 5,hH (.fW 1 5 1),hH (.fW 1 6 2)]
 ·cases h;exact gr 8 [] [rp 4 hP,rp 2 (oI ((aT kind 0)=false)),nL ag.enc x0.types,hP,hP,rp 2 (oI ((aT kind 0)=false)),oR True ((aT kind 0)=false),rp 3 (bF h0),cC (uP h1),bF h0,bF h0,nT h2,hW 5,hH (.fW 1 5 1),hH (.fW 1 6 2)]
def pk(Γ:bn)(rv:List al×Int)(cf:Cf):Prop:=Go prog f20 [] Γ (.o5 [.one (lL 7 rv.1 al.enc),.one (lI rv.2)]) [] cf
def Lu(Γ:bn)(rv:List al×Int)(x0:ae)(Qhf i:Int):Prop:=pk Γ rv ⟨[.c 116,.l 116,.b 0,.c 15],⟨50,[vP 1 0 6,vI 4 Qhf,vI 5 i],[oX 6 30 (ae.enc x0)]⟩⟩
def JS(Γ:bn)(rv:List al×Int)(x0:ae)(uX:Int):Prop:=pk Γ rv ⟨[.c 15],⟨50,[vP 1 0 6,vI 4 uX],[oX 6 30 (ae.enc x0)]⟩⟩
def Lw(Γ:bn)(rv:List al×Int)(x0:ae)(uX:Int)(l:List al)(kind:Int)(l1:List al)(ba:Int):Prop:=pk Γ rv ⟨[.c 32036,.l 32036,.b 4,.b 3,.c 2003,.l 500,.b 2,.c 63],⟨50,[vP 1 0 6,vI 4 uX,vO 6 1 7 l1 al.enc,vI 7 kind,vI 8 ba],[oX 6 30 (ae.enc x0),oS 7 50 l1 al.enc]⟩⟩
def JW(Γ:bn)(rv:List al×Int)(x0:ae)(uX:Int)(l:List al)(kind:Int)(l2:List al):Prop:=pk Γ rv ⟨[.b 3,.c 2003,.l 500,.b 2,.c 63],⟨50,[vP 1 0 6,vI 4 uX,vO 6 1 7 l2 al.enc,vI 7 kind],[oX 6 30 (ae.enc x0),oS 7 50 l2 al.enc]⟩⟩
def Lv(Γ:bn)(rv:List al×Int)(x0:ae)(uX:Int)(l:List al)(kind:Int):Prop:=pk Γ rv ⟨[.c 500,.l 500,.b 2,.c 63],⟨50,[vP 1 0 6,vI 4 uX,vO 6 1 7 l al.enc,vI 7 kind],[oX 6 30 (ae.enc x0),oS 7 50 l al.enc]⟩⟩
def JU(Γ:bn)(rv:List al×Int)(x0:ae)(uX:Int)(l3:List al):Prop:=pk Γ rv ⟨[.c 63],⟨50,[vO 6 0 7 l3 al.enc],[oS 7 50 l3 al.enc]⟩⟩
theorem JT(Γ:bn)(rv:List al×Int){x0}:∀⦃s:Int×Int⦄ ⦃e:Int⦄,aK (fun s=>iW x0 s.1 s.2) s=some e→JS Γ rv x0 e→Lu Γ rv x0 s.1 s.2:=by
 refine bk ?_
 rintro⟨Qhf,i⟩ z_ h hI hE;simp only[iW,az,an,aq]at h;rcases h with⟨h0,h⟩|⟨h0,h⟩
 ·exact gn 11 [1,4,5] [0] [nL af.enc x0.ah,hP,hP,hP,oI ((aT i (aC x0.ah))=true),oR True ((aT i (aC x0.ah))=true),bT h0] (hI h)
 ·exact gn 5 [1,4] [0] [nL af.enc x0.ah,hP,hP,hP,oI ((aT i (aC x0.ah))=true),oR True ((aT i (aC x0.ah))=true),bF h0] (hE h)
theorem JX(Γ:bn)(rv:List al×Int){x0 uX l kind}:∀⦃s:List al×Int⦄ ⦃e:List al⦄,aK (fun s=>kj x0 uX l kind s.1 s.2) s=some e→JW Γ rv x0 uX l kind e→Lw Γ rv x0 uX l kind s.1 s.2:=by
 refine bk ?_
 rintro⟨l1,ba⟩ z_ h hI hE;simp only[kj,az,an,aq]at h;rcases h with⟨h3,r,h4,⟨h5,h6,h⟩|⟨h5,h⟩⟩|⟨h3,h⟩
 ·exact gn 16 [1,4,6,7,8] [0,4] [bT h3,cC (Cc h4),bT h5,oO (Eq.refl ([r.1].map al.enc).length),aO al.enc h6] (hI h)
 ·exact gn 16 [1,4,6,7,8] [0,1] [bT h3,cC (Cc h4),bF h5] (hI h)
 ·exact gn 5 [1,4,6,7] [0,1] [bF h3] (hE h)
theorem JV(Γ:bn)(rv:List al×Int){x0 uX}:∀⦃s:List al×Int⦄ ⦃e:List al⦄,aK (fun s=>iX x0 uX s.1 s.2) s=some e→JU Γ rv x0 uX e→Lv Γ rv x0 uX s.1 s.2:=by
 refine bk ?_
 rintro⟨l,kind⟩ z_ h hI hE;simp only[iX,az,an,aq]at h;rcases h with⟨h2,l2,h7,h⟩|⟨h2,h⟩
 ·refine gn 11 [1,4,6,7,8] [0,1] [nL ag.enc x0.types,bT h2] (JX Γ rv h7 ?_);exact gn 3 [1,4,6,7] [0,1] [] (hI h)
 ·exact gn 5 [6] [1] [nL ag.enc x0.types,bF h2] (hE h)
theorem Du{x0}{rv:List al×Int}(h:sa x0=some rv):dF prog 20 [.agg (ae.enc x0)] [] (.o5 [.one (lL 7 rv.1 al.enc),.one (lI rv.2)]) []:=by
 refine aU func20 fun Γ=>?_
 simp only[sa,az,an,aq]at h;obtain⟨uX,h1,h⟩:=h;refine gn 9 [1,4,5] [0] [] (JT Γ rv h1 ?_);obtain⟨l3,h8,h⟩:=h;refine gn 7 [1,4,6,7] [0,1] [hW 9,hH (.lP 6 7 50)] (JV Γ rv h8 ?_);cases h;exact gr 2 [] [hW 5,hH (.kX 0),rp 3 (eL l3 al.enc)]
def zy(Γ:bn)(rv:Int)(cf:Cf):Prop:=Go prog f21 [] Γ (one (lI rv)) [] cf
def AS(Γ:bn)(rv:Int)(x0:ae)(ba bit i:Int):Prop:=zy Γ rv ⟨[.c 244,.l 244,.b 0,.c 31],⟨30,[vP 1 0 6,vI 3 ba,vI 4 bit,vI 5 i],[oX 6 30 (ae.enc x0)]⟩⟩
def Aa(Γ:bn)(rv:Int)(x0:ae)(Qc2:Int):Prop:=zy Γ rv ⟨[.c 31],⟨30,[vI 3 Qc2],[]⟩⟩
theorem z9(Γ:bn)(rv:Int){x0 bit i tK}{x:(Int×Int×Int)⊕(Int)}(h:um x0 bit i tK=some x)(hI:∀⦃s:Int×Int×Int⦄,some (.inl s)=some x→AS Γ rv x0 s.1 s.2.1 s.2.2)(hE:∀⦃e:Int⦄,some (.inr e)=some x→Aa Γ rv x0 e):zy Γ rv ⟨[.c 3913,.b 1,.c 979,.l 244,.b 0,.c 31],⟨30,[vP 1 0 6,vI 3 tK,vI 4 bit,vI 5 i],[oX 6 30 (ae.enc x0)]⟩⟩:=by
 simp only[um,az,an,aq]at h;exact gn 4 [1,3,4,5] [0] [] (hI h)
theorem JI(Γ:bn)(rv:Int){x0}:∀⦃s:Int×Int×Int⦄ ⦃e:Int⦄,aK (fun s=>yl x0 s.1 s.2.1 s.2.2) s=some e→Aa Γ rv x0 e→AS Γ rv x0 s.1 s.2.1 s.2.2:=by
 refine bk ?_
 rintro⟨ba,bit,i⟩ z_ h hI hE;simp only[yl,az,an,aq]at h;rcases h with⟨h0,x1,h1,⟨h2,h⟩|⟨h2,h⟩⟩|⟨h0,h⟩
 ·exact gn 12 [1,3,4,5] [0] [nL af.enc x0.ah,hP,hP,hP,oI ((aT i (aC x0.ah))=true),oR True ((aT i (aC x0.ah))=true),bT h0,cE af.enc h1,nF h2] (z9 Γ rv h hI hE)
 ·exact gn 12 [1,3,4,5] [0] [nL af.enc x0.ah,hP,hP,hP,oI ((aT i (aC x0.ah))=true),oR True ((aT i (aC x0.ah))=true),bT h0,cE af.enc h1,nT h2] (z9 Γ rv h hI hE)
 ·exact gn 5 [3] [] [nL af.enc x0.ah,hP,hP,hP,oI ((aT i (aC x0.ah))=true),oR True ((aT i (aC x0.ah))=true),bF h0] (hE h)
theorem Oz{x0}{rv:Int}(h:yk x0=some rv):dF prog 21 [.agg (ae.enc x0)] [] (one (lI rv)) []:=by
 refine aU func21 fun Γ=>?_
 simp only[yk,az,an,aq]at h;obtain⟨Qc2,h3,h⟩:=h;refine gn 11 [1,3,4,5] [0] [] (JI Γ rv h3 ?_);obtain rfl:=oK h;exact gr 2 [] []
def Dr(Γ:bn)(rv:Bool)(cf:Cf):Prop:=Go prog f72 [] Γ (one (.bool rv)) [] cf
def JM(Γ:bn)(rv:Bool)(a b:List ab)(i:Int):Prop:=Dr Γ rv ⟨[.c 116,.l 116,.b 0,.c 15],⟨26,[vL 0 2 a ab.enc,vL 1 2 b ab.enc,vI 5 i],[]⟩⟩
def Ie(Γ:bn)(rv:Bool)(a b:List ab):Prop:=Dr Γ rv ⟨[.c 15],⟨26,[],[]⟩⟩
theorem Ig(Γ:bn)(rv:Bool){a b}:∀⦃s:Int⦄ ⦃e:(Unit)⊕(Bool)⦄,aK (fun s=>jr a b s) s=some e→jf e (fun e=>Ie Γ rv a b) (fun e=>e=rv)→JM Γ rv a b s:=by
 refine bk ?_
 intro i z_ h hI hE;simp only[jr,az,an,aq]at h;rcases h with⟨h1,x0,h2,x1,h3,⟨h4,h⟩|⟨h4,h⟩⟩|⟨h1,h⟩
 ·exact gn 14 [0,1,5] [] [nL ab.enc a,bT h1,hH (.draw 9 []),cE ab.enc h2,cE ab.enc h3,nF h4] (hI h)
 ·obtain rfl:=(hE h:_=rv);exact gr 12 [] [nL ab.enc a,bT h1,hH (.draw 9 []),cE ab.enc h2,cE ab.enc h3,nT h4]
 ·exact gn 5 [] [] [nL ab.enc a,bF h1] (hE h)
theorem MM{a b}{rv:Bool}(h:wH a b=some rv):dF prog 72 [.one (lL 2 a ab.enc),.one (lL 2 b ab.enc)] [] (one (.bool rv)) []:=by
 refine aU func72 fun Γ=>?_
 simp only[wH,az,an,aq]at h;rcases h with⟨h0,h⟩|⟨h0,e0,h5,h⟩
 ·obtain rfl:=oK h;exact gr 8 [] [nL ab.enc a,nL ab.enc b,bT h0]
 ·refine gn 12 [0,1,5] [] [nL ab.enc a,nL ab.enc b,bF h0] (Ig Γ rv h5 ?_);rcases e0 with e0|r
  ·obtain rfl:=oK h;exact gr 2 [] []
  ·exact oK h
def Dv(Γ:bn)(rv:Bool)(cf:Cf):Prop:=Go prog f46 [] Γ (one (.bool rv)) [] cf
def JY(Γ:bn)(rv:Bool)(a b:al)(i:Int):Prop:=Dv Γ rv ⟨[.c 116,.l 116,.b 0,.c 15],⟨82,[vP 2 0 7,vP 3 1 7,vI 5 i],[oX 7 50 (al.enc a),oX 7 50 (al.enc b)]⟩⟩
def Is(Γ:bn)(rv:Bool)(a b:al):Prop:=Dv Γ rv ⟨[.c 15],⟨82,[vP 2 0 7,vP 3 1 7],[oX 7 50 (al.enc a),oX 7 50 (al.enc b)]⟩⟩
theorem Iu(Γ:bn)(rv:Bool){a b}:∀⦃s:Int⦄ ⦃e:(Unit)⊕(Bool)⦄,aK (fun s=>ju a b s) s=some e→jf e (fun e=>Is Γ rv a b) (fun e=>e=rv)→JY Γ rv a b s:=by
 refine bk ?_
 intro i z_ h hI hE;simp only[ju,az,an,aq]at h;rcases h with⟨h1,x0,h2,x1,h3,⟨h4,h⟩|⟨h4,h⟩⟩|⟨h1,h⟩
 ·exact gn 14 [2,3,5] [0,1] [nL bR a.bH.aP,bT h1,hH (.draw 13 []),cE bR h2,cE bR h3,nF h4] (hI h)
 ·obtain rfl:=(hE h:_=rv);exact gr 12 [] [nL bR a.bH.aP,bT h1,hH (.draw 13 []),cE bR h2,cE bR h3,nT h4]
 ·exact gn 5 [2,3] [0,1] [nL bR a.bH.aP,bF h1] (hE h)
theorem Cd{a b}{rv:Bool}(h:tC a b=some rv):dF prog 46 [.agg (al.enc a),.agg (al.enc b)] [] (one (.bool rv)) []:=by
 refine aU func46 fun Γ=>?_
 simp only[tC,az,an,aq]at h;rcases h with⟨h0,h⟩|⟨h0,e0,h5,h⟩
 ·obtain rfl:=oK h;exact gr 8 [] [rp 32 hP,rp 4 (oI ((cA a.aR b.aR)=false)),oR True ((cA a.aR b.aR)=false),rp 4 (oI (((cA a.aR b.aR)||(cA a.ba b.ba))=false)),oR True (((cA a.aR b.aR)||(cA a.ba b.ba))=false),rp 6 (oI ((((cA a.aR b.aR)||(cA a.ba b.ba))||(cA a.eR b.eR))=false)),oR True ((((cA a.aR b.aR)||(cA a.ba b.ba))||(cA a.eR b.eR))=false),rp 6 (oI (((((cA a.aR b.aR)||(cA a.ba b.ba))||(cA a.eR b.eR))||(cA a.bH.aR b.bH.aR))=false)),oR True (((((cA a.aR b.aR)||(cA a.ba b.ba))||(cA a.eR b.eR))||(cA a.bH.aR b.bH.aR))=false),rp 3 (oI ((((((cA a.aR b.aR)||(cA a.ba b.ba))||(cA a.eR b.eR))||(cA a.bH.aR b.bH.aR))||(cA a.bH.aH b.bH.aH))=false)),nL bR a.bH.aP,rp 4 hP,rp 3 (oI ((((((cA a.aR b.aR)||(cA a.ba b.ba))||(cA a.eR b.eR))||(cA a.bH.aR b.bH.aR))||(cA a.bH.aH b.bH.aH))=false)),nL bR b.bH.aP,hP,hP,rp 2 (oI ((((((cA a.aR b.aR)||(cA a.ba b.ba))||(cA a.eR b.eR))||(cA a.bH.aR b.bH.aR))||(cA a.bH.aH b.bH.aH))=false)),oR True ((((((cA a.aR b.aR)||(cA a.ba b.ba))||(cA a.eR b.eR))||(cA a.bH.aR b.bH.aR))||(cA a.bH.aH b.bH.aH))=false),bT h0]
 ·refine gn 12 [2,3,5] [0,1] [rp 32 hP,rp 4 (oI ((cA a.aR b.aR)=false)),oR True ((cA a.aR b.aR)=false),rp 4 (oI (((cA a.aR b.aR)||(cA a.ba b.ba))=false)),oR True (((cA a.aR b.aR)||(cA a.ba b.ba))=false),rp 6 (oI ((((cA a.aR b.aR)||(cA a.ba b.ba))||(cA a.eR b.eR))=false)),oR True ((((cA a.aR b.aR)||(cA a.ba b.ba))||(cA a.eR b.eR))=false),rp 6 (oI (((((cA a.aR b.aR)||(cA a.ba b.ba))||(cA a.eR b.eR))||(cA a.bH.aR b.bH.aR))=false)),oR True (((((cA a.aR b.aR)||(cA a.ba b.ba))||(cA a.eR b.eR))||(cA a.bH.aR b.bH.aR))=false),rp 3 (oI ((((((cA a.aR b.aR)||(cA a.ba b.ba))||(cA a.eR b.eR))||(cA a.bH.aR b.bH.aR))||(cA a.bH.aH b.bH.aH))=false)),nL bR a.bH.aP,rp 4 hP,rp 3 (oI ((((((cA a.aR b.aR)||(cA a.ba b.ba))||(cA a.eR b.eR))||(cA a.bH.aR b.bH.aR))||(cA a.bH.aH b.bH.aH))=false)),nL bR b.bH.aP,hP,hP,rp 2 (oI ((((((cA a.aR b.aR)||(cA a.ba b.ba))||(cA a.eR b.eR))||(cA a.bH.aR b.bH.aR))||(cA a.bH.aH b.bH.aH))=false)),oR True ((((((cA a.aR b.aR)||(cA a.ba b.ba))||(cA a.eR b.eR))||(cA a.bH.aR b.bH.aR))||(cA a.bH.aH b.bH.aH))=false),bF h0] (Iu Γ rv h5 ?_);rcases e0 with e0|r1
  ·simp only[en,az,an,aq]at h;obtain⟨r,h6,h⟩:=h;obtain rfl:=oK h;exact gr 2 [] [cC (MM h6)]
  ·exact oK h
def z7(Γ:bn)(rv:Bool)(cf:Cf):Prop:=Go prog f22 [] Γ (one (.bool rv)) [] cf
def ER(Γ:bn)(rv:Bool)(a b:List al)(i:Int):Prop:=z7 Γ rv ⟨[.c 116,.l 116,.b 0,.c 15],⟨27,[vL 0 7 a al.enc,vL 1 7 b al.enc,vI 5 i],[]⟩⟩
def D6(Γ:bn)(rv:Bool)(a b:List al):Prop:=z7 Γ rv ⟨[.c 15],⟨27,[],[]⟩⟩
theorem D7(Γ:bn)(rv:Bool){a b}:∀⦃s:Int⦄ ⦃e:(Unit)⊕(Bool)⦄,aK (fun s=>gB a b s) s=some e→jf e (fun e=>D6 Γ rv a b) (fun e=>e=rv)→ER Γ rv a b s:=by
 refine bk ?_
 intro i z_ h hI hE;simp only[gB,az,an,aq]at h;rcases h with⟨h1,x0,h2,x1,h3,r,h4,⟨h5,h⟩|⟨h5,h⟩⟩|⟨h1,h⟩
 ·exact gn 14 [0,1,5] [] [nL al.enc a,bT h1,hH (.draw 10 []),cE al.enc h2,cE al.enc h3,cC (Cd h4),nF h5] (hI h)
 ·obtain rfl:=(hE h:_=rv);exact gr 12 [] [nL al.enc a,bT h1,hH (.draw 10 []),cE al.enc h2,cE al.enc h3,cC (Cd h4),nT h5]
 ·exact gn 5 [] [] [nL al.enc a,bF h1] (hE h)
theorem qc{a b}{rv:Bool}(h:pM a b=some rv):dF prog 22 [.one (lL 7 a al.enc),.one (lL 7 b al.enc)] [] (one (.bool rv)) []:=by
 refine aU func22 fun Γ=>?_
 simp only[pM,az,an,aq]at h;rcases h with⟨h0,h⟩|⟨h0,e0,h6,h⟩
 ·obtain rfl:=oK h;exact gr 8 [] [nL al.enc a,nL al.enc b,bT h0]
 ·refine gn 12 [0,1,5] [] [nL al.enc a,nL al.enc b,bF h0] (D7 Γ rv h6 ?_);rcases e0 with e0|r1
  ·obtain rfl:=oK h;exact gr 2 [] []
  ·exact oK h
def uH(Γ:bn)(rv:Bool)(cf:Cf):Prop:=Go prog f6 [] Γ (one (.bool rv)) [] cf
def z6(Γ:bn)(rv:Bool)(x0:ae)(r3:ae×Int)(r5 r6:List al×Int)(ba i:Int):Prop:=uH Γ rv ⟨[.c 4084,.l 4084,.b 0,.c 511],⟨77,[vP 1 0 6,vP 3 1 6,vL 5 7 r5.1 al.enc,vL 7 7 r6.1 al.enc,vI 9 ba,vI 10 i],[oX 6 30 (ae.enc x0),oX 6 30 (ae.enc r3.1)]⟩⟩
def zw(Γ:bn)(rv:Bool)(x0:ae)(r3:ae×Int)(r5 r6:List al×Int)(tK:Int):Prop:=uH Γ rv ⟨[.c 511],⟨77,[vP 1 0 6,vP 3 1 6,vL 5 7 r5.1 al.enc,vL 7 7 r6.1 al.enc,vI 9 tK],[oX 6 30 (ae.enc x0),oX 6 30 (ae.enc r3.1)]⟩⟩
theorem zx(Γ:bn)(rv:Bool){x0 r3 r5 r6}:∀⦃s:Int×Int⦄ ⦃e:Int⦄,aK (fun s=>eP x0 r3 r5 r6 s.1 s.2) s=some e→zw Γ rv x0 r3 r5 r6 e→z6 Γ rv x0 r3 r5 r6 s.1 s.2:=by
 refine bk ?_
 rintro⟨ba,i⟩ z_ h hI hE;simp only[eP,az,an,aq]at h;rcases h with⟨gu,x1,ij,h⟩|⟨gu,h⟩
 ·exact gn 11 [1,3,5,7,9,10] [0,1] [nL al.enc r5.1,bT gu,cE al.enc ij] (hI h)
 ·exact gn 5 [1,3,5,7,9] [0,1] [nL al.enc r5.1,bF gu] (hE h)
theorem Bi{x0}{rv:Bool}(h:m8 x0=some rv):dF prog 6 [.agg (ae.enc x0)] [] (one (.bool rv)) []:=by
 refine aU func6 fun Γ=>?_
 simp only[m8,az,an,aq]at h;rcases h with⟨r,h0,⟨h1,r1,h2,⟨h3,r2,h4,h⟩|⟨h3,r3,h5,⟨h6,h⟩|⟨h6,r4,h7,⟨h8,h⟩|⟨h8,r5,h9,r6,dN,r7,gq,tK,kH,h⟩⟩⟩⟩|⟨h1,XY,Et,h⟩⟩
 ·obtain rfl:=oK h;exact gr 8 [] [cC (qJ h0),nF h1,nF h1,cC (mn h2),nF h1,nL aa.enc r1,nF h1,nF h1,bT h3,cC (vW h4)]
 ·obtain rfl:=oK h;exact gr 15 [] [cC (qJ h0),nF h1,nF h1,cC (mn h2),nF h1,nL aa.enc r1,nF h1,nF h1,bF h3,cC (ll h5),rp 5 (bT h6),tT]
 ·obtain rfl:=oK h;exact gr 15 [] [cC (qJ h0),nF h1,nF h1,cC (mn h2),nF h1,nL aa.enc r1,nF h1,nF h1,bF h3,cC (ll h5),bF h6,bF h6,cC (mn h7),bF h6,nL aa.enc r4,bF h6,bF h6,bT h8]
 ·refine gn 25 [1,3,5,7,9,10] [0,1] [cC (qJ h0),nF h1,nF h1,cC (mn h2),nF h1,nL aa.enc r1,nF h1,nF h1,bF h3,cC (ll h5),bF h6,bF h6,cC (mn h7),bF h6,nL aa.enc r4,bF h6,bF h6,bF h8,cC (Du h9),cC (Du dN),cC (Oz gq)] (zx Γ rv kH ?_);rcases h with⟨r8,nk,⟨pc,r9,sG,⟨ti,Xf,vF,⟨va,Ft,BQ,h⟩|⟨va,h⟩⟩|⟨ti,h⟩⟩|⟨pc,h⟩⟩
  ·obtain rfl:=oK h;exact gr 2 [] [cC (qc nk),rp 2 (bT pc),cC (mZ sG),rp 3 (bT pc),rp 2 (bT ti),cC (mZ vF),rp 3 (bT ti),bT va,cC (vW BQ),bT va]
  ·obtain rfl:=oK h;exact gr 2 [] [cC (qc nk),rp 2 (bT pc),cC (mZ sG),rp 3 (bT pc),rp 2 (bT ti),cC (mZ vF),rp 3 (bT ti),rp 2 (bF va)]
  ·obtain rfl:=oK h;exact gr 2 [] [cC (qc nk),rp 2 (bT pc),cC (mZ sG),rp 3 (bT pc),rp 5 (bF ti),fF,fF]
  ·obtain rfl:=oK h;exact gr 2 [] [cC (qc nk),rp 5 (bF pc),rp 7 fF]
 ·obtain rfl:=oK h;exact gr 8 [] [cC (qJ h0),rp 5 (nT h1),tT,cC (vW Et)]
end
end Go.Proofs.YtbilkblifgaflaaGreatDoor
