/- Part MW. -/
import Derived.Test.YtbilkblifgaflaaGreatDoorMV
import Derived.Test.YtbilkblifgaflaaGreatDoorProg
set_option linter.unusedSimpArgs false
set_option linter.unusedVariables false
set_option linter.unusedSectionVars false
namespace Go.Proofs.YtbilkblifgaflaaGreatDoor
open _root_.Go.Proofs.Tryz
section
set_option maxHeartbeats 4000000
set_option maxRecDepth 100000
def ig(Γ:a5)(rv:List aa)(cf:Cf):Prop:=Go prog f69 [] Γ (one (lO 0 2 rv aa.enc)) [oS 2 104 rv aa.enc] cf
def wK(Γ:a5)(rv:List aa)(aj:Int)(l:List aA)(word:ByteArray)(cp:Bool)(l2:List aa)(i:Int)(x0:aA)(r:ByteArray)(kE:Bool)(k:Int):Prop:=ig Γ rv ⟨[.c 1001972,.l 1001972,.b 2,.c 125247,.b 1,.c 979,.l 244,.b 0,.c 31],⟨123,[vI 0 aj,vL 1 2 l aA.enc,vS 2 word,vB 3 cp,vO 9 0 2 l2 aa.enc,vI 10 i,vI 11 x0.x0,vI 12 x0.x1,vS 13 (bH (bH word bn) r),vB 14 kE,vI 15 k],[oS 2 104 l2 aa.enc]⟩⟩
def vV(Γ:a5)(rv:List aa)(aj:Int)(l:List aA)(word:ByteArray)(cp:Bool)(l2:List aa)(i:Int)(x0:aA)(r:ByteArray)(nJ:Bool):Prop:=ig Γ rv ⟨[.c 125247,.b 1,.c 979,.l 244,.b 0,.c 31],⟨123,[vI 0 aj,vL 1 2 l aA.enc,vS 2 word,vB 3 cp,vO 9 0 2 l2 aa.enc,vI 10 i,vS 13 (bH (bH word bn) r),vB 14 nJ],[oS 2 104 l2 aa.enc]⟩⟩
def wJ(Γ:a5)(rv:List aa)(aj:Int)(l:List aA)(word:ByteArray)(cp:Bool)(l2:List aa)(i:Int):Prop:=ig Γ rv ⟨[.c 244,.l 244,.b 0,.c 31],⟨123,[vI 0 aj,vL 1 2 l aA.enc,vS 2 word,vB 3 cp,vO 9 0 2 l2 aa.enc,vI 10 i],[oS 2 104 l2 aa.enc]⟩⟩
def vT(Γ:a5)(rv:List aa)(aj:Int)(l:List aA)(word:ByteArray)(cp:Bool)(l3:List aa):Prop:=ig Γ rv ⟨[.c 31],⟨123,[vO 9 0 2 l3 aa.enc],[oS 2 104 l3 aa.enc]⟩⟩
theorem vW(Γ:a5)(rv:List aa){aj l word cp l2 i x0 r}:∀⦃s:Bool×Int⦄ ⦃e:Bool⦄,aF (fun s=>mr aj l word cp l2 i x0 r s.1 s.2) s=some e→vV Γ rv aj l word cp l2 i x0 r e→wK Γ rv aj l word cp l2 i x0 r s.1 s.2:=by
 refine aY ?_
 rintro⟨kE,k⟩ z_ h hI hE;simp only[mr,ay,an,ao]at h;rcases h with⟨h9,⟨dq,h⟩|⟨dq,x1,fM,⟨fN,⟨gC,h⟩|⟨gC,⟨iH,⟨kT,h⟩|⟨kT,h⟩⟩|⟨iH,h⟩⟩⟩|⟨fN,⟨mo,⟨oN,h⟩|⟨oN,h⟩⟩|⟨mo,h⟩⟩⟩⟩|⟨h9,h⟩
 ·exact gn 11 [0,1,2,3,9,10,11,12,13,14,15] [0] [bT h9,rp 8 (bT dq),rp 7 kF,rp 2 (bT dq),tT,tT,rp 7 kF,tT,tT,rp 7 kF,tT,tT] (hI h)
 ·exact gn 11 [0,1,2,3,9,10,11,12,13,14,15] [0] [bT h9,rp 3 (bF dq),cE aA.enc fM,bF dq,oO (zL 0),oO (lT 0 2),rp 4 (bF dq),rp 3 (bT fN),cE aA.enc fM,bT fN,oO (zL 1),oO (lT 1 2),rp 3 (bT fN),bF dq,bT fN,bF dq,rp 2 (bT gC),rp 7 kF,rp 2 (bT gC),rp 7 kF,rp 2 (bT gC)] (hI h)
 ·exact gn 11 [0,1,2,3,9,10,11,12,13,14,15] [0] [bT h9,rp 3 (bF dq),cE aA.enc fM,bF dq,oO (zL 0),oO (lT 0 2),rp 4 (bF dq),rp 3 (bT fN),cE aA.enc fM,bT fN,oO (zL 1),oO (lT 1 2),rp 3 (bT fN),bF dq,bT fN,bF dq,rp 2 (bF gC),rp 3 (bT iH),cE aA.enc fM,bT iH,oO (zL 0),oO (lT 0 2),rp 3 (bT iH),bF gC,bT iH,bF gC,rp 3 (bT kT),cE aA.enc fM,bT kT,oO (zL 1),oO (lT 1 2),rp 3 (bT kT),bF gC,bT kT,bF gC] (hI h)
 ·exact gn 11 [0,1,2,3,9,10,11,12,13,14,15] [0] [bT h9,rp 3 (bF dq),cE aA.enc fM,bF dq,oO (zL 0),oO (lT 0 2),rp 4 (bF dq),rp 3 (bT fN),cE aA.enc fM,bT fN,oO (zL 1),oO (lT 1 2),rp 3 (bT fN),bF dq,bT fN,bF dq,rp 2 (bF gC),rp 3 (bT iH),cE aA.enc fM,bT iH,oO (zL 0),oO (lT 0 2),rp 3 (bT iH),bF gC,bT iH,bF gC,rp 7 (bF kT),bF gC,bF kT,bF gC] (hI h)
 ·exact gn 11 [0,1,2,3,9,10,11,12,13,14,15] [0] [bT h9,rp 3 (bF dq),cE aA.enc fM,bF dq,oO (zL 0),oO (lT 0 2),rp 4 (bF dq),rp 3 (bT fN),cE aA.enc fM,bT fN,oO (zL 1),oO (lT 1 2),rp 3 (bT fN),bF dq,bT fN,bF dq,rp 2 (bF gC),rp 7 (bF iH),bF gC,bF iH,bF gC,rp 7 fF,bF gC,fF,bF gC] (hI h)
 ·exact gn 11 [0,1,2,3,9,10,11,12,13,14,15] [0] [bT h9,rp 3 (bF dq),cE aA.enc fM,bF dq,oO (zL 0),oO (lT 0 2),rp 4 (bF dq),rp 7 (bF fN),bF dq,bF fN,bF dq,fF,fF,rp 3 (bT mo),cE aA.enc fM,bT mo,oO (zL 0),oO (lT 0 2),rp 3 (bT mo),fF,bT mo,fF,rp 3 (bT oN),cE aA.enc fM,bT oN,oO (zL 1),oO (lT 1 2),rp 3 (bT oN),fF,bT oN,fF] (hI h)
 ·exact gn 11 [0,1,2,3,9,10,11,12,13,14,15] [0] [bT h9,rp 3 (bF dq),cE aA.enc fM,bF dq,oO (zL 0),oO (lT 0 2),rp 4 (bF dq),rp 7 (bF fN),bF dq,bF fN,bF dq,fF,fF,rp 3 (bT mo),cE aA.enc fM,bT mo,oO (zL 0),oO (lT 0 2),rp 3 (bT mo),fF,bT mo,fF,rp 7 (bF oN),fF,bF oN,fF] (hI h)
 ·exact gn 11 [0,1,2,3,9,10,11,12,13,14,15] [0] [bT h9,rp 3 (bF dq),cE aA.enc fM,bF dq,oO (zL 0),oO (lT 0 2),rp 4 (bF dq),rp 7 (bF fN),bF dq,bF fN,bF dq,fF,fF,rp 7 (bF mo),fF,bF mo,rp 11 fF] (hI h)
 ·exact gn 5 [0,1,2,3,9,10,13,14] [0] [bF h9] (hE h)
theorem vU(Γ:a5)(rv:List aa){aj l word cp}:∀⦃s:List aa×Int⦄ ⦃e:List aa⦄,aF (fun s=>mq aj l word cp s.1 s.2) s=some e→vT Γ rv aj l word cp e→wJ Γ rv aj l word cp s.1 s.2:=by
 refine aY ?_
 rintro⟨l2,i⟩ z_ h hI hE;simp only[mq,ay,an,ao]at h;rcases h with⟨h2,x0,h3,h4,r,h5,h6,⟨h7,h8,h⟩|⟨h7,nJ,p8,h⟩⟩|⟨h2,h⟩
 ·exact gn 22 [0,1,2,3,9,10] [2] [nL aA.enc l,bT h2,cE aA.enc h3,oO (zL 0),oO (lT 0 2),cE aA.enc h3,oO (zL 1),oO (lT 1 2),oO (h4),cC (lK h5),rp 15 hP,oO (h6),rp 2 (oI ((aS x0.x0 0)=false)),oR True ((aS x0.x0 0)=false),oI (((aS x0.x0 0)||(bP x0.x0 aj))=false),oR True (((aS x0.x0 0)||(bP x0.x0 aj))=false),rp 2 (oI ((((aS x0.x0 0)||(bP x0.x0 aj))||(aS x0.x1 0))=false)),oR True ((((aS x0.x0 0)||(bP x0.x0 aj))||(aS x0.x1 0))=false),rp 2 (oI (((((aS x0.x0 0)||(bP x0.x0 aj))||(aS x0.x1 0))||(bP x0.x1 aj))=false)),oR True (((((aS x0.x0 0)||(bP x0.x0 aj))||(aS x0.x1 0))||(bP x0.x1 aj))=false),bT h7,oO (Eq.refl ([(aa.mk 2 (bH (bH word bn) r))].map aa.enc).length),aO aa.enc h8] (hI h)
 ·refine gn 25 [0,1,2,3,9,10,11,12,13,14,15] [0] [nL aA.enc l,bT h2,cE aA.enc h3,oO (zL 0),oO (lT 0 2),cE aA.enc h3,oO (zL 1),oO (lT 1 2),oO (h4),cC (lK h5),rp 15 hP,oO (h6),rp 2 (oI ((aS x0.x0 0)=false)),oR True ((aS x0.x0 0)=false),oI (((aS x0.x0 0)||(bP x0.x0 aj))=false),oR True (((aS x0.x0 0)||(bP x0.x0 aj))=false),rp 2 (oI ((((aS x0.x0 0)||(bP x0.x0 aj))||(aS x0.x1 0))=false)),oR True ((((aS x0.x0 0)||(bP x0.x0 aj))||(aS x0.x1 0))=false),rp 2 (oI (((((aS x0.x0 0)||(bP x0.x0 aj))||(aS x0.x1 0))||(bP x0.x1 aj))=false)),oR True (((((aS x0.x0 0)||(bP x0.x0 aj))||(aS x0.x1 0))||(bP x0.x1 aj))=false),bF h7] (vW Γ rv p8 ?_);rcases h with⟨rk,rl,h⟩|⟨rk,h⟩
  ·exact gn 7 [0,1,2,3,9,10] [2] [bT rk,oO (Eq.refl ([(aa.mk 6 (bH (bH word bn) r))].map aa.enc).length),aO aa.enc rl] (hI h)
  ·exact gn 7 [0,1,2,3,9,10] [0] [bF rk] (hI h)
 ·exact gn 5 [9] [0] [nL aA.enc l,bF h2] (hE h)
theorem oB(Γ:a5)(rv:List aa){aj l word cp l1}(h:js aj l word cp l1=some rv):ig Γ rv ⟨[.c 15],⟨123,[vI 0 aj,vL 1 2 l aA.enc,vS 2 word,vB 3 cp,vO 9 0 2 l1 aa.enc],[oS 2 104 l1 aa.enc]⟩⟩:=by
 simp only[js,ay,an,ao]at h;obtain⟨l3,xI,h⟩:=h;refine gn 5 [0,1,2,3,9,10] [0] [] (vU Γ rv xI ?_);obtain rfl:=oK h;exact gr 2 [0] []
theorem yB{aj l word cp}{rv:List aa}(h:lM aj l word cp=some rv):dd prog 69 [.one (lI aj),.one (lL 2 l aA.enc),.one (.str word),.one (.bool cp)] [] (one (lO 0 2 rv aa.enc)) [oS 2 104 rv aa.enc]:=by
 refine aP func69 fun Γ=>?_
 simp only[lM,ay,an,ao]at h;rcases h with⟨h0,h1,h⟩|⟨h0,h⟩
 ·exact gn 9 [0,1,2,3,9] [1] [nL aA.enc l,bT h0,oO (Eq.refl ([(aa.mk 4 word)].map aa.enc).length),aN (l:=([(aa.mk 4 word)]:List aa)) aa.enc h1] (oB Γ rv h)
 ·exact gn 9 [0,1,2,3,9] [0] [nL aA.enc l,bF h0,hW 1,hH (.kN 9 2 104)] (oB Γ rv h)
theorem DO{aj cb before}{rv:List aa}(h:ic aj cb before=some rv):dd prog 44 [.one (lI aj),.one (lL 2 cb aA.enc),.one (lL 2 before aA.enc)] [] (one (lL 2 rv aa.enc)) []:=by
 refine aP func44 fun Γ=>?_
 simp only[ic,ay,an,ao]at h;obtain⟨r,h0,r1,h1,h2,h⟩:=h;cases h;exact gr 6 [] [cC (yB h0),cC (Ct h1),aO aa.enc h2,hW 1,hH (.iY 1),rp 2 (oO (Eq.refl ((r++r1).map aa.enc).length))]
def nv(Γ:a5)(rv:List aa)(cf:Cf):Prop:=Go prog f39 [] Γ (one (lO 0 2 rv aa.enc)) [oS 2 104 rv aa.enc] cf
def pG(Γ:a5)(rv:List aa)(word:ByteArray)(l l1:List aa)(i:Int):Prop:=nv Γ rv ⟨[.c 116,.l 116,.b 0,.c 15],⟨40,[vS 0 word,vL 1 2 l aa.enc,vO 5 0 2 l1 aa.enc,vI 6 i],[oS 2 104 l1 aa.enc]⟩⟩
def o7(Γ:a5)(rv:List aa)(word:ByteArray)(l l2:List aa):Prop:=nv Γ rv ⟨[.c 15],⟨40,[vO 5 0 2 l2 aa.enc],[oS 2 104 l2 aa.enc]⟩⟩
theorem o6(Γ:a5)(rv:List aa){word l l1 i ct}{x:(List aa×Int)⊕(List aa)}(h:jP word l l1 i ct=some x)(hI:∀⦃s:List aa×Int⦄,some (.inl s)=some x→pG Γ rv word l s.1 s.2)(hE:∀⦃e:List aa⦄,some (.inr e)=some x→o7 Γ rv word l e):nv Γ rv ⟨[.c 3731,.b 1,.c 467,.l 116,.b 0,.c 15],⟨40,[vS 0 word,vL 1 2 l aa.enc,vO 5 0 2 l1 aa.enc,vI 6 i,vS 7 ct],[oS 2 104 l1 aa.enc]⟩⟩:=by
 simp only[jP,ay,an,ao]at h;obtain⟨x1,h5,h6,h⟩:=h;exact gn 4 [0,1,5,6] [2] [cE aa.enc h5,oO (Eq.refl ([(aa.mk x1.EL ct)].map aa.enc).length),aO aa.enc h6] (hI h)
theorem wN(Γ:a5)(rv:List aa){word l}:∀⦃s:List aa×Int⦄ ⦃e:List aa⦄,aF (fun s=>mO word l s.1 s.2) s=some e→o7 Γ rv word l e→pG Γ rv word l s.1 s.2:=by
 refine aY ?_
 rintro⟨l1,i⟩ z_ h hI hE;simp only[mO,ay,an,ao]at h;rcases h with⟨h0,x0,h1,⟨h2,h⟩|⟨h2,h3,h4,h⟩⟩|⟨h0,h⟩
 ·exact gn 14 [0,1,5,6,7] [0] [nL aa.enc l,bT h0,cE aa.enc h1,nF h2] (o6 Γ rv h hI hE)
 ·exact gn 14 [0,1,5,6,7] [0] [nL aa.enc l,bT h0,cE aa.enc h1,nT h2,oO (h3),cE aa.enc h1,oO (h4)] (o6 Γ rv h hI hE)
 ·exact gn 5 [5] [0] [nL aa.enc l,bF h0] (hE h)
theorem zd{word l}{rv:List aa}(h:eB word l=some rv):dd prog 39 [.one (.str word),.one (lL 2 l aa.enc)] [] (one (lO 0 2 rv aa.enc)) [oS 2 104 rv aa.enc]:=by
 refine aP func39 fun Γ=>?_
 simp only[eB,ay,an,ao]at h;obtain⟨l2,h7,h⟩:=h;refine gn 9 [0,1,5,6] [0] [hW 12,hH (.kN 5 2 104)] (wN Γ rv h7 ?_);obtain rfl:=oK h;exact gr 2 [0] []
theorem vo{x0}{rv:List aa}(h:cO x0=some rv):dd prog 19 [.agg (ae.enc x0)] [] (one (lL 2 rv aa.enc)) []:=by
 refine aP func19 fun Γ=>?_
 simp only[cO,ay,an,ao]at h;obtain⟨r,h0,r1,h1,r2,h2,r3,h3,h4,r4,h5,r5,h6,r6,h7,h8,r7,h9,r8,dq,fM,h⟩:=h;cases h;exact gr 12 [] [cC (DJ h0),cC (zd h1),cC (DK h2),cC (pT h3),aO aa.enc h4,hH (.draw 13 []),cC (ly h5),nL ag.enc x0.types,cC (DM h6),cC (pT h7),aO aa.enc h8,nL ab.enc x0.aj,cC (DO h9),cC (pT dq),aO aa.enc fM,hW 5,hH (.iY 4),rp 4 (oO (Eq.refl ((((r1++r3)++r6)++r8).map aa.enc).length))]
def vq(Γ:a5)(rv:Bool)(cf:Cf):Prop:=Go prog f58 [] Γ (one (.bool rv)) [] cf
def Ah(Γ:a5)(rv:Bool)(a b:List au)(i:Int):Prop:=vq Γ rv ⟨[.c 116,.l 116,.b 0,.c 15],⟨26,[vL 0 2 a au.enc,vL 1 2 b au.enc,vI 5 i],[]⟩⟩
def za(Γ:a5)(rv:Bool)(a b:List au):Prop:=vq Γ rv ⟨[.c 15],⟨26,[],[]⟩⟩
theorem zb(Γ:a5)(rv:Bool){a b}:∀⦃s:Int⦄ ⦃e:(Unit)⊕(Bool)⦄,aF (fun s=>eX a b s) s=some e→jB e (fun e=>za Γ rv a b) (fun e=>e=rv)→Ah Γ rv a b s:=by
 refine aY ?_
 intro i z_ h hI hE;simp only[eX,ay,an,ao]at h;rcases h with⟨h1,x0,h2,x1,h3,⟨h4,h⟩|⟨h4,h⟩⟩|⟨h1,h⟩
 ·exact gn 14 [0,1,5] [] [nL au.enc a,bT h1,hH (.draw 9 []),cE au.enc h2,cE au.enc h3,nF h4] (hI h)
 ·obtain rfl:=(hE h:_=rv);exact gr 12 [] [nL au.enc a,bT h1,hH (.draw 9 []),cE au.enc h2,cE au.enc h3,nT h4]
 ·exact gn 5 [] [] [nL au.enc a,bF h1] (hE h)
theorem jF{a b}{rv:Bool}(h:jO a b=some rv):dd prog 58 [.one (lL 2 a au.enc),.one (lL 2 b au.enc)] [] (one (.bool rv)) []:=by
 refine aP func58 fun Γ=>?_
 simp only[jO,ay,an,ao]at h;rcases h with⟨h0,h⟩|⟨h0,e0,h5,h⟩
 ·obtain rfl:=oK h;exact gr 8 [] [nL au.enc a,nL au.enc b,bT h0]
 ·refine gn 12 [0,1,5] [] [nL au.enc a,nL au.enc b,bF h0] (zb Γ rv h5 ?_);rcases e0 with e0|r
  ·obtain rfl:=oK h;exact gr 2 [] []
  ·exact oK h
def oD(Γ:a5)(rv:Bool)(cf:Cf):Prop:=Go prog f31 [] Γ (one (.bool rv)) [] cf
def Cw(Γ:a5)(rv:Bool)(a b:ah)(i:Int):Prop:=oD Γ rv ⟨[.c 116,.l 116,.b 0,.c 15],⟨102,[vP 2 0 2,vP 3 1 2,vI 5 i],[oX 2 25 (ah.enc a),oX 2 25 (ah.enc b)]⟩⟩
def Bq(Γ:a5)(rv:Bool)(a b:ah):Prop:=oD Γ rv ⟨[.c 15],⟨102,[vP 2 0 2,vP 3 1 2],[oX 2 25 (ah.enc a),oX 2 25 (ah.enc b)]⟩⟩
def Cx(Γ:a5)(rv:Bool)(a b:ah)(i1:Int):Prop:=oD Γ rv ⟨[.c 244,.l 244,.b 2,.c 31],⟨102,[vP 2 0 2,vP 3 1 2,vI 6 i1],[oX 2 25 (ah.enc a),oX 2 25 (ah.enc b)]⟩⟩
def Bs(Γ:a5)(rv:Bool)(a b:ah):Prop:=oD Γ rv ⟨[.c 31],⟨102,[],[]⟩⟩
theorem Br(Γ:a5)(rv:Bool){a b}:∀⦃s:Int⦄ ⦃e:(Unit)⊕(Bool)⦄,aF (fun s=>fX a b s) s=some e→jB e (fun e=>Bq Γ rv a b) (fun e=>e=rv)→Cw Γ rv a b s:=by
 refine aY ?_
 intro i z_ h hI hE;simp only[fX,ay,an,ao]at h;rcases h with⟨h1,x0,h2,x1,h3,⟨h4,h⟩|⟨h4,h⟩⟩|⟨h1,h⟩
 ·exact gn 14 [2,3,5] [0,1] [nL bR a.av,bT h1,hH (.draw 11 []),cE bR h2,cE bR h3,nF h4] (hI h)
 ·obtain rfl:=(hE h:_=rv);exact gr 12 [] [nL bR a.av,bT h1,hH (.draw 11 []),cE bR h2,cE bR h3,nT h4]
 ·exact gn 5 [2,3] [0,1] [nL bR a.av,bF h1] (hE h)
theorem Bt(Γ:a5)(rv:Bool){a b}:∀⦃s:Int⦄ ⦃e:(Unit)⊕(Bool)⦄,aF (fun s=>fY a b s) s=some e→jB e (fun e=>Bs Γ rv a b) (fun e=>e=rv)→Cx Γ rv a b s:=by
 refine aY ?_
 intro i1 z_ h hI hE;simp only[fY,ay,an,ao]at h;rcases h with⟨h6,x2,h7,x3,h8,⟨h9,h⟩|⟨h9,r,dq,⟨fM,r1,fN,⟨gC,h⟩|⟨gC,h⟩⟩|⟨fM,h⟩⟩⟩|⟨h6,h⟩
 ·obtain rfl:=(hE h:_=rv);exact gr 16 [] [nL al.enc a.aI,bT h6,cE al.enc h7,cE al.enc h8,rp 18 hP,rp 4 (oI ((bK x2.az x3.az)=false)),oR True ((bK x2.az x3.az)=false),rp 4 (oI (((bK x2.az x3.az)||(bK x2.cw x3.cw))=false)),oR True (((bK x2.az x3.az)||(bK x2.cw x3.cw))=false),rp 4 (oI ((((bK x2.az x3.az)||(bK x2.cw x3.cw))||(bK x2.ai x3.ai))=false)),oR True ((((bK x2.az x3.az)||(bK x2.cw x3.cw))||(bK x2.ai x3.ai))=false),rp 7 (bT h9),rp 8 tT]
 ·exact gn 18 [2,3,6] [0,1] [nL al.enc a.aI,bT h6,cE al.enc h7,cE al.enc h8,rp 18 hP,rp 4 (oI ((bK x2.az x3.az)=false)),oR True ((bK x2.az x3.az)=false),rp 4 (oI (((bK x2.az x3.az)||(bK x2.cw x3.cw))=false)),oR True (((bK x2.az x3.az)||(bK x2.cw x3.cw))=false),rp 4 (oI ((((bK x2.az x3.az)||(bK x2.cw x3.cw))||(bK x2.ai x3.ai))=false)),oR True ((((bK x2.az x3.az)||(bK x2.cw x3.cw))||(bK x2.ai x3.ai))=false),rp 5 (bF h9),cC (jF dq),bF h9,bF h9,rp 5 (nF fM),cC (jF fN),rp 2 (nF fM),nF gC] (hI h)
 ·obtain rfl:=(hE h:_=rv);exact gr 16 [] [nL al.enc a.aI,bT h6,cE al.enc h7,cE al.enc h8,rp 18 hP,rp 4 (oI ((bK x2.az x3.az)=false)),oR True ((bK x2.az x3.az)=false),rp 4 (oI (((bK x2.az x3.az)||(bK x2.cw x3.cw))=false)),oR True (((bK x2.az x3.az)||(bK x2.cw x3.cw))=false),rp 4 (oI ((((bK x2.az x3.az)||(bK x2.cw x3.cw))||(bK x2.ai x3.ai))=false)),oR True ((((bK x2.az x3.az)||(bK x2.cw x3.cw))||(bK x2.ai x3.ai))=false),rp 5 (bF h9),cC (jF dq),bF h9,bF h9,rp 5 (nF fM),cC (jF fN),rp 2 (nF fM),nT gC]
 ·obtain rfl:=(hE h:_=rv);exact gr 16 [] [nL al.enc a.aI,bT h6,cE al.enc h7,cE al.enc h8,rp 18 hP,rp 4 (oI ((bK x2.az x3.az)=false)),oR True ((bK x2.az x3.az)=false),rp 4 (oI (((bK x2.az x3.az)||(bK x2.cw x3.cw))=false)),oR True (((bK x2.az x3.az)||(bK x2.cw x3.cw))=false),rp 4 (oI ((((bK x2.az x3.az)||(bK x2.cw x3.cw))||(bK x2.ai x3.ai))=false)),oR True ((((bK x2.az x3.az)||(bK x2.cw x3.cw))||(bK x2.ai x3.ai))=false),rp 5 (bF h9),cC (jF dq),bF h9,bF h9,rp 7 (nT fM),tT]
 ·exact gn 5 [] [] [nL al.enc a.aI,bF h6] (hE h)
theorem wL{a b}{rv:Bool}(h:nV a b=some rv):dd prog 31 [.agg (ah.enc a),.agg (ah.enc b)] [] (one (.bool rv)) []:=by
 refine aP func31 fun Γ=>?_
 simp only[nV,ay,an,ao]at h;rcases h with⟨h0,h⟩|⟨h0,e0,h5,h⟩
 ·obtain rfl:=oK h;exact gr 8 [] [nL bR a.av,nL bR b.av,hP,hP,hP,rp 2 (oI ((bK (aB a.av) (aB b.av))=false)),nL al.enc a.aI,hP,hP,hP,rp 2 (oI ((bK (aB a.av) (aB b.av))=false)),nL al.enc b.aI,hP,hP,rp 2 (oI ((bK (aB a.av) (aB b.av))=false)),oR True ((bK (aB a.av) (aB b.av))=false),bT h0]
 ·refine gn 12 [2,3,5] [0,1] [nL bR a.av,nL bR b.av,hP,hP,hP,rp 2 (oI ((bK (aB a.av) (aB b.av))=false)),nL al.enc a.aI,hP,hP,hP,rp 2 (oI ((bK (aB a.av) (aB b.av))=false)),nL al.enc b.aI,hP,hP,rp 2 (oI ((bK (aB a.av) (aB b.av))=false)),oR True ((bK (aB a.av) (aB b.av))=false),bF h0] (Br Γ rv h5 ?_);rcases e0 with e0|r3
  ·simp only[iB,ay,an,ao]at h;obtain⟨e1,iH,h⟩:=h;refine gn 5 [2,3,6] [0,1] [] (Bt Γ rv iH ?_);rcases e1 with e1|r2
   ·obtain rfl:=oK h;exact gr 2 [] []
   ·exact oK h
  ·exact oK h
def xO(Γ:a5)(rv:Bool)(cf:Cf):Prop:=Go prog f32 [] Γ (one (.bool rv)) [] cf
def Cr(Γ:a5)(rv:Bool)(a b:ag)(i:Int):Prop:=xO Γ rv ⟨[.c 116,.l 116,.b 0,.c 15],⟨120,[vP 2 0 14,vP 3 1 14,vI 5 i],[oX 14 70 (ag.enc a),oX 14 70 (ag.enc b)]⟩⟩
def Be(Γ:a5)(rv:Bool)(a b:ag):Prop:=xO Γ rv ⟨[.c 15],⟨120,[vP 2 0 14,vP 3 1 14],[oX 14 70 (ag.enc a),oX 14 70 (ag.enc b)]⟩⟩
theorem Bf(Γ:a5)(rv:Bool){a b}:∀⦃s:Int⦄ ⦃e:(Unit)⊕(Bool)⦄,aF (fun s=>fQ a b s) s=some e→jB e (fun e=>Be Γ rv a b) (fun e=>e=rv)→Cr Γ rv a b s:=by
 refine aY ?_
 intro i z_ h hI hE;simp only[fQ,ay,an,ao]at h;rcases h with⟨h1,x0,h2,x1,h3,⟨h4,h⟩|⟨h4,h⟩⟩|⟨h1,h⟩
 ·obtain rfl:=(hE h:_=rv);exact gr 12 [] [nL aq a.cap,bT h1,hH (.draw 11 []),cE aq h2,cE aq h3,bT h4]
 ·exact gn 14 [2,3,5] [0,1] [nL aq a.cap,bT h1,hH (.draw 11 []),cE aq h2,cE aq h3,bF h4] (hI h)
 ·exact gn 5 [2,3] [0,1] [nL aq a.cap,bF h1] (hE h)
theorem wG{a b}{rv:Bool}(h:nR a b=some rv):dd prog 32 [.agg (ag.enc a),.agg (ag.enc b)] [] (one (.bool rv)) []:=by
 refine aP func32 fun Γ=>?_
 simp only[nR,ay,an,ao]at h;rcases h with⟨h0,h⟩|⟨h0,e0,h5,h⟩
 ·obtain rfl:=oK h;exact gr 8 [] [nL aq a.cap,nL aq b.cap,bT h0]
 ·refine gn 12 [2,3,5] [0,1] [nL aq a.cap,nL aq b.cap,bF h0] (Bf Γ rv h5 ?_);rcases e0 with e0|r
  ·cases h
   exact gr 2 [] [rp 72 hP,rp 4 (oI ((qn a.name b.name)=true)),oR True ((qn a.name b.name)=true),rp 4 (oI (((qn a.name b.name)&&(aW a.dT b.dT))=true)),oR True (((qn a.name b.name)&&(aW a.dT b.dT))=true),rp 4 (oI ((((qn a.name b.name)&&(aW a.dT b.dT))&&(aW a.az b.az))=true)),oR True ((((qn a.name b.name)&&(aW a.dT b.dT))&&(aW a.az b.az))=true),rp 4 (oI (((((qn a.name b.name)&&(aW a.dT b.dT))&&(aW a.az b.az))&&(aW a.cw b.cw))=true)),oR True (((((qn a.name b.name)&&(aW a.dT b.dT))&&(aW a.az b.az))&&(aW a.cw b.cw))=true),rp 4 (oI ((((((qn a.name b.name)&&(aW a.dT b.dT))&&(aW a.az b.az))&&(aW a.cw b.cw))&&(aW a.aL b.aL))=true)),oR True ((((((qn a.name b.name)&&(aW a.dT b.dT))&&(aW a.az b.az))&&(aW a.cw b.cw))&&(aW a.aL b.aL))=true),rp 4 (oI (((((((qn a.name b.name)&&(aW a.dT b.dT))&&(aW a.az b.az))&&(aW a.cw b.cw))&&(aW a.aL b.aL))&&(aW a.ai b.ai))=true)),oR True (((((((qn a.name b.name)&&(aW a.dT b.dT))&&(aW a.az b.az))&&(aW a.cw b.cw))&&(aW a.aL b.aL))&&(aW a.ai b.ai))=true),rp 4 (oI ((((((((qn a.name b.name)&&(aW a.dT b.dT))&&(aW a.az b.az))&&(aW a.cw b.cw))&&(aW a.aL b.aL))&&(aW a.ai b.ai))&&(aW a.aH b.aH))=true)),oR True ((((((((qn a.name b.name)&&(aW a.dT b.dT))&&(aW a.az b.az))&&(aW a.cw b.cw))&&(aW a.aL b.aL))&&(aW a.ai b.ai))&&(aW a.aH b.aH))=true),rp 4 (oI (((((((((qn a.name b.name)&&(aW a.dT b.dT))&&(aW a.az b.az))&&(aW a.cw b.cw))&&(aW a.aL b.aL))&&(aW a.ai b.ai))&&(aW a.aH b.aH))&&(aW a.aQ b.aQ))=true)),oR True (((((((((qn a.name b.name)&&(aW a.dT b.dT))&&(aW a.az b.az))&&(aW a.cw b.cw))&&(aW a.aL b.aL))&&(aW a.ai b.ai))&&(aW a.aH b.aH))&&(aW a.aQ b.aQ))=true),rp 4 (oI ((((((((((qn a.name b.name)&&(aW a.dT b.dT))&&(aW a.az b.az))&&(aW a.cw b.cw))&&(aW a.aL b.aL))&&(aW a.ai b.ai))&&(aW a.aH b.aH))&&(aW a.aQ b.aQ))&&(aW a.iU b.iU))=true)),oR True ((((((((((qn a.name b.name)&&(aW a.dT b.dT))&&(aW a.az b.az))&&(aW a.cw b.cw))&&(aW a.aL b.aL))&&(aW a.ai b.ai))&&(aW a.aH b.aH))&&(aW a.aQ b.aQ))&&(aW a.iU b.iU))=true),rp 4 (oI (((((((((((qn a.name b.name)&&(aW a.dT b.dT))&&(aW a.az b.az))&&(aW a.cw b.cw))&&(aW a.aL b.aL))&&(aW a.ai b.ai))&&(aW a.aH b.aH))&&(aW a.aQ b.aQ))&&(aW a.iU b.iU))&&(aW a.cK b.cK))=true)),oR True (((((((((((qn a.name b.name)&&(aW a.dT b.dT))&&(aW a.az b.az))&&(aW a.cw b.cw))&&(aW a.aL b.aL))&&(aW a.ai b.ai))&&(aW a.aH b.aH))&&(aW a.aQ b.aQ))&&(aW a.iU b.iU))&&(aW a.cK b.cK))=true),rp 4 (oI ((((((((((((qn a.name b.name)&&(aW a.dT b.dT))&&(aW a.az b.az))&&(aW a.cw b.cw))&&(aW a.aL b.aL))&&(aW a.ai b.ai))&&(aW a.aH b.aH))&&(aW a.aQ b.aQ))&&(aW a.iU b.iU))&&(aW a.cK b.cK))&&(aW a.jm b.jm))=true)),oR True ((((((((((((qn a.name b.name)&&(aW a.dT b.dT))&&(aW a.az b.az))&&(aW a.cw b.cw))&&(aW a.aL b.aL))&&(aW a.ai b.ai))&&(aW a.aH b.aH))&&(aW a.aQ b.aQ))&&(aW a.iU b.iU))&&(aW a.cK b.cK))&&(aW a.jm b.jm))=true),rp 4 (oI (((((((((((((qn a.name b.name)&&(aW a.dT b.dT))&&(aW a.az b.az))&&(aW a.cw b.cw))&&(aW a.aL b.aL))&&(aW a.ai b.ai))&&(aW a.aH b.aH))&&(aW a.aQ b.aQ))&&(aW a.iU b.iU))&&(aW a.cK b.cK))&&(aW a.jm b.jm))&&(aW a.eR b.eR))=true)),oR True (((((((((((((qn a.name b.name)&&(aW a.dT b.dT))&&(aW a.az b.az))&&(aW a.cw b.cw))&&(aW a.aL b.aL))&&(aW a.ai b.ai))&&(aW a.aH b.aH))&&(aW a.aQ b.aQ))&&(aW a.iU b.iU))&&(aW a.cK b.cK))&&(aW a.jm b.jm))&&(aW a.eR b.eR))=true)]
  ·exact oK h
def xP(Γ:a5)(rv:Bool)(cf:Cf):Prop:=Go prog f59 [] Γ (one (.bool rv)) [] cf
def Cs(Γ:a5)(rv:Bool)(a b:List Int)(i:Int):Prop:=xP Γ rv ⟨[.c 116,.l 116,.b 0,.c 15],⟨26,[vL 0 1 a aq,vL 1 1 b aq,vI 5 i],[]⟩⟩
def Bk(Γ:a5)(rv:Bool)(a b:List Int):Prop:=xP Γ rv ⟨[.c 15],⟨26,[],[]⟩⟩
theorem Bl(Γ:a5)(rv:Bool){a b}:∀⦃s:Int⦄ ⦃e:(Unit)⊕(Bool)⦄,aF (fun s=>fT a b s) s=some e→jB e (fun e=>Bk Γ rv a b) (fun e=>e=rv)→Cs Γ rv a b s:=by
 refine aY ?_
 intro i z_ h hI hE;simp only[fT,ay,an,ao]at h;rcases h with⟨h1,x0,h2,x1,h3,⟨h4,h⟩|⟨h4,h⟩⟩|⟨h1,h⟩
 ·obtain rfl:=(hE h:_=rv);exact gr 12 [] [nL aq a,bT h1,hH (.draw 9 []),cE aq h2,cE aq h3,bT h4]
 ·exact gn 14 [0,1,5] [] [nL aq a,bT h1,hH (.draw 9 []),cE aq h2,cE aq h3,bF h4] (hI h)
 ·exact gn 5 [] [] [nL aq a,bF h1] (hE h)
theorem EV{a b}{rv:Bool}(h:nU a b=some rv):dd prog 59 [.one (lL 1 a aq),.one (lL 1 b aq)] [] (one (.bool rv)) []:=by
 refine aP func59 fun Γ=>?_
 simp only[nU,ay,an,ao]at h;rcases h with⟨h0,h⟩|⟨h0,e0,h5,h⟩
 ·obtain rfl:=oK h;exact gr 8 [] [nL aq a,nL aq b,bT h0]
 ·refine gn 12 [0,1,5] [] [nL aq a,nL aq b,bF h0] (Bl Γ rv h5 ?_);rcases e0 with e0|r
  ·obtain rfl:=oK h;exact gr 2 [] []
  ·exact oK h
theorem wI{a b}{rv:Bool}(h:nS a b=some rv):dd prog 33 [.agg (ab.enc a),.agg (ab.enc b)] [] (one (.bool rv)) []:=by
 refine aP func33 fun Γ=>?_
 simp only[nS,ay,an,ao]at h;rcases h with⟨h0,r,h1,h⟩|⟨h0,h⟩
 ·cases h
  exact gr 4 [] [rp 5 (bT h0),cC (EV h1),bT h0,rp 48 hP,rp 4 (oI (r=true)),oR True (r=true),rp 4 (oI ((r&&(aW a.pick.place b.pick.place&&(aW a.pick.aH b.pick.aH&&(aW a.pick.aQ b.pick.aQ&&(aW a.pick.aR b.pick.aR&&true)))))=true)),oR True ((r&&(aW a.pick.place b.pick.place&&(aW a.pick.aH b.pick.aH&&(aW a.pick.aQ b.pick.aQ&&(aW a.pick.aR b.pick.aR&&true)))))=true),rp 4 (oI (((r&&(aW a.pick.place b.pick.place&&(aW a.pick.aH b.pick.aH&&(aW a.pick.aQ b.pick.aQ&&(aW a.pick.aR b.pick.aR&&true)))))&&(aW a.drop.place b.drop.place&&(aW a.drop.aH b.drop.aH&&(aW a.drop.aQ b.drop.aQ&&(aW a.drop.aR b.drop.aR&&true)))))=true)),oR True (((r&&(aW a.pick.place b.pick.place&&(aW a.pick.aH b.pick.aH&&(aW a.pick.aQ b.pick.aQ&&(aW a.pick.aR b.pick.aR&&true)))))&&(aW a.drop.place b.drop.place&&(aW a.drop.aH b.drop.aH&&(aW a.drop.aQ b.drop.aQ&&(aW a.drop.aR b.drop.aR&&true)))))=true),rp 4 (oI ((((r&&(aW a.pick.place b.pick.place&&(aW a.pick.aH b.pick.aH&&(aW a.pick.aQ b.pick.aQ&&(aW a.pick.aR b.pick.aR&&true)))))&&(aW a.drop.place b.drop.place&&(aW a.drop.aH b.drop.aH&&(aW a.drop.aQ b.drop.aQ&&(aW a.drop.aR b.drop.aR&&true)))))&&(aW a.aL b.aL))=true)),oR True ((((r&&(aW a.pick.place b.pick.place&&(aW a.pick.aH b.pick.aH&&(aW a.pick.aQ b.pick.aQ&&(aW a.pick.aR b.pick.aR&&true)))))&&(aW a.drop.place b.drop.place&&(aW a.drop.aH b.drop.aH&&(aW a.drop.aQ b.drop.aQ&&(aW a.drop.aR b.drop.aR&&true)))))&&(aW a.aL b.aL))=true),rp 4 (oI (((((r&&(aW a.pick.place b.pick.place&&(aW a.pick.aH b.pick.aH&&(aW a.pick.aQ b.pick.aQ&&(aW a.pick.aR b.pick.aR&&true)))))&&(aW a.drop.place b.drop.place&&(aW a.drop.aH b.drop.aH&&(aW a.drop.aQ b.drop.aQ&&(aW a.drop.aR b.drop.aR&&true)))))&&(aW a.aL b.aL))&&(aW a.bg b.bg))=true)),oR True (((((r&&(aW a.pick.place b.pick.place&&(aW a.pick.aH b.pick.aH&&(aW a.pick.aQ b.pick.aQ&&(aW a.pick.aR b.pick.aR&&true)))))&&(aW a.drop.place b.drop.place&&(aW a.drop.aH b.drop.aH&&(aW a.drop.aQ b.drop.aQ&&(aW a.drop.aR b.drop.aR&&true)))))&&(aW a.aL b.aL))&&(aW a.bg b.bg))=true),rp 4 (oI ((((((r&&(aW a.pick.place b.pick.place&&(aW a.pick.aH b.pick.aH&&(aW a.pick.aQ b.pick.aQ&&(aW a.pick.aR b.pick.aR&&true)))))&&(aW a.drop.place b.drop.place&&(aW a.drop.aH b.drop.aH&&(aW a.drop.aQ b.drop.aQ&&(aW a.drop.aR b.drop.aR&&true)))))&&(aW a.aL b.aL))&&(aW a.bg b.bg))&&(aW a.split b.split))=true)),oR True ((((((r&&(aW a.pick.place b.pick.place&&(aW a.pick.aH b.pick.aH&&(aW a.pick.aQ b.pick.aQ&&(aW a.pick.aR b.pick.aR&&true)))))&&(aW a.drop.place b.drop.place&&(aW a.drop.aH b.drop.aH&&(aW a.drop.aQ b.drop.aQ&&(aW a.drop.aR b.drop.aR&&true)))))&&(aW a.aL b.aL))&&(aW a.bg b.bg))&&(aW a.split b.split))=true),rp 4 (oI (((((((r&&(aW a.pick.place b.pick.place&&(aW a.pick.aH b.pick.aH&&(aW a.pick.aQ b.pick.aQ&&(aW a.pick.aR b.pick.aR&&true)))))&&(aW a.drop.place b.drop.place&&(aW a.drop.aH b.drop.aH&&(aW a.drop.aQ b.drop.aQ&&(aW a.drop.aR b.drop.aR&&true)))))&&(aW a.aL b.aL))&&(aW a.bg b.bg))&&(aW a.split b.split))&&(aW a.a3 b.a3))=true)),oR True (((((((r&&(aW a.pick.place b.pick.place&&(aW a.pick.aH b.pick.aH&&(aW a.pick.aQ b.pick.aQ&&(aW a.pick.aR b.pick.aR&&true)))))&&(aW a.drop.place b.drop.place&&(aW a.drop.aH b.drop.aH&&(aW a.drop.aQ b.drop.aQ&&(aW a.drop.aR b.drop.aR&&true)))))&&(aW a.aL b.aL))&&(aW a.bg b.bg))&&(aW a.split b.split))&&(aW a.a3 b.a3))=true),rp 4 (oI ((((((((r&&(aW a.pick.place b.pick.place&&(aW a.pick.aH b.pick.aH&&(aW a.pick.aQ b.pick.aQ&&(aW a.pick.aR b.pick.aR&&true)))))&&(aW a.drop.place b.drop.place&&(aW a.drop.aH b.drop.aH&&(aW a.drop.aQ b.drop.aQ&&(aW a.drop.aR b.drop.aR&&true)))))&&(aW a.aL b.aL))&&(aW a.bg b.bg))&&(aW a.split b.split))&&(aW a.a3 b.a3))&&(aW a.now b.now))=true)),oR True ((((((((r&&(aW a.pick.place b.pick.place&&(aW a.pick.aH b.pick.aH&&(aW a.pick.aQ b.pick.aQ&&(aW a.pick.aR b.pick.aR&&true)))))&&(aW a.drop.place b.drop.place&&(aW a.drop.aH b.drop.aH&&(aW a.drop.aQ b.drop.aQ&&(aW a.drop.aR b.drop.aR&&true)))))&&(aW a.aL b.aL))&&(aW a.bg b.bg))&&(aW a.split b.split))&&(aW a.a3 b.a3))&&(aW a.now b.now))=true)]
 ·obtain rfl:=oK h;exact gr 4 [] [rp 6 (bF h0),rp 48 fF]
def wM(Γ:a5)(rv:Bool)(cf:Cf):Prop:=Go prog f34 [] Γ (one (.bool rv)) [] cf
def Bu(Γ:a5)(rv:Bool)(a b:List aA)(i:Int):Prop:=wM Γ rv ⟨[.c 116,.l 116,.b 0,.c 15],⟨26,[vL 0 2 a aA.enc,vL 1 2 b aA.enc,vI 5 i],[]⟩⟩
def Af(Γ:a5)(rv:Bool)(a b:List aA):Prop:=wM Γ rv ⟨[.c 15],⟨26,[],[]⟩⟩
theorem Ag(Γ:a5)(rv:Bool){a b}:∀⦃s:Int⦄ ⦃e:(Unit)⊕(Bool)⦄,aF (fun s=>fC a b s) s=some e→jB e (fun e=>Af Γ rv a b) (fun e=>e=rv)→Bu Γ rv a b s:=by
 refine aY ?_
 intro i z_ h hI hE;simp only[fC,ay,an,ao]at h;rcases h with⟨h1,x0,h2,x1,h3,⟨h4,h⟩|⟨h4,h⟩⟩|⟨h1,h⟩
 ·exact gn 14 [0,1,5] [] [nL aA.enc a,bT h1,hH (.draw 9 []),cE aA.enc h2,cE aA.enc h3,nF h4] (hI h)
 ·obtain rfl:=(hE h:_=rv);exact gr 12 [] [nL aA.enc a,bT h1,hH (.draw 9 []),cE aA.enc h2,cE aA.enc h3,nT h4]
 ·exact gn 5 [] [] [nL aA.enc a,bF h1] (hE h)
theorem pS{a b}{rv:Bool}(h:kV a b=some rv):dd prog 34 [.one (lL 2 a aA.enc),.one (lL 2 b aA.enc)] [] (one (.bool rv)) []:=by
 refine aP func34 fun Γ=>?_
 simp only[kV,ay,an,ao]at h;rcases h with⟨h0,h⟩|⟨h0,e0,h5,h⟩
 ·obtain rfl:=oK h;exact gr 8 [] [nL aA.enc a,nL aA.enc b,bT h0]
 ·refine gn 12 [0,1,5] [] [nL aA.enc a,nL aA.enc b,bF h0] (Ag Γ rv h5 ?_);rcases e0 with e0|r
  ·obtain rfl:=oK h;exact gr 2 [] []
  ·exact oK h
def oC(Γ:a5)(rv:Bool)(cf:Cf):Prop:=Go prog f12 [] Γ (one (.bool rv)) [] cf
def Cu(Γ:a5)(rv:Bool)(a b:ae)(i:Int):Prop:=oC Γ rv ⟨[.c 116,.l 116,.b 0,.c 15],⟨81,[vP 2 0 6,vP 3 1 6,vI 5 i],[oX 6 30 (ae.enc a),oX 6 30 (ae.enc b)]⟩⟩
def Bm(Γ:a5)(rv:Bool)(a b:ae):Prop:=oC Γ rv ⟨[.c 15],⟨81,[vP 2 0 6,vP 3 1 6],[oX 6 30 (ae.enc a),oX 6 30 (ae.enc b)]⟩⟩
def Cv(Γ:a5)(rv:Bool)(a b:ae)(i1:Int):Prop:=oC Γ rv ⟨[.c 244,.l 244,.b 2,.c 31],⟨81,[vP 2 0 6,vP 3 1 6,vI 6 i1],[oX 6 30 (ae.enc a),oX 6 30 (ae.enc b)]⟩⟩
def Bo(Γ:a5)(rv:Bool)(a b:ae):Prop:=oC Γ rv ⟨[.c 31],⟨81,[vP 2 0 6,vP 3 1 6],[oX 6 30 (ae.enc a),oX 6 30 (ae.enc b)]⟩⟩
theorem Bn(Γ:a5)(rv:Bool){a b}:∀⦃s:Int⦄ ⦃e:(Unit)⊕(Bool)⦄,aF (fun s=>fV a b s) s=some e→jB e (fun e=>Bm Γ rv a b) (fun e=>e=rv)→Cu Γ rv a b s:=by
 refine aY ?_
 intro i z_ h hI hE;simp only[fV,ay,an,ao]at h;rcases h with⟨h2,x0,h3,x1,h4,r1,h5,⟨h6,h⟩|⟨h6,h⟩⟩|⟨h2,h⟩
 ·exact gn 14 [2,3,5] [0,1] [nL ag.enc a.types,bT h2,hH (.draw 12 []),cE ag.enc h3,cE ag.enc h4,cC (wG h5),nF h6] (hI h)
 ·obtain rfl:=(hE h:_=rv);exact gr 12 [] [nL ag.enc a.types,bT h2,hH (.draw 12 []),cE ag.enc h3,cE ag.enc h4,cC (wG h5),nT h6]
 ·exact gn 5 [2,3] [0,1] [nL ag.enc a.types,bF h2] (hE h)
theorem Bp(Γ:a5)(rv:Bool){a b}:∀⦃s:Int⦄ ⦃e:(Unit)⊕(Bool)⦄,aF (fun s=>fW a b s) s=some e→jB e (fun e=>Bo Γ rv a b) (fun e=>e=rv)→Cv Γ rv a b s:=by
 refine aY ?_
 intro i1 z_ h hI hE;simp only[fW,ay,an,ao]at h;rcases h with⟨h8,x2,h9,x3,dq,r2,fM,⟨fN,h⟩|⟨fN,h⟩⟩|⟨h8,h⟩
 ·exact gn 14 [2,3,6] [0,1] [nL ab.enc a.aj,bT h8,hH (.draw 12 []),cE ab.enc h9,cE ab.enc dq,cC (wI fM),nF fN] (hI h)
 ·obtain rfl:=(hE h:_=rv);exact gr 12 [] [nL ab.enc a.aj,bT h8,hH (.draw 12 []),cE ab.enc h9,cE ab.enc dq,cC (wI fM),nT fN]
 ·exact gn 5 [2,3] [0,1] [nL ab.enc a.aj,bF h8] (hE h)
theorem qA{a b}{rv:Bool}(h:gh a b=some rv):dd prog 12 [.agg (ae.enc a),.agg (ae.enc b)] [] (one (.bool rv)) []:=by
 refine aP func12 fun Γ=>?_
 simp only[gh,ay,an,ao]at h;rcases h with⟨r,h0,⟨h1,h⟩|⟨h1,e0,h7,h⟩⟩
 ·obtain rfl:=oK h;exact gr 8 [] [cC (wL h0),hP,hP,hP,rp 2 (oI ((!r)=false)),nL ag.enc a.types,hP,hP,hP,rp 2 (oI ((!r)=false)),nL ag.enc b.types,rp 5 hP,rp 2 (oI ((!r)=false)),oR True ((!r)=false),rp 2 (oI (((!r)||(bK (aB a.types) (aB b.types)))=false)),nL ab.enc a.aj,hP,hP,hP,rp 2 (oI (((!r)||(bK (aB a.types) (aB b.types)))=false)),nL ab.enc b.aj,hP,hP,rp 2 (oI (((!r)||(bK (aB a.types) (aB b.types)))=false)),oR True (((!r)||(bK (aB a.types) (aB b.types)))=false),bT h1]
 ·refine gn 12 [2,3,5] [0,1] [cC (wL h0),hP,hP,hP,rp 2 (oI ((!r)=false)),nL ag.enc a.types,hP,hP,hP,rp 2 (oI ((!r)=false)),nL ag.enc b.types,rp 5 hP,rp 2 (oI ((!r)=false)),oR True ((!r)=false),rp 2 (oI (((!r)||(bK (aB a.types) (aB b.types)))=false)),nL ab.enc a.aj,hP,hP,hP,rp 2 (oI (((!r)||(bK (aB a.types) (aB b.types)))=false)),nL ab.enc b.aj,hP,hP,rp 2 (oI (((!r)||(bK (aB a.types) (aB b.types)))=false)),oR True (((!r)||(bK (aB a.types) (aB b.types)))=false),bF h1] (Bn Γ rv h7 ?_);rcases e0 with e0|r6
  ·simp only[iB,ay,an,ao]at h;obtain⟨e1,gC,h⟩:=h;refine gn 5 [2,3,6] [0,1] [] (Bp Γ rv gC ?_);rcases e1 with e1|r5
   ·simp only[iB,ay,an,ao]at h;rcases h with⟨r3,iH,⟨kT,r4,mo,h⟩|⟨kT,h⟩⟩
    ·obtain rfl:=oK h;exact gr 2 [] [cC (pS iH),rp 5 (bT kT),cC (pS mo),bT kT]
    ·obtain rfl:=oK h;exact gr 2 [] [cC (pS iH),rp 6 (bF kT)]
   ·exact oK h
  ·exact oK h
def uG(Γ:a5)(rv:ae×Int)(cf:Cf):Prop:=Go prog f10 [] Γ (.pX [.agg [lL 1 rv.1.b8.av bR,lL 6 rv.1.b8.aI al.enc,lL 14 rv.1.types ag.enc,lO 0 16 rv.1.aj ab.enc,lL 2 rv.1.cb aA.enc,lL 2 rv.1.before aA.enc],.one (lI rv.2)]) [oS 16 56 rv.1.aj ab.enc] cf
def zk(Γ:a5)(rv:ae×Int)(x0:ae)(r1:aV)(r2 l:List ab)(v:Int):Prop:=uG Γ rv ⟨[.c 500,.l 500,.b 0,.c 63],⟨49,[vP 1 0 6,vP 2 1 6,(4,one (.ip (aV.enc r1) 0)),vO 18 2 16 l ab.enc,vI 19 (aB r2),vI 20 v],[oX 6 30 [lL 1 x0.b8.av bR,lL 6 x0.b8.aI al.enc,lL 14 x0.types ag.enc,lO 2 16 l ab.enc,lL 2 x0.cb aA.enc,lL 2 x0.before aA.enc],oX 6 30 [.cM,.cM,.cM,.cM,.cM,.cM],oS 16 56 l ab.enc]⟩⟩
def yD(Γ:a5)(rv:ae×Int)(x0:ae)(r1:aV)(r2 l1:List ab):Prop:=uG Γ rv ⟨[.c 63],⟨49,[vP 1 0 6,vP 2 1 6],[oX 6 30 [lL 1 x0.b8.av bR,lL 6 x0.b8.aI al.enc,lL 14 x0.types ag.enc,lO 2 16 l1 ab.enc,lL 2 x0.cb aA.enc,lL 2 x0.before aA.enc],oX 6 30 [.cM,.cM,.cM,.cM,.cM,.cM],oS 16 56 l1 ab.enc]⟩⟩
theorem yF(Γ:a5)(rv:ae×Int){x0 r1 r2}:∀⦃s:List ab×Int⦄ ⦃e:List ab⦄,aF (fun s=>oh x0 r1 r2 s.1 s.2) s=some e→yD Γ rv x0 r1 r2 e→zk Γ rv x0 r1 r2 s.1 s.2:=by
 refine aY ?_
 rintro⟨l,v⟩ z_ h hI hE;simp only[oh,ay,an,ao]at h;rcases h with⟨h4,x1,h5,⟨h6,h⟩|⟨h6,r3,h7,r4,h8,h⟩⟩|⟨h4,h⟩
 ·exact gn 16 [1,2,4,18,19,20] [0,1,2] [bT h4,oO (eW h5),oO (eV ab.enc h5),rE ab.enc h5,bT h6] (hI h)
 ·exact gn 20 [1,2,4,18,19,20] [0,1,2] [bT h4,oO (eW h5),oO (eV ab.enc h5),rE ab.enc h5,bF h6,hH (.draw 10 []),cC (lN h7),oO (eW h5),oO (eV ab.enc h5),rE ab.enc h5,hH (.rows ((fi l v (ab.mk x1.name x1.load r3 x1.drop x1.aL x1.bg x1.split x1.a3 x1.now x1.off)).map ab.enc)),hH (.re 2 ((fi l v (ab.mk x1.name x1.load r3 x1.drop x1.aL x1.bg x1.split x1.a3 x1.now x1.off)).map ab.enc).length),hH (.draw 10 []),oO (C7 ab.enc l v (ab.mk x1.name x1.load r3 x1.drop x1.aL x1.bg x1.split x1.a3 x1.now x1.off)),rp 3 (oO (oV ab.enc l v (ab.mk x1.name x1.load r3 x1.drop x1.aL x1.bg x1.split x1.a3 x1.now x1.off))),cC (lN h8),oO (eW (getSet h5 (ab.mk x1.name x1.load r3 x1.drop x1.aL x1.bg x1.split x1.a3 x1.now x1.off))),oO (eV ab.enc (getSet h5 (ab.mk x1.name x1.load r3 x1.drop x1.aL x1.bg x1.split x1.a3 x1.now x1.off))),rE ab.enc (getSet h5 (ab.mk x1.name x1.load r3 x1.drop x1.aL x1.bg x1.split x1.a3 x1.now x1.off)),hH (.rows ((fi (fi l v (ab.mk x1.name x1.load r3 x1.drop x1.aL x1.bg x1.split x1.a3 x1.now x1.off)) v (ab.mk x1.name x1.load r3 r4 x1.aL x1.bg x1.split x1.a3 x1.now x1.off)).map ab.enc)),hH (.re 2 ((fi (fi l v (ab.mk x1.name x1.load r3 x1.drop x1.aL x1.bg x1.split x1.a3 x1.now x1.off)) v (ab.mk x1.name x1.load r3 r4 x1.aL x1.bg x1.split x1.a3 x1.now x1.off)).map ab.enc).length),oO (C7 ab.enc (fi l v (ab.mk x1.name x1.load r3 x1.drop x1.aL x1.bg x1.split x1.a3 x1.now x1.off)) v (ab.mk x1.name x1.load r3 r4 x1.aL x1.bg x1.split x1.a3 x1.now x1.off)),rp 4 (oO (oV ab.enc (fi l v (ab.mk x1.name x1.load r3 x1.drop x1.aL x1.bg x1.split x1.a3 x1.now x1.off)) v (ab.mk x1.name x1.load r3 r4 x1.aL x1.bg x1.split x1.a3 x1.now x1.off)))] (hI h)
 ·exact gn 5 [1,2] [0,1,2] [bF h4] (hE h)
theorem BD{x0}{rv:ae×Int}(h:nA x0=some rv):dd prog 10 [.agg (ae.enc x0)] [] (.pX [.agg [lL 1 rv.1.b8.av bR,lL 6 rv.1.b8.aI al.enc,lL 14 rv.1.types ag.enc,lO 0 16 rv.1.aj ab.enc,lL 2 rv.1.cb aA.enc,lL 2 rv.1.before aA.enc],.one (lI rv.2)]) [oS 16 56 rv.1.aj ab.enc]:=by
 refine aP func10 fun Γ=>?_
 simp only[nA,ay,an,ao]at h;rcases h with⟨r,h0,⟨h1,r1,h2,r2,h3,l1,h9,h⟩|⟨h1,h⟩⟩
 ·refine gn 16 [1,2,4,18,19,20] [0,1,2] [cC (lV h0),nF h1,cC (sL h2),cC (iO h3),nL ab.enc r2] (yF Γ rv h9 ?_);cases h;exact gr 2 [2] []
 ·cases h;exact gr 8 [2] [cC (lV h0),nT h1,hW 5,hH (.fg 1 0 1),hH (.fg 1 1 6),hH (.fg 1 2 14),hH (.jS 1 3 16 56),hH (.fg 1 4 2),hH (.fg 1 5 2)]
end
end Go.Proofs.YtbilkblifgaflaaGreatDoor
