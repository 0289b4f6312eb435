/- Part MV. -/
import Derived.Test.YtkcilfpbgjjjbaaGreatDoorMU
import Derived.Test.YtkcilfpbgjjjbaaGreatDoorProg
set_option linter.unusedSimpArgs false
set_option linter.unusedVariables false
set_option linter.unusedSectionVars false
namespace Go.Proofs.YtkcilfpbgjjjbaaGreatDoor
open _root_.Go.Proofs.Tryz
section
set_option maxHeartbeats 4000000
set_option maxRecDepth 100000
def wC(Γ:bu)(rv:List Int)(cf:Cf):Prop:=Go prog f165 [] Γ (one (lL 1 rv ai)) [] cf
def KS(Γ:bu)(rv:List Int)(before:List aA)(l l2:List Int)(Se:Bool)(v:Int):Prop:=wC Γ rv ⟨[.c 7468,.l 7468,.b 2,.b 1,.l 116,.b 0,.c 15],⟨68,[vL 1 2 before aA.enc,vO 5 0 1 l2 ai,vB 6 Se,vL 16 2 before aA.enc,vI 17 (az before),vI 18 v],[oS 1 3 l2 ai]⟩⟩
def I3(Γ:bu)(rv:List Int)(before:List aA)(l l3:List Int)(Zz:Bool):Prop:=wC Γ rv ⟨[.b 1,.l 116,.b 0,.c 15],⟨68,[vL 1 2 before aA.enc,vO 5 0 1 l3 ai,vB 6 Zz],[oS 1 3 l3 ai]⟩⟩
def KR(Γ:bu)(rv:List Int)(before:List aA)(l l1:List Int)(more:Bool):Prop:=wC Γ rv ⟨[.c 116,.l 116,.b 0,.c 15],⟨68,[vL 1 2 before aA.enc,vO 5 0 1 l1 ai,vB 6 more],[oS 1 3 l1 ai]⟩⟩
def I1(Γ:bu)(rv:List Int)(before:List aA)(l l4:List Int):Prop:=wC Γ rv ⟨[.c 15],⟨68,[vO 5 0 1 l4 ai],[oS 1 3 l4 ai]⟩⟩
theorem I4(Γ:bu)(rv:List Int){before l}:∀⦃s:List Int×Bool×Int⦄ ⦃e:List Int×Bool⦄,aL (fun s=>qY before l s.1 s.2.1 s.2.2) s=some e→I3 Γ rv before l e.1 e.2→KS Γ rv before l s.1 s.2.1 s.2.2:=by
 refine bl ?_
 rintro⟨l2,Se,v⟩ z_ h hI hE;simp only[qY,aB,ar,au,av]at h;rcases h with⟨h2,x0,h3,⟨h4,h⟩|⟨h4,x1,h5,x2,h6,h7,⟨h8,h⟩|⟨h8,h⟩⟩⟩|⟨h2,h⟩
 ·exact gn 18 [1,5,6,16,17,18] [0] [bT h2,cE aA.enc h3,hH (.draw 6 []),rp 6 hP,oO (zL 0),oO (lT 0 2),oO (zL 1),oO (lT 1 2),oI ((bh x0.x0 0)=false),oR True ((bh x0.x0 0)=false),oI (((bh x0.x0 0)||(bh x0.x1 0))=false),nL ai l2,rp 5 hP,rp 2 (oI (((bh x0.x0 0)||(bh x0.x1 0))=false)),oR True (((bh x0.x0 0)||(bh x0.x1 0))=false),oI ((((bh x0.x0 0)||(bh x0.x1 0))||(cD x0.x0 (az l2)))=false),nL ai l2,hP,hP,rp 2 (oI ((((bh x0.x0 0)||(bh x0.x1 0))||(cD x0.x0 (az l2)))=false)),oR True ((((bh x0.x0 0)||(bh x0.x1 0))||(cD x0.x0 (az l2)))=false),bT h4] (hI h)
 ·exact gn 27 [1,5,6,16,17,18] [0] [bT h2,cE aA.enc h3,hH (.draw 6 []),rp 6 hP,oO (zL 0),oO (lT 0 2),oO (zL 1),oO (lT 1 2),oI ((bh x0.x0 0)=false),oR True ((bh x0.x0 0)=false),oI (((bh x0.x0 0)||(bh x0.x1 0))=false),nL ai l2,rp 5 hP,rp 2 (oI (((bh x0.x0 0)||(bh x0.x1 0))=false)),oR True (((bh x0.x0 0)||(bh x0.x1 0))=false),oI ((((bh x0.x0 0)||(bh x0.x1 0))||(cD x0.x0 (az l2)))=false),nL ai l2,hP,hP,rp 2 (oI ((((bh x0.x0 0)||(bh x0.x1 0))||(cD x0.x0 (az l2)))=false)),oR True ((((bh x0.x0 0)||(bh x0.x1 0))||(cD x0.x0 (az l2)))=false),bF h4,hH (.draw 13 []),oO (fJ h5),oO (fI ai h5),rE ai h5,oO (fJ h6),oO (fI ai h6),rE ai h6,oO (h7),oO (fJ h5),oO (fI ai h5),rE ai h5,bT h8,oO (fJ h5),oO (fI ai h5),rE ai h5,hH (.rows ((e_ l2 x0.x1 (OE .i64 (OE .i64 x1 x2) (K2 .i64 1 x0.x0))).map ai)),hH (.uG 0 ((e_ l2 x0.x1 (OE .i64 (OE .i64 x1 x2) (K2 .i64 1 x0.x0))).map ai).length),oO (I7 ai l2 x0.x1 (OE .i64 (OE .i64 x1 x2) (K2 .i64 1 x0.x0))),rp 5 (oO (t_ ai l2 x0.x1 (OE .i64 (OE .i64 x1 x2) (K2 .i64 1 x0.x0))))] (hI h)
 ·exact gn 25 [1,5,6,16,17,18] [0] [bT h2,cE aA.enc h3,hH (.draw 6 []),rp 6 hP,oO (zL 0),oO (lT 0 2),oO (zL 1),oO (lT 1 2),oI ((bh x0.x0 0)=false),oR True ((bh x0.x0 0)=false),oI (((bh x0.x0 0)||(bh x0.x1 0))=false),nL ai l2,rp 5 hP,rp 2 (oI (((bh x0.x0 0)||(bh x0.x1 0))=false)),oR True (((bh x0.x0 0)||(bh x0.x1 0))=false),oI ((((bh x0.x0 0)||(bh x0.x1 0))||(cD x0.x0 (az l2)))=false),nL ai l2,hP,hP,rp 2 (oI ((((bh x0.x0 0)||(bh x0.x1 0))||(cD x0.x0 (az l2)))=false)),oR True ((((bh x0.x0 0)||(bh x0.x1 0))||(cD x0.x0 (az l2)))=false),bF h4,hH (.draw 13 []),oO (fJ h5),oO (fI ai h5),rE ai h5,oO (fJ h6),oO (fI ai h6),rE ai h6,oO (h7),oO (fJ h5),oO (fI ai h5),rE ai h5,bF h8] (hI h)
 ·exact gn 5 [1,5,6] [0] [bF h2] (hE h)
theorem I2(Γ:bu)(rv:List Int){before l}:∀⦃s:List Int×Bool⦄ ⦃e:List Int⦄,aL (fun s=>qX before l s.1 s.2) s=some e→I1 Γ rv before l e→KR Γ rv before l s.1 s.2:=by
 refine bl ?_
 rintro⟨l1,more⟩ z_ h hI hE;simp only[qX,aB,ar,au,av]at h;rcases h with⟨h1,⟨l3,Zz⟩,h9,h⟩|⟨h1,h⟩
 ·refine gn 12 [1,5,6,16,17,18] [0] [bT h1,nL aA.enc before] (I4 Γ rv h9 ?_);exact gn 2 [1,5,6] [0] [] (hI h)
 ·exact gn 5 [5] [0] [bF h1] (hE h)
theorem NZ{ah before}{rv:List Int}(h:wB ah before=some rv):dv prog 165 [.one (lI ah),.one (lL 2 before aA.enc)] [] (one (lL 1 rv ai)) []:=by
 refine aW func165 fun Γ=>?_
 simp only[wB,aB,ar,au,av]at h;obtain⟨l,h0,l4,dm,h⟩:=h;refine gn 9 [1,5,6] [0] [hH (.cells [lI 0]),hH (.rows (l.map ai)),oO (WZ h0),oO (X9 h0),oO (W0 h0),oO (W4 h0),oO (W5 ai h0)] (I2 Γ rv dm ?_);obtain rfl:=oK h;exact gr 2 [] [hW 4,hH (.jn 0),rp 3 (eL l4 ai)]
def gy(Γ:bu)(rv:Int)(cf:Cf):Prop:=Go prog f97 [] Γ (one (lI rv)) [] cf
def IW(Γ:bu)(rv:Int)(x0:ab)(bz:Int)(r:List Int)(v:Int):Prop:=gy Γ rv ⟨[.c 244,.l 244,.b 0,.c 31],⟨102,[vI 1 bz,vP 2 0 6,vL 5 1 r ai,vL 21 1 r ai,vI 22 (az r),vI 23 v],[oX 6 30 (ab.enc x0)]⟩⟩
def Hr(Γ:bu)(rv:Int)(x0:ab)(bz:Int)(r:List Int):Prop:=gy Γ rv ⟨[.c 31],⟨102,[vI 1 bz,vP 2 0 6,vL 5 1 r ai],[oX 6 30 (ab.enc x0)]⟩⟩
def IX(Γ:bu)(rv:Int)(x0:ab)(bz:Int)(r:List Int)(v1:Int):Prop:=gy Γ rv ⟨[.c 500,.l 500,.b 2,.c 63],⟨102,[vI 1 bz,vP 2 0 6,vL 5 1 r ai,vL 33 1 r ai,vI 34 (az r),vI 35 v1],[oX 6 30 (ab.enc x0)]⟩⟩
def Ht(Γ:bu)(rv:Int)(x0:ab)(bz:Int)(r:List Int):Prop:=gy Γ rv ⟨[.c 63],⟨102,[vI 1 bz,vP 2 0 6,vL 5 1 r ai],[oX 6 30 (ab.enc x0)]⟩⟩
def IY(Γ:bu)(rv:Int)(x0:ab)(bz:Int)(r:List Int)(v2:Int):Prop:=gy Γ rv ⟨[.c 1012,.l 1012,.b 4,.c 127],⟨102,[vI 1 bz,vP 2 0 6,vL 5 1 r ai,vL 47 2 x0.bV aA.enc,vI 48 (az x0.bV),vI 49 v2],[oX 6 30 (ab.enc x0)]⟩⟩
def Hv(Γ:bu)(rv:Int)(x0:ab)(bz:Int)(r:List Int):Prop:=gy Γ rv ⟨[.c 127],⟨102,[vI 1 bz,vP 2 0 6,vL 5 1 r ai],[oX 6 30 (ab.enc x0)]⟩⟩
def IZ(Γ:bu)(rv:Int)(x0:ab)(bz:Int)(r:List Int)(v3:Int):Prop:=gy Γ rv ⟨[.c 2036,.l 2036,.b 6,.c 255],⟨102,[vI 1 bz,vP 2 0 6,vL 5 1 r ai,vL 65 2 x0.before aA.enc,vI 66 (az x0.before),vI 67 v3],[oX 6 30 (ab.enc x0)]⟩⟩
def Hx(Γ:bu)(rv:Int)(x0:ab)(bz:Int)(r:List Int):Prop:=gy Γ rv ⟨[.c 255],⟨102,[vP 2 0 6,vL 5 1 r ai],[oX 6 30 (ab.enc x0)]⟩⟩
def I0(Γ:bu)(rv:Int)(r r5:List Int)(v4:Int):Prop:=gy Γ rv ⟨[.c 8180,.l 8180,.b 8,.c 1023],⟨102,[vL 14 1 r5 ai,vL 89 1 r ai,vI 90 (az r),vI 91 v4],[]⟩⟩
def Hz(Γ:bu)(rv:Int)(r r5:List Int):Prop:=gy Γ rv ⟨[.c 1023],⟨102,[],[]⟩⟩
theorem Hs(Γ:bu)(rv:Int){x0 bz r}:∀⦃s:Int⦄ ⦃e:(Unit)⊕(Int)⦄,aL (fun s=>dT x0 bz r s) s=some e→iD e (fun e=>Hr Γ rv x0 bz r) (fun e=>e=rv)→IW Γ rv x0 bz r s:=by
 refine bl ?_
 intro v z_ h hI hE;simp only[dT,aB,ar,au,av]at h;rcases h with⟨h2,x1,h3,⟨h4,h⟩|⟨h4,h⟩⟩|⟨h2,h⟩
 ·obtain rfl:=(hE h:_=rv);exact gr 14 [] [bT h2,cE ai h3,nL ag.enc x0.ah,bT h4]
 ·exact gn 16 [1,2,5,21,22,23] [0] [bT h2,cE ai h3,nL ag.enc x0.ah,bF h4] (hI h)
 ·exact gn 5 [1,2,5] [0] [bF h2] (hE h)
theorem Hu(Γ:bu)(rv:Int){x0 bz r}:∀⦃s:Int⦄ ⦃e:(Unit)⊕(Int)⦄,aL (fun s=>dU x0 bz r s) s=some e→iD e (fun e=>Ht Γ rv x0 bz r) (fun e=>e=rv)→IX Γ rv x0 bz r s:=by
 refine bl ?_
 intro v1 z_ h hI hE;simp only[dU,aB,ar,au,av]at h;rcases h with⟨h6,x2,h7,x3,h8,⟨h9,h⟩|⟨h9,h⟩⟩|⟨h6,h⟩
 ·obtain rfl:=(hE h:_=rv);exact gr 14 [] [bT h6,cE ai h7,cE ag.enc h8,bT h9]
 ·exact gn 16 [1,2,5,33,34,35] [0] [bT h6,cE ai h7,cE ag.enc h8,bF h9] (hI h)
 ·exact gn 5 [1,2,5] [0] [bF h6] (hE h)
theorem Hw(Γ:bu)(rv:Int){x0 bz r}:∀⦃s:Int⦄ ⦃e:(Unit)⊕(Int)⦄,aL (fun s=>dV x0 bz r s) s=some e→iD e (fun e=>Hv Γ rv x0 bz r) (fun e=>e=rv)→IY Γ rv x0 bz r s:=by
 refine bl ?_
 intro v2 z_ h hI hE;simp only[dV,aB,ar,au,av]at h;rcases h with⟨fH,x4,gi,r1,iG,⟨nW,r2,qx,⟨sH,h⟩|⟨sH,h⟩⟩|⟨nW,h⟩⟩|⟨fH,h⟩
 ·obtain rfl:=(hE h:_=rv);exact gr 14 [] [bT fH,cE aA.enc gi,oO (zL 0),oO (lT 0 2),cC (eR iG),rp 2 (bT nW),oO (zL 1),oO (lT 1 2),rp 2 (bT nW),cC (eR qx),bT nW,bT sH]
 ·exact gn 16 [1,2,5,47,48,49] [0] [bT fH,cE aA.enc gi,oO (zL 0),oO (lT 0 2),cC (eR iG),rp 2 (bT nW),oO (zL 1),oO (lT 1 2),rp 2 (bT nW),cC (eR qx),bT nW,bF sH] (hI h)
 ·exact gn 16 [1,2,5,47,48,49] [0] [bT fH,cE aA.enc gi,oO (zL 0),oO (lT 0 2),cC (eR iG),rp 5 (bF nW),fF] (hI h)
 ·exact gn 5 [1,2,5] [0] [bF fH] (hE h)
theorem Hy(Γ:bu)(rv:Int){x0 bz r}:∀⦃s:Int⦄ ⦃e:(Unit)⊕(Int)⦄,aL (fun s=>dW x0 bz r s) s=some e→iD e (fun e=>Hx Γ rv x0 bz r) (fun e=>e=rv)→IZ Γ rv x0 bz r s:=by
 refine bl ?_
 intro v3 z_ h hI hE;simp only[dW,aB,ar,au,av]at h;rcases h with⟨E4,x5,AD,r3,Ed,⟨G0,r4,Nh,⟨L2,h⟩|⟨L2,h⟩⟩|⟨G0,h⟩⟩|⟨E4,h⟩
 ·exact gn 16 [1,2,5,65,66,67] [0] [bT E4,cE aA.enc AD,oO (zL 1),oO (lT 1 2),cC (eR Ed),rp 2 (bT G0),oO (zL 0),oO (lT 0 2),rp 2 (bT G0),cC (eR Nh),rp 2 (bT G0),nF L2] (hI h)
 ·obtain rfl:=(hE h:_=rv);exact gr 14 [] [bT E4,cE aA.enc AD,oO (zL 1),oO (lT 1 2),cC (eR Ed),rp 2 (bT G0),oO (zL 0),oO (lT 0 2),rp 2 (bT G0),cC (eR Nh),rp 2 (bT G0),nT L2]
 ·exact gn 16 [1,2,5,65,66,67] [0] [bT E4,cE aA.enc AD,oO (zL 1),oO (lT 1 2),cC (eR Ed),rp 6 (bF G0),fF] (hI h)
 ·exact gn 5 [2,5] [0] [bF E4] (hE h)
theorem HA(Γ:bu)(rv:Int){r r5}:∀⦃s:Int⦄ ⦃e:(Unit)⊕(Int)⦄,aL (fun s=>dX r r5 s) s=some e→iD e (fun e=>Hz Γ rv r r5) (fun e=>e=rv)→I0 Γ rv r r5 s:=by
 refine bl ?_
 intro v4 z_ h hI hE;simp only[dX,aB,ar,au,av]at h;rcases h with⟨Iw,x6,WM,x7,Y9,r6,Y_,⟨Vo,h⟩|⟨Vo,h⟩⟩|⟨Iw,h⟩
 ·obtain rfl:=(hE h:_=rv);exact gr 14 [] [bT Iw,cE ai WM,cE ai Y9,cC (eR Y_),bT Vo]
 ·exact gn 16 [14,89,90,91] [] [bT Iw,cE ai WM,cE ai Y9,cC (eR Y_),bF Vo] (hI h)
 ·exact gn 5 [] [] [bF Iw] (hE h)
theorem CU{x0 bz}{rv:Int}(h:mO x0 bz=some rv):dv prog 97 [.agg (ab.enc x0),.one (lI bz)] [] (one (lI rv)) []:=by
 refine aW func97 fun Γ=>?_
 simp only[mO,aB,ar,au,av]at h;rcases h with⟨h0,h⟩|⟨h0,r,h1,e0,h5,h⟩
 ·obtain rfl:=oK h;exact gr 8 [] [bT h0]
 ·refine gn 14 [1,2,5,21,22,23] [0] [bF h0,cC (yG h1),nL ai r] (Hs Γ rv h5 ?_);rcases e0 with e0|G8
  ·simp only[dw,aB,ar,au,av]at h;obtain⟨e1,dm,h⟩:=h;refine gn 5 [1,2,5,33,34,35] [0] [nL ai r] (Hu Γ rv dm ?_);rcases e1 with e1|My
   ·simp only[dw,aB,ar,au,av]at h;obtain⟨e2,uu,h⟩:=h;refine gn 5 [1,2,5,47,48,49] [0] [nL aA.enc x0.bV] (Hw Γ rv uu ?_);rcases e2 with e2|r9
    ·simp only[dw,aB,ar,au,av]at h;obtain⟨e3,L3,h⟩:=h;refine gn 5 [1,2,5,65,66,67] [0] [nL aA.enc x0.before] (Hy Γ rv L3 ?_);rcases e3 with e3|r8
     ·simp only[dw,aB,ar,au,av]at h;obtain⟨r5,L4,e4,Qz,h⟩:=h;refine gn 7 [14,89,90,91] [] [nL ag.enc x0.ah,cC (NZ L4),nL ai r] (HA Γ rv Qz ?_);rcases e4 with e4|r7
      ·obtain rfl:=oK h;exact gr 2 [] []
      ·exact oK h
     ·exact oK h
    ·exact oK h
   ·exact oK h
  ·exact oK h
def T0(Γ:bu)(rv:a6×Int)(cf:Cf):Prop:=Go prog f88 [] Γ (.jx [.agg [lI rv.1.place,lI rv.1.bJ,lI rv.1.b9,lI rv.1.dn],.one (lI rv.2)]) [] cf
theorem CO(Γ:bu)(rv:a6×Int){x1}(h:tF x1=some rv):T0 Γ rv ⟨[.c 31],⟨32,[vP 4 0 4,vP 6 1 4],[oX 4 67 [lI 0,lI 0,lI 0,lI 0],oX 4 67 (a6.enc x1)]⟩⟩:=by
 simp only[tF,aB,ar,au,av]at h;rcases h with⟨h4,h⟩|⟨h4,h⟩
 ·cases h;exact gr 6 [] [bT h4]
 ·cases h;exact gr 7 [] [bF h4]
theorem tG{l v}{rv:a6×Int}(h:xA l v=some rv):dv prog 88 [.one (lL 16 l ag.enc),.agg (ae.enc v)] [] (.jx [.agg [lI rv.1.place,lI rv.1.bJ,lI rv.1.b9,lI rv.1.dn],.one (lI rv.2)]) []:=by
 refine aW func88 fun Γ=>?_
 simp only[xA,aB,ar,au,av]at h;rcases h with⟨r,h0,⟨h1,x0,h2,⟨h3,h⟩|⟨h3,h⟩⟩|⟨h1,h⟩⟩
 ·exact gn 14 [4,6] [1,2] [cC (pX h0),nF h1,cE ag.enc h2,bT h3,cE ag.enc h2] (CO Γ rv h)
 ·exact gn 14 [4,6] [1,2] [cC (pX h0),nF h1,cE ag.enc h2,bF h3] (CO Γ rv h)
 ·cases h;exact gr 8 [] [cC (pX h0),nT h1]
theorem pY{s0}{rv:W7}(h:uF s0=some rv):dv prog 231 [.agg (bH.enc s0)] [] (gG [lI rv.x0,lI rv.x1,lI rv.x2,lI rv.x3]) []:=by
 refine aW func231 fun Γ=>?_
 simp only[uF,aB,ar,au,av]at h;cases h;exact gr 4 [] []
theorem iz{s0}{rv:Int×Int}(h:fZ s0=some rv):dv prog 186 [.agg (bH.enc s0)] [] (.jx [.one (lI rv.1),.one (lI rv.2)]) []:=by
 refine aW func186 fun Γ=>?_
 simp only[fZ,aB,ar,au,av]at h;rcases h with⟨r,h0,⟨h1,h⟩|⟨h1,⟨h2,h⟩|⟨h2,⟨h3,h⟩|⟨h3,⟨h4,h⟩|⟨h4,⟨h5,h⟩|⟨h5,h⟩⟩⟩⟩⟩⟩
 ·cases h;exact gr 23 [] [cC (pY h0),tT,oO (zL 0),oO (lT 0 4),bT h1]
 ·cases h;exact gr 39 [] [cC (pY h0),tT,oO (zL 0),oO (lT 0 4),bF h1,tT,oO (zL 1),oO (lT 1 4),bT h2]
 ·cases h;exact gr 55 [] [cC (pY h0),tT,oO (zL 0),oO (lT 0 4),bF h1,tT,oO (zL 1),oO (lT 1 4),bF h2,tT,oO (zL 2),oO (lT 2 4),bT h3]
 ·cases h;exact gr 71 [] [cC (pY h0),tT,oO (zL 0),oO (lT 0 4),bF h1,tT,oO (zL 1),oO (lT 1 4),bF h2,tT,oO (zL 2),oO (lT 2 4),bF h3,tT,oO (zL 3),oO (lT 3 4),bT h4]
 ·cases h;exact gr 84 [] [cC (pY h0),tT,oO (zL 0),oO (lT 0 4),bF h1,tT,oO (zL 1),oO (lT 1 4),bF h2,tT,oO (zL 2),oO (lT 2 4),bF h3,tT,oO (zL 3),oO (lT 3 4),bF h4,fF,rp 12 hP,rp 2 (oI ((dp s0.uO 1073741824)=false)),oR True ((dp s0.uO 1073741824)=false),rp 2 (oI (((dp s0.uO 1073741824)||(cD s0.im 16))=false)),oR True (((dp s0.uO 1073741824)||(cD s0.im 16))=false),rp 2 (oI ((((dp s0.uO 1073741824)||(cD s0.im 16))||(cD s0.fY 16))=false)),oR True ((((dp s0.uO 1073741824)||(cD s0.im 16))||(cD s0.fY 16))=false),bT h5]
 ·cases h;exact gr 85 [] [cC (pY h0),tT,oO (zL 0),oO (lT 0 4),bF h1,tT,oO (zL 1),oO (lT 1 4),bF h2,tT,oO (zL 2),oO (lT 2 4),bF h3,tT,oO (zL 3),oO (lT 3 4),bF h4,fF,rp 12 hP,rp 2 (oI ((dp s0.uO 1073741824)=false)),oR True ((dp s0.uO 1073741824)=false),rp 2 (oI (((dp s0.uO 1073741824)||(cD s0.im 16))=false)),oR True (((dp s0.uO 1073741824)||(cD s0.im 16))=false),rp 2 (oI ((((dp s0.uO 1073741824)||(cD s0.im 16))||(cD s0.fY 16))=false)),oR True ((((dp s0.uO 1073741824)||(cD s0.im 16))||(cD s0.fY 16))=false),bF h5]
def lq(Γ:bu)(rv:Int)(cf:Cf):Prop:=Go prog f294 [] Γ (one (lI rv)) [] cf
def rC(Γ:bu)(rv:Int)(s0:List ae)(v:ae)(v1:Int):Prop:=lq Γ rv ⟨[.c 52,.l 52,.b 0,.c 7],⟨19,[vL 0 2 s0 ae.enc,vP 3 0 2,vI 7 (az s0),vI 8 v1],[oX 2 102 (ae.enc v)]⟩⟩
def ra(Γ:bu)(rv:Int)(s0:List ae)(v:ae):Prop:=lq Γ rv ⟨[.c 7],⟨19,[],[]⟩⟩
theorem rb(Γ:bu)(rv:Int){s0 v}:∀⦃s:Int⦄ ⦃e:(Unit)⊕(Int)⦄,aL (fun s=>cz s0 v s) s=some e→iD e (fun e=>ra Γ rv s0 v) (fun e=>e=rv)→rC Γ rv s0 v s:=by
 refine bl ?_
 intro v1 z_ h hI hE;simp only[cz,aB,ar,au,av]at h;rcases h with⟨h0,x0,h1,⟨h2,h⟩|⟨h2,h⟩⟩|⟨h0,h⟩
 ·obtain rfl:=(hE h:_=rv);exact gr 14 [] [bT h0,hH (.draw 6 []),cE ae.enc h1,bT h2]
 ·exact gn 16 [0,3,7,8] [0] [bT h0,hH (.draw 6 []),cE ae.enc h1,bF h2] (hI h)
 ·exact gn 5 [] [] [bF h0] (hE h)
theorem lh{s0 v}{rv:Int}(h:dB s0 v=some rv):dv prog 294 [.one (lL 2 s0 ae.enc),.agg (ae.enc v)] [] (one (lI rv)) []:=by
 refine aW func294 fun Γ=>?_
 simp only[dB,aB,ar,au,av]at h;obtain⟨e0,h3,h⟩:=h;refine gn 7 [0,3,7,8] [0] [nL ae.enc s0] (rb Γ rv h3 ?_);rcases e0 with e0|r
 ·cases h;exact gr 2 [] []
 ·exact oK h
theorem fm{l v}{rv:Int}(h:iq l v=some rv):dv prog 259 [.one (lL 2 l ae.enc),.agg (ae.enc v)] [] (one (lI rv)) []:=by
 refine aW func259 fun Γ=>?_
 simp only[iq,aB,ar,au,av]at h;obtain⟨r,h0,h⟩:=h;obtain rfl:=oK h;exact gr 4 [] [cC (lh h0)]
def CW(Γ:bu)(rv:Bool)(cf:Cf):Prop:=Go prog f281 [] Γ (one (.bool rv)) [] cf
def HM(Γ:bu)(rv:Bool)(l:List ae)(v:Int):Prop:=CW Γ rv ⟨[.c 52,.l 52,.b 0,.c 7],⟨19,[vL 0 2 l ae.enc,vL 5 2 l ae.enc,vI 6 (az l),vI 7 v],[]⟩⟩
def Gq(Γ:bu)(rv:Bool)(l:List ae):Prop:=CW Γ rv ⟨[.c 7],⟨19,[],[]⟩⟩
theorem Gr(Γ:bu)(rv:Bool){l}:∀⦃s:Int⦄ ⦃e:(Unit)⊕(Bool)⦄,aL (fun s=>h_ l s) s=some e→iD e (fun e=>Gq Γ rv l) (fun e=>e=rv)→HM Γ rv l s:=by
 refine bl ?_
 intro v z_ h hI hE;simp only[h_,aB,ar,au,av]at h;rcases h with⟨h0,x0,h1,l1,h2,r,h3,⟨h4,h⟩|⟨h4,h⟩⟩|⟨h0,h⟩
 ·obtain rfl:=(hE h:_=rv);exact gr 14 [] [bT h0,cE ae.enc h1,hH (.draw 6 []),hH (.rows (l1.map ae.enc)),oO (sl1 h2),oO (sl2 h2),oO (sl3 ae.enc h2),oO (Int.le_refl v),oO (sl3 ae.enc h2),oO (sl6 ae.enc h2),cC (fm h3),bT h4]
 ·exact gn 16 [0,5,6,7] [] [bT h0,cE ae.enc h1,hH (.draw 6 []),hH (.rows (l1.map ae.enc)),oO (sl1 h2),oO (sl2 h2),oO (sl3 ae.enc h2),oO (Int.le_refl v),oO (sl3 ae.enc h2),oO (sl6 ae.enc h2),cC (fm h3),bF h4] (hI h)
 ·exact gn 5 [] [] [bF h0] (hE h)
theorem wH{l}{rv:Bool}(h:su l=some rv):dv prog 281 [.one (lL 2 l ae.enc)] [] (one (.bool rv)) []:=by
 refine aW func281 fun Γ=>?_
 simp only[su,aB,ar,au,av]at h;obtain⟨e0,h5,h⟩:=h;refine gn 7 [0,5,6,7] [] [nL ae.enc l] (Gr Γ rv h5 ?_);rcases e0 with e0|r1
 ·obtain rfl:=oK h;exact gr 2 [] []
 ·exact oK h
theorem j6{s0 v}{rv:Bool}(h:dK s0 v=some rv):dv prog 304 [.one (lL 2 s0 ae.enc),.agg (ae.enc v)] [] (one (.bool rv)) []:=by
 refine aW func304 fun Γ=>?_
 simp only[dK,aB,ar,au,av]at h;obtain⟨r,h0,h⟩:=h;cases h;exact gr 4 [] [cC (lh h0)]
def rP(Γ:bu)(rv:Bool)(cf:Cf):Prop:=Go prog f282 [] Γ (one (.bool rv)) [] cf
def Gi(Γ:bu)(rv:Bool)(x0:ab)(l:List ae)(v:Int)(r:List ae)(b8 v1:Int):Prop:=rP Γ rv ⟨[.c 108156,.l 108156,.b 2,.b 1,.c 423,.l 52,.b 0,.c 7],⟨42,[vL 1 2 l ae.enc,vP 2 0 6,vI 8 b8,vL 12 2 l ae.enc,vI 13 (az l),vI 14 v,vL 27 2 r ae.enc,vI 28 (az r),vI 29 v1],[oX 6 30 (ab.enc x0)]⟩⟩
def E1(Γ:bu)(rv:Bool)(x0:ab)(l:List ae)(v:Int)(r:List ae):Prop:=rP Γ rv ⟨[.b 1,.c 423,.l 52,.b 0,.c 7],⟨42,[vL 1 2 l ae.enc,vP 2 0 6,vL 12 2 l ae.enc,vI 13 (az l),vI 14 v],[oX 6 30 (ab.enc x0)]⟩⟩
def Gh(Γ:bu)(rv:Bool)(x0:ab)(l:List ae)(v:Int):Prop:=rP Γ rv ⟨[.c 52,.l 52,.b 0,.c 7],⟨42,[vL 1 2 l ae.enc,vP 2 0 6,vL 12 2 l ae.enc,vI 13 (az l),vI 14 v],[oX 6 30 (ab.enc x0)]⟩⟩
def EZ(Γ:bu)(rv:Bool)(x0:ab)(l:List ae):Prop:=rP Γ rv ⟨[.c 7],⟨42,[],[]⟩⟩
theorem E2(Γ:bu)(rv:Bool){x0 l v r}:∀⦃s:Int×Int⦄ ⦃e:(Unit)⊕(Bool)⦄,aL (fun s=>dx x0 l v r s.1 s.2) s=some e→iD e (fun e=>E1 Γ rv x0 l v r) (fun e=>e=rv)→Gi Γ rv x0 l v r s.1 s.2:=by
 refine bl ?_
 rintro⟨b8,v1⟩ z_ h hI hE;simp only[dx,aB,ar,au,av]at h;rcases h with⟨h5,x2,h6,r2,h7,⟨h8,h⟩|⟨h8,h⟩⟩|⟨h5,h⟩
 ·obtain rfl:=(hE h:_=rv);exact gr 17 [] [bT h5,cE ae.enc h6,cC (fm h7),bT h8]
 ·exact gn 20 [1,2,8,12,13,14,27,28,29] [0] [bT h5,cE ae.enc h6,cC (fm h7),bF h8] (hI h)
 ·exact gn 5 [1,2,12,13,14] [0] [bF h5] (hE h)
theorem E0(Γ:bu)(rv:Bool){x0 l}:∀⦃s:Int⦄ ⦃e:(Unit)⊕(Bool)⦄,aL (fun s=>gu x0 l s) s=some e→iD e (fun e=>EZ Γ rv x0 l) (fun e=>e=rv)→Gh Γ rv x0 l s:=by
 refine bl ?_
 intro v z_ h hI hE;simp only[gu,aB,ar,au,av]at h;rcases h with⟨h0,x1,h1,r,h2,r1,h3,⟨h4,e0,h9,h⟩|⟨h4,h⟩⟩|⟨h0,h⟩
 ·refine gn 22 [1,2,8,12,13,14,27,28,29] [0] [bT h0,cE ae.enc h1,cC (oe h2),cC (j6 h3),nF h4,nL ae.enc r] (E2 Γ rv h9 ?_);rcases e0 with e0|r3
  ·exact gn 3 [1,2,12,13,14] [0] [] (hI h)
  ·exact(hE h:_=rv)
 ·obtain rfl:=(hE h:_=rv);exact gr 17 [] [bT h0,cE ae.enc h1,cC (oe h2),cC (j6 h3),nT h4]
 ·exact gn 5 [] [] [bF h0] (hE h)
theorem Ag{x0 l}{rv:Bool}(h:q9 x0 l=some rv):dv prog 282 [.agg (ab.enc x0),.one (lL 2 l ae.enc)] [] (one (.bool rv)) []:=by
 refine aW func282 fun Γ=>?_
 simp only[q9,aB,ar,au,av]at h;obtain⟨e1,dm,h⟩:=h;refine gn 7 [1,2,12,13,14] [0] [nL ae.enc l] (E0 Γ rv dm ?_);rcases e1 with e1|r4
 ·obtain rfl:=oK h;exact gr 2 [] []
 ·exact oK h
theorem Bi{v c}{rv:Bool}(h:wG v c=some rv):dv prog 305 [.agg (ae.enc v),.one (.ip [lI c] 0)] [] (one (.bool rv)) []:=by
 refine aW func305 fun Γ=>?_
 simp only[wG,aB,ar,au,av]at h;cases h;exact gr 4 [] []
def ia(Γ:bu)(rv:Int)(cf:Cf):Prop:=Go prog f303 [] Γ (one (lI rv)) [] cf
def nE(Γ:bu)(rv:Int)(s0:List ae)(c v:Int):Prop:=ia Γ rv ⟨[.c 52,.l 52,.b 0,.c 7],⟨19,[vL 0 2 s0 ae.enc,(1,one (.fn (.func 305) [.ip [lI c] 0])),vI 7 (az s0),vI 8 v],[]⟩⟩
def mY(Γ:bu)(rv:Int)(s0:List ae)(c:Int):Prop:=ia Γ rv ⟨[.c 7],⟨19,[],[]⟩⟩
theorem mZ(Γ:bu)(rv:Int){s0 c}:∀⦃s:Int⦄ ⦃e:(Unit)⊕(Int)⦄,aL (fun s=>b3 s0 c s) s=some e→iD e (fun e=>mY Γ rv s0 c) (fun e=>e=rv)→nE Γ rv s0 c s:=by
 refine bl ?_
 intro v z_ h hI hE;simp only[b3,aB,ar,au,av]at h;rcases h with⟨h0,x0,h1,r,h2,⟨h3,h⟩|⟨h3,h⟩⟩|⟨h0,h⟩
 ·obtain rfl:=(hE h:_=rv);exact gr 14 [] [bT h0,cE ae.enc h1,cC (Bi h2),bT h3]
 ·exact gn 16 [0,1,7,8] [] [bT h0,cE ae.enc h1,cC (Bi h2),bF h3] (hI h)
 ·exact gn 5 [] [] [bF h0] (hE h)
theorem nZ{s0 c}{rv:Int}(h:dc s0 c=some rv):dv prog 303 [.one (lL 2 s0 ae.enc),.one (.fn (.func 305) [.ip [lI c] 0])] [] (one (lI rv)) []:=by
 refine aW func303 fun Γ=>?_
 simp only[dc,aB,ar,au,av]at h;obtain⟨e0,h4,h⟩:=h;refine gn 7 [0,1,7,8] [] [nL ae.enc s0] (mZ Γ rv h4 ?_);rcases e0 with e0|r1
 ·cases h;exact gr 2 [] []
 ·exact oK h
theorem mX{s0 c}{rv:Bool}(h:dD s0 c=some rv):dv prog 278 [.one (lL 2 s0 ae.enc),.one (.fn (.func 305) [.ip [lI c] 0])] [] (one (.bool rv)) []:=by
 refine aW func278 fun Γ=>?_
 simp only[dD,aB,ar,au,av]at h;obtain⟨r,h0,h⟩:=h;cases h;exact gr 4 [] [cC (nZ h0)]
theorem j0{l o}{rv:Bool}(h:oU l o=some rv):dv prog 283 [.one (lL 2 l ae.enc),.one (lI o)] [] (one (.bool rv)) []:=by
 refine aW func283 fun Γ=>?_
 simp only[oU,aB,ar,au,av]at h;obtain⟨r,h0,h⟩:=h;obtain rfl:=oK h;exact gr 4 [] [cC (mX h0)]
theorem yk{v c}{rv:Bool}(h:rO v c=some rv):dv prog 306 [.agg (ae.enc v),.one (.ip [lI c] 0)] [] (one (.bool rv)) []:=by
 refine aW func306 fun Γ=>?_
 simp only[rO,aB,ar,au,av]at h;cases h;exact gr 4 [] []
def gx(Γ:bu)(rv:Int)(cf:Cf):Prop:=Go prog f303 [] Γ (one (lI rv)) [] cf
def mr(Γ:bu)(rv:Int)(s0:List ae)(c v:Int):Prop:=gx Γ rv ⟨[.c 52,.l 52,.b 0,.c 7],⟨19,[vL 0 2 s0 ae.enc,(1,one (.fn (.func 306) [.ip [lI c] 0])),vI 7 (az s0),vI 8 v],[]⟩⟩
def lE(Γ:bu)(rv:Int)(s0:List ae)(c:Int):Prop:=gx Γ rv ⟨[.c 7],⟨19,[],[]⟩⟩
theorem lF(Γ:bu)(rv:Int){s0 c}:∀⦃s:Int⦄ ⦃e:(Unit)⊕(Int)⦄,aL (fun s=>bN s0 c s) s=some e→iD e (fun e=>lE Γ rv s0 c) (fun e=>e=rv)→mr Γ rv s0 c s:=by
 refine bl ?_
 intro v z_ h hI hE;simp only[bN,aB,ar,au,av]at h;rcases h with⟨h0,x0,h1,r,h2,⟨h3,h⟩|⟨h3,h⟩⟩|⟨h0,h⟩
 ·obtain rfl:=(hE h:_=rv);exact gr 14 [] [bT h0,cE ae.enc h1,cC (yk h2),bT h3]
 ·exact gn 16 [0,1,7,8] [] [bT h0,cE ae.enc h1,cC (yk h2),bF h3] (hI h)
 ·exact gn 5 [] [] [bF h0] (hE h)
theorem ew{s0 c}{rv:Int}(h:cV s0 c=some rv):dv prog 303 [.one (lL 2 s0 ae.enc),.one (.fn (.func 306) [.ip [lI c] 0])] [] (one (lI rv)) []:=by
 refine aW func303 fun Γ=>?_
 simp only[cV,aB,ar,au,av]at h;obtain⟨e0,h4,h⟩:=h;refine gn 7 [0,1,7,8] [] [nL ae.enc s0] (lF Γ rv h4 ?_);rcases e0 with e0|r1
 ·cases h;exact gr 2 [] []
 ·exact oK h
theorem Af{l a b}{rv:Bool}(h:q8 l a b=some rv):dv prog 284 [.one (lL 2 l ae.enc),.one (lI a),.one (lI b)] [] (one (.bool rv)) []:=by
 refine aW func284 fun Γ=>?_
 simp only[q8,aB,ar,au,av]at h;rcases h with⟨r,h0,⟨h1,h⟩|⟨h1,r1,h2,⟨h3,l1,h4,r2,h5,h⟩|⟨h3,h⟩⟩⟩
 ·obtain rfl:=oK h;exact gr 10 [] [cC (ew h0),bT h1]
 ·cases h;exact gr 11 [] [cC (ew h0),bF h1,cC (j0 h2),rp 3 (bT h3),hH (.rows (l1.map ae.enc)),oO (sl1 h4),oO (QkA ae.enc h4),rp 3 (oO (Int.le_refl ((l.map ae.enc).length:Int))),oO (QkB ae.enc h4),bT h3,bT h3,cC (j0 h5),bT h3,bT h3]
 ·obtain rfl:=oK h;exact gr 11 [] [cC (ew h0),bF h1,cC (j0 h2),rp 7 (bF h3)]
theorem yY{v c}{rv:Bool}(h:sR v c=some rv):dv prog 279 [.agg (ae.enc v),.one (.ip (ab.enc c) 0)] [] (one (.bool rv)) []:=by
 refine aW func279 fun Γ=>?_
 simp only[sR,aB,ar,au,av]at h;cases h;exact gr 4 [] [rp 5 hP,rp 3 (oI ((bh v.aJ 0)=false)),nL ag.enc c.ah,hP,hP,rp 2 (oI ((bh v.aJ 0)=false)),oR True ((bh v.aJ 0)=false)]
def gA(Γ:bu)(rv:Int)(cf:Cf):Prop:=Go prog f303 [] Γ (one (lI rv)) [] cf
def mD(Γ:bu)(rv:Int)(s0:List ae)(c:ab)(v:Int):Prop:=gA Γ rv ⟨[.c 52,.l 52,.b 0,.c 7],⟨19,[vL 0 2 s0 ae.enc,(1,one (.fn (.func 279) [.ip (ab.enc c) 0])),vI 7 (az s0),vI 8 v],[]⟩⟩
def mm(Γ:bu)(rv:Int)(s0:List ae)(c:ab):Prop:=gA Γ rv ⟨[.c 7],⟨19,[],[]⟩⟩
theorem mn(Γ:bu)(rv:Int){s0 c}:∀⦃s:Int⦄ ⦃e:(Unit)⊕(Int)⦄,aL (fun s=>bR s0 c s) s=some e→iD e (fun e=>mm Γ rv s0 c) (fun e=>e=rv)→mD Γ rv s0 c s:=by
 refine bl ?_
 intro v z_ h hI hE;simp only[bR,aB,ar,au,av]at h;rcases h with⟨h0,x0,h1,r,h2,⟨h3,h⟩|⟨h3,h⟩⟩|⟨h0,h⟩
 ·obtain rfl:=(hE h:_=rv);exact gr 14 [] [bT h0,cE ae.enc h1,cC (yY h2),bT h3]
 ·exact gn 16 [0,1,7,8] [] [bT h0,cE ae.enc h1,cC (yY h2),bF h3] (hI h)
 ·exact gn 5 [] [] [bF h0] (hE h)
theorem nC{s0 c}{rv:Int}(h:cZ s0 c=some rv):dv prog 303 [.one (lL 2 s0 ae.enc),.one (.fn (.func 279) [.ip (ab.enc c) 0])] [] (one (lI rv)) []:=by
 refine aW func303 fun Γ=>?_
 simp only[cZ,aB,ar,au,av]at h;obtain⟨e0,h4,h⟩:=h;refine gn 7 [0,1,7,8] [] [nL ae.enc s0] (mn Γ rv h4 ?_);rcases e0 with e0|r1
 ·cases h;exact gr 2 [] []
 ·exact oK h
theorem cL{s0 c}{rv:Bool}(h:cP s0 c=some rv):dv prog 278 [.one (lL 2 s0 ae.enc),.one (.fn (.func 279) [.ip (ab.enc c) 0])] [] (one (.bool rv)) []:=by
 refine aW func278 fun Γ=>?_
 simp only[cP,aB,ar,au,av]at h;obtain⟨r,h0,h⟩:=h;cases h;exact gr 4 [] [cC (nC h0)]
theorem yZ{v c}{rv:Bool}(h:sS v c=some rv):dv prog 280 [.agg (ae.enc v),.one (.ip (ab.enc c) 0)] [] (one (.bool rv)) []:=by
 refine aW func280 fun Γ=>?_
 simp only[sS,aB,ar,au,av]at h;obtain⟨x0,h0,h⟩:=h;cases h;exact gr 4 [] [cE ag.enc h0]
def gB(Γ:bu)(rv:Int)(cf:Cf):Prop:=Go prog f303 [] Γ (one (lI rv)) [] cf
def mF(Γ:bu)(rv:Int)(s0:List ae)(c:ab)(v:Int):Prop:=gB Γ rv ⟨[.c 52,.l 52,.b 0,.c 7],⟨19,[vL 0 2 s0 ae.enc,(1,one (.fn (.func 280) [.ip (ab.enc c) 0])),vI 7 (az s0),vI 8 v],[]⟩⟩
def mo(Γ:bu)(rv:Int)(s0:List ae)(c:ab):Prop:=gB Γ rv ⟨[.c 7],⟨19,[],[]⟩⟩
theorem mq(Γ:bu)(rv:Int){s0 c}:∀⦃s:Int⦄ ⦃e:(Unit)⊕(Int)⦄,aL (fun s=>bU s0 c s) s=some e→iD e (fun e=>mo Γ rv s0 c) (fun e=>e=rv)→mF Γ rv s0 c s:=by
 refine bl ?_
 intro v z_ h hI hE;simp only[bU,aB,ar,au,av]at h;rcases h with⟨h0,x0,h1,r,h2,⟨h3,h⟩|⟨h3,h⟩⟩|⟨h0,h⟩
 ·obtain rfl:=(hE h:_=rv);exact gr 14 [] [bT h0,cE ae.enc h1,cC (yZ h2),bT h3]
 ·exact gn 16 [0,1,7,8] [] [bT h0,cE ae.enc h1,cC (yZ h2),bF h3] (hI h)
 ·exact gn 5 [] [] [bF h0] (hE h)
theorem nD{s0 c}{rv:Int}(h:c4 s0 c=some rv):dv prog 303 [.one (lL 2 s0 ae.enc),.one (.fn (.func 280) [.ip (ab.enc c) 0])] [] (one (lI rv)) []:=by
 refine aW func303 fun Γ=>?_
 simp only[c4,aB,ar,au,av]at h;obtain⟨e0,h4,h⟩:=h;refine gn 7 [0,1,7,8] [] [nL ae.enc s0] (mq Γ rv h4 ?_);rcases e0 with e0|r1
 ·cases h;exact gr 2 [] []
 ·exact oK h
theorem df{s0 c}{rv:Bool}(h:cQ s0 c=some rv):dv prog 278 [.one (lL 2 s0 ae.enc),.one (.fn (.func 280) [.ip (ab.enc c) 0])] [] (one (.bool rv)) []:=by
 refine aW func278 fun Γ=>?_
 simp only[cQ,aB,ar,au,av]at h;obtain⟨r,h0,h⟩:=h;cases h;exact gr 4 [] [cC (nD h0)]
def sT(Γ:bu)(rv:Int)(cf:Cf):Prop:=Go prog f252 [] Γ (one (lI rv)) [] cf
def HC(Γ:bu)(rv:Int)(x0:ab)(r:ay)(v:Int):Prop:=sT Γ rv ⟨[.c 500,.l 500,.b 1,.c 63],⟨65,[vP 2 0 6,vL 5 2 r.aq ae.enc,vL 33 2 x0.bV aA.enc,vI 34 (az x0.bV),vI 35 v],[oX 6 30 (ab.enc x0)]⟩⟩
def Gc(Γ:bu)(rv:Int)(x0:ab)(r:ay):Prop:=sT Γ rv ⟨[.c 63],⟨65,[vP 2 0 6,vL 5 2 r.aq ae.enc],[oX 6 30 (ab.enc x0)]⟩⟩
def HD(Γ:bu)(rv:Int)(x0:ab)(r:ay)(v1:Int):Prop:=sT Γ rv ⟨[.c 1012,.l 1012,.b 3,.c 127],⟨65,[vL 5 2 r.aq ae.enc,vL 51 2 x0.before aA.enc,vI 52 (az x0.before),vI 53 v1],[]⟩⟩
def Ge(Γ:bu)(rv:Int)(x0:ab)(r:ay):Prop:=sT Γ rv ⟨[.c 127],⟨65,[],[]⟩⟩
theorem Gd(Γ:bu)(rv:Int){x0 r}:∀⦃s:Int⦄ ⦃e:(Unit)⊕(Int)⦄,aL (fun s=>gZ x0 r s) s=some e→iD e (fun e=>Gc Γ rv x0 r) (fun e=>e=rv)→HC Γ rv x0 r s:=by
 refine bl ?_
 intro v z_ h hI hE;simp only[gZ,aB,ar,au,av]at h;rcases h with⟨h9,x1,dm,r5,fH,⟨gi,r6,iG,⟨nW,h⟩|⟨nW,h⟩⟩|⟨gi,h⟩⟩|⟨h9,h⟩
 ·obtain rfl:=(hE h:_=rv);exact gr 14 [] [bT h9,cE aA.enc dm,oO (zL 0),oO (lT 0 2),cC (j0 fH),rp 2 (bT gi),oO (zL 1),oO (lT 1 2),rp 2 (bT gi),cC (j0 iG),bT gi,bT nW]
 ·exact gn 16 [2,5,33,34,35] [0] [bT h9,cE aA.enc dm,oO (zL 0),oO (lT 0 2),cC (j0 fH),rp 2 (bT gi),oO (zL 1),oO (lT 1 2),rp 2 (bT gi),cC (j0 iG),bT gi,bF nW] (hI h)
 ·exact gn 16 [2,5,33,34,35] [0] [bT h9,cE aA.enc dm,oO (zL 0),oO (lT 0 2),cC (j0 fH),rp 5 (bF gi),fF] (hI h)
 ·exact gn 5 [2,5] [0] [bF h9] (hE h)
theorem Gf(Γ:bu)(rv:Int){x0 r}:∀⦃s:Int⦄ ⦃e:(Unit)⊕(Int)⦄,aL (fun s=>g_ x0 r s) s=some e→iD e (fun e=>Ge Γ rv x0 r) (fun e=>e=rv)→HD Γ rv x0 r s:=by
 refine bl ?_
 intro v1 z_ h hI hE;simp only[g_,aB,ar,au,av]at h;rcases h with⟨sH,x2,uu,r7,E4,⟨AD,h⟩|⟨AD,h⟩⟩|⟨sH,h⟩
 ·exact gn 16 [5,51,52,53] [] [bT sH,cE aA.enc uu,oO (zL 0),oO (lT 0 2),oO (zL 1),oO (lT 1 2),cC (Af E4),nF AD] (hI h)
 ·obtain rfl:=(hE h:_=rv);exact gr 14 [] [bT sH,cE aA.enc uu,oO (zL 0),oO (lT 0 2),oO (zL 1),oO (lT 1 2),cC (Af E4),nT AD]
 ·exact gn 5 [] [] [bF sH] (hE h)
theorem hG{x0 r}{rv:Int}(h:pZ x0 r=some rv):dv prog 252 [.agg (ab.enc x0),.agg (ay.enc r)] [] (one (lI rv)) []:=by
 refine aW func252 fun Γ=>?_
 simp only[pZ,aB,ar,au,av]at h;rcases h with⟨h0,h⟩|⟨h0,r1,h1,⟨h2,h⟩|⟨h2,r2,h3,⟨h4,h⟩|⟨h4,r3,h5,⟨h6,h⟩|⟨h6,r4,h7,⟨h8,e0,qx,h⟩|⟨h8,h⟩⟩⟩⟩⟩
 ·obtain rfl:=oK h;exact gr 10 [] [nL ae.enc r.aq,rp 4 (bT h0),tT]
 ·obtain rfl:=oK h;exact gr 10 [] [nL ae.enc r.aq,rp 3 (bF h0),cC (cL h1),bF h0,bT h2]
 ·obtain rfl:=oK h;exact gr 16 [] [nL ae.enc r.aq,rp 3 (bF h0),cC (cL h1),bF h0,bF h2,cC (df h3),bT h4]
 ·obtain rfl:=oK h;exact gr 19 [] [nL ae.enc r.aq,rp 3 (bF h0),cC (cL h1),bF h0,bF h2,cC (df h3),bF h4,cC (wH h5),bT h6]
 ·refine gn 27 [2,5,33,34,35] [0] [nL ae.enc r.aq,rp 3 (bF h0),cC (cL h1),bF h0,bF h2,cC (df h3),bF h4,cC (wH h5),bF h6,cC (Ag h7),nF h8,nL aA.enc x0.bV] (Gd Γ rv qx ?_);rcases e0 with e0|r9
  ·simp only[dw,aB,ar,au,av]at h;obtain⟨e1,Ed,h⟩:=h;refine gn 5 [5,51,52,53] [] [nL aA.enc x0.before] (Gf Γ rv Ed ?_);rcases e1 with e1|r8
   ·obtain rfl:=oK h;exact gr 2 [] []
   ·exact oK h
  ·exact oK h
 ·obtain rfl:=oK h;exact gr 22 [] [nL ae.enc r.aq,rp 3 (bF h0),cC (cL h1),bF h0,bF h2,cC (df h3),bF h4,cC (wH h5),bF h6,cC (Ag h7),nT h8]
theorem HX{t cG}{rv:Bool}(h:tX t cG=some rv):dv prog 85 [.agg (al.enc t),.one (lI cG)] [] (one (.bool rv)) []:=by
 refine aW func85 fun Γ=>?_
 simp only[tX,aB,ar,au,av]at h;cases h;exact gr 4 [] [rp 9 hP,oI ((cD t.cG 0)=true),oR True ((cD t.cG 0)=true),rp 4 (oI (((cD t.cG 0)&&(cD cG 0))=true)),oR True (((cD t.cG 0)&&(cD cG 0))=true)]
def KQ(Γ:bu)(rv:Int)(cf:Cf):Prop:=Go prog f253 [] Γ (one (lI rv)) [] cf
def NY(Γ:bu)(rv:Int)(x0:ab)(r:ay)(v:Int):Prop:=KQ Γ rv ⟨[.c 52,.l 52,.b 0,.c 7],⟨30,[vP 2 0 6,vP 3 1 4,vL 8 2 r.aq ae.enc,vI 9 (az r.aq),vI 10 v],[oX 6 30 (ab.enc x0),oX 4 48 (ay.enc r)]⟩⟩
def MF(Γ:bu)(rv:Int)(x0:ab)(r:ay):Prop:=KQ Γ rv ⟨[.c 7],⟨30,[],[]⟩⟩
theorem MG(Γ:bu)(rv:Int){x0 r}:∀⦃s:Int⦄ ⦃e:(Unit)⊕(Int)⦄,aL (fun s=>mN x0 r s) s=some e→iD e (fun e=>MF Γ rv x0 r) (fun e=>e=rv)→NY Γ rv x0 r s:=by
 refine bl ?_
 intro v z_ h hI hE;simp only[mN,aB,ar,au,av]at h;rcases h with⟨h0,x1,h1,x2,h2,x3,h3,r1,h4,⟨h5,h⟩|⟨h5,h⟩⟩|⟨h0,h⟩
 ·exact gn 16 [2,3,8,9,10] [0,1] [bT h0,cE ae.enc h1,hH (.draw 15 []),cE al.enc h2,cE ag.enc h3,cC (HX h4),nF h5] (hI h)
 ·obtain rfl:=(hE h:_=rv);exact gr 14 [] [bT h0,cE ae.enc h1,hH (.draw 15 []),cE al.enc h2,cE ag.enc h3,cC (HX h4),nT h5]
 ·exact gn 5 [] [] [bF h0] (hE h)
theorem xL{x0 r}{rv:Int}(h:Ad x0 r=some rv):dv prog 253 [.agg (ab.enc x0),.agg (ay.enc r)] [] (one (lI rv)) []:=by
 refine aW func253 fun Γ=>?_
 simp only[Ad,aB,ar,au,av]at h;obtain⟨e0,h6,h⟩:=h;refine gn 7 [2,3,8,9,10] [0,1] [nL ae.enc r.aq] (MG Γ rv h6 ?_);rcases e0 with e0|r2
 ·obtain rfl:=oK h;exact gr 2 [] []
 ·exact oK h
theorem Q7{a b}{rv:Int}(h:Dm a b=some rv):dv prog 194 [.one (lI a),.one (lI b)] [] (one (lI rv)) []:=by
 refine aW func194 fun Γ=>?_
 simp only[Dm,aB,ar,au,av]at h;cases h;exact gr 4 [] []
def x_(Γ:bu)(rv:List Int×Int)(cf:Cf):Prop:=Go prog f193 [] Γ (.jx [.one (lL 1 rv.1 ai),.one (lI rv.2)]) [] cf
def Cv(Γ:bu)(rv:List Int×Int)(a b l l1:List Int)(v:Int):Prop:=x_ Γ rv ⟨[.c 244,.l 244,.b 0,.c 31],⟨38,[vL 0 1 a ai,vL 1 1 b ai,(2,one (.fn (.func 194) [])),vO 8 0 1 l1 ai,vI 19 (az a),vI 20 v],[oS 1 3 l1 ai]⟩⟩
def BC(Γ:bu)(rv:List Int×Int)(a b l l2:List Int):Prop:=x_ Γ rv ⟨[.c 31],⟨38,[vO 8 0 1 l2 ai],[oS 1 3 l2 ai]⟩⟩
theorem BD(Γ:bu)(rv:List Int×Int){a b l}:∀⦃s:List Int×Int⦄ ⦃e:List Int⦄,aL (fun s=>fe a b l s.1 s.2) s=some e→BC Γ rv a b l e→Cv Γ rv a b l s.1 s.2:=by
 refine bl ?_
 rintro⟨l1,v⟩ z_ h hI hE;simp only[fe,aB,ar,au,av]at h;rcases h with⟨h2,x0,h3,x1,h4,r,h5,x2,h6,h⟩|⟨h2,h⟩
 ·exact gn 13 [0,1,2,8,19,20] [0] [bT h2,hH (.draw 13 []),cE ai h3,cE ai h4,cC (Q7 h5),oO (fJ h6),oO (fI ai h6),rE ai h6,hH (.rows ((e_ l1 v r).map ai)),hH (.uG 0 ((e_ l1 v r).map ai).length),oO (I7 ai l1 v r),rp 2 (oO (t_ ai l1 v r))] (hI h)
 ·exact gn 5 [8] [0] [bF h2] (hE h)
theorem EE{a b}{rv:List Int×Int}(h:qB a b=some rv):dv prog 193 [.one (lL 1 a ai),.one (lL 1 b ai),.one (.fn (.func 194) [])] [] (.jx [.one (lL 1 rv.1 ai),.one (lI rv.2)]) []:=by
 refine aW func193 fun Γ=>?_
 simp only[qB,aB,ar,au,av]at h;rcases h with⟨h0,h⟩|⟨h0,l,h1,l2,h7,h⟩
 ·cases h;exact gr 8 [] [nL ai a,nL ai b,bT h0,hW 4,hH (.sg 6 0 1)]
 ·refine gn 14 [0,1,2,8,19,20] [0] [nL ai a,nL ai b,bF h0,nL ai a,hH (.cells [lI 0]),hH (.rows (l.map ai)),oO (WZ h1),oO (X9 h1),oO (W0 h1),oO (W4 h1),oO (W5 ai h1),nL ai a] (BD Γ rv h7 ?_);cases h;exact gr 2 [] [hW 5,hH (.jn 0),rp 3 (eL l2 ai)]
theorem u6{a b}{rv:List Int×Int}(h:rj a b=some rv):dv prog 124 [.one (lL 1 a ai),.one (lL 1 b ai)] [] (.jx [.one (lL 1 rv.1 ai),.one (lI rv.2)]) []:=by
 refine aW func124 fun Γ=>?_
 simp only[rj,aB,ar,au,av]at h;obtain⟨r,h0,h⟩:=h;cases h;exact gr 4 [] [cC (EE h0)]
theorem PJ{a b}{rv:Int}(h:A7 a b=some rv):dv prog 214 [.one (lI a),.one (lI b)] [] (one (lI rv)) []:=by
 refine aW func214 fun Γ=>?_
 simp only[A7,aB,ar,au,av]at h;cases h;exact gr 4 [] []
def w7(Γ:bu)(rv:List Int×Int)(cf:Cf):Prop:=Go prog f193 [] Γ (.jx [.one (lL 1 rv.1 ai),.one (lI rv.2)]) [] cf
def BB(Γ:bu)(rv:List Int×Int)(a b l l1:List Int)(v:Int):Prop:=w7 Γ rv ⟨[.c 244,.l 244,.b 0,.c 31],⟨38,[vL 0 1 a ai,vL 1 1 b ai,(2,one (.fn (.func 214) [])),vO 8 0 1 l1 ai,vI 19 (az a),vI 20 v],[oS 1 3 l1 ai]⟩⟩
def AH(Γ:bu)(rv:List Int×Int)(a b l l2:List Int):Prop:=w7 Γ rv ⟨[.c 31],⟨38,[vO 8 0 1 l2 ai],[oS 1 3 l2 ai]⟩⟩
theorem AI(Γ:bu)(rv:List Int×Int){a b l}:∀⦃s:List Int×Int⦄ ⦃e:List Int⦄,aL (fun s=>eM a b l s.1 s.2) s=some e→AH Γ rv a b l e→BB Γ rv a b l s.1 s.2:=by
 refine bl ?_
 rintro⟨l1,v⟩ z_ h hI hE;simp only[eM,aB,ar,au,av]at h;rcases h with⟨h2,x0,h3,x1,h4,r,h5,x2,h6,h⟩|⟨h2,h⟩
 ·exact gn 13 [0,1,2,8,19,20] [0] [bT h2,hH (.draw 13 []),cE ai h3,cE ai h4,cC (PJ h5),oO (fJ h6),oO (fI ai h6),rE ai h6,hH (.rows ((e_ l1 v r).map ai)),hH (.uG 0 ((e_ l1 v r).map ai).length),oO (I7 ai l1 v r),rp 2 (oO (t_ ai l1 v r))] (hI h)
 ·exact gn 5 [8] [0] [bF h2] (hE h)
theorem Dl{a b}{rv:List Int×Int}(h:pr a b=some rv):dv prog 193 [.one (lL 1 a ai),.one (lL 1 b ai),.one (.fn (.func 214) [])] [] (.jx [.one (lL 1 rv.1 ai),.one (lI rv.2)]) []:=by
 refine aW func193 fun Γ=>?_
 simp only[pr,aB,ar,au,av]at h;rcases h with⟨h0,h⟩|⟨h0,l,h1,l2,h7,h⟩
 ·cases h;exact gr 8 [] [nL ai a,nL ai b,bT h0,hW 4,hH (.sg 6 0 1)]
 ·refine gn 14 [0,1,2,8,19,20] [0] [nL ai a,nL ai b,bF h0,nL ai a,hH (.cells [lI 0]),hH (.rows (l.map ai)),oO (WZ h1),oO (X9 h1),oO (W0 h1),oO (W4 h1),oO (W5 ai h1),nL ai a] (AI Γ rv h7 ?_);cases h;exact gr 2 [] [hW 5,hH (.jn 0),rp 3 (eL l2 ai)]
theorem Kv{a b}{rv:List Int×Int}(h:Cu a b=some rv):dv prog 158 [.one (lL 1 a ai),.one (lL 1 b ai)] [] (.jx [.one (lL 1 rv.1 ai),.one (lI rv.2)]) []:=by
 refine aW func158 fun Γ=>?_
 simp only[Cu,aB,ar,au,av]at h;obtain⟨r,h0,h⟩:=h;cases h;exact gr 4 [] [cC (Dl h0)]
def Bh(Γ:bu)(rv:Int×Int)(cf:Cf):Prop:=Go prog f307 [] Γ (.jx [.one (lI rv.1),.one (lI rv.2)]) [] cf
def Gg(Γ:bu)(rv:Int×Int)(r:ay)(bz v:Int):Prop:=Bh Γ rv ⟨[.c 116,.l 116,.b 0,.c 15],⟨29,[vI 4 bz,vL 8 2 r.aq ae.enc,vI 9 (az r.aq),vI 10 v],[]⟩⟩
def EX(Γ:bu)(rv:Int×Int)(r:ay)(Gs:Int):Prop:=Bh Γ rv ⟨[.c 15],⟨29,[vI 4 Gs],[]⟩⟩
theorem EY(Γ:bu)(rv:Int×Int){r}:∀⦃s:Int×Int⦄ ⦃e:(Int)⊕(Int×Int)⦄,aL (fun s=>nz r s.1 s.2) s=some e→iD e (fun e=>EX Γ rv r e) (fun e=>e=rv)→Gg Γ rv r s.1 s.2:=by
 refine bl ?_
 rintro⟨bz,v⟩ z_ h hI hE;simp only[nz,aB,ar,au,av]at h;rcases h with⟨h0,x0,h1,⟨h2,h⟩|⟨h2,h3,h⟩⟩|⟨h0,h⟩
 ·obtain rfl:=(hE h:_=rv);exact gr 15 [] [bT h0,cE ae.enc h1,rp 4 hP,rp 2 (oI ((bh x0.aJ 0)=false)),oR True ((bh x0.aJ 0)=false),bT h2]
 ·exact gn 18 [4,8,9,10] [] [bT h0,cE ae.enc h1,rp 4 hP,rp 2 (oI ((bh x0.aJ 0)=false)),oR True ((bh x0.aJ 0)=false),bF h2,oO (h3)] (hI h)
 ·exact gn 5 [4] [] [bF h0] (hE h)
theorem Ae{r}{rv:Int×Int}(h:qZ r=some rv):dv prog 307 [.agg (ay.enc r)] [] (.jx [.one (lI rv.1),.one (lI rv.2)]) []:=by
 refine aW func307 fun Γ=>?_
 simp only[qZ,aB,ar,au,av]at h;obtain⟨e0,h4,h⟩:=h;refine gn 9 [4,8,9,10] [] [nL ae.enc r.aq] (EY Γ rv h4 ?_);rcases e0 with Gs|r1
 ·cases h;exact gr 2 [] []
 ·exact oK h
def HS(Γ:bu)(rv:List Int)(cf:Cf):Prop:=Go prog f308 [] Γ (one (lL 1 rv ai)) [] cf
def LC(Γ:bu)(rv:List Int)(x0:ab)(l r sum:List Int)(v:Int):Prop:=HS Γ rv ⟨[.c 116,.l 116,.b 0,.c 15],⟨40,[vP 3 0 6,vL 7 1 sum ai,vL 13 1 r ai,vI 14 (az r),vI 15 v],[oX 6 30 (ab.enc x0)]⟩⟩
def JL(Γ:bu)(rv:List Int)(x0:ab)(l r Qfz:List Int):Prop:=HS Γ rv ⟨[.c 15],⟨40,[vL 7 1 Qfz ai],[]⟩⟩
theorem JM(Γ:bu)(rv:List Int){x0 l r}:∀⦃s:List Int×Int⦄ ⦃e:List Int⦄,aL (fun s=>ji x0 l r s.1 s.2) s=some e→JL Γ rv x0 l r e→LC Γ rv x0 l r s.1 s.2:=by
 refine bl ?_
 rintro⟨sum,v⟩ z_ h hI hE;simp only[ji,aB,ar,au,av]at h;rcases h with⟨h2,x1,h3,x2,h4,⟨h5,r1,h6,h⟩|⟨h5,h⟩⟩|⟨h2,h⟩
 ·exact gn 16 [3,7,13,14,15] [0] [bT h2,cE ai h3,cE ag.enc h4,bT h5,cE ag.enc h4,cC (u6 h6)] (hI h)
 ·exact gn 16 [3,7,13,14,15] [0] [bT h2,cE ai h3,cE ag.enc h4,bF h5] (hI h)
 ·exact gn 5 [7] [] [bF h2] (hE h)
theorem O8{x0 bz cO}{rv:List Int}(h:xS x0 bz cO=some rv):dv prog 308 [.agg (ab.enc x0),.one (lI bz),.one (lI cO)] [] (one (lL 1 rv ai)) []:=by
 refine aW func308 fun Γ=>?_
 simp only[xS,aB,ar,au,av]at h;obtain⟨l,h0,r,h1,Qfz,h7,h⟩:=h;refine gn 9 [3,7,13,14,15] [0] [hH (.cells [lI 0]),hH (.rows (l.map ai)),oO (WZ h0),oO (X9 h0),oO (W0 h0),oO (W4 h0),oO (W5 ai h0),cC (yG h1),nL ai r,hW 3,hH (.jn 1),rp 2 (eL l ai)] (JM Γ rv h7 ?_);obtain rfl:=oK h;exact gr 2 [] []
theorem QU{l}{rv:Int}(h:zN l=some rv):dv prog 309 [.one (lL 14 l al.enc)] [] (one (lI rv)) []:=by
 refine aW func309 fun Γ=>?_
 simp only[zN,aB,ar,au,av]at h;rcases h with⟨h0,h⟩|⟨h0,x0,h1,h⟩
 ·obtain rfl:=oK h;exact gr 8 [] [nL al.enc l,bT h0]
 ·cases h;exact gr 9 [] [nL al.enc l,bF h0,cE al.enc h1,nL ai x0.cap]
def HR(Γ:bu)(rv:List (List Int)×Int)(cf:Cf):Prop:=Go prog f285 [] Γ (.jx [.one (lL 1 rv.1 bE),.one (lI rv.2)]) [] cf
def LB(Γ:bu)(rv:List (List Int)×Int)(x0:ab)(r:ay)(l:List (List Int))(now:List Int)(v:Int):Prop:=HR Γ rv ⟨[.c 2036,.l 2036,.b 0,.c 255],⟨67,[vP 2 0 6,vL 9 1 now ai,vO 10 1 1 l bE,vL 37 2 r.aq ae.enc,vI 38 (az r.aq),vI 39 v],[oX 6 30 (ab.enc x0),oS 1 36 l bE]⟩⟩
def JJ(Γ:bu)(rv:List (List Int)×Int)(x0:ab)(r:ay)(l1:List (List Int)):Prop:=HR Γ rv ⟨[.c 255],⟨67,[vO 10 0 1 l1 bE],[oS 1 36 l1 bE]⟩⟩
theorem JK(Γ:bu)(rv:List (List Int)×Int){x0 r}:∀⦃s:List (List Int)×List Int×Int⦄ ⦃e:(List (List Int))⊕(List (List Int)×Int)⦄,aL (fun s=>jh x0 r s.1 s.2.1 s.2.2) s=some e→iD e (fun e=>JJ Γ rv x0 r e) (fun e=>e=rv)→LB Γ rv x0 r s.1 s.2.1 s.2.2:=by
 refine bl ?_
 rintro⟨l,now,v⟩ z_ h hI hE;simp only[jh,aB,ar,au,av]at h;rcases h with⟨h6,x1,h7,⟨h8,x2,h9,r5,dm,⟨fH,h⟩|⟨fH,gi,h⟩⟩|⟨h8,x3,iG,r6,nW,⟨qx,h⟩|⟨qx,sH,h⟩⟩⟩|⟨h6,h⟩
 ·obtain rfl:=(hE h:_=rv);exact gr 24 [] [bT h6,cE ae.enc h7,bT h8,cE ag.enc h9,cC (Kv dm),bT fH,hW 5,hH (.sg 4 0 1)]
 ·exact gn 27 [2,9,10,37,38,39] [0,4] [bT h6,cE ae.enc h7,bT h8,cE ag.enc h9,cC (Kv dm),bF fH,oO (Eq.refl ([r5.1].map bE).length),aO bE gi] (hI h)
 ·obtain rfl:=(hE h:_=rv);exact gr 24 [] [bT h6,cE ae.enc h7,bF h8,cE ag.enc iG,cC (u6 nW),bT qx,hW 5,hH (.sg 4 0 1)]
 ·exact gn 27 [2,9,10,37,38,39] [0,4] [bT h6,cE ae.enc h7,bF h8,cE ag.enc iG,cC (u6 nW),bF qx,oO (Eq.refl ([r6.1].map bE).length),aO bE sH] (hI h)
 ·exact gn 5 [10] [1] [bF h6] (hE h)
theorem zB{x0 r}{rv:List (List Int)×Int}(h:xR x0 r=some rv):dv prog 285 [.agg (ab.enc x0),.agg (ay.enc r)] [] (.jx [.one (lL 1 rv.1 bE),.one (lI rv.2)]) []:=by
 refine aW func285 fun Γ=>?_
 simp only[xR,aB,ar,au,av]at h;rcases h with⟨r1,h0,⟨h1,h⟩|⟨h1,r2,h2,⟨h3,h⟩|⟨h3,r3,h4,r4,h5,e0,uu,h⟩⟩⟩
 ·cases h;exact gr 10 [] [cC (hG h0),bT h1,hW 5,hH (.sg 4 0 1)]
 ·cases h;exact gr 17 [] [cC (hG h0),bF h1,cC (Ae h2),bT h3,hW 5,hH (.sg 4 0 1)]
 ·refine gn 25 [2,9,10,37,38,39] [0,2] [cC (hG h0),bF h1,cC (Ae h2),bF h3,hH (.draw 7 []),cC (QU h4),cC (O8 h5),nL ae.enc r.aq] (JK Γ rv uu ?_);rcases e0 with l1|r7
  ·cases h;exact gr 2 [] [hW 5,hH (.jn 0),rp 3 (eL l1 bE)]
  ·exact oK h
def Ks(Γ:bu)(rv:Bool)(cf:Cf):Prop:=Go prog f56 [] Γ (one (.bool rv)) [] cf
def NO(Γ:bu)(rv:Bool)(a capacity:List Int)(v:Int):Prop:=Ks Γ rv ⟨[.c 116,.l 116,.b 0,.c 15],⟨26,[vL 1 1 capacity ai,vL 12 1 a ai,vI 13 (az a),vI 14 v],[]⟩⟩
def Me(Γ:bu)(rv:Bool)(a capacity:List Int):Prop:=Ks Γ rv ⟨[.c 15],⟨26,[],[]⟩⟩
theorem Mf(Γ:bu)(rv:Bool){a capacity}:∀⦃s:Int⦄ ⦃e:(Unit)⊕(Bool)⦄,aL (fun s=>fM a capacity s) s=some e→iD e (fun e=>Me Γ rv a capacity) (fun e=>e=rv)→NO Γ rv a capacity s:=by
 refine bl ?_
 intro v z_ h hI hE;simp only[fM,aB,ar,au,av]at h;rcases h with⟨h1,x0,h2,x1,h3,⟨h4,h⟩|⟨h4,h⟩⟩|⟨h1,h⟩
 ·obtain rfl:=(hE h:_=rv);exact gr 14 [] [bT h1,cE ai h2,cE ai h3,bT h4]
 ·exact gn 16 [1,12,13,14] [] [bT h1,cE ai h2,cE ai h3,bF h4] (hI h)
 ·exact gn 5 [] [] [bF h1] (hE h)
theorem mK{a capacity}{rv:Bool}(h:qA a capacity=some rv):dv prog 56 [.one (lL 1 a ai),.one (lL 1 capacity ai)] [] (one (.bool rv)) []:=by
 refine aW func56 fun Γ=>?_
 simp only[qA,aB,ar,au,av]at h;rcases h with⟨h0,h⟩|⟨h0,e0,h5,h⟩
 ·obtain rfl:=oK h;exact gr 8 [] [nL ai a,nL ai capacity,bT h0]
 ·refine gn 12 [1,12,13,14] [] [nL ai a,nL ai capacity,bF h0,nL ai a] (Mf Γ rv h5 ?_);rcases e0 with e0|r
  ·obtain rfl:=oK h;exact gr 2 [] []
  ·exact oK h
theorem Eb{a c c1}{rv:Bool}(h:y4 a c c1=some rv):dv prog 287 [.one (lL 1 a ai),.one (.ip (ab.enc c) 0),.one (.ip (ay.enc c1) 0)] [] (one (.bool rv)) []:=by
 refine aW func287 fun Γ=>?_
 simp only[y4,aB,ar,au,av]at h;obtain⟨x0,h0,r,h1,h⟩:=h;cases h;exact gr 4 [] [cE al.enc h0,cC (mK h1)]
def ki(Γ:bu)(rv:Int)(cf:Cf):Prop:=Go prog f310 [] Γ (one (lI rv)) [] cf
def qi(Γ:bu)(rv:Int)(s0:List (List Int))(c:ab)(c1:ay)(v:Int):Prop:=ki Γ rv ⟨[.c 52,.l 52,.b 0,.c 7],⟨19,[vL 0 1 s0 bE,(1,one (.fn (.func 287) [.ip (ab.enc c) 0,.ip (ay.enc c1) 0])),vI 7 (az s0),vI 8 v],[]⟩⟩
def p_(Γ:bu)(rv:Int)(s0:List (List Int))(c:ab)(c1:ay):Prop:=ki Γ rv ⟨[.c 7],⟨19,[],[]⟩⟩
theorem qa(Γ:bu)(rv:Int){s0 c c1}:∀⦃s:Int⦄ ⦃e:(Unit)⊕(Int)⦄,aL (fun s=>ch s0 c c1 s) s=some e→iD e (fun e=>p_ Γ rv s0 c c1) (fun e=>e=rv)→qi Γ rv s0 c c1 s:=by
 refine bl ?_
 intro v z_ h hI hE;simp only[ch,aB,ar,au,av]at h;rcases h with⟨h0,x0,h1,r,h2,⟨h3,h⟩|⟨h3,h⟩⟩|⟨h0,h⟩
 ·obtain rfl:=(hE h:_=rv);exact gr 14 [] [bT h0,cE bE h1,cC (Eb h2),bT h3]
 ·exact gn 16 [0,1,7,8] [] [bT h0,cE bE h1,cC (Eb h2),bF h3] (hI h)
 ·exact gn 5 [] [] [bF h0] (hE h)
theorem q_{s0 c c1}{rv:Int}(h:dN s0 c c1=some rv):dv prog 310 [.one (lL 1 s0 bE),.one (.fn (.func 287) [.ip (ab.enc c) 0,.ip (ay.enc c1) 0])] [] (one (lI rv)) []:=by
 refine aW func310 fun Γ=>?_
 simp only[dN,aB,ar,au,av]at h;obtain⟨e0,h4,h⟩:=h;refine gn 7 [0,1,7,8] [] [nL bE s0] (qa Γ rv h4 ?_);rcases e0 with e0|r1
 ·cases h;exact gr 2 [] []
 ·exact oK h
theorem iW{s0 c c1}{rv:Bool}(h:eC s0 c c1=some rv):dv prog 286 [.one (lL 1 s0 bE),.one (.fn (.func 287) [.ip (ab.enc c) 0,.ip (ay.enc c1) 0])] [] (one (.bool rv)) []:=by
 refine aW func286 fun Γ=>?_
 simp only[eC,aB,ar,au,av]at h;obtain⟨r,h0,h⟩:=h;cases h;exact gr 4 [] [cC (q_ h0)]
theorem Bu{x0 r}{rv:Int}(h:zA x0 r=some rv):dv prog 254 [.agg (ab.enc x0),.agg (ay.enc r)] [] (one (lI rv)) []:=by
 refine aW func254 fun Γ=>?_
 simp only[zA,aB,ar,au,av]at h;rcases h with⟨h0,h⟩|⟨h0,r1,h1,⟨h2,h⟩|⟨h2,r2,h3,⟨h4,h⟩|⟨h4,h⟩⟩⟩
 ·obtain rfl:=oK h;exact gr 8 [] [rp 5 hP,rp 3 (oI ((bh r.aY 0)=false)),nL al.enc x0.types,hP,hP,rp 2 (oI ((bh r.aY 0)=false)),oR True ((bh r.aY 0)=false),bT h0]
 ·cases h;exact gr 15 [] [rp 5 hP,rp 3 (oI ((bh r.aY 0)=false)),nL al.enc x0.types,hP,hP,rp 2 (oI ((bh r.aY 0)=false)),oR True ((bh r.aY 0)=false),bF h0,cC (zB h1),bT h2]
 ·obtain rfl:=oK h;exact gr 20 [] [rp 5 hP,rp 3 (oI ((bh r.aY 0)=false)),nL al.enc x0.types,hP,hP,rp 2 (oI ((bh r.aY 0)=false)),oR True ((bh r.aY 0)=false),bF h0,cC (zB h1),bF h2,cC (iW h3),bT h4]
 ·obtain rfl:=oK h;exact gr 21 [] [rp 5 hP,rp 3 (oI ((bh r.aY 0)=false)),nL al.enc x0.types,hP,hP,rp 2 (oI ((bh r.aY 0)=false)),oR True ((bh r.aY 0)=false),bF h0,cC (zB h1),bF h2,cC (iW h3),bF h4]
def JS(Γ:bu)(rv:bp×Bool)(cf:Cf):Prop:=Go prog f288 [] Γ (.jx [.agg [lL 1 rv.1.x.bG.aV bO,lL 6 rv.1.x.bG.cH aH.enc,lL 14 rv.1.x.types al.enc,lL 16 rv.1.x.ah ag.enc,lL 2 rv.1.x.bV aA.enc,lL 2 rv.1.x.before aA.enc,.str rv.1.t.name,lI rv.1.t.rH,lI rv.1.t.a8,lI rv.1.t.fN,lL 1 rv.1.t.cap ai,lI rv.1.t.cG,lI rv.1.t.aT,lI rv.1.t.bJ,lI rv.1.t.b9,lI rv.1.t.iJ,lI rv.1.t.bY,lI rv.1.t.rK,lI rv.1.t.iY,lI rv.1.t.iZ,lI rv.1.r.aY,lI rv.1.r.aK,lL 1 rv.1.r.aQ cJ,lL 2 rv.1.r.aq ae.enc,lL 4 rv.1.aG a6.enc],.one (.bool rv.2)]) [] cf
def NG(Γ:bu)(rv:bp×Bool)(x0:ab)(r:ay)(x1:al)(l:List a6)(v:Int):Prop:=JS Γ rv ⟨[.c 244,.l 244,.b 0,.c 31],⟨78,[vP 2 0 6,vP 4 1 25,vP 6 2 25,vL 49 2 r.aq ae.enc,vI 50 (az r.aq),vI 51 v],[oX 6 30 (ab.enc x0),oX 25 371 [.cB,.cB,.cB,.cB,.cB,.cB,.str ByteArray.empty,lI 0,lI 0,lI 0,.cB,lI 0,lI 0,lI 0,lI 0,lI 0,lI 0,lI 0,lI 0,lI 0,lI 0,lI 0,.cB,.cB,.cB],oX 25 371 [lL 1 x0.bG.aV bO,lL 6 x0.bG.cH aH.enc,lL 14 x0.types al.enc,lL 16 x0.ah ag.enc,lL 2 x0.bV aA.enc,lL 2 x0.before aA.enc,.str x1.name,lI x1.rH,lI x1.a8,lI x1.fN,lL 1 x1.cap ai,lI x1.cG,lI x1.aT,lI x1.bJ,lI x1.b9,lI x1.iJ,lI x1.bY,lI x1.rK,lI x1.iY,lI x1.iZ,lI r.aY,lI r.aK,lL 1 r.aQ cJ,lL 2 r.aq ae.enc,lO 3 4 l a6.enc],oS 4 67 l a6.enc]⟩⟩
def LP(Γ:bu)(rv:bp×Bool)(x0:ab)(r:ay)(x1:al)(l1:List a6):Prop:=JS Γ rv ⟨[.c 31],⟨78,[vP 4 0 25,vP 6 1 25],[oX 25 371 [.cB,.cB,.cB,.cB,.cB,.cB,.str ByteArray.empty,lI 0,lI 0,lI 0,.cB,lI 0,lI 0,lI 0,lI 0,lI 0,lI 0,lI 0,lI 0,lI 0,lI 0,lI 0,.cB,.cB,.cB],oX 25 371 [lL 1 x0.bG.aV bO,lL 6 x0.bG.cH aH.enc,lL 14 x0.types al.enc,lL 16 x0.ah ag.enc,lL 2 x0.bV aA.enc,lL 2 x0.before aA.enc,.str x1.name,lI x1.rH,lI x1.a8,lI x1.fN,lL 1 x1.cap ai,lI x1.cG,lI x1.aT,lI x1.bJ,lI x1.b9,lI x1.iJ,lI x1.bY,lI x1.rK,lI x1.iY,lI x1.iZ,lI r.aY,lI r.aK,lL 1 r.aQ cJ,lL 2 r.aq ae.enc,lO 2 4 l1 a6.enc],oS 4 67 l1 a6.enc]⟩⟩
theorem LQ(Γ:bu)(rv:bp×Bool){x0 r x1}:∀⦃s:List a6×Int⦄ ⦃e:(List a6)⊕(bp×Bool)⦄,aL (fun s=>tA x0 r x1 s.1 s.2) s=some e→iD e (fun e=>LP Γ rv x0 r x1 e) (fun e=>e=rv)→NG Γ rv x0 r x1 s.1 s.2:=by
 refine bl ?_
 rintro⟨l,v⟩ z_ h hI hE;simp only[tA,aB,ar,au,av]at h;rcases h with⟨h2,x2,h3,r1,h4,⟨h5,h⟩|⟨h5,h6,h⟩⟩|⟨h2,h⟩
 ·obtain rfl:=(hE h:_=rv);exact gr 17 [] [bT h2,cE ae.enc h3,cC (tG h4),rp 4 hP,rp 2 (oI ((cr r1.2 0)=false)),oR True ((cr r1.2 0)=false),bT h5,hW 5,hH (.fj 1 0 1),hH (.fj 1 1 6),hH (.fj 1 2 14),hH (.fj 1 3 16),hH (.fj 1 4 2),hH (.fj 1 5 2),hH (.fj 1 10 1),hH (.fj 1 22 1),hH (.fj 1 23 2),hH (.fj 1 24 4)]
 ·exact gn 20 [2,4,6,49,50,51] [0,1,2,7] [bT h2,cE ae.enc h3,cC (tG h4),rp 4 hP,rp 2 (oI ((cr r1.2 0)=false)),oR True ((cr r1.2 0)=false),bF h5,oO (Eq.refl ([r1.1].map a6.enc).length),aO a6.enc h6] (hI h)
 ·exact gn 5 [4,6] [1,2,3] [bF h2] (hE h)
theorem HV{x0 r}{rv:bp×Bool}(h:xh x0 r=some rv):dv prog 288 [.agg (ab.enc x0),.agg (ay.enc r)] [] (.jx [.agg [lL 1 rv.1.x.bG.aV bO,lL 6 rv.1.x.bG.cH aH.enc,lL 14 rv.1.x.types al.enc,lL 16 rv.1.x.ah ag.enc,lL 2 rv.1.x.bV aA.enc,lL 2 rv.1.x.before aA.enc,.str rv.1.t.name,lI rv.1.t.rH,lI rv.1.t.a8,lI rv.1.t.fN,lL 1 rv.1.t.cap ai,lI rv.1.t.cG,lI rv.1.t.aT,lI rv.1.t.bJ,lI rv.1.t.b9,lI rv.1.t.iJ,lI rv.1.t.bY,lI rv.1.t.rK,lI rv.1.t.iY,lI rv.1.t.iZ,lI rv.1.r.aY,lI rv.1.r.aK,lL 1 rv.1.r.aQ cJ,lL 2 rv.1.r.aq ae.enc,lL 4 rv.1.aG a6.enc],.one (.bool rv.2)]) []:=by
 refine aW func288 fun Γ=>?_
 simp only[xh,aB,ar,au,av]at h;rcases h with⟨h0,h⟩|⟨h0,x1,h1,e0,h7,h⟩
 ·cases h;exact gr 8 [] [rp 5 hP,rp 3 (oI ((bh r.aY 0)=false)),nL al.enc x0.types,rp 13 hP,rp 2 (oI ((bh r.aY 0)=false)),oR True ((bh r.aY 0)=false),rp 2 (oI (((bh r.aY 0)||(cD r.aY (az x0.types)))=false)),oR True (((bh r.aY 0)||(cD r.aY (az x0.types)))=false),rp 2 (oI ((((bh r.aY 0)||(cD r.aY (az x0.types)))||(bh r.aK 0))=false)),oR True ((((bh r.aY 0)||(cD r.aY (az x0.types)))||(bh r.aK 0))=false),rp 2 (oI (((((bh r.aY 0)||(cD r.aY (az x0.types)))||(bh r.aK 0))||(dp r.aK 4096))=false)),nL ae.enc r.aq,hP,hP,oI (((((bh r.aY 0)||(cD r.aY (az x0.types)))||(bh r.aK 0))||(dp r.aK 4096))=false),oR True (((((bh r.aY 0)||(cD r.aY (az x0.types)))||(bh r.aK 0))||(dp r.aK 4096))=false),bT h0,hW 5,hH (.fj 2 0 1),hH (.fj 2 1 6),hH (.fj 2 2 14),hH (.fj 2 3 16),hH (.fj 2 4 2),hH (.fj 2 5 2),hH (.fj 2 10 1),hH (.fj 2 22 1),hH (.fj 2 23 2),hH (.fj 2 24 4)]
 ·refine gn 14 [2,4,6,49,50,51] [0,2,3,4] [rp 5 hP,rp 3 (oI ((bh r.aY 0)=false)),nL al.enc x0.types,rp 13 hP,rp 2 (oI ((bh r.aY 0)=false)),oR True ((bh r.aY 0)=false),rp 2 (oI (((bh r.aY 0)||(cD r.aY (az x0.types)))=false)),oR True (((bh r.aY 0)||(cD r.aY (az x0.types)))=false),rp 2 (oI ((((bh r.aY 0)||(cD r.aY (az x0.types)))||(bh r.aK 0))=false)),oR True ((((bh r.aY 0)||(cD r.aY (az x0.types)))||(bh r.aK 0))=false),rp 2 (oI (((((bh r.aY 0)||(cD r.aY (az x0.types)))||(bh r.aK 0))||(dp r.aK 4096))=false)),nL ae.enc r.aq,hP,hP,oI (((((bh r.aY 0)||(cD r.aY (az x0.types)))||(bh r.aK 0))||(dp r.aK 4096))=false),oR True (((((bh r.aY 0)||(cD r.aY (az x0.types)))||(bh r.aK 0))||(dp r.aK 4096))=false),bF h0,hH (.draw 10 []),cE al.enc h1,nL ae.enc r.aq,hW 3,hH (.tV 3 24 4 67)] (LQ Γ rv h7 ?_);rcases e0 with l1|r2
  ·cases h;exact gr 2 [] [hW 5,hH (.jn 2),rp 3 (eL l1 a6.enc)]
  ·exact oK h
theorem yP{p}{rv:an}(h:fL p=some rv):dv prog 289 [.agg (bp.enc p)] [] (gG [lI rv.ready,lI rv.ff,.bool rv.c9.bY,lI rv.c9.cF,lL 4 rv.c9.jv bg.enc,lI rv.c9.oY,lI rv.c9.ed]) []:=by
 refine aW func289 fun Γ=>?_
 simp only[fL,aB,ar,au,av]at h;cases h;exact gr 4 [] [hW 15,hH (.fj 1 4 4)]
theorem gM{n i}{rv:Bool}(h:rk n i=some rv):dv prog 215 [.agg (aD.enc n),.one (lI i)] [] (one (.bool rv)) []:=by
 refine aW func215 fun Γ=>?_
 simp only[rk,aB,ar,au,av]at h;cases h;exact gr 4 [] [rp 4 hP,rp 2 (oI ((cD i 0)=true)),nL bO n.aV,hP,hP,rp 2 (oI ((cD i 0)=true)),oR True ((cD i 0)=true)]
theorem CM{a}{rv:Bs}(h:xJ a=some rv):dv prog 251 [.agg (aH.enc a)] [] (gG [lI rv.a8,lI rv.fN,lI rv.aT]) []:=by
 refine aW func251 fun Γ=>?_
 simp only[xJ,aB,ar,au,av]at h;cases h;exact gr 4 [] []
def FZ(Γ:bu)(rv:aH×Bool)(cf:Cf):Prop:=Go prog f216 [] Γ (.jx [.agg [lI rv.1.a8,lI rv.1.fN,lI rv.1.aT,lI rv.1.ed,lL 2 rv.1.jw aI.enc,lL 2 rv.1.ja aI.enc],.one (.bool rv.2)]) [] cf
def KC(Γ:bu)(rv:aH×Bool)(n:aD)(aT a8 fN v:Int):Prop:=FZ Γ rv ⟨[.c 116,.l 116,.b 0,.c 15],⟨31,[vP 8 0 6,vP 10 1 3,vL 18 6 n.cH aH.enc,vI 19 (az n.cH),vI 20 v],[oX 6 150 [lI 0,lI 0,lI 0,lI 0,.cB,.cB],oX 3 330 [lI a8,lI fN,lI aT]]⟩⟩
def IJ(Γ:bu)(rv:aH×Bool)(n:aD)(aT a8 fN:Int):Prop:=FZ Γ rv ⟨[.c 15],⟨31,[vP 8 0 6],[oX 6 150 [lI 0,lI 0,lI 0,lI 0,.cB,.cB]]⟩⟩
theorem IK(Γ:bu)(rv:aH×Bool){n aT a8 fN}:∀⦃s:Int⦄ ⦃e:(Unit)⊕(aH×Bool)⦄,aL (fun s=>qV n aT a8 fN s) s=some e→iD e (fun e=>IJ Γ rv n aT a8 fN) (fun e=>e=rv)→KC Γ rv n aT a8 fN s:=by
 refine bl ?_
 intro v z_ h hI hE;simp only[qV,aB,ar,au,av]at h;rcases h with⟨h0,x0,h1,r,h2,⟨h3,h⟩|⟨h3,h⟩⟩|⟨h0,h⟩
 ·obtain rfl:=(hE h:_=rv);exact gr 14 [] [bT h0,cE aH.enc h1,hH (.draw 4 []),cC (CM h2),bT h3]
 ·exact gn 16 [8,10,18,19,20] [0,1] [bT h0,cE aH.enc h1,hH (.draw 4 []),cC (CM h2),bF h3] (hI h)
 ·exact gn 5 [8] [0] [bF h0] (hE h)
theorem Eg{n aT a8 fN}{rv:aH×Bool}(h:wi n aT a8 fN=some rv):dv prog 216 [.agg (aD.enc n),.one (lI aT),.one (lI a8),.one (lI fN)] [] (.jx [.agg [lI rv.1.a8,lI rv.1.fN,lI rv.1.aT,lI rv.1.ed,lL 2 rv.1.jw aI.enc,lL 2 rv.1.ja aI.enc],.one (.bool rv.2)]) []:=by
 refine aW func216 fun Γ=>?_
 simp only[wi,aB,ar,au,av]at h;obtain⟨e0,h4,h⟩:=h;refine gn 9 [8,10,18,19,20] [1,2] [nL aH.enc n.cH] (IK Γ rv h4 ?_);rcases e0 with e0|r1
 ·cases h;exact gr 2 [] [hW 5,hH (.fj 0 4 2),hH (.fj 0 5 2)]
 ·exact oK h
def A_(Γ:bu)(rv:Int)(cf:Cf):Prop:=Go prog f217 [] Γ (one (lI rv)) [] cf
def F0(Γ:bu)(rv:Int)(a:aH)(t out v:Int):Prop:=A_ Γ rv ⟨[.c 116,.l 116,.b 0,.c 15],⟨29,[vI 1 t,vI 5 out,vL 13 2 a.ja aI.enc,vI 14 (az a.ja),vI 15 v],[]⟩⟩
def ET(Γ:bu)(rv:Int)(a:aH)(t Qfe:Int):Prop:=A_ Γ rv ⟨[.c 15],⟨29,[vI 5 Qfe],[]⟩⟩
theorem EU(Γ:bu)(rv:Int){a t}:∀⦃s:Int×Int⦄ ⦃e:Int⦄,aL (fun s=>uj a t s.1 s.2) s=some e→ET Γ rv a t e→F0 Γ rv a t s.1 s.2:=by
 refine bl ?_
 rintro⟨out,v⟩ z_ h hI hE;simp only[uj,aB,ar,au,av]at h;rcases h with⟨h1,x0,h2,⟨h3,h⟩|⟨h3,h⟩⟩|⟨h1,h⟩
 ·exact gn 16 [1,5,13,14,15] [] [bT h1,cE aI.enc h2,bT h3] (hI h)
 ·exact gn 16 [1,5,13,14,15] [] [bT h1,cE aI.enc h2,bF h3] (hI h)
 ·exact gn 5 [5] [] [bF h1] (hE h)
theorem IL{a t}{rv:Int}(h:qW a t=some rv):dv prog 217 [.agg (aH.enc a),.one (lI t)] [] (one (lI rv)) []:=by
 refine aW func217 fun Γ=>?_
 simp only[qW,aB,ar,au,av]at h;obtain⟨r,h0,Qfe,h4,h⟩:=h;refine gn 9 [1,5,13,14,15] [] [cC (C4 h0),nL aI.enc a.ja] (EU Γ rv h4 ?_);obtain rfl:=oK h;exact gr 2 [] []
theorem mL{n aT a8 fN t}{rv:Int×Int×Int}(h:ui n aT a8 fN t=some rv):dv prog 159 [.agg (aD.enc n),.one (lI aT),.one (lI a8),.one (lI fN),.one (lI t)] [] (.jx [.one (lI rv.1),.one (lI rv.2.1),.one (lI rv.2.2)]) []:=by
 refine aW func159 fun Γ=>?_
 simp only[ui,aB,ar,au,av]at h;rcases h with⟨r,h0,⟨h1,r1,h2,⟨h3,⟨h4,h⟩|⟨h4,r2,h5,⟨h6,r3,h7,h⟩|⟨h6,h⟩⟩⟩|⟨h3,h⟩⟩|⟨h1,h⟩⟩
 ·cases h;exact gr 13 [] [cC (gM h0),rp 3 (nF h1),cC (gM h2),nF h1,nF h1,nF h3,bT h4]
 ·cases h;exact gr 21 [] [cC (gM h0),rp 3 (nF h1),cC (gM h2),nF h1,nF h1,nF h3,bF h4,cC (Eg h5),nF h6,hH (.draw 8 []),cC (IL h7)]
 ·cases h;exact gr 20 [] [cC (gM h0),rp 3 (nF h1),cC (gM h2),nF h1,nF h1,nF h3,bF h4,cC (Eg h5),nT h6]
 ·cases h;exact gr 8 [] [cC (gM h0),rp 3 (nF h1),cC (gM h2),nF h1,nF h1,nT h3]
 ·cases h;exact gr 8 [] [cC (gM h0),rp 5 (nT h1),tT]
theorem tU{s0 gC}{rv:Int×Int}(h:sW s0 gC=some rv):dv prog 218 [.agg (a6.enc s0),.one (lI gC)] [] (.jx [.one (lI rv.1),.one (lI rv.2)]) []:=by
 refine aW func218 fun Γ=>?_
 simp only[sW,aB,ar,au,av]at h;rcases h with⟨h0,h⟩|⟨h0,h⟩
 ·cases h;exact gr 10 [] [bT h0]
 ·cases h;exact gr 11 [] [bF h0]
theorem lU{p aq}{rv:Int}(h:mS p aq=some rv):dv prog 317 [.agg (bp.enc p),.one (lI aq)] [] (one (lI rv)) []:=by
 refine aW func317 fun Γ=>?_
 simp only[mS,aB,ar,au,av]at h;rcases h with⟨h0,h⟩|⟨h0,x0,h1,h⟩
 ·cases h;exact gr 8 [] [bT h0]
 ·cases h;exact gr 9 [] [bF h0,cE a6.enc h1]
theorem kg{s0}{rv:List bg}(h:dY s0=some rv):dv prog 316 [.one (lL 4 s0 bg.enc)] [] (one (lO 0 4 rv bg.enc)) [oS 4 405 rv bg.enc]:=by
 refine aW func316 fun Γ=>?_
 simp only[dY,aB,ar,au,av]at h;rcases h with⟨h0,h⟩|⟨h0,h2,h⟩
 ·obtain⟨hx,h⟩:=UM h;refine gn 5 [0,4] [] [hH (.skip)] (cf':=⟨[.c 13,.c 7],⟨8,[vL 0 4 s0 bg.enc,(4,.Xp)],[]⟩⟩) (go_amb 4 rfl ?_ ?_)
  ·replace h:=hx;cases h;exact gr 3 [0] [tT,hW 3,hH (.kH 2 4 405)]
  ·simp only[aB,ar,au,av]at h;obtain⟨h1,h⟩:=h;obtain rfl:=oK h;exact gr 4 [0] [fF,aZ bg.enc h1]
 ·obtain rfl:=oK h;exact gr 9 [0] [oO (neE bg.enc h0),fF,hH (.bit false),aZ bg.enc h2]
def rI(Γ:bu)(rv:an×Int)(cf:Cf):Prop:=Go prog f311 [] Γ (.jx [.agg [lI rv.1.ready,lI rv.1.ff,.bool rv.1.c9.bY,lI rv.1.c9.cF,lL 4 rv.1.c9.jv bg.enc,lI rv.1.c9.oY,lI rv.1.c9.ed],.one (lI rv.2)]) [] cf
theorem wZ(Γ:bu)(rv:an×Int){p l cF ff o7 nN r2 l2 ready oY}(h:kr p l cF ff o7 nN r2 l2 ready oY=some rv):rI Γ rv ⟨[.c 32767],⟨163,[vP 4 0 25,vP 8 1 7,vP 12 2 7],[oX 25 371 (bp.enc p),oX 7 375 [lI 0,lI 0,.bool false,lI 0,.cB,lI 0,lI 0],oX 7 375 [lI ready,lI (dd .i64 (aU .i64 ff r2.1) cF),.bool o7,lI nN,lO 3 4 l2 bg.enc,lI oY,lI (aU .i64 l.c9.ed r2.2.1)],oS 4 405 l2 bg.enc]⟩⟩:=by
 simp only[kr,aB,ar,au,av]at h;rcases h with⟨qx,h⟩|⟨qx,h⟩
 ·cases h;exact gr 6 [] [bT qx,hW 5,hH (.fj 1 4 4)]
 ·cases h;exact gr 7 [] [bF qx,hW 6,hH (.jn 3),rp 3 (eL l2 bg.enc)]
theorem wY(Γ:bu)(rv:an×Int){p l done cF ff l1 o7 nN fN}(h:iF p l done cF ff l1 o7 nN fN=some rv):rI Γ rv ⟨[.c 1023],⟨163,[vI 2 done,vP 4 0 25,vP 8 1 7,vI 10 cF,vI 11 ff,vP 12 2 7,vB 13 (cM done (az p.aG)),vI 14 fN],[oX 25 371 (bp.enc p),oX 7 375 [lI 0,lI 0,.bool false,lI 0,.cB,lI 0,lI 0],oX 7 375 [lI 0,lI 0,.bool o7,lI nN,lO 3 4 l1 bg.enc,lI l.c9.oY,lI l.c9.ed],oS 4 405 l1 bg.enc]⟩⟩:=by
 simp only[iF,aB,ar,au,av]at h;rcases h with⟨r1,h6,r2,h7,⟨h8,h⟩|⟨h8,⟨h9,⟨dm,h⟩|⟨dm,h⟩⟩|⟨h9,x2,fH,r3,gi,⟨iG,h⟩|⟨iG,nW,h⟩⟩⟩⟩
 ·cases h;exact gr 8 [] [hH (.draw 19 []),cC (lU h6),cC (mL h7),bT h8,hW 5,hH (.fj 1 4 4)]
 ·cases h;exact gr 21 [] [hH (.draw 19 []),cC (lU h6),cC (mL h7),bF h8,bT h9,bT dm,hW 5,hH (.fj 1 4 4)]
 ·exact gn 23 [4,8,12] [0,1,2,3] [hH (.draw 19 []),cC (lU h6),cC (mL h7),bF h8,bT h9,bF dm] (wZ Γ rv h)
 ·cases h;exact gr 23 [] [hH (.draw 19 []),cC (lU h6),cC (mL h7),bF h8,bF h9,cE a6.enc fH,cC (tU gi),bT iG,hW 5,hH (.fj 1 4 4)]
 ·exact gn 25 [4,8,12] [0,1,2,5] [hH (.draw 19 []),cC (lU h6),cC (mL h7),bF h8,bF h9,cE a6.enc fH,cC (tU gi),bF iG,cE a6.enc fH,oO (Eq.refl ([(bg.mk r2.1 r3.1 0 false)].map bg.enc).length),aO bg.enc nW] (wZ Γ rv h)
theorem wX(Γ:bu)(rv:an×Int){p l done cF ff l1 o7 nN}(h:kp p l done cF ff l1 o7 nN=some rv):rI Γ rv ⟨[.c 127],⟨163,[vI 2 done,vP 4 0 25,vP 8 1 7,vI 10 cF,vI 11 ff,vP 12 2 7],[oX 25 371 (bp.enc p),oX 7 375 [lI 0,lI 0,.bool false,lI 0,.cB,lI 0,lI 0],oX 7 375 [lI 0,lI 0,.bool o7,lI nN,lO 3 4 l1 bg.enc,lI l.c9.oY,lI l.c9.ed],oS 4 405 l1 bg.enc]⟩⟩:=by
 simp only[kp,aB,ar,au,av]at h;rcases h with⟨h4,h⟩|⟨h4,x1,h5,h⟩
 ·exact gn 9 [2,4,8,10,11,12,13,14] [0,1,2,3] [nL a6.enc p.aG,nF h4] (wY Γ rv h)
 ·exact gn 9 [2,4,8,10,11,12,13,14] [0,1,2,3] [nL a6.enc p.aG,nT h4,cE a6.enc h5] (wY Γ rv h)
theorem wW(Γ:bu)(rv:an×Int){p l done bY cF ff}(h:ko p l done bY cF ff=some rv):rI Γ rv ⟨[.c 15],⟨163,[vI 2 done,vB 3 bY,vP 4 0 25,vP 5 1 7,vP 8 2 7,vI 10 cF,vI 11 ff],[oX 25 371 (bp.enc p),oX 7 375 (an.enc l),oX 7 375 [lI 0,lI 0,.bool false,lI 0,.cB,lI 0,lI 0]]⟩⟩:=by
 simp only[ko,aB,ar,au,av]at h;rcases h with⟨r,h1,⟨h2,h⟩|⟨h2,x0,h3,h⟩⟩
 ·exact gn 11 [2,4,8,10,11,12] [0,2,3,4] [cC (kg h1),bT h2] (wX Γ rv h)
 ·exact gn 11 [2,4,8,10,11,12] [0,2,3,4] [cC (kg h1),bF h2,oO (fJ h3),oO (fI bg.enc h3),rE bg.enc h3,hH (.rows ((e_ r (dd .i64 done 1) (bg.mk x0.gC x0.rU x0.cF bY)).map bg.enc)),hH (.uG 4 ((e_ r (dd .i64 done 1) (bg.mk x0.gC x0.rU x0.cF bY)).map bg.enc).length),oO (I7 bg.enc r (dd .i64 done 1) (bg.mk x0.gC x0.rU x0.cF bY)),rp 3 (oO (t_ bg.enc r (dd .i64 done 1) (bg.mk x0.gC x0.rU x0.cF bY))),oO (fJ (getSet h3 (bg.mk x0.gC x0.rU x0.cF bY))),oO (fI bg.enc (getSet h3 (bg.mk x0.gC x0.rU x0.cF bY))),rE bg.enc (getSet h3 (bg.mk x0.gC x0.rU x0.cF bY)),hH (.rows ((e_ (e_ r (dd .i64 done 1) (bg.mk x0.gC x0.rU x0.cF bY)) (dd .i64 done 1) (bg.mk x0.gC x0.rU cF bY)).map bg.enc)),hH (.uG 4 ((e_ (e_ r (dd .i64 done 1) (bg.mk x0.gC x0.rU x0.cF bY)) (dd .i64 done 1) (bg.mk x0.gC x0.rU cF bY)).map bg.enc).length),oO (I7 bg.enc (e_ r (dd .i64 done 1) (bg.mk x0.gC x0.rU x0.cF bY)) (dd .i64 done 1) (bg.mk x0.gC x0.rU cF bY)),rp 4 (oO (t_ bg.enc (e_ r (dd .i64 done 1) (bg.mk x0.gC x0.rU x0.cF bY)) (dd .i64 done 1) (bg.mk x0.gC x0.rU cF bY)))] (wX Γ rv h)
theorem nf{p l done bY}{rv:an×Int}(h:jW p l done bY=some rv):dv prog 311 [.agg (bp.enc p),.agg (an.enc l),.one (lI done),.one (.bool bY)] [] (.jx [.agg [lI rv.1.ready,lI rv.1.ff,.bool rv.1.c9.bY,lI rv.1.c9.cF,lL 4 rv.1.c9.jv bg.enc,lI rv.1.c9.oY,lI rv.1.c9.ed],.one (lI rv.2)]) []:=by
 refine aW func311 fun Γ=>?_
 simp only[jW,aB,ar,au,av]at h;rcases h with⟨h0,h⟩|⟨h0,h⟩
 ·exact gn 11 [2,3,4,5,8,10,11] [0,1,2] [hH (.draw 6 []),bT h0] (wW Γ rv h)
 ·exact gn 9 [2,3,4,5,8,10,11] [0,1,2] [hH (.draw 6 []),bF h0] (wW Γ rv h)
theorem Fi{l m}{rv:Bool}(h:uQ l m=some rv):dv prog 314 [.agg (an.enc l),.agg (an.enc m)] [] (one (.bool rv)) []:=by
 refine aW func314 fun Γ=>?_
 simp only[uQ,aB,ar,au,av]at h;cases h;exact gr 4 [] [rp 6 hP,rp 4 (oI ((cM l.ready m.ready)=true)),oR True ((cM l.ready m.ready)=true)]
theorem xV{m c}{rv:Bool}(h:ou m c=some rv):dv prog 313 [.agg (an.enc m),.one (.ip (an.enc c) 0)] [] (one (.bool rv)) []:=by
 refine aW func313 fun Γ=>?_
 simp only[ou,aB,ar,au,av]at h;obtain⟨r,h0,h⟩:=h;obtain rfl:=oK h;exact gr 4 [] [cC (Fi h0)]
def gf(Γ:bu)(rv:Int)(cf:Cf):Prop:=Go prog f318 [] Γ (one (lI rv)) [] cf
def ll(Γ:bu)(rv:Int)(s0:List an)(c:an)(v:Int):Prop:=gf Γ rv ⟨[.c 52,.l 52,.b 0,.c 7],⟨19,[vL 0 7 s0 an.enc,(1,one (.fn (.func 313) [.ip (an.enc c) 0])),vI 7 (az s0),vI 8 v],[]⟩⟩
def lf(Γ:bu)(rv:Int)(s0:List an)(c:an):Prop:=gf Γ rv ⟨[.c 7],⟨19,[],[]⟩⟩
theorem lg(Γ:bu)(rv:Int){s0 c}:∀⦃s:Int⦄ ⦃e:(Unit)⊕(Int)⦄,aL (fun s=>bw s0 c s) s=some e→iD e (fun e=>lf Γ rv s0 c) (fun e=>e=rv)→ll Γ rv s0 c s:=by
 refine bl ?_
 intro v z_ h hI hE;simp only[bw,aB,ar,au,av]at h;rcases h with⟨h0,x0,h1,r,h2,⟨h3,h⟩|⟨h3,h⟩⟩|⟨h0,h⟩
 ·obtain rfl:=(hE h:_=rv);exact gr 14 [] [bT h0,cE an.enc h1,cC (xV h2),bT h3]
 ·exact gn 16 [0,1,7,8] [] [bT h0,cE an.enc h1,cC (xV h2),bF h3] (hI h)
 ·exact gn 5 [] [] [bF h0] (hE h)
theorem mu{s0 c}{rv:Int}(h:dy s0 c=some rv):dv prog 318 [.one (lL 7 s0 an.enc),.one (.fn (.func 313) [.ip (an.enc c) 0])] [] (one (lI rv)) []:=by
 refine aW func318 fun Γ=>?_
 simp only[dy,aB,ar,au,av]at h;obtain⟨e0,h4,h⟩:=h;refine gn 7 [0,1,7,8] [] [nL an.enc s0] (lg Γ rv h4 ?_);rcases e0 with e0|r1
 ·cases h;exact gr 2 [] []
 ·exact oK h
theorem ft{s0 c}{rv:Bool}(h:cb s0 c=some rv):dv prog 312 [.one (lL 7 s0 an.enc),.one (.fn (.func 313) [.ip (an.enc c) 0])] [] (one (.bool rv)) []:=by
 refine aW func312 fun Γ=>?_
 simp only[cb,aB,ar,au,av]at h;obtain⟨r,h0,h⟩:=h;cases h;exact gr 4 [] [cC (mu h0)]
def ow(Γ:bu)(rv:List an)(cf:Cf):Prop:=Go prog f290 [] Γ (one (lL 7 rv an.enc)) [] cf
def Fk(Γ:bu)(rv:List an)(p:bp)(l:List an)(done:Int)(gD:List Bool)(v:Int)(x0:an)(l3:List an)(v1:Int):Prop:=ow Γ rv ⟨[.c 128204,.l 128204,.b 2,.b 1,.c 4007,.l 500,.b 0,.c 63],⟨64,[vI 2 done,vP 3 0 25,vL 7 1 gD cJ,vO 8 1 7 l3 an.enc,vP 10 2 7,vL 29 7 l an.enc,vI 30 (az l),vI 31 v,vL 35 1 gD cJ,vI 36 (az gD),vI 37 v1],[oX 25 371 (bp.enc p),oS 7 375 l3 an.enc,oX 7 375 (an.enc x0)]⟩⟩
def Eu(Γ:bu)(rv:List an)(p:bp)(l:List an)(done:Int)(gD:List Bool)(v:Int)(x0:an)(l4:List an):Prop:=ow Γ rv ⟨[.b 1,.c 4007,.l 500,.b 0,.c 63],⟨64,[vI 2 done,vP 3 0 25,vL 7 1 gD cJ,vO 8 1 7 l4 an.enc,vL 29 7 l an.enc,vI 30 (az l),vI 31 v],[oX 25 371 (bp.enc p),oS 7 375 l4 an.enc]⟩⟩
def Fj(Γ:bu)(rv:List an)(p:bp)(l:List an)(done:Int)(gD:List Bool)(l2:List an)(v:Int):Prop:=ow Γ rv ⟨[.c 500,.l 500,.b 0,.c 63],⟨64,[vI 2 done,vP 3 0 25,vL 7 1 gD cJ,vO 8 1 7 l2 an.enc,vL 29 7 l an.enc,vI 30 (az l),vI 31 v],[oX 25 371 (bp.enc p),oS 7 375 l2 an.enc]⟩⟩
def Es(Γ:bu)(rv:List an)(p:bp)(l:List an)(done:Int)(gD:List Bool)(l5:List an):Prop:=ow Γ rv ⟨[.c 63],⟨64,[vO 8 0 7 l5 an.enc],[oS 7 375 l5 an.enc]⟩⟩
theorem Ew(Γ:bu)(rv:List an){p l done gD v x0}:∀⦃s:List an×Int⦄ ⦃e:List an⦄,aL (fun s=>fv p l done gD v x0 s.1 s.2) s=some e→Eu Γ rv p l done gD v x0 e→Fk Γ rv p l done gD v x0 s.1 s.2:=by
 refine bl ?_
 rintro⟨l3,v1⟩ z_ h hI hE;simp only[fv,aB,ar,au,av]at h;rcases h with⟨h4,x1,h5,r,h6,⟨h7,r1,h8,⟨h9,h⟩|⟨h9,dm,h⟩⟩|⟨h7,h⟩⟩|⟨h4,h⟩
 ·exact gn 18 [2,3,7,8,10,29,30,31,35,36,37] [0,1,2] [bT h4,cE cJ h5,cC (nf h6),rp 3 (bT h7),eL l3 an.enc,cC (ft h8),bT h7,bT h7,nF h9] (hI h)
 ·exact gn 18 [2,3,7,8,10,29,30,31,35,36,37] [0,5,2] [bT h4,cE cJ h5,cC (nf h6),rp 3 (bT h7),eL l3 an.enc,cC (ft h8),bT h7,bT h7,nT h9,oO (Eq.refl ([r.1].map an.enc).length),aO an.enc dm] (hI h)
 ·exact gn 18 [2,3,7,8,10,29,30,31,35,36,37] [0,1,2] [bT h4,cE cJ h5,cC (nf h6),rp 5 (bF h7),fF] (hI h)
 ·exact gn 5 [2,3,7,8,29,30,31] [0,1] [bF h4] (hE h)
theorem Et(Γ:bu)(rv:List an){p l done gD}:∀⦃s:List an×Int⦄ ⦃e:List an⦄,aL (fun s=>fu p l done gD s.1 s.2) s=some e→Es Γ rv p l done gD e→Fj Γ rv p l done gD s.1 s.2:=by
 refine bl ?_
 rintro⟨l2,v⟩ z_ h hI hE;simp only[fu,aB,ar,au,av]at h;rcases h with⟨h2,x0,h3,l4,fH,h⟩|⟨h2,h⟩
 ·refine gn 13 [2,3,7,8,10,29,30,31,35,36,37] [0,1,2] [bT h2,cE an.enc h3,nL cJ gD] (Ew Γ rv fH ?_);exact gn 3 [2,3,7,8,29,30,31] [0,1] [] (hI h)
 ·exact gn 5 [8] [1] [bF h2] (hE h)
theorem wV(Γ:bu)(rv:List an){p l done gD}(h:kn p l done gD=some rv):ow Γ rv ⟨[.c 15],⟨64,[vL 1 7 l an.enc,vI 2 done,vP 3 0 25,vL 7 1 gD cJ],[oX 25 371 (bp.enc p)]⟩⟩:=by
 simp only[kn,aB,ar,au,av]at h;obtain⟨l5,gi,h⟩:=h;refine gn 7 [2,3,7,8,29,30,31] [0,1] [nL an.enc l,hW 3,hH (.kH 8 7 375)] (Et Γ rv gi ?_);obtain rfl:=oK h;exact gr 2 [] [hW 4,hH (.jn 0),rp 3 (eL l5 an.enc)]
theorem Il{p l done}{rv:List an}(h:lv p l done=some rv):dv prog 290 [.agg (bp.enc p),.one (lL 7 l an.enc),.one (lI done)] [] (one (lL 7 rv an.enc)) []:=by
 refine aW func290 fun Γ=>?_
 simp only[lv,aB,ar,au,av]at h;rcases h with⟨h0,l1,h1,h⟩|⟨h0,h⟩
 ·exact gn 9 [1,2,3,7] [0] [nL cJ p.r.aQ,bT h0,hH (.rows (l1.map cJ)),oO (sl1 h1),oO (sl2 h1),oO (sl3 cJ h1),oO (Int.le_refl (aU .i64 done 1)),oO (sl3 cJ h1),oO (sl6 cJ h1)] (wV Γ rv h)
 ·exact gn 9 [1,2,3,7] [0] [nL cJ p.r.aQ,bF h0,hW 1,hH (.jn 1),rp 2 (oO (Eq.refl ([false,true].map cJ).length))] (wV Γ rv h)
def Cb(Γ:bu)(rv:aX×Int)(cf:Cf):Prop:=Go prog f291 [] Γ (.jx [.agg [.bool rv.1.bY,lI rv.1.cF,lL 4 rv.1.jv bg.enc,lI rv.1.oY,lI rv.1.ed],.one (lI rv.2)]) [] cf
def Hf(Γ:bu)(rv:aX×Int)(p:bp)(aQ:List Bool)(r:an)(bY:Int)(x0:an)(v:Int):Prop:=Cb Γ rv ⟨[.c 116,.l 116,.b 0,.c 15],⟨36,[vP 2 0 25,vP 4 1 5,vP 6 2 7,vL 13 1 aQ cJ,vI 14 (az aQ),vI 15 v],[oX 25 371 [lL 1 p.x.bG.aV bO,lL 6 p.x.bG.cH aH.enc,lL 14 p.x.types al.enc,lL 16 p.x.ah ag.enc,lL 2 p.x.bV aA.enc,lL 2 p.x.before aA.enc,.str p.t.name,lI p.t.rH,lI p.t.a8,lI p.t.fN,lL 1 p.t.cap ai,lI p.t.cG,lI p.t.aT,lI p.t.bJ,lI p.t.b9,lI p.t.iJ,lI bY,lI p.t.rK,lI p.t.iY,lI p.t.iZ,lI p.r.aY,lI p.r.aK,lL 1 p.r.aQ cJ,lL 2 p.r.aq ae.enc,lL 4 p.aG a6.enc],oX 5 296 [.bool false,lI 0,.cB,lI 0,lI 0],oX 7 375 (an.enc x0)]⟩⟩
def Fl(Γ:bu)(rv:aX×Int)(p:bp)(aQ:List Bool)(r x2:an):Prop:=Cb Γ rv ⟨[.c 15],⟨36,[vP 4 0 5,vP 6 1 7],[oX 5 296 [.bool false,lI 0,.cB,lI 0,lI 0],oX 7 375 (an.enc x2)]⟩⟩
theorem Fm(Γ:bu)(rv:aX×Int){p aQ r}:∀⦃s:Int×an×Int⦄ ⦃e:(an)⊕(aX×Int)⦄,aL (fun s=>oz p aQ r s.1 s.2.1 s.2.2) s=some e→iD e (fun e=>Fl Γ rv p aQ r e) (fun e=>e=rv)→Hf Γ rv p aQ r s.1 s.2.1 s.2.2:=by
 refine bl ?_
 rintro⟨bY,x0,v⟩ z_ h hI hE;simp only[oz,aB,ar,au,av]at h;rcases h with⟨h1,x1,h2,r1,h3,⟨h4,h⟩|⟨h4,h⟩⟩|⟨h1,h⟩
 ·obtain rfl:=(hE h:_=rv);exact gr 17 [] [bT h1,cE cJ h2,cC (nf h3),bT h4,hW 6,hH (.fj 1 2 4)]
 ·exact gn 20 [2,4,6,13,14,15] [0,1,2] [bT h1,cE cJ h2,cC (nf h3),bF h4] (hI h)
 ·exact gn 5 [4,6] [1,2] [bF h1] (hE h)
theorem JT{p aQ}{rv:aX×Int}(h:pF p aQ=some rv):dv prog 291 [.agg (bp.enc p),.one (lL 1 aQ cJ)] [] (.jx [.agg [.bool rv.1.bY,lI rv.1.cF,lL 4 rv.1.jv bg.enc,lI rv.1.oY,lI rv.1.ed],.one (lI rv.2)]) []:=by
 refine aW func291 fun Γ=>?_
 simp only[pF,aB,ar,au,av]at h;obtain⟨r,h0,e0,h5,h⟩:=h;refine gn 9 [2,4,6,13,14,15] [0,1,2] [cC (yP h0),nL cJ aQ] (Fm Γ rv h5 ?_);rcases e0 with x2|r2
 ·cases h;exact gr 2 [] []
 ·exact oK h
def y5(Γ:bu)(rv:aX×Int)(cf:Cf):Prop:=Go prog f255 [] Γ (.jx [.agg [.bool rv.1.bY,lI rv.1.cF,lL 4 rv.1.jv bg.enc,lI rv.1.oY,lI rv.1.ed],.one (lI rv.2)]) [] cf
def ND(Γ:bu)(rv:aX×Int)(r:ay)(r1:bp×Bool)(l:List an)(v:Int):Prop:=y5 Γ rv ⟨[.c 1012,.l 1012,.b 0,.c 127],⟨82,[vP 3 0 4,vP 4 1 5,vP 6 2 25,vI 8 (aU .i64 (az r.aq) 1),vL 9 7 l an.enc,vI 38 (aU .i64 (az r.aq) 1),vI 39 v],[oX 4 48 (ay.enc r),oX 5 296 [.bool false,lI 0,.cB,lI 0,lI 0],oX 25 371 (bp.enc r1.1)]⟩⟩
def LL(Γ:bu)(rv:aX×Int)(r:ay)(r1:bp×Bool)(l1:List an):Prop:=y5 Γ rv ⟨[.c 127],⟨82,[vP 3 0 4,vP 4 1 5,vP 6 2 25,vI 8 (aU .i64 (az r.aq) 1),vL 9 7 l1 an.enc],[oX 4 48 (ay.enc r),oX 5 296 [.bool false,lI 0,.cB,lI 0,lI 0],oX 25 371 (bp.enc r1.1)]⟩⟩
def NF(Γ:bu)(rv:aX×Int)(l3:List an)(x2:an)(v1:Int):Prop:=y5 Γ rv ⟨[.c 8180,.l 8180,.b 2,.c 1023],⟨82,[vP 4 0 5,vP 12 1 7,vL 65 7 l3 an.enc,vI 66 (az l3),vI 67 v1],[oX 5 296 [.bool false,lI 0,.cB,lI 0,lI 0],oX 7 375 (an.enc x2)]⟩⟩
def LN(Γ:bu)(rv:aX×Int)(l3:List an)(x4:an):Prop:=y5 Γ rv ⟨[.c 1023],⟨82,[vP 4 0 5,vP 12 1 7],[oX 5 296 [.bool false,lI 0,.cB,lI 0,lI 0],oX 7 375 (an.enc x4)]⟩⟩
theorem LM(Γ:bu)(rv:aX×Int){r r1}:∀⦃s:List an×Int⦄ ⦃e:List an⦄,aL (fun s=>jd r r1 s.1 s.2) s=some e→LL Γ rv r r1 e→ND Γ rv r r1 s.1 s.2:=by
 refine bl ?_
 rintro⟨l,v⟩ z_ h hI hE;simp only[jd,aB,ar,au,av]at h;rcases h with⟨h3,r3,h4,h⟩|⟨h3,h⟩
 ·exact gn 13 [3,4,6,8,9,38,39] [0,1,2] [bT h3,cC (Il h4)] (hI h)
 ·exact gn 5 [3,4,6,8,9] [0,1,2] [bF h3] (hE h)
theorem LO(Γ:bu)(rv:aX×Int){l3}:∀⦃s:an×Int⦄ ⦃e:an⦄,aL (fun s=>je l3 s.1 s.2) s=some e→LN Γ rv l3 e→NF Γ rv l3 s.1 s.2:=by
 refine bl ?_
 rintro⟨x2,v1⟩ z_ h hI hE;simp only[je,aB,ar,au,av]at h;rcases h with⟨fH,x3,gi,⟨iG,h⟩|⟨iG,h⟩⟩|⟨fH,h⟩
 ·exact gn 16 [4,12,65,66,67] [0,1] [bT fH,cE an.enc gi,bT iG] (hI h)
 ·exact gn 16 [4,12,65,66,67] [0,1] [bT fH,cE an.enc gi,bF iG] (hI h)
 ·exact gn 5 [4,12] [0,1] [bF fH] (hE h)
theorem HU{x0 r}{rv:aX×Int}(h:xg x0 r=some rv):dv prog 255 [.agg (ab.enc x0),.agg (ay.enc r)] [] (.jx [.agg [.bool rv.1.bY,lI rv.1.cF,lL 4 rv.1.jv bg.enc,lI rv.1.oY,lI rv.1.ed],.one (lI rv.2)]) []:=by
 refine aW func255 fun Γ=>?_
 simp only[xg,aB,ar,au,av]at h;rcases h with⟨r1,h0,⟨h1,h⟩|⟨h1,r2,h2,l1,h5,h⟩⟩
 ·cases h;exact gr 12 [] [cC (HV h0),nL ae.enc r.aq,hP,hP,hP,rp 2 (oI ((!r1.2)=false)),nL cJ r.aQ,hP,hP,hP,rp 2 (oI ((!r1.2)=false)),oR True ((!r1.2)=false),bT h1,hW 5,hH (.fj 2 2 4)]
 ·refine gn 18 [3,4,6,8,9,38,39] [1,2,3] [cC (HV h0),nL ae.enc r.aq,hP,hP,hP,rp 2 (oI ((!r1.2)=false)),nL cJ r.aQ,hP,hP,hP,rp 2 (oI ((!r1.2)=false)),oR True ((!r1.2)=false),bF h1,cC (yP h2),hW 9,hH (.jn 4),rp 2 (oO (Eq.refl ([r2].map an.enc).length))] (LM Γ rv h5 ?_);rcases h with⟨h6,l2,h7,r4,h8,h⟩|⟨h6,x1,h9,l3,dm,x4,nW,h⟩
  ·cases h;exact gr 10 [] [nL an.enc l1,bT h6,hH (.cells [.bool false]),hH (.rows (l2.map cJ)),oO (WZ h7),oO (X9 h7),oO (W0 h7),oO (W4 h7),oO (W5 cJ h7),cY cJ l2 r.aQ,hH (.uG 3 ((He l2 r.aQ).map cJ).length),hW 4,hH (.jn 3),rp 3 (oO (QhX cJ l2 r.aQ)),rp 4 (oO (Eq.refl ((He l2 r.aQ).map cJ).length)),cC (JT h8)]
  ·refine gn 12 [4,12,65,66,67] [1,3] [nL an.enc l1,bF h6,cE an.enc h9,hH (.rows (l3.map an.enc)),oO (sl1 dm),oO (QkA an.enc dm),rp 3 (oO (Int.le_refl ((l1.map an.enc).length:Int))),oO (QkB an.enc dm),nL an.enc l3] (LO Γ rv nW ?_);cases h;exact gr 2 [] []
theorem sQ{kind own}{rv:Bool}(h:tI kind own=some rv):dv prog 292 [.one (lI kind),.one (lI own)] [] (one (.bool rv)) []:=by
 refine aW func292 fun Γ=>?_
 simp only[tI,aB,ar,au,av]at h;cases h;exact gr 4 [] [rp 4 hP,rp 2 (oI ((cr kind (-1))=true)),oR True ((cr kind (-1))=true)]
def BP(Γ:bu)(rv:bH)(cf:Cf):Prop:=Go prog f256 [] Γ (gG [lI rv.uO,lI rv.im,lI rv.fY,lI rv.GL]) [] cf
def CQ(Γ:bu)(rv:bH)(x0:ab)(r:ay)(s0:aX)(x1:al)(l:List (Int×Int))(im fY v:Int):Prop:=BP Γ rv ⟨[.c 4084,.l 4084,.b 0,.c 511],⟨114,[vP 3 0 6,vP 4 1 4,vP 6 2 4,vP 10 3 4,(11,one (.mp 4)),vL 59 2 r.aq ae.enc,vI 60 (az r.aq),vI 61 v],[oX 6 30 (ab.enc x0),oX 4 48 (ay.enc r),oX 4 272 [lI 0,lI 0,lI 0,lI 0],oX 4 272 [lI (aU .i64 (aU .i64 x1.rK (oT .i64 x1.iY s0.ed)) (oT .i64 x1.iZ (dd .i64 s0.oY x1.bJ))),lI im,lI fY,lI (oT .i64 (so .i64 (dd .i64 s0.oY x1.bJ) 64) (so .i64 (dd .i64 s0.oY x1.bJ) 64))],oM 380 l (mE kI lI)]⟩⟩
def Bc(Γ:bu)(rv:bH)(x0:ab)(r:ay)(s0:aX)(x1:al)(Mn Mw:Int):Prop:=BP Γ rv ⟨[.c 511],⟨114,[vP 6 0 4,vP 10 1 4],[oX 4 272 [lI 0,lI 0,lI 0,lI 0],oX 4 272 [lI (aU .i64 (aU .i64 x1.rK (oT .i64 x1.iY s0.ed)) (oT .i64 x1.iZ (dd .i64 s0.oY x1.bJ))),lI Mn,lI Mw,lI (oT .i64 (so .i64 (dd .i64 s0.oY x1.bJ) 64) (so .i64 (dd .i64 s0.oY x1.bJ) 64))]]⟩⟩
theorem Bb(Γ:bu)(rv:bH){x0 r s0 x1 l fY v x2 x3 DO}{x:(List (Int×Int)×Int×Int×Int)⊕(Int×Int)}(h:sj x0 r s0 x1 l fY v x2 x3 DO=some x)(hI:∀⦃s:List (Int×Int)×Int×Int×Int⦄,some (.inl s)=some x→CQ Γ rv x0 r s0 x1 s.1 s.2.1 s.2.2.1 s.2.2.2)(hE:∀⦃e:Int×Int⦄,some (.inr e)=some x→Bc Γ rv x0 r s0 x1 e.1 e.2):BP Γ rv ⟨[.c 2091423,.b 1,.c 32679,.l 4084,.b 0,.c 511],⟨114,[vP 3 0 6,vP 4 1 4,vP 6 2 4,vP 10 3 4,(11,one (.mp 4)),vP 14 5 16,vL 59 2 r.aq ae.enc,vI 60 (az r.aq),vI 61 v],[oX 6 30 (ab.enc x0),oX 4 48 (ay.enc r),oX 4 272 [lI 0,lI 0,lI 0,lI 0],oX 4 272 [lI (aU .i64 (aU .i64 x1.rK (oT .i64 x1.iY s0.ed)) (oT .i64 x1.iZ (dd .i64 s0.oY x1.bJ))),lI DO,lI fY,lI (oT .i64 (so .i64 (dd .i64 s0.oY x1.bJ) 64) (so .i64 (dd .i64 s0.oY x1.bJ) 64))],oM 380 (yD cM l x2.aJ (aU .i64 (nY cM l x2.aJ 0) 1)) (mE kI lI),oX 16 69 (ag.enc x3)]⟩⟩:=by
 simp only[sj,aB,ar,au,av]at h;rcases h with⟨r2,h9,⟨dm,h⟩|⟨dm,h⟩⟩
 ·exact gn 7 [3,4,6,10,11,59,60,61] [0,1,2,3,4] [cC (sQ h9),bT dm] (hI h)
 ·exact gn 7 [3,4,6,10,11,59,60,61] [0,1,2,3,4] [cC (sQ h9),bF dm] (hI h)
theorem KH(Γ:bu)(rv:bH){x0 r s0 x1}:∀⦃s:List (Int×Int)×Int×Int×Int⦄ ⦃e:Int×Int⦄,aL (fun s=>jt x0 r s0 x1 s.1 s.2.1 s.2.2.1 s.2.2.2) s=some e→Bc Γ rv x0 r s0 x1 e.1 e.2→CQ Γ rv x0 r s0 x1 s.1 s.2.1 s.2.2.1 s.2.2.2:=by
 refine bl ?_
 rintro⟨l,im,fY,v⟩ z_ h hI hE;simp only[jt,aB,ar,au,av]at h;rcases h with⟨h2,x2,h3,⟨h4,h⟩|⟨h4,⟨h5,h⟩|⟨h5,x3,h6,r1,h7,⟨h8,h⟩|⟨h8,h⟩⟩⟩⟩|⟨h2,h⟩
 ·exact gn 18 [3,4,6,10,11,59,60,61] [0,1,2,3,4] [bT h2,cE ae.enc h3,mG kqI lI l x2.aJ 0,mU kqI lI l x2.aJ (aU .i64 (nY cM l x2.aJ 0) 1),rp 5 hP,rp 3 (oI ((bh x2.aJ 0)=false)),nL ag.enc x0.ah,hP,hP,rp 2 (oI ((bh x2.aJ 0)=false)),oR True ((bh x2.aJ 0)=false),rp 6 (bT h4),tT] (hI h)
 ·exact gn 18 [3,4,6,10,11,59,60,61] [0,1,2,3,4] [bT h2,cE ae.enc h3,mG kqI lI l x2.aJ 0,mU kqI lI l x2.aJ (aU .i64 (nY cM l x2.aJ 0) 1),rp 5 hP,rp 3 (oI ((bh x2.aJ 0)=false)),nL ag.enc x0.ah,hP,hP,rp 2 (oI ((bh x2.aJ 0)=false)),oR True ((bh x2.aJ 0)=false),rp 4 (bF h4),mG kqI lI (yD cM l x2.aJ (aU .i64 (nY cM l x2.aJ 0) 1)) x2.aJ 0,bF h4,bF h4,bT h5] (hI h)
 ·exact gn 23 [3,4,6,10,11,14,59,60,61] [0,1,2,3,4,6] [bT h2,cE ae.enc h3,mG kqI lI l x2.aJ 0,mU kqI lI l x2.aJ (aU .i64 (nY cM l x2.aJ 0) 1),rp 5 hP,rp 3 (oI ((bh x2.aJ 0)=false)),nL ag.enc x0.ah,hP,hP,rp 2 (oI ((bh x2.aJ 0)=false)),oR True ((bh x2.aJ 0)=false),rp 4 (bF h4),mG kqI lI (yD cM l x2.aJ (aU .i64 (nY cM l x2.aJ 0) 1)) x2.aJ 0,bF h4,bF h4,bF h5,cE ag.enc h6,cC (sQ h7),bT h8] (Bb Γ rv h hI hE)
 ·exact gn 23 [3,4,6,10,11,14,59,60,61] [0,1,2,3,4,6] [bT h2,cE ae.enc h3,mG kqI lI l x2.aJ 0,mU kqI lI l x2.aJ (aU .i64 (nY cM l x2.aJ 0) 1),rp 5 hP,rp 3 (oI ((bh x2.aJ 0)=false)),nL ag.enc x0.ah,hP,hP,rp 2 (oI ((bh x2.aJ 0)=false)),oR True ((bh x2.aJ 0)=false),rp 4 (bF h4),mG kqI lI (yD cM l x2.aJ (aU .i64 (nY cM l x2.aJ 0) 1)) x2.aJ 0,bF h4,bF h4,bF h5,cE ag.enc h6,cC (sQ h7),bF h8] (Bb Γ rv h hI hE)
 ·exact gn 5 [6,10] [2,3] [bF h2] (hE h)
theorem P9{x0 r s0}{rv:bH}(h:yg x0 r s0=some rv):dv prog 256 [.agg (ab.enc x0),.agg (ay.enc r),.agg (aX.enc s0)] [] (gG [lI rv.uO,lI rv.im,lI rv.fY,lI rv.GL]) []:=by
 refine aW func256 fun Γ=>?_
 simp only[yg,aB,ar,au,av]at h;rcases h with⟨h0,h⟩|⟨h0,x1,h1,⟨Mn,Mw⟩,fH,h⟩
 ·cases h;exact gr 8 [] [rp 5 hP,rp 3 (oI ((bh r.aY 0)=false)),nL al.enc x0.types,hP,hP,rp 2 (oI ((bh r.aY 0)=false)),oR True ((bh r.aY 0)=false),bT h0]
 ·refine gn 22 [3,4,6,10,11,59,60,61] [0,1,3,5,6] [rp 5 hP,rp 3 (oI ((bh r.aY 0)=false)),nL al.enc x0.types,hP,hP,rp 2 (oI ((bh r.aY 0)=false)),oR True ((bh r.aY 0)=false),bF h0,cE al.enc h1,oO (oA (n:=64)),nL ae.enc r.aq] (KH Γ rv fH ?_);cases h;exact gr 2 [] []
theorem Be{x0 r}{rv:aX×bH×Int}(h:k8 x0 r=some rv):dv prog 219 [.agg (ab.enc x0),.agg (ay.enc r)] [] (.jx [.agg [.bool rv.1.bY,lI rv.1.cF,lL 4 rv.1.jv bg.enc,lI rv.1.oY,lI rv.1.ed],.agg [lI rv.2.1.uO,lI rv.2.1.im,lI rv.2.1.fY,lI rv.2.1.GL],.one (lI rv.2.2)]) []:=by
 refine aW func219 fun Γ=>?_
 simp only[k8,aB,ar,au,av]at h;rcases h with⟨h0,h⟩|⟨h0,r1,h1,⟨h2,h⟩|⟨h2,r2,h3,⟨h4,h⟩|⟨h4,r3,h5,⟨h6,h⟩|⟨h6,r4,h7,⟨h8,h⟩|⟨h8,r5,h9,h⟩⟩⟩⟩⟩
 ·cases h;exact gr 8 [] [rp 5 hP,rp 3 (oI ((bh r.aY 0)=false)),nL al.enc x0.types,hP,hP,rp 2 (oI ((bh r.aY 0)=false)),oR True ((bh r.aY 0)=false),bT h0,hW 7,hH (.fj 2 2 4)]
 ·cases h;exact gr 28 [] [rp 5 hP,rp 3 (oI ((bh r.aY 0)=false)),nL al.enc x0.types,hP,hP,rp 2 (oI ((bh r.aY 0)=false)),oR True ((bh r.aY 0)=false),bF h0,nL uR [252,253,254],tT,oO (fJ (rfl:bj ([252,253,254]:List Nat) 0=some 252)),oO (fI uR (rfl:bj ([252,253,254]:List Nat) 0=some 252)),rE uR (rfl:bj ([252,253,254]:List Nat) 0=some 252),cC (hG h1),bT h2,hW 8,hH (.fj 2 2 4)]
 ·cases h;exact gr 46 [] [rp 5 hP,rp 3 (oI ((bh r.aY 0)=false)),nL al.enc x0.types,hP,hP,rp 2 (oI ((bh r.aY 0)=false)),oR True ((bh r.aY 0)=false),bF h0,nL uR [252,253,254],tT,oO (fJ (rfl:bj ([252,253,254]:List Nat) 0=some 252)),oO (fI uR (rfl:bj ([252,253,254]:List Nat) 0=some 252)),rE uR (rfl:bj ([252,253,254]:List Nat) 0=some 252),cC (hG h1),bF h2,tT,oO (fJ (rfl:bj ([252,253,254]:List Nat) 1=some 253)),oO (fI uR (rfl:bj ([252,253,254]:List Nat) 1=some 253)),rE uR (rfl:bj ([252,253,254]:List Nat) 1=some 253),cC (xL h3),bT h4,hW 8,hH (.fj 2 2 4)]
 ·cases h;exact gr 64 [] [rp 5 hP,rp 3 (oI ((bh r.aY 0)=false)),nL al.enc x0.types,hP,hP,rp 2 (oI ((bh r.aY 0)=false)),oR True ((bh r.aY 0)=false),bF h0,nL uR [252,253,254],tT,oO (fJ (rfl:bj ([252,253,254]:List Nat) 0=some 252)),oO (fI uR (rfl:bj ([252,253,254]:List Nat) 0=some 252)),rE uR (rfl:bj ([252,253,254]:List Nat) 0=some 252),cC (hG h1),bF h2,tT,oO (fJ (rfl:bj ([252,253,254]:List Nat) 1=some 253)),oO (fI uR (rfl:bj ([252,253,254]:List Nat) 1=some 253)),rE uR (rfl:bj ([252,253,254]:List Nat) 1=some 253),cC (xL h3),bF h4,tT,oO (fJ (rfl:bj ([252,253,254]:List Nat) 2=some 254)),oO (fI uR (rfl:bj ([252,253,254]:List Nat) 2=some 254)),rE uR (rfl:bj ([252,253,254]:List Nat) 2=some 254),cC (Bu h5),bT h6,hW 8,hH (.fj 2 2 4)]
 ·cases h;exact gr 79 [] [rp 5 hP,rp 3 (oI ((bh r.aY 0)=false)),nL al.enc x0.types,hP,hP,rp 2 (oI ((bh r.aY 0)=false)),oR True ((bh r.aY 0)=false),bF h0,nL uR [252,253,254],tT,oO (fJ (rfl:bj ([252,253,254]:List Nat) 0=some 252)),oO (fI uR (rfl:bj ([252,253,254]:List Nat) 0=some 252)),rE uR (rfl:bj ([252,253,254]:List Nat) 0=some 252),cC (hG h1),bF h2,tT,oO (fJ (rfl:bj ([252,253,254]:List Nat) 1=some 253)),oO (fI uR (rfl:bj ([252,253,254]:List Nat) 1=some 253)),rE uR (rfl:bj ([252,253,254]:List Nat) 1=some 253),cC (xL h3),bF h4,tT,oO (fJ (rfl:bj ([252,253,254]:List Nat) 2=some 254)),oO (fI uR (rfl:bj ([252,253,254]:List Nat) 2=some 254)),rE uR (rfl:bj ([252,253,254]:List Nat) 2=some 254),cC (Bu h5),bF h6,fF,cC (HU h7),bT h8,hW 8,hH (.fj 2 2 4)]
 ·cases h;exact gr 80 [] [rp 5 hP,rp 3 (oI ((bh r.aY 0)=false)),nL al.enc x0.types,hP,hP,rp 2 (oI ((bh r.aY 0)=false)),oR True ((bh r.aY 0)=false),bF h0,nL uR [252,253,254],tT,oO (fJ (rfl:bj ([252,253,254]:List Nat) 0=some 252)),oO (fI uR (rfl:bj ([252,253,254]:List Nat) 0=some 252)),rE uR (rfl:bj ([252,253,254]:List Nat) 0=some 252),cC (hG h1),bF h2,tT,oO (fJ (rfl:bj ([252,253,254]:List Nat) 1=some 253)),oO (fI uR (rfl:bj ([252,253,254]:List Nat) 1=some 253)),rE uR (rfl:bj ([252,253,254]:List Nat) 1=some 253),cC (xL h3),bF h4,tT,oO (fJ (rfl:bj ([252,253,254]:List Nat) 2=some 254)),oO (fI uR (rfl:bj ([252,253,254]:List Nat) 2=some 254)),rE uR (rfl:bj ([252,253,254]:List Nat) 2=some 254),cC (Bu h5),bF h6,fF,cC (HU h7),bF h8,hH (.draw 5 []),cC (P9 h9)]
theorem F8{x0 r}{rv:Int×Int}(h:mM x0 r=some rv):dv prog 166 [.agg (ab.enc x0),.agg (ay.enc r)] [] (.jx [.one (lI rv.1),.one (lI rv.2)]) []:=by
 refine aW func166 fun Γ=>?_
 simp only[mM,aB,ar,au,av]at h;rcases h with⟨r1,h0,⟨h1,h⟩|⟨h1,r2,h2,h⟩⟩
 ·cases h;exact gr 10 [] [cC (Be h0),bT h1]
 ·cases h;exact gr 11 [] [cC (Be h0),bF h1,cC (iz h2)]
def HT(Γ:bu)(rv:Int)(cf:Cf):Prop:=Go prog f122 [] Γ (one (lI rv)) [] cf
def LF(Γ:bu)(rv:Int)(gX:List Int)(v:Int):Prop:=HT Γ rv ⟨[.c 116,.l 116,.b 0,.c 15],⟨18,[vI 3 0,vL 6 1 gX ai,vI 7 (az gX),vI 8 v],[]⟩⟩
def JN(Γ:bu)(rv:Int)(gX:List Int):Prop:=HT Γ rv ⟨[.c 15],⟨18,[vI 3 0],[]⟩⟩
theorem JO(Γ:bu)(rv:Int){gX}:∀⦃s:Int⦄ ⦃e:(Unit)⊕(Int)⦄,aL (fun s=>fh gX s) s=some e→iD e (fun e=>JN Γ rv gX) (fun e=>e=rv)→LF Γ rv gX s:=by
 refine bl ?_
 intro v z_ h hI hE;simp only[fh,aB,ar,au,av]at h;rcases h with⟨h0,x0,h1,⟨h2,h⟩|⟨h2,h⟩⟩|⟨h0,h⟩
 ·obtain rfl:=(hE h:_=rv);exact gr 14 [] [bT h0,cE ai h1,bT h2]
 ·exact gn 16 [3,6,7,8] [] [bT h0,cE ai h1,bF h2] (hI h)
 ·exact gn 5 [3] [] [bF h0] (hE h)
theorem Pb{gX}{rv:Int}(h:ot gX=some rv):dv prog 122 [.one (lL 1 gX ai)] [] (one (lI rv)) []:=by
 refine aW func122 fun Γ=>?_
 simp only[ot,aB,ar,au,av]at h;obtain⟨e0,h3,h⟩:=h;refine gn 9 [3,6,7,8] [] [nL ai gX] (JO Γ rv h3 ?_);rcases e0 with e0|r
 ·obtain rfl:=oK h;exact gr 2 [] []
 ·exact oK h
theorem xd{v}{rv:Int}(h:kE v=some rv):dv prog 293 [.agg (ae.enc v)] [] (one (lI rv)) []:=by
 refine aW func293 fun Γ=>?_
 simp only[kE,aB,ar,au,av]at h;rcases h with⟨h0,h⟩|⟨h0,h⟩
 ·obtain rfl:=oK h;exact gr 8 [] [bT h0]
 ·obtain rfl:=oK h;exact gr 9 [] [bF h0]
theorem y0{a b}{rv:Int}(h:p8 a b=some rv):dv prog 258 [.agg (ae.enc a),.agg (ae.enc b)] [] (one (lI rv)) []:=by
 refine aW func258 fun Γ=>?_
 simp only[p8,aB,ar,au,av]at h;obtain⟨r,h0,r1,h1,r2,h2,r3,h3,r4,h4,h⟩:=h;obtain rfl:=oK h;exact gr 6 [] [hH (.draw 15 []),cC (pk h0),cC (xd h1),cC (xd h2),cC (pk h3),oO (Eq.refl ([r,r3].map ai).length),cC (Pb h4)]
def dQ(Γ:bu)(rv:Int)(cf:Cf):Prop:=Go prog f257 [] Γ (one (lI rv)) [] cf
def gg(Γ:bu)(rv:Int)(s1 s2:List ae)(v:Int):Prop:=dQ Γ rv ⟨[.c 52,.l 52,.b 0,.c 7],⟨39,[vL 0 2 s1 ae.enc,vL 1 2 s2 ae.enc,(2,one (.fn (.func 258) [])),vL 11 2 s1 ae.enc,vI 12 (az s1),vI 13 v],[]⟩⟩
def ga(Γ:bu)(rv:Int)(s1 s2:List ae):Prop:=dQ Γ rv ⟨[.c 7],⟨39,[vL 0 2 s1 ae.enc,vL 1 2 s2 ae.enc],[]⟩⟩
theorem gb(Γ:bu)(rv:Int){s1 s2}:∀⦃s:Int⦄ ⦃e:(Unit)⊕(Int)⦄,aL (fun s=>bn s1 s2 s) s=some e→iD e (fun e=>ga Γ rv s1 s2) (fun e=>e=rv)→gg Γ rv s1 s2 s:=by
 refine bl ?_
 intro v z_ h hI hE;simp only[bn,aB,ar,au,av]at h;rcases h with⟨h0,x0,h1,⟨h2,h⟩|⟨h2,x1,h3,r,h4,⟨h5,h⟩|⟨h5,h⟩⟩⟩|⟨h0,h⟩
 ·obtain rfl:=(hE h:_=rv);exact gr 15 [] [bT h0,cE ae.enc h1,nL ae.enc s2,bT h2]
 ·obtain rfl:=(hE h:_=rv);exact gr 23 [] [bT h0,cE ae.enc h1,nL ae.enc s2,bF h2,cE ae.enc h3,cC (y0 h4),bT h5]
 ·exact gn 25 [0,1,2,11,12,13] [] [bT h0,cE ae.enc h1,nL ae.enc s2,bF h2,cE ae.enc h3,cC (y0 h4),bF h5] (hI h)
 ·exact gn 5 [0,1] [] [bF h0] (hE h)
theorem gv{s1 s2}{rv:Int}(h:ck s1 s2=some rv):dv prog 257 [.one (lL 2 s1 ae.enc),.one (lL 2 s2 ae.enc),.one (.fn (.func 258) [])] [] (one (lI rv)) []:=by
 refine aW func257 fun Γ=>?_
 simp only[ck,aB,ar,au,av]at h;obtain⟨e0,h6,h⟩:=h;refine gn 7 [0,1,2,11,12,13] [] [nL ae.enc s1] (gb Γ rv h6 ?_);rcases e0 with e0|r1
 ·simp only[dw,aB,ar,au,av]at h;rcases h with⟨h7,h⟩|⟨h7,h⟩
  ·cases h;exact gr 6 [] [nL ae.enc s1,nL ae.enc s2,bT h7]
  ·obtain rfl:=oK h;exact gr 7 [] [nL ae.enc s1,nL ae.enc s2,bF h7]
 ·exact oK h
theorem MK{a b}{rv:Bool}(h:tK a b=some rv):dv prog 220 [.one (lL 2 a ae.enc),.one (lL 2 b ae.enc)] [] (one (.bool rv)) []:=by
 refine aW func220 fun Γ=>?_
 simp only[tK,aB,ar,au,av]at h;obtain⟨r,h0,h⟩:=h;cases h;exact gr 4 [] [cC (gv h0)]
theorem Fb{a b}{rv:Bool}(h:uo a b=some rv):dv prog 168 [.agg (af.enc a),.agg (af.enc b)] [] (one (.bool rv)) []:=by
 refine aW func168 fun Γ=>?_
 simp only[uo,aB,ar,au,av]at h;rcases h with⟨h0,h⟩|⟨h0,r,h1,h⟩
 ·cases h;exact gr 8 [] [bT h0]
 ·obtain rfl:=oK h;exact gr 9 [] [bF h0,cC (MK h1)]
def mW(Γ:bu)(rv:Bool)(cf:Cf):Prop:=Go prog f221 [] Γ (one (.bool rv)) [] cf
def HJ(Γ:bu)(rv:Bool)(x0:ab)(l:List ae)(v:ae)(r1:List ae)(v1:Int):Prop:=mW Γ rv ⟨[.c 116,.l 116,.b 0,.c 15],⟨63,[vL 1 2 l ae.enc,vP 3 0 6,vP 5 1 2,vL 21 2 r1 ae.enc,vI 22 (az r1),vI 23 v1],[oX 6 30 (ab.enc x0),oX 2 102 (ae.enc v)]⟩⟩
def Gj(Γ:bu)(rv:Bool)(x0:ab)(l:List ae)(v:ae)(r1:List ae):Prop:=mW Γ rv ⟨[.c 15],⟨63,[vL 1 2 l ae.enc,vP 3 0 6,vP 5 1 2],[oX 6 30 (ab.enc x0),oX 2 102 (ae.enc v)]⟩⟩
def HL(Γ:bu)(rv:Bool)(x0:ab)(l:List ae)(v:ae)(v2:Int)(r3:List ae)(v3:Int):Prop:=mW Γ rv ⟨[.c 125340,.l 125340,.b 4,.b 3,.c 1959,.l 244,.b 2,.c 31],⟨63,[vL 1 2 l ae.enc,vP 3 0 6,vP 5 1 2,vL 36 2 x0.before aA.enc,vI 37 (az x0.before),vI 38 v2,vL 51 2 r3 ae.enc,vI 52 (az r3),vI 53 v3],[oX 6 30 (ab.enc x0),oX 2 102 (ae.enc v)]⟩⟩
def Gn(Γ:bu)(rv:Bool)(x0:ab)(l:List ae)(v:ae)(v2:Int)(r3:List ae):Prop:=mW Γ rv ⟨[.b 3,.c 1959,.l 244,.b 2,.c 31],⟨63,[vL 1 2 l ae.enc,vP 3 0 6,vP 5 1 2,vL 36 2 x0.before aA.enc,vI 37 (az x0.before),vI 38 v2],[oX 6 30 (ab.enc x0),oX 2 102 (ae.enc v)]⟩⟩
def HK(Γ:bu)(rv:Bool)(x0:ab)(l:List ae)(v:ae)(v2:Int):Prop:=mW Γ rv ⟨[.c 244,.l 244,.b 2,.c 31],⟨63,[vL 1 2 l ae.enc,vP 3 0 6,vP 5 1 2,vL 36 2 x0.before aA.enc,vI 37 (az x0.before),vI 38 v2],[oX 6 30 (ab.enc x0),oX 2 102 (ae.enc v)]⟩⟩
def Gl(Γ:bu)(rv:Bool)(x0:ab)(l:List ae)(v:ae):Prop:=mW Γ rv ⟨[.c 31],⟨63,[],[]⟩⟩
theorem Gk(Γ:bu)(rv:Bool){x0 l v r1}:∀⦃s:Int⦄ ⦃e:(Unit)⊕(Bool)⦄,aL (fun s=>f_ x0 l v r1 s) s=some e→iD e (fun e=>Gj Γ rv x0 l v r1) (fun e=>e=rv)→HJ Γ rv x0 l v r1 s:=by
 refine bl ?_
 intro v1 z_ h hI hE;simp only[f_,aB,ar,au,av]at h;rcases h with⟨h3,x1,h4,⟨h5,h⟩|⟨h5,r2,h6,⟨h7,h⟩|⟨h7,h⟩⟩⟩|⟨h3,h⟩
 ·exact gn 14 [1,3,5] [0,1] [bT h3,cE ae.enc h4,bT h5] (hE h)
 ·obtain rfl:=(hE h:_=rv);exact gr 19 [] [bT h3,cE ae.enc h4,bF h5,cC (fm h6),bT h7]
 ·exact gn 21 [1,3,5,21,22,23] [0,1] [bT h3,cE ae.enc h4,bF h5,cC (fm h6),bF h7] (hI h)
 ·exact gn 5 [1,3,5] [0,1] [bF h3] (hE h)
theorem Gp(Γ:bu)(rv:Bool){x0 l v v2 r3}:∀⦃s:Int⦄ ⦃e:(Unit)⊕(Bool)⦄,aL (fun s=>hZ x0 l v v2 r3 s) s=some e→iD e (fun e=>Gn Γ rv x0 l v v2 r3) (fun e=>e=rv)→HL Γ rv x0 l v v2 r3 s:=by
 refine bl ?_
 intro v3 z_ h hI hE;simp only[hZ,aB,ar,au,av]at h;rcases h with⟨iG,x3,nW,r4,qx,⟨sH,h⟩|⟨sH,h⟩⟩|⟨iG,h⟩
 ·obtain rfl:=(hE h:_=rv);exact gr 14 [] [bT iG,cE ae.enc nW,cC (fm qx),bT sH]
 ·exact gn 16 [1,3,5,36,37,38,51,52,53] [0,1] [bT iG,cE ae.enc nW,cC (fm qx),bF sH] (hI h)
 ·exact gn 5 [1,3,5,36,37,38] [0,1] [bF iG] (hE h)
theorem Gm(Γ:bu)(rv:Bool){x0 l v}:∀⦃s:Int⦄ ⦃e:(Unit)⊕(Bool)⦄,aL (fun s=>hY x0 l v s) s=some e→iD e (fun e=>Gl Γ rv x0 l v) (fun e=>e=rv)→HK Γ rv x0 l v s:=by
 refine bl ?_
 intro v2 z_ h hI hE;simp only[hY,aB,ar,au,av]at h;rcases h with⟨h9,x2,dm,⟨fH,h⟩|⟨fH,r3,gi,e1,uu,h⟩⟩|⟨h9,h⟩
 ·exact gn 16 [1,3,5,36,37,38] [0,1] [bT h9,cE aA.enc dm,oO (zL 1),oO (lT 1 2),bT fH] (hI h)
 ·refine gn 18 [1,3,5,36,37,38,51,52,53] [0,1] [bT h9,cE aA.enc dm,oO (zL 1),oO (lT 1 2),bF fH,oO (zL 0),oO (lT 0 2),cC (oe gi),nL ae.enc r3] (Gp Γ rv uu ?_);rcases e1 with e1|r5
  ·exact gn 3 [1,3,5,36,37,38] [0,1] [] (hI h)
  ·exact(hE h:_=rv)
 ·exact gn 5 [] [] [bF h9] (hE h)
theorem Bj{x0 l v}{rv:Bool}(h:ss x0 l v=some rv):dv prog 221 [.agg (ab.enc x0),.one (lL 2 l ae.enc),.agg (ae.enc v)] [] (one (.bool rv)) []:=by
 refine aW func221 fun Γ=>?_
 simp only[ss,aB,ar,au,av]at h;rcases h with⟨r,h0,⟨h1,h⟩|⟨h1,r1,h2,e0,h8,h⟩⟩
 ·obtain rfl:=oK h;exact gr 8 [] [cC (fm h0),bT h1]
 ·refine gn 12 [1,3,5,21,22,23] [0,1] [cC (fm h0),bF h1,cC (oe h2),nL ae.enc r1] (Gk Γ rv h8 ?_);rcases e0 with e0|r7
  ·simp only[dw,aB,ar,au,av]at h;obtain⟨e2,E4,h⟩:=h;refine gn 5 [1,3,5,36,37,38] [0,1] [nL aA.enc x0.before] (Gm Γ rv E4 ?_);rcases e2 with e2|r6
   ·obtain rfl:=oK h;exact gr 2 [] []
   ·exact oK h
  ·exact oK h
def tR(Γ:bu)(rv:List ae)(cf:Cf):Prop:=Go prog f169 [] Γ (one (lL 2 rv ae.enc)) [] cf
def I6(Γ:bu)(rv:List ae)(x0:ab)(bz:Int)(l:List ae)(v:Int)(r l2:List ae)(v1:Int):Prop:=tR Γ rv ⟨[.c 59804,.l 59804,.b 2,.b 1,.c 935,.l 116,.b 0,.c 15],⟨53,[vI 1 bz,vL 2 2 l ae.enc,vP 3 0 6,vO 7 1 2 l2 ae.enc,vL 13 16 x0.ah ag.enc,vI 14 (az x0.ah),vI 15 v,vL 36 2 r ae.enc,vI 37 (az r),vI 38 v1],[oX 6 30 (ab.enc x0),oS 2 102 l2 ae.enc]⟩⟩
def HH(Γ:bu)(rv:List ae)(x0:ab)(bz:Int)(l:List ae)(v:Int)(r l3:List ae):Prop:=tR Γ rv ⟨[.b 1,.c 935,.l 116,.b 0,.c 15],⟨53,[vI 1 bz,vL 2 2 l ae.enc,vP 3 0 6,vO 7 1 2 l3 ae.enc,vL 13 16 x0.ah ag.enc,vI 14 (az x0.ah),vI 15 v],[oX 6 30 (ab.enc x0),oS 2 102 l3 ae.enc]⟩⟩
def I5(Γ:bu)(rv:List ae)(x0:ab)(bz:Int)(l l1:List ae)(v:Int):Prop:=tR Γ rv ⟨[.c 116,.l 116,.b 0,.c 15],⟨53,[vI 1 bz,vL 2 2 l ae.enc,vP 3 0 6,vO 7 1 2 l1 ae.enc,vL 13 16 x0.ah ag.enc,vI 14 (az x0.ah),vI 15 v],[oX 6 30 (ab.enc x0),oS 2 102 l1 ae.enc]⟩⟩
def HF(Γ:bu)(rv:List ae)(x0:ab)(bz:Int)(l l4:List ae):Prop:=tR Γ rv ⟨[.c 15],⟨53,[vO 7 0 2 l4 ae.enc],[oS 2 102 l4 ae.enc]⟩⟩
theorem HI(Γ:bu)(rv:List ae){x0 bz l v r}:∀⦃s:List ae×Int⦄ ⦃e:List ae⦄,aL (fun s=>iT x0 bz l v r s.1 s.2) s=some e→HH Γ rv x0 bz l v r e→I6 Γ rv x0 bz l v r s.1 s.2:=by
 refine bl ?_
 rintro⟨l2,v1⟩ z_ h hI hE;simp only[iT,aB,ar,au,av]at h;rcases h with⟨h6,x2,h7,r1,h8,⟨h9,dm,h⟩|⟨h9,h⟩⟩|⟨h6,h⟩
 ·exact gn 16 [1,2,3,7,13,14,15,36,37,38] [0,4] [bT h6,cE ae.enc h7,cC (Bj h8),bT h9,oO (Eq.refl ([x2].map ae.enc).length),aO ae.enc dm] (hI h)
 ·exact gn 16 [1,2,3,7,13,14,15,36,37,38] [0,1] [bT h6,cE ae.enc h7,cC (Bj h8),bF h9] (hI h)
 ·exact gn 5 [1,2,3,7,13,14,15] [0,1] [bF h6] (hE h)
theorem HG(Γ:bu)(rv:List ae){x0 bz l}:∀⦃s:List ae×Int⦄ ⦃e:List ae⦄,aL (fun s=>gN x0 bz l s.1 s.2) s=some e→HF Γ rv x0 bz l e→I5 Γ rv x0 bz l s.1 s.2:=by
 refine bl ?_
 rintro⟨l1,v⟩ z_ h hI hE;simp only[gN,aB,ar,au,av]at h;rcases h with⟨h0,x1,h1,⟨h2,h⟩|⟨h2,h3,⟨h4,h⟩|⟨h4,r,h5,l3,fH,h⟩⟩⟩|⟨h0,h⟩
 ·exact gn 16 [1,2,3,7,13,14,15] [0,1] [bT h0,cE ag.enc h1,rp 6 (bT h2),rp 4 tT] (hI h)
 ·exact gn 16 [1,2,3,7,13,14,15] [0,1] [bT h0,cE ag.enc h1,rp 3 (bF h2),oO (h3),rp 3 (bF h2),hP,hP,hP,oI ((cM (JD .i64 (zd .i64 bz v) 1) 0)=false),oR True ((cM (JD .i64 (zd .i64 bz v) 1) 0)=false),bT h4] (hI h)
 ·refine gn 18 [1,2,3,7,13,14,15,36,37,38] [0,1] [bT h0,cE ag.enc h1,rp 3 (bF h2),oO (h3),rp 3 (bF h2),hP,hP,hP,oI ((cM (JD .i64 (zd .i64 bz v) 1) 0)=false),oR True ((cM (JD .i64 (zd .i64 bz v) 1) 0)=false),bF h4,cC (oe h5),nL ae.enc r] (HI Γ rv fH ?_);exact gn 3 [1,2,3,7,13,14,15] [0,1] [] (hI h)
 ·exact gn 5 [7] [1] [bF h0] (hE h)
theorem ML{x0 bz l}{rv:List ae}(h:tL x0 bz l=some rv):dv prog 169 [.agg (ab.enc x0),.one (lI bz),.one (lL 2 l ae.enc)] [] (one (lL 2 rv ae.enc)) []:=by
 refine aW func169 fun Γ=>?_
 simp only[tL,aB,ar,au,av]at h;obtain⟨l4,gi,h⟩:=h;refine gn 9 [1,2,3,7,13,14,15] [0,1] [nL ag.enc x0.ah,hW 3,hH (.kH 7 2 102)] (HG Γ rv gi ?_);obtain rfl:=oK h;exact gr 2 [] [hW 4,hH (.jn 0),rp 3 (eL l4 ae.enc)]
def kN(Γ:bu)(rv:Int)(cf:Cf):Prop:=Go prog f260 [] Γ (one (lI rv)) [] cf
def qI(Γ:bu)(rv:Int)(s0:List aC)(v:aC)(v1:Int):Prop:=kN Γ rv ⟨[.c 52,.l 52,.b 0,.c 7],⟨19,[vL 0 2 s0 aC.enc,vP 3 0 2,vI 7 (az s0),vI 8 v1],[oX 2 257 (aC.enc v)]⟩⟩
def qj(Γ:bu)(rv:Int)(s0:List aC)(v:aC):Prop:=kN Γ rv ⟨[.c 7],⟨19,[],[]⟩⟩
theorem qk(Γ:bu)(rv:Int){s0 v}:∀⦃s:Int⦄ ⦃e:(Unit)⊕(Int)⦄,aL (fun s=>cp s0 v s) s=some e→iD e (fun e=>qj Γ rv s0 v) (fun e=>e=rv)→qI Γ rv s0 v s:=by
 refine bl ?_
 intro v1 z_ h hI hE;simp only[cp,aB,ar,au,av]at h;rcases h with⟨h0,x0,h1,⟨h2,h⟩|⟨h2,h⟩⟩|⟨h0,h⟩
 ·obtain rfl:=(hE h:_=rv);exact gr 14 [] [bT h0,hH (.draw 6 []),cE aC.enc h1,bT h2]
 ·exact gn 16 [0,3,7,8] [0] [bT h0,hH (.draw 6 []),cE aC.enc h1,bF h2] (hI h)
 ·exact gn 5 [] [] [bF h0] (hE h)
theorem rD{s0 v}{rv:Int}(h:dZ s0 v=some rv):dv prog 260 [.one (lL 2 s0 aC.enc),.agg (aC.enc v)] [] (one (lI rv)) []:=by
 refine aW func260 fun Γ=>?_
 simp only[dZ,aB,ar,au,av]at h;obtain⟨e0,h3,h⟩:=h;refine gn 7 [0,3,7,8] [0] [nL aC.enc s0] (qk Γ rv h3 ?_);rcases e0 with e0|r
 ·cases h;exact gr 2 [] []
 ·exact oK h
theorem jb{s0 v}{rv:Bool}(h:eI s0 v=some rv):dv prog 222 [.one (lL 2 s0 aC.enc),.agg (aC.enc v)] [] (one (.bool rv)) []:=by
 refine aW func222 fun Γ=>?_
 simp only[eI,aB,ar,au,av]at h;obtain⟨r,h0,h⟩:=h;cases h;exact gr 4 [] [cC (rD h0)]
theorem sE{l s0}{rv:List aC}(h:mI l s0=some rv):dv prog 172 [.one (lO 0 2 l aC.enc),.agg (aC.enc s0)] [bS 2 257 l aC.enc] (one (lO 0 2 rv aC.enc)) [oS 2 257 rv aC.enc]:=by
 refine aW func172 fun Γ=>?_
 simp only[mI,aB,ar,au,av]at h;rcases h with⟨r,h0,⟨h1,h⟩|⟨h1,h2,h⟩⟩
 ·obtain rfl:=oK h;exact gr 8 [0] [eL l aC.enc,cC (jb h0),bT h1]
 ·cases h;exact gr 9 [3] [eL l aC.enc,cC (jb h0),bF h1,oO (Eq.refl ([s0].map aC.enc).length),aO aC.enc h2]
theorem C8{s0 gC}{rv:Int×Int}(h:tN s0 gC=some rv):dv prog 160 [.agg (a6.enc s0),.one (lI gC)] [] (.jx [.one (lI rv.1),.one (lI rv.2)]) []:=by
 refine aW func160 fun Γ=>?_
 simp only[tN,aB,ar,au,av]at h;rcases h with⟨r,h0,⟨h1,h⟩|⟨h1,h⟩⟩
 ·cases h;exact gr 10 [] [cC (tU h0),bT h1]
 ·cases h;exact gr 11 [] [cC (tU h0),bF h1]
theorem sU{s0}{rv:List ae}(h:eF s0=some rv):dv prog 171 [.one (lL 2 s0 ae.enc)] [] (one (.sl true 2 (rv.map ae.enc))) []:=by
 refine aW func171 fun Γ=>?_
 simp only[eF,aB,ar,au,av]at h;obtain⟨l,h0,h⟩:=h;obtain rfl:=oK h;exact gr 4 [] [rp 2 (nL ae.enc s0),hH (.rows (l.map ae.enc)),oO (Eq.refl (az s0)),oO (sl1 h0),oO (sl2 h0),oO (sl3 ae.enc h0),oO (Int.le_refl (az s0)),oO (sl3 ae.enc h0),oO (sl6 ae.enc h0)]
theorem uM{eZ some_ Sl}{rv:af}(h:gY eZ some_ Sl=some rv):dv prog 167 [.agg (af.enc eZ),.one (.bool some_),.agg (af.enc Sl),.one (.fn (.func 168) [])] [] (gG [lI rv.aY,lI rv.bz,lI rv.kM,lI rv.db.aY,lI rv.db.aK,lL 1 rv.db.aQ cJ,lL 2 rv.db.aq ae.enc]) []:=by
 refine aW func167 fun Γ=>?_
 simp only[gY,aB,ar,au,av]at h;rcases h with⟨h0,r,h1,⟨h2,h⟩|⟨h2,h⟩⟩|⟨h0,h⟩
 ·obtain rfl:=oK h;exact gr 8 [] [rp 4 (nF h0),cC (Fb h1),nF h0,bT h2]
 ·obtain rfl:=oK h;exact gr 9 [] [rp 4 (nF h0),cC (Fb h1),nF h0,bF h2]
 ·obtain rfl:=oK h;exact gr 8 [] [rp 5 (nT h0),tT]
theorem Bt{s0 l cF fS}{rv:List aC×aS}(h:j_ s0 l cF fS=some rv):dv prog 100 [.one (.op 0 17 0 0),.one (lO 1 2 l aC.enc),.one (lI cF),.one (lI fS)] [bX 17 174 (aS.enc s0),bS 2 257 l aC.enc] (one (lO 1 2 rv.1 aC.enc)) [oX 17 174 [lL 1 rv.2.x.bG.aV bO,lL 6 rv.2.x.bG.cH aH.enc,lL 14 rv.2.x.types al.enc,lL 16 rv.2.x.ah ag.enc,lL 2 rv.2.x.bV aA.enc,lL 2 rv.2.x.before aA.enc,lI rv.2.kind,lI rv.2.bz,lI rv.2.kj,lI rv.2.eZ.aY,lI rv.2.eZ.bz,lI rv.2.eZ.kM,lI rv.2.eZ.db.aY,lI rv.2.eZ.db.aK,lL 1 rv.2.eZ.db.aQ cJ,lL 2 rv.2.eZ.db.aq ae.enc,.bool rv.2.mJ],oS 2 257 rv.1 aC.enc]:=by
 refine aW func100 fun Γ=>?_
 simp only[j_,aB,ar,au,av]at h;obtain⟨r,h0,x0,h1,r1,h2,h⟩:=h;cases h;exact gr 6 [0,3] [cI [1] (sE h0),hH (.draw 18 [(2,16)]),cE al.enc h1,cI [2] (sE h2)]
def yN(Γ:bu)(rv:List aC×aS)(cf:Cf):Prop:=Go prog f170 [0] Γ (one (lL 2 rv.1 aC.enc)) [oX 17 174 [lL 1 rv.2.x.bG.aV bO,lL 6 rv.2.x.bG.cH aH.enc,lL 14 rv.2.x.types al.enc,lL 16 rv.2.x.ah ag.enc,lL 2 rv.2.x.bV aA.enc,lL 2 rv.2.x.before aA.enc,lI rv.2.kind,lI rv.2.bz,lI rv.2.kj,lI rv.2.eZ.aY,lI rv.2.eZ.bz,lI rv.2.eZ.kM,lI rv.2.eZ.db.aY,lI rv.2.eZ.db.aK,lL 1 rv.2.eZ.db.aQ cJ,lL 2 rv.2.eZ.db.aq ae.enc,.bool rv.2.mJ]] cf
def Dc(Γ:bu)(rv:List aC×aS)(a8:Int)(l:List aC)(stop:a6)(x0:al)(l1:List aC)(x1:aS)(v:Int):Prop:=yN Γ rv ⟨[.c 244,.l 244,.b 0,.c 31],⟨86,[vP 0 0 17,vI 1 a8,vP 7 1 4,vP 9 2 14,vO 10 3 2 l1 aC.enc,vL 28 2 l aC.enc,vI 29 (az l),vI 30 v],[oX 17 174 (aS.enc x1),oX 4 67 (a6.enc stop),oX 14 92 (al.enc x0),oS 2 257 l1 aC.enc]⟩⟩
def B7(Γ:bu)(rv:List aC×aS)(a8:Int)(l:List aC)(stop:a6)(x0:al)(l2:List aC)(x3:aS):Prop:=yN Γ rv ⟨[.c 31],⟨86,[vO 10 1 2 l2 aC.enc],[oX 17 174 (aS.enc x3),oS 2 257 l2 aC.enc]⟩⟩
theorem B8(Γ:bu)(rv:List aC×aS){a8 l stop x0}:∀⦃s:List aC×aS×Int⦄ ⦃e:List aC×aS⦄,aL (fun s=>kR a8 l stop x0 s.1 s.2.1 s.2.2) s=some e→B7 Γ rv a8 l stop x0 e.1 e.2→Dc Γ rv a8 l stop x0 s.1 s.2.1 s.2.2:=by
 refine bl ?_
 rintro⟨l1,x1,v⟩ z_ h hI hE;simp only[kR,aB,ar,au,av]at h;rcases h with⟨h1,x2,h2,r,h3,⟨h4,h⟩|⟨h4,r1,h5,⟨h6,h⟩|⟨h6,r2,h7,h⟩⟩⟩|⟨h1,h⟩
 ·exact gn 18 [0,1,7,9,10,28,29,30] [0,1,2,3] [bT h1,cE aC.enc h2,hH (.draw 20 []),cC (mL h3),rp 11 hP,rp 9 (oI ((cr r.2.2 0)=false)),oR True ((cr r.2.2 0)=false),bT h4] (hI h)
 ·exact gn 25 [0,1,7,9,10,28,29,30] [0,1,2,3] [bT h1,cE aC.enc h2,hH (.draw 20 []),cC (mL h3),rp 11 hP,rp 9 (oI ((cr r.2.2 0)=false)),oR True ((cr r.2.2 0)=false),bF h4,cC (C8 h5),bT h6] (hI h)
 ·exact gn 27 [0,1,7,9,10,28,29,30] [0,1,2,5] [bT h1,cE aC.enc h2,hH (.draw 20 []),cC (mL h3),rp 11 hP,rp 9 (oI ((cr r.2.2 0)=false)),oR True ((cr r.2.2 0)=false),bF h4,cC (C8 h5),bF h6,cI [0,3] (Bt h7)] (hI h)
 ·exact gn 5 [10] [0,3] [bF h1] (hE h)
theorem xP{s0 a8 l stop}{rv:List aC×aS}(h:oq s0 a8 l stop=some rv):dv prog 170 [.one (.op 0 17 0 0),.one (lI a8),.one (lL 2 l aC.enc),.agg (a6.enc stop)] [bX 17 174 (aS.enc s0)] (one (lL 2 rv.1 aC.enc)) [oX 17 174 [lL 1 rv.2.x.bG.aV bO,lL 6 rv.2.x.bG.cH aH.enc,lL 14 rv.2.x.types al.enc,lL 16 rv.2.x.ah ag.enc,lL 2 rv.2.x.bV aA.enc,lL 2 rv.2.x.before aA.enc,lI rv.2.kind,lI rv.2.bz,lI rv.2.kj,lI rv.2.eZ.aY,lI rv.2.eZ.bz,lI rv.2.eZ.kM,lI rv.2.eZ.db.aY,lI rv.2.eZ.db.aK,lL 1 rv.2.eZ.db.aQ cJ,lL 2 rv.2.eZ.db.aq ae.enc,.bool rv.2.mJ]]:=by
 refine aW func170 fun Γ=>?_
 simp only[oq,aB,ar,au,av]at h;obtain⟨x0,h0,⟨l2,x3⟩,h8,h⟩:=h;refine gn 11 [0,1,7,9,10,28,29,30] [0,1,2,3] [hH (.draw 12 []),cE al.enc h0,nL aC.enc l,hW 3,hH (.kH 10 2 257)] (B8 Γ rv h8 ?_);cases h;exact gr 2 [0] [hW 4,hH (.jn 1),rp 3 (eL l2 aC.enc)]
def zy(Γ:bu)(rv:aS)(cf:Cf):Prop:=Go prog f99 [0] Γ (.jx []) [oX 17 174 [lL 1 rv.x.bG.aV bO,lL 6 rv.x.bG.cH aH.enc,lL 14 rv.x.types al.enc,lL 16 rv.x.ah ag.enc,lL 2 rv.x.bV aA.enc,lL 2 rv.x.before aA.enc,lI rv.kind,lI rv.bz,lI rv.kj,lI rv.eZ.aY,lI rv.eZ.bz,lI rv.eZ.kM,lI rv.eZ.db.aY,lI rv.eZ.db.aK,lL 1 rv.eZ.db.aQ cJ,lL 2 rv.eZ.db.aq ae.enc,.bool rv.mJ]] cf
def Ep(Γ:bu)(rv:aS)(self:aS→(List ae)→Int→(List aC)→Option aS)(aq:List ae)(a8:Int)(l:List aC)(r2:List ae)(x0:aS)(v:Int):Prop:=zy Γ rv ⟨[.c 28,.l 28,.b 0],⟨114,[vP 0 0 17,vL 1 2 aq ae.enc,vI 2 a8,vL 3 2 l aC.enc,vL 77 2 r2 ae.enc,vI 78 (az r2),vI 79 v],[oX 17 174 (aS.enc x0)]⟩⟩
def Dd(Γ:bu)(rv:aS)(self:aS→(List ae)→Int→(List aC)→Option aS)(aq:List ae)(a8:Int)(l:List aC)(r2:List ae)(x2:aS):Prop:=zy Γ rv ⟨[],⟨114,[],[oX 17 174 (aS.enc x2)]⟩⟩
theorem De(Γ:bu)(rv:aS){self:aS→(List ae)→Int→(List aC)→Option aS}(w5:∀{s0:aS} {aq:List ae} {a8:Int} {l:List aC} {rv:aS},self s0 aq a8 l=some rv→dv prog 99 [.one (.op 0 17 0 0),.one (lL 2 aq ae.enc),.one (lI a8),.one (lL 2 l aC.enc)] [bX 17 174 (aS.enc s0)] (.jx []) [oX 17 174 [lL 1 rv.x.bG.aV bO,lL 6 rv.x.bG.cH aH.enc,lL 14 rv.x.types al.enc,lL 16 rv.x.ah ag.enc,lL 2 rv.x.bV aA.enc,lL 2 rv.x.before aA.enc,lI rv.kind,lI rv.bz,lI rv.kj,lI rv.eZ.aY,lI rv.eZ.bz,lI rv.eZ.kM,lI rv.eZ.db.aY,lI rv.eZ.db.aK,lL 1 rv.eZ.db.aQ cJ,lL 2 rv.eZ.db.aq ae.enc,.bool rv.mJ]]){aq a8 l r2}:∀⦃s:aS×Int⦄ ⦃e:aS⦄,aL (fun s=>lS self aq a8 l r2 s.1 s.2) s=some e→Dd Γ rv self aq a8 l r2 e→Ep Γ rv self aq a8 l r2 s.1 s.2:=by
 refine bl ?_
 rintro⟨x0,v⟩ z_ h hI hE;simp only[lS,aB,ar,au,av]at h;rcases h with⟨h5,x1,h6,r3,h7,⟨h8,h⟩|⟨h8,r4,h9,⟨dm,r5,fH,gi,r6,iG,h⟩|⟨dm,h⟩⟩⟩|⟨h5,h⟩
 ·exact gn 18 [0,1,2,3,77,78,79] [0] [bT h5,cE ae.enc h6,hH (.draw 13 [(2,11)]),cC (tG h7),bT h8] (hI h)
 ·exact gn 25 [0,1,2,3,77,78,79] [0] [bT h5,cE ae.enc h6,hH (.draw 13 [(2,11)]),cC (tG h7),bF h8,cI [0] (xP h9),nL aC.enc r4.1,bT dm,hH (.draw 9 []),cC (sU fH),oO (Eq.refl ([x1].map ae.enc).length),hH (.rows ((r5++[x1]).map ae.enc)),hH (.jn 4),oO (Qi7 ae.enc r5 [x1]),oO (neA ae.enc r5 [x1] (by simp)),oO (Qfc (l:=((r5++[x1]):List ae)) ae.enc gi),oO (ZD (l:=((r5++[x1]):List ae)) (b:=16) ae.enc (by decide) gi),oO (Eq.refl ((r5++[x1]).map ae.enc).length),cI [0] (w5 iG)] (hI h)
 ·exact gn 25 [0,1,2,3,77,78,79] [0] [bT h5,cE ae.enc h6,hH (.draw 13 [(2,11)]),cC (tG h7),bF h8,cI [0] (xP h9),nL aC.enc r4.1,bF dm] (hI h)
 ·exact gn 5 [] [0] [bF h5] (hE h)
theorem Eo{self:aS→(List ae)→Int→(List aC)→Option aS}(w5:∀{s0:aS} {aq:List ae} {a8:Int} {l:List aC} {rv:aS},self s0 aq a8 l=some rv→dv prog 99 [.one (.op 0 17 0 0),.one (lL 2 aq ae.enc),.one (lI a8),.one (lL 2 l aC.enc)] [bX 17 174 (aS.enc s0)] (.jx []) [oX 17 174 [lL 1 rv.x.bG.aV bO,lL 6 rv.x.bG.cH aH.enc,lL 14 rv.x.types al.enc,lL 16 rv.x.ah ag.enc,lL 2 rv.x.bV aA.enc,lL 2 rv.x.before aA.enc,lI rv.kind,lI rv.bz,lI rv.kj,lI rv.eZ.aY,lI rv.eZ.bz,lI rv.eZ.kM,lI rv.eZ.db.aY,lI rv.eZ.db.aK,lL 1 rv.eZ.db.aQ cJ,lL 2 rv.eZ.db.aq ae.enc,.bool rv.mJ]]){s0 aq a8 l}{rv:aS}(h:m_ self s0 aq a8 l=some rv):dv prog 99 [.one (.op 0 17 0 0),.one (lL 2 aq ae.enc),.one (lI a8),.one (lL 2 l aC.enc)] [bX 17 174 (aS.enc s0)] (.jx []) [oX 17 174 [lL 1 rv.x.bG.aV bO,lL 6 rv.x.bG.cH aH.enc,lL 14 rv.x.types al.enc,lL 16 rv.x.ah ag.enc,lL 2 rv.x.bV aA.enc,lL 2 rv.x.before aA.enc,lI rv.kind,lI rv.bz,lI rv.kj,lI rv.eZ.aY,lI rv.eZ.bz,lI rv.eZ.kM,lI rv.eZ.db.aY,lI rv.eZ.db.aK,lL 1 rv.eZ.db.aQ cJ,lL 2 rv.eZ.db.aq ae.enc,.bool rv.mJ]]:=by
 refine aW func99 fun Γ=>?_
 simp only[m_,aB,ar,au,av]at h;rcases h with⟨h0,r,h1,⟨h2,r1,h3,h⟩|⟨h2,h⟩⟩|⟨h0,r2,h4,x2,nW,h⟩
 ·cases h;exact gr 17 [0] [nL ae.enc aq,bT h0,hW 11,hH (.fj 1 2 1),hH (.draw 11 []),cC (F8 h1),bT h2,hH (.draw 12 []),hH (.draw 13 []),cC (uM h3)]
 ·obtain rfl:=oK h;exact gr 13 [0] [nL ae.enc aq,bT h0,hW 11,hH (.fj 1 2 1),hH (.draw 11 []),cC (F8 h1),bF h2]
 ·refine gn 9 [0,1,2,3,77,78,79] [0] [nL ae.enc aq,bF h0,hH (.draw 12 []),cC (ML h4),nL ae.enc r2] (De Γ rv w5 nW ?_);obtain rfl:=oK h;exact gr 0 [0] []
theorem xQ:∀Fz,∀{s0:aS} {aq:List ae} {a8:Int} {l:List aC} {rv:aS},iE Fz s0 aq a8 l=some rv→dv prog 99 [.one (.op 0 17 0 0),.one (lL 2 aq ae.enc),.one (lI a8),.one (lL 2 l aC.enc)] [bX 17 174 (aS.enc s0)] (.jx []) [oX 17 174 [lL 1 rv.x.bG.aV bO,lL 6 rv.x.bG.cH aH.enc,lL 14 rv.x.types al.enc,lL 16 rv.x.ah ag.enc,lL 2 rv.x.bV aA.enc,lL 2 rv.x.before aA.enc,lI rv.kind,lI rv.bz,lI rv.kj,lI rv.eZ.aY,lI rv.eZ.bz,lI rv.eZ.kM,lI rv.eZ.db.aY,lI rv.eZ.db.aK,lL 1 rv.eZ.db.aQ cJ,lL 2 rv.eZ.db.aq ae.enc,.bool rv.mJ]]
 |0=>fun h=>nomatch h
 |Fz+1=>fun h=>Eo (xQ Fz) h
theorem yO:∀{s0:aS} {aq:List ae} {a8:Int} {l:List aC} {rv:aS},B9 s0 aq a8 l=some rv→dv prog 99 [.one (.op 0 17 0 0),.one (lL 2 aq ae.enc),.one (lI a8),.one (lL 2 l aC.enc)] [bX 17 174 (aS.enc s0)] (.jx []) [oX 17 174 [lL 1 rv.x.bG.aV bO,lL 6 rv.x.bG.cH aH.enc,lL 14 rv.x.types al.enc,lL 16 rv.x.ah ag.enc,lL 2 rv.x.bV aA.enc,lL 2 rv.x.before aA.enc,lI rv.kind,lI rv.bz,lI rv.kj,lI rv.eZ.aY,lI rv.eZ.bz,lI rv.eZ.kM,lI rv.eZ.db.aY,lI rv.eZ.db.aK,lL 1 rv.eZ.db.aQ cJ,lL 2 rv.eZ.db.aq ae.enc,.bool rv.mJ]]:=xQ _
theorem sX{s0 cF fS}{rv:List aC×aS}(h:my s0 cF fS=some rv):dv prog 100 [.one (.op 0 17 0 0),.one (.cB),.one (lI cF),.one (lI fS)] [bX 17 174 (aS.enc s0)] (one (lL 2 rv.1 aC.enc)) [oX 17 174 [lL 1 rv.2.x.bG.aV bO,lL 6 rv.2.x.bG.cH aH.enc,lL 14 rv.2.x.types al.enc,lL 16 rv.2.x.ah ag.enc,lL 2 rv.2.x.bV aA.enc,lL 2 rv.2.x.before aA.enc,lI rv.2.kind,lI rv.2.bz,lI rv.2.kj,lI rv.2.eZ.aY,lI rv.2.eZ.bz,lI rv.2.eZ.kM,lI rv.2.eZ.db.aY,lI rv.2.eZ.db.aK,lL 1 rv.2.eZ.db.aQ cJ,lL 2 rv.2.eZ.db.aq ae.enc,.bool rv.2.mJ]]:=by
 refine aW func100 fun Γ=>?_
 simp only[my,aB,ar,au,av]at h;obtain⟨r,h0,x0,h1,r1,h2,h⟩:=h;cases h;exact gr 6 [0] [hW 9,hH (.kH 9 2 257),cI [1] (sE h0),hH (.draw 17 [(2,16)]),cE al.enc h1,cI [2] (sE h2),hW 1,hH (.jn 3),rp 2 (eL r1 aC.enc)]
def M_(Γ:bu)(rv:af×Int)(cf:Cf):Prop:=Go prog f41 [] Γ (.jx [.agg [lI rv.1.aY,lI rv.1.bz,lI rv.1.kM,lI rv.1.db.aY,lI rv.1.db.aK,lL 1 rv.1.db.aQ cJ,lL 2 rv.1.db.aq ae.enc],.one (lI rv.2)]) [] cf
def O3(Γ:bu)(rv:af×Int)(x0:ab)(kind bz:Int)(r1:List Int)(kj v:Int):Prop:=M_ Γ rv ⟨[.c 500,.l 500,.b 0,.c 63],⟨87,[vI 1 kind,vP 3 0 6,vP 6 1 7,vP 8 2 17,vL 45 1 r1 ai,vI 46 (az r1),vI 47 v],[oX 6 30 (ab.enc x0),oX 7 50 [lI 0,lI 0,lI 0,lI 0,lI 0,.cB,.cB],oX 17 174 [lL 1 x0.bG.aV bO,lL 6 x0.bG.cH aH.enc,lL 14 x0.types al.enc,lL 16 x0.ah ag.enc,lL 2 x0.bV aA.enc,lL 2 x0.before aA.enc,lI kind,lI bz,lI kj,lI 0,lI 0,lI 0,lI 0,lI 0,.cB,.cB,.bool false]]⟩⟩
def NB(Γ:bu)(rv:af×Int)(x0:ab)(kind bz:Int)(r1:List Int)(D8:Int):Prop:=M_ Γ rv ⟨[.c 63],⟨87,[vI 1 kind,vP 3 0 6,vP 6 1 7,vP 8 2 17],[oX 6 30 (ab.enc x0),oX 7 50 [lI 0,lI 0,lI 0,lI 0,lI 0,.cB,.cB],oX 17 174 [lL 1 x0.bG.aV bO,lL 6 x0.bG.cH aH.enc,lL 14 x0.types al.enc,lL 16 x0.ah ag.enc,lL 2 x0.bV aA.enc,lL 2 x0.before aA.enc,lI kind,lI bz,lI D8,lI 0,lI 0,lI 0,lI 0,lI 0,.cB,.cB,.bool false]]⟩⟩
theorem NC(Γ:bu)(rv:af×Int){x0 kind bz r1}:∀⦃s:Int×Int⦄ ⦃e:Int⦄,aL (fun s=>mw x0 kind bz r1 s.1 s.2) s=some e→NB Γ rv x0 kind bz r1 e→O3 Γ rv x0 kind bz r1 s.1 s.2:=by
 refine bl ?_
 rintro⟨kj,v⟩ z_ h hI hE;simp only[mw,aB,ar,au,av]at h;rcases h with⟨h6,x1,h7,r2,h8,h⟩|⟨h6,h⟩
 ·exact gn 13 [1,3,6,8,45,46,47] [0,1,2] [bT h6,cE ai h7,hH (.draw 12 []),cC (oe h8),nL ae.enc r2] (hI h)
 ·exact gn 5 [1,3,6,8] [0,1,2] [bF h6] (hE h)
theorem JH{x0 kind bz}{rv:af×Int}(h:B6 x0 kind bz=some rv):dv prog 41 [.agg (ab.enc x0),.one (lI kind),.one (lI bz)] [] (.jx [.agg [lI rv.1.aY,lI rv.1.bz,lI rv.1.kM,lI rv.1.db.aY,lI rv.1.db.aK,lL 1 rv.1.db.aQ cJ,lL 2 rv.1.db.aq ae.enc],.one (lI rv.2)]) []:=by
 refine aW func41 fun Γ=>?_
 simp only[B6,aB,ar,au,av]at h;rcases h with⟨h0,h⟩|⟨h0,h1,⟨h2,h⟩|⟨h2,r,h3,⟨h4,h⟩|⟨h4,r1,h5,D8,h9,h⟩⟩⟩
 ·cases h;exact gr 8 [] [rp 4 hP,rp 2 (oI ((bh kind 0)=false)),nL al.enc x0.types,rp 5 hP,rp 2 (oI ((bh kind 0)=false)),oR True ((bh kind 0)=false),oI (((bh kind 0)||(cD kind (az x0.types)))=false),oR True (((bh kind 0)||(cD kind (az x0.types)))=false),rp 7 (bT h0),tT,hW 5,hH (.fj 1 5 1),hH (.fj 1 6 2)]
 ·cases h;exact gr 8 [] [rp 4 hP,rp 2 (oI ((bh kind 0)=false)),nL al.enc x0.types,rp 5 hP,rp 2 (oI ((bh kind 0)=false)),oR True ((bh kind 0)=false),oI (((bh kind 0)||(cD kind (az x0.types)))=false),oR True (((bh kind 0)||(cD kind (az x0.types)))=false),rp 4 (bF h0),nL ag.enc x0.ah,bF h0,oO (h1),bF h0,bF h0,bT h2,hW 5,hH (.fj 1 5 1),hH (.fj 1 6 2)]
 ·cases h;exact gr 13 [] [rp 4 hP,rp 2 (oI ((bh kind 0)=false)),nL al.enc x0.types,rp 5 hP,rp 2 (oI ((bh kind 0)=false)),oR True ((bh kind 0)=false),oI (((bh kind 0)||(cD kind (az x0.types)))=false),oR True (((bh kind 0)||(cD kind (az x0.types)))=false),rp 4 (bF h0),nL ag.enc x0.ah,bF h0,oO (h1),bF h0,bF h0,bF h2,cC (CU h3),bT h4,hW 5,hH (.fj 1 5 1),hH (.fj 1 6 2)]
 ·refine gn 19 [1,3,6,8,45,46,47] [0,1,2] [rp 4 hP,rp 2 (oI ((bh kind 0)=false)),nL al.enc x0.types,rp 5 hP,rp 2 (oI ((bh kind 0)=false)),oR True ((bh kind 0)=false),oI (((bh kind 0)||(cD kind (az x0.types)))=false),oR True (((bh kind 0)||(cD kind (az x0.types)))=false),rp 4 (bF h0),nL ag.enc x0.ah,bF h0,oO (h1),bF h0,bF h0,bF h2,cC (CU h3),bF h4,cC (yG h5),nL ai r1] (NC Γ rv h9 ?_);rcases h with⟨x2,dm,r3,fH,r4,gi,⟨iG,h⟩|⟨iG,h⟩⟩
  ·cases h;exact gr 11 [] [cE al.enc dm,hW 4,hH (.fj 2 14 1),hH (.fj 2 15 2),hH (.draw 7 [(2,6)]),cI [2] (sX fH),cI [2] (dv.Qkg 1 2 (yO gi)),nF iG]
  ·cases h;exact gr 10 [] [cE al.enc dm,hW 4,hH (.fj 2 14 1),hH (.fj 2 15 2),hH (.draw 7 [(2,6)]),cI [2] (sX fH),cI [2] (dv.Qkg 1 2 (yO gi)),nT iG,hW 5,hH (.fj 1 5 1),hH (.fj 1 6 2)]
def Db(Γ:bu)(rv:List af×Int)(cf:Cf):Prop:=Go prog f10 [] Γ (.jx [.one (lL 7 rv.1 af.enc),.one (lI rv.2)]) [] cf
def QK(Γ:bu)(rv:List af×Int)(x0:ab)(l:List af)(v:Int)(l1:List af)(bz:Int):Prop:=Db Γ rv ⟨[.c 29900,.l 29900,.b 2,.b 1,.c 935,.l 116,.b 0,.c 15],⟨38,[vP 1 0 6,vO 4 1 7 l1 af.enc,vI 5 v,vI 6 bz,vI 11 (az x0.types),vI 12 v],[oX 6 30 (ab.enc x0),oS 7 50 l1 af.enc]⟩⟩
def O1(Γ:bu)(rv:List af×Int)(x0:ab)(l:List af)(v:Int)(l2:List af):Prop:=Db Γ rv ⟨[.b 1,.c 935,.l 116,.b 0,.c 15],⟨38,[vP 1 0 6,vO 4 1 7 l2 af.enc,vI 11 (az x0.types),vI 12 v],[oX 6 30 (ab.enc x0),oS 7 50 l2 af.enc]⟩⟩
def QJ(Γ:bu)(rv:List af×Int)(x0:ab)(l:List af)(v:Int):Prop:=Db Γ rv ⟨[.c 116,.l 116,.b 0,.c 15],⟨38,[vP 1 0 6,vO 4 1 7 l af.enc,vI 11 (az x0.types),vI 12 v],[oX 6 30 (ab.enc x0),oS 7 50 l af.enc]⟩⟩
def OZ(Γ:bu)(rv:List af×Int)(x0:ab)(l3:List af):Prop:=Db Γ rv ⟨[.c 15],⟨38,[vO 4 0 7 l3 af.enc],[oS 7 50 l3 af.enc]⟩⟩
theorem O2(Γ:bu)(rv:List af×Int){x0 l v}:∀⦃s:List af×Int⦄ ⦃e:List af⦄,aL (fun s=>qo x0 l v s.1 s.2) s=some e→O1 Γ rv x0 l v e→QK Γ rv x0 l v s.1 s.2:=by
 refine bl ?_
 rintro⟨l1,bz⟩ z_ h hI hE;simp only[qo,aB,ar,au,av]at h;rcases h with⟨h1,⟨h2,r,h3,⟨h4,h5,h⟩|⟨h4,h⟩⟩|⟨h2,h⟩⟩
 ·exact gn 16 [1,4,5,6,11,12] [0,4] [nL ag.enc x0.ah,oO (h1),bT h2,cC (JH h3),bT h4,oO (Eq.refl ([r.1].map af.enc).length),aO af.enc h5] (hI h)
 ·exact gn 16 [1,4,5,6,11,12] [0,1] [nL ag.enc x0.ah,oO (h1),bT h2,cC (JH h3),bF h4] (hI h)
 ·exact gn 5 [1,4,11,12] [0,1] [nL ag.enc x0.ah,oO (h1),bF h2] (hE h)
theorem O0(Γ:bu)(rv:List af×Int){x0}:∀⦃s:List af×Int⦄ ⦃e:List af⦄,aL (fun s=>oo x0 s.1 s.2) s=some e→OZ Γ rv x0 e→QJ Γ rv x0 s.1 s.2:=by
 refine bl ?_
 rintro⟨l,v⟩ z_ h hI hE;simp only[oo,aB,ar,au,av]at h;rcases h with⟨h0,l2,h6,h⟩|⟨h0,h⟩
 ·refine gn 13 [1,4,5,6,11,12] [0,1] [bT h0] (O2 Γ rv h6 ?_);exact gn 3 [1,4,11,12] [0,1] [] (hI h)
 ·exact gn 5 [4] [1] [bF h0] (hE h)
theorem M9{x0}{rv:List af×Int}(h:Fa x0=some rv):dv prog 10 [.agg (ab.enc x0)] [] (.jx [.one (lL 7 rv.1 af.enc),.one (lI rv.2)]) []:=by
 refine aW func10 fun Γ=>?_
 simp only[Fa,aB,ar,au,av]at h;obtain⟨l3,h7,h⟩:=h;refine gn 9 [1,4,11,12] [0,1] [nL al.enc x0.types,hW 3,hH (.kH 4 7 50)] (O0 Γ rv h7 ?_);cases h;exact gr 2 [] [hW 5,hH (.jn 0),rp 3 (eL l3 af.enc)]
theorem A6{a}{rv:Bool}(h:u2 a=some rv):dv prog 129 [.agg (ag.enc a)] [] (one (.bool rv)) []:=by
 refine aW func129 fun Γ=>?_
 simp only[u2,aB,ar,au,av]at h;obtain rfl:=oK h;exact gr 4 [] []
def w6(Γ:bu)(rv:Int)(cf:Cf):Prop:=Go prog f128 [] Γ (one (lI rv)) [] cf
def Bz(Γ:bu)(rv:Int)(x0:ab)(bz v:Int):Prop:=w6 Γ rv ⟨[.c 116,.l 116,.b 0,.c 15],⟨30,[(1,one (.fn (.func 129) [])),vI 5 bz,vL 9 16 x0.ah ag.enc,vI 10 (az x0.ah),vI 11 v],[]⟩⟩
def AF(Γ:bu)(rv:Int)(x0:ab)(Gs:Int):Prop:=w6 Γ rv ⟨[.c 15],⟨30,[vI 5 Gs],[]⟩⟩
theorem AG(Γ:bu)(rv:Int){x0}:∀⦃s:Int×Int⦄ ⦃e:Int⦄,aL (fun s=>fx x0 s.1 s.2) s=some e→AF Γ rv x0 e→Bz Γ rv x0 s.1 s.2:=by
 refine bl ?_
 rintro⟨bz,v⟩ z_ h hI hE;simp only[fx,aB,ar,au,av]at h;rcases h with⟨h0,x1,h1,⟨h2,h⟩|⟨h2,r,h3,⟨h4,h5,h⟩|⟨h4,h⟩⟩⟩|⟨h0,h⟩
 ·exact gn 16 [1,5,9,10,11] [] [bT h0,cE ag.enc h1,rp 4 (nF h2),fF] (hI h)
 ·exact gn 16 [1,5,9,10,11] [] [bT h0,cE ag.enc h1,rp 3 (nT h2),cC (A6 h3),nT h2,bT h4,oO (h5)] (hI h)
 ·exact gn 16 [1,5,9,10,11] [] [bT h0,cE ag.enc h1,rp 3 (nT h2),cC (A6 h3),nT h2,bF h4] (hI h)
 ·exact gn 5 [5] [] [bF h0] (hE h)
theorem Dj{x0}{rv:Int}(h:lX x0=some rv):dv prog 128 [.agg (ab.enc x0),.one (.fn (.func 129) [])] [] (one (lI rv)) []:=by
 refine aW func128 fun Γ=>?_
 simp only[lX,aB,ar,au,av]at h;obtain⟨Gs,h6,h⟩:=h;refine gn 9 [1,5,9,10,11] [] [nL ag.enc x0.ah] (AG Γ rv h6 ?_);obtain rfl:=oK h;exact gr 2 [] []
theorem Ef{x0}{rv:Int}(h:sJ x0=some rv):dv prog 55 [.agg (ab.enc x0)] [] (one (lI rv)) []:=by
 refine aW func55 fun Γ=>?_
 simp only[sJ,aB,ar,au,av]at h;obtain⟨r,h0,h⟩:=h;obtain rfl:=oK h;exact gr 4 [] [cC (Dj h0)]
theorem Er{x0}{rv:Int}(h:bits_TrailingZeros x0=some rv):dv prog 192 [.one (.int .u64 x0)] [] (one (lI rv)) []:=by
 refine aW func192 fun Γ=>?_
 simp only[bits_TrailingZeros,aB,ar,au,av]at h;obtain⟨r,h0,h⟩:=h;obtain rfl:=oK h;exact gr 7 [] [fF,cC (Qit h0)]
theorem rl{bz}{rv:Int}(h:nA bz=some rv):dv prog 123 [.one (lI bz)] [] (one (lI rv)) []:=by
 refine aW func123 fun Γ=>?_
 simp only[nA,aB,ar,au,av]at h;rcases h with⟨h0,h⟩|⟨h0,r,h1,h⟩
 ·cases h;exact gr 8 [] [bT h0]
 ·obtain rfl:=oK h;exact gr 9 [] [bF h0,cC (Er h1)]
theorem Qf{a b}{rv:Bool}(h:Bk a b=some rv):dv prog 93 [.one (lI a),.one (lI b)] [] (one (.bool rv)) []:=by
 refine aW func93 fun Γ=>?_
 simp only[Bk,aB,ar,au,av]at h;cases h;exact gr 4 [] []
theorem Fu{x0 c ah}{rv:Bool}(h:xZ x0 c ah=some rv):dv prog 183 [.agg (ab.enc x0),.agg (af.enc c),.one (lI ah)] [] (one (.bool rv)) []:=by
 refine aW func183 fun Γ=>?_
 simp only[xZ,aB,ar,au,av]at h;rcases h with⟨h0,r,h1,h⟩|⟨h0,h⟩
 ·cases h;exact gr 4 [] [rp 5 hP,rp 3 (oI ((cD c.aY 0)=true)),nL al.enc x0.types,rp 6 hP,rp 2 (oI ((cD c.aY 0)=true)),oR True ((cD c.aY 0)=true),rp 2 (oI (((cD c.aY 0)&&(bh c.aY (az x0.types)))=true)),oR True (((cD c.aY 0)&&(bh c.aY (az x0.types)))=true),rp 4 (bT h0),cC (Qf h1),bT h0,rp 8 hP,rp 2 (oI (r=true)),oR True (r=true),rp 2 (oI ((r&&(cD c.kM 0))=true)),oR True ((r&&(cD c.kM 0))=true)]
 ·obtain rfl:=oK h;exact gr 4 [] [rp 5 hP,rp 3 (oI ((cD c.aY 0)=true)),nL al.enc x0.types,rp 6 hP,rp 2 (oI ((cD c.aY 0)=true)),oR True ((cD c.aY 0)=true),rp 2 (oI (((cD c.aY 0)&&(bh c.aY (az x0.types)))=true)),oR True (((cD c.aY 0)&&(bh c.aY (az x0.types)))=true),rp 5 (bF h0),rp 8 fF]
def Ch(Γ:bu)(rv:List af)(cf:Cf):Prop:=Go prog f184 [] Γ (one (lL 7 rv af.enc)) [] cf
def Hh(Γ:bu)(rv l:List af)(l1:List (bt×Int))(l2:List af)(v:Int):Prop:=Ch Γ rv ⟨[.c 244,.l 244,.b 0,.c 31],⟨56,[(3,one (.mp 0)),vO 4 1 7 l2 af.enc,vL 11 7 l af.enc,vI 12 (az l),vI 13 v],[oM 311 l1 (mE bt.enc lI),oS 7 50 l2 af.enc]⟩⟩
def Fs(Γ:bu)(rv l l3:List af):Prop:=Ch Γ rv ⟨[.c 31],⟨56,[vO 4 0 7 l3 af.enc],[oS 7 50 l3 af.enc]⟩⟩
theorem Ft(Γ:bu)(rv:List af){l}:∀⦃s:List (bt×Int)×List af×Int⦄ ⦃e:List af⦄,aL (fun s=>jk l s.1 s.2.1 s.2.2) s=some e→Fs Γ rv l e→Hh Γ rv l s.1 s.2.1 s.2.2:=by
 refine bl ?_
 rintro⟨l1,l2,v⟩ z_ h hI hE;simp only[jk,aB,ar,au,av]at h;rcases h with⟨h0,x0,h1,⟨h2,x1,h3,⟨h4,h⟩|⟨h4,h⟩⟩|⟨h2,h5,h⟩⟩|⟨h0,h⟩
 ·exact gn 25 [3,4,11,12,13] [0,1] [bT h0,cE af.enc h1,hH (.cells [lI (nY bt.Ow l1 (bt.mk x0.aY x0.bz) 0),.bool (Kw bt.Ow l1 (bt.mk x0.aY x0.bz))]),oO (zm bt.kq lI () l1 (bt.mk x0.aY x0.bz) 0),oO (CJ bt.kq lI l1 (bt.mk x0.aY x0.bz)),nF h2,hH (.draw 9 []),oO (fJ h3),oO (fI af.enc h3),rE af.enc h3,bT h4,oO (fJ h3),oO (fI af.enc h3),rE af.enc h3,hH (.rows ((e_ l2 (nY bt.Ow l1 (bt.mk x0.aY x0.bz) 0) x0).map af.enc)),hH (.uG 1 ((e_ l2 (nY bt.Ow l1 (bt.mk x0.aY x0.bz) 0) x0).map af.enc).length),oO (I7 af.enc l2 (nY bt.Ow l1 (bt.mk x0.aY x0.bz) 0) x0),rp 3 (oO (t_ af.enc l2 (nY bt.Ow l1 (bt.mk x0.aY x0.bz) 0) x0))] (hI h)
 ·exact gn 25 [3,4,11,12,13] [0,1] [bT h0,cE af.enc h1,hH (.cells [lI (nY bt.Ow l1 (bt.mk x0.aY x0.bz) 0),.bool (Kw bt.Ow l1 (bt.mk x0.aY x0.bz))]),oO (zm bt.kq lI () l1 (bt.mk x0.aY x0.bz) 0),oO (CJ bt.kq lI l1 (bt.mk x0.aY x0.bz)),nF h2,hH (.draw 9 []),oO (fJ h3),oO (fI af.enc h3),rE af.enc h3,bF h4] (hI h)
 ·exact gn 24 [3,4,11,12,13] [0,5] [bT h0,cE af.enc h1,hH (.cells [lI (nY bt.Ow l1 (bt.mk x0.aY x0.bz) 0),.bool (Kw bt.Ow l1 (bt.mk x0.aY x0.bz))]),oO (zm bt.kq lI () l1 (bt.mk x0.aY x0.bz) 0),oO (CJ bt.kq lI l1 (bt.mk x0.aY x0.bz)),nT h2,nL af.enc l2,mU bt.kq lI l1 (bt.mk x0.aY x0.bz) (az l2),oO (Eq.refl ([x0].map af.enc).length),aO af.enc h5] (hI h)
 ·exact gn 5 [4] [1] [bF h0] (hE h)
theorem rJ{l}{rv:List af}(h:kU l=some rv):dv prog 184 [.one (lL 7 l af.enc)] [] (one (lL 7 rv af.enc)) []:=by
 refine aW func184 fun Γ=>?_
 simp only[kU,aB,ar,au,av]at h;obtain⟨l3,h6,h⟩:=h;refine gn 11 [3,4,11,12,13] [0,1] [nL af.enc l,hW 3,hH (.kH 4 7 50)] (Ft Γ rv h6 ?_);obtain⟨l4,h7,h⟩:=h;obtain rfl:=oK h;exact gr 4 [] [eL l3 af.enc,oO (BS h7),rp 2 (oO (Ct af.enc h7)),rp 3 (eL l4 af.enc),hH (.rows (l4.map af.enc)),hH (.uG 0 (l4.map af.enc).length),hW 4,hH (.jn 0),eL l4 af.enc]
theorem eB{x0 aJ}{rv:bH×Int}(h:gq x0 aJ=some rv):dv prog 185 [.agg (ab.enc x0),.one (lI aJ)] [] (.jx [.agg [lI rv.1.uO,lI rv.1.im,lI rv.1.fY,lI rv.1.GL],.one (lI rv.2)]) []:=by
 refine aW func185 fun Γ=>?_
 simp only[gq,aB,ar,au,av]at h;rcases h with⟨h0,h⟩|⟨h0,x1,h1,⟨h2,h⟩|⟨h2,⟨h3,h⟩|⟨h3,⟨h4,h⟩|⟨h4,h⟩⟩⟩⟩
 ·cases h;exact gr 8 [] [rp 4 hP,rp 2 (oI ((bh aJ 0)=false)),nL ag.enc x0.ah,hP,hP,rp 2 (oI ((bh aJ 0)=false)),oR True ((bh aJ 0)=false),bT h0]
 ·cases h;exact gr 16 [] [rp 4 hP,rp 2 (oI ((bh aJ 0)=false)),nL ag.enc x0.ah,hP,hP,rp 2 (oI ((bh aJ 0)=false)),oR True ((bh aJ 0)=false),bF h0,cE ag.enc h1,bT h2]
 ·cases h;exact gr 19 [] [rp 4 hP,rp 2 (oI ((bh aJ 0)=false)),nL ag.enc x0.ah,hP,hP,rp 2 (oI ((bh aJ 0)=false)),oR True ((bh aJ 0)=false),bF h0,cE ag.enc h1,bF h2,bT h3]
 ·cases h;exact gr 28 [] [rp 4 hP,rp 2 (oI ((bh aJ 0)=false)),nL ag.enc x0.ah,hP,hP,rp 2 (oI ((bh aJ 0)=false)),oR True ((bh aJ 0)=false),bF h0,cE ag.enc h1,bF h2,bF h3,bT h4]
 ·cases h;exact gr 28 [] [rp 4 hP,rp 2 (oI ((bh aJ 0)=false)),nL ag.enc x0.ah,hP,hP,rp 2 (oI ((bh aJ 0)=false)),oR True ((bh aJ 0)=false),bF h0,cE ag.enc h1,bF h2,bF h3,bF h4]
def di(Γ:bu)(rv:(Option aw)×Int)(cf:Cf):Prop:=Go prog f116 [] Γ (match rv.1 with|some c_=>.jx [.one (.op 0 10 0 0),.one (lI rv.2)]|none=>.jx [.one (.Mt),.one (lI rv.2)]) (match rv.1 with|some c_=>[oX 10 268 [lL 1 c_.x.bG.aV bO,lL 6 c_.x.bG.cH aH.enc,lL 14 c_.x.types al.enc,lL 16 c_.x.ah ag.enc,lL 2 c_.x.bV aA.enc,lL 2 c_.x.before aA.enc,lL 1 c_.dj bk.enc,lL 1 c_.ee ai,.mp 1,lI c_.ah],oM 265 c_.eW (mE aj.enc lI)]|none=>[]) cf
def LU(Γ:bu)(rv:(Option aw)×Int)(x0:ab)(l:List af)(r v:Int):Prop:=di Γ rv ⟨[.c 244,.l 244,.b 0,.c 31],⟨110,[vL 1 7 l af.enc,vP 2 0 6,vP 6 1 10,vL 27 7 l af.enc,vI 28 (az l),vI 29 v],[oX 6 30 (ab.enc x0),oX 10 268 [lL 1 x0.bG.aV bO,lL 6 x0.bG.cH aH.enc,lL 14 x0.types al.enc,lL 16 x0.ah ag.enc,lL 2 x0.bV aA.enc,lL 2 x0.before aA.enc,.cB,.cB,.mp 2,lI r],oM 265 ([]:List (aj×Int)) (mE aj.enc lI)]⟩⟩
def JW(Γ:bu)(rv:(Option aw)×Int)(x0:ab)(l:List af)(r:Int):Prop:=di Γ rv ⟨[.c 31],⟨110,[vL 1 7 l af.enc,vP 2 0 6,vP 6 1 10],[oX 6 30 (ab.enc x0),oX 10 268 [lL 1 x0.bG.aV bO,lL 6 x0.bG.cH aH.enc,lL 14 x0.types al.enc,lL 16 x0.ah ag.enc,lL 2 x0.bV aA.enc,lL 2 x0.before aA.enc,.cB,.cB,.mp 2,lI r],oM 265 ([]:List (aj×Int)) (mE aj.enc lI)]⟩⟩
def LV(Γ:bu)(rv:(Option aw)×Int)(x0:ab)(l:List af)(r:Int)(l1:List (List af))(r2:List af):Prop:=di Γ rv ⟨[.c 1012,.l 1012,.b 2,.c 127],⟨110,[vP 2 0 6,vP 6 1 10,vL 50 7 r2 af.enc,vI 51 (az r2),vI 52 0],[oX 6 30 (ab.enc x0),oX 10 268 [lL 1 x0.bG.aV bO,lL 6 x0.bG.cH aH.enc,lL 14 x0.types al.enc,lL 16 x0.ah ag.enc,lL 2 x0.bV aA.enc,lL 2 x0.before aA.enc,lO 2 1 l1 bk.enc,.cB,.mp 3,lI r],oS 1 42 l1 bk.enc,oM 265 ([]:List (aj×Int)) (mE aj.enc lI)]⟩⟩
def JY(Γ:bu)(rv:(Option aw)×Int)(x0:ab)(l:List af)(r:Int)(l1:List (List af))(r2:List af):Prop:=di Γ rv ⟨[.c 127],⟨110,[vP 2 0 6,vP 6 1 10],[oX 6 30 (ab.enc x0),oX 10 268 [lL 1 x0.bG.aV bO,lL 6 x0.bG.cH aH.enc,lL 14 x0.types al.enc,lL 16 x0.ah ag.enc,lL 2 x0.bV aA.enc,lL 2 x0.before aA.enc,lO 2 1 l1 bk.enc,.cB,.mp 3,lI r],oS 1 42 l1 bk.enc,oM 265 ([]:List (aj×Int)) (mE aj.enc lI)]⟩⟩
def Cc(Γ:bu)(rv:(Option aw)×Int)(x0:ab)(l:List af)(r:Int)(l1:List (List af))(l2:List Int)(v1:Int):Prop:=di Γ rv ⟨[.c 2036,.l 2036,.b 4,.c 255],⟨110,[vP 2 0 6,vP 6 1 10,vI 78 (az x0.ah),vI 79 v1],[oX 6 30 (ab.enc x0),oX 10 268 [lL 1 x0.bG.aV bO,lL 6 x0.bG.cH aH.enc,lL 14 x0.types al.enc,lL 16 x0.ah ag.enc,lL 2 x0.bV aA.enc,lL 2 x0.before aA.enc,lO 2 1 l1 bk.enc,lO 3 1 l2 ai,.mp 4,lI r],oS 1 42 l1 bk.enc,oS 1 3 l2 ai,oM 265 ([]:List (aj×Int)) (mE aj.enc lI)]⟩⟩
def A0(Γ:bu)(rv:(Option aw)×Int)(x0:ab)(l:List af)(r:Int)(l1:List (List af))(l3:List Int):Prop:=di Γ rv ⟨[.c 255],⟨110,[vP 6 0 10],[oX 10 268 [lL 1 x0.bG.aV bO,lL 6 x0.bG.cH aH.enc,lL 14 x0.types al.enc,lL 16 x0.ah ag.enc,lL 2 x0.bV aA.enc,lL 2 x0.before aA.enc,lO 1 1 l1 bk.enc,lO 2 1 l3 ai,.mp 3,lI r],oS 1 42 l1 bk.enc,oS 1 3 l3 ai,oM 265 ([]:List (aj×Int)) (mE aj.enc lI)]⟩⟩
def LW(Γ:bu)(rv:(Option aw)×Int)(x0:ab)(l:List af)(r:Int)(r6 l4:List af)(v2:Int):Prop:=di Γ rv ⟨[.c 1012,.l 1012,.b 2,.c 127],⟨110,[vP 2 0 6,vP 6 1 10,vL 50 7 r6 af.enc,vI 51 (az r6),vI 52 v2],[oX 6 30 (ab.enc x0),oX 10 268 [lL 1 x0.bG.aV bO,lL 6 x0.bG.cH aH.enc,lL 14 x0.types al.enc,lL 16 x0.ah ag.enc,lL 2 x0.bV aA.enc,lL 2 x0.before aA.enc,.bs 2 1 1,.cB,.mp 3,lI r],oX 1 42 [lO 4 7 l4 af.enc],oM 265 ([]:List (aj×Int)) (mE aj.enc lI),oS 7 50 l4 af.enc]⟩⟩
def J1(Γ:bu)(rv:(Option aw)×Int)(x0:ab)(l:List af)(r:Int)(r6 l5:List af):Prop:=di Γ rv ⟨[.c 127],⟨110,[vP 2 0 6,vP 6 1 10],[oX 6 30 (ab.enc x0),oX 10 268 [lL 1 x0.bG.aV bO,lL 6 x0.bG.cH aH.enc,lL 14 x0.types al.enc,lL 16 x0.ah ag.enc,lL 2 x0.bV aA.enc,lL 2 x0.before aA.enc,.bs 2 1 1,.cB,.mp 3,lI r],oX 1 42 [lO 4 7 l5 af.enc],oM 265 ([]:List (aj×Int)) (mE aj.enc lI),oS 7 50 l5 af.enc]⟩⟩
def Cd(Γ:bu)(rv:(Option aw)×Int)(x0:ab)(l:List af)(r:Int)(l5:List af)(l6:List Int)(v3:Int):Prop:=di Γ rv ⟨[.c 2036,.l 2036,.b 4,.c 255],⟨110,[vP 2 0 6,vP 6 1 10,vI 78 (az x0.ah),vI 79 v3],[oX 6 30 (ab.enc x0),oX 10 268 [lL 1 x0.bG.aV bO,lL 6 x0.bG.cH aH.enc,lL 14 x0.types al.enc,lL 16 x0.ah ag.enc,lL 2 x0.bV aA.enc,lL 2 x0.before aA.enc,.bs 2 1 1,lO 3 1 l6 ai,.mp 4,lI r],oX 1 42 [lO 5 7 l5 af.enc],oS 1 3 l6 ai,oM 265 ([]:List (aj×Int)) (mE aj.enc lI),oS 7 50 l5 af.enc]⟩⟩
def A1(Γ:bu)(rv:(Option aw)×Int)(x0:ab)(l:List af)(r:Int)(l5:List af)(l7:List Int):Prop:=di Γ rv ⟨[.c 255],⟨110,[vP 6 0 10],[oX 10 268 [lL 1 x0.bG.aV bO,lL 6 x0.bG.cH aH.enc,lL 14 x0.types al.enc,lL 16 x0.ah ag.enc,lL 2 x0.bV aA.enc,lL 2 x0.before aA.enc,.bs 1 1 1,lO 2 1 l7 ai,.mp 3,lI r],oX 1 42 [lO 4 7 l5 af.enc],oS 1 3 l7 ai,oM 265 ([]:List (aj×Int)) (mE aj.enc lI),oS 7 50 l5 af.enc]⟩⟩
def LX(Γ:bu)(rv:(Option aw)×Int)(x0:ab)(l:List af)(r:Int)(My l8 l9:List af)(v4:Int):Prop:=di Γ rv ⟨[.c 1012,.l 1012,.b 2,.c 127],⟨110,[vP 2 0 6,vP 6 1 10,vL 50 7 My af.enc,vI 51 (az My),vI 52 v4],[oX 6 30 (ab.enc x0),oX 10 268 [lL 1 x0.bG.aV bO,lL 6 x0.bG.cH aH.enc,lL 14 x0.types al.enc,lL 16 x0.ah ag.enc,lL 2 x0.bV aA.enc,lL 2 x0.before aA.enc,.bs 2 2 1,.cB,.mp 3,lI r],oX 2 42 [lO 4 7 l8 af.enc,lO 5 7 l9 af.enc],oM 265 ([]:List (aj×Int)) (mE aj.enc lI),oS 7 50 l8 af.enc,oS 7 50 l9 af.enc]⟩⟩
def J5(Γ:bu)(rv:(Option aw)×Int)(x0:ab)(l:List af)(r:Int)(My l10 u4:List af):Prop:=di Γ rv ⟨[.c 127],⟨110,[vP 2 0 6,vP 6 1 10],[oX 6 30 (ab.enc x0),oX 10 268 [lL 1 x0.bG.aV bO,lL 6 x0.bG.cH aH.enc,lL 14 x0.types al.enc,lL 16 x0.ah ag.enc,lL 2 x0.bV aA.enc,lL 2 x0.before aA.enc,.bs 2 2 1,.cB,.mp 3,lI r],oX 2 42 [lO 4 7 l10 af.enc,lO 5 7 u4 af.enc],oM 265 ([]:List (aj×Int)) (mE aj.enc lI),oS 7 50 l10 af.enc,oS 7 50 u4 af.enc]⟩⟩
def Ce(Γ:bu)(rv:(Option aw)×Int)(x0:ab)(l:List af)(r:Int)(l10 u4:List af)(zR:List Int)(v5:Int):Prop:=di Γ rv ⟨[.c 2036,.l 2036,.b 4,.c 255],⟨110,[vP 2 0 6,vP 6 1 10,vI 78 (az x0.ah),vI 79 v5],[oX 6 30 (ab.enc x0),oX 10 268 [lL 1 x0.bG.aV bO,lL 6 x0.bG.cH aH.enc,lL 14 x0.types al.enc,lL 16 x0.ah ag.enc,lL 2 x0.bV aA.enc,lL 2 x0.before aA.enc,.bs 2 2 1,lO 3 1 zR ai,.mp 4,lI r],oX 2 42 [lO 5 7 l10 af.enc,lO 6 7 u4 af.enc],oS 1 3 zR ai,oM 265 ([]:List (aj×Int)) (mE aj.enc lI),oS 7 50 l10 af.enc,oS 7 50 u4 af.enc]⟩⟩
def A2(Γ:bu)(rv:(Option aw)×Int)(x0:ab)(l:List af)(r:Int)(l10 u4:List af)(l13:List Int):Prop:=di Γ rv ⟨[.c 255],⟨110,[vP 6 0 10],[oX 10 268 [lL 1 x0.bG.aV bO,lL 6 x0.bG.cH aH.enc,lL 14 x0.types al.enc,lL 16 x0.ah ag.enc,lL 2 x0.bV aA.enc,lL 2 x0.before aA.enc,.bs 1 2 1,lO 2 1 l13 ai,.mp 3,lI r],oX 2 42 [lO 4 7 l10 af.enc,lO 5 7 u4 af.enc],oS 1 3 l13 ai,oM 265 ([]:List (aj×Int)) (mE aj.enc lI),oS 7 50 l10 af.enc,oS 7 50 u4 af.enc]⟩⟩
def LY(Γ:bu)(rv:(Option aw)×Int)(x0:ab)(l:List af)(r:Int)(Rj l14 l15 l16:List af)(v6:Int):Prop:=di Γ rv ⟨[.c 1012,.l 1012,.b 2,.c 127],⟨110,[vP 2 0 6,vP 6 1 10,vL 50 7 Rj af.enc,vI 51 (az Rj),vI 52 v6],[oX 6 30 (ab.enc x0),oX 10 268 [lL 1 x0.bG.aV bO,lL 6 x0.bG.cH aH.enc,lL 14 x0.types al.enc,lL 16 x0.ah ag.enc,lL 2 x0.bV aA.enc,lL 2 x0.before aA.enc,.bs 2 3 1,.cB,.mp 3,lI r],oX 3 42 [lO 4 7 l14 af.enc,lO 5 7 l15 af.enc,lO 6 7 l16 af.enc],oM 265 ([]:List (aj×Int)) (mE aj.enc lI),oS 7 50 l14 af.enc,oS 7 50 l15 af.enc,oS 7 50 l16 af.enc]⟩⟩
def J8(Γ:bu)(rv:(Option aw)×Int)(x0:ab)(l:List af)(r:Int)(Rj Lw Lx Ly:List af):Prop:=di Γ rv ⟨[.c 127],⟨110,[vP 2 0 6,vP 6 1 10],[oX 6 30 (ab.enc x0),oX 10 268 [lL 1 x0.bG.aV bO,lL 6 x0.bG.cH aH.enc,lL 14 x0.types al.enc,lL 16 x0.ah ag.enc,lL 2 x0.bV aA.enc,lL 2 x0.before aA.enc,.bs 2 3 1,.cB,.mp 3,lI r],oX 3 42 [lO 4 7 Lw af.enc,lO 5 7 Lx af.enc,lO 6 7 Ly af.enc],oM 265 ([]:List (aj×Int)) (mE aj.enc lI),oS 7 50 Lw af.enc,oS 7 50 Lx af.enc,oS 7 50 Ly af.enc]⟩⟩
def Cg(Γ:bu)(rv:(Option aw)×Int)(x0:ab)(l:List af)(r:Int)(Lw Lx Ly:List af)(X0:List Int)(v7:Int):Prop:=di Γ rv ⟨[.c 2036,.l 2036,.b 4,.c 255],⟨110,[vP 2 0 6,vP 6 1 10,vI 78 (az x0.ah),vI 79 v7],[oX 6 30 (ab.enc x0),oX 10 268 [lL 1 x0.bG.aV bO,lL 6 x0.bG.cH aH.enc,lL 14 x0.types al.enc,lL 16 x0.ah ag.enc,lL 2 x0.bV aA.enc,lL 2 x0.before aA.enc,.bs 2 3 1,lO 3 1 X0 ai,.mp 4,lI r],oX 3 42 [lO 5 7 Lw af.enc,lO 6 7 Lx af.enc,lO 7 7 Ly af.enc],oS 1 3 X0 ai,oM 265 ([]:List (aj×Int)) (mE aj.enc lI),oS 7 50 Lw af.enc,oS 7 50 Lx af.enc,oS 7 50 Ly af.enc]⟩⟩
def A3(Γ:bu)(rv:(Option aw)×Int)(x0:ab)(l:List af)(r:Int)(Lw Lx Ly:List af)(l21:List Int):Prop:=di Γ rv ⟨[.c 255],⟨110,[vP 6 0 10],[oX 10 268 [lL 1 x0.bG.aV bO,lL 6 x0.bG.cH aH.enc,lL 14 x0.types al.enc,lL 16 x0.ah ag.enc,lL 2 x0.bV aA.enc,lL 2 x0.before aA.enc,.bs 1 3 1,lO 2 1 l21 ai,.mp 3,lI r],oX 3 42 [lO 4 7 Lw af.enc,lO 5 7 Lx af.enc,lO 6 7 Ly af.enc],oS 1 3 l21 ai,oM 265 ([]:List (aj×Int)) (mE aj.enc lI),oS 7 50 Lw af.enc,oS 7 50 Lx af.enc,oS 7 50 Ly af.enc]⟩⟩
theorem JX(Γ:bu)(rv:(Option aw)×Int){x0 l r}:∀⦃s:Int⦄ ⦃e:(Unit)⊕((Option aw)×Int)⦄,aL (fun s=>ng x0 l r s) s=some e→iD e (fun e=>JW Γ rv x0 l r) (fun e=>e=rv)→LU Γ rv x0 l r s:=by
 refine bl ?_
 intro v z_ h hI hE;simp only[ng,aB,ar,au,av]at h;rcases h with⟨h2,x1,h3,r1,h4,⟨h5,h⟩|⟨h5,h⟩⟩|⟨h2,h⟩
 ·exact gn 16 [1,2,6,27,28,29] [0,1,2] [bT h2,cE af.enc h3,hH (.draw 8 []),cC (Fu h4),nF h5] (hI h)
 ·obtain rfl:=(hE h:_=rv);exact gr 14 [] [bT h2,cE af.enc h3,hH (.draw 8 []),cC (Fu h4),nT h5]
 ·exact gn 5 [1,2,6] [0,1,2] [bF h2] (hE h)
theorem JZ(Γ:bu)(rv:(Option aw)×Int){x0 l r l1 r2}:∀⦃s:Unit⦄ ⦃e:Unit⦄,aL (fun(_:Unit)=>zF x0 l r l1 r2) s=some e→JY Γ rv x0 l r l1 r2→LV Γ rv x0 l r l1 r2:=by
 refine bl ?_
 intro s z_ h hI hE;simp only[zF,aB,ar,au,av]at h;rcases h with⟨dm,x2,fH,r3,gi,h⟩|⟨dm,h⟩
 ·cases h
 ·exact gn 5 [2,6] [0,1,2,3] [bF dm] (hE h)
theorem uU(Γ:bu)(rv:(Option aw)×Int){x0 l r l1 l2 v1 skip}{x:(List Int×Int)⊕(List Int)}(h:pG x0 l r l1 l2 v1 skip=some x)(hI:∀⦃s:List Int×Int⦄,some (.inl s)=some x→Cc Γ rv x0 l r l1 s.1 s.2)(hE:∀⦃e:List Int⦄,some (.inr e)=some x→A0 Γ rv x0 l r l1 e):di Γ rv ⟨[.c 260711,.b 5,.c 16295,.l 2036,.b 4,.c 255],⟨110,[vP 2 0 6,vP 6 1 10,vI 13 skip,vI 78 (az x0.ah),vI 79 v1],[oX 6 30 (ab.enc x0),oX 10 268 [lL 1 x0.bG.aV bO,lL 6 x0.bG.cH aH.enc,lL 14 x0.types al.enc,lL 16 x0.ah ag.enc,lL 2 x0.bV aA.enc,lL 2 x0.before aA.enc,lO 2 1 l1 bk.enc,lO 3 1 l2 ai,.mp 4,lI r],oS 1 42 l1 bk.enc,oS 1 3 l2 ai,oM 265 ([]:List (aj×Int)) (mE aj.enc lI)]⟩⟩:=by
 simp only[pG,aB,ar,au,av]at h;obtain⟨AD,h⟩:=h;exact gn 4 [2,6,78,79] [0,1,2,6,4] [oO (Eq.refl ([skip].map ai).length),aO ai AD] (hI h)
theorem J0(Γ:bu)(rv:(Option aw)×Int){x0 l r l1}:∀⦃s:List Int×Int⦄ ⦃e:List Int⦄,aL (fun s=>zG x0 l r l1 s.1 s.2) s=some e→A0 Γ rv x0 l r l1 e→Cc Γ rv x0 l r l1 s.1 s.2:=by
 refine bl ?_
 rintro⟨l2,v1⟩ z_ h hI hE;simp only[zG,aB,ar,au,av]at h;rcases h with⟨nW,r4,qx,⟨sH,r5,uu,⟨E4,h⟩|⟨E4,h⟩⟩|⟨sH,h⟩⟩|⟨nW,h⟩
 ·exact gn 23 [2,6,13,78,79] [0,1,2,3,4] [bT nW,cC (eB qx),bT sH,cC (iz uu),bT E4] (uU Γ rv h hI hE)
 ·exact gn 23 [2,6,13,78,79] [0,1,2,3,4] [bT nW,cC (eB qx),bT sH,cC (iz uu),bF E4] (uU Γ rv h hI hE)
 ·exact gn 18 [2,6,13,78,79] [0,1,2,3,4] [bT nW,cC (eB qx),bF sH] (uU Γ rv h hI hE)
 ·exact gn 5 [6] [1,2,3,4] [bF nW] (hE h)
theorem J2(Γ:bu)(rv:(Option aw)×Int){x0 l r r6}:∀⦃s:List af×Int⦄ ⦃e:List af⦄,aL (fun s=>nh x0 l r r6 s.1 s.2) s=some e→J1 Γ rv x0 l r r6 e→LW Γ rv x0 l r r6 s.1 s.2:=by
 refine bl ?_
 rintro⟨l4,v2⟩ z_ h hI hE;simp only[nh,aB,ar,au,av]at h;rcases h with⟨L2,x3,L3,r7,L4,⟨Iw,WM,h⟩|⟨Iw,h⟩⟩|⟨L2,h⟩
 ·exact gn 15 [2,6,50,51,52] [0,1,2,3,7] [bT L2,cE af.enc L3,cC (rl L4),hH (.draw 16 [(4,14)]),hH (.pos 0),oO (qG 0 Iw),oO (Eq.refl ([x3].map af.enc).length),aO af.enc WM,hH (.pos 0),oO (qG 0 Iw)] (hI h)
 ·cases h
 ·exact gn 5 [2,6] [0,1,2,3,4] [bF L2] (hE h)
theorem uV(Γ:bu)(rv:(Option aw)×Int){x0 l r l5 l6 v3 SD}{x:(List Int×Int)⊕(List Int)}(h:pH x0 l r l5 l6 v3 SD=some x)(hI:∀⦃s:List Int×Int⦄,some (.inl s)=some x→Cd Γ rv x0 l r l5 s.1 s.2)(hE:∀⦃e:List Int⦄,some (.inr e)=some x→A1 Γ rv x0 l r l5 e):di Γ rv ⟨[.c 260711,.b 5,.c 16295,.l 2036,.b 4,.c 255],⟨110,[vP 2 0 6,vP 6 1 10,vI 13 SD,vI 78 (az x0.ah),vI 79 v3],[oX 6 30 (ab.enc x0),oX 10 268 [lL 1 x0.bG.aV bO,lL 6 x0.bG.cH aH.enc,lL 14 x0.types al.enc,lL 16 x0.ah ag.enc,lL 2 x0.bV aA.enc,lL 2 x0.before aA.enc,.bs 2 1 1,lO 3 1 l6 ai,.mp 4,lI r],oX 1 42 [lO 5 7 l5 af.enc],oS 1 3 l6 ai,oM 265 ([]:List (aj×Int)) (mE aj.enc lI),oS 7 50 l5 af.enc]⟩⟩:=by
 simp only[pH,aB,ar,au,av]at h;obtain⟨h34,h⟩:=h;exact gn 4 [2,6,78,79] [0,1,2,7,4,5] [oO (Eq.refl ([SD].map ai).length),aO ai h34] (hI h)
theorem J4(Γ:bu)(rv:(Option aw)×Int){x0 l r l5}:∀⦃s:List Int×Int⦄ ⦃e:List Int⦄,aL (fun s=>zH x0 l r l5 s.1 s.2) s=some e→A1 Γ rv x0 l r l5 e→Cd Γ rv x0 l r l5 s.1 s.2:=by
 refine bl ?_
 rintro⟨l6,v3⟩ z_ h hI hE;simp only[zH,aB,ar,au,av]at h;rcases h with⟨Y_,r8,Vo,⟨Qz,r9,h32,⟨Za,h⟩|⟨Za,h⟩⟩|⟨Qz,h⟩⟩|⟨Y_,h⟩
 ·exact gn 23 [2,6,13,78,79] [0,1,2,3,4,5] [bT Y_,cC (eB Vo),bT Qz,cC (iz h32),bT Za] (uV Γ rv h hI hE)
 ·exact gn 23 [2,6,13,78,79] [0,1,2,3,4,5] [bT Y_,cC (eB Vo),bT Qz,cC (iz h32),bF Za] (uV Γ rv h hI hE)
 ·exact gn 18 [2,6,13,78,79] [0,1,2,3,4,5] [bT Y_,cC (eB Vo),bF Qz] (uV Γ rv h hI hE)
 ·exact gn 5 [6] [1,2,3,4,5] [bF Y_] (hE h)
theorem J6(Γ:bu)(rv:(Option aw)×Int){x0 l r My}:∀⦃s:List af×List af×Int⦄ ⦃e:List af×List af⦄,aL (fun s=>ni x0 l r My s.1 s.2.1 s.2.2) s=some e→J5 Γ rv x0 l r My e.1 e.2→LX Γ rv x0 l r My s.1 s.2.1 s.2.2:=by
 refine bl ?_
 rintro⟨l8,l9,v4⟩ z_ h hI hE;simp only[ni,aB,ar,au,av]at h;rcases h with⟨YI,x4,h39,G8,h40,⟨h41,h42,h⟩|⟨h41,⟨h43,WN,h⟩|⟨h43,h⟩⟩⟩|⟨YI,h⟩
 ·exact gn 15 [2,6,50,51,52] [0,1,2,3,8,5] [bT YI,cE af.enc h39,cC (rl h40),hH (.draw 16 [(4,14),(5,14)]),hH (.pos 0),oO (qG 0 h41),oO (Eq.refl ([x4].map af.enc).length),aO af.enc h42,hH (.pos 0),oO (qG 0 h41)] (hI h)
 ·exact gn 15 [2,6,50,51,52] [0,1,2,3,4,8] [bT YI,cE af.enc h39,cC (rl h40),hH (.draw 16 [(4,14),(5,14)]),hH (.pos 1),oO (qG 1 h43),oO (Eq.refl ([x4].map af.enc).length),aO af.enc WN,hH (.pos 1),oO (qG 1 h43)] (hI h)
 ·cases h
 ·exact gn 5 [2,6] [0,1,2,3,4,5] [bF YI] (hE h)
theorem uW(Γ:bu)(rv:(Option aw)×Int){x0 l r l10 u4 zR v5 SE}{x:(List Int×Int)⊕(List Int)}(h:pI x0 l r l10 u4 zR v5 SE=some x)(hI:∀⦃s:List Int×Int⦄,some (.inl s)=some x→Ce Γ rv x0 l r l10 u4 s.1 s.2)(hE:∀⦃e:List Int⦄,some (.inr e)=some x→A2 Γ rv x0 l r l10 u4 e):di Γ rv ⟨[.c 260711,.b 5,.c 16295,.l 2036,.b 4,.c 255],⟨110,[vP 2 0 6,vP 6 1 10,vI 13 SE,vI 78 (az x0.ah),vI 79 v5],[oX 6 30 (ab.enc x0),oX 10 268 [lL 1 x0.bG.aV bO,lL 6 x0.bG.cH aH.enc,lL 14 x0.types al.enc,lL 16 x0.ah ag.enc,lL 2 x0.bV aA.enc,lL 2 x0.before aA.enc,.bs 2 2 1,lO 3 1 zR ai,.mp 4,lI r],oX 2 42 [lO 5 7 l10 af.enc,lO 6 7 u4 af.enc],oS 1 3 zR ai,oM 265 ([]:List (aj×Int)) (mE aj.enc lI),oS 7 50 l10 af.enc,oS 7 50 u4 af.enc]⟩⟩:=by
 simp only[pI,aB,ar,au,av]at h;obtain⟨h51,h⟩:=h;exact gn 4 [2,6,78,79] [0,1,2,8,4,5,6] [oO (Eq.refl ([SE].map ai).length),aO ai h51] (hI h)
theorem J7(Γ:bu)(rv:(Option aw)×Int){x0 l r l10 u4}:∀⦃s:List Int×Int⦄ ⦃e:List Int⦄,aL (fun s=>zI x0 l r l10 u4 s.1 s.2) s=some e→A2 Γ rv x0 l r l10 u4 e→Ce Γ rv x0 l r l10 u4 s.1 s.2:=by
 refine bl ?_
 rintro⟨zR,v5⟩ z_ h hI hE;simp only[zI,aB,ar,au,av]at h;rcases h with⟨Tp,r12,XH,⟨Zb,r13,h49,⟨h50,h⟩|⟨h50,h⟩⟩|⟨Zb,h⟩⟩|⟨Tp,h⟩
 ·exact gn 23 [2,6,13,78,79] [0,1,2,3,4,5,6] [bT Tp,cC (eB XH),bT Zb,cC (iz h49),bT h50] (uW Γ rv h hI hE)
 ·exact gn 23 [2,6,13,78,79] [0,1,2,3,4,5,6] [bT Tp,cC (eB XH),bT Zb,cC (iz h49),bF h50] (uW Γ rv h hI hE)
 ·exact gn 18 [2,6,13,78,79] [0,1,2,3,4,5,6] [bT Tp,cC (eB XH),bF Zb] (uW Γ rv h hI hE)
 ·exact gn 5 [6] [1,2,3,4,5,6] [bF Tp] (hE h)
theorem J9(Γ:bu)(rv:(Option aw)×Int){x0 l r Rj}:∀⦃s:List af×List af×List af×Int⦄ ⦃e:List af×List af×List af⦄,aL (fun s=>nj x0 l r Rj s.1 s.2.1 s.2.2.1 s.2.2.2) s=some e→J8 Γ rv x0 l r Rj e.1 e.2.1 e.2.2→LY Γ rv x0 l r Rj s.1 s.2.1 s.2.2.1 s.2.2.2:=by
 refine bl ?_
 rintro⟨l14,l15,l16,v6⟩ z_ h hI hE;simp only[nj,aB,ar,au,av]at h;rcases h with⟨h55,x5,h56,H8,h57,⟨h58,h59,h⟩|⟨h58,⟨h60,h61,h⟩|⟨h60,⟨h62,Vp,h⟩|⟨h62,h⟩⟩⟩⟩|⟨h55,h⟩
 ·exact gn 15 [2,6,50,51,52] [0,1,2,3,9,5,6] [bT h55,cE af.enc h56,cC (rl h57),hH (.draw 16 [(4,14),(5,14),(6,14)]),hH (.pos 0),oO (qG 0 h58),oO (Eq.refl ([x5].map af.enc).length),aO af.enc h59,hH (.pos 0),oO (qG 0 h58)] (hI h)
 ·exact gn 15 [2,6,50,51,52] [0,1,2,3,4,9,6] [bT h55,cE af.enc h56,cC (rl h57),hH (.draw 16 [(4,14),(5,14),(6,14)]),hH (.pos 1),oO (qG 1 h60),oO (Eq.refl ([x5].map af.enc).length),aO af.enc h61,hH (.pos 1),oO (qG 1 h60)] (hI h)
 ·exact gn 15 [2,6,50,51,52] [0,1,2,3,4,5,9] [bT h55,cE af.enc h56,cC (rl h57),hH (.draw 16 [(4,14),(5,14),(6,14)]),hH (.pos 2),oO (qG 2 h62),oO (Eq.refl ([x5].map af.enc).length),aO af.enc Vp,hH (.pos 2),oO (qG 2 h62)] (hI h)
 ·cases h
 ·exact gn 5 [2,6] [0,1,2,3,4,5,6] [bF h55] (hE h)
theorem uX(Γ:bu)(rv:(Option aw)×Int){x0 l r Lw Lx Ly X0 v7 SF}{x:(List Int×Int)⊕(List Int)}(h:pJ x0 l r Lw Lx Ly X0 v7 SF=some x)(hI:∀⦃s:List Int×Int⦄,some (.inl s)=some x→Cg Γ rv x0 l r Lw Lx Ly s.1 s.2)(hE:∀⦃e:List Int⦄,some (.inr e)=some x→A3 Γ rv x0 l r Lw Lx Ly e):di Γ rv ⟨[.c 260711,.b 5,.c 16295,.l 2036,.b 4,.c 255],⟨110,[vP 2 0 6,vP 6 1 10,vI 13 SF,vI 78 (az x0.ah),vI 79 v7],[oX 6 30 (ab.enc x0),oX 10 268 [lL 1 x0.bG.aV bO,lL 6 x0.bG.cH aH.enc,lL 14 x0.types al.enc,lL 16 x0.ah ag.enc,lL 2 x0.bV aA.enc,lL 2 x0.before aA.enc,.bs 2 3 1,lO 3 1 X0 ai,.mp 4,lI r],oX 3 42 [lO 5 7 Lw af.enc,lO 6 7 Lx af.enc,lO 7 7 Ly af.enc],oS 1 3 X0 ai,oM 265 ([]:List (aj×Int)) (mE aj.enc lI),oS 7 50 Lw af.enc,oS 7 50 Lx af.enc,oS 7 50 Ly af.enc]⟩⟩:=by
 simp only[pJ,aB,ar,au,av]at h;obtain⟨h70,h⟩:=h;exact gn 4 [2,6,78,79] [0,1,2,9,4,5,6,7] [oO (Eq.refl ([SF].map ai).length),aO ai h70] (hI h)
theorem J_(Γ:bu)(rv:(Option aw)×Int){x0 l r Lw Lx Ly}:∀⦃s:List Int×Int⦄ ⦃e:List Int⦄,aL (fun s=>zJ x0 l r Lw Lx Ly s.1 s.2) s=some e→A3 Γ rv x0 l r Lw Lx Ly e→Cg Γ rv x0 l r Lw Lx Ly s.1 s.2:=by
 refine bl ?_
 rintro⟨X0,v7⟩ z_ h hI hE;simp only[zJ,aB,ar,au,av]at h;rcases h with⟨Zc,r16,Zd,⟨Tq,r17,h68,⟨h69,h⟩|⟨h69,h⟩⟩|⟨Tq,h⟩⟩|⟨Zc,h⟩
 ·exact gn 23 [2,6,13,78,79] [0,1,2,3,4,5,6,7] [bT Zc,cC (eB Zd),bT Tq,cC (iz h68),bT h69] (uX Γ rv h hI hE)
 ·exact gn 23 [2,6,13,78,79] [0,1,2,3,4,5,6,7] [bT Zc,cC (eB Zd),bT Tq,cC (iz h68),bF h69] (uX Γ rv h hI hE)
 ·exact gn 18 [2,6,13,78,79] [0,1,2,3,4,5,6,7] [bT Zc,cC (eB Zd),bF Tq] (uX Γ rv h hI hE)
 ·exact gn 5 [6] [1,2,3,4,5,6,7] [bF Zc] (hE h)
theorem Fq{x0 l}{rv:(Option aw)×Int}(h:rY x0 l=some rv):dv prog 116 [.agg (ab.enc x0),.one (lL 7 l af.enc)] [] (match rv.1 with|some c_=>.jx [.one (.op 0 10 0 0),.one (lI rv.2)]|none=>.jx [.one (.Mt),.one (lI rv.2)]) (match rv.1 with|some c_=>[oX 10 268 [lL 1 c_.x.bG.aV bO,lL 6 c_.x.bG.cH aH.enc,lL 14 c_.x.types al.enc,lL 16 c_.x.ah ag.enc,lL 2 c_.x.bV aA.enc,lL 2 c_.x.before aA.enc,lL 1 c_.dj bk.enc,lL 1 c_.ee ai,.mp 1,lI c_.ah],oM 265 c_.eW (mE aj.enc lI)]|none=>[]):=by
 refine aW func116 fun Γ=>?_
 simp only[rY,aB,ar,au,av]at h;rcases h with⟨h0,h⟩|⟨h0,r,h1,e0,h6,h⟩
 ·cases h;exact gr 8 [] [nL af.enc l,bT h0]
 ·refine gn 14 [1,2,6,27,28,29] [0,2,1] [nL af.enc l,bF h0,hH (.draw 7 []),cC (Ef h1),nL af.enc l] (JX Γ rv h6 ?_);rcases e0 with e0|r18
  ·simp only[dw,aB,ar,au,av]at h;rcases h with⟨h7,l1,h8,r2,h9,e1,iG,h⟩|⟨h7,⟨G0,r6,Nh,l5,Y9,h⟩|⟨G0,⟨h36,My,h37,⟨l10,u4⟩,h45,h⟩|⟨h36,⟨h53,Rj,h54,⟨Lw,Lx,Ly⟩,h64,h⟩|⟨h53,h⟩⟩⟩⟩
   ·refine gn 7 [2,6,50,51,52] [0,1,3,2] [nL ag.enc x0.ah,hH (.cells [lL 7 ([]:List af) af.enc]),hH (.rows (l1.map bk.enc)),oO (WZ h8),oO (X9 h8),oO (W0 h8),oO (W4 h8),oO (W5 bk.enc h8),cC (rJ h9),nL af.enc r2] (JZ Γ rv iG ?_);obtain⟨l3,Ed,h⟩:=h;refine gn 5 [2,6,78,79] [0,1,2,4,3] [nL ag.enc x0.ah,hW 3,hH (.tV 1 7 1 3)] (J0 Γ rv Ed ?_);cases h;exact gr 2 [0,3] [hW 5,hH (.jn 1),hH (.jn 2),eL l1 bk.enc,eL l3 ai]
   ·refine gn 7 [2,6,50,51,52] [0,1,3,2,4] [nL ag.enc x0.ah,rp 2 (oO (qG 1 G0)),oO (rJ Nh),hH (.num 1),hH (.call [] (one (lL 7 r6 af.enc)) []),nL af.enc r6,hW 3,hH (.tV 3 0 7 50)] (J2 Γ rv Y9 ?_);obtain⟨l7,h35,h⟩:=h;refine gn 5 [2,6,78,79] [0,1,2,5,3,4] [nL ag.enc x0.ah,hW 3,hH (.tV 1 7 1 3)] (J4 Γ rv h35 ?_);cases h;exact gr 2 [0,3] [hW 5,hH (.jn 4),hH (.Qcd 1),hH (.jn 2),eL l5 af.enc,eL l7 ai]
   ·refine gn 7 [2,6,50,51,52] [0,1,3,2,4,5] [nL ag.enc x0.ah,rp 2 (oO (qG 2 h36)),oO (rJ h37),hH (.num 2),hH (.call [] (one (lL 7 My af.enc)) []),nL af.enc My,hW 3,hH (.tV 3 0 7 50),hH (.tV 3 1 7 50)] (J6 Γ rv h45 ?_);obtain⟨l13,h52,h⟩:=h;refine gn 5 [2,6,78,79] [0,1,2,6,3,4,5] [nL ag.enc x0.ah,hW 3,hH (.tV 1 7 1 3)] (J7 Γ rv h52 ?_);cases h;exact gr 2 [0,3] [hW 5,hH (.jn 4),hH (.jn 5),hH (.Qcd 1),hH (.jn 2),eL l10 af.enc,eL u4 af.enc,eL l13 ai]
   ·refine gn 7 [2,6,50,51,52] [0,1,3,2,4,5,6] [nL ag.enc x0.ah,rp 2 (oO (qG 3 h53)),oO (rJ h54),hH (.num 3),hH (.call [] (one (lL 7 Rj af.enc)) []),nL af.enc Rj,hW 3,hH (.tV 3 0 7 50),hH (.tV 3 1 7 50),hH (.tV 3 2 7 50)] (J9 Γ rv h64 ?_);obtain⟨l21,h71,h⟩:=h;refine gn 5 [2,6,78,79] [0,1,2,7,3,4,5,6] [nL ag.enc x0.ah,hW 3,hH (.tV 1 7 1 3)] (J_ Γ rv h71 ?_);cases h;exact gr 2 [0,3] [hW 5,hH (.jn 4),hH (.jn 5),hH (.jn 6),hH (.Qcd 1),hH (.jn 2),eL Lw af.enc,eL Lx af.enc,eL Ly af.enc,eL l21 ai]
   ·cases h
  ·exact oK h
theorem uY{x0 l}{rv:(Option aw)×Int}{c_:aw}(h:rY x0 l=some rv)(hc:rv.1=some c_):dv prog 116 [.agg (ab.enc x0),.one (lL 7 l af.enc)] [] (.jx [.one (.op 0 10 0 0),.one (lI rv.2)]) [oX 10 268 [lL 1 c_.x.bG.aV bO,lL 6 c_.x.bG.cH aH.enc,lL 14 c_.x.types al.enc,lL 16 c_.x.ah ag.enc,lL 2 c_.x.bV aA.enc,lL 2 c_.x.before aA.enc,lL 1 c_.dj bk.enc,lL 1 c_.ee ai,.mp 1,lI c_.ah],oM 265 c_.eW (mE aj.enc lI)]:=by
 have h2:=Fq h;rw[hc]at h2;exact h2
theorem Ka{x0 l}{rv:(Option aw)×Int}(h:rY x0 l=some rv)(hc:rv.1=none):dv prog 116 [.agg (ab.enc x0),.one (lL 7 l af.enc)] [] (.jx [.one (.Mt),.one (lI rv.2)]) []:=by
 have h2:=Fq h;rw[hc]at h2;exact h2
def uZ(Γ:bu)(rv:aj×aw)(cf:Cf):Prop:=Go prog f117 [0,1] Γ (gG [lI rv.1.eK,lI rv.1.eV,lI rv.1.dh.x0,lI rv.1.dh.x1,lI rv.1.dh.x2,lI rv.1.dh.x3,lI rv.1.dh.x4,lI rv.1.dh.x5]) [oX 10 268 [lL 1 rv.2.x.bG.aV bO,lL 6 rv.2.x.bG.cH aH.enc,lL 14 rv.2.x.types al.enc,lL 16 rv.2.x.ah ag.enc,lL 2 rv.2.x.bV aA.enc,lL 2 rv.2.x.before aA.enc,lL 1 rv.2.dj bk.enc,lL 1 rv.2.ee ai,.mp 1,lI rv.2.ah],oM 265 rv.2.eW (mE aj.enc lI)] cf
def AB(Γ:bu)(rv:aj×aw)(c:aw)(s0:aj)(eK:Int):Prop:=uZ Γ rv ⟨[.c 24,.l 24,.b 0,.c 7],⟨36,[vP 0 0 10,vP 3 2 8,vP 4 3 8],[oX 10 268 [lL 1 c.x.bG.aV bO,lL 6 c.x.bG.cH aH.enc,lL 14 c.x.types al.enc,lL 16 c.x.ah ag.enc,lL 2 c.x.bV aA.enc,lL 2 c.x.before aA.enc,lL 1 c.dj bk.enc,lL 1 c.ee ai,.mp 1,lI c.ah],oM 265 c.eW (mE aj.enc lI),oX 8 202 [lI eK,lI s0.eV,lI s0.dh.x0,lI s0.dh.x1,lI s0.dh.x2,lI s0.dh.x3,lI s0.dh.x4,lI s0.dh.x5],oX 8 202 [lI 0,lI 0,lI 0,lI 0,lI 0,lI 0,lI 0,lI 0]]⟩⟩
def zK(Γ:bu)(rv:aj×aw)(c:aw)(s0:aj)(Qef:Int):Prop:=uZ Γ rv ⟨[.c 7],⟨36,[vP 3 2 8,vP 4 3 8],[oX 10 268 [lL 1 c.x.bG.aV bO,lL 6 c.x.bG.cH aH.enc,lL 14 c.x.types al.enc,lL 16 c.x.ah ag.enc,lL 2 c.x.bV aA.enc,lL 2 c.x.before aA.enc,lL 1 c.dj bk.enc,lL 1 c.ee ai,.mp 1,lI c.ah],oM 265 c.eW (mE aj.enc lI),oX 8 202 [lI Qef,lI s0.eV,lI s0.dh.x0,lI s0.dh.x1,lI s0.dh.x2,lI s0.dh.x3,lI s0.dh.x4,lI s0.dh.x5],oX 8 202 [lI 0,lI 0,lI 0,lI 0,lI 0,lI 0,lI 0,lI 0]]⟩⟩
theorem zM(Γ:bu)(rv:aj×aw){c s0}:∀⦃s:Int⦄ ⦃e:Int⦄,aL (fun s=>iK c s0 s) s=some e→zK Γ rv c s0 e→AB Γ rv c s0 s:=by
 refine bl ?_
 intro eK z_ h hI hE;simp only[iK,aB,ar,au,av]at h;rcases h with⟨h0,r,h1,⟨h2,r1,h3,⟨h4,h⟩|⟨h4,h⟩⟩|⟨h2,h⟩⟩|⟨h0,h⟩
 ·exact gn 9 [0,3,4] [0,1,2,3] [hH (.draw 26 []),nL ag.enc c.x.ah,rp 7 (bT h0),cC (eR h1),bT h0,bT h0,rp 5 (nF h2),cC (eR h3),bT h0,nF h2,bT h0,bT h4] (hI h)
 ·exact gn 5 [3,4] [0,1,2,3] [hH (.draw 26 []),nL ag.enc c.x.ah,rp 7 (bT h0),cC (eR h1),bT h0,bT h0,rp 5 (nF h2),cC (eR h3),bT h0,nF h2,bT h0,bF h4] (hE h)
 ·exact gn 9 [0,3,4] [0,1,2,3] [hH (.draw 26 []),nL ag.enc c.x.ah,rp 7 (bT h0),cC (eR h1),bT h0,bT h0,rp 5 (nT h2),bT h0,nT h2,bT h0,tT] (hI h)
 ·exact gn 5 [3,4] [0,1,2,3] [hH (.draw 26 []),nL ag.enc c.x.ah,rp 9 (bF h0),rp 5 kF,bF h0,bF h0,fF] (hE h)
theorem dS{c s0}{rv:aj×aw}(h:cW c s0=some rv):dv prog 117 [.one (.op 0 10 0 0),.agg (aj.enc s0)] [bX 10 268 [lL 1 c.x.bG.aV bO,lL 6 c.x.bG.cH aH.enc,lL 14 c.x.types al.enc,lL 16 c.x.ah ag.enc,lL 2 c.x.bV aA.enc,lL 2 c.x.before aA.enc,lL 1 c.dj bk.enc,lL 1 c.ee ai,.mp 1,lI c.ah],bM 265 c.eW (mE aj.enc lI)] (gG [lI rv.1.eK,lI rv.1.eV,lI rv.1.dh.x0,lI rv.1.dh.x1,lI rv.1.dh.x2,lI rv.1.dh.x3,lI rv.1.dh.x4,lI rv.1.dh.x5]) [oX 10 268 [lL 1 rv.2.x.bG.aV bO,lL 6 rv.2.x.bG.cH aH.enc,lL 14 rv.2.x.types al.enc,lL 16 rv.2.x.ah ag.enc,lL 2 rv.2.x.bV aA.enc,lL 2 rv.2.x.before aA.enc,lL 1 rv.2.dj bk.enc,lL 1 rv.2.ee ai,.mp 1,lI rv.2.ah],oM 265 rv.2.eW (mE aj.enc lI)]:=by
 refine aW func117 fun Γ=>?_
 simp only[cW,aB,ar,au,av]at h;obtain⟨Qef,h5,h⟩:=h;refine gn 5 [0,3,4] [0,1,2,3] [] (zM Γ rv h5 ?_);cases h;exact gr 2 [0,1] []
theorem ke{c s0 yw}{rv:aj×Bool×aw}(h:ku c s0 yw=some rv):dv prog 188 [.one (.op 0 10 0 0),.agg (aj.enc s0),.agg (af.enc yw)] [bX 10 268 [lL 1 c.x.bG.aV bO,lL 6 c.x.bG.cH aH.enc,lL 14 c.x.types al.enc,lL 16 c.x.ah ag.enc,lL 2 c.x.bV aA.enc,lL 2 c.x.before aA.enc,lL 1 c.dj bk.enc,lL 1 c.ee ai,.mp 1,lI c.ah],bM 265 c.eW (mE aj.enc lI)] (.jx [.agg [lI rv.1.eK,lI rv.1.eV,lI rv.1.dh.x0,lI rv.1.dh.x1,lI rv.1.dh.x2,lI rv.1.dh.x3,lI rv.1.dh.x4,lI rv.1.dh.x5],.one (.bool rv.2.1)]) [oX 10 268 [lL 1 rv.2.2.x.bG.aV bO,lL 6 rv.2.2.x.bG.cH aH.enc,lL 14 rv.2.2.x.types al.enc,lL 16 rv.2.2.x.ah ag.enc,lL 2 rv.2.2.x.bV aA.enc,lL 2 rv.2.2.x.before aA.enc,lL 1 rv.2.2.dj bk.enc,lL 1 rv.2.2.ee ai,.mp 1,lI rv.2.2.ah],oM 265 rv.2.2.eW (mE aj.enc lI)]:=by
 refine aW func188 fun Γ=>?_
 simp only[ku,aB,ar,au,av]at h;rcases h with⟨h0,h⟩|⟨h0,⟨h1,x0,h2,⟨h3,h⟩|⟨h3,r,h4,h⟩⟩|⟨h1,⟨h5,x1,h6,⟨h7,h⟩|⟨h7,r1,h8,h⟩⟩|⟨h5,⟨h9,x2,dm,⟨fH,h⟩|⟨fH,r2,gi,h⟩⟩|⟨h9,⟨iG,x3,nW,⟨qx,h⟩|⟨qx,r3,sH,h⟩⟩|⟨iG,⟨uu,x4,E4,⟨AD,h⟩|⟨AD,r4,Ed,h⟩⟩|⟨uu,⟨G0,x5,Nh,⟨L2,h⟩|⟨L2,r5,L3,h⟩⟩|⟨G0,h⟩⟩⟩⟩⟩⟩⟩
 ·cases h;exact gr 8 [0,1] [hH (.draw 24 []),rp 17 (bT h0),tT]
 ·cases h;exact gr 8 [0,1] [hH (.draw 24 []),rp 4 (bF h0),hH (.pos 0),oO (qG 0 h1),oO (lN 0 6),rp 9 (bF h0),cE al.enc h2,rp 4 (bF h0),bT h3]
 ·cases h;exact gr 13 [0,1] [hH (.draw 24 []),rp 4 (bF h0),hH (.pos 0),oO (qG 0 h1),oO (lN 0 6),rp 9 (bF h0),cE al.enc h2,rp 4 (bF h0),bF h3,rp 2 (hH (.pos 0)),oO (qG 0 h1),oO (lN 0 6),oO (qG 0 h1),oO (lN 0 6),cI [0,1] (dS h4)]
 ·cases h;exact gr 8 [0,1] [hH (.draw 24 []),rp 4 (bF h0),hH (.pos 1),oO (qG 1 h5),oO (lN 1 6),rp 9 (bF h0),cE al.enc h6,rp 4 (bF h0),bT h7]
 ·cases h;exact gr 13 [0,1] [hH (.draw 24 []),rp 4 (bF h0),hH (.pos 1),oO (qG 1 h5),oO (lN 1 6),rp 9 (bF h0),cE al.enc h6,rp 4 (bF h0),bF h7,rp 2 (hH (.pos 1)),oO (qG 1 h5),oO (lN 1 6),oO (qG 1 h5),oO (lN 1 6),cI [0,1] (dS h8)]
 ·cases h;exact gr 8 [0,1] [hH (.draw 24 []),rp 4 (bF h0),hH (.pos 2),oO (qG 2 h9),oO (lN 2 6),rp 9 (bF h0),cE al.enc dm,rp 4 (bF h0),bT fH]
 ·cases h;exact gr 13 [0,1] [hH (.draw 24 []),rp 4 (bF h0),hH (.pos 2),oO (qG 2 h9),oO (lN 2 6),rp 9 (bF h0),cE al.enc dm,rp 4 (bF h0),bF fH,rp 2 (hH (.pos 2)),oO (qG 2 h9),oO (lN 2 6),oO (qG 2 h9),oO (lN 2 6),cI [0,1] (dS gi)]
 ·cases h;exact gr 8 [0,1] [hH (.draw 24 []),rp 4 (bF h0),hH (.pos 3),oO (qG 3 iG),oO (lN 3 6),rp 9 (bF h0),cE al.enc nW,rp 4 (bF h0),bT qx]
 ·cases h;exact gr 13 [0,1] [hH (.draw 24 []),rp 4 (bF h0),hH (.pos 3),oO (qG 3 iG),oO (lN 3 6),rp 9 (bF h0),cE al.enc nW,rp 4 (bF h0),bF qx,rp 2 (hH (.pos 3)),oO (qG 3 iG),oO (lN 3 6),oO (qG 3 iG),oO (lN 3 6),cI [0,1] (dS sH)]
 ·cases h;exact gr 8 [0,1] [hH (.draw 24 []),rp 4 (bF h0),hH (.pos 4),oO (qG 4 uu),oO (lN 4 6),rp 9 (bF h0),cE al.enc E4,rp 4 (bF h0),bT AD]
 ·cases h;exact gr 13 [0,1] [hH (.draw 24 []),rp 4 (bF h0),hH (.pos 4),oO (qG 4 uu),oO (lN 4 6),rp 9 (bF h0),cE al.enc E4,rp 4 (bF h0),bF AD,rp 2 (hH (.pos 4)),oO (qG 4 uu),oO (lN 4 6),oO (qG 4 uu),oO (lN 4 6),cI [0,1] (dS Ed)]
 ·cases h;exact gr 8 [0,1] [hH (.draw 24 []),rp 4 (bF h0),hH (.pos 5),oO (qG 5 G0),oO (lN 5 6),rp 9 (bF h0),cE al.enc Nh,rp 4 (bF h0),bT L2]
 ·cases h;exact gr 13 [0,1] [hH (.draw 24 []),rp 4 (bF h0),hH (.pos 5),oO (qG 5 G0),oO (lN 5 6),rp 9 (bF h0),cE al.enc Nh,rp 4 (bF h0),bF L2,rp 2 (hH (.pos 5)),oO (qG 5 G0),oO (lN 5 6),oO (qG 5 G0),oO (lN 5 6),cI [0,1] (dS L3)]
 ·cases h
theorem tC{c s0}{rv:aj×aw}(h:ig c s0=some rv):dv prog 189 [.one (.op 0 10 0 0),.agg (aj.enc s0)] [bX 10 268 [lL 1 c.x.bG.aV bO,lL 6 c.x.bG.cH aH.enc,lL 14 c.x.types al.enc,lL 16 c.x.ah ag.enc,lL 2 c.x.bV aA.enc,lL 2 c.x.before aA.enc,lL 1 c.dj bk.enc,lL 1 c.ee ai,.mp 1,lI c.ah],bM 265 c.eW (mE aj.enc lI)] (gG [lI rv.1.eK,lI rv.1.eV,lI rv.1.dh.x0,lI rv.1.dh.x1,lI rv.1.dh.x2,lI rv.1.dh.x3,lI rv.1.dh.x4,lI rv.1.dh.x5]) [oX 10 268 [lL 1 rv.2.x.bG.aV bO,lL 6 rv.2.x.bG.cH aH.enc,lL 14 rv.2.x.types al.enc,lL 16 rv.2.x.ah ag.enc,lL 2 rv.2.x.bV aA.enc,lL 2 rv.2.x.before aA.enc,lL 1 rv.2.dj bk.enc,lL 1 rv.2.ee ai,.mp 1,lI rv.2.ah],oM 265 rv.2.eW (mE aj.enc lI)]:=by
 refine aW func189 fun Γ=>?_
 simp only[ig,aB,ar,au,av]at h;obtain⟨r,h0,h⟩:=h;cases h;exact gr 6 [0,1] [cI [0,1] (dS h0)]
theorem tB{part bY c}{rv:Int}(h:ib part bY c=some rv):dv prog 187 [.one (lI part),.one (lI bY),.one (.op 0 1 0 0)] [bX 1 3 [lI c]] (.jx []) [oX 1 3 [lI rv]]:=by
 refine aW func187 fun Γ=>?_
 simp only[ib,aB,ar,au,av]at h;rcases h with⟨h0,h⟩|⟨h0,h⟩
 ·cases h;exact gr 4 [0] [rp 11 hP,rp 2 (oI ((cD bY 0)=true)),rp 4 (oI (((cD bY 0)=true)∧(bh c 0)=false)),oI ((cD bY 0)=true),oI (((cD bY 0)=true)∧(bh c 0)=false),oR True ((cD bY 0)=true),bT h0]
 ·obtain rfl:=oK h;exact gr 4 [0] [rp 11 hP,rp 2 (oI ((cD bY 0)=true)),rp 4 (oI (((cD bY 0)=true)∧(bh c 0)=false)),oI ((cD bY 0)=true),oI (((cD bY 0)=true)∧(bh c 0)=false),oR True ((cD bY 0)=true),bF h0]
def ry(Γ:bu)(rv:Int×aw)(cf:Cf):Prop:=Go prog f118 [0,1] Γ (one (lI rv.1)) [oX 10 268 [lL 1 rv.2.x.bG.aV bO,lL 6 rv.2.x.bG.cH aH.enc,lL 14 rv.2.x.types al.enc,lL 16 rv.2.x.ah ag.enc,lL 2 rv.2.x.bV aA.enc,lL 2 rv.2.x.before aA.enc,lL 1 rv.2.dj bk.enc,lL 1 rv.2.ee ai,.mp 1,lI rv.2.ah],oM 265 rv.2.eW (mE aj.enc lI)] cf
def Bx(Γ:bu)(rv:Int×aw)(self:aw→aj→Option (Int×aw))(c:aw)(s0:aj)(x0:List af)(l:List (aj×Int))(x1:ab)(dj:List (List af))(ee:List Int)(ah q x2 v:Int):Prop:=ry Γ rv ⟨[.c 1012,.l 1012,.b 0,.c 127],⟨89,[vP 0 0 10,vP 3 2 8,vP 7 3 1,(8,one (.fn (.func 187) [.op 3 1 0 0])),vL 42 7 x0 af.enc,vI 43 (az x0),vI 44 v],[oX 10 268 [lL 1 x1.bG.aV bO,lL 6 x1.bG.cH aH.enc,lL 14 x1.types al.enc,lL 16 x1.ah ag.enc,lL 2 x1.bV aA.enc,lL 2 x1.before aA.enc,lL 1 dj bk.enc,lL 1 ee ai,.mp 1,lI ah],oM 265 l (mE aj.enc lI),oX 8 202 [lI s0.eK,lI s0.eV,lI s0.dh.x0,lI q,lI s0.dh.x2,lI s0.dh.x3,lI s0.dh.x4,lI s0.dh.x5],oX 1 3 [lI x2]]⟩⟩
def Az(Γ:bu)(rv:Int×aw)(self:aw→aj→Option (Int×aw))(c:aw)(s0:aj)(x0:List af)(l1:List (aj×Int))(x4:ab)(u0:List (List af))(yH:List Int)(wq q1 q2 q3 x5:Int):Prop:=ry Γ rv ⟨[.c 127],⟨89,[vP 0 0 10,vP 3 2 8,vP 7 3 1,(8,one (.fn (.func 187) [.op 3 1 0 0]))],[oX 10 268 [lL 1 x4.bG.aV bO,lL 6 x4.bG.cH aH.enc,lL 14 x4.types al.enc,lL 16 x4.ah ag.enc,lL 2 x4.bV aA.enc,lL 2 x4.before aA.enc,lL 1 u0 bk.enc,lL 1 yH ai,.mp 1,lI wq],oM 265 l1 (mE aj.enc lI),oX 8 202 [lI s0.eK,lI s0.eV,lI s0.dh.x0,lI q1,lI q2,lI s0.dh.x3,lI q3,lI s0.dh.x5],oX 1 3 [lI x5]]⟩⟩
theorem AA(Γ:bu)(rv:Int×aw){self:aw→aj→Option (Int×aw)}(w5:∀{c:aw} {s0:aj} {rv:Int×aw},self c s0=some rv→dv prog 118 [.one (.op 0 10 0 0),.agg (aj.enc s0)] [bX 10 268 [lL 1 c.x.bG.aV bO,lL 6 c.x.bG.cH aH.enc,lL 14 c.x.types al.enc,lL 16 c.x.ah ag.enc,lL 2 c.x.bV aA.enc,lL 2 c.x.before aA.enc,lL 1 c.dj bk.enc,lL 1 c.ee ai,.mp 1,lI c.ah],bM 265 c.eW (mE aj.enc lI)] (one (lI rv.1)) [oX 10 268 [lL 1 rv.2.x.bG.aV bO,lL 6 rv.2.x.bG.cH aH.enc,lL 14 rv.2.x.types al.enc,lL 16 rv.2.x.ah ag.enc,lL 2 rv.2.x.bV aA.enc,lL 2 rv.2.x.before aA.enc,lL 1 rv.2.dj bk.enc,lL 1 rv.2.ee ai,.mp 1,lI rv.2.ah],oM 265 rv.2.eW (mE aj.enc lI)]){c s0 x0}:∀⦃s:List (aj×Int)×ab×List (List af)×List Int×Int×Int×Int×Int⦄ ⦃e:List (aj×Int)×ab×List (List af)×List Int×Int×Int×Int×Int×Int⦄,aL (fun s=>fw self c s0 x0 s.1 s.2.1 s.2.2.1 s.2.2.2.1 s.2.2.2.2.1 s.2.2.2.2.2.1 s.2.2.2.2.2.2.1 s.2.2.2.2.2.2.2) s=some e→Az Γ rv self c s0 x0 e.1 e.2.1 e.2.2.1 e.2.2.2.1 e.2.2.2.2.1 e.2.2.2.2.2.1 e.2.2.2.2.2.2.1 e.2.2.2.2.2.2.2.1 e.2.2.2.2.2.2.2.2→Bx Γ rv self c s0 x0 s.1 s.2.1 s.2.2.1 s.2.2.2.1 s.2.2.2.2.1 s.2.2.2.2.2.1 s.2.2.2.2.2.2.1 s.2.2.2.2.2.2.2:=by
 refine bl ?_
 rintro⟨l,x1,dj,ee,ah,q,x2,v⟩ z_ h hI hE;simp only[fw,aB,ar,au,av]at h;rcases h with⟨h3,x3,h4,r,h5,⟨h6,r1,h7,r2,h8,h⟩|⟨h6,h⟩⟩|⟨h3,h⟩
 ·exact gn 18 [0,3,7,8,42,43,44] [0,1,2,3] [bT h3,cE af.enc h4,cI [0,1] (ke h5),bT h6,hH (.draw 7 [(0,5),(1,5),(3,6)]),cI [0,1] (w5 h7),cI [3] (tB h8)] (hI h)
 ·exact gn 18 [0,3,7,8,42,43,44] [0,1,2,3] [bT h3,cE af.enc h4,cI [0,1] (ke h5),bF h6] (hI h)
 ·exact gn 5 [0,3,7,8] [0,1,2,3] [bF h3] (hE h)
theorem sY(Γ:bu)(rv:Int×aw){self:aw→aj→Option (Int×aw)}(w5:∀{c:aw} {s0:aj} {rv:Int×aw},self c s0=some rv→dv prog 118 [.one (.op 0 10 0 0),.agg (aj.enc s0)] [bX 10 268 [lL 1 c.x.bG.aV bO,lL 6 c.x.bG.cH aH.enc,lL 14 c.x.types al.enc,lL 16 c.x.ah ag.enc,lL 2 c.x.bV aA.enc,lL 2 c.x.before aA.enc,lL 1 c.dj bk.enc,lL 1 c.ee ai,.mp 1,lI c.ah],bM 265 c.eW (mE aj.enc lI)] (one (lI rv.1)) [oX 10 268 [lL 1 rv.2.x.bG.aV bO,lL 6 rv.2.x.bG.cH aH.enc,lL 14 rv.2.x.types al.enc,lL 16 rv.2.x.ah ag.enc,lL 2 rv.2.x.bV aA.enc,lL 2 rv.2.x.before aA.enc,lL 1 rv.2.dj bk.enc,lL 1 rv.2.ee ai,.mp 1,lI rv.2.ah],oM 265 rv.2.eW (mE aj.enc lI)]){c s0 x0 q1 q2 q3 x5 l2 x7 xG BR xK x8}(h:gE self c s0 x0 q1 q2 q3 x5 l2 x7 xG BR xK x8=some rv):ry Γ rv ⟨[.c 255],⟨89,[vP 0 0 10,vP 3 2 8,vP 7 3 1],[oX 10 268 [lL 1 x7.bG.aV bO,lL 6 x7.bG.cH aH.enc,lL 14 x7.types al.enc,lL 16 x7.ah ag.enc,lL 2 x7.bV aA.enc,lL 2 x7.before aA.enc,lL 1 xG bk.enc,lL 1 BR ai,.mp 1,lI xK],oM 265 l2 (mE aj.enc lI),oX 8 202 [lI s0.eK,lI s0.eV,lI s0.dh.x0,lI q1,lI q2,lI s0.dh.x3,lI q3,lI s0.dh.x5],oX 1 3 [lI x8]]⟩⟩:=by
 simp only[gE,aB,ar,au,av]at h;cases h;exact gr 4 [0,1] [hH (.draw 7 [(1,6)]),mU aj.kq lI l2 (aj.mk s0.eK s0.eV (uL.mk s0.dh.x0 q1 q2 s0.dh.x3 q3 s0.dh.x5)) x8]
theorem Bw{self:aw→aj→Option (Int×aw)}(w5:∀{c:aw} {s0:aj} {rv:Int×aw},self c s0=some rv→dv prog 118 [.one (.op 0 10 0 0),.agg (aj.enc s0)] [bX 10 268 [lL 1 c.x.bG.aV bO,lL 6 c.x.bG.cH aH.enc,lL 14 c.x.types al.enc,lL 16 c.x.ah ag.enc,lL 2 c.x.bV aA.enc,lL 2 c.x.before aA.enc,lL 1 c.dj bk.enc,lL 1 c.ee ai,.mp 1,lI c.ah],bM 265 c.eW (mE aj.enc lI)] (one (lI rv.1)) [oX 10 268 [lL 1 rv.2.x.bG.aV bO,lL 6 rv.2.x.bG.cH aH.enc,lL 14 rv.2.x.types al.enc,lL 16 rv.2.x.ah ag.enc,lL 2 rv.2.x.bV aA.enc,lL 2 rv.2.x.before aA.enc,lL 1 rv.2.dj bk.enc,lL 1 rv.2.ee ai,.mp 1,lI rv.2.ah],oM 265 rv.2.eW (mE aj.enc lI)]){c s0}{rv:Int×aw}(h:kb self c s0=some rv):dv prog 118 [.one (.op 0 10 0 0),.agg (aj.enc s0)] [bX 10 268 [lL 1 c.x.bG.aV bO,lL 6 c.x.bG.cH aH.enc,lL 14 c.x.types al.enc,lL 16 c.x.ah ag.enc,lL 2 c.x.bV aA.enc,lL 2 c.x.before aA.enc,lL 1 c.dj bk.enc,lL 1 c.ee ai,.mp 1,lI c.ah],bM 265 c.eW (mE aj.enc lI)] (one (lI rv.1)) [oX 10 268 [lL 1 rv.2.x.bG.aV bO,lL 6 rv.2.x.bG.cH aH.enc,lL 14 rv.2.x.types al.enc,lL 16 rv.2.x.ah ag.enc,lL 2 rv.2.x.bV aA.enc,lL 2 rv.2.x.before aA.enc,lL 1 rv.2.dj bk.enc,lL 1 rv.2.ee ai,.mp 1,lI rv.2.ah],oM 265 rv.2.eW (mE aj.enc lI)]:=by
 refine aW func118 fun Γ=>?_
 simp only[kb,aB,ar,au,av]at h;rcases h with⟨h0,h⟩|⟨h0,⟨h1,h⟩|⟨h1,x0,h2,⟨l1,x4,u0,yH,wq,q1,q2,q3,x5⟩,h9,h⟩⟩
 ·cases h;exact gr 8 [0,1] [hH (.draw 9 []),nL ag.enc c.x.ah,bT h0]
 ·cases h;exact gr 15 [0,1] [hH (.draw 9 []),nL ag.enc c.x.ah,bF h0,hH (.draw 11 []),hH (.cells [lI (nY aj.Ow c.eW s0 0),.bool (Kw aj.Ow c.eW s0)]),oO (zm aj.kq lI () c.eW s0 0),oO (CJ aj.kq lI c.eW s0),bT h1]
 ·refine gn 23 [0,3,7,8,42,43,44] [0,1,2,3] [hH (.draw 9 []),nL ag.enc c.x.ah,bF h0,hH (.draw 11 []),hH (.cells [lI (nY aj.Ow c.eW s0 0),.bool (Kw aj.Ow c.eW s0)]),oO (zm aj.kq lI () c.eW s0 0),oO (CJ aj.kq lI c.eW s0),bF h1,hH (.draw 10 []),cE bk.enc h2,nL af.enc x0] (AA Γ rv w5 h9 ?_);rcases h with⟨x6,dm,⟨fH,r3,gi,r4,iG,r5,nW,h⟩|⟨fH,h⟩⟩
  ·exact gn 7 [0,3,7] [0,1,2,3] [hH (.draw 9 []),cE ai dm,bT fH,cI [0,1] (tC gi),cI [0,1] (w5 iG),cI [3] (tB nW)] (sY Γ rv w5 h)
  ·exact gn 7 [0,3,7] [0,1,2,3] [hH (.draw 9 []),cE ai dm,bF fH] (sY Γ rv w5 h)
theorem ur:∀Fz,∀{c:aw} {s0:aj} {rv:Int×aw},ic Fz c s0=some rv→dv prog 118 [.one (.op 0 10 0 0),.agg (aj.enc s0)] [bX 10 268 [lL 1 c.x.bG.aV bO,lL 6 c.x.bG.cH aH.enc,lL 14 c.x.types al.enc,lL 16 c.x.ah ag.enc,lL 2 c.x.bV aA.enc,lL 2 c.x.before aA.enc,lL 1 c.dj bk.enc,lL 1 c.ee ai,.mp 1,lI c.ah],bM 265 c.eW (mE aj.enc lI)] (one (lI rv.1)) [oX 10 268 [lL 1 rv.2.x.bG.aV bO,lL 6 rv.2.x.bG.cH aH.enc,lL 14 rv.2.x.types al.enc,lL 16 rv.2.x.ah ag.enc,lL 2 rv.2.x.bV aA.enc,lL 2 rv.2.x.before aA.enc,lL 1 rv.2.dj bk.enc,lL 1 rv.2.ee ai,.mp 1,lI rv.2.ah],oM 265 rv.2.eW (mE aj.enc lI)]
 |0=>fun h=>nomatch h
 |Fz+1=>fun h=>Bw (ur Fz) h
theorem jl:∀{c:aw} {s0:aj} {rv:Int×aw},lW c s0=some rv→dv prog 118 [.one (.op 0 10 0 0),.agg (aj.enc s0)] [bX 10 268 [lL 1 c.x.bG.aV bO,lL 6 c.x.bG.cH aH.enc,lL 14 c.x.types al.enc,lL 16 c.x.ah ag.enc,lL 2 c.x.bV aA.enc,lL 2 c.x.before aA.enc,lL 1 c.dj bk.enc,lL 1 c.ee ai,.mp 1,lI c.ah],bM 265 c.eW (mE aj.enc lI)] (one (lI rv.1)) [oX 10 268 [lL 1 rv.2.x.bG.aV bO,lL 6 rv.2.x.bG.cH aH.enc,lL 14 rv.2.x.types al.enc,lL 16 rv.2.x.ah ag.enc,lL 2 rv.2.x.bV aA.enc,lL 2 rv.2.x.before aA.enc,lL 1 rv.2.dj bk.enc,lL 1 rv.2.ee ai,.mp 1,lI rv.2.ah],oM 265 rv.2.eW (mE aj.enc lI)]:=ur _
end
end Go.Proofs.YtkcilfpbgjjjbaaGreatDoor
