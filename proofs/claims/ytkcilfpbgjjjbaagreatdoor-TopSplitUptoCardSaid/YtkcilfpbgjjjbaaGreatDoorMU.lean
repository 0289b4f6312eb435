/- Part MU. -/
import Derived.Test.YtkcilfpbgjjjbaaGreatDoorMT
import Derived.Test.YtkcilfpbgjjjbaaGreatDoorMC
import Derived.Test.YtkcilfpbgjjjbaaGreatDoorMS
import Derived.Test.YtkcilfpbgjjjbaaGreatDoorProg
set_option linter.unusedSimpArgs false
set_option linter.unusedVariables false
set_option linter.unusedSectionVars false
namespace Go.Proofs.YtkcilfpbgjjjbaaGreatDoor
open _root_.Go.Proofs.Tryz
section
set_option maxHeartbeats 4000000
set_option maxRecDepth 100000
def uc(Γ:bu)(rv:List aa)(cf:Cf):Prop:=Go prog f58 [] Γ (one (lL 2 rv aa.enc)) [] cf
def w_(Γ:bu)(rv:List aa)(word:ByteArray)(l l1:List aa)(i:Int):Prop:=uc Γ rv ⟨[.c 116,.l 116,.b 0,.c 15],⟨40,[vS 0 word,vL 1 2 l aa.enc,vO 5 0 2 l1 aa.enc,vI 6 i],[oS 2 219 l1 aa.enc]⟩⟩
def vW(Γ:bu)(rv:List aa)(word:ByteArray)(l l2:List aa):Prop:=uc Γ rv ⟨[.c 15],⟨40,[vO 5 0 2 l2 aa.enc],[oS 2 219 l2 aa.enc]⟩⟩
theorem vV(Γ:bu)(rv:List aa){word l l1 i eK}{x:(List aa×Int)⊕(List aa)}(h:mg word l l1 i eK=some x)(hI:∀⦃s:List aa×Int⦄,some (.inl s)=some x→w_ Γ rv word l s.1 s.2)(hE:∀⦃e:List aa⦄,some (.inr e)=some x→vW Γ rv word l e):uc Γ rv ⟨[.c 3731,.b 1,.c 467,.l 116,.b 0,.c 15],⟨40,[vS 0 word,vL 1 2 l aa.enc,vO 5 0 2 l1 aa.enc,vI 6 i,vS 7 eK],[oS 2 219 l1 aa.enc]⟩⟩:=by
 simp only[mg,aB,ar,au,av]at h;obtain⟨x1,h5,h6,h⟩:=h;exact gn 4 [0,1,5,6] [2] [cE aa.enc h5,oO (Eq.refl ([(aa.mk x1.Xw eK)].map aa.enc).length),aO aa.enc h6] (hI h)
theorem DJ(Γ:bu)(rv:List aa){word l}:∀⦃s:List aa×Int⦄ ⦃e:List aa⦄,aL (fun s=>mh word l s.1 s.2) s=some e→vW Γ rv word l e→w_ Γ rv word l s.1 s.2:=by
 refine bl ?_
 rintro⟨l1,i⟩ z_ h hI hE;simp only[mh,aB,ar,au,av]at h;rcases h with⟨h0,x0,h1,⟨h2,h⟩|⟨h2,h3,h4,h⟩⟩|⟨h0,h⟩
 ·exact gn 14 [0,1,5,6,7] [0] [nL aa.enc l,bT h0,cE aa.enc h1,nF h2] (vV Γ rv h hI hE)
 ·exact gn 14 [0,1,5,6,7] [0] [nL aa.enc l,bT h0,cE aa.enc h1,nT h2,oO (h3),cE aa.enc h1,oO (h4)] (vV Γ rv h hI hE)
 ·exact gn 5 [5] [0] [nL aa.enc l,bF h0] (hE h)
theorem tj{word l}{rv:List aa}(h:mV word l=some rv):dv prog 58 [.one (.str word),.one (lL 2 l aa.enc)] [] (one (lL 2 rv aa.enc)) []:=by
 refine aW func58 fun Γ=>?_
 simp only[mV,aB,ar,au,av]at h;obtain⟨l2,h7,h⟩:=h;refine gn 9 [0,1,5,6] [0] [hW 12,hH (.kH 5 2 219)] (DJ Γ rv h7 ?_);obtain rfl:=oK h;exact gr 2 [] [hW 4,hH (.jn 0),rp 3 (eL l2 aa.enc)]
def r_(Γ:bu)(rv:ByteArray)(cf:Cf):Prop:=Go prog f135 [] Γ (one (.str rv)) [] cf
def uw(Γ:bu)(rv:ByteArray)(n:Int)(s0:ByteArray)(left:Int)(again:Bool):Prop:=r_ Γ rv ⟨[.c 244,.l 244,.b 0,.c 31],⟨31,[vI 0 n,vS 3 s0,vI 4 left,vB 5 again],[]⟩⟩
def tE(Γ:bu)(rv:ByteArray)(n:Int)(s1:ByteArray):Prop:=r_ Γ rv ⟨[.c 31],⟨31,[vI 0 n,vS 3 s1],[]⟩⟩
theorem tD(Γ:bu)(rv:ByteArray){n s0 left d}{x:(ByteArray×Int×Bool)⊕(ByteArray)}(h:ij n s0 left d=some x)(hI:∀⦃s:ByteArray×Int×Bool⦄,some (.inl s)=some x→uw Γ rv n s.1 s.2.1 s.2.2)(hE:∀⦃e:ByteArray⦄,some (.inr e)=some x→tE Γ rv n e):r_ Γ rv ⟨[.c 7827,.b 1,.c 979,.l 244,.b 0,.c 31],⟨31,[vI 0 n,vS 3 s0,vI 4 left,vI 6 d],[]⟩⟩:=by
 simp only[ij,aB,ar,au,av]at h;obtain⟨h2,h⟩:=h;exact gn 6 [0,3,4,5] [] [hH (.ints [(Ax .u8 (aU .i64 48 d))]),oO (Eq.refl ([(Ax .u8 (aU .i64 48 d))].map Qai).length),oO (Eq.refl (([(Ax .u8 (aU .i64 48 d))].map Qai):List (List Lf))),oO (h2),oO (oA (n:=10))] (hI h)
theorem BE(Γ:bu)(rv:ByteArray){n}:∀⦃s:ByteArray×Int×Bool⦄ ⦃e:ByteArray⦄,aL (fun s=>rz n s.1 s.2.1 s.2.2) s=some e→tE Γ rv n e→uw Γ rv n s.1 s.2.1 s.2.2:=by
 refine bl ?_
 rintro⟨s0,left,again⟩ z_ h hI hE;simp only[rz,aB,ar,au,av]at h;rcases h with⟨h0,⟨h1,h⟩|⟨h1,h⟩⟩|⟨h0,h⟩
 ·exact gn 14 [0,3,4,6] [] [bT h0,oO (oA (n:=10)),bT h1] (tD Γ rv h hI hE)
 ·exact gn 14 [0,3,4,6] [] [bT h0,oO (oA (n:=10)),bF h1] (tD Γ rv h hI hE)
 ·exact gn 5 [0,3] [] [bF h0] (hE h)
theorem eG{n}{rv:ByteArray}(h:eE n=some rv):dv prog 135 [.one (lI n)] [] (one (.str rv)) []:=by
 refine aW func135 fun Γ=>?_
 simp only[eE,aB,ar,au,av]at h;obtain⟨s1,h3,h⟩:=h;refine gn 11 [0,3,4,5] [] [] (BE Γ rv h3 ?_);rcases h with⟨h4,h5,h⟩|⟨h4,h⟩
 ·cases h;exact gr 6 [] [bT h4,oO (h5)]
 ·obtain rfl:=oK h;exact gr 7 [] [bF h4]
theorem pt{c}{rv:Bool}(h:sL c=some rv):dv prog 244 [.one (.int .u8 c)] [] (one (.bool rv)) []:=by
 refine aW func244 fun Γ=>?_
 simp only[sL,aB,ar,au,av]at h;cases h;exact gr 4 [] [hP,hP,hP,oI ((cD c 48)=true),oR True ((cD c 48)=true)]
theorem sa{c}{rv:Bool}(h:u_ c=some rv):dv prog 245 [.one (.int .u8 c)] [] (one (.bool rv)) []:=by
 refine aW func245 fun Γ=>?_
 simp only[u_,aB,ar,au,av]at h;cases h;exact gr 4 [] [rp 14 hP,oI ((cD c 97)=true),oR True ((cD c 97)=true),rp 2 (oI (((cD c 97)&&(fT c 122))=false)),oI ((((cD c 97)&&(fT c 122))=false)∧(cD c 65)=true),oI (((cD c 97)&&(fT c 122))=false),oI ((((cD c 97)&&(fT c 122))=false)∧(cD c 65)=true),oR True (((cD c 97)&&(fT c 122))=false),oI ((((cD c 97)&&(fT c 122))||((cD c 65)&&(fT c 90)))=false),oR True ((((cD c 97)&&(fT c 122))||((cD c 65)&&(fT c 90)))=false)]
def A8(Γ:bu)(rv:Bool)(cf:Cf):Prop:=Go prog f196 [] Γ (one (.bool rv)) [] cf
def FN(Γ:bu)(rv:Bool)(s0:ByteArray)(b:UInt8)(i:Int):Prop:=A8 Γ rv ⟨[.c 116,.l 116,.b 0,.c 15],⟨35,[vS 0 s0,vI 3 i],[]⟩⟩
def EF(Γ:bu)(rv:Bool)(s0:ByteArray)(b:UInt8):Prop:=A8 Γ rv ⟨[.c 15],⟨35,[],[]⟩⟩
theorem EG(Γ:bu)(rv:Bool){s0 b}:∀⦃s:Int⦄ ⦃e:(Unit)⊕(Bool)⦄,aL (fun s=>nm s0 b s) s=some e→iD e (fun e=>EF Γ rv s0 b) (fun e=>e=rv)→FN Γ rv s0 b s:=by
 refine bl ?_
 intro i z_ h hI hE;simp only[nm,aB,ar,au,av]at h;rcases h with⟨h4,b1,h5,r1,h6,⟨h7,h⟩|⟨h7,r2,h8,⟨h9,h⟩|⟨h9,h⟩⟩⟩|⟨h4,h⟩
 ·exact gn 14 [0,3] [] [bT h4,yE h5,cC (sa h6),rp 6 (nF h7),fF] (hI h)
 ·exact gn 14 [0,3] [] [bT h4,yE h5,cC (sa h6),rp 3 (nT h7),yE h5,nT h7,cC (pt h8),nT h7,nT h7,nF h9] (hI h)
 ·obtain rfl:=(hE h:_=rv);exact gr 12 [] [bT h4,yE h5,cC (sa h6),rp 3 (nT h7),yE h5,nT h7,cC (pt h8),nT h7,nT h7,nT h9]
 ·exact gn 5 [] [] [bF h4] (hE h)
theorem ky{s0}{rv:Bool}(h:lz s0=some rv):dv prog 196 [.one (.str s0)] [] (one (.bool rv)) []:=by
 refine aW func196 fun Γ=>?_
 simp only[lz,aB,ar,au,av]at h;rcases h with⟨h0,h⟩|⟨h0,b,h1,r,h2,⟨h3,h⟩|⟨h3,e0,dm,h⟩⟩
 ·obtain rfl:=oK h;exact gr 8 [] [rp 4 hP,rp 2 (oI ((bh (fG s0) 1)=false)),oR True ((bh (fG s0) 1)=false),rp 4 (bT h0),tT]
 ·obtain rfl:=oK h;exact gr 8 [] [rp 4 hP,rp 2 (oI ((bh (fG s0) 1)=false)),oR True ((bh (fG s0) 1)=false),bF h0,bF h0,yE h1,bF h0,cC (pt h2),bF h0,bT h3]
 ·refine gn 12 [0,3] [] [rp 4 hP,rp 2 (oI ((bh (fG s0) 1)=false)),oR True ((bh (fG s0) 1)=false),bF h0,bF h0,yE h1,bF h0,cC (pt h2),bF h0,bF h3] (EG Γ rv dm ?_);rcases e0 with e0|r3
  ·obtain rfl:=oK h;exact gr 2 [] []
  ·exact oK h
def qC(Γ:bu)(rv:List aa)(cf:Cf):Prop:=Go prog f197 [] Γ (one (lL 2 rv aa.enc)) [] cf
def w8(Γ:bu)(rv:List aa)(l:List aI)(l2:List aa)(i:Int):Prop:=qC Γ rv ⟨[.c 244,.l 244,.b 0,.c 31],⟨88,[vL 0 2 l aI.enc,vO 3 0 2 l2 aa.enc,vI 4 i],[oS 2 219 l2 aa.enc]⟩⟩
def vg(Γ:bu)(rv:List aa)(l:List aI)(l4:List aa):Prop:=qC Γ rv ⟨[.c 31],⟨88,[vO 3 0 2 l4 aa.enc],[oS 2 219 l4 aa.enc]⟩⟩
theorem vf(Γ:bu)(rv:List aa){l i x0 l3}{x:(List aa×Int)⊕(List aa)}(h:jy l i x0 l3=some x)(hI:∀⦃s:List aa×Int⦄,some (.inl s)=some x→w8 Γ rv l s.1 s.2)(hE:∀⦃e:List aa⦄,some (.inr e)=some x→vg Γ rv l e):qC Γ rv ⟨[.c 7827,.b 1,.c 979,.l 244,.b 0,.c 31],⟨88,[vL 0 2 l aI.enc,vO 3 0 2 l3 aa.enc,vI 4 i,vP 5 1 2],[oS 2 219 l3 aa.enc,oX 2 76 (aI.enc x0)]⟩⟩:=by
 simp only[jy,aB,ar,au,av]at h;rcases h with⟨h7,x1,h8,⟨h9,r1,dm,fH,h⟩|⟨h9,⟨gi,r2,iG,nW,h⟩|⟨gi,h⟩⟩⟩|⟨h7,h⟩
 ·exact gn 7 [0,3,4] [3] [hH (.draw 24 []),rp 6 (bT h7),cE aI.enc h8,rp 4 (bT h7),rp 9 (bT h9),bT h7,bT h9,bT h7,tT,cC (eG dm),oO (Eq.refl ([(aa.mk 13 r1)].map aa.enc).length),aO aa.enc fH] (hI h)
 ·exact gn 7 [0,3,4] [3] [hH (.draw 24 []),rp 6 (bT h7),cE aI.enc h8,rp 4 (bT h7),rp 6 (bF h9),cE aI.enc h8,rp 3 (bF h9),bT h7,bF h9,bT h7,bT gi,cC (eG iG),oO (Eq.refl ([(aa.mk 13 r2)].map aa.enc).length),aO aa.enc nW] (hI h)
 ·exact gn 7 [0,3,4] [0] [hH (.draw 24 []),rp 6 (bT h7),cE aI.enc h8,rp 4 (bT h7),rp 6 (bF h9),cE aI.enc h8,rp 3 (bF h9),bT h7,bF h9,bT h7,bF gi] (hI h)
 ·exact gn 7 [0,3,4] [0] [hH (.draw 24 []),rp 10 (bF h7),rp 9 kF,bF h7,bF h7,fF] (hI h)
theorem Dr(Γ:bu)(rv:List aa){l}:∀⦃s:List aa×Int⦄ ⦃e:List aa⦄,aL (fun s=>jz l s.1 s.2) s=some e→vg Γ rv l e→w8 Γ rv l s.1 s.2:=by
 refine bl ?_
 rintro⟨l2,i⟩ z_ h hI hE;simp only[jz,aB,ar,au,av]at h;rcases h with⟨h2,x0,h3,⟨h4,r,h5,h6,h⟩|⟨h4,h⟩⟩|⟨h2,h⟩
 ·exact gn 14 [0,3,4,5] [3,1] [nL aI.enc l,bT h2,cE aI.enc h3,rp 17 hP,rp 2 (oI ((bh x0.t 0)=false)),oR True ((bh x0.t 0)=false),rp 4 (oI (((bh x0.t 0)||(dp x0.t 4096))=false)),oR True (((bh x0.t 0)||(dp x0.t 4096))=false),rp 5 (oI ((((bh x0.t 0)||(dp x0.t 4096))||(bh x0.a x0.t))=false)),oR True ((((bh x0.t 0)||(dp x0.t 4096))||(bh x0.a x0.t))=false),bT h4,cC (eG h5),oO (Eq.refl ([(aa.mk 2 r)].map aa.enc).length),aO aa.enc h6] (vf Γ rv h hI hE)
 ·exact gn 14 [0,3,4,5] [0,1] [nL aI.enc l,bT h2,cE aI.enc h3,rp 17 hP,rp 2 (oI ((bh x0.t 0)=false)),oR True ((bh x0.t 0)=false),rp 4 (oI (((bh x0.t 0)||(dp x0.t 4096))=false)),oR True (((bh x0.t 0)||(dp x0.t 4096))=false),rp 5 (oI ((((bh x0.t 0)||(dp x0.t 4096))||(bh x0.a x0.t))=false)),oR True ((((bh x0.t 0)||(dp x0.t 4096))||(bh x0.a x0.t))=false),bF h4] (vf Γ rv h hI hE)
 ·exact gn 5 [3] [0] [nL aI.enc l,bF h2] (hE h)
theorem ve(Γ:bu)(rv:List aa){l l1}(h:lY l l1=some rv):qC Γ rv ⟨[.c 15],⟨88,[vL 0 2 l aI.enc,vO 3 0 2 l1 aa.enc],[oS 2 219 l1 aa.enc]⟩⟩:=by
 simp only[lY,aB,ar,au,av]at h;obtain⟨l4,qx,h⟩:=h;refine gn 5 [0,3,4] [0] [] (Dr Γ rv qx ?_);obtain rfl:=oK h;exact gr 2 [] [hW 4,hH (.jn 0),rp 3 (eL l4 aa.enc)]
theorem Hi{l}{rv:List aa}(h:kB l=some rv):dv prog 197 [.one (lL 2 l aI.enc)] [] (one (lL 2 rv aa.enc)) []:=by
 refine aW func197 fun Γ=>?_
 simp only[kB,aB,ar,au,av]at h;rcases h with⟨h0,h1,h⟩|⟨h0,h⟩
 ·exact gn 9 [0,3] [1] [nL aI.enc l,hP,hP,oI ((bh (az l) 1)=false),nL aI.enc l,hP,hP,oI ((bh (az l) 1)=false),oR True ((bh (az l) 1)=false),bT h0,oO (Eq.refl ([(aa.mk 4 ByteArray.empty)].map aa.enc).length),aN (l:=([(aa.mk 4 ByteArray.empty)]:List aa)) aa.enc h1] (ve Γ rv h)
 ·exact gn 9 [0,3] [0] [nL aI.enc l,hP,hP,oI ((bh (az l) 1)=false),nL aI.enc l,hP,hP,oI ((bh (az l) 1)=false),oR True ((bh (az l) 1)=false),bF h0,hW 1,hH (.kH 3 2 219)] (ve Γ rv h)
theorem fC{t}{rv:Bool}(h:n_ t=some rv):dv prog 198 [.one (lI t)] [] (one (.bool rv)) []:=by
 refine aW func198 fun Γ=>?_
 simp only[n_,aB,ar,au,av]at h;cases h;exact gr 4 [] [hP,hP,hP,oI ((cD t 0)=true),oR True ((cD t 0)=true)]
def d_(Γ:bu)(rv:List aa)(cf:Cf):Prop:=Go prog f132 [] Γ (one (lL 2 rv aa.enc)) [] cf
def BF(Γ:bu)(rv:List aa)(n:aD)(i:Int)(r:ByteArray)(x0:aH)(l l1:List aa)(mR:Bool)(k:Int):Prop:=d_ Γ rv ⟨[.c 4084,.l 4084,.b 0,.c 511],⟨192,[vI 1 i,vP 2 0 2,vO 5 1 2 l1 aa.enc,vS 6 (dC b_ r),vP 7 2 6,vB 8 mR,vI 9 k],[oX 2 25 (aD.enc n),oS 2 219 l1 aa.enc,oX 6 150 (aH.enc x0)]⟩⟩
def AJ(Γ:bu)(rv:List aa)(n:aD)(i:Int)(r:ByteArray)(x0:aH)(l l1:List aa)(qN:Bool):Prop:=d_ Γ rv ⟨[.c 511],⟨192,[vO 5 0 2 l1 aa.enc,vS 6 (dC b_ r),vP 7 1 6,vB 8 qN],[oS 2 219 l1 aa.enc,oX 6 150 (aH.enc x0)]⟩⟩
def BG(Γ:bu)(rv:List aa)(r:ByteArray)(x0:aH)(l r1 l3:List aa)(k1:Int):Prop:=d_ Γ rv ⟨[.c 32756,.l 32756,.b 2,.c 4095],⟨192,[vO 5 0 2 l3 aa.enc,vS 6 (dC b_ r),vP 7 1 6,vL 11 2 r1 aa.enc,vI 12 k1],[oS 2 219 l3 aa.enc,oX 6 150 (aH.enc x0)]⟩⟩
def AL(Γ:bu)(rv:List aa)(r:ByteArray)(x0:aH)(l r1 l4:List aa):Prop:=d_ Γ rv ⟨[.c 4095],⟨192,[vO 5 0 2 l4 aa.enc,vS 6 (dC b_ r),vP 7 1 6],[oS 2 219 l4 aa.enc,oX 6 150 (aH.enc x0)]⟩⟩
def BH(Γ:bu)(rv:List aa)(r:ByteArray)(x0:aH)(l l6:List aa)(k2:Int):Prop:=d_ Γ rv ⟨[.c 131060,.l 131060,.b 4,.c 16383],⟨192,[vO 5 0 2 l6 aa.enc,vS 6 (dC b_ r),vP 7 1 6,vI 13 k2],[oS 2 219 l6 aa.enc,oX 6 150 (aH.enc x0)]⟩⟩
def AN(Γ:bu)(rv:List aa)(r:ByteArray)(x0:aH)(l l7:List aa):Prop:=d_ Γ rv ⟨[.c 16383],⟨192,[vO 5 0 2 l7 aa.enc],[oS 2 219 l7 aa.enc]⟩⟩
theorem AK(Γ:bu)(rv:List aa){n i r x0 l l1}:∀⦃s:Bool×Int⦄ ⦃e:Bool⦄,aL (fun s=>fz n i r x0 l l1 s.1 s.2) s=some e→AJ Γ rv n i r x0 l l1 e→BF Γ rv n i r x0 l l1 s.1 s.2:=by
 refine bl ?_
 rintro⟨mR,k⟩ z_ h hI hE;simp only[fz,aB,ar,au,av]at h;rcases h with⟨h7,x1,h8,h⟩|⟨h7,h⟩
 ·exact gn 13 [1,2,5,6,7,8,9] [0,1,2] [bT h7,cE aH.enc h8,rp 22 hP,rp 5 (oI (mR=false)),rp 4 (oI ((mR=false)∧(cM x0.a8 x1.a8)=true)),oI (mR=false),oI ((mR=false)∧(cM x0.a8 x1.a8)=true),oI (mR=false),rp 4 (oI ((mR=false)∧((cM x0.a8 x1.a8)&&(cM x0.fN x1.fN))=true)),oI (mR=false),oI ((mR=false)∧((cM x0.a8 x1.a8)&&(cM x0.fN x1.fN))=true),oR True (mR=false)] (hI h)
 ·exact gn 5 [5,6,7,8] [1,2] [bF h7] (hE h)
theorem AM(Γ:bu)(rv:List aa){r x0 l r1}:∀⦃s:List aa×Int⦄ ⦃e:List aa⦄,aL (fun s=>fA r x0 l r1 s.1 s.2) s=some e→AL Γ rv r x0 l r1 e→BG Γ rv r x0 l r1 s.1 s.2:=by
 refine bl ?_
 rintro⟨l3,k1⟩ z_ h hI hE;simp only[fA,aB,ar,au,av]at h;rcases h with⟨iG,x2,nW,qx,h⟩|⟨iG,h⟩
 ·exact gn 11 [5,6,7,11,12] [3,1] [nL aa.enc r1,bT iG,cE aa.enc nW,oO (Eq.refl ([(aa.mk x2.Xw (dC b_ r))].map aa.enc).length),aO aa.enc qx] (hI h)
 ·exact gn 5 [5,6,7] [0,1] [nL aa.enc r1,bF iG] (hE h)
theorem AO(Γ:bu)(rv:List aa){r x0 l}:∀⦃s:List aa×Int⦄ ⦃e:List aa⦄,aL (fun s=>fB r x0 l s.1 s.2) s=some e→AN Γ rv r x0 l e→BH Γ rv r x0 l s.1 s.2:=by
 refine bl ?_
 rintro⟨l6,k2⟩ z_ h hI hE;simp only[fB,aB,ar,au,av]at h;rcases h with⟨AD,x3,Ed,r2,G0,⟨Nh,r3,L2,⟨L3,⟨L4,x4,Iw,⟨WM,Y9,h⟩|⟨WM,h⟩⟩|⟨L4,h⟩⟩|⟨L3,Y_,h⟩⟩|⟨Nh,Vo,h⟩⟩|⟨AD,h⟩
 ·exact gn 16 [5,6,7,13] [4,1] [nL aI.enc x0.ja,bT AD,cE aI.enc Ed,hH (.draw 26 []),cC (fC G0),rp 3 (nF Nh),cC (fC L2),rp 2 (nF Nh),rp 3 (nF L3),rp 7 (bT L4),cE aI.enc Iw,rp 3 (bT L4),nF L3,bT L4,nF L3,bT WM,oO (Eq.refl ([(aa.mk 2 (dC b_ r))].map aa.enc).length),aO aa.enc Y9] (hI h)
 ·exact gn 16 [5,6,7,13] [0,1] [nL aI.enc x0.ja,bT AD,cE aI.enc Ed,hH (.draw 26 []),cC (fC G0),rp 3 (nF Nh),cC (fC L2),rp 2 (nF Nh),rp 3 (nF L3),rp 7 (bT L4),cE aI.enc Iw,rp 3 (bT L4),nF L3,bT L4,nF L3,bF WM] (hI h)
 ·exact gn 16 [5,6,7,13] [0,1] [nL aI.enc x0.ja,bT AD,cE aI.enc Ed,hH (.draw 26 []),cC (fC G0),rp 3 (nF Nh),cC (fC L2),rp 2 (nF Nh),rp 3 (nF L3),rp 10 (bF L4),nF L3,bF L4,nF L3,fF] (hI h)
 ·exact gn 16 [5,6,7,13] [4,1] [nL aI.enc x0.ja,bT AD,cE aI.enc Ed,hH (.draw 26 []),cC (fC G0),rp 3 (nF Nh),cC (fC L2),rp 2 (nF Nh),rp 3 (nT L3),rp 10 kF,rp 2 (nT L3),tT,oO (Eq.refl ([(aa.mk 2 (dC b_ r))].map aa.enc).length),aO aa.enc Y_] (hI h)
 ·exact gn 16 [5,6,7,13] [4,1] [nL aI.enc x0.ja,bT AD,cE aI.enc Ed,hH (.draw 26 []),cC (fC G0),rp 5 (nT Nh),tT,tT,tT,rp 10 kF,tT,tT,tT,oO (Eq.refl ([(aa.mk 2 (dC b_ r))].map aa.enc).length),aO aa.enc Vo] (hI h)
 ·exact gn 5 [5] [0] [nL aI.enc x0.ja,bF AD] (hE h)
theorem s8(Γ:bu)(rv:List aa){r x0 l l5}(h:fy r x0 l l5=some rv):d_ Γ rv ⟨[.c 8191],⟨192,[vO 5 0 2 l5 aa.enc,vS 6 (dC b_ r),vP 7 1 6],[oS 2 219 l5 aa.enc,oX 6 150 (aH.enc x0)]⟩⟩:=by
 simp only[fy,aB,ar,au,av]at h;obtain⟨l7,Qz,h⟩:=h;refine gn 5 [5,6,7,13] [0,1] [] (AO Γ rv Qz ?_);obtain rfl:=oK h;exact gr 2 [] [hW 4,hH (.jn 0),rp 3 (eL l7 aa.enc)]
theorem s5(Γ:bu)(rv:List aa){r x0 l l2}(h:gI r x0 l l2=some rv):d_ Γ rv ⟨[.c 1023],⟨192,[vO 5 0 2 l2 aa.enc,vS 6 (dC b_ r),vP 7 1 6],[oS 2 219 l2 aa.enc,oX 6 150 (aH.enc x0)]⟩⟩:=by
 simp only[gI,aB,ar,au,av]at h;obtain⟨r1,gi,l4,sH,h⟩:=h;refine gn 7 [5,6,7,11,12] [0,1] [cC (Hi gi)] (AM Γ rv sH ?_);rcases h with⟨uu,E4,h⟩|⟨uu,h⟩
 ·exact gn 5 [5,6,7] [3,1] [nL aI.enc x0.ja,bT uu,oO (Eq.refl ([(aa.mk 4 (dC b_ r))].map aa.enc).length),aO aa.enc E4] (s8 Γ rv h)
 ·exact gn 5 [5,6,7] [0,1] [nL aI.enc x0.ja,bF uu] (s8 Γ rv h)
theorem s4(Γ:bu)(rv:List aa){n i r x0 l l1}(h:gH n i r x0 l l1=some rv):d_ Γ rv ⟨[.c 127],⟨192,[vI 1 i,vP 2 0 2,vO 5 1 2 l1 aa.enc,vS 6 (dC b_ r),vP 7 2 6],[oX 2 25 (aD.enc n),oS 2 219 l1 aa.enc,oX 6 150 (aH.enc x0)]⟩⟩:=by
 simp only[gH,aB,ar,au,av]at h;obtain⟨qN,h9,h⟩:=h;refine gn 7 [1,2,5,6,7,8,9] [0,1,2] [] (AK Γ rv h9 ?_);rcases h with⟨dm,fH,h⟩|⟨dm,h⟩
 ·exact gn 5 [5,6,7] [3,1] [bT dm,oO (Eq.refl ([(aa.mk 6 (dC b_ r))].map aa.enc).length),aO aa.enc fH] (s5 Γ rv h)
 ·exact gn 5 [5,6,7] [0,1] [bF dm] (s5 Γ rv h)
theorem sZ(Γ:bu)(rv:List aa){n i r x0 l}(h:gF n i r x0 l=some rv):d_ Γ rv ⟨[.c 63],⟨192,[vI 1 i,vP 2 0 2,vO 5 1 2 l aa.enc,vS 6 (dC b_ r),vP 7 2 6],[oX 2 25 (aD.enc n),oS 2 219 l aa.enc,oX 6 150 (aH.enc x0)]⟩⟩:=by
 simp only[gF,aB,ar,au,av]at h;rcases h with⟨h5,h6,h⟩|⟨h5,h⟩
 ·exact gn 5 [1,2,5,6,7] [0,4,2] [rp 18 hP,rp 2 (oI ((bh x0.aT 0)=false)),oR True ((bh x0.aT 0)=false),rp 2 (oI (((bh x0.aT 0)||(dp x0.aT 7))=false)),oR True (((bh x0.aT 0)||(dp x0.aT 7))=false),rp 2 (oI ((((bh x0.aT 0)||(dp x0.aT 7))||(bh x0.ed 0))=false)),oR True ((((bh x0.aT 0)||(dp x0.aT 7))||(bh x0.ed 0))=false),rp 4 (oI (((((bh x0.aT 0)||(dp x0.aT 7))||(bh x0.ed 0))||(dp x0.ed 10000))=false)),oR True (((((bh x0.aT 0)||(dp x0.aT 7))||(bh x0.ed 0))||(dp x0.ed 10000))=false),bT h5,oO (Eq.refl ([(aa.mk 2 (dC b_ r))].map aa.enc).length),aO aa.enc h6] (s4 Γ rv h)
 ·exact gn 5 [1,2,5,6,7] [0,1,2] [rp 18 hP,rp 2 (oI ((bh x0.aT 0)=false)),oR True ((bh x0.aT 0)=false),rp 2 (oI (((bh x0.aT 0)||(dp x0.aT 7))=false)),oR True (((bh x0.aT 0)||(dp x0.aT 7))=false),rp 2 (oI ((((bh x0.aT 0)||(dp x0.aT 7))||(bh x0.ed 0))=false)),oR True ((((bh x0.aT 0)||(dp x0.aT 7))||(bh x0.ed 0))=false),rp 4 (oI (((((bh x0.aT 0)||(dp x0.aT 7))||(bh x0.ed 0))||(dp x0.ed 10000))=false)),oR True (((((bh x0.aT 0)||(dp x0.aT 7))||(bh x0.ed 0))||(dp x0.ed 10000))=false),bF h5] (s4 Γ rv h)
theorem Du{n i}{rv:List aa}(h:l_ n i=some rv):dv prog 132 [.agg (aD.enc n),.one (lI i)] [] (one (lL 2 rv aa.enc)) []:=by
 refine aW func132 fun Γ=>?_
 simp only[l_,aB,ar,au,av]at h;rcases h with⟨r,h0,h1,x0,h2,⟨h3,h4,h⟩|⟨h3,h⟩⟩
 ·exact gn 13 [1,2,5,6,7] [0,3,1] [cC (eG h0),oO (h1),cE aH.enc h2,rp 5 hP,rp 3 (oI ((bh x0.a8 0)=false)),nL bO n.aV,rp 11 hP,rp 2 (oI ((bh x0.a8 0)=false)),oR True ((bh x0.a8 0)=false),rp 2 (oI (((bh x0.a8 0)||(cD x0.a8 (az n.aV)))=false)),oR True (((bh x0.a8 0)||(cD x0.a8 (az n.aV)))=false),rp 3 (oI ((((bh x0.a8 0)||(cD x0.a8 (az n.aV)))||(bh x0.fN 0))=false)),nL bO n.aV,hP,hP,rp 2 (oI ((((bh x0.a8 0)||(cD x0.a8 (az n.aV)))||(bh x0.fN 0))=false)),oR True ((((bh x0.a8 0)||(cD x0.a8 (az n.aV)))||(bh x0.fN 0))=false),bT h3,oO (Eq.refl ([(aa.mk 11 (dC b_ r))].map aa.enc).length),aN (l:=([(aa.mk 11 (dC b_ r))]:List aa)) aa.enc h4] (sZ Γ rv h)
 ·exact gn 13 [1,2,5,6,7] [0,2,1] [cC (eG h0),oO (h1),cE aH.enc h2,rp 5 hP,rp 3 (oI ((bh x0.a8 0)=false)),nL bO n.aV,rp 11 hP,rp 2 (oI ((bh x0.a8 0)=false)),oR True ((bh x0.a8 0)=false),rp 2 (oI (((bh x0.a8 0)||(cD x0.a8 (az n.aV)))=false)),oR True (((bh x0.a8 0)||(cD x0.a8 (az n.aV)))=false),rp 3 (oI ((((bh x0.a8 0)||(cD x0.a8 (az n.aV)))||(bh x0.fN 0))=false)),nL bO n.aV,hP,hP,rp 2 (oI ((((bh x0.a8 0)||(cD x0.a8 (az n.aV)))||(bh x0.fN 0))=false)),oR True ((((bh x0.a8 0)||(cD x0.a8 (az n.aV)))||(bh x0.fN 0))=false),bF h3,hW 1,hH (.kH 5 2 219)] (sZ Γ rv h)
def fK(Γ:bu)(rv:List aa)(cf:Cf):Prop:=Go prog f131 [] Γ (one (lO 0 2 rv aa.enc)) [oS 2 219 rv aa.enc] cf
def wR(Γ:bu)(rv:List aa)(n:aD)(l l1:List aa)(i:Int)(r:ByteArray)(mR:Bool)(k:Int):Prop:=fK Γ rv ⟨[.c 250484,.l 250484,.b 2,.c 31311,.b 1,.c 979,.l 244,.b 0,.c 31],⟨64,[vP 1 0 2,vO 3 1 2 l1 aa.enc,vI 4 i,vS 5 (dC jf r),vB 6 mR,vI 7 k],[oX 2 25 (aD.enc n),oS 2 219 l1 aa.enc]⟩⟩
def vm(Γ:bu)(rv:List aa)(n:aD)(l l1:List aa)(i:Int)(r:ByteArray)(qN:Bool):Prop:=fK Γ rv ⟨[.c 31311,.b 1,.c 979,.l 244,.b 0,.c 31],⟨64,[vP 1 0 2,vO 3 1 2 l1 aa.enc,vI 4 i,vS 5 (dC jf r),vB 6 qN],[oX 2 25 (aD.enc n),oS 2 219 l1 aa.enc]⟩⟩
def wQ(Γ:bu)(rv:List aa)(n:aD)(l l1:List aa)(i:Int):Prop:=fK Γ rv ⟨[.c 244,.l 244,.b 0,.c 31],⟨64,[vP 1 0 2,vO 3 1 2 l1 aa.enc,vI 4 i],[oX 2 25 (aD.enc n),oS 2 219 l1 aa.enc]⟩⟩
def vj(Γ:bu)(rv:List aa)(n:aD)(l l2:List aa):Prop:=fK Γ rv ⟨[.c 31],⟨64,[vO 3 0 2 l2 aa.enc],[oS 2 219 l2 aa.enc]⟩⟩
theorem vn(Γ:bu)(rv:List aa){n l l1 i r}:∀⦃s:Bool×Int⦄ ⦃e:Bool⦄,aL (fun s=>dJ n l l1 i r s.1 s.2) s=some e→vm Γ rv n l l1 i r e→wR Γ rv n l l1 i r s.1 s.2:=by
 refine bl ?_
 rintro⟨mR,k⟩ z_ h hI hE;simp only[dJ,aB,ar,au,av]at h;rcases h with⟨h8,⟨h9,h⟩|⟨h9,x1,dm,x2,fH,h⟩⟩|⟨h8,h⟩
 ·exact gn 11 [1,3,4,5,6,7] [0,1] [bT h8,hH (.draw 14 []),rp 12 (bT h9)] (hI h)
 ·exact gn 11 [1,3,4,5,6,7] [0,1] [bT h8,hH (.draw 14 []),rp 4 (bF h9),cE bO dm,rp 5 (bF h9),cE bO fH,rp 3 (bF h9)] (hI h)
 ·exact gn 5 [1,3,4,5,6] [0,1] [bF h8] (hE h)
theorem vk(Γ:bu)(rv:List aa){n l}:∀⦃s:List aa×Int⦄ ⦃e:List aa⦄,aL (fun s=>dI n l s.1 s.2) s=some e→vj Γ rv n l e→wQ Γ rv n l s.1 s.2:=by
 refine bl ?_
 rintro⟨l1,i⟩ z_ h hI hE;simp only[dI,aB,ar,au,av]at h;rcases h with⟨h2,r,h3,h4,x0,h5,r1,h6,⟨h7,qN,gi,h⟩|⟨h7,qx,h⟩⟩|⟨h2,h⟩
 ·refine gn 21 [1,3,4,5,6,7] [0,1] [nL bO n.aV,bT h2,cC (eG h3),oO (h4),cE bO h5,cC (ky h6),nF h7] (vn Γ rv gi ?_);rcases h with⟨iG,nW,h⟩|⟨iG,h⟩
  ·exact gn 7 [1,3,4] [0,3] [bT iG,oO (Eq.refl ([(aa.mk 6 (dC jf r))].map aa.enc).length),aO aa.enc nW] (hI h)
  ·exact gn 7 [1,3,4] [0,1] [bF iG] (hI h)
 ·exact gn 18 [1,3,4] [0,3] [nL bO n.aV,bT h2,cC (eG h3),oO (h4),cE bO h5,cC (ky h6),nT h7,oO (Eq.refl ([(aa.mk 5 (dC jf r))].map aa.enc).length),aO aa.enc qx] (hI h)
 ·exact gn 5 [3] [1] [nL bO n.aV,bF h2] (hE h)
theorem oC(Γ:bu)(rv:List aa){n l}(h:fq n l=some rv):fK Γ rv ⟨[.c 15],⟨64,[vP 1 0 2,vO 3 1 2 l aa.enc],[oX 2 25 (aD.enc n),oS 2 219 l aa.enc]⟩⟩:=by
 simp only[fq,aB,ar,au,av]at h;obtain⟨l2,sH,h⟩:=h;refine gn 5 [1,3,4] [0,1] [] (vk Γ rv sH ?_);obtain rfl:=oK h;exact gr 2 [0] []
theorem qu{n}{rv:List aa}(h:gk n=some rv):dv prog 131 [.agg (aD.enc n)] [] (one (lO 0 2 rv aa.enc)) [oS 2 219 rv aa.enc]:=by
 refine aW func131 fun Γ=>?_
 simp only[gk,aB,ar,au,av]at h;rcases h with⟨h0,h1,h⟩|⟨h0,h⟩
 ·exact gn 9 [1,3] [0,2] [nL bO n.aV,bT h0,oO (Eq.refl ([(aa.mk 4 tJ)].map aa.enc).length),aN (l:=([(aa.mk 4 tJ)]:List aa)) aa.enc h1] (oC Γ rv h)
 ·exact gn 9 [1,3] [0,1] [nL bO n.aV,bF h0,hW 1,hH (.kH 3 2 219)] (oC Γ rv h)
def ua(Γ:bu)(rv:List aa)(cf:Cf):Prop:=Go prog f59 [] Γ (one (lL 2 rv aa.enc)) [] cf
def EI(Γ:bu)(rv:List aa)(n:aD)(l l1:List aa)(i:Int):Prop:=ua Γ rv ⟨[.c 244,.l 244,.b 0,.c 31],⟨28,[vP 1 0 2,vO 3 1 2 l1 aa.enc,vI 4 i],[oX 2 25 (aD.enc n),oS 2 219 l1 aa.enc]⟩⟩
def Ds(Γ:bu)(rv:List aa)(n:aD)(l l2:List aa):Prop:=ua Γ rv ⟨[.c 31],⟨28,[vO 3 0 2 l2 aa.enc],[oS 2 219 l2 aa.enc]⟩⟩
theorem Dt(Γ:bu)(rv:List aa){n l}:∀⦃s:List aa×Int⦄ ⦃e:List aa⦄,aL (fun s=>gQ n l s.1 s.2) s=some e→Ds Γ rv n l e→EI Γ rv n l s.1 s.2:=by
 refine bl ?_
 rintro⟨l1,i⟩ z_ h hI hE;simp only[gQ,aB,ar,au,av]at h;rcases h with⟨h3,r1,h4,h5,h⟩|⟨h3,h⟩
 ·exact gn 11 [1,3,4] [0,2] [nL aH.enc n.cH,bT h3,cC (Du h4),aO aa.enc h5] (hI h)
 ·exact gn 5 [3] [1] [nL aH.enc n.cH,bF h3] (hE h)
theorem vi(Γ:bu)(rv:List aa){n l}(h:lZ n l=some rv):ua Γ rv ⟨[.c 15],⟨28,[vP 1 0 2,vO 3 1 2 l aa.enc],[oX 2 25 (aD.enc n),oS 2 219 l aa.enc]⟩⟩:=by
 simp only[lZ,aB,ar,au,av]at h;obtain⟨l2,h6,h⟩:=h;refine gn 5 [1,3,4] [0,1] [] (Dt Γ rv h6 ?_);obtain rfl:=oK h;exact gr 2 [] [hW 4,hH (.jn 0),rp 3 (eL l2 aa.enc)]
theorem Hj{n}{rv:List aa}(h:pN n=some rv):dv prog 59 [.agg (aD.enc n)] [] (one (lL 2 rv aa.enc)) []:=by
 refine aW func59 fun Γ=>?_
 simp only[pN,aB,ar,au,av]at h;rcases h with⟨r,h0,⟨h1,h2,h⟩|⟨h1,h⟩⟩
 ·exact gn 9 [1,3] [0,3] [cC (qu h0),nL aH.enc n.cH,bT h1,oO (Eq.refl ([(aa.mk 4 Bg)].map aa.enc).length),aO aa.enc h2] (vi Γ rv h)
 ·exact gn 9 [1,3] [0,1] [cC (qu h0),nL aH.enc n.cH,bF h1] (vi Γ rv h)
theorem aF{n lo hi}{rv:Bool}(h:b4 n lo hi=some rv):dv prog 133 [.one (lI n),.one (lI lo),.one (lI hi)] [] (one (.bool rv)) []:=by
 refine aW func133 fun Γ=>?_
 simp only[b4,aB,ar,au,av]at h;cases h;exact gr 4 [] [rp 4 hP,rp 2 (oI ((cD n lo)=true)),oR True ((cD n lo)=true)]
theorem nt{l}{rv:Int}(h:lA l=some rv):dv prog 62 [.one (lL 14 l al.enc)] [] (one (lI rv)) []:=by
 refine aW func62 fun Γ=>?_
 simp only[lA,aB,ar,au,av]at h;rcases h with⟨h0,h⟩|⟨h0,x0,h1,h⟩
 ·obtain rfl:=oK h;exact gr 8 [] [nL al.enc l,bT h0]
 ·cases h;exact gr 9 [] [nL al.enc l,bF h0,cE al.enc h1,nL ai x0.cap]
def zU(Γ:bu)(rv:Bool)(cf:Cf):Prop:=Go prog f199 [] Γ (one (.bool rv)) [] cf
def EL(Γ:bu)(rv:Bool)(l:List al)(eK:Int)(name:ByteArray)(i:Int):Prop:=zU Γ rv ⟨[.c 52,.l 52,.b 0,.c 7],⟨20,[vL 0 14 l al.enc,vI 1 eK,vS 2 name,vI 7 i],[]⟩⟩
def Dz(Γ:bu)(rv:Bool)(l:List al)(eK:Int)(name:ByteArray):Prop:=zU Γ rv ⟨[.c 7],⟨20,[],[]⟩⟩
theorem DA(Γ:bu)(rv:Bool){l eK name}:∀⦃s:Int⦄ ⦃e:(Unit)⊕(Bool)⦄,aL (fun s=>fP l eK name s) s=some e→iD e (fun e=>Dz Γ rv l eK name) (fun e=>e=rv)→EL Γ rv l eK name s:=by
 refine bl ?_
 intro i z_ h hI hE;simp only[fP,aB,ar,au,av]at h;rcases h with⟨h0,x0,h1,⟨h2,h⟩|⟨h2,h⟩⟩|⟨h0,h⟩
 ·obtain rfl:=(hE h:_=rv);exact gr 12 [] [bT h0,cE al.enc h1,bT h2]
 ·exact gn 14 [0,1,2,7] [] [bT h0,cE al.enc h1,bF h2] (hI h)
 ·exact gn 5 [] [] [bF h0] (hE h)
theorem yV{l eK name}{rv:Bool}(h:pP l eK name=some rv):dv prog 199 [.one (lL 14 l al.enc),.one (lI eK),.one (.str name)] [] (one (.bool rv)) []:=by
 refine aW func199 fun Γ=>?_
 simp only[pP,aB,ar,au,av]at h;obtain⟨e0,h3,h⟩:=h;refine gn 7 [0,1,2,7] [] [] (DA Γ rv h3 ?_);rcases e0 with e0|r
 ·obtain rfl:=oK h;exact gr 2 [] []
 ·exact oK h
def w9(Γ:bu)(rv:Bool)(cf:Cf):Prop:=Go prog f200 [] Γ (one (.bool rv)) [] cf
def BI(Γ:bu)(rv:Bool)(l:List Int)(i:Int):Prop:=w9 Γ rv ⟨[.c 116,.l 116,.b 0,.c 15],⟨28,[vL 0 1 l ai,vI 5 i],[]⟩⟩
def AP(Γ:bu)(rv:Bool)(l:List Int):Prop:=w9 Γ rv ⟨[.c 15],⟨28,[],[]⟩⟩
theorem AQ(Γ:bu)(rv:Bool){l}:∀⦃s:Int⦄ ⦃e:(Unit)⊕(Bool)⦄,aL (fun s=>eN l s) s=some e→iD e (fun e=>AP Γ rv l) (fun e=>e=rv)→BI Γ rv l s:=by
 refine bl ?_
 intro i z_ h hI hE;simp only[eN,aB,ar,au,av]at h;rcases h with⟨h2,x0,h3,r1,h4,⟨h5,h⟩|⟨h5,h⟩⟩|⟨h2,h⟩
 ·exact gn 14 [0,5] [] [nL ai l,bT h2,cE ai h3,cC (aF h4),nF h5] (hI h)
 ·obtain rfl:=(hE h:_=rv);exact gr 12 [] [nL ai l,bT h2,cE ai h3,cC (aF h4),nT h5]
 ·exact gn 5 [] [] [nL ai l,bF h2] (hE h)
theorem mz{l cO}{rv:Bool}(h:jA l cO=some rv):dv prog 200 [.one (lL 1 l ai),.one (lI cO)] [] (one (.bool rv)) []:=by
 refine aW func200 fun Γ=>?_
 simp only[jA,aB,ar,au,av]at h;rcases h with⟨r,h0,⟨h1,h⟩|⟨h1,e0,h6,h⟩⟩
 ·obtain rfl:=oK h;exact gr 8 [] [nL ai l,cC (aF h0),hP,hP,oI ((!r)=false),nL ai l,hP,hP,hP,rp 2 (oI ((!r)=false)),oR True ((!r)=false),bT h1]
 ·refine gn 12 [0,5] [] [nL ai l,cC (aF h0),hP,hP,oI ((!r)=false),nL ai l,hP,hP,hP,rp 2 (oI ((!r)=false)),oR True ((!r)=false),bF h1] (AQ Γ rv h6 ?_);rcases e0 with e0|r2
  ·obtain rfl:=oK h;exact gr 2 [] []
  ·exact oK h
def ec(Γ:bu)(rv:List Int)(cf:Cf):Prop:=Go prog f134 [] Γ (one (lL 1 rv ai)) [] cf
theorem vE(Γ:bu)(rv:List Int){x0 l8}(h:jI x0 l8=some rv):ec Γ rv ⟨[.c 4095],⟨125,[vP 7 0 14,vO 8 1 1 l8 ai],[oX 14 92 (al.enc x0),oS 1 37 l8 ai]⟩⟩:=by
 simp only[jI,aB,ar,au,av]at h;rcases h with⟨G8,Vo,⟨Qz,r12,h32,⟨Za,r13,h34,⟨h35,Rj,h36,⟨h37,h⟩|⟨h37,YI,h⟩⟩|⟨h35,h39,h⟩⟩|⟨Za,h40,h⟩⟩|⟨Qz,h41,h⟩⟩
 ·obtain rfl:=oK h;exact gr 7 [] [cC (aF Vo),rp 3 (nF Qz),cC (aF h32),rp 2 (nF Qz),rp 3 (nF Za),cC (aF h34),rp 2 (nF Za),rp 3 (nF h35),cC (aF h36),rp 2 (nF h35),nF h37,hW 5,hH (.jn 1),rp 3 (eL l8 ai)]
 ·cases h;exact gr 7 [] [cC (aF Vo),rp 3 (nF Qz),cC (aF h32),rp 2 (nF Qz),rp 3 (nF Za),cC (aF h34),rp 2 (nF Za),rp 3 (nF h35),cC (aF h36),rp 2 (nF h35),nT h37,oO (Eq.refl ([2].map ai).length),aO ai YI,hW 5,hH (.jn 3),rp 4 (oO (Eq.refl ((l8++[2]).map ai).length))]
 ·cases h;exact gr 7 [] [cC (aF Vo),rp 3 (nF Qz),cC (aF h32),rp 2 (nF Qz),rp 3 (nF Za),cC (aF h34),rp 2 (nF Za),rp 5 (nT h35),tT,oO (Eq.refl ([2].map ai).length),aO ai h39,hW 5,hH (.jn 3),rp 4 (oO (Eq.refl ((l8++[2]).map ai).length))]
 ·cases h;exact gr 7 [] [cC (aF Vo),rp 3 (nF Qz),cC (aF h32),rp 2 (nF Qz),rp 5 (nT Za),rp 6 tT,oO (Eq.refl ([2].map ai).length),aO ai h40,hW 5,hH (.jn 3),rp 4 (oO (Eq.refl ((l8++[2]).map ai).length))]
 ·cases h;exact gr 7 [] [cC (aF Vo),rp 5 (nT Qz),rp 11 tT,oO (Eq.refl ([2].map ai).length),aO ai h41,hW 5,hH (.jn 3),rp 4 (oO (Eq.refl ((l8++[2]).map ai).length))]
theorem vD(Γ:bu)(rv:List Int){x0 l7}(h:jH x0 l7=some rv):ec Γ rv ⟨[.c 2047],⟨125,[vP 7 0 14,vO 8 1 1 l7 ai],[oX 14 92 (al.enc x0),oS 1 37 l7 ai]⟩⟩:=by
 simp only[jH,aB,ar,au,av]at h;rcases h with⟨r9,L4,⟨Iw,My,WM,⟨Y9,h⟩|⟨Y9,Y_,h⟩⟩|⟨Iw,h42,H8,h43,⟨WN,r16,h45,⟨Tp,r17,XH,⟨Zb,r18,h49,⟨h50,h⟩|⟨h50,h51,h⟩⟩|⟨Zb,h52,h⟩⟩|⟨Tp,h53,h⟩⟩|⟨WN,h54,h⟩⟩⟩
 ·exact gn 5 [7,8] [0,1] [cC (aF L4),rp 3 (nF Iw),cC (aF WM),rp 2 (nF Iw),nF Y9] (vE Γ rv h)
 ·exact gn 5 [7,8] [0,3] [cC (aF L4),rp 3 (nF Iw),cC (aF WM),rp 2 (nF Iw),nT Y9,oO (Eq.refl ([16].map ai).length),aO ai Y_] (vE Γ rv h)
 ·cases h;exact gr 12 [] [cC (aF L4),rp 5 (nT Iw),tT,oO (Eq.refl ([16].map ai).length),aO ai h42,cC (aF h43),rp 3 (nF WN),cC (aF h45),rp 2 (nF WN),rp 3 (nF Tp),cC (aF XH),rp 2 (nF Tp),rp 3 (nF Zb),cC (aF h49),rp 2 (nF Zb),nF h50,hW 5,hH (.jn 3),rp 4 (oO (Eq.refl ((l7++[16]).map ai).length))]
 ·cases h;exact gr 12 [] [cC (aF L4),rp 5 (nT Iw),tT,oO (Eq.refl ([16].map ai).length),aO ai h42,cC (aF h43),rp 3 (nF WN),cC (aF h45),rp 2 (nF WN),rp 3 (nF Tp),cC (aF XH),rp 2 (nF Tp),rp 3 (nF Zb),cC (aF h49),rp 2 (nF Zb),nT h50,oO (Eq.refl ([2].map ai).length),aO ai h51,hW 5,hH (.jn 5),rp 4 (oO (Eq.refl (((l7++[16])++[2]).map ai).length))]
 ·cases h;exact gr 12 [] [cC (aF L4),rp 5 (nT Iw),tT,oO (Eq.refl ([16].map ai).length),aO ai h42,cC (aF h43),rp 3 (nF WN),cC (aF h45),rp 2 (nF WN),rp 3 (nF Tp),cC (aF XH),rp 2 (nF Tp),rp 5 (nT Zb),tT,oO (Eq.refl ([2].map ai).length),aO ai h52,hW 5,hH (.jn 5),rp 4 (oO (Eq.refl (((l7++[16])++[2]).map ai).length))]
 ·cases h;exact gr 12 [] [cC (aF L4),rp 5 (nT Iw),tT,oO (Eq.refl ([16].map ai).length),aO ai h42,cC (aF h43),rp 3 (nF WN),cC (aF h45),rp 2 (nF WN),rp 5 (nT Tp),rp 6 tT,oO (Eq.refl ([2].map ai).length),aO ai h53,hW 5,hH (.jn 5),rp 4 (oO (Eq.refl (((l7++[16])++[2]).map ai).length))]
 ·cases h;exact gr 12 [] [cC (aF L4),rp 5 (nT Iw),tT,oO (Eq.refl ([16].map ai).length),aO ai h42,cC (aF h43),rp 5 (nT WN),rp 11 tT,oO (Eq.refl ([2].map ai).length),aO ai h54,hW 5,hH (.jn 5),rp 4 (oO (Eq.refl (((l7++[16])++[2]).map ai).length))]
theorem vC(Γ:bu)(rv:List Int){x0 l6}(h:jG x0 l6=some rv):ec Γ rv ⟨[.c 1023],⟨125,[vP 7 0 14,vO 8 1 1 l6 ai],[oX 14 92 (al.enc x0),oS 1 37 l6 ai]⟩⟩:=by
 simp only[jG,aB,ar,au,av]at h;rcases h with⟨r8,Nh,⟨L2,L3,h⟩|⟨L2,h⟩⟩
 ·exact gn 5 [7,8] [0,3] [cC (aF Nh),rp 4 hP,rp 2 (oI ((!r8)=false)),oR True ((!r8)=false),bT L2,oO (Eq.refl ([15].map ai).length),aO ai L3] (vD Γ rv h)
 ·exact gn 5 [7,8] [0,1] [cC (aF Nh),rp 4 hP,rp 2 (oI ((!r8)=false)),oR True ((!r8)=false),bF L2] (vD Γ rv h)
theorem vA(Γ:bu)(rv:List Int){x0 l5}(h:jF x0 l5=some rv):ec Γ rv ⟨[.c 511],⟨125,[vP 7 0 14,vO 8 1 1 l5 ai],[oX 14 92 (al.enc x0),oS 1 37 l5 ai]⟩⟩:=by
 simp only[jF,aB,ar,au,av]at h;rcases h with⟨r7,AD,⟨Ed,h⟩|⟨Ed,G0,h⟩⟩
 ·exact gn 5 [7,8] [0,1] [cC (aF AD),nF Ed] (vC Γ rv h)
 ·exact gn 5 [7,8] [0,3] [cC (aF AD),nT Ed,oO (Eq.refl ([18].map ai).length),aO ai G0] (vC Γ rv h)
theorem vz(Γ:bu)(rv:List Int){l x0 l4}(h:jE l x0 l4=some rv):ec Γ rv ⟨[.c 255],⟨125,[vL 1 14 l al.enc,vP 7 0 14,vO 8 1 1 l4 ai],[oX 14 92 (al.enc x0),oS 1 37 l4 ai]⟩⟩:=by
 simp only[jE,aB,ar,au,av]at h;rcases h with⟨r5,qx,r6,sH,⟨uu,h⟩|⟨uu,E4,h⟩⟩
 ·exact gn 5 [7,8] [0,1] [hH (.draw 6 []),cC (nt qx),cC (mz sH),nF uu] (vA Γ rv h)
 ·exact gn 5 [7,8] [0,3] [hH (.draw 6 []),cC (nt qx),cC (mz sH),nT uu,oO (Eq.refl ([17].map ai).length),aO ai E4] (vA Γ rv h)
theorem uz(Γ:bu)(rv:List Int){x0 zR}(h:oF x0 zR=some rv):ec Γ rv ⟨[.c 4095],⟨125,[vP 7 0 14,vO 8 1 1 zR ai],[oX 14 92 (al.enc x0),oS 1 37 zR ai]⟩⟩:=by
 simp only[oF,aB,ar,au,av]at h;rcases h with⟨r25,h71,⟨h72,r26,h73,⟨h74,r27,h75,⟨h76,r28,h77,⟨h78,h⟩|⟨h78,h79,h⟩⟩|⟨h76,h80,h⟩⟩|⟨h74,h81,h⟩⟩|⟨h72,h82,h⟩⟩
 ·obtain rfl:=oK h;exact gr 7 [] [cC (aF h71),rp 3 (nF h72),cC (aF h73),rp 2 (nF h72),rp 3 (nF h74),cC (aF h75),rp 2 (nF h74),rp 3 (nF h76),cC (aF h77),rp 2 (nF h76),nF h78,hW 5,hH (.jn 1),rp 3 (eL zR ai)]
 ·cases h;exact gr 7 [] [cC (aF h71),rp 3 (nF h72),cC (aF h73),rp 2 (nF h72),rp 3 (nF h74),cC (aF h75),rp 2 (nF h74),rp 3 (nF h76),cC (aF h77),rp 2 (nF h76),nT h78,oO (Eq.refl ([2].map ai).length),aO ai h79,hW 5,hH (.jn 3),rp 4 (oO (Eq.refl ((zR++[2]).map ai).length))]
 ·cases h;exact gr 7 [] [cC (aF h71),rp 3 (nF h72),cC (aF h73),rp 2 (nF h72),rp 3 (nF h74),cC (aF h75),rp 2 (nF h74),rp 5 (nT h76),tT,oO (Eq.refl ([2].map ai).length),aO ai h80,hW 5,hH (.jn 3),rp 4 (oO (Eq.refl ((zR++[2]).map ai).length))]
 ·cases h;exact gr 7 [] [cC (aF h71),rp 3 (nF h72),cC (aF h73),rp 2 (nF h72),rp 5 (nT h74),rp 6 tT,oO (Eq.refl ([2].map ai).length),aO ai h81,hW 5,hH (.jn 3),rp 4 (oO (Eq.refl ((zR++[2]).map ai).length))]
 ·cases h;exact gr 7 [] [cC (aF h71),rp 5 (nT h72),rp 11 tT,oO (Eq.refl ([2].map ai).length),aO ai h82,hW 5,hH (.jn 3),rp 4 (oO (Eq.refl ((zR++[2]).map ai).length))]
theorem uy(Γ:bu)(rv:List Int){x0 u4}(h:oE x0 u4=some rv):ec Γ rv ⟨[.c 2047],⟨125,[vP 7 0 14,vO 8 1 1 u4 ai],[oX 14 92 (al.enc x0),oS 1 37 u4 ai]⟩⟩:=by
 simp only[oE,aB,ar,au,av]at h;rcases h with⟨r23,Zd,⟨Tq,r24,h68,⟨h69,h⟩|⟨h69,h70,h⟩⟩|⟨Tq,h83,r29,h84,⟨h85,r30,h86,⟨h87,r31,h88,⟨h89,r32,h90,⟨h91,h⟩|⟨h91,h92,h⟩⟩|⟨h89,h93,h⟩⟩|⟨h87,h94,h⟩⟩|⟨h85,h95,h⟩⟩⟩
 ·exact gn 5 [7,8] [0,1] [cC (aF Zd),rp 3 (nF Tq),cC (aF h68),rp 2 (nF Tq),nF h69] (uz Γ rv h)
 ·exact gn 5 [7,8] [0,3] [cC (aF Zd),rp 3 (nF Tq),cC (aF h68),rp 2 (nF Tq),nT h69,oO (Eq.refl ([16].map ai).length),aO ai h70] (uz Γ rv h)
 ·cases h;exact gr 12 [] [cC (aF Zd),rp 5 (nT Tq),tT,oO (Eq.refl ([16].map ai).length),aO ai h83,cC (aF h84),rp 3 (nF h85),cC (aF h86),rp 2 (nF h85),rp 3 (nF h87),cC (aF h88),rp 2 (nF h87),rp 3 (nF h89),cC (aF h90),rp 2 (nF h89),nF h91,hW 5,hH (.jn 3),rp 4 (oO (Eq.refl ((u4++[16]).map ai).length))]
 ·cases h;exact gr 12 [] [cC (aF Zd),rp 5 (nT Tq),tT,oO (Eq.refl ([16].map ai).length),aO ai h83,cC (aF h84),rp 3 (nF h85),cC (aF h86),rp 2 (nF h85),rp 3 (nF h87),cC (aF h88),rp 2 (nF h87),rp 3 (nF h89),cC (aF h90),rp 2 (nF h89),nT h91,oO (Eq.refl ([2].map ai).length),aO ai h92,hW 5,hH (.jn 5),rp 4 (oO (Eq.refl (((u4++[16])++[2]).map ai).length))]
 ·cases h;exact gr 12 [] [cC (aF Zd),rp 5 (nT Tq),tT,oO (Eq.refl ([16].map ai).length),aO ai h83,cC (aF h84),rp 3 (nF h85),cC (aF h86),rp 2 (nF h85),rp 3 (nF h87),cC (aF h88),rp 2 (nF h87),rp 5 (nT h89),tT,oO (Eq.refl ([2].map ai).length),aO ai h93,hW 5,hH (.jn 5),rp 4 (oO (Eq.refl (((u4++[16])++[2]).map ai).length))]
 ·cases h;exact gr 12 [] [cC (aF Zd),rp 5 (nT Tq),tT,oO (Eq.refl ([16].map ai).length),aO ai h83,cC (aF h84),rp 3 (nF h85),cC (aF h86),rp 2 (nF h85),rp 5 (nT h87),rp 6 tT,oO (Eq.refl ([2].map ai).length),aO ai h94,hW 5,hH (.jn 5),rp 4 (oO (Eq.refl (((u4++[16])++[2]).map ai).length))]
 ·cases h;exact gr 12 [] [cC (aF Zd),rp 5 (nT Tq),tT,oO (Eq.refl ([16].map ai).length),aO ai h83,cC (aF h84),rp 5 (nT h85),rp 11 tT,oO (Eq.refl ([2].map ai).length),aO ai h95,hW 5,hH (.jn 5),rp 4 (oO (Eq.refl (((u4++[16])++[2]).map ai).length))]
theorem ux(Γ:bu)(rv:List Int){x0 l10}(h:oD x0 l10=some rv):ec Γ rv ⟨[.c 1023],⟨125,[vP 7 0 14,vO 8 1 1 l10 ai],[oX 14 92 (al.enc x0),oS 1 37 l10 ai]⟩⟩:=by
 simp only[oD,aB,ar,au,av]at h;rcases h with⟨r22,Vp,⟨h64,Zc,h⟩|⟨h64,h⟩⟩
 ·exact gn 5 [7,8] [0,3] [cC (aF Vp),rp 4 hP,rp 2 (oI ((!r22)=false)),oR True ((!r22)=false),bT h64,oO (Eq.refl ([15].map ai).length),aO ai Zc] (uy Γ rv h)
 ·exact gn 5 [7,8] [0,1] [cC (aF Vp),rp 4 hP,rp 2 (oI ((!r22)=false)),oR True ((!r22)=false),bF h64] (uy Γ rv h)
theorem vF(Γ:bu)(rv:List Int){x0 l9}(h:pv x0 l9=some rv):ec Γ rv ⟨[.c 511],⟨125,[vP 7 0 14,vO 8 1 1 l9 ai],[oX 14 92 (al.enc x0),oS 1 37 l9 ai]⟩⟩:=by
 simp only[pv,aB,ar,au,av]at h;rcases h with⟨r21,h60,⟨h61,h⟩|⟨h61,h62,h⟩⟩
 ·exact gn 5 [7,8] [0,1] [cC (aF h60),nF h61] (ux Γ rv h)
 ·exact gn 5 [7,8] [0,3] [cC (aF h60),nT h61,oO (Eq.refl ([18].map ai).length),aO ai h62] (ux Γ rv h)
theorem vw(Γ:bu)(rv:List Int){n l x0 l3}(h:jD n l x0 l3=some rv):ec Γ rv ⟨[.c 127],⟨125,[vL 1 14 l al.enc,vP 3 0 2,vP 7 1 14,vO 8 2 1 l3 ai],[oX 2 25 (aD.enc n),oX 14 92 (al.enc x0),oS 1 37 l3 ai]⟩⟩:=by
 simp only[jD,aB,ar,au,av]at h;rcases h with⟨r3,dm,⟨fH,r4,gi,⟨iG,h⟩|⟨iG,nW,h⟩⟩|⟨fH,h55,Mz,h56,r20,h57,⟨h58,h⟩|⟨h58,h59,h⟩⟩⟩
 ·exact gn 5 [1,7,8] [1,2] [nL bO n.aV,cC (aF dm),rp 5 (nF fH),nL bO n.aV,rp 2 (nF fH),cC (aF gi),rp 2 (nF fH),nF iG] (vz Γ rv h)
 ·exact gn 5 [1,7,8] [1,4] [nL bO n.aV,cC (aF dm),rp 5 (nF fH),nL bO n.aV,rp 2 (nF fH),cC (aF gi),rp 2 (nF fH),nT iG,oO (Eq.refl ([11].map ai).length),aO ai nW] (vz Γ rv h)
 ·exact gn 10 [7,8] [1,4] [nL bO n.aV,cC (aF dm),rp 9 (nT fH),tT,oO (Eq.refl ([11].map ai).length),aO ai h55,hH (.draw 6 []),cC (nt h56),cC (mz h57),nF h58] (vF Γ rv h)
 ·exact gn 10 [7,8] [1,6] [nL bO n.aV,cC (aF dm),rp 9 (nT fH),tT,oO (Eq.refl ([11].map ai).length),aO ai h55,hH (.draw 6 []),cC (nt h56),cC (mz h57),nT h58,oO (Eq.refl ([17].map ai).length),aO ai h59] (vF Γ rv h)
theorem vu(Γ:bu)(rv:List Int){n l x0 l2}(h:jC n l x0 l2=some rv):ec Γ rv ⟨[.c 63],⟨125,[vL 1 14 l al.enc,vP 3 0 2,vP 7 1 14,vO 8 2 1 l2 ai],[oX 2 25 (aD.enc n),oX 14 92 (al.enc x0),oS 1 37 l2 ai]⟩⟩:=by
 simp only[jC,aB,ar,au,av]at h;rcases h with⟨r2,h7,⟨h8,h⟩|⟨h8,h9,h⟩⟩
 ·exact gn 5 [1,3,7,8] [0,1,2] [cC (aF h7),nF h8] (vw Γ rv h)
 ·exact gn 5 [1,3,7,8] [0,1,4] [cC (aF h7),nT h8,oO (Eq.refl ([22].map ai).length),aO ai h9] (vw Γ rv h)
theorem vq(Γ:bu)(rv:List Int){n l eK x0 l1}(h:jB n l eK x0 l1=some rv):ec Γ rv ⟨[.c 31],⟨125,[vL 1 14 l al.enc,vI 2 eK,vP 3 0 2,vP 7 1 14,vO 8 2 1 l1 ai],[oX 2 25 (aD.enc n),oX 14 92 (al.enc x0),oS 1 37 l1 ai]⟩⟩:=by
 simp only[jB,aB,ar,au,av]at h;rcases h with⟨r1,h4,⟨h5,h6,h⟩|⟨h5,h⟩⟩
 ·exact gn 5 [1,3,7,8] [0,1,4] [cC (yV h4),bT h5,oO (Eq.refl ([6].map ai).length),aO ai h6] (vu Γ rv h)
 ·exact gn 5 [1,3,7,8] [0,1,2] [cC (yV h4),bF h5] (vu Γ rv h)
theorem Hl{n l eK}{rv:List Int}(h:pQ n l eK=some rv):dv prog 134 [.agg (aD.enc n),.one (lL 14 l al.enc),.one (lI eK)] [] (one (lL 1 rv ai)) []:=by
 refine aW func134 fun Γ=>?_
 simp only[pQ,aB,ar,au,av]at h;rcases h with⟨x0,h0,r,h1,⟨h2,h⟩|⟨h2,h3,h⟩⟩
 ·exact gn 11 [1,2,3,7,8] [0,1,2] [cE al.enc h0,cC (ky h1),nF h2,hW 1,hH (.kH 8 1 37)] (vq Γ rv h)
 ·exact gn 11 [1,2,3,7,8] [0,1,3] [cE al.enc h0,cC (ky h1),nT h2,oO (Eq.refl ([5].map ai).length),aN (l:=([5]:List Int)) ai h3] (vq Γ rv h)
def nr(Γ:bu)(rv:List aa)(cf:Cf):Prop:=Go prog f60 [] Γ (one (lL 2 rv aa.enc)) [] cf
def EK(Γ:bu)(rv:List aa)(n:aD)(l:List al)(i:Int)(r1:List Int)(l3:List aa)(k:Int):Prop:=nr Γ rv ⟨[.c 31308,.l 31308,.b 2,.b 1,.c 979,.l 244,.b 0,.c 31],⟨44,[vL 1 14 l al.enc,vP 2 0 2,vO 5 1 2 l3 aa.enc,vI 6 i,vL 7 1 r1 ai,vI 8 k],[oX 2 25 (aD.enc n),oS 2 219 l3 aa.enc]⟩⟩
def Dx(Γ:bu)(rv:List aa)(n:aD)(l:List al)(i:Int)(r1:List Int)(l4:List aa):Prop:=nr Γ rv ⟨[.b 1,.c 979,.l 244,.b 0,.c 31],⟨44,[vL 1 14 l al.enc,vP 2 0 2,vO 5 1 2 l4 aa.enc,vI 6 i],[oX 2 25 (aD.enc n),oS 2 219 l4 aa.enc]⟩⟩
def EJ(Γ:bu)(rv:List aa)(n:aD)(l:List al)(l2:List aa)(i:Int):Prop:=nr Γ rv ⟨[.c 244,.l 244,.b 0,.c 31],⟨44,[vL 1 14 l al.enc,vP 2 0 2,vO 5 1 2 l2 aa.enc,vI 6 i],[oX 2 25 (aD.enc n),oS 2 219 l2 aa.enc]⟩⟩
def Dv(Γ:bu)(rv:List aa)(n:aD)(l:List al)(l5:List aa):Prop:=nr Γ rv ⟨[.c 31],⟨44,[vO 5 0 2 l5 aa.enc],[oS 2 219 l5 aa.enc]⟩⟩
theorem Dy(Γ:bu)(rv:List aa){n l i r1}:∀⦃s:List aa×Int⦄ ⦃e:List aa⦄,aL (fun s=>th n l i r1 s.1 s.2) s=some e→Dx Γ rv n l i r1 e→EK Γ rv n l i r1 s.1 s.2:=by
 refine bl ?_
 rintro⟨l3,k⟩ z_ h hI hE;simp only[th,aB,ar,au,av]at h;rcases h with⟨h5,x0,h6,r2,h7,h8,h⟩|⟨h5,h⟩
 ·exact gn 11 [1,2,5,6,7,8] [0,3] [nL ai r1,bT h5,hH (.draw 9 []),cE ai h6,cC (eG h7),oO (Eq.refl ([(aa.mk x0 r2)].map aa.enc).length),aO aa.enc h8] (hI h)
 ·exact gn 5 [1,2,5,6] [0,1] [nL ai r1,bF h5] (hE h)
theorem Dw(Γ:bu)(rv:List aa){n l}:∀⦃s:List aa×Int⦄ ⦃e:List aa⦄,aL (fun s=>gR n l s.1 s.2) s=some e→Dv Γ rv n l e→EJ Γ rv n l s.1 s.2:=by
 refine bl ?_
 rintro⟨l2,i⟩ z_ h hI hE;simp only[gR,aB,ar,au,av]at h;rcases h with⟨h3,r1,h4,l4,h9,h⟩|⟨h3,h⟩
 ·refine gn 13 [1,2,5,6,7,8] [0,1] [nL al.enc l,bT h3,cC (Hl h4)] (Dy Γ rv h9 ?_);exact gn 3 [1,2,5,6] [0,1] [] (hI h)
 ·exact gn 5 [5] [1] [nL al.enc l,bF h3] (hE h)
theorem vo(Γ:bu)(rv:List aa){n l l1}(h:mc n l l1=some rv):nr Γ rv ⟨[.c 15],⟨44,[vL 1 14 l al.enc,vP 2 0 2,vO 5 1 2 l1 aa.enc],[oX 2 25 (aD.enc n),oS 2 219 l1 aa.enc]⟩⟩:=by
 simp only[mc,aB,ar,au,av]at h;obtain⟨l5,dm,h⟩:=h;refine gn 5 [1,2,5,6] [0,1] [] (Dw Γ rv dm ?_);obtain rfl:=oK h;exact gr 2 [] [hW 4,hH (.jn 0),rp 3 (eL l5 aa.enc)]
theorem Hk{n l}{rv:List aa}(h:pO n l=some rv):dv prog 60 [.agg (aD.enc n),.one (lL 14 l al.enc)] [] (one (lL 2 rv aa.enc)) []:=by
 refine aW func60 fun Γ=>?_
 simp only[pO,aB,ar,au,av]at h;rcases h with⟨r,h0,⟨h1,h⟩|⟨h1,h2,h⟩⟩
 ·exact gn 9 [1,2,5] [0,1] [nL al.enc l,cC (aF h0),nF h1,hW 1,hH (.kH 5 2 219)] (vo Γ rv h)
 ·exact gn 9 [1,2,5] [0,2] [nL al.enc l,cC (aF h0),nT h1,oO (Eq.refl ([(aa.mk 4 ByteArray.empty)].map aa.enc).length),aN (l:=([(aa.mk 4 ByteArray.empty)]:List aa)) aa.enc h2] (vo Γ rv h)
def zS(Γ:bu)(rv:Bool)(cf:Cf):Prop:=Go prog f201 [] Γ (one (.bool rv)) [] cf
def EH(Γ:bu)(rv:Bool)(a:List Int)(i:Int):Prop:=zS Γ rv ⟨[.c 116,.l 116,.b 0,.c 15],⟨28,[vL 0 1 a ai,vI 5 i],[]⟩⟩
def Dp(Γ:bu)(rv:Bool)(a:List Int):Prop:=zS Γ rv ⟨[.c 15],⟨28,[],[]⟩⟩
theorem Dq(Γ:bu)(rv:Bool){a}:∀⦃s:Int⦄ ⦃e:(Unit)⊕(Bool)⦄,aL (fun s=>fO a s) s=some e→iD e (fun e=>Dp Γ rv a) (fun e=>e=rv)→EH Γ rv a s:=by
 refine bl ?_
 intro i z_ h hI hE;simp only[fO,aB,ar,au,av]at h;rcases h with⟨h1,x0,h2,⟨h3,h⟩|⟨h3,⟨h4,h⟩|⟨h4,h⟩⟩⟩|⟨h1,h⟩
 ·obtain rfl:=(hE h:_=rv);exact gr 12 [] [nL ai a,bT h1,cE ai h2,rp 6 (bT h3),tT]
 ·obtain rfl:=(hE h:_=rv);exact gr 12 [] [nL ai a,bT h1,cE ai h2,rp 3 (bF h3),cE ai h2,rp 3 (bF h3),bT h4]
 ·exact gn 14 [0,5] [] [nL ai a,bT h1,cE ai h2,rp 3 (bF h3),cE ai h2,rp 3 (bF h3),bF h4] (hI h)
 ·exact gn 5 [] [] [nL ai a,bF h1] (hE h)
theorem yU{a cO}{rv:Bool}(h:mT a cO=some rv):dv prog 201 [.one (lL 1 a ai),.one (lI cO)] [] (one (.bool rv)) []:=by
 refine aW func201 fun Γ=>?_
 simp only[mT,aB,ar,au,av]at h;rcases h with⟨h0,h⟩|⟨h0,e0,h5,h⟩
 ·obtain rfl:=oK h;exact gr 8 [] [nL ai a,bT h0]
 ·refine gn 12 [0,5] [] [nL ai a,bF h0] (Dq Γ rv h5 ?_);rcases e0 with e0|r
  ·obtain rfl:=oK h;exact gr 2 [] []
  ·exact oK h
theorem bB{n low high}{rv:Bool}(h:eu n low high=some rv):dv prog 202 [.one (lI n),.one (lI low),.one (lI high)] [] (one (.bool rv)) []:=by
 refine aW func202 fun Γ=>?_
 simp only[eu,aB,ar,au,av]at h;cases h;exact gr 4 [] [rp 4 hP,rp 2 (oI ((cD n low)=true)),oR True ((cD n low)=true)]
theorem dG{s0}{rv:Int}(h:iM s0=some rv):dv prog 203 [.agg (a6.enc s0)] [] (one (lI rv)) []:=by
 refine aW func203 fun Γ=>?_
 simp only[iM,aB,ar,au,av]at h;rcases h with⟨h0,h⟩|⟨h0,⟨h1,h⟩|⟨h1,h⟩⟩
 ·obtain rfl:=oK h;exact gr 8 [] [rp 12 hP,rp 2 (oI ((cM s0.place (-1))=true)),oR True ((cM s0.place (-1))=true),rp 2 (oI (((cM s0.place (-1))&&(cM s0.bJ 0))=true)),oR True (((cM s0.place (-1))&&(cM s0.bJ 0))=true),rp 2 (oI ((((cM s0.place (-1))&&(cM s0.bJ 0))&&(cM s0.b9 0))=true)),oR True ((((cM s0.place (-1))&&(cM s0.bJ 0))&&(cM s0.b9 0))=true),bT h0]
 ·obtain rfl:=oK h;exact gr 13 [] [rp 12 hP,rp 2 (oI ((cM s0.place (-1))=true)),oR True ((cM s0.place (-1))=true),rp 2 (oI (((cM s0.place (-1))&&(cM s0.bJ 0))=true)),oR True (((cM s0.place (-1))&&(cM s0.bJ 0))=true),rp 2 (oI ((((cM s0.place (-1))&&(cM s0.bJ 0))&&(cM s0.b9 0))=true)),oR True ((((cM s0.place (-1))&&(cM s0.bJ 0))&&(cM s0.b9 0))=true),bF h0,rp 22 hP,rp 2 (oI ((bh s0.place 0)=false)),oR True ((bh s0.place 0)=false),rp 4 (oI (((bh s0.place 0)||(bh s0.bJ 0))=false)),oR True (((bh s0.place 0)||(bh s0.bJ 0))=false),rp 2 (oI ((((bh s0.place 0)||(bh s0.bJ 0))||(dp s0.bJ s0.b9))=false)),oR True ((((bh s0.place 0)||(bh s0.bJ 0))||(dp s0.bJ s0.b9))=false),rp 2 (oI (((((bh s0.place 0)||(bh s0.bJ 0))||(dp s0.bJ s0.b9))||(dp s0.b9 4096))=false)),oR True (((((bh s0.place 0)||(bh s0.bJ 0))||(dp s0.bJ s0.b9))||(dp s0.b9 4096))=false),rp 2 (oI ((((((bh s0.place 0)||(bh s0.bJ 0))||(dp s0.bJ s0.b9))||(dp s0.b9 4096))||(bh s0.dn 0))=false)),oR True ((((((bh s0.place 0)||(bh s0.bJ 0))||(dp s0.bJ s0.b9))||(dp s0.b9 4096))||(bh s0.dn 0))=false),bT h1]
 ·obtain rfl:=oK h;exact gr 14 [] [rp 12 hP,rp 2 (oI ((cM s0.place (-1))=true)),oR True ((cM s0.place (-1))=true),rp 2 (oI (((cM s0.place (-1))&&(cM s0.bJ 0))=true)),oR True (((cM s0.place (-1))&&(cM s0.bJ 0))=true),rp 2 (oI ((((cM s0.place (-1))&&(cM s0.bJ 0))&&(cM s0.b9 0))=true)),oR True ((((cM s0.place (-1))&&(cM s0.bJ 0))&&(cM s0.b9 0))=true),bF h0,rp 22 hP,rp 2 (oI ((bh s0.place 0)=false)),oR True ((bh s0.place 0)=false),rp 4 (oI (((bh s0.place 0)||(bh s0.bJ 0))=false)),oR True (((bh s0.place 0)||(bh s0.bJ 0))=false),rp 2 (oI ((((bh s0.place 0)||(bh s0.bJ 0))||(dp s0.bJ s0.b9))=false)),oR True ((((bh s0.place 0)||(bh s0.bJ 0))||(dp s0.bJ s0.b9))=false),rp 2 (oI (((((bh s0.place 0)||(bh s0.bJ 0))||(dp s0.bJ s0.b9))||(dp s0.b9 4096))=false)),oR True (((((bh s0.place 0)||(bh s0.bJ 0))||(dp s0.bJ s0.b9))||(dp s0.b9 4096))=false),rp 2 (oI ((((((bh s0.place 0)||(bh s0.bJ 0))||(dp s0.bJ s0.b9))||(dp s0.b9 4096))||(bh s0.dn 0))=false)),oR True ((((((bh s0.place 0)||(bh s0.bJ 0))||(dp s0.bJ s0.b9))||(dp s0.b9 4096))||(bh s0.dn 0))=false),bF h1]
def dF(Γ:bu)(rv:List Int)(cf:Cf):Prop:=Go prog f136 [] Γ (one (lL 1 rv ai)) [] cf
def EO(Γ:bu)(rv:List Int)(aV cO types:Int)(l:List ag)(eK:Int)(x0:ag)(l1:List Int)(i:Int):Prop:=dF Γ rv ⟨[.c 500,.l 500,.b 0,.c 63],⟨156,[vI 0 aV,vI 1 cO,vI 2 types,vL 3 16 l ag.enc,vI 4 eK,vO 11 0 1 l1 ai,vP 12 1 16,vI 13 i],[oS 1 37 l1 ai,oX 16 69 (ag.enc x0)]⟩⟩
def DF(Γ:bu)(rv:List Int)(aV cO types:Int)(l:List ag)(eK:Int)(x0:ag)(l1 l2:List Int):Prop:=dF Γ rv ⟨[.c 63],⟨156,[vI 0 aV,vI 1 cO,vI 2 types,vO 11 0 1 l2 ai,vP 12 1 16],[oS 1 37 l2 ai,oX 16 69 (ag.enc x0)]⟩⟩
theorem DG(Γ:bu)(rv:List Int){aV cO types l eK x0 l1}:∀⦃s:Int⦄ ⦃e:List Int⦄,aL (fun s=>fR aV cO types l eK x0 l1 s) s=some e→DF Γ rv aV cO types l eK x0 l1 e→EO Γ rv aV cO types l eK x0 l1 s:=by
 refine bl ?_
 intro i z_ h hI hE;simp only[fR,aB,ar,au,av]at h;rcases h with⟨h4,x1,h5,⟨h6,h7,h⟩|⟨h6,h⟩⟩|⟨h4,h⟩
 ·exact gn 13 [0,1,2,11,12] [3,1] [bT h4,hH (.draw 8 []),cE ag.enc h5,bT h6,oO (Eq.refl ([6].map ai).length),aO ai h7] (hE h)
 ·exact gn 14 [0,1,2,3,4,11,12,13] [0,1] [bT h4,hH (.draw 8 []),cE ag.enc h5,bF h6] (hI h)
 ·exact gn 5 [0,1,2,11,12] [0,1] [bF h4] (hE h)
theorem vN(Γ:bu)(rv:List Int){types x0 l6}(h:jM types x0 l6=some rv):dF Γ rv ⟨[.c 2047],⟨156,[vI 2 types,vO 11 0 1 l6 ai,vP 12 1 16],[oS 1 37 l6 ai,oX 16 69 (ag.enc x0)]⟩⟩:=by
 simp only[jM,aB,ar,au,av]at h;rcases h with⟨r6,L4,⟨Iw,r7,WM,⟨Y9,Y_,h⟩|⟨Y9,h⟩⟩|⟨Iw,Vo,h⟩⟩
 ·cases h;exact gr 9 [] [rp 5 hP,rp 3 (oI ((cr x0.pick.place (-1))=true)),oR True ((cr x0.pick.place (-1))=true),cC (bB L4),rp 3 (nF Iw),cC (bB WM),rp 2 (nF Iw),rp 26 hP,rp 4 (oI ((!r7)=false)),oI (((!r7)=false)∧(dp x0.split 1)=true),oR True ((!r7)=false),rp 2 (oI (((!r7)||((dp x0.split 1)&&((cr x0.pick.place (-1))&&(cr x0.drop.place (-1)))))=false)),oR True (((!r7)||((dp x0.split 1)&&((cr x0.pick.place (-1))&&(cr x0.drop.place (-1)))))=false),rp 3 (oI ((((!r7)||((dp x0.split 1)&&((cr x0.pick.place (-1))&&(cr x0.drop.place (-1)))))||(bh x0.b8 (-1)))=false)),oR True ((((!r7)||((dp x0.split 1)&&((cr x0.pick.place (-1))&&(cr x0.drop.place (-1)))))||(bh x0.b8 (-1)))=false),rp 2 (oI (((((!r7)||((dp x0.split 1)&&((cr x0.pick.place (-1))&&(cr x0.drop.place (-1)))))||(bh x0.b8 (-1)))||(cD x0.b8 types))=false)),oR True (((((!r7)||((dp x0.split 1)&&((cr x0.pick.place (-1))&&(cr x0.drop.place (-1)))))||(bh x0.b8 (-1)))||(cD x0.b8 types))=false),rp 3 (oI ((((((!r7)||((dp x0.split 1)&&((cr x0.pick.place (-1))&&(cr x0.drop.place (-1)))))||(bh x0.b8 (-1)))||(cD x0.b8 types))||(bh x0.now (-1)))=false)),oR True ((((((!r7)||((dp x0.split 1)&&((cr x0.pick.place (-1))&&(cr x0.drop.place (-1)))))||(bh x0.b8 (-1)))||(cD x0.b8 types))||(bh x0.now (-1)))=false),bT Y9,oO (Eq.refl ([2].map ai).length),aO ai Y_,hW 5,hH (.jn 3),rp 4 (oO (Eq.refl ((l6++[2]).map ai).length))]
 ·obtain rfl:=oK h;exact gr 9 [] [rp 5 hP,rp 3 (oI ((cr x0.pick.place (-1))=true)),oR True ((cr x0.pick.place (-1))=true),cC (bB L4),rp 3 (nF Iw),cC (bB WM),rp 2 (nF Iw),rp 26 hP,rp 4 (oI ((!r7)=false)),oI (((!r7)=false)∧(dp x0.split 1)=true),oR True ((!r7)=false),rp 2 (oI (((!r7)||((dp x0.split 1)&&((cr x0.pick.place (-1))&&(cr x0.drop.place (-1)))))=false)),oR True (((!r7)||((dp x0.split 1)&&((cr x0.pick.place (-1))&&(cr x0.drop.place (-1)))))=false),rp 3 (oI ((((!r7)||((dp x0.split 1)&&((cr x0.pick.place (-1))&&(cr x0.drop.place (-1)))))||(bh x0.b8 (-1)))=false)),oR True ((((!r7)||((dp x0.split 1)&&((cr x0.pick.place (-1))&&(cr x0.drop.place (-1)))))||(bh x0.b8 (-1)))=false),rp 2 (oI (((((!r7)||((dp x0.split 1)&&((cr x0.pick.place (-1))&&(cr x0.drop.place (-1)))))||(bh x0.b8 (-1)))||(cD x0.b8 types))=false)),oR True (((((!r7)||((dp x0.split 1)&&((cr x0.pick.place (-1))&&(cr x0.drop.place (-1)))))||(bh x0.b8 (-1)))||(cD x0.b8 types))=false),rp 3 (oI ((((((!r7)||((dp x0.split 1)&&((cr x0.pick.place (-1))&&(cr x0.drop.place (-1)))))||(bh x0.b8 (-1)))||(cD x0.b8 types))||(bh x0.now (-1)))=false)),oR True ((((((!r7)||((dp x0.split 1)&&((cr x0.pick.place (-1))&&(cr x0.drop.place (-1)))))||(bh x0.b8 (-1)))||(cD x0.b8 types))||(bh x0.now (-1)))=false),bF Y9,hW 5,hH (.jn 0),rp 3 (eL l6 ai)]
 ·cases h;exact gr 9 [] [rp 5 hP,rp 3 (oI ((cr x0.pick.place (-1))=true)),oR True ((cr x0.pick.place (-1))=true),cC (bB L4),rp 5 (nT Iw),rp 4 tT,kF,rp 21 tT,oO (Eq.refl ([2].map ai).length),aO ai Vo,hW 5,hH (.jn 3),rp 4 (oO (Eq.refl ((l6++[2]).map ai).length))]
theorem vR(Γ:bu)(rv:List Int){types x0 l8}(h:pw types x0 l8=some rv):dF Γ rv ⟨[.c 2047],⟨156,[vI 2 types,vO 11 0 1 l8 ai,vP 12 1 16],[oS 1 37 l8 ai,oX 16 69 (ag.enc x0)]⟩⟩:=by
 simp only[pw,aB,ar,au,av]at h;rcases h with⟨My,h37,⟨YI,G8,h39,⟨h40,h41,h⟩|⟨h40,h⟩⟩|⟨YI,h42,h⟩⟩
 ·cases h;exact gr 9 [] [rp 5 hP,rp 3 (oI ((cr x0.pick.place (-1))=true)),oR True ((cr x0.pick.place (-1))=true),cC (bB h37),rp 3 (nF YI),cC (bB h39),rp 2 (nF YI),rp 26 hP,rp 4 (oI ((!G8)=false)),oI (((!G8)=false)∧(dp x0.split 1)=true),oR True ((!G8)=false),rp 2 (oI (((!G8)||((dp x0.split 1)&&((cr x0.pick.place (-1))&&(cr x0.drop.place (-1)))))=false)),oR True (((!G8)||((dp x0.split 1)&&((cr x0.pick.place (-1))&&(cr x0.drop.place (-1)))))=false),rp 3 (oI ((((!G8)||((dp x0.split 1)&&((cr x0.pick.place (-1))&&(cr x0.drop.place (-1)))))||(bh x0.b8 (-1)))=false)),oR True ((((!G8)||((dp x0.split 1)&&((cr x0.pick.place (-1))&&(cr x0.drop.place (-1)))))||(bh x0.b8 (-1)))=false),rp 2 (oI (((((!G8)||((dp x0.split 1)&&((cr x0.pick.place (-1))&&(cr x0.drop.place (-1)))))||(bh x0.b8 (-1)))||(cD x0.b8 types))=false)),oR True (((((!G8)||((dp x0.split 1)&&((cr x0.pick.place (-1))&&(cr x0.drop.place (-1)))))||(bh x0.b8 (-1)))||(cD x0.b8 types))=false),rp 3 (oI ((((((!G8)||((dp x0.split 1)&&((cr x0.pick.place (-1))&&(cr x0.drop.place (-1)))))||(bh x0.b8 (-1)))||(cD x0.b8 types))||(bh x0.now (-1)))=false)),oR True ((((((!G8)||((dp x0.split 1)&&((cr x0.pick.place (-1))&&(cr x0.drop.place (-1)))))||(bh x0.b8 (-1)))||(cD x0.b8 types))||(bh x0.now (-1)))=false),bT h40,oO (Eq.refl ([2].map ai).length),aO ai h41,hW 5,hH (.jn 3),rp 4 (oO (Eq.refl ((l8++[2]).map ai).length))]
 ·obtain rfl:=oK h;exact gr 9 [] [rp 5 hP,rp 3 (oI ((cr x0.pick.place (-1))=true)),oR True ((cr x0.pick.place (-1))=true),cC (bB h37),rp 3 (nF YI),cC (bB h39),rp 2 (nF YI),rp 26 hP,rp 4 (oI ((!G8)=false)),oI (((!G8)=false)∧(dp x0.split 1)=true),oR True ((!G8)=false),rp 2 (oI (((!G8)||((dp x0.split 1)&&((cr x0.pick.place (-1))&&(cr x0.drop.place (-1)))))=false)),oR True (((!G8)||((dp x0.split 1)&&((cr x0.pick.place (-1))&&(cr x0.drop.place (-1)))))=false),rp 3 (oI ((((!G8)||((dp x0.split 1)&&((cr x0.pick.place (-1))&&(cr x0.drop.place (-1)))))||(bh x0.b8 (-1)))=false)),oR True ((((!G8)||((dp x0.split 1)&&((cr x0.pick.place (-1))&&(cr x0.drop.place (-1)))))||(bh x0.b8 (-1)))=false),rp 2 (oI (((((!G8)||((dp x0.split 1)&&((cr x0.pick.place (-1))&&(cr x0.drop.place (-1)))))||(bh x0.b8 (-1)))||(cD x0.b8 types))=false)),oR True (((((!G8)||((dp x0.split 1)&&((cr x0.pick.place (-1))&&(cr x0.drop.place (-1)))))||(bh x0.b8 (-1)))||(cD x0.b8 types))=false),rp 3 (oI ((((((!G8)||((dp x0.split 1)&&((cr x0.pick.place (-1))&&(cr x0.drop.place (-1)))))||(bh x0.b8 (-1)))||(cD x0.b8 types))||(bh x0.now (-1)))=false)),oR True ((((((!G8)||((dp x0.split 1)&&((cr x0.pick.place (-1))&&(cr x0.drop.place (-1)))))||(bh x0.b8 (-1)))||(cD x0.b8 types))||(bh x0.now (-1)))=false),bF h40,hW 5,hH (.jn 0),rp 3 (eL l8 ai)]
 ·cases h;exact gr 9 [] [rp 5 hP,rp 3 (oI ((cr x0.pick.place (-1))=true)),oR True ((cr x0.pick.place (-1))=true),cC (bB h37),rp 5 (nT YI),rp 4 tT,kF,rp 21 tT,oO (Eq.refl ([2].map ai).length),aO ai h42,hW 5,hH (.jn 3),rp 4 (oO (Eq.refl ((l8++[2]).map ai).length))]
theorem vQ(Γ:bu)(rv:List Int){types x0 l7}(h:jN types x0 l7=some rv):dF Γ rv ⟨[.c 1023],⟨156,[vI 2 types,vO 11 0 1 l7 ai,vP 12 1 16],[oS 1 37 l7 ai,oX 16 69 (ag.enc x0)]⟩⟩:=by
 simp only[jN,aB,ar,au,av]at h;rcases h with⟨r9,h34,⟨h35,h⟩|⟨h35,h36,h⟩⟩
 ·exact gn 5 [2,11,12] [0,1] [cC (bB h34),nF h35] (vR Γ rv h)
 ·exact gn 5 [2,11,12] [3,1] [cC (bB h34),nT h35,oO (Eq.refl ([18].map ai).length),aO ai h36] (vR Γ rv h)
theorem vM(Γ:bu)(rv:List Int){types x0 l5}(h:jL types x0 l5=some rv):dF Γ rv ⟨[.c 511],⟨156,[vI 2 types,vO 11 0 1 l5 ai,vP 12 1 16],[oS 1 37 l5 ai,oX 16 69 (ag.enc x0)]⟩⟩:=by
 simp only[jL,aB,ar,au,av]at h;rcases h with⟨r4,AD,⟨Ed,G0,r5,Nh,⟨L2,h⟩|⟨L2,L3,h⟩⟩|⟨Ed,r8,Qz,⟨h32,Za,h⟩|⟨h32,h⟩⟩⟩
 ·exact gn 10 [2,11,12] [3,1] [cC (dG AD),rp 5 (bT Ed),tT,oO (Eq.refl ([14].map ai).length),aO ai G0,cC (bB Nh),nF L2] (vN Γ rv h)
 ·exact gn 10 [2,11,12] [5,1] [cC (dG AD),rp 5 (bT Ed),tT,oO (Eq.refl ([14].map ai).length),aO ai G0,cC (bB Nh),nT L2,oO (Eq.refl ([18].map ai).length),aO ai L3] (vN Γ rv h)
 ·exact gn 5 [2,11,12] [3,1] [cC (dG AD),rp 3 (bF Ed),cC (dG Qz),rp 2 (bF Ed),bT h32,oO (Eq.refl ([14].map ai).length),aO ai Za] (vQ Γ rv h)
 ·exact gn 5 [2,11,12] [0,1] [cC (dG AD),rp 3 (bF Ed),cC (dG Qz),rp 2 (bF Ed),bF h32] (vQ Γ rv h)
theorem vK(Γ:bu)(rv:List Int){types x0 l4}(h:jK types x0 l4=some rv):dF Γ rv ⟨[.c 255],⟨156,[vI 2 types,vO 11 0 1 l4 ai,vP 12 1 16],[oS 1 37 l4 ai,oX 16 69 (ag.enc x0)]⟩⟩:=by
 simp only[jK,aB,ar,au,av]at h;rcases h with⟨uu,E4,h⟩|⟨uu,h⟩
 ·exact gn 5 [2,11,12] [3,1] [rp 5 hP,rp 3 (oI ((cM x0.pick.place (-1))=true)),oR True ((cM x0.pick.place (-1))=true),bT uu,oO (Eq.refl ([19].map ai).length),aO ai E4] (vM Γ rv h)
 ·exact gn 5 [2,11,12] [0,1] [rp 5 hP,rp 3 (oI ((cM x0.pick.place (-1))=true)),oR True ((cM x0.pick.place (-1))=true),bF uu] (vM Γ rv h)
theorem vU(Γ:bu)(rv:List Int){types x0 l10}(h:py types x0 l10=some rv):dF Γ rv ⟨[.c 2047],⟨156,[vI 2 types,vO 11 0 1 l10 ai,vP 12 1 16],[oS 1 37 l10 ai,oX 16 69 (ag.enc x0)]⟩⟩:=by
 simp only[py,aB,ar,au,av]at h;rcases h with⟨Rj,h52,⟨h53,H8,h54,⟨h55,h56,h⟩|⟨h55,h⟩⟩|⟨h53,h57,h⟩⟩
 ·cases h;exact gr 9 [] [rp 5 hP,rp 3 (oI ((cr x0.pick.place (-1))=true)),oR True ((cr x0.pick.place (-1))=true),cC (bB h52),rp 3 (nF h53),cC (bB h54),rp 2 (nF h53),rp 26 hP,rp 4 (oI ((!H8)=false)),oI (((!H8)=false)∧(dp x0.split 1)=true),oR True ((!H8)=false),rp 2 (oI (((!H8)||((dp x0.split 1)&&((cr x0.pick.place (-1))&&(cr x0.drop.place (-1)))))=false)),oR True (((!H8)||((dp x0.split 1)&&((cr x0.pick.place (-1))&&(cr x0.drop.place (-1)))))=false),rp 3 (oI ((((!H8)||((dp x0.split 1)&&((cr x0.pick.place (-1))&&(cr x0.drop.place (-1)))))||(bh x0.b8 (-1)))=false)),oR True ((((!H8)||((dp x0.split 1)&&((cr x0.pick.place (-1))&&(cr x0.drop.place (-1)))))||(bh x0.b8 (-1)))=false),rp 2 (oI (((((!H8)||((dp x0.split 1)&&((cr x0.pick.place (-1))&&(cr x0.drop.place (-1)))))||(bh x0.b8 (-1)))||(cD x0.b8 types))=false)),oR True (((((!H8)||((dp x0.split 1)&&((cr x0.pick.place (-1))&&(cr x0.drop.place (-1)))))||(bh x0.b8 (-1)))||(cD x0.b8 types))=false),rp 3 (oI ((((((!H8)||((dp x0.split 1)&&((cr x0.pick.place (-1))&&(cr x0.drop.place (-1)))))||(bh x0.b8 (-1)))||(cD x0.b8 types))||(bh x0.now (-1)))=false)),oR True ((((((!H8)||((dp x0.split 1)&&((cr x0.pick.place (-1))&&(cr x0.drop.place (-1)))))||(bh x0.b8 (-1)))||(cD x0.b8 types))||(bh x0.now (-1)))=false),bT h55,oO (Eq.refl ([2].map ai).length),aO ai h56,hW 5,hH (.jn 3),rp 4 (oO (Eq.refl ((l10++[2]).map ai).length))]
 ·obtain rfl:=oK h;exact gr 9 [] [rp 5 hP,rp 3 (oI ((cr x0.pick.place (-1))=true)),oR True ((cr x0.pick.place (-1))=true),cC (bB h52),rp 3 (nF h53),cC (bB h54),rp 2 (nF h53),rp 26 hP,rp 4 (oI ((!H8)=false)),oI (((!H8)=false)∧(dp x0.split 1)=true),oR True ((!H8)=false),rp 2 (oI (((!H8)||((dp x0.split 1)&&((cr x0.pick.place (-1))&&(cr x0.drop.place (-1)))))=false)),oR True (((!H8)||((dp x0.split 1)&&((cr x0.pick.place (-1))&&(cr x0.drop.place (-1)))))=false),rp 3 (oI ((((!H8)||((dp x0.split 1)&&((cr x0.pick.place (-1))&&(cr x0.drop.place (-1)))))||(bh x0.b8 (-1)))=false)),oR True ((((!H8)||((dp x0.split 1)&&((cr x0.pick.place (-1))&&(cr x0.drop.place (-1)))))||(bh x0.b8 (-1)))=false),rp 2 (oI (((((!H8)||((dp x0.split 1)&&((cr x0.pick.place (-1))&&(cr x0.drop.place (-1)))))||(bh x0.b8 (-1)))||(cD x0.b8 types))=false)),oR True (((((!H8)||((dp x0.split 1)&&((cr x0.pick.place (-1))&&(cr x0.drop.place (-1)))))||(bh x0.b8 (-1)))||(cD x0.b8 types))=false),rp 3 (oI ((((((!H8)||((dp x0.split 1)&&((cr x0.pick.place (-1))&&(cr x0.drop.place (-1)))))||(bh x0.b8 (-1)))||(cD x0.b8 types))||(bh x0.now (-1)))=false)),oR True ((((((!H8)||((dp x0.split 1)&&((cr x0.pick.place (-1))&&(cr x0.drop.place (-1)))))||(bh x0.b8 (-1)))||(cD x0.b8 types))||(bh x0.now (-1)))=false),bF h55,hW 5,hH (.jn 0),rp 3 (eL l10 ai)]
 ·cases h;exact gr 9 [] [rp 5 hP,rp 3 (oI ((cr x0.pick.place (-1))=true)),oR True ((cr x0.pick.place (-1))=true),cC (bB h52),rp 5 (nT h53),rp 4 tT,kF,rp 21 tT,oO (Eq.refl ([2].map ai).length),aO ai h57,hW 5,hH (.jn 3),rp 4 (oO (Eq.refl ((l10++[2]).map ai).length))]
theorem uB(Γ:bu)(rv:List Int){types x0 zR}(h:oH types x0 zR=some rv):dF Γ rv ⟨[.c 2047],⟨156,[vI 2 types,vO 11 0 1 zR ai,vP 12 1 16],[oS 1 37 zR ai,oX 16 69 (ag.enc x0)]⟩⟩:=by
 simp only[oH,aB,ar,au,av]at h;rcases h with⟨r18,h64,⟨Zc,Mz,Zd,⟨Tq,h68,h⟩|⟨Tq,h⟩⟩|⟨Zc,h69,h⟩⟩
 ·cases h;exact gr 9 [] [rp 5 hP,rp 3 (oI ((cr x0.pick.place (-1))=true)),oR True ((cr x0.pick.place (-1))=true),cC (bB h64),rp 3 (nF Zc),cC (bB Zd),rp 2 (nF Zc),rp 26 hP,rp 4 (oI ((!Mz)=false)),oI (((!Mz)=false)∧(dp x0.split 1)=true),oR True ((!Mz)=false),rp 2 (oI (((!Mz)||((dp x0.split 1)&&((cr x0.pick.place (-1))&&(cr x0.drop.place (-1)))))=false)),oR True (((!Mz)||((dp x0.split 1)&&((cr x0.pick.place (-1))&&(cr x0.drop.place (-1)))))=false),rp 3 (oI ((((!Mz)||((dp x0.split 1)&&((cr x0.pick.place (-1))&&(cr x0.drop.place (-1)))))||(bh x0.b8 (-1)))=false)),oR True ((((!Mz)||((dp x0.split 1)&&((cr x0.pick.place (-1))&&(cr x0.drop.place (-1)))))||(bh x0.b8 (-1)))=false),rp 2 (oI (((((!Mz)||((dp x0.split 1)&&((cr x0.pick.place (-1))&&(cr x0.drop.place (-1)))))||(bh x0.b8 (-1)))||(cD x0.b8 types))=false)),oR True (((((!Mz)||((dp x0.split 1)&&((cr x0.pick.place (-1))&&(cr x0.drop.place (-1)))))||(bh x0.b8 (-1)))||(cD x0.b8 types))=false),rp 3 (oI ((((((!Mz)||((dp x0.split 1)&&((cr x0.pick.place (-1))&&(cr x0.drop.place (-1)))))||(bh x0.b8 (-1)))||(cD x0.b8 types))||(bh x0.now (-1)))=false)),oR True ((((((!Mz)||((dp x0.split 1)&&((cr x0.pick.place (-1))&&(cr x0.drop.place (-1)))))||(bh x0.b8 (-1)))||(cD x0.b8 types))||(bh x0.now (-1)))=false),bT Tq,oO (Eq.refl ([2].map ai).length),aO ai h68,hW 5,hH (.jn 3),rp 4 (oO (Eq.refl ((zR++[2]).map ai).length))]
 ·obtain rfl:=oK h;exact gr 9 [] [rp 5 hP,rp 3 (oI ((cr x0.pick.place (-1))=true)),oR True ((cr x0.pick.place (-1))=true),cC (bB h64),rp 3 (nF Zc),cC (bB Zd),rp 2 (nF Zc),rp 26 hP,rp 4 (oI ((!Mz)=false)),oI (((!Mz)=false)∧(dp x0.split 1)=true),oR True ((!Mz)=false),rp 2 (oI (((!Mz)||((dp x0.split 1)&&((cr x0.pick.place (-1))&&(cr x0.drop.place (-1)))))=false)),oR True (((!Mz)||((dp x0.split 1)&&((cr x0.pick.place (-1))&&(cr x0.drop.place (-1)))))=false),rp 3 (oI ((((!Mz)||((dp x0.split 1)&&((cr x0.pick.place (-1))&&(cr x0.drop.place (-1)))))||(bh x0.b8 (-1)))=false)),oR True ((((!Mz)||((dp x0.split 1)&&((cr x0.pick.place (-1))&&(cr x0.drop.place (-1)))))||(bh x0.b8 (-1)))=false),rp 2 (oI (((((!Mz)||((dp x0.split 1)&&((cr x0.pick.place (-1))&&(cr x0.drop.place (-1)))))||(bh x0.b8 (-1)))||(cD x0.b8 types))=false)),oR True (((((!Mz)||((dp x0.split 1)&&((cr x0.pick.place (-1))&&(cr x0.drop.place (-1)))))||(bh x0.b8 (-1)))||(cD x0.b8 types))=false),rp 3 (oI ((((((!Mz)||((dp x0.split 1)&&((cr x0.pick.place (-1))&&(cr x0.drop.place (-1)))))||(bh x0.b8 (-1)))||(cD x0.b8 types))||(bh x0.now (-1)))=false)),oR True ((((((!Mz)||((dp x0.split 1)&&((cr x0.pick.place (-1))&&(cr x0.drop.place (-1)))))||(bh x0.b8 (-1)))||(cD x0.b8 types))||(bh x0.now (-1)))=false),bF Tq,hW 5,hH (.jn 0),rp 3 (eL zR ai)]
 ·cases h;exact gr 9 [] [rp 5 hP,rp 3 (oI ((cr x0.pick.place (-1))=true)),oR True ((cr x0.pick.place (-1))=true),cC (bB h64),rp 5 (nT Zc),rp 4 tT,kF,rp 21 tT,oO (Eq.refl ([2].map ai).length),aO ai h69,hW 5,hH (.jn 3),rp 4 (oO (Eq.refl ((zR++[2]).map ai).length))]
theorem uA(Γ:bu)(rv:List Int){types x0 u4}(h:oG types x0 u4=some rv):dF Γ rv ⟨[.c 1023],⟨156,[vI 2 types,vO 11 0 1 u4 ai,vP 12 1 16],[oS 1 37 u4 ai,oX 16 69 (ag.enc x0)]⟩⟩:=by
 simp only[oG,aB,ar,au,av]at h;rcases h with⟨r17,h61,⟨h62,h⟩|⟨h62,Vp,h⟩⟩
 ·exact gn 5 [2,11,12] [0,1] [cC (bB h61),nF h62] (uB Γ rv h)
 ·exact gn 5 [2,11,12] [3,1] [cC (bB h61),nT h62,oO (Eq.refl ([18].map ai).length),aO ai Vp] (uB Γ rv h)
theorem vT(Γ:bu)(rv:List Int){types x0 l9}(h:px types x0 l9=some rv):dF Γ rv ⟨[.c 511],⟨156,[vI 2 types,vO 11 0 1 l9 ai,vP 12 1 16],[oS 1 37 l9 ai,oX 16 69 (ag.enc x0)]⟩⟩:=by
 simp only[px,aB,ar,au,av]at h;rcases h with⟨r12,Tp,⟨XH,Zb,r13,h49,⟨h50,h⟩|⟨h50,h51,h⟩⟩|⟨XH,r16,h58,⟨h59,h60,h⟩|⟨h59,h⟩⟩⟩
 ·exact gn 10 [2,11,12] [3,1] [cC (dG Tp),rp 5 (bT XH),tT,oO (Eq.refl ([14].map ai).length),aO ai Zb,cC (bB h49),nF h50] (vU Γ rv h)
 ·exact gn 10 [2,11,12] [5,1] [cC (dG Tp),rp 5 (bT XH),tT,oO (Eq.refl ([14].map ai).length),aO ai Zb,cC (bB h49),nT h50,oO (Eq.refl ([18].map ai).length),aO ai h51] (vU Γ rv h)
 ·exact gn 5 [2,11,12] [3,1] [cC (dG Tp),rp 3 (bF XH),cC (dG h58),rp 2 (bF XH),bT h59,oO (Eq.refl ([14].map ai).length),aO ai h60] (uA Γ rv h)
 ·exact gn 5 [2,11,12] [0,1] [cC (dG Tp),rp 3 (bF XH),cC (dG h58),rp 2 (bF XH),bF h59] (uA Γ rv h)
theorem vJ(Γ:bu)(rv:List Int){aV types x0 l3}(h:fQ aV types x0 l3=some rv):dF Γ rv ⟨[.c 127],⟨156,[vI 0 aV,vI 2 types,vO 11 0 1 l3 ai,vP 12 1 16],[oS 1 37 l3 ai,oX 16 69 (ag.enc x0)]⟩⟩:=by
 simp only[fQ,aB,ar,au,av]at h;rcases h with⟨r2,gi,⟨iG,r3,nW,⟨qx,h⟩|⟨qx,sH,h⟩⟩|⟨iG,h43,⟨WN,h45,h⟩|⟨WN,h⟩⟩⟩
 ·exact gn 5 [2,11,12] [0,1] [cC (bB gi),rp 6 (nF iG),cC (bB nW),rp 2 (nF iG),nF qx] (vK Γ rv h)
 ·exact gn 5 [2,11,12] [3,1] [cC (bB gi),rp 6 (nF iG),cC (bB nW),rp 2 (nF iG),nT qx,oO (Eq.refl ([11].map ai).length),aO ai sH] (vK Γ rv h)
 ·exact gn 10 [2,11,12] [5,1] [cC (bB gi),rp 8 (nT iG),tT,oO (Eq.refl ([11].map ai).length),aO ai h43,rp 5 hP,rp 3 (oI ((cM x0.pick.place (-1))=true)),oR True ((cM x0.pick.place (-1))=true),bT WN,oO (Eq.refl ([19].map ai).length),aO ai h45] (vT Γ rv h)
 ·exact gn 10 [2,11,12] [3,1] [cC (bB gi),rp 8 (nT iG),tT,oO (Eq.refl ([11].map ai).length),aO ai h43,rp 5 hP,rp 3 (oI ((cM x0.pick.place (-1))=true)),oR True ((cM x0.pick.place (-1))=true),bF WN] (vT Γ rv h)
theorem vH(Γ:bu)(rv:List Int){aV cO types l eK x0 l1}(h:jJ aV cO types l eK x0 l1=some rv):dF Γ rv ⟨[.c 31],⟨156,[vI 0 aV,vI 1 cO,vI 2 types,vL 3 16 l ag.enc,vI 4 eK,vO 11 0 1 l1 ai,vP 12 1 16],[oS 1 37 l1 ai,oX 16 69 (ag.enc x0)]⟩⟩:=by
 simp only[jJ,aB,ar,au,av]at h;obtain⟨l2,h8,h⟩:=h;refine gn 5 [0,1,2,3,4,11,12,13] [0,1] [] (DG Γ rv h8 ?_);rcases h with⟨r1,h9,⟨dm,h⟩|⟨dm,fH,h⟩⟩
 ·exact gn 5 [0,2,11,12] [0,1] [cC (yU h9),nF dm] (vJ Γ rv h)
 ·exact gn 5 [0,2,11,12] [3,1] [cC (yU h9),nT dm,oO (Eq.refl ([17].map ai).length),aO ai fH] (vJ Γ rv h)
theorem Hn{aV cO types l eK}{rv:List Int}(h:pT aV cO types l eK=some rv):dv prog 136 [.one (lI aV),.one (lI cO),.one (lI types),.one (lL 16 l ag.enc),.one (lI eK)] [] (one (lL 1 rv ai)) []:=by
 refine aW func136 fun Γ=>?_
 simp only[pT,aB,ar,au,av]at h;rcases h with⟨x0,h0,r,h1,⟨h2,h⟩|⟨h2,h3,h⟩⟩
 ·exact gn 11 [0,1,2,3,4,11,12] [1,0] [cE ag.enc h0,cC (ky h1),nF h2,hW 1,hH (.kH 11 1 37)] (vH Γ rv h)
 ·exact gn 11 [0,1,2,3,4,11,12] [2,0] [cE ag.enc h0,cC (ky h1),nT h2,oO (Eq.refl ([5].map ai).length),aN (l:=([5]:List Int)) ai h3] (vH Γ rv h)
def nu(Γ:bu)(rv:List aa)(cf:Cf):Prop:=Go prog f61 [] Γ (one (lL 2 rv aa.enc)) [] cf
def EN(Γ:bu)(rv:List aa)(n:aD)(cO types:Int)(l:List ag)(i:Int)(r:List Int)(l3:List aa)(k:Int):Prop:=nu Γ rv ⟨[.c 31308,.l 31308,.b 2,.b 1,.c 979,.l 244,.b 0,.c 31],⟨51,[vI 1 cO,vI 2 types,vL 3 16 l ag.enc,vP 4 0 2,vO 9 1 2 l3 aa.enc,vI 10 i,vL 11 1 r ai,vI 12 k],[oX 2 25 (aD.enc n),oS 2 219 l3 aa.enc]⟩⟩
def DD(Γ:bu)(rv:List aa)(n:aD)(cO types:Int)(l:List ag)(i:Int)(r:List Int)(l4:List aa):Prop:=nu Γ rv ⟨[.b 1,.c 979,.l 244,.b 0,.c 31],⟨51,[vI 1 cO,vI 2 types,vL 3 16 l ag.enc,vP 4 0 2,vO 9 1 2 l4 aa.enc,vI 10 i],[oX 2 25 (aD.enc n),oS 2 219 l4 aa.enc]⟩⟩
def EM(Γ:bu)(rv:List aa)(n:aD)(cO types:Int)(l:List ag)(l2:List aa)(i:Int):Prop:=nu Γ rv ⟨[.c 244,.l 244,.b 0,.c 31],⟨51,[vI 1 cO,vI 2 types,vL 3 16 l ag.enc,vP 4 0 2,vO 9 1 2 l2 aa.enc,vI 10 i],[oX 2 25 (aD.enc n),oS 2 219 l2 aa.enc]⟩⟩
def DB(Γ:bu)(rv:List aa)(n:aD)(cO types:Int)(l:List ag)(l5:List aa):Prop:=nu Γ rv ⟨[.c 31],⟨51,[vO 9 0 2 l5 aa.enc],[oS 2 219 l5 aa.enc]⟩⟩
theorem DE(Γ:bu)(rv:List aa){n cO types l i r}:∀⦃s:List aa×Int⦄ ⦃e:List aa⦄,aL (fun s=>ti n cO types l i r s.1 s.2) s=some e→DD Γ rv n cO types l i r e→EN Γ rv n cO types l i r s.1 s.2:=by
 refine bl ?_
 rintro⟨l3,k⟩ z_ h hI hE;simp only[ti,aB,ar,au,av]at h;rcases h with⟨h4,x0,h5,r1,h6,h7,h⟩|⟨h4,h⟩
 ·exact gn 11 [1,2,3,4,9,10,11,12] [0,3] [nL ai r,bT h4,hH (.draw 9 []),cE ai h5,cC (eG h6),oO (Eq.refl ([(aa.mk x0 r1)].map aa.enc).length),aO aa.enc h7] (hI h)
 ·exact gn 5 [1,2,3,4,9,10] [0,1] [nL ai r,bF h4] (hE h)
theorem DC(Γ:bu)(rv:List aa){n cO types l}:∀⦃s:List aa×Int⦄ ⦃e:List aa⦄,aL (fun s=>gS n cO types l s.1 s.2) s=some e→DB Γ rv n cO types l e→EM Γ rv n cO types l s.1 s.2:=by
 refine bl ?_
 rintro⟨l2,i⟩ z_ h hI hE;simp only[gS,aB,ar,au,av]at h;rcases h with⟨h2,r,h3,l4,h8,h⟩|⟨h2,h⟩
 ·refine gn 13 [1,2,3,4,9,10,11,12] [0,1] [nL ag.enc l,bT h2,nL bO n.aV,cC (Hn h3)] (DE Γ rv h8 ?_);exact gn 3 [1,2,3,4,9,10] [0,1] [] (hI h)
 ·exact gn 5 [9] [1] [nL ag.enc l,bF h2] (hE h)
theorem vG(Γ:bu)(rv:List aa){n cO types l l1}(h:me n cO types l l1=some rv):nu Γ rv ⟨[.c 15],⟨51,[vI 1 cO,vI 2 types,vL 3 16 l ag.enc,vP 4 0 2,vO 9 1 2 l1 aa.enc],[oX 2 25 (aD.enc n),oS 2 219 l1 aa.enc]⟩⟩:=by
 simp only[me,aB,ar,au,av]at h;obtain⟨l5,h9,h⟩:=h;refine gn 5 [1,2,3,4,9,10] [0,1] [] (DC Γ rv h9 ?_);obtain rfl:=oK h;exact gr 2 [] [hW 4,hH (.jn 0),rp 3 (eL l5 aa.enc)]
theorem Hm{n cO types l}{rv:List aa}(h:pS n cO types l=some rv):dv prog 61 [.agg (aD.enc n),.one (lI cO),.one (lI types),.one (lL 16 l ag.enc)] [] (one (lL 2 rv aa.enc)) []:=by
 refine aW func61 fun Γ=>?_
 simp only[pS,aB,ar,au,av]at h;rcases h with⟨h0,h1,h⟩|⟨h0,h⟩
 ·exact gn 9 [1,2,3,4,9] [0,2] [nL ag.enc l,bT h0,oO (Eq.refl ([(aa.mk 4 ByteArray.empty)].map aa.enc).length),aN (l:=([(aa.mk 4 ByteArray.empty)]:List aa)) aa.enc h1] (vG Γ rv h)
 ·exact gn 9 [1,2,3,4,9] [0,1] [nL ag.enc l,bF h0,hW 1,hH (.kH 9 2 219)] (vG Γ rv h)
def yb(Γ:bu)(rv:ByteArray)(cf:Cf):Prop:=Go prog f204 [] Γ (one (.str rv)) [] cf
def Cw(Γ:bu)(rv:ByteArray)(n1:Int)(s0:ByteArray):Prop:=yb Γ rv ⟨[.c 56,.l 56,.b 0,.c 15],⟨23,[vI 0 n1,vS 3 s0],[]⟩⟩
def BJ(Γ:bu)(rv:ByteArray)(n2:Int)(s1:ByteArray):Prop:=yb Γ rv ⟨[.c 15],⟨23,[vI 0 n2,vS 3 s1],[]⟩⟩
theorem BK(Γ:bu)(rv:ByteArray):∀⦃s:Int×ByteArray⦄ ⦃e:Int×ByteArray⦄,aL (fun s=>kf s.1 s.2) s=some e→BJ Γ rv e.1 e.2→Cw Γ rv s.1 s.2:=by
 refine bl ?_
 rintro⟨n1,s0⟩ z_ h hI hE;simp only[kf,aB,ar,au,av]at h;rcases h with⟨h0,h1,h⟩|⟨h0,h⟩
 ·exact gn 11 [0,3] [] [bT h0,hH (.ints [(Ax .u8 (aU .i64 48 (uJ n1 10)))]),oO (oA (n:=10)),oO (Eq.refl ([(Ax .u8 (aU .i64 48 (uJ n1 10)))].map Qai).length),oO (Eq.refl (([(Ax .u8 (aU .i64 48 (uJ n1 10)))].map Qai):List (List Lf))),oO (h1),oO (oA (n:=10))] (hI h)
 ·exact gn 5 [0,3] [] [bF h0] (hE h)
theorem nP{n}{rv:ByteArray}(h:kC n=some rv):dv prog 204 [.one (lI n)] [] (one (.str rv)) []:=by
 refine aW func204 fun Γ=>?_
 simp only[kC,aB,ar,au,av]at h;obtain⟨⟨n2,s1⟩,h2,h⟩:=h;refine gn 7 [0,3] [] [] (BK Γ rv h2 ?_);obtain⟨h3,h⟩:=h;cases h;exact gr 2 [] [hH (.ints [(Ax .u8 (aU .i64 48 n2))]),oO (Eq.refl ([(Ax .u8 (aU .i64 48 n2))].map Qai).length),oO (Eq.refl (([(Ax .u8 (aU .i64 48 n2))].map Qai):List (List Lf))),oO (h3)]
def mf(Γ:bu)(rv:List aa)(cf:Cf):Prop:=Go prog f137 [] Γ (one (lL 2 rv aa.enc)) [] cf
def DI(Γ:bu)(rv:List aa)(ah:Int)(l:List aA)(word:ByteArray)(cU:Bool)(l2:List aa)(i:Int)(x0:aA)(r:ByteArray)(mR:Bool)(k:Int):Prop:=mf Γ rv ⟨[.c 1001972,.l 1001972,.b 2,.c 125247,.b 1,.c 979,.l 244,.b 0,.c 31],⟨123,[vI 0 ah,vL 1 2 l aA.enc,vS 2 word,vB 3 cU,vO 9 0 2 l2 aa.enc,vI 10 i,vI 11 x0.x0,vI 12 x0.x1,vS 13 (dC (dC word eQ) r),vB 14 mR,vI 15 k],[oS 2 219 l2 aa.enc]⟩⟩
def Cz(Γ:bu)(rv:List aa)(ah:Int)(l:List aA)(word:ByteArray)(cU:Bool)(l2:List aa)(i:Int)(x0:aA)(r:ByteArray)(qN:Bool):Prop:=mf Γ rv ⟨[.c 125247,.b 1,.c 979,.l 244,.b 0,.c 31],⟨123,[vI 0 ah,vL 1 2 l aA.enc,vS 2 word,vB 3 cU,vO 9 0 2 l2 aa.enc,vI 10 i,vS 13 (dC (dC word eQ) r),vB 14 qN],[oS 2 219 l2 aa.enc]⟩⟩
def DH(Γ:bu)(rv:List aa)(ah:Int)(l:List aA)(word:ByteArray)(cU:Bool)(l2:List aa)(i:Int):Prop:=mf Γ rv ⟨[.c 244,.l 244,.b 0,.c 31],⟨123,[vI 0 ah,vL 1 2 l aA.enc,vS 2 word,vB 3 cU,vO 9 0 2 l2 aa.enc,vI 10 i],[oS 2 219 l2 aa.enc]⟩⟩
def Cx(Γ:bu)(rv:List aa)(ah:Int)(l:List aA)(word:ByteArray)(cU:Bool)(l3:List aa):Prop:=mf Γ rv ⟨[.c 31],⟨123,[vO 9 0 2 l3 aa.enc],[oS 2 219 l3 aa.enc]⟩⟩
theorem CA(Γ:bu)(rv:List aa){ah l word cU l2 i x0 r}:∀⦃s:Bool×Int⦄ ⦃e:Bool⦄,aL (fun s=>kW ah l word cU l2 i x0 r s.1 s.2) s=some e→Cz Γ rv ah l word cU l2 i x0 r e→DI Γ rv ah l word cU l2 i x0 r s.1 s.2:=by
 refine bl ?_
 rintro⟨mR,k⟩ z_ h hI hE;simp only[kW,aB,ar,au,av]at h;rcases h with⟨h9,⟨dm,h⟩|⟨dm,x1,fH,⟨gi,⟨iG,h⟩|⟨iG,⟨nW,⟨qx,h⟩|⟨qx,h⟩⟩|⟨nW,h⟩⟩⟩|⟨gi,⟨sH,⟨uu,h⟩|⟨uu,h⟩⟩|⟨sH,h⟩⟩⟩⟩|⟨h9,h⟩
 ·exact gn 11 [0,1,2,3,9,10,11,12,13,14,15] [0] [bT h9,rp 8 (bT dm),rp 7 kF,rp 2 (bT dm),tT,tT,rp 7 kF,tT,tT,rp 7 kF,tT,tT] (hI h)
 ·exact gn 11 [0,1,2,3,9,10,11,12,13,14,15] [0] [bT h9,rp 3 (bF dm),cE aA.enc fH,bF dm,oO (zL 0),oO (lT 0 2),rp 4 (bF dm),rp 3 (bT gi),cE aA.enc fH,bT gi,oO (zL 1),oO (lT 1 2),rp 3 (bT gi),bF dm,bT gi,bF dm,rp 2 (bT iG),rp 7 kF,rp 2 (bT iG),rp 7 kF,rp 2 (bT iG)] (hI h)
 ·exact gn 11 [0,1,2,3,9,10,11,12,13,14,15] [0] [bT h9,rp 3 (bF dm),cE aA.enc fH,bF dm,oO (zL 0),oO (lT 0 2),rp 4 (bF dm),rp 3 (bT gi),cE aA.enc fH,bT gi,oO (zL 1),oO (lT 1 2),rp 3 (bT gi),bF dm,bT gi,bF dm,rp 2 (bF iG),rp 3 (bT nW),cE aA.enc fH,bT nW,oO (zL 0),oO (lT 0 2),rp 3 (bT nW),bF iG,bT nW,bF iG,rp 3 (bT qx),cE aA.enc fH,bT qx,oO (zL 1),oO (lT 1 2),rp 3 (bT qx),bF iG,bT qx,bF iG] (hI h)
 ·exact gn 11 [0,1,2,3,9,10,11,12,13,14,15] [0] [bT h9,rp 3 (bF dm),cE aA.enc fH,bF dm,oO (zL 0),oO (lT 0 2),rp 4 (bF dm),rp 3 (bT gi),cE aA.enc fH,bT gi,oO (zL 1),oO (lT 1 2),rp 3 (bT gi),bF dm,bT gi,bF dm,rp 2 (bF iG),rp 3 (bT nW),cE aA.enc fH,bT nW,oO (zL 0),oO (lT 0 2),rp 3 (bT nW),bF iG,bT nW,bF iG,rp 7 (bF qx),bF iG,bF qx,bF iG] (hI h)
 ·exact gn 11 [0,1,2,3,9,10,11,12,13,14,15] [0] [bT h9,rp 3 (bF dm),cE aA.enc fH,bF dm,oO (zL 0),oO (lT 0 2),rp 4 (bF dm),rp 3 (bT gi),cE aA.enc fH,bT gi,oO (zL 1),oO (lT 1 2),rp 3 (bT gi),bF dm,bT gi,bF dm,rp 2 (bF iG),rp 7 (bF nW),bF iG,bF nW,bF iG,rp 7 fF,bF iG,fF,bF iG] (hI h)
 ·exact gn 11 [0,1,2,3,9,10,11,12,13,14,15] [0] [bT h9,rp 3 (bF dm),cE aA.enc fH,bF dm,oO (zL 0),oO (lT 0 2),rp 4 (bF dm),rp 7 (bF gi),bF dm,bF gi,bF dm,fF,fF,rp 3 (bT sH),cE aA.enc fH,bT sH,oO (zL 0),oO (lT 0 2),rp 3 (bT sH),fF,bT sH,fF,rp 3 (bT uu),cE aA.enc fH,bT uu,oO (zL 1),oO (lT 1 2),rp 3 (bT uu),fF,bT uu,fF] (hI h)
 ·exact gn 11 [0,1,2,3,9,10,11,12,13,14,15] [0] [bT h9,rp 3 (bF dm),cE aA.enc fH,bF dm,oO (zL 0),oO (lT 0 2),rp 4 (bF dm),rp 7 (bF gi),bF dm,bF gi,bF dm,fF,fF,rp 3 (bT sH),cE aA.enc fH,bT sH,oO (zL 0),oO (lT 0 2),rp 3 (bT sH),fF,bT sH,fF,rp 7 (bF uu),fF,bF uu,fF] (hI h)
 ·exact gn 11 [0,1,2,3,9,10,11,12,13,14,15] [0] [bT h9,rp 3 (bF dm),cE aA.enc fH,bF dm,oO (zL 0),oO (lT 0 2),rp 4 (bF dm),rp 7 (bF gi),bF dm,bF gi,bF dm,fF,fF,rp 7 (bF sH),fF,bF sH,rp 11 fF] (hI h)
 ·exact gn 5 [0,1,2,3,9,10,13,14] [0] [bF h9] (hE h)
theorem Cy(Γ:bu)(rv:List aa){ah l word cU}:∀⦃s:List aa×Int⦄ ⦃e:List aa⦄,aL (fun s=>gl ah l word cU s.1 s.2) s=some e→Cx Γ rv ah l word cU e→DH Γ rv ah l word cU s.1 s.2:=by
 refine bl ?_
 rintro⟨l2,i⟩ z_ h hI hE;simp only[gl,aB,ar,au,av]at h;rcases h with⟨h2,x0,h3,h4,r,h5,h6,⟨h7,h8,h⟩|⟨h7,qN,E4,h⟩⟩|⟨h2,h⟩
 ·exact gn 22 [0,1,2,3,9,10] [2] [nL aA.enc l,bT h2,cE aA.enc h3,oO (zL 0),oO (lT 0 2),cE aA.enc h3,oO (zL 1),oO (lT 1 2),oO (h4),cC (nP h5),rp 15 hP,oO (h6),rp 2 (oI ((bh x0.x0 0)=false)),oR True ((bh x0.x0 0)=false),oI (((bh x0.x0 0)||(cD x0.x0 ah))=false),oR True (((bh x0.x0 0)||(cD x0.x0 ah))=false),rp 2 (oI ((((bh x0.x0 0)||(cD x0.x0 ah))||(bh x0.x1 0))=false)),oR True ((((bh x0.x0 0)||(cD x0.x0 ah))||(bh x0.x1 0))=false),rp 2 (oI (((((bh x0.x0 0)||(cD x0.x0 ah))||(bh x0.x1 0))||(cD x0.x1 ah))=false)),oR True (((((bh x0.x0 0)||(cD x0.x0 ah))||(bh x0.x1 0))||(cD x0.x1 ah))=false),bT h7,oO (Eq.refl ([(aa.mk 2 (dC (dC word eQ) r))].map aa.enc).length),aO aa.enc h8] (hI h)
 ·refine gn 25 [0,1,2,3,9,10,11,12,13,14,15] [0] [nL aA.enc l,bT h2,cE aA.enc h3,oO (zL 0),oO (lT 0 2),cE aA.enc h3,oO (zL 1),oO (lT 1 2),oO (h4),cC (nP h5),rp 15 hP,oO (h6),rp 2 (oI ((bh x0.x0 0)=false)),oR True ((bh x0.x0 0)=false),oI (((bh x0.x0 0)||(cD x0.x0 ah))=false),oR True (((bh x0.x0 0)||(cD x0.x0 ah))=false),rp 2 (oI ((((bh x0.x0 0)||(cD x0.x0 ah))||(bh x0.x1 0))=false)),oR True ((((bh x0.x0 0)||(cD x0.x0 ah))||(bh x0.x1 0))=false),rp 2 (oI (((((bh x0.x0 0)||(cD x0.x0 ah))||(bh x0.x1 0))||(cD x0.x1 ah))=false)),oR True (((((bh x0.x0 0)||(cD x0.x0 ah))||(bh x0.x1 0))||(cD x0.x1 ah))=false),bF h7] (CA Γ rv E4 ?_);rcases h with⟨AD,Ed,h⟩|⟨AD,h⟩
  ·exact gn 7 [0,1,2,3,9,10] [2] [bT AD,oO (Eq.refl ([(aa.mk 6 (dC (dC word eQ) r))].map aa.enc).length),aO aa.enc Ed] (hI h)
  ·exact gn 7 [0,1,2,3,9,10] [0] [bF AD] (hI h)
 ·exact gn 5 [9] [0] [nL aA.enc l,bF h2] (hE h)
theorem uC(Γ:bu)(rv:List aa){ah l word cU l1}(h:kV ah l word cU l1=some rv):mf Γ rv ⟨[.c 15],⟨123,[vI 0 ah,vL 1 2 l aA.enc,vS 2 word,vB 3 cU,vO 9 0 2 l1 aa.enc],[oS 2 219 l1 aa.enc]⟩⟩:=by
 simp only[kV,aB,ar,au,av]at h;obtain⟨l3,G0,h⟩:=h;refine gn 5 [0,1,2,3,9,10] [0] [] (Cy Γ rv G0 ?_);obtain rfl:=oK h;exact gr 2 [] [hW 4,hH (.jn 0),rp 3 (eL l3 aa.enc)]
theorem FP{ah l word cU}{rv:List aa}(h:oL ah l word cU=some rv):dv prog 137 [.one (lI ah),.one (lL 2 l aA.enc),.one (.str word),.one (.bool cU)] [] (one (lL 2 rv aa.enc)) []:=by
 refine aW func137 fun Γ=>?_
 simp only[oL,aB,ar,au,av]at h;rcases h with⟨h0,h1,h⟩|⟨h0,h⟩
 ·exact gn 9 [0,1,2,3,9] [1] [nL aA.enc l,bT h0,oO (Eq.refl ([(aa.mk 4 word)].map aa.enc).length),aN (l:=([(aa.mk 4 word)]:List aa)) aa.enc h1] (uC Γ rv h)
 ·exact gn 9 [0,1,2,3,9] [0] [nL aA.enc l,bF h0,hW 1,hH (.kH 9 2 219)] (uC Γ rv h)
def iN(Γ:bu)(rv:List aa)(cf:Cf):Prop:=Go prog f137 [] Γ (one (lO 0 2 rv aa.enc)) [oS 2 219 rv aa.enc] cf
def zW(Γ:bu)(rv:List aa)(ah:Int)(l:List aA)(word:ByteArray)(cU:Bool)(l2:List aa)(i:Int)(x0:aA)(r:ByteArray)(mR:Bool)(k:Int):Prop:=iN Γ rv ⟨[.c 1001972,.l 1001972,.b 2,.c 125247,.b 1,.c 979,.l 244,.b 0,.c 31],⟨123,[vI 0 ah,vL 1 2 l aA.enc,vS 2 word,vB 3 cU,vO 9 0 2 l2 aa.enc,vI 10 i,vI 11 x0.x0,vI 12 x0.x1,vS 13 (dC (dC word eQ) r),vB 14 mR,vI 15 k],[oS 2 219 l2 aa.enc]⟩⟩
def y9(Γ:bu)(rv:List aa)(ah:Int)(l:List aA)(word:ByteArray)(cU:Bool)(l2:List aa)(i:Int)(x0:aA)(r:ByteArray)(qN:Bool):Prop:=iN Γ rv ⟨[.c 125247,.b 1,.c 979,.l 244,.b 0,.c 31],⟨123,[vI 0 ah,vL 1 2 l aA.enc,vS 2 word,vB 3 cU,vO 9 0 2 l2 aa.enc,vI 10 i,vS 13 (dC (dC word eQ) r),vB 14 qN],[oS 2 219 l2 aa.enc]⟩⟩
def zV(Γ:bu)(rv:List aa)(ah:Int)(l:List aA)(word:ByteArray)(cU:Bool)(l2:List aa)(i:Int):Prop:=iN Γ rv ⟨[.c 244,.l 244,.b 0,.c 31],⟨123,[vI 0 ah,vL 1 2 l aA.enc,vS 2 word,vB 3 cU,vO 9 0 2 l2 aa.enc,vI 10 i],[oS 2 219 l2 aa.enc]⟩⟩
def y7(Γ:bu)(rv:List aa)(ah:Int)(l:List aA)(word:ByteArray)(cU:Bool)(l3:List aa):Prop:=iN Γ rv ⟨[.c 31],⟨123,[vO 9 0 2 l3 aa.enc],[oS 2 219 l3 aa.enc]⟩⟩
theorem y_(Γ:bu)(rv:List aa){ah l word cU l2 i x0 r}:∀⦃s:Bool×Int⦄ ⦃e:Bool⦄,aL (fun s=>o4 ah l word cU l2 i x0 r s.1 s.2) s=some e→y9 Γ rv ah l word cU l2 i x0 r e→zW Γ rv ah l word cU l2 i x0 r s.1 s.2:=by
 refine bl ?_
 rintro⟨mR,k⟩ z_ h hI hE;simp only[o4,aB,ar,au,av]at h;rcases h with⟨h9,⟨dm,h⟩|⟨dm,x1,fH,⟨gi,⟨iG,h⟩|⟨iG,⟨nW,⟨qx,h⟩|⟨qx,h⟩⟩|⟨nW,h⟩⟩⟩|⟨gi,⟨sH,⟨uu,h⟩|⟨uu,h⟩⟩|⟨sH,h⟩⟩⟩⟩|⟨h9,h⟩
 ·exact gn 11 [0,1,2,3,9,10,11,12,13,14,15] [0] [bT h9,rp 8 (bT dm),rp 7 kF,rp 2 (bT dm),tT,tT,rp 7 kF,tT,tT,rp 7 kF,tT,tT] (hI h)
 ·exact gn 11 [0,1,2,3,9,10,11,12,13,14,15] [0] [bT h9,rp 3 (bF dm),cE aA.enc fH,bF dm,oO (zL 0),oO (lT 0 2),rp 4 (bF dm),rp 3 (bT gi),cE aA.enc fH,bT gi,oO (zL 1),oO (lT 1 2),rp 3 (bT gi),bF dm,bT gi,bF dm,rp 2 (bT iG),rp 7 kF,rp 2 (bT iG),rp 7 kF,rp 2 (bT iG)] (hI h)
 ·exact gn 11 [0,1,2,3,9,10,11,12,13,14,15] [0] [bT h9,rp 3 (bF dm),cE aA.enc fH,bF dm,oO (zL 0),oO (lT 0 2),rp 4 (bF dm),rp 3 (bT gi),cE aA.enc fH,bT gi,oO (zL 1),oO (lT 1 2),rp 3 (bT gi),bF dm,bT gi,bF dm,rp 2 (bF iG),rp 3 (bT nW),cE aA.enc fH,bT nW,oO (zL 0),oO (lT 0 2),rp 3 (bT nW),bF iG,bT nW,bF iG,rp 3 (bT qx),cE aA.enc fH,bT qx,oO (zL 1),oO (lT 1 2),rp 3 (bT qx),bF iG,bT qx,bF iG] (hI h)
 ·exact gn 11 [0,1,2,3,9,10,11,12,13,14,15] [0] [bT h9,rp 3 (bF dm),cE aA.enc fH,bF dm,oO (zL 0),oO (lT 0 2),rp 4 (bF dm),rp 3 (bT gi),cE aA.enc fH,bT gi,oO (zL 1),oO (lT 1 2),rp 3 (bT gi),bF dm,bT gi,bF dm,rp 2 (bF iG),rp 3 (bT nW),cE aA.enc fH,bT nW,oO (zL 0),oO (lT 0 2),rp 3 (bT nW),bF iG,bT nW,bF iG,rp 7 (bF qx),bF iG,bF qx,bF iG] (hI h)
 ·exact gn 11 [0,1,2,3,9,10,11,12,13,14,15] [0] [bT h9,rp 3 (bF dm),cE aA.enc fH,bF dm,oO (zL 0),oO (lT 0 2),rp 4 (bF dm),rp 3 (bT gi),cE aA.enc fH,bT gi,oO (zL 1),oO (lT 1 2),rp 3 (bT gi),bF dm,bT gi,bF dm,rp 2 (bF iG),rp 7 (bF nW),bF iG,bF nW,bF iG,rp 7 fF,bF iG,fF,bF iG] (hI h)
 ·exact gn 11 [0,1,2,3,9,10,11,12,13,14,15] [0] [bT h9,rp 3 (bF dm),cE aA.enc fH,bF dm,oO (zL 0),oO (lT 0 2),rp 4 (bF dm),rp 7 (bF gi),bF dm,bF gi,bF dm,fF,fF,rp 3 (bT sH),cE aA.enc fH,bT sH,oO (zL 0),oO (lT 0 2),rp 3 (bT sH),fF,bT sH,fF,rp 3 (bT uu),cE aA.enc fH,bT uu,oO (zL 1),oO (lT 1 2),rp 3 (bT uu),fF,bT uu,fF] (hI h)
 ·exact gn 11 [0,1,2,3,9,10,11,12,13,14,15] [0] [bT h9,rp 3 (bF dm),cE aA.enc fH,bF dm,oO (zL 0),oO (lT 0 2),rp 4 (bF dm),rp 7 (bF gi),bF dm,bF gi,bF dm,fF,fF,rp 3 (bT sH),cE aA.enc fH,bT sH,oO (zL 0),oO (lT 0 2),rp 3 (bT sH),fF,bT sH,fF,rp 7 (bF uu),fF,bF uu,fF] (hI h)
 ·exact gn 11 [0,1,2,3,9,10,11,12,13,14,15] [0] [bT h9,rp 3 (bF dm),cE aA.enc fH,bF dm,oO (zL 0),oO (lT 0 2),rp 4 (bF dm),rp 7 (bF gi),bF dm,bF gi,bF dm,fF,fF,rp 7 (bF sH),fF,bF sH,rp 11 fF] (hI h)
 ·exact gn 5 [0,1,2,3,9,10,13,14] [0] [bF h9] (hE h)
theorem y8(Γ:bu)(rv:List aa){ah l word cU}:∀⦃s:List aa×Int⦄ ⦃e:List aa⦄,aL (fun s=>oZ ah l word cU s.1 s.2) s=some e→y7 Γ rv ah l word cU e→zV Γ rv ah l word cU s.1 s.2:=by
 refine bl ?_
 rintro⟨l2,i⟩ z_ h hI hE;simp only[oZ,aB,ar,au,av]at h;rcases h with⟨h2,x0,h3,h4,r,h5,h6,⟨h7,h8,h⟩|⟨h7,qN,E4,h⟩⟩|⟨h2,h⟩
 ·exact gn 22 [0,1,2,3,9,10] [2] [nL aA.enc l,bT h2,cE aA.enc h3,oO (zL 0),oO (lT 0 2),cE aA.enc h3,oO (zL 1),oO (lT 1 2),oO (h4),cC (nP h5),rp 15 hP,oO (h6),rp 2 (oI ((bh x0.x0 0)=false)),oR True ((bh x0.x0 0)=false),oI (((bh x0.x0 0)||(cD x0.x0 ah))=false),oR True (((bh x0.x0 0)||(cD x0.x0 ah))=false),rp 2 (oI ((((bh x0.x0 0)||(cD x0.x0 ah))||(bh x0.x1 0))=false)),oR True ((((bh x0.x0 0)||(cD x0.x0 ah))||(bh x0.x1 0))=false),rp 2 (oI (((((bh x0.x0 0)||(cD x0.x0 ah))||(bh x0.x1 0))||(cD x0.x1 ah))=false)),oR True (((((bh x0.x0 0)||(cD x0.x0 ah))||(bh x0.x1 0))||(cD x0.x1 ah))=false),bT h7,oO (Eq.refl ([(aa.mk 2 (dC (dC word eQ) r))].map aa.enc).length),aO aa.enc h8] (hI h)
 ·refine gn 25 [0,1,2,3,9,10,11,12,13,14,15] [0] [nL aA.enc l,bT h2,cE aA.enc h3,oO (zL 0),oO (lT 0 2),cE aA.enc h3,oO (zL 1),oO (lT 1 2),oO (h4),cC (nP h5),rp 15 hP,oO (h6),rp 2 (oI ((bh x0.x0 0)=false)),oR True ((bh x0.x0 0)=false),oI (((bh x0.x0 0)||(cD x0.x0 ah))=false),oR True (((bh x0.x0 0)||(cD x0.x0 ah))=false),rp 2 (oI ((((bh x0.x0 0)||(cD x0.x0 ah))||(bh x0.x1 0))=false)),oR True ((((bh x0.x0 0)||(cD x0.x0 ah))||(bh x0.x1 0))=false),rp 2 (oI (((((bh x0.x0 0)||(cD x0.x0 ah))||(bh x0.x1 0))||(cD x0.x1 ah))=false)),oR True (((((bh x0.x0 0)||(cD x0.x0 ah))||(bh x0.x1 0))||(cD x0.x1 ah))=false),bF h7] (y_ Γ rv E4 ?_);rcases h with⟨AD,Ed,h⟩|⟨AD,h⟩
  ·exact gn 7 [0,1,2,3,9,10] [2] [bT AD,oO (Eq.refl ([(aa.mk 6 (dC (dC word eQ) r))].map aa.enc).length),aO aa.enc Ed] (hI h)
  ·exact gn 7 [0,1,2,3,9,10] [0] [bF AD] (hI h)
 ·exact gn 5 [9] [0] [nL aA.enc l,bF h2] (hE h)
theorem rL(Γ:bu)(rv:List aa){ah l word cU l1}(h:kO ah l word cU l1=some rv):iN Γ rv ⟨[.c 15],⟨123,[vI 0 ah,vL 1 2 l aA.enc,vS 2 word,vB 3 cU,vO 9 0 2 l1 aa.enc],[oS 2 219 l1 aa.enc]⟩⟩:=by
 simp only[kO,aB,ar,au,av]at h;obtain⟨l3,G0,h⟩:=h;refine gn 5 [0,1,2,3,9,10] [0] [] (y8 Γ rv G0 ?_);obtain rfl:=oK h;exact gr 2 [0] []
theorem BL{ah l word cU}{rv:List aa}(h:rA ah l word cU=some rv):dv prog 137 [.one (lI ah),.one (lL 2 l aA.enc),.one (.str word),.one (.bool cU)] [] (one (lO 0 2 rv aa.enc)) [oS 2 219 rv aa.enc]:=by
 refine aW func137 fun Γ=>?_
 simp only[rA,aB,ar,au,av]at h;rcases h with⟨h0,h1,h⟩|⟨h0,h⟩
 ·exact gn 9 [0,1,2,3,9] [1] [nL aA.enc l,bT h0,oO (Eq.refl ([(aa.mk 4 word)].map aa.enc).length),aN (l:=([(aa.mk 4 word)]:List aa)) aa.enc h1] (rL Γ rv h)
 ·exact gn 9 [0,1,2,3,9] [0] [nL aA.enc l,bF h0,hW 1,hH (.kH 9 2 219)] (rL Γ rv h)
theorem Ho{ah bV before}{rv:List aa}(h:pU ah bV before=some rv):dv prog 63 [.one (lI ah),.one (lL 2 bV aA.enc),.one (lL 2 before aA.enc)] [] (one (lL 2 rv aa.enc)) []:=by
 refine aW func63 fun Γ=>?_
 simp only[pU,aB,ar,au,av]at h;obtain⟨r,h0,r1,h1,h2,h⟩:=h;cases h;exact gr 6 [] [cC (BL h0),cC (FP h1),aO aa.enc h2,hW 1,hH (.jn 1),rp 2 (oO (Eq.refl ((r++r1).map aa.enc).length))]
def qD(Γ:bu)(rv:List aa)(cf:Cf):Prop:=Go prog f58 [] Γ (one (lO 0 2 rv aa.enc)) [oS 2 219 rv aa.enc] cf
def s9(Γ:bu)(rv:List aa)(word:ByteArray)(l l1:List aa)(i:Int):Prop:=qD Γ rv ⟨[.c 116,.l 116,.b 0,.c 15],⟨40,[vS 0 word,vL 1 2 l aa.enc,vO 5 0 2 l1 aa.enc,vI 6 i],[oS 2 219 l1 aa.enc]⟩⟩
def se(Γ:bu)(rv:List aa)(word:ByteArray)(l l2:List aa):Prop:=qD Γ rv ⟨[.c 15],⟨40,[vO 5 0 2 l2 aa.enc],[oS 2 219 l2 aa.enc]⟩⟩
theorem sd(Γ:bu)(rv:List aa){word l l1 i eK}{x:(List aa×Int)⊕(List aa)}(h:ln word l l1 i eK=some x)(hI:∀⦃s:List aa×Int⦄,some (.inl s)=some x→s9 Γ rv word l s.1 s.2)(hE:∀⦃e:List aa⦄,some (.inr e)=some x→se Γ rv word l e):qD Γ rv ⟨[.c 3731,.b 1,.c 467,.l 116,.b 0,.c 15],⟨40,[vS 0 word,vL 1 2 l aa.enc,vO 5 0 2 l1 aa.enc,vI 6 i,vS 7 eK],[oS 2 219 l1 aa.enc]⟩⟩:=by
 simp only[ln,aB,ar,au,av]at h;obtain⟨x1,h5,h6,h⟩:=h;exact gn 4 [0,1,5,6] [2] [cE aa.enc h5,oO (Eq.refl ([(aa.mk x1.Xw eK)].map aa.enc).length),aO aa.enc h6] (hI h)
theorem zX(Γ:bu)(rv:List aa){word l}:∀⦃s:List aa×Int⦄ ⦃e:List aa⦄,aL (fun s=>pW word l s.1 s.2) s=some e→se Γ rv word l e→s9 Γ rv word l s.1 s.2:=by
 refine bl ?_
 rintro⟨l1,i⟩ z_ h hI hE;simp only[pW,aB,ar,au,av]at h;rcases h with⟨h0,x0,h1,⟨h2,h⟩|⟨h2,h3,h4,h⟩⟩|⟨h0,h⟩
 ·exact gn 14 [0,1,5,6,7] [0] [nL aa.enc l,bT h0,cE aa.enc h1,nF h2] (sd Γ rv h hI hE)
 ·exact gn 14 [0,1,5,6,7] [0] [nL aa.enc l,bT h0,cE aa.enc h1,nT h2,oO (h3),cE aa.enc h1,oO (h4)] (sd Γ rv h hI hE)
 ·exact gn 5 [5] [0] [nL aa.enc l,bF h0] (hE h)
theorem CB{word l}{rv:List aa}(h:oN word l=some rv):dv prog 58 [.one (.str word),.one (lL 2 l aa.enc)] [] (one (lO 0 2 rv aa.enc)) [oS 2 219 rv aa.enc]:=by
 refine aW func58 fun Γ=>?_
 simp only[oN,aB,ar,au,av]at h;obtain⟨l2,h7,h⟩:=h;refine gn 9 [0,1,5,6] [0] [hW 12,hH (.kH 5 2 219)] (zX Γ rv h7 ?_);obtain rfl:=oK h;exact gr 2 [0] []
theorem Hp{x0}{rv:List aa}(h:pV x0=some rv):dv prog 18 [.agg (ab.enc x0)] [] (one (lL 2 rv aa.enc)) []:=by
 refine aW func18 fun Γ=>?_
 simp only[pV,aB,ar,au,av]at h;obtain⟨r,h0,r1,h1,r2,h2,r3,h3,h4,r4,h5,r5,h6,r6,h7,h8,r7,h9,r8,dm,fH,h⟩:=h;cases h;exact gr 12 [] [cC (Hj h0),cC (CB h1),cC (Hk h2),cC (tj h3),aO aa.enc h4,hH (.draw 13 []),cC (nt h5),nL al.enc x0.types,cC (Hm h6),cC (tj h7),aO aa.enc h8,nL ag.enc x0.ah,cC (Ho h9),cC (tj dm),aO aa.enc fH,hW 5,hH (.jn 4),rp 4 (oO (Eq.refl ((((r1++r3)++r6)++r8).map aa.enc).length))]
theorem eU{x0 ah}{rv:Bool}(h:n9 x0 ah=some rv):dv prog 5 [.agg (ab.enc x0),.one (lI ah)] [] (one (.bool rv)) []:=by
 refine aW func5 fun Γ=>?_
 simp only[n9,aB,ar,au,av]at h;rcases h with⟨h0,r,h1,h⟩|⟨h0,h⟩
 ·cases h;exact gr 4 [] [nL ag.enc x0.ah,hP,hP,hP,rp 2 (oI ((fT (az x0.ah) ah)=true)),nL al.enc x0.types,rp 6 hP,oI ((fT (az x0.ah) ah)=true),oR True ((fT (az x0.ah) ah)=true),rp 3 (oI (((fT (az x0.ah) ah)&&(fT (az x0.types) 2))=true)),nL bO x0.bG.aV,rp 6 hP,oI (((fT (az x0.ah) ah)&&(fT (az x0.types) 2))=true),oR True (((fT (az x0.ah) ah)&&(fT (az x0.types) 2))=true),rp 3 (oI ((((fT (az x0.ah) ah)&&(fT (az x0.types) 2))&&(fT (az x0.bG.aV) 6))=true)),nL aH.enc x0.bG.cH,rp 5 hP,oI ((((fT (az x0.ah) ah)&&(fT (az x0.types) 2))&&(fT (az x0.bG.aV) 6))=true),oR True ((((fT (az x0.ah) ah)&&(fT (az x0.types) 2))&&(fT (az x0.bG.aV) 6))=true),rp 2 (oI (((((fT (az x0.ah) ah)&&(fT (az x0.types) 2))&&(fT (az x0.bG.aV) 6))&&(fT (az x0.bG.cH) 40))=true)),nL aA.enc x0.bV,rp 5 hP,oI (((((fT (az x0.ah) ah)&&(fT (az x0.types) 2))&&(fT (az x0.bG.aV) 6))&&(fT (az x0.bG.cH) 40))=true),oR True (((((fT (az x0.ah) ah)&&(fT (az x0.types) 2))&&(fT (az x0.bG.aV) 6))&&(fT (az x0.bG.cH) 40))=true),rp 2 (oI ((((((fT (az x0.ah) ah)&&(fT (az x0.types) 2))&&(fT (az x0.bG.aV) 6))&&(fT (az x0.bG.cH) 40))&&(fT (az x0.bV) 4))=true)),nL aA.enc x0.before,hP,hP,oI ((((((fT (az x0.ah) ah)&&(fT (az x0.types) 2))&&(fT (az x0.bG.aV) 6))&&(fT (az x0.bG.cH) 40))&&(fT (az x0.bV) 4))=true),oR True ((((((fT (az x0.ah) ah)&&(fT (az x0.types) 2))&&(fT (az x0.bG.aV) 6))&&(fT (az x0.bG.cH) 40))&&(fT (az x0.bV) 4))=true),bT h0,bT h0,cC (Hp h1),bT h0,nL aa.enc r,bT h0,bT h0]
 ·obtain rfl:=oK h;exact gr 4 [] [nL ag.enc x0.ah,hP,hP,hP,rp 2 (oI ((fT (az x0.ah) ah)=true)),nL al.enc x0.types,rp 6 hP,oI ((fT (az x0.ah) ah)=true),oR True ((fT (az x0.ah) ah)=true),rp 3 (oI (((fT (az x0.ah) ah)&&(fT (az x0.types) 2))=true)),nL bO x0.bG.aV,rp 6 hP,oI (((fT (az x0.ah) ah)&&(fT (az x0.types) 2))=true),oR True (((fT (az x0.ah) ah)&&(fT (az x0.types) 2))=true),rp 3 (oI ((((fT (az x0.ah) ah)&&(fT (az x0.types) 2))&&(fT (az x0.bG.aV) 6))=true)),nL aH.enc x0.bG.cH,rp 5 hP,oI ((((fT (az x0.ah) ah)&&(fT (az x0.types) 2))&&(fT (az x0.bG.aV) 6))=true),oR True ((((fT (az x0.ah) ah)&&(fT (az x0.types) 2))&&(fT (az x0.bG.aV) 6))=true),rp 2 (oI (((((fT (az x0.ah) ah)&&(fT (az x0.types) 2))&&(fT (az x0.bG.aV) 6))&&(fT (az x0.bG.cH) 40))=true)),nL aA.enc x0.bV,rp 5 hP,oI (((((fT (az x0.ah) ah)&&(fT (az x0.types) 2))&&(fT (az x0.bG.aV) 6))&&(fT (az x0.bG.cH) 40))=true),oR True (((((fT (az x0.ah) ah)&&(fT (az x0.types) 2))&&(fT (az x0.bG.aV) 6))&&(fT (az x0.bG.cH) 40))=true),rp 2 (oI ((((((fT (az x0.ah) ah)&&(fT (az x0.types) 2))&&(fT (az x0.bG.aV) 6))&&(fT (az x0.bG.cH) 40))&&(fT (az x0.bV) 4))=true)),nL aA.enc x0.before,hP,hP,oI ((((((fT (az x0.ah) ah)&&(fT (az x0.types) 2))&&(fT (az x0.bG.aV) 6))&&(fT (az x0.bG.cH) 40))&&(fT (az x0.bV) 4))=true),oR True ((((((fT (az x0.ah) ah)&&(fT (az x0.types) 2))&&(fT (az x0.bG.aV) 6))&&(fT (az x0.bG.cH) 40))&&(fT (az x0.bV) 4))=true),rp 5 (bF h0)]
theorem Jt{s0 sep}{rv:ByteArray×ByteArray×Bool}(h:yK s0 sep=some rv):dv prog 207 [.one (.str s0),.one (.str sep)] [] (.jx [.one (.str rv.1),.one (.str rv.2.1),.one (.bool rv.2.2)]) []:=by
 refine aW func207 fun Γ=>?_
 simp only[yK,aB,ar,au,av]at h;rcases h with⟨r,h0,⟨h1,s1,h2,s2,h3,h⟩|⟨h1,h⟩⟩
 ·cases h;exact gr 10 [] [cC (TB h0),bT h1,hH (.draw 12 []),oO (ss1 h2),oO (ss2 h2),oO (ss3 h2),oO (ss1 h3),oO (ss2 h3),oO (ss3 h3)]
 ·cases h;exact gr 11 [] [cC (TB h0),bF h1]
theorem GH{s0 sep}{rv:ByteArray×ByteArray×Bool}(h:GF s0 sep=some rv):dv prog 149 [.one (.str s0),.one (.str sep)] [] (.jx [.one (.str rv.1),.one (.str rv.2.1),.one (.bool rv.2.2)]) []:=by
 refine aW func149 fun Γ=>?_
 simp only[GF,aB,ar,au,av]at h;obtain⟨r,h0,h⟩:=h;cases h;exact gr 4 [] [cC (Jt h0)]
theorem kZ{a}{rv:ByteArray×ByteArray}(h:yh a=some rv):dv prog 77 [.one (.str a)] [] (.jx [.one (.str rv.1),.one (.str rv.2)]) []:=by
 refine aW func77 fun Γ=>?_
 simp only[yh,aB,ar,au,av]at h;rcases h with⟨r,h0,⟨h1,h⟩|⟨h1,h⟩⟩
 ·cases h;exact gr 11 [] [cC (GH h0),nF h1]
 ·cases h;exact gr 10 [] [cC (GH h0),nT h1]
def Nt(Γ:bu)(rv:Bool)(cf:Cf):Prop:=Go prog f81 [] Γ (one (.bool rv)) [] cf
def PQ(Γ:bu)(rv:Bool)(s0:ByteArray)(b:UInt8)(v:Int):Prop:=Nt Γ rv ⟨[.c 116,.l 116,.b 0,.c 15],⟨31,[vS 0 s0,vI 16 (fG s0),vI 17 v],[]⟩⟩
def NR(Γ:bu)(rv:Bool)(s0:ByteArray)(b:UInt8):Prop:=Nt Γ rv ⟨[.c 15],⟨31,[],[]⟩⟩
theorem NS(Γ:bu)(rv:Bool){s0 b}:∀⦃s:Int⦄ ⦃e:(Unit)⊕(Bool)⦄,aL (fun s=>DQ s0 b s) s=some e→iD e (fun e=>NR Γ rv s0 b) (fun e=>e=rv)→PQ Γ rv s0 b s:=by
 refine bl ?_
 intro v z_ h hI hE;simp only[DQ,aB,ar,au,av]at h;rcases h with⟨h3,b1,h4,⟨h5,h⟩|⟨h5,⟨h6,h⟩|⟨h6,h⟩⟩⟩|⟨h3,h⟩
 ·obtain rfl:=(hE h:_=rv);exact gr 14 [] [bT h3,yE h4,rp 5 (bT h5),tT]
 ·obtain rfl:=(hE h:_=rv);exact gr 14 [] [bT h3,yE h4,rp 3 (bF h5),yE h4,bF h5,bF h5,bT h6]
 ·exact gn 16 [0,16,17] [] [bT h3,yE h4,rp 3 (bF h5),yE h4,bF h5,bF h5,bF h6] (hI h)
 ·exact gn 5 [] [] [bF h3] (hE h)
theorem kP{s0}{rv:Bool}(h:zn s0=some rv):dv prog 81 [.one (.str s0)] [] (one (.bool rv)) []:=by
 refine aW func81 fun Γ=>?_
 simp only[zn,aB,ar,au,av]at h;rcases h with⟨h0,h⟩|⟨h0,b,h1,⟨h2,h⟩|⟨h2,e0,h7,h⟩⟩
 ·obtain rfl:=oK h;exact gr 8 [] [rp 4 (bT h0),kF,kF,bT h0,bT h0,tT]
 ·obtain rfl:=oK h;exact gr 8 [] [bF h0,bF h0,yE h1,bF h0,bF h0,hP,hP,oI ((cM (AX b) 48)=true),bF h0,hP,oR True ((cM (AX b) 48)=true),bF h0,bT h2]
 ·refine gn 12 [0,16,17] [] [bF h0,bF h0,yE h1,bF h0,bF h0,hP,hP,oI ((cM (AX b) 48)=true),bF h0,hP,oR True ((cM (AX b) 48)=true),bF h0,bF h2] (NS Γ rv h7 ?_);rcases e0 with e0|r
  ·obtain rfl:=oK h;exact gr 2 [] []
  ·exact oK h
theorem kQ{s0 fE}{rv:Bool}(h:nR s0 fE=some rv):dv prog 213 [.one (.str s0),.one (.str fE)] [] (one (.bool rv)) []:=by
 refine aW func213 fun Γ=>?_
 simp only[nR,aB,ar,au,av]at h;rcases h with⟨h0,s1,h1,h⟩|⟨h0,h⟩
 ·cases h;exact gr 4 [] [rp 4 (bT h0),oO (ss1 h1),oO (ss2 h1),oO (ss3 h1),rp 3 (bT h0)]
 ·obtain rfl:=oK h;exact gr 4 [] [rp 7 (bF h0)]
theorem BX{s0 fE}{rv:ByteArray×Bool}(h:rF s0 fE=some rv):dv prog 228 [.one (.str s0),.one (.str fE)] [] (.jx [.one (.str rv.1),.one (.bool rv.2)]) []:=by
 refine aW func228 fun Γ=>?_
 simp only[rF,aB,ar,au,av]at h;rcases h with⟨r,h0,⟨h1,s1,h2,h⟩|⟨h1,h⟩⟩
 ·cases h;exact gr 9 [] [cC (kQ h0),nF h1,oO (ss1 h2),oO (ss2 h2),oO (ss3 h2)]
 ·cases h;exact gr 8 [] [cC (kQ h0),nT h1]
theorem GG{s0 fE}{rv:ByteArray×Bool}(h:wK s0 fE=some rv):dv prog 180 [.one (.str s0),.one (.str fE)] [] (.jx [.one (.str rv.1),.one (.bool rv.2)]) []:=by
 refine aW func180 fun Γ=>?_
 simp only[wK,aB,ar,au,av]at h;obtain⟨r,h0,h⟩:=h;cases h;exact gr 4 [] [cC (BX h0)]
theorem Av{s0}{rv:Bool×ByteArray×Bool}(h:Bq s0=some rv):dv prog 110 [.one (.str s0)] [] (.jx [.one (.bool rv.1),.one (.str rv.2.1),.one (.bool rv.2.2)]) []:=by
 refine aW func110 fun Γ=>?_
 simp only[Bq,aB,ar,au,av]at h;obtain⟨r,h0,r1,h1,h⟩:=h;cases h;exact gr 6 [] [cC (GG h0),cC (kP h1),rp 8 hP,oI (r1=true),oI ((r1=true)∧r.2=true),oI (r1=true),oI ((r1=true)∧r.2=true),oI (r1=true),oR True (r1=true)]
theorem qf{s0}{rv:Bool}(h:GK s0=some rv):dv prog 78 [.one (.str s0)] [] (one (.bool rv)) []:=by
 refine aW func78 fun Γ=>?_
 simp only[GK,aB,ar,au,av]at h;obtain⟨r,h0,h⟩:=h;cases h;exact gr 6 [] [cC (Av h0)]
theorem AT{s0 fE}{rv:ByteArray}(h:qM s0 fE=some rv):dv prog 154 [.one (.str s0),.one (.str fE)] [] (one (.str rv)) []:=by
 refine aW func154 fun Γ=>?_
 simp only[qM,aB,ar,au,av]at h;rcases h with⟨r,h0,⟨h1,s1,h2,h⟩|⟨h1,h⟩⟩
 ·cases h;exact gr 8 [] [cC (kQ h0),bT h1,oO (ss1 h2),oO (ss2 h2),oO (ss3 h2)]
 ·obtain rfl:=oK h;exact gr 9 [] [cC (kQ h0),bF h1]
theorem fV{s0 fE}{rv:ByteArray}(h:nK s0 fE=some rv):dv prog 83 [.one (.str s0),.one (.str fE)] [] (one (.str rv)) []:=by
 refine aW func83 fun Γ=>?_
 simp only[nK,aB,ar,au,av]at h;obtain⟨r,h0,h⟩:=h;obtain rfl:=oK h;exact gr 4 [] [cC (AT h0)]
theorem iA{s0}{rv:Int}(h:zb s0=some rv):dv prog 79 [.one (.str s0)] [] (one (lI rv)) []:=by
 refine aW func79 fun Γ=>?_
 simp only[zb,aB,ar,au,av]at h;obtain⟨r,h0,h⟩:=h;cases h;exact gr 4 [] [cC (fV h0)]
theorem MV{s0 substr}{rv:Int}(h:BW s0 substr=some rv):dv prog 150 [.one (.str s0),.one (.str substr)] [] (one (lI rv)) []:=by
 refine aW func150 fun Γ=>?_
 simp only[BW,aB,ar,au,av]at h;obtain⟨r,h0,h⟩:=h;obtain rfl:=oK h;exact gr 4 [] [cC (TB h0)]
theorem tv{s0 substr}{rv:Bool}(h:xD s0 substr=some rv):dv prog 80 [.one (.str s0),.one (.str substr)] [] (one (.bool rv)) []:=by
 refine aW func80 fun Γ=>?_
 simp only[xD,aB,ar,au,av]at h;obtain⟨r,h0,h⟩:=h;cases h;exact gr 4 [] [cC (MV h0)]
def A9(Γ:bu)(rv:List Int)(cf:Cf):Prop:=Go prog f210 [] Γ (one (lL 1 rv ai)) [] cf
def FW(Γ:bu)(rv a1:List Int):Prop:=A9 Γ rv ⟨[.c 24,.l 24,.b 0,.c 7],⟨21,[vL 0 1 a1 ai],[]⟩⟩
def ER(Γ:bu)(rv a2:List Int):Prop:=A9 Γ rv ⟨[.c 7],⟨21,[vL 0 1 a2 ai],[]⟩⟩
theorem ES(Γ:bu)(rv:List Int):∀⦃s:List Int⦄ ⦃e:List Int⦄,aL (fun s=>uh s) s=some e→ER Γ rv e→FW Γ rv s:=by
 refine bl ?_
 intro a1 z_ h hI hE;simp only[uh,aB,ar,au,av]at h;rcases h with⟨h0,x0,h1,⟨h2,l,h3,h⟩|⟨h2,h⟩⟩|⟨h0,h⟩
 ·exact gn 9 [0] [] [nL ai a1,rp 3 (bT h0),nL ai a1,bT h0,bT h0,cE ai h1,rp 3 (bT h0),bT h2,nL ai a1,hH (.rows (l.map ai)),oO (sl1 h3),oO (sl2 h3),oO (sl3 ai h3),oO (Int.le_refl (dd .i64 (az a1) 1)),oO (sl3 ai h3),oO (sl6 ai h3)] (hI h)
 ·exact gn 5 [0] [] [nL ai a1,rp 3 (bT h0),nL ai a1,bT h0,bT h0,cE ai h1,rp 3 (bT h0),bF h2] (hE h)
 ·exact gn 5 [0] [] [nL ai a1,rp 8 (bF h0),fF] (hE h)
theorem gp{a}{rv:List Int}(h:jZ a=some rv):dv prog 210 [.one (lL 1 a ai)] [] (one (lL 1 rv ai)) []:=by
 refine aW func210 fun Γ=>?_
 simp only[jZ,aB,ar,au,av]at h;obtain⟨a2,h4,h⟩:=h;refine gn 5 [0] [] [] (ES Γ rv h4 ?_);obtain rfl:=oK h;exact gr 2 [] []
def DW(Γ:bu)(rv:List Int)(cf:Cf):Prop:=Go prog f209 [] Γ (one (lL 1 rv ai)) [] cf
def Rh(Γ:bu)(rv l:List Int)(s1:ByteArray)(QcW i:Int):Prop:=DW Γ rv ⟨[.c 14516,.l 14516,.b 2,.c 1815,.b 1,.l 56,.b 0,.c 15],⟨38,[vS 0 s1,vO 3 0 1 l ai,vI 4 (we 0 (dd .i64 (fG s1) 9)),vI 5 QcW,vI 6 i],[oS 1 3 l ai]⟩⟩
def PU(Γ:bu)(rv l:List Int)(s1:ByteArray)(R7:Int):Prop:=DW Γ rv ⟨[.c 1815,.b 1,.l 56,.b 0,.c 15],⟨38,[vS 0 s1,vO 3 0 1 l ai,vI 4 (we 0 (dd .i64 (fG s1) 9)),vI 5 R7],[oS 1 3 l ai]⟩⟩
def Rg(Γ:bu)(rv l:List Int)(s1:ByteArray):Prop:=DW Γ rv ⟨[.c 56,.l 56,.b 0,.c 15],⟨38,[vS 0 s1,vO 3 0 1 l ai],[oS 1 3 l ai]⟩⟩
def PS(Γ:bu)(rv l1:List Int):Prop:=DW Γ rv ⟨[.c 15],⟨38,[vO 3 0 1 l1 ai],[oS 1 3 l1 ai]⟩⟩
theorem PV(Γ:bu)(rv:List Int){l s1}:∀⦃s:Int×Int⦄ ⦃e:Int⦄,aL (fun s=>FY l s1 s.1 s.2) s=some e→PU Γ rv l s1 e→Rh Γ rv l s1 s.1 s.2:=by
 refine bl ?_
 rintro⟨QcW,i⟩ z_ h hI hE;simp only[FY,aB,ar,au,av]at h;rcases h with⟨h1,b,h2,h⟩|⟨h1,h⟩
 ·exact gn 11 [0,3,4,5,6] [0] [bT h1,yE h2] (hI h)
 ·exact gn 5 [0,3,4,5] [0] [bF h1] (hE h)
theorem PT(Γ:bu)(rv:List Int):∀⦃s:List Int×ByteArray⦄ ⦃e:List Int⦄,aL (fun s=>FX s.1 s.2) s=some e→PS Γ rv e→Rg Γ rv s.1 s.2:=by
 refine bl ?_
 rintro⟨l,s1⟩ z_ h hI hE;simp only[FX,aB,ar,au,av]at h;rcases h with⟨h0,R7,h3,h⟩|⟨h0,h⟩
 ·refine gn 15 [0,3,4,5,6] [0] [bT h0] (PV Γ rv h3 ?_);obtain⟨h4,s2,h5,h⟩:=h;exact gn 5 [0,3] [2] [oO (Eq.refl ([R7].map ai).length),aO ai h4,oO (ss1 h5),oO (ss2 h5),oO (ss3 h5)] (hI h)
 ·exact gn 5 [3] [0] [bF h0] (hE h)
theorem Nv{s0}{rv:List Int}(h:KB s0=some rv):dv prog 209 [.one (.str s0)] [] (one (lL 1 rv ai)) []:=by
 refine aW func209 fun Γ=>?_
 simp only[KB,aB,ar,au,av]at h;obtain⟨l1,h6,h⟩:=h;refine gn 7 [0,3] [0] [hW 9,hH (.kH 3 1 3)] (PT Γ rv h6 ?_);obtain⟨r,h7,h⟩:=h;obtain rfl:=oK h;exact gr 2 [] [hW 3,hH (.jn 0),rp 2 (eL l1 ai),cC (gp h7)]
theorem lD{a b}{rv:List Int×List Int×Int}(h:DX a b=some rv):dv prog 151 [.one (.str a),.one (.str b)] [] (.jx [.one (lL 1 rv.1 ai),.one (lL 1 rv.2.1 ai),.one (lI rv.2.2)]) []:=by
 refine aW func151 fun Γ=>?_
 simp only[DX,aB,ar,au,av]at h;rcases h with⟨r,h0,⟨h1,r1,h2,⟨h3,⟨h4,h⟩|⟨h4,r2,h5,r3,h6,h⟩⟩|⟨h3,h⟩⟩|⟨h1,h⟩⟩
 ·cases h;exact gr 12 [] [cC (kP h0),nF h1,nF h1,cC (kP h2),nF h1,nF h1,nF h3,rp 4 hP,rp 2 (oI ((dp (fG a) 4096)=false)),oR True ((dp (fG a) 4096)=false),bT h4,hW 5,hH (.sg 4 0 1),hH (.sg 5 0 1)]
 ·cases h;exact gr 14 [] [cC (kP h0),nF h1,nF h1,cC (kP h2),nF h1,nF h1,nF h3,rp 4 hP,rp 2 (oI ((dp (fG a) 4096)=false)),oR True ((dp (fG a) 4096)=false),bF h4,cC (Nv h5),cC (Nv h6)]
 ·cases h;exact gr 9 [] [cC (kP h0),nF h1,nF h1,cC (kP h2),nF h1,nF h1,nT h3,hW 5,hH (.sg 4 0 1),hH (.sg 5 0 1)]
 ·cases h;exact gr 9 [] [cC (kP h0),rp 4 (nT h1),tT,hW 5,hH (.sg 4 0 1),hH (.sg 5 0 1)]
theorem eA{x0}{rv:Bool}(h:pE x0=some rv):dv prog 74 [.one (lI x0)] [] (one (.bool rv)) []:=by
 refine aW func74 fun Γ=>?_
 simp only[pE,aB,ar,au,av]at h;cases h;exact gr 4 [] []
theorem pk{x0 y}{rv:Int}(h:dR x0 y=some rv):dv prog 29 [.one (lI x0),.one (lI y)] [] (one (lI rv)) []:=by
 refine aW func29 fun Γ=>?_
 simp only[dR,aB,ar,au,av]at h;rcases h with⟨r,h0,r1,h1,⟨h2,⟨h3,h⟩|⟨h3,h⟩⟩|⟨h2,⟨h4,h⟩|⟨h4,⟨h5,h⟩|⟨h5,⟨h6,h⟩|⟨h6,h⟩⟩⟩⟩⟩
 ·obtain rfl:=oK h;exact gr 16 [] [cC (eA h0),cC (eA h1),bT h2,bT h3]
 ·cases h;exact gr 17 [] [cC (eA h0),cC (eA h1),bT h2,bF h3]
 ·obtain rfl:=oK h;exact gr 17 [] [cC (eA h0),cC (eA h1),bF h2,bT h4]
 ·cases h;exact gr 22 [] [cC (eA h0),cC (eA h1),bF h2,bF h4,bT h5]
 ·obtain rfl:=oK h;exact gr 27 [] [cC (eA h0),cC (eA h1),bF h2,bF h4,bF h5,bT h6]
 ·obtain rfl:=oK h;exact gr 28 [] [cC (eA h0),cC (eA h1),bF h2,bF h4,bF h5,bF h6]
def yd(Γ:bu)(rv:Int)(cf:Cf):Prop:=Go prog f178 [] Γ (one (lI rv)) [] cf
def CL(Γ:bu)(rv:Int)(a b:List Int)(i:Int):Prop:=yd Γ rv ⟨[.c 116,.l 116,.b 0,.c 15],⟨41,[vL 0 1 a ai,vL 1 1 b ai,vI 5 i],[]⟩⟩
def BN(Γ:bu)(rv:Int)(a b:List Int):Prop:=yd Γ rv ⟨[.c 15],⟨41,[],[]⟩⟩
theorem BO(Γ:bu)(rv:Int){a b}:∀⦃s:Int⦄ ⦃e:(Unit)⊕(Int)⦄,aL (fun s=>rB a b s) s=some e→iD e (fun e=>BN Γ rv a b) (fun e=>e=rv)→CL Γ rv a b s:=by
 refine bl ?_
 intro i z_ h hI hE;simp only[rB,aB,ar,au,av]at h;rcases h with⟨h2,x0,h3,x1,h4,⟨h5,r1,h6,h⟩|⟨h5,h⟩⟩|⟨h2,h⟩
 ·obtain rfl:=(hE h:_=rv);exact gr 12 [] [bT h2,hH (.draw 9 []),cE ai h3,cE ai h4,bT h5,hH (.draw 10 []),cE ai h3,cE ai h4,cC (pk h6)]
 ·exact gn 14 [0,1,5] [] [bT h2,hH (.draw 9 []),cE ai h3,cE ai h4,bF h5] (hI h)
 ·exact gn 5 [] [] [bF h2] (hE h)
theorem fU{a b}{rv:Int}(h:nw a b=some rv):dv prog 178 [.one (lL 1 a ai),.one (lL 1 b ai)] [] (one (lI rv)) []:=by
 refine aW func178 fun Γ=>?_
 simp only[nw,aB,ar,au,av]at h;rcases h with⟨h0,r,h1,h⟩|⟨h0,e0,h7,h⟩
 ·obtain rfl:=oK h;exact gr 8 [] [nL ai a,nL ai b,bT h0,nL ai a,nL ai b,cC (pk h1)]
 ·refine gn 12 [0,1,5] [] [nL ai a,nL ai b,bF h0,nL ai a] (BO Γ rv h7 ?_);rcases e0 with e0|r2
  ·obtain rfl:=oK h;exact gr 2 [] []
  ·exact oK h
theorem qF{a i}{rv:Int}(h:qU a i=some rv):dv prog 177 [.one (lL 1 a ai),.one (lI i)] [] (one (lI rv)) []:=by
 refine aW func177 fun Γ=>?_
 simp only[qU,aB,ar,au,av]at h;rcases h with⟨h0,x0,h1,h⟩|⟨h0,h⟩
 ·obtain rfl:=oK h;exact gr 8 [] [nL ai a,bT h0,cE ai h1]
 ·obtain rfl:=oK h;exact gr 9 [] [nL ai a,bF h0]
def ug(Γ:bu)(rv:List Int)(cf:Cf):Prop:=Go prog f179 [] Γ (one (lL 1 rv ai)) [] cf
def xa(Γ:bu)(rv a b l l1:List Int)(borrow v:Int):Prop:=ug Γ rv ⟨[.c 244,.l 244,.b 0,.c 31],⟨38,[vL 0 1 a ai,vL 1 1 b ai,vO 5 0 1 l1 ai,vI 6 borrow,vI 13 (az a),vI 14 v],[oS 1 3 l1 ai]⟩⟩
def wh(Γ:bu)(rv a b l l2:List Int):Prop:=ug Γ rv ⟨[.c 31],⟨38,[vO 5 0 1 l2 ai],[oS 1 3 l2 ai]⟩⟩
theorem wg(Γ:bu)(rv:List Int){a b l l1 v Of n}{x:(List Int×Int×Int)⊕(List Int)}(h:pD a b l l1 v Of n=some x)(hI:∀⦃s:List Int×Int×Int⦄,some (.inl s)=some x→xa Γ rv a b l s.1 s.2.1 s.2.2)(hE:∀⦃e:List Int⦄,some (.inr e)=some x→wh Γ rv a b l e):ug Γ rv ⟨[.c 62671,.b 1,.c 1959,.l 244,.b 0,.c 31],⟨38,[vL 0 1 a ai,vL 1 1 b ai,vO 5 0 1 l1 ai,vI 6 Of,vI 8 n,vI 13 (az a),vI 14 v],[oS 1 3 l1 ai]⟩⟩:=by
 simp only[pD,aB,ar,au,av]at h;obtain⟨h5,h⟩:=h;exact gn 4 [0,1,5,6,13,14] [2] [oO (Eq.refl ([n].map ai).length),aO ai h5] (hI h)
theorem DT(Γ:bu)(rv:List Int){a b l}:∀⦃s:List Int×Int×Int⦄ ⦃e:List Int⦄,aL (fun s=>tp a b l s.1 s.2.1 s.2.2) s=some e→wh Γ rv a b l e→xa Γ rv a b l s.1 s.2.1 s.2.2:=by
 refine bl ?_
 rintro⟨l1,borrow,v⟩ z_ h hI hE;simp only[tp,aB,ar,au,av]at h;rcases h with⟨h1,x0,h2,r,h3,⟨h4,h⟩|⟨h4,h⟩⟩|⟨h1,h⟩
 ·exact gn 20 [0,1,5,6,8,13,14] [0] [bT h1,hH (.draw 11 []),cE ai h2,cC (qF h3),bT h4] (wg Γ rv h hI hE)
 ·exact gn 18 [0,1,5,6,8,13,14] [0] [bT h1,hH (.draw 11 []),cE ai h2,cC (qF h3),bF h4] (wg Γ rv h hI hE)
 ·exact gn 5 [5] [0] [bF h1] (hE h)
theorem yW{a b}{rv:List Int}(h:sO a b=some rv):dv prog 179 [.one (lL 1 a ai),.one (lL 1 b ai)] [] (one (lL 1 rv ai)) []:=by
 refine aW func179 fun Γ=>?_
 simp only[sO,aB,ar,au,av]at h;obtain⟨l,h0,l2,h6,h⟩:=h;refine gn 11 [0,1,5,6,13,14] [0] [nL ai a,hH (.cells [lI 0]),hH (.rows (l.map ai)),oO (WZ h0),oO (X9 h0),oO (W0 h0),oO (W4 h0),oO (W5 ai h0),nL ai a] (DT Γ rv h6 ?_);obtain⟨r1,h7,h⟩:=h;obtain rfl:=oK h;exact gr 2 [] [hW 3,hH (.jn 0),rp 2 (eL l2 ai),cC (gp h7)]
def z7(Γ:bu)(rv:List Int)(cf:Cf):Prop:=Go prog f212 [] Γ (one (lL 1 rv ai)) [] cf
def EP(Γ:bu)(rv a:List Int)(k:Int)(l l1:List Int)(carry v:Int):Prop:=z7 Γ rv ⟨[.c 244,.l 244,.b 0,.c 31],⟨37,[vI 1 k,vO 5 0 1 l1 ai,vI 6 carry,vL 13 1 a ai,vI 14 (az a),vI 15 v],[oS 1 3 l1 ai]⟩⟩
def DU(Γ:bu)(rv a:List Int)(k:Int)(l l2:List Int)(tf:Int):Prop:=z7 Γ rv ⟨[.c 31],⟨37,[vO 5 0 1 l2 ai,vI 6 tf],[oS 1 3 l2 ai]⟩⟩
theorem DV(Γ:bu)(rv:List Int){a k l}:∀⦃s:List Int×Int×Int⦄ ⦃e:List Int×Int⦄,aL (fun s=>tq a k l s.1 s.2.1 s.2.2) s=some e→DU Γ rv a k l e.1 e.2→EP Γ rv a k l s.1 s.2.1 s.2.2:=by
 refine bl ?_
 rintro⟨l1,carry,v⟩ z_ h hI hE;simp only[tq,aB,ar,au,av]at h;rcases h with⟨h1,x0,h2,h3,h⟩|⟨h1,h⟩
 ·exact gn 17 [1,5,6,13,14,15] [2] [bT h1,cE ai h2,oO (oA (n:=1000000000)),oO (Eq.refl ([(uJ (aU .i64 (oT .i64 x0 k) carry) 1000000000)].map ai).length),aO ai h3,oO (oA (n:=1000000000))] (hI h)
 ·exact gn 5 [5,6] [0] [bF h1] (hE h)
theorem tr{a k}{rv:List Int}(h:sP a k=some rv):dv prog 212 [.one (lL 1 a ai),.one (lI k)] [] (one (lL 1 rv ai)) []:=by
 refine aW func212 fun Γ=>?_
 simp only[sP,aB,ar,au,av]at h;obtain⟨l,h0,⟨l2,tf⟩,h4,h⟩:=h;refine gn 11 [1,5,6,13,14,15] [0] [nL ai a,hH (.cells [lI 0]),hH (.rows (l.map ai)),oO (WZ h0),oO (X9 h0),oO (W0 h0),oO (W4 h0),oO (W5 ai h0),nL ai a] (DV Γ rv h4 ?_);obtain⟨h5,r,h6,h⟩:=h;obtain rfl:=oK h;exact gr 2 [] [oO (Eq.refl ([tf].map ai).length),aO ai h5,hH (.jn 2),oO (Eq.refl ((l2++[tf]).map ai).length),cC (gp h6)]
def Nu(Γ:bu)(rv:Int)(cf:Cf):Prop:=Go prog f211 [] Γ (one (lI rv)) [] cf
def PR(Γ:bu)(rv:Int)(bY sF:List Int)(low high:Int):Prop:=Nu Γ rv ⟨[.c 56,.l 56,.b 0,.c 15],⟨26,[vL 0 1 bY ai,vL 1 1 sF ai,vI 5 low,vI 6 high],[]⟩⟩
def NT(Γ:bu)(rv:Int)(bY sF:List Int)(Qe7:Int):Prop:=Nu Γ rv ⟨[.c 15],⟨26,[vI 5 Qe7],[]⟩⟩
theorem NU(Γ:bu)(rv:Int){bY sF}:∀⦃s:Int×Int⦄ ⦃e:Int⦄,aL (fun s=>DR bY sF s.1 s.2) s=some e→NT Γ rv bY sF e→PR Γ rv bY sF s.1 s.2:=by
 refine bl ?_
 rintro⟨low,high⟩ z_ h hI hE;simp only[DR,aB,ar,au,av]at h;rcases h with⟨h0,r,h1,r1,h2,⟨h3,h⟩|⟨h3,h⟩⟩|⟨h0,h⟩
 ·exact gn 14 [0,1,5,6] [] [bT h0,oO (oA (n:=2)),cC (tr h1),cC (fU h2),bT h3] (hI h)
 ·exact gn 14 [0,1,5,6] [] [bT h0,oO (oA (n:=2)),cC (tr h1),cC (fU h2),bF h3] (hI h)
 ·exact gn 5 [5] [] [bF h0] (hE h)
theorem TT{bY sF}{rv:Int}(h:Mp bY sF=some rv):dv prog 211 [.one (lL 1 bY ai),.one (lL 1 sF ai)] [] (one (lI rv)) []:=by
 refine aW func211 fun Γ=>?_
 simp only[Mp,aB,ar,au,av]at h;obtain⟨Qe7,h4,h⟩:=h;refine gn 7 [0,1,5,6] [] [] (NU Γ rv h4 ?_);obtain rfl:=oK h;exact gr 2 [] []
def Kz(Γ:bu)(rv:List Int×List Int)(cf:Cf):Prop:=Go prog f152 [] Γ (.jx [.one (lL 1 rv.1 ai),.one (lL 1 rv.2 ai)]) [] cf
def NV(Γ:bu)(rv:List Int×List Int)(a b l l1 bY:List Int)(i:Int):Prop:=Kz Γ rv ⟨[.c 884,.l 884,.b 0,.c 111,.s 6],⟨54,[vL 0 1 a ai,vL 1 1 b ai,vO 6 0 1 l1 ai,vL 7 1 bY ai,vI 8 i],[oS 1 3 l1 ai]⟩⟩
def Mq(Γ:bu)(rv:List Int×List Int)(a b l l2 o7:List Int):Prop:=Kz Γ rv ⟨[.c 111,.s 6],⟨54,[vO 6 0 1 l2 ai,vL 7 1 o7 ai],[oS 1 3 l2 ai]⟩⟩
theorem Mr(Γ:bu)(rv:List Int×List Int){a b l}:∀⦃s:List Int×List Int×Int⦄ ⦃e:List Int×List Int⦄,aL (fun s=>BM a b l s.1 s.2.1 s.2.2) s=some e→Mq Γ rv a b l e.1 e.2→NV Γ rv a b l s.1 s.2.1 s.2.2:=by
 refine bl ?_
 rintro⟨l1,bY,i⟩ z_ h hI hE;simp only[BM,aB,ar,au,av]at h;rcases h with⟨h1,x0,h2,h3,r,h4,r1,h5,⟨h6,h⟩|⟨h6,⟨h7,x1,h8,h⟩|⟨h7,r2,h9,x2,dm,r3,fH,r4,gi,h⟩⟩⟩|⟨h1,h⟩
 ·exact gn 19 [0,1,6,7,8] [0] [bT h1,cE ai h2,aO ai h3,hH (.jn 2),oO (Eq.refl (([x0]++bY).map ai).length),cC (gp h4),cC (fU h5),bT h6] (hI h)
 ·exact gn 24 [0,1,6,7,8] [0] [bT h1,cE ai h2,aO ai h3,hH (.jn 2),oO (Eq.refl (([x0]++bY).map ai).length),cC (gp h4),cC (fU h5),bF h6,bT h7,oO (fJ h8),oO (fI ai h8),rE ai h8,hH (.rows ((e_ l1 i 1).map ai)),hH (.uG 0 ((e_ l1 i 1).map ai).length),hW 7,hH (.sg 7 0 1),oO (I7 ai l1 i 1),rp 2 (oO (t_ ai l1 i 1))] (hI h)
 ·exact gn 27 [0,1,6,7,8] [0] [bT h1,cE ai h2,aO ai h3,hH (.jn 2),oO (Eq.refl (([x0]++bY).map ai).length),cC (gp h4),cC (fU h5),bF h6,bF h7,cC (TT h9),oO (fJ dm),oO (fI ai dm),rE ai dm,hH (.rows ((e_ l1 i r2).map ai)),hH (.uG 0 ((e_ l1 i r2).map ai).length),oO (I7 ai l1 i r2),rp 2 (oO (t_ ai l1 i r2)),oO (fJ (getSet dm r2)),oO (fI ai (getSet dm r2)),rE ai (getSet dm r2),cC (tr fH),cC (yW gi)] (hI h)
 ·exact gn 5 [6,7] [0] [bF h1] (hE h)
theorem H6{a b}{rv:List Int×List Int}(h:DS a b=some rv):dv prog 152 [.one (lL 1 a ai),.one (lL 1 b ai)] [] (.jx [.one (lL 1 rv.1 ai),.one (lL 1 rv.2 ai)]) []:=by
 refine aW func152 fun Γ=>?_
 simp only[DS,aB,ar,au,av]at h;obtain⟨l,h0,⟨l2,o7⟩,iG,h⟩:=h;refine gn 14 [0,1,6,7,8] [0] [nL ai a,hH (.cells [lI 0]),hH (.rows (l.map ai)),oO (WZ h0),oO (X9 h0),oO (W0 h0),oO (W4 h0),oO (W5 ai h0),nL ai a,hW 4,hH (.sg 7 0 1)] (Mr Γ rv iG ?_);obtain⟨r5,nW,h⟩:=h;cases h;exact gr 2 [] [hW 3,hH (.jn 0),rp 2 (eL l2 ai),cC (gp nW)]
theorem xI{a}{rv:ByteArray×Int}(h:xy a=some rv):dv prog 153 [.one (lL 1 a ai)] [] (.jx [.one (.str rv.1),.one (lI rv.2)]) []:=by
 refine aW func153 fun Γ=>?_
 simp only[xy,aB,ar,au,av]at h;rcases h with⟨r,h0,⟨h1,h⟩|⟨h1,h⟩⟩
 ·cases h;exact gr 10 [] [cC (G4 h0),bT h1]
 ·cases h;exact gr 11 [] [cC (G4 h0),bF h1]
def Sk(Γ:bu)(rv:ByteArray×Int)(cf:Cf):Prop:=Go prog f82 [] Γ (.jx [.one (.str rv.1),.one (lI rv.2)]) [] cf
def TP(Γ:bu)(rv:ByteArray×Int)(b:ByteArray)(x0 y:List Int):Prop:=Sk Γ rv ⟨[.c 120,.l 120,.b 0,.c 31],⟨36,[vL 6 1 x0 ai,vL 7 1 y ai],[]⟩⟩
def Q_(Γ:bu)(rv:ByteArray×Int)(b:ByteArray)(x1:List Int):Prop:=Sk Γ rv ⟨[.c 31],⟨36,[vL 6 1 x1 ai],[]⟩⟩
theorem Ra(Γ:bu)(rv:ByteArray×Int){b}:∀⦃s:List Int×List Int⦄ ⦃e:List Int⦄,aL (fun s=>IF b s.1 s.2) s=some e→Q_ Γ rv b e→TP Γ rv b s.1 s.2:=by
 refine bl ?_
 rintro⟨x0,y⟩ z_ h hI hE;simp only[IF,aB,ar,au,av]at h;rcases h with⟨h2,r1,h3,h⟩|⟨h2,h⟩
 ·exact gn 11 [6,7] [] [nL ai y,bT h2,cC (H6 h3)] (hI h)
 ·exact gn 5 [6] [] [nL ai y,bF h2] (hE h)
theorem xx{a b}{rv:ByteArray×Int}(h:OA a b=some rv):dv prog 82 [.one (.str a),.one (.str b)] [] (.jx [.one (.str rv.1),.one (lI rv.2)]) []:=by
 refine aW func82 fun Γ=>?_
 simp only[OA,aB,ar,au,av]at h;rcases h with⟨r,h0,⟨h1,h⟩|⟨h1,x1,h4,h⟩⟩
 ·cases h;exact gr 10 [] [cC (lD h0),bT h1]
 ·refine gn 12 [6,7] [] [cC (lD h0),bF h1] (Ra Γ rv h4 ?_);obtain⟨r2,h5,h⟩:=h;cases h;exact gr 2 [] [cC (xI h5)]
theorem sq{a}{rv:Bool}(h:Bd a=some rv):dv prog 32 [.one (.str a)] [] (one (.bool rv)) []:=by
 refine aW func32 fun Γ=>?_
 simp only[Bd,aB,ar,au,av]at h;rcases h with⟨r,h0,r1,h1,⟨h2,r2,h3,⟨h4,h⟩|⟨h4,r3,h5,⟨h6,h⟩|⟨h6,r4,h7,⟨h8,r5,h9,⟨dm,h⟩|⟨dm,r6,fH,r7,gi,h⟩⟩|⟨h8,h⟩⟩⟩⟩|⟨h2,h⟩⟩
 ·obtain rfl:=oK h;exact gr 10 [] [cC (kZ h0),cC (qf h1),nF h2,nF h2,cC (iA h3),nF h2,nF h2,rp 4 (bT h4),tT]
 ·obtain rfl:=oK h;exact gr 10 [] [cC (kZ h0),cC (qf h1),nF h2,nF h2,cC (iA h3),nF h2,nF h2,bF h4,bF h4,cC (iA h5),bF h4,bF h4,bT h6]
 ·obtain rfl:=oK h;exact gr 20 [] [cC (kZ h0),cC (qf h1),nF h2,nF h2,cC (iA h3),nF h2,nF h2,bF h4,bF h4,cC (iA h5),bF h4,bF h4,bF h6,cC (tv h7),nF h8,cC (kP h9),rp 9 hP,oI ((!r5)=false),oR True ((!r5)=false),oI (((!r5)||(E3 r.2 ny))=false),oR True (((!r5)||(E3 r.2 ny))=false),oI ((((!r5)||(E3 r.2 ny))||(E3 r.2 wE))=false),oR True ((((!r5)||(E3 r.2 ny))||(E3 r.2 wE))=false),bT dm]
 ·cases h;exact gr 23 [] [cC (kZ h0),cC (qf h1),nF h2,nF h2,cC (iA h3),nF h2,nF h2,bF h4,bF h4,cC (iA h5),bF h4,bF h4,bF h6,cC (tv h7),nF h8,cC (kP h9),rp 9 hP,oI ((!r5)=false),oR True ((!r5)=false),oI (((!r5)||(E3 r.2 ny))=false),oR True (((!r5)||(E3 r.2 ny))=false),oI ((((!r5)||(E3 r.2 ny))||(E3 r.2 wE))=false),oR True ((((!r5)||(E3 r.2 ny))||(E3 r.2 wE))=false),bF dm,cC (fV fH),cC (xx gi),hP,hP,hP,oI ((cM r7.2 0)=true),oR True ((cM r7.2 0)=true)]
 ·obtain rfl:=oK h;exact gr 15 [] [cC (kZ h0),cC (qf h1),nF h2,nF h2,cC (iA h3),nF h2,nF h2,bF h4,bF h4,cC (iA h5),bF h4,bF h4,bF h6,cC (tv h7),nT h8]
 ·obtain rfl:=oK h;exact gr 10 [] [cC (kZ h0),cC (qf h1),rp 4 (nT h2),rp 5 tT]
theorem wA{a b}{rv:ByteArray×ByteArray×ByteArray×ByteArray×Int}(h:MB a b=some rv):dv prog 45 [.one (.str a),.one (.str b)] [] (.jx [.one (.str rv.1),.one (.str rv.2.1),.one (.str rv.2.2.1),.one (.str rv.2.2.2.1),.one (lI rv.2.2.2.2)]) []:=by
 refine aW func45 fun Γ=>?_
 simp only[MB,aB,ar,au,av]at h;rcases h with⟨r,h0,⟨h1,r1,h2,⟨h3,r2,h4,r3,h5,h⟩|⟨h3,h⟩⟩|⟨h1,h⟩⟩
 ·cases h;exact gr 13 [] [cC (sq h0),nF h1,nF h1,cC (sq h2),nF h1,nF h1,nF h3,cC (kZ h4),cC (kZ h5)]
 ·cases h;exact gr 8 [] [cC (sq h0),nF h1,nF h1,cC (sq h2),nF h1,nF h1,nT h3]
 ·cases h;exact gr 8 [] [cC (sq h0),rp 4 (nT h1),tT]
def zg(Γ:bu)(rv:List aM×Int)(cf:Cf):Prop:=Go prog f104 [] Γ (.jx [.one (lL 2 rv.1 aM.enc),.one (lI rv.2)]) [] cf
def N9(Γ:bu)(rv:List aM×Int)(l:List ByteArray)(l1:List aM)(v:Int):Prop:=zg Γ rv ⟨[.c 116,.l 116,.b 0,.c 15],⟨45,[vO 4 0 2 l1 aM.enc,vL 12 1 l bO,vI 13 (az l),vI 14 v],[oS 2 188 l1 aM.enc]⟩⟩
def M3(Γ:bu)(rv:List aM×Int)(l:List ByteArray)(l2:List aM):Prop:=zg Γ rv ⟨[.c 15],⟨45,[vO 4 0 2 l2 aM.enc],[oS 2 188 l2 aM.enc]⟩⟩
def N_(Γ:bu)(rv:List aM×Int)(l:List ByteArray)(l2:List aM)(v1:Int):Prop:=zg Γ rv ⟨[.c 244,.l 244,.b 2,.c 31],⟨45,[vO 4 0 2 l2 aM.enc,vO 33 0 2 l2 aM.enc,vI 34 (az l2),vI 35 v1],[oS 2 188 l2 aM.enc]⟩⟩
def M5(Γ:bu)(rv:List aM×Int)(l:List ByteArray)(l2:List aM):Prop:=zg Γ rv ⟨[.c 31],⟨45,[vO 4 0 2 l2 aM.enc],[oS 2 188 l2 aM.enc]⟩⟩
theorem M4(Γ:bu)(rv:List aM×Int){l}:∀⦃s:List aM×Int⦄ ⦃e:(List aM)⊕(List aM×Int)⦄,aL (fun s=>BZ l s.1 s.2) s=some e→iD e (fun e=>M3 Γ rv l e) (fun e=>e=rv)→N9 Γ rv l s.1 s.2:=by
 refine bl ?_
 rintro⟨l1,v⟩ z_ h hI hE;simp only[BZ,aB,ar,au,av]at h;rcases h with⟨h0,x0,h1,r,h2,⟨h3,h4,h⟩|⟨h3,h⟩⟩|⟨h0,h⟩
 ·exact gn 20 [4,12,13,14] [2] [bT h0,cE bO h1,cC (Av h2),nF h3,oO (Eq.refl ([(aM.mk r.1 r.2.1)].map aM.enc).length),aO aM.enc h4] (hI h)
 ·obtain rfl:=(hE h:_=rv);exact gr 17 [] [bT h0,cE bO h1,cC (Av h2),nT h3,hW 4,hH (.sg 2 0 2)]
 ·exact gn 5 [4] [0] [bF h0] (hE h)
theorem M6(Γ:bu)(rv:List aM×Int){l l2}:∀⦃s:Int⦄ ⦃e:(Unit)⊕(List aM×Int)⦄,aL (fun s=>B0 l l2 s) s=some e→iD e (fun e=>M5 Γ rv l l2) (fun e=>e=rv)→N_ Γ rv l l2 s:=by
 refine bl ?_
 intro v1 z_ h hI hE;simp only[B0,aB,ar,au,av]at h;rcases h with⟨h6,x1,h7,⟨h8,h⟩|⟨h8,h⟩⟩|⟨h6,h⟩
 ·obtain rfl:=(hE h:_=rv);exact gr 14 [] [bT h6,oO (fJ h7),oO (fI aM.enc h7),rE aM.enc h7,bT h8,hW 4,hH (.sg 2 0 2)]
 ·exact gn 16 [4,33,34,35] [0] [bT h6,oO (fJ h7),oO (fI aM.enc h7),rE aM.enc h7,bF h8] (hI h)
 ·exact gn 5 [4] [0] [bF h6] (hE h)
theorem iw{l}{rv:List aM×Int}(h:Aw l=some rv):dv prog 104 [.one (lL 1 l bO)] [] (.jx [.one (lL 2 rv.1 aM.enc),.one (lI rv.2)]) []:=by
 refine aW func104 fun Γ=>?_
 simp only[Aw,aB,ar,au,av]at h;obtain⟨e0,h5,h⟩:=h;refine gn 9 [4,12,13,14] [0] [nL bO l,hW 3,hH (.kH 4 2 188)] (M4 Γ rv h5 ?_);rcases e0 with l2|r2
 ·simp only[dw,aB,ar,au,av]at h;obtain⟨e1,h9,h⟩:=h;refine gn 5 [4,33,34,35] [0] [nL aM.enc l2] (M6 Γ rv h9 ?_);rcases e1 with e1|r1
  ·cases h;exact gr 2 [] [hW 5,hH (.jn 0),rp 3 (eL l2 aM.enc)]
  ·exact oK h
 ·exact oK h
theorem sC{n}{rv:ByteArray}(h:oW n=some rv):dv prog 109 [.agg (aM.enc n)] [] (one (.str rv)) []:=by
 refine aW func109 fun Γ=>?_
 simp only[oW,aB,ar,au,av]at h;rcases h with⟨h0,h1,h⟩|⟨h0,h⟩
 ·cases h;exact gr 8 [] [rp 4 hP,rp 2 (oI (n.mi=true)),oR True (n.mi=true),bT h0,oO (h1)]
 ·cases h;exact gr 9 [] [rp 4 hP,rp 2 (oI (n.mi=true)),oR True (n.mi=true),bF h0]
theorem qQ{n e0}{rv:ByteArray×Int}(h:mv n e0=some rv):dv prog 175 [.agg (aM.enc n),.one (lI e0)] [] (.jx [.one (.str rv.1),.one (lI rv.2)]) []:=by
 refine aW func175 fun Γ=>?_
 simp only[mv,aB,ar,au,av]at h;rcases h with⟨h0,h⟩|⟨h0,r,h1,h⟩
 ·cases h;exact gr 8 [] [bT h0]
 ·cases h;exact gr 9 [] [bF h0,cC (sC h1)]
def G5(Γ:bu)(rv:ByteArray×Int)(cf:Cf):Prop:=Go prog f224 [] Γ (.jx [.one (.str rv.1),.one (lI rv.2)]) [] cf
def TS(Γ:bu)(rv:ByteArray×Int)(b:ByteArray)(r:List Int×List Int×Int)(l:List Int)(v x0:Int)(l2:List Int)(carry v1:Int):Prop:=G5 Γ rv ⟨[.c 512820,.l 512820,.b 2,.c 64103,.b 1,.c 4007,.l 500,.b 0,.c 63],⟨84,[vL 7 1 r.2.1 ai,vO 9 0 1 l2 ai,vI 10 v,vI 11 x0,vI 12 carry,vL 32 1 r.1 ai,vI 33 (az r.1),vI 34 v,vL 39 1 r.2.1 ai,vI 40 (az r.2.1),vI 41 v1],[oS 1 3 l2 ai]⟩⟩
def Re(Γ:bu)(rv:ByteArray×Int)(b:ByteArray)(r:List Int×List Int×Int)(l:List Int)(v x0:Int)(l3:List Int)(tf:Int):Prop:=G5 Γ rv ⟨[.c 64103,.b 1,.c 4007,.l 500,.b 0,.c 63],⟨84,[vL 7 1 r.2.1 ai,vO 9 0 1 l3 ai,vI 10 v,vI 12 tf,vL 32 1 r.1 ai,vI 33 (az r.1),vI 34 v],[oS 1 3 l3 ai]⟩⟩
def TR(Γ:bu)(rv:ByteArray×Int)(b:ByteArray)(r:List Int×List Int×Int)(l l1:List Int)(v:Int):Prop:=G5 Γ rv ⟨[.c 500,.l 500,.b 0,.c 63],⟨84,[vL 7 1 r.2.1 ai,vO 9 0 1 l1 ai,vL 32 1 r.1 ai,vI 33 (az r.1),vI 34 v],[oS 1 3 l1 ai]⟩⟩
def Rb(Γ:bu)(rv:ByteArray×Int)(b:ByteArray)(r:List Int×List Int×Int)(l l4:List Int):Prop:=G5 Γ rv ⟨[.c 63],⟨84,[vO 9 0 1 l4 ai],[oS 1 3 l4 ai]⟩⟩
theorem Rf(Γ:bu)(rv:ByteArray×Int){b r l v x0}:∀⦃s:List Int×Int×Int⦄ ⦃e:List Int×Int⦄,aL (fun s=>IH b r l v x0 s.1 s.2.1 s.2.2) s=some e→Re Γ rv b r l v x0 e.1 e.2→TS Γ rv b r l v x0 s.1 s.2.1 s.2.2:=by
 refine bl ?_
 rintro⟨l2,carry,v1⟩ z_ h hI hE;simp only[IH,aB,ar,au,av]at h;rcases h with⟨h5,x1,h6,x2,h7,h⟩|⟨h5,h⟩
 ·exact gn 17 [7,9,10,11,12,32,33,34,39,40,41] [0] [bT h5,cE ai h6,oO (fJ h7),oO (fI ai h7),rE ai h7,oO (oA (n:=1000000000)),oO (fJ h7),oO (fI ai h7),rE ai h7,hH (.rows ((e_ l2 (aU .i64 v v1) (uJ (aU .i64 (aU .i64 x2 (oT .i64 x0 x1)) carry) 1000000000)).map ai)),hH (.uG 0 ((e_ l2 (aU .i64 v v1) (uJ (aU .i64 (aU .i64 x2 (oT .i64 x0 x1)) carry) 1000000000)).map ai).length),oO (I7 ai l2 (aU .i64 v v1) (uJ (aU .i64 (aU .i64 x2 (oT .i64 x0 x1)) carry) 1000000000)),rp 3 (oO (t_ ai l2 (aU .i64 v v1) (uJ (aU .i64 (aU .i64 x2 (oT .i64 x0 x1)) carry) 1000000000))),oO (oA (n:=1000000000))] (hI h)
 ·exact gn 5 [7,9,10,12,32,33,34] [0] [bF h5] (hE h)
theorem Rc(Γ:bu)(rv:ByteArray×Int){b r l}:∀⦃s:List Int×Int⦄ ⦃e:List Int⦄,aL (fun s=>IG b r l s.1 s.2) s=some e→Rb Γ rv b r l e→TR Γ rv b r l s.1 s.2:=by
 refine bl ?_
 rintro⟨l1,v⟩ z_ h hI hE;simp only[IG,aB,ar,au,av]at h;rcases h with⟨h3,x0,h4,⟨l3,tf⟩,h8,h⟩|⟨h3,h⟩
 ·refine gn 16 [7,9,10,11,12,32,33,34,39,40,41] [0] [bT h3,cE ai h4,nL ai r.2.1] (Rf Γ rv h8 ?_);obtain⟨x3,h9,h⟩:=h;exact gn 4 [7,9,32,33,34] [0] [nL ai r.2.1,oO (fJ h9),oO (fI ai h9),rE ai h9,oO (fJ h9),oO (fI ai h9),rE ai h9,hH (.rows ((e_ l3 (aU .i64 v (az r.2.1)) (aU .i64 x3 tf)).map ai)),hH (.uG 0 ((e_ l3 (aU .i64 v (az r.2.1)) (aU .i64 x3 tf)).map ai).length),oO (I7 ai l3 (aU .i64 v (az r.2.1)) (aU .i64 x3 tf)),rp 2 (oO (t_ ai l3 (aU .i64 v (az r.2.1)) (aU .i64 x3 tf)))] (hI h)
 ·exact gn 5 [9] [0] [bF h3] (hE h)
theorem Yc{a b}{rv:ByteArray×Int}(h:TQ a b=some rv):dv prog 224 [.one (.str a),.one (.str b)] [] (.jx [.one (.str rv.1),.one (lI rv.2)]) []:=by
 refine aW func224 fun Γ=>?_
 simp only[TQ,aB,ar,au,av]at h;rcases h with⟨r,h0,⟨h1,h⟩|⟨h1,l,h2,l4,dm,h⟩⟩
 ·cases h;exact gr 10 [] [cC (lD h0),bT h1]
 ·refine gn 16 [7,9,32,33,34] [0] [cC (lD h0),bF h1,nL ai r.1,nL ai r.2.1,hH (.cells [lI 0]),hH (.rows (l.map ai)),oO (WZ h2),oO (X9 h2),oO (W0 h2),oO (W4 h2),oO (W5 ai h2),nL ai r.1] (Rc Γ rv dm ?_);obtain⟨r1,fH,r2,gi,h⟩:=h;cases h;exact gr 2 [] [hW 3,hH (.jn 0),rp 2 (eL l4 ai),cC (gp fH),cC (xI gi)]
theorem Ls{a b}{rv:ByteArray×Int}(h:M1 a b=some rv):dv prog 174 [.one (.str a),.one (.str b)] [] (.jx [.one (.str rv.1),.one (lI rv.2)]) []:=by
 refine aW func174 fun Γ=>?_
 simp only[M1,aB,ar,au,av]at h;rcases h with⟨r,h0,⟨h1,h⟩|⟨h1,x0,h2,x1,h3,r1,h4,r2,h5,h⟩⟩
 ·cases h;exact gr 10 [] [hW 9,hH (.jn 0),oO (Eq.refl ([a,b].map bO).length),cC (iw h0),bT h1]
 ·cases h;exact gr 13 [] [hW 9,hH (.jn 0),oO (Eq.refl ([a,b].map bO).length),cC (iw h0),bF h1,hH (.draw 14 []),cE aM.enc h2,cE aM.enc h3,cC (Yc h4),hH (.draw 17 []),cE aM.enc h2,cE aM.enc h3,cC (qQ h5)]
def CS(Γ:bu)(rv:List ByteArray×Int)(cf:Cf):Prop:=Go prog f102 [] Γ (.jx [.one (lL 1 rv.1 bO),.one (lI rv.2)]) [] cf
def Hq(Γ:bu)(rv:List ByteArray×Int)(xc:List cA)(l l1:List ByteArray)(v:Int):Prop:=CS Γ rv ⟨[.c 116,.l 116,.b 0,.c 15],⟨35,[vO 4 0 1 l1 bO,vL 12 2 xc cA.enc,vI 13 (az xc),vI 14 v],[oS 1 9 l1 bO]⟩⟩
def F4(Γ:bu)(rv:List ByteArray×Int)(xc:List cA)(l l2:List ByteArray):Prop:=CS Γ rv ⟨[.c 15],⟨35,[vO 4 0 1 l2 bO],[oS 1 9 l2 bO]⟩⟩
theorem F5(Γ:bu)(rv:List ByteArray×Int){xc l}:∀⦃s:List ByteArray×Int⦄ ⦃e:(List ByteArray)⊕(List ByteArray×Int)⦄,aL (fun s=>wz xc l s.1 s.2) s=some e→iD e (fun e=>F4 Γ rv xc l e) (fun e=>e=rv)→Hq Γ rv xc l s.1 s.2:=by
 refine bl ?_
 rintro⟨l1,v⟩ z_ h hI hE;simp only[wz,aB,ar,au,av]at h;rcases h with⟨h1,x0,h2,r,h3,⟨h4,h⟩|⟨h4,h5,h⟩⟩|⟨h1,h⟩
 ·obtain rfl:=(hE h:_=rv);exact gr 17 [] [bT h1,cE cA.enc h2,oO (zL 0),oO (lT 0 2),oO (zL 1),oO (lT 1 2),cC (Ls h3),bT h4,hW 5,hH (.sg 2 0 1)]
 ·exact gn 20 [4,12,13,14] [3] [bT h1,cE cA.enc h2,oO (zL 0),oO (lT 0 2),oO (zL 1),oO (lT 1 2),cC (Ls h3),bF h4,oO (Eq.refl ([r.1].map bO).length),aO bO h5] (hI h)
 ·exact gn 5 [4] [0] [bF h1] (hE h)
theorem lp{xc}{rv:List ByteArray×Int}(h:wy xc=some rv):dv prog 102 [.one (lL 2 xc cA.enc)] [] (.jx [.one (lL 1 rv.1 bO),.one (lI rv.2)]) []:=by
 refine aW func102 fun Γ=>?_
 simp only[wy,aB,ar,au,av]at h;obtain⟨l,h0,e0,h6,h⟩:=h;refine gn 9 [4,12,13,14] [0] [nL cA.enc xc,hH (.cells [.str ByteArray.empty]),hH (.rows (l.map bO)),oO (WZ h0),oO (X9 h0),oO (W0 h0),oO (W4 h0),oO (W5 bO h0),nL cA.enc xc] (F5 Γ rv h6 ?_);rcases e0 with l2|r1
 ·cases h;exact gr 2 [] [hW 5,hH (.jn 0),rp 3 (eL l2 bO)]
 ·exact oK h
theorem z6{a b}{rv:ByteArray×ByteArray×Int}(h:TO a b=some rv):dv prog 106 [.one (.str a),.one (.str b)] [] (.jx [.one (.str rv.1),.one (.str rv.2.1),.one (lI rv.2.2)]) []:=by
 refine aW func106 fun Γ=>?_
 simp only[TO,aB,ar,au,av]at h;rcases h with⟨r,h0,⟨h1,h⟩|⟨h1,⟨h2,h⟩|⟨h2,r1,h3,r2,h4,r3,h5,h⟩⟩⟩
 ·cases h;exact gr 10 [] [cC (lD h0),bT h1]
 ·cases h;exact gr 15 [] [cC (lD h0),bF h1,nL ai r.2.1,bT h2]
 ·cases h;exact gr 18 [] [cC (lD h0),bF h1,nL ai r.2.1,bF h2,cC (H6 h3),cC (G4 h4),cC (G4 h5)]
def Sj(Γ:bu)(rv:ByteArray×Int)(cf:Cf):Prop:=Go prog f107 [] Γ (.jx [.one (.str rv.1),.one (lI rv.2)]) [] cf
def TN(Γ:bu)(rv:ByteArray×Int)(b:ByteArray)(r:List Int×List Int×Int)(l:List Int)(carry i:Int):Prop:=Sj Γ rv ⟨[.c 1012,.l 1012,.b 0,.c 127],⟨56,[vL 6 1 r.1 ai,vL 7 1 r.2.1 ai,vO 9 0 1 l ai,vI 10 carry,vI 11 i],[oS 1 3 l ai]⟩⟩
def Q8(Γ:bu)(rv:ByteArray×Int)(b:ByteArray)(r:List Int×List Int×Int)(l1:List Int):Prop:=Sj Γ rv ⟨[.c 127],⟨56,[vO 9 0 1 l1 ai],[oS 1 3 l1 ai]⟩⟩
theorem Q9(Γ:bu)(rv:ByteArray×Int){b r}:∀⦃s:List Int×Int×Int⦄ ⦃e:List Int⦄,aL (fun s=>IE b r s.1 s.2.1 s.2.2) s=some e→Q8 Γ rv b r e→TN Γ rv b r s.1 s.2.1 s.2.2:=by
 refine bl ?_
 rintro⟨l,carry,i⟩ z_ h hI hE;simp only[IE,aB,ar,au,av]at h;rcases h with⟨h2,r1,h3,r2,h4,h5,h⟩|⟨h2,h⟩
 ·exact gn 15 [6,7,9,10,11] [2] [nL ai r.1,nL ai r.2.1,hP,hP,hP,oI ((bh i (we (az r.1) (az r.2.1)))=false),oR True ((bh i (we (az r.1) (az r.2.1)))=false),bT h2,cC (qF h3),cC (qF h4),oO (oA (n:=1000000000)),oO (Eq.refl ([(uJ (aU .i64 (aU .i64 r1 r2) carry) 1000000000)].map ai).length),aO ai h5,oO (oA (n:=1000000000))] (hI h)
 ·exact gn 5 [9] [0] [nL ai r.1,nL ai r.2.1,hP,hP,hP,oI ((bh i (we (az r.1) (az r.2.1)))=false),oR True ((bh i (we (az r.1) (az r.2.1)))=false),bF h2] (hE h)
theorem DP{a b}{rv:ByteArray×Int}(h:Oz a b=some rv):dv prog 107 [.one (.str a),.one (.str b)] [] (.jx [.one (.str rv.1),.one (lI rv.2)]) []:=by
 refine aW func107 fun Γ=>?_
 simp only[Oz,aB,ar,au,av]at h;rcases h with⟨r,h0,⟨h1,h⟩|⟨h1,l1,h6,h⟩⟩
 ·cases h;exact gr 10 [] [cC (lD h0),bT h1]
 ·refine gn 18 [6,7,9,10,11] [0] [cC (lD h0),bF h1,hW 13,hH (.kH 9 1 3)] (Q9 Γ rv h6 ?_);obtain⟨r3,h7,h⟩:=h;cases h;exact gr 2 [] [eL l1 ai,cC (xI h7)]
theorem II{a b}{rv:ByteArray×Int}(h:OB a b=some rv):dv prog 108 [.one (.str a),.one (.str b)] [] (.jx [.one (.str rv.1),.one (lI rv.2)]) []:=by
 refine aW func108 fun Γ=>?_
 simp only[OB,aB,ar,au,av]at h;rcases h with⟨r,h0,⟨h1,h⟩|⟨h1,r1,h2,⟨h3,h⟩|⟨h3,r2,h4,r3,h5,h⟩⟩⟩
 ·cases h;exact gr 10 [] [cC (lD h0),bT h1]
 ·cases h;exact gr 15 [] [cC (lD h0),bF h1,cC (fU h2),bT h3]
 ·cases h;exact gr 16 [] [cC (lD h0),bF h1,cC (fU h2),bF h3,cC (yW h4),cC (xI h5)]
def WH(Γ:bu)(rv:ByteArray×ByteArray×Int)(cf:Cf):Prop:=Go prog f46 [] Γ (.jx [.one (.str rv.1),.one (.str rv.2.1),.one (lI rv.2.2)]) [] cf
theorem Em(Γ:bu)(rv:ByteArray×ByteArray×Int){x0 x1 q r4}(h:zf x0 x1 q r4=some rv):WH Γ rv ⟨[.c 511],⟨84,[vP 9 0 2,vP 10 1 2,vS 11 q,vS 12 r4],[oX 2 188 (aM.enc x0),oX 2 188 (aM.enc x1)]⟩⟩:=by
 simp only[zf,aB,ar,au,av]at h;obtain⟨r5,gi,r6,iG,h⟩:=h;cases h;exact gr 2 [] [hH (.draw 16 []),cC (sC gi),cC (sC iG)]
theorem qP{a b}{rv:ByteArray×ByteArray×Int}(h:Hb a b=some rv):dv prog 46 [.one (.str a),.one (.str b)] [] (.jx [.one (.str rv.1),.one (.str rv.2.1),.one (lI rv.2.2)]) []:=by
 refine aW func46 fun Γ=>?_
 simp only[Hb,aB,ar,au,av]at h;rcases h with⟨r,h0,⟨h1,h⟩|⟨h1,x0,h2,x1,h3,⟨h4,h⟩|⟨h4,r1,h5,⟨h6,h⟩|⟨h6,⟨h7,r2,h8,⟨h9,h⟩|⟨h9,r3,dm,⟨fH,h⟩|⟨fH,h⟩⟩⟩|⟨h7,h⟩⟩⟩⟩⟩
 ·cases h;exact gr 10 [] [hW 10,hH (.jn 0),oO (Eq.refl ([a,b].map bO).length),cC (iw h0),bT h1]
 ·cases h;exact gr 17 [] [hW 10,hH (.jn 0),oO (Eq.refl ([a,b].map bO).length),cC (iw h0),bF h1,hH (.draw 10 [(1,8),(2,9)]),cE aM.enc h2,cE aM.enc h3,bT h4]
 ·cases h;exact gr 24 [] [hW 10,hH (.jn 0),oO (Eq.refl ([a,b].map bO).length),cC (iw h0),bF h1,hH (.draw 10 [(1,8),(2,9)]),cE aM.enc h2,cE aM.enc h3,bF h4,cC (z6 h5),bT h6]
 ·cases h;exact gr 35 [] [hW 10,hH (.jn 0),oO (Eq.refl ([a,b].map bO).length),cC (iw h0),bF h1,hH (.draw 10 [(1,8),(2,9)]),cE aM.enc h2,cE aM.enc h3,bF h4,cC (z6 h5),bF h6,hP,hP,hP,oI ((!Im x0.mi x1.mi)=true),oR True ((!Im x0.mi x1.mi)=true),bT h7,cC (DP h8),bT h9]
 ·cases h;exact gr 41 [] [hW 10,hH (.jn 0),oO (Eq.refl ([a,b].map bO).length),cC (iw h0),bF h1,hH (.draw 10 [(1,8),(2,9)]),cE aM.enc h2,cE aM.enc h3,bF h4,cC (z6 h5),bF h6,hP,hP,hP,oI ((!Im x0.mi x1.mi)=true),oR True ((!Im x0.mi x1.mi)=true),bT h7,cC (DP h8),bF h9,cC (II dm),bT fH]
 ·exact gn 40 [9,10,11,12] [1,2] [hW 10,hH (.jn 0),oO (Eq.refl ([a,b].map bO).length),cC (iw h0),bF h1,hH (.draw 10 [(1,8),(2,9)]),cE aM.enc h2,cE aM.enc h3,bF h4,cC (z6 h5),bF h6,hP,hP,hP,oI ((!Im x0.mi x1.mi)=true),oR True ((!Im x0.mi x1.mi)=true),bT h7,cC (DP h8),bF h9,cC (II dm),bF fH] (Em Γ rv h)
 ·exact gn 28 [9,10,11,12] [1,2] [hW 10,hH (.jn 0),oO (Eq.refl ([a,b].map bO).length),cC (iw h0),bF h1,hH (.draw 10 [(1,8),(2,9)]),cE aM.enc h2,cE aM.enc h3,bF h4,cC (z6 h5),bF h6,hP,hP,hP,oI ((!Im x0.mi x1.mi)=true),oR True ((!Im x0.mi x1.mi)=true),bF h7] (Em Γ rv h)
theorem NW{p q}{rv:ByteArray×Int}(h:D0 p q=some rv):dv prog 103 [.one (.str p),.one (.str q)] [] (.jx [.one (.str rv.1),.one (lI rv.2)]) []:=by
 refine aW func103 fun Γ=>?_
 simp only[D0,aB,ar,au,av]at h;rcases h with⟨r,h0,r1,h1,⟨h2,h⟩|⟨h2,r2,h3,⟨h4,h⟩|⟨h4,r3,h5,⟨h6,h⟩|⟨h6,⟨h7,h⟩|⟨h7,h8,h9,h⟩⟩⟩⟩⟩
 ·cases h;exact gr 10 [] [cC (fV h0),cC (xx h1),bT h2]
 ·cases h;exact gr 17 [] [cC (fV h0),cC (xx h1),bF h2,cC (qP h3),bT h4]
 ·cases h;exact gr 24 [] [cC (fV h0),cC (xx h1),bF h2,cC (qP h3),bF h4,cC (qP h5),bT h6]
 ·cases h;exact gr 29 [] [cC (fV h0),cC (xx h1),bF h2,cC (qP h3),bF h4,cC (qP h5),bF h6,bT h7]
 ·cases h;exact gr 30 [] [cC (fV h0),cC (xx h1),bF h2,cC (qP h3),bF h4,cC (qP h5),bF h6,bF h7,oO (h8),oO (h9)]
theorem C7{a b}{rv:Int}(h:BY a b=some rv):dv prog 111 [.one (.str a),.one (.str b)] [] (one (lI rv)) []:=by
 refine aW func111 fun Γ=>?_
 simp only[BY,aB,ar,au,av]at h;rcases h with⟨h0,⟨h1,h⟩|⟨h1,h⟩⟩|⟨h0,r,h2,h⟩
 ·cases h;exact gr 12 [] [bT h0,bT h1]
 ·obtain rfl:=oK h;exact gr 13 [] [bT h0,bF h1]
 ·obtain rfl:=oK h;exact gr 9 [] [bF h0,cC (Qek h2)]
def WI(Γ:bu)(rv:ByteArray×Int)(cf:Cf):Prop:=Go prog f105 [] Γ (.jx [.one (.str rv.1),.one (lI rv.2)]) [] cf
theorem En(Γ:bu)(rv:ByteArray×Int){x0 x1}(h:zh x0 x1=some rv):WI Γ rv ⟨[.c 15],⟨55,[vP 2 0 2,vP 3 1 2],[oX 2 188 (aM.enc x0),oX 2 188 (aM.enc x1)]⟩⟩:=by
 simp only[zh,aB,ar,au,av]at h;obtain⟨r3,h5,r4,h6,h⟩:=h;cases h;exact gr 4 [] [cC (II h5),cC (qQ h6)]
theorem Uq{a b}{rv:ByteArray×Int}(h:M7 a b=some rv):dv prog 105 [.agg (aM.enc a),.agg (aM.enc b)] [] (.jx [.one (.str rv.1),.one (lI rv.2)]) []:=by
 refine aW func105 fun Γ=>?_
 simp only[M7,aB,ar,au,av]at h;rcases h with⟨h0,r,h1,r1,h2,h⟩|⟨h0,r2,h3,⟨h4,h⟩|⟨h4,h⟩⟩
 ·cases h;exact gr 10 [] [bT h0,cC (DP h1),cC (qQ h2)]
 ·exact gn 12 [2,3] [0,1] [bF h0,cC (C7 h3),bT h4] (En Γ rv h)
 ·exact gn 12 [2,3] [0,1] [bF h0,cC (C7 h3),bF h4] (En Γ rv h)
theorem D_{a b}{rv:ByteArray×Int}(h:MZ a b=some rv):dv prog 64 [.one (.str a),.one (.str b)] [] (.jx [.one (.str rv.1),.one (lI rv.2)]) []:=by
 refine aW func64 fun Γ=>?_
 simp only[MZ,aB,ar,au,av]at h;rcases h with⟨r,h0,⟨h1,h⟩|⟨h1,x0,h2,x1,h3,r1,h4,h⟩⟩
 ·cases h;exact gr 10 [] [hW 9,hH (.jn 0),oO (Eq.refl ([a,b].map bO).length),cC (iw h0),bT h1]
 ·cases h;exact gr 11 [] [hW 9,hH (.jn 0),oO (Eq.refl ([a,b].map bO).length),cC (iw h0),bF h1,hH (.draw 11 []),cE aM.enc h2,cE aM.enc h3,cC (Uq h4)]
theorem F3{a b}{rv:ByteArray×Int}(h:wx a b=some rv):dv prog 43 [.one (.str a),.one (.str b),.one (.fn (.func 64) [])] [] (.jx [.one (.str rv.1),.one (lI rv.2)]) []:=by
 refine aW func43 fun Γ=>?_
 simp only[wx,aB,ar,au,av]at h;rcases h with⟨r,h0,⟨h1,h⟩|⟨h1,r1,h2,⟨h3,h⟩|⟨h3,x0,h4,x1,h5,r2,h6,⟨h7,h⟩|⟨h7,r3,h8,⟨h9,h⟩|⟨h9,x2,dm,r4,fH,h⟩⟩⟩⟩⟩
 ·cases h;exact gr 10 [] [cC (wA h0),bT h1]
 ·cases h;exact gr 17 [] [cC (wA h0),bF h1,hW 10,hH (.jn 0),oO (Eq.refl ([(cA.mk r.1 r.2.2.2.1),(cA.mk r.2.2.1 r.2.1)].map cA.enc).length),cC (lp h2),bT h3]
 ·cases h;exact gr 24 [] [cC (wA h0),bF h1,hW 10,hH (.jn 0),oO (Eq.refl ([(cA.mk r.1 r.2.2.2.1),(cA.mk r.2.2.1 r.2.1)].map cA.enc).length),cC (lp h2),bF h3,hH (.draw 13 []),cE bO h4,cE bO h5,cC (D_ h6),bT h7]
 ·cases h;exact gr 31 [] [cC (wA h0),bF h1,hW 10,hH (.jn 0),oO (Eq.refl ([(cA.mk r.1 r.2.2.2.1),(cA.mk r.2.2.1 r.2.1)].map cA.enc).length),cC (lp h2),bF h3,hH (.draw 13 []),cE bO h4,cE bO h5,cC (D_ h6),bF h7,hW 7,hH (.jn 1),oO (Eq.refl ([(cA.mk r.2.1 r.2.2.2.1)].map cA.enc).length),cC (lp h8),bT h9]
 ·cases h;exact gr 32 [] [cC (wA h0),bF h1,hW 10,hH (.jn 0),oO (Eq.refl ([(cA.mk r.1 r.2.2.2.1),(cA.mk r.2.2.1 r.2.1)].map cA.enc).length),cC (lp h2),bF h3,hH (.draw 13 []),cE bO h4,cE bO h5,cC (D_ h6),bF h7,hW 7,hH (.jn 1),oO (Eq.refl ([(cA.mk r.2.1 r.2.2.2.1)].map cA.enc).length),cC (lp h8),bF h9,cE bO dm,cC (NW fH)]
theorem KJ{a b}{rv:ByteArray×Int}(h:MA a b=some rv):dv prog 19 [.one (.str a),.one (.str b)] [] (.jx [.one (.str rv.1),.one (lI rv.2)]) []:=by
 refine aW func19 fun Γ=>?_
 simp only[MA,aB,ar,au,av]at h;obtain⟨r,h0,h⟩:=h;cases h;exact gr 4 [] [cC (F3 h0)]
theorem qe{n least zY}{rv:Bool}(h:mQ n least zY=some rv):dv prog 65 [.one (lI n),.one (lI least),.one (lI zY)] [] (one (.bool rv)) []:=by
 refine aW func65 fun Γ=>?_
 simp only[mQ,aB,ar,au,av]at h;cases h;exact gr 4 [] [rp 4 hP,rp 2 (oI ((cD n least)=true)),oR True ((cD n least)=true)]
def wM(Γ:bu)(rv:List aa)(cf:Cf):Prop:=Go prog f138 [] Γ (one (lL 2 rv aa.enc)) [] cf
def Bp(Γ:bu)(rv:List aa)(l:List aI)(l2:List aa)(v:Int):Prop:=wM Γ rv ⟨[.c 244,.l 244,.b 0,.c 31],⟨83,[vL 0 2 l aI.enc,vO 3 0 2 l2 aa.enc,vL 19 2 l aI.enc,vI 20 (az l),vI 21 v],[oS 2 219 l2 aa.enc]⟩⟩
def Aq(Γ:bu)(rv:List aa)(l:List aI)(l4:List aa):Prop:=wM Γ rv ⟨[.c 31],⟨83,[vO 3 0 2 l4 aa.enc],[oS 2 219 l4 aa.enc]⟩⟩
theorem Ap(Γ:bu)(rv:List aa){l v x0 r l3}{x:(List aa×Int)⊕(List aa)}(h:rh l v x0 r l3=some x)(hI:∀⦃s:List aa×Int⦄,some (.inl s)=some x→Bp Γ rv l s.1 s.2)(hE:∀⦃e:List aa⦄,some (.inr e)=some x→Aq Γ rv l e):wM Γ rv ⟨[.c 31335,.b 1,.c 1959,.l 244,.b 0,.c 31],⟨83,[vL 0 2 l aI.enc,vO 3 0 2 l3 aa.enc,vI 4 v,vP 5 1 2,vS 6 r,vL 19 2 l aI.enc,vI 20 (az l),vI 21 v],[oS 2 219 l3 aa.enc,oX 2 76 (aI.enc x0)]⟩⟩:=by
 simp only[rh,aB,ar,au,av]at h;rcases h with⟨h8,x1,h9,⟨dm,fH,h⟩|⟨dm,⟨gi,iG,h⟩|⟨gi,h⟩⟩⟩|⟨h8,h⟩
 ·exact gn 7 [0,3,19,20,21] [3] [hH (.draw 24 []),rp 6 (bT h8),cE aI.enc h9,rp 4 (bT h8),rp 9 (bT dm),bT h8,bT dm,bT h8,tT,oO (Eq.refl ([(aa.mk 13 r)].map aa.enc).length),aO aa.enc fH] (hI h)
 ·exact gn 7 [0,3,19,20,21] [3] [hH (.draw 24 []),rp 6 (bT h8),cE aI.enc h9,rp 4 (bT h8),rp 6 (bF dm),cE aI.enc h9,rp 3 (bF dm),bT h8,bF dm,bT h8,bT gi,oO (Eq.refl ([(aa.mk 13 r)].map aa.enc).length),aO aa.enc iG] (hI h)
 ·exact gn 7 [0,3,19,20,21] [0] [hH (.draw 24 []),rp 6 (bT h8),cE aI.enc h9,rp 4 (bT h8),rp 6 (bF dm),cE aI.enc h9,rp 3 (bF dm),bT h8,bF dm,bT h8,bF gi] (hI h)
 ·exact gn 7 [0,3,19,20,21] [0] [hH (.draw 24 []),rp 10 (bF h8),rp 9 kF,bF h8,bF h8,fF] (hI h)
theorem Ju(Γ:bu)(rv:List aa){l}:∀⦃s:List aa×Int⦄ ⦃e:List aa⦄,aL (fun s=>j8 l s.1 s.2) s=some e→Aq Γ rv l e→Bp Γ rv l s.1 s.2:=by
 refine bl ?_
 rintro⟨l2,v⟩ z_ h hI hE;simp only[j8,aB,ar,au,av]at h;rcases h with⟨h2,x0,h3,r,h4,r1,h5,⟨h6,h7,h⟩|⟨h6,h⟩⟩|⟨h2,h⟩
 ·exact gn 16 [0,3,4,5,6,19,20,21] [3,1] [bT h2,cE aI.enc h3,cC (Zr h4),cC (qe h5),rp 13 hP,rp 4 (oI ((!r1)=false)),oR True ((!r1)=false),rp 5 (oI (((!r1)||(bh x0.a x0.t))=false)),oR True (((!r1)||(bh x0.a x0.t))=false),bT h6,oO (Eq.refl ([(aa.mk 2 r)].map aa.enc).length),aO aa.enc h7] (Ap Γ rv h hI hE)
 ·exact gn 16 [0,3,4,5,6,19,20,21] [0,1] [bT h2,cE aI.enc h3,cC (Zr h4),cC (qe h5),rp 13 hP,rp 4 (oI ((!r1)=false)),oR True ((!r1)=false),rp 5 (oI (((!r1)||(bh x0.a x0.t))=false)),oR True (((!r1)||(bh x0.a x0.t))=false),bF h6] (Ap Γ rv h hI hE)
 ·exact gn 5 [3] [0] [bF h2] (hE h)
theorem Ao(Γ:bu)(rv:List aa){l l1}(h:rf l l1=some rv):wM Γ rv ⟨[.c 15],⟨83,[vL 0 2 l aI.enc,vO 3 0 2 l1 aa.enc],[oS 2 219 l1 aa.enc]⟩⟩:=by
 simp only[rf,aB,ar,au,av]at h;obtain⟨l4,nW,h⟩:=h;refine gn 5 [0,3,19,20,21] [0] [nL aI.enc l] (Ju Γ rv nW ?_);obtain rfl:=oK h;exact gr 2 [] [hW 4,hH (.jn 0),rp 3 (eL l4 aa.enc)]
theorem N8{l}{rv:List aa}(h:wL l=some rv):dv prog 138 [.one (lL 2 l aI.enc)] [] (one (lL 2 rv aa.enc)) []:=by
 refine aW func138 fun Γ=>?_
 simp only[wL,aB,ar,au,av]at h;rcases h with⟨h0,h1,h⟩|⟨h0,h⟩
 ·exact gn 9 [0,3] [1] [nL aI.enc l,hP,hP,oI ((cM (az l) 0)=false),nL aI.enc l,hP,hP,oI ((cM (az l) 0)=false),oR True ((cM (az l) 0)=false),bT h0,oO (Eq.refl ([(aa.mk 4 ByteArray.empty)].map aa.enc).length),aN (l:=([(aa.mk 4 ByteArray.empty)]:List aa)) aa.enc h1] (Ao Γ rv h)
 ·exact gn 9 [0,3] [0] [nL aI.enc l,hP,hP,oI ((cM (az l) 0)=false),nL aI.enc l,hP,hP,oI ((cM (az l) 0)=false),oR True ((cM (az l) 0)=false),bF h0,hW 1,hH (.kH 3 2 219)] (Ao Γ rv h)
theorem El{l}{rv:Bool}(h:wN l=some rv):dv prog 66 [.one (lL 2 l aI.enc)] [] (one (.bool rv)) []:=by
 refine aW func66 fun Γ=>?_
 simp only[wN,aB,ar,au,av]at h;obtain⟨r,h0,h⟩:=h;cases h;exact gr 4 [] [cC (N8 h0),nL aa.enc r]
theorem um{p t}{rv:Int}(h:om p t=some rv):dv prog 140 [.agg (aI.enc p),.one (lI t)] [] (one (lI rv)) []:=by
 refine aW func140 fun Γ=>?_
 simp only[om,aB,ar,au,av]at h;cases h;exact gr 4 [] []
def eT(Γ:bu)(rv:Int×Bool)(cf:Cf):Prop:=Go prog f139 [] Γ (.jx [.one (lI rv.1),.one (.bool rv.2)]) [] cf
def i_(Γ:bu)(rv:Int×Bool)(x0:List aI)(target i j:Int):Prop:=eT Γ rv ⟨[.c 120,.l 120,.b 0,.c 31],⟨49,[vL 0 2 x0 aI.enc,vI 1 target,(2,one (.fn (.func 140) [])),vI 8 (az x0),vI 9 i,vI 10 j],[]⟩⟩
def iU(Γ:bu)(rv:Int×Bool)(x0:List aI)(target i1:Int):Prop:=eT Γ rv ⟨[.c 31],⟨49,[vL 0 2 x0 aI.enc,vI 1 target,(2,one (.fn (.func 140) [])),vI 8 (az x0),vI 9 i1],[]⟩⟩
theorem iV(Γ:bu)(rv:Int×Bool){x0 target}:∀⦃s:Int×Int⦄ ⦃e:Int⦄,aL (fun s=>ca x0 target s.1 s.2) s=some e→iU Γ rv x0 target e→i_ Γ rv x0 target s.1 s.2:=by
 refine bl ?_
 rintro⟨i,j⟩ z_ h hI hE;simp only[ca,aB,ar,au,av]at h;rcases h with⟨h0,x1,h1,r,h2,⟨h3,h⟩|⟨h3,h⟩⟩|⟨h0,h⟩
 ·exact gn 14 [0,1,2,8,9,10] [] [bT h0,oO (zL 1),cE aI.enc h1,cC (um h2),bT h3] (hI h)
 ·exact gn 14 [0,1,2,8,9,10] [] [bT h0,oO (zL 1),cE aI.enc h1,cC (um h2),bF h3] (hI h)
 ·exact gn 5 [0,1,2,8,9] [] [bF h0] (hE h)
theorem cN{x0 target}{rv:Int×Bool}(h:cS x0 target=some rv):dv prog 139 [.one (lL 2 x0 aI.enc),.one (lI target),.one (.fn (.func 140) [])] [] (.jx [.one (lI rv.1),.one (.bool rv.2)]) []:=by
 refine aW func139 fun Γ=>?_
 simp only[cS,aB,ar,au,av]at h;obtain⟨i1,h4,h⟩:=h;refine gn 9 [0,1,2,8,9,10] [] [nL aI.enc x0] (iV Γ rv h4 ?_);rcases h with⟨h5,x2,h6,r1,h7,h⟩|⟨h5,h⟩
 ·cases h;exact gr 2 [] [rp 4 (bT h5),cE aI.enc h6,rp 3 (bT h5),cC (um h7),bT h5,bT h5]
 ·cases h;exact gr 2 [] [rp 9 (bF h5)]
theorem MW{l t}{rv:Int}(h:tM l t=some rv):dv prog 67 [.one (lL 2 l aI.enc),.one (lI t)] [] (one (lI rv)) []:=by
 refine aW func67 fun Γ=>?_
 simp only[tM,aB,ar,au,av]at h;rcases h with⟨r,h0,⟨h1,x0,h2,h⟩|⟨h1,⟨h3,x1,h4,h⟩|⟨h3,⟨h5,x2,h6,h⟩|⟨h5,x3,h7,x4,h8,h9,h⟩⟩⟩⟩
 ·cases h;exact gr 11 [] [cC (cN h0),bT h1,cE aI.enc h2]
 ·cases h;exact gr 14 [] [cC (cN h0),bF h1,bT h3,hH (.draw 12 []),rp 2 (cE aI.enc h4)]
 ·cases h;exact gr 17 [] [cC (cN h0),bF h1,bF h3,nL aI.enc l,bT h5,hH (.draw 16 []),rp 2 (cE aI.enc h6)]
 ·cases h;exact gr 23 [] [cC (cN h0),bF h1,bF h3,nL aI.enc l,bF h5,hH (.draw 13 [(0,11),(1,12)]),cE aI.enc h7,cE aI.enc h8,hH (.draw 19 []),oO (h9)]
theorem C4{l t}{rv:Int}(h:rq l t=some rv):dv prog 20 [.one (lL 2 l aI.enc),.one (lI t)] [] (one (lI rv)) []:=by
 refine aW func20 fun Γ=>?_
 simp only[rq,aB,ar,au,av]at h;rcases h with⟨r,h0,⟨h1,r1,h2,⟨h3,r2,h4,h⟩|⟨h3,h⟩⟩|⟨h1,h⟩⟩
 ·obtain rfl:=oK h;exact gr 9 [] [cC (qe h0),nF h1,nF h1,cC (El h2),nF h1,nF h1,nF h3,cC (MW h4)]
 ·obtain rfl:=oK h;exact gr 8 [] [cC (qe h0),nF h1,nF h1,cC (El h2),nF h1,nF h1,nT h3]
 ·obtain rfl:=oK h;exact gr 8 [] [cC (qe h0),rp 4 (nT h1),tT]
theorem oQ{rv:Bool}(h:kY=some rv):dv prog 6 [] [] (one (.bool rv)) []:=by
 refine aW func6 fun Γ=>?_
 simp only[kY,aB,ar,au,av]at h;rcases h with⟨r,h0,⟨h1,r1,h2,h⟩|⟨h1,h⟩⟩
 ·cases h;exact gr 6 [] [cC (KJ h0),hP,hP,hP,oI ((cM r.2 0)=true),oR True ((cM r.2 0)=true),rp 4 (bT h1),oO (Eq.refl ([(aI.mk 0 5),(aI.mk 20 35)].map aI.enc).length),cC (C4 h2),bT h1,bT h1]
 ·obtain rfl:=oK h;exact gr 6 [] [cC (KJ h0),hP,hP,hP,oI ((cM r.2 0)=true),oR True ((cM r.2 0)=true),rp 6 (bF h1)]
theorem C0{q parts eK}{rv:Int}(h:rm q parts eK=some rv):dv prog 113 [.one (lI q),.one (lI parts),.one (lI eK)] [] (one (lI rv)) []:=by
 refine aW func113 fun Γ=>?_
 simp only[rm,aB,ar,au,av]at h;rcases h with⟨h0,h1,⟨h2,h⟩|⟨h2,h⟩⟩
 ·cases h;exact gr 11 [] [oO (h0),oO (h1),bT h2]
 ·cases h;exact gr 11 [] [oO (h0),oO (h1),bF h2]
def H5(Γ:bu)(rv:Bool)(cf:Cf):Prop:=Go prog f127 [] Γ (one (.bool rv)) [] cf
def Mg(Γ:bu)(rv:Bool)(a:List Int)(cO v:Int):Prop:=H5 Γ rv ⟨[.c 52,.l 52,.b 0,.c 7],⟨24,[vL 0 1 a ai,vI 1 cO,vL 7 1 a ai,vI 8 (az a),vI 9 v],[]⟩⟩
def Kt(Γ:bu)(rv:Bool)(a:List Int)(cO:Int):Prop:=H5 Γ rv ⟨[.c 7],⟨24,[vL 0 1 a ai,vI 1 cO],[]⟩⟩
theorem Ku(Γ:bu)(rv:Bool){a cO}:∀⦃s:Int⦄ ⦃e:(Unit)⊕(Bool)⦄,aL (fun s=>jo a cO s) s=some e→iD e (fun e=>Kt Γ rv a cO) (fun e=>e=rv)→Mg Γ rv a cO s:=by
 refine bl ?_
 intro v z_ h hI hE;simp only[jo,aB,ar,au,av]at h;rcases h with⟨h0,x0,h1,⟨h2,h⟩|⟨h2,h⟩⟩|⟨h0,h⟩
 ·obtain rfl:=(hE h:_=rv);exact gr 14 [] [bT h0,cE ai h1,hP,hP,hP,oI ((bh x0 0)=false),oR True ((bh x0 0)=false),bT h2]
 ·exact gn 16 [0,1,7,8,9] [] [bT h0,cE ai h1,hP,hP,hP,oI ((bh x0 0)=false),oR True ((bh x0 0)=false),bF h2] (hI h)
 ·exact gn 5 [0,1] [] [bF h0] (hE h)
theorem u7{a cO}{rv:Bool}(h:qt a cO=some rv):dv prog 127 [.one (lL 1 a ai),.one (lI cO)] [] (one (.bool rv)) []:=by
 refine aW func127 fun Γ=>?_
 simp only[qt,aB,ar,au,av]at h;obtain⟨e0,h3,h⟩:=h;refine gn 7 [0,1,7,8,9] [] [nL ai a] (Ku Γ rv h3 ?_);rcases e0 with e0|r
 ·cases h;exact gr 2 [] [nL ai a]
 ·exact oK h
def xM(Γ:bu)(rv:List (List Int)×Int)(cf:Cf):Prop:=Go prog f112 [] Γ (.jx [.one (lL 1 rv.1 bE),.one (lI rv.2)]) [] cf
def MQ(Γ:bu)(rv:List (List Int)×Int)(load:List Int)(parts:Int)(l:List (List Int))(v:Int)(l2:List Int)(v1:Int):Prop:=xM Γ rv ⟨[.c 250676,.l 250676,.b 2,.c 31335,.b 1,.c 1959,.l 244,.b 0,.c 31],⟨57,[vL 0 1 load ai,vI 1 parts,vO 6 0 1 l bE,vI 7 v,vO 8 1 1 l2 ai,vI 29 parts,vI 30 v,vL 36 1 load ai,vI 37 (az load),vI 38 v1],[oS 1 36 l bE,oS 1 3 l2 ai]⟩⟩
def K9(Γ:bu)(rv:List (List Int)×Int)(load:List Int)(parts:Int)(l:List (List Int))(v:Int)(l3:List Int):Prop:=xM Γ rv ⟨[.c 31335,.b 1,.c 1959,.l 244,.b 0,.c 31],⟨57,[vL 0 1 load ai,vI 1 parts,vO 6 0 1 l bE,vO 8 1 1 l3 ai,vI 29 parts,vI 30 v],[oS 1 36 l bE,oS 1 3 l3 ai]⟩⟩
def MP(Γ:bu)(rv:List (List Int)×Int)(load:List Int)(parts:Int)(l:List (List Int))(v:Int):Prop:=xM Γ rv ⟨[.c 244,.l 244,.b 0,.c 31],⟨57,[vL 0 1 load ai,vI 1 parts,vO 6 0 1 l bE,vI 29 parts,vI 30 v],[oS 1 36 l bE]⟩⟩
def K7(Γ:bu)(rv:List (List Int)×Int)(load:List Int)(parts:Int)(l4:List (List Int)):Prop:=xM Γ rv ⟨[.c 31],⟨57,[vO 6 0 1 l4 bE],[oS 1 36 l4 bE]⟩⟩
theorem K_(Γ:bu)(rv:List (List Int)×Int){load parts l v}:∀⦃s:List Int×Int⦄ ⦃e:List Int⦄,aL (fun s=>lj load parts l v s.1 s.2) s=some e→K9 Γ rv load parts l v e→MQ Γ rv load parts l v s.1 s.2:=by
 refine bl ?_
 rintro⟨l2,v1⟩ z_ h hI hE;simp only[lj,aB,ar,au,av]at h;rcases h with⟨h5,x0,h6,r1,h7,x1,h8,h⟩|⟨h5,h⟩
 ·exact gn 13 [0,1,6,7,8,29,30,36,37,38] [0,1] [bT h5,cE ai h6,cC (C0 h7),oO (fJ h8),oO (fI ai h8),rE ai h8,hH (.rows ((e_ l2 v1 r1).map ai)),hH (.uG 1 ((e_ l2 v1 r1).map ai).length),oO (I7 ai l2 v1 r1),rp 2 (oO (t_ ai l2 v1 r1))] (hI h)
 ·exact gn 5 [0,1,6,8,29,30] [0,1] [bF h5] (hE h)
theorem K8(Γ:bu)(rv:List (List Int)×Int){load parts}:∀⦃s:List (List Int)×Int⦄ ⦃e:List (List Int)⦄,aL (fun s=>ju load parts s.1 s.2) s=some e→K7 Γ rv load parts e→MP Γ rv load parts s.1 s.2:=by
 refine bl ?_
 rintro⟨l,v⟩ z_ h hI hE;simp only[ju,aB,ar,au,av]at h;rcases h with⟨h3,l1,h4,l3,h9,h⟩|⟨h3,h⟩
 ·refine gn 16 [0,1,6,7,8,29,30,36,37,38] [0,1] [bT h3,nL ai load,hH (.cells [lI 0]),hH (.rows (l1.map ai)),oO (WZ h4),oO (X9 h4),oO (W0 h4),oO (W4 h4),oO (W5 ai h4),nL ai load] (K_ Γ rv h9 ?_);obtain⟨dm,h⟩:=h;exact gn 4 [0,1,6,29,30] [3] [hW 3,hH (.jn 1),rp 2 (eL l3 ai),oO (Eq.refl ([l3].map bE).length),aO bE dm] (hI h)
 ·exact gn 5 [6] [0] [bF h3] (hE h)
theorem Gx{load parts}{rv:List (List Int)×Int}(h:yp load parts=some rv):dv prog 112 [.one (lL 1 load ai),.one (lI parts)] [] (.jx [.one (lL 1 rv.1 bE),.one (lI rv.2)]) []:=by
 refine aW func112 fun Γ=>?_
 simp only[yp,aB,ar,au,av]at h;rcases h with⟨h0,h⟩|⟨h0,r,h1,⟨h2,l4,fH,h⟩|⟨h2,h⟩⟩
 ·cases h;exact gr 8 [] [rp 5 hP,oI ((bh parts 1)=false),oR True ((bh parts 1)=false),oI (((bh parts 1)||(dp parts 4))=false),nL ai load,hP,hP,oI (((bh parts 1)||(dp parts 4))=false),oR True (((bh parts 1)||(dp parts 4))=false),rp 6 (bT h0),tT,hW 4,hH (.sg 4 0 1)]
 ·refine gn 14 [0,1,6,29,30] [0] [rp 5 hP,oI ((bh parts 1)=false),oR True ((bh parts 1)=false),oI (((bh parts 1)||(dp parts 4))=false),nL ai load,hP,hP,oI (((bh parts 1)||(dp parts 4))=false),oR True (((bh parts 1)||(dp parts 4))=false),rp 3 (bF h0),nL ai load,bF h0,cC (u7 h1),bF h0,bF h0,nF h2,hW 11,hH (.kH 6 1 36)] (K8 Γ rv fH ?_);cases h;exact gr 2 [] [hW 5,hH (.jn 0),rp 3 (eL l4 bE)]
 ·cases h;exact gr 8 [] [rp 5 hP,oI ((bh parts 1)=false),oR True ((bh parts 1)=false),oI (((bh parts 1)||(dp parts 4))=false),nL ai load,hP,hP,oI (((bh parts 1)||(dp parts 4))=false),oR True (((bh parts 1)||(dp parts 4))=false),rp 3 (bF h0),nL ai load,bF h0,cC (u7 h1),bF h0,bF h0,nT h2,hW 4,hH (.sg 4 0 1)]
def BU(Γ:bu)(rv:List ag×Int)(cf:Cf):Prop:=Go prog f48 [] Γ (.jx [.one (lL 16 rv.1 ag.enc),.one (lI rv.2)]) [] cf
def CZ(Γ:bu)(rv:List ag×Int)(o:ag)(r:List (List Int)×Int)(l:List ag)(eH v:Int):Prop:=BU Γ rv ⟨[.c 1012,.l 1012,.b 0,.c 127],⟨62,[vP 1 0 16,vO 6 1 16 l ag.enc,vL 26 1 r.1 bE,vI 27 (az r.1),vI 28 v],[oX 16 69 [.str o.name,lL 1 o.load ai,lI o.pick.place,lI o.pick.bJ,lI o.pick.b9,lI o.pick.dn,lI o.drop.place,lI o.drop.bJ,lI o.drop.b9,lI o.drop.dn,lI o.cG,lI eH,lI o.split,lI o.b8,lI o.now,.bool o.off],oS 16 69 l ag.enc]⟩⟩
def Bn(Γ:bu)(rv:List ag×Int)(o:ag)(r:List (List Int)×Int)(l1:List ag):Prop:=BU Γ rv ⟨[.c 127],⟨62,[vO 6 0 16 l1 ag.enc],[oS 16 69 l1 ag.enc]⟩⟩
theorem Bm(Γ:bu)(rv:List ag×Int){o r l eH v x0 CP}{x:(List ag×Int×Int)⊕(List ag)}(h:qb o r l eH v x0 CP=some x)(hI:∀⦃s:List ag×Int×Int⦄,some (.inl s)=some x→CZ Γ rv o r s.1 s.2.1 s.2.2)(hE:∀⦃e:List ag⦄,some (.inr e)=some x→Bn Γ rv o r e):BU Γ rv ⟨[.c 1037119,.b 1,.c 8103,.l 1012,.b 0,.c 127],⟨62,[vP 1 0 16,vO 6 1 16 l ag.enc,vP 9 2 16,vL 26 1 r.1 bE,vI 27 (az r.1),vI 28 v],[oX 16 69 [.str o.name,lL 1 o.load ai,lI o.pick.place,lI o.pick.bJ,lI o.pick.b9,lI o.pick.dn,lI o.drop.place,lI o.drop.bJ,lI o.drop.b9,lI o.drop.dn,lI o.cG,lI eH,lI o.split,lI o.b8,lI o.now,.bool o.off],oS 16 69 l ag.enc,oX 16 69 [.str (dC o.name (dC yj (Ej (Ax .i32 (aU .i64 49 v))))),lL 1 x0 ai,lI o.pick.place,lI o.pick.bJ,lI o.pick.b9,lI o.pick.dn,lI o.drop.place,lI o.drop.bJ,lI o.drop.b9,lI o.drop.dn,lI o.cG,lI CP,lI 1,lI o.b8,lI o.now,.bool o.off]]⟩⟩:=by
 simp only[qb,aB,ar,au,av]at h;obtain⟨h9,h⟩:=h;exact gn 4 [1,6,26,27,28] [0,4] [oO (Eq.refl ([(ag.mk (dC o.name (dC yj (Ej (Ax .i32 (aU .i64 49 v))))) x0 o.pick o.drop o.cG CP 1 o.b8 o.now o.off)].map ag.enc).length),aO ag.enc h9] (hI h)
theorem Lh(Γ:bu)(rv:List ag×Int){o r}:∀⦃s:List ag×Int×Int⦄ ⦃e:List ag⦄,aL (fun s=>nJ o r s.1 s.2.1 s.2.2) s=some e→Bn Γ rv o r e→CZ Γ rv o r s.1 s.2.1 s.2.2:=by
 refine bl ?_
 rintro⟨l,eH,v⟩ z_ h hI hE;simp only[nJ,aB,ar,au,av]at h;rcases h with⟨h3,x0,h4,h5,h6,⟨h7,r1,h8,h⟩|⟨h7,h⟩⟩|⟨h3,h⟩
 ·exact gn 22 [1,6,9,26,27,28] [0,1,2] [bT h3,cE bE h4,oO (h5),oO (h6),bT h7,cC (C0 h8)] (Bm Γ rv h hI hE)
 ·exact gn 22 [1,6,9,26,27,28] [0,1,2] [bT h3,cE bE h4,oO (h5),oO (h6),bF h7] (Bm Γ rv h hI hE)
 ·exact gn 5 [6] [1] [bF h3] (hE h)
theorem GB{o}{rv:List ag×Int}(h:yt o=some rv):dv prog 48 [.agg (ag.enc o)] [] (.jx [.one (lL 16 rv.1 ag.enc),.one (lI rv.2)]) []:=by
 refine aW func48 fun Γ=>?_
 simp only[yt,aB,ar,au,av]at h;rcases h with⟨h0,h⟩|⟨h0,r,h1,⟨h2,h⟩|⟨h2,l1,dm,h⟩⟩
 ·cases h;exact gr 8 [] [bT h0,hW 6,hH (.jn 1),rp 2 (oO (Eq.refl ([o].map ag.enc).length))]
 ·cases h;exact gr 15 [] [bF h0,cC (Gx h1),bT h2,hW 5,hH (.sg 2 0 16)]
 ·refine gn 21 [1,6,26,27,28] [0,1] [bF h0,cC (Gx h1),bF h2,nL bE r.1,hW 3,hH (.kH 6 16 69)] (Lh Γ rv dm ?_);cases h;exact gr 2 [] [hW 5,hH (.jn 0),rp 3 (eL l1 ag.enc)]
theorem CY{o c}{rv:Bool}(h:xO o c=some rv):dv prog 114 [.agg (ag.enc o),.one (.ip [.str c] 0)] [] (one (.bool rv)) []:=by
 refine aW func114 fun Γ=>?_
 simp only[xO,aB,ar,au,av]at h;cases h;exact gr 4 [] []
def gz(Γ:bu)(rv:Int)(cf:Cf):Prop:=Go prog f182 [] Γ (one (lI rv)) [] cf
def mC(Γ:bu)(rv:Int)(s0:List ag)(c:ByteArray)(v:Int):Prop:=gz Γ rv ⟨[.c 52,.l 52,.b 0,.c 7],⟨19,[vL 0 16 s0 ag.enc,(1,one (.fn (.func 114) [.ip [.str c] 0])),vI 7 (az s0),vI 8 v],[]⟩⟩
def mj(Γ:bu)(rv:Int)(s0:List ag)(c:ByteArray):Prop:=gz Γ rv ⟨[.c 7],⟨19,[],[]⟩⟩
theorem ml(Γ:bu)(rv:Int){s0 c}:∀⦃s:Int⦄ ⦃e:(Unit)⊕(Int)⦄,aL (fun s=>bQ s0 c s) s=some e→iD e (fun e=>mj Γ rv s0 c) (fun e=>e=rv)→mC Γ rv s0 c s:=by
 refine bl ?_
 intro v z_ h hI hE;simp only[bQ,aB,ar,au,av]at h;rcases h with⟨h0,x0,h1,r,h2,⟨h3,h⟩|⟨h3,h⟩⟩|⟨h0,h⟩
 ·obtain rfl:=(hE h:_=rv);exact gr 14 [] [bT h0,cE ag.enc h1,cC (CY h2),bT h3]
 ·exact gn 16 [0,1,7,8] [] [bT h0,cE ag.enc h1,cC (CY h2),bF h3] (hI h)
 ·exact gn 5 [] [] [bF h0] (hE h)
theorem nB{s0 c}{rv:Int}(h:cX s0 c=some rv):dv prog 182 [.one (lL 16 s0 ag.enc),.one (.fn (.func 114) [.ip [.str c] 0])] [] (one (lI rv)) []:=by
 refine aW func182 fun Γ=>?_
 simp only[cX,aB,ar,au,av]at h;obtain⟨e0,h4,h⟩:=h;refine gn 7 [0,1,7,8] [] [nL ag.enc s0] (ml Γ rv h4 ?_);rcases e0 with e0|r1
 ·cases h;exact gr 2 [] []
 ·exact oK h
theorem cK{s0 c}{rv:Bool}(h:cq s0 c=some rv):dv prog 115 [.one (lL 16 s0 ag.enc),.one (.fn (.func 114) [.ip [.str c] 0])] [] (one (.bool rv)) []:=by
 refine aW func115 fun Γ=>?_
 simp only[cq,aB,ar,au,av]at h;obtain⟨r,h0,h⟩:=h;cases h;exact gr 4 [] [cC (nB h0)]
theorem GA{x0 ahead name}{rv:Int}(h:yr x0 ahead name=some rv):dv prog 49 [.agg (ab.enc x0),.one (lL 16 ahead ag.enc),.one (.str name)] [] (one (lI rv)) []:=by
 refine aW func49 fun Γ=>?_
 simp only[yr,aB,ar,au,av]at h;rcases h with⟨h0,h⟩|⟨h0,r,h1,⟨h2,h⟩|⟨h2,r1,h3,⟨h4,h⟩|⟨h4,h⟩⟩⟩
 ·obtain rfl:=oK h;exact gr 11 [] [bT h0]
 ·obtain rfl:=oK h;exact gr 14 [] [bF h0,cC (cK h1),rp 5 (bT h2),tT]
 ·obtain rfl:=oK h;exact gr 14 [] [bF h0,cC (cK h1),rp 4 (bF h2),cC (cK h3),bF h2,bT h4]
 ·obtain rfl:=oK h;exact gr 16 [] [bF h0,cC (cK h1),rp 4 (bF h2),cC (cK h3),bF h2,bF h4]
def qc(Γ:bu)(rv:List aA×Int)(cf:Cf):Prop:=Go prog f50 [] Γ (.jx [.one (lL 2 rv.1 aA.enc),.one (lI rv.2)]) [] cf
def Lm(Γ:bu)(rv:List aA×Int)(l:List aA)(origin:List Int)(v:Int)(x0:aA)(v1 x1:Int)(l3:List aA)(v2:Int):Prop:=qc Γ rv ⟨[.c 7654604,.l 7654604,.b 4,.b 3,.c 239207,.l 29900,.b 2,.b 1,.c 935,.l 116,.b 0,.c 15],⟨56,[vL 1 1 origin ai,vO 6 0 2 l3 aA.enc,vP 8 1 2,vI 9 v1,vI 10 x1,vL 13 2 l aA.enc,vI 14 (az l),vI 15 v,vL 19 1 origin ai,vI 20 (az origin),vI 21 v1,vL 26 1 origin ai,vI 27 (az origin),vI 28 v2],[oS 2 196 l3 aA.enc,oX 2 196 (aA.enc x0)]⟩⟩
def Jq(Γ:bu)(rv:List aA×Int)(l:List aA)(origin:List Int)(v:Int)(x0:aA)(v1 x1:Int)(l4:List aA):Prop:=qc Γ rv ⟨[.b 3,.c 239207,.l 29900,.b 2,.b 1,.c 935,.l 116,.b 0,.c 15],⟨56,[vL 1 1 origin ai,vO 6 0 2 l4 aA.enc,vP 8 1 2,vL 13 2 l aA.enc,vI 14 (az l),vI 15 v,vL 19 1 origin ai,vI 20 (az origin),vI 21 v1],[oS 2 196 l4 aA.enc,oX 2 196 (aA.enc x0)]⟩⟩
def Ll(Γ:bu)(rv:List aA×Int)(l:List aA)(origin:List Int)(v:Int)(x0:aA)(l2:List aA)(v1:Int):Prop:=qc Γ rv ⟨[.c 29900,.l 29900,.b 2,.b 1,.c 935,.l 116,.b 0,.c 15],⟨56,[vL 1 1 origin ai,vO 6 0 2 l2 aA.enc,vP 8 1 2,vL 13 2 l aA.enc,vI 14 (az l),vI 15 v,vL 19 1 origin ai,vI 20 (az origin),vI 21 v1],[oS 2 196 l2 aA.enc,oX 2 196 (aA.enc x0)]⟩⟩
def Jo(Γ:bu)(rv:List aA×Int)(l:List aA)(origin:List Int)(v:Int)(x0:aA)(l5:List aA):Prop:=qc Γ rv ⟨[.b 1,.c 935,.l 116,.b 0,.c 15],⟨56,[vL 1 1 origin ai,vO 6 0 2 l5 aA.enc,vL 13 2 l aA.enc,vI 14 (az l),vI 15 v],[oS 2 196 l5 aA.enc]⟩⟩
def Lk(Γ:bu)(rv:List aA×Int)(l:List aA)(origin:List Int)(l1:List aA)(v:Int):Prop:=qc Γ rv ⟨[.c 116,.l 116,.b 0,.c 15],⟨56,[vL 1 1 origin ai,vO 6 0 2 l1 aA.enc,vL 13 2 l aA.enc,vI 14 (az l),vI 15 v],[oS 2 196 l1 aA.enc]⟩⟩
def Jm(Γ:bu)(rv:List aA×Int)(l:List aA)(origin:List Int)(l6:List aA):Prop:=qc Γ rv ⟨[.c 15],⟨56,[vO 6 0 2 l6 aA.enc],[oS 2 196 l6 aA.enc]⟩⟩
theorem Jr(Γ:bu)(rv:List aA×Int){l origin v x0 v1 x1}:∀⦃s:List aA×Int⦄ ⦃e:List aA⦄,aL (fun s=>lR l origin v x0 v1 x1 s.1 s.2) s=some e→Jq Γ rv l origin v x0 v1 x1 e→Lm Γ rv l origin v x0 v1 x1 s.1 s.2:=by
 refine bl ?_
 rintro⟨l3,v2⟩ z_ h hI hE;simp only[lR,aB,ar,au,av]at h;rcases h with⟨h4,x2,h5,⟨h6,⟨h7,h8,h⟩|⟨h7,h⟩⟩|⟨h6,h⟩⟩|⟨h4,h⟩
 ·exact gn 16 [1,6,8,9,10,13,14,15,19,20,21,26,27,28] [3,1] [bT h4,cE ai h5,oO (zL 0),oO (lT 0 2),bT h6,bT h6,oO (zL 1),oO (lT 1 2),rp 3 (bT h6),bT h7,oO (Eq.refl ([(aA.mk v1 v2)].map aA.enc).length),aO aA.enc h8] (hI h)
 ·exact gn 16 [1,6,8,9,10,13,14,15,19,20,21,26,27,28] [0,1] [bT h4,cE ai h5,oO (zL 0),oO (lT 0 2),bT h6,bT h6,oO (zL 1),oO (lT 1 2),rp 3 (bT h6),bF h7] (hI h)
 ·exact gn 16 [1,6,8,9,10,13,14,15,19,20,21,26,27,28] [0,1] [bT h4,cE ai h5,oO (zL 0),oO (lT 0 2),rp 5 (bF h6),fF] (hI h)
 ·exact gn 5 [1,6,8,13,14,15,19,20,21] [0,1] [bF h4] (hE h)
theorem Jp(Γ:bu)(rv:List aA×Int){l origin v x0}:∀⦃s:List aA×Int⦄ ⦃e:List aA⦄,aL (fun s=>lQ l origin v x0 s.1 s.2) s=some e→Jo Γ rv l origin v x0 e→Ll Γ rv l origin v x0 s.1 s.2:=by
 refine bl ?_
 rintro⟨l2,v1⟩ z_ h hI hE;simp only[lQ,aB,ar,au,av]at h;rcases h with⟨h2,x1,h3,l4,h9,h⟩|⟨h2,h⟩
 ·refine gn 13 [1,6,8,9,10,13,14,15,19,20,21,26,27,28] [0,1] [bT h2,cE ai h3,nL ai origin] (Jr Γ rv h9 ?_);exact gn 3 [1,6,8,13,14,15,19,20,21] [0,1] [] (hI h)
 ·exact gn 5 [1,6,13,14,15] [0] [bF h2] (hE h)
theorem Jn(Γ:bu)(rv:List aA×Int){l origin}:∀⦃s:List aA×Int⦄ ⦃e:List aA⦄,aL (fun s=>lP l origin s.1 s.2) s=some e→Jm Γ rv l origin e→Lk Γ rv l origin s.1 s.2:=by
 refine bl ?_
 rintro⟨l1,v⟩ z_ h hI hE;simp only[lP,aB,ar,au,av]at h;rcases h with⟨h0,x0,h1,l5,dm,h⟩|⟨h0,h⟩
 ·refine gn 13 [1,6,8,13,14,15,19,20,21] [0,1] [bT h0,cE aA.enc h1,nL ai origin] (Jp Γ rv dm ?_);exact gn 3 [1,6,13,14,15] [0] [] (hI h)
 ·exact gn 5 [6] [0] [bF h0] (hE h)
theorem tS{l origin}{rv:List aA×Int}(h:sV l origin=some rv):dv prog 50 [.one (lL 2 l aA.enc),.one (lL 1 origin ai)] [] (.jx [.one (lL 2 rv.1 aA.enc),.one (lI rv.2)]) []:=by
 refine aW func50 fun Γ=>?_
 simp only[sV,aB,ar,au,av]at h;obtain⟨l6,fH,h⟩:=h;refine gn 9 [1,6,13,14,15] [0] [nL aA.enc l,hW 3,hH (.kH 6 2 196)] (Jn Γ rv fH ?_);rcases h with⟨gi,h⟩|⟨gi,h⟩
 ·cases h;exact gr 6 [] [nL aA.enc l6,bT gi,hW 4,hH (.sg 4 0 2)]
 ·cases h;exact gr 7 [] [nL aA.enc l6,bF gi,hW 6,hH (.jn 0),rp 4 (eL l6 aA.enc)]
def nG(Γ:bu)(rv:ab×List Int×Int)(cf:Cf):Prop:=Go prog f14 [] Γ (.jx [.agg [lL 1 rv.1.bG.aV bO,lL 6 rv.1.bG.cH aH.enc,lL 14 rv.1.types al.enc,lL 16 rv.1.ah ag.enc,lL 2 rv.1.bV aA.enc,lL 2 rv.1.before aA.enc],.one (lL 1 rv.2.1 ai),.one (lI rv.2.2)]) [] cf
def K5(Γ:bu)(rv:ab×List Int×Int)(x0:ab)(kj v:Int):Prop:=nG Γ rv ⟨[.c 116,.l 116,.b 0,.c 15],⟨113,[vP 1 0 6,vP 2 1 6,vI 5 kj,vL 20 16 x0.ah ag.enc,vI 21 (az x0.ah),vI 22 v],[oX 6 30 (ab.enc x0),oX 6 30 [.cB,.cB,.cB,.cB,.cB,.cB]]⟩⟩
def Jd(Γ:bu)(rv:ab×List Int×Int)(x0:ab)(D8:Int):Prop:=nG Γ rv ⟨[.c 15],⟨113,[vP 1 0 6,vP 2 1 6,vI 5 D8],[oX 6 30 (ab.enc x0),oX 6 30 [.cB,.cB,.cB,.cB,.cB,.cB]]⟩⟩
def Bl(Γ:bu)(rv:ab×List Int×Int)(x0:ab)(l:List Int)(v1:Int)(x2:ag)(r:List ag×Int)(l2:List Int)(l3:List ag)(v2:Int):Prop:=nG Γ rv ⟨[.c 2085692,.l 2085692,.b 4,.b 3,.c 16295,.l 2036,.b 2,.c 255],⟨113,[vP 1 0 6,vP 2 1 6,vP 8 2 6,vO 9 3 1 l2 ai,vI 10 v1,vP 11 4 16,vL 41 16 x0.ah ag.enc,vI 42 (az x0.ah),vI 43 v1,vL 57 16 r.1 ag.enc,vI 58 (az r.1),vI 59 v2],[oX 6 30 (ab.enc x0),oX 6 30 [.cB,.cB,.cB,.cB,.cB,.cB],oX 6 30 [lL 1 x0.bG.aV bO,lL 6 x0.bG.cH aH.enc,lL 14 x0.types al.enc,lO 5 16 l3 ag.enc,.cB,.cB],oS 1 3 l2 ai,oX 16 69 (ag.enc x2),oS 16 69 l3 ag.enc]⟩⟩
def Ak(Γ:bu)(rv:ab×List Int×Int)(x0:ab)(l:List Int)(v1:Int)(x2:ag)(r:List ag×Int)(l4:List Int)(l5:List ag):Prop:=nG Γ rv ⟨[.b 3,.c 16295,.l 2036,.b 2,.c 255],⟨113,[vP 1 0 6,vP 2 1 6,vP 8 2 6,vO 9 3 1 l4 ai,vL 41 16 x0.ah ag.enc,vI 42 (az x0.ah),vI 43 v1],[oX 6 30 (ab.enc x0),oX 6 30 [.cB,.cB,.cB,.cB,.cB,.cB],oX 6 30 [lL 1 x0.bG.aV bO,lL 6 x0.bG.cH aH.enc,lL 14 x0.types al.enc,lO 4 16 l5 ag.enc,.cB,.cB],oS 1 3 l4 ai,oS 16 69 l5 ag.enc]⟩⟩
def K6(Γ:bu)(rv:ab×List Int×Int)(x0:ab)(l:List Int)(l1:List ag)(v1:Int):Prop:=nG Γ rv ⟨[.c 2036,.l 2036,.b 2,.c 255],⟨113,[vP 1 0 6,vP 2 1 6,vP 8 2 6,vO 9 3 1 l ai,vL 41 16 x0.ah ag.enc,vI 42 (az x0.ah),vI 43 v1],[oX 6 30 (ab.enc x0),oX 6 30 [.cB,.cB,.cB,.cB,.cB,.cB],oX 6 30 [lL 1 x0.bG.aV bO,lL 6 x0.bG.cH aH.enc,lL 14 x0.types al.enc,lO 4 16 l1 ag.enc,.cB,.cB],oS 1 3 l ai,oS 16 69 l1 ag.enc]⟩⟩
def Jf(Γ:bu)(rv:ab×List Int×Int)(x0:ab)(l6:List Int)(l7:List ag):Prop:=nG Γ rv ⟨[.c 255],⟨113,[vP 1 0 6,vP 2 1 6,vP 8 2 6,vO 9 3 1 l6 ai],[oX 6 30 (ab.enc x0),oX 6 30 [.cB,.cB,.cB,.cB,.cB,.cB],oX 6 30 [lL 1 x0.bG.aV bO,lL 6 x0.bG.cH aH.enc,lL 14 x0.types al.enc,lO 4 16 l7 ag.enc,.cB,.cB],oS 1 3 l6 ai,oS 16 69 l7 ag.enc]⟩⟩
theorem Je(Γ:bu)(rv:ab×List Int×Int){x0}:∀⦃s:Int×Int⦄ ⦃e:Int⦄,aL (fun s=>lG x0 s.1 s.2) s=some e→Jd Γ rv x0 e→K5 Γ rv x0 s.1 s.2:=by
 refine bl ?_
 rintro⟨kj,v⟩ z_ h hI hE;simp only[lG,aB,ar,au,av]at h;rcases h with⟨h0,x1,h1,h⟩|⟨h0,h⟩
 ·exact gn 13 [1,2,5,20,21,22] [0,1] [bT h0,cE ag.enc h1] (hI h)
 ·exact gn 5 [1,2,5] [0,1] [bF h0] (hE h)
theorem Aj(Γ:bu)(rv:ab×List Int×Int){x0 l v1 x2 r l2 l3 v2 x3}{x:(List Int×List ag×Int)⊕((List Int×List ag)⊕(ab×List Int×Int))}(h:oh x0 l v1 x2 r l2 l3 v2 x3=some x)(hI:∀⦃s:List Int×List ag×Int⦄,some (.inl s)=some x→Bl Γ rv x0 l v1 x2 r s.1 s.2.1 s.2.2)(hE:∀⦃e:(List Int×List ag)⊕(ab×List Int×Int)⦄,some (.inr e)=some x→iD e (fun e=>Ak Γ rv x0 l v1 x2 r e.1 e.2) (fun e=>e=rv)):nG Γ rv ⟨[.c 133484339,.b 5,.c 16685543,.l 2085692,.b 4,.b 3,.c 16295,.l 2036,.b 2,.c 255],⟨113,[vP 1 0 6,vP 2 1 6,vP 8 2 6,vO 9 3 1 l2 ai,vI 10 v1,vP 11 4 16,vP 15 5 16,vL 41 16 x0.ah ag.enc,vI 42 (az x0.ah),vI 43 v1,vL 57 16 r.1 ag.enc,vI 58 (az r.1),vI 59 v2],[oX 6 30 (ab.enc x0),oX 6 30 [.cB,.cB,.cB,.cB,.cB,.cB],oX 6 30 [lL 1 x0.bG.aV bO,lL 6 x0.bG.cH aH.enc,lL 14 x0.types al.enc,lO 6 16 l3 ag.enc,.cB,.cB],oS 1 3 l2 ai,oX 16 69 (ag.enc x2),oX 16 69 (ag.enc x3),oS 16 69 l3 ag.enc]⟩⟩:=by
 simp only[oh,aB,ar,au,av]at h;obtain⟨iG,nW,h⟩:=h;exact gn 6 [1,2,8,9,10,11,41,42,43,57,58,59] [0,1,2,10,4,8] [oO (Eq.refl ([x3].map ag.enc).length),aO ag.enc iG,oO (Eq.refl ([v1].map ai).length),aO ai nW] (hI h)
theorem Jh(Γ:bu)(rv:ab×List Int×Int){x0 l v1 x2 r}:∀⦃s:List Int×List ag×Int⦄ ⦃e:(List Int×List ag)⊕(ab×List Int×Int)⦄,aL (fun s=>lJ x0 l v1 x2 r s.1 s.2.1 s.2.2) s=some e→iD e (fun e=>Ak Γ rv x0 l v1 x2 r e.1 e.2) (fun e=>e=rv)→Bl Γ rv x0 l v1 x2 r s.1 s.2.1 s.2.2:=by
 refine bl ?_
 rintro⟨l2,l3,v2⟩ z_ h hI hE;simp only[lJ,aB,ar,au,av]at h;rcases h with⟨h8,x3,h9,⟨dm,r1,fH,⟨gi,h⟩|⟨gi,h⟩⟩|⟨dm,h⟩⟩|⟨h8,h⟩
 ·obtain rfl:=(hE h:_=rv);exact gr 20 [] [bT h8,cE ag.enc h9,bT dm,eL l3 ag.enc,cC (GA fH),bT gi,hW 7,hH (.fj 1 0 1),hH (.fj 1 1 6),hH (.fj 1 2 14),hH (.fj 1 3 16),hH (.fj 1 4 2),hH (.fj 1 5 2),hH (.sg 3 0 1)]
 ·exact gn 19 [1,2,8,9,10,11,15,41,42,43,57,58,59] [0,1,2,3,4,6,5] [bT h8,cE ag.enc h9,bT dm,eL l3 ag.enc,cC (GA fH),bF gi] (Aj Γ rv h hI hE)
 ·exact gn 14 [1,2,8,9,10,11,15,41,42,43,57,58,59] [0,1,2,3,4,6,5] [bT h8,cE ag.enc h9,bF dm] (Aj Γ rv h hI hE)
 ·exact gn 5 [1,2,8,9,41,42,43] [0,1,2,3,5] [bF h8] (hE h)
theorem Jg(Γ:bu)(rv:ab×List Int×Int){x0}:∀⦃s:List Int×List ag×Int⦄ ⦃e:(List Int×List ag)⊕(ab×List Int×Int)⦄,aL (fun s=>lH x0 s.1 s.2.1 s.2.2) s=some e→iD e (fun e=>Jf Γ rv x0 e.1 e.2) (fun e=>e=rv)→K6 Γ rv x0 s.1 s.2.1 s.2.2:=by
 refine bl ?_
 rintro⟨l,l1,v1⟩ z_ h hI hE;simp only[lH,aB,ar,au,av]at h;rcases h with⟨h4,x2,h5,r,h6,⟨h7,h⟩|⟨h7,e1,qx,h⟩⟩|⟨h4,h⟩
 ·obtain rfl:=(hE h:_=rv);exact gr 17 [] [bT h4,cE ag.enc h5,cC (GB h6),bT h7,hW 7,hH (.fj 1 0 1),hH (.fj 1 1 6),hH (.fj 1 2 14),hH (.fj 1 3 16),hH (.fj 1 4 2),hH (.fj 1 5 2),hH (.sg 3 0 1)]
 ·refine gn 20 [1,2,8,9,10,11,41,42,43,57,58,59] [0,1,2,3,5,4] [bT h4,cE ag.enc h5,cC (GB h6),bF h7,nL ag.enc r.1] (Jh Γ rv qx ?_);rcases e1 with⟨l4,l5⟩|r2
  ·exact gn 3 [1,2,8,9,41,42,43] [0,1,2,3,4] [] (hI h)
  ·exact(hE h:_=rv)
 ·exact gn 5 [1,2,8,9] [0,1,2,3,4] [bF h4] (hE h)
theorem j7{x0}{rv:ab×List Int×Int}(h:qJ x0=some rv):dv prog 14 [.agg (ab.enc x0)] [] (.jx [.agg [lL 1 rv.1.bG.aV bO,lL 6 rv.1.bG.cH aH.enc,lL 14 rv.1.types al.enc,lL 16 rv.1.ah ag.enc,lL 2 rv.1.bV aA.enc,lL 2 rv.1.before aA.enc],.one (lL 1 rv.2.1 ai),.one (lI rv.2.2)]) []:=by
 refine aW func14 fun Γ=>?_
 simp only[qJ,aB,ar,au,av]at h;obtain⟨D8,h2,h⟩:=h;refine gn 9 [1,2,5,20,21,22] [0,1] [nL ag.enc x0.ah] (Je Γ rv h2 ?_);rcases h with⟨h3,h⟩|⟨h3,e2,sH,h⟩
 ·cases h;exact gr 6 [] [bT h3,hW 6,hH (.fj 1 0 1),hH (.fj 1 1 6),hH (.fj 1 2 14),hH (.fj 1 3 16),hH (.fj 1 4 2),hH (.fj 1 5 2),hH (.sg 3 0 1)]
 ·refine gn 14 [1,2,8,9,41,42,43] [0,1,2,3,4] [bF h3,nL ag.enc x0.ah,hW 3,hH (.kH 9 1 3),hH (.tV 2 3 16 69)] (Jg Γ rv sH ?_);rcases e2 with⟨l6,l7⟩|r5
  ·simp only[dw,aB,ar,au,av]at h;rcases h with⟨r3,uu,r4,E4,⟨AD,h⟩|⟨AD,h⟩⟩
   ·cases h;exact gr 12 [] [hW 9,hH (.jn 3),rp 2 (eL l6 ai),cC (tS uu),cC (tS E4),hP,hP,hP,oI ((cr r3.2 0)=false),oR True ((cr r3.2 0)=false),bT AD,hW 6,hH (.fj 1 0 1),hH (.fj 1 1 6),hH (.fj 1 2 14),hH (.fj 1 3 16),hH (.fj 1 4 2),hH (.fj 1 5 2),hH (.sg 3 0 1)]
   ·cases h;exact gr 13 [] [hW 9,hH (.jn 3),rp 2 (eL l6 ai),cC (tS uu),cC (tS E4),hP,hP,hP,oI ((cr r3.2 0)=false),oR True ((cr r3.2 0)=false),bF AD,hW 8,hH (.jn 4),rp 3 (eL l7 ag.enc)]
  ·exact oK h
theorem pX{l eK}{rv:Bool}(h:uD l eK=some rv):dv prog 155 [.one (lL 16 l ag.enc),.one (lI eK)] [] (one (.bool rv)) []:=by
 refine aW func155 fun Γ=>?_
 simp only[uD,aB,ar,au,av]at h;cases h;exact gr 4 [] [hP,hP,hP,oI ((cD eK 0)=true),nL ag.enc l,hP,hP,rp 2 (oI ((cD eK 0)=true)),oR True ((cD eK 0)=true)]
def PX(Γ:bu)(rv:List ae)(cf:Cf):Prop:=Go prog f84 [] Γ (one (lL 2 rv ae.enc)) [] cf
theorem Aa(Γ:bu)(rv:List ae){l eK l1}(h:od l eK l1=some rv):PX Γ rv ⟨[.c 31],⟨35,[vL 0 16 l ag.enc,vI 1 eK,vO 5 0 2 l1 ae.enc],[oS 2 102 l1 ae.enc]⟩⟩:=by
 simp only[od,aB,ar,au,av]at h;rcases h with⟨x1,h5,⟨h6,h7,h⟩|⟨h6,h⟩⟩
 ·cases h;exact gr 7 [] [cE ag.enc h5,bT h6,oO (Eq.refl ([(ae.mk eK true)].map ae.enc).length),aO ae.enc h7,hW 5,hH (.jn 2),rp 4 (oO (Eq.refl ((l1++[(ae.mk eK true)]).map ae.enc).length))]
 ·obtain rfl:=oK h;exact gr 7 [] [cE ag.enc h5,bF h6,hW 5,hH (.jn 0),rp 3 (eL l1 ae.enc)]
theorem oe{l eK}{rv:List ae}(h:mA l eK=some rv):dv prog 84 [.one (lL 16 l ag.enc),.one (lI eK)] [] (one (lL 2 rv ae.enc)) []:=by
 refine aW func84 fun Γ=>?_
 simp only[mA,aB,ar,au,av]at h;rcases h with⟨r,h0,⟨h1,x0,h2,⟨h3,h4,h⟩|⟨h3,h⟩⟩|⟨h1,h⟩⟩
 ·exact gn 14 [0,1,5] [1] [cC (pX h0),nF h1,cE ag.enc h2,bT h3,oO (Eq.refl ([(ae.mk eK false)].map ae.enc).length),aN (l:=([(ae.mk eK false)]:List ae)) ae.enc h4] (Aa Γ rv h)
 ·exact gn 14 [0,1,5] [0] [cC (pX h0),nF h1,cE ag.enc h2,bF h3,hW 1,hH (.kH 5 2 102)] (Aa Γ rv h)
 ·cases h;exact gr 10 [] [cC (pX h0),nT h1,hW 3,hH (.sg 4 0 2)]
theorem eR{bz i}{rv:Bool}(h:k9 bz i=some rv):dv prog 76 [.one (lI bz),.one (lI i)] [] (one (.bool rv)) []:=by
 refine aW func76 fun Γ=>?_
 simp only[k9,aB,ar,au,av]at h;rcases h with⟨h0,h1,h⟩|⟨h0,h⟩
 ·cases h;exact gr 4 [] [hP,hP,hP,oI ((cD i 0)=true),oR True ((cD i 0)=true),rp 3 (bT h0),oO (h1),rp 3 (bT h0)]
 ·obtain rfl:=oK h;exact gr 4 [] [hP,hP,hP,oI ((cD i 0)=true),oR True ((cD i 0)=true),rp 6 (bF h0)]
def Gt(Γ:bu)(rv:List Int)(cf:Cf):Prop:=Go prog f98 [] Γ (one (lL 1 rv ai)) [] cf
def K0(Γ:bu)(rv:List Int)(bz:Int)(l:List Int)(v:Int):Prop:=Gt Γ rv ⟨[.c 116,.l 116,.b 0,.c 15],⟨17,[vI 0 bz,vO 3 0 1 l ai,vI 5 v],[oS 1 3 l ai]⟩⟩
def I8(Γ:bu)(rv:List Int)(bz:Int)(l1:List Int):Prop:=Gt Γ rv ⟨[.c 15],⟨17,[vO 3 0 1 l1 ai],[oS 1 3 l1 ai]⟩⟩
theorem I9(Γ:bu)(rv:List Int){bz}:∀⦃s:List Int×Int⦄ ⦃e:List Int⦄,aL (fun s=>iB bz s.1 s.2) s=some e→I8 Γ rv bz e→K0 Γ rv bz s.1 s.2:=by
 refine bl ?_
 rintro⟨l,v⟩ z_ h hI hE;simp only[iB,aB,ar,au,av]at h;rcases h with⟨h0,r,h1,⟨h2,h3,h⟩|⟨h2,h⟩⟩|⟨h0,h⟩
 ·exact gn 16 [0,3,5] [2] [bT h0,cC (eR h1),bT h2,oO (Eq.refl ([v].map ai).length),aO ai h3] (hI h)
 ·exact gn 16 [0,3,5] [0] [bT h0,cC (eR h1),bF h2] (hI h)
 ·exact gn 5 [3] [0] [bF h0] (hE h)
theorem yG{bz}{rv:List Int}(h:qH bz=some rv):dv prog 98 [.one (lI bz)] [] (one (lL 1 rv ai)) []:=by
 refine aW func98 fun Γ=>?_
 simp only[qH,aB,ar,au,av]at h;obtain⟨l1,h4,h⟩:=h;refine gn 9 [0,3,5] [0] [hW 12,hH (.kH 3 1 3)] (I9 Γ rv h4 ?_);obtain rfl:=oK h;exact gr 2 [] [hW 4,hH (.jn 0),rp 3 (eL l1 ai)]
end
end Go.Proofs.YtkcilfpbgjjjbaaGreatDoor
