/- Part MU. -/
import Derived.Test.YtkcilfpbgjjjbaaGreatDoorMI
import Derived.Test.YtkcilfpbgjjjbaaGreatDoorMT
import Derived.Test.YtkcilfpbgjjjbaaGreatDoorMC
import Derived.Test.YtkcilfpbgjjjbaaGreatDoorMS
import Derived.Test.YtkcilfpbgjjjbaaGreatDoorProg
set_option linter.unusedSimpArgs false
set_option linter.unusedVariables false
set_option linter.unusedSectionVars false
namespace Go.Proofs.YtkcilfpbgjjjbaaGreatDoor
open _root_.Go.Proofs.Tryz
section
variable (G:bC)
set_option maxHeartbeats 4000000
set_option maxRecDepth 100000
def wI(rv:List aa)(cf:Cf):Prop:=Go prog f58 [] G (one (lL 2 rv aa.enc)) [] cf
def zu(rv:List aa)(word:I)(l l1:List aa)(i:Int):Prop:=wI G rv ⟨[.c 116,.l 116,.b 0,.c 15],⟨40,[vS 0 word,vL 1 2 l aa.enc,vO 5 0 2 l1 aa.enc,vI 6 i],[oS 2 219 l1 aa.enc]⟩⟩
def yq(rv:List aa)(word:I)(l l2:List aa):Prop:=wI G rv ⟨[.c 15],⟨40,[vO 5 0 2 l2 aa.enc],[oS 2 219 l2 aa.enc]⟩⟩
theorem yp(rv:List aa){word l l1 i j7}{x:(List aa×Int)⊕(List aa)}(h:n7 word l l1 i j7=some x)(hI:∀⦃s:List aa×Int⦄,some (.inl s)=some x->zu G rv word l s.1 s.2)(hE:∀⦃e:List aa⦄,some (.inr e)=some x->yq G rv word l e):wI G rv ⟨[.c 3731,.b 1,.c 467,.l 116,.b 0,.c 15],⟨40,[vS 0 word,vL 1 2 l aa.enc,vO 5 0 2 l1 aa.enc,vI 6 i,vS 7 j7],[oS 2 219 l1 aa.enc]⟩⟩:=by
 simp only[n7,az,aq,ar,au]at h;obtain⟨x1,h5,h6,h⟩:=h;exact gn 4 [0,1,5,6] [2] [cE aa.enc h5,oO (Eq.refl ([(aa.mk x1.err j7)].map aa.enc).length),aO aa.enc h6] (hI h)
theorem Gb(rv:List aa){word l}:∀⦃s:List aa×Int⦄ ⦃e:List aa⦄,aL (λs=>n8 word l s.1 s.2) s=some e->yq G rv word l e->zu G rv word l s.1 s.2:=by
 refine bz ?_
 rintro⟨l1,i⟩ z_ h hI hE;simp only[n8,az,aq,ar,au]at h;rcases h with⟨h0,x0,h1,⟨h2,h⟩|⟨h2,h3,h4,h⟩⟩|⟨h0,h⟩
 ·exact gn 14 [0,1,5,6,7] [0] [nL aa.enc l,bT h0,cE aa.enc h1,nF h2] (yp G rv h hI hE)
 ·exact gn 14 [0,1,5,6,7] [0] [nL aa.enc l,bT h0,cE aa.enc h1,nT h2,oO (h3),cE aa.enc h1,oO (h4)] (yp G rv h hI hE)
 ·exact gn 5 [5] [0] [nL aa.enc l,bF h0] (hE h)
theorem vG{word l}{rv:List aa}(h:pb word l=some rv):dK prog 58 [.one (.str word),.one (lL 2 l aa.enc)] [] (one (lL 2 rv aa.enc)) []:=by
 refine aX func58 λG=>?_
 simp only[pb,az,aq,ar,au]at h;obtain⟨l2,h7,h⟩:=h;refine gn 9 [0,1,5,6] [0] [hW 12,hH (.nP 5 2 219)] (Gb G rv h7 ?_);obtain rfl:=oK h;exact gr 2 [] [hW 4,hH (.ng 0),rp 3 (eL l2 aa.enc)]
def uo(rv:I)(cf:Cf):Prop:=Go prog f135 [] G (one (.str rv)) [] cf
def xc(rv:I)(n:Int)(s0:I)(left:Int)(again:Bool):Prop:=uo G rv ⟨[.c 244,.l 244,.b 0,.c 31],⟨31,[vI 0 n,vS 3 s0,vI 4 left,vB 5 again],[]⟩⟩
def vY(rv:I)(n:Int)(s1:I):Prop:=uo G rv ⟨[.c 31],⟨31,[vI 0 n,vS 3 s1],[]⟩⟩
theorem vX(rv:I){n s0 left d}{x:(I×Int×Bool)⊕(I)}(h:ji n s0 left d=some x)(hI:∀⦃s:I×Int×Bool⦄,some (.inl s)=some x->xc G rv n s.1 s.2.1 s.2.2)(hE:∀⦃e:I⦄,some (.inr e)=some x->vY G rv n e):uo G rv ⟨[.c 7827,.b 1,.c 979,.l 244,.b 0,.c 31],⟨31,[vI 0 n,vS 3 s0,vI 4 left,vI 6 d],[]⟩⟩:=by
 simp only[ji,az,aq,ar,au]at h;obtain⟨h2,h⟩:=h;exact gn 6 [0,3,4,5] [] [hH (.ints [(Bn .u8 (aV .i64 48 d))]),oO (Eq.refl ([(Bn .u8 (aV .i64 48 d))].map G3).length),oO (Eq.refl (([(Bn .u8 (aV .i64 48 d))].map G3):List (List Lf))),oO (h2),oO (oA (n:=10))] (hI h)
theorem DO(rv:I){n}:∀⦃s:I×Int×Bool⦄ ⦃e:I⦄,aL (λs=>tS n s.1 s.2.1 s.2.2) s=some e->vY G rv n e->xc G rv n s.1 s.2.1 s.2.2:=by
 refine bz ?_
 rintro⟨s0,left,again⟩ z_ h hI hE;simp only[tS,az,aq,ar,au]at h;rcases h with⟨h0,⟨h1,h⟩|⟨h1,h⟩⟩|⟨h0,h⟩
 ·exact gn 14 [0,3,4,6] [] [bT h0,oO (oA (n:=10)),bT h1] (vX G rv h hI hE)
 ·exact gn 14 [0,3,4,6] [] [bT h0,oO (oA (n:=10)),bF h1] (vX G rv h hI hE)
 ·exact gn 5 [0,3] [] [bF h0] (hE h)
theorem fm{n}{rv:I}(h:fj n=some rv):dK prog 135 [.one (lI n)] [] (one (.str rv)) []:=by
 refine aX func135 λG=>?_
 simp only[fj,az,aq,ar,au]at h;obtain⟨s1,h3,h⟩:=h;refine gn 11 [0,3,4,5] [] [] (DO G rv h3 ?_);rcases h with⟨h4,h5,h⟩|⟨h4,h⟩
 ·cases h;exact gr 6 [] [bT h4,oO (h5)]
 ·obtain rfl:=oK h;exact gr 7 [] [bF h4]
theorem rf{c}{rv:Bool}(h:uU c=some rv):dK prog 244 [.one (.int .u8 c)] [] (one (.bool rv)) []:=by
 refine aX func244 λG=>?_
 simp only[uU,az,aq,ar,au]at h;cases h;exact gr 4 [] [hP,hP,hP,oI ((cT c 48)=true),oR True ((cT c 48)=true)]
theorem uq{c}{rv:Bool}(h:xI c=some rv):dK prog 245 [.one (.int .u8 c)] [] (one (.bool rv)) []:=by
 refine aX func245 λG=>?_
 simp only[xI,az,aq,ar,au]at h;cases h;exact gr 4 [] [rp 14 hP,oI ((cT c 97)=true),oR True ((cT c 97)=true),rp 2 (oI (((cT c 97)&&(gB c 122))=false)),oI ((((cT c 97)&&(gB c 122))=false)/\(cT c 65)=true),oI (((cT c 97)&&(gB c 122))=false),oI ((((cT c 97)&&(gB c 122))=false)/\(cT c 65)=true),oR True (((cT c 97)&&(gB c 122))=false),oI ((((cT c 97)&&(gB c 122))||((cT c 65)&&(gB c 90)))=false),oR True ((((cT c 97)&&(gB c 122))||((cT c 65)&&(gB c 90)))=false)]
def Dg(rv:Bool)(cf:Cf):Prop:=Go prog f196 [] G (one (.bool rv)) [] cf
def IP(rv:Bool)(s0:I)(b:UInt8)(i:Int):Prop:=Dg G rv ⟨[.c 116,.l 116,.b 0,.c 15],⟨35,[vS 0 s0,vI 3 i],[]⟩⟩
def G_(rv:Bool)(s0:I)(b:UInt8):Prop:=Dg G rv ⟨[.c 15],⟨35,[],[]⟩⟩
theorem Ha(rv:Bool){s0 b}:∀⦃s:Int⦄ ⦃e:(Unit)⊕(Bool)⦄,aL (λs=>py s0 b s) s=some e->jg e (λe=>G_ G rv s0 b) (λe=>e=rv)->IP G rv s0 b s:=by
 refine bz ?_
 intro i z_ h hI hE;simp only[py,az,aq,ar,au]at h;rcases h with⟨h4,b1,h5,r1,h6,⟨h7,h⟩|⟨h7,r2,h8,⟨h9,h⟩|⟨h9,h⟩⟩⟩|⟨h4,h⟩
 ·exact gn 14 [0,3] [] [bT h4,yE h5,cC (uq h6),rp 6 (nF h7),fF] (hI h)
 ·exact gn 14 [0,3] [] [bT h4,yE h5,cC (uq h6),rp 3 (nT h7),yE h5,nT h7,cC (rf h8),nT h7,nT h7,nF h9] (hI h)
 ·obtain rfl:=(hE h:_=rv);exact gr 12 [] [bT h4,yE h5,cC (uq h6),rp 3 (nT h7),yE h5,nT h7,cC (rf h8),nT h7,nT h7,nT h9]
 ·exact gn 5 [] [] [bF h4] (hE h)
theorem lP{s0}{rv:Bool}(h:nD s0=some rv):dK prog 196 [.one (.str s0)] [] (one (.bool rv)) []:=by
 refine aX func196 λG=>?_
 simp only[nD,az,aq,ar,au]at h;rcases h with⟨h0,h⟩|⟨h0,b,h1,r,h2,⟨h3,h⟩|⟨h3,e0,dO,h⟩⟩
 ·obtain rfl:=oK h;exact gr 8 [] [rp 4 hP,rp 2 (oI ((bh (ca s0) 1)=false)),oR True ((bh (ca s0) 1)=false),rp 4 (bT h0),tT]
 ·obtain rfl:=oK h;exact gr 8 [] [rp 4 hP,rp 2 (oI ((bh (ca s0) 1)=false)),oR True ((bh (ca s0) 1)=false),bF h0,bF h0,yE h1,bF h0,cC (rf h2),bF h0,bT h3]
 ·refine gn 12 [0,3] [] [rp 4 hP,rp 2 (oI ((bh (ca s0) 1)=false)),oR True ((bh (ca s0) 1)=false),bF h0,bF h0,yE h1,bF h0,cC (rf h2),bF h0,bF h3] (Ha G rv dO ?_);rcases e0 with e0|r3
  ·obtain rfl:=oK h;exact gr 2 [] []
  ·exact oK h
def sP(rv:List aa)(cf:Cf):Prop:=Go prog f197 [] G (one (lL 2 rv aa.enc)) [] cf
def zr(rv:List aa)(l:List aK)(l2:List aa)(i:Int):Prop:=sP G rv ⟨[.c 244,.l 244,.b 0,.c 31],⟨88,[vL 0 2 l aK.enc,vO 3 0 2 l2 aa.enc,vI 4 i],[oS 2 219 l2 aa.enc]⟩⟩
def xP(rv:List aa)(l:List aK)(l4:List aa):Prop:=sP G rv ⟨[.c 31],⟨88,[vO 3 0 2 l4 aa.enc],[oS 2 219 l4 aa.enc]⟩⟩
theorem xO(rv:List aa){l i x0 l3}{x:(List aa×Int)⊕(List aa)}(h:kG l i x0 l3=some x)(hI:∀⦃s:List aa×Int⦄,some (.inl s)=some x->zr G rv l s.1 s.2)(hE:∀⦃e:List aa⦄,some (.inr e)=some x->xP G rv l e):sP G rv ⟨[.c 7827,.b 1,.c 979,.l 244,.b 0,.c 31],⟨88,[vL 0 2 l aK.enc,vO 3 0 2 l3 aa.enc,vI 4 i,vP 5 1 2],[oS 2 219 l3 aa.enc,oX 2 76 (aK.enc x0)]⟩⟩:=by
 simp only[kG,az,aq,ar,au]at h;rcases h with⟨h7,x1,h8,⟨h9,r1,dO,g_,h⟩|⟨h9,⟨iO,r2,jD,so,h⟩|⟨iO,h⟩⟩⟩|⟨h7,h⟩
 ·exact gn 7 [0,3,4] [3] [hH (.draw 24 []),rp 6 (bT h7),cE aK.enc h8,rp 4 (bT h7),rp 9 (bT h9),bT h7,bT h9,bT h7,tT,cC (fm dO),oO (Eq.refl ([(aa.mk 13 r1)].map aa.enc).length),aO aa.enc g_] (hI h)
 ·exact gn 7 [0,3,4] [3] [hH (.draw 24 []),rp 6 (bT h7),cE aK.enc h8,rp 4 (bT h7),rp 6 (bF h9),cE aK.enc h8,rp 3 (bF h9),bT h7,bF h9,bT h7,bT iO,cC (fm jD),oO (Eq.refl ([(aa.mk 13 r2)].map aa.enc).length),aO aa.enc so] (hI h)
 ·exact gn 7 [0,3,4] [0] [hH (.draw 24 []),rp 6 (bT h7),cE aK.enc h8,rp 4 (bT h7),rp 6 (bF h9),cE aK.enc h8,rp 3 (bF h9),bT h7,bF h9,bT h7,bF iO] (hI h)
 ·exact gn 7 [0,3,4] [0] [hH (.draw 24 []),rp 10 (bF h7),rp 9 kF,bF h7,bF h7,fF] (hI h)
theorem FU(rv:List aa){l}:∀⦃s:List aa×Int⦄ ⦃e:List aa⦄,aL (λs=>kH l s.1 s.2) s=some e->xP G rv l e->zr G rv l s.1 s.2:=by
 refine bz ?_
 rintro⟨l2,i⟩ z_ h hI hE;simp only[kH,az,aq,ar,au]at h;rcases h with⟨h2,x0,h3,⟨h4,r,h5,h6,h⟩|⟨h4,h⟩⟩|⟨h2,h⟩
 ·exact gn 14 [0,3,4,5] [3,1] [nL aK.enc l,bT h2,cE aK.enc h3,rp 17 hP,rp 2 (oI ((bh x0.t 0)=false)),oR True ((bh x0.t 0)=false),rp 4 (oI (((bh x0.t 0)||(dt x0.t 4096))=false)),oR True (((bh x0.t 0)||(dt x0.t 4096))=false),rp 5 (oI ((((bh x0.t 0)||(dt x0.t 4096))||(bh x0.a x0.t))=false)),oR True ((((bh x0.t 0)||(dt x0.t 4096))||(bh x0.a x0.t))=false),bT h4,cC (fm h5),oO (Eq.refl ([(aa.mk 2 r)].map aa.enc).length),aO aa.enc h6] (xO G rv h hI hE)
 ·exact gn 14 [0,3,4,5] [0,1] [nL aK.enc l,bT h2,cE aK.enc h3,rp 17 hP,rp 2 (oI ((bh x0.t 0)=false)),oR True ((bh x0.t 0)=false),rp 4 (oI (((bh x0.t 0)||(dt x0.t 4096))=false)),oR True (((bh x0.t 0)||(dt x0.t 4096))=false),rp 5 (oI ((((bh x0.t 0)||(dt x0.t 4096))||(bh x0.a x0.t))=false)),oR True ((((bh x0.t 0)||(dt x0.t 4096))||(bh x0.a x0.t))=false),bF h4] (xO G rv h hI hE)
 ·exact gn 5 [3] [0] [nL aK.enc l,bF h2] (hE h)
theorem xN(rv:List aa){l l1}(h:nW l l1=some rv):sP G rv ⟨[.c 15],⟨88,[vL 0 2 l aK.enc,vO 3 0 2 l1 aa.enc],[oS 2 219 l1 aa.enc]⟩⟩:=by
 simp only[nW,az,aq,ar,au]at h;obtain⟨l4,y3,h⟩:=h;refine gn 5 [0,3,4] [0] [] (FU G rv y3 ?_);obtain rfl:=oK h;exact gr 2 [] [hW 4,hH (.ng 0),rp 3 (eL l4 aa.enc)]
theorem Kv{l}{rv:List aa}(h:lU l=some rv):dK prog 197 [.one (lL 2 l aK.enc)] [] (one (lL 2 rv aa.enc)) []:=by
 refine aX func197 λG=>?_
 simp only[lU,az,aq,ar,au]at h;rcases h with⟨h0,h1,h⟩|⟨h0,h⟩
 ·exact gn 9 [0,3] [1] [nL aK.enc l,hP,hP,oI ((bh (ay l) 1)=false),nL aK.enc l,hP,hP,oI ((bh (ay l) 1)=false),oR True ((bh (ay l) 1)=false),bT h0,oO (Eq.refl ([(aa.mk 4 ByteArray.empty)].map aa.enc).length),aN (l:=([(aa.mk 4 ByteArray.empty)]:List aa)) aa.enc h1] (xN G rv h)
 ·exact gn 9 [0,3] [0] [nL aK.enc l,hP,hP,oI ((bh (ay l) 1)=false),nL aK.enc l,hP,hP,oI ((bh (ay l) 1)=false),oR True ((bh (ay l) 1)=false),bF h0,hW 1,hH (.nP 3 2 219)] (xN G rv h)
theorem gl{t}{rv:Bool}(h:qg t=some rv):dK prog 198 [.one (lI t)] [] (one (.bool rv)) []:=by
 refine aX func198 λG=>?_
 simp only[qg,az,aq,ar,au]at h;cases h;exact gr 4 [] [hP,hP,hP,oI ((cT t 0)=true),oR True ((cT t 0)=true)]
def eR(rv:List aa)(cf:Cf):Prop:=Go prog f132 [] G (one (lL 2 rv aa.enc)) [] cf
def DP(rv:List aa)(n:aC)(i:Int)(r:I)(x0:a7)(l l1:List aa)(oY:Bool)(k:Int):Prop:=eR G rv ⟨[.c 4084,.l 4084,.b 0,.c 511],⟨192,[vI 1 i,vP 2 0 2,vO 5 1 2 l1 aa.enc,vS 6 (ee cw r),vP 7 2 6,vB 8 oY,vI 9 k],[oX 2 25 (aC.enc n),oS 2 219 l1 aa.enc,oX 6 150 (a7.enc x0)]⟩⟩
def CM(rv:List aa)(n:aC)(i:Int)(r:I)(x0:a7)(l l1:List aa)(sZ:Bool):Prop:=eR G rv ⟨[.c 511],⟨192,[vO 5 0 2 l1 aa.enc,vS 6 (ee cw r),vP 7 1 6,vB 8 sZ],[oS 2 219 l1 aa.enc,oX 6 150 (a7.enc x0)]⟩⟩
def DQ(rv:List aa)(r:I)(x0:a7)(l r1 l3:List aa)(k1:Int):Prop:=eR G rv ⟨[.c 32756,.l 32756,.b 2,.c 4095],⟨192,[vO 5 0 2 l3 aa.enc,vS 6 (ee cw r),vP 7 1 6,vL 11 2 r1 aa.enc,vI 12 k1],[oS 2 219 l3 aa.enc,oX 6 150 (a7.enc x0)]⟩⟩
def CO(rv:List aa)(r:I)(x0:a7)(l r1 l4:List aa):Prop:=eR G rv ⟨[.c 4095],⟨192,[vO 5 0 2 l4 aa.enc,vS 6 (ee cw r),vP 7 1 6],[oS 2 219 l4 aa.enc,oX 6 150 (a7.enc x0)]⟩⟩
def DR(rv:List aa)(r:I)(x0:a7)(l l6:List aa)(k2:Int):Prop:=eR G rv ⟨[.c 131060,.l 131060,.b 4,.c 16383],⟨192,[vO 5 0 2 l6 aa.enc,vS 6 (ee cw r),vP 7 1 6,vI 13 k2],[oS 2 219 l6 aa.enc,oX 6 150 (a7.enc x0)]⟩⟩
def CQ(rv:List aa)(r:I)(x0:a7)(l l7:List aa):Prop:=eR G rv ⟨[.c 16383],⟨192,[vO 5 0 2 l7 aa.enc],[oS 2 219 l7 aa.enc]⟩⟩
theorem CN(rv:List aa){n i r x0 l l1}:∀⦃s:Bool×Int⦄ ⦃e:Bool⦄,aL (λs=>gi n i r x0 l l1 s.1 s.2) s=some e->CM G rv n i r x0 l l1 e->DP G rv n i r x0 l l1 s.1 s.2:=by
 refine bz ?_
 rintro⟨oY,k⟩ z_ h hI hE;simp only[gi,az,aq,ar,au]at h;rcases h with⟨h7,x1,h8,h⟩|⟨h7,h⟩
 ·exact gn 13 [1,2,5,6,7,8,9] [0,1,2] [bT h7,cE a7.enc h8,rp 22 hP,rp 5 (oI (oY=false)),rp 4 (oI ((oY=false)/\(dk x0.aY x1.aY)=true)),oI (oY=false),oI ((oY=false)/\(dk x0.aY x1.aY)=true),oI (oY=false),rp 4 (oI ((oY=false)/\((dk x0.aY x1.aY)&&(dk x0.eI x1.eI))=true)),oI (oY=false),oI ((oY=false)/\((dk x0.aY x1.aY)&&(dk x0.eI x1.eI))=true),oR True (oY=false)] (hI h)
 ·exact gn 5 [5,6,7,8] [1,2] [bF h7] (hE h)
theorem CP(rv:List aa){r x0 l r1}:∀⦃s:List aa×Int⦄ ⦃e:List aa⦄,aL (λs=>gj r x0 l r1 s.1 s.2) s=some e->CO G rv r x0 l r1 e->DQ G rv r x0 l r1 s.1 s.2:=by
 refine bz ?_
 rintro⟨l3,k1⟩ z_ h hI hE;simp only[gj,az,aq,ar,au]at h;rcases h with⟨jD,x2,so,y3,h⟩|⟨jD,h⟩
 ·exact gn 11 [5,6,7,11,12] [3,1] [nL aa.enc r1,bT jD,cE aa.enc so,oO (Eq.refl ([(aa.mk x2.err (ee cw r))].map aa.enc).length),aO aa.enc y3] (hI h)
 ·exact gn 5 [5,6,7] [0,1] [nL aa.enc r1,bF jD] (hE h)
theorem CS(rv:List aa){r x0 l}:∀⦃s:List aa×Int⦄ ⦃e:List aa⦄,aL (λs=>gk r x0 l s.1 s.2) s=some e->CQ G rv r x0 l e->DR G rv r x0 l s.1 s.2:=by
 refine bz ?_
 rintro⟨l6,k2⟩ z_ h hI hE;simp only[gk,az,aq,ar,au]at h;rcases h with⟨Fi,x3,G4,r2,MH,⟨LI,r3,RH,⟨Ni,⟨LJ,x4,Lh,⟨Y_,Yc,h⟩|⟨Y_,h⟩⟩|⟨LJ,h⟩⟩|⟨Ni,AQ,h⟩⟩|⟨LI,RJ,h⟩⟩|⟨Fi,h⟩
 ·exact gn 16 [5,6,7,13] [4,1] [nL aK.enc x0.jY,bT Fi,cE aK.enc G4,hH (.draw 26 []),cC (gl MH),rp 3 (nF LI),cC (gl RH),rp 2 (nF LI),rp 3 (nF Ni),rp 7 (bT LJ),cE aK.enc Lh,rp 3 (bT LJ),nF Ni,bT LJ,nF Ni,bT Y_,oO (Eq.refl ([(aa.mk 2 (ee cw r))].map aa.enc).length),aO aa.enc Yc] (hI h)
 ·exact gn 16 [5,6,7,13] [0,1] [nL aK.enc x0.jY,bT Fi,cE aK.enc G4,hH (.draw 26 []),cC (gl MH),rp 3 (nF LI),cC (gl RH),rp 2 (nF LI),rp 3 (nF Ni),rp 7 (bT LJ),cE aK.enc Lh,rp 3 (bT LJ),nF Ni,bT LJ,nF Ni,bF Y_] (hI h)
 ·exact gn 16 [5,6,7,13] [0,1] [nL aK.enc x0.jY,bT Fi,cE aK.enc G4,hH (.draw 26 []),cC (gl MH),rp 3 (nF LI),cC (gl RH),rp 2 (nF LI),rp 3 (nF Ni),rp 10 (bF LJ),nF Ni,bF LJ,nF Ni,fF] (hI h)
 ·exact gn 16 [5,6,7,13] [4,1] [nL aK.enc x0.jY,bT Fi,cE aK.enc G4,hH (.draw 26 []),cC (gl MH),rp 3 (nF LI),cC (gl RH),rp 2 (nF LI),rp 3 (nT Ni),rp 10 kF,rp 2 (nT Ni),tT,oO (Eq.refl ([(aa.mk 2 (ee cw r))].map aa.enc).length),aO aa.enc AQ] (hI h)
 ·exact gn 16 [5,6,7,13] [4,1] [nL aK.enc x0.jY,bT Fi,cE aK.enc G4,hH (.draw 26 []),cC (gl MH),rp 5 (nT LI),tT,tT,tT,rp 10 kF,tT,tT,tT,oO (Eq.refl ([(aa.mk 2 (ee cw r))].map aa.enc).length),aO aa.enc RJ] (hI h)
 ·exact gn 5 [5] [0] [nL aK.enc x0.jY,bF Fi] (hE h)
theorem vo(rv:List aa){r x0 l l5}(h:gh r x0 l l5=some rv):eR G rv ⟨[.c 8191],⟨192,[vO 5 0 2 l5 aa.enc,vS 6 (ee cw r),vP 7 1 6],[oS 2 219 l5 aa.enc,oX 6 150 (a7.enc x0)]⟩⟩:=by
 simp only[gh,az,aq,ar,au]at h;obtain⟨l7,QO,h⟩:=h;refine gn 5 [5,6,7,13] [0,1] [] (CS G rv QO ?_);obtain rfl:=oK h;exact gr 2 [] [hW 4,hH (.ng 0),rp 3 (eL l7 aa.enc)]
theorem vn(rv:List aa){r x0 l l2}(h:iE r x0 l l2=some rv):eR G rv ⟨[.c 1023],⟨192,[vO 5 0 2 l2 aa.enc,vS 6 (ee cw r),vP 7 1 6],[oS 2 219 l2 aa.enc,oX 6 150 (a7.enc x0)]⟩⟩:=by
 simp only[iE,az,aq,ar,au]at h;obtain⟨r1,iO,l4,vj,h⟩:=h;refine gn 7 [5,6,7,11,12] [0,1] [cC (Kv iO)] (CP G rv vj ?_);rcases h with⟨B4,Lg,h⟩|⟨B4,h⟩
 ·exact gn 5 [5,6,7] [3,1] [nL aK.enc x0.jY,bT B4,oO (Eq.refl ([(aa.mk 4 (ee cw r))].map aa.enc).length),aO aa.enc Lg] (vo G rv h)
 ·exact gn 5 [5,6,7] [0,1] [nL aK.enc x0.jY,bF B4] (vo G rv h)
theorem vm(rv:List aa){n i r x0 l l1}(h:iD n i r x0 l l1=some rv):eR G rv ⟨[.c 127],⟨192,[vI 1 i,vP 2 0 2,vO 5 1 2 l1 aa.enc,vS 6 (ee cw r),vP 7 2 6],[oX 2 25 (aC.enc n),oS 2 219 l1 aa.enc,oX 6 150 (a7.enc x0)]⟩⟩:=by
 simp only[iD,az,aq,ar,au]at h;obtain⟨sZ,h9,h⟩:=h;refine gn 7 [1,2,5,6,7,8,9] [0,1,2] [] (CN G rv h9 ?_);rcases h with⟨dO,g_,h⟩|⟨dO,h⟩
 ·exact gn 5 [5,6,7] [3,1] [bT dO,oO (Eq.refl ([(aa.mk 6 (ee cw r))].map aa.enc).length),aO aa.enc g_] (vn G rv h)
 ·exact gn 5 [5,6,7] [0,1] [bF dO] (vn G rv h)
theorem vk(rv:List aa){n i r x0 l}(h:iC n i r x0 l=some rv):eR G rv ⟨[.c 63],⟨192,[vI 1 i,vP 2 0 2,vO 5 1 2 l aa.enc,vS 6 (ee cw r),vP 7 2 6],[oX 2 25 (aC.enc n),oS 2 219 l aa.enc,oX 6 150 (a7.enc x0)]⟩⟩:=by
 simp only[iC,az,aq,ar,au]at h;rcases h with⟨h5,h6,h⟩|⟨h5,h⟩
 ·exact gn 5 [1,2,5,6,7] [0,4,2] [rp 18 hP,rp 2 (oI ((bh x0.aJ 0)=false)),oR True ((bh x0.aJ 0)=false),rp 2 (oI (((bh x0.aJ 0)||(dt x0.aJ 7))=false)),oR True (((bh x0.aJ 0)||(dt x0.aJ 7))=false),rp 2 (oI ((((bh x0.aJ 0)||(dt x0.aJ 7))||(bh x0.cV 0))=false)),oR True ((((bh x0.aJ 0)||(dt x0.aJ 7))||(bh x0.cV 0))=false),rp 4 (oI (((((bh x0.aJ 0)||(dt x0.aJ 7))||(bh x0.cV 0))||(dt x0.cV 10000))=false)),oR True (((((bh x0.aJ 0)||(dt x0.aJ 7))||(bh x0.cV 0))||(dt x0.cV 10000))=false),bT h5,oO (Eq.refl ([(aa.mk 2 (ee cw r))].map aa.enc).length),aO aa.enc h6] (vm G rv h)
 ·exact gn 5 [1,2,5,6,7] [0,1,2] [rp 18 hP,rp 2 (oI ((bh x0.aJ 0)=false)),oR True ((bh x0.aJ 0)=false),rp 2 (oI (((bh x0.aJ 0)||(dt x0.aJ 7))=false)),oR True (((bh x0.aJ 0)||(dt x0.aJ 7))=false),rp 2 (oI ((((bh x0.aJ 0)||(dt x0.aJ 7))||(bh x0.cV 0))=false)),oR True ((((bh x0.aJ 0)||(dt x0.aJ 7))||(bh x0.cV 0))=false),rp 4 (oI (((((bh x0.aJ 0)||(dt x0.aJ 7))||(bh x0.cV 0))||(dt x0.cV 10000))=false)),oR True (((((bh x0.aJ 0)||(dt x0.aJ 7))||(bh x0.cV 0))||(dt x0.cV 10000))=false),bF h5] (vm G rv h)
theorem FX{n i}{rv:List aa}(h:nY n i=some rv):dK prog 132 [.agg (aC.enc n),.one (lI i)] [] (one (lL 2 rv aa.enc)) []:=by
 refine aX func132 λG=>?_
 simp only[nY,az,aq,ar,au]at h;rcases h with⟨r,h0,h1,x0,h2,⟨h3,h4,h⟩|⟨h3,h⟩⟩
 ·exact gn 13 [1,2,5,6,7] [0,3,1] [cC (fm h0),oO (h1),cE a7.enc h2,rp 5 hP,rp 3 (oI ((bh x0.aY 0)=false)),nL bN n.bm,rp 11 hP,rp 2 (oI ((bh x0.aY 0)=false)),oR True ((bh x0.aY 0)=false),rp 2 (oI (((bh x0.aY 0)||(cT x0.aY (ay n.bm)))=false)),oR True (((bh x0.aY 0)||(cT x0.aY (ay n.bm)))=false),rp 3 (oI ((((bh x0.aY 0)||(cT x0.aY (ay n.bm)))||(bh x0.eI 0))=false)),nL bN n.bm,hP,hP,rp 2 (oI ((((bh x0.aY 0)||(cT x0.aY (ay n.bm)))||(bh x0.eI 0))=false)),oR True ((((bh x0.aY 0)||(cT x0.aY (ay n.bm)))||(bh x0.eI 0))=false),bT h3,oO (Eq.refl ([(aa.mk 11 (ee cw r))].map aa.enc).length),aN (l:=([(aa.mk 11 (ee cw r))]:List aa)) aa.enc h4] (vk G rv h)
 ·exact gn 13 [1,2,5,6,7] [0,2,1] [cC (fm h0),oO (h1),cE a7.enc h2,rp 5 hP,rp 3 (oI ((bh x0.aY 0)=false)),nL bN n.bm,rp 11 hP,rp 2 (oI ((bh x0.aY 0)=false)),oR True ((bh x0.aY 0)=false),rp 2 (oI (((bh x0.aY 0)||(cT x0.aY (ay n.bm)))=false)),oR True (((bh x0.aY 0)||(cT x0.aY (ay n.bm)))=false),rp 3 (oI ((((bh x0.aY 0)||(cT x0.aY (ay n.bm)))||(bh x0.eI 0))=false)),nL bN n.bm,hP,hP,rp 2 (oI ((((bh x0.aY 0)||(cT x0.aY (ay n.bm)))||(bh x0.eI 0))=false)),oR True ((((bh x0.aY 0)||(cT x0.aY (ay n.bm)))||(bh x0.eI 0))=false),bF h3,hW 1,hH (.nP 5 2 219)] (vk G rv h)
def gq(rv:List aa)(cf:Cf):Prop:=Go prog f131 [] G (one (lO 0 2 rv aa.enc)) [oS 2 219 rv aa.enc] cf
def zb(rv:List aa)(n:aC)(l l1:List aa)(i:Int)(r:I)(oY:Bool)(k:Int):Prop:=gq G rv ⟨[.c 250484,.l 250484,.b 2,.c 31311,.b 1,.c 979,.l 244,.b 0,.c 31],⟨64,[vP 1 0 2,vO 3 1 2 l1 aa.enc,vI 4 i,vS 5 (ee ke r),vB 6 oY,vI 7 k],[oX 2 25 (aC.enc n),oS 2 219 l1 aa.enc]⟩⟩
def xU(rv:List aa)(n:aC)(l l1:List aa)(i:Int)(r:I)(sZ:Bool):Prop:=gq G rv ⟨[.c 31311,.b 1,.c 979,.l 244,.b 0,.c 31],⟨64,[vP 1 0 2,vO 3 1 2 l1 aa.enc,vI 4 i,vS 5 (ee ke r),vB 6 sZ],[oX 2 25 (aC.enc n),oS 2 219 l1 aa.enc]⟩⟩
def za(rv:List aa)(n:aC)(l l1:List aa)(i:Int):Prop:=gq G rv ⟨[.c 244,.l 244,.b 0,.c 31],⟨64,[vP 1 0 2,vO 3 1 2 l1 aa.enc,vI 4 i],[oX 2 25 (aC.enc n),oS 2 219 l1 aa.enc]⟩⟩
def xS(rv:List aa)(n:aC)(l l2:List aa):Prop:=gq G rv ⟨[.c 31],⟨64,[vO 3 0 2 l2 aa.enc],[oS 2 219 l2 aa.enc]⟩⟩
theorem xV(rv:List aa){n l l1 i r}:∀⦃s:Bool×Int⦄ ⦃e:Bool⦄,aL (λs=>eB n l l1 i r s.1 s.2) s=some e->xU G rv n l l1 i r e->zb G rv n l l1 i r s.1 s.2:=by
 refine bz ?_
 rintro⟨oY,k⟩ z_ h hI hE;simp only[eB,az,aq,ar,au]at h;rcases h with⟨h8,⟨h9,h⟩|⟨h9,x1,dO,x2,g_,h⟩⟩|⟨h8,h⟩
 ·exact gn 11 [1,3,4,5,6,7] [0,1] [bT h8,hH (.draw 14 []),rp 12 (bT h9)] (hI h)
 ·exact gn 11 [1,3,4,5,6,7] [0,1] [bT h8,hH (.draw 14 []),rp 4 (bF h9),cE bN dO,rp 5 (bF h9),cE bN g_,rp 3 (bF h9)] (hI h)
 ·exact gn 5 [1,3,4,5,6] [0,1] [bF h8] (hE h)
theorem xT(rv:List aa){n l}:∀⦃s:List aa×Int⦄ ⦃e:List aa⦄,aL (λs=>eA n l s.1 s.2) s=some e->xS G rv n l e->za G rv n l s.1 s.2:=by
 refine bz ?_
 rintro⟨l1,i⟩ z_ h hI hE;simp only[eA,az,aq,ar,au]at h;rcases h with⟨h2,r,h3,h4,x0,h5,r1,h6,⟨h7,sZ,iO,h⟩|⟨h7,y3,h⟩⟩|⟨h2,h⟩
 ·refine gn 21 [1,3,4,5,6,7] [0,1] [nL bN n.bm,bT h2,cC (fm h3),oO (h4),cE bN h5,cC (lP h6),nF h7] (xV G rv iO ?_);rcases h with⟨jD,so,h⟩|⟨jD,h⟩
  ·exact gn 7 [1,3,4] [0,3] [bT jD,oO (Eq.refl ([(aa.mk 6 (ee ke r))].map aa.enc).length),aO aa.enc so] (hI h)
  ·exact gn 7 [1,3,4] [0,1] [bF jD] (hI h)
 ·exact gn 18 [1,3,4] [0,3] [nL bN n.bm,bT h2,cC (fm h3),oO (h4),cE bN h5,cC (lP h6),nT h7,oO (Eq.refl ([(aa.mk 5 (ee ke r))].map aa.enc).length),aO aa.enc y3] (hI h)
 ·exact gn 5 [3] [1] [nL bN n.bm,bF h2] (hE h)
theorem qz(rv:List aa){n l}(h:fY n l=some rv):gq G rv ⟨[.c 15],⟨64,[vP 1 0 2,vO 3 1 2 l aa.enc],[oX 2 25 (aC.enc n),oS 2 219 l aa.enc]⟩⟩:=by
 simp only[fY,az,aq,ar,au]at h;obtain⟨l2,vj,h⟩:=h;refine gn 5 [1,3,4] [0,1] [] (xT G rv vj ?_);obtain rfl:=oK h;exact gr 2 [0] []
theorem sD{n}{rv:List aa}(h:ia n=some rv):dK prog 131 [.agg (aC.enc n)] [] (one (lO 0 2 rv aa.enc)) [oS 2 219 rv aa.enc]:=by
 refine aX func131 λG=>?_
 simp only[ia,az,aq,ar,au]at h;rcases h with⟨h0,h1,h⟩|⟨h0,h⟩
 ·exact gn 9 [1,3] [0,2] [nL bN n.bm,bT h0,oO (Eq.refl ([(aa.mk 4 wi)].map aa.enc).length),aN (l:=([(aa.mk 4 wi)]:List aa)) aa.enc h1] (qz G rv h)
 ·exact gn 9 [1,3] [0,1] [nL bN n.bm,bF h0,hW 1,hH (.nP 3 2 219)] (qz G rv h)
def wG(rv:List aa)(cf:Cf):Prop:=Go prog f59 [] G (one (lL 2 rv aa.enc)) [] cf
def Ho(rv:List aa)(n:aC)(l l1:List aa)(i:Int):Prop:=wG G rv ⟨[.c 244,.l 244,.b 0,.c 31],⟨28,[vP 1 0 2,vO 3 1 2 l1 aa.enc,vI 4 i],[oX 2 25 (aC.enc n),oS 2 219 l1 aa.enc]⟩⟩
def FV(rv:List aa)(n:aC)(l l2:List aa):Prop:=wG G rv ⟨[.c 31],⟨28,[vO 3 0 2 l2 aa.enc],[oS 2 219 l2 aa.enc]⟩⟩
theorem FW(rv:List aa){n l}:∀⦃s:List aa×Int⦄ ⦃e:List aa⦄,aL (λs=>iP n l s.1 s.2) s=some e->FV G rv n l e->Ho G rv n l s.1 s.2:=by
 refine bz ?_
 rintro⟨l1,i⟩ z_ h hI hE;simp only[iP,az,aq,ar,au]at h;rcases h with⟨h3,r1,h4,h5,h⟩|⟨h3,h⟩
 ·exact gn 11 [1,3,4] [0,2] [nL a7.enc n.eX,bT h3,cC (FX h4),aO aa.enc h5] (hI h)
 ·exact gn 5 [3] [1] [nL a7.enc n.eX,bF h3] (hE h)
theorem xR(rv:List aa){n l}(h:nX n l=some rv):wG G rv ⟨[.c 15],⟨28,[vP 1 0 2,vO 3 1 2 l aa.enc],[oX 2 25 (aC.enc n),oS 2 219 l aa.enc]⟩⟩:=by
 simp only[nX,az,aq,ar,au]at h;obtain⟨l2,h6,h⟩:=h;refine gn 5 [1,3,4] [0,1] [] (FW G rv h6 ?_);obtain rfl:=oK h;exact gr 2 [] [hW 4,hH (.ng 0),rp 3 (eL l2 aa.enc)]
theorem Kw{n}{rv:List aa}(h:rK n=some rv):dK prog 59 [.agg (aC.enc n)] [] (one (lL 2 rv aa.enc)) []:=by
 refine aX func59 λG=>?_
 simp only[rK,az,aq,ar,au]at h;rcases h with⟨r,h0,⟨h1,h2,h⟩|⟨h1,h⟩⟩
 ·exact gn 9 [1,3] [0,3] [cC (sD h0),nL a7.enc n.eX,bT h1,oO (Eq.refl ([(aa.mk 4 Dw)].map aa.enc).length),aO aa.enc h2] (xR G rv h)
 ·exact gn 9 [1,3] [0,1] [cC (sD h0),nL a7.enc n.eX,bF h1] (xR G rv h)
theorem aF{n lo hi}{rv:Bool}(h:ch n lo hi=some rv):dK prog 133 [.one (lI n),.one (lI lo),.one (lI hi)] [] (one (.bool rv)) []:=by
 refine aX func133 λG=>?_
 simp only[ch,az,aq,ar,au]at h;cases h;exact gr 4 [] [rp 4 hP,rp 2 (oI ((cT n lo)=true)),oR True ((cT n lo)=true)]
theorem pJ{l}{rv:Int}(h:nE l=some rv):dK prog 62 [.one (lL 14 l av.enc)] [] (one (lI rv)) []:=by
 refine aX func62 λG=>?_
 simp only[nE,az,aq,ar,au]at h;rcases h with⟨h0,h⟩|⟨h0,x0,h1,h⟩
 ·obtain rfl:=oK h;exact gr 8 [] [nL av.enc l,bT h0]
 ·cases h;exact gr 9 [] [nL av.enc l,bF h0,cE av.enc h1,nL al x0.cap]
def Cd(rv:Bool)(cf:Cf):Prop:=Go prog f199 [] G (one (.bool rv)) [] cf
def Hr(rv:Bool)(l:List av)(j7:Int)(name:I)(i:Int):Prop:=Cd G rv ⟨[.c 52,.l 52,.b 0,.c 7],⟨20,[vL 0 14 l av.enc,vI 1 j7,vS 2 name,vI 7 i],[]⟩⟩
def F2(rv:Bool)(l:List av)(j7:Int)(name:I):Prop:=Cd G rv ⟨[.c 7],⟨20,[],[]⟩⟩
theorem F3(rv:Bool){l j7 name}:∀⦃s:Int⦄ ⦃e:(Unit)⊕(Bool)⦄,aL (λs=>gE l j7 name s) s=some e->jg e (λe=>F2 G rv l j7 name) (λe=>e=rv)->Hr G rv l j7 name s:=by
 refine bz ?_
 intro i z_ h hI hE;simp only[gE,az,aq,ar,au]at h;rcases h with⟨h0,x0,h1,⟨h2,h⟩|⟨h2,h⟩⟩|⟨h0,h⟩
 ·obtain rfl:=(hE h:_=rv);exact gr 12 [] [bT h0,cE av.enc h1,bT h2]
 ·exact gn 14 [0,1,2,7] [] [bT h0,cE av.enc h1,bF h2] (hI h)
 ·exact gn 5 [] [] [bF h0] (hE h)
theorem Bc{l j7 name}{rv:Bool}(h:rM l j7 name=some rv):dK prog 199 [.one (lL 14 l av.enc),.one (lI j7),.one (.str name)] [] (one (.bool rv)) []:=by
 refine aX func199 λG=>?_
 simp only[rM,az,aq,ar,au]at h;obtain⟨e0,h3,h⟩:=h;refine gn 7 [0,1,2,7] [] [] (F3 G rv h3 ?_);rcases e0 with e0|r
 ·obtain rfl:=oK h;exact gr 2 [] []
 ·exact oK h
def zt(rv:Bool)(cf:Cf):Prop:=Go prog f200 [] G (one (.bool rv)) [] cf
def DS(rv:Bool)(l:List Int)(i:Int):Prop:=zt G rv ⟨[.c 116,.l 116,.b 0,.c 15],⟨28,[vL 0 1 l al,vI 5 i],[]⟩⟩
def CT(rv:Bool)(l:List Int):Prop:=zt G rv ⟨[.c 15],⟨28,[],[]⟩⟩
theorem CU(rv:Bool){l}:∀⦃s:Int⦄ ⦃e:(Unit)⊕(Bool)⦄,aL (λs=>fx l s) s=some e->jg e (λe=>CT G rv l) (λe=>e=rv)->DS G rv l s:=by
 refine bz ?_
 intro i z_ h hI hE;simp only[fx,az,aq,ar,au]at h;rcases h with⟨h2,x0,h3,r1,h4,⟨h5,h⟩|⟨h5,h⟩⟩|⟨h2,h⟩
 ·exact gn 14 [0,5] [] [nL al l,bT h2,cE al h3,cC (aF h4),nF h5] (hI h)
 ·obtain rfl:=(hE h:_=rv);exact gr 12 [] [nL al l,bT h2,cE al h3,cC (aF h4),nT h5]
 ·exact gn 5 [] [] [nL al l,bF h2] (hE h)
theorem oC{l dS}{rv:Bool}(h:kJ l dS=some rv):dK prog 200 [.one (lL 1 l al),.one (lI dS)] [] (one (.bool rv)) []:=by
 refine aX func200 λG=>?_
 simp only[kJ,az,aq,ar,au]at h;rcases h with⟨r,h0,⟨h1,h⟩|⟨h1,e0,h6,h⟩⟩
 ·obtain rfl:=oK h;exact gr 8 [] [nL al l,cC (aF h0),hP,hP,oI ((!r)=false),nL al l,hP,hP,hP,rp 2 (oI ((!r)=false)),oR True ((!r)=false),bT h1]
 ·refine gn 12 [0,5] [] [nL al l,cC (aF h0),hP,hP,oI ((!r)=false),nL al l,hP,hP,hP,rp 2 (oI ((!r)=false)),oR True ((!r)=false),bF h1] (CU G rv h6 ?_);rcases e0 with e0|r2
  ·obtain rfl:=oK h;exact gr 2 [] []
  ·exact oK h
def eT(rv:List Int)(cf:Cf):Prop:=Go prog f134 [] G (one (lL 1 rv al)) [] cf
theorem yd(rv:List Int){x0 l8}(h:kR x0 l8=some rv):eT G rv ⟨[.c 4095],⟨125,[vP 7 0 14,vO 8 1 1 l8 al],[oX 14 92 (av.enc x0),oS 1 37 l8 al]⟩⟩:=by
 simp only[kR,az,aq,ar,au]at h;rcases h with⟨HI,RJ,⟨QO,r12,jR,⟨ku,r13,AS,⟨AT,r14,h36,⟨h37,h⟩|⟨h37,h38,h⟩⟩|⟨AT,h39,h⟩⟩|⟨ku,h40,h⟩⟩|⟨QO,h41,h⟩⟩
 ·obtain rfl:=oK h;exact gr 7 [] [cC (aF RJ),rp 3 (nF QO),cC (aF jR),rp 2 (nF QO),rp 3 (nF ku),cC (aF AS),rp 2 (nF ku),rp 3 (nF AT),cC (aF h36),rp 2 (nF AT),nF h37,hW 5,hH (.ng 1),rp 3 (eL l8 al)]
 ·cases h;exact gr 7 [] [cC (aF RJ),rp 3 (nF QO),cC (aF jR),rp 2 (nF QO),rp 3 (nF ku),cC (aF AS),rp 2 (nF ku),rp 3 (nF AT),cC (aF h36),rp 2 (nF AT),nT h37,oO (Eq.refl ([2].map al).length),aO al h38,hW 5,hH (.ng 3),rp 4 (oO (Eq.refl ((l8++[2]).map al).length))]
 ·cases h;exact gr 7 [] [cC (aF RJ),rp 3 (nF QO),cC (aF jR),rp 2 (nF QO),rp 3 (nF ku),cC (aF AS),rp 2 (nF ku),rp 5 (nT AT),tT,oO (Eq.refl ([2].map al).length),aO al h39,hW 5,hH (.ng 3),rp 4 (oO (Eq.refl ((l8++[2]).map al).length))]
 ·cases h;exact gr 7 [] [cC (aF RJ),rp 3 (nF QO),cC (aF jR),rp 2 (nF QO),rp 5 (nT ku),rp 6 tT,oO (Eq.refl ([2].map al).length),aO al h40,hW 5,hH (.ng 3),rp 4 (oO (Eq.refl ((l8++[2]).map al).length))]
 ·cases h;exact gr 7 [] [cC (aF RJ),rp 5 (nT QO),rp 11 tT,oO (Eq.refl ([2].map al).length),aO al h41,hW 5,hH (.ng 3),rp 4 (oO (Eq.refl ((l8++[2]).map al).length))]
theorem yc(rv:List Int){x0 l7}(h:kQ x0 l7=some rv):eT G rv ⟨[.c 2047],⟨125,[vP 7 0 14,vO 8 1 1 l7 al],[oX 14 92 (av.enc x0),oS 1 37 l7 al]⟩⟩:=by
 simp only[kQ,az,aq,ar,au]at h;rcases h with⟨r9,LJ,⟨Lh,wK,Y_,⟨Yc,h⟩|⟨Yc,AQ,h⟩⟩|⟨Lh,h42,ML,h43,⟨tk,r16,h45,⟨xM,r17,Xe,⟨h48,r18,h49,⟨h50,h⟩|⟨h50,h51,h⟩⟩|⟨h48,h52,h⟩⟩|⟨xM,h53,h⟩⟩|⟨tk,h54,h⟩⟩⟩
 ·exact gn 5 [7,8] [0,1] [cC (aF LJ),rp 3 (nF Lh),cC (aF Y_),rp 2 (nF Lh),nF Yc] (yd G rv h)
 ·exact gn 5 [7,8] [0,3] [cC (aF LJ),rp 3 (nF Lh),cC (aF Y_),rp 2 (nF Lh),nT Yc,oO (Eq.refl ([16].map al).length),aO al AQ] (yd G rv h)
 ·cases h;exact gr 12 [] [cC (aF LJ),rp 5 (nT Lh),tT,oO (Eq.refl ([16].map al).length),aO al h42,cC (aF h43),rp 3 (nF tk),cC (aF h45),rp 2 (nF tk),rp 3 (nF xM),cC (aF Xe),rp 2 (nF xM),rp 3 (nF h48),cC (aF h49),rp 2 (nF h48),nF h50,hW 5,hH (.ng 3),rp 4 (oO (Eq.refl ((l7++[16]).map al).length))]
 ·cases h;exact gr 12 [] [cC (aF LJ),rp 5 (nT Lh),tT,oO (Eq.refl ([16].map al).length),aO al h42,cC (aF h43),rp 3 (nF tk),cC (aF h45),rp 2 (nF tk),rp 3 (nF xM),cC (aF Xe),rp 2 (nF xM),rp 3 (nF h48),cC (aF h49),rp 2 (nF h48),nT h50,oO (Eq.refl ([2].map al).length),aO al h51,hW 5,hH (.ng 5),rp 4 (oO (Eq.refl (((l7++[16])++[2]).map al).length))]
 ·cases h;exact gr 12 [] [cC (aF LJ),rp 5 (nT Lh),tT,oO (Eq.refl ([16].map al).length),aO al h42,cC (aF h43),rp 3 (nF tk),cC (aF h45),rp 2 (nF tk),rp 3 (nF xM),cC (aF Xe),rp 2 (nF xM),rp 5 (nT h48),tT,oO (Eq.refl ([2].map al).length),aO al h52,hW 5,hH (.ng 5),rp 4 (oO (Eq.refl (((l7++[16])++[2]).map al).length))]
 ·cases h;exact gr 12 [] [cC (aF LJ),rp 5 (nT Lh),tT,oO (Eq.refl ([16].map al).length),aO al h42,cC (aF h43),rp 3 (nF tk),cC (aF h45),rp 2 (nF tk),rp 5 (nT xM),rp 6 tT,oO (Eq.refl ([2].map al).length),aO al h53,hW 5,hH (.ng 5),rp 4 (oO (Eq.refl (((l7++[16])++[2]).map al).length))]
 ·cases h;exact gr 12 [] [cC (aF LJ),rp 5 (nT Lh),tT,oO (Eq.refl ([16].map al).length),aO al h42,cC (aF h43),rp 5 (nT tk),rp 11 tT,oO (Eq.refl ([2].map al).length),aO al h54,hW 5,hH (.ng 5),rp 4 (oO (Eq.refl (((l7++[16])++[2]).map al).length))]
theorem yb(rv:List Int){x0 l6}(h:kP x0 l6=some rv):eT G rv ⟨[.c 1023],⟨125,[vP 7 0 14,vO 8 1 1 l6 al],[oX 14 92 (av.enc x0),oS 1 37 l6 al]⟩⟩:=by
 simp only[kP,az,aq,ar,au]at h;rcases h with⟨r8,LI,⟨RH,Ni,h⟩|⟨RH,h⟩⟩
 ·exact gn 5 [7,8] [0,3] [cC (aF LI),rp 4 hP,rp 2 (oI ((!r8)=false)),oR True ((!r8)=false),bT RH,oO (Eq.refl ([15].map al).length),aO al Ni] (yc G rv h)
 ·exact gn 5 [7,8] [0,1] [cC (aF LI),rp 4 hP,rp 2 (oI ((!r8)=false)),oR True ((!r8)=false),bF RH] (yc G rv h)
theorem ya(rv:List Int){x0 l5}(h:kO x0 l5=some rv):eT G rv ⟨[.c 511],⟨125,[vP 7 0 14,vO 8 1 1 l5 al],[oX 14 92 (av.enc x0),oS 1 37 l5 al]⟩⟩:=by
 simp only[kO,az,aq,ar,au]at h;rcases h with⟨r7,Fi,⟨G4,h⟩|⟨G4,MH,h⟩⟩
 ·exact gn 5 [7,8] [0,1] [cC (aF Fi),nF G4] (yb G rv h)
 ·exact gn 5 [7,8] [0,3] [cC (aF Fi),nT G4,oO (Eq.refl ([18].map al).length),aO al MH] (yb G rv h)
theorem x_(rv:List Int){l x0 l4}(h:kN l x0 l4=some rv):eT G rv ⟨[.c 255],⟨125,[vL 1 14 l av.enc,vP 7 0 14,vO 8 1 1 l4 al],[oX 14 92 (av.enc x0),oS 1 37 l4 al]⟩⟩:=by
 simp only[kN,az,aq,ar,au]at h;rcases h with⟨r5,y3,r6,vj,⟨B4,h⟩|⟨B4,Lg,h⟩⟩
 ·exact gn 5 [7,8] [0,1] [hH (.draw 6 []),cC (pJ y3),cC (oC vj),nF B4] (ya G rv h)
 ·exact gn 5 [7,8] [0,3] [hH (.draw 6 []),cC (pJ y3),cC (oC vj),nT B4,oO (Eq.refl ([17].map al).length),aO al Lg] (ya G rv h)
theorem xf(rv:List Int){x0 LO}(h:qC x0 LO=some rv):eT G rv ⟨[.c 4095],⟨125,[vP 7 0 14,vO 8 1 1 LO al],[oX 14 92 (av.enc x0),oS 1 37 LO al]⟩⟩:=by
 simp only[qC,az,aq,ar,au]at h;rcases h with⟨r25,h71,⟨h72,r26,h73,⟨h74,r27,h75,⟨h76,r28,h77,⟨h78,h⟩|⟨h78,h79,h⟩⟩|⟨h76,h80,h⟩⟩|⟨h74,h81,h⟩⟩|⟨h72,h82,h⟩⟩
 ·obtain rfl:=oK h;exact gr 7 [] [cC (aF h71),rp 3 (nF h72),cC (aF h73),rp 2 (nF h72),rp 3 (nF h74),cC (aF h75),rp 2 (nF h74),rp 3 (nF h76),cC (aF h77),rp 2 (nF h76),nF h78,hW 5,hH (.ng 1),rp 3 (eL LO al)]
 ·cases h;exact gr 7 [] [cC (aF h71),rp 3 (nF h72),cC (aF h73),rp 2 (nF h72),rp 3 (nF h74),cC (aF h75),rp 2 (nF h74),rp 3 (nF h76),cC (aF h77),rp 2 (nF h76),nT h78,oO (Eq.refl ([2].map al).length),aO al h79,hW 5,hH (.ng 3),rp 4 (oO (Eq.refl ((LO++[2]).map al).length))]
 ·cases h;exact gr 7 [] [cC (aF h71),rp 3 (nF h72),cC (aF h73),rp 2 (nF h72),rp 3 (nF h74),cC (aF h75),rp 2 (nF h74),rp 5 (nT h76),tT,oO (Eq.refl ([2].map al).length),aO al h80,hW 5,hH (.ng 3),rp 4 (oO (Eq.refl ((LO++[2]).map al).length))]
 ·cases h;exact gr 7 [] [cC (aF h71),rp 3 (nF h72),cC (aF h73),rp 2 (nF h72),rp 5 (nT h74),rp 6 tT,oO (Eq.refl ([2].map al).length),aO al h81,hW 5,hH (.ng 3),rp 4 (oO (Eq.refl ((LO++[2]).map al).length))]
 ·cases h;exact gr 7 [] [cC (aF h71),rp 5 (nT h72),rp 11 tT,oO (Eq.refl ([2].map al).length),aO al h82,hW 5,hH (.ng 3),rp 4 (oO (Eq.refl ((LO++[2]).map al).length))]
theorem xe(rv:List Int){x0 MK}(h:qB x0 MK=some rv):eT G rv ⟨[.c 2047],⟨125,[vP 7 0 14,vO 8 1 1 MK al],[oX 14 92 (av.enc x0),oS 1 37 MK al]⟩⟩:=by
 simp only[qB,az,aq,ar,au]at h;rcases h with⟨r23,h66,⟨kX,r24,h68,⟨h69,h⟩|⟨h69,h70,h⟩⟩|⟨kX,h83,r29,h84,⟨h85,r30,h86,⟨h87,r31,h88,⟨h89,r32,h90,⟨h91,h⟩|⟨h91,h92,h⟩⟩|⟨h89,h93,h⟩⟩|⟨h87,h94,h⟩⟩|⟨h85,h95,h⟩⟩⟩
 ·exact gn 5 [7,8] [0,1] [cC (aF h66),rp 3 (nF kX),cC (aF h68),rp 2 (nF kX),nF h69] (xf G rv h)
 ·exact gn 5 [7,8] [0,3] [cC (aF h66),rp 3 (nF kX),cC (aF h68),rp 2 (nF kX),nT h69,oO (Eq.refl ([16].map al).length),aO al h70] (xf G rv h)
 ·cases h;exact gr 12 [] [cC (aF h66),rp 5 (nT kX),tT,oO (Eq.refl ([16].map al).length),aO al h83,cC (aF h84),rp 3 (nF h85),cC (aF h86),rp 2 (nF h85),rp 3 (nF h87),cC (aF h88),rp 2 (nF h87),rp 3 (nF h89),cC (aF h90),rp 2 (nF h89),nF h91,hW 5,hH (.ng 3),rp 4 (oO (Eq.refl ((MK++[16]).map al).length))]
 ·cases h;exact gr 12 [] [cC (aF h66),rp 5 (nT kX),tT,oO (Eq.refl ([16].map al).length),aO al h83,cC (aF h84),rp 3 (nF h85),cC (aF h86),rp 2 (nF h85),rp 3 (nF h87),cC (aF h88),rp 2 (nF h87),rp 3 (nF h89),cC (aF h90),rp 2 (nF h89),nT h91,oO (Eq.refl ([2].map al).length),aO al h92,hW 5,hH (.ng 5),rp 4 (oO (Eq.refl (((MK++[16])++[2]).map al).length))]
 ·cases h;exact gr 12 [] [cC (aF h66),rp 5 (nT kX),tT,oO (Eq.refl ([16].map al).length),aO al h83,cC (aF h84),rp 3 (nF h85),cC (aF h86),rp 2 (nF h85),rp 3 (nF h87),cC (aF h88),rp 2 (nF h87),rp 5 (nT h89),tT,oO (Eq.refl ([2].map al).length),aO al h93,hW 5,hH (.ng 5),rp 4 (oO (Eq.refl (((MK++[16])++[2]).map al).length))]
 ·cases h;exact gr 12 [] [cC (aF h66),rp 5 (nT kX),tT,oO (Eq.refl ([16].map al).length),aO al h83,cC (aF h84),rp 3 (nF h85),cC (aF h86),rp 2 (nF h85),rp 5 (nT h87),rp 6 tT,oO (Eq.refl ([2].map al).length),aO al h94,hW 5,hH (.ng 5),rp 4 (oO (Eq.refl (((MK++[16])++[2]).map al).length))]
 ·cases h;exact gr 12 [] [cC (aF h66),rp 5 (nT kX),tT,oO (Eq.refl ([16].map al).length),aO al h83,cC (aF h84),rp 5 (nT h85),rp 11 tT,oO (Eq.refl ([2].map al).length),aO al h95,hW 5,hH (.ng 5),rp 4 (oO (Eq.refl (((MK++[16])++[2]).map al).length))]
theorem xd(rv:List Int){x0 l10}(h:qA x0 l10=some rv):eT G rv ⟨[.c 1023],⟨125,[vP 7 0 14,vO 8 1 1 l10 al],[oX 14 92 (av.enc x0),oS 1 37 l10 al]⟩⟩:=by
 simp only[qA,az,aq,ar,au]at h;rcases h with⟨r22,ky,⟨h64,h65,h⟩|⟨h64,h⟩⟩
 ·exact gn 5 [7,8] [0,3] [cC (aF ky),rp 4 hP,rp 2 (oI ((!r22)=false)),oR True ((!r22)=false),bT h64,oO (Eq.refl ([15].map al).length),aO al h65] (xe G rv h)
 ·exact gn 5 [7,8] [0,1] [cC (aF ky),rp 4 hP,rp 2 (oI ((!r22)=false)),oR True ((!r22)=false),bF h64] (xe G rv h)
theorem ye(rv:List Int){x0 l9}(h:rj x0 l9=some rv):eT G rv ⟨[.c 511],⟨125,[vP 7 0 14,vO 8 1 1 l9 al],[oX 14 92 (av.enc x0),oS 1 37 l9 al]⟩⟩:=by
 simp only[rj,az,aq,ar,au]at h;rcases h with⟨r21,h60,⟨h61,h⟩|⟨h61,h62,h⟩⟩
 ·exact gn 5 [7,8] [0,1] [cC (aF h60),nF h61] (xd G rv h)
 ·exact gn 5 [7,8] [0,3] [cC (aF h60),nT h61,oO (Eq.refl ([18].map al).length),aO al h62] (xd G rv h)
theorem xZ(rv:List Int){n l x0 l3}(h:kM n l x0 l3=some rv):eT G rv ⟨[.c 127],⟨125,[vL 1 14 l av.enc,vP 3 0 2,vP 7 1 14,vO 8 2 1 l3 al],[oX 2 25 (aC.enc n),oX 14 92 (av.enc x0),oS 1 37 l3 al]⟩⟩:=by
 simp only[kM,az,aq,ar,au]at h;rcases h with⟨r3,dO,⟨g_,r4,iO,⟨jD,h⟩|⟨jD,so,h⟩⟩|⟨g_,h55,Pr,h56,r20,h57,⟨h58,h⟩|⟨h58,h59,h⟩⟩⟩
 ·exact gn 5 [1,7,8] [1,2] [nL bN n.bm,cC (aF dO),rp 5 (nF g_),nL bN n.bm,rp 2 (nF g_),cC (aF iO),rp 2 (nF g_),nF jD] (x_ G rv h)
 ·exact gn 5 [1,7,8] [1,4] [nL bN n.bm,cC (aF dO),rp 5 (nF g_),nL bN n.bm,rp 2 (nF g_),cC (aF iO),rp 2 (nF g_),nT jD,oO (Eq.refl ([11].map al).length),aO al so] (x_ G rv h)
 ·exact gn 10 [7,8] [1,4] [nL bN n.bm,cC (aF dO),rp 9 (nT g_),tT,oO (Eq.refl ([11].map al).length),aO al h55,hH (.draw 6 []),cC (pJ h56),cC (oC h57),nF h58] (ye G rv h)
 ·exact gn 10 [7,8] [1,6] [nL bN n.bm,cC (aF dO),rp 9 (nT g_),tT,oO (Eq.refl ([11].map al).length),aO al h55,hH (.draw 6 []),cC (pJ h56),cC (oC h57),nT h58,oO (Eq.refl ([17].map al).length),aO al h59] (ye G rv h)
theorem xY(rv:List Int){n l x0 l2}(h:kL n l x0 l2=some rv):eT G rv ⟨[.c 63],⟨125,[vL 1 14 l av.enc,vP 3 0 2,vP 7 1 14,vO 8 2 1 l2 al],[oX 2 25 (aC.enc n),oX 14 92 (av.enc x0),oS 1 37 l2 al]⟩⟩:=by
 simp only[kL,az,aq,ar,au]at h;rcases h with⟨r2,h7,⟨h8,h⟩|⟨h8,h9,h⟩⟩
 ·exact gn 5 [1,3,7,8] [0,1,2] [cC (aF h7),nF h8] (xZ G rv h)
 ·exact gn 5 [1,3,7,8] [0,1,4] [cC (aF h7),nT h8,oO (Eq.refl ([22].map al).length),aO al h9] (xZ G rv h)
theorem xX(rv:List Int){n l j7 x0 l1}(h:kK n l j7 x0 l1=some rv):eT G rv ⟨[.c 31],⟨125,[vL 1 14 l av.enc,vI 2 j7,vP 3 0 2,vP 7 1 14,vO 8 2 1 l1 al],[oX 2 25 (aC.enc n),oX 14 92 (av.enc x0),oS 1 37 l1 al]⟩⟩:=by
 simp only[kK,az,aq,ar,au]at h;rcases h with⟨r1,h4,⟨h5,h6,h⟩|⟨h5,h⟩⟩
 ·exact gn 5 [1,3,7,8] [0,1,4] [cC (Bc h4),bT h5,oO (Eq.refl ([6].map al).length),aO al h6] (xY G rv h)
 ·exact gn 5 [1,3,7,8] [0,1,2] [cC (Bc h4),bF h5] (xY G rv h)
theorem Kz{n l j7}{rv:List Int}(h:rN n l j7=some rv):dK prog 134 [.agg (aC.enc n),.one (lL 14 l av.enc),.one (lI j7)] [] (one (lL 1 rv al)) []:=by
 refine aX func134 λG=>?_
 simp only[rN,az,aq,ar,au]at h;rcases h with⟨x0,h0,r,h1,⟨h2,h⟩|⟨h2,h3,h⟩⟩
 ·exact gn 11 [1,2,3,7,8] [0,1,2] [cE av.enc h0,cC (lP h1),nF h2,hW 1,hH (.nP 8 1 37)] (xX G rv h)
 ·exact gn 11 [1,2,3,7,8] [0,1,3] [cE av.enc h0,cC (lP h1),nT h2,oO (Eq.refl ([5].map al).length),aN (l:=([5]:List Int)) al h3] (xX G rv h)
def pI(rv:List aa)(cf:Cf):Prop:=Go prog f60 [] G (one (lL 2 rv aa.enc)) [] cf
def Hq(rv:List aa)(n:aC)(l:List av)(i:Int)(r1:List Int)(l3:List aa)(k:Int):Prop:=pI G rv ⟨[.c 31308,.l 31308,.b 2,.b 1,.c 979,.l 244,.b 0,.c 31],⟨44,[vL 1 14 l av.enc,vP 2 0 2,vO 5 1 2 l3 aa.enc,vI 6 i,vL 7 1 r1 al,vI 8 k],[oX 2 25 (aC.enc n),oS 2 219 l3 aa.enc]⟩⟩
def F0(rv:List aa)(n:aC)(l:List av)(i:Int)(r1:List Int)(l4:List aa):Prop:=pI G rv ⟨[.b 1,.c 979,.l 244,.b 0,.c 31],⟨44,[vL 1 14 l av.enc,vP 2 0 2,vO 5 1 2 l4 aa.enc,vI 6 i],[oX 2 25 (aC.enc n),oS 2 219 l4 aa.enc]⟩⟩
def Hp(rv:List aa)(n:aC)(l:List av)(l2:List aa)(i:Int):Prop:=pI G rv ⟨[.c 244,.l 244,.b 0,.c 31],⟨44,[vL 1 14 l av.enc,vP 2 0 2,vO 5 1 2 l2 aa.enc,vI 6 i],[oX 2 25 (aC.enc n),oS 2 219 l2 aa.enc]⟩⟩
def FY(rv:List aa)(n:aC)(l:List av)(l5:List aa):Prop:=pI G rv ⟨[.c 31],⟨44,[vO 5 0 2 l5 aa.enc],[oS 2 219 l5 aa.enc]⟩⟩
theorem F1(rv:List aa){n l i r1}:∀⦃s:List aa×Int⦄ ⦃e:List aa⦄,aL (λs=>vE n l i r1 s.1 s.2) s=some e->F0 G rv n l i r1 e->Hq G rv n l i r1 s.1 s.2:=by
 refine bz ?_
 rintro⟨l3,k⟩ z_ h hI hE;simp only[vE,az,aq,ar,au]at h;rcases h with⟨h5,x0,h6,r2,h7,h8,h⟩|⟨h5,h⟩
 ·exact gn 11 [1,2,5,6,7,8] [0,3] [nL al r1,bT h5,hH (.draw 9 []),cE al h6,cC (fm h7),oO (Eq.refl ([(aa.mk x0 r2)].map aa.enc).length),aO aa.enc h8] (hI h)
 ·exact gn 5 [1,2,5,6] [0,1] [nL al r1,bF h5] (hE h)
theorem FZ(rv:List aa){n l}:∀⦃s:List aa×Int⦄ ⦃e:List aa⦄,aL (λs=>iQ n l s.1 s.2) s=some e->FY G rv n l e->Hp G rv n l s.1 s.2:=by
 refine bz ?_
 rintro⟨l2,i⟩ z_ h hI hE;simp only[iQ,az,aq,ar,au]at h;rcases h with⟨h3,r1,h4,l4,h9,h⟩|⟨h3,h⟩
 ·refine gn 13 [1,2,5,6,7,8] [0,1] [nL av.enc l,bT h3,cC (Kz h4)] (F1 G rv h9 ?_);exact gn 3 [1,2,5,6] [0,1] [] (hI h)
 ·exact gn 5 [5] [1] [nL av.enc l,bF h3] (hE h)
theorem xW(rv:List aa){n l l1}(h:nZ n l l1=some rv):pI G rv ⟨[.c 15],⟨44,[vL 1 14 l av.enc,vP 2 0 2,vO 5 1 2 l1 aa.enc],[oX 2 25 (aC.enc n),oS 2 219 l1 aa.enc]⟩⟩:=by
 simp only[nZ,az,aq,ar,au]at h;obtain⟨l5,dO,h⟩:=h;refine gn 5 [1,2,5,6] [0,1] [] (FZ G rv dO ?_);obtain rfl:=oK h;exact gr 2 [] [hW 4,hH (.ng 0),rp 3 (eL l5 aa.enc)]
theorem Kx{n l}{rv:List aa}(h:rL n l=some rv):dK prog 60 [.agg (aC.enc n),.one (lL 14 l av.enc)] [] (one (lL 2 rv aa.enc)) []:=by
 refine aX func60 λG=>?_
 simp only[rL,az,aq,ar,au]at h;rcases h with⟨r,h0,⟨h1,h⟩|⟨h1,h2,h⟩⟩
 ·exact gn 9 [1,2,5] [0,1] [nL av.enc l,cC (aF h0),nF h1,hW 1,hH (.nP 5 2 219)] (xW G rv h)
 ·exact gn 9 [1,2,5] [0,2] [nL av.enc l,cC (aF h0),nT h1,oO (Eq.refl ([(aa.mk 4 ByteArray.empty)].map aa.enc).length),aN (l:=([(aa.mk 4 ByteArray.empty)]:List aa)) aa.enc h2] (xW G rv h)
def Cb(rv:Bool)(cf:Cf):Prop:=Go prog f201 [] G (one (.bool rv)) [] cf
def Hn(rv:Bool)(a:List Int)(i:Int):Prop:=Cb G rv ⟨[.c 116,.l 116,.b 0,.c 15],⟨28,[vL 0 1 a al,vI 5 i],[]⟩⟩
def FR(rv:Bool)(a:List Int):Prop:=Cb G rv ⟨[.c 15],⟨28,[],[]⟩⟩
theorem FT(rv:Bool){a}:∀⦃s:Int⦄ ⦃e:(Unit)⊕(Bool)⦄,aL (λs=>gD a s) s=some e->jg e (λe=>FR G rv a) (λe=>e=rv)->Hn G rv a s:=by
 refine bz ?_
 intro i z_ h hI hE;simp only[gD,az,aq,ar,au]at h;rcases h with⟨h1,x0,h2,⟨h3,h⟩|⟨h3,⟨h4,h⟩|⟨h4,h⟩⟩⟩|⟨h1,h⟩
 ·obtain rfl:=(hE h:_=rv);exact gr 12 [] [nL al a,bT h1,cE al h2,rp 6 (bT h3),tT]
 ·obtain rfl:=(hE h:_=rv);exact gr 12 [] [nL al a,bT h1,cE al h2,rp 3 (bF h3),cE al h2,rp 3 (bF h3),bT h4]
 ·exact gn 14 [0,5] [] [nL al a,bT h1,cE al h2,rp 3 (bF h3),cE al h2,rp 3 (bF h3),bF h4] (hI h)
 ·exact gn 5 [] [] [nL al a,bF h1] (hE h)
theorem Bb{a dS}{rv:Bool}(h:pa a dS=some rv):dK prog 201 [.one (lL 1 a al),.one (lI dS)] [] (one (.bool rv)) []:=by
 refine aX func201 λG=>?_
 simp only[pa,az,aq,ar,au]at h;rcases h with⟨h0,h⟩|⟨h0,e0,h5,h⟩
 ·obtain rfl:=oK h;exact gr 8 [] [nL al a,bT h0]
 ·refine gn 12 [0,5] [] [nL al a,bF h0] (FT G rv h5 ?_);rcases e0 with e0|r
  ·obtain rfl:=oK h;exact gr 2 [] []
  ·exact oK h
theorem bH{n low high}{rv:Bool}(h:e_ n low high=some rv):dK prog 202 [.one (lI n),.one (lI low),.one (lI high)] [] (one (.bool rv)) []:=by
 refine aX func202 λG=>?_
 simp only[e_,az,aq,ar,au]at h;cases h;exact gr 4 [] [rp 4 hP,rp 2 (oI ((cT n low)=true)),oR True ((cT n low)=true)]
theorem ez{s0}{rv:Int}(h:jL s0=some rv):dK prog 203 [.agg (aS.enc s0)] [] (one (lI rv)) []:=by
 refine aX func203 λG=>?_
 simp only[jL,az,aq,ar,au]at h;rcases h with⟨h0,h⟩|⟨h0,⟨h1,h⟩|⟨h1,h⟩⟩
 ·obtain rfl:=oK h;exact gr 8 [] [rp 12 hP,rp 2 (oI ((dk s0.place (-1))=true)),oR True ((dk s0.place (-1))=true),rp 2 (oI (((dk s0.place (-1))&&(dk s0.bA 0))=true)),oR True (((dk s0.place (-1))&&(dk s0.bA 0))=true),rp 2 (oI ((((dk s0.place (-1))&&(dk s0.bA 0))&&(dk s0.bI 0))=true)),oR True ((((dk s0.place (-1))&&(dk s0.bA 0))&&(dk s0.bI 0))=true),bT h0]
 ·obtain rfl:=oK h;exact gr 13 [] [rp 12 hP,rp 2 (oI ((dk s0.place (-1))=true)),oR True ((dk s0.place (-1))=true),rp 2 (oI (((dk s0.place (-1))&&(dk s0.bA 0))=true)),oR True (((dk s0.place (-1))&&(dk s0.bA 0))=true),rp 2 (oI ((((dk s0.place (-1))&&(dk s0.bA 0))&&(dk s0.bI 0))=true)),oR True ((((dk s0.place (-1))&&(dk s0.bA 0))&&(dk s0.bI 0))=true),bF h0,rp 22 hP,rp 2 (oI ((bh s0.place 0)=false)),oR True ((bh s0.place 0)=false),rp 4 (oI (((bh s0.place 0)||(bh s0.bA 0))=false)),oR True (((bh s0.place 0)||(bh s0.bA 0))=false),rp 2 (oI ((((bh s0.place 0)||(bh s0.bA 0))||(dt s0.bA s0.bI))=false)),oR True ((((bh s0.place 0)||(bh s0.bA 0))||(dt s0.bA s0.bI))=false),rp 2 (oI (((((bh s0.place 0)||(bh s0.bA 0))||(dt s0.bA s0.bI))||(dt s0.bI 4096))=false)),oR True (((((bh s0.place 0)||(bh s0.bA 0))||(dt s0.bA s0.bI))||(dt s0.bI 4096))=false),rp 2 (oI ((((((bh s0.place 0)||(bh s0.bA 0))||(dt s0.bA s0.bI))||(dt s0.bI 4096))||(bh s0.dG 0))=false)),oR True ((((((bh s0.place 0)||(bh s0.bA 0))||(dt s0.bA s0.bI))||(dt s0.bI 4096))||(bh s0.dG 0))=false),bT h1]
 ·obtain rfl:=oK h;exact gr 14 [] [rp 12 hP,rp 2 (oI ((dk s0.place (-1))=true)),oR True ((dk s0.place (-1))=true),rp 2 (oI (((dk s0.place (-1))&&(dk s0.bA 0))=true)),oR True (((dk s0.place (-1))&&(dk s0.bA 0))=true),rp 2 (oI ((((dk s0.place (-1))&&(dk s0.bA 0))&&(dk s0.bI 0))=true)),oR True ((((dk s0.place (-1))&&(dk s0.bA 0))&&(dk s0.bI 0))=true),bF h0,rp 22 hP,rp 2 (oI ((bh s0.place 0)=false)),oR True ((bh s0.place 0)=false),rp 4 (oI (((bh s0.place 0)||(bh s0.bA 0))=false)),oR True (((bh s0.place 0)||(bh s0.bA 0))=false),rp 2 (oI ((((bh s0.place 0)||(bh s0.bA 0))||(dt s0.bA s0.bI))=false)),oR True ((((bh s0.place 0)||(bh s0.bA 0))||(dt s0.bA s0.bI))=false),rp 2 (oI (((((bh s0.place 0)||(bh s0.bA 0))||(dt s0.bA s0.bI))||(dt s0.bI 4096))=false)),oR True (((((bh s0.place 0)||(bh s0.bA 0))||(dt s0.bA s0.bI))||(dt s0.bI 4096))=false),rp 2 (oI ((((((bh s0.place 0)||(bh s0.bA 0))||(dt s0.bA s0.bI))||(dt s0.bI 4096))||(bh s0.dG 0))=false)),oR True ((((((bh s0.place 0)||(bh s0.bA 0))||(dt s0.bA s0.bI))||(dt s0.bI 4096))||(bh s0.dG 0))=false),bF h1]
def en(rv:List Int)(cf:Cf):Prop:=Go prog f136 [] G (one (lL 1 rv al)) [] cf
def Hu(rv:List Int)(bm dS types:Int)(l:List aw)(j7:Int)(x0:aw)(l1:List Int)(i:Int):Prop:=en G rv ⟨[.c 500,.l 500,.b 0,.c 63],⟨156,[vI 0 bm,vI 1 dS,vI 2 types,vL 3 16 l aw.enc,vI 4 j7,vO 11 0 1 l1 al,vP 12 1 16,vI 13 i],[oS 1 37 l1 al,oX 16 69 (aw.enc x0)]⟩⟩
def F8(rv:List Int)(bm dS types:Int)(l:List aw)(j7:Int)(x0:aw)(l1 l2:List Int):Prop:=en G rv ⟨[.c 63],⟨156,[vI 0 bm,vI 1 dS,vI 2 types,vO 11 0 1 l2 al,vP 12 1 16],[oS 1 37 l2 al,oX 16 69 (aw.enc x0)]⟩⟩
theorem F9(rv:List Int){bm dS types l j7 x0 l1}:∀⦃s:Int⦄ ⦃e:List Int⦄,aL (λs=>gH bm dS types l j7 x0 l1 s) s=some e->F8 G rv bm dS types l j7 x0 l1 e->Hu G rv bm dS types l j7 x0 l1 s:=by
 refine bz ?_
 intro i z_ h hI hE;simp only[gH,az,aq,ar,au]at h;rcases h with⟨h4,x1,h5,⟨h6,h7,h⟩|⟨h6,h⟩⟩|⟨h4,h⟩
 ·exact gn 13 [0,1,2,11,12] [3,1] [bT h4,hH (.draw 8 []),cE aw.enc h5,bT h6,oO (Eq.refl ([6].map al).length),aO al h7] (hE h)
 ·exact gn 14 [0,1,2,3,4,11,12,13] [0,1] [bT h4,hH (.draw 8 []),cE aw.enc h5,bF h6] (hI h)
 ·exact gn 5 [0,1,2,11,12] [0,1] [bF h4] (hE h)
theorem yk(rv:List Int){types x0 l6}(h:kV types x0 l6=some rv):en G rv ⟨[.c 2047],⟨156,[vI 2 types,vO 11 0 1 l6 al,vP 12 1 16],[oS 1 37 l6 al,oX 16 69 (aw.enc x0)]⟩⟩:=by
 simp only[kV,az,aq,ar,au]at h;rcases h with⟨r6,LJ,⟨Lh,r7,Y_,⟨Yc,AQ,h⟩|⟨Yc,h⟩⟩|⟨Lh,RJ,h⟩⟩
 ·cases h;exact gr 9 [] [rp 5 hP,rp 3 (oI ((cp x0.pick.place (-1))=true)),oR True ((cp x0.pick.place (-1))=true),cC (bH LJ),rp 3 (nF Lh),cC (bH Y_),rp 2 (nF Lh),rp 26 hP,rp 4 (oI ((!r7)=false)),oI (((!r7)=false)/\(dt x0.split 1)=true),oR True ((!r7)=false),rp 2 (oI (((!r7)||((dt x0.split 1)&&((cp x0.pick.place (-1))&&(cp x0.drop.place (-1)))))=false)),oR True (((!r7)||((dt x0.split 1)&&((cp x0.pick.place (-1))&&(cp x0.drop.place (-1)))))=false),rp 3 (oI ((((!r7)||((dt x0.split 1)&&((cp x0.pick.place (-1))&&(cp x0.drop.place (-1)))))||(bh x0.cr (-1)))=false)),oR True ((((!r7)||((dt x0.split 1)&&((cp x0.pick.place (-1))&&(cp x0.drop.place (-1)))))||(bh x0.cr (-1)))=false),rp 2 (oI (((((!r7)||((dt x0.split 1)&&((cp x0.pick.place (-1))&&(cp x0.drop.place (-1)))))||(bh x0.cr (-1)))||(cT x0.cr types))=false)),oR True (((((!r7)||((dt x0.split 1)&&((cp x0.pick.place (-1))&&(cp x0.drop.place (-1)))))||(bh x0.cr (-1)))||(cT x0.cr types))=false),rp 3 (oI ((((((!r7)||((dt x0.split 1)&&((cp x0.pick.place (-1))&&(cp x0.drop.place (-1)))))||(bh x0.cr (-1)))||(cT x0.cr types))||(bh x0.now (-1)))=false)),oR True ((((((!r7)||((dt x0.split 1)&&((cp x0.pick.place (-1))&&(cp x0.drop.place (-1)))))||(bh x0.cr (-1)))||(cT x0.cr types))||(bh x0.now (-1)))=false),bT Yc,oO (Eq.refl ([2].map al).length),aO al AQ,hW 5,hH (.ng 3),rp 4 (oO (Eq.refl ((l6++[2]).map al).length))]
 ·obtain rfl:=oK h;exact gr 9 [] [rp 5 hP,rp 3 (oI ((cp x0.pick.place (-1))=true)),oR True ((cp x0.pick.place (-1))=true),cC (bH LJ),rp 3 (nF Lh),cC (bH Y_),rp 2 (nF Lh),rp 26 hP,rp 4 (oI ((!r7)=false)),oI (((!r7)=false)/\(dt x0.split 1)=true),oR True ((!r7)=false),rp 2 (oI (((!r7)||((dt x0.split 1)&&((cp x0.pick.place (-1))&&(cp x0.drop.place (-1)))))=false)),oR True (((!r7)||((dt x0.split 1)&&((cp x0.pick.place (-1))&&(cp x0.drop.place (-1)))))=false),rp 3 (oI ((((!r7)||((dt x0.split 1)&&((cp x0.pick.place (-1))&&(cp x0.drop.place (-1)))))||(bh x0.cr (-1)))=false)),oR True ((((!r7)||((dt x0.split 1)&&((cp x0.pick.place (-1))&&(cp x0.drop.place (-1)))))||(bh x0.cr (-1)))=false),rp 2 (oI (((((!r7)||((dt x0.split 1)&&((cp x0.pick.place (-1))&&(cp x0.drop.place (-1)))))||(bh x0.cr (-1)))||(cT x0.cr types))=false)),oR True (((((!r7)||((dt x0.split 1)&&((cp x0.pick.place (-1))&&(cp x0.drop.place (-1)))))||(bh x0.cr (-1)))||(cT x0.cr types))=false),rp 3 (oI ((((((!r7)||((dt x0.split 1)&&((cp x0.pick.place (-1))&&(cp x0.drop.place (-1)))))||(bh x0.cr (-1)))||(cT x0.cr types))||(bh x0.now (-1)))=false)),oR True ((((((!r7)||((dt x0.split 1)&&((cp x0.pick.place (-1))&&(cp x0.drop.place (-1)))))||(bh x0.cr (-1)))||(cT x0.cr types))||(bh x0.now (-1)))=false),bF Yc,hW 5,hH (.ng 0),rp 3 (eL l6 al)]
 ·cases h;exact gr 9 [] [rp 5 hP,rp 3 (oI ((cp x0.pick.place (-1))=true)),oR True ((cp x0.pick.place (-1))=true),cC (bH LJ),rp 5 (nT Lh),rp 4 tT,kF,rp 21 tT,oO (Eq.refl ([2].map al).length),aO al RJ,hW 5,hH (.ng 3),rp 4 (oO (Eq.refl ((l6++[2]).map al).length))]
theorem ym(rv:List Int){types x0 l8}(h:rk types x0 l8=some rv):en G rv ⟨[.c 2047],⟨156,[vI 2 types,vO 11 0 1 l8 al,vP 12 1 16],[oS 1 37 l8 al,oX 16 69 (aw.enc x0)]⟩⟩:=by
 simp only[rk,az,aq,ar,au]at h;rcases h with⟨wK,h37,⟨h38,HI,h39,⟨h40,h41,h⟩|⟨h40,h⟩⟩|⟨h38,h42,h⟩⟩
 ·cases h;exact gr 9 [] [rp 5 hP,rp 3 (oI ((cp x0.pick.place (-1))=true)),oR True ((cp x0.pick.place (-1))=true),cC (bH h37),rp 3 (nF h38),cC (bH h39),rp 2 (nF h38),rp 26 hP,rp 4 (oI ((!HI)=false)),oI (((!HI)=false)/\(dt x0.split 1)=true),oR True ((!HI)=false),rp 2 (oI (((!HI)||((dt x0.split 1)&&((cp x0.pick.place (-1))&&(cp x0.drop.place (-1)))))=false)),oR True (((!HI)||((dt x0.split 1)&&((cp x0.pick.place (-1))&&(cp x0.drop.place (-1)))))=false),rp 3 (oI ((((!HI)||((dt x0.split 1)&&((cp x0.pick.place (-1))&&(cp x0.drop.place (-1)))))||(bh x0.cr (-1)))=false)),oR True ((((!HI)||((dt x0.split 1)&&((cp x0.pick.place (-1))&&(cp x0.drop.place (-1)))))||(bh x0.cr (-1)))=false),rp 2 (oI (((((!HI)||((dt x0.split 1)&&((cp x0.pick.place (-1))&&(cp x0.drop.place (-1)))))||(bh x0.cr (-1)))||(cT x0.cr types))=false)),oR True (((((!HI)||((dt x0.split 1)&&((cp x0.pick.place (-1))&&(cp x0.drop.place (-1)))))||(bh x0.cr (-1)))||(cT x0.cr types))=false),rp 3 (oI ((((((!HI)||((dt x0.split 1)&&((cp x0.pick.place (-1))&&(cp x0.drop.place (-1)))))||(bh x0.cr (-1)))||(cT x0.cr types))||(bh x0.now (-1)))=false)),oR True ((((((!HI)||((dt x0.split 1)&&((cp x0.pick.place (-1))&&(cp x0.drop.place (-1)))))||(bh x0.cr (-1)))||(cT x0.cr types))||(bh x0.now (-1)))=false),bT h40,oO (Eq.refl ([2].map al).length),aO al h41,hW 5,hH (.ng 3),rp 4 (oO (Eq.refl ((l8++[2]).map al).length))]
 ·obtain rfl:=oK h;exact gr 9 [] [rp 5 hP,rp 3 (oI ((cp x0.pick.place (-1))=true)),oR True ((cp x0.pick.place (-1))=true),cC (bH h37),rp 3 (nF h38),cC (bH h39),rp 2 (nF h38),rp 26 hP,rp 4 (oI ((!HI)=false)),oI (((!HI)=false)/\(dt x0.split 1)=true),oR True ((!HI)=false),rp 2 (oI (((!HI)||((dt x0.split 1)&&((cp x0.pick.place (-1))&&(cp x0.drop.place (-1)))))=false)),oR True (((!HI)||((dt x0.split 1)&&((cp x0.pick.place (-1))&&(cp x0.drop.place (-1)))))=false),rp 3 (oI ((((!HI)||((dt x0.split 1)&&((cp x0.pick.place (-1))&&(cp x0.drop.place (-1)))))||(bh x0.cr (-1)))=false)),oR True ((((!HI)||((dt x0.split 1)&&((cp x0.pick.place (-1))&&(cp x0.drop.place (-1)))))||(bh x0.cr (-1)))=false),rp 2 (oI (((((!HI)||((dt x0.split 1)&&((cp x0.pick.place (-1))&&(cp x0.drop.place (-1)))))||(bh x0.cr (-1)))||(cT x0.cr types))=false)),oR True (((((!HI)||((dt x0.split 1)&&((cp x0.pick.place (-1))&&(cp x0.drop.place (-1)))))||(bh x0.cr (-1)))||(cT x0.cr types))=false),rp 3 (oI ((((((!HI)||((dt x0.split 1)&&((cp x0.pick.place (-1))&&(cp x0.drop.place (-1)))))||(bh x0.cr (-1)))||(cT x0.cr types))||(bh x0.now (-1)))=false)),oR True ((((((!HI)||((dt x0.split 1)&&((cp x0.pick.place (-1))&&(cp x0.drop.place (-1)))))||(bh x0.cr (-1)))||(cT x0.cr types))||(bh x0.now (-1)))=false),bF h40,hW 5,hH (.ng 0),rp 3 (eL l8 al)]
 ·cases h;exact gr 9 [] [rp 5 hP,rp 3 (oI ((cp x0.pick.place (-1))=true)),oR True ((cp x0.pick.place (-1))=true),cC (bH h37),rp 5 (nT h38),rp 4 tT,kF,rp 21 tT,oO (Eq.refl ([2].map al).length),aO al h42,hW 5,hH (.ng 3),rp 4 (oO (Eq.refl ((l8++[2]).map al).length))]
theorem yl(rv:List Int){types x0 l7}(h:kW types x0 l7=some rv):en G rv ⟨[.c 1023],⟨156,[vI 2 types,vO 11 0 1 l7 al,vP 12 1 16],[oS 1 37 l7 al,oX 16 69 (aw.enc x0)]⟩⟩:=by
 simp only[kW,az,aq,ar,au]at h;rcases h with⟨r9,AS,⟨AT,h⟩|⟨AT,h36,h⟩⟩
 ·exact gn 5 [2,11,12] [0,1] [cC (bH AS),nF AT] (ym G rv h)
 ·exact gn 5 [2,11,12] [3,1] [cC (bH AS),nT AT,oO (Eq.refl ([18].map al).length),aO al h36] (ym G rv h)
theorem yj(rv:List Int){types x0 l5}(h:kU types x0 l5=some rv):en G rv ⟨[.c 511],⟨156,[vI 2 types,vO 11 0 1 l5 al,vP 12 1 16],[oS 1 37 l5 al,oX 16 69 (aw.enc x0)]⟩⟩:=by
 simp only[kU,az,aq,ar,au]at h;rcases h with⟨r4,Fi,⟨G4,MH,r5,LI,⟨RH,h⟩|⟨RH,Ni,h⟩⟩|⟨G4,r8,QO,⟨jR,ku,h⟩|⟨jR,h⟩⟩⟩
 ·exact gn 10 [2,11,12] [3,1] [cC (ez Fi),rp 5 (bT G4),tT,oO (Eq.refl ([14].map al).length),aO al MH,cC (bH LI),nF RH] (yk G rv h)
 ·exact gn 10 [2,11,12] [5,1] [cC (ez Fi),rp 5 (bT G4),tT,oO (Eq.refl ([14].map al).length),aO al MH,cC (bH LI),nT RH,oO (Eq.refl ([18].map al).length),aO al Ni] (yk G rv h)
 ·exact gn 5 [2,11,12] [3,1] [cC (ez Fi),rp 3 (bF G4),cC (ez QO),rp 2 (bF G4),bT jR,oO (Eq.refl ([14].map al).length),aO al ku] (yl G rv h)
 ·exact gn 5 [2,11,12] [0,1] [cC (ez Fi),rp 3 (bF G4),cC (ez QO),rp 2 (bF G4),bF jR] (yl G rv h)
theorem yi(rv:List Int){types x0 l4}(h:kT types x0 l4=some rv):en G rv ⟨[.c 255],⟨156,[vI 2 types,vO 11 0 1 l4 al,vP 12 1 16],[oS 1 37 l4 al,oX 16 69 (aw.enc x0)]⟩⟩:=by
 simp only[kT,az,aq,ar,au]at h;rcases h with⟨B4,Lg,h⟩|⟨B4,h⟩
 ·exact gn 5 [2,11,12] [3,1] [rp 5 hP,rp 3 (oI ((dk x0.pick.place (-1))=true)),oR True ((dk x0.pick.place (-1))=true),bT B4,oO (Eq.refl ([19].map al).length),aO al Lg] (yj G rv h)
 ·exact gn 5 [2,11,12] [0,1] [rp 5 hP,rp 3 (oI ((dk x0.pick.place (-1))=true)),oR True ((dk x0.pick.place (-1))=true),bF B4] (yj G rv h)
theorem yo(rv:List Int){types x0 l10}(h:rq types x0 l10=some rv):en G rv ⟨[.c 2047],⟨156,[vI 2 types,vO 11 0 1 l10 al,vP 12 1 16],[oS 1 37 l10 al,oX 16 69 (aw.enc x0)]⟩⟩:=by
 simp only[rq,az,aq,ar,au]at h;rcases h with⟨r14,h52,⟨h53,ML,h54,⟨h55,h56,h⟩|⟨h55,h⟩⟩|⟨h53,h57,h⟩⟩
 ·cases h;exact gr 9 [] [rp 5 hP,rp 3 (oI ((cp x0.pick.place (-1))=true)),oR True ((cp x0.pick.place (-1))=true),cC (bH h52),rp 3 (nF h53),cC (bH h54),rp 2 (nF h53),rp 26 hP,rp 4 (oI ((!ML)=false)),oI (((!ML)=false)/\(dt x0.split 1)=true),oR True ((!ML)=false),rp 2 (oI (((!ML)||((dt x0.split 1)&&((cp x0.pick.place (-1))&&(cp x0.drop.place (-1)))))=false)),oR True (((!ML)||((dt x0.split 1)&&((cp x0.pick.place (-1))&&(cp x0.drop.place (-1)))))=false),rp 3 (oI ((((!ML)||((dt x0.split 1)&&((cp x0.pick.place (-1))&&(cp x0.drop.place (-1)))))||(bh x0.cr (-1)))=false)),oR True ((((!ML)||((dt x0.split 1)&&((cp x0.pick.place (-1))&&(cp x0.drop.place (-1)))))||(bh x0.cr (-1)))=false),rp 2 (oI (((((!ML)||((dt x0.split 1)&&((cp x0.pick.place (-1))&&(cp x0.drop.place (-1)))))||(bh x0.cr (-1)))||(cT x0.cr types))=false)),oR True (((((!ML)||((dt x0.split 1)&&((cp x0.pick.place (-1))&&(cp x0.drop.place (-1)))))||(bh x0.cr (-1)))||(cT x0.cr types))=false),rp 3 (oI ((((((!ML)||((dt x0.split 1)&&((cp x0.pick.place (-1))&&(cp x0.drop.place (-1)))))||(bh x0.cr (-1)))||(cT x0.cr types))||(bh x0.now (-1)))=false)),oR True ((((((!ML)||((dt x0.split 1)&&((cp x0.pick.place (-1))&&(cp x0.drop.place (-1)))))||(bh x0.cr (-1)))||(cT x0.cr types))||(bh x0.now (-1)))=false),bT h55,oO (Eq.refl ([2].map al).length),aO al h56,hW 5,hH (.ng 3),rp 4 (oO (Eq.refl ((l10++[2]).map al).length))]
 ·obtain rfl:=oK h;exact gr 9 [] [rp 5 hP,rp 3 (oI ((cp x0.pick.place (-1))=true)),oR True ((cp x0.pick.place (-1))=true),cC (bH h52),rp 3 (nF h53),cC (bH h54),rp 2 (nF h53),rp 26 hP,rp 4 (oI ((!ML)=false)),oI (((!ML)=false)/\(dt x0.split 1)=true),oR True ((!ML)=false),rp 2 (oI (((!ML)||((dt x0.split 1)&&((cp x0.pick.place (-1))&&(cp x0.drop.place (-1)))))=false)),oR True (((!ML)||((dt x0.split 1)&&((cp x0.pick.place (-1))&&(cp x0.drop.place (-1)))))=false),rp 3 (oI ((((!ML)||((dt x0.split 1)&&((cp x0.pick.place (-1))&&(cp x0.drop.place (-1)))))||(bh x0.cr (-1)))=false)),oR True ((((!ML)||((dt x0.split 1)&&((cp x0.pick.place (-1))&&(cp x0.drop.place (-1)))))||(bh x0.cr (-1)))=false),rp 2 (oI (((((!ML)||((dt x0.split 1)&&((cp x0.pick.place (-1))&&(cp x0.drop.place (-1)))))||(bh x0.cr (-1)))||(cT x0.cr types))=false)),oR True (((((!ML)||((dt x0.split 1)&&((cp x0.pick.place (-1))&&(cp x0.drop.place (-1)))))||(bh x0.cr (-1)))||(cT x0.cr types))=false),rp 3 (oI ((((((!ML)||((dt x0.split 1)&&((cp x0.pick.place (-1))&&(cp x0.drop.place (-1)))))||(bh x0.cr (-1)))||(cT x0.cr types))||(bh x0.now (-1)))=false)),oR True ((((((!ML)||((dt x0.split 1)&&((cp x0.pick.place (-1))&&(cp x0.drop.place (-1)))))||(bh x0.cr (-1)))||(cT x0.cr types))||(bh x0.now (-1)))=false),bF h55,hW 5,hH (.ng 0),rp 3 (eL l10 al)]
 ·cases h;exact gr 9 [] [rp 5 hP,rp 3 (oI ((cp x0.pick.place (-1))=true)),oR True ((cp x0.pick.place (-1))=true),cC (bH h52),rp 5 (nT h53),rp 4 tT,kF,rp 21 tT,oO (Eq.refl ([2].map al).length),aO al h57,hW 5,hH (.ng 3),rp 4 (oO (Eq.refl ((l10++[2]).map al).length))]
theorem xh(rv:List Int){types x0 LO}(h:qF types x0 LO=some rv):en G rv ⟨[.c 2047],⟨156,[vI 2 types,vO 11 0 1 LO al,vP 12 1 16],[oS 1 37 LO al,oX 16 69 (aw.enc x0)]⟩⟩:=by
 simp only[qF,az,aq,ar,au]at h;rcases h with⟨r18,h64,⟨h65,Pr,h66,⟨kX,h68,h⟩|⟨kX,h⟩⟩|⟨h65,h69,h⟩⟩
 ·cases h;exact gr 9 [] [rp 5 hP,rp 3 (oI ((cp x0.pick.place (-1))=true)),oR True ((cp x0.pick.place (-1))=true),cC (bH h64),rp 3 (nF h65),cC (bH h66),rp 2 (nF h65),rp 26 hP,rp 4 (oI ((!Pr)=false)),oI (((!Pr)=false)/\(dt x0.split 1)=true),oR True ((!Pr)=false),rp 2 (oI (((!Pr)||((dt x0.split 1)&&((cp x0.pick.place (-1))&&(cp x0.drop.place (-1)))))=false)),oR True (((!Pr)||((dt x0.split 1)&&((cp x0.pick.place (-1))&&(cp x0.drop.place (-1)))))=false),rp 3 (oI ((((!Pr)||((dt x0.split 1)&&((cp x0.pick.place (-1))&&(cp x0.drop.place (-1)))))||(bh x0.cr (-1)))=false)),oR True ((((!Pr)||((dt x0.split 1)&&((cp x0.pick.place (-1))&&(cp x0.drop.place (-1)))))||(bh x0.cr (-1)))=false),rp 2 (oI (((((!Pr)||((dt x0.split 1)&&((cp x0.pick.place (-1))&&(cp x0.drop.place (-1)))))||(bh x0.cr (-1)))||(cT x0.cr types))=false)),oR True (((((!Pr)||((dt x0.split 1)&&((cp x0.pick.place (-1))&&(cp x0.drop.place (-1)))))||(bh x0.cr (-1)))||(cT x0.cr types))=false),rp 3 (oI ((((((!Pr)||((dt x0.split 1)&&((cp x0.pick.place (-1))&&(cp x0.drop.place (-1)))))||(bh x0.cr (-1)))||(cT x0.cr types))||(bh x0.now (-1)))=false)),oR True ((((((!Pr)||((dt x0.split 1)&&((cp x0.pick.place (-1))&&(cp x0.drop.place (-1)))))||(bh x0.cr (-1)))||(cT x0.cr types))||(bh x0.now (-1)))=false),bT kX,oO (Eq.refl ([2].map al).length),aO al h68,hW 5,hH (.ng 3),rp 4 (oO (Eq.refl ((LO++[2]).map al).length))]
 ·obtain rfl:=oK h;exact gr 9 [] [rp 5 hP,rp 3 (oI ((cp x0.pick.place (-1))=true)),oR True ((cp x0.pick.place (-1))=true),cC (bH h64),rp 3 (nF h65),cC (bH h66),rp 2 (nF h65),rp 26 hP,rp 4 (oI ((!Pr)=false)),oI (((!Pr)=false)/\(dt x0.split 1)=true),oR True ((!Pr)=false),rp 2 (oI (((!Pr)||((dt x0.split 1)&&((cp x0.pick.place (-1))&&(cp x0.drop.place (-1)))))=false)),oR True (((!Pr)||((dt x0.split 1)&&((cp x0.pick.place (-1))&&(cp x0.drop.place (-1)))))=false),rp 3 (oI ((((!Pr)||((dt x0.split 1)&&((cp x0.pick.place (-1))&&(cp x0.drop.place (-1)))))||(bh x0.cr (-1)))=false)),oR True ((((!Pr)||((dt x0.split 1)&&((cp x0.pick.place (-1))&&(cp x0.drop.place (-1)))))||(bh x0.cr (-1)))=false),rp 2 (oI (((((!Pr)||((dt x0.split 1)&&((cp x0.pick.place (-1))&&(cp x0.drop.place (-1)))))||(bh x0.cr (-1)))||(cT x0.cr types))=false)),oR True (((((!Pr)||((dt x0.split 1)&&((cp x0.pick.place (-1))&&(cp x0.drop.place (-1)))))||(bh x0.cr (-1)))||(cT x0.cr types))=false),rp 3 (oI ((((((!Pr)||((dt x0.split 1)&&((cp x0.pick.place (-1))&&(cp x0.drop.place (-1)))))||(bh x0.cr (-1)))||(cT x0.cr types))||(bh x0.now (-1)))=false)),oR True ((((((!Pr)||((dt x0.split 1)&&((cp x0.pick.place (-1))&&(cp x0.drop.place (-1)))))||(bh x0.cr (-1)))||(cT x0.cr types))||(bh x0.now (-1)))=false),bF kX,hW 5,hH (.ng 0),rp 3 (eL LO al)]
 ·cases h;exact gr 9 [] [rp 5 hP,rp 3 (oI ((cp x0.pick.place (-1))=true)),oR True ((cp x0.pick.place (-1))=true),cC (bH h64),rp 5 (nT h65),rp 4 tT,kF,rp 21 tT,oO (Eq.refl ([2].map al).length),aO al h69,hW 5,hH (.ng 3),rp 4 (oO (Eq.refl ((LO++[2]).map al).length))]
theorem xg(rv:List Int){types x0 MK}(h:qD types x0 MK=some rv):en G rv ⟨[.c 1023],⟨156,[vI 2 types,vO 11 0 1 MK al,vP 12 1 16],[oS 1 37 MK al,oX 16 69 (aw.enc x0)]⟩⟩:=by
 simp only[qD,az,aq,ar,au]at h;rcases h with⟨r17,h61,⟨h62,h⟩|⟨h62,ky,h⟩⟩
 ·exact gn 5 [2,11,12] [0,1] [cC (bH h61),nF h62] (xh G rv h)
 ·exact gn 5 [2,11,12] [3,1] [cC (bH h61),nT h62,oO (Eq.refl ([18].map al).length),aO al ky] (xh G rv h)
theorem yn(rv:List Int){types x0 l9}(h:rm types x0 l9=some rv):en G rv ⟨[.c 511],⟨156,[vI 2 types,vO 11 0 1 l9 al,vP 12 1 16],[oS 1 37 l9 al,oX 16 69 (aw.enc x0)]⟩⟩:=by
 simp only[rm,az,aq,ar,au]at h;rcases h with⟨r12,xM,⟨Xe,h48,r13,h49,⟨h50,h⟩|⟨h50,h51,h⟩⟩|⟨Xe,r16,h58,⟨h59,h60,h⟩|⟨h59,h⟩⟩⟩
 ·exact gn 10 [2,11,12] [3,1] [cC (ez xM),rp 5 (bT Xe),tT,oO (Eq.refl ([14].map al).length),aO al h48,cC (bH h49),nF h50] (yo G rv h)
 ·exact gn 10 [2,11,12] [5,1] [cC (ez xM),rp 5 (bT Xe),tT,oO (Eq.refl ([14].map al).length),aO al h48,cC (bH h49),nT h50,oO (Eq.refl ([18].map al).length),aO al h51] (yo G rv h)
 ·exact gn 5 [2,11,12] [3,1] [cC (ez xM),rp 3 (bF Xe),cC (ez h58),rp 2 (bF Xe),bT h59,oO (Eq.refl ([14].map al).length),aO al h60] (xg G rv h)
 ·exact gn 5 [2,11,12] [0,1] [cC (ez xM),rp 3 (bF Xe),cC (ez h58),rp 2 (bF Xe),bF h59] (xg G rv h)
theorem yh(rv:List Int){bm types x0 l3}(h:gF bm types x0 l3=some rv):en G rv ⟨[.c 127],⟨156,[vI 0 bm,vI 2 types,vO 11 0 1 l3 al,vP 12 1 16],[oS 1 37 l3 al,oX 16 69 (aw.enc x0)]⟩⟩:=by
 simp only[gF,az,aq,ar,au]at h;rcases h with⟨r2,iO,⟨jD,r3,so,⟨y3,h⟩|⟨y3,vj,h⟩⟩|⟨jD,h43,⟨tk,h45,h⟩|⟨tk,h⟩⟩⟩
 ·exact gn 5 [2,11,12] [0,1] [cC (bH iO),rp 6 (nF jD),cC (bH so),rp 2 (nF jD),nF y3] (yi G rv h)
 ·exact gn 5 [2,11,12] [3,1] [cC (bH iO),rp 6 (nF jD),cC (bH so),rp 2 (nF jD),nT y3,oO (Eq.refl ([11].map al).length),aO al vj] (yi G rv h)
 ·exact gn 10 [2,11,12] [5,1] [cC (bH iO),rp 8 (nT jD),tT,oO (Eq.refl ([11].map al).length),aO al h43,rp 5 hP,rp 3 (oI ((dk x0.pick.place (-1))=true)),oR True ((dk x0.pick.place (-1))=true),bT tk,oO (Eq.refl ([19].map al).length),aO al h45] (yn G rv h)
 ·exact gn 10 [2,11,12] [3,1] [cC (bH iO),rp 8 (nT jD),tT,oO (Eq.refl ([11].map al).length),aO al h43,rp 5 hP,rp 3 (oI ((dk x0.pick.place (-1))=true)),oR True ((dk x0.pick.place (-1))=true),bF tk] (yn G rv h)
theorem yg(rv:List Int){bm dS types l j7 x0 l1}(h:kS bm dS types l j7 x0 l1=some rv):en G rv ⟨[.c 31],⟨156,[vI 0 bm,vI 1 dS,vI 2 types,vL 3 16 l aw.enc,vI 4 j7,vO 11 0 1 l1 al,vP 12 1 16],[oS 1 37 l1 al,oX 16 69 (aw.enc x0)]⟩⟩:=by
 simp only[kS,az,aq,ar,au]at h;obtain⟨l2,h8,h⟩:=h;refine gn 5 [0,1,2,3,4,11,12,13] [0,1] [] (F9 G rv h8 ?_);rcases h with⟨r1,h9,⟨dO,h⟩|⟨dO,g_,h⟩⟩
 ·exact gn 5 [0,2,11,12] [0,1] [cC (Bb h9),nF dO] (yh G rv h)
 ·exact gn 5 [0,2,11,12] [3,1] [cC (Bb h9),nT dO,oO (Eq.refl ([17].map al).length),aO al g_] (yh G rv h)
theorem KB{bm dS types l j7}{rv:List Int}(h:rP bm dS types l j7=some rv):dK prog 136 [.one (lI bm),.one (lI dS),.one (lI types),.one (lL 16 l aw.enc),.one (lI j7)] [] (one (lL 1 rv al)) []:=by
 refine aX func136 λG=>?_
 simp only[rP,az,aq,ar,au]at h;rcases h with⟨x0,h0,r,h1,⟨h2,h⟩|⟨h2,h3,h⟩⟩
 ·exact gn 11 [0,1,2,3,4,11,12] [1,0] [cE aw.enc h0,cC (lP h1),nF h2,hW 1,hH (.nP 11 1 37)] (yg G rv h)
 ·exact gn 11 [0,1,2,3,4,11,12] [2,0] [cE aw.enc h0,cC (lP h1),nT h2,oO (Eq.refl ([5].map al).length),aN (l:=([5]:List Int)) al h3] (yg G rv h)
def pK(rv:List aa)(cf:Cf):Prop:=Go prog f61 [] G (one (lL 2 rv aa.enc)) [] cf
def Ht(rv:List aa)(n:aC)(dS types:Int)(l:List aw)(i:Int)(r:List Int)(l3:List aa)(k:Int):Prop:=pK G rv ⟨[.c 31308,.l 31308,.b 2,.b 1,.c 979,.l 244,.b 0,.c 31],⟨51,[vI 1 dS,vI 2 types,vL 3 16 l aw.enc,vP 4 0 2,vO 9 1 2 l3 aa.enc,vI 10 i,vL 11 1 r al,vI 12 k],[oX 2 25 (aC.enc n),oS 2 219 l3 aa.enc]⟩⟩
def F6(rv:List aa)(n:aC)(dS types:Int)(l:List aw)(i:Int)(r:List Int)(l4:List aa):Prop:=pK G rv ⟨[.b 1,.c 979,.l 244,.b 0,.c 31],⟨51,[vI 1 dS,vI 2 types,vL 3 16 l aw.enc,vP 4 0 2,vO 9 1 2 l4 aa.enc,vI 10 i],[oX 2 25 (aC.enc n),oS 2 219 l4 aa.enc]⟩⟩
def Hs(rv:List aa)(n:aC)(dS types:Int)(l:List aw)(l2:List aa)(i:Int):Prop:=pK G rv ⟨[.c 244,.l 244,.b 0,.c 31],⟨51,[vI 1 dS,vI 2 types,vL 3 16 l aw.enc,vP 4 0 2,vO 9 1 2 l2 aa.enc,vI 10 i],[oX 2 25 (aC.enc n),oS 2 219 l2 aa.enc]⟩⟩
def F4(rv:List aa)(n:aC)(dS types:Int)(l:List aw)(l5:List aa):Prop:=pK G rv ⟨[.c 31],⟨51,[vO 9 0 2 l5 aa.enc],[oS 2 219 l5 aa.enc]⟩⟩
theorem F7(rv:List aa){n dS types l i r}:∀⦃s:List aa×Int⦄ ⦃e:List aa⦄,aL (λs=>vF n dS types l i r s.1 s.2) s=some e->F6 G rv n dS types l i r e->Ht G rv n dS types l i r s.1 s.2:=by
 refine bz ?_
 rintro⟨l3,k⟩ z_ h hI hE;simp only[vF,az,aq,ar,au]at h;rcases h with⟨h4,x0,h5,r1,h6,h7,h⟩|⟨h4,h⟩
 ·exact gn 11 [1,2,3,4,9,10,11,12] [0,3] [nL al r,bT h4,hH (.draw 9 []),cE al h5,cC (fm h6),oO (Eq.refl ([(aa.mk x0 r1)].map aa.enc).length),aO aa.enc h7] (hI h)
 ·exact gn 5 [1,2,3,4,9,10] [0,1] [nL al r,bF h4] (hE h)
theorem F5(rv:List aa){n dS types l}:∀⦃s:List aa×Int⦄ ⦃e:List aa⦄,aL (λs=>iR n dS types l s.1 s.2) s=some e->F4 G rv n dS types l e->Hs G rv n dS types l s.1 s.2:=by
 refine bz ?_
 rintro⟨l2,i⟩ z_ h hI hE;simp only[iR,az,aq,ar,au]at h;rcases h with⟨h2,r,h3,l4,h8,h⟩|⟨h2,h⟩
 ·refine gn 13 [1,2,3,4,9,10,11,12] [0,1] [nL aw.enc l,bT h2,nL bN n.bm,cC (KB h3)] (F7 G rv h8 ?_);exact gn 3 [1,2,3,4,9,10] [0,1] [] (hI h)
 ·exact gn 5 [9] [1] [nL aw.enc l,bF h2] (hE h)
theorem yf(rv:List aa){n dS types l l1}(h:n5 n dS types l l1=some rv):pK G rv ⟨[.c 15],⟨51,[vI 1 dS,vI 2 types,vL 3 16 l aw.enc,vP 4 0 2,vO 9 1 2 l1 aa.enc],[oX 2 25 (aC.enc n),oS 2 219 l1 aa.enc]⟩⟩:=by
 simp only[n5,az,aq,ar,au]at h;obtain⟨l5,h9,h⟩:=h;refine gn 5 [1,2,3,4,9,10] [0,1] [] (F5 G rv h9 ?_);obtain rfl:=oK h;exact gr 2 [] [hW 4,hH (.ng 0),rp 3 (eL l5 aa.enc)]
theorem KA{n dS types l}{rv:List aa}(h:rO n dS types l=some rv):dK prog 61 [.agg (aC.enc n),.one (lI dS),.one (lI types),.one (lL 16 l aw.enc)] [] (one (lL 2 rv aa.enc)) []:=by
 refine aX func61 λG=>?_
 simp only[rO,az,aq,ar,au]at h;rcases h with⟨h0,h1,h⟩|⟨h0,h⟩
 ·exact gn 9 [1,2,3,4,9] [0,2] [nL aw.enc l,bT h0,oO (Eq.refl ([(aa.mk 4 ByteArray.empty)].map aa.enc).length),aN (l:=([(aa.mk 4 ByteArray.empty)]:List aa)) aa.enc h1] (yf G rv h)
 ·exact gn 9 [1,2,3,4,9] [0,1] [nL aw.enc l,bF h0,hW 1,hH (.nP 9 2 219)] (yf G rv h)
def Au(rv:I)(cf:Cf):Prop:=Go prog f204 [] G (one (.str rv)) [] cf
def EE(rv:I)(n1:Int)(s0:I):Prop:=Au G rv ⟨[.c 56,.l 56,.b 0,.c 15],⟨23,[vI 0 n1,vS 3 s0],[]⟩⟩
def DT(rv:I)(n2:Int)(s1:I):Prop:=Au G rv ⟨[.c 15],⟨23,[vI 0 n2,vS 3 s1],[]⟩⟩
theorem DU(rv:I):∀⦃s:Int×I⦄ ⦃e:Int×I⦄,aL (λs=>lD s.1 s.2) s=some e->DT G rv e.1 e.2->EE G rv s.1 s.2:=by
 refine bz ?_
 rintro⟨n1,s0⟩ z_ h hI hE;simp only[lD,az,aq,ar,au]at h;rcases h with⟨h0,h1,h⟩|⟨h0,h⟩
 ·exact gn 11 [0,3] [] [bT h0,hH (.ints [(Bn .u8 (aV .i64 48 (wV n1 10)))]),oO (oA (n:=10)),oO (Eq.refl ([(Bn .u8 (aV .i64 48 (wV n1 10)))].map G3).length),oO (Eq.refl (([(Bn .u8 (aV .i64 48 (wV n1 10)))].map G3):List (List Lf))),oO (h1),oO (oA (n:=10))] (hI h)
 ·exact gn 5 [0,3] [] [bF h0] (hE h)
theorem pZ{n}{rv:I}(h:lV n=some rv):dK prog 204 [.one (lI n)] [] (one (.str rv)) []:=by
 refine aX func204 λG=>?_
 simp only[lV,az,aq,ar,au]at h;obtain⟨⟨n2,s1⟩,h2,h⟩:=h;refine gn 7 [0,3] [] [] (DU G rv h2 ?_);obtain⟨h3,h⟩:=h;cases h;exact gr 2 [] [hH (.ints [(Bn .u8 (aV .i64 48 n2))]),oO (Eq.refl ([(Bn .u8 (aV .i64 48 n2))].map G3).length),oO (Eq.refl (([(Bn .u8 (aV .i64 48 n2))].map G3):List (List Lf))),oO (h3)]
def n6(rv:List aa)(cf:Cf):Prop:=Go prog f137 [] G (one (lL 2 rv aa.enc)) [] cf
def Ga(rv:List aa)(ai:Int)(l:List aW)(word:I)(dp:Bool)(l2:List aa)(i:Int)(x0:aW)(r:I)(oY:Bool)(k:Int):Prop:=n6 G rv ⟨[.c 1001972,.l 1001972,.b 2,.c 125247,.b 1,.c 979,.l 244,.b 0,.c 31],⟨123,[vI 0 ai,vL 1 2 l aW.enc,vS 2 word,vB 3 dp,vO 9 0 2 l2 aa.enc,vI 10 i,vI 11 x0.x0,vI 12 x0.x1,vS 13 (ee (ee word fC) r),vB 14 oY,vI 15 k],[oS 2 219 l2 aa.enc]⟩⟩
def EH(rv:List aa)(ai:Int)(l:List aW)(word:I)(dp:Bool)(l2:List aa)(i:Int)(x0:aW)(r:I)(sZ:Bool):Prop:=n6 G rv ⟨[.c 125247,.b 1,.c 979,.l 244,.b 0,.c 31],⟨123,[vI 0 ai,vL 1 2 l aW.enc,vS 2 word,vB 3 dp,vO 9 0 2 l2 aa.enc,vI 10 i,vS 13 (ee (ee word fC) r),vB 14 sZ],[oS 2 219 l2 aa.enc]⟩⟩
def F_(rv:List aa)(ai:Int)(l:List aW)(word:I)(dp:Bool)(l2:List aa)(i:Int):Prop:=n6 G rv ⟨[.c 244,.l 244,.b 0,.c 31],⟨123,[vI 0 ai,vL 1 2 l aW.enc,vS 2 word,vB 3 dp,vO 9 0 2 l2 aa.enc,vI 10 i],[oS 2 219 l2 aa.enc]⟩⟩
def EF(rv:List aa)(ai:Int)(l:List aW)(word:I)(dp:Bool)(l3:List aa):Prop:=n6 G rv ⟨[.c 31],⟨123,[vO 9 0 2 l3 aa.enc],[oS 2 219 l3 aa.enc]⟩⟩
theorem EI(rv:List aa){ai l word dp l2 i x0 r}:∀⦃s:Bool×Int⦄ ⦃e:Bool⦄,aL (λs=>mL ai l word dp l2 i x0 r s.1 s.2) s=some e->EH G rv ai l word dp l2 i x0 r e->Ga G rv ai l word dp l2 i x0 r s.1 s.2:=by
 refine bz ?_
 rintro⟨oY,k⟩ z_ h hI hE;simp only[mL,az,aq,ar,au]at h;rcases h with⟨h9,⟨dO,h⟩|⟨dO,x1,g_,⟨iO,⟨jD,h⟩|⟨jD,⟨so,⟨y3,h⟩|⟨y3,h⟩⟩|⟨so,h⟩⟩⟩|⟨iO,⟨vj,⟨B4,h⟩|⟨B4,h⟩⟩|⟨vj,h⟩⟩⟩⟩|⟨h9,h⟩
 ·exact gn 11 [0,1,2,3,9,10,11,12,13,14,15] [0] [bT h9,rp 8 (bT dO),rp 7 kF,rp 2 (bT dO),tT,tT,rp 7 kF,tT,tT,rp 7 kF,tT,tT] (hI h)
 ·exact gn 11 [0,1,2,3,9,10,11,12,13,14,15] [0] [bT h9,rp 3 (bF dO),cE aW.enc g_,bF dO,oO (zL 0),oO (lT 0 2),rp 4 (bF dO),rp 3 (bT iO),cE aW.enc g_,bT iO,oO (zL 1),oO (lT 1 2),rp 3 (bT iO),bF dO,bT iO,bF dO,rp 2 (bT jD),rp 7 kF,rp 2 (bT jD),rp 7 kF,rp 2 (bT jD)] (hI h)
 ·exact gn 11 [0,1,2,3,9,10,11,12,13,14,15] [0] [bT h9,rp 3 (bF dO),cE aW.enc g_,bF dO,oO (zL 0),oO (lT 0 2),rp 4 (bF dO),rp 3 (bT iO),cE aW.enc g_,bT iO,oO (zL 1),oO (lT 1 2),rp 3 (bT iO),bF dO,bT iO,bF dO,rp 2 (bF jD),rp 3 (bT so),cE aW.enc g_,bT so,oO (zL 0),oO (lT 0 2),rp 3 (bT so),bF jD,bT so,bF jD,rp 3 (bT y3),cE aW.enc g_,bT y3,oO (zL 1),oO (lT 1 2),rp 3 (bT y3),bF jD,bT y3,bF jD] (hI h)
 ·exact gn 11 [0,1,2,3,9,10,11,12,13,14,15] [0] [bT h9,rp 3 (bF dO),cE aW.enc g_,bF dO,oO (zL 0),oO (lT 0 2),rp 4 (bF dO),rp 3 (bT iO),cE aW.enc g_,bT iO,oO (zL 1),oO (lT 1 2),rp 3 (bT iO),bF dO,bT iO,bF dO,rp 2 (bF jD),rp 3 (bT so),cE aW.enc g_,bT so,oO (zL 0),oO (lT 0 2),rp 3 (bT so),bF jD,bT so,bF jD,rp 7 (bF y3),bF jD,bF y3,bF jD] (hI h)
 ·exact gn 11 [0,1,2,3,9,10,11,12,13,14,15] [0] [bT h9,rp 3 (bF dO),cE aW.enc g_,bF dO,oO (zL 0),oO (lT 0 2),rp 4 (bF dO),rp 3 (bT iO),cE aW.enc g_,bT iO,oO (zL 1),oO (lT 1 2),rp 3 (bT iO),bF dO,bT iO,bF dO,rp 2 (bF jD),rp 7 (bF so),bF jD,bF so,bF jD,rp 7 fF,bF jD,fF,bF jD] (hI h)
 ·exact gn 11 [0,1,2,3,9,10,11,12,13,14,15] [0] [bT h9,rp 3 (bF dO),cE aW.enc g_,bF dO,oO (zL 0),oO (lT 0 2),rp 4 (bF dO),rp 7 (bF iO),bF dO,bF iO,bF dO,fF,fF,rp 3 (bT vj),cE aW.enc g_,bT vj,oO (zL 0),oO (lT 0 2),rp 3 (bT vj),fF,bT vj,fF,rp 3 (bT B4),cE aW.enc g_,bT B4,oO (zL 1),oO (lT 1 2),rp 3 (bT B4),fF,bT B4,fF] (hI h)
 ·exact gn 11 [0,1,2,3,9,10,11,12,13,14,15] [0] [bT h9,rp 3 (bF dO),cE aW.enc g_,bF dO,oO (zL 0),oO (lT 0 2),rp 4 (bF dO),rp 7 (bF iO),bF dO,bF iO,bF dO,fF,fF,rp 3 (bT vj),cE aW.enc g_,bT vj,oO (zL 0),oO (lT 0 2),rp 3 (bT vj),fF,bT vj,fF,rp 7 (bF B4),fF,bF B4,fF] (hI h)
 ·exact gn 11 [0,1,2,3,9,10,11,12,13,14,15] [0] [bT h9,rp 3 (bF dO),cE aW.enc g_,bF dO,oO (zL 0),oO (lT 0 2),rp 4 (bF dO),rp 7 (bF iO),bF dO,bF iO,bF dO,fF,fF,rp 7 (bF vj),fF,bF vj,rp 11 fF] (hI h)
 ·exact gn 5 [0,1,2,3,9,10,13,14] [0] [bF h9] (hE h)
theorem EG(rv:List aa){ai l word dp}:∀⦃s:List aa×Int⦄ ⦃e:List aa⦄,aL (λs=>ib ai l word dp s.1 s.2) s=some e->EF G rv ai l word dp e->F_ G rv ai l word dp s.1 s.2:=by
 refine bz ?_
 rintro⟨l2,i⟩ z_ h hI hE;simp only[ib,az,aq,ar,au]at h;rcases h with⟨h2,x0,h3,h4,r,h5,h6,⟨h7,h8,h⟩|⟨h7,sZ,Lg,h⟩⟩|⟨h2,h⟩
 ·exact gn 22 [0,1,2,3,9,10] [2] [nL aW.enc l,bT h2,cE aW.enc h3,oO (zL 0),oO (lT 0 2),cE aW.enc h3,oO (zL 1),oO (lT 1 2),oO (h4),cC (pZ h5),rp 15 hP,oO (h6),rp 2 (oI ((bh x0.x0 0)=false)),oR True ((bh x0.x0 0)=false),oI (((bh x0.x0 0)||(cT x0.x0 ai))=false),oR True (((bh x0.x0 0)||(cT x0.x0 ai))=false),rp 2 (oI ((((bh x0.x0 0)||(cT x0.x0 ai))||(bh x0.x1 0))=false)),oR True ((((bh x0.x0 0)||(cT x0.x0 ai))||(bh x0.x1 0))=false),rp 2 (oI (((((bh x0.x0 0)||(cT x0.x0 ai))||(bh x0.x1 0))||(cT x0.x1 ai))=false)),oR True (((((bh x0.x0 0)||(cT x0.x0 ai))||(bh x0.x1 0))||(cT x0.x1 ai))=false),bT h7,oO (Eq.refl ([(aa.mk 2 (ee (ee word fC) r))].map aa.enc).length),aO aa.enc h8] (hI h)
 ·refine gn 25 [0,1,2,3,9,10,11,12,13,14,15] [0] [nL aW.enc l,bT h2,cE aW.enc h3,oO (zL 0),oO (lT 0 2),cE aW.enc h3,oO (zL 1),oO (lT 1 2),oO (h4),cC (pZ h5),rp 15 hP,oO (h6),rp 2 (oI ((bh x0.x0 0)=false)),oR True ((bh x0.x0 0)=false),oI (((bh x0.x0 0)||(cT x0.x0 ai))=false),oR True (((bh x0.x0 0)||(cT x0.x0 ai))=false),rp 2 (oI ((((bh x0.x0 0)||(cT x0.x0 ai))||(bh x0.x1 0))=false)),oR True ((((bh x0.x0 0)||(cT x0.x0 ai))||(bh x0.x1 0))=false),rp 2 (oI (((((bh x0.x0 0)||(cT x0.x0 ai))||(bh x0.x1 0))||(cT x0.x1 ai))=false)),oR True (((((bh x0.x0 0)||(cT x0.x0 ai))||(bh x0.x1 0))||(cT x0.x1 ai))=false),bF h7] (EI G rv Lg ?_);rcases h with⟨Fi,G4,h⟩|⟨Fi,h⟩
  ·exact gn 7 [0,1,2,3,9,10] [2] [bT Fi,oO (Eq.refl ([(aa.mk 6 (ee (ee word fC) r))].map aa.enc).length),aO aa.enc G4] (hI h)
  ·exact gn 7 [0,1,2,3,9,10] [0] [bF Fi] (hI h)
 ·exact gn 5 [9] [0] [nL aW.enc l,bF h2] (hE h)
theorem xi(rv:List aa){ai l word dp l1}(h:mK ai l word dp l1=some rv):n6 G rv ⟨[.c 15],⟨123,[vI 0 ai,vL 1 2 l aW.enc,vS 2 word,vB 3 dp,vO 9 0 2 l1 aa.enc],[oS 2 219 l1 aa.enc]⟩⟩:=by
 simp only[mK,az,aq,ar,au]at h;obtain⟨l3,MH,h⟩:=h;refine gn 5 [0,1,2,3,9,10] [0] [] (EG G rv MH ?_);obtain rfl:=oK h;exact gr 2 [] [hW 4,hH (.ng 0),rp 3 (eL l3 aa.enc)]
theorem I1{ai l word dp}{rv:List aa}(h:qG ai l word dp=some rv):dK prog 137 [.one (lI ai),.one (lL 2 l aW.enc),.one (.str word),.one (.bool dp)] [] (one (lL 2 rv aa.enc)) []:=by
 refine aX func137 λG=>?_
 simp only[qG,az,aq,ar,au]at h;rcases h with⟨h0,h1,h⟩|⟨h0,h⟩
 ·exact gn 9 [0,1,2,3,9] [1] [nL aW.enc l,bT h0,oO (Eq.refl ([(aa.mk 4 word)].map aa.enc).length),aN (l:=([(aa.mk 4 word)]:List aa)) aa.enc h1] (xi G rv h)
 ·exact gn 9 [0,1,2,3,9] [0] [nL aW.enc l,bF h0,hW 1,hH (.nP 9 2 219)] (xi G rv h)
def jM(rv:List aa)(cf:Cf):Prop:=Go prog f137 [] G (one (lO 0 2 rv aa.enc)) [oS 2 219 rv aa.enc] cf
def Cg(rv:List aa)(ai:Int)(l:List aW)(word:I)(dp:Bool)(l2:List aa)(i:Int)(x0:aW)(r:I)(oY:Bool)(k:Int):Prop:=jM G rv ⟨[.c 1001972,.l 1001972,.b 2,.c 125247,.b 1,.c 979,.l 244,.b 0,.c 31],⟨123,[vI 0 ai,vL 1 2 l aW.enc,vS 2 word,vB 3 dp,vO 9 0 2 l2 aa.enc,vI 10 i,vI 11 x0.x0,vI 12 x0.x1,vS 13 (ee (ee word fC) r),vB 14 oY,vI 15 k],[oS 2 219 l2 aa.enc]⟩⟩
def Bs(rv:List aa)(ai:Int)(l:List aW)(word:I)(dp:Bool)(l2:List aa)(i:Int)(x0:aW)(r:I)(sZ:Bool):Prop:=jM G rv ⟨[.c 125247,.b 1,.c 979,.l 244,.b 0,.c 31],⟨123,[vI 0 ai,vL 1 2 l aW.enc,vS 2 word,vB 3 dp,vO 9 0 2 l2 aa.enc,vI 10 i,vS 13 (ee (ee word fC) r),vB 14 sZ],[oS 2 219 l2 aa.enc]⟩⟩
def Ce(rv:List aa)(ai:Int)(l:List aW)(word:I)(dp:Bool)(l2:List aa)(i:Int):Prop:=jM G rv ⟨[.c 244,.l 244,.b 0,.c 31],⟨123,[vI 0 ai,vL 1 2 l aW.enc,vS 2 word,vB 3 dp,vO 9 0 2 l2 aa.enc,vI 10 i],[oS 2 219 l2 aa.enc]⟩⟩
def Bq(rv:List aa)(ai:Int)(l:List aW)(word:I)(dp:Bool)(l3:List aa):Prop:=jM G rv ⟨[.c 31],⟨123,[vO 9 0 2 l3 aa.enc],[oS 2 219 l3 aa.enc]⟩⟩
theorem Bt(rv:List aa){ai l word dp l2 i x0 r}:∀⦃s:Bool×Int⦄ ⦃e:Bool⦄,aL (λs=>qT ai l word dp l2 i x0 r s.1 s.2) s=some e->Bs G rv ai l word dp l2 i x0 r e->Cg G rv ai l word dp l2 i x0 r s.1 s.2:=by
 refine bz ?_
 rintro⟨oY,k⟩ z_ h hI hE;simp only[qT,az,aq,ar,au]at h;rcases h with⟨h9,⟨dO,h⟩|⟨dO,x1,g_,⟨iO,⟨jD,h⟩|⟨jD,⟨so,⟨y3,h⟩|⟨y3,h⟩⟩|⟨so,h⟩⟩⟩|⟨iO,⟨vj,⟨B4,h⟩|⟨B4,h⟩⟩|⟨vj,h⟩⟩⟩⟩|⟨h9,h⟩
 ·exact gn 11 [0,1,2,3,9,10,11,12,13,14,15] [0] [bT h9,rp 8 (bT dO),rp 7 kF,rp 2 (bT dO),tT,tT,rp 7 kF,tT,tT,rp 7 kF,tT,tT] (hI h)
 ·exact gn 11 [0,1,2,3,9,10,11,12,13,14,15] [0] [bT h9,rp 3 (bF dO),cE aW.enc g_,bF dO,oO (zL 0),oO (lT 0 2),rp 4 (bF dO),rp 3 (bT iO),cE aW.enc g_,bT iO,oO (zL 1),oO (lT 1 2),rp 3 (bT iO),bF dO,bT iO,bF dO,rp 2 (bT jD),rp 7 kF,rp 2 (bT jD),rp 7 kF,rp 2 (bT jD)] (hI h)
 ·exact gn 11 [0,1,2,3,9,10,11,12,13,14,15] [0] [bT h9,rp 3 (bF dO),cE aW.enc g_,bF dO,oO (zL 0),oO (lT 0 2),rp 4 (bF dO),rp 3 (bT iO),cE aW.enc g_,bT iO,oO (zL 1),oO (lT 1 2),rp 3 (bT iO),bF dO,bT iO,bF dO,rp 2 (bF jD),rp 3 (bT so),cE aW.enc g_,bT so,oO (zL 0),oO (lT 0 2),rp 3 (bT so),bF jD,bT so,bF jD,rp 3 (bT y3),cE aW.enc g_,bT y3,oO (zL 1),oO (lT 1 2),rp 3 (bT y3),bF jD,bT y3,bF jD] (hI h)
 ·exact gn 11 [0,1,2,3,9,10,11,12,13,14,15] [0] [bT h9,rp 3 (bF dO),cE aW.enc g_,bF dO,oO (zL 0),oO (lT 0 2),rp 4 (bF dO),rp 3 (bT iO),cE aW.enc g_,bT iO,oO (zL 1),oO (lT 1 2),rp 3 (bT iO),bF dO,bT iO,bF dO,rp 2 (bF jD),rp 3 (bT so),cE aW.enc g_,bT so,oO (zL 0),oO (lT 0 2),rp 3 (bT so),bF jD,bT so,bF jD,rp 7 (bF y3),bF jD,bF y3,bF jD] (hI h)
 ·exact gn 11 [0,1,2,3,9,10,11,12,13,14,15] [0] [bT h9,rp 3 (bF dO),cE aW.enc g_,bF dO,oO (zL 0),oO (lT 0 2),rp 4 (bF dO),rp 3 (bT iO),cE aW.enc g_,bT iO,oO (zL 1),oO (lT 1 2),rp 3 (bT iO),bF dO,bT iO,bF dO,rp 2 (bF jD),rp 7 (bF so),bF jD,bF so,bF jD,rp 7 fF,bF jD,fF,bF jD] (hI h)
 ·exact gn 11 [0,1,2,3,9,10,11,12,13,14,15] [0] [bT h9,rp 3 (bF dO),cE aW.enc g_,bF dO,oO (zL 0),oO (lT 0 2),rp 4 (bF dO),rp 7 (bF iO),bF dO,bF iO,bF dO,fF,fF,rp 3 (bT vj),cE aW.enc g_,bT vj,oO (zL 0),oO (lT 0 2),rp 3 (bT vj),fF,bT vj,fF,rp 3 (bT B4),cE aW.enc g_,bT B4,oO (zL 1),oO (lT 1 2),rp 3 (bT B4),fF,bT B4,fF] (hI h)
 ·exact gn 11 [0,1,2,3,9,10,11,12,13,14,15] [0] [bT h9,rp 3 (bF dO),cE aW.enc g_,bF dO,oO (zL 0),oO (lT 0 2),rp 4 (bF dO),rp 7 (bF iO),bF dO,bF iO,bF dO,fF,fF,rp 3 (bT vj),cE aW.enc g_,bT vj,oO (zL 0),oO (lT 0 2),rp 3 (bT vj),fF,bT vj,fF,rp 7 (bF B4),fF,bF B4,fF] (hI h)
 ·exact gn 11 [0,1,2,3,9,10,11,12,13,14,15] [0] [bT h9,rp 3 (bF dO),cE aW.enc g_,bF dO,oO (zL 0),oO (lT 0 2),rp 4 (bF dO),rp 7 (bF iO),bF dO,bF iO,bF dO,fF,fF,rp 7 (bF vj),fF,bF vj,rp 11 fF] (hI h)
 ·exact gn 5 [0,1,2,3,9,10,13,14] [0] [bF h9] (hE h)
theorem Br(rv:List aa){ai l word dp}:∀⦃s:List aa×Int⦄ ⦃e:List aa⦄,aL (λs=>qS ai l word dp s.1 s.2) s=some e->Bq G rv ai l word dp e->Ce G rv ai l word dp s.1 s.2:=by
 refine bz ?_
 rintro⟨l2,i⟩ z_ h hI hE;simp only[qS,az,aq,ar,au]at h;rcases h with⟨h2,x0,h3,h4,r,h5,h6,⟨h7,h8,h⟩|⟨h7,sZ,Lg,h⟩⟩|⟨h2,h⟩
 ·exact gn 22 [0,1,2,3,9,10] [2] [nL aW.enc l,bT h2,cE aW.enc h3,oO (zL 0),oO (lT 0 2),cE aW.enc h3,oO (zL 1),oO (lT 1 2),oO (h4),cC (pZ h5),rp 15 hP,oO (h6),rp 2 (oI ((bh x0.x0 0)=false)),oR True ((bh x0.x0 0)=false),oI (((bh x0.x0 0)||(cT x0.x0 ai))=false),oR True (((bh x0.x0 0)||(cT x0.x0 ai))=false),rp 2 (oI ((((bh x0.x0 0)||(cT x0.x0 ai))||(bh x0.x1 0))=false)),oR True ((((bh x0.x0 0)||(cT x0.x0 ai))||(bh x0.x1 0))=false),rp 2 (oI (((((bh x0.x0 0)||(cT x0.x0 ai))||(bh x0.x1 0))||(cT x0.x1 ai))=false)),oR True (((((bh x0.x0 0)||(cT x0.x0 ai))||(bh x0.x1 0))||(cT x0.x1 ai))=false),bT h7,oO (Eq.refl ([(aa.mk 2 (ee (ee word fC) r))].map aa.enc).length),aO aa.enc h8] (hI h)
 ·refine gn 25 [0,1,2,3,9,10,11,12,13,14,15] [0] [nL aW.enc l,bT h2,cE aW.enc h3,oO (zL 0),oO (lT 0 2),cE aW.enc h3,oO (zL 1),oO (lT 1 2),oO (h4),cC (pZ h5),rp 15 hP,oO (h6),rp 2 (oI ((bh x0.x0 0)=false)),oR True ((bh x0.x0 0)=false),oI (((bh x0.x0 0)||(cT x0.x0 ai))=false),oR True (((bh x0.x0 0)||(cT x0.x0 ai))=false),rp 2 (oI ((((bh x0.x0 0)||(cT x0.x0 ai))||(bh x0.x1 0))=false)),oR True ((((bh x0.x0 0)||(cT x0.x0 ai))||(bh x0.x1 0))=false),rp 2 (oI (((((bh x0.x0 0)||(cT x0.x0 ai))||(bh x0.x1 0))||(cT x0.x1 ai))=false)),oR True (((((bh x0.x0 0)||(cT x0.x0 ai))||(bh x0.x1 0))||(cT x0.x1 ai))=false),bF h7] (Bt G rv Lg ?_);rcases h with⟨Fi,G4,h⟩|⟨Fi,h⟩
  ·exact gn 7 [0,1,2,3,9,10] [2] [bT Fi,oO (Eq.refl ([(aa.mk 6 (ee (ee word fC) r))].map aa.enc).length),aO aa.enc G4] (hI h)
  ·exact gn 7 [0,1,2,3,9,10] [0] [bF Fi] (hI h)
 ·exact gn 5 [9] [0] [nL aW.enc l,bF h2] (hE h)
theorem t_(rv:List aa){ai l word dp l1}(h:mn ai l word dp l1=some rv):jM G rv ⟨[.c 15],⟨123,[vI 0 ai,vL 1 2 l aW.enc,vS 2 word,vB 3 dp,vO 9 0 2 l1 aa.enc],[oS 2 219 l1 aa.enc]⟩⟩:=by
 simp only[mn,az,aq,ar,au]at h;obtain⟨l3,MH,h⟩:=h;refine gn 5 [0,1,2,3,9,10] [0] [] (Br G rv MH ?_);obtain rfl:=oK h;exact gr 2 [0] []
theorem DV{ai l word dp}{rv:List aa}(h:tU ai l word dp=some rv):dK prog 137 [.one (lI ai),.one (lL 2 l aW.enc),.one (.str word),.one (.bool dp)] [] (one (lO 0 2 rv aa.enc)) [oS 2 219 rv aa.enc]:=by
 refine aX func137 λG=>?_
 simp only[tU,az,aq,ar,au]at h;rcases h with⟨h0,h1,h⟩|⟨h0,h⟩
 ·exact gn 9 [0,1,2,3,9] [1] [nL aW.enc l,bT h0,oO (Eq.refl ([(aa.mk 4 word)].map aa.enc).length),aN (l:=([(aa.mk 4 word)]:List aa)) aa.enc h1] (t_ G rv h)
 ·exact gn 9 [0,1,2,3,9] [0] [nL aW.enc l,bF h0,hW 1,hH (.nP 9 2 219)] (t_ G rv h)
theorem KC{ai dx before}{rv:List aa}(h:rQ ai dx before=some rv):dK prog 63 [.one (lI ai),.one (lL 2 dx aW.enc),.one (lL 2 before aW.enc)] [] (one (lL 2 rv aa.enc)) []:=by
 refine aX func63 λG=>?_
 simp only[rQ,az,aq,ar,au]at h;obtain⟨r,h0,r1,h1,h2,h⟩:=h;cases h;exact gr 6 [] [cC (DV h0),cC (I1 h1),aO aa.enc h2,hW 1,hH (.ng 1),rp 2 (oO (Eq.refl ((r++r1).map aa.enc).length))]
def sQ(rv:List aa)(cf:Cf):Prop:=Go prog f58 [] G (one (lO 0 2 rv aa.enc)) [oS 2 219 rv aa.enc] cf
def vq(rv:List aa)(word:I)(l l1:List aa)(i:Int):Prop:=sQ G rv ⟨[.c 116,.l 116,.b 0,.c 15],⟨40,[vS 0 word,vL 1 2 l aa.enc,vO 5 0 2 l1 aa.enc,vI 6 i],[oS 2 219 l1 aa.enc]⟩⟩
def uv(rv:List aa)(word:I)(l l2:List aa):Prop:=sQ G rv ⟨[.c 15],⟨40,[vO 5 0 2 l2 aa.enc],[oS 2 219 l2 aa.enc]⟩⟩
theorem uu(rv:List aa){word l l1 i j7}{x:(List aa×Int)⊕(List aa)}(h:nt word l l1 i j7=some x)(hI:∀⦃s:List aa×Int⦄,some (.inl s)=some x->vq G rv word l s.1 s.2)(hE:∀⦃e:List aa⦄,some (.inr e)=some x->uv G rv word l e):sQ G rv ⟨[.c 3731,.b 1,.c 467,.l 116,.b 0,.c 15],⟨40,[vS 0 word,vL 1 2 l aa.enc,vO 5 0 2 l1 aa.enc,vI 6 i,vS 7 j7],[oS 2 219 l1 aa.enc]⟩⟩:=by
 simp only[nt,az,aq,ar,au]at h;obtain⟨x1,h5,h6,h⟩:=h;exact gn 4 [0,1,5,6] [2] [cE aa.enc h5,oO (Eq.refl ([(aa.mk x1.err j7)].map aa.enc).length),aO aa.enc h6] (hI h)
theorem Ch(rv:List aa){word l}:∀⦃s:List aa×Int⦄ ⦃e:List aa⦄,aL (λs=>rS word l s.1 s.2) s=some e->uv G rv word l e->vq G rv word l s.1 s.2:=by
 refine bz ?_
 rintro⟨l1,i⟩ z_ h hI hE;simp only[rS,az,aq,ar,au]at h;rcases h with⟨h0,x0,h1,⟨h2,h⟩|⟨h2,h3,h4,h⟩⟩|⟨h0,h⟩
 ·exact gn 14 [0,1,5,6,7] [0] [nL aa.enc l,bT h0,cE aa.enc h1,nF h2] (uu G rv h hI hE)
 ·exact gn 14 [0,1,5,6,7] [0] [nL aa.enc l,bT h0,cE aa.enc h1,nT h2,oO (h3),cE aa.enc h1,oO (h4)] (uu G rv h hI hE)
 ·exact gn 5 [5] [0] [nL aa.enc l,bF h0] (hE h)
theorem EJ{word l}{rv:List aa}(h:qH word l=some rv):dK prog 58 [.one (.str word),.one (lL 2 l aa.enc)] [] (one (lO 0 2 rv aa.enc)) [oS 2 219 rv aa.enc]:=by
 refine aX func58 λG=>?_
 simp only[qH,az,aq,ar,au]at h;obtain⟨l2,h7,h⟩:=h;refine gn 9 [0,1,5,6] [0] [hW 12,hH (.nP 5 2 219)] (Ch G rv h7 ?_);obtain rfl:=oK h;exact gr 2 [0] []
theorem KD{x0}{rv:List aa}(h:rR x0=some rv):dK prog 18 [.agg (ae.enc x0)] [] (one (lL 2 rv aa.enc)) []:=by
 refine aX func18 λG=>?_
 simp only[rR,az,aq,ar,au]at h;obtain⟨r,h0,r1,h1,r2,h2,r3,h3,h4,r4,h5,r5,h6,r6,h7,h8,r7,h9,r8,dO,g_,h⟩:=h;cases h;exact gr 12 [] [cC (Kw h0),cC (EJ h1),cC (Kx h2),cC (vG h3),aO aa.enc h4,hH (.draw 13 []),cC (pJ h5),nL av.enc x0.types,cC (KA h6),cC (vG h7),aO aa.enc h8,nL aw.enc x0.ai,cC (KC h9),cC (vG dO),aO aa.enc g_,hW 5,hH (.ng 4),rp 4 (oO (Eq.refl ((((r1++r3)++r6)++r8).map aa.enc).length))]
theorem B_{x0 ai}{rv:Bool}(h:th x0 ai=some rv):dK prog 5 [.agg (ae.enc x0),.one (lI ai)] [] (one (.bool rv)) []:=by
 refine aX func5 λG=>?_
 simp only[th,az,aq,ar,au]at h;rcases h with⟨h0,r,h1,h⟩|⟨h0,h⟩
 ·cases h;exact gr 4 [] [nL aw.enc x0.ai,hP,hP,hP,rp 2 (oI ((gB (ay x0.ai) ai)=true)),nL av.enc x0.types,rp 6 hP,oI ((gB (ay x0.ai) ai)=true),oR True ((gB (ay x0.ai) ai)=true),rp 3 (oI (((gB (ay x0.ai) ai)&&(gB (ay x0.types) 2))=true)),nL bN x0.bV.bm,rp 6 hP,oI (((gB (ay x0.ai) ai)&&(gB (ay x0.types) 2))=true),oR True (((gB (ay x0.ai) ai)&&(gB (ay x0.types) 2))=true),rp 3 (oI ((((gB (ay x0.ai) ai)&&(gB (ay x0.types) 2))&&(gB (ay x0.bV.bm) 6))=true)),nL a7.enc x0.bV.eX,rp 5 hP,oI ((((gB (ay x0.ai) ai)&&(gB (ay x0.types) 2))&&(gB (ay x0.bV.bm) 6))=true),oR True ((((gB (ay x0.ai) ai)&&(gB (ay x0.types) 2))&&(gB (ay x0.bV.bm) 6))=true),rp 2 (oI (((((gB (ay x0.ai) ai)&&(gB (ay x0.types) 2))&&(gB (ay x0.bV.bm) 6))&&(gB (ay x0.bV.eX) 40))=true)),nL aW.enc x0.dx,rp 5 hP,oI (((((gB (ay x0.ai) ai)&&(gB (ay x0.types) 2))&&(gB (ay x0.bV.bm) 6))&&(gB (ay x0.bV.eX) 40))=true),oR True (((((gB (ay x0.ai) ai)&&(gB (ay x0.types) 2))&&(gB (ay x0.bV.bm) 6))&&(gB (ay x0.bV.eX) 40))=true),rp 2 (oI ((((((gB (ay x0.ai) ai)&&(gB (ay x0.types) 2))&&(gB (ay x0.bV.bm) 6))&&(gB (ay x0.bV.eX) 40))&&(gB (ay x0.dx) 4))=true)),nL aW.enc x0.before,hP,hP,oI ((((((gB (ay x0.ai) ai)&&(gB (ay x0.types) 2))&&(gB (ay x0.bV.bm) 6))&&(gB (ay x0.bV.eX) 40))&&(gB (ay x0.dx) 4))=true),oR True ((((((gB (ay x0.ai) ai)&&(gB (ay x0.types) 2))&&(gB (ay x0.bV.bm) 6))&&(gB (ay x0.bV.eX) 40))&&(gB (ay x0.dx) 4))=true),bT h0,bT h0,cC (KD h1),bT h0,nL aa.enc r,bT h0,bT h0]
 ·obtain rfl:=oK h;exact gr 4 [] [nL aw.enc x0.ai,hP,hP,hP,rp 2 (oI ((gB (ay x0.ai) ai)=true)),nL av.enc x0.types,rp 6 hP,oI ((gB (ay x0.ai) ai)=true),oR True ((gB (ay x0.ai) ai)=true),rp 3 (oI (((gB (ay x0.ai) ai)&&(gB (ay x0.types) 2))=true)),nL bN x0.bV.bm,rp 6 hP,oI (((gB (ay x0.ai) ai)&&(gB (ay x0.types) 2))=true),oR True (((gB (ay x0.ai) ai)&&(gB (ay x0.types) 2))=true),rp 3 (oI ((((gB (ay x0.ai) ai)&&(gB (ay x0.types) 2))&&(gB (ay x0.bV.bm) 6))=true)),nL a7.enc x0.bV.eX,rp 5 hP,oI ((((gB (ay x0.ai) ai)&&(gB (ay x0.types) 2))&&(gB (ay x0.bV.bm) 6))=true),oR True ((((gB (ay x0.ai) ai)&&(gB (ay x0.types) 2))&&(gB (ay x0.bV.bm) 6))=true),rp 2 (oI (((((gB (ay x0.ai) ai)&&(gB (ay x0.types) 2))&&(gB (ay x0.bV.bm) 6))&&(gB (ay x0.bV.eX) 40))=true)),nL aW.enc x0.dx,rp 5 hP,oI (((((gB (ay x0.ai) ai)&&(gB (ay x0.types) 2))&&(gB (ay x0.bV.bm) 6))&&(gB (ay x0.bV.eX) 40))=true),oR True (((((gB (ay x0.ai) ai)&&(gB (ay x0.types) 2))&&(gB (ay x0.bV.bm) 6))&&(gB (ay x0.bV.eX) 40))=true),rp 2 (oI ((((((gB (ay x0.ai) ai)&&(gB (ay x0.types) 2))&&(gB (ay x0.bV.bm) 6))&&(gB (ay x0.bV.eX) 40))&&(gB (ay x0.dx) 4))=true)),nL aW.enc x0.before,hP,hP,oI ((((((gB (ay x0.ai) ai)&&(gB (ay x0.types) 2))&&(gB (ay x0.bV.bm) 6))&&(gB (ay x0.bV.eX) 40))&&(gB (ay x0.dx) 4))=true),oR True ((((((gB (ay x0.ai) ai)&&(gB (ay x0.types) 2))&&(gB (ay x0.bV.bm) 6))&&(gB (ay x0.bV.eX) 40))&&(gB (ay x0.dx) 4))=true),rp 5 (bF h0)]
theorem MA{s0 sep}{rv:I×I×Bool}(h:tG s0 sep=some rv):dK prog 207 [.one (.str s0),.one (.str sep)] [] (.j0 [.one (.str rv.1),.one (.str rv.2.1),.one (.bool rv.2.2)]) []:=by
 refine aX func207 λG=>?_
 simp only[tG,az,aq,ar,au]at h;rcases h with⟨r,h0,⟨h1,s1,h2,s2,h3,h⟩|⟨h1,h⟩⟩
 ·cases h;exact gr 10 [] [cC (W9 h0),bT h1,hH (.draw 12 []),oO (ss1 h2),oO (ss2 h2),oO (ss3 h2),oO (ss1 h3),oO (ss2 h3),oO (ss3 h3)]
 ·cases h;exact gr 11 [] [cC (W9 h0),bF h1]
theorem JJ{s0 sep}{rv:I×I×Bool}(h:AE s0 sep=some rv):dK prog 149 [.one (.str s0),.one (.str sep)] [] (.j0 [.one (.str rv.1),.one (.str rv.2.1),.one (.bool rv.2.2)]) []:=by
 refine aX func149 λG=>?_
 simp only[AE,az,aq,ar,au]at h;obtain⟨r,h0,h⟩:=h;cases h;exact gr 4 [] [cC (MA h0)]
theorem mP{a}{rv:I×I}(h:mO a=some rv):dK prog 77 [.one (.str a)] [] (.j0 [.one (.str rv.1),.one (.str rv.2)]) []:=by
 refine aX func77 λG=>?_
 simp only[mO,az,aq,ar,au]at h;rcases h with⟨r,h0,⟨h1,h⟩|⟨h1,h⟩⟩
 ·cases h;exact gr 11 [] [cC (JJ h0),nF h1]
 ·cases h;exact gr 10 [] [cC (JJ h0),nT h1]
def Qw(rv:Bool)(cf:Cf):Prop:=Go prog f81 [] G (one (.bool rv)) [] cf
def Tc(rv:Bool)(s0:I)(b:UInt8)(v:Int):Prop:=Qw G rv ⟨[.c 116,.l 116,.b 0,.c 15],⟨31,[vS 0 s0,vI 16 (ca s0),vI 17 v],[]⟩⟩
def Q0(rv:Bool)(s0:I)(b:UInt8):Prop:=Qw G rv ⟨[.c 15],⟨31,[],[]⟩⟩
theorem Q1(rv:Bool){s0 b}:∀⦃s:Int⦄ ⦃e:(Unit)⊕(Bool)⦄,aL (λs=>qJ s0 b s) s=some e->jg e (λe=>Q0 G rv s0 b) (λe=>e=rv)->Tc G rv s0 b s:=by
 refine bz ?_
 intro v z_ h hI hE;simp only[qJ,az,aq,ar,au]at h;rcases h with⟨h3,b1,h4,⟨h5,h⟩|⟨h5,⟨h6,h⟩|⟨h6,h⟩⟩⟩|⟨h3,h⟩
 ·obtain rfl:=(hE h:_=rv);exact gr 14 [] [bT h3,yE h4,rp 5 (bT h5),tT]
 ·obtain rfl:=(hE h:_=rv);exact gr 14 [] [bT h3,yE h4,rp 3 (bF h5),yE h4,bF h5,bF h5,bT h6]
 ·exact gn 16 [0,16,17] [] [bT h3,yE h4,rp 3 (bF h5),yE h4,bF h5,bF h5,bF h6] (hI h)
 ·exact gn 5 [] [] [bF h3] (hE h)
theorem mq{s0}{rv:Bool}(h:nv s0=some rv):dK prog 81 [.one (.str s0)] [] (one (.bool rv)) []:=by
 refine aX func81 λG=>?_
 simp only[nv,az,aq,ar,au]at h;rcases h with⟨h0,h⟩|⟨h0,b,h1,⟨h2,h⟩|⟨h2,e0,h7,h⟩⟩
 ·obtain rfl:=oK h;exact gr 8 [] [rp 4 (bT h0),kF,kF,bT h0,bT h0,tT]
 ·obtain rfl:=oK h;exact gr 8 [] [bF h0,bF h0,yE h1,bF h0,bF h0,hP,hP,oI ((dk (cQ b) 48)=true),bF h0,hP,oR True ((dk (cQ b) 48)=true),bF h0,bT h2]
 ·refine gn 12 [0,16,17] [] [bF h0,bF h0,yE h1,bF h0,bF h0,hP,hP,oI ((dk (cQ b) 48)=true),bF h0,hP,oR True ((dk (cQ b) 48)=true),bF h0,bF h2] (Q1 G rv h7 ?_);rcases e0 with e0|r
  ·obtain rfl:=oK h;exact gr 2 [] []
  ·exact oK h
theorem my{s0 gp}{rv:Bool}(h:stringslite_HasPrefix s0 gp=some rv):dK prog 213 [.one (.str s0),.one (.str gp)] [] (one (.bool rv)) []:=by
 refine aX func213 λG=>?_
 simp only[stringslite_HasPrefix,az,aq,ar,au]at h;rcases h with⟨h0,s1,h1,h⟩|⟨h0,h⟩
 ·cases h;exact gr 4 [] [rp 4 (bT h0),oO (ss1 h1),oO (ss2 h1),oO (ss3 h1),rp 3 (bT h0)]
 ·obtain rfl:=oK h;exact gr 4 [] [rp 7 (bF h0)]
theorem Ea{s0 gp}{rv:I×Bool}(h:p8 s0 gp=some rv):dK prog 228 [.one (.str s0),.one (.str gp)] [] (.j0 [.one (.str rv.1),.one (.bool rv.2)]) []:=by
 refine aX func228 λG=>?_
 simp only[p8,az,aq,ar,au]at h;rcases h with⟨r,h0,⟨h1,s1,h2,h⟩|⟨h1,h⟩⟩
 ·cases h;exact gr 9 [] [cC (my h0),nF h1,oO (ss1 h2),oO (ss2 h2),oO (ss3 h2)]
 ·cases h;exact gr 8 [] [cC (my h0),nT h1]
theorem JI{s0 gp}{rv:I×Bool}(h:qP s0 gp=some rv):dK prog 180 [.one (.str s0),.one (.str gp)] [] (.j0 [.one (.str rv.1),.one (.bool rv.2)]) []:=by
 refine aX func180 λG=>?_
 simp only[qP,az,aq,ar,au]at h;obtain⟨r,h0,h⟩:=h;cases h;exact gr 4 [] [cC (Ea h0)]
theorem fT{s0}{rv:Bool×I×Bool}(h:oZ s0=some rv):dK prog 110 [.one (.str s0)] [] (.j0 [.one (.bool rv.1),.one (.str rv.2.1),.one (.bool rv.2.2)]) []:=by
 refine aX func110 λG=>?_
 simp only[oZ,az,aq,ar,au]at h;obtain⟨r,h0,r1,h1,h⟩:=h;cases h;exact gr 6 [] [cC (JI h0),cC (mq h1),rp 8 hP,oI (r1=true),oI ((r1=true)/\r.2=true),oI (r1=true),oI ((r1=true)/\r.2=true),oI (r1=true),oR True (r1=true)]
theorem si{s0}{rv:Bool}(h:xo s0=some rv):dK prog 78 [.one (.str s0)] [] (one (.bool rv)) []:=by
 refine aX func78 λG=>?_
 simp only[xo,az,aq,ar,au]at h;obtain⟨r,h0,h⟩:=h;cases h;exact gr 6 [] [cC (fT h0)]
theorem C5{s0 gp}{rv:I}(h:stringslite_TrimPrefix s0 gp=some rv):dK prog 154 [.one (.str s0),.one (.str gp)] [] (one (.str rv)) []:=by
 refine aX func154 λG=>?_
 simp only[stringslite_TrimPrefix,az,aq,ar,au]at h;rcases h with⟨r,h0,⟨h1,s1,h2,h⟩|⟨h1,h⟩⟩
 ·cases h;exact gr 8 [] [cC (my h0),bT h1,oO (ss1 h2),oO (ss2 h2),oO (ss3 h2)]
 ·obtain rfl:=oK h;exact gr 9 [] [cC (my h0),bF h1]
theorem gP{s0 gp}{rv:I}(h:strings_TrimPrefix s0 gp=some rv):dK prog 83 [.one (.str s0),.one (.str gp)] [] (one (.str rv)) []:=by
 refine aX func83 λG=>?_
 simp only[strings_TrimPrefix,az,aq,ar,au]at h;obtain⟨r,h0,h⟩:=h;obtain rfl:=oK h;exact gr 4 [] [cC (C5 h0)]
theorem jv{s0}{rv:Int}(h:sU s0=some rv):dK prog 79 [.one (.str s0)] [] (one (lI rv)) []:=by
 refine aX func79 λG=>?_
 simp only[sU,az,aq,ar,au]at h;obtain⟨r,h0,h⟩:=h;cases h;exact gr 4 [] [cC (gP h0)]
theorem PV{s0 substr}{rv:Int}(h:wo s0 substr=some rv):dK prog 150 [.one (.str s0),.one (.str substr)] [] (one (lI rv)) []:=by
 refine aX func150 λG=>?_
 simp only[wo,az,aq,ar,au]at h;obtain⟨r,h0,h⟩:=h;obtain rfl:=oK h;exact gr 4 [] [cC (W9 h0)]
theorem vQ{s0 substr}{rv:Bool}(h:iL s0 substr=some rv):dK prog 80 [.one (.str s0),.one (.str substr)] [] (one (.bool rv)) []:=by
 refine aX func80 λG=>?_
 simp only[iL,az,aq,ar,au]at h;obtain⟨r,h0,h⟩:=h;cases h;exact gr 4 [] [cC (PV h0)]
def Dk(rv:List Int)(cf:Cf):Prop:=Go prog f210 [] G (one (lL 1 rv al)) [] cf
def I5(rv a1:List Int):Prop:=Dk G rv ⟨[.c 24,.l 24,.b 0,.c 7],⟨21,[vL 0 1 a1 al],[]⟩⟩
def Hw(rv a2:List Int):Prop:=Dk G rv ⟨[.c 7],⟨21,[vL 0 1 a2 al],[]⟩⟩
theorem Hx(rv:List Int):∀⦃s:List Int⦄ ⦃e:List Int⦄,aL (λs=>pN s) s=some e->Hw G rv e->I5 G rv s:=by
 refine bz ?_
 intro a1 z_ h hI hE;simp only[pN,az,aq,ar,au]at h;rcases h with⟨h0,x0,h1,⟨h2,l,h3,h⟩|⟨h2,h⟩⟩|⟨h0,h⟩
 ·exact gn 9 [0] [] [nL al a1,rp 3 (bT h0),nL al a1,bT h0,bT h0,cE al h1,rp 3 (bT h0),bT h2,nL al a1,hH (.rows (l.map al)),oO (sl1 h3),oO (sl2 h3),oO (wL al h3),oO (QaJ (cX .i64 (ay a1) 1)),oO (wL al h3),oO (sl6 al h3)] (hI h)
 ·exact gn 5 [0] [] [nL al a1,rp 3 (bT h0),nL al a1,bT h0,bT h0,cE al h1,rp 3 (bT h0),bF h2] (hE h)
 ·exact gn 5 [0] [] [nL al a1,rp 8 (bF h0),fF] (hE h)
theorem ic{a}{rv:List Int}(h:fP a=some rv):dK prog 210 [.one (lL 1 a al)] [] (one (lL 1 rv al)) []:=by
 refine aX func210 λG=>?_
 simp only[fP,az,aq,ar,au]at h;obtain⟨a2,h4,h⟩:=h;refine gn 5 [0] [] [] (Hx G rv h4 ?_);obtain rfl:=oK h;exact gr 2 [] []
def Gn(rv:List Int)(cf:Cf):Prop:=Go prog f209 [] G (one (lL 1 rv al)) [] cf
def Ur(rv l:List Int)(s1:I)(Qig i:Int):Prop:=Gn G rv ⟨[.c 14516,.l 14516,.b 2,.c 1815,.b 1,.l 56,.b 0,.c 15],⟨38,[vS 0 s1,vO 3 0 1 l al,vI 4 (vZ 0 (cX .i64 (ca s1) 9)),vI 5 Qig,vI 6 i],[oS 1 3 l al]⟩⟩
def Tg(rv l:List Int)(s1:I)(Vo:Int):Prop:=Gn G rv ⟨[.c 1815,.b 1,.l 56,.b 0,.c 15],⟨38,[vS 0 s1,vO 3 0 1 l al,vI 4 (vZ 0 (cX .i64 (ca s1) 9)),vI 5 Vo],[oS 1 3 l al]⟩⟩
def Uq(rv l:List Int)(s1:I):Prop:=Gn G rv ⟨[.c 56,.l 56,.b 0,.c 15],⟨38,[vS 0 s1,vO 3 0 1 l al],[oS 1 3 l al]⟩⟩
def Te(rv l1:List Int):Prop:=Gn G rv ⟨[.c 15],⟨38,[vO 3 0 1 l1 al],[oS 1 3 l1 al]⟩⟩
theorem Th(rv:List Int){l s1}:∀⦃s:Int×Int⦄ ⦃e:Int⦄,aL (λs=>qK l s1 s.1 s.2) s=some e->Tg G rv l s1 e->Ur G rv l s1 s.1 s.2:=by
 refine bz ?_
 rintro⟨Qig,i⟩ z_ h hI hE;simp only[qK,az,aq,ar,au]at h;rcases h with⟨h1,b,h2,h⟩|⟨h1,h⟩
 ·exact gn 11 [0,3,4,5,6] [0] [bT h1,yE h2] (hI h)
 ·exact gn 5 [0,3,4,5] [0] [bF h1] (hE h)
theorem Tf(rv:List Int):∀⦃s:List Int×I⦄ ⦃e:List Int⦄,aL (λs=>uy s.1 s.2) s=some e->Te G rv e->Uq G rv s.1 s.2:=by
 refine bz ?_
 rintro⟨l,s1⟩ z_ h hI hE;simp only[uy,az,aq,ar,au]at h;rcases h with⟨h0,Vo,h3,h⟩|⟨h0,h⟩
 ·refine gn 15 [0,3,4,5,6] [0] [bT h0] (Th G rv h3 ?_);obtain⟨h4,s2,h5,h⟩:=h;exact gn 5 [0,3] [2] [oO (Eq.refl ([Vo].map al).length),aO al h4,oO (ss1 h5),oO (ss2 h5),oO (ss3 h5)] (hI h)
 ·exact gn 5 [3] [0] [bF h0] (hE h)
theorem Qy{s0}{rv:List Int}(h:ES s0=some rv):dK prog 209 [.one (.str s0)] [] (one (lL 1 rv al)) []:=by
 refine aX func209 λG=>?_
 simp only[ES,az,aq,ar,au]at h;obtain⟨l1,h6,h⟩:=h;refine gn 7 [0,3] [0] [hW 9,hH (.nP 3 1 3)] (Tf G rv h6 ?_);obtain⟨r,h7,h⟩:=h;obtain rfl:=oK h;exact gr 2 [] [hW 3,hH (.ng 0),rp 2 (eL l1 al),cC (ic h7)]
theorem nI{a b}{rv:List Int×List Int×Int}(h:Bv a b=some rv):dK prog 151 [.one (.str a),.one (.str b)] [] (.j0 [.one (lL 1 rv.1 al),.one (lL 1 rv.2.1 al),.one (lI rv.2.2)]) []:=by
 refine aX func151 λG=>?_
 simp only[Bv,az,aq,ar,au]at h;rcases h with⟨r,h0,⟨h1,r1,h2,⟨h3,⟨h4,h⟩|⟨h4,r2,h5,r3,h6,h⟩⟩|⟨h3,h⟩⟩|⟨h1,h⟩⟩
 ·cases h;exact gr 12 [] [cC (mq h0),nF h1,nF h1,cC (mq h2),nF h1,nF h1,nF h3,rp 4 hP,rp 2 (oI ((dt (ca a) 4096)=false)),oR True ((dt (ca a) 4096)=false),bT h4,hW 5,hH (.D1 4 0 1),hH (.D1 5 0 1)]
 ·cases h;exact gr 14 [] [cC (mq h0),nF h1,nF h1,cC (mq h2),nF h1,nF h1,nF h3,rp 4 hP,rp 2 (oI ((dt (ca a) 4096)=false)),oR True ((dt (ca a) 4096)=false),bF h4,cC (Qy h5),cC (Qy h6)]
 ·cases h;exact gr 9 [] [cC (mq h0),nF h1,nF h1,cC (mq h2),nF h1,nF h1,nT h3,hW 5,hH (.D1 4 0 1),hH (.D1 5 0 1)]
 ·cases h;exact gr 9 [] [cC (mq h0),rp 4 (nT h1),tT,hW 5,hH (.D1 4 0 1),hH (.D1 5 0 1)]
theorem fe{x0}{rv:Bool}(h:rz x0=some rv):dK prog 74 [.one (lI x0)] [] (one (.bool rv)) []:=by
 refine aX func74 λG=>?_
 simp only[rz,az,aq,ar,au]at h;cases h;exact gr 4 [] []
theorem rb{x0 y}{rv:Int}(h:gw x0 y=some rv):dK prog 29 [.one (lI x0),.one (lI y)] [] (one (lI rv)) []:=by
 refine aX func29 λG=>?_
 simp only[gw,az,aq,ar,au]at h;rcases h with⟨r,h0,r1,h1,⟨h2,⟨h3,h⟩|⟨h3,h⟩⟩|⟨h2,⟨h4,h⟩|⟨h4,⟨h5,h⟩|⟨h5,⟨h6,h⟩|⟨h6,h⟩⟩⟩⟩⟩
 ·obtain rfl:=oK h;exact gr 16 [] [cC (fe h0),cC (fe h1),bT h2,bT h3]
 ·cases h;exact gr 17 [] [cC (fe h0),cC (fe h1),bT h2,bF h3]
 ·obtain rfl:=oK h;exact gr 17 [] [cC (fe h0),cC (fe h1),bF h2,bT h4]
 ·cases h;exact gr 22 [] [cC (fe h0),cC (fe h1),bF h2,bF h4,bT h5]
 ·obtain rfl:=oK h;exact gr 27 [] [cC (fe h0),cC (fe h1),bF h2,bF h4,bF h5,bT h6]
 ·obtain rfl:=oK h;exact gr 28 [] [cC (fe h0),cC (fe h1),bF h2,bF h4,bF h5,bF h6]
def Aw(rv:Int)(cf:Cf):Prop:=Go prog f178 [] G (one (lI rv)) [] cf
def ER(rv:Int)(a b:List Int)(i:Int):Prop:=Aw G rv ⟨[.c 116,.l 116,.b 0,.c 15],⟨41,[vL 0 1 a al,vL 1 1 b al,vI 5 i],[]⟩⟩
def DZ(rv:Int)(a b:List Int):Prop:=Aw G rv ⟨[.c 15],⟨41,[],[]⟩⟩
theorem D0(rv:Int){a b}:∀⦃s:Int⦄ ⦃e:(Unit)⊕(Int)⦄,aL (λs=>lE a b s) s=some e->jg e (λe=>DZ G rv a b) (λe=>e=rv)->ER G rv a b s:=by
 refine bz ?_
 intro i z_ h hI hE;simp only[lE,az,aq,ar,au]at h;rcases h with⟨h2,x0,h3,x1,h4,⟨h5,r1,h6,h⟩|⟨h5,h⟩⟩|⟨h2,h⟩
 ·obtain rfl:=(hE h:_=rv);exact gr 12 [] [bT h2,hH (.draw 9 []),cE al h3,cE al h4,bT h5,hH (.draw 10 []),cE al h3,cE al h4,cC (rb h6)]
 ·exact gn 14 [0,1,5] [] [bT h2,hH (.draw 9 []),cE al h3,cE al h4,bF h5] (hI h)
 ·exact gn 5 [] [] [bF h2] (hE h)
theorem gO{a b}{rv:Int}(h:fI a b=some rv):dK prog 178 [.one (lL 1 a al),.one (lL 1 b al)] [] (one (lI rv)) []:=by
 refine aX func178 λG=>?_
 simp only[fI,az,aq,ar,au]at h;rcases h with⟨h0,r,h1,h⟩|⟨h0,e0,h7,h⟩
 ·obtain rfl:=oK h;exact gr 8 [] [nL al a,nL al b,bT h0,nL al a,nL al b,cC (rb h1)]
 ·refine gn 12 [0,1,5] [] [nL al a,nL al b,bF h0,nL al a] (D0 G rv h7 ?_);rcases e0 with e0|r2
  ·obtain rfl:=oK h;exact gr 2 [] []
  ·exact oK h
theorem sS{a i}{rv:Int}(h:jt a i=some rv):dK prog 177 [.one (lL 1 a al),.one (lI i)] [] (one (lI rv)) []:=by
 refine aX func177 λG=>?_
 simp only[jt,az,aq,ar,au]at h;rcases h with⟨h0,x0,h1,h⟩|⟨h0,h⟩
 ·obtain rfl:=oK h;exact gr 8 [] [nL al a,bT h0,cE al h1]
 ·obtain rfl:=oK h;exact gr 9 [] [nL al a,bF h0]
def wR(rv:List Int)(cf:Cf):Prop:=Go prog f179 [] G (one (lL 1 rv al)) [] cf
def zw(rv a b l l1:List Int)(borrow v:Int):Prop:=wR G rv ⟨[.c 244,.l 244,.b 0,.c 31],⟨38,[vL 0 1 a al,vL 1 1 b al,vO 5 0 1 l1 al,vI 6 borrow,vI 13 (ay a),vI 14 v],[oS 1 3 l1 al]⟩⟩
def yC(rv a b l l2:List Int):Prop:=wR G rv ⟨[.c 31],⟨38,[vO 5 0 1 l2 al],[oS 1 3 l2 al]⟩⟩
theorem yB(rv:List Int){a b l l1 v Bl n}{x:(List Int×Int×Int)⊕(List Int)}(h:ld a b l l1 v Bl n=some x)(hI:∀⦃s:List Int×Int×Int⦄,some (.inl s)=some x->zw G rv a b l s.1 s.2.1 s.2.2)(hE:∀⦃e:List Int⦄,some (.inr e)=some x->yC G rv a b l e):wR G rv ⟨[.c 62671,.b 1,.c 1959,.l 244,.b 0,.c 31],⟨38,[vL 0 1 a al,vL 1 1 b al,vO 5 0 1 l1 al,vI 6 Bl,vI 8 n,vI 13 (ay a),vI 14 v],[oS 1 3 l1 al]⟩⟩:=by
 simp only[ld,az,aq,ar,au]at h;obtain⟨h5,h⟩:=h;exact gn 4 [0,1,5,6,13,14] [2] [oO (Eq.refl ([n].map al).length),aO al h5] (hI h)
theorem Gk(rv:List Int){a b l}:∀⦃s:List Int×Int×Int⦄ ⦃e:List Int⦄,aL (λs=>iW a b l s.1 s.2.1 s.2.2) s=some e->yC G rv a b l e->zw G rv a b l s.1 s.2.1 s.2.2:=by
 refine bz ?_
 rintro⟨l1,borrow,v⟩ z_ h hI hE;simp only[iW,az,aq,ar,au]at h;rcases h with⟨h1,x0,h2,r,h3,⟨h4,h⟩|⟨h4,h⟩⟩|⟨h1,h⟩
 ·exact gn 20 [0,1,5,6,8,13,14] [0] [bT h1,hH (.draw 11 []),cE al h2,cC (sS h3),bT h4] (yB G rv h hI hE)
 ·exact gn 18 [0,1,5,6,8,13,14] [0] [bT h1,hH (.draw 11 []),cE al h2,cC (sS h3),bF h4] (yB G rv h hI hE)
 ·exact gn 5 [5] [0] [bF h1] (hE h)
theorem Be{a b}{rv:List Int}(h:lX a b=some rv):dK prog 179 [.one (lL 1 a al),.one (lL 1 b al)] [] (one (lL 1 rv al)) []:=by
 refine aX func179 λG=>?_
 simp only[lX,az,aq,ar,au]at h;obtain⟨l,h0,l2,h6,h⟩:=h;refine gn 11 [0,1,5,6,13,14] [0] [nL al a,hH (.cells [lI 0]),hH (.rows (l.map al)),oO (MN h0),oO (NT h0),oO (QC h0),oO (Rb h0),oO (RA al h0),nL al a] (Gk G rv h6 ?_);obtain⟨r1,h7,h⟩:=h;obtain rfl:=oK h;exact gr 2 [] [hW 3,hH (.ng 0),rp 2 (eL l2 al),cC (ic h7)]
def Co(rv:List Int)(cf:Cf):Prop:=Go prog f212 [] G (one (lL 1 rv al)) [] cf
def Hv(rv a:List Int)(k:Int)(l l1:List Int)(carry v:Int):Prop:=Co G rv ⟨[.c 244,.l 244,.b 0,.c 31],⟨37,[vI 1 k,vO 5 0 1 l1 al,vI 6 carry,vL 13 1 a al,vI 14 (ay a),vI 15 v],[oS 1 3 l1 al]⟩⟩
def Gl(rv a:List Int)(k:Int)(l l2:List Int)(vA:Int):Prop:=Co G rv ⟨[.c 31],⟨37,[vO 5 0 1 l2 al,vI 6 vA],[oS 1 3 l2 al]⟩⟩
theorem Gm(rv:List Int){a k l}:∀⦃s:List Int×Int×Int⦄ ⦃e:List Int×Int⦄,aL (λs=>iX a k l s.1 s.2.1 s.2.2) s=some e->Gl G rv a k l e.1 e.2->Hv G rv a k l s.1 s.2.1 s.2.2:=by
 refine bz ?_
 rintro⟨l1,carry,v⟩ z_ h hI hE;simp only[iX,az,aq,ar,au]at h;rcases h with⟨h1,x0,h2,h3,h⟩|⟨h1,h⟩
 ·exact gn 17 [1,5,6,13,14,15] [2] [bT h1,cE al h2,oO (oA (n:=1000000000)),oO (Eq.refl ([(wV (aV .i64 (nh .i64 x0 k) carry) 1000000000)].map al).length),aO al h3,oO (oA (n:=1000000000))] (hI h)
 ·exact gn 5 [5,6] [0] [bF h1] (hE h)
theorem vK{a k}{rv:List Int}(h:pc a k=some rv):dK prog 212 [.one (lL 1 a al),.one (lI k)] [] (one (lL 1 rv al)) []:=by
 refine aX func212 λG=>?_
 simp only[pc,az,aq,ar,au]at h;obtain⟨l,h0,⟨l2,vA⟩,h4,h⟩:=h;refine gn 11 [1,5,6,13,14,15] [0] [nL al a,hH (.cells [lI 0]),hH (.rows (l.map al)),oO (MN h0),oO (NT h0),oO (QC h0),oO (Rb h0),oO (RA al h0),nL al a] (Gm G rv h4 ?_);obtain⟨h5,r,h6,h⟩:=h;obtain rfl:=oK h;exact gr 2 [] [oO (Eq.refl ([vA].map al).length),aO al h5,hH (.ng 2),oO (Eq.refl ((l2++[vA]).map al).length),cC (ic h6)]
def Qx(rv:Int)(cf:Cf):Prop:=Go prog f211 [] G (one (lI rv)) [] cf
def Td(rv:Int)(bJ uQ:List Int)(low high:Int):Prop:=Qx G rv ⟨[.c 56,.l 56,.b 0,.c 15],⟨26,[vL 0 1 bJ al,vL 1 1 uQ al,vI 5 low,vI 6 high],[]⟩⟩
def Q7(rv:Int)(bJ uQ:List Int)(QkB:Int):Prop:=Qx G rv ⟨[.c 15],⟨26,[vI 5 QkB],[]⟩⟩
theorem Q8(rv:Int){bJ uQ}:∀⦃s:Int×Int⦄ ⦃e:Int⦄,aL (λs=>yA bJ uQ s.1 s.2) s=some e->Q7 G rv bJ uQ e->Td G rv bJ uQ s.1 s.2:=by
 refine bz ?_
 rintro⟨low,high⟩ z_ h hI hE;simp only[yA,az,aq,ar,au]at h;rcases h with⟨h0,r,h1,r1,h2,⟨h3,h⟩|⟨h3,h⟩⟩|⟨h0,h⟩
 ·exact gn 14 [0,1,5,6] [] [bT h0,oO (oA (n:=2)),cC (vK h1),cC (gO h2),bT h3] (hI h)
 ·exact gn 14 [0,1,5,6] [] [bT h0,oO (oA (n:=2)),cC (vK h1),cC (gO h2),bF h3] (hI h)
 ·exact gn 5 [5] [] [bF h0] (hE h)
theorem Xt{bJ uQ}{rv:Int}(h:EP bJ uQ=some rv):dK prog 211 [.one (lL 1 bJ al),.one (lL 1 uQ al)] [] (one (lI rv)) []:=by
 refine aX func211 λG=>?_
 simp only[EP,az,aq,ar,au]at h;obtain⟨QkB,h4,h⟩:=h;refine gn 7 [0,1,5,6] [] [] (Q8 G rv h4 ?_);obtain rfl:=oK h;exact gr 2 [] []
def NF(rv:List Int×List Int)(cf:Cf):Prop:=Go prog f152 [] G (.j0 [.one (lL 1 rv.1 al),.one (lL 1 rv.2 al)]) [] cf
def Q9(rv:List Int×List Int)(a b l l1 bJ:List Int)(i:Int):Prop:=NF G rv ⟨[.c 884,.l 884,.b 0,.c 111,.s 6],⟨54,[vL 0 1 a al,vL 1 1 b al,vO 6 0 1 l1 al,vL 7 1 bJ al,vI 8 i],[oS 1 3 l1 al]⟩⟩
def Pm(rv:List Int×List Int)(a b l l2 lz:List Int):Prop:=NF G rv ⟨[.c 111,.s 6],⟨54,[vO 6 0 1 l2 al,vL 7 1 lz al],[oS 1 3 l2 al]⟩⟩
theorem Pn(rv:List Int×List Int){a b l}:∀⦃s:List Int×List Int×Int⦄ ⦃e:List Int×List Int⦄,aL (λs=>v7 a b l s.1 s.2.1 s.2.2) s=some e->Pm G rv a b l e.1 e.2->Q9 G rv a b l s.1 s.2.1 s.2.2:=by
 refine bz ?_
 rintro⟨l1,bJ,i⟩ z_ h hI hE;simp only[v7,az,aq,ar,au]at h;rcases h with⟨h1,x0,h2,h3,r,h4,r1,h5,⟨h6,h⟩|⟨h6,⟨h7,x1,h8,h⟩|⟨h7,r2,h9,x2,dO,r3,g_,r4,iO,h⟩⟩⟩|⟨h1,h⟩
 ·exact gn 19 [0,1,6,7,8] [0] [bT h1,cE al h2,aO al h3,hH (.ng 2),oO (Eq.refl (([x0]++bJ).map al).length),cC (ic h4),cC (gO h5),bT h6] (hI h)
 ·exact gn 24 [0,1,6,7,8] [0] [bT h1,cE al h2,aO al h3,hH (.ng 2),oO (Eq.refl (([x0]++bJ).map al).length),cC (ic h4),cC (gO h5),bF h6,bT h7,oO (lp h8),oO (ln al h8),rE al h8,hH (.rows ((jq l1 i 1).map al)),hH (.Dt 0 ((jq l1 i 1).map al).length),hW 7,hH (.D1 7 0 1),oO (Tv al l1 i 1),rp 2 (oO (B8 al l1 i 1))] (hI h)
 ·exact gn 27 [0,1,6,7,8] [0] [bT h1,cE al h2,aO al h3,hH (.ng 2),oO (Eq.refl (([x0]++bJ).map al).length),cC (ic h4),cC (gO h5),bF h6,bF h7,cC (Xt h9),oO (lp dO),oO (ln al dO),rE al dO,hH (.rows ((jq l1 i r2).map al)),hH (.Dt 0 ((jq l1 i r2).map al).length),oO (Tv al l1 i r2),rp 2 (oO (B8 al l1 i r2)),oO (lp (getSet dO r2)),oO (ln al (getSet dO r2)),rE al (getSet dO r2),cC (vK g_),cC (Be iO)] (hI h)
 ·exact gn 5 [6,7] [0] [bF h1] (hE h)
theorem Lp{a b}{rv:List Int×List Int}(h:wQ a b=some rv):dK prog 152 [.one (lL 1 a al),.one (lL 1 b al)] [] (.j0 [.one (lL 1 rv.1 al),.one (lL 1 rv.2 al)]) []:=by
 refine aX func152 λG=>?_
 simp only[wQ,az,aq,ar,au]at h;obtain⟨l,h0,⟨l2,lz⟩,jD,h⟩:=h;refine gn 14 [0,1,6,7,8] [0] [nL al a,hH (.cells [lI 0]),hH (.rows (l.map al)),oO (MN h0),oO (NT h0),oO (QC h0),oO (Rb h0),oO (RA al h0),nL al a,hW 4,hH (.D1 7 0 1)] (Pn G rv jD ?_);obtain⟨r5,so,h⟩:=h;cases h;exact gr 2 [] [hW 3,hH (.ng 0),rp 2 (eL l2 al),cC (ic so)]
theorem z8{a}{rv:I×Int}(h:uz a=some rv):dK prog 153 [.one (lL 1 a al)] [] (.j0 [.one (.str rv.1),.one (lI rv.2)]) []:=by
 refine aX func153 λG=>?_
 simp only[uz,az,aq,ar,au]at h;rcases h with⟨r,h0,⟨h1,h⟩|⟨h1,h⟩⟩
 ·cases h;exact gr 10 [] [cC (J7 h0),bT h1]
 ·cases h;exact gr 11 [] [cC (J7 h0),bF h1]
def VC(rv:I×Int)(cf:Cf):Prop:=Go prog f82 [] G (.j0 [.one (.str rv.1),.one (lI rv.2)]) [] cf
def Xq(rv:I×Int)(b:I)(x0 y:List Int):Prop:=VC G rv ⟨[.c 120,.l 120,.b 0,.c 31],⟨36,[vL 6 1 x0 al,vL 7 1 y al],[]⟩⟩
def Uk(rv:I×Int)(b:I)(x1:List Int):Prop:=VC G rv ⟨[.c 31],⟨36,[vL 6 1 x1 al],[]⟩⟩
theorem Ul(rv:I×Int){b}:∀⦃s:List Int×List Int⦄ ⦃e:List Int⦄,aL (λs=>wO b s.1 s.2) s=some e->Uk G rv b e->Xq G rv b s.1 s.2:=by
 refine bz ?_
 rintro⟨x0,y⟩ z_ h hI hE;simp only[wO,az,aq,ar,au]at h;rcases h with⟨h2,r1,h3,h⟩|⟨h2,h⟩
 ·exact gn 11 [6,7] [] [nL al y,bT h2,cC (Lp h3)] (hI h)
 ·exact gn 5 [6] [] [nL al y,bF h2] (hE h)
theorem zR{a b}{rv:I×Int}(h:Gj a b=some rv):dK prog 82 [.one (.str a),.one (.str b)] [] (.j0 [.one (.str rv.1),.one (lI rv.2)]) []:=by
 refine aX func82 λG=>?_
 simp only[Gj,az,aq,ar,au]at h;rcases h with⟨r,h0,⟨h1,h⟩|⟨h1,x1,h4,h⟩⟩
 ·cases h;exact gr 10 [] [cC (nI h0),bT h1]
 ·refine gn 12 [6,7] [] [cC (nI h0),bF h1] (Ul G rv h4 ?_);obtain⟨r2,h5,h⟩:=h;cases h;exact gr 2 [] [cC (z8 h5)]
theorem kB{a}{rv:Bool}(h:oN a=some rv):dK prog 32 [.one (.str a)] [] (one (.bool rv)) []:=by
 refine aX func32 λG=>?_
 simp only[oN,az,aq,ar,au]at h;rcases h with⟨r,h0,r1,h1,⟨h2,r2,h3,⟨h4,h⟩|⟨h4,r3,h5,⟨h6,h⟩|⟨h6,r4,h7,⟨h8,r5,h9,⟨dO,h⟩|⟨dO,r6,g_,r7,iO,h⟩⟩|⟨h8,h⟩⟩⟩⟩|⟨h2,h⟩⟩
 ·obtain rfl:=oK h;exact gr 10 [] [cC (mP h0),cC (si h1),nF h2,nF h2,cC (jv h3),nF h2,nF h2,rp 4 (bT h4),tT]
 ·obtain rfl:=oK h;exact gr 10 [] [cC (mP h0),cC (si h1),nF h2,nF h2,cC (jv h3),nF h2,nF h2,bF h4,bF h4,cC (jv h5),bF h4,bF h4,bT h6]
 ·obtain rfl:=oK h;exact gr 20 [] [cC (mP h0),cC (si h1),nF h2,nF h2,cC (jv h3),nF h2,nF h2,bF h4,bF h4,cC (jv h5),bF h4,bF h4,bF h6,cC (vQ h7),nF h8,cC (mq h9),rp 9 hP,oI ((!r5)=false),oR True ((!r5)=false),oI (((!r5)||(qe r.2 bZ))=false),oR True (((!r5)||(qe r.2 bZ))=false),oI ((((!r5)||(qe r.2 bZ))||(qe r.2 od))=false),oR True ((((!r5)||(qe r.2 bZ))||(qe r.2 od))=false),bT dO]
 ·cases h;exact gr 23 [] [cC (mP h0),cC (si h1),nF h2,nF h2,cC (jv h3),nF h2,nF h2,bF h4,bF h4,cC (jv h5),bF h4,bF h4,bF h6,cC (vQ h7),nF h8,cC (mq h9),rp 9 hP,oI ((!r5)=false),oR True ((!r5)=false),oI (((!r5)||(qe r.2 bZ))=false),oR True (((!r5)||(qe r.2 bZ))=false),oI ((((!r5)||(qe r.2 bZ))||(qe r.2 od))=false),oR True ((((!r5)||(qe r.2 bZ))||(qe r.2 od))=false),bF dO,cC (gP g_),cC (zR iO),hP,hP,hP,oI ((dk r7.2 0)=true),oR True ((dk r7.2 0)=true)]
 ·obtain rfl:=oK h;exact gr 15 [] [cC (mP h0),cC (si h1),nF h2,nF h2,cC (jv h3),nF h2,nF h2,bF h4,bF h4,cC (jv h5),bF h4,bF h4,bF h6,cC (vQ h7),nT h8]
 ·obtain rfl:=oK h;exact gr 10 [] [cC (mP h0),cC (si h1),rp 4 (nT h2),rp 5 tT]
theorem jw{a b}{rv:I×I×I×I×Int}(h:zV a b=some rv):dK prog 45 [.one (.str a),.one (.str b)] [] (.j0 [.one (.str rv.1),.one (.str rv.2.1),.one (.str rv.2.2.1),.one (.str rv.2.2.2.1),.one (lI rv.2.2.2.2)]) []:=by
 refine aX func45 λG=>?_
 simp only[zV,az,aq,ar,au]at h;rcases h with⟨r,h0,⟨h1,r1,h2,⟨h3,r2,h4,r3,h5,h⟩|⟨h3,h⟩⟩|⟨h1,h⟩⟩
 ·cases h;exact gr 13 [] [cC (kB h0),nF h1,nF h1,cC (kB h2),nF h1,nF h1,nF h3,cC (mP h4),cC (mP h5)]
 ·cases h;exact gr 8 [] [cC (kB h0),nF h1,nF h1,cC (kB h2),nF h1,nF h1,nT h3]
 ·cases h;exact gr 8 [] [cC (kB h0),rp 4 (nT h1),tT]
def Bz(rv:List aG×Int)(cf:Cf):Prop:=Go prog f104 [] G (.j0 [.one (lL 2 rv.1 aG.enc),.one (lI rv.2)]) [] cf
def Ru(rv:List aG×Int)(l:List I)(l1:List aG)(v:Int):Prop:=Bz G rv ⟨[.c 116,.l 116,.b 0,.c 15],⟨45,[vO 4 0 2 l1 aG.enc,vL 12 1 l bN,vI 13 (ay l),vI 14 v],[oS 2 188 l1 aG.enc]⟩⟩
def P2(rv:List aG×Int)(l:List I)(l2:List aG):Prop:=Bz G rv ⟨[.c 15],⟨45,[vO 4 0 2 l2 aG.enc],[oS 2 188 l2 aG.enc]⟩⟩
def Rv(rv:List aG×Int)(l:List I)(l2:List aG)(v1:Int):Prop:=Bz G rv ⟨[.c 244,.l 244,.b 2,.c 31],⟨45,[vO 4 0 2 l2 aG.enc,vO 33 0 2 l2 aG.enc,vI 34 (ay l2),vI 35 v1],[oS 2 188 l2 aG.enc]⟩⟩
def P_(rv:List aG×Int)(l:List I)(l2:List aG):Prop:=Bz G rv ⟨[.c 31],⟨45,[vO 4 0 2 l2 aG.enc],[oS 2 188 l2 aG.enc]⟩⟩
theorem P9(rv:List aG×Int){l}:∀⦃s:List aG×Int⦄ ⦃e:(List aG)⊕(List aG×Int)⦄,aL (λs=>mz l s.1 s.2) s=some e->jg e (λe=>P2 G rv l e) (λe=>e=rv)->Ru G rv l s.1 s.2:=by
 refine bz ?_
 rintro⟨l1,v⟩ z_ h hI hE;simp only[mz,az,aq,ar,au]at h;rcases h with⟨h0,x0,h1,r,h2,⟨h3,h4,h⟩|⟨h3,h⟩⟩|⟨h0,h⟩
 ·exact gn 20 [4,12,13,14] [2] [bT h0,cE bN h1,cC (fT h2),nF h3,oO (Eq.refl ([(aG.mk r.1 r.2.1)].map aG.enc).length),aO aG.enc h4] (hI h)
 ·obtain rfl:=(hE h:_=rv);exact gr 17 [] [bT h0,cE bN h1,cC (fT h2),nT h3,hW 4,hH (.D1 2 0 2)]
 ·exact gn 5 [4] [0] [bF h0] (hE h)
theorem Qa(rv:List aG×Int){l l2}:∀⦃s:Int⦄ ⦃e:(Unit)⊕(List aG×Int)⦄,aL (λs=>o4 l l2 s) s=some e->jg e (λe=>P_ G rv l l2) (λe=>e=rv)->Rv G rv l l2 s:=by
 refine bz ?_
 intro v1 z_ h hI hE;simp only[o4,az,aq,ar,au]at h;rcases h with⟨h6,x1,h7,⟨h8,h⟩|⟨h8,h⟩⟩|⟨h6,h⟩
 ·obtain rfl:=(hE h:_=rv);exact gr 14 [] [bT h6,oO (lp h7),oO (ln aG.enc h7),rE aG.enc h7,bT h8,hW 4,hH (.D1 2 0 2)]
 ·exact gn 16 [4,33,34,35] [0] [bT h6,oO (lp h7),oO (ln aG.enc h7),rE aG.enc h7,bF h8] (hI h)
 ·exact gn 5 [4] [0] [bF h6] (hE h)
theorem gz{l}{rv:List aG×Int}(h:uM l=some rv):dK prog 104 [.one (lL 1 l bN)] [] (.j0 [.one (lL 2 rv.1 aG.enc),.one (lI rv.2)]) []:=by
 refine aX func104 λG=>?_
 simp only[uM,az,aq,ar,au]at h;obtain⟨e0,h5,h⟩:=h;refine gn 9 [4,12,13,14] [0] [nL bN l,hW 3,hH (.nP 4 2 188)] (P9 G rv h5 ?_);rcases e0 with l2|r2
 ·simp only[c5,az,aq,ar,au]at h;obtain⟨e1,h9,h⟩:=h;refine gn 5 [4,33,34,35] [0] [nL aG.enc l2] (Qa G rv h9 ?_);rcases e1 with e1|r1
  ·cases h;exact gr 2 [] [hW 5,hH (.ng 0),rp 3 (eL l2 aG.enc)]
  ·exact oK h
 ·exact oK h
theorem uL{n}{rv:I}(h:gV n=some rv):dK prog 109 [.agg (aG.enc n)] [] (one (.str rv)) []:=by
 refine aX func109 λG=>?_
 simp only[gV,az,aq,ar,au]at h;rcases h with⟨h0,h1,h⟩|⟨h0,h⟩
 ·cases h;exact gr 8 [] [rp 4 hP,rp 2 (oI (n.mN=true)),oR True (n.mN=true),bT h0,oO (h1)]
 ·cases h;exact gr 9 [] [rp 4 hP,rp 2 (oI (n.mN=true)),oR True (n.mN=true),bF h0]
theorem ta{n e0}{rv:I×Int}(h:eW n e0=some rv):dK prog 175 [.agg (aG.enc n),.one (lI e0)] [] (.j0 [.one (.str rv.1),.one (lI rv.2)]) []:=by
 refine aX func175 λG=>?_
 simp only[eW,az,aq,ar,au]at h;rcases h with⟨h0,h⟩|⟨h0,r,h1,h⟩
 ·cases h;exact gr 8 [] [bT h0]
 ·cases h;exact gr 9 [] [bF h0,cC (uL h1)]
def J_(rv:I×Int)(cf:Cf):Prop:=Go prog f224 [] G (.j0 [.one (.str rv.1),.one (lI rv.2)]) [] cf
def Xs(rv:I×Int)(b:I)(r:List Int×List Int×Int)(l:List Int)(v x0:Int)(l2:List Int)(carry v1:Int):Prop:=J_ G rv ⟨[.c 512820,.l 512820,.b 2,.c 64103,.b 1,.c 4007,.l 500,.b 0,.c 63],⟨84,[vL 7 1 r.2.1 al,vO 9 0 1 l2 al,vI 10 v,vI 11 x0,vI 12 carry,vL 32 1 r.1 al,vI 33 (ay r.1),vI 34 v,vL 39 1 r.2.1 al,vI 40 (ay r.2.1),vI 41 v1],[oS 1 3 l2 al]⟩⟩
def Uo(rv:I×Int)(b:I)(r:List Int×List Int×Int)(l:List Int)(v x0:Int)(l3:List Int)(vA:Int):Prop:=J_ G rv ⟨[.c 64103,.b 1,.c 4007,.l 500,.b 0,.c 63],⟨84,[vL 7 1 r.2.1 al,vO 9 0 1 l3 al,vI 10 v,vI 12 vA,vL 32 1 r.1 al,vI 33 (ay r.1),vI 34 v],[oS 1 3 l3 al]⟩⟩
def Xr(rv:I×Int)(b:I)(r:List Int×List Int×Int)(l l1:List Int)(v:Int):Prop:=J_ G rv ⟨[.c 500,.l 500,.b 0,.c 63],⟨84,[vL 7 1 r.2.1 al,vO 9 0 1 l1 al,vL 32 1 r.1 al,vI 33 (ay r.1),vI 34 v],[oS 1 3 l1 al]⟩⟩
def Um(rv:I×Int)(b:I)(r:List Int×List Int×Int)(l l4:List Int):Prop:=J_ G rv ⟨[.c 63],⟨84,[vO 9 0 1 l4 al],[oS 1 3 l4 al]⟩⟩
theorem Up(rv:I×Int){b r l v x0}:∀⦃s:List Int×Int×Int⦄ ⦃e:List Int×Int⦄,aL (λs=>wP b r l v x0 s.1 s.2.1 s.2.2) s=some e->Uo G rv b r l v x0 e.1 e.2->Xs G rv b r l v x0 s.1 s.2.1 s.2.2:=by
 refine bz ?_
 rintro⟨l2,carry,v1⟩ z_ h hI hE;simp only[wP,az,aq,ar,au]at h;rcases h with⟨h5,x1,h6,x2,h7,h⟩|⟨h5,h⟩
 ·exact gn 17 [7,9,10,11,12,32,33,34,39,40,41] [0] [bT h5,cE al h6,oO (lp h7),oO (ln al h7),rE al h7,oO (oA (n:=1000000000)),oO (lp h7),oO (ln al h7),rE al h7,hH (.rows ((jq l2 (aV .i64 v v1) (wV (aV .i64 (aV .i64 x2 (nh .i64 x0 x1)) carry) 1000000000)).map al)),hH (.Dt 0 ((jq l2 (aV .i64 v v1) (wV (aV .i64 (aV .i64 x2 (nh .i64 x0 x1)) carry) 1000000000)).map al).length),oO (Tv al l2 (aV .i64 v v1) (wV (aV .i64 (aV .i64 x2 (nh .i64 x0 x1)) carry) 1000000000)),rp 3 (oO (B8 al l2 (aV .i64 v v1) (wV (aV .i64 (aV .i64 x2 (nh .i64 x0 x1)) carry) 1000000000))),oO (oA (n:=1000000000))] (hI h)
 ·exact gn 5 [7,9,10,12,32,33,34] [0] [bF h5] (hE h)
theorem Un(rv:I×Int){b r l}:∀⦃s:List Int×Int⦄ ⦃e:List Int⦄,aL (λs=>ux b r l s.1 s.2) s=some e->Um G rv b r l e->Xr G rv b r l s.1 s.2:=by
 refine bz ?_
 rintro⟨l1,v⟩ z_ h hI hE;simp only[ux,az,aq,ar,au]at h;rcases h with⟨h3,x0,h4,⟨l3,vA⟩,h8,h⟩|⟨h3,h⟩
 ·refine gn 16 [7,9,10,11,12,32,33,34,39,40,41] [0] [bT h3,cE al h4,nL al r.2.1] (Up G rv h8 ?_);obtain⟨x3,h9,h⟩:=h;exact gn 4 [7,9,32,33,34] [0] [nL al r.2.1,oO (lp h9),oO (ln al h9),rE al h9,oO (lp h9),oO (ln al h9),rE al h9,hH (.rows ((jq l3 (aV .i64 v (ay r.2.1)) (aV .i64 x3 vA)).map al)),hH (.Dt 0 ((jq l3 (aV .i64 v (ay r.2.1)) (aV .i64 x3 vA)).map al).length),oO (Tv al l3 (aV .i64 v (ay r.2.1)) (aV .i64 x3 vA)),rp 2 (oO (B8 al l3 (aV .i64 v (ay r.2.1)) (aV .i64 x3 vA)))] (hI h)
 ·exact gn 5 [9] [0] [bF h3] (hE h)
theorem Qb1{a b}{rv:I×Int}(h:J9 a b=some rv):dK prog 224 [.one (.str a),.one (.str b)] [] (.j0 [.one (.str rv.1),.one (lI rv.2)]) []:=by
 refine aX func224 λG=>?_
 simp only[J9,az,aq,ar,au]at h;rcases h with⟨r,h0,⟨h1,h⟩|⟨h1,l,h2,l4,dO,h⟩⟩
 ·cases h;exact gr 10 [] [cC (nI h0),bT h1]
 ·refine gn 16 [7,9,32,33,34] [0] [cC (nI h0),bF h1,nL al r.1,nL al r.2.1,hH (.cells [lI 0]),hH (.rows (l.map al)),oO (MN h2),oO (NT h2),oO (QC h2),oO (Rb h2),oO (RA al h2),nL al r.1] (Un G rv dO ?_);obtain⟨r1,g_,r2,iO,h⟩:=h;cases h;exact gr 2 [] [hW 3,hH (.ng 0),rp 2 (eL l4 al),cC (ic g_),cC (z8 iO)]
theorem Oz{a b}{rv:I×Int}(h:nz a b=some rv):dK prog 174 [.one (.str a),.one (.str b)] [] (.j0 [.one (.str rv.1),.one (lI rv.2)]) []:=by
 refine aX func174 λG=>?_
 simp only[nz,az,aq,ar,au]at h;rcases h with⟨r,h0,⟨h1,h⟩|⟨h1,x0,h2,x1,h3,r1,h4,r2,h5,h⟩⟩
 ·cases h;exact gr 10 [] [hW 9,hH (.ng 0),oO (Eq.refl ([a,b].map bN).length),cC (gz h0),bT h1]
 ·cases h;exact gr 13 [] [hW 9,hH (.ng 0),oO (Eq.refl ([a,b].map bN).length),cC (gz h0),bF h1,hH (.draw 14 []),cE aG.enc h2,cE aG.enc h3,cC (Qb1 h4),hH (.draw 17 []),cE aG.enc h2,cE aG.enc h3,cC (ta h5)]
def EY(rv:List I×Int)(cf:Cf):Prop:=Go prog f102 [] G (.j0 [.one (lL 1 rv.1 bN),.one (lI rv.2)]) [] cf
def KF(rv:List I×Int)(zy:List bj)(l l1:List I)(v:Int):Prop:=EY G rv ⟨[.c 116,.l 116,.b 0,.c 15],⟨35,[vO 4 0 1 l1 bN,vL 12 2 zy bj.enc,vI 13 (ay zy),vI 14 v],[oS 1 9 l1 bN]⟩⟩
def Jf(rv:List I×Int)(zy:List bj)(l l2:List I):Prop:=EY G rv ⟨[.c 15],⟨35,[vO 4 0 1 l2 bN],[oS 1 9 l2 bN]⟩⟩
theorem Jg(rv:List I×Int){zy l}:∀⦃s:List I×Int⦄ ⦃e:(List I)⊕(List I×Int)⦄,aL (λs=>dy zy l s.1 s.2) s=some e->jg e (λe=>Jf G rv zy l e) (λe=>e=rv)->KF G rv zy l s.1 s.2:=by
 refine bz ?_
 rintro⟨l1,v⟩ z_ h hI hE;simp only[dy,az,aq,ar,au]at h;rcases h with⟨h1,x0,h2,r,h3,⟨h4,h⟩|⟨h4,h5,h⟩⟩|⟨h1,h⟩
 ·obtain rfl:=(hE h:_=rv);exact gr 17 [] [bT h1,cE bj.enc h2,oO (zL 0),oO (lT 0 2),oO (zL 1),oO (lT 1 2),cC (Oz h3),bT h4,hW 5,hH (.D1 2 0 1)]
 ·exact gn 20 [4,12,13,14] [3] [bT h1,cE bj.enc h2,oO (zL 0),oO (lT 0 2),oO (zL 1),oO (lT 1 2),cC (Oz h3),bF h4,oO (Eq.refl ([r.1].map bN).length),aO bN h5] (hI h)
 ·exact gn 5 [4] [0] [bF h1] (hE h)
theorem ff{zy}{rv:List I×Int}(h:fz zy=some rv):dK prog 102 [.one (lL 2 zy bj.enc)] [] (.j0 [.one (lL 1 rv.1 bN),.one (lI rv.2)]) []:=by
 refine aX func102 λG=>?_
 simp only[fz,az,aq,ar,au]at h;obtain⟨l,h0,e0,h6,h⟩:=h;refine gn 9 [4,12,13,14] [0] [nL bj.enc zy,hH (.cells [.str ByteArray.empty]),hH (.rows (l.map bN)),oO (MN h0),oO (NT h0),oO (QC h0),oO (Rb h0),oO (RA bN h0),nL bj.enc zy] (Jg G rv h6 ?_);rcases e0 with l2|r1
 ·cases h;exact gr 2 [] [hW 5,hH (.ng 0),rp 3 (eL l2 bN)]
 ·exact oK h
theorem Cn{a b}{rv:I×I×Int}(h:J8 a b=some rv):dK prog 106 [.one (.str a),.one (.str b)] [] (.j0 [.one (.str rv.1),.one (.str rv.2.1),.one (lI rv.2.2)]) []:=by
 refine aX func106 λG=>?_
 simp only[J8,az,aq,ar,au]at h;rcases h with⟨r,h0,⟨h1,h⟩|⟨h1,⟨h2,h⟩|⟨h2,r1,h3,r2,h4,r3,h5,h⟩⟩⟩
 ·cases h;exact gr 10 [] [cC (nI h0),bT h1]
 ·cases h;exact gr 15 [] [cC (nI h0),bF h1,nL al r.2.1,bT h2]
 ·cases h;exact gr 18 [] [cC (nI h0),bF h1,nL al r.2.1,bF h2,cC (Lp h3),cC (J7 h4),cC (J7 h5)]
def VB(rv:I×Int)(cf:Cf):Prop:=Go prog f107 [] G (.j0 [.one (.str rv.1),.one (lI rv.2)]) [] cf
def Xp(rv:I×Int)(b:I)(r:List Int×List Int×Int)(l:List Int)(carry i:Int):Prop:=VB G rv ⟨[.c 1012,.l 1012,.b 0,.c 127],⟨56,[vL 6 1 r.1 al,vL 7 1 r.2.1 al,vO 9 0 1 l al,vI 10 carry,vI 11 i],[oS 1 3 l al]⟩⟩
def Ui(rv:I×Int)(b:I)(r:List Int×List Int×Int)(l1:List Int):Prop:=VB G rv ⟨[.c 127],⟨56,[vO 9 0 1 l1 al],[oS 1 3 l1 al]⟩⟩
theorem Uj(rv:I×Int){b r}:∀⦃s:List Int×Int×Int⦄ ⦃e:List Int⦄,aL (λs=>zQ b r s.1 s.2.1 s.2.2) s=some e->Ui G rv b r e->Xp G rv b r s.1 s.2.1 s.2.2:=by
 refine bz ?_
 rintro⟨l,carry,i⟩ z_ h hI hE;simp only[zQ,az,aq,ar,au]at h;rcases h with⟨h2,r1,h3,r2,h4,h5,h⟩|⟨h2,h⟩
 ·exact gn 15 [6,7,9,10,11] [2] [nL al r.1,nL al r.2.1,hP,hP,hP,oI ((bh i (vZ (ay r.1) (ay r.2.1)))=false),oR True ((bh i (vZ (ay r.1) (ay r.2.1)))=false),bT h2,cC (sS h3),cC (sS h4),oO (oA (n:=1000000000)),oO (Eq.refl ([(wV (aV .i64 (aV .i64 r1 r2) carry) 1000000000)].map al).length),aO al h5,oO (oA (n:=1000000000))] (hI h)
 ·exact gn 5 [9] [0] [nL al r.1,nL al r.2.1,hP,hP,hP,oI ((bh i (vZ (ay r.1) (ay r.2.1)))=false),oR True ((bh i (vZ (ay r.1) (ay r.2.1)))=false),bF h2] (hE h)
theorem Gi{a b}{rv:I×Int}(h:Bu a b=some rv):dK prog 107 [.one (.str a),.one (.str b)] [] (.j0 [.one (.str rv.1),.one (lI rv.2)]) []:=by
 refine aX func107 λG=>?_
 simp only[Bu,az,aq,ar,au]at h;rcases h with⟨r,h0,⟨h1,h⟩|⟨h1,l1,h6,h⟩⟩
 ·cases h;exact gr 10 [] [cC (nI h0),bT h1]
 ·refine gn 18 [6,7,9,10,11] [0] [cC (nI h0),bF h1,hW 13,hH (.nP 9 1 3)] (Uj G rv h6 ?_);obtain⟨r3,h7,h⟩:=h;cases h;exact gr 2 [] [eL l1 al,cC (z8 h7)]
theorem LX{a b}{rv:I×Int}(h:Dj a b=some rv):dK prog 108 [.one (.str a),.one (.str b)] [] (.j0 [.one (.str rv.1),.one (lI rv.2)]) []:=by
 refine aX func108 λG=>?_
 simp only[Dj,az,aq,ar,au]at h;rcases h with⟨r,h0,⟨h1,h⟩|⟨h1,r1,h2,⟨h3,h⟩|⟨h3,r2,h4,r3,h5,h⟩⟩⟩
 ·cases h;exact gr 10 [] [cC (nI h0),bT h1]
 ·cases h;exact gr 15 [] [cC (nI h0),bF h1,cC (gO h2),bT h3]
 ·cases h;exact gr 16 [] [cC (nI h0),bF h1,cC (gO h2),bF h3,cC (Be h4),cC (z8 h5)]
def Qar(rv:I×I×Int)(cf:Cf):Prop:=Go prog f46 [] G (.j0 [.one (.str rv.1),.one (.str rv.2.1),.one (lI rv.2.2)]) [] cf
theorem GS(rv:I×I×Int){x0 x1 q r4}(h:qR x0 x1 q r4=some rv):Qar G rv ⟨[.c 511],⟨84,[vP 9 0 2,vP 10 1 2,vS 11 q,vS 12 r4],[oX 2 188 (aG.enc x0),oX 2 188 (aG.enc x1)]⟩⟩:=by
 simp only[qR,az,aq,ar,au]at h;obtain⟨r5,iO,r6,jD,h⟩:=h;cases h;exact gr 2 [] [hH (.draw 16 []),cC (uL iO),cC (uL jD)]
theorem fE{a b}{rv:I×I×Int}(h:tQ a b=some rv):dK prog 46 [.one (.str a),.one (.str b)] [] (.j0 [.one (.str rv.1),.one (.str rv.2.1),.one (lI rv.2.2)]) []:=by
 refine aX func46 λG=>?_
 simp only[tQ,az,aq,ar,au]at h;rcases h with⟨r,h0,⟨h1,h⟩|⟨h1,x0,h2,x1,h3,⟨h4,h⟩|⟨h4,r1,h5,⟨h6,h⟩|⟨h6,⟨h7,r2,h8,⟨h9,h⟩|⟨h9,r3,dO,⟨g_,h⟩|⟨g_,h⟩⟩⟩|⟨h7,h⟩⟩⟩⟩⟩
 ·cases h;exact gr 10 [] [hW 10,hH (.ng 0),oO (Eq.refl ([a,b].map bN).length),cC (gz h0),bT h1]
 ·cases h;exact gr 17 [] [hW 10,hH (.ng 0),oO (Eq.refl ([a,b].map bN).length),cC (gz h0),bF h1,hH (.draw 10 [(1,8),(2,9)]),cE aG.enc h2,cE aG.enc h3,bT h4]
 ·cases h;exact gr 24 [] [hW 10,hH (.ng 0),oO (Eq.refl ([a,b].map bN).length),cC (gz h0),bF h1,hH (.draw 10 [(1,8),(2,9)]),cE aG.enc h2,cE aG.enc h3,bF h4,cC (Cn h5),bT h6]
 ·cases h;exact gr 35 [] [hW 10,hH (.ng 0),oO (Eq.refl ([a,b].map bN).length),cC (gz h0),bF h1,hH (.draw 10 [(1,8),(2,9)]),cE aG.enc h2,cE aG.enc h3,bF h4,cC (Cn h5),bF h6,hP,hP,hP,oI ((!GL x0.mN x1.mN)=true),oR True ((!GL x0.mN x1.mN)=true),bT h7,cC (Gi h8),bT h9]
 ·cases h;exact gr 41 [] [hW 10,hH (.ng 0),oO (Eq.refl ([a,b].map bN).length),cC (gz h0),bF h1,hH (.draw 10 [(1,8),(2,9)]),cE aG.enc h2,cE aG.enc h3,bF h4,cC (Cn h5),bF h6,hP,hP,hP,oI ((!GL x0.mN x1.mN)=true),oR True ((!GL x0.mN x1.mN)=true),bT h7,cC (Gi h8),bF h9,cC (LX dO),bT g_]
 ·exact gn 40 [9,10,11,12] [1,2] [hW 10,hH (.ng 0),oO (Eq.refl ([a,b].map bN).length),cC (gz h0),bF h1,hH (.draw 10 [(1,8),(2,9)]),cE aG.enc h2,cE aG.enc h3,bF h4,cC (Cn h5),bF h6,hP,hP,hP,oI ((!GL x0.mN x1.mN)=true),oR True ((!GL x0.mN x1.mN)=true),bT h7,cC (Gi h8),bF h9,cC (LX dO),bF g_] (GS G rv h)
 ·exact gn 28 [9,10,11,12] [1,2] [hW 10,hH (.ng 0),oO (Eq.refl ([a,b].map bN).length),cC (gz h0),bF h1,hH (.draw 10 [(1,8),(2,9)]),cE aG.enc h2,cE aG.enc h3,bF h4,cC (Cn h5),bF h6,hP,hP,hP,oI ((!GL x0.mN x1.mN)=true),oR True ((!GL x0.mN x1.mN)=true),bF h7] (GS G rv h)
theorem GP{p q}{rv:I×Int}(h:u0 p q=some rv):dK prog 103 [.one (.str p),.one (.str q)] [] (.j0 [.one (.str rv.1),.one (lI rv.2)]) []:=by
 refine aX func103 λG=>?_
 simp only[u0,az,aq,ar,au]at h;rcases h with⟨r,h0,r1,h1,⟨h2,h⟩|⟨h2,r2,h3,⟨h4,h⟩|⟨h4,r3,h5,⟨h6,h⟩|⟨h6,⟨h7,h⟩|⟨h7,h8,h9,h⟩⟩⟩⟩⟩
 ·cases h;exact gr 10 [] [cC (gP h0),cC (zR h1),bT h2]
 ·cases h;exact gr 17 [] [cC (gP h0),cC (zR h1),bF h2,cC (fE h3),bT h4]
 ·cases h;exact gr 24 [] [cC (gP h0),cC (zR h1),bF h2,cC (fE h3),bF h4,cC (fE h5),bT h6]
 ·cases h;exact gr 29 [] [cC (gP h0),cC (zR h1),bF h2,cC (fE h3),bF h4,cC (fE h5),bF h6,bT h7]
 ·cases h;exact gr 30 [] [cC (gP h0),cC (zR h1),bF h2,cC (fE h3),bF h4,cC (fE h5),bF h6,bF h7,oO (h8),oO (h9)]
theorem ve{a b}{rv:Int}(h:kf a b=some rv):dK prog 111 [.one (.str a),.one (.str b)] [] (one (lI rv)) []:=by
 refine aX func111 λG=>?_
 simp only[kf,az,aq,ar,au]at h;rcases h with⟨h0,⟨h1,h⟩|⟨h1,h⟩⟩|⟨h0,r,h2,h⟩
 ·cases h;exact gr 12 [] [bT h0,bT h1]
 ·obtain rfl:=oK h;exact gr 13 [] [bT h0,bF h1]
 ·obtain rfl:=oK h;exact gr 9 [] [bF h0,cC (QjX h2)]
def Qat(rv:I×Int)(cf:Cf):Prop:=Go prog f105 [] G (.j0 [.one (.str rv.1),.one (lI rv.2)]) [] cf
theorem GU(rv:I×Int){x0 x1}(h:vf x0 x1=some rv):Qat G rv ⟨[.c 15],⟨55,[vP 2 0 2,vP 3 1 2],[oX 2 188 (aG.enc x0),oX 2 188 (aG.enc x1)]⟩⟩:=by
 simp only[vf,az,aq,ar,au]at h;obtain⟨r3,h5,r4,h6,h⟩:=h;cases h;exact gr 4 [] [cC (LX h5),cC (ta h6)]
theorem OB{a b}{rv:I×Int}(h:xp a b=some rv):dK prog 105 [.agg (aG.enc a),.agg (aG.enc b)] [] (.j0 [.one (.str rv.1),.one (lI rv.2)]) []:=by
 refine aX func105 λG=>?_
 simp only[xp,az,aq,ar,au]at h;rcases h with⟨h0,r,h1,r1,h2,h⟩|⟨h0,r2,h3,⟨h4,h⟩|⟨h4,h⟩⟩
 ·cases h;exact gr 10 [] [bT h0,cC (Gi h1),cC (ta h2)]
 ·exact gn 12 [2,3] [0,1] [bF h0,cC (ve h3),bT h4] (GU G rv h)
 ·exact gn 12 [2,3] [0,1] [bF h0,cC (ve h3),bF h4] (GU G rv h)
theorem GD{a b}{rv:I×Int}(h:Fg a b=some rv):dK prog 64 [.one (.str a),.one (.str b)] [] (.j0 [.one (.str rv.1),.one (lI rv.2)]) []:=by
 refine aX func64 λG=>?_
 simp only[Fg,az,aq,ar,au]at h;rcases h with⟨r,h0,⟨h1,h⟩|⟨h1,x0,h2,x1,h3,r1,h4,h⟩⟩
 ·cases h;exact gr 10 [] [hW 9,hH (.ng 0),oO (Eq.refl ([a,b].map bN).length),cC (gz h0),bT h1]
 ·cases h;exact gr 11 [] [hW 9,hH (.ng 0),oO (Eq.refl ([a,b].map bN).length),cC (gz h0),bF h1,hH (.draw 11 []),cE aG.enc h2,cE aG.enc h3,cC (OB h4)]
theorem Jd{a b}{rv:I×Int}(h:uc a b=some rv):dK prog 43 [.one (.str a),.one (.str b),.one (.fn (.func 64) [])] [] (.j0 [.one (.str rv.1),.one (lI rv.2)]) []:=by
 refine aX func43 λG=>?_
 simp only[uc,az,aq,ar,au]at h;rcases h with⟨r,h0,⟨h1,h⟩|⟨h1,r1,h2,⟨h3,h⟩|⟨h3,x0,h4,x1,h5,r2,h6,⟨h7,h⟩|⟨h7,r3,h8,⟨h9,h⟩|⟨h9,x2,dO,r4,g_,h⟩⟩⟩⟩⟩
 ·cases h;exact gr 10 [] [cC (jw h0),bT h1]
 ·cases h;exact gr 17 [] [cC (jw h0),bF h1,hW 10,hH (.ng 0),oO (Eq.refl ([(bj.mk r.1 r.2.2.2.1),(bj.mk r.2.2.1 r.2.1)].map bj.enc).length),cC (ff h2),bT h3]
 ·cases h;exact gr 24 [] [cC (jw h0),bF h1,hW 10,hH (.ng 0),oO (Eq.refl ([(bj.mk r.1 r.2.2.2.1),(bj.mk r.2.2.1 r.2.1)].map bj.enc).length),cC (ff h2),bF h3,hH (.draw 13 []),cE bN h4,cE bN h5,cC (GD h6),bT h7]
 ·cases h;exact gr 31 [] [cC (jw h0),bF h1,hW 10,hH (.ng 0),oO (Eq.refl ([(bj.mk r.1 r.2.2.2.1),(bj.mk r.2.2.1 r.2.1)].map bj.enc).length),cC (ff h2),bF h3,hH (.draw 13 []),cE bN h4,cE bN h5,cC (GD h6),bF h7,hW 7,hH (.ng 1),oO (Eq.refl ([(bj.mk r.2.1 r.2.2.2.1)].map bj.enc).length),cC (ff h8),bT h9]
 ·cases h;exact gr 32 [] [cC (jw h0),bF h1,hW 10,hH (.ng 0),oO (Eq.refl ([(bj.mk r.1 r.2.2.2.1),(bj.mk r.2.2.1 r.2.1)].map bj.enc).length),cC (ff h2),bF h3,hH (.draw 13 []),cE bN h4,cE bN h5,cC (GD h6),bF h7,hW 7,hH (.ng 1),oO (Eq.refl ([(bj.mk r.2.1 r.2.2.2.1)].map bj.enc).length),cC (ff h8),bF h9,cE bN dO,cC (GP g_)]
theorem Gr{a b}{rv:I×Int}(h:BK a b=some rv):dK prog 19 [.one (.str a),.one (.str b)] [] (.j0 [.one (.str rv.1),.one (lI rv.2)]) []:=by
 refine aX func19 λG=>?_
 simp only[BK,az,aq,ar,au]at h;obtain⟨r,h0,h⟩:=h;cases h;exact gr 4 [] [cC (Jd h0)]
theorem se{n least tn}{rv:Bool}(h:oW n least tn=some rv):dK prog 65 [.one (lI n),.one (lI least),.one (lI tn)] [] (one (.bool rv)) []:=by
 refine aX func65 λG=>?_
 simp only[oW,az,aq,ar,au]at h;cases h;exact gr 4 [] [rp 4 hP,rp 2 (oI ((cT n least)=true)),oR True ((cT n least)=true)]
def yX(rv:List aa)(cf:Cf):Prop:=Go prog f138 [] G (one (lL 2 rv aa.enc)) [] cf
def DB(rv:List aa)(l:List aK)(l2:List aa)(v:Int):Prop:=yX G rv ⟨[.c 244,.l 244,.b 0,.c 31],⟨83,[vL 0 2 l aK.enc,vO 3 0 2 l2 aa.enc,vL 19 2 l aK.enc,vI 20 (ay l),vI 21 v],[oS 2 219 l2 aa.enc]⟩⟩
def CE(rv:List aa)(l:List aK)(l4:List aa):Prop:=yX G rv ⟨[.c 31],⟨83,[vO 3 0 2 l4 aa.enc],[oS 2 219 l4 aa.enc]⟩⟩
theorem CD(rv:List aa){l v x0 r l3}{x:(List aa×Int)⊕(List aa)}(h:tI l v x0 r l3=some x)(hI:∀⦃s:List aa×Int⦄,some (.inl s)=some x->DB G rv l s.1 s.2)(hE:∀⦃e:List aa⦄,some (.inr e)=some x->CE G rv l e):yX G rv ⟨[.c 31335,.b 1,.c 1959,.l 244,.b 0,.c 31],⟨83,[vL 0 2 l aK.enc,vO 3 0 2 l3 aa.enc,vI 4 v,vP 5 1 2,vS 6 r,vL 19 2 l aK.enc,vI 20 (ay l),vI 21 v],[oS 2 219 l3 aa.enc,oX 2 76 (aK.enc x0)]⟩⟩:=by
 simp only[tI,az,aq,ar,au]at h;rcases h with⟨h8,x1,h9,⟨dO,g_,h⟩|⟨dO,⟨iO,jD,h⟩|⟨iO,h⟩⟩⟩|⟨h8,h⟩
 ·exact gn 7 [0,3,19,20,21] [3] [hH (.draw 24 []),rp 6 (bT h8),cE aK.enc h9,rp 4 (bT h8),rp 9 (bT dO),bT h8,bT dO,bT h8,tT,oO (Eq.refl ([(aa.mk 13 r)].map aa.enc).length),aO aa.enc g_] (hI h)
 ·exact gn 7 [0,3,19,20,21] [3] [hH (.draw 24 []),rp 6 (bT h8),cE aK.enc h9,rp 4 (bT h8),rp 6 (bF dO),cE aK.enc h9,rp 3 (bF dO),bT h8,bF dO,bT h8,bT iO,oO (Eq.refl ([(aa.mk 13 r)].map aa.enc).length),aO aa.enc jD] (hI h)
 ·exact gn 7 [0,3,19,20,21] [0] [hH (.draw 24 []),rp 6 (bT h8),cE aK.enc h9,rp 4 (bT h8),rp 6 (bF dO),cE aK.enc h9,rp 3 (bF dO),bT h8,bF dO,bT h8,bF iO] (hI h)
 ·exact gn 7 [0,3,19,20,21] [0] [hH (.draw 24 []),rp 10 (bF h8),rp 9 kF,bF h8,bF h8,fF] (hI h)
theorem MC(rv:List aa){l}:∀⦃s:List aa×Int⦄ ⦃e:List aa⦄,aL (λs=>ly l s.1 s.2) s=some e->CE G rv l e->DB G rv l s.1 s.2:=by
 refine bz ?_
 rintro⟨l2,v⟩ z_ h hI hE;simp only[ly,az,aq,ar,au]at h;rcases h with⟨h2,x0,h3,r,h4,r1,h5,⟨h6,h7,h⟩|⟨h6,h⟩⟩|⟨h2,h⟩
 ·exact gn 16 [0,3,4,5,6,19,20,21] [3,1] [bT h2,cE aK.enc h3,cC (Xb h4),cC (se h5),rp 13 hP,rp 4 (oI ((!r1)=false)),oR True ((!r1)=false),rp 5 (oI (((!r1)||(bh x0.a x0.t))=false)),oR True (((!r1)||(bh x0.a x0.t))=false),bT h6,oO (Eq.refl ([(aa.mk 2 r)].map aa.enc).length),aO aa.enc h7] (CD G rv h hI hE)
 ·exact gn 16 [0,3,4,5,6,19,20,21] [0,1] [bT h2,cE aK.enc h3,cC (Xb h4),cC (se h5),rp 13 hP,rp 4 (oI ((!r1)=false)),oR True ((!r1)=false),rp 5 (oI (((!r1)||(bh x0.a x0.t))=false)),oR True (((!r1)||(bh x0.a x0.t))=false),bF h6] (CD G rv h hI hE)
 ·exact gn 5 [3] [0] [bF h2] (hE h)
theorem CC(rv:List aa){l l1}(h:tH l l1=some rv):yX G rv ⟨[.c 15],⟨83,[vL 0 2 l aK.enc,vO 3 0 2 l1 aa.enc],[oS 2 219 l1 aa.enc]⟩⟩:=by
 simp only[tH,az,aq,ar,au]at h;obtain⟨l4,so,h⟩:=h;refine gn 5 [0,3,19,20,21] [0] [nL aK.enc l] (MC G rv so ?_);obtain rfl:=oK h;exact gr 2 [] [hW 4,hH (.ng 0),rp 3 (eL l4 aa.enc)]
theorem Rr{l}{rv:List aa}(h:yW l=some rv):dK prog 138 [.one (lL 2 l aK.enc)] [] (one (lL 2 rv aa.enc)) []:=by
 refine aX func138 λG=>?_
 simp only[yW,az,aq,ar,au]at h;rcases h with⟨h0,h1,h⟩|⟨h0,h⟩
 ·exact gn 9 [0,3] [1] [nL aK.enc l,hP,hP,oI ((dk (ay l) 0)=false),nL aK.enc l,hP,hP,oI ((dk (ay l) 0)=false),oR True ((dk (ay l) 0)=false),bT h0,oO (Eq.refl ([(aa.mk 4 ByteArray.empty)].map aa.enc).length),aN (l:=([(aa.mk 4 ByteArray.empty)]:List aa)) aa.enc h1] (CC G rv h)
 ·exact gn 9 [0,3] [0] [nL aK.enc l,hP,hP,oI ((dk (ay l) 0)=false),nL aK.enc l,hP,hP,oI ((dk (ay l) 0)=false),oR True ((dk (ay l) 0)=false),bF h0,hW 1,hH (.nP 3 2 219)] (CC G rv h)
theorem GR{l}{rv:Bool}(h:yY l=some rv):dK prog 66 [.one (lL 2 l aK.enc)] [] (one (.bool rv)) []:=by
 refine aX func66 λG=>?_
 simp only[yY,az,aq,ar,au]at h;obtain⟨r,h0,h⟩:=h;cases h;exact gr 4 [] [cC (Rr h0),nL aa.enc r]
theorem wY{p t}{rv:Int}(h:qk p t=some rv):dK prog 140 [.agg (aK.enc p),.one (lI t)] [] (one (lI rv)) []:=by
 refine aX func140 λG=>?_
 simp only[qk,az,aq,ar,au]at h;cases h;exact gr 4 [] []
def fH(rv:Int×Bool)(cf:Cf):Prop:=Go prog f139 [] G (.j0 [.one (lI rv.1),.one (.bool rv.2)]) [] cf
def jX(rv:Int×Bool)(x0:List aK)(target i j:Int):Prop:=fH G rv ⟨[.c 120,.l 120,.b 0,.c 31],⟨49,[vL 0 2 x0 aK.enc,vI 1 target,(2,one (.fn (.func 140) [])),vI 8 (ay x0),vI 9 i,vI 10 j],[]⟩⟩
def jU(rv:Int×Bool)(x0:List aK)(target i1:Int):Prop:=fH G rv ⟨[.c 31],⟨49,[vL 0 2 x0 aK.enc,vI 1 target,(2,one (.fn (.func 140) [])),vI 8 (ay x0),vI 9 i1],[]⟩⟩
theorem jV(rv:Int×Bool){x0 target}:∀⦃s:Int×Int⦄ ⦃e:Int⦄,aL (λs=>cA x0 target s.1 s.2) s=some e->jU G rv x0 target e->jX G rv x0 target s.1 s.2:=by
 refine bz ?_
 rintro⟨i,j⟩ z_ h hI hE;simp only[cA,az,aq,ar,au]at h;rcases h with⟨h0,x1,h1,r,h2,⟨h3,h⟩|⟨h3,h⟩⟩|⟨h0,h⟩
 ·exact gn 14 [0,1,2,8,9,10] [] [bT h0,oO (zL 1),cE aK.enc h1,cC (wY h2),bT h3] (hI h)
 ·exact gn 14 [0,1,2,8,9,10] [] [bT h0,oO (zL 1),cE aK.enc h1,cC (wY h2),bF h3] (hI h)
 ·exact gn 5 [0,1,2,8,9] [] [bF h0] (hE h)
theorem c8{x0 target}{rv:Int×Bool}(h:dm x0 target=some rv):dK prog 139 [.one (lL 2 x0 aK.enc),.one (lI target),.one (.fn (.func 140) [])] [] (.j0 [.one (lI rv.1),.one (.bool rv.2)]) []:=by
 refine aX func139 λG=>?_
 simp only[dm,az,aq,ar,au]at h;obtain⟨i1,h4,h⟩:=h;refine gn 9 [0,1,2,8,9,10] [] [nL aK.enc x0] (jV G rv h4 ?_);rcases h with⟨h5,x2,h6,r1,h7,h⟩|⟨h5,h⟩
 ·cases h;exact gr 2 [] [rp 4 (bT h5),cE aK.enc h6,rp 3 (bT h5),cC (wY h7),bT h5,bT h5]
 ·cases h;exact gr 2 [] [rp 9 (bF h5)]
theorem PW{l t}{rv:Int}(h:wq l t=some rv):dK prog 67 [.one (lL 2 l aK.enc),.one (lI t)] [] (one (lI rv)) []:=by
 refine aX func67 λG=>?_
 simp only[wq,az,aq,ar,au]at h;rcases h with⟨r,h0,⟨h1,x0,h2,h⟩|⟨h1,⟨h3,x1,h4,h⟩|⟨h3,⟨h5,x2,h6,h⟩|⟨h5,x3,h7,x4,h8,h9,h⟩⟩⟩⟩
 ·cases h;exact gr 11 [] [cC (c8 h0),bT h1,cE aK.enc h2]
 ·cases h;exact gr 14 [] [cC (c8 h0),bF h1,bT h3,hH (.draw 12 []),rp 2 (cE aK.enc h4)]
 ·cases h;exact gr 17 [] [cC (c8 h0),bF h1,bF h3,nL aK.enc l,bT h5,hH (.draw 16 []),rp 2 (cE aK.enc h6)]
 ·cases h;exact gr 23 [] [cC (c8 h0),bF h1,bF h3,nL aK.enc l,bF h5,hH (.draw 13 [(0,11),(1,12)]),cE aK.enc h7,cE aK.enc h8,hH (.draw 19 []),oO (h9)]
theorem Fc{l t}{rv:Int}(h:tO l t=some rv):dK prog 20 [.one (lL 2 l aK.enc),.one (lI t)] [] (one (lI rv)) []:=by
 refine aX func20 λG=>?_
 simp only[tO,az,aq,ar,au]at h;rcases h with⟨r,h0,⟨h1,r1,h2,⟨h3,r2,h4,h⟩|⟨h3,h⟩⟩|⟨h1,h⟩⟩
 ·obtain rfl:=oK h;exact gr 9 [] [cC (se h0),nF h1,nF h1,cC (GR h2),nF h1,nF h1,nF h3,cC (PW h4)]
 ·obtain rfl:=oK h;exact gr 8 [] [cC (se h0),nF h1,nF h1,cC (GR h2),nF h1,nF h1,nT h3]
 ·obtain rfl:=oK h;exact gr 8 [] [cC (se h0),rp 4 (nT h1),tT]
theorem nu{rv:Bool}(h:kz=some rv):dK prog 6 [] [] (one (.bool rv)) []:=by
 refine aX func6 λG=>?_
 simp only[kz,az,aq,ar,au]at h;rcases h with⟨r,h0,⟨h1,r1,h2,h⟩|⟨h1,h⟩⟩
 ·cases h;exact gr 6 [] [cC (Gr h0),hP,hP,hP,oI ((dk r.2 0)=true),oR True ((dk r.2 0)=true),rp 4 (bT h1),oO (Eq.refl ([(aK.mk 0 5),(aK.mk 20 35)].map aK.enc).length),cC (Fc h2),bT h1,bT h1]
 ·obtain rfl:=oK h;exact gr 6 [] [cC (Gr h0),hP,hP,hP,oI ((dk r.2 0)=true),oR True ((dk r.2 0)=true),rp 6 (bF h1)]
def Ba(rv:I×I×Bool)(cf:Cf):Prop:=Go prog f21 [] G (.j0 [.one (.str rv.1),.one (.str rv.2.1),.one (.bool rv.2.2)]) [] cf
def FQ(rv:I×I×Bool)(a:I)(i:Int):Prop:=Ba G rv ⟨[.c 52,.l 52,.b 0,.c 7],⟨24,[vS 0 a,vI 5 i],[]⟩⟩
def EC(rv:I×I×Bool)(a:I):Prop:=Ba G rv ⟨[.c 7],⟨24,[vS 0 a],[]⟩⟩
theorem ED(rv:I×I×Bool){a}:∀⦃s:Int⦄ ⦃e:(Unit)⊕(I×I×Bool)⦄,aL (λs=>mJ a s) s=some e->jg e (λe=>EC G rv a) (λe=>e=rv)->FQ G rv a s:=by
 refine bz ?_
 intro i z_ h hI hE;simp only[mJ,az,aq,ar,au]at h;rcases h with⟨h0,b,h1,⟨h2,s0,h3,s1,h4,h⟩|⟨h2,h⟩⟩|⟨h0,h⟩
 ·obtain rfl:=(hE h:_=rv);exact gr 12 [] [bT h0,yE h1,bT h2,hH (.draw 10 []),oO (ss1 h3),oO (ss2 h3),oO (ss3 h3),oO (ss1 h4),oO (ss2 h4),oO (ss3 h4)]
 ·exact gn 14 [0,5] [] [bT h0,yE h1,bF h2] (hI h)
 ·exact gn 5 [0] [] [bF h0] (hE h)
theorem hU{a}{rv:I×I×Bool}(h:qy a=some rv):dK prog 21 [.one (.str a)] [] (.j0 [.one (.str rv.1),.one (.str rv.2.1),.one (.bool rv.2.2)]) []:=by
 refine aX func21 λG=>?_
 simp only[qy,az,aq,ar,au]at h;obtain⟨e0,h5,h⟩:=h;refine gn 7 [0,5] [] [] (ED G rv h5 ?_);rcases e0 with e0|r
 ·cases h;exact gr 2 [] []
 ·exact oK h
def pE(rv:Bool)(cf:Cf):Prop:=Go prog f22 [] G (one (.bool rv)) [] cf
def Hg(rv:Bool)(s0:I)(b:UInt8)(aY i:Int):Prop:=pE G rv ⟨[.c 500,.l 500,.b 0,.c 63],⟨42,[vS 0 s0,vI 3 aY,vI 4 i],[]⟩⟩
def FK(rv:Bool)(s0:I)(b:UInt8)(aY:Int):Prop:=pE G rv ⟨[.c 63],⟨42,[vS 0 s0,vI 3 aY],[]⟩⟩
def Hh(rv:Bool)(s0:I)(i1:Int):Prop:=pE G rv ⟨[.c 500,.l 500,.b 0,.c 63],⟨42,[vS 0 s0,vI 3 0,vI 4 i1],[]⟩⟩
def FM(rv:Bool)(s0:I):Prop:=pE G rv ⟨[.c 63],⟨42,[vS 0 s0,vI 3 0],[]⟩⟩
theorem FL(rv:Bool){s0 b aY}:∀⦃s:Int⦄ ⦃e:(Unit)⊕(Bool)⦄,aL (λs=>nV s0 b aY s) s=some e->jg e (λe=>FK G rv s0 b aY) (λe=>e=rv)->Hg G rv s0 b aY s:=by
 refine bz ?_
 intro i z_ h hI hE;simp only[nV,az,aq,ar,au]at h;rcases h with⟨h4,b1,h5,⟨h6,h⟩|⟨h6,⟨h7,h⟩|⟨h7,h⟩⟩⟩|⟨h4,h⟩
 ·obtain rfl:=(hE h:_=rv);exact gr 12 [] [bT h4,yE h5,rp 5 (bT h6),tT]
 ·obtain rfl:=(hE h:_=rv);exact gr 12 [] [bT h4,yE h5,rp 3 (bF h6),yE h5,bF h6,bF h6,bT h7]
 ·exact gn 14 [0,3,4] [] [bT h4,yE h5,rp 3 (bF h6),yE h5,bF h6,bF h6,bF h7] (hI h)
 ·exact gn 5 [0,3] [] [bF h4] (hE h)
theorem xK(rv:Bool){s0 b aY}(h:kE s0 b aY=some rv):pE G rv ⟨[.c 15],⟨42,[vS 0 s0,vI 3 aY],[]⟩⟩:=by
 simp only[kE,az,aq,ar,au]at h;rcases h with⟨h3,h⟩|⟨h3,e0,h8,h⟩
 ·obtain rfl:=oK h;exact gr 6 [] [bT h3]
 ·refine gn 10 [0,3,4] [] [bF h3] (FL G rv h8 ?_);rcases e0 with e0|r
  ·simp only[c5,az,aq,ar,au]at h;obtain⟨b2,h9,h⟩:=h;cases h;exact gr 2 [] [yE h9,hP,hP,hP,oI ((cp (cQ b2) 48)=false),oR True ((cp (cQ b2) 48)=false)]
  ·exact oK h
theorem FN(rv:Bool){s0}:∀⦃s:Int⦄ ⦃e:(Unit)⊕(Bool)⦄,aL (λs=>vC s0 s) s=some e->jg e (λe=>FM G rv s0) (λe=>e=rv)->Hh G rv s0 s:=by
 refine bz ?_
 intro i1 z_ h hI hE;simp only[vC,az,aq,ar,au]at h;rcases h with⟨g_,b3,iO,⟨jD,h⟩|⟨jD,⟨so,h⟩|⟨so,h⟩⟩⟩|⟨g_,h⟩
 ·obtain rfl:=(hE h:_=rv);exact gr 12 [] [bT g_,yE iO,rp 5 (bT jD),tT]
 ·obtain rfl:=(hE h:_=rv);exact gr 12 [] [bT g_,yE iO,rp 3 (bF jD),yE iO,rp 2 (bF jD),bT so]
 ·exact gn 14 [0,3,4] [] [bT g_,yE iO,rp 3 (bF jD),yE iO,rp 2 (bF jD),bF so] (hI h)
 ·exact gn 5 [0,3] [] [bF g_] (hE h)
theorem df{s0}{rv:Bool}(h:jK s0=some rv):dK prog 22 [.one (.str s0)] [] (one (.bool rv)) []:=by
 refine aX func22 λG=>?_
 simp only[jK,az,aq,ar,au]at h;rcases h with⟨h0,b,h1,⟨h2,h⟩|⟨h2,h⟩⟩|⟨h0,⟨dO,h⟩|⟨dO,e1,y3,h⟩⟩
 ·exact gn 9 [0,3] [] [bT h0,bT h0,yE h1,bT h0,bT h0,bT h2] (xK G rv h)
 ·exact gn 9 [0,3] [] [bT h0,bT h0,yE h1,bT h0,bT h0,bF h2] (xK G rv h)
 ·obtain rfl:=oK h;exact gr 15 [] [rp 4 (bF h0),fF,bT dO]
 ·refine gn 19 [0,3,4] [] [rp 4 (bF h0),fF,bF dO] (FN G rv y3 ?_);rcases e1 with e1|r1
  ·simp only[c5,az,aq,ar,au]at h;obtain⟨b4,vj,h⟩:=h;cases h;exact gr 2 [] [yE vj,hP,hP,hP,oI ((cp (cQ b4) 48)=false),oR True ((cp (cQ b4) 48)=false)]
  ·exact oK h
def sN(rv:Bool)(cf:Cf):Prop:=Go prog f23 [] G (one (.bool rv)) [] cf
def Hb(rv:Bool)(s0:I)(b:UInt8)(i:Int):Prop:=sN G rv ⟨[.c 116,.l 116,.b 0,.c 15],⟨33,[vS 0 s0,vI 3 i],[]⟩⟩
def FG(rv:Bool)(s0:I)(b:UInt8):Prop:=sN G rv ⟨[.c 15],⟨33,[],[]⟩⟩
def Hc(rv:Bool)(s0:I)(i1:Int):Prop:=sN G rv ⟨[.c 116,.l 116,.b 0,.c 15],⟨33,[vS 0 s0,vI 3 i1],[]⟩⟩
def FI(rv:Bool)(s0:I):Prop:=sN G rv ⟨[.c 15],⟨33,[],[]⟩⟩
theorem FH(rv:Bool){s0 b}:∀⦃s:Int⦄ ⦃e:(Unit)⊕(Bool)⦄,aL (λs=>fN s0 b s) s=some e->jg e (λe=>FG G rv s0 b) (λe=>e=rv)->Hb G rv s0 b s:=by
 refine bz ?_
 intro i z_ h hI hE;simp only[fN,az,aq,ar,au]at h;rcases h with⟨h4,b1,h5,⟨h6,h⟩|⟨h6,⟨h7,h⟩|⟨h7,h⟩⟩⟩|⟨h4,h⟩
 ·obtain rfl:=(hE h:_=rv);exact gr 12 [] [bT h4,yE h5,rp 5 (bT h6),tT]
 ·obtain rfl:=(hE h:_=rv);exact gr 12 [] [bT h4,yE h5,rp 3 (bF h6),yE h5,bF h6,bF h6,bT h7]
 ·exact gn 14 [0,3] [] [bT h4,yE h5,rp 3 (bF h6),yE h5,bF h6,bF h6,bF h7] (hI h)
 ·exact gn 5 [] [] [bF h4] (hE h)
theorem FJ(rv:Bool){s0}:∀⦃s:Int⦄ ⦃e:(Unit)⊕(Bool)⦄,aL (λs=>fO s0 s) s=some e->jg e (λe=>FI G rv s0) (λe=>e=rv)->Hc G rv s0 s:=by
 refine bz ?_
 intro i1 z_ h hI hE;simp only[fO,az,aq,ar,au]at h;rcases h with⟨h9,b2,dO,⟨g_,h⟩|⟨g_,⟨iO,h⟩|⟨iO,h⟩⟩⟩|⟨h9,h⟩
 ·obtain rfl:=(hE h:_=rv);exact gr 12 [] [bT h9,yE dO,rp 5 (bT g_),tT]
 ·obtain rfl:=(hE h:_=rv);exact gr 12 [] [bT h9,yE dO,rp 3 (bF g_),yE dO,rp 2 (bF g_),bT iO]
 ·exact gn 14 [0,3] [] [bT h9,yE dO,rp 3 (bF g_),yE dO,rp 2 (bF g_),bF iO] (hI h)
 ·exact gn 5 [] [] [bF h9] (hE h)
theorem cB{s0}{rv:Bool}(h:fR s0=some rv):dK prog 23 [.one (.str s0)] [] (one (.bool rv)) []:=by
 refine aX func23 λG=>?_
 simp only[fR,az,aq,ar,au]at h;rcases h with⟨h0,h⟩|⟨h0,⟨h1,b,h2,⟨h3,h⟩|⟨h3,e0,h8,h⟩⟩|⟨h1,e1,jD,h⟩⟩
 ·obtain rfl:=oK h;exact gr 8 [] [rp 4 (bT h0),kF,kF,kF,bT h0,bT h0,tT]
 ·obtain rfl:=oK h;exact gr 8 [] [rp 4 (bF h0),bT h1,bT h1,yE h2,bT h1,bF h0,bT h1,bF h0,bT h3]
 ·refine gn 12 [0,3] [] [rp 4 (bF h0),bT h1,bT h1,yE h2,bT h1,bF h0,bT h1,bF h0,bF h3] (FH G rv h8 ?_);rcases e0 with e0|r
  ·obtain rfl:=oK h;exact gr 2 [] []
  ·exact oK h
 ·refine gn 12 [0,3] [] [rp 4 (bF h0),rp 3 (bF h1),bF h0,bF h1,bF h0,fF] (FJ G rv jD ?_);rcases e1 with e1|r1
  ·obtain rfl:=oK h;exact gr 2 [] []
  ·exact oK h
theorem fw{s0}{rv:Int}(h:iZ s0=some rv):dK prog 24 [.one (.str s0)] [] (one (lI rv)) []:=by
 refine aX func24 λG=>?_
 simp only[iZ,az,aq,ar,au]at h;rcases h with⟨h0,b,h1,⟨h2,h⟩|⟨h2,h⟩⟩|⟨h0,h⟩
 ·cases h;exact gr 8 [] [bT h0,bT h0,yE h1,bT h0,bT h0,bT h2]
 ·cases h;exact gr 9 [] [bT h0,bT h0,yE h1,bT h0,bT h0,bF h2]
 ·cases h;exact gr 9 [] [rp 4 (bF h0),fF]
theorem mI{s0}{rv:Int}(h:nq s0=some rv):dK prog 141 [.one (.str s0)] [] (one (lI rv)) []:=by
 refine aX func141 λG=>?_
 simp only[nq,az,aq,ar,au]at h;rcases h with⟨h0,b,h1,⟨h2,h⟩|⟨h2,h⟩⟩|⟨h0,h⟩
 ·cases h;exact gr 8 [] [bT h0,bT h0,yE h1,bT h0,bT h0,bT h2]
 ·cases h;exact gr 9 [] [bT h0,bT h0,yE h1,bT h0,bT h0,bF h2]
 ·cases h;exact gr 9 [] [rp 4 (bF h0),fF]
theorem A_{a b}{rv:Int}(h:uW a b=some rv):dK prog 68 [.one (.str a),.one (.str b)] [] (one (lI rv)) []:=by
 refine aX func68 λG=>?_
 simp only[uW,az,aq,ar,au]at h;rcases h with⟨r,h0,⟨h1,r1,h2,⟨h3,r2,h4,⟨h5,h⟩|⟨h5,r3,h6,⟨h7,h⟩|⟨h7,h⟩⟩⟩|⟨h3,h⟩⟩|⟨h1,h⟩⟩
 ·obtain rfl:=oK h;exact gr 13 [] [cC (df h0),nF h1,nF h1,cC (df h2),nF h1,nF h1,nF h3,cC (mI h4),rp 4 (bT h5),tT]
 ·obtain rfl:=oK h;exact gr 13 [] [cC (df h0),nF h1,nF h1,cC (df h2),nF h1,nF h1,nF h3,cC (mI h4),bF h5,bF h5,cC (mI h6),bF h5,bF h5,bT h7]
 ·obtain rfl:=oK h;exact gr 14 [] [cC (df h0),nF h1,nF h1,cC (df h2),nF h1,nF h1,nF h3,cC (mI h4),bF h5,bF h5,cC (mI h6),bF h5,bF h5,bF h7]
 ·obtain rfl:=oK h;exact gr 8 [] [cC (df h0),nF h1,nF h1,cC (df h2),nF h1,nF h1,nT h3]
 ·obtain rfl:=oK h;exact gr 8 [] [cC (df h0),rp 4 (nT h1),tT]
def Di(rv:List Int)(cf:Cf):Prop:=Go prog f142 [] G (one (lL 1 rv al)) [] cf
def IZ(rv l:List Int)(n:Int):Prop:=Di G rv ⟨[.c 56,.l 56,.b 0,.c 15],⟨21,[vL 0 1 l al,vI 3 n],[]⟩⟩
def Hl(rv l:List Int)(n1:Int):Prop:=Di G rv ⟨[.c 15],⟨21,[vL 0 1 l al,vI 3 n1],[]⟩⟩
theorem Hm(rv:List Int){l}:∀⦃s:Int⦄ ⦃e:Int⦄,aL (λs=>pG l s) s=some e->Hl G rv l e->IZ G rv l s:=by
 refine bz ?_
 intro n z_ h hI hE;simp only[pG,az,aq,ar,au]at h;rcases h with⟨h0,x0,h1,⟨h2,h⟩|⟨h2,h⟩⟩|⟨h0,h⟩
 ·exact gn 9 [0,3] [] [rp 4 (bT h0),cE al h1,rp 3 (bT h0),bT h2] (hI h)
 ·exact gn 5 [0,3] [] [rp 4 (bT h0),cE al h1,rp 3 (bT h0),bF h2] (hE h)
 ·exact gn 5 [0,3] [] [rp 7 (bF h0),fF] (hE h)
theorem sO{l}{rv:List Int}(h:qf l=some rv):dK prog 142 [.one (lL 1 l al)] [] (one (lL 1 rv al)) []:=by
 refine aX func142 λG=>?_
 simp only[qf,az,aq,ar,au]at h;obtain⟨n1,h3,h⟩:=h;refine gn 7 [0,3] [] [nL al l] (Hm G rv h3 ?_);obtain⟨l1,h4,h⟩:=h;obtain rfl:=oK h;exact gr 2 [] [hH (.rows (l1.map al)),oO (sl1 h4),oO (sl2 h4),oO (wL al h4),oO (QaJ n1),oO (wL al h4),oO (sl6 al h4)]
def Ca(rv:Bool×List Int)(cf:Cf):Prop:=Go prog f69 [] G (.j0 [.one (.bool rv.1),.one (lL 1 rv.2 al)]) [] cf
def Hi(rv:Bool×List Int)(s0:I)(b:UInt8)(l:List Int)(i:Int):Prop:=Ca G rv ⟨[.c 244,.l 244,.b 0,.c 31],⟨32,[vS 0 s0,vO 4 0 1 l al,vB 5 (dk (cQ b) 45),vI 6 i],[oS 1 3 l al]⟩⟩
def FO(rv:Bool×List Int)(s0:I)(b:UInt8)(l1:List Int):Prop:=Ca G rv ⟨[.c 31],⟨32,[vO 4 0 1 l1 al,vB 5 (dk (cQ b) 45)],[oS 1 3 l1 al]⟩⟩
theorem FP(rv:Bool×List Int){s0 b}:∀⦃s:List Int×Int⦄ ⦃e:List Int⦄,aL (λs=>gC s0 b s.1 s.2) s=some e->FO G rv s0 b e->Hi G rv s0 b s.1 s.2:=by
 refine bz ?_
 rintro⟨l,i⟩ z_ h hI hE;simp only[gC,az,aq,ar,au]at h;rcases h with⟨h1,b1,h2,⟨h3,h4,h⟩|⟨h3,h⟩⟩|⟨h1,h⟩
 ·exact gn 14 [0,4,5,6] [2] [bT h1,yE h2,bT h3,yE h2,oO (Eq.refl ([(Bn .i64 (cX .u8 (cQ b1) 48))].map al).length),aO al h4] (hI h)
 ·exact gn 14 [0,4,5,6] [0] [bT h1,yE h2,bF h3] (hI h)
 ·exact gn 5 [4,5] [0] [bF h1] (hE h)
theorem Ku{s0}{rv:Bool×List Int}(h:rJ s0=some rv):dK prog 69 [.one (.str s0)] [] (.j0 [.one (.bool rv.1),.one (lL 1 rv.2 al)]) []:=by
 refine aX func69 λG=>?_
 simp only[rJ,az,aq,ar,au]at h;obtain⟨b,h0,l1,h5,h⟩:=h;refine gn 11 [0,4,5,6] [0] [yE h0,hW 11,hH (.nP 4 1 3)] (FP G rv h5 ?_);obtain⟨r,h6,h⟩:=h;cases h;exact gr 2 [] [hW 4,hH (.ng 0),rp 2 (eL l1 al),cC (sO h6)]
def xL(rv:I)(cf:Cf):Prop:=Go prog f70 [] G (one (.str rv)) [] cf
def IY(rv:I)(l r l2:List Int)(i:Int):Prop:=xL G rv ⟨[.c 1012,.l 1012,.b 0,.c 127],⟨34,[vL 1 1 r al,vO 5 0 1 l2 G3,vI 6 i],[oS 1 5 l2 G3]⟩⟩
def Hj(rv:I)(l r l3:List Int):Prop:=xL G rv ⟨[.c 127],⟨34,[vO 5 0 1 l3 G3],[oS 1 5 l3 G3]⟩⟩
theorem Hk(rv:I){l r}:∀⦃s:List Int×Int⦄ ⦃e:List Int⦄,aL (λs=>hG l r s.1 s.2) s=some e->Hj G rv l r e->IY G rv l r s.1 s.2:=by
 refine bz ?_
 rintro⟨l2,i⟩ z_ h hI hE;simp only[hG,az,aq,ar,au]at h;rcases h with⟨h4,x0,h5,h6,h⟩|⟨h4,h⟩
 ·exact gn 11 [1,5,6] [2] [bT h4,cE al h5,oO (Eq.refl ([(Bn .u8 (aV .i64 48 x0))].map G3).length),aO G3 h6] (hI h)
 ·exact gn 5 [5] [0] [bF h4] (hE h)
theorem zq(rv:I){l r l1}(h:pF l r l1=some rv):xL G rv ⟨[.c 63],⟨34,[vL 1 1 r al,vO 5 0 1 l1 G3],[oS 1 5 l1 G3]⟩⟩:=by
 simp only[pF,az,aq,ar,au]at h;obtain⟨l3,h7,h⟩:=h;refine gn 5 [1,5,6] [0] [nL al r] (Hk G rv h7 ?_);cases h;exact gr 2 [] [hH (.ints l3),eL l3 G3,oO (Eq.refl ((l3.map G3):List (List Lf)))]
theorem LU{neg l}{rv:I}(h:tj neg l=some rv):dK prog 70 [.one (.bool neg),.one (lL 1 l al)] [] (one (.str rv)) []:=by
 refine aX func70 λG=>?_
 simp only[tj,az,aq,ar,au]at h;rcases h with⟨r,h0,⟨h1,h⟩|⟨h1,⟨h2,h3,h⟩|⟨h2,h⟩⟩⟩
 ·obtain rfl:=oK h;exact gr 10 [] [cC (sO h0),nL al r,bT h1]
 ·exact gn 16 [1,5] [1] [cC (sO h0),nL al r,bF h1,bT h2,oO (Eq.refl ([45].map G3).length),aN (l:=([45]:List Int)) G3 h3] (zq G rv h)
 ·exact gn 16 [1,5] [0] [cC (sO h0),nL al r,bF h1,bF h2,hW 1,hH (.nP 5 1 5)] (zq G rv h)
theorem NB{s0}{rv:I×Int}(h:rI s0=some rv):dK prog 25 [.one (.str s0)] [] (.j0 [.one (.str rv.1),.one (lI rv.2)]) []:=by
 refine aX func25 λG=>?_
 simp only[rI,az,aq,ar,au]at h;rcases h with⟨r,h0,⟨h1,h⟩|⟨h1,r1,h2,r2,h3,h⟩⟩
 ·cases h;exact gr 10 [] [cC (A_ h0),bT h1]
 ·cases h;exact gr 13 [] [cC (A_ h0),bF h1,cC (Ku h2),cC (LU h3)]
theorem nU{a b}{rv:Int}(h:o9 a b=some rv):dK prog 71 [.one (.str a),.one (.str b)] [] (one (lI rv)) []:=by
 refine aX func71 λG=>?_
 simp only[o9,az,aq,ar,au]at h;rcases h with⟨r,h0,⟨h1,r1,h2,⟨h3,⟨h4,h⟩|⟨h4,h⟩⟩|⟨h3,h⟩⟩|⟨h1,h⟩⟩
 ·obtain rfl:=oK h;exact gr 13 [] [cC (cB h0),nF h1,nF h1,cC (cB h2),nF h1,nF h1,nF h3,rp 4 hP,rp 2 (oI ((dt (ca a) 4096)=false)),oR True ((dt (ca a) 4096)=false),bT h4]
 ·obtain rfl:=oK h;exact gr 14 [] [cC (cB h0),nF h1,nF h1,cC (cB h2),nF h1,nF h1,nF h3,rp 4 hP,rp 2 (oI ((dt (ca a) 4096)=false)),oR True ((dt (ca a) 4096)=false),bF h4]
 ·obtain rfl:=oK h;exact gr 8 [] [cC (cB h0),nF h1,nF h1,cC (cB h2),nF h1,nF h1,nT h3]
 ·obtain rfl:=oK h;exact gr 8 [] [cC (cB h0),rp 4 (nT h1),tT]
def Dh(rv:I)(cf:Cf):Prop:=Go prog f143 [] G (one (.str rv)) [] cf
def IX(rv s1:I):Prop:=Dh G rv ⟨[.c 24,.l 24,.b 0,.c 7],⟨14,[vS 0 s1],[]⟩⟩
def He(rv s3:I):Prop:=Dh G rv ⟨[.c 7],⟨14,[vS 0 s3],[]⟩⟩
theorem Hf(rv:I):∀⦃s:I⦄ ⦃e:I⦄,aL (λs=>pD s) s=some e->He G rv e->IX G rv s:=by
 refine bz ?_
 intro s1 z_ h hI hE;simp only[pD,az,aq,ar,au]at h;rcases h with⟨h0,b,h1,⟨h2,s2,h3,h⟩|⟨h2,h⟩⟩|⟨h0,h⟩
 ·exact gn 9 [0] [] [bT h0,bT h0,yE h1,bT h0,bT h0,bT h2,oO (ss1 h3),oO (ss2 h3),oO (ss3 h3)] (hI h)
 ·exact gn 5 [0] [] [bT h0,bT h0,yE h1,bT h0,bT h0,bF h2] (hE h)
 ·exact gn 5 [0] [] [rp 4 (bF h0),fF] (hE h)
theorem wF{s0}{rv:I}(h:lq s0=some rv):dK prog 143 [.one (.str s0)] [] (one (.str rv)) []:=by
 refine aX func143 λG=>?_
 simp only[lq,az,aq,ar,au]at h;obtain⟨s3,h4,h⟩:=h;refine gn 5 [0] [] [] (Hf G rv h4 ?_);obtain rfl:=oK h;exact gr 2 [] []
theorem zn{a b}{rv:Int}(h:pz a b=some rv):dK prog 144 [.one (.str a),.one (.str b)] [] (one (lI rv)) []:=by
 refine aX func144 λG=>?_
 simp only[pz,az,aq,ar,au]at h;rcases h with⟨r,h0,⟨h1,r1,h2,⟨h3,h⟩|⟨h3,⟨h4,h⟩|⟨h4,h⟩⟩⟩|⟨h1,h⟩⟩
 ·obtain rfl:=oK h;exact gr 8 [] [cC (cB h0),nF h1,nF h1,cC (cB h2),nF h1,nF h1,rp 4 hP,rp 2 (oI ((!r1)=false)),oR True ((!r1)=false),bT h3]
 ·cases h;exact gr 13 [] [cC (cB h0),nF h1,nF h1,cC (cB h2),nF h1,nF h1,rp 4 hP,rp 2 (oI ((!r1)=false)),oR True ((!r1)=false),bF h3,rp 12 hP,rp 5 (oI ((bh (ca a) (ca b))=false)),rp 2 (oI (((bh (ca a) (ca b))=false)/\(dk (ca a) (ca b))=true)),oI ((bh (ca a) (ca b))=false),oI (((bh (ca a) (ca b))=false)/\(dk (ca a) (ca b))=true),oR True ((bh (ca a) (ca b))=false),bT h4]
 ·obtain rfl:=oK h;exact gr 14 [] [cC (cB h0),nF h1,nF h1,cC (cB h2),nF h1,nF h1,rp 4 hP,rp 2 (oI ((!r1)=false)),oR True ((!r1)=false),bF h3,rp 12 hP,rp 5 (oI ((bh (ca a) (ca b))=false)),rp 2 (oI (((bh (ca a) (ca b))=false)/\(dk (ca a) (ca b))=true)),oI ((bh (ca a) (ca b))=false),oI (((bh (ca a) (ca b))=false)/\(dk (ca a) (ca b))=true),oR True ((bh (ca a) (ca b))=false),bF h4]
 ·obtain rfl:=oK h;exact gr 8 [] [cC (cB h0),rp 4 (nT h1),rp 5 tT]
theorem At{n}{rv:I}(h:kr n=some rv):dK prog 146 [.one (lI n)] [] (one (.str rv)) []:=by
 refine aX func146 λG=>?_
 simp only[kr,az,aq,ar,au]at h;obtain⟨s0,h0,h⟩:=h;cases h;exact gr 4 [] [oO (ss1 h0),oO (ss2 h0),oO (ss3 h0)]
theorem rh{s0 j7}{rv:Int}(h:o8 s0 j7=some rv):dK prog 205 [.one (.str s0),.one (lI j7)] [] (one (lI rv)) []:=by
 refine aX func205 λG=>?_
 simp only[o8,az,aq,ar,au]at h;rcases h with⟨h0,h⟩|⟨h0,b,h1,h⟩
 ·obtain rfl:=oK h;exact gr 8 [] [bT h0]
 ·cases h;exact gr 9 [] [bF h0,yE h1]
def xJ(rv:I)(cf:Cf):Prop:=Go prog f145 [] G (one (.str rv)) [] cf
def As(rv a b out:I)(borrow i:Int):Prop:=xJ G rv ⟨[.c 244,.l 244,.b 0,.c 31],⟨34,[vS 0 a,vS 1 b,vS 5 out,vI 6 borrow,vI 7 i],[]⟩⟩
def zp(rv a b L9:I):Prop:=xJ G rv ⟨[.c 31],⟨34,[vS 5 L9],[]⟩⟩
theorem zo(rv:I){a b out i Bl n}{x:(I×Int×Int)⊕(I)}(h:lQ a b out i Bl n=some x)(hI:∀⦃s:I×Int×Int⦄,some (.inl s)=some x->As G rv a b s.1 s.2.1 s.2.2)(hE:∀⦃e:I⦄,some (.inr e)=some x->zp G rv a b e):xJ G rv ⟨[.c 15655,.b 1,.c 979,.l 244,.b 0,.c 31],⟨34,[vS 0 a,vS 1 b,vS 5 out,vI 6 Bl,vI 7 i,vI 8 n],[]⟩⟩:=by
 simp only[lQ,az,aq,ar,au]at h;obtain⟨r2,h4,h5,h⟩:=h;exact gn 4 [0,1,5,6,7] [] [cC (At h4),oO (h5)] (hI h)
theorem Hd(rv:I){a b}:∀⦃s:I×Int×Int⦄ ⦃e:I⦄,aL (λs=>jF a b s.1 s.2.1 s.2.2) s=some e->zp G rv a b e->As G rv a b s.1 s.2.1 s.2.2:=by
 refine bz ?_
 rintro⟨out,borrow,i⟩ z_ h hI hE;simp only[jF,az,aq,ar,au]at h;rcases h with⟨h0,r,h1,r1,h2,⟨h3,h⟩|⟨h3,h⟩⟩|⟨h0,h⟩
 ·exact gn 18 [0,1,5,6,7,8] [] [bT h0,cC (rh h1),cC (rh h2),bT h3] (zo G rv h hI hE)
 ·exact gn 16 [0,1,5,6,7,8] [] [bT h0,cC (rh h1),cC (rh h2),bF h3] (zo G rv h hI hE)
 ·exact gn 5 [5] [] [bF h0] (hE h)
theorem LS{a b}{rv:I}(h:ti a b=some rv):dK prog 145 [.one (.str a),.one (.str b)] [] (one (.str rv)) []:=by
 refine aX func145 λG=>?_
 simp only[ti,az,aq,ar,au]at h;obtain⟨L9,h6,h⟩:=h;refine gn 11 [0,1,5,6,7] [] [] (Hd G rv h6 ?_);obtain⟨r3,h7,h⟩:=h;obtain rfl:=oK h;exact gr 2 [] [cC (wF h7)]
def uV(rv:I×I×Int)(cf:Cf):Prop:=Go prog f72 [] G (.j0 [.one (.str rv.1),.one (.str rv.2.1),.one (lI rv.2.2)]) [] cf
def Ks(rv:I×I×Int)(a b q:I)(i:Int)(lz:I)(n:Int):Prop:=uV G rv ⟨[.c 128152,.l 128152,.b 2,.c 32039,.b 1,.c 2003,.l 500,.b 0,.c 63],⟨50,[vS 0 a,vS 1 b,vS 8 q,vS 9 lz,vI 10 i,vI 11 n],[]⟩⟩
def IT(rv:I×I×Int)(a b q:I)(i:Int)(XJ:I)(n1:Int):Prop:=uV G rv ⟨[.c 32039,.b 1,.c 2003,.l 500,.b 0,.c 63],⟨50,[vS 0 a,vS 1 b,vS 8 q,vS 9 XJ,vI 10 i,vI 11 n1],[]⟩⟩
def Kr(rv:I×I×Int)(a b q bJ:I)(i:Int):Prop:=uV G rv ⟨[.c 500,.l 500,.b 0,.c 63],⟨50,[vS 0 a,vS 1 b,vS 8 q,vS 9 bJ,vI 10 i],[]⟩⟩
def IQ(rv:I×I×Int)(a b q1 XK:I):Prop:=uV G rv ⟨[.c 63],⟨50,[vS 8 q1,vS 9 XK],[]⟩⟩
theorem IU(rv:I×I×Int){a b q i}:∀⦃s:I×Int⦄ ⦃e:I×Int⦄,aL (λs=>nn a b q i s.1 s.2) s=some e->IT G rv a b q i e.1 e.2->Ks G rv a b q i s.1 s.2:=by
 refine bz ?_
 rintro⟨lz,n⟩ z_ h hI hE;simp only[nn,az,aq,ar,au]at h;rcases h with⟨r2,h7,⟨h8,r3,h9,h⟩|⟨h8,h⟩⟩
 ·exact gn 11 [0,1,8,9,10,11] [] [cC (zn h7),bT h8,cC (LS h9)] (hI h)
 ·exact gn 5 [0,1,8,9,10,11] [] [cC (zn h7),bF h8] (hE h)
theorem IS(rv:I×I×Int){a b}:∀⦃s:I×I×Int⦄ ⦃e:I×I⦄,aL (λs=>kq a b s.1 s.2.1 s.2.2) s=some e->IQ G rv a b e.1 e.2->Kr G rv a b s.1 s.2.1 s.2.2:=by
 refine bz ?_
 rintro⟨q,bJ,i⟩ z_ h hI hE;simp only[kq,az,aq,ar,au]at h;rcases h with⟨h3,s0,h4,h5,r1,h6,⟨XJ,n1⟩,dO,h⟩|⟨h3,h⟩
 ·refine gn 14 [0,1,8,9,10,11] [] [bT h3,oO (ss1 h4),oO (ss2 h4),oO (ss3 h4),oO (h5),cC (wF h6)] (IU G rv dO ?_);obtain⟨r4,g_,iO,h⟩:=h;exact gn 4 [0,1,8,9,10] [] [cC (At g_),oO (iO)] (hI h)
 ·exact gn 5 [8,9] [] [bF h3] (hE h)
theorem Nz{a b}{rv:I×I×Int}(h:rH a b=some rv):dK prog 72 [.one (.str a),.one (.str b)] [] (.j0 [.one (.str rv.1),.one (.str rv.2.1),.one (lI rv.2.2)]) []:=by
 refine aX func72 λG=>?_
 simp only[rH,az,aq,ar,au]at h;rcases h with⟨r,h0,⟨h1,h⟩|⟨h1,⟨h2,h⟩|⟨h2,⟨q1,XK⟩,jD,h⟩⟩⟩
 ·cases h;exact gr 10 [] [cC (nU h0),bT h1]
 ·cases h;exact gr 15 [] [cC (nU h0),bF h1,bT h2]
 ·refine gn 21 [0,1,8,9,10] [] [cC (nU h0),bF h1,bF h2] (IS G rv jD ?_);obtain⟨r5,so,h⟩:=h;cases h;exact gr 2 [] [cC (wF so)]
def EB(rv:I×Int)(cf:Cf):Prop:=Go prog f26 [] G (.j0 [.one (.str rv.1),.one (lI rv.2)]) [] cf
def Kt(rv:I×Int)(b a1 b1:I):Prop:=EB G rv ⟨[.c 56,.l 56,.b 0,.c 15],⟨28,[vS 0 a1,vS 1 b1],[]⟩⟩
def IV(rv:I×Int)(b a2:I):Prop:=EB G rv ⟨[.c 15],⟨28,[vS 0 a2],[]⟩⟩
theorem IW(rv:I×Int){b}:∀⦃s:I×I⦄ ⦃e:I⦄,aL (λs=>qx b s.1 s.2) s=some e->IV G rv b e->Kt G rv b s.1 s.2:=by
 refine bz ?_
 rintro⟨a1,b1⟩ z_ h hI hE;simp only[qx,az,aq,ar,au]at h;rcases h with⟨h2,h⟩|⟨h2,r1,h3,h⟩
 ·exact gn 5 [0] [] [nF h2] (hE h)
 ·exact gn 13 [0,1] [] [nT h2,cC (Nz h3)] (hI h)
theorem NA{a b}{rv:I×Int}(h:pC a b=some rv):dK prog 26 [.one (.str a),.one (.str b)] [] (.j0 [.one (.str rv.1),.one (lI rv.2)]) []:=by
 refine aX func26 λG=>?_
 simp only[pC,az,aq,ar,au]at h;rcases h with⟨r,h0,⟨h1,h⟩|⟨h1,a2,h4,h⟩⟩
 ·cases h;exact gr 10 [] [cC (nU h0),bT h1]
 ·refine gn 12 [0,1] [] [cC (nU h0),bF h1] (IW G rv h4 ?_);cases h;exact gr 2 [] []
theorem vD{a}{rv:Bool}(h:o_ a=some rv):dK prog 7 [.one (.str a)] [] (one (.bool rv)) []:=by
 refine aX func7 λG=>?_
 simp only[o_,az,aq,ar,au]at h;rcases h with⟨r,h0,r1,h1,⟨h2,r2,h3,⟨h4,r3,h5,⟨h6,h⟩|⟨h6,r4,h7,⟨h8,h⟩|⟨h8,⟨h9,⟨dO,h⟩|⟨dO,r5,g_,r6,iO,h⟩⟩|⟨h9,h⟩⟩⟩⟩|⟨h4,h⟩⟩|⟨h2,h⟩⟩
 ·obtain rfl:=oK h;exact gr 10 [] [cC (hU h0),cC (df h1),nF h2,nF h2,cC (cB h3),nF h2,nF h2,nF h4,nF h4,cC (fw h5),nF h4,nF h4,rp 4 (bT h6),tT]
 ·obtain rfl:=oK h;exact gr 10 [] [cC (hU h0),cC (df h1),nF h2,nF h2,cC (cB h3),nF h2,nF h2,nF h4,nF h4,cC (fw h5),nF h4,nF h4,bF h6,bF h6,cC (fw h7),bF h6,bF h6,bT h8]
 ·obtain rfl:=oK h;exact gr 20 [] [cC (hU h0),cC (df h1),nF h2,nF h2,cC (cB h3),nF h2,nF h2,nF h4,nF h4,cC (fw h5),nF h4,nF h4,bF h6,bF h6,cC (fw h7),bF h6,bF h6,bF h8,nF h9,rp 6 hP,oI ((qe r.1 bZ)=false),oR True ((qe r.1 bZ)=false),oI (((qe r.1 bZ)||(qe r.2.1 bZ))=false),oR True (((qe r.1 bZ)||(qe r.2.1 bZ))=false),bT dO]
 ·cases h;exact gr 25 [] [cC (hU h0),cC (df h1),nF h2,nF h2,cC (cB h3),nF h2,nF h2,nF h4,nF h4,cC (fw h5),nF h4,nF h4,bF h6,bF h6,cC (fw h7),bF h6,bF h6,bF h8,nF h9,rp 6 hP,oI ((qe r.1 bZ)=false),oR True ((qe r.1 bZ)=false),oI (((qe r.1 bZ)||(qe r.2.1 bZ))=false),oR True (((qe r.1 bZ)||(qe r.2.1 bZ))=false),bF dO,cC (NB g_),cC (NA iO),hP,hP,hP,oI ((dk r6.2 0)=true),oR True ((dk r6.2 0)=true)]
 ·obtain rfl:=oK h;exact gr 15 [] [cC (hU h0),cC (df h1),nF h2,nF h2,cC (cB h3),nF h2,nF h2,nF h4,nF h4,cC (fw h5),nF h4,nF h4,bF h6,bF h6,cC (fw h7),bF h6,bF h6,bF h8,nT h9]
 ·obtain rfl:=oK h;exact gr 10 [] [cC (hU h0),cC (df h1),nF h2,nF h2,cC (cB h3),nF h2,nF h2,rp 4 (nT h4),rp 5 tT]
 ·obtain rfl:=oK h;exact gr 10 [] [cC (hU h0),cC (df h1),rp 4 (nT h2),rp 9 tT]
end
end Go.Proofs.YtkcilfpbgjjjbaaGreatDoor
