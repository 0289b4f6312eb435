/- Part MV. -/
import Derived.Test.YtkcilfpbgjjjbaaGreatDoorMI
import Derived.Test.YtkcilfpbgjjjbaaGreatDoorMU
import Derived.Test.YtkcilfpbgjjjbaaGreatDoorProg
set_option linter.unusedSimpArgs false
set_option linter.unusedVariables false
set_option linter.unusedSectionVars false
namespace Go.Proofs.YtkcilfpbgjjjbaaGreatDoor
open _root_.Go.Proofs.Tryz
section
variable (G:bC)
set_option maxHeartbeats 4000000
set_option maxRecDepth 100000
def u4(rv:List Int×Int)(cf:Cf):Prop:=Go prog f8 [] G (.j0 [.one (lL 1 rv.1 al),.one (lI rv.2)]) [] cf
def Rf(rv:List Int×Int)(x0:ae)(size:Int)(l l1:List Int)(v:Int)(l2:List Int)(v1:Int):Prop:=u4 G rv ⟨[.c 250676,.l 250676,.b 2,.c 31335,.b 1,.c 1959,.l 244,.b 0,.c 31],⟨72,[vI 1 size,vP 2 0 6,vO 6 1 1 l1 al,vP 7 2 1,vO 8 3 1 l2 al,vI 23 (ay l),vI 24 v,vI 29 (ay x0.ai),vI 30 v1],[oX 6 30 (ae.enc x0),oS 1 3 l1 al,oX 1 3 [lI v],oS 1 3 l2 al]⟩⟩
def PC(rv:List Int×Int)(x0:ae)(size:Int)(l l1:List Int)(v:Int)(l3:List Int):Prop:=u4 G rv ⟨[.c 31335,.b 1,.c 1959,.l 244,.b 0,.c 31],⟨72,[vI 1 size,vP 2 0 6,vO 6 1 1 l1 al,vP 7 2 1,vO 8 3 1 l3 al,vI 23 (ay l),vI 24 v],[oX 6 30 (ae.enc x0),oS 1 3 l1 al,oX 1 3 [lI v],oS 1 3 l3 al]⟩⟩
def Rg(rv:List Int×Int)(x0:ae)(size:Int)(l:List Int)(v:Int)(l4 l5:List Int)(v2:Int):Prop:=u4 G rv ⟨[.c 1002748,.l 1002748,.b 4,.b 1,.c 1959,.l 244,.b 0,.c 31],⟨72,[vI 1 size,vP 2 0 6,vO 6 1 1 l5 al,vP 7 2 1,vI 23 (ay l),vI 24 v,vL 55 1 l4 al,vI 56 (ay l4),vI 57 v2],[oX 6 30 (ae.enc x0),oS 1 3 l5 al,oX 1 3 [lI v]]⟩⟩
def PE(rv:List Int×Int)(x0:ae)(size:Int)(l:List Int)(v:Int)(l4 l6:List Int):Prop:=u4 G rv ⟨[.b 1,.c 1959,.l 244,.b 0,.c 31],⟨72,[vI 1 size,vP 2 0 6,vO 6 1 1 l6 al,vI 23 (ay l),vI 24 v],[oX 6 30 (ae.enc x0),oS 1 3 l6 al]⟩⟩
def Re(rv:List Int×Int)(x0:ae)(size:Int)(l l1:List Int)(v:Int):Prop:=u4 G rv ⟨[.c 244,.l 244,.b 0,.c 31],⟨72,[vI 1 size,vP 2 0 6,vO 6 1 1 l1 al,vI 23 (ay l),vI 24 v],[oX 6 30 (ae.enc x0),oS 1 3 l1 al]⟩⟩
def PA(rv:List Int×Int)(x0:ae)(size:Int)(l l7:List Int):Prop:=u4 G rv ⟨[.c 31],⟨72,[vO 6 0 1 l7 al],[oS 1 3 l7 al]⟩⟩
theorem PD(rv:List Int×Int){x0 size l l1 v}:∀⦃s:List Int×Int⦄ ⦃e:List Int⦄,aL (λs=>oP x0 size l l1 v s.1 s.2) s=some e->PC G rv x0 size l l1 v e->Rf G rv x0 size l l1 v s.1 s.2:=by
 refine bz ?_
 rintro⟨l2,v1⟩ z_ h hI hE;simp only[oP,az,aq,ar,au]at h;rcases h with⟨h3,⟨h4,h5,h⟩|⟨h4,h⟩⟩|⟨h3,h⟩
 ·exact gn 16 [1,2,6,7,8,23,24,29,30] [0,1,2,5] [bT h3,bT h4,oO (Eq.refl ([v1].map al).length),aO al h5] (hI h)
 ·exact gn 16 [1,2,6,7,8,23,24,29,30] [0,1,2,3] [bT h3,bF h4] (hI h)
 ·exact gn 5 [1,2,6,7,8,23,24] [0,1,2,3] [bF h3] (hE h)
theorem PF(rv:List Int×Int){x0 size l v l4}:∀⦃s:List Int×Int⦄ ⦃e:List Int⦄,aL (λs=>qX x0 size l v l4 s.1 s.2) s=some e->PE G rv x0 size l v l4 e->Rg G rv x0 size l v l4 s.1 s.2:=by
 refine bz ?_
 rintro⟨l5,v2⟩ z_ h hI hE;simp only[qX,az,aq,ar,au]at h;rcases h with⟨g_,x2,iO,x3,jD,so,h⟩|⟨g_,h⟩
 ·exact gn 13 [1,2,6,7,23,24,55,56,57] [0,1,2] [bT g_,cE al iO,hH (.draw 8 []),oO (lp jD),oO (ln al jD),rE al jD,oO (so),oO (lp jD),oO (ln al jD),rE al jD,hH (.rows ((jq l5 v (QA .i64 x3 (uh .i64 1 x2))).map al)),hH (.Dt 1 ((jq l5 v (QA .i64 x3 (uh .i64 1 x2))).map al).length),oO (Tv al l5 v (QA .i64 x3 (uh .i64 1 x2))),rp 2 (oO (B8 al l5 v (QA .i64 x3 (uh .i64 1 x2))))] (hI h)
 ·exact gn 5 [1,2,6,23,24] [0,1] [bF g_] (hE h)
theorem PB(rv:List Int×Int){x0 size l}:∀⦃s:List Int×Int⦄ ⦃e:List Int⦄,aL (λs=>qW x0 size l s.1 s.2) s=some e->PA G rv x0 size l e->Re G rv x0 size l s.1 s.2:=by
 refine bz ?_
 rintro⟨l1,v⟩ z_ h hI hE;simp only[qW,az,aq,ar,au]at h;rcases h with⟨h2,l3,h6,h⟩|⟨h2,h⟩
 ·refine gn 16 [1,2,6,7,8,23,24,29,30] [0,1,2,3] [bT h2,nL aw.enc x0.ai,hW 3,hH (.nP 8 1 3)] (PD G rv h6 ?_);obtain⟨r,h7,h8,x1,h9,l4,dO,l6,y3,h⟩:=h;refine gn 8 [1,2,6,7,23,24,55,56,57] [0,1,2] [eL l3 al,cC (Qcx (enc:=al) (F:=.func 28) (gZ:=[.ip (ae.enc x0) 0,.ip [lI v] 0]) h7),hH (.draw 5 []),oO (h8),oO (lp h9),oO (ln al h9),rE al h9,hH (.rows ((jq l1 v (uh .i64 1 v)).map al)),hH (.Dt 1 ((jq l1 v (uh .i64 1 v)).map al).length),oO (Tv al l1 v (uh .i64 1 v)),rp 2 (oO (B8 al l1 v (uh .i64 1 v))),nL al l3,hW 1,hH (.ng 3),rp 4 (eL l3 al),hH (.rows (l4.map al)),oO (sl1 dO),oO (sl2 dO),oO (wL al dO),oO (QaJ (QbX (cX .i64 size 1) (ay l3))),oO (wL al dO),oO (sl6 al dO),nL al l4] (PF G rv y3 ?_);exact gn 3 [1,2,6,23,24] [0,1] [] (hI h)
 ·exact gn 5 [6] [1] [bF h2] (hE h)
theorem D5{x0 size}{rv:List Int×Int}(h:Ct x0 size=some rv):dK prog 8 [.agg (ae.enc x0),.one (lI size)] [] (.j0 [.one (lL 1 rv.1 al),.one (lI rv.2)]) []:=by
 refine aX func8 λG=>?_
 simp only[Ct,az,aq,ar,au]at h;rcases h with⟨h0,h⟩|⟨h0,l,h1,l7,vj,h⟩
 ·cases h;exact gr 8 [] [hP,hP,hP,oI ((bh size 1)=false),oR True ((bh size 1)=false),bT h0,hW 4,hH (.D1 4 0 1)]
 ·refine gn 14 [1,2,6,23,24] [0,1] [hP,hP,hP,oI ((bh size 1)=false),oR True ((bh size 1)=false),bF h0,nL aw.enc x0.ai,hH (.cells [lI 0]),hH (.rows (l.map al)),oO (MN h1),oO (NT h1),oO (QC h1),oO (Rb h1),oO (RA al h1),nL al l] (PB G rv vj ?_);cases h;exact gr 2 [] [hW 5,hH (.ng 0),rp 3 (eL l7 al)]
theorem sf{a b}{rv:Int}(h:tP a b=some rv):dK prog 47 [.one (.str a),.one (.str b)] [] (one (lI rv)) []:=by
 refine aX func47 λG=>?_
 simp only[tP,az,aq,ar,au]at h;rcases h with⟨r,h0,r1,h1,⟨h2,h⟩|⟨h2,⟨h3,r2,h4,h⟩|⟨h3,⟨h5,h⟩|⟨h5,⟨h6,h⟩|⟨h6,r3,h7,h⟩⟩⟩⟩⟩
 ·obtain rfl:=oK h;exact gr 13 [] [cC (fT h0),cC (fT h1),hP,hP,hP,oI ((!r.2.2)=false),oR True ((!r.2.2)=false),bT h2]
 ·obtain rfl:=oK h;exact gr 16 [] [cC (fT h0),cC (fT h1),hP,hP,hP,oI ((!r.2.2)=false),oR True ((!r.2.2)=false),bF h2,hP,hP,oR True (r.1=true),bT h3,cC (ve h4)]
 ·cases h;exact gr 19 [] [cC (fT h0),cC (fT h1),hP,hP,hP,oI ((!r.2.2)=false),oR True ((!r.2.2)=false),bF h2,hP,hP,oR True (r.1=true),bF h3,bT h5]
 ·obtain rfl:=oK h;exact gr 22 [] [cC (fT h0),cC (fT h1),hP,hP,hP,oI ((!r.2.2)=false),oR True ((!r.2.2)=false),bF h2,hP,hP,oR True (r.1=true),bF h3,bF h5,bT h6]
 ·obtain rfl:=oK h;exact gr 24 [] [cC (fT h0),cC (fT h1),hP,hP,hP,oI ((!r.2.2)=false),oR True ((!r.2.2)=false),bF h2,hP,hP,oR True (r.1=true),bF h3,bF h5,bF h6,cC (ve h7)]
def Ra(rv:Int)(cf:Cf):Prop:=Go prog f13 [] G (one (lI rv)) [] cf
def Mb(rv:Int)(b p q r1 s0:I)(Rt:Int):Prop:=Ra G rv ⟨[.c 124,.l 124,.b 0],⟨73,[vS 5 p,vS 6 q,vS 7 r1,vS 8 s0,vI 10 Rt],[]⟩⟩
theorem KE(rv:Int){b}:∀⦃s:I×I×I×I×Int⦄ ⦃e:Int⦄,aL (λs=>lY b s.1 s.2.1 s.2.2.1 s.2.2.2.1 s.2.2.2.2) s=some e->e=rv->Mb G rv b s.1 s.2.1 s.2.2.1 s.2.2.2.1 s.2.2.2.2:=by
 refine bz ?_
 rintro⟨p,q,r1,s0,Rt⟩ z_ h hI hE;simp only[lY,az,aq,ar,au]at h;rcases h with⟨r2,h2,r3,h3,r4,h4,⟨h5,h⟩|⟨h5,⟨h6,h⟩|⟨h6,⟨h7,h⟩|⟨h7,⟨h8,h⟩|⟨h8,h⟩⟩⟩⟩⟩
 ·obtain rfl:=(hE h:_=rv);exact gr 14 [] [cC (fE h2),cC (fE h3),cC (sf h4),bT h5]
 ·obtain rfl:=(hE h:_=rv);exact gr 20 [] [cC (fE h2),cC (fE h3),cC (sf h4),bF h5,hP,hP,hP,oI ((qe r2.2.1 bZ)=true),oR True ((qe r2.2.1 bZ)=true),bT h6]
 ·obtain rfl:=(hE h:_=rv);exact gr 23 [] [cC (fE h2),cC (fE h3),cC (sf h4),bF h5,hP,hP,hP,oI ((qe r2.2.1 bZ)=true),oR True ((qe r2.2.1 bZ)=true),bF h6,bT h7]
 ·obtain rfl:=(hE h:_=rv);exact gr 26 [] [cC (fE h2),cC (fE h3),cC (sf h4),bF h5,hP,hP,hP,oI ((qe r2.2.1 bZ)=true),oR True ((qe r2.2.1 bZ)=true),bF h6,bF h7,bT h8]
 ·exact gn 30 [5,6,7,8,10] [] [cC (fE h2),cC (fE h3),cC (sf h4),bF h5,hP,hP,hP,oI ((qe r2.2.1 bZ)=true),oR True ((qe r2.2.1 bZ)=true),bF h6,bF h7,bF h8] (hI h)
theorem pd{a b}{rv:Int}(h:jn a b=some rv):dK prog 13 [.one (.str a),.one (.str b)] [] (one (lI rv)) []:=by
 refine aX func13 λG=>?_
 simp only[jn,az,aq,ar,au]at h;rcases h with⟨r,h0,⟨h1,h⟩|⟨h1,r5,h9,h⟩⟩
 ·obtain rfl:=oK h;exact gr 10 [] [cC (jw h0),bT h1]
 ·refine gn 13 [5,6,7,8,10] [] [cC (jw h0),bF h1] (KE G rv h9 ?_);exact oK h
theorem rT{l j7}{rv:Bool}(h:xj l j7=some rv):dK prog 155 [.one (lL 16 l aw.enc),.one (lI j7)] [] (one (.bool rv)) []:=by
 refine aX func155 λG=>?_
 simp only[xj,az,aq,ar,au]at h;cases h;exact gr 4 [] [hP,hP,hP,oI ((cT j7 0)=true),nL aw.enc l,hP,hP,rp 2 (oI ((cT j7 0)=true)),oR True ((cT j7 0)=true)]
def Tj(rv:List ab)(cf:Cf):Prop:=Go prog f84 [] G (one (lL 2 rv ab.enc)) [] cf
theorem Cq(rv:List ab){l j7 l1}(h:qi l j7 l1=some rv):Tj G rv ⟨[.c 31],⟨35,[vL 0 16 l aw.enc,vI 1 j7,vO 5 0 2 l1 ab.enc],[oS 2 102 l1 ab.enc]⟩⟩:=by
 simp only[qi,az,aq,ar,au]at h;rcases h with⟨x1,h5,⟨h6,h7,h⟩|⟨h6,h⟩⟩
 ·cases h;exact gr 7 [] [cE aw.enc h5,bT h6,oO (Eq.refl ([(ab.mk j7 true)].map ab.enc).length),aO ab.enc h7,hW 5,hH (.ng 2),rp 4 (oO (Eq.refl ((l1++[(ab.mk j7 true)]).map ab.enc).length))]
 ·obtain rfl:=oK h;exact gr 7 [] [cE aw.enc h5,bF h6,hW 5,hH (.ng 0),rp 3 (eL l1 ab.enc)]
theorem nK{l j7}{rv:List ab}(h:mr l j7=some rv):dK prog 84 [.one (lL 16 l aw.enc),.one (lI j7)] [] (one (lL 2 rv ab.enc)) []:=by
 refine aX func84 λG=>?_
 simp only[mr,az,aq,ar,au]at h;rcases h with⟨r,h0,⟨h1,x0,h2,⟨h3,h4,h⟩|⟨h3,h⟩⟩|⟨h1,h⟩⟩
 ·exact gn 14 [0,1,5] [1] [cC (rT h0),nF h1,cE aw.enc h2,bT h3,oO (Eq.refl ([(ab.mk j7 false)].map ab.enc).length),aN (l:=([(ab.mk j7 false)]:List ab)) ab.enc h4] (Cq G rv h)
 ·exact gn 14 [0,1,5] [0] [cC (rT h0),nF h1,cE aw.enc h2,bF h3,hW 1,hH (.nP 5 2 102)] (Cq G rv h)
 ·cases h;exact gr 10 [] [cC (rT h0),nT h1,hW 3,hH (.D1 4 0 2)]
def QD(rv:List ab)(cf:Cf):Prop:=Go prog f33 [] G (one (lL 2 rv ab.enc)) [] cf
def Tq(rv:List ab)(x0:ae)(l:List ab)(v:Int):Prop:=QD G rv ⟨[.c 116,.l 116,.b 0,.c 15],⟨25,[vP 1 0 6,vO 3 1 2 l ab.enc,vL 7 16 x0.ai aw.enc,vI 8 (ay x0.ai),vI 9 v],[oX 6 30 (ae.enc x0),oS 2 102 l ab.enc]⟩⟩
def Rh(rv:List ab)(x0:ae)(l1:List ab):Prop:=QD G rv ⟨[.c 15],⟨25,[vO 3 0 2 l1 ab.enc],[oS 2 102 l1 ab.enc]⟩⟩
theorem Ri(rv:List ab){x0}:∀⦃s:List ab×Int⦄ ⦃e:List ab⦄,aL (λs=>qL x0 s.1 s.2) s=some e->Rh G rv x0 e->Tq G rv x0 s.1 s.2:=by
 refine bz ?_
 rintro⟨l,v⟩ z_ h hI hE;simp only[qL,az,aq,ar,au]at h;rcases h with⟨h0,x1,h1,⟨h2,h⟩|⟨h2,r,h3,h4,h⟩⟩|⟨h0,h⟩
 ·exact gn 16 [1,3,7,8,9] [0,1] [bT h0,cE aw.enc h1,nF h2] (hI h)
 ·exact gn 16 [1,3,7,8,9] [0,3] [bT h0,cE aw.enc h1,nT h2,cC (nK h3),aO ab.enc h4] (hI h)
 ·exact gn 5 [3] [1] [bF h0] (hE h)
theorem N4{x0}{rv:List ab}(h:BL x0=some rv):dK prog 33 [.agg (ae.enc x0)] [] (one (lL 2 rv ab.enc)) []:=by
 refine aX func33 λG=>?_
 simp only[BL,az,aq,ar,au]at h;obtain⟨l1,h5,h⟩:=h;refine gn 9 [1,3,7,8,9] [0,1] [nL aw.enc x0.ai,hW 3,hH (.nP 3 2 102)] (Ri G rv h5 ?_);obtain rfl:=oK h;exact gr 2 [] [hW 4,hH (.ng 0),rp 3 (eL l1 ab.enc)]
theorem eh{b9 i}{rv:Bool}(h:iN b9 i=some rv):dK prog 76 [.one (lI b9),.one (lI i)] [] (one (.bool rv)) []:=by
 refine aX func76 λG=>?_
 simp only[iN,az,aq,ar,au]at h;rcases h with⟨h0,h1,h⟩|⟨h0,h⟩
 ·cases h;exact gr 4 [] [hP,hP,hP,oI ((cT i 0)=true),oR True ((cT i 0)=true),rp 3 (bT h0),oO (h1),rp 3 (bT h0)]
 ·obtain rfl:=oK h;exact gr 4 [] [hP,hP,hP,oI ((cT i 0)=true),oR True ((cT i 0)=true),rp 6 (bF h0)]
def N7(rv:(O ax)×Int)(cf:Cf):Prop:=Go prog f31 [] G (match rv.1 with|some c_=>.j0 [.one (.op 0 24 0 0),.one (lI rv.2)]|none=>.j0 [.one (.L3),.one (lI rv.2)]) (match rv.1 with|some c_=>[oX 24 94 (ax.enc c_)]|none=>[]) cf
def Rk(rv:(O ax)×Int)(x0:ae)(kind:Int)(fZ:List Int)(v:Int):Prop:=N7 G rv ⟨[.c 116,.l 116,.b 0,.c 15],⟨64,[vI 1 kind,vL 2 1 fZ al,vP 3 0 6,vL 27 1 fZ al,vI 28 (ay fZ),vI 29 v],[oX 6 30 (ae.enc x0)]⟩⟩
def PG(rv:(O ax)×Int)(x0:ae)(kind:Int)(fZ:List Int):Prop:=N7 G rv ⟨[.c 15],⟨64,[vI 1 kind,vL 2 1 fZ al,vP 3 0 6],[oX 6 30 (ae.enc x0)]⟩⟩
theorem PH(rv:(O ax)×Int){x0 kind fZ}:∀⦃s:Int⦄ ⦃e:(Unit)⊕((O ax)×Int)⦄,aL (λs=>oQ x0 kind fZ s) s=some e->jg e (λe=>PG G rv x0 kind fZ) (λe=>e=rv)->Rk G rv x0 kind fZ s:=by
 refine bz ?_
 intro v z_ h hI hE;simp only[oQ,az,aq,ar,au]at h;rcases h with⟨h1,x1,h2,⟨h3,h⟩|⟨h3,r,h4,⟨h5,h6,⟨h7,h⟩|⟨h7,h⟩⟩|⟨h5,h⟩⟩⟩|⟨h1,h⟩
 ·obtain rfl:=(hE h:_=rv);exact gr 14 [] [bT h1,cE al h2,rp 5 (bT h3),rp 8 tT]
 ·obtain rfl:=(hE h:_=rv);exact gr 14 [] [bT h1,cE al h2,rp 3 (bF h3),cC (eh h4),bF h3,bF h3,rp 4 (nF h5),nL aw.enc x0.ai,nF h5,oO (h6),nF h5,nF h5,bT h7]
 ·exact gn 16 [1,2,3,27,28,29] [0] [bT h1,cE al h2,rp 3 (bF h3),cC (eh h4),bF h3,bF h3,rp 4 (nF h5),nL aw.enc x0.ai,nF h5,oO (h6),nF h5,nF h5,bF h7] (hI h)
 ·obtain rfl:=(hE h:_=rv);exact gr 14 [] [bT h1,cE al h2,rp 3 (bF h3),cC (eh h4),bF h3,bF h3,rp 7 (nT h5),tT]
 ·exact gn 5 [1,2,3] [0] [bF h1] (hE h)
theorem Lq{x0 kind fZ}{rv:(O ax)×Int}(h:wU x0 kind fZ=some rv):dK prog 31 [.agg (ae.enc x0),.one (lI kind),.one (lL 1 fZ al)] [] (match rv.1 with|some c_=>.j0 [.one (.op 0 24 0 0),.one (lI rv.2)]|none=>.j0 [.one (.L3),.one (lI rv.2)]) (match rv.1 with|some c_=>[oX 24 94 (ax.enc c_)]|none=>[]):=by
 refine aX func31 λG=>?_
 simp only[wU,az,aq,ar,au]at h;rcases h with⟨h0,h⟩|⟨h0,e0,h8,h⟩
 ·cases h;exact gr 8 [] [rp 4 hP,rp 2 (oI ((bh kind 0)=false)),nL av.enc x0.types,rp 4 hP,rp 2 (oI ((bh kind 0)=false)),oR True ((bh kind 0)=false),oI (((bh kind 0)||(cT kind (ay x0.types)))=false),nL al fZ,hP,hP,hP,rp 2 (oI (((bh kind 0)||(cT kind (ay x0.types)))=false)),nL aw.enc x0.ai,hP,hP,rp 2 (oI (((bh kind 0)||(cT kind (ay x0.types)))=false)),oR True (((bh kind 0)||(cT kind (ay x0.types)))=false),bT h0]
 ·refine gn 12 [1,2,3,27,28,29] [0] [rp 4 hP,rp 2 (oI ((bh kind 0)=false)),nL av.enc x0.types,rp 4 hP,rp 2 (oI ((bh kind 0)=false)),oR True ((bh kind 0)=false),oI (((bh kind 0)||(cT kind (ay x0.types)))=false),nL al fZ,hP,hP,hP,rp 2 (oI (((bh kind 0)||(cT kind (ay x0.types)))=false)),nL aw.enc x0.ai,hP,hP,rp 2 (oI (((bh kind 0)||(cT kind (ay x0.types)))=false)),oR True (((bh kind 0)||(cT kind (ay x0.types)))=false),bF h0,nL al fZ] (PH G rv h8 ?_);rcases e0 with e0|r2
  ·simp only[c5,az,aq,ar,au]at h;obtain⟨x2,h9,r1,dO,h⟩:=h;cases h;exact gr 2 [1] [hH (.draw 15 []),cE av.enc h9,cC (N4 dO),nL ab.enc r1,hH (.nJ 1 22 1)]
  ·exact oK h
theorem E3{x0 kind fZ}{rv:(O ax)×Int}{c_:ax}(h:wU x0 kind fZ=some rv)(hc:rv.1=some c_):dK prog 31 [.agg (ae.enc x0),.one (lI kind),.one (lL 1 fZ al)] [] (.j0 [.one (.op 0 24 0 0),.one (lI rv.2)]) [oX 24 94 (ax.enc c_)]:=by
 have h2:=Lq h;rw[hc]at h2;exact h2
theorem E2{x0 kind fZ}{rv:(O ax)×Int}(h:wU x0 kind fZ=some rv)(hc:rv.1=none):dK prog 31 [.agg (ae.enc x0),.one (lI kind),.one (lL 1 fZ al)] [] (.j0 [.one (.L3),.one (lI rv.2)]) []:=by
 have h2:=Lq h;rw[hc]at h2;exact h2
theorem HJ{w}{rv:ah×ax}(h:lZ w=some rv):dK prog 34 [.one (.op 0 24 0 0)] [bX 24 94 (ax.enc w)] (gG [lI rv.1.place,lI rv.1.memory,lI rv.1.mD,lI rv.1.ak,lL 1 rv.1.load al,lL 2 rv.1.fi ag.enc,.str rv.1.value]) [oX 24 94 [lL 1 rv.2.x.bV.bm bN,lL 6 rv.2.x.bV.eX a7.enc,lL 14 rv.2.x.types av.enc,lL 16 rv.2.x.ai aw.enc,lL 2 rv.2.x.dx aW.enc,lL 2 rv.2.x.before aW.enc,lI rv.2.kind,.str rv.2.t.name,lI rv.2.t.q7,lI rv.2.t.aY,lI rv.2.t.eI,lL 1 rv.2.t.cap al,lI rv.2.t.cF,lI rv.2.t.aJ,lI rv.2.t.bA,lI rv.2.t.bI,lI rv.2.t.eu,lI rv.2.t.bJ,lI rv.2.t.gA,lI rv.2.t.cP,lI rv.2.t.de,lL 1 rv.2.fZ al,lL 1 rv.2.cR bN,lI rv.2.tn]]:=by
 refine aX func34 λG=>?_
 simp only[lZ,az,aq,ar,au]at h;obtain⟨l,h0,h⟩:=h;cases h;exact gr 4 [0] [hH (.draw 20 []),nL al w.t.cap,hH (.cells [lI 0]),hH (.rows (l.map al)),oO (MN h0),oO (NT h0),oO (QC h0),oO (Rb h0),oO (RA al h0),hW 1,hH (.ng 2),hH (.ng 3),rp 3 (eL l al),rp 3 (oO (Eq.refl ([(ag.mk w.t.bA 0)].map ag.enc).length))]
theorem vU{t cF}{rv:Bool}(h:sI t cF=some rv):dK prog 85 [.agg (av.enc t),.one (lI cF)] [] (one (.bool rv)) []:=by
 refine aX func85 λG=>?_
 simp only[sI,az,aq,ar,au]at h;cases h;exact gr 4 [] [rp 9 hP,oI ((cT t.cF 0)=true),oR True ((cT t.cF 0)=true),rp 4 (oI (((cT t.cF 0)&&(cT cF 0))=true)),oR True (((cT t.cF 0)&&(cT cF 0))=true)]
theorem GF{a b}{rv:I×Int}(h:Fh a b=some rv):dK prog 44 [.one (.str a),.one (.str b)] [] (.j0 [.one (.str rv.1),.one (lI rv.2)]) []:=by
 refine aX func44 λG=>?_
 simp only[Fh,az,aq,ar,au]at h;rcases h with⟨r,h0,⟨h1,h⟩|⟨h1,x0,h2,x1,h3,r1,h4,h⟩⟩
 ·cases h;exact gr 10 [] [hW 9,hH (.ng 0),oO (Eq.refl ([a,b].map bN).length),cC (gz h0),bT h1]
 ·cases h;exact gr 11 [] [hW 9,hH (.ng 0),oO (Eq.refl ([a,b].map bN).length),cC (gz h0),bF h1,hH (.draw 18 []),cE aG.enc h2,rp 2 (cE aG.enc h3),cC (OB h4)]
theorem Je{a b}{rv:I×Int}(h:ud a b=some rv):dK prog 43 [.one (.str a),.one (.str b),.one (.fn (.func 44) [])] [] (.j0 [.one (.str rv.1),.one (lI rv.2)]) []:=by
 refine aX func43 λG=>?_
 simp only[ud,az,aq,ar,au]at h;rcases h with⟨r,h0,⟨h1,h⟩|⟨h1,r1,h2,⟨h3,h⟩|⟨h3,x0,h4,x1,h5,r2,h6,⟨h7,h⟩|⟨h7,r3,h8,⟨h9,h⟩|⟨h9,x2,dO,r4,g_,h⟩⟩⟩⟩⟩
 ·cases h;exact gr 10 [] [cC (jw h0),bT h1]
 ·cases h;exact gr 17 [] [cC (jw h0),bF h1,hW 10,hH (.ng 0),oO (Eq.refl ([(bj.mk r.1 r.2.2.2.1),(bj.mk r.2.2.1 r.2.1)].map bj.enc).length),cC (ff h2),bT h3]
 ·cases h;exact gr 24 [] [cC (jw h0),bF h1,hW 10,hH (.ng 0),oO (Eq.refl ([(bj.mk r.1 r.2.2.2.1),(bj.mk r.2.2.1 r.2.1)].map bj.enc).length),cC (ff h2),bF h3,hH (.draw 13 []),cE bN h4,cE bN h5,cC (GF h6),bT h7]
 ·cases h;exact gr 31 [] [cC (jw h0),bF h1,hW 10,hH (.ng 0),oO (Eq.refl ([(bj.mk r.1 r.2.2.2.1),(bj.mk r.2.2.1 r.2.1)].map bj.enc).length),cC (ff h2),bF h3,hH (.draw 13 []),cE bN h4,cE bN h5,cC (GF h6),bF h7,hW 7,hH (.ng 1),oO (Eq.refl ([(bj.mk r.2.1 r.2.2.2.1)].map bj.enc).length),cC (ff h8),bT h9]
 ·cases h;exact gr 32 [] [cC (jw h0),bF h1,hW 10,hH (.ng 0),oO (Eq.refl ([(bj.mk r.1 r.2.2.2.1),(bj.mk r.2.2.1 r.2.1)].map bj.enc).length),cC (ff h2),bF h3,hH (.draw 13 []),cE bN h4,cE bN h5,cC (GF h6),bF h7,hW 7,hH (.ng 1),oO (Eq.refl ([(bj.mk r.2.1 r.2.2.2.1)].map bj.enc).length),cC (ff h8),bF h9,cE bN dO,cC (GP g_)]
theorem Gs{a b}{rv:I×Int}(h:zU a b=some rv):dK prog 12 [.one (.str a),.one (.str b)] [] (.j0 [.one (.str rv.1),.one (lI rv.2)]) []:=by
 refine aX func12 λG=>?_
 simp only[zU,az,aq,ar,au]at h;obtain⟨r,h0,h⟩:=h;cases h;exact gr 4 [] [cC (Je h0)]
theorem Qas{n}{rv:I}(h:OA n=some rv):dK prog 42 [.one (lI n)] [] (one (.str rv)) []:=by
 refine aX func42 λG=>?_
 simp only[OA,az,aq,ar,au]at h;obtain⟨r,h0,h⟩:=h;obtain rfl:=oK h;exact gr 4 [] [cC (Xb h0)]
theorem QB{n}{rv:I}(h:EX n=some rv):dK prog 11 [.one (lI n)] [] (one (.str rv)) []:=by
 refine aX func11 λG=>?_
 simp only[EX,az,aq,ar,au]at h;obtain⟨r,h0,h⟩:=h;obtain rfl:=oK h;exact gr 4 [] [cC (Qas h0)]
theorem vN{w a n}{rv:I}(h:gy w a n=some rv):dK prog 91 [.one (.ip (ax.enc w) 0),.one (.str a),.one (lI n)] [] (one (.str rv)) []:=by
 refine aX func91 λG=>?_
 simp only[gy,az,aq,ar,au]at h;obtain⟨r,h0,r1,h1,h⟩:=h;cases h;exact gr 6 [] [cC (QB h0),cC (Gr h1)]
theorem Rc{fZ memory aP}{rv:Int}(h:u3 fZ memory aP=some rv):dK prog 156 [.one (lL 1 fZ al),.one (lI memory),.one (lI aP)] [] (one (lI rv)) []:=by
 refine aX func156 λG=>?_
 simp only[u3,az,aq,ar,au]at h;rcases h with⟨h0,h⟩|⟨h0,x0,h1,h2,h⟩
 ·obtain rfl:=oK h;exact gr 8 [] [hP,hP,hP,oI ((bh aP 0)=false),nL al fZ,hP,hP,rp 2 (oI ((bh aP 0)=false)),oR True ((bh aP 0)=false),bT h0]
 ·cases h;exact gr 9 [] [hP,hP,hP,oI ((bh aP 0)=false),nL al fZ,hP,hP,rp 2 (oI ((bh aP 0)=false)),oR True ((bh aP 0)=false),bF h0,hH (.draw 10 []),cE al h1,oO (h2)]
theorem E1{a kind}{rv:Int}(h:tM a kind=some rv):dK prog 157 [.one (lI a),.one (lI kind)] [] (one (lI rv)) []:=by
 refine aX func157 λG=>?_
 simp only[tM,az,aq,ar,au]at h;rcases h with⟨h0,h⟩|⟨h0,h⟩
 ·obtain rfl:=oK h;exact gr 8 [] [rp 4 hP,rp 2 (oI ((cp a (-1))=true)),oR True ((cp a (-1))=true),bT h0]
 ·obtain rfl:=oK h;exact gr 9 [] [rp 4 hP,rp 2 (oI ((cp a (-1))=true)),oR True ((cp a (-1))=true),bF h0]
theorem HO{w p o}{rv:ah×Bool×ax}(h:pO w p o=some rv):dK prog 86 [.one (.op 0 24 0 0),.agg (ah.enc p),.one (lI o)] [bX 24 94 (ax.enc w)] (.j0 [.agg [lI rv.1.place,lI rv.1.memory,lI rv.1.mD,lI rv.1.ak,lL 1 rv.1.load al,lL 2 rv.1.fi ag.enc,.str rv.1.value],.one (.bool rv.2.1)]) [oX 24 94 [lL 1 rv.2.2.x.bV.bm bN,lL 6 rv.2.2.x.bV.eX a7.enc,lL 14 rv.2.2.x.types av.enc,lL 16 rv.2.2.x.ai aw.enc,lL 2 rv.2.2.x.dx aW.enc,lL 2 rv.2.2.x.before aW.enc,lI rv.2.2.kind,.str rv.2.2.t.name,lI rv.2.2.t.q7,lI rv.2.2.t.aY,lI rv.2.2.t.eI,lL 1 rv.2.2.t.cap al,lI rv.2.2.t.cF,lI rv.2.2.t.aJ,lI rv.2.2.t.bA,lI rv.2.2.t.bI,lI rv.2.2.t.eu,lI rv.2.2.t.bJ,lI rv.2.2.t.gA,lI rv.2.2.t.cP,lI rv.2.2.t.de,lL 1 rv.2.2.fZ al,lL 1 rv.2.2.cR bN,lI rv.2.2.tn]]:=by
 refine aX func86 λG=>?_
 simp only[pO,az,aq,ar,au]at h;rcases h with⟨r,h0,⟨h1,h⟩|⟨h1,r1,h2,⟨h3,h⟩|⟨h3,r2,h4,x0,h5,r3,h6,r4,h7,r5,h8,⟨h9,h⟩|⟨h9,x1,dO,r6,g_,h⟩⟩⟩⟩
 ·cases h;exact gr 8 [0] [cC (eh h0),rp 5 (bT h1),tT]
 ·cases h;exact gr 8 [0] [cC (eh h0),rp 4 (bF h1),cC (eh h2),bF h1,bT h3]
 ·cases h
 ·cases h;exact gr 20 [0] [cC (eh h0),rp 4 (bF h1),cC (eh h2),bF h1,bF h3,hH (.draw 9 []),cC (Rc h4),hH (.draw 31 []),cE aw.enc h5,cC (E1 h6),cE aw.enc h5,cC (E1 h7),oO (zL 16),cC (vN h8),oO (neE bN h9),tT,hH (.bit true),hH (.draw 15 [(1,14)]),cE bN dO,cC (Gs g_)]
def Ny(rv:Bool)(cf:Cf):Prop:=Go prog f56 [] G (one (.bool rv)) [] cf
def QY(rv:Bool)(a capacity:List Int)(v:Int):Prop:=Ny G rv ⟨[.c 116,.l 116,.b 0,.c 15],⟨26,[vL 1 1 capacity al,vL 12 1 a al,vI 13 (ay a),vI 14 v],[]⟩⟩
def Pc(rv:Bool)(a capacity:List Int):Prop:=Ny G rv ⟨[.c 15],⟨26,[],[]⟩⟩
theorem Pd(rv:Bool){a capacity}:∀⦃s:Int⦄ ⦃e:(Unit)⊕(Bool)⦄,aL (λs=>oL a capacity s) s=some e->jg e (λe=>Pc G rv a capacity) (λe=>e=rv)->QY G rv a capacity s:=by
 refine bz ?_
 intro v z_ h hI hE;simp only[oL,az,aq,ar,au]at h;rcases h with⟨h1,x0,h2,x1,h3,⟨h4,h⟩|⟨h4,h⟩⟩|⟨h1,h⟩
 ·obtain rfl:=(hE h:_=rv);exact gr 14 [] [bT h1,cE al h2,cE al h3,bT h4]
 ·exact gn 16 [1,12,13,14] [] [bT h1,cE al h2,cE al h3,bF h4] (hI h)
 ·exact gn 5 [] [] [bF h1] (hE h)
theorem vW{a capacity}{rv:Bool}(h:sL a capacity=some rv):dK prog 56 [.one (lL 1 a al),.one (lL 1 capacity al)] [] (one (.bool rv)) []:=by
 refine aX func56 λG=>?_
 simp only[sL,az,aq,ar,au]at h;rcases h with⟨h0,h⟩|⟨h0,e0,h5,h⟩
 ·obtain rfl:=oK h;exact gr 8 [] [nL al a,nL al capacity,bT h0]
 ·refine gn 12 [1,12,13,14] [] [nL al a,nL al capacity,bF h0,nL al a] (Pd G rv h5 ?_);rcases e0 with e0|r
  ·obtain rfl:=oK h;exact gr 2 [] []
  ·exact oK h
theorem Uh{a b}{rv:Int}(h:FF a b=some rv):dK prog 194 [.one (lI a),.one (lI b)] [] (one (lI rv)) []:=by
 refine aX func194 λG=>?_
 simp only[FF,az,aq,ar,au]at h;cases h;exact gr 4 [] []
def Aq(rv:List Int×Int)(cf:Cf):Prop:=Go prog f193 [] G (.j0 [.one (lL 1 rv.1 al),.one (lI rv.2)]) [] cf
def EA(rv:List Int×Int)(a b l l1:List Int)(v:Int):Prop:=Aq G rv ⟨[.c 244,.l 244,.b 0,.c 31],⟨38,[vL 0 1 a al,vL 1 1 b al,(2,one (.fn (.func 194) [])),vO 8 0 1 l1 al,vI 19 (ay a),vI 20 v],[oS 1 3 l1 al]⟩⟩
def DM(rv:List Int×Int)(a b l l2:List Int):Prop:=Aq G rv ⟨[.c 31],⟨38,[vO 8 0 1 l2 al],[oS 1 3 l2 al]⟩⟩
theorem DN(rv:List Int×Int){a b l}:∀⦃s:List Int×Int⦄ ⦃e:List Int⦄,aL (λs=>fL a b l s.1 s.2) s=some e->DM G rv a b l e->EA G rv a b l s.1 s.2:=by
 refine bz ?_
 rintro⟨l1,v⟩ z_ h hI hE;simp only[fL,az,aq,ar,au]at h;rcases h with⟨h2,x0,h3,x1,h4,r,h5,x2,h6,h⟩|⟨h2,h⟩
 ·exact gn 13 [0,1,2,8,19,20] [0] [bT h2,hH (.draw 13 []),cE al h3,cE al h4,cC (Uh h5),oO (lp h6),oO (ln al h6),rE al h6,hH (.rows ((jq l1 v r).map al)),hH (.Dt 0 ((jq l1 v r).map al).length),oO (Tv al l1 v r),rp 2 (oO (B8 al l1 v r))] (hI h)
 ·exact gn 5 [8] [0] [bF h2] (hE h)
theorem G9{a b}{rv:List Int×Int}(h:sM a b=some rv):dK prog 193 [.one (lL 1 a al),.one (lL 1 b al),.one (.fn (.func 194) [])] [] (.j0 [.one (lL 1 rv.1 al),.one (lI rv.2)]) []:=by
 refine aX func193 λG=>?_
 simp only[sM,az,aq,ar,au]at h;rcases h with⟨h0,h⟩|⟨h0,l,h1,l2,h7,h⟩
 ·cases h;exact gr 8 [] [nL al a,nL al b,bT h0,hW 4,hH (.D1 6 0 1)]
 ·refine gn 14 [0,1,2,8,19,20] [0] [nL al a,nL al b,bF h0,nL al a,hH (.cells [lI 0]),hH (.rows (l.map al)),oO (MN h1),oO (NT h1),oO (QC h1),oO (Rb h1),oO (RA al h1),nL al a] (DN G rv h7 ?_);cases h;exact gr 2 [] [hW 5,hH (.ng 0),rp 3 (eL l2 al)]
theorem xH{a b}{rv:List Int×Int}(h:xb a b=some rv):dK prog 124 [.one (lL 1 a al),.one (lL 1 b al)] [] (.j0 [.one (lL 1 rv.1 al),.one (lI rv.2)]) []:=by
 refine aX func124 λG=>?_
 simp only[xb,az,aq,ar,au]at h;obtain⟨r,h0,h⟩:=h;cases h;exact gr 4 [] [cC (G9 h0)]
theorem S7{a b}{rv:Int}(h:De a b=some rv):dK prog 214 [.one (lI a),.one (lI b)] [] (one (lI rv)) []:=by
 refine aX func214 λG=>?_
 simp only[De,az,aq,ar,au]at h;cases h;exact gr 4 [] []
def zm(rv:List Int×Int)(cf:Cf):Prop:=Go prog f193 [] G (.j0 [.one (lL 1 rv.1 al),.one (lI rv.2)]) [] cf
def DL(rv:List Int×Int)(a b l l1:List Int)(v:Int):Prop:=zm G rv ⟨[.c 244,.l 244,.b 0,.c 31],⟨38,[vL 0 1 a al,vL 1 1 b al,(2,one (.fn (.func 214) [])),vO 8 0 1 l1 al,vI 19 (ay a),vI 20 v],[oS 1 3 l1 al]⟩⟩
def CK(rv:List Int×Int)(a b l l2:List Int):Prop:=zm G rv ⟨[.c 31],⟨38,[vO 8 0 1 l2 al],[oS 1 3 l2 al]⟩⟩
theorem CL(rv:List Int×Int){a b l}:∀⦃s:List Int×Int⦄ ⦃e:List Int⦄,aL (λs=>fu a b l s.1 s.2) s=some e->CK G rv a b l e->DL G rv a b l s.1 s.2:=by
 refine bz ?_
 rintro⟨l1,v⟩ z_ h hI hE;simp only[fu,az,aq,ar,au]at h;rcases h with⟨h2,x0,h3,x1,h4,r,h5,x2,h6,h⟩|⟨h2,h⟩
 ·exact gn 13 [0,1,2,8,19,20] [0] [bT h2,hH (.draw 13 []),cE al h3,cE al h4,cC (S7 h5),oO (lp h6),oO (ln al h6),rE al h6,hH (.rows ((jq l1 v r).map al)),hH (.Dt 0 ((jq l1 v r).map al).length),oO (Tv al l1 v r),rp 2 (oO (B8 al l1 v r))] (hI h)
 ·exact gn 5 [8] [0] [bF h2] (hE h)
theorem FE{a b}{rv:List Int×Int}(h:re a b=some rv):dK prog 193 [.one (lL 1 a al),.one (lL 1 b al),.one (.fn (.func 214) [])] [] (.j0 [.one (lL 1 rv.1 al),.one (lI rv.2)]) []:=by
 refine aX func193 λG=>?_
 simp only[re,az,aq,ar,au]at h;rcases h with⟨h0,h⟩|⟨h0,l,h1,l2,h7,h⟩
 ·cases h;exact gr 8 [] [nL al a,nL al b,bT h0,hW 4,hH (.D1 6 0 1)]
 ·refine gn 14 [0,1,2,8,19,20] [0] [nL al a,nL al b,bF h0,nL al a,hH (.cells [lI 0]),hH (.rows (l.map al)),oO (MN h1),oO (NT h1),oO (QC h1),oO (Rb h1),oO (RA al h1),nL al a] (CL G rv h7 ?_);cases h;exact gr 2 [] [hW 5,hH (.ng 0),rp 3 (eL l2 al)]
theorem FD{a b}{rv:List Int×Int}(h:zJ a b=some rv):dK prog 158 [.one (lL 1 a al),.one (lL 1 b al)] [] (.j0 [.one (lL 1 rv.1 al),.one (lI rv.2)]) []:=by
 refine aX func158 λG=>?_
 simp only[zJ,az,aq,ar,au]at h;obtain⟨r,h0,h⟩:=h;cases h;exact gr 4 [] [cC (FE h0)]
def HM(rv:ah×Bool×ax)(cf:Cf):Prop:=Go prog f87 [0] G (.j0 [.agg [lI rv.1.place,lI rv.1.memory,lI rv.1.mD,lI rv.1.ak,lL 1 rv.1.load al,lL 2 rv.1.fi ag.enc,.str rv.1.value],.one (.bool rv.2.1)]) [oX 24 94 [lL 1 rv.2.2.x.bV.bm bN,lL 6 rv.2.2.x.bV.eX a7.enc,lL 14 rv.2.2.x.types av.enc,lL 16 rv.2.2.x.ai aw.enc,lL 2 rv.2.2.x.dx aW.enc,lL 2 rv.2.2.x.before aW.enc,lI rv.2.2.kind,.str rv.2.2.t.name,lI rv.2.2.t.q7,lI rv.2.2.t.aY,lI rv.2.2.t.eI,lL 1 rv.2.2.t.cap al,lI rv.2.2.t.cF,lI rv.2.2.t.aJ,lI rv.2.2.t.bA,lI rv.2.2.t.bI,lI rv.2.2.t.eu,lI rv.2.2.t.bJ,lI rv.2.2.t.gA,lI rv.2.2.t.cP,lI rv.2.2.t.de,lL 1 rv.2.2.fZ al,lL 1 rv.2.2.cR bN,lI rv.2.2.tn]] cf
theorem lB(rv:ah×Bool×ax){w x1}(h:fB w x1=some rv):HM G rv ⟨[.b 0,.c 31],⟨84,[vP 0 0 24,vP 4 1 7,vP 6 2 7],[oX 24 94 (ax.enc w),oX 7 99 (ah.enc x1),oX 7 99 [lI 0,lI 0,lI 0,lI 0,.fk,.fk,.str ByteArray.empty]]⟩⟩:=by
 simp only[fB,az,aq,ar,au]at h;obtain⟨r3,dO,h⟩:=h;cases h;exact gr 3 [0] [hH (.draw 9 []),cC (vW dO)]
theorem sV{w p v}{rv:ah×Bool×ax}(h:n_ w p v=some rv):dK prog 87 [.one (.op 0 24 0 0),.agg (ah.enc p),.agg (ab.enc v)] [bX 24 94 (ax.enc w)] (.j0 [.agg [lI rv.1.place,lI rv.1.memory,lI rv.1.mD,lI rv.1.ak,lL 1 rv.1.load al,lL 2 rv.1.fi ag.enc,.str rv.1.value],.one (.bool rv.2.1)]) [oX 24 94 [lL 1 rv.2.2.x.bV.bm bN,lL 6 rv.2.2.x.bV.eX a7.enc,lL 14 rv.2.2.x.types av.enc,lL 16 rv.2.2.x.ai aw.enc,lL 2 rv.2.2.x.dx aW.enc,lL 2 rv.2.2.x.before aW.enc,lI rv.2.2.kind,.str rv.2.2.t.name,lI rv.2.2.t.q7,lI rv.2.2.t.aY,lI rv.2.2.t.eI,lL 1 rv.2.2.t.cap al,lI rv.2.2.t.cF,lI rv.2.2.t.aJ,lI rv.2.2.t.bA,lI rv.2.2.t.bI,lI rv.2.2.t.eu,lI rv.2.2.t.bJ,lI rv.2.2.t.gA,lI rv.2.2.t.cP,lI rv.2.2.t.de,lL 1 rv.2.2.fZ al,lL 1 rv.2.2.cR bN,lI rv.2.2.tn]]:=by
 refine aX func87 λG=>?_
 simp only[n_,az,aq,ar,au]at h;rcases h with⟨x0,h0,⟨h1,⟨h2,r,h3,⟨h4,r1,h5,h6,h⟩|⟨h4,h⟩⟩|⟨h2,h⟩⟩|⟨h1,r2,h7,⟨h8,h9,h⟩|⟨h8,h⟩⟩⟩
 ·exact gn 22 [0,4,6] [0,1,3] [hH (.draw 10 []),cE aw.enc h0,rp 5 hP,rp 3 (oI ((cT x0.pick.place 0)=true)),oR True ((cT x0.pick.place 0)=true),nF h1,bT h2,cC (eh h3),nF h4,cC (FD h5),hH (.draw 7 []),oO (h6)] (lB G rv h)
 ·cases h;exact gr 20 [0] [hH (.draw 10 []),cE aw.enc h0,rp 5 hP,rp 3 (oI ((cT x0.pick.place 0)=true)),oR True ((cT x0.pick.place 0)=true),nF h1,bT h2,cC (eh h3),nT h4]
 ·exact gn 15 [0,4,6] [0,1,3] [hH (.draw 10 []),cE aw.enc h0,rp 5 hP,rp 3 (oI ((cT x0.pick.place 0)=true)),oR True ((cT x0.pick.place 0)=true),nF h1,bF h2] (lB G rv h)
 ·exact gn 17 [0,4,6] [0,1,3] [hH (.draw 10 []),cE aw.enc h0,rp 5 hP,rp 3 (oI ((cT x0.pick.place 0)=true)),oR True ((cT x0.pick.place 0)=true),nT h1,cC (xH h7),bT h8,hH (.draw 7 []),oO (h9)] (lB G rv h)
 ·exact gn 17 [0,4,6] [0,1,3] [hH (.draw 10 []),cE aw.enc h0,rp 5 hP,rp 3 (oI ((cT x0.pick.place 0)=true)),oR True ((cT x0.pick.place 0)=true),nT h1,cC (xH h7),bF h8] (lB G rv h)
def XA(rv:aS×Int)(cf:Cf):Prop:=Go prog f88 [] G (.j0 [.agg [lI rv.1.place,lI rv.1.bA,lI rv.1.bI,lI rv.1.dG],.one (lI rv.2)]) [] cf
theorem EV(rv:aS×Int){x1}(h:v_ x1=some rv):XA G rv ⟨[.c 31],⟨32,[vP 4 0 4,vP 6 1 4],[oX 4 67 [lI 0,lI 0,lI 0,lI 0],oX 4 67 (aS.enc x1)]⟩⟩:=by
 simp only[v_,az,aq,ar,au]at h;rcases h with⟨h4,h⟩|⟨h4,h⟩
 ·cases h;exact gr 6 [] [bT h4]
 ·cases h;exact gr 7 [] [bF h4]
theorem qV{l v}{rv:aS×Int}(h:uC l v=some rv):dK prog 88 [.one (lL 16 l aw.enc),.agg (ab.enc v)] [] (.j0 [.agg [lI rv.1.place,lI rv.1.bA,lI rv.1.bI,lI rv.1.dG],.one (lI rv.2)]) []:=by
 refine aX func88 λG=>?_
 simp only[uC,az,aq,ar,au]at h;rcases h with⟨r,h0,⟨h1,x0,h2,⟨h3,h⟩|⟨h3,h⟩⟩|⟨h1,h⟩⟩
 ·exact gn 14 [4,6] [1,2] [cC (rT h0),nF h1,cE aw.enc h2,bT h3,cE aw.enc h2] (EV G rv h)
 ·exact gn 14 [4,6] [1,2] [cC (rT h0),nF h1,cE aw.enc h2,bF h3] (EV G rv h)
 ·cases h;exact gr 8 [] [cC (rT h0),nT h1]
theorem iI{n i}{rv:Bool}(h:tL n i=some rv):dK prog 215 [.agg (aC.enc n),.one (lI i)] [] (one (.bool rv)) []:=by
 refine aX func215 λG=>?_
 simp only[tL,az,aq,ar,au]at h;cases h;exact gr 4 [] [rp 4 hP,rp 2 (oI ((cT i 0)=true)),nL bN n.bm,hP,hP,rp 2 (oI ((cT i 0)=true)),oR True ((cT i 0)=true)]
theorem ET{a}{rv:DD}(h:Aa a=some rv):dK prog 251 [.agg (a7.enc a)] [] (gG [lI rv.aY,lI rv.eI,lI rv.aJ]) []:=by
 refine aX func251 λG=>?_
 simp only[Aa,az,aq,ar,au]at h;cases h;exact gr 4 [] []
def I6(rv:a7×Bool)(cf:Cf):Prop:=Go prog f216 [] G (.j0 [.agg [lI rv.1.aY,lI rv.1.eI,lI rv.1.aJ,lI rv.1.cV,lL 2 rv.1.kD aK.enc,lL 2 rv.1.jY aK.enc],.one (.bool rv.2)]) [] cf
def NH(rv:a7×Bool)(n:aC)(aJ aY eI v:Int):Prop:=I6 G rv ⟨[.c 116,.l 116,.b 0,.c 15],⟨31,[vP 8 0 6,vP 10 1 3,vL 18 6 n.eX a7.enc,vI 19 (ay n.eX),vI 20 v],[oX 6 150 [lI 0,lI 0,lI 0,lI 0,.fk,.fk],oX 3 330 [lI aY,lI eI,lI aJ]]⟩⟩
def LY(rv:a7×Bool)(n:aC)(aJ aY eI:Int):Prop:=I6 G rv ⟨[.c 15],⟨31,[vP 8 0 6],[oX 6 150 [lI 0,lI 0,lI 0,lI 0,.fk,.fk]]⟩⟩
theorem LZ(rv:a7×Bool){n aJ aY eI}:∀⦃s:Int⦄ ⦃e:(Unit)⊕(a7×Bool)⦄,aL (λs=>tp n aJ aY eI s) s=some e->jg e (λe=>LY G rv n aJ aY eI) (λe=>e=rv)->NH G rv n aJ aY eI s:=by
 refine bz ?_
 intro v z_ h hI hE;simp only[tp,az,aq,ar,au]at h;rcases h with⟨h0,x0,h1,r,h2,⟨h3,h⟩|⟨h3,h⟩⟩|⟨h0,h⟩
 ·obtain rfl:=(hE h:_=rv);exact gr 14 [] [bT h0,cE a7.enc h1,hH (.draw 4 []),cC (ET h2),bT h3]
 ·exact gn 16 [8,10,18,19,20] [0,1] [bT h0,cE a7.enc h1,hH (.draw 4 []),cC (ET h2),bF h3] (hI h)
 ·exact gn 5 [8] [0] [bF h0] (hE h)
theorem GO{n aJ aY eI}{rv:a7×Bool}(h:yD n aJ aY eI=some rv):dK prog 216 [.agg (aC.enc n),.one (lI aJ),.one (lI aY),.one (lI eI)] [] (.j0 [.agg [lI rv.1.aY,lI rv.1.eI,lI rv.1.aJ,lI rv.1.cV,lL 2 rv.1.kD aK.enc,lL 2 rv.1.jY aK.enc],.one (.bool rv.2)]) []:=by
 refine aX func216 λG=>?_
 simp only[yD,az,aq,ar,au]at h;obtain⟨e0,h4,h⟩:=h;refine gn 9 [8,10,18,19,20] [1,2] [nL a7.enc n.eX] (LZ G rv h4 ?_);rcases e0 with e0|r1
 ·cases h;exact gr 2 [] [hW 5,hH (.nJ 0 4 2),hH (.nJ 0 5 2)]
 ·exact oK h
def Dl(rv:Int)(cf:Cf):Prop:=Go prog f217 [] G (one (lI rv)) [] cf
def I7(rv:Int)(a:a7)(t out v:Int):Prop:=Dl G rv ⟨[.c 116,.l 116,.b 0,.c 15],⟨29,[vI 1 t,vI 5 out,vL 13 2 a.jY aK.enc,vI 14 (ay a.jY),vI 15 v],[]⟩⟩
def Hy(rv:Int)(a:a7)(t L9:Int):Prop:=Dl G rv ⟨[.c 15],⟨29,[vI 5 L9],[]⟩⟩
theorem Hz(rv:Int){a t}:∀⦃s:Int×Int⦄ ⦃e:Int⦄,aL (λs=>wS a t s.1 s.2) s=some e->Hy G rv a t e->I7 G rv a t s.1 s.2:=by
 refine bz ?_
 rintro⟨out,v⟩ z_ h hI hE;simp only[wS,az,aq,ar,au]at h;rcases h with⟨h1,x0,h2,⟨h3,h⟩|⟨h3,h⟩⟩|⟨h1,h⟩
 ·exact gn 16 [1,5,13,14,15] [] [bT h1,cE aK.enc h2,bT h3] (hI h)
 ·exact gn 16 [1,5,13,14,15] [] [bT h1,cE aK.enc h2,bF h3] (hI h)
 ·exact gn 5 [5] [] [bF h1] (hE h)
theorem L1{a t}{rv:Int}(h:tq a t=some rv):dK prog 217 [.agg (a7.enc a),.one (lI t)] [] (one (lI rv)) []:=by
 refine aX func217 λG=>?_
 simp only[tq,az,aq,ar,au]at h;obtain⟨r,h0,L9,h4,h⟩:=h;refine gn 9 [1,5,13,14,15] [] [cC (Fc h0),nL aK.enc a.jY] (Hz G rv h4 ?_);obtain rfl:=oK h;exact gr 2 [] []
theorem ka{n aJ aY eI t}{rv:Int×Int×Int}(h:uB n aJ aY eI t=some rv):dK prog 159 [.agg (aC.enc n),.one (lI aJ),.one (lI aY),.one (lI eI),.one (lI t)] [] (.j0 [.one (lI rv.1),.one (lI rv.2.1),.one (lI rv.2.2)]) []:=by
 refine aX func159 λG=>?_
 simp only[uB,az,aq,ar,au]at h;rcases h with⟨r,h0,⟨h1,r1,h2,⟨h3,⟨h4,h⟩|⟨h4,r2,h5,⟨h6,r3,h7,h⟩|⟨h6,h⟩⟩⟩|⟨h3,h⟩⟩|⟨h1,h⟩⟩
 ·cases h;exact gr 13 [] [cC (iI h0),rp 3 (nF h1),cC (iI h2),nF h1,nF h1,nF h3,bT h4]
 ·cases h;exact gr 21 [] [cC (iI h0),rp 3 (nF h1),cC (iI h2),nF h1,nF h1,nF h3,bF h4,cC (GO h5),nF h6,hH (.draw 8 []),cC (L1 h7)]
 ·cases h;exact gr 20 [] [cC (iI h0),rp 3 (nF h1),cC (iI h2),nF h1,nF h1,nF h3,bF h4,cC (GO h5),nT h6]
 ·cases h;exact gr 8 [] [cC (iI h0),rp 3 (nF h1),cC (iI h2),nF h1,nF h1,nT h3]
 ·cases h;exact gr 8 [] [cC (iI h0),rp 5 (nT h1),tT]
def mT(rv:List ag×Int×ax)(cf:Cf):Prop:=Go prog f89 [0] G (.j0 [.one (lL 2 rv.1 ag.enc),.one (lI rv.2.1)]) [oX 24 94 [lL 1 rv.2.2.x.bV.bm bN,lL 6 rv.2.2.x.bV.eX a7.enc,lL 14 rv.2.2.x.types av.enc,lL 16 rv.2.2.x.ai aw.enc,lL 2 rv.2.2.x.dx aW.enc,lL 2 rv.2.2.x.before aW.enc,lI rv.2.2.kind,.str rv.2.2.t.name,lI rv.2.2.t.q7,lI rv.2.2.t.aY,lI rv.2.2.t.eI,lL 1 rv.2.2.t.cap al,lI rv.2.2.t.cF,lI rv.2.2.t.aJ,lI rv.2.2.t.bA,lI rv.2.2.t.bI,lI rv.2.2.t.eu,lI rv.2.2.t.bJ,lI rv.2.2.t.gA,lI rv.2.2.t.cP,lI rv.2.2.t.de,lL 1 rv.2.2.fZ al,lL 1 rv.2.2.cR bN,lI rv.2.2.tn]] cf
def xm(rv:List ag×Int×ax)(w:ax)(p:ah)(eI:Int)(l:List ag)(v:Int)(l1:List ag)(x1:ag)(sR v1:Int):Prop:=mT G rv ⟨[.c 62668,.l 62668,.b 2,.b 1,.c 1959,.l 244,.b 0,.c 31],⟨90,[vP 0 0 24,vI 2 eI,vP 4 1 7,vO 8 2 2 l1 ag.enc,vI 9 sR,vP 11 3 2,vL 19 2 p.fi ag.enc,vI 20 (ay p.fi),vI 21 v,vO 25 4 1 [false,true] dN,vI 26 (ay [false,true]),vI 27 v1],[oX 24 94 (ax.enc w),oX 7 99 (ah.enc p),oS 2 158 l1 ag.enc,oX 2 158 (ag.enc x1),oS 1 4 [false,true] dN]⟩⟩
def wh(rv:List ag×Int×ax)(w:ax)(p:ah)(eI:Int)(l:List ag)(v:Int)(l2:List ag)(Xl:Int):Prop:=mT G rv ⟨[.b 1,.c 1959,.l 244,.b 0,.c 31],⟨90,[vP 0 0 24,vI 2 eI,vP 4 1 7,vO 8 2 2 l2 ag.enc,vI 9 Xl,vL 19 2 p.fi ag.enc,vI 20 (ay p.fi),vI 21 v],[oX 24 94 (ax.enc w),oX 7 99 (ah.enc p),oS 2 158 l2 ag.enc]⟩⟩
def E4(rv:List ag×Int×ax)(w:ax)(p:ah)(eI:Int)(l:List ag)(cV v:Int):Prop:=mT G rv ⟨[.c 244,.l 244,.b 0,.c 31],⟨90,[vP 0 0 24,vI 2 eI,vP 4 1 7,vO 8 2 2 l ag.enc,vI 9 cV,vL 19 2 p.fi ag.enc,vI 20 (ay p.fi),vI 21 v],[oX 24 94 (ax.enc w),oX 7 99 (ah.enc p),oS 2 158 l ag.enc]⟩⟩
def D7(rv:List ag×Int×ax)(w:ax)(p:ah)(eI:Int)(l3:List ag)(Xm:Int):Prop:=mT G rv ⟨[.c 31],⟨90,[vO 8 1 2 l3 ag.enc,vI 9 Xm],[oX 24 94 (ax.enc w),oS 2 158 l3 ag.enc]⟩⟩
theorem wg(rv:List ag×Int×ax){w p eI l v l1 sR v1 x3}{x:(List ag×ag×Int×Int)⊕(List ag×Int)}(h:jl w p eI l v l1 sR v1 x3=some x)(hI:∀⦃s:List ag×ag×Int×Int⦄,some (.inl s)=some x->xm G rv w p eI l v s.1 s.2.1 s.2.2.1 s.2.2.2)(hE:∀⦃e:List ag×Int⦄,some (.inr e)=some x->wh G rv w p eI l v e.1 e.2):mT G rv ⟨[.c 4010803,.b 3,.c 501351,.l 62668,.b 2,.b 1,.c 1959,.l 244,.b 0,.c 31],⟨90,[vP 0 0 24,vI 2 eI,vP 4 1 7,vO 8 2 2 l1 ag.enc,vI 9 sR,vP 11 3 2,vL 19 2 p.fi ag.enc,vI 20 (ay p.fi),vI 21 v,vO 25 4 1 [false,true] dN,vI 26 (ay [false,true]),vI 27 v1],[oX 24 94 (ax.enc w),oX 7 99 (ah.enc p),oS 2 158 l1 ag.enc,oX 2 158 (ag.enc x3),oS 1 4 [false,true] dN]⟩⟩:=by
 simp only[jl,az,aq,ar,au]at h;rcases h with⟨r,h5,⟨h6,h7,h⟩|⟨h6,h⟩⟩
 ·exact gn 13 [0,2,4,8,9,11,19,20,21,25,26,27] [0,1,6,3,4] [hH (.draw 23 []),cC (ka h5),rp 8 hP,rp 6 (oI ((dk r.2.2 0)=true)),oR True ((dk r.2.2 0)=true),bT h6,oO (Eq.refl ([(ag.mk r.1 (cX .i64 (aV .i64 x3.cz r.1) x3.ready))].map ag.enc).length),aO ag.enc h7] (hI h)
 ·exact gn 11 [0,2,4,8,9,11,19,20,21,25,26,27] [0,1,2,3,4] [hH (.draw 23 []),cC (ka h5),rp 8 hP,rp 6 (oI ((dk r.2.2 0)=true)),oR True ((dk r.2.2 0)=true),bF h6] (hI h)
theorem D9(rv:List ag×Int×ax){w p eI l v}:∀⦃s:List ag×ag×Int×Int⦄ ⦃e:List ag×Int⦄,aL (λs=>eS w p eI l v s.1 s.2.1 s.2.2.1 s.2.2.2) s=some e->wh G rv w p eI l v e.1 e.2->xm G rv w p eI l v s.1 s.2.1 s.2.2.1 s.2.2.2:=by
 refine bz ?_
 rintro⟨l1,x1,sR,v1⟩ z_ h hI hE;simp only[eS,az,aq,ar,au]at h;rcases h with⟨h2,x2,h3,⟨h4,h⟩|⟨h4,h⟩⟩|⟨h2,h⟩
 ·exact gn 14 [0,2,4,8,9,11,19,20,21,25,26,27] [0,1,2,3,4] [bT h2,oO (lp h3),oO (ln dN h3),rE dN h3,bT h4,hH (.draw 9 [])] (wg G rv h hI hE)
 ·exact gn 14 [0,2,4,8,9,11,19,20,21,25,26,27] [0,1,2,3,4] [bT h2,oO (lp h3),oO (ln dN h3),rE dN h3,bF h4] (wg G rv h hI hE)
 ·exact gn 5 [0,2,4,8,9,19,20,21] [0,1,2] [bF h2] (hE h)
theorem D8(rv:List ag×Int×ax){w p eI}:∀⦃s:List ag×Int×Int⦄ ⦃e:List ag×Int⦄,aL (λs=>fM w p eI s.1 s.2.1 s.2.2) s=some e->D7 G rv w p eI e.1 e.2->E4 G rv w p eI s.1 s.2.1 s.2.2:=by
 refine bz ?_
 rintro⟨l,cV,v⟩ z_ h hI hE;simp only[fM,az,aq,ar,au]at h;rcases h with⟨h0,x0,h1,⟨l2,Xl⟩,h8,h⟩|⟨h0,h⟩
 ·refine gn 13 [0,2,4,8,9,11,19,20,21,25,26,27] [0,1,2,3,4] [bT h0,cE ag.enc h1,nL dN [false,true]] (D9 G rv h8 ?_);exact gn 3 [0,2,4,8,9,19,20,21] [0,1,2] [] (hI h)
 ·exact gn 5 [8,9] [0,2] [bF h0] (hE h)
theorem zA{w p eI}{rv:List ag×Int×ax}(h:jH w p eI=some rv):dK prog 89 [.one (.op 0 24 0 0),.agg (ah.enc p),.one (lI eI)] [bX 24 94 (ax.enc w)] (.j0 [.one (lL 2 rv.1 ag.enc),.one (lI rv.2.1)]) [oX 24 94 [lL 1 rv.2.2.x.bV.bm bN,lL 6 rv.2.2.x.bV.eX a7.enc,lL 14 rv.2.2.x.types av.enc,lL 16 rv.2.2.x.ai aw.enc,lL 2 rv.2.2.x.dx aW.enc,lL 2 rv.2.2.x.before aW.enc,lI rv.2.2.kind,.str rv.2.2.t.name,lI rv.2.2.t.q7,lI rv.2.2.t.aY,lI rv.2.2.t.eI,lL 1 rv.2.2.t.cap al,lI rv.2.2.t.cF,lI rv.2.2.t.aJ,lI rv.2.2.t.bA,lI rv.2.2.t.bI,lI rv.2.2.t.eu,lI rv.2.2.t.bJ,lI rv.2.2.t.gA,lI rv.2.2.t.cP,lI rv.2.2.t.de,lL 1 rv.2.2.fZ al,lL 1 rv.2.2.cR bN,lI rv.2.2.tn]]:=by
 refine aX func89 λG=>?_
 simp only[jH,az,aq,ar,au]at h;obtain⟨⟨l3,Xm⟩,h9,h⟩:=h;refine gn 11 [0,2,4,8,9,19,20,21] [0,1,2] [nL ag.enc p.fi,hW 3,hH (.nP 8 2 158)] (D8 G rv h9 ?_);cases h;exact gr 2 [0] [hW 6,hH (.ng 1),rp 3 (eL l3 ag.enc)]
theorem wA{s0 iA}{rv:Int×Int}(h:vg s0 iA=some rv):dK prog 218 [.agg (aS.enc s0),.one (lI iA)] [] (.j0 [.one (lI rv.1),.one (lI rv.2)]) []:=by
 refine aX func218 λG=>?_
 simp only[vg,az,aq,ar,au]at h;rcases h with⟨h0,h⟩|⟨h0,h⟩
 ·cases h;exact gr 10 [] [bT h0]
 ·cases h;exact gr 11 [] [bF h0]
theorem sj{s0 iA}{rv:Int×Int}(h:tR s0 iA=some rv):dK prog 160 [.agg (aS.enc s0),.one (lI iA)] [] (.j0 [.one (lI rv.1),.one (lI rv.2)]) []:=by
 refine aX func160 λG=>?_
 simp only[tR,az,aq,ar,au]at h;rcases h with⟨r,h0,⟨h1,h⟩|⟨h1,h⟩⟩
 ·cases h;exact gr 10 [] [cC (wA h0),bT h1]
 ·cases h;exact gr 11 [] [cC (wA h0),bF h1]
theorem uF{c d}{rv:Bool}(h:kC c d=some rv):dK prog 96 [.agg (ag.enc c),.agg (ag.enc d)] [] (one (.bool rv)) []:=by
 refine aX func96 λG=>?_
 simp only[kC,az,aq,ar,au]at h;cases h;exact gr 4 [] [rp 6 hP,rp 4 (oI ((dk c.ready d.ready)=true)),oR True ((dk c.ready d.ready)=true)]
theorem Ds{d c}{rv:Bool}(h:yL d c=some rv):dK prog 161 [.agg (ag.enc d),.one (.ip (ag.enc c) 0)] [] (one (.bool rv)) []:=by
 refine aX func161 λG=>?_
 simp only[yL,az,aq,ar,au]at h;obtain⟨r,h0,h⟩:=h;obtain rfl:=oK h;exact gr 4 [] [cC (uF h0)]
def gu(rv:Int)(cf:Cf):Prop:=Go prog f164 [] G (one (lI rv)) [] cf
def mw(rv:Int)(s0:List ag)(c:ag)(v:Int):Prop:=gu G rv ⟨[.c 52,.l 52,.b 0,.c 7],⟨19,[vL 0 2 s0 ag.enc,(1,one (.fn (.func 161) [.ip (ag.enc c) 0])),vI 7 (ay s0),vI 8 v],[]⟩⟩
def me(rv:Int)(s0:List ag)(c:ag):Prop:=gu G rv ⟨[.c 7],⟨19,[],[]⟩⟩
theorem mf(rv:Int){s0 c}:∀⦃s:Int⦄ ⦃e:(Unit)⊕(Int)⦄,aL (λs=>bL s0 c s) s=some e->jg e (λe=>me G rv s0 c) (λe=>e=rv)->mw G rv s0 c s:=by
 refine bz ?_
 intro v z_ h hI hE;simp only[bL,az,aq,ar,au]at h;rcases h with⟨h0,x0,h1,r,h2,⟨h3,h⟩|⟨h3,h⟩⟩|⟨h0,h⟩
 ·obtain rfl:=(hE h:_=rv);exact gr 14 [] [bT h0,cE ag.enc h1,cC (Ds h2),bT h3]
 ·exact gn 16 [0,1,7,8] [] [bT h0,cE ag.enc h1,cC (Ds h2),bF h3] (hI h)
 ·exact gn 5 [] [] [bF h0] (hE h)
theorem nj{s0 c}{rv:Int}(h:dM s0 c=some rv):dK prog 164 [.one (lL 2 s0 ag.enc),.one (.fn (.func 161) [.ip (ag.enc c) 0])] [] (one (lI rv)) []:=by
 refine aX func164 λG=>?_
 simp only[dM,az,aq,ar,au]at h;obtain⟨e0,h4,h⟩:=h;refine gn 7 [0,1,7,8] [] [nL ag.enc s0] (mf G rv h4 ?_);rcases e0 with e0|r1
 ·cases h;exact gr 2 [] []
 ·exact oK h
theorem fS{s0 c}{rv:Bool}(h:cq s0 c=some rv):dK prog 94 [.one (lL 2 s0 ag.enc),.one (.fn (.func 161) [.ip (ag.enc c) 0])] [] (one (.bool rv)) []:=by
 refine aX func94 λG=>?_
 simp only[cq,az,aq,ar,au]at h;obtain⟨r,h0,h⟩:=h;cases h;exact gr 4 [] [cC (nj h0)]
theorem N5{d c}{rv:Bool}(h:yM d c=some rv):dK prog 163 [.agg (ag.enc d),.one (.ip (ag.enc c) 0)] [] (one (.bool rv)) []:=by
 refine aX func163 λG=>?_
 simp only[yM,az,aq,ar,au]at h;obtain⟨r,h0,h⟩:=h;obtain rfl:=oK h;exact gr 4 [] [cC (uF h0)]
def Jk(rv:List ag)(cf:Cf):Prop:=Go prog f90 [] G (one (lL 2 rv ag.enc)) [] cf
def N6(rv l:List ag)(s0:aS)(l1:List ag)(v:Int):Prop:=Jk G rv ⟨[.c 116,.l 116,.b 0,.c 15],⟨42,[vP 3 0 4,vO 5 1 2 l1 ag.enc,vL 11 2 l ag.enc,vI 12 (ay l),vI 13 v],[oX 4 67 (aS.enc s0),oS 2 158 l1 ag.enc]⟩⟩
def Me(rv l:List ag)(s0:aS)(l3:List ag):Prop:=Jk G rv ⟨[.c 15],⟨42,[vO 5 0 2 l3 ag.enc],[oS 2 158 l3 ag.enc]⟩⟩
theorem Mf(rv:List ag){l s0}:∀⦃s:List ag×Int⦄ ⦃e:List ag⦄,aL (λs=>lu l s0 s.1 s.2) s=some e->Me G rv l s0 e->N6 G rv l s0 s.1 s.2:=by
 refine bz ?_
 rintro⟨l1,v⟩ z_ h hI hE;simp only[lu,az,aq,ar,au]at h;rcases h with⟨h0,x0,h1,r,h2,⟨h3,h⟩|⟨h3,r1,h4,⟨h5,h⟩|⟨h5,l2,h6,h7,h⟩⟩⟩|⟨h0,h⟩
 ·exact gn 18 [3,5,11,12,13] [0,1] [bT h0,cE ag.enc h1,cC (sj h2),bT h3] (hI h)
 ·exact gn 25 [3,5,11,12,13] [0,1] [bT h0,cE ag.enc h1,cC (sj h2),bF h3,eL l1 ag.enc,cC (fS h4),bT h5] (hI h)
 ·exact gn 29 [3,5,11,12,13] [0,5] [bT h0,cE ag.enc h1,cC (sj h2),bF h3,eL l1 ag.enc,cC (fS h4),bF h5,hW 4,hH (.Qmz 3),hH (.rows (l2.map ag.enc)),eL l1 ag.enc,oO (Qj4 (λy_ b_ h_=>N5 h_) h6),oO (Eq.refl ([(ag.mk r.1 x0.cz)].map ag.enc).length),aO ag.enc h7] (hI h)
 ·exact gn 5 [5] [1] [bF h0] (hE h)
theorem Rj{l s0}{rv:List ag}(h:u5 l s0=some rv):dK prog 90 [.one (lL 2 l ag.enc),.agg (aS.enc s0)] [] (one (lL 2 rv ag.enc)) []:=by
 refine aX func90 λG=>?_
 simp only[u5,az,aq,ar,au]at h;obtain⟨l3,h8,h⟩:=h;refine gn 9 [3,5,11,12,13] [0,1] [nL ag.enc l,hW 3,hH (.nP 5 2 158)] (Mf G rv h8 ?_);obtain rfl:=oK h;exact gr 2 [] [hW 4,hH (.ng 0),rp 3 (eL l3 ag.enc)]
def KG(rv:ah×Bool×ax)(cf:Cf):Prop:=Go prog f35 [0] G (.j0 [.agg [lI rv.1.place,lI rv.1.memory,lI rv.1.mD,lI rv.1.ak,lL 1 rv.1.load al,lL 2 rv.1.fi ag.enc,.str rv.1.value],.one (.bool rv.2.1)]) [oX 24 94 [lL 1 rv.2.2.x.bV.bm bN,lL 6 rv.2.2.x.bV.eX a7.enc,lL 14 rv.2.2.x.types av.enc,lL 16 rv.2.2.x.ai aw.enc,lL 2 rv.2.2.x.dx aW.enc,lL 2 rv.2.2.x.before aW.enc,lI rv.2.2.kind,.str rv.2.2.t.name,lI rv.2.2.t.q7,lI rv.2.2.t.aY,lI rv.2.2.t.eI,lL 1 rv.2.2.t.cap al,lI rv.2.2.t.cF,lI rv.2.2.t.aJ,lI rv.2.2.t.bA,lI rv.2.2.t.bI,lI rv.2.2.t.eu,lI rv.2.2.t.bJ,lI rv.2.2.t.gA,lI rv.2.2.t.cP,lI rv.2.2.t.de,lL 1 rv.2.2.fZ al,lL 1 rv.2.2.cR bN,lI rv.2.2.tn]] cf
theorem xn(rv:ah×Bool×ax){v x1 x2 ok}(h:f_ v x1 x2 ok=some rv):KG G rv ⟨[.c 63],⟨125,[vP 0 0 24,vP 4 1 7,vP 5 2 2,vP 6 3 7,vB 9 ok],[oX 24 94 (ax.enc x1),oX 7 99 (ah.enc x2),oX 2 102 (ab.enc v),oX 7 99 [lI 0,lI 0,lI 0,lI 0,.fk,.fk,.str ByteArray.empty]]⟩⟩:=by
 simp only[f_,az,aq,ar,au]at h;rcases h with⟨h6,r2,h7,⟨h8,r3,h9,⟨dO,h⟩|⟨dO,r4,g_,r5,iO,r6,jD,h⟩⟩|⟨h8,h⟩⟩|⟨h6,h⟩
 ·cases h;exact gr 20 [0] [nF h6,cI [0] (sV h7),nF h8,hH (.draw 13 [(4,11)]),cC (qV h9),bT dO]
 ·cases h;exact gr 31 [0] [nF h6,cI [0] (sV h7),nF h8,hH (.draw 13 [(4,11)]),cC (qV h9),bF dO,cI [0] (zA g_),cC (Rj iO),hH (.draw 13 []),oO (zL 24),cC (vN jD),hH (.draw 7 [(3,5)]),nL ag.enc r5]
 ·cases h;exact gr 13 [0] [nF h6,cI [0] (sV h7),nT h8]
 ·cases h;exact gr 6 [0] [nT h6]
theorem jS{w p v}{rv:ah×Bool×ax}(h:qM w p v=some rv):dK prog 35 [.one (.op 0 24 0 0),.agg (ah.enc p),.agg (ab.enc v)] [bX 24 94 (ax.enc w)] (.j0 [.agg [lI rv.1.place,lI rv.1.memory,lI rv.1.mD,lI rv.1.ak,lL 1 rv.1.load al,lL 2 rv.1.fi ag.enc,.str rv.1.value],.one (.bool rv.2.1)]) [oX 24 94 [lL 1 rv.2.2.x.bV.bm bN,lL 6 rv.2.2.x.bV.eX a7.enc,lL 14 rv.2.2.x.types av.enc,lL 16 rv.2.2.x.ai aw.enc,lL 2 rv.2.2.x.dx aW.enc,lL 2 rv.2.2.x.before aW.enc,lI rv.2.2.kind,.str rv.2.2.t.name,lI rv.2.2.t.q7,lI rv.2.2.t.aY,lI rv.2.2.t.eI,lL 1 rv.2.2.t.cap al,lI rv.2.2.t.cF,lI rv.2.2.t.aJ,lI rv.2.2.t.bA,lI rv.2.2.t.bI,lI rv.2.2.t.eu,lI rv.2.2.t.bJ,lI rv.2.2.t.gA,lI rv.2.2.t.cP,lI rv.2.2.t.de,lL 1 rv.2.2.fZ al,lL 1 rv.2.2.cR bN,lI rv.2.2.tn]]:=by
 refine aX func35 λG=>?_
 simp only[qM,az,aq,ar,au]at h;rcases h with⟨x0,h0,⟨h1,h⟩|⟨h1,r,h2,⟨h3,⟨h4,r1,h5,h⟩|⟨h4,h⟩⟩|⟨h3,h⟩⟩⟩
 ·cases h;exact gr 10 [0] [hH (.draw 10 []),cE aw.enc h0,hH (.draw 21 []),hP,hP,hP,oI ((cT p.ak w.tn)=false),oR True ((cT p.ak w.tn)=false),rp 9 (bT h1),tT]
 ·exact gn 16 [0,4,5,6,9] [0,1,2,3] [hH (.draw 10 []),cE aw.enc h0,hH (.draw 21 []),hP,hP,hP,oI ((cT p.ak w.tn)=false),oR True ((cT p.ak w.tn)=false),rp 7 (bF h1),cC (vU h2),bF h1,bF h1,nF h3,rp 5 hP,rp 3 (oI ((!v.drop)=false)),oR True ((!v.drop)=false),bT h4,cI [0] (HO h5)] (xn G rv h)
 ·exact gn 16 [0,4,5,6,9] [0,1,2,3] [hH (.draw 10 []),cE aw.enc h0,hH (.draw 21 []),hP,hP,hP,oI ((cT p.ak w.tn)=false),oR True ((cT p.ak w.tn)=false),rp 7 (bF h1),cC (vU h2),bF h1,bF h1,nF h3,rp 5 hP,rp 3 (oI ((!v.drop)=false)),oR True ((!v.drop)=false),bF h4] (xn G rv h)
 ·cases h;exact gr 10 [0] [hH (.draw 10 []),cE aw.enc h0,hH (.draw 21 []),hP,hP,hP,oI ((cT p.ak w.tn)=false),oR True ((cT p.ak w.tn)=false),rp 7 (bF h1),cC (vU h2),bF h1,bF h1,nT h3]
def Cu(rv:Int×Int×Bool×ax)(cf:Cf):Prop:=Go prog f39 [0] G (.j0 [.one (lI rv.1),.one (lI rv.2.1),.one (.bool rv.2.2.1)]) [oX 24 94 [lL 1 rv.2.2.2.x.bV.bm bN,lL 6 rv.2.2.2.x.bV.eX a7.enc,lL 14 rv.2.2.2.x.types av.enc,lL 16 rv.2.2.2.x.ai aw.enc,lL 2 rv.2.2.2.x.dx aW.enc,lL 2 rv.2.2.2.x.before aW.enc,lI rv.2.2.2.kind,.str rv.2.2.2.t.name,lI rv.2.2.2.t.q7,lI rv.2.2.2.t.aY,lI rv.2.2.2.t.eI,lL 1 rv.2.2.2.t.cap al,lI rv.2.2.2.t.cF,lI rv.2.2.2.t.aJ,lI rv.2.2.2.t.bA,lI rv.2.2.2.t.bI,lI rv.2.2.2.t.eu,lI rv.2.2.2.t.bJ,lI rv.2.2.2.t.gA,lI rv.2.2.2.t.cP,lI rv.2.2.2.t.de,lL 1 rv.2.2.2.fZ al,lL 1 rv.2.2.2.cR bN,lI rv.2.2.2.tn]] cf
def HK(rv:Int×Int×Bool×ax)(r:List ag×Int×ax)(out v:Int):Prop:=Cu G rv ⟨[.c 500,.l 500,.b 0,.c 63],⟨62,[vP 0 0 24,vI 8 r.2.1,vI 9 out,vL 31 2 r.1 ag.enc,vI 32 (ay r.1),vI 33 v],[oX 24 94 (ax.enc r.2.2)]⟩⟩
def Gu(rv:Int×Int×Bool×ax)(r:List ag×Int×ax)(L9:Int):Prop:=Cu G rv ⟨[.c 63],⟨62,[vI 8 r.2.1,vI 9 L9],[oX 24 94 (ax.enc r.2.2)]⟩⟩
theorem Gv(rv:Int×Int×Bool×ax){r}:∀⦃s:Int×Int⦄ ⦃e:Int⦄,aL (λs=>gI r s.1 s.2) s=some e->Gu G rv r e->HK G rv r s.1 s.2:=by
 refine bz ?_
 rintro⟨out,v⟩ z_ h hI hE;simp only[gI,az,aq,ar,au]at h;rcases h with⟨h2,x0,h3,⟨h4,⟨h5,h⟩|⟨h5,⟨h6,h⟩|⟨h6,h⟩⟩⟩|⟨h4,h⟩⟩|⟨h2,h⟩
 ·exact gn 16 [0,8,9,31,32,33] [0] [bT h2,cE ag.enc h3,hH (.draw 18 []),rp 3 (bT h4),rp 4 (bT h5),bT h4,bT h5,bT h4,tT] (hI h)
 ·exact gn 16 [0,8,9,31,32,33] [0] [bT h2,cE ag.enc h3,hH (.draw 18 []),rp 3 (bT h4),rp 4 (bF h5),bT h4,bF h5,bT h4,bT h6] (hI h)
 ·exact gn 16 [0,8,9,31,32,33] [0] [bT h2,cE ag.enc h3,hH (.draw 18 []),rp 3 (bT h4),rp 4 (bF h5),bT h4,bF h5,bT h4,bF h6] (hI h)
 ·exact gn 16 [0,8,9,31,32,33] [0] [bT h2,cE ag.enc h3,hH (.draw 18 []),rp 3 (bF h4),rp 4 kF,bF h4,bF h4,fF] (hI h)
 ·exact gn 5 [8,9] [0] [bF h2] (hE h)
theorem ry{w p}{rv:Int×Int×Bool×ax}(h:rX w p=some rv):dK prog 39 [.one (.op 0 24 0 0),.agg (ah.enc p)] [bX 24 94 (ax.enc w)] (.j0 [.one (lI rv.1),.one (lI rv.2.1),.one (.bool rv.2.2.1)]) [oX 24 94 [lL 1 rv.2.2.2.x.bV.bm bN,lL 6 rv.2.2.2.x.bV.eX a7.enc,lL 14 rv.2.2.2.x.types av.enc,lL 16 rv.2.2.2.x.ai aw.enc,lL 2 rv.2.2.2.x.dx aW.enc,lL 2 rv.2.2.2.x.before aW.enc,lI rv.2.2.2.kind,.str rv.2.2.2.t.name,lI rv.2.2.2.t.q7,lI rv.2.2.2.t.aY,lI rv.2.2.2.t.eI,lL 1 rv.2.2.2.t.cap al,lI rv.2.2.2.t.cF,lI rv.2.2.2.t.aJ,lI rv.2.2.2.t.bA,lI rv.2.2.2.t.bI,lI rv.2.2.2.t.eu,lI rv.2.2.2.t.bJ,lI rv.2.2.2.t.gA,lI rv.2.2.2.t.cP,lI rv.2.2.2.t.de,lL 1 rv.2.2.2.fZ al,lL 1 rv.2.2.2.cR bN,lI rv.2.2.2.tn]]:=by
 refine aX func39 λG=>?_
 simp only[rX,az,aq,ar,au]at h;rcases h with⟨h0,h⟩|⟨h0,r,h1,L9,h7,h⟩
 ·cases h;exact gr 8 [0] [rp 4 hP,rp 2 (oI ((dk p.ak 0)=false)),oR True ((dk p.ak 0)=false),bT h0]
 ·refine gn 16 [0,8,9,31,32,33] [0] [rp 4 hP,rp 2 (oI ((dk p.ak 0)=false)),oR True ((dk p.ak 0)=false),bF h0,hH (.draw 13 [(0,7)]),cI [0] (zA h1),nL ag.enc r.1] (Gv G rv h7 ?_);cases h;exact gr 2 [0] []
theorem tV{w p j8 cV}{rv:I}(h:l_ w p j8 cV=some rv):dK prog 40 [.one (.ip (ax.enc w) 0),.agg (ah.enc p),.one (lI j8),.one (lI cV)] [] (one (.str rv)) []:=by
 refine aX func40 λG=>?_
 simp only[l_,az,aq,ar,au]at h;obtain⟨r,h0,h⟩:=h;obtain rfl:=oK h;exact gr 8 [] [hH (.draw 22 []),oO (zL 24),rp 2 (oO (oA (n:=64))),cC (vN h0)]
theorem yT{a b}{rv:Bool}(h:DA a b=some rv):dK prog 93 [.one (lI a),.one (lI b)] [] (one (.bool rv)) []:=by
 refine aX func93 λG=>?_
 simp only[DA,az,aq,ar,au]at h;cases h;exact gr 4 [] []
theorem we{c c1}{rv:Bool}(h:p7 c c1=some rv):dK prog 95 [.agg (ag.enc c),.one (.ip (ag.enc c1) 0)] [] (one (.bool rv)) []:=by
 refine aX func95 λG=>?_
 simp only[p7,az,aq,ar,au]at h;obtain⟨r,h0,h⟩:=h;obtain rfl:=oK h;exact gr 4 [] [cC (uF h0)]
def gJ(rv:Int)(cf:Cf):Prop:=Go prog f164 [] G (one (lI rv)) [] cf
def m_(rv:Int)(s0:List ag)(c:ag)(v:Int):Prop:=gJ G rv ⟨[.c 52,.l 52,.b 0,.c 7],⟨19,[vL 0 2 s0 ag.enc,(1,one (.fn (.func 95) [.ip (ag.enc c) 0])),vI 7 (ay s0),vI 8 v],[]⟩⟩
def mu(rv:Int)(s0:List ag)(c:ag):Prop:=gJ G rv ⟨[.c 7],⟨19,[],[]⟩⟩
theorem mv(rv:Int){s0 c}:∀⦃s:Int⦄ ⦃e:(Unit)⊕(Int)⦄,aL (λs=>bO s0 c s) s=some e->jg e (λe=>mu G rv s0 c) (λe=>e=rv)->m_ G rv s0 c s:=by
 refine bz ?_
 intro v z_ h hI hE;simp only[bO,az,aq,ar,au]at h;rcases h with⟨h0,x0,h1,r,h2,⟨h3,h⟩|⟨h3,h⟩⟩|⟨h0,h⟩
 ·obtain rfl:=(hE h:_=rv);exact gr 14 [] [bT h0,cE ag.enc h1,cC (we h2),bT h3]
 ·exact gn 16 [0,1,7,8] [] [bT h0,cE ag.enc h1,cC (we h2),bF h3] (hI h)
 ·exact gn 5 [] [] [bF h0] (hE h)
theorem nO{s0 c}{rv:Int}(h:dQ s0 c=some rv):dK prog 164 [.one (lL 2 s0 ag.enc),.one (.fn (.func 95) [.ip (ag.enc c) 0])] [] (one (lI rv)) []:=by
 refine aX func164 λG=>?_
 simp only[dQ,az,aq,ar,au]at h;obtain⟨e0,h4,h⟩:=h;refine gn 7 [0,1,7,8] [] [nL ag.enc s0] (mv G rv h4 ?_);rcases e0 with e0|r1
 ·cases h;exact gr 2 [] []
 ·exact oK h
theorem fW{s0 c}{rv:Bool}(h:cu s0 c=some rv):dK prog 94 [.one (lL 2 s0 ag.enc),.one (.fn (.func 95) [.ip (ag.enc c) 0])] [] (one (.bool rv)) []:=by
 refine aX func94 λG=>?_
 simp only[cu,az,aq,ar,au]at h;obtain⟨r,h0,h⟩:=h;cases h;exact gr 4 [] [cC (nO h0)]
def zz(rv:Bool)(cf:Cf):Prop:=Go prog f38 [] G (one (.bool rv)) [] cf
def D6(rv:Bool)(p q:ah)(v:Int):Prop:=zz G rv ⟨[.c 116,.l 116,.b 0,.c 15],⟨63,[vP 2 0 7,vL 51 2 q.fi ag.enc,vI 52 (ay q.fi),vI 53 v],[oX 7 99 (ah.enc p)]⟩⟩
def C3(rv:Bool)(p q:ah):Prop:=zz G rv ⟨[.c 15],⟨63,[],[]⟩⟩
theorem C4(rv:Bool){p q}:∀⦃s:Int⦄ ⦃e:(Unit)⊕(Bool)⦄,aL (λs=>fA p q s) s=some e->jg e (λe=>C3 G rv p q) (λe=>e=rv)->D6 G rv p q s:=by
 refine bz ?_
 intro v z_ h hI hE;simp only[fA,az,aq,ar,au]at h;rcases h with⟨h7,x0,h8,r3,h9,⟨dO,h⟩|⟨dO,h⟩⟩|⟨h7,h⟩
 ·exact gn 16 [2,51,52,53] [0] [bT h7,cE ag.enc h8,cC (fW h9),nF dO] (hI h)
 ·obtain rfl:=(hE h:_=rv);exact gr 14 [] [bT h7,cE ag.enc h8,cC (fW h9),nT dO]
 ·exact gn 5 [] [] [bF h7] (hE h)
theorem Gt{p q}{rv:Bool}(h:n9 p q=some rv):dK prog 38 [.agg (ah.enc p),.agg (ah.enc q)] [] (one (.bool rv)) []:=by
 refine aX func38 λG=>?_
 simp only[n9,az,aq,ar,au]at h;rcases h with⟨h0,h⟩|⟨h0,r,h1,⟨h2,h⟩|⟨h2,r1,h3,⟨h4,r2,h5,⟨h6,h⟩|⟨h6,e0,g_,h⟩⟩|⟨h4,h⟩⟩⟩
 ·obtain rfl:=oK h;exact gr 8 [] [rp 6 hP,rp 4 (oI ((cp p.place q.place)=false)),oR True ((cp p.place q.place)=false),rp 7 (bT h0),rp 21 tT]
 ·obtain rfl:=oK h;exact gr 8 [] [rp 6 hP,rp 4 (oI ((cp p.place q.place)=false)),oR True ((cp p.place q.place)=false),rp 5 (bF h0),cC (yT h1),bF h0,bF h0,rp 6 hP,rp 4 (oI ((!r)=false)),oR True ((!r)=false),rp 7 (bT h2),rp 8 tT]
 ·obtain rfl:=oK h;exact gr 8 [] [rp 6 hP,rp 4 (oI ((cp p.place q.place)=false)),oR True ((cp p.place q.place)=false),rp 5 (bF h0),cC (yT h1),bF h0,bF h0,rp 6 hP,rp 4 (oI ((!r)=false)),oR True ((!r)=false),rp 5 (bF h2),cC (vW h3),bF h2,bF h2,rp 5 (nF h4),cC (pd h5),nF h4,nF h4,bT h6]
 ·refine gn 12 [2,51,52,53] [0] [rp 6 hP,rp 4 (oI ((cp p.place q.place)=false)),oR True ((cp p.place q.place)=false),rp 5 (bF h0),cC (yT h1),bF h0,bF h0,rp 6 hP,rp 4 (oI ((!r)=false)),oR True ((!r)=false),rp 5 (bF h2),cC (vW h3),bF h2,bF h2,rp 5 (nF h4),cC (pd h5),nF h4,nF h4,bF h6,nL ag.enc q.fi] (C4 G rv g_ ?_);rcases e0 with e0|r4
  ·obtain rfl:=oK h;exact gr 2 [] []
  ·exact oK h
 ·obtain rfl:=oK h;exact gr 8 [] [rp 6 hP,rp 4 (oI ((cp p.place q.place)=false)),oR True ((cp p.place q.place)=false),rp 5 (bF h0),cC (yT h1),bF h0,bF h0,rp 6 hP,rp 4 (oI ((!r)=false)),oR True ((!r)=false),rp 5 (bF h2),cC (vW h3),bF h2,bF h2,rp 7 (nT h4),tT]
theorem E0{k c}{rv:Bool}(h:Ab k c=some rv):dK prog 37 [.agg (ah.enc k),.one (.ip (ah.enc c) 0)] [] (one (.bool rv)) []:=by
 refine aX func37 λG=>?_
 simp only[Ab,az,aq,ar,au]at h;obtain⟨r,h0,h⟩:=h;obtain rfl:=oK h;exact gr 4 [] [cC (Gt h0)]
def fX(rv:Int)(cf:Cf):Prop:=Go prog f92 [] G (one (lI rv)) [] cf
def lA(rv:Int)(s0:List ah)(c:ah)(v:Int):Prop:=fX G rv ⟨[.c 52,.l 52,.b 0,.c 7],⟨19,[vL 0 7 s0 ah.enc,(1,one (.fn (.func 37) [.ip (ah.enc c) 0])),vI 7 (ay s0),vI 8 v],[]⟩⟩
def lg(rv:Int)(s0:List ah)(c:ah):Prop:=fX G rv ⟨[.c 7],⟨19,[],[]⟩⟩
theorem lh(rv:Int){s0 c}:∀⦃s:Int⦄ ⦃e:(Unit)⊕(Int)⦄,aL (λs=>bE s0 c s) s=some e->jg e (λe=>lg G rv s0 c) (λe=>e=rv)->lA G rv s0 c s:=by
 refine bz ?_
 intro v z_ h hI hE;simp only[bE,az,aq,ar,au]at h;rcases h with⟨h0,x0,h1,r,h2,⟨h3,h⟩|⟨h3,h⟩⟩|⟨h0,h⟩
 ·obtain rfl:=(hE h:_=rv);exact gr 14 [] [bT h0,cE ah.enc h1,cC (E0 h2),bT h3]
 ·exact gn 16 [0,1,7,8] [] [bT h0,cE ah.enc h1,cC (E0 h2),bF h3] (hI h)
 ·exact gn 5 [] [] [bF h0] (hE h)
theorem mg{s0 c}{rv:Int}(h:dD s0 c=some rv):dK prog 92 [.one (lL 7 s0 ah.enc),.one (.fn (.func 37) [.ip (ah.enc c) 0])] [] (one (lI rv)) []:=by
 refine aX func92 λG=>?_
 simp only[dD,az,aq,ar,au]at h;obtain⟨e0,h4,h⟩:=h;refine gn 7 [0,1,7,8] [] [nL ah.enc s0] (lh G rv h4 ?_);rcases e0 with e0|r1
 ·cases h;exact gr 2 [] []
 ·exact oK h
theorem cH{s0 c}{rv:Bool}(h:cj s0 c=some rv):dK prog 36 [.one (lL 7 s0 ah.enc),.one (.fn (.func 37) [.ip (ah.enc c) 0])] [] (one (.bool rv)) []:=by
 refine aX func36 λG=>?_
 simp only[cj,az,aq,ar,au]at h;obtain⟨r,h0,h⟩:=h;cases h;exact gr 4 [] [cC (mg h0)]
def kb(rv:I×Bool×Int)(cf:Cf):Prop:=Go prog f9 [] G (.j0 [.one (.str rv.1),.one (.bool rv.2.1),.one (lI rv.2.2)]) [] cf
def Pv(rv:I×Bool×Int)(x0:ae)(cR:List I)(c:ax)(v:Int):Prop:=kb G rv ⟨[.c 244,.l 244,.b 0,.c 31],⟨131,[vL 2 1 cR bN,vP 4 0 6,vP 11 1 24,vL 48 1 cR bN,vI 49 (ay cR),vI 50 v],[oX 6 30 (ae.enc x0),oX 24 94 (ax.enc c)]⟩⟩
def NU(rv:I×Bool×Int)(x0:ae)(cR:List I)(c:ax):Prop:=kb G rv ⟨[.c 31],⟨131,[vL 2 1 cR bN,vP 4 0 6,vP 11 1 24],[oX 6 30 (ae.enc x0),oX 24 94 (ax.enc c)]⟩⟩
def Py(rv:I×Bool×Int)(c:ax)(r2:List ab)(l l1:List ah)(v1:Int)(x4:ah)(l4 l5:List ah)(x5:ax)(Eg:I)(wE:Bool)(v2:Int):Prop:=kb G rv ⟨[.c 268063948,.l 268063948,.b 6,.b 5,.c 8376999,.l 1047124,.b 4,.c 130891,.b 3,.l 8180,.b 2,.c 1023],⟨131,[vP 11 0 24,vL 15 2 r2 ab.enc,vS 16 Eg,vB 17 wE,vO 18 1 7 l4 ah.enc,vO 20 2 7 l5 ah.enc,vP 22 3 7,vO 70 4 7 l1 ah.enc,vI 71 (ay l1),vI 72 v1,vL 76 2 r2 ab.enc,vI 77 (ay r2),vI 78 v2],[oX 24 94 (ax.enc x5),oS 7 99 l4 ah.enc,oS 7 99 l5 ah.enc,oX 7 99 (ah.enc x4),oS 7 99 l1 ah.enc]⟩⟩
def N0(rv:I×Bool×Int)(c:ax)(r2:List ab)(l l1:List ah)(v1:Int)(x4:ah)(l6 l7:List ah)(x7:ax)(QcX:I)(WL:Bool):Prop:=kb G rv ⟨[.b 5,.c 8376999,.l 1047124,.b 4,.c 130891,.b 3,.l 8180,.b 2,.c 1023],⟨131,[vP 11 0 24,vL 15 2 r2 ab.enc,vS 16 QcX,vB 17 WL,vO 18 1 7 l6 ah.enc,vO 20 2 7 l7 ah.enc,vO 70 3 7 l1 ah.enc,vI 71 (ay l1),vI 72 v1],[oX 24 94 (ax.enc x7),oS 7 99 l6 ah.enc,oS 7 99 l7 ah.enc,oS 7 99 l1 ah.enc]⟩⟩
def Px(rv:I×Bool×Int)(c:ax)(r2:List ab)(l l1 l2 l3:List ah)(x3:ax)(Yt:I)(LF:Bool)(v1:Int):Prop:=kb G rv ⟨[.c 1047124,.l 1047124,.b 4,.c 130891,.b 3,.l 8180,.b 2,.c 1023],⟨131,[vP 11 0 24,vL 15 2 r2 ab.enc,vS 16 Yt,vB 17 LF,vO 18 1 7 l2 ah.enc,vO 20 2 7 l3 ah.enc,vO 70 3 7 l1 ah.enc,vI 71 (ay l1),vI 72 v1],[oX 24 94 (ax.enc x3),oS 7 99 l2 ah.enc,oS 7 99 l3 ah.enc,oS 7 99 l1 ah.enc]⟩⟩
def NY(rv:I×Bool×Int)(c:ax)(r2:List ab)(l l1 l8 l9:List ah)(x8:ax)(QcY:I)(WM:Bool):Prop:=kb G rv ⟨[.c 130891,.b 3,.l 8180,.b 2,.c 1023],⟨131,[vP 11 0 24,vL 15 2 r2 ab.enc,vS 16 QcY,vB 17 WM,vO 18 1 7 l8 ah.enc,vO 20 2 7 l9 ah.enc],[oX 24 94 (ax.enc x8),oS 7 99 l8 ah.enc,oS 7 99 l9 ah.enc]⟩⟩
def Pw(rv:I×Bool×Int)(c:ax)(r2:List ab)(l l1:List ah)(x2:ax)(dw:I)(dU:Bool):Prop:=kb G rv ⟨[.c 8180,.l 8180,.b 2,.c 1023],⟨131,[vP 11 0 24,vL 15 2 r2 ab.enc,vS 16 dw,vB 17 dU,vO 18 1 7 l ah.enc,vO 19 2 7 l1 ah.enc],[oX 24 94 (ax.enc x2),oS 7 99 l ah.enc,oS 7 99 l1 ah.enc]⟩⟩
def NW(rv:I×Bool×Int)(c:ax)(r2:List ab)(QcZ:I)(WN:Bool):Prop:=kb G rv ⟨[.c 1023],⟨131,[vS 16 QcZ,vB 17 WN],[]⟩⟩
def Pz(rv:I×Bool×Int)(cR:List I)(x9:ae)(v3:Int):Prop:=kb G rv ⟨[.c 244,.l 244,.b 0,.c 31],⟨131,[vL 2 1 cR bN,vP 4 0 6,(11,one (.L3)),vL 48 1 cR bN,vI 49 (ay cR),vI 50 v3],[oX 6 30 (ae.enc x9)]⟩⟩
def N2(rv:I×Bool×Int)(cR:List I)(x11:ae):Prop:=kb G rv ⟨[.c 31],⟨131,[vL 2 1 cR bN,vP 4 0 6,(11,one (.L3))],[oX 6 30 (ae.enc x11)]⟩⟩
theorem NV(rv:I×Bool×Int){x0 cR c}:∀⦃s:Int⦄ ⦃e:(Unit)⊕(I×Bool×Int)⦄,aL (λs=>mQ x0 cR c s) s=some e->jg e (λe=>NU G rv x0 cR c) (λe=>e=rv)->Pv G rv x0 cR c s:=by
 refine bz ?_
 intro v z_ h hI hE;simp only[mQ,az,aq,ar,au]at h;rcases h with⟨h3,x1,h4,r1,h5,⟨h6,h⟩|⟨h6,h⟩⟩|⟨h3,h⟩
 ·exact gn 16 [2,4,11,48,49,50] [0,1] [bT h3,cE bN h4,cC (kB h5),nF h6] (hI h)
 ·obtain rfl:=(hE h:_=rv);exact gr 14 [] [bT h3,cE bN h4,cC (kB h5),nT h6]
 ·exact gn 5 [2,4,11] [0,1] [bF h3] (hE h)
theorem N1(rv:I×Bool×Int){c r2 l l1 v1 x4}:∀⦃s:List ah×List ah×ax×I×Bool×Int⦄ ⦃e:List ah×List ah×ax×I×Bool⦄,aL (λs=>mS c r2 l l1 v1 x4 s.1 s.2.1 s.2.2.1 s.2.2.2.1 s.2.2.2.2.1 s.2.2.2.2.2) s=some e->N0 G rv c r2 l l1 v1 x4 e.1 e.2.1 e.2.2.1 e.2.2.2.1 e.2.2.2.2->Py G rv c r2 l l1 v1 x4 s.1 s.2.1 s.2.2.1 s.2.2.2.1 s.2.2.2.2.1 s.2.2.2.2.2:=by
 refine bz ?_
 rintro⟨l4,l5,x5,Eg,wE,v2⟩ z_ h hI hE;simp only[mS,az,aq,ar,au]at h;rcases h with⟨jD,x6,so,r4,y3,⟨vj,r5,B4,⟨Lg,h⟩|⟨Lg,Fi,G4,r6,MH,⟨LI,r7,RH,⟨Ni,r8,LJ,⟨Lh,h⟩|⟨Lh,h⟩⟩|⟨Ni,h⟩⟩|⟨LI,h⟩⟩⟩|⟨vj,h⟩⟩|⟨jD,h⟩
 ·exact gn 18 [11,15,16,17,18,20,22,70,71,72,76,77,78] [0,1,2,3,4] [bT jD,cE ab.enc so,cI [0] (jS y3),rp 3 (nF vj),eL l4 ah.enc,cC (cH B4),nF vj,bT Lg] (hI h)
 ·exact gn 34 [11,15,16,17,18,20,22,70,71,72,76,77,78] [0,8,10,3,4] [bT jD,cE ab.enc so,cI [0] (jS y3),rp 3 (nF vj),eL l4 ah.enc,cC (cH B4),nF vj,bF Lg,oO (Eq.refl ([r4.1].map ah.enc).length),aO ah.enc Fi,oO (Eq.refl ([r4.1].map ah.enc).length),aO ah.enc G4,cI [0] (ry MH),bT LI,cC (tV RH),rp 3 (nF Ni),cC (pd LJ),rp 2 (nF Ni),bT Lh] (hI h)
 ·exact gn 34 [11,15,16,17,18,20,22,70,71,72,76,77,78] [0,8,10,3,4] [bT jD,cE ab.enc so,cI [0] (jS y3),rp 3 (nF vj),eL l4 ah.enc,cC (cH B4),nF vj,bF Lg,oO (Eq.refl ([r4.1].map ah.enc).length),aO ah.enc Fi,oO (Eq.refl ([r4.1].map ah.enc).length),aO ah.enc G4,cI [0] (ry MH),bT LI,cC (tV RH),rp 3 (nF Ni),cC (pd LJ),rp 2 (nF Ni),bF Lh] (hI h)
 ·exact gn 34 [11,15,16,17,18,20,22,70,71,72,76,77,78] [0,8,10,3,4] [bT jD,cE ab.enc so,cI [0] (jS y3),rp 3 (nF vj),eL l4 ah.enc,cC (cH B4),nF vj,bF Lg,oO (Eq.refl ([r4.1].map ah.enc).length),aO ah.enc Fi,oO (Eq.refl ([r4.1].map ah.enc).length),aO ah.enc G4,cI [0] (ry MH),bT LI,cC (tV RH),rp 5 (nT Ni),tT] (hI h)
 ·exact gn 29 [11,15,16,17,18,20,22,70,71,72,76,77,78] [0,8,10,3,4] [bT jD,cE ab.enc so,cI [0] (jS y3),rp 3 (nF vj),eL l4 ah.enc,cC (cH B4),nF vj,bF Lg,oO (Eq.refl ([r4.1].map ah.enc).length),aO ah.enc Fi,oO (Eq.refl ([r4.1].map ah.enc).length),aO ah.enc G4,cI [0] (ry MH),bF LI] (hI h)
 ·exact gn 18 [11,15,16,17,18,20,22,70,71,72,76,77,78] [0,1,2,3,4] [bT jD,cE ab.enc so,cI [0] (jS y3),rp 4 (nT vj),tT] (hI h)
 ·exact gn 5 [11,15,16,17,18,20,70,71,72] [0,1,2,4] [bF jD] (hE h)
theorem NZ(rv:I×Bool×Int){c r2 l l1}:∀⦃s:List ah×List ah×ax×I×Bool×Int⦄ ⦃e:List ah×List ah×ax×I×Bool⦄,aL (λs=>mR c r2 l l1 s.1 s.2.1 s.2.2.1 s.2.2.2.1 s.2.2.2.2.1 s.2.2.2.2.2) s=some e->NY G rv c r2 l l1 e.1 e.2.1 e.2.2.1 e.2.2.2.1 e.2.2.2.2->Px G rv c r2 l l1 s.1 s.2.1 s.2.2.1 s.2.2.2.1 s.2.2.2.2.1 s.2.2.2.2.2:=by
 refine bz ?_
 rintro⟨l2,l3,x3,Yt,LF,v1⟩ z_ h hI hE;simp only[mR,az,aq,ar,au]at h;rcases h with⟨g_,x4,iO,⟨l6,l7,x7,QcX,WL⟩,Y_,h⟩|⟨g_,h⟩
 ·refine gn 13 [11,15,16,17,18,20,22,70,71,72,76,77,78] [0,1,2,4,3] [bT g_,oO (lp iO),oO (ln ah.enc iO),rE ah.enc iO,nL ab.enc r2] (N1 G rv Y_ ?_);exact gn 3 [11,15,16,17,18,20,70,71,72] [0,1,2,3] [] (hI h)
 ·exact gn 5 [11,15,16,17,18,20] [0,1,2] [bF g_] (hE h)
theorem NX(rv:I×Bool×Int){c r2}:∀⦃s:List ah×List ah×ax×I×Bool⦄ ⦃e:I×Bool⦄,aL (λs=>rV c r2 s.1 s.2.1 s.2.2.1 s.2.2.2.1 s.2.2.2.2) s=some e->NW G rv c r2 e.1 e.2->Pw G rv c r2 s.1 s.2.1 s.2.2.1 s.2.2.2.1 s.2.2.2.2:=by
 refine bz ?_
 rintro⟨l,l1,x2,dw,dU⟩ z_ h hI hE;simp only[rV,az,aq,ar,au]at h;rcases h with⟨dO,⟨l8,l9,x8,QcY,WM⟩,Yc,h⟩|⟨dO,h⟩
 ·refine gn 13 [11,15,16,17,18,20,70,71,72] [0,1,3,2] [nL ah.enc l1,bT dO,nL ah.enc l1,hW 3,hH (.nP 20 7 99)] (NZ G rv Yc ?_);exact gn 3 [11,15,16,17,18,19] [0,1,2] [] (hI h)
 ·exact gn 5 [16,17] [] [nL ah.enc l1,bF dO] (hE h)
theorem N3(rv:I×Bool×Int){cR}:∀⦃s:ae×Int⦄ ⦃e:(ae)⊕(I×Bool×Int)⦄,aL (λs=>Cs cR s.1 s.2) s=some e->jg e (λe=>N2 G rv cR e) (λe=>e=rv)->Pz G rv cR s.1 s.2:=by
 refine bz ?_
 rintro⟨x9,v3⟩ z_ h hI hE;simp only[Cs,az,aq,ar,au]at h;rcases h with⟨QO,x10,jR,wK,ku,⟨AS,h⟩|⟨AS,h⟩⟩|⟨QO,h⟩
 ·exact gn 16 [2,4,11,48,49,50] [0] [bT QO,cE bN jR,cC (kB ku),nF AS] (hI h)
 ·obtain rfl:=(hE h:_=rv);exact gr 14 [] [bT QO,cE bN jR,cC (kB ku),nT AS]
 ·exact gn 5 [2,4,11] [0] [bF QO] (hE h)
theorem Jj{x0 kind cR fZ}{rv:I×Bool×Int}(h:AB x0 kind cR fZ=some rv):dK prog 9 [.agg (ae.enc x0),.one (lI kind),.one (lL 1 cR bN),.one (lL 1 fZ al)] [] (.j0 [.one (.str rv.1),.one (.bool rv.2.1),.one (lI rv.2.2)]) []:=by
 refine aX func9 λG=>?_
 simp only[AB,az,aq,ar,au]at h;rcases h with⟨r,h0,⟨c,h1,⟨h2,h⟩|⟨h2,e0,h7,h⟩⟩|⟨h1,⟨RJ,h⟩|⟨RJ,e4,AT,h⟩⟩⟩
 ·cases h;exact gr 10 [] [cC (E3 h0 h1),hP,hP,oI ((cp r.2 0)=false),nL bN cR,hP,hP,hP,rp 2 (oI ((cp r.2 0)=false)),nL aw.enc x0.ai,hP,hP,rp 2 (oI ((cp r.2 0)=false)),oR True ((cp r.2 0)=false),bT h2]
 ·refine gn 14 [2,4,11,48,49,50] [0,1] [cC (E3 h0 h1),hP,hP,oI ((cp r.2 0)=false),nL bN cR,hP,hP,hP,rp 2 (oI ((cp r.2 0)=false)),nL aw.enc x0.ai,hP,hP,rp 2 (oI ((cp r.2 0)=false)),oR True ((cp r.2 0)=false),bF h2,nL bN cR] (NV G rv h7 ?_);rcases e0 with e0|r9
  ·simp only[c5,az,aq,ar,au]at h;obtain⟨r2,h8,r3,h9,⟨QcZ,WN⟩,AQ,h⟩:=h;refine gn 13 [11,15,16,17,18,19] [1,3,2] [cC (N4 h8),cI [1] (HJ h9),hW 4,hH (.nP 18 7 99)] (NX G rv AQ ?_);cases h;exact gr 2 [] []
  ·exact oK h
 ·cases h;exact gr 10 [] [cC (E2 h0 h1),hP,hP,oI ((cp r.2 0)=false),nL bN cR,hP,hP,hP,rp 2 (oI ((cp r.2 0)=false)),nL aw.enc x0.ai,hP,hP,rp 2 (oI ((cp r.2 0)=false)),oR True ((cp r.2 0)=false),bT RJ]
 ·refine gn 14 [2,4,11,48,49,50] [0] [cC (E2 h0 h1),hP,hP,oI ((cp r.2 0)=false),nL bN cR,hP,hP,hP,rp 2 (oI ((cp r.2 0)=false)),nL aw.enc x0.ai,hP,hP,rp 2 (oI ((cp r.2 0)=false)),oR True ((cp r.2 0)=false),bF RJ,nL bN cR] (N3 G rv AT ?_);rcases e4 with x11|HI
  ·cases h
  ·exact oK h
def JF(rv:List Int)(cf:Cf):Prop:=Go prog f98 [] G (one (lL 1 rv al)) [] cf
def Om(rv:List Int)(b9:Int)(l:List Int)(v:Int):Prop:=JF G rv ⟨[.c 116,.l 116,.b 0,.c 15],⟨17,[vI 0 b9,vO 3 0 1 l al,vI 5 v],[oS 1 3 l al]⟩⟩
def Ms(rv:List Int)(b9:Int)(l1:List Int):Prop:=JF G rv ⟨[.c 15],⟨17,[vO 3 0 1 l1 al],[oS 1 3 l1 al]⟩⟩
theorem Mt(rv:List Int){b9}:∀⦃s:List Int×Int⦄ ⦃e:List Int⦄,aL (λs=>jx b9 s.1 s.2) s=some e->Ms G rv b9 e->Om G rv b9 s.1 s.2:=by
 refine bz ?_
 rintro⟨l,v⟩ z_ h hI hE;simp only[jx,az,aq,ar,au]at h;rcases h with⟨h0,r,h1,⟨h2,h3,h⟩|⟨h2,h⟩⟩|⟨h0,h⟩
 ·exact gn 16 [0,3,5] [2] [bT h0,cC (eh h1),bT h2,oO (Eq.refl ([v].map al).length),aO al h3] (hI h)
 ·exact gn 16 [0,3,5] [0] [bT h0,cC (eh h1),bF h2] (hI h)
 ·exact gn 5 [3] [0] [bF h0] (hE h)
theorem AY{b9}{rv:List Int}(h:sW b9=some rv):dK prog 98 [.one (lI b9)] [] (one (lL 1 rv al)) []:=by
 refine aX func98 λG=>?_
 simp only[sW,az,aq,ar,au]at h;obtain⟨l1,h4,h⟩:=h;refine gn 9 [0,3,5] [0] [hW 12,hH (.nP 3 1 3)] (Mt G rv h4 ?_);obtain rfl:=oK h;exact gr 2 [] [hW 4,hH (.ng 0),rp 3 (eL l1 al)]
def yO(rv:List Int)(cf:Cf):Prop:=Go prog f165 [] G (one (lL 1 rv al)) [] cf
def Oe(rv:List Int)(before:List aW)(l l2:List Int)(Vx:Bool)(v:Int):Prop:=yO G rv ⟨[.c 7468,.l 7468,.b 2,.b 1,.l 116,.b 0,.c 15],⟨68,[vL 1 2 before aW.enc,vO 5 0 1 l2 al,vB 6 Vx,vL 16 2 before aW.enc,vI 17 (ay before),vI 18 v],[oS 1 3 l2 al]⟩⟩
def Mo(rv:List Int)(before:List aW)(l l3:List Int)(QdI:Bool):Prop:=yO G rv ⟨[.b 1,.l 116,.b 0,.c 15],⟨68,[vL 1 2 before aW.enc,vO 5 0 1 l3 al,vB 6 QdI],[oS 1 3 l3 al]⟩⟩
def Od(rv:List Int)(before:List aW)(l l1:List Int)(more:Bool):Prop:=yO G rv ⟨[.c 116,.l 116,.b 0,.c 15],⟨68,[vL 1 2 before aW.enc,vO 5 0 1 l1 al,vB 6 more],[oS 1 3 l1 al]⟩⟩
def Mm(rv:List Int)(before:List aW)(l l4:List Int):Prop:=yO G rv ⟨[.c 15],⟨68,[vO 5 0 1 l4 al],[oS 1 3 l4 al]⟩⟩
theorem Mp(rv:List Int){before l}:∀⦃s:List Int×Bool×Int⦄ ⦃e:List Int×Bool⦄,aL (λs=>tz before l s.1 s.2.1 s.2.2) s=some e->Mo G rv before l e.1 e.2->Oe G rv before l s.1 s.2.1 s.2.2:=by
 refine bz ?_
 rintro⟨l2,Vx,v⟩ z_ h hI hE;simp only[tz,az,aq,ar,au]at h;rcases h with⟨h2,x0,h3,⟨h4,h⟩|⟨h4,x1,h5,x2,h6,h7,⟨h8,h⟩|⟨h8,h⟩⟩⟩|⟨h2,h⟩
 ·exact gn 18 [1,5,6,16,17,18] [0] [bT h2,cE aW.enc h3,hH (.draw 6 []),rp 6 hP,oO (zL 0),oO (lT 0 2),oO (zL 1),oO (lT 1 2),oI ((bh x0.x0 0)=false),oR True ((bh x0.x0 0)=false),oI (((bh x0.x0 0)||(bh x0.x1 0))=false),nL al l2,rp 5 hP,rp 2 (oI (((bh x0.x0 0)||(bh x0.x1 0))=false)),oR True (((bh x0.x0 0)||(bh x0.x1 0))=false),oI ((((bh x0.x0 0)||(bh x0.x1 0))||(cT x0.x0 (ay l2)))=false),nL al l2,hP,hP,rp 2 (oI ((((bh x0.x0 0)||(bh x0.x1 0))||(cT x0.x0 (ay l2)))=false)),oR True ((((bh x0.x0 0)||(bh x0.x1 0))||(cT x0.x0 (ay l2)))=false),bT h4] (hI h)
 ·exact gn 27 [1,5,6,16,17,18] [0] [bT h2,cE aW.enc h3,hH (.draw 6 []),rp 6 hP,oO (zL 0),oO (lT 0 2),oO (zL 1),oO (lT 1 2),oI ((bh x0.x0 0)=false),oR True ((bh x0.x0 0)=false),oI (((bh x0.x0 0)||(bh x0.x1 0))=false),nL al l2,rp 5 hP,rp 2 (oI (((bh x0.x0 0)||(bh x0.x1 0))=false)),oR True (((bh x0.x0 0)||(bh x0.x1 0))=false),oI ((((bh x0.x0 0)||(bh x0.x1 0))||(cT x0.x0 (ay l2)))=false),nL al l2,hP,hP,rp 2 (oI ((((bh x0.x0 0)||(bh x0.x1 0))||(cT x0.x0 (ay l2)))=false)),oR True ((((bh x0.x0 0)||(bh x0.x1 0))||(cT x0.x0 (ay l2)))=false),bF h4,hH (.draw 13 []),oO (lp h5),oO (ln al h5),rE al h5,oO (lp h6),oO (ln al h6),rE al h6,oO (h7),oO (lp h5),oO (ln al h5),rE al h5,bT h8,oO (lp h5),oO (ln al h5),rE al h5,hH (.rows ((jq l2 x0.x1 (QA .i64 (QA .i64 x1 x2) (uh .i64 1 x0.x0))).map al)),hH (.Dt 0 ((jq l2 x0.x1 (QA .i64 (QA .i64 x1 x2) (uh .i64 1 x0.x0))).map al).length),oO (Tv al l2 x0.x1 (QA .i64 (QA .i64 x1 x2) (uh .i64 1 x0.x0))),rp 5 (oO (B8 al l2 x0.x1 (QA .i64 (QA .i64 x1 x2) (uh .i64 1 x0.x0))))] (hI h)
 ·exact gn 25 [1,5,6,16,17,18] [0] [bT h2,cE aW.enc h3,hH (.draw 6 []),rp 6 hP,oO (zL 0),oO (lT 0 2),oO (zL 1),oO (lT 1 2),oI ((bh x0.x0 0)=false),oR True ((bh x0.x0 0)=false),oI (((bh x0.x0 0)||(bh x0.x1 0))=false),nL al l2,rp 5 hP,rp 2 (oI (((bh x0.x0 0)||(bh x0.x1 0))=false)),oR True (((bh x0.x0 0)||(bh x0.x1 0))=false),oI ((((bh x0.x0 0)||(bh x0.x1 0))||(cT x0.x0 (ay l2)))=false),nL al l2,hP,hP,rp 2 (oI ((((bh x0.x0 0)||(bh x0.x1 0))||(cT x0.x0 (ay l2)))=false)),oR True ((((bh x0.x0 0)||(bh x0.x1 0))||(cT x0.x0 (ay l2)))=false),bF h4,hH (.draw 13 []),oO (lp h5),oO (ln al h5),rE al h5,oO (lp h6),oO (ln al h6),rE al h6,oO (h7),oO (lp h5),oO (ln al h5),rE al h5,bF h8] (hI h)
 ·exact gn 5 [1,5,6] [0] [bF h2] (hE h)
theorem Mn(rv:List Int){before l}:∀⦃s:List Int×Bool⦄ ⦃e:List Int⦄,aL (λs=>tv before l s.1 s.2) s=some e->Mm G rv before l e->Od G rv before l s.1 s.2:=by
 refine bz ?_
 rintro⟨l1,more⟩ z_ h hI hE;simp only[tv,az,aq,ar,au]at h;rcases h with⟨h1,⟨l3,QdI⟩,h9,h⟩|⟨h1,h⟩
 ·refine gn 12 [1,5,6,16,17,18] [0] [bT h1,nL aW.enc before] (Mp G rv h9 ?_);exact gn 2 [1,5,6] [0] [] (hI h)
 ·exact gn 5 [5] [0] [bF h1] (hE h)
theorem Rm{ai before}{rv:List Int}(h:yN ai before=some rv):dK prog 165 [.one (lI ai),.one (lL 2 before aW.enc)] [] (one (lL 1 rv al)) []:=by
 refine aX func165 λG=>?_
 simp only[yN,az,aq,ar,au]at h;obtain⟨l,h0,l4,dO,h⟩:=h;refine gn 9 [1,5,6] [0] [hH (.cells [lI 0]),hH (.rows (l.map al)),oO (MN h0),oO (NT h0),oO (QC h0),oO (Rb h0),oO (RA al h0)] (Mn G rv dO ?_);obtain rfl:=oK h;exact gr 2 [] [hW 4,hH (.ng 0),rp 3 (eL l4 al)]
def il(rv:Int)(cf:Cf):Prop:=Go prog f97 [] G (one (lI rv)) [] cf
def Mh(rv:Int)(x0:ae)(b9:Int)(r:List Int)(v:Int):Prop:=il G rv ⟨[.c 244,.l 244,.b 0,.c 31],⟨102,[vI 1 b9,vP 2 0 6,vL 5 1 r al,vL 21 1 r al,vI 22 (ay r),vI 23 v],[oX 6 30 (ae.enc x0)]⟩⟩
def KI(rv:Int)(x0:ae)(b9:Int)(r:List Int):Prop:=il G rv ⟨[.c 31],⟨102,[vI 1 b9,vP 2 0 6,vL 5 1 r al],[oX 6 30 (ae.enc x0)]⟩⟩
def Mi(rv:Int)(x0:ae)(b9:Int)(r:List Int)(v1:Int):Prop:=il G rv ⟨[.c 500,.l 500,.b 2,.c 63],⟨102,[vI 1 b9,vP 2 0 6,vL 5 1 r al,vL 33 1 r al,vI 34 (ay r),vI 35 v1],[oX 6 30 (ae.enc x0)]⟩⟩
def KK(rv:Int)(x0:ae)(b9:Int)(r:List Int):Prop:=il G rv ⟨[.c 63],⟨102,[vI 1 b9,vP 2 0 6,vL 5 1 r al],[oX 6 30 (ae.enc x0)]⟩⟩
def Mj(rv:Int)(x0:ae)(b9:Int)(r:List Int)(v2:Int):Prop:=il G rv ⟨[.c 1012,.l 1012,.b 4,.c 127],⟨102,[vI 1 b9,vP 2 0 6,vL 5 1 r al,vL 47 2 x0.dx aW.enc,vI 48 (ay x0.dx),vI 49 v2],[oX 6 30 (ae.enc x0)]⟩⟩
def KM(rv:Int)(x0:ae)(b9:Int)(r:List Int):Prop:=il G rv ⟨[.c 127],⟨102,[vI 1 b9,vP 2 0 6,vL 5 1 r al],[oX 6 30 (ae.enc x0)]⟩⟩
def Mk(rv:Int)(x0:ae)(b9:Int)(r:List Int)(v3:Int):Prop:=il G rv ⟨[.c 2036,.l 2036,.b 6,.c 255],⟨102,[vI 1 b9,vP 2 0 6,vL 5 1 r al,vL 65 2 x0.before aW.enc,vI 66 (ay x0.before),vI 67 v3],[oX 6 30 (ae.enc x0)]⟩⟩
def KO(rv:Int)(x0:ae)(b9:Int)(r:List Int):Prop:=il G rv ⟨[.c 255],⟨102,[vP 2 0 6,vL 5 1 r al],[oX 6 30 (ae.enc x0)]⟩⟩
def Ml(rv:Int)(r r5:List Int)(v4:Int):Prop:=il G rv ⟨[.c 8180,.l 8180,.b 8,.c 1023],⟨102,[vL 14 1 r5 al,vL 89 1 r al,vI 90 (ay r),vI 91 v4],[]⟩⟩
def KQ(rv:Int)(r r5:List Int):Prop:=il G rv ⟨[.c 1023],⟨102,[],[]⟩⟩
theorem KJ(rv:Int){x0 b9 r}:∀⦃s:Int⦄ ⦃e:(Unit)⊕(Int)⦄,aL (λs=>eJ x0 b9 r s) s=some e->jg e (λe=>KI G rv x0 b9 r) (λe=>e=rv)->Mh G rv x0 b9 r s:=by
 refine bz ?_
 intro v z_ h hI hE;simp only[eJ,az,aq,ar,au]at h;rcases h with⟨h2,x1,h3,⟨h4,h⟩|⟨h4,h⟩⟩|⟨h2,h⟩
 ·obtain rfl:=(hE h:_=rv);exact gr 14 [] [bT h2,cE al h3,nL aw.enc x0.ai,bT h4]
 ·exact gn 16 [1,2,5,21,22,23] [0] [bT h2,cE al h3,nL aw.enc x0.ai,bF h4] (hI h)
 ·exact gn 5 [1,2,5] [0] [bF h2] (hE h)
theorem KL(rv:Int){x0 b9 r}:∀⦃s:Int⦄ ⦃e:(Unit)⊕(Int)⦄,aL (λs=>eK x0 b9 r s) s=some e->jg e (λe=>KK G rv x0 b9 r) (λe=>e=rv)->Mi G rv x0 b9 r s:=by
 refine bz ?_
 intro v1 z_ h hI hE;simp only[eK,az,aq,ar,au]at h;rcases h with⟨h6,x2,h7,x3,h8,⟨h9,h⟩|⟨h9,h⟩⟩|⟨h6,h⟩
 ·obtain rfl:=(hE h:_=rv);exact gr 14 [] [bT h6,cE al h7,cE aw.enc h8,bT h9]
 ·exact gn 16 [1,2,5,33,34,35] [0] [bT h6,cE al h7,cE aw.enc h8,bF h9] (hI h)
 ·exact gn 5 [1,2,5] [0] [bF h6] (hE h)
theorem KN(rv:Int){x0 b9 r}:∀⦃s:Int⦄ ⦃e:(Unit)⊕(Int)⦄,aL (λs=>eM x0 b9 r s) s=some e->jg e (λe=>KM G rv x0 b9 r) (λe=>e=rv)->Mj G rv x0 b9 r s:=by
 refine bz ?_
 intro v2 z_ h hI hE;simp only[eM,az,aq,ar,au]at h;rcases h with⟨g_,x4,iO,r1,jD,⟨so,r2,y3,⟨vj,h⟩|⟨vj,h⟩⟩|⟨so,h⟩⟩|⟨g_,h⟩
 ·obtain rfl:=(hE h:_=rv);exact gr 14 [] [bT g_,cE aW.enc iO,oO (zL 0),oO (lT 0 2),cC (eh jD),rp 2 (bT so),oO (zL 1),oO (lT 1 2),rp 2 (bT so),cC (eh y3),bT so,bT vj]
 ·exact gn 16 [1,2,5,47,48,49] [0] [bT g_,cE aW.enc iO,oO (zL 0),oO (lT 0 2),cC (eh jD),rp 2 (bT so),oO (zL 1),oO (lT 1 2),rp 2 (bT so),cC (eh y3),bT so,bF vj] (hI h)
 ·exact gn 16 [1,2,5,47,48,49] [0] [bT g_,cE aW.enc iO,oO (zL 0),oO (lT 0 2),cC (eh jD),rp 5 (bF so),fF] (hI h)
 ·exact gn 5 [1,2,5] [0] [bF g_] (hE h)
theorem KP(rv:Int){x0 b9 r}:∀⦃s:Int⦄ ⦃e:(Unit)⊕(Int)⦄,aL (λs=>eN x0 b9 r s) s=some e->jg e (λe=>KO G rv x0 b9 r) (λe=>e=rv)->Mk G rv x0 b9 r s:=by
 refine bz ?_
 intro v3 z_ h hI hE;simp only[eN,az,aq,ar,au]at h;rcases h with⟨Lg,x5,Fi,r3,G4,⟨MH,r4,LI,⟨RH,h⟩|⟨RH,h⟩⟩|⟨MH,h⟩⟩|⟨Lg,h⟩
 ·exact gn 16 [1,2,5,65,66,67] [0] [bT Lg,cE aW.enc Fi,oO (zL 1),oO (lT 1 2),cC (eh G4),rp 2 (bT MH),oO (zL 0),oO (lT 0 2),rp 2 (bT MH),cC (eh LI),rp 2 (bT MH),nF RH] (hI h)
 ·obtain rfl:=(hE h:_=rv);exact gr 14 [] [bT Lg,cE aW.enc Fi,oO (zL 1),oO (lT 1 2),cC (eh G4),rp 2 (bT MH),oO (zL 0),oO (lT 0 2),rp 2 (bT MH),cC (eh LI),rp 2 (bT MH),nT RH]
 ·exact gn 16 [1,2,5,65,66,67] [0] [bT Lg,cE aW.enc Fi,oO (zL 1),oO (lT 1 2),cC (eh G4),rp 6 (bF MH),fF] (hI h)
 ·exact gn 5 [2,5] [0] [bF Lg] (hE h)
theorem KR(rv:Int){r r5}:∀⦃s:Int⦄ ⦃e:(Unit)⊕(Int)⦄,aL (λs=>eO r r5 s) s=some e->jg e (λe=>KQ G rv r r5) (λe=>e=rv)->Ml G rv r r5 s:=by
 refine bz ?_
 intro v4 z_ h hI hE;simp only[eO,az,aq,ar,au]at h;rcases h with⟨Lh,x6,Y_,x7,Yc,r6,AQ,⟨RJ,h⟩|⟨RJ,h⟩⟩|⟨Lh,h⟩
 ·obtain rfl:=(hE h:_=rv);exact gr 14 [] [bT Lh,cE al Y_,cE al Yc,cC (eh AQ),bT RJ]
 ·exact gn 16 [14,89,90,91] [] [bT Lh,cE al Y_,cE al Yc,cC (eh AQ),bF RJ] (hI h)
 ·exact gn 5 [] [] [bF Lh] (hE h)
theorem E5{x0 b9}{rv:Int}(h:oU x0 b9=some rv):dK prog 97 [.agg (ae.enc x0),.one (lI b9)] [] (one (lI rv)) []:=by
 refine aX func97 λG=>?_
 simp only[oU,az,aq,ar,au]at h;rcases h with⟨h0,h⟩|⟨h0,r,h1,e0,h5,h⟩
 ·obtain rfl:=oK h;exact gr 8 [] [bT h0]
 ·refine gn 14 [1,2,5,21,22,23] [0] [bF h0,cC (AY h1),nL al r] (KJ G rv h5 ?_);rcases e0 with e0|HI
  ·simp only[c5,az,aq,ar,au]at h;obtain⟨e1,dO,h⟩:=h;refine gn 5 [1,2,5,33,34,35] [0] [nL al r] (KL G rv dO ?_);rcases e1 with e1|wK
   ·simp only[c5,az,aq,ar,au]at h;obtain⟨e2,B4,h⟩:=h;refine gn 5 [1,2,5,47,48,49] [0] [nL aW.enc x0.dx] (KN G rv B4 ?_);rcases e2 with e2|r9
    ·simp only[c5,az,aq,ar,au]at h;obtain⟨e3,Ni,h⟩:=h;refine gn 5 [1,2,5,65,66,67] [0] [nL aW.enc x0.before] (KP G rv Ni ?_);rcases e3 with e3|r8
     ·simp only[c5,az,aq,ar,au]at h;obtain⟨r5,LJ,e4,QO,h⟩:=h;refine gn 7 [14,89,90,91] [] [nL aw.enc x0.ai,cC (Rm LJ),nL al r] (KR G rv QO ?_);rcases e4 with e4|r7
      ·obtain rfl:=oK h;exact gr 2 [] []
      ·exact oK h
     ·exact oK h
    ·exact oK h
   ·exact oK h
  ·exact oK h
theorem rU{s0}{rv:QaM}(h:AA s0=some rv):dK prog 231 [.agg (cb.enc s0)] [] (gG [lI rv.x0,lI rv.x1,lI rv.x2,lI rv.x3]) []:=by
 refine aX func231 λG=>?_
 simp only[AA,az,aq,ar,au]at h;cases h;exact gr 4 [] []
theorem Q_{s0}{rv:Int×Int}(h:sT s0=some rv):dK prog 186 [.agg (cb.enc s0)] [] (.j0 [.one (lI rv.1),.one (lI rv.2)]) []:=by
 refine aX func186 λG=>?_
 simp only[sT,az,aq,ar,au]at h;rcases h with⟨r,h0,⟨h1,h⟩|⟨h1,⟨h2,h⟩|⟨h2,⟨h3,h⟩|⟨h3,⟨h4,h⟩|⟨h4,⟨h5,h⟩|⟨h5,h⟩⟩⟩⟩⟩⟩
 ·cases h;exact gr 23 [] [cC (rU h0),tT,oO (zL 0),oO (lT 0 4),bT h1]
 ·cases h;exact gr 39 [] [cC (rU h0),tT,oO (zL 0),oO (lT 0 4),bF h1,tT,oO (zL 1),oO (lT 1 4),bT h2]
 ·cases h;exact gr 55 [] [cC (rU h0),tT,oO (zL 0),oO (lT 0 4),bF h1,tT,oO (zL 1),oO (lT 1 4),bF h2,tT,oO (zL 2),oO (lT 2 4),bT h3]
 ·cases h;exact gr 71 [] [cC (rU h0),tT,oO (zL 0),oO (lT 0 4),bF h1,tT,oO (zL 1),oO (lT 1 4),bF h2,tT,oO (zL 2),oO (lT 2 4),bF h3,tT,oO (zL 3),oO (lT 3 4),bT h4]
 ·cases h;exact gr 84 [] [cC (rU h0),tT,oO (zL 0),oO (lT 0 4),bF h1,tT,oO (zL 1),oO (lT 1 4),bF h2,tT,oO (zL 2),oO (lT 2 4),bF h3,tT,oO (zL 3),oO (lT 3 4),bF h4,fF,rp 12 hP,rp 2 (oI ((dt s0.y7 1073741824)=false)),oR True ((dt s0.y7 1073741824)=false),rp 2 (oI (((dt s0.y7 1073741824)||(cT s0.jz 16))=false)),oR True (((dt s0.y7 1073741824)||(cT s0.jz 16))=false),rp 2 (oI ((((dt s0.y7 1073741824)||(cT s0.jz 16))||(cT s0.gY 16))=false)),oR True ((((dt s0.y7 1073741824)||(cT s0.jz 16))||(cT s0.gY 16))=false),bT h5]
 ·cases h;exact gr 85 [] [cC (rU h0),tT,oO (zL 0),oO (lT 0 4),bF h1,tT,oO (zL 1),oO (lT 1 4),bF h2,tT,oO (zL 2),oO (lT 2 4),bF h3,tT,oO (zL 3),oO (lT 3 4),bF h4,fF,rp 12 hP,rp 2 (oI ((dt s0.y7 1073741824)=false)),oR True ((dt s0.y7 1073741824)=false),rp 2 (oI (((dt s0.y7 1073741824)||(cT s0.jz 16))=false)),oR True (((dt s0.y7 1073741824)||(cT s0.jz 16))=false),rp 2 (oI ((((dt s0.y7 1073741824)||(cT s0.jz 16))||(cT s0.gY 16))=false)),oR True ((((dt s0.y7 1073741824)||(cT s0.jz 16))||(cT s0.gY 16))=false),bF h5]
def nw(rv:Int)(cf:Cf):Prop:=Go prog f294 [] G (one (lI rv)) [] cf
def tW(rv:Int)(s0:List ab)(v:ab)(v1:Int):Prop:=nw G rv ⟨[.c 52,.l 52,.b 0,.c 7],⟨19,[vL 0 2 s0 ab.enc,vP 3 0 2,vI 7 (ay s0),vI 8 v1],[oX 2 102 (ab.enc v)]⟩⟩
def tE(rv:Int)(s0:List ab)(v:ab):Prop:=nw G rv ⟨[.c 7],⟨19,[],[]⟩⟩
theorem tF(rv:Int){s0 v}:∀⦃s:Int⦄ ⦃e:(Unit)⊕(Int)⦄,aL (λs=>cS s0 v s) s=some e->jg e (λe=>tE G rv s0 v) (λe=>e=rv)->tW G rv s0 v s:=by
 refine bz ?_
 intro v1 z_ h hI hE;simp only[cS,az,aq,ar,au]at h;rcases h with⟨h0,x0,h1,⟨h2,h⟩|⟨h2,h⟩⟩|⟨h0,h⟩
 ·obtain rfl:=(hE h:_=rv);exact gr 14 [] [bT h0,hH (.draw 6 []),cE ab.enc h1,bT h2]
 ·exact gn 16 [0,3,7,8] [0] [bT h0,hH (.draw 6 []),cE ab.enc h1,bF h2] (hI h)
 ·exact gn 5 [] [] [bF h0] (hE h)
theorem nc{s0 v}{rv:Int}(h:d_ s0 v=some rv):dK prog 294 [.one (lL 2 s0 ab.enc),.agg (ab.enc v)] [] (one (lI rv)) []:=by
 refine aX func294 λG=>?_
 simp only[d_,az,aq,ar,au]at h;obtain⟨e0,h3,h⟩:=h;refine gn 7 [0,3,7,8] [0] [nL ab.enc s0] (tF G rv h3 ?_);rcases e0 with e0|r
 ·cases h;exact gr 2 [] []
 ·exact oK h
theorem fV{l v}{rv:Int}(h:jo l v=some rv):dK prog 259 [.one (lL 2 l ab.enc),.agg (ab.enc v)] [] (one (lI rv)) []:=by
 refine aX func259 λG=>?_
 simp only[jo,az,aq,ar,au]at h;obtain⟨r,h0,h⟩:=h;obtain rfl:=oK h;exact gr 4 [] [cC (nc h0)]
def E9(rv:Bool)(cf:Cf):Prop:=Go prog f281 [] G (one (.bool rv)) [] cf
def K3(rv:Bool)(l:List ab)(v:Int):Prop:=E9 G rv ⟨[.c 52,.l 52,.b 0,.c 7],⟨19,[vL 0 2 l ab.enc,vL 5 2 l ab.enc,vI 6 (ay l),vI 7 v],[]⟩⟩
def JD(rv:Bool)(l:List ab):Prop:=E9 G rv ⟨[.c 7],⟨19,[],[]⟩⟩
theorem JE(rv:Bool){l}:∀⦃s:Int⦄ ⦃e:(Unit)⊕(Bool)⦄,aL (λs=>je l s) s=some e->jg e (λe=>JD G rv l) (λe=>e=rv)->K3 G rv l s:=by
 refine bz ?_
 intro v z_ h hI hE;simp only[je,az,aq,ar,au]at h;rcases h with⟨h0,x0,h1,l1,h2,r,h3,⟨h4,h⟩|⟨h4,h⟩⟩|⟨h0,h⟩
 ·obtain rfl:=(hE h:_=rv);exact gr 14 [] [bT h0,cE ab.enc h1,hH (.draw 6 []),hH (.rows (l1.map ab.enc)),oO (sl1 h2),oO (sl2 h2),oO (wL ab.enc h2),oO (QaJ v),oO (wL ab.enc h2),oO (sl6 ab.enc h2),cC (fV h3),bT h4]
 ·exact gn 16 [0,5,6,7] [] [bT h0,cE ab.enc h1,hH (.draw 6 []),hH (.rows (l1.map ab.enc)),oO (sl1 h2),oO (sl2 h2),oO (wL ab.enc h2),oO (QaJ v),oO (wL ab.enc h2),oO (sl6 ab.enc h2),cC (fV h3),bF h4] (hI h)
 ·exact gn 5 [] [] [bF h0] (hE h)
theorem yS{l}{rv:Bool}(h:uI l=some rv):dK prog 281 [.one (lL 2 l ab.enc)] [] (one (.bool rv)) []:=by
 refine aX func281 λG=>?_
 simp only[uI,az,aq,ar,au]at h;obtain⟨e0,h5,h⟩:=h;refine gn 7 [0,5,6,7] [] [nL ab.enc l] (JE G rv h5 ?_);rcases e0 with e0|r1
 ·obtain rfl:=oK h;exact gr 2 [] []
 ·exact oK h
theorem lx{s0 v}{rv:Bool}(h:eD s0 v=some rv):dK prog 304 [.one (lL 2 s0 ab.enc),.agg (ab.enc v)] [] (one (.bool rv)) []:=by
 refine aX func304 λG=>?_
 simp only[eD,az,aq,ar,au]at h;obtain⟨r,h0,h⟩:=h;cases h;exact gr 4 [] [cC (nc h0)]
def uf(rv:Bool)(cf:Cf):Prop:=Go prog f282 [] G (one (.bool rv)) [] cf
def Jw(rv:Bool)(x0:ae)(l:List ab)(v:Int)(r:List ab)(cr v1:Int):Prop:=uf G rv ⟨[.c 108156,.l 108156,.b 2,.b 1,.c 423,.l 52,.b 0,.c 7],⟨42,[vL 1 2 l ab.enc,vP 2 0 6,vI 8 cr,vL 12 2 l ab.enc,vI 13 (ay l),vI 14 v,vL 27 2 r ab.enc,vI 28 (ay r),vI 29 v1],[oX 6 30 (ae.enc x0)]⟩⟩
def H2(rv:Bool)(x0:ae)(l:List ab)(v:Int)(r:List ab):Prop:=uf G rv ⟨[.b 1,.c 423,.l 52,.b 0,.c 7],⟨42,[vL 1 2 l ab.enc,vP 2 0 6,vL 12 2 l ab.enc,vI 13 (ay l),vI 14 v],[oX 6 30 (ae.enc x0)]⟩⟩
def Jv(rv:Bool)(x0:ae)(l:List ab)(v:Int):Prop:=uf G rv ⟨[.c 52,.l 52,.b 0,.c 7],⟨42,[vL 1 2 l ab.enc,vP 2 0 6,vL 12 2 l ab.enc,vI 13 (ay l),vI 14 v],[oX 6 30 (ae.enc x0)]⟩⟩
def HX(rv:Bool)(x0:ae)(l:List ab):Prop:=uf G rv ⟨[.c 7],⟨42,[],[]⟩⟩
theorem H3(rv:Bool){x0 l v r}:∀⦃s:Int×Int⦄ ⦃e:(Unit)⊕(Bool)⦄,aL (λs=>dV x0 l v r s.1 s.2) s=some e->jg e (λe=>H2 G rv x0 l v r) (λe=>e=rv)->Jw G rv x0 l v r s.1 s.2:=by
 refine bz ?_
 rintro⟨cr,v1⟩ z_ h hI hE;simp only[dV,az,aq,ar,au]at h;rcases h with⟨h5,x2,h6,r2,h7,⟨h8,h⟩|⟨h8,h⟩⟩|⟨h5,h⟩
 ·obtain rfl:=(hE h:_=rv);exact gr 17 [] [bT h5,cE ab.enc h6,cC (fV h7),bT h8]
 ·exact gn 20 [1,2,8,12,13,14,27,28,29] [0] [bT h5,cE ab.enc h6,cC (fV h7),bF h8] (hI h)
 ·exact gn 5 [1,2,12,13,14] [0] [bF h5] (hE h)
theorem HZ(rv:Bool){x0 l}:∀⦃s:Int⦄ ⦃e:(Unit)⊕(Bool)⦄,aL (λs=>ig x0 l s) s=some e->jg e (λe=>HX G rv x0 l) (λe=>e=rv)->Jv G rv x0 l s:=by
 refine bz ?_
 intro v z_ h hI hE;simp only[ig,az,aq,ar,au]at h;rcases h with⟨h0,x1,h1,r,h2,r1,h3,⟨h4,e0,h9,h⟩|⟨h4,h⟩⟩|⟨h0,h⟩
 ·refine gn 22 [1,2,8,12,13,14,27,28,29] [0] [bT h0,cE ab.enc h1,cC (nK h2),cC (lx h3),nF h4,nL ab.enc r] (H3 G rv h9 ?_);rcases e0 with e0|r3
  ·exact gn 3 [1,2,12,13,14] [0] [] (hI h)
  ·exact(hE h:_=rv)
 ·obtain rfl:=(hE h:_=rv);exact gr 17 [] [bT h0,cE ab.enc h1,cC (nK h2),cC (lx h3),nT h4]
 ·exact gn 5 [] [] [bF h0] (hE h)
theorem Cy{x0 l}{rv:Bool}(h:tC x0 l=some rv):dK prog 282 [.agg (ae.enc x0),.one (lL 2 l ab.enc)] [] (one (.bool rv)) []:=by
 refine aX func282 λG=>?_
 simp only[tC,az,aq,ar,au]at h;obtain⟨e1,dO,h⟩:=h;refine gn 7 [1,2,12,13,14] [0] [nL ab.enc l] (HZ G rv dO ?_);rcases e1 with e1|r4
 ·obtain rfl:=oK h;exact gr 2 [] []
 ·exact oK h
theorem Dy{v c}{rv:Bool}(h:yR v c=some rv):dK prog 305 [.agg (ab.enc v),.one (.ip [lI c] 0)] [] (one (.bool rv)) []:=by
 refine aX func305 λG=>?_
 simp only[yR,az,aq,ar,au]at h;cases h;exact gr 4 [] []
def jf(rv:Int)(cf:Cf):Prop:=Go prog f303 [] G (one (lI rv)) [] cf
def pU(rv:Int)(s0:List ab)(c v:Int):Prop:=jf G rv ⟨[.c 52,.l 52,.b 0,.c 7],⟨19,[vL 0 2 s0 ab.enc,(1,one (.fn (.func 305) [.ip [lI c] 0])),vI 7 (ay s0),vI 8 v],[]⟩⟩
def ph(rv:Int)(s0:List ab)(c:Int):Prop:=jf G rv ⟨[.c 7],⟨19,[],[]⟩⟩
theorem pk(rv:Int){s0 c}:∀⦃s:Int⦄ ⦃e:(Unit)⊕(Int)⦄,aL (λs=>bW s0 c s) s=some e->jg e (λe=>ph G rv s0 c) (λe=>e=rv)->pU G rv s0 c s:=by
 refine bz ?_
 intro v z_ h hI hE;simp only[bW,az,aq,ar,au]at h;rcases h with⟨h0,x0,h1,r,h2,⟨h3,h⟩|⟨h3,h⟩⟩|⟨h0,h⟩
 ·obtain rfl:=(hE h:_=rv);exact gr 14 [] [bT h0,cE ab.enc h1,cC (Dy h2),bT h3]
 ·exact gn 16 [0,1,7,8] [] [bT h0,cE ab.enc h1,cC (Dy h2),bF h3] (hI h)
 ·exact gn 5 [] [] [bF h0] (hE h)
theorem qd{s0 c}{rv:Int}(h:dI s0 c=some rv):dK prog 303 [.one (lL 2 s0 ab.enc),.one (.fn (.func 305) [.ip [lI c] 0])] [] (one (lI rv)) []:=by
 refine aX func303 λG=>?_
 simp only[dI,az,aq,ar,au]at h;obtain⟨e0,h4,h⟩:=h;refine gn 7 [0,1,7,8] [] [nL ab.enc s0] (pk G rv h4 ?_);rcases e0 with e0|r1
 ·cases h;exact gr 2 [] []
 ·exact oK h
theorem pg{s0 c}{rv:Bool}(h:ec s0 c=some rv):dK prog 278 [.one (lL 2 s0 ab.enc),.one (.fn (.func 305) [.ip [lI c] 0])] [] (one (.bool rv)) []:=by
 refine aX func278 λG=>?_
 simp only[ec,az,aq,ar,au]at h;obtain⟨r,h0,h⟩:=h;cases h;exact gr 4 [] [cC (qd h0)]
theorem lv{l o}{rv:Bool}(h:qN l o=some rv):dK prog 283 [.one (lL 2 l ab.enc),.one (lI o)] [] (one (.bool rv)) []:=by
 refine aX func283 λG=>?_
 simp only[qN,az,aq,ar,au]at h;obtain⟨r,h0,h⟩:=h;obtain rfl:=oK h;exact gr 4 [] [cC (pg h0)]
theorem AD{v c}{rv:Bool}(h:ue v c=some rv):dK prog 306 [.agg (ab.enc v),.one (.ip [lI c] 0)] [] (one (.bool rv)) []:=by
 refine aX func306 λG=>?_
 simp only[ue,az,aq,ar,au]at h;cases h;exact gr 4 [] []
def ik(rv:Int)(cf:Cf):Prop:=Go prog f303 [] G (one (lI rv)) [] cf
def oo(rv:Int)(s0:List ab)(c v:Int):Prop:=ik G rv ⟨[.c 52,.l 52,.b 0,.c 7],⟨19,[vL 0 2 s0 ab.enc,(1,one (.fn (.func 306) [.ip [lI c] 0])),vI 7 (ay s0),vI 8 v],[]⟩⟩
def nM(rv:Int)(s0:List ab)(c:Int):Prop:=ik G rv ⟨[.c 7],⟨19,[],[]⟩⟩
theorem nN(rv:Int){s0 c}:∀⦃s:Int⦄ ⦃e:(Unit)⊕(Int)⦄,aL (λs=>bQ s0 c s) s=some e->jg e (λe=>nM G rv s0 c) (λe=>e=rv)->oo G rv s0 c s:=by
 refine bz ?_
 intro v z_ h hI hE;simp only[bQ,az,aq,ar,au]at h;rcases h with⟨h0,x0,h1,r,h2,⟨h3,h⟩|⟨h3,h⟩⟩|⟨h0,h⟩
 ·obtain rfl:=(hE h:_=rv);exact gr 14 [] [bT h0,cE ab.enc h1,cC (AD h2),bT h3]
 ·exact gn 16 [0,1,7,8] [] [bT h0,cE ab.enc h1,cC (AD h2),bF h3] (hI h)
 ·exact gn 5 [] [] [bF h0] (hE h)
theorem fc{s0 c}{rv:Int}(h:dq s0 c=some rv):dK prog 303 [.one (lL 2 s0 ab.enc),.one (.fn (.func 306) [.ip [lI c] 0])] [] (one (lI rv)) []:=by
 refine aX func303 λG=>?_
 simp only[dq,az,aq,ar,au]at h;obtain⟨e0,h4,h⟩:=h;refine gn 7 [0,1,7,8] [] [nL ab.enc s0] (nN G rv h4 ?_);rcases e0 with e0|r1
 ·cases h;exact gr 2 [] []
 ·exact oK h
theorem Cx{l a b}{rv:Bool}(h:tB l a b=some rv):dK prog 284 [.one (lL 2 l ab.enc),.one (lI a),.one (lI b)] [] (one (.bool rv)) []:=by
 refine aX func284 λG=>?_
 simp only[tB,az,aq,ar,au]at h;rcases h with⟨r,h0,⟨h1,h⟩|⟨h1,r1,h2,⟨h3,l1,h4,r2,h5,h⟩|⟨h3,h⟩⟩⟩
 ·obtain rfl:=oK h;exact gr 10 [] [cC (fc h0),bT h1]
 ·cases h;exact gr 11 [] [cC (fc h0),bF h1,cC (lv h2),rp 3 (bT h3),hH (.rows (l1.map ab.enc)),oO (sl1 h4),oO (QqM ab.enc h4),rp 3 (oO (QaJ ((l.map ab.enc).length:Int))),oO (QqN ab.enc h4),bT h3,bT h3,cC (lv h5),bT h3,bT h3]
 ·obtain rfl:=oK h;exact gr 11 [] [cC (fc h0),bF h1,cC (lv h2),rp 7 (bF h3)]
theorem Bg{v c}{rv:Bool}(h:u6 v c=some rv):dK prog 279 [.agg (ab.enc v),.one (.ip (ae.enc c) 0)] [] (one (.bool rv)) []:=by
 refine aX func279 λG=>?_
 simp only[u6,az,aq,ar,au]at h;cases h;exact gr 4 [] [rp 5 hP,rp 3 (oI ((bh v.aP 0)=false)),nL aw.enc c.ai,hP,hP,rp 2 (oI ((bh v.aP 0)=false)),oR True ((bh v.aP 0)=false)]
def iw(rv:Int)(cf:Cf):Prop:=Go prog f303 [] G (one (lI rv)) [] cf
def oD(rv:Int)(s0:List ab)(c:ae)(v:Int):Prop:=iw G rv ⟨[.c 52,.l 52,.b 0,.c 7],⟨19,[vL 0 2 s0 ab.enc,(1,one (.fn (.func 279) [.ip (ae.enc c) 0])),vI 7 (ay s0),vI 8 v],[]⟩⟩
def oe(rv:Int)(s0:List ab)(c:ae):Prop:=iw G rv ⟨[.c 7],⟨19,[],[]⟩⟩
theorem og(rv:Int){s0 c}:∀⦃s:Int⦄ ⦃e:(Unit)⊕(Int)⦄,aL (λs=>bR s0 c s) s=some e->jg e (λe=>oe G rv s0 c) (λe=>e=rv)->oD G rv s0 c s:=by
 refine bz ?_
 intro v z_ h hI hE;simp only[bR,az,aq,ar,au]at h;rcases h with⟨h0,x0,h1,r,h2,⟨h3,h⟩|⟨h3,h⟩⟩|⟨h0,h⟩
 ·obtain rfl:=(hE h:_=rv);exact gr 14 [] [bT h0,cE ab.enc h1,cC (Bg h2),bT h3]
 ·exact gn 16 [0,1,7,8] [] [bT h0,cE ab.enc h1,cC (Bg h2),bF h3] (hI h)
 ·exact gn 5 [] [] [bF h0] (hE h)
theorem pS{s0 c}{rv:Int}(h:dz s0 c=some rv):dK prog 303 [.one (lL 2 s0 ab.enc),.one (.fn (.func 279) [.ip (ae.enc c) 0])] [] (one (lI rv)) []:=by
 refine aX func303 λG=>?_
 simp only[dz,az,aq,ar,au]at h;obtain⟨e0,h4,h⟩:=h;refine gn 7 [0,1,7,8] [] [nL ab.enc s0] (og G rv h4 ?_);rcases e0 with e0|r1
 ·cases h;exact gr 2 [] []
 ·exact oK h
theorem c6{s0 c}{rv:Bool}(h:dh s0 c=some rv):dK prog 278 [.one (lL 2 s0 ab.enc),.one (.fn (.func 279) [.ip (ae.enc c) 0])] [] (one (.bool rv)) []:=by
 refine aX func278 λG=>?_
 simp only[dh,az,aq,ar,au]at h;obtain⟨r,h0,h⟩:=h;cases h;exact gr 4 [] [cC (pS h0)]
theorem Bh{v c}{rv:Bool}(h:u7 v c=some rv):dK prog 280 [.agg (ab.enc v),.one (.ip (ae.enc c) 0)] [] (one (.bool rv)) []:=by
 refine aX func280 λG=>?_
 simp only[u7,az,aq,ar,au]at h;obtain⟨x0,h0,h⟩:=h;cases h;exact gr 4 [] [cE aw.enc h0]
def iy(rv:Int)(cf:Cf):Prop:=Go prog f303 [] G (one (lI rv)) [] cf
def oE(rv:Int)(s0:List ab)(c:ae)(v:Int):Prop:=iy G rv ⟨[.c 52,.l 52,.b 0,.c 7],⟨19,[vL 0 2 s0 ab.enc,(1,one (.fn (.func 280) [.ip (ae.enc c) 0])),vI 7 (ay s0),vI 8 v],[]⟩⟩
def oh(rv:Int)(s0:List ab)(c:ae):Prop:=iy G rv ⟨[.c 7],⟨19,[],[]⟩⟩
theorem om(rv:Int){s0 c}:∀⦃s:Int⦄ ⦃e:(Unit)⊕(Int)⦄,aL (λs=>bU s0 c s) s=some e->jg e (λe=>oh G rv s0 c) (λe=>e=rv)->oE G rv s0 c s:=by
 refine bz ?_
 intro v z_ h hI hE;simp only[bU,az,aq,ar,au]at h;rcases h with⟨h0,x0,h1,r,h2,⟨h3,h⟩|⟨h3,h⟩⟩|⟨h0,h⟩
 ·obtain rfl:=(hE h:_=rv);exact gr 14 [] [bT h0,cE ab.enc h1,cC (Bh h2),bT h3]
 ·exact gn 16 [0,1,7,8] [] [bT h0,cE ab.enc h1,cC (Bh h2),bF h3] (hI h)
 ·exact gn 5 [] [] [bF h0] (hE h)
theorem pT{s0 c}{rv:Int}(h:dA s0 c=some rv):dK prog 303 [.one (lL 2 s0 ab.enc),.one (.fn (.func 280) [.ip (ae.enc c) 0])] [] (one (lI rv)) []:=by
 refine aX func303 λG=>?_
 simp only[dA,az,aq,ar,au]at h;obtain⟨e0,h4,h⟩:=h;refine gn 7 [0,1,7,8] [] [nL ab.enc s0] (om G rv h4 ?_);rcases e0 with e0|r1
 ·cases h;exact gr 2 [] []
 ·exact oK h
theorem dJ{s0 c}{rv:Bool}(h:di s0 c=some rv):dK prog 278 [.one (lL 2 s0 ab.enc),.one (.fn (.func 280) [.ip (ae.enc c) 0])] [] (one (.bool rv)) []:=by
 refine aX func278 λG=>?_
 simp only[di,az,aq,ar,au]at h;obtain⟨r,h0,h⟩:=h;cases h;exact gr 4 [] [cC (pT h0)]
def u9(rv:Int)(cf:Cf):Prop:=Go prog f252 [] G (one (lI rv)) [] cf
def KT(rv:Int)(x0:ae)(r:aD)(v:Int):Prop:=u9 G rv ⟨[.c 500,.l 500,.b 1,.c 63],⟨65,[vP 2 0 6,vL 5 2 r.ak ab.enc,vL 33 2 x0.dx aW.enc,vI 34 (ay x0.dx),vI 35 v],[oX 6 30 (ae.enc x0)]⟩⟩
def Jq(rv:Int)(x0:ae)(r:aD):Prop:=u9 G rv ⟨[.c 63],⟨65,[vP 2 0 6,vL 5 2 r.ak ab.enc],[oX 6 30 (ae.enc x0)]⟩⟩
def KU(rv:Int)(x0:ae)(r:aD)(v1:Int):Prop:=u9 G rv ⟨[.c 1012,.l 1012,.b 3,.c 127],⟨65,[vL 5 2 r.ak ab.enc,vL 51 2 x0.before aW.enc,vI 52 (ay x0.before),vI 53 v1],[]⟩⟩
def Js(rv:Int)(x0:ae)(r:aD):Prop:=u9 G rv ⟨[.c 127],⟨65,[],[]⟩⟩
theorem Jr(rv:Int){x0 r}:∀⦃s:Int⦄ ⦃e:(Unit)⊕(Int)⦄,aL (λs=>i_ x0 r s) s=some e->jg e (λe=>Jq G rv x0 r) (λe=>e=rv)->KT G rv x0 r s:=by
 refine bz ?_
 intro v z_ h hI hE;simp only[i_,az,aq,ar,au]at h;rcases h with⟨h9,x1,dO,r5,g_,⟨iO,r6,jD,⟨so,h⟩|⟨so,h⟩⟩|⟨iO,h⟩⟩|⟨h9,h⟩
 ·obtain rfl:=(hE h:_=rv);exact gr 14 [] [bT h9,cE aW.enc dO,oO (zL 0),oO (lT 0 2),cC (lv g_),rp 2 (bT iO),oO (zL 1),oO (lT 1 2),rp 2 (bT iO),cC (lv jD),bT iO,bT so]
 ·exact gn 16 [2,5,33,34,35] [0] [bT h9,cE aW.enc dO,oO (zL 0),oO (lT 0 2),cC (lv g_),rp 2 (bT iO),oO (zL 1),oO (lT 1 2),rp 2 (bT iO),cC (lv jD),bT iO,bF so] (hI h)
 ·exact gn 16 [2,5,33,34,35] [0] [bT h9,cE aW.enc dO,oO (zL 0),oO (lT 0 2),cC (lv g_),rp 5 (bF iO),fF] (hI h)
 ·exact gn 5 [2,5] [0] [bF h9] (hE h)
theorem Jt(rv:Int){x0 r}:∀⦃s:Int⦄ ⦃e:(Unit)⊕(Int)⦄,aL (λs=>ja x0 r s) s=some e->jg e (λe=>Js G rv x0 r) (λe=>e=rv)->KU G rv x0 r s:=by
 refine bz ?_
 intro v1 z_ h hI hE;simp only[ja,az,aq,ar,au]at h;rcases h with⟨vj,x2,B4,r7,Lg,⟨Fi,h⟩|⟨Fi,h⟩⟩|⟨vj,h⟩
 ·exact gn 16 [5,51,52,53] [] [bT vj,cE aW.enc B4,oO (zL 0),oO (lT 0 2),oO (zL 1),oO (lT 1 2),cC (Cx Lg),nF Fi] (hI h)
 ·obtain rfl:=(hE h:_=rv);exact gr 14 [] [bT vj,cE aW.enc B4,oO (zL 0),oO (lT 0 2),oO (zL 1),oO (lT 1 2),cC (Cx Lg),nT Fi]
 ·exact gn 5 [] [] [bF vj] (hE h)
theorem jb{x0 r}{rv:Int}(h:rY x0 r=some rv):dK prog 252 [.agg (ae.enc x0),.agg (aD.enc r)] [] (one (lI rv)) []:=by
 refine aX func252 λG=>?_
 simp only[rY,az,aq,ar,au]at h;rcases h with⟨h0,h⟩|⟨h0,r1,h1,⟨h2,h⟩|⟨h2,r2,h3,⟨h4,h⟩|⟨h4,r3,h5,⟨h6,h⟩|⟨h6,r4,h7,⟨h8,e0,y3,h⟩|⟨h8,h⟩⟩⟩⟩⟩
 ·obtain rfl:=oK h;exact gr 10 [] [nL ab.enc r.ak,rp 4 (bT h0),tT]
 ·obtain rfl:=oK h;exact gr 10 [] [nL ab.enc r.ak,rp 3 (bF h0),cC (c6 h1),bF h0,bT h2]
 ·obtain rfl:=oK h;exact gr 16 [] [nL ab.enc r.ak,rp 3 (bF h0),cC (c6 h1),bF h0,bF h2,cC (dJ h3),bT h4]
 ·obtain rfl:=oK h;exact gr 19 [] [nL ab.enc r.ak,rp 3 (bF h0),cC (c6 h1),bF h0,bF h2,cC (dJ h3),bF h4,cC (yS h5),bT h6]
 ·refine gn 27 [2,5,33,34,35] [0] [nL ab.enc r.ak,rp 3 (bF h0),cC (c6 h1),bF h0,bF h2,cC (dJ h3),bF h4,cC (yS h5),bF h6,cC (Cy h7),nF h8,nL aW.enc x0.dx] (Jr G rv y3 ?_);rcases e0 with e0|r9
  ·simp only[c5,az,aq,ar,au]at h;obtain⟨e1,G4,h⟩:=h;refine gn 5 [5,51,52,53] [] [nL aW.enc x0.before] (Jt G rv G4 ?_);rcases e1 with e1|r8
   ·obtain rfl:=oK h;exact gr 2 [] []
   ·exact oK h
  ·exact oK h
 ·obtain rfl:=oK h;exact gr 22 [] [nL ab.enc r.ak,rp 3 (bF h0),cC (c6 h1),bF h0,bF h2,cC (dJ h3),bF h4,cC (yS h5),bF h6,cC (Cy h7),nT h8]
def Oc(rv:Int)(cf:Cf):Prop:=Go prog f253 [] G (one (lI rv)) [] cf
def Rl(rv:Int)(x0:ae)(r:aD)(v:Int):Prop:=Oc G rv ⟨[.c 52,.l 52,.b 0,.c 7],⟨30,[vP 2 0 6,vP 3 1 4,vL 8 2 r.ak ab.enc,vI 9 (ay r.ak),vI 10 v],[oX 6 30 (ae.enc x0),oX 4 48 (aD.enc r)]⟩⟩
def PJ(rv:Int)(x0:ae)(r:aD):Prop:=Oc G rv ⟨[.c 7],⟨30,[],[]⟩⟩
theorem PK(rv:Int){x0 r}:∀⦃s:Int⦄ ⦃e:(Unit)⊕(Int)⦄,aL (λs=>oT x0 r s) s=some e->jg e (λe=>PJ G rv x0 r) (λe=>e=rv)->Rl G rv x0 r s:=by
 refine bz ?_
 intro v z_ h hI hE;simp only[oT,az,aq,ar,au]at h;rcases h with⟨h0,x1,h1,x2,h2,x3,h3,r1,h4,⟨h5,h⟩|⟨h5,h⟩⟩|⟨h0,h⟩
 ·exact gn 16 [2,3,8,9,10] [0,1] [bT h0,cE ab.enc h1,hH (.draw 15 []),cE av.enc h2,cE aw.enc h3,cC (vU h4),nF h5] (hI h)
 ·obtain rfl:=(hE h:_=rv);exact gr 14 [] [bT h0,cE ab.enc h1,hH (.draw 15 []),cE av.enc h2,cE aw.enc h3,cC (vU h4),nT h5]
 ·exact gn 5 [] [] [bF h0] (hE h)
theorem Ac{x0 r}{rv:Int}(h:Cv x0 r=some rv):dK prog 253 [.agg (ae.enc x0),.agg (aD.enc r)] [] (one (lI rv)) []:=by
 refine aX func253 λG=>?_
 simp only[Cv,az,aq,ar,au]at h;obtain⟨e0,h6,h⟩:=h;refine gn 7 [2,3,8,9,10] [0,1] [nL ab.enc r.ak] (PK G rv h6 ?_);rcases e0 with e0|r2
 ·obtain rfl:=oK h;exact gr 2 [] []
 ·exact oK h
def Dx(rv:Int×Int)(cf:Cf):Prop:=Go prog f307 [] G (.j0 [.one (lI rv.1),.one (lI rv.2)]) [] cf
def Ju(rv:Int×Int)(r:aD)(b9 v:Int):Prop:=Dx G rv ⟨[.c 116,.l 116,.b 0,.c 15],⟨29,[vI 4 b9,vL 8 2 r.ak ab.enc,vI 9 (ay r.ak),vI 10 v],[]⟩⟩
def HU(rv:Int×Int)(r:aD)(VV:Int):Prop:=Dx G rv ⟨[.c 15],⟨29,[vI 4 VV],[]⟩⟩
theorem HV(rv:Int×Int){r}:∀⦃s:Int×Int⦄ ⦃e:(Int)⊕(Int×Int)⦄,aL (λs=>pQ r s.1 s.2) s=some e->jg e (λe=>HU G rv r e) (λe=>e=rv)->Ju G rv r s.1 s.2:=by
 refine bz ?_
 rintro⟨b9,v⟩ z_ h hI hE;simp only[pQ,az,aq,ar,au]at h;rcases h with⟨h0,x0,h1,⟨h2,h⟩|⟨h2,h3,h⟩⟩|⟨h0,h⟩
 ·obtain rfl:=(hE h:_=rv);exact gr 15 [] [bT h0,cE ab.enc h1,rp 4 hP,rp 2 (oI ((bh x0.aP 0)=false)),oR True ((bh x0.aP 0)=false),bT h2]
 ·exact gn 18 [4,8,9,10] [] [bT h0,cE ab.enc h1,rp 4 hP,rp 2 (oI ((bh x0.aP 0)=false)),oR True ((bh x0.aP 0)=false),bF h2,oO (h3)] (hI h)
 ·exact gn 5 [4] [] [bF h0] (hE h)
theorem Cw{r}{rv:Int×Int}(h:tA r=some rv):dK prog 307 [.agg (aD.enc r)] [] (.j0 [.one (lI rv.1),.one (lI rv.2)]) []:=by
 refine aX func307 λG=>?_
 simp only[tA,az,aq,ar,au]at h;obtain⟨e0,h4,h⟩:=h;refine gn 9 [4,8,9,10] [] [nL ab.enc r.ak] (HV G rv h4 ?_);rcases e0 with VV|r1
 ·cases h;exact gr 2 [] []
 ·exact oK h
def La(rv:List Int)(cf:Cf):Prop:=Go prog f308 [] G (one (lL 1 rv al)) [] cf
def OK(rv:List Int)(x0:ae)(l r sum:List Int)(v:Int):Prop:=La G rv ⟨[.c 116,.l 116,.b 0,.c 15],⟨40,[vP 3 0 6,vL 7 1 sum al,vL 13 1 r al,vI 14 (ay r),vI 15 v],[oX 6 30 (ae.enc x0)]⟩⟩
def MY(rv:List Int)(x0:ae)(l r XY:List Int):Prop:=La G rv ⟨[.c 15],⟨40,[vL 7 1 XY al],[]⟩⟩
theorem MZ(rv:List Int){x0 l r}:∀⦃s:List Int×Int⦄ ⦃e:List Int⦄,aL (λs=>kj x0 l r s.1 s.2) s=some e->MY G rv x0 l r e->OK G rv x0 l r s.1 s.2:=by
 refine bz ?_
 rintro⟨sum,v⟩ z_ h hI hE;simp only[kj,az,aq,ar,au]at h;rcases h with⟨h2,x1,h3,x2,h4,⟨h5,r1,h6,h⟩|⟨h5,h⟩⟩|⟨h2,h⟩
 ·exact gn 16 [3,7,13,14,15] [0] [bT h2,cE al h3,cE aw.enc h4,bT h5,cE aw.enc h4,cC (xH h6)] (hI h)
 ·exact gn 16 [3,7,13,14,15] [0] [bT h2,cE al h3,cE aw.enc h4,bF h5] (hI h)
 ·exact gn 5 [7] [] [bF h2] (hE h)
theorem Sp{x0 b9 dS}{rv:List Int}(h:Ai x0 b9 dS=some rv):dK prog 308 [.agg (ae.enc x0),.one (lI b9),.one (lI dS)] [] (one (lL 1 rv al)) []:=by
 refine aX func308 λG=>?_
 simp only[Ai,az,aq,ar,au]at h;obtain⟨l,h0,r,h1,XY,h7,h⟩:=h;refine gn 9 [3,7,13,14,15] [0] [hH (.cells [lI 0]),hH (.rows (l.map al)),oO (MN h0),oO (NT h0),oO (QC h0),oO (Rb h0),oO (RA al h0),cC (AY h1),nL al r,hW 3,hH (.ng 1),rp 2 (eL l al)] (MZ G rv h7 ?_);obtain rfl:=oK h;exact gr 2 [] []
theorem Ua{l}{rv:Int}(h:B3 l=some rv):dK prog 309 [.one (lL 14 l av.enc)] [] (one (lI rv)) []:=by
 refine aX func309 λG=>?_
 simp only[B3,az,aq,ar,au]at h;rcases h with⟨h0,h⟩|⟨h0,x0,h1,h⟩
 ·obtain rfl:=oK h;exact gr 8 [] [nL av.enc l,bT h0]
 ·cases h;exact gr 9 [] [nL av.enc l,bF h0,cE av.enc h1,nL al x0.cap]
def K_(rv:List (List Int)×Int)(cf:Cf):Prop:=Go prog f285 [] G (.j0 [.one (lL 1 rv.1 mH),.one (lI rv.2)]) [] cf
def OJ(rv:List (List Int)×Int)(x0:ae)(r:aD)(l:List (List Int))(now:List Int)(v:Int):Prop:=K_ G rv ⟨[.c 2036,.l 2036,.b 0,.c 255],⟨67,[vP 2 0 6,vL 9 1 now al,vO 10 1 1 l mH,vL 37 2 r.ak ab.enc,vI 38 (ay r.ak),vI 39 v],[oX 6 30 (ae.enc x0),oS 1 36 l mH]⟩⟩
def MW(rv:List (List Int)×Int)(x0:ae)(r:aD)(l1:List (List Int)):Prop:=K_ G rv ⟨[.c 255],⟨67,[vO 10 0 1 l1 mH],[oS 1 36 l1 mH]⟩⟩
theorem MX(rv:List (List Int)×Int){x0 r}:∀⦃s:List (List Int)×List Int×Int⦄ ⦃e:(List (List Int))⊕(List (List Int)×Int)⦄,aL (λs=>ki x0 r s.1 s.2.1 s.2.2) s=some e->jg e (λe=>MW G rv x0 r e) (λe=>e=rv)->OJ G rv x0 r s.1 s.2.1 s.2.2:=by
 refine bz ?_
 rintro⟨l,now,v⟩ z_ h hI hE;simp only[ki,az,aq,ar,au]at h;rcases h with⟨h6,x1,h7,⟨h8,x2,h9,r5,dO,⟨g_,h⟩|⟨g_,iO,h⟩⟩|⟨h8,x3,jD,r6,so,⟨y3,h⟩|⟨y3,vj,h⟩⟩⟩|⟨h6,h⟩
 ·obtain rfl:=(hE h:_=rv);exact gr 24 [] [bT h6,cE ab.enc h7,bT h8,cE aw.enc h9,cC (FD dO),bT g_,hW 5,hH (.D1 4 0 1)]
 ·exact gn 27 [2,9,10,37,38,39] [0,4] [bT h6,cE ab.enc h7,bT h8,cE aw.enc h9,cC (FD dO),bF g_,oO (Eq.refl ([r5.1].map mH).length),aO mH iO] (hI h)
 ·obtain rfl:=(hE h:_=rv);exact gr 24 [] [bT h6,cE ab.enc h7,bF h8,cE aw.enc jD,cC (xH so),bT y3,hW 5,hH (.D1 4 0 1)]
 ·exact gn 27 [2,9,10,37,38,39] [0,4] [bT h6,cE ab.enc h7,bF h8,cE aw.enc jD,cC (xH so),bF y3,oO (Eq.refl ([r6.1].map mH).length),aO mH vj] (hI h)
 ·exact gn 5 [10] [1] [bF h6] (hE h)
theorem BX{x0 r}{rv:List (List Int)×Int}(h:Ah x0 r=some rv):dK prog 285 [.agg (ae.enc x0),.agg (aD.enc r)] [] (.j0 [.one (lL 1 rv.1 mH),.one (lI rv.2)]) []:=by
 refine aX func285 λG=>?_
 simp only[Ah,az,aq,ar,au]at h;rcases h with⟨r1,h0,⟨h1,h⟩|⟨h1,r2,h2,⟨h3,h⟩|⟨h3,r3,h4,r4,h5,e0,B4,h⟩⟩⟩
 ·cases h;exact gr 10 [] [cC (jb h0),bT h1,hW 5,hH (.D1 4 0 1)]
 ·cases h;exact gr 17 [] [cC (jb h0),bF h1,cC (Cw h2),bT h3,hW 5,hH (.D1 4 0 1)]
 ·refine gn 25 [2,9,10,37,38,39] [0,2] [cC (jb h0),bF h1,cC (Cw h2),bF h3,hH (.draw 7 []),cC (Ua h4),cC (Sp h5),nL ab.enc r.ak] (MX G rv B4 ?_);rcases e0 with l1|r7
  ·cases h;exact gr 2 [] [hW 5,hH (.ng 0),rp 3 (eL l1 mH)]
  ·exact oK h
theorem GK{a c c1}{rv:Bool}(h:Bm a c c1=some rv):dK prog 287 [.one (lL 1 a al),.one (.ip (ae.enc c) 0),.one (.ip (aD.enc c1) 0)] [] (one (.bool rv)) []:=by
 refine aX func287 λG=>?_
 simp only[Bm,az,aq,ar,au]at h;obtain⟨x0,h0,r,h1,h⟩:=h;cases h;exact gr 4 [] [cE av.enc h0,cC (vW h1)]
def lG(rv:Int)(cf:Cf):Prop:=Go prog f310 [] G (one (lI rv)) [] cf
def su(rv:Int)(s0:List (List Int))(c:ae)(c1:aD)(v:Int):Prop:=lG G rv ⟨[.c 52,.l 52,.b 0,.c 7],⟨19,[vL 0 1 s0 mH,(1,one (.fn (.func 287) [.ip (ae.enc c) 0,.ip (aD.enc c1) 0])),vI 7 (ay s0),vI 8 v],[]⟩⟩
def sc(rv:Int)(s0:List (List Int))(c:ae)(c1:aD):Prop:=lG G rv ⟨[.c 7],⟨19,[],[]⟩⟩
theorem sd(rv:Int){s0 c c1}:∀⦃s:Int⦄ ⦃e:(Unit)⊕(Int)⦄,aL (λs=>cJ s0 c c1 s) s=some e->jg e (λe=>sc G rv s0 c c1) (λe=>e=rv)->su G rv s0 c c1 s:=by
 refine bz ?_
 intro v z_ h hI hE;simp only[cJ,az,aq,ar,au]at h;rcases h with⟨h0,x0,h1,r,h2,⟨h3,h⟩|⟨h3,h⟩⟩|⟨h0,h⟩
 ·obtain rfl:=(hE h:_=rv);exact gr 14 [] [bT h0,cE mH h1,cC (GK h2),bT h3]
 ·exact gn 16 [0,1,7,8] [] [bT h0,cE mH h1,cC (GK h2),bF h3] (hI h)
 ·exact gn 5 [] [] [bF h0] (hE h)
theorem tD{s0 c c1}{rv:Int}(h:eE s0 c c1=some rv):dK prog 310 [.one (lL 1 s0 mH),.one (.fn (.func 287) [.ip (ae.enc c) 0,.ip (aD.enc c1) 0])] [] (one (lI rv)) []:=by
 refine aX func310 λG=>?_
 simp only[eE,az,aq,ar,au]at h;obtain⟨e0,h4,h⟩:=h;refine gn 7 [0,1,7,8] [] [nL mH s0] (sd G rv h4 ?_);rcases e0 with e0|r1
 ·cases h;exact gr 2 [] []
 ·exact oK h
theorem jW{s0 c c1}{rv:Bool}(h:fg s0 c c1=some rv):dK prog 286 [.one (lL 1 s0 mH),.one (.fn (.func 287) [.ip (ae.enc c) 0,.ip (aD.enc c1) 0])] [] (one (.bool rv)) []:=by
 refine aX func286 λG=>?_
 simp only[fg,az,aq,ar,au]at h;obtain⟨r,h0,h⟩:=h;cases h;exact gr 4 [] [cC (tD h0)]
theorem DF{x0 r}{rv:Int}(h:BV x0 r=some rv):dK prog 254 [.agg (ae.enc x0),.agg (aD.enc r)] [] (one (lI rv)) []:=by
 refine aX func254 λG=>?_
 simp only[BV,az,aq,ar,au]at h;rcases h with⟨h0,h⟩|⟨h0,r1,h1,⟨h2,h⟩|⟨h2,r2,h3,⟨h4,h⟩|⟨h4,h⟩⟩⟩
 ·obtain rfl:=oK h;exact gr 8 [] [rp 5 hP,rp 3 (oI ((bh r.bt 0)=false)),nL av.enc x0.types,hP,hP,rp 2 (oI ((bh r.bt 0)=false)),oR True ((bh r.bt 0)=false),bT h0]
 ·cases h;exact gr 15 [] [rp 5 hP,rp 3 (oI ((bh r.bt 0)=false)),nL av.enc x0.types,hP,hP,rp 2 (oI ((bh r.bt 0)=false)),oR True ((bh r.bt 0)=false),bF h0,cC (BX h1),bT h2]
 ·obtain rfl:=oK h;exact gr 20 [] [rp 5 hP,rp 3 (oI ((bh r.bt 0)=false)),nL av.enc x0.types,hP,hP,rp 2 (oI ((bh r.bt 0)=false)),oR True ((bh r.bt 0)=false),bF h0,cC (BX h1),bF h2,cC (jW h3),bT h4]
 ·obtain rfl:=oK h;exact gr 21 [] [rp 5 hP,rp 3 (oI ((bh r.bt 0)=false)),nL av.enc x0.types,hP,hP,rp 2 (oI ((bh r.bt 0)=false)),oR True ((bh r.bt 0)=false),bF h0,cC (BX h1),bF h2,cC (jW h3),bF h4]
def M9(rv:bu×Bool)(cf:Cf):Prop:=Go prog f288 [] G (.j0 [.agg [lL 1 rv.1.x.bV.bm bN,lL 6 rv.1.x.bV.eX a7.enc,lL 14 rv.1.x.types av.enc,lL 16 rv.1.x.ai aw.enc,lL 2 rv.1.x.dx aW.enc,lL 2 rv.1.x.before aW.enc,.str rv.1.t.name,lI rv.1.t.q7,lI rv.1.t.aY,lI rv.1.t.eI,lL 1 rv.1.t.cap al,lI rv.1.t.cF,lI rv.1.t.aJ,lI rv.1.t.bA,lI rv.1.t.bI,lI rv.1.t.eu,lI rv.1.t.bJ,lI rv.1.t.gA,lI rv.1.t.cP,lI rv.1.t.de,lI rv.1.r.bt,lI rv.1.r.aE,lL 1 rv.1.r.aH dN,lL 2 rv.1.r.ak ab.enc,lL 4 rv.1.aA aS.enc],.one (.bool rv.2)]) [] cf
def QN(rv:bu×Bool)(x0:ae)(r:aD)(x1:av)(l:List aS)(v:Int):Prop:=M9 G rv ⟨[.c 244,.l 244,.b 0,.c 31],⟨78,[vP 2 0 6,vP 4 1 25,vP 6 2 25,vL 49 2 r.ak ab.enc,vI 50 (ay r.ak),vI 51 v],[oX 6 30 (ae.enc x0),oX 25 371 [.fk,.fk,.fk,.fk,.fk,.fk,.str ByteArray.empty,lI 0,lI 0,lI 0,.fk,lI 0,lI 0,lI 0,lI 0,lI 0,lI 0,lI 0,lI 0,lI 0,lI 0,lI 0,.fk,.fk,.fk],oX 25 371 [lL 1 x0.bV.bm bN,lL 6 x0.bV.eX a7.enc,lL 14 x0.types av.enc,lL 16 x0.ai aw.enc,lL 2 x0.dx aW.enc,lL 2 x0.before aW.enc,.str x1.name,lI x1.q7,lI x1.aY,lI x1.eI,lL 1 x1.cap al,lI x1.cF,lI x1.aJ,lI x1.bA,lI x1.bI,lI x1.eu,lI x1.bJ,lI x1.gA,lI x1.cP,lI x1.de,lI r.bt,lI r.aE,lL 1 r.aH dN,lL 2 r.ak ab.enc,lO 3 4 l aS.enc],oS 4 67 l aS.enc]⟩⟩
def OY(rv:bu×Bool)(x0:ae)(r:aD)(x1:av)(l1:List aS):Prop:=M9 G rv ⟨[.c 31],⟨78,[vP 4 0 25,vP 6 1 25],[oX 25 371 [.fk,.fk,.fk,.fk,.fk,.fk,.str ByteArray.empty,lI 0,lI 0,lI 0,.fk,lI 0,lI 0,lI 0,lI 0,lI 0,lI 0,lI 0,lI 0,lI 0,lI 0,lI 0,.fk,.fk,.fk],oX 25 371 [lL 1 x0.bV.bm bN,lL 6 x0.bV.eX a7.enc,lL 14 x0.types av.enc,lL 16 x0.ai aw.enc,lL 2 x0.dx aW.enc,lL 2 x0.before aW.enc,.str x1.name,lI x1.q7,lI x1.aY,lI x1.eI,lL 1 x1.cap al,lI x1.cF,lI x1.aJ,lI x1.bA,lI x1.bI,lI x1.eu,lI x1.bJ,lI x1.gA,lI x1.cP,lI x1.de,lI r.bt,lI r.aE,lL 1 r.aH dN,lL 2 r.ak ab.enc,lO 2 4 l1 aS.enc],oS 4 67 l1 aS.enc]⟩⟩
theorem OZ(rv:bu×Bool){x0 r x1}:∀⦃s:List aS×Int⦄ ⦃e:(List aS)⊕(bu×Bool)⦄,aL (λs=>vT x0 r x1 s.1 s.2) s=some e->jg e (λe=>OY G rv x0 r x1 e) (λe=>e=rv)->QN G rv x0 r x1 s.1 s.2:=by
 refine bz ?_
 rintro⟨l,v⟩ z_ h hI hE;simp only[vT,az,aq,ar,au]at h;rcases h with⟨h2,x2,h3,r1,h4,⟨h5,h⟩|⟨h5,h6,h⟩⟩|⟨h2,h⟩
 ·obtain rfl:=(hE h:_=rv);exact gr 17 [] [bT h2,cE ab.enc h3,cC (qV h4),rp 4 hP,rp 2 (oI ((cp r1.2 0)=false)),oR True ((cp r1.2 0)=false),bT h5,hW 5,hH (.nJ 1 0 1),hH (.nJ 1 1 6),hH (.nJ 1 2 14),hH (.nJ 1 3 16),hH (.nJ 1 4 2),hH (.nJ 1 5 2),hH (.nJ 1 10 1),hH (.nJ 1 22 1),hH (.nJ 1 23 2),hH (.nJ 1 24 4)]
 ·exact gn 20 [2,4,6,49,50,51] [0,1,2,7] [bT h2,cE ab.enc h3,cC (qV h4),rp 4 hP,rp 2 (oI ((cp r1.2 0)=false)),oR True ((cp r1.2 0)=false),bF h5,oO (Eq.refl ([r1.1].map aS.enc).length),aO aS.enc h6] (hI h)
 ·exact gn 5 [4,6] [1,2,3] [bF h2] (hE h)
theorem Ld{x0 r}{rv:bu×Bool}(h:zF x0 r=some rv):dK prog 288 [.agg (ae.enc x0),.agg (aD.enc r)] [] (.j0 [.agg [lL 1 rv.1.x.bV.bm bN,lL 6 rv.1.x.bV.eX a7.enc,lL 14 rv.1.x.types av.enc,lL 16 rv.1.x.ai aw.enc,lL 2 rv.1.x.dx aW.enc,lL 2 rv.1.x.before aW.enc,.str rv.1.t.name,lI rv.1.t.q7,lI rv.1.t.aY,lI rv.1.t.eI,lL 1 rv.1.t.cap al,lI rv.1.t.cF,lI rv.1.t.aJ,lI rv.1.t.bA,lI rv.1.t.bI,lI rv.1.t.eu,lI rv.1.t.bJ,lI rv.1.t.gA,lI rv.1.t.cP,lI rv.1.t.de,lI rv.1.r.bt,lI rv.1.r.aE,lL 1 rv.1.r.aH dN,lL 2 rv.1.r.ak ab.enc,lL 4 rv.1.aA aS.enc],.one (.bool rv.2)]) []:=by
 refine aX func288 λG=>?_
 simp only[zF,az,aq,ar,au]at h;rcases h with⟨h0,h⟩|⟨h0,x1,h1,e0,h7,h⟩
 ·cases h;exact gr 8 [] [rp 5 hP,rp 3 (oI ((bh r.bt 0)=false)),nL av.enc x0.types,rp 13 hP,rp 2 (oI ((bh r.bt 0)=false)),oR True ((bh r.bt 0)=false),rp 2 (oI (((bh r.bt 0)||(cT r.bt (ay x0.types)))=false)),oR True (((bh r.bt 0)||(cT r.bt (ay x0.types)))=false),rp 2 (oI ((((bh r.bt 0)||(cT r.bt (ay x0.types)))||(bh r.aE 0))=false)),oR True ((((bh r.bt 0)||(cT r.bt (ay x0.types)))||(bh r.aE 0))=false),rp 2 (oI (((((bh r.bt 0)||(cT r.bt (ay x0.types)))||(bh r.aE 0))||(dt r.aE 4096))=false)),nL ab.enc r.ak,hP,hP,oI (((((bh r.bt 0)||(cT r.bt (ay x0.types)))||(bh r.aE 0))||(dt r.aE 4096))=false),oR True (((((bh r.bt 0)||(cT r.bt (ay x0.types)))||(bh r.aE 0))||(dt r.aE 4096))=false),bT h0,hW 5,hH (.nJ 2 0 1),hH (.nJ 2 1 6),hH (.nJ 2 2 14),hH (.nJ 2 3 16),hH (.nJ 2 4 2),hH (.nJ 2 5 2),hH (.nJ 2 10 1),hH (.nJ 2 22 1),hH (.nJ 2 23 2),hH (.nJ 2 24 4)]
 ·refine gn 14 [2,4,6,49,50,51] [0,2,3,4] [rp 5 hP,rp 3 (oI ((bh r.bt 0)=false)),nL av.enc x0.types,rp 13 hP,rp 2 (oI ((bh r.bt 0)=false)),oR True ((bh r.bt 0)=false),rp 2 (oI (((bh r.bt 0)||(cT r.bt (ay x0.types)))=false)),oR True (((bh r.bt 0)||(cT r.bt (ay x0.types)))=false),rp 2 (oI ((((bh r.bt 0)||(cT r.bt (ay x0.types)))||(bh r.aE 0))=false)),oR True ((((bh r.bt 0)||(cT r.bt (ay x0.types)))||(bh r.aE 0))=false),rp 2 (oI (((((bh r.bt 0)||(cT r.bt (ay x0.types)))||(bh r.aE 0))||(dt r.aE 4096))=false)),nL ab.enc r.ak,hP,hP,oI (((((bh r.bt 0)||(cT r.bt (ay x0.types)))||(bh r.aE 0))||(dt r.aE 4096))=false),oR True (((((bh r.bt 0)||(cT r.bt (ay x0.types)))||(bh r.aE 0))||(dt r.aE 4096))=false),bF h0,hH (.draw 10 []),cE av.enc h1,nL ab.enc r.ak,hW 3,hH (.QaV 3 24 4 67)] (OZ G rv h7 ?_);rcases e0 with l1|r2
  ·cases h;exact gr 2 [] [hW 5,hH (.ng 2),rp 3 (eL l1 aS.enc)]
  ·exact oK h
theorem A5{p}{rv:aj}(h:gx p=some rv):dK prog 289 [.agg (bu.enc p)] [] (gG [lI rv.ready,lI rv.cz,.bool rv.ct.bJ,lI rv.ct.cW,lL 4 rv.ct.gK a6.enc,lI rv.ct.j8,lI rv.ct.cV]) []:=by
 refine aX func289 λG=>?_
 simp only[gx,az,aq,ar,au]at h;cases h;exact gr 4 [] [hW 15,hH (.nJ 1 4 4)]
theorem nR{p ak}{rv:Int}(h:o5 p ak=some rv):dK prog 317 [.agg (bu.enc p),.one (lI ak)] [] (one (lI rv)) []:=by
 refine aX func317 λG=>?_
 simp only[o5,az,aq,ar,au]at h;rcases h with⟨h0,h⟩|⟨h0,x0,h1,h⟩
 ·cases h;exact gr 8 [] [bT h0]
 ·cases h;exact gr 9 [] [bF h0,cE aS.enc h1]
theorem lF{s0}{rv:List a6}(h:eP s0=some rv):dK prog 316 [.one (lL 4 s0 a6.enc)] [] (one (lO 0 4 rv a6.enc)) [oS 4 405 rv a6.enc]:=by
 refine aX func316 λG=>?_
 simp only[eP,az,aq,ar,au]at h;rcases h with⟨h0,h⟩|⟨h0,h2,h⟩
 ·obtain⟨hx,h⟩:=QgH h;refine gn 5 [0,4] [] [hH (.skip)] (cf':=⟨[.c 13,.c 7],⟨8,[vL 0 4 s0 a6.enc,(4,.pM)],[]⟩⟩) (go_amb 4 rfl ?_ ?_)
  ·replace h:=hx;cases h;exact gr 3 [0] [tT,hW 3,hH (.nP 2 4 405)]
  ·simp only[az,aq,ar,au]at h;obtain⟨h1,h⟩:=h;obtain rfl:=oK h;exact gr 4 [0] [fF,aZ a6.enc h1]
 ·obtain rfl:=oK h;exact gr 9 [0] [oO (neE a6.enc h0),fF,hH (.bit false),aZ a6.enc h2]
def tZ(rv:aj×Int)(cf:Cf):Prop:=Go prog f311 [] G (.j0 [.agg [lI rv.1.ready,lI rv.1.cz,.bool rv.1.ct.bJ,lI rv.1.ct.cW,lL 4 rv.1.ct.gK a6.enc,lI rv.1.ct.j8,lI rv.1.ct.cV],.one (lI rv.2)]) [] cf
theorem zi(rv:aj×Int){p l cW cz lz pX r2 l2 ready j8}(h:lM p l cW cz lz pX r2 l2 ready j8=some rv):tZ G rv ⟨[.c 32767],⟨163,[vP 4 0 25,vP 8 1 7,vP 12 2 7],[oX 25 371 (bu.enc p),oX 7 375 [lI 0,lI 0,.bool false,lI 0,.fk,lI 0,lI 0],oX 7 375 [lI ready,lI (cX .i64 (aV .i64 cz r2.1) cW),.bool lz,lI pX,lO 3 4 l2 a6.enc,lI j8,lI (aV .i64 l.ct.cV r2.2.1)],oS 4 405 l2 a6.enc]⟩⟩:=by
 simp only[lM,az,aq,ar,au]at h;rcases h with⟨y3,h⟩|⟨y3,h⟩
 ·cases h;exact gr 6 [] [bT y3,hW 5,hH (.nJ 1 4 4)]
 ·cases h;exact gr 7 [] [bF y3,hW 6,hH (.ng 3),rp 3 (eL l2 a6.enc)]
theorem zh(rv:aj×Int){p l done cW cz l1 lz pX eI}(h:jC p l done cW cz l1 lz pX eI=some rv):tZ G rv ⟨[.c 1023],⟨163,[vI 2 done,vP 4 0 25,vP 8 1 7,vI 10 cW,vI 11 cz,vP 12 2 7,vB 13 (dk done (ay p.aA)),vI 14 eI],[oX 25 371 (bu.enc p),oX 7 375 [lI 0,lI 0,.bool false,lI 0,.fk,lI 0,lI 0],oX 7 375 [lI 0,lI 0,.bool lz,lI pX,lO 3 4 l1 a6.enc,lI l.ct.j8,lI l.ct.cV],oS 4 405 l1 a6.enc]⟩⟩:=by
 simp only[jC,az,aq,ar,au]at h;rcases h with⟨r1,h6,r2,h7,⟨h8,h⟩|⟨h8,⟨h9,⟨dO,h⟩|⟨dO,h⟩⟩|⟨h9,x2,g_,r3,iO,⟨jD,h⟩|⟨jD,so,h⟩⟩⟩⟩
 ·cases h;exact gr 8 [] [hH (.draw 19 []),cC (nR h6),cC (ka h7),bT h8,hW 5,hH (.nJ 1 4 4)]
 ·cases h;exact gr 21 [] [hH (.draw 19 []),cC (nR h6),cC (ka h7),bF h8,bT h9,bT dO,hW 5,hH (.nJ 1 4 4)]
 ·exact gn 23 [4,8,12] [0,1,2,3] [hH (.draw 19 []),cC (nR h6),cC (ka h7),bF h8,bT h9,bF dO] (zi G rv h)
 ·cases h;exact gr 23 [] [hH (.draw 19 []),cC (nR h6),cC (ka h7),bF h8,bF h9,cE aS.enc g_,cC (wA iO),bT jD,hW 5,hH (.nJ 1 4 4)]
 ·exact gn 25 [4,8,12] [0,1,2,5] [hH (.draw 19 []),cC (nR h6),cC (ka h7),bF h8,bF h9,cE aS.enc g_,cC (wA iO),bF jD,cE aS.enc g_,oO (Eq.refl ([(a6.mk r2.1 r3.1 0 false)].map a6.enc).length),aO a6.enc so] (zi G rv h)
theorem zg(rv:aj×Int){p l done cW cz l1 lz pX}(h:lK p l done cW cz l1 lz pX=some rv):tZ G rv ⟨[.c 127],⟨163,[vI 2 done,vP 4 0 25,vP 8 1 7,vI 10 cW,vI 11 cz,vP 12 2 7],[oX 25 371 (bu.enc p),oX 7 375 [lI 0,lI 0,.bool false,lI 0,.fk,lI 0,lI 0],oX 7 375 [lI 0,lI 0,.bool lz,lI pX,lO 3 4 l1 a6.enc,lI l.ct.j8,lI l.ct.cV],oS 4 405 l1 a6.enc]⟩⟩:=by
 simp only[lK,az,aq,ar,au]at h;rcases h with⟨h4,h⟩|⟨h4,x1,h5,h⟩
 ·exact gn 9 [2,4,8,10,11,12,13,14] [0,1,2,3] [nL aS.enc p.aA,nF h4] (zh G rv h)
 ·exact gn 9 [2,4,8,10,11,12,13,14] [0,1,2,3] [nL aS.enc p.aA,nT h4,cE aS.enc h5] (zh G rv h)
theorem zf(rv:aj×Int){p l done bJ cW cz}(h:lJ p l done bJ cW cz=some rv):tZ G rv ⟨[.c 15],⟨163,[vI 2 done,vB 3 bJ,vP 4 0 25,vP 5 1 7,vP 8 2 7,vI 10 cW,vI 11 cz],[oX 25 371 (bu.enc p),oX 7 375 (aj.enc l),oX 7 375 [lI 0,lI 0,.bool false,lI 0,.fk,lI 0,lI 0]]⟩⟩:=by
 simp only[lJ,az,aq,ar,au]at h;rcases h with⟨r,h1,⟨h2,h⟩|⟨h2,x0,h3,h⟩⟩
 ·exact gn 11 [2,4,8,10,11,12] [0,2,3,4] [cC (lF h1),bT h2] (zg G rv h)
 ·exact gn 11 [2,4,8,10,11,12] [0,2,3,4] [cC (lF h1),bF h2,oO (lp h3),oO (ln a6.enc h3),rE a6.enc h3,hH (.rows ((jq r (cX .i64 done 1) (a6.mk x0.iA x0.te x0.cW bJ)).map a6.enc)),hH (.Dt 4 ((jq r (cX .i64 done 1) (a6.mk x0.iA x0.te x0.cW bJ)).map a6.enc).length),oO (Tv a6.enc r (cX .i64 done 1) (a6.mk x0.iA x0.te x0.cW bJ)),rp 3 (oO (B8 a6.enc r (cX .i64 done 1) (a6.mk x0.iA x0.te x0.cW bJ))),oO (lp (getSet h3 (a6.mk x0.iA x0.te x0.cW bJ))),oO (ln a6.enc (getSet h3 (a6.mk x0.iA x0.te x0.cW bJ))),rE a6.enc (getSet h3 (a6.mk x0.iA x0.te x0.cW bJ)),hH (.rows ((jq (jq r (cX .i64 done 1) (a6.mk x0.iA x0.te x0.cW bJ)) (cX .i64 done 1) (a6.mk x0.iA x0.te cW bJ)).map a6.enc)),hH (.Dt 4 ((jq (jq r (cX .i64 done 1) (a6.mk x0.iA x0.te x0.cW bJ)) (cX .i64 done 1) (a6.mk x0.iA x0.te cW bJ)).map a6.enc).length),oO (Tv a6.enc (jq r (cX .i64 done 1) (a6.mk x0.iA x0.te x0.cW bJ)) (cX .i64 done 1) (a6.mk x0.iA x0.te cW bJ)),rp 4 (oO (B8 a6.enc (jq r (cX .i64 done 1) (a6.mk x0.iA x0.te x0.cW bJ)) (cX .i64 done 1) (a6.mk x0.iA x0.te cW bJ)))] (zg G rv h)
theorem pw{p l done bJ}{rv:aj×Int}(h:ll p l done bJ=some rv):dK prog 311 [.agg (bu.enc p),.agg (aj.enc l),.one (lI done),.one (.bool bJ)] [] (.j0 [.agg [lI rv.1.ready,lI rv.1.cz,.bool rv.1.ct.bJ,lI rv.1.ct.cW,lL 4 rv.1.ct.gK a6.enc,lI rv.1.ct.j8,lI rv.1.ct.cV],.one (lI rv.2)]) []:=by
 refine aX func311 λG=>?_
 simp only[ll,az,aq,ar,au]at h;rcases h with⟨h0,h⟩|⟨h0,h⟩
 ·exact gn 11 [2,3,4,5,8,10,11] [0,1,2] [hH (.draw 6 []),bT h0] (zf G rv h)
 ·exact gn 9 [2,3,4,5,8,10,11] [0,1,2] [hH (.draw 6 []),bF h0] (zf G rv h)
theorem Ir{l m}{rv:Bool}(h:xC l m=some rv):dK prog 314 [.agg (aj.enc l),.agg (aj.enc m)] [] (one (.bool rv)) []:=by
 refine aX func314 λG=>?_
 simp only[xC,az,aq,ar,au]at h;cases h;exact gr 4 [] [rp 6 hP,rp 4 (oI ((dk l.ready m.ready)=true)),oR True ((dk l.ready m.ready)=true)]
theorem An{m c}{rv:Bool}(h:qs m c=some rv):dK prog 313 [.agg (aj.enc m),.one (.ip (aj.enc c) 0)] [] (one (.bool rv)) []:=by
 refine aX func313 λG=>?_
 simp only[qs,az,aq,ar,au]at h;obtain⟨r,h0,h⟩:=h;obtain rfl:=oK h;exact gr 4 [] [cC (Ir h0)]
def gU(rv:Int)(cf:Cf):Prop:=Go prog f318 [] G (one (lI rv)) [] cf
def ni(rv:Int)(s0:List aj)(c:aj)(v:Int):Prop:=gU G rv ⟨[.c 52,.l 52,.b 0,.c 7],⟨19,[vL 0 7 s0 aj.enc,(1,one (.fn (.func 313) [.ip (aj.enc c) 0])),vI 7 (ay s0),vI 8 v],[]⟩⟩
def mY(rv:Int)(s0:List aj)(c:aj):Prop:=gU G rv ⟨[.c 7],⟨19,[],[]⟩⟩
theorem mZ(rv:Int){s0 c}:∀⦃s:Int⦄ ⦃e:(Unit)⊕(Int)⦄,aL (λs=>bD s0 c s) s=some e->jg e (λe=>mY G rv s0 c) (λe=>e=rv)->ni G rv s0 c s:=by
 refine bz ?_
 intro v z_ h hI hE;simp only[bD,az,aq,ar,au]at h;rcases h with⟨h0,x0,h1,r,h2,⟨h3,h⟩|⟨h3,h⟩⟩|⟨h0,h⟩
 ·obtain rfl:=(hE h:_=rv);exact gr 14 [] [bT h0,cE aj.enc h1,cC (An h2),bT h3]
 ·exact gn 16 [0,1,7,8] [] [bT h0,cE aj.enc h1,cC (An h2),bF h3] (hI h)
 ·exact gn 5 [] [] [bF h0] (hE h)
theorem oq{s0 c}{rv:Int}(h:dW s0 c=some rv):dK prog 318 [.one (lL 7 s0 aj.enc),.one (.fn (.func 313) [.ip (aj.enc c) 0])] [] (one (lI rv)) []:=by
 refine aX func318 λG=>?_
 simp only[dW,az,aq,ar,au]at h;obtain⟨e0,h4,h⟩:=h;refine gn 7 [0,1,7,8] [] [nL aj.enc s0] (mZ G rv h4 ?_);rcases e0 with e0|r1
 ·cases h;exact gr 2 [] []
 ·exact oK h
theorem ga{s0 c}{rv:Bool}(h:cD s0 c=some rv):dK prog 312 [.one (lL 7 s0 aj.enc),.one (.fn (.func 313) [.ip (aj.enc c) 0])] [] (one (.bool rv)) []:=by
 refine aX func312 λG=>?_
 simp only[cD,az,aq,ar,au]at h;obtain⟨r,h0,h⟩:=h;cases h;exact gr 4 [] [cC (oq h0)]
def qt(rv:List aj)(cf:Cf):Prop:=Go prog f290 [] G (one (lL 7 rv aj.enc)) [] cf
def Iu(rv:List aj)(p:bu)(l:List aj)(done:Int)(iB:List Bool)(v:Int)(x0:aj)(l3:List aj)(v1:Int):Prop:=qt G rv ⟨[.c 128204,.l 128204,.b 2,.b 1,.c 4007,.l 500,.b 0,.c 63],⟨64,[vI 2 done,vP 3 0 25,vL 7 1 iB dN,vO 8 1 7 l3 aj.enc,vP 10 2 7,vL 29 7 l aj.enc,vI 30 (ay l),vI 31 v,vL 35 1 iB dN,vI 36 (ay iB),vI 37 v1],[oX 25 371 (bu.enc p),oS 7 375 l3 aj.enc,oX 7 375 (aj.enc x0)]⟩⟩
def G1(rv:List aj)(p:bu)(l:List aj)(done:Int)(iB:List Bool)(v:Int)(x0:aj)(l4:List aj):Prop:=qt G rv ⟨[.b 1,.c 4007,.l 500,.b 0,.c 63],⟨64,[vI 2 done,vP 3 0 25,vL 7 1 iB dN,vO 8 1 7 l4 aj.enc,vL 29 7 l aj.enc,vI 30 (ay l),vI 31 v],[oX 25 371 (bu.enc p),oS 7 375 l4 aj.enc]⟩⟩
def Is(rv:List aj)(p:bu)(l:List aj)(done:Int)(iB:List Bool)(l2:List aj)(v:Int):Prop:=qt G rv ⟨[.c 500,.l 500,.b 0,.c 63],⟨64,[vI 2 done,vP 3 0 25,vL 7 1 iB dN,vO 8 1 7 l2 aj.enc,vL 29 7 l aj.enc,vI 30 (ay l),vI 31 v],[oX 25 371 (bu.enc p),oS 7 375 l2 aj.enc]⟩⟩
def GZ(rv:List aj)(p:bu)(l:List aj)(done:Int)(iB:List Bool)(l5:List aj):Prop:=qt G rv ⟨[.c 63],⟨64,[vO 8 0 7 l5 aj.enc],[oS 7 375 l5 aj.enc]⟩⟩
theorem G2(rv:List aj){p l done iB v x0}:∀⦃s:List aj×Int⦄ ⦃e:List aj⦄,aL (λs=>gf p l done iB v x0 s.1 s.2) s=some e->G1 G rv p l done iB v x0 e->Iu G rv p l done iB v x0 s.1 s.2:=by
 refine bz ?_
 rintro⟨l3,v1⟩ z_ h hI hE;simp only[gf,az,aq,ar,au]at h;rcases h with⟨h4,x1,h5,r,h6,⟨h7,r1,h8,⟨h9,h⟩|⟨h9,dO,h⟩⟩|⟨h7,h⟩⟩|⟨h4,h⟩
 ·exact gn 18 [2,3,7,8,10,29,30,31,35,36,37] [0,1,2] [bT h4,cE dN h5,cC (pw h6),rp 3 (bT h7),eL l3 aj.enc,cC (ga h8),bT h7,bT h7,nF h9] (hI h)
 ·exact gn 18 [2,3,7,8,10,29,30,31,35,36,37] [0,5,2] [bT h4,cE dN h5,cC (pw h6),rp 3 (bT h7),eL l3 aj.enc,cC (ga h8),bT h7,bT h7,nT h9,oO (Eq.refl ([r.1].map aj.enc).length),aO aj.enc dO] (hI h)
 ·exact gn 18 [2,3,7,8,10,29,30,31,35,36,37] [0,1,2] [bT h4,cE dN h5,cC (pw h6),rp 5 (bF h7),fF] (hI h)
 ·exact gn 5 [2,3,7,8,29,30,31] [0,1] [bF h4] (hE h)
theorem G0(rv:List aj){p l done iB}:∀⦃s:List aj×Int⦄ ⦃e:List aj⦄,aL (λs=>gb p l done iB s.1 s.2) s=some e->GZ G rv p l done iB e->Is G rv p l done iB s.1 s.2:=by
 refine bz ?_
 rintro⟨l2,v⟩ z_ h hI hE;simp only[gb,az,aq,ar,au]at h;rcases h with⟨h2,x0,h3,l4,g_,h⟩|⟨h2,h⟩
 ·refine gn 13 [2,3,7,8,10,29,30,31,35,36,37] [0,1,2] [bT h2,cE aj.enc h3,nL dN iB] (G2 G rv g_ ?_);exact gn 3 [2,3,7,8,29,30,31] [0,1] [] (hI h)
 ·exact gn 5 [8] [1] [bF h2] (hE h)
theorem ze(rv:List aj){p l done iB}(h:lH p l done iB=some rv):qt G rv ⟨[.c 15],⟨64,[vL 1 7 l aj.enc,vI 2 done,vP 3 0 25,vL 7 1 iB dN],[oX 25 371 (bu.enc p)]⟩⟩:=by
 simp only[lH,az,aq,ar,au]at h;obtain⟨l5,iO,h⟩:=h;refine gn 7 [2,3,7,8,29,30,31] [0,1] [nL aj.enc l,hW 3,hH (.nP 8 7 375)] (G0 G rv iO ?_);obtain rfl:=oK h;exact gr 2 [] [hW 4,hH (.ng 0),rp 3 (eL l5 aj.enc)]
theorem LB{p l done}{rv:List aj}(h:nA p l done=some rv):dK prog 290 [.agg (bu.enc p),.one (lL 7 l aj.enc),.one (lI done)] [] (one (lL 7 rv aj.enc)) []:=by
 refine aX func290 λG=>?_
 simp only[nA,az,aq,ar,au]at h;rcases h with⟨h0,l1,h1,h⟩|⟨h0,h⟩
 ·exact gn 9 [1,2,3,7] [0] [nL dN p.r.aH,bT h0,hH (.rows (l1.map dN)),oO (sl1 h1),oO (sl2 h1),oO (wL dN h1),oO (QaJ (aV .i64 done 1)),oO (wL dN h1),oO (sl6 dN h1)] (ze G rv h)
 ·exact gn 9 [1,2,3,7] [0] [nL dN p.r.aH,bF h0,hW 1,hH (.ng 1),rp 2 (oO (Eq.refl ([false,true].map dN).length))] (ze G rv h)
def En(rv:a8×Int)(cf:Cf):Prop:=Go prog f291 [] G (.j0 [.agg [.bool rv.1.bJ,lI rv.1.cW,lL 4 rv.1.gK a6.enc,lI rv.1.j8,lI rv.1.cV],.one (lI rv.2)]) [] cf
def Kn(rv:a8×Int)(p:bu)(aH:List Bool)(r:aj)(bJ:Int)(x0:aj)(v:Int):Prop:=En G rv ⟨[.c 116,.l 116,.b 0,.c 15],⟨36,[vP 2 0 25,vP 4 1 5,vP 6 2 7,vL 13 1 aH dN,vI 14 (ay aH),vI 15 v],[oX 25 371 [lL 1 p.x.bV.bm bN,lL 6 p.x.bV.eX a7.enc,lL 14 p.x.types av.enc,lL 16 p.x.ai aw.enc,lL 2 p.x.dx aW.enc,lL 2 p.x.before aW.enc,.str p.t.name,lI p.t.q7,lI p.t.aY,lI p.t.eI,lL 1 p.t.cap al,lI p.t.cF,lI p.t.aJ,lI p.t.bA,lI p.t.bI,lI p.t.eu,lI bJ,lI p.t.gA,lI p.t.cP,lI p.t.de,lI p.r.bt,lI p.r.aE,lL 1 p.r.aH dN,lL 2 p.r.ak ab.enc,lL 4 p.aA aS.enc],oX 5 296 [.bool false,lI 0,.fk,lI 0,lI 0],oX 7 375 (aj.enc x0)]⟩⟩
def Iv(rv:a8×Int)(p:bu)(aH:List Bool)(r x2:aj):Prop:=En G rv ⟨[.c 15],⟨36,[vP 4 0 5,vP 6 1 7],[oX 5 296 [.bool false,lI 0,.fk,lI 0,lI 0],oX 7 375 (aj.enc x2)]⟩⟩
theorem Iw(rv:a8×Int){p aH r}:∀⦃s:Int×aj×Int⦄ ⦃e:(aj)⊕(a8×Int)⦄,aL (λs=>qu p aH r s.1 s.2.1 s.2.2) s=some e->jg e (λe=>Iv G rv p aH r e) (λe=>e=rv)->Kn G rv p aH r s.1 s.2.1 s.2.2:=by
 refine bz ?_
 rintro⟨bJ,x0,v⟩ z_ h hI hE;simp only[qu,az,aq,ar,au]at h;rcases h with⟨h1,x1,h2,r1,h3,⟨h4,h⟩|⟨h4,h⟩⟩|⟨h1,h⟩
 ·obtain rfl:=(hE h:_=rv);exact gr 17 [] [bT h1,cE dN h2,cC (pw h3),bT h4,hW 6,hH (.nJ 1 2 4)]
 ·exact gn 20 [2,4,6,13,14,15] [0,1,2] [bT h1,cE dN h2,cC (pw h3),bF h4] (hI h)
 ·exact gn 5 [4,6] [1,2] [bF h1] (hE h)
theorem M_{p aH}{rv:a8×Int}(h:rB p aH=some rv):dK prog 291 [.agg (bu.enc p),.one (lL 1 aH dN)] [] (.j0 [.agg [.bool rv.1.bJ,lI rv.1.cW,lL 4 rv.1.gK a6.enc,lI rv.1.j8,lI rv.1.cV],.one (lI rv.2)]) []:=by
 refine aX func291 λG=>?_
 simp only[rB,az,aq,ar,au]at h;obtain⟨r,h0,e0,h5,h⟩:=h;refine gn 9 [2,4,6,13,14,15] [0,1,2] [cC (A5 h0),nL dN aH] (Iw G rv h5 ?_);rcases e0 with x2|r2
 ·cases h;exact gr 2 [] []
 ·exact oK h
def Bo(rv:a8×Int)(cf:Cf):Prop:=Go prog f255 [] G (.j0 [.agg [.bool rv.1.bJ,lI rv.1.cW,lL 4 rv.1.gK a6.enc,lI rv.1.j8,lI rv.1.cV],.one (lI rv.2)]) [] cf
def QL(rv:a8×Int)(r:aD)(r1:bu×Bool)(l:List aj)(v:Int):Prop:=Bo G rv ⟨[.c 1012,.l 1012,.b 0,.c 127],⟨82,[vP 3 0 4,vP 4 1 5,vP 6 2 25,vI 8 (aV .i64 (ay r.ak) 1),vL 9 7 l aj.enc,vI 38 (aV .i64 (ay r.ak) 1),vI 39 v],[oX 4 48 (aD.enc r),oX 5 296 [.bool false,lI 0,.fk,lI 0,lI 0],oX 25 371 (bu.enc r1.1)]⟩⟩
def OU(rv:a8×Int)(r:aD)(r1:bu×Bool)(l1:List aj):Prop:=Bo G rv ⟨[.c 127],⟨82,[vP 3 0 4,vP 4 1 5,vP 6 2 25,vI 8 (aV .i64 (ay r.ak) 1),vL 9 7 l1 aj.enc],[oX 4 48 (aD.enc r),oX 5 296 [.bool false,lI 0,.fk,lI 0,lI 0],oX 25 371 (bu.enc r1.1)]⟩⟩
def QM(rv:a8×Int)(l3:List aj)(x2:aj)(v1:Int):Prop:=Bo G rv ⟨[.c 8180,.l 8180,.b 2,.c 1023],⟨82,[vP 4 0 5,vP 12 1 7,vL 65 7 l3 aj.enc,vI 66 (ay l3),vI 67 v1],[oX 5 296 [.bool false,lI 0,.fk,lI 0,lI 0],oX 7 375 (aj.enc x2)]⟩⟩
def OW(rv:a8×Int)(l3:List aj)(x4:aj):Prop:=Bo G rv ⟨[.c 1023],⟨82,[vP 4 0 5,vP 12 1 7],[oX 5 296 [.bool false,lI 0,.fk,lI 0,lI 0],oX 7 375 (aj.enc x4)]⟩⟩
theorem OV(rv:a8×Int){r r1}:∀⦃s:List aj×Int⦄ ⦃e:List aj⦄,aL (λs=>j9 r r1 s.1 s.2) s=some e->OU G rv r r1 e->QL G rv r r1 s.1 s.2:=by
 refine bz ?_
 rintro⟨l,v⟩ z_ h hI hE;simp only[j9,az,aq,ar,au]at h;rcases h with⟨h3,r3,h4,h⟩|⟨h3,h⟩
 ·exact gn 13 [3,4,6,8,9,38,39] [0,1,2] [bT h3,cC (LB h4)] (hI h)
 ·exact gn 5 [3,4,6,8,9] [0,1,2] [bF h3] (hE h)
theorem OX(rv:a8×Int){l3}:∀⦃s:aj×Int⦄ ⦃e:aj⦄,aL (λs=>j_ l3 s.1 s.2) s=some e->OW G rv l3 e->QM G rv l3 s.1 s.2:=by
 refine bz ?_
 rintro⟨x2,v1⟩ z_ h hI hE;simp only[j_,az,aq,ar,au]at h;rcases h with⟨g_,x3,iO,⟨jD,h⟩|⟨jD,h⟩⟩|⟨g_,h⟩
 ·exact gn 16 [4,12,65,66,67] [0,1] [bT g_,cE aj.enc iO,bT jD] (hI h)
 ·exact gn 16 [4,12,65,66,67] [0,1] [bT g_,cE aj.enc iO,bF jD] (hI h)
 ·exact gn 5 [4,12] [0,1] [bF g_] (hE h)
theorem Lc{x0 r}{rv:a8×Int}(h:zE x0 r=some rv):dK prog 255 [.agg (ae.enc x0),.agg (aD.enc r)] [] (.j0 [.agg [.bool rv.1.bJ,lI rv.1.cW,lL 4 rv.1.gK a6.enc,lI rv.1.j8,lI rv.1.cV],.one (lI rv.2)]) []:=by
 refine aX func255 λG=>?_
 simp only[zE,az,aq,ar,au]at h;rcases h with⟨r1,h0,⟨h1,h⟩|⟨h1,r2,h2,l1,h5,h⟩⟩
 ·cases h;exact gr 12 [] [cC (Ld h0),nL ab.enc r.ak,hP,hP,hP,rp 2 (oI ((!r1.2)=false)),nL dN r.aH,hP,hP,hP,rp 2 (oI ((!r1.2)=false)),oR True ((!r1.2)=false),bT h1,hW 5,hH (.nJ 2 2 4)]
 ·refine gn 18 [3,4,6,8,9,38,39] [1,2,3] [cC (Ld h0),nL ab.enc r.ak,hP,hP,hP,rp 2 (oI ((!r1.2)=false)),nL dN r.aH,hP,hP,hP,rp 2 (oI ((!r1.2)=false)),oR True ((!r1.2)=false),bF h1,cC (A5 h2),hW 9,hH (.ng 4),rp 2 (oO (Eq.refl ([r2].map aj.enc).length))] (OV G rv h5 ?_);rcases h with⟨h6,l2,h7,r4,h8,h⟩|⟨h6,x1,h9,l3,dO,x4,so,h⟩
  ·cases h;exact gr 10 [] [nL aj.enc l1,bT h6,hH (.cells [.bool false]),hH (.rows (l2.map dN)),oO (MN h7),oO (NT h7),oO (QC h7),oO (Rb h7),oO (RA dN h7),cY dN l2 r.aH,hH (.Dt 3 ((Kl l2 r.aH).map dN).length),hW 4,hH (.ng 3),rp 3 (oO (Qnt dN l2 r.aH)),rp 4 (oO (Eq.refl ((Kl l2 r.aH).map dN).length)),cC (M_ h8)]
  ·refine gn 12 [4,12,65,66,67] [1,3] [nL aj.enc l1,bF h6,cE aj.enc h9,hH (.rows (l3.map aj.enc)),oO (sl1 dO),oO (QqM aj.enc dO),rp 3 (oO (QaJ ((l1.map aj.enc).length:Int))),oO (QqN aj.enc dO),nL aj.enc l3] (OX G rv so ?_);cases h;exact gr 2 [] []
theorem uZ{kind own}{rv:Bool}(h:wc kind own=some rv):dK prog 292 [.one (lI kind),.one (lI own)] [] (one (.bool rv)) []:=by
 refine aX func292 λG=>?_
 simp only[wc,az,aq,ar,au]at h;cases h;exact gr 4 [] [rp 4 hP,rp 2 (oI ((cp kind (-1))=true)),oR True ((cp kind (-1))=true)]
def D3(rv:cb)(cf:Cf):Prop:=Go prog f256 [] G (gG [lI rv.y7,lI rv.jz,lI rv.gY,lI rv.K6]) [] cf
def EW(rv:cb)(x0:ae)(r:aD)(s0:a8)(x1:av)(l:List (Int×Int))(jz gY v:Int):Prop:=D3 G rv ⟨[.c 4084,.l 4084,.b 0,.c 511],⟨114,[vP 3 0 6,vP 4 1 4,vP 6 2 4,vP 10 3 4,(11,one (.mp 4)),vL 59 2 r.ak ab.enc,vI 60 (ay r.ak),vI 61 v],[oX 6 30 (ae.enc x0),oX 4 48 (aD.enc r),oX 4 272 [lI 0,lI 0,lI 0,lI 0],oX 4 272 [lI (aV .i64 (aV .i64 x1.gA (nh .i64 x1.cP s0.cV)) (nh .i64 x1.de (cX .i64 s0.j8 x1.bA))),lI jz,lI gY,lI (nh .i64 (q_ .i64 (cX .i64 s0.j8 x1.bA) 64) (q_ .i64 (cX .i64 s0.j8 x1.bA) 64))],oM 380 l (mE kI lI)]⟩⟩
def Dr(rv:cb)(x0:ae)(r:aD)(s0:a8)(x1:av)(Pj Pq:Int):Prop:=D3 G rv ⟨[.c 511],⟨114,[vP 6 0 4,vP 10 1 4],[oX 4 272 [lI 0,lI 0,lI 0,lI 0],oX 4 272 [lI (aV .i64 (aV .i64 x1.gA (nh .i64 x1.cP s0.cV)) (nh .i64 x1.de (cX .i64 s0.j8 x1.bA))),lI Pj,lI Pq,lI (nh .i64 (q_ .i64 (cX .i64 s0.j8 x1.bA) 64) (q_ .i64 (cX .i64 s0.j8 x1.bA) 64))]]⟩⟩
theorem Dq(rv:cb){x0 r s0 x1 l gY v x2 x3 Gf}{x:(List (Int×Int)×Int×Int×Int)⊕(Int×Int)}(h:uE x0 r s0 x1 l gY v x2 x3 Gf=some x)(hI:∀⦃s:List (Int×Int)×Int×Int×Int⦄,some (.inl s)=some x->EW G rv x0 r s0 x1 s.1 s.2.1 s.2.2.1 s.2.2.2)(hE:∀⦃e:Int×Int⦄,some (.inr e)=some x->Dr G rv x0 r s0 x1 e.1 e.2):D3 G rv ⟨[.c 2091423,.b 1,.c 32679,.l 4084,.b 0,.c 511],⟨114,[vP 3 0 6,vP 4 1 4,vP 6 2 4,vP 10 3 4,(11,one (.mp 4)),vP 14 5 16,vL 59 2 r.ak ab.enc,vI 60 (ay r.ak),vI 61 v],[oX 6 30 (ae.enc x0),oX 4 48 (aD.enc r),oX 4 272 [lI 0,lI 0,lI 0,lI 0],oX 4 272 [lI (aV .i64 (aV .i64 x1.gA (nh .i64 x1.cP s0.cV)) (nh .i64 x1.de (cX .i64 s0.j8 x1.bA))),lI Gf,lI gY,lI (nh .i64 (q_ .i64 (cX .i64 s0.j8 x1.bA) 64) (q_ .i64 (cX .i64 s0.j8 x1.bA) 64))],oM 380 (EL dk l x2.aP (aV .i64 (wM dk l x2.aP 0) 1)) (mE kI lI),oX 16 69 (aw.enc x3)]⟩⟩:=by
 simp only[uE,az,aq,ar,au]at h;rcases h with⟨r2,h9,⟨dO,h⟩|⟨dO,h⟩⟩
 ·exact gn 7 [3,4,6,10,11,59,60,61] [0,1,2,3,4] [cC (uZ h9),bT dO] (hI h)
 ·exact gn 7 [3,4,6,10,11,59,60,61] [0,1,2,3,4] [cC (uZ h9),bF dO] (hI h)
theorem NN(rv:cb){x0 r s0 x1}:∀⦃s:List (Int×Int)×Int×Int×Int⦄ ⦃e:Int×Int⦄,aL (λs=>kA x0 r s0 x1 s.1 s.2.1 s.2.2.1 s.2.2.2) s=some e->Dr G rv x0 r s0 x1 e.1 e.2->EW G rv x0 r s0 x1 s.1 s.2.1 s.2.2.1 s.2.2.2:=by
 refine bz ?_
 rintro⟨l,jz,gY,v⟩ z_ h hI hE;simp only[kA,az,aq,ar,au]at h;rcases h with⟨h2,x2,h3,⟨h4,h⟩|⟨h4,⟨h5,h⟩|⟨h5,x3,h6,r1,h7,⟨h8,h⟩|⟨h8,h⟩⟩⟩⟩|⟨h2,h⟩
 ·exact gn 18 [3,4,6,10,11,59,60,61] [0,1,2,3,4] [bT h2,cE ab.enc h3,mG Z2 lI l x2.aP 0,mU Z2 lI l x2.aP (aV .i64 (wM dk l x2.aP 0) 1),rp 5 hP,rp 3 (oI ((bh x2.aP 0)=false)),nL aw.enc x0.ai,hP,hP,rp 2 (oI ((bh x2.aP 0)=false)),oR True ((bh x2.aP 0)=false),rp 6 (bT h4),tT] (hI h)
 ·exact gn 18 [3,4,6,10,11,59,60,61] [0,1,2,3,4] [bT h2,cE ab.enc h3,mG Z2 lI l x2.aP 0,mU Z2 lI l x2.aP (aV .i64 (wM dk l x2.aP 0) 1),rp 5 hP,rp 3 (oI ((bh x2.aP 0)=false)),nL aw.enc x0.ai,hP,hP,rp 2 (oI ((bh x2.aP 0)=false)),oR True ((bh x2.aP 0)=false),rp 4 (bF h4),mG Z2 lI (EL dk l x2.aP (aV .i64 (wM dk l x2.aP 0) 1)) x2.aP 0,bF h4,bF h4,bT h5] (hI h)
 ·exact gn 23 [3,4,6,10,11,14,59,60,61] [0,1,2,3,4,6] [bT h2,cE ab.enc h3,mG Z2 lI l x2.aP 0,mU Z2 lI l x2.aP (aV .i64 (wM dk l x2.aP 0) 1),rp 5 hP,rp 3 (oI ((bh x2.aP 0)=false)),nL aw.enc x0.ai,hP,hP,rp 2 (oI ((bh x2.aP 0)=false)),oR True ((bh x2.aP 0)=false),rp 4 (bF h4),mG Z2 lI (EL dk l x2.aP (aV .i64 (wM dk l x2.aP 0) 1)) x2.aP 0,bF h4,bF h4,bF h5,cE aw.enc h6,cC (uZ h7),bT h8] (Dq G rv h hI hE)
 ·exact gn 23 [3,4,6,10,11,14,59,60,61] [0,1,2,3,4,6] [bT h2,cE ab.enc h3,mG Z2 lI l x2.aP 0,mU Z2 lI l x2.aP (aV .i64 (wM dk l x2.aP 0) 1),rp 5 hP,rp 3 (oI ((bh x2.aP 0)=false)),nL aw.enc x0.ai,hP,hP,rp 2 (oI ((bh x2.aP 0)=false)),oR True ((bh x2.aP 0)=false),rp 4 (bF h4),mG Z2 lI (EL dk l x2.aP (aV .i64 (wM dk l x2.aP 0) 1)) x2.aP 0,bF h4,bF h4,bF h5,cE aw.enc h6,cC (uZ h7),bF h8] (Dq G rv h hI hE)
 ·exact gn 5 [6,10] [2,3] [bF h2] (hE h)
theorem Tp{x0 r s0}{rv:cb}(h:Az x0 r s0=some rv):dK prog 256 [.agg (ae.enc x0),.agg (aD.enc r),.agg (a8.enc s0)] [] (gG [lI rv.y7,lI rv.jz,lI rv.gY,lI rv.K6]) []:=by
 refine aX func256 λG=>?_
 simp only[Az,az,aq,ar,au]at h;rcases h with⟨h0,h⟩|⟨h0,x1,h1,⟨Pj,Pq⟩,g_,h⟩
 ·cases h;exact gr 8 [] [rp 5 hP,rp 3 (oI ((bh r.bt 0)=false)),nL av.enc x0.types,hP,hP,rp 2 (oI ((bh r.bt 0)=false)),oR True ((bh r.bt 0)=false),bT h0]
 ·refine gn 22 [3,4,6,10,11,59,60,61] [0,1,3,5,6] [rp 5 hP,rp 3 (oI ((bh r.bt 0)=false)),nL av.enc x0.types,hP,hP,rp 2 (oI ((bh r.bt 0)=false)),oR True ((bh r.bt 0)=false),bF h0,cE av.enc h1,oO (oA (n:=64)),nL ab.enc r.ak] (NN G rv g_ ?_);cases h;exact gr 2 [] []
theorem Du{x0 r}{rv:a8×cb×Int}(h:mV x0 r=some rv):dK prog 219 [.agg (ae.enc x0),.agg (aD.enc r)] [] (.j0 [.agg [.bool rv.1.bJ,lI rv.1.cW,lL 4 rv.1.gK a6.enc,lI rv.1.j8,lI rv.1.cV],.agg [lI rv.2.1.y7,lI rv.2.1.jz,lI rv.2.1.gY,lI rv.2.1.K6],.one (lI rv.2.2)]) []:=by
 refine aX func219 λG=>?_
 simp only[mV,az,aq,ar,au]at h;rcases h with⟨h0,h⟩|⟨h0,r1,h1,⟨h2,h⟩|⟨h2,r2,h3,⟨h4,h⟩|⟨h4,r3,h5,⟨h6,h⟩|⟨h6,r4,h7,⟨h8,h⟩|⟨h8,r5,h9,h⟩⟩⟩⟩⟩
 ·cases h;exact gr 8 [] [rp 5 hP,rp 3 (oI ((bh r.bt 0)=false)),nL av.enc x0.types,hP,hP,rp 2 (oI ((bh r.bt 0)=false)),oR True ((bh r.bt 0)=false),bT h0,hW 7,hH (.nJ 2 2 4)]
 ·cases h;exact gr 28 [] [rp 5 hP,rp 3 (oI ((bh r.bt 0)=false)),nL av.enc x0.types,hP,hP,rp 2 (oI ((bh r.bt 0)=false)),oR True ((bh r.bt 0)=false),bF h0,nL xD [252,253,254],tT,oO (lp (rfl:bn ([252,253,254]:List Nat) 0=some 252)),oO (ln xD (rfl:bn ([252,253,254]:List Nat) 0=some 252)),rE xD (rfl:bn ([252,253,254]:List Nat) 0=some 252),cC (jb h1),bT h2,hW 8,hH (.nJ 2 2 4)]
 ·cases h;exact gr 46 [] [rp 5 hP,rp 3 (oI ((bh r.bt 0)=false)),nL av.enc x0.types,hP,hP,rp 2 (oI ((bh r.bt 0)=false)),oR True ((bh r.bt 0)=false),bF h0,nL xD [252,253,254],tT,oO (lp (rfl:bn ([252,253,254]:List Nat) 0=some 252)),oO (ln xD (rfl:bn ([252,253,254]:List Nat) 0=some 252)),rE xD (rfl:bn ([252,253,254]:List Nat) 0=some 252),cC (jb h1),bF h2,tT,oO (lp (rfl:bn ([252,253,254]:List Nat) 1=some 253)),oO (ln xD (rfl:bn ([252,253,254]:List Nat) 1=some 253)),rE xD (rfl:bn ([252,253,254]:List Nat) 1=some 253),cC (Ac h3),bT h4,hW 8,hH (.nJ 2 2 4)]
 ·cases h;exact gr 64 [] [rp 5 hP,rp 3 (oI ((bh r.bt 0)=false)),nL av.enc x0.types,hP,hP,rp 2 (oI ((bh r.bt 0)=false)),oR True ((bh r.bt 0)=false),bF h0,nL xD [252,253,254],tT,oO (lp (rfl:bn ([252,253,254]:List Nat) 0=some 252)),oO (ln xD (rfl:bn ([252,253,254]:List Nat) 0=some 252)),rE xD (rfl:bn ([252,253,254]:List Nat) 0=some 252),cC (jb h1),bF h2,tT,oO (lp (rfl:bn ([252,253,254]:List Nat) 1=some 253)),oO (ln xD (rfl:bn ([252,253,254]:List Nat) 1=some 253)),rE xD (rfl:bn ([252,253,254]:List Nat) 1=some 253),cC (Ac h3),bF h4,tT,oO (lp (rfl:bn ([252,253,254]:List Nat) 2=some 254)),oO (ln xD (rfl:bn ([252,253,254]:List Nat) 2=some 254)),rE xD (rfl:bn ([252,253,254]:List Nat) 2=some 254),cC (DF h5),bT h6,hW 8,hH (.nJ 2 2 4)]
 ·cases h;exact gr 79 [] [rp 5 hP,rp 3 (oI ((bh r.bt 0)=false)),nL av.enc x0.types,hP,hP,rp 2 (oI ((bh r.bt 0)=false)),oR True ((bh r.bt 0)=false),bF h0,nL xD [252,253,254],tT,oO (lp (rfl:bn ([252,253,254]:List Nat) 0=some 252)),oO (ln xD (rfl:bn ([252,253,254]:List Nat) 0=some 252)),rE xD (rfl:bn ([252,253,254]:List Nat) 0=some 252),cC (jb h1),bF h2,tT,oO (lp (rfl:bn ([252,253,254]:List Nat) 1=some 253)),oO (ln xD (rfl:bn ([252,253,254]:List Nat) 1=some 253)),rE xD (rfl:bn ([252,253,254]:List Nat) 1=some 253),cC (Ac h3),bF h4,tT,oO (lp (rfl:bn ([252,253,254]:List Nat) 2=some 254)),oO (ln xD (rfl:bn ([252,253,254]:List Nat) 2=some 254)),rE xD (rfl:bn ([252,253,254]:List Nat) 2=some 254),cC (DF h5),bF h6,fF,cC (Lc h7),bT h8,hW 8,hH (.nJ 2 2 4)]
 ·cases h;exact gr 80 [] [rp 5 hP,rp 3 (oI ((bh r.bt 0)=false)),nL av.enc x0.types,hP,hP,rp 2 (oI ((bh r.bt 0)=false)),oR True ((bh r.bt 0)=false),bF h0,nL xD [252,253,254],tT,oO (lp (rfl:bn ([252,253,254]:List Nat) 0=some 252)),oO (ln xD (rfl:bn ([252,253,254]:List Nat) 0=some 252)),rE xD (rfl:bn ([252,253,254]:List Nat) 0=some 252),cC (jb h1),bF h2,tT,oO (lp (rfl:bn ([252,253,254]:List Nat) 1=some 253)),oO (ln xD (rfl:bn ([252,253,254]:List Nat) 1=some 253)),rE xD (rfl:bn ([252,253,254]:List Nat) 1=some 253),cC (Ac h3),bF h4,tT,oO (lp (rfl:bn ([252,253,254]:List Nat) 2=some 254)),oO (ln xD (rfl:bn ([252,253,254]:List Nat) 2=some 254)),rE xD (rfl:bn ([252,253,254]:List Nat) 2=some 254),cC (DF h5),bF h6,fF,cC (Lc h7),bF h8,hH (.draw 5 []),cC (Tp h9)]
theorem Jm{x0 r}{rv:Int×Int}(h:mW x0 r=some rv):dK prog 166 [.agg (ae.enc x0),.agg (aD.enc r)] [] (.j0 [.one (lI rv.1),.one (lI rv.2)]) []:=by
 refine aX func166 λG=>?_
 simp only[mW,az,aq,ar,au]at h;rcases h with⟨r1,h0,⟨h1,h⟩|⟨h1,r2,h2,h⟩⟩
 ·cases h;exact gr 10 [] [cC (Du h0),bT h1]
 ·cases h;exact gr 11 [] [cC (Du h0),bF h1,cC (Q_ h2)]
def Lb(rv:Int)(cf:Cf):Prop:=Go prog f122 [] G (one (lI rv)) [] cf
def OM(rv:Int)(iM:List Int)(v:Int):Prop:=Lb G rv ⟨[.c 116,.l 116,.b 0,.c 15],⟨18,[vI 3 0,vL 6 1 iM al,vI 7 (ay iM),vI 8 v],[]⟩⟩
def M3(rv:Int)(iM:List Int):Prop:=Lb G rv ⟨[.c 15],⟨18,[vI 3 0],[]⟩⟩
theorem M4(rv:Int){iM}:∀⦃s:Int⦄ ⦃e:(Unit)⊕(Int)⦄,aL (λs=>ko iM s) s=some e->jg e (λe=>M3 G rv iM) (λe=>e=rv)->OM G rv iM s:=by
 refine bz ?_
 intro v z_ h hI hE;simp only[ko,az,aq,ar,au]at h;rcases h with⟨h0,x0,h1,⟨h2,h⟩|⟨h2,h⟩⟩|⟨h0,h⟩
 ·obtain rfl:=(hE h:_=rv);exact gr 14 [] [bT h0,cE al h1,bT h2]
 ·exact gn 16 [3,6,7,8] [] [bT h0,cE al h1,bF h2] (hI h)
 ·exact gn 5 [3] [] [bF h0] (hE h)
theorem Ss{iM}{rv:Int}(h:Ak iM=some rv):dK prog 122 [.one (lL 1 iM al)] [] (one (lI rv)) []:=by
 refine aX func122 λG=>?_
 simp only[Ak,az,aq,ar,au]at h;obtain⟨e0,h3,h⟩:=h;refine gn 9 [3,6,7,8] [] [nL al iM] (M4 G rv h3 ?_);rcases e0 with e0|r
 ·obtain rfl:=oK h;exact gr 2 [] []
 ·exact oK h
theorem zC{v}{rv:Int}(h:mc v=some rv):dK prog 293 [.agg (ab.enc v)] [] (one (lI rv)) []:=by
 refine aX func293 λG=>?_
 simp only[mc,az,aq,ar,au]at h;rcases h with⟨h0,h⟩|⟨h0,h⟩
 ·obtain rfl:=oK h;exact gr 8 [] [bT h0]
 ·obtain rfl:=oK h;exact gr 9 [] [bF h0]
theorem Bi{a b}{rv:Int}(h:rZ a b=some rv):dK prog 258 [.agg (ab.enc a),.agg (ab.enc b)] [] (one (lI rv)) []:=by
 refine aX func258 λG=>?_
 simp only[rZ,az,aq,ar,au]at h;obtain⟨r,h0,r1,h1,r2,h2,r3,h3,r4,h4,h⟩:=h;obtain rfl:=oK h;exact gr 6 [] [hH (.draw 15 []),cC (rb h0),cC (zC h1),cC (zC h2),cC (rb h3),oO (Eq.refl ([r,r3].map al).length),cC (Ss h4)]
def eH(rv:Int)(cf:Cf):Prop:=Go prog f257 [] G (one (lI rv)) [] cf
def gW(rv:Int)(s1 s2:List ab)(v:Int):Prop:=eH G rv ⟨[.c 52,.l 52,.b 0,.c 7],⟨39,[vL 0 2 s1 ab.enc,vL 1 2 s2 ab.enc,(2,one (.fn (.func 258) [])),vL 11 2 s1 ab.enc,vI 12 (ay s1),vI 13 v],[]⟩⟩
def gS(rv:Int)(s1 s2:List ab):Prop:=eH G rv ⟨[.c 7],⟨39,[vL 0 2 s1 ab.enc,vL 1 2 s2 ab.enc],[]⟩⟩
theorem gT(rv:Int){s1 s2}:∀⦃s:Int⦄ ⦃e:(Unit)⊕(Int)⦄,aL (λs=>bq s1 s2 s) s=some e->jg e (λe=>gS G rv s1 s2) (λe=>e=rv)->gW G rv s1 s2 s:=by
 refine bz ?_
 intro v z_ h hI hE;simp only[bq,az,aq,ar,au]at h;rcases h with⟨h0,x0,h1,⟨h2,h⟩|⟨h2,x1,h3,r,h4,⟨h5,h⟩|⟨h5,h⟩⟩⟩|⟨h0,h⟩
 ·obtain rfl:=(hE h:_=rv);exact gr 15 [] [bT h0,cE ab.enc h1,nL ab.enc s2,bT h2]
 ·obtain rfl:=(hE h:_=rv);exact gr 23 [] [bT h0,cE ab.enc h1,nL ab.enc s2,bF h2,cE ab.enc h3,cC (Bi h4),bT h5]
 ·exact gn 25 [0,1,2,11,12,13] [] [bT h0,cE ab.enc h1,nL ab.enc s2,bF h2,cE ab.enc h3,cC (Bi h4),bF h5] (hI h)
 ·exact gn 5 [0,1] [] [bF h0] (hE h)
theorem ij{s1 s2}{rv:Int}(h:cL s1 s2=some rv):dK prog 257 [.one (lL 2 s1 ab.enc),.one (lL 2 s2 ab.enc),.one (.fn (.func 258) [])] [] (one (lI rv)) []:=by
 refine aX func257 λG=>?_
 simp only[cL,az,aq,ar,au]at h;obtain⟨e0,h6,h⟩:=h;refine gn 7 [0,1,2,11,12,13] [] [nL ab.enc s1] (gT G rv h6 ?_);rcases e0 with e0|r1
 ·simp only[c5,az,aq,ar,au]at h;rcases h with⟨h7,h⟩|⟨h7,h⟩
  ·cases h;exact gr 6 [] [nL ab.enc s1,nL ab.enc s2,bT h7]
  ·obtain rfl:=oK h;exact gr 7 [] [nL ab.enc s1,nL ab.enc s2,bF h7]
 ·exact oK h
theorem PO{a b}{rv:Bool}(h:wj a b=some rv):dK prog 220 [.one (lL 2 a ab.enc),.one (lL 2 b ab.enc)] [] (one (.bool rv)) []:=by
 refine aX func220 λG=>?_
 simp only[wj,az,aq,ar,au]at h;obtain⟨r,h0,h⟩:=h;cases h;exact gr 4 [] [cC (ij h0)]
theorem Ig{a b}{rv:Bool}(h:wZ a b=some rv):dK prog 168 [.agg (aM.enc a),.agg (aM.enc b)] [] (one (.bool rv)) []:=by
 refine aX func168 λG=>?_
 simp only[wZ,az,aq,ar,au]at h;rcases h with⟨h0,h⟩|⟨h0,r,h1,h⟩
 ·cases h;exact gr 8 [] [bT h0]
 ·obtain rfl:=oK h;exact gr 9 [] [bF h0,cC (PO h1)]
def pe(rv:Bool)(cf:Cf):Prop:=Go prog f221 [] G (one (.bool rv)) [] cf
def K0(rv:Bool)(x0:ae)(l:List ab)(v:ab)(r1:List ab)(v1:Int):Prop:=pe G rv ⟨[.c 116,.l 116,.b 0,.c 15],⟨63,[vL 1 2 l ab.enc,vP 3 0 6,vP 5 1 2,vL 21 2 r1 ab.enc,vI 22 (ay r1),vI 23 v1],[oX 6 30 (ae.enc x0),oX 2 102 (ab.enc v)]⟩⟩
def Jx(rv:Bool)(x0:ae)(l:List ab)(v:ab)(r1:List ab):Prop:=pe G rv ⟨[.c 15],⟨63,[vL 1 2 l ab.enc,vP 3 0 6,vP 5 1 2],[oX 6 30 (ae.enc x0),oX 2 102 (ab.enc v)]⟩⟩
def K2(rv:Bool)(x0:ae)(l:List ab)(v:ab)(v2:Int)(r3:List ab)(v3:Int):Prop:=pe G rv ⟨[.c 125340,.l 125340,.b 4,.b 3,.c 1959,.l 244,.b 2,.c 31],⟨63,[vL 1 2 l ab.enc,vP 3 0 6,vP 5 1 2,vL 36 2 x0.before aW.enc,vI 37 (ay x0.before),vI 38 v2,vL 51 2 r3 ab.enc,vI 52 (ay r3),vI 53 v3],[oX 6 30 (ae.enc x0),oX 2 102 (ab.enc v)]⟩⟩
def JB(rv:Bool)(x0:ae)(l:List ab)(v:ab)(v2:Int)(r3:List ab):Prop:=pe G rv ⟨[.b 3,.c 1959,.l 244,.b 2,.c 31],⟨63,[vL 1 2 l ab.enc,vP 3 0 6,vP 5 1 2,vL 36 2 x0.before aW.enc,vI 37 (ay x0.before),vI 38 v2],[oX 6 30 (ae.enc x0),oX 2 102 (ab.enc v)]⟩⟩
def K1(rv:Bool)(x0:ae)(l:List ab)(v:ab)(v2:Int):Prop:=pe G rv ⟨[.c 244,.l 244,.b 2,.c 31],⟨63,[vL 1 2 l ab.enc,vP 3 0 6,vP 5 1 2,vL 36 2 x0.before aW.enc,vI 37 (ay x0.before),vI 38 v2],[oX 6 30 (ae.enc x0),oX 2 102 (ab.enc v)]⟩⟩
def Jz(rv:Bool)(x0:ae)(l:List ab)(v:ab):Prop:=pe G rv ⟨[.c 31],⟨63,[],[]⟩⟩
theorem Jy(rv:Bool){x0 l v r1}:∀⦃s:Int⦄ ⦃e:(Unit)⊕(Bool)⦄,aL (λs=>gR x0 l v r1 s) s=some e->jg e (λe=>Jx G rv x0 l v r1) (λe=>e=rv)->K0 G rv x0 l v r1 s:=by
 refine bz ?_
 intro v1 z_ h hI hE;simp only[gR,az,aq,ar,au]at h;rcases h with⟨h3,x1,h4,⟨h5,h⟩|⟨h5,r2,h6,⟨h7,h⟩|⟨h7,h⟩⟩⟩|⟨h3,h⟩
 ·exact gn 14 [1,3,5] [0,1] [bT h3,cE ab.enc h4,bT h5] (hE h)
 ·obtain rfl:=(hE h:_=rv);exact gr 19 [] [bT h3,cE ab.enc h4,bF h5,cC (fV h6),bT h7]
 ·exact gn 21 [1,3,5,21,22,23] [0,1] [bT h3,cE ab.enc h4,bF h5,cC (fV h6),bF h7] (hI h)
 ·exact gn 5 [1,3,5] [0,1] [bF h3] (hE h)
theorem JC(rv:Bool){x0 l v v2 r3}:∀⦃s:Int⦄ ⦃e:(Unit)⊕(Bool)⦄,aL (λs=>jd x0 l v v2 r3 s) s=some e->jg e (λe=>JB G rv x0 l v v2 r3) (λe=>e=rv)->K2 G rv x0 l v v2 r3 s:=by
 refine bz ?_
 intro v3 z_ h hI hE;simp only[jd,az,aq,ar,au]at h;rcases h with⟨jD,x3,so,r4,y3,⟨vj,h⟩|⟨vj,h⟩⟩|⟨jD,h⟩
 ·obtain rfl:=(hE h:_=rv);exact gr 14 [] [bT jD,cE ab.enc so,cC (fV y3),bT vj]
 ·exact gn 16 [1,3,5,36,37,38,51,52,53] [0,1] [bT jD,cE ab.enc so,cC (fV y3),bF vj] (hI h)
 ·exact gn 5 [1,3,5,36,37,38] [0,1] [bF jD] (hE h)
theorem JA(rv:Bool){x0 l v}:∀⦃s:Int⦄ ⦃e:(Unit)⊕(Bool)⦄,aL (λs=>jc x0 l v s) s=some e->jg e (λe=>Jz G rv x0 l v) (λe=>e=rv)->K1 G rv x0 l v s:=by
 refine bz ?_
 intro v2 z_ h hI hE;simp only[jc,az,aq,ar,au]at h;rcases h with⟨h9,x2,dO,⟨g_,h⟩|⟨g_,r3,iO,e1,B4,h⟩⟩|⟨h9,h⟩
 ·exact gn 16 [1,3,5,36,37,38] [0,1] [bT h9,cE aW.enc dO,oO (zL 1),oO (lT 1 2),bT g_] (hI h)
 ·refine gn 18 [1,3,5,36,37,38,51,52,53] [0,1] [bT h9,cE aW.enc dO,oO (zL 1),oO (lT 1 2),bF g_,oO (zL 0),oO (lT 0 2),cC (nK iO),nL ab.enc r3] (JC G rv B4 ?_);rcases e1 with e1|r5
  ·exact gn 3 [1,3,5,36,37,38] [0,1] [] (hI h)
  ·exact(hE h:_=rv)
 ·exact gn 5 [] [] [bF h9] (hE h)
theorem Dz{x0 l v}{rv:Bool}(h:uH x0 l v=some rv):dK prog 221 [.agg (ae.enc x0),.one (lL 2 l ab.enc),.agg (ab.enc v)] [] (one (.bool rv)) []:=by
 refine aX func221 λG=>?_
 simp only[uH,az,aq,ar,au]at h;rcases h with⟨r,h0,⟨h1,h⟩|⟨h1,r1,h2,e0,h8,h⟩⟩
 ·obtain rfl:=oK h;exact gr 8 [] [cC (fV h0),bT h1]
 ·refine gn 12 [1,3,5,21,22,23] [0,1] [cC (fV h0),bF h1,cC (nK h2),nL ab.enc r1] (Jy G rv h8 ?_);rcases e0 with e0|r7
  ·simp only[c5,az,aq,ar,au]at h;obtain⟨e2,Lg,h⟩:=h;refine gn 5 [1,3,5,36,37,38] [0,1] [nL aW.enc x0.before] (JA G rv Lg ?_);rcases e2 with e2|r6
   ·obtain rfl:=oK h;exact gr 2 [] []
   ·exact oK h
  ·exact oK h
def wz(rv:List ab)(cf:Cf):Prop:=Go prog f169 [] G (one (lL 2 rv ab.enc)) [] cf
def Mr(rv:List ab)(x0:ae)(b9:Int)(l:List ab)(v:Int)(r l2:List ab)(v1:Int):Prop:=wz G rv ⟨[.c 59804,.l 59804,.b 2,.b 1,.c 935,.l 116,.b 0,.c 15],⟨53,[vI 1 b9,vL 2 2 l ab.enc,vP 3 0 6,vO 7 1 2 l2 ab.enc,vL 13 16 x0.ai aw.enc,vI 14 (ay x0.ai),vI 15 v,vL 36 2 r ab.enc,vI 37 (ay r),vI 38 v1],[oX 6 30 (ae.enc x0),oS 2 102 l2 ab.enc]⟩⟩
def KY(rv:List ab)(x0:ae)(b9:Int)(l:List ab)(v:Int)(r l3:List ab):Prop:=wz G rv ⟨[.b 1,.c 935,.l 116,.b 0,.c 15],⟨53,[vI 1 b9,vL 2 2 l ab.enc,vP 3 0 6,vO 7 1 2 l3 ab.enc,vL 13 16 x0.ai aw.enc,vI 14 (ay x0.ai),vI 15 v],[oX 6 30 (ae.enc x0),oS 2 102 l3 ab.enc]⟩⟩
def Mq(rv:List ab)(x0:ae)(b9:Int)(l l1:List ab)(v:Int):Prop:=wz G rv ⟨[.c 116,.l 116,.b 0,.c 15],⟨53,[vI 1 b9,vL 2 2 l ab.enc,vP 3 0 6,vO 7 1 2 l1 ab.enc,vL 13 16 x0.ai aw.enc,vI 14 (ay x0.ai),vI 15 v],[oX 6 30 (ae.enc x0),oS 2 102 l1 ab.enc]⟩⟩
def KV(rv:List ab)(x0:ae)(b9:Int)(l l4:List ab):Prop:=wz G rv ⟨[.c 15],⟨53,[vO 7 0 2 l4 ab.enc],[oS 2 102 l4 ab.enc]⟩⟩
theorem KZ(rv:List ab){x0 b9 l v r}:∀⦃s:List ab×Int⦄ ⦃e:List ab⦄,aL (λs=>jT x0 b9 l v r s.1 s.2) s=some e->KY G rv x0 b9 l v r e->Mr G rv x0 b9 l v r s.1 s.2:=by
 refine bz ?_
 rintro⟨l2,v1⟩ z_ h hI hE;simp only[jT,az,aq,ar,au]at h;rcases h with⟨h6,x2,h7,r1,h8,⟨h9,dO,h⟩|⟨h9,h⟩⟩|⟨h6,h⟩
 ·exact gn 16 [1,2,3,7,13,14,15,36,37,38] [0,4] [bT h6,cE ab.enc h7,cC (Dz h8),bT h9,oO (Eq.refl ([x2].map ab.enc).length),aO ab.enc dO] (hI h)
 ·exact gn 16 [1,2,3,7,13,14,15,36,37,38] [0,1] [bT h6,cE ab.enc h7,cC (Dz h8),bF h9] (hI h)
 ·exact gn 5 [1,2,3,7,13,14,15] [0,1] [bF h6] (hE h)
theorem KX(rv:List ab){x0 b9 l}:∀⦃s:List ab×Int⦄ ⦃e:List ab⦄,aL (λs=>iK x0 b9 l s.1 s.2) s=some e->KV G rv x0 b9 l e->Mq G rv x0 b9 l s.1 s.2:=by
 refine bz ?_
 rintro⟨l1,v⟩ z_ h hI hE;simp only[iK,az,aq,ar,au]at h;rcases h with⟨h0,x1,h1,⟨h2,h⟩|⟨h2,h3,⟨h4,h⟩|⟨h4,r,h5,l3,g_,h⟩⟩⟩|⟨h0,h⟩
 ·exact gn 16 [1,2,3,7,13,14,15] [0,1] [bT h0,cE aw.enc h1,rp 6 (bT h2),rp 4 tT] (hI h)
 ·exact gn 16 [1,2,3,7,13,14,15] [0,1] [bT h0,cE aw.enc h1,rp 3 (bF h2),oO (h3),rp 3 (bF h2),hP,hP,hP,oI ((dk (MO .i64 (AZ .i64 b9 v) 1) 0)=false),oR True ((dk (MO .i64 (AZ .i64 b9 v) 1) 0)=false),bT h4] (hI h)
 ·refine gn 18 [1,2,3,7,13,14,15,36,37,38] [0,1] [bT h0,cE aw.enc h1,rp 3 (bF h2),oO (h3),rp 3 (bF h2),hP,hP,hP,oI ((dk (MO .i64 (AZ .i64 b9 v) 1) 0)=false),oR True ((dk (MO .i64 (AZ .i64 b9 v) 1) 0)=false),bF h4,cC (nK h5),nL ab.enc r] (KZ G rv g_ ?_);exact gn 3 [1,2,3,7,13,14,15] [0,1] [] (hI h)
 ·exact gn 5 [7] [1] [bF h0] (hE h)
theorem PQ{x0 b9 l}{rv:List ab}(h:wk x0 b9 l=some rv):dK prog 169 [.agg (ae.enc x0),.one (lI b9),.one (lL 2 l ab.enc)] [] (one (lL 2 rv ab.enc)) []:=by
 refine aX func169 λG=>?_
 simp only[wk,az,aq,ar,au]at h;obtain⟨l4,iO,h⟩:=h;refine gn 9 [1,2,3,7,13,14,15] [0,1] [nL aw.enc x0.ai,hW 3,hH (.nP 7 2 102)] (KX G rv iO ?_);obtain rfl:=oK h;exact gr 2 [] [hW 4,hH (.ng 0),rp 3 (eL l4 ab.enc)]
def mi(rv:Int)(cf:Cf):Prop:=Go prog f260 [] G (one (lI rv)) [] cf
def sX(rv:Int)(s0:List aB)(v:aB)(v1:Int):Prop:=mi G rv ⟨[.c 52,.l 52,.b 0,.c 7],⟨19,[vL 0 2 s0 aB.enc,vP 3 0 2,vI 7 (ay s0),vI 8 v1],[oX 2 257 (aB.enc v)]⟩⟩
def sv(rv:Int)(s0:List aB)(v:aB):Prop:=mi G rv ⟨[.c 7],⟨19,[],[]⟩⟩
theorem sw(rv:Int){s0 v}:∀⦃s:Int⦄ ⦃e:(Unit)⊕(Int)⦄,aL (λs=>cM s0 v s) s=some e->jg e (λe=>sv G rv s0 v) (λe=>e=rv)->sX G rv s0 v s:=by
 refine bz ?_
 intro v1 z_ h hI hE;simp only[cM,az,aq,ar,au]at h;rcases h with⟨h0,x0,h1,⟨h2,h⟩|⟨h2,h⟩⟩|⟨h0,h⟩
 ·obtain rfl:=(hE h:_=rv);exact gr 14 [] [bT h0,hH (.draw 6 []),cE aB.enc h1,bT h2]
 ·exact gn 16 [0,3,7,8] [0] [bT h0,hH (.draw 6 []),cE aB.enc h1,bF h2] (hI h)
 ·exact gn 5 [] [] [bF h0] (hE h)
theorem tX{s0 v}{rv:Int}(h:eQ s0 v=some rv):dK prog 260 [.one (lL 2 s0 aB.enc),.agg (aB.enc v)] [] (one (lI rv)) []:=by
 refine aX func260 λG=>?_
 simp only[eQ,az,aq,ar,au]at h;obtain⟨e0,h3,h⟩:=h;refine gn 7 [0,3,7,8] [0] [nL aB.enc s0] (sw G rv h3 ?_);rcases e0 with e0|r
 ·cases h;exact gr 2 [] []
 ·exact oK h
theorem j6{s0 v}{rv:Bool}(h:fp s0 v=some rv):dK prog 222 [.one (lL 2 s0 aB.enc),.agg (aB.enc v)] [] (one (.bool rv)) []:=by
 refine aX func222 λG=>?_
 simp only[fp,az,aq,ar,au]at h;obtain⟨r,h0,h⟩:=h;cases h;exact gr 4 [] [cC (tX h0)]
theorem uP{l s0}{rv:List aB}(h:oG l s0=some rv):dK prog 172 [.one (lO 0 2 l aB.enc),.agg (aB.enc s0)] [bS 2 257 l aB.enc] (one (lO 0 2 rv aB.enc)) [oS 2 257 rv aB.enc]:=by
 refine aX func172 λG=>?_
 simp only[oG,az,aq,ar,au]at h;rcases h with⟨r,h0,⟨h1,h⟩|⟨h1,h2,h⟩⟩
 ·obtain rfl:=oK h;exact gr 8 [0] [eL l aB.enc,cC (j6 h0),bT h1]
 ·cases h;exact gr 9 [3] [eL l aB.enc,cC (j6 h0),bF h1,oO (Eq.refl ([s0].map aB.enc).length),aO aB.enc h2]
theorem DE{s0 l cW gL}{rv:List aB×aT}(h:lC s0 l cW gL=some rv):dK prog 100 [.one (.op 0 17 0 0),.one (lO 1 2 l aB.enc),.one (lI cW),.one (lI gL)] [bX 17 174 (aT.enc s0),bS 2 257 l aB.enc] (one (lO 1 2 rv.1 aB.enc)) [oX 17 174 [lL 1 rv.2.x.bV.bm bN,lL 6 rv.2.x.bV.eX a7.enc,lL 14 rv.2.x.types av.enc,lL 16 rv.2.x.ai aw.enc,lL 2 rv.2.x.dx aW.enc,lL 2 rv.2.x.before aW.enc,lI rv.2.kind,lI rv.2.b9,lI rv.2.pV,lI rv.2.dw.bt,lI rv.2.dw.b9,lI rv.2.dw.p_,lI rv.2.dw.eG.bt,lI rv.2.dw.eG.aE,lL 1 rv.2.dw.eG.aH dN,lL 2 rv.2.dw.eG.ak ab.enc,.bool rv.2.dU],oS 2 257 rv.1 aB.enc]:=by
 refine aX func100 λG=>?_
 simp only[lC,az,aq,ar,au]at h;obtain⟨r,h0,x0,h1,r1,h2,h⟩:=h;cases h;exact gr 6 [0,3] [cI [1] (uP h0),hH (.draw 18 [(2,16)]),cE av.enc h1,cI [2] (uP h2)]
def A3(rv:List aB×aT)(cf:Cf):Prop:=Go prog f170 [0] G (one (lL 2 rv.1 aB.enc)) [oX 17 174 [lL 1 rv.2.x.bV.bm bN,lL 6 rv.2.x.bV.eX a7.enc,lL 14 rv.2.x.types av.enc,lL 16 rv.2.x.ai aw.enc,lL 2 rv.2.x.dx aW.enc,lL 2 rv.2.x.before aW.enc,lI rv.2.kind,lI rv.2.b9,lI rv.2.pV,lI rv.2.dw.bt,lI rv.2.dw.b9,lI rv.2.dw.p_,lI rv.2.dw.eG.bt,lI rv.2.dw.eG.aE,lL 1 rv.2.dw.eG.aH dN,lL 2 rv.2.dw.eG.ak ab.enc,.bool rv.2.dU]] cf
def Fq(rv:List aB×aT)(aY:Int)(l:List aB)(stop:aS)(x0:av)(l1:List aB)(x1:aT)(v:Int):Prop:=A3 G rv ⟨[.c 244,.l 244,.b 0,.c 31],⟨86,[vP 0 0 17,vI 1 aY,vP 7 1 4,vP 9 2 14,vO 10 3 2 l1 aB.enc,vL 28 2 l aB.enc,vI 29 (ay l),vI 30 v],[oX 17 174 (aT.enc x1),oX 4 67 (aS.enc stop),oX 14 92 (av.enc x0),oS 2 257 l1 aB.enc]⟩⟩
def Ei(rv:List aB×aT)(aY:Int)(l:List aB)(stop:aS)(x0:av)(l2:List aB)(x3:aT):Prop:=A3 G rv ⟨[.c 31],⟨86,[vO 10 1 2 l2 aB.enc],[oX 17 174 (aT.enc x3),oS 2 257 l2 aB.enc]⟩⟩
theorem Ej(rv:List aB×aT){aY l stop x0}:∀⦃s:List aB×aT×Int⦄ ⦃e:List aB×aT⦄,aL (λs=>mB aY l stop x0 s.1 s.2.1 s.2.2) s=some e->Ei G rv aY l stop x0 e.1 e.2->Fq G rv aY l stop x0 s.1 s.2.1 s.2.2:=by
 refine bz ?_
 rintro⟨l1,x1,v⟩ z_ h hI hE;simp only[mB,az,aq,ar,au]at h;rcases h with⟨h1,x2,h2,r,h3,⟨h4,h⟩|⟨h4,r1,h5,⟨h6,h⟩|⟨h6,r2,h7,h⟩⟩⟩|⟨h1,h⟩
 ·exact gn 18 [0,1,7,9,10,28,29,30] [0,1,2,3] [bT h1,cE aB.enc h2,hH (.draw 20 []),cC (ka h3),rp 11 hP,rp 9 (oI ((cp r.2.2 0)=false)),oR True ((cp r.2.2 0)=false),bT h4] (hI h)
 ·exact gn 25 [0,1,7,9,10,28,29,30] [0,1,2,3] [bT h1,cE aB.enc h2,hH (.draw 20 []),cC (ka h3),rp 11 hP,rp 9 (oI ((cp r.2.2 0)=false)),oR True ((cp r.2.2 0)=false),bF h4,cC (sj h5),bT h6] (hI h)
 ·exact gn 27 [0,1,7,9,10,28,29,30] [0,1,2,5] [bT h1,cE aB.enc h2,hH (.draw 20 []),cC (ka h3),rp 11 hP,rp 9 (oI ((cp r.2.2 0)=false)),oR True ((cp r.2.2 0)=false),bF h4,cC (sj h5),bF h6,cI [0,3] (DE h7)] (hI h)
 ·exact gn 5 [10] [0,3] [bF h1] (hE h)
theorem Af{s0 aY l stop}{rv:List aB×aT}(h:qo s0 aY l stop=some rv):dK prog 170 [.one (.op 0 17 0 0),.one (lI aY),.one (lL 2 l aB.enc),.agg (aS.enc stop)] [bX 17 174 (aT.enc s0)] (one (lL 2 rv.1 aB.enc)) [oX 17 174 [lL 1 rv.2.x.bV.bm bN,lL 6 rv.2.x.bV.eX a7.enc,lL 14 rv.2.x.types av.enc,lL 16 rv.2.x.ai aw.enc,lL 2 rv.2.x.dx aW.enc,lL 2 rv.2.x.before aW.enc,lI rv.2.kind,lI rv.2.b9,lI rv.2.pV,lI rv.2.dw.bt,lI rv.2.dw.b9,lI rv.2.dw.p_,lI rv.2.dw.eG.bt,lI rv.2.dw.eG.aE,lL 1 rv.2.dw.eG.aH dN,lL 2 rv.2.dw.eG.ak ab.enc,.bool rv.2.dU]]:=by
 refine aX func170 λG=>?_
 simp only[qo,az,aq,ar,au]at h;obtain⟨x0,h0,⟨l2,x3⟩,h8,h⟩:=h;refine gn 11 [0,1,7,9,10,28,29,30] [0,1,2,3] [hH (.draw 12 []),cE av.enc h0,nL aB.enc l,hW 3,hH (.nP 10 2 257)] (Ej G rv h8 ?_);cases h;exact gr 2 [0] [hW 4,hH (.ng 1),rp 3 (eL l2 aB.enc)]
theorem u_{s0}{rv:List ab}(h:fl s0=some rv):dK prog 171 [.one (lL 2 s0 ab.enc)] [] (one (.sl true 2 (rv.map ab.enc))) []:=by
 refine aX func171 λG=>?_
 simp only[fl,az,aq,ar,au]at h;obtain⟨l,h0,h⟩:=h;obtain rfl:=oK h;exact gr 4 [] [rp 2 (nL ab.enc s0),hH (.rows (l.map ab.enc)),oO (Eq.refl (ay s0)),oO (sl1 h0),oO (sl2 h0),oO (wL ab.enc h0),oO (QaJ (ay s0)),oO (wL ab.enc h0),oO (sl6 ab.enc h0)]
theorem xy{dw some_ VD}{rv:aM}(h:iY dw some_ VD=some rv):dK prog 167 [.agg (aM.enc dw),.one (.bool some_),.agg (aM.enc VD),.one (.fn (.func 168) [])] [] (gG [lI rv.bt,lI rv.b9,lI rv.p_,lI rv.eG.bt,lI rv.eG.aE,lL 1 rv.eG.aH dN,lL 2 rv.eG.ak ab.enc]) []:=by
 refine aX func167 λG=>?_
 simp only[iY,az,aq,ar,au]at h;rcases h with⟨h0,r,h1,⟨h2,h⟩|⟨h2,h⟩⟩|⟨h0,h⟩
 ·obtain rfl:=oK h;exact gr 8 [] [rp 4 (nF h0),cC (Ig h1),nF h0,bT h2]
 ·obtain rfl:=oK h;exact gr 9 [] [rp 4 (nF h0),cC (Ig h1),nF h0,bF h2]
 ·obtain rfl:=oK h;exact gr 8 [] [rp 5 (nT h0),tT]
end
end Go.Proofs.YtkcilfpbgjjjbaaGreatDoor
