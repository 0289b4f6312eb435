/- Part MW. -/
import Derived.Test.YtkcilfpbgjjjbaaGreatDoorMI
import Derived.Test.YtkcilfpbgjjjbaaGreatDoorMV
import Derived.Test.YtkcilfpbgjjjbaaGreatDoorProg
set_option linter.unusedSimpArgs false
set_option linter.unusedVariables false
set_option linter.unusedSectionVars false
namespace Go.Proofs.YtkcilfpbgjjjbaaGreatDoor
open _root_.Go.Proofs.Tryz
section
variable (G:bC)
set_option maxHeartbeats 4000000
set_option maxRecDepth 100000
def BU(rv:aT)(cf:Cf):Prop:=Go prog f99 [0] G (.j0 []) [oX 17 174 [lL 1 rv.x.bV.bm bN,lL 6 rv.x.bV.eX a7.enc,lL 14 rv.x.types av.enc,lL 16 rv.x.ai aw.enc,lL 2 rv.x.dx aW.enc,lL 2 rv.x.before aW.enc,lI rv.kind,lI rv.b9,lI rv.pV,lI rv.dw.bt,lI rv.dw.b9,lI rv.dw.p_,lI rv.dw.eG.bt,lI rv.dw.eG.aE,lL 1 rv.dw.eG.aH dN,lL 2 rv.dw.eG.ak ab.enc,.bool rv.dU]] cf
def GX(rv:aT)(self:aT->(List ab)->Int->(List aB)->O aT)(ak:List ab)(aY:Int)(l:List aB)(r2:List ab)(x0:aT)(v:Int):Prop:=BU G rv ⟨[.c 28,.l 28,.b 0],⟨114,[vP 0 0 17,vL 1 2 ak ab.enc,vI 2 aY,vL 3 2 l aB.enc,vL 77 2 r2 ab.enc,vI 78 (ay r2),vI 79 v],[oX 17 174 (aT.enc x0)]⟩⟩
def Fs(rv:aT)(self:aT->(List ab)->Int->(List aB)->O aT)(ak:List ab)(aY:Int)(l:List aB)(r2:List ab)(x2:aT):Prop:=BU G rv ⟨[],⟨114,[],[oX 17 174 (aT.enc x2)]⟩⟩
theorem Ft(rv:aT){self:aT->(List ab)->Int->(List aB)->O aT}(Lk:∀{s0:aT} {ak:List ab} {aY:Int} {l:List aB} {rv:aT},self s0 ak aY l=some rv->dK prog 99 [.one (.op 0 17 0 0),.one (lL 2 ak ab.enc),.one (lI aY),.one (lL 2 l aB.enc)] [bX 17 174 (aT.enc s0)] (.j0 []) [oX 17 174 [lL 1 rv.x.bV.bm bN,lL 6 rv.x.bV.eX a7.enc,lL 14 rv.x.types av.enc,lL 16 rv.x.ai aw.enc,lL 2 rv.x.dx aW.enc,lL 2 rv.x.before aW.enc,lI rv.kind,lI rv.b9,lI rv.pV,lI rv.dw.bt,lI rv.dw.b9,lI rv.dw.p_,lI rv.dw.eG.bt,lI rv.dw.eG.aE,lL 1 rv.dw.eG.aH dN,lL 2 rv.dw.eG.ak ab.enc,.bool rv.dU]]){ak aY l r2}:∀⦃s:aT×Int⦄ ⦃e:aT⦄,aL (λs=>nQ self ak aY l r2 s.1 s.2) s=some e->Fs G rv self ak aY l r2 e->GX G rv self ak aY l r2 s.1 s.2:=by
 refine bz ?_
 rintro⟨x0,v⟩ z_ h hI hE;simp only[nQ,az,aq,ar,au]at h;rcases h with⟨h5,x1,h6,r3,h7,⟨h8,h⟩|⟨h8,r4,h9,⟨dO,r5,g_,iO,r6,jD,h⟩|⟨dO,h⟩⟩⟩|⟨h5,h⟩
 ·exact gn 18 [0,1,2,3,77,78,79] [0] [bT h5,cE ab.enc h6,hH (.draw 13 [(2,11)]),cC (qV h7),bT h8] (hI h)
 ·exact gn 25 [0,1,2,3,77,78,79] [0] [bT h5,cE ab.enc h6,hH (.draw 13 [(2,11)]),cC (qV h7),bF h8,cI [0] (Af h9),nL aB.enc r4.1,bT dO,hH (.draw 9 []),cC (u_ g_),oO (Eq.refl ([x1].map ab.enc).length),hH (.rows ((r5++[x1]).map ab.enc)),hH (.ng 4),oO (QoY ab.enc r5 [x1]),oO (neA ab.enc r5 [x1] (by simp)),oO (QkK (l:=((r5++[x1]):List ab)) ab.enc iO),oO (QdN (l:=((r5++[x1]):List ab)) (b:=16) ab.enc (by decide) iO),oO (Eq.refl ((r5++[x1]).map ab.enc).length),cI [0] (Lk jD)] (hI h)
 ·exact gn 25 [0,1,2,3,77,78,79] [0] [bT h5,cE ab.enc h6,hH (.draw 13 [(2,11)]),cC (qV h7),bF h8,cI [0] (Af h9),nL aB.enc r4.1,bF dO] (hI h)
 ·exact gn 5 [] [0] [bF h5] (hE h)
theorem GW{self:aT->(List ab)->Int->(List aB)->O aT}(Lk:∀{s0:aT} {ak:List ab} {aY:Int} {l:List aB} {rv:aT},self s0 ak aY l=some rv->dK prog 99 [.one (.op 0 17 0 0),.one (lL 2 ak ab.enc),.one (lI aY),.one (lL 2 l aB.enc)] [bX 17 174 (aT.enc s0)] (.j0 []) [oX 17 174 [lL 1 rv.x.bV.bm bN,lL 6 rv.x.bV.eX a7.enc,lL 14 rv.x.types av.enc,lL 16 rv.x.ai aw.enc,lL 2 rv.x.dx aW.enc,lL 2 rv.x.before aW.enc,lI rv.kind,lI rv.b9,lI rv.pV,lI rv.dw.bt,lI rv.dw.b9,lI rv.dw.p_,lI rv.dw.eG.bt,lI rv.dw.eG.aE,lL 1 rv.dw.eG.aH dN,lL 2 rv.dw.eG.ak ab.enc,.bool rv.dU]]){s0 ak aY l}{rv:aT}(h:po self s0 ak aY l=some rv):dK prog 99 [.one (.op 0 17 0 0),.one (lL 2 ak ab.enc),.one (lI aY),.one (lL 2 l aB.enc)] [bX 17 174 (aT.enc s0)] (.j0 []) [oX 17 174 [lL 1 rv.x.bV.bm bN,lL 6 rv.x.bV.eX a7.enc,lL 14 rv.x.types av.enc,lL 16 rv.x.ai aw.enc,lL 2 rv.x.dx aW.enc,lL 2 rv.x.before aW.enc,lI rv.kind,lI rv.b9,lI rv.pV,lI rv.dw.bt,lI rv.dw.b9,lI rv.dw.p_,lI rv.dw.eG.bt,lI rv.dw.eG.aE,lL 1 rv.dw.eG.aH dN,lL 2 rv.dw.eG.ak ab.enc,.bool rv.dU]]:=by
 refine aX func99 λG=>?_
 simp only[po,az,aq,ar,au]at h;rcases h with⟨h0,r,h1,⟨h2,r1,h3,h⟩|⟨h2,h⟩⟩|⟨h0,r2,h4,x2,so,h⟩
 ·cases h;exact gr 17 [0] [nL ab.enc ak,bT h0,hW 11,hH (.nJ 1 2 1),hH (.draw 11 []),cC (Jm h1),bT h2,hH (.draw 12 []),hH (.draw 13 []),cC (xy h3)]
 ·obtain rfl:=oK h;exact gr 13 [0] [nL ab.enc ak,bT h0,hW 11,hH (.nJ 1 2 1),hH (.draw 11 []),cC (Jm h1),bF h2]
 ·refine gn 9 [0,1,2,3,77,78,79] [0] [nL ab.enc ak,bF h0,hH (.draw 12 []),cC (PQ h4),nL ab.enc r2] (Ft G rv Lk so ?_);obtain rfl:=oK h;exact gr 0 [0] []
theorem Ag:∀Y5,∀{s0:aT} {ak:List ab} {aY:Int} {l:List aB} {rv:aT},jB Y5 s0 ak aY l=some rv->dK prog 99 [.one (.op 0 17 0 0),.one (lL 2 ak ab.enc),.one (lI aY),.one (lL 2 l aB.enc)] [bX 17 174 (aT.enc s0)] (.j0 []) [oX 17 174 [lL 1 rv.x.bV.bm bN,lL 6 rv.x.bV.eX a7.enc,lL 14 rv.x.types av.enc,lL 16 rv.x.ai aw.enc,lL 2 rv.x.dx aW.enc,lL 2 rv.x.before aW.enc,lI rv.kind,lI rv.b9,lI rv.pV,lI rv.dw.bt,lI rv.dw.b9,lI rv.dw.p_,lI rv.dw.eG.bt,lI rv.dw.eG.aE,lL 1 rv.dw.eG.aH dN,lL 2 rv.dw.eG.ak ab.enc,.bool rv.dU]]
 |0=>λh=>nomatch h
 |Y5+1=>λh=>GW (Ag Y5) h
theorem A4:∀{s0:aT} {ak:List ab} {aY:Int} {l:List aB} {rv:aT},Ek s0 ak aY l=some rv->dK prog 99 [.one (.op 0 17 0 0),.one (lL 2 ak ab.enc),.one (lI aY),.one (lL 2 l aB.enc)] [bX 17 174 (aT.enc s0)] (.j0 []) [oX 17 174 [lL 1 rv.x.bV.bm bN,lL 6 rv.x.bV.eX a7.enc,lL 14 rv.x.types av.enc,lL 16 rv.x.ai aw.enc,lL 2 rv.x.dx aW.enc,lL 2 rv.x.before aW.enc,lI rv.kind,lI rv.b9,lI rv.pV,lI rv.dw.bt,lI rv.dw.b9,lI rv.dw.p_,lI rv.dw.eG.bt,lI rv.dw.eG.aE,lL 1 rv.dw.eG.aH dN,lL 2 rv.dw.eG.ak ab.enc,.bool rv.dU]]:=Ag _
theorem vi{s0 cW gL}{rv:List aB×aT}(h:oz s0 cW gL=some rv):dK prog 100 [.one (.op 0 17 0 0),.one (.fk),.one (lI cW),.one (lI gL)] [bX 17 174 (aT.enc s0)] (one (lL 2 rv.1 aB.enc)) [oX 17 174 [lL 1 rv.2.x.bV.bm bN,lL 6 rv.2.x.bV.eX a7.enc,lL 14 rv.2.x.types av.enc,lL 16 rv.2.x.ai aw.enc,lL 2 rv.2.x.dx aW.enc,lL 2 rv.2.x.before aW.enc,lI rv.2.kind,lI rv.2.b9,lI rv.2.pV,lI rv.2.dw.bt,lI rv.2.dw.b9,lI rv.2.dw.p_,lI rv.2.dw.eG.bt,lI rv.2.dw.eG.aE,lL 1 rv.2.dw.eG.aH dN,lL 2 rv.2.dw.eG.ak ab.enc,.bool rv.2.dU]]:=by
 refine aX func100 λG=>?_
 simp only[oz,az,aq,ar,au]at h;obtain⟨r,h0,x0,h1,r1,h2,h⟩:=h;cases h;exact gr 6 [0] [hW 9,hH (.nP 9 2 257),cI [1] (uP h0),hH (.draw 17 [(2,16)]),cE av.enc h1,cI [2] (uP h2),hW 1,hH (.ng 3),rp 2 (eL r1 aB.enc)]
def Qf(rv:aM×Int)(cf:Cf):Prop:=Go prog f41 [] G (.j0 [.agg [lI rv.1.bt,lI rv.1.b9,lI rv.1.p_,lI rv.1.eG.bt,lI rv.1.eG.aE,lL 1 rv.1.eG.aH dN,lL 2 rv.1.eG.ak ab.enc],.one (lI rv.2)]) [] cf
def Sj(rv:aM×Int)(x0:ae)(kind b9:Int)(r1:List Int)(pV v:Int):Prop:=Qf G rv ⟨[.c 500,.l 500,.b 0,.c 63],⟨87,[vI 1 kind,vP 3 0 6,vP 6 1 7,vP 8 2 17,vL 45 1 r1 al,vI 46 (ay r1),vI 47 v],[oX 6 30 (ae.enc x0),oX 7 50 [lI 0,lI 0,lI 0,lI 0,lI 0,.fk,.fk],oX 17 174 [lL 1 x0.bV.bm bN,lL 6 x0.bV.eX a7.enc,lL 14 x0.types av.enc,lL 16 x0.ai aw.enc,lL 2 x0.dx aW.enc,lL 2 x0.before aW.enc,lI kind,lI b9,lI pV,lI 0,lI 0,lI 0,lI 0,lI 0,.fk,.fk,.bool false]]⟩⟩
def QJ(rv:aM×Int)(x0:ae)(kind b9:Int)(r1:List Int)(X2:Int):Prop:=Qf G rv ⟨[.c 63],⟨87,[vI 1 kind,vP 3 0 6,vP 6 1 7,vP 8 2 17],[oX 6 30 (ae.enc x0),oX 7 50 [lI 0,lI 0,lI 0,lI 0,lI 0,.fk,.fk],oX 17 174 [lL 1 x0.bV.bm bN,lL 6 x0.bV.eX a7.enc,lL 14 x0.types av.enc,lL 16 x0.ai aw.enc,lL 2 x0.dx aW.enc,lL 2 x0.before aW.enc,lI kind,lI b9,lI X2,lI 0,lI 0,lI 0,lI 0,lI 0,.fk,.fk,.bool false]]⟩⟩
theorem QK(rv:aM×Int){x0 kind b9 r1}:∀⦃s:Int×Int⦄ ⦃e:Int⦄,aL (λs=>ow x0 kind b9 r1 s.1 s.2) s=some e->QJ G rv x0 kind b9 r1 e->Sj G rv x0 kind b9 r1 s.1 s.2:=by
 refine bz ?_
 rintro⟨pV,v⟩ z_ h hI hE;simp only[ow,az,aq,ar,au]at h;rcases h with⟨h6,x1,h7,r2,h8,h⟩|⟨h6,h⟩
 ·exact gn 13 [1,3,6,8,45,46,47] [0,1,2] [bT h6,cE al h7,hH (.draw 12 []),cC (nK h8),nL ab.enc r2] (hI h)
 ·exact gn 5 [1,3,6,8] [0,1,2] [bF h6] (hE h)
theorem MU{x0 kind b9}{rv:aM×Int}(h:Eh x0 kind b9=some rv):dK prog 41 [.agg (ae.enc x0),.one (lI kind),.one (lI b9)] [] (.j0 [.agg [lI rv.1.bt,lI rv.1.b9,lI rv.1.p_,lI rv.1.eG.bt,lI rv.1.eG.aE,lL 1 rv.1.eG.aH dN,lL 2 rv.1.eG.ak ab.enc],.one (lI rv.2)]) []:=by
 refine aX func41 λG=>?_
 simp only[Eh,az,aq,ar,au]at h;rcases h with⟨h0,h⟩|⟨h0,h1,⟨h2,h⟩|⟨h2,r,h3,⟨h4,h⟩|⟨h4,r1,h5,X2,h9,h⟩⟩⟩
 ·cases h;exact gr 8 [] [rp 4 hP,rp 2 (oI ((bh kind 0)=false)),nL av.enc x0.types,rp 5 hP,rp 2 (oI ((bh kind 0)=false)),oR True ((bh kind 0)=false),oI (((bh kind 0)||(cT kind (ay x0.types)))=false),oR True (((bh kind 0)||(cT kind (ay x0.types)))=false),rp 7 (bT h0),tT,hW 5,hH (.nJ 1 5 1),hH (.nJ 1 6 2)]
 ·cases h;exact gr 8 [] [rp 4 hP,rp 2 (oI ((bh kind 0)=false)),nL av.enc x0.types,rp 5 hP,rp 2 (oI ((bh kind 0)=false)),oR True ((bh kind 0)=false),oI (((bh kind 0)||(cT kind (ay x0.types)))=false),oR True (((bh kind 0)||(cT kind (ay x0.types)))=false),rp 4 (bF h0),nL aw.enc x0.ai,bF h0,oO (h1),bF h0,bF h0,bT h2,hW 5,hH (.nJ 1 5 1),hH (.nJ 1 6 2)]
 ·cases h;exact gr 13 [] [rp 4 hP,rp 2 (oI ((bh kind 0)=false)),nL av.enc x0.types,rp 5 hP,rp 2 (oI ((bh kind 0)=false)),oR True ((bh kind 0)=false),oI (((bh kind 0)||(cT kind (ay x0.types)))=false),oR True (((bh kind 0)||(cT kind (ay x0.types)))=false),rp 4 (bF h0),nL aw.enc x0.ai,bF h0,oO (h1),bF h0,bF h0,bF h2,cC (E5 h3),bT h4,hW 5,hH (.nJ 1 5 1),hH (.nJ 1 6 2)]
 ·refine gn 19 [1,3,6,8,45,46,47] [0,1,2] [rp 4 hP,rp 2 (oI ((bh kind 0)=false)),nL av.enc x0.types,rp 5 hP,rp 2 (oI ((bh kind 0)=false)),oR True ((bh kind 0)=false),oI (((bh kind 0)||(cT kind (ay x0.types)))=false),oR True (((bh kind 0)||(cT kind (ay x0.types)))=false),rp 4 (bF h0),nL aw.enc x0.ai,bF h0,oO (h1),bF h0,bF h0,bF h2,cC (E5 h3),bF h4,cC (AY h5),nL al r1] (QK G rv h9 ?_);rcases h with⟨x2,dO,r3,g_,r4,iO,⟨jD,h⟩|⟨jD,h⟩⟩
  ·cases h;exact gr 11 [] [cE av.enc dO,hW 4,hH (.nJ 2 14 1),hH (.nJ 2 15 2),hH (.draw 7 [(2,6)]),cI [2] (vi g_),cI [2] (dK.Qqp 1 2 (A4 iO)),nF jD]
  ·cases h;exact gr 10 [] [cE av.enc dO,hW 4,hH (.nJ 2 14 1),hH (.nJ 2 15 2),hH (.draw 7 [(2,6)]),cI [2] (vi g_),cI [2] (dK.Qqp 1 2 (A4 iO)),nT jD,hW 5,hH (.nJ 1 5 1),hH (.nJ 1 6 2)]
def Fp(rv:List aM×Int)(cf:Cf):Prop:=Go prog f10 [] G (.j0 [.one (lL 7 rv.1 aM.enc),.one (lI rv.2)]) [] cf
def T2(rv:List aM×Int)(x0:ae)(l:List aM)(v:Int)(l1:List aM)(b9:Int):Prop:=Fp G rv ⟨[.c 29900,.l 29900,.b 2,.b 1,.c 935,.l 116,.b 0,.c 15],⟨38,[vP 1 0 6,vO 4 1 7 l1 aM.enc,vI 5 v,vI 6 b9,vI 11 (ay x0.types),vI 12 v],[oX 6 30 (ae.enc x0),oS 7 50 l1 aM.enc]⟩⟩
def Sh(rv:List aM×Int)(x0:ae)(l:List aM)(v:Int)(l2:List aM):Prop:=Fp G rv ⟨[.b 1,.c 935,.l 116,.b 0,.c 15],⟨38,[vP 1 0 6,vO 4 1 7 l2 aM.enc,vI 11 (ay x0.types),vI 12 v],[oX 6 30 (ae.enc x0),oS 7 50 l2 aM.enc]⟩⟩
def T1(rv:List aM×Int)(x0:ae)(l:List aM)(v:Int):Prop:=Fp G rv ⟨[.c 116,.l 116,.b 0,.c 15],⟨38,[vP 1 0 6,vO 4 1 7 l aM.enc,vI 11 (ay x0.types),vI 12 v],[oX 6 30 (ae.enc x0),oS 7 50 l aM.enc]⟩⟩
def Sf(rv:List aM×Int)(x0:ae)(l3:List aM):Prop:=Fp G rv ⟨[.c 15],⟨38,[vO 4 0 7 l3 aM.enc],[oS 7 50 l3 aM.enc]⟩⟩
theorem Si(rv:List aM×Int){x0 l v}:∀⦃s:List aM×Int⦄ ⦃e:List aM⦄,aL (λs=>sy x0 l v s.1 s.2) s=some e->Sh G rv x0 l v e->T2 G rv x0 l v s.1 s.2:=by
 refine bz ?_
 rintro⟨l1,b9⟩ z_ h hI hE;simp only[sy,az,aq,ar,au]at h;rcases h with⟨h1,⟨h2,r,h3,⟨h4,h5,h⟩|⟨h4,h⟩⟩|⟨h2,h⟩⟩
 ·exact gn 16 [1,4,5,6,11,12] [0,4] [nL aw.enc x0.ai,oO (h1),bT h2,cC (MU h3),bT h4,oO (Eq.refl ([r.1].map aM.enc).length),aO aM.enc h5] (hI h)
 ·exact gn 16 [1,4,5,6,11,12] [0,1] [nL aw.enc x0.ai,oO (h1),bT h2,cC (MU h3),bF h4] (hI h)
 ·exact gn 5 [1,4,11,12] [0,1] [nL aw.enc x0.ai,oO (h1),bF h2] (hE h)
theorem Sg(rv:List aM×Int){x0}:∀⦃s:List aM×Int⦄ ⦃e:List aM⦄,aL (λs=>qn x0 s.1 s.2) s=some e->Sf G rv x0 e->T1 G rv x0 s.1 s.2:=by
 refine bz ?_
 rintro⟨l,v⟩ z_ h hI hE;simp only[qn,az,aq,ar,au]at h;rcases h with⟨h0,l2,h6,h⟩|⟨h0,h⟩
 ·refine gn 13 [1,4,5,6,11,12] [0,1] [bT h0] (Si G rv h6 ?_);exact gn 3 [1,4,11,12] [0,1] [] (hI h)
 ·exact gn 5 [4] [1] [bF h0] (hE h)
theorem Qe{x0}{rv:List aM×Int}(h:Ie x0=some rv):dK prog 10 [.agg (ae.enc x0)] [] (.j0 [.one (lL 7 rv.1 aM.enc),.one (lI rv.2)]) []:=by
 refine aX func10 λG=>?_
 simp only[Ie,az,aq,ar,au]at h;obtain⟨l3,h7,h⟩:=h;refine gn 9 [1,4,11,12] [0,1] [nL av.enc x0.types,hW 3,hH (.nP 4 7 50)] (Sg G rv h7 ?_);cases h;exact gr 2 [] [hW 5,hH (.ng 0),rp 3 (eL l3 aM.enc)]
def jk(rv:Bool)(cf:Cf):Prop:=Go prog f3 [] G (one (.bool rv)) [] cf
def DW(rv:Bool)(x0:ae)(kind size:Int)(cR:List I)(i:Int):Prop:=jk G rv ⟨[.c 116,.l 116,.b 0,.c 15],⟨151,[vI 1 kind,vI 2 size,vL 3 1 cR bN,vP 4 0 6,vI 9 i],[oX 6 30 (ae.enc x0)]⟩⟩
def CV(rv:Bool)(x0:ae)(kind size:Int)(cR:List I):Prop:=jk G rv ⟨[.c 15],⟨151,[vI 1 kind,vI 2 size,vL 3 1 cR bN,vP 4 0 6],[oX 6 30 (ae.enc x0)]⟩⟩
def DY(rv:Bool)(kind:Int)(cR:List I)(r7:I×Bool×Int)(r8:List aM×Int)(i1:Int)(sum:I)(k:Int):Prop:=jk G rv ⟨[.c 4188468,.l 4188468,.b 4,.c 523559,.b 3,.c 32723,.l 8180,.b 2,.c 1023],⟨151,[vI 1 kind,vL 3 1 cR bN,vS 12 r7.1,vB 13 r7.2.1,vL 15 7 r8.1 aM.enc,vI 17 i1,vS 18 sum,vI 19 k],[]⟩⟩
def CZ(rv:Bool)(kind:Int)(cR:List I)(r7:I×Bool×Int)(r8:List aM×Int)(i1:Int)(XY:I):Prop:=jk G rv ⟨[.c 523559,.b 3,.c 32723,.l 8180,.b 2,.c 1023],⟨151,[vI 1 kind,vL 3 1 cR bN,vS 12 r7.1,vB 13 r7.2.1,vL 15 7 r8.1 aM.enc,vI 17 i1,vS 18 XY],[]⟩⟩
def DX(rv:Bool)(kind:Int)(cR:List I)(r7:I×Bool×Int)(r8:List aM×Int)(i1:Int):Prop:=jk G rv ⟨[.c 8180,.l 8180,.b 2,.c 1023],⟨151,[vI 1 kind,vL 3 1 cR bN,vS 12 r7.1,vB 13 r7.2.1,vL 15 7 r8.1 aM.enc,vI 17 i1],[]⟩⟩
def CX(rv:Bool)(kind:Int)(cR:List I)(r7:I×Bool×Int)(r8:List aM×Int):Prop:=jk G rv ⟨[.c 1023],⟨151,[],[]⟩⟩
theorem CW(rv:Bool){x0 kind size cR}:∀⦃s:Int⦄ ⦃e:(Unit)⊕(Bool)⦄,aL (λs=>eY x0 kind size cR s) s=some e->jg e (λe=>CV G rv x0 kind size cR) (λe=>e=rv)->DW G rv x0 kind size cR s:=by
 refine bz ?_
 intro i z_ h hI hE;simp only[eY,az,aq,ar,au]at h;rcases h with⟨h3,x1,h4,r2,h5,⟨h6,⟨h7,r3,h8,h⟩|⟨h7,h⟩⟩|⟨h6,r4,h9,h⟩⟩|⟨h3,h⟩
 ·obtain rfl:=(hE h:_=rv);exact gr 12 [] [nL bN cR,bT h3,cE bN h4,cC (vD h5),rp 3 (nF h6),cE bN h4,rp 4 (nF h6),bT h7,cC (nu h8)]
 ·exact gn 14 [1,2,3,4,9] [0] [nL bN cR,bT h3,cE bN h4,cC (vD h5),rp 3 (nF h6),cE bN h4,rp 4 (nF h6),bF h7] (hI h)
 ·obtain rfl:=(hE h:_=rv);exact gr 12 [] [nL bN cR,bT h3,cE bN h4,cC (vD h5),rp 7 (nT h6),tT,cC (nu h9)]
 ·exact gn 5 [1,2,3,4] [0] [nL bN cR,bF h3] (hE h)
theorem C0(rv:Bool){kind cR r7 r8 i1}:∀⦃s:I×Int⦄ ⦃e:(I)⊕(Bool)⦄,aL (λs=>fy kind cR r7 r8 i1 s.1 s.2) s=some e->jg e (λe=>CZ G rv kind cR r7 r8 i1 e) (λe=>e=rv)->DY G rv kind cR r7 r8 i1 s.1 s.2:=by
 refine bz ?_
 rintro⟨sum,k⟩ z_ h hI hE;simp only[fy,az,aq,ar,au]at h;rcases h with⟨LI,x3,RH,Ni,⟨LJ,x4,Lh,HI,Y_,⟨Yc,h⟩|⟨Yc,h⟩⟩|⟨LJ,h⟩⟩|⟨LI,h⟩
 ·obtain rfl:=(hE h:_=rv);exact gr 18 [] [nL bN cR,bT LI,cE aM.enc RH,oO (Ni),bT LJ,cE bN Lh,cC (Gs Y_),bT Yc]
 ·exact gn 21 [1,3,12,13,15,17,18,19] [] [nL bN cR,bT LI,cE aM.enc RH,oO (Ni),bT LJ,cE bN Lh,cC (Gs Y_),bF Yc] (hI h)
 ·exact gn 14 [1,3,12,13,15,17,18,19] [] [nL bN cR,bT LI,cE aM.enc RH,oO (Ni),bF LJ] (hI h)
 ·exact gn 5 [1,3,12,13,15,17,18] [] [nL bN cR,bF LI] (hE h)
theorem CY(rv:Bool){kind cR r7 r8}:∀⦃s:Int⦄ ⦃e:(Unit)⊕(Bool)⦄,aL (λs=>eZ kind cR r7 r8 s) s=some e->jg e (λe=>CX G rv kind cR r7 r8) (λe=>e=rv)->DX G rv kind cR r7 r8 s:=by
 refine bz ?_
 intro i1 z_ h hI hE;simp only[eZ,az,aq,ar,au]at h;rcases h with⟨Lg,x2,Fi,⟨G4,h⟩|⟨G4,wK,MH,e1,AQ,h⟩⟩|⟨Lg,h⟩
 ·exact gn 14 [1,3,12,13,15,17] [] [nL aM.enc r8.1,bT Lg,cE aM.enc Fi,bT G4] (hI h)
 ·refine gn 19 [1,3,12,13,15,17,18,19] [] [nL aM.enc r8.1,bT Lg,cE aM.enc Fi,bF G4,cE aM.enc Fi,cC (QB MH)] (C0 G rv AQ ?_);rcases e1 with XY|r13
  ·simp only[c5,az,aq,ar,au]at h;rcases h with⟨RJ,r12,QO,⟨jR,h⟩|⟨jR,h⟩⟩|⟨RJ,h⟩
   ·obtain rfl:=(hE h:_=rv);exact gr 5 [] [rp 3 (nF RJ),cC (pd QO),rp 2 (nF RJ),bT jR]
   ·exact gn 7 [1,3,12,13,15,17] [] [rp 3 (nF RJ),cC (pd QO),rp 2 (nF RJ),bF jR] (hI h)
   ·obtain rfl:=(hE h:_=rv);exact gr 5 [] [rp 5 (nT RJ),tT]
  ·exact(hE h:_=rv)
 ·exact gn 5 [] [] [nL aM.enc r8.1,bF Lg] (hE h)
theorem Gc{x0 kind size cR}{rv:Bool}(h:ru x0 kind size cR=some rv):dK prog 3 [.agg (ae.enc x0),.one (lI kind),.one (lI size),.one (lL 1 cR bN)] [] (one (.bool rv)) []:=by
 refine aX func3 λG=>?_
 simp only[ru,az,aq,ar,au]at h;rcases h with⟨r,h0,⟨h1,r1,h2,h⟩|⟨h1,e0,dO,h⟩⟩
 ·obtain rfl:=oK h;exact gr 8 [] [cC (B_ h0),rp 7 hP,oI ((!r)=false),oR True ((!r)=false),rp 2 (oI (((!r)||(bh kind 0))=false)),nL av.enc x0.types,rp 4 hP,rp 2 (oI (((!r)||(bh kind 0))=false)),oR True (((!r)||(bh kind 0))=false),oI ((((!r)||(bh kind 0))||(cT kind (ay x0.types)))=false),nL bN cR,hP,hP,hP,rp 2 (oI ((((!r)||(bh kind 0))||(cT kind (ay x0.types)))=false)),nL aw.enc x0.ai,hP,hP,rp 2 (oI ((((!r)||(bh kind 0))||(cT kind (ay x0.types)))=false)),oR True ((((!r)||(bh kind 0))||(cT kind (ay x0.types)))=false),bT h1,cC (nu h2)]
 ·refine gn 12 [1,2,3,4,9] [0] [cC (B_ h0),rp 7 hP,oI ((!r)=false),oR True ((!r)=false),rp 2 (oI (((!r)||(bh kind 0))=false)),nL av.enc x0.types,rp 4 hP,rp 2 (oI (((!r)||(bh kind 0))=false)),oR True (((!r)||(bh kind 0))=false),oI ((((!r)||(bh kind 0))||(cT kind (ay x0.types)))=false),nL bN cR,hP,hP,hP,rp 2 (oI ((((!r)||(bh kind 0))||(cT kind (ay x0.types)))=false)),nL aw.enc x0.ai,hP,hP,rp 2 (oI ((((!r)||(bh kind 0))||(cT kind (ay x0.types)))=false)),oR True ((((!r)||(bh kind 0))||(cT kind (ay x0.types)))=false),bF h1] (CW G rv dO ?_);rcases e0 with e0|r16
  ·simp only[c5,az,aq,ar,au]at h;rcases h with⟨r5,g_,⟨iO,r6,jD,h⟩|⟨iO,r7,so,r8,y3,⟨vj,r9,B4,h⟩|⟨vj,e2,ku,h⟩⟩⟩
   ·obtain rfl:=oK h;exact gr 8 [] [cC (D5 g_),bT iO,cC (nu jD)]
   ·obtain rfl:=oK h;exact gr 17 [] [cC (D5 g_),bF iO,cC (Jj so),cC (Qe y3),hP,hP,hP,oI ((cp r7.2.2 0)=false),oR True ((cp r7.2.2 0)=false),bT vj,cC (nu B4)]
   ·refine gn 21 [1,3,12,13,15,17] [] [cC (D5 g_),bF iO,cC (Jj so),cC (Qe y3),hP,hP,hP,oI ((cp r7.2.2 0)=false),oR True ((cp r7.2.2 0)=false),bF vj] (CY G rv ku ?_);rcases e2 with e2|ML
    ·simp only[c5,az,aq,ar,au]at h;obtain⟨r14,AS,h⟩:=h;obtain rfl:=oK h;exact gr 2 [] [cC (nu AS)]
    ·exact oK h
  ·exact oK h
end
end Go.Proofs.YtkcilfpbgjjjbaaGreatDoor
