/- Part MW. -/
import Derived.Test.YtkcilfpbgjjjbaaGreatDoorMV
import Derived.Test.YtkcilfpbgjjjbaaGreatDoorProg
set_option linter.unusedSimpArgs false
set_option linter.unusedVariables false
set_option linter.unusedSectionVars false
namespace Go.Proofs.YtkcilfpbgjjjbaaGreatDoor
open _root_.Go.Proofs.Tryz
section
set_option maxHeartbeats 4000000
set_option maxRecDepth 100000
def jm(Γ:bu)(rv:List af×List Int×aw)(cf:Cf):Prop:=Go prog f119 [0,1] Γ (.jx [.one (lO 2 7 rv.1 af.enc),.one (lL 1 rv.2.1 ai)]) [oX 10 268 [lL 1 rv.2.2.x.bG.aV bO,lL 6 rv.2.2.x.bG.cH aH.enc,lL 14 rv.2.2.x.types al.enc,lL 16 rv.2.2.x.ah ag.enc,lL 2 rv.2.2.x.bV aA.enc,lL 2 rv.2.2.x.before aA.enc,lL 1 rv.2.2.dj bk.enc,lL 1 rv.2.2.ee ai,.mp 1,lI rv.2.2.ah],oM 265 rv.2.2.eW (mE aj.enc lI),oS 7 50 rv.1 af.enc] cf
def xY(Γ:bu)(rv:List af×List Int×aw)(c:aw)(l:List (aj×Int))(l1:List af)(l2:List Int)(dj:List (List af))(ee:List Int)(ah:Int)(r:Int×aw)(x2:List af)(l3:List (aj×Int))(x3:ab)(u0:List (List af))(yH:List Int)(wq:Int)(x4:aj)(v:Int):Prop:=jm Γ rv ⟨[.c 30900,.l 30900,.b 2,.c 3863,.b 1,.l 120,.b 0,.c 31],⟨80,[vP 0 0 10,vP 3 2 8,vO 6 3 7 l1 af.enc,vO 7 4 1 l2 ai,vI 8 r.1,vB 9 false,vL 34 7 x2 af.enc,vI 35 (az x2),vI 36 v],[oX 10 268 [lL 1 x3.bG.aV bO,lL 6 x3.bG.cH aH.enc,lL 14 x3.types al.enc,lL 16 x3.ah ag.enc,lL 2 x3.bV aA.enc,lL 2 x3.before aA.enc,lL 1 u0 bk.enc,lL 1 yH ai,.mp 1,lI wq],oM 265 l3 (mE aj.enc lI),oX 8 202 (aj.enc x4),oS 7 50 l1 af.enc,oS 1 3 l2 ai]⟩⟩
def xk(Γ:bu)(rv:List af×List Int×aw)(c:aw)(l:List (aj×Int))(l1:List af)(l2:List Int)(dj:List (List af))(ee:List Int)(ah:Int)(r:Int×aw)(x2:List af)(l4:List (aj×Int))(l5:List af)(x6:ab)(xG:List (List af))(BR:List Int)(xK:Int)(x7:aj)(mJ:Bool):Prop:=jm Γ rv ⟨[.c 3863,.b 1,.l 120,.b 0,.c 31],⟨80,[vP 0 0 10,vP 3 2 8,vO 6 3 7 l5 af.enc,vO 7 4 1 l2 ai,vB 9 mJ],[oX 10 268 [lL 1 x6.bG.aV bO,lL 6 x6.bG.cH aH.enc,lL 14 x6.types al.enc,lL 16 x6.ah ag.enc,lL 2 x6.bV aA.enc,lL 2 x6.before aA.enc,lL 1 xG bk.enc,lL 1 BR ai,.mp 1,lI xK],oM 265 l4 (mE aj.enc lI),oX 8 202 (aj.enc x7),oS 7 50 l5 af.enc,oS 1 3 l2 ai]⟩⟩
def xX(Γ:bu)(rv:List af×List Int×aw)(c:aw)(l:List (aj×Int))(l1:List af)(l2:List Int)(x0:ab)(dj:List (List af))(ee:List Int)(ah:Int)(x1:aj):Prop:=jm Γ rv ⟨[.c 120,.l 120,.b 0,.c 31],⟨80,[vP 0 0 10,vP 3 2 8,vO 6 3 7 l1 af.enc,vO 7 4 1 l2 ai],[oX 10 268 [lL 1 x0.bG.aV bO,lL 6 x0.bG.cH aH.enc,lL 14 x0.types al.enc,lL 16 x0.ah ag.enc,lL 2 x0.bV aA.enc,lL 2 x0.before aA.enc,lL 1 dj bk.enc,lL 1 ee ai,.mp 1,lI ah],oM 265 l (mE aj.enc lI),oX 8 202 (aj.enc x1),oS 7 50 l1 af.enc,oS 1 3 l2 ai]⟩⟩
def xi(Γ:bu)(rv:List af×List Int×aw)(c:aw)(l6:List (aj×Int))(l7:List af)(l8:List Int)(x8:ab)(Ol:List (List af))(Uh:List Int)(OF:Int):Prop:=jm Γ rv ⟨[.c 31],⟨80,[vO 6 2 7 l7 af.enc,vO 7 3 1 l8 ai],[oX 10 268 [lL 1 x8.bG.aV bO,lL 6 x8.bG.cH aH.enc,lL 14 x8.types al.enc,lL 16 x8.ah ag.enc,lL 2 x8.bV aA.enc,lL 2 x8.before aA.enc,lL 1 Ol bk.enc,lL 1 Uh ai,.mp 1,lI OF],oM 265 l6 (mE aj.enc lI),oS 7 50 l7 af.enc,oS 1 3 l8 ai]⟩⟩
theorem xl(Γ:bu)(rv:List af×List Int×aw){c l l1 l2 dj ee ah r x2}:∀⦃s:List (aj×Int)×ab×List (List af)×List Int×Int×aj×Int⦄ ⦃e:List (aj×Int)×List af×ab×List (List af)×List Int×Int×aj×Bool⦄,aL (fun s=>eh c l l1 l2 dj ee ah r x2 s.1 s.2.1 s.2.2.1 s.2.2.2.1 s.2.2.2.2.1 s.2.2.2.2.2.1 s.2.2.2.2.2.2) s=some e→xk Γ rv c l l1 l2 dj ee ah r x2 e.1 e.2.1 e.2.2.1 e.2.2.2.1 e.2.2.2.2.1 e.2.2.2.2.2.1 e.2.2.2.2.2.2.1 e.2.2.2.2.2.2.2→xY Γ rv c l l1 l2 dj ee ah r x2 s.1 s.2.1 s.2.2.1 s.2.2.2.1 s.2.2.2.2.1 s.2.2.2.2.2.1 s.2.2.2.2.2.2:=by
 refine bl ?_
 rintro⟨l3,x3,u0,yH,wq,x4,v⟩ z_ h hI hE;simp only[eh,aB,ar,au,av]at h;rcases h with⟨h3,x5,h4,r1,h5,⟨h6,r2,h7,⟨h8,h9,h⟩|⟨h8,h⟩⟩|⟨h6,h⟩⟩|⟨h3,h⟩
 ·exact gn 28 [0,3,6,7,9] [0,1,2,8,4] [bT h3,cE af.enc h4,cI [0,1] (ke h5),nF h6,cI [0,1] (jl h7),rp 7 hP,rp 5 (oI ((cD r2.1 0)=true)),oR True ((cD r2.1 0)=true),bT h8,oO (Eq.refl ([x5].map af.enc).length),aO af.enc h9] (hE h)
 ·exact gn 25 [0,3,6,7,8,9,34,35,36] [0,1,2,3,4] [bT h3,cE af.enc h4,cI [0,1] (ke h5),nF h6,cI [0,1] (jl h7),rp 7 hP,rp 5 (oI ((cD r2.1 0)=true)),oR True ((cD r2.1 0)=true),bF h8] (hI h)
 ·exact gn 18 [0,3,6,7,8,9,34,35,36] [0,1,2,3,4] [bT h3,cE af.enc h4,cI [0,1] (ke h5),nT h6] (hI h)
 ·exact gn 5 [0,3,6,7,9] [0,1,2,3,4] [bF h3] (hE h)
theorem xj(Γ:bu)(rv:List af×List Int×aw){c}:∀⦃s:List (aj×Int)×List af×List Int×ab×List (List af)×List Int×Int×aj⦄ ⦃e:List (aj×Int)×List af×List Int×ab×List (List af)×List Int×Int⦄,aL (fun s=>fX c s.1 s.2.1 s.2.2.1 s.2.2.2.1 s.2.2.2.2.1 s.2.2.2.2.2.1 s.2.2.2.2.2.2.1 s.2.2.2.2.2.2.2) s=some e→xi Γ rv c e.1 e.2.1 e.2.2.1 e.2.2.2.1 e.2.2.2.2.1 e.2.2.2.2.2.1 e.2.2.2.2.2.2→xX Γ rv c s.1 s.2.1 s.2.2.1 s.2.2.2.1 s.2.2.2.2.1 s.2.2.2.2.2.1 s.2.2.2.2.2.2.1 s.2.2.2.2.2.2.2:=by
 refine bl ?_
 rintro⟨l,l1,l2,x0,dj,ee,ah,x1⟩ z_ h hI hE;simp only[fX,aB,ar,au,av]at h;rcases h with⟨h0,r,h1,x2,h2,⟨l4,l5,x6,xG,BR,xK,x7,mJ⟩,dm,h⟩|⟨h0,h⟩
 ·refine gn 15 [0,3,6,7,8,9,34,35,36] [0,1,2,3,4] [hH (.draw 9 []),nL ag.enc x0.ah,bT h0,cI [0,1] (jl h1),hH (.draw 10 []),cE bk.enc h2,nL af.enc x2] (xl Γ rv dm ?_);rcases h with⟨fH,h⟩|⟨fH,gi,r3,iG,h⟩
  ·exact gn 6 [0,3,6,7] [0,1,2,3,4] [nF fH] (hI h)
  ·exact gn 8 [0,3,6,7] [0,1,2,3,6] [nT fH,oO (Eq.refl ([x7.eK].map ai).length),aO ai gi,cI [0,1] (tC iG)] (hI h)
 ·exact gn 5 [6,7] [0,1,3,4] [hH (.draw 9 []),nL ag.enc x0.ah,bF h0] (hE h)
theorem y6{c s0}{rv:List af×List Int×aw}(h:ik c s0=some rv):dv prog 119 [.one (.op 0 10 0 0),.agg (aj.enc s0)] [bX 10 268 [lL 1 c.x.bG.aV bO,lL 6 c.x.bG.cH aH.enc,lL 14 c.x.types al.enc,lL 16 c.x.ah ag.enc,lL 2 c.x.bV aA.enc,lL 2 c.x.before aA.enc,lL 1 c.dj bk.enc,lL 1 c.ee ai,.mp 1,lI c.ah],bM 265 c.eW (mE aj.enc lI)] (.jx [.one (lO 2 7 rv.1 af.enc),.one (lL 1 rv.2.1 ai)]) [oX 10 268 [lL 1 rv.2.2.x.bG.aV bO,lL 6 rv.2.2.x.bG.cH aH.enc,lL 14 rv.2.2.x.types al.enc,lL 16 rv.2.2.x.ah ag.enc,lL 2 rv.2.2.x.bV aA.enc,lL 2 rv.2.2.x.before aA.enc,lL 1 rv.2.2.dj bk.enc,lL 1 rv.2.2.ee ai,.mp 1,lI rv.2.2.ah],oM 265 rv.2.2.eW (mE aj.enc lI),oS 7 50 rv.1 af.enc]:=by
 refine aW func119 fun Γ=>?_
 simp only[ik,aB,ar,au,av]at h;obtain⟨⟨l6,l7,l8,x8,Ol,Uh,OF⟩,nW,h⟩:=h;refine gn 9 [0,3,6,7] [0,1,2,3,4] [hW 14,hH (.kH 6 7 50),hH (.kH 7 1 3)] (xj Γ rv nW ?_);cases h;exact gr 2 [0,1,2] [hW 6,hH (.jn 3),rp 3 (eL l8 ai)]
def Fp(Γ:bu)(rv:cT×Int×Int)(cf:Cf):Prop:=Go prog f51 [] Γ (.jx [.agg [lL 4 rv.1.mB ay.enc,lL 1 rv.1.de ai],.one (lI rv.2.1),.one (lI rv.2.2)]) [] cf
def JV(Γ:bu)(rv:cT×Int×Int)(l:List af)(c:aw)(r2:Int×aw)(r3:List af×List Int×aw)(l1:List af)(l2:List ay)(v:Int):Prop:=Fp Γ rv ⟨[.c 16372,.l 16372,.b 0,.c 2047],⟨61,[vP 4 0 2,vI 10 r2.1,vP 13 1 2,vO 45 2 7 l1 af.enc,vI 46 (az l1),vI 47 v],[oX 2 60 [.cB,.cB],oX 2 60 [lO 3 4 l2 ay.enc,lL 1 r3.2.1 ai],oS 7 50 l1 af.enc,oS 4 48 l2 ay.enc]⟩⟩
def Io(Γ:bu)(rv:cT×Int×Int)(l:List af)(c:aw)(r2:Int×aw)(r3:List af×List Int×aw)(l1:List af)(l3:List ay):Prop:=Fp Γ rv ⟨[.c 2047],⟨61,[vP 4 0 2,vI 10 r2.1,vP 13 1 2],[oX 2 60 [.cB,.cB],oX 2 60 [lO 2 4 l3 ay.enc,lL 1 r3.2.1 ai],oS 4 48 l3 ay.enc]⟩⟩
theorem Ip(Γ:bu)(rv:cT×Int×Int){l c r2 r3 l1}:∀⦃s:List ay×Int⦄ ⦃e:List ay⦄,aL (fun s=>lx l c r2 r3 l1 s.1 s.2) s=some e→Io Γ rv l c r2 r3 l1 e→JV Γ rv l c r2 r3 l1 s.1 s.2:=by
 refine bl ?_
 rintro⟨l2,v⟩ z_ h hI hE;simp only[lx,aB,ar,au,av]at h;rcases h with⟨h8,x1,h9,dm,h⟩|⟨h8,h⟩
 ·exact gn 13 [4,10,13,45,46,47] [0,1,2,6] [bT h8,oO (fJ h9),oO (fI af.enc h9),rE af.enc h9,oO (Eq.refl ([x1.db].map ay.enc).length),aO ay.enc dm] (hI h)
 ·exact gn 5 [4,10,13] [0,1,3] [bF h8] (hE h)
theorem NH{x0 l}{rv:cT×Int×Int}(h:uT x0 l=some rv):dv prog 51 [.agg (ab.enc x0),.one (lL 7 l af.enc)] [] (.jx [.agg [lL 4 rv.1.mB ay.enc,lL 1 rv.1.de ai],.one (lI rv.2.1),.one (lI rv.2.2)]) []:=by
 refine aW func51 fun Γ=>?_
 simp only[uT,aB,ar,au,av]at h;rcases h with⟨r,h0,⟨c,h1,⟨h2,h⟩|⟨h2,r1,h3,r2,h4,⟨h5,h⟩|⟨h5,r3,h6,l1,h7,l3,fH,h⟩⟩⟩|⟨h1,⟨gi,h⟩|⟨gi,h⟩⟩⟩
 ·cases h;exact gr 10 [] [cC (uY h0 h1),bT h2,hW 7,hH (.fj 1 0 4),hH (.fj 1 1 1)]
 ·cases h;exact gr 19 [] [cC (uY h0 h1),bF h2,cI [2,3] (dS h3),cI [2,3] (jl h4),bT h5,hW 6,hH (.fj 1 0 4),hH (.fj 1 1 1)]
 ·refine gn 29 [4,10,13,45,46,47] [1,6,5,7] [cC (uY h0 h1),bF h2,cI [2,3] (dS h3),cI [2,3] (jl h4),bF h5,cI [2,3] (y6 h6),oO (Eq.refl (r3.1.map af.enc).length),hH (.rows (l1.map af.enc)),hH (.uG 5 (l1.map af.enc).length),oO (D6 h7),rp 5 (oO (ED af.enc h7)),nL af.enc l1,hW 3,hH (.tV 6 0 4 48)] (Ip Γ rv fH ?_);cases h;exact gr 2 [] [hW 7,hH (.jn 2),rp 3 (eL l3 ay.enc)]
 ·cases h;exact gr 10 [] [cC (Ka h0 h1),bT gi,hW 7,hH (.fj 1 0 4),hH (.fj 1 1 1)]
 ·cases h
theorem zD{x0}{rv:cT×Int×Int}(h:xW x0=some rv):dv prog 15 [.agg (ab.enc x0)] [] (.jx [.agg [lL 4 rv.1.mB ay.enc,lL 1 rv.1.de ai],.one (lI rv.2.1),.one (lI rv.2.2)]) []:=by
 refine aW func15 fun Γ=>?_
 simp only[xW,aB,ar,au,av]at h;rcases h with⟨r,h0,⟨h1,h⟩|⟨h1,r1,h2,h⟩⟩
 ·cases h;exact gr 10 [] [cC (M9 h0),bT h1,hW 7,hH (.fj 1 0 4),hH (.fj 1 1 1)]
 ·cases h;exact gr 11 [] [cC (M9 h0),bF h1,cC (NH h2)]
def ta(Γ:bu)(rv:Bool)(cf:Cf):Prop:=Go prog f52 [] Γ (one (.bool rv)) [] cf
def yI(Γ:bu)(rv:Bool)(s1 s2:List Int)(v:Int):Prop:=ta Γ rv ⟨[.c 116,.l 116,.b 0,.c 15],⟨26,[vL 0 1 s1 ai,vL 1 1 s2 ai,vI 12 (az s1),vI 13 v],[]⟩⟩
def yl(Γ:bu)(rv:Bool)(s1 s2:List Int):Prop:=ta Γ rv ⟨[.c 15],⟨26,[],[]⟩⟩
theorem ym(Γ:bu)(rv:Bool){s1 s2}:∀⦃s:Int⦄ ⦃e:(Unit)⊕(Bool)⦄,aL (fun s=>dM s1 s2 s) s=some e→iD e (fun e=>yl Γ rv s1 s2) (fun e=>e=rv)→yI Γ rv s1 s2 s:=by
 refine bl ?_
 intro v z_ h hI hE;simp only[dM,aB,ar,au,av]at h;rcases h with⟨h1,x0,h2,x1,h3,⟨h4,h⟩|⟨h4,h⟩⟩|⟨h1,h⟩
 ·obtain rfl:=(hE h:_=rv);exact gr 14 [] [bT h1,hH (.draw 9 []),cE ai h2,cE ai h3,bT h4]
 ·exact gn 16 [0,1,12,13] [] [bT h1,hH (.draw 9 []),cE ai h2,cE ai h3,bF h4] (hI h)
 ·exact gn 5 [] [] [bF h1] (hE h)
theorem sy{s1 s2}{rv:Bool}(h:iX s1 s2=some rv):dv prog 52 [.one (lL 1 s1 ai),.one (lL 1 s2 ai)] [] (one (.bool rv)) []:=by
 refine aW func52 fun Γ=>?_
 simp only[iX,aB,ar,au,av]at h;rcases h with⟨h0,h⟩|⟨h0,e0,h5,h⟩
 ·obtain rfl:=oK h;exact gr 8 [] [nL ai s1,nL ai s2,bT h0]
 ·refine gn 12 [0,1,12,13] [] [nL ai s1,nL ai s2,bF h0,nL ai s1] (ym Γ rv h5 ?_);rcases e0 with e0|r
  ·obtain rfl:=oK h;exact gr 2 [] []
  ·exact oK h
theorem sw{s0}{rv:List Int}(h:fi s0=some rv):dv prog 125 [.one (lL 1 s0 ai)] [] (one (lL 1 rv ai)) []:=by
 refine aW func125 fun Γ=>?_
 simp only[fi,aB,ar,au,av]at h;rcases h with⟨h0,h⟩|⟨h0,h2,h⟩
 ·obtain⟨hx,h⟩:=UM h;refine gn 5 [0,4] [] [hH (.skip)] (cf':=⟨[.c 13,.c 7],⟨8,[vL 0 1 s0 ai,(4,.Xp)],[]⟩⟩) (go_amb 4 rfl ?_ ?_)
  ·replace h:=hx;cases h;exact gr 3 [] [tT,hW 3,hH (.sg 2 0 1)]
  ·simp only[aB,ar,au,av]at h;obtain⟨h1,h⟩:=h;obtain rfl:=oK h;exact gr 4 [] [fF,aZ ai h1,hW 1,hH (.jn 0),rp 2 (eL s0 ai)]
 ·obtain rfl:=oK h;exact gr 9 [] [oO (neE ai h0),fF,hH (.bit false),aZ ai h2,hW 1,hH (.jn 0),rp 2 (eL s0 ai)]
def wJ(Γ:bu)(rv:List ax×Bool)(cf:Cf):Prop:=Go prog f53 [] Γ (.jx [.one (lL 2 rv.1 ax.enc),.one (.bool rv.2)]) [] cf
def Li(Γ:bu)(rv:List ax×Bool)(x0:ab)(origin:List Int)(r:ay)(l l1:List Bool)(v:Int):Prop:=wJ Γ rv ⟨[.c 116,.l 116,.b 0,.c 15],⟨99,[vL 1 1 origin ai,vP 3 0 6,vO 8 1 1 l1 cJ,vL 20 2 r.aq ae.enc,vI 21 (az r.aq),vI 22 v],[oX 6 30 (ab.enc x0),oS 1 4 l1 cJ]⟩⟩
def Ji(Γ:bu)(rv:List ax×Bool)(x0:ab)(origin:List Int)(r:ay)(l l2:List Bool):Prop:=wJ Γ rv ⟨[.c 15],⟨99,[vL 1 1 origin ai,vP 3 0 6,vO 8 1 1 l2 cJ],[oX 6 30 (ab.enc x0),oS 1 4 l2 cJ]⟩⟩
def Lj(Γ:bu)(rv:List ax×Bool)(x0:ab)(origin:List Int)(l l2:List Bool)(l3:List ax)(v1:Int):Prop:=wJ Γ rv ⟨[.c 500,.l 500,.b 2,.c 63],⟨99,[vL 1 1 origin ai,vO 8 0 1 l2 cJ,vO 11 1 2 l3 ax.enc,vL 42 16 x0.ah ag.enc,vI 43 (az x0.ah),vI 44 v1],[oS 1 4 l2 cJ,oS 2 212 l3 ax.enc]⟩⟩
def Jk(Γ:bu)(rv:List ax×Bool)(x0:ab)(origin:List Int)(l l2:List Bool)(l4:List ax):Prop:=wJ Γ rv ⟨[.c 63],⟨99,[vO 11 0 2 l4 ax.enc],[oS 2 212 l4 ax.enc]⟩⟩
theorem Jj(Γ:bu)(rv:List ax×Bool){x0 origin r l}:∀⦃s:List Bool×Int⦄ ⦃e:(List Bool)⊕(List ax×Bool)⦄,aL (fun s=>lK x0 origin r l s.1 s.2) s=some e→iD e (fun e=>Ji Γ rv x0 origin r l e) (fun e=>e=rv)→Li Γ rv x0 origin r l s.1 s.2:=by
 refine bl ?_
 rintro⟨l1,v⟩ z_ h hI hE;simp only[lK,aB,ar,au,av]at h;rcases h with⟨h1,x1,h2,⟨h3,h⟩|⟨h3,x2,h4,h⟩⟩|⟨h1,h⟩
 ·obtain rfl:=(hE h:_=rv);exact gr 15 [] [bT h1,cE ae.enc h2,rp 4 hP,rp 2 (oI ((bh x1.aJ 0)=false)),nL cJ l1,hP,hP,rp 2 (oI ((bh x1.aJ 0)=false)),oR True ((bh x1.aJ 0)=false),bT h3,hW 4,hH (.sg 6 0 2)]
 ·exact gn 18 [1,3,8,20,21,22] [0,1] [bT h1,cE ae.enc h2,rp 4 hP,rp 2 (oI ((bh x1.aJ 0)=false)),nL cJ l1,hP,hP,rp 2 (oI ((bh x1.aJ 0)=false)),oR True ((bh x1.aJ 0)=false),bF h3,oO (fJ h4),oO (fI cJ h4),rE cJ h4,hH (.rows ((e_ l1 x1.aJ true).map cJ)),hH (.uG 1 ((e_ l1 x1.aJ true).map cJ).length),oO (I7 cJ l1 x1.aJ true),rp 2 (oO (t_ cJ l1 x1.aJ true))] (hI h)
 ·exact gn 5 [1,3,8] [0,1] [bF h1] (hE h)
theorem Jl(Γ:bu)(rv:List ax×Bool){x0 origin l l2}:∀⦃s:List ax×Int⦄ ⦃e:List ax⦄,aL (fun s=>lM x0 origin l l2 s.1 s.2) s=some e→Jk Γ rv x0 origin l l2 e→Lj Γ rv x0 origin l l2 s.1 s.2:=by
 refine bl ?_
 rintro⟨l3,v1⟩ z_ h hI hE;simp only[lM,aB,ar,au,av]at h;rcases h with⟨h6,x3,h7,x4,h8,⟨h9,⟨dm,x5,fH,x6,gi,⟨iG,r1,nW,h⟩|⟨iG,r2,qx,sH,h⟩⟩|⟨dm,x7,uu,r3,E4,AD,h⟩⟩|⟨h9,h⟩⟩|⟨h6,h⟩
 ·exact gn 23 [1,8,11,42,43,44] [0,1] [bT h6,cE ag.enc h7,oO (fJ h8),oO (fI cJ h8),rE cJ h8,nF h9,nL ax.enc l3,hH (.draw 14 []),rp 3 (bT dm),oO (fJ fH),oO (fI ax.enc fH),rp 2 (bT dm),rE ax.enc fH,rp 3 (bT dm),cE ai gi,rp 3 (bT dm),bT iG,hH (.draw 16 [(1,15)]),oO (fJ fH),oO (fI ax.enc fH),rE ax.enc fH,cC (u6 nW),oO (fJ fH),oO (fI ax.enc fH),rE ax.enc fH,hH (.rows ((e_ l3 (dd .i64 (az l3) 1) (ax.mk x5.aJ r1.1)).map ax.enc)),hH (.uG 1 ((e_ l3 (dd .i64 (az l3) 1) (ax.mk x5.aJ r1.1)).map ax.enc).length),oO (I7 ax.enc l3 (dd .i64 (az l3) 1) (ax.mk x5.aJ r1.1)),rp 5 (oO (t_ ax.enc l3 (dd .i64 (az l3) 1) (ax.mk x5.aJ r1.1)))] (hI h)
 ·exact gn 23 [1,8,11,42,43,44] [0,4] [bT h6,cE ag.enc h7,oO (fJ h8),oO (fI cJ h8),rE cJ h8,nF h9,nL ax.enc l3,hH (.draw 14 []),rp 3 (bT dm),oO (fJ fH),oO (fI ax.enc fH),rp 2 (bT dm),rE ax.enc fH,rp 3 (bT dm),cE ai gi,rp 3 (bT dm),bF iG,hH (.draw 10 []),cE ai gi,cC (sw qx),oO (Eq.refl ([(ax.mk x6 r2)].map ax.enc).length),aO ax.enc sH] (hI h)
 ·exact gn 23 [1,8,11,42,43,44] [0,4] [bT h6,cE ag.enc h7,oO (fJ h8),oO (fI cJ h8),rE cJ h8,nF h9,nL ax.enc l3,hH (.draw 14 []),rp 11 (bF dm),fF,hH (.draw 10 []),cE ai uu,cC (sw E4),oO (Eq.refl ([(ax.mk x7 r3)].map ax.enc).length),aO ax.enc AD] (hI h)
 ·exact gn 16 [1,8,11,42,43,44] [0,1] [bT h6,cE ag.enc h7,oO (fJ h8),oO (fI cJ h8),rE cJ h8,nT h9] (hI h)
 ·exact gn 5 [11] [1] [bF h6] (hE h)
theorem Ek{x0 origin r}{rv:List ax×Bool}(h:wI x0 origin r=some rv):dv prog 53 [.agg (ab.enc x0),.one (lL 1 origin ai),.agg (ay.enc r)] [] (.jx [.one (lL 2 rv.1 ax.enc),.one (.bool rv.2)]) []:=by
 refine aW func53 fun Γ=>?_
 simp only[wI,aB,ar,au,av]at h;obtain⟨l,h0,e0,h5,h⟩:=h;refine gn 9 [1,3,8,20,21,22] [0,2] [nL ag.enc x0.ah,hH (.cells [.bool false]),hH (.rows (l.map cJ)),oO (WZ h0),oO (X9 h0),oO (W0 h0),oO (W4 h0),oO (W5 cJ h0),nL ae.enc r.aq] (Jj Γ rv h5 ?_);rcases e0 with l2|r4
 ·simp only[dw,aB,ar,au,av]at h;obtain⟨l4,Ed,h⟩:=h;refine gn 7 [1,8,11,42,43,44] [1,2] [nL ag.enc x0.ah,hW 3,hH (.kH 11 2 212)] (Jl Γ rv Ed ?_);cases h;exact gr 2 [] [hW 5,hH (.jn 0),rp 3 (eL l4 ax.enc)]
 ·exact oK h
def Ib(Γ:bu)(rv:List (List ax)×Int)(cf:Cf):Prop:=Go prog f16 [] Γ (.jx [.one (lL 1 rv.1 bP.enc),.one (lI rv.2)]) [] cf
def MS(Γ:bu)(rv:List (List ax)×Int)(origin:List Int)(p:cT)(r:ab×List Int×Int)(l:List (List ax))(v:Int):Prop:=Ib Γ rv ⟨[.c 1012,.l 1012,.b 0,.c 127],⟨51,[vL 1 1 origin ai,vP 8 0 6,vO 11 1 1 l bP.enc,vL 30 4 p.mB ay.enc,vI 31 (az p.mB),vI 32 v],[oX 6 30 (ab.enc r.1),oS 1 126 l bP.enc]⟩⟩
def La(Γ:bu)(rv:List (List ax)×Int)(origin:List Int)(p:cT)(r:ab×List Int×Int)(l1:List (List ax)):Prop:=Ib Γ rv ⟨[.c 127],⟨51,[vO 11 0 1 l1 bP.enc],[oS 1 126 l1 bP.enc]⟩⟩
theorem Lb(Γ:bu)(rv:List (List ax)×Int){origin p r}:∀⦃s:List (List ax)×Int⦄ ⦃e:(List (List ax))⊕(List (List ax)×Int)⦄,aL (fun s=>nH origin p r s.1 s.2) s=some e→iD e (fun e=>La Γ rv origin p r e) (fun e=>e=rv)→MS Γ rv origin p r s.1 s.2:=by
 refine bl ?_
 rintro⟨l,v⟩ z_ h hI hE;simp only[nH,aB,ar,au,av]at h;rcases h with⟨h4,x1,h5,r2,h6,⟨h7,h8,h⟩|⟨h7,h⟩⟩|⟨h4,h⟩
 ·exact gn 20 [1,8,11,30,31,32] [0,4] [bT h4,cE ay.enc h5,cC (Ek h6),nF h7,oO (Eq.refl ([r2.1].map bP.enc).length),aO bP.enc h8] (hI h)
 ·obtain rfl:=(hE h:_=rv);exact gr 17 [] [bT h4,cE ay.enc h5,cC (Ek h6),nT h7,hW 4,hH (.sg 6 0 1)]
 ·exact gn 5 [11] [1] [bF h4] (hE h)
theorem Gy{x0 origin p}{rv:List (List ax)×Int}(h:yq x0 origin p=some rv):dv prog 16 [.agg (ab.enc x0),.one (lL 1 origin ai),.agg (cT.enc p)] [] (.jx [.one (lL 1 rv.1 bP.enc),.one (lI rv.2)]) []:=by
 refine aW func16 fun Γ=>?_
 simp only[yq,aB,ar,au,av]at h;rcases h with⟨r,h0,⟨h1,h⟩|⟨h1,r1,h2,⟨h3,e0,h9,h⟩|⟨h3,h⟩⟩⟩
 ·cases h;exact gr 10 [] [cC (j7 h0),bT h1,hW 5,hH (.sg 6 0 1)]
 ·refine gn 21 [1,8,11,30,31,32] [2,3] [cC (j7 h0),bF h1,cC (sy h2),nF h3,nL ay.enc p.mB,hW 3,hH (.kH 11 1 126)] (Lb Γ rv h9 ?_);rcases e0 with l1|r3
  ·cases h;exact gr 2 [] [hW 5,hH (.jn 0),rp 3 (eL l1 bP.enc)]
  ·exact oK h
 ·cases h;exact gr 15 [] [cC (j7 h0),bF h1,cC (sy h2),nT h3,hW 4,hH (.sg 6 0 1)]
theorem nU{n}{rv:List ax}(h:c5 n=some rv):dv prog 195 [.one (.cB),.one (lI n)] [] (one (lO 0 2 rv ax.enc)) [oS 2 212 rv ax.enc]:=by
 refine aW func195 fun Γ=>?_
 simp only[c5,aB,ar,au,av]at h;rcases h with⟨h0,h⟩|⟨h0,⟨h1,l,h2,l1,h3,h⟩|⟨h1,h⟩⟩
 ·cases h
 ·obtain rfl:=oK h;exact gr 16 [0] [bF h0,bT h1,hH (.cells [lI 0,lL 1 ([]:List Int) ai]),rp 3 (oO (Int.le_refl 0)),hH (.rows (l.map ax.enc)),oO (WZ h2),oO (W0 h2),oO (W4 h2),oO (W5 ax.enc h2),eL l ax.enc,hH (.rows (l1.map ax.enc)),oO (sl2 h3),oO (sl3 ax.enc h3),oO (Qnl ax.enc h3)]
 ·cases h;exact gr 16 [0] [bF h0,bF h1,hW 5,hH (.kH 4 2 212)]
def ep(Γ:bu)(rv:List ax)(cf:Cf):Prop:=Go prog f126 [] Γ (one (lL 2 rv ax.enc)) [] cf
def pe(Γ:bu)(rv:List ax)(iH:List (List ax))(size v:Int):Prop:=ep Γ rv ⟨[.c 116,.l 116,.b 0,.c 15],⟨36,[vL 0 1 iH bP.enc,vI 3 size,vL 9 1 iH bP.enc,vI 10 (az iH),vI 11 v],[]⟩⟩
def o8(Γ:bu)(rv:List ax)(iH:List (List ax))(ZO:Int):Prop:=ep Γ rv ⟨[.c 15],⟨36,[vL 0 1 iH bP.enc,vI 3 ZO],[]⟩⟩
def pg(Γ:bu)(rv:List ax)(iH:List (List ax))(l:List ax)(v1:Int):Prop:=ep Γ rv ⟨[.c 500,.l 500,.b 2,.c 63],⟨36,[vO 6 0 2 l ax.enc,vL 25 1 iH bP.enc,vI 26 (az iH),vI 27 v1],[oS 2 212 l ax.enc]⟩⟩
def o_(Γ:bu)(rv:List ax)(iH:List (List ax))(l1:List ax):Prop:=ep Γ rv ⟨[.c 63],⟨36,[vO 6 0 2 l1 ax.enc],[oS 2 212 l1 ax.enc]⟩⟩
theorem o9(Γ:bu)(rv:List ax){iH}:∀⦃s:Int×Int⦄ ⦃e:Int⦄,aL (fun s=>cu iH s.1 s.2) s=some e→o8 Γ rv iH e→pe Γ rv iH s.1 s.2:=by
 refine bl ?_
 rintro⟨size,v⟩ z_ h hI hE;simp only[cu,aB,ar,au,av]at h;rcases h with⟨h0,x0,h1,⟨h2,h⟩|⟨h2,h⟩⟩|⟨h0,h⟩
 ·cases h
 ·exact gn 18 [0,3,9,10,11] [] [bT h0,cE bP.enc h1,nL ax.enc x0,bF h2] (hI h)
 ·exact gn 5 [0,3] [] [bF h0] (hE h)
theorem pa(Γ:bu)(rv:List ax){iH}:∀⦃s:List ax×Int⦄ ⦃e:List ax⦄,aL (fun s=>cw iH s.1 s.2) s=some e→o_ Γ rv iH e→pg Γ rv iH s.1 s.2:=by
 refine bl ?_
 rintro⟨l,v1⟩ z_ h hI hE;simp only[cw,aB,ar,au,av]at h;rcases h with⟨h5,x1,h6,h7,h⟩|⟨h5,h⟩
 ·exact gn 13 [6,25,26,27] [1] [bT h5,cE bP.enc h6,aO ax.enc h7] (hI h)
 ·exact gn 5 [6] [0] [bF h5] (hE h)
theorem qg{iH}{rv:List ax}(h:dE iH=some rv):dv prog 126 [.one (lL 1 iH bP.enc)] [] (one (lL 2 rv ax.enc)) []:=by
 refine aW func126 fun Γ=>?_
 simp only[dE,aB,ar,au,av]at h;obtain⟨ZO,h3,h⟩:=h;refine gn 9 [0,3,9,10,11] [] [nL bP.enc iH] (o9 Γ rv h3 ?_);obtain⟨r,h4,l1,h8,h⟩:=h;refine gn 7 [6,25,26,27] [0] [cC (nU h4),nL bP.enc iH] (pa Γ rv h8 ?_);obtain rfl:=oK h;exact gr 2 [] [hW 4,hH (.jn 0),rp 3 (eL l1 ax.enc)]
def Bo(Γ:bu)(rv:List (List Int)×Int)(cf:Cf):Prop:=Go prog f54 [] Γ (.jx [.one (lL 1 rv.1 bE),.one (lI rv.2)]) [] cf
def Qp(Γ:bu)(rv:List (List Int)×Int)(x0:ab)(l:List (List ax))(l2:List (List Int))(v:Int):Prop:=Bo Γ rv ⟨[.c 116,.l 116,.b 0,.c 15],⟨77,[vL 1 1 l bP.enc,vO 6 0 1 l2 bE,vL 16 16 x0.ah ag.enc,vI 17 (az x0.ah),vI 18 v],[oS 1 36 l2 bE]⟩⟩
def N4(Γ:bu)(rv:List (List Int)×Int)(x0:ab)(l:List (List ax))(l4:List (List Int)):Prop:=Bo Γ rv ⟨[.c 15],⟨77,[vL 1 1 l bP.enc,vO 6 0 1 l4 bE],[oS 1 36 l4 bE]⟩⟩
def Qq(Γ:bu)(rv:List (List Int)×Int)(l:List (List ax))(r:List ax)(l5:List (List Int))(v1:Int):Prop:=Bo Γ rv ⟨[.c 244,.l 244,.b 2,.c 31],⟨77,[vO 6 0 1 l5 bE,vL 32 2 r ax.enc,vI 33 (az r),vI 34 v1],[oS 1 36 l5 bE]⟩⟩
def N6(Γ:bu)(rv:List (List Int)×Int)(l:List (List ax))(r:List ax)(l6:List (List Int)):Prop:=Bo Γ rv ⟨[.c 31],⟨77,[vO 6 0 1 l6 bE],[oS 1 36 l6 bE]⟩⟩
theorem N5(Γ:bu)(rv:List (List Int)×Int){x0 l}:∀⦃s:List (List Int)×Int⦄ ⦃e:List (List Int)⦄,aL (fun s=>qK x0 l s.1 s.2) s=some e→N4 Γ rv x0 l e→Qp Γ rv x0 l s.1 s.2:=by
 refine bl ?_
 rintro⟨l2,v⟩ z_ h hI hE;simp only[qK,aB,ar,au,av]at h;rcases h with⟨h1,x1,h2,l3,h3,x2,h4,h⟩|⟨h1,h⟩
 ·exact gn 13 [1,6,16,17,18] [0] [bT h1,cE ag.enc h2,nL ai x1.load,hH (.cells [lI 0]),hH (.rows (l3.map ai)),oO (WZ h3),oO (X9 h3),oO (W0 h3),oO (W4 h3),oO (W5 ai h3),hW 1,hH (.jn 2),oO (fJ h4),oO (fI bE h4),eL l3 ai,rE bE h4,hH (.rows ((e_ l2 v l3).map bE)),hH (.uG 0 ((e_ l2 v l3).map bE).length),oO (I7 bE l2 v l3),rp 2 (oO (t_ bE l2 v l3))] (hI h)
 ·exact gn 5 [1,6] [0] [bF h1] (hE h)
theorem N7(Γ:bu)(rv:List (List Int)×Int){l r}:∀⦃s:List (List Int)×Int⦄ ⦃e:(List (List Int))⊕(List (List Int)×Int)⦄,aL (fun s=>qL l r s.1 s.2) s=some e→iD e (fun e=>N6 Γ rv l r e) (fun e=>e=rv)→Qq Γ rv l r s.1 s.2:=by
 refine bl ?_
 rintro⟨l5,v1⟩ z_ h hI hE;simp only[qL,aB,ar,au,av]at h;rcases h with⟨h7,x3,h8,⟨h9,h⟩|⟨h9,x4,dm,r1,fH,⟨gi,r2,iG,h⟩|⟨gi,h⟩⟩⟩|⟨h7,h⟩
 ·obtain rfl:=(hE h:_=rv);exact gr 15 [] [bT h7,cE ax.enc h8,hH (.draw 22 []),rp 4 hP,rp 2 (oI ((bh x3.aJ 0)=false)),nL bE l5,hP,hP,rp 2 (oI ((bh x3.aJ 0)=false)),oR True ((bh x3.aJ 0)=false),rp 11 (bT h9),tT,hW 4,hH (.sg 4 0 1)]
 ·exact gn 18 [6,32,33,34] [0] [bT h7,cE ax.enc h8,hH (.draw 22 []),rp 4 hP,rp 2 (oI ((bh x3.aJ 0)=false)),nL bE l5,hP,hP,rp 2 (oI ((bh x3.aJ 0)=false)),oR True ((bh x3.aJ 0)=false),rp 6 (bF h9),oO (fJ dm),oO (fI bE dm),bF h9,rE bE dm,bF h9,nL ai x4,bF h9,cC (u7 fH),bF h9,bF h9,nF gi,hH (.draw 16 [(0,15)]),oO (fJ dm),oO (fI bE dm),rE bE dm,cC (u6 iG),oO (fJ dm),oO (fI bE dm),rE bE dm,hH (.rows ((e_ l5 x3.aJ r2.1).map bE)),hH (.uG 0 ((e_ l5 x3.aJ r2.1).map bE).length),oO (I7 bE l5 x3.aJ r2.1),rp 4 (oO (t_ bE l5 x3.aJ r2.1))] (hI h)
 ·obtain rfl:=(hE h:_=rv);exact gr 15 [] [bT h7,cE ax.enc h8,hH (.draw 22 []),rp 4 hP,rp 2 (oI ((bh x3.aJ 0)=false)),nL bE l5,hP,hP,rp 2 (oI ((bh x3.aJ 0)=false)),oR True ((bh x3.aJ 0)=false),rp 6 (bF h9),oO (fJ dm),oO (fI bE dm),bF h9,rE bE dm,bF h9,nL ai x4,bF h9,cC (u7 fH),bF h9,bF h9,nT gi,hW 4,hH (.sg 4 0 1)]
 ·exact gn 5 [6] [0] [bF h7] (hE h)
theorem Ln{x0 l}{rv:List (List Int)×Int}(h:C1 x0 l=some rv):dv prog 54 [.agg (ab.enc x0),.one (lL 1 l bP.enc)] [] (.jx [.one (lL 1 rv.1 bE),.one (lI rv.2)]) []:=by
 refine aW func54 fun Γ=>?_
 simp only[C1,aB,ar,au,av]at h;obtain⟨l1,h0,l4,h5,h⟩:=h;refine gn 9 [1,6,16,17,18] [1] [nL ag.enc x0.ah,hH (.cells [lL 1 ([]:List Int) ai]),hH (.rows (l1.map bE)),oO (WZ h0),oO (X9 h0),oO (W0 h0),oO (W4 h0),oO (W5 bE h0),nL ag.enc x0.ah] (N5 Γ rv h5 ?_);obtain⟨r,h6,e1,nW,h⟩:=h;refine gn 5 [6,32,33,34] [0] [cC (qg h6),nL ax.enc r] (N7 Γ rv nW ?_);rcases e1 with l6|r3
 ·cases h;exact gr 2 [] [hW 5,hH (.jn 0),rp 3 (eL l6 bE)]
 ·exact oK h
def tc(Γ:bu)(rv:Int)(cf:Cf):Prop:=Go prog f130 [] Γ (one (lI rv)) [] cf
def yJ(Γ:bu)(rv:Int)(s0:List Int)(v v1:Int):Prop:=tc Γ rv ⟨[.c 52,.l 52,.b 0,.c 7],⟨19,[vL 0 1 s0 ai,vI 1 v,vI 7 (az s0),vI 8 v1],[]⟩⟩
def yn(Γ:bu)(rv:Int)(s0:List Int)(v:Int):Prop:=tc Γ rv ⟨[.c 7],⟨19,[],[]⟩⟩
theorem yo(Γ:bu)(rv:Int){s0 v}:∀⦃s:Int⦄ ⦃e:(Unit)⊕(Int)⦄,aL (fun s=>dO s0 v s) s=some e→iD e (fun e=>yn Γ rv s0 v) (fun e=>e=rv)→yJ Γ rv s0 v s:=by
 refine bl ?_
 intro v1 z_ h hI hE;simp only[dO,aB,ar,au,av]at h;rcases h with⟨h0,x0,h1,⟨h2,h⟩|⟨h2,h⟩⟩|⟨h0,h⟩
 ·obtain rfl:=(hE h:_=rv);exact gr 14 [] [bT h0,cE ai h1,bT h2]
 ·exact gn 16 [0,1,7,8] [] [bT h0,cE ai h1,bF h2] (hI h)
 ·exact gn 5 [] [] [bF h0] (hE h)
theorem Ai{s0 v}{rv:Int}(h:lu s0 v=some rv):dv prog 130 [.one (lL 1 s0 ai),.one (lI v)] [] (one (lI rv)) []:=by
 refine aW func130 fun Γ=>?_
 simp only[lu,aB,ar,au,av]at h;obtain⟨e0,h3,h⟩:=h;refine gn 7 [0,1,7,8] [] [nL ai s0] (yo Γ rv h3 ?_);rcases e0 with e0|r
 ·cases h;exact gr 2 [] []
 ·exact oK h
theorem k_{s0 v}{rv:Bool}(h:gw s0 v=some rv):dv prog 57 [.one (lL 1 s0 ai),.one (lI v)] [] (one (.bool rv)) []:=by
 refine aW func57 fun Γ=>?_
 simp only[gw,aB,ar,au,av]at h;obtain⟨r,h0,h⟩:=h;cases h;exact gr 4 [] [cC (Ai h0)]
def xN(Γ:bu)(rv:Int)(cf:Cf):Prop:=Go prog f17 [] Γ (one (lI rv)) [] cf
def MT(Γ:bu)(rv:Int)(x0:ab)(l:List (List ax))(de:List Int)(v:Int):Prop:=xN Γ rv ⟨[.c 52,.l 52,.b 0,.c 7],⟨81,[vL 1 1 l bP.enc,vL 2 1 de ai,vP 3 0 6,vL 14 1 de ai,vI 15 (az de),vI 16 v],[oX 6 30 (ab.enc x0)]⟩⟩
def Lc(Γ:bu)(rv:Int)(x0:ab)(l:List (List ax))(de:List Int):Prop:=xN Γ rv ⟨[.c 7],⟨81,[vL 1 1 l bP.enc,vL 2 1 de ai,vP 3 0 6],[oX 6 30 (ab.enc x0)]⟩⟩
def MU(Γ:bu)(rv:Int)(x0:ab)(l:List (List ax))(de:List Int)(r:List (List Int)×Int)(r1 v1:Int):Prop:=xN Γ rv ⟨[.c 1012,.l 1012,.b 2,.c 127],⟨81,[vL 2 1 de ai,vL 9 1 r.1 bE,vI 11 r1,vL 42 16 x0.ah ag.enc,vI 43 (az x0.ah),vI 44 v1],[]⟩⟩
def Le(Γ:bu)(rv:Int)(x0:ab)(l:List (List ax))(de:List Int)(r:List (List Int)×Int)(r1:Int):Prop:=xN Γ rv ⟨[.c 127],⟨81,[],[]⟩⟩
theorem Ld(Γ:bu)(rv:Int){x0 l de}:∀⦃s:Int⦄ ⦃e:(Unit)⊕(Int)⦄,aL (fun s=>lk x0 l de s) s=some e→iD e (fun e=>Lc Γ rv x0 l de) (fun e=>e=rv)→MT Γ rv x0 l de s:=by
 refine bl ?_
 intro v z_ h hI hE;simp only[lk,aB,ar,au,av]at h;rcases h with⟨h0,x1,h1,⟨h2,h⟩|⟨h2,h⟩⟩|⟨h0,h⟩
 ·obtain rfl:=(hE h:_=rv);exact gr 14 [] [bT h0,cE ai h1,rp 4 hP,rp 2 (oI ((bh x1 0)=false)),nL ag.enc x0.ah,hP,hP,rp 2 (oI ((bh x1 0)=false)),oR True ((bh x1 0)=false),bT h2]
 ·exact gn 16 [1,2,3,14,15,16] [0] [bT h0,cE ai h1,rp 4 hP,rp 2 (oI ((bh x1 0)=false)),nL ag.enc x0.ah,hP,hP,rp 2 (oI ((bh x1 0)=false)),oR True ((bh x1 0)=false),bF h2] (hI h)
 ·exact gn 5 [1,2,3] [0] [bF h0] (hE h)
theorem Lg(Γ:bu)(rv:Int){x0 l de r r1}:∀⦃s:Int⦄ ⦃e:(Unit)⊕(Int)⦄,aL (fun s=>nI x0 l de r r1 s) s=some e→iD e (fun e=>Le Γ rv x0 l de r r1) (fun e=>e=rv)→MU Γ rv x0 l de r r1 s:=by
 refine bl ?_
 intro v1 z_ h hI hE;simp only[nI,aB,ar,au,av]at h;rcases h with⟨h7,x2,h8,x3,h9,r2,dm,⟨fH,gi,⟨iG,r3,nW,⟨qx,h⟩|⟨qx,r4,sH,⟨uu,h⟩|⟨uu,h⟩⟩⟩|⟨iG,h⟩⟩|⟨fH,h⟩⟩|⟨h7,h⟩
 ·exact gn 21 [2,9,11,42,43,44] [] [bT h7,cE ag.enc h8,hH (.draw 9 []),cE bE h9,cC (mK dm),nF fH,hH (.draw 22 []),oO (gi),rp 3 (bT iG),cC (k_ nW),rp 2 (bT iG),rp 9 (nF qx),fF] (hI h)
 ·exact gn 21 [2,9,11,42,43,44] [] [bT h7,cE ag.enc h8,hH (.draw 9 []),cE bE h9,cC (mK dm),nF fH,hH (.draw 22 []),oO (gi),rp 3 (bT iG),cC (k_ nW),rp 2 (bT iG),rp 5 (nT qx),cE bE h9,rp 2 (nT qx),cC (mK sH),rp 2 (nT qx),nF uu] (hI h)
 ·obtain rfl:=(hE h:_=rv);exact gr 18 [] [bT h7,cE ag.enc h8,hH (.draw 9 []),cE bE h9,cC (mK dm),nF fH,hH (.draw 22 []),oO (gi),rp 3 (bT iG),cC (k_ nW),rp 2 (bT iG),rp 5 (nT qx),cE bE h9,rp 2 (nT qx),cC (mK sH),rp 2 (nT qx),nT uu]
 ·exact gn 21 [2,9,11,42,43,44] [] [bT h7,cE ag.enc h8,hH (.draw 9 []),cE bE h9,cC (mK dm),nF fH,hH (.draw 22 []),oO (gi),rp 5 (bF iG),rp 10 fF] (hI h)
 ·obtain rfl:=(hE h:_=rv);exact gr 15 [] [bT h7,cE ag.enc h8,hH (.draw 9 []),cE bE h9,cC (mK dm),nT fH]
 ·exact gn 5 [] [] [bF h7] (hE h)
theorem Gz{x0 l de}{rv:Int}(h:uH x0 l de=some rv):dv prog 17 [.agg (ab.enc x0),.one (lL 1 l bP.enc),.one (lL 1 de ai)] [] (one (lI rv)) []:=by
 refine aW func17 fun Γ=>?_
 simp only[uH,aB,ar,au,av]at h;obtain⟨e0,h3,h⟩:=h;refine gn 7 [1,2,3,14,15,16] [0] [nL ai de] (Ld Γ rv h3 ?_);rcases e0 with e0|r6
 ·simp only[dw,aB,ar,au,av]at h;rcases h with⟨r,h4,⟨h5,h⟩|⟨h5,r1,h6,e1,E4,h⟩⟩
  ·cases h;exact gr 8 [] [cC (Ln h4),bT h5]
  ·refine gn 14 [2,9,11,42,43,44] [] [cC (Ln h4),bF h5,cC (Ef h6),nL ag.enc x0.ah] (Lg Γ rv E4 ?_);rcases e1 with e1|r5
   ·obtain rfl:=oK h;exact gr 2 [] []
   ·exact oK h
 ·exact oK h
def pC(Γ:bu)(rv:Bool)(cf:Cf):Prop:=Go prog f4 [] Γ (one (.bool rv)) [] cf
def DL(Γ:bu)(rv:Bool)(x0:ab)(r1:ab×List Int×Int)(r4:cT×Int×Int)(r6:List (List ax)×Int)(l:List Int)(i:Int)(some_:Bool)(k:Int):Prop:=pC Γ rv ⟨[.c 4191380,.l 4191380,.b 2,.c 523923,.b 1,.c 65491,.l 16372,.b 0,.c 2047],⟨115,[vP 1 0 6,vL 4 1 r1.2.1 ai,vP 6 1 2,vL 9 1 r6.1 bP.enc,vO 11 2 1 l ai,vI 12 i,vB 13 some_,vI 14 k],[oX 6 30 (ab.enc x0),oX 2 60 (cT.enc r4.1),oS 1 3 l ai]⟩⟩
def CF(Γ:bu)(rv:Bool)(x0:ab)(r1:ab×List Int×Int)(r4:cT×Int×Int)(r6:List (List ax)×Int)(l:List Int)(i:Int)(Ui:Bool):Prop:=pC Γ rv ⟨[.c 523923,.b 1,.c 65491,.l 16372,.b 0,.c 2047],⟨115,[vP 1 0 6,vL 4 1 r1.2.1 ai,vP 6 1 2,vL 9 1 r6.1 bP.enc,vO 11 2 1 l ai,vI 12 i,vB 13 Ui],[oX 6 30 (ab.enc x0),oX 2 60 (cT.enc r4.1),oS 1 3 l ai]⟩⟩
def DK(Γ:bu)(rv:Bool)(x0:ab)(r1:ab×List Int×Int)(r4:cT×Int×Int)(r6:List (List ax)×Int)(l:List Int)(i:Int):Prop:=pC Γ rv ⟨[.c 16372,.l 16372,.b 0,.c 2047],⟨115,[vP 1 0 6,vL 4 1 r1.2.1 ai,vP 6 1 2,vL 9 1 r6.1 bP.enc,vO 11 2 1 l ai,vI 12 i],[oX 6 30 (ab.enc x0),oX 2 60 (cT.enc r4.1),oS 1 3 l ai]⟩⟩
def CD(Γ:bu)(rv:Bool)(x0:ab)(r1:ab×List Int×Int)(r4:cT×Int×Int)(r6:List (List ax)×Int)(l1:List Int):Prop:=pC Γ rv ⟨[.c 2047],⟨115,[vP 1 0 6,vL 9 1 r6.1 bP.enc,vO 11 1 1 l1 ai],[oX 6 30 (ab.enc x0),oS 1 3 l1 ai]⟩⟩
theorem CG(Γ:bu)(rv:Bool){x0 r1 r4 r6 l i}:∀⦃s:Bool×Int⦄ ⦃e:Bool⦄,aL (fun s=>gm x0 r1 r4 r6 l i s.1 s.2) s=some e→CF Γ rv x0 r1 r4 r6 l i e→DL Γ rv x0 r1 r4 r6 l i s.1 s.2:=by
 refine bl ?_
 rintro⟨some_,k⟩ z_ h hI hE;simp only[gm,aB,ar,au,av]at h;rcases h with⟨nW,⟨qx,h⟩|⟨qx,x2,sH,⟨uu,x3,E4,h⟩|⟨uu,h⟩⟩⟩|⟨nW,h⟩
 ·exact gn 11 [1,4,6,9,11,12,13,14] [0,1,2] [nL ai r4.1.de,bT nW,rp 9 (bT qx),rp 10 kF,rp 2 (bT qx)] (hI h)
 ·exact gn 11 [1,4,6,9,11,12,13,14] [0,1,2] [nL ai r4.1.de,bT nW,rp 4 (bF qx),cE ai sH,rp 3 (bF qx),nL ai r1.2.1,rp 2 (bF qx),rp 5 (bT uu),cE ai sH,rp 2 (bT uu),cE ai E4,rp 3 (bT uu),bF qx,bT uu,bF qx] (hI h)
 ·exact gn 11 [1,4,6,9,11,12,13,14] [0,1,2] [nL ai r4.1.de,bT nW,rp 4 (bF qx),cE ai sH,rp 3 (bF qx),nL ai r1.2.1,rp 2 (bF qx),rp 10 (bF uu),bF qx,bF uu,bF qx] (hI h)
 ·exact gn 5 [1,4,6,9,11,12,13] [0,1,2] [nL ai r4.1.de,bF nW] (hE h)
theorem CE(Γ:bu)(rv:Bool){x0 r1 r4 r6}:∀⦃s:List Int×Int⦄ ⦃e:List Int⦄,aL (fun s=>fr x0 r1 r4 r6 s.1 s.2) s=some e→CD Γ rv x0 r1 r4 r6 e→DK Γ rv x0 r1 r4 r6 s.1 s.2:=by
 refine bl ?_
 rintro⟨l,i⟩ z_ h hI hE;simp only[fr,aB,ar,au,av]at h;rcases h with⟨gi,x1,iG,Ui,AD,h⟩|⟨gi,h⟩
 ·refine gn 14 [1,4,6,9,11,12,13,14] [0,1,2] [nL ag.enc x0.ah,bT gi,cE ag.enc iG] (CG Γ rv AD ?_);rcases h with⟨Ed,G0,h⟩|⟨Ed,h⟩
  ·exact gn 7 [1,4,6,9,11,12] [0,1,4] [bT Ed,oO (Eq.refl ([i].map ai).length),aO ai G0] (hI h)
  ·exact gn 7 [1,4,6,9,11,12] [0,1,2] [bF Ed] (hI h)
 ·exact gn 5 [1,9,11] [0,2] [nL ag.enc x0.ah,bF gi] (hE h)
theorem FR{x0}{rv:Bool}(h:rM x0=some rv):dv prog 4 [.agg (ab.enc x0)] [] (one (.bool rv)) []:=by
 refine aW func4 fun Γ=>?_
 simp only[rM,aB,ar,au,av]at h;rcases h with⟨r,h0,⟨h1,r1,h2,⟨h3,r2,h4,h⟩|⟨h3,r3,h5,⟨h6,r4,h7,⟨h8,r5,h9,h⟩|⟨h8,r6,dm,⟨fH,h⟩|⟨fH,l1,Nh,h⟩⟩⟩|⟨h6,r9,Iw,h⟩⟩⟩|⟨h1,My,WM,h⟩⟩
 ·obtain rfl:=oK h;exact gr 15 [] [cC (eU h0),nF h1,cC (j7 h2),rp 4 (bT h3),tT,cC (oQ h4)]
 ·obtain rfl:=oK h;exact gr 22 [] [cC (eU h0),nF h1,cC (j7 h2),bF h3,bF h3,cC (eU h5),bF h3,bF h3,nF h6,cC (zD h7),bT h8,cC (oQ h9)]
 ·obtain rfl:=oK h;exact gr 29 [] [cC (eU h0),nF h1,cC (j7 h2),bF h3,bF h3,cC (eU h5),bF h3,bF h3,nF h6,cC (zD h7),bF h8,cC (Gy dm),hP,hP,oI ((cr r6.2 0)=false),nL bP.enc r6.1,hP,hP,hP,rp 2 (oI ((cr r6.2 0)=false)),nL ay.enc r4.1.mB,hP,hP,rp 2 (oI ((cr r6.2 0)=false)),oR True ((cr r6.2 0)=false),bT fH]
 ·refine gn 35 [1,4,6,9,11,12] [0,2,3] [cC (eU h0),nF h1,cC (j7 h2),bF h3,bF h3,cC (eU h5),bF h3,bF h3,nF h6,cC (zD h7),bF h8,cC (Gy dm),hP,hP,oI ((cr r6.2 0)=false),nL bP.enc r6.1,hP,hP,hP,rp 2 (oI ((cr r6.2 0)=false)),nL ay.enc r4.1.mB,hP,hP,rp 2 (oI ((cr r6.2 0)=false)),oR True ((cr r6.2 0)=false),bF fH,hW 10,hH (.kH 11 1 3)] (CE Γ rv Nh ?_);rcases h with⟨r7,L2,⟨L3,r8,L4,h⟩|⟨L3,h⟩⟩
  ·obtain rfl:=oK h;exact gr 2 [] [eL l1 ai,cC (Gz L2),bT L3,cC (oQ L4),bT L3]
  ·obtain rfl:=oK h;exact gr 2 [] [eL l1 ai,cC (Gz L2),rp 2 (bF L3)]
 ·obtain rfl:=oK h;exact gr 15 [] [cC (eU h0),nF h1,cC (j7 h2),bF h3,bF h3,cC (eU h5),bF h3,bF h3,nT h6,cC (oQ Iw)]
 ·obtain rfl:=oK h;exact gr 8 [] [cC (eU h0),nT h1,cC (oQ WM)]
end
end Go.Proofs.YtkcilfpbgjjjbaaGreatDoor
