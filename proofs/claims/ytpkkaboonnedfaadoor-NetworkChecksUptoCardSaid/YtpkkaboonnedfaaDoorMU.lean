/- Part MU of the proof: texts N0. -/
import Derived.Test.YtpkkaboonnedfaaDoorMT
import Derived.Test.YtpkkaboonnedfaaDoorMC
import Derived.Test.YtpkkaboonnedfaaDoorMI
import Derived.Test.YtpkkaboonnedfaaDoorProg
namespace Go.Proofs.YtpkkaboonnedfaaDoor
set_option linter.unusedVariables false
set_option linter.unusedSectionVars false
set_option linter.unusedSimpArgs false
set_option maxHeartbeats 4000000
set_option maxRecDepth 100000
theorem Qaf {n i} {rv:Bool} (h:QaU n i=some rv):AFn Tryd.prog 21 [.agg (Qac.enc n),.one (lI i)] [] (one (.bool rv)) []:=by
 refine QbK Tryd.func21 fun Γ=>?_
 simp only [QaU,QaE,Qal,Qam] at h
 cases h
 exact gr 4 [] [rp 4 hP,rp 2 (oI ((geI i 0)=true)),nL e_str n.places,hP,hP,rp 2 (oI ((geI i 0)=true)),oR True ((geI i 0)=true)]
theorem QaC {t} {rv:Bool} (h:QbM t=some rv):AFn Tryd.prog 22 [.one (lI t)] [] (one (.bool rv)) []:=by
 refine QbK Tryd.func22 fun Γ=>?_
 simp only [QbM,QaE,Qal,Qam] at h
 cases h
 exact gr 4 [] [hP,hP,hP,oI ((geI t 0)=true),oR True ((geI t 0)=true)]
theorem Qd3 {l t ticks} {rv:List Qab×Int} (h:Qd2 l t ticks=some rv):AFn Tryd.prog 23 [.one (lL 2 l Qab.enc),.one (lI t),.one (lI ticks)] [] (.tup [.one (lL 2 rv.1 Qab.enc),.one (lI rv.2)]) []:=by
 refine QbK Tryd.func23 fun Γ=>?_
 simp only [Qd2,QaE,Qal,Qam] at h
 rcases h with ⟨h0,⟨h1,x0,h2,⟨h3,h⟩|⟨h3,⟨h4,⟨h5,h⟩|⟨h5,h⟩⟩|⟨h4,⟨h6,h⟩|⟨h6,h7,h⟩⟩⟩⟩|⟨h1,⟨h8,h⟩|⟨h8,h9,h⟩⟩⟩
 ·cases h
  exact gr 13 [] [aZ Qab.enc h0,nL Qab.enc l,rp 4 (bT h1),oO (getLo h2),oO (getHi Qab.enc h2),bT h1,bT h1,rE Qab.enc h2,bT h1,bT h1,bT h3,hW 4,hH (.nilS 6 0 2)]
 ·cases h
  exact gr 22 [] [aZ Qab.enc h0,nL Qab.enc l,rp 4 (bT h1),oO (getLo h2),oO (getHi Qab.enc h2),bT h1,bT h1,rE Qab.enc h2,bT h1,bT h1,bF h3,rp 4 (bT h1),oO (getLo h2),oO (getHi Qab.enc h2),bT h1,bT h1,rE Qab.enc h2,bT h1,bT h1,bT h4,oO (getLo h2),oO (getHi Qab.enc h2),rE Qab.enc h2,oO (getLo h2),oO (getHi Qab.enc h2),rE Qab.enc h2,hH (.rows ((setI l (subK .i64 (lenI l) 1) (Qab.mk x0.t (addK .i64 x0.a ticks))).map Qab.enc)),hH (.relen 0 ((setI l (subK .i64 (lenI l) 1) (Qab.mk x0.t (addK .i64 x0.a ticks))).map Qab.enc).length),oO (setM Qab.enc l (subK .i64 (lenI l) 1) (Qab.mk x0.t (addK .i64 x0.a ticks))),rp 6 (oO (Qhk Qab.enc l (subK .i64 (lenI l) 1) (Qab.mk x0.t (addK .i64 x0.a ticks)))),oO (getLo (Qia h2 (Qab.mk x0.t (addK .i64 x0.a ticks)))),oO (getHi Qab.enc (Qia h2 (Qab.mk x0.t (addK .i64 x0.a ticks)))),rE Qab.enc (Qia h2 (Qab.mk x0.t (addK .i64 x0.a ticks))),bT h5,hW 4,hH (.nilS 6 0 2)]
 ·cases h
  exact gr 23 [] [aZ Qab.enc h0,nL Qab.enc l,rp 4 (bT h1),oO (getLo h2),oO (getHi Qab.enc h2),bT h1,bT h1,rE Qab.enc h2,bT h1,bT h1,bF h3,rp 4 (bT h1),oO (getLo h2),oO (getHi Qab.enc h2),bT h1,bT h1,rE Qab.enc h2,bT h1,bT h1,bT h4,oO (getLo h2),oO (getHi Qab.enc h2),rE Qab.enc h2,oO (getLo h2),oO (getHi Qab.enc h2),rE Qab.enc h2,hH (.rows ((setI l (subK .i64 (lenI l) 1) (Qab.mk x0.t (addK .i64 x0.a ticks))).map Qab.enc)),hH (.relen 0 ((setI l (subK .i64 (lenI l) 1) (Qab.mk x0.t (addK .i64 x0.a ticks))).map Qab.enc).length),oO (setM Qab.enc l (subK .i64 (lenI l) 1) (Qab.mk x0.t (addK .i64 x0.a ticks))),rp 6 (oO (Qhk Qab.enc l (subK .i64 (lenI l) 1) (Qab.mk x0.t (addK .i64 x0.a ticks)))),oO (getLo (Qia h2 (Qab.mk x0.t (addK .i64 x0.a ticks)))),oO (getHi Qab.enc (Qia h2 (Qab.mk x0.t (addK .i64 x0.a ticks)))),rE Qab.enc (Qia h2 (Qab.mk x0.t (addK .i64 x0.a ticks))),bF h5,hW 6,hH (.frz 0),rp 9 (oO (Eq.refl ((setI l (subK .i64 (lenI l) 1) (Qab.mk x0.t (addK .i64 x0.a ticks))).map Qab.enc).length))]
 ·cases h
  exact gr 19 [] [aZ Qab.enc h0,nL Qab.enc l,rp 4 (bT h1),oO (getLo h2),oO (getHi Qab.enc h2),bT h1,bT h1,rE Qab.enc h2,bT h1,bT h1,bF h3,rp 4 (bT h1),oO (getLo h2),oO (getHi Qab.enc h2),bT h1,bT h1,rE Qab.enc h2,bT h1,bT h1,bF h4,nL Qab.enc l,bT h6,hW 4,hH (.nilS 6 0 2)]
 ·cases h
  exact gr 21 [] [aZ Qab.enc h0,nL Qab.enc l,rp 4 (bT h1),oO (getLo h2),oO (getHi Qab.enc h2),bT h1,bT h1,rE Qab.enc h2,bT h1,bT h1,bF h3,rp 4 (bT h1),oO (getLo h2),oO (getHi Qab.enc h2),bT h1,bT h1,rE Qab.enc h2,bT h1,bT h1,bF h4,nL Qab.enc l,bF h6,oO (Eq.refl ([(Qab.mk t ticks)].map Qab.enc).length),aO Qab.enc h7,hW 2,hH (.frz 2),rp 2 (oO (Eq.refl ((l++[(Qab.mk t ticks)]).map Qab.enc).length))]
 ·cases h
  exact gr 19 [] [aZ Qab.enc h0,nL Qab.enc l,rp 8 (bF h1),fF,rp 8 (bF h1),fF,nL Qab.enc l,bT h8,hW 4,hH (.nilS 6 0 2)]
 ·cases h
  exact gr 21 [] [aZ Qab.enc h0,nL Qab.enc l,rp 8 (bF h1),fF,rp 8 (bF h1),fF,nL Qab.enc l,bF h8,oO (Eq.refl ([(Qab.mk t ticks)].map Qab.enc).length),aO Qab.enc h9,hW 2,hH (.frz 2),rp 2 (oO (Eq.refl ((l++[(Qab.mk t ticks)]).map Qab.enc).length))]
def Qd1 (Γ:Gam) (rv:Qac×Int) (cf:Cf):Prop:=Go Tryd.prog Tryd.f9 [] Γ (.tup [.agg [lL 1 rv.1.places e_str,lL 6 rv.1.arcs Qad.enc],.one (lI rv.2)]) [] cf
def Qe1 (Γ:Gam) (rv:Qac×Int) (n:Qac) (from_:Int) (to_:Int) (t:Int) (ticks:Int) (l:List Qad) (found:Bool) (v:Int):Prop:=Qd1 Γ rv ⟨[.c 500,.l 500,.b 1,.c 63],⟨88,[vI 1 from_,vI 2 to_,vI 3 t,vI 4 ticks,vP 10 0 2,vP 12 1 2,vB 13 found,vO 48 2 6 l Qad.enc,vI 49 (lenI n.arcs),vI 50 v],[oX 2 25 [.nils,.nils],oX 2 25 [lL 1 n.places e_str,lO 2 6 l Qad.enc],oS 6 38 l Qad.enc]⟩⟩
def QeG (Γ:Gam) (rv:Qac×Int) (n:Qac) (from_:Int) (to_:Int) (t:Int) (ticks:Int) (l1:List Qad) (found1:Bool):Prop:=Qd1 Γ rv ⟨[.c 63],⟨88,[vP 10 0 2,vP 12 1 2,vB 13 found1],[oX 2 25 [.nils,.nils],oX 2 25 [lL 1 n.places e_str,lO 2 6 l1 Qad.enc],oS 6 38 l1 Qad.enc]⟩⟩
theorem QeH (Γ:Gam) (rv:Qac×Int) {n from_ to_ t ticks}:∀ ⦃s:List Qad×Bool×Int⦄ ⦃e:(List Qad×Bool)⊕(Qac×Int)⦄,loopF (fun s=>QcK n from_ to_ t ticks s.1 s.2.1 s.2.2) s=some e→sel e (fun e=>QeG Γ rv n from_ to_ t ticks e.1 e.2) (fun e=>e=rv)→Qe1 Γ rv n from_ to_ t ticks s.1 s.2.1 s.2.2:=by
 refine Qbv ?_
 rintro ⟨l,found,v⟩ z_ h hI hE
 simp only [QcK,QaE,Qal,Qam] at h
 rcases h with ⟨h9,x0,h10,⟨h11,h⟩|⟨h11,r4,h12,⟨h13,h⟩|⟨h13,h⟩⟩⟩|⟨h9,h⟩
 ·exact gn 16 [1,2,3,4,10,12,13,48,49,50] [0,1,2] [bT h9,oO (getLo h10),oO (getHi Qad.enc h10),rE Qad.enc h10,rp 5 hP,rp 3 (oI ((neI x0.from_ from_)=false)),oR True ((neI x0.from_ from_)=false),bT h11] (hI h)
 ·obtain rfl:=(hE h:_=rv)
  exact gr 22 [] [bT h9,oO (getLo h10),oO (getHi Qad.enc h10),rE Qad.enc h10,rp 5 hP,rp 3 (oI ((neI x0.from_ from_)=false)),oR True ((neI x0.from_ from_)=false),bF h11,cC (Qd3 h12),bT h13,hW 6,hH (.nilB 0 0 1),hH (.nilB 0 1 6)]
 ·exact gn 27 [1,2,3,4,10,12,13,48,49,50] [0,1,2] [bT h9,oO (getLo h10),oO (getHi Qad.enc h10),rE Qad.enc h10,rp 5 hP,rp 3 (oI ((neI x0.from_ from_)=false)),oR True ((neI x0.from_ from_)=false),bF h11,cC (Qd3 h12),bF h13,oO (getLo h10),oO (getHi Qad.enc h10),rE Qad.enc h10,hH (.rows ((setI l v (Qad.mk x0.from_ x0.to_ x0.profile x0.miles x0.travel r4.1)).map Qad.enc)),hH (.relen 2 ((setI l v (Qad.mk x0.from_ x0.to_ x0.profile x0.miles x0.travel r4.1)).map Qad.enc).length),oO (setM Qad.enc l v (Qad.mk x0.from_ x0.to_ x0.profile x0.miles x0.travel r4.1)),rp 3 (oO (Qhk Qad.enc l v (Qad.mk x0.from_ x0.to_ x0.profile x0.miles x0.travel r4.1)))] (hI h)
 ·exact gn 5 [10,12,13] [0,1,2] [bF h9] (hE h)
theorem Qbz {n from_ to_ t ticks} {rv:Qac×Int} (h:QdA n from_ to_ t ticks=some rv):AFn Tryd.prog 9 [.agg (Qac.enc n),.one (lI from_),.one (lI to_),.one (lI t),.one (lI ticks)] [] (.tup [.agg [lL 1 rv.1.places e_str,lL 6 rv.1.arcs Qad.enc],.one (lI rv.2)]) []:=by
 refine QbK Tryd.func9 fun Γ=>?_
 simp only [QdA,QaE,Qal,Qam] at h
 rcases h with ⟨r,h0,⟨h1,r1,h2,⟨h3,r2,h4,⟨h5,r3,h6,⟨h7,h8,e0,h14,h⟩|⟨h7,h⟩⟩|⟨h5,h⟩⟩|⟨h3,h⟩⟩|⟨h1,h⟩⟩
 ·refine gn 21 [1,2,3,4,10,12,13,48,49,50] [1,3,2] [cC (Qaf h0),rp 3 (nF h1),cC (Qaf h2),nF h1,nF h1,nF h3,cC (QaC h4),nF h5,nF h5,cC (QaC h6),nF h5,nF h5,nF h7,hH (.draw 8 []),aZ Qad.enc h8,nL Qad.enc n.arcs] (QeH Γ rv h14 ?_)
  rcases e0 with ⟨l1,found1⟩|r5
  ·simp only [Qjs,QaE,Qal,Qam] at h
   rcases h with ⟨h15,h⟩|⟨h15,h⟩
   ·cases h
    exact gr 7 [] [nF h15,hW 6,hH (.frz 2),rp 3 (eL l1 Qad.enc)]
   ·cases h
    exact gr 6 [] [nT h15,hW 5,hH (.nilB 0 0 1),hH (.nilB 0 1 6)]
  ·exact oK h
 ·cases h
  exact gr 12 [] [cC (Qaf h0),rp 3 (nF h1),cC (Qaf h2),nF h1,nF h1,nF h3,cC (QaC h4),nF h5,nF h5,cC (QaC h6),nF h5,nF h5,nT h7,hW 5,hH (.nilB 1 0 1),hH (.nilB 1 1 6)]
 ·cases h
  exact gr 12 [] [cC (Qaf h0),rp 3 (nF h1),cC (Qaf h2),nF h1,nF h1,nF h3,cC (QaC h4),rp 4 (nT h5),tT,hW 5,hH (.nilB 1 0 1),hH (.nilB 1 1 6)]
 ·cases h
  exact gr 9 [] [cC (Qaf h0),rp 3 (nF h1),cC (Qaf h2),nF h1,nF h1,nT h3,hW 5,hH (.nilB 1 0 1),hH (.nilB 1 1 6)]
 ·cases h
  exact gr 9 [] [cC (Qaf h0),rp 5 (nT h1),tT,hW 5,hH (.nilB 1 0 1),hH (.nilB 1 1 6)]
theorem Qbg {a} {rv:Qae} (h:Qbw a=some rv):AFn Tryd.prog 18 [.agg (Qad.enc a)] [] (gG [lI rv.from_,lI rv.to_,lI rv.profile]) []:=by
 refine QbK Tryd.func18 fun Γ=>?_
 simp only [Qbw,QaE,Qal,Qam] at h
 cases h
 exact gr 4 [] []
def Qe0 (Γ:Gam) (rv:Qad×Bool) (cf:Cf):Prop:=Go Tryd.prog Tryd.f25 [] Γ (.tup [.agg [lI rv.1.from_,lI rv.1.to_,lI rv.1.profile,lI rv.1.miles,lL 2 rv.1.travel Qab.enc,lL 2 rv.1.slow Qab.enc],.one (.bool rv.2)]) [] cf
def Qfw (Γ:Gam) (rv:Qad×Bool) (n:Qac) (profile:Int) (from_:Int) (to_:Int) (v:Int):Prop:=Qe0 Γ rv ⟨[.c 116,.l 116,.b 0,.c 15],⟨31,[vP 8 0 6,vP 10 1 3,vL 18 6 n.arcs Qad.enc,vI 19 (lenI n.arcs),vI 20 v],[oX 6 38 [lI 0,lI 0,lI 0,lI 0,.nils,.nils],oX 3 54 [lI from_,lI to_,lI profile]]⟩⟩
def Qff (Γ:Gam) (rv:Qad×Bool) (n:Qac) (profile:Int) (from_:Int) (to_:Int):Prop:=Qe0 Γ rv ⟨[.c 15],⟨31,[vP 8 0 6],[oX 6 38 [lI 0,lI 0,lI 0,lI 0,.nils,.nils]]⟩⟩
theorem Qfg (Γ:Gam) (rv:Qad×Bool) {n profile from_ to_}:∀ ⦃s:Int⦄ ⦃e:(Unit)⊕(Qad×Bool)⦄,loopF (fun s=>Qda n profile from_ to_ s) s=some e→sel e (fun e=>Qff Γ rv n profile from_ to_) (fun e=>e=rv)→Qfw Γ rv n profile from_ to_ s:=by
 refine Qbv ?_
 intro v z_ h hI hE
 simp only [Qda,QaE,Qal,Qam] at h
 rcases h with ⟨h0,x0,h1,r,h2,⟨h3,h⟩|⟨h3,h⟩⟩|⟨h0,h⟩
 ·obtain rfl:=(hE h:_=rv)
  exact gr 14 [] [bT h0,cE Qad.enc h1,hH (.draw 4 []),cC (Qbg h2),bT h3]
 ·exact gn 16 [8,10,18,19,20] [0,1] [bT h0,cE Qad.enc h1,hH (.draw 4 []),cC (Qbg h2),bF h3] (hI h)
 ·exact gn 5 [8] [0] [bF h0] (hE h)
theorem Qex {n profile from_ to_} {rv:Qad×Bool} (h:QeF n profile from_ to_=some rv):AFn Tryd.prog 25 [.agg (Qac.enc n),.one (lI profile),.one (lI from_),.one (lI to_)] [] (.tup [.agg [lI rv.1.from_,lI rv.1.to_,lI rv.1.profile,lI rv.1.miles,lL 2 rv.1.travel Qab.enc,lL 2 rv.1.slow Qab.enc],.one (.bool rv.2)]) []:=by
 refine QbK Tryd.func25 fun Γ=>?_
 simp only [QeF,QaE,Qal,Qam] at h
 obtain ⟨e0,h4,h⟩:=h
 refine gn 9 [8,10,18,19,20] [1,2] [nL Qad.enc n.arcs] (Qfg Γ rv h4 ?_)
 rcases e0 with e0|r1
 ·cases h
  exact gr 2 [] [hW 5,hH (.nilB 0 4 2),hH (.nilB 0 5 2)]
 ·exact oK h
theorem QbN {n least most} {rv:Bool} (h:QcE n least most=some rv):AFn Tryd.prog 38 [.one (lI n),.one (lI least),.one (lI most)] [] (one (.bool rv)) []:=by
 refine QbK Tryd.func38 fun Γ=>?_
 simp only [QcE,QaE,Qal,Qam] at h
 cases h
 exact gr 4 [] [rp 4 hP,rp 2 (oI ((geI n least)=true)),oR True ((geI n least)=true)]
def QcP (Γ:Gam) (rv:List Qaa) (cf:Cf):Prop:=Go Tryd.prog Tryd.f30 [] Γ (one (lL 2 rv Qaa.enc)) [] cf
def QdO (Γ:Gam) (rv:List Qaa) (l:List Qab) (l2:List Qaa) (v:Int):Prop:=QcP Γ rv ⟨[.c 244,.l 244,.b 0,.c 31],⟨83,[vL 0 2 l Qab.enc,vO 3 0 2 l2 Qaa.enc,vL 19 2 l Qab.enc,vI 20 (lenI l),vI 21 v],[oS 2 31 l2 Qaa.enc]⟩⟩
def Qdt (Γ:Gam) (rv:List Qaa) (l:List Qab) (l4:List Qaa):Prop:=QcP Γ rv ⟨[.c 31],⟨83,[vO 3 0 2 l4 Qaa.enc],[oS 2 31 l4 Qaa.enc]⟩⟩
theorem Qds (Γ:Gam) (rv:List Qaa) {l v x0 r l3} {x:(List Qaa×Int)⊕(List Qaa)} (h:QbE l v x0 r l3=some x) (hI:∀ ⦃s:List Qaa×Int⦄,some (.inl s)=some x→QdO Γ rv l s.1 s.2) (hE:∀ ⦃e:List Qaa⦄,some (.inr e)=some x→Qdt Γ rv l e):QcP Γ rv ⟨[.c 31335,.b 1,.c 1959,.l 244,.b 0,.c 31],⟨83,[vL 0 2 l Qab.enc,vO 3 0 2 l3 Qaa.enc,vI 4 v,vP 5 1 2,vS 6 r,vL 19 2 l Qab.enc,vI 20 (lenI l),vI 21 v],[oS 2 31 l3 Qaa.enc,oX 2 66 (Qab.enc x0)]⟩⟩:=by
 simp only [QbE,QaE,Qal,Qam] at h
 rcases h with ⟨h8,x1,h9,⟨h10,h11,h⟩|⟨h10,⟨h12,h13,h⟩|⟨h12,h⟩⟩⟩|⟨h8,h⟩
 ·exact gn 7 [0,3,19,20,21] [3] [hH (.draw 24 []),rp 6 (bT h8),cE Qab.enc h9,rp 4 (bT h8),rp 9 (bT h10),bT h8,bT h10,bT h8,tT,oO (Eq.refl ([(Qaa.mk 13 r)].map Qaa.enc).length),aO Qaa.enc h11] (hI h)
 ·exact gn 7 [0,3,19,20,21] [3] [hH (.draw 24 []),rp 6 (bT h8),cE Qab.enc h9,rp 4 (bT h8),rp 6 (bF h10),cE Qab.enc h9,rp 3 (bF h10),bT h8,bF h10,bT h8,bT h12,oO (Eq.refl ([(Qaa.mk 13 r)].map Qaa.enc).length),aO Qaa.enc h13] (hI h)
 ·exact gn 7 [0,3,19,20,21] [0] [hH (.draw 24 []),rp 6 (bT h8),cE Qab.enc h9,rp 4 (bT h8),rp 6 (bF h10),cE Qab.enc h9,rp 3 (bF h10),bT h8,bF h10,bT h8,bF h12] (hI h)
 ·exact gn 7 [0,3,19,20,21] [0] [hH (.draw 24 []),rp 10 (bF h8),rp 9 kF,bF h8,bF h8,fF] (hI h)
theorem Qfq (Γ:Gam) (rv:List Qaa) {l}:∀ ⦃s:List Qaa×Int⦄ ⦃e:List Qaa⦄,loopF (fun s=>QbF l s.1 s.2) s=some e→Qdt Γ rv l e→QdO Γ rv l s.1 s.2:=by
 refine Qbv ?_
 rintro ⟨l2,v⟩ z_ h hI hE
 simp only [QbF,QaE,Qal,Qam] at h
 rcases h with ⟨h2,x0,h3,r,h4,r1,h5,⟨h6,h7,h⟩|⟨h6,h⟩⟩|⟨h2,h⟩
 ·exact gn 16 [0,3,4,5,6,19,20,21] [3,1] [bT h2,cE Qab.enc h3,cC (QiR h4),cC (QbN h5),rp 13 hP,rp 4 (oI ((!r1)=false)),oR True ((!r1)=false),rp 5 (oI (((!r1)||(ltI x0.a x0.t))=false)),oR True (((!r1)||(ltI x0.a x0.t))=false),bT h6,oO (Eq.refl ([(Qaa.mk 2 r)].map Qaa.enc).length),aO Qaa.enc h7] (Qds Γ rv h hI hE)
 ·exact gn 16 [0,3,4,5,6,19,20,21] [0,1] [bT h2,cE Qab.enc h3,cC (QiR h4),cC (QbN h5),rp 13 hP,rp 4 (oI ((!r1)=false)),oR True ((!r1)=false),rp 5 (oI (((!r1)||(ltI x0.a x0.t))=false)),oR True (((!r1)||(ltI x0.a x0.t))=false),bF h6] (Qds Γ rv h hI hE)
 ·exact gn 5 [3] [0] [bF h2] (hE h)
theorem Qdr (Γ:Gam) (rv:List Qaa) {l l1} (h:QbD l l1=some rv):QcP Γ rv ⟨[.c 15],⟨83,[vL 0 2 l Qab.enc,vO 3 0 2 l1 Qaa.enc],[oS 2 31 l1 Qaa.enc]⟩⟩:=by
 simp only [QbD,QaE,Qal,Qam] at h
 obtain ⟨l4,h14,h⟩:=h
 refine gn 5 [0,3,19,20,21] [0] [nL Qab.enc l] (Qfq Γ rv h14 ?_)
 obtain rfl:=oK h
 exact gr 2 [] [hW 4,hH (.frz 0),rp 3 (eL l4 Qaa.enc)]
theorem Qdb {l} {rv:List Qaa} (h:Qbh l=some rv):AFn Tryd.prog 30 [.one (lL 2 l Qab.enc)] [] (one (lL 2 rv Qaa.enc)) []:=by
 refine QbK Tryd.func30 fun Γ=>?_
 simp only [Qbh,QaE,Qal,Qam] at h
 rcases h with ⟨h0,h1,h⟩|⟨h0,h⟩
 ·exact gn 9 [0,3] [1] [nL Qab.enc l,hP,hP,oI ((eqI (lenI l) 0)=false),nL Qab.enc l,hP,hP,oI ((eqI (lenI l) 0)=false),oR True ((eqI (lenI l) 0)=false),bT h0,oO (Eq.refl ([(Qaa.mk 4 ByteArray.empty)].map Qaa.enc).length),aN (l:=([(Qaa.mk 4 ByteArray.empty)]:List Qaa)) Qaa.enc h1] (Qdr Γ rv h)
 ·exact gn 9 [0,3] [0] [nL Qab.enc l,hP,hP,oI ((eqI (lenI l) 0)=false),nL Qab.enc l,hP,hP,oI ((eqI (lenI l) 0)=false),oR True ((eqI (lenI l) 0)=false),bF h0,hW 1,hH (.adopt 3 2 31)] (Qdr Γ rv h)
theorem QeA {l} {rv:Bool} (h:QeO l=some rv):AFn Tryd.prog 41 [.one (lL 2 l Qab.enc)] [] (one (.bool rv)) []:=by
 refine QbK Tryd.func41 fun Γ=>?_
 simp only [QeO,QaE,Qal,Qam] at h
 obtain ⟨r,h0,h⟩:=h
 cases h
 exact gr 4 [] [cC (Qdb h0),nL Qaa.enc r]
theorem Qcr {p t} {rv:Int} (h:Qcu p t=some rv):AFn Tryd.prog 45 [.agg (Qab.enc p),.one (lI t)] [] (one (lI rv)) []:=by
 refine QbK Tryd.func45 fun Γ=>?_
 simp only [Qcu,QaE,Qal,Qam] at h
 cases h
 exact gr 4 [] []
def QaD (Γ:Gam) (rv:Int×Bool) (cf:Cf):Prop:=Go Tryd.prog Tryd.f44 [] Γ (.tup [.one (lI rv.1),.one (.bool rv.2)]) [] cf
def Qa4 (Γ:Gam) (rv:Int×Bool) (x0:List Qab) (target:Int) (i:Int) (j:Int):Prop:=QaD Γ rv ⟨[.c 120,.l 120,.b 0,.c 31],⟨49,[vL 0 2 x0 Qab.enc,vI 1 target,(2,one (.fn (.func 45) [])),vI 8 (lenI x0),vI 9 i,vI 10 j],[]⟩⟩
def QaW (Γ:Gam) (rv:Int×Bool) (x0:List Qab) (target:Int) (i1:Int):Prop:=QaD Γ rv ⟨[.c 31],⟨49,[vL 0 2 x0 Qab.enc,vI 1 target,(2,one (.fn (.func 45) [])),vI 8 (lenI x0),vI 9 i1],[]⟩⟩
theorem QaX (Γ:Gam) (rv:Int×Bool) {x0 target}:∀ ⦃s:Int×Int⦄ ⦃e:Int⦄,loopF (fun s=>Qar x0 target s.1 s.2) s=some e→QaW Γ rv x0 target e→Qa4 Γ rv x0 target s.1 s.2:=by
 refine Qbv ?_
 rintro ⟨i,j⟩ z_ h hI hE
 simp only [Qar,QaE,Qal,Qam] at h
 rcases h with ⟨h0,x1,h1,r,h2,⟨h3,h⟩|⟨h3,h⟩⟩|⟨h0,h⟩
 ·exact gn 14 [0,1,2,8,9,10] [] [bT h0,oO (zL 1),cE Qab.enc h1,cC (Qcr h2),bT h3] (hI h)
 ·exact gn 14 [0,1,2,8,9,10] [] [bT h0,oO (zL 1),cE Qab.enc h1,cC (Qcr h2),bF h3] (hI h)
 ·exact gn 5 [0,1,2,8,9] [] [bF h0] (hE h)
theorem Qak {x0 target} {rv:Int×Bool} (h:Qau x0 target=some rv):AFn Tryd.prog 44 [.one (lL 2 x0 Qab.enc),.one (lI target),.one (.fn (.func 45) [])] [] (.tup [.one (lI rv.1),.one (.bool rv.2)]) []:=by
 refine QbK Tryd.func44 fun Γ=>?_
 simp only [Qau,QaE,Qal,Qam] at h
 obtain ⟨i1,h4,h⟩:=h
 refine gn 9 [0,1,2,8,9,10] [] [nL Qab.enc x0] (QaX Γ rv h4 ?_)
 rcases h with ⟨h5,x2,h6,r1,h7,h⟩|⟨h5,h⟩
 ·cases h
  exact gr 2 [] [rp 4 (bT h5),cE Qab.enc h6,rp 3 (bT h5),cC (Qcr h7),bT h5,bT h5]
 ·cases h
  exact gr 2 [] [rp 9 (bF h5)]
theorem Qgd {l t} {rv:Int} (h:Qea l t=some rv):AFn Tryd.prog 42 [.one (lL 2 l Qab.enc),.one (lI t)] [] (one (lI rv)) []:=by
 refine QbK Tryd.func42 fun Γ=>?_
 simp only [Qea,QaE,Qal,Qam] at h
 rcases h with ⟨r,h0,⟨h1,x0,h2,h⟩|⟨h1,⟨h3,x1,h4,h⟩|⟨h3,⟨h5,x2,h6,h⟩|⟨h5,x3,h7,x4,h8,h9,h⟩⟩⟩⟩
 ·cases h
  exact gr 11 [] [cC (Qak h0),bT h1,cE Qab.enc h2]
 ·cases h
  exact gr 14 [] [cC (Qak h0),bF h1,bT h3,hH (.draw 12 []),rp 2 (cE Qab.enc h4)]
 ·cases h
  exact gr 17 [] [cC (Qak h0),bF h1,bF h3,nL Qab.enc l,bT h5,hH (.draw 16 []),rp 2 (cE Qab.enc h6)]
 ·cases h
  exact gr 23 [] [cC (Qak h0),bF h1,bF h3,nL Qab.enc l,bF h5,hH (.draw 13 [(0,11),(1,12)]),cE Qab.enc h7,cE Qab.enc h8,hH (.draw 19 []),oO (h9)]
theorem Qgc {l t} {rv:Int} (h:Qd9 l t=some rv):AFn Tryd.prog 36 [.one (lL 2 l Qab.enc),.one (lI t)] [] (one (lI rv)) []:=by
 refine QbK Tryd.func36 fun Γ=>?_
 simp only [Qd9,QaE,Qal,Qam] at h
 rcases h with ⟨r,h0,⟨h1,r1,h2,⟨h3,r2,h4,h⟩|⟨h3,h⟩⟩|⟨h1,h⟩⟩
 ·obtain rfl:=oK h
  exact gr 9 [] [cC (QbN h0),nF h1,nF h1,cC (QeA h2),nF h1,nF h1,nF h3,cC (Qgd h4)]
 ·obtain rfl:=oK h
  exact gr 8 [] [cC (QbN h0),nF h1,nF h1,cC (QeA h2),nF h1,nF h1,nT h3]
 ·obtain rfl:=oK h
  exact gr 8 [] [cC (QbN h0),rp 4 (nT h1),tT]
def QdM (Γ:Gam) (rv:Int) (cf:Cf):Prop:=Go Tryd.prog Tryd.f26 [] Γ (one (lI rv)) [] cf
def QeI (Γ:Gam) (rv:Int) (a:Qad) (t:Int) (out:Int) (v:Int):Prop:=QdM Γ rv ⟨[.c 116,.l 116,.b 0,.c 15],⟨29,[vI 1 t,vI 5 out,vL 13 2 a.slow Qab.enc,vI 14 (lenI a.slow),vI 15 v],[]⟩⟩
def Qet (Γ:Gam) (rv:Int) (a:Qad) (t:Int) (out1:Int):Prop:=QdM Γ rv ⟨[.c 15],⟨29,[vI 5 out1],[]⟩⟩
theorem Qeu (Γ:Gam) (rv:Int) {a t}:∀ ⦃s:Int×Int⦄ ⦃e:Int⦄,loopF (fun s=>Qcn a t s.1 s.2) s=some e→Qet Γ rv a t e→QeI Γ rv a t s.1 s.2:=by
 refine Qbv ?_
 rintro ⟨out,v⟩ z_ h hI hE
 simp only [Qcn,QaE,Qal,Qam] at h
 rcases h with ⟨h1,x0,h2,⟨h3,h⟩|⟨h3,h⟩⟩|⟨h1,h⟩
 ·exact gn 16 [1,5,13,14,15] [] [bT h1,cE Qab.enc h2,bT h3] (hI h)
 ·exact gn 16 [1,5,13,14,15] [] [bT h1,cE Qab.enc h2,bF h3] (hI h)
 ·exact gn 5 [5] [] [bF h1] (hE h)
theorem QbS {a t} {rv:Int} (h:Qcs a t=some rv):AFn Tryd.prog 26 [.agg (Qad.enc a),.one (lI t)] [] (one (lI rv)) []:=by
 refine QbK Tryd.func26 fun Γ=>?_
 simp only [Qcs,QaE,Qal,Qam] at h
 obtain ⟨r,h0,out1,h4,h⟩:=h
 refine gn 9 [1,5,13,14,15] [] [cC (Qgc h0),nL Qab.enc a.slow] (Qeu Γ rv h4 ?_)
 obtain rfl:=oK h
 exact gr 2 [] []
theorem QaO {n profile from_ to_ t} {rv:Int×Int×Int} (h:Qd0 n profile from_ to_ t=some rv):AFn Tryd.prog 11 [.agg (Qac.enc n),.one (lI profile),.one (lI from_),.one (lI to_),.one (lI t)] [] (.tup [.one (lI rv.1),.one (lI rv.2.1),.one (lI rv.2.2)]) []:=by
 refine QbK Tryd.func11 fun Γ=>?_
 simp only [Qd0,QaE,Qal,Qam] at h
 rcases h with ⟨r,h0,⟨h1,r1,h2,⟨h3,⟨h4,h⟩|⟨h4,r2,h5,⟨h6,r3,h7,h⟩|⟨h6,h⟩⟩⟩|⟨h3,h⟩⟩|⟨h1,h⟩⟩
 ·cases h
  exact gr 13 [] [cC (Qaf h0),rp 3 (nF h1),cC (Qaf h2),nF h1,nF h1,nF h3,bT h4]
 ·cases h
  exact gr 21 [] [cC (Qaf h0),rp 3 (nF h1),cC (Qaf h2),nF h1,nF h1,nF h3,bF h4,cC (Qex h5),nF h6,hH (.draw 8 []),cC (QbS h7)]
 ·cases h
  exact gr 20 [] [cC (Qaf h0),rp 3 (nF h1),cC (Qaf h2),nF h1,nF h1,nF h3,bF h4,cC (Qex h5),nT h6]
 ·cases h
  exact gr 8 [] [cC (Qaf h0),rp 3 (nF h1),cC (Qaf h2),nF h1,nF h1,nT h3]
 ·cases h
  exact gr 8 [] [cC (Qaf h0),rp 5 (nT h1),tT]
theorem Qbe {rv:Qac} (h:QcI=some rv):AFn Tryd.prog 12 [] [] (gG [lL 1 rv.places e_str,lL 6 rv.arcs Qad.enc]) []:=by
 refine QbK Tryd.func12 fun Γ=>?_
 simp only [QcI,QaE,Qal,Qam] at h
 cases h
 exact gr 8 [] [hW 20,hH (.frz 3),hH (.nilS 6 5 2),hH (.frz 4),hH (.nilS 9 5 2),hH (.frz 5),hH (.nilS 12 5 2),hW 7,hH (.frz 1),hH (.frz 6),rp 2 (oO (Eq.refl ([(Qab.mk 0 10)].map Qab.enc).length)),rp 2 (oO (Eq.refl ([(Qab.mk 0 5)].map Qab.enc).length)),rp 2 (oO (Eq.refl ([(Qab.mk 0 20)].map Qab.enc).length)),rp 5 (oO (Eq.refl ([Qjn,Qjo,Qjp].map e_str).length)),rp 4 (oO (Eq.refl ([(Qad.mk 0 1 0 0 [(Qab.mk 0 10)] []),(Qad.mk 1 2 0 0 [(Qab.mk 0 5)] []),(Qad.mk 0 2 0 9 [(Qab.mk 0 20)] [])].map Qad.enc).length))]
def QdF (Γ:Gam) (rv:Bool) (cf:Cf):Prop:=Go Tryd.prog Tryd.f13 [] Γ (one (.bool rv)) [] cf
def QeD (Γ:Gam) (rv:Bool) (a:List Int) (b:List Int) (v:Int):Prop:=QdF Γ rv ⟨[.c 116,.l 116,.b 0,.c 15],⟨26,[vL 0 1 a e_i64,vL 1 1 b e_i64,vI 12 (lenI a),vI 13 v],[]⟩⟩
def Qel (Γ:Gam) (rv:Bool) (a:List Int) (b:List Int):Prop:=QdF Γ rv ⟨[.c 15],⟨26,[],[]⟩⟩
theorem Qem (Γ:Gam) (rv:Bool) {a b}:∀ ⦃s:Int⦄ ⦃e:(Unit)⊕(Bool)⦄,loopF (fun s=>Qch a b s) s=some e→sel e (fun e=>Qel Γ rv a b) (fun e=>e=rv)→QeD Γ rv a b s:=by
 refine Qbv ?_
 intro v z_ h hI hE
 simp only [Qch,QaE,Qal,Qam] at h
 rcases h with ⟨h1,x0,h2,x1,h3,⟨h4,h⟩|⟨h4,h⟩⟩|⟨h1,h⟩
 ·obtain rfl:=(hE h:_=rv)
  exact gr 14 [] [bT h1,hH (.draw 9 []),cE e_i64 h2,cE e_i64 h3,bT h4]
 ·exact gn 16 [0,1,12,13] [] [bT h1,hH (.draw 9 []),cE e_i64 h2,cE e_i64 h3,bF h4] (hI h)
 ·exact gn 5 [] [] [bF h1] (hE h)
theorem QaJ {a b} {rv:Bool} (h:QbB a b=some rv):AFn Tryd.prog 13 [.one (lL 1 a e_i64),.one (lL 1 b e_i64)] [] (one (.bool rv)) []:=by
 refine QbK Tryd.func13 fun Γ=>?_
 simp only [QbB,QaE,Qal,Qam] at h
 rcases h with ⟨h0,h⟩|⟨h0,e0,h5,h⟩
 ·obtain rfl:=oK h
  exact gr 8 [] [nL e_i64 a,nL e_i64 b,bT h0]
 ·refine gn 12 [0,1,12,13] [] [nL e_i64 a,nL e_i64 b,bF h0,nL e_i64 a] (Qem Γ rv h5 ?_)
  rcases e0 with e0|r
  ·obtain rfl:=oK h
   exact gr 2 [] []
  ·exact oK h
def Qbd (Γ:Gam) (rv:List Int) (cf:Cf):Prop:=Go Tryd.prog Tryd.f14 [] Γ (one (lL 1 rv e_i64)) [] cf
def Qeq (Γ:Gam) (rv:List Int) (n:Qac) (profile:Int) (from_:Int) (t:Int) (l:List Int) (l1:List Int) (v:Int):Prop:=Qbd Γ rv ⟨[.c 116,.l 116,.b 0,.c 15],⟨100,[vI 1 profile,vI 2 from_,vI 3 t,vP 4 0 2,vO 9 1 1 l1 e_i64,vI 20 (lenI l),vI 21 v],[oX 2 25 (Qac.enc n),oS 1 3 l1 e_i64]⟩⟩
def QdU (Γ:Gam) (rv:List Int) (n:Qac) (profile:Int) (from_:Int) (t:Int) (l:List Int) (l2:List Int):Prop:=Qbd Γ rv ⟨[.c 15],⟨100,[vI 1 profile,vI 2 from_,vI 3 t,vP 4 0 2,vO 9 1 1 l2 e_i64],[oX 2 25 (Qac.enc n),oS 1 3 l2 e_i64]⟩⟩
def Qes (Γ:Gam) (rv:List Int) (n:Qac) (profile:Int) (from_:Int) (l:List Int) (l4:List Int) (better1:Bool) (v1:Int):Prop:=Qbd Γ rv ⟨[.c 64812,.l 64812,.b 4,.b 3,.l 1012,.b 2,.c 127],⟨100,[vI 1 profile,vP 4 0 2,vO 9 1 1 l4 e_i64,vB 11 better1,vL 39 6 n.arcs Qad.enc,vI 40 (lenI n.arcs),vI 41 v1],[oX 2 25 (Qac.enc n),oS 1 3 l4 e_i64]⟩⟩
def QdY (Γ:Gam) (rv:List Int) (n:Qac) (profile:Int) (from_:Int) (l:List Int) (l5:List Int) (better2:Bool):Prop:=Qbd Γ rv ⟨[.b 3,.l 1012,.b 2,.c 127],⟨100,[vI 1 profile,vP 4 0 2,vO 9 1 1 l5 e_i64,vB 11 better2],[oX 2 25 (Qac.enc n),oS 1 3 l5 e_i64]⟩⟩
def Qer (Γ:Gam) (rv:List Int) (n:Qac) (profile:Int) (from_:Int) (l:List Int) (l3:List Int) (better:Bool):Prop:=Qbd Γ rv ⟨[.c 1012,.l 1012,.b 2,.c 127],⟨100,[vI 1 profile,vP 4 0 2,vO 9 1 1 l3 e_i64,vB 11 better],[oX 2 25 (Qac.enc n),oS 1 3 l3 e_i64]⟩⟩
def QdW (Γ:Gam) (rv:List Int) (n:Qac) (profile:Int) (from_:Int) (l:List Int) (l6:List Int):Prop:=Qbd Γ rv ⟨[.c 127],⟨100,[vO 9 0 1 l6 e_i64],[oS 1 3 l6 e_i64]⟩⟩
theorem QdV (Γ:Gam) (rv:List Int) {n profile from_ t l}:∀ ⦃s:List Int×Int⦄ ⦃e:List Int⦄,loopF (fun s=>Qb9 n profile from_ t l s.1 s.2) s=some e→QdU Γ rv n profile from_ t l e→Qeq Γ rv n profile from_ t l s.1 s.2:=by
 refine Qbv ?_
 rintro ⟨l1,v⟩ z_ h hI hE
 simp only [Qb9,QaE,Qal,Qam] at h
 rcases h with ⟨h1,x0,h2,h⟩|⟨h1,h⟩
 ·exact gn 13 [1,2,3,4,9,20,21] [0,1] [bT h1,oO (getLo h2),oO (getHi e_i64 h2),rE e_i64 h2,hH (.rows ((setI l1 v (-1)).map e_i64)),hH (.relen 1 ((setI l1 v (-1)).map e_i64).length),oO (setM e_i64 l1 v (-1)),rp 2 (oO (Qhk e_i64 l1 v (-1)))] (hI h)
 ·exact gn 5 [1,2,3,4,9] [0,1] [bF h1] (hE h)
theorem QdZ (Γ:Gam) (rv:List Int) {n profile from_ l}:∀ ⦃s:List Int×Bool×Int⦄ ⦃e:List Int×Bool⦄,loopF (fun s=>Qcb n profile from_ l s.1 s.2.1 s.2.2) s=some e→QdY Γ rv n profile from_ l e.1 e.2→Qes Γ rv n profile from_ l s.1 s.2.1 s.2.2:=by
 refine Qbv ?_
 rintro ⟨l4,better1,v1⟩ z_ h hI hE
 simp only [Qcb,QaE,Qal,Qam] at h
 rcases h with ⟨h8,x2,h9,⟨h10,h⟩|⟨h10,r1,h11,⟨h12,r2,h13,⟨h14,x3,h15,⟨h16,h⟩|⟨h16,r3,h17,x4,h18,⟨h19,h⟩|⟨h19,⟨h20,h⟩|⟨h20,h⟩⟩⟩⟩|⟨h14,h⟩⟩|⟨h12,h⟩⟩⟩|⟨h8,h⟩
 ·exact gn 16 [1,4,9,11,39,40,41] [0,1] [bT h8,cE Qad.enc h9,rp 6 (bT h10),rp 14 tT] (hI h)
 ·exact gn 16 [1,4,9,11,39,40,41] [0,1] [bT h8,cE Qad.enc h9,rp 4 (bF h10),cC (Qaf h11),rp 2 (bF h10),rp 4 (nF h12),cC (Qaf h13),rp 2 (nF h12),rp 4 (nF h14),oO (getLo h15),oO (getHi e_i64 h15),nF h14,rE e_i64 h15,rp 2 (nF h14),bT h16] (hI h)
 ·exact gn 25 [1,4,9,11,39,40,41] [0,1] [bT h8,cE Qad.enc h9,rp 4 (bF h10),cC (Qaf h11),rp 2 (bF h10),rp 4 (nF h12),cC (Qaf h13),rp 2 (nF h12),rp 4 (nF h14),oO (getLo h15),oO (getHi e_i64 h15),nF h14,rE e_i64 h15,rp 2 (nF h14),bF h16,hH (.draw 8 []),oO (getLo h15),oO (getHi e_i64 h15),rE e_i64 h15,cC (QbS h17),oO (getLo h18),oO (getHi e_i64 h18),rE e_i64 h18,rp 8 (bT h19),tT,oO (getLo h18),oO (getHi e_i64 h18),rE e_i64 h18,hH (.rows ((setI l4 x2.to_ r3).map e_i64)),hH (.relen 1 ((setI l4 x2.to_ r3).map e_i64).length),oO (setM e_i64 l4 x2.to_ r3),rp 5 (oO (Qhk e_i64 l4 x2.to_ r3))] (hI h)
 ·exact gn 25 [1,4,9,11,39,40,41] [0,1] [bT h8,cE Qad.enc h9,rp 4 (bF h10),cC (Qaf h11),rp 2 (bF h10),rp 4 (nF h12),cC (Qaf h13),rp 2 (nF h12),rp 4 (nF h14),oO (getLo h15),oO (getHi e_i64 h15),nF h14,rE e_i64 h15,rp 2 (nF h14),bF h16,hH (.draw 8 []),oO (getLo h15),oO (getHi e_i64 h15),rE e_i64 h15,cC (QbS h17),oO (getLo h18),oO (getHi e_i64 h18),rE e_i64 h18,rp 5 (bF h19),oO (getLo h18),oO (getHi e_i64 h18),bF h19,rE e_i64 h18,rp 2 (bF h19),bT h20,oO (getLo h18),oO (getHi e_i64 h18),rE e_i64 h18,hH (.rows ((setI l4 x2.to_ r3).map e_i64)),hH (.relen 1 ((setI l4 x2.to_ r3).map e_i64).length),oO (setM e_i64 l4 x2.to_ r3),rp 6 (oO (Qhk e_i64 l4 x2.to_ r3))] (hI h)
 ·exact gn 23 [1,4,9,11,39,40,41] [0,1] [bT h8,cE Qad.enc h9,rp 4 (bF h10),cC (Qaf h11),rp 2 (bF h10),rp 4 (nF h12),cC (Qaf h13),rp 2 (nF h12),rp 4 (nF h14),oO (getLo h15),oO (getHi e_i64 h15),nF h14,rE e_i64 h15,rp 2 (nF h14),bF h16,hH (.draw 8 []),oO (getLo h15),oO (getHi e_i64 h15),rE e_i64 h15,cC (QbS h17),oO (getLo h18),oO (getHi e_i64 h18),rE e_i64 h18,rp 5 (bF h19),oO (getLo h18),oO (getHi e_i64 h18),bF h19,rE e_i64 h18,rp 2 (bF h19),bF h20] (hI h)
 ·exact gn 16 [1,4,9,11,39,40,41] [0,1] [bT h8,cE Qad.enc h9,rp 4 (bF h10),cC (Qaf h11),rp 2 (bF h10),rp 4 (nF h12),cC (Qaf h13),rp 2 (nF h12),rp 7 (nT h14),tT] (hI h)
 ·exact gn 16 [1,4,9,11,39,40,41] [0,1] [bT h8,cE Qad.enc h9,rp 4 (bF h10),cC (Qaf h11),rp 2 (bF h10),rp 6 (nT h12),rp 8 tT] (hI h)
 ·exact gn 5 [1,4,9,11] [0,1] [bF h8] (hE h)
theorem QdX (Γ:Gam) (rv:List Int) {n profile from_ l}:∀ ⦃s:List Int×Bool⦄ ⦃e:List Int⦄,loopF (fun s=>Qca n profile from_ l s.1 s.2) s=some e→QdW Γ rv n profile from_ l e→Qer Γ rv n profile from_ l s.1 s.2:=by
 refine Qbv ?_
 rintro ⟨l3,better⟩ z_ h hI hE
 simp only [Qca,QaE,Qal,Qam] at h
 rcases h with ⟨h7,⟨l5,better2⟩,h21,h⟩|⟨h7,h⟩
 ·refine gn 12 [1,4,9,11,39,40,41] [0,1] [bT h7,nL Qad.enc n.arcs] (QdZ Γ rv h21 ?_)
  exact gn 2 [1,4,9,11] [0,1] [] (hI h)
 ·exact gn 5 [9] [1] [bF h7] (hE h)
theorem QaF {n profile from_ t} {rv:List Int} (h:Qbt n profile from_ t=some rv):AFn Tryd.prog 14 [.agg (Qac.enc n),.one (lI profile),.one (lI from_),.one (lI t)] [] (one (lL 1 rv e_i64)) []:=by
 refine QbK Tryd.func14 fun Γ=>?_
 simp only [Qbt,QaE,Qal,Qam] at h
 obtain ⟨l,h0,l2,h3,h⟩:=h
 refine gn 9 [1,2,3,4,9,20,21] [0,1] [nL e_str n.places,hH (.cells [lI 0]),hH (.rows (l.map e_i64)),oO (mk1 h0),oO (mk2 h0),oO (mk3 h0),oO (mk4 h0),oO (mk5 e_i64 h0),nL e_i64 l] (QdV Γ rv h3 ?_)
 rcases h with ⟨r,h4,⟨h5,x1,h6,l6,h22,h⟩|⟨h5,h⟩⟩
 ·refine gn 12 [1,4,9,11] [0,1] [cC (Qaf h4),nF h5,oO (getLo h6),oO (getHi e_i64 h6),rE e_i64 h6,hH (.rows ((setI l2 from_ t).map e_i64)),hH (.relen 1 ((setI l2 from_ t).map e_i64).length),oO (setM e_i64 l2 from_ t),rp 2 (oO (Qhk e_i64 l2 from_ t))] (QdX Γ rv h22 ?_)
  obtain rfl:=oK h
  exact gr 2 [] [hW 4,hH (.frz 0),rp 3 (eL l6 e_i64)]
 ·obtain rfl:=oK h
  exact gr 6 [] [cC (Qaf h4),nT h5,hW 4,hH (.frz 1),rp 3 (eL l2 e_i64)]
theorem Qcv {rv:Bool} (h:Qbk=some rv):AFn Tryd.prog 5 [] [] (one (.bool rv)) []:=by
 refine QbK Tryd.func5 fun Γ=>?_
 simp only [Qbk,QaE,Qal,Qam] at h
 rcases h with ⟨r,h0,r1,h1,r2,h2,r3,h3,r4,h4,⟨h5,r5,h6,r6,h7,⟨h8,r7,h9,r8,h10,⟨h11,r9,h12,r10,h13,⟨h14,r11,h15,r12,h16,h⟩|⟨h14,h⟩⟩|⟨h11,h⟩⟩|⟨h8,h⟩⟩|⟨h5,h⟩⟩
 ·obtain rfl:=oK h
  exact gr 14 [] [cC (Qbe h0),cC (QaO h1),cC (Qbz h2),cC (QaO h3),cC (QaO h4),rp 15 hP,oI ((eqI r1.2.2 0)=true),oR True ((eqI r1.2.2 0)=true),oI (((eqI r1.2.2 0)&&(eqI r1.1 23))=true),oR True (((eqI r1.2.2 0)&&(eqI r1.1 23))=true),oI ((((eqI r1.2.2 0)&&(eqI r1.1 23))&&(eqI r1.2.1 9))=true),oR True ((((eqI r1.2.2 0)&&(eqI r1.1 23))&&(eqI r1.2.1 9))=true),oI (((((eqI r1.2.2 0)&&(eqI r1.1 23))&&(eqI r1.2.1 9))&&(eqI r2.2 0))=true),oR True (((((eqI r1.2.2 0)&&(eqI r1.1 23))&&(eqI r1.2.1 9))&&(eqI r2.2 0))=true),oI ((((((eqI r1.2.2 0)&&(eqI r1.1 23))&&(eqI r1.2.1 9))&&(eqI r2.2 0))&&(eqI r3.2.2 12))=true),oR True ((((((eqI r1.2.2 0)&&(eqI r1.1 23))&&(eqI r1.2.1 9))&&(eqI r2.2 0))&&(eqI r3.2.2 12))=true),bT h5,bT h5,cC (QaF h6),bT h5,bT h5,oO (Eq.refl ([3,13,18].map e_i64).length),cC (QaJ h7),bT h5,bT h8,bT h8,cC (QaF h9),bT h8,bT h8,oO (Eq.refl ([3,13,22].map e_i64).length),cC (QaJ h10),bT h8,rp 2 (bT h11),cC (QaF h12),rp 2 (bT h11),oO (Eq.refl ([2,12,17].map e_i64).length),cC (QaJ h13),bT h11,rp 2 (bT h14),cC (QaF h15),rp 2 (bT h14),oO (Eq.refl ([90,100,109].map e_i64).length),cC (QaJ h16),bT h14]
 ·obtain rfl:=oK h
  exact gr 14 [] [cC (Qbe h0),cC (QaO h1),cC (Qbz h2),cC (QaO h3),cC (QaO h4),rp 15 hP,oI ((eqI r1.2.2 0)=true),oR True ((eqI r1.2.2 0)=true),oI (((eqI r1.2.2 0)&&(eqI r1.1 23))=true),oR True (((eqI r1.2.2 0)&&(eqI r1.1 23))=true),oI ((((eqI r1.2.2 0)&&(eqI r1.1 23))&&(eqI r1.2.1 9))=true),oR True ((((eqI r1.2.2 0)&&(eqI r1.1 23))&&(eqI r1.2.1 9))=true),oI (((((eqI r1.2.2 0)&&(eqI r1.1 23))&&(eqI r1.2.1 9))&&(eqI r2.2 0))=true),oR True (((((eqI r1.2.2 0)&&(eqI r1.1 23))&&(eqI r1.2.1 9))&&(eqI r2.2 0))=true),oI ((((((eqI r1.2.2 0)&&(eqI r1.1 23))&&(eqI r1.2.1 9))&&(eqI r2.2 0))&&(eqI r3.2.2 12))=true),oR True ((((((eqI r1.2.2 0)&&(eqI r1.1 23))&&(eqI r1.2.1 9))&&(eqI r2.2 0))&&(eqI r3.2.2 12))=true),bT h5,bT h5,cC (QaF h6),bT h5,bT h5,oO (Eq.refl ([3,13,18].map e_i64).length),cC (QaJ h7),bT h5,bT h8,bT h8,cC (QaF h9),bT h8,bT h8,oO (Eq.refl ([3,13,22].map e_i64).length),cC (QaJ h10),bT h8,rp 2 (bT h11),cC (QaF h12),rp 2 (bT h11),oO (Eq.refl ([2,12,17].map e_i64).length),cC (QaJ h13),bT h11,rp 5 (bF h14)]
 ·obtain rfl:=oK h
  exact gr 14 [] [cC (Qbe h0),cC (QaO h1),cC (Qbz h2),cC (QaO h3),cC (QaO h4),rp 15 hP,oI ((eqI r1.2.2 0)=true),oR True ((eqI r1.2.2 0)=true),oI (((eqI r1.2.2 0)&&(eqI r1.1 23))=true),oR True (((eqI r1.2.2 0)&&(eqI r1.1 23))=true),oI ((((eqI r1.2.2 0)&&(eqI r1.1 23))&&(eqI r1.2.1 9))=true),oR True ((((eqI r1.2.2 0)&&(eqI r1.1 23))&&(eqI r1.2.1 9))=true),oI (((((eqI r1.2.2 0)&&(eqI r1.1 23))&&(eqI r1.2.1 9))&&(eqI r2.2 0))=true),oR True (((((eqI r1.2.2 0)&&(eqI r1.1 23))&&(eqI r1.2.1 9))&&(eqI r2.2 0))=true),oI ((((((eqI r1.2.2 0)&&(eqI r1.1 23))&&(eqI r1.2.1 9))&&(eqI r2.2 0))&&(eqI r3.2.2 12))=true),oR True ((((((eqI r1.2.2 0)&&(eqI r1.1 23))&&(eqI r1.2.1 9))&&(eqI r2.2 0))&&(eqI r3.2.2 12))=true),bT h5,bT h5,cC (QaF h6),bT h5,bT h5,oO (Eq.refl ([3,13,18].map e_i64).length),cC (QaJ h7),bT h5,bT h8,bT h8,cC (QaF h9),bT h8,bT h8,oO (Eq.refl ([3,13,22].map e_i64).length),cC (QaJ h10),bT h8,rp 5 (bF h11),rp 5 fF]
 ·obtain rfl:=oK h
  exact gr 14 [] [cC (Qbe h0),cC (QaO h1),cC (Qbz h2),cC (QaO h3),cC (QaO h4),rp 15 hP,oI ((eqI r1.2.2 0)=true),oR True ((eqI r1.2.2 0)=true),oI (((eqI r1.2.2 0)&&(eqI r1.1 23))=true),oR True (((eqI r1.2.2 0)&&(eqI r1.1 23))=true),oI ((((eqI r1.2.2 0)&&(eqI r1.1 23))&&(eqI r1.2.1 9))=true),oR True ((((eqI r1.2.2 0)&&(eqI r1.1 23))&&(eqI r1.2.1 9))=true),oI (((((eqI r1.2.2 0)&&(eqI r1.1 23))&&(eqI r1.2.1 9))&&(eqI r2.2 0))=true),oR True (((((eqI r1.2.2 0)&&(eqI r1.1 23))&&(eqI r1.2.1 9))&&(eqI r2.2 0))=true),oI ((((((eqI r1.2.2 0)&&(eqI r1.1 23))&&(eqI r1.2.1 9))&&(eqI r2.2 0))&&(eqI r3.2.2 12))=true),oR True ((((((eqI r1.2.2 0)&&(eqI r1.1 23))&&(eqI r1.2.1 9))&&(eqI r2.2 0))&&(eqI r3.2.2 12))=true),bT h5,bT h5,cC (QaF h6),bT h5,bT h5,oO (Eq.refl ([3,13,18].map e_i64).length),cC (QaJ h7),bT h5,rp 5 (bF h8),rp 10 fF]
 ·obtain rfl:=oK h
  exact gr 14 [] [cC (Qbe h0),cC (QaO h1),cC (Qbz h2),cC (QaO h3),cC (QaO h4),rp 15 hP,oI ((eqI r1.2.2 0)=true),oR True ((eqI r1.2.2 0)=true),oI (((eqI r1.2.2 0)&&(eqI r1.1 23))=true),oR True (((eqI r1.2.2 0)&&(eqI r1.1 23))=true),oI ((((eqI r1.2.2 0)&&(eqI r1.1 23))&&(eqI r1.2.1 9))=true),oR True ((((eqI r1.2.2 0)&&(eqI r1.1 23))&&(eqI r1.2.1 9))=true),oI (((((eqI r1.2.2 0)&&(eqI r1.1 23))&&(eqI r1.2.1 9))&&(eqI r2.2 0))=true),oR True (((((eqI r1.2.2 0)&&(eqI r1.1 23))&&(eqI r1.2.1 9))&&(eqI r2.2 0))=true),oI ((((((eqI r1.2.2 0)&&(eqI r1.1 23))&&(eqI r1.2.1 9))&&(eqI r2.2 0))&&(eqI r3.2.2 12))=true),oR True ((((((eqI r1.2.2 0)&&(eqI r1.1 23))&&(eqI r1.2.1 9))&&(eqI r2.2 0))&&(eqI r3.2.2 12))=true),rp 5 (bF h5),rp 15 fF]
theorem Qct {n} {rv:ByteArray} (h:Qcq n=some rv):AFn Tryd.prog 15 [.one (lI n)] [] (one (.str rv)) []:=by
 refine QbK Tryd.func15 fun Γ=>?_
 simp only [Qcq,QaE,Qal,Qam] at h
 obtain ⟨r,h0,h⟩:=h
 obtain rfl:=oK h
 exact gr 4 [] [cC (QiR h0)]
theorem Qc8 {c} {rv:Bool} (h:Qe9 c=some rv):AFn Tryd.prog 28 [.one (.int .u8 c)] [] (one (.bool rv)) []:=by
 refine QbK Tryd.func28 fun Γ=>?_
 simp only [Qe9,QaE,Qal,Qam] at h
 cases h
 exact gr 4 [] [hP,hP,hP,oI ((geI c 48)=true),oR True ((geI c 48)=true)]
theorem QdD {c} {rv:Bool} (h:Qfp c=some rv):AFn Tryd.prog 29 [.one (.int .u8 c)] [] (one (.bool rv)) []:=by
 refine QbK Tryd.func29 fun Γ=>?_
 simp only [Qfp,QaE,Qal,Qam] at h
 cases h
 exact gr 4 [] [rp 14 hP,oI ((geI c 97)=true),oR True ((geI c 97)=true),rp 2 (oI (((geI c 97)&&(leI c 122))=false)),oI ((((geI c 97)&&(leI c 122))=false)∧(geI c 65)=true),oI (((geI c 97)&&(leI c 122))=false),oI ((((geI c 97)&&(leI c 122))=false)∧(geI c 65)=true),oR True (((geI c 97)&&(leI c 122))=false),oI ((((geI c 97)&&(leI c 122))||((geI c 65)&&(leI c 90)))=false),oR True ((((geI c 97)&&(leI c 122))||((geI c 65)&&(leI c 90)))=false)]
def Qgu (Γ:Gam) (rv:Bool) (cf:Cf):Prop:=Go Tryd.prog Tryd.f16 [] Γ (one (.bool rv)) [] cf
def QgK (Γ:Gam) (rv:Bool) (s0:ByteArray) (b:UInt8) (v:Int):Prop:=Qgu Γ rv ⟨[.c 116,.l 116,.b 0,.c 15],⟨34,[vS 0 s0,vI 17 (sizeS s0),vI 18 v],[]⟩⟩
def Qgj (Γ:Gam) (rv:Bool) (s0:ByteArray) (b:UInt8):Prop:=Qgu Γ rv ⟨[.c 15],⟨34,[],[]⟩⟩
theorem Qgk (Γ:Gam) (rv:Bool) {s0 b}:∀ ⦃s:Int⦄ ⦃e:(Unit)⊕(Bool)⦄,loopF (fun s=>QeM s0 b s) s=some e→sel e (fun e=>Qgj Γ rv s0 b) (fun e=>e=rv)→QgK Γ rv s0 b s:=by
 refine Qbv ?_
 intro v z_ h hI hE
 simp only [QeM,QaE,Qal,Qam] at h
 rcases h with ⟨h4,b1,h5,r1,h6,⟨h7,h⟩|⟨h7,r2,h8,⟨h9,h⟩|⟨h9,h⟩⟩⟩|⟨h4,h⟩
 ·exact gn 16 [0,17,18] [] [bT h4,yE h5,cC (QdD h6),rp 6 (nF h7),fF] (hI h)
 ·exact gn 16 [0,17,18] [] [bT h4,yE h5,cC (QdD h6),rp 3 (nT h7),yE h5,nT h7,cC (Qc8 h8),nT h7,nT h7,nF h9] (hI h)
 ·obtain rfl:=(hE h:_=rv)
  exact gr 14 [] [bT h4,yE h5,cC (QdD h6),rp 3 (nT h7),yE h5,nT h7,cC (Qc8 h8),nT h7,nT h7,nT h9]
 ·exact gn 5 [] [] [bF h4] (hE h)
theorem QeN {s0} {rv:Bool} (h:Qe8 s0=some rv):AFn Tryd.prog 16 [.one (.str s0)] [] (one (.bool rv)) []:=by
 refine QbK Tryd.func16 fun Γ=>?_
 simp only [Qe8,QaE,Qal,Qam] at h
 rcases h with ⟨h0,h⟩|⟨h0,b,h1,r,h2,⟨h3,h⟩|⟨h3,e0,h10,h⟩⟩
 ·obtain rfl:=oK h
  exact gr 8 [] [rp 4 hP,rp 2 (oI ((eqS s0 ByteArray.empty)=false)),oR True ((eqS s0 ByteArray.empty)=false),rp 4 (bT h0),tT]
 ·obtain rfl:=oK h
  exact gr 8 [] [rp 4 hP,rp 2 (oI ((eqS s0 ByteArray.empty)=false)),oR True ((eqS s0 ByteArray.empty)=false),bF h0,bF h0,yE h1,bF h0,cC (Qc8 h2),bF h0,bT h3]
 ·refine gn 12 [0,17,18] [] [rp 4 hP,rp 2 (oI ((eqS s0 ByteArray.empty)=false)),oR True ((eqS s0 ByteArray.empty)=false),bF h0,bF h0,yE h1,bF h0,cC (Qc8 h2),bF h0,bF h3] (Qgk Γ rv h10 ?_)
  rcases e0 with e0|r3
  ·obtain rfl:=oK h
   exact gr 2 [] []
  ·exact oK h
def QdC (Γ:Gam) (rv:List Int) (cf:Cf):Prop:=Go Tryd.prog Tryd.f31 [] Γ (one (lL 1 rv e_i64)) [] cf
def QfB (Γ:Gam) (rv:List Int) (l:List Qab) (l2:List Int) (v:Int):Prop:=QdC Γ rv ⟨[.c 244,.l 244,.b 0,.c 31],⟨49,[vL 0 2 l Qab.enc,vO 3 0 1 l2 e_i64,vL 12 2 l Qab.enc,vI 13 (lenI l),vI 14 v],[oS 1 29 l2 e_i64]⟩⟩
def Qfh (Γ:Gam) (rv:List Int) (l:List Qab) (l3:List Int):Prop:=QdC Γ rv ⟨[.c 31],⟨49,[vO 3 0 1 l3 e_i64],[oS 1 29 l3 e_i64]⟩⟩
theorem Qfi (Γ:Gam) (rv:List Int) {l}:∀ ⦃s:List Int×Int⦄ ⦃e:List Int⦄,loopF (fun s=>Qa8 l s.1 s.2) s=some e→Qfh Γ rv l e→QfB Γ rv l s.1 s.2:=by
 refine Qbv ?_
 rintro ⟨l2,v⟩ z_ h hI hE
 simp only [Qa8,QaE,Qal,Qam] at h
 rcases h with ⟨h2,x0,h3,r,h4,⟨h5,⟨h6,x1,h7,⟨h8,h9,h⟩|⟨h8,r1,h10,⟨h11,h⟩|⟨h11,h12,h⟩⟩⟩|⟨h6,r2,h13,⟨h14,h⟩|⟨h14,h15,h⟩⟩⟩|⟨h5,h16,h⟩⟩|⟨h2,h⟩
 ·exact gn 16 [0,3,12,13,14] [3] [bT h2,cE Qab.enc h3,hH (.draw 25 []),cC (QaC h4),rp 3 (nF h5),rp 6 (bT h6),cE Qab.enc h7,rp 3 (bT h6),nF h5,bT h6,nF h5,rp 5 (bT h8),tT,oO (Eq.refl ([2].map e_i64).length),aO e_i64 h9] (hI h)
 ·exact gn 16 [0,3,12,13,14] [0] [bT h2,cE Qab.enc h3,hH (.draw 25 []),cC (QaC h4),rp 3 (nF h5),rp 6 (bT h6),cE Qab.enc h7,rp 3 (bT h6),nF h5,bT h6,nF h5,rp 3 (bF h8),cC (QaC h10),bF h8,bF h8,nF h11] (hI h)
 ·exact gn 16 [0,3,12,13,14] [3] [bT h2,cE Qab.enc h3,hH (.draw 25 []),cC (QaC h4),rp 3 (nF h5),rp 6 (bT h6),cE Qab.enc h7,rp 3 (bT h6),nF h5,bT h6,nF h5,rp 3 (bF h8),cC (QaC h10),bF h8,bF h8,nT h11,oO (Eq.refl ([2].map e_i64).length),aO e_i64 h12] (hI h)
 ·exact gn 16 [0,3,12,13,14] [0] [bT h2,cE Qab.enc h3,hH (.draw 25 []),cC (QaC h4),rp 3 (nF h5),rp 9 (bF h6),nF h5,bF h6,nF h5,fF,fF,fF,cC (QaC h13),fF,fF,nF h14] (hI h)
 ·exact gn 16 [0,3,12,13,14] [3] [bT h2,cE Qab.enc h3,hH (.draw 25 []),cC (QaC h4),rp 3 (nF h5),rp 9 (bF h6),nF h5,bF h6,nF h5,fF,fF,fF,cC (QaC h13),fF,fF,nT h14,oO (Eq.refl ([2].map e_i64).length),aO e_i64 h15] (hI h)
 ·exact gn 16 [0,3,12,13,14] [3] [bT h2,cE Qab.enc h3,hH (.draw 25 []),cC (QaC h4),rp 3 (nT h5),rp 9 kF,nT h5,nT h5,rp 6 tT,oO (Eq.refl ([2].map e_i64).length),aO e_i64 h16] (hI h)
 ·exact gn 5 [3] [0] [bF h2] (hE h)
theorem Qdp (Γ:Gam) (rv:List Int) {l l1} (h:QbC l l1=some rv):QdC Γ rv ⟨[.c 15],⟨49,[vL 0 2 l Qab.enc,vO 3 0 1 l1 e_i64],[oS 1 29 l1 e_i64]⟩⟩:=by
 simp only [QbC,QaE,Qal,Qam] at h
 obtain ⟨l3,h17,h⟩:=h
 refine gn 5 [0,3,12,13,14] [0] [nL Qab.enc l] (Qfi Γ rv h17 ?_)
 obtain rfl:=oK h
 exact gr 2 [] [hW 4,hH (.frz 0),rp 3 (eL l3 e_i64)]
theorem Qey {l} {rv:List Int} (h:Qco l=some rv):AFn Tryd.prog 31 [.one (lL 2 l Qab.enc)] [] (one (lL 1 rv e_i64)) []:=by
 refine QbK Tryd.func31 fun Γ=>?_
 simp only [Qco,QaE,Qal,Qam] at h
 rcases h with ⟨h0,h1,h⟩|⟨h0,h⟩
 ·exact gn 9 [0,3] [1] [nL Qab.enc l,bT h0,oO (Eq.refl ([4].map e_i64).length),aN (l:=([4]:List Int)) e_i64 h1] (Qdp Γ rv h)
 ·exact gn 9 [0,3] [0] [nL Qab.enc l,bF h0,hW 1,hH (.adopt 3 1 29)] (Qdp Γ rv h)
def Qbl (Γ:Gam) (rv:List Int) (known:List (Qae×Bool)) (cf:Cf):Prop:=Go Tryd.prog Tryd.f17 [0] Γ (one (lL 1 rv e_i64)) [oM 50 known (mE Qae.enc Lf.bool)] cf
def QfY (Γ:Gam) (rv:List Int) (a:Qad) (known:List (Qae×Bool)) (l:List Int) (r3:List Qaa) (l3:List Int) (v:Int):Prop:=Qbl Γ rv known ⟨[.c 1012,.l 1012,.b 0,.c 127],⟨79,[vP 4 1 6,vO 7 2 1 l3 e_i64,vL 62 2 r3 Qaa.enc,vI 63 (lenI r3),vI 64 v],[oM 50 known (mE Qae.enc Lf.bool),oX 6 38 (Qad.enc a),oS 1 29 l3 e_i64]⟩⟩
def Qfx (Γ:Gam) (rv:List Int) (a:Qad) (known:List (Qae×Bool)) (l:List Int) (r3:List Qaa) (l4:List Int):Prop:=Qbl Γ rv known ⟨[.c 127],⟨79,[vP 4 1 6,vO 7 2 1 l4 e_i64],[oM 50 known (mE Qae.enc Lf.bool),oX 6 38 (Qad.enc a),oS 1 29 l4 e_i64]⟩⟩
def QfZ (Γ:Gam) (rv:List Int) (a:Qad) (known:List (Qae×Bool)) (r6:List Qaa) (l7:List Int) (v1:Int):Prop:=Qbl Γ rv known ⟨[.c 1012,.l 1012,.b 0,.c 127],⟨79,[vP 4 1 6,vO 7 2 1 l7 e_i64,vL 62 2 r6 Qaa.enc,vI 63 (lenI r6),vI 64 v1],[oM 50 known (mE Qae.enc Lf.bool),oX 6 38 (Qad.enc a),oS 1 29 l7 e_i64]⟩⟩
def Qfz (Γ:Gam) (rv:List Int) (a:Qad) (known:List (Qae×Bool)) (r6:List Qaa) (l8:List Int):Prop:=Qbl Γ rv known ⟨[.c 127],⟨79,[vP 4 1 6,vO 7 2 1 l8 e_i64],[oM 50 known (mE Qae.enc Lf.bool),oX 6 38 (Qad.enc a),oS 1 29 l8 e_i64]⟩⟩
theorem Qfy (Γ:Gam) (rv:List Int) {a known l r3}:∀ ⦃s:List Int×Int⦄ ⦃e:List Int⦄,loopF (fun s=>Qbb a known l r3 s.1 s.2) s=some e→Qfx Γ rv a known l r3 e→QfY Γ rv a known l r3 s.1 s.2:=by
 refine Qbv ?_
 rintro ⟨l3,v⟩ z_ h hI hE
 simp only [Qbb,QaE,Qal,Qam] at h
 rcases h with ⟨h11,x0,h12,h13,h⟩|⟨h11,h⟩
 ·exact gn 13 [4,7,62,63,64] [0,1,5] [bT h11,cE Qaa.enc h12,oO (Eq.refl ([x0.err].map e_i64).length),aO e_i64 h13] (hI h)
 ·exact gn 5 [4,7] [0,1,2] [bF h11] (hE h)
theorem QdJ (Γ:Gam) (rv:List Int) {a known l l2} (h:QbR a known l l2=some rv):Qbl Γ rv known ⟨[.c 63],⟨79,[vP 4 1 6,vO 7 2 1 l2 e_i64],[oM 50 known (mE Qae.enc Lf.bool),oX 6 38 (Qad.enc a),oS 1 29 l2 e_i64]⟩⟩:=by
 simp only [QbR,QaE,Qal,Qam] at h
 obtain ⟨r3,h10,l4,h14,h⟩:=h
 refine gn 5 [4,7,62,63,64] [0,1,2] [cC (Qdb h10),nL Qaa.enc r3] (Qfy Γ rv h14 ?_)
 obtain ⟨r4,h15,h16,h⟩:=h
 cases h
 exact gr 2 [0] [cC (Qey h15),aO e_i64 h16,hW 1,hH (.frz 3),rp 2 (oO (Eq.refl ((l4++r4).map e_i64).length))]
theorem QdI (Γ:Gam) (rv:List Int) {a known l l1} (h:Qbx a known l l1=some rv):Qbl Γ rv known ⟨[.c 31],⟨79,[(2,one (.mp 0)),vP 4 1 6,vO 7 2 1 l1 e_i64],[oM 50 known (mE Qae.enc Lf.bool),oX 6 38 (Qad.enc a),oS 1 29 l1 e_i64]⟩⟩:=by
 simp only [Qbx,QaE,Qal,Qam] at h
 rcases h with ⟨r2,h7,⟨h8,h9,h⟩|⟨h8,h⟩⟩
 ·exact gn 5 [4,7] [0,1,4] [cC (Qbg h7),mG Qae.kq Lf.bool known r2 false,bT h8,oO (Eq.refl ([6].map e_i64).length),aO e_i64 h9] (QdJ Γ rv h)
 ·exact gn 5 [4,7] [0,1,2] [cC (Qbg h7),mG Qae.kq Lf.bool known r2 false,bF h8] (QdJ Γ rv h)
theorem QdH (Γ:Gam) (rv:List Int) {a known l} (h:QbQ a known l=some rv):Qbl Γ rv known ⟨[.c 15],⟨79,[(2,one (.mp 0)),vP 4 1 6,vO 7 2 1 l e_i64],[oM 50 known (mE Qae.enc Lf.bool),oX 6 38 (Qad.enc a),oS 1 29 l e_i64]⟩⟩:=by
 simp only [QbQ,QaE,Qal,Qam] at h
 rcases h with ⟨h5,h6,h⟩|⟨h5,h⟩
 ·exact gn 5 [2,4,7] [0,1,4] [rp 18 hP,rp 2 (oI ((ltI a.profile 0)=false)),oR True ((ltI a.profile 0)=false),rp 2 (oI (((ltI a.profile 0)||(gtI a.profile 7))=false)),oR True (((ltI a.profile 0)||(gtI a.profile 7))=false),rp 2 (oI ((((ltI a.profile 0)||(gtI a.profile 7))||(ltI a.miles 0))=false)),oR True ((((ltI a.profile 0)||(gtI a.profile 7))||(ltI a.miles 0))=false),rp 4 (oI (((((ltI a.profile 0)||(gtI a.profile 7))||(ltI a.miles 0))||(gtI a.miles 10000))=false)),oR True (((((ltI a.profile 0)||(gtI a.profile 7))||(ltI a.miles 0))||(gtI a.miles 10000))=false),bT h5,oO (Eq.refl ([2].map e_i64).length),aO e_i64 h6] (QdI Γ rv h)
 ·exact gn 5 [2,4,7] [0,1,2] [rp 18 hP,rp 2 (oI ((ltI a.profile 0)=false)),oR True ((ltI a.profile 0)=false),rp 2 (oI (((ltI a.profile 0)||(gtI a.profile 7))=false)),oR True (((ltI a.profile 0)||(gtI a.profile 7))=false),rp 2 (oI ((((ltI a.profile 0)||(gtI a.profile 7))||(ltI a.miles 0))=false)),oR True ((((ltI a.profile 0)||(gtI a.profile 7))||(ltI a.miles 0))=false),rp 4 (oI (((((ltI a.profile 0)||(gtI a.profile 7))||(ltI a.miles 0))||(gtI a.miles 10000))=false)),oR True (((((ltI a.profile 0)||(gtI a.profile 7))||(ltI a.miles 0))||(gtI a.miles 10000))=false),bF h5] (QdI Γ rv h)
theorem QfA (Γ:Gam) (rv:List Int) {a known r6}:∀ ⦃s:List Int×Int⦄ ⦃e:List Int⦄,loopF (fun s=>QdB a known r6 s.1 s.2) s=some e→Qfz Γ rv a known r6 e→QfZ Γ rv a known r6 s.1 s.2:=by
 refine Qbv ?_
 rintro ⟨l7,v1⟩ z_ h hI hE
 simp only [QdB,QaE,Qal,Qam] at h
 rcases h with ⟨h24,x1,h25,h26,h⟩|⟨h24,h⟩
 ·exact gn 13 [4,7,62,63,64] [0,1,5] [bT h24,cE Qaa.enc h25,oO (Eq.refl ([x1.err].map e_i64).length),aO e_i64 h26] (hI h)
 ·exact gn 5 [4,7] [0,1,2] [bF h24] (hE h)
theorem QdL (Γ:Gam) (rv:List Int) {a known l6} (h:QcN a known l6=some rv):Qbl Γ rv known ⟨[.c 63],⟨79,[vP 4 1 6,vO 7 2 1 l6 e_i64],[oM 50 known (mE Qae.enc Lf.bool),oX 6 38 (Qad.enc a),oS 1 29 l6 e_i64]⟩⟩:=by
 simp only [QcN,QaE,Qal,Qam] at h
 obtain ⟨r6,h23,l8,h27,h⟩:=h
 refine gn 5 [4,7,62,63,64] [0,1,2] [cC (Qdb h23),nL Qaa.enc r6] (QfA Γ rv h27 ?_)
 obtain ⟨r7,h28,h29,h⟩:=h
 cases h
 exact gr 2 [0] [cC (Qey h28),aO e_i64 h29,hW 1,hH (.frz 3),rp 2 (oO (Eq.refl ((l8++r7).map e_i64).length))]
theorem QdK (Γ:Gam) (rv:List Int) {a known l5} (h:Qcc a known l5=some rv):Qbl Γ rv known ⟨[.c 31],⟨79,[(2,one (.mp 0)),vP 4 1 6,vO 7 2 1 l5 e_i64],[oM 50 known (mE Qae.enc Lf.bool),oX 6 38 (Qad.enc a),oS 1 29 l5 e_i64]⟩⟩:=by
 simp only [Qcc,QaE,Qal,Qam] at h
 rcases h with ⟨r5,h20,⟨h21,h22,h⟩|⟨h21,h⟩⟩
 ·exact gn 5 [4,7] [0,1,4] [cC (Qbg h20),mG Qae.kq Lf.bool known r5 false,bT h21,oO (Eq.refl ([6].map e_i64).length),aO e_i64 h22] (QdL Γ rv h)
 ·exact gn 5 [4,7] [0,1,2] [cC (Qbg h20),mG Qae.kq Lf.bool known r5 false,bF h21] (QdL Γ rv h)
theorem QgA {n a known} {rv:List Int} (h:Qdo n a known=some rv):AFn Tryd.prog 17 [.agg (Qac.enc n),.agg (Qad.enc a),.one (.mp 0)] [bM 50 known (mE Qae.enc Lf.bool)] (one (lL 1 rv e_i64)) [oM 50 known (mE Qae.enc Lf.bool)]:=by
 refine QbK Tryd.func17 fun Γ=>?_
 simp only [Qdo,QaE,Qal,Qam] at h
 rcases h with ⟨r,h0,⟨h1,r1,h2,⟨h3,h⟩|⟨h3,h4,h⟩⟩|⟨h1,h17,⟨h18,h19,h⟩|⟨h18,h⟩⟩⟩
 ·exact gn 9 [2,4,7] [0,2,3] [cC (Qaf h0),rp 4 (nF h1),cC (Qaf h2),nF h1,nF h1,nF h3,hW 1,hH (.adopt 7 1 29)] (QdH Γ rv h)
 ·exact gn 9 [2,4,7] [0,2,4] [cC (Qaf h0),rp 4 (nF h1),cC (Qaf h2),nF h1,nF h1,nT h3,oO (Eq.refl ([11].map e_i64).length),aN (l:=([11]:List Int)) e_i64 h4] (QdH Γ rv h)
 ·exact gn 14 [2,4,7] [0,2,6] [cC (Qaf h0),rp 6 (nT h1),tT,oO (Eq.refl ([11].map e_i64).length),aN (l:=([11]:List Int)) e_i64 h17,rp 18 hP,rp 2 (oI ((ltI a.profile 0)=false)),oR True ((ltI a.profile 0)=false),rp 2 (oI (((ltI a.profile 0)||(gtI a.profile 7))=false)),oR True (((ltI a.profile 0)||(gtI a.profile 7))=false),rp 2 (oI ((((ltI a.profile 0)||(gtI a.profile 7))||(ltI a.miles 0))=false)),oR True ((((ltI a.profile 0)||(gtI a.profile 7))||(ltI a.miles 0))=false),rp 4 (oI (((((ltI a.profile 0)||(gtI a.profile 7))||(ltI a.miles 0))||(gtI a.miles 10000))=false)),oR True (((((ltI a.profile 0)||(gtI a.profile 7))||(ltI a.miles 0))||(gtI a.miles 10000))=false),bT h18,oO (Eq.refl ([2].map e_i64).length),aO e_i64 h19] (QdK Γ rv h)
 ·exact gn 14 [2,4,7] [0,2,4] [cC (Qaf h0),rp 6 (nT h1),tT,oO (Eq.refl ([11].map e_i64).length),aN (l:=([11]:List Int)) e_i64 h17,rp 18 hP,rp 2 (oI ((ltI a.profile 0)=false)),oR True ((ltI a.profile 0)=false),rp 2 (oI (((ltI a.profile 0)||(gtI a.profile 7))=false)),oR True (((ltI a.profile 0)||(gtI a.profile 7))=false),rp 2 (oI ((((ltI a.profile 0)||(gtI a.profile 7))||(ltI a.miles 0))=false)),oR True ((((ltI a.profile 0)||(gtI a.profile 7))||(ltI a.miles 0))=false),rp 4 (oI (((((ltI a.profile 0)||(gtI a.profile 7))||(ltI a.miles 0))||(gtI a.miles 10000))=false)),oR True (((((ltI a.profile 0)||(gtI a.profile 7))||(ltI a.miles 0))||(gtI a.miles 10000))=false),bF h18] (QdK Γ rv h)
def Qa7 (Γ:Gam) (rv:List Qaa) (cf:Cf):Prop:=Go Tryd.prog Tryd.f6 [] Γ (one (lL 2 rv Qaa.enc)) [] cf
def Qdn (Γ:Gam) (rv:List Qaa) (n:Qac) (l:List Qaa) (l1:List Qaa) (l2:List (ByteArray×Bool)) (v:Int):Prop:=Qa7 Γ rv ⟨[.c 500,.l 500,.b 0,.c 63],⟨94,[vP 1 0 2,vO 3 1 2 l1 Qaa.enc,(4,one (.mp 2)),vL 23 1 n.places e_str,vI 24 (lenI n.places),vI 25 v],[oX 2 25 (Qac.enc n),oS 2 31 l1 Qaa.enc,oM 47 l2 (mE kS Lf.bool)]⟩⟩
def Qc4 (Γ:Gam) (rv:List Qaa) (n:Qac) (l:List Qaa) (l4:List Qaa):Prop:=Qa7 Γ rv ⟨[.c 63],⟨94,[vP 1 0 2,vO 3 1 2 l4 Qaa.enc],[oX 2 25 (Qac.enc n),oS 2 31 l4 Qaa.enc]⟩⟩
def Qfe (Γ:Gam) (rv:List Qaa) (n:Qac) (l:List Qaa) (l7:List (Qae×Bool)) (v1:Int) (x1:Qad) (r2:List Int) (l8:List Qaa) (v2:Int):Prop:=Qa7 Γ rv ⟨[.c 2091412,.l 2091412,.b 5,.c 261427,.b 4,.c 32679,.l 4084,.b 3,.c 511],⟨94,[vP 1 0 2,vO 3 1 2 l8 Qaa.enc,(8,one (.mp 2)),vI 9 v1,vP 10 3 6,vL 64 6 n.arcs Qad.enc,vI 65 (lenI n.arcs),vI 66 v1,vL 74 1 r2 e_i64,vI 75 (lenI r2),vI 76 v2],[oX 2 25 (Qac.enc n),oS 2 31 l8 Qaa.enc,oM 50 l7 (mE Qae.enc Lf.bool),oX 6 38 (Qad.enc x1)]⟩⟩
def QeY (Γ:Gam) (rv:List Qaa) (n:Qac) (l:List Qaa) (l7:List (Qae×Bool)) (v1:Int) (x1:Qad) (r2:List Int) (l9:List Qaa):Prop:=Qa7 Γ rv ⟨[.c 261427,.b 4,.c 32679,.l 4084,.b 3,.c 511],⟨94,[vP 1 0 2,vO 3 1 2 l9 Qaa.enc,(8,one (.mp 2)),vP 10 3 6,vL 64 6 n.arcs Qad.enc,vI 65 (lenI n.arcs),vI 66 v1],[oX 2 25 (Qac.enc n),oS 2 31 l9 Qaa.enc,oM 50 l7 (mE Qae.enc Lf.bool),oX 6 38 (Qad.enc x1)]⟩⟩
def Qfd (Γ:Gam) (rv:List Qaa) (n:Qac) (l:List Qaa) (l6:List Qaa) (l7:List (Qae×Bool)) (v1:Int):Prop:=Qa7 Γ rv ⟨[.c 4084,.l 4084,.b 3,.c 511],⟨94,[vP 1 0 2,vO 3 1 2 l6 Qaa.enc,(8,one (.mp 2)),vL 64 6 n.arcs Qad.enc,vI 65 (lenI n.arcs),vI 66 v1],[oX 2 25 (Qac.enc n),oS 2 31 l6 Qaa.enc,oM 50 l7 (mE Qae.enc Lf.bool)]⟩⟩
def QeW (Γ:Gam) (rv:List Qaa) (n:Qac) (l:List Qaa) (l10:List Qaa):Prop:=Qa7 Γ rv ⟨[.c 511],⟨94,[vO 3 0 2 l10 Qaa.enc],[oS 2 31 l10 Qaa.enc]⟩⟩
theorem Qb8 (Γ:Gam) (rv:List Qaa) {n l l2 v x0 l3} {x:(List Qaa×List (ByteArray×Bool)×Int)⊕(List Qaa)} (h:Qbr n l l2 v x0 l3=some x) (hI:∀ ⦃s:List Qaa×List (ByteArray×Bool)×Int⦄,some (.inl s)=some x→Qdn Γ rv n l s.1 s.2.1 s.2.2) (hE:∀ ⦃e:List Qaa⦄,some (.inr e)=some x→Qc4 Γ rv n l e):Qa7 Γ rv ⟨[.b 2,.c 64103,.b 1,.c 4007,.l 500,.b 0,.c 63],⟨94,[vP 1 0 2,vO 3 1 2 l3 Qaa.enc,(4,one (.mp 2)),vS 6 x0,vL 23 1 n.places e_str,vI 24 (lenI n.places),vI 25 v],[oX 2 25 (Qac.enc n),oS 2 31 l3 Qaa.enc,oM 47 l2 (mE kS Lf.bool)]⟩⟩:=by
 simp only [Qbr,QaE,Qal,Qam] at h
 exact gn 5 [1,3,4,23,24,25] [0,1,2] [mU kqS Lf.bool l2 x0 true] (hI h)
theorem QeV (Γ:Gam) (rv:List Qaa) {n l}:∀ ⦃s:List Qaa×List (ByteArray×Bool)×Int⦄ ⦃e:List Qaa⦄,loopF (fun s=>Qa1 n l s.1 s.2.1 s.2.2) s=some e→Qc4 Γ rv n l e→Qdn Γ rv n l s.1 s.2.1 s.2.2:=by
 refine Qbv ?_
 rintro ⟨l1,l2,v⟩ z_ h hI hE
 simp only [Qa1,QaE,Qal,Qam] at h
 rcases h with ⟨h2,x0,h3,r,h4,h5,r1,h6,⟨h7,⟨h8,h9,h⟩|⟨h8,h⟩⟩|⟨h7,h10,h⟩⟩|⟨h2,h⟩
 ·exact gn 20 [1,3,4,6,23,24,25] [0,4,2] [bT h2,cE e_str h3,cC (Qct h4),oO (h5),cC (QeN h6),nF h7,mG kqS Lf.bool l2 x0 false,bT h8,oO (Eq.refl ([(Qaa.mk 6 (catS QaA r))].map Qaa.enc).length),aO Qaa.enc h9] (Qb8 Γ rv h hI hE)
 ·exact gn 20 [1,3,4,6,23,24,25] [0,1,2] [bT h2,cE e_str h3,cC (Qct h4),oO (h5),cC (QeN h6),nF h7,mG kqS Lf.bool l2 x0 false,bF h8] (Qb8 Γ rv h hI hE)
 ·exact gn 17 [1,3,4,6,23,24,25] [0,4,2] [bT h2,cE e_str h3,cC (Qct h4),oO (h5),cC (QeN h6),nT h7,oO (Eq.refl ([(Qaa.mk 5 (catS QaA r))].map Qaa.enc).length),aO Qaa.enc h10] (Qb8 Γ rv h hI hE)
 ·exact gn 5 [1,3] [0,1] [bF h2] (hE h)
theorem QeZ (Γ:Gam) (rv:List Qaa) {n l l7 v1 x1 r2}:∀ ⦃s:List Qaa×Int⦄ ⦃e:List Qaa⦄,loopF (fun s=>Qa3 n l l7 v1 x1 r2 s.1 s.2) s=some e→QeY Γ rv n l l7 v1 x1 r2 e→Qfe Γ rv n l l7 v1 x1 r2 s.1 s.2:=by
 refine Qbv ?_
 rintro ⟨l8,v2⟩ z_ h hI hE
 simp only [Qa3,QaE,Qal,Qam] at h
 rcases h with ⟨h17,x2,h18,r3,h19,h20,h21,h⟩|⟨h17,h⟩
 ·exact gn 13 [1,3,8,9,10,64,65,66,74,75,76] [0,5,2,3] [bT h17,cE e_i64 h18,cC (Qct h19),oO (h20),oO (Eq.refl ([(Qaa.mk x2 (catS Qaj r3))].map Qaa.enc).length),aO Qaa.enc h21] (hI h)
 ·exact gn 5 [1,3,8,10,64,65,66] [0,1,2,3] [bF h17] (hE h)
theorem QeX (Γ:Gam) (rv:List Qaa) {n l}:∀ ⦃s:List Qaa×List (Qae×Bool)×Int⦄ ⦃e:List Qaa⦄,loopF (fun s=>Qa2 n l s.1 s.2.1 s.2.2) s=some e→QeW Γ rv n l e→Qfd Γ rv n l s.1 s.2.1 s.2.2:=by
 refine Qbv ?_
 rintro ⟨l6,l7,v1⟩ z_ h hI hE
 simp only [Qa2,QaE,Qal,Qam] at h
 rcases h with ⟨h14,x1,h15,r2,h16,l9,h22,h⟩|⟨h14,h⟩
 ·refine gn 14 [1,3,8,9,10,64,65,66,74,75,76] [0,1,2,3] [bT h14,cE Qad.enc h15,cI [2] (QgA h16),nL e_i64 r2] (QeZ Γ rv h22 ?_)
  obtain ⟨r4,h23,h⟩:=h
  exact gn 4 [1,3,8,64,65,66] [0,1,2] [cC (Qbg h23),mU Qae.kq Lf.bool l7 r4 true] (hI h)
 ·exact gn 5 [3] [1] [bF h14] (hE h)
theorem Qc3 (Γ:Gam) (rv:List Qaa) {n l l5} (h:Qbs n l l5=some rv):Qa7 Γ rv ⟨[.c 127],⟨94,[vP 1 0 2,vO 3 1 2 l5 Qaa.enc],[oX 2 25 (Qac.enc n),oS 2 31 l5 Qaa.enc]⟩⟩:=by
 simp only [Qbs,QaE,Qal,Qam] at h
 obtain ⟨l10,h24,h⟩:=h
 refine gn 7 [1,3,8,64,65,66] [0,1,2] [nL Qad.enc n.arcs] (QeX Γ rv h24 ?_)
 obtain rfl:=oK h
 exact gr 2 [] [hW 4,hH (.frz 0),rp 3 (eL l10 Qaa.enc)]
theorem Qc2 (Γ:Gam) (rv:List Qaa) {n l} (h:Qbq n l=some rv):Qa7 Γ rv ⟨[.c 15],⟨94,[vP 1 0 2,vO 3 1 2 l Qaa.enc],[oX 2 25 (Qac.enc n),oS 2 31 l Qaa.enc]⟩⟩:=by
 simp only [Qbq,QaE,Qal,Qam] at h
 obtain ⟨l4,h11,h⟩:=h
 refine gn 7 [1,3,4,23,24,25] [0,1,2] [nL e_str n.places] (QeV Γ rv h11 ?_)
 rcases h with ⟨h12,h13,h⟩|⟨h12,h⟩
 ·exact gn 5 [1,3] [0,3] [nL Qad.enc n.arcs,bT h12,oO (Eq.refl ([(Qaa.mk 4 QbT)].map Qaa.enc).length),aO Qaa.enc h13] (Qc3 Γ rv h)
 ·exact gn 5 [1,3] [0,1] [nL Qad.enc n.arcs,bF h12] (Qc3 Γ rv h)
theorem QdT {n} {rv:List Qaa} (h:QcC n=some rv):AFn Tryd.prog 6 [.agg (Qac.enc n)] [] (one (lL 2 rv Qaa.enc)) []:=by
 refine QbK Tryd.func6 fun Γ=>?_
 simp only [QcC,QaE,Qal,Qam] at h
 rcases h with ⟨h0,h1,h⟩|⟨h0,h⟩
 ·exact gn 9 [1,3] [0,2] [nL e_str n.places,bT h0,oO (Eq.refl ([(Qaa.mk 4 QaV)].map Qaa.enc).length),aN (l:=([(Qaa.mk 4 QaV)]:List Qaa)) Qaa.enc h1] (Qc2 Γ rv h)
 ·exact gn 9 [1,3] [0,1] [nL e_str n.places,bF h0,hW 1,hH (.adopt 3 2 31)] (Qc2 Γ rv h)
def QbX (Γ:Gam) (rv:ByteArray) (cf:Cf):Prop:=Go Tryd.prog Tryd.f32 [] Γ (one (.str rv)) [] cf
def Qcf (Γ:Gam) (rv:ByteArray) (n:Int) (s0:ByteArray) (left:Int) (again:Bool):Prop:=QbX Γ rv ⟨[.c 244,.l 244,.b 0,.c 31],⟨31,[vI 0 n,vS 3 s0,vI 4 left,vB 5 again],[]⟩⟩
def Qb6 (Γ:Gam) (rv:ByteArray) (n:Int) (s1:ByteArray):Prop:=QbX Γ rv ⟨[.c 31],⟨31,[vI 0 n,vS 3 s1],[]⟩⟩
theorem Qb5 (Γ:Gam) (rv:ByteArray) {n s0 left d} {x:(ByteArray×Int×Bool)⊕(ByteArray)} (h:QaQ n s0 left d=some x) (hI:∀ ⦃s:ByteArray×Int×Bool⦄,some (.inl s)=some x→Qcf Γ rv n s.1 s.2.1 s.2.2) (hE:∀ ⦃e:ByteArray⦄,some (.inr e)=some x→Qb6 Γ rv n e):QbX Γ rv ⟨[.c 7827,.b 1,.c 979,.l 244,.b 0,.c 31],⟨31,[vI 0 n,vS 3 s0,vI 4 left,vI 6 d],[]⟩⟩:=by
 simp only [QaQ,QaE,Qal,Qam] at h
 obtain ⟨h2,h⟩:=h
 exact gn 6 [0,3,4,5] [] [hH (.ints [(cvK .u8 (addK .i64 48 d))]),oO (Eq.refl ([(cvK .u8 (addK .i64 48 d))].map e_u8).length),oO (Eq.refl (([(cvK .u8 (addK .i64 48 d))].map e_u8):List (List Lf))),oO (h2),oO (oA (n:=10))] (hI h)
theorem Qdw (Γ:Gam) (rv:ByteArray) {n}:∀ ⦃s:ByteArray×Int×Bool⦄ ⦃e:ByteArray⦄,loopF (fun s=>Qa5 n s.1 s.2.1 s.2.2) s=some e→Qb6 Γ rv n e→Qcf Γ rv n s.1 s.2.1 s.2.2:=by
 refine Qbv ?_
 rintro ⟨s0,left,again⟩ z_ h hI hE
 simp only [Qa5,QaE,Qal,Qam] at h
 rcases h with ⟨h0,⟨h1,h⟩|⟨h1,h⟩⟩|⟨h0,h⟩
 ·exact gn 14 [0,3,4,6] [] [bT h0,oO (oA (n:=10)),bT h1] (Qb5 Γ rv h hI hE)
 ·exact gn 14 [0,3,4,6] [] [bT h0,oO (oA (n:=10)),bF h1] (Qb5 Γ rv h hI hE)
 ·exact gn 5 [0,3] [] [bF h0] (hE h)
theorem QaR {n} {rv:ByteArray} (h:Qav n=some rv):AFn Tryd.prog 32 [.one (lI n)] [] (one (.str rv)) []:=by
 refine QbK Tryd.func32 fun Γ=>?_
 simp only [Qav,QaE,Qal,Qam] at h
 obtain ⟨s1,h3,h⟩:=h
 refine gn 11 [0,3,4,5] [] [] (Qdw Γ rv h3 ?_)
 rcases h with ⟨h4,h5,h⟩|⟨h4,h⟩
 ·cases h
  exact gr 6 [] [bT h4,oO (h5)]
 ·obtain rfl:=oK h
  exact gr 7 [] [bF h4]
theorem QbH {c} {rv:Bool} (h:Qb7 c=some rv):AFn Tryd.prog 39 [.one (.int .u8 c)] [] (one (.bool rv)) []:=by
 refine QbK Tryd.func39 fun Γ=>?_
 simp only [Qb7,QaE,Qal,Qam] at h
 cases h
 exact gr 4 [] [hP,hP,hP,oI ((geI c 48)=true),oR True ((geI c 48)=true)]
theorem QbY {c} {rv:Bool} (h:QcJ c=some rv):AFn Tryd.prog 40 [.one (.int .u8 c)] [] (one (.bool rv)) []:=by
 refine QbK Tryd.func40 fun Γ=>?_
 simp only [QcJ,QaE,Qal,Qam] at h
 cases h
 exact gr 4 [] [rp 14 hP,oI ((geI c 97)=true),oR True ((geI c 97)=true),rp 2 (oI (((geI c 97)&&(leI c 122))=false)),oI ((((geI c 97)&&(leI c 122))=false)∧(geI c 65)=true),oI (((geI c 97)&&(leI c 122))=false),oI ((((geI c 97)&&(leI c 122))=false)∧(geI c 65)=true),oR True (((geI c 97)&&(leI c 122))=false),oI ((((geI c 97)&&(leI c 122))||((geI c 65)&&(leI c 90)))=false),oR True ((((geI c 97)&&(leI c 122))||((geI c 65)&&(leI c 90)))=false)]
def QdG (Γ:Gam) (rv:Bool) (cf:Cf):Prop:=Go Tryd.prog Tryd.f33 [] Γ (one (.bool rv)) [] cf
def QeE (Γ:Gam) (rv:Bool) (s0:ByteArray) (b:UInt8) (i:Int):Prop:=QdG Γ rv ⟨[.c 116,.l 116,.b 0,.c 15],⟨35,[vS 0 s0,vI 3 i],[]⟩⟩
def Qen (Γ:Gam) (rv:Bool) (s0:ByteArray) (b:UInt8):Prop:=QdG Γ rv ⟨[.c 15],⟨35,[],[]⟩⟩
theorem Qeo (Γ:Gam) (rv:Bool) {s0 b}:∀ ⦃s:Int⦄ ⦃e:(Unit)⊕(Bool)⦄,loopF (fun s=>Qbo s0 b s) s=some e→sel e (fun e=>Qen Γ rv s0 b) (fun e=>e=rv)→QeE Γ rv s0 b s:=by
 refine Qbv ?_
 intro i z_ h hI hE
 simp only [Qbo,QaE,Qal,Qam] at h
 rcases h with ⟨h4,b1,h5,r1,h6,⟨h7,h⟩|⟨h7,r2,h8,⟨h9,h⟩|⟨h9,h⟩⟩⟩|⟨h4,h⟩
 ·exact gn 14 [0,3] [] [bT h4,yE h5,cC (QbY h6),rp 6 (nF h7),fF] (hI h)
 ·exact gn 14 [0,3] [] [bT h4,yE h5,cC (QbY h6),rp 3 (nT h7),yE h5,nT h7,cC (QbH h8),nT h7,nT h7,nF h9] (hI h)
 ·obtain rfl:=(hE h:_=rv)
  exact gr 12 [] [bT h4,yE h5,cC (QbY h6),rp 3 (nT h7),yE h5,nT h7,cC (QbH h8),nT h7,nT h7,nT h9]
 ·exact gn 5 [] [] [bF h4] (hE h)
theorem Qdg {s0} {rv:Bool} (h:Qa6 s0=some rv):AFn Tryd.prog 33 [.one (.str s0)] [] (one (.bool rv)) []:=by
 refine QbK Tryd.func33 fun Γ=>?_
 simp only [Qa6,QaE,Qal,Qam] at h
 rcases h with ⟨h0,h⟩|⟨h0,b,h1,r,h2,⟨h3,h⟩|⟨h3,e0,h10,h⟩⟩
 ·obtain rfl:=oK h
  exact gr 8 [] [rp 4 hP,rp 2 (oI ((ltI (sizeS s0) 1)=false)),oR True ((ltI (sizeS s0) 1)=false),rp 4 (bT h0),tT]
 ·obtain rfl:=oK h
  exact gr 8 [] [rp 4 hP,rp 2 (oI ((ltI (sizeS s0) 1)=false)),oR True ((ltI (sizeS s0) 1)=false),bF h0,bF h0,yE h1,bF h0,cC (QbH h2),bF h0,bT h3]
 ·refine gn 12 [0,3] [] [rp 4 hP,rp 2 (oI ((ltI (sizeS s0) 1)=false)),oR True ((ltI (sizeS s0) 1)=false),bF h0,bF h0,yE h1,bF h0,cC (QbH h2),bF h0,bF h3] (Qeo Γ rv h10 ?_)
  rcases e0 with e0|r3
  ·obtain rfl:=oK h
   exact gr 2 [] []
  ·exact oK h
def QbP (Γ:Gam) (rv:List Qaa) (cf:Cf):Prop:=Go Tryd.prog Tryd.f34 [] Γ (one (lL 2 rv Qaa.enc)) [] cf
def QcL (Γ:Gam) (rv:List Qaa) (l:List Qab) (l2:List Qaa) (i:Int):Prop:=QbP Γ rv ⟨[.c 244,.l 244,.b 0,.c 31],⟨88,[vL 0 2 l Qab.enc,vO 3 0 2 l2 Qaa.enc,vI 4 i],[oS 2 31 l2 Qaa.enc]⟩⟩
def Qcy (Γ:Gam) (rv:List Qaa) (l:List Qab) (l4:List Qaa):Prop:=QbP Γ rv ⟨[.c 31],⟨88,[vO 3 0 2 l4 Qaa.enc],[oS 2 31 l4 Qaa.enc]⟩⟩
theorem Qcx (Γ:Gam) (rv:List Qaa) {l i x0 l3} {x:(List Qaa×Int)⊕(List Qaa)} (h:QaT l i x0 l3=some x) (hI:∀ ⦃s:List Qaa×Int⦄,some (.inl s)=some x→QcL Γ rv l s.1 s.2) (hE:∀ ⦃e:List Qaa⦄,some (.inr e)=some x→Qcy Γ rv l e):QbP Γ rv ⟨[.c 7827,.b 1,.c 979,.l 244,.b 0,.c 31],⟨88,[vL 0 2 l Qab.enc,vO 3 0 2 l3 Qaa.enc,vI 4 i,vP 5 1 2],[oS 2 31 l3 Qaa.enc,oX 2 66 (Qab.enc x0)]⟩⟩:=by
 simp only [QaT,QaE,Qal,Qam] at h
 rcases h with ⟨h7,x1,h8,⟨h9,r1,h10,h11,h⟩|⟨h9,⟨h12,r2,h13,h14,h⟩|⟨h12,h⟩⟩⟩|⟨h7,h⟩
 ·exact gn 7 [0,3,4] [3] [hH (.draw 24 []),rp 6 (bT h7),cE Qab.enc h8,rp 4 (bT h7),rp 9 (bT h9),bT h7,bT h9,bT h7,tT,cC (QaR h10),oO (Eq.refl ([(Qaa.mk 13 r1)].map Qaa.enc).length),aO Qaa.enc h11] (hI h)
 ·exact gn 7 [0,3,4] [3] [hH (.draw 24 []),rp 6 (bT h7),cE Qab.enc h8,rp 4 (bT h7),rp 6 (bF h9),cE Qab.enc h8,rp 3 (bF h9),bT h7,bF h9,bT h7,bT h12,cC (QaR h13),oO (Eq.refl ([(Qaa.mk 13 r2)].map Qaa.enc).length),aO Qaa.enc h14] (hI h)
 ·exact gn 7 [0,3,4] [0] [hH (.draw 24 []),rp 6 (bT h7),cE Qab.enc h8,rp 4 (bT h7),rp 6 (bF h9),cE Qab.enc h8,rp 3 (bF h9),bT h7,bF h9,bT h7,bF h12] (hI h)
 ·exact gn 7 [0,3,4] [0] [hH (.draw 24 []),rp 10 (bF h7),rp 9 kF,bF h7,bF h7,fF] (hI h)
theorem QdP (Γ:Gam) (rv:List Qaa) {l}:∀ ⦃s:List Qaa×Int⦄ ⦃e:List Qaa⦄,loopF (fun s=>QaK l s.1 s.2) s=some e→Qcy Γ rv l e→QcL Γ rv l s.1 s.2:=by
 refine Qbv ?_
 rintro ⟨l2,i⟩ z_ h hI hE
 simp only [QaK,QaE,Qal,Qam] at h
 rcases h with ⟨h2,x0,h3,⟨h4,r,h5,h6,h⟩|⟨h4,h⟩⟩|⟨h2,h⟩
 ·exact gn 14 [0,3,4,5] [3,1] [nL Qab.enc l,bT h2,cE Qab.enc h3,rp 17 hP,rp 2 (oI ((ltI x0.t 0)=false)),oR True ((ltI x0.t 0)=false),rp 4 (oI (((ltI x0.t 0)||(gtI x0.t 4096))=false)),oR True (((ltI x0.t 0)||(gtI x0.t 4096))=false),rp 5 (oI ((((ltI x0.t 0)||(gtI x0.t 4096))||(ltI x0.a x0.t))=false)),oR True ((((ltI x0.t 0)||(gtI x0.t 4096))||(ltI x0.a x0.t))=false),bT h4,cC (QaR h5),oO (Eq.refl ([(Qaa.mk 2 r)].map Qaa.enc).length),aO Qaa.enc h6] (Qcx Γ rv h hI hE)
 ·exact gn 14 [0,3,4,5] [0,1] [nL Qab.enc l,bT h2,cE Qab.enc h3,rp 17 hP,rp 2 (oI ((ltI x0.t 0)=false)),oR True ((ltI x0.t 0)=false),rp 4 (oI (((ltI x0.t 0)||(gtI x0.t 4096))=false)),oR True (((ltI x0.t 0)||(gtI x0.t 4096))=false),rp 5 (oI ((((ltI x0.t 0)||(gtI x0.t 4096))||(ltI x0.a x0.t))=false)),oR True ((((ltI x0.t 0)||(gtI x0.t 4096))||(ltI x0.a x0.t))=false),bF h4] (Qcx Γ rv h hI hE)
 ·exact gn 5 [3] [0] [nL Qab.enc l,bF h2] (hE h)
theorem Qcw (Γ:Gam) (rv:List Qaa) {l l1} (h:QaY l l1=some rv):QbP Γ rv ⟨[.c 15],⟨88,[vL 0 2 l Qab.enc,vO 3 0 2 l1 Qaa.enc],[oS 2 31 l1 Qaa.enc]⟩⟩:=by
 simp only [QaY,QaE,Qal,Qam] at h
 obtain ⟨l4,h15,h⟩:=h
 refine gn 5 [0,3,4] [0] [] (QdP Γ rv h15 ?_)
 obtain rfl:=oK h
 exact gr 2 [] [hW 4,hH (.frz 0),rp 3 (eL l4 Qaa.enc)]
theorem QeU {l} {rv:List Qaa} (h:QaM l=some rv):AFn Tryd.prog 34 [.one (lL 2 l Qab.enc)] [] (one (lL 2 rv Qaa.enc)) []:=by
 refine QbK Tryd.func34 fun Γ=>?_
 simp only [QaM,QaE,Qal,Qam] at h
 rcases h with ⟨h0,h1,h⟩|⟨h0,h⟩
 ·exact gn 9 [0,3] [1] [nL Qab.enc l,hP,hP,oI ((ltI (lenI l) 1)=false),nL Qab.enc l,hP,hP,oI ((ltI (lenI l) 1)=false),oR True ((ltI (lenI l) 1)=false),bT h0,oO (Eq.refl ([(Qaa.mk 4 ByteArray.empty)].map Qaa.enc).length),aN (l:=([(Qaa.mk 4 ByteArray.empty)]:List Qaa)) Qaa.enc h1] (Qcw Γ rv h)
 ·exact gn 9 [0,3] [0] [nL Qab.enc l,hP,hP,oI ((ltI (lenI l) 1)=false),nL Qab.enc l,hP,hP,oI ((ltI (lenI l) 1)=false),oR True ((ltI (lenI l) 1)=false),bF h0,hW 1,hH (.adopt 3 2 31)] (Qcw Γ rv h)
theorem QaP {t} {rv:Bool} (h:Qbm t=some rv):AFn Tryd.prog 35 [.one (lI t)] [] (one (.bool rv)) []:=by
 refine QbK Tryd.func35 fun Γ=>?_
 simp only [Qbm,QaE,Qal,Qam] at h
 cases h
 exact gr 4 [] [hP,hP,hP,oI ((geI t 0)=true),oR True ((geI t 0)=true)]
def Qay (Γ:Gam) (rv:List Qaa) (cf:Cf):Prop:=Go Tryd.prog Tryd.f20 [] Γ (one (lL 2 rv Qaa.enc)) [] cf
def Qdx (Γ:Gam) (rv:List Qaa) (n:Qac) (i:Int) (r:ByteArray) (x0:Qad) (l:List Qaa) (l1:List Qaa) (twice:Bool) (k:Int):Prop:=Qay Γ rv ⟨[.c 4084,.l 4084,.b 0,.c 511],⟨192,[vI 1 i,vP 2 0 2,vO 5 1 2 l1 Qaa.enc,vS 6 (catS Qaj r),vP 7 2 6,vB 8 twice,vI 9 k],[oX 2 25 (Qac.enc n),oS 2 31 l1 Qaa.enc,oX 6 38 (Qad.enc x0)]⟩⟩
def Qdh (Γ:Gam) (rv:List Qaa) (n:Qac) (i:Int) (r:ByteArray) (x0:Qad) (l:List Qaa) (l1:List Qaa) (twice1:Bool):Prop:=Qay Γ rv ⟨[.c 511],⟨192,[vO 5 0 2 l1 Qaa.enc,vS 6 (catS Qaj r),vP 7 1 6,vB 8 twice1],[oS 2 31 l1 Qaa.enc,oX 6 38 (Qad.enc x0)]⟩⟩
def Qdy (Γ:Gam) (rv:List Qaa) (r:ByteArray) (x0:Qad) (l:List Qaa) (r1:List Qaa) (l3:List Qaa) (k1:Int):Prop:=Qay Γ rv ⟨[.c 32756,.l 32756,.b 2,.c 4095],⟨192,[vO 5 0 2 l3 Qaa.enc,vS 6 (catS Qaj r),vP 7 1 6,vL 11 2 r1 Qaa.enc,vI 12 k1],[oS 2 31 l3 Qaa.enc,oX 6 38 (Qad.enc x0)]⟩⟩
def Qdj (Γ:Gam) (rv:List Qaa) (r:ByteArray) (x0:Qad) (l:List Qaa) (r1:List Qaa) (l4:List Qaa):Prop:=Qay Γ rv ⟨[.c 4095],⟨192,[vO 5 0 2 l4 Qaa.enc,vS 6 (catS Qaj r),vP 7 1 6],[oS 2 31 l4 Qaa.enc,oX 6 38 (Qad.enc x0)]⟩⟩
def Qdz (Γ:Gam) (rv:List Qaa) (r:ByteArray) (x0:Qad) (l:List Qaa) (l6:List Qaa) (k2:Int):Prop:=Qay Γ rv ⟨[.c 131060,.l 131060,.b 4,.c 16383],⟨192,[vO 5 0 2 l6 Qaa.enc,vS 6 (catS Qaj r),vP 7 1 6,vI 13 k2],[oS 2 31 l6 Qaa.enc,oX 6 38 (Qad.enc x0)]⟩⟩
def Qdl (Γ:Gam) (rv:List Qaa) (r:ByteArray) (x0:Qad) (l:List Qaa) (l7:List Qaa):Prop:=Qay Γ rv ⟨[.c 16383],⟨192,[vO 5 0 2 l7 Qaa.enc],[oS 2 31 l7 Qaa.enc]⟩⟩
theorem Qdi (Γ:Gam) (rv:List Qaa) {n i r x0 l l1}:∀ ⦃s:Bool×Int⦄ ⦃e:Bool⦄,loopF (fun s=>Qan n i r x0 l l1 s.1 s.2) s=some e→Qdh Γ rv n i r x0 l l1 e→Qdx Γ rv n i r x0 l l1 s.1 s.2:=by
 refine Qbv ?_
 rintro ⟨twice,k⟩ z_ h hI hE
 simp only [Qan,QaE,Qal,Qam] at h
 rcases h with ⟨h7,x1,h8,h⟩|⟨h7,h⟩
 ·exact gn 13 [1,2,5,6,7,8,9] [0,1,2] [bT h7,cE Qad.enc h8,rp 22 hP,rp 5 (oI (twice=false)),rp 4 (oI ((twice=false)∧(eqI x0.from_ x1.from_)=true)),oI (twice=false),oI ((twice=false)∧(eqI x0.from_ x1.from_)=true),oI (twice=false),rp 4 (oI ((twice=false)∧((eqI x0.from_ x1.from_)&&(eqI x0.to_ x1.to_))=true)),oI (twice=false),oI ((twice=false)∧((eqI x0.from_ x1.from_)&&(eqI x0.to_ x1.to_))=true),oR True (twice=false)] (hI h)
 ·exact gn 5 [5,6,7,8] [1,2] [bF h7] (hE h)
theorem Qdk (Γ:Gam) (rv:List Qaa) {r x0 l r1}:∀ ⦃s:List Qaa×Int⦄ ⦃e:List Qaa⦄,loopF (fun s=>Qao r x0 l r1 s.1 s.2) s=some e→Qdj Γ rv r x0 l r1 e→Qdy Γ rv r x0 l r1 s.1 s.2:=by
 refine Qbv ?_
 rintro ⟨l3,k1⟩ z_ h hI hE
 simp only [Qao,QaE,Qal,Qam] at h
 rcases h with ⟨h13,x2,h14,h15,h⟩|⟨h13,h⟩
 ·exact gn 11 [5,6,7,11,12] [3,1] [nL Qaa.enc r1,bT h13,cE Qaa.enc h14,oO (Eq.refl ([(Qaa.mk x2.err (catS Qaj r))].map Qaa.enc).length),aO Qaa.enc h15] (hI h)
 ·exact gn 5 [5,6,7] [0,1] [nL Qaa.enc r1,bF h13] (hE h)
theorem Qdm (Γ:Gam) (rv:List Qaa) {r x0 l}:∀ ⦃s:List Qaa×Int⦄ ⦃e:List Qaa⦄,loopF (fun s=>Qap r x0 l s.1 s.2) s=some e→Qdl Γ rv r x0 l e→Qdz Γ rv r x0 l s.1 s.2:=by
 refine Qbv ?_
 rintro ⟨l6,k2⟩ z_ h hI hE
 simp only [Qap,QaE,Qal,Qam] at h
 rcases h with ⟨h19,x3,h20,r2,h21,⟨h22,r3,h23,⟨h24,⟨h25,x4,h26,⟨h27,h28,h⟩|⟨h27,h⟩⟩|⟨h25,h⟩⟩|⟨h24,h29,h⟩⟩|⟨h22,h30,h⟩⟩|⟨h19,h⟩
 ·exact gn 16 [5,6,7,13] [4,1] [nL Qab.enc x0.slow,bT h19,cE Qab.enc h20,hH (.draw 26 []),cC (QaP h21),rp 3 (nF h22),cC (QaP h23),rp 2 (nF h22),rp 3 (nF h24),rp 7 (bT h25),cE Qab.enc h26,rp 3 (bT h25),nF h24,bT h25,nF h24,bT h27,oO (Eq.refl ([(Qaa.mk 2 (catS Qaj r))].map Qaa.enc).length),aO Qaa.enc h28] (hI h)
 ·exact gn 16 [5,6,7,13] [0,1] [nL Qab.enc x0.slow,bT h19,cE Qab.enc h20,hH (.draw 26 []),cC (QaP h21),rp 3 (nF h22),cC (QaP h23),rp 2 (nF h22),rp 3 (nF h24),rp 7 (bT h25),cE Qab.enc h26,rp 3 (bT h25),nF h24,bT h25,nF h24,bF h27] (hI h)
 ·exact gn 16 [5,6,7,13] [0,1] [nL Qab.enc x0.slow,bT h19,cE Qab.enc h20,hH (.draw 26 []),cC (QaP h21),rp 3 (nF h22),cC (QaP h23),rp 2 (nF h22),rp 3 (nF h24),rp 10 (bF h25),nF h24,bF h25,nF h24,fF] (hI h)
 ·exact gn 16 [5,6,7,13] [4,1] [nL Qab.enc x0.slow,bT h19,cE Qab.enc h20,hH (.draw 26 []),cC (QaP h21),rp 3 (nF h22),cC (QaP h23),rp 2 (nF h22),rp 3 (nT h24),rp 10 kF,rp 2 (nT h24),tT,oO (Eq.refl ([(Qaa.mk 2 (catS Qaj r))].map Qaa.enc).length),aO Qaa.enc h29] (hI h)
 ·exact gn 16 [5,6,7,13] [4,1] [nL Qab.enc x0.slow,bT h19,cE Qab.enc h20,hH (.draw 26 []),cC (QaP h21),rp 5 (nT h22),tT,tT,tT,rp 10 kF,tT,tT,tT,oO (Eq.refl ([(Qaa.mk 2 (catS Qaj r))].map Qaa.enc).length),aO Qaa.enc h30] (hI h)
 ·exact gn 5 [5] [0] [nL Qab.enc x0.slow,bF h19] (hE h)
theorem Qb3 (Γ:Gam) (rv:List Qaa) {r x0 l l5} (h:Qaz r x0 l l5=some rv):Qay Γ rv ⟨[.c 8191],⟨192,[vO 5 0 2 l5 Qaa.enc,vS 6 (catS Qaj r),vP 7 1 6],[oS 2 31 l5 Qaa.enc,oX 6 38 (Qad.enc x0)]⟩⟩:=by
 simp only [Qaz,QaE,Qal,Qam] at h
 obtain ⟨l7,h31,h⟩:=h
 refine gn 5 [5,6,7,13] [0,1] [] (Qdm Γ rv h31 ?_)
 obtain rfl:=oK h
 exact gr 2 [] [hW 4,hH (.frz 0),rp 3 (eL l7 Qaa.enc)]
theorem Qb2 (Γ:Gam) (rv:List Qaa) {r x0 l l2} (h:QaI r x0 l l2=some rv):Qay Γ rv ⟨[.c 1023],⟨192,[vO 5 0 2 l2 Qaa.enc,vS 6 (catS Qaj r),vP 7 1 6],[oS 2 31 l2 Qaa.enc,oX 6 38 (Qad.enc x0)]⟩⟩:=by
 simp only [QaI,QaE,Qal,Qam] at h
 obtain ⟨r1,h12,l4,h16,h⟩:=h
 refine gn 7 [5,6,7,11,12] [0,1] [cC (QeU h12)] (Qdk Γ rv h16 ?_)
 rcases h with ⟨h17,h18,h⟩|⟨h17,h⟩
 ·exact gn 5 [5,6,7] [3,1] [nL Qab.enc x0.slow,bT h17,oO (Eq.refl ([(Qaa.mk 4 (catS Qaj r))].map Qaa.enc).length),aO Qaa.enc h18] (Qb3 Γ rv h)
 ·exact gn 5 [5,6,7] [0,1] [nL Qab.enc x0.slow,bF h17] (Qb3 Γ rv h)
theorem Qb1 (Γ:Gam) (rv:List Qaa) {n i r x0 l l1} (h:QaH n i r x0 l l1=some rv):Qay Γ rv ⟨[.c 127],⟨192,[vI 1 i,vP 2 0 2,vO 5 1 2 l1 Qaa.enc,vS 6 (catS Qaj r),vP 7 2 6],[oX 2 25 (Qac.enc n),oS 2 31 l1 Qaa.enc,oX 6 38 (Qad.enc x0)]⟩⟩:=by
 simp only [QaH,QaE,Qal,Qam] at h
 obtain ⟨twice1,h9,h⟩:=h
 refine gn 7 [1,2,5,6,7,8,9] [0,1,2] [] (Qdi Γ rv h9 ?_)
 rcases h with ⟨h10,h11,h⟩|⟨h10,h⟩
 ·exact gn 5 [5,6,7] [3,1] [bT h10,oO (Eq.refl ([(Qaa.mk 6 (catS Qaj r))].map Qaa.enc).length),aO Qaa.enc h11] (Qb2 Γ rv h)
 ·exact gn 5 [5,6,7] [0,1] [bF h10] (Qb2 Γ rv h)
theorem Qb0 (Γ:Gam) (rv:List Qaa) {n i r x0 l} (h:QaG n i r x0 l=some rv):Qay Γ rv ⟨[.c 63],⟨192,[vI 1 i,vP 2 0 2,vO 5 1 2 l Qaa.enc,vS 6 (catS Qaj r),vP 7 2 6],[oX 2 25 (Qac.enc n),oS 2 31 l Qaa.enc,oX 6 38 (Qad.enc x0)]⟩⟩:=by
 simp only [QaG,QaE,Qal,Qam] at h
 rcases h with ⟨h5,h6,h⟩|⟨h5,h⟩
 ·exact gn 5 [1,2,5,6,7] [0,4,2] [rp 18 hP,rp 2 (oI ((ltI x0.profile 0)=false)),oR True ((ltI x0.profile 0)=false),rp 2 (oI (((ltI x0.profile 0)||(gtI x0.profile 7))=false)),oR True (((ltI x0.profile 0)||(gtI x0.profile 7))=false),rp 2 (oI ((((ltI x0.profile 0)||(gtI x0.profile 7))||(ltI x0.miles 0))=false)),oR True ((((ltI x0.profile 0)||(gtI x0.profile 7))||(ltI x0.miles 0))=false),rp 4 (oI (((((ltI x0.profile 0)||(gtI x0.profile 7))||(ltI x0.miles 0))||(gtI x0.miles 10000))=false)),oR True (((((ltI x0.profile 0)||(gtI x0.profile 7))||(ltI x0.miles 0))||(gtI x0.miles 10000))=false),bT h5,oO (Eq.refl ([(Qaa.mk 2 (catS Qaj r))].map Qaa.enc).length),aO Qaa.enc h6] (Qb1 Γ rv h)
 ·exact gn 5 [1,2,5,6,7] [0,1,2] [rp 18 hP,rp 2 (oI ((ltI x0.profile 0)=false)),oR True ((ltI x0.profile 0)=false),rp 2 (oI (((ltI x0.profile 0)||(gtI x0.profile 7))=false)),oR True (((ltI x0.profile 0)||(gtI x0.profile 7))=false),rp 2 (oI ((((ltI x0.profile 0)||(gtI x0.profile 7))||(ltI x0.miles 0))=false)),oR True ((((ltI x0.profile 0)||(gtI x0.profile 7))||(ltI x0.miles 0))=false),rp 4 (oI (((((ltI x0.profile 0)||(gtI x0.profile 7))||(ltI x0.miles 0))||(gtI x0.miles 10000))=false)),oR True (((((ltI x0.profile 0)||(gtI x0.profile 7))||(ltI x0.miles 0))||(gtI x0.miles 10000))=false),bF h5] (Qb1 Γ rv h)
theorem QdS {n i} {rv:List Qaa} (h:Qa0 n i=some rv):AFn Tryd.prog 20 [.agg (Qac.enc n),.one (lI i)] [] (one (lL 2 rv Qaa.enc)) []:=by
 refine QbK Tryd.func20 fun Γ=>?_
 simp only [Qa0,QaE,Qal,Qam] at h
 rcases h with ⟨r,h0,h1,x0,h2,⟨h3,h4,h⟩|⟨h3,h⟩⟩
 ·exact gn 13 [1,2,5,6,7] [0,3,1] [cC (QaR h0),oO (h1),cE Qad.enc h2,rp 5 hP,rp 3 (oI ((ltI x0.from_ 0)=false)),nL e_str n.places,rp 11 hP,rp 2 (oI ((ltI x0.from_ 0)=false)),oR True ((ltI x0.from_ 0)=false),rp 2 (oI (((ltI x0.from_ 0)||(geI x0.from_ (lenI n.places)))=false)),oR True (((ltI x0.from_ 0)||(geI x0.from_ (lenI n.places)))=false),rp 3 (oI ((((ltI x0.from_ 0)||(geI x0.from_ (lenI n.places)))||(ltI x0.to_ 0))=false)),nL e_str n.places,hP,hP,rp 2 (oI ((((ltI x0.from_ 0)||(geI x0.from_ (lenI n.places)))||(ltI x0.to_ 0))=false)),oR True ((((ltI x0.from_ 0)||(geI x0.from_ (lenI n.places)))||(ltI x0.to_ 0))=false),bT h3,oO (Eq.refl ([(Qaa.mk 11 (catS Qaj r))].map Qaa.enc).length),aN (l:=([(Qaa.mk 11 (catS Qaj r))]:List Qaa)) Qaa.enc h4] (Qb0 Γ rv h)
 ·exact gn 13 [1,2,5,6,7] [0,2,1] [cC (QaR h0),oO (h1),cE Qad.enc h2,rp 5 hP,rp 3 (oI ((ltI x0.from_ 0)=false)),nL e_str n.places,rp 11 hP,rp 2 (oI ((ltI x0.from_ 0)=false)),oR True ((ltI x0.from_ 0)=false),rp 2 (oI (((ltI x0.from_ 0)||(geI x0.from_ (lenI n.places)))=false)),oR True (((ltI x0.from_ 0)||(geI x0.from_ (lenI n.places)))=false),rp 3 (oI ((((ltI x0.from_ 0)||(geI x0.from_ (lenI n.places)))||(ltI x0.to_ 0))=false)),nL e_str n.places,hP,hP,rp 2 (oI ((((ltI x0.from_ 0)||(geI x0.from_ (lenI n.places)))||(ltI x0.to_ 0))=false)),oR True ((((ltI x0.from_ 0)||(geI x0.from_ (lenI n.places)))||(ltI x0.to_ 0))=false),bF h3,hW 1,hH (.adopt 5 2 31)] (Qb0 Γ rv h)
def QaN (Γ:Gam) (rv:List Qaa) (cf:Cf):Prop:=Go Tryd.prog Tryd.f19 [] Γ (one (lO 0 2 rv Qaa.enc)) [oS 2 31 rv Qaa.enc] cf
def QcB (Γ:Gam) (rv:List Qaa) (n:Qac) (l:List Qaa) (l1:List Qaa) (i:Int) (r:ByteArray) (twice:Bool) (k:Int):Prop:=QaN Γ rv ⟨[.c 250484,.l 250484,.b 2,.c 31311,.b 1,.c 979,.l 244,.b 0,.c 31],⟨64,[vP 1 0 2,vO 3 1 2 l1 Qaa.enc,vI 4 i,vS 5 (catS QaA r),vB 6 twice,vI 7 k],[oX 2 25 (Qac.enc n),oS 2 31 l1 Qaa.enc]⟩⟩
def Qcl (Γ:Gam) (rv:List Qaa) (n:Qac) (l:List Qaa) (l1:List Qaa) (i:Int) (r:ByteArray) (twice1:Bool):Prop:=QaN Γ rv ⟨[.c 31311,.b 1,.c 979,.l 244,.b 0,.c 31],⟨64,[vP 1 0 2,vO 3 1 2 l1 Qaa.enc,vI 4 i,vS 5 (catS QaA r),vB 6 twice1],[oX 2 25 (Qac.enc n),oS 2 31 l1 Qaa.enc]⟩⟩
def QcA (Γ:Gam) (rv:List Qaa) (n:Qac) (l:List Qaa) (l1:List Qaa) (i:Int):Prop:=QaN Γ rv ⟨[.c 244,.l 244,.b 0,.c 31],⟨64,[vP 1 0 2,vO 3 1 2 l1 Qaa.enc,vI 4 i],[oX 2 25 (Qac.enc n),oS 2 31 l1 Qaa.enc]⟩⟩
def Qcj (Γ:Gam) (rv:List Qaa) (n:Qac) (l:List Qaa) (l2:List Qaa):Prop:=QaN Γ rv ⟨[.c 31],⟨64,[vO 3 0 2 l2 Qaa.enc],[oS 2 31 l2 Qaa.enc]⟩⟩
theorem Qcm (Γ:Gam) (rv:List Qaa) {n l l1 i r}:∀ ⦃s:Bool×Int⦄ ⦃e:Bool⦄,loopF (fun s=>Qai n l l1 i r s.1 s.2) s=some e→Qcl Γ rv n l l1 i r e→QcB Γ rv n l l1 i r s.1 s.2:=by
 refine Qbv ?_
 rintro ⟨twice,k⟩ z_ h hI hE
 simp only [Qai,QaE,Qal,Qam] at h
 rcases h with ⟨h8,⟨h9,h⟩|⟨h9,x1,h10,x2,h11,h⟩⟩|⟨h8,h⟩
 ·exact gn 11 [1,3,4,5,6,7] [0,1] [bT h8,hH (.draw 14 []),rp 12 (bT h9)] (hI h)
 ·exact gn 11 [1,3,4,5,6,7] [0,1] [bT h8,hH (.draw 14 []),rp 4 (bF h9),cE e_str h10,rp 5 (bF h9),cE e_str h11,rp 3 (bF h9)] (hI h)
 ·exact gn 5 [1,3,4,5,6] [0,1] [bF h8] (hE h)
theorem Qck (Γ:Gam) (rv:List Qaa) {n l}:∀ ⦃s:List Qaa×Int⦄ ⦃e:List Qaa⦄,loopF (fun s=>Qah n l s.1 s.2) s=some e→Qcj Γ rv n l e→QcA Γ rv n l s.1 s.2:=by
 refine Qbv ?_
 rintro ⟨l1,i⟩ z_ h hI hE
 simp only [Qah,QaE,Qal,Qam] at h
 rcases h with ⟨h2,r,h3,h4,x0,h5,r1,h6,⟨h7,twice1,h12,h⟩|⟨h7,h15,h⟩⟩|⟨h2,h⟩
 ·refine gn 21 [1,3,4,5,6,7] [0,1] [nL e_str n.places,bT h2,cC (QaR h3),oO (h4),cE e_str h5,cC (Qdg h6),nF h7] (Qcm Γ rv h12 ?_)
  rcases h with ⟨h13,h14,h⟩|⟨h13,h⟩
  ·exact gn 7 [1,3,4] [0,3] [bT h13,oO (Eq.refl ([(Qaa.mk 6 (catS QaA r))].map Qaa.enc).length),aO Qaa.enc h14] (hI h)
  ·exact gn 7 [1,3,4] [0,1] [bF h13] (hI h)
 ·exact gn 18 [1,3,4] [0,3] [nL e_str n.places,bT h2,cC (QaR h3),oO (h4),cE e_str h5,cC (Qdg h6),nT h7,oO (Eq.refl ([(Qaa.mk 5 (catS QaA r))].map Qaa.enc).length),aO Qaa.enc h15] (hI h)
 ·exact gn 5 [3] [1] [nL e_str n.places,bF h2] (hE h)
theorem Qbp (Γ:Gam) (rv:List Qaa) {n l} (h:Qax n l=some rv):QaN Γ rv ⟨[.c 15],⟨64,[vP 1 0 2,vO 3 1 2 l Qaa.enc],[oX 2 25 (Qac.enc n),oS 2 31 l Qaa.enc]⟩⟩:=by
 simp only [Qax,QaE,Qal,Qam] at h
 obtain ⟨l2,h16,h⟩:=h
 refine gn 5 [1,3,4] [0,1] [] (Qck Γ rv h16 ?_)
 obtain rfl:=oK h
 exact gr 2 [0] []
theorem QbI {n} {rv:List Qaa} (h:QaB n=some rv):AFn Tryd.prog 19 [.agg (Qac.enc n)] [] (one (lO 0 2 rv Qaa.enc)) [oS 2 31 rv Qaa.enc]:=by
 refine QbK Tryd.func19 fun Γ=>?_
 simp only [QaB,QaE,Qal,Qam] at h
 rcases h with ⟨h0,h1,h⟩|⟨h0,h⟩
 ·exact gn 9 [1,3] [0,2] [nL e_str n.places,bT h0,oO (Eq.refl ([(Qaa.mk 4 QaV)].map Qaa.enc).length),aN (l:=([(Qaa.mk 4 QaV)]:List Qaa)) Qaa.enc h1] (Qbp Γ rv h)
 ·exact gn 9 [1,3] [0,1] [nL e_str n.places,bF h0,hW 1,hH (.adopt 3 2 31)] (Qbp Γ rv h)
def Qci (Γ:Gam) (rv:List Qaa) (cf:Cf):Prop:=Go Tryd.prog Tryd.f7 [] Γ (one (lL 2 rv Qaa.enc)) [] cf
def Qep (Γ:Gam) (rv:List Qaa) (n:Qac) (l:List Qaa) (l1:List Qaa) (i:Int):Prop:=Qci Γ rv ⟨[.c 244,.l 244,.b 0,.c 31],⟨28,[vP 1 0 2,vO 3 1 2 l1 Qaa.enc,vI 4 i],[oX 2 25 (Qac.enc n),oS 2 31 l1 Qaa.enc]⟩⟩
def QdQ (Γ:Gam) (rv:List Qaa) (n:Qac) (l:List Qaa) (l2:List Qaa):Prop:=Qci Γ rv ⟨[.c 31],⟨28,[vO 3 0 2 l2 Qaa.enc],[oS 2 31 l2 Qaa.enc]⟩⟩
theorem QdR (Γ:Gam) (rv:List Qaa) {n l}:∀ ⦃s:List Qaa×Int⦄ ⦃e:List Qaa⦄,loopF (fun s=>Qaw n l s.1 s.2) s=some e→QdQ Γ rv n l e→Qep Γ rv n l s.1 s.2:=by
 refine Qbv ?_
 rintro ⟨l1,i⟩ z_ h hI hE
 simp only [Qaw,QaE,Qal,Qam] at h
 rcases h with ⟨h3,r1,h4,h5,h⟩|⟨h3,h⟩
 ·exact gn 11 [1,3,4] [0,2] [nL Qad.enc n.arcs,bT h3,cC (QdS h4),aO Qaa.enc h5] (hI h)
 ·exact gn 5 [3] [1] [nL Qad.enc n.arcs,bF h3] (hE h)
theorem Qcz (Γ:Gam) (rv:List Qaa) {n l} (h:QaZ n l=some rv):Qci Γ rv ⟨[.c 15],⟨28,[vP 1 0 2,vO 3 1 2 l Qaa.enc],[oX 2 25 (Qac.enc n),oS 2 31 l Qaa.enc]⟩⟩:=by
 simp only [QaZ,QaE,Qal,Qam] at h
 obtain ⟨l2,h6,h⟩:=h
 refine gn 5 [1,3,4] [0,1] [] (QdR Γ rv h6 ?_)
 obtain rfl:=oK h
 exact gr 2 [] [hW 4,hH (.frz 0),rp 3 (eL l2 Qaa.enc)]
theorem Qc1 {n} {rv:List Qaa} (h:Qbf n=some rv):AFn Tryd.prog 7 [.agg (Qac.enc n)] [] (one (lL 2 rv Qaa.enc)) []:=by
 refine QbK Tryd.func7 fun Γ=>?_
 simp only [Qbf,QaE,Qal,Qam] at h
 rcases h with ⟨r,h0,⟨h1,h2,h⟩|⟨h1,h⟩⟩
 ·exact gn 9 [1,3] [0,3] [cC (QbI h0),nL Qad.enc n.arcs,bT h1,oO (Eq.refl ([(Qaa.mk 4 QbT)].map Qaa.enc).length),aO Qaa.enc h2] (Qcz Γ rv h)
 ·exact gn 9 [1,3] [0,1] [cC (QbI h0),nL Qad.enc n.arcs,bF h1] (Qcz Γ rv h)
def QbU (Γ:Gam) (rv:Bool) (cf:Cf):Prop:=Go Tryd.prog Tryd.f3 [] Γ (one (.bool rv)) [] cf
def QcM (Γ:Gam) (rv:Bool) (r1:List Qaa) (r2:List Qaa) (v:Int):Prop:=QbU Γ rv ⟨[.c 500,.l 500,.b 0,.c 63],⟨42,[vL 3 2 r1 Qaa.enc,vL 4 2 r2 Qaa.enc,vI 27 (lenI r1),vI 28 v],[]⟩⟩
def QcG (Γ:Gam) (rv:Bool) (r1:List Qaa) (r2:List Qaa):Prop:=QbU Γ rv ⟨[.c 63],⟨42,[],[]⟩⟩
theorem QcH (Γ:Gam) (rv:Bool) {r1 r2}:∀ ⦃s:Int⦄ ⦃e:(Unit)⊕(Bool)⦄,loopF (fun s=>Qas r1 r2 s) s=some e→sel e (fun e=>QcG Γ rv r1 r2) (fun e=>e=rv)→QcM Γ rv r1 r2 s:=by
 refine Qbv ?_
 intro v z_ h hI hE
 simp only [Qas,QaE,Qal,Qam] at h
 rcases h with ⟨h5,x0,h6,x1,h7,⟨h8,h⟩|⟨h8,h⟩⟩|⟨h5,h⟩
 ·exact gn 16 [3,4,27,28] [] [bT h5,hH (.draw 9 []),cE Qaa.enc h6,cE Qaa.enc h7,nF h8] (hI h)
 ·obtain rfl:=(hE h:_=rv)
  exact gr 14 [] [bT h5,hH (.draw 9 []),cE Qaa.enc h6,cE Qaa.enc h7,nT h8]
 ·exact gn 5 [] [] [bF h5] (hE h)
theorem QcZ {n} {rv:Bool} (h:Qba n=some rv):AFn Tryd.prog 3 [.agg (Qac.enc n)] [] (one (.bool rv)) []:=by
 refine QbK Tryd.func3 fun Γ=>?_
 simp only [Qba,QaE,Qal,Qam] at h
 rcases h with ⟨h0,r,h1,h⟩|⟨h0,r1,h2,r2,h3,⟨h4,h⟩|⟨h4,e0,h9,h⟩⟩
 ·obtain rfl:=oK h
  exact gr 8 [] [nL e_str n.places,hP,hP,hP,rp 2 (oI ((gtI (lenI n.places) 30)=false)),nL Qad.enc n.arcs,hP,hP,oI ((gtI (lenI n.places) 30)=false),oR True ((gtI (lenI n.places) 30)=false),bT h0,cC (Qcv h1)]
 ·obtain rfl:=oK h
  exact gr 15 [] [nL e_str n.places,hP,hP,hP,rp 2 (oI ((gtI (lenI n.places) 30)=false)),nL Qad.enc n.arcs,hP,hP,oI ((gtI (lenI n.places) 30)=false),oR True ((gtI (lenI n.places) 30)=false),bF h0,hH (.draw 6 []),cC (QdT h2),cC (Qc1 h3),nL Qaa.enc r1,nL Qaa.enc r2,bT h4]
 ·refine gn 19 [3,4,27,28] [] [nL e_str n.places,hP,hP,hP,rp 2 (oI ((gtI (lenI n.places) 30)=false)),nL Qad.enc n.arcs,hP,hP,oI ((gtI (lenI n.places) 30)=false),oR True ((gtI (lenI n.places) 30)=false),bF h0,hH (.draw 6 []),cC (QdT h2),cC (Qc1 h3),nL Qaa.enc r1,nL Qaa.enc r2,bF h4,nL Qaa.enc r1] (QcH Γ rv h9 ?_)
  rcases e0 with e0|r4
  ·simp only [Qjs,QaE,Qal,Qam] at h
   obtain ⟨r3,h10,h⟩:=h
   obtain rfl:=oK h
   exact gr 2 [] [cC (Qcv h10)]
  ·exact oK h
end Go.Proofs.YtpkkaboonnedfaaDoor
