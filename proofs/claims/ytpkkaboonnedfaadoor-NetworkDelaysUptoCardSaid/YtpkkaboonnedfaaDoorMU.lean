/- Part MU of the proof: texts N0. -/
import Derived.Test.YtpkkaboonnedfaaDoorMT
import Derived.Test.YtpkkaboonnedfaaDoorMC
import Derived.Test.YtpkkaboonnedfaaDoorProg
namespace Go.Proofs.YtpkkaboonnedfaaDoor
set_option linter.unusedVariables false
set_option linter.unusedSectionVars false
set_option linter.unusedSimpArgs false
set_option maxHeartbeats 4000000
set_option maxRecDepth 100000
theorem Qag {n i} {rv:Bool} (h:QaU n i=some rv):AFn Tryd.prog 21 [.agg (Qac.enc n),.one (lI i)] [] (one (.bool rv)) []:=by
 refine Qbz Tryd.func21 (by kernel_rfl) (by kernel_rfl) (fun Γ=>?_)
 unfold QaU at h
 obtain rfl:=Option.some.inj h
 exact gr 4 [] [rp 4 hP,rp 2 (oI ((geI i 0)=true)),nL e_str n.places,hP,hP,rp 2 (oI ((geI i 0)=true)),oR True ((geI i 0)=true)]
theorem QaD {t} {rv:Bool} (h:Qa9 t=some rv):AFn Tryd.prog 22 [.one (lI t)] [] (one (.bool rv)) []:=by
 refine Qbz Tryd.func22 (by kernel_rfl) (by kernel_rfl) (fun Γ=>?_)
 unfold Qa9 at h
 obtain rfl:=Option.some.inj h
 exact gr 4 [] [hP,hP,hP,oI ((geI t 0)=true),oR True ((geI t 0)=true)]
theorem QeQ {l t ticks} {rv:List Qab×Int} (h:Qda l t ticks=some rv):AFn Tryd.prog 23 [.one (lL 2 l Qab.enc),.one (lI t),.one (lI ticks)] [] (.tup [.one (lL 2 rv.1 Qab.enc),.one (lI rv.2)]) []:=by
 refine Qbz Tryd.func23 (by kernel_rfl) (by kernel_rfl) (fun Γ=>?_)
 unfold Qda at h
 obtain ⟨h0,h⟩:=Qat h
 rcases Qaj h with ⟨h1,h⟩|⟨h1,h⟩
 ·obtain ⟨x0,h2,h⟩:=Qaf h
  rcases Qaj h with ⟨h3,h⟩|⟨h3,h⟩
  ·obtain rfl:=Option.some.inj h
   exact gr 13 [] [aZ Qab.enc h0,nL Qab.enc l,rp 4 (bT h1),oO (getLo h2),oO (getHi Qab.enc h2),bT h1,bT h1,rE Qab.enc h2,bT h1,bT h1,bT h3,hW 4,hH (.nilS 6 0 2)]
  ·rcases Qaj h with ⟨h4,h⟩|⟨h4,h⟩
   ·rcases Qaj h with ⟨h5,h⟩|⟨h5,h⟩
    ·obtain rfl:=Option.some.inj h
     exact gr 22 [] [aZ Qab.enc h0,nL Qab.enc l,rp 4 (bT h1),oO (getLo h2),oO (getHi Qab.enc h2),bT h1,bT h1,rE Qab.enc h2,bT h1,bT h1,bF h3,rp 4 (bT h1),oO (getLo h2),oO (getHi Qab.enc h2),bT h1,bT h1,rE Qab.enc h2,bT h1,bT h1,bT h4,oO (getLo h2),oO (getHi Qab.enc h2),rE Qab.enc h2,oO (getLo h2),oO (getHi Qab.enc h2),rE Qab.enc h2,hH (.rows ((setI l (subK .i64 (lenI l) 1) (Qab.mk x0.t (addK .i64 x0.a ticks))).map Qab.enc)),hH (.relen 0 ((setI l (subK .i64 (lenI l) 1) (Qab.mk x0.t (addK .i64 x0.a ticks))).map Qab.enc).length),oO (setM Qab.enc l (subK .i64 (lenI l) 1) (Qab.mk x0.t (addK .i64 x0.a ticks))),rp 6 (oO (QhX Qab.enc l (subK .i64 (lenI l) 1) (Qab.mk x0.t (addK .i64 x0.a ticks)))),oO (getLo (QiS h2 (Qab.mk x0.t (addK .i64 x0.a ticks)))),oO (getHi Qab.enc (QiS h2 (Qab.mk x0.t (addK .i64 x0.a ticks)))),rE Qab.enc (QiS h2 (Qab.mk x0.t (addK .i64 x0.a ticks))),bT h5,hW 4,hH (.nilS 6 0 2)]
    ·obtain rfl:=Option.some.inj h
     exact gr 23 [] [aZ Qab.enc h0,nL Qab.enc l,rp 4 (bT h1),oO (getLo h2),oO (getHi Qab.enc h2),bT h1,bT h1,rE Qab.enc h2,bT h1,bT h1,bF h3,rp 4 (bT h1),oO (getLo h2),oO (getHi Qab.enc h2),bT h1,bT h1,rE Qab.enc h2,bT h1,bT h1,bT h4,oO (getLo h2),oO (getHi Qab.enc h2),rE Qab.enc h2,oO (getLo h2),oO (getHi Qab.enc h2),rE Qab.enc h2,hH (.rows ((setI l (subK .i64 (lenI l) 1) (Qab.mk x0.t (addK .i64 x0.a ticks))).map Qab.enc)),hH (.relen 0 ((setI l (subK .i64 (lenI l) 1) (Qab.mk x0.t (addK .i64 x0.a ticks))).map Qab.enc).length),oO (setM Qab.enc l (subK .i64 (lenI l) 1) (Qab.mk x0.t (addK .i64 x0.a ticks))),rp 6 (oO (QhX Qab.enc l (subK .i64 (lenI l) 1) (Qab.mk x0.t (addK .i64 x0.a ticks)))),oO (getLo (QiS h2 (Qab.mk x0.t (addK .i64 x0.a ticks)))),oO (getHi Qab.enc (QiS h2 (Qab.mk x0.t (addK .i64 x0.a ticks)))),rE Qab.enc (QiS h2 (Qab.mk x0.t (addK .i64 x0.a ticks))),bF h5,hW 6,hH (.frz 0),rp 9 (oO (Eq.refl ((setI l (subK .i64 (lenI l) 1) (Qab.mk x0.t (addK .i64 x0.a ticks))).map Qab.enc).length))]
   ·rcases Qaj h with ⟨h6,h⟩|⟨h6,h⟩
    ·obtain rfl:=Option.some.inj h
     exact gr 19 [] [aZ Qab.enc h0,nL Qab.enc l,rp 4 (bT h1),oO (getLo h2),oO (getHi Qab.enc h2),bT h1,bT h1,rE Qab.enc h2,bT h1,bT h1,bF h3,rp 4 (bT h1),oO (getLo h2),oO (getHi Qab.enc h2),bT h1,bT h1,rE Qab.enc h2,bT h1,bT h1,bF h4,nL Qab.enc l,bT h6,hW 4,hH (.nilS 6 0 2)]
    ·obtain ⟨h7,h⟩:=Qat h
     obtain rfl:=Option.some.inj h
     exact gr 21 [] [aZ Qab.enc h0,nL Qab.enc l,rp 4 (bT h1),oO (getLo h2),oO (getHi Qab.enc h2),bT h1,bT h1,rE Qab.enc h2,bT h1,bT h1,bF h3,rp 4 (bT h1),oO (getLo h2),oO (getHi Qab.enc h2),bT h1,bT h1,rE Qab.enc h2,bT h1,bT h1,bF h4,nL Qab.enc l,bF h6,oO (Eq.refl ([(Qab.mk t ticks)].map Qab.enc).length),aO Qab.enc h7,hW 2,hH (.frz 2),rp 2 (oO (Eq.refl ((l++[(Qab.mk t ticks)]).map Qab.enc).length))]
 ·rcases Qaj h with ⟨h8,h⟩|⟨h8,h⟩
  ·obtain rfl:=Option.some.inj h
   exact gr 19 [] [aZ Qab.enc h0,nL Qab.enc l,rp 8 (bF h1),fF,rp 8 (bF h1),fF,nL Qab.enc l,bT h8,hW 4,hH (.nilS 6 0 2)]
  ·obtain ⟨h9,h⟩:=Qat h
   obtain rfl:=Option.some.inj h
   exact gr 21 [] [aZ Qab.enc h0,nL Qab.enc l,rp 8 (bF h1),fF,rp 8 (bF h1),fF,nL Qab.enc l,bF h8,oO (Eq.refl ([(Qab.mk t ticks)].map Qab.enc).length),aO Qab.enc h9,hW 2,hH (.frz 2),rp 2 (oO (Eq.refl ((l++[(Qab.mk t ticks)]).map Qab.enc).length))]
def QeN (Γ:Gam) (rv:Qac×Int) (cf:Cf):Prop:=Go Tryd.prog Tryd.f9 [] Γ (.tup [.agg [lL 1 rv.1.places e_str,lL 6 rv.1.arcs Qad.enc],.one (lI rv.2)]) [] cf
def QdW (Γ:Gam) (rv:Qac×Int) (n:Qac) (from_:Int) (to_:Int) (t:Int) (ticks:Int) (l:List Qad) (found:Bool) (v:Int):Prop:=QeN Γ rv ⟨[.c 500,.l 500,.b 1,.c 63],⟨88,[vI 1 from_,vI 2 to_,vI 3 t,vI 4 ticks,vP 10 0 2,vP 12 1 2,vB 13 found,vO 48 2 6 l Qad.enc,vI 49 (lenI n.arcs),vI 50 v],[oX 2 25 [.nils,.nils],oX 2 25 [lL 1 n.places e_str,lO 2 6 l Qad.enc],oS 6 38 l Qad.enc]⟩⟩
def QdF (Γ:Gam) (rv:Qac×Int) (n:Qac) (from_:Int) (to_:Int) (t:Int) (ticks:Int) (l1:List Qad) (found1:Bool):Prop:=QeN Γ rv ⟨[.c 63],⟨88,[vP 10 0 2,vP 12 1 2,vB 13 found1],[oX 2 25 [.nils,.nils],oX 2 25 [lL 1 n.places e_str,lO 2 6 l1 Qad.enc],oS 6 38 l1 Qad.enc]⟩⟩
theorem Qfj (Γ:Gam) (rv:Qac×Int) {n from_ to_ t ticks} {s:List Qad×Bool×Int} {e:(List Qad×Bool)⊕(Qac×Int)} (h:loopF (fun s=>Qbt n from_ to_ t ticks s.1 s.2.1 s.2.2) s=some e) (hD:sel e (fun e=>QdF Γ rv n from_ to_ t ticks e.1 e.2) (fun e=>e=rv)):QdW Γ rv n from_ to_ t ticks s.1 s.2.1 s.2.2:=by
 refine Qa8 (C:=fun (s:List Qad×Bool×Int)=>QdW Γ rv n from_ to_ t ticks s.1 s.2.1 s.2.2) (D:=fun (e:(List Qad×Bool)⊕(Qac×Int))=>sel e (fun e=>QdF Γ rv n from_ to_ t ticks e.1 e.2) (fun e=>e=rv)) ?_ h hD
 clear h hD s e
 rintro ⟨l,found,v⟩ z_ h hI hE
 replace h:Qbt n from_ to_ t ticks l found v=_:=h
 unfold Qbt at h
 rcases Qaj h with ⟨h9,h⟩|⟨h9,h⟩
 ·obtain ⟨x0,h10,h⟩:=Qaf h
  rcases Qaj h with ⟨h11,h⟩|⟨h11,h⟩
  ·exact gn 16 [1,2,3,4,10,12,13,48,49,50] [0,1,2] [bT h9,oO (getLo h10),oO (getHi Qad.enc h10),rE Qad.enc h10,rp 5 hP,rp 3 (oI ((neI x0.from_ from_)=false)),oR True ((neI x0.from_ from_)=false),bT h11] (hI _ (oJ h))
  ·obtain ⟨r4,h12,h⟩:=Qaf h
   rcases Qaj h with ⟨h13,h⟩|⟨h13,h⟩
   ·obtain rfl:=(hE _ (oJ h):_=rv)
    exact gr 22 [] [bT h9,oO (getLo h10),oO (getHi Qad.enc h10),rE Qad.enc h10,rp 5 hP,rp 3 (oI ((neI x0.from_ from_)=false)),oR True ((neI x0.from_ from_)=false),bF h11,cC (QeQ h12),bT h13,hW 6,hH (.nilB 0 0 1),hH (.nilB 0 1 6)]
   ·exact gn 27 [1,2,3,4,10,12,13,48,49,50] [0,1,2] [bT h9,oO (getLo h10),oO (getHi Qad.enc h10),rE Qad.enc h10,rp 5 hP,rp 3 (oI ((neI x0.from_ from_)=false)),oR True ((neI x0.from_ from_)=false),bF h11,cC (QeQ h12),bF h13,oO (getLo h10),oO (getHi Qad.enc h10),rE Qad.enc h10,hH (.rows ((setI l v (Qad.mk x0.from_ x0.to_ x0.profile x0.miles x0.travel r4.1)).map Qad.enc)),hH (.relen 2 ((setI l v (Qad.mk x0.from_ x0.to_ x0.profile x0.miles x0.travel r4.1)).map Qad.enc).length),oO (setM Qad.enc l v (Qad.mk x0.from_ x0.to_ x0.profile x0.miles x0.travel r4.1)),rp 3 (oO (QhX Qad.enc l v (Qad.mk x0.from_ x0.to_ x0.profile x0.miles x0.travel r4.1)))] (hI _ (oJ h))
 ·exact gn 5 [10,12,13] [0,1,2] [bF h9] (hE _ (oJ h))
theorem QaV {n from_ to_ t ticks} {rv:Qac×Int} (h:Qch n from_ to_ t ticks=some rv):AFn Tryd.prog 9 [.agg (Qac.enc n),.one (lI from_),.one (lI to_),.one (lI t),.one (lI ticks)] [] (.tup [.agg [lL 1 rv.1.places e_str,lL 6 rv.1.arcs Qad.enc],.one (lI rv.2)]) []:=by
 refine Qbz Tryd.func9 (by kernel_rfl) (by kernel_rfl) (fun Γ=>?_)
 unfold Qch at h
 obtain ⟨r,h0,h⟩:=Qaf h
 rcases Qaj h with ⟨h1,h⟩|⟨h1,h⟩
 ·obtain ⟨r1,h2,h⟩:=Qaf h
  rcases Qaj h with ⟨h3,h⟩|⟨h3,h⟩
  ·obtain ⟨r2,h4,h⟩:=Qaf h
   rcases Qaj h with ⟨h5,h⟩|⟨h5,h⟩
   ·obtain ⟨r3,h6,h⟩:=Qaf h
    rcases Qaj h with ⟨h7,h⟩|⟨h7,h⟩
    ·obtain ⟨h8,h⟩:=Qat h
     obtain ⟨e0,h14,h⟩:=Qaf h
     refine gn 21 [1,2,3,4,10,12,13,48,49,50] [1,3,2] [cC (Qag h0),rp 3 (nF h1),cC (Qag h2),nF h1,nF h1,nF h3,cC (QaD h4),nF h5,nF h5,cC (QaD h6),nF h5,nF h5,nF h7,hH (.draw 8 []),aZ Qad.enc h8,nL Qad.enc n.arcs] (Qfj Γ rv h14 ?_)
     rcases e0 with e0|e0
     ·obtain ⟨l1,found1⟩:=e0
      replace h:(br found1 (some ((Qac.mk n.places l1),0)) (some ((Qac.mk [] []),12)):Option (Qac×Int))=some _:=h
      rcases Qaj h with ⟨h15,h⟩|⟨h15,h⟩
      ·obtain rfl:=Option.some.inj h
       exact gr 7 [] [nF h15,hW 6,hH (.frz 2),rp 3 (eL l1 Qad.enc)]
      ·obtain rfl:=Option.some.inj h
       exact gr 6 [] [nT h15,hW 5,hH (.nilB 0 0 1),hH (.nilB 0 1 6)]
     ·obtain ⟨r5,rfl⟩:∃ x,x=e0:=⟨_,rfl⟩
      replace h:(some r5:Option (Qac×Int))=some _:=h
      exact Option.some.inj h
    ·obtain rfl:=Option.some.inj h
     exact gr 12 [] [cC (Qag h0),rp 3 (nF h1),cC (Qag h2),nF h1,nF h1,nF h3,cC (QaD h4),nF h5,nF h5,cC (QaD h6),nF h5,nF h5,nT h7,hW 5,hH (.nilB 1 0 1),hH (.nilB 1 1 6)]
   ·obtain rfl:=Option.some.inj h
    exact gr 12 [] [cC (Qag h0),rp 3 (nF h1),cC (Qag h2),nF h1,nF h1,nF h3,cC (QaD h4),rp 4 (nT h5),tT,hW 5,hH (.nilB 1 0 1),hH (.nilB 1 1 6)]
  ·obtain rfl:=Option.some.inj h
   exact gr 9 [] [cC (Qag h0),rp 3 (nF h1),cC (Qag h2),nF h1,nF h1,nT h3,hW 5,hH (.nilB 1 0 1),hH (.nilB 1 1 6)]
 ·obtain rfl:=Option.some.inj h
  exact gr 9 [] [cC (Qag h0),rp 5 (nT h1),tT,hW 5,hH (.nilB 1 0 1),hH (.nilB 1 1 6)]
theorem Qbr {a} {rv:Qae} (h:Qbl a=some rv):AFn Tryd.prog 18 [.agg (Qad.enc a)] [] (gG [lI rv.from_,lI rv.to_,lI rv.profile]) []:=by
 refine Qbz Tryd.func18 (by kernel_rfl) (by kernel_rfl) (fun Γ=>?_)
 unfold Qbl at h
 obtain rfl:=Option.some.inj h
 exact gr 4 [] []
def QfB (Γ:Gam) (rv:Qad×Bool) (cf:Cf):Prop:=Go Tryd.prog Tryd.f25 [] Γ (.tup [.agg [lI rv.1.from_,lI rv.1.to_,lI rv.1.profile,lI rv.1.miles,lL 2 rv.1.travel Qab.enc,lL 2 rv.1.slow Qab.enc],.one (.bool rv.2)]) [] cf
def Qeu (Γ:Gam) (rv:Qad×Bool) (n:Qac) (profile:Int) (from_:Int) (to_:Int) (v:Int):Prop:=QfB Γ rv ⟨[.c 116,.l 116,.b 0,.c 15],⟨31,[vP 8 0 6,vP 10 1 3,vL 18 6 n.arcs Qad.enc,vI 19 (lenI n.arcs),vI 20 v],[oX 6 38 [lI 0,lI 0,lI 0,lI 0,.nils,.nils],oX 3 54 [lI from_,lI to_,lI profile]]⟩⟩
def Qed (Γ:Gam) (rv:Qad×Bool) (n:Qac) (profile:Int) (from_:Int) (to_:Int):Prop:=QfB Γ rv ⟨[.c 15],⟨31,[vP 8 0 6],[oX 6 38 [lI 0,lI 0,lI 0,lI 0,.nils,.nils]]⟩⟩
theorem QfQ (Γ:Gam) (rv:Qad×Bool) {n profile from_ to_} {s:Int} {e:(Unit)⊕(Qad×Bool)} (h:loopF (fun s=>QbX n profile from_ to_ s) s=some e) (hD:sel e (fun e=>Qed Γ rv n profile from_ to_) (fun e=>e=rv)):Qeu Γ rv n profile from_ to_ s:=by
 refine Qa8 (C:=fun (s:Int)=>Qeu Γ rv n profile from_ to_ s) (D:=fun (e:(Unit)⊕(Qad×Bool))=>sel e (fun e=>Qed Γ rv n profile from_ to_) (fun e=>e=rv)) ?_ h hD
 clear h hD s e
 intro v z_ h hI hE
 replace h:QbX n profile from_ to_ v=_:=h
 unfold QbX at h
 rcases Qaj h with ⟨h0,h⟩|⟨h0,h⟩
 ·obtain ⟨x0,h1,h⟩:=Qaf h
  obtain ⟨r,h2,h⟩:=Qaf h
  rcases Qaj h with ⟨h3,h⟩|⟨h3,h⟩
  ·obtain rfl:=(hE _ (oJ h):_=rv)
   exact gr 14 [] [bT h0,cE Qad.enc h1,hH (.draw 4 []),cC (Qbr h2),bT h3]
  ·exact gn 16 [8,10,18,19,20] [0,1] [bT h0,cE Qad.enc h1,hH (.draw 4 []),cC (Qbr h2),bF h3] (hI _ (oJ h))
 ·exact gn 5 [8] [0] [bF h0] (hE _ (oJ h))
theorem Qfb {n profile from_ to_} {rv:Qad×Bool} (h:QdE n profile from_ to_=some rv):AFn Tryd.prog 25 [.agg (Qac.enc n),.one (lI profile),.one (lI from_),.one (lI to_)] [] (.tup [.agg [lI rv.1.from_,lI rv.1.to_,lI rv.1.profile,lI rv.1.miles,lL 2 rv.1.travel Qab.enc,lL 2 rv.1.slow Qab.enc],.one (.bool rv.2)]) []:=by
 refine Qbz Tryd.func25 (by kernel_rfl) (by kernel_rfl) (fun Γ=>?_)
 unfold QdE at h
 obtain ⟨e0,h4,h⟩:=Qaf h
 refine gn 9 [8,10,18,19,20] [1,2] [nL Qad.enc n.arcs] (QfQ Γ rv h4 ?_)
 rcases e0 with e0|e0
 ·replace h:(some ((Qad.mk 0 0 0 0 [] []),false):Option (Qad×Bool))=some _:=h
  obtain rfl:=Option.some.inj h
  exact gr 2 [] [hW 5,hH (.nilB 0 4 2),hH (.nilB 0 5 2)]
 ·obtain ⟨r1,rfl⟩:∃ x,x=e0:=⟨_,rfl⟩
  replace h:(some r1:Option (Qad×Bool))=some _:=h
  exact Option.some.inj h
theorem Qcd {n least most} {rv:Bool} (h:QbN n least most=some rv):AFn Tryd.prog 38 [.one (lI n),.one (lI least),.one (lI most)] [] (one (.bool rv)) []:=by
 refine Qbz Tryd.func38 (by kernel_rfl) (by kernel_rfl) (fun Γ=>?_)
 unfold QbN at h
 obtain rfl:=Option.some.inj h
 exact gr 4 [] [rp 4 hP,rp 2 (oI ((geI n least)=true)),oR True ((geI n least)=true)]
theorem QgK {i} {rv:ByteArray} (h:QeW i=some rv):AFn Tryd.prog 46 [.one (lI i)] [] (one (.str rv)) []:=by
 refine Qbz Tryd.func46 (by kernel_rfl) (by kernel_rfl) (fun Γ=>?_)
 unfold QeW at h
 rcases Qaj h with ⟨h0,h⟩|⟨h0,h⟩
 ·obtain ⟨s0,h1,h⟩:=Qaf h
  obtain rfl:=Option.some.inj h
  exact gr 8 [] [bT h0,oO (ss1 h1),oO (ss2 h1),oO (ss3 h1)]
 ·obtain ⟨s1,h2,h⟩:=Qaf h
  obtain rfl:=Option.some.inj h
  exact gr 9 [] [bF h0,oO (ss1 h2),oO (ss2 h2),oO (ss3 h2)]
def QfH (Γ:Gam) (rv:ByteArray) (cf:Cf):Prop:=Go Tryd.prog Tryd.f43 [] Γ (one (.str rv)) [] cf
theorem QcS (Γ:Gam) (rv:ByteArray) {i u} (h:QbQ i u=some rv):QfH Γ rv ⟨[.c 431,.c 7],⟨54,[vI 0 i,vP 5 0 24,(6,one (.int .u64 u))],[oX 24 78 [.int .u8 0,.int .u8 0,.int .u8 0,.int .u8 0,.int .u8 0,.int .u8 0,.int .u8 0,.int .u8 0,.int .u8 0,.int .u8 0,.int .u8 0,.int .u8 0,.int .u8 0,.int .u8 0,.int .u8 0,.int .u8 0,.int .u8 0,.int .u8 0,.int .u8 0,.int .u8 0,.int .u8 0,.int .u8 0,.int .u8 0,.int .u8 0]]⟩⟩:=by
 unfold QbQ at h
 obtain ⟨r1,h4,h⟩:=Qaf h
 cases h
theorem Qfn {i base} {rv:ByteArray} (h:Qdh i base=some rv):AFn Tryd.prog 43 [.one (lI i),.one (lI base)] [] (one (.str rv)) []:=by
 refine Qbz Tryd.func43 (by kernel_rfl) (by kernel_rfl) (fun Γ=>?_)
 unfold Qdh at h
 rcases Qaj h with ⟨h0,h⟩|⟨h0,h⟩
 ·rcases Qaj h with ⟨h1,h⟩|⟨h1,h⟩
  ·obtain ⟨r,h2,h⟩:=Qaf h
   obtain rfl:=Option.some.inj h
   exact gr 12 [] [bT h0,hP,hP,hP,oI ((leI 0 i)=true),oR True ((leI 0 i)=true),bT h1,cC (QgK h2)]
  ·rcases Qaj h with ⟨h3,h⟩|⟨h3,h⟩
   ·exact gn 20 [0,5,6] [0] [bT h0,hP,hP,hP,oI ((leI 0 i)=true),oR True ((leI 0 i)=true),bF h1,bT h3] (QcS Γ rv h)
   ·exact gn 20 [0,5,6] [0] [bT h0,hP,hP,hP,oI ((leI 0 i)=true),oR True ((leI 0 i)=true),bF h1,bF h3] (QcS Γ rv h)
 ·cases h
theorem QgS {i} {rv:ByteArray} (h:Qfo i=some rv):AFn Tryd.prog 37 [.one (lI i)] [] (one (.str rv)) []:=by
 refine Qbz Tryd.func37 (by kernel_rfl) (by kernel_rfl) (fun Γ=>?_)
 unfold Qfo at h
 obtain ⟨r,h0,h⟩:=Qaf h
 obtain rfl:=Option.some.inj h
 exact gr 4 [] [cC (Qfn h0)]
theorem Qdi {i} {rv:ByteArray} (h:QbR i=some rv):AFn Tryd.prog 27 [.one (lI i)] [] (one (.str rv)) []:=by
 refine Qbz Tryd.func27 (by kernel_rfl) (by kernel_rfl) (fun Γ=>?_)
 unfold QbR at h
 obtain ⟨r,h0,h⟩:=Qaf h
 obtain rfl:=Option.some.inj h
 exact gr 4 [] [cC (QgS h0)]
def Qdw (Γ:Gam) (rv:List Qaa) (cf:Cf):Prop:=Go Tryd.prog Tryd.f30 [] Γ (one (lL 2 rv Qaa.enc)) [] cf
def Qdj (Γ:Gam) (rv:List Qaa) (l:List Qab) (l2:List Qaa) (v:Int):Prop:=Qdw Γ rv ⟨[.c 244,.l 244,.b 0,.c 31],⟨83,[vL 0 2 l Qab.enc,vO 3 0 2 l2 Qaa.enc,vL 19 2 l Qab.enc,vI 20 (lenI l),vI 21 v],[oS 2 31 l2 Qaa.enc]⟩⟩
def QcZ (Γ:Gam) (rv:List Qaa) (l:List Qab) (l4:List Qaa):Prop:=Qdw Γ rv ⟨[.c 31],⟨83,[vO 3 0 2 l4 Qaa.enc],[oS 2 31 l4 Qaa.enc]⟩⟩
theorem Qek (Γ:Gam) (rv:List Qaa) {l v x0 r l3} {x:(List Qaa×Int)⊕(List Qaa)} (h:Qcq l v x0 r l3=some x) (hI:∀ s:List Qaa×Int,x=.inl s→Qdj Γ rv l s.1 s.2) (hE:∀ e:List Qaa,x=.inr e→QcZ Γ rv l e):Qdw Γ rv ⟨[.c 31335,.b 1,.c 1959,.l 244,.b 0,.c 31],⟨83,[vL 0 2 l Qab.enc,vO 3 0 2 l3 Qaa.enc,vI 4 v,vP 5 1 2,vS 6 r,vL 19 2 l Qab.enc,vI 20 (lenI l),vI 21 v],[oS 2 31 l3 Qaa.enc,oX 2 66 (Qab.enc x0)]⟩⟩:=by
 unfold Qcq at h
 rcases Qaj h with ⟨h8,h⟩|⟨h8,h⟩
 ·obtain ⟨x1,h9,h⟩:=Qaf h
  rcases Qaj h with ⟨h10,h⟩|⟨h10,h⟩
  ·obtain ⟨h11,h⟩:=Qat h
   exact gn 7 [0,3,19,20,21] [3] [hH (.draw 24 []),rp 6 (bT h8),cE Qab.enc h9,rp 4 (bT h8),rp 9 (bT h10),bT h8,bT h10,bT h8,tT,oO (Eq.refl ([(Qaa.mk 13 r)].map Qaa.enc).length),aO Qaa.enc h11] (hI _ (oJ h))
  ·rcases Qaj h with ⟨h12,h⟩|⟨h12,h⟩
   ·obtain ⟨h13,h⟩:=Qat h
    exact gn 7 [0,3,19,20,21] [3] [hH (.draw 24 []),rp 6 (bT h8),cE Qab.enc h9,rp 4 (bT h8),rp 6 (bF h10),cE Qab.enc h9,rp 3 (bF h10),bT h8,bF h10,bT h8,bT h12,oO (Eq.refl ([(Qaa.mk 13 r)].map Qaa.enc).length),aO Qaa.enc h13] (hI _ (oJ h))
   ·exact gn 7 [0,3,19,20,21] [0] [hH (.draw 24 []),rp 6 (bT h8),cE Qab.enc h9,rp 4 (bT h8),rp 6 (bF h10),cE Qab.enc h9,rp 3 (bF h10),bT h8,bF h10,bT h8,bF h12] (hI _ (oJ h))
 ·exact gn 7 [0,3,19,20,21] [0] [hH (.draw 24 []),rp 10 (bF h8),rp 9 kF,bF h8,bF h8,fF] (hI _ (oJ h))
theorem Qf1 (Γ:Gam) (rv:List Qaa) {l} {s:List Qaa×Int} {e:List Qaa} (h:loopF (fun s=>Qbd l s.1 s.2) s=some e) (hD:QcZ Γ rv l e):Qdj Γ rv l s.1 s.2:=by
 refine Qa8 (C:=fun (s:List Qaa×Int)=>Qdj Γ rv l s.1 s.2) (D:=fun (e:List Qaa)=>QcZ Γ rv l e) ?_ h hD
 clear h hD s e
 rintro ⟨l2,v⟩ z_ h hI hE
 replace h:Qbd l l2 v=_:=h
 unfold Qbd at h
 rcases Qaj h with ⟨h2,h⟩|⟨h2,h⟩
 ·obtain ⟨x0,h3,h⟩:=Qaf h
  obtain ⟨r,h4,h⟩:=Qaf h
  obtain ⟨r1,h5,h⟩:=Qaf h
  rcases Qaj h with ⟨h6,h⟩|⟨h6,h⟩
  ·obtain ⟨h7,h⟩:=Qat h
   exact gn 16 [0,3,4,5,6,19,20,21] [3,1] [bT h2,cE Qab.enc h3,cC (Qdi h4),cC (Qcd h5),rp 13 hP,rp 4 (oI ((!r1)=false)),oR True ((!r1)=false),rp 5 (oI (((!r1)||(ltI x0.a x0.t))=false)),oR True (((!r1)||(ltI x0.a x0.t))=false),bT h6,oO (Eq.refl ([(Qaa.mk 2 r)].map Qaa.enc).length),aO Qaa.enc h7] (Qek Γ rv h hI hE)
  ·exact gn 16 [0,3,4,5,6,19,20,21] [0,1] [bT h2,cE Qab.enc h3,cC (Qdi h4),cC (Qcd h5),rp 13 hP,rp 4 (oI ((!r1)=false)),oR True ((!r1)=false),rp 5 (oI (((!r1)||(ltI x0.a x0.t))=false)),oR True (((!r1)||(ltI x0.a x0.t))=false),bF h6] (Qek Γ rv h hI hE)
 ·exact gn 5 [3] [0] [bF h2] (hE _ (oJ h))
theorem Qej (Γ:Gam) (rv:List Qaa) {l l1} (h:Qcp l l1=some rv):Qdw Γ rv ⟨[.c 15],⟨83,[vL 0 2 l Qab.enc,vO 3 0 2 l1 Qaa.enc],[oS 2 31 l1 Qaa.enc]⟩⟩:=by
 unfold Qcp at h
 obtain ⟨e0,h14,h⟩:=Qaf h
 refine gn 5 [0,3,19,20,21] [0] [nL Qab.enc l] (Qf1 Γ rv h14 ?_)
 obtain ⟨l4,rfl⟩:∃ x,x=e0:=⟨_,rfl⟩
 replace h:(some l4:Option (List Qaa))=some _:=h
 obtain rfl:=Option.some.inj h
 exact gr 2 [] [hW 4,hH (.frz 0),rp 3 (eL l4 Qaa.enc)]
theorem Qd3 {l} {rv:List Qaa} (h:Qct l=some rv):AFn Tryd.prog 30 [.one (lL 2 l Qab.enc)] [] (one (lL 2 rv Qaa.enc)) []:=by
 refine Qbz Tryd.func30 (by kernel_rfl) (by kernel_rfl) (fun Γ=>?_)
 unfold Qct at h
 rcases Qaj h with ⟨h0,h⟩|⟨h0,h⟩
 ·obtain ⟨h1,h⟩:=Qat h
  exact gn 9 [0,3] [1] [nL Qab.enc l,hP,hP,oI ((eqI (lenI l) 0)=false),nL Qab.enc l,hP,hP,oI ((eqI (lenI l) 0)=false),oR True ((eqI (lenI l) 0)=false),bT h0,oO (Eq.refl ([(Qaa.mk 4 ByteArray.empty)].map Qaa.enc).length),aN (l:=([(Qaa.mk 4 ByteArray.empty)]:List Qaa)) Qaa.enc h1] (Qej Γ rv h)
 ·exact gn 9 [0,3] [0] [nL Qab.enc l,hP,hP,oI ((eqI (lenI l) 0)=false),nL Qab.enc l,hP,hP,oI ((eqI (lenI l) 0)=false),oR True ((eqI (lenI l) 0)=false),bF h0,hW 1,hH (.adopt 3 2 31)] (Qej Γ rv h)
theorem Qfg {l} {rv:Bool} (h:QdL l=some rv):AFn Tryd.prog 41 [.one (lL 2 l Qab.enc)] [] (one (.bool rv)) []:=by
 refine Qbz Tryd.func41 (by kernel_rfl) (by kernel_rfl) (fun Γ=>?_)
 unfold QdL at h
 obtain ⟨r,h0,h⟩:=Qaf h
 obtain rfl:=Option.some.inj h
 exact gr 4 [] [cC (Qd3 h0),nL Qaa.enc r]
theorem Qc0 {p t} {rv:Int} (h:QbB p t=some rv):AFn Tryd.prog 45 [.agg (Qab.enc p),.one (lI t)] [] (one (lI rv)) []:=by
 refine Qbz Tryd.func45 (by kernel_rfl) (by kernel_rfl) (fun Γ=>?_)
 unfold QbB at h
 obtain rfl:=Option.some.inj h
 exact gr 4 [] []
def QaF (Γ:Gam) (rv:Int×Bool) (cf:Cf):Prop:=Go Tryd.prog Tryd.f44 [] Γ (.tup [.one (lI rv.1),.one (.bool rv.2)]) [] cf
def QaB (Γ:Gam) (rv:Int×Bool) (x0:List Qab) (target:Int) (i:Int) (j:Int):Prop:=QaF Γ rv ⟨[.c 120,.l 120,.b 0,.c 31],⟨49,[vL 0 2 x0 Qab.enc,vI 1 target,(2,one (.fn (.func 45) [])),vI 8 (lenI x0),vI 9 i,vI 10 j],[]⟩⟩
def Qaz (Γ:Gam) (rv:Int×Bool) (x0:List Qab) (target:Int) (i1:Int):Prop:=QaF Γ rv ⟨[.c 31],⟨49,[vL 0 2 x0 Qab.enc,vI 1 target,(2,one (.fn (.func 45) [])),vI 8 (lenI x0),vI 9 i1],[]⟩⟩
theorem Qa0 (Γ:Gam) (rv:Int×Bool) {x0 target} {s:Int×Int} {e:Int} (h:loopF (fun s=>Qai x0 target s.1 s.2) s=some e) (hD:Qaz Γ rv x0 target e):QaB Γ rv x0 target s.1 s.2:=by
 refine Qa8 (C:=fun (s:Int×Int)=>QaB Γ rv x0 target s.1 s.2) (D:=fun (e:Int)=>Qaz Γ rv x0 target e) ?_ h hD
 clear h hD s e
 rintro ⟨i,j⟩ z_ h hI hE
 replace h:Qai x0 target i j=_:=h
 unfold Qai at h
 rcases Qaj h with ⟨h0,h⟩|⟨h0,h⟩
 ·obtain ⟨x1,h1,h⟩:=Qaf h
  obtain ⟨r,h2,h⟩:=Qaf h
  rcases Qaj h with ⟨h3,h⟩|⟨h3,h⟩
  ·exact gn 14 [0,1,2,8,9,10] [] [bT h0,oO (zL 1),cE Qab.enc h1,cC (Qc0 h2),bT h3] (hI _ (oJ h))
  ·exact gn 14 [0,1,2,8,9,10] [] [bT h0,oO (zL 1),cE Qab.enc h1,cC (Qc0 h2),bF h3] (hI _ (oJ h))
 ·exact gn 5 [0,1,2,8,9] [] [bF h0] (hE _ (oJ h))
theorem Qao {x0 target} {rv:Int×Bool} (h:Qap x0 target=some rv):AFn Tryd.prog 44 [.one (lL 2 x0 Qab.enc),.one (lI target),.one (.fn (.func 45) [])] [] (.tup [.one (lI rv.1),.one (.bool rv.2)]) []:=by
 refine Qbz Tryd.func44 (by kernel_rfl) (by kernel_rfl) (fun Γ=>?_)
 unfold Qap at h
 obtain ⟨e0,h4,h⟩:=Qaf h
 refine gn 9 [0,1,2,8,9,10] [] [nL Qab.enc x0] (Qa0 Γ rv h4 ?_)
 obtain ⟨i1,rfl⟩:∃ x,x=e0:=⟨_,rfl⟩
 replace h:(br (ltI i1 (lenI x0)) (bnd (getI x0 i1) fun x2=>bnd (QbB x2 target) fun r1=>some (i1,(eqI r1 0))) (some (i1,false)):Option (Int×Bool))=some _:=h
 rcases Qaj h with ⟨h5,h⟩|⟨h5,h⟩
 ·obtain ⟨x2,h6,h⟩:=Qaf h
  obtain ⟨r1,h7,h⟩:=Qaf h
  obtain rfl:=Option.some.inj h
  exact gr 2 [] [rp 4 (bT h5),cE Qab.enc h6,rp 3 (bT h5),cC (Qc0 h7),bT h5,bT h5]
 ·obtain rfl:=Option.some.inj h
  exact gr 2 [] [rp 9 (bF h5)]
theorem QgN {l t} {rv:Int} (h:Qdd l t=some rv):AFn Tryd.prog 42 [.one (lL 2 l Qab.enc),.one (lI t)] [] (one (lI rv)) []:=by
 refine Qbz Tryd.func42 (by kernel_rfl) (by kernel_rfl) (fun Γ=>?_)
 unfold Qdd at h
 obtain ⟨r,h0,h⟩:=Qaf h
 rcases Qaj h with ⟨h1,h⟩|⟨h1,h⟩
 ·obtain ⟨x0,h2,h⟩:=Qaf h
  obtain rfl:=Option.some.inj h
  exact gr 11 [] [cC (Qao h0),bT h1,cE Qab.enc h2]
 ·rcases Qaj h with ⟨h3,h⟩|⟨h3,h⟩
  ·obtain ⟨x1,h4,h⟩:=Qaf h
   obtain rfl:=Option.some.inj h
   exact gr 14 [] [cC (Qao h0),bF h1,bT h3,hH (.draw 12 []),rp 2 (cE Qab.enc h4)]
  ·rcases Qaj h with ⟨h5,h⟩|⟨h5,h⟩
   ·obtain ⟨x2,h6,h⟩:=Qaf h
    obtain rfl:=Option.some.inj h
    exact gr 17 [] [cC (Qao h0),bF h1,bF h3,nL Qab.enc l,bT h5,hH (.draw 16 []),rp 2 (cE Qab.enc h6)]
   ·obtain ⟨x3,h7,h⟩:=Qaf h
    obtain ⟨x4,h8,h⟩:=Qaf h
    obtain ⟨h9,h⟩:=Qat h
    obtain rfl:=Option.some.inj h
    exact gr 23 [] [cC (Qao h0),bF h1,bF h3,nL Qab.enc l,bF h5,hH (.draw 13 [(0,11),(1,12)]),cE Qab.enc h7,cE Qab.enc h8,hH (.draw 19 []),oO (h9)]
theorem QgM {l t} {rv:Int} (h:Qdc l t=some rv):AFn Tryd.prog 36 [.one (lL 2 l Qab.enc),.one (lI t)] [] (one (lI rv)) []:=by
 refine Qbz Tryd.func36 (by kernel_rfl) (by kernel_rfl) (fun Γ=>?_)
 unfold Qdc at h
 obtain ⟨r,h0,h⟩:=Qaf h
 rcases Qaj h with ⟨h1,h⟩|⟨h1,h⟩
 ·obtain ⟨r1,h2,h⟩:=Qaf h
  rcases Qaj h with ⟨h3,h⟩|⟨h3,h⟩
  ·obtain ⟨r2,h4,h⟩:=Qaf h
   obtain rfl:=Option.some.inj h
   exact gr 9 [] [cC (Qcd h0),nF h1,nF h1,cC (Qfg h2),nF h1,nF h1,nF h3,cC (QgN h4)]
  ·obtain rfl:=Option.some.inj h
   exact gr 8 [] [cC (Qcd h0),nF h1,nF h1,cC (Qfg h2),nF h1,nF h1,nT h3]
 ·obtain rfl:=Option.some.inj h
  exact gr 8 [] [cC (Qcd h0),rp 4 (nT h1),tT]
def QeC (Γ:Gam) (rv:Int) (cf:Cf):Prop:=Go Tryd.prog Tryd.f26 [] Γ (one (lI rv)) [] cf
def QdG (Γ:Gam) (rv:Int) (a:Qad) (t:Int) (out:Int) (v:Int):Prop:=QeC Γ rv ⟨[.c 116,.l 116,.b 0,.c 15],⟨29,[vI 1 t,vI 5 out,vL 13 2 a.slow Qab.enc,vI 14 (lenI a.slow),vI 15 v],[]⟩⟩
def Qdr (Γ:Gam) (rv:Int) (a:Qad) (t:Int) (out1:Int):Prop:=QeC Γ rv ⟨[.c 15],⟨29,[vI 5 out1],[]⟩⟩
theorem Qe8 (Γ:Gam) (rv:Int) {a t} {s:Int×Int} {e:Int} (h:loopF (fun s=>Qci a t s.1 s.2) s=some e) (hD:Qdr Γ rv a t e):QdG Γ rv a t s.1 s.2:=by
 refine Qa8 (C:=fun (s:Int×Int)=>QdG Γ rv a t s.1 s.2) (D:=fun (e:Int)=>Qdr Γ rv a t e) ?_ h hD
 clear h hD s e
 rintro ⟨out,v⟩ z_ h hI hE
 replace h:Qci a t out v=_:=h
 unfold Qci at h
 rcases Qaj h with ⟨h1,h⟩|⟨h1,h⟩
 ·obtain ⟨x0,h2,h⟩:=Qaf h
  rcases Qaj h with ⟨h3,h⟩|⟨h3,h⟩
  ·exact gn 16 [1,5,13,14,15] [] [bT h1,cE Qab.enc h2,bT h3] (hI _ (oJ h))
  ·exact gn 16 [1,5,13,14,15] [] [bT h1,cE Qab.enc h2,bF h3] (hI _ (oJ h))
 ·exact gn 5 [5] [] [bF h1] (hE _ (oJ h))
theorem Qcj {a t} {rv:Int} (h:QbY a t=some rv):AFn Tryd.prog 26 [.agg (Qad.enc a),.one (lI t)] [] (one (lI rv)) []:=by
 refine Qbz Tryd.func26 (by kernel_rfl) (by kernel_rfl) (fun Γ=>?_)
 unfold QbY at h
 obtain ⟨r,h0,h⟩:=Qaf h
 obtain ⟨e0,h4,h⟩:=Qaf h
 refine gn 9 [1,5,13,14,15] [] [cC (QgM h0),nL Qab.enc a.slow] (Qe8 Γ rv h4 ?_)
 obtain ⟨out1,rfl⟩:∃ x,x=e0:=⟨_,rfl⟩
 replace h:(some out1:Option Int)=some _:=h
 obtain rfl:=Option.some.inj h
 exact gr 2 [] []
theorem Qar {n profile from_ to_ t} {rv:Int×Int×Int} (h:QbJ n profile from_ to_ t=some rv):AFn Tryd.prog 11 [.agg (Qac.enc n),.one (lI profile),.one (lI from_),.one (lI to_),.one (lI t)] [] (.tup [.one (lI rv.1),.one (lI rv.2.1),.one (lI rv.2.2)]) []:=by
 refine Qbz Tryd.func11 (by kernel_rfl) (by kernel_rfl) (fun Γ=>?_)
 unfold QbJ at h
 obtain ⟨r,h0,h⟩:=Qaf h
 rcases Qaj h with ⟨h1,h⟩|⟨h1,h⟩
 ·obtain ⟨r1,h2,h⟩:=Qaf h
  rcases Qaj h with ⟨h3,h⟩|⟨h3,h⟩
  ·rcases Qaj h with ⟨h4,h⟩|⟨h4,h⟩
   ·obtain rfl:=Option.some.inj h
    exact gr 13 [] [cC (Qag h0),rp 3 (nF h1),cC (Qag h2),nF h1,nF h1,nF h3,bT h4]
   ·obtain ⟨r2,h5,h⟩:=Qaf h
    rcases Qaj h with ⟨h6,h⟩|⟨h6,h⟩
    ·obtain ⟨r3,h7,h⟩:=Qaf h
     obtain rfl:=Option.some.inj h
     exact gr 21 [] [cC (Qag h0),rp 3 (nF h1),cC (Qag h2),nF h1,nF h1,nF h3,bF h4,cC (Qfb h5),nF h6,hH (.draw 8 []),cC (Qcj h7)]
    ·obtain rfl:=Option.some.inj h
     exact gr 20 [] [cC (Qag h0),rp 3 (nF h1),cC (Qag h2),nF h1,nF h1,nF h3,bF h4,cC (Qfb h5),nT h6]
  ·obtain rfl:=Option.some.inj h
   exact gr 8 [] [cC (Qag h0),rp 3 (nF h1),cC (Qag h2),nF h1,nF h1,nT h3]
 ·obtain rfl:=Option.some.inj h
  exact gr 8 [] [cC (Qag h0),rp 5 (nT h1),tT]
theorem Qbp {rv:Qac} (h:Qdf=some rv):AFn Tryd.prog 12 [] [] (gG [lL 1 rv.places e_str,lL 6 rv.arcs Qad.enc]) []:=by
 refine Qbz Tryd.func12 (by kernel_rfl) (by kernel_rfl) (fun Γ=>?_)
 unfold Qdf at h
 obtain rfl:=Option.some.inj h
 exact gr 8 [] [hW 20,hH (.frz 3),hH (.nilS 6 5 2),hH (.frz 4),hH (.nilS 9 5 2),hH (.frz 5),hH (.nilS 12 5 2),hW 7,hH (.frz 1),hH (.frz 6),rp 2 (oO (Eq.refl ([(Qab.mk 0 10)].map Qab.enc).length)),rp 2 (oO (Eq.refl ([(Qab.mk 0 5)].map Qab.enc).length)),rp 2 (oO (Eq.refl ([(Qab.mk 0 20)].map Qab.enc).length)),rp 5 (oO (Eq.refl ([QjX,QjY,QjZ].map e_str).length)),rp 4 (oO (Eq.refl ([(Qad.mk 0 1 0 0 [(Qab.mk 0 10)] []),(Qad.mk 1 2 0 0 [(Qab.mk 0 5)] []),(Qad.mk 0 2 0 9 [(Qab.mk 0 20)] [])].map Qad.enc).length))]
def Qes (Γ:Gam) (rv:Bool) (cf:Cf):Prop:=Go Tryd.prog Tryd.f13 [] Γ (one (.bool rv)) [] cf
def QdC (Γ:Gam) (rv:Bool) (a:List Int) (b:List Int) (v:Int):Prop:=Qes Γ rv ⟨[.c 116,.l 116,.b 0,.c 15],⟨26,[vL 0 1 a e_i64,vL 1 1 b e_i64,vI 12 (lenI a),vI 13 v],[]⟩⟩
def Qdk (Γ:Gam) (rv:Bool) (a:List Int) (b:List Int):Prop:=Qes Γ rv ⟨[.c 15],⟨26,[],[]⟩⟩
theorem Qe6 (Γ:Gam) (rv:Bool) {a b} {s:Int} {e:(Unit)⊕(Bool)} (h:loopF (fun s=>Qcf a b s) s=some e) (hD:sel e (fun e=>Qdk Γ rv a b) (fun e=>e=rv)):QdC Γ rv a b s:=by
 refine Qa8 (C:=fun (s:Int)=>QdC Γ rv a b s) (D:=fun (e:(Unit)⊕(Bool))=>sel e (fun e=>Qdk Γ rv a b) (fun e=>e=rv)) ?_ h hD
 clear h hD s e
 intro v z_ h hI hE
 replace h:Qcf a b v=_:=h
 unfold Qcf at h
 rcases Qaj h with ⟨h1,h⟩|⟨h1,h⟩
 ·obtain ⟨x0,h2,h⟩:=Qaf h
  obtain ⟨x1,h3,h⟩:=Qaf h
  rcases Qaj h with ⟨h4,h⟩|⟨h4,h⟩
  ·obtain rfl:=(hE _ (oJ h):_=rv)
   exact gr 14 [] [bT h1,hH (.draw 9 []),cE e_i64 h2,cE e_i64 h3,bT h4]
  ·exact gn 16 [0,1,12,13] [] [bT h1,hH (.draw 9 []),cE e_i64 h2,cE e_i64 h3,bF h4] (hI _ (oJ h))
 ·exact gn 5 [] [] [bF h1] (hE _ (oJ h))
theorem QaM {a b} {rv:Bool} (h:QbV a b=some rv):AFn Tryd.prog 13 [.one (lL 1 a e_i64),.one (lL 1 b e_i64)] [] (one (.bool rv)) []:=by
 refine Qbz Tryd.func13 (by kernel_rfl) (by kernel_rfl) (fun Γ=>?_)
 unfold QbV at h
 rcases Qaj h with ⟨h0,h⟩|⟨h0,h⟩
 ·obtain rfl:=Option.some.inj h
  exact gr 8 [] [nL e_i64 a,nL e_i64 b,bT h0]
 ·obtain ⟨e0,h5,h⟩:=Qaf h
  refine gn 12 [0,1,12,13] [] [nL e_i64 a,nL e_i64 b,bF h0,nL e_i64 a] (Qe6 Γ rv h5 ?_)
  rcases e0 with e0|e0
  ·replace h:(some true:Option Bool)=some _:=h
   obtain rfl:=Option.some.inj h
   exact gr 2 [] []
  ·obtain ⟨r,rfl⟩:∃ x,x=e0:=⟨_,rfl⟩
   replace h:(some r:Option Bool)=some _:=h
   exact Option.some.inj h
def Qbo (Γ:Gam) (rv:List Int) (cf:Cf):Prop:=Go Tryd.prog Tryd.f14 [] Γ (one (lL 1 rv e_i64)) [] cf
def Qdo (Γ:Gam) (rv:List Int) (n:Qac) (profile:Int) (from_:Int) (t:Int) (l:List Int) (l1:List Int) (v:Int):Prop:=Qbo Γ rv ⟨[.c 116,.l 116,.b 0,.c 15],⟨100,[vI 1 profile,vI 2 from_,vI 3 t,vP 4 0 2,vO 9 1 1 l1 e_i64,vI 20 (lenI l),vI 21 v],[oX 2 25 (Qac.enc n),oS 1 3 l1 e_i64]⟩⟩
def Qc7 (Γ:Gam) (rv:List Int) (n:Qac) (profile:Int) (from_:Int) (t:Int) (l:List Int) (l2:List Int):Prop:=Qbo Γ rv ⟨[.c 15],⟨100,[vI 1 profile,vI 2 from_,vI 3 t,vP 4 0 2,vO 9 1 1 l2 e_i64],[oX 2 25 (Qac.enc n),oS 1 3 l2 e_i64]⟩⟩
def Qdq (Γ:Gam) (rv:List Int) (n:Qac) (profile:Int) (from_:Int) (l:List Int) (l4:List Int) (better1:Bool) (v1:Int):Prop:=Qbo Γ rv ⟨[.c 64812,.l 64812,.b 4,.b 3,.l 1012,.b 2,.c 127],⟨100,[vI 1 profile,vP 4 0 2,vO 9 1 1 l4 e_i64,vB 11 better1,vL 39 6 n.arcs Qad.enc,vI 40 (lenI n.arcs),vI 41 v1],[oX 2 25 (Qac.enc n),oS 1 3 l4 e_i64]⟩⟩
def Qc9 (Γ:Gam) (rv:List Int) (n:Qac) (profile:Int) (from_:Int) (l:List Int) (l5:List Int) (better2:Bool):Prop:=Qbo Γ rv ⟨[.b 3,.l 1012,.b 2,.c 127],⟨100,[vI 1 profile,vP 4 0 2,vO 9 1 1 l5 e_i64,vB 11 better2],[oX 2 25 (Qac.enc n),oS 1 3 l5 e_i64]⟩⟩
def Qdp (Γ:Gam) (rv:List Int) (n:Qac) (profile:Int) (from_:Int) (l:List Int) (l3:List Int) (better:Bool):Prop:=Qbo Γ rv ⟨[.c 1012,.l 1012,.b 2,.c 127],⟨100,[vI 1 profile,vP 4 0 2,vO 9 1 1 l3 e_i64,vB 11 better],[oX 2 25 (Qac.enc n),oS 1 3 l3 e_i64]⟩⟩
def Qc8 (Γ:Gam) (rv:List Int) (n:Qac) (profile:Int) (from_:Int) (l:List Int) (l6:List Int):Prop:=Qbo Γ rv ⟨[.c 127],⟨100,[vO 9 0 1 l6 e_i64],[oS 1 3 l6 e_i64]⟩⟩
theorem QeK (Γ:Gam) (rv:List Int) {n profile from_ t l} {s:List Int×Int} {e:List Int} (h:loopF (fun s=>Qb3 n profile from_ t l s.1 s.2) s=some e) (hD:Qc7 Γ rv n profile from_ t l e):Qdo Γ rv n profile from_ t l s.1 s.2:=by
 refine Qa8 (C:=fun (s:List Int×Int)=>Qdo Γ rv n profile from_ t l s.1 s.2) (D:=fun (e:List Int)=>Qc7 Γ rv n profile from_ t l e) ?_ h hD
 clear h hD s e
 rintro ⟨l1,v⟩ z_ h hI hE
 replace h:Qb3 n profile from_ t l l1 v=_:=h
 unfold Qb3 at h
 rcases Qaj h with ⟨h1,h⟩|⟨h1,h⟩
 ·obtain ⟨x0,h2,h⟩:=Qaf h
  exact gn 13 [1,2,3,4,9,20,21] [0,1] [bT h1,oO (getLo h2),oO (getHi e_i64 h2),rE e_i64 h2,hH (.rows ((setI l1 v (-1)).map e_i64)),hH (.relen 1 ((setI l1 v (-1)).map e_i64).length),oO (setM e_i64 l1 v (-1)),rp 2 (oO (QhX e_i64 l1 v (-1)))] (hI _ (oJ h))
 ·exact gn 5 [1,2,3,4,9] [0,1] [bF h1] (hE _ (oJ h))
theorem QeM (Γ:Gam) (rv:List Int) {n profile from_ l} {s:List Int×Bool×Int} {e:List Int×Bool} (h:loopF (fun s=>Qb4 n profile from_ l s.1 s.2.1 s.2.2) s=some e) (hD:Qc9 Γ rv n profile from_ l e.1 e.2):Qdq Γ rv n profile from_ l s.1 s.2.1 s.2.2:=by
 refine Qa8 (C:=fun (s:List Int×Bool×Int)=>Qdq Γ rv n profile from_ l s.1 s.2.1 s.2.2) (D:=fun (e:List Int×Bool)=>Qc9 Γ rv n profile from_ l e.1 e.2) ?_ h hD
 clear h hD s e
 rintro ⟨l4,better1,v1⟩ z_ h hI hE
 replace h:Qb4 n profile from_ l l4 better1 v1=_:=h
 unfold Qb4 at h
 rcases Qaj h with ⟨h8,h⟩|⟨h8,h⟩
 ·obtain ⟨x2,h9,h⟩:=Qaf h
  rcases Qaj h with ⟨h10,h⟩|⟨h10,h⟩
  ·exact gn 16 [1,4,9,11,39,40,41] [0,1] [bT h8,cE Qad.enc h9,rp 6 (bT h10),rp 14 tT] (hI _ (oJ h))
  ·obtain ⟨r1,h11,h⟩:=Qaf h
   rcases Qaj h with ⟨h12,h⟩|⟨h12,h⟩
   ·obtain ⟨r2,h13,h⟩:=Qaf h
    rcases Qaj h with ⟨h14,h⟩|⟨h14,h⟩
    ·obtain ⟨x3,h15,h⟩:=Qaf h
     rcases Qaj h with ⟨h16,h⟩|⟨h16,h⟩
     ·exact gn 16 [1,4,9,11,39,40,41] [0,1] [bT h8,cE Qad.enc h9,rp 4 (bF h10),cC (Qag h11),rp 2 (bF h10),rp 4 (nF h12),cC (Qag h13),rp 2 (nF h12),rp 4 (nF h14),oO (getLo h15),oO (getHi e_i64 h15),nF h14,rE e_i64 h15,rp 2 (nF h14),bT h16] (hI _ (oJ h))
     ·obtain ⟨r3,h17,h⟩:=Qaf h
      obtain ⟨x4,h18,h⟩:=Qaf h
      rcases Qaj h with ⟨h19,h⟩|⟨h19,h⟩
      ·exact gn 25 [1,4,9,11,39,40,41] [0,1] [bT h8,cE Qad.enc h9,rp 4 (bF h10),cC (Qag h11),rp 2 (bF h10),rp 4 (nF h12),cC (Qag h13),rp 2 (nF h12),rp 4 (nF h14),oO (getLo h15),oO (getHi e_i64 h15),nF h14,rE e_i64 h15,rp 2 (nF h14),bF h16,hH (.draw 8 []),oO (getLo h15),oO (getHi e_i64 h15),rE e_i64 h15,cC (Qcj h17),oO (getLo h18),oO (getHi e_i64 h18),rE e_i64 h18,rp 8 (bT h19),tT,oO (getLo h18),oO (getHi e_i64 h18),rE e_i64 h18,hH (.rows ((setI l4 x2.to_ r3).map e_i64)),hH (.relen 1 ((setI l4 x2.to_ r3).map e_i64).length),oO (setM e_i64 l4 x2.to_ r3),rp 5 (oO (QhX e_i64 l4 x2.to_ r3))] (hI _ (oJ h))
      ·rcases Qaj h with ⟨h20,h⟩|⟨h20,h⟩
       ·exact gn 25 [1,4,9,11,39,40,41] [0,1] [bT h8,cE Qad.enc h9,rp 4 (bF h10),cC (Qag h11),rp 2 (bF h10),rp 4 (nF h12),cC (Qag h13),rp 2 (nF h12),rp 4 (nF h14),oO (getLo h15),oO (getHi e_i64 h15),nF h14,rE e_i64 h15,rp 2 (nF h14),bF h16,hH (.draw 8 []),oO (getLo h15),oO (getHi e_i64 h15),rE e_i64 h15,cC (Qcj h17),oO (getLo h18),oO (getHi e_i64 h18),rE e_i64 h18,rp 5 (bF h19),oO (getLo h18),oO (getHi e_i64 h18),bF h19,rE e_i64 h18,rp 2 (bF h19),bT h20,oO (getLo h18),oO (getHi e_i64 h18),rE e_i64 h18,hH (.rows ((setI l4 x2.to_ r3).map e_i64)),hH (.relen 1 ((setI l4 x2.to_ r3).map e_i64).length),oO (setM e_i64 l4 x2.to_ r3),rp 6 (oO (QhX e_i64 l4 x2.to_ r3))] (hI _ (oJ h))
       ·exact gn 23 [1,4,9,11,39,40,41] [0,1] [bT h8,cE Qad.enc h9,rp 4 (bF h10),cC (Qag h11),rp 2 (bF h10),rp 4 (nF h12),cC (Qag h13),rp 2 (nF h12),rp 4 (nF h14),oO (getLo h15),oO (getHi e_i64 h15),nF h14,rE e_i64 h15,rp 2 (nF h14),bF h16,hH (.draw 8 []),oO (getLo h15),oO (getHi e_i64 h15),rE e_i64 h15,cC (Qcj h17),oO (getLo h18),oO (getHi e_i64 h18),rE e_i64 h18,rp 5 (bF h19),oO (getLo h18),oO (getHi e_i64 h18),bF h19,rE e_i64 h18,rp 2 (bF h19),bF h20] (hI _ (oJ h))
    ·exact gn 16 [1,4,9,11,39,40,41] [0,1] [bT h8,cE Qad.enc h9,rp 4 (bF h10),cC (Qag h11),rp 2 (bF h10),rp 4 (nF h12),cC (Qag h13),rp 2 (nF h12),rp 7 (nT h14),tT] (hI _ (oJ h))
   ·exact gn 16 [1,4,9,11,39,40,41] [0,1] [bT h8,cE Qad.enc h9,rp 4 (bF h10),cC (Qag h11),rp 2 (bF h10),rp 6 (nT h12),rp 8 tT] (hI _ (oJ h))
 ·exact gn 5 [1,4,9,11] [0,1] [bF h8] (hE _ (oJ h))
theorem QeL (Γ:Gam) (rv:List Int) {n profile from_ l} {s:List Int×Bool} {e:List Int} (h:loopF (fun s=>Qbx n profile from_ l s.1 s.2) s=some e) (hD:Qc8 Γ rv n profile from_ l e):Qdp Γ rv n profile from_ l s.1 s.2:=by
 refine Qa8 (C:=fun (s:List Int×Bool)=>Qdp Γ rv n profile from_ l s.1 s.2) (D:=fun (e:List Int)=>Qc8 Γ rv n profile from_ l e) ?_ h hD
 clear h hD s e
 rintro ⟨l3,better⟩ z_ h hI hE
 replace h:Qbx n profile from_ l l3 better=_:=h
 unfold Qbx at h
 rcases Qaj h with ⟨h7,h⟩|⟨h7,h⟩
 ·obtain ⟨e1,h21,h⟩:=Qaf h
  refine gn 12 [1,4,9,11,39,40,41] [0,1] [bT h7,nL Qad.enc n.arcs] (QeM Γ rv h21 ?_)
  obtain ⟨l5,better2⟩:=e1
  replace h:(some (.inl (l5,better2)):Option ((List Int×Bool)⊕(List Int)))=some _:=h
  exact gn 2 [1,4,9,11] [0,1] [] (hI _ (oJ h))
 ·exact gn 5 [9] [1] [bF h7] (hE _ (oJ h))
theorem QaG {n profile from_ t} {rv:List Int} (h:QbI n profile from_ t=some rv):AFn Tryd.prog 14 [.agg (Qac.enc n),.one (lI profile),.one (lI from_),.one (lI t)] [] (one (lL 1 rv e_i64)) []:=by
 refine Qbz Tryd.func14 (by kernel_rfl) (by kernel_rfl) (fun Γ=>?_)
 unfold QbI at h
 obtain ⟨l,h0,h⟩:=Qaf h
 obtain ⟨e0,h3,h⟩:=Qaf h
 refine gn 9 [1,2,3,4,9,20,21] [0,1] [nL e_str n.places,hH (.cells [lI 0]),hH (.rows (l.map e_i64)),oO (mk1 h0),oO (mk2 h0),oO (mk3 h0),oO (mk4 h0),oO (mk5 e_i64 h0),nL e_i64 l] (QeK Γ rv h3 ?_)
 obtain ⟨l2,rfl⟩:∃ x,x=e0:=⟨_,rfl⟩
 replace h:(bnd (QaU n from_) fun r=>br r (bnd (getI l2 from_) fun x1=>bnd (loopF (fun s=>Qbx n profile from_ l s.1 s.2) ((setI l2 from_ t),true)) (fun l6=>some l6)) (some l2):Option (List Int))=some _:=h
 obtain ⟨r,h4,h⟩:=Qaf h
 rcases Qaj h with ⟨h5,h⟩|⟨h5,h⟩
 ·obtain ⟨x1,h6,h⟩:=Qaf h
  obtain ⟨e2,h22,h⟩:=Qaf h
  refine gn 12 [1,4,9,11] [0,1] [cC (Qag h4),nF h5,oO (getLo h6),oO (getHi e_i64 h6),rE e_i64 h6,hH (.rows ((setI l2 from_ t).map e_i64)),hH (.relen 1 ((setI l2 from_ t).map e_i64).length),oO (setM e_i64 l2 from_ t),rp 2 (oO (QhX e_i64 l2 from_ t))] (QeL Γ rv h22 ?_)
  obtain ⟨l6,rfl⟩:∃ x,x=e2:=⟨_,rfl⟩
  replace h:(some l6:Option (List Int))=some _:=h
  obtain rfl:=Option.some.inj h
  exact gr 2 [] [hW 4,hH (.frz 0),rp 3 (eL l6 e_i64)]
 ·obtain rfl:=Option.some.inj h
  exact gr 6 [] [cC (Qag h4),nT h5,hW 4,hH (.frz 1),rp 3 (eL l2 e_i64)]
theorem Qb6 {rv:Bool} (h:Qa1=some rv):AFn Tryd.prog 5 [] [] (one (.bool rv)) []:=by
 refine Qbz Tryd.func5 (by kernel_rfl) (by kernel_rfl) (fun Γ=>?_)
 unfold Qa1 at h
 obtain ⟨r,h0,h⟩:=Qaf h
 obtain ⟨r1,h1,h⟩:=Qaf h
 obtain ⟨r2,h2,h⟩:=Qaf h
 obtain ⟨r3,h3,h⟩:=Qaf h
 obtain ⟨r4,h4,h⟩:=Qaf h
 rcases Qaj h with ⟨h5,h⟩|⟨h5,h⟩
 ·obtain ⟨r5,h6,h⟩:=Qaf h
  obtain ⟨r6,h7,h⟩:=Qaf h
  rcases Qaj h with ⟨h8,h⟩|⟨h8,h⟩
  ·obtain ⟨r7,h9,h⟩:=Qaf h
   obtain ⟨r8,h10,h⟩:=Qaf h
   rcases Qaj h with ⟨h11,h⟩|⟨h11,h⟩
   ·obtain ⟨r9,h12,h⟩:=Qaf h
    obtain ⟨r10,h13,h⟩:=Qaf h
    rcases Qaj h with ⟨h14,h⟩|⟨h14,h⟩
    ·obtain ⟨r11,h15,h⟩:=Qaf h
     obtain ⟨r12,h16,h⟩:=Qaf h
     obtain rfl:=Option.some.inj h
     exact gr 14 [] [cC (Qbp h0),cC (Qar h1),cC (QaV h2),cC (Qar h3),cC (Qar h4),rp 15 hP,oI ((eqI r1.2.2 0)=true),oR True ((eqI r1.2.2 0)=true),oI (((eqI r1.2.2 0)&&(eqI r1.1 23))=true),oR True (((eqI r1.2.2 0)&&(eqI r1.1 23))=true),oI ((((eqI r1.2.2 0)&&(eqI r1.1 23))&&(eqI r1.2.1 9))=true),oR True ((((eqI r1.2.2 0)&&(eqI r1.1 23))&&(eqI r1.2.1 9))=true),oI (((((eqI r1.2.2 0)&&(eqI r1.1 23))&&(eqI r1.2.1 9))&&(eqI r2.2 0))=true),oR True (((((eqI r1.2.2 0)&&(eqI r1.1 23))&&(eqI r1.2.1 9))&&(eqI r2.2 0))=true),oI ((((((eqI r1.2.2 0)&&(eqI r1.1 23))&&(eqI r1.2.1 9))&&(eqI r2.2 0))&&(eqI r3.2.2 12))=true),oR True ((((((eqI r1.2.2 0)&&(eqI r1.1 23))&&(eqI r1.2.1 9))&&(eqI r2.2 0))&&(eqI r3.2.2 12))=true),bT h5,bT h5,cC (QaG h6),bT h5,bT h5,oO (Eq.refl ([3,13,18].map e_i64).length),cC (QaM h7),bT h5,bT h8,bT h8,cC (QaG h9),bT h8,bT h8,oO (Eq.refl ([3,13,22].map e_i64).length),cC (QaM h10),bT h8,rp 2 (bT h11),cC (QaG h12),rp 2 (bT h11),oO (Eq.refl ([2,12,17].map e_i64).length),cC (QaM h13),bT h11,rp 2 (bT h14),cC (QaG h15),rp 2 (bT h14),oO (Eq.refl ([90,100,109].map e_i64).length),cC (QaM h16),bT h14]
    ·obtain rfl:=Option.some.inj h
     exact gr 14 [] [cC (Qbp h0),cC (Qar h1),cC (QaV h2),cC (Qar h3),cC (Qar h4),rp 15 hP,oI ((eqI r1.2.2 0)=true),oR True ((eqI r1.2.2 0)=true),oI (((eqI r1.2.2 0)&&(eqI r1.1 23))=true),oR True (((eqI r1.2.2 0)&&(eqI r1.1 23))=true),oI ((((eqI r1.2.2 0)&&(eqI r1.1 23))&&(eqI r1.2.1 9))=true),oR True ((((eqI r1.2.2 0)&&(eqI r1.1 23))&&(eqI r1.2.1 9))=true),oI (((((eqI r1.2.2 0)&&(eqI r1.1 23))&&(eqI r1.2.1 9))&&(eqI r2.2 0))=true),oR True (((((eqI r1.2.2 0)&&(eqI r1.1 23))&&(eqI r1.2.1 9))&&(eqI r2.2 0))=true),oI ((((((eqI r1.2.2 0)&&(eqI r1.1 23))&&(eqI r1.2.1 9))&&(eqI r2.2 0))&&(eqI r3.2.2 12))=true),oR True ((((((eqI r1.2.2 0)&&(eqI r1.1 23))&&(eqI r1.2.1 9))&&(eqI r2.2 0))&&(eqI r3.2.2 12))=true),bT h5,bT h5,cC (QaG h6),bT h5,bT h5,oO (Eq.refl ([3,13,18].map e_i64).length),cC (QaM h7),bT h5,bT h8,bT h8,cC (QaG h9),bT h8,bT h8,oO (Eq.refl ([3,13,22].map e_i64).length),cC (QaM h10),bT h8,rp 2 (bT h11),cC (QaG h12),rp 2 (bT h11),oO (Eq.refl ([2,12,17].map e_i64).length),cC (QaM h13),bT h11,rp 5 (bF h14)]
   ·obtain rfl:=Option.some.inj h
    exact gr 14 [] [cC (Qbp h0),cC (Qar h1),cC (QaV h2),cC (Qar h3),cC (Qar h4),rp 15 hP,oI ((eqI r1.2.2 0)=true),oR True ((eqI r1.2.2 0)=true),oI (((eqI r1.2.2 0)&&(eqI r1.1 23))=true),oR True (((eqI r1.2.2 0)&&(eqI r1.1 23))=true),oI ((((eqI r1.2.2 0)&&(eqI r1.1 23))&&(eqI r1.2.1 9))=true),oR True ((((eqI r1.2.2 0)&&(eqI r1.1 23))&&(eqI r1.2.1 9))=true),oI (((((eqI r1.2.2 0)&&(eqI r1.1 23))&&(eqI r1.2.1 9))&&(eqI r2.2 0))=true),oR True (((((eqI r1.2.2 0)&&(eqI r1.1 23))&&(eqI r1.2.1 9))&&(eqI r2.2 0))=true),oI ((((((eqI r1.2.2 0)&&(eqI r1.1 23))&&(eqI r1.2.1 9))&&(eqI r2.2 0))&&(eqI r3.2.2 12))=true),oR True ((((((eqI r1.2.2 0)&&(eqI r1.1 23))&&(eqI r1.2.1 9))&&(eqI r2.2 0))&&(eqI r3.2.2 12))=true),bT h5,bT h5,cC (QaG h6),bT h5,bT h5,oO (Eq.refl ([3,13,18].map e_i64).length),cC (QaM h7),bT h5,bT h8,bT h8,cC (QaG h9),bT h8,bT h8,oO (Eq.refl ([3,13,22].map e_i64).length),cC (QaM h10),bT h8,rp 5 (bF h11),rp 5 fF]
  ·obtain rfl:=Option.some.inj h
   exact gr 14 [] [cC (Qbp h0),cC (Qar h1),cC (QaV h2),cC (Qar h3),cC (Qar h4),rp 15 hP,oI ((eqI r1.2.2 0)=true),oR True ((eqI r1.2.2 0)=true),oI (((eqI r1.2.2 0)&&(eqI r1.1 23))=true),oR True (((eqI r1.2.2 0)&&(eqI r1.1 23))=true),oI ((((eqI r1.2.2 0)&&(eqI r1.1 23))&&(eqI r1.2.1 9))=true),oR True ((((eqI r1.2.2 0)&&(eqI r1.1 23))&&(eqI r1.2.1 9))=true),oI (((((eqI r1.2.2 0)&&(eqI r1.1 23))&&(eqI r1.2.1 9))&&(eqI r2.2 0))=true),oR True (((((eqI r1.2.2 0)&&(eqI r1.1 23))&&(eqI r1.2.1 9))&&(eqI r2.2 0))=true),oI ((((((eqI r1.2.2 0)&&(eqI r1.1 23))&&(eqI r1.2.1 9))&&(eqI r2.2 0))&&(eqI r3.2.2 12))=true),oR True ((((((eqI r1.2.2 0)&&(eqI r1.1 23))&&(eqI r1.2.1 9))&&(eqI r2.2 0))&&(eqI r3.2.2 12))=true),bT h5,bT h5,cC (QaG h6),bT h5,bT h5,oO (Eq.refl ([3,13,18].map e_i64).length),cC (QaM h7),bT h5,rp 5 (bF h8),rp 10 fF]
 ·obtain rfl:=Option.some.inj h
  exact gr 14 [] [cC (Qbp h0),cC (Qar h1),cC (QaV h2),cC (Qar h3),cC (Qar h4),rp 15 hP,oI ((eqI r1.2.2 0)=true),oR True ((eqI r1.2.2 0)=true),oI (((eqI r1.2.2 0)&&(eqI r1.1 23))=true),oR True (((eqI r1.2.2 0)&&(eqI r1.1 23))=true),oI ((((eqI r1.2.2 0)&&(eqI r1.1 23))&&(eqI r1.2.1 9))=true),oR True ((((eqI r1.2.2 0)&&(eqI r1.1 23))&&(eqI r1.2.1 9))=true),oI (((((eqI r1.2.2 0)&&(eqI r1.1 23))&&(eqI r1.2.1 9))&&(eqI r2.2 0))=true),oR True (((((eqI r1.2.2 0)&&(eqI r1.1 23))&&(eqI r1.2.1 9))&&(eqI r2.2 0))=true),oI ((((((eqI r1.2.2 0)&&(eqI r1.1 23))&&(eqI r1.2.1 9))&&(eqI r2.2 0))&&(eqI r3.2.2 12))=true),oR True ((((((eqI r1.2.2 0)&&(eqI r1.1 23))&&(eqI r1.2.1 9))&&(eqI r2.2 0))&&(eqI r3.2.2 12))=true),rp 5 (bF h5),rp 15 fF]
theorem Qc1 {n} {rv:ByteArray} (h:QdK n=some rv):AFn Tryd.prog 15 [.one (lI n)] [] (one (.str rv)) []:=by
 refine Qbz Tryd.func15 (by kernel_rfl) (by kernel_rfl) (fun Γ=>?_)
 unfold QdK at h
 obtain ⟨r,h0,h⟩:=Qaf h
 obtain rfl:=Option.some.inj h
 exact gr 4 [] [cC (Qdi h0)]
theorem Qd1 {c} {rv:Bool} (h:QfK c=some rv):AFn Tryd.prog 28 [.one (.int .u8 c)] [] (one (.bool rv)) []:=by
 refine Qbz Tryd.func28 (by kernel_rfl) (by kernel_rfl) (fun Γ=>?_)
 unfold QfK at h
 obtain rfl:=Option.some.inj h
 exact gr 4 [] [hP,hP,hP,oI ((geI c 48)=true),oR True ((geI c 48)=true)]
theorem Qeq {c} {rv:Bool} (h:Qf0 c=some rv):AFn Tryd.prog 29 [.one (.int .u8 c)] [] (one (.bool rv)) []:=by
 refine Qbz Tryd.func29 (by kernel_rfl) (by kernel_rfl) (fun Γ=>?_)
 unfold Qf0 at h
 obtain rfl:=Option.some.inj h
 exact gr 4 [] [rp 14 hP,oI ((geI c 97)=true),oR True ((geI c 97)=true),rp 2 (oI (((geI c 97)&&(leI c 122))=false)),oI ((((geI c 97)&&(leI c 122))=false)∧(geI c 65)=true),oI (((geI c 97)&&(leI c 122))=false),oI ((((geI c 97)&&(leI c 122))=false)∧(geI c 65)=true),oR True (((geI c 97)&&(leI c 122))=false),oI ((((geI c 97)&&(leI c 122))||((geI c 65)&&(leI c 90)))=false),oR True ((((geI c 97)&&(leI c 122))||((geI c 65)&&(leI c 90)))=false)]
def Qg4 (Γ:Gam) (rv:Bool) (cf:Cf):Prop:=Go Tryd.prog Tryd.f16 [] Γ (one (.bool rv)) [] cf
def QfJ (Γ:Gam) (rv:Bool) (s0:ByteArray) (b:UInt8) (v:Int):Prop:=Qg4 Γ rv ⟨[.c 116,.l 116,.b 0,.c 15],⟨34,[vS 0 s0,vI 17 (sizeS s0),vI 18 v],[]⟩⟩
def Qff (Γ:Gam) (rv:Bool) (s0:ByteArray) (b:UInt8):Prop:=Qg4 Γ rv ⟨[.c 15],⟨34,[],[]⟩⟩
theorem QgT (Γ:Gam) (rv:Bool) {s0 b} {s:Int} {e:(Unit)⊕(Bool)} (h:loopF (fun s=>Qep s0 b s) s=some e) (hD:sel e (fun e=>Qff Γ rv s0 b) (fun e=>e=rv)):QfJ Γ rv s0 b s:=by
 refine Qa8 (C:=fun (s:Int)=>QfJ Γ rv s0 b s) (D:=fun (e:(Unit)⊕(Bool))=>sel e (fun e=>Qff Γ rv s0 b) (fun e=>e=rv)) ?_ h hD
 clear h hD s e
 intro v z_ h hI hE
 replace h:Qep s0 b v=_:=h
 unfold Qep at h
 rcases Qaj h with ⟨h4,h⟩|⟨h4,h⟩
 ·obtain ⟨b1,h5,h⟩:=Qaf h
  obtain ⟨r1,h6,h⟩:=Qaf h
  rcases Qaj h with ⟨h7,h⟩|⟨h7,h⟩
  ·exact gn 16 [0,17,18] [] [bT h4,yE h5,cC (Qeq h6),rp 6 (nF h7),fF] (hI _ (oJ h))
  ·obtain ⟨r2,h8,h⟩:=Qaf h
   rcases Qaj h with ⟨h9,h⟩|⟨h9,h⟩
   ·exact gn 16 [0,17,18] [] [bT h4,yE h5,cC (Qeq h6),rp 3 (nT h7),yE h5,nT h7,cC (Qd1 h8),nT h7,nT h7,nF h9] (hI _ (oJ h))
   ·obtain rfl:=(hE _ (oJ h):_=rv)
    exact gr 14 [] [bT h4,yE h5,cC (Qeq h6),rp 3 (nT h7),yE h5,nT h7,cC (Qd1 h8),nT h7,nT h7,nT h9]
 ·exact gn 5 [] [] [bF h4] (hE _ (oJ h))
theorem Qfp {s0} {rv:Bool} (h:QfI s0=some rv):AFn Tryd.prog 16 [.one (.str s0)] [] (one (.bool rv)) []:=by
 refine Qbz Tryd.func16 (by kernel_rfl) (by kernel_rfl) (fun Γ=>?_)
 unfold QfI at h
 rcases Qaj h with ⟨h0,h⟩|⟨h0,h⟩
 ·obtain rfl:=Option.some.inj h
  exact gr 8 [] [rp 4 hP,rp 2 (oI ((eqS s0 ByteArray.empty)=false)),oR True ((eqS s0 ByteArray.empty)=false),rp 4 (bT h0),tT]
 ·obtain ⟨b,h1,h⟩:=Qaf h
  obtain ⟨r,h2,h⟩:=Qaf h
  rcases Qaj h with ⟨h3,h⟩|⟨h3,h⟩
  ·obtain rfl:=Option.some.inj h
   exact gr 8 [] [rp 4 hP,rp 2 (oI ((eqS s0 ByteArray.empty)=false)),oR True ((eqS s0 ByteArray.empty)=false),bF h0,bF h0,yE h1,bF h0,cC (Qd1 h2),bF h0,bT h3]
  ·obtain ⟨e0,h10,h⟩:=Qaf h
   refine gn 12 [0,17,18] [] [rp 4 hP,rp 2 (oI ((eqS s0 ByteArray.empty)=false)),oR True ((eqS s0 ByteArray.empty)=false),bF h0,bF h0,yE h1,bF h0,cC (Qd1 h2),bF h0,bF h3] (QgT Γ rv h10 ?_)
   rcases e0 with e0|e0
   ·replace h:(some true:Option Bool)=some _:=h
    obtain rfl:=Option.some.inj h
    exact gr 2 [] []
   ·obtain ⟨r3,rfl⟩:∃ x,x=e0:=⟨_,rfl⟩
    replace h:(some r3:Option Bool)=some _:=h
    exact Option.some.inj h
def Qeo (Γ:Gam) (rv:List Int) (cf:Cf):Prop:=Go Tryd.prog Tryd.f31 [] Γ (one (lL 1 rv e_i64)) [] cf
def QeD (Γ:Gam) (rv:List Int) (l:List Qab) (l2:List Int) (v:Int):Prop:=Qeo Γ rv ⟨[.c 244,.l 244,.b 0,.c 31],⟨49,[vL 0 2 l Qab.enc,vO 3 0 1 l2 e_i64,vL 12 2 l Qab.enc,vI 13 (lenI l),vI 14 v],[oS 1 29 l2 e_i64]⟩⟩
def Qeg (Γ:Gam) (rv:List Int) (l:List Qab) (l3:List Int):Prop:=Qeo Γ rv ⟨[.c 31],⟨49,[vO 3 0 1 l3 e_i64],[oS 1 29 l3 e_i64]⟩⟩
theorem QfR (Γ:Gam) (rv:List Int) {l} {s:List Int×Int} {e:List Int} (h:loopF (fun s=>Qbc l s.1 s.2) s=some e) (hD:Qeg Γ rv l e):QeD Γ rv l s.1 s.2:=by
 refine Qa8 (C:=fun (s:List Int×Int)=>QeD Γ rv l s.1 s.2) (D:=fun (e:List Int)=>Qeg Γ rv l e) ?_ h hD
 clear h hD s e
 rintro ⟨l2,v⟩ z_ h hI hE
 replace h:Qbc l l2 v=_:=h
 unfold Qbc at h
 rcases Qaj h with ⟨h2,h⟩|⟨h2,h⟩
 ·obtain ⟨x0,h3,h⟩:=Qaf h
  obtain ⟨r,h4,h⟩:=Qaf h
  rcases Qaj h with ⟨h5,h⟩|⟨h5,h⟩
  ·rcases Qaj h with ⟨h6,h⟩|⟨h6,h⟩
   ·obtain ⟨x1,h7,h⟩:=Qaf h
    rcases Qaj h with ⟨h8,h⟩|⟨h8,h⟩
    ·obtain ⟨h9,h⟩:=Qat h
     exact gn 16 [0,3,12,13,14] [3] [bT h2,cE Qab.enc h3,hH (.draw 25 []),cC (QaD h4),rp 3 (nF h5),rp 6 (bT h6),cE Qab.enc h7,rp 3 (bT h6),nF h5,bT h6,nF h5,rp 5 (bT h8),tT,oO (Eq.refl ([2].map e_i64).length),aO e_i64 h9] (hI _ (oJ h))
    ·obtain ⟨r1,h10,h⟩:=Qaf h
     rcases Qaj h with ⟨h11,h⟩|⟨h11,h⟩
     ·exact gn 16 [0,3,12,13,14] [0] [bT h2,cE Qab.enc h3,hH (.draw 25 []),cC (QaD h4),rp 3 (nF h5),rp 6 (bT h6),cE Qab.enc h7,rp 3 (bT h6),nF h5,bT h6,nF h5,rp 3 (bF h8),cC (QaD h10),bF h8,bF h8,nF h11] (hI _ (oJ h))
     ·obtain ⟨h12,h⟩:=Qat h
      exact gn 16 [0,3,12,13,14] [3] [bT h2,cE Qab.enc h3,hH (.draw 25 []),cC (QaD h4),rp 3 (nF h5),rp 6 (bT h6),cE Qab.enc h7,rp 3 (bT h6),nF h5,bT h6,nF h5,rp 3 (bF h8),cC (QaD h10),bF h8,bF h8,nT h11,oO (Eq.refl ([2].map e_i64).length),aO e_i64 h12] (hI _ (oJ h))
   ·obtain ⟨r2,h13,h⟩:=Qaf h
    rcases Qaj h with ⟨h14,h⟩|⟨h14,h⟩
    ·exact gn 16 [0,3,12,13,14] [0] [bT h2,cE Qab.enc h3,hH (.draw 25 []),cC (QaD h4),rp 3 (nF h5),rp 9 (bF h6),nF h5,bF h6,nF h5,fF,fF,fF,cC (QaD h13),fF,fF,nF h14] (hI _ (oJ h))
    ·obtain ⟨h15,h⟩:=Qat h
     exact gn 16 [0,3,12,13,14] [3] [bT h2,cE Qab.enc h3,hH (.draw 25 []),cC (QaD h4),rp 3 (nF h5),rp 9 (bF h6),nF h5,bF h6,nF h5,fF,fF,fF,cC (QaD h13),fF,fF,nT h14,oO (Eq.refl ([2].map e_i64).length),aO e_i64 h15] (hI _ (oJ h))
  ·obtain ⟨h16,h⟩:=Qat h
   exact gn 16 [0,3,12,13,14] [3] [bT h2,cE Qab.enc h3,hH (.draw 25 []),cC (QaD h4),rp 3 (nT h5),rp 9 kF,nT h5,nT h5,rp 6 tT,oO (Eq.refl ([2].map e_i64).length),aO e_i64 h16] (hI _ (oJ h))
 ·exact gn 5 [3] [0] [bF h2] (hE _ (oJ h))
theorem Qef (Γ:Gam) (rv:List Int) {l l1} (h:Qcn l l1=some rv):Qeo Γ rv ⟨[.c 15],⟨49,[vL 0 2 l Qab.enc,vO 3 0 1 l1 e_i64],[oS 1 29 l1 e_i64]⟩⟩:=by
 unfold Qcn at h
 obtain ⟨e0,h17,h⟩:=Qaf h
 refine gn 5 [0,3,12,13,14] [0] [nL Qab.enc l] (QfR Γ rv h17 ?_)
 obtain ⟨l3,rfl⟩:∃ x,x=e0:=⟨_,rfl⟩
 replace h:(some l3:Option (List Int))=some _:=h
 obtain rfl:=Option.some.inj h
 exact gr 2 [] [hW 4,hH (.frz 0),rp 3 (eL l3 e_i64)]
theorem Qfc {l} {rv:List Int} (h:Qcc l=some rv):AFn Tryd.prog 31 [.one (lL 2 l Qab.enc)] [] (one (lL 1 rv e_i64)) []:=by
 refine Qbz Tryd.func31 (by kernel_rfl) (by kernel_rfl) (fun Γ=>?_)
 unfold Qcc at h
 rcases Qaj h with ⟨h0,h⟩|⟨h0,h⟩
 ·obtain ⟨h1,h⟩:=Qat h
  exact gn 9 [0,3] [1] [nL Qab.enc l,bT h0,oO (Eq.refl ([4].map e_i64).length),aN (l:=([4]:List Int)) e_i64 h1] (Qef Γ rv h)
 ·exact gn 9 [0,3] [0] [nL Qab.enc l,bF h0,hW 1,hH (.adopt 3 1 29)] (Qef Γ rv h)
def Qby (Γ:Gam) (rv:List Int) (known:List (Qae×Bool)) (cf:Cf):Prop:=Go Tryd.prog Tryd.f17 [0] Γ (one (lL 1 rv e_i64)) [oM 50 known (mE Qae.enc Lf.bool)] cf
def QeO (Γ:Gam) (rv:List Int) (a:Qad) (known:List (Qae×Bool)) (l:List Int) (r3:List Qaa) (l3:List Int) (v:Int):Prop:=Qby Γ rv known ⟨[.c 1012,.l 1012,.b 0,.c 127],⟨79,[vP 4 1 6,vO 7 2 1 l3 e_i64,vL 62 2 r3 Qaa.enc,vI 63 (lenI r3),vI 64 v],[oM 50 known (mE Qae.enc Lf.bool),oX 6 38 (Qad.enc a),oS 1 29 l3 e_i64]⟩⟩
def QeA (Γ:Gam) (rv:List Int) (a:Qad) (known:List (Qae×Bool)) (l:List Int) (r3:List Qaa) (l4:List Int):Prop:=Qby Γ rv known ⟨[.c 127],⟨79,[vP 4 1 6,vO 7 2 1 l4 e_i64],[oM 50 known (mE Qae.enc Lf.bool),oX 6 38 (Qad.enc a),oS 1 29 l4 e_i64]⟩⟩
def QeP (Γ:Gam) (rv:List Int) (a:Qad) (known:List (Qae×Bool)) (r6:List Qaa) (l7:List Int) (v1:Int):Prop:=Qby Γ rv known ⟨[.c 1012,.l 1012,.b 0,.c 127],⟨79,[vP 4 1 6,vO 7 2 1 l7 e_i64,vL 62 2 r6 Qaa.enc,vI 63 (lenI r6),vI 64 v1],[oM 50 known (mE Qae.enc Lf.bool),oX 6 38 (Qad.enc a),oS 1 29 l7 e_i64]⟩⟩
def QeB (Γ:Gam) (rv:List Int) (a:Qad) (known:List (Qae×Bool)) (r6:List Qaa) (l8:List Int):Prop:=Qby Γ rv known ⟨[.c 127],⟨79,[vP 4 1 6,vO 7 2 1 l8 e_i64],[oM 50 known (mE Qae.enc Lf.bool),oX 6 38 (Qad.enc a),oS 1 29 l8 e_i64]⟩⟩
theorem Qf9 (Γ:Gam) (rv:List Int) {a known l r3} {s:List Int×Int} {e:List Int} (h:loopF (fun s=>QcN a known l r3 s.1 s.2) s=some e) (hD:QeA Γ rv a known l r3 e):QeO Γ rv a known l r3 s.1 s.2:=by
 refine Qa8 (C:=fun (s:List Int×Int)=>QeO Γ rv a known l r3 s.1 s.2) (D:=fun (e:List Int)=>QeA Γ rv a known l r3 e) ?_ h hD
 clear h hD s e
 rintro ⟨l3,v⟩ z_ h hI hE
 replace h:QcN a known l r3 l3 v=_:=h
 unfold QcN at h
 rcases Qaj h with ⟨h11,h⟩|⟨h11,h⟩
 ·obtain ⟨x0,h12,h⟩:=Qaf h
  obtain ⟨h13,h⟩:=Qat h
  exact gn 13 [4,7,62,63,64] [0,1,5] [bT h11,cE Qaa.enc h12,oO (Eq.refl ([x0.err].map e_i64).length),aO e_i64 h13] (hI _ (oJ h))
 ·exact gn 5 [4,7] [0,1,2] [bF h11] (hE _ (oJ h))
theorem Qex (Γ:Gam) (rv:List Int) {a known l l2} (h:QcM a known l l2=some rv):Qby Γ rv known ⟨[.c 63],⟨79,[vP 4 1 6,vO 7 2 1 l2 e_i64],[oM 50 known (mE Qae.enc Lf.bool),oX 6 38 (Qad.enc a),oS 1 29 l2 e_i64]⟩⟩:=by
 unfold QcM at h
 obtain ⟨r3,h10,h⟩:=Qaf h
 obtain ⟨e0,h14,h⟩:=Qaf h
 refine gn 5 [4,7,62,63,64] [0,1,2] [cC (Qd3 h10),nL Qaa.enc r3] (Qf9 Γ rv h14 ?_)
 obtain ⟨l4,rfl⟩:∃ x,x=e0:=⟨_,rfl⟩
 replace h:(bnd (Qcc a.slow) fun r4=>chk (okN (l4++r4).length 8) (some (l4++r4)):Option (List Int))=some _:=h
 obtain ⟨r4,h15,h⟩:=Qaf h
 obtain ⟨h16,h⟩:=Qat h
 obtain rfl:=Option.some.inj h
 exact gr 2 [0] [cC (Qfc h15),aO e_i64 h16,hW 1,hH (.frz 3),rp 2 (oO (Eq.refl ((l4++r4).map e_i64).length))]
theorem Qew (Γ:Gam) (rv:List Int) {a known l l1} (h:QcL a known l l1=some rv):Qby Γ rv known ⟨[.c 31],⟨79,[(2,one (.mp 0)),vP 4 1 6,vO 7 2 1 l1 e_i64],[oM 50 known (mE Qae.enc Lf.bool),oX 6 38 (Qad.enc a),oS 1 29 l1 e_i64]⟩⟩:=by
 unfold QcL at h
 obtain ⟨r2,h7,h⟩:=Qaf h
 rcases Qaj h with ⟨h8,h⟩|⟨h8,h⟩
 ·obtain ⟨h9,h⟩:=Qat h
  exact gn 5 [4,7] [0,1,4] [cC (Qbr h7),mG Qae.kq Lf.bool known r2 false,bT h8,oO (Eq.refl ([6].map e_i64).length),aO e_i64 h9] (Qex Γ rv h)
 ·exact gn 5 [4,7] [0,1,2] [cC (Qbr h7),mG Qae.kq Lf.bool known r2 false,bF h8] (Qex Γ rv h)
theorem Qev (Γ:Gam) (rv:List Int) {a known l} (h:QcK a known l=some rv):Qby Γ rv known ⟨[.c 15],⟨79,[(2,one (.mp 0)),vP 4 1 6,vO 7 2 1 l e_i64],[oM 50 known (mE Qae.enc Lf.bool),oX 6 38 (Qad.enc a),oS 1 29 l e_i64]⟩⟩:=by
 unfold QcK at h
 rcases Qaj h with ⟨h5,h⟩|⟨h5,h⟩
 ·obtain ⟨h6,h⟩:=Qat h
  exact gn 5 [2,4,7] [0,1,4] [rp 18 hP,rp 2 (oI ((ltI a.profile 0)=false)),oR True ((ltI a.profile 0)=false),rp 2 (oI (((ltI a.profile 0)||(gtI a.profile 7))=false)),oR True (((ltI a.profile 0)||(gtI a.profile 7))=false),rp 2 (oI ((((ltI a.profile 0)||(gtI a.profile 7))||(ltI a.miles 0))=false)),oR True ((((ltI a.profile 0)||(gtI a.profile 7))||(ltI a.miles 0))=false),rp 4 (oI (((((ltI a.profile 0)||(gtI a.profile 7))||(ltI a.miles 0))||(gtI a.miles 10000))=false)),oR True (((((ltI a.profile 0)||(gtI a.profile 7))||(ltI a.miles 0))||(gtI a.miles 10000))=false),bT h5,oO (Eq.refl ([2].map e_i64).length),aO e_i64 h6] (Qew Γ rv h)
 ·exact gn 5 [2,4,7] [0,1,2] [rp 18 hP,rp 2 (oI ((ltI a.profile 0)=false)),oR True ((ltI a.profile 0)=false),rp 2 (oI (((ltI a.profile 0)||(gtI a.profile 7))=false)),oR True (((ltI a.profile 0)||(gtI a.profile 7))=false),rp 2 (oI ((((ltI a.profile 0)||(gtI a.profile 7))||(ltI a.miles 0))=false)),oR True ((((ltI a.profile 0)||(gtI a.profile 7))||(ltI a.miles 0))=false),rp 4 (oI (((((ltI a.profile 0)||(gtI a.profile 7))||(ltI a.miles 0))||(gtI a.miles 10000))=false)),oR True (((((ltI a.profile 0)||(gtI a.profile 7))||(ltI a.miles 0))||(gtI a.miles 10000))=false),bF h5] (Qew Γ rv h)
theorem Qga (Γ:Gam) (rv:List Int) {a known r6} {s:List Int×Int} {e:List Int} (h:loopF (fun s=>Qdu a known r6 s.1 s.2) s=some e) (hD:QeB Γ rv a known r6 e):QeP Γ rv a known r6 s.1 s.2:=by
 refine Qa8 (C:=fun (s:List Int×Int)=>QeP Γ rv a known r6 s.1 s.2) (D:=fun (e:List Int)=>QeB Γ rv a known r6 e) ?_ h hD
 clear h hD s e
 rintro ⟨l7,v1⟩ z_ h hI hE
 replace h:Qdu a known r6 l7 v1=_:=h
 unfold Qdu at h
 rcases Qaj h with ⟨h24,h⟩|⟨h24,h⟩
 ·obtain ⟨x1,h25,h⟩:=Qaf h
  obtain ⟨h26,h⟩:=Qat h
  exact gn 13 [4,7,62,63,64] [0,1,5] [bT h24,cE Qaa.enc h25,oO (Eq.refl ([x1.err].map e_i64).length),aO e_i64 h26] (hI _ (oJ h))
 ·exact gn 5 [4,7] [0,1,2] [bF h24] (hE _ (oJ h))
theorem Qez (Γ:Gam) (rv:List Int) {a known l6} (h:Qdt a known l6=some rv):Qby Γ rv known ⟨[.c 63],⟨79,[vP 4 1 6,vO 7 2 1 l6 e_i64],[oM 50 known (mE Qae.enc Lf.bool),oX 6 38 (Qad.enc a),oS 1 29 l6 e_i64]⟩⟩:=by
 unfold Qdt at h
 obtain ⟨r6,h23,h⟩:=Qaf h
 obtain ⟨e1,h27,h⟩:=Qaf h
 refine gn 5 [4,7,62,63,64] [0,1,2] [cC (Qd3 h23),nL Qaa.enc r6] (Qga Γ rv h27 ?_)
 obtain ⟨l8,rfl⟩:∃ x,x=e1:=⟨_,rfl⟩
 replace h:(bnd (Qcc a.slow) fun r7=>chk (okN (l8++r7).length 8) (some (l8++r7)):Option (List Int))=some _:=h
 obtain ⟨r7,h28,h⟩:=Qaf h
 obtain ⟨h29,h⟩:=Qat h
 obtain rfl:=Option.some.inj h
 exact gr 2 [0] [cC (Qfc h28),aO e_i64 h29,hW 1,hH (.frz 3),rp 2 (oO (Eq.refl ((l8++r7).map e_i64).length))]
theorem Qey (Γ:Gam) (rv:List Int) {a known l5} (h:Qds a known l5=some rv):Qby Γ rv known ⟨[.c 31],⟨79,[(2,one (.mp 0)),vP 4 1 6,vO 7 2 1 l5 e_i64],[oM 50 known (mE Qae.enc Lf.bool),oX 6 38 (Qad.enc a),oS 1 29 l5 e_i64]⟩⟩:=by
 unfold Qds at h
 obtain ⟨r5,h20,h⟩:=Qaf h
 rcases Qaj h with ⟨h21,h⟩|⟨h21,h⟩
 ·obtain ⟨h22,h⟩:=Qat h
  exact gn 5 [4,7] [0,1,4] [cC (Qbr h20),mG Qae.kq Lf.bool known r5 false,bT h21,oO (Eq.refl ([6].map e_i64).length),aO e_i64 h22] (Qez Γ rv h)
 ·exact gn 5 [4,7] [0,1,2] [cC (Qbr h20),mG Qae.kq Lf.bool known r5 false,bF h21] (Qez Γ rv h)
theorem Qhe {n a known} {rv:List Int} (h:Qee n a known=some rv):AFn Tryd.prog 17 [.agg (Qac.enc n),.agg (Qad.enc a),.one (.mp 0)] [bM 50 known (mE Qae.enc Lf.bool)] (one (lL 1 rv e_i64)) [oM 50 known (mE Qae.enc Lf.bool)]:=by
 refine Qbz Tryd.func17 (by kernel_rfl) (by kernel_rfl) (fun Γ=>?_)
 unfold Qee at h
 obtain ⟨r,h0,h⟩:=Qaf h
 rcases Qaj h with ⟨h1,h⟩|⟨h1,h⟩
 ·obtain ⟨r1,h2,h⟩:=Qaf h
  rcases Qaj h with ⟨h3,h⟩|⟨h3,h⟩
  ·exact gn 9 [2,4,7] [0,2,3] [cC (Qag h0),rp 4 (nF h1),cC (Qag h2),nF h1,nF h1,nF h3,hW 1,hH (.adopt 7 1 29)] (Qev Γ rv h)
  ·obtain ⟨h4,h⟩:=Qat h
   exact gn 9 [2,4,7] [0,2,4] [cC (Qag h0),rp 4 (nF h1),cC (Qag h2),nF h1,nF h1,nT h3,oO (Eq.refl ([11].map e_i64).length),aN (l:=([11]:List Int)) e_i64 h4] (Qev Γ rv h)
 ·obtain ⟨h17,h⟩:=Qat h
  rcases Qaj h with ⟨h18,h⟩|⟨h18,h⟩
  ·obtain ⟨h19,h⟩:=Qat h
   exact gn 14 [2,4,7] [0,2,6] [cC (Qag h0),rp 6 (nT h1),tT,oO (Eq.refl ([11].map e_i64).length),aN (l:=([11]:List Int)) e_i64 h17,rp 18 hP,rp 2 (oI ((ltI a.profile 0)=false)),oR True ((ltI a.profile 0)=false),rp 2 (oI (((ltI a.profile 0)||(gtI a.profile 7))=false)),oR True (((ltI a.profile 0)||(gtI a.profile 7))=false),rp 2 (oI ((((ltI a.profile 0)||(gtI a.profile 7))||(ltI a.miles 0))=false)),oR True ((((ltI a.profile 0)||(gtI a.profile 7))||(ltI a.miles 0))=false),rp 4 (oI (((((ltI a.profile 0)||(gtI a.profile 7))||(ltI a.miles 0))||(gtI a.miles 10000))=false)),oR True (((((ltI a.profile 0)||(gtI a.profile 7))||(ltI a.miles 0))||(gtI a.miles 10000))=false),bT h18,oO (Eq.refl ([2].map e_i64).length),aO e_i64 h19] (Qey Γ rv h)
  ·exact gn 14 [2,4,7] [0,2,4] [cC (Qag h0),rp 6 (nT h1),tT,oO (Eq.refl ([11].map e_i64).length),aN (l:=([11]:List Int)) e_i64 h17,rp 18 hP,rp 2 (oI ((ltI a.profile 0)=false)),oR True ((ltI a.profile 0)=false),rp 2 (oI (((ltI a.profile 0)||(gtI a.profile 7))=false)),oR True (((ltI a.profile 0)||(gtI a.profile 7))=false),rp 2 (oI ((((ltI a.profile 0)||(gtI a.profile 7))||(ltI a.miles 0))=false)),oR True ((((ltI a.profile 0)||(gtI a.profile 7))||(ltI a.miles 0))=false),rp 4 (oI (((((ltI a.profile 0)||(gtI a.profile 7))||(ltI a.miles 0))||(gtI a.miles 10000))=false)),oR True (((((ltI a.profile 0)||(gtI a.profile 7))||(ltI a.miles 0))||(gtI a.miles 10000))=false),bF h18] (Qey Γ rv h)
def Qbb (Γ:Gam) (rv:List Qaa) (cf:Cf):Prop:=Go Tryd.prog Tryd.f6 [] Γ (one (lL 2 rv Qaa.enc)) [] cf
def QcX (Γ:Gam) (rv:List Qaa) (n:Qac) (l:List Qaa) (l1:List Qaa) (l2:List (ByteArray×Bool)) (v:Int):Prop:=Qbb Γ rv ⟨[.c 500,.l 500,.b 0,.c 63],⟨94,[vP 1 0 2,vO 3 1 2 l1 Qaa.enc,(4,one (.mp 2)),vL 23 1 n.places e_str,vI 24 (lenI n.places),vI 25 v],[oX 2 25 (Qac.enc n),oS 2 31 l1 Qaa.enc,oM 47 l2 (mE kS Lf.bool)]⟩⟩
def QcJ (Γ:Gam) (rv:List Qaa) (n:Qac) (l:List Qaa) (l4:List Qaa):Prop:=Qbb Γ rv ⟨[.c 63],⟨94,[vP 1 0 2,vO 3 1 2 l4 Qaa.enc],[oX 2 25 (Qac.enc n),oS 2 31 l4 Qaa.enc]⟩⟩
def Qec (Γ:Gam) (rv:List Qaa) (n:Qac) (l:List Qaa) (l7:List (Qae×Bool)) (v1:Int) (x1:Qad) (r2:List Int) (l8:List Qaa) (v2:Int):Prop:=Qbb Γ rv ⟨[.c 2091412,.l 2091412,.b 5,.c 261427,.b 4,.c 32679,.l 4084,.b 3,.c 511],⟨94,[vP 1 0 2,vO 3 1 2 l8 Qaa.enc,(8,one (.mp 2)),vI 9 v1,vP 10 3 6,vL 64 6 n.arcs Qad.enc,vI 65 (lenI n.arcs),vI 66 v1,vL 74 1 r2 e_i64,vI 75 (lenI r2),vI 76 v2],[oX 2 25 (Qac.enc n),oS 2 31 l8 Qaa.enc,oM 50 l7 (mE Qae.enc Lf.bool),oX 6 38 (Qad.enc x1)]⟩⟩
def QdV (Γ:Gam) (rv:List Qaa) (n:Qac) (l:List Qaa) (l7:List (Qae×Bool)) (v1:Int) (x1:Qad) (r2:List Int) (l9:List Qaa):Prop:=Qbb Γ rv ⟨[.c 261427,.b 4,.c 32679,.l 4084,.b 3,.c 511],⟨94,[vP 1 0 2,vO 3 1 2 l9 Qaa.enc,(8,one (.mp 2)),vP 10 3 6,vL 64 6 n.arcs Qad.enc,vI 65 (lenI n.arcs),vI 66 v1],[oX 2 25 (Qac.enc n),oS 2 31 l9 Qaa.enc,oM 50 l7 (mE Qae.enc Lf.bool),oX 6 38 (Qad.enc x1)]⟩⟩
def Qeb (Γ:Gam) (rv:List Qaa) (n:Qac) (l:List Qaa) (l6:List Qaa) (l7:List (Qae×Bool)) (v1:Int):Prop:=Qbb Γ rv ⟨[.c 4084,.l 4084,.b 3,.c 511],⟨94,[vP 1 0 2,vO 3 1 2 l6 Qaa.enc,(8,one (.mp 2)),vL 64 6 n.arcs Qad.enc,vI 65 (lenI n.arcs),vI 66 v1],[oX 2 25 (Qac.enc n),oS 2 31 l6 Qaa.enc,oM 50 l7 (mE Qae.enc Lf.bool)]⟩⟩
def QdU (Γ:Gam) (rv:List Qaa) (n:Qac) (l:List Qaa) (l10:List Qaa):Prop:=Qbb Γ rv ⟨[.c 511],⟨94,[vO 3 0 2 l10 Qaa.enc],[oS 2 31 l10 Qaa.enc]⟩⟩
theorem QcI (Γ:Gam) (rv:List Qaa) {n l l2 v x0 l3} {x:(List Qaa×List (ByteArray×Bool)×Int)⊕(List Qaa)} (h:QbH n l l2 v x0 l3=some x) (hI:∀ s:List Qaa×List (ByteArray×Bool)×Int,x=.inl s→QcX Γ rv n l s.1 s.2.1 s.2.2) (hE:∀ e:List Qaa,x=.inr e→QcJ Γ rv n l e):Qbb Γ rv ⟨[.b 2,.c 64103,.b 1,.c 4007,.l 500,.b 0,.c 63],⟨94,[vP 1 0 2,vO 3 1 2 l3 Qaa.enc,(4,one (.mp 2)),vS 6 x0,vL 23 1 n.places e_str,vI 24 (lenI n.places),vI 25 v],[oX 2 25 (Qac.enc n),oS 2 31 l3 Qaa.enc,oM 47 l2 (mE kS Lf.bool)]⟩⟩:=by
 unfold QbH at h
 exact gn 5 [1,3,4,23,24,25] [0,1,2] [mU kqS Lf.bool l2 x0 true] (hI _ (oJ h))
theorem Qfx (Γ:Gam) (rv:List Qaa) {n l} {s:List Qaa×List (ByteArray×Bool)×Int} {e:List Qaa} (h:loopF (fun s=>Qa3 n l s.1 s.2.1 s.2.2) s=some e) (hD:QcJ Γ rv n l e):QcX Γ rv n l s.1 s.2.1 s.2.2:=by
 refine Qa8 (C:=fun (s:List Qaa×List (ByteArray×Bool)×Int)=>QcX Γ rv n l s.1 s.2.1 s.2.2) (D:=fun (e:List Qaa)=>QcJ Γ rv n l e) ?_ h hD
 clear h hD s e
 rintro ⟨l1,l2,v⟩ z_ h hI hE
 replace h:Qa3 n l l1 l2 v=_:=h
 unfold Qa3 at h
 rcases Qaj h with ⟨h2,h⟩|⟨h2,h⟩
 ·obtain ⟨x0,h3,h⟩:=Qaf h
  obtain ⟨r,h4,h⟩:=Qaf h
  obtain ⟨h5,h⟩:=Qat h
  obtain ⟨r1,h6,h⟩:=Qaf h
  rcases Qaj h with ⟨h7,h⟩|⟨h7,h⟩
  ·rcases Qaj h with ⟨h8,h⟩|⟨h8,h⟩
   ·obtain ⟨h9,h⟩:=Qat h
    exact gn 20 [1,3,4,6,23,24,25] [0,4,2] [bT h2,cE e_str h3,cC (Qc1 h4),oO (h5),cC (Qfp h6),nF h7,mG kqS Lf.bool l2 x0 false,bT h8,oO (Eq.refl ([(Qaa.mk 6 (catS Qax r))].map Qaa.enc).length),aO Qaa.enc h9] (QcI Γ rv h hI hE)
   ·exact gn 20 [1,3,4,6,23,24,25] [0,1,2] [bT h2,cE e_str h3,cC (Qc1 h4),oO (h5),cC (Qfp h6),nF h7,mG kqS Lf.bool l2 x0 false,bF h8] (QcI Γ rv h hI hE)
  ·obtain ⟨h10,h⟩:=Qat h
   exact gn 17 [1,3,4,6,23,24,25] [0,4,2] [bT h2,cE e_str h3,cC (Qc1 h4),oO (h5),cC (Qfp h6),nT h7,oO (Eq.refl ([(Qaa.mk 5 (catS Qax r))].map Qaa.enc).length),aO Qaa.enc h10] (QcI Γ rv h hI hE)
 ·exact gn 5 [1,3] [0,1] [bF h2] (hE _ (oJ h))
theorem Qfz (Γ:Gam) (rv:List Qaa) {n l l7 v1 x1 r2} {s:List Qaa×Int} {e:List Qaa} (h:loopF (fun s=>Qcb n l l7 v1 x1 r2 s.1 s.2) s=some e) (hD:QdV Γ rv n l l7 v1 x1 r2 e):Qec Γ rv n l l7 v1 x1 r2 s.1 s.2:=by
 refine Qa8 (C:=fun (s:List Qaa×Int)=>Qec Γ rv n l l7 v1 x1 r2 s.1 s.2) (D:=fun (e:List Qaa)=>QdV Γ rv n l l7 v1 x1 r2 e) ?_ h hD
 clear h hD s e
 rintro ⟨l8,v2⟩ z_ h hI hE
 replace h:Qcb n l l7 v1 x1 r2 l8 v2=_:=h
 unfold Qcb at h
 rcases Qaj h with ⟨h17,h⟩|⟨h17,h⟩
 ·obtain ⟨x2,h18,h⟩:=Qaf h
  obtain ⟨r3,h19,h⟩:=Qaf h
  obtain ⟨h20,h⟩:=Qat h
  obtain ⟨h21,h⟩:=Qat h
  exact gn 13 [1,3,8,9,10,64,65,66,74,75,76] [0,5,2,3] [bT h17,cE e_i64 h18,cC (Qc1 h19),oO (h20),oO (Eq.refl ([(Qaa.mk x2 (catS Qal r3))].map Qaa.enc).length),aO Qaa.enc h21] (hI _ (oJ h))
 ·exact gn 5 [1,3,8,10,64,65,66] [0,1,2,3] [bF h17] (hE _ (oJ h))
theorem Qfy (Γ:Gam) (rv:List Qaa) {n l} {s:List Qaa×List (Qae×Bool)×Int} {e:List Qaa} (h:loopF (fun s=>Qa4 n l s.1 s.2.1 s.2.2) s=some e) (hD:QdU Γ rv n l e):Qeb Γ rv n l s.1 s.2.1 s.2.2:=by
 refine Qa8 (C:=fun (s:List Qaa×List (Qae×Bool)×Int)=>Qeb Γ rv n l s.1 s.2.1 s.2.2) (D:=fun (e:List Qaa)=>QdU Γ rv n l e) ?_ h hD
 clear h hD s e
 rintro ⟨l6,l7,v1⟩ z_ h hI hE
 replace h:Qa4 n l l6 l7 v1=_:=h
 unfold Qa4 at h
 rcases Qaj h with ⟨h14,h⟩|⟨h14,h⟩
 ·obtain ⟨x1,h15,h⟩:=Qaf h
  obtain ⟨r2,h16,h⟩:=Qaf h
  obtain ⟨e1,h22,h⟩:=Qaf h
  refine gn 14 [1,3,8,9,10,64,65,66,74,75,76] [0,1,2,3] [bT h14,cE Qad.enc h15,cI [2] (Qhe h16),nL e_i64 r2] (Qfz Γ rv h22 ?_)
  obtain ⟨l9,rfl⟩:∃ x,x=e1:=⟨_,rfl⟩
  replace h:(bnd (Qbl x1) fun r4=>some (.inl (l9,(mPut Qae.keq l7 r4 true),(addK .i64 v1 1))):Option ((List Qaa×List (Qae×Bool)×Int)⊕(List Qaa)))=some _:=h
  obtain ⟨r4,h23,h⟩:=Qaf h
  exact gn 4 [1,3,8,64,65,66] [0,1,2] [cC (Qbr h23),mU Qae.kq Lf.bool l7 r4 true] (hI _ (oJ h))
 ·exact gn 5 [3] [1] [bF h14] (hE _ (oJ h))
theorem QdT (Γ:Gam) (rv:List Qaa) {n l l5} (h:Qbq n l l5=some rv):Qbb Γ rv ⟨[.c 127],⟨94,[vP 1 0 2,vO 3 1 2 l5 Qaa.enc],[oX 2 25 (Qac.enc n),oS 2 31 l5 Qaa.enc]⟩⟩:=by
 unfold Qbq at h
 obtain ⟨e2,h24,h⟩:=Qaf h
 refine gn 7 [1,3,8,64,65,66] [0,1,2] [nL Qad.enc n.arcs] (Qfy Γ rv h24 ?_)
 obtain ⟨l10,rfl⟩:∃ x,x=e2:=⟨_,rfl⟩
 replace h:(some l10:Option (List Qaa))=some _:=h
 obtain rfl:=Option.some.inj h
 exact gr 2 [] [hW 4,hH (.frz 0),rp 3 (eL l10 Qaa.enc)]
theorem QdS (Γ:Gam) (rv:List Qaa) {n l} (h:Qca n l=some rv):Qbb Γ rv ⟨[.c 15],⟨94,[vP 1 0 2,vO 3 1 2 l Qaa.enc],[oX 2 25 (Qac.enc n),oS 2 31 l Qaa.enc]⟩⟩:=by
 unfold Qca at h
 obtain ⟨e0,h11,h⟩:=Qaf h
 refine gn 7 [1,3,4,23,24,25] [0,1,2] [nL e_str n.places] (Qfx Γ rv h11 ?_)
 obtain ⟨l4,rfl⟩:∃ x,x=e0:=⟨_,rfl⟩
 replace h:(br (gtI (lenI n.arcs) 1024) (chk (okN (l4++[(Qaa.mk 4 QbZ)]).length 24) (Qbq n l (l4++[(Qaa.mk 4 QbZ)]))) (Qbq n l l4):Option (List Qaa))=some _:=h
 rcases Qaj h with ⟨h12,h⟩|⟨h12,h⟩
 ·obtain ⟨h13,h⟩:=Qat h
  exact gn 5 [1,3] [0,3] [nL Qad.enc n.arcs,bT h12,oO (Eq.refl ([(Qaa.mk 4 QbZ)].map Qaa.enc).length),aO Qaa.enc h13] (QdT Γ rv h)
 ·exact gn 5 [1,3] [0,1] [nL Qad.enc n.arcs,bF h12] (QdT Γ rv h)
theorem QeJ {n} {rv:List Qaa} (h:QcC n=some rv):AFn Tryd.prog 6 [.agg (Qac.enc n)] [] (one (lL 2 rv Qaa.enc)) []:=by
 refine Qbz Tryd.func6 (by kernel_rfl) (by kernel_rfl) (fun Γ=>?_)
 unfold QcC at h
 rcases Qaj h with ⟨h0,h⟩|⟨h0,h⟩
 ·obtain ⟨h1,h⟩:=Qat h
  exact gn 9 [1,3] [0,2] [nL e_str n.places,bT h0,oO (Eq.refl ([(Qaa.mk 4 Qbm)].map Qaa.enc).length),aN (l:=([(Qaa.mk 4 Qbm)]:List Qaa)) Qaa.enc h1] (QdS Γ rv h)
 ·exact gn 9 [1,3] [0,1] [nL e_str n.places,bF h0,hW 1,hH (.adopt 3 2 31)] (QdS Γ rv h)
def Qcr (Γ:Gam) (rv:ByteArray) (cf:Cf):Prop:=Go Tryd.prog Tryd.f32 [] Γ (one (.str rv)) [] cf
def Qb0 (Γ:Gam) (rv:ByteArray) (n:Int) (s0:ByteArray) (left:Int) (again:Bool):Prop:=Qcr Γ rv ⟨[.c 244,.l 244,.b 0,.c 31],⟨31,[vI 0 n,vS 3 s0,vI 4 left,vB 5 again],[]⟩⟩
def QbO (Γ:Gam) (rv:ByteArray) (n:Int) (s1:ByteArray):Prop:=Qcr Γ rv ⟨[.c 31],⟨31,[vI 0 n,vS 3 s1],[]⟩⟩
theorem QcD (Γ:Gam) (rv:ByteArray) {n s0 left d} {x:(ByteArray×Int×Bool)⊕(ByteArray)} (h:Qa6 n s0 left d=some x) (hI:∀ s:ByteArray×Int×Bool,x=.inl s→Qb0 Γ rv n s.1 s.2.1 s.2.2) (hE:∀ e:ByteArray,x=.inr e→QbO Γ rv n e):Qcr Γ rv ⟨[.c 7827,.b 1,.c 979,.l 244,.b 0,.c 31],⟨31,[vI 0 n,vS 3 s0,vI 4 left,vI 6 d],[]⟩⟩:=by
 unfold Qa6 at h
 obtain ⟨h2,h⟩:=Qat h
 exact gn 6 [0,3,4,5] [] [hH (.ints [(cvK .u8 (addK .i64 48 d))]),oO (Eq.refl ([(cvK .u8 (addK .i64 48 d))].map e_u8).length),oO (Eq.refl (([(cvK .u8 (addK .i64 48 d))].map e_u8):List (List Lf))),oO (h2),oO (oA (n:=10))] (hI _ (oJ h))
theorem Qen (Γ:Gam) (rv:ByteArray) {n} {s:ByteArray×Int×Bool} {e:ByteArray} (h:loopF (fun s=>QbC n s.1 s.2.1 s.2.2) s=some e) (hD:QbO Γ rv n e):Qb0 Γ rv n s.1 s.2.1 s.2.2:=by
 refine Qa8 (C:=fun (s:ByteArray×Int×Bool)=>Qb0 Γ rv n s.1 s.2.1 s.2.2) (D:=fun (e:ByteArray)=>QbO Γ rv n e) ?_ h hD
 clear h hD s e
 rintro ⟨s0,left,again⟩ z_ h hI hE
 replace h:QbC n s0 left again=_:=h
 unfold QbC at h
 rcases Qaj h with ⟨h0,h⟩|⟨h0,h⟩
 ·rcases Qaj h with ⟨h1,h⟩|⟨h1,h⟩
  ·exact gn 14 [0,3,4,6] [] [bT h0,oO (oA (n:=10)),bT h1] (QcD Γ rv h hI hE)
  ·exact gn 14 [0,3,4,6] [] [bT h0,oO (oA (n:=10)),bF h1] (QcD Γ rv h hI hE)
 ·exact gn 5 [0,3] [] [bF h0] (hE _ (oJ h))
theorem QaS {n} {rv:ByteArray} (h:QaW n=some rv):AFn Tryd.prog 32 [.one (lI n)] [] (one (.str rv)) []:=by
 refine Qbz Tryd.func32 (by kernel_rfl) (by kernel_rfl) (fun Γ=>?_)
 unfold QaW at h
 obtain ⟨e0,h3,h⟩:=Qaf h
 refine gn 11 [0,3,4,5] [] [] (Qen Γ rv h3 ?_)
 obtain ⟨s1,rfl⟩:∃ x,x=e0:=⟨_,rfl⟩
 replace h:(br (ltI n 0) (chk (Qhk.size+s1.size≤9223372036854775807) (some (catS Qhk s1))) (some s1):Option ByteArray)=some _:=h
 rcases Qaj h with ⟨h4,h⟩|⟨h4,h⟩
 ·obtain ⟨h5,h⟩:=Qat h
  obtain rfl:=Option.some.inj h
  exact gr 6 [] [bT h4,oO (h5)]
 ·obtain rfl:=Option.some.inj h
  exact gr 7 [] [bF h4]
theorem Qb1 {c} {rv:Bool} (h:QcE c=some rv):AFn Tryd.prog 39 [.one (.int .u8 c)] [] (one (.bool rv)) []:=by
 refine Qbz Tryd.func39 (by kernel_rfl) (by kernel_rfl) (fun Γ=>?_)
 unfold QcE at h
 obtain rfl:=Option.some.inj h
 exact gr 4 [] [hP,hP,hP,oI ((geI c 48)=true),oR True ((geI c 48)=true)]
theorem Qcs {c} {rv:Bool} (h:Qdg c=some rv):AFn Tryd.prog 40 [.one (.int .u8 c)] [] (one (.bool rv)) []:=by
 refine Qbz Tryd.func40 (by kernel_rfl) (by kernel_rfl) (fun Γ=>?_)
 unfold Qdg at h
 obtain rfl:=Option.some.inj h
 exact gr 4 [] [rp 14 hP,oI ((geI c 97)=true),oR True ((geI c 97)=true),rp 2 (oI (((geI c 97)&&(leI c 122))=false)),oI ((((geI c 97)&&(leI c 122))=false)∧(geI c 65)=true),oI (((geI c 97)&&(leI c 122))=false),oI ((((geI c 97)&&(leI c 122))=false)∧(geI c 65)=true),oR True (((geI c 97)&&(leI c 122))=false),oI ((((geI c 97)&&(leI c 122))||((geI c 65)&&(leI c 90)))=false),oR True ((((geI c 97)&&(leI c 122))||((geI c 65)&&(leI c 90)))=false)]
def Qet (Γ:Gam) (rv:Bool) (cf:Cf):Prop:=Go Tryd.prog Tryd.f33 [] Γ (one (.bool rv)) [] cf
def QdD (Γ:Gam) (rv:Bool) (s0:ByteArray) (b:UInt8) (i:Int):Prop:=Qet Γ rv ⟨[.c 116,.l 116,.b 0,.c 15],⟨35,[vS 0 s0,vI 3 i],[]⟩⟩
def Qdl (Γ:Gam) (rv:Bool) (s0:ByteArray) (b:UInt8):Prop:=Qet Γ rv ⟨[.c 15],⟨35,[],[]⟩⟩
theorem Qe7 (Γ:Gam) (rv:Bool) {s0 b} {s:Int} {e:(Unit)⊕(Bool)} (h:loopF (fun s=>Qbn s0 b s) s=some e) (hD:sel e (fun e=>Qdl Γ rv s0 b) (fun e=>e=rv)):QdD Γ rv s0 b s:=by
 refine Qa8 (C:=fun (s:Int)=>QdD Γ rv s0 b s) (D:=fun (e:(Unit)⊕(Bool))=>sel e (fun e=>Qdl Γ rv s0 b) (fun e=>e=rv)) ?_ h hD
 clear h hD s e
 intro i z_ h hI hE
 replace h:Qbn s0 b i=_:=h
 unfold Qbn at h
 rcases Qaj h with ⟨h4,h⟩|⟨h4,h⟩
 ·obtain ⟨b1,h5,h⟩:=Qaf h
  obtain ⟨r1,h6,h⟩:=Qaf h
  rcases Qaj h with ⟨h7,h⟩|⟨h7,h⟩
  ·exact gn 14 [0,3] [] [bT h4,yE h5,cC (Qcs h6),rp 6 (nF h7),fF] (hI _ (oJ h))
  ·obtain ⟨r2,h8,h⟩:=Qaf h
   rcases Qaj h with ⟨h9,h⟩|⟨h9,h⟩
   ·exact gn 14 [0,3] [] [bT h4,yE h5,cC (Qcs h6),rp 3 (nT h7),yE h5,nT h7,cC (Qb1 h8),nT h7,nT h7,nF h9] (hI _ (oJ h))
   ·obtain rfl:=(hE _ (oJ h):_=rv)
    exact gr 12 [] [bT h4,yE h5,cC (Qcs h6),rp 3 (nT h7),yE h5,nT h7,cC (Qb1 h8),nT h7,nT h7,nT h9]
 ·exact gn 5 [] [] [bF h4] (hE _ (oJ h))
theorem Qd7 {s0} {rv:Bool} (h:Qba s0=some rv):AFn Tryd.prog 33 [.one (.str s0)] [] (one (.bool rv)) []:=by
 refine Qbz Tryd.func33 (by kernel_rfl) (by kernel_rfl) (fun Γ=>?_)
 unfold Qba at h
 rcases Qaj h with ⟨h0,h⟩|⟨h0,h⟩
 ·obtain rfl:=Option.some.inj h
  exact gr 8 [] [rp 4 hP,rp 2 (oI ((ltI (sizeS s0) 1)=false)),oR True ((ltI (sizeS s0) 1)=false),rp 4 (bT h0),tT]
 ·obtain ⟨b,h1,h⟩:=Qaf h
  obtain ⟨r,h2,h⟩:=Qaf h
  rcases Qaj h with ⟨h3,h⟩|⟨h3,h⟩
  ·obtain rfl:=Option.some.inj h
   exact gr 8 [] [rp 4 hP,rp 2 (oI ((ltI (sizeS s0) 1)=false)),oR True ((ltI (sizeS s0) 1)=false),bF h0,bF h0,yE h1,bF h0,cC (Qb1 h2),bF h0,bT h3]
  ·obtain ⟨e0,h10,h⟩:=Qaf h
   refine gn 12 [0,3] [] [rp 4 hP,rp 2 (oI ((ltI (sizeS s0) 1)=false)),oR True ((ltI (sizeS s0) 1)=false),bF h0,bF h0,yE h1,bF h0,cC (Qb1 h2),bF h0,bF h3] (Qe7 Γ rv h10 ?_)
   rcases e0 with e0|e0
   ·replace h:(some true:Option Bool)=some _:=h
    obtain rfl:=Option.some.inj h
    exact gr 2 [] []
   ·obtain ⟨r3,rfl⟩:∃ x,x=e0:=⟨_,rfl⟩
    replace h:(some r3:Option Bool)=some _:=h
    exact Option.some.inj h
def Qcg (Γ:Gam) (rv:List Qaa) (cf:Cf):Prop:=Go Tryd.prog Tryd.f34 [] Γ (one (lL 2 rv Qaa.enc)) [] cf
def Qcl (Γ:Gam) (rv:List Qaa) (l:List Qab) (l2:List Qaa) (i:Int):Prop:=Qcg Γ rv ⟨[.c 244,.l 244,.b 0,.c 31],⟨88,[vL 0 2 l Qab.enc,vO 3 0 2 l2 Qaa.enc,vI 4 i],[oS 2 31 l2 Qaa.enc]⟩⟩
def Qb9 (Γ:Gam) (rv:List Qaa) (l:List Qab) (l4:List Qaa):Prop:=Qcg Γ rv ⟨[.c 31],⟨88,[vO 3 0 2 l4 Qaa.enc],[oS 2 31 l4 Qaa.enc]⟩⟩
theorem Qc4 (Γ:Gam) (rv:List Qaa) {l i x0 l3} {x:(List Qaa×Int)⊕(List Qaa)} (h:Qbf l i x0 l3=some x) (hI:∀ s:List Qaa×Int,x=.inl s→Qcl Γ rv l s.1 s.2) (hE:∀ e:List Qaa,x=.inr e→Qb9 Γ rv l e):Qcg Γ rv ⟨[.c 7827,.b 1,.c 979,.l 244,.b 0,.c 31],⟨88,[vL 0 2 l Qab.enc,vO 3 0 2 l3 Qaa.enc,vI 4 i,vP 5 1 2],[oS 2 31 l3 Qaa.enc,oX 2 66 (Qab.enc x0)]⟩⟩:=by
 unfold Qbf at h
 rcases Qaj h with ⟨h7,h⟩|⟨h7,h⟩
 ·obtain ⟨x1,h8,h⟩:=Qaf h
  rcases Qaj h with ⟨h9,h⟩|⟨h9,h⟩
  ·obtain ⟨r1,h10,h⟩:=Qaf h
   obtain ⟨h11,h⟩:=Qat h
   exact gn 7 [0,3,4] [3] [hH (.draw 24 []),rp 6 (bT h7),cE Qab.enc h8,rp 4 (bT h7),rp 9 (bT h9),bT h7,bT h9,bT h7,tT,cC (QaS h10),oO (Eq.refl ([(Qaa.mk 13 r1)].map Qaa.enc).length),aO Qaa.enc h11] (hI _ (oJ h))
  ·rcases Qaj h with ⟨h12,h⟩|⟨h12,h⟩
   ·obtain ⟨r2,h13,h⟩:=Qaf h
    obtain ⟨h14,h⟩:=Qat h
    exact gn 7 [0,3,4] [3] [hH (.draw 24 []),rp 6 (bT h7),cE Qab.enc h8,rp 4 (bT h7),rp 6 (bF h9),cE Qab.enc h8,rp 3 (bF h9),bT h7,bF h9,bT h7,bT h12,cC (QaS h13),oO (Eq.refl ([(Qaa.mk 13 r2)].map Qaa.enc).length),aO Qaa.enc h14] (hI _ (oJ h))
   ·exact gn 7 [0,3,4] [0] [hH (.draw 24 []),rp 6 (bT h7),cE Qab.enc h8,rp 4 (bT h7),rp 6 (bF h9),cE Qab.enc h8,rp 3 (bF h9),bT h7,bF h9,bT h7,bF h12] (hI _ (oJ h))
 ·exact gn 7 [0,3,4] [0] [hH (.draw 24 []),rp 10 (bF h7),rp 9 kF,bF h7,bF h7,fF] (hI _ (oJ h))
theorem QeG (Γ:Gam) (rv:List Qaa) {l} {s:List Qaa×Int} {e:List Qaa} (h:loopF (fun s=>Qa2 l s.1 s.2) s=some e) (hD:Qb9 Γ rv l e):Qcl Γ rv l s.1 s.2:=by
 refine Qa8 (C:=fun (s:List Qaa×Int)=>Qcl Γ rv l s.1 s.2) (D:=fun (e:List Qaa)=>Qb9 Γ rv l e) ?_ h hD
 clear h hD s e
 rintro ⟨l2,i⟩ z_ h hI hE
 replace h:Qa2 l l2 i=_:=h
 unfold Qa2 at h
 rcases Qaj h with ⟨h2,h⟩|⟨h2,h⟩
 ·obtain ⟨x0,h3,h⟩:=Qaf h
  rcases Qaj h with ⟨h4,h⟩|⟨h4,h⟩
  ·obtain ⟨r,h5,h⟩:=Qaf h
   obtain ⟨h6,h⟩:=Qat h
   exact gn 14 [0,3,4,5] [3,1] [nL Qab.enc l,bT h2,cE Qab.enc h3,rp 17 hP,rp 2 (oI ((ltI x0.t 0)=false)),oR True ((ltI x0.t 0)=false),rp 4 (oI (((ltI x0.t 0)||(gtI x0.t 4096))=false)),oR True (((ltI x0.t 0)||(gtI x0.t 4096))=false),rp 5 (oI ((((ltI x0.t 0)||(gtI x0.t 4096))||(ltI x0.a x0.t))=false)),oR True ((((ltI x0.t 0)||(gtI x0.t 4096))||(ltI x0.a x0.t))=false),bT h4,cC (QaS h5),oO (Eq.refl ([(Qaa.mk 2 r)].map Qaa.enc).length),aO Qaa.enc h6] (Qc4 Γ rv h hI hE)
  ·exact gn 14 [0,3,4,5] [0,1] [nL Qab.enc l,bT h2,cE Qab.enc h3,rp 17 hP,rp 2 (oI ((ltI x0.t 0)=false)),oR True ((ltI x0.t 0)=false),rp 4 (oI (((ltI x0.t 0)||(gtI x0.t 4096))=false)),oR True (((ltI x0.t 0)||(gtI x0.t 4096))=false),rp 5 (oI ((((ltI x0.t 0)||(gtI x0.t 4096))||(ltI x0.a x0.t))=false)),oR True ((((ltI x0.t 0)||(gtI x0.t 4096))||(ltI x0.a x0.t))=false),bF h4] (Qc4 Γ rv h hI hE)
 ·exact gn 5 [3] [0] [nL Qab.enc l,bF h2] (hE _ (oJ h))
theorem Qc3 (Γ:Gam) (rv:List Qaa) {l l1} (h:Qbv l l1=some rv):Qcg Γ rv ⟨[.c 15],⟨88,[vL 0 2 l Qab.enc,vO 3 0 2 l1 Qaa.enc],[oS 2 31 l1 Qaa.enc]⟩⟩:=by
 unfold Qbv at h
 obtain ⟨e0,h15,h⟩:=Qaf h
 refine gn 5 [0,3,4] [0] [] (QeG Γ rv h15 ?_)
 obtain ⟨l4,rfl⟩:∃ x,x=e0:=⟨_,rfl⟩
 replace h:(some l4:Option (List Qaa))=some _:=h
 obtain rfl:=Option.some.inj h
 exact gr 2 [] [hW 4,hH (.frz 0),rp 3 (eL l4 Qaa.enc)]
theorem Qfv {l} {rv:List Qaa} (h:Qb8 l=some rv):AFn Tryd.prog 34 [.one (lL 2 l Qab.enc)] [] (one (lL 2 rv Qaa.enc)) []:=by
 refine Qbz Tryd.func34 (by kernel_rfl) (by kernel_rfl) (fun Γ=>?_)
 unfold Qb8 at h
 rcases Qaj h with ⟨h0,h⟩|⟨h0,h⟩
 ·obtain ⟨h1,h⟩:=Qat h
  exact gn 9 [0,3] [1] [nL Qab.enc l,hP,hP,oI ((ltI (lenI l) 1)=false),nL Qab.enc l,hP,hP,oI ((ltI (lenI l) 1)=false),oR True ((ltI (lenI l) 1)=false),bT h0,oO (Eq.refl ([(Qaa.mk 4 ByteArray.empty)].map Qaa.enc).length),aN (l:=([(Qaa.mk 4 ByteArray.empty)]:List Qaa)) Qaa.enc h1] (Qc3 Γ rv h)
 ·exact gn 9 [0,3] [0] [nL Qab.enc l,hP,hP,oI ((ltI (lenI l) 1)=false),nL Qab.enc l,hP,hP,oI ((ltI (lenI l) 1)=false),oR True ((ltI (lenI l) 1)=false),bF h0,hW 1,hH (.adopt 3 2 31)] (Qc3 Γ rv h)
theorem QaP {t} {rv:Bool} (h:QbW t=some rv):AFn Tryd.prog 35 [.one (lI t)] [] (one (.bool rv)) []:=by
 refine Qbz Tryd.func35 (by kernel_rfl) (by kernel_rfl) (fun Γ=>?_)
 unfold QbW at h
 obtain rfl:=Option.some.inj h
 exact gr 4 [] [hP,hP,hP,oI ((geI t 0)=true),oR True ((geI t 0)=true)]
def Qay (Γ:Gam) (rv:List Qaa) (cf:Cf):Prop:=Go Tryd.prog Tryd.f20 [] Γ (one (lL 2 rv Qaa.enc)) [] cf
def QcF (Γ:Gam) (rv:List Qaa) (n:Qac) (i:Int) (r:ByteArray) (x0:Qad) (l:List Qaa) (l1:List Qaa) (twice:Bool) (k:Int):Prop:=Qay Γ rv ⟨[.c 4084,.l 4084,.b 0,.c 511],⟨192,[vI 1 i,vP 2 0 2,vO 5 1 2 l1 Qaa.enc,vS 6 (catS Qal r),vP 7 2 6,vB 8 twice,vI 9 k],[oX 2 25 (Qac.enc n),oS 2 31 l1 Qaa.enc,oX 6 38 (Qad.enc x0)]⟩⟩
def Qcz (Γ:Gam) (rv:List Qaa) (n:Qac) (i:Int) (r:ByteArray) (x0:Qad) (l:List Qaa) (l1:List Qaa) (twice1:Bool):Prop:=Qay Γ rv ⟨[.c 511],⟨192,[vO 5 0 2 l1 Qaa.enc,vS 6 (catS Qal r),vP 7 1 6,vB 8 twice1],[oS 2 31 l1 Qaa.enc,oX 6 38 (Qad.enc x0)]⟩⟩
def QcG (Γ:Gam) (rv:List Qaa) (r:ByteArray) (x0:Qad) (l:List Qaa) (r1:List Qaa) (l3:List Qaa) (k1:Int):Prop:=Qay Γ rv ⟨[.c 32756,.l 32756,.b 2,.c 4095],⟨192,[vO 5 0 2 l3 Qaa.enc,vS 6 (catS Qal r),vP 7 1 6,vL 11 2 r1 Qaa.enc,vI 12 k1],[oS 2 31 l3 Qaa.enc,oX 6 38 (Qad.enc x0)]⟩⟩
def QcA (Γ:Gam) (rv:List Qaa) (r:ByteArray) (x0:Qad) (l:List Qaa) (r1:List Qaa) (l4:List Qaa):Prop:=Qay Γ rv ⟨[.c 4095],⟨192,[vO 5 0 2 l4 Qaa.enc,vS 6 (catS Qal r),vP 7 1 6],[oS 2 31 l4 Qaa.enc,oX 6 38 (Qad.enc x0)]⟩⟩
def QcH (Γ:Gam) (rv:List Qaa) (r:ByteArray) (x0:Qad) (l:List Qaa) (l6:List Qaa) (k2:Int):Prop:=Qay Γ rv ⟨[.c 131060,.l 131060,.b 4,.c 16383],⟨192,[vO 5 0 2 l6 Qaa.enc,vS 6 (catS Qal r),vP 7 1 6,vI 13 k2],[oS 2 31 l6 Qaa.enc,oX 6 38 (Qad.enc x0)]⟩⟩
def QcB (Γ:Gam) (rv:List Qaa) (r:ByteArray) (x0:Qad) (l:List Qaa) (l7:List Qaa):Prop:=Qay Γ rv ⟨[.c 16383],⟨192,[vO 5 0 2 l7 Qaa.enc],[oS 2 31 l7 Qaa.enc]⟩⟩
theorem Qd8 (Γ:Gam) (rv:List Qaa) {n i r x0 l l1} {s:Bool×Int} {e:Bool} (h:loopF (fun s=>QaI n i r x0 l l1 s.1 s.2) s=some e) (hD:Qcz Γ rv n i r x0 l l1 e):QcF Γ rv n i r x0 l l1 s.1 s.2:=by
 refine Qa8 (C:=fun (s:Bool×Int)=>QcF Γ rv n i r x0 l l1 s.1 s.2) (D:=fun (e:Bool)=>Qcz Γ rv n i r x0 l l1 e) ?_ h hD
 clear h hD s e
 rintro ⟨twice,k⟩ z_ h hI hE
 replace h:QaI n i r x0 l l1 twice k=_:=h
 unfold QaI at h
 rcases Qaj h with ⟨h7,h⟩|⟨h7,h⟩
 ·obtain ⟨x1,h8,h⟩:=Qaf h
  exact gn 13 [1,2,5,6,7,8,9] [0,1,2] [bT h7,cE Qad.enc h8,rp 22 hP,rp 5 (oI (twice=false)),rp 4 (oI ((twice=false)∧(eqI x0.from_ x1.from_)=true)),oI (twice=false),oI ((twice=false)∧(eqI x0.from_ x1.from_)=true),oI (twice=false),rp 4 (oI ((twice=false)∧((eqI x0.from_ x1.from_)&&(eqI x0.to_ x1.to_))=true)),oI (twice=false),oI ((twice=false)∧((eqI x0.from_ x1.from_)&&(eqI x0.to_ x1.to_))=true),oR True (twice=false)] (hI _ (oJ h))
 ·exact gn 5 [5,6,7,8] [1,2] [bF h7] (hE _ (oJ h))
theorem Qd9 (Γ:Gam) (rv:List Qaa) {r x0 l r1} {s:List Qaa×Int} {e:List Qaa} (h:loopF (fun s=>QaJ r x0 l r1 s.1 s.2) s=some e) (hD:QcA Γ rv r x0 l r1 e):QcG Γ rv r x0 l r1 s.1 s.2:=by
 refine Qa8 (C:=fun (s:List Qaa×Int)=>QcG Γ rv r x0 l r1 s.1 s.2) (D:=fun (e:List Qaa)=>QcA Γ rv r x0 l r1 e) ?_ h hD
 clear h hD s e
 rintro ⟨l3,k1⟩ z_ h hI hE
 replace h:QaJ r x0 l r1 l3 k1=_:=h
 unfold QaJ at h
 rcases Qaj h with ⟨h13,h⟩|⟨h13,h⟩
 ·obtain ⟨x2,h14,h⟩:=Qaf h
  obtain ⟨h15,h⟩:=Qat h
  exact gn 11 [5,6,7,11,12] [3,1] [nL Qaa.enc r1,bT h13,cE Qaa.enc h14,oO (Eq.refl ([(Qaa.mk x2.err (catS Qal r))].map Qaa.enc).length),aO Qaa.enc h15] (hI _ (oJ h))
 ·exact gn 5 [5,6,7] [0,1] [nL Qaa.enc r1,bF h13] (hE _ (oJ h))
theorem Qea (Γ:Gam) (rv:List Qaa) {r x0 l} {s:List Qaa×Int} {e:List Qaa} (h:loopF (fun s=>QaK r x0 l s.1 s.2) s=some e) (hD:QcB Γ rv r x0 l e):QcH Γ rv r x0 l s.1 s.2:=by
 refine Qa8 (C:=fun (s:List Qaa×Int)=>QcH Γ rv r x0 l s.1 s.2) (D:=fun (e:List Qaa)=>QcB Γ rv r x0 l e) ?_ h hD
 clear h hD s e
 rintro ⟨l6,k2⟩ z_ h hI hE
 replace h:QaK r x0 l l6 k2=_:=h
 unfold QaK at h
 rcases Qaj h with ⟨h19,h⟩|⟨h19,h⟩
 ·obtain ⟨x3,h20,h⟩:=Qaf h
  obtain ⟨r2,h21,h⟩:=Qaf h
  rcases Qaj h with ⟨h22,h⟩|⟨h22,h⟩
  ·obtain ⟨r3,h23,h⟩:=Qaf h
   rcases Qaj h with ⟨h24,h⟩|⟨h24,h⟩
   ·rcases Qaj h with ⟨h25,h⟩|⟨h25,h⟩
    ·obtain ⟨x4,h26,h⟩:=Qaf h
     rcases Qaj h with ⟨h27,h⟩|⟨h27,h⟩
     ·obtain ⟨h28,h⟩:=Qat h
      exact gn 16 [5,6,7,13] [4,1] [nL Qab.enc x0.slow,bT h19,cE Qab.enc h20,hH (.draw 26 []),cC (QaP h21),rp 3 (nF h22),cC (QaP h23),rp 2 (nF h22),rp 3 (nF h24),rp 7 (bT h25),cE Qab.enc h26,rp 3 (bT h25),nF h24,bT h25,nF h24,bT h27,oO (Eq.refl ([(Qaa.mk 2 (catS Qal r))].map Qaa.enc).length),aO Qaa.enc h28] (hI _ (oJ h))
     ·exact gn 16 [5,6,7,13] [0,1] [nL Qab.enc x0.slow,bT h19,cE Qab.enc h20,hH (.draw 26 []),cC (QaP h21),rp 3 (nF h22),cC (QaP h23),rp 2 (nF h22),rp 3 (nF h24),rp 7 (bT h25),cE Qab.enc h26,rp 3 (bT h25),nF h24,bT h25,nF h24,bF h27] (hI _ (oJ h))
    ·exact gn 16 [5,6,7,13] [0,1] [nL Qab.enc x0.slow,bT h19,cE Qab.enc h20,hH (.draw 26 []),cC (QaP h21),rp 3 (nF h22),cC (QaP h23),rp 2 (nF h22),rp 3 (nF h24),rp 10 (bF h25),nF h24,bF h25,nF h24,fF] (hI _ (oJ h))
   ·obtain ⟨h29,h⟩:=Qat h
    exact gn 16 [5,6,7,13] [4,1] [nL Qab.enc x0.slow,bT h19,cE Qab.enc h20,hH (.draw 26 []),cC (QaP h21),rp 3 (nF h22),cC (QaP h23),rp 2 (nF h22),rp 3 (nT h24),rp 10 kF,rp 2 (nT h24),tT,oO (Eq.refl ([(Qaa.mk 2 (catS Qal r))].map Qaa.enc).length),aO Qaa.enc h29] (hI _ (oJ h))
  ·obtain ⟨h30,h⟩:=Qat h
   exact gn 16 [5,6,7,13] [4,1] [nL Qab.enc x0.slow,bT h19,cE Qab.enc h20,hH (.draw 26 []),cC (QaP h21),rp 5 (nT h22),tT,tT,tT,rp 10 kF,tT,tT,tT,oO (Eq.refl ([(Qaa.mk 2 (catS Qal r))].map Qaa.enc).length),aO Qaa.enc h30] (hI _ (oJ h))
 ·exact gn 5 [5] [0] [nL Qab.enc x0.slow,bF h19] (hE _ (oJ h))
theorem Qcy (Γ:Gam) (rv:List Qaa) {r x0 l l5} (h:QaA r x0 l l5=some rv):Qay Γ rv ⟨[.c 8191],⟨192,[vO 5 0 2 l5 Qaa.enc,vS 6 (catS Qal r),vP 7 1 6],[oS 2 31 l5 Qaa.enc,oX 6 38 (Qad.enc x0)]⟩⟩:=by
 unfold QaA at h
 obtain ⟨e2,h31,h⟩:=Qaf h
 refine gn 5 [5,6,7,13] [0,1] [] (Qea Γ rv h31 ?_)
 obtain ⟨l7,rfl⟩:∃ x,x=e2:=⟨_,rfl⟩
 replace h:(some l7:Option (List Qaa))=some _:=h
 obtain rfl:=Option.some.inj h
 exact gr 2 [] [hW 4,hH (.frz 0),rp 3 (eL l7 Qaa.enc)]
theorem Qcx (Γ:Gam) (rv:List Qaa) {r x0 l l2} (h:QaH r x0 l l2=some rv):Qay Γ rv ⟨[.c 1023],⟨192,[vO 5 0 2 l2 Qaa.enc,vS 6 (catS Qal r),vP 7 1 6],[oS 2 31 l2 Qaa.enc,oX 6 38 (Qad.enc x0)]⟩⟩:=by
 unfold QaH at h
 obtain ⟨r1,h12,h⟩:=Qaf h
 obtain ⟨e1,h16,h⟩:=Qaf h
 refine gn 7 [5,6,7,11,12] [0,1] [cC (Qfv h12)] (Qd9 Γ rv h16 ?_)
 obtain ⟨l4,rfl⟩:∃ x,x=e1:=⟨_,rfl⟩
 replace h:(br (gtI (lenI x0.slow) 16) (chk (okN (l4++[(Qaa.mk 4 (catS Qal r))]).length 24) (QaA r x0 l (l4++[(Qaa.mk 4 (catS Qal r))]))) (QaA r x0 l l4):Option (List Qaa))=some _:=h
 rcases Qaj h with ⟨h17,h⟩|⟨h17,h⟩
 ·obtain ⟨h18,h⟩:=Qat h
  exact gn 5 [5,6,7] [3,1] [nL Qab.enc x0.slow,bT h17,oO (Eq.refl ([(Qaa.mk 4 (catS Qal r))].map Qaa.enc).length),aO Qaa.enc h18] (Qcy Γ rv h)
 ·exact gn 5 [5,6,7] [0,1] [nL Qab.enc x0.slow,bF h17] (Qcy Γ rv h)
theorem Qcw (Γ:Gam) (rv:List Qaa) {n i r x0 l l1} (h:QaY n i r x0 l l1=some rv):Qay Γ rv ⟨[.c 127],⟨192,[vI 1 i,vP 2 0 2,vO 5 1 2 l1 Qaa.enc,vS 6 (catS Qal r),vP 7 2 6],[oX 2 25 (Qac.enc n),oS 2 31 l1 Qaa.enc,oX 6 38 (Qad.enc x0)]⟩⟩:=by
 unfold QaY at h
 obtain ⟨e0,h9,h⟩:=Qaf h
 refine gn 7 [1,2,5,6,7,8,9] [0,1,2] [] (Qd8 Γ rv h9 ?_)
 obtain ⟨twice1,rfl⟩:∃ x,x=e0:=⟨_,rfl⟩
 replace h:(br twice1 (chk (okN (l1++[(Qaa.mk 6 (catS Qal r))]).length 24) (QaH r x0 l (l1++[(Qaa.mk 6 (catS Qal r))]))) (QaH r x0 l l1):Option (List Qaa))=some _:=h
 rcases Qaj h with ⟨h10,h⟩|⟨h10,h⟩
 ·obtain ⟨h11,h⟩:=Qat h
  exact gn 5 [5,6,7] [3,1] [bT h10,oO (Eq.refl ([(Qaa.mk 6 (catS Qal r))].map Qaa.enc).length),aO Qaa.enc h11] (Qcx Γ rv h)
 ·exact gn 5 [5,6,7] [0,1] [bF h10] (Qcx Γ rv h)
theorem Qcv (Γ:Gam) (rv:List Qaa) {n i r x0 l} (h:QaX n i r x0 l=some rv):Qay Γ rv ⟨[.c 63],⟨192,[vI 1 i,vP 2 0 2,vO 5 1 2 l Qaa.enc,vS 6 (catS Qal r),vP 7 2 6],[oX 2 25 (Qac.enc n),oS 2 31 l Qaa.enc,oX 6 38 (Qad.enc x0)]⟩⟩:=by
 unfold QaX at h
 rcases Qaj h with ⟨h5,h⟩|⟨h5,h⟩
 ·obtain ⟨h6,h⟩:=Qat h
  exact gn 5 [1,2,5,6,7] [0,4,2] [rp 18 hP,rp 2 (oI ((ltI x0.profile 0)=false)),oR True ((ltI x0.profile 0)=false),rp 2 (oI (((ltI x0.profile 0)||(gtI x0.profile 7))=false)),oR True (((ltI x0.profile 0)||(gtI x0.profile 7))=false),rp 2 (oI ((((ltI x0.profile 0)||(gtI x0.profile 7))||(ltI x0.miles 0))=false)),oR True ((((ltI x0.profile 0)||(gtI x0.profile 7))||(ltI x0.miles 0))=false),rp 4 (oI (((((ltI x0.profile 0)||(gtI x0.profile 7))||(ltI x0.miles 0))||(gtI x0.miles 10000))=false)),oR True (((((ltI x0.profile 0)||(gtI x0.profile 7))||(ltI x0.miles 0))||(gtI x0.miles 10000))=false),bT h5,oO (Eq.refl ([(Qaa.mk 2 (catS Qal r))].map Qaa.enc).length),aO Qaa.enc h6] (Qcw Γ rv h)
 ·exact gn 5 [1,2,5,6,7] [0,1,2] [rp 18 hP,rp 2 (oI ((ltI x0.profile 0)=false)),oR True ((ltI x0.profile 0)=false),rp 2 (oI (((ltI x0.profile 0)||(gtI x0.profile 7))=false)),oR True (((ltI x0.profile 0)||(gtI x0.profile 7))=false),rp 2 (oI ((((ltI x0.profile 0)||(gtI x0.profile 7))||(ltI x0.miles 0))=false)),oR True ((((ltI x0.profile 0)||(gtI x0.profile 7))||(ltI x0.miles 0))=false),rp 4 (oI (((((ltI x0.profile 0)||(gtI x0.profile 7))||(ltI x0.miles 0))||(gtI x0.miles 10000))=false)),oR True (((((ltI x0.profile 0)||(gtI x0.profile 7))||(ltI x0.miles 0))||(gtI x0.miles 10000))=false),bF h5] (Qcw Γ rv h)
theorem QeI {n i} {rv:List Qaa} (h:Qbw n i=some rv):AFn Tryd.prog 20 [.agg (Qac.enc n),.one (lI i)] [] (one (lL 2 rv Qaa.enc)) []:=by
 refine Qbz Tryd.func20 (by kernel_rfl) (by kernel_rfl) (fun Γ=>?_)
 unfold Qbw at h
 obtain ⟨r,h0,h⟩:=Qaf h
 obtain ⟨h1,h⟩:=Qat h
 obtain ⟨x0,h2,h⟩:=Qaf h
 rcases Qaj h with ⟨h3,h⟩|⟨h3,h⟩
 ·obtain ⟨h4,h⟩:=Qat h
  exact gn 13 [1,2,5,6,7] [0,3,1] [cC (QaS h0),oO (h1),cE Qad.enc h2,rp 5 hP,rp 3 (oI ((ltI x0.from_ 0)=false)),nL e_str n.places,rp 11 hP,rp 2 (oI ((ltI x0.from_ 0)=false)),oR True ((ltI x0.from_ 0)=false),rp 2 (oI (((ltI x0.from_ 0)||(geI x0.from_ (lenI n.places)))=false)),oR True (((ltI x0.from_ 0)||(geI x0.from_ (lenI n.places)))=false),rp 3 (oI ((((ltI x0.from_ 0)||(geI x0.from_ (lenI n.places)))||(ltI x0.to_ 0))=false)),nL e_str n.places,hP,hP,rp 2 (oI ((((ltI x0.from_ 0)||(geI x0.from_ (lenI n.places)))||(ltI x0.to_ 0))=false)),oR True ((((ltI x0.from_ 0)||(geI x0.from_ (lenI n.places)))||(ltI x0.to_ 0))=false),bT h3,oO (Eq.refl ([(Qaa.mk 11 (catS Qal r))].map Qaa.enc).length),aN (l:=([(Qaa.mk 11 (catS Qal r))]:List Qaa)) Qaa.enc h4] (Qcv Γ rv h)
 ·exact gn 13 [1,2,5,6,7] [0,2,1] [cC (QaS h0),oO (h1),cE Qad.enc h2,rp 5 hP,rp 3 (oI ((ltI x0.from_ 0)=false)),nL e_str n.places,rp 11 hP,rp 2 (oI ((ltI x0.from_ 0)=false)),oR True ((ltI x0.from_ 0)=false),rp 2 (oI (((ltI x0.from_ 0)||(geI x0.from_ (lenI n.places)))=false)),oR True (((ltI x0.from_ 0)||(geI x0.from_ (lenI n.places)))=false),rp 3 (oI ((((ltI x0.from_ 0)||(geI x0.from_ (lenI n.places)))||(ltI x0.to_ 0))=false)),nL e_str n.places,hP,hP,rp 2 (oI ((((ltI x0.from_ 0)||(geI x0.from_ (lenI n.places)))||(ltI x0.to_ 0))=false)),oR True ((((ltI x0.from_ 0)||(geI x0.from_ (lenI n.places)))||(ltI x0.to_ 0))=false),bF h3,hW 1,hH (.adopt 5 2 31)] (Qcv Γ rv h)
def QaO (Γ:Gam) (rv:List Qaa) (cf:Cf):Prop:=Go Tryd.prog Tryd.f19 [] Γ (one (lO 0 2 rv Qaa.enc)) [oS 2 31 rv Qaa.enc] cf
def QbM (Γ:Gam) (rv:List Qaa) (n:Qac) (l:List Qaa) (l1:List Qaa) (i:Int) (r:ByteArray) (twice:Bool) (k:Int):Prop:=QaO Γ rv ⟨[.c 250484,.l 250484,.b 2,.c 31311,.b 1,.c 979,.l 244,.b 0,.c 31],⟨64,[vP 1 0 2,vO 3 1 2 l1 Qaa.enc,vI 4 i,vS 5 (catS Qax r),vB 6 twice,vI 7 k],[oX 2 25 (Qac.enc n),oS 2 31 l1 Qaa.enc]⟩⟩
def QbG (Γ:Gam) (rv:List Qaa) (n:Qac) (l:List Qaa) (l1:List Qaa) (i:Int) (r:ByteArray) (twice1:Bool):Prop:=QaO Γ rv ⟨[.c 31311,.b 1,.c 979,.l 244,.b 0,.c 31],⟨64,[vP 1 0 2,vO 3 1 2 l1 Qaa.enc,vI 4 i,vS 5 (catS Qax r),vB 6 twice1],[oX 2 25 (Qac.enc n),oS 2 31 l1 Qaa.enc]⟩⟩
def QbL (Γ:Gam) (rv:List Qaa) (n:Qac) (l:List Qaa) (l1:List Qaa) (i:Int):Prop:=QaO Γ rv ⟨[.c 244,.l 244,.b 0,.c 31],⟨64,[vP 1 0 2,vO 3 1 2 l1 Qaa.enc,vI 4 i],[oX 2 25 (Qac.enc n),oS 2 31 l1 Qaa.enc]⟩⟩
def QbF (Γ:Gam) (rv:List Qaa) (n:Qac) (l:List Qaa) (l2:List Qaa):Prop:=QaO Γ rv ⟨[.c 31],⟨64,[vO 3 0 2 l2 Qaa.enc],[oS 2 31 l2 Qaa.enc]⟩⟩
theorem QcW (Γ:Gam) (rv:List Qaa) {n l l1 i r} {s:Bool×Int} {e:Bool} (h:loopF (fun s=>Qan n l l1 i r s.1 s.2) s=some e) (hD:QbG Γ rv n l l1 i r e):QbM Γ rv n l l1 i r s.1 s.2:=by
 refine Qa8 (C:=fun (s:Bool×Int)=>QbM Γ rv n l l1 i r s.1 s.2) (D:=fun (e:Bool)=>QbG Γ rv n l l1 i r e) ?_ h hD
 clear h hD s e
 rintro ⟨twice,k⟩ z_ h hI hE
 replace h:Qan n l l1 i r twice k=_:=h
 unfold Qan at h
 rcases Qaj h with ⟨h8,h⟩|⟨h8,h⟩
 ·rcases Qaj h with ⟨h9,h⟩|⟨h9,h⟩
  ·exact gn 11 [1,3,4,5,6,7] [0,1] [bT h8,hH (.draw 14 []),rp 12 (bT h9)] (hI _ (oJ h))
  ·obtain ⟨x1,h10,h⟩:=Qaf h
   obtain ⟨x2,h11,h⟩:=Qaf h
   exact gn 11 [1,3,4,5,6,7] [0,1] [bT h8,hH (.draw 14 []),rp 4 (bF h9),cE e_str h10,rp 5 (bF h9),cE e_str h11,rp 3 (bF h9)] (hI _ (oJ h))
 ·exact gn 5 [1,3,4,5,6] [0,1] [bF h8] (hE _ (oJ h))
theorem QcV (Γ:Gam) (rv:List Qaa) {n l} {s:List Qaa×Int} {e:List Qaa} (h:loopF (fun s=>Qam n l s.1 s.2) s=some e) (hD:QbF Γ rv n l e):QbL Γ rv n l s.1 s.2:=by
 refine Qa8 (C:=fun (s:List Qaa×Int)=>QbL Γ rv n l s.1 s.2) (D:=fun (e:List Qaa)=>QbF Γ rv n l e) ?_ h hD
 clear h hD s e
 rintro ⟨l1,i⟩ z_ h hI hE
 replace h:Qam n l l1 i=_:=h
 unfold Qam at h
 rcases Qaj h with ⟨h2,h⟩|⟨h2,h⟩
 ·obtain ⟨r,h3,h⟩:=Qaf h
  obtain ⟨h4,h⟩:=Qat h
  obtain ⟨x0,h5,h⟩:=Qaf h
  obtain ⟨r1,h6,h⟩:=Qaf h
  rcases Qaj h with ⟨h7,h⟩|⟨h7,h⟩
  ·obtain ⟨e0,h12,h⟩:=Qaf h
   refine gn 21 [1,3,4,5,6,7] [0,1] [nL e_str n.places,bT h2,cC (QaS h3),oO (h4),cE e_str h5,cC (Qd7 h6),nF h7] (QcW Γ rv h12 ?_)
   obtain ⟨twice1,rfl⟩:∃ x,x=e0:=⟨_,rfl⟩
   replace h:(br twice1 (chk (okN (l1++[(Qaa.mk 6 (catS Qax r))]).length 24) (some (.inl ((l1++[(Qaa.mk 6 (catS Qax r))]),(addK .i64 i 1))))) (some (.inl (l1,(addK .i64 i 1)))):Option ((List Qaa×Int)⊕(List Qaa)))=some _:=h
   rcases Qaj h with ⟨h13,h⟩|⟨h13,h⟩
   ·obtain ⟨h14,h⟩:=Qat h
    exact gn 7 [1,3,4] [0,3] [bT h13,oO (Eq.refl ([(Qaa.mk 6 (catS Qax r))].map Qaa.enc).length),aO Qaa.enc h14] (hI _ (oJ h))
   ·exact gn 7 [1,3,4] [0,1] [bF h13] (hI _ (oJ h))
  ·obtain ⟨h15,h⟩:=Qat h
   exact gn 18 [1,3,4] [0,3] [nL e_str n.places,bT h2,cC (QaS h3),oO (h4),cE e_str h5,cC (Qd7 h6),nT h7,oO (Eq.refl ([(Qaa.mk 5 (catS Qax r))].map Qaa.enc).length),aO Qaa.enc h15] (hI _ (oJ h))
 ·exact gn 5 [3] [1] [nL e_str n.places,bF h2] (hE _ (oJ h))
theorem QbE (Γ:Gam) (rv:List Qaa) {n l} (h:QaE n l=some rv):QaO Γ rv ⟨[.c 15],⟨64,[vP 1 0 2,vO 3 1 2 l Qaa.enc],[oX 2 25 (Qac.enc n),oS 2 31 l Qaa.enc]⟩⟩:=by
 unfold QaE at h
 obtain ⟨e1,h16,h⟩:=Qaf h
 refine gn 5 [1,3,4] [0,1] [] (QcV Γ rv h16 ?_)
 obtain ⟨l2,rfl⟩:∃ x,x=e1:=⟨_,rfl⟩
 replace h:(some l2:Option (List Qaa))=some _:=h
 obtain rfl:=Option.some.inj h
 exact gr 2 [0] []
theorem Qb2 {n} {rv:List Qaa} (h:QaC n=some rv):AFn Tryd.prog 19 [.agg (Qac.enc n)] [] (one (lO 0 2 rv Qaa.enc)) [oS 2 31 rv Qaa.enc]:=by
 refine Qbz Tryd.func19 (by kernel_rfl) (by kernel_rfl) (fun Γ=>?_)
 unfold QaC at h
 rcases Qaj h with ⟨h0,h⟩|⟨h0,h⟩
 ·obtain ⟨h1,h⟩:=Qat h
  exact gn 9 [1,3] [0,2] [nL e_str n.places,bT h0,oO (Eq.refl ([(Qaa.mk 4 Qbm)].map Qaa.enc).length),aN (l:=([(Qaa.mk 4 Qbm)]:List Qaa)) Qaa.enc h1] (QbE Γ rv h)
 ·exact gn 9 [1,3] [0,1] [nL e_str n.places,bF h0,hW 1,hH (.adopt 3 2 31)] (QbE Γ rv h)
def QcU (Γ:Gam) (rv:List Qaa) (cf:Cf):Prop:=Go Tryd.prog Tryd.f7 [] Γ (one (lL 2 rv Qaa.enc)) [] cf
def Qdm (Γ:Gam) (rv:List Qaa) (n:Qac) (l:List Qaa) (l1:List Qaa) (i:Int):Prop:=QcU Γ rv ⟨[.c 244,.l 244,.b 0,.c 31],⟨28,[vP 1 0 2,vO 3 1 2 l1 Qaa.enc,vI 4 i],[oX 2 25 (Qac.enc n),oS 2 31 l1 Qaa.enc]⟩⟩
def Qc6 (Γ:Gam) (rv:List Qaa) (n:Qac) (l:List Qaa) (l2:List Qaa):Prop:=QcU Γ rv ⟨[.c 31],⟨28,[vO 3 0 2 l2 Qaa.enc],[oS 2 31 l2 Qaa.enc]⟩⟩
theorem QeH (Γ:Gam) (rv:List Qaa) {n l} {s:List Qaa×Int} {e:List Qaa} (h:loopF (fun s=>Qav n l s.1 s.2) s=some e) (hD:Qc6 Γ rv n l e):Qdm Γ rv n l s.1 s.2:=by
 refine Qa8 (C:=fun (s:List Qaa×Int)=>Qdm Γ rv n l s.1 s.2) (D:=fun (e:List Qaa)=>Qc6 Γ rv n l e) ?_ h hD
 clear h hD s e
 rintro ⟨l1,i⟩ z_ h hI hE
 replace h:Qav n l l1 i=_:=h
 unfold Qav at h
 rcases Qaj h with ⟨h3,h⟩|⟨h3,h⟩
 ·obtain ⟨r1,h4,h⟩:=Qaf h
  obtain ⟨h5,h⟩:=Qat h
  exact gn 11 [1,3,4] [0,2] [nL Qad.enc n.arcs,bT h3,cC (QeI h4),aO Qaa.enc h5] (hI _ (oJ h))
 ·exact gn 5 [3] [1] [nL Qad.enc n.arcs,bF h3] (hE _ (oJ h))
theorem Qc5 (Γ:Gam) (rv:List Qaa) {n l} (h:Qbg n l=some rv):QcU Γ rv ⟨[.c 15],⟨28,[vP 1 0 2,vO 3 1 2 l Qaa.enc],[oX 2 25 (Qac.enc n),oS 2 31 l Qaa.enc]⟩⟩:=by
 unfold Qbg at h
 obtain ⟨e0,h6,h⟩:=Qaf h
 refine gn 5 [1,3,4] [0,1] [] (QeH Γ rv h6 ?_)
 obtain ⟨l2,rfl⟩:∃ x,x=e0:=⟨_,rfl⟩
 replace h:(some l2:Option (List Qaa))=some _:=h
 obtain rfl:=Option.some.inj h
 exact gr 2 [] [hW 4,hH (.frz 0),rp 3 (eL l2 Qaa.enc)]
theorem Qfw {n} {rv:List Qaa} (h:Qbe n=some rv):AFn Tryd.prog 7 [.agg (Qac.enc n)] [] (one (lL 2 rv Qaa.enc)) []:=by
 refine Qbz Tryd.func7 (by kernel_rfl) (by kernel_rfl) (fun Γ=>?_)
 unfold Qbe at h
 obtain ⟨r,h0,h⟩:=Qaf h
 rcases Qaj h with ⟨h1,h⟩|⟨h1,h⟩
 ·obtain ⟨h2,h⟩:=Qat h
  exact gn 9 [1,3] [0,3] [cC (Qb2 h0),nL Qad.enc n.arcs,bT h1,oO (Eq.refl ([(Qaa.mk 4 QbZ)].map Qaa.enc).length),aO Qaa.enc h2] (Qc5 Γ rv h)
 ·exact gn 9 [1,3] [0,1] [cC (Qb2 h0),nL Qad.enc n.arcs,bF h1] (Qc5 Γ rv h)
theorem Qbu {n} {rv:Bool} (h:Qb7 n=some rv):AFn Tryd.prog 8 [.agg (Qac.enc n)] [] (one (.bool rv)) []:=by
 refine Qbz Tryd.func8 (by kernel_rfl) (by kernel_rfl) (fun Γ=>?_)
 unfold Qb7 at h
 rcases Qaj h with ⟨h0,h⟩|⟨h0,h⟩
 ·obtain ⟨r,h1,h⟩:=Qaf h
  obtain rfl:=Option.some.inj h
  exact gr 4 [] [nL Qad.enc n.arcs,bT h0,bT h0,cC (Qfw h1),bT h0,nL Qaa.enc r,bT h0,bT h0]
 ·obtain rfl:=Option.some.inj h
  exact gr 4 [] [nL Qad.enc n.arcs,rp 5 (bF h0)]
def QcR (Γ:Gam) (rv:Bool) (cf:Cf):Prop:=Go Tryd.prog Tryd.f24 [] Γ (one (.bool rv)) [] cf
def Qcm (Γ:Gam) (rv:Bool) (a:List Qab) (b:List Qab) (i:Int):Prop:=QcR Γ rv ⟨[.c 116,.l 116,.b 0,.c 15],⟨26,[vL 0 2 a Qab.enc,vL 1 2 b Qab.enc,vI 5 i],[]⟩⟩
def Qck (Γ:Gam) (rv:Bool) (a:List Qab) (b:List Qab):Prop:=QcR Γ rv ⟨[.c 15],⟨26,[],[]⟩⟩
theorem QdO (Γ:Gam) (rv:Bool) {a b} {s:Int} {e:(Unit)⊕(Bool)} (h:loopF (fun s=>Qau a b s) s=some e) (hD:sel e (fun e=>Qck Γ rv a b) (fun e=>e=rv)):Qcm Γ rv a b s:=by
 refine Qa8 (C:=fun (s:Int)=>Qcm Γ rv a b s) (D:=fun (e:(Unit)⊕(Bool))=>sel e (fun e=>Qck Γ rv a b) (fun e=>e=rv)) ?_ h hD
 clear h hD s e
 intro i z_ h hI hE
 replace h:Qau a b i=_:=h
 unfold Qau at h
 rcases Qaj h with ⟨h1,h⟩|⟨h1,h⟩
 ·obtain ⟨x0,h2,h⟩:=Qaf h
  obtain ⟨x1,h3,h⟩:=Qaf h
  rcases Qaj h with ⟨h4,h⟩|⟨h4,h⟩
  ·exact gn 14 [0,1,5] [] [nL Qab.enc a,bT h1,hH (.draw 9 []),cE Qab.enc h2,cE Qab.enc h3,nF h4] (hI _ (oJ h))
  ·obtain rfl:=(hE _ (oJ h):_=rv)
   exact gr 12 [] [nL Qab.enc a,bT h1,hH (.draw 9 []),cE Qab.enc h2,cE Qab.enc h3,nT h4]
 ·exact gn 5 [] [] [nL Qab.enc a,bF h1] (hE _ (oJ h))
theorem QbP {a b} {rv:Bool} (h:Qa7 a b=some rv):AFn Tryd.prog 24 [.one (lL 2 a Qab.enc),.one (lL 2 b Qab.enc)] [] (one (.bool rv)) []:=by
 refine Qbz Tryd.func24 (by kernel_rfl) (by kernel_rfl) (fun Γ=>?_)
 unfold Qa7 at h
 rcases Qaj h with ⟨h0,h⟩|⟨h0,h⟩
 ·obtain rfl:=Option.some.inj h
  exact gr 8 [] [nL Qab.enc a,nL Qab.enc b,bT h0]
 ·obtain ⟨e0,h5,h⟩:=Qaf h
  refine gn 12 [0,1,5] [] [nL Qab.enc a,nL Qab.enc b,bF h0] (QdO Γ rv h5 ?_)
  rcases e0 with e0|e0
  ·replace h:(some true:Option Bool)=some _:=h
   obtain rfl:=Option.some.inj h
   exact gr 2 [] []
  ·obtain ⟨r,rfl⟩:∃ x,x=e0:=⟨_,rfl⟩
   replace h:(some r:Option Bool)=some _:=h
   exact Option.some.inj h
theorem Qdn {a b} {rv:Bool} (h:QbD a b=some rv):AFn Tryd.prog 10 [.agg (Qad.enc a),.agg (Qad.enc b)] [] (one (.bool rv)) []:=by
 refine Qbz Tryd.func10 (by kernel_rfl) (by kernel_rfl) (fun Γ=>?_)
 unfold QbD at h
 rcases Qaj h with ⟨h0,h⟩|⟨h0,h⟩
 ·obtain ⟨r,h1,h⟩:=Qaf h
  rcases Qaj h with ⟨h2,h⟩|⟨h2,h⟩
  ·obtain ⟨r1,h3,h⟩:=Qaf h
   obtain rfl:=Option.some.inj h
   exact gr 4 [] [rp 18 hP,rp 4 (oI ((eqI a.from_ b.from_)=true)),oR True ((eqI a.from_ b.from_)=true),rp 4 (oI (((eqI a.from_ b.from_)&&(eqI a.to_ b.to_))=true)),oR True (((eqI a.from_ b.from_)&&(eqI a.to_ b.to_))=true),rp 4 (oI ((((eqI a.from_ b.from_)&&(eqI a.to_ b.to_))&&(eqI a.profile b.profile))=true)),oR True ((((eqI a.from_ b.from_)&&(eqI a.to_ b.to_))&&(eqI a.profile b.profile))=true),rp 5 (bT h0),cC (QbP h1),bT h0,rp 5 (bT h2),cC (QbP h3),bT h2]
  ·obtain rfl:=Option.some.inj h
   exact gr 4 [] [rp 18 hP,rp 4 (oI ((eqI a.from_ b.from_)=true)),oR True ((eqI a.from_ b.from_)=true),rp 4 (oI (((eqI a.from_ b.from_)&&(eqI a.to_ b.to_))=true)),oR True (((eqI a.from_ b.from_)&&(eqI a.to_ b.to_))=true),rp 4 (oI ((((eqI a.from_ b.from_)&&(eqI a.to_ b.to_))&&(eqI a.profile b.profile))=true)),oR True ((((eqI a.from_ b.from_)&&(eqI a.to_ b.to_))&&(eqI a.profile b.profile))=true),rp 5 (bT h0),cC (QbP h1),bT h0,rp 6 (bF h2)]
 ·obtain rfl:=Option.some.inj h
  exact gr 4 [] [rp 18 hP,rp 4 (oI ((eqI a.from_ b.from_)=true)),oR True ((eqI a.from_ b.from_)=true),rp 4 (oI (((eqI a.from_ b.from_)&&(eqI a.to_ b.to_))=true)),oR True (((eqI a.from_ b.from_)&&(eqI a.to_ b.to_))=true),rp 4 (oI ((((eqI a.from_ b.from_)&&(eqI a.to_ b.to_))&&(eqI a.profile b.profile))=true)),oR True ((((eqI a.from_ b.from_)&&(eqI a.to_ b.to_))&&(eqI a.profile b.profile))=true),rp 6 (bF h0),rp 6 fF]
def QbA (Γ:Gam) (rv:Bool) (cf:Cf):Prop:=Go Tryd.prog Tryd.f4 [] Γ (one (.bool rv)) [] cf
def Qbj (Γ:Gam) (rv:Bool) (n:Qac) (from_:Int) (to_:Int) (t:Int) (ticks:Int) (other:Int) (r2:Qac×Int) (v:Int):Prop:=QbA Γ rv ⟨[.c 1012,.l 1012,.b 0,.c 127],⟨212,[vI 1 from_,vI 2 to_,vI 3 t,vI 4 ticks,(5,one (.int .u16 other)),vP 6 0 2,vP 13 1 2,vL 102 6 n.arcs Qad.enc,vI 103 (lenI n.arcs),vI 104 v],[oX 2 25 (Qac.enc n),oX 2 25 (Qac.enc r2.1)]⟩⟩
def Qbh (Γ:Gam) (rv:Bool) (n:Qac) (from_:Int) (to_:Int) (t:Int) (ticks:Int) (other:Int) (r2:Qac×Int):Prop:=QbA Γ rv ⟨[.c 127],⟨212,[vP 13 0 2],[oX 2 25 (Qac.enc r2.1)]⟩⟩
theorem QbT (Γ:Gam) (rv:Bool) {n from_ to_ t ticks other r2 v r7 r8 y} {x:(Int)⊕((Unit)⊕(Bool))} (h:QaQ n from_ to_ t ticks other r2 v r7 r8 y=some x) (hI:∀ s:Int,x=.inl s→Qbj Γ rv n from_ to_ t ticks other r2 s) (hE:∀ e:(Unit)⊕(Bool),x=.inr e→sel e (fun e=>Qbh Γ rv n from_ to_ t ticks other r2) (fun e=>e=rv)):QbA Γ rv ⟨[.c 4148479,.b 1,.c 8103,.l 1012,.b 0,.c 127],⟨212,[vI 1 from_,vI 2 to_,vI 3 t,vI 4 ticks,(5,one (.int .u16 other)),vP 6 0 2,vP 13 1 2,vI 17 r7.1,vI 19 r7.2.2,vI 20 y,vI 22 r8.2.2,vL 102 6 n.arcs Qad.enc,vI 103 (lenI n.arcs),vI 104 v],[oX 2 25 (Qac.enc n),oX 2 25 (Qac.enc r2.1)]⟩⟩:=by
 unfold QaQ at h
 rcases Qaj h with ⟨h20,h⟩|⟨h20,h⟩
 ·obtain rfl:=(hE _ (oJ h):_=rv)
  exact gr 5 [] [rp 7 hP,oI ((neI r7.2.2 0)=false),oR True ((neI r7.2.2 0)=false),rp 2 (oI (((neI r7.2.2 0)||(neI r8.2.2 0))=false)),oR True (((neI r7.2.2 0)||(neI r8.2.2 0))=false),bT h20]
 ·exact gn 7 [1,2,3,4,5,6,13,102,103,104] [0,1] [rp 7 hP,oI ((neI r7.2.2 0)=false),oR True ((neI r7.2.2 0)=false),rp 2 (oI (((neI r7.2.2 0)||(neI r8.2.2 0))=false)),oR True (((neI r7.2.2 0)||(neI r8.2.2 0))=false),bF h20] (hI _ (oJ h))
theorem Qde (Γ:Gam) (rv:Bool) {n from_ to_ t ticks other r2} {s:Int} {e:(Unit)⊕(Bool)} (h:loopF (fun s=>Qaq n from_ to_ t ticks other r2 s) s=some e) (hD:sel e (fun e=>Qbh Γ rv n from_ to_ t ticks other r2) (fun e=>e=rv)):Qbj Γ rv n from_ to_ t ticks other r2 s:=by
 refine Qa8 (C:=fun (s:Int)=>Qbj Γ rv n from_ to_ t ticks other r2 s) (D:=fun (e:(Unit)⊕(Bool))=>sel e (fun e=>Qbh Γ rv n from_ to_ t ticks other r2) (fun e=>e=rv)) ?_ h hD
 clear h hD s e
 intro v z_ h hI hE
 replace h:Qaq n from_ to_ t ticks other r2 v=_:=h
 unfold Qaq at h
 rcases Qaj h with ⟨h8,h⟩|⟨h8,h⟩
 ·obtain ⟨x0,h9,h⟩:=Qaf h
  rcases Qaj h with ⟨h10,h⟩|⟨h10,h⟩
  ·obtain ⟨x1,h11,h⟩:=Qaf h
   obtain ⟨r4,h12,h⟩:=Qaf h
   rcases Qaj h with ⟨h13,h⟩|⟨h13,h⟩
   ·exact gn 21 [1,2,3,4,5,6,13,102,103,104] [0,1] [bT h8,cE Qad.enc h9,rp 5 hP,rp 3 (oI ((neI x0.from_ from_)=false)),oR True ((neI x0.from_ from_)=false),bT h10,hH (.draw 8 []),cE Qad.enc h11,cC (Qdn h12),nF h13] (hI _ (oJ h))
   ·obtain rfl:=(hE _ (oJ h):_=rv)
    exact gr 19 [] [bT h8,cE Qad.enc h9,rp 5 hP,rp 3 (oI ((neI x0.from_ from_)=false)),oR True ((neI x0.from_ from_)=false),bT h10,hH (.draw 8 []),cE Qad.enc h11,cC (Qdn h12),nT h13]
  ·obtain ⟨r5,h14,h⟩:=Qaf h
   obtain ⟨r6,h15,h⟩:=Qaf h
   rcases Qaj h with ⟨h16,h⟩|⟨h16,h⟩
   ·obtain rfl:=(hE _ (oJ h):_=rv)
    exact gr 24 [] [bT h8,cE Qad.enc h9,rp 5 hP,rp 3 (oI ((neI x0.from_ from_)=false)),oR True ((neI x0.from_ from_)=false),bF h10,cC (Qar h14),cC (Qar h15),rp 9 hP,oI ((neI r5.2.2 0)=false),oR True ((neI r5.2.2 0)=false),rp 4 (oI (((neI r5.2.2 0)||(neI r6.2.2 0))=false)),oR True (((neI r5.2.2 0)||(neI r6.2.2 0))=false),bT h16]
   ·obtain ⟨r7,h17,h⟩:=Qaf h
    obtain ⟨r8,h18,h⟩:=Qaf h
    rcases Qaj h with ⟨h19,h⟩|⟨h19,h⟩
    ·exact gn 32 [1,2,3,4,5,6,13,17,19,20,22,102,103,104] [0,1] [bT h8,cE Qad.enc h9,rp 5 hP,rp 3 (oI ((neI x0.from_ from_)=false)),oR True ((neI x0.from_ from_)=false),bF h10,cC (Qar h14),cC (Qar h15),rp 9 hP,oI ((neI r5.2.2 0)=false),oR True ((neI r5.2.2 0)=false),rp 4 (oI (((neI r5.2.2 0)||(neI r6.2.2 0))=false)),oR True (((neI r5.2.2 0)||(neI r6.2.2 0))=false),bF h16,cC (Qar h17),cC (Qar h18),bT h19] (QbT Γ rv h hI hE)
    ·exact gn 32 [1,2,3,4,5,6,13,17,19,20,22,102,103,104] [0,1] [bT h8,cE Qad.enc h9,rp 5 hP,rp 3 (oI ((neI x0.from_ from_)=false)),oR True ((neI x0.from_ from_)=false),bF h10,cC (Qar h14),cC (Qar h15),rp 9 hP,oI ((neI r5.2.2 0)=false),oR True ((neI r5.2.2 0)=false),rp 4 (oI (((neI r5.2.2 0)||(neI r6.2.2 0))=false)),oR True (((neI r5.2.2 0)||(neI r6.2.2 0))=false),bF h16,cC (Qar h17),cC (Qar h18),bF h19] (QbT Γ rv h hI hE)
 ·exact gn 5 [13] [1] [bF h8] (hE _ (oJ h))
theorem QdN {n from_ to_ t ticks other} {rv:Bool} (h:Qbi n from_ to_ t ticks other=some rv):AFn Tryd.prog 4 [.agg (Qac.enc n),.one (lI from_),.one (lI to_),.one (lI t),.one (lI ticks),.one (.int .u16 other)] [] (one (.bool rv)) []:=by
 refine Qbz Tryd.func4 (by kernel_rfl) (by kernel_rfl) (fun Γ=>?_)
 unfold Qbi at h
 obtain ⟨r,h0,h⟩:=Qaf h
 rcases Qaj h with ⟨h1,h⟩|⟨h1,h⟩
 ·obtain ⟨r1,h2,h⟩:=Qaf h
  obtain rfl:=Option.some.inj h
  exact gr 8 [] [cC (Qbu h0),rp 7 hP,oI ((!r)=false),oR True ((!r)=false),rp 2 (oI (((!r)||(ltI from_ 0))=false)),nL e_str n.places,rp 9 hP,rp 2 (oI (((!r)||(ltI from_ 0))=false)),oR True (((!r)||(ltI from_ 0))=false),oI ((((!r)||(ltI from_ 0))||(geI from_ (lenI n.places)))=false),oR True ((((!r)||(ltI from_ 0))||(geI from_ (lenI n.places)))=false),rp 2 (oI (((((!r)||(ltI from_ 0))||(geI from_ (lenI n.places)))||(ltI to_ 0))=false)),nL e_str n.places,hP,hP,rp 2 (oI (((((!r)||(ltI from_ 0))||(geI from_ (lenI n.places)))||(ltI to_ 0))=false)),oR True (((((!r)||(ltI from_ 0))||(geI from_ (lenI n.places)))||(ltI to_ 0))=false),bT h1,cC (Qb6 h2)]
 ·obtain ⟨r2,h3,h⟩:=Qaf h
  rcases Qaj h with ⟨h4,h⟩|⟨h4,h⟩
  ·rcases Qaj h with ⟨h5,h⟩|⟨h5,h⟩
   ·obtain ⟨r3,h6,h⟩:=Qaf h
    obtain rfl:=Option.some.inj h
    exact gr 15 [] [cC (Qbu h0),rp 7 hP,oI ((!r)=false),oR True ((!r)=false),rp 2 (oI (((!r)||(ltI from_ 0))=false)),nL e_str n.places,rp 9 hP,rp 2 (oI (((!r)||(ltI from_ 0))=false)),oR True (((!r)||(ltI from_ 0))=false),oI ((((!r)||(ltI from_ 0))||(geI from_ (lenI n.places)))=false),oR True ((((!r)||(ltI from_ 0))||(geI from_ (lenI n.places)))=false),rp 2 (oI (((((!r)||(ltI from_ 0))||(geI from_ (lenI n.places)))||(ltI to_ 0))=false)),nL e_str n.places,hP,hP,rp 2 (oI (((((!r)||(ltI from_ 0))||(geI from_ (lenI n.places)))||(ltI to_ 0))=false)),oR True (((((!r)||(ltI from_ 0))||(geI from_ (lenI n.places)))||(ltI to_ 0))=false),bF h1,cC (QaV h3),bT h4,rp 9 hP,oI ((eqI r2.2 12)=false),oR True ((eqI r2.2 12)=false),oI (((eqI r2.2 12)||(eqI r2.2 2))=false),oR True (((eqI r2.2 12)||(eqI r2.2 2))=false),rp 2 (oI ((((eqI r2.2 12)||(eqI r2.2 2))||(eqI r2.2 4))=true)),nL e_str r2.1.places,rp 5 hP,oI ((((eqI r2.2 12)||(eqI r2.2 2))||(eqI r2.2 4))=true),oR True ((((eqI r2.2 12)||(eqI r2.2 2))||(eqI r2.2 4))=true),rp 2 (oI (((((eqI r2.2 12)||(eqI r2.2 2))||(eqI r2.2 4))&&(eqI (lenI r2.1.places) 0))=true)),nL Qad.enc r2.1.arcs,hP,hP,oI (((((eqI r2.2 12)||(eqI r2.2 2))||(eqI r2.2 4))&&(eqI (lenI r2.1.places) 0))=true),oR True (((((eqI r2.2 12)||(eqI r2.2 2))||(eqI r2.2 4))&&(eqI (lenI r2.1.places) 0))=true),bT h5,cC (Qb6 h6),bT h5]
   ·obtain rfl:=Option.some.inj h
    exact gr 15 [] [cC (Qbu h0),rp 7 hP,oI ((!r)=false),oR True ((!r)=false),rp 2 (oI (((!r)||(ltI from_ 0))=false)),nL e_str n.places,rp 9 hP,rp 2 (oI (((!r)||(ltI from_ 0))=false)),oR True (((!r)||(ltI from_ 0))=false),oI ((((!r)||(ltI from_ 0))||(geI from_ (lenI n.places)))=false),oR True ((((!r)||(ltI from_ 0))||(geI from_ (lenI n.places)))=false),rp 2 (oI (((((!r)||(ltI from_ 0))||(geI from_ (lenI n.places)))||(ltI to_ 0))=false)),nL e_str n.places,hP,hP,rp 2 (oI (((((!r)||(ltI from_ 0))||(geI from_ (lenI n.places)))||(ltI to_ 0))=false)),oR True (((((!r)||(ltI from_ 0))||(geI from_ (lenI n.places)))||(ltI to_ 0))=false),bF h1,cC (QaV h3),bT h4,rp 9 hP,oI ((eqI r2.2 12)=false),oR True ((eqI r2.2 12)=false),oI (((eqI r2.2 12)||(eqI r2.2 2))=false),oR True (((eqI r2.2 12)||(eqI r2.2 2))=false),rp 2 (oI ((((eqI r2.2 12)||(eqI r2.2 2))||(eqI r2.2 4))=true)),nL e_str r2.1.places,rp 5 hP,oI ((((eqI r2.2 12)||(eqI r2.2 2))||(eqI r2.2 4))=true),oR True ((((eqI r2.2 12)||(eqI r2.2 2))||(eqI r2.2 4))=true),rp 2 (oI (((((eqI r2.2 12)||(eqI r2.2 2))||(eqI r2.2 4))&&(eqI (lenI r2.1.places) 0))=true)),nL Qad.enc r2.1.arcs,hP,hP,oI (((((eqI r2.2 12)||(eqI r2.2 2))||(eqI r2.2 4))&&(eqI (lenI r2.1.places) 0))=true),oR True (((((eqI r2.2 12)||(eqI r2.2 2))||(eqI r2.2 4))&&(eqI (lenI r2.1.places) 0))=true),bF h5,bF h5]
  ·rcases Qaj h with ⟨h7,h⟩|⟨h7,h⟩
   ·obtain rfl:=Option.some.inj h
    exact gr 20 [] [cC (Qbu h0),rp 7 hP,oI ((!r)=false),oR True ((!r)=false),rp 2 (oI (((!r)||(ltI from_ 0))=false)),nL e_str n.places,rp 9 hP,rp 2 (oI (((!r)||(ltI from_ 0))=false)),oR True (((!r)||(ltI from_ 0))=false),oI ((((!r)||(ltI from_ 0))||(geI from_ (lenI n.places)))=false),oR True ((((!r)||(ltI from_ 0))||(geI from_ (lenI n.places)))=false),rp 2 (oI (((((!r)||(ltI from_ 0))||(geI from_ (lenI n.places)))||(ltI to_ 0))=false)),nL e_str n.places,hP,hP,rp 2 (oI (((((!r)||(ltI from_ 0))||(geI from_ (lenI n.places)))||(ltI to_ 0))=false)),oR True (((((!r)||(ltI from_ 0))||(geI from_ (lenI n.places)))||(ltI to_ 0))=false),bF h1,cC (QaV h3),bF h4,nL Qad.enc r2.1.arcs,nL Qad.enc n.arcs,hP,hP,hP,rp 2 (oI ((neI (lenI r2.1.arcs) (lenI n.arcs))=false)),nL e_str r2.1.places,hP,hP,hP,rp 2 (oI ((neI (lenI r2.1.arcs) (lenI n.arcs))=false)),nL e_str n.places,hP,hP,rp 2 (oI ((neI (lenI r2.1.arcs) (lenI n.arcs))=false)),oR True ((neI (lenI r2.1.arcs) (lenI n.arcs))=false),bT h7]
   ·obtain ⟨e0,h21,h⟩:=Qaf h
    refine gn 24 [1,2,3,4,5,6,13,102,103,104] [0,1] [cC (Qbu h0),rp 7 hP,oI ((!r)=false),oR True ((!r)=false),rp 2 (oI (((!r)||(ltI from_ 0))=false)),nL e_str n.places,rp 9 hP,rp 2 (oI (((!r)||(ltI from_ 0))=false)),oR True (((!r)||(ltI from_ 0))=false),oI ((((!r)||(ltI from_ 0))||(geI from_ (lenI n.places)))=false),oR True ((((!r)||(ltI from_ 0))||(geI from_ (lenI n.places)))=false),rp 2 (oI (((((!r)||(ltI from_ 0))||(geI from_ (lenI n.places)))||(ltI to_ 0))=false)),nL e_str n.places,hP,hP,rp 2 (oI (((((!r)||(ltI from_ 0))||(geI from_ (lenI n.places)))||(ltI to_ 0))=false)),oR True (((((!r)||(ltI from_ 0))||(geI from_ (lenI n.places)))||(ltI to_ 0))=false),bF h1,cC (QaV h3),bF h4,nL Qad.enc r2.1.arcs,nL Qad.enc n.arcs,hP,hP,hP,rp 2 (oI ((neI (lenI r2.1.arcs) (lenI n.arcs))=false)),nL e_str r2.1.places,hP,hP,hP,rp 2 (oI ((neI (lenI r2.1.arcs) (lenI n.arcs))=false)),nL e_str n.places,hP,hP,rp 2 (oI ((neI (lenI r2.1.arcs) (lenI n.arcs))=false)),oR True ((neI (lenI r2.1.arcs) (lenI n.arcs))=false),bF h7,nL Qad.enc n.arcs] (Qde Γ rv h21 ?_)
    rcases e0 with e0|e0
    ·replace h:(bnd (QcC r2.1) fun r9=>br (eqI (lenI r9) 0) (bnd (Qa1) fun r10=>some r10) (some false):Option Bool)=some _:=h
     obtain ⟨r9,h22,h⟩:=Qaf h
     rcases Qaj h with ⟨h23,h⟩|⟨h23,h⟩
     ·obtain ⟨r10,h24,h⟩:=Qaf h
      obtain rfl:=Option.some.inj h
      exact gr 2 [] [cC (QeJ h22),nL Qaa.enc r9,bT h23,cC (Qb6 h24),bT h23]
     ·obtain rfl:=Option.some.inj h
      exact gr 2 [] [cC (QeJ h22),nL Qaa.enc r9,rp 2 (bF h23)]
    ·obtain ⟨r11,rfl⟩:∃ x,x=e0:=⟨_,rfl⟩
     replace h:(some r11:Option Bool)=some _:=h
     exact Option.some.inj h
end Go.Proofs.YtpkkaboonnedfaaDoor
