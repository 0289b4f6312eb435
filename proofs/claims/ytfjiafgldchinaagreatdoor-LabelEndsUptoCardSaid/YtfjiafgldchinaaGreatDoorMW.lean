/- Part MW of the proof: texts L2. -/
import Derived.Test.YtfjiafgldchinaaGreatDoorMV
import Derived.Test.YtfjiafgldchinaaGreatDoorProg
namespace Go.Proofs.YtfjiafgldchinaaGreatDoor
set_option linter.unusedVariables false
set_option linter.unusedSectionVars false
set_option linter.unusedSimpArgs false
set_option maxHeartbeats 4000000
set_option maxRecDepth 100000
def Qnv (Γ:Gam) (rv:Int) (cf:Cf):Prop:=Go Tryz.prog Tryz.f19 [] Γ (one (lI rv)) [] cf
def QkQ (Γ:Gam) (rv:Int) (set_1:Int) (n:Int):Prop:=Qnv Γ rv ⟨[.c 56,.l 56,.b 0,.c 15],⟨13,[vI 0 set_1,vI 3 n],[]⟩⟩
def QjQ (Γ:Gam) (rv:Int) (n1:Int):Prop:=Qnv Γ rv ⟨[.c 15],⟨13,[vI 3 n1],[]⟩⟩
theorem Qo5 (Γ:Gam) (rv:Int) {s:Int×Int} {e:Int} (h:loopF (fun s=>Qee s.1 s.2) s=some e) (hD:QjQ Γ rv e):QkQ Γ rv s.1 s.2:=by
 refine Qau (C:=fun (s:Int×Int)=>QkQ Γ rv s.1 s.2) (D:=fun (e:Int)=>QjQ Γ rv e) ?_ h hD
 clear h hD s e
 rintro ⟨set_1,n⟩ z_ h hI hE
 replace h:Qee set_1 n=_:=h
 unfold Qee at h
 rcases Qah h with ⟨h0,h⟩|⟨h0,h⟩
 ·exact gn 11 [0,3] [] [bT h0,rp 2 (oO (oA (n:=2)))] (hI _ (oJ h))
 ·exact gn 5 [3] [] [bF h0] (hE _ (oJ h))
theorem QgA {set_} {rv:Int} (h:QgX set_=some rv):AFn Tryz.prog 19 [.one (lI set_)] [] (one (lI rv)) []:=by
 refine QaK Tryz.func19 (by kernel_rfl) (by kernel_rfl) (fun Γ=>?_)
 unfold QgX at h
 obtain ⟨e0,h1,h⟩:=Qaf h
 refine gn 7 [0,3] [] [] (Qo5 Γ rv h1 ?_)
 obtain ⟨n1,rfl⟩:∃ x,x=e0:=⟨_,rfl⟩
 replace h:(some n1:Option Int)=some _:=h
 obtain rfl:=Option.some.inj h
 exact gr 2 [] []
theorem QaM {set_ i} {rv:Bool} (h:Qc2 set_ i=some rv):AFn Tryz.prog 98 [.one (lI set_),.one (lI i)] [] (one (.bool rv)) []:=by
 refine QaK Tryz.func98 (by kernel_rfl) (by kernel_rfl) (fun Γ=>?_)
 unfold Qc2 at h
 rcases Qah h with ⟨h0,h⟩|⟨h0,h⟩
 ·obtain ⟨h1,h⟩:=Qar h
  obtain rfl:=Option.some.inj h
  exact gr 4 [] [rp 6 hP,oI ((geI set_ 0)=true),oR True ((geI set_ 0)=true),oI (((geI set_ 0)&&(geI i 0))=true),oR True (((geI set_ 0)&&(geI i 0))=true),rp 4 (bT h0),oO (h1),bT h0,oO (oA (n:=2)),bT h0,bT h0]
 ·obtain rfl:=Option.some.inj h
  exact gr 4 [] [rp 6 hP,oI ((geI set_ 0)=true),oR True ((geI set_ 0)=true),oI (((geI set_ 0)&&(geI i 0))=true),oR True (((geI set_ 0)&&(geI i 0))=true),rp 7 (bF h0)]
def QmB (Γ:Gam) (rv:Bool) (cf:Cf):Prop:=Go Tryz.prog Tryz.f124 [] Γ (one (.bool rv)) [] cf
def Qj9 (Γ:Gam) (rv:Bool) (x0:Qac) (set_:Int) (i:Int):Prop:=QmB Γ rv ⟨[.c 52,.l 52,.b 0,.c 7],⟨31,[vI 1 set_,vP 2 0 6,vI 5 i],[oX 6 30 (Qac.enc x0)]⟩⟩
def Qjl (Γ:Gam) (rv:Bool) (x0:Qac) (set_:Int):Prop:=QmB Γ rv ⟨[.c 7],⟨31,[],[]⟩⟩
theorem Qou (Γ:Gam) (rv:Bool) {x0 set_} {s:Int} {e:(Unit)⊕(Bool)} (h:loopF (fun s=>Qb3 x0 set_ s) s=some e) (hD:sel e (fun e=>Qjl Γ rv x0 set_) (fun e=>e=rv)):Qj9 Γ rv x0 set_ s:=by
 refine Qau (C:=fun (s:Int)=>Qj9 Γ rv x0 set_ s) (D:=fun (e:(Unit)⊕(Bool))=>sel e (fun e=>Qjl Γ rv x0 set_) (fun e=>e=rv)) ?_ h hD
 clear h hD s e
 intro i z_ h hI hE
 replace h:Qb3 x0 set_ i=_:=h
 unfold Qb3 at h
 rcases Qah h with ⟨h0,h⟩|⟨h0,h⟩
 ·obtain ⟨x1,h1,h⟩:=Qaf h
  obtain ⟨r,h2,h⟩:=Qaf h
  rcases Qah h with ⟨h3,h⟩|⟨h3,h⟩
  ·obtain ⟨r1,h4,h⟩:=Qaf h
   rcases Qah h with ⟨h5,h⟩|⟨h5,h⟩
   ·obtain rfl:=(hE _ (oJ h):_=rv)
    exact gr 12 [] [nL Qap.enc x0.apart,bT h0,cE Qap.enc h1,oO (zL 0),oO (lT 0 2),cC (QaM h2),rp 5 (bT h3),cE Qap.enc h1,bT h3,oO (zL 1),oO (lT 1 2),bT h3,bT h3,cC (QaM h4),bT h3,bT h5]
   ·exact gn 14 [1,2,5] [0] [nL Qap.enc x0.apart,bT h0,cE Qap.enc h1,oO (zL 0),oO (lT 0 2),cC (QaM h2),rp 5 (bT h3),cE Qap.enc h1,bT h3,oO (zL 1),oO (lT 1 2),bT h3,bT h3,cC (QaM h4),bT h3,bF h5] (hI _ (oJ h))
  ·exact gn 14 [1,2,5] [0] [nL Qap.enc x0.apart,bT h0,cE Qap.enc h1,oO (zL 0),oO (lT 0 2),cC (QaM h2),rp 9 (bF h3),fF] (hI _ (oJ h))
 ·exact gn 5 [] [] [nL Qap.enc x0.apart,bF h0] (hE _ (oJ h))
theorem QlN {x0 set_} {rv:Bool} (h:Qe8 x0 set_=some rv):AFn Tryz.prog 124 [.agg (Qac.enc x0),.one (lI set_)] [] (one (.bool rv)) []:=by
 refine QaK Tryz.func124 (by kernel_rfl) (by kernel_rfl) (fun Γ=>?_)
 unfold Qe8 at h
 obtain ⟨e0,h6,h⟩:=Qaf h
 refine gn 7 [1,2,5] [0] [] (Qou Γ rv h6 ?_)
 rcases e0 with e0|e0
 ·replace h:(some true:Option Bool)=some _:=h
  obtain rfl:=Option.some.inj h
  exact gr 2 [] []
 ·obtain ⟨r2,rfl⟩:∃ x,x=e0:=⟨_,rfl⟩
  replace h:(some r2:Option Bool)=some _:=h
  exact Option.some.inj h
def QmA (Γ:Gam) (rv:Int) (cf:Cf):Prop:=Go Tryz.prog Tryz.f128 [] Γ (one (lI rv)) [] cf
def Qj6 (Γ:Gam) (rv:Int) (l:List Qaa) (v:Qaa) (i:Int):Prop:=QmA Γ rv ⟨[.c 52,.l 52,.b 0,.c 7],⟨19,[vL 0 2 l Qaa.enc,vP 3 0 2,vI 5 i],[oX 2 54 (Qaa.enc v)]⟩⟩
def Qjk (Γ:Gam) (rv:Int) (l:List Qaa) (v:Qaa):Prop:=QmA Γ rv ⟨[.c 7],⟨19,[],[]⟩⟩
theorem Qot (Γ:Gam) (rv:Int) {l v} {s:Int} {e:(Unit)⊕(Int)} (h:loopF (fun s=>Qb2 l v s) s=some e) (hD:sel e (fun e=>Qjk Γ rv l v) (fun e=>e=rv)):Qj6 Γ rv l v s:=by
 refine Qau (C:=fun (s:Int)=>Qj6 Γ rv l v s) (D:=fun (e:(Unit)⊕(Int))=>sel e (fun e=>Qjk Γ rv l v) (fun e=>e=rv)) ?_ h hD
 clear h hD s e
 intro i z_ h hI hE
 replace h:Qb2 l v i=_:=h
 unfold Qb2 at h
 rcases Qah h with ⟨h0,h⟩|⟨h0,h⟩
 ·obtain ⟨x0,h1,h⟩:=Qaf h
  rcases Qah h with ⟨h2,h⟩|⟨h2,h⟩
  ·obtain rfl:=(hE _ (oJ h):_=rv)
   exact gr 12 [] [nL Qaa.enc l,bT h0,hH (.draw 6 []),cE Qaa.enc h1,bT h2]
  ·exact gn 14 [0,3,5] [0] [nL Qaa.enc l,bT h0,hH (.draw 6 []),cE Qaa.enc h1,bF h2] (hI _ (oJ h))
 ·exact gn 5 [] [] [nL Qaa.enc l,bF h0] (hE _ (oJ h))
theorem QcC {l v} {rv:Int} (h:Qdy l v=some rv):AFn Tryz.prog 128 [.one (lL 2 l Qaa.enc),.agg (Qaa.enc v)] [] (one (lI rv)) []:=by
 refine QaK Tryz.func128 (by kernel_rfl) (by kernel_rfl) (fun Γ=>?_)
 unfold Qdy at h
 obtain ⟨e0,h3,h⟩:=Qaf h
 refine gn 7 [0,3,5] [0] [] (Qot Γ rv h3 ?_)
 rcases e0 with e0|e0
 ·replace h:(some (-1):Option Int)=some _:=h
  obtain rfl:=Option.some.inj h
  exact gr 2 [] []
 ·obtain ⟨r,rfl⟩:∃ x,x=e0:=⟨_,rfl⟩
  replace h:(some r:Option Int)=some _:=h
  exact Option.some.inj h
def Qka (Γ:Gam) (rv:Bool) (cf:Cf):Prop:=Go Tryz.prog Tryz.f125 [] Γ (one (.bool rv)) [] cf
def QhW (Γ:Gam) (rv:Bool) (l:List Qaa) (some_:List Qaa) (i:Int):Prop:=Qka Γ rv ⟨[.c 52,.l 52,.b 0,.c 7],⟨19,[vL 0 2 l Qaa.enc,vL 1 2 some_ Qaa.enc,vI 5 i],[]⟩⟩
def Qhu (Γ:Gam) (rv:Bool) (l:List Qaa) (some_:List Qaa):Prop:=Qka Γ rv ⟨[.c 7],⟨19,[],[]⟩⟩
theorem QmC (Γ:Gam) (rv:Bool) {l some_} {s:Int} {e:(Unit)⊕(Bool)} (h:loopF (fun s=>Qbp l some_ s) s=some e) (hD:sel e (fun e=>Qhu Γ rv l some_) (fun e=>e=rv)):QhW Γ rv l some_ s:=by
 refine Qau (C:=fun (s:Int)=>QhW Γ rv l some_ s) (D:=fun (e:(Unit)⊕(Bool))=>sel e (fun e=>Qhu Γ rv l some_) (fun e=>e=rv)) ?_ h hD
 clear h hD s e
 intro i z_ h hI hE
 replace h:Qbp l some_ i=_:=h
 unfold Qbp at h
 rcases Qah h with ⟨h0,h⟩|⟨h0,h⟩
 ·obtain ⟨x0,h1,h⟩:=Qaf h
  obtain ⟨r,h2,h⟩:=Qaf h
  rcases Qah h with ⟨h3,h⟩|⟨h3,h⟩
  ·obtain rfl:=(hE _ (oJ h):_=rv)
   exact gr 12 [] [nL Qaa.enc some_,bT h0,cE Qaa.enc h1,cC (QcC h2),bT h3]
  ·exact gn 14 [0,1,5] [] [nL Qaa.enc some_,bT h0,cE Qaa.enc h1,cC (QcC h2),bF h3] (hI _ (oJ h))
 ·exact gn 5 [] [] [nL Qaa.enc some_,bF h0] (hE _ (oJ h))
theorem Qb9 {l some_} {rv:Bool} (h:Qc1 l some_=some rv):AFn Tryz.prog 125 [.one (lL 2 l Qaa.enc),.one (lL 2 some_ Qaa.enc)] [] (one (.bool rv)) []:=by
 refine QaK Tryz.func125 (by kernel_rfl) (by kernel_rfl) (fun Γ=>?_)
 unfold Qc1 at h
 obtain ⟨e0,h4,h⟩:=Qaf h
 refine gn 7 [0,1,5] [] [] (QmC Γ rv h4 ?_)
 rcases e0 with e0|e0
 ·replace h:(some true:Option Bool)=some _:=h
  obtain rfl:=Option.some.inj h
  exact gr 2 [] []
 ·obtain ⟨r1,rfl⟩:∃ x,x=e0:=⟨_,rfl⟩
  replace h:(some r1:Option Bool)=some _:=h
  exact Option.some.inj h
def Qqo (Γ:Gam) (rv:List Qaa) (cf:Cf):Prop:=Go Tryz.prog Tryz.f126 [] Γ (one (lL 2 rv Qaa.enc)) [] cf
theorem Qio (Γ:Gam) (rv:List Qaa) {x0 order l} (h:Qdk x0 order l=some rv):Qqo Γ rv ⟨[.c 15],⟨33,[vI 1 order,vP 2 0 6,vO 5 1 2 l Qaa.enc],[oX 6 30 (Qac.enc x0),oS 2 54 l Qaa.enc]⟩⟩:=by
 unfold Qdk at h
 obtain ⟨x2,h3,h⟩:=Qaf h
 rcases Qah h with ⟨h4,h⟩|⟨h4,h⟩
 ·obtain ⟨h5,h⟩:=Qar h
  obtain rfl:=Option.some.inj h
  exact gr 7 [] [cE Qag.enc h3,bT h4,oO (Eq.refl ([(Qaa.mk order true)].map Qaa.enc).length),aO Qaa.enc h5,hW 5,hH (.frz 3),rp 4 (oO (Eq.refl ((l++[(Qaa.mk order true)]).map Qaa.enc).length))]
 ·obtain rfl:=Option.some.inj h
  exact gr 7 [] [cE Qag.enc h3,bF h4,hW 5,hH (.frz 1),rp 3 (eL l Qaa.enc)]
theorem QbL {x0 order} {rv:List Qaa} (h:QcG x0 order=some rv):AFn Tryz.prog 126 [.agg (Qac.enc x0),.one (lI order)] [] (one (lL 2 rv Qaa.enc)) []:=by
 refine QaK Tryz.func126 (by kernel_rfl) (by kernel_rfl) (fun Γ=>?_)
 unfold QcG at h
 obtain ⟨x1,h0,h⟩:=Qaf h
 rcases Qah h with ⟨h1,h⟩|⟨h1,h⟩
 ·obtain ⟨h2,h⟩:=Qar h
  exact gn 9 [1,2,5] [0,2] [cE Qag.enc h0,bT h1,oO (Eq.refl ([(Qaa.mk order false)].map Qaa.enc).length),aN (l:=([(Qaa.mk order false)]:List Qaa)) Qaa.enc h2] (Qio Γ rv h)
 ·exact gn 9 [1,2,5] [0,1] [cE Qag.enc h0,bF h1,hW 1,hH (.adopt 5 2 54)] (Qio Γ rv h)
def QmG (Γ:Gam) (rv:Bool) (cf:Cf):Prop:=Go Tryz.prog Tryz.f127 [] Γ (one (.bool rv)) [] cf
def Qkb (Γ:Gam) (rv:Bool) (x0:Qac) (order:Int) (l:List Qaa) (i:Int):Prop:=QmG Γ rv ⟨[.c 52,.l 52,.b 0,.c 7],⟨49,[vI 1 order,vL 2 2 l Qaa.enc,vP 3 0 6,vI 7 i],[oX 6 30 (Qac.enc x0)]⟩⟩
def Qjm (Γ:Gam) (rv:Bool) (x0:Qac) (order:Int) (l:List Qaa):Prop:=QmG Γ rv ⟨[.c 7],⟨49,[],[]⟩⟩
theorem Qov (Γ:Gam) (rv:Bool) {x0 order l} {s:Int} {e:(Unit)⊕(Bool)} (h:loopF (fun s=>Qb4 x0 order l s) s=some e) (hD:sel e (fun e=>Qjm Γ rv x0 order l) (fun e=>e=rv)):Qkb Γ rv x0 order l s:=by
 refine Qau (C:=fun (s:Int)=>Qkb Γ rv x0 order l s) (D:=fun (e:(Unit)⊕(Bool))=>sel e (fun e=>Qjm Γ rv x0 order l) (fun e=>e=rv)) ?_ h hD
 clear h hD s e
 intro i z_ h hI hE
 replace h:Qb4 x0 order l i=_:=h
 unfold Qb4 at h
 rcases Qah h with ⟨h0,h⟩|⟨h0,h⟩
 ·obtain ⟨x1,h1,h⟩:=Qaf h
  rcases Qah h with ⟨h2,h⟩|⟨h2,h⟩
  ·rcases Qah h with ⟨h3,h⟩|⟨h3,h⟩
   ·obtain rfl:=(hE _ (oJ h):_=rv)
    exact gr 14 [] [nL Qap.enc x0.before,bT h0,cE Qap.enc h1,oO (zL 0),oO (lT 0 2),cE Qap.enc h1,oO (zL 1),oO (lT 1 2),rp 3 (bT h2),rp 4 hP,rp 2 (oI ((ltI x1.x0 0)=false)),nL Qag.enc x0.orders,hP,rp 2 (oI ((ltI x1.x0 0)=false)),bT h2,hP,oR True ((ltI x1.x0 0)=false),bT h2,rp 6 (bT h3),bT h2,bT h3,bT h2,tT]
   ·obtain ⟨r,h4,h⟩:=Qaf h
    obtain ⟨r1,h5,h⟩:=Qaf h
    rcases Qah h with ⟨h6,h⟩|⟨h6,h⟩
    ·exact gn 16 [1,2,3,7] [0] [nL Qap.enc x0.before,bT h0,cE Qap.enc h1,oO (zL 0),oO (lT 0 2),cE Qap.enc h1,oO (zL 1),oO (lT 1 2),rp 3 (bT h2),rp 4 hP,rp 2 (oI ((ltI x1.x0 0)=false)),nL Qag.enc x0.orders,hP,rp 2 (oI ((ltI x1.x0 0)=false)),bT h2,hP,oR True ((ltI x1.x0 0)=false),bT h2,rp 4 (bF h3),cC (QbL h4),bF h3,cC (Qb9 h5),bF h3,bT h2,bF h3,bT h2,nF h6] (hI _ (oJ h))
    ·obtain rfl:=(hE _ (oJ h):_=rv)
     exact gr 14 [] [nL Qap.enc x0.before,bT h0,cE Qap.enc h1,oO (zL 0),oO (lT 0 2),cE Qap.enc h1,oO (zL 1),oO (lT 1 2),rp 3 (bT h2),rp 4 hP,rp 2 (oI ((ltI x1.x0 0)=false)),nL Qag.enc x0.orders,hP,rp 2 (oI ((ltI x1.x0 0)=false)),bT h2,hP,oR True ((ltI x1.x0 0)=false),bT h2,rp 4 (bF h3),cC (QbL h4),bF h3,cC (Qb9 h5),bF h3,bT h2,bF h3,bT h2,nT h6]
  ·exact gn 16 [1,2,3,7] [0] [nL Qap.enc x0.before,bT h0,cE Qap.enc h1,oO (zL 0),oO (lT 0 2),cE Qap.enc h1,oO (zL 1),oO (lT 1 2),rp 3 (bF h2),rp 5 kF,bF h2,bF h2,rp 6 kF,bF h2,bF h2,fF] (hI _ (oJ h))
 ·exact gn 5 [] [] [nL Qap.enc x0.before,bF h0] (hE _ (oJ h))
theorem Qga {x0 order l} {rv:Bool} (h:Qe9 x0 order l=some rv):AFn Tryz.prog 127 [.agg (Qac.enc x0),.one (lI order),.one (lL 2 l Qaa.enc)] [] (one (.bool rv)) []:=by
 refine QaK Tryz.func127 (by kernel_rfl) (by kernel_rfl) (fun Γ=>?_)
 unfold Qe9 at h
 obtain ⟨e0,h7,h⟩:=Qaf h
 refine gn 7 [1,2,3,7] [0] [] (Qov Γ rv h7 ?_)
 rcases e0 with e0|e0
 ·replace h:(some true:Option Bool)=some _:=h
  obtain rfl:=Option.some.inj h
  exact gr 2 [] []
 ·obtain ⟨r2,rfl⟩:∃ x,x=e0:=⟨_,rfl⟩
  replace h:(some r2:Option Bool)=some _:=h
  exact Option.some.inj h
def Qc7 (Γ:Gam) (rv:Bool) (cf:Cf):Prop:=Go Tryz.prog Tryz.f99 [] Γ (one (.bool rv)) [] cf
def QhY (Γ:Gam) (rv:Bool) (x0:Qac) (set_:Int) (l:List Qaa) (l1:List Qaa) (again1:Bool) (i:Int):Prop:=Qc7 Γ rv ⟨[.c 15660,.l 15660,.b 2,.b 1,.l 244,.b 0,.c 31],⟨82,[vI 1 set_,vP 2 0 6,vO 5 1 2 l1 Qaa.enc,vB 6 again1,vI 7 i],[oX 6 30 (Qac.enc x0),oS 2 54 l1 Qaa.enc]⟩⟩
def Qhx (Γ:Gam) (rv:Bool) (x0:Qac) (set_:Int) (l:List Qaa) (l2:List Qaa) (again2:Bool):Prop:=Qc7 Γ rv ⟨[.b 1,.l 244,.b 0,.c 31],⟨82,[vI 1 set_,vP 2 0 6,vO 5 1 2 l2 Qaa.enc,vB 6 again2],[oX 6 30 (Qac.enc x0),oS 2 54 l2 Qaa.enc]⟩⟩
def QhX (Γ:Gam) (rv:Bool) (x0:Qac) (set_:Int) (l:List Qaa) (again:Bool):Prop:=Qc7 Γ rv ⟨[.c 244,.l 244,.b 0,.c 31],⟨82,[vI 1 set_,vP 2 0 6,vO 5 1 2 l Qaa.enc,vB 6 again],[oX 6 30 (Qac.enc x0),oS 2 54 l Qaa.enc]⟩⟩
def Qhw (Γ:Gam) (rv:Bool) (x0:Qac) (set_:Int) (l3:List Qaa):Prop:=Qc7 Γ rv ⟨[.c 31],⟨82,[vI 1 set_,vP 2 0 6,vO 5 1 2 l3 Qaa.enc],[oX 6 30 (Qac.enc x0),oS 2 54 l3 Qaa.enc]⟩⟩
def QhZ (Γ:Gam) (rv:Bool) (x0:Qac) (set_:Int) (l3:List Qaa) (i1:Int):Prop:=Qc7 Γ rv ⟨[.c 500,.l 500,.b 4,.c 63],⟨82,[vI 1 set_,vP 2 0 6,vO 5 1 2 l3 Qaa.enc,vI 8 i1],[oX 6 30 (Qac.enc x0),oS 2 54 l3 Qaa.enc]⟩⟩
def Qhy (Γ:Gam) (rv:Bool) (x0:Qac) (set_:Int) (l3:List Qaa):Prop:=Qc7 Γ rv ⟨[.c 63],⟨82,[],[]⟩⟩
theorem QmE (Γ:Gam) (rv:Bool) {x0 set_ l} {s:List Qaa×Bool×Int} {e:List Qaa×Bool} (h:loopF (fun s=>QcN x0 set_ l s.1 s.2.1 s.2.2) s=some e) (hD:Qhx Γ rv x0 set_ l e.1 e.2):QhY Γ rv x0 set_ l s.1 s.2.1 s.2.2:=by
 refine Qau (C:=fun (s:List Qaa×Bool×Int)=>QhY Γ rv x0 set_ l s.1 s.2.1 s.2.2) (D:=fun (e:List Qaa×Bool)=>Qhx Γ rv x0 set_ l e.1 e.2) ?_ h hD
 clear h hD s e
 rintro ⟨l1,again1,i⟩ z_ h hI hE
 replace h:QcN x0 set_ l l1 again1 i=_:=h
 unfold QcN at h
 rcases Qah h with ⟨h4,h⟩|⟨h4,h⟩
 ·obtain ⟨r1,h5,h⟩:=Qaf h
  rcases Qah h with ⟨h6,h⟩|⟨h6,h⟩
  ·obtain ⟨x1,h7,h⟩:=Qaf h
   rcases Qah h with ⟨h8,h⟩|⟨h8,h⟩
   ·exact gn 14 [1,2,5,6,7] [0,1] [nL Qag.enc x0.orders,bT h4,cC (QaM h5),rp 4 (bT h6),cE Qag.enc h7,rp 4 (bT h6),rp 7 (nF h8),rp 6 fF] (hI _ (oJ h))
   ·obtain ⟨r2,h9,h⟩:=Qaf h
    obtain ⟨r3,h10,h⟩:=Qaf h
    rcases Qah h with ⟨h11,h⟩|⟨h11,h⟩
    ·exact gn 14 [1,2,5,6,7] [0,1] [nL Qag.enc x0.orders,bT h4,cC (QaM h5),rp 4 (bT h6),cE Qag.enc h7,rp 4 (bT h6),rp 4 (nT h8),cC (QbL h9),nT h8,eL l1 Qaa.enc,cC (Qb9 h10),nT h8,nT h8,rp 5 (nF h11),fF] (hI _ (oJ h))
    ·obtain ⟨r4,h12,h⟩:=Qaf h
     rcases Qah h with ⟨h13,h⟩|⟨h13,h⟩
     ·obtain ⟨r5,h14,h⟩:=Qaf h
      obtain ⟨h15,h⟩:=Qar h
      exact gn 16 [1,2,5,6,7] [0,2] [nL Qag.enc x0.orders,bT h4,cC (QaM h5),rp 4 (bT h6),cE Qag.enc h7,rp 4 (bT h6),rp 4 (nT h8),cC (QbL h9),nT h8,eL l1 Qaa.enc,cC (Qb9 h10),nT h8,nT h8,rp 4 (nT h11),eL l1 Qaa.enc,cC (Qga h12),nT h11,bT h13,cC (QbL h14),aO Qaa.enc h15] (hI _ (oJ h))
     ·exact gn 14 [1,2,5,6,7] [0,1] [nL Qag.enc x0.orders,bT h4,cC (QaM h5),rp 4 (bT h6),cE Qag.enc h7,rp 4 (bT h6),rp 4 (nT h8),cC (QbL h9),nT h8,eL l1 Qaa.enc,cC (Qb9 h10),nT h8,nT h8,rp 4 (nT h11),eL l1 Qaa.enc,cC (Qga h12),nT h11,bF h13] (hI _ (oJ h))
  ·exact gn 14 [1,2,5,6,7] [0,1] [nL Qag.enc x0.orders,bT h4,cC (QaM h5),rp 8 (bF h6),rp 13 fF] (hI _ (oJ h))
 ·exact gn 5 [1,2,5,6] [0,1] [nL Qag.enc x0.orders,bF h4] (hE _ (oJ h))
theorem QmD (Γ:Gam) (rv:Bool) {x0 set_} {s:List Qaa×Bool} {e:List Qaa} (h:loopF (fun s=>Qca x0 set_ s.1 s.2) s=some e) (hD:Qhw Γ rv x0 set_ e):QhX Γ rv x0 set_ s.1 s.2:=by
 refine Qau (C:=fun (s:List Qaa×Bool)=>QhX Γ rv x0 set_ s.1 s.2) (D:=fun (e:List Qaa)=>Qhw Γ rv x0 set_ e) ?_ h hD
 clear h hD s e
 rintro ⟨l,again⟩ z_ h hI hE
 replace h:Qca x0 set_ l again=_:=h
 unfold Qca at h
 rcases Qah h with ⟨h3,h⟩|⟨h3,h⟩
 ·obtain ⟨e0,h16,h⟩:=Qaf h
  refine gn 12 [1,2,5,6,7] [0,1] [bT h3] (QmE Γ rv h16 ?_)
  obtain ⟨l2,again2⟩:=e0
  replace h:(some (.inl (l2,again2)):Option ((List Qaa×Bool)⊕(List Qaa)))=some _:=h
  exact gn 2 [1,2,5,6] [0,1] [] (hI _ (oJ h))
 ·exact gn 5 [1,2,5] [0,1] [bF h3] (hE _ (oJ h))
theorem QmF (Γ:Gam) (rv:Bool) {x0 set_ l3} {s:Int} {e:(Unit)⊕(Bool)} (h:loopF (fun s=>Qa7 x0 set_ l3 s) s=some e) (hD:sel e (fun e=>Qhy Γ rv x0 set_ l3) (fun e=>e=rv)):QhZ Γ rv x0 set_ l3 s:=by
 refine Qau (C:=fun (s:Int)=>QhZ Γ rv x0 set_ l3 s) (D:=fun (e:(Unit)⊕(Bool))=>sel e (fun e=>Qhy Γ rv x0 set_ l3) (fun e=>e=rv)) ?_ h hD
 clear h hD s e
 intro i1 z_ h hI hE
 replace h:Qa7 x0 set_ l3 i1=_:=h
 unfold Qa7 at h
 rcases Qah h with ⟨h18,h⟩|⟨h18,h⟩
 ·obtain ⟨r6,h19,h⟩:=Qaf h
  rcases Qah h with ⟨h20,h⟩|⟨h20,h⟩
  ·obtain ⟨x2,h21,h⟩:=Qaf h
   rcases Qah h with ⟨h22,h⟩|⟨h22,h⟩
   ·obtain rfl:=(hE _ (oJ h):_=rv)
    exact gr 12 [] [nL Qag.enc x0.orders,bT h18,cC (QaM h19),rp 4 (bT h20),cE Qag.enc h21,rp 3 (bT h20),rp 6 (bT h22),bT h20,bT h22,bT h20,tT]
   ·obtain ⟨r7,h23,h⟩:=Qaf h
    obtain ⟨r8,h24,h⟩:=Qaf h
    rcases Qah h with ⟨h25,h⟩|⟨h25,h⟩
    ·exact gn 14 [1,2,5,8] [0,1] [nL Qag.enc x0.orders,bT h18,cC (QaM h19),rp 4 (bT h20),cE Qag.enc h21,rp 3 (bT h20),rp 4 (bF h22),cC (QbL h23),bF h22,eL l3 Qaa.enc,cC (Qb9 h24),bF h22,bT h20,bF h22,bT h20,nF h25] (hI _ (oJ h))
    ·obtain rfl:=(hE _ (oJ h):_=rv)
     exact gr 12 [] [nL Qag.enc x0.orders,bT h18,cC (QaM h19),rp 4 (bT h20),cE Qag.enc h21,rp 3 (bT h20),rp 4 (bF h22),cC (QbL h23),bF h22,eL l3 Qaa.enc,cC (Qb9 h24),bF h22,bT h20,bF h22,bT h20,nT h25]
  ·exact gn 14 [1,2,5,8] [0,1] [nL Qag.enc x0.orders,bT h18,cC (QaM h19),rp 7 (bF h20),rp 6 kF,rp 2 (bF h20),fF] (hI _ (oJ h))
 ·exact gn 5 [] [] [nL Qag.enc x0.orders,bF h18] (hE _ (oJ h))
theorem Qgp {x0 set_} {rv:Bool} (h:QdR x0 set_=some rv):AFn Tryz.prog 99 [.agg (Qac.enc x0),.one (lI set_)] [] (one (.bool rv)) []:=by
 refine QaK Tryz.func99 (by kernel_rfl) (by kernel_rfl) (fun Γ=>?_)
 unfold QdR at h
 rcases Qah h with ⟨h0,h⟩|⟨h0,h⟩
 ·obtain rfl:=Option.some.inj h
  exact gr 8 [] [rp 5 (bT h0),tT]
 ·obtain ⟨r,h1,h⟩:=Qaf h
  rcases Qah h with ⟨h2,h⟩|⟨h2,h⟩
  ·obtain ⟨e1,h17,h⟩:=Qaf h
   refine gn 14 [1,2,5,6] [0,1] [rp 3 (bF h0),cC (QlN h1),bF h0,bF h0,nF h2,hW 10,hH (.adopt 5 2 54)] (QmD Γ rv h17 ?_)
   obtain ⟨l3,rfl⟩:∃ x,x=e1:=⟨_,rfl⟩
   replace h:(bnd (loopF (fun s=>Qa7 x0 set_ l3 s) 0) (fun e=>sel e (fun (_:Unit)=>some true) (fun r9=>some r9)):Option Bool)=some _:=h
   obtain ⟨e2,h26,h⟩:=Qaf h
   refine gn 5 [1,2,5,8] [0,1] [] (QmF Γ rv h26 ?_)
   rcases e2 with e2|e2
   ·replace h:(some true:Option Bool)=some _:=h
    obtain rfl:=Option.some.inj h
    exact gr 2 [] []
   ·obtain ⟨r9,rfl⟩:∃ x,x=e2:=⟨_,rfl⟩
    replace h:(some r9:Option Bool)=some _:=h
    exact Option.some.inj h
  ·obtain rfl:=Option.some.inj h
   exact gr 8 [] [rp 3 (bF h0),cC (QlN h1),bF h0,bF h0,nT h2]
def Qg9 (Γ:Gam) (rv:List Qaa) (cf:Cf):Prop:=Go Tryz.prog Tryz.f101 [] Γ (one (lL 2 rv Qaa.enc)) [] cf
def Qk3 (Γ:Gam) (rv:List Qaa) (x0:Qac) (set_:Int) (l:List Qaa) (i:Int) (r2:List Qaa) (l2:List Qaa) (k:Int):Prop:=Qg9 Γ rv ⟨[.c 29852,.l 29852,.b 2,.b 1,.c 467,.l 116,.b 0,.c 15],⟨73,[vI 1 set_,vL 2 2 l Qaa.enc,vP 3 0 6,vO 7 1 2 l2 Qaa.enc,vI 8 i,vL 9 2 r2 Qaa.enc,vI 10 k],[oX 6 30 (Qac.enc x0),oS 2 54 l2 Qaa.enc]⟩⟩
def Qj8 (Γ:Gam) (rv:List Qaa) (x0:Qac) (set_:Int) (l:List Qaa) (i:Int) (r2:List Qaa) (l3:List Qaa):Prop:=Qg9 Γ rv ⟨[.b 1,.c 467,.l 116,.b 0,.c 15],⟨73,[vI 1 set_,vL 2 2 l Qaa.enc,vP 3 0 6,vO 7 1 2 l3 Qaa.enc,vI 8 i],[oX 6 30 (Qac.enc x0),oS 2 54 l3 Qaa.enc]⟩⟩
def Qk2 (Γ:Gam) (rv:List Qaa) (x0:Qac) (set_:Int) (l:List Qaa) (l1:List Qaa) (i:Int):Prop:=Qg9 Γ rv ⟨[.c 116,.l 116,.b 0,.c 15],⟨73,[vI 1 set_,vL 2 2 l Qaa.enc,vP 3 0 6,vO 7 1 2 l1 Qaa.enc,vI 8 i],[oX 6 30 (Qac.enc x0),oS 2 54 l1 Qaa.enc]⟩⟩
def Qj7 (Γ:Gam) (rv:List Qaa) (x0:Qac) (set_:Int) (l:List Qaa) (l4:List Qaa):Prop:=Qg9 Γ rv ⟨[.c 15],⟨73,[vO 7 0 2 l4 Qaa.enc],[oS 2 54 l4 Qaa.enc]⟩⟩
theorem Qpc (Γ:Gam) (rv:List Qaa) {x0 set_ l i r2} {s:List Qaa×Int} {e:List Qaa} (h:loopF (fun s=>Qcs x0 set_ l i r2 s.1 s.2) s=some e) (hD:Qj8 Γ rv x0 set_ l i r2 e):Qk3 Γ rv x0 set_ l i r2 s.1 s.2:=by
 refine Qau (C:=fun (s:List Qaa×Int)=>Qk3 Γ rv x0 set_ l i r2 s.1 s.2) (D:=fun (e:List Qaa)=>Qj8 Γ rv x0 set_ l i r2 e) ?_ h hD
 clear h hD s e
 rintro ⟨l2,k⟩ z_ h hI hE
 replace h:Qcs x0 set_ l i r2 l2 k=_:=h
 unfold Qcs at h
 rcases Qah h with ⟨h8,h⟩|⟨h8,h⟩
 ·obtain ⟨x2,h9,h⟩:=Qaf h
  obtain ⟨r3,h10,h⟩:=Qaf h
  rcases Qah h with ⟨h11,h⟩|⟨h11,h⟩
  ·rcases Qah h with ⟨h12,h⟩|⟨h12,h⟩
   ·obtain ⟨h13,h⟩:=Qar h
    exact gn 14 [1,2,3,7,8,9,10] [0,3] [nL Qaa.enc r2,bT h8,cE Qaa.enc h9,cC (QcC h10),rp 3 (bT h11),rp 6 (bT h12),bT h11,bT h12,bT h11,tT,cE Qaa.enc h9,oO (Eq.refl ([x2].map Qaa.enc).length),aO Qaa.enc h13] (hI _ (oJ h))
   ·obtain ⟨x3,h14,h⟩:=Qaf h
    obtain ⟨r4,h15,h⟩:=Qaf h
    rcases Qah h with ⟨h16,h⟩|⟨h16,h⟩
    ·obtain ⟨h17,h⟩:=Qar h
     exact gn 14 [1,2,3,7,8,9,10] [0,3] [nL Qaa.enc r2,bT h8,cE Qaa.enc h9,cC (QcC h10),rp 3 (bT h11),rp 3 (bF h12),cE Qaa.enc h14,rp 2 (bF h12),cC (QcC h15),bF h12,bT h11,bF h12,bT h11,bT h16,cE Qaa.enc h9,oO (Eq.refl ([x2].map Qaa.enc).length),aO Qaa.enc h17] (hI _ (oJ h))
    ·exact gn 14 [1,2,3,7,8,9,10] [0,1] [nL Qaa.enc r2,bT h8,cE Qaa.enc h9,cC (QcC h10),rp 3 (bT h11),rp 3 (bF h12),cE Qaa.enc h14,rp 2 (bF h12),cC (QcC h15),bF h12,bT h11,bF h12,bT h11,bF h16] (hI _ (oJ h))
  ·exact gn 14 [1,2,3,7,8,9,10] [0,1] [nL Qaa.enc r2,bT h8,cE Qaa.enc h9,cC (QcC h10),rp 3 (bF h11),rp 6 kF,rp 2 (bF h11),fF] (hI _ (oJ h))
 ·exact gn 5 [1,2,3,7,8] [0,1] [nL Qaa.enc r2,bF h8] (hE _ (oJ h))
theorem Qpb (Γ:Gam) (rv:List Qaa) {x0 set_ l} {s:List Qaa×Int} {e:List Qaa} (h:loopF (fun s=>QbS x0 set_ l s.1 s.2) s=some e) (hD:Qj7 Γ rv x0 set_ l e):Qk2 Γ rv x0 set_ l s.1 s.2:=by
 refine Qau (C:=fun (s:List Qaa×Int)=>Qk2 Γ rv x0 set_ l s.1 s.2) (D:=fun (e:List Qaa)=>Qj7 Γ rv x0 set_ l e) ?_ h hD
 clear h hD s e
 rintro ⟨l1,i⟩ z_ h hI hE
 replace h:QbS x0 set_ l l1 i=_:=h
 unfold QbS at h
 rcases Qah h with ⟨h0,h⟩|⟨h0,h⟩
 ·obtain ⟨r,h1,h⟩:=Qaf h
  rcases Qah h with ⟨h2,h⟩|⟨h2,h⟩
  ·obtain ⟨x1,h3,h⟩:=Qaf h
   rcases Qah h with ⟨h4,h⟩|⟨h4,h⟩
   ·exact gn 14 [1,2,3,7,8] [0,1] [nL Qag.enc x0.orders,bT h0,cC (QaM h1),rp 4 (nF h2),cE Qag.enc h3,rp 3 (nF h2),rp 6 (bT h4),tT] (hI _ (oJ h))
   ·obtain ⟨r1,h5,h⟩:=Qaf h
    rcases Qah h with ⟨h6,h⟩|⟨h6,h⟩
    ·obtain ⟨r2,h7,h⟩:=Qaf h
     obtain ⟨e0,h18,h⟩:=Qaf h
     refine gn 18 [1,2,3,7,8,9,10] [0,1] [nL Qag.enc x0.orders,bT h0,cC (QaM h1),rp 4 (nF h2),cE Qag.enc h3,rp 3 (nF h2),rp 4 (bF h4),cC (Qga h5),bF h4,bF h4,nF h6,cC (QbL h7)] (Qpc Γ rv h18 ?_)
     obtain ⟨l3,rfl⟩:∃ x,x=e0:=⟨_,rfl⟩
     replace h:(some (.inl (l3,(addK .i64 i 1))):Option ((List Qaa×Int)⊕(List Qaa)))=some _:=h
     exact gn 3 [1,2,3,7,8] [0,1] [] (hI _ (oJ h))
    ·exact gn 14 [1,2,3,7,8] [0,1] [nL Qag.enc x0.orders,bT h0,cC (QaM h1),rp 4 (nF h2),cE Qag.enc h3,rp 3 (nF h2),rp 4 (bF h4),cC (Qga h5),bF h4,bF h4,nT h6] (hI _ (oJ h))
  ·exact gn 14 [1,2,3,7,8] [0,1] [nL Qag.enc x0.orders,bT h0,cC (QaM h1),rp 7 (nT h2),rp 7 tT] (hI _ (oJ h))
 ·exact gn 5 [7] [1] [nL Qag.enc x0.orders,bF h0] (hE _ (oJ h))
theorem QgE {x0 set_ l} {rv:List Qaa} (h:QfS x0 set_ l=some rv):AFn Tryz.prog 101 [.agg (Qac.enc x0),.one (lI set_),.one (lL 2 l Qaa.enc)] [] (one (lL 2 rv Qaa.enc)) []:=by
 refine QaK Tryz.func101 (by kernel_rfl) (by kernel_rfl) (fun Γ=>?_)
 unfold QfS at h
 obtain ⟨e1,h19,h⟩:=Qaf h
 refine gn 9 [1,2,3,7,8] [0,1] [hW 13,hH (.adopt 7 2 54)] (Qpb Γ rv h19 ?_)
 obtain ⟨l4,rfl⟩:∃ x,x=e1:=⟨_,rfl⟩
 replace h:(some l4:Option (List Qaa))=some _:=h
 obtain rfl:=Option.some.inj h
 exact gr 2 [] [hW 4,hH (.frz 0),rp 3 (eL l4 Qaa.enc)]
def Qhv (Γ:Gam) (rv:List (List Qaa)) (cf:Cf):Prop:=Go Tryz.prog Tryz.f100 [] Γ (one (lO 0 1 rv es_T_api_Visit.enc)) [oS 1 32 rv es_T_api_Visit.enc] cf
def Qgo (Γ:Gam) (rv:List (List Qaa)) (self:Qac→Int→(List Qaa)→(List (List Qaa))→Option (List (List Qaa))) (x0:Qac) (set_:Int) (l:List Qaa) (r:List Qaa) (l1:List (List Qaa)) (i:Int):Prop:=Qhv Γ rv ⟨[.c 500,.l 500,.b 0,.c 63],⟨50,[vI 1 set_,vL 2 2 l Qaa.enc,vO 3 0 1 l1 es_T_api_Visit.enc,vP 4 1 6,vL 9 2 r Qaa.enc,vI 10 i],[oS 1 32 l1 es_T_api_Visit.enc,oX 6 30 (Qac.enc x0)]⟩⟩
def Qf9 (Γ:Gam) (rv:List (List Qaa)) (self:Qac→Int→(List Qaa)→(List (List Qaa))→Option (List (List Qaa))) (x0:Qac) (set_:Int) (l:List Qaa) (r:List Qaa) (l2:List (List Qaa)):Prop:=Qhv Γ rv ⟨[.c 63],⟨50,[vO 3 0 1 l2 es_T_api_Visit.enc],[oS 1 32 l2 es_T_api_Visit.enc]⟩⟩
theorem Qks (Γ:Gam) (rv:List (List Qaa)) {self:Qac→Int→(List Qaa)→(List (List Qaa))→Option (List (List Qaa))} (hself:∀ {x0:Qac} {set_:Int} {l:List Qaa} {out:List (List Qaa)} {rv:List (List Qaa)},self x0 set_ l out=some rv→AFn Tryz.prog 100 [.agg (Qac.enc x0),.one (lI set_),.one (lL 2 l Qaa.enc),.one (lO 0 1 out es_T_api_Visit.enc)] [bS 1 32 out es_T_api_Visit.enc] (one (lO 0 1 rv es_T_api_Visit.enc)) [oS 1 32 rv es_T_api_Visit.enc]) {x0 set_ l r} {s:List (List Qaa)×Int} {e:List (List Qaa)} (h:loopF (fun s=>QaT self x0 set_ l r s.1 s.2) s=some e) (hD:Qf9 Γ rv self x0 set_ l r e):Qgo Γ rv self x0 set_ l r s.1 s.2:=by
 refine Qau (C:=fun (s:List (List Qaa)×Int)=>Qgo Γ rv self x0 set_ l r s.1 s.2) (D:=fun (e:List (List Qaa))=>Qf9 Γ rv self x0 set_ l r e) ?_ h hD
 clear h hD s e
 rintro ⟨l1,i⟩ z_ h hI hE
 replace h:QaT self x0 set_ l r l1 i=_:=h
 unfold QaT at h
 rcases Qah h with ⟨h4,h⟩|⟨h4,h⟩
 ·obtain ⟨h5,h⟩:=Qar h
  obtain ⟨x1,h6,h⟩:=Qaf h
  obtain ⟨h7,h⟩:=Qar h
  obtain ⟨r1,h8,h⟩:=Qaf h
  exact gn 15 [1,2,3,4,9,10] [5,1] [nL Qaa.enc r,bT h4,aZ Qaa.enc h5,cE Qaa.enc h6,oO (Eq.refl ([x1].map Qaa.enc).length),aO Qaa.enc h7,hW 6,hH (.frz 4),rp 3 (oO (Eq.refl ((l++[x1]).map Qaa.enc).length)),cI [0] (hself h8)] (hI _ (oJ h))
 ·exact gn 5 [3] [0] [nL Qaa.enc r,bF h4] (hE _ (oJ h))
theorem Qk4 {self:Qac→Int→(List Qaa)→(List (List Qaa))→Option (List (List Qaa))} (hself:∀ {x0:Qac} {set_:Int} {l:List Qaa} {out:List (List Qaa)} {rv:List (List Qaa)},self x0 set_ l out=some rv→AFn Tryz.prog 100 [.agg (Qac.enc x0),.one (lI set_),.one (lL 2 l Qaa.enc),.one (lO 0 1 out es_T_api_Visit.enc)] [bS 1 32 out es_T_api_Visit.enc] (one (lO 0 1 rv es_T_api_Visit.enc)) [oS 1 32 rv es_T_api_Visit.enc]) {x0 set_ l out} {rv:List (List Qaa)} (h:Qbz self x0 set_ l out=some rv):AFn Tryz.prog 100 [.agg (Qac.enc x0),.one (lI set_),.one (lL 2 l Qaa.enc),.one (lO 0 1 out es_T_api_Visit.enc)] [bS 1 32 out es_T_api_Visit.enc] (one (lO 0 1 rv es_T_api_Visit.enc)) [oS 1 32 rv es_T_api_Visit.enc]:=by
 refine QaK Tryz.func100 (by kernel_rfl) (by kernel_rfl) (fun Γ=>?_)
 unfold Qbz at h
 rcases Qah h with ⟨h0,h⟩|⟨h0,h⟩
 ·obtain rfl:=Option.some.inj h
  exact gr 8 [0] [nL es_T_api_Visit.enc out,bT h0]
 ·obtain ⟨r,h1,h⟩:=Qaf h
  rcases Qah h with ⟨h2,h⟩|⟨h2,h⟩
  ·obtain ⟨h3,h⟩:=Qar h
   obtain rfl:=Option.some.inj h
   exact gr 17 [3] [nL es_T_api_Visit.enc out,bF h0,cC (QgE h1),nL Qaa.enc r,bT h2,oO (Eq.refl ([l].map es_T_api_Visit.enc).length),aO es_T_api_Visit.enc h3]
  ·obtain ⟨e0,h9,h⟩:=Qaf h
   refine gn 19 [1,2,3,4,9,10] [0,1] [nL es_T_api_Visit.enc out,bF h0,cC (QgE h1),nL Qaa.enc r,bF h2] (Qks Γ rv hself h9 ?_)
   obtain ⟨l2,rfl⟩:∃ x,x=e0:=⟨_,rfl⟩
   replace h:(some l2:Option (List (List Qaa)))=some _:=h
   obtain rfl:=Option.some.inj h
   exact gr 2 [0] []
theorem QgN:∀ fuel_,∀ {x0:Qac} {set_:Int} {l:List Qaa} {out:List (List Qaa)} {rv:List (List Qaa)},QaX fuel_ x0 set_ l out=some rv→AFn Tryz.prog 100 [.agg (Qac.enc x0),.one (lI set_),.one (lL 2 l Qaa.enc),.one (lO 0 1 out es_T_api_Visit.enc)] [bS 1 32 out es_T_api_Visit.enc] (one (lO 0 1 rv es_T_api_Visit.enc)) [oS 1 32 rv es_T_api_Visit.enc]
 | 0=>fun h=>nomatch h
 | fuel_+1=>fun h=>Qk4 (QgN fuel_) h
theorem Qmf:∀ {x0:Qac} {set_:Int} {l:List Qaa} {out:List (List Qaa)} {rv:List (List Qaa)},QfX x0 set_ l out=some rv→AFn Tryz.prog 100 [.agg (Qac.enc x0),.one (lI set_),.one (lL 2 l Qaa.enc),.one (lO 0 1 out es_T_api_Visit.enc)] [bS 1 32 out es_T_api_Visit.enc] (one (lO 0 1 rv es_T_api_Visit.enc)) [oS 1 32 rv es_T_api_Visit.enc]:=QgN _
def Qg3 (Γ:Gam) (rv:List (List Qaa)) (cf:Cf):Prop:=Go Tryz.prog Tryz.f100 [] Γ (one (lL 1 rv es_T_api_Visit.enc)) [] cf
def Qf8 (Γ:Gam) (rv:List (List Qaa)) (x0:Qac) (set_:Int) (l:List Qaa) (r:List Qaa) (l1:List (List Qaa)) (i:Int):Prop:=Qg3 Γ rv ⟨[.c 500,.l 500,.b 0,.c 63],⟨50,[vI 1 set_,vL 2 2 l Qaa.enc,vO 3 0 1 l1 es_T_api_Visit.enc,vP 4 1 6,vL 9 2 r Qaa.enc,vI 10 i],[oS 1 32 l1 es_T_api_Visit.enc,oX 6 30 (Qac.enc x0)]⟩⟩
def QfM (Γ:Gam) (rv:List (List Qaa)) (x0:Qac) (set_:Int) (l:List Qaa) (r:List Qaa) (l2:List (List Qaa)):Prop:=Qg3 Γ rv ⟨[.c 63],⟨50,[vO 3 0 1 l2 es_T_api_Visit.enc],[oS 1 32 l2 es_T_api_Visit.enc]⟩⟩
theorem QjD (Γ:Gam) (rv:List (List Qaa)) {x0 set_ l r} {s:List (List Qaa)×Int} {e:List (List Qaa)} (h:loopF (fun s=>QaR x0 set_ l r s.1 s.2) s=some e) (hD:QfM Γ rv x0 set_ l r e):Qf8 Γ rv x0 set_ l r s.1 s.2:=by
 refine Qau (C:=fun (s:List (List Qaa)×Int)=>Qf8 Γ rv x0 set_ l r s.1 s.2) (D:=fun (e:List (List Qaa))=>QfM Γ rv x0 set_ l r e) ?_ h hD
 clear h hD s e
 rintro ⟨l1,i⟩ z_ h hI hE
 replace h:QaR x0 set_ l r l1 i=_:=h
 unfold QaR at h
 rcases Qah h with ⟨h4,h⟩|⟨h4,h⟩
 ·obtain ⟨h5,h⟩:=Qar h
  obtain ⟨x1,h6,h⟩:=Qaf h
  obtain ⟨h7,h⟩:=Qar h
  obtain ⟨r1,h8,h⟩:=Qaf h
  exact gn 15 [1,2,3,4,9,10] [5,1] [nL Qaa.enc r,bT h4,aZ Qaa.enc h5,cE Qaa.enc h6,oO (Eq.refl ([x1].map Qaa.enc).length),aO Qaa.enc h7,hW 6,hH (.frz 4),rp 3 (oO (Eq.refl ((l++[x1]).map Qaa.enc).length)),cI [0] (Qmf h8)] (hI _ (oJ h))
 ·exact gn 5 [3] [0] [nL Qaa.enc r,bF h4] (hE _ (oJ h))
theorem QgM {x0 set_ l} {rv:List (List Qaa)} (h:Qct x0 set_ l=some rv):AFn Tryz.prog 100 [.agg (Qac.enc x0),.one (lI set_),.one (lL 2 l Qaa.enc),.one (.nils)] [] (one (lL 1 rv es_T_api_Visit.enc)) []:=by
 refine QaK Tryz.func100 (by kernel_rfl) (by kernel_rfl) (fun Γ=>?_)
 unfold Qct at h
 rcases Qah h with ⟨h0,h⟩|⟨h0,h⟩
 ·obtain rfl:=Option.some.inj h
  exact gr 8 [] [bT h0,hW 4,hH (.nilS 8 0 1)]
 ·obtain ⟨r,h1,h⟩:=Qaf h
  rcases Qah h with ⟨h2,h⟩|⟨h2,h⟩
  ·obtain ⟨h3,h⟩:=Qar h
   obtain rfl:=Option.some.inj h
   exact gr 17 [] [bF h0,cC (QgE h1),nL Qaa.enc r,bT h2,oO (Eq.refl ([l].map es_T_api_Visit.enc).length),aN (l:=([l]:List (List Qaa))) es_T_api_Visit.enc h3,hW 5,hH (.frz 2),rp 4 (oO (Eq.refl ([l].map es_T_api_Visit.enc).length))]
  ·obtain ⟨e0,h9,h⟩:=Qaf h
   refine gn 19 [1,2,3,4,9,10] [1,0] [bF h0,cC (QgE h1),nL Qaa.enc r,bF h2,hW 7,hH (.adopt 3 1 32)] (QjD Γ rv h9 ?_)
   obtain ⟨l2,rfl⟩:∃ x,x=e0:=⟨_,rfl⟩
   replace h:(some l2:Option (List (List Qaa)))=some _:=h
   obtain rfl:=Option.some.inj h
   exact gr 2 [] [hW 4,hH (.frz 0),rp 3 (eL l2 es_T_api_Visit.enc)]
def Qos (Γ:Gam) (rv:List (List Qaa)×Int) (cf:Cf):Prop:=Go Tryz.prog Tryz.f61 [] Γ (.tup [.one (lL 1 rv.1 es_T_api_Visit.enc),.one (lI rv.2)]) [] cf
def QlM (Γ:Gam) (rv:List (List Qaa)×Int) (x0:Qac) (set_:Int) (i:Int):Prop:=Qos Γ rv ⟨[.c 116,.l 116,.b 0,.c 15],⟨35,[vI 1 set_,vP 2 0 6,vI 6 i],[oX 6 30 (Qac.enc x0)]⟩⟩
def Qk1 (Γ:Gam) (rv:List (List Qaa)×Int) (x0:Qac) (set_:Int):Prop:=Qos Γ rv ⟨[.c 15],⟨35,[vI 1 set_,vP 2 0 6],[oX 6 30 (Qac.enc x0)]⟩⟩
theorem QpS (Γ:Gam) (rv:List (List Qaa)×Int) {x0 set_} {s:Int} {e:(Unit)⊕(List (List Qaa)×Int)} (h:loopF (fun s=>Qch x0 set_ s) s=some e) (hD:sel e (fun e=>Qk1 Γ rv x0 set_) (fun e=>e=rv)):QlM Γ rv x0 set_ s:=by
 refine Qau (C:=fun (s:Int)=>QlM Γ rv x0 set_ s) (D:=fun (e:(Unit)⊕(List (List Qaa)×Int))=>sel e (fun e=>Qk1 Γ rv x0 set_) (fun e=>e=rv)) ?_ h hD
 clear h hD s e
 intro i z_ h hI hE
 replace h:Qch x0 set_ i=_:=h
 unfold Qch at h
 rcases Qah h with ⟨h1,h⟩|⟨h1,h⟩
 ·obtain ⟨r,h2,h⟩:=Qaf h
  rcases Qah h with ⟨h3,h⟩|⟨h3,h⟩
  ·obtain rfl:=(hE _ (oJ h):_=rv)
   exact gr 12 [] [bT h1,cC (QaM h2),rp 4 hP,rp 2 (oI (r=true)),nL Qag.enc x0.orders,hP,hP,rp 2 (oI (r=true)),oR True (r=true),bT h3,hW 4,hH (.nilS 4 0 1)]
  ·exact gn 14 [1,2,6] [0] [bT h1,cC (QaM h2),rp 4 hP,rp 2 (oI (r=true)),nL Qag.enc x0.orders,hP,hP,rp 2 (oI (r=true)),oR True (r=true),bF h3] (hI _ (oJ h))
 ·exact gn 5 [1,2] [0] [bF h1] (hE _ (oJ h))
theorem QnC {x0 set_} {rv:List (List Qaa)×Int} (h:QeJ x0 set_=some rv):AFn Tryz.prog 61 [.agg (Qac.enc x0),.one (lI set_)] [] (.tup [.one (lL 1 rv.1 es_T_api_Visit.enc),.one (lI rv.2)]) []:=by
 refine QaK Tryz.func61 (by kernel_rfl) (by kernel_rfl) (fun Γ=>?_)
 unfold QeJ at h
 rcases Qah h with ⟨h0,h⟩|⟨h0,h⟩
 ·obtain rfl:=Option.some.inj h
  exact gr 8 [] [bT h0,hW 4,hH (.nilS 4 0 1)]
 ·obtain ⟨e0,h4,h⟩:=Qaf h
  refine gn 12 [1,2,6] [0] [bF h0] (QpS Γ rv h4 ?_)
  rcases e0 with e0|e0
  ·replace h:(bnd (QdR x0 set_) fun r1=>br r1 (bnd (Qct x0 set_ []) fun r2=>br (gtI (lenI r2) 8192) (some ([],4)) (some (r2,0))) (some ([],0)):Option (List (List Qaa)×Int))=some _:=h
   obtain ⟨r1,h5,h⟩:=Qaf h
   rcases Qah h with ⟨h6,h⟩|⟨h6,h⟩
   ·obtain ⟨r2,h7,h⟩:=Qaf h
    rcases Qah h with ⟨h8,h⟩|⟨h8,h⟩
    ·obtain rfl:=Option.some.inj h
     exact gr 13 [] [cC (Qgp h5),nF h6,cC (AFn.nilA 2 2 (QgM h7)),nL es_T_api_Visit.enc r2,bT h8,hW 4,hH (.nilS 4 0 1)]
    ·obtain rfl:=Option.some.inj h
     exact gr 14 [] [cC (Qgp h5),nF h6,cC (AFn.nilA 2 2 (QgM h7)),nL es_T_api_Visit.enc r2,bF h8]
   ·obtain rfl:=Option.some.inj h
    exact gr 6 [] [cC (Qgp h5),nT h6,hW 4,hH (.nilS 4 0 1)]
  ·obtain ⟨r3,rfl⟩:∃ x,x=e0:=⟨_,rfl⟩
   replace h:(some r3:Option (List (List Qaa)×Int))=some _:=h
   exact Option.some.inj h
def QgF (Γ:Gam) (rv:List Qad) (cf:Cf):Prop:=Go Tryz.prog Tryz.f62 [] Γ (one (lL 9 rv Qad.enc)) [] cf
def Qkk (Γ:Gam) (rv:List Qad) (x0:Qac) (visits:List Qaa) (cur:List Qad) (i:Int) (l:List Qad) (k:Int):Prop:=QgF Γ rv ⟨[.c 29844,.l 29844,.b 2,.c 3731,.b 1,.c 467,.l 116,.b 0,.c 15],⟨43,[vL 3 2 visits Qaa.enc,vP 4 0 6,vL 9 9 cur Qad.enc,vI 10 i,vO 11 1 9 l Qad.enc,vI 12 k],[oX 6 30 (Qac.enc x0),oS 9 49 l Qad.enc]⟩⟩
def Qjs (Γ:Gam) (rv:List Qad) (x0:Qac) (visits:List Qaa) (cur:List Qad) (i:Int) (l1:List Qad):Prop:=QgF Γ rv ⟨[.c 3731,.b 1,.c 467,.l 116,.b 0,.c 15],⟨43,[vL 3 2 visits Qaa.enc,vP 4 0 6,vI 10 i,vO 11 1 9 l1 Qad.enc],[oX 6 30 (Qac.enc x0),oS 9 49 l1 Qad.enc]⟩⟩
def Qkj (Γ:Gam) (rv:List Qad) (x0:Qac) (visits:List Qaa) (cur:List Qad) (i:Int):Prop:=QgF Γ rv ⟨[.c 116,.l 116,.b 0,.c 15],⟨43,[vL 3 2 visits Qaa.enc,vP 4 0 6,vL 9 9 cur Qad.enc,vI 10 i],[oX 6 30 (Qac.enc x0)]⟩⟩
def Qjr (Γ:Gam) (rv:List Qad) (x0:Qac) (visits:List Qaa) (cur1:List Qad):Prop:=QgF Γ rv ⟨[.c 15],⟨43,[vL 9 9 cur1 Qad.enc],[]⟩⟩
theorem Qoz (Γ:Gam) (rv:List Qad) {x0 visits cur i} {s:List Qad×Int} {e:List Qad} (h:loopF (fun s=>QbG x0 visits cur i s.1 s.2) s=some e) (hD:Qjs Γ rv x0 visits cur i e):Qkk Γ rv x0 visits cur i s.1 s.2:=by
 refine Qau (C:=fun (s:List Qad×Int)=>Qkk Γ rv x0 visits cur i s.1 s.2) (D:=fun (e:List Qad)=>Qjs Γ rv x0 visits cur i e) ?_ h hD
 clear h hD s e
 rintro ⟨l,k⟩ z_ h hI hE
 replace h:QbG x0 visits cur i l k=_:=h
 unfold QbG at h
 rcases Qah h with ⟨h2,h⟩|⟨h2,h⟩
 ·obtain ⟨x1,h3,h⟩:=Qaf h
  obtain ⟨x2,h4,h⟩:=Qaf h
  obtain ⟨r1,h5,h⟩:=Qaf h
  obtain ⟨h6,h⟩:=Qar h
  exact gn 11 [3,4,9,10,11,12] [0,2] [nL Qad.enc cur,bT h2,hH (.draw 11 []),cE Qad.enc h3,cE Qaa.enc h4,cC (QpU h5),aO Qad.enc h6] (hI _ (oJ h))
 ·exact gn 5 [3,4,10,11] [0,1] [nL Qad.enc cur,bF h2] (hE _ (oJ h))
theorem Qoy (Γ:Gam) (rv:List Qad) {x0 visits} {s:List Qad×Int} {e:List Qad} (h:loopF (fun s=>QbF x0 visits s.1 s.2) s=some e) (hD:Qjr Γ rv x0 visits e):Qkj Γ rv x0 visits s.1 s.2:=by
 refine Qau (C:=fun (s:List Qad×Int)=>Qkj Γ rv x0 visits s.1 s.2) (D:=fun (e:List Qad)=>Qjr Γ rv x0 visits e) ?_ h hD
 clear h hD s e
 rintro ⟨cur,i⟩ z_ h hI hE
 replace h:QbF x0 visits cur i=_:=h
 unfold QbF at h
 rcases Qah h with ⟨h1,h⟩|⟨h1,h⟩
 ·obtain ⟨e0,h7,h⟩:=Qaf h
  refine gn 14 [3,4,9,10,11,12] [0,1] [nL Qaa.enc visits,bT h1,hW 12,hH (.adopt 11 9 49)] (Qoz Γ rv h7 ?_)
  obtain ⟨l1,rfl⟩:∃ x,x=e0:=⟨_,rfl⟩
  replace h:(some (.inl (l1,(addK .i64 i 1))):Option ((List Qad×Int)⊕(List Qad)))=some _:=h
  exact gn 4 [3,4,9,10] [0] [hW 9,hH (.frz 1),rp 3 (eL l1 Qad.enc)] (hI _ (oJ h))
 ·exact gn 5 [9] [] [nL Qaa.enc visits,bF h1] (hE _ (oJ h))
theorem Qqr {x0 kind set_ visits} {rv:List Qad} (h:Qgt x0 kind set_ visits=some rv):AFn Tryz.prog 62 [.agg (Qac.enc x0),.one (lI kind),.one (lI set_),.one (lL 2 visits Qaa.enc)] [] (one (lL 9 rv Qad.enc)) []:=by
 refine QaK Tryz.func62 (by kernel_rfl) (by kernel_rfl) (fun Γ=>?_)
 unfold Qgt at h
 obtain ⟨r,h0,h⟩:=Qaf h
 obtain ⟨e1,h8,h⟩:=Qaf h
 refine gn 9 [3,4,9,10] [0] [cC (Qqq h0)] (Qoy Γ rv h8 ?_)
 obtain ⟨cur1,rfl⟩:∃ x,x=e1:=⟨_,rfl⟩
 replace h:(some cur1:Option (List Qad))=some _:=h
 obtain rfl:=Option.some.inj h
 exact gr 2 [] []
def Qc9 (Γ:Gam) (rv:List Qad×Int) (cf:Cf):Prop:=Go Tryz.prog Tryz.f21 [] Γ (.tup [.one (lL 9 rv.1 Qad.enc),.one (lI rv.2)]) [] cf
def Qk6 (Γ:Gam) (rv:List Qad×Int) (x0:Qac) (kind:Int) (set_:Int) (r:List (List Qaa)×Int) (l:List Qad) (i:Int) (r1:List Qad) (l1:List Qad) (k:Int):Prop:=Qc9 Γ rv ⟨[.c 129612,.l 129612,.b 2,.b 1,.c 4051,.l 1012,.b 0,.c 127],⟨132,[vI 1 kind,vI 2 set_,vP 3 0 6,vL 8 1 r.1 es_T_api_Visit.enc,vO 10 1 9 l1 Qad.enc,vI 11 i,vL 12 9 r1 Qad.enc,vI 13 k],[oX 6 30 (Qac.enc x0),oS 9 49 l1 Qad.enc]⟩⟩
def Qkd (Γ:Gam) (rv:List Qad×Int) (x0:Qac) (kind:Int) (set_:Int) (r:List (List Qaa)×Int) (l:List Qad) (i:Int) (r1:List Qad) (l2:List Qad):Prop:=Qc9 Γ rv ⟨[.b 1,.c 4051,.l 1012,.b 0,.c 127],⟨132,[vI 1 kind,vI 2 set_,vP 3 0 6,vL 8 1 r.1 es_T_api_Visit.enc,vO 10 1 9 l2 Qad.enc,vI 11 i],[oX 6 30 (Qac.enc x0),oS 9 49 l2 Qad.enc]⟩⟩
def Qk5 (Γ:Gam) (rv:List Qad×Int) (x0:Qac) (kind:Int) (set_:Int) (r:List (List Qaa)×Int) (l:List Qad) (i:Int):Prop:=Qc9 Γ rv ⟨[.c 1012,.l 1012,.b 0,.c 127],⟨132,[vI 1 kind,vI 2 set_,vP 3 0 6,vL 8 1 r.1 es_T_api_Visit.enc,vO 10 1 9 l Qad.enc,vI 11 i],[oX 6 30 (Qac.enc x0),oS 9 49 l Qad.enc]⟩⟩
def Qkc (Γ:Gam) (rv:List Qad×Int) (x0:Qac) (kind:Int) (set_:Int) (r:List (List Qaa)×Int) (l3:List Qad):Prop:=Qc9 Γ rv ⟨[.c 127],⟨132,[vO 10 0 9 l3 Qad.enc],[oS 9 49 l3 Qad.enc]⟩⟩
def Qk8 (Γ:Gam) (rv:List Qad×Int) (l3:List Qad) (l4:List Qad) (i1:Int) (good:Bool) (k1:Int):Prop:=Qc9 Γ rv ⟨[.c 1045652,.l 1045652,.b 6,.c 130707,.b 5,.c 16339,.l 4084,.b 4,.c 511],⟨132,[vO 10 0 9 l3 Qad.enc,vO 17 1 9 l4 Qad.enc,vI 18 i1,vB 19 good,vI 20 k1],[oS 9 49 l3 Qad.enc,oS 9 49 l4 Qad.enc]⟩⟩
def Qkf (Γ:Gam) (rv:List Qad×Int) (l3:List Qad) (l4:List Qad) (i1:Int) (good1:Bool):Prop:=Qc9 Γ rv ⟨[.c 130707,.b 5,.c 16339,.l 4084,.b 4,.c 511],⟨132,[vO 10 0 9 l3 Qad.enc,vO 17 1 9 l4 Qad.enc,vI 18 i1,vB 19 good1],[oS 9 49 l3 Qad.enc,oS 9 49 l4 Qad.enc]⟩⟩
def Qk7 (Γ:Gam) (rv:List Qad×Int) (l3:List Qad) (l4:List Qad) (i1:Int):Prop:=Qc9 Γ rv ⟨[.c 4084,.l 4084,.b 4,.c 511],⟨132,[vO 10 0 9 l3 Qad.enc,vO 17 1 9 l4 Qad.enc,vI 18 i1],[oS 9 49 l3 Qad.enc,oS 9 49 l4 Qad.enc]⟩⟩
def Qke (Γ:Gam) (rv:List Qad×Int) (l3:List Qad) (l5:List Qad):Prop:=Qc9 Γ rv ⟨[.c 511],⟨132,[vO 17 0 9 l5 Qad.enc],[oS 9 49 l5 Qad.enc]⟩⟩
theorem Qpe (Γ:Gam) (rv:List Qad×Int) {x0 kind set_ r l i r1} {s:List Qad×Int} {e:List Qad} (h:loopF (fun s=>QbU x0 kind set_ r l i r1 s.1 s.2) s=some e) (hD:Qkd Γ rv x0 kind set_ r l i r1 e):Qk6 Γ rv x0 kind set_ r l i r1 s.1 s.2:=by
 refine Qau (C:=fun (s:List Qad×Int)=>Qk6 Γ rv x0 kind set_ r l i r1 s.1 s.2) (D:=fun (e:List Qad)=>Qkd Γ rv x0 kind set_ r l i r1 e) ?_ h hD
 clear h hD s e
 rintro ⟨l1,k⟩ z_ h hI hE
 replace h:QbU x0 kind set_ r l i r1 l1 k=_:=h
 unfold QbU at h
 rcases Qah h with ⟨h6,h⟩|⟨h6,h⟩
 ·obtain ⟨x2,h7,h⟩:=Qaf h
  obtain ⟨r2,h8,h⟩:=Qaf h
  rcases Qah h with ⟨h9,h⟩|⟨h9,h⟩
  ·obtain ⟨h10,h⟩:=Qar h
   exact gn 16 [1,2,3,8,10,11,12,13] [0,3] [nL Qad.enc r1,bT h6,hH (.draw 13 []),cE Qad.enc h7,cC (QlQ h8),bT h9,cE Qad.enc h7,oO (Eq.refl ([x2].map Qad.enc).length),aO Qad.enc h10] (hI _ (oJ h))
  ·exact gn 16 [1,2,3,8,10,11,12,13] [0,1] [nL Qad.enc r1,bT h6,hH (.draw 13 []),cE Qad.enc h7,cC (QlQ h8),bF h9] (hI _ (oJ h))
 ·exact gn 5 [1,2,3,8,10,11] [0,1] [nL Qad.enc r1,bF h6] (hE _ (oJ h))
theorem Qpd (Γ:Gam) (rv:List Qad×Int) {x0 kind set_ r} {s:List Qad×Int} {e:List Qad} (h:loopF (fun s=>QbT x0 kind set_ r s.1 s.2) s=some e) (hD:Qkc Γ rv x0 kind set_ r e):Qk5 Γ rv x0 kind set_ r s.1 s.2:=by
 refine Qau (C:=fun (s:List Qad×Int)=>Qk5 Γ rv x0 kind set_ r s.1 s.2) (D:=fun (e:List Qad)=>Qkc Γ rv x0 kind set_ r e) ?_ h hD
 clear h hD s e
 rintro ⟨l,i⟩ z_ h hI hE
 replace h:QbT x0 kind set_ r l i=_:=h
 unfold QbT at h
 rcases Qah h with ⟨h3,h⟩|⟨h3,h⟩
 ·obtain ⟨x1,h4,h⟩:=Qaf h
  obtain ⟨r1,h5,h⟩:=Qaf h
  obtain ⟨e0,h11,h⟩:=Qaf h
  refine gn 13 [1,2,3,8,10,11,12,13] [0,1] [nL es_T_api_Visit.enc r.1,bT h3,hH (.draw 9 []),cE es_T_api_Visit.enc h4,cC (Qqr h5)] (Qpe Γ rv h11 ?_)
  obtain ⟨l2,rfl⟩:∃ x,x=e0:=⟨_,rfl⟩
  replace h:(some (.inl (l2,(addK .i64 i 1))):Option ((List Qad×Int)⊕(List Qad)))=some _:=h
  exact gn 3 [1,2,3,8,10,11] [0,1] [] (hI _ (oJ h))
 ·exact gn 5 [10] [1] [nL es_T_api_Visit.enc r.1,bF h3] (hE _ (oJ h))
theorem Qpg (Γ:Gam) (rv:List Qad×Int) {l3 l4 i1} {s:Bool×Int} {e:Bool} (h:loopF (fun s=>QcO l3 l4 i1 s.1 s.2) s=some e) (hD:Qkf Γ rv l3 l4 i1 e):Qk8 Γ rv l3 l4 i1 s.1 s.2:=by
 refine Qau (C:=fun (s:Bool×Int)=>Qk8 Γ rv l3 l4 i1 s.1 s.2) (D:=fun (e:Bool)=>Qkf Γ rv l3 l4 i1 e) ?_ h hD
 clear h hD s e
 rintro ⟨good,k1⟩ z_ h hI hE
 replace h:QcO l3 l4 i1 good k1=_:=h
 unfold QcO at h
 rcases Qah h with ⟨h14,h⟩|⟨h14,h⟩
 ·rcases Qah h with ⟨h15,h⟩|⟨h15,h⟩
  ·exact gn 11 [10,17,18,19,20] [0,1] [nL Qad.enc l3,hP,hP,oR True ((ltI k1 (lenI l3))=true),bT h14,hH (.draw 32 []),rp 11 (bT h15),rp 4 tT,rp 9 kF,tT,tT] (hI _ (oJ h))
  ·obtain ⟨x3,h16,h⟩:=Qaf h
   obtain ⟨x4,h17,h⟩:=Qaf h
   obtain ⟨r3,h18,h⟩:=Qaf h
   rcases Qah h with ⟨h19,h⟩|⟨h19,h⟩
   ·rcases Qah h with ⟨h20,h⟩|⟨h20,h⟩
    ·obtain ⟨r4,h21,h⟩:=Qaf h
     exact gn 11 [10,17,18,19,20] [0,1] [nL Qad.enc l3,hP,hP,oR True ((ltI k1 (lenI l3))=true),bT h14,hH (.draw 32 []),rp 3 (bF h15),oO (getLo h16),oO (getHi Qad.enc h16),bF h15,rE Qad.enc h16,rp 3 (bF h15),oO (getLo h17),oO (getHi Qad.enc h17),bF h15,rE Qad.enc h17,bF h15,cC (Qet h18),rp 2 (bF h15),rp 4 (nF h19),rp 3 (bT h20),oO (getLo h17),oO (getHi Qad.enc h17),bT h20,rE Qad.enc h17,rp 3 (bT h20),oO (getLo h16),oO (getHi Qad.enc h16),bT h20,rE Qad.enc h16,bT h20,cC (Qet h21),nF h19,bT h20,nF h19] (hI _ (oJ h))
    ·exact gn 11 [10,17,18,19,20] [0,1] [nL Qad.enc l3,hP,hP,oR True ((ltI k1 (lenI l3))=true),bT h14,hH (.draw 32 []),rp 3 (bF h15),oO (getLo h16),oO (getHi Qad.enc h16),bF h15,rE Qad.enc h16,rp 3 (bF h15),oO (getLo h17),oO (getHi Qad.enc h17),bF h15,rE Qad.enc h17,bF h15,cC (Qet h18),rp 2 (bF h15),rp 4 (nF h19),rp 9 (bF h20),nF h19,bF h20,nF h19] (hI _ (oJ h))
   ·exact gn 11 [10,17,18,19,20] [0,1] [nL Qad.enc l3,hP,hP,oR True ((ltI k1 (lenI l3))=true),bT h14,hH (.draw 32 []),rp 3 (bF h15),oO (getLo h16),oO (getHi Qad.enc h16),bF h15,rE Qad.enc h16,rp 3 (bF h15),oO (getLo h17),oO (getHi Qad.enc h17),bF h15,rE Qad.enc h17,bF h15,cC (Qet h18),rp 2 (bF h15),rp 4 (nT h19),rp 9 kF,rp 2 (nT h19)] (hI _ (oJ h))
 ·exact gn 5 [10,17,18,19] [0,1] [nL Qad.enc l3,hP,hP,oR True ((ltI k1 (lenI l3))=true),bF h14] (hE _ (oJ h))
theorem Qpf (Γ:Gam) (rv:List Qad×Int) {l3} {s:List Qad×Int} {e:List Qad} (h:loopF (fun s=>QbA l3 s.1 s.2) s=some e) (hD:Qke Γ rv l3 e):Qk7 Γ rv l3 s.1 s.2:=by
 refine Qau (C:=fun (s:List Qad×Int)=>Qk7 Γ rv l3 s.1 s.2) (D:=fun (e:List Qad)=>Qke Γ rv l3 e) ?_ h hD
 clear h hD s e
 rintro ⟨l4,i1⟩ z_ h hI hE
 replace h:QbA l3 l4 i1=_:=h
 unfold QbA at h
 rcases Qah h with ⟨h13,h⟩|⟨h13,h⟩
 ·obtain ⟨e2,h22,h⟩:=Qaf h
  refine gn 14 [10,17,18,19,20] [0,1] [nL Qad.enc l3,bT h13] (Qpg Γ rv h22 ?_)
  obtain ⟨good1,rfl⟩:∃ x,x=e2:=⟨_,rfl⟩
  replace h:(br good1 (bnd (getI l3 i1) fun x5=>chk (okN (l4++[x5]).length 104) (some (.inl ((l4++[x5]),(addK .i64 i1 1))))) (some (.inl (l4,(addK .i64 i1 1)))):Option ((List Qad×Int)⊕(List Qad)))=some _:=h
  rcases Qah h with ⟨h23,h⟩|⟨h23,h⟩
  ·obtain ⟨x5,h24,h⟩:=Qaf h
   obtain ⟨h25,h⟩:=Qar h
   exact gn 7 [10,17,18] [0,3] [bT h23,oO (getLo h24),oO (getHi Qad.enc h24),rE Qad.enc h24,oO (Eq.refl ([x5].map Qad.enc).length),aO Qad.enc h25] (hI _ (oJ h))
  ·exact gn 7 [10,17,18] [0,1] [bF h23] (hI _ (oJ h))
 ·exact gn 5 [17] [1] [nL Qad.enc l3,bF h13] (hE _ (oJ h))
theorem QiE {x0 kind set_} {rv:List Qad×Int} (h:Qd8 x0 kind set_=some rv):AFn Tryz.prog 21 [.agg (Qac.enc x0),.one (lI kind),.one (lI set_)] [] (.tup [.one (lL 9 rv.1 Qad.enc),.one (lI rv.2)]) []:=by
 refine QaK Tryz.func21 (by kernel_rfl) (by kernel_rfl) (fun Γ=>?_)
 unfold Qd8 at h
 rcases Qah h with ⟨h0,h⟩|⟨h0,h⟩
 ·obtain rfl:=Option.some.inj h
  exact gr 8 [] [rp 4 hP,rp 2 (oI ((ltI kind 0)=false)),nL Qai.enc x0.types,hP,hP,rp 2 (oI ((ltI kind 0)=false)),oR True ((ltI kind 0)=false),bT h0,hW 4,hH (.nilS 6 0 9)]
 ·obtain ⟨r,h1,h⟩:=Qaf h
  rcases Qah h with ⟨h2,h⟩|⟨h2,h⟩
  ·obtain rfl:=Option.some.inj h
   exact gr 15 [] [rp 4 hP,rp 2 (oI ((ltI kind 0)=false)),nL Qai.enc x0.types,hP,hP,rp 2 (oI ((ltI kind 0)=false)),oR True ((ltI kind 0)=false),bF h0,cC (QnC h1),bT h2,hW 5,hH (.nilS 6 0 9)]
  ·obtain ⟨e1,h12,h⟩:=Qaf h
   refine gn 21 [1,2,3,8,10,11] [0,1] [rp 4 hP,rp 2 (oI ((ltI kind 0)=false)),nL Qai.enc x0.types,hP,hP,rp 2 (oI ((ltI kind 0)=false)),oR True ((ltI kind 0)=false),bF h0,cC (QnC h1),bF h2,hW 10,hH (.adopt 10 9 49)] (Qpd Γ rv h12 ?_)
   obtain ⟨l3,rfl⟩:∃ x,x=e1:=⟨_,rfl⟩
   replace h:(bnd (loopF (fun s=>QbA l3 s.1 s.2) ([],0)) (fun l5=>some (l5,0)):Option (List Qad×Int))=some _:=h
   obtain ⟨e3,h26,h⟩:=Qaf h
   refine gn 7 [10,17,18] [0,1] [hW 9,hH (.adopt 17 9 49)] (Qpf Γ rv h26 ?_)
   obtain ⟨l5,rfl⟩:∃ x,x=e3:=⟨_,rfl⟩
   replace h:(some (l5,0):Option (List Qad×Int))=some _:=h
   obtain rfl:=Option.some.inj h
   exact gr 2 [] [hW 5,hH (.frz 0),rp 3 (eL l5 Qad.enc)]
def QeA (Γ:Gam) (rv:Bool) (cf:Cf):Prop:=Go Tryz.prog Tryz.f5 [] Γ (one (.bool rv)) [] cf
def Qhl (Γ:Gam) (rv:Bool) (r4:List Qae×Int) (i:Int) (k:Int):Prop:=QeA Γ rv ⟨[.c 64804,.l 64804,.b 2,.b 1,.c 4051,.l 1012,.b 0,.c 127],⟨76,[vL 7 9 r4.1 Qae.enc,vI 11 i,vI 12 k],[]⟩⟩
def QgW (Γ:Gam) (rv:Bool) (r4:List Qae×Int) (i:Int):Prop:=QeA Γ rv ⟨[.b 1,.c 4051,.l 1012,.b 0,.c 127],⟨76,[vL 7 9 r4.1 Qae.enc,vI 11 i],[]⟩⟩
def Qhk (Γ:Gam) (rv:Bool) (r4:List Qae×Int) (i:Int):Prop:=QeA Γ rv ⟨[.c 1012,.l 1012,.b 0,.c 127],⟨76,[vL 7 9 r4.1 Qae.enc,vI 11 i],[]⟩⟩
def QgV (Γ:Gam) (rv:Bool) (r4:List Qae×Int):Prop:=QeA Γ rv ⟨[.c 127],⟨76,[],[]⟩⟩
theorem Qmd (Γ:Gam) (rv:Bool) {r4 i} {s:Int} {e:(Unit)⊕(Bool)} (h:loopF (fun s=>Qba r4 i s) s=some e) (hD:sel e (fun e=>QgW Γ rv r4 i) (fun e=>e=rv)):Qhl Γ rv r4 i s:=by
 refine Qau (C:=fun (s:Int)=>Qhl Γ rv r4 i s) (D:=fun (e:(Unit)⊕(Bool))=>sel e (fun e=>QgW Γ rv r4 i) (fun e=>e=rv)) ?_ h hD
 clear h hD s e
 intro k z_ h hI hE
 replace h:Qba r4 i k=_:=h
 unfold Qba at h
 rcases Qah h with ⟨h12,h⟩|⟨h12,h⟩
 ·rcases Qah h with ⟨h13,h⟩|⟨h13,h⟩
  ·obtain ⟨x1,h14,h⟩:=Qaf h
   obtain ⟨x2,h15,h⟩:=Qaf h
   obtain ⟨r7,h16,h⟩:=Qaf h
   rcases Qah h with ⟨h17,h⟩|⟨h17,h⟩
   ·obtain rfl:=(hE _ (oJ h):_=rv)
    exact gr 12 [] [nL Qae.enc r4.1,bT h12,hH (.draw 14 []),rp 3 (bT h13),cE Qae.enc h14,rp 4 (bT h13),cE Qae.enc h15,rp 2 (bT h13),cC (Qeb h16),bT h13,bT h17]
   ·exact gn 14 [7,11,12] [] [nL Qae.enc r4.1,bT h12,hH (.draw 14 []),rp 3 (bT h13),cE Qae.enc h14,rp 4 (bT h13),cE Qae.enc h15,rp 2 (bT h13),cC (Qeb h16),bT h13,bF h17] (hI _ (oJ h))
  ·exact gn 14 [7,11,12] [] [nL Qae.enc r4.1,bT h12,hH (.draw 14 []),rp 10 (bF h13),fF] (hI _ (oJ h))
 ·exact gn 5 [7,11] [] [nL Qae.enc r4.1,bF h12] (hE _ (oJ h))
theorem Qmc (Γ:Gam) (rv:Bool) {r4} {s:Int} {e:(Unit)⊕(Bool)} (h:loopF (fun s=>Qa4 r4 s) s=some e) (hD:sel e (fun e=>QgV Γ rv r4) (fun e=>e=rv)):Qhk Γ rv r4 s:=by
 refine Qau (C:=fun (s:Int)=>Qhk Γ rv r4 s) (D:=fun (e:(Unit)⊕(Bool))=>sel e (fun e=>QgV Γ rv r4) (fun e=>e=rv)) ?_ h hD
 clear h hD s e
 intro i z_ h hI hE
 replace h:Qa4 r4 i=_:=h
 unfold Qa4 at h
 rcases Qah h with ⟨h11,h⟩|⟨h11,h⟩
 ·obtain ⟨e0,h18,h⟩:=Qaf h
  refine gn 11 [7,11,12] [] [nL Qae.enc r4.1,bT h11] (Qmd Γ rv h18 ?_)
  rcases e0 with e0|e0
  ·replace h:(some (.inl (addK .i64 i 1)):Option ((Int)⊕((Unit)⊕(Bool))))=some _:=h
   exact gn 3 [7,11] [] [] (hI _ (oJ h))
  ·obtain ⟨r8,rfl⟩:∃ x,x=e0:=⟨_,rfl⟩
   replace h:(some (.inr (.inr r8)):Option ((Int)⊕((Unit)⊕(Bool))))=some _:=h
   exact (hE _ (oJ h):_=rv)
 ·exact gn 5 [] [] [nL Qae.enc r4.1,bF h11] (hE _ (oJ h))
theorem QnP {x0 kind set_} {rv:Bool} (h:Qfq x0 kind set_=some rv):AFn Tryz.prog 5 [.agg (Qac.enc x0),.one (lI kind),.one (lI set_)] [] (one (.bool rv)) []:=by
 refine QaK Tryz.func5 (by kernel_rfl) (by kernel_rfl) (fun Γ=>?_)
 unfold Qfq at h
 obtain ⟨r,h0,h⟩:=Qaf h
 rcases Qah h with ⟨h1,h⟩|⟨h1,h⟩
 ·obtain ⟨r1,h2,h⟩:=Qaf h
  obtain rfl:=Option.some.inj h
  exact gr 8 [] [cC (QfH h0),hP,hP,hP,oI ((!r)=false),oR True ((!r)=false),rp 4 (bT h1),tT,cC (QhH h2)]
 ·obtain ⟨r2,h3,h⟩:=Qaf h
  rcases Qah h with ⟨h4,h⟩|⟨h4,h⟩
  ·obtain ⟨r3,h5,h⟩:=Qaf h
   obtain rfl:=Option.some.inj h
   exact gr 8 [] [cC (QfH h0),hP,hP,hP,oI ((!r)=false),oR True ((!r)=false),bF h1,bF h1,cC (QgA h3),bF h1,bF h1,bT h4,cC (QhH h5)]
  ·obtain ⟨r4,h6,h⟩:=Qaf h
   obtain ⟨r5,h7,h⟩:=Qaf h
   rcases Qah h with ⟨h8,h⟩|⟨h8,h⟩
   ·obtain rfl:=Option.some.inj h
    exact gr 17 [] [cC (QfH h0),hP,hP,hP,oI ((!r)=false),oR True ((!r)=false),bF h1,bF h1,cC (QgA h3),bF h1,bF h1,bF h4,cC (QlA h6),cC (QiE h7),rp 5 (bT h8),tT]
   ·obtain ⟨r6,h9,h⟩:=Qaf h
    rcases Qah h with ⟨h10,h⟩|⟨h10,h⟩
    ·obtain ⟨e1,h19,h⟩:=Qaf h
     refine gn 21 [7,11] [] [cC (QfH h0),hP,hP,hP,oI ((!r)=false),oR True ((!r)=false),bF h1,bF h1,cC (QgA h3),bF h1,bF h1,bF h4,cC (QlA h6),cC (QiE h7),rp 3 (bF h8),cC (Qmr h9),bF h8,bF h8,nF h10] (Qmc Γ rv h19 ?_)
     rcases e1 with e1|e1
     ·replace h:(bnd (Qel) fun r9=>some r9:Option Bool)=some _:=h
      obtain ⟨r9,h20,h⟩:=Qaf h
      obtain rfl:=Option.some.inj h
      exact gr 2 [] [cC (QhH h20)]
     ·obtain ⟨r10,rfl⟩:∃ x,x=e1:=⟨_,rfl⟩
      replace h:(some r10:Option Bool)=some _:=h
      exact Option.some.inj h
    ·obtain rfl:=Option.some.inj h
     exact gr 17 [] [cC (QfH h0),hP,hP,hP,oI ((!r)=false),oR True ((!r)=false),bF h1,bF h1,cC (QgA h3),bF h1,bF h1,bF h4,cC (QlA h6),cC (QiE h7),rp 3 (bF h8),cC (Qmr h9),bF h8,bF h8,nT h10]
end Go.Proofs.YtfjiafgldchinaaGreatDoor
