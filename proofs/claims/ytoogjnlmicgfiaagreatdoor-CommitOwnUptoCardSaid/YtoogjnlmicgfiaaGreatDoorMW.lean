/- Part MW of the proof: texts W2. -/
import Derived.Test.YtoogjnlmicgfiaaGreatDoorMV
import Derived.Test.YtoogjnlmicgfiaaGreatDoorProg
namespace Go.Proofs.YtoogjnlmicgfiaaGreatDoor
set_option linter.unusedVariables false
set_option linter.unusedSectionVars false
set_option linter.unusedSimpArgs false
set_option maxHeartbeats 4000000
set_option maxRecDepth 100000
def Qoz (Γ:Gam) (rv:Bool) (cf:Cf):Prop:=Go Tryz.prog Tryz.f13 [] Γ (one (.bool rv)) [] cf
def Qmg (Γ:Gam) (rv:Bool) (p:Qap) (v:Int):Prop:=Qoz Γ rv ⟨[.c 116,.l 116,.b 0,.c 15],⟨20,[vL 10 4 p.routes Qab.enc,vI 11 (lenI p.routes),vI 12 v],[]⟩⟩
def QlC (Γ:Gam) (rv:Bool) (p:Qap):Prop:=Qoz Γ rv ⟨[.c 15],⟨20,[],[]⟩⟩
theorem QpY (Γ:Gam) (rv:Bool) {p} {s:Int} {e:(Unit) ⊕ (Bool)} (h:loopF (fun s=>QcV p s) s = some e) (hD:sel e (fun e=>QlC Γ rv p) (fun e=>e = rv)):Qmg Γ rv p s:=by
 refine QaI (C:=fun (s:Int)=>Qmg Γ rv p s) (D:=fun (e:(Unit) ⊕ (Bool))=>sel e (fun e=>QlC Γ rv p) (fun e=>e = rv)) ?_ h hD
 clear h hD s e
 intro v z_ h hI hE
 replace h:QcV p v = _:=h
 unfold QcV at h
 rcases Qai h with ⟨h1,h⟩|⟨h1,h⟩
 ·obtain ⟨x0,h2,h⟩:=Qae h
  obtain ⟨r,h3,h⟩:=Qae h
  rcases Qai h with ⟨h4,h⟩|⟨h4,h⟩
  ·exact gn 16 [10,11,12] [] [bT h1,cE Qab.enc h2,cC (Qmh h3),nF h4] (hI _ (oJ h))
  ·obtain rfl:=(hE _ (oJ h):_ = rv)
   exact gr 14 [] [bT h1,cE Qab.enc h2,cC (Qmh h3),nT h4]
 ·exact gn 5 [] [] [bF h1] (hE _ (oJ h))
theorem Qko {p} {rv:Bool} (h:Qio p = some rv):AFn Tryz.prog 13 [.agg (Qap.enc p)] [] (one (.bool rv)) []:=by
 refine QaS Tryz.func13 (by kernel_rfl) (by kernel_rfl) (fun Γ=>?_)
 unfold Qio at h
 rcases Qai h with ⟨h0,h⟩|⟨h0,h⟩
 ·obtain rfl:=Option.some.inj h
  exact gr 8 [] [nL Qab.enc p.routes,bT h0]
 ·obtain ⟨e0,h5,h⟩:=Qae h
  refine gn 12 [10,11,12] [] [nL Qab.enc p.routes,bF h0,nL Qab.enc p.routes] (QpY Γ rv h5 ?_)
  rcases e0 with e0|e0
  ·replace h:(some true:Option Bool) = some _:=h
   obtain rfl:=Option.some.inj h
   exact gr 2 [] []
  ·obtain ⟨r1,rfl⟩:∃ x,x = e0:=⟨_,rfl⟩
   replace h:(some r1:Option Bool) = some _:=h
   exact Option.some.inj h
def QcR (Γ:Gam) (rv:Bool) (cf:Cf):Prop:=Go Tryz.prog Tryz.f16 [] Γ (one (.bool rv)) [] cf
def QhC (Γ:Gam) (rv:Bool) (a:List Qab) (b:List Qab) (i:Int) (k:Int):Prop:=QcR Γ rv ⟨[.c 29844,.l 29844,.b 2,.c 3731,.b 1,.c 467,.l 116,.b 0,.c 15],⟨127,[vL 0 4 a Qab.enc,vL 1 4 b Qab.enc,vI 5 i,vI 6 k],[]⟩⟩
def Qhk (Γ:Gam) (rv:Bool) (a:List Qab) (b:List Qab) (i:Int):Prop:=QcR Γ rv ⟨[.c 3731,.b 1,.c 467,.l 116,.b 0,.c 15],⟨127,[vL 0 4 a Qab.enc,vL 1 4 b Qab.enc,vI 5 i],[]⟩⟩
def QhD (Γ:Gam) (rv:Bool) (a:List Qab) (b:List Qab) (i:Int) (k1:Int):Prop:=QcR Γ rv ⟨[.c 29852,.l 29852,.b 4,.b 1,.c 467,.l 116,.b 0,.c 15],⟨127,[vL 0 4 a Qab.enc,vL 1 4 b Qab.enc,vI 5 i,vI 7 k1],[]⟩⟩
def Qhl (Γ:Gam) (rv:Bool) (a:List Qab) (b:List Qab) (i:Int):Prop:=QcR Γ rv ⟨[.b 1,.c 467,.l 116,.b 0,.c 15],⟨127,[vL 0 4 a Qab.enc,vL 1 4 b Qab.enc,vI 5 i],[]⟩⟩
def QhB (Γ:Gam) (rv:Bool) (a:List Qab) (b:List Qab) (i:Int):Prop:=QcR Γ rv ⟨[.c 116,.l 116,.b 0,.c 15],⟨127,[vL 0 4 a Qab.enc,vL 1 4 b Qab.enc,vI 5 i],[]⟩⟩
def Qhj (Γ:Gam) (rv:Bool) (a:List Qab) (b:List Qab):Prop:=QcR Γ rv ⟨[.c 15],⟨127,[],[]⟩⟩
theorem Ql9 (Γ:Gam) (rv:Bool) {a b i} {s:Int} {e:(Unit) ⊕ (Bool)} (h:loopF (fun s=>Qbr a b i s) s = some e) (hD:sel e (fun e=>Qhk Γ rv a b i) (fun e=>e = rv)):QhC Γ rv a b i s:=by
 refine QaI (C:=fun (s:Int)=>QhC Γ rv a b i s) (D:=fun (e:(Unit) ⊕ (Bool))=>sel e (fun e=>Qhk Γ rv a b i) (fun e=>e = rv)) ?_ h hD
 clear h hD s e
 intro k z_ h hI hE
 replace h:Qbr a b i k = _:=h
 unfold Qbr at h
 obtain ⟨x2,h8,h⟩:=Qae h
 rcases Qai h with ⟨h9,h⟩|⟨h9,h⟩
 ·obtain ⟨x3,h10,h⟩:=Qae h
  obtain ⟨x4,h11,h⟩:=Qae h
  obtain ⟨x5,h12,h⟩:=Qae h
  rcases Qai h with ⟨h13,h⟩|⟨h13,h⟩
  ·exact gn 14 [0,1,5,6] [] [cE Qab.enc h8,nL Qac.enc x2.visits,bT h9,hH (.draw 17 []),cE Qab.enc h8,cE Qac.enc h10,cE Qab.enc h11,cE Qac.enc h12,nF h13] (hI _ (oJ h))
  ·obtain rfl:=(hE _ (oJ h):_ = rv)
   exact gr 12 [] [cE Qab.enc h8,nL Qac.enc x2.visits,bT h9,hH (.draw 17 []),cE Qab.enc h8,cE Qac.enc h10,cE Qab.enc h11,cE Qac.enc h12,nT h13]
 ·exact gn 5 [0,1,5] [] [cE Qab.enc h8,nL Qac.enc x2.visits,bF h9] (hE _ (oJ h))
theorem Qma (Γ:Gam) (rv:Bool) {a b i} {s:Int} {e:(Unit) ⊕ (Bool)} (h:loopF (fun s=>Qbi a b i s) s = some e) (hD:sel e (fun e=>Qhl Γ rv a b i) (fun e=>e = rv)):QhD Γ rv a b i s:=by
 refine QaI (C:=fun (s:Int)=>QhD Γ rv a b i s) (D:=fun (e:(Unit) ⊕ (Bool))=>sel e (fun e=>Qhl Γ rv a b i) (fun e=>e = rv)) ?_ h hD
 clear h hD s e
 intro k1 z_ h hI hE
 replace h:Qbi a b i k1 = _:=h
 unfold Qbi at h
 obtain ⟨x6,h15,h⟩:=Qae h
 rcases Qai h with ⟨h16,h⟩|⟨h16,h⟩
 ·obtain ⟨x7,h17,h⟩:=Qae h
  obtain ⟨x8,h18,h⟩:=Qae h
  obtain ⟨x9,h19,h⟩:=Qae h
  rcases Qai h with ⟨h20,h⟩|⟨h20,h⟩
  ·exact gn 14 [0,1,5,7] [] [cE Qab.enc h15,nL Qa5 x6.rests,bT h16,hH (.draw 17 []),cE Qab.enc h15,cE Qa5 h17,cE Qab.enc h18,cE Qa5 h19,nF h20] (hI _ (oJ h))
  ·obtain rfl:=(hE _ (oJ h):_ = rv)
   exact gr 12 [] [cE Qab.enc h15,nL Qa5 x6.rests,bT h16,hH (.draw 17 []),cE Qab.enc h15,cE Qa5 h17,cE Qab.enc h18,cE Qa5 h19,nT h20]
 ·exact gn 5 [0,1,5] [] [cE Qab.enc h15,nL Qa5 x6.rests,bF h16] (hE _ (oJ h))
theorem Ql8 (Γ:Gam) (rv:Bool) {a b} {s:Int} {e:(Unit) ⊕ (Bool)} (h:loopF (fun s=>Qbq a b s) s = some e) (hD:sel e (fun e=>Qhj Γ rv a b) (fun e=>e = rv)):QhB Γ rv a b s:=by
 refine QaI (C:=fun (s:Int)=>QhB Γ rv a b s) (D:=fun (e:(Unit) ⊕ (Bool))=>sel e (fun e=>Qhj Γ rv a b) (fun e=>e = rv)) ?_ h hD
 clear h hD s e
 intro i z_ h hI hE
 replace h:Qbq a b i = _:=h
 unfold Qbq at h
 rcases Qai h with ⟨h1,h⟩|⟨h1,h⟩
 ·obtain ⟨x0,h2,h⟩:=Qae h
  obtain ⟨x1,h3,h⟩:=Qae h
  rcases Qai h with ⟨h4,h⟩|⟨h4,h⟩
  ·obtain rfl:=(hE _ (oJ h):_ = rv)
   exact gr 13 [] [nL Qab.enc a,bT h1,hH (.draw 54 []),cE Qab.enc h2,cE Qab.enc h3,rp 12 (bT h4),rp 29 tT]
  ·rcases Qai h with ⟨h5,h⟩|⟨h5,h⟩
   ·obtain rfl:=(hE _ (oJ h):_ = rv)
    exact gr 13 [] [nL Qab.enc a,bT h1,hH (.draw 54 []),cE Qab.enc h2,cE Qab.enc h3,rp 3 (bF h4),cE Qab.enc h2,rp 5 (bF h4),cE Qab.enc h3,rp 4 (bF h4),rp 14 (bT h5),rp 15 tT]
   ·rcases Qai h with ⟨h6,h⟩|⟨h6,h⟩
    ·obtain rfl:=(hE _ (oJ h):_ = rv)
     exact gr 13 [] [nL Qab.enc a,bT h1,hH (.draw 54 []),cE Qab.enc h2,cE Qab.enc h3,rp 3 (bF h4),cE Qab.enc h2,rp 5 (bF h4),cE Qab.enc h3,rp 4 (bF h4),rp 3 (bF h5),cE Qab.enc h2,rp 3 (bF h5),nL Qac.enc x0.visits,rp 3 (bF h5),cE Qab.enc h3,rp 3 (bF h5),nL Qac.enc x1.visits,bF h5,bF h5,rp 14 (bT h6),tT]
    ·rcases Qai h with ⟨h7,h⟩|⟨h7,h⟩
     ·obtain rfl:=(hE _ (oJ h):_ = rv)
      exact gr 13 [] [nL Qab.enc a,bT h1,hH (.draw 54 []),cE Qab.enc h2,cE Qab.enc h3,rp 3 (bF h4),cE Qab.enc h2,rp 5 (bF h4),cE Qab.enc h3,rp 4 (bF h4),rp 3 (bF h5),cE Qab.enc h2,rp 3 (bF h5),nL Qac.enc x0.visits,rp 3 (bF h5),cE Qab.enc h3,rp 3 (bF h5),nL Qac.enc x1.visits,bF h5,bF h5,rp 3 (bF h6),cE Qab.enc h2,rp 3 (bF h6),nL Qa5 x0.rests,rp 3 (bF h6),cE Qab.enc h3,rp 3 (bF h6),nL Qa5 x1.rests,bF h6,bF h6,bT h7]
     ·obtain ⟨e0,h14,h⟩:=Qae h
      refine gn 17 [0,1,5,6] [] [nL Qab.enc a,bT h1,hH (.draw 54 []),cE Qab.enc h2,cE Qab.enc h3,rp 3 (bF h4),cE Qab.enc h2,rp 5 (bF h4),cE Qab.enc h3,rp 4 (bF h4),rp 3 (bF h5),cE Qab.enc h2,rp 3 (bF h5),nL Qac.enc x0.visits,rp 3 (bF h5),cE Qab.enc h3,rp 3 (bF h5),nL Qac.enc x1.visits,bF h5,bF h5,rp 3 (bF h6),cE Qab.enc h2,rp 3 (bF h6),nL Qa5 x0.rests,rp 3 (bF h6),cE Qab.enc h3,rp 3 (bF h6),nL Qa5 x1.rests,bF h6,bF h6,bF h7] (Ql9 Γ rv h14 ?_)
      rcases e0 with e0|e0
      ·replace h:(bnd (loopF (fun s=>Qbi a b i s) 0) (fun e=>sel e (fun (_:Unit)=>some (.inl (addK .i64 i 1))) (fun r=>some (.inr (.inr r)))):Option ((Int) ⊕ ((Unit) ⊕ (Bool)))) = some _:=h
       obtain ⟨e1,h21,h⟩:=Qae h
       refine gn 4 [0,1,5,7] [] [] (Qma Γ rv h21 ?_)
       rcases e1 with e1|e1
       ·replace h:(some (.inl (addK .i64 i 1)):Option ((Int) ⊕ ((Unit) ⊕ (Bool)))) = some _:=h
        exact gn 3 [0,1,5] [] [] (hI _ (oJ h))
       ·obtain ⟨r,rfl⟩:∃ x,x = e1:=⟨_,rfl⟩
        replace h:(some (.inr (.inr r)):Option ((Int) ⊕ ((Unit) ⊕ (Bool)))) = some _:=h
        exact (hE _ (oJ h):_ = rv)
      ·obtain ⟨r1,rfl⟩:∃ x,x = e0:=⟨_,rfl⟩
       replace h:(some (.inr (.inr r1)):Option ((Int) ⊕ ((Unit) ⊕ (Bool)))) = some _:=h
       exact (hE _ (oJ h):_ = rv)
 ·exact gn 5 [] [] [nL Qab.enc a,bF h1] (hE _ (oJ h))
theorem Qgb {a b} {rv:Bool} (h:QcJ a b = some rv):AFn Tryz.prog 16 [.one (lL 4 a Qab.enc),.one (lL 4 b Qab.enc)] [] (one (.bool rv)) []:=by
 refine QaS Tryz.func16 (by kernel_rfl) (by kernel_rfl) (fun Γ=>?_)
 unfold QcJ at h
 rcases Qai h with ⟨h0,h⟩|⟨h0,h⟩
 ·obtain rfl:=Option.some.inj h
  exact gr 8 [] [nL Qab.enc a,nL Qab.enc b,bT h0]
 ·obtain ⟨e2,h22,h⟩:=Qae h
  refine gn 12 [0,1,5] [] [nL Qab.enc a,nL Qab.enc b,bF h0] (Ql8 Γ rv h22 ?_)
  rcases e2 with e2|e2
  ·replace h:(some true:Option Bool) = some _:=h
   obtain rfl:=Option.some.inj h
   exact gr 2 [] []
  ·obtain ⟨r2,rfl⟩:∃ x,x = e2:=⟨_,rfl⟩
   replace h:(some r2:Option Bool) = some _:=h
   exact Option.some.inj h
def Qm3 (Γ:Gam) (rv:Bool) (cf:Cf):Prop:=Go Tryz.prog Tryz.f17 [] Γ (one (.bool rv)) [] cf
def QkP (Γ:Gam) (rv:Bool) (l:List Qab) (v:Int):Prop:=Qm3 Γ rv ⟨[.c 116,.l 116,.b 0,.c 15],⟨25,[vL 8 4 l Qab.enc,vI 9 (lenI l),vI 10 v],[]⟩⟩
def Qjr (Γ:Gam) (rv:Bool) (l:List Qab):Prop:=Qm3 Γ rv ⟨[.c 15],⟨25,[],[]⟩⟩
theorem QoA (Γ:Gam) (rv:Bool) {l} {s:Int} {e:(Unit) ⊕ (Bool)} (h:loopF (fun s=>Qca l s) s = some e) (hD:sel e (fun e=>Qjr Γ rv l) (fun e=>e = rv)):QkP Γ rv l s:=by
 refine QaI (C:=fun (s:Int)=>QkP Γ rv l s) (D:=fun (e:(Unit) ⊕ (Bool))=>sel e (fun e=>Qjr Γ rv l) (fun e=>e = rv)) ?_ h hD
 clear h hD s e
 intro v z_ h hI hE
 replace h:Qca l v = _:=h
 unfold Qca at h
 rcases Qai h with ⟨h1,h⟩|⟨h1,h⟩
 ·obtain ⟨x0,h2,h⟩:=Qae h
  rcases Qai h with ⟨h3,h⟩|⟨h3,h⟩
  ·obtain rfl:=(hE _ (oJ h):_ = rv)
   exact gr 14 [] [bT h1,cE Qab.enc h2,nL Qac.enc x0.visits,hP,hP,hP,rp 2 (oI ((gtI (lenI x0.visits) 20) = false)),nL Qa5 x0.rests,hP,hP,oI ((gtI (lenI x0.visits) 20) = false),oR True ((gtI (lenI x0.visits) 20) = false),bT h3]
  ·exact gn 16 [8,9,10] [] [bT h1,cE Qab.enc h2,nL Qac.enc x0.visits,hP,hP,hP,rp 2 (oI ((gtI (lenI x0.visits) 20) = false)),nL Qa5 x0.rests,hP,hP,oI ((gtI (lenI x0.visits) 20) = false),oR True ((gtI (lenI x0.visits) 20) = false),bF h3] (hI _ (oJ h))
 ·exact gn 5 [] [] [bF h1] (hE _ (oJ h))
theorem Qcb {l} {rv:Bool} (h:QfK l = some rv):AFn Tryz.prog 17 [.one (lL 4 l Qab.enc)] [] (one (.bool rv)) []:=by
 refine QaS Tryz.func17 (by kernel_rfl) (by kernel_rfl) (fun Γ=>?_)
 unfold QfK at h
 rcases Qai h with ⟨h0,h⟩|⟨h0,h⟩
 ·obtain rfl:=Option.some.inj h
  exact gr 8 [] [nL Qab.enc l,bT h0]
 ·obtain ⟨e0,h4,h⟩:=Qae h
  refine gn 12 [8,9,10] [] [nL Qab.enc l,bF h0,nL Qab.enc l] (QoA Γ rv h4 ?_)
  rcases e0 with e0|e0
  ·replace h:(some true:Option Bool) = some _:=h
   obtain rfl:=Option.some.inj h
   exact gr 2 [] []
  ·obtain ⟨r,rfl⟩:∃ x,x = e0:=⟨_,rfl⟩
   replace h:(some r:Option Bool) = some _:=h
   exact Option.some.inj h
def QgF (Γ:Gam) (rv:Bool) (cf:Cf):Prop:=Go Tryz.prog Tryz.f22 [] Γ (one (.bool rv)) [] cf
def Qj0 (Γ:Gam) (rv:Bool) (r:Qab) (begin:Qab) (i:Int):Prop:=QgF Γ rv ⟨[.c 116,.l 116,.b 0,.c 15],⟨98,[vP 2 0 4,vP 3 1 4,vI 5 i],[oX 4 34 (Qab.enc r),oX 4 34 (Qab.enc begin)]⟩⟩
def QiW (Γ:Gam) (rv:Bool) (r:Qab) (begin:Qab):Prop:=QgF Γ rv ⟨[.c 15],⟨98,[vP 2 0 4,vP 3 1 4],[oX 4 34 (Qab.enc r),oX 4 34 (Qab.enc begin)]⟩⟩
def Qj1 (Γ:Gam) (rv:Bool) (r:Qab) (begin:Qab) (i1:Int):Prop:=QgF Γ rv ⟨[.c 244,.l 244,.b 2,.c 31],⟨98,[vP 2 0 4,vP 3 1 4,vI 6 i1],[oX 4 34 (Qab.enc r),oX 4 34 (Qab.enc begin)]⟩⟩
def QiX (Γ:Gam) (rv:Bool) (r:Qab) (begin:Qab):Prop:=QgF Γ rv ⟨[.c 31],⟨98,[vP 2 0 4,vP 3 1 4],[oX 4 34 (Qab.enc r),oX 4 34 (Qab.enc begin)]⟩⟩
theorem Qoe (Γ:Gam) (rv:Bool) {r begin} {s:Int} {e:(Unit) ⊕ (Bool)} (h:loopF (fun s=>Qb0 r begin s) s = some e) (hD:sel e (fun e=>QiW Γ rv r begin) (fun e=>e = rv)):Qj0 Γ rv r begin s:=by
 refine QaI (C:=fun (s:Int)=>Qj0 Γ rv r begin s) (D:=fun (e:(Unit) ⊕ (Bool))=>sel e (fun e=>QiW Γ rv r begin) (fun e=>e = rv)) ?_ h hD
 clear h hD s e
 intro i z_ h hI hE
 replace h:Qb0 r begin i = _:=h
 unfold Qb0 at h
 rcases Qai h with ⟨h1,h⟩|⟨h1,h⟩
 ·obtain ⟨x0,h2,h⟩:=Qae h
  obtain ⟨x1,h3,h⟩:=Qae h
  rcases Qai h with ⟨h4,h⟩|⟨h4,h⟩
  ·exact gn 14 [2,3,5] [0,1] [nL Qac.enc begin.visits,bT h1,hH (.draw 11 []),cE Qac.enc h2,cE Qac.enc h3,nF h4] (hI _ (oJ h))
  ·obtain rfl:=(hE _ (oJ h):_ = rv)
   exact gr 12 [] [nL Qac.enc begin.visits,bT h1,hH (.draw 11 []),cE Qac.enc h2,cE Qac.enc h3,nT h4]
 ·exact gn 5 [2,3] [0,1] [nL Qac.enc begin.visits,bF h1] (hE _ (oJ h))
theorem Qof (Γ:Gam) (rv:Bool) {r begin} {s:Int} {e:(Unit) ⊕ (Bool)} (h:loopF (fun s=>QbM r begin s) s = some e) (hD:sel e (fun e=>QiX Γ rv r begin) (fun e=>e = rv)):Qj1 Γ rv r begin s:=by
 refine QaI (C:=fun (s:Int)=>Qj1 Γ rv r begin s) (D:=fun (e:(Unit) ⊕ (Bool))=>sel e (fun e=>QiX Γ rv r begin) (fun e=>e = rv)) ?_ h hD
 clear h hD s e
 intro i1 z_ h hI hE
 replace h:QbM r begin i1 = _:=h
 unfold QbM at h
 rcases Qai h with ⟨h6,h⟩|⟨h6,h⟩
 ·obtain ⟨x2,h7,h⟩:=Qae h
  obtain ⟨x3,h8,h⟩:=Qae h
  rcases Qai h with ⟨h9,h⟩|⟨h9,h⟩
  ·exact gn 14 [2,3,6] [0,1] [nL Qa5 begin.rests,bT h6,hH (.draw 11 []),cE Qa5 h7,cE Qa5 h8,nF h9] (hI _ (oJ h))
  ·obtain rfl:=(hE _ (oJ h):_ = rv)
   exact gr 12 [] [nL Qa5 begin.rests,bT h6,hH (.draw 11 []),cE Qa5 h7,cE Qa5 h8,nT h9]
 ·exact gn 5 [2,3] [0,1] [nL Qa5 begin.rests,bF h6] (hE _ (oJ h))
theorem QhW {r begin} {rv:Bool} (h:Qgj r begin = some rv):AFn Tryz.prog 22 [.agg (Qab.enc r),.agg (Qab.enc begin)] [] (one (.bool rv)) []:=by
 refine QaS Tryz.func22 (by kernel_rfl) (by kernel_rfl) (fun Γ=>?_)
 unfold Qgj at h
 rcases Qai h with ⟨h0,h⟩|⟨h0,h⟩
 ·obtain rfl:=Option.some.inj h
  exact gr 8 [] [rp 9 hP,rp 4 (oI ((neI r.type_ begin.type_) = false)),oR True ((neI r.type_ begin.type_) = false),rp 2 (oI (((neI r.type_ begin.type_) || (neI r.start begin.start)) = false)),nL Qac.enc r.visits,hP,hP,hP,rp 2 (oI (((neI r.type_ begin.type_) || (neI r.start begin.start)) = false)),nL Qac.enc begin.visits,rp 5 hP,rp 2 (oI (((neI r.type_ begin.type_) || (neI r.start begin.start)) = false)),oR True (((neI r.type_ begin.type_) || (neI r.start begin.start)) = false),rp 2 (oI ((((neI r.type_ begin.type_) || (neI r.start begin.start)) || (ltI (lenI r.visits) (lenI begin.visits))) = false)),nL Qa5 r.rests,hP,hP,hP,rp 2 (oI ((((neI r.type_ begin.type_) || (neI r.start begin.start)) || (ltI (lenI r.visits) (lenI begin.visits))) = false)),nL Qa5 begin.rests,hP,hP,rp 2 (oI ((((neI r.type_ begin.type_) || (neI r.start begin.start)) || (ltI (lenI r.visits) (lenI begin.visits))) = false)),oR True ((((neI r.type_ begin.type_) || (neI r.start begin.start)) || (ltI (lenI r.visits) (lenI begin.visits))) = false),bT h0]
 ·obtain ⟨e0,h5,h⟩:=Qae h
  refine gn 12 [2,3,5] [0,1] [rp 9 hP,rp 4 (oI ((neI r.type_ begin.type_) = false)),oR True ((neI r.type_ begin.type_) = false),rp 2 (oI (((neI r.type_ begin.type_) || (neI r.start begin.start)) = false)),nL Qac.enc r.visits,hP,hP,hP,rp 2 (oI (((neI r.type_ begin.type_) || (neI r.start begin.start)) = false)),nL Qac.enc begin.visits,rp 5 hP,rp 2 (oI (((neI r.type_ begin.type_) || (neI r.start begin.start)) = false)),oR True (((neI r.type_ begin.type_) || (neI r.start begin.start)) = false),rp 2 (oI ((((neI r.type_ begin.type_) || (neI r.start begin.start)) || (ltI (lenI r.visits) (lenI begin.visits))) = false)),nL Qa5 r.rests,hP,hP,hP,rp 2 (oI ((((neI r.type_ begin.type_) || (neI r.start begin.start)) || (ltI (lenI r.visits) (lenI begin.visits))) = false)),nL Qa5 begin.rests,hP,hP,rp 2 (oI ((((neI r.type_ begin.type_) || (neI r.start begin.start)) || (ltI (lenI r.visits) (lenI begin.visits))) = false)),oR True ((((neI r.type_ begin.type_) || (neI r.start begin.start)) || (ltI (lenI r.visits) (lenI begin.visits))) = false),bF h0] (Qoe Γ rv h5 ?_)
  rcases e0 with e0|e0
  ·replace h:(bnd (loopF (fun s=>QbM r begin s) 0) (fun e=>sel e (fun (_:Unit)=>some ((leI (lenI begin.rests) (lenI begin.visits)) || ((eqI (lenI r.visits) (lenI begin.visits)) && (eqI (lenI r.rests) (lenI begin.rests))))) (fun r1=>some r1)):Option Bool) = some _:=h
   obtain ⟨e1,h10,h⟩:=Qae h
   refine gn 5 [2,3,6] [0,1] [] (Qof Γ rv h10 ?_)
   rcases e1 with e1|e1
   ·replace h:(some ((leI (lenI begin.rests) (lenI begin.visits)) || ((eqI (lenI r.visits) (lenI begin.visits)) && (eqI (lenI r.rests) (lenI begin.rests)))):Option Bool) = some _:=h
    obtain rfl:=Option.some.inj h
    exact gr 2 [] [nL Qa5 begin.rests,nL Qac.enc begin.visits,hP,hP,hP,rp 2 (oI ((leI (lenI begin.rests) (lenI begin.visits)) = false)),nL Qac.enc r.visits,hP,hP,hP,rp 2 (oI ((leI (lenI begin.rests) (lenI begin.visits)) = false)),nL Qac.enc begin.visits,rp 5 hP,rp 3 (oI ((leI (lenI begin.rests) (lenI begin.visits)) = false)),rp 2 (oI (((leI (lenI begin.rests) (lenI begin.visits)) = false)∧(eqI (lenI r.visits) (lenI begin.visits)) = true)),nL Qa5 r.rests,hP,hP,hP,rp 2 (oI (((leI (lenI begin.rests) (lenI begin.visits)) = false)∧(eqI (lenI r.visits) (lenI begin.visits)) = true)),nL Qa5 begin.rests,rp 4 hP,rp 2 (oI (((leI (lenI begin.rests) (lenI begin.visits)) = false)∧(eqI (lenI r.visits) (lenI begin.visits)) = true)),oI ((leI (lenI begin.rests) (lenI begin.visits)) = false),oI (((leI (lenI begin.rests) (lenI begin.visits)) = false)∧(eqI (lenI r.visits) (lenI begin.visits)) = true),oR True ((leI (lenI begin.rests) (lenI begin.visits)) = false)]
   ·obtain ⟨r1,rfl⟩:∃ x,x = e1:=⟨_,rfl⟩
    replace h:(some r1:Option Bool) = some _:=h
    exact Option.some.inj h
  ·obtain ⟨r2,rfl⟩:∃ x,x = e0:=⟨_,rfl⟩
   replace h:(some r2:Option Bool) = some _:=h
   exact Option.some.inj h
def QgG (Γ:Gam) (rv:Bool) (cf:Cf):Prop:=Go Tryz.prog Tryz.f35 [] Γ (one (.bool rv)) [] cf
def Qj8 (Γ:Gam) (rv:Bool) (r:Qab) (of:Qab) (i:Int) (k:Int):Prop:=QgG Γ rv ⟨[.c 3364,.l 3364,.b 2,.b 1,.c 211,.l 52,.b 0,.c 7],⟨34,[vP 2 0 4,vP 3 1 4,vI 5 i,vI 6 k],[oX 4 34 (Qab.enc r),oX 4 34 (Qab.enc of)]⟩⟩
def QiZ (Γ:Gam) (rv:Bool) (r:Qab) (of:Qab) (i:Int):Prop:=QgG Γ rv ⟨[.b 1,.c 211,.l 52,.b 0,.c 7],⟨34,[vP 2 0 4,vP 3 1 4,vI 5 i],[oX 4 34 (Qab.enc r),oX 4 34 (Qab.enc of)]⟩⟩
def Qj7 (Γ:Gam) (rv:Bool) (r:Qab) (of:Qab) (i:Int):Prop:=QgG Γ rv ⟨[.c 52,.l 52,.b 0,.c 7],⟨34,[vP 2 0 4,vP 3 1 4,vI 5 i],[oX 4 34 (Qab.enc r),oX 4 34 (Qab.enc of)]⟩⟩
def QiY (Γ:Gam) (rv:Bool) (r:Qab) (of:Qab):Prop:=QgG Γ rv ⟨[.c 7],⟨34,[],[]⟩⟩
theorem Qoh (Γ:Gam) (rv:Bool) {r of i} {s:Int} {e:(Unit) ⊕ (Bool)} (h:loopF (fun s=>Qb2 r of i s) s = some e) (hD:sel e (fun e=>QiZ Γ rv r of i) (fun e=>e = rv)):Qj8 Γ rv r of i s:=by
 refine QaI (C:=fun (s:Int)=>Qj8 Γ rv r of i s) (D:=fun (e:(Unit) ⊕ (Bool))=>sel e (fun e=>QiZ Γ rv r of i) (fun e=>e = rv)) ?_ h hD
 clear h hD s e
 intro k z_ h hI hE
 replace h:Qb2 r of i k = _:=h
 unfold Qb2 at h
 rcases Qai h with ⟨h1,h⟩|⟨h1,h⟩
 ·obtain ⟨x0,h2,h⟩:=Qae h
  obtain ⟨x1,h3,h⟩:=Qae h
  rcases Qai h with ⟨h4,h⟩|⟨h4,h⟩
  ·obtain rfl:=(hE _ (oJ h):_ = rv)
   exact gr 12 [] [nL Qac.enc of.visits,bT h1,hH (.draw 13 []),cE Qac.enc h2,cE Qac.enc h3,bT h4]
  ·exact gn 14 [2,3,5,6] [0,1] [nL Qac.enc of.visits,bT h1,hH (.draw 13 []),cE Qac.enc h2,cE Qac.enc h3,bF h4] (hI _ (oJ h))
 ·exact gn 5 [2,3,5] [0,1] [nL Qac.enc of.visits,bF h1] (hE _ (oJ h))
theorem Qog (Γ:Gam) (rv:Bool) {r of} {s:Int} {e:(Unit) ⊕ (Bool)} (h:loopF (fun s=>Qb1 r of s) s = some e) (hD:sel e (fun e=>QiY Γ rv r of) (fun e=>e = rv)):Qj7 Γ rv r of s:=by
 refine QaI (C:=fun (s:Int)=>Qj7 Γ rv r of s) (D:=fun (e:(Unit) ⊕ (Bool))=>sel e (fun e=>QiY Γ rv r of) (fun e=>e = rv)) ?_ h hD
 clear h hD s e
 intro i z_ h hI hE
 replace h:Qb1 r of i = _:=h
 unfold Qb1 at h
 rcases Qai h with ⟨h0,h⟩|⟨h0,h⟩
 ·obtain ⟨e0,h5,h⟩:=Qae h
  refine gn 11 [2,3,5,6] [0,1] [nL Qac.enc r.visits,bT h0] (Qoh Γ rv h5 ?_)
  rcases e0 with e0|e0
  ·replace h:(some (.inl (addK .i64 i 1)):Option ((Int) ⊕ ((Unit) ⊕ (Bool)))) = some _:=h
   exact gn 3 [2,3,5] [0,1] [] (hI _ (oJ h))
  ·obtain ⟨r1,rfl⟩:∃ x,x = e0:=⟨_,rfl⟩
   replace h:(some (.inr (.inr r1)):Option ((Int) ⊕ ((Unit) ⊕ (Bool)))) = some _:=h
   exact (hE _ (oJ h):_ = rv)
 ·exact gn 5 [] [] [nL Qac.enc r.visits,bF h0] (hE _ (oJ h))
theorem Qp2 {r of} {rv:Bool} (h:Qgk r of = some rv):AFn Tryz.prog 35 [.agg (Qab.enc r),.agg (Qab.enc of)] [] (one (.bool rv)) []:=by
 refine QaS Tryz.func35 (by kernel_rfl) (by kernel_rfl) (fun Γ=>?_)
 unfold Qgk at h
 obtain ⟨e1,h6,h⟩:=Qae h
 refine gn 7 [2,3,5] [0,1] [] (Qog Γ rv h6 ?_)
 rcases e1 with e1|e1
 ·replace h:(some false:Option Bool) = some _:=h
  obtain rfl:=Option.some.inj h
  exact gr 2 [] []
 ·obtain ⟨r2,rfl⟩:∃ x,x = e1:=⟨_,rfl⟩
  replace h:(some r2:Option Bool) = some _:=h
  exact Option.some.inj h
def Qg8 (Γ:Gam) (rv:Int) (cf:Cf):Prop:=Go Tryz.prog Tryz.f19 [] Γ (one (lI rv)) [] cf
def Qk4 (Γ:Gam) (rv:Int) (p:Qap) (l:List Qab) (i:Int) (n:Int) (other:Bool) (k:Int):Prop:=Qg8 Γ rv ⟨[.c 26932,.l 26932,.b 2,.c 3367,.b 1,.c 211,.l 52,.b 0,.c 7],⟨52,[vL 1 4 l Qab.enc,vP 2 0 2,vI 5 i,vI 6 n,vB 7 other,vI 8 k],[oX 2 45 (Qap.enc p)]⟩⟩
def Qj6 (Γ:Gam) (rv:Int) (p:Qap) (l:List Qab) (i:Int) (n1:Int) (other1:Bool):Prop:=Qg8 Γ rv ⟨[.c 3367,.b 1,.c 211,.l 52,.b 0,.c 7],⟨52,[vL 1 4 l Qab.enc,vP 2 0 2,vI 5 i,vI 6 n1,vB 7 other1],[oX 2 45 (Qap.enc p)]⟩⟩
def Qk3 (Γ:Gam) (rv:Int) (p:Qap) (l:List Qab) (i:Int):Prop:=Qg8 Γ rv ⟨[.c 52,.l 52,.b 0,.c 7],⟨52,[vL 1 4 l Qab.enc,vP 2 0 2,vI 5 i],[oX 2 45 (Qap.enc p)]⟩⟩
def Qj5 (Γ:Gam) (rv:Int) (p:Qap) (l:List Qab):Prop:=Qg8 Γ rv ⟨[.c 7],⟨52,[],[]⟩⟩
theorem QoQ (Γ:Gam) (rv:Int) {p l i} {s:Int × Bool × Int} {e:Int × Bool} (h:loopF (fun s=>QbU p l i s.1 s.2.1 s.2.2) s = some e) (hD:Qj6 Γ rv p l i e.1 e.2):Qk4 Γ rv p l i s.1 s.2.1 s.2.2:=by
 refine QaI (C:=fun (s:Int × Bool × Int)=>Qk4 Γ rv p l i s.1 s.2.1 s.2.2) (D:=fun (e:Int × Bool)=>Qj6 Γ rv p l i e.1 e.2) ?_ h hD
 clear h hD s e
 rintro ⟨n,other,k⟩ z_ h hI hE
 replace h:QbU p l i n other k = _:=h
 unfold QbU at h
 rcases Qai h with ⟨h1,h⟩|⟨h1,h⟩
 ·obtain ⟨x0,h2,h⟩:=Qae h
  obtain ⟨x1,h3,h⟩:=Qae h
  obtain ⟨r,h4,h⟩:=Qae h
  rcases Qai h with ⟨h5,h⟩|⟨h5,h⟩
  ·exact gn 14 [1,2,5,6,7,8] [0] [nL Qab.enc p.routes,bT h1,hH (.draw 10 []),cE Qab.enc h2,cE Qab.enc h3,cC (QhW h4),bT h5] (hI _ (oJ h))
  ·rcases Qai h with ⟨h6,h⟩|⟨h6,h⟩
   ·exact gn 14 [1,2,5,6,7,8] [0] [nL Qab.enc p.routes,bT h1,hH (.draw 10 []),cE Qab.enc h2,cE Qab.enc h3,cC (QhW h4),bF h5,hH (.draw 13 []),rp 11 (bT h6)] (hI _ (oJ h))
   ·obtain ⟨r1,h7,h⟩:=Qae h
    exact gn 14 [1,2,5,6,7,8] [0] [nL Qab.enc p.routes,bT h1,hH (.draw 10 []),cE Qab.enc h2,cE Qab.enc h3,cC (QhW h4),bF h5,hH (.draw 13 []),rp 4 (bF h6),cE Qab.enc h2,rp 4 (bF h6),cE Qab.enc h3,bF h6,bF h6,cC (Qp2 h7),bF h6] (hI _ (oJ h))
 ·exact gn 5 [1,2,5,6,7] [0] [nL Qab.enc p.routes,bF h1] (hE _ (oJ h))
theorem QoP (Γ:Gam) (rv:Int) {p l} {s:Int} {e:(Unit) ⊕ (Int)} (h:loopF (fun s=>Qcg p l s) s = some e) (hD:sel e (fun e=>Qj5 Γ rv p l) (fun e=>e = rv)):Qk3 Γ rv p l s:=by
 refine QaI (C:=fun (s:Int)=>Qk3 Γ rv p l s) (D:=fun (e:(Unit) ⊕ (Int))=>sel e (fun e=>Qj5 Γ rv p l) (fun e=>e = rv)) ?_ h hD
 clear h hD s e
 intro i z_ h hI hE
 replace h:Qcg p l i = _:=h
 unfold Qcg at h
 rcases Qai h with ⟨h0,h⟩|⟨h0,h⟩
 ·obtain ⟨e0,h8,h⟩:=Qae h
  refine gn 16 [1,2,5,6,7,8] [0] [nL Qab.enc l,bT h0] (QoQ Γ rv h8 ?_)
  obtain ⟨n1,other1⟩:=e0
  replace h:(br ((neI n1 1) || other1) (some (.inr (.inr 31))) (some (.inl (addK .i64 i 1))):Option ((Int) ⊕ ((Unit) ⊕ (Int)))) = some _:=h
  rcases Qai h with ⟨h9,h⟩|⟨h9,h⟩
  ·obtain rfl:=(hE _ (oJ h):_ = rv)
   exact gr 5 [] [hP,hP,oR True ((neI n1 1) = false),bT h9]
  ·exact gn 7 [1,2,5] [0] [hP,hP,oR True ((neI n1 1) = false),bF h9] (hI _ (oJ h))
 ·exact gn 5 [] [] [nL Qab.enc l,bF h0] (hE _ (oJ h))
theorem QiC {p l} {rv:Int} (h:QgZ p l = some rv):AFn Tryz.prog 19 [.agg (Qap.enc p),.one (lL 4 l Qab.enc)] [] (one (lI rv)) []:=by
 refine QaS Tryz.func19 (by kernel_rfl) (by kernel_rfl) (fun Γ=>?_)
 unfold QgZ at h
 obtain ⟨e1,h10,h⟩:=Qae h
 refine gn 7 [1,2,5] [0] [] (QoP Γ rv h10 ?_)
 rcases e1 with e1|e1
 ·replace h:(some 0:Option Int) = some _:=h
  obtain rfl:=Option.some.inj h
  exact gr 2 [] []
 ·obtain ⟨r2,rfl⟩:∃ x,x = e1:=⟨_,rfl⟩
  replace h:(some r2:Option Int) = some _:=h
  exact Option.some.inj h
def QoS (Γ:Gam) (rv:Bool) (cf:Cf):Prop:=Go Tryz.prog Tryz.f36 [] Γ (one (.bool rv)) [] cf
def Qmo (Γ:Gam) (rv:Bool) (i:Int) (set_1:Int) (k:Int):Prop:=QoS Γ rv ⟨[.c 52,.l 52,.b 0,.c 7],⟨16,[vI 0 set_1,vI 1 i,vI 5 k],[]⟩⟩
def QlL (Γ:Gam) (rv:Bool) (i:Int) (set_2:Int):Prop:=QoS Γ rv ⟨[.c 7],⟨16,[vI 0 set_2],[]⟩⟩
theorem Qp1 (Γ:Gam) (rv:Bool) {i} {s:Int × Int} {e:Int} (h:loopF (fun s=>Qcy i s.1 s.2) s = some e) (hD:QlL Γ rv i e):Qmo Γ rv i s.1 s.2:=by
 refine QaI (C:=fun (s:Int × Int)=>Qmo Γ rv i s.1 s.2) (D:=fun (e:Int)=>QlL Γ rv i e) ?_ h hD
 clear h hD s e
 rintro ⟨set_1,k⟩ z_ h hI hE
 replace h:Qcy i set_1 k = _:=h
 unfold Qcy at h
 rcases Qai h with ⟨h0,h⟩|⟨h0,h⟩
 ·exact gn 11 [0,1,5] [] [bT h0,oO (oA (n:=2))] (hI _ (oJ h))
 ·exact gn 5 [0] [] [bF h0] (hE _ (oJ h))
theorem QnV {set_ i} {rv:Bool} (h:QiD set_ i = some rv):AFn Tryz.prog 36 [.one (lI set_),.one (lI i)] [] (one (.bool rv)) []:=by
 refine QaS Tryz.func36 (by kernel_rfl) (by kernel_rfl) (fun Γ=>?_)
 unfold QiD at h
 obtain ⟨e0,h1,h⟩:=Qae h
 refine gn 7 [0,1,5] [] [] (Qp1 Γ rv h1 ?_)
 obtain ⟨set_2,rfl⟩:∃ x,x = e0:=⟨_,rfl⟩
 replace h:(some (eqI (remK set_2 2) 1):Option Bool) = some _:=h
 obtain rfl:=Option.some.inj h
 exact gr 2 [] [oO (oA (n:=2))]
def QeM (Γ:Gam) (rv:Int) (cf:Cf):Prop:=Go Tryz.prog Tryz.f21 [] Γ (one (lI rv)) [] cf
def Qk2 (Γ:Gam) (rv:Int) (l:List Qab) (i:Int) (set_1:Int) (k:Int) (x1:Qac) (bit:Int) (j:Int):Prop:=QeM Γ rv ⟨[.c 7639668,.l 7639668,.b 4,.c 954959,.b 3,.c 29843,.l 7460,.b 2,.b 1,.c 467,.l 116,.b 0,.c 15],⟨56,[vL 0 4 l Qab.enc,vI 3 set_1,vI 4 i,vI 5 k,vI 6 x1.order,vI 7 bit,vI 8 j],[]⟩⟩
def Qj4 (Γ:Gam) (rv:Int) (l:List Qab) (i:Int) (set_1:Int) (k:Int) (x1:Qac) (bit1:Int):Prop:=QeM Γ rv ⟨[.c 954959,.b 3,.c 29843,.l 7460,.b 2,.b 1,.c 467,.l 116,.b 0,.c 15],⟨56,[vL 0 4 l Qab.enc,vI 3 set_1,vI 4 i,vI 5 k,vI 7 bit1],[]⟩⟩
def Qk1 (Γ:Gam) (rv:Int) (l:List Qab) (i:Int) (set_1:Int) (k:Int):Prop:=QeM Γ rv ⟨[.c 7460,.l 7460,.b 2,.b 1,.c 467,.l 116,.b 0,.c 15],⟨56,[vL 0 4 l Qab.enc,vI 3 set_1,vI 4 i,vI 5 k],[]⟩⟩
def Qj3 (Γ:Gam) (rv:Int) (l:List Qab) (i:Int) (set_2:Int):Prop:=QeM Γ rv ⟨[.b 1,.c 467,.l 116,.b 0,.c 15],⟨56,[vL 0 4 l Qab.enc,vI 3 set_2,vI 4 i],[]⟩⟩
def Qk0 (Γ:Gam) (rv:Int) (l:List Qab) (set_:Int) (i:Int):Prop:=QeM Γ rv ⟨[.c 116,.l 116,.b 0,.c 15],⟨56,[vL 0 4 l Qab.enc,vI 3 set_,vI 4 i],[]⟩⟩
def Qj2 (Γ:Gam) (rv:Int) (l:List Qab) (set_3:Int):Prop:=QeM Γ rv ⟨[.c 15],⟨56,[vI 3 set_3],[]⟩⟩
theorem QoO (Γ:Gam) (rv:Int) {l i set_1 k x1} {s:Int × Int} {e:Int} (h:loopF (fun s=>QbT l i set_1 k x1 s.1 s.2) s = some e) (hD:Qj4 Γ rv l i set_1 k x1 e):Qk2 Γ rv l i set_1 k x1 s.1 s.2:=by
 refine QaI (C:=fun (s:Int × Int)=>Qk2 Γ rv l i set_1 k x1 s.1 s.2) (D:=fun (e:Int)=>Qj4 Γ rv l i set_1 k x1 e) ?_ h hD
 clear h hD s e
 rintro ⟨bit,j⟩ z_ h hI hE
 replace h:QbT l i set_1 k x1 bit j = _:=h
 unfold QbT at h
 rcases Qai h with ⟨h7,h⟩|⟨h7,h⟩
 ·exact gn 11 [0,3,4,5,6,7,8] [] [bT h7] (hI _ (oJ h))
 ·exact gn 5 [0,3,4,5,7] [] [bF h7] (hE _ (oJ h))
theorem QoN (Γ:Gam) (rv:Int) {l i} {s:Int × Int} {e:Int} (h:loopF (fun s=>Qdi l i s.1 s.2) s = some e) (hD:Qj3 Γ rv l i e):Qk1 Γ rv l i s.1 s.2:=by
 refine QaI (C:=fun (s:Int × Int)=>Qk1 Γ rv l i s.1 s.2) (D:=fun (e:Int)=>Qj3 Γ rv l i e) ?_ h hD
 clear h hD s e
 rintro ⟨set_1,k⟩ z_ h hI hE
 replace h:Qdi l i set_1 k = _:=h
 unfold Qdi at h
 obtain ⟨x0,h1,h⟩:=Qae h
 rcases Qai h with ⟨h2,h⟩|⟨h2,h⟩
 ·obtain ⟨x1,h3,h⟩:=Qae h
  rcases Qai h with ⟨h4,h⟩|⟨h4,h⟩
  ·exact gn 16 [0,3,4,5] [] [cE Qab.enc h1,nL Qac.enc x0.visits,bT h2,cE Qab.enc h1,cE Qac.enc h3,hP,hP,hP,oI ((ltI x1.order 0) = false),oR True ((ltI x1.order 0) = false),rp 4 (bT h4),tT] (hI _ (oJ h))
  ·obtain ⟨r,h5,h⟩:=Qae h
   rcases Qai h with ⟨h6,h⟩|⟨h6,h⟩
   ·exact gn 16 [0,3,4,5] [] [cE Qab.enc h1,nL Qac.enc x0.visits,bT h2,cE Qab.enc h1,cE Qac.enc h3,hP,hP,hP,oI ((ltI x1.order 0) = false),oR True ((ltI x1.order 0) = false),rp 3 (bF h4),cC (QnV h5),bF h4,bT h6] (hI _ (oJ h))
   ·obtain ⟨e0,h8,h⟩:=Qae h
    refine gn 21 [0,3,4,5,6,7,8] [] [cE Qab.enc h1,nL Qac.enc x0.visits,bT h2,cE Qab.enc h1,cE Qac.enc h3,hP,hP,hP,oI ((ltI x1.order 0) = false),oR True ((ltI x1.order 0) = false),rp 3 (bF h4),cC (QnV h5),bF h4,bF h6] (QoO Γ rv h8 ?_)
    obtain ⟨bit1,rfl⟩:∃ x,x = e0:=⟨_,rfl⟩
    replace h:(some (.inl ((addK .i64 set_1 bit1),(addK .i64 k 1))):Option ((Int × Int) ⊕ (Int))) = some _:=h
    exact gn 4 [0,3,4,5] [] [] (hI _ (oJ h))
 ·exact gn 5 [0,3,4] [] [cE Qab.enc h1,nL Qac.enc x0.visits,bF h2] (hE _ (oJ h))
theorem QoM (Γ:Gam) (rv:Int) {l} {s:Int × Int} {e:Int} (h:loopF (fun s=>Qei l s.1 s.2) s = some e) (hD:Qj2 Γ rv l e):Qk0 Γ rv l s.1 s.2:=by
 refine QaI (C:=fun (s:Int × Int)=>Qk0 Γ rv l s.1 s.2) (D:=fun (e:Int)=>Qj2 Γ rv l e) ?_ h hD
 clear h hD s e
 rintro ⟨set_,i⟩ z_ h hI hE
 replace h:Qei l set_ i = _:=h
 unfold Qei at h
 rcases Qai h with ⟨h0,h⟩|⟨h0,h⟩
 ·obtain ⟨e1,h9,h⟩:=Qae h
  refine gn 11 [0,3,4,5] [] [nL Qab.enc l,bT h0] (QoN Γ rv h9 ?_)
  obtain ⟨set_2,rfl⟩:∃ x,x = e1:=⟨_,rfl⟩
  replace h:(some (.inl (set_2,(addK .i64 i 1))):Option ((Int × Int) ⊕ (Int))) = some _:=h
  exact gn 3 [0,3,4] [] [] (hI _ (oJ h))
 ·exact gn 5 [3] [] [nL Qab.enc l,bF h0] (hE _ (oJ h))
theorem Qmm {l} {rv:Int} (h:QgY l = some rv):AFn Tryz.prog 21 [.one (lL 4 l Qab.enc)] [] (one (lI rv)) []:=by
 refine QaS Tryz.func21 (by kernel_rfl) (by kernel_rfl) (fun Γ=>?_)
 unfold QgY at h
 obtain ⟨e2,h10,h⟩:=Qae h
 refine gn 9 [0,3,4] [] [] (QoM Γ rv h10 ?_)
 obtain ⟨set_3,rfl⟩:∃ x,x = e2:=⟨_,rfl⟩
 replace h:(some set_3:Option Int) = some _:=h
 obtain rfl:=Option.some.inj h
 exact gr 2 [] []
theorem Qm2 {p l} {rv:Bool} (h:Qfg p l = some rv):AFn Tryz.prog 5 [.agg (Qap.enc p),.one (lL 4 l Qab.enc)] [] (one (.bool rv)) []:=by
 refine QaS Tryz.func5 (by kernel_rfl) (by kernel_rfl) (fun Γ=>?_)
 unfold Qfg at h
 obtain ⟨r,h0,h⟩:=Qae h
 rcases Qai h with ⟨h1,h⟩|⟨h1,h⟩
 ·obtain ⟨r1,h2,h⟩:=Qae h
  rcases Qai h with ⟨h3,h⟩|⟨h3,h⟩
  ·obtain ⟨r2,h4,h⟩:=Qae h
   obtain ⟨r3,h5,h⟩:=Qae h
   rcases Qai h with ⟨h6,h⟩|⟨h6,h⟩
   ·obtain ⟨r4,h7,h⟩:=Qae h
    obtain ⟨r5,h8,h⟩:=Qae h
    rcases Qai h with ⟨h9,h⟩|⟨h9,h⟩
    ·obtain ⟨r6,h10,h⟩:=Qae h
     obtain rfl:=Option.some.inj h
     exact gr 9 [] [cC (Qcb h0),nF h1,nF h1,cC (Qcb h2),nF h1,nF h1,nF h3,hH (.draw 18 []),cC (Qc9 h4),cC (QiC h5),bT h6,bT h6,cC (QmA h7),bT h6,bT h6,cC (Qmm h8),bT h6,bT h6,bT h9,cC (Qcp h10),bT h9]
    ·obtain rfl:=Option.some.inj h
     exact gr 9 [] [cC (Qcb h0),nF h1,nF h1,cC (Qcb h2),nF h1,nF h1,nF h3,hH (.draw 18 []),cC (Qc9 h4),cC (QiC h5),bT h6,bT h6,cC (QmA h7),bT h6,bT h6,cC (Qmm h8),bT h6,bT h6,bF h9,bF h9]
   ·obtain rfl:=Option.some.inj h
    exact gr 9 [] [cC (Qcb h0),nF h1,nF h1,cC (Qcb h2),nF h1,nF h1,nF h3,hH (.draw 18 []),cC (Qc9 h4),cC (QiC h5),rp 6 (bF h6),fF,fF]
  ·obtain ⟨r7,h11,h⟩:=Qae h
   obtain rfl:=Option.some.inj h
   exact gr 8 [] [cC (Qcb h0),nF h1,nF h1,cC (Qcb h2),nF h1,nF h1,nT h3,cC (Qcp h11)]
 ·obtain ⟨r8,h12,h⟩:=Qae h
  obtain rfl:=Option.some.inj h
  exact gr 8 [] [cC (Qcb h0),rp 4 (nT h1),tT,cC (Qcp h12)]
theorem Qqz {x0 r} {rv:Int} (h:Qln x0 r = some rv):AFn Tryz.prog 105 [.agg (Qad.enc x0),.agg (Qab.enc r)] [] (one (lI rv)) []:=by
 refine QaS Tryz.func105 (by kernel_rfl) (by kernel_rfl) (fun Γ=>?_)
 unfold Qln at h
 obtain ⟨r1,h0,h⟩:=Qae h
 obtain rfl:=Option.some.inj h
 exact gr 6 [] [cC (Qel h0)]
def Qii (Γ:Gam) (rv:List Int × List Int × Bool) (cf:Cf):Prop:=Go Tryz.prog Tryz.f106 [] Γ (.tup [.one (lL 1 rv.1 e_i64),.one (lL 1 rv.2.1 e_i64),.one (.bool rv.2.2)]) [] cf
def Qo2 (Γ:Gam) (rv:List Int × List Int × Bool) (x0:Qad) (p:Qap) (l:List Int) (l1:List Int) (l2:List Int) (v:Int) (r:Int × Int) (l3:List Int) (v1:Int):Prop:=Qii Γ rv ⟨[.c 59804,.l 59804,.b 2,.b 1,.c 935,.l 116,.b 0,.c 15],⟨76,[vP 2 0 6,vP 3 1 2,vO 4 2 1 l3 e_i64,vO 5 3 1 l1 e_i64,vI 9 r.1,vL 23 4 p.routes Qab.enc,vI 24 (lenI p.routes),vI 25 v,vI 35 (lenI l2),vI 36 v1],[oX 6 30 (Qad.enc x0),oX 2 45 (Qap.enc p),oS 1 3 l3 e_i64,oS 1 3 l1 e_i64]⟩⟩
def QnZ (Γ:Gam) (rv:List Int × List Int × Bool) (x0:Qad) (p:Qap) (l:List Int) (l1:List Int) (l2:List Int) (v:Int) (r:Int × Int) (l4:List Int):Prop:=Qii Γ rv ⟨[.b 1,.c 935,.l 116,.b 0,.c 15],⟨76,[vP 2 0 6,vP 3 1 2,vO 4 2 1 l4 e_i64,vO 5 3 1 l1 e_i64,vL 23 4 p.routes Qab.enc,vI 24 (lenI p.routes),vI 25 v],[oX 6 30 (Qad.enc x0),oX 2 45 (Qap.enc p),oS 1 3 l4 e_i64,oS 1 3 l1 e_i64]⟩⟩
def Qo1 (Γ:Gam) (rv:List Int × List Int × Bool) (x0:Qad) (p:Qap) (l:List Int) (l1:List Int) (l2:List Int) (v:Int):Prop:=Qii Γ rv ⟨[.c 116,.l 116,.b 0,.c 15],⟨76,[vP 2 0 6,vP 3 1 2,vO 4 2 1 l2 e_i64,vO 5 3 1 l1 e_i64,vL 23 4 p.routes Qab.enc,vI 24 (lenI p.routes),vI 25 v],[oX 6 30 (Qad.enc x0),oX 2 45 (Qap.enc p),oS 1 3 l2 e_i64,oS 1 3 l1 e_i64]⟩⟩
def QnY (Γ:Gam) (rv:List Int × List Int × Bool) (x0:Qad) (p:Qap) (l:List Int) (l1:List Int) (l5:List Int):Prop:=Qii Γ rv ⟨[.c 15],⟨76,[vP 2 0 6,vP 3 1 2,vO 4 2 1 l5 e_i64,vO 5 3 1 l1 e_i64],[oX 6 30 (Qad.enc x0),oX 2 45 (Qap.enc p),oS 1 3 l5 e_i64,oS 1 3 l1 e_i64]⟩⟩
def Qo3 (Γ:Gam) (rv:List Int × List Int × Bool) (x0:Qad) (p:Qap) (l:List Int) (l5:List Int) (l6:List Int) (v2:Int):Prop:=Qii Γ rv ⟨[.c 244,.l 244,.b 4,.c 31],⟨76,[vP 2 0 6,vO 4 1 1 l5 e_i64,vO 5 2 1 l6 e_i64,vL 52 1 p.unserved e_i64,vI 53 (lenI p.unserved),vI 54 v2],[oX 6 30 (Qad.enc x0),oS 1 3 l5 e_i64,oS 1 3 l6 e_i64]⟩⟩
def Qn0 (Γ:Gam) (rv:List Int × List Int × Bool) (x0:Qad) (p:Qap) (l:List Int) (l5:List Int) (l7:List Int):Prop:=Qii Γ rv ⟨[.c 31],⟨76,[vO 4 0 1 l5 e_i64,vO 5 1 1 l7 e_i64],[oS 1 3 l5 e_i64,oS 1 3 l7 e_i64]⟩⟩
theorem Qrx (Γ:Gam) (rv:List Int × List Int × Bool) {x0 p l l1 l2 v r} {s:List Int × Int} {e:List Int} (h:loopF (fun s=>QdL x0 p l l1 l2 v r s.1 s.2) s = some e) (hD:QnZ Γ rv x0 p l l1 l2 v r e):Qo2 Γ rv x0 p l l1 l2 v r s.1 s.2:=by
 refine QaI (C:=fun (s:List Int × Int)=>Qo2 Γ rv x0 p l l1 l2 v r s.1 s.2) (D:=fun (e:List Int)=>QnZ Γ rv x0 p l l1 l2 v r e) ?_ h hD
 clear h hD s e
 rintro ⟨l3,v1⟩ z_ h hI hE
 replace h:QdL x0 p l l1 l2 v r l3 v1 = _:=h
 unfold QdL at h
 rcases Qai h with ⟨h5,h⟩|⟨h5,h⟩
 ·obtain ⟨x2,h6,h⟩:=Qae h
  obtain ⟨h7,h⟩:=Qaw h
  exact gn 13 [2,3,4,5,9,23,24,25,35,36] [0,1,2,3] [bT h5,hH (.draw 10 []),oO (getLo h6),oO (getHi e_i64 h6),rE e_i64 h6,oO (h7),oO (getLo h6),oO (getHi e_i64 h6),rE e_i64 h6,hH (.rows ((setI l3 v1 (addK .i64 x2 (andK .i64 (shrK .i64 r.1 v1) 1))).map e_i64)),hH (.relen 2 ((setI l3 v1 (addK .i64 x2 (andK .i64 (shrK .i64 r.1 v1) 1))).map e_i64).length),oO (setM e_i64 l3 v1 (addK .i64 x2 (andK .i64 (shrK .i64 r.1 v1) 1))),rp 2 (oO (QuW e_i64 l3 v1 (addK .i64 x2 (andK .i64 (shrK .i64 r.1 v1) 1))))] (hI _ (oJ h))
 ·exact gn 5 [2,3,4,5,23,24,25] [0,1,2,3] [bF h5] (hE _ (oJ h))
theorem Qrw (Γ:Gam) (rv:List Int × List Int × Bool) {x0 p l l1} {s:List Int × Int} {e:List Int} (h:loopF (fun s=>QcE x0 p l l1 s.1 s.2) s = some e) (hD:QnY Γ rv x0 p l l1 e):Qo1 Γ rv x0 p l l1 s.1 s.2:=by
 refine QaI (C:=fun (s:List Int × Int)=>Qo1 Γ rv x0 p l l1 s.1 s.2) (D:=fun (e:List Int)=>QnY Γ rv x0 p l l1 e) ?_ h hD
 clear h hD s e
 rintro ⟨l2,v⟩ z_ h hI hE
 replace h:QcE x0 p l l1 l2 v = _:=h
 unfold QcE at h
 rcases Qai h with ⟨h2,h⟩|⟨h2,h⟩
 ·obtain ⟨x1,h3,h⟩:=Qae h
  obtain ⟨r,h4,h⟩:=Qae h
  obtain ⟨e0,h8,h⟩:=Qae h
  refine gn 15 [2,3,4,5,9,23,24,25,35,36] [0,1,2,3] [bT h2,cE Qab.enc h3,cC (Qje h4),nL e_i64 l2] (Qrx Γ rv h8 ?_)
  obtain ⟨l4,rfl⟩:∃ x,x = e0:=⟨_,rfl⟩
  replace h:(some (.inl (l4,(addK .i64 v 1))):Option ((List Int × Int) ⊕ (List Int))) = some _:=h
  exact gn 3 [2,3,4,5,23,24,25] [0,1,2,3] [] (hI _ (oJ h))
 ·exact gn 5 [2,3,4,5] [0,1,2,3] [bF h2] (hE _ (oJ h))
theorem Qry (Γ:Gam) (rv:List Int × List Int × Bool) {x0 p l l5} {s:List Int × Int} {e:(List Int) ⊕ (List Int × List Int × Bool)} (h:loopF (fun s=>Qes x0 p l l5 s.1 s.2) s = some e) (hD:sel e (fun e=>Qn0 Γ rv x0 p l l5 e) (fun e=>e = rv)):Qo3 Γ rv x0 p l l5 s.1 s.2:=by
 refine QaI (C:=fun (s:List Int × Int)=>Qo3 Γ rv x0 p l l5 s.1 s.2) (D:=fun (e:(List Int) ⊕ (List Int × List Int × Bool))=>sel e (fun e=>Qn0 Γ rv x0 p l l5 e) (fun e=>e = rv)) ?_ h hD
 clear h hD s e
 rintro ⟨l6,v2⟩ z_ h hI hE
 replace h:Qes x0 p l l5 l6 v2 = _:=h
 unfold Qes at h
 rcases Qai h with ⟨h10,h⟩|⟨h10,h⟩
 ·obtain ⟨x3,h11,h⟩:=Qae h
  rcases Qai h with ⟨h12,h⟩|⟨h12,h⟩
  ·obtain rfl:=(hE _ (oJ h):_ = rv)
   exact gr 15 [] [bT h10,cE e_i64 h11,rp 4 hP,rp 2 (oI ((ltI x3 0) = false)),nL Qak.enc x0.orders,hP,hP,rp 2 (oI ((ltI x3 0) = false)),oR True ((ltI x3 0) = false),bT h12,hW 5,hH (.nilS 4 0 1),hH (.nilS 5 0 1)]
  ·obtain ⟨x4,h13,h⟩:=Qae h
   exact gn 18 [2,4,5,52,53,54] [0,1,2] [bT h10,cE e_i64 h11,rp 4 hP,rp 2 (oI ((ltI x3 0) = false)),nL Qak.enc x0.orders,hP,hP,rp 2 (oI ((ltI x3 0) = false)),oR True ((ltI x3 0) = false),bF h12,oO (getLo h13),oO (getHi e_i64 h13),rE e_i64 h13,oO (getLo h13),oO (getHi e_i64 h13),rE e_i64 h13,hH (.rows ((setI l6 x3 (addK .i64 x4 1)).map e_i64)),hH (.relen 2 ((setI l6 x3 (addK .i64 x4 1)).map e_i64).length),oO (setM e_i64 l6 x3 (addK .i64 x4 1)),rp 2 (oO (QuW e_i64 l6 x3 (addK .i64 x4 1)))] (hI _ (oJ h))
 ·exact gn 5 [4,5] [1,2] [bF h10] (hE _ (oJ h))
theorem Qhc {x0 p} {rv:List Int × List Int × Bool} (h:Qhb x0 p = some rv):AFn Tryz.prog 106 [.agg (Qad.enc x0),.agg (Qap.enc p)] [] (.tup [.one (lL 1 rv.1 e_i64),.one (lL 1 rv.2.1 e_i64),.one (.bool rv.2.2)]) []:=by
 refine QaS Tryz.func106 (by kernel_rfl) (by kernel_rfl) (fun Γ=>?_)
 unfold Qhb at h
 obtain ⟨l,h0,h⟩:=Qae h
 obtain ⟨l1,h1,h⟩:=Qae h
 obtain ⟨e1,h9,h⟩:=Qae h
 refine gn 9 [2,3,4,5,23,24,25] [0,1,2,3] [hH (.draw 10 []),nL Qak.enc x0.orders,hH (.cells [lI 0]),hH (.rows (l.map e_i64)),oO (mk1 h0),oO (mk2 h0),oO (mk3 h0),oO (mk4 h0),oO (mk5 e_i64 h0),nL Qak.enc x0.orders,hH (.cells [lI 0]),hH (.rows (l1.map e_i64)),oO (mk1 h1),oO (mk2 h1),oO (mk3 h1),oO (mk4 h1),oO (mk5 e_i64 h1),nL Qab.enc p.routes] (Qrw Γ rv h9 ?_)
 obtain ⟨l5,rfl⟩:∃ x,x = e1:=⟨_,rfl⟩
 replace h:(bnd (loopF (fun s=>Qes x0 p l l5 s.1 s.2) (l1,0)) (fun e=>sel e (fun l7=>some (l5,l7,true)) (fun r1=>some r1)):Option (List Int × List Int × Bool)) = some _:=h
 obtain ⟨e2,h14,h⟩:=Qae h
 refine gn 5 [2,4,5,52,53,54] [0,2,3] [nL e_i64 p.unserved] (Qry Γ rv h14 ?_)
 rcases e2 with e2|e2
 ·obtain ⟨l7,rfl⟩:∃ x,x = e2:=⟨_,rfl⟩
  replace h:(some (l5,l7,true):Option (List Int × List Int × Bool)) = some _:=h
  obtain rfl:=Option.some.inj h
  exact gr 2 [] [hW 7,hH (.frz 0),hH (.frz 1),rp 3 (eL l5 e_i64),rp 3 (eL l7 e_i64)]
 ·obtain ⟨r1,rfl⟩:∃ x,x = e2:=⟨_,rfl⟩
  replace h:(some r1:Option (List Int × List Int × Bool)) = some _:=h
  exact Option.some.inj h
def Qld (Γ:Gam) (rv:Bool) (cf:Cf):Prop:=Go Tryz.prog Tryz.f109 [] Γ (one (.bool rv)) [] cf
def Qn1 (Γ:Gam) (rv:Bool) (x0:Qad) (p:Qap) (l:List Int) (l1:List Int) (v:Int):Prop:=Qld Γ rv ⟨[.c 116,.l 116,.b 0,.c 15],⟨45,[vP 2 0 6,vO 5 1 1 l1 e_i64,vL 15 4 p.routes Qab.enc,vI 16 (lenI p.routes),vI 17 v],[oX 6 30 (Qad.enc x0),oS 1 3 l1 e_i64]⟩⟩
def Qne (Γ:Gam) (rv:Bool) (x0:Qad) (p:Qap) (l:List Int) (l2:List Int):Prop:=Qld Γ rv ⟨[.c 15],⟨45,[vP 2 0 6,vO 5 1 1 l2 e_i64],[oX 6 30 (Qad.enc x0),oS 1 3 l2 e_i64]⟩⟩
def Qn2 (Γ:Gam) (rv:Bool) (x0:Qad) (l:List Int) (l2:List Int) (v1:Int):Prop:=Qld Γ rv ⟨[.c 244,.l 244,.b 2,.c 31],⟨45,[vP 2 0 6,vO 29 1 1 l2 e_i64,vI 30 (lenI l2),vI 31 v1],[oX 6 30 (Qad.enc x0),oS 1 3 l2 e_i64]⟩⟩
def Qnf (Γ:Gam) (rv:Bool) (x0:Qad) (l:List Int) (l2:List Int):Prop:=Qld Γ rv ⟨[.c 31],⟨45,[],[]⟩⟩
theorem Qq0 (Γ:Gam) (rv:Bool) {x0 p l} {s:List Int × Int} {e:List Int} (h:loopF (fun s=>QdM x0 p l s.1 s.2) s = some e) (hD:Qne Γ rv x0 p l e):Qn1 Γ rv x0 p l s.1 s.2:=by
 refine QaI (C:=fun (s:List Int × Int)=>Qn1 Γ rv x0 p l s.1 s.2) (D:=fun (e:List Int)=>Qne Γ rv x0 p l e) ?_ h hD
 clear h hD s e
 rintro ⟨l1,v⟩ z_ h hI hE
 replace h:QdM x0 p l l1 v = _:=h
 unfold QdM at h
 rcases Qai h with ⟨h1,h⟩|⟨h1,h⟩
 ·obtain ⟨x1,h2,h⟩:=Qae h
  obtain ⟨x2,h3,h⟩:=Qae h
  exact gn 13 [2,5,15,16,17] [0,1] [bT h1,cE Qab.enc h2,oO (getLo h3),oO (getHi e_i64 h3),rE e_i64 h3,oO (getLo h3),oO (getHi e_i64 h3),rE e_i64 h3,hH (.rows ((setI l1 x1.type_ (addK .i64 x2 1)).map e_i64)),hH (.relen 1 ((setI l1 x1.type_ (addK .i64 x2 1)).map e_i64).length),oO (setM e_i64 l1 x1.type_ (addK .i64 x2 1)),rp 2 (oO (QuW e_i64 l1 x1.type_ (addK .i64 x2 1)))] (hI _ (oJ h))
 ·exact gn 5 [2,5] [0,1] [bF h1] (hE _ (oJ h))
theorem Qq1 (Γ:Gam) (rv:Bool) {x0 l l2} {s:Int} {e:(Unit) ⊕ (Bool)} (h:loopF (fun s=>QfD x0 l l2 s) s = some e) (hD:sel e (fun e=>Qnf Γ rv x0 l l2) (fun e=>e = rv)):Qn2 Γ rv x0 l l2 s:=by
 refine QaI (C:=fun (s:Int)=>Qn2 Γ rv x0 l l2 s) (D:=fun (e:(Unit) ⊕ (Bool))=>sel e (fun e=>Qnf Γ rv x0 l l2) (fun e=>e = rv)) ?_ h hD
 clear h hD s e
 intro v1 z_ h hI hE
 replace h:QfD x0 l l2 v1 = _:=h
 unfold QfD at h
 rcases Qai h with ⟨h5,h⟩|⟨h5,h⟩
 ·obtain ⟨x3,h6,h⟩:=Qae h
  obtain ⟨x4,h7,h⟩:=Qae h
  rcases Qai h with ⟨h8,h⟩|⟨h8,h⟩
  ·obtain rfl:=(hE _ (oJ h):_ = rv)
   exact gr 14 [] [bT h5,oO (getLo h6),oO (getHi e_i64 h6),rE e_i64 h6,cE Qal.enc h7,bT h8]
  ·exact gn 16 [2,29,30,31] [0,1] [bT h5,oO (getLo h6),oO (getHi e_i64 h6),rE e_i64 h6,cE Qal.enc h7,bF h8] (hI _ (oJ h))
 ·exact gn 5 [] [] [bF h5] (hE _ (oJ h))
theorem Qjn {x0 p} {rv:Bool} (h:Qgc x0 p = some rv):AFn Tryz.prog 109 [.agg (Qad.enc x0),.agg (Qap.enc p)] [] (one (.bool rv)) []:=by
 refine QaS Tryz.func109 (by kernel_rfl) (by kernel_rfl) (fun Γ=>?_)
 unfold Qgc at h
 obtain ⟨l,h0,h⟩:=Qae h
 obtain ⟨e0,h4,h⟩:=Qae h
 refine gn 9 [2,5,15,16,17] [0,2] [nL Qal.enc x0.types,hH (.cells [lI 0]),hH (.rows (l.map e_i64)),oO (mk1 h0),oO (mk2 h0),oO (mk3 h0),oO (mk4 h0),oO (mk5 e_i64 h0),nL Qab.enc p.routes] (Qq0 Γ rv h4 ?_)
 obtain ⟨l2,rfl⟩:∃ x,x = e0:=⟨_,rfl⟩
 replace h:(bnd (loopF (fun s=>QfD x0 l l2 s) 0) (fun e=>sel e (fun (_:Unit)=>some false) (fun r=>some r)):Option Bool) = some _:=h
 obtain ⟨e1,h9,h⟩:=Qae h
 refine gn 5 [2,29,30,31] [0,1] [nL e_i64 l2] (Qq1 Γ rv h9 ?_)
 rcases e1 with e1|e1
 ·replace h:(some false:Option Bool) = some _:=h
  obtain rfl:=Option.some.inj h
  exact gr 2 [] []
 ·obtain ⟨r,rfl⟩:∃ x,x = e1:=⟨_,rfl⟩
  replace h:(some r:Option Bool) = some _:=h
  exact Option.some.inj h
theorem QpH {i a c c1} {rv:Bool} (h:QnA i a c c1 = some rv):AFn Tryz.prog 108 [.one (lI i),.agg (Qak.enc a),.one (.ip [lL 1 c e_i64] 0),.one (.ip [lL 1 c1 e_i64] 0)] [] (one (.bool rv)) []:=by
 refine QaS Tryz.func108 (by kernel_rfl) (by kernel_rfl) (fun Γ=>?_)
 unfold QnA at h
 obtain ⟨x0,h0,h⟩:=Qae h
 obtain ⟨x1,h1,h⟩:=Qae h
 obtain rfl:=Option.some.inj h
 exact gr 4 [] [hH (.draw 11 []),cE e_i64 h0,cE e_i64 h1]
def Qkc (Γ:Gam) (rv:Bool) (cf:Cf):Prop:=Go Tryz.prog Tryz.f107 [] Γ (one (.bool rv)) [] cf
def Qie (Γ:Gam) (rv:Bool) (c:List Int) (c1:List Int) (c2:Qad) (v:Int):Prop:=Qkc Γ rv ⟨[.c 52,.l 52,.b 0,.c 7],⟨19,[(0,one (.fn (.func 108) [.ip [lL 1 c e_i64] 0,.ip [lL 1 c1 e_i64] 0])),vL 7 16 c2.orders Qak.enc,vI 8 (lenI c2.orders),vI 9 v],[]⟩⟩
def QhF (Γ:Gam) (rv:Bool) (c:List Int) (c1:List Int) (c2:Qad):Prop:=Qkc Γ rv ⟨[.c 7],⟨19,[],[]⟩⟩
theorem QmL (Γ:Gam) (rv:Bool) {c c1 c2} {s:Int} {e:(Unit) ⊕ (Bool)} (h:loopF (fun s=>Qbw c c1 c2 s) s = some e) (hD:sel e (fun e=>QhF Γ rv c c1 c2) (fun e=>e = rv)):Qie Γ rv c c1 c2 s:=by
 refine QaI (C:=fun (s:Int)=>Qie Γ rv c c1 c2 s) (D:=fun (e:(Unit) ⊕ (Bool))=>sel e (fun e=>QhF Γ rv c c1 c2) (fun e=>e = rv)) ?_ h hD
 clear h hD s e
 intro v z_ h hI hE
 replace h:Qbw c c1 c2 v = _:=h
 unfold Qbw at h
 rcases Qai h with ⟨h0,h⟩|⟨h0,h⟩
 ·obtain ⟨x0,h1,h⟩:=Qae h
  obtain ⟨r,h2,h⟩:=Qae h
  rcases Qai h with ⟨h3,h⟩|⟨h3,h⟩
  ·obtain rfl:=(hE _ (oJ h):_ = rv)
   exact gr 14 [] [bT h0,cE Qak.enc h1,cC (QpH h2),bT h3]
  ·exact gn 16 [0,7,8,9] [] [bT h0,cE Qak.enc h1,cC (QpH h2),bF h3] (hI _ (oJ h))
 ·exact gn 5 [] [] [bF h0] (hE _ (oJ h))
theorem Qdv {c c1 c2} {rv:Bool} (h:QeU c c1 c2 = some rv):AFn Tryz.prog 107 [.one (.fn (.func 108) [.ip [lL 1 c e_i64] 0,.ip [lL 1 c1 e_i64] 0]),.one (.ip (Qad.enc c2) 0)] [] (one (.bool rv)) []:=by
 refine QaS Tryz.func107 (by kernel_rfl) (by kernel_rfl) (fun Γ=>?_)
 unfold QeU at h
 obtain ⟨e0,h4,h⟩:=Qae h
 refine gn 7 [0,7,8,9] [] [nL Qak.enc c2.orders] (QmL Γ rv h4 ?_)
 rcases e0 with e0|e0
 ·replace h:(some false:Option Bool) = some _:=h
  obtain rfl:=Option.some.inj h
  exact gr 2 [] []
 ·obtain ⟨r1,rfl⟩:∃ x,x = e0:=⟨_,rfl⟩
  replace h:(some r1:Option Bool) = some _:=h
  exact Option.some.inj h
theorem QpI {i o c} {rv:Bool} (h:QnB i o c = some rv):AFn Tryz.prog 110 [.one (lI i),.agg (Qak.enc o),.one (.ip [lL 1 c e_i64] 0)] [] (one (.bool rv)) []:=by
 refine QaS Tryz.func110 (by kernel_rfl) (by kernel_rfl) (fun Γ=>?_)
 unfold QnB at h
 rcases Qai h with ⟨h0,h⟩|⟨h0,h⟩
 ·obtain ⟨x0,h1,h⟩:=Qae h
  obtain rfl:=Option.some.inj h
  exact gr 4 [] [rp 3 (bT h0),cE e_i64 h1,rp 3 (bT h0)]
 ·obtain rfl:=Option.some.inj h
  exact gr 4 [] [rp 6 (bF h0)]
def Qkd (Γ:Gam) (rv:Bool) (cf:Cf):Prop:=Go Tryz.prog Tryz.f107 [] Γ (one (.bool rv)) [] cf
def Qif (Γ:Gam) (rv:Bool) (c:List Int) (c1:Qad) (v:Int):Prop:=Qkd Γ rv ⟨[.c 52,.l 52,.b 0,.c 7],⟨19,[(0,one (.fn (.func 110) [.ip [lL 1 c e_i64] 0])),vL 7 16 c1.orders Qak.enc,vI 8 (lenI c1.orders),vI 9 v],[]⟩⟩
def QhG (Γ:Gam) (rv:Bool) (c:List Int) (c1:Qad):Prop:=Qkd Γ rv ⟨[.c 7],⟨19,[],[]⟩⟩
theorem QmM (Γ:Gam) (rv:Bool) {c c1} {s:Int} {e:(Unit) ⊕ (Bool)} (h:loopF (fun s=>Qbx c c1 s) s = some e) (hD:sel e (fun e=>QhG Γ rv c c1) (fun e=>e = rv)):Qif Γ rv c c1 s:=by
 refine QaI (C:=fun (s:Int)=>Qif Γ rv c c1 s) (D:=fun (e:(Unit) ⊕ (Bool))=>sel e (fun e=>QhG Γ rv c c1) (fun e=>e = rv)) ?_ h hD
 clear h hD s e
 intro v z_ h hI hE
 replace h:Qbx c c1 v = _:=h
 unfold Qbx at h
 rcases Qai h with ⟨h0,h⟩|⟨h0,h⟩
 ·obtain ⟨x0,h1,h⟩:=Qae h
  obtain ⟨r,h2,h⟩:=Qae h
  rcases Qai h with ⟨h3,h⟩|⟨h3,h⟩
  ·obtain rfl:=(hE _ (oJ h):_ = rv)
   exact gr 14 [] [bT h0,cE Qak.enc h1,cC (QpI h2),bT h3]
  ·exact gn 16 [0,7,8,9] [] [bT h0,cE Qak.enc h1,cC (QpI h2),bF h3] (hI _ (oJ h))
 ·exact gn 5 [] [] [bF h0] (hE _ (oJ h))
theorem Qgt {c c1} {rv:Bool} (h:QeV c c1 = some rv):AFn Tryz.prog 107 [.one (.fn (.func 110) [.ip [lL 1 c e_i64] 0]),.one (.ip (Qad.enc c1) 0)] [] (one (.bool rv)) []:=by
 refine QaS Tryz.func107 (by kernel_rfl) (by kernel_rfl) (fun Γ=>?_)
 unfold QeV at h
 obtain ⟨e0,h4,h⟩:=Qae h
 refine gn 7 [0,7,8,9] [] [nL Qak.enc c1.orders] (QmM Γ rv h4 ?_)
 rcases e0 with e0|e0
 ·replace h:(some false:Option Bool) = some _:=h
  obtain rfl:=Option.some.inj h
  exact gr 2 [] []
 ·obtain ⟨r1,rfl⟩:∃ x,x = e0:=⟨_,rfl⟩
  replace h:(some r1:Option Bool) = some _:=h
  exact Option.some.inj h
theorem QpJ {i o c c1} {rv:Bool} (h:QnC i o c c1 = some rv):AFn Tryz.prog 111 [.one (lI i),.agg (Qak.enc o),.one (.ip [lL 1 c e_i64] 0),.one (.ip [lL 1 c1 e_i64] 0)] [] (one (.bool rv)) []:=by
 refine QaS Tryz.func111 (by kernel_rfl) (by kernel_rfl) (fun Γ=>?_)
 unfold QnC at h
 rcases Qai h with ⟨h0,h⟩|⟨h0,h⟩
 ·obtain rfl:=Option.some.inj h
  exact gr 4 [] [hH (.draw 28 []),rp 11 (nF h0),rp 10 kF,nF h0,nF h0]
 ·obtain ⟨x0,h1,h⟩:=Qae h
  obtain ⟨x1,h2,h⟩:=Qae h
  rcases Qai h with ⟨h3,h⟩|⟨h3,h⟩
  ·obtain rfl:=Option.some.inj h
   exact gr 4 [] [hH (.draw 28 []),rp 3 (nT h0),cE e_i64 h1,rp 4 (nT h0),cE e_i64 h2,rp 4 (nT h0),rp 6 (bT h3),kF,kF,kF,bT h3,nT h0,bT h3,nT h0]
  ·obtain rfl:=Option.some.inj h
   exact gr 4 [] [hH (.draw 28 []),rp 3 (nT h0),cE e_i64 h1,rp 4 (nT h0),cE e_i64 h2,rp 4 (nT h0),rp 3 (bF h3),cE e_i64 h2,rp 3 (bF h3),hP,hP,hP,rp 2 (oI ((gtI x1 0) = true)),bF h3,hP,oR True ((gtI x1 0) = true),nT h0,bF h3,nT h0]
def Qke (Γ:Gam) (rv:Bool) (cf:Cf):Prop:=Go Tryz.prog Tryz.f107 [] Γ (one (.bool rv)) [] cf
def Qig (Γ:Gam) (rv:Bool) (c:List Int) (c1:List Int) (c2:Qad) (v:Int):Prop:=Qke Γ rv ⟨[.c 52,.l 52,.b 0,.c 7],⟨19,[(0,one (.fn (.func 111) [.ip [lL 1 c e_i64] 0,.ip [lL 1 c1 e_i64] 0])),vL 7 16 c2.orders Qak.enc,vI 8 (lenI c2.orders),vI 9 v],[]⟩⟩
def QhH (Γ:Gam) (rv:Bool) (c:List Int) (c1:List Int) (c2:Qad):Prop:=Qke Γ rv ⟨[.c 7],⟨19,[],[]⟩⟩
theorem QmN (Γ:Gam) (rv:Bool) {c c1 c2} {s:Int} {e:(Unit) ⊕ (Bool)} (h:loopF (fun s=>Qby c c1 c2 s) s = some e) (hD:sel e (fun e=>QhH Γ rv c c1 c2) (fun e=>e = rv)):Qig Γ rv c c1 c2 s:=by
 refine QaI (C:=fun (s:Int)=>Qig Γ rv c c1 c2 s) (D:=fun (e:(Unit) ⊕ (Bool))=>sel e (fun e=>QhH Γ rv c c1 c2) (fun e=>e = rv)) ?_ h hD
 clear h hD s e
 intro v z_ h hI hE
 replace h:Qby c c1 c2 v = _:=h
 unfold Qby at h
 rcases Qai h with ⟨h0,h⟩|⟨h0,h⟩
 ·obtain ⟨x0,h1,h⟩:=Qae h
  obtain ⟨r,h2,h⟩:=Qae h
  rcases Qai h with ⟨h3,h⟩|⟨h3,h⟩
  ·obtain rfl:=(hE _ (oJ h):_ = rv)
   exact gr 14 [] [bT h0,cE Qak.enc h1,cC (QpJ h2),bT h3]
  ·exact gn 16 [0,7,8,9] [] [bT h0,cE Qak.enc h1,cC (QpJ h2),bF h3] (hI _ (oJ h))
 ·exact gn 5 [] [] [bF h0] (hE _ (oJ h))
theorem Qi0 {c c1 c2} {rv:Bool} (h:QeW c c1 c2 = some rv):AFn Tryz.prog 107 [.one (.fn (.func 111) [.ip [lL 1 c e_i64] 0,.ip [lL 1 c1 e_i64] 0]),.one (.ip (Qad.enc c2) 0)] [] (one (.bool rv)) []:=by
 refine QaS Tryz.func107 (by kernel_rfl) (by kernel_rfl) (fun Γ=>?_)
 unfold QeW at h
 obtain ⟨e0,h4,h⟩:=Qae h
 refine gn 7 [0,7,8,9] [] [nL Qak.enc c2.orders] (QmN Γ rv h4 ?_)
 rcases e0 with e0|e0
 ·replace h:(some false:Option Bool) = some _:=h
  obtain rfl:=Option.some.inj h
  exact gr 2 [] []
 ·obtain ⟨r1,rfl⟩:∃ x,x = e0:=⟨_,rfl⟩
  replace h:(some r1:Option Bool) = some _:=h
  exact Option.some.inj h
def Qsc (Γ:Gam) (rv:Int) (cf:Cf):Prop:=Go Tryz.prog Tryz.f63 [] Γ (one (lI rv)) [] cf
def QpK (Γ:Gam) (rv:Int) (x0:Qad) (p:Qap) (v:Int):Prop:=Qsc Γ rv ⟨[.c 52,.l 52,.b 0,.c 7],⟨52,[vP 2 0 6,vP 3 1 2,vL 13 4 p.routes Qab.enc,vI 14 (lenI p.routes),vI 15 v],[oX 6 30 (Qad.enc x0),oX 2 45 (Qap.enc p)]⟩⟩
def QoY (Γ:Gam) (rv:Int) (x0:Qad) (p:Qap):Prop:=Qsc Γ rv ⟨[.c 7],⟨52,[vP 2 0 6,vP 3 1 2],[oX 6 30 (Qad.enc x0),oX 2 45 (Qap.enc p)]⟩⟩
theorem Qsd (Γ:Gam) (rv:Int) {x0 p} {s:Int} {e:(Unit) ⊕ (Int)} (h:loopF (fun s=>Qey x0 p s) s = some e) (hD:sel e (fun e=>QoY Γ rv x0 p) (fun e=>e = rv)):QpK Γ rv x0 p s:=by
 refine QaI (C:=fun (s:Int)=>QpK Γ rv x0 p s) (D:=fun (e:(Unit) ⊕ (Int))=>sel e (fun e=>QoY Γ rv x0 p) (fun e=>e = rv)) ?_ h hD
 clear h hD s e
 intro v z_ h hI hE
 replace h:Qey x0 p v = _:=h
 unfold Qey at h
 rcases Qai h with ⟨h0,h⟩|⟨h0,h⟩
 ·obtain ⟨x1,h1,h⟩:=Qae h
  obtain ⟨r,h2,h⟩:=Qae h
  rcases Qai h with ⟨h3,h⟩|⟨h3,h⟩
  ·obtain rfl:=(hE _ (oJ h):_ = rv)
   exact gr 16 [] [bT h0,cE Qab.enc h1,cC (Qqz h2),bT h3]
  ·exact gn 18 [2,3,13,14,15] [0,1] [bT h0,cE Qab.enc h1,cC (Qqz h2),bF h3] (hI _ (oJ h))
 ·exact gn 5 [2,3] [0,1] [bF h0] (hE _ (oJ h))
theorem Qrm {x0 p} {rv:Int} (h:Qkb x0 p = some rv):AFn Tryz.prog 63 [.agg (Qad.enc x0),.agg (Qap.enc p)] [] (one (lI rv)) []:=by
 refine QaS Tryz.func63 (by kernel_rfl) (by kernel_rfl) (fun Γ=>?_)
 unfold Qkb at h
 obtain ⟨e0,h4,h⟩:=Qae h
 refine gn 7 [2,3,13,14,15] [0,1] [nL Qab.enc p.routes] (Qsd Γ rv h4 ?_)
 rcases e0 with e0|e0
 ·replace h:(bnd (Qhb x0 p) fun r1=>br r1.2.2 (bnd (QeU r1.1 r1.2.1 x0) fun r2=>br r2 (some 6) (bnd (Qgc x0 p) fun r3=>br r3 (some 22) (bnd (QeV r1.2.1 x0) fun r4=>br r4 (some 9) (bnd (QeW r1.1 r1.2.1 x0) fun r5=>br r5 (some 23) (some 0))))) (some 2):Option Int) = some _:=h
  obtain ⟨r1,h5,h⟩:=Qae h
  rcases Qai h with ⟨h6,h⟩|⟨h6,h⟩
  ·obtain ⟨r2,h7,h⟩:=Qae h
   rcases Qai h with ⟨h8,h⟩|⟨h8,h⟩
   ·obtain rfl:=Option.some.inj h
    exact gr 16 [] [cC (Qhc h5),nF h6,cC (Qdv h7),bT h8]
   ·obtain ⟨r3,h9,h⟩:=Qae h
    rcases Qai h with ⟨h10,h⟩|⟨h10,h⟩
    ·obtain rfl:=Option.some.inj h
     exact gr 19 [] [cC (Qhc h5),nF h6,cC (Qdv h7),bF h8,cC (Qjn h9),bT h10]
    ·obtain ⟨r4,h11,h⟩:=Qae h
     rcases Qai h with ⟨h12,h⟩|⟨h12,h⟩
     ·obtain rfl:=Option.some.inj h
      exact gr 22 [] [cC (Qhc h5),nF h6,cC (Qdv h7),bF h8,cC (Qjn h9),bF h10,cC (Qgt h11),bT h12]
     ·obtain ⟨r5,h13,h⟩:=Qae h
      rcases Qai h with ⟨h14,h⟩|⟨h14,h⟩
      ·obtain rfl:=Option.some.inj h
       exact gr 25 [] [cC (Qhc h5),nF h6,cC (Qdv h7),bF h8,cC (Qjn h9),bF h10,cC (Qgt h11),bF h12,cC (Qi0 h13),bT h14]
      ·obtain rfl:=Option.some.inj h
       exact gr 27 [] [cC (Qhc h5),nF h6,cC (Qdv h7),bF h8,cC (Qjn h9),bF h10,cC (Qgt h11),bF h12,cC (Qi0 h13),bF h14]
  ·obtain rfl:=Option.some.inj h
   exact gr 8 [] [cC (Qhc h5),nT h6]
 ·obtain ⟨r6,rfl⟩:∃ x,x = e0:=⟨_,rfl⟩
  replace h:(some r6:Option Int) = some _:=h
  exact Option.some.inj h
theorem Qft {s0} {rv:Qtd} (h:Qij s0 = some rv):AFn Tryz.prog 66 [.agg (Qao.enc s0)] [] (gG [lI rv.x0,lI rv.x1,lI rv.x2,lI rv.x3]) []:=by
 refine QaS Tryz.func66 (by kernel_rfl) (by kernel_rfl) (fun Γ=>?_)
 unfold Qij at h
 obtain rfl:=Option.some.inj h
 exact gr 4 [] []
theorem Quj {l} {rv:Qao} (h:Qo5 l = some rv):AFn Tryz.prog 112 [.agg (Qtd.enc l)] [] (gG [lI rv.cost,lI rv.moved,lI rv.other,lI rv.work]) []:=by
 refine QaS Tryz.func112 (by kernel_rfl) (by kernel_rfl) (fun Γ=>?_)
 unfold Qo5 at h
 obtain rfl:=Option.some.inj h
 exact gr 4 [] [oO (zL 0),oO (lT 0 4),oO (zL 1),oO (lT 1 4),oO (zL 2),oO (lT 2 4),oO (zL 3),oO (lT 3 4)]
theorem Qsh {a b} {rv:Qao} (h:Qpj a b = some rv):AFn Tryz.prog 64 [.agg (Qao.enc a),.agg (Qao.enc b)] [] (gG [lI rv.cost,lI rv.moved,lI rv.other,lI rv.work]) []:=by
 refine QaS Tryz.func64 (by kernel_rfl) (by kernel_rfl) (fun Γ=>?_)
 unfold Qpj at h
 obtain ⟨r,h0,h⟩:=Qae h
 obtain ⟨r1,h1,h⟩:=Qae h
 obtain ⟨r2,h2,h⟩:=Qae h
 obtain rfl:=Option.some.inj h
 exact gr 68 [] [hH (.draw 6 []),cC (Qft h0),cC (Qft h1),tT,hH (.draw 8 []),oO (zL 0),oO (lT 0 4),oO (zL 0),oO (lT 0 4),oO (zL 0),oO (lT 0 4),tT,hH (.draw 8 []),oO (zL 1),oO (lT 1 4),oO (zL 1),oO (lT 1 4),oO (zL 1),oO (lT 1 4),tT,hH (.draw 8 []),oO (zL 2),oO (lT 2 4),oO (zL 2),oO (lT 2 4),oO (zL 2),oO (lT 2 4),tT,hH (.draw 8 []),oO (zL 3),oO (lT 3 4),oO (zL 3),oO (lT 3 4),oO (zL 3),oO (lT 3 4),fF,cC (Quj h2)]
theorem Qn4 {x0 order} {rv:Qao × Int} (h:Qle x0 order = some rv):AFn Tryz.prog 65 [.agg (Qad.enc x0),.one (lI order)] [] (.tup [.agg [lI rv.1.cost,lI rv.1.moved,lI rv.1.other,lI rv.1.work],.one (lI rv.2)]) []:=by
 refine QaS Tryz.func65 (by kernel_rfl) (by kernel_rfl) (fun Γ=>?_)
 unfold Qle at h
 rcases Qai h with ⟨h0,h⟩|⟨h0,h⟩
 ·obtain rfl:=Option.some.inj h
  exact gr 8 [] [rp 4 hP,rp 2 (oI ((ltI order 0) = false)),nL Qak.enc x0.orders,hP,hP,rp 2 (oI ((ltI order 0) = false)),oR True ((ltI order 0) = false),bT h0]
 ·obtain ⟨x1,h1,h⟩:=Qae h
  rcases Qai h with ⟨h2,h⟩|⟨h2,h⟩
  ·obtain rfl:=Option.some.inj h
   exact gr 16 [] [rp 4 hP,rp 2 (oI ((ltI order 0) = false)),nL Qak.enc x0.orders,hP,hP,rp 2 (oI ((ltI order 0) = false)),oR True ((ltI order 0) = false),bF h0,cE Qak.enc h1,bT h2]
  ·rcases Qai h with ⟨h3,h⟩|⟨h3,h⟩
   ·obtain rfl:=Option.some.inj h
    exact gr 19 [] [rp 4 hP,rp 2 (oI ((ltI order 0) = false)),nL Qak.enc x0.orders,hP,hP,rp 2 (oI ((ltI order 0) = false)),oR True ((ltI order 0) = false),bF h0,cE Qak.enc h1,bF h2,bT h3]
   ·rcases Qai h with ⟨h4,h⟩|⟨h4,h⟩
    ·obtain rfl:=Option.some.inj h
     exact gr 28 [] [rp 4 hP,rp 2 (oI ((ltI order 0) = false)),nL Qak.enc x0.orders,hP,hP,rp 2 (oI ((ltI order 0) = false)),oR True ((ltI order 0) = false),bF h0,cE Qak.enc h1,bF h2,bF h3,bT h4]
    ·obtain rfl:=Option.some.inj h
     exact gr 28 [] [rp 4 hP,rp 2 (oI ((ltI order 0) = false)),nL Qak.enc x0.orders,hP,hP,rp 2 (oI ((ltI order 0) = false)),oR True ((ltI order 0) = false),bF h0,cE Qak.enc h1,bF h2,bF h3,bF h4]
def QnD (Γ:Gam) (rv:Qao × Int) (cf:Cf):Prop:=Go Tryz.prog Tryz.f37 [] Γ (.tup [.agg [lI rv.1.cost,lI rv.1.moved,lI rv.1.other,lI rv.1.work],.one (lI rv.2)]) [] cf
def QpL (Γ:Gam) (rv:Qao × Int) (x0:Qad) (p:Qap) (cost:Int) (moved:Int) (other:Int) (work:Int) (v:Int):Prop:=QnD Γ rv ⟨[.c 244,.l 244,.b 0,.c 31],⟨68,[vP 2 0 6,vP 3 1 2,vP 4 2 4,vP 7 3 4,vL 25 4 p.routes Qab.enc,vI 26 (lenI p.routes),vI 27 v],[oX 6 30 (Qad.enc x0),oX 2 45 (Qap.enc p),oX 4 62 [lI 0,lI 0,lI 0,lI 0],oX 4 62 [lI cost,lI moved,lI other,lI work]]⟩⟩
def QoZ (Γ:Gam) (rv:Qao × Int) (x0:Qad) (p:Qap) (x2:Qao):Prop:=QnD Γ rv ⟨[.c 31],⟨68,[vP 2 0 6,vP 3 1 2,vP 4 2 4,vP 7 3 4],[oX 6 30 (Qad.enc x0),oX 2 45 (Qap.enc p),oX 4 62 [lI 0,lI 0,lI 0,lI 0],oX 4 62 (Qao.enc x2)]⟩⟩
def QpM (Γ:Gam) (rv:Qao × Int) (x0:Qad) (p:Qap) (x3:Qao) (v1:Int):Prop:=QnD Γ rv ⟨[.c 500,.l 500,.b 2,.c 63],⟨68,[vP 2 0 6,vP 4 1 4,vP 7 2 4,vL 47 1 p.unserved e_i64,vI 48 (lenI p.unserved),vI 49 v1],[oX 6 30 (Qad.enc x0),oX 4 62 [lI 0,lI 0,lI 0,lI 0],oX 4 62 (Qao.enc x3)]⟩⟩
def Qo0 (Γ:Gam) (rv:Qao × Int) (x0:Qad) (p:Qap) (x5:Qao):Prop:=QnD Γ rv ⟨[.c 63],⟨68,[vP 4 0 4,vP 7 1 4],[oX 4 62 [lI 0,lI 0,lI 0,lI 0],oX 4 62 (Qao.enc x5)]⟩⟩
theorem Qse (Γ:Gam) (rv:Qao × Int) {x0 p} {s:Int × Int × Int × Int × Int} {e:(Qao) ⊕ (Qao × Int)} (h:loopF (fun s=>Qfr x0 p s.1 s.2.1 s.2.2.1 s.2.2.2.1 s.2.2.2.2) s = some e) (hD:sel e (fun e=>QoZ Γ rv x0 p e) (fun e=>e = rv)):QpL Γ rv x0 p s.1 s.2.1 s.2.2.1 s.2.2.2.1 s.2.2.2.2:=by
 refine QaI (C:=fun (s:Int × Int × Int × Int × Int)=>QpL Γ rv x0 p s.1 s.2.1 s.2.2.1 s.2.2.2.1 s.2.2.2.2) (D:=fun (e:(Qao) ⊕ (Qao × Int))=>sel e (fun e=>QoZ Γ rv x0 p e) (fun e=>e = rv)) ?_ h hD
 clear h hD s e
 rintro ⟨cost,moved,other,work,v⟩ z_ h hI hE
 replace h:Qfr x0 p cost moved other work v = _:=h
 unfold Qfr at h
 rcases Qai h with ⟨h2,h⟩|⟨h2,h⟩
 ·obtain ⟨x1,h3,h⟩:=Qae h
  obtain ⟨r1,h4,h⟩:=Qae h
  rcases Qai h with ⟨h5,h⟩|⟨h5,h⟩
  ·obtain rfl:=(hE _ (oJ h):_ = rv)
   exact gr 17 [] [bT h2,cE Qab.enc h3,cC (Qel h4),bT h5]
  ·obtain ⟨r2,h6,h⟩:=Qae h
   exact gn 20 [2,3,4,7,25,26,27] [0,1,2,3] [bT h2,cE Qab.enc h3,cC (Qel h4),bF h5,cC (Qsh h6)] (hI _ (oJ h))
 ·exact gn 5 [2,3,4,7] [0,1,2,3] [bF h2] (hE _ (oJ h))
theorem Qsf (Γ:Gam) (rv:Qao × Int) {x0 p} {s:Qao × Int} {e:(Qao) ⊕ (Qao × Int)} (h:loopF (fun s=>Qfs x0 p s.1 s.2) s = some e) (hD:sel e (fun e=>Qo0 Γ rv x0 p e) (fun e=>e = rv)):QpM Γ rv x0 p s.1 s.2:=by
 refine QaI (C:=fun (s:Qao × Int)=>QpM Γ rv x0 p s.1 s.2) (D:=fun (e:(Qao) ⊕ (Qao × Int))=>sel e (fun e=>Qo0 Γ rv x0 p e) (fun e=>e = rv)) ?_ h hD
 clear h hD s e
 rintro ⟨x3,v1⟩ z_ h hI hE
 replace h:Qfs x0 p x3 v1 = _:=h
 unfold Qfs at h
 rcases Qai h with ⟨h8,h⟩|⟨h8,h⟩
 ·obtain ⟨x4,h9,h⟩:=Qae h
  obtain ⟨r3,h10,h⟩:=Qae h
  rcases Qai h with ⟨h11,h⟩|⟨h11,h⟩
  ·obtain rfl:=(hE _ (oJ h):_ = rv)
   exact gr 17 [] [bT h8,cE e_i64 h9,cC (Qn4 h10),bT h11]
  ·obtain ⟨r4,h12,h⟩:=Qae h
   exact gn 20 [2,4,7,47,48,49] [0,1,2] [bT h8,cE e_i64 h9,cC (Qn4 h10),bF h11,cC (Qsh h12)] (hI _ (oJ h))
 ·exact gn 5 [4,7] [1,2] [bF h8] (hE _ (oJ h))
theorem Qrn {x0 p} {rv:Qao × Int} (h:Qkf x0 p = some rv):AFn Tryz.prog 37 [.agg (Qad.enc x0),.agg (Qap.enc p)] [] (.tup [.agg [lI rv.1.cost,lI rv.1.moved,lI rv.1.other,lI rv.1.work],.one (lI rv.2)]) []:=by
 refine QaS Tryz.func37 (by kernel_rfl) (by kernel_rfl) (fun Γ=>?_)
 unfold Qkf at h
 obtain ⟨r,h0,h⟩:=Qae h
 rcases Qai h with ⟨h1,h⟩|⟨h1,h⟩
 ·obtain rfl:=Option.some.inj h
  exact gr 10 [] [cC (Qrm h0),bT h1]
 ·obtain ⟨e0,h7,h⟩:=Qae h
  refine gn 16 [2,3,4,7,25,26,27] [0,1,2,3] [cC (Qrm h0),bF h1,nL Qab.enc p.routes] (Qse Γ rv h7 ?_)
  rcases e0 with e0|e0
  ·obtain ⟨x2,rfl⟩:∃ x,x = e0:=⟨_,rfl⟩
   replace h:(bnd (loopF (fun s=>Qfs x0 p s.1 s.2) (x2,0)) (fun e=>sel e (fun x5=>some (x5,0)) (fun r5=>some r5)):Option (Qao × Int)) = some _:=h
   obtain ⟨e1,h13,h⟩:=Qae h
   refine gn 5 [2,4,7,47,48,49] [0,2,3] [nL e_i64 p.unserved] (Qsf Γ rv h13 ?_)
   rcases e1 with e1|e1
   ·obtain ⟨x5,rfl⟩:∃ x,x = e1:=⟨_,rfl⟩
    replace h:(some (x5,0):Option (Qao × Int)) = some _:=h
    obtain rfl:=Option.some.inj h
    exact gr 2 [] []
   ·obtain ⟨r5,rfl⟩:∃ x,x = e1:=⟨_,rfl⟩
    replace h:(some r5:Option (Qao × Int)) = some _:=h
    exact Option.some.inj h
  ·obtain ⟨r6,rfl⟩:∃ x,x = e0:=⟨_,rfl⟩
   replace h:(some r6:Option (Qao × Int)) = some _:=h
   exact Option.some.inj h
theorem QsJ {s0} {rv:Int × Int} (h:QlQ s0 = some rv):AFn Tryz.prog 38 [.agg (Qao.enc s0)] [] (.tup [.one (lI rv.1),.one (lI rv.2)]) []:=by
 refine QaS Tryz.func38 (by kernel_rfl) (by kernel_rfl) (fun Γ=>?_)
 unfold QlQ at h
 obtain ⟨r,h0,h⟩:=Qae h
 rcases Qai h with ⟨h1,h⟩|⟨h1,h⟩
 ·obtain rfl:=Option.some.inj h
  exact gr 23 [] [cC (Qft h0),tT,oO (zL 0),oO (lT 0 4),bT h1]
 ·rcases Qai h with ⟨h2,h⟩|⟨h2,h⟩
  ·obtain rfl:=Option.some.inj h
   exact gr 39 [] [cC (Qft h0),tT,oO (zL 0),oO (lT 0 4),bF h1,tT,oO (zL 1),oO (lT 1 4),bT h2]
  ·rcases Qai h with ⟨h3,h⟩|⟨h3,h⟩
   ·obtain rfl:=Option.some.inj h
    exact gr 55 [] [cC (Qft h0),tT,oO (zL 0),oO (lT 0 4),bF h1,tT,oO (zL 1),oO (lT 1 4),bF h2,tT,oO (zL 2),oO (lT 2 4),bT h3]
   ·rcases Qai h with ⟨h4,h⟩|⟨h4,h⟩
    ·obtain rfl:=Option.some.inj h
     exact gr 71 [] [cC (Qft h0),tT,oO (zL 0),oO (lT 0 4),bF h1,tT,oO (zL 1),oO (lT 1 4),bF h2,tT,oO (zL 2),oO (lT 2 4),bF h3,tT,oO (zL 3),oO (lT 3 4),bT h4]
    ·rcases Qai h with ⟨h5,h⟩|⟨h5,h⟩
     ·obtain rfl:=Option.some.inj h
      exact gr 84 [] [cC (Qft h0),tT,oO (zL 0),oO (lT 0 4),bF h1,tT,oO (zL 1),oO (lT 1 4),bF h2,tT,oO (zL 2),oO (lT 2 4),bF h3,tT,oO (zL 3),oO (lT 3 4),bF h4,fF,rp 12 hP,rp 2 (oI ((gtI s0.cost 1073741824) = false)),oR True ((gtI s0.cost 1073741824) = false),rp 2 (oI (((gtI s0.cost 1073741824) || (geI s0.moved 16)) = false)),oR True (((gtI s0.cost 1073741824) || (geI s0.moved 16)) = false),rp 2 (oI ((((gtI s0.cost 1073741824) || (geI s0.moved 16)) || (geI s0.other 16)) = false)),oR True ((((gtI s0.cost 1073741824) || (geI s0.moved 16)) || (geI s0.other 16)) = false),bT h5]
     ·obtain rfl:=Option.some.inj h
      exact gr 85 [] [cC (Qft h0),tT,oO (zL 0),oO (lT 0 4),bF h1,tT,oO (zL 1),oO (lT 1 4),bF h2,tT,oO (zL 2),oO (lT 2 4),bF h3,tT,oO (zL 3),oO (lT 3 4),bF h4,fF,rp 12 hP,rp 2 (oI ((gtI s0.cost 1073741824) = false)),oR True ((gtI s0.cost 1073741824) = false),rp 2 (oI (((gtI s0.cost 1073741824) || (geI s0.moved 16)) = false)),oR True (((gtI s0.cost 1073741824) || (geI s0.moved 16)) = false),rp 2 (oI ((((gtI s0.cost 1073741824) || (geI s0.moved 16)) || (geI s0.other 16)) = false)),oR True ((((gtI s0.cost 1073741824) || (geI s0.moved 16)) || (geI s0.other 16)) = false),bF h5]
theorem Qih {x0 p} {rv:Int × Int} (h:Qg1 x0 p = some rv):AFn Tryz.prog 23 [.agg (Qad.enc x0),.agg (Qap.enc p)] [] (.tup [.one (lI rv.1),.one (lI rv.2)]) []:=by
 refine QaS Tryz.func23 (by kernel_rfl) (by kernel_rfl) (fun Γ=>?_)
 unfold Qg1 at h
 obtain ⟨r,h0,h⟩:=Qae h
 rcases Qai h with ⟨h1,h⟩|⟨h1,h⟩
 ·obtain rfl:=Option.some.inj h
  exact gr 10 [] [cC (Qrn h0),bT h1]
 ·obtain ⟨r1,h2,h⟩:=Qae h
  obtain rfl:=Option.some.inj h
  exact gr 11 [] [cC (Qrn h0),bF h1,cC (QsJ h2)]
def Qfh (Γ:Gam) (rv:Bool) (cf:Cf):Prop:=Go Tryz.prog Tryz.f7 [] Γ (one (.bool rv)) [] cf
def Qh4 (Γ:Gam) (rv:Bool) (x0:Qad) (p:Qap) (now:Int) (r3:Int × Int) (l:List Qab) (v:Int) (x1:Qab) (r5:Qam × Qao × Int) (l1:List Bool) (v1:Int):Prop:=Qfh Γ rv ⟨[.c 4148468,.l 4148468,.b 2,.c 518559,.b 1,.c 8103,.l 1012,.b 0,.c 127],⟨143,[vI 2 now,vP 3 0 6,vP 4 1 2,vI 7 r3.1,vP 9 2 2,vP 11 3 4,vL 53 4 p.routes Qab.enc,vI 54 (lenI p.routes),vI 55 v,vL 73 4 r5.1.times Qaq.enc,vI 74 (lenI r5.1.times),vI 75 v1],[oX 6 30 (Qad.enc x0),oX 2 45 (Qap.enc p),oX 2 45 [lO 4 4 l Qab.enc,lL 1 p.unserved e_i64],oX 4 34 [lI x1.type_,lI x1.start,lO 5 1 l1 Qa5,lL 2 x1.visits Qac.enc],oS 4 34 l Qab.enc,oS 1 4 l1 Qa5]⟩⟩
def Qhw (Γ:Gam) (rv:Bool) (x0:Qad) (p:Qap) (now:Int) (r3:Int × Int) (l:List Qab) (v:Int) (x1:Qab) (r5:Qam × Qao × Int) (l2:List Bool):Prop:=Qfh Γ rv ⟨[.c 518559,.b 1,.c 8103,.l 1012,.b 0,.c 127],⟨143,[vI 2 now,vP 3 0 6,vP 4 1 2,vI 7 r3.1,vP 9 2 2,vP 11 3 4,vL 53 4 p.routes Qab.enc,vI 54 (lenI p.routes),vI 55 v],[oX 6 30 (Qad.enc x0),oX 2 45 (Qap.enc p),oX 2 45 [lO 4 4 l Qab.enc,lL 1 p.unserved e_i64],oX 4 34 [lI x1.type_,lI x1.start,lO 5 1 l2 Qa5,lL 2 x1.visits Qac.enc],oS 4 34 l Qab.enc,oS 1 4 l2 Qa5]⟩⟩
def Qh3 (Γ:Gam) (rv:Bool) (x0:Qad) (p:Qap) (now:Int) (r3:Int × Int) (l:List Qab) (v:Int):Prop:=Qfh Γ rv ⟨[.c 1012,.l 1012,.b 0,.c 127],⟨143,[vI 2 now,vP 3 0 6,vP 4 1 2,vI 7 r3.1,vP 9 2 2,vL 53 4 p.routes Qab.enc,vI 54 (lenI p.routes),vI 55 v],[oX 6 30 (Qad.enc x0),oX 2 45 (Qap.enc p),oX 2 45 [lO 3 4 l Qab.enc,lL 1 p.unserved e_i64],oS 4 34 l Qab.enc]⟩⟩
def Qhv (Γ:Gam) (rv:Bool) (x0:Qad) (p:Qap) (now:Int) (r3:Int × Int) (l3:List Qab):Prop:=Qfh Γ rv ⟨[.c 127],⟨143,[vI 2 now,vP 3 0 6,vP 4 1 2,vI 7 r3.1,vP 9 2 2],[oX 6 30 (Qad.enc x0),oX 2 45 (Qap.enc p),oX 2 45 [lO 3 4 l3 Qab.enc,lL 1 p.unserved e_i64],oS 4 34 l3 Qab.enc]⟩⟩
theorem QmD (Γ:Gam) (rv:Bool) {x0 p now r3 l v x1 r5} {s:List Bool × Int} {e:List Bool} (h:loopF (fun s=>Qdt x0 p now r3 l v x1 r5 s.1 s.2) s = some e) (hD:Qhw Γ rv x0 p now r3 l v x1 r5 e):Qh4 Γ rv x0 p now r3 l v x1 r5 s.1 s.2:=by
 refine QaI (C:=fun (s:List Bool × Int)=>Qh4 Γ rv x0 p now r3 l v x1 r5 s.1 s.2) (D:=fun (e:List Bool)=>Qhw Γ rv x0 p now r3 l v x1 r5 e) ?_ h hD
 clear h hD s e
 rintro ⟨l1,v1⟩ z_ h hI hE
 replace h:Qdt x0 p now r3 l v x1 r5 l1 v1 = _:=h
 unfold Qdt at h
 rcases Qai h with ⟨h12,h⟩|⟨h12,h⟩
 ·obtain ⟨x2,h13,h⟩:=Qae h
  obtain ⟨h14,h⟩:=Qaw h
  exact gn 13 [2,3,4,7,9,11,53,54,55,73,74,75] [0,1,2,3,4,8] [bT h12,cE Qaq.enc h13,oO (Eq.refl ([x2.rest_].map Qa5).length),aO Qa5 h14] (hI _ (oJ h))
 ·exact gn 5 [2,3,4,7,9,11,53,54,55] [0,1,2,3,4,5] [bF h12] (hE _ (oJ h))
theorem QmC (Γ:Gam) (rv:Bool) {x0 p now r3} {s:List Qab × Int} {e:(List Qab) ⊕ (Bool)} (h:loopF (fun s=>Qbm x0 p now r3 s.1 s.2) s = some e) (hD:sel e (fun e=>Qhv Γ rv x0 p now r3 e) (fun e=>e = rv)):Qh3 Γ rv x0 p now r3 s.1 s.2:=by
 refine QaI (C:=fun (s:List Qab × Int)=>Qh3 Γ rv x0 p now r3 s.1 s.2) (D:=fun (e:(List Qab) ⊕ (Bool))=>sel e (fun e=>Qhv Γ rv x0 p now r3 e) (fun e=>e = rv)) ?_ h hD
 clear h hD s e
 rintro ⟨l,v⟩ z_ h hI hE
 replace h:Qbm x0 p now r3 l v = _:=h
 unfold Qbm at h
 rcases Qai h with ⟨h8,h⟩|⟨h8,h⟩
 ·obtain ⟨x1,h9,h⟩:=Qae h
  obtain ⟨r5,h10,h⟩:=Qae h
  rcases Qai h with ⟨h11,h⟩|⟨h11,h⟩
  ·obtain rfl:=(hE _ (oJ h):_ = rv)
   exact gr 17 [] [bT h8,cE Qab.enc h9,cC (Qel h10),bT h11]
  ·obtain ⟨e0,h15,h⟩:=Qae h
   refine gn 23 [2,3,4,7,9,11,53,54,55,73,74,75] [0,1,2,4,3,7] [bT h8,cE Qab.enc h9,cC (Qel h10),bF h11,nL Qaq.enc r5.1.times] (QmD Γ rv h15 ?_)
   obtain ⟨l2,rfl⟩:∃ x,x = e0:=⟨_,rfl⟩
   replace h:(chk (okN (l ++ [(Qab.mk x1.type_ x1.start l2 x1.visits)]).length 64) (some (.inl ((l ++ [(Qab.mk x1.type_ x1.start l2 x1.visits)]),(addK .i64 v 1)))):Option ((List Qab × Int) ⊕ ((List Qab) ⊕ (Bool)))) = some _:=h
   obtain ⟨h16,h⟩:=Qaw h
   exact gn 4 [2,3,4,7,9,53,54,55] [0,1,2,7] [hW 4,hH (.frz 5),rp 2 (eL l2 Qa5),oO (Eq.refl ([(Qab.mk x1.type_ x1.start l2 x1.visits)].map Qab.enc).length),aO Qab.enc h16] (hI _ (oJ h))
 ·exact gn 5 [2,3,4,7,9] [0,1,2,3] [bF h8] (hE _ (oJ h))
theorem Qoa {x0 p now} {rv:Bool} (h:Qf1 x0 p now = some rv):AFn Tryz.prog 7 [.agg (Qad.enc x0),.agg (Qap.enc p),.one (lI now)] [] (one (.bool rv)) []:=by
 refine QaS Tryz.func7 (by kernel_rfl) (by kernel_rfl) (fun Γ=>?_)
 unfold Qf1 at h
 obtain ⟨r,h0,h⟩:=Qae h
 rcases Qai h with ⟨h1,h⟩|⟨h1,h⟩
 ·obtain ⟨r1,h2,h⟩:=Qae h
  rcases Qai h with ⟨h3,h⟩|⟨h3,h⟩
  ·obtain ⟨r2,h4,h⟩:=Qae h
   obtain rfl:=Option.some.inj h
   exact gr 8 [] [cC (Qgv h0),nF h1,nF h1,cC (Qko h2),nF h1,nF h1,rp 6 hP,oI ((!r1) = false),oR True ((!r1) = false),oI (((!r1) || (ltI now 0)) = false),oR True (((!r1) || (ltI now 0)) = false),bT h3,cC (Qcp h4)]
  ·obtain ⟨r3,h5,h⟩:=Qae h
   rcases Qai h with ⟨h6,h⟩|⟨h6,h⟩
   ·obtain ⟨r4,h7,h⟩:=Qae h
    obtain rfl:=Option.some.inj h
    exact gr 15 [] [cC (Qgv h0),nF h1,nF h1,cC (Qko h2),nF h1,nF h1,rp 6 hP,oI ((!r1) = false),oR True ((!r1) = false),oI (((!r1) || (ltI now 0)) = false),oR True (((!r1) || (ltI now 0)) = false),bF h3,cC (Qih h5),bT h6,cC (Qcp h7)]
   ·obtain ⟨e1,h17,h⟩:=Qae h
    refine gn 21 [2,3,4,7,9,53,54,55] [0,1,2,3] [cC (Qgv h0),nF h1,nF h1,cC (Qko h2),nF h1,nF h1,rp 6 hP,oI ((!r1) = false),oR True ((!r1) = false),oI (((!r1) || (ltI now 0)) = false),oR True (((!r1) || (ltI now 0)) = false),bF h3,cC (Qih h5),bF h6,nL Qab.enc p.routes,hW 3,hH (.adoptB 2 0 4 34)] (QmC Γ rv h17 ?_)
    rcases e1 with e1|e1
    ·obtain ⟨l3,rfl⟩:∃ x,x = e1:=⟨_,rfl⟩
     replace h:(bnd (Qg1 x0 (Qap.mk l3 p.unserved)) fun r6=>bnd (Qcx x0 p now) fun r7=>bnd (Qcx x0 (Qap.mk l3 p.unserved) now) fun r8=>br ((((eqI r6.2 0) && (eqI r7.2 0)) && (eqI r8.2 0)) && (eqI r3.1 r6.1)) (bnd (QcJ r7.1 r8.1) fun r9=>br r9 (bnd (Qfw (Qap.mk l3 p.unserved) r7.1) fun r10=>br (eqI r10 0) (bnd (QbI) fun r11=>some r11) (some false)) (some false)) (some false):Option Bool) = some _:=h
     obtain ⟨r6,h18,h⟩:=Qae h
     obtain ⟨r7,h19,h⟩:=Qae h
     obtain ⟨r8,h20,h⟩:=Qae h
     rcases Qai h with ⟨h21,h⟩|⟨h21,h⟩
     ·obtain ⟨r9,h22,h⟩:=Qae h
      rcases Qai h with ⟨h23,h⟩|⟨h23,h⟩
      ·obtain ⟨r10,h24,h⟩:=Qae h
       rcases Qai h with ⟨h25,h⟩|⟨h25,h⟩
       ·obtain ⟨r11,h26,h⟩:=Qae h
        obtain rfl:=Option.some.inj h
        exact gr 8 [] [eL l3 Qab.enc,cC (Qih h18),cC (QaT h19),hW 10,hH (.frz 3),rp 3 (eL l3 Qab.enc),cC (QaT h20),rp 10 hP,oI ((eqI r6.2 0) = true),oR True ((eqI r6.2 0) = true),oI (((eqI r6.2 0) && (eqI r7.2 0)) = true),oR True (((eqI r6.2 0) && (eqI r7.2 0)) = true),rp 2 (oI ((((eqI r6.2 0) && (eqI r7.2 0)) && (eqI r8.2 0)) = true)),oR True ((((eqI r6.2 0) && (eqI r7.2 0)) && (eqI r8.2 0)) = true),rp 3 (bT h21),cC (Qgb h22),bT h21,rp 3 (bT h23),cC (Qc9 h24),rp 2 (bT h23),bT h25,cC (Qcp h26),bT h25]
       ·obtain rfl:=Option.some.inj h
        exact gr 8 [] [eL l3 Qab.enc,cC (Qih h18),cC (QaT h19),hW 10,hH (.frz 3),rp 3 (eL l3 Qab.enc),cC (QaT h20),rp 10 hP,oI ((eqI r6.2 0) = true),oR True ((eqI r6.2 0) = true),oI (((eqI r6.2 0) && (eqI r7.2 0)) = true),oR True (((eqI r6.2 0) && (eqI r7.2 0)) = true),rp 2 (oI ((((eqI r6.2 0) && (eqI r7.2 0)) && (eqI r8.2 0)) = true)),oR True ((((eqI r6.2 0) && (eqI r7.2 0)) && (eqI r8.2 0)) = true),rp 3 (bT h21),cC (Qgb h22),bT h21,rp 3 (bT h23),cC (Qc9 h24),rp 2 (bT h23),rp 2 (bF h25)]
      ·obtain rfl:=Option.some.inj h
       exact gr 8 [] [eL l3 Qab.enc,cC (Qih h18),cC (QaT h19),hW 10,hH (.frz 3),rp 3 (eL l3 Qab.enc),cC (QaT h20),rp 10 hP,oI ((eqI r6.2 0) = true),oR True ((eqI r6.2 0) = true),oI (((eqI r6.2 0) && (eqI r7.2 0)) = true),oR True (((eqI r6.2 0) && (eqI r7.2 0)) = true),rp 2 (oI ((((eqI r6.2 0) && (eqI r7.2 0)) && (eqI r8.2 0)) = true)),oR True ((((eqI r6.2 0) && (eqI r7.2 0)) && (eqI r8.2 0)) = true),rp 3 (bT h21),cC (Qgb h22),bT h21,rp 5 (bF h23),fF,fF]
     ·obtain rfl:=Option.some.inj h
      exact gr 8 [] [eL l3 Qab.enc,cC (Qih h18),cC (QaT h19),hW 10,hH (.frz 3),rp 3 (eL l3 Qab.enc),cC (QaT h20),rp 10 hP,oI ((eqI r6.2 0) = true),oR True ((eqI r6.2 0) = true),oI (((eqI r6.2 0) && (eqI r7.2 0)) = true),oR True (((eqI r6.2 0) && (eqI r7.2 0)) = true),rp 2 (oI ((((eqI r6.2 0) && (eqI r7.2 0)) && (eqI r8.2 0)) = true)),oR True ((((eqI r6.2 0) && (eqI r7.2 0)) && (eqI r8.2 0)) = true),rp 4 (bF h21),rp 7 fF]
    ·obtain ⟨r12,rfl⟩:∃ x,x = e1:=⟨_,rfl⟩
     replace h:(some r12:Option Bool) = some _:=h
     exact Option.some.inj h
 ·obtain ⟨r13,h27,h⟩:=Qae h
  obtain rfl:=Option.some.inj h
  exact gr 8 [] [cC (Qgv h0),rp 4 (nT h1),rp 7 tT,cC (Qcp h27)]
end Go.Proofs.YtoogjnlmicgfiaaGreatDoor
