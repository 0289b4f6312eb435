/- Part MU of the proof: texts W0. -/
import Derived.Test.YtoogjnlmicgfiaaGreatDoorMT
import Derived.Test.YtoogjnlmicgfiaaGreatDoorMC
import Derived.Test.YtoogjnlmicgfiaaGreatDoorProg
namespace Go.Proofs.YtoogjnlmicgfiaaGreatDoor
set_option linter.unusedVariables false
set_option linter.unusedSectionVars false
set_option linter.unusedSimpArgs false
set_option maxHeartbeats 4000000
set_option maxRecDepth 100000
theorem QeS {now} {rv:Bool} (h:Qhr now = some rv):AFn Tryz.prog 27 [.one (lI now)] [] (one (.bool rv)) []:=by
 refine QaO Tryz.func27 (by kernel_rfl) (by kernel_rfl) (fun Γ=>?_)
 unfold Qhr at h
 obtain rfl:=Option.some.inj h
 exact gr 4 [] [hP,hP,hP,oI ((geI now 0) = true),oR True ((geI now 0) = true)]
def Qce (Γ:Gam) (rv:Int) (cf:Cf):Prop:=Go Tryz.prog Tryz.f143 [] Γ (one (lI rv)) [] cf
def Qb3 (Γ:Gam) (rv:Int) (s0:List Qaa) (v:Qaa) (v1:Int):Prop:=Qce Γ rv ⟨[.c 52,.l 52,.b 0,.c 7],⟨19,[vL 0 2 s0 Qaa.enc,vP 3 0 2,vI 7 (lenI s0),vI 8 v1],[oX 2 79 (Qaa.enc v)]⟩⟩
def QbX (Γ:Gam) (rv:Int) (s0:List Qaa) (v:Qaa):Prop:=Qce Γ rv ⟨[.c 7],⟨19,[],[]⟩⟩
theorem QcT (Γ:Gam) (rv:Int) {s0 v} {s:Int} {e:(Unit) ⊕ (Int)} (h:loopF (fun s=>Qa6 s0 v s) s = some e) (hD:sel e (fun e=>QbX Γ rv s0 v) (fun e=>e = rv)):Qb3 Γ rv s0 v s:=by
 refine QaL (C:=fun (s:Int)=>Qb3 Γ rv s0 v s) (D:=fun (e:(Unit) ⊕ (Int))=>sel e (fun e=>QbX Γ rv s0 v) (fun e=>e = rv)) ?_ h hD
 clear h hD s e
 intro v1 z_ h hI hE
 replace h:Qa6 s0 v v1 = _:=h
 unfold Qa6 at h
 rcases Qaf h with ⟨h0,h⟩|⟨h0,h⟩
 ·obtain ⟨x0,h1,h⟩:=Qae h
  rcases Qaf h with ⟨h2,h⟩|⟨h2,h⟩
  ·obtain rfl:=(hE _ (oJ h):_ = rv)
   exact gr 14 [] [bT h0,hH (.draw 6 []),cE Qaa.enc h1,bT h2]
  ·exact gn 16 [0,3,7,8] [0] [bT h0,hH (.draw 6 []),cE Qaa.enc h1,bF h2] (hI _ (oJ h))
 ·exact gn 5 [] [] [bF h0] (hE _ (oJ h))
theorem Qb7 {s0 v} {rv:Int} (h:Qbf s0 v = some rv):AFn Tryz.prog 143 [.one (lL 2 s0 Qaa.enc),.agg (Qaa.enc v)] [] (one (lI rv)) []:=by
 refine QaO Tryz.func143 (by kernel_rfl) (by kernel_rfl) (fun Γ=>?_)
 unfold Qbf at h
 obtain ⟨e0,h3,h⟩:=Qae h
 refine gn 7 [0,3,7,8] [0] [nL Qaa.enc s0] (QcT Γ rv h3 ?_)
 rcases e0 with e0|e0
 ·replace h:(some (-1):Option Int) = some _:=h
  obtain rfl:=Option.some.inj h
  exact gr 2 [] []
 ·obtain ⟨r,rfl⟩:∃ x,x = e0:=⟨_,rfl⟩
  replace h:(some r:Option Int) = some _:=h
  exact Option.some.inj h
theorem Qdo {l v} {rv:Int} (h:QeX l v = some rv):AFn Tryz.prog 113 [.one (lL 2 l Qaa.enc),.agg (Qaa.enc v)] [] (one (lI rv)) []:=by
 refine QaO Tryz.func113 (by kernel_rfl) (by kernel_rfl) (fun Γ=>?_)
 unfold QeX at h
 obtain ⟨r,h0,h⟩:=Qae h
 obtain rfl:=Option.some.inj h
 exact gr 4 [] [cC (Qb7 h0)]
def Qhj (Γ:Gam) (rv:Bool) (cf:Cf):Prop:=Go Tryz.prog Tryz.f69 [] Γ (one (.bool rv)) [] cf
def QfO (Γ:Gam) (rv:Bool) (l:List Qaa) (v:Int):Prop:=Qhj Γ rv ⟨[.c 52,.l 52,.b 0,.c 7],⟨19,[vL 0 2 l Qaa.enc,vL 5 2 l Qaa.enc,vI 6 (lenI l),vI 7 v],[]⟩⟩
def Qfp (Γ:Gam) (rv:Bool) (l:List Qaa):Prop:=Qhj Γ rv ⟨[.c 7],⟨19,[],[]⟩⟩
theorem Qh6 (Γ:Gam) (rv:Bool) {l} {s:Int} {e:(Unit) ⊕ (Bool)} (h:loopF (fun s=>Qdp l s) s = some e) (hD:sel e (fun e=>Qfp Γ rv l) (fun e=>e = rv)):QfO Γ rv l s:=by
 refine QaL (C:=fun (s:Int)=>QfO Γ rv l s) (D:=fun (e:(Unit) ⊕ (Bool))=>sel e (fun e=>Qfp Γ rv l) (fun e=>e = rv)) ?_ h hD
 clear h hD s e
 intro v z_ h hI hE
 replace h:Qdp l v = _:=h
 unfold Qdp at h
 rcases Qaf h with ⟨h0,h⟩|⟨h0,h⟩
 ·obtain ⟨x0,h1,h⟩:=Qae h
  obtain ⟨l1,h2,h⟩:=Qae h
  obtain ⟨r,h3,h⟩:=Qae h
  rcases Qaf h with ⟨h4,h⟩|⟨h4,h⟩
  ·obtain rfl:=(hE _ (oJ h):_ = rv)
   exact gr 14 [] [bT h0,cE Qaa.enc h1,hH (.draw 6 []),hH (.rows (l1.map Qaa.enc)),oO (sl1 h2),oO (sl2 h2),oO (sl3 Qaa.enc h2),oO (Int.le_refl v),oO (sl3 Qaa.enc h2),oO (sl6 Qaa.enc h2),cC (Qdo h3),bT h4]
  ·exact gn 16 [0,5,6,7] [] [bT h0,cE Qaa.enc h1,hH (.draw 6 []),hH (.rows (l1.map Qaa.enc)),oO (sl1 h2),oO (sl2 h2),oO (sl3 Qaa.enc h2),oO (Int.le_refl v),oO (sl3 Qaa.enc h2),oO (sl6 Qaa.enc h2),cC (Qdo h3),bF h4] (hI _ (oJ h))
 ·exact gn 5 [] [] [bF h0] (hE _ (oJ h))
theorem Qeq {l} {rv:Bool} (h:Qgr l = some rv):AFn Tryz.prog 69 [.one (lL 2 l Qaa.enc)] [] (one (.bool rv)) []:=by
 refine QaO Tryz.func69 (by kernel_rfl) (by kernel_rfl) (fun Γ=>?_)
 unfold Qgr at h
 obtain ⟨e0,h5,h⟩:=Qae h
 refine gn 7 [0,5,6,7] [] [nL Qaa.enc l] (Qh6 Γ rv h5 ?_)
 rcases e0 with e0|e0
 ·replace h:(some false:Option Bool) = some _:=h
  obtain rfl:=Option.some.inj h
  exact gr 2 [] []
 ·obtain ⟨r1,rfl⟩:∃ x,x = e0:=⟨_,rfl⟩
  replace h:(some r1:Option Bool) = some _:=h
  exact Option.some.inj h
theorem Qdb {l at_} {rv:Bool} (h:Qht l at_ = some rv):AFn Tryz.prog 90 [.one (lL 16 l Qap.enc),.one (lI at_)] [] (one (.bool rv)) []:=by
 refine QaO Tryz.func90 (by kernel_rfl) (by kernel_rfl) (fun Γ=>?_)
 unfold Qht at h
 obtain rfl:=Option.some.inj h
 exact gr 4 [] [hP,hP,hP,oI ((geI at_ 0) = true),nL Qap.enc l,hP,hP,rp 2 (oI ((geI at_ 0) = true)),oR True ((geI at_ 0) = true)]
def Qks (Γ:Gam) (rv:List Qaa) (cf:Cf):Prop:=Go Tryz.prog Tryz.f114 [] Γ (one (lL 2 rv Qaa.enc)) [] cf
theorem Qgc (Γ:Gam) (rv:List Qaa) {l at_ l1} (h:Qd0 l at_ l1 = some rv):Qks Γ rv ⟨[.c 31],⟨35,[vL 0 16 l Qap.enc,vI 1 at_,vO 5 0 2 l1 Qaa.enc],[oS 2 79 l1 Qaa.enc]⟩⟩:=by
 unfold Qd0 at h
 obtain ⟨x1,h5,h⟩:=Qae h
 rcases Qaf h with ⟨h6,h⟩|⟨h6,h⟩
 ·obtain ⟨h7,h⟩:=Qco h
  obtain rfl:=Option.some.inj h
  exact gr 7 [] [cE Qap.enc h5,bT h6,oO (Eq.refl ([(Qaa.mk at_ true)].map Qaa.enc).length),aO Qaa.enc h7,hW 5,hH (.frz 2),rp 4 (oO (Eq.refl ((l1 ++ [(Qaa.mk at_ true)]).map Qaa.enc).length))]
 ·obtain rfl:=Option.some.inj h
  exact gr 7 [] [cE Qap.enc h5,bF h6,hW 5,hH (.frz 0),rp 3 (eL l1 Qaa.enc)]
theorem QhM {l at_} {rv:List Qaa} (h:Qh2 l at_ = some rv):AFn Tryz.prog 114 [.one (lL 16 l Qap.enc),.one (lI at_)] [] (one (lL 2 rv Qaa.enc)) []:=by
 refine QaO Tryz.func114 (by kernel_rfl) (by kernel_rfl) (fun Γ=>?_)
 unfold Qh2 at h
 obtain ⟨r,h0,h⟩:=Qae h
 rcases Qaf h with ⟨h1,h⟩|⟨h1,h⟩
 ·obtain ⟨x0,h2,h⟩:=Qae h
  rcases Qaf h with ⟨h3,h⟩|⟨h3,h⟩
  ·obtain ⟨h4,h⟩:=Qco h
   exact gn 14 [0,1,5] [1] [cC (Qdb h0),nF h1,cE Qap.enc h2,bT h3,oO (Eq.refl ([(Qaa.mk at_ false)].map Qaa.enc).length),aN (l:=([(Qaa.mk at_ false)]:List Qaa)) Qaa.enc h4] (Qgc Γ rv h)
  ·exact gn 14 [0,1,5] [0] [cC (Qdb h0),nF h1,cE Qap.enc h2,bF h3,hW 1,hH (.adopt 5 2 79)] (Qgc Γ rv h)
 ·obtain rfl:=Option.some.inj h
  exact gr 10 [] [cC (Qdb h0),nT h1,hW 3,hH (.nilS 4 0 2)]
theorem QbV {s0 v} {rv:Bool} (h:QbC s0 v = some rv):AFn Tryz.prog 115 [.one (lL 2 s0 Qaa.enc),.agg (Qaa.enc v)] [] (one (.bool rv)) []:=by
 refine QaO Tryz.func115 (by kernel_rfl) (by kernel_rfl) (fun Γ=>?_)
 unfold QbC at h
 obtain ⟨r,h0,h⟩:=Qae h
 obtain rfl:=Option.some.inj h
 exact gr 4 [] [cC (Qb7 h0)]
def Qdn (Γ:Gam) (rv:Bool) (cf:Cf):Prop:=Go Tryz.prog Tryz.f70 [] Γ (one (.bool rv)) [] cf
def Qfo (Γ:Gam) (rv:Bool) (x0:Qad) (l:List Qaa) (v:Int) (r:List Qaa) (last_:Int) (v1:Int):Prop:=Qdn Γ rv ⟨[.c 108156,.l 108156,.b 2,.b 1,.c 423,.l 52,.b 0,.c 7],⟨42,[vL 1 2 l Qaa.enc,vP 2 0 6,vI 8 last_,vL 12 2 l Qaa.enc,vI 13 (lenI l),vI 14 v,vL 27 2 r Qaa.enc,vI 28 (lenI r),vI 29 v1],[oX 6 30 (Qad.enc x0)]⟩⟩
def QeN (Γ:Gam) (rv:Bool) (x0:Qad) (l:List Qaa) (v:Int) (r:List Qaa):Prop:=Qdn Γ rv ⟨[.b 1,.c 423,.l 52,.b 0,.c 7],⟨42,[vL 1 2 l Qaa.enc,vP 2 0 6,vL 12 2 l Qaa.enc,vI 13 (lenI l),vI 14 v],[oX 6 30 (Qad.enc x0)]⟩⟩
def Qfn (Γ:Gam) (rv:Bool) (x0:Qad) (l:List Qaa) (v:Int):Prop:=Qdn Γ rv ⟨[.c 52,.l 52,.b 0,.c 7],⟨42,[vL 1 2 l Qaa.enc,vP 2 0 6,vL 12 2 l Qaa.enc,vI 13 (lenI l),vI 14 v],[oX 6 30 (Qad.enc x0)]⟩⟩
def QeM (Γ:Gam) (rv:Bool) (x0:Qad) (l:List Qaa):Prop:=Qdn Γ rv ⟨[.c 7],⟨42,[],[]⟩⟩
theorem QhF (Γ:Gam) (rv:Bool) {x0 l v r} {s:Int × Int} {e:(Unit) ⊕ (Bool)} (h:loopF (fun s=>Qde x0 l v r s.1 s.2) s = some e) (hD:sel e (fun e=>QeN Γ rv x0 l v r) (fun e=>e = rv)):Qfo Γ rv x0 l v r s.1 s.2:=by
 refine QaL (C:=fun (s:Int × Int)=>Qfo Γ rv x0 l v r s.1 s.2) (D:=fun (e:(Unit) ⊕ (Bool))=>sel e (fun e=>QeN Γ rv x0 l v r) (fun e=>e = rv)) ?_ h hD
 clear h hD s e
 rintro ⟨last_,v1⟩ z_ h hI hE
 replace h:Qde x0 l v r last_ v1 = _:=h
 unfold Qde at h
 rcases Qaf h with ⟨h5,h⟩|⟨h5,h⟩
 ·obtain ⟨x2,h6,h⟩:=Qae h
  obtain ⟨r2,h7,h⟩:=Qae h
  rcases Qaf h with ⟨h8,h⟩|⟨h8,h⟩
  ·obtain rfl:=(hE _ (oJ h):_ = rv)
   exact gr 17 [] [bT h5,cE Qaa.enc h6,cC (Qdo h7),bT h8]
  ·exact gn 20 [1,2,8,12,13,14,27,28,29] [0] [bT h5,cE Qaa.enc h6,cC (Qdo h7),bF h8] (hI _ (oJ h))
 ·exact gn 5 [1,2,12,13,14] [0] [bF h5] (hE _ (oJ h))
theorem QhE (Γ:Gam) (rv:Bool) {x0 l} {s:Int} {e:(Unit) ⊕ (Bool)} (h:loopF (fun s=>Qdd x0 l s) s = some e) (hD:sel e (fun e=>QeM Γ rv x0 l) (fun e=>e = rv)):Qfn Γ rv x0 l s:=by
 refine QaL (C:=fun (s:Int)=>Qfn Γ rv x0 l s) (D:=fun (e:(Unit) ⊕ (Bool))=>sel e (fun e=>QeM Γ rv x0 l) (fun e=>e = rv)) ?_ h hD
 clear h hD s e
 intro v z_ h hI hE
 replace h:Qdd x0 l v = _:=h
 unfold Qdd at h
 rcases Qaf h with ⟨h0,h⟩|⟨h0,h⟩
 ·obtain ⟨x1,h1,h⟩:=Qae h
  obtain ⟨r,h2,h⟩:=Qae h
  obtain ⟨r1,h3,h⟩:=Qae h
  rcases Qaf h with ⟨h4,h⟩|⟨h4,h⟩
  ·obtain ⟨e0,h9,h⟩:=Qae h
   refine gn 22 [1,2,8,12,13,14,27,28,29] [0] [bT h0,cE Qaa.enc h1,cC (QhM h2),cC (QbV h3),nF h4,nL Qaa.enc r] (QhF Γ rv h9 ?_)
   rcases e0 with e0|e0
   ·replace h:(some (.inl (addK .i64 v 1)):Option ((Int) ⊕ ((Unit) ⊕ (Bool)))) = some _:=h
    exact gn 3 [1,2,12,13,14] [0] [] (hI _ (oJ h))
   ·obtain ⟨r3,rfl⟩:∃ x,x = e0:=⟨_,rfl⟩
    replace h:(some (.inr (.inr r3)):Option ((Int) ⊕ ((Unit) ⊕ (Bool)))) = some _:=h
    exact (hE _ (oJ h):_ = rv)
  ·obtain rfl:=(hE _ (oJ h):_ = rv)
   exact gr 17 [] [bT h0,cE Qaa.enc h1,cC (QhM h2),cC (QbV h3),nT h4]
 ·exact gn 5 [] [] [bF h0] (hE _ (oJ h))
theorem Qgf {x0 l} {rv:Bool} (h:QfY x0 l = some rv):AFn Tryz.prog 70 [.agg (Qad.enc x0),.one (lL 2 l Qaa.enc)] [] (one (.bool rv)) []:=by
 refine QaO Tryz.func70 (by kernel_rfl) (by kernel_rfl) (fun Γ=>?_)
 unfold QfY at h
 obtain ⟨e1,h10,h⟩:=Qae h
 refine gn 7 [1,2,12,13,14] [0] [nL Qaa.enc l] (QhE Γ rv h10 ?_)
 rcases e1 with e1|e1
 ·replace h:(some true:Option Bool) = some _:=h
  obtain rfl:=Option.some.inj h
  exact gr 2 [] []
 ·obtain ⟨r4,rfl⟩:∃ x,x = e1:=⟨_,rfl⟩
  replace h:(some r4:Option Bool) = some _:=h
  exact Option.some.inj h
theorem QgK {v c} {rv:Bool} (h:Qgq v c = some rv):AFn Tryz.prog 116 [.agg (Qaa.enc v),.one (.ip [lI c] 0)] [] (one (.bool rv)) []:=by
 refine QaO Tryz.func116 (by kernel_rfl) (by kernel_rfl) (fun Γ=>?_)
 unfold Qgq at h
 obtain rfl:=Option.some.inj h
 exact gr 4 [] []
def QbI (Γ:Gam) (rv:Int) (cf:Cf):Prop:=Go Tryz.prog Tryz.f104 [] Γ (one (lI rv)) [] cf
def Qbz (Γ:Gam) (rv:Int) (s0:List Qaa) (c:Int) (v:Int):Prop:=QbI Γ rv ⟨[.c 52,.l 52,.b 0,.c 7],⟨19,[vL 0 2 s0 Qaa.enc,(1,one (.fn (.func 116) [.ip [lI c] 0])),vI 7 (lenI s0),vI 8 v],[]⟩⟩
def Qbw (Γ:Gam) (rv:Int) (s0:List Qaa) (c:Int):Prop:=QbI Γ rv ⟨[.c 7],⟨19,[],[]⟩⟩
theorem Qcm (Γ:Gam) (rv:Int) {s0 c} {s:Int} {e:(Unit) ⊕ (Int)} (h:loopF (fun s=>QaK s0 c s) s = some e) (hD:sel e (fun e=>Qbw Γ rv s0 c) (fun e=>e = rv)):Qbz Γ rv s0 c s:=by
 refine QaL (C:=fun (s:Int)=>Qbz Γ rv s0 c s) (D:=fun (e:(Unit) ⊕ (Int))=>sel e (fun e=>Qbw Γ rv s0 c) (fun e=>e = rv)) ?_ h hD
 clear h hD s e
 intro v z_ h hI hE
 replace h:QaK s0 c v = _:=h
 unfold QaK at h
 rcases Qaf h with ⟨h0,h⟩|⟨h0,h⟩
 ·obtain ⟨x0,h1,h⟩:=Qae h
  obtain ⟨r,h2,h⟩:=Qae h
  rcases Qaf h with ⟨h3,h⟩|⟨h3,h⟩
  ·obtain rfl:=(hE _ (oJ h):_ = rv)
   exact gr 14 [] [bT h0,cE Qaa.enc h1,cC (QgK h2),bT h3]
  ·exact gn 16 [0,1,7,8] [] [bT h0,cE Qaa.enc h1,cC (QgK h2),bF h3] (hI _ (oJ h))
 ·exact gn 5 [] [] [bF h0] (hE _ (oJ h))
theorem Qcz {s0 c} {rv:Int} (h:Qa9 s0 c = some rv):AFn Tryz.prog 104 [.one (lL 2 s0 Qaa.enc),.one (.fn (.func 116) [.ip [lI c] 0])] [] (one (lI rv)) []:=by
 refine QaO Tryz.func104 (by kernel_rfl) (by kernel_rfl) (fun Γ=>?_)
 unfold Qa9 at h
 obtain ⟨e0,h4,h⟩:=Qae h
 refine gn 7 [0,1,7,8] [] [nL Qaa.enc s0] (Qcm Γ rv h4 ?_)
 rcases e0 with e0|e0
 ·replace h:(some (-1):Option Int) = some _:=h
  obtain rfl:=Option.some.inj h
  exact gr 2 [] []
 ·obtain ⟨r1,rfl⟩:∃ x,x = e0:=⟨_,rfl⟩
  replace h:(some r1:Option Int) = some _:=h
  exact Option.some.inj h
theorem Qcl {s0 c} {rv:Bool} (h:Qa0 s0 c = some rv):AFn Tryz.prog 60 [.one (lL 2 s0 Qaa.enc),.one (.fn (.func 116) [.ip [lI c] 0])] [] (one (.bool rv)) []:=by
 refine QaO Tryz.func60 (by kernel_rfl) (by kernel_rfl) (fun Γ=>?_)
 unfold Qa0 at h
 obtain ⟨r,h0,h⟩:=Qae h
 obtain rfl:=Option.some.inj h
 exact gr 4 [] [cC (Qcz h0)]
theorem Qcc {l o} {rv:Bool} (h:QdR l o = some rv):AFn Tryz.prog 71 [.one (lL 2 l Qaa.enc),.one (lI o)] [] (one (.bool rv)) []:=by
 refine QaO Tryz.func71 (by kernel_rfl) (by kernel_rfl) (fun Γ=>?_)
 unfold QdR at h
 obtain ⟨r,h0,h⟩:=Qae h
 obtain rfl:=Option.some.inj h
 exact gr 4 [] [cC (Qcl h0)]
theorem Qfm {v c} {rv:Bool} (h:Qep v c = some rv):AFn Tryz.prog 117 [.agg (Qaa.enc v),.one (.ip [lI c] 0)] [] (one (.bool rv)) []:=by
 refine QaO Tryz.func117 (by kernel_rfl) (by kernel_rfl) (fun Γ=>?_)
 unfold Qep at h
 obtain rfl:=Option.some.inj h
 exact gr 4 [] []
def Qby (Γ:Gam) (rv:Int) (cf:Cf):Prop:=Go Tryz.prog Tryz.f104 [] Γ (one (lI rv)) [] cf
def Qbp (Γ:Gam) (rv:Int) (s0:List Qaa) (c:Int) (v:Int):Prop:=Qby Γ rv ⟨[.c 52,.l 52,.b 0,.c 7],⟨19,[vL 0 2 s0 Qaa.enc,(1,one (.fn (.func 117) [.ip [lI c] 0])),vI 7 (lenI s0),vI 8 v],[]⟩⟩
def Qbk (Γ:Gam) (rv:Int) (s0:List Qaa) (c:Int):Prop:=Qby Γ rv ⟨[.c 7],⟨19,[],[]⟩⟩
theorem Qb9 (Γ:Gam) (rv:Int) {s0 c} {s:Int} {e:(Unit) ⊕ (Int)} (h:loopF (fun s=>QaE s0 c s) s = some e) (hD:sel e (fun e=>Qbk Γ rv s0 c) (fun e=>e = rv)):Qbp Γ rv s0 c s:=by
 refine QaL (C:=fun (s:Int)=>Qbp Γ rv s0 c s) (D:=fun (e:(Unit) ⊕ (Int))=>sel e (fun e=>Qbk Γ rv s0 c) (fun e=>e = rv)) ?_ h hD
 clear h hD s e
 intro v z_ h hI hE
 replace h:QaE s0 c v = _:=h
 unfold QaE at h
 rcases Qaf h with ⟨h0,h⟩|⟨h0,h⟩
 ·obtain ⟨x0,h1,h⟩:=Qae h
  obtain ⟨r,h2,h⟩:=Qae h
  rcases Qaf h with ⟨h3,h⟩|⟨h3,h⟩
  ·obtain rfl:=(hE _ (oJ h):_ = rv)
   exact gr 14 [] [bT h0,cE Qaa.enc h1,cC (Qfm h2),bT h3]
  ·exact gn 16 [0,1,7,8] [] [bT h0,cE Qaa.enc h1,cC (Qfm h2),bF h3] (hI _ (oJ h))
 ·exact gn 5 [] [] [bF h0] (hE _ (oJ h))
theorem QaQ {s0 c} {rv:Int} (h:Qa1 s0 c = some rv):AFn Tryz.prog 104 [.one (lL 2 s0 Qaa.enc),.one (.fn (.func 117) [.ip [lI c] 0])] [] (one (lI rv)) []:=by
 refine QaO Tryz.func104 (by kernel_rfl) (by kernel_rfl) (fun Γ=>?_)
 unfold Qa1 at h
 obtain ⟨e0,h4,h⟩:=Qae h
 refine gn 7 [0,1,7,8] [] [nL Qaa.enc s0] (Qb9 Γ rv h4 ?_)
 rcases e0 with e0|e0
 ·replace h:(some (-1):Option Int) = some _:=h
  obtain rfl:=Option.some.inj h
  exact gr 2 [] []
 ·obtain ⟨r1,rfl⟩:∃ x,x = e0:=⟨_,rfl⟩
  replace h:(some r1:Option Int) = some _:=h
  exact Option.some.inj h
theorem Qge {l a b} {rv:Bool} (h:QfX l a b = some rv):AFn Tryz.prog 72 [.one (lL 2 l Qaa.enc),.one (lI a),.one (lI b)] [] (one (.bool rv)) []:=by
 refine QaO Tryz.func72 (by kernel_rfl) (by kernel_rfl) (fun Γ=>?_)
 unfold QfX at h
 obtain ⟨r,h0,h⟩:=Qae h
 rcases Qaf h with ⟨h1,h⟩|⟨h1,h⟩
 ·obtain rfl:=Option.some.inj h
  exact gr 10 [] [cC (QaQ h0),bT h1]
 ·obtain ⟨r1,h2,h⟩:=Qae h
  rcases Qaf h with ⟨h3,h⟩|⟨h3,h⟩
  ·obtain ⟨l1,h4,h⟩:=Qae h
   obtain ⟨r2,h5,h⟩:=Qae h
   obtain rfl:=Option.some.inj h
   exact gr 11 [] [cC (QaQ h0),bF h1,cC (Qcc h2),rp 3 (bT h3),hH (.rows (l1.map Qaa.enc)),oO (sl1 h4),oO (sl2h Qaa.enc h4),rp 3 (oO (Int.le_refl ((l.map Qaa.enc).length:Int))),oO (sl6h Qaa.enc h4),bT h3,bT h3,cC (Qcc h5),bT h3,bT h3]
  ·obtain rfl:=Option.some.inj h
   exact gr 11 [] [cC (QaQ h0),bF h1,cC (Qcc h2),rp 7 (bF h3)]
theorem QfK {v c} {rv:Bool} (h:Qfh v c = some rv):AFn Tryz.prog 67 [.agg (Qaa.enc v),.one (.ip (Qad.enc c) 0)] [] (one (.bool rv)) []:=by
 refine QaO Tryz.func67 (by kernel_rfl) (by kernel_rfl) (fun Γ=>?_)
 unfold Qfh at h
 obtain rfl:=Option.some.inj h
 exact gr 4 [] [rp 5 hP,rp 3 (oI ((ltI v.order 0) = false)),nL Qap.enc c.orders,hP,hP,rp 2 (oI ((ltI v.order 0) = false)),oR True ((ltI v.order 0) = false)]
def QbE (Γ:Gam) (rv:Int) (cf:Cf):Prop:=Go Tryz.prog Tryz.f104 [] Γ (one (lI rv)) [] cf
def Qbr (Γ:Gam) (rv:Int) (s0:List Qaa) (c:Qad) (v:Int):Prop:=QbE Γ rv ⟨[.c 52,.l 52,.b 0,.c 7],⟨19,[vL 0 2 s0 Qaa.enc,(1,one (.fn (.func 67) [.ip (Qad.enc c) 0])),vI 7 (lenI s0),vI 8 v],[]⟩⟩
def Qbn (Γ:Gam) (rv:Int) (s0:List Qaa) (c:Qad):Prop:=QbE Γ rv ⟨[.c 7],⟨19,[],[]⟩⟩
theorem Qcg (Γ:Gam) (rv:Int) {s0 c} {s:Int} {e:(Unit) ⊕ (Int)} (h:loopF (fun s=>QaF s0 c s) s = some e) (hD:sel e (fun e=>Qbn Γ rv s0 c) (fun e=>e = rv)):Qbr Γ rv s0 c s:=by
 refine QaL (C:=fun (s:Int)=>Qbr Γ rv s0 c s) (D:=fun (e:(Unit) ⊕ (Int))=>sel e (fun e=>Qbn Γ rv s0 c) (fun e=>e = rv)) ?_ h hD
 clear h hD s e
 intro v z_ h hI hE
 replace h:QaF s0 c v = _:=h
 unfold QaF at h
 rcases Qaf h with ⟨h0,h⟩|⟨h0,h⟩
 ·obtain ⟨x0,h1,h⟩:=Qae h
  obtain ⟨r,h2,h⟩:=Qae h
  rcases Qaf h with ⟨h3,h⟩|⟨h3,h⟩
  ·obtain rfl:=(hE _ (oJ h):_ = rv)
   exact gr 14 [] [bT h0,cE Qaa.enc h1,cC (QfK h2),bT h3]
  ·exact gn 16 [0,1,7,8] [] [bT h0,cE Qaa.enc h1,cC (QfK h2),bF h3] (hI _ (oJ h))
 ·exact gn 5 [] [] [bF h0] (hE _ (oJ h))
theorem Qcq {s0 c} {rv:Int} (h:Qa3 s0 c = some rv):AFn Tryz.prog 104 [.one (lL 2 s0 Qaa.enc),.one (.fn (.func 67) [.ip (Qad.enc c) 0])] [] (one (lI rv)) []:=by
 refine QaO Tryz.func104 (by kernel_rfl) (by kernel_rfl) (fun Γ=>?_)
 unfold Qa3 at h
 obtain ⟨e0,h4,h⟩:=Qae h
 refine gn 7 [0,1,7,8] [] [nL Qaa.enc s0] (Qcg Γ rv h4 ?_)
 rcases e0 with e0|e0
 ·replace h:(some (-1):Option Int) = some _:=h
  obtain rfl:=Option.some.inj h
  exact gr 2 [] []
 ·obtain ⟨r1,rfl⟩:∃ x,x = e0:=⟨_,rfl⟩
  replace h:(some r1:Option Int) = some _:=h
  exact Option.some.inj h
theorem Qat {s0 c} {rv:Bool} (h:QaT s0 c = some rv):AFn Tryz.prog 60 [.one (lL 2 s0 Qaa.enc),.one (.fn (.func 67) [.ip (Qad.enc c) 0])] [] (one (.bool rv)) []:=by
 refine QaO Tryz.func60 (by kernel_rfl) (by kernel_rfl) (fun Γ=>?_)
 unfold QaT at h
 obtain ⟨r,h0,h⟩:=Qae h
 obtain rfl:=Option.some.inj h
 exact gr 4 [] [cC (Qcq h0)]
theorem QfL {v c} {rv:Bool} (h:Qfi v c = some rv):AFn Tryz.prog 68 [.agg (Qaa.enc v),.one (.ip (Qad.enc c) 0)] [] (one (.bool rv)) []:=by
 refine QaO Tryz.func68 (by kernel_rfl) (by kernel_rfl) (fun Γ=>?_)
 unfold Qfi at h
 obtain ⟨x0,h0,h⟩:=Qae h
 obtain rfl:=Option.some.inj h
 exact gr 4 [] [cE Qap.enc h0]
def QbF (Γ:Gam) (rv:Int) (cf:Cf):Prop:=Go Tryz.prog Tryz.f104 [] Γ (one (lI rv)) [] cf
def Qbs (Γ:Gam) (rv:Int) (s0:List Qaa) (c:Qad) (v:Int):Prop:=QbF Γ rv ⟨[.c 52,.l 52,.b 0,.c 7],⟨19,[vL 0 2 s0 Qaa.enc,(1,one (.fn (.func 68) [.ip (Qad.enc c) 0])),vI 7 (lenI s0),vI 8 v],[]⟩⟩
def Qbo (Γ:Gam) (rv:Int) (s0:List Qaa) (c:Qad):Prop:=QbF Γ rv ⟨[.c 7],⟨19,[],[]⟩⟩
theorem Qch (Γ:Gam) (rv:Int) {s0 c} {s:Int} {e:(Unit) ⊕ (Int)} (h:loopF (fun s=>QaG s0 c s) s = some e) (hD:sel e (fun e=>Qbo Γ rv s0 c) (fun e=>e = rv)):Qbs Γ rv s0 c s:=by
 refine QaL (C:=fun (s:Int)=>Qbs Γ rv s0 c s) (D:=fun (e:(Unit) ⊕ (Int))=>sel e (fun e=>Qbo Γ rv s0 c) (fun e=>e = rv)) ?_ h hD
 clear h hD s e
 intro v z_ h hI hE
 replace h:QaG s0 c v = _:=h
 unfold QaG at h
 rcases Qaf h with ⟨h0,h⟩|⟨h0,h⟩
 ·obtain ⟨x0,h1,h⟩:=Qae h
  obtain ⟨r,h2,h⟩:=Qae h
  rcases Qaf h with ⟨h3,h⟩|⟨h3,h⟩
  ·obtain rfl:=(hE _ (oJ h):_ = rv)
   exact gr 14 [] [bT h0,cE Qaa.enc h1,cC (QfL h2),bT h3]
  ·exact gn 16 [0,1,7,8] [] [bT h0,cE Qaa.enc h1,cC (QfL h2),bF h3] (hI _ (oJ h))
 ·exact gn 5 [] [] [bF h0] (hE _ (oJ h))
theorem Qcr {s0 c} {rv:Int} (h:Qa4 s0 c = some rv):AFn Tryz.prog 104 [.one (lL 2 s0 Qaa.enc),.one (.fn (.func 68) [.ip (Qad.enc c) 0])] [] (one (lI rv)) []:=by
 refine QaO Tryz.func104 (by kernel_rfl) (by kernel_rfl) (fun Γ=>?_)
 unfold Qa4 at h
 obtain ⟨e0,h4,h⟩:=Qae h
 refine gn 7 [0,1,7,8] [] [nL Qaa.enc s0] (Qch Γ rv h4 ?_)
 rcases e0 with e0|e0
 ·replace h:(some (-1):Option Int) = some _:=h
  obtain rfl:=Option.some.inj h
  exact gr 2 [] []
 ·obtain ⟨r1,rfl⟩:∃ x,x = e0:=⟨_,rfl⟩
  replace h:(some r1:Option Int) = some _:=h
  exact Option.some.inj h
theorem QaA {s0 c} {rv:Bool} (h:QaU s0 c = some rv):AFn Tryz.prog 60 [.one (lL 2 s0 Qaa.enc),.one (.fn (.func 68) [.ip (Qad.enc c) 0])] [] (one (.bool rv)) []:=by
 refine QaO Tryz.func60 (by kernel_rfl) (by kernel_rfl) (fun Γ=>?_)
 unfold QaU at h
 obtain ⟨r,h0,h⟩:=Qae h
 obtain rfl:=Option.some.inj h
 exact gr 4 [] [cC (Qcr h0)]
def QdE (Γ:Gam) (rv:Int) (cf:Cf):Prop:=Go Tryz.prog Tryz.f39 [] Γ (one (lI rv)) [] cf
def QfM (Γ:Gam) (rv:Int) (x0:Qad) (r:Qab) (v:Int):Prop:=QdE Γ rv ⟨[.c 500,.l 500,.b 1,.c 63],⟨65,[vP 2 0 6,vL 5 2 r.visits Qaa.enc,vL 33 2 x0.apart QcQ.enc,vI 34 (lenI x0.apart),vI 35 v],[oX 6 30 (Qad.enc x0)]⟩⟩
def Qfj (Γ:Gam) (rv:Int) (x0:Qad) (r:Qab):Prop:=QdE Γ rv ⟨[.c 63],⟨65,[vP 2 0 6,vL 5 2 r.visits Qaa.enc],[oX 6 30 (Qad.enc x0)]⟩⟩
def QfN (Γ:Gam) (rv:Int) (x0:Qad) (r:Qab) (v1:Int):Prop:=QdE Γ rv ⟨[.c 1012,.l 1012,.b 3,.c 127],⟨65,[vL 5 2 r.visits Qaa.enc,vL 51 2 x0.before QcQ.enc,vI 52 (lenI x0.before),vI 53 v1],[]⟩⟩
def Qfk (Γ:Gam) (rv:Int) (x0:Qad) (r:Qab):Prop:=QdE Γ rv ⟨[.c 127],⟨65,[],[]⟩⟩
theorem Qh4 (Γ:Gam) (rv:Int) {x0 r} {s:Int} {e:(Unit) ⊕ (Int)} (h:loopF (fun s=>Qdm x0 r s) s = some e) (hD:sel e (fun e=>Qfj Γ rv x0 r) (fun e=>e = rv)):QfM Γ rv x0 r s:=by
 refine QaL (C:=fun (s:Int)=>QfM Γ rv x0 r s) (D:=fun (e:(Unit) ⊕ (Int))=>sel e (fun e=>Qfj Γ rv x0 r) (fun e=>e = rv)) ?_ h hD
 clear h hD s e
 intro v z_ h hI hE
 replace h:Qdm x0 r v = _:=h
 unfold Qdm at h
 rcases Qaf h with ⟨h9,h⟩|⟨h9,h⟩
 ·obtain ⟨x1,h10,h⟩:=Qae h
  obtain ⟨r5,h11,h⟩:=Qae h
  rcases Qaf h with ⟨h12,h⟩|⟨h12,h⟩
  ·obtain ⟨r6,h13,h⟩:=Qae h
   rcases Qaf h with ⟨h14,h⟩|⟨h14,h⟩
   ·obtain rfl:=(hE _ (oJ h):_ = rv)
    exact gr 14 [] [bT h9,cE QcQ.enc h10,oO (zL 0),oO (lT 0 2),cC (Qcc h11),rp 2 (bT h12),oO (zL 1),oO (lT 1 2),rp 2 (bT h12),cC (Qcc h13),bT h12,bT h14]
   ·exact gn 16 [2,5,33,34,35] [0] [bT h9,cE QcQ.enc h10,oO (zL 0),oO (lT 0 2),cC (Qcc h11),rp 2 (bT h12),oO (zL 1),oO (lT 1 2),rp 2 (bT h12),cC (Qcc h13),bT h12,bF h14] (hI _ (oJ h))
  ·exact gn 16 [2,5,33,34,35] [0] [bT h9,cE QcQ.enc h10,oO (zL 0),oO (lT 0 2),cC (Qcc h11),rp 5 (bF h12),fF] (hI _ (oJ h))
 ·exact gn 5 [2,5] [0] [bF h9] (hE _ (oJ h))
theorem Qh5 (Γ:Gam) (rv:Int) {x0 r} {s:Int} {e:(Unit) ⊕ (Int)} (h:loopF (fun s=>QcK x0 r s) s = some e) (hD:sel e (fun e=>Qfk Γ rv x0 r) (fun e=>e = rv)):QfN Γ rv x0 r s:=by
 refine QaL (C:=fun (s:Int)=>QfN Γ rv x0 r s) (D:=fun (e:(Unit) ⊕ (Int))=>sel e (fun e=>Qfk Γ rv x0 r) (fun e=>e = rv)) ?_ h hD
 clear h hD s e
 intro v1 z_ h hI hE
 replace h:QcK x0 r v1 = _:=h
 unfold QcK at h
 rcases Qaf h with ⟨h16,h⟩|⟨h16,h⟩
 ·obtain ⟨x2,h17,h⟩:=Qae h
  obtain ⟨r7,h18,h⟩:=Qae h
  rcases Qaf h with ⟨h19,h⟩|⟨h19,h⟩
  ·exact gn 16 [5,51,52,53] [] [bT h16,cE QcQ.enc h17,oO (zL 0),oO (lT 0 2),oO (zL 1),oO (lT 1 2),cC (Qge h18),nF h19] (hI _ (oJ h))
  ·obtain rfl:=(hE _ (oJ h):_ = rv)
   exact gr 14 [] [bT h16,cE QcQ.enc h17,oO (zL 0),oO (lT 0 2),oO (zL 1),oO (lT 1 2),cC (Qge h18),nT h19]
 ·exact gn 5 [] [] [bF h16] (hE _ (oJ h))
theorem QbS {x0 r} {rv:Int} (h:QeW x0 r = some rv):AFn Tryz.prog 39 [.agg (Qad.enc x0),.agg (Qab.enc r)] [] (one (lI rv)) []:=by
 refine QaO Tryz.func39 (by kernel_rfl) (by kernel_rfl) (fun Γ=>?_)
 unfold QeW at h
 rcases Qaf h with ⟨h0,h⟩|⟨h0,h⟩
 ·obtain rfl:=Option.some.inj h
  exact gr 10 [] [nL Qaa.enc r.visits,rp 4 (bT h0),tT]
 ·obtain ⟨r1,h1,h⟩:=Qae h
  rcases Qaf h with ⟨h2,h⟩|⟨h2,h⟩
  ·obtain rfl:=Option.some.inj h
   exact gr 10 [] [nL Qaa.enc r.visits,rp 3 (bF h0),cC (Qat h1),bF h0,bT h2]
  ·obtain ⟨r2,h3,h⟩:=Qae h
   rcases Qaf h with ⟨h4,h⟩|⟨h4,h⟩
   ·obtain rfl:=Option.some.inj h
    exact gr 16 [] [nL Qaa.enc r.visits,rp 3 (bF h0),cC (Qat h1),bF h0,bF h2,cC (QaA h3),bT h4]
   ·obtain ⟨r3,h5,h⟩:=Qae h
    rcases Qaf h with ⟨h6,h⟩|⟨h6,h⟩
    ·obtain rfl:=Option.some.inj h
     exact gr 19 [] [nL Qaa.enc r.visits,rp 3 (bF h0),cC (Qat h1),bF h0,bF h2,cC (QaA h3),bF h4,cC (Qeq h5),bT h6]
    ·obtain ⟨r4,h7,h⟩:=Qae h
     rcases Qaf h with ⟨h8,h⟩|⟨h8,h⟩
     ·obtain ⟨e0,h15,h⟩:=Qae h
      refine gn 27 [2,5,33,34,35] [0] [nL Qaa.enc r.visits,rp 3 (bF h0),cC (Qat h1),bF h0,bF h2,cC (QaA h3),bF h4,cC (Qeq h5),bF h6,cC (Qgf h7),nF h8,nL QcQ.enc x0.apart] (Qh4 Γ rv h15 ?_)
      rcases e0 with e0|e0
      ·replace h:(bnd (loopF (fun s=>QcK x0 r s) 0) (fun e=>sel e (fun (_:Unit)=>some 0) (fun r8=>some r8)):Option Int) = some _:=h
       obtain ⟨e1,h20,h⟩:=Qae h
       refine gn 5 [5,51,52,53] [] [nL QcQ.enc x0.before] (Qh5 Γ rv h20 ?_)
       rcases e1 with e1|e1
       ·replace h:(some 0:Option Int) = some _:=h
        obtain rfl:=Option.some.inj h
        exact gr 2 [] []
       ·obtain ⟨r8,rfl⟩:∃ x,x = e1:=⟨_,rfl⟩
        replace h:(some r8:Option Int) = some _:=h
        exact Option.some.inj h
      ·obtain ⟨r9,rfl⟩:∃ x,x = e0:=⟨_,rfl⟩
       replace h:(some r9:Option Int) = some _:=h
       exact Option.some.inj h
     ·obtain rfl:=Option.some.inj h
      exact gr 22 [] [nL Qaa.enc r.visits,rp 3 (bF h0),cC (Qat h1),bF h0,bF h2,cC (QaA h3),bF h4,cC (Qeq h5),bF h6,cC (Qgf h7),nT h8]
theorem Qi2 {t skills} {rv:Bool} (h:Qjw t skills = some rv):AFn Tryz.prog 73 [.agg (Qan.enc t),.one (lI skills)] [] (one (.bool rv)) []:=by
 refine QaO Tryz.func73 (by kernel_rfl) (by kernel_rfl) (fun Γ=>?_)
 unfold Qjw at h
 obtain rfl:=Option.some.inj h
 exact gr 4 [] [rp 9 hP,oI ((geI t.skills 0) = true),oR True ((geI t.skills 0) = true),rp 4 (oI (((geI t.skills 0) && (geI skills 0)) = true)),oR True (((geI t.skills 0) && (geI skills 0)) = true)]
def QjL (Γ:Gam) (rv:Int) (cf:Cf):Prop:=Go Tryz.prog Tryz.f40 [] Γ (one (lI rv)) [] cf
def QhN (Γ:Gam) (rv:Int) (x0:Qad) (r:Qab) (v:Int):Prop:=QjL Γ rv ⟨[.c 52,.l 52,.b 0,.c 7],⟨30,[vP 2 0 6,vP 3 1 4,vL 8 2 r.visits Qaa.enc,vI 9 (lenI r.visits),vI 10 v],[oX 6 30 (Qad.enc x0),oX 4 34 (Qab.enc r)]⟩⟩
def Qhi (Γ:Gam) (rv:Int) (x0:Qad) (r:Qab):Prop:=QjL Γ rv ⟨[.c 7],⟨30,[],[]⟩⟩
theorem QjM (Γ:Gam) (rv:Int) {x0 r} {s:Int} {e:(Unit) ⊕ (Int)} (h:loopF (fun s=>QfF x0 r s) s = some e) (hD:sel e (fun e=>Qhi Γ rv x0 r) (fun e=>e = rv)):QhN Γ rv x0 r s:=by
 refine QaL (C:=fun (s:Int)=>QhN Γ rv x0 r s) (D:=fun (e:(Unit) ⊕ (Int))=>sel e (fun e=>Qhi Γ rv x0 r) (fun e=>e = rv)) ?_ h hD
 clear h hD s e
 intro v z_ h hI hE
 replace h:QfF x0 r v = _:=h
 unfold QfF at h
 rcases Qaf h with ⟨h0,h⟩|⟨h0,h⟩
 ·obtain ⟨x1,h1,h⟩:=Qae h
  obtain ⟨x2,h2,h⟩:=Qae h
  obtain ⟨x3,h3,h⟩:=Qae h
  obtain ⟨r1,h4,h⟩:=Qae h
  rcases Qaf h with ⟨h5,h⟩|⟨h5,h⟩
  ·exact gn 16 [2,3,8,9,10] [0,1] [bT h0,cE Qaa.enc h1,hH (.draw 15 []),cE Qan.enc h2,cE Qap.enc h3,cC (Qi2 h4),nF h5] (hI _ (oJ h))
  ·obtain rfl:=(hE _ (oJ h):_ = rv)
   exact gr 14 [] [bT h0,cE Qaa.enc h1,hH (.draw 15 []),cE Qan.enc h2,cE Qap.enc h3,cC (Qi2 h4),nT h5]
 ·exact gn 5 [] [] [bF h0] (hE _ (oJ h))
theorem QfG {x0 r} {rv:Int} (h:QjK x0 r = some rv):AFn Tryz.prog 40 [.agg (Qad.enc x0),.agg (Qab.enc r)] [] (one (lI rv)) []:=by
 refine QaO Tryz.func40 (by kernel_rfl) (by kernel_rfl) (fun Γ=>?_)
 unfold QjK at h
 obtain ⟨e0,h6,h⟩:=Qae h
 refine gn 7 [2,3,8,9,10] [0,1] [nL Qaa.enc r.visits] (QjM Γ rv h6 ?_)
 rcases e0 with e0|e0
 ·replace h:(some 0:Option Int) = some _:=h
  obtain rfl:=Option.some.inj h
  exact gr 2 [] []
 ·obtain ⟨r2,rfl⟩:∃ x,x = e0:=⟨_,rfl⟩
  replace h:(some r2:Option Int) = some _:=h
  exact Option.some.inj h
def QgJ (Γ:Gam) (rv:Int × Int) (cf:Cf):Prop:=Go Tryz.prog Tryz.f118 [] Γ (.tup [.one (lI rv.1),.one (lI rv.2)]) [] cf
def Qfl (Γ:Gam) (rv:Int × Int) (r:Qab) (set_:Int) (v:Int):Prop:=QgJ Γ rv ⟨[.c 116,.l 116,.b 0,.c 15],⟨29,[vI 4 set_,vL 8 2 r.visits Qaa.enc,vI 9 (lenI r.visits),vI 10 v],[]⟩⟩
def QeL (Γ:Gam) (rv:Int × Int) (r:Qab) (set_1:Int):Prop:=QgJ Γ rv ⟨[.c 15],⟨29,[vI 4 set_1],[]⟩⟩
theorem QhD (Γ:Gam) (rv:Int × Int) {r} {s:Int × Int} {e:(Int) ⊕ (Int × Int)} (h:loopF (fun s=>Qdc r s.1 s.2) s = some e) (hD:sel e (fun e=>QeL Γ rv r e) (fun e=>e = rv)):Qfl Γ rv r s.1 s.2:=by
 refine QaL (C:=fun (s:Int × Int)=>Qfl Γ rv r s.1 s.2) (D:=fun (e:(Int) ⊕ (Int × Int))=>sel e (fun e=>QeL Γ rv r e) (fun e=>e = rv)) ?_ h hD
 clear h hD s e
 rintro ⟨set_,v⟩ z_ h hI hE
 replace h:Qdc r set_ v = _:=h
 unfold Qdc at h
 rcases Qaf h with ⟨h0,h⟩|⟨h0,h⟩
 ·obtain ⟨x0,h1,h⟩:=Qae h
  rcases Qaf h with ⟨h2,h⟩|⟨h2,h⟩
  ·obtain rfl:=(hE _ (oJ h):_ = rv)
   exact gr 15 [] [bT h0,cE Qaa.enc h1,rp 4 hP,rp 2 (oI ((ltI x0.order 0) = false)),oR True ((ltI x0.order 0) = false),bT h2]
  ·obtain ⟨h3,h⟩:=Qco h
   exact gn 18 [4,8,9,10] [] [bT h0,cE Qaa.enc h1,rp 4 hP,rp 2 (oI ((ltI x0.order 0) = false)),oR True ((ltI x0.order 0) = false),bF h2,oO (h3)] (hI _ (oJ h))
 ·exact gn 5 [4] [] [bF h0] (hE _ (oJ h))
theorem Qgd {r} {rv:Int × Int} (h:QfW r = some rv):AFn Tryz.prog 118 [.agg (Qab.enc r)] [] (.tup [.one (lI rv.1),.one (lI rv.2)]) []:=by
 refine QaO Tryz.func118 (by kernel_rfl) (by kernel_rfl) (fun Γ=>?_)
 unfold QfW at h
 obtain ⟨e0,h4,h⟩:=Qae h
 refine gn 9 [4,8,9,10] [] [nL Qaa.enc r.visits] (QhD Γ rv h4 ?_)
 rcases e0 with e0|e0
 ·obtain ⟨set_1,rfl⟩:∃ x,x = e0:=⟨_,rfl⟩
  replace h:(some (set_1,0):Option (Int × Int)) = some _:=h
  obtain rfl:=Option.some.inj h
  exact gr 2 [] []
 ·obtain ⟨r1,rfl⟩:∃ x,x = e0:=⟨_,rfl⟩
  replace h:(some r1:Option (Int × Int)) = some _:=h
  exact Option.some.inj h
theorem QkN {a b} {rv:Int} (h:QjD a b = some rv):AFn Tryz.prog 146 [.one (lI a),.one (lI b)] [] (one (lI rv)) []:=by
 refine QaO Tryz.func146 (by kernel_rfl) (by kernel_rfl) (fun Γ=>?_)
 unfold QjD at h
 obtain rfl:=Option.some.inj h
 exact gr 4 [] []
def Qfc (Γ:Gam) (rv:List Int × Int) (cf:Cf):Prop:=Go Tryz.prog Tryz.f145 [] Γ (.tup [.one (lL 1 rv.1 e_i64),.one (lI rv.2)]) [] cf
def QdF (Γ:Gam) (rv:List Int × Int) (a:List Int) (b:List Int) (l:List Int) (l1:List Int) (v:Int):Prop:=Qfc Γ rv ⟨[.c 244,.l 244,.b 0,.c 31],⟨38,[vL 0 1 a e_i64,vL 1 1 b e_i64,(2,one (.fn (.func 146) [])),vO 8 0 1 l1 e_i64,vI 19 (lenI a),vI 20 v],[oS 1 3 l1 e_i64]⟩⟩
def QdA (Γ:Gam) (rv:List Int × Int) (a:List Int) (b:List Int) (l:List Int) (l2:List Int):Prop:=Qfc Γ rv ⟨[.c 31],⟨38,[vO 8 0 1 l2 e_i64],[oS 1 3 l2 e_i64]⟩⟩
theorem Qgo (Γ:Gam) (rv:List Int × Int) {a b l} {s:List Int × Int} {e:List Int} (h:loopF (fun s=>QcA a b l s.1 s.2) s = some e) (hD:QdA Γ rv a b l e):QdF Γ rv a b l s.1 s.2:=by
 refine QaL (C:=fun (s:List Int × Int)=>QdF Γ rv a b l s.1 s.2) (D:=fun (e:List Int)=>QdA Γ rv a b l e) ?_ h hD
 clear h hD s e
 rintro ⟨l1,v⟩ z_ h hI hE
 replace h:QcA a b l l1 v = _:=h
 unfold QcA at h
 rcases Qaf h with ⟨h2,h⟩|⟨h2,h⟩
 ·obtain ⟨x0,h3,h⟩:=Qae h
  obtain ⟨x1,h4,h⟩:=Qae h
  obtain ⟨r,h5,h⟩:=Qae h
  obtain ⟨x2,h6,h⟩:=Qae h
  exact gn 13 [0,1,2,8,19,20] [0] [bT h2,hH (.draw 13 []),cE e_i64 h3,cE e_i64 h4,cC (QkN h5),oO (getLo h6),oO (getHi e_i64 h6),rE e_i64 h6,hH (.rows ((setI l1 v r).map e_i64)),hH (.relen 0 ((setI l1 v r).map e_i64).length),oO (setM e_i64 l1 v r),rp 2 (oO (Qnt e_i64 l1 v r))] (hI _ (oJ h))
 ·exact gn 5 [8] [0] [bF h2] (hE _ (oJ h))
theorem QhA {a b} {rv:List Int × Int} (h:QdP a b = some rv):AFn Tryz.prog 145 [.one (lL 1 a e_i64),.one (lL 1 b e_i64),.one (.fn (.func 146) [])] [] (.tup [.one (lL 1 rv.1 e_i64),.one (lI rv.2)]) []:=by
 refine QaO Tryz.func145 (by kernel_rfl) (by kernel_rfl) (fun Γ=>?_)
 unfold QdP at h
 rcases Qaf h with ⟨h0,h⟩|⟨h0,h⟩
 ·obtain rfl:=Option.some.inj h
  exact gr 8 [] [nL e_i64 a,nL e_i64 b,bT h0,hW 4,hH (.nilS 6 0 1)]
 ·obtain ⟨l,h1,h⟩:=Qae h
  obtain ⟨e0,h7,h⟩:=Qae h
  refine gn 14 [0,1,2,8,19,20] [0] [nL e_i64 a,nL e_i64 b,bF h0,nL e_i64 a,hH (.cells [lI 0]),hH (.rows (l.map e_i64)),oO (mk1 h1),oO (mk2 h1),oO (mk3 h1),oO (mk4 h1),oO (mk5 e_i64 h1),nL e_i64 a] (Qgo Γ rv h7 ?_)
  obtain ⟨l2,rfl⟩:∃ x,x = e0:=⟨_,rfl⟩
  replace h:(some (l2,0):Option (List Int × Int)) = some _:=h
  obtain rfl:=Option.some.inj h
  exact gr 2 [] [hW 5,hH (.frz 0),rp 3 (eL l2 e_i64)]
theorem QhY {a b} {rv:List Int × Int} (h:Qji a b = some rv):AFn Tryz.prog 121 [.one (lL 1 a e_i64),.one (lL 1 b e_i64)] [] (.tup [.one (lL 1 rv.1 e_i64),.one (lI rv.2)]) []:=by
 refine QaO Tryz.func121 (by kernel_rfl) (by kernel_rfl) (fun Γ=>?_)
 unfold Qji at h
 obtain ⟨r,h0,h⟩:=Qae h
 obtain rfl:=Option.some.inj h
 exact gr 4 [] [cC (QhA h0)]
theorem Qkg {set_ i} {rv:Bool} (h:Qlj set_ i = some rv):AFn Tryz.prog 159 [.one (lI set_),.one (lI i)] [] (one (.bool rv)) []:=by
 refine QaO Tryz.func159 (by kernel_rfl) (by kernel_rfl) (fun Γ=>?_)
 unfold Qlj at h
 rcases Qaf h with ⟨h0,h⟩|⟨h0,h⟩
 ·obtain ⟨h1,h⟩:=Qco h
  obtain rfl:=Option.some.inj h
  exact gr 4 [] [hP,hP,hP,oI ((geI i 0) = true),oR True ((geI i 0) = true),rp 3 (bT h0),oO (h1),rp 3 (bT h0)]
 ·obtain rfl:=Option.some.inj h
  exact gr 4 [] [hP,hP,hP,oI ((geI i 0) = true),oR True ((geI i 0) = true),rp 6 (bF h0)]
def Qir (Γ:Gam) (rv:List Int) (cf:Cf):Prop:=Go Tryz.prog Tryz.f144 [] Γ (one (lL 1 rv e_i64)) [] cf
def QgL (Γ:Gam) (rv:List Int) (set_:Int) (l:List Int) (v:Int):Prop:=Qir Γ rv ⟨[.c 116,.l 116,.b 0,.c 15],⟨17,[vI 0 set_,vO 3 0 1 l e_i64,vI 5 v],[oS 1 3 l e_i64]⟩⟩
def Qgg (Γ:Gam) (rv:List Int) (set_:Int) (l1:List Int):Prop:=Qir Γ rv ⟨[.c 15],⟨17,[vO 3 0 1 l1 e_i64],[oS 1 3 l1 e_i64]⟩⟩
theorem QiS (Γ:Gam) (rv:List Int) {set_} {s:List Int × Int} {e:List Int} (h:loopF (fun s=>Qd1 set_ s.1 s.2) s = some e) (hD:Qgg Γ rv set_ e):QgL Γ rv set_ s.1 s.2:=by
 refine QaL (C:=fun (s:List Int × Int)=>QgL Γ rv set_ s.1 s.2) (D:=fun (e:List Int)=>Qgg Γ rv set_ e) ?_ h hD
 clear h hD s e
 rintro ⟨l,v⟩ z_ h hI hE
 replace h:Qd1 set_ l v = _:=h
 unfold Qd1 at h
 rcases Qaf h with ⟨h0,h⟩|⟨h0,h⟩
 ·obtain ⟨r,h1,h⟩:=Qae h
  rcases Qaf h with ⟨h2,h⟩|⟨h2,h⟩
  ·obtain ⟨h3,h⟩:=Qco h
   exact gn 16 [0,3,5] [2] [bT h0,cC (Qkg h1),bT h2,oO (Eq.refl ([v].map e_i64).length),aO e_i64 h3] (hI _ (oJ h))
  ·exact gn 16 [0,3,5] [0] [bT h0,cC (Qkg h1),bF h2] (hI _ (oJ h))
 ·exact gn 5 [3] [0] [bF h0] (hE _ (oJ h))
theorem Qj0 {set_} {rv:List Int} (h:Qh7 set_ = some rv):AFn Tryz.prog 144 [.one (lI set_)] [] (one (lL 1 rv e_i64)) []:=by
 refine QaO Tryz.func144 (by kernel_rfl) (by kernel_rfl) (fun Γ=>?_)
 unfold Qh7 at h
 obtain ⟨e0,h4,h⟩:=Qae h
 refine gn 9 [0,3,5] [0] [hW 12,hH (.adopt 3 1 3)] (QiS Γ rv h4 ?_)
 obtain ⟨l1,rfl⟩:∃ x,x = e0:=⟨_,rfl⟩
 replace h:(some l1:Option (List Int)) = some _:=h
 obtain rfl:=Option.some.inj h
 exact gr 2 [] [hW 4,hH (.frz 0),rp 3 (eL l1 e_i64)]
def QiZ (Γ:Gam) (rv:List Int) (cf:Cf):Prop:=Go Tryz.prog Tryz.f119 [] Γ (one (lL 1 rv e_i64)) [] cf
def QgU (Γ:Gam) (rv:List Int) (x0:Qad) (l:List Int) (r:List Int) (sum:List Int) (v:Int):Prop:=QiZ Γ rv ⟨[.c 116,.l 116,.b 0,.c 15],⟨40,[vP 3 0 6,vL 7 1 sum e_i64,vL 13 1 r e_i64,vI 14 (lenI r),vI 15 v],[oX 6 30 (Qad.enc x0)]⟩⟩
def Qgv (Γ:Gam) (rv:List Int) (x0:Qad) (l:List Int) (r:List Int) (sum1:List Int):Prop:=QiZ Γ rv ⟨[.c 15],⟨40,[vL 7 1 sum1 e_i64],[]⟩⟩
theorem Qi8 (Γ:Gam) (rv:List Int) {x0 l r} {s:List Int × Int} {e:List Int} (h:loopF (fun s=>QeP x0 l r s.1 s.2) s = some e) (hD:Qgv Γ rv x0 l r e):QgU Γ rv x0 l r s.1 s.2:=by
 refine QaL (C:=fun (s:List Int × Int)=>QgU Γ rv x0 l r s.1 s.2) (D:=fun (e:List Int)=>Qgv Γ rv x0 l r e) ?_ h hD
 clear h hD s e
 rintro ⟨sum,v⟩ z_ h hI hE
 replace h:QeP x0 l r sum v = _:=h
 unfold QeP at h
 rcases Qaf h with ⟨h2,h⟩|⟨h2,h⟩
 ·obtain ⟨x1,h3,h⟩:=Qae h
  obtain ⟨x2,h4,h⟩:=Qae h
  rcases Qaf h with ⟨h5,h⟩|⟨h5,h⟩
  ·obtain ⟨r1,h6,h⟩:=Qae h
   exact gn 16 [3,7,13,14,15] [0] [bT h2,cE e_i64 h3,cE Qap.enc h4,bT h5,cE Qap.enc h4,cC (QhY h6)] (hI _ (oJ h))
  ·exact gn 16 [3,7,13,14,15] [0] [bT h2,cE e_i64 h3,cE Qap.enc h4,bF h5] (hI _ (oJ h))
 ·exact gn 5 [7] [] [bF h2] (hE _ (oJ h))
theorem Qki {x0 set_ dims} {rv:List Int} (h:Qix x0 set_ dims = some rv):AFn Tryz.prog 119 [.agg (Qad.enc x0),.one (lI set_),.one (lI dims)] [] (one (lL 1 rv e_i64)) []:=by
 refine QaO Tryz.func119 (by kernel_rfl) (by kernel_rfl) (fun Γ=>?_)
 unfold Qix at h
 obtain ⟨l,h0,h⟩:=Qae h
 obtain ⟨r,h1,h⟩:=Qae h
 obtain ⟨e0,h7,h⟩:=Qae h
 refine gn 9 [3,7,13,14,15] [0] [hH (.cells [lI 0]),hH (.rows (l.map e_i64)),oO (mk1 h0),oO (mk2 h0),oO (mk3 h0),oO (mk4 h0),oO (mk5 e_i64 h0),cC (Qj0 h1),nL e_i64 r,hW 3,hH (.frz 1),rp 2 (eL l e_i64)] (Qi8 Γ rv h7 ?_)
 obtain ⟨sum1,rfl⟩:∃ x,x = e0:=⟨_,rfl⟩
 replace h:(some sum1:Option (List Int)) = some _:=h
 obtain rfl:=Option.some.inj h
 exact gr 2 [] []
theorem QkI {l} {rv:Int} (h:Qjx l = some rv):AFn Tryz.prog 120 [.one (lL 14 l Qan.enc)] [] (one (lI rv)) []:=by
 refine QaO Tryz.func120 (by kernel_rfl) (by kernel_rfl) (fun Γ=>?_)
 unfold Qjx at h
 rcases Qaf h with ⟨h0,h⟩|⟨h0,h⟩
 ·obtain rfl:=Option.some.inj h
  exact gr 8 [] [nL Qan.enc l,bT h0]
 ·obtain ⟨x0,h1,h⟩:=Qae h
  obtain rfl:=Option.some.inj h
  exact gr 9 [] [nL Qan.enc l,bF h0,cE Qan.enc h1,nL e_i64 x0.cap]
theorem Qko {a b} {rv:Int} (h:QiH a b = some rv):AFn Tryz.prog 147 [.one (lI a),.one (lI b)] [] (one (lI rv)) []:=by
 refine QaO Tryz.func147 (by kernel_rfl) (by kernel_rfl) (fun Γ=>?_)
 unfold QiH at h
 obtain rfl:=Option.some.inj h
 exact gr 4 [] []
def QeD (Γ:Gam) (rv:List Int × Int) (cf:Cf):Prop:=Go Tryz.prog Tryz.f145 [] Γ (.tup [.one (lL 1 rv.1 e_i64),.one (lI rv.2)]) [] cf
def Qdz (Γ:Gam) (rv:List Int × Int) (a:List Int) (b:List Int) (l:List Int) (l1:List Int) (v:Int):Prop:=QeD Γ rv ⟨[.c 244,.l 244,.b 0,.c 31],⟨38,[vL 0 1 a e_i64,vL 1 1 b e_i64,(2,one (.fn (.func 147) [])),vO 8 0 1 l1 e_i64,vI 19 (lenI a),vI 20 v],[oS 1 3 l1 e_i64]⟩⟩
def Qdv (Γ:Gam) (rv:List Int × Int) (a:List Int) (b:List Int) (l:List Int) (l2:List Int):Prop:=QeD Γ rv ⟨[.c 31],⟨38,[vO 8 0 1 l2 e_i64],[oS 1 3 l2 e_i64]⟩⟩
theorem Qf8 (Γ:Gam) (rv:List Int × Int) {a b l} {s:List Int × Int} {e:List Int} (h:loopF (fun s=>Qcv a b l s.1 s.2) s = some e) (hD:Qdv Γ rv a b l e):Qdz Γ rv a b l s.1 s.2:=by
 refine QaL (C:=fun (s:List Int × Int)=>Qdz Γ rv a b l s.1 s.2) (D:=fun (e:List Int)=>Qdv Γ rv a b l e) ?_ h hD
 clear h hD s e
 rintro ⟨l1,v⟩ z_ h hI hE
 replace h:Qcv a b l l1 v = _:=h
 unfold Qcv at h
 rcases Qaf h with ⟨h2,h⟩|⟨h2,h⟩
 ·obtain ⟨x0,h3,h⟩:=Qae h
  obtain ⟨x1,h4,h⟩:=Qae h
  obtain ⟨r,h5,h⟩:=Qae h
  obtain ⟨x2,h6,h⟩:=Qae h
  exact gn 13 [0,1,2,8,19,20] [0] [bT h2,hH (.draw 13 []),cE e_i64 h3,cE e_i64 h4,cC (Qko h5),oO (getLo h6),oO (getHi e_i64 h6),rE e_i64 h6,hH (.rows ((setI l1 v r).map e_i64)),hH (.relen 0 ((setI l1 v r).map e_i64).length),oO (setM e_i64 l1 v r),rp 2 (oO (Qnt e_i64 l1 v r))] (hI _ (oJ h))
 ·exact gn 5 [8] [0] [bF h2] (hE _ (oJ h))
theorem Qg3 {a b} {rv:List Int × Int} (h:Qdy a b = some rv):AFn Tryz.prog 145 [.one (lL 1 a e_i64),.one (lL 1 b e_i64),.one (.fn (.func 147) [])] [] (.tup [.one (lL 1 rv.1 e_i64),.one (lI rv.2)]) []:=by
 refine QaO Tryz.func145 (by kernel_rfl) (by kernel_rfl) (fun Γ=>?_)
 unfold Qdy at h
 rcases Qaf h with ⟨h0,h⟩|⟨h0,h⟩
 ·obtain rfl:=Option.some.inj h
  exact gr 8 [] [nL e_i64 a,nL e_i64 b,bT h0,hW 4,hH (.nilS 6 0 1)]
 ·obtain ⟨l,h1,h⟩:=Qae h
  obtain ⟨e0,h7,h⟩:=Qae h
  refine gn 14 [0,1,2,8,19,20] [0] [nL e_i64 a,nL e_i64 b,bF h0,nL e_i64 a,hH (.cells [lI 0]),hH (.rows (l.map e_i64)),oO (mk1 h1),oO (mk2 h1),oO (mk3 h1),oO (mk4 h1),oO (mk5 e_i64 h1),nL e_i64 a] (Qf8 Γ rv h7 ?_)
  obtain ⟨l2,rfl⟩:∃ x,x = e0:=⟨_,rfl⟩
  replace h:(some (l2,0):Option (List Int × Int)) = some _:=h
  obtain rfl:=Option.some.inj h
  exact gr 2 [] [hW 5,hH (.frz 0),rp 3 (eL l2 e_i64)]
theorem QjC {a b} {rv:List Int × Int} (h:Qkn a b = some rv):AFn Tryz.prog 122 [.one (lL 1 a e_i64),.one (lL 1 b e_i64)] [] (.tup [.one (lL 1 rv.1 e_i64),.one (lI rv.2)]) []:=by
 refine QaO Tryz.func122 (by kernel_rfl) (by kernel_rfl) (fun Γ=>?_)
 unfold Qkn at h
 obtain ⟨r,h0,h⟩:=Qae h
 obtain rfl:=Option.some.inj h
 exact gr 4 [] [cC (Qg3 h0)]
def QiY (Γ:Gam) (rv:List (List Int) × Int) (cf:Cf):Prop:=Go Tryz.prog Tryz.f74 [] Γ (.tup [.one (lL 1 rv.1 QcU),.one (lI rv.2)]) [] cf
def QgT (Γ:Gam) (rv:List (List Int) × Int) (x0:Qad) (r:Qab) (l:List (List Int)) (now:List Int) (v:Int):Prop:=QiY Γ rv ⟨[.c 2036,.l 2036,.b 0,.c 255],⟨67,[vP 2 0 6,vL 9 1 now e_i64,vO 10 1 1 l QcU,vL 37 2 r.visits Qaa.enc,vI 38 (lenI r.visits),vI 39 v],[oX 6 30 (Qad.enc x0),oS 1 43 l QcU]⟩⟩
def Qgu (Γ:Gam) (rv:List (List Int) × Int) (x0:Qad) (r:Qab) (l1:List (List Int)):Prop:=QiY Γ rv ⟨[.c 255],⟨67,[vO 10 0 1 l1 QcU],[oS 1 43 l1 QcU]⟩⟩
theorem Qi7 (Γ:Gam) (rv:List (List Int) × Int) {x0 r} {s:List (List Int) × List Int × Int} {e:(List (List Int)) ⊕ (List (List Int) × Int)} (h:loopF (fun s=>QeO x0 r s.1 s.2.1 s.2.2) s = some e) (hD:sel e (fun e=>Qgu Γ rv x0 r e) (fun e=>e = rv)):QgT Γ rv x0 r s.1 s.2.1 s.2.2:=by
 refine QaL (C:=fun (s:List (List Int) × List Int × Int)=>QgT Γ rv x0 r s.1 s.2.1 s.2.2) (D:=fun (e:(List (List Int)) ⊕ (List (List Int) × Int))=>sel e (fun e=>Qgu Γ rv x0 r e) (fun e=>e = rv)) ?_ h hD
 clear h hD s e
 rintro ⟨l,now,v⟩ z_ h hI hE
 replace h:QeO x0 r l now v = _:=h
 unfold QeO at h
 rcases Qaf h with ⟨h6,h⟩|⟨h6,h⟩
 ·obtain ⟨x1,h7,h⟩:=Qae h
  rcases Qaf h with ⟨h8,h⟩|⟨h8,h⟩
  ·obtain ⟨x2,h9,h⟩:=Qae h
   obtain ⟨r5,h10,h⟩:=Qae h
   rcases Qaf h with ⟨h11,h⟩|⟨h11,h⟩
   ·obtain rfl:=(hE _ (oJ h):_ = rv)
    exact gr 24 [] [bT h6,cE Qaa.enc h7,bT h8,cE Qap.enc h9,cC (QjC h10),bT h11,hW 5,hH (.nilS 4 0 1)]
   ·obtain ⟨h12,h⟩:=Qco h
    exact gn 27 [2,9,10,37,38,39] [0,4] [bT h6,cE Qaa.enc h7,bT h8,cE Qap.enc h9,cC (QjC h10),bF h11,oO (Eq.refl ([r5.1].map QcU).length),aO QcU h12] (hI _ (oJ h))
  ·obtain ⟨x3,h13,h⟩:=Qae h
   obtain ⟨r6,h14,h⟩:=Qae h
   rcases Qaf h with ⟨h15,h⟩|⟨h15,h⟩
   ·obtain rfl:=(hE _ (oJ h):_ = rv)
    exact gr 24 [] [bT h6,cE Qaa.enc h7,bF h8,cE Qap.enc h13,cC (QhY h14),bT h15,hW 5,hH (.nilS 4 0 1)]
   ·obtain ⟨h16,h⟩:=Qco h
    exact gn 27 [2,9,10,37,38,39] [0,4] [bT h6,cE Qaa.enc h7,bF h8,cE Qap.enc h13,cC (QhY h14),bF h15,oO (Eq.refl ([r6.1].map QcU).length),aO QcU h16] (hI _ (oJ h))
 ·exact gn 5 [10] [1] [bF h6] (hE _ (oJ h))
theorem Qgl {x0 r} {rv:List (List Int) × Int} (h:Qiw x0 r = some rv):AFn Tryz.prog 74 [.agg (Qad.enc x0),.agg (Qab.enc r)] [] (.tup [.one (lL 1 rv.1 QcU),.one (lI rv.2)]) []:=by
 refine QaO Tryz.func74 (by kernel_rfl) (by kernel_rfl) (fun Γ=>?_)
 unfold Qiw at h
 obtain ⟨r1,h0,h⟩:=Qae h
 rcases Qaf h with ⟨h1,h⟩|⟨h1,h⟩
 ·obtain rfl:=Option.some.inj h
  exact gr 10 [] [cC (QbS h0),bT h1,hW 5,hH (.nilS 4 0 1)]
 ·obtain ⟨r2,h2,h⟩:=Qae h
  rcases Qaf h with ⟨h3,h⟩|⟨h3,h⟩
  ·obtain rfl:=Option.some.inj h
   exact gr 17 [] [cC (QbS h0),bF h1,cC (Qgd h2),bT h3,hW 5,hH (.nilS 4 0 1)]
  ·obtain ⟨r3,h4,h⟩:=Qae h
   obtain ⟨r4,h5,h⟩:=Qae h
   obtain ⟨e0,h17,h⟩:=Qae h
   refine gn 25 [2,9,10,37,38,39] [0,2] [cC (QbS h0),bF h1,cC (Qgd h2),bF h3,hH (.draw 7 []),cC (QkI h4),cC (Qki h5),nL Qaa.enc r.visits] (Qi7 Γ rv h17 ?_)
   rcases e0 with e0|e0
   ·obtain ⟨l1,rfl⟩:∃ x,x = e0:=⟨_,rfl⟩
    replace h:(some (l1,0):Option (List (List Int) × Int)) = some _:=h
    obtain rfl:=Option.some.inj h
    exact gr 2 [] [hW 5,hH (.frz 0),rp 3 (eL l1 QcU)]
   ·obtain ⟨r7,rfl⟩:∃ x,x = e0:=⟨_,rfl⟩
    replace h:(some r7:Option (List (List Int) × Int)) = some _:=h
    exact Option.some.inj h
def QjA (Γ:Gam) (rv:Bool) (cf:Cf):Prop:=Go Tryz.prog Tryz.f77 [] Γ (one (.bool rv)) [] cf
def QhK (Γ:Gam) (rv:Bool) (a:List Int) (capacity:List Int) (v:Int):Prop:=QjA Γ rv ⟨[.c 116,.l 116,.b 0,.c 15],⟨26,[vL 1 1 capacity e_i64,vL 12 1 a e_i64,vI 13 (lenI a),vI 14 v],[]⟩⟩
def Qg2 (Γ:Gam) (rv:Bool) (a:List Int) (capacity:List Int):Prop:=QjA Γ rv ⟨[.c 15],⟨26,[],[]⟩⟩
theorem QjB (Γ:Gam) (rv:Bool) {a capacity} {s:Int} {e:(Unit) ⊕ (Bool)} (h:loopF (fun s=>Qfy a capacity s) s = some e) (hD:sel e (fun e=>Qg2 Γ rv a capacity) (fun e=>e = rv)):QhK Γ rv a capacity s:=by
 refine QaL (C:=fun (s:Int)=>QhK Γ rv a capacity s) (D:=fun (e:(Unit) ⊕ (Bool))=>sel e (fun e=>Qg2 Γ rv a capacity) (fun e=>e = rv)) ?_ h hD
 clear h hD s e
 intro v z_ h hI hE
 replace h:Qfy a capacity v = _:=h
 unfold Qfy at h
 rcases Qaf h with ⟨h1,h⟩|⟨h1,h⟩
 ·obtain ⟨x0,h2,h⟩:=Qae h
  obtain ⟨x1,h3,h⟩:=Qae h
  rcases Qaf h with ⟨h4,h⟩|⟨h4,h⟩
  ·obtain rfl:=(hE _ (oJ h):_ = rv)
   exact gr 14 [] [bT h1,cE e_i64 h2,cE e_i64 h3,bT h4]
  ·exact gn 16 [1,12,13,14] [] [bT h1,cE e_i64 h2,cE e_i64 h3,bF h4] (hI _ (oJ h))
 ·exact gn 5 [] [] [bF h1] (hE _ (oJ h))
theorem QkM {a capacity} {rv:Bool} (h:Qjz a capacity = some rv):AFn Tryz.prog 77 [.one (lL 1 a e_i64),.one (lL 1 capacity e_i64)] [] (one (.bool rv)) []:=by
 refine QaO Tryz.func77 (by kernel_rfl) (by kernel_rfl) (fun Γ=>?_)
 unfold Qjz at h
 rcases Qaf h with ⟨h0,h⟩|⟨h0,h⟩
 ·obtain rfl:=Option.some.inj h
  exact gr 8 [] [nL e_i64 a,nL e_i64 capacity,bT h0]
 ·obtain ⟨e0,h5,h⟩:=Qae h
  refine gn 12 [1,12,13,14] [] [nL e_i64 a,nL e_i64 capacity,bF h0,nL e_i64 a] (QjB Γ rv h5 ?_)
  rcases e0 with e0|e0
  ·replace h:(some true:Option Bool) = some _:=h
   obtain rfl:=Option.some.inj h
   exact gr 2 [] []
  ·obtain ⟨r,rfl⟩:∃ x,x = e0:=⟨_,rfl⟩
   replace h:(some r:Option Bool) = some _:=h
   exact Option.some.inj h
theorem QhG {a c c1} {rv:Bool} (h:QhT a c c1 = some rv):AFn Tryz.prog 76 [.one (lL 1 a e_i64),.one (.ip (Qad.enc c) 0),.one (.ip (Qab.enc c1) 0)] [] (one (.bool rv)) []:=by
 refine QaO Tryz.func76 (by kernel_rfl) (by kernel_rfl) (fun Γ=>?_)
 unfold QhT at h
 obtain ⟨x0,h0,h⟩:=Qae h
 obtain ⟨r,h1,h⟩:=Qae h
 obtain rfl:=Option.some.inj h
 exact gr 4 [] [cE Qan.enc h0,cC (QkM h1)]
def Qb2 (Γ:Gam) (rv:Int) (cf:Cf):Prop:=Go Tryz.prog Tryz.f123 [] Γ (one (lI rv)) [] cf
def QbT (Γ:Gam) (rv:Int) (s0:List (List Int)) (c:Qad) (c1:Qab) (v:Int):Prop:=Qb2 Γ rv ⟨[.c 52,.l 52,.b 0,.c 7],⟨19,[vL 0 1 s0 QcU,(1,one (.fn (.func 76) [.ip (Qad.enc c) 0,.ip (Qab.enc c1) 0])),vI 7 (lenI s0),vI 8 v],[]⟩⟩
def QbR (Γ:Gam) (rv:Int) (s0:List (List Int)) (c:Qad) (c1:Qab):Prop:=Qb2 Γ rv ⟨[.c 7],⟨19,[],[]⟩⟩
theorem QcF (Γ:Gam) (rv:Int) {s0 c c1} {s:Int} {e:(Unit) ⊕ (Int)} (h:loopF (fun s=>QaS s0 c c1 s) s = some e) (hD:sel e (fun e=>QbR Γ rv s0 c c1) (fun e=>e = rv)):QbT Γ rv s0 c c1 s:=by
 refine QaL (C:=fun (s:Int)=>QbT Γ rv s0 c c1 s) (D:=fun (e:(Unit) ⊕ (Int))=>sel e (fun e=>QbR Γ rv s0 c c1) (fun e=>e = rv)) ?_ h hD
 clear h hD s e
 intro v z_ h hI hE
 replace h:QaS s0 c c1 v = _:=h
 unfold QaS at h
 rcases Qaf h with ⟨h0,h⟩|⟨h0,h⟩
 ·obtain ⟨x0,h1,h⟩:=Qae h
  obtain ⟨r,h2,h⟩:=Qae h
  rcases Qaf h with ⟨h3,h⟩|⟨h3,h⟩
  ·obtain rfl:=(hE _ (oJ h):_ = rv)
   exact gr 14 [] [bT h0,cE QcU h1,cC (QhG h2),bT h3]
  ·exact gn 16 [0,1,7,8] [] [bT h0,cE QcU h1,cC (QhG h2),bF h3] (hI _ (oJ h))
 ·exact gn 5 [] [] [bF h0] (hE _ (oJ h))
theorem QcS {s0 c c1} {rv:Int} (h:QbD s0 c c1 = some rv):AFn Tryz.prog 123 [.one (lL 1 s0 QcU),.one (.fn (.func 76) [.ip (Qad.enc c) 0,.ip (Qab.enc c1) 0])] [] (one (lI rv)) []:=by
 refine QaO Tryz.func123 (by kernel_rfl) (by kernel_rfl) (fun Γ=>?_)
 unfold QbD at h
 obtain ⟨e0,h4,h⟩:=Qae h
 refine gn 7 [0,1,7,8] [] [nL QcU s0] (QcF Γ rv h4 ?_)
 rcases e0 with e0|e0
 ·replace h:(some (-1):Option Int) = some _:=h
  obtain rfl:=Option.some.inj h
  exact gr 2 [] []
 ·obtain ⟨r1,rfl⟩:∃ x,x = e0:=⟨_,rfl⟩
  replace h:(some r1:Option Int) = some _:=h
  exact Option.some.inj h
theorem QbQ {s0 c c1} {rv:Bool} (h:Qbm s0 c c1 = some rv):AFn Tryz.prog 75 [.one (lL 1 s0 QcU),.one (.fn (.func 76) [.ip (Qad.enc c) 0,.ip (Qab.enc c1) 0])] [] (one (.bool rv)) []:=by
 refine QaO Tryz.func75 (by kernel_rfl) (by kernel_rfl) (fun Γ=>?_)
 unfold Qbm at h
 obtain ⟨r,h0,h⟩:=Qae h
 obtain rfl:=Option.some.inj h
 exact gr 4 [] [cC (QcS h0)]
theorem QgS {x0 r} {rv:Int} (h:Qjm x0 r = some rv):AFn Tryz.prog 41 [.agg (Qad.enc x0),.agg (Qab.enc r)] [] (one (lI rv)) []:=by
 refine QaO Tryz.func41 (by kernel_rfl) (by kernel_rfl) (fun Γ=>?_)
 unfold Qjm at h
 rcases Qaf h with ⟨h0,h⟩|⟨h0,h⟩
 ·obtain rfl:=Option.some.inj h
  exact gr 8 [] [rp 5 hP,rp 3 (oI ((ltI r.type_ 0) = false)),nL Qan.enc x0.types,hP,hP,rp 2 (oI ((ltI r.type_ 0) = false)),oR True ((ltI r.type_ 0) = false),bT h0]
 ·obtain ⟨r1,h1,h⟩:=Qae h
  rcases Qaf h with ⟨h2,h⟩|⟨h2,h⟩
  ·obtain rfl:=Option.some.inj h
   exact gr 15 [] [rp 5 hP,rp 3 (oI ((ltI r.type_ 0) = false)),nL Qan.enc x0.types,hP,hP,rp 2 (oI ((ltI r.type_ 0) = false)),oR True ((ltI r.type_ 0) = false),bF h0,cC (Qgl h1),bT h2]
  ·obtain ⟨r2,h3,h⟩:=Qae h
   rcases Qaf h with ⟨h4,h⟩|⟨h4,h⟩
   ·obtain rfl:=Option.some.inj h
    exact gr 20 [] [rp 5 hP,rp 3 (oI ((ltI r.type_ 0) = false)),nL Qan.enc x0.types,hP,hP,rp 2 (oI ((ltI r.type_ 0) = false)),oR True ((ltI r.type_ 0) = false),bF h0,cC (Qgl h1),bF h2,cC (QbQ h3),bT h4]
   ·obtain rfl:=Option.some.inj h
    exact gr 21 [] [rp 5 hP,rp 3 (oI ((ltI r.type_ 0) = false)),nL Qan.enc x0.types,hP,hP,rp 2 (oI ((ltI r.type_ 0) = false)),oR True ((ltI r.type_ 0) = false),bF h0,cC (Qgl h1),bF h2,cC (QbQ h3),bF h4]
def Qlf (Γ:Gam) (rv:Qam × Int) (cf:Cf):Prop:=Go Tryz.prog Tryz.f50 [] Γ (.tup [.agg [lI rv.1.place,lI rv.1.open_,lI rv.1.close,lI rv.1.service],.one (lI rv.2)]) [] cf
theorem Qhe (Γ:Gam) (rv:Qam × Int) {x1} (h:QfC x1 = some rv):Qlf Γ rv ⟨[.c 31],⟨32,[vP 4 0 4,vP 6 1 4],[oX 4 103 [lI 0,lI 0,lI 0,lI 0],oX 4 103 (Qam.enc x1)]⟩⟩:=by
 unfold QfC at h
 rcases Qaf h with ⟨h4,h⟩|⟨h4,h⟩
 ·obtain rfl:=Option.some.inj h
  exact gr 6 [] [bT h4]
 ·obtain rfl:=Option.some.inj h
  exact gr 7 [] [bF h4]
theorem Qhf {l v} {rv:Qam × Int} (h:Qil l v = some rv):AFn Tryz.prog 50 [.one (lL 16 l Qap.enc),.agg (Qaa.enc v)] [] (.tup [.agg [lI rv.1.place,lI rv.1.open_,lI rv.1.close,lI rv.1.service],.one (lI rv.2)]) []:=by
 refine QaO Tryz.func50 (by kernel_rfl) (by kernel_rfl) (fun Γ=>?_)
 unfold Qil at h
 obtain ⟨r,h0,h⟩:=Qae h
 rcases Qaf h with ⟨h1,h⟩|⟨h1,h⟩
 ·obtain ⟨x0,h2,h⟩:=Qae h
  rcases Qaf h with ⟨h3,h⟩|⟨h3,h⟩
  ·exact gn 14 [4,6] [1,2] [cC (Qdb h0),nF h1,cE Qap.enc h2,bT h3,cE Qap.enc h2] (Qhe Γ rv h)
  ·exact gn 14 [4,6] [1,2] [cC (Qdb h0),nF h1,cE Qap.enc h2,bF h3] (Qhe Γ rv h)
 ·obtain rfl:=Option.some.inj h
  exact gr 8 [] [cC (Qdb h0),nT h1]
def Qjr (Γ:Gam) (rv:Qal × Bool) (cf:Cf):Prop:=Go Tryz.prog Tryz.f78 [] Γ (.tup [.agg [lL 1 rv.1.x.net.places e_str,lL 6 rv.1.x.net.arcs Qaw.enc,lL 14 rv.1.x.types Qan.enc,lL 16 rv.1.x.orders Qap.enc,lL 2 rv.1.x.apart QcQ.enc,lL 2 rv.1.x.before QcQ.enc,.str rv.1.t.name,lI rv.1.t.count,lI rv.1.t.from_,lI rv.1.t.to_,lL 1 rv.1.t.cap e_i64,lI rv.1.t.skills,lI rv.1.t.profile,lI rv.1.t.open_,lI rv.1.t.close,lI rv.1.t.drive,lI rv.1.t.rest_,lI rv.1.t.fixed,lI rv.1.t.perMile,lI rv.1.t.perTick,lI rv.1.r.type_,lI rv.1.r.start,lL 1 rv.1.r.rests QaI,lL 2 rv.1.r.visits Qaa.enc,lL 4 rv.1.stops Qam.enc],.one (.bool rv.2)]) [] cf
def QhJ (Γ:Gam) (rv:Qal × Bool) (x0:Qad) (r:Qab) (x1:Qan) (l:List Qam) (v:Int):Prop:=Qjr Γ rv ⟨[.c 244,.l 244,.b 0,.c 31],⟨78,[vP 2 0 6,vP 4 1 25,vP 6 2 25,vL 49 2 r.visits Qaa.enc,vI 50 (lenI r.visits),vI 51 v],[oX 6 30 (Qad.enc x0),oX 25 133 [.nils,.nils,.nils,.nils,.nils,.nils,.str ByteArray.empty,lI 0,lI 0,lI 0,.nils,lI 0,lI 0,lI 0,lI 0,lI 0,lI 0,lI 0,lI 0,lI 0,lI 0,lI 0,.nils,.nils,.nils],oX 25 133 [lL 1 x0.net.places e_str,lL 6 x0.net.arcs Qaw.enc,lL 14 x0.types Qan.enc,lL 16 x0.orders Qap.enc,lL 2 x0.apart QcQ.enc,lL 2 x0.before QcQ.enc,.str x1.name,lI x1.count,lI x1.from_,lI x1.to_,lL 1 x1.cap e_i64,lI x1.skills,lI x1.profile,lI x1.open_,lI x1.close,lI x1.drive,lI x1.rest_,lI x1.fixed,lI x1.perMile,lI x1.perTick,lI r.type_,lI r.start,lL 1 r.rests QaI,lL 2 r.visits Qaa.enc,lO 3 4 l Qam.enc],oS 4 103 l Qam.enc]⟩⟩
def QgY (Γ:Gam) (rv:Qal × Bool) (x0:Qad) (r:Qab) (x1:Qan) (l1:List Qam):Prop:=Qjr Γ rv ⟨[.c 31],⟨78,[vP 4 0 25,vP 6 1 25],[oX 25 133 [.nils,.nils,.nils,.nils,.nils,.nils,.str ByteArray.empty,lI 0,lI 0,lI 0,.nils,lI 0,lI 0,lI 0,lI 0,lI 0,lI 0,lI 0,lI 0,lI 0,lI 0,lI 0,.nils,.nils,.nils],oX 25 133 [lL 1 x0.net.places e_str,lL 6 x0.net.arcs Qaw.enc,lL 14 x0.types Qan.enc,lL 16 x0.orders Qap.enc,lL 2 x0.apart QcQ.enc,lL 2 x0.before QcQ.enc,.str x1.name,lI x1.count,lI x1.from_,lI x1.to_,lL 1 x1.cap e_i64,lI x1.skills,lI x1.profile,lI x1.open_,lI x1.close,lI x1.drive,lI x1.rest_,lI x1.fixed,lI x1.perMile,lI x1.perTick,lI r.type_,lI r.start,lL 1 r.rests QaI,lL 2 r.visits Qaa.enc,lO 2 4 l1 Qam.enc],oS 4 103 l1 Qam.enc]⟩⟩
theorem Qjs (Γ:Gam) (rv:Qal × Bool) {x0 r x1} {s:List Qam × Int} {e:(List Qam) ⊕ (Qal × Bool)} (h:loopF (fun s=>Qfv x0 r x1 s.1 s.2) s = some e) (hD:sel e (fun e=>QgY Γ rv x0 r x1 e) (fun e=>e = rv)):QhJ Γ rv x0 r x1 s.1 s.2:=by
 refine QaL (C:=fun (s:List Qam × Int)=>QhJ Γ rv x0 r x1 s.1 s.2) (D:=fun (e:(List Qam) ⊕ (Qal × Bool))=>sel e (fun e=>QgY Γ rv x0 r x1 e) (fun e=>e = rv)) ?_ h hD
 clear h hD s e
 rintro ⟨l,v⟩ z_ h hI hE
 replace h:Qfv x0 r x1 l v = _:=h
 unfold Qfv at h
 rcases Qaf h with ⟨h2,h⟩|⟨h2,h⟩
 ·obtain ⟨x2,h3,h⟩:=Qae h
  obtain ⟨r1,h4,h⟩:=Qae h
  rcases Qaf h with ⟨h5,h⟩|⟨h5,h⟩
  ·obtain rfl:=(hE _ (oJ h):_ = rv)
   exact gr 17 [] [bT h2,cE Qaa.enc h3,cC (Qhf h4),rp 4 hP,rp 2 (oI ((neI r1.2 0) = false)),oR True ((neI r1.2 0) = false),bT h5,hW 5,hH (.nilB 1 0 1),hH (.nilB 1 1 6),hH (.nilB 1 2 14),hH (.nilB 1 3 16),hH (.nilB 1 4 2),hH (.nilB 1 5 2),hH (.nilB 1 10 1),hH (.nilB 1 22 1),hH (.nilB 1 23 2),hH (.nilB 1 24 4)]
  ·obtain ⟨h6,h⟩:=Qco h
   exact gn 20 [2,4,6,49,50,51] [0,1,2,7] [bT h2,cE Qaa.enc h3,cC (Qhf h4),rp 4 hP,rp 2 (oI ((neI r1.2 0) = false)),oR True ((neI r1.2 0) = false),bF h5,oO (Eq.refl ([r1.1].map Qam.enc).length),aO Qam.enc h6] (hI _ (oJ h))
 ·exact gn 5 [4,6] [1,2,3] [bF h2] (hE _ (oJ h))
theorem Qi1 {x0 r} {rv:Qal × Bool} (h:Qjq x0 r = some rv):AFn Tryz.prog 78 [.agg (Qad.enc x0),.agg (Qab.enc r)] [] (.tup [.agg [lL 1 rv.1.x.net.places e_str,lL 6 rv.1.x.net.arcs Qaw.enc,lL 14 rv.1.x.types Qan.enc,lL 16 rv.1.x.orders Qap.enc,lL 2 rv.1.x.apart QcQ.enc,lL 2 rv.1.x.before QcQ.enc,.str rv.1.t.name,lI rv.1.t.count,lI rv.1.t.from_,lI rv.1.t.to_,lL 1 rv.1.t.cap e_i64,lI rv.1.t.skills,lI rv.1.t.profile,lI rv.1.t.open_,lI rv.1.t.close,lI rv.1.t.drive,lI rv.1.t.rest_,lI rv.1.t.fixed,lI rv.1.t.perMile,lI rv.1.t.perTick,lI rv.1.r.type_,lI rv.1.r.start,lL 1 rv.1.r.rests QaI,lL 2 rv.1.r.visits Qaa.enc,lL 4 rv.1.stops Qam.enc],.one (.bool rv.2)]) []:=by
 refine QaO Tryz.func78 (by kernel_rfl) (by kernel_rfl) (fun Γ=>?_)
 unfold Qjq at h
 rcases Qaf h with ⟨h0,h⟩|⟨h0,h⟩
 ·obtain rfl:=Option.some.inj h
  exact gr 8 [] [rp 5 hP,rp 3 (oI ((ltI r.type_ 0) = false)),nL Qan.enc x0.types,rp 13 hP,rp 2 (oI ((ltI r.type_ 0) = false)),oR True ((ltI r.type_ 0) = false),rp 2 (oI (((ltI r.type_ 0) || (geI r.type_ (lenI x0.types))) = false)),oR True (((ltI r.type_ 0) || (geI r.type_ (lenI x0.types))) = false),rp 2 (oI ((((ltI r.type_ 0) || (geI r.type_ (lenI x0.types))) || (ltI r.start 0)) = false)),oR True ((((ltI r.type_ 0) || (geI r.type_ (lenI x0.types))) || (ltI r.start 0)) = false),rp 2 (oI (((((ltI r.type_ 0) || (geI r.type_ (lenI x0.types))) || (ltI r.start 0)) || (gtI r.start 4096)) = false)),nL Qaa.enc r.visits,hP,hP,oI (((((ltI r.type_ 0) || (geI r.type_ (lenI x0.types))) || (ltI r.start 0)) || (gtI r.start 4096)) = false),oR True (((((ltI r.type_ 0) || (geI r.type_ (lenI x0.types))) || (ltI r.start 0)) || (gtI r.start 4096)) = false),bT h0,hW 5,hH (.nilB 2 0 1),hH (.nilB 2 1 6),hH (.nilB 2 2 14),hH (.nilB 2 3 16),hH (.nilB 2 4 2),hH (.nilB 2 5 2),hH (.nilB 2 10 1),hH (.nilB 2 22 1),hH (.nilB 2 23 2),hH (.nilB 2 24 4)]
 ·obtain ⟨x1,h1,h⟩:=Qae h
  obtain ⟨e0,h7,h⟩:=Qae h
  refine gn 14 [2,4,6,49,50,51] [0,2,3,4] [rp 5 hP,rp 3 (oI ((ltI r.type_ 0) = false)),nL Qan.enc x0.types,rp 13 hP,rp 2 (oI ((ltI r.type_ 0) = false)),oR True ((ltI r.type_ 0) = false),rp 2 (oI (((ltI r.type_ 0) || (geI r.type_ (lenI x0.types))) = false)),oR True (((ltI r.type_ 0) || (geI r.type_ (lenI x0.types))) = false),rp 2 (oI ((((ltI r.type_ 0) || (geI r.type_ (lenI x0.types))) || (ltI r.start 0)) = false)),oR True ((((ltI r.type_ 0) || (geI r.type_ (lenI x0.types))) || (ltI r.start 0)) = false),rp 2 (oI (((((ltI r.type_ 0) || (geI r.type_ (lenI x0.types))) || (ltI r.start 0)) || (gtI r.start 4096)) = false)),nL Qaa.enc r.visits,hP,hP,oI (((((ltI r.type_ 0) || (geI r.type_ (lenI x0.types))) || (ltI r.start 0)) || (gtI r.start 4096)) = false),oR True (((((ltI r.type_ 0) || (geI r.type_ (lenI x0.types))) || (ltI r.start 0)) || (gtI r.start 4096)) = false),bF h0,hH (.draw 10 []),cE Qan.enc h1,nL Qaa.enc r.visits,hW 3,hH (.adoptB 3 24 4 103)] (Qjs Γ rv h7 ?_)
  rcases e0 with e0|e0
  ·obtain ⟨l1,rfl⟩:∃ x,x = e0:=⟨_,rfl⟩
   replace h:(some ((Qal.mk x0 x1 r l1),true):Option (Qal × Bool)) = some _:=h
   obtain rfl:=Option.some.inj h
   exact gr 2 [] [hW 5,hH (.frz 2),rp 3 (eL l1 Qam.enc)]
  ·obtain ⟨r2,rfl⟩:∃ x,x = e0:=⟨_,rfl⟩
   replace h:(some r2:Option (Qal × Bool)) = some _:=h
   exact Option.some.inj h
theorem Qfw {p} {rv:Qac} (h:Qdw p = some rv):AFn Tryz.prog 79 [.agg (Qal.enc p)] [] (gG [lI rv.ready,lI rv.since,.bool rv.sheet.rest_,lI rv.sheet.depart,lL 4 rv.sheet.times Qai.enc,lI rv.sheet.end_,lI rv.sheet.miles]) []:=by
 refine QaO Tryz.func79 (by kernel_rfl) (by kernel_rfl) (fun Γ=>?_)
 unfold Qdw at h
 obtain rfl:=Option.some.inj h
 exact gr 4 [] [hW 15,hH (.nilB 1 4 4)]
theorem QbP {n i} {rv:Bool} (h:QfB n i = some rv):AFn Tryz.prog 160 [.agg (Qar.enc n),.one (lI i)] [] (one (.bool rv)) []:=by
 refine QaO Tryz.func160 (by kernel_rfl) (by kernel_rfl) (fun Γ=>?_)
 unfold QfB at h
 obtain rfl:=Option.some.inj h
 exact gr 4 [] [rp 4 hP,rp 2 (oI ((geI i 0) = true)),nL e_str n.places,hP,hP,rp 2 (oI ((geI i 0) = true)),oR True ((geI i 0) = true)]
theorem Qhc {a} {rv:Qdt} (h:Qhb a = some rv):AFn Tryz.prog 165 [.agg (Qaw.enc a)] [] (gG [lI rv.from_,lI rv.to_,lI rv.profile]) []:=by
 refine QaO Tryz.func165 (by kernel_rfl) (by kernel_rfl) (fun Γ=>?_)
 unfold Qhb at h
 obtain rfl:=Option.some.inj h
 exact gr 4 [] []
def Qik (Γ:Gam) (rv:Qaw × Bool) (cf:Cf):Prop:=Go Tryz.prog Tryz.f161 [] Γ (.tup [.agg [lI rv.1.from_,lI rv.1.to_,lI rv.1.profile,lI rv.1.miles,lL 2 rv.1.travel Qah.enc,lL 2 rv.1.slow Qah.enc],.one (.bool rv.2)]) [] cf
def QgE (Γ:Gam) (rv:Qaw × Bool) (n:Qar) (profile:Int) (from_:Int) (to_:Int) (v:Int):Prop:=Qik Γ rv ⟨[.c 116,.l 116,.b 0,.c 15],⟨31,[vP 8 0 6,vP 10 1 3,vL 18 6 n.arcs Qaw.enc,vI 19 (lenI n.arcs),vI 20 v],[oX 6 99 [lI 0,lI 0,lI 0,lI 0,.nils,.nils],oX 3 216 [lI from_,lI to_,lI profile]]⟩⟩
def Qgb (Γ:Gam) (rv:Qaw × Bool) (n:Qar) (profile:Int) (from_:Int) (to_:Int):Prop:=Qik Γ rv ⟨[.c 15],⟨31,[vP 8 0 6],[oX 6 99 [lI 0,lI 0,lI 0,lI 0,.nils,.nils]]⟩⟩
theorem QiI (Γ:Gam) (rv:Qaw × Bool) {n profile from_ to_} {s:Int} {e:(Unit) ⊕ (Qaw × Bool)} (h:loopF (fun s=>QdZ n profile from_ to_ s) s = some e) (hD:sel e (fun e=>Qgb Γ rv n profile from_ to_) (fun e=>e = rv)):QgE Γ rv n profile from_ to_ s:=by
 refine QaL (C:=fun (s:Int)=>QgE Γ rv n profile from_ to_ s) (D:=fun (e:(Unit) ⊕ (Qaw × Bool))=>sel e (fun e=>Qgb Γ rv n profile from_ to_) (fun e=>e = rv)) ?_ h hD
 clear h hD s e
 intro v z_ h hI hE
 replace h:QdZ n profile from_ to_ v = _:=h
 unfold QdZ at h
 rcases Qaf h with ⟨h0,h⟩|⟨h0,h⟩
 ·obtain ⟨x0,h1,h⟩:=Qae h
  obtain ⟨r,h2,h⟩:=Qae h
  rcases Qaf h with ⟨h3,h⟩|⟨h3,h⟩
  ·obtain rfl:=(hE _ (oJ h):_ = rv)
   exact gr 14 [] [bT h0,cE Qaw.enc h1,hH (.draw 4 []),cC (Qhc h2),bT h3]
  ·exact gn 16 [8,10,18,19,20] [0,1] [bT h0,cE Qaw.enc h1,hH (.draw 4 []),cC (Qhc h2),bF h3] (hI _ (oJ h))
 ·exact gn 5 [8] [0] [bF h0] (hE _ (oJ h))
theorem QhL {n profile from_ to_} {rv:Qaw × Bool} (h:Qh1 n profile from_ to_ = some rv):AFn Tryz.prog 161 [.agg (Qar.enc n),.one (lI profile),.one (lI from_),.one (lI to_)] [] (.tup [.agg [lI rv.1.from_,lI rv.1.to_,lI rv.1.profile,lI rv.1.miles,lL 2 rv.1.travel Qah.enc,lL 2 rv.1.slow Qah.enc],.one (.bool rv.2)]) []:=by
 refine QaO Tryz.func161 (by kernel_rfl) (by kernel_rfl) (fun Γ=>?_)
 unfold Qh1 at h
 obtain ⟨e0,h4,h⟩:=Qae h
 refine gn 9 [8,10,18,19,20] [1,2] [nL Qaw.enc n.arcs] (QiI Γ rv h4 ?_)
 rcases e0 with e0|e0
 ·replace h:(some ((Qaw.mk 0 0 0 0 [] []),false):Option (Qaw × Bool)) = some _:=h
  obtain rfl:=Option.some.inj h
  exact gr 2 [] [hW 5,hH (.nilB 0 4 2),hH (.nilB 0 5 2)]
 ·obtain ⟨r1,rfl⟩:∃ x,x = e0:=⟨_,rfl⟩
  replace h:(some r1:Option (Qaw × Bool)) = some _:=h
  exact Option.some.inj h
theorem QcY {n least most} {rv:Bool} (h:QfR n least most = some rv):AFn Tryz.prog 168 [.one (lI n),.one (lI least),.one (lI most)] [] (one (.bool rv)) []:=by
 refine QaO Tryz.func168 (by kernel_rfl) (by kernel_rfl) (fun Γ=>?_)
 unfold QfR at h
 obtain rfl:=Option.some.inj h
 exact gr 4 [] [rp 4 hP,rp 2 (oI ((geI n least) = true)),oR True ((geI n least) = true)]
theorem QjT {i} {rv:ByteArray} (h:Qhl i = some rv):AFn Tryz.prog 181 [.one (lI i)] [] (one (.str rv)) []:=by
 refine QaO Tryz.func181 (by kernel_rfl) (by kernel_rfl) (fun Γ=>?_)
 unfold Qhl at h
 rcases Qaf h with ⟨h0,h⟩|⟨h0,h⟩
 ·obtain ⟨s0,h1,h⟩:=Qae h
  obtain rfl:=Option.some.inj h
  exact gr 8 [] [bT h0,oO (ss1 h1),oO (ss2 h1),oO (ss3 h1)]
 ·obtain ⟨s1,h2,h⟩:=Qae h
  obtain rfl:=Option.some.inj h
  exact gr 9 [] [bF h0,oO (ss1 h2),oO (ss2 h2),oO (ss3 h2)]
end Go.Proofs.YtoogjnlmicgfiaaGreatDoor
