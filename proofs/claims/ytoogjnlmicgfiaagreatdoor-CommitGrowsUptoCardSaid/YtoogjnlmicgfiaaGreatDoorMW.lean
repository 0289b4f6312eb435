/- Part MW of the proof: texts W2. -/
import Derived.Test.YtoogjnlmicgfiaaGreatDoorMV
import Derived.Test.YtoogjnlmicgfiaaGreatDoorProg
namespace Go.Proofs.YtoogjnlmicgfiaaGreatDoor
set_option linter.unusedVariables false
set_option linter.unusedSectionVars false
set_option linter.unusedSimpArgs false
set_option maxHeartbeats 4000000
set_option maxRecDepth 100000
def Qo0 (Γ:Gam) (rv:Bool) (cf:Cf):Prop:=Go Tryz.prog Tryz.f13 [] Γ (one (.bool rv)) [] cf
def Qmu (Γ:Gam) (rv:Bool) (p:QaN) (v:Int):Prop:=Qo0 Γ rv ⟨[.c 116,.l 116,.b 0,.c 15],⟨20,[vL 10 4 p.routes Qac.enc,vI 11 (lenI p.routes),vI 12 v],[]⟩⟩
def QlO (Γ:Gam) (rv:Bool) (p:QaN):Prop:=Qo0 Γ rv ⟨[.c 15],⟨20,[],[]⟩⟩
theorem Qqq (Γ:Gam) (rv:Bool) {p} {s:Int} {e:(Unit) ⊕ (Bool)} (h:loopF (fun s=>Qc3 p s) s = some e) (hD:sel e (fun e=>QlO Γ rv p) (fun e=>e = rv)):Qmu Γ rv p s:=by
 refine QaD (C:=fun (s:Int)=>Qmu Γ rv p s) (D:=fun (e:(Unit) ⊕ (Bool))=>sel e (fun e=>QlO Γ rv p) (fun e=>e = rv)) ?_ h hD
 clear h hD s e
 intro v z_ h hI hE
 replace h:Qc3 p v = _:=h
 unfold Qc3 at h
 rcases Qag h with ⟨h1,h⟩|⟨h1,h⟩
 ·obtain ⟨x0,h2,h⟩:=Qae h
  obtain ⟨r,h3,h⟩:=Qae h
  rcases Qag h with ⟨h4,h⟩|⟨h4,h⟩
  ·exact gn 16 [10,11,12] [] [bT h1,cE Qac.enc h2,cC (Qa4 h3),nF h4] (hI _ (oJ h))
  ·obtain rfl:=(hE _ (oJ h):_ = rv)
   exact gr 14 [] [bT h1,cE Qac.enc h2,cC (Qa4 h3),nT h4]
 ·exact gn 5 [] [] [bF h1] (hE _ (oJ h))
theorem QhV {p} {rv:Bool} (h:Qis p = some rv):AFn Tryz.prog 13 [.agg (QaN.enc p)] [] (one (.bool rv)) []:=by
 refine QaL Tryz.func13 (by kernel_rfl) (by kernel_rfl) (fun Γ=>?_)
 unfold Qis at h
 rcases Qag h with ⟨h0,h⟩|⟨h0,h⟩
 ·obtain rfl:=Option.some.inj h
  exact gr 8 [] [nL Qac.enc p.routes,bT h0]
 ·obtain ⟨e0,h5,h⟩:=Qae h
  refine gn 12 [10,11,12] [] [nL Qac.enc p.routes,bF h0,nL Qac.enc p.routes] (Qqq Γ rv h5 ?_)
  rcases e0 with e0|e0
  ·replace h:(some true:Option Bool) = some _:=h
   obtain rfl:=Option.some.inj h
   exact gr 2 [] []
  ·obtain ⟨r1,rfl⟩:∃ x,x = e0:=⟨_,rfl⟩
   replace h:(some r1:Option Bool) = some _:=h
   exact Option.some.inj h
def Qnu (Γ:Gam) (rv:List Bool) (cf:Cf):Prop:=Go Tryz.prog Tryz.f32 [] Γ (one (lL 1 rv QaI)) [] cf
def Qlg (Γ:Gam) (rv:List Bool) (s0:Qah) (l:List Bool) (i:Int):Prop:=Qnu Γ rv ⟨[.c 116,.l 116,.b 0,.c 15],⟨25,[vP 1 0 5,vO 3 1 1 l QaI,vI 4 i],[oX 5 60 (Qah.enc s0),oS 1 4 l QaI]⟩⟩
def Qkh (Γ:Gam) (rv:List Bool) (s0:Qah) (l1:List Bool):Prop:=Qnu Γ rv ⟨[.c 15],⟨25,[vO 3 0 1 l1 QaI],[oS 1 4 l1 QaI]⟩⟩
theorem Qpk (Γ:Gam) (rv:List Bool) {s0} {s:List Bool × Int} {e:List Bool} (h:loopF (fun s=>Qfl s0 s.1 s.2) s = some e) (hD:Qkh Γ rv s0 e):Qlg Γ rv s0 s.1 s.2:=by
 refine QaD (C:=fun (s:List Bool × Int)=>Qlg Γ rv s0 s.1 s.2) (D:=fun (e:List Bool)=>Qkh Γ rv s0 e) ?_ h hD
 clear h hD s e
 rintro ⟨l,i⟩ z_ h hI hE
 replace h:Qfl s0 l i = _:=h
 unfold Qfl at h
 rcases Qag h with ⟨h0,h⟩|⟨h0,h⟩
 ·obtain ⟨x0,h1,h⟩:=Qae h
  obtain ⟨h2,h⟩:=Qas h
  exact gn 11 [1,3,4] [0,3] [nL Qao.enc s0.times,bT h0,cE Qao.enc h1,oO (Eq.refl ([x0.rest_].map QaI).length),aO QaI h2] (hI _ (oJ h))
 ·exact gn 5 [3] [1] [nL Qao.enc s0.times,bF h0] (hE _ (oJ h))
theorem QmF {s0} {rv:List Bool} (h:Qg2 s0 = some rv):AFn Tryz.prog 32 [.agg (Qah.enc s0)] [] (one (lL 1 rv QaI)) []:=by
 refine QaL Tryz.func32 (by kernel_rfl) (by kernel_rfl) (fun Γ=>?_)
 unfold Qg2 at h
 obtain ⟨e0,h3,h⟩:=Qae h
 refine gn 9 [1,3,4] [0,1] [] (Qpk Γ rv h3 ?_)
 obtain ⟨l1,rfl⟩:∃ x,x = e0:=⟨_,rfl⟩
 replace h:(some l1:Option (List Bool)) = some _:=h
 obtain rfl:=Option.some.inj h
 exact gr 2 [] [hW 4,hH (.frz 0),rp 3 (eL l1 QaI)]
def QhA (Γ:Gam) (rv:List Qac × Int) (cf:Cf):Prop:=Go Tryz.prog Tryz.f15 [] Γ (.tup [.one (lL 4 rv.1 Qac.enc),.one (lI rv.2)]) [] cf
def Qga (Γ:Gam) (rv:List Qac × Int) (x0:Qad) (p:QaN) (now:Int) (l:List Qac) (i:Int):Prop:=QhA Γ rv ⟨[.c 244,.l 244,.b 0,.c 31],⟨88,[vI 2 now,vP 3 0 6,vP 4 1 2,vO 8 2 4 l Qac.enc,vI 9 i],[oX 6 30 (Qad.enc x0),oX 2 45 (QaN.enc p),oS 4 34 l Qac.enc]⟩⟩
def QfR (Γ:Gam) (rv:List Qac × Int) (x0:Qad) (p:QaN) (now:Int) (l3:List Qac):Prop:=QhA Γ rv ⟨[.c 31],⟨88,[vO 8 0 4 l3 Qac.enc],[oS 4 34 l3 Qac.enc]⟩⟩
theorem Qim (Γ:Gam) (rv:List Qac × Int) {x0 p now l i x1 r1 r2 k} {x:(List Qac × Int) ⊕ ((List Qac) ⊕ (List Qac × Int))} (h:QdT x0 p now l i x1 r1 r2 k = some x) (hI:∀ s:List Qac × Int,x = .inl s→Qga Γ rv x0 p now s.1 s.2) (hE:∀ e:(List Qac) ⊕ (List Qac × Int),x = .inr e→sel e (fun e=>QfR Γ rv x0 p now e) (fun e=>e = rv)):QhA Γ rv ⟨[.c 500991,.b 1,.c 979,.l 244,.b 0,.c 31],⟨88,[vI 2 now,vP 3 0 6,vP 4 1 2,vO 8 2 4 l Qac.enc,vI 9 i,vP 10 3 4,vI 14 r1.1,vL 16 1 r2 QaI,vI 17 k],[oX 6 30 (Qad.enc x0),oX 2 45 (QaN.enc p),oS 4 34 l Qac.enc,oX 4 34 (Qac.enc x1)]⟩⟩:=by
 unfold QdT at h
 obtain ⟨l1,h9,h⟩:=Qae h
 obtain ⟨h10,h⟩:=Qas h
 obtain ⟨l2,h11,h⟩:=Qae h
 obtain ⟨h12,h⟩:=Qas h
 obtain ⟨h13,h⟩:=Qas h
 exact gn 10 [2,3,4,8,9] [0,1,8] [hH (.draw 5 []),rp 2 (hH (.rows (l1.map QaI))),hH (.draw 6 []),rp 2 (hH (.rows (l2.map Qab.enc))),hW 5,hH (.frz 5),hH (.frz 6),hH (.rows ((l ++ [(Qac.mk x1.type_ x1.start l1 l2)]).map Qac.enc)),oO (sl1 h9),oO (sl2 h9),oO (sl3 QaI h9),oO (Int.le_refl k),oO (sl3 QaI h9),oO (sl6 QaI h9),oO (Eq.refl (l1.map QaI)),oO (okLe (l:=(l1:List Bool)) QaI h10),oO (okLe2 (l:=(l1:List Bool)) (b:=1) QaI (by decide) h10),oO (sl1 h11),oO (sl2 h11),oO (sl3 Qab.enc h11),oO (Int.le_refl r1.1),oO (sl3 Qab.enc h11),oO (sl6 Qab.enc h11),oO (Eq.refl (l2.map Qab.enc)),oO (okLe (l:=(l2:List Qab)) Qab.enc h12),oO (okLe2 (l:=(l2:List Qab)) (b:=16) Qab.enc (by decide) h12),rp 3 (eL l1 QaI),rp 3 (eL l2 Qab.enc),oO (Eq.refl ([(Qac.mk x1.type_ x1.start l1 l2)].map Qac.enc).length),eL l Qac.enc,oO (appM Qac.enc l [(Qac.mk x1.type_ x1.start l1 l2)]),oO (okLe (l:=((l ++ [(Qac.mk x1.type_ x1.start l1 l2)]):List Qac)) Qac.enc h13),oO (okLe2 (l:=((l ++ [(Qac.mk x1.type_ x1.start l1 l2)]):List Qac)) (b:=64) Qac.enc (by decide) h13)] (hI _ (oJ h))
theorem Qny (Γ:Gam) (rv:List Qac × Int) {x0 p now} {s:List Qac × Int} {e:(List Qac) ⊕ (List Qac × Int)} (h:loopF (fun s=>QbI x0 p now s.1 s.2) s = some e) (hD:sel e (fun e=>QfR Γ rv x0 p now e) (fun e=>e = rv)):Qga Γ rv x0 p now s.1 s.2:=by
 refine QaD (C:=fun (s:List Qac × Int)=>Qga Γ rv x0 p now s.1 s.2) (D:=fun (e:(List Qac) ⊕ (List Qac × Int))=>sel e (fun e=>QfR Γ rv x0 p now e) (fun e=>e = rv)) ?_ h hD
 clear h hD s e
 rintro ⟨l,i⟩ z_ h hI hE
 replace h:QbI x0 p now l i = _:=h
 unfold QbI at h
 rcases Qag h with ⟨h1,h⟩|⟨h1,h⟩
 ·obtain ⟨x1,h2,h⟩:=Qae h
  obtain ⟨r,h3,h⟩:=Qae h
  rcases Qag h with ⟨h4,h⟩|⟨h4,h⟩
  ·obtain rfl:=(hE _ (oJ h):_ = rv)
   exact gr 17 [] [nL Qac.enc p.routes,bT h1,cE Qac.enc h2,cC (Qdb h3),bT h4,hW 5,hH (.nilS 6 0 4)]
  ·obtain ⟨r1,h5,h⟩:=Qae h
   rcases Qag h with ⟨h6,h⟩|⟨h6,h⟩
   ·exact gn 25 [2,3,4,8,9] [0,1,2] [nL Qac.enc p.routes,bT h1,cE Qac.enc h2,cC (Qdb h3),bF h4,cC (QgK h5),bT h6] (hI _ (oJ h))
   ·obtain ⟨r2,h7,h⟩:=Qae h
    rcases Qag h with ⟨h8,h⟩|⟨h8,h⟩
    ·exact gn 32 [2,3,4,8,9,10,14,16,17] [0,1,2,3] [nL Qac.enc p.routes,bT h1,cE Qac.enc h2,cC (Qdb h3),bF h4,cC (QgK h5),bF h6,cC (QmF h7),bT h8] (Qim Γ rv h hI hE)
    ·exact gn 32 [2,3,4,8,9,10,14,16,17] [0,1,2,3] [nL Qac.enc p.routes,bT h1,cE Qac.enc h2,cC (Qdb h3),bF h4,cC (QgK h5),bF h6,cC (QmF h7),bF h8] (Qim Γ rv h hI hE)
 ·exact gn 5 [8] [2] [nL Qac.enc p.routes,bF h1] (hE _ (oJ h))
theorem Qg5 {x0 p now} {rv:List Qac × Int} (h:Qfn x0 p now = some rv):AFn Tryz.prog 15 [.agg (Qad.enc x0),.agg (QaN.enc p),.one (lI now)] [] (.tup [.one (lL 4 rv.1 Qac.enc),.one (lI rv.2)]) []:=by
 refine QaL Tryz.func15 (by kernel_rfl) (by kernel_rfl) (fun Γ=>?_)
 unfold Qfn at h
 rcases Qag h with ⟨h0,h⟩|⟨h0,h⟩
 ·obtain rfl:=Option.some.inj h
  exact gr 8 [] [hP,hP,hP,oI ((ltI now 0) = false),oR True ((ltI now 0) = false),bT h0,hW 4,hH (.nilS 6 0 4)]
 ·obtain ⟨e0,h14,h⟩:=Qae h
  refine gn 14 [2,3,4,8,9] [0,1,2] [hP,hP,hP,oI ((ltI now 0) = false),oR True ((ltI now 0) = false),bF h0,hW 10,hH (.adopt 8 4 34)] (Qny Γ rv h14 ?_)
  rcases e0 with e0|e0
  ·obtain ⟨l3,rfl⟩:∃ x,x = e0:=⟨_,rfl⟩
   replace h:(some (l3,0):Option (List Qac × Int)) = some _:=h
   obtain rfl:=Option.some.inj h
   exact gr 2 [] [hW 5,hH (.frz 0),rp 3 (eL l3 Qac.enc)]
  ·obtain ⟨r3,rfl⟩:∃ x,x = e0:=⟨_,rfl⟩
   replace h:(some r3:Option (List Qac × Int)) = some _:=h
   exact Option.some.inj h
def QcZ (Γ:Gam) (rv:Bool) (cf:Cf):Prop:=Go Tryz.prog Tryz.f16 [] Γ (one (.bool rv)) [] cf
def QhM (Γ:Gam) (rv:Bool) (a:List Qac) (b:List Qac) (i:Int) (k:Int):Prop:=QcZ Γ rv ⟨[.c 29844,.l 29844,.b 2,.c 3731,.b 1,.c 467,.l 116,.b 0,.c 15],⟨127,[vL 0 4 a Qac.enc,vL 1 4 b Qac.enc,vI 5 i,vI 6 k],[]⟩⟩
def Qhr (Γ:Gam) (rv:Bool) (a:List Qac) (b:List Qac) (i:Int):Prop:=QcZ Γ rv ⟨[.c 3731,.b 1,.c 467,.l 116,.b 0,.c 15],⟨127,[vL 0 4 a Qac.enc,vL 1 4 b Qac.enc,vI 5 i],[]⟩⟩
def QhN (Γ:Gam) (rv:Bool) (a:List Qac) (b:List Qac) (i:Int) (k1:Int):Prop:=QcZ Γ rv ⟨[.c 29852,.l 29852,.b 4,.b 1,.c 467,.l 116,.b 0,.c 15],⟨127,[vL 0 4 a Qac.enc,vL 1 4 b Qac.enc,vI 5 i,vI 7 k1],[]⟩⟩
def Qhs (Γ:Gam) (rv:Bool) (a:List Qac) (b:List Qac) (i:Int):Prop:=QcZ Γ rv ⟨[.b 1,.c 467,.l 116,.b 0,.c 15],⟨127,[vL 0 4 a Qac.enc,vL 1 4 b Qac.enc,vI 5 i],[]⟩⟩
def QhL (Γ:Gam) (rv:Bool) (a:List Qac) (b:List Qac) (i:Int):Prop:=QcZ Γ rv ⟨[.c 116,.l 116,.b 0,.c 15],⟨127,[vL 0 4 a Qac.enc,vL 1 4 b Qac.enc,vI 5 i],[]⟩⟩
def Qhq (Γ:Gam) (rv:Bool) (a:List Qac) (b:List Qac):Prop:=QcZ Γ rv ⟨[.c 15],⟨127,[],[]⟩⟩
theorem Qmp (Γ:Gam) (rv:Bool) {a b i} {s:Int} {e:(Unit) ⊕ (Bool)} (h:loopF (fun s=>Qbp a b i s) s = some e) (hD:sel e (fun e=>Qhr Γ rv a b i) (fun e=>e = rv)):QhM Γ rv a b i s:=by
 refine QaD (C:=fun (s:Int)=>QhM Γ rv a b i s) (D:=fun (e:(Unit) ⊕ (Bool))=>sel e (fun e=>Qhr Γ rv a b i) (fun e=>e = rv)) ?_ h hD
 clear h hD s e
 intro k z_ h hI hE
 replace h:Qbp a b i k = _:=h
 unfold Qbp at h
 obtain ⟨x2,h8,h⟩:=Qae h
 rcases Qag h with ⟨h9,h⟩|⟨h9,h⟩
 ·obtain ⟨x3,h10,h⟩:=Qae h
  obtain ⟨x4,h11,h⟩:=Qae h
  obtain ⟨x5,h12,h⟩:=Qae h
  rcases Qag h with ⟨h13,h⟩|⟨h13,h⟩
  ·exact gn 14 [0,1,5,6] [] [cE Qac.enc h8,nL Qab.enc x2.visits,bT h9,hH (.draw 17 []),cE Qac.enc h8,cE Qab.enc h10,cE Qac.enc h11,cE Qab.enc h12,nF h13] (hI _ (oJ h))
  ·obtain rfl:=(hE _ (oJ h):_ = rv)
   exact gr 12 [] [cE Qac.enc h8,nL Qab.enc x2.visits,bT h9,hH (.draw 17 []),cE Qac.enc h8,cE Qab.enc h10,cE Qac.enc h11,cE Qab.enc h12,nT h13]
 ·exact gn 5 [0,1,5] [] [cE Qac.enc h8,nL Qab.enc x2.visits,bF h9] (hE _ (oJ h))
theorem Qmq (Γ:Gam) (rv:Bool) {a b i} {s:Int} {e:(Unit) ⊕ (Bool)} (h:loopF (fun s=>Qbg a b i s) s = some e) (hD:sel e (fun e=>Qhs Γ rv a b i) (fun e=>e = rv)):QhN Γ rv a b i s:=by
 refine QaD (C:=fun (s:Int)=>QhN Γ rv a b i s) (D:=fun (e:(Unit) ⊕ (Bool))=>sel e (fun e=>Qhs Γ rv a b i) (fun e=>e = rv)) ?_ h hD
 clear h hD s e
 intro k1 z_ h hI hE
 replace h:Qbg a b i k1 = _:=h
 unfold Qbg at h
 obtain ⟨x6,h15,h⟩:=Qae h
 rcases Qag h with ⟨h16,h⟩|⟨h16,h⟩
 ·obtain ⟨x7,h17,h⟩:=Qae h
  obtain ⟨x8,h18,h⟩:=Qae h
  obtain ⟨x9,h19,h⟩:=Qae h
  rcases Qag h with ⟨h20,h⟩|⟨h20,h⟩
  ·exact gn 14 [0,1,5,7] [] [cE Qac.enc h15,nL QaI x6.rests,bT h16,hH (.draw 17 []),cE Qac.enc h15,cE QaI h17,cE Qac.enc h18,cE QaI h19,nF h20] (hI _ (oJ h))
  ·obtain rfl:=(hE _ (oJ h):_ = rv)
   exact gr 12 [] [cE Qac.enc h15,nL QaI x6.rests,bT h16,hH (.draw 17 []),cE Qac.enc h15,cE QaI h17,cE Qac.enc h18,cE QaI h19,nT h20]
 ·exact gn 5 [0,1,5] [] [cE Qac.enc h15,nL QaI x6.rests,bF h16] (hE _ (oJ h))
theorem Qmo (Γ:Gam) (rv:Bool) {a b} {s:Int} {e:(Unit) ⊕ (Bool)} (h:loopF (fun s=>Qbo a b s) s = some e) (hD:sel e (fun e=>Qhq Γ rv a b) (fun e=>e = rv)):QhL Γ rv a b s:=by
 refine QaD (C:=fun (s:Int)=>QhL Γ rv a b s) (D:=fun (e:(Unit) ⊕ (Bool))=>sel e (fun e=>Qhq Γ rv a b) (fun e=>e = rv)) ?_ h hD
 clear h hD s e
 intro i z_ h hI hE
 replace h:Qbo a b i = _:=h
 unfold Qbo at h
 rcases Qag h with ⟨h1,h⟩|⟨h1,h⟩
 ·obtain ⟨x0,h2,h⟩:=Qae h
  obtain ⟨x1,h3,h⟩:=Qae h
  rcases Qag h with ⟨h4,h⟩|⟨h4,h⟩
  ·obtain rfl:=(hE _ (oJ h):_ = rv)
   exact gr 13 [] [nL Qac.enc a,bT h1,hH (.draw 54 []),cE Qac.enc h2,cE Qac.enc h3,rp 12 (bT h4),rp 29 tT]
  ·rcases Qag h with ⟨h5,h⟩|⟨h5,h⟩
   ·obtain rfl:=(hE _ (oJ h):_ = rv)
    exact gr 13 [] [nL Qac.enc a,bT h1,hH (.draw 54 []),cE Qac.enc h2,cE Qac.enc h3,rp 3 (bF h4),cE Qac.enc h2,rp 5 (bF h4),cE Qac.enc h3,rp 4 (bF h4),rp 14 (bT h5),rp 15 tT]
   ·rcases Qag h with ⟨h6,h⟩|⟨h6,h⟩
    ·obtain rfl:=(hE _ (oJ h):_ = rv)
     exact gr 13 [] [nL Qac.enc a,bT h1,hH (.draw 54 []),cE Qac.enc h2,cE Qac.enc h3,rp 3 (bF h4),cE Qac.enc h2,rp 5 (bF h4),cE Qac.enc h3,rp 4 (bF h4),rp 3 (bF h5),cE Qac.enc h2,rp 3 (bF h5),nL Qab.enc x0.visits,rp 3 (bF h5),cE Qac.enc h3,rp 3 (bF h5),nL Qab.enc x1.visits,bF h5,bF h5,rp 14 (bT h6),tT]
    ·rcases Qag h with ⟨h7,h⟩|⟨h7,h⟩
     ·obtain rfl:=(hE _ (oJ h):_ = rv)
      exact gr 13 [] [nL Qac.enc a,bT h1,hH (.draw 54 []),cE Qac.enc h2,cE Qac.enc h3,rp 3 (bF h4),cE Qac.enc h2,rp 5 (bF h4),cE Qac.enc h3,rp 4 (bF h4),rp 3 (bF h5),cE Qac.enc h2,rp 3 (bF h5),nL Qab.enc x0.visits,rp 3 (bF h5),cE Qac.enc h3,rp 3 (bF h5),nL Qab.enc x1.visits,bF h5,bF h5,rp 3 (bF h6),cE Qac.enc h2,rp 3 (bF h6),nL QaI x0.rests,rp 3 (bF h6),cE Qac.enc h3,rp 3 (bF h6),nL QaI x1.rests,bF h6,bF h6,bT h7]
     ·obtain ⟨e0,h14,h⟩:=Qae h
      refine gn 17 [0,1,5,6] [] [nL Qac.enc a,bT h1,hH (.draw 54 []),cE Qac.enc h2,cE Qac.enc h3,rp 3 (bF h4),cE Qac.enc h2,rp 5 (bF h4),cE Qac.enc h3,rp 4 (bF h4),rp 3 (bF h5),cE Qac.enc h2,rp 3 (bF h5),nL Qab.enc x0.visits,rp 3 (bF h5),cE Qac.enc h3,rp 3 (bF h5),nL Qab.enc x1.visits,bF h5,bF h5,rp 3 (bF h6),cE Qac.enc h2,rp 3 (bF h6),nL QaI x0.rests,rp 3 (bF h6),cE Qac.enc h3,rp 3 (bF h6),nL QaI x1.rests,bF h6,bF h6,bF h7] (Qmp Γ rv h14 ?_)
      rcases e0 with e0|e0
      ·replace h:(bnd (loopF (fun s=>Qbg a b i s) 0) (fun e=>sel e (fun (_:Unit)=>some (.inl (addK .i64 i 1))) (fun r=>some (.inr (.inr r)))):Option ((Int) ⊕ ((Unit) ⊕ (Bool)))) = some _:=h
       obtain ⟨e1,h21,h⟩:=Qae h
       refine gn 4 [0,1,5,7] [] [] (Qmq Γ rv h21 ?_)
       rcases e1 with e1|e1
       ·replace h:(some (.inl (addK .i64 i 1)):Option ((Int) ⊕ ((Unit) ⊕ (Bool)))) = some _:=h
        exact gn 3 [0,1,5] [] [] (hI _ (oJ h))
       ·obtain ⟨r,rfl⟩:∃ x,x = e1:=⟨_,rfl⟩
        replace h:(some (.inr (.inr r)):Option ((Int) ⊕ ((Unit) ⊕ (Bool)))) = some _:=h
        exact (hE _ (oJ h):_ = rv)
      ·obtain ⟨r1,rfl⟩:∃ x,x = e0:=⟨_,rfl⟩
       replace h:(some (.inr (.inr r1)):Option ((Int) ⊕ ((Unit) ⊕ (Bool)))) = some _:=h
       exact (hE _ (oJ h):_ = rv)
 ·exact gn 5 [] [] [nL Qac.enc a,bF h1] (hE _ (oJ h))
theorem Qeo {a b} {rv:Bool} (h:Qdp a b = some rv):AFn Tryz.prog 16 [.one (lL 4 a Qac.enc),.one (lL 4 b Qac.enc)] [] (one (.bool rv)) []:=by
 refine QaL Tryz.func16 (by kernel_rfl) (by kernel_rfl) (fun Γ=>?_)
 unfold Qdp at h
 rcases Qag h with ⟨h0,h⟩|⟨h0,h⟩
 ·obtain rfl:=Option.some.inj h
  exact gr 8 [] [nL Qac.enc a,nL Qac.enc b,bT h0]
 ·obtain ⟨e2,h22,h⟩:=Qae h
  refine gn 12 [0,1,5] [] [nL Qac.enc a,nL Qac.enc b,bF h0] (Qmo Γ rv h22 ?_)
  rcases e2 with e2|e2
  ·replace h:(some true:Option Bool) = some _:=h
   obtain rfl:=Option.some.inj h
   exact gr 2 [] []
  ·obtain ⟨r2,rfl⟩:∃ x,x = e2:=⟨_,rfl⟩
   replace h:(some r2:Option Bool) = some _:=h
   exact Option.some.inj h
theorem QlN {x0 p now} {rv:Bool} (h:QdZ x0 p now = some rv):AFn Tryz.prog 4 [.agg (Qad.enc x0),.agg (QaN.enc p),.one (lI now)] [] (one (.bool rv)) []:=by
 refine QaL Tryz.func4 (by kernel_rfl) (by kernel_rfl) (fun Γ=>?_)
 unfold QdZ at h
 obtain ⟨r,h0,h⟩:=Qae h
 rcases Qag h with ⟨h1,h⟩|⟨h1,h⟩
 ·obtain ⟨r1,h2,h⟩:=Qae h
  rcases Qag h with ⟨h3,h⟩|⟨h3,h⟩
  ·obtain ⟨r2,h4,h⟩:=Qae h
   obtain ⟨r3,h5,h⟩:=Qae h
   rcases Qag h with ⟨h6,h⟩|⟨h6,h⟩
   ·obtain ⟨r4,h7,h⟩:=Qae h
    rcases Qag h with ⟨h8,h⟩|⟨h8,h⟩
    ·obtain ⟨r5,h9,h⟩:=Qae h
     obtain rfl:=Option.some.inj h
     exact gr 13 [] [cC (QaO h0),nF h1,nF h1,cC (QhV h2),nF h1,nF h1,nF h3,cC (Qaw h4),cC (Qg5 h5),rp 3 (bT h6),cC (Qeo h7),bT h6,bT h8,cC (Qa9 h9),bT h8]
    ·obtain rfl:=Option.some.inj h
     exact gr 13 [] [cC (QaO h0),nF h1,nF h1,cC (QhV h2),nF h1,nF h1,nF h3,cC (Qaw h4),cC (Qg5 h5),rp 3 (bT h6),cC (Qeo h7),bT h6,bF h8,bF h8]
   ·obtain rfl:=Option.some.inj h
    exact gr 13 [] [cC (QaO h0),nF h1,nF h1,cC (QhV h2),nF h1,nF h1,nF h3,cC (Qaw h4),cC (Qg5 h5),rp 4 (bF h6),fF,fF]
  ·obtain ⟨r6,h10,h⟩:=Qae h
   obtain rfl:=Option.some.inj h
   exact gr 8 [] [cC (QaO h0),nF h1,nF h1,cC (QhV h2),nF h1,nF h1,nT h3,cC (Qa9 h10)]
 ·obtain ⟨r7,h11,h⟩:=Qae h
  obtain rfl:=Option.some.inj h
  exact gr 8 [] [cC (QaO h0),rp 4 (nT h1),tT,cC (Qa9 h11)]
def QgJ (Γ:Gam) (rv:Bool) (cf:Cf):Prop:=Go Tryz.prog Tryz.f22 [] Γ (one (.bool rv)) [] cf
def Qkk (Γ:Gam) (rv:Bool) (r:Qac) (begin:Qac) (i:Int):Prop:=QgJ Γ rv ⟨[.c 116,.l 116,.b 0,.c 15],⟨98,[vP 2 0 4,vP 3 1 4,vI 5 i],[oX 4 34 (Qac.enc r),oX 4 34 (Qac.enc begin)]⟩⟩
def Qja (Γ:Gam) (rv:Bool) (r:Qac) (begin:Qac):Prop:=QgJ Γ rv ⟨[.c 15],⟨98,[vP 2 0 4,vP 3 1 4],[oX 4 34 (Qac.enc r),oX 4 34 (Qac.enc begin)]⟩⟩
def Qkl (Γ:Gam) (rv:Bool) (r:Qac) (begin:Qac) (i1:Int):Prop:=QgJ Γ rv ⟨[.c 244,.l 244,.b 2,.c 31],⟨98,[vP 2 0 4,vP 3 1 4,vI 6 i1],[oX 4 34 (Qac.enc r),oX 4 34 (Qac.enc begin)]⟩⟩
def Qjb (Γ:Gam) (rv:Bool) (r:Qac) (begin:Qac):Prop:=QgJ Γ rv ⟨[.c 31],⟨98,[vP 2 0 4,vP 3 1 4],[oX 4 34 (Qac.enc r),oX 4 34 (Qac.enc begin)]⟩⟩
theorem QoE (Γ:Gam) (rv:Bool) {r begin} {s:Int} {e:(Unit) ⊕ (Bool)} (h:loopF (fun s=>Qcc r begin s) s = some e) (hD:sel e (fun e=>Qja Γ rv r begin) (fun e=>e = rv)):Qkk Γ rv r begin s:=by
 refine QaD (C:=fun (s:Int)=>Qkk Γ rv r begin s) (D:=fun (e:(Unit) ⊕ (Bool))=>sel e (fun e=>Qja Γ rv r begin) (fun e=>e = rv)) ?_ h hD
 clear h hD s e
 intro i z_ h hI hE
 replace h:Qcc r begin i = _:=h
 unfold Qcc at h
 rcases Qag h with ⟨h1,h⟩|⟨h1,h⟩
 ·obtain ⟨x0,h2,h⟩:=Qae h
  obtain ⟨x1,h3,h⟩:=Qae h
  rcases Qag h with ⟨h4,h⟩|⟨h4,h⟩
  ·exact gn 14 [2,3,5] [0,1] [nL Qab.enc begin.visits,bT h1,hH (.draw 11 []),cE Qab.enc h2,cE Qab.enc h3,nF h4] (hI _ (oJ h))
  ·obtain rfl:=(hE _ (oJ h):_ = rv)
   exact gr 12 [] [nL Qab.enc begin.visits,bT h1,hH (.draw 11 []),cE Qab.enc h2,cE Qab.enc h3,nT h4]
 ·exact gn 5 [2,3] [0,1] [nL Qab.enc begin.visits,bF h1] (hE _ (oJ h))
theorem QoF (Γ:Gam) (rv:Bool) {r begin} {s:Int} {e:(Unit) ⊕ (Bool)} (h:loopF (fun s=>QbL r begin s) s = some e) (hD:sel e (fun e=>Qjb Γ rv r begin) (fun e=>e = rv)):Qkl Γ rv r begin s:=by
 refine QaD (C:=fun (s:Int)=>Qkl Γ rv r begin s) (D:=fun (e:(Unit) ⊕ (Bool))=>sel e (fun e=>Qjb Γ rv r begin) (fun e=>e = rv)) ?_ h hD
 clear h hD s e
 intro i1 z_ h hI hE
 replace h:QbL r begin i1 = _:=h
 unfold QbL at h
 rcases Qag h with ⟨h6,h⟩|⟨h6,h⟩
 ·obtain ⟨x2,h7,h⟩:=Qae h
  obtain ⟨x3,h8,h⟩:=Qae h
  rcases Qag h with ⟨h9,h⟩|⟨h9,h⟩
  ·exact gn 14 [2,3,6] [0,1] [nL QaI begin.rests,bT h6,hH (.draw 11 []),cE QaI h7,cE QaI h8,nF h9] (hI _ (oJ h))
  ·obtain rfl:=(hE _ (oJ h):_ = rv)
   exact gr 12 [] [nL QaI begin.rests,bT h6,hH (.draw 11 []),cE QaI h7,cE QaI h8,nT h9]
 ·exact gn 5 [2,3] [0,1] [nL QaI begin.rests,bF h6] (hE _ (oJ h))
theorem Ql2 {r begin} {rv:Bool} (h:Qgm r begin = some rv):AFn Tryz.prog 22 [.agg (Qac.enc r),.agg (Qac.enc begin)] [] (one (.bool rv)) []:=by
 refine QaL Tryz.func22 (by kernel_rfl) (by kernel_rfl) (fun Γ=>?_)
 unfold Qgm at h
 rcases Qag h with ⟨h0,h⟩|⟨h0,h⟩
 ·obtain rfl:=Option.some.inj h
  exact gr 8 [] [rp 9 hP,rp 4 (oI ((neI r.type_ begin.type_) = false)),oR True ((neI r.type_ begin.type_) = false),rp 2 (oI (((neI r.type_ begin.type_) || (neI r.start begin.start)) = false)),nL Qab.enc r.visits,hP,hP,hP,rp 2 (oI (((neI r.type_ begin.type_) || (neI r.start begin.start)) = false)),nL Qab.enc begin.visits,rp 5 hP,rp 2 (oI (((neI r.type_ begin.type_) || (neI r.start begin.start)) = false)),oR True (((neI r.type_ begin.type_) || (neI r.start begin.start)) = false),rp 2 (oI ((((neI r.type_ begin.type_) || (neI r.start begin.start)) || (ltI (lenI r.visits) (lenI begin.visits))) = false)),nL QaI r.rests,hP,hP,hP,rp 2 (oI ((((neI r.type_ begin.type_) || (neI r.start begin.start)) || (ltI (lenI r.visits) (lenI begin.visits))) = false)),nL QaI begin.rests,hP,hP,rp 2 (oI ((((neI r.type_ begin.type_) || (neI r.start begin.start)) || (ltI (lenI r.visits) (lenI begin.visits))) = false)),oR True ((((neI r.type_ begin.type_) || (neI r.start begin.start)) || (ltI (lenI r.visits) (lenI begin.visits))) = false),bT h0]
 ·obtain ⟨e0,h5,h⟩:=Qae h
  refine gn 12 [2,3,5] [0,1] [rp 9 hP,rp 4 (oI ((neI r.type_ begin.type_) = false)),oR True ((neI r.type_ begin.type_) = false),rp 2 (oI (((neI r.type_ begin.type_) || (neI r.start begin.start)) = false)),nL Qab.enc r.visits,hP,hP,hP,rp 2 (oI (((neI r.type_ begin.type_) || (neI r.start begin.start)) = false)),nL Qab.enc begin.visits,rp 5 hP,rp 2 (oI (((neI r.type_ begin.type_) || (neI r.start begin.start)) = false)),oR True (((neI r.type_ begin.type_) || (neI r.start begin.start)) = false),rp 2 (oI ((((neI r.type_ begin.type_) || (neI r.start begin.start)) || (ltI (lenI r.visits) (lenI begin.visits))) = false)),nL QaI r.rests,hP,hP,hP,rp 2 (oI ((((neI r.type_ begin.type_) || (neI r.start begin.start)) || (ltI (lenI r.visits) (lenI begin.visits))) = false)),nL QaI begin.rests,hP,hP,rp 2 (oI ((((neI r.type_ begin.type_) || (neI r.start begin.start)) || (ltI (lenI r.visits) (lenI begin.visits))) = false)),oR True ((((neI r.type_ begin.type_) || (neI r.start begin.start)) || (ltI (lenI r.visits) (lenI begin.visits))) = false),bF h0] (QoE Γ rv h5 ?_)
  rcases e0 with e0|e0
  ·replace h:(bnd (loopF (fun s=>QbL r begin s) 0) (fun e=>sel e (fun (_:Unit)=>some ((leI (lenI begin.rests) (lenI begin.visits)) || ((eqI (lenI r.visits) (lenI begin.visits)) && (eqI (lenI r.rests) (lenI begin.rests))))) (fun r1=>some r1)):Option Bool) = some _:=h
   obtain ⟨e1,h10,h⟩:=Qae h
   refine gn 5 [2,3,6] [0,1] [] (QoF Γ rv h10 ?_)
   rcases e1 with e1|e1
   ·replace h:(some ((leI (lenI begin.rests) (lenI begin.visits)) || ((eqI (lenI r.visits) (lenI begin.visits)) && (eqI (lenI r.rests) (lenI begin.rests)))):Option Bool) = some _:=h
    obtain rfl:=Option.some.inj h
    exact gr 2 [] [nL QaI begin.rests,nL Qab.enc begin.visits,hP,hP,hP,rp 2 (oI ((leI (lenI begin.rests) (lenI begin.visits)) = false)),nL Qab.enc r.visits,hP,hP,hP,rp 2 (oI ((leI (lenI begin.rests) (lenI begin.visits)) = false)),nL Qab.enc begin.visits,rp 5 hP,rp 3 (oI ((leI (lenI begin.rests) (lenI begin.visits)) = false)),rp 2 (oI (((leI (lenI begin.rests) (lenI begin.visits)) = false)∧(eqI (lenI r.visits) (lenI begin.visits)) = true)),nL QaI r.rests,hP,hP,hP,rp 2 (oI (((leI (lenI begin.rests) (lenI begin.visits)) = false)∧(eqI (lenI r.visits) (lenI begin.visits)) = true)),nL QaI begin.rests,rp 4 hP,rp 2 (oI (((leI (lenI begin.rests) (lenI begin.visits)) = false)∧(eqI (lenI r.visits) (lenI begin.visits)) = true)),oI ((leI (lenI begin.rests) (lenI begin.visits)) = false),oI (((leI (lenI begin.rests) (lenI begin.visits)) = false)∧(eqI (lenI r.visits) (lenI begin.visits)) = true),oR True ((leI (lenI begin.rests) (lenI begin.visits)) = false)]
   ·obtain ⟨r1,rfl⟩:∃ x,x = e1:=⟨_,rfl⟩
    replace h:(some r1:Option Bool) = some _:=h
    exact Option.some.inj h
  ·obtain ⟨r2,rfl⟩:∃ x,x = e0:=⟨_,rfl⟩
   replace h:(some r2:Option Bool) = some _:=h
   exact Option.some.inj h
theorem Qnd {x0 r now more} {rv:Bool} (h:Qe9 x0 r now more = some rv):AFn Tryz.prog 6 [.agg (Qad.enc x0),.agg (Qac.enc r),.one (lI now),.one (lI more)] [] (one (.bool rv)) []:=by
 refine QaL Tryz.func6 (by kernel_rfl) (by kernel_rfl) (fun Γ=>?_)
 unfold Qe9 at h
 obtain ⟨r1,h0,h⟩:=Qae h
 rcases Qag h with ⟨h1,h⟩|⟨h1,h⟩
 ·obtain ⟨r2,h2,h⟩:=Qae h
  rcases Qag h with ⟨h3,h⟩|⟨h3,h⟩
  ·obtain ⟨r3,h4,h⟩:=Qae h
   obtain rfl:=Option.some.inj h
   exact gr 8 [] [cC (QaO h0),nF h1,nF h1,cC (Qa4 h2),nF h1,nF h1,rp 14 hP,oI ((!r2) = false),oR True ((!r2) = false),oI (((!r2) || (ltI now 0)) = false),oR True (((!r2) || (ltI now 0)) = false),oI ((((!r2) || (ltI now 0)) || (gtI now 4096)) = false),oR True ((((!r2) || (ltI now 0)) || (gtI now 4096)) = false),rp 3 (oI (((((!r2) || (ltI now 0)) || (gtI now 4096)) || (ltI more 0)) = false)),oR True (((((!r2) || (ltI now 0)) || (gtI now 4096)) || (ltI more 0)) = false),bT h3,cC (Qa9 h4)]
  ·obtain ⟨r4,h5,h⟩:=Qae h
   obtain ⟨r5,h6,h⟩:=Qae h
   obtain ⟨r6,h7,h⟩:=Qae h
   obtain ⟨r7,h8,h⟩:=Qae h
   rcases Qag h with ⟨h9,h⟩|⟨h9,h⟩
   ·rcases Qag h with ⟨h10,h⟩|⟨h10,h⟩
    ·obtain ⟨r8,h11,h⟩:=Qae h
     obtain rfl:=Option.some.inj h
     exact gr 23 [] [cC (QaO h0),nF h1,nF h1,cC (Qa4 h2),nF h1,nF h1,rp 14 hP,oI ((!r2) = false),oR True ((!r2) = false),oI (((!r2) || (ltI now 0)) = false),oR True (((!r2) || (ltI now 0)) = false),oI ((((!r2) || (ltI now 0)) || (gtI now 4096)) = false),oR True ((((!r2) || (ltI now 0)) || (gtI now 4096)) = false),rp 3 (oI (((((!r2) || (ltI now 0)) || (gtI now 4096)) || (ltI more 0)) = false)),oR True (((((!r2) || (ltI now 0)) || (gtI now 4096)) || (ltI more 0)) = false),bF h3,cC (QaB h5),cC (QaB h6),hW 10,hH (.frz 2),hH (.nilS 66 1 1),rp 4 (oO (Eq.refl ([r].map Qac.enc).length)),cC (Qaw h7),hW 12,hH (.nilS 73 1 1),cC (Qaw h8),bT h9,rp 16 hP,rp 2 (oI ((eqI r5.2 r4.2) = true)),oR True ((eqI r5.2 r4.2) = true),rp 2 (oI (((eqI r5.2 r4.2) && (eqI r6.2 r4.2)) = true)),oR True (((eqI r5.2 r4.2) && (eqI r6.2 r4.2)) = true),oI ((((eqI r5.2 r4.2) && (eqI r6.2 r4.2)) && (eqI r7.2 r4.2)) = true),oR True ((((eqI r5.2 r4.2) && (eqI r6.2 r4.2)) && (eqI r7.2 r4.2)) = true),oI (((((eqI r5.2 r4.2) && (eqI r6.2 r4.2)) && (eqI r7.2 r4.2)) && (eqI r4.1 0)) = true),oR True (((((eqI r5.2 r4.2) && (eqI r6.2 r4.2)) && (eqI r7.2 r4.2)) && (eqI r4.1 0)) = true),oI ((((((eqI r5.2 r4.2) && (eqI r6.2 r4.2)) && (eqI r7.2 r4.2)) && (eqI r4.1 0)) && (eqI r5.1 0)) = true),nL Qac.enc r6.1,hP,hP,oI ((((((eqI r5.2 r4.2) && (eqI r6.2 r4.2)) && (eqI r7.2 r4.2)) && (eqI r4.1 0)) && (eqI r5.1 0)) = true),nL Qac.enc r7.1,hP,hP,hP,rp 3 (oI ((((((eqI r5.2 r4.2) && (eqI r6.2 r4.2)) && (eqI r7.2 r4.2)) && (eqI r4.1 0)) && (eqI r5.1 0)) = true)),oR True ((((((eqI r5.2 r4.2) && (eqI r6.2 r4.2)) && (eqI r7.2 r4.2)) && (eqI r4.1 0)) && (eqI r5.1 0)) = true),bT h10,cC (Qa9 h11),bT h10]
    ·obtain rfl:=Option.some.inj h
     exact gr 23 [] [cC (QaO h0),nF h1,nF h1,cC (Qa4 h2),nF h1,nF h1,rp 14 hP,oI ((!r2) = false),oR True ((!r2) = false),oI (((!r2) || (ltI now 0)) = false),oR True (((!r2) || (ltI now 0)) = false),oI ((((!r2) || (ltI now 0)) || (gtI now 4096)) = false),oR True ((((!r2) || (ltI now 0)) || (gtI now 4096)) = false),rp 3 (oI (((((!r2) || (ltI now 0)) || (gtI now 4096)) || (ltI more 0)) = false)),oR True (((((!r2) || (ltI now 0)) || (gtI now 4096)) || (ltI more 0)) = false),bF h3,cC (QaB h5),cC (QaB h6),hW 10,hH (.frz 2),hH (.nilS 66 1 1),rp 4 (oO (Eq.refl ([r].map Qac.enc).length)),cC (Qaw h7),hW 12,hH (.nilS 73 1 1),cC (Qaw h8),bT h9,rp 16 hP,rp 2 (oI ((eqI r5.2 r4.2) = true)),oR True ((eqI r5.2 r4.2) = true),rp 2 (oI (((eqI r5.2 r4.2) && (eqI r6.2 r4.2)) = true)),oR True (((eqI r5.2 r4.2) && (eqI r6.2 r4.2)) = true),oI ((((eqI r5.2 r4.2) && (eqI r6.2 r4.2)) && (eqI r7.2 r4.2)) = true),oR True ((((eqI r5.2 r4.2) && (eqI r6.2 r4.2)) && (eqI r7.2 r4.2)) = true),oI (((((eqI r5.2 r4.2) && (eqI r6.2 r4.2)) && (eqI r7.2 r4.2)) && (eqI r4.1 0)) = true),oR True (((((eqI r5.2 r4.2) && (eqI r6.2 r4.2)) && (eqI r7.2 r4.2)) && (eqI r4.1 0)) = true),oI ((((((eqI r5.2 r4.2) && (eqI r6.2 r4.2)) && (eqI r7.2 r4.2)) && (eqI r4.1 0)) && (eqI r5.1 0)) = true),nL Qac.enc r6.1,hP,hP,oI ((((((eqI r5.2 r4.2) && (eqI r6.2 r4.2)) && (eqI r7.2 r4.2)) && (eqI r4.1 0)) && (eqI r5.1 0)) = true),nL Qac.enc r7.1,hP,hP,hP,rp 3 (oI ((((((eqI r5.2 r4.2) && (eqI r6.2 r4.2)) && (eqI r7.2 r4.2)) && (eqI r4.1 0)) && (eqI r5.1 0)) = true)),oR True ((((((eqI r5.2 r4.2) && (eqI r6.2 r4.2)) && (eqI r7.2 r4.2)) && (eqI r4.1 0)) && (eqI r5.1 0)) = true),rp 2 (bF h10)]
   ·rcases Qag h with ⟨h12,h⟩|⟨h12,h⟩
    ·obtain rfl:=Option.some.inj h
     exact gr 28 [] [cC (QaO h0),nF h1,nF h1,cC (Qa4 h2),nF h1,nF h1,rp 14 hP,oI ((!r2) = false),oR True ((!r2) = false),oI (((!r2) || (ltI now 0)) = false),oR True (((!r2) || (ltI now 0)) = false),oI ((((!r2) || (ltI now 0)) || (gtI now 4096)) = false),oR True ((((!r2) || (ltI now 0)) || (gtI now 4096)) = false),rp 3 (oI (((((!r2) || (ltI now 0)) || (gtI now 4096)) || (ltI more 0)) = false)),oR True (((((!r2) || (ltI now 0)) || (gtI now 4096)) || (ltI more 0)) = false),bF h3,cC (QaB h5),cC (QaB h6),hW 10,hH (.frz 2),hH (.nilS 66 1 1),rp 4 (oO (Eq.refl ([r].map Qac.enc).length)),cC (Qaw h7),hW 12,hH (.nilS 73 1 1),cC (Qaw h8),bF h9,rp 14 hP,oI ((neI r5.2 0) = false),oR True ((neI r5.2 0) = false),oI (((neI r5.2 0) || (neI r6.2 0)) = false),oR True (((neI r5.2 0) || (neI r6.2 0)) = false),rp 2 (oI ((((neI r5.2 0) || (neI r6.2 0)) || (neI r7.2 0)) = false)),oR True ((((neI r5.2 0) || (neI r6.2 0)) || (neI r7.2 0)) = false),rp 2 (oI (((((neI r5.2 0) || (neI r6.2 0)) || (neI r7.2 0)) || (gtI r4.1 r5.1)) = false)),nL Qab.enc r.visits,rp 4 hP,rp 2 (oI (((((neI r5.2 0) || (neI r6.2 0)) || (neI r7.2 0)) || (gtI r4.1 r5.1)) = false)),oR True (((((neI r5.2 0) || (neI r6.2 0)) || (neI r7.2 0)) || (gtI r4.1 r5.1)) = false),oI ((((((neI r5.2 0) || (neI r6.2 0)) || (neI r7.2 0)) || (gtI r4.1 r5.1)) || (gtI r5.1 (lenI r.visits))) = false),nL Qac.enc r6.1,rp 7 hP,rp 4 (oI ((((((neI r5.2 0) || (neI r6.2 0)) || (neI r7.2 0)) || (gtI r4.1 r5.1)) || (gtI r5.1 (lenI r.visits))) = false)),oR True ((((((neI r5.2 0) || (neI r6.2 0)) || (neI r7.2 0)) || (gtI r4.1 r5.1)) || (gtI r5.1 (lenI r.visits))) = false),oI (((((((neI r5.2 0) || (neI r6.2 0)) || (neI r7.2 0)) || (gtI r4.1 r5.1)) || (gtI r5.1 (lenI r.visits))) || (!eqB (eqI (lenI r6.1) 1) (gtI r4.1 0))) = false),nL Qac.enc r7.1,rp 5 hP,rp 4 (oI (((((((neI r5.2 0) || (neI r6.2 0)) || (neI r7.2 0)) || (gtI r4.1 r5.1)) || (gtI r5.1 (lenI r.visits))) || (!eqB (eqI (lenI r6.1) 1) (gtI r4.1 0))) = false)),oR True (((((((neI r5.2 0) || (neI r6.2 0)) || (neI r7.2 0)) || (gtI r4.1 r5.1)) || (gtI r5.1 (lenI r.visits))) || (!eqB (eqI (lenI r6.1) 1) (gtI r4.1 0))) = false),bT h12]
    ·rcases Qag h with ⟨h13,h⟩|⟨h13,h⟩
     ·obtain ⟨r9,h14,h⟩:=Qae h
      obtain rfl:=Option.some.inj h
      exact gr 33 [] [cC (QaO h0),nF h1,nF h1,cC (Qa4 h2),nF h1,nF h1,rp 14 hP,oI ((!r2) = false),oR True ((!r2) = false),oI (((!r2) || (ltI now 0)) = false),oR True (((!r2) || (ltI now 0)) = false),oI ((((!r2) || (ltI now 0)) || (gtI now 4096)) = false),oR True ((((!r2) || (ltI now 0)) || (gtI now 4096)) = false),rp 3 (oI (((((!r2) || (ltI now 0)) || (gtI now 4096)) || (ltI more 0)) = false)),oR True (((((!r2) || (ltI now 0)) || (gtI now 4096)) || (ltI more 0)) = false),bF h3,cC (QaB h5),cC (QaB h6),hW 10,hH (.frz 2),hH (.nilS 66 1 1),rp 4 (oO (Eq.refl ([r].map Qac.enc).length)),cC (Qaw h7),hW 12,hH (.nilS 73 1 1),cC (Qaw h8),bF h9,rp 14 hP,oI ((neI r5.2 0) = false),oR True ((neI r5.2 0) = false),oI (((neI r5.2 0) || (neI r6.2 0)) = false),oR True (((neI r5.2 0) || (neI r6.2 0)) = false),rp 2 (oI ((((neI r5.2 0) || (neI r6.2 0)) || (neI r7.2 0)) = false)),oR True ((((neI r5.2 0) || (neI r6.2 0)) || (neI r7.2 0)) = false),rp 2 (oI (((((neI r5.2 0) || (neI r6.2 0)) || (neI r7.2 0)) || (gtI r4.1 r5.1)) = false)),nL Qab.enc r.visits,rp 4 hP,rp 2 (oI (((((neI r5.2 0) || (neI r6.2 0)) || (neI r7.2 0)) || (gtI r4.1 r5.1)) = false)),oR True (((((neI r5.2 0) || (neI r6.2 0)) || (neI r7.2 0)) || (gtI r4.1 r5.1)) = false),oI ((((((neI r5.2 0) || (neI r6.2 0)) || (neI r7.2 0)) || (gtI r4.1 r5.1)) || (gtI r5.1 (lenI r.visits))) = false),nL Qac.enc r6.1,rp 7 hP,rp 4 (oI ((((((neI r5.2 0) || (neI r6.2 0)) || (neI r7.2 0)) || (gtI r4.1 r5.1)) || (gtI r5.1 (lenI r.visits))) = false)),oR True ((((((neI r5.2 0) || (neI r6.2 0)) || (neI r7.2 0)) || (gtI r4.1 r5.1)) || (gtI r5.1 (lenI r.visits))) = false),oI (((((((neI r5.2 0) || (neI r6.2 0)) || (neI r7.2 0)) || (gtI r4.1 r5.1)) || (gtI r5.1 (lenI r.visits))) || (!eqB (eqI (lenI r6.1) 1) (gtI r4.1 0))) = false),nL Qac.enc r7.1,rp 5 hP,rp 4 (oI (((((((neI r5.2 0) || (neI r6.2 0)) || (neI r7.2 0)) || (gtI r4.1 r5.1)) || (gtI r5.1 (lenI r.visits))) || (!eqB (eqI (lenI r6.1) 1) (gtI r4.1 0))) = false)),oR True (((((((neI r5.2 0) || (neI r6.2 0)) || (neI r7.2 0)) || (gtI r4.1 r5.1)) || (gtI r5.1 (lenI r.visits))) || (!eqB (eqI (lenI r6.1) 1) (gtI r4.1 0))) = false),bF h12,bT h13,cC (Qa9 h14)]
     ·obtain ⟨x1,h15,h⟩:=Qae h
      rcases Qag h with ⟨h16,h⟩|⟨h16,h⟩
      ·obtain rfl:=Option.some.inj h
       exact gr 38 [] [cC (QaO h0),nF h1,nF h1,cC (Qa4 h2),nF h1,nF h1,rp 14 hP,oI ((!r2) = false),oR True ((!r2) = false),oI (((!r2) || (ltI now 0)) = false),oR True (((!r2) || (ltI now 0)) = false),oI ((((!r2) || (ltI now 0)) || (gtI now 4096)) = false),oR True ((((!r2) || (ltI now 0)) || (gtI now 4096)) = false),rp 3 (oI (((((!r2) || (ltI now 0)) || (gtI now 4096)) || (ltI more 0)) = false)),oR True (((((!r2) || (ltI now 0)) || (gtI now 4096)) || (ltI more 0)) = false),bF h3,cC (QaB h5),cC (QaB h6),hW 10,hH (.frz 2),hH (.nilS 66 1 1),rp 4 (oO (Eq.refl ([r].map Qac.enc).length)),cC (Qaw h7),hW 12,hH (.nilS 73 1 1),cC (Qaw h8),bF h9,rp 14 hP,oI ((neI r5.2 0) = false),oR True ((neI r5.2 0) = false),oI (((neI r5.2 0) || (neI r6.2 0)) = false),oR True (((neI r5.2 0) || (neI r6.2 0)) = false),rp 2 (oI ((((neI r5.2 0) || (neI r6.2 0)) || (neI r7.2 0)) = false)),oR True ((((neI r5.2 0) || (neI r6.2 0)) || (neI r7.2 0)) = false),rp 2 (oI (((((neI r5.2 0) || (neI r6.2 0)) || (neI r7.2 0)) || (gtI r4.1 r5.1)) = false)),nL Qab.enc r.visits,rp 4 hP,rp 2 (oI (((((neI r5.2 0) || (neI r6.2 0)) || (neI r7.2 0)) || (gtI r4.1 r5.1)) = false)),oR True (((((neI r5.2 0) || (neI r6.2 0)) || (neI r7.2 0)) || (gtI r4.1 r5.1)) = false),oI ((((((neI r5.2 0) || (neI r6.2 0)) || (neI r7.2 0)) || (gtI r4.1 r5.1)) || (gtI r5.1 (lenI r.visits))) = false),nL Qac.enc r6.1,rp 7 hP,rp 4 (oI ((((((neI r5.2 0) || (neI r6.2 0)) || (neI r7.2 0)) || (gtI r4.1 r5.1)) || (gtI r5.1 (lenI r.visits))) = false)),oR True ((((((neI r5.2 0) || (neI r6.2 0)) || (neI r7.2 0)) || (gtI r4.1 r5.1)) || (gtI r5.1 (lenI r.visits))) = false),oI (((((((neI r5.2 0) || (neI r6.2 0)) || (neI r7.2 0)) || (gtI r4.1 r5.1)) || (gtI r5.1 (lenI r.visits))) || (!eqB (eqI (lenI r6.1) 1) (gtI r4.1 0))) = false),nL Qac.enc r7.1,rp 5 hP,rp 4 (oI (((((((neI r5.2 0) || (neI r6.2 0)) || (neI r7.2 0)) || (gtI r4.1 r5.1)) || (gtI r5.1 (lenI r.visits))) || (!eqB (eqI (lenI r6.1) 1) (gtI r4.1 0))) = false)),oR True (((((((neI r5.2 0) || (neI r6.2 0)) || (neI r7.2 0)) || (gtI r4.1 r5.1)) || (gtI r5.1 (lenI r.visits))) || (!eqB (eqI (lenI r6.1) 1) (gtI r4.1 0))) = false),bF h12,bF h13,cE Qac.enc h15,nL Qab.enc x1.visits,rp 8 (bT h16),tT]
      ·obtain ⟨x2,h17,h⟩:=Qae h
       rcases Qag h with ⟨h18,h⟩|⟨h18,h⟩
       ·obtain rfl:=Option.some.inj h
        exact gr 38 [] [cC (QaO h0),nF h1,nF h1,cC (Qa4 h2),nF h1,nF h1,rp 14 hP,oI ((!r2) = false),oR True ((!r2) = false),oI (((!r2) || (ltI now 0)) = false),oR True (((!r2) || (ltI now 0)) = false),oI ((((!r2) || (ltI now 0)) || (gtI now 4096)) = false),oR True ((((!r2) || (ltI now 0)) || (gtI now 4096)) = false),rp 3 (oI (((((!r2) || (ltI now 0)) || (gtI now 4096)) || (ltI more 0)) = false)),oR True (((((!r2) || (ltI now 0)) || (gtI now 4096)) || (ltI more 0)) = false),bF h3,cC (QaB h5),cC (QaB h6),hW 10,hH (.frz 2),hH (.nilS 66 1 1),rp 4 (oO (Eq.refl ([r].map Qac.enc).length)),cC (Qaw h7),hW 12,hH (.nilS 73 1 1),cC (Qaw h8),bF h9,rp 14 hP,oI ((neI r5.2 0) = false),oR True ((neI r5.2 0) = false),oI (((neI r5.2 0) || (neI r6.2 0)) = false),oR True (((neI r5.2 0) || (neI r6.2 0)) = false),rp 2 (oI ((((neI r5.2 0) || (neI r6.2 0)) || (neI r7.2 0)) = false)),oR True ((((neI r5.2 0) || (neI r6.2 0)) || (neI r7.2 0)) = false),rp 2 (oI (((((neI r5.2 0) || (neI r6.2 0)) || (neI r7.2 0)) || (gtI r4.1 r5.1)) = false)),nL Qab.enc r.visits,rp 4 hP,rp 2 (oI (((((neI r5.2 0) || (neI r6.2 0)) || (neI r7.2 0)) || (gtI r4.1 r5.1)) = false)),oR True (((((neI r5.2 0) || (neI r6.2 0)) || (neI r7.2 0)) || (gtI r4.1 r5.1)) = false),oI ((((((neI r5.2 0) || (neI r6.2 0)) || (neI r7.2 0)) || (gtI r4.1 r5.1)) || (gtI r5.1 (lenI r.visits))) = false),nL Qac.enc r6.1,rp 7 hP,rp 4 (oI ((((((neI r5.2 0) || (neI r6.2 0)) || (neI r7.2 0)) || (gtI r4.1 r5.1)) || (gtI r5.1 (lenI r.visits))) = false)),oR True ((((((neI r5.2 0) || (neI r6.2 0)) || (neI r7.2 0)) || (gtI r4.1 r5.1)) || (gtI r5.1 (lenI r.visits))) = false),oI (((((((neI r5.2 0) || (neI r6.2 0)) || (neI r7.2 0)) || (gtI r4.1 r5.1)) || (gtI r5.1 (lenI r.visits))) || (!eqB (eqI (lenI r6.1) 1) (gtI r4.1 0))) = false),nL Qac.enc r7.1,rp 5 hP,rp 4 (oI (((((((neI r5.2 0) || (neI r6.2 0)) || (neI r7.2 0)) || (gtI r4.1 r5.1)) || (gtI r5.1 (lenI r.visits))) || (!eqB (eqI (lenI r6.1) 1) (gtI r4.1 0))) = false)),oR True (((((((neI r5.2 0) || (neI r6.2 0)) || (neI r7.2 0)) || (gtI r4.1 r5.1)) || (gtI r5.1 (lenI r.visits))) || (!eqB (eqI (lenI r6.1) 1) (gtI r4.1 0))) = false),bF h12,bF h13,cE Qac.enc h15,nL Qab.enc x1.visits,rp 2 (bF h16),cE Qac.enc h17,rp 3 (bF h16),nL Qab.enc x2.visits,rp 3 (bF h16),bT h18]
       ·rcases Qag h with ⟨h19,h⟩|⟨h19,h⟩
        ·obtain ⟨r10,h20,h⟩:=Qae h
         rcases Qag h with ⟨h21,h⟩|⟨h21,h⟩
         ·obtain ⟨r11,h22,h⟩:=Qae h
          obtain rfl:=Option.some.inj h
          exact gr 43 [] [cC (QaO h0),nF h1,nF h1,cC (Qa4 h2),nF h1,nF h1,rp 14 hP,oI ((!r2) = false),oR True ((!r2) = false),oI (((!r2) || (ltI now 0)) = false),oR True (((!r2) || (ltI now 0)) = false),oI ((((!r2) || (ltI now 0)) || (gtI now 4096)) = false),oR True ((((!r2) || (ltI now 0)) || (gtI now 4096)) = false),rp 3 (oI (((((!r2) || (ltI now 0)) || (gtI now 4096)) || (ltI more 0)) = false)),oR True (((((!r2) || (ltI now 0)) || (gtI now 4096)) || (ltI more 0)) = false),bF h3,cC (QaB h5),cC (QaB h6),hW 10,hH (.frz 2),hH (.nilS 66 1 1),rp 4 (oO (Eq.refl ([r].map Qac.enc).length)),cC (Qaw h7),hW 12,hH (.nilS 73 1 1),cC (Qaw h8),bF h9,rp 14 hP,oI ((neI r5.2 0) = false),oR True ((neI r5.2 0) = false),oI (((neI r5.2 0) || (neI r6.2 0)) = false),oR True (((neI r5.2 0) || (neI r6.2 0)) = false),rp 2 (oI ((((neI r5.2 0) || (neI r6.2 0)) || (neI r7.2 0)) = false)),oR True ((((neI r5.2 0) || (neI r6.2 0)) || (neI r7.2 0)) = false),rp 2 (oI (((((neI r5.2 0) || (neI r6.2 0)) || (neI r7.2 0)) || (gtI r4.1 r5.1)) = false)),nL Qab.enc r.visits,rp 4 hP,rp 2 (oI (((((neI r5.2 0) || (neI r6.2 0)) || (neI r7.2 0)) || (gtI r4.1 r5.1)) = false)),oR True (((((neI r5.2 0) || (neI r6.2 0)) || (neI r7.2 0)) || (gtI r4.1 r5.1)) = false),oI ((((((neI r5.2 0) || (neI r6.2 0)) || (neI r7.2 0)) || (gtI r4.1 r5.1)) || (gtI r5.1 (lenI r.visits))) = false),nL Qac.enc r6.1,rp 7 hP,rp 4 (oI ((((((neI r5.2 0) || (neI r6.2 0)) || (neI r7.2 0)) || (gtI r4.1 r5.1)) || (gtI r5.1 (lenI r.visits))) = false)),oR True ((((((neI r5.2 0) || (neI r6.2 0)) || (neI r7.2 0)) || (gtI r4.1 r5.1)) || (gtI r5.1 (lenI r.visits))) = false),oI (((((((neI r5.2 0) || (neI r6.2 0)) || (neI r7.2 0)) || (gtI r4.1 r5.1)) || (gtI r5.1 (lenI r.visits))) || (!eqB (eqI (lenI r6.1) 1) (gtI r4.1 0))) = false),nL Qac.enc r7.1,rp 5 hP,rp 4 (oI (((((((neI r5.2 0) || (neI r6.2 0)) || (neI r7.2 0)) || (gtI r4.1 r5.1)) || (gtI r5.1 (lenI r.visits))) || (!eqB (eqI (lenI r6.1) 1) (gtI r4.1 0))) = false)),oR True (((((((neI r5.2 0) || (neI r6.2 0)) || (neI r7.2 0)) || (gtI r4.1 r5.1)) || (gtI r5.1 (lenI r.visits))) || (!eqB (eqI (lenI r6.1) 1) (gtI r4.1 0))) = false),bF h12,bF h13,cE Qac.enc h15,nL Qab.enc x1.visits,rp 2 (bF h16),cE Qac.enc h17,rp 3 (bF h16),nL Qab.enc x2.visits,rp 3 (bF h16),bF h18,cE Qac.enc h15,nL QaI x1.rests,bT h19,cC (Qeo h20),bT h21,cC (Qa9 h22),bT h21]
         ·obtain rfl:=Option.some.inj h
          exact gr 43 [] [cC (QaO h0),nF h1,nF h1,cC (Qa4 h2),nF h1,nF h1,rp 14 hP,oI ((!r2) = false),oR True ((!r2) = false),oI (((!r2) || (ltI now 0)) = false),oR True (((!r2) || (ltI now 0)) = false),oI ((((!r2) || (ltI now 0)) || (gtI now 4096)) = false),oR True ((((!r2) || (ltI now 0)) || (gtI now 4096)) = false),rp 3 (oI (((((!r2) || (ltI now 0)) || (gtI now 4096)) || (ltI more 0)) = false)),oR True (((((!r2) || (ltI now 0)) || (gtI now 4096)) || (ltI more 0)) = false),bF h3,cC (QaB h5),cC (QaB h6),hW 10,hH (.frz 2),hH (.nilS 66 1 1),rp 4 (oO (Eq.refl ([r].map Qac.enc).length)),cC (Qaw h7),hW 12,hH (.nilS 73 1 1),cC (Qaw h8),bF h9,rp 14 hP,oI ((neI r5.2 0) = false),oR True ((neI r5.2 0) = false),oI (((neI r5.2 0) || (neI r6.2 0)) = false),oR True (((neI r5.2 0) || (neI r6.2 0)) = false),rp 2 (oI ((((neI r5.2 0) || (neI r6.2 0)) || (neI r7.2 0)) = false)),oR True ((((neI r5.2 0) || (neI r6.2 0)) || (neI r7.2 0)) = false),rp 2 (oI (((((neI r5.2 0) || (neI r6.2 0)) || (neI r7.2 0)) || (gtI r4.1 r5.1)) = false)),nL Qab.enc r.visits,rp 4 hP,rp 2 (oI (((((neI r5.2 0) || (neI r6.2 0)) || (neI r7.2 0)) || (gtI r4.1 r5.1)) = false)),oR True (((((neI r5.2 0) || (neI r6.2 0)) || (neI r7.2 0)) || (gtI r4.1 r5.1)) = false),oI ((((((neI r5.2 0) || (neI r6.2 0)) || (neI r7.2 0)) || (gtI r4.1 r5.1)) || (gtI r5.1 (lenI r.visits))) = false),nL Qac.enc r6.1,rp 7 hP,rp 4 (oI ((((((neI r5.2 0) || (neI r6.2 0)) || (neI r7.2 0)) || (gtI r4.1 r5.1)) || (gtI r5.1 (lenI r.visits))) = false)),oR True ((((((neI r5.2 0) || (neI r6.2 0)) || (neI r7.2 0)) || (gtI r4.1 r5.1)) || (gtI r5.1 (lenI r.visits))) = false),oI (((((((neI r5.2 0) || (neI r6.2 0)) || (neI r7.2 0)) || (gtI r4.1 r5.1)) || (gtI r5.1 (lenI r.visits))) || (!eqB (eqI (lenI r6.1) 1) (gtI r4.1 0))) = false),nL Qac.enc r7.1,rp 5 hP,rp 4 (oI (((((((neI r5.2 0) || (neI r6.2 0)) || (neI r7.2 0)) || (gtI r4.1 r5.1)) || (gtI r5.1 (lenI r.visits))) || (!eqB (eqI (lenI r6.1) 1) (gtI r4.1 0))) = false)),oR True (((((((neI r5.2 0) || (neI r6.2 0)) || (neI r7.2 0)) || (gtI r4.1 r5.1)) || (gtI r5.1 (lenI r.visits))) || (!eqB (eqI (lenI r6.1) 1) (gtI r4.1 0))) = false),bF h12,bF h13,cE Qac.enc h15,nL Qab.enc x1.visits,rp 2 (bF h16),cE Qac.enc h17,rp 3 (bF h16),nL Qab.enc x2.visits,rp 3 (bF h16),bF h18,cE Qac.enc h15,nL QaI x1.rests,bT h19,cC (Qeo h20),rp 2 (bF h21)]
        ·obtain ⟨r12,h23,h⟩:=Qae h
         rcases Qag h with ⟨h24,h⟩|⟨h24,h⟩
         ·obtain ⟨r13,h25,h⟩:=Qae h
          obtain rfl:=Option.some.inj h
          exact gr 44 [] [cC (QaO h0),nF h1,nF h1,cC (Qa4 h2),nF h1,nF h1,rp 14 hP,oI ((!r2) = false),oR True ((!r2) = false),oI (((!r2) || (ltI now 0)) = false),oR True (((!r2) || (ltI now 0)) = false),oI ((((!r2) || (ltI now 0)) || (gtI now 4096)) = false),oR True ((((!r2) || (ltI now 0)) || (gtI now 4096)) = false),rp 3 (oI (((((!r2) || (ltI now 0)) || (gtI now 4096)) || (ltI more 0)) = false)),oR True (((((!r2) || (ltI now 0)) || (gtI now 4096)) || (ltI more 0)) = false),bF h3,cC (QaB h5),cC (QaB h6),hW 10,hH (.frz 2),hH (.nilS 66 1 1),rp 4 (oO (Eq.refl ([r].map Qac.enc).length)),cC (Qaw h7),hW 12,hH (.nilS 73 1 1),cC (Qaw h8),bF h9,rp 14 hP,oI ((neI r5.2 0) = false),oR True ((neI r5.2 0) = false),oI (((neI r5.2 0) || (neI r6.2 0)) = false),oR True (((neI r5.2 0) || (neI r6.2 0)) = false),rp 2 (oI ((((neI r5.2 0) || (neI r6.2 0)) || (neI r7.2 0)) = false)),oR True ((((neI r5.2 0) || (neI r6.2 0)) || (neI r7.2 0)) = false),rp 2 (oI (((((neI r5.2 0) || (neI r6.2 0)) || (neI r7.2 0)) || (gtI r4.1 r5.1)) = false)),nL Qab.enc r.visits,rp 4 hP,rp 2 (oI (((((neI r5.2 0) || (neI r6.2 0)) || (neI r7.2 0)) || (gtI r4.1 r5.1)) = false)),oR True (((((neI r5.2 0) || (neI r6.2 0)) || (neI r7.2 0)) || (gtI r4.1 r5.1)) = false),oI ((((((neI r5.2 0) || (neI r6.2 0)) || (neI r7.2 0)) || (gtI r4.1 r5.1)) || (gtI r5.1 (lenI r.visits))) = false),nL Qac.enc r6.1,rp 7 hP,rp 4 (oI ((((((neI r5.2 0) || (neI r6.2 0)) || (neI r7.2 0)) || (gtI r4.1 r5.1)) || (gtI r5.1 (lenI r.visits))) = false)),oR True ((((((neI r5.2 0) || (neI r6.2 0)) || (neI r7.2 0)) || (gtI r4.1 r5.1)) || (gtI r5.1 (lenI r.visits))) = false),oI (((((((neI r5.2 0) || (neI r6.2 0)) || (neI r7.2 0)) || (gtI r4.1 r5.1)) || (gtI r5.1 (lenI r.visits))) || (!eqB (eqI (lenI r6.1) 1) (gtI r4.1 0))) = false),nL Qac.enc r7.1,rp 5 hP,rp 4 (oI (((((((neI r5.2 0) || (neI r6.2 0)) || (neI r7.2 0)) || (gtI r4.1 r5.1)) || (gtI r5.1 (lenI r.visits))) || (!eqB (eqI (lenI r6.1) 1) (gtI r4.1 0))) = false)),oR True (((((((neI r5.2 0) || (neI r6.2 0)) || (neI r7.2 0)) || (gtI r4.1 r5.1)) || (gtI r5.1 (lenI r.visits))) || (!eqB (eqI (lenI r6.1) 1) (gtI r4.1 0))) = false),bF h12,bF h13,cE Qac.enc h15,nL Qab.enc x1.visits,rp 2 (bF h16),cE Qac.enc h17,rp 3 (bF h16),nL Qab.enc x2.visits,rp 3 (bF h16),bF h18,cE Qac.enc h15,nL QaI x1.rests,bF h19,hH (.draw 11 []),cE Qac.enc h17,cE Qac.enc h15,cC (Ql2 h23),bT h24,cC (Qa9 h25),bT h24]
         ·obtain rfl:=Option.some.inj h
          exact gr 44 [] [cC (QaO h0),nF h1,nF h1,cC (Qa4 h2),nF h1,nF h1,rp 14 hP,oI ((!r2) = false),oR True ((!r2) = false),oI (((!r2) || (ltI now 0)) = false),oR True (((!r2) || (ltI now 0)) = false),oI ((((!r2) || (ltI now 0)) || (gtI now 4096)) = false),oR True ((((!r2) || (ltI now 0)) || (gtI now 4096)) = false),rp 3 (oI (((((!r2) || (ltI now 0)) || (gtI now 4096)) || (ltI more 0)) = false)),oR True (((((!r2) || (ltI now 0)) || (gtI now 4096)) || (ltI more 0)) = false),bF h3,cC (QaB h5),cC (QaB h6),hW 10,hH (.frz 2),hH (.nilS 66 1 1),rp 4 (oO (Eq.refl ([r].map Qac.enc).length)),cC (Qaw h7),hW 12,hH (.nilS 73 1 1),cC (Qaw h8),bF h9,rp 14 hP,oI ((neI r5.2 0) = false),oR True ((neI r5.2 0) = false),oI (((neI r5.2 0) || (neI r6.2 0)) = false),oR True (((neI r5.2 0) || (neI r6.2 0)) = false),rp 2 (oI ((((neI r5.2 0) || (neI r6.2 0)) || (neI r7.2 0)) = false)),oR True ((((neI r5.2 0) || (neI r6.2 0)) || (neI r7.2 0)) = false),rp 2 (oI (((((neI r5.2 0) || (neI r6.2 0)) || (neI r7.2 0)) || (gtI r4.1 r5.1)) = false)),nL Qab.enc r.visits,rp 4 hP,rp 2 (oI (((((neI r5.2 0) || (neI r6.2 0)) || (neI r7.2 0)) || (gtI r4.1 r5.1)) = false)),oR True (((((neI r5.2 0) || (neI r6.2 0)) || (neI r7.2 0)) || (gtI r4.1 r5.1)) = false),oI ((((((neI r5.2 0) || (neI r6.2 0)) || (neI r7.2 0)) || (gtI r4.1 r5.1)) || (gtI r5.1 (lenI r.visits))) = false),nL Qac.enc r6.1,rp 7 hP,rp 4 (oI ((((((neI r5.2 0) || (neI r6.2 0)) || (neI r7.2 0)) || (gtI r4.1 r5.1)) || (gtI r5.1 (lenI r.visits))) = false)),oR True ((((((neI r5.2 0) || (neI r6.2 0)) || (neI r7.2 0)) || (gtI r4.1 r5.1)) || (gtI r5.1 (lenI r.visits))) = false),oI (((((((neI r5.2 0) || (neI r6.2 0)) || (neI r7.2 0)) || (gtI r4.1 r5.1)) || (gtI r5.1 (lenI r.visits))) || (!eqB (eqI (lenI r6.1) 1) (gtI r4.1 0))) = false),nL Qac.enc r7.1,rp 5 hP,rp 4 (oI (((((((neI r5.2 0) || (neI r6.2 0)) || (neI r7.2 0)) || (gtI r4.1 r5.1)) || (gtI r5.1 (lenI r.visits))) || (!eqB (eqI (lenI r6.1) 1) (gtI r4.1 0))) = false)),oR True (((((((neI r5.2 0) || (neI r6.2 0)) || (neI r7.2 0)) || (gtI r4.1 r5.1)) || (gtI r5.1 (lenI r.visits))) || (!eqB (eqI (lenI r6.1) 1) (gtI r4.1 0))) = false),bF h12,bF h13,cE Qac.enc h15,nL Qab.enc x1.visits,rp 2 (bF h16),cE Qac.enc h17,rp 3 (bF h16),nL Qab.enc x2.visits,rp 3 (bF h16),bF h18,cE Qac.enc h15,nL QaI x1.rests,bF h19,hH (.draw 11 []),cE Qac.enc h17,cE Qac.enc h15,cC (Ql2 h23),rp 2 (bF h24)]
 ·obtain ⟨r14,h26,h⟩:=Qae h
  obtain rfl:=Option.some.inj h
  exact gr 8 [] [cC (QaO h0),rp 4 (nT h1),rp 15 tT,cC (Qa9 h26)]
end Go.Proofs.YtoogjnlmicgfiaaGreatDoor
