/- Part MV of the proof: texts K1. -/
import Derived.Test.YtbilkblifgaflaaGreatDoorMU
import Derived.Test.YtbilkblifgaflaaGreatDoorProg
namespace Go.Proofs.YtbilkblifgaflaaGreatDoor
set_option linter.unusedVariables false
set_option linter.unusedSectionVars false
set_option linter.unusedSimpArgs false
set_option maxHeartbeats 4000000
set_option maxRecDepth 100000
def QfG (Γ:Gam) (rv:Int) (cf:Cf):Prop:=Go Tryz.prog Tryz.f231 [] Γ (one (lI rv)) [] cf
def Qfe (Γ:Gam) (rv:Int) (s0:List Qad) (v:Qad) (v1:Int):Prop:=QfG Γ rv ⟨[.c 52,.l 52,.b 0,.c 7],⟨19,[vL 0 2 s0 Qad.enc,vP 3 0 2,vI 7 (lenI s0),vI 8 v1],[oX 2 138 (Qad.enc v)]⟩⟩
def QeY (Γ:Gam) (rv:Int) (s0:List Qad) (v:Qad):Prop:=QfG Γ rv ⟨[.c 7],⟨19,[],[]⟩⟩
theorem Qh6 (Γ:Gam) (rv:Int) {s0 v} {s:Int} {e:(Unit)⊕(Int)} (h:QaX (fun s=>Qcu s0 v s) s=some e) (hD:sel e (fun e=>QeY Γ rv s0 v) (fun e=>e=rv)):Qfe Γ rv s0 v s:=by
 refine QaA (C:=fun (s:Int)=>Qfe Γ rv s0 v s) (D:=fun (e:(Unit)⊕(Int))=>sel e (fun e=>QeY Γ rv s0 v) (fun e=>e=rv)) ?_ h hD
 clear h hD s e
 intro v1 z_ h hI hE
 replace h:Qcu s0 v v1=_:=h
 unfold Qcu at h
 rcases Qak h with ⟨h0,h⟩|⟨h0,h⟩
 ·obtain ⟨x0,h1,h⟩:=Qae h
  rcases Qak h with ⟨h2,h⟩|⟨h2,h⟩
  ·obtain rfl:=(hE _ (oJ h):_=rv)
   exact gr 14 [] [bT h0,hH (.draw 6 []),cE Qad.enc h1,bT h2]
  ·exact gn 16 [0,3,7,8] [0] [bT h0,hH (.draw 6 []),cE Qad.enc h1,bF h2] (hI _ (oJ h))
 ·exact gn 5 [] [] [bF h0] (hE _ (oJ h))
theorem Qfq {s0 v} {rv:Int} (h:QcL s0 v=some rv):AFn Tryz.prog 231 [.one (lL 2 s0 Qad.enc),.agg (Qad.enc v)] [] (one (lI rv)) []:=by
 refine QaG Tryz.func231 (by kernel_rfl) (by kernel_rfl) (fun Γ=>?_)
 unfold QcL at h
 obtain ⟨e0,h3,h⟩:=Qae h
 refine gn 7 [0,3,7,8] [0] [nL Qad.enc s0] (Qh6 Γ rv h3 ?_)
 rcases e0 with e0|e0
 ·replace h:(some (-1):Option Int)=some _:=h
  obtain rfl:=Option.some.inj h
  exact gr 2 [] []
 ·obtain ⟨r,rfl⟩:∃ x,x=e0:=⟨_,rfl⟩
  replace h:(some r:Option Int)=some _:=h
  exact Option.some.inj h
theorem Qde {l v} {rv:Int} (h:Qhs l v=some rv):AFn Tryz.prog 204 [.one (lL 2 l Qad.enc),.agg (Qad.enc v)] [] (one (lI rv)) []:=by
 refine QaG Tryz.func204 (by kernel_rfl) (by kernel_rfl) (fun Γ=>?_)
 unfold Qhs at h
 obtain ⟨r,h0,h⟩:=Qae h
 obtain rfl:=Option.some.inj h
 exact gr 4 [] [cC (Qfq h0)]
def QsS (Γ:Gam) (rv:Bool) (cf:Cf):Prop:=Go Tryz.prog Tryz.f215 [] Γ (one (.bool rv)) [] cf
def Qpp (Γ:Gam) (rv:Bool) (l:List Qad) (v:Int):Prop:=QsS Γ rv ⟨[.c 52,.l 52,.b 0,.c 7],⟨19,[vL 0 2 l Qad.enc,vL 5 2 l Qad.enc,vI 6 (lenI l),vI 7 v],[]⟩⟩
def Qop (Γ:Gam) (rv:Bool) (l:List Qad):Prop:=QsS Γ rv ⟨[.c 7],⟨19,[],[]⟩⟩
theorem Qud (Γ:Gam) (rv:Bool) {l} {s:Int} {e:(Unit)⊕(Bool)} (h:QaX (fun s=>Qji l s) s=some e) (hD:sel e (fun e=>Qop Γ rv l) (fun e=>e=rv)):Qpp Γ rv l s:=by
 refine QaA (C:=fun (s:Int)=>Qpp Γ rv l s) (D:=fun (e:(Unit)⊕(Bool))=>sel e (fun e=>Qop Γ rv l) (fun e=>e=rv)) ?_ h hD
 clear h hD s e
 intro v z_ h hI hE
 replace h:Qji l v=_:=h
 unfold Qji at h
 rcases Qak h with ⟨h0,h⟩|⟨h0,h⟩
 ·obtain ⟨x0,h1,h⟩:=Qae h
  obtain ⟨l1,h2,h⟩:=Qae h
  obtain ⟨r,h3,h⟩:=Qae h
  rcases Qak h with ⟨h4,h⟩|⟨h4,h⟩
  ·obtain rfl:=(hE _ (oJ h):_=rv)
   exact gr 14 [] [bT h0,cE Qad.enc h1,hH (.draw 6 []),hH (.rows (l1.map Qad.enc)),oO (sl1 h2),oO (sl2 h2),oO (sl3 Qad.enc h2),oO (Int.le_refl v),oO (sl3 Qad.enc h2),oO (sl6 Qad.enc h2),cC (Qde h3),bT h4]
  ·exact gn 16 [0,5,6,7] [] [bT h0,cE Qad.enc h1,hH (.draw 6 []),hH (.rows (l1.map Qad.enc)),oO (sl1 h2),oO (sl2 h2),oO (sl3 Qad.enc h2),oO (Int.le_refl v),oO (sl3 Qad.enc h2),oO (sl6 Qad.enc h2),cC (Qde h3),bF h4] (hI _ (oJ h))
 ·exact gn 5 [] [] [bF h0] (hE _ (oJ h))
theorem Qmm {l} {rv:Bool} (h:QqU l=some rv):AFn Tryz.prog 215 [.one (lL 2 l Qad.enc)] [] (one (.bool rv)) []:=by
 refine QaG Tryz.func215 (by kernel_rfl) (by kernel_rfl) (fun Γ=>?_)
 unfold QqU at h
 obtain ⟨e0,h5,h⟩:=Qae h
 refine gn 7 [0,5,6,7] [] [nL Qad.enc l] (Qud Γ rv h5 ?_)
 rcases e0 with e0|e0
 ·replace h:(some false:Option Bool)=some _:=h
  obtain rfl:=Option.some.inj h
  exact gr 2 [] []
 ·obtain ⟨r1,rfl⟩:∃ x,x=e0:=⟨_,rfl⟩
  replace h:(some r1:Option Bool)=some _:=h
  exact Option.some.inj h
theorem QeX {s0 v} {rv:Bool} (h:Qdv s0 v=some rv):AFn Tryz.prog 241 [.one (lL 2 s0 Qad.enc),.agg (Qad.enc v)] [] (one (.bool rv)) []:=by
 refine QaG Tryz.func241 (by kernel_rfl) (by kernel_rfl) (fun Γ=>?_)
 unfold Qdv at h
 obtain ⟨r,h0,h⟩:=Qae h
 obtain rfl:=Option.some.inj h
 exact gr 4 [] [cC (Qfq h0)]
def Qjf (Γ:Gam) (rv:Bool) (cf:Cf):Prop:=Go Tryz.prog Tryz.f216 [] Γ (one (.bool rv)) [] cf
def Qol (Γ:Gam) (rv:Bool) (x0:Qab) (l:List Qad) (v:Int) (r:List Qad) (last_:Int) (v1:Int):Prop:=Qjf Γ rv ⟨[.c 108156,.l 108156,.b 2,.b 1,.c 423,.l 52,.b 0,.c 7],⟨42,[vL 1 2 l Qad.enc,vP 2 0 6,vI 8 last_,vL 12 2 l Qad.enc,vI 13 (lenI l),vI 14 v,vL 27 2 r Qad.enc,vI 28 (lenI r),vI 29 v1],[oX 6 30 (Qab.enc x0)]⟩⟩
def Qm8 (Γ:Gam) (rv:Bool) (x0:Qab) (l:List Qad) (v:Int) (r:List Qad):Prop:=Qjf Γ rv ⟨[.b 1,.c 423,.l 52,.b 0,.c 7],⟨42,[vL 1 2 l Qad.enc,vP 2 0 6,vL 12 2 l Qad.enc,vI 13 (lenI l),vI 14 v],[oX 6 30 (Qab.enc x0)]⟩⟩
def Qok (Γ:Gam) (rv:Bool) (x0:Qab) (l:List Qad) (v:Int):Prop:=Qjf Γ rv ⟨[.c 52,.l 52,.b 0,.c 7],⟨42,[vL 1 2 l Qad.enc,vP 2 0 6,vL 12 2 l Qad.enc,vI 13 (lenI l),vI 14 v],[oX 6 30 (Qab.enc x0)]⟩⟩
def Qm7 (Γ:Gam) (rv:Bool) (x0:Qab) (l:List Qad):Prop:=Qjf Γ rv ⟨[.c 7],⟨42,[],[]⟩⟩
theorem QtA (Γ:Gam) (rv:Bool) {x0 l v r} {s:Int×Int} {e:(Unit)⊕(Bool)} (h:QaX (fun s=>QiE x0 l v r s.1 s.2) s=some e) (hD:sel e (fun e=>Qm8 Γ rv x0 l v r) (fun e=>e=rv)):Qol Γ rv x0 l v r s.1 s.2:=by
 refine QaA (C:=fun (s:Int×Int)=>Qol Γ rv x0 l v r s.1 s.2) (D:=fun (e:(Unit)⊕(Bool))=>sel e (fun e=>Qm8 Γ rv x0 l v r) (fun e=>e=rv)) ?_ h hD
 clear h hD s e
 rintro ⟨last_,v1⟩ z_ h hI hE
 replace h:QiE x0 l v r last_ v1=_:=h
 unfold QiE at h
 rcases Qak h with ⟨h5,h⟩|⟨h5,h⟩
 ·obtain ⟨x2,h6,h⟩:=Qae h
  obtain ⟨r2,h7,h⟩:=Qae h
  rcases Qak h with ⟨h8,h⟩|⟨h8,h⟩
  ·obtain rfl:=(hE _ (oJ h):_=rv)
   exact gr 17 [] [bT h5,cE Qad.enc h6,cC (Qde h7),bT h8]
  ·exact gn 20 [1,2,8,12,13,14,27,28,29] [0] [bT h5,cE Qad.enc h6,cC (Qde h7),bF h8] (hI _ (oJ h))
 ·exact gn 5 [1,2,12,13,14] [0] [bF h5] (hE _ (oJ h))
theorem Qtz (Γ:Gam) (rv:Bool) {x0 l} {s:Int} {e:(Unit)⊕(Bool)} (h:QaX (fun s=>QiD x0 l s) s=some e) (hD:sel e (fun e=>Qm7 Γ rv x0 l) (fun e=>e=rv)):Qok Γ rv x0 l s:=by
 refine QaA (C:=fun (s:Int)=>Qok Γ rv x0 l s) (D:=fun (e:(Unit)⊕(Bool))=>sel e (fun e=>Qm7 Γ rv x0 l) (fun e=>e=rv)) ?_ h hD
 clear h hD s e
 intro v z_ h hI hE
 replace h:QiD x0 l v=_:=h
 unfold QiD at h
 rcases Qak h with ⟨h0,h⟩|⟨h0,h⟩
 ·obtain ⟨x1,h1,h⟩:=Qae h
  obtain ⟨r,h2,h⟩:=Qae h
  obtain ⟨r1,h3,h⟩:=Qae h
  rcases Qak h with ⟨h4,h⟩|⟨h4,h⟩
  ·obtain ⟨e0,h9,h⟩:=Qae h
   refine gn 22 [1,2,8,12,13,14,27,28,29] [0] [bT h0,cE Qad.enc h1,cC (QhL h2),cC (QeX h3),nF h4,nL Qad.enc r] (QtA Γ rv h9 ?_)
   rcases e0 with e0|e0
   ·replace h:(some (.inl (addK .i64 v 1)):Option ((Int)⊕((Unit)⊕(Bool))))=some _:=h
    exact gn 3 [1,2,12,13,14] [0] [] (hI _ (oJ h))
   ·obtain ⟨r3,rfl⟩:∃ x,x=e0:=⟨_,rfl⟩
    replace h:(some (.inr (.inr r3)):Option ((Int)⊕((Unit)⊕(Bool))))=some _:=h
    exact (hE _ (oJ h):_=rv)
  ·obtain rfl:=(hE _ (oJ h):_=rv)
   exact gr 17 [] [bT h0,cE Qad.enc h1,cC (QhL h2),cC (QeX h3),nT h4]
 ·exact gn 5 [] [] [bF h0] (hE _ (oJ h))
theorem Qqt {x0 l} {rv:Bool} (h:Qpz x0 l=some rv):AFn Tryz.prog 216 [.agg (Qab.enc x0),.one (lL 2 l Qad.enc)] [] (one (.bool rv)) []:=by
 refine QaG Tryz.func216 (by kernel_rfl) (by kernel_rfl) (fun Γ=>?_)
 unfold Qpz at h
 obtain ⟨e1,h10,h⟩:=Qae h
 refine gn 7 [1,2,12,13,14] [0] [nL Qad.enc l] (Qtz Γ rv h10 ?_)
 rcases e1 with e1|e1
 ·replace h:(some true:Option Bool)=some _:=h
  obtain rfl:=Option.some.inj h
  exact gr 2 [] []
 ·obtain ⟨r4,rfl⟩:∃ x,x=e1:=⟨_,rfl⟩
  replace h:(some r4:Option Bool)=some _:=h
  exact Option.some.inj h
theorem QrI {v c} {rv:Bool} (h:QqS v c=some rv):AFn Tryz.prog 242 [.agg (Qad.enc v),.one (.ip [lI c] 0)] [] (one (.bool rv)) []:=by
 refine QaG Tryz.func242 (by kernel_rfl) (by kernel_rfl) (fun Γ=>?_)
 unfold QqS at h
 obtain rfl:=Option.some.inj h
 exact gr 4 [] []
def QdZ (Γ:Gam) (rv:Int) (cf:Cf):Prop:=Go Tryz.prog Tryz.f240 [] Γ (one (lI rv)) [] cf
def Qdt (Γ:Gam) (rv:Int) (s0:List Qad) (c:Int) (v:Int):Prop:=QdZ Γ rv ⟨[.c 52,.l 52,.b 0,.c 7],⟨19,[vL 0 2 s0 Qad.enc,(1,one (.fn (.func 242) [.ip [lI c] 0])),vI 7 (lenI s0),vI 8 v],[]⟩⟩
def Qdh (Γ:Gam) (rv:Int) (s0:List Qad) (c:Int):Prop:=QdZ Γ rv ⟨[.c 7],⟨19,[],[]⟩⟩
theorem Qgb (Γ:Gam) (rv:Int) {s0 c} {s:Int} {e:(Unit)⊕(Int)} (h:QaX (fun s=>QbE s0 c s) s=some e) (hD:sel e (fun e=>Qdh Γ rv s0 c) (fun e=>e=rv)):Qdt Γ rv s0 c s:=by
 refine QaA (C:=fun (s:Int)=>Qdt Γ rv s0 c s) (D:=fun (e:(Unit)⊕(Int))=>sel e (fun e=>Qdh Γ rv s0 c) (fun e=>e=rv)) ?_ h hD
 clear h hD s e
 intro v z_ h hI hE
 replace h:QbE s0 c v=_:=h
 unfold QbE at h
 rcases Qak h with ⟨h0,h⟩|⟨h0,h⟩
 ·obtain ⟨x0,h1,h⟩:=Qae h
  obtain ⟨r,h2,h⟩:=Qae h
  rcases Qak h with ⟨h3,h⟩|⟨h3,h⟩
  ·obtain rfl:=(hE _ (oJ h):_=rv)
   exact gr 14 [] [bT h0,cE Qad.enc h1,cC (QrI h2),bT h3]
  ·exact gn 16 [0,1,7,8] [] [bT h0,cE Qad.enc h1,cC (QrI h2),bF h3] (hI _ (oJ h))
 ·exact gn 5 [] [] [bF h0] (hE _ (oJ h))
theorem QgG {s0 c} {rv:Int} (h:QcB s0 c=some rv):AFn Tryz.prog 240 [.one (lL 2 s0 Qad.enc),.one (.fn (.func 242) [.ip [lI c] 0])] [] (one (lI rv)) []:=by
 refine QaG Tryz.func240 (by kernel_rfl) (by kernel_rfl) (fun Γ=>?_)
 unfold QcB at h
 obtain ⟨e0,h4,h⟩:=Qae h
 refine gn 7 [0,1,7,8] [] [nL Qad.enc s0] (Qgb Γ rv h4 ?_)
 rcases e0 with e0|e0
 ·replace h:(some (-1):Option Int)=some _:=h
  obtain rfl:=Option.some.inj h
  exact gr 2 [] []
 ·obtain ⟨r1,rfl⟩:∃ x,x=e0:=⟨_,rfl⟩
  replace h:(some r1:Option Int)=some _:=h
  exact Option.some.inj h
theorem Qf9 {s0 c} {rv:Bool} (h:Qcl s0 c=some rv):AFn Tryz.prog 212 [.one (lL 2 s0 Qad.enc),.one (.fn (.func 242) [.ip [lI c] 0])] [] (one (.bool rv)) []:=by
 refine QaG Tryz.func212 (by kernel_rfl) (by kernel_rfl) (fun Γ=>?_)
 unfold Qcl at h
 obtain ⟨r,h0,h⟩:=Qae h
 obtain rfl:=Option.some.inj h
 exact gr 4 [] [cC (QgG h0)]
theorem QfF {l o} {rv:Bool} (h:Qk1 l o=some rv):AFn Tryz.prog 217 [.one (lL 2 l Qad.enc),.one (lI o)] [] (one (.bool rv)) []:=by
 refine QaG Tryz.func217 (by kernel_rfl) (by kernel_rfl) (fun Γ=>?_)
 unfold Qk1 at h
 obtain ⟨r,h0,h⟩:=Qae h
 obtain rfl:=Option.some.inj h
 exact gr 4 [] [cC (Qf9 h0)]
theorem Qoi {v c} {rv:Bool} (h:Qml v c=some rv):AFn Tryz.prog 243 [.agg (Qad.enc v),.one (.ip [lI c] 0)] [] (one (.bool rv)) []:=by
 refine QaG Tryz.func243 (by kernel_rfl) (by kernel_rfl) (fun Γ=>?_)
 unfold Qml at h
 obtain rfl:=Option.some.inj h
 exact gr 4 [] []
def Qds (Γ:Gam) (rv:Int) (cf:Cf):Prop:=Go Tryz.prog Tryz.f240 [] Γ (one (lI rv)) [] cf
def Qc3 (Γ:Gam) (rv:Int) (s0:List Qad) (c:Int) (v:Int):Prop:=Qds Γ rv ⟨[.c 52,.l 52,.b 0,.c 7],⟨19,[vL 0 2 s0 Qad.enc,(1,one (.fn (.func 243) [.ip [lI c] 0])),vI 7 (lenI s0),vI 8 v],[]⟩⟩
def QcV (Γ:Gam) (rv:Int) (s0:List Qad) (c:Int):Prop:=Qds Γ rv ⟨[.c 7],⟨19,[],[]⟩⟩
theorem QfA (Γ:Gam) (rv:Int) {s0 c} {s:Int} {e:(Unit)⊕(Int)} (h:QaX (fun s=>Qbo s0 c s) s=some e) (hD:sel e (fun e=>QcV Γ rv s0 c) (fun e=>e=rv)):Qc3 Γ rv s0 c s:=by
 refine QaA (C:=fun (s:Int)=>Qc3 Γ rv s0 c s) (D:=fun (e:(Unit)⊕(Int))=>sel e (fun e=>QcV Γ rv s0 c) (fun e=>e=rv)) ?_ h hD
 clear h hD s e
 intro v z_ h hI hE
 replace h:Qbo s0 c v=_:=h
 unfold Qbo at h
 rcases Qak h with ⟨h0,h⟩|⟨h0,h⟩
 ·obtain ⟨x0,h1,h⟩:=Qae h
  obtain ⟨r,h2,h⟩:=Qae h
  rcases Qak h with ⟨h3,h⟩|⟨h3,h⟩
  ·obtain rfl:=(hE _ (oJ h):_=rv)
   exact gr 14 [] [bT h0,cE Qad.enc h1,cC (Qoi h2),bT h3]
  ·exact gn 16 [0,1,7,8] [] [bT h0,cE Qad.enc h1,cC (Qoi h2),bF h3] (hI _ (oJ h))
 ·exact gn 5 [] [] [bF h0] (hE _ (oJ h))
theorem Qb3 {s0 c} {rv:Int} (h:Qcm s0 c=some rv):AFn Tryz.prog 240 [.one (lL 2 s0 Qad.enc),.one (.fn (.func 243) [.ip [lI c] 0])] [] (one (lI rv)) []:=by
 refine QaG Tryz.func240 (by kernel_rfl) (by kernel_rfl) (fun Γ=>?_)
 unfold Qcm at h
 obtain ⟨e0,h4,h⟩:=Qae h
 refine gn 7 [0,1,7,8] [] [nL Qad.enc s0] (QfA Γ rv h4 ?_)
 rcases e0 with e0|e0
 ·replace h:(some (-1):Option Int)=some _:=h
  obtain rfl:=Option.some.inj h
  exact gr 2 [] []
 ·obtain ⟨r1,rfl⟩:∃ x,x=e0:=⟨_,rfl⟩
  replace h:(some r1:Option Int)=some _:=h
  exact Option.some.inj h
theorem Qqs {l a b} {rv:Bool} (h:Qpy l a b=some rv):AFn Tryz.prog 218 [.one (lL 2 l Qad.enc),.one (lI a),.one (lI b)] [] (one (.bool rv)) []:=by
 refine QaG Tryz.func218 (by kernel_rfl) (by kernel_rfl) (fun Γ=>?_)
 unfold Qpy at h
 obtain ⟨r,h0,h⟩:=Qae h
 rcases Qak h with ⟨h1,h⟩|⟨h1,h⟩
 ·obtain rfl:=Option.some.inj h
  exact gr 10 [] [cC (Qb3 h0),bT h1]
 ·obtain ⟨r1,h2,h⟩:=Qae h
  rcases Qak h with ⟨h3,h⟩|⟨h3,h⟩
  ·obtain ⟨l1,h4,h⟩:=Qae h
   obtain ⟨r2,h5,h⟩:=Qae h
   obtain rfl:=Option.some.inj h
   exact gr 11 [] [cC (Qb3 h0),bF h1,cC (QfF h2),rp 3 (bT h3),hH (.rows (l1.map Qad.enc)),oO (sl1 h4),oO (sl2h Qad.enc h4),rp 3 (oO (Int.le_refl ((l.map Qad.enc).length:Int))),oO (sl6h Qad.enc h4),bT h3,bT h3,cC (QfF h5),bT h3,bT h3]
  ·obtain rfl:=Option.some.inj h
   exact gr 11 [] [cC (Qb3 h0),bF h1,cC (QfF h2),rp 7 (bF h3)]
theorem Qpf {v c} {rv:Bool} (h:Qod v c=some rv):AFn Tryz.prog 213 [.agg (Qad.enc v),.one (.ip (Qab.enc c) 0)] [] (one (.bool rv)) []:=by
 refine QaG Tryz.func213 (by kernel_rfl) (by kernel_rfl) (fun Γ=>?_)
 unfold Qod at h
 obtain rfl:=Option.some.inj h
 exact gr 4 [] [rp 5 hP,rp 3 (oI ((ltI v.order 0)=false)),nL Qac.enc c.orders,hP,hP,rp 2 (oI ((ltI v.order 0)=false)),oR True ((ltI v.order 0)=false)]
def QdL (Γ:Gam) (rv:Int) (cf:Cf):Prop:=Go Tryz.prog Tryz.f240 [] Γ (one (lI rv)) [] cf
def Qc9 (Γ:Gam) (rv:Int) (s0:List Qad) (c:Qab) (v:Int):Prop:=QdL Γ rv ⟨[.c 52,.l 52,.b 0,.c 7],⟨19,[vL 0 2 s0 Qad.enc,(1,one (.fn (.func 213) [.ip (Qab.enc c) 0])),vI 7 (lenI s0),vI 8 v],[]⟩⟩
def Qc1 (Γ:Gam) (rv:Int) (s0:List Qad) (c:Qab):Prop:=QdL Γ rv ⟨[.c 7],⟨19,[],[]⟩⟩
theorem QfP (Γ:Gam) (rv:Int) {s0 c} {s:Int} {e:(Unit)⊕(Int)} (h:QaX (fun s=>Qbr s0 c s) s=some e) (hD:sel e (fun e=>Qc1 Γ rv s0 c) (fun e=>e=rv)):Qc9 Γ rv s0 c s:=by
 refine QaA (C:=fun (s:Int)=>Qc9 Γ rv s0 c s) (D:=fun (e:(Unit)⊕(Int))=>sel e (fun e=>Qc1 Γ rv s0 c) (fun e=>e=rv)) ?_ h hD
 clear h hD s e
 intro v z_ h hI hE
 replace h:Qbr s0 c v=_:=h
 unfold Qbr at h
 rcases Qak h with ⟨h0,h⟩|⟨h0,h⟩
 ·obtain ⟨x0,h1,h⟩:=Qae h
  obtain ⟨r,h2,h⟩:=Qae h
  rcases Qak h with ⟨h3,h⟩|⟨h3,h⟩
  ·obtain rfl:=(hE _ (oJ h):_=rv)
   exact gr 14 [] [bT h0,cE Qad.enc h1,cC (Qpf h2),bT h3]
  ·exact gn 16 [0,1,7,8] [] [bT h0,cE Qad.enc h1,cC (Qpf h2),bF h3] (hI _ (oJ h))
 ·exact gn 5 [] [] [bF h0] (hE _ (oJ h))
theorem Qgd {s0 c} {rv:Int} (h:Qco s0 c=some rv):AFn Tryz.prog 240 [.one (lL 2 s0 Qad.enc),.one (.fn (.func 213) [.ip (Qab.enc c) 0])] [] (one (lI rv)) []:=by
 refine QaG Tryz.func240 (by kernel_rfl) (by kernel_rfl) (fun Γ=>?_)
 unfold Qco at h
 obtain ⟨e0,h4,h⟩:=Qae h
 refine gn 7 [0,1,7,8] [] [nL Qad.enc s0] (QfP Γ rv h4 ?_)
 rcases e0 with e0|e0
 ·replace h:(some (-1):Option Int)=some _:=h
  obtain rfl:=Option.some.inj h
  exact gr 2 [] []
 ·obtain ⟨r1,rfl⟩:∃ x,x=e0:=⟨_,rfl⟩
  replace h:(some r1:Option Int)=some _:=h
  exact Option.some.inj h
theorem Qa3 {s0 c} {rv:Bool} (h:Qb6 s0 c=some rv):AFn Tryz.prog 212 [.one (lL 2 s0 Qad.enc),.one (.fn (.func 213) [.ip (Qab.enc c) 0])] [] (one (.bool rv)) []:=by
 refine QaG Tryz.func212 (by kernel_rfl) (by kernel_rfl) (fun Γ=>?_)
 unfold Qb6 at h
 obtain ⟨r,h0,h⟩:=Qae h
 obtain rfl:=Option.some.inj h
 exact gr 4 [] [cC (Qgd h0)]
theorem Qpg {v c} {rv:Bool} (h:Qoe v c=some rv):AFn Tryz.prog 214 [.agg (Qad.enc v),.one (.ip (Qab.enc c) 0)] [] (one (.bool rv)) []:=by
 refine QaG Tryz.func214 (by kernel_rfl) (by kernel_rfl) (fun Γ=>?_)
 unfold Qoe at h
 obtain ⟨x0,h0,h⟩:=Qae h
 obtain rfl:=Option.some.inj h
 exact gr 4 [] [cE Qac.enc h0]
def QdM (Γ:Gam) (rv:Int) (cf:Cf):Prop:=Go Tryz.prog Tryz.f240 [] Γ (one (lI rv)) [] cf
def Qda (Γ:Gam) (rv:Int) (s0:List Qad) (c:Qab) (v:Int):Prop:=QdM Γ rv ⟨[.c 52,.l 52,.b 0,.c 7],⟨19,[vL 0 2 s0 Qad.enc,(1,one (.fn (.func 214) [.ip (Qab.enc c) 0])),vI 7 (lenI s0),vI 8 v],[]⟩⟩
def Qc2 (Γ:Gam) (rv:Int) (s0:List Qad) (c:Qab):Prop:=QdM Γ rv ⟨[.c 7],⟨19,[],[]⟩⟩
theorem QfQ (Γ:Gam) (rv:Int) {s0 c} {s:Int} {e:(Unit)⊕(Int)} (h:QaX (fun s=>Qbs s0 c s) s=some e) (hD:sel e (fun e=>Qc2 Γ rv s0 c) (fun e=>e=rv)):Qda Γ rv s0 c s:=by
 refine QaA (C:=fun (s:Int)=>Qda Γ rv s0 c s) (D:=fun (e:(Unit)⊕(Int))=>sel e (fun e=>Qc2 Γ rv s0 c) (fun e=>e=rv)) ?_ h hD
 clear h hD s e
 intro v z_ h hI hE
 replace h:Qbs s0 c v=_:=h
 unfold Qbs at h
 rcases Qak h with ⟨h0,h⟩|⟨h0,h⟩
 ·obtain ⟨x0,h1,h⟩:=Qae h
  obtain ⟨r,h2,h⟩:=Qae h
  rcases Qak h with ⟨h3,h⟩|⟨h3,h⟩
  ·obtain rfl:=(hE _ (oJ h):_=rv)
   exact gr 14 [] [bT h0,cE Qad.enc h1,cC (Qpg h2),bT h3]
  ·exact gn 16 [0,1,7,8] [] [bT h0,cE Qad.enc h1,cC (Qpg h2),bF h3] (hI _ (oJ h))
 ·exact gn 5 [] [] [bF h0] (hE _ (oJ h))
theorem Qge {s0 c} {rv:Int} (h:Qcp s0 c=some rv):AFn Tryz.prog 240 [.one (lL 2 s0 Qad.enc),.one (.fn (.func 214) [.ip (Qab.enc c) 0])] [] (one (lI rv)) []:=by
 refine QaG Tryz.func240 (by kernel_rfl) (by kernel_rfl) (fun Γ=>?_)
 unfold Qcp at h
 obtain ⟨e0,h4,h⟩:=Qae h
 refine gn 7 [0,1,7,8] [] [nL Qad.enc s0] (QfQ Γ rv h4 ?_)
 rcases e0 with e0|e0
 ·replace h:(some (-1):Option Int)=some _:=h
  obtain rfl:=Option.some.inj h
  exact gr 2 [] []
 ·obtain ⟨r1,rfl⟩:∃ x,x=e0:=⟨_,rfl⟩
  replace h:(some r1:Option Int)=some _:=h
  exact Option.some.inj h
theorem Qbi {s0 c} {rv:Bool} (h:Qb7 s0 c=some rv):AFn Tryz.prog 212 [.one (lL 2 s0 Qad.enc),.one (.fn (.func 214) [.ip (Qab.enc c) 0])] [] (one (.bool rv)) []:=by
 refine QaG Tryz.func212 (by kernel_rfl) (by kernel_rfl) (fun Γ=>?_)
 unfold Qb7 at h
 obtain ⟨r,h0,h⟩:=Qae h
 obtain rfl:=Option.some.inj h
 exact gr 4 [] [cC (Qge h0)]
def Qke (Γ:Gam) (rv:Int) (cf:Cf):Prop:=Go Tryz.prog Tryz.f196 [] Γ (one (lI rv)) [] cf
def Qph (Γ:Gam) (rv:Int) (x0:Qab) (r:Qax) (v:Int):Prop:=Qke Γ rv ⟨[.c 500,.l 500,.b 1,.c 63],⟨65,[vP 2 0 6,vL 5 2 r.visits Qad.enc,vL 33 2 x0.apart Qav.enc,vI 34 (lenI x0.apart),vI 35 v],[oX 6 30 (Qab.enc x0)]⟩⟩
def Qof (Γ:Gam) (rv:Int) (x0:Qab) (r:Qax):Prop:=Qke Γ rv ⟨[.c 63],⟨65,[vP 2 0 6,vL 5 2 r.visits Qad.enc],[oX 6 30 (Qab.enc x0)]⟩⟩
def Qpi (Γ:Gam) (rv:Int) (x0:Qab) (r:Qax) (v1:Int):Prop:=Qke Γ rv ⟨[.c 1012,.l 1012,.b 3,.c 127],⟨65,[vL 5 2 r.visits Qad.enc,vL 51 2 x0.before Qav.enc,vI 52 (lenI x0.before),vI 53 v1],[]⟩⟩
def Qog (Γ:Gam) (rv:Int) (x0:Qab) (r:Qax):Prop:=Qke Γ rv ⟨[.c 127],⟨65,[],[]⟩⟩
theorem Qt8 (Γ:Gam) (rv:Int) {x0 r} {s:Int} {e:(Unit)⊕(Int)} (h:QaX (fun s=>Qje x0 r s) s=some e) (hD:sel e (fun e=>Qof Γ rv x0 r) (fun e=>e=rv)):Qph Γ rv x0 r s:=by
 refine QaA (C:=fun (s:Int)=>Qph Γ rv x0 r s) (D:=fun (e:(Unit)⊕(Int))=>sel e (fun e=>Qof Γ rv x0 r) (fun e=>e=rv)) ?_ h hD
 clear h hD s e
 intro v z_ h hI hE
 replace h:Qje x0 r v=_:=h
 unfold Qje at h
 rcases Qak h with ⟨h9,h⟩|⟨h9,h⟩
 ·obtain ⟨x1,h10,h⟩:=Qae h
  obtain ⟨r5,h11,h⟩:=Qae h
  rcases Qak h with ⟨h12,h⟩|⟨h12,h⟩
  ·obtain ⟨r6,h13,h⟩:=Qae h
   rcases Qak h with ⟨h14,h⟩|⟨h14,h⟩
   ·obtain rfl:=(hE _ (oJ h):_=rv)
    exact gr 14 [] [bT h9,cE Qav.enc h10,oO (zL 0),oO (lT 0 2),cC (QfF h11),rp 2 (bT h12),oO (zL 1),oO (lT 1 2),rp 2 (bT h12),cC (QfF h13),bT h12,bT h14]
   ·exact gn 16 [2,5,33,34,35] [0] [bT h9,cE Qav.enc h10,oO (zL 0),oO (lT 0 2),cC (QfF h11),rp 2 (bT h12),oO (zL 1),oO (lT 1 2),rp 2 (bT h12),cC (QfF h13),bT h12,bF h14] (hI _ (oJ h))
  ·exact gn 16 [2,5,33,34,35] [0] [bT h9,cE Qav.enc h10,oO (zL 0),oO (lT 0 2),cC (QfF h11),rp 5 (bF h12),fF] (hI _ (oJ h))
 ·exact gn 5 [2,5] [0] [bF h9] (hE _ (oJ h))
theorem Qt9 (Γ:Gam) (rv:Int) {x0 r} {s:Int} {e:(Unit)⊕(Int)} (h:QaX (fun s=>QhE x0 r s) s=some e) (hD:sel e (fun e=>Qog Γ rv x0 r) (fun e=>e=rv)):Qpi Γ rv x0 r s:=by
 refine QaA (C:=fun (s:Int)=>Qpi Γ rv x0 r s) (D:=fun (e:(Unit)⊕(Int))=>sel e (fun e=>Qog Γ rv x0 r) (fun e=>e=rv)) ?_ h hD
 clear h hD s e
 intro v1 z_ h hI hE
 replace h:QhE x0 r v1=_:=h
 unfold QhE at h
 rcases Qak h with ⟨h16,h⟩|⟨h16,h⟩
 ·obtain ⟨x2,h17,h⟩:=Qae h
  obtain ⟨r7,h18,h⟩:=Qae h
  rcases Qak h with ⟨h19,h⟩|⟨h19,h⟩
  ·exact gn 16 [5,51,52,53] [] [bT h16,cE Qav.enc h17,oO (zL 0),oO (lT 0 2),oO (zL 1),oO (lT 1 2),cC (Qqs h18),nF h19] (hI _ (oJ h))
  ·obtain rfl:=(hE _ (oJ h):_=rv)
   exact gr 14 [] [bT h16,cE Qav.enc h17,oO (zL 0),oO (lT 0 2),oO (zL 1),oO (lT 1 2),cC (Qqs h18),nT h19]
 ·exact gn 5 [] [] [bF h16] (hE _ (oJ h))
theorem QeE {x0 r} {rv:Int} (h:Qnp x0 r=some rv):AFn Tryz.prog 196 [.agg (Qab.enc x0),.agg (Qax.enc r)] [] (one (lI rv)) []:=by
 refine QaG Tryz.func196 (by kernel_rfl) (by kernel_rfl) (fun Γ=>?_)
 unfold Qnp at h
 rcases Qak h with ⟨h0,h⟩|⟨h0,h⟩
 ·obtain rfl:=Option.some.inj h
  exact gr 10 [] [nL Qad.enc r.visits,rp 4 (bT h0),tT]
 ·obtain ⟨r1,h1,h⟩:=Qae h
  rcases Qak h with ⟨h2,h⟩|⟨h2,h⟩
  ·obtain rfl:=Option.some.inj h
   exact gr 10 [] [nL Qad.enc r.visits,rp 3 (bF h0),cC (Qa3 h1),bF h0,bT h2]
  ·obtain ⟨r2,h3,h⟩:=Qae h
   rcases Qak h with ⟨h4,h⟩|⟨h4,h⟩
   ·obtain rfl:=Option.some.inj h
    exact gr 16 [] [nL Qad.enc r.visits,rp 3 (bF h0),cC (Qa3 h1),bF h0,bF h2,cC (Qbi h3),bT h4]
   ·obtain ⟨r3,h5,h⟩:=Qae h
    rcases Qak h with ⟨h6,h⟩|⟨h6,h⟩
    ·obtain rfl:=Option.some.inj h
     exact gr 19 [] [nL Qad.enc r.visits,rp 3 (bF h0),cC (Qa3 h1),bF h0,bF h2,cC (Qbi h3),bF h4,cC (Qmm h5),bT h6]
    ·obtain ⟨r4,h7,h⟩:=Qae h
     rcases Qak h with ⟨h8,h⟩|⟨h8,h⟩
     ·obtain ⟨e0,h15,h⟩:=Qae h
      refine gn 27 [2,5,33,34,35] [0] [nL Qad.enc r.visits,rp 3 (bF h0),cC (Qa3 h1),bF h0,bF h2,cC (Qbi h3),bF h4,cC (Qmm h5),bF h6,cC (Qqt h7),nF h8,nL Qav.enc x0.apart] (Qt8 Γ rv h15 ?_)
      rcases e0 with e0|e0
      ·replace h:(bnd (QaX (fun s=>QhE x0 r s) 0) (fun e=>sel e (fun (_:Unit)=>some 0) (fun r8=>some r8)):Option Int)=some _:=h
       obtain ⟨e1,h20,h⟩:=Qae h
       refine gn 5 [5,51,52,53] [] [nL Qav.enc x0.before] (Qt9 Γ rv h20 ?_)
       rcases e1 with e1|e1
       ·replace h:(some 0:Option Int)=some _:=h
        obtain rfl:=Option.some.inj h
        exact gr 2 [] []
       ·obtain ⟨r8,rfl⟩:∃ x,x=e1:=⟨_,rfl⟩
        replace h:(some r8:Option Int)=some _:=h
        exact Option.some.inj h
      ·obtain ⟨r9,rfl⟩:∃ x,x=e0:=⟨_,rfl⟩
       replace h:(some r9:Option Int)=some _:=h
       exact Option.some.inj h
     ·obtain rfl:=Option.some.inj h
      exact gr 22 [] [nL Qad.enc r.visits,rp 3 (bF h0),cC (Qa3 h1),bF h0,bF h2,cC (Qbi h3),bF h4,cC (Qmm h5),bF h6,cC (Qqt h7),nT h8]
def Qxb (Γ:Gam) (rv:Int) (cf:Cf):Prop:=Go Tryz.prog Tryz.f197 [] Γ (one (lI rv)) [] cf
def QtM (Γ:Gam) (rv:Int) (x0:Qab) (r:Qax) (v:Int):Prop:=Qxb Γ rv ⟨[.c 52,.l 52,.b 0,.c 7],⟨30,[vP 2 0 6,vP 3 1 4,vL 8 2 r.visits Qad.enc,vI 9 (lenI r.visits),vI 10 v],[oX 6 30 (Qab.enc x0),oX 4 48 (Qax.enc r)]⟩⟩
def QsM (Γ:Gam) (rv:Int) (x0:Qab) (r:Qax):Prop:=Qxb Γ rv ⟨[.c 7],⟨30,[],[]⟩⟩
theorem Qxc (Γ:Gam) (rv:Int) {x0 r} {s:Int} {e:(Unit)⊕(Int)} (h:QaX (fun s=>Qo3 x0 r s) s=some e) (hD:sel e (fun e=>QsM Γ rv x0 r) (fun e=>e=rv)):QtM Γ rv x0 r s:=by
 refine QaA (C:=fun (s:Int)=>QtM Γ rv x0 r s) (D:=fun (e:(Unit)⊕(Int))=>sel e (fun e=>QsM Γ rv x0 r) (fun e=>e=rv)) ?_ h hD
 clear h hD s e
 intro v z_ h hI hE
 replace h:Qo3 x0 r v=_:=h
 unfold Qo3 at h
 rcases Qak h with ⟨h0,h⟩|⟨h0,h⟩
 ·obtain ⟨x1,h1,h⟩:=Qae h
  obtain ⟨x2,h2,h⟩:=Qae h
  obtain ⟨x3,h3,h⟩:=Qae h
  obtain ⟨r1,h4,h⟩:=Qae h
  rcases Qak h with ⟨h5,h⟩|⟨h5,h⟩
  ·exact gn 16 [2,3,8,9,10] [0,1] [bT h0,cE Qad.enc h1,hH (.draw 15 []),cE Qaf.enc h2,cE Qac.enc h3,cC (Qjs h4),nF h5] (hI _ (oJ h))
  ·obtain rfl:=(hE _ (oJ h):_=rv)
   exact gr 14 [] [bT h0,cE Qad.enc h1,hH (.draw 15 []),cE Qaf.enc h2,cE Qac.enc h3,cC (Qjs h4),nT h5]
 ·exact gn 5 [] [] [bF h0] (hE _ (oJ h))
theorem Qo4 {x0 r} {rv:Int} (h:Qxa x0 r=some rv):AFn Tryz.prog 197 [.agg (Qab.enc x0),.agg (Qax.enc r)] [] (one (lI rv)) []:=by
 refine QaG Tryz.func197 (by kernel_rfl) (by kernel_rfl) (fun Γ=>?_)
 unfold Qxa at h
 obtain ⟨e0,h6,h⟩:=Qae h
 refine gn 7 [2,3,8,9,10] [0,1] [nL Qad.enc r.visits] (Qxc Γ rv h6 ?_)
 rcases e0 with e0|e0
 ·replace h:(some 0:Option Int)=some _:=h
  obtain rfl:=Option.some.inj h
  exact gr 2 [] []
 ·obtain ⟨r2,rfl⟩:∃ x,x=e0:=⟨_,rfl⟩
  replace h:(some r2:Option Int)=some _:=h
  exact Option.some.inj h
def QrH (Γ:Gam) (rv:Int×Int) (cf:Cf):Prop:=Go Tryz.prog Tryz.f244 [] Γ (.tup [.one (lI rv.1),.one (lI rv.2)]) [] cf
def Qoh (Γ:Gam) (rv:Int×Int) (r:Qax) (set_:Int) (v:Int):Prop:=QrH Γ rv ⟨[.c 116,.l 116,.b 0,.c 15],⟨29,[vI 4 set_,vL 8 2 r.visits Qad.enc,vI 9 (lenI r.visits),vI 10 v],[]⟩⟩
def Qm5 (Γ:Gam) (rv:Int×Int) (r:Qax) (set_1:Int):Prop:=QrH Γ rv ⟨[.c 15],⟨29,[vI 4 set_1],[]⟩⟩
theorem Qty (Γ:Gam) (rv:Int×Int) {r} {s:Int×Int} {e:(Int)⊕(Int×Int)} (h:QaX (fun s=>QiB r s.1 s.2) s=some e) (hD:sel e (fun e=>Qm5 Γ rv r e) (fun e=>e=rv)):Qoh Γ rv r s.1 s.2:=by
 refine QaA (C:=fun (s:Int×Int)=>Qoh Γ rv r s.1 s.2) (D:=fun (e:(Int)⊕(Int×Int))=>sel e (fun e=>Qm5 Γ rv r e) (fun e=>e=rv)) ?_ h hD
 clear h hD s e
 rintro ⟨set_,v⟩ z_ h hI hE
 replace h:QiB r set_ v=_:=h
 unfold QiB at h
 rcases Qak h with ⟨h0,h⟩|⟨h0,h⟩
 ·obtain ⟨x0,h1,h⟩:=Qae h
  rcases Qak h with ⟨h2,h⟩|⟨h2,h⟩
  ·obtain rfl:=(hE _ (oJ h):_=rv)
   exact gr 15 [] [bT h0,cE Qad.enc h1,rp 4 hP,rp 2 (oI ((ltI x0.order 0)=false)),oR True ((ltI x0.order 0)=false),bT h2]
  ·obtain ⟨h3,h⟩:=Qat h
   exact gn 18 [4,8,9,10] [] [bT h0,cE Qad.enc h1,rp 4 hP,rp 2 (oI ((ltI x0.order 0)=false)),oR True ((ltI x0.order 0)=false),bF h2,oO (h3)] (hI _ (oJ h))
 ·exact gn 5 [4] [] [bF h0] (hE _ (oJ h))
theorem Qqr {r} {rv:Int×Int} (h:Qpx r=some rv):AFn Tryz.prog 244 [.agg (Qax.enc r)] [] (.tup [.one (lI rv.1),.one (lI rv.2)]) []:=by
 refine QaG Tryz.func244 (by kernel_rfl) (by kernel_rfl) (fun Γ=>?_)
 unfold Qpx at h
 obtain ⟨e0,h4,h⟩:=Qae h
 refine gn 9 [4,8,9,10] [] [nL Qad.enc r.visits] (Qty Γ rv h4 ?_)
 rcases e0 with e0|e0
 ·obtain ⟨set_1,rfl⟩:∃ x,x=e0:=⟨_,rfl⟩
  replace h:(some (set_1,0):Option (Int×Int))=some _:=h
  obtain rfl:=Option.some.inj h
  exact gr 2 [] []
 ·obtain ⟨r1,rfl⟩:∃ x,x=e0:=⟨_,rfl⟩
  replace h:(some r1:Option (Int×Int))=some _:=h
  exact Option.some.inj h
theorem Qzc {a b} {rv:Int} (h:Qw0 a b=some rv):AFn Tryz.prog 262 [.one (lI a),.one (lI b)] [] (one (lI rv)) []:=by
 refine QaG Tryz.func262 (by kernel_rfl) (by kernel_rfl) (fun Γ=>?_)
 unfold Qw0 at h
 obtain rfl:=Option.some.inj h
 exact gr 4 [] []
def QnL (Γ:Gam) (rv:List Int×Int) (cf:Cf):Prop:=Go Tryz.prog Tryz.f261 [] Γ (.tup [.one (lL 1 rv.1 Qaw),.one (lI rv.2)]) [] cf
def Qkm (Γ:Gam) (rv:List Int×Int) (a:List Int) (b:List Int) (l:List Int) (l1:List Int) (v:Int):Prop:=QnL Γ rv ⟨[.c 244,.l 244,.b 0,.c 31],⟨38,[vL 0 1 a Qaw,vL 1 1 b Qaw,(2,one (.fn (.func 262) [])),vO 8 0 1 l1 Qaw,vI 19 (lenI a),vI 20 v],[oS 1 3 l1 Qaw]⟩⟩
def QjT (Γ:Gam) (rv:List Int×Int) (a:List Int) (b:List Int) (l:List Int) (l2:List Int):Prop:=QnL Γ rv ⟨[.c 31],⟨38,[vO 8 0 1 l2 Qaw],[oS 1 3 l2 Qaw]⟩⟩
theorem QqF (Γ:Gam) (rv:List Int×Int) {a b l} {s:List Int×Int} {e:List Int} (h:QaX (fun s=>QgM a b l s.1 s.2) s=some e) (hD:QjT Γ rv a b l e):Qkm Γ rv a b l s.1 s.2:=by
 refine QaA (C:=fun (s:List Int×Int)=>Qkm Γ rv a b l s.1 s.2) (D:=fun (e:List Int)=>QjT Γ rv a b l e) ?_ h hD
 clear h hD s e
 rintro ⟨l1,v⟩ z_ h hI hE
 replace h:QgM a b l l1 v=_:=h
 unfold QgM at h
 rcases Qak h with ⟨h2,h⟩|⟨h2,h⟩
 ·obtain ⟨x0,h3,h⟩:=Qae h
  obtain ⟨x1,h4,h⟩:=Qae h
  obtain ⟨r,h5,h⟩:=Qae h
  obtain ⟨x2,h6,h⟩:=Qae h
  exact gn 13 [0,1,2,8,19,20] [0] [bT h2,hH (.draw 13 []),cE Qaw h3,cE Qaw h4,cC (Qzc h5),oO (QiR h6),oO (QiQ Qaw h6),rE Qaw h6,hH (.rows ((setI l1 v r).map Qaw)),hH (.relen 0 ((setI l1 v r).map Qaw).length),oO (setM Qaw l1 v r),rp 2 (oO (QrM Qaw l1 v r))] (hI _ (oJ h))
 ·exact gn 5 [8] [0] [bF h2] (hE _ (oJ h))
theorem Qtj {a b} {rv:List Int×Int} (h:QkQ a b=some rv):AFn Tryz.prog 261 [.one (lL 1 a Qaw),.one (lL 1 b Qaw),.one (.fn (.func 262) [])] [] (.tup [.one (lL 1 rv.1 Qaw),.one (lI rv.2)]) []:=by
 refine QaG Tryz.func261 (by kernel_rfl) (by kernel_rfl) (fun Γ=>?_)
 unfold QkQ at h
 rcases Qak h with ⟨h0,h⟩|⟨h0,h⟩
 ·obtain rfl:=Option.some.inj h
  exact gr 8 [] [nL Qaw a,nL Qaw b,bT h0,hW 4,hH (.nilS 6 0 1)]
 ·obtain ⟨l,h1,h⟩:=Qae h
  obtain ⟨e0,h7,h⟩:=Qae h
  refine gn 14 [0,1,2,8,19,20] [0] [nL Qaw a,nL Qaw b,bF h0,nL Qaw a,hH (.cells [lI 0]),hH (.rows (l.map Qaw)),oO (mk1 h1),oO (mk2 h1),oO (mk3 h1),oO (mk4 h1),oO (mk5 Qaw h1),nL Qaw a] (QqF Γ rv h7 ?_)
  obtain ⟨l2,rfl⟩:∃ x,x=e0:=⟨_,rfl⟩
  replace h:(some (l2,0):Option (List Int×Int))=some _:=h
  obtain rfl:=Option.some.inj h
  exact gr 2 [] [hW 5,hH (.frz 0),rp 3 (eL l2 Qaw)]
theorem QtX {a b} {rv:List Int×Int} (h:Qwn a b=some rv):AFn Tryz.prog 246 [.one (lL 1 a Qaw),.one (lL 1 b Qaw)] [] (.tup [.one (lL 1 rv.1 Qaw),.one (lI rv.2)]) []:=by
 refine QaG Tryz.func246 (by kernel_rfl) (by kernel_rfl) (fun Γ=>?_)
 unfold Qwn at h
 obtain ⟨r,h0,h⟩:=Qae h
 obtain rfl:=Option.some.inj h
 exact gr 4 [] [cC (Qtj h0)]
def QvO (Γ:Gam) (rv:List Int) (cf:Cf):Prop:=Go Tryz.prog Tryz.f245 [] Γ (one (lL 1 rv Qaw)) [] cf
def Qr4 (Γ:Gam) (rv:List Int) (x0:Qab) (l:List Int) (r:List Int) (sum:List Int) (v:Int):Prop:=QvO Γ rv ⟨[.c 116,.l 116,.b 0,.c 15],⟨40,[vP 3 0 6,vL 7 1 sum Qaw,vL 13 1 r Qaw,vI 14 (lenI r),vI 15 v],[oX 6 30 (Qab.enc x0)]⟩⟩
def Qq2 (Γ:Gam) (rv:List Int) (x0:Qab) (l:List Int) (r:List Int) (sum1:List Int):Prop:=QvO Γ rv ⟨[.c 15],⟨40,[vL 7 1 sum1 Qaw],[]⟩⟩
theorem Qv1 (Γ:Gam) (rv:List Int) {x0 l r} {s:List Int×Int} {e:List Int} (h:QaX (fun s=>Qnc x0 l r s.1 s.2) s=some e) (hD:Qq2 Γ rv x0 l r e):Qr4 Γ rv x0 l r s.1 s.2:=by
 refine QaA (C:=fun (s:List Int×Int)=>Qr4 Γ rv x0 l r s.1 s.2) (D:=fun (e:List Int)=>Qq2 Γ rv x0 l r e) ?_ h hD
 clear h hD s e
 rintro ⟨sum,v⟩ z_ h hI hE
 replace h:Qnc x0 l r sum v=_:=h
 unfold Qnc at h
 rcases Qak h with ⟨h2,h⟩|⟨h2,h⟩
 ·obtain ⟨x1,h3,h⟩:=Qae h
  obtain ⟨x2,h4,h⟩:=Qae h
  rcases Qak h with ⟨h5,h⟩|⟨h5,h⟩
  ·obtain ⟨r1,h6,h⟩:=Qae h
   exact gn 16 [3,7,13,14,15] [0] [bT h2,cE Qaw h3,cE Qac.enc h4,bT h5,cE Qac.enc h4,cC (QtX h6)] (hI _ (oJ h))
  ·exact gn 16 [3,7,13,14,15] [0] [bT h2,cE Qaw h3,cE Qac.enc h4,bF h5] (hI _ (oJ h))
 ·exact gn 5 [7] [] [bF h2] (hE _ (oJ h))
theorem Qyd {x0 set_ dims} {rv:List Int} (h:Qvb x0 set_ dims=some rv):AFn Tryz.prog 245 [.agg (Qab.enc x0),.one (lI set_),.one (lI dims)] [] (one (lL 1 rv Qaw)) []:=by
 refine QaG Tryz.func245 (by kernel_rfl) (by kernel_rfl) (fun Γ=>?_)
 unfold Qvb at h
 obtain ⟨l,h0,h⟩:=Qae h
 obtain ⟨r,h1,h⟩:=Qae h
 obtain ⟨e0,h7,h⟩:=Qae h
 refine gn 9 [3,7,13,14,15] [0] [hH (.cells [lI 0]),hH (.rows (l.map Qaw)),oO (mk1 h0),oO (mk2 h0),oO (mk3 h0),oO (mk4 h0),oO (mk5 Qaw h0),cC (QpA h1),nL Qaw r,hW 3,hH (.frz 1),rp 2 (eL l Qaw)] (Qv1 Γ rv h7 ?_)
 obtain ⟨sum1,rfl⟩:∃ x,x=e0:=⟨_,rfl⟩
 replace h:(some sum1:Option (List Int))=some _:=h
 obtain rfl:=Option.some.inj h
 exact gr 2 [] []
theorem Qyp {a b} {rv:Int} (h:Qvg a b=some rv):AFn Tryz.prog 263 [.one (lI a),.one (lI b)] [] (one (lI rv)) []:=by
 refine QaG Tryz.func263 (by kernel_rfl) (by kernel_rfl) (fun Γ=>?_)
 unfold Qvg at h
 obtain rfl:=Option.some.inj h
 exact gr 4 [] []
def Qmz (Γ:Gam) (rv:List Int×Int) (cf:Cf):Prop:=Go Tryz.prog Tryz.f261 [] Γ (.tup [.one (lL 1 rv.1 Qaw),.one (lI rv.2)]) [] cf
def QjS (Γ:Gam) (rv:List Int×Int) (a:List Int) (b:List Int) (l:List Int) (l1:List Int) (v:Int):Prop:=Qmz Γ rv ⟨[.c 244,.l 244,.b 0,.c 31],⟨38,[vL 0 1 a Qaw,vL 1 1 b Qaw,(2,one (.fn (.func 263) [])),vO 8 0 1 l1 Qaw,vI 19 (lenI a),vI 20 v],[oS 1 3 l1 Qaw]⟩⟩
def Qju (Γ:Gam) (rv:List Int×Int) (a:List Int) (b:List Int) (l:List Int) (l2:List Int):Prop:=Qmz Γ rv ⟨[.c 31],⟨38,[vO 8 0 1 l2 Qaw],[oS 1 3 l2 Qaw]⟩⟩
theorem QpJ (Γ:Gam) (rv:List Int×Int) {a b l} {s:List Int×Int} {e:List Int} (h:QaX (fun s=>Qgn a b l s.1 s.2) s=some e) (hD:Qju Γ rv a b l e):QjS Γ rv a b l s.1 s.2:=by
 refine QaA (C:=fun (s:List Int×Int)=>QjS Γ rv a b l s.1 s.2) (D:=fun (e:List Int)=>Qju Γ rv a b l e) ?_ h hD
 clear h hD s e
 rintro ⟨l1,v⟩ z_ h hI hE
 replace h:Qgn a b l l1 v=_:=h
 unfold Qgn at h
 rcases Qak h with ⟨h2,h⟩|⟨h2,h⟩
 ·obtain ⟨x0,h3,h⟩:=Qae h
  obtain ⟨x1,h4,h⟩:=Qae h
  obtain ⟨r,h5,h⟩:=Qae h
  obtain ⟨x2,h6,h⟩:=Qae h
  exact gn 13 [0,1,2,8,19,20] [0] [bT h2,hH (.draw 13 []),cE Qaw h3,cE Qaw h4,cC (Qyp h5),oO (QiR h6),oO (QiQ Qaw h6),rE Qaw h6,hH (.rows ((setI l1 v r).map Qaw)),hH (.relen 0 ((setI l1 v r).map Qaw).length),oO (setM Qaw l1 v r),rp 2 (oO (QrM Qaw l1 v r))] (hI _ (oJ h))
 ·exact gn 5 [8] [0] [bF h2] (hE _ (oJ h))
theorem Qsg {a b} {rv:List Int×Int} (h:QjR a b=some rv):AFn Tryz.prog 261 [.one (lL 1 a Qaw),.one (lL 1 b Qaw),.one (.fn (.func 263) [])] [] (.tup [.one (lL 1 rv.1 Qaw),.one (lI rv.2)]) []:=by
 refine QaG Tryz.func261 (by kernel_rfl) (by kernel_rfl) (fun Γ=>?_)
 unfold QjR at h
 rcases Qak h with ⟨h0,h⟩|⟨h0,h⟩
 ·obtain rfl:=Option.some.inj h
  exact gr 8 [] [nL Qaw a,nL Qaw b,bT h0,hW 4,hH (.nilS 6 0 1)]
 ·obtain ⟨l,h1,h⟩:=Qae h
  obtain ⟨e0,h7,h⟩:=Qae h
  refine gn 14 [0,1,2,8,19,20] [0] [nL Qaw a,nL Qaw b,bF h0,nL Qaw a,hH (.cells [lI 0]),hH (.rows (l.map Qaw)),oO (mk1 h1),oO (mk2 h1),oO (mk3 h1),oO (mk4 h1),oO (mk5 Qaw h1),nL Qaw a] (QpJ Γ rv h7 ?_)
  obtain ⟨l2,rfl⟩:∃ x,x=e0:=⟨_,rfl⟩
  replace h:(some (l2,0):Option (List Int×Int))=some _:=h
  obtain rfl:=Option.some.inj h
  exact gr 2 [] [hW 5,hH (.frz 0),rp 3 (eL l2 Qaw)]
theorem QwZ {a b} {rv:List Int×Int} (h:Qyo a b=some rv):AFn Tryz.prog 247 [.one (lL 1 a Qaw),.one (lL 1 b Qaw)] [] (.tup [.one (lL 1 rv.1 Qaw),.one (lI rv.2)]) []:=by
 refine QaG Tryz.func247 (by kernel_rfl) (by kernel_rfl) (fun Γ=>?_)
 unfold Qyo at h
 obtain ⟨r,h0,h⟩:=Qae h
 obtain rfl:=Option.some.inj h
 exact gr 4 [] [cC (Qsg h0)]
def QvN (Γ:Gam) (rv:List (List Int)×Int) (cf:Cf):Prop:=Go Tryz.prog Tryz.f219 [] Γ (.tup [.one (lL 1 rv.1 QdN),.one (lI rv.2)]) [] cf
def Qr3 (Γ:Gam) (rv:List (List Int)×Int) (x0:Qab) (r:Qax) (l:List (List Int)) (now:List Int) (v:Int):Prop:=QvN Γ rv ⟨[.c 2036,.l 2036,.b 0,.c 255],⟨67,[vP 2 0 6,vL 9 1 now Qaw,vO 10 1 1 l QdN,vL 37 2 r.visits Qad.enc,vI 38 (lenI r.visits),vI 39 v],[oX 6 30 (Qab.enc x0),oS 1 52 l QdN]⟩⟩
def Qq1 (Γ:Gam) (rv:List (List Int)×Int) (x0:Qab) (r:Qax) (l1:List (List Int)):Prop:=QvN Γ rv ⟨[.c 255],⟨67,[vO 10 0 1 l1 QdN],[oS 1 52 l1 QdN]⟩⟩
theorem Qv0 (Γ:Gam) (rv:List (List Int)×Int) {x0 r} {s:List (List Int)×List Int×Int} {e:(List (List Int))⊕(List (List Int)×Int)} (h:QaX (fun s=>Qnb x0 r s.1 s.2.1 s.2.2) s=some e) (hD:sel e (fun e=>Qq1 Γ rv x0 r e) (fun e=>e=rv)):Qr3 Γ rv x0 r s.1 s.2.1 s.2.2:=by
 refine QaA (C:=fun (s:List (List Int)×List Int×Int)=>Qr3 Γ rv x0 r s.1 s.2.1 s.2.2) (D:=fun (e:(List (List Int))⊕(List (List Int)×Int))=>sel e (fun e=>Qq1 Γ rv x0 r e) (fun e=>e=rv)) ?_ h hD
 clear h hD s e
 rintro ⟨l,now,v⟩ z_ h hI hE
 replace h:Qnb x0 r l now v=_:=h
 unfold Qnb at h
 rcases Qak h with ⟨h6,h⟩|⟨h6,h⟩
 ·obtain ⟨x1,h7,h⟩:=Qae h
  rcases Qak h with ⟨h8,h⟩|⟨h8,h⟩
  ·obtain ⟨x2,h9,h⟩:=Qae h
   obtain ⟨r5,h10,h⟩:=Qae h
   rcases Qak h with ⟨h11,h⟩|⟨h11,h⟩
   ·obtain rfl:=(hE _ (oJ h):_=rv)
    exact gr 24 [] [bT h6,cE Qad.enc h7,bT h8,cE Qac.enc h9,cC (QwZ h10),bT h11,hW 5,hH (.nilS 4 0 1)]
   ·obtain ⟨h12,h⟩:=Qat h
    exact gn 27 [2,9,10,37,38,39] [0,4] [bT h6,cE Qad.enc h7,bT h8,cE Qac.enc h9,cC (QwZ h10),bF h11,oO (Eq.refl ([r5.1].map QdN).length),aO QdN h12] (hI _ (oJ h))
  ·obtain ⟨x3,h13,h⟩:=Qae h
   obtain ⟨r6,h14,h⟩:=Qae h
   rcases Qak h with ⟨h15,h⟩|⟨h15,h⟩
   ·obtain rfl:=(hE _ (oJ h):_=rv)
    exact gr 24 [] [bT h6,cE Qad.enc h7,bF h8,cE Qac.enc h13,cC (QtX h14),bT h15,hW 5,hH (.nilS 4 0 1)]
   ·obtain ⟨h16,h⟩:=Qat h
    exact gn 27 [2,9,10,37,38,39] [0,4] [bT h6,cE Qad.enc h7,bF h8,cE Qac.enc h13,cC (QtX h14),bF h15,oO (Eq.refl ([r6.1].map QdN).length),aO QdN h16] (hI _ (oJ h))
 ·exact gn 5 [10] [1] [bF h6] (hE _ (oJ h))
theorem QqC {x0 r} {rv:List (List Int)×Int} (h:Qva x0 r=some rv):AFn Tryz.prog 219 [.agg (Qab.enc x0),.agg (Qax.enc r)] [] (.tup [.one (lL 1 rv.1 QdN),.one (lI rv.2)]) []:=by
 refine QaG Tryz.func219 (by kernel_rfl) (by kernel_rfl) (fun Γ=>?_)
 unfold Qva at h
 obtain ⟨r1,h0,h⟩:=Qae h
 rcases Qak h with ⟨h1,h⟩|⟨h1,h⟩
 ·obtain rfl:=Option.some.inj h
  exact gr 10 [] [cC (QeE h0),bT h1,hW 5,hH (.nilS 4 0 1)]
 ·obtain ⟨r2,h2,h⟩:=Qae h
  rcases Qak h with ⟨h3,h⟩|⟨h3,h⟩
  ·obtain rfl:=Option.some.inj h
   exact gr 17 [] [cC (QeE h0),bF h1,cC (Qqr h2),bT h3,hW 5,hH (.nilS 4 0 1)]
  ·obtain ⟨r3,h4,h⟩:=Qae h
   obtain ⟨r4,h5,h⟩:=Qae h
   obtain ⟨e0,h17,h⟩:=Qae h
   refine gn 25 [2,9,10,37,38,39] [0,2] [cC (QeE h0),bF h1,cC (Qqr h2),bF h3,hH (.draw 7 []),cC (QvS h4),cC (Qyd h5),nL Qad.enc r.visits] (Qv0 Γ rv h17 ?_)
   rcases e0 with e0|e0
   ·obtain ⟨l1,rfl⟩:∃ x,x=e0:=⟨_,rfl⟩
    replace h:(some (l1,0):Option (List (List Int)×Int))=some _:=h
    obtain rfl:=Option.some.inj h
    exact gr 2 [] [hW 5,hH (.frz 0),rp 3 (eL l1 QdN)]
   ·obtain ⟨r7,rfl⟩:∃ x,x=e0:=⟨_,rfl⟩
    replace h:(some r7:Option (List (List Int)×Int))=some _:=h
    exact Option.some.inj h
def QwX (Γ:Gam) (rv:Bool) (cf:Cf):Prop:=Go Tryz.prog Tryz.f222 [] Γ (one (.bool rv)) [] cf
def QtH (Γ:Gam) (rv:Bool) (a:List Int) (capacity:List Int) (v:Int):Prop:=QwX Γ rv ⟨[.c 116,.l 116,.b 0,.c 15],⟨26,[vL 1 1 capacity Qaw,vL 12 1 a Qaw,vI 13 (lenI a),vI 14 v],[]⟩⟩
def Qse (Γ:Gam) (rv:Bool) (a:List Int) (capacity:List Int):Prop:=QwX Γ rv ⟨[.c 15],⟨26,[],[]⟩⟩
theorem QwY (Γ:Gam) (rv:Bool) {a capacity} {s:Int} {e:(Unit)⊕(Bool)} (h:QaX (fun s=>QoJ a capacity s) s=some e) (hD:sel e (fun e=>Qse Γ rv a capacity) (fun e=>e=rv)):QtH Γ rv a capacity s:=by
 refine QaA (C:=fun (s:Int)=>QtH Γ rv a capacity s) (D:=fun (e:(Unit)⊕(Bool))=>sel e (fun e=>Qse Γ rv a capacity) (fun e=>e=rv)) ?_ h hD
 clear h hD s e
 intro v z_ h hI hE
 replace h:QoJ a capacity v=_:=h
 unfold QoJ at h
 rcases Qak h with ⟨h1,h⟩|⟨h1,h⟩
 ·obtain ⟨x0,h2,h⟩:=Qae h
  obtain ⟨x1,h3,h⟩:=Qae h
  rcases Qak h with ⟨h4,h⟩|⟨h4,h⟩
  ·obtain rfl:=(hE _ (oJ h):_=rv)
   exact gr 14 [] [bT h1,cE Qaw h2,cE Qaw h3,bT h4]
  ·exact gn 16 [1,12,13,14] [] [bT h1,cE Qaw h2,cE Qaw h3,bF h4] (hI _ (oJ h))
 ·exact gn 5 [] [] [bF h1] (hE _ (oJ h))
theorem Qzb {a capacity} {rv:Bool} (h:QwW a capacity=some rv):AFn Tryz.prog 222 [.one (lL 1 a Qaw),.one (lL 1 capacity Qaw)] [] (one (.bool rv)) []:=by
 refine QaG Tryz.func222 (by kernel_rfl) (by kernel_rfl) (fun Γ=>?_)
 unfold QwW at h
 rcases Qak h with ⟨h0,h⟩|⟨h0,h⟩
 ·obtain rfl:=Option.some.inj h
  exact gr 8 [] [nL Qaw a,nL Qaw capacity,bT h0]
 ·obtain ⟨e0,h5,h⟩:=Qae h
  refine gn 12 [1,12,13,14] [] [nL Qaw a,nL Qaw capacity,bF h0,nL Qaw a] (QwY Γ rv h5 ?_)
  rcases e0 with e0|e0
  ·replace h:(some true:Option Bool)=some _:=h
   obtain rfl:=Option.some.inj h
   exact gr 2 [] []
  ·obtain ⟨r,rfl⟩:∃ x,x=e0:=⟨_,rfl⟩
   replace h:(some r:Option Bool)=some _:=h
   exact Option.some.inj h
theorem QtD {a c c1} {rv:Bool} (h:QtR a c c1=some rv):AFn Tryz.prog 221 [.one (lL 1 a Qaw),.one (.ip (Qab.enc c) 0),.one (.ip (Qax.enc c1) 0)] [] (one (.bool rv)) []:=by
 refine QaG Tryz.func221 (by kernel_rfl) (by kernel_rfl) (fun Γ=>?_)
 unfold QtR at h
 obtain ⟨x0,h0,h⟩:=Qae h
 obtain ⟨r,h1,h⟩:=Qae h
 obtain rfl:=Option.some.inj h
 exact gr 4 [] [cE Qaf.enc h0,cC (Qzb h1)]
def Qfc (Γ:Gam) (rv:Int) (cf:Cf):Prop:=Go Tryz.prog Tryz.f248 [] Γ (one (lI rv)) [] cf
def QeG (Γ:Gam) (rv:Int) (s0:List (List Int)) (c:Qab) (c1:Qax) (v:Int):Prop:=Qfc Γ rv ⟨[.c 52,.l 52,.b 0,.c 7],⟨19,[vL 0 1 s0 QdN,(1,one (.fn (.func 221) [.ip (Qab.enc c) 0,.ip (Qax.enc c1) 0])),vI 7 (lenI s0),vI 8 v],[]⟩⟩
def Qev (Γ:Gam) (rv:Int) (s0:List (List Int)) (c:Qab) (c1:Qax):Prop:=Qfc Γ rv ⟨[.c 7],⟨19,[],[]⟩⟩
theorem Qhu (Γ:Gam) (rv:Int) {s0 c c1} {s:Int} {e:(Unit)⊕(Int)} (h:QaX (fun s=>Qb5 s0 c c1 s) s=some e) (hD:sel e (fun e=>Qev Γ rv s0 c c1) (fun e=>e=rv)):QeG Γ rv s0 c c1 s:=by
 refine QaA (C:=fun (s:Int)=>QeG Γ rv s0 c c1 s) (D:=fun (e:(Unit)⊕(Int))=>sel e (fun e=>Qev Γ rv s0 c c1) (fun e=>e=rv)) ?_ h hD
 clear h hD s e
 intro v z_ h hI hE
 replace h:Qb5 s0 c c1 v=_:=h
 unfold Qb5 at h
 rcases Qak h with ⟨h0,h⟩|⟨h0,h⟩
 ·obtain ⟨x0,h1,h⟩:=Qae h
  obtain ⟨r,h2,h⟩:=Qae h
  rcases Qak h with ⟨h3,h⟩|⟨h3,h⟩
  ·obtain rfl:=(hE _ (oJ h):_=rv)
   exact gr 14 [] [bT h0,cE QdN h1,cC (QtD h2),bT h3]
  ·exact gn 16 [0,1,7,8] [] [bT h0,cE QdN h1,cC (QtD h2),bF h3] (hI _ (oJ h))
 ·exact gn 5 [] [] [bF h0] (hE _ (oJ h))
theorem Qh4 {s0 c c1} {rv:Int} (h:Qdw s0 c c1=some rv):AFn Tryz.prog 248 [.one (lL 1 s0 QdN),.one (.fn (.func 221) [.ip (Qab.enc c) 0,.ip (Qax.enc c1) 0])] [] (one (lI rv)) []:=by
 refine QaG Tryz.func248 (by kernel_rfl) (by kernel_rfl) (fun Γ=>?_)
 unfold Qdw at h
 obtain ⟨e0,h4,h⟩:=Qae h
 refine gn 7 [0,1,7,8] [] [nL QdN s0] (Qhu Γ rv h4 ?_)
 rcases e0 with e0|e0
 ·replace h:(some (-1):Option Int)=some _:=h
  obtain rfl:=Option.some.inj h
  exact gr 2 [] []
 ·obtain ⟨r1,rfl⟩:∃ x,x=e0:=⟨_,rfl⟩
  replace h:(some r1:Option Int)=some _:=h
  exact Option.some.inj h
theorem Qeu {s0 c c1} {rv:Bool} (h:QcX s0 c c1=some rv):AFn Tryz.prog 220 [.one (lL 1 s0 QdN),.one (.fn (.func 221) [.ip (Qab.enc c) 0,.ip (Qax.enc c1) 0])] [] (one (.bool rv)) []:=by
 refine QaG Tryz.func220 (by kernel_rfl) (by kernel_rfl) (fun Γ=>?_)
 unfold QcX at h
 obtain ⟨r,h0,h⟩:=Qae h
 obtain rfl:=Option.some.inj h
 exact gr 4 [] [cC (Qh4 h0)]
theorem Qr2 {x0 r} {rv:Int} (h:QwB x0 r=some rv):AFn Tryz.prog 198 [.agg (Qab.enc x0),.agg (Qax.enc r)] [] (one (lI rv)) []:=by
 refine QaG Tryz.func198 (by kernel_rfl) (by kernel_rfl) (fun Γ=>?_)
 unfold QwB at h
 rcases Qak h with ⟨h0,h⟩|⟨h0,h⟩
 ·obtain rfl:=Option.some.inj h
  exact gr 8 [] [rp 5 hP,rp 3 (oI ((ltI r.type_ 0)=false)),nL Qaf.enc x0.types,hP,hP,rp 2 (oI ((ltI r.type_ 0)=false)),oR True ((ltI r.type_ 0)=false),bT h0]
 ·obtain ⟨r1,h1,h⟩:=Qae h
  rcases Qak h with ⟨h2,h⟩|⟨h2,h⟩
  ·obtain rfl:=Option.some.inj h
   exact gr 15 [] [rp 5 hP,rp 3 (oI ((ltI r.type_ 0)=false)),nL Qaf.enc x0.types,hP,hP,rp 2 (oI ((ltI r.type_ 0)=false)),oR True ((ltI r.type_ 0)=false),bF h0,cC (QqC h1),bT h2]
  ·obtain ⟨r2,h3,h⟩:=Qae h
   rcases Qak h with ⟨h4,h⟩|⟨h4,h⟩
   ·obtain rfl:=Option.some.inj h
    exact gr 20 [] [rp 5 hP,rp 3 (oI ((ltI r.type_ 0)=false)),nL Qaf.enc x0.types,hP,hP,rp 2 (oI ((ltI r.type_ 0)=false)),oR True ((ltI r.type_ 0)=false),bF h0,cC (QqC h1),bF h2,cC (Qeu h3),bT h4]
   ·obtain rfl:=Option.some.inj h
    exact gr 21 [] [rp 5 hP,rp 3 (oI ((ltI r.type_ 0)=false)),nL Qaf.enc x0.types,hP,hP,rp 2 (oI ((ltI r.type_ 0)=false)),oR True ((ltI r.type_ 0)=false),bF h0,cC (QqC h1),bF h2,cC (Qeu h3),bF h4]
def QzP (Γ:Gam) (rv:Qap×Int) (cf:Cf):Prop:=Go Tryz.prog Tryz.f142 [] Γ (.tup [.agg [lI rv.1.place,lI rv.1.open_,lI rv.1.close,lI rv.1.service],.one (lI rv.2)]) [] cf
theorem QsG (Γ:Gam) (rv:Qap×Int) {x1} (h:QoY x1=some rv):QzP Γ rv ⟨[.c 31],⟨32,[vP 4 0 4,vP 6 1 4],[oX 4 54 [lI 0,lI 0,lI 0,lI 0],oX 4 54 (Qap.enc x1)]⟩⟩:=by
 unfold QoY at h
 rcases Qak h with ⟨h4,h⟩|⟨h4,h⟩
 ·obtain rfl:=Option.some.inj h
  exact gr 6 [] [bT h4]
 ·obtain rfl:=Option.some.inj h
  exact gr 7 [] [bF h4]
theorem Ql6 {l v} {rv:Qap×Int} (h:QuD l v=some rv):AFn Tryz.prog 142 [.one (lL 16 l Qac.enc),.agg (Qad.enc v)] [] (.tup [.agg [lI rv.1.place,lI rv.1.open_,lI rv.1.close,lI rv.1.service],.one (lI rv.2)]) []:=by
 refine QaG Tryz.func142 (by kernel_rfl) (by kernel_rfl) (fun Γ=>?_)
 unfold QuD at h
 obtain ⟨r,h0,h⟩:=Qae h
 rcases Qak h with ⟨h1,h⟩|⟨h1,h⟩
 ·obtain ⟨x0,h2,h⟩:=Qae h
  rcases Qak h with ⟨h3,h⟩|⟨h3,h⟩
  ·exact gn 14 [4,6] [1,2] [cC (Qix h0),nF h1,cE Qac.enc h2,bT h3,cE Qac.enc h2] (QsG Γ rv h)
  ·exact gn 14 [4,6] [1,2] [cC (Qix h0),nF h1,cE Qac.enc h2,bF h3] (QsG Γ rv h)
 ·obtain rfl:=Option.some.inj h
  exact gr 8 [] [cC (Qix h0),nT h1]
def QwJ (Γ:Gam) (rv:QaE×Bool) (cf:Cf):Prop:=Go Tryz.prog Tryz.f223 [] Γ (.tup [.agg [lL 1 rv.1.x.net.places QeA,lL 6 rv.1.x.net.arcs Qai.enc,lL 14 rv.1.x.types Qaf.enc,lL 16 rv.1.x.orders Qac.enc,lL 2 rv.1.x.apart Qav.enc,lL 2 rv.1.x.before Qav.enc,.str rv.1.t.name,lI rv.1.t.count,lI rv.1.t.from_,lI rv.1.t.to_,lL 1 rv.1.t.cap Qaw,lI rv.1.t.skills,lI rv.1.t.profile,lI rv.1.t.open_,lI rv.1.t.close,lI rv.1.t.drive,lI rv.1.t.rest_,lI rv.1.t.fixed,lI rv.1.t.perMile,lI rv.1.t.perTick,lI rv.1.r.type_,lI rv.1.r.start,lL 1 rv.1.r.rests Qff,lL 2 rv.1.r.visits Qad.enc,lL 4 rv.1.stops Qap.enc],.one (.bool rv.2)]) [] cf
def QtG (Γ:Gam) (rv:QaE×Bool) (x0:Qab) (r:Qax) (x1:Qaf) (l:List Qap) (v:Int):Prop:=QwJ Γ rv ⟨[.c 244,.l 244,.b 0,.c 31],⟨78,[vP 2 0 6,vP 4 1 25,vP 6 2 25,vL 49 2 r.visits Qad.enc,vI 50 (lenI r.visits),vI 51 v],[oX 6 30 (Qab.enc x0),oX 25 232 [.nils,.nils,.nils,.nils,.nils,.nils,.str ByteArray.empty,lI 0,lI 0,lI 0,.nils,lI 0,lI 0,lI 0,lI 0,lI 0,lI 0,lI 0,lI 0,lI 0,lI 0,lI 0,.nils,.nils,.nils],oX 25 232 [lL 1 x0.net.places QeA,lL 6 x0.net.arcs Qai.enc,lL 14 x0.types Qaf.enc,lL 16 x0.orders Qac.enc,lL 2 x0.apart Qav.enc,lL 2 x0.before Qav.enc,.str x1.name,lI x1.count,lI x1.from_,lI x1.to_,lL 1 x1.cap Qaw,lI x1.skills,lI x1.profile,lI x1.open_,lI x1.close,lI x1.drive,lI x1.rest_,lI x1.fixed,lI x1.perMile,lI x1.perTick,lI r.type_,lI r.start,lL 1 r.rests Qff,lL 2 r.visits Qad.enc,lO 3 4 l Qap.enc],oS 4 54 l Qap.enc]⟩⟩
def Qr8 (Γ:Gam) (rv:QaE×Bool) (x0:Qab) (r:Qax) (x1:Qaf) (l1:List Qap):Prop:=QwJ Γ rv ⟨[.c 31],⟨78,[vP 4 0 25,vP 6 1 25],[oX 25 232 [.nils,.nils,.nils,.nils,.nils,.nils,.str ByteArray.empty,lI 0,lI 0,lI 0,.nils,lI 0,lI 0,lI 0,lI 0,lI 0,lI 0,lI 0,lI 0,lI 0,lI 0,lI 0,.nils,.nils,.nils],oX 25 232 [lL 1 x0.net.places QeA,lL 6 x0.net.arcs Qai.enc,lL 14 x0.types Qaf.enc,lL 16 x0.orders Qac.enc,lL 2 x0.apart Qav.enc,lL 2 x0.before Qav.enc,.str x1.name,lI x1.count,lI x1.from_,lI x1.to_,lL 1 x1.cap Qaw,lI x1.skills,lI x1.profile,lI x1.open_,lI x1.close,lI x1.drive,lI x1.rest_,lI x1.fixed,lI x1.perMile,lI x1.perTick,lI r.type_,lI r.start,lL 1 r.rests Qff,lL 2 r.visits Qad.enc,lO 2 4 l1 Qap.enc],oS 4 54 l1 Qap.enc]⟩⟩
theorem QwK (Γ:Gam) (rv:QaE×Bool) {x0 r x1} {s:List Qap×Int} {e:(List Qap)⊕(QaE×Bool)} (h:QaX (fun s=>QoF x0 r x1 s.1 s.2) s=some e) (hD:sel e (fun e=>Qr8 Γ rv x0 r x1 e) (fun e=>e=rv)):QtG Γ rv x0 r x1 s.1 s.2:=by
 refine QaA (C:=fun (s:List Qap×Int)=>QtG Γ rv x0 r x1 s.1 s.2) (D:=fun (e:(List Qap)⊕(QaE×Bool))=>sel e (fun e=>Qr8 Γ rv x0 r x1 e) (fun e=>e=rv)) ?_ h hD
 clear h hD s e
 rintro ⟨l,v⟩ z_ h hI hE
 replace h:QoF x0 r x1 l v=_:=h
 unfold QoF at h
 rcases Qak h with ⟨h2,h⟩|⟨h2,h⟩
 ·obtain ⟨x2,h3,h⟩:=Qae h
  obtain ⟨r1,h4,h⟩:=Qae h
  rcases Qak h with ⟨h5,h⟩|⟨h5,h⟩
  ·obtain rfl:=(hE _ (oJ h):_=rv)
   exact gr 17 [] [bT h2,cE Qad.enc h3,cC (Ql6 h4),rp 4 hP,rp 2 (oI ((neI r1.2 0)=false)),oR True ((neI r1.2 0)=false),bT h5,hW 5,hH (.nilB 1 0 1),hH (.nilB 1 1 6),hH (.nilB 1 2 14),hH (.nilB 1 3 16),hH (.nilB 1 4 2),hH (.nilB 1 5 2),hH (.nilB 1 10 1),hH (.nilB 1 22 1),hH (.nilB 1 23 2),hH (.nilB 1 24 4)]
  ·obtain ⟨h6,h⟩:=Qat h
   exact gn 20 [2,4,6,49,50,51] [0,1,2,7] [bT h2,cE Qad.enc h3,cC (Ql6 h4),rp 4 hP,rp 2 (oI ((neI r1.2 0)=false)),oR True ((neI r1.2 0)=false),bF h5,oO (Eq.refl ([r1.1].map Qap.enc).length),aO Qap.enc h6] (hI _ (oJ h))
 ·exact gn 5 [4,6] [1,2,3] [bF h2] (hE _ (oJ h))
theorem QvR {x0 r} {rv:QaE×Bool} (h:QwI x0 r=some rv):AFn Tryz.prog 223 [.agg (Qab.enc x0),.agg (Qax.enc r)] [] (.tup [.agg [lL 1 rv.1.x.net.places QeA,lL 6 rv.1.x.net.arcs Qai.enc,lL 14 rv.1.x.types Qaf.enc,lL 16 rv.1.x.orders Qac.enc,lL 2 rv.1.x.apart Qav.enc,lL 2 rv.1.x.before Qav.enc,.str rv.1.t.name,lI rv.1.t.count,lI rv.1.t.from_,lI rv.1.t.to_,lL 1 rv.1.t.cap Qaw,lI rv.1.t.skills,lI rv.1.t.profile,lI rv.1.t.open_,lI rv.1.t.close,lI rv.1.t.drive,lI rv.1.t.rest_,lI rv.1.t.fixed,lI rv.1.t.perMile,lI rv.1.t.perTick,lI rv.1.r.type_,lI rv.1.r.start,lL 1 rv.1.r.rests Qff,lL 2 rv.1.r.visits Qad.enc,lL 4 rv.1.stops Qap.enc],.one (.bool rv.2)]) []:=by
 refine QaG Tryz.func223 (by kernel_rfl) (by kernel_rfl) (fun Γ=>?_)
 unfold QwI at h
 rcases Qak h with ⟨h0,h⟩|⟨h0,h⟩
 ·obtain rfl:=Option.some.inj h
  exact gr 8 [] [rp 5 hP,rp 3 (oI ((ltI r.type_ 0)=false)),nL Qaf.enc x0.types,rp 13 hP,rp 2 (oI ((ltI r.type_ 0)=false)),oR True ((ltI r.type_ 0)=false),rp 2 (oI (((ltI r.type_ 0)||(geI r.type_ (lenI x0.types)))=false)),oR True (((ltI r.type_ 0)||(geI r.type_ (lenI x0.types)))=false),rp 2 (oI ((((ltI r.type_ 0)||(geI r.type_ (lenI x0.types)))||(ltI r.start 0))=false)),oR True ((((ltI r.type_ 0)||(geI r.type_ (lenI x0.types)))||(ltI r.start 0))=false),rp 2 (oI (((((ltI r.type_ 0)||(geI r.type_ (lenI x0.types)))||(ltI r.start 0))||(gtI r.start 4096))=false)),nL Qad.enc r.visits,hP,hP,oI (((((ltI r.type_ 0)||(geI r.type_ (lenI x0.types)))||(ltI r.start 0))||(gtI r.start 4096))=false),oR True (((((ltI r.type_ 0)||(geI r.type_ (lenI x0.types)))||(ltI r.start 0))||(gtI r.start 4096))=false),bT h0,hW 5,hH (.nilB 2 0 1),hH (.nilB 2 1 6),hH (.nilB 2 2 14),hH (.nilB 2 3 16),hH (.nilB 2 4 2),hH (.nilB 2 5 2),hH (.nilB 2 10 1),hH (.nilB 2 22 1),hH (.nilB 2 23 2),hH (.nilB 2 24 4)]
 ·obtain ⟨x1,h1,h⟩:=Qae h
  obtain ⟨e0,h7,h⟩:=Qae h
  refine gn 14 [2,4,6,49,50,51] [0,2,3,4] [rp 5 hP,rp 3 (oI ((ltI r.type_ 0)=false)),nL Qaf.enc x0.types,rp 13 hP,rp 2 (oI ((ltI r.type_ 0)=false)),oR True ((ltI r.type_ 0)=false),rp 2 (oI (((ltI r.type_ 0)||(geI r.type_ (lenI x0.types)))=false)),oR True (((ltI r.type_ 0)||(geI r.type_ (lenI x0.types)))=false),rp 2 (oI ((((ltI r.type_ 0)||(geI r.type_ (lenI x0.types)))||(ltI r.start 0))=false)),oR True ((((ltI r.type_ 0)||(geI r.type_ (lenI x0.types)))||(ltI r.start 0))=false),rp 2 (oI (((((ltI r.type_ 0)||(geI r.type_ (lenI x0.types)))||(ltI r.start 0))||(gtI r.start 4096))=false)),nL Qad.enc r.visits,hP,hP,oI (((((ltI r.type_ 0)||(geI r.type_ (lenI x0.types)))||(ltI r.start 0))||(gtI r.start 4096))=false),oR True (((((ltI r.type_ 0)||(geI r.type_ (lenI x0.types)))||(ltI r.start 0))||(gtI r.start 4096))=false),bF h0,hH (.draw 10 []),cE Qaf.enc h1,nL Qad.enc r.visits,hW 3,hH (.adoptB 3 24 4 54)] (QwK Γ rv h7 ?_)
  rcases e0 with e0|e0
  ·obtain ⟨l1,rfl⟩:∃ x,x=e0:=⟨_,rfl⟩
   replace h:(some ((QaE.mk x0 x1 r l1),true):Option (QaE×Bool))=some _:=h
   obtain rfl:=Option.some.inj h
   exact gr 2 [] [hW 5,hH (.frz 2),rp 3 (eL l1 Qap.enc)]
  ·obtain ⟨r2,rfl⟩:∃ x,x=e0:=⟨_,rfl⟩
   replace h:(some r2:Option (QaE×Bool))=some _:=h
   exact Option.some.inj h
theorem QoG {p} {rv:Qaj} (h:QjK p=some rv):AFn Tryz.prog 224 [.agg (QaE.enc p)] [] (gG [lI rv.ready,lI rv.since,.bool rv.sheet.rest_,lI rv.sheet.depart,lL 4 rv.sheet.times QaD.enc,lI rv.sheet.end_,lI rv.sheet.miles]) []:=by
 refine QaG Tryz.func224 (by kernel_rfl) (by kernel_rfl) (fun Γ=>?_)
 unfold QjK at h
 obtain rfl:=Option.some.inj h
 exact gr 4 [] [hW 15,hH (.nilB 1 4 4)]
theorem Qld {s0 arrive} {rv:Int×Int} (h:Qq0 s0 arrive=some rv):AFn Tryz.prog 205 [.agg (Qap.enc s0),.one (lI arrive)] [] (.tup [.one (lI rv.1),.one (lI rv.2)]) []:=by
 refine QaG Tryz.func205 (by kernel_rfl) (by kernel_rfl) (fun Γ=>?_)
 unfold Qq0 at h
 rcases Qak h with ⟨h0,h⟩|⟨h0,h⟩
 ·obtain rfl:=Option.some.inj h
  exact gr 10 [] [bT h0]
 ·obtain rfl:=Option.some.inj h
  exact gr 11 [] [bF h0]
theorem Qgk {p visits} {rv:Int} (h:QnG p visits=some rv):AFn Tryz.prog 265 [.agg (QaE.enc p),.one (lI visits)] [] (one (lI rv)) []:=by
 refine QaG Tryz.func265 (by kernel_rfl) (by kernel_rfl) (fun Γ=>?_)
 unfold QnG at h
 rcases Qak h with ⟨h0,h⟩|⟨h0,h⟩
 ·obtain rfl:=Option.some.inj h
  exact gr 8 [] [bT h0]
 ·obtain ⟨x0,h1,h⟩:=Qae h
  obtain rfl:=Option.some.inj h
  exact gr 9 [] [bF h0,cE Qap.enc h1]
theorem Qfb {s0} {rv:List QaD} (h:QdU s0=some rv):AFn Tryz.prog 264 [.one (lL 4 s0 QaD.enc)] [] (one (lO 0 4 rv QaD.enc)) [oS 4 258 rv QaD.enc]:=by
 refine QaG Tryz.func264 (by kernel_rfl) (by kernel_rfl) (fun Γ=>?_)
 unfold QdU at h
 rcases Qak h with ⟨h0,h⟩|⟨h0,h⟩
 ·obtain ⟨hx,h⟩:=QBK h
  refine gn 5 [0,4] [] [hH (.skip)] (cf':=⟨[.c 13,.c 7],⟨8,[vL 0 4 s0 QaD.enc,(4,.boo)],[]⟩⟩) (go_amb 4 rfl ?_ ?_)
  ·replace h:=hx
   obtain rfl:=Option.some.inj h
   exact gr 3 [0] [tT,hW 3,hH (.adopt 2 4 258)]
  ·obtain ⟨h1,h⟩:=Qat h
   obtain rfl:=Option.some.inj h
   exact gr 4 [0] [fF,aZ QaD.enc h1]
 ·obtain ⟨h2,h⟩:=Qat h
  obtain rfl:=Option.some.inj h
  exact gr 9 [0] [oO (neE QaD.enc h0),fF,hH (.bit false),aZ QaD.enc h2]
def Qi8 (Γ:Gam) (rv:Qaj×Int) (cf:Cf):Prop:=Go Tryz.prog Tryz.f249 [] Γ (.tup [.agg [lI rv.1.ready,lI rv.1.since,.bool rv.1.sheet.rest_,lI rv.1.sheet.depart,lL 4 rv.1.sheet.times QaD.enc,lI rv.1.sheet.end_,lI rv.1.sheet.miles],.one (lI rv.2)]) [] cf
theorem Qmx (Γ:Gam) (rv:Qaj×Int) {p l depart since rest_1 depart1 r2 l2 ready end_} (h:Qim p l depart since rest_1 depart1 r2 l2 ready end_=some rv):Qi8 Γ rv ⟨[.c 32767],⟨163,[vP 4 0 25,vP 8 1 7,vP 12 2 7],[oX 25 232 (QaE.enc p),oX 7 236 [lI 0,lI 0,.bool false,lI 0,.nils,lI 0,lI 0],oX 7 236 [lI ready,lI (subK .i64 (addK .i64 since r2.1) depart),.bool rest_1,lI depart1,lO 3 4 l2 QaD.enc,lI end_,lI (addK .i64 l.sheet.miles r2.2.1)],oS 4 258 l2 QaD.enc]⟩⟩:=by
 unfold Qim at h
 rcases Qak h with ⟨h15,h⟩|⟨h15,h⟩
 ·obtain rfl:=Option.some.inj h
  exact gr 6 [] [bT h15,hW 5,hH (.nilB 1 4 4)]
 ·obtain rfl:=Option.some.inj h
  exact gr 7 [] [bF h15,hW 6,hH (.frz 3),rp 3 (eL l2 QaD.enc)]
theorem Qmw (Γ:Gam) (rv:Qaj×Int) {p l done depart since l1 rest_1 depart1 to_} (h:Qil p l done depart since l1 rest_1 depart1 to_=some rv):Qi8 Γ rv ⟨[.c 1023],⟨163,[vI 2 done,vP 4 0 25,vP 8 1 7,vI 10 depart,vI 11 since,vP 12 2 7,vB 13 (eqI done (lenI p.stops)),vI 14 to_],[oX 25 232 (QaE.enc p),oX 7 236 [lI 0,lI 0,.bool false,lI 0,.nils,lI 0,lI 0],oX 7 236 [lI 0,lI 0,.bool rest_1,lI depart1,lO 3 4 l1 QaD.enc,lI l.sheet.end_,lI l.sheet.miles],oS 4 258 l1 QaD.enc]⟩⟩:=by
 unfold Qil at h
 obtain ⟨r1,h6,h⟩:=Qae h
 obtain ⟨r2,h7,h⟩:=Qae h
 rcases Qak h with ⟨h8,h⟩|⟨h8,h⟩
 ·obtain rfl:=Option.some.inj h
  exact gr 8 [] [hH (.draw 19 []),cC (Qgk h6),cC (QfD h7),bT h8,hW 5,hH (.nilB 1 4 4)]
 ·rcases Qak h with ⟨h9,h⟩|⟨h9,h⟩
  ·rcases Qak h with ⟨h10,h⟩|⟨h10,h⟩
   ·obtain rfl:=Option.some.inj h
    exact gr 21 [] [hH (.draw 19 []),cC (Qgk h6),cC (QfD h7),bF h8,bT h9,bT h10,hW 5,hH (.nilB 1 4 4)]
   ·exact gn 23 [4,8,12] [0,1,2,3] [hH (.draw 19 []),cC (Qgk h6),cC (QfD h7),bF h8,bT h9,bF h10] (Qmx Γ rv h)
  ·obtain ⟨x2,h11,h⟩:=Qae h
   obtain ⟨r3,h12,h⟩:=Qae h
   rcases Qak h with ⟨h13,h⟩|⟨h13,h⟩
   ·obtain rfl:=Option.some.inj h
    exact gr 23 [] [hH (.draw 19 []),cC (Qgk h6),cC (QfD h7),bF h8,bF h9,cE Qap.enc h11,cC (Qld h12),bT h13,hW 5,hH (.nilB 1 4 4)]
   ·obtain ⟨h14,h⟩:=Qat h
    exact gn 25 [4,8,12] [0,1,2,5] [hH (.draw 19 []),cC (Qgk h6),cC (QfD h7),bF h8,bF h9,cE Qap.enc h11,cC (Qld h12),bF h13,cE Qap.enc h11,oO (Eq.refl ([(QaD.mk r2.1 r3.1 0 false)].map QaD.enc).length),aO QaD.enc h14] (Qmx Γ rv h)
theorem Qmv (Γ:Gam) (rv:Qaj×Int) {p l done depart since l1 rest_1 depart1} (h:Qik p l done depart since l1 rest_1 depart1=some rv):Qi8 Γ rv ⟨[.c 127],⟨163,[vI 2 done,vP 4 0 25,vP 8 1 7,vI 10 depart,vI 11 since,vP 12 2 7],[oX 25 232 (QaE.enc p),oX 7 236 [lI 0,lI 0,.bool false,lI 0,.nils,lI 0,lI 0],oX 7 236 [lI 0,lI 0,.bool rest_1,lI depart1,lO 3 4 l1 QaD.enc,lI l.sheet.end_,lI l.sheet.miles],oS 4 258 l1 QaD.enc]⟩⟩:=by
 unfold Qik at h
 rcases Qak h with ⟨h4,h⟩|⟨h4,h⟩
 ·exact gn 9 [2,4,8,10,11,12,13,14] [0,1,2,3] [nL Qap.enc p.stops,nF h4] (Qmw Γ rv h)
 ·obtain ⟨x1,h5,h⟩:=Qae h
  exact gn 9 [2,4,8,10,11,12,13,14] [0,1,2,3] [nL Qap.enc p.stops,nT h4,cE Qap.enc h5] (Qmw Γ rv h)
theorem Qmu (Γ:Gam) (rv:Qaj×Int) {p l done rest_ depart since} (h:Qij p l done rest_ depart since=some rv):Qi8 Γ rv ⟨[.c 15],⟨163,[vI 2 done,vB 3 rest_,vP 4 0 25,vP 5 1 7,vP 8 2 7,vI 10 depart,vI 11 since],[oX 25 232 (QaE.enc p),oX 7 236 (Qaj.enc l),oX 7 236 [lI 0,lI 0,.bool false,lI 0,.nils,lI 0,lI 0]]⟩⟩:=by
 unfold Qij at h
 obtain ⟨r,h1,h⟩:=Qae h
 rcases Qak h with ⟨h2,h⟩|⟨h2,h⟩
 ·exact gn 11 [2,4,8,10,11,12] [0,2,3,4] [cC (Qfb h1),bT h2] (Qmv Γ rv h)
 ·obtain ⟨x0,h3,h⟩:=Qae h
  exact gn 11 [2,4,8,10,11,12] [0,2,3,4] [cC (Qfb h1),bF h2,oO (QiR h3),oO (QiQ QaD.enc h3),rE QaD.enc h3,hH (.rows ((setI r (subK .i64 done 1) (QaD.mk x0.arrive x0.begin x0.depart rest_)).map QaD.enc)),hH (.relen 4 ((setI r (subK .i64 done 1) (QaD.mk x0.arrive x0.begin x0.depart rest_)).map QaD.enc).length),oO (setM QaD.enc r (subK .i64 done 1) (QaD.mk x0.arrive x0.begin x0.depart rest_)),rp 3 (oO (QrM QaD.enc r (subK .i64 done 1) (QaD.mk x0.arrive x0.begin x0.depart rest_))),oO (QiR (Qyk h3 (QaD.mk x0.arrive x0.begin x0.depart rest_))),oO (QiQ QaD.enc (Qyk h3 (QaD.mk x0.arrive x0.begin x0.depart rest_))),rE QaD.enc (Qyk h3 (QaD.mk x0.arrive x0.begin x0.depart rest_)),hH (.rows ((setI (setI r (subK .i64 done 1) (QaD.mk x0.arrive x0.begin x0.depart rest_)) (subK .i64 done 1) (QaD.mk x0.arrive x0.begin depart rest_)).map QaD.enc)),hH (.relen 4 ((setI (setI r (subK .i64 done 1) (QaD.mk x0.arrive x0.begin x0.depart rest_)) (subK .i64 done 1) (QaD.mk x0.arrive x0.begin depart rest_)).map QaD.enc).length),oO (setM QaD.enc (setI r (subK .i64 done 1) (QaD.mk x0.arrive x0.begin x0.depart rest_)) (subK .i64 done 1) (QaD.mk x0.arrive x0.begin depart rest_)),rp 4 (oO (QrM QaD.enc (setI r (subK .i64 done 1) (QaD.mk x0.arrive x0.begin x0.depart rest_)) (subK .i64 done 1) (QaD.mk x0.arrive x0.begin depart rest_)))] (Qmv Γ rv h)
theorem QgS {p l done rest_} {rv:Qaj×Int} (h:Qk4 p l done rest_=some rv):AFn Tryz.prog 249 [.agg (QaE.enc p),.agg (Qaj.enc l),.one (lI done),.one (.bool rest_)] [] (.tup [.agg [lI rv.1.ready,lI rv.1.since,.bool rv.1.sheet.rest_,lI rv.1.sheet.depart,lL 4 rv.1.sheet.times QaD.enc,lI rv.1.sheet.end_,lI rv.1.sheet.miles],.one (lI rv.2)]) []:=by
 refine QaG Tryz.func249 (by kernel_rfl) (by kernel_rfl) (fun Γ=>?_)
 unfold Qk4 at h
 rcases Qak h with ⟨h0,h⟩|⟨h0,h⟩
 ·exact gn 11 [2,3,4,5,8,10,11] [0,1,2] [hH (.draw 6 []),bT h0] (Qmu Γ rv h)
 ·exact gn 9 [2,3,4,5,8,10,11] [0,1,2] [hH (.draw 6 []),bF h0] (Qmu Γ rv h)
theorem QtS {l m} {rv:Bool} (h:Qmh l m=some rv):AFn Tryz.prog 252 [.agg (Qaj.enc l),.agg (Qaj.enc m)] [] (one (.bool rv)) []:=by
 refine QaG Tryz.func252 (by kernel_rfl) (by kernel_rfl) (fun Γ=>?_)
 unfold Qmh at h
 obtain rfl:=Option.some.inj h
 exact gr 4 [] [rp 6 hP,rp 4 (oI ((eqI l.ready m.ready)=true)),oR True ((eqI l.ready m.ready)=true)]
theorem QnD {m c} {rv:Bool} (h:Qmi m c=some rv):AFn Tryz.prog 251 [.agg (Qaj.enc m),.one (.ip (Qaj.enc c) 0)] [] (one (.bool rv)) []:=by
 refine QaG Tryz.func251 (by kernel_rfl) (by kernel_rfl) (fun Γ=>?_)
 unfold Qmi at h
 obtain ⟨r,h0,h⟩:=Qae h
 obtain rfl:=Option.some.inj h
 exact gr 4 [] [cC (QtS h0)]
def Qdb (Γ:Gam) (rv:Int) (cf:Cf):Prop:=Go Tryz.prog Tryz.f266 [] Γ (one (lI rv)) [] cf
def QcP (Γ:Gam) (rv:Int) (s0:List Qaj) (c:Qaj) (v:Int):Prop:=Qdb Γ rv ⟨[.c 52,.l 52,.b 0,.c 7],⟨19,[vL 0 7 s0 Qaj.enc,(1,one (.fn (.func 251) [.ip (Qaj.enc c) 0])),vI 7 (lenI s0),vI 8 v],[]⟩⟩
def QcK (Γ:Gam) (rv:Int) (s0:List Qaj) (c:Qaj):Prop:=Qdb Γ rv ⟨[.c 7],⟨19,[],[]⟩⟩
theorem Qfn (Γ:Gam) (rv:Int) {s0 c} {s:Int} {e:(Unit)⊕(Int)} (h:QaX (fun s=>Qbj s0 c s) s=some e) (hD:sel e (fun e=>QcK Γ rv s0 c) (fun e=>e=rv)):QcP Γ rv s0 c s:=by
 refine QaA (C:=fun (s:Int)=>QcP Γ rv s0 c s) (D:=fun (e:(Unit)⊕(Int))=>sel e (fun e=>QcK Γ rv s0 c) (fun e=>e=rv)) ?_ h hD
 clear h hD s e
 intro v z_ h hI hE
 replace h:Qbj s0 c v=_:=h
 unfold Qbj at h
 rcases Qak h with ⟨h0,h⟩|⟨h0,h⟩
 ·obtain ⟨x0,h1,h⟩:=Qae h
  obtain ⟨r,h2,h⟩:=Qae h
  rcases Qak h with ⟨h3,h⟩|⟨h3,h⟩
  ·obtain rfl:=(hE _ (oJ h):_=rv)
   exact gr 14 [] [bT h0,cE Qaj.enc h1,cC (QnD h2),bT h3]
  ·exact gn 16 [0,1,7,8] [] [bT h0,cE Qaj.enc h1,cC (QnD h2),bF h3] (hI _ (oJ h))
 ·exact gn 5 [] [] [bF h0] (hE _ (oJ h))
theorem QfR {s0 c} {rv:Int} (h:Qb8 s0 c=some rv):AFn Tryz.prog 266 [.one (lL 7 s0 Qaj.enc),.one (.fn (.func 251) [.ip (Qaj.enc c) 0])] [] (one (lI rv)) []:=by
 refine QaG Tryz.func266 (by kernel_rfl) (by kernel_rfl) (fun Γ=>?_)
 unfold Qb8 at h
 obtain ⟨e0,h4,h⟩:=Qae h
 refine gn 7 [0,1,7,8] [] [nL Qaj.enc s0] (Qfn Γ rv h4 ?_)
 rcases e0 with e0|e0
 ·replace h:(some (-1):Option Int)=some _:=h
  obtain rfl:=Option.some.inj h
  exact gr 2 [] []
 ·obtain ⟨r1,rfl⟩:∃ x,x=e0:=⟨_,rfl⟩
  replace h:(some r1:Option Int)=some _:=h
  exact Option.some.inj h
theorem QcJ {s0 c} {rv:Bool} (h:QbW s0 c=some rv):AFn Tryz.prog 250 [.one (lL 7 s0 Qaj.enc),.one (.fn (.func 251) [.ip (Qaj.enc c) 0])] [] (one (.bool rv)) []:=by
 refine QaG Tryz.func250 (by kernel_rfl) (by kernel_rfl) (fun Γ=>?_)
 unfold QbW at h
 obtain ⟨r,h0,h⟩:=Qae h
 obtain rfl:=Option.some.inj h
 exact gr 4 [] [cC (QfR h0)]
def Qhx (Γ:Gam) (rv:List Qaj) (cf:Cf):Prop:=Go Tryz.prog Tryz.f225 [] Γ (one (lL 7 rv Qaj.enc)) [] cf
def QnF (Γ:Gam) (rv:List Qaj) (p:QaE) (l:List Qaj) (done:Int) (choices:List Bool) (v:Int) (x0:Qaj) (l3:List Qaj) (v1:Int):Prop:=Qhx Γ rv ⟨[.c 128204,.l 128204,.b 2,.b 1,.c 4007,.l 500,.b 0,.c 63],⟨64,[vI 2 done,vP 3 0 25,vL 7 1 choices Qff,vO 8 1 7 l3 Qaj.enc,vP 10 2 7,vL 29 7 l Qaj.enc,vI 30 (lenI l),vI 31 v,vL 35 1 choices Qff,vI 36 (lenI choices),vI 37 v1],[oX 25 232 (QaE.enc p),oS 7 236 l3 Qaj.enc,oX 7 236 (Qaj.enc x0)]⟩⟩
def Qmt (Γ:Gam) (rv:List Qaj) (p:QaE) (l:List Qaj) (done:Int) (choices:List Bool) (v:Int) (x0:Qaj) (l4:List Qaj):Prop:=Qhx Γ rv ⟨[.b 1,.c 4007,.l 500,.b 0,.c 63],⟨64,[vI 2 done,vP 3 0 25,vL 7 1 choices Qff,vO 8 1 7 l4 Qaj.enc,vL 29 7 l Qaj.enc,vI 30 (lenI l),vI 31 v],[oX 25 232 (QaE.enc p),oS 7 236 l4 Qaj.enc]⟩⟩
def QnE (Γ:Gam) (rv:List Qaj) (p:QaE) (l:List Qaj) (done:Int) (choices:List Bool) (l2:List Qaj) (v:Int):Prop:=Qhx Γ rv ⟨[.c 500,.l 500,.b 0,.c 63],⟨64,[vI 2 done,vP 3 0 25,vL 7 1 choices Qff,vO 8 1 7 l2 Qaj.enc,vL 29 7 l Qaj.enc,vI 30 (lenI l),vI 31 v],[oX 25 232 (QaE.enc p),oS 7 236 l2 Qaj.enc]⟩⟩
def Qms (Γ:Gam) (rv:List Qaj) (p:QaE) (l:List Qaj) (done:Int) (choices:List Bool) (l5:List Qaj):Prop:=Qhx Γ rv ⟨[.c 63],⟨64,[vO 8 0 7 l5 Qaj.enc],[oS 7 236 l5 Qaj.enc]⟩⟩
theorem Qti (Γ:Gam) (rv:List Qaj) {p l done choices v x0} {s:List Qaj×Int} {e:List Qaj} (h:QaX (fun s=>Qii p l done choices v x0 s.1 s.2) s=some e) (hD:Qmt Γ rv p l done choices v x0 e):QnF Γ rv p l done choices v x0 s.1 s.2:=by
 refine QaA (C:=fun (s:List Qaj×Int)=>QnF Γ rv p l done choices v x0 s.1 s.2) (D:=fun (e:List Qaj)=>Qmt Γ rv p l done choices v x0 e) ?_ h hD
 clear h hD s e
 rintro ⟨l3,v1⟩ z_ h hI hE
 replace h:Qii p l done choices v x0 l3 v1=_:=h
 unfold Qii at h
 rcases Qak h with ⟨h4,h⟩|⟨h4,h⟩
 ·obtain ⟨x1,h5,h⟩:=Qae h
  obtain ⟨r,h6,h⟩:=Qae h
  rcases Qak h with ⟨h7,h⟩|⟨h7,h⟩
  ·obtain ⟨r1,h8,h⟩:=Qae h
   rcases Qak h with ⟨h9,h⟩|⟨h9,h⟩
   ·exact gn 18 [2,3,7,8,10,29,30,31,35,36,37] [0,1,2] [bT h4,cE Qff h5,cC (QgS h6),rp 3 (bT h7),eL l3 Qaj.enc,cC (QcJ h8),bT h7,bT h7,nF h9] (hI _ (oJ h))
   ·obtain ⟨h10,h⟩:=Qat h
    exact gn 18 [2,3,7,8,10,29,30,31,35,36,37] [0,5,2] [bT h4,cE Qff h5,cC (QgS h6),rp 3 (bT h7),eL l3 Qaj.enc,cC (QcJ h8),bT h7,bT h7,nT h9,oO (Eq.refl ([r.1].map Qaj.enc).length),aO Qaj.enc h10] (hI _ (oJ h))
  ·exact gn 18 [2,3,7,8,10,29,30,31,35,36,37] [0,1,2] [bT h4,cE Qff h5,cC (QgS h6),rp 5 (bF h7),fF] (hI _ (oJ h))
 ·exact gn 5 [2,3,7,8,29,30,31] [0,1] [bF h4] (hE _ (oJ h))
theorem Qth (Γ:Gam) (rv:List Qaj) {p l done choices} {s:List Qaj×Int} {e:List Qaj} (h:QaX (fun s=>Qih p l done choices s.1 s.2) s=some e) (hD:Qms Γ rv p l done choices e):QnE Γ rv p l done choices s.1 s.2:=by
 refine QaA (C:=fun (s:List Qaj×Int)=>QnE Γ rv p l done choices s.1 s.2) (D:=fun (e:List Qaj)=>Qms Γ rv p l done choices e) ?_ h hD
 clear h hD s e
 rintro ⟨l2,v⟩ z_ h hI hE
 replace h:Qih p l done choices l2 v=_:=h
 unfold Qih at h
 rcases Qak h with ⟨h2,h⟩|⟨h2,h⟩
 ·obtain ⟨x0,h3,h⟩:=Qae h
  obtain ⟨e0,h11,h⟩:=Qae h
  refine gn 13 [2,3,7,8,10,29,30,31,35,36,37] [0,1,2] [bT h2,cE Qaj.enc h3,nL Qff choices] (Qti Γ rv h11 ?_)
  obtain ⟨l4,rfl⟩:∃ x,x=e0:=⟨_,rfl⟩
  replace h:(some (.inl (l4,(addK .i64 v 1))):Option ((List Qaj×Int)⊕(List Qaj)))=some _:=h
  exact gn 3 [2,3,7,8,29,30,31] [0,1] [] (hI _ (oJ h))
 ·exact gn 5 [8] [1] [bF h2] (hE _ (oJ h))
theorem Qmr (Γ:Gam) (rv:List Qaj) {p l done choices} (h:Qig p l done choices=some rv):Qhx Γ rv ⟨[.c 15],⟨64,[vL 1 7 l Qaj.enc,vI 2 done,vP 3 0 25,vL 7 1 choices Qff],[oX 25 232 (QaE.enc p)]⟩⟩:=by
 unfold Qig at h
 obtain ⟨e1,h12,h⟩:=Qae h
 refine gn 7 [2,3,7,8,29,30,31] [0,1] [nL Qaj.enc l,hW 3,hH (.adopt 8 7 236)] (Qth Γ rv h12 ?_)
 obtain ⟨l5,rfl⟩:∃ x,x=e1:=⟨_,rfl⟩
 replace h:(some l5:Option (List Qaj))=some _:=h
 obtain rfl:=Option.some.inj h
 exact gr 2 [] [hW 4,hH (.frz 0),rp 3 (eL l5 Qaj.enc)]
theorem Qvd {p l done} {rv:List Qaj} (h:Qpr p l done=some rv):AFn Tryz.prog 225 [.agg (QaE.enc p),.one (lL 7 l Qaj.enc),.one (lI done)] [] (one (lL 7 rv Qaj.enc)) []:=by
 refine QaG Tryz.func225 (by kernel_rfl) (by kernel_rfl) (fun Γ=>?_)
 unfold Qpr at h
 rcases Qak h with ⟨h0,h⟩|⟨h0,h⟩
 ·obtain ⟨l1,h1,h⟩:=Qae h
  exact gn 9 [1,2,3,7] [0] [nL Qff p.r.rests,bT h0,hH (.rows (l1.map Qff)),oO (sl1 h1),oO (sl2 h1),oO (sl3 Qff h1),oO (Int.le_refl (addK .i64 done 1)),oO (sl3 Qff h1),oO (sl6 Qff h1)] (Qmr Γ rv h)
 ·exact gn 9 [1,2,3,7] [0] [nL Qff p.r.rests,bF h0,hW 1,hH (.frz 1),rp 2 (oO (Eq.refl ([false,true].map Qff).length))] (Qmr Γ rv h)
def Qr9 (Γ:Gam) (rv:QaN×Int) (cf:Cf):Prop:=Go Tryz.prog Tryz.f226 [] Γ (.tup [.agg [.bool rv.1.rest_,lI rv.1.depart,lL 4 rv.1.times QaD.enc,lI rv.1.end_,lI rv.1.miles],.one (lI rv.2)]) [] cf
def QoH (Γ:Gam) (rv:QaN×Int) (p:QaE) (rests:List Bool) (r:Qaj) (rest_:Int) (x0:Qaj) (v:Int):Prop:=Qr9 Γ rv ⟨[.c 116,.l 116,.b 0,.c 15],⟨36,[vP 2 0 25,vP 4 1 5,vP 6 2 7,vL 13 1 rests Qff,vI 14 (lenI rests),vI 15 v],[oX 25 232 [lL 1 p.x.net.places QeA,lL 6 p.x.net.arcs Qai.enc,lL 14 p.x.types Qaf.enc,lL 16 p.x.orders Qac.enc,lL 2 p.x.apart Qav.enc,lL 2 p.x.before Qav.enc,.str p.t.name,lI p.t.count,lI p.t.from_,lI p.t.to_,lL 1 p.t.cap Qaw,lI p.t.skills,lI p.t.profile,lI p.t.open_,lI p.t.close,lI p.t.drive,lI rest_,lI p.t.fixed,lI p.t.perMile,lI p.t.perTick,lI p.r.type_,lI p.r.start,lL 1 p.r.rests Qff,lL 2 p.r.visits Qad.enc,lL 4 p.stops Qap.enc],oX 5 168 [.bool false,lI 0,.nils,lI 0,lI 0],oX 7 236 (Qaj.enc x0)]⟩⟩
def QnH (Γ:Gam) (rv:QaN×Int) (p:QaE) (rests:List Bool) (r:Qaj) (x2:Qaj):Prop:=Qr9 Γ rv ⟨[.c 15],⟨36,[vP 4 0 5,vP 6 1 7],[oX 5 168 [.bool false,lI 0,.nils,lI 0,lI 0],oX 7 236 (Qaj.enc x2)]⟩⟩
theorem QtT (Γ:Gam) (rv:QaN×Int) {p rests r} {s:Int×Qaj×Int} {e:(Qaj)⊕(QaN×Int)} (h:QaX (fun s=>Qi9 p rests r s.1 s.2.1 s.2.2) s=some e) (hD:sel e (fun e=>QnH Γ rv p rests r e) (fun e=>e=rv)):QoH Γ rv p rests r s.1 s.2.1 s.2.2:=by
 refine QaA (C:=fun (s:Int×Qaj×Int)=>QoH Γ rv p rests r s.1 s.2.1 s.2.2) (D:=fun (e:(Qaj)⊕(QaN×Int))=>sel e (fun e=>QnH Γ rv p rests r e) (fun e=>e=rv)) ?_ h hD
 clear h hD s e
 rintro ⟨rest_,x0,v⟩ z_ h hI hE
 replace h:Qi9 p rests r rest_ x0 v=_:=h
 unfold Qi9 at h
 rcases Qak h with ⟨h1,h⟩|⟨h1,h⟩
 ·obtain ⟨x1,h2,h⟩:=Qae h
  obtain ⟨r1,h3,h⟩:=Qae h
  rcases Qak h with ⟨h4,h⟩|⟨h4,h⟩
  ·obtain rfl:=(hE _ (oJ h):_=rv)
   exact gr 17 [] [bT h1,cE Qff h2,cC (QgS h3),bT h4,hW 6,hH (.nilB 1 2 4)]
  ·exact gn 20 [2,4,6,13,14,15] [0,1,2] [bT h1,cE Qff h2,cC (QgS h3),bF h4] (hI _ (oJ h))
 ·exact gn 5 [4,6] [1,2] [bF h1] (hE _ (oJ h))
theorem Qv3 {p rests} {rv:QaN×Int} (h:Qnf p rests=some rv):AFn Tryz.prog 226 [.agg (QaE.enc p),.one (lL 1 rests Qff)] [] (.tup [.agg [.bool rv.1.rest_,lI rv.1.depart,lL 4 rv.1.times QaD.enc,lI rv.1.end_,lI rv.1.miles],.one (lI rv.2)]) []:=by
 refine QaG Tryz.func226 (by kernel_rfl) (by kernel_rfl) (fun Γ=>?_)
 unfold Qnf at h
 obtain ⟨r,h0,h⟩:=Qae h
 obtain ⟨e0,h5,h⟩:=Qae h
 refine gn 9 [2,4,6,13,14,15] [0,1,2] [cC (QoG h0),nL Qff rests] (QtT Γ rv h5 ?_)
 rcases e0 with e0|e0
 ·obtain ⟨x2,rfl⟩:∃ x,x=e0:=⟨_,rfl⟩
  replace h:(some (x2.sheet,0):Option (QaN×Int))=some _:=h
  obtain rfl:=Option.some.inj h
  exact gr 2 [] []
 ·obtain ⟨r2,rfl⟩:∃ x,x=e0:=⟨_,rfl⟩
  replace h:(some r2:Option (QaN×Int))=some _:=h
  exact Option.some.inj h
def QqD (Γ:Gam) (rv:QaN×Int) (cf:Cf):Prop:=Go Tryz.prog Tryz.f199 [] Γ (.tup [.agg [.bool rv.1.rest_,lI rv.1.depart,lL 4 rv.1.times QaD.enc,lI rv.1.end_,lI rv.1.miles],.one (lI rv.2)]) [] cf
def QtE (Γ:Gam) (rv:QaN×Int) (r:Qax) (r1:QaE×Bool) (l:List Qaj) (v:Int):Prop:=QqD Γ rv ⟨[.c 1012,.l 1012,.b 0,.c 127],⟨82,[vP 3 0 4,vP 4 1 5,vP 6 2 25,vI 8 (addK .i64 (lenI r.visits) 1),vL 9 7 l Qaj.enc,vI 38 (addK .i64 (lenI r.visits) 1),vI 39 v],[oX 4 48 (Qax.enc r),oX 5 168 [.bool false,lI 0,.nils,lI 0,lI 0],oX 25 232 (QaE.enc r1.1)]⟩⟩
def Qr6 (Γ:Gam) (rv:QaN×Int) (r:Qax) (r1:QaE×Bool) (l1:List Qaj):Prop:=QqD Γ rv ⟨[.c 127],⟨82,[vP 3 0 4,vP 4 1 5,vP 6 2 25,vI 8 (addK .i64 (lenI r.visits) 1),vL 9 7 l1 Qaj.enc],[oX 4 48 (Qax.enc r),oX 5 168 [.bool false,lI 0,.nils,lI 0,lI 0],oX 25 232 (QaE.enc r1.1)]⟩⟩
def QtF (Γ:Gam) (rv:QaN×Int) (l3:List Qaj) (x2:Qaj) (v1:Int):Prop:=QqD Γ rv ⟨[.c 8180,.l 8180,.b 2,.c 1023],⟨82,[vP 4 0 5,vP 12 1 7,vL 65 7 l3 Qaj.enc,vI 66 (lenI l3),vI 67 v1],[oX 5 168 [.bool false,lI 0,.nils,lI 0,lI 0],oX 7 236 (Qaj.enc x2)]⟩⟩
def Qr7 (Γ:Gam) (rv:QaN×Int) (l3:List Qaj) (x4:Qaj):Prop:=QqD Γ rv ⟨[.c 1023],⟨82,[vP 4 0 5,vP 12 1 7],[oX 5 168 [.bool false,lI 0,.nils,lI 0,lI 0],oX 7 236 (Qaj.enc x4)]⟩⟩
theorem QwG (Γ:Gam) (rv:QaN×Int) {r r1} {s:List Qaj×Int} {e:List Qaj} (h:QaX (fun s=>QoE r r1 s.1 s.2) s=some e) (hD:Qr6 Γ rv r r1 e):QtE Γ rv r r1 s.1 s.2:=by
 refine QaA (C:=fun (s:List Qaj×Int)=>QtE Γ rv r r1 s.1 s.2) (D:=fun (e:List Qaj)=>Qr6 Γ rv r r1 e) ?_ h hD
 clear h hD s e
 rintro ⟨l,v⟩ z_ h hI hE
 replace h:QoE r r1 l v=_:=h
 unfold QoE at h
 rcases Qak h with ⟨h3,h⟩|⟨h3,h⟩
 ·obtain ⟨r3,h4,h⟩:=Qae h
  exact gn 13 [3,4,6,8,9,38,39] [0,1,2] [bT h3,cC (Qvd h4)] (hI _ (oJ h))
 ·exact gn 5 [3,4,6,8,9] [0,1,2] [bF h3] (hE _ (oJ h))
theorem QwH (Γ:Gam) (rv:QaN×Int) {l3} {s:Qaj×Int} {e:Qaj} (h:QaX (fun s=>Qlg l3 s.1 s.2) s=some e) (hD:Qr7 Γ rv l3 e):QtF Γ rv l3 s.1 s.2:=by
 refine QaA (C:=fun (s:Qaj×Int)=>QtF Γ rv l3 s.1 s.2) (D:=fun (e:Qaj)=>Qr7 Γ rv l3 e) ?_ h hD
 clear h hD s e
 rintro ⟨x2,v1⟩ z_ h hI hE
 replace h:Qlg l3 x2 v1=_:=h
 unfold Qlg at h
 rcases Qak h with ⟨h11,h⟩|⟨h11,h⟩
 ·obtain ⟨x3,h12,h⟩:=Qae h
  rcases Qak h with ⟨h13,h⟩|⟨h13,h⟩
  ·exact gn 16 [4,12,65,66,67] [0,1] [bT h11,cE Qaj.enc h12,bT h13] (hI _ (oJ h))
  ·exact gn 16 [4,12,65,66,67] [0,1] [bT h11,cE Qaj.enc h12,bF h13] (hI _ (oJ h))
 ·exact gn 5 [4,12] [0,1] [bF h11] (hE _ (oJ h))
theorem QvQ {x0 r} {rv:QaN×Int} (h:QwF x0 r=some rv):AFn Tryz.prog 199 [.agg (Qab.enc x0),.agg (Qax.enc r)] [] (.tup [.agg [.bool rv.1.rest_,lI rv.1.depart,lL 4 rv.1.times QaD.enc,lI rv.1.end_,lI rv.1.miles],.one (lI rv.2)]) []:=by
 refine QaG Tryz.func199 (by kernel_rfl) (by kernel_rfl) (fun Γ=>?_)
 unfold QwF at h
 obtain ⟨r1,h0,h⟩:=Qae h
 rcases Qak h with ⟨h1,h⟩|⟨h1,h⟩
 ·obtain rfl:=Option.some.inj h
  exact gr 12 [] [cC (QvR h0),nL Qad.enc r.visits,hP,hP,hP,rp 2 (oI ((!r1.2)=false)),nL Qff r.rests,hP,hP,hP,rp 2 (oI ((!r1.2)=false)),oR True ((!r1.2)=false),bT h1,hW 5,hH (.nilB 2 2 4)]
 ·obtain ⟨r2,h2,h⟩:=Qae h
  obtain ⟨e0,h5,h⟩:=Qae h
  refine gn 18 [3,4,6,8,9,38,39] [1,2,3] [cC (QvR h0),nL Qad.enc r.visits,hP,hP,hP,rp 2 (oI ((!r1.2)=false)),nL Qff r.rests,hP,hP,hP,rp 2 (oI ((!r1.2)=false)),oR True ((!r1.2)=false),bF h1,cC (QoG h2),hW 9,hH (.frz 4),rp 2 (oO (Eq.refl ([r2].map Qaj.enc).length))] (QwG Γ rv h5 ?_)
  obtain ⟨l1,rfl⟩:∃ x,x=e0:=⟨_,rfl⟩
  replace h:(br (eqI (lenI l1) 0) (bnd (mkI (addK .i64 (lenI r.visits) 1) (addK .i64 (lenI r.visits) 1) 1 false) fun l2=>bnd (Qnf r1.1 (cpyL l2 r.rests)) fun r4=>some (r4.1,r4.2)) (bnd (getI l1 0) fun x1=>bnd (slcI l1 1 (lenI l1)) fun l3=>bnd (QaX (fun s=>Qlg l3 s.1 s.2) (x1,0)) (fun x4=>some (x4.sheet,0))):Option (QaN×Int))=some _:=h
  rcases Qak h with ⟨h6,h⟩|⟨h6,h⟩
  ·obtain ⟨l2,h7,h⟩:=Qae h
   obtain ⟨r4,h8,h⟩:=Qae h
   obtain rfl:=Option.some.inj h
   exact gr 10 [] [nL Qaj.enc l1,bT h6,hH (.cells [.bool false]),hH (.rows (l2.map Qff)),oO (mk1 h7),oO (mk2 h7),oO (mk3 h7),oO (mk4 h7),oO (mk5 Qff h7),cY Qff l2 r.rests,hH (.relen 3 ((cpyL l2 r.rests).map Qff).length),hW 4,hH (.frz 3),rp 3 (oO (QHQ Qff l2 r.rests)),rp 4 (oO (Eq.refl ((cpyL l2 r.rests).map Qff).length)),cC (Qv3 h8)]
  ·obtain ⟨x1,h9,h⟩:=Qae h
   obtain ⟨l3,h10,h⟩:=Qae h
   obtain ⟨e1,h14,h⟩:=Qae h
   refine gn 12 [4,12,65,66,67] [1,3] [nL Qaj.enc l1,bF h6,cE Qaj.enc h9,hH (.rows (l3.map Qaj.enc)),oO (sl1 h10),oO (sl2h Qaj.enc h10),rp 3 (oO (Int.le_refl ((l1.map Qaj.enc).length:Int))),oO (sl6h Qaj.enc h10),nL Qaj.enc l3] (QwH Γ rv h14 ?_)
   obtain ⟨x4,rfl⟩:∃ x,x=e1:=⟨_,rfl⟩
   replace h:(some (x4.sheet,0):Option (QaN×Int))=some _:=h
   obtain rfl:=Option.some.inj h
   exact gr 2 [] []
theorem Qkc {kind own} {rv:Bool} (h:QoZ kind own=some rv):AFn Tryz.prog 227 [.one (lI kind),.one (lI own)] [] (one (.bool rv)) []:=by
 refine QaG Tryz.func227 (by kernel_rfl) (by kernel_rfl) (fun Γ=>?_)
 unfold QoZ at h
 obtain rfl:=Option.some.inj h
 exact gr 4 [] [rp 4 hP,rp 2 (oI ((neI kind (-1))=true)),oR True ((neI kind (-1))=true)]
def QsI (Γ:Gam) (rv:Qca) (cf:Cf):Prop:=Go Tryz.prog Tryz.f200 [] Γ (gG [lI rv.cost,lI rv.moved,lI rv.other,lI rv.work]) [] cf
def Qn5 (Γ:Gam) (rv:Qca) (x0:Qab) (r:Qax) (s0:QaN) (x1:Qaf) (l:List (Int×Int)) (moved:Int) (other:Int) (v:Int):Prop:=QsI Γ rv ⟨[.c 4084,.l 4084,.b 0,.c 511],⟨114,[vP 3 0 6,vP 4 1 4,vP 6 2 4,vP 10 3 4,(11,one (.mp 4)),vL 59 2 r.visits Qad.enc,vI 60 (lenI r.visits),vI 61 v],[oX 6 30 (Qab.enc x0),oX 4 48 (Qax.enc r),oX 4 170 [lI 0,lI 0,lI 0,lI 0],oX 4 170 [lI (addK .i64 (addK .i64 x1.fixed (mulK .i64 x1.perMile s0.miles)) (mulK .i64 x1.perTick (subK .i64 s0.end_ x1.open_))),lI moved,lI other,lI (mulK .i64 (quoK .i64 (subK .i64 s0.end_ x1.open_) 64) (quoK .i64 (subK .i64 s0.end_ x1.open_) 64))],oM 241 l (mE kI lI)]⟩⟩
def Qmk (Γ:Gam) (rv:Qca) (x0:Qab) (r:Qax) (s0:QaN) (x1:Qaf) (moved2:Int) (other1:Int):Prop:=QsI Γ rv ⟨[.c 511],⟨114,[vP 6 0 4,vP 10 1 4],[oX 4 170 [lI 0,lI 0,lI 0,lI 0],oX 4 170 [lI (addK .i64 (addK .i64 x1.fixed (mulK .i64 x1.perMile s0.miles)) (mulK .i64 x1.perTick (subK .i64 s0.end_ x1.open_))),lI moved2,lI other1,lI (mulK .i64 (quoK .i64 (subK .i64 s0.end_ x1.open_) 64) (quoK .i64 (subK .i64 s0.end_ x1.open_) 64))]]⟩⟩
theorem Qrv (Γ:Gam) (rv:Qca) {x0 r s0 x1 l other v x2 x3 moved1} {x:(List (Int×Int)×Int×Int×Int)⊕(Int×Int)} (h:Qnl x0 r s0 x1 l other v x2 x3 moved1=some x) (hI:∀ s:List (Int×Int)×Int×Int×Int,x=.inl s→Qn5 Γ rv x0 r s0 x1 s.1 s.2.1 s.2.2.1 s.2.2.2) (hE:∀ e:Int×Int,x=.inr e→Qmk Γ rv x0 r s0 x1 e.1 e.2):QsI Γ rv ⟨[.c 2091423,.b 1,.c 32679,.l 4084,.b 0,.c 511],⟨114,[vP 3 0 6,vP 4 1 4,vP 6 2 4,vP 10 3 4,(11,one (.mp 4)),vP 14 5 16,vL 59 2 r.visits Qad.enc,vI 60 (lenI r.visits),vI 61 v],[oX 6 30 (Qab.enc x0),oX 4 48 (Qax.enc r),oX 4 170 [lI 0,lI 0,lI 0,lI 0],oX 4 170 [lI (addK .i64 (addK .i64 x1.fixed (mulK .i64 x1.perMile s0.miles)) (mulK .i64 x1.perTick (subK .i64 s0.end_ x1.open_))),lI moved1,lI other,lI (mulK .i64 (quoK .i64 (subK .i64 s0.end_ x1.open_) 64) (quoK .i64 (subK .i64 s0.end_ x1.open_) 64))],oM 241 (mPut eqI l x2.order (addK .i64 (mGet eqI l x2.order 0) 1)) (mE kI lI),oX 16 56 (Qac.enc x3)]⟩⟩:=by
 unfold Qnl at h
 obtain ⟨r2,h9,h⟩:=Qae h
 rcases Qak h with ⟨h10,h⟩|⟨h10,h⟩
 ·exact gn 7 [3,4,6,10,11,59,60,61] [0,1,2,3,4] [cC (Qkc h9),bT h10] (hI _ (oJ h))
 ·exact gn 7 [3,4,6,10,11,59,60,61] [0,1,2,3,4] [cC (Qkc h9),bF h10] (hI _ (oJ h))
theorem Qwd (Γ:Gam) (rv:Qca) {x0 r s0 x1} {s:List (Int×Int)×Int×Int×Int} {e:Int×Int} (h:QaX (fun s=>Qnm x0 r s0 x1 s.1 s.2.1 s.2.2.1 s.2.2.2) s=some e) (hD:Qmk Γ rv x0 r s0 x1 e.1 e.2):Qn5 Γ rv x0 r s0 x1 s.1 s.2.1 s.2.2.1 s.2.2.2:=by
 refine QaA (C:=fun (s:List (Int×Int)×Int×Int×Int)=>Qn5 Γ rv x0 r s0 x1 s.1 s.2.1 s.2.2.1 s.2.2.2) (D:=fun (e:Int×Int)=>Qmk Γ rv x0 r s0 x1 e.1 e.2) ?_ h hD
 clear h hD s e
 rintro ⟨l,moved,other,v⟩ z_ h hI hE
 replace h:Qnm x0 r s0 x1 l moved other v=_:=h
 unfold Qnm at h
 rcases Qak h with ⟨h2,h⟩|⟨h2,h⟩
 ·obtain ⟨x2,h3,h⟩:=Qae h
  rcases Qak h with ⟨h4,h⟩|⟨h4,h⟩
  ·exact gn 18 [3,4,6,10,11,59,60,61] [0,1,2,3,4] [bT h2,cE Qad.enc h3,mG kqI lI l x2.order 0,mU kqI lI l x2.order (addK .i64 (mGet eqI l x2.order 0) 1),rp 5 hP,rp 3 (oI ((ltI x2.order 0)=false)),nL Qac.enc x0.orders,hP,hP,rp 2 (oI ((ltI x2.order 0)=false)),oR True ((ltI x2.order 0)=false),rp 6 (bT h4),tT] (hI _ (oJ h))
  ·rcases Qak h with ⟨h5,h⟩|⟨h5,h⟩
   ·exact gn 18 [3,4,6,10,11,59,60,61] [0,1,2,3,4] [bT h2,cE Qad.enc h3,mG kqI lI l x2.order 0,mU kqI lI l x2.order (addK .i64 (mGet eqI l x2.order 0) 1),rp 5 hP,rp 3 (oI ((ltI x2.order 0)=false)),nL Qac.enc x0.orders,hP,hP,rp 2 (oI ((ltI x2.order 0)=false)),oR True ((ltI x2.order 0)=false),rp 4 (bF h4),mG kqI lI (mPut eqI l x2.order (addK .i64 (mGet eqI l x2.order 0) 1)) x2.order 0,bF h4,bF h4,bT h5] (hI _ (oJ h))
   ·obtain ⟨x3,h6,h⟩:=Qae h
    obtain ⟨r1,h7,h⟩:=Qae h
    rcases Qak h with ⟨h8,h⟩|⟨h8,h⟩
    ·exact gn 23 [3,4,6,10,11,14,59,60,61] [0,1,2,3,4,6] [bT h2,cE Qad.enc h3,mG kqI lI l x2.order 0,mU kqI lI l x2.order (addK .i64 (mGet eqI l x2.order 0) 1),rp 5 hP,rp 3 (oI ((ltI x2.order 0)=false)),nL Qac.enc x0.orders,hP,hP,rp 2 (oI ((ltI x2.order 0)=false)),oR True ((ltI x2.order 0)=false),rp 4 (bF h4),mG kqI lI (mPut eqI l x2.order (addK .i64 (mGet eqI l x2.order 0) 1)) x2.order 0,bF h4,bF h4,bF h5,cE Qac.enc h6,cC (Qkc h7),bT h8] (Qrv Γ rv h hI hE)
    ·exact gn 23 [3,4,6,10,11,14,59,60,61] [0,1,2,3,4,6] [bT h2,cE Qad.enc h3,mG kqI lI l x2.order 0,mU kqI lI l x2.order (addK .i64 (mGet eqI l x2.order 0) 1),rp 5 hP,rp 3 (oI ((ltI x2.order 0)=false)),nL Qac.enc x0.orders,hP,hP,rp 2 (oI ((ltI x2.order 0)=false)),oR True ((ltI x2.order 0)=false),rp 4 (bF h4),mG kqI lI (mPut eqI l x2.order (addK .i64 (mGet eqI l x2.order 0) 1)) x2.order 0,bF h4,bF h4,bF h5,cE Qac.enc h6,cC (Qkc h7),bF h8] (Qrv Γ rv h hI hE)
 ·exact gn 5 [6,10] [2,3] [bF h2] (hE _ (oJ h))
theorem Qyx {x0 r s0} {rv:Qca} (h:Qvq x0 r s0=some rv):AFn Tryz.prog 200 [.agg (Qab.enc x0),.agg (Qax.enc r),.agg (QaN.enc s0)] [] (gG [lI rv.cost,lI rv.moved,lI rv.other,lI rv.work]) []:=by
 refine QaG Tryz.func200 (by kernel_rfl) (by kernel_rfl) (fun Γ=>?_)
 unfold Qvq at h
 rcases Qak h with ⟨h0,h⟩|⟨h0,h⟩
 ·obtain rfl:=Option.some.inj h
  exact gr 8 [] [rp 5 hP,rp 3 (oI ((ltI r.type_ 0)=false)),nL Qaf.enc x0.types,hP,hP,rp 2 (oI ((ltI r.type_ 0)=false)),oR True ((ltI r.type_ 0)=false),bT h0]
 ·obtain ⟨x1,h1,h⟩:=Qae h
  obtain ⟨e0,h11,h⟩:=Qae h
  refine gn 22 [3,4,6,10,11,59,60,61] [0,1,3,5,6] [rp 5 hP,rp 3 (oI ((ltI r.type_ 0)=false)),nL Qaf.enc x0.types,hP,hP,rp 2 (oI ((ltI r.type_ 0)=false)),oR True ((ltI r.type_ 0)=false),bF h0,cE Qaf.enc h1,oO (oA (n:=64)),nL Qad.enc r.visits] (Qwd Γ rv h11 ?_)
  obtain ⟨moved2,other1⟩:=e0
  replace h:(some (Qca.mk (addK .i64 (addK .i64 x1.fixed (mulK .i64 x1.perMile s0.miles)) (mulK .i64 x1.perTick (subK .i64 s0.end_ x1.open_))) moved2 other1 (mulK .i64 (quoK .i64 (subK .i64 s0.end_ x1.open_) 64) (quoK .i64 (subK .i64 s0.end_ x1.open_) 64))):Option Qca)=some _:=h
  obtain rfl:=Option.some.inj h
  exact gr 2 [] []
theorem QrB {x0 r} {rv:QaN×Qca×Int} (h:QqO x0 r=some rv):AFn Tryz.prog 173 [.agg (Qab.enc x0),.agg (Qax.enc r)] [] (.tup [.agg [.bool rv.1.rest_,lI rv.1.depart,lL 4 rv.1.times QaD.enc,lI rv.1.end_,lI rv.1.miles],.agg [lI rv.2.1.cost,lI rv.2.1.moved,lI rv.2.1.other,lI rv.2.1.work],.one (lI rv.2.2)]) []:=by
 refine QaG Tryz.func173 (by kernel_rfl) (by kernel_rfl) (fun Γ=>?_)
 unfold QqO at h
 rcases Qak h with ⟨h0,h⟩|⟨h0,h⟩
 ·obtain rfl:=Option.some.inj h
  exact gr 8 [] [rp 5 hP,rp 3 (oI ((ltI r.type_ 0)=false)),nL Qaf.enc x0.types,hP,hP,rp 2 (oI ((ltI r.type_ 0)=false)),oR True ((ltI r.type_ 0)=false),bT h0,hW 7,hH (.nilB 2 2 4)]
 ·obtain ⟨r1,h1,h⟩:=Qae h
  rcases Qak h with ⟨h2,h⟩|⟨h2,h⟩
  ·obtain rfl:=Option.some.inj h
   exact gr 28 [] [rp 5 hP,rp 3 (oI ((ltI r.type_ 0)=false)),nL Qaf.enc x0.types,hP,hP,rp 2 (oI ((ltI r.type_ 0)=false)),oR True ((ltI r.type_ 0)=false),bF h0,nL e_fn [196,197,198],tT,oO (QiR (rfl:getI ([196,197,198]:List Nat) 0=some 196)),oO (QiQ e_fn (rfl:getI ([196,197,198]:List Nat) 0=some 196)),rE e_fn (rfl:getI ([196,197,198]:List Nat) 0=some 196),cC (QeE h1),bT h2,hW 8,hH (.nilB 2 2 4)]
  ·obtain ⟨r2,h3,h⟩:=Qae h
   rcases Qak h with ⟨h4,h⟩|⟨h4,h⟩
   ·obtain rfl:=Option.some.inj h
    exact gr 46 [] [rp 5 hP,rp 3 (oI ((ltI r.type_ 0)=false)),nL Qaf.enc x0.types,hP,hP,rp 2 (oI ((ltI r.type_ 0)=false)),oR True ((ltI r.type_ 0)=false),bF h0,nL e_fn [196,197,198],tT,oO (QiR (rfl:getI ([196,197,198]:List Nat) 0=some 196)),oO (QiQ e_fn (rfl:getI ([196,197,198]:List Nat) 0=some 196)),rE e_fn (rfl:getI ([196,197,198]:List Nat) 0=some 196),cC (QeE h1),bF h2,tT,oO (QiR (rfl:getI ([196,197,198]:List Nat) 1=some 197)),oO (QiQ e_fn (rfl:getI ([196,197,198]:List Nat) 1=some 197)),rE e_fn (rfl:getI ([196,197,198]:List Nat) 1=some 197),cC (Qo4 h3),bT h4,hW 8,hH (.nilB 2 2 4)]
   ·obtain ⟨r3,h5,h⟩:=Qae h
    rcases Qak h with ⟨h6,h⟩|⟨h6,h⟩
    ·obtain rfl:=Option.some.inj h
     exact gr 64 [] [rp 5 hP,rp 3 (oI ((ltI r.type_ 0)=false)),nL Qaf.enc x0.types,hP,hP,rp 2 (oI ((ltI r.type_ 0)=false)),oR True ((ltI r.type_ 0)=false),bF h0,nL e_fn [196,197,198],tT,oO (QiR (rfl:getI ([196,197,198]:List Nat) 0=some 196)),oO (QiQ e_fn (rfl:getI ([196,197,198]:List Nat) 0=some 196)),rE e_fn (rfl:getI ([196,197,198]:List Nat) 0=some 196),cC (QeE h1),bF h2,tT,oO (QiR (rfl:getI ([196,197,198]:List Nat) 1=some 197)),oO (QiQ e_fn (rfl:getI ([196,197,198]:List Nat) 1=some 197)),rE e_fn (rfl:getI ([196,197,198]:List Nat) 1=some 197),cC (Qo4 h3),bF h4,tT,oO (QiR (rfl:getI ([196,197,198]:List Nat) 2=some 198)),oO (QiQ e_fn (rfl:getI ([196,197,198]:List Nat) 2=some 198)),rE e_fn (rfl:getI ([196,197,198]:List Nat) 2=some 198),cC (Qr2 h5),bT h6,hW 8,hH (.nilB 2 2 4)]
    ·obtain ⟨r4,h7,h⟩:=Qae h
     rcases Qak h with ⟨h8,h⟩|⟨h8,h⟩
     ·obtain rfl:=Option.some.inj h
      exact gr 79 [] [rp 5 hP,rp 3 (oI ((ltI r.type_ 0)=false)),nL Qaf.enc x0.types,hP,hP,rp 2 (oI ((ltI r.type_ 0)=false)),oR True ((ltI r.type_ 0)=false),bF h0,nL e_fn [196,197,198],tT,oO (QiR (rfl:getI ([196,197,198]:List Nat) 0=some 196)),oO (QiQ e_fn (rfl:getI ([196,197,198]:List Nat) 0=some 196)),rE e_fn (rfl:getI ([196,197,198]:List Nat) 0=some 196),cC (QeE h1),bF h2,tT,oO (QiR (rfl:getI ([196,197,198]:List Nat) 1=some 197)),oO (QiQ e_fn (rfl:getI ([196,197,198]:List Nat) 1=some 197)),rE e_fn (rfl:getI ([196,197,198]:List Nat) 1=some 197),cC (Qo4 h3),bF h4,tT,oO (QiR (rfl:getI ([196,197,198]:List Nat) 2=some 198)),oO (QiQ e_fn (rfl:getI ([196,197,198]:List Nat) 2=some 198)),rE e_fn (rfl:getI ([196,197,198]:List Nat) 2=some 198),cC (Qr2 h5),bF h6,fF,cC (QvQ h7),bT h8,hW 8,hH (.nilB 2 2 4)]
     ·obtain ⟨r5,h9,h⟩:=Qae h
      obtain rfl:=Option.some.inj h
      exact gr 80 [] [rp 5 hP,rp 3 (oI ((ltI r.type_ 0)=false)),nL Qaf.enc x0.types,hP,hP,rp 2 (oI ((ltI r.type_ 0)=false)),oR True ((ltI r.type_ 0)=false),bF h0,nL e_fn [196,197,198],tT,oO (QiR (rfl:getI ([196,197,198]:List Nat) 0=some 196)),oO (QiQ e_fn (rfl:getI ([196,197,198]:List Nat) 0=some 196)),rE e_fn (rfl:getI ([196,197,198]:List Nat) 0=some 196),cC (QeE h1),bF h2,tT,oO (QiR (rfl:getI ([196,197,198]:List Nat) 1=some 197)),oO (QiQ e_fn (rfl:getI ([196,197,198]:List Nat) 1=some 197)),rE e_fn (rfl:getI ([196,197,198]:List Nat) 1=some 197),cC (Qo4 h3),bF h4,tT,oO (QiR (rfl:getI ([196,197,198]:List Nat) 2=some 198)),oO (QiQ e_fn (rfl:getI ([196,197,198]:List Nat) 2=some 198)),rE e_fn (rfl:getI ([196,197,198]:List Nat) 2=some 198),cC (Qr2 h5),bF h6,fF,cC (QvQ h7),bF h8,hH (.draw 5 []),cC (Qyx h9)]
theorem Qiy {s0} {rv:QA9} (h:Qvr s0=some rv):AFn Tryz.prog 201 [.agg (Qca.enc s0)] [] (gG [lI rv.x0,lI rv.x1,lI rv.x2,lI rv.x3]) []:=by
 refine QaG Tryz.func201 (by kernel_rfl) (by kernel_rfl) (fun Γ=>?_)
 unfold Qvr at h
 obtain rfl:=Option.some.inj h
 exact gr 4 [] []
theorem QxB {s0} {rv:Int×Int} (h:Qt3 s0=some rv):AFn Tryz.prog 174 [.agg (Qca.enc s0)] [] (.tup [.one (lI rv.1),.one (lI rv.2)]) []:=by
 refine QaG Tryz.func174 (by kernel_rfl) (by kernel_rfl) (fun Γ=>?_)
 unfold Qt3 at h
 obtain ⟨r,h0,h⟩:=Qae h
 rcases Qak h with ⟨h1,h⟩|⟨h1,h⟩
 ·obtain rfl:=Option.some.inj h
  exact gr 23 [] [cC (Qiy h0),tT,oO (zL 0),oO (lT 0 4),bT h1]
 ·rcases Qak h with ⟨h2,h⟩|⟨h2,h⟩
  ·obtain rfl:=Option.some.inj h
   exact gr 39 [] [cC (Qiy h0),tT,oO (zL 0),oO (lT 0 4),bF h1,tT,oO (zL 1),oO (lT 1 4),bT h2]
  ·rcases Qak h with ⟨h3,h⟩|⟨h3,h⟩
   ·obtain rfl:=Option.some.inj h
    exact gr 55 [] [cC (Qiy h0),tT,oO (zL 0),oO (lT 0 4),bF h1,tT,oO (zL 1),oO (lT 1 4),bF h2,tT,oO (zL 2),oO (lT 2 4),bT h3]
   ·rcases Qak h with ⟨h4,h⟩|⟨h4,h⟩
    ·obtain rfl:=Option.some.inj h
     exact gr 71 [] [cC (Qiy h0),tT,oO (zL 0),oO (lT 0 4),bF h1,tT,oO (zL 1),oO (lT 1 4),bF h2,tT,oO (zL 2),oO (lT 2 4),bF h3,tT,oO (zL 3),oO (lT 3 4),bT h4]
    ·rcases Qak h with ⟨h5,h⟩|⟨h5,h⟩
     ·obtain rfl:=Option.some.inj h
      exact gr 84 [] [cC (Qiy h0),tT,oO (zL 0),oO (lT 0 4),bF h1,tT,oO (zL 1),oO (lT 1 4),bF h2,tT,oO (zL 2),oO (lT 2 4),bF h3,tT,oO (zL 3),oO (lT 3 4),bF h4,fF,rp 12 hP,rp 2 (oI ((gtI s0.cost 1073741824)=false)),oR True ((gtI s0.cost 1073741824)=false),rp 2 (oI (((gtI s0.cost 1073741824)||(geI s0.moved 16))=false)),oR True (((gtI s0.cost 1073741824)||(geI s0.moved 16))=false),rp 2 (oI ((((gtI s0.cost 1073741824)||(geI s0.moved 16))||(geI s0.other 16))=false)),oR True ((((gtI s0.cost 1073741824)||(geI s0.moved 16))||(geI s0.other 16))=false),bT h5]
     ·obtain rfl:=Option.some.inj h
      exact gr 85 [] [cC (Qiy h0),tT,oO (zL 0),oO (lT 0 4),bF h1,tT,oO (zL 1),oO (lT 1 4),bF h2,tT,oO (zL 2),oO (lT 2 4),bF h3,tT,oO (zL 3),oO (lT 3 4),bF h4,fF,rp 12 hP,rp 2 (oI ((gtI s0.cost 1073741824)=false)),oR True ((gtI s0.cost 1073741824)=false),rp 2 (oI (((gtI s0.cost 1073741824)||(geI s0.moved 16))=false)),oR True (((gtI s0.cost 1073741824)||(geI s0.moved 16))=false),rp 2 (oI ((((gtI s0.cost 1073741824)||(geI s0.moved 16))||(geI s0.other 16))=false)),oR True ((((gtI s0.cost 1073741824)||(geI s0.moved 16))||(geI s0.other 16))=false),bF h5]
theorem QuJ {x0 r} {rv:Int×Int} (h:Qtf x0 r=some rv):AFn Tryz.prog 138 [.agg (Qab.enc x0),.agg (Qax.enc r)] [] (.tup [.one (lI rv.1),.one (lI rv.2)]) []:=by
 refine QaG Tryz.func138 (by kernel_rfl) (by kernel_rfl) (fun Γ=>?_)
 unfold Qtf at h
 obtain ⟨r1,h0,h⟩:=Qae h
 rcases Qak h with ⟨h1,h⟩|⟨h1,h⟩
 ·obtain rfl:=Option.some.inj h
  exact gr 10 [] [cC (QrB h0),bT h1]
 ·obtain ⟨r2,h2,h⟩:=Qae h
  obtain rfl:=Option.some.inj h
  exact gr 11 [] [cC (QrB h0),bF h1,cC (QxB h2)]
theorem Qm6 {v} {rv:Int} (h:QiC v=some rv):AFn Tryz.prog 228 [.agg (Qad.enc v)] [] (one (lI rv)) []:=by
 refine QaG Tryz.func228 (by kernel_rfl) (by kernel_rfl) (fun Γ=>?_)
 unfold QiC at h
 rcases Qak h with ⟨h0,h⟩|⟨h0,h⟩
 ·obtain rfl:=Option.some.inj h
  exact gr 8 [] [bT h0]
 ·obtain rfl:=Option.some.inj h
  exact gr 9 [] [bF h0]
def QvP (Γ:Gam) (rv:Int) (cf:Cf):Prop:=Go Tryz.prog Tryz.f229 [] Γ (one (lI rv)) [] cf
def Qr5 (Γ:Gam) (rv:Int) (vals:List Int) (v:Int):Prop:=QvP Γ rv ⟨[.c 116,.l 116,.b 0,.c 15],⟨18,[vI 3 0,vL 6 1 vals Qaw,vI 7 (lenI vals),vI 8 v],[]⟩⟩
def Qq3 (Γ:Gam) (rv:Int) (vals:List Int):Prop:=QvP Γ rv ⟨[.c 15],⟨18,[vI 3 0],[]⟩⟩
theorem Qv2 (Γ:Gam) (rv:Int) {vals} {s:Int} {e:(Unit)⊕(Int)} (h:QaX (fun s=>Qnd vals s) s=some e) (hD:sel e (fun e=>Qq3 Γ rv vals) (fun e=>e=rv)):Qr5 Γ rv vals s:=by
 refine QaA (C:=fun (s:Int)=>Qr5 Γ rv vals s) (D:=fun (e:(Unit)⊕(Int))=>sel e (fun e=>Qq3 Γ rv vals) (fun e=>e=rv)) ?_ h hD
 clear h hD s e
 intro v z_ h hI hE
 replace h:Qnd vals v=_:=h
 unfold Qnd at h
 rcases Qak h with ⟨h0,h⟩|⟨h0,h⟩
 ·obtain ⟨x0,h1,h⟩:=Qae h
  rcases Qak h with ⟨h2,h⟩|⟨h2,h⟩
  ·obtain rfl:=(hE _ (oJ h):_=rv)
   exact gr 14 [] [bT h0,cE Qaw h1,bT h2]
  ·exact gn 16 [3,6,7,8] [] [bT h0,cE Qaw h1,bF h2] (hI _ (oJ h))
 ·exact gn 5 [3] [] [bF h0] (hE _ (oJ h))
theorem Qye {vals} {rv:Int} (h:Qvc vals=some rv):AFn Tryz.prog 229 [.one (lL 1 vals Qaw)] [] (one (lI rv)) []:=by
 refine QaG Tryz.func229 (by kernel_rfl) (by kernel_rfl) (fun Γ=>?_)
 unfold Qvc at h
 obtain ⟨e0,h3,h⟩:=Qae h
 refine gn 9 [3,6,7,8] [] [nL Qaw vals] (Qv2 Γ rv h3 ?_)
 rcases e0 with e0|e0
 ·replace h:(some 0:Option Int)=some _:=h
  obtain rfl:=Option.some.inj h
  exact gr 2 [] []
 ·obtain ⟨r,rfl⟩:∃ x,x=e0:=⟨_,rfl⟩
  replace h:(some r:Option Int)=some _:=h
  exact Option.some.inj h
theorem Qcv {x0} {rv:Bool} (h:Qne x0=some rv):AFn Tryz.prog 253 [.one (lI x0)] [] (one (.bool rv)) []:=by
 refine QaG Tryz.func253 (by kernel_rfl) (by kernel_rfl) (fun Γ=>?_)
 unfold Qne at h
 obtain rfl:=Option.some.inj h
 exact gr 4 [] []
theorem QoD {x0 y} {rv:Int} (h:QjJ x0 y=some rv):AFn Tryz.prog 230 [.one (lI x0),.one (lI y)] [] (one (lI rv)) []:=by
 refine QaG Tryz.func230 (by kernel_rfl) (by kernel_rfl) (fun Γ=>?_)
 unfold QjJ at h
 obtain ⟨r,h0,h⟩:=Qae h
 obtain ⟨r1,h1,h⟩:=Qae h
 rcases Qak h with ⟨h2,h⟩|⟨h2,h⟩
 ·rcases Qak h with ⟨h3,h⟩|⟨h3,h⟩
  ·obtain rfl:=Option.some.inj h
   exact gr 16 [] [cC (Qcv h0),cC (Qcv h1),bT h2,bT h3]
  ·obtain rfl:=Option.some.inj h
   exact gr 17 [] [cC (Qcv h0),cC (Qcv h1),bT h2,bF h3]
 ·rcases Qak h with ⟨h4,h⟩|⟨h4,h⟩
  ·obtain rfl:=Option.some.inj h
   exact gr 17 [] [cC (Qcv h0),cC (Qcv h1),bF h2,bT h4]
  ·rcases Qak h with ⟨h5,h⟩|⟨h5,h⟩
   ·obtain rfl:=Option.some.inj h
    exact gr 22 [] [cC (Qcv h0),cC (Qcv h1),bF h2,bF h4,bT h5]
   ·rcases Qak h with ⟨h6,h⟩|⟨h6,h⟩
    ·obtain rfl:=Option.some.inj h
     exact gr 27 [] [cC (Qcv h0),cC (Qcv h1),bF h2,bF h4,bF h5,bT h6]
    ·obtain rfl:=Option.some.inj h
     exact gr 28 [] [cC (Qcv h0),cC (Qcv h1),bF h2,bF h4,bF h5,bF h6]
theorem Qpl {a b} {rv:Int} (h:Qoj a b=some rv):AFn Tryz.prog 203 [.agg (Qad.enc a),.agg (Qad.enc b)] [] (one (lI rv)) []:=by
 refine QaG Tryz.func203 (by kernel_rfl) (by kernel_rfl) (fun Γ=>?_)
 unfold Qoj at h
 obtain ⟨r,h0,h⟩:=Qae h
 obtain ⟨r1,h1,h⟩:=Qae h
 obtain ⟨r2,h2,h⟩:=Qae h
 obtain ⟨r3,h3,h⟩:=Qae h
 obtain ⟨r4,h4,h⟩:=Qae h
 obtain rfl:=Option.some.inj h
 exact gr 6 [] [hH (.draw 15 []),cC (QoD h0),cC (Qm6 h1),cC (Qm6 h2),cC (QoD h3),oO (Eq.refl ([r,r3].map Qaw).length),cC (Qye h4)]
def QbN (Γ:Gam) (rv:Int) (cf:Cf):Prop:=Go Tryz.prog Tryz.f202 [] Γ (one (lI rv)) [] cf
def QbI (Γ:Gam) (rv:Int) (s1:List Qad) (s2:List Qad) (v:Int):Prop:=QbN Γ rv ⟨[.c 52,.l 52,.b 0,.c 7],⟨39,[vL 0 2 s1 Qad.enc,vL 1 2 s2 Qad.enc,(2,one (.fn (.func 203) [])),vL 11 2 s1 Qad.enc,vI 12 (lenI s1),vI 13 v],[]⟩⟩
def QbF (Γ:Gam) (rv:Int) (s1:List Qad) (s2:List Qad):Prop:=QbN Γ rv ⟨[.c 7],⟨39,[vL 0 2 s1 Qad.enc,vL 1 2 s2 Qad.enc],[]⟩⟩
theorem Qc4 (Γ:Gam) (rv:Int) {s1 s2} {s:Int} {e:(Unit)⊕(Int)} (h:QaX (fun s=>QaV s1 s2 s) s=some e) (hD:sel e (fun e=>QbF Γ rv s1 s2) (fun e=>e=rv)):QbI Γ rv s1 s2 s:=by
 refine QaA (C:=fun (s:Int)=>QbI Γ rv s1 s2 s) (D:=fun (e:(Unit)⊕(Int))=>sel e (fun e=>QbF Γ rv s1 s2) (fun e=>e=rv)) ?_ h hD
 clear h hD s e
 intro v z_ h hI hE
 replace h:QaV s1 s2 v=_:=h
 unfold QaV at h
 rcases Qak h with ⟨h0,h⟩|⟨h0,h⟩
 ·obtain ⟨x0,h1,h⟩:=Qae h
  rcases Qak h with ⟨h2,h⟩|⟨h2,h⟩
  ·obtain rfl:=(hE _ (oJ h):_=rv)
   exact gr 15 [] [bT h0,cE Qad.enc h1,nL Qad.enc s2,bT h2]
  ·obtain ⟨x1,h3,h⟩:=Qae h
   obtain ⟨r,h4,h⟩:=Qae h
   rcases Qak h with ⟨h5,h⟩|⟨h5,h⟩
   ·obtain rfl:=(hE _ (oJ h):_=rv)
    exact gr 23 [] [bT h0,cE Qad.enc h1,nL Qad.enc s2,bF h2,cE Qad.enc h3,cC (Qpl h4),bT h5]
   ·exact gn 25 [0,1,2,11,12,13] [] [bT h0,cE Qad.enc h1,nL Qad.enc s2,bF h2,cE Qad.enc h3,cC (Qpl h4),bF h5] (hI _ (oJ h))
 ·exact gn 5 [0,1] [] [bF h0] (hE _ (oJ h))
theorem Qdq {s1 s2} {rv:Int} (h:Qbe s1 s2=some rv):AFn Tryz.prog 202 [.one (lL 2 s1 Qad.enc),.one (lL 2 s2 Qad.enc),.one (.fn (.func 203) [])] [] (one (lI rv)) []:=by
 refine QaG Tryz.func202 (by kernel_rfl) (by kernel_rfl) (fun Γ=>?_)
 unfold Qbe at h
 obtain ⟨e0,h6,h⟩:=Qae h
 refine gn 7 [0,1,2,11,12,13] [] [nL Qad.enc s1] (Qc4 Γ rv h6 ?_)
 rcases e0 with e0|e0
 ·replace h:(br (ltI (lenI s1) (lenI s2)) (some (-1)) (some 0):Option Int)=some _:=h
  rcases Qak h with ⟨h7,h⟩|⟨h7,h⟩
  ·obtain rfl:=Option.some.inj h
   exact gr 6 [] [nL Qad.enc s1,nL Qad.enc s2,bT h7]
  ·obtain rfl:=Option.some.inj h
   exact gr 7 [] [nL Qad.enc s1,nL Qad.enc s2,bF h7]
 ·obtain ⟨r1,rfl⟩:∃ x,x=e0:=⟨_,rfl⟩
  replace h:(some r1:Option Int)=some _:=h
  exact Option.some.inj h
theorem Qxe {a b} {rv:Bool} (h:QsQ a b=some rv):AFn Tryz.prog 175 [.one (lL 2 a Qad.enc),.one (lL 2 b Qad.enc)] [] (one (.bool rv)) []:=by
 refine QaG Tryz.func175 (by kernel_rfl) (by kernel_rfl) (fun Γ=>?_)
 unfold QsQ at h
 obtain ⟨r,h0,h⟩:=Qae h
 obtain rfl:=Option.some.inj h
 exact gr 4 [] [cC (Qdq h0)]
theorem Qum {a b} {rv:Bool} (h:Qu8 a b=some rv):AFn Tryz.prog 140 [.agg (Qay.enc a),.agg (Qay.enc b)] [] (one (.bool rv)) []:=by
 refine QaG Tryz.func140 (by kernel_rfl) (by kernel_rfl) (fun Γ=>?_)
 unfold Qu8 at h
 rcases Qak h with ⟨h0,h⟩|⟨h0,h⟩
 ·obtain rfl:=Option.some.inj h
  exact gr 8 [] [bT h0]
 ·obtain ⟨r,h1,h⟩:=Qae h
  obtain rfl:=Option.some.inj h
  exact gr 9 [] [bF h0,cC (Qxe h1)]
def Qg9 (Γ:Gam) (rv:Bool) (cf:Cf):Prop:=Go Tryz.prog Tryz.f176 [] Γ (one (.bool rv)) [] cf
def Qpm (Γ:Gam) (rv:Bool) (x0:Qab) (l:List Qad) (v:Qad) (r1:List Qad) (v1:Int):Prop:=Qg9 Γ rv ⟨[.c 116,.l 116,.b 0,.c 15],⟨63,[vL 1 2 l Qad.enc,vP 3 0 6,vP 5 1 2,vL 21 2 r1 Qad.enc,vI 22 (lenI r1),vI 23 v1],[oX 6 30 (Qab.enc x0),oX 2 138 (Qad.enc v)]⟩⟩
def Qom (Γ:Gam) (rv:Bool) (x0:Qab) (l:List Qad) (v:Qad) (r1:List Qad):Prop:=Qg9 Γ rv ⟨[.c 15],⟨63,[vL 1 2 l Qad.enc,vP 3 0 6,vP 5 1 2],[oX 6 30 (Qab.enc x0),oX 2 138 (Qad.enc v)]⟩⟩
def Qpo (Γ:Gam) (rv:Bool) (x0:Qab) (l:List Qad) (v:Qad) (v2:Int) (r3:List Qad) (v3:Int):Prop:=Qg9 Γ rv ⟨[.c 125340,.l 125340,.b 4,.b 3,.c 1959,.l 244,.b 2,.c 31],⟨63,[vL 1 2 l Qad.enc,vP 3 0 6,vP 5 1 2,vL 36 2 x0.before Qav.enc,vI 37 (lenI x0.before),vI 38 v2,vL 51 2 r3 Qad.enc,vI 52 (lenI r3),vI 53 v3],[oX 6 30 (Qab.enc x0),oX 2 138 (Qad.enc v)]⟩⟩
def Qoo (Γ:Gam) (rv:Bool) (x0:Qab) (l:List Qad) (v:Qad) (v2:Int) (r3:List Qad):Prop:=Qg9 Γ rv ⟨[.b 3,.c 1959,.l 244,.b 2,.c 31],⟨63,[vL 1 2 l Qad.enc,vP 3 0 6,vP 5 1 2,vL 36 2 x0.before Qav.enc,vI 37 (lenI x0.before),vI 38 v2],[oX 6 30 (Qab.enc x0),oX 2 138 (Qad.enc v)]⟩⟩
def Qpn (Γ:Gam) (rv:Bool) (x0:Qab) (l:List Qad) (v:Qad) (v2:Int):Prop:=Qg9 Γ rv ⟨[.c 244,.l 244,.b 2,.c 31],⟨63,[vL 1 2 l Qad.enc,vP 3 0 6,vP 5 1 2,vL 36 2 x0.before Qav.enc,vI 37 (lenI x0.before),vI 38 v2],[oX 6 30 (Qab.enc x0),oX 2 138 (Qad.enc v)]⟩⟩
def Qon (Γ:Gam) (rv:Bool) (x0:Qab) (l:List Qad) (v:Qad):Prop:=Qg9 Γ rv ⟨[.c 31],⟨63,[],[]⟩⟩
theorem Qua (Γ:Gam) (rv:Bool) {x0 l v r1} {s:Int} {e:(Unit)⊕(Bool)} (h:QaX (fun s=>Qjg x0 l v r1 s) s=some e) (hD:sel e (fun e=>Qom Γ rv x0 l v r1) (fun e=>e=rv)):Qpm Γ rv x0 l v r1 s:=by
 refine QaA (C:=fun (s:Int)=>Qpm Γ rv x0 l v r1 s) (D:=fun (e:(Unit)⊕(Bool))=>sel e (fun e=>Qom Γ rv x0 l v r1) (fun e=>e=rv)) ?_ h hD
 clear h hD s e
 intro v1 z_ h hI hE
 replace h:Qjg x0 l v r1 v1=_:=h
 unfold Qjg at h
 rcases Qak h with ⟨h3,h⟩|⟨h3,h⟩
 ·obtain ⟨x1,h4,h⟩:=Qae h
  rcases Qak h with ⟨h5,h⟩|⟨h5,h⟩
  ·exact gn 14 [1,3,5] [0,1] [bT h3,cE Qad.enc h4,bT h5] (hE _ (oJ h))
  ·obtain ⟨r2,h6,h⟩:=Qae h
   rcases Qak h with ⟨h7,h⟩|⟨h7,h⟩
   ·obtain rfl:=(hE _ (oJ h):_=rv)
    exact gr 19 [] [bT h3,cE Qad.enc h4,bF h5,cC (Qde h6),bT h7]
   ·exact gn 21 [1,3,5,21,22,23] [0,1] [bT h3,cE Qad.enc h4,bF h5,cC (Qde h6),bF h7] (hI _ (oJ h))
 ·exact gn 5 [1,3,5] [0,1] [bF h3] (hE _ (oJ h))
theorem Quc (Γ:Gam) (rv:Bool) {x0 l v v2 r3} {s:Int} {e:(Unit)⊕(Bool)} (h:QaX (fun s=>Qjh x0 l v v2 r3 s) s=some e) (hD:sel e (fun e=>Qoo Γ rv x0 l v v2 r3) (fun e=>e=rv)):Qpo Γ rv x0 l v v2 r3 s:=by
 refine QaA (C:=fun (s:Int)=>Qpo Γ rv x0 l v v2 r3 s) (D:=fun (e:(Unit)⊕(Bool))=>sel e (fun e=>Qoo Γ rv x0 l v v2 r3) (fun e=>e=rv)) ?_ h hD
 clear h hD s e
 intro v3 z_ h hI hE
 replace h:Qjh x0 l v v2 r3 v3=_:=h
 unfold Qjh at h
 rcases Qak h with ⟨h13,h⟩|⟨h13,h⟩
 ·obtain ⟨x3,h14,h⟩:=Qae h
  obtain ⟨r4,h15,h⟩:=Qae h
  rcases Qak h with ⟨h16,h⟩|⟨h16,h⟩
  ·obtain rfl:=(hE _ (oJ h):_=rv)
   exact gr 14 [] [bT h13,cE Qad.enc h14,cC (Qde h15),bT h16]
  ·exact gn 16 [1,3,5,36,37,38,51,52,53] [0,1] [bT h13,cE Qad.enc h14,cC (Qde h15),bF h16] (hI _ (oJ h))
 ·exact gn 5 [1,3,5,36,37,38] [0,1] [bF h13] (hE _ (oJ h))
theorem Qub (Γ:Gam) (rv:Bool) {x0 l v} {s:Int} {e:(Unit)⊕(Bool)} (h:QaX (fun s=>QhF x0 l v s) s=some e) (hD:sel e (fun e=>Qon Γ rv x0 l v) (fun e=>e=rv)):Qpn Γ rv x0 l v s:=by
 refine QaA (C:=fun (s:Int)=>Qpn Γ rv x0 l v s) (D:=fun (e:(Unit)⊕(Bool))=>sel e (fun e=>Qon Γ rv x0 l v) (fun e=>e=rv)) ?_ h hD
 clear h hD s e
 intro v2 z_ h hI hE
 replace h:QhF x0 l v v2=_:=h
 unfold QhF at h
 rcases Qak h with ⟨h9,h⟩|⟨h9,h⟩
 ·obtain ⟨x2,h10,h⟩:=Qae h
  rcases Qak h with ⟨h11,h⟩|⟨h11,h⟩
  ·exact gn 16 [1,3,5,36,37,38] [0,1] [bT h9,cE Qav.enc h10,oO (zL 1),oO (lT 1 2),bT h11] (hI _ (oJ h))
  ·obtain ⟨r3,h12,h⟩:=Qae h
   obtain ⟨e1,h17,h⟩:=Qae h
   refine gn 18 [1,3,5,36,37,38,51,52,53] [0,1] [bT h9,cE Qav.enc h10,oO (zL 1),oO (lT 1 2),bF h11,oO (zL 0),oO (lT 0 2),cC (QhL h12),nL Qad.enc r3] (Quc Γ rv h17 ?_)
   rcases e1 with e1|e1
   ·replace h:(some (.inl (addK .i64 v2 1)):Option ((Int)⊕((Unit)⊕(Bool))))=some _:=h
    exact gn 3 [1,3,5,36,37,38] [0,1] [] (hI _ (oJ h))
   ·obtain ⟨r5,rfl⟩:∃ x,x=e1:=⟨_,rfl⟩
    replace h:(some (.inr (.inr r5)):Option ((Int)⊕((Unit)⊕(Bool))))=some _:=h
    exact (hE _ (oJ h):_=rv)
 ·exact gn 5 [] [] [bF h9] (hE _ (oJ h))
theorem QrJ {x0 l v} {rv:Bool} (h:QqT x0 l v=some rv):AFn Tryz.prog 176 [.agg (Qab.enc x0),.one (lL 2 l Qad.enc),.agg (Qad.enc v)] [] (one (.bool rv)) []:=by
 refine QaG Tryz.func176 (by kernel_rfl) (by kernel_rfl) (fun Γ=>?_)
 unfold QqT at h
 obtain ⟨r,h0,h⟩:=Qae h
 rcases Qak h with ⟨h1,h⟩|⟨h1,h⟩
 ·obtain rfl:=Option.some.inj h
  exact gr 8 [] [cC (Qde h0),bT h1]
 ·obtain ⟨r1,h2,h⟩:=Qae h
  obtain ⟨e0,h8,h⟩:=Qae h
  refine gn 12 [1,3,5,21,22,23] [0,1] [cC (Qde h0),bF h1,cC (QhL h2),nL Qad.enc r1] (Qua Γ rv h8 ?_)
  rcases e0 with e0|e0
  ·replace h:(bnd (QaX (fun s=>QhF x0 l v s) 0) (fun e=>sel e (fun (_:Unit)=>some true) (fun r6=>some r6)):Option Bool)=some _:=h
   obtain ⟨e2,h18,h⟩:=Qae h
   refine gn 5 [1,3,5,36,37,38] [0,1] [nL Qav.enc x0.before] (Qub Γ rv h18 ?_)
   rcases e2 with e2|e2
   ·replace h:(some true:Option Bool)=some _:=h
    obtain rfl:=Option.some.inj h
    exact gr 2 [] []
   ·obtain ⟨r6,rfl⟩:∃ x,x=e2:=⟨_,rfl⟩
    replace h:(some r6:Option Bool)=some _:=h
    exact Option.some.inj h
  ·obtain ⟨r7,rfl⟩:∃ x,x=e0:=⟨_,rfl⟩
   replace h:(some r7:Option Bool)=some _:=h
   exact Option.some.inj h
def Qlb (Γ:Gam) (rv:List Qad) (cf:Cf):Prop:=Go Tryz.prog Tryz.f141 [] Γ (one (lL 2 rv Qad.enc)) [] cf
def Qqq (Γ:Gam) (rv:List Qad) (x0:Qab) (set_:Int) (l:List Qad) (v:Int) (r:List Qad) (l2:List Qad) (v1:Int):Prop:=Qlb Γ rv ⟨[.c 59804,.l 59804,.b 2,.b 1,.c 935,.l 116,.b 0,.c 15],⟨53,[vI 1 set_,vL 2 2 l Qad.enc,vP 3 0 6,vO 7 1 2 l2 Qad.enc,vL 13 16 x0.orders Qac.enc,vI 14 (lenI x0.orders),vI 15 v,vL 36 2 r Qad.enc,vI 37 (lenI r),vI 38 v1],[oX 6 30 (Qab.enc x0),oS 2 138 l2 Qad.enc]⟩⟩
def Qpk (Γ:Gam) (rv:List Qad) (x0:Qab) (set_:Int) (l:List Qad) (v:Int) (r:List Qad) (l3:List Qad):Prop:=Qlb Γ rv ⟨[.b 1,.c 935,.l 116,.b 0,.c 15],⟨53,[vI 1 set_,vL 2 2 l Qad.enc,vP 3 0 6,vO 7 1 2 l3 Qad.enc,vL 13 16 x0.orders Qac.enc,vI 14 (lenI x0.orders),vI 15 v],[oX 6 30 (Qab.enc x0),oS 2 138 l3 Qad.enc]⟩⟩
def Qqp (Γ:Gam) (rv:List Qad) (x0:Qab) (set_:Int) (l:List Qad) (l1:List Qad) (v:Int):Prop:=Qlb Γ rv ⟨[.c 116,.l 116,.b 0,.c 15],⟨53,[vI 1 set_,vL 2 2 l Qad.enc,vP 3 0 6,vO 7 1 2 l1 Qad.enc,vL 13 16 x0.orders Qac.enc,vI 14 (lenI x0.orders),vI 15 v],[oX 6 30 (Qab.enc x0),oS 2 138 l1 Qad.enc]⟩⟩
def Qpj (Γ:Gam) (rv:List Qad) (x0:Qab) (set_:Int) (l:List Qad) (l4:List Qad):Prop:=Qlb Γ rv ⟨[.c 15],⟨53,[vO 7 0 2 l4 Qad.enc],[oS 2 138 l4 Qad.enc]⟩⟩
theorem QuX (Γ:Gam) (rv:List Qad) {x0 set_ l v r} {s:List Qad×Int} {e:List Qad} (h:QaX (fun s=>Qkg x0 set_ l v r s.1 s.2) s=some e) (hD:Qpk Γ rv x0 set_ l v r e):Qqq Γ rv x0 set_ l v r s.1 s.2:=by
 refine QaA (C:=fun (s:List Qad×Int)=>Qqq Γ rv x0 set_ l v r s.1 s.2) (D:=fun (e:List Qad)=>Qpk Γ rv x0 set_ l v r e) ?_ h hD
 clear h hD s e
 rintro ⟨l2,v1⟩ z_ h hI hE
 replace h:Qkg x0 set_ l v r l2 v1=_:=h
 unfold Qkg at h
 rcases Qak h with ⟨h6,h⟩|⟨h6,h⟩
 ·obtain ⟨x2,h7,h⟩:=Qae h
  obtain ⟨r1,h8,h⟩:=Qae h
  rcases Qak h with ⟨h9,h⟩|⟨h9,h⟩
  ·obtain ⟨h10,h⟩:=Qat h
   exact gn 16 [1,2,3,7,13,14,15,36,37,38] [0,4] [bT h6,cE Qad.enc h7,cC (QrJ h8),bT h9,oO (Eq.refl ([x2].map Qad.enc).length),aO Qad.enc h10] (hI _ (oJ h))
  ·exact gn 16 [1,2,3,7,13,14,15,36,37,38] [0,1] [bT h6,cE Qad.enc h7,cC (QrJ h8),bF h9] (hI _ (oJ h))
 ·exact gn 5 [1,2,3,7,13,14,15] [0,1] [bF h6] (hE _ (oJ h))
theorem QuW (Γ:Gam) (rv:List Qad) {x0 set_ l} {s:List Qad×Int} {e:List Qad} (h:QaX (fun s=>Qkf x0 set_ l s.1 s.2) s=some e) (hD:Qpj Γ rv x0 set_ l e):Qqp Γ rv x0 set_ l s.1 s.2:=by
 refine QaA (C:=fun (s:List Qad×Int)=>Qqp Γ rv x0 set_ l s.1 s.2) (D:=fun (e:List Qad)=>Qpj Γ rv x0 set_ l e) ?_ h hD
 clear h hD s e
 rintro ⟨l1,v⟩ z_ h hI hE
 replace h:Qkf x0 set_ l l1 v=_:=h
 unfold Qkf at h
 rcases Qak h with ⟨h0,h⟩|⟨h0,h⟩
 ·obtain ⟨x1,h1,h⟩:=Qae h
  rcases Qak h with ⟨h2,h⟩|⟨h2,h⟩
  ·exact gn 16 [1,2,3,7,13,14,15] [0,1] [bT h0,cE Qac.enc h1,rp 6 (bT h2),rp 4 tT] (hI _ (oJ h))
  ·obtain ⟨h3,h⟩:=Qat h
   rcases Qak h with ⟨h4,h⟩|⟨h4,h⟩
   ·exact gn 16 [1,2,3,7,13,14,15] [0,1] [bT h0,cE Qac.enc h1,rp 3 (bF h2),oO (h3),rp 3 (bF h2),hP,hP,hP,oI ((eqI (andK .i64 (shrK .i64 set_ v) 1) 0)=false),oR True ((eqI (andK .i64 (shrK .i64 set_ v) 1) 0)=false),bT h4] (hI _ (oJ h))
   ·obtain ⟨r,h5,h⟩:=Qae h
    obtain ⟨e0,h11,h⟩:=Qae h
    refine gn 18 [1,2,3,7,13,14,15,36,37,38] [0,1] [bT h0,cE Qac.enc h1,rp 3 (bF h2),oO (h3),rp 3 (bF h2),hP,hP,hP,oI ((eqI (andK .i64 (shrK .i64 set_ v) 1) 0)=false),oR True ((eqI (andK .i64 (shrK .i64 set_ v) 1) 0)=false),bF h4,cC (QhL h5),nL Qad.enc r] (QuX Γ rv h11 ?_)
    obtain ⟨l3,rfl⟩:∃ x,x=e0:=⟨_,rfl⟩
    replace h:(some (.inl (l3,(addK .i64 v 1))):Option ((List Qad×Int)⊕(List Qad)))=some _:=h
    exact gn 3 [1,2,3,7,13,14,15] [0,1] [] (hI _ (oJ h))
 ·exact gn 5 [7] [1] [bF h0] (hE _ (oJ h))
theorem Qxf {x0 set_ l} {rv:List Qad} (h:QsR x0 set_ l=some rv):AFn Tryz.prog 141 [.agg (Qab.enc x0),.one (lI set_),.one (lL 2 l Qad.enc)] [] (one (lL 2 rv Qad.enc)) []:=by
 refine QaG Tryz.func141 (by kernel_rfl) (by kernel_rfl) (fun Γ=>?_)
 unfold QsR at h
 obtain ⟨e1,h12,h⟩:=Qae h
 refine gn 9 [1,2,3,7,13,14,15] [0,1] [nL Qac.enc x0.orders,hW 3,hH (.adopt 7 2 138)] (QuW Γ rv h12 ?_)
 obtain ⟨l4,rfl⟩:∃ x,x=e1:=⟨_,rfl⟩
 replace h:(some l4:Option (List Qad))=some _:=h
 obtain rfl:=Option.some.inj h
 exact gr 2 [] [hW 4,hH (.frz 0),rp 3 (eL l4 Qad.enc)]
def Qfk (Γ:Gam) (rv:Int) (cf:Cf):Prop:=Go Tryz.prog Tryz.f206 [] Γ (one (lI rv)) [] cf
def QeN (Γ:Gam) (rv:Int) (s0:List Qaq) (v:Qaq) (v1:Int):Prop:=Qfk Γ rv ⟨[.c 52,.l 52,.b 0,.c 7],⟨19,[vL 0 2 s0 Qaq.enc,vP 3 0 2,vI 7 (lenI s0),vI 8 v1],[oX 2 183 (Qaq.enc v)]⟩⟩
def QeI (Γ:Gam) (rv:Int) (s0:List Qaq) (v:Qaq):Prop:=Qfk Γ rv ⟨[.c 7],⟨19,[],[]⟩⟩
theorem QhG (Γ:Gam) (rv:Int) {s0 v} {s:Int} {e:(Unit)⊕(Int)} (h:QaX (fun s=>Qci s0 v s) s=some e) (hD:sel e (fun e=>QeI Γ rv s0 v) (fun e=>e=rv)):QeN Γ rv s0 v s:=by
 refine QaA (C:=fun (s:Int)=>QeN Γ rv s0 v s) (D:=fun (e:(Unit)⊕(Int))=>sel e (fun e=>QeI Γ rv s0 v) (fun e=>e=rv)) ?_ h hD
 clear h hD s e
 intro v1 z_ h hI hE
 replace h:Qci s0 v v1=_:=h
 unfold Qci at h
 rcases Qak h with ⟨h0,h⟩|⟨h0,h⟩
 ·obtain ⟨x0,h1,h⟩:=Qae h
  rcases Qak h with ⟨h2,h⟩|⟨h2,h⟩
  ·obtain rfl:=(hE _ (oJ h):_=rv)
   exact gr 14 [] [bT h0,hH (.draw 6 []),cE Qaq.enc h1,bT h2]
  ·exact gn 16 [0,3,7,8] [0] [bT h0,hH (.draw 6 []),cE Qaq.enc h1,bF h2] (hI _ (oJ h))
 ·exact gn 5 [] [] [bF h0] (hE _ (oJ h))
theorem Qie {s0 v} {rv:Int} (h:QdW s0 v=some rv):AFn Tryz.prog 206 [.one (lL 2 s0 Qaq.enc),.agg (Qaq.enc v)] [] (one (lI rv)) []:=by
 refine QaG Tryz.func206 (by kernel_rfl) (by kernel_rfl) (fun Γ=>?_)
 unfold QdW at h
 obtain ⟨e0,h3,h⟩:=Qae h
 refine gn 7 [0,3,7,8] [0] [nL Qaq.enc s0] (QhG Γ rv h3 ?_)
 rcases e0 with e0|e0
 ·replace h:(some (-1):Option Int)=some _:=h
  obtain rfl:=Option.some.inj h
  exact gr 2 [] []
 ·obtain ⟨r,rfl⟩:∃ x,x=e0:=⟨_,rfl⟩
  replace h:(some r:Option Int)=some _:=h
  exact Option.some.inj h
theorem QeF {s0 v} {rv:Bool} (h:Qc6 s0 v=some rv):AFn Tryz.prog 178 [.one (lL 2 s0 Qaq.enc),.agg (Qaq.enc v)] [] (one (.bool rv)) []:=by
 refine QaG Tryz.func178 (by kernel_rfl) (by kernel_rfl) (fun Γ=>?_)
 unfold Qc6 at h
 obtain ⟨r,h0,h⟩:=Qae h
 obtain rfl:=Option.some.inj h
 exact gr 4 [] [cC (Qie h0)]
theorem QjI {l s0} {rv:List Qaq} (h:Qjq l s0=some rv):AFn Tryz.prog 145 [.one (lO 0 2 l Qaq.enc),.agg (Qaq.enc s0)] [bS 2 183 l Qaq.enc] (one (lO 0 2 rv Qaq.enc)) [oS 2 183 rv Qaq.enc]:=by
 refine QaG Tryz.func145 (by kernel_rfl) (by kernel_rfl) (fun Γ=>?_)
 unfold Qjq at h
 obtain ⟨r,h0,h⟩:=Qae h
 rcases Qak h with ⟨h1,h⟩|⟨h1,h⟩
 ·obtain rfl:=Option.some.inj h
  exact gr 8 [0] [eL l Qaq.enc,cC (QeF h0),bT h1]
 ·obtain ⟨h2,h⟩:=Qat h
  obtain rfl:=Option.some.inj h
  exact gr 9 [3] [eL l Qaq.enc,cC (QeF h0),bF h1,oO (Eq.refl ([s0].map Qaq.enc).length),aO Qaq.enc h2]
theorem QsZ {s0 arrive} {rv:Int×Int} (h:QsY s0 arrive=some rv):AFn Tryz.prog 177 [.agg (Qap.enc s0),.one (lI arrive)] [] (.tup [.one (lI rv.1),.one (lI rv.2)]) []:=by
 refine QaG Tryz.func177 (by kernel_rfl) (by kernel_rfl) (fun Γ=>?_)
 unfold QsY at h
 obtain ⟨r,h0,h⟩:=Qae h
 rcases Qak h with ⟨h1,h⟩|⟨h1,h⟩
 ·obtain rfl:=Option.some.inj h
  exact gr 10 [] [cC (Qld h0),bT h1]
 ·obtain rfl:=Option.some.inj h
  exact gr 11 [] [cC (Qld h0),bF h1]
theorem Qi7 {s0} {rv:List Qad} (h:Qet s0=some rv):AFn Tryz.prog 144 [.one (lL 2 s0 Qad.enc)] [] (one (.sl true 2 (rv.map Qad.enc))) []:=by
 refine QaG Tryz.func144 (by kernel_rfl) (by kernel_rfl) (fun Γ=>?_)
 unfold Qet at h
 obtain ⟨l,h0,h⟩:=Qae h
 obtain rfl:=Option.some.inj h
 exact gr 4 [] [rp 2 (nL Qad.enc s0),hH (.rows (l.map Qad.enc)),oO (Eq.refl (lenI s0)),oO (sl1 h0),oO (sl2 h0),oO (sl3 Qad.enc h0),oO (Int.le_refl (lenI s0)),oO (sl3 Qad.enc h0),oO (sl6 Qad.enc h0)]
theorem QkL {best some_ next_} {rv:Qay} (h:Qfr best some_ next_=some rv):AFn Tryz.prog 139 [.agg (Qay.enc best),.one (.bool some_),.agg (Qay.enc next_),.one (.fn (.func 140) [])] [] (gG [lI rv.type_,lI rv.set_,lI rv.price,lI rv.route.type_,lI rv.route.start,lL 1 rv.route.rests Qff,lL 2 rv.route.visits Qad.enc]) []:=by
 refine QaG Tryz.func139 (by kernel_rfl) (by kernel_rfl) (fun Γ=>?_)
 unfold Qfr at h
 rcases Qak h with ⟨h0,h⟩|⟨h0,h⟩
 ·obtain ⟨r,h1,h⟩:=Qae h
  rcases Qak h with ⟨h2,h⟩|⟨h2,h⟩
  ·obtain rfl:=Option.some.inj h
   exact gr 8 [] [rp 4 (nF h0),cC (Qum h1),nF h0,bT h2]
  ·obtain rfl:=Option.some.inj h
   exact gr 9 [] [rp 4 (nF h0),cC (Qum h1),nF h0,bF h2]
 ·obtain rfl:=Option.some.inj h
  exact gr 8 [] [rp 5 (nT h0),tT]
theorem QqA {s0 l depart driven} {rv:List Qaq×Qau} (h:QiN s0 l depart driven=some rv):AFn Tryz.prog 111 [.one (.op 0 17 0 0),.one (lO 1 2 l Qaq.enc),.one (lI depart),.one (lI driven)] [bX 17 142 (Qau.enc s0),bS 2 183 l Qaq.enc] (one (lO 1 2 rv.1 Qaq.enc)) [oX 17 142 [lL 1 rv.2.x.net.places QeA,lL 6 rv.2.x.net.arcs Qai.enc,lL 14 rv.2.x.types Qaf.enc,lL 16 rv.2.x.orders Qac.enc,lL 2 rv.2.x.apart Qav.enc,lL 2 rv.2.x.before Qav.enc,lI rv.2.kind,lI rv.2.set_,lI rv.2.total,lI rv.2.best.type_,lI rv.2.best.set_,lI rv.2.best.price,lI rv.2.best.route.type_,lI rv.2.best.route.start,lL 1 rv.2.best.route.rests Qff,lL 2 rv.2.best.route.visits Qad.enc,.bool rv.2.found],oS 2 183 rv.1 Qaq.enc]:=by
 refine QaG Tryz.func111 (by kernel_rfl) (by kernel_rfl) (fun Γ=>?_)
 unfold QiN at h
 obtain ⟨r,h0,h⟩:=Qae h
 obtain ⟨x0,h1,h⟩:=Qae h
 obtain ⟨r1,h2,h⟩:=Qae h
 obtain rfl:=Option.some.inj h
 exact gr 6 [0,3] [cI [1] (QjI h0),hH (.draw 18 [(2,16)]),cE Qaf.enc h1,cI [2] (QjI h2)]
def QoB (Γ:Gam) (rv:List Qaq×Qau) (cf:Cf):Prop:=Go Tryz.prog Tryz.f143 [0] Γ (one (lL 2 rv.1 Qaq.enc)) [oX 17 142 [lL 1 rv.2.x.net.places QeA,lL 6 rv.2.x.net.arcs Qai.enc,lL 14 rv.2.x.types Qaf.enc,lL 16 rv.2.x.orders Qac.enc,lL 2 rv.2.x.apart Qav.enc,lL 2 rv.2.x.before Qav.enc,lI rv.2.kind,lI rv.2.set_,lI rv.2.total,lI rv.2.best.type_,lI rv.2.best.set_,lI rv.2.best.price,lI rv.2.best.route.type_,lI rv.2.best.route.start,lL 1 rv.2.best.route.rests Qff,lL 2 rv.2.best.route.visits Qad.enc,.bool rv.2.found]] cf
def Qle (Γ:Gam) (rv:List Qaq×Qau) (from_:Int) (l:List Qaq) (stop:Qap) (x0:Qaf) (l1:List Qaq) (x1:Qau) (v:Int):Prop:=QoB Γ rv ⟨[.c 244,.l 244,.b 0,.c 31],⟨86,[vP 0 0 17,vI 1 from_,vP 7 1 4,vP 9 2 14,vO 10 3 2 l1 Qaq.enc,vL 28 2 l Qaq.enc,vI 29 (lenI l),vI 30 v],[oX 17 142 (Qau.enc x1),oX 4 54 (Qap.enc stop),oX 14 70 (Qaf.enc x0),oS 2 183 l1 Qaq.enc]⟩⟩
def Qkl (Γ:Gam) (rv:List Qaq×Qau) (from_:Int) (l:List Qaq) (stop:Qap) (x0:Qaf) (l2:List Qaq) (x3:Qau):Prop:=QoB Γ rv ⟨[.c 31],⟨86,[vO 10 1 2 l2 Qaq.enc],[oX 17 142 (Qau.enc x3),oS 2 183 l2 Qaq.enc]⟩⟩
theorem QrL (Γ:Gam) (rv:List Qaq×Qau) {from_ l stop x0} {s:List Qaq×Qau×Int} {e:List Qaq×Qau} (h:QaX (fun s=>Qhe from_ l stop x0 s.1 s.2.1 s.2.2) s=some e) (hD:Qkl Γ rv from_ l stop x0 e.1 e.2):Qle Γ rv from_ l stop x0 s.1 s.2.1 s.2.2:=by
 refine QaA (C:=fun (s:List Qaq×Qau×Int)=>Qle Γ rv from_ l stop x0 s.1 s.2.1 s.2.2) (D:=fun (e:List Qaq×Qau)=>Qkl Γ rv from_ l stop x0 e.1 e.2) ?_ h hD
 clear h hD s e
 rintro ⟨l1,x1,v⟩ z_ h hI hE
 replace h:Qhe from_ l stop x0 l1 x1 v=_:=h
 unfold Qhe at h
 rcases Qak h with ⟨h1,h⟩|⟨h1,h⟩
 ·obtain ⟨x2,h2,h⟩:=Qae h
  obtain ⟨r,h3,h⟩:=Qae h
  rcases Qak h with ⟨h4,h⟩|⟨h4,h⟩
  ·exact gn 18 [0,1,7,9,10,28,29,30] [0,1,2,3] [bT h1,cE Qaq.enc h2,hH (.draw 20 []),cC (QfD h3),rp 11 hP,rp 9 (oI ((neI r.2.2 0)=false)),oR True ((neI r.2.2 0)=false),bT h4] (hI _ (oJ h))
  ·obtain ⟨r1,h5,h⟩:=Qae h
   rcases Qak h with ⟨h6,h⟩|⟨h6,h⟩
   ·exact gn 25 [0,1,7,9,10,28,29,30] [0,1,2,3] [bT h1,cE Qaq.enc h2,hH (.draw 20 []),cC (QfD h3),rp 11 hP,rp 9 (oI ((neI r.2.2 0)=false)),oR True ((neI r.2.2 0)=false),bF h4,cC (QsZ h5),bT h6] (hI _ (oJ h))
   ·obtain ⟨r2,h7,h⟩:=Qae h
    exact gn 27 [0,1,7,9,10,28,29,30] [0,1,2,5] [bT h1,cE Qaq.enc h2,hH (.draw 20 []),cC (QfD h3),rp 11 hP,rp 9 (oI ((neI r.2.2 0)=false)),oR True ((neI r.2.2 0)=false),bF h4,cC (QsZ h5),bF h6,cI [0,3] (QqA h7)] (hI _ (oJ h))
 ·exact gn 5 [10] [0,3] [bF h1] (hE _ (oJ h))
theorem Qny {s0 from_ l stop} {rv:List Qaq×Qau} (h:Qmg s0 from_ l stop=some rv):AFn Tryz.prog 143 [.one (.op 0 17 0 0),.one (lI from_),.one (lL 2 l Qaq.enc),.agg (Qap.enc stop)] [bX 17 142 (Qau.enc s0)] (one (lL 2 rv.1 Qaq.enc)) [oX 17 142 [lL 1 rv.2.x.net.places QeA,lL 6 rv.2.x.net.arcs Qai.enc,lL 14 rv.2.x.types Qaf.enc,lL 16 rv.2.x.orders Qac.enc,lL 2 rv.2.x.apart Qav.enc,lL 2 rv.2.x.before Qav.enc,lI rv.2.kind,lI rv.2.set_,lI rv.2.total,lI rv.2.best.type_,lI rv.2.best.set_,lI rv.2.best.price,lI rv.2.best.route.type_,lI rv.2.best.route.start,lL 1 rv.2.best.route.rests Qff,lL 2 rv.2.best.route.visits Qad.enc,.bool rv.2.found]]:=by
 refine QaG Tryz.func143 (by kernel_rfl) (by kernel_rfl) (fun Γ=>?_)
 unfold Qmg at h
 obtain ⟨x0,h0,h⟩:=Qae h
 obtain ⟨e0,h8,h⟩:=Qae h
 refine gn 11 [0,1,7,9,10,28,29,30] [0,1,2,3] [hH (.draw 12 []),cE Qaf.enc h0,nL Qaq.enc l,hW 3,hH (.adopt 10 2 183)] (QrL Γ rv h8 ?_)
 obtain ⟨l2,x3⟩:=e0
 replace h:(some (l2,x3):Option (List Qaq×Qau))=some _:=h
 obtain rfl:=Option.some.inj h
 exact gr 2 [0] [hW 4,hH (.frz 1),rp 3 (eL l2 Qaq.enc)]
def QpE (Γ:Gam) (rv:Qau) (cf:Cf):Prop:=Go Tryz.prog Tryz.f110 [0] Γ (.tup []) [oX 17 142 [lL 1 rv.x.net.places QeA,lL 6 rv.x.net.arcs Qai.enc,lL 14 rv.x.types Qaf.enc,lL 16 rv.x.orders Qac.enc,lL 2 rv.x.apart Qav.enc,lL 2 rv.x.before Qav.enc,lI rv.kind,lI rv.set_,lI rv.total,lI rv.best.type_,lI rv.best.set_,lI rv.best.price,lI rv.best.route.type_,lI rv.best.route.start,lL 1 rv.best.route.rests Qff,lL 2 rv.best.route.visits Qad.enc,.bool rv.found]] cf
def Qmq (Γ:Gam) (rv:Qau) (self:Qau→(List Qad)→Int→(List Qaq)→Option Qau) (visits:List Qad) (from_:Int) (l:List Qaq) (r2:List Qad) (x0:Qau) (v:Int):Prop:=QpE Γ rv ⟨[.c 28,.l 28,.b 0],⟨114,[vP 0 0 17,vL 1 2 visits Qad.enc,vI 2 from_,vL 3 2 l Qaq.enc,vL 77 2 r2 Qad.enc,vI 78 (lenI r2),vI 79 v],[oX 17 142 (Qau.enc x0)]⟩⟩
def Qlf (Γ:Gam) (rv:Qau) (self:Qau→(List Qad)→Int→(List Qaq)→Option Qau) (visits:List Qad) (from_:Int) (l:List Qaq) (r2:List Qad) (x2:Qau):Prop:=QpE Γ rv ⟨[],⟨114,[],[oX 17 142 (Qau.enc x2)]⟩⟩
theorem Qr1 (Γ:Gam) (rv:Qau) {self:Qau→(List Qad)→Int→(List Qaq)→Option Qau} (hself:∀ {s0:Qau} {visits:List Qad} {from_:Int} {l:List Qaq} {rv:Qau},self s0 visits from_ l=some rv→AFn Tryz.prog 110 [.one (.op 0 17 0 0),.one (lL 2 visits Qad.enc),.one (lI from_),.one (lL 2 l Qaq.enc)] [bX 17 142 (Qau.enc s0)] (.tup []) [oX 17 142 [lL 1 rv.x.net.places QeA,lL 6 rv.x.net.arcs Qai.enc,lL 14 rv.x.types Qaf.enc,lL 16 rv.x.orders Qac.enc,lL 2 rv.x.apart Qav.enc,lL 2 rv.x.before Qav.enc,lI rv.kind,lI rv.set_,lI rv.total,lI rv.best.type_,lI rv.best.set_,lI rv.best.price,lI rv.best.route.type_,lI rv.best.route.start,lL 1 rv.best.route.rests Qff,lL 2 rv.best.route.visits Qad.enc,.bool rv.found]]) {visits from_ l r2} {s:Qau×Int} {e:Qau} (h:QaX (fun s=>QhV self visits from_ l r2 s.1 s.2) s=some e) (hD:Qlf Γ rv self visits from_ l r2 e):Qmq Γ rv self visits from_ l r2 s.1 s.2:=by
 refine QaA (C:=fun (s:Qau×Int)=>Qmq Γ rv self visits from_ l r2 s.1 s.2) (D:=fun (e:Qau)=>Qlf Γ rv self visits from_ l r2 e) ?_ h hD
 clear h hD s e
 rintro ⟨x0,v⟩ z_ h hI hE
 replace h:QhV self visits from_ l r2 x0 v=_:=h
 unfold QhV at h
 rcases Qak h with ⟨h5,h⟩|⟨h5,h⟩
 ·obtain ⟨x1,h6,h⟩:=Qae h
  obtain ⟨r3,h7,h⟩:=Qae h
  rcases Qak h with ⟨h8,h⟩|⟨h8,h⟩
  ·exact gn 18 [0,1,2,3,77,78,79] [0] [bT h5,cE Qad.enc h6,hH (.draw 13 [(2,11)]),cC (Ql6 h7),bT h8] (hI _ (oJ h))
  ·obtain ⟨r4,h9,h⟩:=Qae h
   rcases Qak h with ⟨h10,h⟩|⟨h10,h⟩
   ·obtain ⟨r5,h11,h⟩:=Qae h
    obtain ⟨h12,h⟩:=Qat h
    obtain ⟨r6,h13,h⟩:=Qae h
    exact gn 25 [0,1,2,3,77,78,79] [0] [bT h5,cE Qad.enc h6,hH (.draw 13 [(2,11)]),cC (Ql6 h7),bF h8,cI [0] (Qny h9),nL Qaq.enc r4.1,bT h10,hH (.draw 9 []),cC (Qi7 h11),oO (Eq.refl ([x1].map Qad.enc).length),hH (.rows ((r5++[x1]).map Qad.enc)),hH (.frz 4),oO (appM Qad.enc r5 [x1]),oO (neA Qad.enc r5 [x1] (by simp)),oO (okLe (l:=((r5++[x1]):List Qad)) Qad.enc h12),oO (QHp (l:=((r5++[x1]):List Qad)) (b:=16) Qad.enc (by decide) h12),oO (Eq.refl ((r5++[x1]).map Qad.enc).length),cI [0] (hself h13)] (hI _ (oJ h))
   ·exact gn 25 [0,1,2,3,77,78,79] [0] [bT h5,cE Qad.enc h6,hH (.draw 13 [(2,11)]),cC (Ql6 h7),bF h8,cI [0] (Qny h9),nL Qaq.enc r4.1,bF h10] (hI _ (oJ h))
 ·exact gn 5 [] [0] [bF h5] (hE _ (oJ h))
theorem Qtg {self:Qau→(List Qad)→Int→(List Qaq)→Option Qau} (hself:∀ {s0:Qau} {visits:List Qad} {from_:Int} {l:List Qaq} {rv:Qau},self s0 visits from_ l=some rv→AFn Tryz.prog 110 [.one (.op 0 17 0 0),.one (lL 2 visits Qad.enc),.one (lI from_),.one (lL 2 l Qaq.enc)] [bX 17 142 (Qau.enc s0)] (.tup []) [oX 17 142 [lL 1 rv.x.net.places QeA,lL 6 rv.x.net.arcs Qai.enc,lL 14 rv.x.types Qaf.enc,lL 16 rv.x.orders Qac.enc,lL 2 rv.x.apart Qav.enc,lL 2 rv.x.before Qav.enc,lI rv.kind,lI rv.set_,lI rv.total,lI rv.best.type_,lI rv.best.set_,lI rv.best.price,lI rv.best.route.type_,lI rv.best.route.start,lL 1 rv.best.route.rests Qff,lL 2 rv.best.route.visits Qad.enc,.bool rv.found]]) {s0 visits from_ l} {rv:Qau} (h:QkM self s0 visits from_ l=some rv):AFn Tryz.prog 110 [.one (.op 0 17 0 0),.one (lL 2 visits Qad.enc),.one (lI from_),.one (lL 2 l Qaq.enc)] [bX 17 142 (Qau.enc s0)] (.tup []) [oX 17 142 [lL 1 rv.x.net.places QeA,lL 6 rv.x.net.arcs Qai.enc,lL 14 rv.x.types Qaf.enc,lL 16 rv.x.orders Qac.enc,lL 2 rv.x.apart Qav.enc,lL 2 rv.x.before Qav.enc,lI rv.kind,lI rv.set_,lI rv.total,lI rv.best.type_,lI rv.best.set_,lI rv.best.price,lI rv.best.route.type_,lI rv.best.route.start,lL 1 rv.best.route.rests Qff,lL 2 rv.best.route.visits Qad.enc,.bool rv.found]]:=by
 refine QaG Tryz.func110 (by kernel_rfl) (by kernel_rfl) (fun Γ=>?_)
 unfold QkM at h
 rcases Qak h with ⟨h0,h⟩|⟨h0,h⟩
 ·obtain ⟨r,h1,h⟩:=Qae h
  rcases Qak h with ⟨h2,h⟩|⟨h2,h⟩
  ·obtain ⟨r1,h3,h⟩:=Qae h
   obtain rfl:=Option.some.inj h
   exact gr 17 [0] [nL Qad.enc visits,bT h0,hW 11,hH (.nilB 1 2 1),hH (.draw 11 []),cC (QuJ h1),bT h2,hH (.draw 12 []),hH (.draw 13 []),cC (QkL h3)]
  ·obtain rfl:=Option.some.inj h
   exact gr 13 [0] [nL Qad.enc visits,bT h0,hW 11,hH (.nilB 1 2 1),hH (.draw 11 []),cC (QuJ h1),bF h2]
 ·obtain ⟨r2,h4,h⟩:=Qae h
  obtain ⟨e0,h14,h⟩:=Qae h
  refine gn 9 [0,1,2,3,77,78,79] [0] [nL Qad.enc visits,bF h0,hH (.draw 12 []),cC (Qxf h4),nL Qad.enc r2] (Qr1 Γ rv hself h14 ?_)
  obtain ⟨x2,rfl⟩:∃ x,x=e0:=⟨_,rfl⟩
  replace h:(some x2:Option Qau)=some _:=h
  obtain rfl:=Option.some.inj h
  exact gr 0 [0] []
theorem QnA:∀ fuel_,∀ {s0:Qau} {visits:List Qad} {from_:Int} {l:List Qaq} {rv:Qau},QkN fuel_ s0 visits from_ l=some rv→AFn Tryz.prog 110 [.one (.op 0 17 0 0),.one (lL 2 visits Qad.enc),.one (lI from_),.one (lL 2 l Qaq.enc)] [bX 17 142 (Qau.enc s0)] (.tup []) [oX 17 142 [lL 1 rv.x.net.places QeA,lL 6 rv.x.net.arcs Qai.enc,lL 14 rv.x.types Qaf.enc,lL 16 rv.x.orders Qac.enc,lL 2 rv.x.apart Qav.enc,lL 2 rv.x.before Qav.enc,lI rv.kind,lI rv.set_,lI rv.total,lI rv.best.type_,lI rv.best.set_,lI rv.best.price,lI rv.best.route.type_,lI rv.best.route.start,lL 1 rv.best.route.rests Qff,lL 2 rv.best.route.visits Qad.enc,.bool rv.found]]
 | 0=>fun h=>nomatch h
 | fuel_+1=>fun h=>Qtg (QnA fuel_) h
theorem QoC:∀ {s0:Qau} {visits:List Qad} {from_:Int} {l:List Qaq} {rv:Qau},Qnz s0 visits from_ l=some rv→AFn Tryz.prog 110 [.one (.op 0 17 0 0),.one (lL 2 visits Qad.enc),.one (lI from_),.one (lL 2 l Qaq.enc)] [bX 17 142 (Qau.enc s0)] (.tup []) [oX 17 142 [lL 1 rv.x.net.places QeA,lL 6 rv.x.net.arcs Qai.enc,lL 14 rv.x.types Qaf.enc,lL 16 rv.x.orders Qac.enc,lL 2 rv.x.apart Qav.enc,lL 2 rv.x.before Qav.enc,lI rv.kind,lI rv.set_,lI rv.total,lI rv.best.type_,lI rv.best.set_,lI rv.best.price,lI rv.best.route.type_,lI rv.best.route.start,lL 1 rv.best.route.rests Qff,lL 2 rv.best.route.visits Qad.enc,.bool rv.found]]:=QnA _
theorem Qjr {s0 depart driven} {rv:List Qaq×Qau} (h:Qgj s0 depart driven=some rv):AFn Tryz.prog 111 [.one (.op 0 17 0 0),.one (.nils),.one (lI depart),.one (lI driven)] [bX 17 142 (Qau.enc s0)] (one (lL 2 rv.1 Qaq.enc)) [oX 17 142 [lL 1 rv.2.x.net.places QeA,lL 6 rv.2.x.net.arcs Qai.enc,lL 14 rv.2.x.types Qaf.enc,lL 16 rv.2.x.orders Qac.enc,lL 2 rv.2.x.apart Qav.enc,lL 2 rv.2.x.before Qav.enc,lI rv.2.kind,lI rv.2.set_,lI rv.2.total,lI rv.2.best.type_,lI rv.2.best.set_,lI rv.2.best.price,lI rv.2.best.route.type_,lI rv.2.best.route.start,lL 1 rv.2.best.route.rests Qff,lL 2 rv.2.best.route.visits Qad.enc,.bool rv.2.found]]:=by
 refine QaG Tryz.func111 (by kernel_rfl) (by kernel_rfl) (fun Γ=>?_)
 unfold Qgj at h
 obtain ⟨r,h0,h⟩:=Qae h
 obtain ⟨x0,h1,h⟩:=Qae h
 obtain ⟨r1,h2,h⟩:=Qae h
 obtain rfl:=Option.some.inj h
 exact gr 6 [0] [hW 9,hH (.adopt 9 2 183),cI [1] (QjI h0),hH (.draw 17 [(2,16)]),cE Qaf.enc h1,cI [2] (QjI h2),hW 1,hH (.frz 3),rp 2 (eL r1 Qaq.enc)]
def QxM (Γ:Gam) (rv:Qay×Int) (cf:Cf):Prop:=Go Tryz.prog Tryz.f73 [] Γ (.tup [.agg [lI rv.1.type_,lI rv.1.set_,lI rv.1.price,lI rv.1.route.type_,lI rv.1.route.start,lL 1 rv.1.route.rests Qff,lL 2 rv.1.route.visits Qad.enc],.one (lI rv.2)]) [] cf
def Qul (Γ:Gam) (rv:Qay×Int) (x0:Qab) (kind:Int) (set_:Int) (r1:List Int) (total:Int) (v:Int):Prop:=QxM Γ rv ⟨[.c 500,.l 500,.b 0,.c 63],⟨87,[vI 1 kind,vP 3 0 6,vP 6 1 7,vP 8 2 17,vL 45 1 r1 Qaw,vI 46 (lenI r1),vI 47 v],[oX 6 30 (Qab.enc x0),oX 7 50 [lI 0,lI 0,lI 0,lI 0,lI 0,.nils,.nils],oX 17 142 [lL 1 x0.net.places QeA,lL 6 x0.net.arcs Qai.enc,lL 14 x0.types Qaf.enc,lL 16 x0.orders Qac.enc,lL 2 x0.apart Qav.enc,lL 2 x0.before Qav.enc,lI kind,lI set_,lI total,lI 0,lI 0,lI 0,lI 0,lI 0,.nils,.nils,.bool false]]⟩⟩
def QtC (Γ:Gam) (rv:Qay×Int) (x0:Qab) (kind:Int) (set_:Int) (r1:List Int) (total1:Int):Prop:=QxM Γ rv ⟨[.c 63],⟨87,[vI 1 kind,vP 3 0 6,vP 6 1 7,vP 8 2 17],[oX 6 30 (Qab.enc x0),oX 7 50 [lI 0,lI 0,lI 0,lI 0,lI 0,.nils,.nils],oX 17 142 [lL 1 x0.net.places QeA,lL 6 x0.net.arcs Qai.enc,lL 14 x0.types Qaf.enc,lL 16 x0.orders Qac.enc,lL 2 x0.apart Qav.enc,lL 2 x0.before Qav.enc,lI kind,lI set_,lI total1,lI 0,lI 0,lI 0,lI 0,lI 0,.nils,.nils,.bool false]]⟩⟩
theorem Qxv (Γ:Gam) (rv:Qay×Int) {x0 kind set_ r1} {s:Int×Int} {e:Int} (h:QaX (fun s=>Qqz x0 kind set_ r1 s.1 s.2) s=some e) (hD:QtC Γ rv x0 kind set_ r1 e):Qul Γ rv x0 kind set_ r1 s.1 s.2:=by
 refine QaA (C:=fun (s:Int×Int)=>Qul Γ rv x0 kind set_ r1 s.1 s.2) (D:=fun (e:Int)=>QtC Γ rv x0 kind set_ r1 e) ?_ h hD
 clear h hD s e
 rintro ⟨total,v⟩ z_ h hI hE
 replace h:Qqz x0 kind set_ r1 total v=_:=h
 unfold Qqz at h
 rcases Qak h with ⟨h6,h⟩|⟨h6,h⟩
 ·obtain ⟨x1,h7,h⟩:=Qae h
  obtain ⟨r2,h8,h⟩:=Qae h
  exact gn 13 [1,3,6,8,45,46,47] [0,1,2] [bT h6,cE Qaw h7,hH (.draw 12 []),cC (QhL h8),nL Qad.enc r2] (hI _ (oJ h))
 ·exact gn 5 [1,3,6,8] [0,1,2] [bF h6] (hE _ (oJ h))
theorem Qwz {x0 kind set_} {rv:Qay×Int} (h:Qyb x0 kind set_=some rv):AFn Tryz.prog 73 [.agg (Qab.enc x0),.one (lI kind),.one (lI set_)] [] (.tup [.agg [lI rv.1.type_,lI rv.1.set_,lI rv.1.price,lI rv.1.route.type_,lI rv.1.route.start,lL 1 rv.1.route.rests Qff,lL 2 rv.1.route.visits Qad.enc],.one (lI rv.2)]) []:=by
 refine QaG Tryz.func73 (by kernel_rfl) (by kernel_rfl) (fun Γ=>?_)
 unfold Qyb at h
 rcases Qak h with ⟨h0,h⟩|⟨h0,h⟩
 ·obtain rfl:=Option.some.inj h
  exact gr 8 [] [rp 4 hP,rp 2 (oI ((ltI kind 0)=false)),nL Qaf.enc x0.types,rp 5 hP,rp 2 (oI ((ltI kind 0)=false)),oR True ((ltI kind 0)=false),oI (((ltI kind 0)||(geI kind (lenI x0.types)))=false),oR True (((ltI kind 0)||(geI kind (lenI x0.types)))=false),rp 7 (bT h0),tT,hW 5,hH (.nilB 1 5 1),hH (.nilB 1 6 2)]
 ·obtain ⟨h1,h⟩:=Qat h
  rcases Qak h with ⟨h2,h⟩|⟨h2,h⟩
  ·obtain rfl:=Option.some.inj h
   exact gr 8 [] [rp 4 hP,rp 2 (oI ((ltI kind 0)=false)),nL Qaf.enc x0.types,rp 5 hP,rp 2 (oI ((ltI kind 0)=false)),oR True ((ltI kind 0)=false),oI (((ltI kind 0)||(geI kind (lenI x0.types)))=false),oR True (((ltI kind 0)||(geI kind (lenI x0.types)))=false),rp 4 (bF h0),nL Qac.enc x0.orders,bF h0,oO (h1),bF h0,bF h0,bT h2,hW 5,hH (.nilB 1 5 1),hH (.nilB 1 6 2)]
  ·obtain ⟨r,h3,h⟩:=Qae h
   rcases Qak h with ⟨h4,h⟩|⟨h4,h⟩
   ·obtain rfl:=Option.some.inj h
    exact gr 13 [] [rp 4 hP,rp 2 (oI ((ltI kind 0)=false)),nL Qaf.enc x0.types,rp 5 hP,rp 2 (oI ((ltI kind 0)=false)),oR True ((ltI kind 0)=false),oI (((ltI kind 0)||(geI kind (lenI x0.types)))=false),oR True (((ltI kind 0)||(geI kind (lenI x0.types)))=false),rp 4 (bF h0),nL Qac.enc x0.orders,bF h0,oO (h1),bF h0,bF h0,bF h2,cC (QsO h3),bT h4,hW 5,hH (.nilB 1 5 1),hH (.nilB 1 6 2)]
   ·obtain ⟨r1,h5,h⟩:=Qae h
    obtain ⟨e0,h9,h⟩:=Qae h
    refine gn 19 [1,3,6,8,45,46,47] [0,1,2] [rp 4 hP,rp 2 (oI ((ltI kind 0)=false)),nL Qaf.enc x0.types,rp 5 hP,rp 2 (oI ((ltI kind 0)=false)),oR True ((ltI kind 0)=false),oI (((ltI kind 0)||(geI kind (lenI x0.types)))=false),oR True (((ltI kind 0)||(geI kind (lenI x0.types)))=false),rp 4 (bF h0),nL Qac.enc x0.orders,bF h0,oO (h1),bF h0,bF h0,bF h2,cC (QsO h3),bF h4,cC (QpA h5),nL Qaw r1] (Qxv Γ rv h9 ?_)
    obtain ⟨total1,rfl⟩:∃ x,x=e0:=⟨_,rfl⟩
    replace h:(bnd (getI x0.types kind) fun x2=>bnd (Qgj (Qau.mk x0 kind set_ total1 (Qay.mk 0 0 0 (Qax.mk 0 0 [] [])) false) x2.open_ 0) fun r3=>bnd (Qnz r3.2 [] x2.from_ r3.1) fun r4=>br r4.found (some (r4.best,0)) (some ((Qay.mk 0 0 0 (Qax.mk 0 0 [] [])),24)):Option (Qay×Int))=some _:=h
    obtain ⟨x2,h10,h⟩:=Qae h
    obtain ⟨r3,h11,h⟩:=Qae h
    obtain ⟨r4,h12,h⟩:=Qae h
    rcases Qak h with ⟨h13,h⟩|⟨h13,h⟩
    ·obtain rfl:=Option.some.inj h
     exact gr 11 [] [cE Qaf.enc h10,hW 4,hH (.nilB 2 14 1),hH (.nilB 2 15 2),hH (.draw 7 [(2,6)]),cI [2] (Qjr h11),cI [2] (AFn.nilA 1 2 (QoC h12)),nF h13]
    ·obtain rfl:=Option.some.inj h
     exact gr 10 [] [cE Qaf.enc h10,hW 4,hH (.nilB 2 14 1),hH (.nilB 2 15 2),hH (.draw 7 [(2,6)]),cI [2] (Qjr h11),cI [2] (AFn.nilA 1 2 (QoC h12)),nT h13,hW 5,hH (.nilB 1 5 1),hH (.nilB 1 6 2)]
def Qui (Γ:Gam) (rv:List Qay×Int) (cf:Cf):Prop:=Go Tryz.prog Tryz.f47 [] Γ (.tup [.one (lL 7 rv.1 Qay.enc),.one (lI rv.2)]) [] cf
def QvK (Γ:Gam) (rv:List Qay×Int) (x0:Qab) (l:List Qay) (v:Int) (l1:List Qay) (set_:Int):Prop:=Qui Γ rv ⟨[.c 29900,.l 29900,.b 2,.b 1,.c 935,.l 116,.b 0,.c 15],⟨38,[vP 1 0 6,vO 4 1 7 l1 Qay.enc,vI 5 v,vI 6 set_,vI 11 (lenI x0.types),vI 12 v],[oX 6 30 (Qab.enc x0),oS 7 50 l1 Qay.enc]⟩⟩
def Quk (Γ:Gam) (rv:List Qay×Int) (x0:Qab) (l:List Qay) (v:Int) (l2:List Qay):Prop:=Qui Γ rv ⟨[.b 1,.c 935,.l 116,.b 0,.c 15],⟨38,[vP 1 0 6,vO 4 1 7 l2 Qay.enc,vI 11 (lenI x0.types),vI 12 v],[oX 6 30 (Qab.enc x0),oS 7 50 l2 Qay.enc]⟩⟩
def QvJ (Γ:Gam) (rv:List Qay×Int) (x0:Qab) (l:List Qay) (v:Int):Prop:=Qui Γ rv ⟨[.c 116,.l 116,.b 0,.c 15],⟨38,[vP 1 0 6,vO 4 1 7 l Qay.enc,vI 11 (lenI x0.types),vI 12 v],[oX 6 30 (Qab.enc x0),oS 7 50 l Qay.enc]⟩⟩
def Quj (Γ:Gam) (rv:List Qay×Int) (x0:Qab) (l3:List Qay):Prop:=Qui Γ rv ⟨[.c 15],⟨38,[vO 4 0 7 l3 Qay.enc],[oS 7 50 l3 Qay.enc]⟩⟩
theorem Qya (Γ:Gam) (rv:List Qay×Int) {x0 l v} {s:List Qay×Int} {e:List Qay} (h:QaX (fun s=>Qs3 x0 l v s.1 s.2) s=some e) (hD:Quk Γ rv x0 l v e):QvK Γ rv x0 l v s.1 s.2:=by
 refine QaA (C:=fun (s:List Qay×Int)=>QvK Γ rv x0 l v s.1 s.2) (D:=fun (e:List Qay)=>Quk Γ rv x0 l v e) ?_ h hD
 clear h hD s e
 rintro ⟨l1,set_⟩ z_ h hI hE
 replace h:Qs3 x0 l v l1 set_=_:=h
 unfold Qs3 at h
 obtain ⟨h1,h⟩:=Qat h
 rcases Qak h with ⟨h2,h⟩|⟨h2,h⟩
 ·obtain ⟨r,h3,h⟩:=Qae h
  rcases Qak h with ⟨h4,h⟩|⟨h4,h⟩
  ·obtain ⟨h5,h⟩:=Qat h
   exact gn 16 [1,4,5,6,11,12] [0,4] [nL Qac.enc x0.orders,oO (h1),bT h2,cC (Qwz h3),bT h4,oO (Eq.refl ([r.1].map Qay.enc).length),aO Qay.enc h5] (hI _ (oJ h))
  ·exact gn 16 [1,4,5,6,11,12] [0,1] [nL Qac.enc x0.orders,oO (h1),bT h2,cC (Qwz h3),bF h4] (hI _ (oJ h))
 ·exact gn 5 [1,4,11,12] [0,1] [nL Qac.enc x0.orders,oO (h1),bF h2] (hE _ (oJ h))
theorem Qx9 (Γ:Gam) (rv:List Qay×Int) {x0} {s:List Qay×Int} {e:List Qay} (h:QaX (fun s=>Qs2 x0 s.1 s.2) s=some e) (hD:Quj Γ rv x0 e):QvJ Γ rv x0 s.1 s.2:=by
 refine QaA (C:=fun (s:List Qay×Int)=>QvJ Γ rv x0 s.1 s.2) (D:=fun (e:List Qay)=>Quj Γ rv x0 e) ?_ h hD
 clear h hD s e
 rintro ⟨l,v⟩ z_ h hI hE
 replace h:Qs2 x0 l v=_:=h
 unfold Qs2 at h
 rcases Qak h with ⟨h0,h⟩|⟨h0,h⟩
 ·obtain ⟨e0,h6,h⟩:=Qae h
  refine gn 13 [1,4,5,6,11,12] [0,1] [bT h0] (Qya Γ rv h6 ?_)
  obtain ⟨l2,rfl⟩:∃ x,x=e0:=⟨_,rfl⟩
  replace h:(some (.inl (l2,(addK .i64 v 1))):Option ((List Qay×Int)⊕(List Qay)))=some _:=h
  exact gn 3 [1,4,11,12] [0,1] [] (hI _ (oJ h))
 ·exact gn 5 [4] [1] [bF h0] (hE _ (oJ h))
theorem QBc {x0} {rv:List Qay×Int} (h:Qzy x0=some rv):AFn Tryz.prog 47 [.agg (Qab.enc x0)] [] (.tup [.one (lL 7 rv.1 Qay.enc),.one (lI rv.2)]) []:=by
 refine QaG Tryz.func47 (by kernel_rfl) (by kernel_rfl) (fun Γ=>?_)
 unfold Qzy at h
 obtain ⟨e1,h7,h⟩:=Qae h
 refine gn 9 [1,4,11,12] [0,1] [nL Qaf.enc x0.types,hW 3,hH (.adopt 4 7 50)] (Qx9 Γ rv h7 ?_)
 obtain ⟨l3,rfl⟩:∃ x,x=e1:=⟨_,rfl⟩
 replace h:(some (l3,0):Option (List Qay×Int))=some _:=h
 obtain rfl:=Option.some.inj h
 exact gr 2 [] [hW 5,hH (.frz 0),rp 3 (eL l3 Qay.enc)]
theorem Qq8 {a} {rv:Bool} (h:QqE a=some rv):AFn Tryz.prog 75 [.agg (Qac.enc a)] [] (one (.bool rv)) []:=by
 refine QaG Tryz.func75 (by kernel_rfl) (by kernel_rfl) (fun Γ=>?_)
 unfold QqE at h
 obtain rfl:=Option.some.inj h
 exact gr 4 [] []
def Qmy (Γ:Gam) (rv:Int) (cf:Cf):Prop:=Go Tryz.prog Tryz.f74 [] Γ (one (lI rv)) [] cf
def QjP (Γ:Gam) (rv:Int) (x0:Qab) (set_:Int) (v:Int):Prop:=Qmy Γ rv ⟨[.c 116,.l 116,.b 0,.c 15],⟨30,[(1,one (.fn (.func 75) [])),vI 5 set_,vL 9 16 x0.orders Qac.enc,vI 10 (lenI x0.orders),vI 11 v],[]⟩⟩
def Qjt (Γ:Gam) (rv:Int) (x0:Qab) (set_1:Int):Prop:=Qmy Γ rv ⟨[.c 15],⟨30,[vI 5 set_1],[]⟩⟩
theorem QpI (Γ:Gam) (rv:Int) {x0} {s:Int×Int} {e:Int} (h:QaX (fun s=>Qgl x0 s.1 s.2) s=some e) (hD:Qjt Γ rv x0 e):QjP Γ rv x0 s.1 s.2:=by
 refine QaA (C:=fun (s:Int×Int)=>QjP Γ rv x0 s.1 s.2) (D:=fun (e:Int)=>Qjt Γ rv x0 e) ?_ h hD
 clear h hD s e
 rintro ⟨set_,v⟩ z_ h hI hE
 replace h:Qgl x0 set_ v=_:=h
 unfold Qgl at h
 rcases Qak h with ⟨h0,h⟩|⟨h0,h⟩
 ·obtain ⟨x1,h1,h⟩:=Qae h
  rcases Qak h with ⟨h2,h⟩|⟨h2,h⟩
  ·exact gn 16 [1,5,9,10,11] [] [bT h0,cE Qac.enc h1,rp 4 (nF h2),fF] (hI _ (oJ h))
  ·obtain ⟨r,h3,h⟩:=Qae h
   rcases Qak h with ⟨h4,h⟩|⟨h4,h⟩
   ·obtain ⟨h5,h⟩:=Qat h
    exact gn 16 [1,5,9,10,11] [] [bT h0,cE Qac.enc h1,rp 3 (nT h2),cC (Qq8 h3),nT h2,bT h4,oO (h5)] (hI _ (oJ h))
   ·exact gn 16 [1,5,9,10,11] [] [bT h0,cE Qac.enc h1,rp 3 (nT h2),cC (Qq8 h3),nT h2,bF h4] (hI _ (oJ h))
 ·exact gn 5 [5] [] [bF h0] (hE _ (oJ h))
theorem Qsd {x0} {rv:Int} (h:QjO x0=some rv):AFn Tryz.prog 74 [.agg (Qab.enc x0),.one (.fn (.func 75) [])] [] (one (lI rv)) []:=by
 refine QaG Tryz.func74 (by kernel_rfl) (by kernel_rfl) (fun Γ=>?_)
 unfold QjO at h
 obtain ⟨e0,h6,h⟩:=Qae h
 refine gn 9 [1,5,9,10,11] [] [nL Qac.enc x0.orders] (QpI Γ rv h6 ?_)
 obtain ⟨set_1,rfl⟩:∃ x,x=e0:=⟨_,rfl⟩
 replace h:(some set_1:Option Int)=some _:=h
 obtain rfl:=Option.some.inj h
 exact gr 2 [] []
theorem Qxy {x0} {rv:Int} (h:QtV x0=some rv):AFn Tryz.prog 48 [.agg (Qab.enc x0)] [] (one (lI rv)) []:=by
 refine QaG Tryz.func48 (by kernel_rfl) (by kernel_rfl) (fun Γ=>?_)
 unfold QtV at h
 obtain ⟨r,h0,h⟩:=Qae h
 obtain rfl:=Option.some.inj h
 exact gr 4 [] [cC (Qsd h0)]
def Qrx (Γ:Gam) (rv:Int) (cf:Cf):Prop:=Go Tryz.prog Tryz.f23 [] Γ (one (lI rv)) [] cf
def Qn7 (Γ:Gam) (rv:Int) (r:List Qay×Int) (left:Int) (v:Int):Prop:=Qrx Γ rv ⟨[.c 244,.l 244,.b 0,.c 31],⟨27,[vI 5 left,vL 15 7 r.1 Qay.enc,vI 16 (lenI r.1),vI 17 v],[]⟩⟩
def Qm3 (Γ:Gam) (rv:Int) (r:List Qay×Int) (left1:Int):Prop:=Qrx Γ rv ⟨[.c 31],⟨27,[vI 5 left1],[]⟩⟩
theorem Qtx (Γ:Gam) (rv:Int) {r} {s:Int×Int} {e:Int} (h:QaX (fun s=>Qiz r s.1 s.2) s=some e) (hD:Qm3 Γ rv r e):Qn7 Γ rv r s.1 s.2:=by
 refine QaA (C:=fun (s:Int×Int)=>Qn7 Γ rv r s.1 s.2) (D:=fun (e:Int)=>Qm3 Γ rv r e) ?_ h hD
 clear h hD s e
 rintro ⟨left,v⟩ z_ h hI hE
 replace h:Qiz r left v=_:=h
 unfold Qiz at h
 rcases Qak h with ⟨h2,h⟩|⟨h2,h⟩
 ·obtain ⟨x1,h3,h⟩:=Qae h
  exact gn 13 [5,15,16,17] [] [bT h2,cE Qay.enc h3] (hI _ (oJ h))
 ·exact gn 5 [5] [] [bF h2] (hE _ (oJ h))
theorem Qvs {x0} {rv:Int} (h:Qpv x0=some rv):AFn Tryz.prog 23 [.agg (Qab.enc x0)] [] (one (lI rv)) []:=by
 refine QaG Tryz.func23 (by kernel_rfl) (by kernel_rfl) (fun Γ=>?_)
 unfold Qpv at h
 obtain ⟨r,h0,h⟩:=Qae h
 obtain ⟨r1,h1,h⟩:=Qae h
 obtain ⟨e0,h4,h⟩:=Qae h
 refine gn 11 [5,15,16,17] [] [cC (QBc h0),cC (Qxy h1),nL Qay.enc r.1] (Qtx Γ rv h4 ?_)
 obtain ⟨left1,rfl⟩:∃ x,x=e0:=⟨_,rfl⟩
 replace h:(some left1:Option Int)=some _:=h
 obtain rfl:=Option.some.inj h
 exact gr 2 [] []
theorem QeP {rv:Qab} (h:Qjb=some rv):AFn Tryz.prog 24 [] [] (gG [lL 1 rv.net.places QeA,lL 6 rv.net.arcs Qai.enc,lL 14 rv.types Qaf.enc,lL 16 rv.orders Qac.enc,lL 2 rv.apart Qav.enc,lL 2 rv.before Qav.enc]) []:=by
 refine QaG Tryz.func24 (by kernel_rfl) (by kernel_rfl) (fun Γ=>?_)
 unfold Qjb at h
 obtain rfl:=Option.some.inj h
 exact gr 14 [] [hW 22,hH (.frz 1),hH (.nilS 12 5 2),hH (.nilS 14 5 2),hH (.frz 2),hH (.nilS 16 5 2),hW 22,hH (.frz 8),hW 2,hH (.frz 6),hW 3,hH (.frz 3),hH (.frz 4),hH (.frz 10),hH (.frz 11),hH (.nilB 0 4 2),hH (.nilB 0 5 2),rp 6 (oO (Eq.refl ([(Qal.mk 0 20)].map Qal.enc).length)),rp 4 (oO (Eq.refl ([(Qal.mk 0 150)].map Qal.enc).length)),rp 4 (oO (Eq.refl ([5].map Qaw).length)),rp 4 (oO (Eq.refl ([1].map Qaw).length)),rp 6 (oO (Eq.refl ([QuU,QuS,QuT].map QeA).length)),rp 6 (oO (Eq.refl ([(Qai.mk 0 1 0 0 [(Qal.mk 0 20)] []),(Qai.mk 1 0 0 0 [(Qal.mk 0 20)] []),(Qai.mk 0 2 0 0 [(Qal.mk 0 150)] [])].map Qai.enc).length)),rp 3 (oO (Eq.refl ([(Qaf.mk QuV 1 0 0 [5] 0 0 0 100 1000 0 0 0 0)].map Qaf.enc).length)),rp 3 (oO (Eq.refl ([(Qac.mk QyE [1] (Qap.mk (-1) 0 0 0) (Qap.mk 1 0 200 5) 0 0 1 (-1) (-1) false)].map Qac.enc).length))]
theorem QgC {rv:Qab} (h:QhQ=some rv):AFn Tryz.prog 24 [] [] (gG [lL 1 rv.net.places QeA,lL 6 rv.net.arcs Qai.enc,lL 14 rv.types Qaf.enc,lO 0 16 rv.orders Qac.enc,lL 2 rv.apart Qav.enc,lL 2 rv.before Qav.enc]) [oS 16 56 rv.orders Qac.enc]:=by
 refine QaG Tryz.func24 (by kernel_rfl) (by kernel_rfl) (fun Γ=>?_)
 unfold QhQ at h
 obtain rfl:=Option.some.inj h
 exact gr 14 [11] [hW 22,hH (.frz 1),hH (.nilS 12 5 2),hH (.nilS 14 5 2),hH (.frz 2),hH (.nilS 16 5 2),hW 22,hH (.frz 8),hW 2,hH (.frz 6),hW 3,hH (.frz 3),hH (.frz 4),hH (.frz 10),hH (.nilB 0 4 2),hH (.nilB 0 5 2),rp 6 (oO (Eq.refl ([(Qal.mk 0 20)].map Qal.enc).length)),rp 4 (oO (Eq.refl ([(Qal.mk 0 150)].map Qal.enc).length)),rp 4 (oO (Eq.refl ([5].map Qaw).length)),rp 4 (oO (Eq.refl ([1].map Qaw).length)),rp 6 (oO (Eq.refl ([QuU,QuS,QuT].map QeA).length)),rp 6 (oO (Eq.refl ([(Qai.mk 0 1 0 0 [(Qal.mk 0 20)] []),(Qai.mk 1 0 0 0 [(Qal.mk 0 20)] []),(Qai.mk 0 2 0 0 [(Qal.mk 0 150)] [])].map Qai.enc).length)),rp 3 (oO (Eq.refl ([(Qaf.mk QuV 1 0 0 [5] 0 0 0 100 1000 0 0 0 0)].map Qaf.enc).length))]
theorem Qfg {rv:Bool} (h:Qee=some rv):AFn Tryz.prog 9 [] [] (one (.bool rv)) []:=by
 refine QaG Tryz.func9 (by kernel_rfl) (by kernel_rfl) (fun Γ=>?_)
 unfold Qee at h
 obtain ⟨r,h0,h⟩:=Qae h
 obtain ⟨r1,h1,h⟩:=Qae h
 obtain ⟨r2,h2,h⟩:=Qae h
 obtain ⟨r3,h3,h⟩:=Qae h
 obtain ⟨r4,h4,h⟩:=Qae h
 obtain ⟨x0,h5,h⟩:=Qae h
 rcases Qak h with ⟨h6,h⟩|⟨h6,h⟩
 ·obtain ⟨x1,h7,h⟩:=Qae h
  rcases Qak h with ⟨h8,h⟩|⟨h8,h⟩
  ·obtain ⟨r5,h9,h⟩:=Qae h
   obtain rfl:=Option.some.inj h
   exact gr 12 [] [cC (QeP h0),cC (Qe7 h1),cC (QeP h2),cC (QhN h3),cC (QgC h4),oO (QiR h5),oO (QiQ Qac.enc h5),rE Qac.enc h5,hH (.rows ((setI r4.orders 0 (Qac.mk x0.name x0.load x0.pick x0.drop 1 x0.penalty x0.split x0.last_ x0.now x0.off)).map Qac.enc)),hH (.relen 1 ((setI r4.orders 0 (Qac.mk x0.name x0.load x0.pick x0.drop 1 x0.penalty x0.split x0.last_ x0.now x0.off)).map Qac.enc).length),hP,hP,hP,oO (setM Qac.enc r4.orders 0 (Qac.mk x0.name x0.load x0.pick x0.drop 1 x0.penalty x0.split x0.last_ x0.now x0.off)),rp 3 (oO (QrM Qac.enc r4.orders 0 (Qac.mk x0.name x0.load x0.pick x0.drop 1 x0.penalty x0.split x0.last_ x0.now x0.off))),rp 2 (oI ((eqI r1.2 0)=true)),nL Qac.enc r1.1.orders,hP,hP,oI ((eqI r1.2 0)=true),oR True ((eqI r1.2 0)=true),rp 3 (bT h6),cE Qac.enc h7,rp 5 (bT h6),rp 4 hP,rp 3 (oI ((eqI x1.drop.place 1&&(eqI x1.drop.open_ 20&&(eqI x1.drop.close 75&&(eqI x1.drop.service 5&&true))))=true)),nL Qai.enc r1.1.net.arcs,rp 11 hP,oI ((eqI x1.drop.place 1&&(eqI x1.drop.open_ 20&&(eqI x1.drop.close 75&&(eqI x1.drop.service 5&&true))))=true),oR True ((eqI x1.drop.place 1&&(eqI x1.drop.open_ 20&&(eqI x1.drop.close 75&&(eqI x1.drop.service 5&&true))))=true),oI (((eqI x1.drop.place 1&&(eqI x1.drop.open_ 20&&(eqI x1.drop.close 75&&(eqI x1.drop.service 5&&true))))&&(eqI (lenI r1.1.net.arcs) 2))=true),oR True (((eqI x1.drop.place 1&&(eqI x1.drop.open_ 20&&(eqI x1.drop.close 75&&(eqI x1.drop.service 5&&true))))&&(eqI (lenI r1.1.net.arcs) 2))=true),oI ((((eqI x1.drop.place 1&&(eqI x1.drop.open_ 20&&(eqI x1.drop.close 75&&(eqI x1.drop.service 5&&true))))&&(eqI (lenI r1.1.net.arcs) 2))&&(eqI r3.1 145))=true),oR True ((((eqI x1.drop.place 1&&(eqI x1.drop.open_ 20&&(eqI x1.drop.close 75&&(eqI x1.drop.service 5&&true))))&&(eqI (lenI r1.1.net.arcs) 2))&&(eqI r3.1 145))=true),oI (((((eqI x1.drop.place 1&&(eqI x1.drop.open_ 20&&(eqI x1.drop.close 75&&(eqI x1.drop.service 5&&true))))&&(eqI (lenI r1.1.net.arcs) 2))&&(eqI r3.1 145))&&(eqI r3.2.1 1))=true),oR True (((((eqI x1.drop.place 1&&(eqI x1.drop.open_ 20&&(eqI x1.drop.close 75&&(eqI x1.drop.service 5&&true))))&&(eqI (lenI r1.1.net.arcs) 2))&&(eqI r3.1 145))&&(eqI r3.2.1 1))=true),bT h8,bT h8,oO (Eq.refl ((setI r4.orders 0 (Qac.mk x0.name x0.load x0.pick x0.drop 1 x0.penalty x0.split x0.last_ x0.now x0.off)).map Qac.enc).length),cC (Qvs h9),bT h8,bT h8]
  ·obtain rfl:=Option.some.inj h
   exact gr 12 [] [cC (QeP h0),cC (Qe7 h1),cC (QeP h2),cC (QhN h3),cC (QgC h4),oO (QiR h5),oO (QiQ Qac.enc h5),rE Qac.enc h5,hH (.rows ((setI r4.orders 0 (Qac.mk x0.name x0.load x0.pick x0.drop 1 x0.penalty x0.split x0.last_ x0.now x0.off)).map Qac.enc)),hH (.relen 1 ((setI r4.orders 0 (Qac.mk x0.name x0.load x0.pick x0.drop 1 x0.penalty x0.split x0.last_ x0.now x0.off)).map Qac.enc).length),hP,hP,hP,oO (setM Qac.enc r4.orders 0 (Qac.mk x0.name x0.load x0.pick x0.drop 1 x0.penalty x0.split x0.last_ x0.now x0.off)),rp 3 (oO (QrM Qac.enc r4.orders 0 (Qac.mk x0.name x0.load x0.pick x0.drop 1 x0.penalty x0.split x0.last_ x0.now x0.off))),rp 2 (oI ((eqI r1.2 0)=true)),nL Qac.enc r1.1.orders,hP,hP,oI ((eqI r1.2 0)=true),oR True ((eqI r1.2 0)=true),rp 3 (bT h6),cE Qac.enc h7,rp 5 (bT h6),rp 4 hP,rp 3 (oI ((eqI x1.drop.place 1&&(eqI x1.drop.open_ 20&&(eqI x1.drop.close 75&&(eqI x1.drop.service 5&&true))))=true)),nL Qai.enc r1.1.net.arcs,rp 11 hP,oI ((eqI x1.drop.place 1&&(eqI x1.drop.open_ 20&&(eqI x1.drop.close 75&&(eqI x1.drop.service 5&&true))))=true),oR True ((eqI x1.drop.place 1&&(eqI x1.drop.open_ 20&&(eqI x1.drop.close 75&&(eqI x1.drop.service 5&&true))))=true),oI (((eqI x1.drop.place 1&&(eqI x1.drop.open_ 20&&(eqI x1.drop.close 75&&(eqI x1.drop.service 5&&true))))&&(eqI (lenI r1.1.net.arcs) 2))=true),oR True (((eqI x1.drop.place 1&&(eqI x1.drop.open_ 20&&(eqI x1.drop.close 75&&(eqI x1.drop.service 5&&true))))&&(eqI (lenI r1.1.net.arcs) 2))=true),oI ((((eqI x1.drop.place 1&&(eqI x1.drop.open_ 20&&(eqI x1.drop.close 75&&(eqI x1.drop.service 5&&true))))&&(eqI (lenI r1.1.net.arcs) 2))&&(eqI r3.1 145))=true),oR True ((((eqI x1.drop.place 1&&(eqI x1.drop.open_ 20&&(eqI x1.drop.close 75&&(eqI x1.drop.service 5&&true))))&&(eqI (lenI r1.1.net.arcs) 2))&&(eqI r3.1 145))=true),oI (((((eqI x1.drop.place 1&&(eqI x1.drop.open_ 20&&(eqI x1.drop.close 75&&(eqI x1.drop.service 5&&true))))&&(eqI (lenI r1.1.net.arcs) 2))&&(eqI r3.1 145))&&(eqI r3.2.1 1))=true),oR True (((((eqI x1.drop.place 1&&(eqI x1.drop.open_ 20&&(eqI x1.drop.close 75&&(eqI x1.drop.service 5&&true))))&&(eqI (lenI r1.1.net.arcs) 2))&&(eqI r3.1 145))&&(eqI r3.2.1 1))=true),rp 4 (bF h8)]
 ·obtain rfl:=Option.some.inj h
  exact gr 12 [] [cC (QeP h0),cC (Qe7 h1),cC (QeP h2),cC (QhN h3),cC (QgC h4),oO (QiR h5),oO (QiQ Qac.enc h5),rE Qac.enc h5,hH (.rows ((setI r4.orders 0 (Qac.mk x0.name x0.load x0.pick x0.drop 1 x0.penalty x0.split x0.last_ x0.now x0.off)).map Qac.enc)),hH (.relen 1 ((setI r4.orders 0 (Qac.mk x0.name x0.load x0.pick x0.drop 1 x0.penalty x0.split x0.last_ x0.now x0.off)).map Qac.enc).length),hP,hP,hP,oO (setM Qac.enc r4.orders 0 (Qac.mk x0.name x0.load x0.pick x0.drop 1 x0.penalty x0.split x0.last_ x0.now x0.off)),rp 3 (oO (QrM Qac.enc r4.orders 0 (Qac.mk x0.name x0.load x0.pick x0.drop 1 x0.penalty x0.split x0.last_ x0.now x0.off))),rp 2 (oI ((eqI r1.2 0)=true)),nL Qac.enc r1.1.orders,hP,hP,oI ((eqI r1.2 0)=true),oR True ((eqI r1.2 0)=true),rp 8 (bF h6),rp 19 fF]
def QkU (Γ:Gam) (rv:List Qaa) (cf:Cf):Prop:=Go Tryz.prog Tryz.f39 [] Γ (one (lL 2 rv Qaa.enc)) [] cf
def QiP (Γ:Gam) (rv:List Qaa) (word:ByteArray) (l:List Qaa) (l1:List Qaa) (i:Int):Prop:=QkU Γ rv ⟨[.c 116,.l 116,.b 0,.c 15],⟨40,[vS 0 word,vL 1 2 l Qaa.enc,vO 5 0 2 l1 Qaa.enc,vI 6 i],[oS 2 104 l1 Qaa.enc]⟩⟩
def Qh8 (Γ:Gam) (rv:List Qaa) (word:ByteArray) (l:List Qaa) (l2:List Qaa):Prop:=QkU Γ rv ⟨[.c 15],⟨40,[vO 5 0 2 l2 Qaa.enc],[oS 2 104 l2 Qaa.enc]⟩⟩
theorem QlU (Γ:Gam) (rv:List Qaa) {word l l1 i at_} {x:(List Qaa×Int)⊕(List Qaa)} (h:Qgs word l l1 i at_=some x) (hI:∀ s:List Qaa×Int,x=.inl s→QiP Γ rv word l s.1 s.2) (hE:∀ e:List Qaa,x=.inr e→Qh8 Γ rv word l e):QkU Γ rv ⟨[.c 3731,.b 1,.c 467,.l 116,.b 0,.c 15],⟨40,[vS 0 word,vL 1 2 l Qaa.enc,vO 5 0 2 l1 Qaa.enc,vI 6 i,vS 7 at_],[oS 2 104 l1 Qaa.enc]⟩⟩:=by
 unfold Qgs at h
 obtain ⟨x1,h5,h⟩:=Qae h
 obtain ⟨h6,h⟩:=Qat h
 exact gn 4 [0,1,5,6] [2] [cE Qaa.enc h5,oO (Eq.refl ([(Qaa.mk x1.err at_)].map Qaa.enc).length),aO Qaa.enc h6] (hI _ (oJ h))
theorem Qsu (Γ:Gam) (rv:List Qaa) {word l} {s:List Qaa×Int} {e:List Qaa} (h:QaX (fun s=>Qfi word l s.1 s.2) s=some e) (hD:Qh8 Γ rv word l e):QiP Γ rv word l s.1 s.2:=by
 refine QaA (C:=fun (s:List Qaa×Int)=>QiP Γ rv word l s.1 s.2) (D:=fun (e:List Qaa)=>Qh8 Γ rv word l e) ?_ h hD
 clear h hD s e
 rintro ⟨l1,i⟩ z_ h hI hE
 replace h:Qfi word l l1 i=_:=h
 unfold Qfi at h
 rcases Qak h with ⟨h0,h⟩|⟨h0,h⟩
 ·obtain ⟨x0,h1,h⟩:=Qae h
  rcases Qak h with ⟨h2,h⟩|⟨h2,h⟩
  ·exact gn 14 [0,1,5,6,7] [0] [nL Qaa.enc l,bT h0,cE Qaa.enc h1,nF h2] (QlU Γ rv h hI hE)
  ·obtain ⟨h3,h⟩:=Qat h
   obtain ⟨h4,h⟩:=Qat h
   exact gn 14 [0,1,5,6,7] [0] [nL Qaa.enc l,bT h0,cE Qaa.enc h1,nT h2,oO (h3),cE Qaa.enc h1,oO (h4)] (QlU Γ rv h hI hE)
 ·exact gn 5 [5] [0] [nL Qaa.enc l,bF h0] (hE _ (oJ h))
theorem Qj6 {word l} {rv:List Qaa} (h:Qg0 word l=some rv):AFn Tryz.prog 39 [.one (.str word),.one (lL 2 l Qaa.enc)] [] (one (lL 2 rv Qaa.enc)) []:=by
 refine QaG Tryz.func39 (by kernel_rfl) (by kernel_rfl) (fun Γ=>?_)
 unfold Qg0 at h
 obtain ⟨e0,h7,h⟩:=Qae h
 refine gn 9 [0,1,5,6] [0] [hW 12,hH (.adopt 5 2 104)] (Qsu Γ rv h7 ?_)
 obtain ⟨l2,rfl⟩:∃ x,x=e0:=⟨_,rfl⟩
 replace h:(some l2:Option (List Qaa))=some _:=h
 obtain rfl:=Option.some.inj h
 exact gr 2 [] [hW 4,hH (.frz 0),rp 3 (eL l2 Qaa.enc)]
def Qjl (Γ:Gam) (rv:ByteArray) (cf:Cf):Prop:=Go Tryz.prog Tryz.f67 [] Γ (one (.str rv)) [] cf
def QhR (Γ:Gam) (rv:ByteArray) (n:Int) (s0:ByteArray) (left:Int) (again:Bool):Prop:=Qjl Γ rv ⟨[.c 244,.l 244,.b 0,.c 31],⟨31,[vI 0 n,vS 3 s0,vI 4 left,vB 5 again],[]⟩⟩
def Qhi (Γ:Gam) (rv:ByteArray) (n:Int) (s1:ByteArray):Prop:=Qjl Γ rv ⟨[.c 31],⟨31,[vI 0 n,vS 3 s1],[]⟩⟩
theorem QjU (Γ:Gam) (rv:ByteArray) {n s0 left d} {x:(ByteArray×Int×Bool)⊕(ByteArray)} (h:Qex n s0 left d=some x) (hI:∀ s:ByteArray×Int×Bool,x=.inl s→QhR Γ rv n s.1 s.2.1 s.2.2) (hE:∀ e:ByteArray,x=.inr e→Qhi Γ rv n e):Qjl Γ rv ⟨[.c 7827,.b 1,.c 979,.l 244,.b 0,.c 31],⟨31,[vI 0 n,vS 3 s0,vI 4 left,vI 6 d],[]⟩⟩:=by
 unfold Qex at h
 obtain ⟨h2,h⟩:=Qat h
 exact gn 6 [0,3,4,5] [] [hH (.ints [(cvK .u8 (addK .i64 48 d))]),oO (Eq.refl ([(cvK .u8 (addK .i64 48 d))].map e_u8).length),oO (Eq.refl (([(cvK .u8 (addK .i64 48 d))].map e_u8):List (List Lf))),oO (h2),oO (oA (n:=10))] (hI _ (oJ h))
theorem QqH (Γ:Gam) (rv:ByteArray) {n} {s:ByteArray×Int×Bool} {e:ByteArray} (h:QaX (fun s=>QgO n s.1 s.2.1 s.2.2) s=some e) (hD:Qhi Γ rv n e):QhR Γ rv n s.1 s.2.1 s.2.2:=by
 refine QaA (C:=fun (s:ByteArray×Int×Bool)=>QhR Γ rv n s.1 s.2.1 s.2.2) (D:=fun (e:ByteArray)=>Qhi Γ rv n e) ?_ h hD
 clear h hD s e
 rintro ⟨s0,left,again⟩ z_ h hI hE
 replace h:QgO n s0 left again=_:=h
 unfold QgO at h
 rcases Qak h with ⟨h0,h⟩|⟨h0,h⟩
 ·rcases Qak h with ⟨h1,h⟩|⟨h1,h⟩
  ·exact gn 14 [0,3,4,6] [] [bT h0,oO (oA (n:=10)),bT h1] (QjU Γ rv h hI hE)
  ·exact gn 14 [0,3,4,6] [] [bT h0,oO (oA (n:=10)),bF h1] (QjU Γ rv h hI hE)
 ·exact gn 5 [0,3] [] [bF h0] (hE _ (oJ h))
theorem Qcr {n} {rv:ByteArray} (h:Qa8 n=some rv):AFn Tryz.prog 67 [.one (lI n)] [] (one (.str rv)) []:=by
 refine QaG Tryz.func67 (by kernel_rfl) (by kernel_rfl) (fun Γ=>?_)
 unfold Qa8 at h
 obtain ⟨e0,h3,h⟩:=Qae h
 refine gn 11 [0,3,4,5] [] [] (QqH Γ rv h3 ?_)
 obtain ⟨s1,rfl⟩:∃ x,x=e0:=⟨_,rfl⟩
 replace h:(br (ltI n 0) (chk (QyD.size+s1.size≤9223372036854775807) (some (catS QyD s1))) (some s1):Option ByteArray)=some _:=h
 rcases Qak h with ⟨h4,h⟩|⟨h4,h⟩
 ·obtain ⟨h5,h⟩:=Qat h
  obtain rfl:=Option.some.inj h
  exact gr 6 [] [bT h4,oO (h5)]
 ·obtain rfl:=Option.some.inj h
  exact gr 7 [] [bF h4]
theorem QhX {c} {rv:Bool} (h:QjV c=some rv):AFn Tryz.prog 126 [.one (.int .u8 c)] [] (one (.bool rv)) []:=by
 refine QaG Tryz.func126 (by kernel_rfl) (by kernel_rfl) (fun Γ=>?_)
 unfold QjV at h
 obtain rfl:=Option.some.inj h
 exact gr 4 [] [hP,hP,hP,oI ((geI c 48)=true),oR True ((geI c 48)=true)]
theorem Qjm {c} {rv:Bool} (h:Qmj c=some rv):AFn Tryz.prog 127 [.one (.int .u8 c)] [] (one (.bool rv)) []:=by
 refine QaG Tryz.func127 (by kernel_rfl) (by kernel_rfl) (fun Γ=>?_)
 unfold Qmj at h
 obtain rfl:=Option.some.inj h
 exact gr 4 [] [rp 14 hP,oI ((geI c 97)=true),oR True ((geI c 97)=true),rp 2 (oI (((geI c 97)&&(leI c 122))=false)),oI ((((geI c 97)&&(leI c 122))=false)∧(geI c 65)=true),oI (((geI c 97)&&(leI c 122))=false),oI ((((geI c 97)&&(leI c 122))=false)∧(geI c 65)=true),oR True (((geI c 97)&&(leI c 122))=false),oI ((((geI c 97)&&(leI c 122))||((geI c 65)&&(leI c 90)))=false),oR True ((((geI c 97)&&(leI c 122))||((geI c 65)&&(leI c 90)))=false)]
def Qra (Γ:Gam) (rv:Bool) (cf:Cf):Prop:=Go Tryz.prog Tryz.f93 [] Γ (one (.bool rv)) [] cf
def QnN (Γ:Gam) (rv:Bool) (s0:ByteArray) (b:UInt8) (i:Int):Prop:=Qra Γ rv ⟨[.c 116,.l 116,.b 0,.c 15],⟨35,[vS 0 s0,vI 3 i],[]⟩⟩
def QmA (Γ:Gam) (rv:Bool) (s0:ByteArray) (b:UInt8):Prop:=Qra Γ rv ⟨[.c 15],⟨35,[],[]⟩⟩
theorem Qtk (Γ:Gam) (rv:Bool) {s0 b} {s:Int} {e:(Unit)⊕(Bool)} (h:QaX (fun s=>QfH s0 b s) s=some e) (hD:sel e (fun e=>QmA Γ rv s0 b) (fun e=>e=rv)):QnN Γ rv s0 b s:=by
 refine QaA (C:=fun (s:Int)=>QnN Γ rv s0 b s) (D:=fun (e:(Unit)⊕(Bool))=>sel e (fun e=>QmA Γ rv s0 b) (fun e=>e=rv)) ?_ h hD
 clear h hD s e
 intro i z_ h hI hE
 replace h:QfH s0 b i=_:=h
 unfold QfH at h
 rcases Qak h with ⟨h4,h⟩|⟨h4,h⟩
 ·obtain ⟨b1,h5,h⟩:=Qae h
  obtain ⟨r1,h6,h⟩:=Qae h
  rcases Qak h with ⟨h7,h⟩|⟨h7,h⟩
  ·exact gn 14 [0,3] [] [bT h4,yE h5,cC (Qjm h6),rp 6 (nF h7),fF] (hI _ (oJ h))
  ·obtain ⟨r2,h8,h⟩:=Qae h
   rcases Qak h with ⟨h9,h⟩|⟨h9,h⟩
   ·exact gn 14 [0,3] [] [bT h4,yE h5,cC (Qjm h6),rp 3 (nT h7),yE h5,nT h7,cC (QhX h8),nT h7,nT h7,nF h9] (hI _ (oJ h))
   ·obtain rfl:=(hE _ (oJ h):_=rv)
    exact gr 12 [] [bT h4,yE h5,cC (Qjm h6),rp 3 (nT h7),yE h5,nT h7,cC (QhX h8),nT h7,nT h7,nT h9]
 ·exact gn 5 [] [] [bF h4] (hE _ (oJ h))
theorem QfI {s0} {rv:Bool} (h:QdO s0=some rv):AFn Tryz.prog 93 [.one (.str s0)] [] (one (.bool rv)) []:=by
 refine QaG Tryz.func93 (by kernel_rfl) (by kernel_rfl) (fun Γ=>?_)
 unfold QdO at h
 rcases Qak h with ⟨h0,h⟩|⟨h0,h⟩
 ·obtain rfl:=Option.some.inj h
  exact gr 8 [] [rp 4 hP,rp 2 (oI ((ltI (Qx2 s0) 1)=false)),oR True ((ltI (Qx2 s0) 1)=false),rp 4 (bT h0),tT]
 ·obtain ⟨b,h1,h⟩:=Qae h
  obtain ⟨r,h2,h⟩:=Qae h
  rcases Qak h with ⟨h3,h⟩|⟨h3,h⟩
  ·obtain rfl:=Option.some.inj h
   exact gr 8 [] [rp 4 hP,rp 2 (oI ((ltI (Qx2 s0) 1)=false)),oR True ((ltI (Qx2 s0) 1)=false),bF h0,bF h0,yE h1,bF h0,cC (QhX h2),bF h0,bT h3]
  ·obtain ⟨e0,h10,h⟩:=Qae h
   refine gn 12 [0,3] [] [rp 4 hP,rp 2 (oI ((ltI (Qx2 s0) 1)=false)),oR True ((ltI (Qx2 s0) 1)=false),bF h0,bF h0,yE h1,bF h0,cC (QhX h2),bF h0,bF h3] (Qtk Γ rv h10 ?_)
   rcases e0 with e0|e0
   ·replace h:(some true:Option Bool)=some _:=h
    obtain rfl:=Option.some.inj h
    exact gr 2 [] []
   ·obtain ⟨r3,rfl⟩:∃ x,x=e0:=⟨_,rfl⟩
    replace h:(some r3:Option Bool)=some _:=h
    exact Option.some.inj h
def Qir (Γ:Gam) (rv:List Qaa) (cf:Cf):Prop:=Go Tryz.prog Tryz.f94 [] Γ (one (lL 2 rv Qaa.enc)) [] cf
def QiO (Γ:Gam) (rv:List Qaa) (l:List Qal) (l2:List Qaa) (i:Int):Prop:=Qir Γ rv ⟨[.c 244,.l 244,.b 0,.c 31],⟨88,[vL 0 2 l Qal.enc,vO 3 0 2 l2 Qaa.enc,vI 4 i],[oS 2 104 l2 Qaa.enc]⟩⟩
def Qh7 (Γ:Gam) (rv:List Qaa) (l:List Qal) (l4:List Qaa):Prop:=Qir Γ rv ⟨[.c 31],⟨88,[vO 3 0 2 l4 Qaa.enc],[oS 2 104 l4 Qaa.enc]⟩⟩
theorem Qll (Γ:Gam) (rv:List Qaa) {l i x0 l3} {x:(List Qaa×Int)⊕(List Qaa)} (h:Qdy l i x0 l3=some x) (hI:∀ s:List Qaa×Int,x=.inl s→QiO Γ rv l s.1 s.2) (hE:∀ e:List Qaa,x=.inr e→Qh7 Γ rv l e):Qir Γ rv ⟨[.c 7827,.b 1,.c 979,.l 244,.b 0,.c 31],⟨88,[vL 0 2 l Qal.enc,vO 3 0 2 l3 Qaa.enc,vI 4 i,vP 5 1 2],[oS 2 104 l3 Qaa.enc,oX 2 86 (Qal.enc x0)]⟩⟩:=by
 unfold Qdy at h
 rcases Qak h with ⟨h7,h⟩|⟨h7,h⟩
 ·obtain ⟨x1,h8,h⟩:=Qae h
  rcases Qak h with ⟨h9,h⟩|⟨h9,h⟩
  ·obtain ⟨r1,h10,h⟩:=Qae h
   obtain ⟨h11,h⟩:=Qat h
   exact gn 7 [0,3,4] [3] [hH (.draw 24 []),rp 6 (bT h7),cE Qal.enc h8,rp 4 (bT h7),rp 9 (bT h9),bT h7,bT h9,bT h7,tT,cC (Qcr h10),oO (Eq.refl ([(Qaa.mk 13 r1)].map Qaa.enc).length),aO Qaa.enc h11] (hI _ (oJ h))
  ·rcases Qak h with ⟨h12,h⟩|⟨h12,h⟩
   ·obtain ⟨r2,h13,h⟩:=Qae h
    obtain ⟨h14,h⟩:=Qat h
    exact gn 7 [0,3,4] [3] [hH (.draw 24 []),rp 6 (bT h7),cE Qal.enc h8,rp 4 (bT h7),rp 6 (bF h9),cE Qal.enc h8,rp 3 (bF h9),bT h7,bF h9,bT h7,bT h12,cC (Qcr h13),oO (Eq.refl ([(Qaa.mk 13 r2)].map Qaa.enc).length),aO Qaa.enc h14] (hI _ (oJ h))
   ·exact gn 7 [0,3,4] [0] [hH (.draw 24 []),rp 6 (bT h7),cE Qal.enc h8,rp 4 (bT h7),rp 6 (bF h9),cE Qal.enc h8,rp 3 (bF h9),bT h7,bF h9,bT h7,bF h12] (hI _ (oJ h))
 ·exact gn 7 [0,3,4] [0] [hH (.draw 24 []),rp 10 (bF h7),rp 9 kF,bF h7,bF h7,fF] (hI _ (oJ h))
theorem Qsj (Γ:Gam) (rv:List Qaa) {l} {s:List Qaa×Int} {e:List Qaa} (h:QaX (fun s=>Qcx l s.1 s.2) s=some e) (hD:Qh7 Γ rv l e):QiO Γ rv l s.1 s.2:=by
 refine QaA (C:=fun (s:List Qaa×Int)=>QiO Γ rv l s.1 s.2) (D:=fun (e:List Qaa)=>Qh7 Γ rv l e) ?_ h hD
 clear h hD s e
 rintro ⟨l2,i⟩ z_ h hI hE
 replace h:Qcx l l2 i=_:=h
 unfold Qcx at h
 rcases Qak h with ⟨h2,h⟩|⟨h2,h⟩
 ·obtain ⟨x0,h3,h⟩:=Qae h
  rcases Qak h with ⟨h4,h⟩|⟨h4,h⟩
  ·obtain ⟨r,h5,h⟩:=Qae h
   obtain ⟨h6,h⟩:=Qat h
   exact gn 14 [0,3,4,5] [3,1] [nL Qal.enc l,bT h2,cE Qal.enc h3,rp 17 hP,rp 2 (oI ((ltI x0.t 0)=false)),oR True ((ltI x0.t 0)=false),rp 4 (oI (((ltI x0.t 0)||(gtI x0.t 4096))=false)),oR True (((ltI x0.t 0)||(gtI x0.t 4096))=false),rp 5 (oI ((((ltI x0.t 0)||(gtI x0.t 4096))||(ltI x0.a x0.t))=false)),oR True ((((ltI x0.t 0)||(gtI x0.t 4096))||(ltI x0.a x0.t))=false),bT h4,cC (Qcr h5),oO (Eq.refl ([(Qaa.mk 2 r)].map Qaa.enc).length),aO Qaa.enc h6] (Qll Γ rv h hI hE)
  ·exact gn 14 [0,3,4,5] [0,1] [nL Qal.enc l,bT h2,cE Qal.enc h3,rp 17 hP,rp 2 (oI ((ltI x0.t 0)=false)),oR True ((ltI x0.t 0)=false),rp 4 (oI (((ltI x0.t 0)||(gtI x0.t 4096))=false)),oR True (((ltI x0.t 0)||(gtI x0.t 4096))=false),rp 5 (oI ((((ltI x0.t 0)||(gtI x0.t 4096))||(ltI x0.a x0.t))=false)),oR True ((((ltI x0.t 0)||(gtI x0.t 4096))||(ltI x0.a x0.t))=false),bF h4] (Qll Γ rv h hI hE)
 ·exact gn 5 [3] [0] [nL Qal.enc l,bF h2] (hE _ (oJ h))
theorem Qlk (Γ:Gam) (rv:List Qaa) {l l1} (h:Qeg l l1=some rv):Qir Γ rv ⟨[.c 15],⟨88,[vL 0 2 l Qal.enc,vO 3 0 2 l1 Qaa.enc],[oS 2 104 l1 Qaa.enc]⟩⟩:=by
 unfold Qeg at h
 obtain ⟨e0,h15,h⟩:=Qae h
 refine gn 5 [0,3,4] [0] [] (Qsj Γ rv h15 ?_)
 obtain ⟨l4,rfl⟩:∃ x,x=e0:=⟨_,rfl⟩
 replace h:(some l4:Option (List Qaa))=some _:=h
 obtain rfl:=Option.some.inj h
 exact gr 2 [] [hW 4,hH (.frz 0),rp 3 (eL l4 Qaa.enc)]
theorem QjW {l} {rv:List Qaa} (h:Qcw l=some rv):AFn Tryz.prog 94 [.one (lL 2 l Qal.enc)] [] (one (lL 2 rv Qaa.enc)) []:=by
 refine QaG Tryz.func94 (by kernel_rfl) (by kernel_rfl) (fun Γ=>?_)
 unfold Qcw at h
 rcases Qak h with ⟨h0,h⟩|⟨h0,h⟩
 ·obtain ⟨h1,h⟩:=Qat h
  exact gn 9 [0,3] [1] [nL Qal.enc l,hP,hP,oI ((ltI (lenI l) 1)=false),nL Qal.enc l,hP,hP,oI ((ltI (lenI l) 1)=false),oR True ((ltI (lenI l) 1)=false),bT h0,oO (Eq.refl ([(Qaa.mk 4 ByteArray.empty)].map Qaa.enc).length),aN (l:=([(Qaa.mk 4 ByteArray.empty)]:List Qaa)) Qaa.enc h1] (Qlk Γ rv h)
 ·exact gn 9 [0,3] [0] [nL Qal.enc l,hP,hP,oI ((ltI (lenI l) 1)=false),nL Qal.enc l,hP,hP,oI ((ltI (lenI l) 1)=false),oR True ((ltI (lenI l) 1)=false),bF h0,hW 1,hH (.adopt 3 2 104)] (Qlk Γ rv h)
theorem Qdi {t} {rv:Bool} (h:QgD t=some rv):AFn Tryz.prog 95 [.one (lI t)] [] (one (.bool rv)) []:=by
 refine QaG Tryz.func95 (by kernel_rfl) (by kernel_rfl) (fun Γ=>?_)
 unfold QgD at h
 obtain rfl:=Option.some.inj h
 exact gr 4 [] [hP,hP,hP,oI ((geI t 0)=true),oR True ((geI t 0)=true)]
def Qb4 (Γ:Gam) (rv:List Qaa) (cf:Cf):Prop:=Go Tryz.prog Tryz.f64 [] Γ (one (lL 2 rv Qaa.enc)) [] cf
def Qj0 (Γ:Gam) (rv:List Qaa) (n:Qag) (i:Int) (r:ByteArray) (x0:Qai) (l:List Qaa) (l1:List Qaa) (twice:Bool) (k:Int):Prop:=Qb4 Γ rv ⟨[.c 4084,.l 4084,.b 0,.c 511],⟨192,[vI 1 i,vP 2 0 2,vO 5 1 2 l1 Qaa.enc,vS 6 (catS QaT r),vP 7 2 6,vB 8 twice,vI 9 k],[oX 2 25 (Qag.enc n),oS 2 104 l1 Qaa.enc,oX 6 59 (Qai.enc x0)]⟩⟩
def QjC (Γ:Gam) (rv:List Qaa) (n:Qag) (i:Int) (r:ByteArray) (x0:Qai) (l:List Qaa) (l1:List Qaa) (twice1:Bool):Prop:=Qb4 Γ rv ⟨[.c 511],⟨192,[vO 5 0 2 l1 Qaa.enc,vS 6 (catS QaT r),vP 7 1 6,vB 8 twice1],[oS 2 104 l1 Qaa.enc,oX 6 59 (Qai.enc x0)]⟩⟩
def Qj1 (Γ:Gam) (rv:List Qaa) (r:ByteArray) (x0:Qai) (l:List Qaa) (r1:List Qaa) (l3:List Qaa) (k1:Int):Prop:=Qb4 Γ rv ⟨[.c 32756,.l 32756,.b 2,.c 4095],⟨192,[vO 5 0 2 l3 Qaa.enc,vS 6 (catS QaT r),vP 7 1 6,vL 11 2 r1 Qaa.enc,vI 12 k1],[oS 2 104 l3 Qaa.enc,oX 6 59 (Qai.enc x0)]⟩⟩
def QjD (Γ:Gam) (rv:List Qaa) (r:ByteArray) (x0:Qai) (l:List Qaa) (r1:List Qaa) (l4:List Qaa):Prop:=Qb4 Γ rv ⟨[.c 4095],⟨192,[vO 5 0 2 l4 Qaa.enc,vS 6 (catS QaT r),vP 7 1 6],[oS 2 104 l4 Qaa.enc,oX 6 59 (Qai.enc x0)]⟩⟩
def Qj2 (Γ:Gam) (rv:List Qaa) (r:ByteArray) (x0:Qai) (l:List Qaa) (l6:List Qaa) (k2:Int):Prop:=Qb4 Γ rv ⟨[.c 131060,.l 131060,.b 4,.c 16383],⟨192,[vO 5 0 2 l6 Qaa.enc,vS 6 (catS QaT r),vP 7 1 6,vI 13 k2],[oS 2 104 l6 Qaa.enc,oX 6 59 (Qai.enc x0)]⟩⟩
def QjE (Γ:Gam) (rv:List Qaa) (r:ByteArray) (x0:Qai) (l:List Qaa) (l7:List Qaa):Prop:=Qb4 Γ rv ⟨[.c 16383],⟨192,[vO 5 0 2 l7 Qaa.enc],[oS 2 104 l7 Qaa.enc]⟩⟩
theorem QpR (Γ:Gam) (rv:List Qaa) {n i r x0 l l1} {s:Bool×Int} {e:Bool} (h:QaX (fun s=>Qba n i r x0 l l1 s.1 s.2) s=some e) (hD:QjC Γ rv n i r x0 l l1 e):Qj0 Γ rv n i r x0 l l1 s.1 s.2:=by
 refine QaA (C:=fun (s:Bool×Int)=>Qj0 Γ rv n i r x0 l l1 s.1 s.2) (D:=fun (e:Bool)=>QjC Γ rv n i r x0 l l1 e) ?_ h hD
 clear h hD s e
 rintro ⟨twice,k⟩ z_ h hI hE
 replace h:Qba n i r x0 l l1 twice k=_:=h
 unfold Qba at h
 rcases Qak h with ⟨h7,h⟩|⟨h7,h⟩
 ·obtain ⟨x1,h8,h⟩:=Qae h
  exact gn 13 [1,2,5,6,7,8,9] [0,1,2] [bT h7,cE Qai.enc h8,rp 22 hP,rp 5 (oI (twice=false)),rp 4 (oI ((twice=false)∧(eqI x0.from_ x1.from_)=true)),oI (twice=false),oI ((twice=false)∧(eqI x0.from_ x1.from_)=true),oI (twice=false),rp 4 (oI ((twice=false)∧((eqI x0.from_ x1.from_)&&(eqI x0.to_ x1.to_))=true)),oI (twice=false),oI ((twice=false)∧((eqI x0.from_ x1.from_)&&(eqI x0.to_ x1.to_))=true),oR True (twice=false)] (hI _ (oJ h))
 ·exact gn 5 [5,6,7,8] [1,2] [bF h7] (hE _ (oJ h))
theorem QpS (Γ:Gam) (rv:List Qaa) {r x0 l r1} {s:List Qaa×Int} {e:List Qaa} (h:QaX (fun s=>Qbb r x0 l r1 s.1 s.2) s=some e) (hD:QjD Γ rv r x0 l r1 e):Qj1 Γ rv r x0 l r1 s.1 s.2:=by
 refine QaA (C:=fun (s:List Qaa×Int)=>Qj1 Γ rv r x0 l r1 s.1 s.2) (D:=fun (e:List Qaa)=>QjD Γ rv r x0 l r1 e) ?_ h hD
 clear h hD s e
 rintro ⟨l3,k1⟩ z_ h hI hE
 replace h:Qbb r x0 l r1 l3 k1=_:=h
 unfold Qbb at h
 rcases Qak h with ⟨h13,h⟩|⟨h13,h⟩
 ·obtain ⟨x2,h14,h⟩:=Qae h
  obtain ⟨h15,h⟩:=Qat h
  exact gn 11 [5,6,7,11,12] [3,1] [nL Qaa.enc r1,bT h13,cE Qaa.enc h14,oO (Eq.refl ([(Qaa.mk x2.err (catS QaT r))].map Qaa.enc).length),aO Qaa.enc h15] (hI _ (oJ h))
 ·exact gn 5 [5,6,7] [0,1] [nL Qaa.enc r1,bF h13] (hE _ (oJ h))
theorem QpT (Γ:Gam) (rv:List Qaa) {r x0 l} {s:List Qaa×Int} {e:List Qaa} (h:QaX (fun s=>Qbc r x0 l s.1 s.2) s=some e) (hD:QjE Γ rv r x0 l e):Qj2 Γ rv r x0 l s.1 s.2:=by
 refine QaA (C:=fun (s:List Qaa×Int)=>Qj2 Γ rv r x0 l s.1 s.2) (D:=fun (e:List Qaa)=>QjE Γ rv r x0 l e) ?_ h hD
 clear h hD s e
 rintro ⟨l6,k2⟩ z_ h hI hE
 replace h:Qbc r x0 l l6 k2=_:=h
 unfold Qbc at h
 rcases Qak h with ⟨h19,h⟩|⟨h19,h⟩
 ·obtain ⟨x3,h20,h⟩:=Qae h
  obtain ⟨r2,h21,h⟩:=Qae h
  rcases Qak h with ⟨h22,h⟩|⟨h22,h⟩
  ·obtain ⟨r3,h23,h⟩:=Qae h
   rcases Qak h with ⟨h24,h⟩|⟨h24,h⟩
   ·rcases Qak h with ⟨h25,h⟩|⟨h25,h⟩
    ·obtain ⟨x4,h26,h⟩:=Qae h
     rcases Qak h with ⟨h27,h⟩|⟨h27,h⟩
     ·obtain ⟨h28,h⟩:=Qat h
      exact gn 16 [5,6,7,13] [4,1] [nL Qal.enc x0.slow,bT h19,cE Qal.enc h20,hH (.draw 26 []),cC (Qdi h21),rp 3 (nF h22),cC (Qdi h23),rp 2 (nF h22),rp 3 (nF h24),rp 7 (bT h25),cE Qal.enc h26,rp 3 (bT h25),nF h24,bT h25,nF h24,bT h27,oO (Eq.refl ([(Qaa.mk 2 (catS QaT r))].map Qaa.enc).length),aO Qaa.enc h28] (hI _ (oJ h))
     ·exact gn 16 [5,6,7,13] [0,1] [nL Qal.enc x0.slow,bT h19,cE Qal.enc h20,hH (.draw 26 []),cC (Qdi h21),rp 3 (nF h22),cC (Qdi h23),rp 2 (nF h22),rp 3 (nF h24),rp 7 (bT h25),cE Qal.enc h26,rp 3 (bT h25),nF h24,bT h25,nF h24,bF h27] (hI _ (oJ h))
    ·exact gn 16 [5,6,7,13] [0,1] [nL Qal.enc x0.slow,bT h19,cE Qal.enc h20,hH (.draw 26 []),cC (Qdi h21),rp 3 (nF h22),cC (Qdi h23),rp 2 (nF h22),rp 3 (nF h24),rp 10 (bF h25),nF h24,bF h25,nF h24,fF] (hI _ (oJ h))
   ·obtain ⟨h29,h⟩:=Qat h
    exact gn 16 [5,6,7,13] [4,1] [nL Qal.enc x0.slow,bT h19,cE Qal.enc h20,hH (.draw 26 []),cC (Qdi h21),rp 3 (nF h22),cC (Qdi h23),rp 2 (nF h22),rp 3 (nT h24),rp 10 kF,rp 2 (nT h24),tT,oO (Eq.refl ([(Qaa.mk 2 (catS QaT r))].map Qaa.enc).length),aO Qaa.enc h29] (hI _ (oJ h))
  ·obtain ⟨h30,h⟩:=Qat h
   exact gn 16 [5,6,7,13] [4,1] [nL Qal.enc x0.slow,bT h19,cE Qal.enc h20,hH (.draw 26 []),cC (Qdi h21),rp 5 (nT h22),tT,tT,tT,rp 10 kF,tT,tT,tT,oO (Eq.refl ([(Qaa.mk 2 (catS QaT r))].map Qaa.enc).length),aO Qaa.enc h30] (hI _ (oJ h))
 ·exact gn 5 [5] [0] [nL Qal.enc x0.slow,bF h19] (hE _ (oJ h))
theorem QjB (Γ:Gam) (rv:List Qaa) {r x0 l l5} (h:QbH r x0 l l5=some rv):Qb4 Γ rv ⟨[.c 8191],⟨192,[vO 5 0 2 l5 Qaa.enc,vS 6 (catS QaT r),vP 7 1 6],[oS 2 104 l5 Qaa.enc,oX 6 59 (Qai.enc x0)]⟩⟩:=by
 unfold QbH at h
 obtain ⟨e2,h31,h⟩:=Qae h
 refine gn 5 [5,6,7,13] [0,1] [] (QpT Γ rv h31 ?_)
 obtain ⟨l7,rfl⟩:∃ x,x=e2:=⟨_,rfl⟩
 replace h:(some l7:Option (List Qaa))=some _:=h
 obtain rfl:=Option.some.inj h
 exact gr 2 [] [hW 4,hH (.frz 0),rp 3 (eL l7 Qaa.enc)]
theorem QjA (Γ:Gam) (rv:List Qaa) {r x0 l l2} (h:QbT r x0 l l2=some rv):Qb4 Γ rv ⟨[.c 1023],⟨192,[vO 5 0 2 l2 Qaa.enc,vS 6 (catS QaT r),vP 7 1 6],[oS 2 104 l2 Qaa.enc,oX 6 59 (Qai.enc x0)]⟩⟩:=by
 unfold QbT at h
 obtain ⟨r1,h12,h⟩:=Qae h
 obtain ⟨e1,h16,h⟩:=Qae h
 refine gn 7 [5,6,7,11,12] [0,1] [cC (QjW h12)] (QpS Γ rv h16 ?_)
 obtain ⟨l4,rfl⟩:∃ x,x=e1:=⟨_,rfl⟩
 replace h:(br (gtI (lenI x0.slow) 16) (chk (okN (l4++[(Qaa.mk 4 (catS QaT r))]).length 24) (QbH r x0 l (l4++[(Qaa.mk 4 (catS QaT r))]))) (QbH r x0 l l4):Option (List Qaa))=some _:=h
 rcases Qak h with ⟨h17,h⟩|⟨h17,h⟩
 ·obtain ⟨h18,h⟩:=Qat h
  exact gn 5 [5,6,7] [3,1] [nL Qal.enc x0.slow,bT h17,oO (Eq.refl ([(Qaa.mk 4 (catS QaT r))].map Qaa.enc).length),aO Qaa.enc h18] (QjB Γ rv h)
 ·exact gn 5 [5,6,7] [0,1] [nL Qal.enc x0.slow,bF h17] (QjB Γ rv h)
theorem Qjz (Γ:Gam) (rv:List Qaa) {n i r x0 l l1} (h:QcD n i r x0 l l1=some rv):Qb4 Γ rv ⟨[.c 127],⟨192,[vI 1 i,vP 2 0 2,vO 5 1 2 l1 Qaa.enc,vS 6 (catS QaT r),vP 7 2 6],[oX 2 25 (Qag.enc n),oS 2 104 l1 Qaa.enc,oX 6 59 (Qai.enc x0)]⟩⟩:=by
 unfold QcD at h
 obtain ⟨e0,h9,h⟩:=Qae h
 refine gn 7 [1,2,5,6,7,8,9] [0,1,2] [] (QpR Γ rv h9 ?_)
 obtain ⟨twice1,rfl⟩:∃ x,x=e0:=⟨_,rfl⟩
 replace h:(br twice1 (chk (okN (l1++[(Qaa.mk 6 (catS QaT r))]).length 24) (QbT r x0 l (l1++[(Qaa.mk 6 (catS QaT r))]))) (QbT r x0 l l1):Option (List Qaa))=some _:=h
 rcases Qak h with ⟨h10,h⟩|⟨h10,h⟩
 ·obtain ⟨h11,h⟩:=Qat h
  exact gn 5 [5,6,7] [3,1] [bT h10,oO (Eq.refl ([(Qaa.mk 6 (catS QaT r))].map Qaa.enc).length),aO Qaa.enc h11] (QjA Γ rv h)
 ·exact gn 5 [5,6,7] [0,1] [bF h10] (QjA Γ rv h)
theorem Qjy (Γ:Gam) (rv:List Qaa) {n i r x0 l} (h:QcC n i r x0 l=some rv):Qb4 Γ rv ⟨[.c 63],⟨192,[vI 1 i,vP 2 0 2,vO 5 1 2 l Qaa.enc,vS 6 (catS QaT r),vP 7 2 6],[oX 2 25 (Qag.enc n),oS 2 104 l Qaa.enc,oX 6 59 (Qai.enc x0)]⟩⟩:=by
 unfold QcC at h
 rcases Qak h with ⟨h5,h⟩|⟨h5,h⟩
 ·obtain ⟨h6,h⟩:=Qat h
  exact gn 5 [1,2,5,6,7] [0,4,2] [rp 18 hP,rp 2 (oI ((ltI x0.profile 0)=false)),oR True ((ltI x0.profile 0)=false),rp 2 (oI (((ltI x0.profile 0)||(gtI x0.profile 7))=false)),oR True (((ltI x0.profile 0)||(gtI x0.profile 7))=false),rp 2 (oI ((((ltI x0.profile 0)||(gtI x0.profile 7))||(ltI x0.miles 0))=false)),oR True ((((ltI x0.profile 0)||(gtI x0.profile 7))||(ltI x0.miles 0))=false),rp 4 (oI (((((ltI x0.profile 0)||(gtI x0.profile 7))||(ltI x0.miles 0))||(gtI x0.miles 10000))=false)),oR True (((((ltI x0.profile 0)||(gtI x0.profile 7))||(ltI x0.miles 0))||(gtI x0.miles 10000))=false),bT h5,oO (Eq.refl ([(Qaa.mk 2 (catS QaT r))].map Qaa.enc).length),aO Qaa.enc h6] (Qjz Γ rv h)
 ·exact gn 5 [1,2,5,6,7] [0,1,2] [rp 18 hP,rp 2 (oI ((ltI x0.profile 0)=false)),oR True ((ltI x0.profile 0)=false),rp 2 (oI (((ltI x0.profile 0)||(gtI x0.profile 7))=false)),oR True (((ltI x0.profile 0)||(gtI x0.profile 7))=false),rp 2 (oI ((((ltI x0.profile 0)||(gtI x0.profile 7))||(ltI x0.miles 0))=false)),oR True ((((ltI x0.profile 0)||(gtI x0.profile 7))||(ltI x0.miles 0))=false),rp 4 (oI (((((ltI x0.profile 0)||(gtI x0.profile 7))||(ltI x0.miles 0))||(gtI x0.miles 10000))=false)),oR True (((((ltI x0.profile 0)||(gtI x0.profile 7))||(ltI x0.miles 0))||(gtI x0.miles 10000))=false),bF h5] (Qjz Γ rv h)
theorem Qsm {n i} {rv:List Qaa} (h:Qei n i=some rv):AFn Tryz.prog 64 [.agg (Qag.enc n),.one (lI i)] [] (one (lL 2 rv Qaa.enc)) []:=by
 refine QaG Tryz.func64 (by kernel_rfl) (by kernel_rfl) (fun Γ=>?_)
 unfold Qei at h
 obtain ⟨r,h0,h⟩:=Qae h
 obtain ⟨h1,h⟩:=Qat h
 obtain ⟨x0,h2,h⟩:=Qae h
 rcases Qak h with ⟨h3,h⟩|⟨h3,h⟩
 ·obtain ⟨h4,h⟩:=Qat h
  exact gn 13 [1,2,5,6,7] [0,3,1] [cC (Qcr h0),oO (h1),cE Qai.enc h2,rp 5 hP,rp 3 (oI ((ltI x0.from_ 0)=false)),nL QeA n.places,rp 11 hP,rp 2 (oI ((ltI x0.from_ 0)=false)),oR True ((ltI x0.from_ 0)=false),rp 2 (oI (((ltI x0.from_ 0)||(geI x0.from_ (lenI n.places)))=false)),oR True (((ltI x0.from_ 0)||(geI x0.from_ (lenI n.places)))=false),rp 3 (oI ((((ltI x0.from_ 0)||(geI x0.from_ (lenI n.places)))||(ltI x0.to_ 0))=false)),nL QeA n.places,hP,hP,rp 2 (oI ((((ltI x0.from_ 0)||(geI x0.from_ (lenI n.places)))||(ltI x0.to_ 0))=false)),oR True ((((ltI x0.from_ 0)||(geI x0.from_ (lenI n.places)))||(ltI x0.to_ 0))=false),bT h3,oO (Eq.refl ([(Qaa.mk 11 (catS QaT r))].map Qaa.enc).length),aN (l:=([(Qaa.mk 11 (catS QaT r))]:List Qaa)) Qaa.enc h4] (Qjy Γ rv h)
 ·exact gn 13 [1,2,5,6,7] [0,2,1] [cC (Qcr h0),oO (h1),cE Qai.enc h2,rp 5 hP,rp 3 (oI ((ltI x0.from_ 0)=false)),nL QeA n.places,rp 11 hP,rp 2 (oI ((ltI x0.from_ 0)=false)),oR True ((ltI x0.from_ 0)=false),rp 2 (oI (((ltI x0.from_ 0)||(geI x0.from_ (lenI n.places)))=false)),oR True (((ltI x0.from_ 0)||(geI x0.from_ (lenI n.places)))=false),rp 3 (oI ((((ltI x0.from_ 0)||(geI x0.from_ (lenI n.places)))||(ltI x0.to_ 0))=false)),nL QeA n.places,hP,hP,rp 2 (oI ((((ltI x0.from_ 0)||(geI x0.from_ (lenI n.places)))||(ltI x0.to_ 0))=false)),oR True ((((ltI x0.from_ 0)||(geI x0.from_ (lenI n.places)))||(ltI x0.to_ 0))=false),bF h3,hW 1,hH (.adopt 5 2 104)] (Qjy Γ rv h)
end Go.Proofs.YtbilkblifgaflaaGreatDoor
