/- Part MW of the proof: texts X2 X3. -/
import Derived.Test.YtoedkepcaigkeaaGreatDoorMV
import Derived.Test.YtoedkepcaigkeaaGreatDoorProg
namespace Go.Proofs.YtoedkepcaigkeaaGreatDoor
set_option linter.unusedVariables false
set_option linter.unusedSectionVars false
set_option linter.unusedSimpArgs false
set_option maxHeartbeats 4000000
set_option maxRecDepth 100000
def Qh5 (Γ:Gam) (rv:List Int×Int) (cf:Cf):Prop:=Go Tryz.prog Tryz.f186 [] Γ (.tup [.one (lL 1 rv.1 e_i64),.one (lI rv.2)]) [] cf
def Qms (Γ:Gam) (rv:List Int×Int) (x0:Qac) (l:List Qaa) (n:Int) (l1:List (List Int)) (i:Int) (on_:Bool) (there:Bool) (k:Int):Prop:=Qh5 Γ rv ⟨[.c 29844,.l 29844,.b 2,.c 3731,.b 1,.c 467,.l 116,.b 0,.c 15],⟨69,[vL 1 2 l Qaa.enc,vI 2 n,vP 3 0 6,vO 8 1 1 l1 Qbc,vI 9 i,vB 10 on_,vB 11 there,vI 12 k],[oX 6 30 (Qac.enc x0),oS 1 90 l1 Qbc]⟩⟩
def Qlv (Γ:Gam) (rv:List Int×Int) (x0:Qac) (l:List Qaa) (n:Int) (l1:List (List Int)) (i:Int) (on_1:Bool) (there1:Bool):Prop:=Qh5 Γ rv ⟨[.c 3731,.b 1,.c 467,.l 116,.b 0,.c 15],⟨69,[vL 1 2 l Qaa.enc,vI 2 n,vP 3 0 6,vO 8 1 1 l1 Qbc,vI 9 i,vB 10 on_1,vB 11 there1],[oX 6 30 (Qac.enc x0),oS 1 90 l1 Qbc]⟩⟩
def Qmr (Γ:Gam) (rv:List Int×Int) (x0:Qac) (l:List Qaa) (n:Int) (l1:List (List Int)) (i:Int):Prop:=Qh5 Γ rv ⟨[.c 116,.l 116,.b 0,.c 15],⟨69,[vL 1 2 l Qaa.enc,vI 2 n,vP 3 0 6,vO 8 1 1 l1 Qbc,vI 9 i],[oX 6 30 (Qac.enc x0),oS 1 90 l1 Qbc]⟩⟩
def Qlu (Γ:Gam) (rv:List Int×Int) (x0:Qac) (l:List Qaa) (n:Int) (l2:List (List Int)):Prop:=Qh5 Γ rv ⟨[.c 15],⟨69,[vP 3 0 6,vO 8 1 1 l2 Qbc],[oX 6 30 (Qac.enc x0),oS 1 90 l2 Qbc]⟩⟩
theorem Qq0 (Γ:Gam) (rv:List Int×Int) {x0 l n l1 i} {s:Bool×Bool×Int} {e:Bool×Bool} (h:loopF (fun s=>Qcf x0 l n l1 i s.1 s.2.1 s.2.2) s=some e) (hD:Qlv Γ rv x0 l n l1 i e.1 e.2):Qms Γ rv x0 l n l1 i s.1 s.2.1 s.2.2:=by
 refine QaD (C:=fun (s:Bool×Bool×Int)=>Qms Γ rv x0 l n l1 i s.1 s.2.1 s.2.2) (D:=fun (e:Bool×Bool)=>Qlv Γ rv x0 l n l1 i e.1 e.2) ?_ h hD
 clear h hD s e
 rintro ⟨on_,there,k⟩ z_ h hI hE
 replace h:Qcf x0 l n l1 i on_ there k=_:=h
 unfold Qcf at h
 rcases Qaj h with ⟨h2,h⟩|⟨h2,h⟩
 ·obtain ⟨x2,h3,h⟩:=Qae h
  rcases Qaj h with ⟨h4,h⟩|⟨h4,h⟩
  ·exact gn 14 [1,2,3,8,9,10,11,12] [0,1] [nL Qaa.enc l,bT h2,cE Qaa.enc h3,bT h4] (hI _ (oJ h))
  ·rcases Qaj h with ⟨h5,h⟩|⟨h5,h⟩
   ·exact gn 21 [1,2,3,8,9,10,11,12] [0,1] [nL Qaa.enc l,bT h2,cE Qaa.enc h3,bF h4,bT h5,cE Qaa.enc h3] (hI _ (oJ h))
   ·exact gn 21 [1,2,3,8,9,10,11,12] [0,1] [nL Qaa.enc l,bT h2,cE Qaa.enc h3,bF h4,bF h5] (hI _ (oJ h))
 ·exact gn 5 [1,2,3,8,9,10,11] [0,1] [nL Qaa.enc l,bF h2] (hE _ (oJ h))
theorem QqZ (Γ:Gam) (rv:List Int×Int) {x0 l n} {s:List (List Int)×Int} {e:List (List Int)} (h:loopF (fun s=>Qce x0 l n s.1 s.2) s=some e) (hD:Qlu Γ rv x0 l n e):Qmr Γ rv x0 l n s.1 s.2:=by
 refine QaD (C:=fun (s:List (List Int)×Int)=>Qmr Γ rv x0 l n s.1 s.2) (D:=fun (e:List (List Int))=>Qlu Γ rv x0 l n e) ?_ h hD
 clear h hD s e
 rintro ⟨l1,i⟩ z_ h hI hE
 replace h:Qce x0 l n l1 i=_:=h
 unfold Qce at h
 rcases Qaj h with ⟨h0,h⟩|⟨h0,h⟩
 ·obtain ⟨x1,h1,h⟩:=Qae h
  obtain ⟨e0,h6,h⟩:=Qae h
  refine gn 14 [1,2,3,8,9,10,11,12] [0,1] [nL Qah.enc x0.orders,bT h0,cE Qah.enc h1] (Qq0 Γ rv h6 ?_)
  obtain ⟨on_1,there1⟩:=e0
  replace h:(br (on_1&&there1) (bnd (getI x0.orders i) fun x3=>chk (okN (l1++[x3.load]).length 24) (some (.inl ((l1++[x3.load]),(addK .i64 i 1))))) (some (.inl (l1,(addK .i64 i 1)))):Option ((List (List Int)×Int)⊕(List (List Int))))=some _:=h
  rcases Qaj h with ⟨h7,h⟩|⟨h7,h⟩
  ·obtain ⟨x3,h8,h⟩:=Qae h
   obtain ⟨h9,h⟩:=Qax h
   exact gn 7 [1,2,3,8,9] [0,3] [hP,hP,oR True (on_1=true),bT h7,cE Qah.enc h8,oO (Eq.refl ([x3.load].map Qbc).length),aO Qbc h9] (hI _ (oJ h))
  ·exact gn 7 [1,2,3,8,9] [0,1] [hP,hP,oR True (on_1=true),bF h7] (hI _ (oJ h))
 ·exact gn 5 [3,8] [0,1] [nL Qah.enc x0.orders,bF h0] (hE _ (oJ h))
theorem Qn0 {x0 l n} {rv:List Int×Int} (h:QhT x0 l n=some rv):AFn Tryz.prog 186 [.agg (Qac.enc x0),.one (lL 2 l Qaa.enc),.one (lI n)] [] (.tup [.one (lL 1 rv.1 e_i64),.one (lI rv.2)]) []:=by
 refine QaM Tryz.func186 (by kernel_rfl) (by kernel_rfl) (fun Γ=>?_)
 unfold QhT at h
 obtain ⟨e1,h10,h⟩:=Qae h
 refine gn 9 [1,2,3,8,9] [0,1] [hW 14,hH (.adopt 8 1 90)] (QqZ Γ rv h10 ?_)
 obtain ⟨l2,rfl⟩:∃ x,x=e1:=⟨_,rfl⟩
 replace h:(bnd (Qhf x0) fun r=>bnd (Qh3 l2 r) fun r1=>some (r1.1,r1.2):Option (List Int×Int))=some _:=h
 obtain ⟨r,h11,h⟩:=Qae h
 obtain ⟨r1,h12,h⟩:=Qae h
 obtain rfl:=Option.some.inj h
 exact gr 2 [] [cC (Qtw h11),hH (.frz 1),rp 2 (eL l2 Qbc),cC (Qud h12)]
def Qo1 (Γ:Gam) (rv:List (List Int)×Int) (cf:Cf):Prop:=Go Tryz.prog Tryz.f143 [] Γ (.tup [.one (lL 1 rv.1 Qbc),.one (lI rv.2)]) [] cf
def Qmq (Γ:Gam) (rv:List (List Int)×Int) (x0:Qac) (r:Qad) (l:List (List Int)) (n:Int):Prop:=Qo1 Γ rv ⟨[.c 244,.l 244,.b 0,.c 31],⟨40,[vP 2 0 6,vP 3 1 4,vO 7 2 1 l Qbc,vI 8 n],[oX 6 30 (Qac.enc x0),oX 4 37 (Qad.enc r),oS 1 90 l Qbc]⟩⟩
def Qlt (Γ:Gam) (rv:List (List Int)×Int) (x0:Qac) (r:Qad) (l1:List (List Int)):Prop:=Qo1 Γ rv ⟨[.c 31],⟨40,[vO 7 0 1 l1 Qbc],[oS 1 90 l1 Qbc]⟩⟩
theorem QqY (Γ:Gam) (rv:List (List Int)×Int) {x0 r} {s:List (List Int)×Int} {e:(List (List Int))⊕(List (List Int)×Int)} (h:loopF (fun s=>Qcd x0 r s.1 s.2) s=some e) (hD:sel e (fun e=>Qlt Γ rv x0 r e) (fun e=>e=rv)):Qmq Γ rv x0 r s.1 s.2:=by
 refine QaD (C:=fun (s:List (List Int)×Int)=>Qmq Γ rv x0 r s.1 s.2) (D:=fun (e:(List (List Int))⊕(List (List Int)×Int))=>sel e (fun e=>Qlt Γ rv x0 r e) (fun e=>e=rv)) ?_ h hD
 clear h hD s e
 rintro ⟨l,n⟩ z_ h hI hE
 replace h:Qcd x0 r l n=_:=h
 unfold Qcd at h
 rcases Qaj h with ⟨h2,h⟩|⟨h2,h⟩
 ·obtain ⟨r2,h3,h⟩:=Qae h
  rcases Qaj h with ⟨h4,h⟩|⟨h4,h⟩
  ·obtain rfl:=(hE _ (oJ h):_=rv)
   exact gr 15 [] [nL Qaa.enc r.visits,bT h2,cC (Qn0 h3),bT h4,hW 5,hH (.nilS 4 0 1)]
  ·obtain ⟨h5,h⟩:=Qax h
   exact gn 18 [2,3,7,8] [0,1,4] [nL Qaa.enc r.visits,bT h2,cC (Qn0 h3),bF h4,oO (Eq.refl ([r2.1].map Qbc).length),aO Qbc h5] (hI _ (oJ h))
 ·exact gn 5 [7] [2] [nL Qaa.enc r.visits,bF h2] (hE _ (oJ h))
theorem QnZ {x0 r} {rv:List (List Int)×Int} (h:QhS x0 r=some rv):AFn Tryz.prog 143 [.agg (Qac.enc x0),.agg (Qad.enc r)] [] (.tup [.one (lL 1 rv.1 Qbc),.one (lI rv.2)]) []:=by
 refine QaM Tryz.func143 (by kernel_rfl) (by kernel_rfl) (fun Γ=>?_)
 unfold QhS at h
 obtain ⟨r1,h0,h⟩:=Qae h
 rcases Qaj h with ⟨h1,h⟩|⟨h1,h⟩
 ·obtain rfl:=Option.some.inj h
  exact gr 10 [] [cC (QhB h0),bT h1,hW 5,hH (.nilS 4 0 1)]
 ·obtain ⟨e0,h6,h⟩:=Qae h
  refine gn 16 [2,3,7,8] [0,1,2] [cC (QhB h0),bF h1,hW 10,hH (.adopt 7 1 90)] (QqY Γ rv h6 ?_)
  rcases e0 with e0|e0
  ·obtain ⟨l1,rfl⟩:∃ x,x=e0:=⟨_,rfl⟩
   replace h:(some (l1,0):Option (List (List Int)×Int))=some _:=h
   obtain rfl:=Option.some.inj h
   exact gr 2 [] [hW 5,hH (.frz 0),rp 3 (eL l1 Qbc)]
  ·obtain ⟨r3,rfl⟩:∃ x,x=e0:=⟨_,rfl⟩
   replace h:(some r3:Option (List (List Int)×Int))=some _:=h
   exact Option.some.inj h
def QpU (Γ:Gam) (rv:Bool) (cf:Cf):Prop:=Go Tryz.prog Tryz.f144 [] Γ (one (.bool rv)) [] cf
def Qm2 (Γ:Gam) (rv:Bool) (a:List Int) (capacity:List Int) (i:Int):Prop:=QpU Γ rv ⟨[.c 116,.l 116,.b 0,.c 15],⟨26,[vL 0 1 a e_i64,vL 1 1 capacity e_i64,vI 5 i],[]⟩⟩
def Ql5 (Γ:Gam) (rv:Bool) (a:List Int) (capacity:List Int):Prop:=QpU Γ rv ⟨[.c 15],⟨26,[],[]⟩⟩
theorem QrI (Γ:Gam) (rv:Bool) {a capacity} {s:Int} {e:(Unit)⊕(Bool)} (h:loopF (fun s=>QcW a capacity s) s=some e) (hD:sel e (fun e=>Ql5 Γ rv a capacity) (fun e=>e=rv)):Qm2 Γ rv a capacity s:=by
 refine QaD (C:=fun (s:Int)=>Qm2 Γ rv a capacity s) (D:=fun (e:(Unit)⊕(Bool))=>sel e (fun e=>Ql5 Γ rv a capacity) (fun e=>e=rv)) ?_ h hD
 clear h hD s e
 intro i z_ h hI hE
 replace h:QcW a capacity i=_:=h
 unfold QcW at h
 rcases Qaj h with ⟨h1,h⟩|⟨h1,h⟩
 ·obtain ⟨x0,h2,h⟩:=Qae h
  obtain ⟨x1,h3,h⟩:=Qae h
  rcases Qaj h with ⟨h4,h⟩|⟨h4,h⟩
  ·obtain rfl:=(hE _ (oJ h):_=rv)
   exact gr 12 [] [nL e_i64 a,bT h1,hH (.draw 9 []),cE e_i64 h2,cE e_i64 h3,bT h4]
  ·exact gn 14 [0,1,5] [] [nL e_i64 a,bT h1,hH (.draw 9 []),cE e_i64 h2,cE e_i64 h3,bF h4] (hI _ (oJ h))
 ·exact gn 5 [] [] [nL e_i64 a,bF h1] (hE _ (oJ h))
theorem QoN {a capacity} {rv:Bool} (h:Qiv a capacity=some rv):AFn Tryz.prog 144 [.one (lL 1 a e_i64),.one (lL 1 capacity e_i64)] [] (one (.bool rv)) []:=by
 refine QaM Tryz.func144 (by kernel_rfl) (by kernel_rfl) (fun Γ=>?_)
 unfold Qiv at h
 rcases Qaj h with ⟨h0,h⟩|⟨h0,h⟩
 ·obtain rfl:=Option.some.inj h
  exact gr 8 [] [nL e_i64 a,nL e_i64 capacity,bT h0]
 ·obtain ⟨e0,h5,h⟩:=Qae h
  refine gn 12 [0,1,5] [] [nL e_i64 a,nL e_i64 capacity,bF h0] (QrI Γ rv h5 ?_)
  rcases e0 with e0|e0
  ·replace h:(some true:Option Bool)=some _:=h
   obtain rfl:=Option.some.inj h
   exact gr 2 [] []
  ·obtain ⟨r,rfl⟩:∃ x,x=e0:=⟨_,rfl⟩
   replace h:(some r:Option Bool)=some _:=h
   exact Option.some.inj h
def QpZ (Γ:Gam) (rv:Int) (cf:Cf):Prop:=Go Tryz.prog Tryz.f98 [] Γ (one (lI rv)) [] cf
def Qnb (Γ:Gam) (rv:Int) (x0:Qac) (r:Qad) (r1:List (List Int)×Int) (i:Int):Prop:=QpZ Γ rv ⟨[.c 500,.l 500,.b 0,.c 63],⟨47,[vP 2 0 6,vP 3 1 4,vL 5 1 r1.1 Qbc,vI 7 i],[oX 6 30 (Qac.enc x0),oX 4 37 (Qad.enc r)]⟩⟩
def Qmp (Γ:Gam) (rv:Int) (x0:Qac) (r:Qad) (r1:List (List Int)×Int):Prop:=QpZ Γ rv ⟨[.c 63],⟨47,[],[]⟩⟩
theorem QrN (Γ:Gam) (rv:Int) {x0 r r1} {s:Int} {e:(Unit)⊕(Int)} (h:loopF (fun s=>Qc0 x0 r r1 s) s=some e) (hD:sel e (fun e=>Qmp Γ rv x0 r r1) (fun e=>e=rv)):Qnb Γ rv x0 r r1 s:=by
 refine QaD (C:=fun (s:Int)=>Qnb Γ rv x0 r r1 s) (D:=fun (e:(Unit)⊕(Int))=>sel e (fun e=>Qmp Γ rv x0 r r1) (fun e=>e=rv)) ?_ h hD
 clear h hD s e
 intro i z_ h hI hE
 replace h:Qc0 x0 r r1 i=_:=h
 unfold Qc0 at h
 rcases Qaj h with ⟨h3,h⟩|⟨h3,h⟩
 ·obtain ⟨x1,h4,h⟩:=Qae h
  obtain ⟨x2,h5,h⟩:=Qae h
  obtain ⟨r2,h6,h⟩:=Qae h
  rcases Qaj h with ⟨h7,h⟩|⟨h7,h⟩
  ·exact gn 14 [2,3,5,7] [0,1] [nL Qbc r1.1,bT h3,hH (.draw 13 []),cE Qbc h4,cE Qai.enc h5,cC (QoN h6),nF h7] (hI _ (oJ h))
  ·obtain rfl:=(hE _ (oJ h):_=rv)
   exact gr 12 [] [nL Qbc r1.1,bT h3,hH (.draw 13 []),cE Qbc h4,cE Qai.enc h5,cC (QoN h6),nT h7]
 ·exact gn 5 [] [] [nL Qbc r1.1,bF h3] (hE _ (oJ h))
theorem Qkq {x0 r} {rv:Int} (h:Qhe x0 r=some rv):AFn Tryz.prog 98 [.agg (Qac.enc x0),.agg (Qad.enc r)] [] (one (lI rv)) []:=by
 refine QaM Tryz.func98 (by kernel_rfl) (by kernel_rfl) (fun Γ=>?_)
 unfold Qhe at h
 rcases Qaj h with ⟨h0,h⟩|⟨h0,h⟩
 ·obtain rfl:=Option.some.inj h
  exact gr 8 [] [rp 5 hP,rp 3 (oI ((ltI r.type_ 0)=false)),nL Qai.enc x0.types,hP,hP,rp 2 (oI ((ltI r.type_ 0)=false)),oR True ((ltI r.type_ 0)=false),bT h0]
 ·obtain ⟨r1,h1,h⟩:=Qae h
  rcases Qaj h with ⟨h2,h⟩|⟨h2,h⟩
  ·obtain rfl:=Option.some.inj h
   exact gr 15 [] [rp 5 hP,rp 3 (oI ((ltI r.type_ 0)=false)),nL Qai.enc x0.types,hP,hP,rp 2 (oI ((ltI r.type_ 0)=false)),oR True ((ltI r.type_ 0)=false),bF h0,cC (QnZ h1),bT h2]
  ·obtain ⟨e0,h8,h⟩:=Qae h
   refine gn 19 [2,3,5,7] [0,1] [rp 5 hP,rp 3 (oI ((ltI r.type_ 0)=false)),nL Qai.enc x0.types,hP,hP,rp 2 (oI ((ltI r.type_ 0)=false)),oR True ((ltI r.type_ 0)=false),bF h0,cC (QnZ h1),bF h2] (QrN Γ rv h8 ?_)
   rcases e0 with e0|e0
   ·replace h:(some 0:Option Int)=some _:=h
    obtain rfl:=Option.some.inj h
    exact gr 2 [] []
   ·obtain ⟨r3,rfl⟩:∃ x,x=e0:=⟨_,rfl⟩
    replace h:(some r3:Option Int)=some _:=h
    exact Option.some.inj h
theorem Qh8 {x0 v} {rv:Qau×Bool} (h:Qek x0 v=some rv):AFn Tryz.prog 187 [.agg (Qac.enc x0),.agg (Qaa.enc v)] [] (.tup [.agg [lI rv.1.place,lI rv.1.open_,lI rv.1.close,lI rv.1.service],.one (.bool rv.2)]) []:=by
 refine QaM Tryz.func187 (by kernel_rfl) (by kernel_rfl) (fun Γ=>?_)
 unfold Qek at h
 rcases Qaj h with ⟨h0,h⟩|⟨h0,h⟩
 ·obtain rfl:=Option.some.inj h
  exact gr 8 [] [rp 5 hP,rp 3 (oI ((ltI v.order 0)=false)),nL Qah.enc x0.orders,hP,hP,rp 2 (oI ((ltI v.order 0)=false)),oR True ((ltI v.order 0)=false),bT h0]
 ·obtain ⟨x1,h1,h⟩:=Qae h
  rcases Qaj h with ⟨h2,h⟩|⟨h2,h⟩
  ·obtain rfl:=Option.some.inj h
   exact gr 16 [] [rp 5 hP,rp 3 (oI ((ltI v.order 0)=false)),nL Qah.enc x0.orders,hP,hP,rp 2 (oI ((ltI v.order 0)=false)),oR True ((ltI v.order 0)=false),bF h0,cE Qah.enc h1,bT h2,cE Qah.enc h1,hH (.draw 6 [(2,4)])]
  ·obtain rfl:=Option.some.inj h
   exact gr 16 [] [rp 5 hP,rp 3 (oI ((ltI v.order 0)=false)),nL Qah.enc x0.orders,hP,hP,rp 2 (oI ((ltI v.order 0)=false)),oR True ((ltI v.order 0)=false),bF h0,cE Qah.enc h1,bF h2,hH (.draw 6 [(2,4)])]
def Qmu (Γ:Gam) (rv:Bool) (cf:Cf):Prop:=Go Tryz.prog Tryz.f145 [] Γ (one (.bool rv)) [] cf
def QjG (Γ:Gam) (rv:Bool) (x0:Qac) (r:Qad) (i:Int):Prop:=Qmu Γ rv ⟨[.c 116,.l 116,.b 0,.c 15],⟨54,[vP 2 0 6,vP 3 1 4,vI 5 i],[oX 6 30 (Qac.enc x0),oX 4 37 (Qad.enc r)]⟩⟩
def Qjh (Γ:Gam) (rv:Bool) (x0:Qac) (r:Qad):Prop:=Qmu Γ rv ⟨[.c 15],⟨54,[],[]⟩⟩
theorem Qo3 (Γ:Gam) (rv:Bool) {x0 r} {s:Int} {e:(Unit)⊕(Bool)} (h:loopF (fun s=>QbU x0 r s) s=some e) (hD:sel e (fun e=>Qjh Γ rv x0 r) (fun e=>e=rv)):QjG Γ rv x0 r s:=by
 refine QaD (C:=fun (s:Int)=>QjG Γ rv x0 r s) (D:=fun (e:(Unit)⊕(Bool))=>sel e (fun e=>Qjh Γ rv x0 r) (fun e=>e=rv)) ?_ h hD
 clear h hD s e
 intro i z_ h hI hE
 replace h:QbU x0 r i=_:=h
 unfold QbU at h
 rcases Qaj h with ⟨h1,h⟩|⟨h1,h⟩
 ·obtain ⟨x1,h2,h⟩:=Qae h
  obtain ⟨r1,h3,h⟩:=Qae h
  rcases Qaj h with ⟨h4,h⟩|⟨h4,h⟩
  ·exact gn 16 [2,3,5] [0,1] [nL Qaa.enc r.visits,bT h1,hH (.draw 13 [(2,11)]),cE Qaa.enc h2,cC (Qh8 h3),nF h4] (hI _ (oJ h))
  ·obtain rfl:=(hE _ (oJ h):_=rv)
   exact gr 14 [] [nL Qaa.enc r.visits,bT h1,hH (.draw 13 [(2,11)]),cE Qaa.enc h2,cC (Qh8 h3),nT h4]
 ·exact gn 5 [] [] [nL Qaa.enc r.visits,bF h1] (hE _ (oJ h))
theorem QfW {x0 r} {rv:Bool} (h:Qdc x0 r=some rv):AFn Tryz.prog 145 [.agg (Qac.enc x0),.agg (Qad.enc r)] [] (one (.bool rv)) []:=by
 refine QaM Tryz.func145 (by kernel_rfl) (by kernel_rfl) (fun Γ=>?_)
 unfold Qdc at h
 rcases Qaj h with ⟨h0,h⟩|⟨h0,h⟩
 ·obtain rfl:=Option.some.inj h
  exact gr 8 [] [rp 5 hP,rp 3 (oI ((ltI r.type_ 0)=false)),nL Qai.enc x0.types,rp 13 hP,rp 2 (oI ((ltI r.type_ 0)=false)),oR True ((ltI r.type_ 0)=false),rp 2 (oI (((ltI r.type_ 0)||(geI r.type_ (lenI x0.types)))=false)),oR True (((ltI r.type_ 0)||(geI r.type_ (lenI x0.types)))=false),rp 2 (oI ((((ltI r.type_ 0)||(geI r.type_ (lenI x0.types)))||(ltI r.start 0))=false)),oR True ((((ltI r.type_ 0)||(geI r.type_ (lenI x0.types)))||(ltI r.start 0))=false),rp 2 (oI (((((ltI r.type_ 0)||(geI r.type_ (lenI x0.types)))||(ltI r.start 0))||(gtI r.start 4096))=false)),nL Qaa.enc r.visits,hP,hP,oI (((((ltI r.type_ 0)||(geI r.type_ (lenI x0.types)))||(ltI r.start 0))||(gtI r.start 4096))=false),oR True (((((ltI r.type_ 0)||(geI r.type_ (lenI x0.types)))||(ltI r.start 0))||(gtI r.start 4096))=false),bT h0]
 ·obtain ⟨e0,h5,h⟩:=Qae h
  refine gn 12 [2,3,5] [0,1] [rp 5 hP,rp 3 (oI ((ltI r.type_ 0)=false)),nL Qai.enc x0.types,rp 13 hP,rp 2 (oI ((ltI r.type_ 0)=false)),oR True ((ltI r.type_ 0)=false),rp 2 (oI (((ltI r.type_ 0)||(geI r.type_ (lenI x0.types)))=false)),oR True (((ltI r.type_ 0)||(geI r.type_ (lenI x0.types)))=false),rp 2 (oI ((((ltI r.type_ 0)||(geI r.type_ (lenI x0.types)))||(ltI r.start 0))=false)),oR True ((((ltI r.type_ 0)||(geI r.type_ (lenI x0.types)))||(ltI r.start 0))=false),rp 2 (oI (((((ltI r.type_ 0)||(geI r.type_ (lenI x0.types)))||(ltI r.start 0))||(gtI r.start 4096))=false)),nL Qaa.enc r.visits,hP,hP,oI (((((ltI r.type_ 0)||(geI r.type_ (lenI x0.types)))||(ltI r.start 0))||(gtI r.start 4096))=false),oR True (((((ltI r.type_ 0)||(geI r.type_ (lenI x0.types)))||(ltI r.start 0))||(gtI r.start 4096))=false),bF h0] (Qo3 Γ rv h5 ?_)
  rcases e0 with e0|e0
  ·replace h:(some true:Option Bool)=some _:=h
   obtain rfl:=Option.some.inj h
   exact gr 2 [] []
  ·obtain ⟨r2,rfl⟩:∃ x,x=e0:=⟨_,rfl⟩
   replace h:(some r2:Option Bool)=some _:=h
   exact Option.some.inj h
theorem Qo5 {t s0 yes} {rv:QaA} (h:Qhg t s0 yes=some rv):AFn Tryz.prog 203 [.agg (Qai.enc t),.agg (QaA.enc s0),.one (.bool yes)] [] (gG [lI rv.place,lI rv.time,lI rv.driven,lI rv.miles]) []:=by
 refine QaM Tryz.func203 (by kernel_rfl) (by kernel_rfl) (fun Γ=>?_)
 unfold Qhg at h
 rcases Qaj h with ⟨h0,h⟩|⟨h0,h⟩
 ·obtain rfl:=Option.some.inj h
  exact gr 11 [] [bT h0]
 ·obtain rfl:=Option.some.inj h
  exact gr 9 [] [bF h0]
theorem Qcx {n p} {rv:Bool} (h:Qgk n p=some rv):AFn Tryz.prog 215 [.agg (Qam.enc n),.one (lI p)] [] (one (.bool rv)) []:=by
 refine QaM Tryz.func215 (by kernel_rfl) (by kernel_rfl) (fun Γ=>?_)
 unfold Qgk at h
 obtain rfl:=Option.some.inj h
 exact gr 4 [] [rp 4 hP,rp 2 (oI ((geI p 0)=true)),nL e_str n.places,hP,hP,rp 2 (oI ((geI p 0)=true)),oR True ((geI p 0)=true)]
def QpW (Γ:Gam) (rv:Qas×Bool) (cf:Cf):Prop:=Go Tryz.prog Tryz.f216 [] Γ (.tup [.agg [lI rv.1.from_,lI rv.1.to_,lI rv.1.profile,lI rv.1.miles,lL 2 rv.1.travel Qao.enc,lL 2 rv.1.slow Qao.enc],.one (.bool rv.2)]) [] cf
def Qm6 (Γ:Gam) (rv:Qas×Bool) (n:Qam) (profile:Int) (from_:Int) (to_:Int) (i:Int):Prop:=QpW Γ rv ⟨[.c 52,.l 52,.b 0,.c 7],⟨42,[vI 1 profile,vI 2 from_,vI 3 to_,vP 4 0 2,vP 8 1 6,vI 10 i],[oX 2 25 (Qam.enc n),oX 6 120 [lI 0,lI 0,lI 0,lI 0,.nils,.nils]]⟩⟩
def Ql9 (Γ:Gam) (rv:Qas×Bool) (n:Qam) (profile:Int) (from_:Int) (to_:Int):Prop:=QpW Γ rv ⟨[.c 7],⟨42,[vP 8 0 6],[oX 6 120 [lI 0,lI 0,lI 0,lI 0,.nils,.nils]]⟩⟩
theorem QrK (Γ:Gam) (rv:Qas×Bool) {n profile from_ to_} {s:Int} {e:(Unit)⊕(Qas×Bool)} (h:loopF (fun s=>Qfd n profile from_ to_ s) s=some e) (hD:sel e (fun e=>Ql9 Γ rv n profile from_ to_) (fun e=>e=rv)):Qm6 Γ rv n profile from_ to_ s:=by
 refine QaD (C:=fun (s:Int)=>Qm6 Γ rv n profile from_ to_ s) (D:=fun (e:(Unit)⊕(Qas×Bool))=>sel e (fun e=>Ql9 Γ rv n profile from_ to_) (fun e=>e=rv)) ?_ h hD
 clear h hD s e
 intro i z_ h hI hE
 replace h:Qfd n profile from_ to_ i=_:=h
 unfold Qfd at h
 rcases Qaj h with ⟨h0,h⟩|⟨h0,h⟩
 ·obtain ⟨x0,h1,h⟩:=Qae h
  rcases Qaj h with ⟨h2,h⟩|⟨h2,h⟩
  ·obtain rfl:=(hE _ (oJ h):_=rv)
   exact gr 14 [] [nL Qas.enc n.arcs,bT h0,cE Qas.enc h1,rp 10 hP,rp 3 (oI ((eqI x0.from_ from_)=true)),oR True ((eqI x0.from_ from_)=true),rp 3 (oI (((eqI x0.from_ from_)&&(eqI x0.to_ to_))=true)),oR True (((eqI x0.from_ from_)&&(eqI x0.to_ to_))=true),bT h2]
  ·exact gn 16 [1,2,3,4,8,10] [0,1] [nL Qas.enc n.arcs,bT h0,cE Qas.enc h1,rp 10 hP,rp 3 (oI ((eqI x0.from_ from_)=true)),oR True ((eqI x0.from_ from_)=true),rp 3 (oI (((eqI x0.from_ from_)&&(eqI x0.to_ to_))=true)),oR True (((eqI x0.from_ from_)&&(eqI x0.to_ to_))=true),bF h2] (hI _ (oJ h))
 ·exact gn 5 [8] [1] [nL Qas.enc n.arcs,bF h0] (hE _ (oJ h))
theorem QoQ {n profile from_ to_} {rv:Qas×Bool} (h:Qix n profile from_ to_=some rv):AFn Tryz.prog 216 [.agg (Qam.enc n),.one (lI profile),.one (lI from_),.one (lI to_)] [] (.tup [.agg [lI rv.1.from_,lI rv.1.to_,lI rv.1.profile,lI rv.1.miles,lL 2 rv.1.travel Qao.enc,lL 2 rv.1.slow Qao.enc],.one (.bool rv.2)]) []:=by
 refine QaM Tryz.func216 (by kernel_rfl) (by kernel_rfl) (fun Γ=>?_)
 unfold Qix at h
 obtain ⟨e0,h3,h⟩:=Qae h
 refine gn 7 [1,2,3,4,8,10] [0,1] [] (QrK Γ rv h3 ?_)
 rcases e0 with e0|e0
 ·replace h:(some ((Qas.mk 0 0 0 0 [] []),false):Option (Qas×Bool))=some _:=h
  obtain rfl:=Option.some.inj h
  exact gr 2 [] [hW 5,hH (.nilB 0 4 2),hH (.nilB 0 5 2)]
 ·obtain ⟨r,rfl⟩:∃ x,x=e0:=⟨_,rfl⟩
  replace h:(some r:Option (Qas×Bool))=some _:=h
  exact Option.some.inj h
def QnT (Γ:Gam) (rv:Int) (cf:Cf):Prop:=Go Tryz.prog Tryz.f219 [] Γ (one (lI rv)) [] cf
def QkK (Γ:Gam) (rv:Int) (l:List Qao) (t:Int) (i:Int):Prop:=QnT Γ rv ⟨[.c 116,.l 116,.b 0,.c 15],⟨93,[vL 0 2 l Qao.enc,vI 1 t,vI 5 i],[]⟩⟩
def QjZ (Γ:Gam) (rv:Int) (l:List Qao) (t:Int):Prop:=QnT Γ rv ⟨[.c 15],⟨93,[vL 0 2 l Qao.enc,vI 1 t],[]⟩⟩
theorem Qqe (Γ:Gam) (rv:Int) {l t} {s:Int} {e:(Unit)⊕(Int)} (h:loopF (fun s=>Qd5 l t s) s=some e) (hD:sel e (fun e=>QjZ Γ rv l t) (fun e=>e=rv)):QkK Γ rv l t s:=by
 refine QaD (C:=fun (s:Int)=>QkK Γ rv l t s) (D:=fun (e:(Unit)⊕(Int))=>sel e (fun e=>QjZ Γ rv l t) (fun e=>e=rv)) ?_ h hD
 clear h hD s e
 intro i z_ h hI hE
 replace h:Qd5 l t i=_:=h
 unfold Qd5 at h
 rcases Qaj h with ⟨h2,h⟩|⟨h2,h⟩
 ·obtain ⟨x0,h3,h⟩:=Qae h
  obtain ⟨x1,h4,h⟩:=Qae h
  rcases Qaj h with ⟨h5,h⟩|⟨h5,h⟩
  ·obtain ⟨h6,h⟩:=Qax h
   obtain rfl:=(hE _ (oJ h):_=rv)
   exact gr 16 [] [nL Qao.enc l,bT h2,cE Qao.enc h3,cE Qao.enc h4,rp 5 hP,rp 3 (oI ((leI x0.t t)=true)),oR True ((leI x0.t t)=true),bT h5,hH (.draw 27 []),oO (h6)]
  ·exact gn 18 [0,1,5] [] [nL Qao.enc l,bT h2,cE Qao.enc h3,cE Qao.enc h4,rp 5 hP,rp 3 (oI ((leI x0.t t)=true)),oR True ((leI x0.t t)=true),bF h5] (hI _ (oJ h))
 ·exact gn 5 [0,1] [] [nL Qao.enc l,bF h2] (hE _ (oJ h))
theorem Qsk {l t} {rv:Int} (h:Qg4 l t=some rv):AFn Tryz.prog 219 [.one (lL 2 l Qao.enc),.one (lI t)] [] (one (lI rv)) []:=by
 refine QaM Tryz.func219 (by kernel_rfl) (by kernel_rfl) (fun Γ=>?_)
 unfold Qg4 at h
 obtain ⟨r,h0,h⟩:=Qae h
 rcases Qaj h with ⟨h1,h⟩|⟨h1,h⟩
 ·obtain rfl:=Option.some.inj h
  exact gr 8 [] [cC (Qjw h0),nL Qab.enc r,rp 6 hP,oI ((gtI (lenI r) 0)=false),oR True ((gtI (lenI r) 0)=false),oI (((gtI (lenI r) 0)||(ltI t 0))=false),oR True (((gtI (lenI r) 0)||(ltI t 0))=false),bT h1]
 ·obtain ⟨e0,h7,h⟩:=Qae h
  refine gn 12 [0,1,5] [] [cC (Qjw h0),nL Qab.enc r,rp 6 hP,oI ((gtI (lenI r) 0)=false),oR True ((gtI (lenI r) 0)=false),oI (((gtI (lenI r) 0)||(ltI t 0))=false),oR True (((gtI (lenI r) 0)||(ltI t 0))=false),bF h1] (Qqe Γ rv h7 ?_)
  rcases e0 with e0|e0
  ·replace h:(bnd (getI l 0) fun x2=>br (gtI t x2.t) (bnd (getI l (subK .i64 (lenI l) 1)) fun x3=>some (subK .i64 (addK .i64 t x3.a) x3.t)) (some (subK .i64 (addK .i64 t x2.a) x2.t)):Option Int)=some _:=h
   obtain ⟨x2,h8,h⟩:=Qae h
   rcases Qaj h with ⟨h9,h⟩|⟨h9,h⟩
   ·obtain ⟨x3,h10,h⟩:=Qae h
    obtain rfl:=Option.some.inj h
    exact gr 9 [] [cE Qao.enc h8,bT h9,nL Qao.enc l,cE Qao.enc h10]
   ·obtain rfl:=Option.some.inj h
    exact gr 9 [] [cE Qao.enc h8,bF h9]
  ·obtain ⟨r1,rfl⟩:∃ x,x=e0:=⟨_,rfl⟩
   replace h:(some r1:Option Int)=some _:=h
   exact Option.some.inj h
def QnU (Γ:Gam) (rv:Int) (cf:Cf):Prop:=Go Tryz.prog Tryz.f217 [] Γ (one (lI rv)) [] cf
def QkN (Γ:Gam) (rv:Int) (a:Qas) (t:Int) (n:Int) (i:Int):Prop:=QnU Γ rv ⟨[.c 116,.l 116,.b 0,.c 15],⟨35,[vI 1 t,vP 2 0 6,vI 5 n,vI 6 i],[oX 6 120 (Qas.enc a)]⟩⟩
def Qj0 (Γ:Gam) (rv:Int) (a:Qas) (t:Int) (n1:Int):Prop:=QnU Γ rv ⟨[.c 15],⟨35,[vI 5 n1],[]⟩⟩
theorem Qqf (Γ:Gam) (rv:Int) {a t} {s:Int×Int} {e:Int} (h:loopF (fun s=>QgN a t s.1 s.2) s=some e) (hD:Qj0 Γ rv a t e):QkN Γ rv a t s.1 s.2:=by
 refine QaD (C:=fun (s:Int×Int)=>QkN Γ rv a t s.1 s.2) (D:=fun (e:Int)=>Qj0 Γ rv a t e) ?_ h hD
 clear h hD s e
 rintro ⟨n,i⟩ z_ h hI hE
 replace h:QgN a t n i=_:=h
 unfold QgN at h
 rcases Qaj h with ⟨h1,h⟩|⟨h1,h⟩
 ·obtain ⟨x0,h2,h⟩:=Qae h
  rcases Qaj h with ⟨h3,h⟩|⟨h3,h⟩
  ·exact gn 14 [1,2,5,6] [0] [nL Qao.enc a.slow,bT h1,cE Qao.enc h2,bT h3,cE Qao.enc h2] (hI _ (oJ h))
  ·exact gn 14 [1,2,5,6] [0] [nL Qao.enc a.slow,bT h1,cE Qao.enc h2,bF h3] (hI _ (oJ h))
 ·exact gn 5 [5] [] [nL Qao.enc a.slow,bF h1] (hE _ (oJ h))
theorem Qsl {a t} {rv:Int} (h:Qg5 a t=some rv):AFn Tryz.prog 217 [.agg (Qas.enc a),.one (lI t)] [] (one (lI rv)) []:=by
 refine QaM Tryz.func217 (by kernel_rfl) (by kernel_rfl) (fun Γ=>?_)
 unfold Qg5 at h
 obtain ⟨r,h0,h⟩:=Qae h
 obtain ⟨e0,h4,h⟩:=Qae h
 refine gn 9 [1,2,5,6] [0] [cC (Qsk h0)] (Qqf Γ rv h4 ?_)
 obtain ⟨n1,rfl⟩:∃ x,x=e0:=⟨_,rfl⟩
 replace h:(some n1:Option Int)=some _:=h
 obtain rfl:=Option.some.inj h
 exact gr 2 [] []
theorem QuV {n profile from_ to_ t} {rv:Int×Int×Int} (h:Qi7 n profile from_ to_ t=some rv):AFn Tryz.prog 213 [.agg (Qam.enc n),.one (lI profile),.one (lI from_),.one (lI to_),.one (lI t)] [] (.tup [.one (lI rv.1),.one (lI rv.2.1),.one (lI rv.2.2)]) []:=by
 refine QaM Tryz.func213 (by kernel_rfl) (by kernel_rfl) (fun Γ=>?_)
 unfold Qi7 at h
 obtain ⟨r,h0,h⟩:=Qae h
 rcases Qaj h with ⟨h1,h⟩|⟨h1,h⟩
 ·obtain ⟨r1,h2,h⟩:=Qae h
  rcases Qaj h with ⟨h3,h⟩|⟨h3,h⟩
  ·rcases Qaj h with ⟨h4,h⟩|⟨h4,h⟩
   ·obtain rfl:=Option.some.inj h
    exact gr 13 [] [cC (Qcx h0),rp 3 (nF h1),cC (Qcx h2),nF h1,nF h1,nF h3,bT h4]
   ·obtain ⟨r2,h5,h⟩:=Qae h
    rcases Qaj h with ⟨h6,h⟩|⟨h6,h⟩
    ·obtain ⟨r3,h7,h⟩:=Qae h
     obtain rfl:=Option.some.inj h
     exact gr 21 [] [cC (Qcx h0),rp 3 (nF h1),cC (Qcx h2),nF h1,nF h1,nF h3,bF h4,cC (QoQ h5),nF h6,hH (.draw 8 []),cC (Qsl h7)]
    ·obtain rfl:=Option.some.inj h
     exact gr 20 [] [cC (Qcx h0),rp 3 (nF h1),cC (Qcx h2),nF h1,nF h1,nF h3,bF h4,cC (QoQ h5),nT h6]
  ·obtain rfl:=Option.some.inj h
   exact gr 8 [] [cC (Qcx h0),rp 3 (nF h1),cC (Qcx h2),nF h1,nF h1,nT h3]
 ·obtain rfl:=Option.some.inj h
  exact gr 8 [] [cC (Qcx h0),rp 5 (nT h1),tT]
theorem QiQ {x0 profile from_ to_ t} {rv:Int×Int×Bool} (h:QmE x0 profile from_ to_ t=some rv):AFn Tryz.prog 209 [.agg (Qac.enc x0),.one (lI profile),.one (lI from_),.one (lI to_),.one (lI t)] [] (.tup [.one (lI rv.1),.one (lI rv.2.1),.one (.bool rv.2.2)]) []:=by
 refine QaM Tryz.func209 (by kernel_rfl) (by kernel_rfl) (fun Γ=>?_)
 unfold QmE at h
 obtain ⟨r,h0,h⟩:=Qae h
 obtain rfl:=Option.some.inj h
 exact gr 6 [] [cC (QuV h0)]
theorem Qh7 {x0 t s0 to_ close late} {rv:QaA×Int} (h:Qdy x0 t s0 to_ close late=some rv):AFn Tryz.prog 204 [.agg (Qac.enc x0),.agg (Qai.enc t),.agg (QaA.enc s0),.one (lI to_),.one (lI close),.one (lI late)] [] (.tup [.agg [lI rv.1.place,lI rv.1.time,lI rv.1.driven,lI rv.1.miles],.one (lI rv.2)]) []:=by
 refine QaM Tryz.func204 (by kernel_rfl) (by kernel_rfl) (fun Γ=>?_)
 unfold Qdy at h
 obtain ⟨r,h0,h⟩:=Qae h
 rcases Qaj h with ⟨h1,h⟩|⟨h1,h⟩
 ·rcases Qaj h with ⟨h2,h⟩|⟨h2,h⟩
  ·obtain rfl:=Option.some.inj h
   exact gr 15 [] [cC (QiQ h0),nF h1,bT h2]
  ·rcases Qaj h with ⟨h3,h⟩|⟨h3,h⟩
   ·obtain rfl:=Option.some.inj h
    exact gr 22 [] [cC (QiQ h0),nF h1,bF h2,bT h3]
   ·obtain rfl:=Option.some.inj h
    exact gr 23 [] [cC (QiQ h0),nF h1,bF h2,bF h3]
 ·obtain rfl:=Option.some.inj h
  exact gr 10 [] [cC (QiQ h0),nT h1]
def Qq1 (Γ:Gam) (rv:Qap×List Int×Int) (cf:Cf):Prop:=Go Tryz.prog Tryz.f188 [] Γ (.tup [.agg [.bool rv.1.rest_,lI rv.1.depart,lL 4 rv.1.times Qar.enc,lI rv.1.end_,lI rv.1.miles],.one (lL 1 rv.2.1 e_i64),.one (lI rv.2.2)]) [] cf
def Qn1 (Γ:Gam) (rv:Qap×List Int×Int) (x0:Qac) (r:Qad) (rests:List Bool) (x1:Qai) (x2:Bool) (l:List Int) (l1:List Qar) (x3:QaA) (depart:Int) (i:Int):Prop:=Qq1 Γ rv ⟨[.c 2036,.l 2036,.b 0,.c 255],⟨161,[vL 2 1 rests QaQ,vP 3 0 6,vP 4 1 4,vP 6 2 5,vP 9 3 14,vP 10 4 4,vP 11 5 5,vO 12 6 1 l e_i64,vI 13 i],[oX 6 30 (Qac.enc x0),oX 4 37 (Qad.enc r),oX 5 74 [.bool false,lI 0,.nils,lI 0,lI 0],oX 14 94 (Qai.enc x1),oX 4 237 (QaA.enc x3),oX 5 74 [.bool x2,lI depart,lO 7 4 l1 Qar.enc,lI 0,lI 0],oS 1 3 l e_i64,oS 4 227 l1 Qar.enc]⟩⟩
def Qnd (Γ:Gam) (rv:Qap×List Int×Int) (x0:Qac) (r:Qad) (rests:List Bool) (x1:Qai) (x2:Bool) (l2:List Int) (l3:List Qar) (x6:QaA) (depart1:Int):Prop:=Qq1 Γ rv ⟨[.c 255],⟨161,[vP 3 0 6,vP 6 1 5,vP 9 2 14,vP 10 3 4,vP 11 4 5,vO 12 5 1 l2 e_i64],[oX 6 30 (Qac.enc x0),oX 5 74 [.bool false,lI 0,.nils,lI 0,lI 0],oX 14 94 (Qai.enc x1),oX 4 237 (QaA.enc x6),oX 5 74 [.bool x2,lI depart1,lO 6 4 l3 Qar.enc,lI 0,lI 0],oS 1 3 l2 e_i64,oS 4 227 l3 Qar.enc]⟩⟩
theorem Qsn (Γ:Gam) (rv:Qap×List Int×Int) {x0 r rests x1 x2} {s:List Int×List Qar×QaA×Int×Int} {e:(List Int×List Qar×QaA×Int)⊕(Qap×List Int×Int)} (h:loopF (fun s=>QfG x0 r rests x1 x2 s.1 s.2.1 s.2.2.1 s.2.2.2.1 s.2.2.2.2) s=some e) (hD:sel e (fun e=>Qnd Γ rv x0 r rests x1 x2 e.1 e.2.1 e.2.2.1 e.2.2.2) (fun e=>e=rv)):Qn1 Γ rv x0 r rests x1 x2 s.1 s.2.1 s.2.2.1 s.2.2.2.1 s.2.2.2.2:=by
 refine QaD (C:=fun (s:List Int×List Qar×QaA×Int×Int)=>Qn1 Γ rv x0 r rests x1 x2 s.1 s.2.1 s.2.2.1 s.2.2.2.1 s.2.2.2.2) (D:=fun (e:(List Int×List Qar×QaA×Int)⊕(Qap×List Int×Int))=>sel e (fun e=>Qnd Γ rv x0 r rests x1 x2 e.1 e.2.1 e.2.2.1 e.2.2.2) (fun e=>e=rv)) ?_ h hD
 clear h hD s e
 rintro ⟨l,l1,x3,depart,i⟩ z_ h hI hE
 replace h:QfG x0 r rests x1 x2 l l1 x3 depart i=_:=h
 unfold QfG at h
 rcases Qaj h with ⟨h5,h⟩|⟨h5,h⟩
 ·obtain ⟨x4,h6,h⟩:=Qae h
  obtain ⟨r3,h7,h⟩:=Qae h
  obtain ⟨r4,h8,h⟩:=Qae h
  rcases Qaj h with ⟨h9,h⟩|⟨h9,h⟩
  ·obtain rfl:=(hE _ (oJ h):_=rv)
   exact gr 17 [] [nL Qaa.enc r.visits,bT h5,hH (.draw 13 [(8,11)]),cE Qaa.enc h6,cC (Qh8 h7),cC (Qh7 h8),bT h9,hW 7,hH (.nilB 2 2 4),hH (.nilS 7 0 1)]
  ·obtain ⟨h10,h⟩:=Qax h
   obtain ⟨x5,h11,h⟩:=Qae h
   obtain ⟨r5,h12,h⟩:=Qae h
   obtain ⟨h13,h⟩:=Qax h
   exact gn 30 [2,3,4,6,9,10,11,12,13] [0,1,2,3,4,5,11,14] [nL Qaa.enc r.visits,bT h5,hH (.draw 13 [(8,11)]),cE Qaa.enc h6,cC (Qh8 h7),cC (Qh7 h8),bF h9,oO (Eq.refl ([r4.1.driven].map e_i64).length),aO e_i64 h10,hH (.draw 14 []),cE QaQ h11,hH (.draw 8 []),cE QaQ h11,cC (Qo5 h12),oO (Eq.refl ([(Qar.mk r4.1.time (maxI r4.1.time r3.1.open_) r5.time x5)].map Qar.enc).length),aO Qar.enc h13] (hI _ (oJ h))
 ·exact gn 5 [3,6,9,10,11,12] [0,2,3,4,5,6,7] [nL Qaa.enc r.visits,bF h5] (hE _ (oJ h))
theorem Que {x0 r rests} {rv:Qap×List Int×Int} (h:Qh6 x0 r rests=some rv):AFn Tryz.prog 188 [.agg (Qac.enc x0),.agg (Qad.enc r),.one (lL 1 rests QaQ)] [] (.tup [.agg [.bool rv.1.rest_,lI rv.1.depart,lL 4 rv.1.times Qar.enc,lI rv.1.end_,lI rv.1.miles],.one (lL 1 rv.2.1 e_i64),.one (lI rv.2.2)]) []:=by
 refine QaM Tryz.func188 (by kernel_rfl) (by kernel_rfl) (fun Γ=>?_)
 unfold Qh6 at h
 obtain ⟨r1,h0,h⟩:=Qae h
 rcases Qaj h with ⟨h1,h⟩|⟨h1,h⟩
 ·obtain rfl:=Option.some.inj h
  exact gr 8 [] [cC (QfW h0),hP,hP,oI ((!r1)=false),nL QaQ rests,hP,hP,hP,rp 2 (oI ((!r1)=false)),nL Qaa.enc r.visits,hP,hP,hP,rp 3 (oI ((!r1)=false)),oR True ((!r1)=false),bT h1,hW 6,hH (.nilB 2 2 4),hH (.nilS 7 0 1)]
 ·obtain ⟨x1,h2,h⟩:=Qae h
  obtain ⟨x2,h3,h⟩:=Qae h
  obtain ⟨r2,h4,h⟩:=Qae h
  obtain ⟨e0,h14,h⟩:=Qae h
  refine gn 20 [2,3,4,6,9,10,11,12,13] [0,1,2,3,4,5,6,7] [cC (QfW h0),hP,hP,oI ((!r1)=false),nL QaQ rests,hP,hP,hP,rp 2 (oI ((!r1)=false)),nL Qaa.enc r.visits,hP,hP,hP,rp 3 (oI ((!r1)=false)),oR True ((!r1)=false),bF h1,cE Qai.enc h2,hH (.draw 14 []),cE QaQ h3,cC (Qo5 h4),hH (.draw 7 []),cE QaQ h3,hW 10,hH (.adopt 12 1 3),hH (.adoptB 5 2 4 227)] (Qsn Γ rv h14 ?_)
  rcases e0 with e0|e0
  ·obtain ⟨l2,l3,x6,depart1⟩:=e0
   replace h:(bnd (Qdy x0 x1 x6 x1.to_ x1.close 15) fun r6=>br (neI r6.2 0) (some ((Qap.mk false 0 [] 0 0),[],r6.2)) (chk (okN (l2++[r6.1.driven]).length 8) (some ((Qap.mk x2 depart1 l3 r6.1.time r6.1.miles),(l2++[r6.1.driven]),0))):Option (Qap×List Int×Int))=some _:=h
   obtain ⟨r6,h15,h⟩:=Qae h
   rcases Qaj h with ⟨h16,h⟩|⟨h16,h⟩
   ·obtain rfl:=Option.some.inj h
    exact gr 8 [] [cC (Qh7 h15),bT h16,hW 7,hH (.nilB 1 2 4),hH (.nilS 7 0 1)]
   ·obtain ⟨h17,h⟩:=Qax h
    obtain rfl:=Option.some.inj h
    exact gr 15 [] [cC (Qh7 h15),bF h16,oO (Eq.refl ([r6.1.driven].map e_i64).length),aO e_i64 h17,hW 20,hH (.frz 6),hH (.frz 9),rp 3 (eL l3 Qar.enc),rp 4 (oO (Eq.refl ((l2++[r6.1.driven]).map e_i64).length))]
  ·obtain ⟨r7,rfl⟩:∃ x,x=e0:=⟨_,rfl⟩
   replace h:(some r7:Option (Qap×List Int×Int))=some _:=h
   exact Option.some.inj h
theorem QlP {x0 r rests} {rv:Qap×Int} (h:Qe0 x0 r rests=some rv):AFn Tryz.prog 146 [.agg (Qac.enc x0),.agg (Qad.enc r),.one (lL 1 rests QaQ)] [] (.tup [.agg [.bool rv.1.rest_,lI rv.1.depart,lL 4 rv.1.times Qar.enc,lI rv.1.end_,lI rv.1.miles],.one (lI rv.2)]) []:=by
 refine QaM Tryz.func146 (by kernel_rfl) (by kernel_rfl) (fun Γ=>?_)
 unfold Qe0 at h
 obtain ⟨r1,h0,h⟩:=Qae h
 obtain rfl:=Option.some.inj h
 exact gr 6 [] [cC (Que h0)]
def Qp0 (Γ:Gam) (rv:List Bool×Bool) (cf:Cf):Prop:=Go Tryz.prog Tryz.f147 [] Γ (.tup [.one (lL 1 rv.1 QaQ),.one (.bool rv.2)]) [] cf
def Qnc (Γ:Gam) (rv:List Bool×Bool) (n:Int) (l:List Bool) (i:Int):Prop:=Qp0 Γ rv ⟨[.c 244,.l 244,.b 0,.c 31],⟨31,[vI 1 n,vO 6 0 1 l QaQ,vI 7 i],[oS 1 4 l QaQ]⟩⟩
def Qmv (Γ:Gam) (rv:List Bool×Bool) (n:Int):Prop:=Qp0 Γ rv ⟨[.c 31],⟨31,[],[]⟩⟩
theorem QrP (Γ:Gam) (rv:List Bool×Bool) {n} {s:List Bool×Int} {e:(Unit)⊕(List Bool×Bool)} (h:loopF (fun s=>Qfh n s.1 s.2) s=some e) (hD:sel e (fun e=>Qmv Γ rv n) (fun e=>e=rv)):Qnc Γ rv n s.1 s.2:=by
 refine QaD (C:=fun (s:List Bool×Int)=>Qnc Γ rv n s.1 s.2) (D:=fun (e:(Unit)⊕(List Bool×Bool))=>sel e (fun e=>Qmv Γ rv n) (fun e=>e=rv)) ?_ h hD
 clear h hD s e
 rintro ⟨l,i⟩ z_ h hI hE
 replace h:Qfh n l i=_:=h
 unfold Qfh at h
 rcases Qaj h with ⟨h1,h⟩|⟨h1,h⟩
 ·obtain ⟨x0,h2,h⟩:=Qae h
  rcases Qaj h with ⟨h3,h⟩|⟨h3,h⟩
  ·exact gn 16 [1,6,7] [0] [bT h1,oO (getLo h2),oO (getHi QaQ h2),rE QaQ h2,nF h3,oO (getLo h2),oO (getHi QaQ h2),rE QaQ h2,hH (.rows ((setI l i false).map QaQ)),hH (.relen 0 ((setI l i false).map QaQ).length),oO (setM QaQ l i false),rp 3 (oO (QxY QaQ l i false))] (hI _ (oJ h))
  ·obtain rfl:=(hE _ (oJ h):_=rv)
   exact gr 15 [] [bT h1,oO (getLo h2),oO (getHi QaQ h2),rE QaQ h2,nT h3,oO (getLo h2),oO (getHi QaQ h2),rE QaQ h2,hH (.rows ((setI l i true).map QaQ)),hH (.relen 0 ((setI l i true).map QaQ).length),hW 5,hH (.frz 0),oO (setM QaQ l i true),rp 3 (oO (QxY QaQ l i true)),rp 5 (oO (Eq.refl ((setI l i true).map QaQ).length))]
 ·exact gn 5 [] [] [bF h1] (hE _ (oJ h))
theorem Qo4 {rests n} {rv:List Bool×Bool} (h:Qf8 rests n=some rv):AFn Tryz.prog 147 [.one (lL 1 rests QaQ),.one (lI n)] [] (.tup [.one (lL 1 rv.1 QaQ),.one (.bool rv.2)]) []:=by
 refine QaM Tryz.func147 (by kernel_rfl) (by kernel_rfl) (fun Γ=>?_)
 unfold Qf8 at h
 obtain ⟨h0,h⟩:=Qax h
 obtain ⟨e0,h4,h⟩:=Qae h
 refine gn 11 [1,6,7] [0] [aN QaQ h0,nL QaQ rests] (QrP Γ rv h4 ?_)
 rcases e0 with e0|e0
 ·replace h:(some ([],false):Option (List Bool×Bool))=some _:=h
  obtain rfl:=Option.some.inj h
  exact gr 2 [] [hW 4,hH (.nilS 4 0 1)]
 ·obtain ⟨r,rfl⟩:∃ x,x=e0:=⟨_,rfl⟩
  replace h:(some r:Option (List Bool×Bool))=some _:=h
  exact Option.some.inj h
def QlO (Γ:Gam) (rv:Qap×Int) (cf:Cf):Prop:=Go Tryz.prog Tryz.f99 [] Γ (.tup [.agg [.bool rv.1.rest_,lI rv.1.depart,lL 4 rv.1.times Qar.enc,lI rv.1.end_,lI rv.1.miles],.one (lI rv.2)]) [] cf
def QiX (Γ:Gam) (rv:Qap×Int) (x0:Qac) (r:Qad) (l:List Bool) (r2:Qap×Int) (rests:List Bool) (x1:Qap) (rests1:List Bool) (found:Bool) (more:Bool):Prop:=QlO Γ rv ⟨[.c 4088,.l 4088,.b 0,.c 1023],⟨88,[vP 2 0 6,vP 3 1 4,vP 4 2 5,vL 7 1 rests1 QaQ,vP 8 3 5,vI 9 r2.2,vB 10 found,vB 11 more],[oX 6 30 (Qac.enc x0),oX 4 37 [lI r.type_,lI r.start,lL 1 rests QaQ,lL 2 r.visits Qaa.enc],oX 5 74 [.bool false,lI 0,.nils,lI 0,lI 0],oX 5 74 (Qap.enc x1)]⟩⟩
def Qir (Γ:Gam) (rv:Qap×Int) (x0:Qac) (r:Qad) (l:List Bool) (r2:Qap×Int) (x3:Qap) (found2:Bool):Prop:=QlO Γ rv ⟨[.c 1023],⟨88,[vP 4 0 5,vP 8 1 5,vI 9 r2.2,vB 10 found2],[oX 5 74 [.bool false,lI 0,.nils,lI 0,lI 0],oX 5 74 (Qap.enc x3)]⟩⟩
theorem Qmt (Γ:Gam) (rv:Qap×Int) {x0 r l r2 rests rests1 x2 found1} {x:(List Bool×Qap×List Bool×Bool×Bool)⊕(Qap×Bool)} (h:Qgv x0 r l r2 rests rests1 x2 found1=some x) (hI:∀ s:List Bool×Qap×List Bool×Bool×Bool,x=.inl s→QiX Γ rv x0 r l r2 s.1 s.2.1 s.2.2.1 s.2.2.2.1 s.2.2.2.2) (hE:∀ e:Qap×Bool,x=.inr e→Qir Γ rv x0 r l r2 e.1 e.2):QlO Γ rv ⟨[.c 65419,.b 1,.l 4088,.b 0,.c 1023],⟨88,[vP 2 0 6,vP 3 1 4,vP 4 2 5,vL 7 1 rests1 QaQ,vP 8 3 5,vI 9 r2.2,vB 10 found1],[oX 6 30 (Qac.enc x0),oX 4 37 [lI r.type_,lI r.start,lL 1 rests QaQ,lL 2 r.visits Qaa.enc],oX 5 74 [.bool false,lI 0,.nils,lI 0,lI 0],oX 5 74 (Qap.enc x2)]⟩⟩:=by
 unfold Qgv at h
 obtain ⟨r5,h8,h⟩:=Qae h
 exact gn 3 [2,3,4,7,8,9,10,11] [0,1,2,3] [nL QaQ rests,cC (Qo4 h8)] (hI _ (oJ h))
theorem QrO (Γ:Gam) (rv:Qap×Int) {x0 r l r2} {s:List Bool×Qap×List Bool×Bool×Bool} {e:Qap×Bool} (h:loopF (fun s=>Qfg x0 r l r2 s.1 s.2.1 s.2.2.1 s.2.2.2.1 s.2.2.2.2) s=some e) (hD:Qir Γ rv x0 r l r2 e.1 e.2):QiX Γ rv x0 r l r2 s.1 s.2.1 s.2.2.1 s.2.2.2.1 s.2.2.2.2:=by
 refine QaD (C:=fun (s:List Bool×Qap×List Bool×Bool×Bool)=>QiX Γ rv x0 r l r2 s.1 s.2.1 s.2.2.1 s.2.2.2.1 s.2.2.2.2) (D:=fun (e:Qap×Bool)=>Qir Γ rv x0 r l r2 e.1 e.2) ?_ h hD
 clear h hD s e
 rintro ⟨rests,x1,rests1,found,more⟩ z_ h hI hE
 replace h:Qfg x0 r l r2 rests x1 rests1 found more=_:=h
 unfold Qfg at h
 rcases Qaj h with ⟨h5,h⟩|⟨h5,h⟩
 ·obtain ⟨r4,h6,h⟩:=Qae h
  rcases Qaj h with ⟨h7,h⟩|⟨h7,h⟩
  ·exact gn 15 [2,3,4,7,8,9,10] [0,1,2,3] [bT h5,cC (QlP h6),rp 11 hP,rp 2 (oI ((eqI r4.2 0)=true)),rp 4 (oI (((eqI r4.2 0)=true)∧(!found)=false)),oI ((eqI r4.2 0)=true),oI (((eqI r4.2 0)=true)∧(!found)=false),oR True ((eqI r4.2 0)=true),bT h7] (Qmt Γ rv h hI hE)
  ·exact gn 13 [2,3,4,7,8,9,10] [0,1,2,3] [bT h5,cC (QlP h6),rp 11 hP,rp 2 (oI ((eqI r4.2 0)=true)),rp 4 (oI (((eqI r4.2 0)=true)∧(!found)=false)),oI ((eqI r4.2 0)=true),oI (((eqI r4.2 0)=true)∧(!found)=false),oR True ((eqI r4.2 0)=true),bF h7] (Qmt Γ rv h hI hE)
 ·exact gn 5 [4,8,9,10] [2,3] [bF h5] (hE _ (oJ h))
theorem Qo2 {x0 r} {rv:Qap×Int} (h:Qf7 x0 r=some rv):AFn Tryz.prog 99 [.agg (Qac.enc x0),.agg (Qad.enc r)] [] (.tup [.agg [.bool rv.1.rest_,lI rv.1.depart,lL 4 rv.1.times Qar.enc,lI rv.1.end_,lI rv.1.miles],.one (lI rv.2)]) []:=by
 refine QaM Tryz.func99 (by kernel_rfl) (by kernel_rfl) (fun Γ=>?_)
 unfold Qf7 at h
 obtain ⟨r1,h0,h⟩:=Qae h
 rcases Qaj h with ⟨h1,h⟩|⟨h1,h⟩
 ·obtain rfl:=Option.some.inj h
  exact gr 10 [] [nL Qaa.enc r.visits,cC (QfW h0),hP,hP,hP,rp 2 (oI ((!r1)=false)),nL QaQ r.rests,hP,hP,hP,rp 2 (oI ((!r1)=false)),oR True ((!r1)=false),bT h1,hW 5,hH (.nilB 2 2 4)]
 ·obtain ⟨l,h2,h⟩:=Qae h
  obtain ⟨r2,h3,h⟩:=Qae h
  obtain ⟨r3,h4,h⟩:=Qae h
  obtain ⟨e0,h9,h⟩:=Qae h
  refine gn 22 [2,3,4,7,8,9,10,11] [0,1,2,4] [nL Qaa.enc r.visits,cC (QfW h0),hP,hP,hP,rp 2 (oI ((!r1)=false)),nL QaQ r.rests,hP,hP,hP,rp 2 (oI ((!r1)=false)),oR True ((!r1)=false),bF h1,hH (.cells [.bool false]),hH (.rows (l.map QaQ)),oO (mk1 h2),oO (mk2 h2),oO (mk3 h2),oO (mk4 h2),oO (mk5 QaQ h2),cY QaQ l r.rests,hH (.relen 3 ((cpyL l r.rests).map QaQ).length),hW 5,hH (.frz 3),rp 3 (oO (QEE QaQ l r.rests)),rp 4 (oO (Eq.refl ((cpyL l r.rests).map QaQ).length)),cC (QlP h3),nL QaQ r.rests,cC (Qo4 h4)] (QrO Γ rv h9 ?_)
  obtain ⟨x3,found2⟩:=e0
  replace h:(br found2 (some (x3,0)) (some ((Qap.mk false 0 [] 0 0),r2.2)):Option (Qap×Int))=some _:=h
  rcases Qaj h with ⟨h10,h⟩|⟨h10,h⟩
  ·obtain rfl:=Option.some.inj h
   exact gr 7 [] [nF h10]
  ·obtain rfl:=Option.some.inj h
   exact gr 6 [] [nT h10,hW 6,hH (.nilB 0 2 4)]
def Qn3 (Γ:Gam) (rv:Bool) (cf:Cf):Prop:=Go Tryz.prog Tryz.f148 [] Γ (one (.bool rv)) [] cf
def Qlx (Γ:Gam) (rv:Bool) (l:List Qaa) (at_:Int) (i:Int):Prop:=Qn3 Γ rv ⟨[.c 52,.l 52,.b 0,.c 7],⟨22,[vL 0 2 l Qaa.enc,vI 1 at_,vI 5 i],[]⟩⟩
def Qkg (Γ:Gam) (rv:Bool) (l:List Qaa) (at_:Int):Prop:=Qn3 Γ rv ⟨[.c 7],⟨22,[],[]⟩⟩
theorem Qqo (Γ:Gam) (rv:Bool) {l at_} {s:Int} {e:(Unit)⊕(Bool)} (h:loopF (fun s=>Qcp l at_ s) s=some e) (hD:sel e (fun e=>Qkg Γ rv l at_) (fun e=>e=rv)):Qlx Γ rv l at_ s:=by
 refine QaD (C:=fun (s:Int)=>Qlx Γ rv l at_ s) (D:=fun (e:(Unit)⊕(Bool))=>sel e (fun e=>Qkg Γ rv l at_) (fun e=>e=rv)) ?_ h hD
 clear h hD s e
 intro i z_ h hI hE
 replace h:Qcp l at_ i=_:=h
 unfold Qcp at h
 rcases Qaj h with ⟨h0,h⟩|⟨h0,h⟩
 ·obtain ⟨x0,h1,h⟩:=Qae h
  obtain ⟨x1,h2,h⟩:=Qae h
  rcases Qaj h with ⟨h3,h⟩|⟨h3,h⟩
  ·obtain rfl:=(hE _ (oJ h):_=rv)
   exact gr 12 [] [bT h0,hH (.draw 11 []),cE Qaa.enc h1,cE Qaa.enc h2,bT h3]
  ·exact gn 14 [0,1,5] [] [bT h0,hH (.draw 11 []),cE Qaa.enc h1,cE Qaa.enc h2,bF h3] (hI _ (oJ h))
 ·exact gn 5 [] [] [bF h0] (hE _ (oJ h))
theorem Qd9 {l at_} {rv:Bool} (h:Qg9 l at_=some rv):AFn Tryz.prog 148 [.one (lL 2 l Qaa.enc),.one (lI at_)] [] (one (.bool rv)) []:=by
 refine QaM Tryz.func148 (by kernel_rfl) (by kernel_rfl) (fun Γ=>?_)
 unfold Qg9 at h
 obtain ⟨e0,h4,h⟩:=Qae h
 refine gn 7 [0,1,5] [] [] (Qqo Γ rv h4 ?_)
 rcases e0 with e0|e0
 ·replace h:(some true:Option Bool)=some _:=h
  obtain rfl:=Option.some.inj h
  exact gr 2 [] []
 ·obtain ⟨r,rfl⟩:∃ x,x=e0:=⟨_,rfl⟩
  replace h:(some r:Option Bool)=some _:=h
  exact Option.some.inj h
def Qkr (Γ:Gam) (rv:QaE) (cf:Cf):Prop:=Go Tryz.prog Tryz.f100 [] Γ (gG [lI rv.cost,lI rv.moved,lI rv.other,lI rv.work]) [] cf
def Qis (Γ:Gam) (rv:QaE) (x0:Qac) (r:Qad) (s0:Qap) (x1:Qai) (moved:Int) (other:Int) (i:Int):Prop:=Qkr Γ rv ⟨[.c 1012,.l 1012,.b 0,.c 127],⟨128,[vP 3 0 6,vP 4 1 4,vP 6 2 4,vP 9 3 4,vI 10 i],[oX 6 30 (Qac.enc x0),oX 4 37 (Qad.enc r),oX 4 76 [lI 0,lI 0,lI 0,lI 0],oX 4 76 [lI (addK .i64 (addK .i64 x1.fixed (mulK .i64 x1.perMile s0.miles)) (mulK .i64 x1.perTick (subK .i64 s0.end_ x1.open_))),lI moved,lI other,lI (mulK .i64 (quoK .i64 (subK .i64 s0.end_ x1.open_) 64) (quoK .i64 (subK .i64 s0.end_ x1.open_) 64))]]⟩⟩
def QhU (Γ:Gam) (rv:QaE) (x0:Qac) (r:Qad) (s0:Qap) (x1:Qai) (moved2:Int) (other1:Int):Prop:=Qkr Γ rv ⟨[.c 127],⟨128,[vP 6 0 4,vP 9 1 4],[oX 4 76 [lI 0,lI 0,lI 0,lI 0],oX 4 76 [lI (addK .i64 (addK .i64 x1.fixed (mulK .i64 x1.perMile s0.miles)) (mulK .i64 x1.perTick (subK .i64 s0.end_ x1.open_))),lI moved2,lI other1,lI (mulK .i64 (quoK .i64 (subK .i64 s0.end_ x1.open_) 64) (quoK .i64 (subK .i64 s0.end_ x1.open_) 64))]]⟩⟩
theorem Qlw (Γ:Gam) (rv:QaE) {x0 r s0 x1 other i x2 moved1} {x:(Int×Int×Int)⊕(Int×Int)} (h:QfX x0 r s0 x1 other i x2 moved1=some x) (hI:∀ s:Int×Int×Int,x=.inl s→Qis Γ rv x0 r s0 x1 s.1 s.2.1 s.2.2) (hE:∀ e:Int×Int,x=.inr e→QhU Γ rv x0 r s0 x1 e.1 e.2):Qkr Γ rv ⟨[.c 64807,.b 1,.c 4051,.l 1012,.b 0,.c 127],⟨128,[vP 3 0 6,vP 4 1 4,vP 6 2 4,vP 9 3 4,vI 10 i,vI 11 x2.order],[oX 6 30 (Qac.enc x0),oX 4 37 (Qad.enc r),oX 4 76 [lI 0,lI 0,lI 0,lI 0],oX 4 76 [lI (addK .i64 (addK .i64 x1.fixed (mulK .i64 x1.perMile s0.miles)) (mulK .i64 x1.perTick (subK .i64 s0.end_ x1.open_))),lI moved1,lI other,lI (mulK .i64 (quoK .i64 (subK .i64 s0.end_ x1.open_) 64) (quoK .i64 (subK .i64 s0.end_ x1.open_) 64))]]⟩⟩:=by
 unfold QfX at h
 obtain ⟨x4,h10,h⟩:=Qae h
 rcases Qaj h with ⟨h11,h⟩|⟨h11,h⟩
 ·rcases Qaj h with ⟨h12,h⟩|⟨h12,h⟩
  ·exact gn 7 [3,4,6,9,10] [0,1,2,3] [hH (.draw 18 []),cE Qah.enc h10,rp 4 (bT h11),cE Qah.enc h10,rp 6 (bT h11),bT h12] (hI _ (oJ h))
  ·exact gn 7 [3,4,6,9,10] [0,1,2,3] [hH (.draw 18 []),cE Qah.enc h10,rp 4 (bT h11),cE Qah.enc h10,rp 6 (bT h11),bF h12] (hI _ (oJ h))
 ·exact gn 7 [3,4,6,9,10] [0,1,2,3] [hH (.draw 18 []),cE Qah.enc h10,rp 10 (bF h11),fF] (hI _ (oJ h))
theorem Qq2 (Γ:Gam) (rv:QaE) {x0 r s0 x1} {s:Int×Int×Int} {e:Int×Int} (h:loopF (fun s=>Qcg x0 r s0 x1 s.1 s.2.1 s.2.2) s=some e) (hD:QhU Γ rv x0 r s0 x1 e.1 e.2):Qis Γ rv x0 r s0 x1 s.1 s.2.1 s.2.2:=by
 refine QaD (C:=fun (s:Int×Int×Int)=>Qis Γ rv x0 r s0 x1 s.1 s.2.1 s.2.2) (D:=fun (e:Int×Int)=>QhU Γ rv x0 r s0 x1 e.1 e.2) ?_ h hD
 clear h hD s e
 rintro ⟨moved,other,i⟩ z_ h hI hE
 replace h:Qcg x0 r s0 x1 moved other i=_:=h
 unfold Qcg at h
 rcases Qaj h with ⟨h2,h⟩|⟨h2,h⟩
 ·obtain ⟨x2,h3,h⟩:=Qae h
  rcases Qaj h with ⟨h4,h⟩|⟨h4,h⟩
  ·exact gn 16 [3,4,6,9,10] [0,1,2,3] [nL Qaa.enc r.visits,bT h2,cE Qaa.enc h3,rp 4 hP,rp 2 (oI ((ltI x2.order 0)=false)),nL Qah.enc x0.orders,hP,hP,rp 2 (oI ((ltI x2.order 0)=false)),oR True ((ltI x2.order 0)=false),rp 6 (bT h4),tT] (hI _ (oJ h))
  ·obtain ⟨r1,h5,h⟩:=Qae h
   rcases Qaj h with ⟨h6,h⟩|⟨h6,h⟩
   ·obtain ⟨x3,h7,h⟩:=Qae h
    rcases Qaj h with ⟨h8,h⟩|⟨h8,h⟩
    ·rcases Qaj h with ⟨h9,h⟩|⟨h9,h⟩
     ·exact gn 19 [3,4,6,9,10,11] [0,1,2,3] [nL Qaa.enc r.visits,bT h2,cE Qaa.enc h3,rp 4 hP,rp 2 (oI ((ltI x2.order 0)=false)),nL Qah.enc x0.orders,hP,hP,rp 2 (oI ((ltI x2.order 0)=false)),oR True ((ltI x2.order 0)=false),rp 4 (bF h4),cC (Qd9 h5),bF h4,bF h4,nF h6,hH (.draw 18 []),cE Qah.enc h7,rp 4 (bT h8),cE Qah.enc h7,rp 6 (bT h8),bT h9] (Qlw Γ rv h hI hE)
     ·exact gn 19 [3,4,6,9,10,11] [0,1,2,3] [nL Qaa.enc r.visits,bT h2,cE Qaa.enc h3,rp 4 hP,rp 2 (oI ((ltI x2.order 0)=false)),nL Qah.enc x0.orders,hP,hP,rp 2 (oI ((ltI x2.order 0)=false)),oR True ((ltI x2.order 0)=false),rp 4 (bF h4),cC (Qd9 h5),bF h4,bF h4,nF h6,hH (.draw 18 []),cE Qah.enc h7,rp 4 (bT h8),cE Qah.enc h7,rp 6 (bT h8),bF h9] (Qlw Γ rv h hI hE)
    ·rcases Qaj h with ⟨h13,h⟩|⟨h13,h⟩
     ·rcases Qaj h with ⟨h14,h⟩|⟨h14,h⟩
      ·exact gn 26 [3,4,6,9,10] [0,1,2,3] [nL Qaa.enc r.visits,bT h2,cE Qaa.enc h3,rp 4 hP,rp 2 (oI ((ltI x2.order 0)=false)),nL Qah.enc x0.orders,hP,hP,rp 2 (oI ((ltI x2.order 0)=false)),oR True ((ltI x2.order 0)=false),rp 4 (bF h4),cC (Qd9 h5),bF h4,bF h4,nF h6,hH (.draw 18 []),cE Qah.enc h7,rp 10 (bF h8),fF,hH (.draw 18 []),cE Qah.enc h7,rp 4 (bT h13),cE Qah.enc h7,rp 6 (bT h13),bT h14] (hI _ (oJ h))
      ·exact gn 26 [3,4,6,9,10] [0,1,2,3] [nL Qaa.enc r.visits,bT h2,cE Qaa.enc h3,rp 4 hP,rp 2 (oI ((ltI x2.order 0)=false)),nL Qah.enc x0.orders,hP,hP,rp 2 (oI ((ltI x2.order 0)=false)),oR True ((ltI x2.order 0)=false),rp 4 (bF h4),cC (Qd9 h5),bF h4,bF h4,nF h6,hH (.draw 18 []),cE Qah.enc h7,rp 10 (bF h8),fF,hH (.draw 18 []),cE Qah.enc h7,rp 4 (bT h13),cE Qah.enc h7,rp 6 (bT h13),bF h14] (hI _ (oJ h))
     ·exact gn 26 [3,4,6,9,10] [0,1,2,3] [nL Qaa.enc r.visits,bT h2,cE Qaa.enc h3,rp 4 hP,rp 2 (oI ((ltI x2.order 0)=false)),nL Qah.enc x0.orders,hP,hP,rp 2 (oI ((ltI x2.order 0)=false)),oR True ((ltI x2.order 0)=false),rp 4 (bF h4),cC (Qd9 h5),bF h4,bF h4,nF h6,hH (.draw 18 []),cE Qah.enc h7,rp 10 (bF h8),fF,hH (.draw 18 []),cE Qah.enc h7,rp 10 (bF h13),fF] (hI _ (oJ h))
   ·exact gn 16 [3,4,6,9,10] [0,1,2,3] [nL Qaa.enc r.visits,bT h2,cE Qaa.enc h3,rp 4 hP,rp 2 (oI ((ltI x2.order 0)=false)),nL Qah.enc x0.orders,hP,hP,rp 2 (oI ((ltI x2.order 0)=false)),oR True ((ltI x2.order 0)=false),rp 4 (bF h4),cC (Qd9 h5),bF h4,bF h4,nT h6] (hI _ (oJ h))
 ·exact gn 5 [6,9] [2,3] [nL Qaa.enc r.visits,bF h2] (hE _ (oJ h))
theorem QsX {x0 r s0} {rv:QaE} (h:Qgw x0 r s0=some rv):AFn Tryz.prog 100 [.agg (Qac.enc x0),.agg (Qad.enc r),.agg (Qap.enc s0)] [] (gG [lI rv.cost,lI rv.moved,lI rv.other,lI rv.work]) []:=by
 refine QaM Tryz.func100 (by kernel_rfl) (by kernel_rfl) (fun Γ=>?_)
 unfold Qgw at h
 rcases Qaj h with ⟨h0,h⟩|⟨h0,h⟩
 ·obtain rfl:=Option.some.inj h
  exact gr 8 [] [rp 5 hP,rp 3 (oI ((ltI r.type_ 0)=false)),nL Qai.enc x0.types,hP,hP,rp 2 (oI ((ltI r.type_ 0)=false)),oR True ((ltI r.type_ 0)=false),bT h0]
 ·obtain ⟨x1,h1,h⟩:=Qae h
  obtain ⟨e0,h15,h⟩:=Qae h
  refine gn 18 [3,4,6,9,10] [0,1,3,5] [rp 5 hP,rp 3 (oI ((ltI r.type_ 0)=false)),nL Qai.enc x0.types,hP,hP,rp 2 (oI ((ltI r.type_ 0)=false)),oR True ((ltI r.type_ 0)=false),bF h0,cE Qai.enc h1,rp 2 (oO (oA (n:=64)))] (Qq2 Γ rv h15 ?_)
  obtain ⟨moved2,other1⟩:=e0
  replace h:(some (QaE.mk (addK .i64 (addK .i64 x1.fixed (mulK .i64 x1.perMile s0.miles)) (mulK .i64 x1.perTick (subK .i64 s0.end_ x1.open_))) moved2 other1 (mulK .i64 (quoK .i64 (subK .i64 s0.end_ x1.open_) 64) (quoK .i64 (subK .i64 s0.end_ x1.open_) 64))):Option QaE)=some _:=h
  obtain rfl:=Option.some.inj h
  exact gr 2 [] []
def Qmw (Γ:Gam) (rv:Qap×QaE×Int) (cf:Cf):Prop:=Go Tryz.prog Tryz.f61 [] Γ (.tup [.agg [.bool rv.1.rest_,lI rv.1.depart,lL 4 rv.1.times Qar.enc,lI rv.1.end_,lI rv.1.miles],.agg [lI rv.2.1.cost,lI rv.2.1.moved,lI rv.2.1.other,lI rv.2.1.work],.one (lI rv.2.2)]) [] cf
def QjI (Γ:Gam) (rv:Qap×QaE×Int) (x0:Qac) (r:Qad) (i:Int):Prop:=Qmw Γ rv ⟨[.c 244,.l 244,.b 0,.c 31],⟨85,[vP 2 0 6,vP 3 1 4,vP 4 2 5,vP 5 3 4,vI 8 i],[oX 6 30 (Qac.enc x0),oX 4 37 (Qad.enc r),oX 5 74 [.bool false,lI 0,.nils,lI 0,lI 0],oX 4 76 [lI 0,lI 0,lI 0,lI 0]]⟩⟩
def Qji (Γ:Gam) (rv:Qap×QaE×Int) (x0:Qac) (r:Qad):Prop:=Qmw Γ rv ⟨[.c 31],⟨85,[vP 2 0 6,vP 3 1 4,vP 4 2 5,vP 5 3 4],[oX 6 30 (Qac.enc x0),oX 4 37 (Qad.enc r),oX 5 74 [.bool false,lI 0,.nils,lI 0,lI 0],oX 4 76 [lI 0,lI 0,lI 0,lI 0]]⟩⟩
theorem Qo6 (Γ:Gam) (rv:Qap×QaE×Int) {x0 r} {s:Int} {e:(Unit)⊕(Qap×QaE×Int)} (h:loopF (fun s=>QbA x0 r s) s=some e) (hD:sel e (fun e=>Qji Γ rv x0 r) (fun e=>e=rv)):QjI Γ rv x0 r s:=by
 refine QaD (C:=fun (s:Int)=>QjI Γ rv x0 r s) (D:=fun (e:(Unit)⊕(Qap×QaE×Int))=>sel e (fun e=>Qji Γ rv x0 r) (fun e=>e=rv)) ?_ h hD
 clear h hD s e
 intro i z_ h hI hE
 replace h:QbA x0 r i=_:=h
 unfold QbA at h
 rcases Qaj h with ⟨h3,h⟩|⟨h3,h⟩
 ·obtain ⟨x1,h4,h⟩:=Qae h
  obtain ⟨x2,h5,h⟩:=Qae h
  obtain ⟨x3,h6,h⟩:=Qae h
  obtain ⟨r2,h7,h⟩:=Qae h
  rcases Qaj h with ⟨h8,h⟩|⟨h8,h⟩
  ·exact gn 14 [2,3,4,5,8] [0,1,2,3] [nL Qaa.enc r.visits,bT h3,hH (.draw 19 []),cE Qai.enc h4,cE Qaa.enc h5,cE Qah.enc h6,cC (QoU h7),nF h8] (hI _ (oJ h))
  ·obtain rfl:=(hE _ (oJ h):_=rv)
   exact gr 12 [] [nL Qaa.enc r.visits,bT h3,hH (.draw 19 []),cE Qai.enc h4,cE Qaa.enc h5,cE Qah.enc h6,cC (QoU h7),nT h8,hW 7,hH (.nilB 2 2 4)]
 ·exact gn 5 [2,3,4,5] [0,1,2,3] [nL Qaa.enc r.visits,bF h3] (hE _ (oJ h))
theorem QhV {x0 r} {rv:Qap×QaE×Int} (h:QdD x0 r=some rv):AFn Tryz.prog 61 [.agg (Qac.enc x0),.agg (Qad.enc r)] [] (.tup [.agg [.bool rv.1.rest_,lI rv.1.depart,lL 4 rv.1.times Qar.enc,lI rv.1.end_,lI rv.1.miles],.agg [lI rv.2.1.cost,lI rv.2.1.moved,lI rv.2.1.other,lI rv.2.1.work],.one (lI rv.2.2)]) []:=by
 refine QaM Tryz.func61 (by kernel_rfl) (by kernel_rfl) (fun Γ=>?_)
 unfold QdD at h
 rcases Qaj h with ⟨h0,h⟩|⟨h0,h⟩
 ·obtain rfl:=Option.some.inj h
  exact gr 8 [] [rp 5 hP,rp 3 (oI ((ltI r.type_ 0)=false)),nL Qai.enc x0.types,hP,hP,rp 2 (oI ((ltI r.type_ 0)=false)),oR True ((ltI r.type_ 0)=false),bT h0,hW 7,hH (.nilB 2 2 4)]
 ·obtain ⟨r1,h1,h⟩:=Qae h
  rcases Qaj h with ⟨h2,h⟩|⟨h2,h⟩
  ·obtain rfl:=Option.some.inj h
   exact gr 15 [] [rp 5 hP,rp 3 (oI ((ltI r.type_ 0)=false)),nL Qai.enc x0.types,hP,hP,rp 2 (oI ((ltI r.type_ 0)=false)),oR True ((ltI r.type_ 0)=false),bF h0,cC (QhB h1),bT h2,hW 8,hH (.nilB 2 2 4)]
  ·obtain ⟨e0,h9,h⟩:=Qae h
   refine gn 19 [2,3,4,5,8] [0,1,2,3] [rp 5 hP,rp 3 (oI ((ltI r.type_ 0)=false)),nL Qai.enc x0.types,hP,hP,rp 2 (oI ((ltI r.type_ 0)=false)),oR True ((ltI r.type_ 0)=false),bF h0,cC (QhB h1),bF h2] (Qo6 Γ rv h9 ?_)
   rcases e0 with e0|e0
   ·replace h:(bnd (Qhe x0 r) fun r3=>br (neI r3 0) (some ((Qap.mk false 0 [] 0 0),(QaE.mk 0 0 0 0),r3)) (bnd (Qf7 x0 r) fun r4=>br (neI r4.2 0) (some ((Qap.mk false 0 [] 0 0),(QaE.mk 0 0 0 0),r4.2)) (bnd (Qgw x0 r r4.1) fun r5=>some (r4.1,r5,0))):Option (Qap×QaE×Int))=some _:=h
    obtain ⟨r3,h10,h⟩:=Qae h
    rcases Qaj h with ⟨h11,h⟩|⟨h11,h⟩
    ·obtain rfl:=Option.some.inj h
     exact gr 8 [] [cC (Qkq h10),bT h11,hW 8,hH (.nilB 2 2 4)]
    ·obtain ⟨r4,h12,h⟩:=Qae h
     rcases Qaj h with ⟨h13,h⟩|⟨h13,h⟩
     ·obtain rfl:=Option.some.inj h
      exact gr 15 [] [cC (Qkq h10),bF h11,cC (Qo2 h12),bT h13,hW 8,hH (.nilB 2 2 4)]
     ·obtain ⟨r5,h14,h⟩:=Qae h
      obtain rfl:=Option.some.inj h
      exact gr 16 [] [cC (Qkq h10),bF h11,cC (Qo2 h12),bF h13,hH (.draw 5 []),cC (QsX h14)]
   ·obtain ⟨r6,rfl⟩:∃ x,x=e0:=⟨_,rfl⟩
    replace h:(some r6:Option (Qap×QaE×Int))=some _:=h
    exact Option.some.inj h
theorem Qn2 {s0} {rv:Bool} (h:QjH s0=some rv):AFn Tryz.prog 101 [.agg (QaE.enc s0)] [] (one (.bool rv)) []:=by
 refine QaM Tryz.func101 (by kernel_rfl) (by kernel_rfl) (fun Γ=>?_)
 unfold QjH at h
 obtain rfl:=Option.some.inj h
 exact gr 4 [] [rp 28 hP,rp 2 (oI ((geI s0.cost 0)=true)),oR True ((geI s0.cost 0)=true),rp 2 (oI (((geI s0.cost 0)&&(leI s0.cost 1073741824))=true)),oR True (((geI s0.cost 0)&&(leI s0.cost 1073741824))=true),rp 2 (oI ((((geI s0.cost 0)&&(leI s0.cost 1073741824))&&(geI s0.moved 0))=true)),oR True ((((geI s0.cost 0)&&(leI s0.cost 1073741824))&&(geI s0.moved 0))=true),rp 2 (oI (((((geI s0.cost 0)&&(leI s0.cost 1073741824))&&(geI s0.moved 0))&&(leI s0.moved 15))=true)),oR True (((((geI s0.cost 0)&&(leI s0.cost 1073741824))&&(geI s0.moved 0))&&(leI s0.moved 15))=true),rp 2 (oI ((((((geI s0.cost 0)&&(leI s0.cost 1073741824))&&(geI s0.moved 0))&&(leI s0.moved 15))&&(geI s0.other 0))=true)),oR True ((((((geI s0.cost 0)&&(leI s0.cost 1073741824))&&(geI s0.moved 0))&&(leI s0.moved 15))&&(geI s0.other 0))=true),rp 2 (oI (((((((geI s0.cost 0)&&(leI s0.cost 1073741824))&&(geI s0.moved 0))&&(leI s0.moved 15))&&(geI s0.other 0))&&(leI s0.other 15))=true)),oR True (((((((geI s0.cost 0)&&(leI s0.cost 1073741824))&&(geI s0.moved 0))&&(leI s0.moved 15))&&(geI s0.other 0))&&(leI s0.other 15))=true),rp 2 (oI ((((((((geI s0.cost 0)&&(leI s0.cost 1073741824))&&(geI s0.moved 0))&&(leI s0.moved 15))&&(geI s0.other 0))&&(leI s0.other 15))&&(geI s0.work 0))=true)),oR True ((((((((geI s0.cost 0)&&(leI s0.cost 1073741824))&&(geI s0.moved 0))&&(leI s0.moved 15))&&(geI s0.other 0))&&(leI s0.other 15))&&(geI s0.work 0))=true)]
theorem Qso {s0} {rv:Int×Int} (h:Qg8 s0=some rv):AFn Tryz.prog 63 [.agg (QaE.enc s0)] [] (.tup [.one (lI rv.1),.one (lI rv.2)]) []:=by
 refine QaM Tryz.func63 (by kernel_rfl) (by kernel_rfl) (fun Γ=>?_)
 unfold Qg8 at h
 rcases Qaj h with ⟨h0,h⟩|⟨h0,h⟩
 ·obtain rfl:=Option.some.inj h
  exact gr 8 [] [rp 12 hP,rp 2 (oI ((ltI s0.cost 0)=false)),oR True ((ltI s0.cost 0)=false),rp 2 (oI (((ltI s0.cost 0)||(ltI s0.moved 0))=false)),oR True (((ltI s0.cost 0)||(ltI s0.moved 0))=false),rp 2 (oI ((((ltI s0.cost 0)||(ltI s0.moved 0))||(ltI s0.other 0))=false)),oR True ((((ltI s0.cost 0)||(ltI s0.moved 0))||(ltI s0.other 0))=false),bT h0]
 ·obtain ⟨r,h1,h⟩:=Qae h
  rcases Qaj h with ⟨h2,h⟩|⟨h2,h⟩
  ·obtain rfl:=Option.some.inj h
   exact gr 14 [] [rp 12 hP,rp 2 (oI ((ltI s0.cost 0)=false)),oR True ((ltI s0.cost 0)=false),rp 2 (oI (((ltI s0.cost 0)||(ltI s0.moved 0))=false)),oR True (((ltI s0.cost 0)||(ltI s0.moved 0))=false),rp 2 (oI ((((ltI s0.cost 0)||(ltI s0.moved 0))||(ltI s0.other 0))=false)),oR True ((((ltI s0.cost 0)||(ltI s0.moved 0))||(ltI s0.other 0))=false),bF h0,cC (Qn2 h1),nF h2]
  ·obtain rfl:=Option.some.inj h
   exact gr 13 [] [rp 12 hP,rp 2 (oI ((ltI s0.cost 0)=false)),oR True ((ltI s0.cost 0)=false),rp 2 (oI (((ltI s0.cost 0)||(ltI s0.moved 0))=false)),oR True (((ltI s0.cost 0)||(ltI s0.moved 0))=false),rp 2 (oI ((((ltI s0.cost 0)||(ltI s0.moved 0))||(ltI s0.other 0))=false)),oR True ((((ltI s0.cost 0)||(ltI s0.moved 0))||(ltI s0.other 0))=false),bF h0,cC (Qn2 h1),nT h2]
theorem QbV {x0 r} {rv:Int×Int} (h:Qdj x0 r=some rv):AFn Tryz.prog 31 [.agg (Qac.enc x0),.agg (Qad.enc r)] [] (.tup [.one (lI rv.1),.one (lI rv.2)]) []:=by
 refine QaM Tryz.func31 (by kernel_rfl) (by kernel_rfl) (fun Γ=>?_)
 unfold Qdj at h
 obtain ⟨r1,h0,h⟩:=Qae h
 rcases Qaj h with ⟨h1,h⟩|⟨h1,h⟩
 ·obtain rfl:=Option.some.inj h
  exact gr 10 [] [cC (QhV h0),bT h1]
 ·obtain ⟨r2,h2,h⟩:=Qae h
  obtain rfl:=Option.some.inj h
  exact gr 11 [] [cC (QhV h0),bF h1,cC (Qso h2)]
def QmG (Γ:Gam) (rv:List Int) (cf:Cf):Prop:=Go Tryz.prog Tryz.f88 [] Γ (one (lL 1 rv e_i64)) [] cf
def Qp6 (Γ:Gam) (rv:List Int) (before:List QaC) (l:List Int) (l2:List Int) (more1:Bool) (v:Int):Prop:=QmG Γ rv ⟨[.c 7468,.l 7468,.b 2,.b 1,.l 116,.b 0,.c 15],⟨68,[vL 1 2 before QaC.enc,vO 5 0 1 l2 e_i64,vB 6 more1,vL 16 2 before QaC.enc,vI 17 (lenI before),vI 18 v],[oS 1 3 l2 e_i64]⟩⟩
def Qpl (Γ:Gam) (rv:List Int) (before:List QaC) (l:List Int) (l3:List Int) (more2:Bool):Prop:=QmG Γ rv ⟨[.b 1,.l 116,.b 0,.c 15],⟨68,[vL 1 2 before QaC.enc,vO 5 0 1 l3 e_i64,vB 6 more2],[oS 1 3 l3 e_i64]⟩⟩
def Qp5 (Γ:Gam) (rv:List Int) (before:List QaC) (l:List Int) (l1:List Int) (more:Bool):Prop:=QmG Γ rv ⟨[.c 116,.l 116,.b 0,.c 15],⟨68,[vL 1 2 before QaC.enc,vO 5 0 1 l1 e_i64,vB 6 more],[oS 1 3 l1 e_i64]⟩⟩
def Qpk (Γ:Gam) (rv:List Int) (before:List QaC) (l:List Int) (l4:List Int):Prop:=QmG Γ rv ⟨[.c 15],⟨68,[vO 5 0 1 l4 e_i64],[oS 1 3 l4 e_i64]⟩⟩
theorem QtE (Γ:Gam) (rv:List Int) {before l} {s:List Int×Bool×Int} {e:List Int×Bool} (h:loopF (fun s=>Qhl before l s.1 s.2.1 s.2.2) s=some e) (hD:Qpl Γ rv before l e.1 e.2):Qp6 Γ rv before l s.1 s.2.1 s.2.2:=by
 refine QaD (C:=fun (s:List Int×Bool×Int)=>Qp6 Γ rv before l s.1 s.2.1 s.2.2) (D:=fun (e:List Int×Bool)=>Qpl Γ rv before l e.1 e.2) ?_ h hD
 clear h hD s e
 rintro ⟨l2,more1,v⟩ z_ h hI hE
 replace h:Qhl before l l2 more1 v=_:=h
 unfold Qhl at h
 rcases Qaj h with ⟨h2,h⟩|⟨h2,h⟩
 ·obtain ⟨x0,h3,h⟩:=Qae h
  rcases Qaj h with ⟨h4,h⟩|⟨h4,h⟩
  ·exact gn 18 [1,5,6,16,17,18] [0] [bT h2,cE QaC.enc h3,hH (.draw 6 []),rp 6 hP,oO (zL 0),oO (lT 0 2),oO (zL 1),oO (lT 1 2),oI ((ltI x0.x0 0)=false),oR True ((ltI x0.x0 0)=false),oI (((ltI x0.x0 0)||(ltI x0.x1 0))=false),nL e_i64 l2,rp 5 hP,rp 2 (oI (((ltI x0.x0 0)||(ltI x0.x1 0))=false)),oR True (((ltI x0.x0 0)||(ltI x0.x1 0))=false),oI ((((ltI x0.x0 0)||(ltI x0.x1 0))||(geI x0.x0 (lenI l2)))=false),nL e_i64 l2,hP,hP,rp 2 (oI ((((ltI x0.x0 0)||(ltI x0.x1 0))||(geI x0.x0 (lenI l2)))=false)),oR True ((((ltI x0.x0 0)||(ltI x0.x1 0))||(geI x0.x0 (lenI l2)))=false),bT h4] (hI _ (oJ h))
  ·obtain ⟨x1,h5,h⟩:=Qae h
   obtain ⟨x2,h6,h⟩:=Qae h
   obtain ⟨h7,h⟩:=Qax h
   rcases Qaj h with ⟨h8,h⟩|⟨h8,h⟩
   ·exact gn 27 [1,5,6,16,17,18] [0] [bT h2,cE QaC.enc h3,hH (.draw 6 []),rp 6 hP,oO (zL 0),oO (lT 0 2),oO (zL 1),oO (lT 1 2),oI ((ltI x0.x0 0)=false),oR True ((ltI x0.x0 0)=false),oI (((ltI x0.x0 0)||(ltI x0.x1 0))=false),nL e_i64 l2,rp 5 hP,rp 2 (oI (((ltI x0.x0 0)||(ltI x0.x1 0))=false)),oR True (((ltI x0.x0 0)||(ltI x0.x1 0))=false),oI ((((ltI x0.x0 0)||(ltI x0.x1 0))||(geI x0.x0 (lenI l2)))=false),nL e_i64 l2,hP,hP,rp 2 (oI ((((ltI x0.x0 0)||(ltI x0.x1 0))||(geI x0.x0 (lenI l2)))=false)),oR True ((((ltI x0.x0 0)||(ltI x0.x1 0))||(geI x0.x0 (lenI l2)))=false),bF h4,hH (.draw 13 []),oO (getLo h5),oO (getHi e_i64 h5),rE e_i64 h5,oO (getLo h6),oO (getHi e_i64 h6),rE e_i64 h6,oO (h7),oO (getLo h5),oO (getHi e_i64 h5),rE e_i64 h5,bT h8,oO (getLo h5),oO (getHi e_i64 h5),rE e_i64 h5,hH (.rows ((setI l2 x0.x1 (orK .i64 (orK .i64 x1 x2) (shlK .i64 1 x0.x0))).map e_i64)),hH (.relen 0 ((setI l2 x0.x1 (orK .i64 (orK .i64 x1 x2) (shlK .i64 1 x0.x0))).map e_i64).length),oO (setM e_i64 l2 x0.x1 (orK .i64 (orK .i64 x1 x2) (shlK .i64 1 x0.x0))),rp 5 (oO (QxY e_i64 l2 x0.x1 (orK .i64 (orK .i64 x1 x2) (shlK .i64 1 x0.x0))))] (hI _ (oJ h))
   ·exact gn 25 [1,5,6,16,17,18] [0] [bT h2,cE QaC.enc h3,hH (.draw 6 []),rp 6 hP,oO (zL 0),oO (lT 0 2),oO (zL 1),oO (lT 1 2),oI ((ltI x0.x0 0)=false),oR True ((ltI x0.x0 0)=false),oI (((ltI x0.x0 0)||(ltI x0.x1 0))=false),nL e_i64 l2,rp 5 hP,rp 2 (oI (((ltI x0.x0 0)||(ltI x0.x1 0))=false)),oR True (((ltI x0.x0 0)||(ltI x0.x1 0))=false),oI ((((ltI x0.x0 0)||(ltI x0.x1 0))||(geI x0.x0 (lenI l2)))=false),nL e_i64 l2,hP,hP,rp 2 (oI ((((ltI x0.x0 0)||(ltI x0.x1 0))||(geI x0.x0 (lenI l2)))=false)),oR True ((((ltI x0.x0 0)||(ltI x0.x1 0))||(geI x0.x0 (lenI l2)))=false),bF h4,hH (.draw 13 []),oO (getLo h5),oO (getHi e_i64 h5),rE e_i64 h5,oO (getLo h6),oO (getHi e_i64 h6),rE e_i64 h6,oO (h7),oO (getLo h5),oO (getHi e_i64 h5),rE e_i64 h5,bF h8] (hI _ (oJ h))
 ·exact gn 5 [1,5,6] [0] [bF h2] (hE _ (oJ h))
theorem QtD (Γ:Gam) (rv:List Int) {before l} {s:List Int×Bool} {e:List Int} (h:loopF (fun s=>Qhk before l s.1 s.2) s=some e) (hD:Qpk Γ rv before l e):Qp5 Γ rv before l s.1 s.2:=by
 refine QaD (C:=fun (s:List Int×Bool)=>Qp5 Γ rv before l s.1 s.2) (D:=fun (e:List Int)=>Qpk Γ rv before l e) ?_ h hD
 clear h hD s e
 rintro ⟨l1,more⟩ z_ h hI hE
 replace h:Qhk before l l1 more=_:=h
 unfold Qhk at h
 rcases Qaj h with ⟨h1,h⟩|⟨h1,h⟩
 ·obtain ⟨e0,h9,h⟩:=Qae h
  refine gn 12 [1,5,6,16,17,18] [0] [bT h1,nL QaC.enc before] (QtE Γ rv h9 ?_)
  obtain ⟨l3,more2⟩:=e0
  replace h:(some (.inl (l3,more2)):Option ((List Int×Bool)⊕(List Int)))=some _:=h
  exact gn 2 [1,5,6] [0] [] (hI _ (oJ h))
 ·exact gn 5 [5] [0] [bF h1] (hE _ (oJ h))
theorem QvF {orders before} {rv:List Int} (h:QgX orders before=some rv):AFn Tryz.prog 88 [.one (lI orders),.one (lL 2 before QaC.enc)] [] (one (lL 1 rv e_i64)) []:=by
 refine QaM Tryz.func88 (by kernel_rfl) (by kernel_rfl) (fun Γ=>?_)
 unfold QgX at h
 obtain ⟨l,h0,h⟩:=Qae h
 obtain ⟨e1,h10,h⟩:=Qae h
 refine gn 9 [1,5,6] [0] [hH (.cells [lI 0]),hH (.rows (l.map e_i64)),oO (mk1 h0),oO (mk2 h0),oO (mk3 h0),oO (mk4 h0),oO (mk5 e_i64 h0)] (QtD Γ rv h10 ?_)
 obtain ⟨l4,rfl⟩:∃ x,x=e1:=⟨_,rfl⟩
 replace h:(some l4:Option (List Int))=some _:=h
 obtain rfl:=Option.some.inj h
 exact gr 2 [] [hW 4,hH (.frz 0),rp 3 (eL l4 e_i64)]
def Qdz (Γ:Gam) (rv:Int) (cf:Cf):Prop:=Go Tryz.prog Tryz.f53 [] Γ (one (lI rv)) [] cf
def Qpf (Γ:Gam) (rv:Int) (x0:Qac) (set_:Int) (r:List Int) (v:Int):Prop:=Qdz Γ rv ⟨[.c 244,.l 244,.b 0,.c 31],⟨102,[vI 1 set_,vP 2 0 6,vL 5 1 r e_i64,vL 21 1 r e_i64,vI 22 (lenI r),vI 23 v],[oX 6 30 (Qac.enc x0)]⟩⟩
def Qob (Γ:Gam) (rv:Int) (x0:Qac) (set_:Int) (r:List Int):Prop:=Qdz Γ rv ⟨[.c 31],⟨102,[vI 1 set_,vP 2 0 6,vL 5 1 r e_i64],[oX 6 30 (Qac.enc x0)]⟩⟩
def Qpg (Γ:Gam) (rv:Int) (x0:Qac) (set_:Int) (r:List Int) (v1:Int):Prop:=Qdz Γ rv ⟨[.c 500,.l 500,.b 2,.c 63],⟨102,[vI 1 set_,vP 2 0 6,vL 5 1 r e_i64,vL 33 1 r e_i64,vI 34 (lenI r),vI 35 v1],[oX 6 30 (Qac.enc x0)]⟩⟩
def Qoc (Γ:Gam) (rv:Int) (x0:Qac) (set_:Int) (r:List Int):Prop:=Qdz Γ rv ⟨[.c 63],⟨102,[vI 1 set_,vP 2 0 6,vL 5 1 r e_i64],[oX 6 30 (Qac.enc x0)]⟩⟩
def Qph (Γ:Gam) (rv:Int) (x0:Qac) (set_:Int) (r:List Int) (v2:Int):Prop:=Qdz Γ rv ⟨[.c 1012,.l 1012,.b 4,.c 127],⟨102,[vI 1 set_,vP 2 0 6,vL 5 1 r e_i64,vL 47 2 x0.apart QaC.enc,vI 48 (lenI x0.apart),vI 49 v2],[oX 6 30 (Qac.enc x0)]⟩⟩
def Qod (Γ:Gam) (rv:Int) (x0:Qac) (set_:Int) (r:List Int):Prop:=Qdz Γ rv ⟨[.c 127],⟨102,[vI 1 set_,vP 2 0 6,vL 5 1 r e_i64],[oX 6 30 (Qac.enc x0)]⟩⟩
def Qpi (Γ:Gam) (rv:Int) (x0:Qac) (set_:Int) (r:List Int) (v3:Int):Prop:=Qdz Γ rv ⟨[.c 2036,.l 2036,.b 6,.c 255],⟨102,[vI 1 set_,vP 2 0 6,vL 5 1 r e_i64,vL 65 2 x0.before QaC.enc,vI 66 (lenI x0.before),vI 67 v3],[oX 6 30 (Qac.enc x0)]⟩⟩
def Qoe (Γ:Gam) (rv:Int) (x0:Qac) (set_:Int) (r:List Int):Prop:=Qdz Γ rv ⟨[.c 255],⟨102,[vP 2 0 6,vL 5 1 r e_i64],[oX 6 30 (Qac.enc x0)]⟩⟩
def Qpj (Γ:Gam) (rv:Int) (r:List Int) (r5:List Int) (v4:Int):Prop:=Qdz Γ rv ⟨[.c 8180,.l 8180,.b 8,.c 1023],⟨102,[vL 14 1 r5 e_i64,vL 89 1 r e_i64,vI 90 (lenI r),vI 91 v4],[]⟩⟩
def Qof (Γ:Gam) (rv:Int) (r:List Int) (r5:List Int):Prop:=Qdz Γ rv ⟨[.c 1023],⟨102,[],[]⟩⟩
theorem Qs3 (Γ:Gam) (rv:Int) {x0 set_ r} {s:Int} {e:(Unit)⊕(Int)} (h:loopF (fun s=>QbF x0 set_ r s) s=some e) (hD:sel e (fun e=>Qob Γ rv x0 set_ r) (fun e=>e=rv)):Qpf Γ rv x0 set_ r s:=by
 refine QaD (C:=fun (s:Int)=>Qpf Γ rv x0 set_ r s) (D:=fun (e:(Unit)⊕(Int))=>sel e (fun e=>Qob Γ rv x0 set_ r) (fun e=>e=rv)) ?_ h hD
 clear h hD s e
 intro v z_ h hI hE
 replace h:QbF x0 set_ r v=_:=h
 unfold QbF at h
 rcases Qaj h with ⟨h2,h⟩|⟨h2,h⟩
 ·obtain ⟨x1,h3,h⟩:=Qae h
  rcases Qaj h with ⟨h4,h⟩|⟨h4,h⟩
  ·obtain rfl:=(hE _ (oJ h):_=rv)
   exact gr 14 [] [bT h2,cE e_i64 h3,nL Qah.enc x0.orders,bT h4]
  ·exact gn 16 [1,2,5,21,22,23] [0] [bT h2,cE e_i64 h3,nL Qah.enc x0.orders,bF h4] (hI _ (oJ h))
 ·exact gn 5 [1,2,5] [0] [bF h2] (hE _ (oJ h))
theorem Qs4 (Γ:Gam) (rv:Int) {x0 set_ r} {s:Int} {e:(Unit)⊕(Int)} (h:loopF (fun s=>Qbv x0 set_ r s) s=some e) (hD:sel e (fun e=>Qoc Γ rv x0 set_ r) (fun e=>e=rv)):Qpg Γ rv x0 set_ r s:=by
 refine QaD (C:=fun (s:Int)=>Qpg Γ rv x0 set_ r s) (D:=fun (e:(Unit)⊕(Int))=>sel e (fun e=>Qoc Γ rv x0 set_ r) (fun e=>e=rv)) ?_ h hD
 clear h hD s e
 intro v1 z_ h hI hE
 replace h:Qbv x0 set_ r v1=_:=h
 unfold Qbv at h
 rcases Qaj h with ⟨h6,h⟩|⟨h6,h⟩
 ·obtain ⟨x2,h7,h⟩:=Qae h
  obtain ⟨x3,h8,h⟩:=Qae h
  rcases Qaj h with ⟨h9,h⟩|⟨h9,h⟩
  ·obtain rfl:=(hE _ (oJ h):_=rv)
   exact gr 14 [] [bT h6,cE e_i64 h7,cE Qah.enc h8,bT h9]
  ·exact gn 16 [1,2,5,33,34,35] [0] [bT h6,cE e_i64 h7,cE Qah.enc h8,bF h9] (hI _ (oJ h))
 ·exact gn 5 [1,2,5] [0] [bF h6] (hE _ (oJ h))
theorem Qs5 (Γ:Gam) (rv:Int) {x0 set_ r} {s:Int} {e:(Unit)⊕(Int)} (h:loopF (fun s=>Qbp x0 set_ r s) s=some e) (hD:sel e (fun e=>Qod Γ rv x0 set_ r) (fun e=>e=rv)):Qph Γ rv x0 set_ r s:=by
 refine QaD (C:=fun (s:Int)=>Qph Γ rv x0 set_ r s) (D:=fun (e:(Unit)⊕(Int))=>sel e (fun e=>Qod Γ rv x0 set_ r) (fun e=>e=rv)) ?_ h hD
 clear h hD s e
 intro v2 z_ h hI hE
 replace h:Qbp x0 set_ r v2=_:=h
 unfold Qbp at h
 rcases Qaj h with ⟨h11,h⟩|⟨h11,h⟩
 ·obtain ⟨x4,h12,h⟩:=Qae h
  obtain ⟨r1,h13,h⟩:=Qae h
  rcases Qaj h with ⟨h14,h⟩|⟨h14,h⟩
  ·obtain ⟨r2,h15,h⟩:=Qae h
   rcases Qaj h with ⟨h16,h⟩|⟨h16,h⟩
   ·obtain rfl:=(hE _ (oJ h):_=rv)
    exact gr 14 [] [bT h11,cE QaC.enc h12,oO (zL 0),oO (lT 0 2),cC (QeQ h13),rp 2 (bT h14),oO (zL 1),oO (lT 1 2),rp 2 (bT h14),cC (QeQ h15),bT h14,bT h16]
   ·exact gn 16 [1,2,5,47,48,49] [0] [bT h11,cE QaC.enc h12,oO (zL 0),oO (lT 0 2),cC (QeQ h13),rp 2 (bT h14),oO (zL 1),oO (lT 1 2),rp 2 (bT h14),cC (QeQ h15),bT h14,bF h16] (hI _ (oJ h))
  ·exact gn 16 [1,2,5,47,48,49] [0] [bT h11,cE QaC.enc h12,oO (zL 0),oO (lT 0 2),cC (QeQ h13),rp 5 (bF h14),fF] (hI _ (oJ h))
 ·exact gn 5 [1,2,5] [0] [bF h11] (hE _ (oJ h))
theorem Qs6 (Γ:Gam) (rv:Int) {x0 set_ r} {s:Int} {e:(Unit)⊕(Int)} (h:loopF (fun s=>Qbf x0 set_ r s) s=some e) (hD:sel e (fun e=>Qoe Γ rv x0 set_ r) (fun e=>e=rv)):Qpi Γ rv x0 set_ r s:=by
 refine QaD (C:=fun (s:Int)=>Qpi Γ rv x0 set_ r s) (D:=fun (e:(Unit)⊕(Int))=>sel e (fun e=>Qoe Γ rv x0 set_ r) (fun e=>e=rv)) ?_ h hD
 clear h hD s e
 intro v3 z_ h hI hE
 replace h:Qbf x0 set_ r v3=_:=h
 unfold Qbf at h
 rcases Qaj h with ⟨h18,h⟩|⟨h18,h⟩
 ·obtain ⟨x5,h19,h⟩:=Qae h
  obtain ⟨r3,h20,h⟩:=Qae h
  rcases Qaj h with ⟨h21,h⟩|⟨h21,h⟩
  ·obtain ⟨r4,h22,h⟩:=Qae h
   rcases Qaj h with ⟨h23,h⟩|⟨h23,h⟩
   ·exact gn 16 [1,2,5,65,66,67] [0] [bT h18,cE QaC.enc h19,oO (zL 1),oO (lT 1 2),cC (QeQ h20),rp 2 (bT h21),oO (zL 0),oO (lT 0 2),rp 2 (bT h21),cC (QeQ h22),rp 2 (bT h21),nF h23] (hI _ (oJ h))
   ·obtain rfl:=(hE _ (oJ h):_=rv)
    exact gr 14 [] [bT h18,cE QaC.enc h19,oO (zL 1),oO (lT 1 2),cC (QeQ h20),rp 2 (bT h21),oO (zL 0),oO (lT 0 2),rp 2 (bT h21),cC (QeQ h22),rp 2 (bT h21),nT h23]
  ·exact gn 16 [1,2,5,65,66,67] [0] [bT h18,cE QaC.enc h19,oO (zL 1),oO (lT 1 2),cC (QeQ h20),rp 6 (bF h21),fF] (hI _ (oJ h))
 ·exact gn 5 [2,5] [0] [bF h18] (hE _ (oJ h))
theorem Qs7 (Γ:Gam) (rv:Int) {r r5} {s:Int} {e:(Unit)⊕(Int)} (h:loopF (fun s=>Qbb r r5 s) s=some e) (hD:sel e (fun e=>Qof Γ rv r r5) (fun e=>e=rv)):Qpj Γ rv r r5 s:=by
 refine QaD (C:=fun (s:Int)=>Qpj Γ rv r r5 s) (D:=fun (e:(Unit)⊕(Int))=>sel e (fun e=>Qof Γ rv r r5) (fun e=>e=rv)) ?_ h hD
 clear h hD s e
 intro v4 z_ h hI hE
 replace h:Qbb r r5 v4=_:=h
 unfold Qbb at h
 rcases Qaj h with ⟨h26,h⟩|⟨h26,h⟩
 ·obtain ⟨x6,h27,h⟩:=Qae h
  obtain ⟨x7,h28,h⟩:=Qae h
  obtain ⟨r6,h29,h⟩:=Qae h
  rcases Qaj h with ⟨h30,h⟩|⟨h30,h⟩
  ·obtain rfl:=(hE _ (oJ h):_=rv)
   exact gr 14 [] [bT h26,cE e_i64 h27,cE e_i64 h28,cC (QeQ h29),bT h30]
  ·exact gn 16 [14,89,90,91] [] [bT h26,cE e_i64 h27,cE e_i64 h28,cC (QeQ h29),bF h30] (hI _ (oJ h))
 ·exact gn 5 [] [] [bF h26] (hE _ (oJ h))
theorem Qrf {x0 set_} {rv:Int} (h:QgG x0 set_=some rv):AFn Tryz.prog 53 [.agg (Qac.enc x0),.one (lI set_)] [] (one (lI rv)) []:=by
 refine QaM Tryz.func53 (by kernel_rfl) (by kernel_rfl) (fun Γ=>?_)
 unfold QgG at h
 rcases Qaj h with ⟨h0,h⟩|⟨h0,h⟩
 ·obtain rfl:=Option.some.inj h
  exact gr 8 [] [bT h0]
 ·obtain ⟨r,h1,h⟩:=Qae h
  obtain ⟨e0,h5,h⟩:=Qae h
  refine gn 14 [1,2,5,21,22,23] [0] [bF h0,cC (QoA h1),nL e_i64 r] (Qs3 Γ rv h5 ?_)
  rcases e0 with e0|e0
  ·replace h:(bnd (loopF (fun s=>Qbv x0 set_ r s) 0) (fun e=>sel e (fun (_:Unit)=>bnd (loopF (fun s=>Qbp x0 set_ r s) 0) (fun e=>sel e (fun (_:Unit)=>bnd (loopF (fun s=>Qbf x0 set_ r s) 0) (fun e=>sel e (fun (_:Unit)=>bnd (QgX (lenI x0.orders) x0.before) fun r5=>bnd (loopF (fun s=>Qbb r r5 s) 0) (fun e=>sel e (fun (_:Unit)=>some 0) (fun r7=>some r7))) (fun r8=>some r8))) (fun r9=>some r9))) (fun r10=>some r10)):Option Int)=some _:=h
   obtain ⟨e1,h10,h⟩:=Qae h
   refine gn 5 [1,2,5,33,34,35] [0] [nL e_i64 r] (Qs4 Γ rv h10 ?_)
   rcases e1 with e1|e1
   ·replace h:(bnd (loopF (fun s=>Qbp x0 set_ r s) 0) (fun e=>sel e (fun (_:Unit)=>bnd (loopF (fun s=>Qbf x0 set_ r s) 0) (fun e=>sel e (fun (_:Unit)=>bnd (QgX (lenI x0.orders) x0.before) fun r5=>bnd (loopF (fun s=>Qbb r r5 s) 0) (fun e=>sel e (fun (_:Unit)=>some 0) (fun r7=>some r7))) (fun r8=>some r8))) (fun r9=>some r9)):Option Int)=some _:=h
    obtain ⟨e2,h17,h⟩:=Qae h
    refine gn 5 [1,2,5,47,48,49] [0] [nL QaC.enc x0.apart] (Qs5 Γ rv h17 ?_)
    rcases e2 with e2|e2
    ·replace h:(bnd (loopF (fun s=>Qbf x0 set_ r s) 0) (fun e=>sel e (fun (_:Unit)=>bnd (QgX (lenI x0.orders) x0.before) fun r5=>bnd (loopF (fun s=>Qbb r r5 s) 0) (fun e=>sel e (fun (_:Unit)=>some 0) (fun r7=>some r7))) (fun r8=>some r8)):Option Int)=some _:=h
     obtain ⟨e3,h24,h⟩:=Qae h
     refine gn 5 [1,2,5,65,66,67] [0] [nL QaC.enc x0.before] (Qs6 Γ rv h24 ?_)
     rcases e3 with e3|e3
     ·replace h:(bnd (QgX (lenI x0.orders) x0.before) fun r5=>bnd (loopF (fun s=>Qbb r r5 s) 0) (fun e=>sel e (fun (_:Unit)=>some 0) (fun r7=>some r7)):Option Int)=some _:=h
      obtain ⟨r5,h25,h⟩:=Qae h
      obtain ⟨e4,h31,h⟩:=Qae h
      refine gn 7 [14,89,90,91] [] [nL Qah.enc x0.orders,cC (QvF h25),nL e_i64 r] (Qs7 Γ rv h31 ?_)
      rcases e4 with e4|e4
      ·replace h:(some 0:Option Int)=some _:=h
       obtain rfl:=Option.some.inj h
       exact gr 2 [] []
      ·obtain ⟨r7,rfl⟩:∃ x,x=e4:=⟨_,rfl⟩
       replace h:(some r7:Option Int)=some _:=h
       exact Option.some.inj h
     ·obtain ⟨r8,rfl⟩:∃ x,x=e3:=⟨_,rfl⟩
      replace h:(some r8:Option Int)=some _:=h
      exact Option.some.inj h
    ·obtain ⟨r9,rfl⟩:∃ x,x=e2:=⟨_,rfl⟩
     replace h:(some r9:Option Int)=some _:=h
     exact Option.some.inj h
   ·obtain ⟨r10,rfl⟩:∃ x,x=e1:=⟨_,rfl⟩
    replace h:(some r10:Option Int)=some _:=h
    exact Option.some.inj h
  ·obtain ⟨r11,rfl⟩:∃ x,x=e0:=⟨_,rfl⟩
   replace h:(some r11:Option Int)=some _:=h
   exact Option.some.inj h
def QeR (Γ:Gam) (rv:Int) (cf:Cf):Prop:=Go Tryz.prog Tryz.f184 [] Γ (one (lI rv)) [] cf
def Qd0 (Γ:Gam) (rv:Int) (s0:List Qal) (v:Qal) (v1:Int):Prop:=QeR Γ rv ⟨[.c 52,.l 52,.b 0,.c 7],⟨19,[vL 0 2 s0 Qal.enc,vP 3 0 2,vI 7 (lenI s0),vI 8 v1],[oX 2 144 (Qal.enc v)]⟩⟩
def QdV (Γ:Gam) (rv:Int) (s0:List Qal) (v:Qal):Prop:=QeR Γ rv ⟨[.c 7],⟨19,[],[]⟩⟩
theorem Qhb (Γ:Gam) (rv:Int) {s0 v} {s:Int} {e:(Unit)⊕(Int)} (h:loopF (fun s=>QaP s0 v s) s=some e) (hD:sel e (fun e=>QdV Γ rv s0 v) (fun e=>e=rv)):Qd0 Γ rv s0 v s:=by
 refine QaD (C:=fun (s:Int)=>Qd0 Γ rv s0 v s) (D:=fun (e:(Unit)⊕(Int))=>sel e (fun e=>QdV Γ rv s0 v) (fun e=>e=rv)) ?_ h hD
 clear h hD s e
 intro v1 z_ h hI hE
 replace h:QaP s0 v v1=_:=h
 unfold QaP at h
 rcases Qaj h with ⟨h0,h⟩|⟨h0,h⟩
 ·obtain ⟨x0,h1,h⟩:=Qae h
  rcases Qaj h with ⟨h2,h⟩|⟨h2,h⟩
  ·obtain rfl:=(hE _ (oJ h):_=rv)
   exact gr 14 [] [bT h0,hH (.draw 6 []),cE Qal.enc h1,bT h2]
  ·exact gn 16 [0,3,7,8] [0] [bT h0,hH (.draw 6 []),cE Qal.enc h1,bF h2] (hI _ (oJ h))
 ·exact gn 5 [] [] [bF h0] (hE _ (oJ h))
theorem QhZ {s0 v} {rv:Int} (h:QbC s0 v=some rv):AFn Tryz.prog 184 [.one (lL 2 s0 Qal.enc),.agg (Qal.enc v)] [] (one (lI rv)) []:=by
 refine QaM Tryz.func184 (by kernel_rfl) (by kernel_rfl) (fun Γ=>?_)
 unfold QbC at h
 obtain ⟨e0,h3,h⟩:=Qae h
 refine gn 7 [0,3,7,8] [0] [nL Qal.enc s0] (Qhb Γ rv h3 ?_)
 rcases e0 with e0|e0
 ·replace h:(some (-1):Option Int)=some _:=h
  obtain rfl:=Option.some.inj h
  exact gr 2 [] []
 ·obtain ⟨r,rfl⟩:∃ x,x=e0:=⟨_,rfl⟩
  replace h:(some r:Option Int)=some _:=h
  exact Option.some.inj h
theorem QdT {s0 v} {rv:Bool} (h:Qb0 s0 v=some rv):AFn Tryz.prog 136 [.one (lL 2 s0 Qal.enc),.agg (Qal.enc v)] [] (one (.bool rv)) []:=by
 refine QaM Tryz.func136 (by kernel_rfl) (by kernel_rfl) (fun Γ=>?_)
 unfold Qb0 at h
 obtain ⟨r,h0,h⟩:=Qae h
 obtain rfl:=Option.some.inj h
 exact gr 4 [] [cC (QhZ h0)]
theorem Qjn {l s0} {rv:List Qal} (h:QgC l s0=some rv):AFn Tryz.prog 94 [.one (lO 0 2 l Qal.enc),.agg (Qal.enc s0)] [bS 2 144 l Qal.enc] (one (lO 0 2 rv Qal.enc)) [oS 2 144 rv Qal.enc]:=by
 refine QaM Tryz.func94 (by kernel_rfl) (by kernel_rfl) (fun Γ=>?_)
 unfold QgC at h
 obtain ⟨r,h0,h⟩:=Qae h
 rcases Qaj h with ⟨h1,h⟩|⟨h1,h⟩
 ·obtain rfl:=Option.some.inj h
  exact gr 8 [0] [eL l Qal.enc,cC (QdT h0),bT h1]
 ·obtain ⟨h2,h⟩:=Qax h
  obtain rfl:=Option.some.inj h
  exact gr 9 [3] [eL l Qal.enc,cC (QdT h0),bF h1,oO (Eq.refl ([s0].map Qal.enc).length),aO Qal.enc h2]
theorem Qrn {s0 arrive} {rv:Int×Int} (h:QlJ s0 arrive=some rv):AFn Tryz.prog 135 [.agg (Qau.enc s0),.one (lI arrive)] [] (.tup [.one (lI rv.1),.one (lI rv.2)]) []:=by
 refine QaM Tryz.func135 (by kernel_rfl) (by kernel_rfl) (fun Γ=>?_)
 unfold QlJ at h
 obtain ⟨r,h0,h⟩:=Qae h
 rcases Qaj h with ⟨h1,h⟩|⟨h1,h⟩
 ·obtain rfl:=Option.some.inj h
  exact gr 10 [] [cC (QkF h0),bT h1]
 ·obtain rfl:=Option.some.inj h
  exact gr 11 [] [cC (QkF h0),bF h1]
theorem QiJ {s0} {rv:List Qaa} (h:QbZ s0=some rv):AFn Tryz.prog 93 [.one (lL 2 s0 Qaa.enc)] [] (one (.sl true 2 (rv.map Qaa.enc))) []:=by
 refine QaM Tryz.func93 (by kernel_rfl) (by kernel_rfl) (fun Γ=>?_)
 unfold QbZ at h
 obtain ⟨l,h0,h⟩:=Qae h
 obtain rfl:=Option.some.inj h
 exact gr 4 [] [rp 2 (nL Qaa.enc s0),hH (.rows (l.map Qaa.enc)),oO (Eq.refl (lenI s0)),oO (sl1 h0),oO (sl2 h0),oO (sl3 Qaa.enc h0),oO (Int.le_refl (lenI s0)),oO (sl3 Qaa.enc h0),oO (sl6 Qaa.enc h0)]
theorem Qkk {best some_ next_} {rv:Qag} (h:Qdu best some_ next_=some rv):AFn Tryz.prog 90 [.agg (Qag.enc best),.one (.bool some_),.agg (Qag.enc next_),.one (.fn (.func 34) [])] [] (gG [lI rv.type_,lI rv.set_,lI rv.price,lI rv.route.type_,lI rv.route.start,lL 1 rv.route.rests QaQ,lL 2 rv.route.visits Qaa.enc]) []:=by
 refine QaM Tryz.func90 (by kernel_rfl) (by kernel_rfl) (fun Γ=>?_)
 unfold Qdu at h
 rcases Qaj h with ⟨h0,h⟩|⟨h0,h⟩
 ·obtain ⟨r,h1,h⟩:=Qae h
  rcases Qaj h with ⟨h2,h⟩|⟨h2,h⟩
  ·obtain rfl:=Option.some.inj h
   exact gr 8 [] [rp 4 (nF h0),cC (Qjm h1),nF h0,bT h2]
  ·obtain rfl:=Option.some.inj h
   exact gr 9 [] [rp 4 (nF h0),cC (Qjm h1),nF h0,bF h2]
 ·obtain rfl:=Option.some.inj h
  exact gr 8 [] [rp 5 (nT h0),tT]
theorem Qpv {s0 l depart driven} {rv:List Qal×Qaq} (h:QeT s0 l depart driven=some rv):AFn Tryz.prog 57 [.one (.op 0 17 0 0),.one (lO 1 2 l Qal.enc),.one (lI depart),.one (lI driven)] [bX 17 89 (Qaq.enc s0),bS 2 144 l Qal.enc] (one (lO 1 2 rv.1 Qal.enc)) [oX 17 89 [lL 1 rv.2.x.net.places e_str,lL 6 rv.2.x.net.arcs Qas.enc,lL 14 rv.2.x.types Qai.enc,lL 16 rv.2.x.orders Qah.enc,lL 2 rv.2.x.apart QaC.enc,lL 2 rv.2.x.before QaC.enc,lI rv.2.kind,lI rv.2.set_,lI rv.2.total,lI rv.2.best.type_,lI rv.2.best.set_,lI rv.2.best.price,lI rv.2.best.route.type_,lI rv.2.best.route.start,lL 1 rv.2.best.route.rests QaQ,lL 2 rv.2.best.route.visits Qaa.enc,.bool rv.2.found],oS 2 144 rv.1 Qal.enc]:=by
 refine QaM Tryz.func57 (by kernel_rfl) (by kernel_rfl) (fun Γ=>?_)
 unfold QeT at h
 obtain ⟨r,h0,h⟩:=Qae h
 obtain ⟨x0,h1,h⟩:=Qae h
 obtain ⟨r1,h2,h⟩:=Qae h
 obtain rfl:=Option.some.inj h
 exact gr 6 [0,3] [cI [1] (Qjn h0),hH (.draw 18 [(2,16)]),cE Qai.enc h1,cI [2] (Qjn h2)]
def QnK (Γ:Gam) (rv:List Qal×Qaq) (cf:Cf):Prop:=Go Tryz.prog Tryz.f92 [0] Γ (one (lL 2 rv.1 Qal.enc)) [oX 17 89 [lL 1 rv.2.x.net.places e_str,lL 6 rv.2.x.net.arcs Qas.enc,lL 14 rv.2.x.types Qai.enc,lL 16 rv.2.x.orders Qah.enc,lL 2 rv.2.x.apart QaC.enc,lL 2 rv.2.x.before QaC.enc,lI rv.2.kind,lI rv.2.set_,lI rv.2.total,lI rv.2.best.type_,lI rv.2.best.set_,lI rv.2.best.price,lI rv.2.best.route.type_,lI rv.2.best.route.start,lL 1 rv.2.best.route.rests QaQ,lL 2 rv.2.best.route.visits Qaa.enc,.bool rv.2.found]] cf
def QkG (Γ:Gam) (rv:List Qal×Qaq) (from_:Int) (l:List Qal) (stop:Qau) (x0:Qai) (l1:List Qal) (x1:Qaq) (v:Int):Prop:=QnK Γ rv ⟨[.c 244,.l 244,.b 0,.c 31],⟨86,[vP 0 0 17,vI 1 from_,vP 7 1 4,vP 9 2 14,vO 10 3 2 l1 Qal.enc,vL 28 2 l Qal.enc,vI 29 (lenI l),vI 30 v],[oX 17 89 (Qaq.enc x1),oX 4 122 (Qau.enc stop),oX 14 94 (Qai.enc x0),oS 2 144 l1 Qal.enc]⟩⟩
def QjW (Γ:Gam) (rv:List Qal×Qaq) (from_:Int) (l:List Qal) (stop:Qau) (x0:Qai) (l2:List Qal) (x3:Qaq):Prop:=QnK Γ rv ⟨[.c 31],⟨86,[vO 10 1 2 l2 Qal.enc],[oX 17 89 (Qaq.enc x3),oS 2 144 l2 Qal.enc]⟩⟩
theorem Qqd (Γ:Gam) (rv:List Qal×Qaq) {from_ l stop x0} {s:List Qal×Qaq×Int} {e:List Qal×Qaq} (h:loopF (fun s=>Qd1 from_ l stop x0 s.1 s.2.1 s.2.2) s=some e) (hD:QjW Γ rv from_ l stop x0 e.1 e.2):QkG Γ rv from_ l stop x0 s.1 s.2.1 s.2.2:=by
 refine QaD (C:=fun (s:List Qal×Qaq×Int)=>QkG Γ rv from_ l stop x0 s.1 s.2.1 s.2.2) (D:=fun (e:List Qal×Qaq)=>QjW Γ rv from_ l stop x0 e.1 e.2) ?_ h hD
 clear h hD s e
 rintro ⟨l1,x1,v⟩ z_ h hI hE
 replace h:Qd1 from_ l stop x0 l1 x1 v=_:=h
 unfold Qd1 at h
 rcases Qaj h with ⟨h1,h⟩|⟨h1,h⟩
 ·obtain ⟨x2,h2,h⟩:=Qae h
  obtain ⟨r,h3,h⟩:=Qae h
  rcases Qaj h with ⟨h4,h⟩|⟨h4,h⟩
  ·exact gn 18 [0,1,7,9,10,28,29,30] [0,1,2,3] [bT h1,cE Qal.enc h2,hH (.draw 20 []),cC (QgF h3),rp 11 hP,rp 9 (oI ((neI r.2.2 0)=false)),oR True ((neI r.2.2 0)=false),bT h4] (hI _ (oJ h))
  ·obtain ⟨r1,h5,h⟩:=Qae h
   rcases Qaj h with ⟨h6,h⟩|⟨h6,h⟩
   ·exact gn 25 [0,1,7,9,10,28,29,30] [0,1,2,3] [bT h1,cE Qal.enc h2,hH (.draw 20 []),cC (QgF h3),rp 11 hP,rp 9 (oI ((neI r.2.2 0)=false)),oR True ((neI r.2.2 0)=false),bF h4,cC (Qrn h5),bT h6] (hI _ (oJ h))
   ·obtain ⟨r2,h7,h⟩:=Qae h
    exact gn 27 [0,1,7,9,10,28,29,30] [0,1,2,5] [bT h1,cE Qal.enc h2,hH (.draw 20 []),cC (QgF h3),rp 11 hP,rp 9 (oI ((neI r.2.2 0)=false)),oR True ((neI r.2.2 0)=false),bF h4,cC (Qrn h5),bF h6,cI [0,3] (Qpv h7)] (hI _ (oJ h))
 ·exact gn 5 [10] [0,3] [bF h1] (hE _ (oJ h))
theorem QmO {s0 from_ l stop} {rv:List Qal×Qaq} (h:Qg1 s0 from_ l stop=some rv):AFn Tryz.prog 92 [.one (.op 0 17 0 0),.one (lI from_),.one (lL 2 l Qal.enc),.agg (Qau.enc stop)] [bX 17 89 (Qaq.enc s0)] (one (lL 2 rv.1 Qal.enc)) [oX 17 89 [lL 1 rv.2.x.net.places e_str,lL 6 rv.2.x.net.arcs Qas.enc,lL 14 rv.2.x.types Qai.enc,lL 16 rv.2.x.orders Qah.enc,lL 2 rv.2.x.apart QaC.enc,lL 2 rv.2.x.before QaC.enc,lI rv.2.kind,lI rv.2.set_,lI rv.2.total,lI rv.2.best.type_,lI rv.2.best.set_,lI rv.2.best.price,lI rv.2.best.route.type_,lI rv.2.best.route.start,lL 1 rv.2.best.route.rests QaQ,lL 2 rv.2.best.route.visits Qaa.enc,.bool rv.2.found]]:=by
 refine QaM Tryz.func92 (by kernel_rfl) (by kernel_rfl) (fun Γ=>?_)
 unfold Qg1 at h
 obtain ⟨x0,h0,h⟩:=Qae h
 obtain ⟨e0,h8,h⟩:=Qae h
 refine gn 11 [0,1,7,9,10,28,29,30] [0,1,2,3] [hH (.draw 12 []),cE Qai.enc h0,nL Qal.enc l,hW 3,hH (.adopt 10 2 144)] (Qqd Γ rv h8 ?_)
 obtain ⟨l2,x3⟩:=e0
 replace h:(some (l2,x3):Option (List Qal×Qaq))=some _:=h
 obtain rfl:=Option.some.inj h
 exact gr 2 [0] [hW 4,hH (.frz 1),rp 3 (eL l2 Qal.enc)]
def QoB (Γ:Gam) (rv:Qaq) (cf:Cf):Prop:=Go Tryz.prog Tryz.f56 [0] Γ (.tup []) [oX 17 89 [lL 1 rv.x.net.places e_str,lL 6 rv.x.net.arcs Qas.enc,lL 14 rv.x.types Qai.enc,lL 16 rv.x.orders Qah.enc,lL 2 rv.x.apart QaC.enc,lL 2 rv.x.before QaC.enc,lI rv.kind,lI rv.set_,lI rv.total,lI rv.best.type_,lI rv.best.set_,lI rv.best.price,lI rv.best.route.type_,lI rv.best.route.start,lL 1 rv.best.route.rests QaQ,lL 2 rv.best.route.visits Qaa.enc,.bool rv.found]] cf
def QlV (Γ:Gam) (rv:Qaq) (self:Qaq→(List Qaa)→Int→(List Qal)→Option Qaq) (visits:List Qaa) (from_:Int) (l:List Qal) (r2:List Qaa) (x0:Qaq) (v:Int):Prop:=QoB Γ rv ⟨[.c 28,.l 28,.b 0],⟨114,[vP 0 0 17,vL 1 2 visits Qaa.enc,vI 2 from_,vL 3 2 l Qal.enc,vL 77 2 r2 Qaa.enc,vI 78 (lenI r2),vI 79 v],[oX 17 89 (Qaq.enc x0)]⟩⟩
def QkH (Γ:Gam) (rv:Qaq) (self:Qaq→(List Qaa)→Int→(List Qal)→Option Qaq) (visits:List Qaa) (from_:Int) (l:List Qal) (r2:List Qaa) (x2:Qaq):Prop:=QoB Γ rv ⟨[],⟨114,[],[oX 17 89 (Qaq.enc x2)]⟩⟩
theorem Qqr (Γ:Gam) (rv:Qaq) {self:Qaq→(List Qaa)→Int→(List Qal)→Option Qaq} (hself:∀ {s0:Qaq} {visits:List Qaa} {from_:Int} {l:List Qal} {rv:Qaq},self s0 visits from_ l=some rv→AFn Tryz.prog 56 [.one (.op 0 17 0 0),.one (lL 2 visits Qaa.enc),.one (lI from_),.one (lL 2 l Qal.enc)] [bX 17 89 (Qaq.enc s0)] (.tup []) [oX 17 89 [lL 1 rv.x.net.places e_str,lL 6 rv.x.net.arcs Qas.enc,lL 14 rv.x.types Qai.enc,lL 16 rv.x.orders Qah.enc,lL 2 rv.x.apart QaC.enc,lL 2 rv.x.before QaC.enc,lI rv.kind,lI rv.set_,lI rv.total,lI rv.best.type_,lI rv.best.set_,lI rv.best.price,lI rv.best.route.type_,lI rv.best.route.start,lL 1 rv.best.route.rests QaQ,lL 2 rv.best.route.visits Qaa.enc,.bool rv.found]]) {visits from_ l r2} {s:Qaq×Int} {e:Qaq} (h:loopF (fun s=>Qey self visits from_ l r2 s.1 s.2) s=some e) (hD:QkH Γ rv self visits from_ l r2 e):QlV Γ rv self visits from_ l r2 s.1 s.2:=by
 refine QaD (C:=fun (s:Qaq×Int)=>QlV Γ rv self visits from_ l r2 s.1 s.2) (D:=fun (e:Qaq)=>QkH Γ rv self visits from_ l r2 e) ?_ h hD
 clear h hD s e
 rintro ⟨x0,v⟩ z_ h hI hE
 replace h:Qey self visits from_ l r2 x0 v=_:=h
 unfold Qey at h
 rcases Qaj h with ⟨h5,h⟩|⟨h5,h⟩
 ·obtain ⟨x1,h6,h⟩:=Qae h
  obtain ⟨r3,h7,h⟩:=Qae h
  rcases Qaj h with ⟨h8,h⟩|⟨h8,h⟩
  ·exact gn 18 [0,1,2,3,77,78,79] [0] [bT h5,cE Qaa.enc h6,hH (.draw 13 [(2,11)]),cC (Qlz h7),bT h8] (hI _ (oJ h))
  ·obtain ⟨r4,h9,h⟩:=Qae h
   rcases Qaj h with ⟨h10,h⟩|⟨h10,h⟩
   ·obtain ⟨r5,h11,h⟩:=Qae h
    obtain ⟨h12,h⟩:=Qax h
    obtain ⟨r6,h13,h⟩:=Qae h
    exact gn 25 [0,1,2,3,77,78,79] [0] [bT h5,cE Qaa.enc h6,hH (.draw 13 [(2,11)]),cC (Qlz h7),bF h8,cI [0] (QmO h9),nL Qal.enc r4.1,bT h10,hH (.draw 9 []),cC (QiJ h11),oO (Eq.refl ([x1].map Qaa.enc).length),hH (.rows ((r5++[x1]).map Qaa.enc)),hH (.frz 4),oO (appM Qaa.enc r5 [x1]),oO (neA Qaa.enc r5 [x1] (by simp)),oO (okLe (l:=((r5++[x1]):List Qaa)) Qaa.enc h12),oO (okLe2 (l:=((r5++[x1]):List Qaa)) (b:=16) Qaa.enc (by decide) h12),oO (Eq.refl ((r5++[x1]).map Qaa.enc).length),cI [0] (hself h13)] (hI _ (oJ h))
   ·exact gn 25 [0,1,2,3,77,78,79] [0] [bT h5,cE Qaa.enc h6,hH (.draw 13 [(2,11)]),cC (Qlz h7),bF h8,cI [0] (QmO h9),nL Qal.enc r4.1,bF h10] (hI _ (oJ h))
 ·exact gn 5 [] [0] [bF h5] (hE _ (oJ h))
theorem QrD {self:Qaq→(List Qaa)→Int→(List Qal)→Option Qaq} (hself:∀ {s0:Qaq} {visits:List Qaa} {from_:Int} {l:List Qal} {rv:Qaq},self s0 visits from_ l=some rv→AFn Tryz.prog 56 [.one (.op 0 17 0 0),.one (lL 2 visits Qaa.enc),.one (lI from_),.one (lL 2 l Qal.enc)] [bX 17 89 (Qaq.enc s0)] (.tup []) [oX 17 89 [lL 1 rv.x.net.places e_str,lL 6 rv.x.net.arcs Qas.enc,lL 14 rv.x.types Qai.enc,lL 16 rv.x.orders Qah.enc,lL 2 rv.x.apart QaC.enc,lL 2 rv.x.before QaC.enc,lI rv.kind,lI rv.set_,lI rv.total,lI rv.best.type_,lI rv.best.set_,lI rv.best.price,lI rv.best.route.type_,lI rv.best.route.start,lL 1 rv.best.route.rests QaQ,lL 2 rv.best.route.visits Qaa.enc,.bool rv.found]]) {s0 visits from_ l} {rv:Qaq} (h:Qgf self s0 visits from_ l=some rv):AFn Tryz.prog 56 [.one (.op 0 17 0 0),.one (lL 2 visits Qaa.enc),.one (lI from_),.one (lL 2 l Qal.enc)] [bX 17 89 (Qaq.enc s0)] (.tup []) [oX 17 89 [lL 1 rv.x.net.places e_str,lL 6 rv.x.net.arcs Qas.enc,lL 14 rv.x.types Qai.enc,lL 16 rv.x.orders Qah.enc,lL 2 rv.x.apart QaC.enc,lL 2 rv.x.before QaC.enc,lI rv.kind,lI rv.set_,lI rv.total,lI rv.best.type_,lI rv.best.set_,lI rv.best.price,lI rv.best.route.type_,lI rv.best.route.start,lL 1 rv.best.route.rests QaQ,lL 2 rv.best.route.visits Qaa.enc,.bool rv.found]]:=by
 refine QaM Tryz.func56 (by kernel_rfl) (by kernel_rfl) (fun Γ=>?_)
 unfold Qgf at h
 rcases Qaj h with ⟨h0,h⟩|⟨h0,h⟩
 ·obtain ⟨r,h1,h⟩:=Qae h
  rcases Qaj h with ⟨h2,h⟩|⟨h2,h⟩
  ·obtain ⟨r1,h3,h⟩:=Qae h
   obtain rfl:=Option.some.inj h
   exact gr 17 [0] [nL Qaa.enc visits,bT h0,hW 11,hH (.nilB 1 2 1),hH (.draw 11 []),cC (Qid h1),bT h2,hH (.draw 12 []),hH (.draw 13 []),cC (Qkk h3)]
  ·obtain rfl:=Option.some.inj h
   exact gr 13 [0] [nL Qaa.enc visits,bT h0,hW 11,hH (.nilB 1 2 1),hH (.draw 11 []),cC (Qid h1),bF h2]
 ·obtain ⟨r2,h4,h⟩:=Qae h
  obtain ⟨e0,h14,h⟩:=Qae h
  refine gn 9 [0,1,2,3,77,78,79] [0] [nL Qaa.enc visits,bF h0,hH (.draw 12 []),cC (Qnn h4),nL Qaa.enc r2] (Qqr Γ rv hself h14 ?_)
  obtain ⟨x2,rfl⟩:∃ x,x=e0:=⟨_,rfl⟩
  replace h:(some x2:Option Qaq)=some _:=h
  obtain rfl:=Option.some.inj h
  exact gr 0 [0] []
theorem QmQ:∀ n,∀ {s0:Qaq} {visits:List Qaa} {from_:Int} {l:List Qal} {rv:Qaq},Qd2 n s0 visits from_ l=some rv→AFn Tryz.prog 56 [.one (.op 0 17 0 0),.one (lL 2 visits Qaa.enc),.one (lI from_),.one (lL 2 l Qal.enc)] [bX 17 89 (Qaq.enc s0)] (.tup []) [oX 17 89 [lL 1 rv.x.net.places e_str,lL 6 rv.x.net.arcs Qas.enc,lL 14 rv.x.types Qai.enc,lL 16 rv.x.orders Qah.enc,lL 2 rv.x.apart QaC.enc,lL 2 rv.x.before QaC.enc,lI rv.kind,lI rv.set_,lI rv.total,lI rv.best.type_,lI rv.best.set_,lI rv.best.price,lI rv.best.route.type_,lI rv.best.route.start,lL 1 rv.best.route.rests QaQ,lL 2 rv.best.route.visits Qaa.enc,.bool rv.found]]
 | 0=>fun h=>nomatch h
 | n+1=>fun h=>QrD (QmQ n) h
theorem QnL:∀ {s0:Qaq} {visits:List Qaa} {from_:Int} {l:List Qal} {rv:Qaq},QmP s0 visits from_ l=some rv→AFn Tryz.prog 56 [.one (.op 0 17 0 0),.one (lL 2 visits Qaa.enc),.one (lI from_),.one (lL 2 l Qal.enc)] [bX 17 89 (Qaq.enc s0)] (.tup []) [oX 17 89 [lL 1 rv.x.net.places e_str,lL 6 rv.x.net.arcs Qas.enc,lL 14 rv.x.types Qai.enc,lL 16 rv.x.orders Qah.enc,lL 2 rv.x.apart QaC.enc,lL 2 rv.x.before QaC.enc,lI rv.kind,lI rv.set_,lI rv.total,lI rv.best.type_,lI rv.best.set_,lI rv.best.price,lI rv.best.route.type_,lI rv.best.route.start,lL 1 rv.best.route.rests QaQ,lL 2 rv.best.route.visits Qaa.enc,.bool rv.found]]:=QmQ _
theorem Qi3 {s0 depart driven} {rv:List Qal×Qaq} (h:Qep s0 depart driven=some rv):AFn Tryz.prog 57 [.one (.op 0 17 0 0),.one (.nils),.one (lI depart),.one (lI driven)] [bX 17 89 (Qaq.enc s0)] (one (lL 2 rv.1 Qal.enc)) [oX 17 89 [lL 1 rv.2.x.net.places e_str,lL 6 rv.2.x.net.arcs Qas.enc,lL 14 rv.2.x.types Qai.enc,lL 16 rv.2.x.orders Qah.enc,lL 2 rv.2.x.apart QaC.enc,lL 2 rv.2.x.before QaC.enc,lI rv.2.kind,lI rv.2.set_,lI rv.2.total,lI rv.2.best.type_,lI rv.2.best.set_,lI rv.2.best.price,lI rv.2.best.route.type_,lI rv.2.best.route.start,lL 1 rv.2.best.route.rests QaQ,lL 2 rv.2.best.route.visits Qaa.enc,.bool rv.2.found]]:=by
 refine QaM Tryz.func57 (by kernel_rfl) (by kernel_rfl) (fun Γ=>?_)
 unfold Qep at h
 obtain ⟨r,h0,h⟩:=Qae h
 obtain ⟨x0,h1,h⟩:=Qae h
 obtain ⟨r1,h2,h⟩:=Qae h
 obtain rfl:=Option.some.inj h
 exact gr 6 [0] [hW 9,hH (.adopt 9 2 144),cI [1] (Qjn h0),hH (.draw 17 [(2,16)]),cE Qai.enc h1,cI [2] (Qjn h2),hW 1,hH (.frz 3),rp 2 (eL r1 Qal.enc)]
def QvN (Γ:Gam) (rv:Qag×Int) (cf:Cf):Prop:=Go Tryz.prog Tryz.f24 [] Γ (.tup [.agg [lI rv.1.type_,lI rv.1.set_,lI rv.1.price,lI rv.1.route.type_,lI rv.1.route.start,lL 1 rv.1.route.rests QaQ,lL 2 rv.1.route.visits Qaa.enc],.one (lI rv.2)]) [] cf
def QsG (Γ:Gam) (rv:Qag×Int) (x0:Qac) (kind:Int) (set_:Int) (r1:List Int) (total:Int) (v:Int):Prop:=QvN Γ rv ⟨[.c 500,.l 500,.b 0,.c 63],⟨87,[vI 1 kind,vP 3 0 6,vP 6 1 7,vP 8 2 17,vL 45 1 r1 e_i64,vI 46 (lenI r1),vI 47 v],[oX 6 30 (Qac.enc x0),oX 7 45 [lI 0,lI 0,lI 0,lI 0,lI 0,.nils,.nils],oX 17 89 [lL 1 x0.net.places e_str,lL 6 x0.net.arcs Qas.enc,lL 14 x0.types Qai.enc,lL 16 x0.orders Qah.enc,lL 2 x0.apart QaC.enc,lL 2 x0.before QaC.enc,lI kind,lI set_,lI total,lI 0,lI 0,lI 0,lI 0,lI 0,.nils,.nils,.bool false]]⟩⟩
def QrY (Γ:Gam) (rv:Qag×Int) (x0:Qac) (kind:Int) (set_:Int) (r1:List Int) (total1:Int):Prop:=QvN Γ rv ⟨[.c 63],⟨87,[vI 1 kind,vP 3 0 6,vP 6 1 7,vP 8 2 17],[oX 6 30 (Qac.enc x0),oX 7 45 [lI 0,lI 0,lI 0,lI 0,lI 0,.nils,.nils],oX 17 89 [lL 1 x0.net.places e_str,lL 6 x0.net.arcs Qas.enc,lL 14 x0.types Qai.enc,lL 16 x0.orders Qah.enc,lL 2 x0.apart QaC.enc,lL 2 x0.before QaC.enc,lI kind,lI set_,lI total1,lI 0,lI 0,lI 0,lI 0,lI 0,.nils,.nils,.bool false]]⟩⟩
theorem Qvw (Γ:Gam) (rv:Qag×Int) {x0 kind set_ r1} {s:Int×Int} {e:Int} (h:loopF (fun s=>Qf2 x0 kind set_ r1 s.1 s.2) s=some e) (hD:QrY Γ rv x0 kind set_ r1 e):QsG Γ rv x0 kind set_ r1 s.1 s.2:=by
 refine QaD (C:=fun (s:Int×Int)=>QsG Γ rv x0 kind set_ r1 s.1 s.2) (D:=fun (e:Int)=>QrY Γ rv x0 kind set_ r1 e) ?_ h hD
 clear h hD s e
 rintro ⟨total,v⟩ z_ h hI hE
 replace h:Qf2 x0 kind set_ r1 total v=_:=h
 unfold Qf2 at h
 rcases Qaj h with ⟨h6,h⟩|⟨h6,h⟩
 ·obtain ⟨x1,h7,h⟩:=Qae h
  obtain ⟨r2,h8,h⟩:=Qae h
  exact gn 13 [1,3,6,8,45,46,47] [0,1,2] [bT h6,cE e_i64 h7,hH (.draw 12 []),cC (Qhj h8),nL Qaa.enc r2] (hI _ (oJ h))
 ·exact gn 5 [1,3,6,8] [0,1,2] [bF h6] (hE _ (oJ h))
theorem QdB {x0 kind set_} {rv:Qag×Int} (h:QnJ x0 kind set_=some rv):AFn Tryz.prog 24 [.agg (Qac.enc x0),.one (lI kind),.one (lI set_)] [] (.tup [.agg [lI rv.1.type_,lI rv.1.set_,lI rv.1.price,lI rv.1.route.type_,lI rv.1.route.start,lL 1 rv.1.route.rests QaQ,lL 2 rv.1.route.visits Qaa.enc],.one (lI rv.2)]) []:=by
 refine QaM Tryz.func24 (by kernel_rfl) (by kernel_rfl) (fun Γ=>?_)
 unfold QnJ at h
 rcases Qaj h with ⟨h0,h⟩|⟨h0,h⟩
 ·obtain rfl:=Option.some.inj h
  exact gr 8 [] [rp 4 hP,rp 2 (oI ((ltI kind 0)=false)),nL Qai.enc x0.types,rp 5 hP,rp 2 (oI ((ltI kind 0)=false)),oR True ((ltI kind 0)=false),oI (((ltI kind 0)||(geI kind (lenI x0.types)))=false),oR True (((ltI kind 0)||(geI kind (lenI x0.types)))=false),rp 7 (bT h0),tT,hW 5,hH (.nilB 1 5 1),hH (.nilB 1 6 2)]
 ·obtain ⟨h1,h⟩:=Qax h
  rcases Qaj h with ⟨h2,h⟩|⟨h2,h⟩
  ·obtain rfl:=Option.some.inj h
   exact gr 8 [] [rp 4 hP,rp 2 (oI ((ltI kind 0)=false)),nL Qai.enc x0.types,rp 5 hP,rp 2 (oI ((ltI kind 0)=false)),oR True ((ltI kind 0)=false),oI (((ltI kind 0)||(geI kind (lenI x0.types)))=false),oR True (((ltI kind 0)||(geI kind (lenI x0.types)))=false),rp 4 (bF h0),nL Qah.enc x0.orders,bF h0,oO (h1),bF h0,bF h0,bT h2,hW 5,hH (.nilB 1 5 1),hH (.nilB 1 6 2)]
  ·obtain ⟨r,h3,h⟩:=Qae h
   rcases Qaj h with ⟨h4,h⟩|⟨h4,h⟩
   ·obtain rfl:=Option.some.inj h
    exact gr 13 [] [rp 4 hP,rp 2 (oI ((ltI kind 0)=false)),nL Qai.enc x0.types,rp 5 hP,rp 2 (oI ((ltI kind 0)=false)),oR True ((ltI kind 0)=false),oI (((ltI kind 0)||(geI kind (lenI x0.types)))=false),oR True (((ltI kind 0)||(geI kind (lenI x0.types)))=false),rp 4 (bF h0),nL Qah.enc x0.orders,bF h0,oO (h1),bF h0,bF h0,bF h2,cC (Qrf h3),bT h4,hW 5,hH (.nilB 1 5 1),hH (.nilB 1 6 2)]
   ·obtain ⟨r1,h5,h⟩:=Qae h
    obtain ⟨e0,h9,h⟩:=Qae h
    refine gn 19 [1,3,6,8,45,46,47] [0,1,2] [rp 4 hP,rp 2 (oI ((ltI kind 0)=false)),nL Qai.enc x0.types,rp 5 hP,rp 2 (oI ((ltI kind 0)=false)),oR True ((ltI kind 0)=false),oI (((ltI kind 0)||(geI kind (lenI x0.types)))=false),oR True (((ltI kind 0)||(geI kind (lenI x0.types)))=false),rp 4 (bF h0),nL Qah.enc x0.orders,bF h0,oO (h1),bF h0,bF h0,bF h2,cC (Qrf h3),bF h4,cC (QoA h5),nL e_i64 r1] (Qvw Γ rv h9 ?_)
    obtain ⟨total1,rfl⟩:∃ x,x=e0:=⟨_,rfl⟩
    replace h:(bnd (getI x0.types kind) fun x2=>bnd (Qep (Qaq.mk x0 kind set_ total1 (Qag.mk 0 0 0 (Qad.mk 0 0 [] [])) false) x2.open_ 0) fun r3=>bnd (QmP r3.2 [] x2.from_ r3.1) fun r4=>br r4.found (some (r4.best,0)) (some ((Qag.mk 0 0 0 (Qad.mk 0 0 [] [])),24)):Option (Qag×Int))=some _:=h
    obtain ⟨x2,h10,h⟩:=Qae h
    obtain ⟨r3,h11,h⟩:=Qae h
    obtain ⟨r4,h12,h⟩:=Qae h
    rcases Qaj h with ⟨h13,h⟩|⟨h13,h⟩
    ·obtain rfl:=Option.some.inj h
     exact gr 11 [] [cE Qai.enc h10,hW 4,hH (.nilB 2 14 1),hH (.nilB 2 15 2),hH (.draw 7 [(2,6)]),cI [2] (Qi3 h11),cI [2] (AFn.nilA 1 2 (QnL h12)),nF h13]
    ·obtain rfl:=Option.some.inj h
     exact gr 10 [] [cE Qai.enc h10,hW 4,hH (.nilB 2 14 1),hH (.nilB 2 15 2),hH (.draw 7 [(2,6)]),cI [2] (Qi3 h11),cI [2] (AFn.nilA 1 2 (QnL h12)),nT h13,hW 5,hH (.nilB 1 5 1),hH (.nilB 1 6 2)]
theorem QpD {x0 kind set_} {rv:Bool} (h:Qgc x0 kind set_=some rv):AFn Tryz.prog 12 [.agg (Qac.enc x0),.one (lI kind),.one (lI set_)] [] (one (.bool rv)) []:=by
 refine QaM Tryz.func12 (by kernel_rfl) (by kernel_rfl) (fun Γ=>?_)
 unfold Qgc at h
 obtain ⟨r,h0,h⟩:=Qae h
 rcases Qaj h with ⟨h1,h⟩|⟨h1,h⟩
 ·obtain ⟨r1,h2,h⟩:=Qae h
  obtain ⟨r2,h3,h⟩:=Qae h
  rcases Qaj h with ⟨h4,h⟩|⟨h4,h⟩
  ·obtain ⟨r3,h5,h⟩:=Qae h
   rcases Qaj h with ⟨h6,h⟩|⟨h6,h⟩
   ·obtain ⟨r4,h7,h⟩:=Qae h
    obtain rfl:=Option.some.inj h
    exact gr 13 [] [cC (Qhs h0),nF h1,hW 7,hH (.nilS 18 2 1),hH (.nilS 18 3 2),cC (QbX h2),cC (QdB h3),rp 3 (bT h4),cC (Qo7 h5),bT h4,bT h6,cC (QkI h7),bT h6]
   ·obtain rfl:=Option.some.inj h
    exact gr 13 [] [cC (Qhs h0),nF h1,hW 7,hH (.nilS 18 2 1),hH (.nilS 18 3 2),cC (QbX h2),cC (QdB h3),rp 3 (bT h4),cC (Qo7 h5),bT h4,bF h6,bF h6]
  ·obtain rfl:=Option.some.inj h
   exact gr 13 [] [cC (Qhs h0),nF h1,hW 7,hH (.nilS 18 2 1),hH (.nilS 18 3 2),cC (QbX h2),cC (QdB h3),rp 4 (bF h4),fF,fF]
 ·obtain ⟨r5,h8,h⟩:=Qae h
  obtain rfl:=Option.some.inj h
  exact gr 8 [] [cC (Qhs h0),nT h1,cC (QkI h8)]
theorem QdO {x0} {rv:Bool} (h:Qjs x0=some rv):AFn Tryz.prog 22 [.agg (Qac.enc x0)] [] (one (.bool rv)) []:=by
 refine QaM Tryz.func22 (by kernel_rfl) (by kernel_rfl) (fun Γ=>?_)
 unfold Qjs at h
 rcases Qaj h with ⟨h0,h⟩|⟨h0,h⟩
 ·obtain ⟨r,h1,h⟩:=Qae h
  obtain rfl:=Option.some.inj h
  exact gr 4 [] [nL Qah.enc x0.orders,hP,hP,hP,rp 2 (oI ((leI (lenI x0.orders) 3)=true)),nL Qai.enc x0.types,hP,hP,oI ((leI (lenI x0.orders) 3)=true),oR True ((leI (lenI x0.orders) 3)=true),bT h0,bT h0,cC (QnW h1),bT h0,nL Qab.enc r,bT h0,bT h0]
 ·obtain rfl:=Option.some.inj h
  exact gr 4 [] [nL Qah.enc x0.orders,hP,hP,hP,rp 2 (oI ((leI (lenI x0.orders) 3)=true)),nL Qai.enc x0.types,hP,hP,oI ((leI (lenI x0.orders) 3)=true),oR True ((leI (lenI x0.orders) 3)=true),rp 5 (bF h0)]
def QsD (Γ:Gam) (rv:List Qag×Int) (cf:Cf):Prop:=Go Tryz.prog Tryz.f27 [] Γ (.tup [.one (lL 7 rv.1 Qag.enc),.one (lI rv.2)]) [] cf
def QtT (Γ:Gam) (rv:List Qag×Int) (x0:Qac) (l:List Qag) (v:Int) (l1:List Qag) (set_:Int):Prop:=QsD Γ rv ⟨[.c 29900,.l 29900,.b 2,.b 1,.c 935,.l 116,.b 0,.c 15],⟨38,[vP 1 0 6,vO 4 1 7 l1 Qag.enc,vI 5 v,vI 6 set_,vI 11 (lenI x0.types),vI 12 v],[oX 6 30 (Qac.enc x0),oS 7 45 l1 Qag.enc]⟩⟩
def QsF (Γ:Gam) (rv:List Qag×Int) (x0:Qac) (l:List Qag) (v:Int) (l2:List Qag):Prop:=QsD Γ rv ⟨[.b 1,.c 935,.l 116,.b 0,.c 15],⟨38,[vP 1 0 6,vO 4 1 7 l2 Qag.enc,vI 11 (lenI x0.types),vI 12 v],[oX 6 30 (Qac.enc x0),oS 7 45 l2 Qag.enc]⟩⟩
def QtS (Γ:Gam) (rv:List Qag×Int) (x0:Qac) (l:List Qag) (v:Int):Prop:=QsD Γ rv ⟨[.c 116,.l 116,.b 0,.c 15],⟨38,[vP 1 0 6,vO 4 1 7 l Qag.enc,vI 11 (lenI x0.types),vI 12 v],[oX 6 30 (Qac.enc x0),oS 7 45 l Qag.enc]⟩⟩
def QsE (Γ:Gam) (rv:List Qag×Int) (x0:Qac) (l3:List Qag):Prop:=QsD Γ rv ⟨[.c 15],⟨38,[vO 4 0 7 l3 Qag.enc],[oS 7 45 l3 Qag.enc]⟩⟩
theorem Qwb (Γ:Gam) (rv:List Qag×Int) {x0 l v} {s:List Qag×Int} {e:List Qag} (h:loopF (fun s=>Qrr x0 l v s.1 s.2) s=some e) (hD:QsF Γ rv x0 l v e):QtT Γ rv x0 l v s.1 s.2:=by
 refine QaD (C:=fun (s:List Qag×Int)=>QtT Γ rv x0 l v s.1 s.2) (D:=fun (e:List Qag)=>QsF Γ rv x0 l v e) ?_ h hD
 clear h hD s e
 rintro ⟨l1,set_⟩ z_ h hI hE
 replace h:Qrr x0 l v l1 set_=_:=h
 unfold Qrr at h
 obtain ⟨h1,h⟩:=Qax h
 rcases Qaj h with ⟨h2,h⟩|⟨h2,h⟩
 ·obtain ⟨r,h3,h⟩:=Qae h
  rcases Qaj h with ⟨h4,h⟩|⟨h4,h⟩
  ·obtain ⟨h5,h⟩:=Qax h
   exact gn 16 [1,4,5,6,11,12] [0,4] [nL Qah.enc x0.orders,oO (h1),bT h2,cC (QdB h3),bT h4,oO (Eq.refl ([r.1].map Qag.enc).length),aO Qag.enc h5] (hI _ (oJ h))
  ·exact gn 16 [1,4,5,6,11,12] [0,1] [nL Qah.enc x0.orders,oO (h1),bT h2,cC (QdB h3),bF h4] (hI _ (oJ h))
 ·exact gn 5 [1,4,11,12] [0,1] [nL Qah.enc x0.orders,oO (h1),bF h2] (hE _ (oJ h))
theorem Qwa (Γ:Gam) (rv:List Qag×Int) {x0} {s:List Qag×Int} {e:List Qag} (h:loopF (fun s=>Qrq x0 s.1 s.2) s=some e) (hD:QsE Γ rv x0 e):QtS Γ rv x0 s.1 s.2:=by
 refine QaD (C:=fun (s:List Qag×Int)=>QtS Γ rv x0 s.1 s.2) (D:=fun (e:List Qag)=>QsE Γ rv x0 e) ?_ h hD
 clear h hD s e
 rintro ⟨l,v⟩ z_ h hI hE
 replace h:Qrq x0 l v=_:=h
 unfold Qrq at h
 rcases Qaj h with ⟨h0,h⟩|⟨h0,h⟩
 ·obtain ⟨e0,h6,h⟩:=Qae h
  refine gn 13 [1,4,5,6,11,12] [0,1] [bT h0] (Qwb Γ rv h6 ?_)
  obtain ⟨l2,rfl⟩:∃ x,x=e0:=⟨_,rfl⟩
  replace h:(some (.inl (l2,(addK .i64 v 1))):Option ((List Qag×Int)⊕(List Qag)))=some _:=h
  exact gn 3 [1,4,11,12] [0,1] [] (hI _ (oJ h))
 ·exact gn 5 [4] [1] [bF h0] (hE _ (oJ h))
theorem Qtn {x0} {rv:List Qag×Int} (h:QxL x0=some rv):AFn Tryz.prog 27 [.agg (Qac.enc x0)] [] (.tup [.one (lL 7 rv.1 Qag.enc),.one (lI rv.2)]) []:=by
 refine QaM Tryz.func27 (by kernel_rfl) (by kernel_rfl) (fun Γ=>?_)
 unfold QxL at h
 obtain ⟨e1,h7,h⟩:=Qae h
 refine gn 9 [1,4,11,12] [0,1] [nL Qai.enc x0.types,hW 3,hH (.adopt 4 7 45)] (Qwa Γ rv h7 ?_)
 obtain ⟨l3,rfl⟩:∃ x,x=e1:=⟨_,rfl⟩
 replace h:(some (l3,0):Option (List Qag×Int))=some _:=h
 obtain rfl:=Option.some.inj h
 exact gr 2 [] [hW 5,hH (.frz 0),rp 3 (eL l3 Qag.enc)]
theorem Qvk {a b} {rv:Bool} (h:Qrg a b=some rv):AFn Tryz.prog 66 [.one (lL 2 a Qaa.enc),.one (lL 2 b Qaa.enc)] [] (one (.bool rv)) []:=by
 refine QaM Tryz.func66 (by kernel_rfl) (by kernel_rfl) (fun Γ=>?_)
 unfold Qrg at h
 obtain ⟨r,h0,h⟩:=Qae h
 obtain rfl:=Option.some.inj h
 exact gr 4 [] [cC (Qit h0)]
theorem QuC {a b} {rv:Bool} (h:Qwc a b=some rv):AFn Tryz.prog 33 [.agg (Qag.enc a),.agg (Qag.enc b)] [] (one (.bool rv)) []:=by
 refine QaM Tryz.func33 (by kernel_rfl) (by kernel_rfl) (fun Γ=>?_)
 unfold Qwc at h
 rcases Qaj h with ⟨h0,h⟩|⟨h0,h⟩
 ·obtain ⟨r,h1,h⟩:=Qae h
  rcases Qaj h with ⟨h2,h⟩|⟨h2,h⟩
  ·obtain ⟨r1,h3,h⟩:=Qae h
   obtain rfl:=Option.some.inj h
   exact gr 6 [] [hH (.draw 8 [(2,6),(3,7)]),rp 24 hP,rp 4 (oI ((eqI a.type_ b.type_)=true)),oR True ((eqI a.type_ b.type_)=true),rp 4 (oI (((eqI a.type_ b.type_)&&(eqI a.set_ b.set_))=true)),oR True (((eqI a.type_ b.type_)&&(eqI a.set_ b.set_))=true),rp 4 (oI ((((eqI a.type_ b.type_)&&(eqI a.set_ b.set_))&&(eqI a.price b.price))=true)),oR True ((((eqI a.type_ b.type_)&&(eqI a.set_ b.set_))&&(eqI a.price b.price))=true),rp 4 (oI (((((eqI a.type_ b.type_)&&(eqI a.set_ b.set_))&&(eqI a.price b.price))&&(eqI a.route.type_ b.route.type_))=true)),oR True (((((eqI a.type_ b.type_)&&(eqI a.set_ b.set_))&&(eqI a.price b.price))&&(eqI a.route.type_ b.route.type_))=true),rp 5 (bT h0),cC (QhY h1),bT h0,rp 5 (bT h2),cC (Qvk h3),bT h2]
  ·obtain rfl:=Option.some.inj h
   exact gr 6 [] [hH (.draw 8 [(2,6),(3,7)]),rp 24 hP,rp 4 (oI ((eqI a.type_ b.type_)=true)),oR True ((eqI a.type_ b.type_)=true),rp 4 (oI (((eqI a.type_ b.type_)&&(eqI a.set_ b.set_))=true)),oR True (((eqI a.type_ b.type_)&&(eqI a.set_ b.set_))=true),rp 4 (oI ((((eqI a.type_ b.type_)&&(eqI a.set_ b.set_))&&(eqI a.price b.price))=true)),oR True ((((eqI a.type_ b.type_)&&(eqI a.set_ b.set_))&&(eqI a.price b.price))=true),rp 4 (oI (((((eqI a.type_ b.type_)&&(eqI a.set_ b.set_))&&(eqI a.price b.price))&&(eqI a.route.type_ b.route.type_))=true)),oR True (((((eqI a.type_ b.type_)&&(eqI a.set_ b.set_))&&(eqI a.price b.price))&&(eqI a.route.type_ b.route.type_))=true),rp 5 (bT h0),cC (QhY h1),bT h0,rp 6 (bF h2)]
 ·obtain rfl:=Option.some.inj h
  exact gr 6 [] [hH (.draw 8 [(2,6),(3,7)]),rp 24 hP,rp 4 (oI ((eqI a.type_ b.type_)=true)),oR True ((eqI a.type_ b.type_)=true),rp 4 (oI (((eqI a.type_ b.type_)&&(eqI a.set_ b.set_))=true)),oR True (((eqI a.type_ b.type_)&&(eqI a.set_ b.set_))=true),rp 4 (oI ((((eqI a.type_ b.type_)&&(eqI a.set_ b.set_))&&(eqI a.price b.price))=true)),oR True ((((eqI a.type_ b.type_)&&(eqI a.set_ b.set_))&&(eqI a.price b.price))=true),rp 4 (oI (((((eqI a.type_ b.type_)&&(eqI a.set_ b.set_))&&(eqI a.price b.price))&&(eqI a.route.type_ b.route.type_))=true)),oR True (((((eqI a.type_ b.type_)&&(eqI a.set_ b.set_))&&(eqI a.price b.price))&&(eqI a.route.type_ b.route.type_))=true),rp 6 (bF h0),rp 6 fF]
theorem Qd4 {rv:Qac} (h:QiP=some rv):AFn Tryz.prog 52 [] [] (gG [lL 1 rv.net.places e_str,lL 6 rv.net.arcs Qas.enc,lL 14 rv.types Qai.enc,lL 16 rv.orders Qah.enc,lL 2 rv.apart QaC.enc,lL 2 rv.before QaC.enc]) []:=by
 refine QaM Tryz.func52 (by kernel_rfl) (by kernel_rfl) (fun Γ=>?_)
 unfold QiP at h
 obtain rfl:=Option.some.inj h
 exact gr 12 [] [hW 15,hH (.frz 1),hH (.nilS 9 5 2),hH (.nilS 11 5 2),hW 22,hH (.frz 7),hW 2,hH (.frz 5),hW 3,hH (.frz 2),hH (.frz 3),hH (.frz 9),hH (.frz 10),hH (.nilB 0 4 2),hH (.nilB 0 5 2),rp 6 (oO (Eq.refl ([(Qao.mk 0 20)].map Qao.enc).length)),rp 4 (oO (Eq.refl ([5].map e_i64).length)),rp 4 (oO (Eq.refl ([1].map e_i64).length)),rp 6 (oO (Eq.refl ([Qxs,Qxr].map e_str).length)),rp 6 (oO (Eq.refl ([(Qas.mk 0 1 0 10 [(Qao.mk 0 20)] []),(Qas.mk 1 0 0 10 [(Qao.mk 0 20)] [])].map Qas.enc).length)),rp 3 (oO (Eq.refl ([(Qai.mk Qxv 1 0 0 [5] 0 0 0 1000 1000 0 5 1 0)].map Qai.enc).length)),rp 3 (oO (Eq.refl ([(Qah.mk Qy5 [1] (Qau.mk (-1) 0 0 0) (Qau.mk 1 0 50 0) 0 0 1 (-1) (-1) false)].map Qah.enc).length))]
theorem Qhr {rv:Bool} (h:Qfp=some rv):AFn Tryz.prog 23 [] [] (one (.bool rv)) []:=by
 refine QaM Tryz.func23 (by kernel_rfl) (by kernel_rfl) (fun Γ=>?_)
 unfold Qfp at h
 obtain ⟨r,h0,h⟩:=Qae h
 obtain ⟨r1,h1,h⟩:=Qae h
 obtain ⟨r2,h2,h⟩:=Qae h
 obtain ⟨r3,h3,h⟩:=Qae h
 rcases Qaj h with ⟨h4,h⟩|⟨h4,h⟩
 ·obtain ⟨x0,h5,h⟩:=Qae h
  obtain ⟨r4,h6,h⟩:=Qae h
  rcases Qaj h with ⟨h7,h⟩|⟨h7,h⟩
  ·obtain ⟨r5,h8,h⟩:=Qae h
   obtain rfl:=Option.some.inj h
   exact gr 8 [] [cC (Qd4 h0),cC (QdB h1),cC (Qd4 h2),cC (Qtn h3),hH (.draw 42 []),rp 12 hP,rp 2 (oI ((eqI r1.2 0)=true)),oR True ((eqI r1.2 0)=true),rp 2 (oI (((eqI r1.2 0)&&(eqI r1.1.set_ 1))=true)),oR True (((eqI r1.2 0)&&(eqI r1.1.set_ 1))=true),rp 3 (oI ((((eqI r1.2 0)&&(eqI r1.1.set_ 1))&&(eqI r1.1.price 419430400))=true)),nL Qaa.enc r1.1.route.visits,rp 7 hP,oI ((((eqI r1.2 0)&&(eqI r1.1.set_ 1))&&(eqI r1.1.price 419430400))=true),oR True ((((eqI r1.2 0)&&(eqI r1.1.set_ 1))&&(eqI r1.1.price 419430400))=true),oI (((((eqI r1.2 0)&&(eqI r1.1.set_ 1))&&(eqI r1.1.price 419430400))&&(eqI (lenI r1.1.route.visits) 1))=true),oR True (((((eqI r1.2 0)&&(eqI r1.1.set_ 1))&&(eqI r1.1.price 419430400))&&(eqI (lenI r1.1.route.visits) 1))=true),oI ((((((eqI r1.2 0)&&(eqI r1.1.set_ 1))&&(eqI r1.1.price 419430400))&&(eqI (lenI r1.1.route.visits) 1))&&(eqI r3.2 0))=true),nL Qag.enc r3.1,hP,hP,oI ((((((eqI r1.2 0)&&(eqI r1.1.set_ 1))&&(eqI r1.1.price 419430400))&&(eqI (lenI r1.1.route.visits) 1))&&(eqI r3.2 0))=true),oR True ((((((eqI r1.2 0)&&(eqI r1.1.set_ 1))&&(eqI r1.1.price 419430400))&&(eqI (lenI r1.1.route.visits) 1))&&(eqI r3.2 0))=true),bT h4,bT h4,cE Qag.enc h5,rp 3 (bT h4),cC (QuC h6),bT h4,rp 3 (bT h7),cC (Qjm h8),bT h7,bT h7]
  ·obtain rfl:=Option.some.inj h
   exact gr 8 [] [cC (Qd4 h0),cC (QdB h1),cC (Qd4 h2),cC (Qtn h3),hH (.draw 42 []),rp 12 hP,rp 2 (oI ((eqI r1.2 0)=true)),oR True ((eqI r1.2 0)=true),rp 2 (oI (((eqI r1.2 0)&&(eqI r1.1.set_ 1))=true)),oR True (((eqI r1.2 0)&&(eqI r1.1.set_ 1))=true),rp 3 (oI ((((eqI r1.2 0)&&(eqI r1.1.set_ 1))&&(eqI r1.1.price 419430400))=true)),nL Qaa.enc r1.1.route.visits,rp 7 hP,oI ((((eqI r1.2 0)&&(eqI r1.1.set_ 1))&&(eqI r1.1.price 419430400))=true),oR True ((((eqI r1.2 0)&&(eqI r1.1.set_ 1))&&(eqI r1.1.price 419430400))=true),oI (((((eqI r1.2 0)&&(eqI r1.1.set_ 1))&&(eqI r1.1.price 419430400))&&(eqI (lenI r1.1.route.visits) 1))=true),oR True (((((eqI r1.2 0)&&(eqI r1.1.set_ 1))&&(eqI r1.1.price 419430400))&&(eqI (lenI r1.1.route.visits) 1))=true),oI ((((((eqI r1.2 0)&&(eqI r1.1.set_ 1))&&(eqI r1.1.price 419430400))&&(eqI (lenI r1.1.route.visits) 1))&&(eqI r3.2 0))=true),nL Qag.enc r3.1,hP,hP,oI ((((((eqI r1.2 0)&&(eqI r1.1.set_ 1))&&(eqI r1.1.price 419430400))&&(eqI (lenI r1.1.route.visits) 1))&&(eqI r3.2 0))=true),oR True ((((((eqI r1.2 0)&&(eqI r1.1.set_ 1))&&(eqI r1.1.price 419430400))&&(eqI (lenI r1.1.route.visits) 1))&&(eqI r3.2 0))=true),bT h4,bT h4,cE Qag.enc h5,rp 3 (bT h4),cC (QuC h6),bT h4,rp 5 (bF h7)]
 ·obtain rfl:=Option.some.inj h
  exact gr 8 [] [cC (Qd4 h0),cC (QdB h1),cC (Qd4 h2),cC (Qtn h3),hH (.draw 42 []),rp 12 hP,rp 2 (oI ((eqI r1.2 0)=true)),oR True ((eqI r1.2 0)=true),rp 2 (oI (((eqI r1.2 0)&&(eqI r1.1.set_ 1))=true)),oR True (((eqI r1.2 0)&&(eqI r1.1.set_ 1))=true),rp 3 (oI ((((eqI r1.2 0)&&(eqI r1.1.set_ 1))&&(eqI r1.1.price 419430400))=true)),nL Qaa.enc r1.1.route.visits,rp 7 hP,oI ((((eqI r1.2 0)&&(eqI r1.1.set_ 1))&&(eqI r1.1.price 419430400))=true),oR True ((((eqI r1.2 0)&&(eqI r1.1.set_ 1))&&(eqI r1.1.price 419430400))=true),oI (((((eqI r1.2 0)&&(eqI r1.1.set_ 1))&&(eqI r1.1.price 419430400))&&(eqI (lenI r1.1.route.visits) 1))=true),oR True (((((eqI r1.2 0)&&(eqI r1.1.set_ 1))&&(eqI r1.1.price 419430400))&&(eqI (lenI r1.1.route.visits) 1))=true),oI ((((((eqI r1.2 0)&&(eqI r1.1.set_ 1))&&(eqI r1.1.price 419430400))&&(eqI (lenI r1.1.route.visits) 1))&&(eqI r3.2 0))=true),nL Qag.enc r3.1,hP,hP,oI ((((((eqI r1.2 0)&&(eqI r1.1.set_ 1))&&(eqI r1.1.price 419430400))&&(eqI (lenI r1.1.route.visits) 1))&&(eqI r3.2 0))=true),oR True ((((((eqI r1.2 0)&&(eqI r1.1.set_ 1))&&(eqI r1.1.price 419430400))&&(eqI (lenI r1.1.route.visits) 1))&&(eqI r3.2 0))=true),rp 6 (bF h4),rp 5 fF]
theorem QbW {x0 r} {rv:Int} (h:Qfu x0 r=some rv):AFn Tryz.prog 29 [.agg (Qac.enc x0),.agg (Qad.enc r)] [] (one (lI rv)) []:=by
 refine QaM Tryz.func29 (by kernel_rfl) (by kernel_rfl) (fun Γ=>?_)
 unfold Qfu at h
 obtain ⟨r1,h0,h⟩:=Qae h
 obtain rfl:=Option.some.inj h
 exact gr 6 [] [cC (QhV h0)]
theorem QsW {a b} {rv:Bool} (h:QjF a b=some rv):AFn Tryz.prog 64 [.agg (Qaa.enc a),.agg (Qaa.enc b)] [] (one (.bool rv)) []:=by
 refine QaM Tryz.func64 (by kernel_rfl) (by kernel_rfl) (fun Γ=>?_)
 unfold QjF at h
 obtain rfl:=Option.some.inj h
 exact gr 4 [] [rp 17 hP,rp 5 (oI ((ltI a.order b.order)=false)),rp 2 (oI (((ltI a.order b.order)=false)∧(eqI a.order b.order)=true)),oI ((ltI a.order b.order)=false),oI (((ltI a.order b.order)=false)∧(eqI a.order b.order)=true),oI ((ltI a.order b.order)=false),oI (((ltI a.order b.order)=false)∧((eqI a.order b.order)&&(!a.drop))=true),oI ((ltI a.order b.order)=false),oI (((ltI a.order b.order)=false)∧((eqI a.order b.order)&&(!a.drop))=true),oR True ((ltI a.order b.order)=false)]
def QpY (Γ:Gam) (rv:Bool) (cf:Cf):Prop:=Go Tryz.prog Tryz.f32 [] Γ (one (.bool rv)) [] cf
def Qm9 (Γ:Gam) (rv:Bool) (a:List Qaa) (b:List Qaa) (i:Int):Prop:=QpY Γ rv ⟨[.c 52,.l 52,.b 0,.c 7],⟨41,[vL 0 2 a Qaa.enc,vL 1 2 b Qaa.enc,vI 5 i],[]⟩⟩
def Qmm (Γ:Gam) (rv:Bool) (a:List Qaa) (b:List Qaa):Prop:=QpY Γ rv ⟨[.c 7],⟨41,[vL 0 2 a Qaa.enc,vL 1 2 b Qaa.enc],[]⟩⟩
theorem QrM (Γ:Gam) (rv:Bool) {a b} {s:Int} {e:(Unit)⊕(Bool)} (h:loopF (fun s=>QcZ a b s) s=some e) (hD:sel e (fun e=>Qmm Γ rv a b) (fun e=>e=rv)):Qm9 Γ rv a b s:=by
 refine QaD (C:=fun (s:Int)=>Qm9 Γ rv a b s) (D:=fun (e:(Unit)⊕(Bool))=>sel e (fun e=>Qmm Γ rv a b) (fun e=>e=rv)) ?_ h hD
 clear h hD s e
 intro i z_ h hI hE
 replace h:QcZ a b i=_:=h
 unfold QcZ at h
 rcases Qaj h with ⟨h0,h⟩|⟨h0,h⟩
 ·obtain ⟨x0,h1,h⟩:=Qae h
  obtain ⟨x1,h2,h⟩:=Qae h
  rcases Qaj h with ⟨h3,h⟩|⟨h3,h⟩
  ·exact gn 14 [0,1,5] [] [nL Qaa.enc a,hP,hP,hP,oI ((ltI i (lenI a))=true),nL Qaa.enc b,hP,hP,rp 2 (oI ((ltI i (lenI a))=true)),oR True ((ltI i (lenI a))=true),bT h0,hH (.draw 9 []),cE Qaa.enc h1,cE Qaa.enc h2,nF h3] (hI _ (oJ h))
  ·obtain ⟨r,h4,h⟩:=Qae h
   obtain rfl:=(hE _ (oJ h):_=rv)
   exact gr 12 [] [nL Qaa.enc a,hP,hP,hP,oI ((ltI i (lenI a))=true),nL Qaa.enc b,hP,hP,rp 2 (oI ((ltI i (lenI a))=true)),oR True ((ltI i (lenI a))=true),bT h0,hH (.draw 9 []),cE Qaa.enc h1,cE Qaa.enc h2,nT h3,hH (.draw 10 []),cE Qaa.enc h1,cE Qaa.enc h2,cC (QsW h4)]
 ·exact gn 5 [0,1] [] [nL Qaa.enc a,hP,hP,hP,oI ((ltI i (lenI a))=true),nL Qaa.enc b,hP,hP,rp 2 (oI ((ltI i (lenI a))=true)),oR True ((ltI i (lenI a))=true),bF h0] (hE _ (oJ h))
theorem QoY {a b} {rv:Bool} (h:QiB a b=some rv):AFn Tryz.prog 32 [.one (lL 2 a Qaa.enc),.one (lL 2 b Qaa.enc)] [] (one (.bool rv)) []:=by
 refine QaM Tryz.func32 (by kernel_rfl) (by kernel_rfl) (fun Γ=>?_)
 unfold QiB at h
 obtain ⟨e0,h5,h⟩:=Qae h
 refine gn 7 [0,1,5] [] [] (QrM Γ rv h5 ?_)
 rcases e0 with e0|e0
 ·replace h:(some (ltI (lenI a) (lenI b)):Option Bool)=some _:=h
  obtain rfl:=Option.some.inj h
  exact gr 2 [] [nL Qaa.enc a,nL Qaa.enc b]
 ·obtain ⟨r1,rfl⟩:∃ x,x=e0:=⟨_,rfl⟩
  replace h:(some r1:Option Bool)=some _:=h
  exact Option.some.inj h
end Go.Proofs.YtoedkepcaigkeaaGreatDoor
namespace Go.Proofs.YtoedkepcaigkeaaGreatDoor
set_option linter.unusedVariables false
set_option linter.unusedSectionVars false
set_option linter.unusedSimpArgs false
set_option maxHeartbeats 4000000
set_option maxRecDepth 100000
theorem Qow {x0 r} {rv:Bool} (h:Qfx x0 r=some rv):AFn Tryz.prog 8 [.agg (Qac.enc x0),.agg (Qad.enc r)] [] (one (.bool rv)) []:=by
 refine QaM Tryz.func8 (by kernel_rfl) (by kernel_rfl) (fun Γ=>?_)
 unfold Qfx at h
 obtain ⟨r1,h0,h⟩:=Qae h
 rcases Qaj h with ⟨h1,h⟩|⟨h1,h⟩
 ·obtain ⟨r2,h2,h⟩:=Qae h
  obtain rfl:=Option.some.inj h
  exact gr 8 [] [cC (QdO h0),hP,hP,hP,rp 2 (oI ((!r1)=false)),nL Qaa.enc r.visits,rp 9 hP,oI ((!r1)=false),oR True ((!r1)=false),rp 2 (oI (((!r1)||(gtI (lenI r.visits) 8))=false)),oR True (((!r1)||(gtI (lenI r.visits) 8))=false),rp 2 (oI ((((!r1)||(gtI (lenI r.visits) 8))||(neI r.start 0))=false)),nL QaQ r.rests,hP,hP,oI ((((!r1)||(gtI (lenI r.visits) 8))||(neI r.start 0))=false),oR True ((((!r1)||(gtI (lenI r.visits) 8))||(neI r.start 0))=false),rp 5 (bT h1),tT,cC (Qhr h2)]
 ·obtain ⟨r3,h3,h⟩:=Qae h
  rcases Qaj h with ⟨h4,h⟩|⟨h4,h⟩
  ·obtain ⟨r4,h5,h⟩:=Qae h
   obtain rfl:=Option.some.inj h
   exact gr 8 [] [cC (QdO h0),hP,hP,hP,rp 2 (oI ((!r1)=false)),nL Qaa.enc r.visits,rp 9 hP,oI ((!r1)=false),oR True ((!r1)=false),rp 2 (oI (((!r1)||(gtI (lenI r.visits) 8))=false)),oR True (((!r1)||(gtI (lenI r.visits) 8))=false),rp 2 (oI ((((!r1)||(gtI (lenI r.visits) 8))||(neI r.start 0))=false)),nL QaQ r.rests,hP,hP,oI ((((!r1)||(gtI (lenI r.visits) 8))||(neI r.start 0))=false),oR True ((((!r1)||(gtI (lenI r.visits) 8))||(neI r.start 0))=false),rp 3 (bF h1),cC (QbW h3),bF h1,bF h1,bT h4,cC (Qhr h5)]
  ·obtain ⟨r5,h6,h⟩:=Qae h
   obtain ⟨r6,h7,h⟩:=Qae h
   obtain ⟨r7,h8,h⟩:=Qae h
   rcases Qaj h with ⟨h9,h⟩|⟨h9,h⟩
   ·obtain rfl:=Option.some.inj h
    exact gr 19 [] [cC (QdO h0),hP,hP,hP,rp 2 (oI ((!r1)=false)),nL Qaa.enc r.visits,rp 9 hP,oI ((!r1)=false),oR True ((!r1)=false),rp 2 (oI (((!r1)||(gtI (lenI r.visits) 8))=false)),oR True (((!r1)||(gtI (lenI r.visits) 8))=false),rp 2 (oI ((((!r1)||(gtI (lenI r.visits) 8))||(neI r.start 0))=false)),nL QaQ r.rests,hP,hP,oI ((((!r1)||(gtI (lenI r.visits) 8))||(neI r.start 0))=false),oR True ((((!r1)||(gtI (lenI r.visits) 8))||(neI r.start 0))=false),rp 3 (bF h1),cC (QbW h3),bF h1,bF h1,bF h4,cC (Qbi h6),cC (QbV h7),cC (QdB h8),rp 38 hP,oI ((neI r5.2 0)=false),oR True ((neI r5.2 0)=false),oI (((neI r5.2 0)||(neI r6.2 0))=false),oR True (((neI r5.2 0)||(neI r6.2 0))=false),rp 3 (oI ((((neI r5.2 0)||(neI r6.2 0))||(neI r7.2 0))=false)),oR True ((((neI r5.2 0)||(neI r6.2 0))||(neI r7.2 0))=false),rp 3 (oI (((((neI r5.2 0)||(neI r6.2 0))||(neI r7.2 0))||(gtI r7.1.price r6.1))=false)),oR True (((((neI r5.2 0)||(neI r6.2 0))||(neI r7.2 0))||(gtI r7.1.price r6.1))=false),rp 4 (oI ((((((neI r5.2 0)||(neI r6.2 0))||(neI r7.2 0))||(gtI r7.1.price r6.1))||(neI r7.1.set_ r5.1))=false)),oR True ((((((neI r5.2 0)||(neI r6.2 0))||(neI r7.2 0))||(gtI r7.1.price r6.1))||(neI r7.1.set_ r5.1))=false),rp 5 (oI (((((((neI r5.2 0)||(neI r6.2 0))||(neI r7.2 0))||(gtI r7.1.price r6.1))||(neI r7.1.set_ r5.1))||(neI r7.1.type_ r.type_))=false)),oR True (((((((neI r5.2 0)||(neI r6.2 0))||(neI r7.2 0))||(gtI r7.1.price r6.1))||(neI r7.1.set_ r5.1))||(neI r7.1.type_ r.type_))=false),rp 3 (oI ((((((((neI r5.2 0)||(neI r6.2 0))||(neI r7.2 0))||(gtI r7.1.price r6.1))||(neI r7.1.set_ r5.1))||(neI r7.1.type_ r.type_))||(neI r7.1.route.type_ r.type_))=false)),oR True ((((((((neI r5.2 0)||(neI r6.2 0))||(neI r7.2 0))||(gtI r7.1.price r6.1))||(neI r7.1.set_ r5.1))||(neI r7.1.type_ r.type_))||(neI r7.1.route.type_ r.type_))=false),rp 3 (oI (((((((((neI r5.2 0)||(neI r6.2 0))||(neI r7.2 0))||(gtI r7.1.price r6.1))||(neI r7.1.set_ r5.1))||(neI r7.1.type_ r.type_))||(neI r7.1.route.type_ r.type_))||(neI r7.1.route.start 0))=false)),nL QaQ r7.1.route.rests,hP,hP,oI (((((((((neI r5.2 0)||(neI r6.2 0))||(neI r7.2 0))||(gtI r7.1.price r6.1))||(neI r7.1.set_ r5.1))||(neI r7.1.type_ r.type_))||(neI r7.1.route.type_ r.type_))||(neI r7.1.route.start 0))=false),oR True (((((((((neI r5.2 0)||(neI r6.2 0))||(neI r7.2 0))||(gtI r7.1.price r6.1))||(neI r7.1.set_ r5.1))||(neI r7.1.type_ r.type_))||(neI r7.1.route.type_ r.type_))||(neI r7.1.route.start 0))=false),bT h9]
   ·obtain ⟨r8,h10,h⟩:=Qae h
    obtain ⟨r9,h11,h⟩:=Qae h
    rcases Qaj h with ⟨h12,h⟩|⟨h12,h⟩
    ·obtain ⟨r10,h13,h⟩:=Qae h
     rcases Qaj h with ⟨h14,h⟩|⟨h14,h⟩
     ·rcases Qaj h with ⟨h15,h⟩|⟨h15,h⟩
      ·obtain ⟨r11,h16,h⟩:=Qae h
       obtain rfl:=Option.some.inj h
       exact gr 24 [] [cC (QdO h0),hP,hP,hP,rp 2 (oI ((!r1)=false)),nL Qaa.enc r.visits,rp 9 hP,oI ((!r1)=false),oR True ((!r1)=false),rp 2 (oI (((!r1)||(gtI (lenI r.visits) 8))=false)),oR True (((!r1)||(gtI (lenI r.visits) 8))=false),rp 2 (oI ((((!r1)||(gtI (lenI r.visits) 8))||(neI r.start 0))=false)),nL QaQ r.rests,hP,hP,oI ((((!r1)||(gtI (lenI r.visits) 8))||(neI r.start 0))=false),oR True ((((!r1)||(gtI (lenI r.visits) 8))||(neI r.start 0))=false),rp 3 (bF h1),cC (QbW h3),bF h1,bF h1,bF h4,cC (Qbi h6),cC (QbV h7),cC (QdB h8),rp 38 hP,oI ((neI r5.2 0)=false),oR True ((neI r5.2 0)=false),oI (((neI r5.2 0)||(neI r6.2 0))=false),oR True (((neI r5.2 0)||(neI r6.2 0))=false),rp 3 (oI ((((neI r5.2 0)||(neI r6.2 0))||(neI r7.2 0))=false)),oR True ((((neI r5.2 0)||(neI r6.2 0))||(neI r7.2 0))=false),rp 3 (oI (((((neI r5.2 0)||(neI r6.2 0))||(neI r7.2 0))||(gtI r7.1.price r6.1))=false)),oR True (((((neI r5.2 0)||(neI r6.2 0))||(neI r7.2 0))||(gtI r7.1.price r6.1))=false),rp 4 (oI ((((((neI r5.2 0)||(neI r6.2 0))||(neI r7.2 0))||(gtI r7.1.price r6.1))||(neI r7.1.set_ r5.1))=false)),oR True ((((((neI r5.2 0)||(neI r6.2 0))||(neI r7.2 0))||(gtI r7.1.price r6.1))||(neI r7.1.set_ r5.1))=false),rp 5 (oI (((((((neI r5.2 0)||(neI r6.2 0))||(neI r7.2 0))||(gtI r7.1.price r6.1))||(neI r7.1.set_ r5.1))||(neI r7.1.type_ r.type_))=false)),oR True (((((((neI r5.2 0)||(neI r6.2 0))||(neI r7.2 0))||(gtI r7.1.price r6.1))||(neI r7.1.set_ r5.1))||(neI r7.1.type_ r.type_))=false),rp 3 (oI ((((((((neI r5.2 0)||(neI r6.2 0))||(neI r7.2 0))||(gtI r7.1.price r6.1))||(neI r7.1.set_ r5.1))||(neI r7.1.type_ r.type_))||(neI r7.1.route.type_ r.type_))=false)),oR True ((((((((neI r5.2 0)||(neI r6.2 0))||(neI r7.2 0))||(gtI r7.1.price r6.1))||(neI r7.1.set_ r5.1))||(neI r7.1.type_ r.type_))||(neI r7.1.route.type_ r.type_))=false),rp 3 (oI (((((((((neI r5.2 0)||(neI r6.2 0))||(neI r7.2 0))||(gtI r7.1.price r6.1))||(neI r7.1.set_ r5.1))||(neI r7.1.type_ r.type_))||(neI r7.1.route.type_ r.type_))||(neI r7.1.route.start 0))=false)),nL QaQ r7.1.route.rests,hP,hP,oI (((((((((neI r5.2 0)||(neI r6.2 0))||(neI r7.2 0))||(gtI r7.1.price r6.1))||(neI r7.1.set_ r5.1))||(neI r7.1.type_ r.type_))||(neI r7.1.route.type_ r.type_))||(neI r7.1.route.start 0))=false),oR True (((((((((neI r5.2 0)||(neI r6.2 0))||(neI r7.2 0))||(gtI r7.1.price r6.1))||(neI r7.1.set_ r5.1))||(neI r7.1.type_ r.type_))||(neI r7.1.route.type_ r.type_))||(neI r7.1.route.start 0))=false),bF h9,cC (Qbi h10),cC (QbV h11),rp 4 hP,rp 2 (oI ((eqI r8.2 0)=true)),oR True ((eqI r8.2 0)=true),rp 4 (bT h12),cC (QbW h13),rp 2 (bT h12),rp 8 hP,oI ((eqI r10 0)=true),oR True ((eqI r10 0)=true),rp 3 (oI (((eqI r10 0)&&(eqI r9.2 0))=true)),oR True (((eqI r10 0)&&(eqI r9.2 0))=true),rp 5 (bT h14),rp 7 (bT h15),bT h14,bT h15,bT h14,tT,cC (Qhr h16),tT]
      ·obtain ⟨r12,h17,h⟩:=Qae h
       rcases Qaj h with ⟨h18,h⟩|⟨h18,h⟩
       ·obtain rfl:=Option.some.inj h
        exact gr 24 [] [cC (QdO h0),hP,hP,hP,rp 2 (oI ((!r1)=false)),nL Qaa.enc r.visits,rp 9 hP,oI ((!r1)=false),oR True ((!r1)=false),rp 2 (oI (((!r1)||(gtI (lenI r.visits) 8))=false)),oR True (((!r1)||(gtI (lenI r.visits) 8))=false),rp 2 (oI ((((!r1)||(gtI (lenI r.visits) 8))||(neI r.start 0))=false)),nL QaQ r.rests,hP,hP,oI ((((!r1)||(gtI (lenI r.visits) 8))||(neI r.start 0))=false),oR True ((((!r1)||(gtI (lenI r.visits) 8))||(neI r.start 0))=false),rp 3 (bF h1),cC (QbW h3),bF h1,bF h1,bF h4,cC (Qbi h6),cC (QbV h7),cC (QdB h8),rp 38 hP,oI ((neI r5.2 0)=false),oR True ((neI r5.2 0)=false),oI (((neI r5.2 0)||(neI r6.2 0))=false),oR True (((neI r5.2 0)||(neI r6.2 0))=false),rp 3 (oI ((((neI r5.2 0)||(neI r6.2 0))||(neI r7.2 0))=false)),oR True ((((neI r5.2 0)||(neI r6.2 0))||(neI r7.2 0))=false),rp 3 (oI (((((neI r5.2 0)||(neI r6.2 0))||(neI r7.2 0))||(gtI r7.1.price r6.1))=false)),oR True (((((neI r5.2 0)||(neI r6.2 0))||(neI r7.2 0))||(gtI r7.1.price r6.1))=false),rp 4 (oI ((((((neI r5.2 0)||(neI r6.2 0))||(neI r7.2 0))||(gtI r7.1.price r6.1))||(neI r7.1.set_ r5.1))=false)),oR True ((((((neI r5.2 0)||(neI r6.2 0))||(neI r7.2 0))||(gtI r7.1.price r6.1))||(neI r7.1.set_ r5.1))=false),rp 5 (oI (((((((neI r5.2 0)||(neI r6.2 0))||(neI r7.2 0))||(gtI r7.1.price r6.1))||(neI r7.1.set_ r5.1))||(neI r7.1.type_ r.type_))=false)),oR True (((((((neI r5.2 0)||(neI r6.2 0))||(neI r7.2 0))||(gtI r7.1.price r6.1))||(neI r7.1.set_ r5.1))||(neI r7.1.type_ r.type_))=false),rp 3 (oI ((((((((neI r5.2 0)||(neI r6.2 0))||(neI r7.2 0))||(gtI r7.1.price r6.1))||(neI r7.1.set_ r5.1))||(neI r7.1.type_ r.type_))||(neI r7.1.route.type_ r.type_))=false)),oR True ((((((((neI r5.2 0)||(neI r6.2 0))||(neI r7.2 0))||(gtI r7.1.price r6.1))||(neI r7.1.set_ r5.1))||(neI r7.1.type_ r.type_))||(neI r7.1.route.type_ r.type_))=false),rp 3 (oI (((((((((neI r5.2 0)||(neI r6.2 0))||(neI r7.2 0))||(gtI r7.1.price r6.1))||(neI r7.1.set_ r5.1))||(neI r7.1.type_ r.type_))||(neI r7.1.route.type_ r.type_))||(neI r7.1.route.start 0))=false)),nL QaQ r7.1.route.rests,hP,hP,oI (((((((((neI r5.2 0)||(neI r6.2 0))||(neI r7.2 0))||(gtI r7.1.price r6.1))||(neI r7.1.set_ r5.1))||(neI r7.1.type_ r.type_))||(neI r7.1.route.type_ r.type_))||(neI r7.1.route.start 0))=false),oR True (((((((((neI r5.2 0)||(neI r6.2 0))||(neI r7.2 0))||(gtI r7.1.price r6.1))||(neI r7.1.set_ r5.1))||(neI r7.1.type_ r.type_))||(neI r7.1.route.type_ r.type_))||(neI r7.1.route.start 0))=false),bF h9,cC (Qbi h10),cC (QbV h11),rp 4 hP,rp 2 (oI ((eqI r8.2 0)=true)),oR True ((eqI r8.2 0)=true),rp 4 (bT h12),cC (QbW h13),rp 2 (bT h12),rp 8 hP,oI ((eqI r10 0)=true),oR True ((eqI r10 0)=true),rp 3 (oI (((eqI r10 0)&&(eqI r9.2 0))=true)),oR True (((eqI r10 0)&&(eqI r9.2 0))=true),rp 5 (bT h14),rp 6 (bF h15),cC (QoY h17),bF h15,bT h14,bF h15,bT h14,rp 2 (nF h18)]
       ·obtain ⟨r13,h19,h⟩:=Qae h
        obtain rfl:=Option.some.inj h
        exact gr 24 [] [cC (QdO h0),hP,hP,hP,rp 2 (oI ((!r1)=false)),nL Qaa.enc r.visits,rp 9 hP,oI ((!r1)=false),oR True ((!r1)=false),rp 2 (oI (((!r1)||(gtI (lenI r.visits) 8))=false)),oR True (((!r1)||(gtI (lenI r.visits) 8))=false),rp 2 (oI ((((!r1)||(gtI (lenI r.visits) 8))||(neI r.start 0))=false)),nL QaQ r.rests,hP,hP,oI ((((!r1)||(gtI (lenI r.visits) 8))||(neI r.start 0))=false),oR True ((((!r1)||(gtI (lenI r.visits) 8))||(neI r.start 0))=false),rp 3 (bF h1),cC (QbW h3),bF h1,bF h1,bF h4,cC (Qbi h6),cC (QbV h7),cC (QdB h8),rp 38 hP,oI ((neI r5.2 0)=false),oR True ((neI r5.2 0)=false),oI (((neI r5.2 0)||(neI r6.2 0))=false),oR True (((neI r5.2 0)||(neI r6.2 0))=false),rp 3 (oI ((((neI r5.2 0)||(neI r6.2 0))||(neI r7.2 0))=false)),oR True ((((neI r5.2 0)||(neI r6.2 0))||(neI r7.2 0))=false),rp 3 (oI (((((neI r5.2 0)||(neI r6.2 0))||(neI r7.2 0))||(gtI r7.1.price r6.1))=false)),oR True (((((neI r5.2 0)||(neI r6.2 0))||(neI r7.2 0))||(gtI r7.1.price r6.1))=false),rp 4 (oI ((((((neI r5.2 0)||(neI r6.2 0))||(neI r7.2 0))||(gtI r7.1.price r6.1))||(neI r7.1.set_ r5.1))=false)),oR True ((((((neI r5.2 0)||(neI r6.2 0))||(neI r7.2 0))||(gtI r7.1.price r6.1))||(neI r7.1.set_ r5.1))=false),rp 5 (oI (((((((neI r5.2 0)||(neI r6.2 0))||(neI r7.2 0))||(gtI r7.1.price r6.1))||(neI r7.1.set_ r5.1))||(neI r7.1.type_ r.type_))=false)),oR True (((((((neI r5.2 0)||(neI r6.2 0))||(neI r7.2 0))||(gtI r7.1.price r6.1))||(neI r7.1.set_ r5.1))||(neI r7.1.type_ r.type_))=false),rp 3 (oI ((((((((neI r5.2 0)||(neI r6.2 0))||(neI r7.2 0))||(gtI r7.1.price r6.1))||(neI r7.1.set_ r5.1))||(neI r7.1.type_ r.type_))||(neI r7.1.route.type_ r.type_))=false)),oR True ((((((((neI r5.2 0)||(neI r6.2 0))||(neI r7.2 0))||(gtI r7.1.price r6.1))||(neI r7.1.set_ r5.1))||(neI r7.1.type_ r.type_))||(neI r7.1.route.type_ r.type_))=false),rp 3 (oI (((((((((neI r5.2 0)||(neI r6.2 0))||(neI r7.2 0))||(gtI r7.1.price r6.1))||(neI r7.1.set_ r5.1))||(neI r7.1.type_ r.type_))||(neI r7.1.route.type_ r.type_))||(neI r7.1.route.start 0))=false)),nL QaQ r7.1.route.rests,hP,hP,oI (((((((((neI r5.2 0)||(neI r6.2 0))||(neI r7.2 0))||(gtI r7.1.price r6.1))||(neI r7.1.set_ r5.1))||(neI r7.1.type_ r.type_))||(neI r7.1.route.type_ r.type_))||(neI r7.1.route.start 0))=false),oR True (((((((((neI r5.2 0)||(neI r6.2 0))||(neI r7.2 0))||(gtI r7.1.price r6.1))||(neI r7.1.set_ r5.1))||(neI r7.1.type_ r.type_))||(neI r7.1.route.type_ r.type_))||(neI r7.1.route.start 0))=false),bF h9,cC (Qbi h10),cC (QbV h11),rp 4 hP,rp 2 (oI ((eqI r8.2 0)=true)),oR True ((eqI r8.2 0)=true),rp 4 (bT h12),cC (QbW h13),rp 2 (bT h12),rp 8 hP,oI ((eqI r10 0)=true),oR True ((eqI r10 0)=true),rp 3 (oI (((eqI r10 0)&&(eqI r9.2 0))=true)),oR True (((eqI r10 0)&&(eqI r9.2 0))=true),rp 5 (bT h14),rp 6 (bF h15),cC (QoY h17),bF h15,bT h14,bF h15,bT h14,nT h18,cC (Qhr h19),nT h18]
     ·obtain rfl:=Option.some.inj h
      exact gr 24 [] [cC (QdO h0),hP,hP,hP,rp 2 (oI ((!r1)=false)),nL Qaa.enc r.visits,rp 9 hP,oI ((!r1)=false),oR True ((!r1)=false),rp 2 (oI (((!r1)||(gtI (lenI r.visits) 8))=false)),oR True (((!r1)||(gtI (lenI r.visits) 8))=false),rp 2 (oI ((((!r1)||(gtI (lenI r.visits) 8))||(neI r.start 0))=false)),nL QaQ r.rests,hP,hP,oI ((((!r1)||(gtI (lenI r.visits) 8))||(neI r.start 0))=false),oR True ((((!r1)||(gtI (lenI r.visits) 8))||(neI r.start 0))=false),rp 3 (bF h1),cC (QbW h3),bF h1,bF h1,bF h4,cC (Qbi h6),cC (QbV h7),cC (QdB h8),rp 38 hP,oI ((neI r5.2 0)=false),oR True ((neI r5.2 0)=false),oI (((neI r5.2 0)||(neI r6.2 0))=false),oR True (((neI r5.2 0)||(neI r6.2 0))=false),rp 3 (oI ((((neI r5.2 0)||(neI r6.2 0))||(neI r7.2 0))=false)),oR True ((((neI r5.2 0)||(neI r6.2 0))||(neI r7.2 0))=false),rp 3 (oI (((((neI r5.2 0)||(neI r6.2 0))||(neI r7.2 0))||(gtI r7.1.price r6.1))=false)),oR True (((((neI r5.2 0)||(neI r6.2 0))||(neI r7.2 0))||(gtI r7.1.price r6.1))=false),rp 4 (oI ((((((neI r5.2 0)||(neI r6.2 0))||(neI r7.2 0))||(gtI r7.1.price r6.1))||(neI r7.1.set_ r5.1))=false)),oR True ((((((neI r5.2 0)||(neI r6.2 0))||(neI r7.2 0))||(gtI r7.1.price r6.1))||(neI r7.1.set_ r5.1))=false),rp 5 (oI (((((((neI r5.2 0)||(neI r6.2 0))||(neI r7.2 0))||(gtI r7.1.price r6.1))||(neI r7.1.set_ r5.1))||(neI r7.1.type_ r.type_))=false)),oR True (((((((neI r5.2 0)||(neI r6.2 0))||(neI r7.2 0))||(gtI r7.1.price r6.1))||(neI r7.1.set_ r5.1))||(neI r7.1.type_ r.type_))=false),rp 3 (oI ((((((((neI r5.2 0)||(neI r6.2 0))||(neI r7.2 0))||(gtI r7.1.price r6.1))||(neI r7.1.set_ r5.1))||(neI r7.1.type_ r.type_))||(neI r7.1.route.type_ r.type_))=false)),oR True ((((((((neI r5.2 0)||(neI r6.2 0))||(neI r7.2 0))||(gtI r7.1.price r6.1))||(neI r7.1.set_ r5.1))||(neI r7.1.type_ r.type_))||(neI r7.1.route.type_ r.type_))=false),rp 3 (oI (((((((((neI r5.2 0)||(neI r6.2 0))||(neI r7.2 0))||(gtI r7.1.price r6.1))||(neI r7.1.set_ r5.1))||(neI r7.1.type_ r.type_))||(neI r7.1.route.type_ r.type_))||(neI r7.1.route.start 0))=false)),nL QaQ r7.1.route.rests,hP,hP,oI (((((((((neI r5.2 0)||(neI r6.2 0))||(neI r7.2 0))||(gtI r7.1.price r6.1))||(neI r7.1.set_ r5.1))||(neI r7.1.type_ r.type_))||(neI r7.1.route.type_ r.type_))||(neI r7.1.route.start 0))=false),oR True (((((((((neI r5.2 0)||(neI r6.2 0))||(neI r7.2 0))||(gtI r7.1.price r6.1))||(neI r7.1.set_ r5.1))||(neI r7.1.type_ r.type_))||(neI r7.1.route.type_ r.type_))||(neI r7.1.route.start 0))=false),bF h9,cC (Qbi h10),cC (QbV h11),rp 4 hP,rp 2 (oI ((eqI r8.2 0)=true)),oR True ((eqI r8.2 0)=true),rp 4 (bT h12),cC (QbW h13),rp 2 (bT h12),rp 8 hP,oI ((eqI r10 0)=true),oR True ((eqI r10 0)=true),rp 3 (oI (((eqI r10 0)&&(eqI r9.2 0))=true)),oR True (((eqI r10 0)&&(eqI r9.2 0))=true),rp 5 (bF h14),rp 7 kF,rp 2 (bF h14),fF,fF]
    ·obtain rfl:=Option.some.inj h
     exact gr 24 [] [cC (QdO h0),hP,hP,hP,rp 2 (oI ((!r1)=false)),nL Qaa.enc r.visits,rp 9 hP,oI ((!r1)=false),oR True ((!r1)=false),rp 2 (oI (((!r1)||(gtI (lenI r.visits) 8))=false)),oR True (((!r1)||(gtI (lenI r.visits) 8))=false),rp 2 (oI ((((!r1)||(gtI (lenI r.visits) 8))||(neI r.start 0))=false)),nL QaQ r.rests,hP,hP,oI ((((!r1)||(gtI (lenI r.visits) 8))||(neI r.start 0))=false),oR True ((((!r1)||(gtI (lenI r.visits) 8))||(neI r.start 0))=false),rp 3 (bF h1),cC (QbW h3),bF h1,bF h1,bF h4,cC (Qbi h6),cC (QbV h7),cC (QdB h8),rp 38 hP,oI ((neI r5.2 0)=false),oR True ((neI r5.2 0)=false),oI (((neI r5.2 0)||(neI r6.2 0))=false),oR True (((neI r5.2 0)||(neI r6.2 0))=false),rp 3 (oI ((((neI r5.2 0)||(neI r6.2 0))||(neI r7.2 0))=false)),oR True ((((neI r5.2 0)||(neI r6.2 0))||(neI r7.2 0))=false),rp 3 (oI (((((neI r5.2 0)||(neI r6.2 0))||(neI r7.2 0))||(gtI r7.1.price r6.1))=false)),oR True (((((neI r5.2 0)||(neI r6.2 0))||(neI r7.2 0))||(gtI r7.1.price r6.1))=false),rp 4 (oI ((((((neI r5.2 0)||(neI r6.2 0))||(neI r7.2 0))||(gtI r7.1.price r6.1))||(neI r7.1.set_ r5.1))=false)),oR True ((((((neI r5.2 0)||(neI r6.2 0))||(neI r7.2 0))||(gtI r7.1.price r6.1))||(neI r7.1.set_ r5.1))=false),rp 5 (oI (((((((neI r5.2 0)||(neI r6.2 0))||(neI r7.2 0))||(gtI r7.1.price r6.1))||(neI r7.1.set_ r5.1))||(neI r7.1.type_ r.type_))=false)),oR True (((((((neI r5.2 0)||(neI r6.2 0))||(neI r7.2 0))||(gtI r7.1.price r6.1))||(neI r7.1.set_ r5.1))||(neI r7.1.type_ r.type_))=false),rp 3 (oI ((((((((neI r5.2 0)||(neI r6.2 0))||(neI r7.2 0))||(gtI r7.1.price r6.1))||(neI r7.1.set_ r5.1))||(neI r7.1.type_ r.type_))||(neI r7.1.route.type_ r.type_))=false)),oR True ((((((((neI r5.2 0)||(neI r6.2 0))||(neI r7.2 0))||(gtI r7.1.price r6.1))||(neI r7.1.set_ r5.1))||(neI r7.1.type_ r.type_))||(neI r7.1.route.type_ r.type_))=false),rp 3 (oI (((((((((neI r5.2 0)||(neI r6.2 0))||(neI r7.2 0))||(gtI r7.1.price r6.1))||(neI r7.1.set_ r5.1))||(neI r7.1.type_ r.type_))||(neI r7.1.route.type_ r.type_))||(neI r7.1.route.start 0))=false)),nL QaQ r7.1.route.rests,hP,hP,oI (((((((((neI r5.2 0)||(neI r6.2 0))||(neI r7.2 0))||(gtI r7.1.price r6.1))||(neI r7.1.set_ r5.1))||(neI r7.1.type_ r.type_))||(neI r7.1.route.type_ r.type_))||(neI r7.1.route.start 0))=false),oR True (((((((((neI r5.2 0)||(neI r6.2 0))||(neI r7.2 0))||(gtI r7.1.price r6.1))||(neI r7.1.set_ r5.1))||(neI r7.1.type_ r.type_))||(neI r7.1.route.type_ r.type_))||(neI r7.1.route.start 0))=false),bF h9,cC (Qbi h10),cC (QbV h11),rp 4 hP,rp 2 (oI ((eqI r8.2 0)=true)),oR True ((eqI r8.2 0)=true),rp 6 (bF h12),rp 13 fF,rp 7 kF,rp 4 fF]
end Go.Proofs.YtoedkepcaigkeaaGreatDoor
