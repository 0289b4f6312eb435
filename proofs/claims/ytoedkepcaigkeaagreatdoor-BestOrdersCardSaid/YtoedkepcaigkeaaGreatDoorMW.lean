/- Part MW of the proof: texts X2 X3. -/
import Derived.Test.YtoedkepcaigkeaaGreatDoorMV
import Derived.Test.YtoedkepcaigkeaaGreatDoorProg
namespace Go.Proofs.YtoedkepcaigkeaaGreatDoor
set_option linter.unusedVariables false
set_option linter.unusedSectionVars false
set_option linter.unusedSimpArgs false
set_option maxHeartbeats 4000000
set_option maxRecDepth 100000
def Qh8 (Γ:Gam) (rv:List Int×Int) (cf:Cf):Prop:=Go Tryz.prog Tryz.f186 [] Γ (.tup [.one (lL 1 rv.1 e_i64),.one (lI rv.2)]) [] cf
def Qmq (Γ:Gam) (rv:List Int×Int) (x0:Qac) (l:List Qaa) (n:Int) (l1:List (List Int)) (i:Int) (on_:Bool) (there:Bool) (k:Int):Prop:=Qh8 Γ rv ⟨[.c 29844,.l 29844,.b 2,.c 3731,.b 1,.c 467,.l 116,.b 0,.c 15],⟨69,[vL 1 2 l Qaa.enc,vI 2 n,vP 3 0 6,vO 8 1 1 l1 Qbi,vI 9 i,vB 10 on_,vB 11 there,vI 12 k],[oX 6 30 (Qac.enc x0),oS 1 90 l1 Qbi]⟩⟩
def Qlp (Γ:Gam) (rv:List Int×Int) (x0:Qac) (l:List Qaa) (n:Int) (l1:List (List Int)) (i:Int) (on_1:Bool) (there1:Bool):Prop:=Qh8 Γ rv ⟨[.c 3731,.b 1,.c 467,.l 116,.b 0,.c 15],⟨69,[vL 1 2 l Qaa.enc,vI 2 n,vP 3 0 6,vO 8 1 1 l1 Qbi,vI 9 i,vB 10 on_1,vB 11 there1],[oX 6 30 (Qac.enc x0),oS 1 90 l1 Qbi]⟩⟩
def Qmp (Γ:Gam) (rv:List Int×Int) (x0:Qac) (l:List Qaa) (n:Int) (l1:List (List Int)) (i:Int):Prop:=Qh8 Γ rv ⟨[.c 116,.l 116,.b 0,.c 15],⟨69,[vL 1 2 l Qaa.enc,vI 2 n,vP 3 0 6,vO 8 1 1 l1 Qbi,vI 9 i],[oX 6 30 (Qac.enc x0),oS 1 90 l1 Qbi]⟩⟩
def Qlo (Γ:Gam) (rv:List Int×Int) (x0:Qac) (l:List Qaa) (n:Int) (l2:List (List Int)):Prop:=Qh8 Γ rv ⟨[.c 15],⟨69,[vP 3 0 6,vO 8 1 1 l2 Qbi],[oX 6 30 (Qac.enc x0),oS 1 90 l2 Qbi]⟩⟩
theorem Qq4 (Γ:Gam) (rv:List Int×Int) {x0 l n l1 i} {s:Bool×Bool×Int} {e:Bool×Bool} (h:loopF (fun s=>Qch x0 l n l1 i s.1 s.2.1 s.2.2) s=some e) (hD:Qlp Γ rv x0 l n l1 i e.1 e.2):Qmq Γ rv x0 l n l1 i s.1 s.2.1 s.2.2:=by
 refine QaD (C:=fun (s:Bool×Bool×Int)=>Qmq Γ rv x0 l n l1 i s.1 s.2.1 s.2.2) (D:=fun (e:Bool×Bool)=>Qlp Γ rv x0 l n l1 i e.1 e.2) ?_ h hD
 clear h hD s e
 rintro ⟨on_,there,k⟩ z_ h hI hE
 replace h:Qch x0 l n l1 i on_ there k=_:=h
 unfold Qch at h
 rcases Qai h with ⟨h2,h⟩|⟨h2,h⟩
 ·obtain ⟨x2,h3,h⟩:=Qad h
  rcases Qai h with ⟨h4,h⟩|⟨h4,h⟩
  ·exact gn 14 [1,2,3,8,9,10,11,12] [0,1] [nL Qaa.enc l,bT h2,cE Qaa.enc h3,bT h4] (hI _ (oJ h))
  ·rcases Qai h with ⟨h5,h⟩|⟨h5,h⟩
   ·exact gn 21 [1,2,3,8,9,10,11,12] [0,1] [nL Qaa.enc l,bT h2,cE Qaa.enc h3,bF h4,bT h5,cE Qaa.enc h3] (hI _ (oJ h))
   ·exact gn 21 [1,2,3,8,9,10,11,12] [0,1] [nL Qaa.enc l,bT h2,cE Qaa.enc h3,bF h4,bF h5] (hI _ (oJ h))
 ·exact gn 5 [1,2,3,8,9,10,11] [0,1] [nL Qaa.enc l,bF h2] (hE _ (oJ h))
theorem Qq3 (Γ:Gam) (rv:List Int×Int) {x0 l n} {s:List (List Int)×Int} {e:List (List Int)} (h:loopF (fun s=>Qcg x0 l n s.1 s.2) s=some e) (hD:Qlo Γ rv x0 l n e):Qmp Γ rv x0 l n s.1 s.2:=by
 refine QaD (C:=fun (s:List (List Int)×Int)=>Qmp Γ rv x0 l n s.1 s.2) (D:=fun (e:List (List Int))=>Qlo Γ rv x0 l n e) ?_ h hD
 clear h hD s e
 rintro ⟨l1,i⟩ z_ h hI hE
 replace h:Qcg x0 l n l1 i=_:=h
 unfold Qcg at h
 rcases Qai h with ⟨h0,h⟩|⟨h0,h⟩
 ·obtain ⟨x1,h1,h⟩:=Qad h
  obtain ⟨e0,h6,h⟩:=Qad h
  refine gn 14 [1,2,3,8,9,10,11,12] [0,1] [nL Qah.enc x0.orders,bT h0,cE Qah.enc h1] (Qq4 Γ rv h6 ?_)
  obtain ⟨on_1,there1⟩:=e0
  replace h:(br (on_1&&there1) (bnd (getI x0.orders i) fun x3=>chk (okN (l1++[x3.load]).length 24) (some (.inl ((l1++[x3.load]),(addK .i64 i 1))))) (some (.inl (l1,(addK .i64 i 1)))):Option ((List (List Int)×Int)⊕(List (List Int))))=some _:=h
  rcases Qai h with ⟨h7,h⟩|⟨h7,h⟩
  ·obtain ⟨x3,h8,h⟩:=Qad h
   obtain ⟨h9,h⟩:=Qaw h
   exact gn 7 [1,2,3,8,9] [0,3] [hP,hP,oR True (on_1=true),bT h7,cE Qah.enc h8,oO (Eq.refl ([x3.load].map Qbi).length),aO Qbi h9] (hI _ (oJ h))
  ·exact gn 7 [1,2,3,8,9] [0,1] [hP,hP,oR True (on_1=true),bF h7] (hI _ (oJ h))
 ·exact gn 5 [3,8] [0,1] [nL Qah.enc x0.orders,bF h0] (hE _ (oJ h))
theorem Qn1 {x0 l n} {rv:List Int×Int} (h:QhU x0 l n=some rv):AFn Tryz.prog 186 [.agg (Qac.enc x0),.one (lL 2 l Qaa.enc),.one (lI n)] [] (.tup [.one (lL 1 rv.1 e_i64),.one (lI rv.2)]) []:=by
 refine QaN Tryz.func186 (by kernel_rfl) (by kernel_rfl) (fun Γ=>?_)
 unfold QhU at h
 obtain ⟨e1,h10,h⟩:=Qad h
 refine gn 9 [1,2,3,8,9] [0,1] [hW 14,hH (.adopt 8 1 90)] (Qq3 Γ rv h10 ?_)
 obtain ⟨l2,rfl⟩:∃ x,x=e1:=⟨_,rfl⟩
 replace h:(bnd (Qhg x0) fun r=>bnd (Qh6 l2 r) fun r1=>some (r1.1,r1.2):Option (List Int×Int))=some _:=h
 obtain ⟨r,h11,h⟩:=Qad h
 obtain ⟨r1,h12,h⟩:=Qad h
 obtain rfl:=Option.some.inj h
 exact gr 2 [] [cC (QtI h11),hH (.frz 1),rp 2 (eL l2 Qbi),cC (Qup h12)]
def Qo4 (Γ:Gam) (rv:List (List Int)×Int) (cf:Cf):Prop:=Go Tryz.prog Tryz.f143 [] Γ (.tup [.one (lL 1 rv.1 Qbi),.one (lI rv.2)]) [] cf
def Qmo (Γ:Gam) (rv:List (List Int)×Int) (x0:Qac) (r:Qag) (l:List (List Int)) (n:Int):Prop:=Qo4 Γ rv ⟨[.c 244,.l 244,.b 0,.c 31],⟨40,[vP 2 0 6,vP 3 1 4,vO 7 2 1 l Qbi,vI 8 n],[oX 6 30 (Qac.enc x0),oX 4 37 (Qag.enc r),oS 1 90 l Qbi]⟩⟩
def Qln (Γ:Gam) (rv:List (List Int)×Int) (x0:Qac) (r:Qag) (l1:List (List Int)):Prop:=Qo4 Γ rv ⟨[.c 31],⟨40,[vO 7 0 1 l1 Qbi],[oS 1 90 l1 Qbi]⟩⟩
theorem Qq2 (Γ:Gam) (rv:List (List Int)×Int) {x0 r} {s:List (List Int)×Int} {e:(List (List Int))⊕(List (List Int)×Int)} (h:loopF (fun s=>Qcf x0 r s.1 s.2) s=some e) (hD:sel e (fun e=>Qln Γ rv x0 r e) (fun e=>e=rv)):Qmo Γ rv x0 r s.1 s.2:=by
 refine QaD (C:=fun (s:List (List Int)×Int)=>Qmo Γ rv x0 r s.1 s.2) (D:=fun (e:(List (List Int))⊕(List (List Int)×Int))=>sel e (fun e=>Qln Γ rv x0 r e) (fun e=>e=rv)) ?_ h hD
 clear h hD s e
 rintro ⟨l,n⟩ z_ h hI hE
 replace h:Qcf x0 r l n=_:=h
 unfold Qcf at h
 rcases Qai h with ⟨h2,h⟩|⟨h2,h⟩
 ·obtain ⟨r2,h3,h⟩:=Qad h
  rcases Qai h with ⟨h4,h⟩|⟨h4,h⟩
  ·obtain rfl:=(hE _ (oJ h):_=rv)
   exact gr 15 [] [nL Qaa.enc r.visits,bT h2,cC (Qn1 h3),bT h4,hW 5,hH (.nilS 4 0 1)]
  ·obtain ⟨h5,h⟩:=Qaw h
   exact gn 18 [2,3,7,8] [0,1,4] [nL Qaa.enc r.visits,bT h2,cC (Qn1 h3),bF h4,oO (Eq.refl ([r2.1].map Qbi).length),aO Qbi h5] (hI _ (oJ h))
 ·exact gn 5 [7] [2] [nL Qaa.enc r.visits,bF h2] (hE _ (oJ h))
theorem Qn0 {x0 r} {rv:List (List Int)×Int} (h:QhT x0 r=some rv):AFn Tryz.prog 143 [.agg (Qac.enc x0),.agg (Qag.enc r)] [] (.tup [.one (lL 1 rv.1 Qbi),.one (lI rv.2)]) []:=by
 refine QaN Tryz.func143 (by kernel_rfl) (by kernel_rfl) (fun Γ=>?_)
 unfold QhT at h
 obtain ⟨r1,h0,h⟩:=Qad h
 rcases Qai h with ⟨h1,h⟩|⟨h1,h⟩
 ·obtain rfl:=Option.some.inj h
  exact gr 10 [] [cC (QhB h0),bT h1,hW 5,hH (.nilS 4 0 1)]
 ·obtain ⟨e0,h6,h⟩:=Qad h
  refine gn 16 [2,3,7,8] [0,1,2] [cC (QhB h0),bF h1,hW 10,hH (.adopt 7 1 90)] (Qq2 Γ rv h6 ?_)
  rcases e0 with e0|e0
  ·obtain ⟨l1,rfl⟩:∃ x,x=e0:=⟨_,rfl⟩
   replace h:(some (l1,0):Option (List (List Int)×Int))=some _:=h
   obtain rfl:=Option.some.inj h
   exact gr 2 [] [hW 5,hH (.frz 0),rp 3 (eL l1 Qbi)]
  ·obtain ⟨r3,rfl⟩:∃ x,x=e0:=⟨_,rfl⟩
   replace h:(some r3:Option (List (List Int)×Int))=some _:=h
   exact Option.some.inj h
def QpS (Γ:Gam) (rv:Bool) (cf:Cf):Prop:=Go Tryz.prog Tryz.f144 [] Γ (one (.bool rv)) [] cf
def Qm2 (Γ:Gam) (rv:Bool) (a:List Int) (capacity:List Int) (i:Int):Prop:=QpS Γ rv ⟨[.c 116,.l 116,.b 0,.c 15],⟨26,[vL 0 1 a e_i64,vL 1 1 capacity e_i64,vI 5 i],[]⟩⟩
def QlZ (Γ:Gam) (rv:Bool) (a:List Int) (capacity:List Int):Prop:=QpS Γ rv ⟨[.c 15],⟨26,[],[]⟩⟩
theorem QrM (Γ:Gam) (rv:Bool) {a capacity} {s:Int} {e:(Unit)⊕(Bool)} (h:loopF (fun s=>Qc3 a capacity s) s=some e) (hD:sel e (fun e=>QlZ Γ rv a capacity) (fun e=>e=rv)):Qm2 Γ rv a capacity s:=by
 refine QaD (C:=fun (s:Int)=>Qm2 Γ rv a capacity s) (D:=fun (e:(Unit)⊕(Bool))=>sel e (fun e=>QlZ Γ rv a capacity) (fun e=>e=rv)) ?_ h hD
 clear h hD s e
 intro i z_ h hI hE
 replace h:Qc3 a capacity i=_:=h
 unfold Qc3 at h
 rcases Qai h with ⟨h1,h⟩|⟨h1,h⟩
 ·obtain ⟨x0,h2,h⟩:=Qad h
  obtain ⟨x1,h3,h⟩:=Qad h
  rcases Qai h with ⟨h4,h⟩|⟨h4,h⟩
  ·obtain rfl:=(hE _ (oJ h):_=rv)
   exact gr 12 [] [nL e_i64 a,bT h1,hH (.draw 9 []),cE e_i64 h2,cE e_i64 h3,bT h4]
  ·exact gn 14 [0,1,5] [] [nL e_i64 a,bT h1,hH (.draw 9 []),cE e_i64 h2,cE e_i64 h3,bF h4] (hI _ (oJ h))
 ·exact gn 5 [] [] [nL e_i64 a,bF h1] (hE _ (oJ h))
theorem QoQ {a capacity} {rv:Bool} (h:Qis a capacity=some rv):AFn Tryz.prog 144 [.one (lL 1 a e_i64),.one (lL 1 capacity e_i64)] [] (one (.bool rv)) []:=by
 refine QaN Tryz.func144 (by kernel_rfl) (by kernel_rfl) (fun Γ=>?_)
 unfold Qis at h
 rcases Qai h with ⟨h0,h⟩|⟨h0,h⟩
 ·obtain rfl:=Option.some.inj h
  exact gr 8 [] [nL e_i64 a,nL e_i64 capacity,bT h0]
 ·obtain ⟨e0,h5,h⟩:=Qad h
  refine gn 12 [0,1,5] [] [nL e_i64 a,nL e_i64 capacity,bF h0] (QrM Γ rv h5 ?_)
  rcases e0 with e0|e0
  ·replace h:(some true:Option Bool)=some _:=h
   obtain rfl:=Option.some.inj h
   exact gr 2 [] []
  ·obtain ⟨r,rfl⟩:∃ x,x=e0:=⟨_,rfl⟩
   replace h:(some r:Option Bool)=some _:=h
   exact Option.some.inj h
def QpY (Γ:Gam) (rv:Int) (cf:Cf):Prop:=Go Tryz.prog Tryz.f98 [] Γ (one (lI rv)) [] cf
def Qne (Γ:Gam) (rv:Int) (x0:Qac) (r:Qag) (r1:List (List Int)×Int) (i:Int):Prop:=QpY Γ rv ⟨[.c 500,.l 500,.b 0,.c 63],⟨47,[vP 2 0 6,vP 3 1 4,vL 5 1 r1.1 Qbi,vI 7 i],[oX 6 30 (Qac.enc x0),oX 4 37 (Qag.enc r)]⟩⟩
def Qmn (Γ:Gam) (rv:Int) (x0:Qac) (r:Qag) (r1:List (List Int)×Int):Prop:=QpY Γ rv ⟨[.c 63],⟨47,[],[]⟩⟩
theorem QrU (Γ:Gam) (rv:Int) {x0 r r1} {s:Int} {e:(Unit)⊕(Int)} (h:loopF (fun s=>Qc8 x0 r r1 s) s=some e) (hD:sel e (fun e=>Qmn Γ rv x0 r r1) (fun e=>e=rv)):Qne Γ rv x0 r r1 s:=by
 refine QaD (C:=fun (s:Int)=>Qne Γ rv x0 r r1 s) (D:=fun (e:(Unit)⊕(Int))=>sel e (fun e=>Qmn Γ rv x0 r r1) (fun e=>e=rv)) ?_ h hD
 clear h hD s e
 intro i z_ h hI hE
 replace h:Qc8 x0 r r1 i=_:=h
 unfold Qc8 at h
 rcases Qai h with ⟨h3,h⟩|⟨h3,h⟩
 ·obtain ⟨x1,h4,h⟩:=Qad h
  obtain ⟨x2,h5,h⟩:=Qad h
  obtain ⟨r2,h6,h⟩:=Qad h
  rcases Qai h with ⟨h7,h⟩|⟨h7,h⟩
  ·exact gn 14 [2,3,5,7] [0,1] [nL Qbi r1.1,bT h3,hH (.draw 13 []),cE Qbi h4,cE Qak.enc h5,cC (QoQ h6),nF h7] (hI _ (oJ h))
  ·obtain rfl:=(hE _ (oJ h):_=rv)
   exact gr 12 [] [nL Qbi r1.1,bT h3,hH (.draw 13 []),cE Qbi h4,cE Qak.enc h5,cC (QoQ h6),nT h7]
 ·exact gn 5 [] [] [nL Qbi r1.1,bF h3] (hE _ (oJ h))
theorem Qkl {x0 r} {rv:Int} (h:Qhf x0 r=some rv):AFn Tryz.prog 98 [.agg (Qac.enc x0),.agg (Qag.enc r)] [] (one (lI rv)) []:=by
 refine QaN Tryz.func98 (by kernel_rfl) (by kernel_rfl) (fun Γ=>?_)
 unfold Qhf at h
 rcases Qai h with ⟨h0,h⟩|⟨h0,h⟩
 ·obtain rfl:=Option.some.inj h
  exact gr 8 [] [rp 5 hP,rp 3 (oI ((ltI r.type_ 0)=false)),nL Qak.enc x0.types,hP,hP,rp 2 (oI ((ltI r.type_ 0)=false)),oR True ((ltI r.type_ 0)=false),bT h0]
 ·obtain ⟨r1,h1,h⟩:=Qad h
  rcases Qai h with ⟨h2,h⟩|⟨h2,h⟩
  ·obtain rfl:=Option.some.inj h
   exact gr 15 [] [rp 5 hP,rp 3 (oI ((ltI r.type_ 0)=false)),nL Qak.enc x0.types,hP,hP,rp 2 (oI ((ltI r.type_ 0)=false)),oR True ((ltI r.type_ 0)=false),bF h0,cC (Qn0 h1),bT h2]
  ·obtain ⟨e0,h8,h⟩:=Qad h
   refine gn 19 [2,3,5,7] [0,1] [rp 5 hP,rp 3 (oI ((ltI r.type_ 0)=false)),nL Qak.enc x0.types,hP,hP,rp 2 (oI ((ltI r.type_ 0)=false)),oR True ((ltI r.type_ 0)=false),bF h0,cC (Qn0 h1),bF h2] (QrU Γ rv h8 ?_)
   rcases e0 with e0|e0
   ·replace h:(some 0:Option Int)=some _:=h
    obtain rfl:=Option.some.inj h
    exact gr 2 [] []
   ·obtain ⟨r3,rfl⟩:∃ x,x=e0:=⟨_,rfl⟩
    replace h:(some r3:Option Int)=some _:=h
    exact Option.some.inj h
theorem Qib {x0 v} {rv:Qau×Bool} (h:Qep x0 v=some rv):AFn Tryz.prog 187 [.agg (Qac.enc x0),.agg (Qaa.enc v)] [] (.tup [.agg [lI rv.1.place,lI rv.1.open_,lI rv.1.close,lI rv.1.service],.one (.bool rv.2)]) []:=by
 refine QaN Tryz.func187 (by kernel_rfl) (by kernel_rfl) (fun Γ=>?_)
 unfold Qep at h
 rcases Qai h with ⟨h0,h⟩|⟨h0,h⟩
 ·obtain rfl:=Option.some.inj h
  exact gr 8 [] [rp 5 hP,rp 3 (oI ((ltI v.order 0)=false)),nL Qah.enc x0.orders,hP,hP,rp 2 (oI ((ltI v.order 0)=false)),oR True ((ltI v.order 0)=false),bT h0]
 ·obtain ⟨x1,h1,h⟩:=Qad h
  rcases Qai h with ⟨h2,h⟩|⟨h2,h⟩
  ·obtain rfl:=Option.some.inj h
   exact gr 16 [] [rp 5 hP,rp 3 (oI ((ltI v.order 0)=false)),nL Qah.enc x0.orders,hP,hP,rp 2 (oI ((ltI v.order 0)=false)),oR True ((ltI v.order 0)=false),bF h0,cE Qah.enc h1,bT h2,cE Qah.enc h1,hH (.draw 6 [(2,4)])]
  ·obtain rfl:=Option.some.inj h
   exact gr 16 [] [rp 5 hP,rp 3 (oI ((ltI v.order 0)=false)),nL Qah.enc x0.orders,hP,hP,rp 2 (oI ((ltI v.order 0)=false)),oR True ((ltI v.order 0)=false),bF h0,cE Qah.enc h1,bF h2,hH (.draw 6 [(2,4)])]
def Qms (Γ:Gam) (rv:Bool) (cf:Cf):Prop:=Go Tryz.prog Tryz.f145 [] Γ (one (.bool rv)) [] cf
def QjA (Γ:Gam) (rv:Bool) (x0:Qac) (r:Qag) (i:Int):Prop:=Qms Γ rv ⟨[.c 116,.l 116,.b 0,.c 15],⟨54,[vP 2 0 6,vP 3 1 4,vI 5 i],[oX 6 30 (Qac.enc x0),oX 4 37 (Qag.enc r)]⟩⟩
def Qjc (Γ:Gam) (rv:Bool) (x0:Qac) (r:Qag):Prop:=Qms Γ rv ⟨[.c 15],⟨54,[],[]⟩⟩
theorem Qo6 (Γ:Gam) (rv:Bool) {x0 r} {s:Int} {e:(Unit)⊕(Bool)} (h:loopF (fun s=>Qb0 x0 r s) s=some e) (hD:sel e (fun e=>Qjc Γ rv x0 r) (fun e=>e=rv)):QjA Γ rv x0 r s:=by
 refine QaD (C:=fun (s:Int)=>QjA Γ rv x0 r s) (D:=fun (e:(Unit)⊕(Bool))=>sel e (fun e=>Qjc Γ rv x0 r) (fun e=>e=rv)) ?_ h hD
 clear h hD s e
 intro i z_ h hI hE
 replace h:Qb0 x0 r i=_:=h
 unfold Qb0 at h
 rcases Qai h with ⟨h1,h⟩|⟨h1,h⟩
 ·obtain ⟨x1,h2,h⟩:=Qad h
  obtain ⟨r1,h3,h⟩:=Qad h
  rcases Qai h with ⟨h4,h⟩|⟨h4,h⟩
  ·exact gn 16 [2,3,5] [0,1] [nL Qaa.enc r.visits,bT h1,hH (.draw 13 [(2,11)]),cE Qaa.enc h2,cC (Qib h3),nF h4] (hI _ (oJ h))
  ·obtain rfl:=(hE _ (oJ h):_=rv)
   exact gr 14 [] [nL Qaa.enc r.visits,bT h1,hH (.draw 13 [(2,11)]),cE Qaa.enc h2,cC (Qib h3),nT h4]
 ·exact gn 5 [] [] [nL Qaa.enc r.visits,bF h1] (hE _ (oJ h))
theorem QfU {x0 r} {rv:Bool} (h:Qdj x0 r=some rv):AFn Tryz.prog 145 [.agg (Qac.enc x0),.agg (Qag.enc r)] [] (one (.bool rv)) []:=by
 refine QaN Tryz.func145 (by kernel_rfl) (by kernel_rfl) (fun Γ=>?_)
 unfold Qdj at h
 rcases Qai h with ⟨h0,h⟩|⟨h0,h⟩
 ·obtain rfl:=Option.some.inj h
  exact gr 8 [] [rp 5 hP,rp 3 (oI ((ltI r.type_ 0)=false)),nL Qak.enc x0.types,rp 13 hP,rp 2 (oI ((ltI r.type_ 0)=false)),oR True ((ltI r.type_ 0)=false),rp 2 (oI (((ltI r.type_ 0)||(geI r.type_ (lenI x0.types)))=false)),oR True (((ltI r.type_ 0)||(geI r.type_ (lenI x0.types)))=false),rp 2 (oI ((((ltI r.type_ 0)||(geI r.type_ (lenI x0.types)))||(ltI r.start 0))=false)),oR True ((((ltI r.type_ 0)||(geI r.type_ (lenI x0.types)))||(ltI r.start 0))=false),rp 2 (oI (((((ltI r.type_ 0)||(geI r.type_ (lenI x0.types)))||(ltI r.start 0))||(gtI r.start 4096))=false)),nL Qaa.enc r.visits,hP,hP,oI (((((ltI r.type_ 0)||(geI r.type_ (lenI x0.types)))||(ltI r.start 0))||(gtI r.start 4096))=false),oR True (((((ltI r.type_ 0)||(geI r.type_ (lenI x0.types)))||(ltI r.start 0))||(gtI r.start 4096))=false),bT h0]
 ·obtain ⟨e0,h5,h⟩:=Qad h
  refine gn 12 [2,3,5] [0,1] [rp 5 hP,rp 3 (oI ((ltI r.type_ 0)=false)),nL Qak.enc x0.types,rp 13 hP,rp 2 (oI ((ltI r.type_ 0)=false)),oR True ((ltI r.type_ 0)=false),rp 2 (oI (((ltI r.type_ 0)||(geI r.type_ (lenI x0.types)))=false)),oR True (((ltI r.type_ 0)||(geI r.type_ (lenI x0.types)))=false),rp 2 (oI ((((ltI r.type_ 0)||(geI r.type_ (lenI x0.types)))||(ltI r.start 0))=false)),oR True ((((ltI r.type_ 0)||(geI r.type_ (lenI x0.types)))||(ltI r.start 0))=false),rp 2 (oI (((((ltI r.type_ 0)||(geI r.type_ (lenI x0.types)))||(ltI r.start 0))||(gtI r.start 4096))=false)),nL Qaa.enc r.visits,hP,hP,oI (((((ltI r.type_ 0)||(geI r.type_ (lenI x0.types)))||(ltI r.start 0))||(gtI r.start 4096))=false),oR True (((((ltI r.type_ 0)||(geI r.type_ (lenI x0.types)))||(ltI r.start 0))||(gtI r.start 4096))=false),bF h0] (Qo6 Γ rv h5 ?_)
  rcases e0 with e0|e0
  ·replace h:(some true:Option Bool)=some _:=h
   obtain rfl:=Option.some.inj h
   exact gr 2 [] []
  ·obtain ⟨r2,rfl⟩:∃ x,x=e0:=⟨_,rfl⟩
   replace h:(some r2:Option Bool)=some _:=h
   exact Option.some.inj h
theorem Qo8 {t s0 yes} {rv:Qaz} (h:Qhh t s0 yes=some rv):AFn Tryz.prog 203 [.agg (Qak.enc t),.agg (Qaz.enc s0),.one (.bool yes)] [] (gG [lI rv.place,lI rv.time,lI rv.driven,lI rv.miles]) []:=by
 refine QaN Tryz.func203 (by kernel_rfl) (by kernel_rfl) (fun Γ=>?_)
 unfold Qhh at h
 rcases Qai h with ⟨h0,h⟩|⟨h0,h⟩
 ·obtain rfl:=Option.some.inj h
  exact gr 11 [] [bT h0]
 ·obtain rfl:=Option.some.inj h
  exact gr 9 [] [bF h0]
theorem QcA {n p} {rv:Bool} (h:Qgl n p=some rv):AFn Tryz.prog 215 [.agg (Qam.enc n),.one (lI p)] [] (one (.bool rv)) []:=by
 refine QaN Tryz.func215 (by kernel_rfl) (by kernel_rfl) (fun Γ=>?_)
 unfold Qgl at h
 obtain rfl:=Option.some.inj h
 exact gr 4 [] [rp 4 hP,rp 2 (oI ((geI p 0)=true)),nL e_str n.places,hP,hP,rp 2 (oI ((geI p 0)=true)),oR True ((geI p 0)=true)]
def QpU (Γ:Gam) (rv:Qas×Bool) (cf:Cf):Prop:=Go Tryz.prog Tryz.f216 [] Γ (.tup [.agg [lI rv.1.from_,lI rv.1.to_,lI rv.1.profile,lI rv.1.miles,lL 2 rv.1.travel Qao.enc,lL 2 rv.1.slow Qao.enc],.one (.bool rv.2)]) [] cf
def Qm6 (Γ:Gam) (rv:Qas×Bool) (n:Qam) (profile:Int) (from_:Int) (to_:Int) (i:Int):Prop:=QpU Γ rv ⟨[.c 52,.l 52,.b 0,.c 7],⟨42,[vI 1 profile,vI 2 from_,vI 3 to_,vP 4 0 2,vP 8 1 6,vI 10 i],[oX 2 25 (Qam.enc n),oX 6 120 [lI 0,lI 0,lI 0,lI 0,.nils,.nils]]⟩⟩
def Ql3 (Γ:Gam) (rv:Qas×Bool) (n:Qam) (profile:Int) (from_:Int) (to_:Int):Prop:=QpU Γ rv ⟨[.c 7],⟨42,[vP 8 0 6],[oX 6 120 [lI 0,lI 0,lI 0,lI 0,.nils,.nils]]⟩⟩
theorem QrO (Γ:Gam) (rv:Qas×Bool) {n profile from_ to_} {s:Int} {e:(Unit)⊕(Qas×Bool)} (h:loopF (fun s=>Qfk n profile from_ to_ s) s=some e) (hD:sel e (fun e=>Ql3 Γ rv n profile from_ to_) (fun e=>e=rv)):Qm6 Γ rv n profile from_ to_ s:=by
 refine QaD (C:=fun (s:Int)=>Qm6 Γ rv n profile from_ to_ s) (D:=fun (e:(Unit)⊕(Qas×Bool))=>sel e (fun e=>Ql3 Γ rv n profile from_ to_) (fun e=>e=rv)) ?_ h hD
 clear h hD s e
 intro i z_ h hI hE
 replace h:Qfk n profile from_ to_ i=_:=h
 unfold Qfk at h
 rcases Qai h with ⟨h0,h⟩|⟨h0,h⟩
 ·obtain ⟨x0,h1,h⟩:=Qad h
  rcases Qai h with ⟨h2,h⟩|⟨h2,h⟩
  ·obtain rfl:=(hE _ (oJ h):_=rv)
   exact gr 14 [] [nL Qas.enc n.arcs,bT h0,cE Qas.enc h1,rp 10 hP,rp 3 (oI ((eqI x0.from_ from_)=true)),oR True ((eqI x0.from_ from_)=true),rp 3 (oI (((eqI x0.from_ from_)&&(eqI x0.to_ to_))=true)),oR True (((eqI x0.from_ from_)&&(eqI x0.to_ to_))=true),bT h2]
  ·exact gn 16 [1,2,3,4,8,10] [0,1] [nL Qas.enc n.arcs,bT h0,cE Qas.enc h1,rp 10 hP,rp 3 (oI ((eqI x0.from_ from_)=true)),oR True ((eqI x0.from_ from_)=true),rp 3 (oI (((eqI x0.from_ from_)&&(eqI x0.to_ to_))=true)),oR True (((eqI x0.from_ from_)&&(eqI x0.to_ to_))=true),bF h2] (hI _ (oJ h))
 ·exact gn 5 [8] [1] [nL Qas.enc n.arcs,bF h0] (hE _ (oJ h))
theorem QoT {n profile from_ to_} {rv:Qas×Bool} (h:Qiu n profile from_ to_=some rv):AFn Tryz.prog 216 [.agg (Qam.enc n),.one (lI profile),.one (lI from_),.one (lI to_)] [] (.tup [.agg [lI rv.1.from_,lI rv.1.to_,lI rv.1.profile,lI rv.1.miles,lL 2 rv.1.travel Qao.enc,lL 2 rv.1.slow Qao.enc],.one (.bool rv.2)]) []:=by
 refine QaN Tryz.func216 (by kernel_rfl) (by kernel_rfl) (fun Γ=>?_)
 unfold Qiu at h
 obtain ⟨e0,h3,h⟩:=Qad h
 refine gn 7 [1,2,3,4,8,10] [0,1] [] (QrO Γ rv h3 ?_)
 rcases e0 with e0|e0
 ·replace h:(some ((Qas.mk 0 0 0 0 [] []),false):Option (Qas×Bool))=some _:=h
  obtain rfl:=Option.some.inj h
  exact gr 2 [] [hW 5,hH (.nilB 0 4 2),hH (.nilB 0 5 2)]
 ·obtain ⟨r,rfl⟩:∃ x,x=e0:=⟨_,rfl⟩
  replace h:(some r:Option (Qas×Bool))=some _:=h
  exact Option.some.inj h
def QnU (Γ:Gam) (rv:Int) (cf:Cf):Prop:=Go Tryz.prog Tryz.f219 [] Γ (one (lI rv)) [] cf
def QkD (Γ:Gam) (rv:Int) (l:List Qao) (t:Int) (i:Int):Prop:=QnU Γ rv ⟨[.c 116,.l 116,.b 0,.c 15],⟨93,[vL 0 2 l Qao.enc,vI 1 t,vI 5 i],[]⟩⟩
def QjT (Γ:Gam) (rv:Int) (l:List Qao) (t:Int):Prop:=QnU Γ rv ⟨[.c 15],⟨93,[vL 0 2 l Qao.enc,vI 1 t],[]⟩⟩
theorem Qqg (Γ:Gam) (rv:Int) {l t} {s:Int} {e:(Unit)⊕(Int)} (h:loopF (fun s=>Qeb l t s) s=some e) (hD:sel e (fun e=>QjT Γ rv l t) (fun e=>e=rv)):QkD Γ rv l t s:=by
 refine QaD (C:=fun (s:Int)=>QkD Γ rv l t s) (D:=fun (e:(Unit)⊕(Int))=>sel e (fun e=>QjT Γ rv l t) (fun e=>e=rv)) ?_ h hD
 clear h hD s e
 intro i z_ h hI hE
 replace h:Qeb l t i=_:=h
 unfold Qeb at h
 rcases Qai h with ⟨h2,h⟩|⟨h2,h⟩
 ·obtain ⟨x0,h3,h⟩:=Qad h
  obtain ⟨x1,h4,h⟩:=Qad h
  rcases Qai h with ⟨h5,h⟩|⟨h5,h⟩
  ·obtain ⟨h6,h⟩:=Qaw h
   obtain rfl:=(hE _ (oJ h):_=rv)
   exact gr 16 [] [nL Qao.enc l,bT h2,cE Qao.enc h3,cE Qao.enc h4,rp 5 hP,rp 3 (oI ((leI x0.t t)=true)),oR True ((leI x0.t t)=true),bT h5,hH (.draw 27 []),oO (h6)]
  ·exact gn 18 [0,1,5] [] [nL Qao.enc l,bT h2,cE Qao.enc h3,cE Qao.enc h4,rp 5 hP,rp 3 (oI ((leI x0.t t)=true)),oR True ((leI x0.t t)=true),bF h5] (hI _ (oJ h))
 ·exact gn 5 [0,1] [] [nL Qao.enc l,bF h2] (hE _ (oJ h))
theorem Qso {l t} {rv:Int} (h:Qg3 l t=some rv):AFn Tryz.prog 219 [.one (lL 2 l Qao.enc),.one (lI t)] [] (one (lI rv)) []:=by
 refine QaN Tryz.func219 (by kernel_rfl) (by kernel_rfl) (fun Γ=>?_)
 unfold Qg3 at h
 obtain ⟨r,h0,h⟩:=Qad h
 rcases Qai h with ⟨h1,h⟩|⟨h1,h⟩
 ·obtain rfl:=Option.some.inj h
  exact gr 8 [] [cC (Qjq h0),nL Qab.enc r,rp 6 hP,oI ((gtI (lenI r) 0)=false),oR True ((gtI (lenI r) 0)=false),oI (((gtI (lenI r) 0)||(ltI t 0))=false),oR True (((gtI (lenI r) 0)||(ltI t 0))=false),bT h1]
 ·obtain ⟨e0,h7,h⟩:=Qad h
  refine gn 12 [0,1,5] [] [cC (Qjq h0),nL Qab.enc r,rp 6 hP,oI ((gtI (lenI r) 0)=false),oR True ((gtI (lenI r) 0)=false),oI (((gtI (lenI r) 0)||(ltI t 0))=false),oR True (((gtI (lenI r) 0)||(ltI t 0))=false),bF h1] (Qqg Γ rv h7 ?_)
  rcases e0 with e0|e0
  ·replace h:(bnd (getI l 0) fun x2=>br (gtI t x2.t) (bnd (getI l (subK .i64 (lenI l) 1)) fun x3=>some (subK .i64 (addK .i64 t x3.a) x3.t)) (some (subK .i64 (addK .i64 t x2.a) x2.t)):Option Int)=some _:=h
   obtain ⟨x2,h8,h⟩:=Qad h
   rcases Qai h with ⟨h9,h⟩|⟨h9,h⟩
   ·obtain ⟨x3,h10,h⟩:=Qad h
    obtain rfl:=Option.some.inj h
    exact gr 9 [] [cE Qao.enc h8,bT h9,nL Qao.enc l,cE Qao.enc h10]
   ·obtain rfl:=Option.some.inj h
    exact gr 9 [] [cE Qao.enc h8,bF h9]
  ·obtain ⟨r1,rfl⟩:∃ x,x=e0:=⟨_,rfl⟩
   replace h:(some r1:Option Int)=some _:=h
   exact Option.some.inj h
def QnV (Γ:Gam) (rv:Int) (cf:Cf):Prop:=Go Tryz.prog Tryz.f217 [] Γ (one (lI rv)) [] cf
def QkG (Γ:Gam) (rv:Int) (a:Qas) (t:Int) (n:Int) (i:Int):Prop:=QnV Γ rv ⟨[.c 116,.l 116,.b 0,.c 15],⟨35,[vI 1 t,vP 2 0 6,vI 5 n,vI 6 i],[oX 6 120 (Qas.enc a)]⟩⟩
def QjU (Γ:Gam) (rv:Int) (a:Qas) (t:Int) (n1:Int):Prop:=QnV Γ rv ⟨[.c 15],⟨35,[vI 5 n1],[]⟩⟩
theorem Qqh (Γ:Gam) (rv:Int) {a t} {s:Int×Int} {e:Int} (h:loopF (fun s=>QgM a t s.1 s.2) s=some e) (hD:QjU Γ rv a t e):QkG Γ rv a t s.1 s.2:=by
 refine QaD (C:=fun (s:Int×Int)=>QkG Γ rv a t s.1 s.2) (D:=fun (e:Int)=>QjU Γ rv a t e) ?_ h hD
 clear h hD s e
 rintro ⟨n,i⟩ z_ h hI hE
 replace h:QgM a t n i=_:=h
 unfold QgM at h
 rcases Qai h with ⟨h1,h⟩|⟨h1,h⟩
 ·obtain ⟨x0,h2,h⟩:=Qad h
  rcases Qai h with ⟨h3,h⟩|⟨h3,h⟩
  ·exact gn 14 [1,2,5,6] [0] [nL Qao.enc a.slow,bT h1,cE Qao.enc h2,bT h3,cE Qao.enc h2] (hI _ (oJ h))
  ·exact gn 14 [1,2,5,6] [0] [nL Qao.enc a.slow,bT h1,cE Qao.enc h2,bF h3] (hI _ (oJ h))
 ·exact gn 5 [5] [] [nL Qao.enc a.slow,bF h1] (hE _ (oJ h))
theorem Qsp {a t} {rv:Int} (h:Qg4 a t=some rv):AFn Tryz.prog 217 [.agg (Qas.enc a),.one (lI t)] [] (one (lI rv)) []:=by
 refine QaN Tryz.func217 (by kernel_rfl) (by kernel_rfl) (fun Γ=>?_)
 unfold Qg4 at h
 obtain ⟨r,h0,h⟩:=Qad h
 obtain ⟨e0,h4,h⟩:=Qad h
 refine gn 9 [1,2,5,6] [0] [cC (Qso h0)] (Qqh Γ rv h4 ?_)
 obtain ⟨n1,rfl⟩:∃ x,x=e0:=⟨_,rfl⟩
 replace h:(some n1:Option Int)=some _:=h
 obtain rfl:=Option.some.inj h
 exact gr 2 [] []
theorem Qu6 {n profile from_ to_ t} {rv:Int×Int×Int} (h:Qi2 n profile from_ to_ t=some rv):AFn Tryz.prog 213 [.agg (Qam.enc n),.one (lI profile),.one (lI from_),.one (lI to_),.one (lI t)] [] (.tup [.one (lI rv.1),.one (lI rv.2.1),.one (lI rv.2.2)]) []:=by
 refine QaN Tryz.func213 (by kernel_rfl) (by kernel_rfl) (fun Γ=>?_)
 unfold Qi2 at h
 obtain ⟨r,h0,h⟩:=Qad h
 rcases Qai h with ⟨h1,h⟩|⟨h1,h⟩
 ·obtain ⟨r1,h2,h⟩:=Qad h
  rcases Qai h with ⟨h3,h⟩|⟨h3,h⟩
  ·rcases Qai h with ⟨h4,h⟩|⟨h4,h⟩
   ·obtain rfl:=Option.some.inj h
    exact gr 13 [] [cC (QcA h0),rp 3 (nF h1),cC (QcA h2),nF h1,nF h1,nF h3,bT h4]
   ·obtain ⟨r2,h5,h⟩:=Qad h
    rcases Qai h with ⟨h6,h⟩|⟨h6,h⟩
    ·obtain ⟨r3,h7,h⟩:=Qad h
     obtain rfl:=Option.some.inj h
     exact gr 21 [] [cC (QcA h0),rp 3 (nF h1),cC (QcA h2),nF h1,nF h1,nF h3,bF h4,cC (QoT h5),nF h6,hH (.draw 8 []),cC (Qsp h7)]
    ·obtain rfl:=Option.some.inj h
     exact gr 20 [] [cC (QcA h0),rp 3 (nF h1),cC (QcA h2),nF h1,nF h1,nF h3,bF h4,cC (QoT h5),nT h6]
  ·obtain rfl:=Option.some.inj h
   exact gr 8 [] [cC (QcA h0),rp 3 (nF h1),cC (QcA h2),nF h1,nF h1,nT h3]
 ·obtain rfl:=Option.some.inj h
  exact gr 8 [] [cC (QcA h0),rp 5 (nT h1),tT]
theorem QiK {x0 profile from_ to_ t} {rv:Int×Int×Bool} (h:QmD x0 profile from_ to_ t=some rv):AFn Tryz.prog 209 [.agg (Qac.enc x0),.one (lI profile),.one (lI from_),.one (lI to_),.one (lI t)] [] (.tup [.one (lI rv.1),.one (lI rv.2.1),.one (.bool rv.2.2)]) []:=by
 refine QaN Tryz.func209 (by kernel_rfl) (by kernel_rfl) (fun Γ=>?_)
 unfold QmD at h
 obtain ⟨r,h0,h⟩:=Qad h
 obtain rfl:=Option.some.inj h
 exact gr 6 [] [cC (Qu6 h0)]
theorem Qia {x0 t s0 to_ close late} {rv:Qaz×Int} (h:QdD x0 t s0 to_ close late=some rv):AFn Tryz.prog 204 [.agg (Qac.enc x0),.agg (Qak.enc t),.agg (Qaz.enc s0),.one (lI to_),.one (lI close),.one (lI late)] [] (.tup [.agg [lI rv.1.place,lI rv.1.time,lI rv.1.driven,lI rv.1.miles],.one (lI rv.2)]) []:=by
 refine QaN Tryz.func204 (by kernel_rfl) (by kernel_rfl) (fun Γ=>?_)
 unfold QdD at h
 obtain ⟨r,h0,h⟩:=Qad h
 rcases Qai h with ⟨h1,h⟩|⟨h1,h⟩
 ·rcases Qai h with ⟨h2,h⟩|⟨h2,h⟩
  ·obtain rfl:=Option.some.inj h
   exact gr 15 [] [cC (QiK h0),nF h1,bT h2]
  ·rcases Qai h with ⟨h3,h⟩|⟨h3,h⟩
   ·obtain rfl:=Option.some.inj h
    exact gr 22 [] [cC (QiK h0),nF h1,bF h2,bT h3]
   ·obtain rfl:=Option.some.inj h
    exact gr 23 [] [cC (QiK h0),nF h1,bF h2,bF h3]
 ·obtain rfl:=Option.some.inj h
  exact gr 10 [] [cC (QiK h0),nT h1]
def Qq5 (Γ:Gam) (rv:Qap×List Int×Int) (cf:Cf):Prop:=Go Tryz.prog Tryz.f188 [] Γ (.tup [.agg [.bool rv.1.rest_,lI rv.1.depart,lL 4 rv.1.times Qar.enc,lI rv.1.end_,lI rv.1.miles],.one (lL 1 rv.2.1 e_i64),.one (lI rv.2.2)]) [] cf
def Qn2 (Γ:Gam) (rv:Qap×List Int×Int) (x0:Qac) (r:Qag) (rests:List Bool) (x1:Qak) (x2:Bool) (l:List Int) (l1:List Qar) (x3:Qaz) (depart:Int) (i:Int):Prop:=Qq5 Γ rv ⟨[.c 2036,.l 2036,.b 0,.c 255],⟨161,[vL 2 1 rests QaY,vP 3 0 6,vP 4 1 4,vP 6 2 5,vP 9 3 14,vP 10 4 4,vP 11 5 5,vO 12 6 1 l e_i64,vI 13 i],[oX 6 30 (Qac.enc x0),oX 4 37 (Qag.enc r),oX 5 74 [.bool false,lI 0,.nils,lI 0,lI 0],oX 14 94 (Qak.enc x1),oX 4 237 (Qaz.enc x3),oX 5 74 [.bool x2,lI depart,lO 7 4 l1 Qar.enc,lI 0,lI 0],oS 1 3 l e_i64,oS 4 227 l1 Qar.enc]⟩⟩
def Qng (Γ:Gam) (rv:Qap×List Int×Int) (x0:Qac) (r:Qag) (rests:List Bool) (x1:Qak) (x2:Bool) (l2:List Int) (l3:List Qar) (x6:Qaz) (depart1:Int):Prop:=Qq5 Γ rv ⟨[.c 255],⟨161,[vP 3 0 6,vP 6 1 5,vP 9 2 14,vP 10 3 4,vP 11 4 5,vO 12 5 1 l2 e_i64],[oX 6 30 (Qac.enc x0),oX 5 74 [.bool false,lI 0,.nils,lI 0,lI 0],oX 14 94 (Qak.enc x1),oX 4 237 (Qaz.enc x6),oX 5 74 [.bool x2,lI depart1,lO 6 4 l3 Qar.enc,lI 0,lI 0],oS 1 3 l2 e_i64,oS 4 227 l3 Qar.enc]⟩⟩
theorem Qsr (Γ:Gam) (rv:Qap×List Int×Int) {x0 r rests x1 x2} {s:List Int×List Qar×Qaz×Int×Int} {e:(List Int×List Qar×Qaz×Int)⊕(Qap×List Int×Int)} (h:loopF (fun s=>QfI x0 r rests x1 x2 s.1 s.2.1 s.2.2.1 s.2.2.2.1 s.2.2.2.2) s=some e) (hD:sel e (fun e=>Qng Γ rv x0 r rests x1 x2 e.1 e.2.1 e.2.2.1 e.2.2.2) (fun e=>e=rv)):Qn2 Γ rv x0 r rests x1 x2 s.1 s.2.1 s.2.2.1 s.2.2.2.1 s.2.2.2.2:=by
 refine QaD (C:=fun (s:List Int×List Qar×Qaz×Int×Int)=>Qn2 Γ rv x0 r rests x1 x2 s.1 s.2.1 s.2.2.1 s.2.2.2.1 s.2.2.2.2) (D:=fun (e:(List Int×List Qar×Qaz×Int)⊕(Qap×List Int×Int))=>sel e (fun e=>Qng Γ rv x0 r rests x1 x2 e.1 e.2.1 e.2.2.1 e.2.2.2) (fun e=>e=rv)) ?_ h hD
 clear h hD s e
 rintro ⟨l,l1,x3,depart,i⟩ z_ h hI hE
 replace h:QfI x0 r rests x1 x2 l l1 x3 depart i=_:=h
 unfold QfI at h
 rcases Qai h with ⟨h5,h⟩|⟨h5,h⟩
 ·obtain ⟨x4,h6,h⟩:=Qad h
  obtain ⟨r3,h7,h⟩:=Qad h
  obtain ⟨r4,h8,h⟩:=Qad h
  rcases Qai h with ⟨h9,h⟩|⟨h9,h⟩
  ·obtain rfl:=(hE _ (oJ h):_=rv)
   exact gr 17 [] [nL Qaa.enc r.visits,bT h5,hH (.draw 13 [(8,11)]),cE Qaa.enc h6,cC (Qib h7),cC (Qia h8),bT h9,hW 7,hH (.nilB 2 2 4),hH (.nilS 7 0 1)]
  ·obtain ⟨h10,h⟩:=Qaw h
   obtain ⟨x5,h11,h⟩:=Qad h
   obtain ⟨r5,h12,h⟩:=Qad h
   obtain ⟨h13,h⟩:=Qaw h
   exact gn 30 [2,3,4,6,9,10,11,12,13] [0,1,2,3,4,5,11,14] [nL Qaa.enc r.visits,bT h5,hH (.draw 13 [(8,11)]),cE Qaa.enc h6,cC (Qib h7),cC (Qia h8),bF h9,oO (Eq.refl ([r4.1.driven].map e_i64).length),aO e_i64 h10,hH (.draw 14 []),cE QaY h11,hH (.draw 8 []),cE QaY h11,cC (Qo8 h12),oO (Eq.refl ([(Qar.mk r4.1.time (maxI r4.1.time r3.1.open_) r5.time x5)].map Qar.enc).length),aO Qar.enc h13] (hI _ (oJ h))
 ·exact gn 5 [3,6,9,10,11,12] [0,2,3,4,5,6,7] [nL Qaa.enc r.visits,bF h5] (hE _ (oJ h))
theorem Quq {x0 r rests} {rv:Qap×List Int×Int} (h:Qh9 x0 r rests=some rv):AFn Tryz.prog 188 [.agg (Qac.enc x0),.agg (Qag.enc r),.one (lL 1 rests QaY)] [] (.tup [.agg [.bool rv.1.rest_,lI rv.1.depart,lL 4 rv.1.times Qar.enc,lI rv.1.end_,lI rv.1.miles],.one (lL 1 rv.2.1 e_i64),.one (lI rv.2.2)]) []:=by
 refine QaN Tryz.func188 (by kernel_rfl) (by kernel_rfl) (fun Γ=>?_)
 unfold Qh9 at h
 obtain ⟨r1,h0,h⟩:=Qad h
 rcases Qai h with ⟨h1,h⟩|⟨h1,h⟩
 ·obtain rfl:=Option.some.inj h
  exact gr 8 [] [cC (QfU h0),hP,hP,oI ((!r1)=false),nL QaY rests,hP,hP,hP,rp 2 (oI ((!r1)=false)),nL Qaa.enc r.visits,hP,hP,hP,rp 3 (oI ((!r1)=false)),oR True ((!r1)=false),bT h1,hW 6,hH (.nilB 2 2 4),hH (.nilS 7 0 1)]
 ·obtain ⟨x1,h2,h⟩:=Qad h
  obtain ⟨x2,h3,h⟩:=Qad h
  obtain ⟨r2,h4,h⟩:=Qad h
  obtain ⟨e0,h14,h⟩:=Qad h
  refine gn 20 [2,3,4,6,9,10,11,12,13] [0,1,2,3,4,5,6,7] [cC (QfU h0),hP,hP,oI ((!r1)=false),nL QaY rests,hP,hP,hP,rp 2 (oI ((!r1)=false)),nL Qaa.enc r.visits,hP,hP,hP,rp 3 (oI ((!r1)=false)),oR True ((!r1)=false),bF h1,cE Qak.enc h2,hH (.draw 14 []),cE QaY h3,cC (Qo8 h4),hH (.draw 7 []),cE QaY h3,hW 10,hH (.adopt 12 1 3),hH (.adoptB 5 2 4 227)] (Qsr Γ rv h14 ?_)
  rcases e0 with e0|e0
  ·obtain ⟨l2,l3,x6,depart1⟩:=e0
   replace h:(bnd (QdD x0 x1 x6 x1.to_ x1.close 15) fun r6=>br (neI r6.2 0) (some ((Qap.mk false 0 [] 0 0),[],r6.2)) (chk (okN (l2++[r6.1.driven]).length 8) (some ((Qap.mk x2 depart1 l3 r6.1.time r6.1.miles),(l2++[r6.1.driven]),0))):Option (Qap×List Int×Int))=some _:=h
   obtain ⟨r6,h15,h⟩:=Qad h
   rcases Qai h with ⟨h16,h⟩|⟨h16,h⟩
   ·obtain rfl:=Option.some.inj h
    exact gr 8 [] [cC (Qia h15),bT h16,hW 7,hH (.nilB 1 2 4),hH (.nilS 7 0 1)]
   ·obtain ⟨h17,h⟩:=Qaw h
    obtain rfl:=Option.some.inj h
    exact gr 15 [] [cC (Qia h15),bF h16,oO (Eq.refl ([r6.1.driven].map e_i64).length),aO e_i64 h17,hW 20,hH (.frz 6),hH (.frz 9),rp 3 (eL l3 Qar.enc),rp 4 (oO (Eq.refl ((l2++[r6.1.driven]).map e_i64).length))]
  ·obtain ⟨r7,rfl⟩:∃ x,x=e0:=⟨_,rfl⟩
   replace h:(some r7:Option (Qap×List Int×Int))=some _:=h
   exact Option.some.inj h
theorem QlJ {x0 r rests} {rv:Qap×Int} (h:Qe7 x0 r rests=some rv):AFn Tryz.prog 146 [.agg (Qac.enc x0),.agg (Qag.enc r),.one (lL 1 rests QaY)] [] (.tup [.agg [.bool rv.1.rest_,lI rv.1.depart,lL 4 rv.1.times Qar.enc,lI rv.1.end_,lI rv.1.miles],.one (lI rv.2)]) []:=by
 refine QaN Tryz.func146 (by kernel_rfl) (by kernel_rfl) (fun Γ=>?_)
 unfold Qe7 at h
 obtain ⟨r1,h0,h⟩:=Qad h
 obtain rfl:=Option.some.inj h
 exact gr 6 [] [cC (Quq h0)]
def QpZ (Γ:Gam) (rv:List Bool×Bool) (cf:Cf):Prop:=Go Tryz.prog Tryz.f147 [] Γ (.tup [.one (lL 1 rv.1 QaY),.one (.bool rv.2)]) [] cf
def Qnf (Γ:Gam) (rv:List Bool×Bool) (n:Int) (l:List Bool) (i:Int):Prop:=QpZ Γ rv ⟨[.c 244,.l 244,.b 0,.c 31],⟨31,[vI 1 n,vO 6 0 1 l QaY,vI 7 i],[oS 1 4 l QaY]⟩⟩
def Qmt (Γ:Gam) (rv:List Bool×Bool) (n:Int):Prop:=QpZ Γ rv ⟨[.c 31],⟨31,[],[]⟩⟩
theorem QrW (Γ:Gam) (rv:List Bool×Bool) {n} {s:List Bool×Int} {e:(Unit)⊕(List Bool×Bool)} (h:loopF (fun s=>Qfo n s.1 s.2) s=some e) (hD:sel e (fun e=>Qmt Γ rv n) (fun e=>e=rv)):Qnf Γ rv n s.1 s.2:=by
 refine QaD (C:=fun (s:List Bool×Int)=>Qnf Γ rv n s.1 s.2) (D:=fun (e:(Unit)⊕(List Bool×Bool))=>sel e (fun e=>Qmt Γ rv n) (fun e=>e=rv)) ?_ h hD
 clear h hD s e
 rintro ⟨l,i⟩ z_ h hI hE
 replace h:Qfo n l i=_:=h
 unfold Qfo at h
 rcases Qai h with ⟨h1,h⟩|⟨h1,h⟩
 ·obtain ⟨x0,h2,h⟩:=Qad h
  rcases Qai h with ⟨h3,h⟩|⟨h3,h⟩
  ·exact gn 16 [1,6,7] [0] [bT h1,oO (getLo h2),oO (getHi QaY h2),rE QaY h2,nF h3,oO (getLo h2),oO (getHi QaY h2),rE QaY h2,hH (.rows ((setI l i false).map QaY)),hH (.relen 0 ((setI l i false).map QaY).length),oO (setM QaY l i false),rp 3 (oO (Qx4 QaY l i false))] (hI _ (oJ h))
  ·obtain rfl:=(hE _ (oJ h):_=rv)
   exact gr 15 [] [bT h1,oO (getLo h2),oO (getHi QaY h2),rE QaY h2,nT h3,oO (getLo h2),oO (getHi QaY h2),rE QaY h2,hH (.rows ((setI l i true).map QaY)),hH (.relen 0 ((setI l i true).map QaY).length),hW 5,hH (.frz 0),oO (setM QaY l i true),rp 3 (oO (Qx4 QaY l i true)),rp 5 (oO (Eq.refl ((setI l i true).map QaY).length))]
 ·exact gn 5 [] [] [bF h1] (hE _ (oJ h))
theorem Qo7 {rests n} {rv:List Bool×Bool} (h:Qf9 rests n=some rv):AFn Tryz.prog 147 [.one (lL 1 rests QaY),.one (lI n)] [] (.tup [.one (lL 1 rv.1 QaY),.one (.bool rv.2)]) []:=by
 refine QaN Tryz.func147 (by kernel_rfl) (by kernel_rfl) (fun Γ=>?_)
 unfold Qf9 at h
 obtain ⟨h0,h⟩:=Qaw h
 obtain ⟨e0,h4,h⟩:=Qad h
 refine gn 11 [1,6,7] [0] [aN QaY h0,nL QaY rests] (QrW Γ rv h4 ?_)
 rcases e0 with e0|e0
 ·replace h:(some ([],false):Option (List Bool×Bool))=some _:=h
  obtain rfl:=Option.some.inj h
  exact gr 2 [] [hW 4,hH (.nilS 4 0 1)]
 ·obtain ⟨r,rfl⟩:∃ x,x=e0:=⟨_,rfl⟩
  replace h:(some r:Option (List Bool×Bool))=some _:=h
  exact Option.some.inj h
def QlI (Γ:Gam) (rv:Qap×Int) (cf:Cf):Prop:=Go Tryz.prog Tryz.f99 [] Γ (.tup [.agg [.bool rv.1.rest_,lI rv.1.depart,lL 4 rv.1.times Qar.enc,lI rv.1.end_,lI rv.1.miles],.one (lI rv.2)]) [] cf
def QiQ (Γ:Gam) (rv:Qap×Int) (x0:Qac) (r:Qag) (l:List Bool) (r2:Qap×Int) (rests:List Bool) (x1:Qap) (rests1:List Bool) (found:Bool) (more:Bool):Prop:=QlI Γ rv ⟨[.c 4088,.l 4088,.b 0,.c 1023],⟨88,[vP 2 0 6,vP 3 1 4,vP 4 2 5,vL 7 1 rests1 QaY,vP 8 3 5,vI 9 r2.2,vB 10 found,vB 11 more],[oX 6 30 (Qac.enc x0),oX 4 37 [lI r.type_,lI r.start,lL 1 rests QaY,lL 2 r.visits Qaa.enc],oX 5 74 [.bool false,lI 0,.nils,lI 0,lI 0],oX 5 74 (Qap.enc x1)]⟩⟩
def Qio (Γ:Gam) (rv:Qap×Int) (x0:Qac) (r:Qag) (l:List Bool) (r2:Qap×Int) (x3:Qap) (found2:Bool):Prop:=QlI Γ rv ⟨[.c 1023],⟨88,[vP 4 0 5,vP 8 1 5,vI 9 r2.2,vB 10 found2],[oX 5 74 [.bool false,lI 0,.nils,lI 0,lI 0],oX 5 74 (Qap.enc x3)]⟩⟩
theorem Qmr (Γ:Gam) (rv:Qap×Int) {x0 r l r2 rests rests1 x2 found1} {x:(List Bool×Qap×List Bool×Bool×Bool)⊕(Qap×Bool)} (h:Qgv x0 r l r2 rests rests1 x2 found1=some x) (hI:∀ s:List Bool×Qap×List Bool×Bool×Bool,x=.inl s→QiQ Γ rv x0 r l r2 s.1 s.2.1 s.2.2.1 s.2.2.2.1 s.2.2.2.2) (hE:∀ e:Qap×Bool,x=.inr e→Qio Γ rv x0 r l r2 e.1 e.2):QlI Γ rv ⟨[.c 65419,.b 1,.l 4088,.b 0,.c 1023],⟨88,[vP 2 0 6,vP 3 1 4,vP 4 2 5,vL 7 1 rests1 QaY,vP 8 3 5,vI 9 r2.2,vB 10 found1],[oX 6 30 (Qac.enc x0),oX 4 37 [lI r.type_,lI r.start,lL 1 rests QaY,lL 2 r.visits Qaa.enc],oX 5 74 [.bool false,lI 0,.nils,lI 0,lI 0],oX 5 74 (Qap.enc x2)]⟩⟩:=by
 unfold Qgv at h
 obtain ⟨r5,h8,h⟩:=Qad h
 exact gn 3 [2,3,4,7,8,9,10,11] [0,1,2,3] [nL QaY rests,cC (Qo7 h8)] (hI _ (oJ h))
theorem QrV (Γ:Gam) (rv:Qap×Int) {x0 r l r2} {s:List Bool×Qap×List Bool×Bool×Bool} {e:Qap×Bool} (h:loopF (fun s=>Qfn x0 r l r2 s.1 s.2.1 s.2.2.1 s.2.2.2.1 s.2.2.2.2) s=some e) (hD:Qio Γ rv x0 r l r2 e.1 e.2):QiQ Γ rv x0 r l r2 s.1 s.2.1 s.2.2.1 s.2.2.2.1 s.2.2.2.2:=by
 refine QaD (C:=fun (s:List Bool×Qap×List Bool×Bool×Bool)=>QiQ Γ rv x0 r l r2 s.1 s.2.1 s.2.2.1 s.2.2.2.1 s.2.2.2.2) (D:=fun (e:Qap×Bool)=>Qio Γ rv x0 r l r2 e.1 e.2) ?_ h hD
 clear h hD s e
 rintro ⟨rests,x1,rests1,found,more⟩ z_ h hI hE
 replace h:Qfn x0 r l r2 rests x1 rests1 found more=_:=h
 unfold Qfn at h
 rcases Qai h with ⟨h5,h⟩|⟨h5,h⟩
 ·obtain ⟨r4,h6,h⟩:=Qad h
  rcases Qai h with ⟨h7,h⟩|⟨h7,h⟩
  ·exact gn 15 [2,3,4,7,8,9,10] [0,1,2,3] [bT h5,cC (QlJ h6),rp 11 hP,rp 2 (oI ((eqI r4.2 0)=true)),rp 4 (oI (((eqI r4.2 0)=true)∧(!found)=false)),oI ((eqI r4.2 0)=true),oI (((eqI r4.2 0)=true)∧(!found)=false),oR True ((eqI r4.2 0)=true),bT h7] (Qmr Γ rv h hI hE)
  ·exact gn 13 [2,3,4,7,8,9,10] [0,1,2,3] [bT h5,cC (QlJ h6),rp 11 hP,rp 2 (oI ((eqI r4.2 0)=true)),rp 4 (oI (((eqI r4.2 0)=true)∧(!found)=false)),oI ((eqI r4.2 0)=true),oI (((eqI r4.2 0)=true)∧(!found)=false),oR True ((eqI r4.2 0)=true),bF h7] (Qmr Γ rv h hI hE)
 ·exact gn 5 [4,8,9,10] [2,3] [bF h5] (hE _ (oJ h))
theorem Qo5 {x0 r} {rv:Qap×Int} (h:Qf8 x0 r=some rv):AFn Tryz.prog 99 [.agg (Qac.enc x0),.agg (Qag.enc r)] [] (.tup [.agg [.bool rv.1.rest_,lI rv.1.depart,lL 4 rv.1.times Qar.enc,lI rv.1.end_,lI rv.1.miles],.one (lI rv.2)]) []:=by
 refine QaN Tryz.func99 (by kernel_rfl) (by kernel_rfl) (fun Γ=>?_)
 unfold Qf8 at h
 obtain ⟨r1,h0,h⟩:=Qad h
 rcases Qai h with ⟨h1,h⟩|⟨h1,h⟩
 ·obtain rfl:=Option.some.inj h
  exact gr 10 [] [nL Qaa.enc r.visits,cC (QfU h0),hP,hP,hP,rp 2 (oI ((!r1)=false)),nL QaY r.rests,hP,hP,hP,rp 2 (oI ((!r1)=false)),oR True ((!r1)=false),bT h1,hW 5,hH (.nilB 2 2 4)]
 ·obtain ⟨l,h2,h⟩:=Qad h
  obtain ⟨r2,h3,h⟩:=Qad h
  obtain ⟨r3,h4,h⟩:=Qad h
  obtain ⟨e0,h9,h⟩:=Qad h
  refine gn 22 [2,3,4,7,8,9,10,11] [0,1,2,4] [nL Qaa.enc r.visits,cC (QfU h0),hP,hP,hP,rp 2 (oI ((!r1)=false)),nL QaY r.rests,hP,hP,hP,rp 2 (oI ((!r1)=false)),oR True ((!r1)=false),bF h1,hH (.cells [.bool false]),hH (.rows (l.map QaY)),oO (mk1 h2),oO (mk2 h2),oO (mk3 h2),oO (mk4 h2),oO (mk5 QaY h2),cY QaY l r.rests,hH (.relen 3 ((cpyL l r.rests).map QaY).length),hW 5,hH (.frz 3),rp 3 (oO (QEK QaY l r.rests)),rp 4 (oO (Eq.refl ((cpyL l r.rests).map QaY).length)),cC (QlJ h3),nL QaY r.rests,cC (Qo7 h4)] (QrV Γ rv h9 ?_)
  obtain ⟨x3,found2⟩:=e0
  replace h:(br found2 (some (x3,0)) (some ((Qap.mk false 0 [] 0 0),r2.2)):Option (Qap×Int))=some _:=h
  rcases Qai h with ⟨h10,h⟩|⟨h10,h⟩
  ·obtain rfl:=Option.some.inj h
   exact gr 7 [] [nF h10]
  ·obtain rfl:=Option.some.inj h
   exact gr 6 [] [nT h10,hW 6,hH (.nilB 0 2 4)]
def Qn4 (Γ:Gam) (rv:Bool) (cf:Cf):Prop:=Go Tryz.prog Tryz.f148 [] Γ (one (.bool rv)) [] cf
def Qlr (Γ:Gam) (rv:Bool) (l:List Qaa) (at_:Int) (i:Int):Prop:=Qn4 Γ rv ⟨[.c 52,.l 52,.b 0,.c 7],⟨22,[vL 0 2 l Qaa.enc,vI 1 at_,vI 5 i],[]⟩⟩
def Qka (Γ:Gam) (rv:Bool) (l:List Qaa) (at_:Int):Prop:=Qn4 Γ rv ⟨[.c 7],⟨22,[],[]⟩⟩
theorem Qqq (Γ:Gam) (rv:Bool) {l at_} {s:Int} {e:(Unit)⊕(Bool)} (h:loopF (fun s=>Qcr l at_ s) s=some e) (hD:sel e (fun e=>Qka Γ rv l at_) (fun e=>e=rv)):Qlr Γ rv l at_ s:=by
 refine QaD (C:=fun (s:Int)=>Qlr Γ rv l at_ s) (D:=fun (e:(Unit)⊕(Bool))=>sel e (fun e=>Qka Γ rv l at_) (fun e=>e=rv)) ?_ h hD
 clear h hD s e
 intro i z_ h hI hE
 replace h:Qcr l at_ i=_:=h
 unfold Qcr at h
 rcases Qai h with ⟨h0,h⟩|⟨h0,h⟩
 ·obtain ⟨x0,h1,h⟩:=Qad h
  obtain ⟨x1,h2,h⟩:=Qad h
  rcases Qai h with ⟨h3,h⟩|⟨h3,h⟩
  ·obtain rfl:=(hE _ (oJ h):_=rv)
   exact gr 12 [] [bT h0,hH (.draw 11 []),cE Qaa.enc h1,cE Qaa.enc h2,bT h3]
  ·exact gn 14 [0,1,5] [] [bT h0,hH (.draw 11 []),cE Qaa.enc h1,cE Qaa.enc h2,bF h3] (hI _ (oJ h))
 ·exact gn 5 [] [] [bF h0] (hE _ (oJ h))
theorem Qeg {l at_} {rv:Bool} (h:Qg7 l at_=some rv):AFn Tryz.prog 148 [.one (lL 2 l Qaa.enc),.one (lI at_)] [] (one (.bool rv)) []:=by
 refine QaN Tryz.func148 (by kernel_rfl) (by kernel_rfl) (fun Γ=>?_)
 unfold Qg7 at h
 obtain ⟨e0,h4,h⟩:=Qad h
 refine gn 7 [0,1,5] [] [] (Qqq Γ rv h4 ?_)
 rcases e0 with e0|e0
 ·replace h:(some true:Option Bool)=some _:=h
  obtain rfl:=Option.some.inj h
  exact gr 2 [] []
 ·obtain ⟨r,rfl⟩:∃ x,x=e0:=⟨_,rfl⟩
  replace h:(some r:Option Bool)=some _:=h
  exact Option.some.inj h
def Qkm (Γ:Gam) (rv:QaF) (cf:Cf):Prop:=Go Tryz.prog Tryz.f100 [] Γ (gG [lI rv.cost,lI rv.moved,lI rv.other,lI rv.work]) [] cf
def Qip (Γ:Gam) (rv:QaF) (x0:Qac) (r:Qag) (s0:Qap) (x1:Qak) (moved:Int) (other:Int) (i:Int):Prop:=Qkm Γ rv ⟨[.c 1012,.l 1012,.b 0,.c 127],⟨128,[vP 3 0 6,vP 4 1 4,vP 6 2 4,vP 9 3 4,vI 10 i],[oX 6 30 (Qac.enc x0),oX 4 37 (Qag.enc r),oX 4 76 [lI 0,lI 0,lI 0,lI 0],oX 4 76 [lI (addK .i64 (addK .i64 x1.fixed (mulK .i64 x1.perMile s0.miles)) (mulK .i64 x1.perTick (subK .i64 s0.end_ x1.open_))),lI moved,lI other,lI (mulK .i64 (quoK .i64 (subK .i64 s0.end_ x1.open_) 64) (quoK .i64 (subK .i64 s0.end_ x1.open_) 64))]]⟩⟩
def QhV (Γ:Gam) (rv:QaF) (x0:Qac) (r:Qag) (s0:Qap) (x1:Qak) (moved2:Int) (other1:Int):Prop:=Qkm Γ rv ⟨[.c 127],⟨128,[vP 6 0 4,vP 9 1 4],[oX 4 76 [lI 0,lI 0,lI 0,lI 0],oX 4 76 [lI (addK .i64 (addK .i64 x1.fixed (mulK .i64 x1.perMile s0.miles)) (mulK .i64 x1.perTick (subK .i64 s0.end_ x1.open_))),lI moved2,lI other1,lI (mulK .i64 (quoK .i64 (subK .i64 s0.end_ x1.open_) 64) (quoK .i64 (subK .i64 s0.end_ x1.open_) 64))]]⟩⟩
theorem Qlq (Γ:Gam) (rv:QaF) {x0 r s0 x1 other i x2 moved1} {x:(Int×Int×Int)⊕(Int×Int)} (h:QfV x0 r s0 x1 other i x2 moved1=some x) (hI:∀ s:Int×Int×Int,x=.inl s→Qip Γ rv x0 r s0 x1 s.1 s.2.1 s.2.2) (hE:∀ e:Int×Int,x=.inr e→QhV Γ rv x0 r s0 x1 e.1 e.2):Qkm Γ rv ⟨[.c 64807,.b 1,.c 4051,.l 1012,.b 0,.c 127],⟨128,[vP 3 0 6,vP 4 1 4,vP 6 2 4,vP 9 3 4,vI 10 i,vI 11 x2.order],[oX 6 30 (Qac.enc x0),oX 4 37 (Qag.enc r),oX 4 76 [lI 0,lI 0,lI 0,lI 0],oX 4 76 [lI (addK .i64 (addK .i64 x1.fixed (mulK .i64 x1.perMile s0.miles)) (mulK .i64 x1.perTick (subK .i64 s0.end_ x1.open_))),lI moved1,lI other,lI (mulK .i64 (quoK .i64 (subK .i64 s0.end_ x1.open_) 64) (quoK .i64 (subK .i64 s0.end_ x1.open_) 64))]]⟩⟩:=by
 unfold QfV at h
 obtain ⟨x4,h10,h⟩:=Qad h
 rcases Qai h with ⟨h11,h⟩|⟨h11,h⟩
 ·rcases Qai h with ⟨h12,h⟩|⟨h12,h⟩
  ·exact gn 7 [3,4,6,9,10] [0,1,2,3] [hH (.draw 18 []),cE Qah.enc h10,rp 4 (bT h11),cE Qah.enc h10,rp 6 (bT h11),bT h12] (hI _ (oJ h))
  ·exact gn 7 [3,4,6,9,10] [0,1,2,3] [hH (.draw 18 []),cE Qah.enc h10,rp 4 (bT h11),cE Qah.enc h10,rp 6 (bT h11),bF h12] (hI _ (oJ h))
 ·exact gn 7 [3,4,6,9,10] [0,1,2,3] [hH (.draw 18 []),cE Qah.enc h10,rp 10 (bF h11),fF] (hI _ (oJ h))
theorem Qq6 (Γ:Gam) (rv:QaF) {x0 r s0 x1} {s:Int×Int×Int} {e:Int×Int} (h:loopF (fun s=>Qci x0 r s0 x1 s.1 s.2.1 s.2.2) s=some e) (hD:QhV Γ rv x0 r s0 x1 e.1 e.2):Qip Γ rv x0 r s0 x1 s.1 s.2.1 s.2.2:=by
 refine QaD (C:=fun (s:Int×Int×Int)=>Qip Γ rv x0 r s0 x1 s.1 s.2.1 s.2.2) (D:=fun (e:Int×Int)=>QhV Γ rv x0 r s0 x1 e.1 e.2) ?_ h hD
 clear h hD s e
 rintro ⟨moved,other,i⟩ z_ h hI hE
 replace h:Qci x0 r s0 x1 moved other i=_:=h
 unfold Qci at h
 rcases Qai h with ⟨h2,h⟩|⟨h2,h⟩
 ·obtain ⟨x2,h3,h⟩:=Qad h
  rcases Qai h with ⟨h4,h⟩|⟨h4,h⟩
  ·exact gn 16 [3,4,6,9,10] [0,1,2,3] [nL Qaa.enc r.visits,bT h2,cE Qaa.enc h3,rp 4 hP,rp 2 (oI ((ltI x2.order 0)=false)),nL Qah.enc x0.orders,hP,hP,rp 2 (oI ((ltI x2.order 0)=false)),oR True ((ltI x2.order 0)=false),rp 6 (bT h4),tT] (hI _ (oJ h))
  ·obtain ⟨r1,h5,h⟩:=Qad h
   rcases Qai h with ⟨h6,h⟩|⟨h6,h⟩
   ·obtain ⟨x3,h7,h⟩:=Qad h
    rcases Qai h with ⟨h8,h⟩|⟨h8,h⟩
    ·rcases Qai h with ⟨h9,h⟩|⟨h9,h⟩
     ·exact gn 19 [3,4,6,9,10,11] [0,1,2,3] [nL Qaa.enc r.visits,bT h2,cE Qaa.enc h3,rp 4 hP,rp 2 (oI ((ltI x2.order 0)=false)),nL Qah.enc x0.orders,hP,hP,rp 2 (oI ((ltI x2.order 0)=false)),oR True ((ltI x2.order 0)=false),rp 4 (bF h4),cC (Qeg h5),bF h4,bF h4,nF h6,hH (.draw 18 []),cE Qah.enc h7,rp 4 (bT h8),cE Qah.enc h7,rp 6 (bT h8),bT h9] (Qlq Γ rv h hI hE)
     ·exact gn 19 [3,4,6,9,10,11] [0,1,2,3] [nL Qaa.enc r.visits,bT h2,cE Qaa.enc h3,rp 4 hP,rp 2 (oI ((ltI x2.order 0)=false)),nL Qah.enc x0.orders,hP,hP,rp 2 (oI ((ltI x2.order 0)=false)),oR True ((ltI x2.order 0)=false),rp 4 (bF h4),cC (Qeg h5),bF h4,bF h4,nF h6,hH (.draw 18 []),cE Qah.enc h7,rp 4 (bT h8),cE Qah.enc h7,rp 6 (bT h8),bF h9] (Qlq Γ rv h hI hE)
    ·rcases Qai h with ⟨h13,h⟩|⟨h13,h⟩
     ·rcases Qai h with ⟨h14,h⟩|⟨h14,h⟩
      ·exact gn 26 [3,4,6,9,10] [0,1,2,3] [nL Qaa.enc r.visits,bT h2,cE Qaa.enc h3,rp 4 hP,rp 2 (oI ((ltI x2.order 0)=false)),nL Qah.enc x0.orders,hP,hP,rp 2 (oI ((ltI x2.order 0)=false)),oR True ((ltI x2.order 0)=false),rp 4 (bF h4),cC (Qeg h5),bF h4,bF h4,nF h6,hH (.draw 18 []),cE Qah.enc h7,rp 10 (bF h8),fF,hH (.draw 18 []),cE Qah.enc h7,rp 4 (bT h13),cE Qah.enc h7,rp 6 (bT h13),bT h14] (hI _ (oJ h))
      ·exact gn 26 [3,4,6,9,10] [0,1,2,3] [nL Qaa.enc r.visits,bT h2,cE Qaa.enc h3,rp 4 hP,rp 2 (oI ((ltI x2.order 0)=false)),nL Qah.enc x0.orders,hP,hP,rp 2 (oI ((ltI x2.order 0)=false)),oR True ((ltI x2.order 0)=false),rp 4 (bF h4),cC (Qeg h5),bF h4,bF h4,nF h6,hH (.draw 18 []),cE Qah.enc h7,rp 10 (bF h8),fF,hH (.draw 18 []),cE Qah.enc h7,rp 4 (bT h13),cE Qah.enc h7,rp 6 (bT h13),bF h14] (hI _ (oJ h))
     ·exact gn 26 [3,4,6,9,10] [0,1,2,3] [nL Qaa.enc r.visits,bT h2,cE Qaa.enc h3,rp 4 hP,rp 2 (oI ((ltI x2.order 0)=false)),nL Qah.enc x0.orders,hP,hP,rp 2 (oI ((ltI x2.order 0)=false)),oR True ((ltI x2.order 0)=false),rp 4 (bF h4),cC (Qeg h5),bF h4,bF h4,nF h6,hH (.draw 18 []),cE Qah.enc h7,rp 10 (bF h8),fF,hH (.draw 18 []),cE Qah.enc h7,rp 10 (bF h13),fF] (hI _ (oJ h))
   ·exact gn 16 [3,4,6,9,10] [0,1,2,3] [nL Qaa.enc r.visits,bT h2,cE Qaa.enc h3,rp 4 hP,rp 2 (oI ((ltI x2.order 0)=false)),nL Qah.enc x0.orders,hP,hP,rp 2 (oI ((ltI x2.order 0)=false)),oR True ((ltI x2.order 0)=false),rp 4 (bF h4),cC (Qeg h5),bF h4,bF h4,nT h6] (hI _ (oJ h))
 ·exact gn 5 [6,9] [2,3] [nL Qaa.enc r.visits,bF h2] (hE _ (oJ h))
theorem Qs6 {x0 r s0} {rv:QaF} (h:Qgw x0 r s0=some rv):AFn Tryz.prog 100 [.agg (Qac.enc x0),.agg (Qag.enc r),.agg (Qap.enc s0)] [] (gG [lI rv.cost,lI rv.moved,lI rv.other,lI rv.work]) []:=by
 refine QaN Tryz.func100 (by kernel_rfl) (by kernel_rfl) (fun Γ=>?_)
 unfold Qgw at h
 rcases Qai h with ⟨h0,h⟩|⟨h0,h⟩
 ·obtain rfl:=Option.some.inj h
  exact gr 8 [] [rp 5 hP,rp 3 (oI ((ltI r.type_ 0)=false)),nL Qak.enc x0.types,hP,hP,rp 2 (oI ((ltI r.type_ 0)=false)),oR True ((ltI r.type_ 0)=false),bT h0]
 ·obtain ⟨x1,h1,h⟩:=Qad h
  obtain ⟨e0,h15,h⟩:=Qad h
  refine gn 18 [3,4,6,9,10] [0,1,3,5] [rp 5 hP,rp 3 (oI ((ltI r.type_ 0)=false)),nL Qak.enc x0.types,hP,hP,rp 2 (oI ((ltI r.type_ 0)=false)),oR True ((ltI r.type_ 0)=false),bF h0,cE Qak.enc h1,rp 2 (oO (oA (n:=64)))] (Qq6 Γ rv h15 ?_)
  obtain ⟨moved2,other1⟩:=e0
  replace h:(some (QaF.mk (addK .i64 (addK .i64 x1.fixed (mulK .i64 x1.perMile s0.miles)) (mulK .i64 x1.perTick (subK .i64 s0.end_ x1.open_))) moved2 other1 (mulK .i64 (quoK .i64 (subK .i64 s0.end_ x1.open_) 64) (quoK .i64 (subK .i64 s0.end_ x1.open_) 64))):Option QaF)=some _:=h
  obtain rfl:=Option.some.inj h
  exact gr 2 [] []
def Qmu (Γ:Gam) (rv:Qap×QaF×Int) (cf:Cf):Prop:=Go Tryz.prog Tryz.f61 [] Γ (.tup [.agg [.bool rv.1.rest_,lI rv.1.depart,lL 4 rv.1.times Qar.enc,lI rv.1.end_,lI rv.1.miles],.agg [lI rv.2.1.cost,lI rv.2.1.moved,lI rv.2.1.other,lI rv.2.1.work],.one (lI rv.2.2)]) [] cf
def QjC (Γ:Gam) (rv:Qap×QaF×Int) (x0:Qac) (r:Qag) (i:Int):Prop:=Qmu Γ rv ⟨[.c 244,.l 244,.b 0,.c 31],⟨85,[vP 2 0 6,vP 3 1 4,vP 4 2 5,vP 5 3 4,vI 8 i],[oX 6 30 (Qac.enc x0),oX 4 37 (Qag.enc r),oX 5 74 [.bool false,lI 0,.nils,lI 0,lI 0],oX 4 76 [lI 0,lI 0,lI 0,lI 0]]⟩⟩
def Qjd (Γ:Gam) (rv:Qap×QaF×Int) (x0:Qac) (r:Qag):Prop:=Qmu Γ rv ⟨[.c 31],⟨85,[vP 2 0 6,vP 3 1 4,vP 4 2 5,vP 5 3 4],[oX 6 30 (Qac.enc x0),oX 4 37 (Qag.enc r),oX 5 74 [.bool false,lI 0,.nils,lI 0,lI 0],oX 4 76 [lI 0,lI 0,lI 0,lI 0]]⟩⟩
theorem Qo9 (Γ:Gam) (rv:Qap×QaF×Int) {x0 r} {s:Int} {e:(Unit)⊕(Qap×QaF×Int)} (h:loopF (fun s=>QbF x0 r s) s=some e) (hD:sel e (fun e=>Qjd Γ rv x0 r) (fun e=>e=rv)):QjC Γ rv x0 r s:=by
 refine QaD (C:=fun (s:Int)=>QjC Γ rv x0 r s) (D:=fun (e:(Unit)⊕(Qap×QaF×Int))=>sel e (fun e=>Qjd Γ rv x0 r) (fun e=>e=rv)) ?_ h hD
 clear h hD s e
 intro i z_ h hI hE
 replace h:QbF x0 r i=_:=h
 unfold QbF at h
 rcases Qai h with ⟨h3,h⟩|⟨h3,h⟩
 ·obtain ⟨x1,h4,h⟩:=Qad h
  obtain ⟨x2,h5,h⟩:=Qad h
  obtain ⟨x3,h6,h⟩:=Qad h
  obtain ⟨r2,h7,h⟩:=Qad h
  rcases Qai h with ⟨h8,h⟩|⟨h8,h⟩
  ·exact gn 14 [2,3,4,5,8] [0,1,2,3] [nL Qaa.enc r.visits,bT h3,hH (.draw 19 []),cE Qak.enc h4,cE Qaa.enc h5,cE Qah.enc h6,cC (QoX h7),nF h8] (hI _ (oJ h))
  ·obtain rfl:=(hE _ (oJ h):_=rv)
   exact gr 12 [] [nL Qaa.enc r.visits,bT h3,hH (.draw 19 []),cE Qak.enc h4,cE Qaa.enc h5,cE Qah.enc h6,cC (QoX h7),nT h8,hW 7,hH (.nilB 2 2 4)]
 ·exact gn 5 [2,3,4,5] [0,1,2,3] [nL Qaa.enc r.visits,bF h3] (hE _ (oJ h))
theorem QhW {x0 r} {rv:Qap×QaF×Int} (h:QdK x0 r=some rv):AFn Tryz.prog 61 [.agg (Qac.enc x0),.agg (Qag.enc r)] [] (.tup [.agg [.bool rv.1.rest_,lI rv.1.depart,lL 4 rv.1.times Qar.enc,lI rv.1.end_,lI rv.1.miles],.agg [lI rv.2.1.cost,lI rv.2.1.moved,lI rv.2.1.other,lI rv.2.1.work],.one (lI rv.2.2)]) []:=by
 refine QaN Tryz.func61 (by kernel_rfl) (by kernel_rfl) (fun Γ=>?_)
 unfold QdK at h
 rcases Qai h with ⟨h0,h⟩|⟨h0,h⟩
 ·obtain rfl:=Option.some.inj h
  exact gr 8 [] [rp 5 hP,rp 3 (oI ((ltI r.type_ 0)=false)),nL Qak.enc x0.types,hP,hP,rp 2 (oI ((ltI r.type_ 0)=false)),oR True ((ltI r.type_ 0)=false),bT h0,hW 7,hH (.nilB 2 2 4)]
 ·obtain ⟨r1,h1,h⟩:=Qad h
  rcases Qai h with ⟨h2,h⟩|⟨h2,h⟩
  ·obtain rfl:=Option.some.inj h
   exact gr 15 [] [rp 5 hP,rp 3 (oI ((ltI r.type_ 0)=false)),nL Qak.enc x0.types,hP,hP,rp 2 (oI ((ltI r.type_ 0)=false)),oR True ((ltI r.type_ 0)=false),bF h0,cC (QhB h1),bT h2,hW 8,hH (.nilB 2 2 4)]
  ·obtain ⟨e0,h9,h⟩:=Qad h
   refine gn 19 [2,3,4,5,8] [0,1,2,3] [rp 5 hP,rp 3 (oI ((ltI r.type_ 0)=false)),nL Qak.enc x0.types,hP,hP,rp 2 (oI ((ltI r.type_ 0)=false)),oR True ((ltI r.type_ 0)=false),bF h0,cC (QhB h1),bF h2] (Qo9 Γ rv h9 ?_)
   rcases e0 with e0|e0
   ·replace h:(bnd (Qhf x0 r) fun r3=>br (neI r3 0) (some ((Qap.mk false 0 [] 0 0),(QaF.mk 0 0 0 0),r3)) (bnd (Qf8 x0 r) fun r4=>br (neI r4.2 0) (some ((Qap.mk false 0 [] 0 0),(QaF.mk 0 0 0 0),r4.2)) (bnd (Qgw x0 r r4.1) fun r5=>some (r4.1,r5,0))):Option (Qap×QaF×Int))=some _:=h
    obtain ⟨r3,h10,h⟩:=Qad h
    rcases Qai h with ⟨h11,h⟩|⟨h11,h⟩
    ·obtain rfl:=Option.some.inj h
     exact gr 8 [] [cC (Qkl h10),bT h11,hW 8,hH (.nilB 2 2 4)]
    ·obtain ⟨r4,h12,h⟩:=Qad h
     rcases Qai h with ⟨h13,h⟩|⟨h13,h⟩
     ·obtain rfl:=Option.some.inj h
      exact gr 15 [] [cC (Qkl h10),bF h11,cC (Qo5 h12),bT h13,hW 8,hH (.nilB 2 2 4)]
     ·obtain ⟨r5,h14,h⟩:=Qad h
      obtain rfl:=Option.some.inj h
      exact gr 16 [] [cC (Qkl h10),bF h11,cC (Qo5 h12),bF h13,hH (.draw 5 []),cC (Qs6 h14)]
   ·obtain ⟨r6,rfl⟩:∃ x,x=e0:=⟨_,rfl⟩
    replace h:(some r6:Option (Qap×QaF×Int))=some _:=h
    exact Option.some.inj h
theorem Qn3 {s0} {rv:Bool} (h:QjB s0=some rv):AFn Tryz.prog 101 [.agg (QaF.enc s0)] [] (one (.bool rv)) []:=by
 refine QaN Tryz.func101 (by kernel_rfl) (by kernel_rfl) (fun Γ=>?_)
 unfold QjB at h
 obtain rfl:=Option.some.inj h
 exact gr 4 [] [rp 28 hP,rp 2 (oI ((geI s0.cost 0)=true)),oR True ((geI s0.cost 0)=true),rp 2 (oI (((geI s0.cost 0)&&(leI s0.cost 1073741824))=true)),oR True (((geI s0.cost 0)&&(leI s0.cost 1073741824))=true),rp 2 (oI ((((geI s0.cost 0)&&(leI s0.cost 1073741824))&&(geI s0.moved 0))=true)),oR True ((((geI s0.cost 0)&&(leI s0.cost 1073741824))&&(geI s0.moved 0))=true),rp 2 (oI (((((geI s0.cost 0)&&(leI s0.cost 1073741824))&&(geI s0.moved 0))&&(leI s0.moved 15))=true)),oR True (((((geI s0.cost 0)&&(leI s0.cost 1073741824))&&(geI s0.moved 0))&&(leI s0.moved 15))=true),rp 2 (oI ((((((geI s0.cost 0)&&(leI s0.cost 1073741824))&&(geI s0.moved 0))&&(leI s0.moved 15))&&(geI s0.other 0))=true)),oR True ((((((geI s0.cost 0)&&(leI s0.cost 1073741824))&&(geI s0.moved 0))&&(leI s0.moved 15))&&(geI s0.other 0))=true),rp 2 (oI (((((((geI s0.cost 0)&&(leI s0.cost 1073741824))&&(geI s0.moved 0))&&(leI s0.moved 15))&&(geI s0.other 0))&&(leI s0.other 15))=true)),oR True (((((((geI s0.cost 0)&&(leI s0.cost 1073741824))&&(geI s0.moved 0))&&(leI s0.moved 15))&&(geI s0.other 0))&&(leI s0.other 15))=true),rp 2 (oI ((((((((geI s0.cost 0)&&(leI s0.cost 1073741824))&&(geI s0.moved 0))&&(leI s0.moved 15))&&(geI s0.other 0))&&(leI s0.other 15))&&(geI s0.work 0))=true)),oR True ((((((((geI s0.cost 0)&&(leI s0.cost 1073741824))&&(geI s0.moved 0))&&(leI s0.moved 15))&&(geI s0.other 0))&&(leI s0.other 15))&&(geI s0.work 0))=true)]
theorem Qss {s0} {rv:Int×Int} (h:Qg6 s0=some rv):AFn Tryz.prog 63 [.agg (QaF.enc s0)] [] (.tup [.one (lI rv.1),.one (lI rv.2)]) []:=by
 refine QaN Tryz.func63 (by kernel_rfl) (by kernel_rfl) (fun Γ=>?_)
 unfold Qg6 at h
 rcases Qai h with ⟨h0,h⟩|⟨h0,h⟩
 ·obtain rfl:=Option.some.inj h
  exact gr 8 [] [rp 12 hP,rp 2 (oI ((ltI s0.cost 0)=false)),oR True ((ltI s0.cost 0)=false),rp 2 (oI (((ltI s0.cost 0)||(ltI s0.moved 0))=false)),oR True (((ltI s0.cost 0)||(ltI s0.moved 0))=false),rp 2 (oI ((((ltI s0.cost 0)||(ltI s0.moved 0))||(ltI s0.other 0))=false)),oR True ((((ltI s0.cost 0)||(ltI s0.moved 0))||(ltI s0.other 0))=false),bT h0]
 ·obtain ⟨r,h1,h⟩:=Qad h
  rcases Qai h with ⟨h2,h⟩|⟨h2,h⟩
  ·obtain rfl:=Option.some.inj h
   exact gr 14 [] [rp 12 hP,rp 2 (oI ((ltI s0.cost 0)=false)),oR True ((ltI s0.cost 0)=false),rp 2 (oI (((ltI s0.cost 0)||(ltI s0.moved 0))=false)),oR True (((ltI s0.cost 0)||(ltI s0.moved 0))=false),rp 2 (oI ((((ltI s0.cost 0)||(ltI s0.moved 0))||(ltI s0.other 0))=false)),oR True ((((ltI s0.cost 0)||(ltI s0.moved 0))||(ltI s0.other 0))=false),bF h0,cC (Qn3 h1),nF h2]
  ·obtain rfl:=Option.some.inj h
   exact gr 13 [] [rp 12 hP,rp 2 (oI ((ltI s0.cost 0)=false)),oR True ((ltI s0.cost 0)=false),rp 2 (oI (((ltI s0.cost 0)||(ltI s0.moved 0))=false)),oR True (((ltI s0.cost 0)||(ltI s0.moved 0))=false),rp 2 (oI ((((ltI s0.cost 0)||(ltI s0.moved 0))||(ltI s0.other 0))=false)),oR True ((((ltI s0.cost 0)||(ltI s0.moved 0))||(ltI s0.other 0))=false),bF h0,cC (Qn3 h1),nT h2]
theorem QhC {x0 r} {rv:Int×Int} (h:Qez x0 r=some rv):AFn Tryz.prog 31 [.agg (Qac.enc x0),.agg (Qag.enc r)] [] (.tup [.one (lI rv.1),.one (lI rv.2)]) []:=by
 refine QaN Tryz.func31 (by kernel_rfl) (by kernel_rfl) (fun Γ=>?_)
 unfold Qez at h
 obtain ⟨r1,h0,h⟩:=Qad h
 rcases Qai h with ⟨h1,h⟩|⟨h1,h⟩
 ·obtain rfl:=Option.some.inj h
  exact gr 10 [] [cC (QhW h0),bT h1]
 ·obtain ⟨r2,h2,h⟩:=Qad h
  obtain rfl:=Option.some.inj h
  exact gr 11 [] [cC (QhW h0),bF h1,cC (Qss h2)]
def QmF (Γ:Gam) (rv:List Int) (cf:Cf):Prop:=Go Tryz.prog Tryz.f88 [] Γ (one (lL 1 rv e_i64)) [] cf
def Qp7 (Γ:Gam) (rv:List Int) (before:List QaC) (l:List Int) (l2:List Int) (more1:Bool) (v:Int):Prop:=QmF Γ rv ⟨[.c 7468,.l 7468,.b 2,.b 1,.l 116,.b 0,.c 15],⟨68,[vL 1 2 before QaC.enc,vO 5 0 1 l2 e_i64,vB 6 more1,vL 16 2 before QaC.enc,vI 17 (lenI before),vI 18 v],[oS 1 3 l2 e_i64]⟩⟩
def Qpk (Γ:Gam) (rv:List Int) (before:List QaC) (l:List Int) (l3:List Int) (more2:Bool):Prop:=QmF Γ rv ⟨[.b 1,.l 116,.b 0,.c 15],⟨68,[vL 1 2 before QaC.enc,vO 5 0 1 l3 e_i64,vB 6 more2],[oS 1 3 l3 e_i64]⟩⟩
def Qp6 (Γ:Gam) (rv:List Int) (before:List QaC) (l:List Int) (l1:List Int) (more:Bool):Prop:=QmF Γ rv ⟨[.c 116,.l 116,.b 0,.c 15],⟨68,[vL 1 2 before QaC.enc,vO 5 0 1 l1 e_i64,vB 6 more],[oS 1 3 l1 e_i64]⟩⟩
def Qpj (Γ:Gam) (rv:List Int) (before:List QaC) (l:List Int) (l4:List Int):Prop:=QmF Γ rv ⟨[.c 15],⟨68,[vO 5 0 1 l4 e_i64],[oS 1 3 l4 e_i64]⟩⟩
theorem QtQ (Γ:Gam) (rv:List Int) {before l} {s:List Int×Bool×Int} {e:List Int×Bool} (h:loopF (fun s=>Qho before l s.1 s.2.1 s.2.2) s=some e) (hD:Qpk Γ rv before l e.1 e.2):Qp7 Γ rv before l s.1 s.2.1 s.2.2:=by
 refine QaD (C:=fun (s:List Int×Bool×Int)=>Qp7 Γ rv before l s.1 s.2.1 s.2.2) (D:=fun (e:List Int×Bool)=>Qpk Γ rv before l e.1 e.2) ?_ h hD
 clear h hD s e
 rintro ⟨l2,more1,v⟩ z_ h hI hE
 replace h:Qho before l l2 more1 v=_:=h
 unfold Qho at h
 rcases Qai h with ⟨h2,h⟩|⟨h2,h⟩
 ·obtain ⟨x0,h3,h⟩:=Qad h
  rcases Qai h with ⟨h4,h⟩|⟨h4,h⟩
  ·exact gn 18 [1,5,6,16,17,18] [0] [bT h2,cE QaC.enc h3,hH (.draw 6 []),rp 6 hP,oO (zL 0),oO (lT 0 2),oO (zL 1),oO (lT 1 2),oI ((ltI x0.x0 0)=false),oR True ((ltI x0.x0 0)=false),oI (((ltI x0.x0 0)||(ltI x0.x1 0))=false),nL e_i64 l2,rp 5 hP,rp 2 (oI (((ltI x0.x0 0)||(ltI x0.x1 0))=false)),oR True (((ltI x0.x0 0)||(ltI x0.x1 0))=false),oI ((((ltI x0.x0 0)||(ltI x0.x1 0))||(geI x0.x0 (lenI l2)))=false),nL e_i64 l2,hP,hP,rp 2 (oI ((((ltI x0.x0 0)||(ltI x0.x1 0))||(geI x0.x0 (lenI l2)))=false)),oR True ((((ltI x0.x0 0)||(ltI x0.x1 0))||(geI x0.x0 (lenI l2)))=false),bT h4] (hI _ (oJ h))
  ·obtain ⟨x1,h5,h⟩:=Qad h
   obtain ⟨x2,h6,h⟩:=Qad h
   obtain ⟨h7,h⟩:=Qaw h
   rcases Qai h with ⟨h8,h⟩|⟨h8,h⟩
   ·exact gn 27 [1,5,6,16,17,18] [0] [bT h2,cE QaC.enc h3,hH (.draw 6 []),rp 6 hP,oO (zL 0),oO (lT 0 2),oO (zL 1),oO (lT 1 2),oI ((ltI x0.x0 0)=false),oR True ((ltI x0.x0 0)=false),oI (((ltI x0.x0 0)||(ltI x0.x1 0))=false),nL e_i64 l2,rp 5 hP,rp 2 (oI (((ltI x0.x0 0)||(ltI x0.x1 0))=false)),oR True (((ltI x0.x0 0)||(ltI x0.x1 0))=false),oI ((((ltI x0.x0 0)||(ltI x0.x1 0))||(geI x0.x0 (lenI l2)))=false),nL e_i64 l2,hP,hP,rp 2 (oI ((((ltI x0.x0 0)||(ltI x0.x1 0))||(geI x0.x0 (lenI l2)))=false)),oR True ((((ltI x0.x0 0)||(ltI x0.x1 0))||(geI x0.x0 (lenI l2)))=false),bF h4,hH (.draw 13 []),oO (getLo h5),oO (getHi e_i64 h5),rE e_i64 h5,oO (getLo h6),oO (getHi e_i64 h6),rE e_i64 h6,oO (h7),oO (getLo h5),oO (getHi e_i64 h5),rE e_i64 h5,bT h8,oO (getLo h5),oO (getHi e_i64 h5),rE e_i64 h5,hH (.rows ((setI l2 x0.x1 (orK .i64 (orK .i64 x1 x2) (shlK .i64 1 x0.x0))).map e_i64)),hH (.relen 0 ((setI l2 x0.x1 (orK .i64 (orK .i64 x1 x2) (shlK .i64 1 x0.x0))).map e_i64).length),oO (setM e_i64 l2 x0.x1 (orK .i64 (orK .i64 x1 x2) (shlK .i64 1 x0.x0))),rp 5 (oO (Qx4 e_i64 l2 x0.x1 (orK .i64 (orK .i64 x1 x2) (shlK .i64 1 x0.x0))))] (hI _ (oJ h))
   ·exact gn 25 [1,5,6,16,17,18] [0] [bT h2,cE QaC.enc h3,hH (.draw 6 []),rp 6 hP,oO (zL 0),oO (lT 0 2),oO (zL 1),oO (lT 1 2),oI ((ltI x0.x0 0)=false),oR True ((ltI x0.x0 0)=false),oI (((ltI x0.x0 0)||(ltI x0.x1 0))=false),nL e_i64 l2,rp 5 hP,rp 2 (oI (((ltI x0.x0 0)||(ltI x0.x1 0))=false)),oR True (((ltI x0.x0 0)||(ltI x0.x1 0))=false),oI ((((ltI x0.x0 0)||(ltI x0.x1 0))||(geI x0.x0 (lenI l2)))=false),nL e_i64 l2,hP,hP,rp 2 (oI ((((ltI x0.x0 0)||(ltI x0.x1 0))||(geI x0.x0 (lenI l2)))=false)),oR True ((((ltI x0.x0 0)||(ltI x0.x1 0))||(geI x0.x0 (lenI l2)))=false),bF h4,hH (.draw 13 []),oO (getLo h5),oO (getHi e_i64 h5),rE e_i64 h5,oO (getLo h6),oO (getHi e_i64 h6),rE e_i64 h6,oO (h7),oO (getLo h5),oO (getHi e_i64 h5),rE e_i64 h5,bF h8] (hI _ (oJ h))
 ·exact gn 5 [1,5,6] [0] [bF h2] (hE _ (oJ h))
theorem QtP (Γ:Gam) (rv:List Int) {before l} {s:List Int×Bool} {e:List Int} (h:loopF (fun s=>Qhn before l s.1 s.2) s=some e) (hD:Qpj Γ rv before l e):Qp6 Γ rv before l s.1 s.2:=by
 refine QaD (C:=fun (s:List Int×Bool)=>Qp6 Γ rv before l s.1 s.2) (D:=fun (e:List Int)=>Qpj Γ rv before l e) ?_ h hD
 clear h hD s e
 rintro ⟨l1,more⟩ z_ h hI hE
 replace h:Qhn before l l1 more=_:=h
 unfold Qhn at h
 rcases Qai h with ⟨h1,h⟩|⟨h1,h⟩
 ·obtain ⟨e0,h9,h⟩:=Qad h
  refine gn 12 [1,5,6,16,17,18] [0] [bT h1,nL QaC.enc before] (QtQ Γ rv h9 ?_)
  obtain ⟨l3,more2⟩:=e0
  replace h:(some (.inl (l3,more2)):Option ((List Int×Bool)⊕(List Int)))=some _:=h
  exact gn 2 [1,5,6] [0] [] (hI _ (oJ h))
 ·exact gn 5 [5] [0] [bF h1] (hE _ (oJ h))
theorem QvM {orders before} {rv:List Int} (h:QgW orders before=some rv):AFn Tryz.prog 88 [.one (lI orders),.one (lL 2 before QaC.enc)] [] (one (lL 1 rv e_i64)) []:=by
 refine QaN Tryz.func88 (by kernel_rfl) (by kernel_rfl) (fun Γ=>?_)
 unfold QgW at h
 obtain ⟨l,h0,h⟩:=Qad h
 obtain ⟨e1,h10,h⟩:=Qad h
 refine gn 9 [1,5,6] [0] [hH (.cells [lI 0]),hH (.rows (l.map e_i64)),oO (mk1 h0),oO (mk2 h0),oO (mk3 h0),oO (mk4 h0),oO (mk5 e_i64 h0)] (QtP Γ rv h10 ?_)
 obtain ⟨l4,rfl⟩:∃ x,x=e1:=⟨_,rfl⟩
 replace h:(some l4:Option (List Int))=some _:=h
 obtain rfl:=Option.some.inj h
 exact gr 2 [] [hW 4,hH (.frz 0),rp 3 (eL l4 e_i64)]
def QdE (Γ:Gam) (rv:Int) (cf:Cf):Prop:=Go Tryz.prog Tryz.f53 [] Γ (one (lI rv)) [] cf
def Qpe (Γ:Gam) (rv:Int) (x0:Qac) (set_:Int) (r:List Int) (v:Int):Prop:=QdE Γ rv ⟨[.c 244,.l 244,.b 0,.c 31],⟨102,[vI 1 set_,vP 2 0 6,vL 5 1 r e_i64,vL 21 1 r e_i64,vI 22 (lenI r),vI 23 v],[oX 6 30 (Qac.enc x0)]⟩⟩
def Qod (Γ:Gam) (rv:Int) (x0:Qac) (set_:Int) (r:List Int):Prop:=QdE Γ rv ⟨[.c 31],⟨102,[vI 1 set_,vP 2 0 6,vL 5 1 r e_i64],[oX 6 30 (Qac.enc x0)]⟩⟩
def Qpf (Γ:Gam) (rv:Int) (x0:Qac) (set_:Int) (r:List Int) (v1:Int):Prop:=QdE Γ rv ⟨[.c 500,.l 500,.b 2,.c 63],⟨102,[vI 1 set_,vP 2 0 6,vL 5 1 r e_i64,vL 33 1 r e_i64,vI 34 (lenI r),vI 35 v1],[oX 6 30 (Qac.enc x0)]⟩⟩
def Qoe (Γ:Gam) (rv:Int) (x0:Qac) (set_:Int) (r:List Int):Prop:=QdE Γ rv ⟨[.c 63],⟨102,[vI 1 set_,vP 2 0 6,vL 5 1 r e_i64],[oX 6 30 (Qac.enc x0)]⟩⟩
def Qpg (Γ:Gam) (rv:Int) (x0:Qac) (set_:Int) (r:List Int) (v2:Int):Prop:=QdE Γ rv ⟨[.c 1012,.l 1012,.b 4,.c 127],⟨102,[vI 1 set_,vP 2 0 6,vL 5 1 r e_i64,vL 47 2 x0.apart QaC.enc,vI 48 (lenI x0.apart),vI 49 v2],[oX 6 30 (Qac.enc x0)]⟩⟩
def Qof (Γ:Gam) (rv:Int) (x0:Qac) (set_:Int) (r:List Int):Prop:=QdE Γ rv ⟨[.c 127],⟨102,[vI 1 set_,vP 2 0 6,vL 5 1 r e_i64],[oX 6 30 (Qac.enc x0)]⟩⟩
def Qph (Γ:Gam) (rv:Int) (x0:Qac) (set_:Int) (r:List Int) (v3:Int):Prop:=QdE Γ rv ⟨[.c 2036,.l 2036,.b 6,.c 255],⟨102,[vI 1 set_,vP 2 0 6,vL 5 1 r e_i64,vL 65 2 x0.before QaC.enc,vI 66 (lenI x0.before),vI 67 v3],[oX 6 30 (Qac.enc x0)]⟩⟩
def Qog (Γ:Gam) (rv:Int) (x0:Qac) (set_:Int) (r:List Int):Prop:=QdE Γ rv ⟨[.c 255],⟨102,[vP 2 0 6,vL 5 1 r e_i64],[oX 6 30 (Qac.enc x0)]⟩⟩
def Qpi (Γ:Gam) (rv:Int) (r:List Int) (r5:List Int) (v4:Int):Prop:=QdE Γ rv ⟨[.c 8180,.l 8180,.b 8,.c 1023],⟨102,[vL 14 1 r5 e_i64,vL 89 1 r e_i64,vI 90 (lenI r),vI 91 v4],[]⟩⟩
def Qoh (Γ:Gam) (rv:Int) (r:List Int) (r5:List Int):Prop:=QdE Γ rv ⟨[.c 1023],⟨102,[],[]⟩⟩
theorem Qtd (Γ:Gam) (rv:Int) {x0 set_ r} {s:Int} {e:(Unit)⊕(Int)} (h:loopF (fun s=>QbK x0 set_ r s) s=some e) (hD:sel e (fun e=>Qod Γ rv x0 set_ r) (fun e=>e=rv)):Qpe Γ rv x0 set_ r s:=by
 refine QaD (C:=fun (s:Int)=>Qpe Γ rv x0 set_ r s) (D:=fun (e:(Unit)⊕(Int))=>sel e (fun e=>Qod Γ rv x0 set_ r) (fun e=>e=rv)) ?_ h hD
 clear h hD s e
 intro v z_ h hI hE
 replace h:QbK x0 set_ r v=_:=h
 unfold QbK at h
 rcases Qai h with ⟨h2,h⟩|⟨h2,h⟩
 ·obtain ⟨x1,h3,h⟩:=Qad h
  rcases Qai h with ⟨h4,h⟩|⟨h4,h⟩
  ·obtain rfl:=(hE _ (oJ h):_=rv)
   exact gr 14 [] [bT h2,cE e_i64 h3,nL Qah.enc x0.orders,bT h4]
  ·exact gn 16 [1,2,5,21,22,23] [0] [bT h2,cE e_i64 h3,nL Qah.enc x0.orders,bF h4] (hI _ (oJ h))
 ·exact gn 5 [1,2,5] [0] [bF h2] (hE _ (oJ h))
theorem Qte (Γ:Gam) (rv:Int) {x0 set_ r} {s:Int} {e:(Unit)⊕(Int)} (h:loopF (fun s=>QbC x0 set_ r s) s=some e) (hD:sel e (fun e=>Qoe Γ rv x0 set_ r) (fun e=>e=rv)):Qpf Γ rv x0 set_ r s:=by
 refine QaD (C:=fun (s:Int)=>Qpf Γ rv x0 set_ r s) (D:=fun (e:(Unit)⊕(Int))=>sel e (fun e=>Qoe Γ rv x0 set_ r) (fun e=>e=rv)) ?_ h hD
 clear h hD s e
 intro v1 z_ h hI hE
 replace h:QbC x0 set_ r v1=_:=h
 unfold QbC at h
 rcases Qai h with ⟨h6,h⟩|⟨h6,h⟩
 ·obtain ⟨x2,h7,h⟩:=Qad h
  obtain ⟨x3,h8,h⟩:=Qad h
  rcases Qai h with ⟨h9,h⟩|⟨h9,h⟩
  ·obtain rfl:=(hE _ (oJ h):_=rv)
   exact gr 14 [] [bT h6,cE e_i64 h7,cE Qah.enc h8,bT h9]
  ·exact gn 16 [1,2,5,33,34,35] [0] [bT h6,cE e_i64 h7,cE Qah.enc h8,bF h9] (hI _ (oJ h))
 ·exact gn 5 [1,2,5] [0] [bF h6] (hE _ (oJ h))
theorem Qtf (Γ:Gam) (rv:Int) {x0 set_ r} {s:Int} {e:(Unit)⊕(Int)} (h:loopF (fun s=>Qbu x0 set_ r s) s=some e) (hD:sel e (fun e=>Qof Γ rv x0 set_ r) (fun e=>e=rv)):Qpg Γ rv x0 set_ r s:=by
 refine QaD (C:=fun (s:Int)=>Qpg Γ rv x0 set_ r s) (D:=fun (e:(Unit)⊕(Int))=>sel e (fun e=>Qof Γ rv x0 set_ r) (fun e=>e=rv)) ?_ h hD
 clear h hD s e
 intro v2 z_ h hI hE
 replace h:Qbu x0 set_ r v2=_:=h
 unfold Qbu at h
 rcases Qai h with ⟨h11,h⟩|⟨h11,h⟩
 ·obtain ⟨x4,h12,h⟩:=Qad h
  obtain ⟨r1,h13,h⟩:=Qad h
  rcases Qai h with ⟨h14,h⟩|⟨h14,h⟩
  ·obtain ⟨r2,h15,h⟩:=Qad h
   rcases Qai h with ⟨h16,h⟩|⟨h16,h⟩
   ·obtain rfl:=(hE _ (oJ h):_=rv)
    exact gr 14 [] [bT h11,cE QaC.enc h12,oO (zL 0),oO (lT 0 2),cC (QeY h13),rp 2 (bT h14),oO (zL 1),oO (lT 1 2),rp 2 (bT h14),cC (QeY h15),bT h14,bT h16]
   ·exact gn 16 [1,2,5,47,48,49] [0] [bT h11,cE QaC.enc h12,oO (zL 0),oO (lT 0 2),cC (QeY h13),rp 2 (bT h14),oO (zL 1),oO (lT 1 2),rp 2 (bT h14),cC (QeY h15),bT h14,bF h16] (hI _ (oJ h))
  ·exact gn 16 [1,2,5,47,48,49] [0] [bT h11,cE QaC.enc h12,oO (zL 0),oO (lT 0 2),cC (QeY h13),rp 5 (bF h14),fF] (hI _ (oJ h))
 ·exact gn 5 [1,2,5] [0] [bF h11] (hE _ (oJ h))
theorem Qtg (Γ:Gam) (rv:Int) {x0 set_ r} {s:Int} {e:(Unit)⊕(Int)} (h:loopF (fun s=>Qbl x0 set_ r s) s=some e) (hD:sel e (fun e=>Qog Γ rv x0 set_ r) (fun e=>e=rv)):Qph Γ rv x0 set_ r s:=by
 refine QaD (C:=fun (s:Int)=>Qph Γ rv x0 set_ r s) (D:=fun (e:(Unit)⊕(Int))=>sel e (fun e=>Qog Γ rv x0 set_ r) (fun e=>e=rv)) ?_ h hD
 clear h hD s e
 intro v3 z_ h hI hE
 replace h:Qbl x0 set_ r v3=_:=h
 unfold Qbl at h
 rcases Qai h with ⟨h18,h⟩|⟨h18,h⟩
 ·obtain ⟨x5,h19,h⟩:=Qad h
  obtain ⟨r3,h20,h⟩:=Qad h
  rcases Qai h with ⟨h21,h⟩|⟨h21,h⟩
  ·obtain ⟨r4,h22,h⟩:=Qad h
   rcases Qai h with ⟨h23,h⟩|⟨h23,h⟩
   ·exact gn 16 [1,2,5,65,66,67] [0] [bT h18,cE QaC.enc h19,oO (zL 1),oO (lT 1 2),cC (QeY h20),rp 2 (bT h21),oO (zL 0),oO (lT 0 2),rp 2 (bT h21),cC (QeY h22),rp 2 (bT h21),nF h23] (hI _ (oJ h))
   ·obtain rfl:=(hE _ (oJ h):_=rv)
    exact gr 14 [] [bT h18,cE QaC.enc h19,oO (zL 1),oO (lT 1 2),cC (QeY h20),rp 2 (bT h21),oO (zL 0),oO (lT 0 2),rp 2 (bT h21),cC (QeY h22),rp 2 (bT h21),nT h23]
  ·exact gn 16 [1,2,5,65,66,67] [0] [bT h18,cE QaC.enc h19,oO (zL 1),oO (lT 1 2),cC (QeY h20),rp 6 (bF h21),fF] (hI _ (oJ h))
 ·exact gn 5 [2,5] [0] [bF h18] (hE _ (oJ h))
theorem Qth (Γ:Gam) (rv:Int) {r r5} {s:Int} {e:(Unit)⊕(Int)} (h:loopF (fun s=>Qbg r r5 s) s=some e) (hD:sel e (fun e=>Qoh Γ rv r r5) (fun e=>e=rv)):Qpi Γ rv r r5 s:=by
 refine QaD (C:=fun (s:Int)=>Qpi Γ rv r r5 s) (D:=fun (e:(Unit)⊕(Int))=>sel e (fun e=>Qoh Γ rv r r5) (fun e=>e=rv)) ?_ h hD
 clear h hD s e
 intro v4 z_ h hI hE
 replace h:Qbg r r5 v4=_:=h
 unfold Qbg at h
 rcases Qai h with ⟨h26,h⟩|⟨h26,h⟩
 ·obtain ⟨x6,h27,h⟩:=Qad h
  obtain ⟨x7,h28,h⟩:=Qad h
  obtain ⟨r6,h29,h⟩:=Qad h
  rcases Qai h with ⟨h30,h⟩|⟨h30,h⟩
  ·obtain rfl:=(hE _ (oJ h):_=rv)
   exact gr 14 [] [bT h26,cE e_i64 h27,cE e_i64 h28,cC (QeY h29),bT h30]
  ·exact gn 16 [14,89,90,91] [] [bT h26,cE e_i64 h27,cE e_i64 h28,cC (QeY h29),bF h30] (hI _ (oJ h))
 ·exact gn 5 [] [] [bF h26] (hE _ (oJ h))
theorem Qrg {x0 set_} {rv:Int} (h:QgF x0 set_=some rv):AFn Tryz.prog 53 [.agg (Qac.enc x0),.one (lI set_)] [] (one (lI rv)) []:=by
 refine QaN Tryz.func53 (by kernel_rfl) (by kernel_rfl) (fun Γ=>?_)
 unfold QgF at h
 rcases Qai h with ⟨h0,h⟩|⟨h0,h⟩
 ·obtain rfl:=Option.some.inj h
  exact gr 8 [] [bT h0]
 ·obtain ⟨r,h1,h⟩:=Qad h
  obtain ⟨e0,h5,h⟩:=Qad h
  refine gn 14 [1,2,5,21,22,23] [0] [bF h0,cC (QoD h1),nL e_i64 r] (Qtd Γ rv h5 ?_)
  rcases e0 with e0|e0
  ·replace h:(bnd (loopF (fun s=>QbC x0 set_ r s) 0) (fun e=>sel e (fun (_:Unit)=>bnd (loopF (fun s=>Qbu x0 set_ r s) 0) (fun e=>sel e (fun (_:Unit)=>bnd (loopF (fun s=>Qbl x0 set_ r s) 0) (fun e=>sel e (fun (_:Unit)=>bnd (QgW (lenI x0.orders) x0.before) fun r5=>bnd (loopF (fun s=>Qbg r r5 s) 0) (fun e=>sel e (fun (_:Unit)=>some 0) (fun r7=>some r7))) (fun r8=>some r8))) (fun r9=>some r9))) (fun r10=>some r10)):Option Int)=some _:=h
   obtain ⟨e1,h10,h⟩:=Qad h
   refine gn 5 [1,2,5,33,34,35] [0] [nL e_i64 r] (Qte Γ rv h10 ?_)
   rcases e1 with e1|e1
   ·replace h:(bnd (loopF (fun s=>Qbu x0 set_ r s) 0) (fun e=>sel e (fun (_:Unit)=>bnd (loopF (fun s=>Qbl x0 set_ r s) 0) (fun e=>sel e (fun (_:Unit)=>bnd (QgW (lenI x0.orders) x0.before) fun r5=>bnd (loopF (fun s=>Qbg r r5 s) 0) (fun e=>sel e (fun (_:Unit)=>some 0) (fun r7=>some r7))) (fun r8=>some r8))) (fun r9=>some r9)):Option Int)=some _:=h
    obtain ⟨e2,h17,h⟩:=Qad h
    refine gn 5 [1,2,5,47,48,49] [0] [nL QaC.enc x0.apart] (Qtf Γ rv h17 ?_)
    rcases e2 with e2|e2
    ·replace h:(bnd (loopF (fun s=>Qbl x0 set_ r s) 0) (fun e=>sel e (fun (_:Unit)=>bnd (QgW (lenI x0.orders) x0.before) fun r5=>bnd (loopF (fun s=>Qbg r r5 s) 0) (fun e=>sel e (fun (_:Unit)=>some 0) (fun r7=>some r7))) (fun r8=>some r8)):Option Int)=some _:=h
     obtain ⟨e3,h24,h⟩:=Qad h
     refine gn 5 [1,2,5,65,66,67] [0] [nL QaC.enc x0.before] (Qtg Γ rv h24 ?_)
     rcases e3 with e3|e3
     ·replace h:(bnd (QgW (lenI x0.orders) x0.before) fun r5=>bnd (loopF (fun s=>Qbg r r5 s) 0) (fun e=>sel e (fun (_:Unit)=>some 0) (fun r7=>some r7)):Option Int)=some _:=h
      obtain ⟨r5,h25,h⟩:=Qad h
      obtain ⟨e4,h31,h⟩:=Qad h
      refine gn 7 [14,89,90,91] [] [nL Qah.enc x0.orders,cC (QvM h25),nL e_i64 r] (Qth Γ rv h31 ?_)
      rcases e4 with e4|e4
      ·replace h:(some 0:Option Int)=some _:=h
       obtain rfl:=Option.some.inj h
       exact gr 2 [] []
      ·obtain ⟨r7,rfl⟩:∃ x,x=e4:=⟨_,rfl⟩
       replace h:(some r7:Option Int)=some _:=h
       exact Option.some.inj h
     ·obtain ⟨r8,rfl⟩:∃ x,x=e3:=⟨_,rfl⟩
      replace h:(some r8:Option Int)=some _:=h
      exact Option.some.inj h
    ·obtain ⟨r9,rfl⟩:∃ x,x=e2:=⟨_,rfl⟩
     replace h:(some r9:Option Int)=some _:=h
     exact Option.some.inj h
   ·obtain ⟨r10,rfl⟩:∃ x,x=e1:=⟨_,rfl⟩
    replace h:(some r10:Option Int)=some _:=h
    exact Option.some.inj h
  ·obtain ⟨r11,rfl⟩:∃ x,x=e0:=⟨_,rfl⟩
   replace h:(some r11:Option Int)=some _:=h
   exact Option.some.inj h
def QeZ (Γ:Gam) (rv:Int) (cf:Cf):Prop:=Go Tryz.prog Tryz.f184 [] Γ (one (lI rv)) [] cf
def Qd6 (Γ:Gam) (rv:Int) (s0:List Qal) (v:Qal) (v1:Int):Prop:=QeZ Γ rv ⟨[.c 52,.l 52,.b 0,.c 7],⟨19,[vL 0 2 s0 Qal.enc,vP 3 0 2,vI 7 (lenI s0),vI 8 v1],[oX 2 144 (Qal.enc v)]⟩⟩
def Qd2 (Γ:Gam) (rv:Int) (s0:List Qal) (v:Qal):Prop:=QeZ Γ rv ⟨[.c 7],⟨19,[],[]⟩⟩
theorem Qha (Γ:Gam) (rv:Int) {s0 v} {s:Int} {e:(Unit)⊕(Int)} (h:loopF (fun s=>QaP s0 v s) s=some e) (hD:sel e (fun e=>Qd2 Γ rv s0 v) (fun e=>e=rv)):Qd6 Γ rv s0 v s:=by
 refine QaD (C:=fun (s:Int)=>Qd6 Γ rv s0 v s) (D:=fun (e:(Unit)⊕(Int))=>sel e (fun e=>Qd2 Γ rv s0 v) (fun e=>e=rv)) ?_ h hD
 clear h hD s e
 intro v1 z_ h hI hE
 replace h:QaP s0 v v1=_:=h
 unfold QaP at h
 rcases Qai h with ⟨h0,h⟩|⟨h0,h⟩
 ·obtain ⟨x0,h1,h⟩:=Qad h
  rcases Qai h with ⟨h2,h⟩|⟨h2,h⟩
  ·obtain rfl:=(hE _ (oJ h):_=rv)
   exact gr 14 [] [bT h0,hH (.draw 6 []),cE Qal.enc h1,bT h2]
  ·exact gn 16 [0,3,7,8] [0] [bT h0,hH (.draw 6 []),cE Qal.enc h1,bF h2] (hI _ (oJ h))
 ·exact gn 5 [] [] [bF h0] (hE _ (oJ h))
theorem Qh1 {s0 v} {rv:Int} (h:QbH s0 v=some rv):AFn Tryz.prog 184 [.one (lL 2 s0 Qal.enc),.agg (Qal.enc v)] [] (one (lI rv)) []:=by
 refine QaN Tryz.func184 (by kernel_rfl) (by kernel_rfl) (fun Γ=>?_)
 unfold QbH at h
 obtain ⟨e0,h3,h⟩:=Qad h
 refine gn 7 [0,3,7,8] [0] [nL Qal.enc s0] (Qha Γ rv h3 ?_)
 rcases e0 with e0|e0
 ·replace h:(some (-1):Option Int)=some _:=h
  obtain rfl:=Option.some.inj h
  exact gr 2 [] []
 ·obtain ⟨r,rfl⟩:∃ x,x=e0:=⟨_,rfl⟩
  replace h:(some r:Option Int)=some _:=h
  exact Option.some.inj h
theorem Qd0 {s0 v} {rv:Bool} (h:Qb3 s0 v=some rv):AFn Tryz.prog 136 [.one (lL 2 s0 Qal.enc),.agg (Qal.enc v)] [] (one (.bool rv)) []:=by
 refine QaN Tryz.func136 (by kernel_rfl) (by kernel_rfl) (fun Γ=>?_)
 unfold Qb3 at h
 obtain ⟨r,h0,h⟩:=Qad h
 obtain rfl:=Option.some.inj h
 exact gr 4 [] [cC (Qh1 h0)]
theorem Qjf {l s0} {rv:List Qal} (h:QgB l s0=some rv):AFn Tryz.prog 94 [.one (lO 0 2 l Qal.enc),.agg (Qal.enc s0)] [bS 2 144 l Qal.enc] (one (lO 0 2 rv Qal.enc)) [oS 2 144 rv Qal.enc]:=by
 refine QaN Tryz.func94 (by kernel_rfl) (by kernel_rfl) (fun Γ=>?_)
 unfold QgB at h
 obtain ⟨r,h0,h⟩:=Qad h
 rcases Qai h with ⟨h1,h⟩|⟨h1,h⟩
 ·obtain rfl:=Option.some.inj h
  exact gr 8 [0] [eL l Qal.enc,cC (Qd0 h0),bT h1]
 ·obtain ⟨h2,h⟩:=Qaw h
  obtain rfl:=Option.some.inj h
  exact gr 9 [3] [eL l Qal.enc,cC (Qd0 h0),bF h1,oO (Eq.refl ([s0].map Qal.enc).length),aO Qal.enc h2]
theorem Qro {s0 arrive} {rv:Int×Int} (h:QlE s0 arrive=some rv):AFn Tryz.prog 135 [.agg (Qau.enc s0),.one (lI arrive)] [] (.tup [.one (lI rv.1),.one (lI rv.2)]) []:=by
 refine QaN Tryz.func135 (by kernel_rfl) (by kernel_rfl) (fun Γ=>?_)
 unfold QlE at h
 obtain ⟨r,h0,h⟩:=Qad h
 rcases Qai h with ⟨h1,h⟩|⟨h1,h⟩
 ·obtain rfl:=Option.some.inj h
  exact gr 10 [] [cC (Qkx h0),bT h1]
 ·obtain rfl:=Option.some.inj h
  exact gr 11 [] [cC (Qkx h0),bF h1]
theorem QiD {s0} {rv:List Qaa} (h:Qb2 s0=some rv):AFn Tryz.prog 93 [.one (lL 2 s0 Qaa.enc)] [] (one (.sl true 2 (rv.map Qaa.enc))) []:=by
 refine QaN Tryz.func93 (by kernel_rfl) (by kernel_rfl) (fun Γ=>?_)
 unfold Qb2 at h
 obtain ⟨l,h0,h⟩:=Qad h
 obtain rfl:=Option.some.inj h
 exact gr 4 [] [rp 2 (nL Qaa.enc s0),hH (.rows (l.map Qaa.enc)),oO (Eq.refl (lenI s0)),oO (sl1 h0),oO (sl2 h0),oO (sl3 Qaa.enc h0),oO (Int.le_refl (lenI s0)),oO (sl3 Qaa.enc h0),oO (sl6 Qaa.enc h0)]
theorem Qkf {best some_ next_} {rv:Qae} (h:Qdz best some_ next_=some rv):AFn Tryz.prog 90 [.agg (Qae.enc best),.one (.bool some_),.agg (Qae.enc next_),.one (.fn (.func 34) [])] [] (gG [lI rv.type_,lI rv.set_,lI rv.price,lI rv.route.type_,lI rv.route.start,lL 1 rv.route.rests QaY,lL 2 rv.route.visits Qaa.enc]) []:=by
 refine QaN Tryz.func90 (by kernel_rfl) (by kernel_rfl) (fun Γ=>?_)
 unfold Qdz at h
 rcases Qai h with ⟨h0,h⟩|⟨h0,h⟩
 ·obtain ⟨r,h1,h⟩:=Qad h
  rcases Qai h with ⟨h2,h⟩|⟨h2,h⟩
  ·obtain rfl:=Option.some.inj h
   exact gr 8 [] [rp 4 (nF h0),cC (QaB h1),nF h0,bT h2]
  ·obtain rfl:=Option.some.inj h
   exact gr 9 [] [rp 4 (nF h0),cC (QaB h1),nF h0,bF h2]
 ·obtain rfl:=Option.some.inj h
  exact gr 8 [] [rp 5 (nT h0),tT]
theorem Qpw {s0 l depart driven} {rv:List Qal×Qaq} (h:Qe2 s0 l depart driven=some rv):AFn Tryz.prog 57 [.one (.op 0 17 0 0),.one (lO 1 2 l Qal.enc),.one (lI depart),.one (lI driven)] [bX 17 89 (Qaq.enc s0),bS 2 144 l Qal.enc] (one (lO 1 2 rv.1 Qal.enc)) [oX 17 89 [lL 1 rv.2.x.net.places e_str,lL 6 rv.2.x.net.arcs Qas.enc,lL 14 rv.2.x.types Qak.enc,lL 16 rv.2.x.orders Qah.enc,lL 2 rv.2.x.apart QaC.enc,lL 2 rv.2.x.before QaC.enc,lI rv.2.kind,lI rv.2.set_,lI rv.2.total,lI rv.2.best.type_,lI rv.2.best.set_,lI rv.2.best.price,lI rv.2.best.route.type_,lI rv.2.best.route.start,lL 1 rv.2.best.route.rests QaY,lL 2 rv.2.best.route.visits Qaa.enc,.bool rv.2.found],oS 2 144 rv.1 Qal.enc]:=by
 refine QaN Tryz.func57 (by kernel_rfl) (by kernel_rfl) (fun Γ=>?_)
 unfold Qe2 at h
 obtain ⟨r,h0,h⟩:=Qad h
 obtain ⟨x0,h1,h⟩:=Qad h
 obtain ⟨r1,h2,h⟩:=Qad h
 obtain rfl:=Option.some.inj h
 exact gr 6 [0,3] [cI [1] (Qjf h0),hH (.draw 18 [(2,16)]),cE Qak.enc h1,cI [2] (Qjf h2)]
def QnL (Γ:Gam) (rv:List Qal×Qaq) (cf:Cf):Prop:=Go Tryz.prog Tryz.f92 [0] Γ (one (lL 2 rv.1 Qal.enc)) [oX 17 89 [lL 1 rv.2.x.net.places e_str,lL 6 rv.2.x.net.arcs Qas.enc,lL 14 rv.2.x.types Qak.enc,lL 16 rv.2.x.orders Qah.enc,lL 2 rv.2.x.apart QaC.enc,lL 2 rv.2.x.before QaC.enc,lI rv.2.kind,lI rv.2.set_,lI rv.2.total,lI rv.2.best.type_,lI rv.2.best.set_,lI rv.2.best.price,lI rv.2.best.route.type_,lI rv.2.best.route.start,lL 1 rv.2.best.route.rests QaY,lL 2 rv.2.best.route.visits Qaa.enc,.bool rv.2.found]] cf
def Qkz (Γ:Gam) (rv:List Qal×Qaq) (from_:Int) (l:List Qal) (stop:Qau) (x0:Qak) (l1:List Qal) (x1:Qaq) (v:Int):Prop:=QnL Γ rv ⟨[.c 244,.l 244,.b 0,.c 31],⟨86,[vP 0 0 17,vI 1 from_,vP 7 1 4,vP 9 2 14,vO 10 3 2 l1 Qal.enc,vL 28 2 l Qal.enc,vI 29 (lenI l),vI 30 v],[oX 17 89 (Qaq.enc x1),oX 4 122 (Qau.enc stop),oX 14 94 (Qak.enc x0),oS 2 144 l1 Qal.enc]⟩⟩
def QjP (Γ:Gam) (rv:List Qal×Qaq) (from_:Int) (l:List Qal) (stop:Qau) (x0:Qak) (l2:List Qal) (x3:Qaq):Prop:=QnL Γ rv ⟨[.c 31],⟨86,[vO 10 1 2 l2 Qal.enc],[oX 17 89 (Qaq.enc x3),oS 2 144 l2 Qal.enc]⟩⟩
theorem Qqe (Γ:Gam) (rv:List Qal×Qaq) {from_ l stop x0} {s:List Qal×Qaq×Int} {e:List Qal×Qaq} (h:loopF (fun s=>Qd7 from_ l stop x0 s.1 s.2.1 s.2.2) s=some e) (hD:QjP Γ rv from_ l stop x0 e.1 e.2):Qkz Γ rv from_ l stop x0 s.1 s.2.1 s.2.2:=by
 refine QaD (C:=fun (s:List Qal×Qaq×Int)=>Qkz Γ rv from_ l stop x0 s.1 s.2.1 s.2.2) (D:=fun (e:List Qal×Qaq)=>QjP Γ rv from_ l stop x0 e.1 e.2) ?_ h hD
 clear h hD s e
 rintro ⟨l1,x1,v⟩ z_ h hI hE
 replace h:Qd7 from_ l stop x0 l1 x1 v=_:=h
 unfold Qd7 at h
 rcases Qai h with ⟨h1,h⟩|⟨h1,h⟩
 ·obtain ⟨x2,h2,h⟩:=Qad h
  obtain ⟨r,h3,h⟩:=Qad h
  rcases Qai h with ⟨h4,h⟩|⟨h4,h⟩
  ·exact gn 18 [0,1,7,9,10,28,29,30] [0,1,2,3] [bT h1,cE Qal.enc h2,hH (.draw 20 []),cC (QgE h3),rp 11 hP,rp 9 (oI ((neI r.2.2 0)=false)),oR True ((neI r.2.2 0)=false),bT h4] (hI _ (oJ h))
  ·obtain ⟨r1,h5,h⟩:=Qad h
   rcases Qai h with ⟨h6,h⟩|⟨h6,h⟩
   ·exact gn 25 [0,1,7,9,10,28,29,30] [0,1,2,3] [bT h1,cE Qal.enc h2,hH (.draw 20 []),cC (QgE h3),rp 11 hP,rp 9 (oI ((neI r.2.2 0)=false)),oR True ((neI r.2.2 0)=false),bF h4,cC (Qro h5),bT h6] (hI _ (oJ h))
   ·obtain ⟨r2,h7,h⟩:=Qad h
    exact gn 27 [0,1,7,9,10,28,29,30] [0,1,2,5] [bT h1,cE Qal.enc h2,hH (.draw 20 []),cC (QgE h3),rp 11 hP,rp 9 (oI ((neI r.2.2 0)=false)),oR True ((neI r.2.2 0)=false),bF h4,cC (Qro h5),bF h6,cI [0,3] (Qpw h7)] (hI _ (oJ h))
 ·exact gn 5 [10] [0,3] [bF h1] (hE _ (oJ h))
theorem QmO {s0 from_ l stop} {rv:List Qal×Qaq} (h:Qg0 s0 from_ l stop=some rv):AFn Tryz.prog 92 [.one (.op 0 17 0 0),.one (lI from_),.one (lL 2 l Qal.enc),.agg (Qau.enc stop)] [bX 17 89 (Qaq.enc s0)] (one (lL 2 rv.1 Qal.enc)) [oX 17 89 [lL 1 rv.2.x.net.places e_str,lL 6 rv.2.x.net.arcs Qas.enc,lL 14 rv.2.x.types Qak.enc,lL 16 rv.2.x.orders Qah.enc,lL 2 rv.2.x.apart QaC.enc,lL 2 rv.2.x.before QaC.enc,lI rv.2.kind,lI rv.2.set_,lI rv.2.total,lI rv.2.best.type_,lI rv.2.best.set_,lI rv.2.best.price,lI rv.2.best.route.type_,lI rv.2.best.route.start,lL 1 rv.2.best.route.rests QaY,lL 2 rv.2.best.route.visits Qaa.enc,.bool rv.2.found]]:=by
 refine QaN Tryz.func92 (by kernel_rfl) (by kernel_rfl) (fun Γ=>?_)
 unfold Qg0 at h
 obtain ⟨x0,h0,h⟩:=Qad h
 obtain ⟨e0,h8,h⟩:=Qad h
 refine gn 11 [0,1,7,9,10,28,29,30] [0,1,2,3] [hH (.draw 12 []),cE Qak.enc h0,nL Qal.enc l,hW 3,hH (.adopt 10 2 144)] (Qqe Γ rv h8 ?_)
 obtain ⟨l2,x3⟩:=e0
 replace h:(some (l2,x3):Option (List Qal×Qaq))=some _:=h
 obtain rfl:=Option.some.inj h
 exact gr 2 [0] [hW 4,hH (.frz 1),rp 3 (eL l2 Qal.enc)]
def QoF (Γ:Gam) (rv:Qaq) (cf:Cf):Prop:=Go Tryz.prog Tryz.f56 [0] Γ (.tup []) [oX 17 89 [lL 1 rv.x.net.places e_str,lL 6 rv.x.net.arcs Qas.enc,lL 14 rv.x.types Qak.enc,lL 16 rv.x.orders Qah.enc,lL 2 rv.x.apart QaC.enc,lL 2 rv.x.before QaC.enc,lI rv.kind,lI rv.set_,lI rv.total,lI rv.best.type_,lI rv.best.set_,lI rv.best.price,lI rv.best.route.type_,lI rv.best.route.start,lL 1 rv.best.route.rests QaY,lL 2 rv.best.route.visits Qaa.enc,.bool rv.found]] cf
def QlP (Γ:Gam) (rv:Qaq) (self:Qaq→(List Qaa)→Int→(List Qal)→Option Qaq) (visits:List Qaa) (from_:Int) (l:List Qal) (r2:List Qaa) (x0:Qaq) (v:Int):Prop:=QoF Γ rv ⟨[.c 28,.l 28,.b 0],⟨114,[vP 0 0 17,vL 1 2 visits Qaa.enc,vI 2 from_,vL 3 2 l Qal.enc,vL 77 2 r2 Qaa.enc,vI 78 (lenI r2),vI 79 v],[oX 17 89 (Qaq.enc x0)]⟩⟩
def QkA (Γ:Gam) (rv:Qaq) (self:Qaq→(List Qaa)→Int→(List Qal)→Option Qaq) (visits:List Qaa) (from_:Int) (l:List Qal) (r2:List Qaa) (x2:Qaq):Prop:=QoF Γ rv ⟨[],⟨114,[],[oX 17 89 (Qaq.enc x2)]⟩⟩
theorem Qqu (Γ:Gam) (rv:Qaq) {self:Qaq→(List Qaa)→Int→(List Qal)→Option Qaq} (hself:∀ {s0:Qaq} {visits:List Qaa} {from_:Int} {l:List Qal} {rv:Qaq},self s0 visits from_ l=some rv→AFn Tryz.prog 56 [.one (.op 0 17 0 0),.one (lL 2 visits Qaa.enc),.one (lI from_),.one (lL 2 l Qal.enc)] [bX 17 89 (Qaq.enc s0)] (.tup []) [oX 17 89 [lL 1 rv.x.net.places e_str,lL 6 rv.x.net.arcs Qas.enc,lL 14 rv.x.types Qak.enc,lL 16 rv.x.orders Qah.enc,lL 2 rv.x.apart QaC.enc,lL 2 rv.x.before QaC.enc,lI rv.kind,lI rv.set_,lI rv.total,lI rv.best.type_,lI rv.best.set_,lI rv.best.price,lI rv.best.route.type_,lI rv.best.route.start,lL 1 rv.best.route.rests QaY,lL 2 rv.best.route.visits Qaa.enc,.bool rv.found]]) {visits from_ l r2} {s:Qaq×Int} {e:Qaq} (h:loopF (fun s=>QeE self visits from_ l r2 s.1 s.2) s=some e) (hD:QkA Γ rv self visits from_ l r2 e):QlP Γ rv self visits from_ l r2 s.1 s.2:=by
 refine QaD (C:=fun (s:Qaq×Int)=>QlP Γ rv self visits from_ l r2 s.1 s.2) (D:=fun (e:Qaq)=>QkA Γ rv self visits from_ l r2 e) ?_ h hD
 clear h hD s e
 rintro ⟨x0,v⟩ z_ h hI hE
 replace h:QeE self visits from_ l r2 x0 v=_:=h
 unfold QeE at h
 rcases Qai h with ⟨h5,h⟩|⟨h5,h⟩
 ·obtain ⟨x1,h6,h⟩:=Qad h
  obtain ⟨r3,h7,h⟩:=Qad h
  rcases Qai h with ⟨h8,h⟩|⟨h8,h⟩
  ·exact gn 18 [0,1,2,3,77,78,79] [0] [bT h5,cE Qaa.enc h6,hH (.draw 13 [(2,11)]),cC (Qlv h7),bT h8] (hI _ (oJ h))
  ·obtain ⟨r4,h9,h⟩:=Qad h
   rcases Qai h with ⟨h10,h⟩|⟨h10,h⟩
   ·obtain ⟨r5,h11,h⟩:=Qad h
    obtain ⟨h12,h⟩:=Qaw h
    obtain ⟨r6,h13,h⟩:=Qad h
    exact gn 25 [0,1,2,3,77,78,79] [0] [bT h5,cE Qaa.enc h6,hH (.draw 13 [(2,11)]),cC (Qlv h7),bF h8,cI [0] (QmO h9),nL Qal.enc r4.1,bT h10,hH (.draw 9 []),cC (QiD h11),oO (Eq.refl ([x1].map Qaa.enc).length),hH (.rows ((r5++[x1]).map Qaa.enc)),hH (.frz 4),oO (appM Qaa.enc r5 [x1]),oO (neA Qaa.enc r5 [x1] (by simp)),oO (okLe (l:=((r5++[x1]):List Qaa)) Qaa.enc h12),oO (okLe2 (l:=((r5++[x1]):List Qaa)) (b:=16) Qaa.enc (by decide) h12),oO (Eq.refl ((r5++[x1]).map Qaa.enc).length),cI [0] (hself h13)] (hI _ (oJ h))
   ·exact gn 25 [0,1,2,3,77,78,79] [0] [bT h5,cE Qaa.enc h6,hH (.draw 13 [(2,11)]),cC (Qlv h7),bF h8,cI [0] (QmO h9),nL Qal.enc r4.1,bF h10] (hI _ (oJ h))
 ·exact gn 5 [] [0] [bF h5] (hE _ (oJ h))
theorem QrF {self:Qaq→(List Qaa)→Int→(List Qal)→Option Qaq} (hself:∀ {s0:Qaq} {visits:List Qaa} {from_:Int} {l:List Qal} {rv:Qaq},self s0 visits from_ l=some rv→AFn Tryz.prog 56 [.one (.op 0 17 0 0),.one (lL 2 visits Qaa.enc),.one (lI from_),.one (lL 2 l Qal.enc)] [bX 17 89 (Qaq.enc s0)] (.tup []) [oX 17 89 [lL 1 rv.x.net.places e_str,lL 6 rv.x.net.arcs Qas.enc,lL 14 rv.x.types Qak.enc,lL 16 rv.x.orders Qah.enc,lL 2 rv.x.apart QaC.enc,lL 2 rv.x.before QaC.enc,lI rv.kind,lI rv.set_,lI rv.total,lI rv.best.type_,lI rv.best.set_,lI rv.best.price,lI rv.best.route.type_,lI rv.best.route.start,lL 1 rv.best.route.rests QaY,lL 2 rv.best.route.visits Qaa.enc,.bool rv.found]]) {s0 visits from_ l} {rv:Qaq} (h:Qgg self s0 visits from_ l=some rv):AFn Tryz.prog 56 [.one (.op 0 17 0 0),.one (lL 2 visits Qaa.enc),.one (lI from_),.one (lL 2 l Qal.enc)] [bX 17 89 (Qaq.enc s0)] (.tup []) [oX 17 89 [lL 1 rv.x.net.places e_str,lL 6 rv.x.net.arcs Qas.enc,lL 14 rv.x.types Qak.enc,lL 16 rv.x.orders Qah.enc,lL 2 rv.x.apart QaC.enc,lL 2 rv.x.before QaC.enc,lI rv.kind,lI rv.set_,lI rv.total,lI rv.best.type_,lI rv.best.set_,lI rv.best.price,lI rv.best.route.type_,lI rv.best.route.start,lL 1 rv.best.route.rests QaY,lL 2 rv.best.route.visits Qaa.enc,.bool rv.found]]:=by
 refine QaN Tryz.func56 (by kernel_rfl) (by kernel_rfl) (fun Γ=>?_)
 unfold Qgg at h
 rcases Qai h with ⟨h0,h⟩|⟨h0,h⟩
 ·obtain ⟨r,h1,h⟩:=Qad h
  rcases Qai h with ⟨h2,h⟩|⟨h2,h⟩
  ·obtain ⟨r1,h3,h⟩:=Qad h
   obtain rfl:=Option.some.inj h
   exact gr 17 [0] [nL Qaa.enc visits,bT h0,hW 11,hH (.nilB 1 2 1),hH (.draw 11 []),cC (Qtc h1),bT h2,hH (.draw 12 []),hH (.draw 13 []),cC (Qkf h3)]
  ·obtain rfl:=Option.some.inj h
   exact gr 13 [0] [nL Qaa.enc visits,bT h0,hW 11,hH (.nilB 1 2 1),hH (.draw 11 []),cC (Qtc h1),bF h2]
 ·obtain ⟨r2,h4,h⟩:=Qad h
  obtain ⟨e0,h14,h⟩:=Qad h
  refine gn 9 [0,1,2,3,77,78,79] [0] [nL Qaa.enc visits,bF h0,hH (.draw 12 []),cC (Qvp h4),nL Qaa.enc r2] (Qqu Γ rv hself h14 ?_)
  obtain ⟨x2,rfl⟩:∃ x,x=e0:=⟨_,rfl⟩
  replace h:(some x2:Option Qaq)=some _:=h
  obtain rfl:=Option.some.inj h
  exact gr 0 [0] []
theorem QmQ:∀ n,∀ {s0:Qaq} {visits:List Qaa} {from_:Int} {l:List Qal} {rv:Qaq},Qd8 n s0 visits from_ l=some rv→AFn Tryz.prog 56 [.one (.op 0 17 0 0),.one (lL 2 visits Qaa.enc),.one (lI from_),.one (lL 2 l Qal.enc)] [bX 17 89 (Qaq.enc s0)] (.tup []) [oX 17 89 [lL 1 rv.x.net.places e_str,lL 6 rv.x.net.arcs Qas.enc,lL 14 rv.x.types Qak.enc,lL 16 rv.x.orders Qah.enc,lL 2 rv.x.apart QaC.enc,lL 2 rv.x.before QaC.enc,lI rv.kind,lI rv.set_,lI rv.total,lI rv.best.type_,lI rv.best.set_,lI rv.best.price,lI rv.best.route.type_,lI rv.best.route.start,lL 1 rv.best.route.rests QaY,lL 2 rv.best.route.visits Qaa.enc,.bool rv.found]]
 | 0=>fun h=>nomatch h
 | n+1=>fun h=>QrF (QmQ n) h
theorem QnM:∀ {s0:Qaq} {visits:List Qaa} {from_:Int} {l:List Qal} {rv:Qaq},QmP s0 visits from_ l=some rv→AFn Tryz.prog 56 [.one (.op 0 17 0 0),.one (lL 2 visits Qaa.enc),.one (lI from_),.one (lL 2 l Qal.enc)] [bX 17 89 (Qaq.enc s0)] (.tup []) [oX 17 89 [lL 1 rv.x.net.places e_str,lL 6 rv.x.net.arcs Qas.enc,lL 14 rv.x.types Qak.enc,lL 16 rv.x.orders Qah.enc,lL 2 rv.x.apart QaC.enc,lL 2 rv.x.before QaC.enc,lI rv.kind,lI rv.set_,lI rv.total,lI rv.best.type_,lI rv.best.set_,lI rv.best.price,lI rv.best.route.type_,lI rv.best.route.start,lL 1 rv.best.route.rests QaY,lL 2 rv.best.route.visits Qaa.enc,.bool rv.found]]:=QmQ _
theorem QiW {s0 depart driven} {rv:List Qal×Qaq} (h:Qeu s0 depart driven=some rv):AFn Tryz.prog 57 [.one (.op 0 17 0 0),.one (.nils),.one (lI depart),.one (lI driven)] [bX 17 89 (Qaq.enc s0)] (one (lL 2 rv.1 Qal.enc)) [oX 17 89 [lL 1 rv.2.x.net.places e_str,lL 6 rv.2.x.net.arcs Qas.enc,lL 14 rv.2.x.types Qak.enc,lL 16 rv.2.x.orders Qah.enc,lL 2 rv.2.x.apart QaC.enc,lL 2 rv.2.x.before QaC.enc,lI rv.2.kind,lI rv.2.set_,lI rv.2.total,lI rv.2.best.type_,lI rv.2.best.set_,lI rv.2.best.price,lI rv.2.best.route.type_,lI rv.2.best.route.start,lL 1 rv.2.best.route.rests QaY,lL 2 rv.2.best.route.visits Qaa.enc,.bool rv.2.found]]:=by
 refine QaN Tryz.func57 (by kernel_rfl) (by kernel_rfl) (fun Γ=>?_)
 unfold Qeu at h
 obtain ⟨r,h0,h⟩:=Qad h
 obtain ⟨x0,h1,h⟩:=Qad h
 obtain ⟨r1,h2,h⟩:=Qad h
 obtain rfl:=Option.some.inj h
 exact gr 6 [0] [hW 9,hH (.adopt 9 2 144),cI [1] (Qjf h0),hH (.draw 17 [(2,16)]),cE Qak.enc h1,cI [2] (Qjf h2),hW 1,hH (.frz 3),rp 2 (eL r1 Qal.enc)]
def QvV (Γ:Gam) (rv:Qae×Int) (cf:Cf):Prop:=Go Tryz.prog Tryz.f24 [] Γ (.tup [.agg [lI rv.1.type_,lI rv.1.set_,lI rv.1.price,lI rv.1.route.type_,lI rv.1.route.start,lL 1 rv.1.route.rests QaY,lL 2 rv.1.route.visits Qaa.enc],.one (lI rv.2)]) [] cf
def QsO (Γ:Gam) (rv:Qae×Int) (x0:Qac) (kind:Int) (set_:Int) (r1:List Int) (total:Int) (v:Int):Prop:=QvV Γ rv ⟨[.c 500,.l 500,.b 0,.c 63],⟨87,[vI 1 kind,vP 3 0 6,vP 6 1 7,vP 8 2 17,vL 45 1 r1 e_i64,vI 46 (lenI r1),vI 47 v],[oX 6 30 (Qac.enc x0),oX 7 45 [lI 0,lI 0,lI 0,lI 0,lI 0,.nils,.nils],oX 17 89 [lL 1 x0.net.places e_str,lL 6 x0.net.arcs Qas.enc,lL 14 x0.types Qak.enc,lL 16 x0.orders Qah.enc,lL 2 x0.apart QaC.enc,lL 2 x0.before QaC.enc,lI kind,lI set_,lI total,lI 0,lI 0,lI 0,lI 0,lI 0,.nils,.nils,.bool false]]⟩⟩
def Qr4 (Γ:Gam) (rv:Qae×Int) (x0:Qac) (kind:Int) (set_:Int) (r1:List Int) (total1:Int):Prop:=QvV Γ rv ⟨[.c 63],⟨87,[vI 1 kind,vP 3 0 6,vP 6 1 7,vP 8 2 17],[oX 6 30 (Qac.enc x0),oX 7 45 [lI 0,lI 0,lI 0,lI 0,lI 0,.nils,.nils],oX 17 89 [lL 1 x0.net.places e_str,lL 6 x0.net.arcs Qas.enc,lL 14 x0.types Qak.enc,lL 16 x0.orders Qah.enc,lL 2 x0.apart QaC.enc,lL 2 x0.before QaC.enc,lI kind,lI set_,lI total1,lI 0,lI 0,lI 0,lI 0,lI 0,.nils,.nils,.bool false]]⟩⟩
theorem QvE (Γ:Gam) (rv:Qae×Int) {x0 kind set_ r1} {s:Int×Int} {e:Int} (h:loopF (fun s=>Qf1 x0 kind set_ r1 s.1 s.2) s=some e) (hD:Qr4 Γ rv x0 kind set_ r1 e):QsO Γ rv x0 kind set_ r1 s.1 s.2:=by
 refine QaD (C:=fun (s:Int×Int)=>QsO Γ rv x0 kind set_ r1 s.1 s.2) (D:=fun (e:Int)=>Qr4 Γ rv x0 kind set_ r1 e) ?_ h hD
 clear h hD s e
 rintro ⟨total,v⟩ z_ h hI hE
 replace h:Qf1 x0 kind set_ r1 total v=_:=h
 unfold Qf1 at h
 rcases Qai h with ⟨h6,h⟩|⟨h6,h⟩
 ·obtain ⟨x1,h7,h⟩:=Qad h
  obtain ⟨r2,h8,h⟩:=Qad h
  exact gn 13 [1,3,6,8,45,46,47] [0,1,2] [bT h6,cE e_i64 h7,hH (.draw 12 []),cC (Qhl h8),nL Qaa.enc r2] (hI _ (oJ h))
 ·exact gn 5 [1,3,6,8] [0,1,2] [bF h6] (hE _ (oJ h))
theorem Qfv {x0 kind set_} {rv:Qae×Int} (h:QnK x0 kind set_=some rv):AFn Tryz.prog 24 [.agg (Qac.enc x0),.one (lI kind),.one (lI set_)] [] (.tup [.agg [lI rv.1.type_,lI rv.1.set_,lI rv.1.price,lI rv.1.route.type_,lI rv.1.route.start,lL 1 rv.1.route.rests QaY,lL 2 rv.1.route.visits Qaa.enc],.one (lI rv.2)]) []:=by
 refine QaN Tryz.func24 (by kernel_rfl) (by kernel_rfl) (fun Γ=>?_)
 unfold QnK at h
 rcases Qai h with ⟨h0,h⟩|⟨h0,h⟩
 ·obtain rfl:=Option.some.inj h
  exact gr 8 [] [rp 4 hP,rp 2 (oI ((ltI kind 0)=false)),nL Qak.enc x0.types,rp 5 hP,rp 2 (oI ((ltI kind 0)=false)),oR True ((ltI kind 0)=false),oI (((ltI kind 0)||(geI kind (lenI x0.types)))=false),oR True (((ltI kind 0)||(geI kind (lenI x0.types)))=false),rp 7 (bT h0),tT,hW 5,hH (.nilB 1 5 1),hH (.nilB 1 6 2)]
 ·obtain ⟨h1,h⟩:=Qaw h
  rcases Qai h with ⟨h2,h⟩|⟨h2,h⟩
  ·obtain rfl:=Option.some.inj h
   exact gr 8 [] [rp 4 hP,rp 2 (oI ((ltI kind 0)=false)),nL Qak.enc x0.types,rp 5 hP,rp 2 (oI ((ltI kind 0)=false)),oR True ((ltI kind 0)=false),oI (((ltI kind 0)||(geI kind (lenI x0.types)))=false),oR True (((ltI kind 0)||(geI kind (lenI x0.types)))=false),rp 4 (bF h0),nL Qah.enc x0.orders,bF h0,oO (h1),bF h0,bF h0,bT h2,hW 5,hH (.nilB 1 5 1),hH (.nilB 1 6 2)]
  ·obtain ⟨r,h3,h⟩:=Qad h
   rcases Qai h with ⟨h4,h⟩|⟨h4,h⟩
   ·obtain rfl:=Option.some.inj h
    exact gr 13 [] [rp 4 hP,rp 2 (oI ((ltI kind 0)=false)),nL Qak.enc x0.types,rp 5 hP,rp 2 (oI ((ltI kind 0)=false)),oR True ((ltI kind 0)=false),oI (((ltI kind 0)||(geI kind (lenI x0.types)))=false),oR True (((ltI kind 0)||(geI kind (lenI x0.types)))=false),rp 4 (bF h0),nL Qah.enc x0.orders,bF h0,oO (h1),bF h0,bF h0,bF h2,cC (Qrg h3),bT h4,hW 5,hH (.nilB 1 5 1),hH (.nilB 1 6 2)]
   ·obtain ⟨r1,h5,h⟩:=Qad h
    obtain ⟨e0,h9,h⟩:=Qad h
    refine gn 19 [1,3,6,8,45,46,47] [0,1,2] [rp 4 hP,rp 2 (oI ((ltI kind 0)=false)),nL Qak.enc x0.types,rp 5 hP,rp 2 (oI ((ltI kind 0)=false)),oR True ((ltI kind 0)=false),oI (((ltI kind 0)||(geI kind (lenI x0.types)))=false),oR True (((ltI kind 0)||(geI kind (lenI x0.types)))=false),rp 4 (bF h0),nL Qah.enc x0.orders,bF h0,oO (h1),bF h0,bF h0,bF h2,cC (Qrg h3),bF h4,cC (QoD h5),nL e_i64 r1] (QvE Γ rv h9 ?_)
    obtain ⟨total1,rfl⟩:∃ x,x=e0:=⟨_,rfl⟩
    replace h:(bnd (getI x0.types kind) fun x2=>bnd (Qeu (Qaq.mk x0 kind set_ total1 (Qae.mk 0 0 0 (Qag.mk 0 0 [] [])) false) x2.open_ 0) fun r3=>bnd (QmP r3.2 [] x2.from_ r3.1) fun r4=>br r4.found (some (r4.best,0)) (some ((Qae.mk 0 0 0 (Qag.mk 0 0 [] [])),24)):Option (Qae×Int))=some _:=h
    obtain ⟨x2,h10,h⟩:=Qad h
    obtain ⟨r3,h11,h⟩:=Qad h
    obtain ⟨r4,h12,h⟩:=Qad h
    rcases Qai h with ⟨h13,h⟩|⟨h13,h⟩
    ·obtain rfl:=Option.some.inj h
     exact gr 11 [] [cE Qak.enc h10,hW 4,hH (.nilB 2 14 1),hH (.nilB 2 15 2),hH (.draw 7 [(2,6)]),cI [2] (QiW h11),cI [2] (AFn.nilA 1 2 (QnM h12)),nF h13]
    ·obtain rfl:=Option.some.inj h
     exact gr 10 [] [cE Qak.enc h10,hW 4,hH (.nilB 2 14 1),hH (.nilB 2 15 2),hH (.draw 7 [(2,6)]),cI [2] (QiW h11),cI [2] (AFn.nilA 1 2 (QnM h12)),nT h13,hW 5,hH (.nilB 1 5 1),hH (.nilB 1 6 2)]
theorem QdU {x0} {rv:Bool} (h:QgK x0=some rv):AFn Tryz.prog 22 [.agg (Qac.enc x0)] [] (one (.bool rv)) []:=by
 refine QaN Tryz.func22 (by kernel_rfl) (by kernel_rfl) (fun Γ=>?_)
 unfold QgK at h
 rcases Qai h with ⟨h0,h⟩|⟨h0,h⟩
 ·obtain ⟨r,h1,h⟩:=Qad h
  obtain rfl:=Option.some.inj h
  exact gr 4 [] [nL Qah.enc x0.orders,hP,hP,hP,rp 2 (oI ((leI (lenI x0.orders) 3)=true)),nL Qak.enc x0.types,hP,hP,oI ((leI (lenI x0.orders) 3)=true),oR True ((leI (lenI x0.orders) 3)=true),bT h0,bT h0,cC (Qs3 h1),bT h0,nL Qab.enc r,bT h0,bT h0]
 ·obtain rfl:=Option.some.inj h
  exact gr 4 [] [nL Qah.enc x0.orders,hP,hP,hP,rp 2 (oI ((leI (lenI x0.orders) 3)=true)),nL Qak.enc x0.types,hP,hP,oI ((leI (lenI x0.orders) 3)=true),oR True ((leI (lenI x0.orders) 3)=true),rp 5 (bF h0)]
def QsL (Γ:Gam) (rv:List Qae×Int) (cf:Cf):Prop:=Go Tryz.prog Tryz.f27 [] Γ (.tup [.one (lL 7 rv.1 Qae.enc),.one (lI rv.2)]) [] cf
def Qt5 (Γ:Gam) (rv:List Qae×Int) (x0:Qac) (l:List Qae) (v:Int) (l1:List Qae) (set_:Int):Prop:=QsL Γ rv ⟨[.c 29900,.l 29900,.b 2,.b 1,.c 935,.l 116,.b 0,.c 15],⟨38,[vP 1 0 6,vO 4 1 7 l1 Qae.enc,vI 5 v,vI 6 set_,vI 11 (lenI x0.types),vI 12 v],[oX 6 30 (Qac.enc x0),oS 7 45 l1 Qae.enc]⟩⟩
def QsN (Γ:Gam) (rv:List Qae×Int) (x0:Qac) (l:List Qae) (v:Int) (l2:List Qae):Prop:=QsL Γ rv ⟨[.b 1,.c 935,.l 116,.b 0,.c 15],⟨38,[vP 1 0 6,vO 4 1 7 l2 Qae.enc,vI 11 (lenI x0.types),vI 12 v],[oX 6 30 (Qac.enc x0),oS 7 45 l2 Qae.enc]⟩⟩
def Qt4 (Γ:Gam) (rv:List Qae×Int) (x0:Qac) (l:List Qae) (v:Int):Prop:=QsL Γ rv ⟨[.c 116,.l 116,.b 0,.c 15],⟨38,[vP 1 0 6,vO 4 1 7 l Qae.enc,vI 11 (lenI x0.types),vI 12 v],[oX 6 30 (Qac.enc x0),oS 7 45 l Qae.enc]⟩⟩
def QsM (Γ:Gam) (rv:List Qae×Int) (x0:Qac) (l3:List Qae):Prop:=QsL Γ rv ⟨[.c 15],⟨38,[vO 4 0 7 l3 Qae.enc],[oS 7 45 l3 Qae.enc]⟩⟩
theorem Qwj (Γ:Gam) (rv:List Qae×Int) {x0 l v} {s:List Qae×Int} {e:List Qae} (h:loopF (fun s=>Qh3 x0 l v s.1 s.2) s=some e) (hD:QsN Γ rv x0 l v e):Qt5 Γ rv x0 l v s.1 s.2:=by
 refine QaD (C:=fun (s:List Qae×Int)=>Qt5 Γ rv x0 l v s.1 s.2) (D:=fun (e:List Qae)=>QsN Γ rv x0 l v e) ?_ h hD
 clear h hD s e
 rintro ⟨l1,set_⟩ z_ h hI hE
 replace h:Qh3 x0 l v l1 set_=_:=h
 unfold Qh3 at h
 obtain ⟨h1,h⟩:=Qaw h
 rcases Qai h with ⟨h2,h⟩|⟨h2,h⟩
 ·obtain ⟨r,h3,h⟩:=Qad h
  rcases Qai h with ⟨h4,h⟩|⟨h4,h⟩
  ·obtain ⟨h5,h⟩:=Qaw h
   exact gn 16 [1,4,5,6,11,12] [0,4] [nL Qah.enc x0.orders,oO (h1),bT h2,cC (Qfv h3),bT h4,oO (Eq.refl ([r.1].map Qae.enc).length),aO Qae.enc h5] (hI _ (oJ h))
  ·exact gn 16 [1,4,5,6,11,12] [0,1] [nL Qah.enc x0.orders,oO (h1),bT h2,cC (Qfv h3),bF h4] (hI _ (oJ h))
 ·exact gn 5 [1,4,11,12] [0,1] [nL Qah.enc x0.orders,oO (h1),bF h2] (hE _ (oJ h))
theorem Qwi (Γ:Gam) (rv:List Qae×Int) {x0} {s:List Qae×Int} {e:List Qae} (h:loopF (fun s=>Qhc x0 s.1 s.2) s=some e) (hD:QsM Γ rv x0 e):Qt4 Γ rv x0 s.1 s.2:=by
 refine QaD (C:=fun (s:List Qae×Int)=>Qt4 Γ rv x0 s.1 s.2) (D:=fun (e:List Qae)=>QsM Γ rv x0 e) ?_ h hD
 clear h hD s e
 rintro ⟨l,v⟩ z_ h hI hE
 replace h:Qhc x0 l v=_:=h
 unfold Qhc at h
 rcases Qai h with ⟨h0,h⟩|⟨h0,h⟩
 ·obtain ⟨e0,h6,h⟩:=Qad h
  refine gn 13 [1,4,5,6,11,12] [0,1] [bT h0] (Qwj Γ rv h6 ?_)
  obtain ⟨l2,rfl⟩:∃ x,x=e0:=⟨_,rfl⟩
  replace h:(some (.inl (l2,(addK .i64 v 1))):Option ((List Qae×Int)⊕(List Qae)))=some _:=h
  exact gn 3 [1,4,11,12] [0,1] [] (hI _ (oJ h))
 ·exact gn 5 [4] [1] [bF h0] (hE _ (oJ h))
theorem QmK {x0} {rv:List Qae×Int} (h:Qsf x0=some rv):AFn Tryz.prog 27 [.agg (Qac.enc x0)] [] (.tup [.one (lL 7 rv.1 Qae.enc),.one (lI rv.2)]) []:=by
 refine QaN Tryz.func27 (by kernel_rfl) (by kernel_rfl) (fun Γ=>?_)
 unfold Qsf at h
 obtain ⟨e1,h7,h⟩:=Qad h
 refine gn 9 [1,4,11,12] [0,1] [nL Qak.enc x0.types,hW 3,hH (.adopt 4 7 45)] (Qwi Γ rv h7 ?_)
 obtain ⟨l3,rfl⟩:∃ x,x=e1:=⟨_,rfl⟩
 replace h:(some (l3,0):Option (List Qae×Int))=some _:=h
 obtain rfl:=Option.some.inj h
 exact gr 2 [] [hW 5,hH (.frz 0),rp 3 (eL l3 Qae.enc)]
theorem Qvq {a b} {rv:Bool} (h:Qor a b=some rv):AFn Tryz.prog 66 [.one (lL 2 a Qaa.enc),.one (lL 2 b Qaa.enc)] [] (one (.bool rv)) []:=by
 refine QaN Tryz.func66 (by kernel_rfl) (by kernel_rfl) (fun Γ=>?_)
 unfold Qor at h
 obtain ⟨r,h0,h⟩:=Qad h
 obtain rfl:=Option.some.inj h
 exact gr 4 [] [cC (Qiq h0)]
theorem QdH {a b} {rv:Bool} (h:Qpv a b=some rv):AFn Tryz.prog 33 [.agg (Qae.enc a),.agg (Qae.enc b)] [] (one (.bool rv)) []:=by
 refine QaN Tryz.func33 (by kernel_rfl) (by kernel_rfl) (fun Γ=>?_)
 unfold Qpv at h
 rcases Qai h with ⟨h0,h⟩|⟨h0,h⟩
 ·obtain ⟨r,h1,h⟩:=Qad h
  rcases Qai h with ⟨h2,h⟩|⟨h2,h⟩
  ·obtain ⟨r1,h3,h⟩:=Qad h
   obtain rfl:=Option.some.inj h
   exact gr 6 [] [hH (.draw 8 [(2,6),(3,7)]),rp 24 hP,rp 4 (oI ((eqI a.type_ b.type_)=true)),oR True ((eqI a.type_ b.type_)=true),rp 4 (oI (((eqI a.type_ b.type_)&&(eqI a.set_ b.set_))=true)),oR True (((eqI a.type_ b.type_)&&(eqI a.set_ b.set_))=true),rp 4 (oI ((((eqI a.type_ b.type_)&&(eqI a.set_ b.set_))&&(eqI a.price b.price))=true)),oR True ((((eqI a.type_ b.type_)&&(eqI a.set_ b.set_))&&(eqI a.price b.price))=true),rp 4 (oI (((((eqI a.type_ b.type_)&&(eqI a.set_ b.set_))&&(eqI a.price b.price))&&(eqI a.route.type_ b.route.type_))=true)),oR True (((((eqI a.type_ b.type_)&&(eqI a.set_ b.set_))&&(eqI a.price b.price))&&(eqI a.route.type_ b.route.type_))=true),rp 5 (bT h0),cC (Qh0 h1),bT h0,rp 5 (bT h2),cC (Qvq h3),bT h2]
  ·obtain rfl:=Option.some.inj h
   exact gr 6 [] [hH (.draw 8 [(2,6),(3,7)]),rp 24 hP,rp 4 (oI ((eqI a.type_ b.type_)=true)),oR True ((eqI a.type_ b.type_)=true),rp 4 (oI (((eqI a.type_ b.type_)&&(eqI a.set_ b.set_))=true)),oR True (((eqI a.type_ b.type_)&&(eqI a.set_ b.set_))=true),rp 4 (oI ((((eqI a.type_ b.type_)&&(eqI a.set_ b.set_))&&(eqI a.price b.price))=true)),oR True ((((eqI a.type_ b.type_)&&(eqI a.set_ b.set_))&&(eqI a.price b.price))=true),rp 4 (oI (((((eqI a.type_ b.type_)&&(eqI a.set_ b.set_))&&(eqI a.price b.price))&&(eqI a.route.type_ b.route.type_))=true)),oR True (((((eqI a.type_ b.type_)&&(eqI a.set_ b.set_))&&(eqI a.price b.price))&&(eqI a.route.type_ b.route.type_))=true),rp 5 (bT h0),cC (Qh0 h1),bT h0,rp 6 (bF h2)]
 ·obtain rfl:=Option.some.inj h
  exact gr 6 [] [hH (.draw 8 [(2,6),(3,7)]),rp 24 hP,rp 4 (oI ((eqI a.type_ b.type_)=true)),oR True ((eqI a.type_ b.type_)=true),rp 4 (oI (((eqI a.type_ b.type_)&&(eqI a.set_ b.set_))=true)),oR True (((eqI a.type_ b.type_)&&(eqI a.set_ b.set_))=true),rp 4 (oI ((((eqI a.type_ b.type_)&&(eqI a.set_ b.set_))&&(eqI a.price b.price))=true)),oR True ((((eqI a.type_ b.type_)&&(eqI a.set_ b.set_))&&(eqI a.price b.price))=true),rp 4 (oI (((((eqI a.type_ b.type_)&&(eqI a.set_ b.set_))&&(eqI a.price b.price))&&(eqI a.route.type_ b.route.type_))=true)),oR True (((((eqI a.type_ b.type_)&&(eqI a.set_ b.set_))&&(eqI a.price b.price))&&(eqI a.route.type_ b.route.type_))=true),rp 6 (bF h0),rp 6 fF]
theorem Qea {rv:Qac} (h:QiI=some rv):AFn Tryz.prog 52 [] [] (gG [lL 1 rv.net.places e_str,lL 6 rv.net.arcs Qas.enc,lL 14 rv.types Qak.enc,lL 16 rv.orders Qah.enc,lL 2 rv.apart QaC.enc,lL 2 rv.before QaC.enc]) []:=by
 refine QaN Tryz.func52 (by kernel_rfl) (by kernel_rfl) (fun Γ=>?_)
 unfold QiI at h
 obtain rfl:=Option.some.inj h
 exact gr 12 [] [hW 15,hH (.frz 1),hH (.nilS 9 5 2),hH (.nilS 11 5 2),hW 22,hH (.frz 7),hW 2,hH (.frz 5),hW 3,hH (.frz 2),hH (.frz 3),hH (.frz 9),hH (.frz 10),hH (.nilB 0 4 2),hH (.nilB 0 5 2),rp 6 (oO (Eq.refl ([(Qao.mk 0 20)].map Qao.enc).length)),rp 4 (oO (Eq.refl ([5].map e_i64).length)),rp 4 (oO (Eq.refl ([1].map e_i64).length)),rp 6 (oO (Eq.refl ([Qxw,Qxv].map e_str).length)),rp 6 (oO (Eq.refl ([(Qas.mk 0 1 0 10 [(Qao.mk 0 20)] []),(Qas.mk 1 0 0 10 [(Qao.mk 0 20)] [])].map Qas.enc).length)),rp 3 (oO (Eq.refl ([(Qak.mk Qxz 1 0 0 [5] 0 0 0 1000 1000 0 5 1 0)].map Qak.enc).length)),rp 3 (oO (Eq.refl ([(Qah.mk Qze [1] (Qau.mk (-1) 0 0 0) (Qau.mk 1 0 50 0) 0 0 1 (-1) (-1) false)].map Qah.enc).length))]
theorem Qbw {rv:Bool} (h:Qbk=some rv):AFn Tryz.prog 23 [] [] (one (.bool rv)) []:=by
 refine QaN Tryz.func23 (by kernel_rfl) (by kernel_rfl) (fun Γ=>?_)
 unfold Qbk at h
 obtain ⟨r,h0,h⟩:=Qad h
 obtain ⟨r1,h1,h⟩:=Qad h
 obtain ⟨r2,h2,h⟩:=Qad h
 obtain ⟨r3,h3,h⟩:=Qad h
 rcases Qai h with ⟨h4,h⟩|⟨h4,h⟩
 ·obtain ⟨x0,h5,h⟩:=Qad h
  obtain ⟨r4,h6,h⟩:=Qad h
  rcases Qai h with ⟨h7,h⟩|⟨h7,h⟩
  ·obtain ⟨r5,h8,h⟩:=Qad h
   obtain rfl:=Option.some.inj h
   exact gr 8 [] [cC (Qea h0),cC (Qfv h1),cC (Qea h2),cC (QmK h3),hH (.draw 42 []),rp 12 hP,rp 2 (oI ((eqI r1.2 0)=true)),oR True ((eqI r1.2 0)=true),rp 2 (oI (((eqI r1.2 0)&&(eqI r1.1.set_ 1))=true)),oR True (((eqI r1.2 0)&&(eqI r1.1.set_ 1))=true),rp 3 (oI ((((eqI r1.2 0)&&(eqI r1.1.set_ 1))&&(eqI r1.1.price 419430400))=true)),nL Qaa.enc r1.1.route.visits,rp 7 hP,oI ((((eqI r1.2 0)&&(eqI r1.1.set_ 1))&&(eqI r1.1.price 419430400))=true),oR True ((((eqI r1.2 0)&&(eqI r1.1.set_ 1))&&(eqI r1.1.price 419430400))=true),oI (((((eqI r1.2 0)&&(eqI r1.1.set_ 1))&&(eqI r1.1.price 419430400))&&(eqI (lenI r1.1.route.visits) 1))=true),oR True (((((eqI r1.2 0)&&(eqI r1.1.set_ 1))&&(eqI r1.1.price 419430400))&&(eqI (lenI r1.1.route.visits) 1))=true),oI ((((((eqI r1.2 0)&&(eqI r1.1.set_ 1))&&(eqI r1.1.price 419430400))&&(eqI (lenI r1.1.route.visits) 1))&&(eqI r3.2 0))=true),nL Qae.enc r3.1,hP,hP,oI ((((((eqI r1.2 0)&&(eqI r1.1.set_ 1))&&(eqI r1.1.price 419430400))&&(eqI (lenI r1.1.route.visits) 1))&&(eqI r3.2 0))=true),oR True ((((((eqI r1.2 0)&&(eqI r1.1.set_ 1))&&(eqI r1.1.price 419430400))&&(eqI (lenI r1.1.route.visits) 1))&&(eqI r3.2 0))=true),bT h4,bT h4,cE Qae.enc h5,rp 3 (bT h4),cC (QdH h6),bT h4,rp 3 (bT h7),cC (QaB h8),bT h7,bT h7]
  ·obtain rfl:=Option.some.inj h
   exact gr 8 [] [cC (Qea h0),cC (Qfv h1),cC (Qea h2),cC (QmK h3),hH (.draw 42 []),rp 12 hP,rp 2 (oI ((eqI r1.2 0)=true)),oR True ((eqI r1.2 0)=true),rp 2 (oI (((eqI r1.2 0)&&(eqI r1.1.set_ 1))=true)),oR True (((eqI r1.2 0)&&(eqI r1.1.set_ 1))=true),rp 3 (oI ((((eqI r1.2 0)&&(eqI r1.1.set_ 1))&&(eqI r1.1.price 419430400))=true)),nL Qaa.enc r1.1.route.visits,rp 7 hP,oI ((((eqI r1.2 0)&&(eqI r1.1.set_ 1))&&(eqI r1.1.price 419430400))=true),oR True ((((eqI r1.2 0)&&(eqI r1.1.set_ 1))&&(eqI r1.1.price 419430400))=true),oI (((((eqI r1.2 0)&&(eqI r1.1.set_ 1))&&(eqI r1.1.price 419430400))&&(eqI (lenI r1.1.route.visits) 1))=true),oR True (((((eqI r1.2 0)&&(eqI r1.1.set_ 1))&&(eqI r1.1.price 419430400))&&(eqI (lenI r1.1.route.visits) 1))=true),oI ((((((eqI r1.2 0)&&(eqI r1.1.set_ 1))&&(eqI r1.1.price 419430400))&&(eqI (lenI r1.1.route.visits) 1))&&(eqI r3.2 0))=true),nL Qae.enc r3.1,hP,hP,oI ((((((eqI r1.2 0)&&(eqI r1.1.set_ 1))&&(eqI r1.1.price 419430400))&&(eqI (lenI r1.1.route.visits) 1))&&(eqI r3.2 0))=true),oR True ((((((eqI r1.2 0)&&(eqI r1.1.set_ 1))&&(eqI r1.1.price 419430400))&&(eqI (lenI r1.1.route.visits) 1))&&(eqI r3.2 0))=true),bT h4,bT h4,cE Qae.enc h5,rp 3 (bT h4),cC (QdH h6),bT h4,rp 5 (bF h7)]
 ·obtain rfl:=Option.some.inj h
  exact gr 8 [] [cC (Qea h0),cC (Qfv h1),cC (Qea h2),cC (QmK h3),hH (.draw 42 []),rp 12 hP,rp 2 (oI ((eqI r1.2 0)=true)),oR True ((eqI r1.2 0)=true),rp 2 (oI (((eqI r1.2 0)&&(eqI r1.1.set_ 1))=true)),oR True (((eqI r1.2 0)&&(eqI r1.1.set_ 1))=true),rp 3 (oI ((((eqI r1.2 0)&&(eqI r1.1.set_ 1))&&(eqI r1.1.price 419430400))=true)),nL Qaa.enc r1.1.route.visits,rp 7 hP,oI ((((eqI r1.2 0)&&(eqI r1.1.set_ 1))&&(eqI r1.1.price 419430400))=true),oR True ((((eqI r1.2 0)&&(eqI r1.1.set_ 1))&&(eqI r1.1.price 419430400))=true),oI (((((eqI r1.2 0)&&(eqI r1.1.set_ 1))&&(eqI r1.1.price 419430400))&&(eqI (lenI r1.1.route.visits) 1))=true),oR True (((((eqI r1.2 0)&&(eqI r1.1.set_ 1))&&(eqI r1.1.price 419430400))&&(eqI (lenI r1.1.route.visits) 1))=true),oI ((((((eqI r1.2 0)&&(eqI r1.1.set_ 1))&&(eqI r1.1.price 419430400))&&(eqI (lenI r1.1.route.visits) 1))&&(eqI r3.2 0))=true),nL Qae.enc r3.1,hP,hP,oI ((((((eqI r1.2 0)&&(eqI r1.1.set_ 1))&&(eqI r1.1.price 419430400))&&(eqI (lenI r1.1.route.visits) 1))&&(eqI r3.2 0))=true),oR True ((((((eqI r1.2 0)&&(eqI r1.1.set_ 1))&&(eqI r1.1.price 419430400))&&(eqI (lenI r1.1.route.visits) 1))&&(eqI r3.2 0))=true),rp 6 (bF h4),rp 5 fF]
def Qn8 (Γ:Gam) (rv:Bool) (cf:Cf):Prop:=Go Tryz.prog Tryz.f58 [] Γ (one (.bool rv)) [] cf
def Qls (Γ:Gam) (rv:Bool) (x0:Qac) (set_:Int) (left:Int) (i:Int):Prop:=Qn8 Γ rv ⟨[.c 116,.l 116,.b 0,.c 15],⟨27,[vI 1 set_,vP 2 0 6,vI 5 left,vI 6 i],[oX 6 30 (Qac.enc x0)]⟩⟩
def Qkb (Γ:Gam) (rv:Bool) (x0:Qac) (set_:Int) (left1:Int):Prop:=Qn8 Γ rv ⟨[.c 15],⟨27,[vI 1 set_,vI 5 left1],[]⟩⟩
theorem Qqr (Γ:Gam) (rv:Bool) {x0 set_} {s:Int×Int} {e:Int} (h:loopF (fun s=>Qb4 x0 set_ s.1 s.2) s=some e) (hD:Qkb Γ rv x0 set_ e):Qls Γ rv x0 set_ s.1 s.2:=by
 refine QaD (C:=fun (s:Int×Int)=>Qls Γ rv x0 set_ s.1 s.2) (D:=fun (e:Int)=>Qkb Γ rv x0 set_ e) ?_ h hD
 clear h hD s e
 rintro ⟨left,i⟩ z_ h hI hE
 replace h:Qb4 x0 set_ left i=_:=h
 unfold Qb4 at h
 rcases Qai h with ⟨h0,h⟩|⟨h0,h⟩
 ·exact gn 11 [1,2,5,6] [0] [nL Qah.enc x0.orders,hP,hP,hP,oI ((ltI i (lenI x0.orders))=true),oR True ((ltI i (lenI x0.orders))=true),bT h0,oO (oA (n:=2))] (hI _ (oJ h))
 ·exact gn 5 [1,5] [] [nL Qah.enc x0.orders,hP,hP,hP,oI ((ltI i (lenI x0.orders))=true),oR True ((ltI i (lenI x0.orders))=true),bF h0] (hE _ (oJ h))
theorem QiR {x0 set_} {rv:Bool} (h:Qg8 x0 set_=some rv):AFn Tryz.prog 58 [.agg (Qac.enc x0),.one (lI set_)] [] (one (.bool rv)) []:=by
 refine QaN Tryz.func58 (by kernel_rfl) (by kernel_rfl) (fun Γ=>?_)
 unfold Qg8 at h
 obtain ⟨e0,h1,h⟩:=Qad h
 refine gn 9 [1,2,5,6] [0] [] (Qqr Γ rv h1 ?_)
 obtain ⟨left1,rfl⟩:∃ x,x=e0:=⟨_,rfl⟩
 replace h:(some ((gtI set_ 0)&&(eqI left1 0)):Option Bool)=some _:=h
 obtain rfl:=Option.some.inj h
 exact gr 2 [] [hP,hP,hP,oI ((gtI set_ 0)=true),oR True ((gtI set_ 0)=true)]
theorem QfW {x0 r} {rv:Int} (h:QhX x0 r=some rv):AFn Tryz.prog 29 [.agg (Qac.enc x0),.agg (Qag.enc r)] [] (one (lI rv)) []:=by
 refine QaN Tryz.func29 (by kernel_rfl) (by kernel_rfl) (fun Γ=>?_)
 unfold QhX at h
 obtain ⟨r1,h0,h⟩:=Qad h
 obtain rfl:=Option.some.inj h
 exact gr 6 [] [cC (QhW h0)]
theorem Qs5 {a b} {rv:Bool} (h:Qjz a b=some rv):AFn Tryz.prog 64 [.agg (Qaa.enc a),.agg (Qaa.enc b)] [] (one (.bool rv)) []:=by
 refine QaN Tryz.func64 (by kernel_rfl) (by kernel_rfl) (fun Γ=>?_)
 unfold Qjz at h
 obtain rfl:=Option.some.inj h
 exact gr 4 [] [rp 17 hP,rp 5 (oI ((ltI a.order b.order)=false)),rp 2 (oI (((ltI a.order b.order)=false)∧(eqI a.order b.order)=true)),oI ((ltI a.order b.order)=false),oI (((ltI a.order b.order)=false)∧(eqI a.order b.order)=true),oI ((ltI a.order b.order)=false),oI (((ltI a.order b.order)=false)∧((eqI a.order b.order)&&(!a.drop))=true),oI ((ltI a.order b.order)=false),oI (((ltI a.order b.order)=false)∧((eqI a.order b.order)&&(!a.drop))=true),oR True ((ltI a.order b.order)=false)]
def QpW (Γ:Gam) (rv:Bool) (cf:Cf):Prop:=Go Tryz.prog Tryz.f32 [] Γ (one (.bool rv)) [] cf
def Qm9 (Γ:Gam) (rv:Bool) (a:List Qaa) (b:List Qaa) (i:Int):Prop:=QpW Γ rv ⟨[.c 52,.l 52,.b 0,.c 7],⟨41,[vL 0 2 a Qaa.enc,vL 1 2 b Qaa.enc,vI 5 i],[]⟩⟩
def Qmg (Γ:Gam) (rv:Bool) (a:List Qaa) (b:List Qaa):Prop:=QpW Γ rv ⟨[.c 7],⟨41,[vL 0 2 a Qaa.enc,vL 1 2 b Qaa.enc],[]⟩⟩
theorem QrQ (Γ:Gam) (rv:Bool) {a b} {s:Int} {e:(Unit)⊕(Bool)} (h:loopF (fun s=>Qc6 a b s) s=some e) (hD:sel e (fun e=>Qmg Γ rv a b) (fun e=>e=rv)):Qm9 Γ rv a b s:=by
 refine QaD (C:=fun (s:Int)=>Qm9 Γ rv a b s) (D:=fun (e:(Unit)⊕(Bool))=>sel e (fun e=>Qmg Γ rv a b) (fun e=>e=rv)) ?_ h hD
 clear h hD s e
 intro i z_ h hI hE
 replace h:Qc6 a b i=_:=h
 unfold Qc6 at h
 rcases Qai h with ⟨h0,h⟩|⟨h0,h⟩
 ·obtain ⟨x0,h1,h⟩:=Qad h
  obtain ⟨x1,h2,h⟩:=Qad h
  rcases Qai h with ⟨h3,h⟩|⟨h3,h⟩
  ·exact gn 14 [0,1,5] [] [nL Qaa.enc a,hP,hP,hP,oI ((ltI i (lenI a))=true),nL Qaa.enc b,hP,hP,rp 2 (oI ((ltI i (lenI a))=true)),oR True ((ltI i (lenI a))=true),bT h0,hH (.draw 9 []),cE Qaa.enc h1,cE Qaa.enc h2,nF h3] (hI _ (oJ h))
  ·obtain ⟨r,h4,h⟩:=Qad h
   obtain rfl:=(hE _ (oJ h):_=rv)
   exact gr 12 [] [nL Qaa.enc a,hP,hP,hP,oI ((ltI i (lenI a))=true),nL Qaa.enc b,hP,hP,rp 2 (oI ((ltI i (lenI a))=true)),oR True ((ltI i (lenI a))=true),bT h0,hH (.draw 9 []),cE Qaa.enc h1,cE Qaa.enc h2,nT h3,hH (.draw 10 []),cE Qaa.enc h1,cE Qaa.enc h2,cC (Qs5 h4)]
 ·exact gn 5 [0,1] [] [nL Qaa.enc a,hP,hP,hP,oI ((ltI i (lenI a))=true),nL Qaa.enc b,hP,hP,rp 2 (oI ((ltI i (lenI a))=true)),oR True ((ltI i (lenI a))=true),bF h0] (hE _ (oJ h))
theorem QtG {a b} {rv:Bool} (h:Qiy a b=some rv):AFn Tryz.prog 32 [.one (lL 2 a Qaa.enc),.one (lL 2 b Qaa.enc)] [] (one (.bool rv)) []:=by
 refine QaN Tryz.func32 (by kernel_rfl) (by kernel_rfl) (fun Γ=>?_)
 unfold Qiy at h
 obtain ⟨e0,h5,h⟩:=Qad h
 refine gn 7 [0,1,5] [] [] (QrQ Γ rv h5 ?_)
 rcases e0 with e0|e0
 ·replace h:(some (ltI (lenI a) (lenI b)):Option Bool)=some _:=h
  obtain rfl:=Option.some.inj h
  exact gr 2 [] [nL Qaa.enc a,nL Qaa.enc b]
 ·obtain ⟨r1,rfl⟩:∃ x,x=e0:=⟨_,rfl⟩
  replace h:(some r1:Option Bool)=some _:=h
  exact Option.some.inj h
theorem QaK {a b} {rv:Bool} (h:QdX a b=some rv):AFn Tryz.prog 35 [.agg (Qae.enc a),.agg (Qae.enc b)] [] (one (.bool rv)) []:=by
 refine QaN Tryz.func35 (by kernel_rfl) (by kernel_rfl) (fun Γ=>?_)
 unfold QdX at h
 rcases Qai h with ⟨h0,h⟩|⟨h0,h⟩
 ·obtain rfl:=Option.some.inj h
  exact gr 8 [] [bT h0]
 ·obtain ⟨r,h1,h⟩:=Qad h
  obtain rfl:=Option.some.inj h
  exact gr 9 [] [bF h0,cC (QtG h1)]
def Qo3 (Γ:Gam) (rv:Bool) (cf:Cf):Prop:=Go Tryz.prog Tryz.f137 [] Γ (one (.bool rv)) [] cf
def Qmm (Γ:Gam) (rv:Bool) (x0:Qac) (order:Int) (l:List Qaa) (i:Int):Prop:=Qo3 Γ rv ⟨[.c 52,.l 52,.b 0,.c 7],⟨49,[vI 1 order,vL 2 2 l Qaa.enc,vP 3 0 6,vI 7 i],[oX 6 30 (Qac.enc x0)]⟩⟩
def Qlm (Γ:Gam) (rv:Bool) (x0:Qac) (order:Int) (l:List Qaa):Prop:=Qo3 Γ rv ⟨[.c 7],⟨49,[],[]⟩⟩
theorem Qq1 (Γ:Gam) (rv:Bool) {x0 order l} {s:Int} {e:(Unit)⊕(Bool)} (h:loopF (fun s=>QcH x0 order l s) s=some e) (hD:sel e (fun e=>Qlm Γ rv x0 order l) (fun e=>e=rv)):Qmm Γ rv x0 order l s:=by
 refine QaD (C:=fun (s:Int)=>Qmm Γ rv x0 order l s) (D:=fun (e:(Unit)⊕(Bool))=>sel e (fun e=>Qlm Γ rv x0 order l) (fun e=>e=rv)) ?_ h hD
 clear h hD s e
 intro i z_ h hI hE
 replace h:QcH x0 order l i=_:=h
 unfold QcH at h
 rcases Qai h with ⟨h0,h⟩|⟨h0,h⟩
 ·obtain ⟨x1,h1,h⟩:=Qad h
  rcases Qai h with ⟨h2,h⟩|⟨h2,h⟩
  ·rcases Qai h with ⟨h3,h⟩|⟨h3,h⟩
   ·obtain rfl:=(hE _ (oJ h):_=rv)
    exact gr 14 [] [nL QaC.enc x0.before,bT h0,cE QaC.enc h1,oO (zL 0),oO (lT 0 2),cE QaC.enc h1,oO (zL 1),oO (lT 1 2),rp 3 (bT h2),rp 4 hP,rp 2 (oI ((ltI x1.x0 0)=false)),nL Qah.enc x0.orders,hP,rp 2 (oI ((ltI x1.x0 0)=false)),bT h2,hP,oR True ((ltI x1.x0 0)=false),bT h2,rp 6 (bT h3),bT h2,bT h3,bT h2,tT]
   ·obtain ⟨r,h4,h⟩:=Qad h
    obtain ⟨r1,h5,h⟩:=Qad h
    rcases Qai h with ⟨h6,h⟩|⟨h6,h⟩
    ·exact gn 16 [1,2,3,7] [0] [nL QaC.enc x0.before,bT h0,cE QaC.enc h1,oO (zL 0),oO (lT 0 2),cE QaC.enc h1,oO (zL 1),oO (lT 1 2),rp 3 (bT h2),rp 4 hP,rp 2 (oI ((ltI x1.x0 0)=false)),nL Qah.enc x0.orders,hP,rp 2 (oI ((ltI x1.x0 0)=false)),bT h2,hP,oR True ((ltI x1.x0 0)=false),bT h2,rp 4 (bF h3),cC (QcQ h4),bF h3,cC (Qdy h5),bF h3,bT h2,bF h3,bT h2,nF h6] (hI _ (oJ h))
    ·obtain rfl:=(hE _ (oJ h):_=rv)
     exact gr 14 [] [nL QaC.enc x0.before,bT h0,cE QaC.enc h1,oO (zL 0),oO (lT 0 2),cE QaC.enc h1,oO (zL 1),oO (lT 1 2),rp 3 (bT h2),rp 4 hP,rp 2 (oI ((ltI x1.x0 0)=false)),nL Qah.enc x0.orders,hP,rp 2 (oI ((ltI x1.x0 0)=false)),bT h2,hP,oR True ((ltI x1.x0 0)=false),bT h2,rp 4 (bF h3),cC (QcQ h4),bF h3,cC (Qdy h5),bF h3,bT h2,bF h3,bT h2,nT h6]
  ·exact gn 16 [1,2,3,7] [0] [nL QaC.enc x0.before,bT h0,cE QaC.enc h1,oO (zL 0),oO (lT 0 2),cE QaC.enc h1,oO (zL 1),oO (lT 1 2),rp 3 (bF h2),rp 5 kF,bF h2,bF h2,rp 6 kF,bF h2,bF h2,fF] (hI _ (oJ h))
 ·exact gn 5 [] [] [nL QaC.enc x0.before,bF h0] (hE _ (oJ h))
theorem QnZ {x0 order l} {rv:Bool} (h:QhS x0 order l=some rv):AFn Tryz.prog 137 [.agg (Qac.enc x0),.one (lI order),.one (lL 2 l Qaa.enc)] [] (one (.bool rv)) []:=by
 refine QaN Tryz.func137 (by kernel_rfl) (by kernel_rfl) (fun Γ=>?_)
 unfold QhS at h
 obtain ⟨e0,h7,h⟩:=Qad h
 refine gn 7 [1,2,3,7] [0] [] (Qq1 Γ rv h7 ?_)
 rcases e0 with e0|e0
 ·replace h:(some true:Option Bool)=some _:=h
  obtain rfl:=Option.some.inj h
  exact gr 2 [] []
 ·obtain ⟨r2,rfl⟩:∃ x,x=e0:=⟨_,rfl⟩
  replace h:(some r2:Option Bool)=some _:=h
  exact Option.some.inj h
end Go.Proofs.YtoedkepcaigkeaaGreatDoor
namespace Go.Proofs.YtoedkepcaigkeaaGreatDoor
set_option linter.unusedVariables false
set_option linter.unusedSectionVars false
set_option linter.unusedSimpArgs false
set_option maxHeartbeats 4000000
set_option maxRecDepth 100000
def QiJ (Γ:Gam) (rv:List Qaa) (cf:Cf):Prop:=Go Tryz.prog Tryz.f95 [] Γ (one (lL 2 rv Qaa.enc)) [] cf
def Qnb (Γ:Gam) (rv:List Qaa) (x0:Qac) (set_:Int) (l:List Qaa) (i:Int) (r2:List Qaa) (l2:List Qaa) (k:Int):Prop:=QiJ Γ rv ⟨[.c 29852,.l 29852,.b 2,.b 1,.c 467,.l 116,.b 0,.c 15],⟨73,[vI 1 set_,vL 2 2 l Qaa.enc,vP 3 0 6,vO 7 1 2 l2 Qaa.enc,vI 8 i,vL 9 2 r2 Qaa.enc,vI 10 k],[oX 6 30 (Qac.enc x0),oS 2 54 l2 Qaa.enc]⟩⟩
def Qmi (Γ:Gam) (rv:List Qaa) (x0:Qac) (set_:Int) (l:List Qaa) (i:Int) (r2:List Qaa) (l3:List Qaa):Prop:=QiJ Γ rv ⟨[.b 1,.c 467,.l 116,.b 0,.c 15],⟨73,[vI 1 set_,vL 2 2 l Qaa.enc,vP 3 0 6,vO 7 1 2 l3 Qaa.enc,vI 8 i],[oX 6 30 (Qac.enc x0),oS 2 54 l3 Qaa.enc]⟩⟩
def Qna (Γ:Gam) (rv:List Qaa) (x0:Qac) (set_:Int) (l:List Qaa) (l1:List Qaa) (i:Int):Prop:=QiJ Γ rv ⟨[.c 116,.l 116,.b 0,.c 15],⟨73,[vI 1 set_,vL 2 2 l Qaa.enc,vP 3 0 6,vO 7 1 2 l1 Qaa.enc,vI 8 i],[oX 6 30 (Qac.enc x0),oS 2 54 l1 Qaa.enc]⟩⟩
def Qmh (Γ:Gam) (rv:List Qaa) (x0:Qac) (set_:Int) (l:List Qaa) (l4:List Qaa):Prop:=QiJ Γ rv ⟨[.c 15],⟨73,[vO 7 0 2 l4 Qaa.enc],[oS 2 54 l4 Qaa.enc]⟩⟩
theorem QrS (Γ:Gam) (rv:List Qaa) {x0 set_ l i r2} {s:List Qaa×Int} {e:List Qaa} (h:loopF (fun s=>Qc7 x0 set_ l i r2 s.1 s.2) s=some e) (hD:Qmi Γ rv x0 set_ l i r2 e):Qnb Γ rv x0 set_ l i r2 s.1 s.2:=by
 refine QaD (C:=fun (s:List Qaa×Int)=>Qnb Γ rv x0 set_ l i r2 s.1 s.2) (D:=fun (e:List Qaa)=>Qmi Γ rv x0 set_ l i r2 e) ?_ h hD
 clear h hD s e
 rintro ⟨l2,k⟩ z_ h hI hE
 replace h:Qc7 x0 set_ l i r2 l2 k=_:=h
 unfold Qc7 at h
 rcases Qai h with ⟨h8,h⟩|⟨h8,h⟩
 ·obtain ⟨x2,h9,h⟩:=Qad h
  obtain ⟨r3,h10,h⟩:=Qad h
  rcases Qai h with ⟨h11,h⟩|⟨h11,h⟩
  ·rcases Qai h with ⟨h12,h⟩|⟨h12,h⟩
   ·obtain ⟨h13,h⟩:=Qaw h
    exact gn 14 [1,2,3,7,8,9,10] [0,3] [nL Qaa.enc r2,bT h8,cE Qaa.enc h9,cC (Qa0 h10),rp 3 (bT h11),rp 6 (bT h12),bT h11,bT h12,bT h11,tT,cE Qaa.enc h9,oO (Eq.refl ([x2].map Qaa.enc).length),aO Qaa.enc h13] (hI _ (oJ h))
   ·obtain ⟨x3,h14,h⟩:=Qad h
    obtain ⟨r4,h15,h⟩:=Qad h
    rcases Qai h with ⟨h16,h⟩|⟨h16,h⟩
    ·obtain ⟨h17,h⟩:=Qaw h
     exact gn 14 [1,2,3,7,8,9,10] [0,3] [nL Qaa.enc r2,bT h8,cE Qaa.enc h9,cC (Qa0 h10),rp 3 (bT h11),rp 3 (bF h12),cE Qaa.enc h14,rp 2 (bF h12),cC (Qa0 h15),bF h12,bT h11,bF h12,bT h11,bT h16,cE Qaa.enc h9,oO (Eq.refl ([x2].map Qaa.enc).length),aO Qaa.enc h17] (hI _ (oJ h))
    ·exact gn 14 [1,2,3,7,8,9,10] [0,1] [nL Qaa.enc r2,bT h8,cE Qaa.enc h9,cC (Qa0 h10),rp 3 (bT h11),rp 3 (bF h12),cE Qaa.enc h14,rp 2 (bF h12),cC (Qa0 h15),bF h12,bT h11,bF h12,bT h11,bF h16] (hI _ (oJ h))
  ·exact gn 14 [1,2,3,7,8,9,10] [0,1] [nL Qaa.enc r2,bT h8,cE Qaa.enc h9,cC (Qa0 h10),rp 3 (bF h11),rp 6 kF,rp 2 (bF h11),fF] (hI _ (oJ h))
 ·exact gn 5 [1,2,3,7,8] [0,1] [nL Qaa.enc r2,bF h8] (hE _ (oJ h))
theorem QrR (Γ:Gam) (rv:List Qaa) {x0 set_ l} {s:List Qaa×Int} {e:List Qaa} (h:loopF (fun s=>Qcx x0 set_ l s.1 s.2) s=some e) (hD:Qmh Γ rv x0 set_ l e):Qna Γ rv x0 set_ l s.1 s.2:=by
 refine QaD (C:=fun (s:List Qaa×Int)=>Qna Γ rv x0 set_ l s.1 s.2) (D:=fun (e:List Qaa)=>Qmh Γ rv x0 set_ l e) ?_ h hD
 clear h hD s e
 rintro ⟨l1,i⟩ z_ h hI hE
 replace h:Qcx x0 set_ l l1 i=_:=h
 unfold Qcx at h
 rcases Qai h with ⟨h0,h⟩|⟨h0,h⟩
 ·obtain ⟨r,h1,h⟩:=Qad h
  rcases Qai h with ⟨h2,h⟩|⟨h2,h⟩
  ·obtain ⟨x1,h3,h⟩:=Qad h
   rcases Qai h with ⟨h4,h⟩|⟨h4,h⟩
   ·exact gn 14 [1,2,3,7,8] [0,1] [nL Qah.enc x0.orders,bT h0,cC (Qbp h1),rp 4 (nF h2),cE Qah.enc h3,rp 3 (nF h2),rp 6 (bT h4),tT] (hI _ (oJ h))
   ·obtain ⟨r1,h5,h⟩:=Qad h
    rcases Qai h with ⟨h6,h⟩|⟨h6,h⟩
    ·obtain ⟨r2,h7,h⟩:=Qad h
     obtain ⟨e0,h18,h⟩:=Qad h
     refine gn 18 [1,2,3,7,8,9,10] [0,1] [nL Qah.enc x0.orders,bT h0,cC (Qbp h1),rp 4 (nF h2),cE Qah.enc h3,rp 3 (nF h2),rp 4 (bF h4),cC (QnZ h5),bF h4,bF h4,nF h6,cC (QcQ h7)] (QrS Γ rv h18 ?_)
     obtain ⟨l3,rfl⟩:∃ x,x=e0:=⟨_,rfl⟩
     replace h:(some (.inl (l3,(addK .i64 i 1))):Option ((List Qaa×Int)⊕(List Qaa)))=some _:=h
     exact gn 3 [1,2,3,7,8] [0,1] [] (hI _ (oJ h))
    ·exact gn 14 [1,2,3,7,8] [0,1] [nL Qah.enc x0.orders,bT h0,cC (Qbp h1),rp 4 (nF h2),cE Qah.enc h3,rp 3 (nF h2),rp 4 (bF h4),cC (QnZ h5),bF h4,bF h4,nT h6] (hI _ (oJ h))
  ·exact gn 14 [1,2,3,7,8] [0,1] [nL Qah.enc x0.orders,bT h0,cC (Qbp h1),rp 7 (nT h2),rp 7 tT] (hI _ (oJ h))
 ·exact gn 5 [7] [1] [nL Qah.enc x0.orders,bF h0] (hE _ (oJ h))
theorem Qed {x0 set_ l} {rv:List Qaa} (h:Qiz x0 set_ l=some rv):AFn Tryz.prog 95 [.agg (Qac.enc x0),.one (lI set_),.one (lL 2 l Qaa.enc)] [] (one (lL 2 rv Qaa.enc)) []:=by
 refine QaN Tryz.func95 (by kernel_rfl) (by kernel_rfl) (fun Γ=>?_)
 unfold Qiz at h
 obtain ⟨e1,h19,h⟩:=Qad h
 refine gn 9 [1,2,3,7,8] [0,1] [hW 13,hH (.adopt 7 2 54)] (QrR Γ rv h19 ?_)
 obtain ⟨l4,rfl⟩:∃ x,x=e1:=⟨_,rfl⟩
 replace h:(some l4:Option (List Qaa))=some _:=h
 obtain rfl:=Option.some.inj h
 exact gr 2 [] [hW 4,hH (.frz 0),rp 3 (eL l4 Qaa.enc)]
def Qn9 (Γ:Gam) (rv:Qae×Bool) (cf:Cf):Prop:=Go Tryz.prog Tryz.f59 [] Γ (.tup [.agg [lI rv.1.type_,lI rv.1.set_,lI rv.1.price,lI rv.1.route.type_,lI rv.1.route.start,lL 1 rv.1.route.rests QaY,lL 2 rv.1.route.visits Qaa.enc],.one (.bool rv.2)]) [] cf
def Qlt (Γ:Gam) (rv:Qae×Bool) (self:Qac→Qae→Bool→(List Qaa)→Option (Qae×Bool)) (x0:Qac) (l:List Qaa) (r:List Qaa) (x1:Qae) (found1:Bool) (i:Int):Prop:=Qn9 Γ rv ⟨[.c 244,.l 244,.b 0,.c 31],⟨100,[vB 2 found1,vL 3 2 l Qaa.enc,vP 4 0 6,vP 5 1 7,vP 8 2 7,vL 10 2 r Qaa.enc,vI 16 i],[oX 6 30 (Qac.enc x0),oX 7 45 (Qae.enc x1),oX 7 45 [lI 0,lI 0,lI 0,lI 0,lI 0,.nils,.nils]]⟩⟩
def Qkc (Γ:Gam) (rv:Qae×Bool) (self:Qac→Qae→Bool→(List Qaa)→Option (Qae×Bool)) (x0:Qac) (l:List Qaa) (r:List Qaa) (x3:Qae) (found2:Bool):Prop:=Qn9 Γ rv ⟨[.c 31],⟨100,[vB 2 found2,vP 5 0 7,vP 8 1 7],[oX 7 45 (Qae.enc x3),oX 7 45 [lI 0,lI 0,lI 0,lI 0,lI 0,.nils,.nils]]⟩⟩
theorem Qqs (Γ:Gam) (rv:Qae×Bool) {self:Qac→Qae→Bool→(List Qaa)→Option (Qae×Bool)} (hself:∀ {x0:Qac} {best:Qae} {found:Bool} {l:List Qaa} {rv:Qae×Bool},self x0 best found l=some rv→AFn Tryz.prog 59 [.agg (Qac.enc x0),.agg (Qae.enc best),.one (.bool found),.one (lL 2 l Qaa.enc)] [] (.tup [.agg [lI rv.1.type_,lI rv.1.set_,lI rv.1.price,lI rv.1.route.type_,lI rv.1.route.start,lL 1 rv.1.route.rests QaY,lL 2 rv.1.route.visits Qaa.enc],.one (.bool rv.2)]) []) {x0 l r} {s:Qae×Bool×Int} {e:Qae×Bool} (h:loopF (fun s=>Qeh self x0 l r s.1 s.2.1 s.2.2) s=some e) (hD:Qkc Γ rv self x0 l r e.1 e.2):Qlt Γ rv self x0 l r s.1 s.2.1 s.2.2:=by
 refine QaD (C:=fun (s:Qae×Bool×Int)=>Qlt Γ rv self x0 l r s.1 s.2.1 s.2.2) (D:=fun (e:Qae×Bool)=>Qkc Γ rv self x0 l r e.1 e.2) ?_ h hD
 clear h hD s e
 rintro ⟨x1,found1,i⟩ z_ h hI hE
 replace h:Qeh self x0 l r x1 found1 i=_:=h
 unfold Qeh at h
 rcases Qai h with ⟨h11,h⟩|⟨h11,h⟩
 ·obtain ⟨h12,h⟩:=Qaw h
  obtain ⟨x2,h13,h⟩:=Qad h
  obtain ⟨h14,h⟩:=Qaw h
  obtain ⟨r5,h15,h⟩:=Qad h
  exact gn 15 [2,3,4,5,8,10,16] [0,1,2] [nL Qaa.enc r,bT h11,aZ Qaa.enc h12,cE Qaa.enc h13,oO (Eq.refl ([x2].map Qaa.enc).length),aO Qaa.enc h14,hW 6,hH (.frz 5),rp 3 (oO (Eq.refl ((l++[x2]).map Qaa.enc).length)),cC (hself h15)] (hI _ (oJ h))
 ·exact gn 5 [2,5,8] [1,2] [nL Qaa.enc r,bF h11] (hE _ (oJ h))
theorem Qq7 {self:Qac→Qae→Bool→(List Qaa)→Option (Qae×Bool)} (hself:∀ {x0:Qac} {best:Qae} {found:Bool} {l:List Qaa} {rv:Qae×Bool},self x0 best found l=some rv→AFn Tryz.prog 59 [.agg (Qac.enc x0),.agg (Qae.enc best),.one (.bool found),.one (lL 2 l Qaa.enc)] [] (.tup [.agg [lI rv.1.type_,lI rv.1.set_,lI rv.1.price,lI rv.1.route.type_,lI rv.1.route.start,lL 1 rv.1.route.rests QaY,lL 2 rv.1.route.visits Qaa.enc],.one (.bool rv.2)]) []) {x0 best found l} {rv:Qae×Bool} (h:QfX self x0 best found l=some rv):AFn Tryz.prog 59 [.agg (Qac.enc x0),.agg (Qae.enc best),.one (.bool found),.one (lL 2 l Qaa.enc)] [] (.tup [.agg [lI rv.1.type_,lI rv.1.set_,lI rv.1.price,lI rv.1.route.type_,lI rv.1.route.start,lL 1 rv.1.route.rests QaY,lL 2 rv.1.route.visits Qaa.enc],.one (.bool rv.2)]) []:=by
 refine QaN Tryz.func59 (by kernel_rfl) (by kernel_rfl) (fun Γ=>?_)
 unfold QfX at h
 obtain ⟨r,h0,h⟩:=Qad h
 rcases Qai h with ⟨h1,h⟩|⟨h1,h⟩
 ·obtain ⟨r1,h2,h⟩:=Qad h
  rcases Qai h with ⟨h3,h⟩|⟨h3,h⟩
  ·obtain rfl:=Option.some.inj h
   exact gr 20 [] [cC (Qed h0),nL Qaa.enc r,bT h1,hW 17,hH (.nilS 34 2 1),cC (QcP h2),rp 6 (bT h3),tT]
  ·obtain ⟨r2,h4,h⟩:=Qad h
   rcases Qai h with ⟨h5,h⟩|⟨h5,h⟩
   ·obtain rfl:=Option.some.inj h
    exact gr 20 [] [cC (Qed h0),nL Qaa.enc r,bT h1,hW 17,hH (.nilS 34 2 1),cC (QcP h2),rp 3 (bF h3),hH (.nilS 45 2 1),bF h3,cC (QfW h4),bF h3,bF h3,bT h5]
   ·obtain ⟨r3,h6,h⟩:=Qad h
    rcases Qai h with ⟨h7,h⟩|⟨h7,h⟩
    ·obtain rfl:=Option.some.inj h
     exact gr 29 [] [cC (Qed h0),nL Qaa.enc r,bT h1,hW 17,hH (.nilS 34 2 1),cC (QcP h2),rp 3 (bF h3),hH (.nilS 45 2 1),bF h3,cC (QfW h4),bF h3,bF h3,bF h5,hW 6,hH (.nilS 54 2 1),cC (QhC h6),bT h7,bT h7,rp 4 kF,bT h7,bT h7,tT]
    ·rcases Qai h with ⟨h8,h⟩|⟨h8,h⟩
     ·obtain ⟨r4,h9,h⟩:=Qad h
      rcases Qai h with ⟨h10,h⟩|⟨h10,h⟩
      ·obtain rfl:=Option.some.inj h
       exact gr 30 [] [cC (Qed h0),nL Qaa.enc r,bT h1,hW 17,hH (.nilS 34 2 1),cC (QcP h2),rp 3 (bF h3),hH (.nilS 45 2 1),bF h3,cC (QfW h4),bF h3,bF h3,bF h5,hW 6,hH (.nilS 54 2 1),cC (QhC h6),bF h7,bF h7,bT h8,bT h8,hH (.nilS 65 5 1),bT h8,cC (QaK h9),bT h8,bF h7,bT h8,bF h7,nF h10,hW 6,hH (.nilB 2 5 1)]
      ·obtain rfl:=Option.some.inj h
       exact gr 29 [] [cC (Qed h0),nL Qaa.enc r,bT h1,hW 17,hH (.nilS 34 2 1),cC (QcP h2),rp 3 (bF h3),hH (.nilS 45 2 1),bF h3,cC (QfW h4),bF h3,bF h3,bF h5,hW 6,hH (.nilS 54 2 1),cC (QhC h6),bF h7,bF h7,bT h8,bT h8,hH (.nilS 65 5 1),bT h8,cC (QaK h9),bT h8,bF h7,bT h8,bF h7,nT h10]
     ·obtain rfl:=Option.some.inj h
      exact gr 30 [] [cC (Qed h0),nL Qaa.enc r,bT h1,hW 17,hH (.nilS 34 2 1),cC (QcP h2),rp 3 (bF h3),hH (.nilS 45 2 1),bF h3,cC (QfW h4),bF h3,bF h3,bF h5,hW 6,hH (.nilS 54 2 1),cC (QhC h6),bF h7,bF h7,rp 4 (bF h8),bF h7,bF h8,bF h7,fF,hW 6,hH (.nilB 2 5 1)]
 ·obtain ⟨e0,h16,h⟩:=Qad h
  refine gn 14 [2,3,4,5,8,10,16] [0,1,2] [cC (Qed h0),nL Qaa.enc r,bF h1] (Qqs Γ rv hself h16 ?_)
  obtain ⟨x3,found2⟩:=e0
  replace h:(some (x3,found2):Option (Qae×Bool))=some _:=h
  obtain rfl:=Option.some.inj h
  exact gr 2 [] []
theorem Qmw:∀ n,∀ {x0:Qac} {best:Qae} {found:Bool} {l:List Qaa} {rv:Qae×Bool},QdL n x0 best found l=some rv→AFn Tryz.prog 59 [.agg (Qac.enc x0),.agg (Qae.enc best),.one (.bool found),.one (lL 2 l Qaa.enc)] [] (.tup [.agg [lI rv.1.type_,lI rv.1.set_,lI rv.1.price,lI rv.1.route.type_,lI rv.1.route.start,lL 1 rv.1.route.rests QaY,lL 2 rv.1.route.visits Qaa.enc],.one (.bool rv.2)]) []
 | 0=>fun h=>nomatch h
 | n+1=>fun h=>Qq7 (Qmw n) h
theorem Qnl:∀ {x0:Qac} {best:Qae} {found:Bool} {l:List Qaa} {rv:Qae×Bool},QlK x0 best found l=some rv→AFn Tryz.prog 59 [.agg (Qac.enc x0),.agg (Qae.enc best),.one (.bool found),.one (lL 2 l Qaa.enc)] [] (.tup [.agg [lI rv.1.type_,lI rv.1.set_,lI rv.1.price,lI rv.1.route.type_,lI rv.1.route.start,lL 1 rv.1.route.rests QaY,lL 2 rv.1.route.visits Qaa.enc],.one (.bool rv.2)]) []:=Qmw _
theorem Qic {x0 kind set_} {rv:Qae×Int} (h:Qhi x0 kind set_=some rv):AFn Tryz.prog 25 [.agg (Qac.enc x0),.one (lI kind),.one (lI set_)] [] (.tup [.agg [lI rv.1.type_,lI rv.1.set_,lI rv.1.price,lI rv.1.route.type_,lI rv.1.route.start,lL 1 rv.1.route.rests QaY,lL 2 rv.1.route.visits Qaa.enc],.one (lI rv.2)]) []:=by
 refine QaN Tryz.func25 (by kernel_rfl) (by kernel_rfl) (fun Γ=>?_)
 unfold Qhi at h
 rcases Qai h with ⟨h0,h⟩|⟨h0,h⟩
 ·obtain rfl:=Option.some.inj h
  exact gr 8 [] [rp 4 hP,rp 2 (oI ((ltI kind 0)=false)),nL Qak.enc x0.types,hP,hP,rp 2 (oI ((ltI kind 0)=false)),oR True ((ltI kind 0)=false),rp 5 (bT h0),tT,hW 5,hH (.nilB 1 5 1),hH (.nilB 1 6 2)]
 ·obtain ⟨r,h1,h⟩:=Qad h
  rcases Qai h with ⟨h2,h⟩|⟨h2,h⟩
  ·obtain ⟨r1,h3,h⟩:=Qad h
   rcases Qai h with ⟨h4,h⟩|⟨h4,h⟩
   ·obtain rfl:=Option.some.inj h
    exact gr 16 [] [rp 4 hP,rp 2 (oI ((ltI kind 0)=false)),nL Qak.enc x0.types,hP,hP,rp 2 (oI ((ltI kind 0)=false)),oR True ((ltI kind 0)=false),rp 3 (bF h0),cC (QiR h1),bF h0,bF h0,nF h2,hW 7,hH (.nilS 30 5 1),hH (.nilS 30 6 2),cC (AFn.nilA 3 2 (Qnl h3)),nF h4]
   ·obtain rfl:=Option.some.inj h
    exact gr 15 [] [rp 4 hP,rp 2 (oI ((ltI kind 0)=false)),nL Qak.enc x0.types,hP,hP,rp 2 (oI ((ltI kind 0)=false)),oR True ((ltI kind 0)=false),rp 3 (bF h0),cC (QiR h1),bF h0,bF h0,nF h2,hW 7,hH (.nilS 30 5 1),hH (.nilS 30 6 2),cC (AFn.nilA 3 2 (Qnl h3)),nT h4,hW 5,hH (.nilB 1 5 1),hH (.nilB 1 6 2)]
  ·obtain rfl:=Option.some.inj h
   exact gr 8 [] [rp 4 hP,rp 2 (oI ((ltI kind 0)=false)),nL Qak.enc x0.types,hP,hP,rp 2 (oI ((ltI kind 0)=false)),oR True ((ltI kind 0)=false),rp 3 (bF h0),cC (QiR h1),bF h0,bF h0,nT h2,hW 5,hH (.nilB 1 5 1),hH (.nilB 1 6 2)]
def QpX (Γ:Gam) (rv:Bool) (cf:Cf):Prop:=Go Tryz.prog Tryz.f60 [] Γ (one (.bool rv)) [] cf
def Qnc (Γ:Gam) (rv:Bool) (a:List Qaa) (b:List Qaa) (i:Int):Prop:=QpX Γ rv ⟨[.c 116,.l 116,.b 0,.c 15],⟨26,[vL 0 2 a Qaa.enc,vL 1 2 b Qaa.enc,vI 5 i],[]⟩⟩
def Qmj (Γ:Gam) (rv:Bool) (a:List Qaa) (b:List Qaa):Prop:=QpX Γ rv ⟨[.c 15],⟨26,[],[]⟩⟩
theorem QrT (Γ:Gam) (rv:Bool) {a b} {s:Int} {e:(Unit)⊕(Bool)} (h:loopF (fun s=>Qbx a b s) s=some e) (hD:sel e (fun e=>Qmj Γ rv a b) (fun e=>e=rv)):Qnc Γ rv a b s:=by
 refine QaD (C:=fun (s:Int)=>Qnc Γ rv a b s) (D:=fun (e:(Unit)⊕(Bool))=>sel e (fun e=>Qmj Γ rv a b) (fun e=>e=rv)) ?_ h hD
 clear h hD s e
 intro i z_ h hI hE
 replace h:Qbx a b i=_:=h
 unfold Qbx at h
 rcases Qai h with ⟨h1,h⟩|⟨h1,h⟩
 ·obtain ⟨x0,h2,h⟩:=Qad h
  obtain ⟨x1,h3,h⟩:=Qad h
  rcases Qai h with ⟨h4,h⟩|⟨h4,h⟩
  ·exact gn 14 [0,1,5] [] [nL Qaa.enc a,bT h1,hH (.draw 9 []),cE Qaa.enc h2,cE Qaa.enc h3,nF h4] (hI _ (oJ h))
  ·obtain rfl:=(hE _ (oJ h):_=rv)
   exact gr 12 [] [nL Qaa.enc a,bT h1,hH (.draw 9 []),cE Qaa.enc h2,cE Qaa.enc h3,nT h4]
 ·exact gn 5 [] [] [nL Qaa.enc a,bF h1] (hE _ (oJ h))
theorem QtH {a b} {rv:Bool} (h:Qf7 a b=some rv):AFn Tryz.prog 60 [.one (lL 2 a Qaa.enc),.one (lL 2 b Qaa.enc)] [] (one (.bool rv)) []:=by
 refine QaN Tryz.func60 (by kernel_rfl) (by kernel_rfl) (fun Γ=>?_)
 unfold Qf7 at h
 rcases Qai h with ⟨h0,h⟩|⟨h0,h⟩
 ·obtain rfl:=Option.some.inj h
  exact gr 8 [] [nL Qaa.enc a,nL Qaa.enc b,bT h0]
 ·obtain ⟨e0,h5,h⟩:=Qad h
  refine gn 12 [0,1,5] [] [nL Qaa.enc a,nL Qaa.enc b,bF h0] (QrT Γ rv h5 ?_)
  rcases e0 with e0|e0
  ·replace h:(some true:Option Bool)=some _:=h
   obtain rfl:=Option.some.inj h
   exact gr 2 [] []
  ·obtain ⟨r,rfl⟩:∃ x,x=e0:=⟨_,rfl⟩
   replace h:(some r:Option Bool)=some _:=h
   exact Option.some.inj h
def Qp1 (Γ:Gam) (rv:Bool) (cf:Cf):Prop:=Go Tryz.prog Tryz.f26 [] Γ (one (.bool rv)) [] cf
def Qnk (Γ:Gam) (rv:Bool) (a:Qae) (b:Qae) (i:Int):Prop:=Qp1 Γ rv ⟨[.c 116,.l 116,.b 0,.c 15],⟨82,[vP 2 0 7,vP 3 1 7,vI 5 i],[oX 7 45 (Qae.enc a),oX 7 45 (Qae.enc b)]⟩⟩
def Qmv (Γ:Gam) (rv:Bool) (a:Qae) (b:Qae):Prop:=Qp1 Γ rv ⟨[.c 15],⟨82,[vP 2 0 7,vP 3 1 7],[oX 7 45 (Qae.enc a),oX 7 45 (Qae.enc b)]⟩⟩
theorem QrX (Γ:Gam) (rv:Bool) {a b} {s:Int} {e:(Unit)⊕(Bool)} (h:loopF (fun s=>Qby a b s) s=some e) (hD:sel e (fun e=>Qmv Γ rv a b) (fun e=>e=rv)):Qnk Γ rv a b s:=by
 refine QaD (C:=fun (s:Int)=>Qnk Γ rv a b s) (D:=fun (e:(Unit)⊕(Bool))=>sel e (fun e=>Qmv Γ rv a b) (fun e=>e=rv)) ?_ h hD
 clear h hD s e
 intro i z_ h hI hE
 replace h:Qby a b i=_:=h
 unfold Qby at h
 rcases Qai h with ⟨h1,h⟩|⟨h1,h⟩
 ·obtain ⟨x0,h2,h⟩:=Qad h
  obtain ⟨x1,h3,h⟩:=Qad h
  rcases Qai h with ⟨h4,h⟩|⟨h4,h⟩
  ·exact gn 14 [2,3,5] [0,1] [nL QaY a.route.rests,bT h1,hH (.draw 13 []),cE QaY h2,cE QaY h3,nF h4] (hI _ (oJ h))
  ·obtain rfl:=(hE _ (oJ h):_=rv)
   exact gr 12 [] [nL QaY a.route.rests,bT h1,hH (.draw 13 []),cE QaY h2,cE QaY h3,nT h4]
 ·exact gn 5 [2,3] [0,1] [nL QaY a.route.rests,bF h1] (hE _ (oJ h))
theorem Qbz {a b} {rv:Bool} (h:Qeq a b=some rv):AFn Tryz.prog 26 [.agg (Qae.enc a),.agg (Qae.enc b)] [] (one (.bool rv)) []:=by
 refine QaN Tryz.func26 (by kernel_rfl) (by kernel_rfl) (fun Γ=>?_)
 unfold Qeq at h
 rcases Qai h with ⟨h0,h⟩|⟨h0,h⟩
 ·obtain rfl:=Option.some.inj h
  exact gr 8 [] [rp 32 hP,rp 4 (oI ((neI a.type_ b.type_)=false)),oR True ((neI a.type_ b.type_)=false),rp 4 (oI (((neI a.type_ b.type_)||(neI a.set_ b.set_))=false)),oR True (((neI a.type_ b.type_)||(neI a.set_ b.set_))=false),rp 6 (oI ((((neI a.type_ b.type_)||(neI a.set_ b.set_))||(neI a.price b.price))=false)),oR True ((((neI a.type_ b.type_)||(neI a.set_ b.set_))||(neI a.price b.price))=false),rp 6 (oI (((((neI a.type_ b.type_)||(neI a.set_ b.set_))||(neI a.price b.price))||(neI a.route.type_ b.route.type_))=false)),oR True (((((neI a.type_ b.type_)||(neI a.set_ b.set_))||(neI a.price b.price))||(neI a.route.type_ b.route.type_))=false),rp 3 (oI ((((((neI a.type_ b.type_)||(neI a.set_ b.set_))||(neI a.price b.price))||(neI a.route.type_ b.route.type_))||(neI a.route.start b.route.start))=false)),nL QaY a.route.rests,rp 4 hP,rp 3 (oI ((((((neI a.type_ b.type_)||(neI a.set_ b.set_))||(neI a.price b.price))||(neI a.route.type_ b.route.type_))||(neI a.route.start b.route.start))=false)),nL QaY b.route.rests,hP,hP,rp 2 (oI ((((((neI a.type_ b.type_)||(neI a.set_ b.set_))||(neI a.price b.price))||(neI a.route.type_ b.route.type_))||(neI a.route.start b.route.start))=false)),oR True ((((((neI a.type_ b.type_)||(neI a.set_ b.set_))||(neI a.price b.price))||(neI a.route.type_ b.route.type_))||(neI a.route.start b.route.start))=false),bT h0]
 ·obtain ⟨e0,h5,h⟩:=Qad h
  refine gn 12 [2,3,5] [0,1] [rp 32 hP,rp 4 (oI ((neI a.type_ b.type_)=false)),oR True ((neI a.type_ b.type_)=false),rp 4 (oI (((neI a.type_ b.type_)||(neI a.set_ b.set_))=false)),oR True (((neI a.type_ b.type_)||(neI a.set_ b.set_))=false),rp 6 (oI ((((neI a.type_ b.type_)||(neI a.set_ b.set_))||(neI a.price b.price))=false)),oR True ((((neI a.type_ b.type_)||(neI a.set_ b.set_))||(neI a.price b.price))=false),rp 6 (oI (((((neI a.type_ b.type_)||(neI a.set_ b.set_))||(neI a.price b.price))||(neI a.route.type_ b.route.type_))=false)),oR True (((((neI a.type_ b.type_)||(neI a.set_ b.set_))||(neI a.price b.price))||(neI a.route.type_ b.route.type_))=false),rp 3 (oI ((((((neI a.type_ b.type_)||(neI a.set_ b.set_))||(neI a.price b.price))||(neI a.route.type_ b.route.type_))||(neI a.route.start b.route.start))=false)),nL QaY a.route.rests,rp 4 hP,rp 3 (oI ((((((neI a.type_ b.type_)||(neI a.set_ b.set_))||(neI a.price b.price))||(neI a.route.type_ b.route.type_))||(neI a.route.start b.route.start))=false)),nL QaY b.route.rests,hP,hP,rp 2 (oI ((((((neI a.type_ b.type_)||(neI a.set_ b.set_))||(neI a.price b.price))||(neI a.route.type_ b.route.type_))||(neI a.route.start b.route.start))=false)),oR True ((((((neI a.type_ b.type_)||(neI a.set_ b.set_))||(neI a.price b.price))||(neI a.route.type_ b.route.type_))||(neI a.route.start b.route.start))=false),bF h0] (QrX Γ rv h5 ?_)
  rcases e0 with e0|e0
  ·replace h:(bnd (Qf7 a.route.visits b.route.visits) fun r=>some r:Option Bool)=some _:=h
   obtain ⟨r,h6,h⟩:=Qad h
   obtain rfl:=Option.some.inj h
   exact gr 2 [] [cC (QtH h6)]
  ·obtain ⟨r1,rfl⟩:∃ x,x=e0:=⟨_,rfl⟩
   replace h:(some r1:Option Bool)=some _:=h
   exact Option.some.inj h
theorem Qqf {x0 kind set_} {rv:Bool} (h:QgJ x0 kind set_=some rv):AFn Tryz.prog 6 [.agg (Qac.enc x0),.one (lI kind),.one (lI set_)] [] (one (.bool rv)) []:=by
 refine QaN Tryz.func6 (by kernel_rfl) (by kernel_rfl) (fun Γ=>?_)
 unfold QgJ at h
 obtain ⟨r,h0,h⟩:=Qad h
 rcases Qai h with ⟨h1,h⟩|⟨h1,h⟩
 ·obtain ⟨r1,h2,h⟩:=Qad h
  obtain ⟨r2,h3,h⟩:=Qad h
  obtain ⟨r3,h4,h⟩:=Qad h
  rcases Qai h with ⟨h5,h⟩|⟨h5,h⟩
  ·obtain ⟨r4,h6,h⟩:=Qad h
   obtain rfl:=Option.some.inj h
   exact gr 13 [] [cC (QdU h0),nF h1,cC (Qfv h2),cC (Qic h3),cC (Qbz h4),rp 4 hP,rp 2 (oI (r3=true)),oR True (r3=true),bT h5,cC (Qbw h6),bT h5]
  ·obtain rfl:=Option.some.inj h
   exact gr 13 [] [cC (QdU h0),nF h1,cC (Qfv h2),cC (Qic h3),cC (Qbz h4),rp 4 hP,rp 2 (oI (r3=true)),oR True (r3=true),bF h5,bF h5]
 ·obtain ⟨r5,h7,h⟩:=Qad h
  obtain rfl:=Option.some.inj h
  exact gr 8 [] [cC (QdU h0),nT h1,cC (Qbw h7)]
def Qgx (Γ:Gam) (rv:List Qae×Int) (cf:Cf):Prop:=Go Tryz.prog Tryz.f28 [] Γ (.tup [.one (lL 7 rv.1 Qae.enc),.one (lI rv.2)]) [] cf
def Qn5 (Γ:Gam) (rv:List Qae×Int) (x0:Qac) (sets:Int) (i:Int):Prop:=Qgx Γ rv ⟨[.c 116,.l 116,.b 0,.c 15],⟨50,[vP 1 0 6,vI 4 sets,vI 5 i],[oX 6 30 (Qac.enc x0)]⟩⟩
def Qnh (Γ:Gam) (rv:List Qae×Int) (x0:Qac) (sets1:Int):Prop:=Qgx Γ rv ⟨[.c 15],⟨50,[vP 1 0 6,vI 4 sets1],[oX 6 30 (Qac.enc x0)]⟩⟩
def Qn7 (Γ:Gam) (rv:List Qae×Int) (x0:Qac) (sets1:Int) (l:List Qae) (kind:Int) (l1:List Qae) (set_:Int):Prop:=Qgx Γ rv ⟨[.c 32036,.l 32036,.b 4,.b 3,.c 2003,.l 500,.b 2,.c 63],⟨50,[vP 1 0 6,vI 4 sets1,vO 6 1 7 l1 Qae.enc,vI 7 kind,vI 8 set_],[oX 6 30 (Qac.enc x0),oS 7 45 l1 Qae.enc]⟩⟩
def Qnj (Γ:Gam) (rv:List Qae×Int) (x0:Qac) (sets1:Int) (l:List Qae) (kind:Int) (l2:List Qae):Prop:=Qgx Γ rv ⟨[.b 3,.c 2003,.l 500,.b 2,.c 63],⟨50,[vP 1 0 6,vI 4 sets1,vO 6 1 7 l2 Qae.enc,vI 7 kind],[oX 6 30 (Qac.enc x0),oS 7 45 l2 Qae.enc]⟩⟩
def Qn6 (Γ:Gam) (rv:List Qae×Int) (x0:Qac) (sets1:Int) (l:List Qae) (kind:Int):Prop:=Qgx Γ rv ⟨[.c 500,.l 500,.b 2,.c 63],⟨50,[vP 1 0 6,vI 4 sets1,vO 6 1 7 l Qae.enc,vI 7 kind],[oX 6 30 (Qac.enc x0),oS 7 45 l Qae.enc]⟩⟩
def Qni (Γ:Gam) (rv:List Qae×Int) (x0:Qac) (sets1:Int) (l3:List Qae):Prop:=Qgx Γ rv ⟨[.c 63],⟨50,[vO 6 0 7 l3 Qae.enc],[oS 7 45 l3 Qae.enc]⟩⟩
theorem Qst (Γ:Gam) (rv:List Qae×Int) {x0} {s:Int×Int} {e:Int} (h:loopF (fun s=>QcX x0 s.1 s.2) s=some e) (hD:Qnh Γ rv x0 e):Qn5 Γ rv x0 s.1 s.2:=by
 refine QaD (C:=fun (s:Int×Int)=>Qn5 Γ rv x0 s.1 s.2) (D:=fun (e:Int)=>Qnh Γ rv x0 e) ?_ h hD
 clear h hD s e
 rintro ⟨sets,i⟩ z_ h hI hE
 replace h:QcX x0 sets i=_:=h
 unfold QcX at h
 rcases Qai h with ⟨h0,h⟩|⟨h0,h⟩
 ·exact gn 11 [1,4,5] [0] [nL Qah.enc x0.orders,hP,hP,hP,oI ((ltI i (lenI x0.orders))=true),oR True ((ltI i (lenI x0.orders))=true),bT h0] (hI _ (oJ h))
 ·exact gn 5 [1,4] [0] [nL Qah.enc x0.orders,hP,hP,hP,oI ((ltI i (lenI x0.orders))=true),oR True ((ltI i (lenI x0.orders))=true),bF h0] (hE _ (oJ h))
theorem Qsv (Γ:Gam) (rv:List Qae×Int) {x0 sets1 l kind} {s:List Qae×Int} {e:List Qae} (h:loopF (fun s=>Qdq x0 sets1 l kind s.1 s.2) s=some e) (hD:Qnj Γ rv x0 sets1 l kind e):Qn7 Γ rv x0 sets1 l kind s.1 s.2:=by
 refine QaD (C:=fun (s:List Qae×Int)=>Qn7 Γ rv x0 sets1 l kind s.1 s.2) (D:=fun (e:List Qae)=>Qnj Γ rv x0 sets1 l kind e) ?_ h hD
 clear h hD s e
 rintro ⟨l1,set_⟩ z_ h hI hE
 replace h:Qdq x0 sets1 l kind l1 set_=_:=h
 unfold Qdq at h
 rcases Qai h with ⟨h3,h⟩|⟨h3,h⟩
 ·obtain ⟨r,h4,h⟩:=Qad h
  rcases Qai h with ⟨h5,h⟩|⟨h5,h⟩
  ·obtain ⟨h6,h⟩:=Qaw h
   exact gn 16 [1,4,6,7,8] [0,4] [bT h3,cC (Qic h4),bT h5,oO (Eq.refl ([r.1].map Qae.enc).length),aO Qae.enc h6] (hI _ (oJ h))
  ·exact gn 16 [1,4,6,7,8] [0,1] [bT h3,cC (Qic h4),bF h5] (hI _ (oJ h))
 ·exact gn 5 [1,4,6,7] [0,1] [bF h3] (hE _ (oJ h))
theorem Qsu (Γ:Gam) (rv:List Qae×Int) {x0 sets1} {s:List Qae×Int} {e:List Qae} (h:loopF (fun s=>Qcs x0 sets1 s.1 s.2) s=some e) (hD:Qni Γ rv x0 sets1 e):Qn6 Γ rv x0 sets1 s.1 s.2:=by
 refine QaD (C:=fun (s:List Qae×Int)=>Qn6 Γ rv x0 sets1 s.1 s.2) (D:=fun (e:List Qae)=>Qni Γ rv x0 sets1 e) ?_ h hD
 clear h hD s e
 rintro ⟨l,kind⟩ z_ h hI hE
 replace h:Qcs x0 sets1 l kind=_:=h
 unfold Qcs at h
 rcases Qai h with ⟨h2,h⟩|⟨h2,h⟩
 ·obtain ⟨e1,h7,h⟩:=Qad h
  refine gn 11 [1,4,6,7,8] [0,1] [nL Qak.enc x0.types,bT h2] (Qsv Γ rv h7 ?_)
  obtain ⟨l2,rfl⟩:∃ x,x=e1:=⟨_,rfl⟩
  replace h:(some (.inl (l2,(addK .i64 kind 1))):Option ((List Qae×Int)⊕(List Qae)))=some _:=h
  exact gn 3 [1,4,6,7] [0,1] [] (hI _ (oJ h))
 ·exact gn 5 [6] [1] [nL Qak.enc x0.types,bF h2] (hE _ (oJ h))
theorem Qp0 {x0} {rv:List Qae×Int} (h:QjD x0=some rv):AFn Tryz.prog 28 [.agg (Qac.enc x0)] [] (.tup [.one (lL 7 rv.1 Qae.enc),.one (lI rv.2)]) []:=by
 refine QaN Tryz.func28 (by kernel_rfl) (by kernel_rfl) (fun Γ=>?_)
 unfold QjD at h
 obtain ⟨e0,h1,h⟩:=Qad h
 refine gn 9 [1,4,5] [0] [] (Qst Γ rv h1 ?_)
 obtain ⟨sets1,rfl⟩:∃ x,x=e0:=⟨_,rfl⟩
 replace h:(bnd (loopF (fun s=>Qcs x0 sets1 s.1 s.2) ([],0)) (fun l3=>some (l3,0)):Option (List Qae×Int))=some _:=h
 obtain ⟨e2,h8,h⟩:=Qad h
 refine gn 7 [1,4,6,7] [0,1] [hW 9,hH (.adopt 6 7 45)] (Qsu Γ rv h8 ?_)
 obtain ⟨l3,rfl⟩:∃ x,x=e2:=⟨_,rfl⟩
 replace h:(some (l3,0):Option (List Qae×Int))=some _:=h
 obtain rfl:=Option.some.inj h
 exact gr 2 [] [hW 5,hH (.frz 0),rp 3 (eL l3 Qae.enc)]
def Qm0 (Γ:Gam) (rv:Bool) (cf:Cf):Prop:=Go Tryz.prog Tryz.f7 [] Γ (one (.bool rv)) [] cf
def QjS (Γ:Gam) (rv:Bool) (r1:List Qae×Int) (r2:List Qae×Int) (i:Int):Prop:=Qm0 Γ rv ⟨[.c 1012,.l 1012,.b 0,.c 127],⟨49,[vL 3 7 r1.1 Qae.enc,vL 5 7 r2.1 Qae.enc,vI 7 i],[]⟩⟩
def Qjk (Γ:Gam) (rv:Bool) (r1:List Qae×Int) (r2:List Qae×Int):Prop:=Qm0 Γ rv ⟨[.c 127],⟨49,[],[]⟩⟩
theorem QpE (Γ:Gam) (rv:Bool) {r1 r2} {s:Int} {e:(Unit)⊕(Bool)} (h:loopF (fun s=>Qb7 r1 r2 s) s=some e) (hD:sel e (fun e=>Qjk Γ rv r1 r2) (fun e=>e=rv)):QjS Γ rv r1 r2 s:=by
 refine QaD (C:=fun (s:Int)=>QjS Γ rv r1 r2 s) (D:=fun (e:(Unit)⊕(Bool))=>sel e (fun e=>Qjk Γ rv r1 r2) (fun e=>e=rv)) ?_ h hD
 clear h hD s e
 intro i z_ h hI hE
 replace h:Qb7 r1 r2 i=_:=h
 unfold Qb7 at h
 rcases Qai h with ⟨h5,h⟩|⟨h5,h⟩
 ·obtain ⟨x1,h6,h⟩:=Qad h
  obtain ⟨x2,h7,h⟩:=Qad h
  obtain ⟨r3,h8,h⟩:=Qad h
  rcases Qai h with ⟨h9,h⟩|⟨h9,h⟩
  ·exact gn 14 [3,5,7] [] [nL Qae.enc r1.1,bT h5,hH (.draw 10 []),cE Qae.enc h6,cE Qae.enc h7,cC (Qbz h8),nF h9] (hI _ (oJ h))
  ·obtain rfl:=(hE _ (oJ h):_=rv)
   exact gr 12 [] [nL Qae.enc r1.1,bT h5,hH (.draw 10 []),cE Qae.enc h6,cE Qae.enc h7,cC (Qbz h8),nT h9]
 ·exact gn 5 [] [] [nL Qae.enc r1.1,bF h5] (hE _ (oJ h))
theorem QrK {x0} {rv:Bool} (h:Qh5 x0=some rv):AFn Tryz.prog 7 [.agg (Qac.enc x0)] [] (one (.bool rv)) []:=by
 refine QaN Tryz.func7 (by kernel_rfl) (by kernel_rfl) (fun Γ=>?_)
 unfold Qh5 at h
 obtain ⟨r,h0,h⟩:=Qad h
 rcases Qai h with ⟨h1,h⟩|⟨h1,h⟩
 ·obtain ⟨r1,h2,h⟩:=Qad h
  obtain ⟨r2,h3,h⟩:=Qad h
  rcases Qai h with ⟨h4,h⟩|⟨h4,h⟩
  ·obtain rfl:=Option.some.inj h
   exact gr 17 [] [cC (QdU h0),nF h1,cC (QmK h2),cC (Qp0 h3),nL Qae.enc r1.1,nL Qae.enc r2.1,rp 4 hP,rp 2 (oI ((neI (lenI r1.1) (lenI r2.1))=false)),oR True ((neI (lenI r1.1) (lenI r2.1))=false),bT h4]
  ·obtain ⟨e0,h10,h⟩:=Qad h
   refine gn 21 [3,5,7] [] [cC (QdU h0),nF h1,cC (QmK h2),cC (Qp0 h3),nL Qae.enc r1.1,nL Qae.enc r2.1,rp 4 hP,rp 2 (oI ((neI (lenI r1.1) (lenI r2.1))=false)),oR True ((neI (lenI r1.1) (lenI r2.1))=false),bF h4] (QpE Γ rv h10 ?_)
   rcases e0 with e0|e0
   ·replace h:(bnd (Qbk) fun r4=>some r4:Option Bool)=some _:=h
    obtain ⟨r4,h11,h⟩:=Qad h
    obtain rfl:=Option.some.inj h
    exact gr 2 [] [cC (Qbw h11)]
   ·obtain ⟨r5,rfl⟩:∃ x,x=e0:=⟨_,rfl⟩
    replace h:(some r5:Option Bool)=some _:=h
    exact Option.some.inj h
 ·obtain ⟨r6,h12,h⟩:=Qad h
  obtain rfl:=Option.some.inj h
  exact gr 8 [] [cC (QdU h0),nT h1,cC (Qbw h12)]
def Qgc (Γ:Gam) (rv:Bool) (cf:Cf):Prop:=Go Tryz.prog Tryz.f9 [] Γ (one (.bool rv)) [] cf
def Qjm (Γ:Gam) (rv:Bool) (x0:Qac) (r1:List Qae×Int) (kind:Int) (n1:Int) (set_:Int):Prop:=Qgc Γ rv ⟨[.c 32036,.l 32036,.b 2,.b 1,.c 2003,.l 500,.b 0,.c 63],⟨74,[vP 1 0 6,vL 3 7 r1.1 Qae.enc,vI 4 r1.2,vI 5 n1,vI 6 kind,vI 7 set_],[oX 6 30 (Qac.enc x0)]⟩⟩
def Qi1 (Γ:Gam) (rv:Bool) (x0:Qac) (r1:List Qae×Int) (kind:Int) (n2:Int):Prop:=Qgc Γ rv ⟨[.b 1,.c 2003,.l 500,.b 0,.c 63],⟨74,[vP 1 0 6,vL 3 7 r1.1 Qae.enc,vI 4 r1.2,vI 5 n2,vI 6 kind],[oX 6 30 (Qac.enc x0)]⟩⟩
def Qjl (Γ:Gam) (rv:Bool) (x0:Qac) (r1:List Qae×Int) (n:Int) (kind:Int):Prop:=Qgc Γ rv ⟨[.c 500,.l 500,.b 0,.c 63],⟨74,[vP 1 0 6,vL 3 7 r1.1 Qae.enc,vI 4 r1.2,vI 5 n,vI 6 kind],[oX 6 30 (Qac.enc x0)]⟩⟩
def Qi0 (Γ:Gam) (rv:Bool) (x0:Qac) (r1:List Qae×Int) (n3:Int):Prop:=Qgc Γ rv ⟨[.c 63],⟨74,[vL 3 7 r1.1 Qae.enc,vI 4 r1.2,vI 5 n3],[]⟩⟩
theorem QoP (Γ:Gam) (rv:Bool) {x0 r1 kind} {s:Int×Int} {e:(Int)⊕(Bool)} (h:loopF (fun s=>QbT x0 r1 kind s.1 s.2) s=some e) (hD:sel e (fun e=>Qi1 Γ rv x0 r1 kind e) (fun e=>e=rv)):Qjm Γ rv x0 r1 kind s.1 s.2:=by
 refine QaD (C:=fun (s:Int×Int)=>Qjm Γ rv x0 r1 kind s.1 s.2) (D:=fun (e:(Int)⊕(Bool))=>sel e (fun e=>Qi1 Γ rv x0 r1 kind e) (fun e=>e=rv)) ?_ h hD
 clear h hD s e
 rintro ⟨n1,set_⟩ z_ h hI hE
 replace h:QbT x0 r1 kind n1 set_=_:=h
 unfold QbT at h
 obtain ⟨h4,h⟩:=Qaw h
 rcases Qai h with ⟨h5,h⟩|⟨h5,h⟩
 ·obtain ⟨r2,h6,h⟩:=Qad h
  rcases Qai h with ⟨h7,h⟩|⟨h7,h⟩
  ·exact gn 16 [1,3,4,5,6,7] [0] [nL Qah.enc x0.orders,oO (h4),bT h5,cC (Qfv h6),bT h7] (hI _ (oJ h))
  ·rcases Qai h with ⟨h8,h⟩|⟨h8,h⟩
   ·obtain rfl:=(hE _ (oJ h):_=rv)
    exact gr 20 [] [nL Qah.enc x0.orders,oO (h4),bT h5,cC (Qfv h6),bF h7,hH (.draw 17 []),hP,hP,hP,oI ((neI r2.2 0)=false),nL Qae.enc r1.1,hP,hP,rp 2 (oI ((neI r2.2 0)=false)),oR True ((neI r2.2 0)=false),rp 8 (bT h8),tT]
   ·obtain ⟨x1,h9,h⟩:=Qad h
    obtain ⟨r3,h10,h⟩:=Qad h
    rcases Qai h with ⟨h11,h⟩|⟨h11,h⟩
    ·exact gn 23 [1,3,4,5,6,7] [0] [nL Qah.enc x0.orders,oO (h4),bT h5,cC (Qfv h6),bF h7,hH (.draw 17 []),hP,hP,hP,oI ((neI r2.2 0)=false),nL Qae.enc r1.1,hP,hP,rp 2 (oI ((neI r2.2 0)=false)),oR True ((neI r2.2 0)=false),rp 3 (bF h8),cE Qae.enc h9,rp 3 (bF h8),cC (QdH h10),bF h8,bF h8,nF h11] (hI _ (oJ h))
    ·obtain rfl:=(hE _ (oJ h):_=rv)
     exact gr 20 [] [nL Qah.enc x0.orders,oO (h4),bT h5,cC (Qfv h6),bF h7,hH (.draw 17 []),hP,hP,hP,oI ((neI r2.2 0)=false),nL Qae.enc r1.1,hP,hP,rp 2 (oI ((neI r2.2 0)=false)),oR True ((neI r2.2 0)=false),rp 3 (bF h8),cE Qae.enc h9,rp 3 (bF h8),cC (QdH h10),bF h8,bF h8,nT h11]
 ·exact gn 5 [1,3,4,5,6] [0] [nL Qah.enc x0.orders,oO (h4),bF h5] (hE _ (oJ h))
theorem QoO (Γ:Gam) (rv:Bool) {x0 r1} {s:Int×Int} {e:(Int)⊕(Bool)} (h:loopF (fun s=>QbS x0 r1 s.1 s.2) s=some e) (hD:sel e (fun e=>Qi0 Γ rv x0 r1 e) (fun e=>e=rv)):Qjl Γ rv x0 r1 s.1 s.2:=by
 refine QaD (C:=fun (s:Int×Int)=>Qjl Γ rv x0 r1 s.1 s.2) (D:=fun (e:(Int)⊕(Bool))=>sel e (fun e=>Qi0 Γ rv x0 r1 e) (fun e=>e=rv)) ?_ h hD
 clear h hD s e
 rintro ⟨n,kind⟩ z_ h hI hE
 replace h:QbS x0 r1 n kind=_:=h
 unfold QbS at h
 rcases Qai h with ⟨h3,h⟩|⟨h3,h⟩
 ·obtain ⟨e0,h12,h⟩:=Qad h
  refine gn 11 [1,3,4,5,6,7] [0] [nL Qak.enc x0.types,bT h3] (QoP Γ rv h12 ?_)
  rcases e0 with e0|e0
  ·obtain ⟨n2,rfl⟩:∃ x,x=e0:=⟨_,rfl⟩
   replace h:(some (.inl (n2,(addK .i64 kind 1))):Option ((Int×Int)⊕((Int)⊕(Bool))))=some _:=h
   exact gn 3 [1,3,4,5,6] [0] [] (hI _ (oJ h))
  ·obtain ⟨r4,rfl⟩:∃ x,x=e0:=⟨_,rfl⟩
   replace h:(some (.inr (.inr r4)):Option ((Int×Int)⊕((Int)⊕(Bool))))=some _:=h
   exact (hE _ (oJ h):_=rv)
 ·exact gn 5 [3,4,5] [] [nL Qak.enc x0.types,bF h3] (hE _ (oJ h))
theorem QqK {x0} {rv:Bool} (h:Qhs x0=some rv):AFn Tryz.prog 9 [.agg (Qac.enc x0)] [] (one (.bool rv)) []:=by
 refine QaN Tryz.func9 (by kernel_rfl) (by kernel_rfl) (fun Γ=>?_)
 unfold Qhs at h
 obtain ⟨r,h0,h⟩:=Qad h
 rcases Qai h with ⟨h1,h⟩|⟨h1,h⟩
 ·obtain ⟨r1,h2,h⟩:=Qad h
  obtain ⟨e1,h13,h⟩:=Qad h
  refine gn 16 [1,3,4,5,6] [0] [cC (QdU h0),nF h1,cC (QmK h2)] (QoO Γ rv h13 ?_)
  rcases e1 with e1|e1
  ·obtain ⟨n3,rfl⟩:∃ x,x=e1:=⟨_,rfl⟩
   replace h:(br ((eqI r1.2 0)&&(eqI n3 (lenI r1.1))) (bnd (Qbk) fun r5=>some r5) (some false):Option Bool)=some _:=h
   rcases Qai h with ⟨h14,h⟩|⟨h14,h⟩
   ·obtain ⟨r5,h15,h⟩:=Qad h
    obtain rfl:=Option.some.inj h
    exact gr 2 [] [hP,hP,hP,oI ((eqI r1.2 0)=true),nL Qae.enc r1.1,hP,hP,rp 2 (oI ((eqI r1.2 0)=true)),oR True ((eqI r1.2 0)=true),bT h14,cC (Qbw h15),bT h14]
   ·obtain rfl:=Option.some.inj h
    exact gr 2 [] [hP,hP,hP,oI ((eqI r1.2 0)=true),nL Qae.enc r1.1,hP,hP,rp 2 (oI ((eqI r1.2 0)=true)),oR True ((eqI r1.2 0)=true),rp 2 (bF h14)]
  ·obtain ⟨r6,rfl⟩:∃ x,x=e1:=⟨_,rfl⟩
   replace h:(some r6:Option Bool)=some _:=h
   exact Option.some.inj h
 ·obtain ⟨r7,h16,h⟩:=Qad h
  obtain rfl:=Option.some.inj h
  exact gr 8 [] [cC (QdU h0),nT h1,cC (Qbw h16)]
theorem QpF {a b} {rv:Bool} (h:Qgd a b=some rv):AFn Tryz.prog 10 [.agg (Qae.enc a),.agg (Qae.enc b)] [] (one (.bool rv)) []:=by
 refine QaN Tryz.func10 (by kernel_rfl) (by kernel_rfl) (fun Γ=>?_)
 unfold Qgd at h
 rcases Qai h with ⟨h0,h⟩|⟨h0,h⟩
 ·obtain ⟨r,h1,h⟩:=Qad h
  obtain rfl:=Option.some.inj h
  exact gr 8 [] [nL Qaa.enc a.route.visits,rp 4 hP,rp 3 (oI ((gtI (lenI a.route.visits) 10)=false)),nL Qaa.enc b.route.visits,rp 6 hP,oI ((gtI (lenI a.route.visits) 10)=false),oR True ((gtI (lenI a.route.visits) 10)=false),rp 3 (oI (((gtI (lenI a.route.visits) 10)||(gtI (lenI b.route.visits) 10))=false)),nL QaY a.route.rests,rp 6 hP,oI (((gtI (lenI a.route.visits) 10)||(gtI (lenI b.route.visits) 10))=false),oR True (((gtI (lenI a.route.visits) 10)||(gtI (lenI b.route.visits) 10))=false),rp 3 (oI ((((gtI (lenI a.route.visits) 10)||(gtI (lenI b.route.visits) 10))||(gtI (lenI a.route.rests) 10))=false)),nL QaY b.route.rests,hP,hP,oI ((((gtI (lenI a.route.visits) 10)||(gtI (lenI b.route.visits) 10))||(gtI (lenI a.route.rests) 10))=false),oR True ((((gtI (lenI a.route.visits) 10)||(gtI (lenI b.route.visits) 10))||(gtI (lenI a.route.rests) 10))=false),bT h0,cC (Qbw h1)]
 ·obtain ⟨r1,h2,h⟩:=Qad h
  obtain ⟨r2,h3,h⟩:=Qad h
  rcases Qai h with ⟨h4,h⟩|⟨h4,h⟩
  ·obtain ⟨r3,h5,h⟩:=Qad h
   obtain ⟨r4,h6,h⟩:=Qad h
   rcases Qai h with ⟨h7,h⟩|⟨h7,h⟩
   ·obtain ⟨r5,h8,h⟩:=Qad h
    obtain ⟨r6,h9,h⟩:=Qad h
    rcases Qai h with ⟨h10,h⟩|⟨h10,h⟩
    ·obtain ⟨r7,h11,h⟩:=Qad h
     rcases Qai h with ⟨h12,h⟩|⟨h12,h⟩
     ·obtain ⟨r8,h13,h⟩:=Qad h
      rcases Qai h with ⟨h14,h⟩|⟨h14,h⟩
      ·obtain rfl:=Option.some.inj h
       exact gr 14 [] [nL Qaa.enc a.route.visits,rp 4 hP,rp 3 (oI ((gtI (lenI a.route.visits) 10)=false)),nL Qaa.enc b.route.visits,rp 6 hP,oI ((gtI (lenI a.route.visits) 10)=false),oR True ((gtI (lenI a.route.visits) 10)=false),rp 3 (oI (((gtI (lenI a.route.visits) 10)||(gtI (lenI b.route.visits) 10))=false)),nL QaY a.route.rests,rp 6 hP,oI (((gtI (lenI a.route.visits) 10)||(gtI (lenI b.route.visits) 10))=false),oR True (((gtI (lenI a.route.visits) 10)||(gtI (lenI b.route.visits) 10))=false),rp 3 (oI ((((gtI (lenI a.route.visits) 10)||(gtI (lenI b.route.visits) 10))||(gtI (lenI a.route.rests) 10))=false)),nL QaY b.route.rests,hP,hP,oI ((((gtI (lenI a.route.visits) 10)||(gtI (lenI b.route.visits) 10))||(gtI (lenI a.route.rests) 10))=false),oR True ((((gtI (lenI a.route.visits) 10)||(gtI (lenI b.route.visits) 10))||(gtI (lenI a.route.rests) 10))=false),bF h0,hH (.draw 25 []),cC (QaB h2),cC (QaK h3),rp 3 (nF h4),cC (QaB h5),rp 3 (nF h4),cC (QaK h6),nF h4,nF h4,rp 3 (nF h7),cC (QdH h8),rp 3 (nF h7),cC (Qbz h9),nF h7,nF h7,nF h10,cC (QaB h11),rp 3 (bT h12),cC (QaB h13),bT h12,rp 6 (nF h14),kF,kF,kF,rp 2 (nF h14),kF,kF,kF,rp 2 (nF h14),fF,fF]
      ·rcases Qai h with ⟨h15,h⟩|⟨h15,h⟩
       ·obtain ⟨r9,h16,h⟩:=Qad h
        obtain rfl:=Option.some.inj h
        exact gr 14 [] [nL Qaa.enc a.route.visits,rp 4 hP,rp 3 (oI ((gtI (lenI a.route.visits) 10)=false)),nL Qaa.enc b.route.visits,rp 6 hP,oI ((gtI (lenI a.route.visits) 10)=false),oR True ((gtI (lenI a.route.visits) 10)=false),rp 3 (oI (((gtI (lenI a.route.visits) 10)||(gtI (lenI b.route.visits) 10))=false)),nL QaY a.route.rests,rp 6 hP,oI (((gtI (lenI a.route.visits) 10)||(gtI (lenI b.route.visits) 10))=false),oR True (((gtI (lenI a.route.visits) 10)||(gtI (lenI b.route.visits) 10))=false),rp 3 (oI ((((gtI (lenI a.route.visits) 10)||(gtI (lenI b.route.visits) 10))||(gtI (lenI a.route.rests) 10))=false)),nL QaY b.route.rests,hP,hP,oI ((((gtI (lenI a.route.visits) 10)||(gtI (lenI b.route.visits) 10))||(gtI (lenI a.route.rests) 10))=false),oR True ((((gtI (lenI a.route.visits) 10)||(gtI (lenI b.route.visits) 10))||(gtI (lenI a.route.rests) 10))=false),bF h0,hH (.draw 25 []),cC (QaB h2),cC (QaK h3),rp 3 (nF h4),cC (QaB h5),rp 3 (nF h4),cC (QaK h6),nF h4,nF h4,rp 3 (nF h7),cC (QdH h8),rp 3 (nF h7),cC (Qbz h9),nF h7,nF h7,nF h10,cC (QaB h11),rp 3 (bT h12),cC (QaB h13),bT h12,rp 6 (nT h14),rp 3 (bT h15),nT h14,bT h15,nT h14,tT,tT,tT,nT h14,tT,nT h14,tT,cC (Qbw h16),tT]
       ·obtain ⟨r10,h17,h⟩:=Qad h
        rcases Qai h with ⟨h18,h⟩|⟨h18,h⟩
        ·obtain ⟨r11,h19,h⟩:=Qad h
         obtain rfl:=Option.some.inj h
         exact gr 14 [] [nL Qaa.enc a.route.visits,rp 4 hP,rp 3 (oI ((gtI (lenI a.route.visits) 10)=false)),nL Qaa.enc b.route.visits,rp 6 hP,oI ((gtI (lenI a.route.visits) 10)=false),oR True ((gtI (lenI a.route.visits) 10)=false),rp 3 (oI (((gtI (lenI a.route.visits) 10)||(gtI (lenI b.route.visits) 10))=false)),nL QaY a.route.rests,rp 6 hP,oI (((gtI (lenI a.route.visits) 10)||(gtI (lenI b.route.visits) 10))=false),oR True (((gtI (lenI a.route.visits) 10)||(gtI (lenI b.route.visits) 10))=false),rp 3 (oI ((((gtI (lenI a.route.visits) 10)||(gtI (lenI b.route.visits) 10))||(gtI (lenI a.route.rests) 10))=false)),nL QaY b.route.rests,hP,hP,oI ((((gtI (lenI a.route.visits) 10)||(gtI (lenI b.route.visits) 10))||(gtI (lenI a.route.rests) 10))=false),oR True ((((gtI (lenI a.route.visits) 10)||(gtI (lenI b.route.visits) 10))||(gtI (lenI a.route.rests) 10))=false),bF h0,hH (.draw 25 []),cC (QaB h2),cC (QaK h3),rp 3 (nF h4),cC (QaB h5),rp 3 (nF h4),cC (QaK h6),nF h4,nF h4,rp 3 (nF h7),cC (QdH h8),rp 3 (nF h7),cC (Qbz h9),nF h7,nF h7,nF h10,cC (QaB h11),rp 3 (bT h12),cC (QaB h13),bT h12,rp 6 (nT h14),rp 3 (bF h15),cC (QaB h17),nT h14,bF h15,nT h14,rp 3 (bT h18),nT h14,bT h18,nT h14,tT,cC (Qbw h19),tT]
        ·obtain ⟨r12,h20,h⟩:=Qad h
         rcases Qai h with ⟨h21,h⟩|⟨h21,h⟩
         ·obtain ⟨r13,h22,h⟩:=Qad h
          obtain rfl:=Option.some.inj h
          exact gr 14 [] [nL Qaa.enc a.route.visits,rp 4 hP,rp 3 (oI ((gtI (lenI a.route.visits) 10)=false)),nL Qaa.enc b.route.visits,rp 6 hP,oI ((gtI (lenI a.route.visits) 10)=false),oR True ((gtI (lenI a.route.visits) 10)=false),rp 3 (oI (((gtI (lenI a.route.visits) 10)||(gtI (lenI b.route.visits) 10))=false)),nL QaY a.route.rests,rp 6 hP,oI (((gtI (lenI a.route.visits) 10)||(gtI (lenI b.route.visits) 10))=false),oR True (((gtI (lenI a.route.visits) 10)||(gtI (lenI b.route.visits) 10))=false),rp 3 (oI ((((gtI (lenI a.route.visits) 10)||(gtI (lenI b.route.visits) 10))||(gtI (lenI a.route.rests) 10))=false)),nL QaY b.route.rests,hP,hP,oI ((((gtI (lenI a.route.visits) 10)||(gtI (lenI b.route.visits) 10))||(gtI (lenI a.route.rests) 10))=false),oR True ((((gtI (lenI a.route.visits) 10)||(gtI (lenI b.route.visits) 10))||(gtI (lenI a.route.rests) 10))=false),bF h0,hH (.draw 25 []),cC (QaB h2),cC (QaK h3),rp 3 (nF h4),cC (QaB h5),rp 3 (nF h4),cC (QaK h6),nF h4,nF h4,rp 3 (nF h7),cC (QdH h8),rp 3 (nF h7),cC (Qbz h9),nF h7,nF h7,nF h10,cC (QaB h11),rp 3 (bT h12),cC (QaB h13),bT h12,rp 6 (nT h14),rp 3 (bF h15),cC (QaB h17),nT h14,bF h15,nT h14,rp 3 (bF h18),cC (QaB h20),nT h14,bF h18,nT h14,bT h21,cC (Qbw h22),bT h21]
         ·obtain rfl:=Option.some.inj h
          exact gr 14 [] [nL Qaa.enc a.route.visits,rp 4 hP,rp 3 (oI ((gtI (lenI a.route.visits) 10)=false)),nL Qaa.enc b.route.visits,rp 6 hP,oI ((gtI (lenI a.route.visits) 10)=false),oR True ((gtI (lenI a.route.visits) 10)=false),rp 3 (oI (((gtI (lenI a.route.visits) 10)||(gtI (lenI b.route.visits) 10))=false)),nL QaY a.route.rests,rp 6 hP,oI (((gtI (lenI a.route.visits) 10)||(gtI (lenI b.route.visits) 10))=false),oR True (((gtI (lenI a.route.visits) 10)||(gtI (lenI b.route.visits) 10))=false),rp 3 (oI ((((gtI (lenI a.route.visits) 10)||(gtI (lenI b.route.visits) 10))||(gtI (lenI a.route.rests) 10))=false)),nL QaY b.route.rests,hP,hP,oI ((((gtI (lenI a.route.visits) 10)||(gtI (lenI b.route.visits) 10))||(gtI (lenI a.route.rests) 10))=false),oR True ((((gtI (lenI a.route.visits) 10)||(gtI (lenI b.route.visits) 10))||(gtI (lenI a.route.rests) 10))=false),bF h0,hH (.draw 25 []),cC (QaB h2),cC (QaK h3),rp 3 (nF h4),cC (QaB h5),rp 3 (nF h4),cC (QaK h6),nF h4,nF h4,rp 3 (nF h7),cC (QdH h8),rp 3 (nF h7),cC (Qbz h9),nF h7,nF h7,nF h10,cC (QaB h11),rp 3 (bT h12),cC (QaB h13),bT h12,rp 6 (nT h14),rp 3 (bF h15),cC (QaB h17),nT h14,bF h15,nT h14,rp 3 (bF h18),cC (QaB h20),nT h14,bF h18,nT h14,rp 2 (bF h21)]
     ·rcases Qai h with ⟨h23,h⟩|⟨h23,h⟩
      ·obtain ⟨r14,h24,h⟩:=Qad h
       obtain rfl:=Option.some.inj h
       exact gr 14 [] [nL Qaa.enc a.route.visits,rp 4 hP,rp 3 (oI ((gtI (lenI a.route.visits) 10)=false)),nL Qaa.enc b.route.visits,rp 6 hP,oI ((gtI (lenI a.route.visits) 10)=false),oR True ((gtI (lenI a.route.visits) 10)=false),rp 3 (oI (((gtI (lenI a.route.visits) 10)||(gtI (lenI b.route.visits) 10))=false)),nL QaY a.route.rests,rp 6 hP,oI (((gtI (lenI a.route.visits) 10)||(gtI (lenI b.route.visits) 10))=false),oR True (((gtI (lenI a.route.visits) 10)||(gtI (lenI b.route.visits) 10))=false),rp 3 (oI ((((gtI (lenI a.route.visits) 10)||(gtI (lenI b.route.visits) 10))||(gtI (lenI a.route.rests) 10))=false)),nL QaY b.route.rests,hP,hP,oI ((((gtI (lenI a.route.visits) 10)||(gtI (lenI b.route.visits) 10))||(gtI (lenI a.route.rests) 10))=false),oR True ((((gtI (lenI a.route.visits) 10)||(gtI (lenI b.route.visits) 10))||(gtI (lenI a.route.rests) 10))=false),bF h0,hH (.draw 25 []),cC (QaB h2),cC (QaK h3),rp 3 (nF h4),cC (QaB h5),rp 3 (nF h4),cC (QaK h6),nF h4,nF h4,rp 3 (nF h7),cC (QdH h8),rp 3 (nF h7),cC (Qbz h9),nF h7,nF h7,nF h10,cC (QaB h11),rp 4 (bF h12),rp 6 (bT (notT rF)),rp 3 (bT h23),bT (notT rF),bT h23,bT (notT rF),tT,tT,tT,bT (notT rF),tT,bT (notT rF),tT,cC (Qbw h24),tT]
      ·obtain ⟨r15,h25,h⟩:=Qad h
       rcases Qai h with ⟨h26,h⟩|⟨h26,h⟩
       ·obtain ⟨r16,h27,h⟩:=Qad h
        obtain rfl:=Option.some.inj h
        exact gr 14 [] [nL Qaa.enc a.route.visits,rp 4 hP,rp 3 (oI ((gtI (lenI a.route.visits) 10)=false)),nL Qaa.enc b.route.visits,rp 6 hP,oI ((gtI (lenI a.route.visits) 10)=false),oR True ((gtI (lenI a.route.visits) 10)=false),rp 3 (oI (((gtI (lenI a.route.visits) 10)||(gtI (lenI b.route.visits) 10))=false)),nL QaY a.route.rests,rp 6 hP,oI (((gtI (lenI a.route.visits) 10)||(gtI (lenI b.route.visits) 10))=false),oR True (((gtI (lenI a.route.visits) 10)||(gtI (lenI b.route.visits) 10))=false),rp 3 (oI ((((gtI (lenI a.route.visits) 10)||(gtI (lenI b.route.visits) 10))||(gtI (lenI a.route.rests) 10))=false)),nL QaY b.route.rests,hP,hP,oI ((((gtI (lenI a.route.visits) 10)||(gtI (lenI b.route.visits) 10))||(gtI (lenI a.route.rests) 10))=false),oR True ((((gtI (lenI a.route.visits) 10)||(gtI (lenI b.route.visits) 10))||(gtI (lenI a.route.rests) 10))=false),bF h0,hH (.draw 25 []),cC (QaB h2),cC (QaK h3),rp 3 (nF h4),cC (QaB h5),rp 3 (nF h4),cC (QaK h6),nF h4,nF h4,rp 3 (nF h7),cC (QdH h8),rp 3 (nF h7),cC (Qbz h9),nF h7,nF h7,nF h10,cC (QaB h11),rp 4 (bF h12),rp 6 (bT (notT rF)),rp 3 (bF h23),cC (QaB h25),bT (notT rF),bF h23,bT (notT rF),rp 3 (bT h26),bT (notT rF),bT h26,bT (notT rF),tT,cC (Qbw h27),tT]
       ·obtain ⟨r17,h28,h⟩:=Qad h
        rcases Qai h with ⟨h29,h⟩|⟨h29,h⟩
        ·obtain ⟨r18,h30,h⟩:=Qad h
         obtain rfl:=Option.some.inj h
         exact gr 14 [] [nL Qaa.enc a.route.visits,rp 4 hP,rp 3 (oI ((gtI (lenI a.route.visits) 10)=false)),nL Qaa.enc b.route.visits,rp 6 hP,oI ((gtI (lenI a.route.visits) 10)=false),oR True ((gtI (lenI a.route.visits) 10)=false),rp 3 (oI (((gtI (lenI a.route.visits) 10)||(gtI (lenI b.route.visits) 10))=false)),nL QaY a.route.rests,rp 6 hP,oI (((gtI (lenI a.route.visits) 10)||(gtI (lenI b.route.visits) 10))=false),oR True (((gtI (lenI a.route.visits) 10)||(gtI (lenI b.route.visits) 10))=false),rp 3 (oI ((((gtI (lenI a.route.visits) 10)||(gtI (lenI b.route.visits) 10))||(gtI (lenI a.route.rests) 10))=false)),nL QaY b.route.rests,hP,hP,oI ((((gtI (lenI a.route.visits) 10)||(gtI (lenI b.route.visits) 10))||(gtI (lenI a.route.rests) 10))=false),oR True ((((gtI (lenI a.route.visits) 10)||(gtI (lenI b.route.visits) 10))||(gtI (lenI a.route.rests) 10))=false),bF h0,hH (.draw 25 []),cC (QaB h2),cC (QaK h3),rp 3 (nF h4),cC (QaB h5),rp 3 (nF h4),cC (QaK h6),nF h4,nF h4,rp 3 (nF h7),cC (QdH h8),rp 3 (nF h7),cC (Qbz h9),nF h7,nF h7,nF h10,cC (QaB h11),rp 4 (bF h12),rp 6 (bT (notT rF)),rp 3 (bF h23),cC (QaB h25),bT (notT rF),bF h23,bT (notT rF),rp 3 (bF h26),cC (QaB h28),bT (notT rF),bF h26,bT (notT rF),bT h29,cC (Qbw h30),bT h29]
        ·obtain rfl:=Option.some.inj h
         exact gr 14 [] [nL Qaa.enc a.route.visits,rp 4 hP,rp 3 (oI ((gtI (lenI a.route.visits) 10)=false)),nL Qaa.enc b.route.visits,rp 6 hP,oI ((gtI (lenI a.route.visits) 10)=false),oR True ((gtI (lenI a.route.visits) 10)=false),rp 3 (oI (((gtI (lenI a.route.visits) 10)||(gtI (lenI b.route.visits) 10))=false)),nL QaY a.route.rests,rp 6 hP,oI (((gtI (lenI a.route.visits) 10)||(gtI (lenI b.route.visits) 10))=false),oR True (((gtI (lenI a.route.visits) 10)||(gtI (lenI b.route.visits) 10))=false),rp 3 (oI ((((gtI (lenI a.route.visits) 10)||(gtI (lenI b.route.visits) 10))||(gtI (lenI a.route.rests) 10))=false)),nL QaY b.route.rests,hP,hP,oI ((((gtI (lenI a.route.visits) 10)||(gtI (lenI b.route.visits) 10))||(gtI (lenI a.route.rests) 10))=false),oR True ((((gtI (lenI a.route.visits) 10)||(gtI (lenI b.route.visits) 10))||(gtI (lenI a.route.rests) 10))=false),bF h0,hH (.draw 25 []),cC (QaB h2),cC (QaK h3),rp 3 (nF h4),cC (QaB h5),rp 3 (nF h4),cC (QaK h6),nF h4,nF h4,rp 3 (nF h7),cC (QdH h8),rp 3 (nF h7),cC (Qbz h9),nF h7,nF h7,nF h10,cC (QaB h11),rp 4 (bF h12),rp 6 (bT (notT rF)),rp 3 (bF h23),cC (QaB h25),bT (notT rF),bF h23,bT (notT rF),rp 3 (bF h26),cC (QaB h28),bT (notT rF),bF h26,bT (notT rF),rp 2 (bF h29)]
    ·obtain rfl:=Option.some.inj h
     exact gr 13 [] [nL Qaa.enc a.route.visits,rp 4 hP,rp 3 (oI ((gtI (lenI a.route.visits) 10)=false)),nL Qaa.enc b.route.visits,rp 6 hP,oI ((gtI (lenI a.route.visits) 10)=false),oR True ((gtI (lenI a.route.visits) 10)=false),rp 3 (oI (((gtI (lenI a.route.visits) 10)||(gtI (lenI b.route.visits) 10))=false)),nL QaY a.route.rests,rp 6 hP,oI (((gtI (lenI a.route.visits) 10)||(gtI (lenI b.route.visits) 10))=false),oR True (((gtI (lenI a.route.visits) 10)||(gtI (lenI b.route.visits) 10))=false),rp 3 (oI ((((gtI (lenI a.route.visits) 10)||(gtI (lenI b.route.visits) 10))||(gtI (lenI a.route.rests) 10))=false)),nL QaY b.route.rests,hP,hP,oI ((((gtI (lenI a.route.visits) 10)||(gtI (lenI b.route.visits) 10))||(gtI (lenI a.route.rests) 10))=false),oR True ((((gtI (lenI a.route.visits) 10)||(gtI (lenI b.route.visits) 10))||(gtI (lenI a.route.rests) 10))=false),bF h0,hH (.draw 25 []),cC (QaB h2),cC (QaK h3),rp 3 (nF h4),cC (QaB h5),rp 3 (nF h4),cC (QaK h6),nF h4,nF h4,rp 3 (nF h7),cC (QdH h8),rp 3 (nF h7),cC (Qbz h9),nF h7,nF h7,nT h10]
   ·obtain rfl:=Option.some.inj h
    exact gr 13 [] [nL Qaa.enc a.route.visits,rp 4 hP,rp 3 (oI ((gtI (lenI a.route.visits) 10)=false)),nL Qaa.enc b.route.visits,rp 6 hP,oI ((gtI (lenI a.route.visits) 10)=false),oR True ((gtI (lenI a.route.visits) 10)=false),rp 3 (oI (((gtI (lenI a.route.visits) 10)||(gtI (lenI b.route.visits) 10))=false)),nL QaY a.route.rests,rp 6 hP,oI (((gtI (lenI a.route.visits) 10)||(gtI (lenI b.route.visits) 10))=false),oR True (((gtI (lenI a.route.visits) 10)||(gtI (lenI b.route.visits) 10))=false),rp 3 (oI ((((gtI (lenI a.route.visits) 10)||(gtI (lenI b.route.visits) 10))||(gtI (lenI a.route.rests) 10))=false)),nL QaY b.route.rests,hP,hP,oI ((((gtI (lenI a.route.visits) 10)||(gtI (lenI b.route.visits) 10))||(gtI (lenI a.route.rests) 10))=false),oR True ((((gtI (lenI a.route.visits) 10)||(gtI (lenI b.route.visits) 10))||(gtI (lenI a.route.rests) 10))=false),bF h0,hH (.draw 25 []),cC (QaB h2),cC (QaK h3),rp 3 (nF h4),cC (QaB h5),rp 3 (nF h4),cC (QaK h6),nF h4,nF h4,rp 8 (nT h7),tT]
  ·obtain rfl:=Option.some.inj h
   exact gr 13 [] [nL Qaa.enc a.route.visits,rp 4 hP,rp 3 (oI ((gtI (lenI a.route.visits) 10)=false)),nL Qaa.enc b.route.visits,rp 6 hP,oI ((gtI (lenI a.route.visits) 10)=false),oR True ((gtI (lenI a.route.visits) 10)=false),rp 3 (oI (((gtI (lenI a.route.visits) 10)||(gtI (lenI b.route.visits) 10))=false)),nL QaY a.route.rests,rp 6 hP,oI (((gtI (lenI a.route.visits) 10)||(gtI (lenI b.route.visits) 10))=false),oR True (((gtI (lenI a.route.visits) 10)||(gtI (lenI b.route.visits) 10))=false),rp 3 (oI ((((gtI (lenI a.route.visits) 10)||(gtI (lenI b.route.visits) 10))||(gtI (lenI a.route.rests) 10))=false)),nL QaY b.route.rests,hP,hP,oI ((((gtI (lenI a.route.visits) 10)||(gtI (lenI b.route.visits) 10))||(gtI (lenI a.route.rests) 10))=false),oR True ((((gtI (lenI a.route.visits) 10)||(gtI (lenI b.route.visits) 10))||(gtI (lenI a.route.rests) 10))=false),bF h0,hH (.draw 25 []),cC (QaB h2),cC (QaK h3),rp 8 (nT h4),rp 9 tT]
end Go.Proofs.YtoedkepcaigkeaaGreatDoor
