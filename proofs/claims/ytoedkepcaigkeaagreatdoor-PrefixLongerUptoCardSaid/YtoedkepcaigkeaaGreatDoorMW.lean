/- Part MW of the proof: texts X2 X3. -/
import Derived.Test.YtoedkepcaigkeaaGreatDoorMV
import Derived.Test.YtoedkepcaigkeaaGreatDoorProg
namespace Go.Proofs.YtoedkepcaigkeaaGreatDoor
set_option linter.unusedVariables false
set_option linter.unusedSectionVars false
set_option linter.unusedSimpArgs false
set_option maxHeartbeats 4000000
set_option maxRecDepth 100000
def QiC (Γ:Gam) (rv:List Int×Int) (cf:Cf):Prop:=Go Tryz.prog Tryz.f186 [] Γ (.tup [.one (lL 1 rv.1 QaM),.one (lI rv.2)]) [] cf
def Qm3 (Γ:Gam) (rv:List Int×Int) (x0:Qad) (l:List Qaa) (n:Int) (l1:List (List Int)) (i:Int) (on_:Bool) (there:Bool) (k:Int):Prop:=QiC Γ rv ⟨[.c 29844,.l 29844,.b 2,.c 3731,.b 1,.c 467,.l 116,.b 0,.c 15],⟨69,[vL 1 2 l Qaa.enc,vI 2 n,vP 3 0 6,vO 8 1 1 l1 Qbq,vI 9 i,vB 10 on_,vB 11 there,vI 12 k],[oX 6 30 (Qad.enc x0),oS 1 90 l1 Qbq]⟩⟩
def Ql2 (Γ:Gam) (rv:List Int×Int) (x0:Qad) (l:List Qaa) (n:Int) (l1:List (List Int)) (i:Int) (on_1:Bool) (there1:Bool):Prop:=QiC Γ rv ⟨[.c 3731,.b 1,.c 467,.l 116,.b 0,.c 15],⟨69,[vL 1 2 l Qaa.enc,vI 2 n,vP 3 0 6,vO 8 1 1 l1 Qbq,vI 9 i,vB 10 on_1,vB 11 there1],[oX 6 30 (Qad.enc x0),oS 1 90 l1 Qbq]⟩⟩
def Qm2 (Γ:Gam) (rv:List Int×Int) (x0:Qad) (l:List Qaa) (n:Int) (l1:List (List Int)) (i:Int):Prop:=QiC Γ rv ⟨[.c 116,.l 116,.b 0,.c 15],⟨69,[vL 1 2 l Qaa.enc,vI 2 n,vP 3 0 6,vO 8 1 1 l1 Qbq,vI 9 i],[oX 6 30 (Qad.enc x0),oS 1 90 l1 Qbq]⟩⟩
def Ql1 (Γ:Gam) (rv:List Int×Int) (x0:Qad) (l:List Qaa) (n:Int) (l2:List (List Int)):Prop:=QiC Γ rv ⟨[.c 15],⟨69,[vP 3 0 6,vO 8 1 1 l2 Qbq],[oX 6 30 (Qad.enc x0),oS 1 90 l2 Qbq]⟩⟩
theorem Qr6 (Γ:Gam) (rv:List Int×Int) {x0 l n l1 i} {s:Bool×Bool×Int} {e:Bool×Bool} (h:QaW (fun s=>Qcn x0 l n l1 i s.1 s.2.1 s.2.2) s=some e) (hD:Ql2 Γ rv x0 l n l1 i e.1 e.2):Qm3 Γ rv x0 l n l1 i s.1 s.2.1 s.2.2:=by
 refine QaA (C:=fun (s:Bool×Bool×Int)=>Qm3 Γ rv x0 l n l1 i s.1 s.2.1 s.2.2) (D:=fun (e:Bool×Bool)=>Ql2 Γ rv x0 l n l1 i e.1 e.2) ?_ h hD
 clear h hD s e
 rintro ⟨on_,there,k⟩ z_ h hI hE
 replace h:Qcn x0 l n l1 i on_ there k=_:=h
 unfold Qcn at h
 rcases Qah h with ⟨h2,h⟩|⟨h2,h⟩
 ·obtain ⟨x2,h3,h⟩:=Qae h
  rcases Qah h with ⟨h4,h⟩|⟨h4,h⟩
  ·exact gn 14 [1,2,3,8,9,10,11,12] [0,1] [nL Qaa.enc l,bT h2,cE Qaa.enc h3,bT h4] (hI _ (oJ h))
  ·rcases Qah h with ⟨h5,h⟩|⟨h5,h⟩
   ·exact gn 21 [1,2,3,8,9,10,11,12] [0,1] [nL Qaa.enc l,bT h2,cE Qaa.enc h3,bF h4,bT h5,cE Qaa.enc h3] (hI _ (oJ h))
   ·exact gn 21 [1,2,3,8,9,10,11,12] [0,1] [nL Qaa.enc l,bT h2,cE Qaa.enc h3,bF h4,bF h5] (hI _ (oJ h))
 ·exact gn 5 [1,2,3,8,9,10,11] [0,1] [nL Qaa.enc l,bF h2] (hE _ (oJ h))
theorem Qr5 (Γ:Gam) (rv:List Int×Int) {x0 l n} {s:List (List Int)×Int} {e:List (List Int)} (h:QaW (fun s=>Qcm x0 l n s.1 s.2) s=some e) (hD:Ql1 Γ rv x0 l n e):Qm2 Γ rv x0 l n s.1 s.2:=by
 refine QaA (C:=fun (s:List (List Int)×Int)=>Qm2 Γ rv x0 l n s.1 s.2) (D:=fun (e:List (List Int))=>Ql1 Γ rv x0 l n e) ?_ h hD
 clear h hD s e
 rintro ⟨l1,i⟩ z_ h hI hE
 replace h:Qcm x0 l n l1 i=_:=h
 unfold Qcm at h
 rcases Qah h with ⟨h0,h⟩|⟨h0,h⟩
 ·obtain ⟨x1,h1,h⟩:=Qae h
  obtain ⟨e0,h6,h⟩:=Qae h
  refine gn 14 [1,2,3,8,9,10,11,12] [0,1] [nL Qai.enc x0.orders,bT h0,cE Qai.enc h1] (Qr6 Γ rv h6 ?_)
  obtain ⟨on_1,there1⟩:=e0
  replace h:(br (on_1&&there1) (bnd (getI x0.orders i) fun x3=>chk (okN (l1++[x3.load]).length 24) (some (.inl ((l1++[x3.load]),(addK .i64 i 1))))) (some (.inl (l1,(addK .i64 i 1)))):Option ((List (List Int)×Int)⊕(List (List Int))))=some _:=h
  rcases Qah h with ⟨h7,h⟩|⟨h7,h⟩
  ·obtain ⟨x3,h8,h⟩:=Qae h
   obtain ⟨h9,h⟩:=Qau h
   exact gn 7 [1,2,3,8,9] [0,3] [hP,hP,oR True (on_1=true),bT h7,cE Qai.enc h8,oO (Eq.refl ([x3.load].map Qbq).length),aO Qbq h9] (hI _ (oJ h))
  ·exact gn 7 [1,2,3,8,9] [0,1] [hP,hP,oR True (on_1=true),bF h7] (hI _ (oJ h))
 ·exact gn 5 [3,8] [0,1] [nL Qai.enc x0.orders,bF h0] (hE _ (oJ h))
theorem QoW {x0 l n} {rv:List Int×Int} (h:Qis x0 l n=some rv):AFn Tryz.prog 186 [.agg (Qad.enc x0),.one (lL 2 l Qaa.enc),.one (lI n)] [] (.tup [.one (lL 1 rv.1 QaM),.one (lI rv.2)]) []:=by
 refine QaQ Tryz.func186 (by kernel_rfl) (by kernel_rfl) (fun Γ=>?_)
 unfold Qis at h
 obtain ⟨e1,h10,h⟩:=Qae h
 refine gn 9 [1,2,3,8,9] [0,1] [hW 14,hH (.adopt 8 1 90)] (Qr5 Γ rv h10 ?_)
 obtain ⟨l2,rfl⟩:∃ x,x=e1:=⟨_,rfl⟩
 replace h:(bnd (QhM x0) fun r=>bnd (QiA l2 r) fun r1=>some (r1.1,r1.2):Option (List Int×Int))=some _:=h
 obtain ⟨r,h11,h⟩:=Qae h
 obtain ⟨r1,h12,h⟩:=Qae h
 obtain rfl:=Option.some.inj h
 exact gr 2 [] [cC (QuP h11),hH (.frz 1),rp 2 (eL l2 Qbq),cC (Qvv h12)]
def Qp3 (Γ:Gam) (rv:List (List Int)×Int) (cf:Cf):Prop:=Go Tryz.prog Tryz.f143 [] Γ (.tup [.one (lL 1 rv.1 Qbq),.one (lI rv.2)]) [] cf
def Qm1 (Γ:Gam) (rv:List (List Int)×Int) (x0:Qad) (r:Qac) (l:List (List Int)) (n:Int):Prop:=Qp3 Γ rv ⟨[.c 244,.l 244,.b 0,.c 31],⟨40,[vP 2 0 6,vP 3 1 4,vO 7 2 1 l Qbq,vI 8 n],[oX 6 30 (Qad.enc x0),oX 4 37 (Qac.enc r),oS 1 90 l Qbq]⟩⟩
def Ql0 (Γ:Gam) (rv:List (List Int)×Int) (x0:Qad) (r:Qac) (l1:List (List Int)):Prop:=Qp3 Γ rv ⟨[.c 31],⟨40,[vO 7 0 1 l1 Qbq],[oS 1 90 l1 Qbq]⟩⟩
theorem Qr4 (Γ:Gam) (rv:List (List Int)×Int) {x0 r} {s:List (List Int)×Int} {e:(List (List Int))⊕(List (List Int)×Int)} (h:QaW (fun s=>Qcl x0 r s.1 s.2) s=some e) (hD:sel e (fun e=>Ql0 Γ rv x0 r e) (fun e=>e=rv)):Qm1 Γ rv x0 r s.1 s.2:=by
 refine QaA (C:=fun (s:List (List Int)×Int)=>Qm1 Γ rv x0 r s.1 s.2) (D:=fun (e:(List (List Int))⊕(List (List Int)×Int))=>sel e (fun e=>Ql0 Γ rv x0 r e) (fun e=>e=rv)) ?_ h hD
 clear h hD s e
 rintro ⟨l,n⟩ z_ h hI hE
 replace h:Qcl x0 r l n=_:=h
 unfold Qcl at h
 rcases Qah h with ⟨h2,h⟩|⟨h2,h⟩
 ·obtain ⟨r2,h3,h⟩:=Qae h
  rcases Qah h with ⟨h4,h⟩|⟨h4,h⟩
  ·obtain rfl:=(hE _ (oJ h):_=rv)
   exact gr 15 [] [nL Qaa.enc r.visits,bT h2,cC (QoW h3),bT h4,hW 5,hH (.nilS 4 0 1)]
  ·obtain ⟨h5,h⟩:=Qau h
   exact gn 18 [2,3,7,8] [0,1,4] [nL Qaa.enc r.visits,bT h2,cC (QoW h3),bF h4,oO (Eq.refl ([r2.1].map Qbq).length),aO Qbq h5] (hI _ (oJ h))
 ·exact gn 5 [7] [2] [nL Qaa.enc r.visits,bF h2] (hE _ (oJ h))
theorem QoV {x0 r} {rv:List (List Int)×Int} (h:Qir x0 r=some rv):AFn Tryz.prog 143 [.agg (Qad.enc x0),.agg (Qac.enc r)] [] (.tup [.one (lL 1 rv.1 Qbq),.one (lI rv.2)]) []:=by
 refine QaQ Tryz.func143 (by kernel_rfl) (by kernel_rfl) (fun Γ=>?_)
 unfold Qir at h
 obtain ⟨r1,h0,h⟩:=Qae h
 rcases Qah h with ⟨h1,h⟩|⟨h1,h⟩
 ·obtain rfl:=Option.some.inj h
  exact gr 10 [] [cC (Qh7 h0),bT h1,hW 5,hH (.nilS 4 0 1)]
 ·obtain ⟨e0,h6,h⟩:=Qae h
  refine gn 16 [2,3,7,8] [0,1,2] [cC (Qh7 h0),bF h1,hW 10,hH (.adopt 7 1 90)] (Qr4 Γ rv h6 ?_)
  rcases e0 with e0|e0
  ·obtain ⟨l1,rfl⟩:∃ x,x=e0:=⟨_,rfl⟩
   replace h:(some (l1,0):Option (List (List Int)×Int))=some _:=h
   obtain rfl:=Option.some.inj h
   exact gr 2 [] [hW 5,hH (.frz 0),rp 3 (eL l1 Qbq)]
  ·obtain ⟨r3,rfl⟩:∃ x,x=e0:=⟨_,rfl⟩
   replace h:(some r3:Option (List (List Int)×Int))=some _:=h
   exact Option.some.inj h
def QqR (Γ:Gam) (rv:Bool) (cf:Cf):Prop:=Go Tryz.prog Tryz.f144 [] Γ (one (.bool rv)) [] cf
def QnK (Γ:Gam) (rv:Bool) (a:List Int) (capacity:List Int) (i:Int):Prop:=QqR Γ rv ⟨[.c 116,.l 116,.b 0,.c 15],⟨26,[vL 0 1 a QaM,vL 1 1 capacity QaM,vI 5 i],[]⟩⟩
def QmH (Γ:Gam) (rv:Bool) (a:List Int) (capacity:List Int):Prop:=QqR Γ rv ⟨[.c 15],⟨26,[],[]⟩⟩
theorem QsR (Γ:Gam) (rv:Bool) {a capacity} {s:Int} {e:(Unit)⊕(Bool)} (h:QaW (fun s=>Qdg a capacity s) s=some e) (hD:sel e (fun e=>QmH Γ rv a capacity) (fun e=>e=rv)):QnK Γ rv a capacity s:=by
 refine QaA (C:=fun (s:Int)=>QnK Γ rv a capacity s) (D:=fun (e:(Unit)⊕(Bool))=>sel e (fun e=>QmH Γ rv a capacity) (fun e=>e=rv)) ?_ h hD
 clear h hD s e
 intro i z_ h hI hE
 replace h:Qdg a capacity i=_:=h
 unfold Qdg at h
 rcases Qah h with ⟨h1,h⟩|⟨h1,h⟩
 ·obtain ⟨x0,h2,h⟩:=Qae h
  obtain ⟨x1,h3,h⟩:=Qae h
  rcases Qah h with ⟨h4,h⟩|⟨h4,h⟩
  ·obtain rfl:=(hE _ (oJ h):_=rv)
   exact gr 12 [] [nL QaM a,bT h1,hH (.draw 9 []),cE QaM h2,cE QaM h3,bT h4]
  ·exact gn 14 [0,1,5] [] [nL QaM a,bT h1,hH (.draw 9 []),cE QaM h2,cE QaM h3,bF h4] (hI _ (oJ h))
 ·exact gn 5 [] [] [nL QaM a,bF h1] (hE _ (oJ h))
theorem QpQ {a capacity} {rv:Bool} (h:Qi3 a capacity=some rv):AFn Tryz.prog 144 [.one (lL 1 a QaM),.one (lL 1 capacity QaM)] [] (one (.bool rv)) []:=by
 refine QaQ Tryz.func144 (by kernel_rfl) (by kernel_rfl) (fun Γ=>?_)
 unfold Qi3 at h
 rcases Qah h with ⟨h0,h⟩|⟨h0,h⟩
 ·obtain rfl:=Option.some.inj h
  exact gr 8 [] [nL QaM a,nL QaM capacity,bT h0]
 ·obtain ⟨e0,h5,h⟩:=Qae h
  refine gn 12 [0,1,5] [] [nL QaM a,nL QaM capacity,bF h0] (QsR Γ rv h5 ?_)
  rcases e0 with e0|e0
  ·replace h:(some true:Option Bool)=some _:=h
   obtain rfl:=Option.some.inj h
   exact gr 2 [] []
  ·obtain ⟨r,rfl⟩:∃ x,x=e0:=⟨_,rfl⟩
   replace h:(some r:Option Bool)=some _:=h
   exact Option.some.inj h
def QqV (Γ:Gam) (rv:Int) (cf:Cf):Prop:=Go Tryz.prog Tryz.f98 [] Γ (one (lI rv)) [] cf
def QnS (Γ:Gam) (rv:Int) (x0:Qad) (r:Qac) (r1:List (List Int)×Int) (i:Int):Prop:=QqV Γ rv ⟨[.c 500,.l 500,.b 0,.c 63],⟨47,[vP 2 0 6,vP 3 1 4,vL 5 1 r1.1 Qbq,vI 7 i],[oX 6 30 (Qad.enc x0),oX 4 37 (Qac.enc r)]⟩⟩
def Qm0 (Γ:Gam) (rv:Int) (x0:Qad) (r:Qac) (r1:List (List Int)×Int):Prop:=QqV Γ rv ⟨[.c 63],⟨47,[],[]⟩⟩
theorem QsV (Γ:Gam) (rv:Int) {x0 r r1} {s:Int} {e:(Unit)⊕(Int)} (h:QaW (fun s=>Qdj x0 r r1 s) s=some e) (hD:sel e (fun e=>Qm0 Γ rv x0 r r1) (fun e=>e=rv)):QnS Γ rv x0 r r1 s:=by
 refine QaA (C:=fun (s:Int)=>QnS Γ rv x0 r r1 s) (D:=fun (e:(Unit)⊕(Int))=>sel e (fun e=>Qm0 Γ rv x0 r r1) (fun e=>e=rv)) ?_ h hD
 clear h hD s e
 intro i z_ h hI hE
 replace h:Qdj x0 r r1 i=_:=h
 unfold Qdj at h
 rcases Qah h with ⟨h3,h⟩|⟨h3,h⟩
 ·obtain ⟨x1,h4,h⟩:=Qae h
  obtain ⟨x2,h5,h⟩:=Qae h
  obtain ⟨r2,h6,h⟩:=Qae h
  rcases Qah h with ⟨h7,h⟩|⟨h7,h⟩
  ·exact gn 14 [2,3,5,7] [0,1] [nL Qbq r1.1,bT h3,hH (.draw 13 []),cE Qbq h4,cE Qak.enc h5,cC (QpQ h6),nF h7] (hI _ (oJ h))
  ·obtain rfl:=(hE _ (oJ h):_=rv)
   exact gr 12 [] [nL Qbq r1.1,bT h3,hH (.draw 13 []),cE Qbq h4,cE Qak.enc h5,cC (QpQ h6),nT h7]
 ·exact gn 5 [] [] [nL Qbq r1.1,bF h3] (hE _ (oJ h))
theorem Qk0 {x0 r} {rv:Int} (h:QhL x0 r=some rv):AFn Tryz.prog 98 [.agg (Qad.enc x0),.agg (Qac.enc r)] [] (one (lI rv)) []:=by
 refine QaQ Tryz.func98 (by kernel_rfl) (by kernel_rfl) (fun Γ=>?_)
 unfold QhL at h
 rcases Qah h with ⟨h0,h⟩|⟨h0,h⟩
 ·obtain rfl:=Option.some.inj h
  exact gr 8 [] [rp 5 hP,rp 3 (oI ((ltI r.type_ 0)=false)),nL Qak.enc x0.types,hP,hP,rp 2 (oI ((ltI r.type_ 0)=false)),oR True ((ltI r.type_ 0)=false),bT h0]
 ·obtain ⟨r1,h1,h⟩:=Qae h
  rcases Qah h with ⟨h2,h⟩|⟨h2,h⟩
  ·obtain rfl:=Option.some.inj h
   exact gr 15 [] [rp 5 hP,rp 3 (oI ((ltI r.type_ 0)=false)),nL Qak.enc x0.types,hP,hP,rp 2 (oI ((ltI r.type_ 0)=false)),oR True ((ltI r.type_ 0)=false),bF h0,cC (QoV h1),bT h2]
  ·obtain ⟨e0,h8,h⟩:=Qae h
   refine gn 19 [2,3,5,7] [0,1] [rp 5 hP,rp 3 (oI ((ltI r.type_ 0)=false)),nL Qak.enc x0.types,hP,hP,rp 2 (oI ((ltI r.type_ 0)=false)),oR True ((ltI r.type_ 0)=false),bF h0,cC (QoV h1),bF h2] (QsV Γ rv h8 ?_)
   rcases e0 with e0|e0
   ·replace h:(some 0:Option Int)=some _:=h
    obtain rfl:=Option.some.inj h
    exact gr 2 [] []
   ·obtain ⟨r3,rfl⟩:∃ x,x=e0:=⟨_,rfl⟩
    replace h:(some r3:Option Int)=some _:=h
    exact Option.some.inj h
theorem QiF {x0 v} {rv:Qaw×Bool} (h:QeJ x0 v=some rv):AFn Tryz.prog 187 [.agg (Qad.enc x0),.agg (Qaa.enc v)] [] (.tup [.agg [lI rv.1.place,lI rv.1.open_,lI rv.1.close,lI rv.1.service],.one (.bool rv.2)]) []:=by
 refine QaQ Tryz.func187 (by kernel_rfl) (by kernel_rfl) (fun Γ=>?_)
 unfold QeJ at h
 rcases Qah h with ⟨h0,h⟩|⟨h0,h⟩
 ·obtain rfl:=Option.some.inj h
  exact gr 8 [] [rp 5 hP,rp 3 (oI ((ltI v.order 0)=false)),nL Qai.enc x0.orders,hP,hP,rp 2 (oI ((ltI v.order 0)=false)),oR True ((ltI v.order 0)=false),bT h0]
 ·obtain ⟨x1,h1,h⟩:=Qae h
  rcases Qah h with ⟨h2,h⟩|⟨h2,h⟩
  ·obtain rfl:=Option.some.inj h
   exact gr 16 [] [rp 5 hP,rp 3 (oI ((ltI v.order 0)=false)),nL Qai.enc x0.orders,hP,hP,rp 2 (oI ((ltI v.order 0)=false)),oR True ((ltI v.order 0)=false),bF h0,cE Qai.enc h1,bT h2,cE Qai.enc h1,hH (.draw 6 [(2,4)])]
  ·obtain rfl:=Option.some.inj h
   exact gr 16 [] [rp 5 hP,rp 3 (oI ((ltI v.order 0)=false)),nL Qai.enc x0.orders,hP,hP,rp 2 (oI ((ltI v.order 0)=false)),oR True ((ltI v.order 0)=false),bF h0,cE Qai.enc h1,bF h2,hH (.draw 6 [(2,4)])]
def Qm5 (Γ:Gam) (rv:Bool) (cf:Cf):Prop:=Go Tryz.prog Tryz.f145 [] Γ (one (.bool rv)) [] cf
def Qj8 (Γ:Gam) (rv:Bool) (x0:Qad) (r:Qac) (i:Int):Prop:=Qm5 Γ rv ⟨[.c 116,.l 116,.b 0,.c 15],⟨54,[vP 2 0 6,vP 3 1 4,vI 5 i],[oX 6 30 (Qad.enc x0),oX 4 37 (Qac.enc r)]⟩⟩
def QjM (Γ:Gam) (rv:Bool) (x0:Qad) (r:Qac):Prop:=Qm5 Γ rv ⟨[.c 15],⟨54,[],[]⟩⟩
theorem Qp5 (Γ:Gam) (rv:Bool) {x0 r} {s:Int} {e:(Unit)⊕(Bool)} (h:QaW (fun s=>Qb7 x0 r s) s=some e) (hD:sel e (fun e=>QjM Γ rv x0 r) (fun e=>e=rv)):Qj8 Γ rv x0 r s:=by
 refine QaA (C:=fun (s:Int)=>Qj8 Γ rv x0 r s) (D:=fun (e:(Unit)⊕(Bool))=>sel e (fun e=>QjM Γ rv x0 r) (fun e=>e=rv)) ?_ h hD
 clear h hD s e
 intro i z_ h hI hE
 replace h:Qb7 x0 r i=_:=h
 unfold Qb7 at h
 rcases Qah h with ⟨h1,h⟩|⟨h1,h⟩
 ·obtain ⟨x1,h2,h⟩:=Qae h
  obtain ⟨r1,h3,h⟩:=Qae h
  rcases Qah h with ⟨h4,h⟩|⟨h4,h⟩
  ·exact gn 16 [2,3,5] [0,1] [nL Qaa.enc r.visits,bT h1,hH (.draw 13 [(2,11)]),cE Qaa.enc h2,cC (QiF h3),nF h4] (hI _ (oJ h))
  ·obtain rfl:=(hE _ (oJ h):_=rv)
   exact gr 14 [] [nL Qaa.enc r.visits,bT h1,hH (.draw 13 [(2,11)]),cE Qaa.enc h2,cC (QiF h3),nT h4]
 ·exact gn 5 [] [] [nL Qaa.enc r.visits,bF h1] (hE _ (oJ h))
theorem Qgx {x0 r} {rv:Bool} (h:Qdy x0 r=some rv):AFn Tryz.prog 145 [.agg (Qad.enc x0),.agg (Qac.enc r)] [] (one (.bool rv)) []:=by
 refine QaQ Tryz.func145 (by kernel_rfl) (by kernel_rfl) (fun Γ=>?_)
 unfold Qdy at h
 rcases Qah h with ⟨h0,h⟩|⟨h0,h⟩
 ·obtain rfl:=Option.some.inj h
  exact gr 8 [] [rp 5 hP,rp 3 (oI ((ltI r.type_ 0)=false)),nL Qak.enc x0.types,rp 13 hP,rp 2 (oI ((ltI r.type_ 0)=false)),oR True ((ltI r.type_ 0)=false),rp 2 (oI (((ltI r.type_ 0)||(geI r.type_ (lenI x0.types)))=false)),oR True (((ltI r.type_ 0)||(geI r.type_ (lenI x0.types)))=false),rp 2 (oI ((((ltI r.type_ 0)||(geI r.type_ (lenI x0.types)))||(ltI r.start 0))=false)),oR True ((((ltI r.type_ 0)||(geI r.type_ (lenI x0.types)))||(ltI r.start 0))=false),rp 2 (oI (((((ltI r.type_ 0)||(geI r.type_ (lenI x0.types)))||(ltI r.start 0))||(gtI r.start 4096))=false)),nL Qaa.enc r.visits,hP,hP,oI (((((ltI r.type_ 0)||(geI r.type_ (lenI x0.types)))||(ltI r.start 0))||(gtI r.start 4096))=false),oR True (((((ltI r.type_ 0)||(geI r.type_ (lenI x0.types)))||(ltI r.start 0))||(gtI r.start 4096))=false),bT h0]
 ·obtain ⟨e0,h5,h⟩:=Qae h
  refine gn 12 [2,3,5] [0,1] [rp 5 hP,rp 3 (oI ((ltI r.type_ 0)=false)),nL Qak.enc x0.types,rp 13 hP,rp 2 (oI ((ltI r.type_ 0)=false)),oR True ((ltI r.type_ 0)=false),rp 2 (oI (((ltI r.type_ 0)||(geI r.type_ (lenI x0.types)))=false)),oR True (((ltI r.type_ 0)||(geI r.type_ (lenI x0.types)))=false),rp 2 (oI ((((ltI r.type_ 0)||(geI r.type_ (lenI x0.types)))||(ltI r.start 0))=false)),oR True ((((ltI r.type_ 0)||(geI r.type_ (lenI x0.types)))||(ltI r.start 0))=false),rp 2 (oI (((((ltI r.type_ 0)||(geI r.type_ (lenI x0.types)))||(ltI r.start 0))||(gtI r.start 4096))=false)),nL Qaa.enc r.visits,hP,hP,oI (((((ltI r.type_ 0)||(geI r.type_ (lenI x0.types)))||(ltI r.start 0))||(gtI r.start 4096))=false),oR True (((((ltI r.type_ 0)||(geI r.type_ (lenI x0.types)))||(ltI r.start 0))||(gtI r.start 4096))=false),bF h0] (Qp5 Γ rv h5 ?_)
  rcases e0 with e0|e0
  ·replace h:(some true:Option Bool)=some _:=h
   obtain rfl:=Option.some.inj h
   exact gr 2 [] []
  ·obtain ⟨r2,rfl⟩:∃ x,x=e0:=⟨_,rfl⟩
   replace h:(some r2:Option Bool)=some _:=h
   exact Option.some.inj h
theorem Qp7 {t s0 yes} {rv:Qaz} (h:QhN t s0 yes=some rv):AFn Tryz.prog 203 [.agg (Qak.enc t),.agg (Qaz.enc s0),.one (.bool yes)] [] (gG [lI rv.place,lI rv.time,lI rv.driven,lI rv.miles]) []:=by
 refine QaQ Tryz.func203 (by kernel_rfl) (by kernel_rfl) (fun Γ=>?_)
 unfold QhN at h
 rcases Qah h with ⟨h0,h⟩|⟨h0,h⟩
 ·obtain rfl:=Option.some.inj h
  exact gr 11 [] [bT h0]
 ·obtain rfl:=Option.some.inj h
  exact gr 9 [] [bF h0]
theorem QcK {n p} {rv:Bool} (h:QgZ n p=some rv):AFn Tryz.prog 215 [.agg (Qal.enc n),.one (lI p)] [] (one (.bool rv)) []:=by
 refine QaQ Tryz.func215 (by kernel_rfl) (by kernel_rfl) (fun Γ=>?_)
 unfold QgZ at h
 obtain rfl:=Option.some.inj h
 exact gr 4 [] [rp 4 hP,rp 2 (oI ((geI p 0)=true)),nL QmE n.places,hP,hP,rp 2 (oI ((geI p 0)=true)),oR True ((geI p 0)=true)]
def QqT (Γ:Gam) (rv:Qas×Bool) (cf:Cf):Prop:=Go Tryz.prog Tryz.f216 [] Γ (.tup [.agg [lI rv.1.from_,lI rv.1.to_,lI rv.1.profile,lI rv.1.miles,lL 2 rv.1.travel Qan.enc,lL 2 rv.1.slow Qan.enc],.one (.bool rv.2)]) [] cf
def QnO (Γ:Gam) (rv:Qas×Bool) (n:Qal) (profile:Int) (from_:Int) (to_:Int) (i:Int):Prop:=QqT Γ rv ⟨[.c 52,.l 52,.b 0,.c 7],⟨42,[vI 1 profile,vI 2 from_,vI 3 to_,vP 4 0 2,vP 8 1 6,vI 10 i],[oX 2 25 (Qal.enc n),oX 6 120 [lI 0,lI 0,lI 0,lI 0,.nils,.nils]]⟩⟩
def QmL (Γ:Gam) (rv:Qas×Bool) (n:Qal) (profile:Int) (from_:Int) (to_:Int):Prop:=QqT Γ rv ⟨[.c 7],⟨42,[vP 8 0 6],[oX 6 120 [lI 0,lI 0,lI 0,lI 0,.nils,.nils]]⟩⟩
theorem QsT (Γ:Gam) (rv:Qas×Bool) {n profile from_ to_} {s:Int} {e:(Unit)⊕(Qas×Bool)} (h:QaW (fun s=>QfK n profile from_ to_ s) s=some e) (hD:sel e (fun e=>QmL Γ rv n profile from_ to_) (fun e=>e=rv)):QnO Γ rv n profile from_ to_ s:=by
 refine QaA (C:=fun (s:Int)=>QnO Γ rv n profile from_ to_ s) (D:=fun (e:(Unit)⊕(Qas×Bool))=>sel e (fun e=>QmL Γ rv n profile from_ to_) (fun e=>e=rv)) ?_ h hD
 clear h hD s e
 intro i z_ h hI hE
 replace h:QfK n profile from_ to_ i=_:=h
 unfold QfK at h
 rcases Qah h with ⟨h0,h⟩|⟨h0,h⟩
 ·obtain ⟨x0,h1,h⟩:=Qae h
  rcases Qah h with ⟨h2,h⟩|⟨h2,h⟩
  ·obtain rfl:=(hE _ (oJ h):_=rv)
   exact gr 14 [] [nL Qas.enc n.arcs,bT h0,cE Qas.enc h1,rp 10 hP,rp 3 (oI ((eqI x0.from_ from_)=true)),oR True ((eqI x0.from_ from_)=true),rp 3 (oI (((eqI x0.from_ from_)&&(eqI x0.to_ to_))=true)),oR True (((eqI x0.from_ from_)&&(eqI x0.to_ to_))=true),bT h2]
  ·exact gn 16 [1,2,3,4,8,10] [0,1] [nL Qas.enc n.arcs,bT h0,cE Qas.enc h1,rp 10 hP,rp 3 (oI ((eqI x0.from_ from_)=true)),oR True ((eqI x0.from_ from_)=true),rp 3 (oI (((eqI x0.from_ from_)&&(eqI x0.to_ to_))=true)),oR True (((eqI x0.from_ from_)&&(eqI x0.to_ to_))=true),bF h2] (hI _ (oJ h))
 ·exact gn 5 [8] [1] [nL Qas.enc n.arcs,bF h0] (hE _ (oJ h))
theorem QpT {n profile from_ to_} {rv:Qas×Bool} (h:Qi5 n profile from_ to_=some rv):AFn Tryz.prog 216 [.agg (Qal.enc n),.one (lI profile),.one (lI from_),.one (lI to_)] [] (.tup [.agg [lI rv.1.from_,lI rv.1.to_,lI rv.1.profile,lI rv.1.miles,lL 2 rv.1.travel Qan.enc,lL 2 rv.1.slow Qan.enc],.one (.bool rv.2)]) []:=by
 refine QaQ Tryz.func216 (by kernel_rfl) (by kernel_rfl) (fun Γ=>?_)
 unfold Qi5 at h
 obtain ⟨e0,h3,h⟩:=Qae h
 refine gn 7 [1,2,3,4,8,10] [0,1] [] (QsT Γ rv h3 ?_)
 rcases e0 with e0|e0
 ·replace h:(some ((Qas.mk 0 0 0 0 [] []),false):Option (Qas×Bool))=some _:=h
  obtain rfl:=Option.some.inj h
  exact gr 2 [] [hW 5,hH (.nilB 0 4 2),hH (.nilB 0 5 2)]
 ·obtain ⟨r,rfl⟩:∃ x,x=e0:=⟨_,rfl⟩
  replace h:(some r:Option (Qas×Bool))=some _:=h
  exact Option.some.inj h
def QoQ (Γ:Gam) (rv:Int) (cf:Cf):Prop:=Go Tryz.prog Tryz.f219 [] Γ (one (lI rv)) [] cf
def Qlh (Γ:Gam) (rv:Int) (l:List Qan) (t:Int) (i:Int):Prop:=QoQ Γ rv ⟨[.c 116,.l 116,.b 0,.c 15],⟨93,[vL 0 2 l Qan.enc,vI 1 t,vI 5 i],[]⟩⟩
def Qkw (Γ:Gam) (rv:Int) (l:List Qan) (t:Int):Prop:=QoQ Γ rv ⟨[.c 15],⟨93,[vL 0 2 l Qan.enc,vI 1 t],[]⟩⟩
theorem Qrc (Γ:Gam) (rv:Int) {l t} {s:Int} {e:(Unit)⊕(Int)} (h:QaW (fun s=>Qep l t s) s=some e) (hD:sel e (fun e=>Qkw Γ rv l t) (fun e=>e=rv)):Qlh Γ rv l t s:=by
 refine QaA (C:=fun (s:Int)=>Qlh Γ rv l t s) (D:=fun (e:(Unit)⊕(Int))=>sel e (fun e=>Qkw Γ rv l t) (fun e=>e=rv)) ?_ h hD
 clear h hD s e
 intro i z_ h hI hE
 replace h:Qep l t i=_:=h
 unfold Qep at h
 rcases Qah h with ⟨h2,h⟩|⟨h2,h⟩
 ·obtain ⟨x0,h3,h⟩:=Qae h
  obtain ⟨x1,h4,h⟩:=Qae h
  rcases Qah h with ⟨h5,h⟩|⟨h5,h⟩
  ·obtain ⟨h6,h⟩:=Qau h
   obtain rfl:=(hE _ (oJ h):_=rv)
   exact gr 16 [] [nL Qan.enc l,bT h2,cE Qan.enc h3,cE Qan.enc h4,rp 5 hP,rp 3 (oI ((leI x0.t t)=true)),oR True ((leI x0.t t)=true),bT h5,hH (.draw 27 []),oO (h6)]
  ·exact gn 18 [0,1,5] [] [nL Qan.enc l,bT h2,cE Qan.enc h3,cE Qan.enc h4,rp 5 hP,rp 3 (oI ((leI x0.t t)=true)),oR True ((leI x0.t t)=true),bF h5] (hI _ (oJ h))
 ·exact gn 5 [0,1] [] [nL Qan.enc l,bF h2] (hE _ (oJ h))
theorem Qtz {l t} {rv:Int} (h:Qhz l t=some rv):AFn Tryz.prog 219 [.one (lL 2 l Qan.enc),.one (lI t)] [] (one (lI rv)) []:=by
 refine QaQ Tryz.func219 (by kernel_rfl) (by kernel_rfl) (fun Γ=>?_)
 unfold Qhz at h
 obtain ⟨r,h0,h⟩:=Qae h
 rcases Qah h with ⟨h1,h⟩|⟨h1,h⟩
 ·obtain rfl:=Option.some.inj h
  exact gr 8 [] [cC (QjZ h0),nL Qab.enc r,rp 6 hP,oI ((gtI (lenI r) 0)=false),oR True ((gtI (lenI r) 0)=false),oI (((gtI (lenI r) 0)||(ltI t 0))=false),oR True (((gtI (lenI r) 0)||(ltI t 0))=false),bT h1]
 ·obtain ⟨e0,h7,h⟩:=Qae h
  refine gn 12 [0,1,5] [] [cC (QjZ h0),nL Qab.enc r,rp 6 hP,oI ((gtI (lenI r) 0)=false),oR True ((gtI (lenI r) 0)=false),oI (((gtI (lenI r) 0)||(ltI t 0))=false),oR True (((gtI (lenI r) 0)||(ltI t 0))=false),bF h1] (Qrc Γ rv h7 ?_)
  rcases e0 with e0|e0
  ·replace h:(bnd (getI l 0) fun x2=>br (gtI t x2.t) (bnd (getI l (subK .i64 (lenI l) 1)) fun x3=>some (subK .i64 (addK .i64 t x3.a) x3.t)) (some (subK .i64 (addK .i64 t x2.a) x2.t)):Option Int)=some _:=h
   obtain ⟨x2,h8,h⟩:=Qae h
   rcases Qah h with ⟨h9,h⟩|⟨h9,h⟩
   ·obtain ⟨x3,h10,h⟩:=Qae h
    obtain rfl:=Option.some.inj h
    exact gr 9 [] [cE Qan.enc h8,bT h9,nL Qan.enc l,cE Qan.enc h10]
   ·obtain rfl:=Option.some.inj h
    exact gr 9 [] [cE Qan.enc h8,bF h9]
  ·obtain ⟨r1,rfl⟩:∃ x,x=e0:=⟨_,rfl⟩
   replace h:(some r1:Option Int)=some _:=h
   exact Option.some.inj h
def QoR (Γ:Gam) (rv:Int) (cf:Cf):Prop:=Go Tryz.prog Tryz.f217 [] Γ (one (lI rv)) [] cf
def Qlk (Γ:Gam) (rv:Int) (a:Qas) (t:Int) (n:Int) (i:Int):Prop:=QoR Γ rv ⟨[.c 116,.l 116,.b 0,.c 15],⟨35,[vI 1 t,vP 2 0 6,vI 5 n,vI 6 i],[oX 6 120 (Qas.enc a)]⟩⟩
def Qkx (Γ:Gam) (rv:Int) (a:Qas) (t:Int) (n1:Int):Prop:=QoR Γ rv ⟨[.c 15],⟨35,[vI 5 n1],[]⟩⟩
theorem Qrd (Γ:Gam) (rv:Int) {a t} {s:Int×Int} {e:Int} (h:QaW (fun s=>Qhn a t s.1 s.2) s=some e) (hD:Qkx Γ rv a t e):Qlk Γ rv a t s.1 s.2:=by
 refine QaA (C:=fun (s:Int×Int)=>Qlk Γ rv a t s.1 s.2) (D:=fun (e:Int)=>Qkx Γ rv a t e) ?_ h hD
 clear h hD s e
 rintro ⟨n,i⟩ z_ h hI hE
 replace h:Qhn a t n i=_:=h
 unfold Qhn at h
 rcases Qah h with ⟨h1,h⟩|⟨h1,h⟩
 ·obtain ⟨x0,h2,h⟩:=Qae h
  rcases Qah h with ⟨h3,h⟩|⟨h3,h⟩
  ·exact gn 14 [1,2,5,6] [0] [nL Qan.enc a.slow,bT h1,cE Qan.enc h2,bT h3,cE Qan.enc h2] (hI _ (oJ h))
  ·exact gn 14 [1,2,5,6] [0] [nL Qan.enc a.slow,bT h1,cE Qan.enc h2,bF h3] (hI _ (oJ h))
 ·exact gn 5 [5] [] [nL Qan.enc a.slow,bF h1] (hE _ (oJ h))
theorem QtA {a t} {rv:Int} (h:QhA a t=some rv):AFn Tryz.prog 217 [.agg (Qas.enc a),.one (lI t)] [] (one (lI rv)) []:=by
 refine QaQ Tryz.func217 (by kernel_rfl) (by kernel_rfl) (fun Γ=>?_)
 unfold QhA at h
 obtain ⟨r,h0,h⟩:=Qae h
 obtain ⟨e0,h4,h⟩:=Qae h
 refine gn 9 [1,2,5,6] [0] [cC (Qtz h0)] (Qrd Γ rv h4 ?_)
 obtain ⟨n1,rfl⟩:∃ x,x=e0:=⟨_,rfl⟩
 replace h:(some n1:Option Int)=some _:=h
 obtain rfl:=Option.some.inj h
 exact gr 2 [] []
theorem Qwh {n profile from_ to_ t} {rv:Int×Int×Int} (h:QjC n profile from_ to_ t=some rv):AFn Tryz.prog 213 [.agg (Qal.enc n),.one (lI profile),.one (lI from_),.one (lI to_),.one (lI t)] [] (.tup [.one (lI rv.1),.one (lI rv.2.1),.one (lI rv.2.2)]) []:=by
 refine QaQ Tryz.func213 (by kernel_rfl) (by kernel_rfl) (fun Γ=>?_)
 unfold QjC at h
 obtain ⟨r,h0,h⟩:=Qae h
 rcases Qah h with ⟨h1,h⟩|⟨h1,h⟩
 ·obtain ⟨r1,h2,h⟩:=Qae h
  rcases Qah h with ⟨h3,h⟩|⟨h3,h⟩
  ·rcases Qah h with ⟨h4,h⟩|⟨h4,h⟩
   ·obtain rfl:=Option.some.inj h
    exact gr 13 [] [cC (QcK h0),rp 3 (nF h1),cC (QcK h2),nF h1,nF h1,nF h3,bT h4]
   ·obtain ⟨r2,h5,h⟩:=Qae h
    rcases Qah h with ⟨h6,h⟩|⟨h6,h⟩
    ·obtain ⟨r3,h7,h⟩:=Qae h
     obtain rfl:=Option.some.inj h
     exact gr 21 [] [cC (QcK h0),rp 3 (nF h1),cC (QcK h2),nF h1,nF h1,nF h3,bF h4,cC (QpT h5),nF h6,hH (.draw 8 []),cC (QtA h7)]
    ·obtain rfl:=Option.some.inj h
     exact gr 20 [] [cC (QcK h0),rp 3 (nF h1),cC (QcK h2),nF h1,nF h1,nF h3,bF h4,cC (QpT h5),nT h6]
  ·obtain rfl:=Option.some.inj h
   exact gr 8 [] [cC (QcK h0),rp 3 (nF h1),cC (QcK h2),nF h1,nF h1,nT h3]
 ·obtain rfl:=Option.some.inj h
  exact gr 8 [] [cC (QcK h0),rp 5 (nT h1),tT]
theorem Qjk {x0 profile from_ to_ t} {rv:Int×Int×Bool} (h:Qnn x0 profile from_ to_ t=some rv):AFn Tryz.prog 209 [.agg (Qad.enc x0),.one (lI profile),.one (lI from_),.one (lI to_),.one (lI t)] [] (.tup [.one (lI rv.1),.one (lI rv.2.1),.one (.bool rv.2.2)]) []:=by
 refine QaQ Tryz.func209 (by kernel_rfl) (by kernel_rfl) (fun Γ=>?_)
 unfold Qnn at h
 obtain ⟨r,h0,h⟩:=Qae h
 obtain rfl:=Option.some.inj h
 exact gr 6 [] [cC (Qwh h0)]
theorem QiE {x0 t s0 to_ close late} {rv:Qaz×Int} (h:QdZ x0 t s0 to_ close late=some rv):AFn Tryz.prog 204 [.agg (Qad.enc x0),.agg (Qak.enc t),.agg (Qaz.enc s0),.one (lI to_),.one (lI close),.one (lI late)] [] (.tup [.agg [lI rv.1.place,lI rv.1.time,lI rv.1.driven,lI rv.1.miles],.one (lI rv.2)]) []:=by
 refine QaQ Tryz.func204 (by kernel_rfl) (by kernel_rfl) (fun Γ=>?_)
 unfold QdZ at h
 obtain ⟨r,h0,h⟩:=Qae h
 rcases Qah h with ⟨h1,h⟩|⟨h1,h⟩
 ·rcases Qah h with ⟨h2,h⟩|⟨h2,h⟩
  ·obtain rfl:=Option.some.inj h
   exact gr 15 [] [cC (Qjk h0),nF h1,bT h2]
  ·rcases Qah h with ⟨h3,h⟩|⟨h3,h⟩
   ·obtain rfl:=Option.some.inj h
    exact gr 22 [] [cC (Qjk h0),nF h1,bF h2,bT h3]
   ·obtain rfl:=Option.some.inj h
    exact gr 23 [] [cC (Qjk h0),nF h1,bF h2,bF h3]
 ·obtain rfl:=Option.some.inj h
  exact gr 10 [] [cC (Qjk h0),nT h1]
def Qr7 (Γ:Gam) (rv:Qao×List Int×Int) (cf:Cf):Prop:=Go Tryz.prog Tryz.f188 [] Γ (.tup [.agg [.bool rv.1.rest_,lI rv.1.depart,lL 4 rv.1.times Qaq.enc,lI rv.1.end_,lI rv.1.miles],.one (lL 1 rv.2.1 QaM),.one (lI rv.2.2)]) [] cf
def QoX (Γ:Gam) (rv:Qao×List Int×Int) (x0:Qad) (r:Qac) (rests:List Bool) (x1:Qak) (x2:Bool) (l:List Int) (l1:List Qaq) (x3:Qaz) (depart:Int) (i:Int):Prop:=Qr7 Γ rv ⟨[.c 2036,.l 2036,.b 0,.c 255],⟨161,[vL 2 1 rests QaI,vP 3 0 6,vP 4 1 4,vP 6 2 5,vP 9 3 14,vP 10 4 4,vP 11 5 5,vO 12 6 1 l QaM,vI 13 i],[oX 6 30 (Qad.enc x0),oX 4 37 (Qac.enc r),oX 5 74 [.bool false,lI 0,.nils,lI 0,lI 0],oX 14 94 (Qak.enc x1),oX 4 237 (Qaz.enc x3),oX 5 74 [.bool x2,lI depart,lO 7 4 l1 Qaq.enc,lI 0,lI 0],oS 1 3 l QaM,oS 4 227 l1 Qaq.enc]⟩⟩
def QnU (Γ:Gam) (rv:Qao×List Int×Int) (x0:Qad) (r:Qac) (rests:List Bool) (x1:Qak) (x2:Bool) (l2:List Int) (l3:List Qaq) (x6:Qaz) (depart1:Int):Prop:=Qr7 Γ rv ⟨[.c 255],⟨161,[vP 3 0 6,vP 6 1 5,vP 9 2 14,vP 10 3 4,vP 11 4 5,vO 12 5 1 l2 QaM],[oX 6 30 (Qad.enc x0),oX 5 74 [.bool false,lI 0,.nils,lI 0,lI 0],oX 14 94 (Qak.enc x1),oX 4 237 (Qaz.enc x6),oX 5 74 [.bool x2,lI depart1,lO 6 4 l3 Qaq.enc,lI 0,lI 0],oS 1 3 l2 QaM,oS 4 227 l3 Qaq.enc]⟩⟩
theorem QtD (Γ:Gam) (rv:Qao×List Int×Int) {x0 r rests x1 x2} {s:List Int×List Qaq×Qaz×Int×Int} {e:(List Int×List Qaq×Qaz×Int)⊕(Qao×List Int×Int)} (h:QaW (fun s=>Qgf x0 r rests x1 x2 s.1 s.2.1 s.2.2.1 s.2.2.2.1 s.2.2.2.2) s=some e) (hD:sel e (fun e=>QnU Γ rv x0 r rests x1 x2 e.1 e.2.1 e.2.2.1 e.2.2.2) (fun e=>e=rv)):QoX Γ rv x0 r rests x1 x2 s.1 s.2.1 s.2.2.1 s.2.2.2.1 s.2.2.2.2:=by
 refine QaA (C:=fun (s:List Int×List Qaq×Qaz×Int×Int)=>QoX Γ rv x0 r rests x1 x2 s.1 s.2.1 s.2.2.1 s.2.2.2.1 s.2.2.2.2) (D:=fun (e:(List Int×List Qaq×Qaz×Int)⊕(Qao×List Int×Int))=>sel e (fun e=>QnU Γ rv x0 r rests x1 x2 e.1 e.2.1 e.2.2.1 e.2.2.2) (fun e=>e=rv)) ?_ h hD
 clear h hD s e
 rintro ⟨l,l1,x3,depart,i⟩ z_ h hI hE
 replace h:Qgf x0 r rests x1 x2 l l1 x3 depart i=_:=h
 unfold Qgf at h
 rcases Qah h with ⟨h5,h⟩|⟨h5,h⟩
 ·obtain ⟨x4,h6,h⟩:=Qae h
  obtain ⟨r3,h7,h⟩:=Qae h
  obtain ⟨r4,h8,h⟩:=Qae h
  rcases Qah h with ⟨h9,h⟩|⟨h9,h⟩
  ·obtain rfl:=(hE _ (oJ h):_=rv)
   exact gr 17 [] [nL Qaa.enc r.visits,bT h5,hH (.draw 13 [(8,11)]),cE Qaa.enc h6,cC (QiF h7),cC (QiE h8),bT h9,hW 7,hH (.nilB 2 2 4),hH (.nilS 7 0 1)]
  ·obtain ⟨h10,h⟩:=Qau h
   obtain ⟨x5,h11,h⟩:=Qae h
   obtain ⟨r5,h12,h⟩:=Qae h
   obtain ⟨h13,h⟩:=Qau h
   exact gn 30 [2,3,4,6,9,10,11,12,13] [0,1,2,3,4,5,11,14] [nL Qaa.enc r.visits,bT h5,hH (.draw 13 [(8,11)]),cE Qaa.enc h6,cC (QiF h7),cC (QiE h8),bF h9,oO (Eq.refl ([r4.1.driven].map QaM).length),aO QaM h10,hH (.draw 14 []),cE QaI h11,hH (.draw 8 []),cE QaI h11,cC (Qp7 h12),oO (Eq.refl ([(Qaq.mk r4.1.time (maxI r4.1.time r3.1.open_) r5.time x5)].map Qaq.enc).length),aO Qaq.enc h13] (hI _ (oJ h))
 ·exact gn 5 [3,6,9,10,11,12] [0,2,3,4,5,6,7] [nL Qaa.enc r.visits,bF h5] (hE _ (oJ h))
theorem Qvw {x0 r rests} {rv:Qao×List Int×Int} (h:QiD x0 r rests=some rv):AFn Tryz.prog 188 [.agg (Qad.enc x0),.agg (Qac.enc r),.one (lL 1 rests QaI)] [] (.tup [.agg [.bool rv.1.rest_,lI rv.1.depart,lL 4 rv.1.times Qaq.enc,lI rv.1.end_,lI rv.1.miles],.one (lL 1 rv.2.1 QaM),.one (lI rv.2.2)]) []:=by
 refine QaQ Tryz.func188 (by kernel_rfl) (by kernel_rfl) (fun Γ=>?_)
 unfold QiD at h
 obtain ⟨r1,h0,h⟩:=Qae h
 rcases Qah h with ⟨h1,h⟩|⟨h1,h⟩
 ·obtain rfl:=Option.some.inj h
  exact gr 8 [] [cC (Qgx h0),hP,hP,oI ((!r1)=false),nL QaI rests,hP,hP,hP,rp 2 (oI ((!r1)=false)),nL Qaa.enc r.visits,hP,hP,hP,rp 3 (oI ((!r1)=false)),oR True ((!r1)=false),bT h1,hW 6,hH (.nilB 2 2 4),hH (.nilS 7 0 1)]
 ·obtain ⟨x1,h2,h⟩:=Qae h
  obtain ⟨x2,h3,h⟩:=Qae h
  obtain ⟨r2,h4,h⟩:=Qae h
  obtain ⟨e0,h14,h⟩:=Qae h
  refine gn 20 [2,3,4,6,9,10,11,12,13] [0,1,2,3,4,5,6,7] [cC (Qgx h0),hP,hP,oI ((!r1)=false),nL QaI rests,hP,hP,hP,rp 2 (oI ((!r1)=false)),nL Qaa.enc r.visits,hP,hP,hP,rp 3 (oI ((!r1)=false)),oR True ((!r1)=false),bF h1,cE Qak.enc h2,hH (.draw 14 []),cE QaI h3,cC (Qp7 h4),hH (.draw 7 []),cE QaI h3,hW 10,hH (.adopt 12 1 3),hH (.adoptB 5 2 4 227)] (QtD Γ rv h14 ?_)
  rcases e0 with e0|e0
  ·obtain ⟨l2,l3,x6,depart1⟩:=e0
   replace h:(bnd (QdZ x0 x1 x6 x1.to_ x1.close 15) fun r6=>br (neI r6.2 0) (some ((Qao.mk false 0 [] 0 0),[],r6.2)) (chk (okN (l2++[r6.1.driven]).length 8) (some ((Qao.mk x2 depart1 l3 r6.1.time r6.1.miles),(l2++[r6.1.driven]),0))):Option (Qao×List Int×Int))=some _:=h
   obtain ⟨r6,h15,h⟩:=Qae h
   rcases Qah h with ⟨h16,h⟩|⟨h16,h⟩
   ·obtain rfl:=Option.some.inj h
    exact gr 8 [] [cC (QiE h15),bT h16,hW 7,hH (.nilB 1 2 4),hH (.nilS 7 0 1)]
   ·obtain ⟨h17,h⟩:=Qau h
    obtain rfl:=Option.some.inj h
    exact gr 15 [] [cC (QiE h15),bF h16,oO (Eq.refl ([r6.1.driven].map QaM).length),aO QaM h17,hW 20,hH (.frz 6),hH (.frz 9),rp 3 (eL l3 Qaq.enc),rp 4 (oO (Eq.refl ((l2++[r6.1.driven]).map QaM).length))]
  ·obtain ⟨r7,rfl⟩:∃ x,x=e0:=⟨_,rfl⟩
   replace h:(some r7:Option (Qao×List Int×Int))=some _:=h
   exact Option.some.inj h
theorem Qmp {x0 r rests} {rv:Qao×Int} (h:Qft x0 r rests=some rv):AFn Tryz.prog 146 [.agg (Qad.enc x0),.agg (Qac.enc r),.one (lL 1 rests QaI)] [] (.tup [.agg [.bool rv.1.rest_,lI rv.1.depart,lL 4 rv.1.times Qaq.enc,lI rv.1.end_,lI rv.1.miles],.one (lI rv.2)]) []:=by
 refine QaQ Tryz.func146 (by kernel_rfl) (by kernel_rfl) (fun Γ=>?_)
 unfold Qft at h
 obtain ⟨r1,h0,h⟩:=Qae h
 obtain rfl:=Option.some.inj h
 exact gr 6 [] [cC (Qvw h0)]
def QqW (Γ:Gam) (rv:List Bool×Bool) (cf:Cf):Prop:=Go Tryz.prog Tryz.f147 [] Γ (.tup [.one (lL 1 rv.1 QaI),.one (.bool rv.2)]) [] cf
def QnT (Γ:Gam) (rv:List Bool×Bool) (n:Int) (l:List Bool) (i:Int):Prop:=QqW Γ rv ⟨[.c 244,.l 244,.b 0,.c 31],⟨31,[vI 1 n,vO 6 0 1 l QaI,vI 7 i],[oS 1 4 l QaI]⟩⟩
def Qm6 (Γ:Gam) (rv:List Bool×Bool) (n:Int):Prop:=QqW Γ rv ⟨[.c 31],⟨31,[],[]⟩⟩
theorem QsX (Γ:Gam) (rv:List Bool×Bool) {n} {s:List Bool×Int} {e:(Unit)⊕(List Bool×Bool)} (h:QaW (fun s=>QfO n s.1 s.2) s=some e) (hD:sel e (fun e=>Qm6 Γ rv n) (fun e=>e=rv)):QnT Γ rv n s.1 s.2:=by
 refine QaA (C:=fun (s:List Bool×Int)=>QnT Γ rv n s.1 s.2) (D:=fun (e:(Unit)⊕(List Bool×Bool))=>sel e (fun e=>Qm6 Γ rv n) (fun e=>e=rv)) ?_ h hD
 clear h hD s e
 rintro ⟨l,i⟩ z_ h hI hE
 replace h:QfO n l i=_:=h
 unfold QfO at h
 rcases Qah h with ⟨h1,h⟩|⟨h1,h⟩
 ·obtain ⟨x0,h2,h⟩:=Qae h
  rcases Qah h with ⟨h3,h⟩|⟨h3,h⟩
  ·exact gn 16 [1,6,7] [0] [bT h1,oO (Qxi h2),oO (Qxh QaI h2),rE QaI h2,nF h3,oO (Qxi h2),oO (Qxh QaI h2),rE QaI h2,hH (.rows ((setI l i false).map QaI)),hH (.relen 0 ((setI l i false).map QaI).length),oO (setM QaI l i false),rp 3 (oO (QA9 QaI l i false))] (hI _ (oJ h))
  ·obtain rfl:=(hE _ (oJ h):_=rv)
   exact gr 15 [] [bT h1,oO (Qxi h2),oO (Qxh QaI h2),rE QaI h2,nT h3,oO (Qxi h2),oO (Qxh QaI h2),rE QaI h2,hH (.rows ((setI l i true).map QaI)),hH (.relen 0 ((setI l i true).map QaI).length),hW 5,hH (.frz 0),oO (setM QaI l i true),rp 3 (oO (QA9 QaI l i true)),rp 5 (oO (Eq.refl ((setI l i true).map QaI).length))]
 ·exact gn 5 [] [] [bF h1] (hE _ (oJ h))
theorem Qp6 {rests n} {rv:List Bool×Bool} (h:QgO rests n=some rv):AFn Tryz.prog 147 [.one (lL 1 rests QaI),.one (lI n)] [] (.tup [.one (lL 1 rv.1 QaI),.one (.bool rv.2)]) []:=by
 refine QaQ Tryz.func147 (by kernel_rfl) (by kernel_rfl) (fun Γ=>?_)
 unfold QgO at h
 obtain ⟨h0,h⟩:=Qau h
 obtain ⟨e0,h4,h⟩:=Qae h
 refine gn 11 [1,6,7] [0] [aN QaI h0,nL QaI rests] (QsX Γ rv h4 ?_)
 rcases e0 with e0|e0
 ·replace h:(some ([],false):Option (List Bool×Bool))=some _:=h
  obtain rfl:=Option.some.inj h
  exact gr 2 [] [hW 4,hH (.nilS 4 0 1)]
 ·obtain ⟨r,rfl⟩:∃ x,x=e0:=⟨_,rfl⟩
  replace h:(some r:Option (List Bool×Bool))=some _:=h
  exact Option.some.inj h
def Qmo (Γ:Gam) (rv:Qao×Int) (cf:Cf):Prop:=Go Tryz.prog Tryz.f99 [] Γ (.tup [.agg [.bool rv.1.rest_,lI rv.1.depart,lL 4 rv.1.times Qaq.enc,lI rv.1.end_,lI rv.1.miles],.one (lI rv.2)]) [] cf
def Qju (Γ:Gam) (rv:Qao×Int) (x0:Qad) (r:Qac) (l:List Bool) (r2:Qao×Int) (rests:List Bool) (x1:Qao) (rests1:List Bool) (found:Bool) (more:Bool):Prop:=Qmo Γ rv ⟨[.c 4088,.l 4088,.b 0,.c 1023],⟨88,[vP 2 0 6,vP 3 1 4,vP 4 2 5,vL 7 1 rests1 QaI,vP 8 3 5,vI 9 r2.2,vB 10 found,vB 11 more],[oX 6 30 (Qad.enc x0),oX 4 37 [lI r.type_,lI r.start,lL 1 rests QaI,lL 2 r.visits Qaa.enc],oX 5 74 [.bool false,lI 0,.nils,lI 0,lI 0],oX 5 74 (Qao.enc x1)]⟩⟩
def QiY (Γ:Gam) (rv:Qao×Int) (x0:Qad) (r:Qac) (l:List Bool) (r2:Qao×Int) (x3:Qao) (found2:Bool):Prop:=Qmo Γ rv ⟨[.c 1023],⟨88,[vP 4 0 5,vP 8 1 5,vI 9 r2.2,vB 10 found2],[oX 5 74 [.bool false,lI 0,.nils,lI 0,lI 0],oX 5 74 (Qao.enc x3)]⟩⟩
theorem Qm4 (Γ:Gam) (rv:Qao×Int) {x0 r l r2 rests rests1 x2 found1} {x:(List Bool×Qao×List Bool×Bool×Bool)⊕(Qao×Bool)} (h:Qg9 x0 r l r2 rests rests1 x2 found1=some x) (hI:∀ s:List Bool×Qao×List Bool×Bool×Bool,x=.inl s→Qju Γ rv x0 r l r2 s.1 s.2.1 s.2.2.1 s.2.2.2.1 s.2.2.2.2) (hE:∀ e:Qao×Bool,x=.inr e→QiY Γ rv x0 r l r2 e.1 e.2):Qmo Γ rv ⟨[.c 65419,.b 1,.l 4088,.b 0,.c 1023],⟨88,[vP 2 0 6,vP 3 1 4,vP 4 2 5,vL 7 1 rests1 QaI,vP 8 3 5,vI 9 r2.2,vB 10 found1],[oX 6 30 (Qad.enc x0),oX 4 37 [lI r.type_,lI r.start,lL 1 rests QaI,lL 2 r.visits Qaa.enc],oX 5 74 [.bool false,lI 0,.nils,lI 0,lI 0],oX 5 74 (Qao.enc x2)]⟩⟩:=by
 unfold Qg9 at h
 obtain ⟨r5,h8,h⟩:=Qae h
 exact gn 3 [2,3,4,7,8,9,10,11] [0,1,2,3] [nL QaI rests,cC (Qp6 h8)] (hI _ (oJ h))
theorem QsW (Γ:Gam) (rv:Qao×Int) {x0 r l r2} {s:List Bool×Qao×List Bool×Bool×Bool} {e:Qao×Bool} (h:QaW (fun s=>QfN x0 r l r2 s.1 s.2.1 s.2.2.1 s.2.2.2.1 s.2.2.2.2) s=some e) (hD:QiY Γ rv x0 r l r2 e.1 e.2):Qju Γ rv x0 r l r2 s.1 s.2.1 s.2.2.1 s.2.2.2.1 s.2.2.2.2:=by
 refine QaA (C:=fun (s:List Bool×Qao×List Bool×Bool×Bool)=>Qju Γ rv x0 r l r2 s.1 s.2.1 s.2.2.1 s.2.2.2.1 s.2.2.2.2) (D:=fun (e:Qao×Bool)=>QiY Γ rv x0 r l r2 e.1 e.2) ?_ h hD
 clear h hD s e
 rintro ⟨rests,x1,rests1,found,more⟩ z_ h hI hE
 replace h:QfN x0 r l r2 rests x1 rests1 found more=_:=h
 unfold QfN at h
 rcases Qah h with ⟨h5,h⟩|⟨h5,h⟩
 ·obtain ⟨r4,h6,h⟩:=Qae h
  rcases Qah h with ⟨h7,h⟩|⟨h7,h⟩
  ·exact gn 15 [2,3,4,7,8,9,10] [0,1,2,3] [bT h5,cC (Qmp h6),rp 11 hP,rp 2 (oI ((eqI r4.2 0)=true)),rp 4 (oI (((eqI r4.2 0)=true)∧(!found)=false)),oI ((eqI r4.2 0)=true),oI (((eqI r4.2 0)=true)∧(!found)=false),oR True ((eqI r4.2 0)=true),bT h7] (Qm4 Γ rv h hI hE)
  ·exact gn 13 [2,3,4,7,8,9,10] [0,1,2,3] [bT h5,cC (Qmp h6),rp 11 hP,rp 2 (oI ((eqI r4.2 0)=true)),rp 4 (oI (((eqI r4.2 0)=true)∧(!found)=false)),oI ((eqI r4.2 0)=true),oI (((eqI r4.2 0)=true)∧(!found)=false),oR True ((eqI r4.2 0)=true),bF h7] (Qm4 Γ rv h hI hE)
 ·exact gn 5 [4,8,9,10] [2,3] [bF h5] (hE _ (oJ h))
theorem Qp4 {x0 r} {rv:Qao×Int} (h:QgN x0 r=some rv):AFn Tryz.prog 99 [.agg (Qad.enc x0),.agg (Qac.enc r)] [] (.tup [.agg [.bool rv.1.rest_,lI rv.1.depart,lL 4 rv.1.times Qaq.enc,lI rv.1.end_,lI rv.1.miles],.one (lI rv.2)]) []:=by
 refine QaQ Tryz.func99 (by kernel_rfl) (by kernel_rfl) (fun Γ=>?_)
 unfold QgN at h
 obtain ⟨r1,h0,h⟩:=Qae h
 rcases Qah h with ⟨h1,h⟩|⟨h1,h⟩
 ·obtain rfl:=Option.some.inj h
  exact gr 10 [] [nL Qaa.enc r.visits,cC (Qgx h0),hP,hP,hP,rp 2 (oI ((!r1)=false)),nL QaI r.rests,hP,hP,hP,rp 2 (oI ((!r1)=false)),oR True ((!r1)=false),bT h1,hW 5,hH (.nilB 2 2 4)]
 ·obtain ⟨l,h2,h⟩:=Qae h
  obtain ⟨r2,h3,h⟩:=Qae h
  obtain ⟨r3,h4,h⟩:=Qae h
  obtain ⟨e0,h9,h⟩:=Qae h
  refine gn 22 [2,3,4,7,8,9,10,11] [0,1,2,4] [nL Qaa.enc r.visits,cC (Qgx h0),hP,hP,hP,rp 2 (oI ((!r1)=false)),nL QaI r.rests,hP,hP,hP,rp 2 (oI ((!r1)=false)),oR True ((!r1)=false),bF h1,hH (.cells [.bool false]),hH (.rows (l.map QaI)),oO (mk1 h2),oO (mk2 h2),oO (mk3 h2),oO (mk4 h2),oO (mk5 QaI h2),cY QaI l r.rests,hH (.relen 3 ((cpyL l r.rests).map QaI).length),hW 5,hH (.frz 3),rp 3 (oO (QHd QaI l r.rests)),rp 4 (oO (Eq.refl ((cpyL l r.rests).map QaI).length)),cC (Qmp h3),nL QaI r.rests,cC (Qp6 h4)] (QsW Γ rv h9 ?_)
  obtain ⟨x3,found2⟩:=e0
  replace h:(br found2 (some (x3,0)) (some ((Qao.mk false 0 [] 0 0),r2.2)):Option (Qao×Int))=some _:=h
  rcases Qah h with ⟨h10,h⟩|⟨h10,h⟩
  ·obtain rfl:=Option.some.inj h
   exact gr 7 [] [nF h10]
  ·obtain rfl:=Option.some.inj h
   exact gr 6 [] [nT h10,hW 6,hH (.nilB 0 2 4)]
def QoZ (Γ:Gam) (rv:Bool) (cf:Cf):Prop:=Go Tryz.prog Tryz.f148 [] Γ (one (.bool rv)) [] cf
def Ql4 (Γ:Gam) (rv:Bool) (l:List Qaa) (at_:Int) (i:Int):Prop:=QoZ Γ rv ⟨[.c 52,.l 52,.b 0,.c 7],⟨22,[vL 0 2 l Qaa.enc,vI 1 at_,vI 5 i],[]⟩⟩
def QkO (Γ:Gam) (rv:Bool) (l:List Qaa) (at_:Int):Prop:=QoZ Γ rv ⟨[.c 7],⟨22,[],[]⟩⟩
theorem Qrm (Γ:Gam) (rv:Bool) {l at_} {s:Int} {e:(Unit)⊕(Bool)} (h:QaW (fun s=>Qcz l at_ s) s=some e) (hD:sel e (fun e=>QkO Γ rv l at_) (fun e=>e=rv)):Ql4 Γ rv l at_ s:=by
 refine QaA (C:=fun (s:Int)=>Ql4 Γ rv l at_ s) (D:=fun (e:(Unit)⊕(Bool))=>sel e (fun e=>QkO Γ rv l at_) (fun e=>e=rv)) ?_ h hD
 clear h hD s e
 intro i z_ h hI hE
 replace h:Qcz l at_ i=_:=h
 unfold Qcz at h
 rcases Qah h with ⟨h0,h⟩|⟨h0,h⟩
 ·obtain ⟨x0,h1,h⟩:=Qae h
  obtain ⟨x1,h2,h⟩:=Qae h
  rcases Qah h with ⟨h3,h⟩|⟨h3,h⟩
  ·obtain rfl:=(hE _ (oJ h):_=rv)
   exact gr 12 [] [bT h0,hH (.draw 11 []),cE Qaa.enc h1,cE Qaa.enc h2,bT h3]
  ·exact gn 14 [0,1,5] [] [bT h0,hH (.draw 11 []),cE Qaa.enc h1,cE Qaa.enc h2,bF h3] (hI _ (oJ h))
 ·exact gn 5 [] [] [bF h0] (hE _ (oJ h))
theorem Qeu {l at_} {rv:Bool} (h:QhF l at_=some rv):AFn Tryz.prog 148 [.one (lL 2 l Qaa.enc),.one (lI at_)] [] (one (.bool rv)) []:=by
 refine QaQ Tryz.func148 (by kernel_rfl) (by kernel_rfl) (fun Γ=>?_)
 unfold QhF at h
 obtain ⟨e0,h4,h⟩:=Qae h
 refine gn 7 [0,1,5] [] [] (Qrm Γ rv h4 ?_)
 rcases e0 with e0|e0
 ·replace h:(some true:Option Bool)=some _:=h
  obtain rfl:=Option.some.inj h
  exact gr 2 [] []
 ·obtain ⟨r,rfl⟩:∃ x,x=e0:=⟨_,rfl⟩
  replace h:(some r:Option Bool)=some _:=h
  exact Option.some.inj h
def Qk1 (Γ:Gam) (rv:QaE) (cf:Cf):Prop:=Go Tryz.prog Tryz.f100 [] Γ (gG [lI rv.cost,lI rv.moved,lI rv.other,lI rv.work]) [] cf
def QiZ (Γ:Gam) (rv:QaE) (x0:Qad) (r:Qac) (s0:Qao) (x1:Qak) (moved:Int) (other:Int) (i:Int):Prop:=Qk1 Γ rv ⟨[.c 1012,.l 1012,.b 0,.c 127],⟨128,[vP 3 0 6,vP 4 1 4,vP 6 2 4,vP 9 3 4,vI 10 i],[oX 6 30 (Qad.enc x0),oX 4 37 (Qac.enc r),oX 4 76 [lI 0,lI 0,lI 0,lI 0],oX 4 76 [lI (addK .i64 (addK .i64 x1.fixed (mulK .i64 x1.perMile s0.miles)) (mulK .i64 x1.perTick (subK .i64 s0.end_ x1.open_))),lI moved,lI other,lI (mulK .i64 (quoK .i64 (subK .i64 s0.end_ x1.open_) 64) (quoK .i64 (subK .i64 s0.end_ x1.open_) 64))]]⟩⟩
def Qit (Γ:Gam) (rv:QaE) (x0:Qad) (r:Qac) (s0:Qao) (x1:Qak) (moved2:Int) (other1:Int):Prop:=Qk1 Γ rv ⟨[.c 127],⟨128,[vP 6 0 4,vP 9 1 4],[oX 4 76 [lI 0,lI 0,lI 0,lI 0],oX 4 76 [lI (addK .i64 (addK .i64 x1.fixed (mulK .i64 x1.perMile s0.miles)) (mulK .i64 x1.perTick (subK .i64 s0.end_ x1.open_))),lI moved2,lI other1,lI (mulK .i64 (quoK .i64 (subK .i64 s0.end_ x1.open_) 64) (quoK .i64 (subK .i64 s0.end_ x1.open_) 64))]]⟩⟩
theorem Ql3 (Γ:Gam) (rv:QaE) {x0 r s0 x1 other i x2 moved1} {x:(Int×Int×Int)⊕(Int×Int)} (h:Qgy x0 r s0 x1 other i x2 moved1=some x) (hI:∀ s:Int×Int×Int,x=.inl s→QiZ Γ rv x0 r s0 x1 s.1 s.2.1 s.2.2) (hE:∀ e:Int×Int,x=.inr e→Qit Γ rv x0 r s0 x1 e.1 e.2):Qk1 Γ rv ⟨[.c 64807,.b 1,.c 4051,.l 1012,.b 0,.c 127],⟨128,[vP 3 0 6,vP 4 1 4,vP 6 2 4,vP 9 3 4,vI 10 i,vI 11 x2.order],[oX 6 30 (Qad.enc x0),oX 4 37 (Qac.enc r),oX 4 76 [lI 0,lI 0,lI 0,lI 0],oX 4 76 [lI (addK .i64 (addK .i64 x1.fixed (mulK .i64 x1.perMile s0.miles)) (mulK .i64 x1.perTick (subK .i64 s0.end_ x1.open_))),lI moved1,lI other,lI (mulK .i64 (quoK .i64 (subK .i64 s0.end_ x1.open_) 64) (quoK .i64 (subK .i64 s0.end_ x1.open_) 64))]]⟩⟩:=by
 unfold Qgy at h
 obtain ⟨x4,h10,h⟩:=Qae h
 rcases Qah h with ⟨h11,h⟩|⟨h11,h⟩
 ·rcases Qah h with ⟨h12,h⟩|⟨h12,h⟩
  ·exact gn 7 [3,4,6,9,10] [0,1,2,3] [hH (.draw 18 []),cE Qai.enc h10,rp 4 (bT h11),cE Qai.enc h10,rp 6 (bT h11),bT h12] (hI _ (oJ h))
  ·exact gn 7 [3,4,6,9,10] [0,1,2,3] [hH (.draw 18 []),cE Qai.enc h10,rp 4 (bT h11),cE Qai.enc h10,rp 6 (bT h11),bF h12] (hI _ (oJ h))
 ·exact gn 7 [3,4,6,9,10] [0,1,2,3] [hH (.draw 18 []),cE Qai.enc h10,rp 10 (bF h11),fF] (hI _ (oJ h))
theorem Qr8 (Γ:Gam) (rv:QaE) {x0 r s0 x1} {s:Int×Int×Int} {e:Int×Int} (h:QaW (fun s=>Qco x0 r s0 x1 s.1 s.2.1 s.2.2) s=some e) (hD:Qit Γ rv x0 r s0 x1 e.1 e.2):QiZ Γ rv x0 r s0 x1 s.1 s.2.1 s.2.2:=by
 refine QaA (C:=fun (s:Int×Int×Int)=>QiZ Γ rv x0 r s0 x1 s.1 s.2.1 s.2.2) (D:=fun (e:Int×Int)=>Qit Γ rv x0 r s0 x1 e.1 e.2) ?_ h hD
 clear h hD s e
 rintro ⟨moved,other,i⟩ z_ h hI hE
 replace h:Qco x0 r s0 x1 moved other i=_:=h
 unfold Qco at h
 rcases Qah h with ⟨h2,h⟩|⟨h2,h⟩
 ·obtain ⟨x2,h3,h⟩:=Qae h
  rcases Qah h with ⟨h4,h⟩|⟨h4,h⟩
  ·exact gn 16 [3,4,6,9,10] [0,1,2,3] [nL Qaa.enc r.visits,bT h2,cE Qaa.enc h3,rp 4 hP,rp 2 (oI ((ltI x2.order 0)=false)),nL Qai.enc x0.orders,hP,hP,rp 2 (oI ((ltI x2.order 0)=false)),oR True ((ltI x2.order 0)=false),rp 6 (bT h4),tT] (hI _ (oJ h))
  ·obtain ⟨r1,h5,h⟩:=Qae h
   rcases Qah h with ⟨h6,h⟩|⟨h6,h⟩
   ·obtain ⟨x3,h7,h⟩:=Qae h
    rcases Qah h with ⟨h8,h⟩|⟨h8,h⟩
    ·rcases Qah h with ⟨h9,h⟩|⟨h9,h⟩
     ·exact gn 19 [3,4,6,9,10,11] [0,1,2,3] [nL Qaa.enc r.visits,bT h2,cE Qaa.enc h3,rp 4 hP,rp 2 (oI ((ltI x2.order 0)=false)),nL Qai.enc x0.orders,hP,hP,rp 2 (oI ((ltI x2.order 0)=false)),oR True ((ltI x2.order 0)=false),rp 4 (bF h4),cC (Qeu h5),bF h4,bF h4,nF h6,hH (.draw 18 []),cE Qai.enc h7,rp 4 (bT h8),cE Qai.enc h7,rp 6 (bT h8),bT h9] (Ql3 Γ rv h hI hE)
     ·exact gn 19 [3,4,6,9,10,11] [0,1,2,3] [nL Qaa.enc r.visits,bT h2,cE Qaa.enc h3,rp 4 hP,rp 2 (oI ((ltI x2.order 0)=false)),nL Qai.enc x0.orders,hP,hP,rp 2 (oI ((ltI x2.order 0)=false)),oR True ((ltI x2.order 0)=false),rp 4 (bF h4),cC (Qeu h5),bF h4,bF h4,nF h6,hH (.draw 18 []),cE Qai.enc h7,rp 4 (bT h8),cE Qai.enc h7,rp 6 (bT h8),bF h9] (Ql3 Γ rv h hI hE)
    ·rcases Qah h with ⟨h13,h⟩|⟨h13,h⟩
     ·rcases Qah h with ⟨h14,h⟩|⟨h14,h⟩
      ·exact gn 26 [3,4,6,9,10] [0,1,2,3] [nL Qaa.enc r.visits,bT h2,cE Qaa.enc h3,rp 4 hP,rp 2 (oI ((ltI x2.order 0)=false)),nL Qai.enc x0.orders,hP,hP,rp 2 (oI ((ltI x2.order 0)=false)),oR True ((ltI x2.order 0)=false),rp 4 (bF h4),cC (Qeu h5),bF h4,bF h4,nF h6,hH (.draw 18 []),cE Qai.enc h7,rp 10 (bF h8),fF,hH (.draw 18 []),cE Qai.enc h7,rp 4 (bT h13),cE Qai.enc h7,rp 6 (bT h13),bT h14] (hI _ (oJ h))
      ·exact gn 26 [3,4,6,9,10] [0,1,2,3] [nL Qaa.enc r.visits,bT h2,cE Qaa.enc h3,rp 4 hP,rp 2 (oI ((ltI x2.order 0)=false)),nL Qai.enc x0.orders,hP,hP,rp 2 (oI ((ltI x2.order 0)=false)),oR True ((ltI x2.order 0)=false),rp 4 (bF h4),cC (Qeu h5),bF h4,bF h4,nF h6,hH (.draw 18 []),cE Qai.enc h7,rp 10 (bF h8),fF,hH (.draw 18 []),cE Qai.enc h7,rp 4 (bT h13),cE Qai.enc h7,rp 6 (bT h13),bF h14] (hI _ (oJ h))
     ·exact gn 26 [3,4,6,9,10] [0,1,2,3] [nL Qaa.enc r.visits,bT h2,cE Qaa.enc h3,rp 4 hP,rp 2 (oI ((ltI x2.order 0)=false)),nL Qai.enc x0.orders,hP,hP,rp 2 (oI ((ltI x2.order 0)=false)),oR True ((ltI x2.order 0)=false),rp 4 (bF h4),cC (Qeu h5),bF h4,bF h4,nF h6,hH (.draw 18 []),cE Qai.enc h7,rp 10 (bF h8),fF,hH (.draw 18 []),cE Qai.enc h7,rp 10 (bF h13),fF] (hI _ (oJ h))
   ·exact gn 16 [3,4,6,9,10] [0,1,2,3] [nL Qaa.enc r.visits,bT h2,cE Qaa.enc h3,rp 4 hP,rp 2 (oI ((ltI x2.order 0)=false)),nL Qai.enc x0.orders,hP,hP,rp 2 (oI ((ltI x2.order 0)=false)),oR True ((ltI x2.order 0)=false),rp 4 (bF h4),cC (Qeu h5),bF h4,bF h4,nT h6] (hI _ (oJ h))
 ·exact gn 5 [6,9] [2,3] [nL Qaa.enc r.visits,bF h2] (hE _ (oJ h))
theorem Qui {x0 r s0} {rv:QaE} (h:Qha x0 r s0=some rv):AFn Tryz.prog 100 [.agg (Qad.enc x0),.agg (Qac.enc r),.agg (Qao.enc s0)] [] (gG [lI rv.cost,lI rv.moved,lI rv.other,lI rv.work]) []:=by
 refine QaQ Tryz.func100 (by kernel_rfl) (by kernel_rfl) (fun Γ=>?_)
 unfold Qha at h
 rcases Qah h with ⟨h0,h⟩|⟨h0,h⟩
 ·obtain rfl:=Option.some.inj h
  exact gr 8 [] [rp 5 hP,rp 3 (oI ((ltI r.type_ 0)=false)),nL Qak.enc x0.types,hP,hP,rp 2 (oI ((ltI r.type_ 0)=false)),oR True ((ltI r.type_ 0)=false),bT h0]
 ·obtain ⟨x1,h1,h⟩:=Qae h
  obtain ⟨e0,h15,h⟩:=Qae h
  refine gn 18 [3,4,6,9,10] [0,1,3,5] [rp 5 hP,rp 3 (oI ((ltI r.type_ 0)=false)),nL Qak.enc x0.types,hP,hP,rp 2 (oI ((ltI r.type_ 0)=false)),oR True ((ltI r.type_ 0)=false),bF h0,cE Qak.enc h1,rp 2 (oO (oA (n:=64)))] (Qr8 Γ rv h15 ?_)
  obtain ⟨moved2,other1⟩:=e0
  replace h:(some (QaE.mk (addK .i64 (addK .i64 x1.fixed (mulK .i64 x1.perMile s0.miles)) (mulK .i64 x1.perTick (subK .i64 s0.end_ x1.open_))) moved2 other1 (mulK .i64 (quoK .i64 (subK .i64 s0.end_ x1.open_) 64) (quoK .i64 (subK .i64 s0.end_ x1.open_) 64))):Option QaE)=some _:=h
  obtain rfl:=Option.some.inj h
  exact gr 2 [] []
def Qm7 (Γ:Gam) (rv:Qao×QaE×Int) (cf:Cf):Prop:=Go Tryz.prog Tryz.f61 [] Γ (.tup [.agg [.bool rv.1.rest_,lI rv.1.depart,lL 4 rv.1.times Qaq.enc,lI rv.1.end_,lI rv.1.miles],.agg [lI rv.2.1.cost,lI rv.2.1.moved,lI rv.2.1.other,lI rv.2.1.work],.one (lI rv.2.2)]) [] cf
def Qka (Γ:Gam) (rv:Qao×QaE×Int) (x0:Qad) (r:Qac) (i:Int):Prop:=Qm7 Γ rv ⟨[.c 244,.l 244,.b 0,.c 31],⟨85,[vP 2 0 6,vP 3 1 4,vP 4 2 5,vP 5 3 4,vI 8 i],[oX 6 30 (Qad.enc x0),oX 4 37 (Qac.enc r),oX 5 74 [.bool false,lI 0,.nils,lI 0,lI 0],oX 4 76 [lI 0,lI 0,lI 0,lI 0]]⟩⟩
def QjN (Γ:Gam) (rv:Qao×QaE×Int) (x0:Qad) (r:Qac):Prop:=Qm7 Γ rv ⟨[.c 31],⟨85,[vP 2 0 6,vP 3 1 4,vP 4 2 5,vP 5 3 4],[oX 6 30 (Qad.enc x0),oX 4 37 (Qac.enc r),oX 5 74 [.bool false,lI 0,.nils,lI 0,lI 0],oX 4 76 [lI 0,lI 0,lI 0,lI 0]]⟩⟩
theorem Qp8 (Γ:Gam) (rv:Qao×QaE×Int) {x0 r} {s:Int} {e:(Unit)⊕(Qao×QaE×Int)} (h:QaW (fun s=>QbM x0 r s) s=some e) (hD:sel e (fun e=>QjN Γ rv x0 r) (fun e=>e=rv)):Qka Γ rv x0 r s:=by
 refine QaA (C:=fun (s:Int)=>Qka Γ rv x0 r s) (D:=fun (e:(Unit)⊕(Qao×QaE×Int))=>sel e (fun e=>QjN Γ rv x0 r) (fun e=>e=rv)) ?_ h hD
 clear h hD s e
 intro i z_ h hI hE
 replace h:QbM x0 r i=_:=h
 unfold QbM at h
 rcases Qah h with ⟨h3,h⟩|⟨h3,h⟩
 ·obtain ⟨x1,h4,h⟩:=Qae h
  obtain ⟨x2,h5,h⟩:=Qae h
  obtain ⟨x3,h6,h⟩:=Qae h
  obtain ⟨r2,h7,h⟩:=Qae h
  rcases Qah h with ⟨h8,h⟩|⟨h8,h⟩
  ·exact gn 14 [2,3,4,5,8] [0,1,2,3] [nL Qaa.enc r.visits,bT h3,hH (.draw 19 []),cE Qak.enc h4,cE Qaa.enc h5,cE Qai.enc h6,cC (QpX h7),nF h8] (hI _ (oJ h))
  ·obtain rfl:=(hE _ (oJ h):_=rv)
   exact gr 12 [] [nL Qaa.enc r.visits,bT h3,hH (.draw 19 []),cE Qak.enc h4,cE Qaa.enc h5,cE Qai.enc h6,cC (QpX h7),nT h8,hW 7,hH (.nilB 2 2 4)]
 ·exact gn 5 [2,3,4,5] [0,1,2,3] [nL Qaa.enc r.visits,bF h3] (hE _ (oJ h))
theorem Ql5 {x0 r} {rv:Qao×QaE×Int} (h:Qd3 x0 r=some rv):AFn Tryz.prog 61 [.agg (Qad.enc x0),.agg (Qac.enc r)] [] (.tup [.agg [.bool rv.1.rest_,lI rv.1.depart,lL 4 rv.1.times Qaq.enc,lI rv.1.end_,lI rv.1.miles],.agg [lI rv.2.1.cost,lI rv.2.1.moved,lI rv.2.1.other,lI rv.2.1.work],.one (lI rv.2.2)]) []:=by
 refine QaQ Tryz.func61 (by kernel_rfl) (by kernel_rfl) (fun Γ=>?_)
 unfold Qd3 at h
 rcases Qah h with ⟨h0,h⟩|⟨h0,h⟩
 ·obtain rfl:=Option.some.inj h
  exact gr 8 [] [rp 5 hP,rp 3 (oI ((ltI r.type_ 0)=false)),nL Qak.enc x0.types,hP,hP,rp 2 (oI ((ltI r.type_ 0)=false)),oR True ((ltI r.type_ 0)=false),bT h0,hW 7,hH (.nilB 2 2 4)]
 ·obtain ⟨r1,h1,h⟩:=Qae h
  rcases Qah h with ⟨h2,h⟩|⟨h2,h⟩
  ·obtain rfl:=Option.some.inj h
   exact gr 15 [] [rp 5 hP,rp 3 (oI ((ltI r.type_ 0)=false)),nL Qak.enc x0.types,hP,hP,rp 2 (oI ((ltI r.type_ 0)=false)),oR True ((ltI r.type_ 0)=false),bF h0,cC (Qh7 h1),bT h2,hW 8,hH (.nilB 2 2 4)]
  ·obtain ⟨e0,h9,h⟩:=Qae h
   refine gn 19 [2,3,4,5,8] [0,1,2,3] [rp 5 hP,rp 3 (oI ((ltI r.type_ 0)=false)),nL Qak.enc x0.types,hP,hP,rp 2 (oI ((ltI r.type_ 0)=false)),oR True ((ltI r.type_ 0)=false),bF h0,cC (Qh7 h1),bF h2] (Qp8 Γ rv h9 ?_)
   rcases e0 with e0|e0
   ·replace h:(bnd (QhL x0 r) fun r3=>br (neI r3 0) (some ((Qao.mk false 0 [] 0 0),(QaE.mk 0 0 0 0),r3)) (bnd (QgN x0 r) fun r4=>br (neI r4.2 0) (some ((Qao.mk false 0 [] 0 0),(QaE.mk 0 0 0 0),r4.2)) (bnd (Qha x0 r r4.1) fun r5=>some (r4.1,r5,0))):Option (Qao×QaE×Int))=some _:=h
    obtain ⟨r3,h10,h⟩:=Qae h
    rcases Qah h with ⟨h11,h⟩|⟨h11,h⟩
    ·obtain rfl:=Option.some.inj h
     exact gr 8 [] [cC (Qk0 h10),bT h11,hW 8,hH (.nilB 2 2 4)]
    ·obtain ⟨r4,h12,h⟩:=Qae h
     rcases Qah h with ⟨h13,h⟩|⟨h13,h⟩
     ·obtain rfl:=Option.some.inj h
      exact gr 15 [] [cC (Qk0 h10),bF h11,cC (Qp4 h12),bT h13,hW 8,hH (.nilB 2 2 4)]
     ·obtain ⟨r5,h14,h⟩:=Qae h
      obtain rfl:=Option.some.inj h
      exact gr 16 [] [cC (Qk0 h10),bF h11,cC (Qp4 h12),bF h13,hH (.draw 5 []),cC (Qui h14)]
   ·obtain ⟨r6,rfl⟩:∃ x,x=e0:=⟨_,rfl⟩
    replace h:(some r6:Option (Qao×QaE×Int))=some _:=h
    exact Option.some.inj h
theorem QoY {s0} {rv:Bool} (h:Qj9 s0=some rv):AFn Tryz.prog 101 [.agg (QaE.enc s0)] [] (one (.bool rv)) []:=by
 refine QaQ Tryz.func101 (by kernel_rfl) (by kernel_rfl) (fun Γ=>?_)
 unfold Qj9 at h
 obtain rfl:=Option.some.inj h
 exact gr 4 [] [rp 28 hP,rp 2 (oI ((geI s0.cost 0)=true)),oR True ((geI s0.cost 0)=true),rp 2 (oI (((geI s0.cost 0)&&(leI s0.cost 1073741824))=true)),oR True (((geI s0.cost 0)&&(leI s0.cost 1073741824))=true),rp 2 (oI ((((geI s0.cost 0)&&(leI s0.cost 1073741824))&&(geI s0.moved 0))=true)),oR True ((((geI s0.cost 0)&&(leI s0.cost 1073741824))&&(geI s0.moved 0))=true),rp 2 (oI (((((geI s0.cost 0)&&(leI s0.cost 1073741824))&&(geI s0.moved 0))&&(leI s0.moved 15))=true)),oR True (((((geI s0.cost 0)&&(leI s0.cost 1073741824))&&(geI s0.moved 0))&&(leI s0.moved 15))=true),rp 2 (oI ((((((geI s0.cost 0)&&(leI s0.cost 1073741824))&&(geI s0.moved 0))&&(leI s0.moved 15))&&(geI s0.other 0))=true)),oR True ((((((geI s0.cost 0)&&(leI s0.cost 1073741824))&&(geI s0.moved 0))&&(leI s0.moved 15))&&(geI s0.other 0))=true),rp 2 (oI (((((((geI s0.cost 0)&&(leI s0.cost 1073741824))&&(geI s0.moved 0))&&(leI s0.moved 15))&&(geI s0.other 0))&&(leI s0.other 15))=true)),oR True (((((((geI s0.cost 0)&&(leI s0.cost 1073741824))&&(geI s0.moved 0))&&(leI s0.moved 15))&&(geI s0.other 0))&&(leI s0.other 15))=true),rp 2 (oI ((((((((geI s0.cost 0)&&(leI s0.cost 1073741824))&&(geI s0.moved 0))&&(leI s0.moved 15))&&(geI s0.other 0))&&(leI s0.other 15))&&(geI s0.work 0))=true)),oR True ((((((((geI s0.cost 0)&&(leI s0.cost 1073741824))&&(geI s0.moved 0))&&(leI s0.moved 15))&&(geI s0.other 0))&&(leI s0.other 15))&&(geI s0.work 0))=true)]
theorem QtE {s0} {rv:Int×Int} (h:QhE s0=some rv):AFn Tryz.prog 63 [.agg (QaE.enc s0)] [] (.tup [.one (lI rv.1),.one (lI rv.2)]) []:=by
 refine QaQ Tryz.func63 (by kernel_rfl) (by kernel_rfl) (fun Γ=>?_)
 unfold QhE at h
 rcases Qah h with ⟨h0,h⟩|⟨h0,h⟩
 ·obtain rfl:=Option.some.inj h
  exact gr 8 [] [rp 12 hP,rp 2 (oI ((ltI s0.cost 0)=false)),oR True ((ltI s0.cost 0)=false),rp 2 (oI (((ltI s0.cost 0)||(ltI s0.moved 0))=false)),oR True (((ltI s0.cost 0)||(ltI s0.moved 0))=false),rp 2 (oI ((((ltI s0.cost 0)||(ltI s0.moved 0))||(ltI s0.other 0))=false)),oR True ((((ltI s0.cost 0)||(ltI s0.moved 0))||(ltI s0.other 0))=false),bT h0]
 ·obtain ⟨r,h1,h⟩:=Qae h
  rcases Qah h with ⟨h2,h⟩|⟨h2,h⟩
  ·obtain rfl:=Option.some.inj h
   exact gr 14 [] [rp 12 hP,rp 2 (oI ((ltI s0.cost 0)=false)),oR True ((ltI s0.cost 0)=false),rp 2 (oI (((ltI s0.cost 0)||(ltI s0.moved 0))=false)),oR True (((ltI s0.cost 0)||(ltI s0.moved 0))=false),rp 2 (oI ((((ltI s0.cost 0)||(ltI s0.moved 0))||(ltI s0.other 0))=false)),oR True ((((ltI s0.cost 0)||(ltI s0.moved 0))||(ltI s0.other 0))=false),bF h0,cC (QoY h1),nF h2]
  ·obtain rfl:=Option.some.inj h
   exact gr 13 [] [rp 12 hP,rp 2 (oI ((ltI s0.cost 0)=false)),oR True ((ltI s0.cost 0)=false),rp 2 (oI (((ltI s0.cost 0)||(ltI s0.moved 0))=false)),oR True (((ltI s0.cost 0)||(ltI s0.moved 0))=false),rp 2 (oI ((((ltI s0.cost 0)||(ltI s0.moved 0))||(ltI s0.other 0))=false)),oR True ((((ltI s0.cost 0)||(ltI s0.moved 0))||(ltI s0.other 0))=false),bF h0,cC (QoY h1),nT h2]
theorem Qo0 {x0 r} {rv:Int×Int} (h:QeU x0 r=some rv):AFn Tryz.prog 31 [.agg (Qad.enc x0),.agg (Qac.enc r)] [] (.tup [.one (lI rv.1),.one (lI rv.2)]) []:=by
 refine QaQ Tryz.func31 (by kernel_rfl) (by kernel_rfl) (fun Γ=>?_)
 unfold QeU at h
 obtain ⟨r1,h0,h⟩:=Qae h
 rcases Qah h with ⟨h1,h⟩|⟨h1,h⟩
 ·obtain rfl:=Option.some.inj h
  exact gr 10 [] [cC (Ql5 h0),bT h1]
 ·obtain ⟨r2,h2,h⟩:=Qae h
  obtain rfl:=Option.some.inj h
  exact gr 11 [] [cC (Ql5 h0),bF h1,cC (QtE h2)]
def Qsa (Γ:Gam) (rv:Bool) (cf:Cf):Prop:=Go Tryz.prog Tryz.f78 [] Γ (one (.bool rv)) [] cf
def Qo8 (Γ:Gam) (rv:Bool) (i:Int) (set_1:Int) (k:Int):Prop:=Qsa Γ rv ⟨[.c 52,.l 52,.b 0,.c 7],⟨16,[vI 0 set_1,vI 1 i,vI 5 k],[]⟩⟩
def Qn6 (Γ:Gam) (rv:Bool) (i:Int) (set_2:Int):Prop:=Qsa Γ rv ⟨[.c 7],⟨16,[vI 0 set_2],[]⟩⟩
theorem QtM (Γ:Gam) (rv:Bool) {i} {s:Int×Int} {e:Int} (h:QaW (fun s=>QdM i s.1 s.2) s=some e) (hD:Qn6 Γ rv i e):Qo8 Γ rv i s.1 s.2:=by
 refine QaA (C:=fun (s:Int×Int)=>Qo8 Γ rv i s.1 s.2) (D:=fun (e:Int)=>Qn6 Γ rv i e) ?_ h hD
 clear h hD s e
 rintro ⟨set_1,k⟩ z_ h hI hE
 replace h:QdM i set_1 k=_:=h
 unfold QdM at h
 rcases Qah h with ⟨h0,h⟩|⟨h0,h⟩
 ·exact gn 11 [0,1,5] [] [bT h0,oO (oA (n:=2))] (hI _ (oJ h))
 ·exact gn 5 [0] [] [bF h0] (hE _ (oJ h))
theorem Qjn {set_ i} {rv:Bool} (h:QiH set_ i=some rv):AFn Tryz.prog 78 [.one (lI set_),.one (lI i)] [] (one (.bool rv)) []:=by
 refine QaQ Tryz.func78 (by kernel_rfl) (by kernel_rfl) (fun Γ=>?_)
 unfold QiH at h
 obtain ⟨e0,h1,h⟩:=Qae h
 refine gn 7 [0,1,5] [] [] (QtM Γ rv h1 ?_)
 obtain ⟨set_2,rfl⟩:∃ x,x=e0:=⟨_,rfl⟩
 replace h:(some (eqI (remK set_2 2) 1):Option Bool)=some _:=h
 obtain rfl:=Option.some.inj h
 exact gr 2 [] [oO (oA (n:=2))]
def Qth (Γ:Gam) (rv:Bool) (cf:Cf):Prop:=Go Tryz.prog Tryz.f108 [] Γ (one (.bool rv)) [] cf
def Qp9 (Γ:Gam) (rv:Bool) (l:List Qaa) (v:Qaa) (i:Int):Prop:=Qth Γ rv ⟨[.c 52,.l 52,.b 0,.c 7],⟨18,[vL 0 2 l Qaa.enc,vP 3 0 2,vI 5 i],[oX 2 54 (Qaa.enc v)]⟩⟩
def Qo9 (Γ:Gam) (rv:Bool) (l:List Qaa) (v:Qaa):Prop:=Qth Γ rv ⟨[.c 7],⟨18,[],[]⟩⟩
theorem Quj (Γ:Gam) (rv:Bool) {l v} {s:Int} {e:(Unit)⊕(Bool)} (h:QaW (fun s=>Qd4 l v s) s=some e) (hD:sel e (fun e=>Qo9 Γ rv l v) (fun e=>e=rv)):Qp9 Γ rv l v s:=by
 refine QaA (C:=fun (s:Int)=>Qp9 Γ rv l v s) (D:=fun (e:(Unit)⊕(Bool))=>sel e (fun e=>Qo9 Γ rv l v) (fun e=>e=rv)) ?_ h hD
 clear h hD s e
 intro i z_ h hI hE
 replace h:Qd4 l v i=_:=h
 unfold Qd4 at h
 rcases Qah h with ⟨h0,h⟩|⟨h0,h⟩
 ·obtain ⟨x0,h1,h⟩:=Qae h
  rcases Qah h with ⟨h2,h⟩|⟨h2,h⟩
  ·obtain rfl:=(hE _ (oJ h):_=rv)
   exact gr 12 [] [nL Qaa.enc l,bT h0,hH (.draw 6 []),cE Qaa.enc h1,bT h2]
  ·exact gn 14 [0,3,5] [0] [nL Qaa.enc l,bT h0,hH (.draw 6 []),cE Qaa.enc h1,bF h2] (hI _ (oJ h))
 ·exact gn 5 [] [] [nL Qaa.enc l,bF h0] (hE _ (oJ h))
theorem Qkb {l v} {rv:Bool} (h:QjO l v=some rv):AFn Tryz.prog 108 [.one (lL 2 l Qaa.enc),.agg (Qaa.enc v)] [] (one (.bool rv)) []:=by
 refine QaQ Tryz.func108 (by kernel_rfl) (by kernel_rfl) (fun Γ=>?_)
 unfold QjO at h
 obtain ⟨e0,h3,h⟩:=Qae h
 refine gn 7 [0,3,5] [0] [] (Quj Γ rv h3 ?_)
 rcases e0 with e0|e0
 ·replace h:(some false:Option Bool)=some _:=h
  obtain rfl:=Option.some.inj h
  exact gr 2 [] []
 ·obtain ⟨r,rfl⟩:∃ x,x=e0:=⟨_,rfl⟩
  replace h:(some r:Option Bool)=some _:=h
  exact Option.some.inj h
def Qud (Γ:Gam) (rv:List Qaa) (cf:Cf):Prop:=Go Tryz.prog Tryz.f156 [] Γ (one (lL 2 rv Qaa.enc)) [] cf
theorem QkB (Γ:Gam) (rv:List Qaa) {l at_ l1} (h:Qeq l at_ l1=some rv):Qud Γ rv ⟨[.c 31],⟨38,[vL 0 16 l Qai.enc,vI 1 at_,vO 5 0 2 l1 Qaa.enc],[oS 2 54 l1 Qaa.enc]⟩⟩:=by
 unfold Qeq at h
 obtain ⟨x1,h5,h⟩:=Qae h
 rcases Qah h with ⟨h6,h⟩|⟨h6,h⟩
 ·obtain ⟨h7,h⟩:=Qau h
  obtain rfl:=Option.some.inj h
  exact gr 7 [] [cE Qai.enc h5,bT h6,oO (Eq.refl ([(Qaa.mk at_ true)].map Qaa.enc).length),aO Qaa.enc h7,hW 5,hH (.frz 2),rp 4 (oO (Eq.refl ((l1++[(Qaa.mk at_ true)]).map Qaa.enc).length))]
 ·obtain rfl:=Option.some.inj h
  exact gr 7 [] [cE Qai.enc h5,bF h6,hW 5,hH (.frz 0),rp 3 (eL l1 Qaa.enc)]
theorem QtB {l at_} {rv:List Qaa} (h:QhB l at_=some rv):AFn Tryz.prog 156 [.one (lL 16 l Qai.enc),.one (lI at_)] [] (one (lL 2 rv Qaa.enc)) []:=by
 refine QaQ Tryz.func156 (by kernel_rfl) (by kernel_rfl) (fun Γ=>?_)
 unfold QhB at h
 obtain ⟨r,h0,h⟩:=Qae h
 rcases Qah h with ⟨h1,h⟩|⟨h1,h⟩
 ·obtain ⟨x0,h2,h⟩:=Qae h
  rcases Qah h with ⟨h3,h⟩|⟨h3,h⟩
  ·obtain ⟨h4,h⟩:=Qau h
   exact gn 14 [0,1,5] [1] [nL Qai.enc l,cC (QaH h0),nF h1,cE Qai.enc h2,bT h3,oO (Eq.refl ([(Qaa.mk at_ false)].map Qaa.enc).length),aN (l:=([(Qaa.mk at_ false)]:List Qaa)) Qaa.enc h4] (QkB Γ rv h)
  ·exact gn 14 [0,1,5] [0] [nL Qai.enc l,cC (QaH h0),nF h1,cE Qai.enc h2,bF h3,hW 1,hH (.adopt 5 2 54)] (QkB Γ rv h)
 ·obtain rfl:=Option.some.inj h
  exact gr 10 [] [nL Qai.enc l,cC (QaH h0),nT h1,hW 4,hH (.nilS 4 0 2)]
def Qjo (Γ:Gam) (rv:List Qaa) (cf:Cf):Prop:=Go Tryz.prog Tryz.f107 [] Γ (one (lL 2 rv Qaa.enc)) [] cf
def Qn8 (Γ:Gam) (rv:List Qaa) (x0:Qad) (set_:Int) (l:List Qaa) (i:Int) (r1:List Qaa) (l2:List Qaa) (k:Int):Prop:=Qjo Γ rv ⟨[.c 29852,.l 29852,.b 2,.b 1,.c 467,.l 116,.b 0,.c 15],⟨47,[vI 1 set_,vL 2 2 l Qaa.enc,vP 3 0 6,vO 7 1 2 l2 Qaa.enc,vI 8 i,vL 9 2 r1 Qaa.enc,vI 10 k],[oX 6 30 (Qad.enc x0),oS 2 54 l2 Qaa.enc]⟩⟩
def Qnd (Γ:Gam) (rv:List Qaa) (x0:Qad) (set_:Int) (l:List Qaa) (i:Int) (r1:List Qaa) (l3:List Qaa):Prop:=Qjo Γ rv ⟨[.b 1,.c 467,.l 116,.b 0,.c 15],⟨47,[vI 1 set_,vL 2 2 l Qaa.enc,vP 3 0 6,vO 7 1 2 l3 Qaa.enc,vI 8 i],[oX 6 30 (Qad.enc x0),oS 2 54 l3 Qaa.enc]⟩⟩
def Qn7 (Γ:Gam) (rv:List Qaa) (x0:Qad) (set_:Int) (l:List Qaa) (l1:List Qaa) (i:Int):Prop:=Qjo Γ rv ⟨[.c 116,.l 116,.b 0,.c 15],⟨47,[vI 1 set_,vL 2 2 l Qaa.enc,vP 3 0 6,vO 7 1 2 l1 Qaa.enc,vI 8 i],[oX 6 30 (Qad.enc x0),oS 2 54 l1 Qaa.enc]⟩⟩
def Qnc (Γ:Gam) (rv:List Qaa) (x0:Qad) (set_:Int) (l:List Qaa) (l4:List Qaa):Prop:=Qjo Γ rv ⟨[.c 15],⟨47,[vO 7 0 2 l4 Qaa.enc],[oS 2 54 l4 Qaa.enc]⟩⟩
theorem Qs2 (Γ:Gam) (rv:List Qaa) {x0 set_ l i r1} {s:List Qaa×Int} {e:List Qaa} (h:QaW (fun s=>Qdn x0 set_ l i r1 s.1 s.2) s=some e) (hD:Qnd Γ rv x0 set_ l i r1 e):Qn8 Γ rv x0 set_ l i r1 s.1 s.2:=by
 refine QaA (C:=fun (s:List Qaa×Int)=>Qn8 Γ rv x0 set_ l i r1 s.1 s.2) (D:=fun (e:List Qaa)=>Qnd Γ rv x0 set_ l i r1 e) ?_ h hD
 clear h hD s e
 rintro ⟨l2,k⟩ z_ h hI hE
 replace h:Qdn x0 set_ l i r1 l2 k=_:=h
 unfold Qdn at h
 rcases Qah h with ⟨h4,h⟩|⟨h4,h⟩
 ·obtain ⟨x1,h5,h⟩:=Qae h
  obtain ⟨r2,h6,h⟩:=Qae h
  rcases Qah h with ⟨h7,h⟩|⟨h7,h⟩
  ·exact gn 14 [1,2,3,7,8,9,10] [0,1] [nL Qaa.enc r1,bT h4,cE Qaa.enc h5,cC (Qkb h6),nF h7] (hI _ (oJ h))
  ·obtain ⟨h8,h⟩:=Qau h
   exact gn 14 [1,2,3,7,8,9,10] [0,3] [nL Qaa.enc r1,bT h4,cE Qaa.enc h5,cC (Qkb h6),nT h7,cE Qaa.enc h5,oO (Eq.refl ([x1].map Qaa.enc).length),aO Qaa.enc h8] (hI _ (oJ h))
 ·exact gn 5 [1,2,3,7,8] [0,1] [nL Qaa.enc r1,bF h4] (hE _ (oJ h))
theorem Qs1 (Γ:Gam) (rv:List Qaa) {x0 set_ l} {s:List Qaa×Int} {e:List Qaa} (h:QaW (fun s=>QcG x0 set_ l s.1 s.2) s=some e) (hD:Qnc Γ rv x0 set_ l e):Qn7 Γ rv x0 set_ l s.1 s.2:=by
 refine QaA (C:=fun (s:List Qaa×Int)=>Qn7 Γ rv x0 set_ l s.1 s.2) (D:=fun (e:List Qaa)=>Qnc Γ rv x0 set_ l e) ?_ h hD
 clear h hD s e
 rintro ⟨l1,i⟩ z_ h hI hE
 replace h:QcG x0 set_ l l1 i=_:=h
 unfold QcG at h
 rcases Qah h with ⟨h0,h⟩|⟨h0,h⟩
 ·obtain ⟨r,h1,h⟩:=Qae h
  rcases Qah h with ⟨h2,h⟩|⟨h2,h⟩
  ·obtain ⟨r1,h3,h⟩:=Qae h
   obtain ⟨e0,h9,h⟩:=Qae h
   refine gn 18 [1,2,3,7,8,9,10] [0,1] [nL Qai.enc x0.orders,bT h0,cC (Qjn h1),nF h2,cC (QtB h3)] (Qs2 Γ rv h9 ?_)
   obtain ⟨l3,rfl⟩:∃ x,x=e0:=⟨_,rfl⟩
   replace h:(some (.inl (l3,(addK .i64 i 1))):Option ((List Qaa×Int)⊕(List Qaa)))=some _:=h
   exact gn 3 [1,2,3,7,8] [0,1] [] (hI _ (oJ h))
  ·exact gn 14 [1,2,3,7,8] [0,1] [nL Qai.enc x0.orders,bT h0,cC (Qjn h1),nT h2] (hI _ (oJ h))
 ·exact gn 5 [7] [1] [nL Qai.enc x0.orders,bF h0] (hE _ (oJ h))
theorem QiI {x0 set_ l} {rv:List Qaa} (h:Qjc x0 set_ l=some rv):AFn Tryz.prog 107 [.agg (Qad.enc x0),.one (lI set_),.one (lL 2 l Qaa.enc)] [] (one (lL 2 rv Qaa.enc)) []:=by
 refine QaQ Tryz.func107 (by kernel_rfl) (by kernel_rfl) (fun Γ=>?_)
 unfold Qjc at h
 obtain ⟨e1,h10,h⟩:=Qae h
 refine gn 9 [1,2,3,7,8] [0,1] [hW 13,hH (.adopt 7 2 54)] (Qs1 Γ rv h10 ?_)
 obtain ⟨l4,rfl⟩:∃ x,x=e1:=⟨_,rfl⟩
 replace h:(some l4:Option (List Qaa))=some _:=h
 obtain rfl:=Option.some.inj h
 exact gr 2 [] [hW 4,hH (.frz 0),rp 3 (eL l4 Qaa.enc)]
def Qo7 (Γ:Gam) (rv:Qap) (cf:Cf):Prop:=Go Tryz.prog Tryz.f70 [0] Γ (.tup []) [oX 13 108 [lL 1 rv.x.net.places QmE,lL 6 rv.x.net.arcs Qas.enc,lL 14 rv.x.types Qak.enc,lL 16 rv.x.orders Qai.enc,lL 2 rv.x.apart QaO.enc,lL 2 rv.x.before QaO.enc,lI rv.set_,.bool rv.ok,lI rv.route.type_,lI rv.route.start,lL 1 rv.route.rests QaI,lL 2 rv.route.visits Qaa.enc,lI rv.price]] cf
def Ql8 (Γ:Gam) (rv:Qap) (self:Qap→Qac→Option Qap) (r1:List Qaa) (x0:Qap) (x1:Qac) (i:Int):Prop:=Qo7 Γ rv ⟨[.c 124,.l 124,.b 0],⟨131,[vP 0 0 13,vP 3 1 4,vL 4 2 r1 Qaa.enc,vI 8 i],[oX 13 108 (Qap.enc x0),oX 4 37 (Qac.enc x1)]⟩⟩
def QkR (Γ:Gam) (rv:Qap) (self:Qap→Qac→Option Qap) (r1:List Qaa) (x3:Qap):Prop:=Qo7 Γ rv ⟨[],⟨131,[],[oX 13 108 (Qap.enc x3)]⟩⟩
theorem Qrp (Γ:Gam) (rv:Qap) {self:Qap→Qac→Option Qap} (hself:∀ {f:Qap} {r:Qac} {rv:Qap},self f r=some rv→AFn Tryz.prog 70 [.one (.op 0 13 0 0),.agg (Qac.enc r)] [bX 13 108 (Qap.enc f)] (.tup []) [oX 13 108 [lL 1 rv.x.net.places QmE,lL 6 rv.x.net.arcs Qas.enc,lL 14 rv.x.types Qak.enc,lL 16 rv.x.orders Qai.enc,lL 2 rv.x.apart QaO.enc,lL 2 rv.x.before QaO.enc,lI rv.set_,.bool rv.ok,lI rv.route.type_,lI rv.route.start,lL 1 rv.route.rests QaI,lL 2 rv.route.visits Qaa.enc,lI rv.price]]) {r1} {s:Qap×Qac×Int} {e:Qap} (h:QaW (fun s=>Qex self r1 s.1 s.2.1 s.2.2) s=some e) (hD:QkR Γ rv self r1 e):Ql8 Γ rv self r1 s.1 s.2.1 s.2.2:=by
 refine QaA (C:=fun (s:Qap×Qac×Int)=>Ql8 Γ rv self r1 s.1 s.2.1 s.2.2) (D:=fun (e:Qap)=>QkR Γ rv self r1 e) ?_ h hD
 clear h hD s e
 rintro ⟨x0,x1,i⟩ z_ h hI hE
 replace h:Qex self r1 x0 x1 i=_:=h
 unfold Qex at h
 rcases Qah h with ⟨h6,h⟩|⟨h6,h⟩
 ·obtain ⟨h7,h⟩:=Qau h
  obtain ⟨x2,h8,h⟩:=Qae h
  obtain ⟨h9,h⟩:=Qau h
  rcases Qah h with ⟨h10,h⟩|⟨h10,h⟩
  ·obtain ⟨r4,h11,h⟩:=Qae h
   rcases Qah h with ⟨h12,h⟩|⟨h12,h⟩
   ·exact gn 22 [0,3,4,8] [0,1] [nL Qaa.enc r1,bT h6,aN Qaa.enc h7,hH (.draw 7 []),cE Qaa.enc h8,oO (Eq.refl ([x2].map Qaa.enc).length),aO Qaa.enc h9,cE Qaa.enc h8,rp 4 (bT h10),cE Qaa.enc h8,rp 4 (bT h10),cC (Qkb h11),bT h10,bT h12] (hI _ (oJ h))
   ·obtain ⟨r5,h13,h⟩:=Qae h
    exact gn 24 [0,3,4,8] [0,1] [nL Qaa.enc r1,bT h6,aN Qaa.enc h7,hH (.draw 7 []),cE Qaa.enc h8,oO (Eq.refl ([x2].map Qaa.enc).length),aO Qaa.enc h9,cE Qaa.enc h8,rp 4 (bT h10),cE Qaa.enc h8,rp 4 (bT h10),cC (Qkb h11),bT h10,bF h12,hW 4,hH (.frz 5),rp 3 (oO (Eq.refl ((x1.visits++[x2]).map Qaa.enc).length)),cI [0] (hself h13)] (hI _ (oJ h))
  ·obtain ⟨r6,h14,h⟩:=Qae h
   exact gn 24 [0,3,4,8] [0,1] [nL Qaa.enc r1,bT h6,aN Qaa.enc h7,hH (.draw 7 []),cE Qaa.enc h8,oO (Eq.refl ([x2].map Qaa.enc).length),aO Qaa.enc h9,cE Qaa.enc h8,rp 9 (bF h10),fF,hW 4,hH (.frz 5),rp 3 (oO (Eq.refl ((x1.visits++[x2]).map Qaa.enc).length)),cI [0] (hself h14)] (hI _ (oJ h))
 ·exact gn 5 [] [0] [nL Qaa.enc r1,bF h6] (hE _ (oJ h))
theorem Qr9 {self:Qap→Qac→Option Qap} (hself:∀ {f:Qap} {r:Qac} {rv:Qap},self f r=some rv→AFn Tryz.prog 70 [.one (.op 0 13 0 0),.agg (Qac.enc r)] [bX 13 108 (Qap.enc f)] (.tup []) [oX 13 108 [lL 1 rv.x.net.places QmE,lL 6 rv.x.net.arcs Qas.enc,lL 14 rv.x.types Qak.enc,lL 16 rv.x.orders Qai.enc,lL 2 rv.x.apart QaO.enc,lL 2 rv.x.before QaO.enc,lI rv.set_,.bool rv.ok,lI rv.route.type_,lI rv.route.start,lL 1 rv.route.rests QaI,lL 2 rv.route.visits Qaa.enc,lI rv.price]]) {f r} {rv:Qap} (h:Qgz self f r=some rv):AFn Tryz.prog 70 [.one (.op 0 13 0 0),.agg (Qac.enc r)] [bX 13 108 (Qap.enc f)] (.tup []) [oX 13 108 [lL 1 rv.x.net.places QmE,lL 6 rv.x.net.arcs Qas.enc,lL 14 rv.x.types Qak.enc,lL 16 rv.x.orders Qai.enc,lL 2 rv.x.apart QaO.enc,lL 2 rv.x.before QaO.enc,lI rv.set_,.bool rv.ok,lI rv.route.type_,lI rv.route.start,lL 1 rv.route.rests QaI,lL 2 rv.route.visits Qaa.enc,lI rv.price]]:=by
 refine QaQ Tryz.func70 (by kernel_rfl) (by kernel_rfl) (fun Γ=>?_)
 unfold Qgz at h
 obtain ⟨r1,h0,h⟩:=Qae h
 rcases Qah h with ⟨h1,h⟩|⟨h1,h⟩
 ·obtain ⟨r2,h2,h⟩:=Qae h
  rcases Qah h with ⟨h3,h⟩|⟨h3,h⟩
  ·obtain rfl:=Option.some.inj h
   exact gr 14 [0] [hH (.draw 12 []),cC (QiI h0),nL Qaa.enc r1,hP,hP,hP,rp 2 (oI ((eqI (lenI r1) 0)=false)),nL QaI r.rests,hP,hP,hP,rp 2 (oI ((eqI (lenI r1) 0)=false)),nL Qaa.enc r.visits,hP,hP,rp 2 (oI ((eqI (lenI r1) 0)=false)),oR True ((eqI (lenI r1) 0)=false),bT h1,cC (QfY h2),rp 9 hP,rp 5 (oI ((neI r2.2 0)=false)),oR True ((neI r2.2 0)=false),oI (((neI r2.2 0)||(neI r2.1 f.set_))=false),nL Qaa.enc r1,hP,hP,oI (((neI r2.2 0)||(neI r2.1 f.set_))=false),oR True (((neI r2.2 0)||(neI r2.1 f.set_))=false),bT h3]
  ·obtain ⟨r3,h4,h⟩:=Qae h
   rcases Qah h with ⟨h5,h⟩|⟨h5,h⟩
   ·obtain rfl:=Option.some.inj h
    exact gr 26 [0] [hH (.draw 12 []),cC (QiI h0),nL Qaa.enc r1,hP,hP,hP,rp 2 (oI ((eqI (lenI r1) 0)=false)),nL QaI r.rests,hP,hP,hP,rp 2 (oI ((eqI (lenI r1) 0)=false)),nL Qaa.enc r.visits,hP,hP,rp 2 (oI ((eqI (lenI r1) 0)=false)),oR True ((eqI (lenI r1) 0)=false),bT h1,cC (QfY h2),rp 9 hP,rp 5 (oI ((neI r2.2 0)=false)),oR True ((neI r2.2 0)=false),oI (((neI r2.2 0)||(neI r2.1 f.set_))=false),nL Qaa.enc r1,hP,hP,oI (((neI r2.2 0)||(neI r2.1 f.set_))=false),oR True (((neI r2.2 0)||(neI r2.1 f.set_))=false),bF h3,hH (.draw 11 []),cC (Qo0 h4),rp 15 hP,rp 5 (oI ((eqI r3.2 0)=true)),rp 5 (oI (((eqI r3.2 0)=true)∧(!f.ok)=false)),oI ((eqI r3.2 0)=true),oI (((eqI r3.2 0)=true)∧(!f.ok)=false),oR True ((eqI r3.2 0)=true),bT h5]
   ·obtain rfl:=Option.some.inj h
    exact gr 22 [0] [hH (.draw 12 []),cC (QiI h0),nL Qaa.enc r1,hP,hP,hP,rp 2 (oI ((eqI (lenI r1) 0)=false)),nL QaI r.rests,hP,hP,hP,rp 2 (oI ((eqI (lenI r1) 0)=false)),nL Qaa.enc r.visits,hP,hP,rp 2 (oI ((eqI (lenI r1) 0)=false)),oR True ((eqI (lenI r1) 0)=false),bT h1,cC (QfY h2),rp 9 hP,rp 5 (oI ((neI r2.2 0)=false)),oR True ((neI r2.2 0)=false),oI (((neI r2.2 0)||(neI r2.1 f.set_))=false),nL Qaa.enc r1,hP,hP,oI (((neI r2.2 0)||(neI r2.1 f.set_))=false),oR True (((neI r2.2 0)||(neI r2.1 f.set_))=false),bF h3,hH (.draw 11 []),cC (Qo0 h4),rp 15 hP,rp 5 (oI ((eqI r3.2 0)=true)),rp 5 (oI (((eqI r3.2 0)=true)∧(!f.ok)=false)),oI ((eqI r3.2 0)=true),oI (((eqI r3.2 0)=true)∧(!f.ok)=false),oR True ((eqI r3.2 0)=true),bF h5]
 ·obtain ⟨e0,h15,h⟩:=Qae h
  refine gn 13 [0,3,4,8] [0,1] [hH (.draw 12 []),cC (QiI h0),nL Qaa.enc r1,hP,hP,hP,rp 2 (oI ((eqI (lenI r1) 0)=false)),nL QaI r.rests,hP,hP,hP,rp 2 (oI ((eqI (lenI r1) 0)=false)),nL Qaa.enc r.visits,hP,hP,rp 2 (oI ((eqI (lenI r1) 0)=false)),oR True ((eqI (lenI r1) 0)=false),bF h1] (Qrp Γ rv hself h15 ?_)
  obtain ⟨x3,rfl⟩:∃ x,x=e0:=⟨_,rfl⟩
  replace h:(some x3:Option Qap)=some _:=h
  obtain rfl:=Option.some.inj h
  exact gr 0 [0] []
theorem Qm9:∀ n,∀ {f:Qap} {r:Qac} {rv:Qap},Qdz n f r=some rv→AFn Tryz.prog 70 [.one (.op 0 13 0 0),.agg (Qac.enc r)] [bX 13 108 (Qap.enc f)] (.tup []) [oX 13 108 [lL 1 rv.x.net.places QmE,lL 6 rv.x.net.arcs Qas.enc,lL 14 rv.x.types Qak.enc,lL 16 rv.x.orders Qai.enc,lL 2 rv.x.apart QaO.enc,lL 2 rv.x.before QaO.enc,lI rv.set_,.bool rv.ok,lI rv.route.type_,lI rv.route.start,lL 1 rv.route.rests QaI,lL 2 rv.route.visits Qaa.enc,lI rv.price]]
 | 0=>fun h=>nomatch h
 | n+1=>fun h=>Qr9 (Qm9 n) h
theorem Qn3:∀ {f:Qap} {r:Qac} {rv:Qap},Qmq f r=some rv→AFn Tryz.prog 70 [.one (.op 0 13 0 0),.agg (Qac.enc r)] [bX 13 108 (Qap.enc f)] (.tup []) [oX 13 108 [lL 1 rv.x.net.places QmE,lL 6 rv.x.net.arcs Qas.enc,lL 14 rv.x.types Qak.enc,lL 16 rv.x.orders Qai.enc,lL 2 rv.x.apart QaO.enc,lL 2 rv.x.before QaO.enc,lI rv.set_,.bool rv.ok,lI rv.route.type_,lI rv.route.start,lL 1 rv.route.rests QaI,lL 2 rv.route.visits Qaa.enc,lI rv.price]]:=Qm9 _
def QqY (Γ:Gam) (rv:Qaf×Int) (cf:Cf):Prop:=Go Tryz.prog Tryz.f38 [] Γ (.tup [.agg [lI rv.1.type_,lI rv.1.set_,lI rv.1.price,lI rv.1.route.type_,lI rv.1.route.start,lL 1 rv.1.route.rests QaI,lL 2 rv.1.route.visits Qaa.enc],.one (lI rv.2)]) [] cf
def Qn2 (Γ:Gam) (rv:Qaf×Int) (x0:Qad) (begin:Qac) (set_:Int) (limit:Int) (i:Int):Prop:=QqY Γ rv ⟨[.c 116,.l 116,.b 0,.c 15],⟨66,[vI 2 set_,vP 3 0 6,vP 4 1 4,vP 6 2 7,vI 8 limit,vI 9 i],[oX 6 30 (Qad.enc x0),oX 4 37 (Qac.enc begin),oX 7 45 [lI 0,lI 0,lI 0,lI 0,lI 0,.nils,.nils]]⟩⟩
def Qm8 (Γ:Gam) (rv:Qaf×Int) (x0:Qad) (begin:Qac) (set_:Int) (limit1:Int):Prop:=QqY Γ rv ⟨[.c 15],⟨66,[vI 2 set_,vP 3 0 6,vP 4 1 4,vP 6 2 7,vI 8 limit1],[oX 6 30 (Qad.enc x0),oX 4 37 (Qac.enc begin),oX 7 45 [lI 0,lI 0,lI 0,lI 0,lI 0,.nils,.nils]]⟩⟩
theorem QsY (Γ:Gam) (rv:Qaf×Int) {x0 begin set_} {s:Int×Int} {e:Int} (h:QaW (fun s=>Qdk x0 begin set_ s.1 s.2) s=some e) (hD:Qm8 Γ rv x0 begin set_ e):Qn2 Γ rv x0 begin set_ s.1 s.2:=by
 refine QaA (C:=fun (s:Int×Int)=>Qn2 Γ rv x0 begin set_ s.1 s.2) (D:=fun (e:Int)=>Qm8 Γ rv x0 begin set_ e) ?_ h hD
 clear h hD s e
 rintro ⟨limit,i⟩ z_ h hI hE
 replace h:Qdk x0 begin set_ limit i=_:=h
 unfold Qdk at h
 rcases Qah h with ⟨h0,h⟩|⟨h0,h⟩
 ·exact gn 11 [2,3,4,6,8,9] [0,1,2] [nL Qai.enc x0.orders,bT h0] (hI _ (oJ h))
 ·exact gn 5 [2,3,4,6,8] [0,1,2] [nL Qai.enc x0.orders,bF h0] (hE _ (oJ h))
theorem Qew {x0 begin set_} {rv:Qaf×Int} (h:QgP x0 begin set_=some rv):AFn Tryz.prog 38 [.agg (Qad.enc x0),.agg (Qac.enc begin),.one (lI set_)] [] (.tup [.agg [lI rv.1.type_,lI rv.1.set_,lI rv.1.price,lI rv.1.route.type_,lI rv.1.route.start,lL 1 rv.1.route.rests QaI,lL 2 rv.1.route.visits Qaa.enc],.one (lI rv.2)]) []:=by
 refine QaQ Tryz.func38 (by kernel_rfl) (by kernel_rfl) (fun Γ=>?_)
 unfold QgP at h
 obtain ⟨e0,h1,h⟩:=Qae h
 refine gn 9 [2,3,4,6,8,9] [0,1,2] [] (QsY Γ rv h1 ?_)
 obtain ⟨limit1,rfl⟩:∃ x,x=e0:=⟨_,rfl⟩
 replace h:(br ((((ltI begin.type_ 0)||(geI begin.type_ (lenI x0.types)))||(ltI set_ 1))||(geI set_ limit1)) (some ((Qaf.mk 0 0 0 (Qac.mk 0 0 [] [])),2)) (bnd (Qmq (Qap.mk x0 set_ false (Qac.mk 0 0 [] []) 0) begin) fun r=>br r.ok (some ((Qaf.mk begin.type_ set_ r.price r.route),0)) (some ((Qaf.mk 0 0 0 (Qac.mk 0 0 [] [])),24))):Option (Qaf×Int))=some _:=h
 rcases Qah h with ⟨h2,h⟩|⟨h2,h⟩
 ·obtain rfl:=Option.some.inj h
  exact gr 6 [] [rp 5 hP,rp 3 (oI ((ltI begin.type_ 0)=false)),nL Qak.enc x0.types,rp 9 hP,rp 2 (oI ((ltI begin.type_ 0)=false)),oR True ((ltI begin.type_ 0)=false),oI (((ltI begin.type_ 0)||(geI begin.type_ (lenI x0.types)))=false),oR True (((ltI begin.type_ 0)||(geI begin.type_ (lenI x0.types)))=false),rp 2 (oI ((((ltI begin.type_ 0)||(geI begin.type_ (lenI x0.types)))||(ltI set_ 1))=false)),oR True ((((ltI begin.type_ 0)||(geI begin.type_ (lenI x0.types)))||(ltI set_ 1))=false),bT h2,hW 5,hH (.nilB 2 5 1),hH (.nilB 2 6 2)]
 ·obtain ⟨r,h3,h⟩:=Qae h
  rcases Qah h with ⟨h4,h⟩|⟨h4,h⟩
  ·obtain rfl:=Option.some.inj h
   exact gr 16 [] [rp 5 hP,rp 3 (oI ((ltI begin.type_ 0)=false)),nL Qak.enc x0.types,rp 9 hP,rp 2 (oI ((ltI begin.type_ 0)=false)),oR True ((ltI begin.type_ 0)=false),oI (((ltI begin.type_ 0)||(geI begin.type_ (lenI x0.types)))=false),oR True (((ltI begin.type_ 0)||(geI begin.type_ (lenI x0.types)))=false),rp 2 (oI ((((ltI begin.type_ 0)||(geI begin.type_ (lenI x0.types)))||(ltI set_ 1))=false)),oR True ((((ltI begin.type_ 0)||(geI begin.type_ (lenI x0.types)))||(ltI set_ 1))=false),bF h2,hW 12,hH (.nilB 3 10 1),hH (.nilB 3 11 2),cI [3] (Qn3 h3),nF h4,hH (.draw 12 [])]
  ·obtain rfl:=Option.some.inj h
   exact gr 15 [] [rp 5 hP,rp 3 (oI ((ltI begin.type_ 0)=false)),nL Qak.enc x0.types,rp 9 hP,rp 2 (oI ((ltI begin.type_ 0)=false)),oR True ((ltI begin.type_ 0)=false),oI (((ltI begin.type_ 0)||(geI begin.type_ (lenI x0.types)))=false),oR True (((ltI begin.type_ 0)||(geI begin.type_ (lenI x0.types)))=false),rp 2 (oI ((((ltI begin.type_ 0)||(geI begin.type_ (lenI x0.types)))||(ltI set_ 1))=false)),oR True ((((ltI begin.type_ 0)||(geI begin.type_ (lenI x0.types)))||(ltI set_ 1))=false),bF h2,hW 12,hH (.nilB 3 10 1),hH (.nilB 3 11 2),cI [3] (Qn3 h3),nT h4,hW 5,hH (.nilB 2 5 1),hH (.nilB 2 6 2)]
theorem Qqy {x0 r b set_} {rv:Bool} (h:QgS x0 r b set_=some rv):AFn Tryz.prog 11 [.agg (Qad.enc x0),.agg (Qac.enc r),.agg (Qac.enc b),.one (lI set_)] [] (one (.bool rv)) []:=by
 refine QaQ Tryz.func11 (by kernel_rfl) (by kernel_rfl) (fun Γ=>?_)
 unfold QgS at h
 rcases Qah h with ⟨h0,h⟩|⟨h0,h⟩
 ·obtain ⟨r1,h1,h⟩:=Qae h
  obtain rfl:=Option.some.inj h
  exact gr 8 [] [hH (.draw 31 []),nL Qaa.enc r.visits,hP,hP,hP,rp 2 (oI ((gtI (lenI r.visits) 20)=false)),nL QaI r.rests,rp 5 hP,oI ((gtI (lenI r.visits) 20)=false),oR True ((gtI (lenI r.visits) 20)=false),rp 2 (oI (((gtI (lenI r.visits) 20)||(gtI (lenI r.rests) 20))=false)),nL Qaa.enc b.visits,rp 5 hP,oI (((gtI (lenI r.visits) 20)||(gtI (lenI r.rests) 20))=false),oR True (((gtI (lenI r.visits) 20)||(gtI (lenI r.rests) 20))=false),rp 2 (oI ((((gtI (lenI r.visits) 20)||(gtI (lenI r.rests) 20))||(gtI (lenI b.visits) 20))=false)),nL QaI b.rests,hP,hP,oI ((((gtI (lenI r.visits) 20)||(gtI (lenI r.rests) 20))||(gtI (lenI b.visits) 20))=false),oR True ((((gtI (lenI r.visits) 20)||(gtI (lenI r.rests) 20))||(gtI (lenI b.visits) 20))=false),rp 8 (bT h0),tT,nL Qaa.enc r.visits,hP,hP,hP,rp 2 (oI ((gtI (lenI r.visits) 20)=false)),nL QaI r.rests,rp 5 hP,oI ((gtI (lenI r.visits) 20)=false),oR True ((gtI (lenI r.visits) 20)=false),rp 2 (oI (((gtI (lenI r.visits) 20)||(gtI (lenI r.rests) 20))=false)),nL Qaa.enc b.visits,rp 5 hP,oI (((gtI (lenI r.visits) 20)||(gtI (lenI r.rests) 20))=false),oR True (((gtI (lenI r.visits) 20)||(gtI (lenI r.rests) 20))=false),rp 2 (oI ((((gtI (lenI r.visits) 20)||(gtI (lenI r.rests) 20))||(gtI (lenI b.visits) 20))=false)),nL QaI b.rests,hP,hP,oI ((((gtI (lenI r.visits) 20)||(gtI (lenI r.rests) 20))||(gtI (lenI b.visits) 20))=false),oR True ((((gtI (lenI r.visits) 20)||(gtI (lenI r.rests) 20))||(gtI (lenI b.visits) 20))=false),bT h0,cC (Qa7 h1),bT h0]
 ·obtain ⟨r2,h2,h⟩:=Qae h
  obtain ⟨r3,h3,h⟩:=Qae h
  rcases Qah h with ⟨h4,h⟩|⟨h4,h⟩
  ·obtain ⟨r4,h5,h⟩:=Qae h
   rcases Qah h with ⟨h6,h⟩|⟨h6,h⟩
   ·obtain ⟨r5,h7,h⟩:=Qae h
    rcases Qah h with ⟨h8,h⟩|⟨h8,h⟩
    ·obtain ⟨r6,h9,h⟩:=Qae h
     obtain ⟨r7,h10,h⟩:=Qae h
     rcases Qah h with ⟨h11,h⟩|⟨h11,h⟩
     ·obtain ⟨r8,h12,h⟩:=Qae h
      rcases Qah h with ⟨h13,h⟩|⟨h13,h⟩
      ·obtain ⟨r9,h14,h⟩:=Qae h
       obtain rfl:=Option.some.inj h
       exact gr 18 [] [hH (.draw 31 []),nL Qaa.enc r.visits,hP,hP,hP,rp 2 (oI ((gtI (lenI r.visits) 20)=false)),nL QaI r.rests,rp 5 hP,oI ((gtI (lenI r.visits) 20)=false),oR True ((gtI (lenI r.visits) 20)=false),rp 2 (oI (((gtI (lenI r.visits) 20)||(gtI (lenI r.rests) 20))=false)),nL Qaa.enc b.visits,rp 5 hP,oI (((gtI (lenI r.visits) 20)||(gtI (lenI r.rests) 20))=false),oR True (((gtI (lenI r.visits) 20)||(gtI (lenI r.rests) 20))=false),rp 2 (oI ((((gtI (lenI r.visits) 20)||(gtI (lenI r.rests) 20))||(gtI (lenI b.visits) 20))=false)),nL QaI b.rests,hP,hP,oI ((((gtI (lenI r.visits) 20)||(gtI (lenI r.rests) 20))||(gtI (lenI b.visits) 20))=false),oR True ((((gtI (lenI r.visits) 20)||(gtI (lenI r.rests) 20))||(gtI (lenI b.visits) 20))=false),rp 3 (bF h0),cC (Qhb h2),rp 3 (bF h0),cC (Qev h3),bF h0,bF h0,nF h4,cC (Qbc h5),rp 3 (nF h6),cC (QbR h7),nF h6,nF h6,nF h8,cC (Qbd h9),cC (Qew h10),rp 3 (bT h11),cC (QfP h12),bT h11,bT h13,cC (Qa7 h14),bT h13]
      ·obtain rfl:=Option.some.inj h
       exact gr 18 [] [hH (.draw 31 []),nL Qaa.enc r.visits,hP,hP,hP,rp 2 (oI ((gtI (lenI r.visits) 20)=false)),nL QaI r.rests,rp 5 hP,oI ((gtI (lenI r.visits) 20)=false),oR True ((gtI (lenI r.visits) 20)=false),rp 2 (oI (((gtI (lenI r.visits) 20)||(gtI (lenI r.rests) 20))=false)),nL Qaa.enc b.visits,rp 5 hP,oI (((gtI (lenI r.visits) 20)||(gtI (lenI r.rests) 20))=false),oR True (((gtI (lenI r.visits) 20)||(gtI (lenI r.rests) 20))=false),rp 2 (oI ((((gtI (lenI r.visits) 20)||(gtI (lenI r.rests) 20))||(gtI (lenI b.visits) 20))=false)),nL QaI b.rests,hP,hP,oI ((((gtI (lenI r.visits) 20)||(gtI (lenI r.rests) 20))||(gtI (lenI b.visits) 20))=false),oR True ((((gtI (lenI r.visits) 20)||(gtI (lenI r.rests) 20))||(gtI (lenI b.visits) 20))=false),rp 3 (bF h0),cC (Qhb h2),rp 3 (bF h0),cC (Qev h3),bF h0,bF h0,nF h4,cC (Qbc h5),rp 3 (nF h6),cC (QbR h7),nF h6,nF h6,nF h8,cC (Qbd h9),cC (Qew h10),rp 3 (bT h11),cC (QfP h12),bT h11,rp 2 (bF h13)]
     ·obtain rfl:=Option.some.inj h
      exact gr 18 [] [hH (.draw 31 []),nL Qaa.enc r.visits,hP,hP,hP,rp 2 (oI ((gtI (lenI r.visits) 20)=false)),nL QaI r.rests,rp 5 hP,oI ((gtI (lenI r.visits) 20)=false),oR True ((gtI (lenI r.visits) 20)=false),rp 2 (oI (((gtI (lenI r.visits) 20)||(gtI (lenI r.rests) 20))=false)),nL Qaa.enc b.visits,rp 5 hP,oI (((gtI (lenI r.visits) 20)||(gtI (lenI r.rests) 20))=false),oR True (((gtI (lenI r.visits) 20)||(gtI (lenI r.rests) 20))=false),rp 2 (oI ((((gtI (lenI r.visits) 20)||(gtI (lenI r.rests) 20))||(gtI (lenI b.visits) 20))=false)),nL QaI b.rests,hP,hP,oI ((((gtI (lenI r.visits) 20)||(gtI (lenI r.rests) 20))||(gtI (lenI b.visits) 20))=false),oR True ((((gtI (lenI r.visits) 20)||(gtI (lenI r.rests) 20))||(gtI (lenI b.visits) 20))=false),rp 3 (bF h0),cC (Qhb h2),rp 3 (bF h0),cC (Qev h3),bF h0,bF h0,nF h4,cC (Qbc h5),rp 3 (nF h6),cC (QbR h7),nF h6,nF h6,nF h8,cC (Qbd h9),cC (Qew h10),rp 4 (bF h11),fF,fF]
    ·obtain ⟨r10,h15,h⟩:=Qae h
     obtain rfl:=Option.some.inj h
     exact gr 13 [] [hH (.draw 31 []),nL Qaa.enc r.visits,hP,hP,hP,rp 2 (oI ((gtI (lenI r.visits) 20)=false)),nL QaI r.rests,rp 5 hP,oI ((gtI (lenI r.visits) 20)=false),oR True ((gtI (lenI r.visits) 20)=false),rp 2 (oI (((gtI (lenI r.visits) 20)||(gtI (lenI r.rests) 20))=false)),nL Qaa.enc b.visits,rp 5 hP,oI (((gtI (lenI r.visits) 20)||(gtI (lenI r.rests) 20))=false),oR True (((gtI (lenI r.visits) 20)||(gtI (lenI r.rests) 20))=false),rp 2 (oI ((((gtI (lenI r.visits) 20)||(gtI (lenI r.rests) 20))||(gtI (lenI b.visits) 20))=false)),nL QaI b.rests,hP,hP,oI ((((gtI (lenI r.visits) 20)||(gtI (lenI r.rests) 20))||(gtI (lenI b.visits) 20))=false),oR True ((((gtI (lenI r.visits) 20)||(gtI (lenI r.rests) 20))||(gtI (lenI b.visits) 20))=false),rp 3 (bF h0),cC (Qhb h2),rp 3 (bF h0),cC (Qev h3),bF h0,bF h0,nF h4,cC (Qbc h5),rp 3 (nF h6),cC (QbR h7),nF h6,nF h6,nT h8,cC (Qa7 h15)]
   ·obtain ⟨r11,h16,h⟩:=Qae h
    obtain rfl:=Option.some.inj h
    exact gr 13 [] [hH (.draw 31 []),nL Qaa.enc r.visits,hP,hP,hP,rp 2 (oI ((gtI (lenI r.visits) 20)=false)),nL QaI r.rests,rp 5 hP,oI ((gtI (lenI r.visits) 20)=false),oR True ((gtI (lenI r.visits) 20)=false),rp 2 (oI (((gtI (lenI r.visits) 20)||(gtI (lenI r.rests) 20))=false)),nL Qaa.enc b.visits,rp 5 hP,oI (((gtI (lenI r.visits) 20)||(gtI (lenI r.rests) 20))=false),oR True (((gtI (lenI r.visits) 20)||(gtI (lenI r.rests) 20))=false),rp 2 (oI ((((gtI (lenI r.visits) 20)||(gtI (lenI r.rests) 20))||(gtI (lenI b.visits) 20))=false)),nL QaI b.rests,hP,hP,oI ((((gtI (lenI r.visits) 20)||(gtI (lenI r.rests) 20))||(gtI (lenI b.visits) 20))=false),oR True ((((gtI (lenI r.visits) 20)||(gtI (lenI r.rests) 20))||(gtI (lenI b.visits) 20))=false),rp 3 (bF h0),cC (Qhb h2),rp 3 (bF h0),cC (Qev h3),bF h0,bF h0,nF h4,cC (Qbc h5),rp 5 (nT h6),tT,cC (Qa7 h16)]
  ·obtain rfl:=Option.some.inj h
   exact gr 8 [] [hH (.draw 31 []),nL Qaa.enc r.visits,hP,hP,hP,rp 2 (oI ((gtI (lenI r.visits) 20)=false)),nL QaI r.rests,rp 5 hP,oI ((gtI (lenI r.visits) 20)=false),oR True ((gtI (lenI r.visits) 20)=false),rp 2 (oI (((gtI (lenI r.visits) 20)||(gtI (lenI r.rests) 20))=false)),nL Qaa.enc b.visits,rp 5 hP,oI (((gtI (lenI r.visits) 20)||(gtI (lenI r.rests) 20))=false),oR True (((gtI (lenI r.visits) 20)||(gtI (lenI r.rests) 20))=false),rp 2 (oI ((((gtI (lenI r.visits) 20)||(gtI (lenI r.rests) 20))||(gtI (lenI b.visits) 20))=false)),nL QaI b.rests,hP,hP,oI ((((gtI (lenI r.visits) 20)||(gtI (lenI r.rests) 20))||(gtI (lenI b.visits) 20))=false),oR True ((((gtI (lenI r.visits) 20)||(gtI (lenI r.rests) 20))||(gtI (lenI b.visits) 20))=false),rp 3 (bF h0),cC (Qhb h2),rp 3 (bF h0),cC (Qev h3),bF h0,bF h0,nT h4,nL Qaa.enc r.visits,hP,hP,hP,rp 2 (oI ((gtI (lenI r.visits) 20)=false)),nL QaI r.rests,rp 5 hP,oI ((gtI (lenI r.visits) 20)=false),oR True ((gtI (lenI r.visits) 20)=false),rp 2 (oI (((gtI (lenI r.visits) 20)||(gtI (lenI r.rests) 20))=false)),nL Qaa.enc b.visits,rp 5 hP,oI (((gtI (lenI r.visits) 20)||(gtI (lenI r.rests) 20))=false),oR True (((gtI (lenI r.visits) 20)||(gtI (lenI r.rests) 20))=false),rp 2 (oI ((((gtI (lenI r.visits) 20)||(gtI (lenI r.rests) 20))||(gtI (lenI b.visits) 20))=false)),nL QaI b.rests,hP,hP,oI ((((gtI (lenI r.visits) 20)||(gtI (lenI r.rests) 20))||(gtI (lenI b.visits) 20))=false),oR True ((((gtI (lenI r.visits) 20)||(gtI (lenI r.rests) 20))||(gtI (lenI b.visits) 20))=false),bF h0,bF h0]
def Qjm (Γ:Gam) (rv:Bool) (cf:Cf):Prop:=Go Tryz.prog Tryz.f44 [] Γ (one (.bool rv)) [] cf
def Qn5 (Γ:Gam) (rv:Bool) (begins:List Qac) (at_:Int) (set_:Int) (i:Int) (k:Int):Prop:=Qjm Γ rv ⟨[.c 3364,.l 3364,.b 2,.b 1,.c 211,.l 52,.b 0,.c 7],⟨42,[vL 1 4 begins Qac.enc,vI 2 at_,vI 3 set_,vI 9 i,vI 10 k],[]⟩⟩
def Qnb (Γ:Gam) (rv:Bool) (begins:List Qac) (at_:Int) (set_:Int) (i:Int):Prop:=Qjm Γ rv ⟨[.b 1,.c 211,.l 52,.b 0,.c 7],⟨42,[vL 1 4 begins Qac.enc,vI 2 at_,vI 3 set_,vI 9 i],[]⟩⟩
def Qn4 (Γ:Gam) (rv:Bool) (begins:List Qac) (at_:Int) (set_:Int) (i:Int):Prop:=Qjm Γ rv ⟨[.c 52,.l 52,.b 0,.c 7],⟨42,[vL 1 4 begins Qac.enc,vI 2 at_,vI 3 set_,vI 9 i],[]⟩⟩
def Qna (Γ:Gam) (rv:Bool) (begins:List Qac) (at_:Int) (set_:Int):Prop:=Qjm Γ rv ⟨[.c 7],⟨42,[],[]⟩⟩
theorem Qs0 (Γ:Gam) (rv:Bool) {begins at_ set_ i} {s:Int} {e:(Unit)⊕(Bool)} (h:QaW (fun s=>Qdm begins at_ set_ i s) s=some e) (hD:sel e (fun e=>Qnb Γ rv begins at_ set_ i) (fun e=>e=rv)):Qn5 Γ rv begins at_ set_ i s:=by
 refine QaA (C:=fun (s:Int)=>Qn5 Γ rv begins at_ set_ i s) (D:=fun (e:(Unit)⊕(Bool))=>sel e (fun e=>Qnb Γ rv begins at_ set_ i) (fun e=>e=rv)) ?_ h hD
 clear h hD s e
 intro k z_ h hI hE
 replace h:Qdm begins at_ set_ i k=_:=h
 unfold Qdm at h
 obtain ⟨x1,h1,h⟩:=Qae h
 rcases Qah h with ⟨h2,h⟩|⟨h2,h⟩
 ·obtain ⟨x2,h3,h⟩:=Qae h
  obtain ⟨r,h4,h⟩:=Qae h
  rcases Qah h with ⟨h5,h⟩|⟨h5,h⟩
  ·exact gn 14 [1,2,3,9,10] [] [cE Qac.enc h1,nL Qaa.enc x1.visits,bT h2,cE Qac.enc h1,cE Qaa.enc h3,cC (Qjn h4),nF h5] (hI _ (oJ h))
  ·obtain rfl:=(hE _ (oJ h):_=rv)
   exact gr 12 [] [cE Qac.enc h1,nL Qaa.enc x1.visits,bT h2,cE Qac.enc h1,cE Qaa.enc h3,cC (Qjn h4),nT h5]
 ·exact gn 5 [1,2,3,9] [] [cE Qac.enc h1,nL Qaa.enc x1.visits,bF h2] (hE _ (oJ h))
theorem QsZ (Γ:Gam) (rv:Bool) {begins at_ set_} {s:Int} {e:(Unit)⊕(Bool)} (h:QaW (fun s=>Qdl begins at_ set_ s) s=some e) (hD:sel e (fun e=>Qna Γ rv begins at_ set_) (fun e=>e=rv)):Qn4 Γ rv begins at_ set_ s:=by
 refine QaA (C:=fun (s:Int)=>Qn4 Γ rv begins at_ set_ s) (D:=fun (e:(Unit)⊕(Bool))=>sel e (fun e=>Qna Γ rv begins at_ set_) (fun e=>e=rv)) ?_ h hD
 clear h hD s e
 intro i z_ h hI hE
 replace h:Qdl begins at_ set_ i=_:=h
 unfold Qdl at h
 rcases Qah h with ⟨h0,h⟩|⟨h0,h⟩
 ·obtain ⟨e0,h6,h⟩:=Qae h
  refine gn 11 [1,2,3,9,10] [] [nL Qac.enc begins,bT h0] (Qs0 Γ rv h6 ?_)
  rcases e0 with e0|e0
  ·replace h:(some (.inl (addK .i64 i 1)):Option ((Int)⊕((Unit)⊕(Bool))))=some _:=h
   exact gn 3 [1,2,3,9] [] [] (hI _ (oJ h))
  ·obtain ⟨r1,rfl⟩:∃ x,x=e0:=⟨_,rfl⟩
   replace h:(some (.inr (.inr r1)):Option ((Int)⊕((Unit)⊕(Bool))))=some _:=h
   exact (hE _ (oJ h):_=rv)
 ·exact gn 5 [] [] [nL Qac.enc begins,bF h0] (hE _ (oJ h))
theorem QfQ {x0 begins at_ set_} {rv:Bool} (h:QhO x0 begins at_ set_=some rv):AFn Tryz.prog 44 [.agg (Qad.enc x0),.one (lL 4 begins Qac.enc),.one (lI at_),.one (lI set_)] [] (one (.bool rv)) []:=by
 refine QaQ Tryz.func44 (by kernel_rfl) (by kernel_rfl) (fun Γ=>?_)
 unfold QhO at h
 obtain ⟨e1,h7,h⟩:=Qae h
 refine gn 7 [1,2,3,9] [] [] (QsZ Γ rv h7 ?_)
 rcases e1 with e1|e1
 ·replace h:(some true:Option Bool)=some _:=h
  obtain rfl:=Option.some.inj h
  exact gr 2 [] []
 ·obtain ⟨r2,rfl⟩:∃ x,x=e1:=⟨_,rfl⟩
  replace h:(some r2:Option Bool)=some _:=h
  exact Option.some.inj h
def QcB (Γ:Gam) (rv:List Qaf×Int) (cf:Cf):Prop:=Go Tryz.prog Tryz.f17 [] Γ (.tup [.one (lL 7 rv.1 Qaf.enc),.one (lI rv.2)]) [] cf
def Qo1 (Γ:Gam) (rv:List Qaf×Int) (x0:Qad) (begins:List Qac) (now:Int) (i:Int):Prop:=QcB Γ rv ⟨[.c 116,.l 116,.b 0,.c 15],⟨124,[vL 1 4 begins Qac.enc,vI 2 now,vP 3 0 6,vI 8 i],[oX 6 30 (Qad.enc x0)]⟩⟩
def QnW (Γ:Gam) (rv:List Qaf×Int) (x0:Qad) (begins:List Qac) (now:Int):Prop:=QcB Γ rv ⟨[.c 15],⟨124,[vL 1 4 begins Qac.enc,vI 2 now,vP 3 0 6],[oX 6 30 (Qad.enc x0)]⟩⟩
def Qo2 (Γ:Gam) (rv:List Qaf×Int) (x0:Qad) (begins:List Qac) (now:Int) (limit:Int) (i1:Int):Prop:=QcB Γ rv ⟨[.c 500,.l 500,.b 2,.c 63],⟨124,[vL 1 4 begins Qac.enc,vI 2 now,vP 3 0 6,vI 9 limit,vI 10 i1],[oX 6 30 (Qad.enc x0)]⟩⟩
def QnX (Γ:Gam) (rv:List Qaf×Int) (x0:Qad) (begins:List Qac) (now:Int) (limit1:Int):Prop:=QcB Γ rv ⟨[.c 63],⟨124,[vL 1 4 begins Qac.enc,vI 2 now,vP 3 0 6,vI 9 limit1],[oX 6 30 (Qad.enc x0)]⟩⟩
def Qo4 (Γ:Gam) (rv:List Qaf×Int) (x0:Qad) (begins:List Qac) (now:Int) (limit1:Int) (l:List Qaf) (i2:Int) (l1:List Qaf) (set_:Int):Prop:=QcB Γ rv ⟨[.c 130340,.l 130340,.b 6,.b 5,.c 8147,.l 2036,.b 4,.c 255],⟨124,[vL 1 4 begins Qac.enc,vI 2 now,vP 3 0 6,vI 9 limit1,vO 11 1 7 l1 Qaf.enc,vI 12 i2,vI 13 set_],[oX 6 30 (Qad.enc x0),oS 7 45 l1 Qaf.enc]⟩⟩
def QnZ (Γ:Gam) (rv:List Qaf×Int) (x0:Qad) (begins:List Qac) (now:Int) (limit1:Int) (l:List Qaf) (i2:Int) (l2:List Qaf):Prop:=QcB Γ rv ⟨[.b 5,.c 8147,.l 2036,.b 4,.c 255],⟨124,[vL 1 4 begins Qac.enc,vI 2 now,vP 3 0 6,vI 9 limit1,vO 11 1 7 l2 Qaf.enc,vI 12 i2],[oX 6 30 (Qad.enc x0),oS 7 45 l2 Qaf.enc]⟩⟩
def Qo3 (Γ:Gam) (rv:List Qaf×Int) (x0:Qad) (begins:List Qac) (now:Int) (limit1:Int) (l:List Qaf) (i2:Int):Prop:=QcB Γ rv ⟨[.c 2036,.l 2036,.b 4,.c 255],⟨124,[vL 1 4 begins Qac.enc,vI 2 now,vP 3 0 6,vI 9 limit1,vO 11 1 7 l Qaf.enc,vI 12 i2],[oX 6 30 (Qad.enc x0),oS 7 45 l Qaf.enc]⟩⟩
def QnY (Γ:Gam) (rv:List Qaf×Int) (x0:Qad) (begins:List Qac) (now:Int) (limit1:Int) (l3:List Qaf):Prop:=QcB Γ rv ⟨[.c 255],⟨124,[vL 1 4 begins Qac.enc,vI 2 now,vP 3 0 6,vI 9 limit1,vO 11 1 7 l3 Qaf.enc],[oX 6 30 (Qad.enc x0),oS 7 45 l3 Qaf.enc]⟩⟩
def Qo6 (Γ:Gam) (rv:List Qaf×Int) (x0:Qad) (begins:List Qac) (now:Int) (limit1:Int) (kind:Int) (l5:List Qaf) (set_1:Int):Prop:=QcB Γ rv ⟨[.c 261412,.l 261412,.b 10,.b 9,.c 16339,.l 4084,.b 8,.c 511],⟨124,[vL 1 4 begins Qac.enc,vI 2 now,vP 3 0 6,vI 9 limit1,vO 11 1 7 l5 Qaf.enc,vI 16 kind,vI 17 set_1],[oX 6 30 (Qad.enc x0),oS 7 45 l5 Qaf.enc]⟩⟩
def Qn1 (Γ:Gam) (rv:List Qaf×Int) (x0:Qad) (begins:List Qac) (now:Int) (limit1:Int) (kind:Int) (l6:List Qaf):Prop:=QcB Γ rv ⟨[.b 9,.c 16339,.l 4084,.b 8,.c 511],⟨124,[vL 1 4 begins Qac.enc,vI 2 now,vP 3 0 6,vI 9 limit1,vO 11 1 7 l6 Qaf.enc,vI 16 kind],[oX 6 30 (Qad.enc x0),oS 7 45 l6 Qaf.enc]⟩⟩
def Qo5 (Γ:Gam) (rv:List Qaf×Int) (x0:Qad) (begins:List Qac) (now:Int) (limit1:Int) (l4:List Qaf) (kind:Int):Prop:=QcB Γ rv ⟨[.c 4084,.l 4084,.b 8,.c 511],⟨124,[vL 1 4 begins Qac.enc,vI 2 now,vP 3 0 6,vI 9 limit1,vO 11 1 7 l4 Qaf.enc,vI 16 kind],[oX 6 30 (Qad.enc x0),oS 7 45 l4 Qaf.enc]⟩⟩
def Qn0 (Γ:Gam) (rv:List Qaf×Int) (x0:Qad) (begins:List Qac) (now:Int) (limit1:Int) (l7:List Qaf):Prop:=QcB Γ rv ⟨[.c 511],⟨124,[vO 11 0 7 l7 Qaf.enc],[oS 7 45 l7 Qaf.enc]⟩⟩
theorem QtG (Γ:Gam) (rv:List Qaf×Int) {x0 begins now} {s:Int} {e:(Unit)⊕(List Qaf×Int)} (h:QaW (fun s=>QdJ x0 begins now s) s=some e) (hD:sel e (fun e=>QnW Γ rv x0 begins now) (fun e=>e=rv)):Qo1 Γ rv x0 begins now s:=by
 refine QaA (C:=fun (s:Int)=>Qo1 Γ rv x0 begins now s) (D:=fun (e:(Unit)⊕(List Qaf×Int))=>sel e (fun e=>QnW Γ rv x0 begins now) (fun e=>e=rv)) ?_ h hD
 clear h hD s e
 intro i z_ h hI hE
 replace h:QdJ x0 begins now i=_:=h
 unfold QdJ at h
 rcases Qah h with ⟨h1,h⟩|⟨h1,h⟩
 ·obtain ⟨x1,h2,h⟩:=Qae h
  rcases Qah h with ⟨h3,h⟩|⟨h3,h⟩
  ·obtain rfl:=(hE _ (oJ h):_=rv)
   exact gr 12 [] [nL Qac.enc begins,bT h1,hH (.draw 17 []),cE Qac.enc h2,rp 10 (bT h3),tT,hW 4,hH (.nilS 6 0 7)]
  ·rcases Qah h with ⟨h4,h⟩|⟨h4,h⟩
   ·obtain rfl:=(hE _ (oJ h):_=rv)
    exact gr 12 [] [nL Qac.enc begins,bT h1,hH (.draw 17 []),cE Qac.enc h2,rp 3 (bF h3),cE Qac.enc h2,rp 5 (bF h3),nL Qak.enc x0.types,bF h3,bF h3,bT h4,hW 4,hH (.nilS 6 0 7)]
   ·exact gn 14 [1,2,3,8] [0] [nL Qac.enc begins,bT h1,hH (.draw 17 []),cE Qac.enc h2,rp 3 (bF h3),cE Qac.enc h2,rp 5 (bF h3),nL Qak.enc x0.types,bF h3,bF h3,bF h4] (hI _ (oJ h))
 ·exact gn 5 [1,2,3] [0] [nL Qac.enc begins,bF h1] (hE _ (oJ h))
theorem QtH (Γ:Gam) (rv:List Qaf×Int) {x0 begins now} {s:Int×Int} {e:Int} (h:QaW (fun s=>Qc9 x0 begins now s.1 s.2) s=some e) (hD:QnX Γ rv x0 begins now e):Qo2 Γ rv x0 begins now s.1 s.2:=by
 refine QaA (C:=fun (s:Int×Int)=>Qo2 Γ rv x0 begins now s.1 s.2) (D:=fun (e:Int)=>QnX Γ rv x0 begins now e) ?_ h hD
 clear h hD s e
 rintro ⟨limit,i1⟩ z_ h hI hE
 replace h:Qc9 x0 begins now limit i1=_:=h
 unfold Qc9 at h
 rcases Qah h with ⟨h6,h⟩|⟨h6,h⟩
 ·exact gn 11 [1,2,3,9,10] [0] [nL Qai.enc x0.orders,bT h6] (hI _ (oJ h))
 ·exact gn 5 [1,2,3,9] [0] [nL Qai.enc x0.orders,bF h6] (hE _ (oJ h))
theorem QtJ (Γ:Gam) (rv:List Qaf×Int) {x0 begins now limit1 l i2} {s:List Qaf×Int} {e:List Qaf} (h:QaW (fun s=>QdK x0 begins now limit1 l i2 s.1 s.2) s=some e) (hD:QnZ Γ rv x0 begins now limit1 l i2 e):Qo4 Γ rv x0 begins now limit1 l i2 s.1 s.2:=by
 refine QaA (C:=fun (s:List Qaf×Int)=>Qo4 Γ rv x0 begins now limit1 l i2 s.1 s.2) (D:=fun (e:List Qaf)=>QnZ Γ rv x0 begins now limit1 l i2 e) ?_ h hD
 clear h hD s e
 rintro ⟨l1,set_⟩ z_ h hI hE
 replace h:QdK x0 begins now limit1 l i2 l1 set_=_:=h
 unfold QdK at h
 rcases Qah h with ⟨h9,h⟩|⟨h9,h⟩
 ·obtain ⟨r,h10,h⟩:=Qae h
  rcases Qah h with ⟨h11,h⟩|⟨h11,h⟩
  ·obtain ⟨x2,h12,h⟩:=Qae h
   obtain ⟨r1,h13,h⟩:=Qae h
   rcases Qah h with ⟨h14,h⟩|⟨h14,h⟩
   ·obtain ⟨h15,h⟩:=Qau h
    exact gn 21 [1,2,3,9,11,12,13] [0,4] [bT h9,cC (QfQ h10),nF h11,hH (.draw 13 [(2,11)]),cE Qac.enc h12,cC (Qew h13),bT h14,oO (Eq.refl ([r1.1].map Qaf.enc).length),aO Qaf.enc h15] (hI _ (oJ h))
   ·exact gn 21 [1,2,3,9,11,12,13] [0,1] [bT h9,cC (QfQ h10),nF h11,hH (.draw 13 [(2,11)]),cE Qac.enc h12,cC (Qew h13),bF h14] (hI _ (oJ h))
  ·exact gn 14 [1,2,3,9,11,12,13] [0,1] [bT h9,cC (QfQ h10),nT h11] (hI _ (oJ h))
 ·exact gn 5 [1,2,3,9,11,12] [0,1] [bF h9] (hE _ (oJ h))
theorem QtI (Γ:Gam) (rv:List Qaf×Int) {x0 begins now limit1} {s:List Qaf×Int} {e:List Qaf} (h:QaW (fun s=>Qcg x0 begins now limit1 s.1 s.2) s=some e) (hD:QnY Γ rv x0 begins now limit1 e):Qo3 Γ rv x0 begins now limit1 s.1 s.2:=by
 refine QaA (C:=fun (s:List Qaf×Int)=>Qo3 Γ rv x0 begins now limit1 s.1 s.2) (D:=fun (e:List Qaf)=>QnY Γ rv x0 begins now limit1 e) ?_ h hD
 clear h hD s e
 rintro ⟨l,i2⟩ z_ h hI hE
 replace h:Qcg x0 begins now limit1 l i2=_:=h
 unfold Qcg at h
 rcases Qah h with ⟨h8,h⟩|⟨h8,h⟩
 ·obtain ⟨e2,h16,h⟩:=Qae h
  refine gn 11 [1,2,3,9,11,12,13] [0,1] [nL Qac.enc begins,bT h8] (QtJ Γ rv h16 ?_)
  obtain ⟨l2,rfl⟩:∃ x,x=e2:=⟨_,rfl⟩
  replace h:(some (.inl (l2,(addK .i64 i2 1))):Option ((List Qaf×Int)⊕(List Qaf)))=some _:=h
  exact gn 3 [1,2,3,9,11,12] [0,1] [] (hI _ (oJ h))
 ·exact gn 5 [1,2,3,9,11] [0,1] [nL Qac.enc begins,bF h8] (hE _ (oJ h))
theorem QtL (Γ:Gam) (rv:List Qaf×Int) {x0 begins now limit1 kind} {s:List Qaf×Int} {e:List Qaf} (h:QaW (fun s=>QdL x0 begins now limit1 kind s.1 s.2) s=some e) (hD:Qn1 Γ rv x0 begins now limit1 kind e):Qo6 Γ rv x0 begins now limit1 kind s.1 s.2:=by
 refine QaA (C:=fun (s:List Qaf×Int)=>Qo6 Γ rv x0 begins now limit1 kind s.1 s.2) (D:=fun (e:List Qaf)=>Qn1 Γ rv x0 begins now limit1 kind e) ?_ h hD
 clear h hD s e
 rintro ⟨l5,set_1⟩ z_ h hI hE
 replace h:QdL x0 begins now limit1 kind l5 set_1=_:=h
 unfold QdL at h
 rcases Qah h with ⟨h19,h⟩|⟨h19,h⟩
 ·obtain ⟨r2,h20,h⟩:=Qae h
  rcases Qah h with ⟨h21,h⟩|⟨h21,h⟩
  ·obtain ⟨r3,h22,h⟩:=Qae h
   rcases Qah h with ⟨h23,h⟩|⟨h23,h⟩
   ·obtain ⟨h24,h⟩:=Qau h
    exact gn 21 [1,2,3,9,11,16,17] [0,4] [bT h19,cC (QfQ h20),nF h21,hW 8,hH (.nilS 112 2 1),hH (.nilS 112 3 2),cC (Qew h22),bT h23,oO (Eq.refl ([r3.1].map Qaf.enc).length),aO Qaf.enc h24] (hI _ (oJ h))
   ·exact gn 21 [1,2,3,9,11,16,17] [0,1] [bT h19,cC (QfQ h20),nF h21,hW 8,hH (.nilS 112 2 1),hH (.nilS 112 3 2),cC (Qew h22),bF h23] (hI _ (oJ h))
  ·exact gn 14 [1,2,3,9,11,16,17] [0,1] [bT h19,cC (QfQ h20),nT h21] (hI _ (oJ h))
 ·exact gn 5 [1,2,3,9,11,16] [0,1] [bF h19] (hE _ (oJ h))
theorem QtK (Γ:Gam) (rv:List Qaf×Int) {x0 begins now limit1} {s:List Qaf×Int} {e:List Qaf} (h:QaW (fun s=>Qb0 x0 begins now limit1 s.1 s.2) s=some e) (hD:Qn0 Γ rv x0 begins now limit1 e):Qo5 Γ rv x0 begins now limit1 s.1 s.2:=by
 refine QaA (C:=fun (s:List Qaf×Int)=>Qo5 Γ rv x0 begins now limit1 s.1 s.2) (D:=fun (e:List Qaf)=>Qn0 Γ rv x0 begins now limit1 e) ?_ h hD
 clear h hD s e
 rintro ⟨l4,kind⟩ z_ h hI hE
 replace h:Qb0 x0 begins now limit1 l4 kind=_:=h
 unfold Qb0 at h
 rcases Qah h with ⟨h18,h⟩|⟨h18,h⟩
 ·obtain ⟨e4,h25,h⟩:=Qae h
  refine gn 11 [1,2,3,9,11,16,17] [0,1] [nL Qak.enc x0.types,bT h18] (QtL Γ rv h25 ?_)
  obtain ⟨l6,rfl⟩:∃ x,x=e4:=⟨_,rfl⟩
  replace h:(some (.inl (l6,(addK .i64 kind 1))):Option ((List Qaf×Int)⊕(List Qaf)))=some _:=h
  exact gn 3 [1,2,3,9,11,16] [0,1] [] (hI _ (oJ h))
 ·exact gn 5 [11] [1] [nL Qak.enc x0.types,bF h18] (hE _ (oJ h))
theorem QqX {x0 begins now} {rv:List Qaf×Int} (h:QiG x0 begins now=some rv):AFn Tryz.prog 17 [.agg (Qad.enc x0),.one (lL 4 begins Qac.enc),.one (lI now)] [] (.tup [.one (lL 7 rv.1 Qaf.enc),.one (lI rv.2)]) []:=by
 refine QaQ Tryz.func17 (by kernel_rfl) (by kernel_rfl) (fun Γ=>?_)
 unfold QiG at h
 rcases Qah h with ⟨h0,h⟩|⟨h0,h⟩
 ·obtain rfl:=Option.some.inj h
  exact gr 8 [] [hP,hP,hP,oI ((ltI now 0)=false),oR True ((ltI now 0)=false),bT h0,hW 4,hH (.nilS 6 0 7)]
 ·obtain ⟨e0,h5,h⟩:=Qae h
  refine gn 12 [1,2,3,8] [0] [hP,hP,hP,oI ((ltI now 0)=false),oR True ((ltI now 0)=false),bF h0] (QtG Γ rv h5 ?_)
  rcases e0 with e0|e0
  ·replace h:(bnd (QaW (fun s=>Qc9 x0 begins now s.1 s.2) (1,0)) (fun limit1=>bnd (QaW (fun s=>Qcg x0 begins now limit1 s.1 s.2) ([],0)) (fun l3=>bnd (QaW (fun s=>Qb0 x0 begins now limit1 s.1 s.2) (l3,0)) (fun l7=>some (l7,0)))):Option (List Qaf×Int))=some _:=h
   obtain ⟨e1,h7,h⟩:=Qae h
   refine gn 7 [1,2,3,9,10] [0] [] (QtH Γ rv h7 ?_)
   obtain ⟨limit1,rfl⟩:∃ x,x=e1:=⟨_,rfl⟩
   replace h:(bnd (QaW (fun s=>Qcg x0 begins now limit1 s.1 s.2) ([],0)) (fun l3=>bnd (QaW (fun s=>Qb0 x0 begins now limit1 s.1 s.2) (l3,0)) (fun l7=>some (l7,0))):Option (List Qaf×Int))=some _:=h
   obtain ⟨e3,h17,h⟩:=Qae h
   refine gn 7 [1,2,3,9,11,12] [0,1] [hW 9,hH (.adopt 11 7 45)] (QtI Γ rv h17 ?_)
   obtain ⟨l3,rfl⟩:∃ x,x=e3:=⟨_,rfl⟩
   replace h:(bnd (QaW (fun s=>Qb0 x0 begins now limit1 s.1 s.2) (l3,0)) (fun l7=>some (l7,0)):Option (List Qaf×Int))=some _:=h
   obtain ⟨e5,h26,h⟩:=Qae h
   refine gn 5 [1,2,3,9,11,16] [0,1] [] (QtK Γ rv h26 ?_)
   obtain ⟨l7,rfl⟩:∃ x,x=e5:=⟨_,rfl⟩
   replace h:(some (l7,0):Option (List Qaf×Int))=some _:=h
   obtain rfl:=Option.some.inj h
   exact gr 2 [] [hW 5,hH (.frz 0),rp 3 (eL l7 Qaf.enc)]
  ·obtain ⟨r4,rfl⟩:∃ x,x=e0:=⟨_,rfl⟩
   replace h:(some r4:Option (List Qaf×Int))=some _:=h
   exact Option.some.inj h
def Qgl (Γ:Gam) (rv:Bool) (cf:Cf):Prop:=Go Tryz.prog Tryz.f3 [] Γ (one (.bool rv)) [] cf
def QjA (Γ:Gam) (rv:Bool) (x0:Qad) (l:List Qac) (now:Int) (v:Int):Prop:=Qgl Γ rv ⟨[.c 116,.l 116,.b 0,.c 15],⟨76,[vL 1 4 l Qac.enc,vI 2 now,vP 3 0 6,vL 23 4 l Qac.enc,vI 24 (lenI l),vI 25 v],[oX 6 30 (Qad.enc x0)]⟩⟩
def Qi1 (Γ:Gam) (rv:Bool) (x0:Qad) (l:List Qac) (now:Int):Prop:=Qgl Γ rv ⟨[.c 15],⟨76,[vL 1 4 l Qac.enc,vI 2 now,vP 3 0 6],[oX 6 30 (Qad.enc x0)]⟩⟩
def QjB (Γ:Gam) (rv:Bool) (l:List Qac) (r4:List Qaf×Int) (r5:List Qaf×Int) (v1:Int):Prop:=Qgl Γ rv ⟨[.c 2036,.l 2036,.b 2,.c 255],⟨76,[vL 9 7 r4.1 Qaf.enc,vL 11 7 r5.1 Qaf.enc,vI 60 (lenI r4.1),vI 61 v1],[]⟩⟩
def Qi2 (Γ:Gam) (rv:Bool) (l:List Qac) (r4:List Qaf×Int) (r5:List Qaf×Int):Prop:=Qgl Γ rv ⟨[.c 255],⟨76,[],[]⟩⟩
theorem Qpt (Γ:Gam) (rv:Bool) {x0 l now} {s:Int} {e:(Unit)⊕(Bool)} (h:QaW (fun s=>QdD x0 l now s) s=some e) (hD:sel e (fun e=>Qi1 Γ rv x0 l now) (fun e=>e=rv)):QjA Γ rv x0 l now s:=by
 refine QaA (C:=fun (s:Int)=>QjA Γ rv x0 l now s) (D:=fun (e:(Unit)⊕(Bool))=>sel e (fun e=>Qi1 Γ rv x0 l now) (fun e=>e=rv)) ?_ h hD
 clear h hD s e
 intro v z_ h hI hE
 replace h:QdD x0 l now v=_:=h
 unfold QdD at h
 rcases Qah h with ⟨h3,h⟩|⟨h3,h⟩
 ·obtain ⟨x1,h4,h⟩:=Qae h
  obtain ⟨r2,h5,h⟩:=Qae h
  rcases Qah h with ⟨h6,h⟩|⟨h6,h⟩
  ·exact gn 16 [1,2,3,23,24,25] [0] [bT h3,cE Qac.enc h4,cC (QbR h5),nF h6] (hI _ (oJ h))
  ·obtain ⟨r3,h7,h⟩:=Qae h
   obtain rfl:=(hE _ (oJ h):_=rv)
   exact gr 14 [] [bT h3,cE Qac.enc h4,cC (QbR h5),nT h6,cC (Qa7 h7)]
 ·exact gn 5 [1,2,3] [0] [bF h3] (hE _ (oJ h))
theorem Qpu (Γ:Gam) (rv:Bool) {l r4 r5} {s:Int} {e:(Unit)⊕(Bool)} (h:QaW (fun s=>QbG l r4 r5 s) s=some e) (hD:sel e (fun e=>Qi2 Γ rv l r4 r5) (fun e=>e=rv)):QjB Γ rv l r4 r5 s:=by
 refine QaA (C:=fun (s:Int)=>QjB Γ rv l r4 r5 s) (D:=fun (e:(Unit)⊕(Bool))=>sel e (fun e=>Qi2 Γ rv l r4 r5) (fun e=>e=rv)) ?_ h hD
 clear h hD s e
 intro v1 z_ h hI hE
 replace h:QbG l r4 r5 v1=_:=h
 unfold QbG at h
 rcases Qah h with ⟨h12,h⟩|⟨h12,h⟩
 ·obtain ⟨x2,h13,h⟩:=Qae h
  obtain ⟨x3,h14,h⟩:=Qae h
  obtain ⟨r6,h15,h⟩:=Qae h
  rcases Qah h with ⟨h16,h⟩|⟨h16,h⟩
  ·exact gn 16 [9,11,60,61] [] [bT h12,hH (.draw 10 []),cE Qaf.enc h13,cE Qaf.enc h14,cC (QfP h15),nF h16] (hI _ (oJ h))
  ·obtain rfl:=(hE _ (oJ h):_=rv)
   exact gr 14 [] [bT h12,hH (.draw 10 []),cE Qaf.enc h13,cE Qaf.enc h14,cC (QfP h15),nT h16]
 ·exact gn 5 [] [] [bF h12] (hE _ (oJ h))
theorem Qq9 {x0 l now} {rv:Bool} (h:Qhk x0 l now=some rv):AFn Tryz.prog 3 [.agg (Qad.enc x0),.one (lL 4 l Qac.enc),.one (lI now)] [] (one (.bool rv)) []:=by
 refine QaQ Tryz.func3 (by kernel_rfl) (by kernel_rfl) (fun Γ=>?_)
 unfold Qhk at h
 obtain ⟨r,h0,h⟩:=Qae h
 rcases Qah h with ⟨h1,h⟩|⟨h1,h⟩
 ·obtain ⟨r1,h2,h⟩:=Qae h
  obtain rfl:=Option.some.inj h
  exact gr 8 [] [cC (Qbc h0),hP,hP,oI ((!r)=false),nL Qac.enc l,hP,hP,oI ((!r)=false),oR True ((!r)=false),bT h1,cC (Qa7 h2)]
 ·obtain ⟨e0,h8,h⟩:=Qae h
  refine gn 12 [1,2,3,23,24,25] [0] [cC (Qbc h0),hP,hP,oI ((!r)=false),nL Qac.enc l,hP,hP,oI ((!r)=false),oR True ((!r)=false),bF h1,nL Qac.enc l] (Qpt Γ rv h8 ?_)
  rcases e0 with e0|e0
  ·replace h:(bnd (Qob x0 l now) fun r4=>bnd (QiG x0 l now) fun r5=>br ((neI r4.2 r5.2)||(neI (lenI r4.1) (lenI r5.1))) (some false) (bnd (QaW (fun s=>QbG l r4 r5 s) 0) (fun e=>sel e (fun (_:Unit)=>bnd (QaS) fun r7=>some r7) (fun r8=>some r8))):Option Bool)=some _:=h
   obtain ⟨r4,h9,h⟩:=Qae h
   obtain ⟨r5,h10,h⟩:=Qae h
   rcases Qah h with ⟨h11,h⟩|⟨h11,h⟩
   ·obtain rfl:=Option.some.inj h
    exact gr 10 [] [cC (QjQ h9),cC (QqX h10),hP,hP,oI ((neI r4.2 r5.2)=false),nL Qaf.enc r4.1,hP,hP,oI ((neI r4.2 r5.2)=false),nL Qaf.enc r5.1,hP,hP,rp 2 (oI ((neI r4.2 r5.2)=false)),oR True ((neI r4.2 r5.2)=false),bT h11]
   ·obtain ⟨e1,h17,h⟩:=Qae h
    refine gn 14 [9,11,60,61] [] [cC (QjQ h9),cC (QqX h10),hP,hP,oI ((neI r4.2 r5.2)=false),nL Qaf.enc r4.1,hP,hP,oI ((neI r4.2 r5.2)=false),nL Qaf.enc r5.1,hP,hP,rp 2 (oI ((neI r4.2 r5.2)=false)),oR True ((neI r4.2 r5.2)=false),bF h11,nL Qaf.enc r4.1] (Qpu Γ rv h17 ?_)
    rcases e1 with e1|e1
    ·replace h:(bnd (QaS) fun r7=>some r7:Option Bool)=some _:=h
     obtain ⟨r7,h18,h⟩:=Qae h
     obtain rfl:=Option.some.inj h
     exact gr 2 [] [cC (Qa7 h18)]
    ·obtain ⟨r8,rfl⟩:∃ x,x=e1:=⟨_,rfl⟩
     replace h:(some r8:Option Bool)=some _:=h
     exact Option.some.inj h
  ·obtain ⟨r9,rfl⟩:∃ x,x=e0:=⟨_,rfl⟩
   replace h:(some r9:Option Bool)=some _:=h
   exact Option.some.inj h
theorem QpP {x0 r at_} {rv:Bool} (h:Qgm x0 r at_=some rv):AFn Tryz.prog 4 [.agg (Qad.enc x0),.agg (Qac.enc r),.one (.int .u8 at_)] [] (one (.bool rv)) []:=by
 refine QaQ Tryz.func4 (by kernel_rfl) (by kernel_rfl) (fun Γ=>?_)
 unfold Qgm at h
 obtain ⟨r1,h0,h⟩:=Qae h
 rcases Qah h with ⟨h1,h⟩|⟨h1,h⟩
 ·obtain ⟨r2,h2,h⟩:=Qae h
  obtain rfl:=Option.some.inj h
  exact gr 8 [] [cC (Qbc h0),hP,hP,hP,rp 2 (oI ((!r1)=false)),nL Qaa.enc r.visits,rp 5 hP,oI ((!r1)=false),oR True ((!r1)=false),rp 2 (oI (((!r1)||(eqI (lenI r.visits) 0))=false)),nL QaI r.rests,hP,hP,hP,rp 2 (oI (((!r1)||(eqI (lenI r.visits) 0))=false)),nL Qaa.enc r.visits,hP,hP,rp 2 (oI (((!r1)||(eqI (lenI r.visits) 0))=false)),oR True (((!r1)||(eqI (lenI r.visits) 0))=false),bT h1,cC (Qa7 h2)]
 ·obtain ⟨r3,h3,h⟩:=Qae h
  obtain ⟨r4,h4,h⟩:=Qae h
  rcases Qah h with ⟨h5,h⟩|⟨h5,h⟩
  ·obtain ⟨r5,h6,h⟩:=Qae h
   obtain rfl:=Option.some.inj h
   exact gr 17 [] [cC (Qbc h0),hP,hP,hP,rp 2 (oI ((!r1)=false)),nL Qaa.enc r.visits,rp 5 hP,oI ((!r1)=false),oR True ((!r1)=false),rp 2 (oI (((!r1)||(eqI (lenI r.visits) 0))=false)),nL QaI r.rests,hP,hP,hP,rp 2 (oI (((!r1)||(eqI (lenI r.visits) 0))=false)),nL Qaa.enc r.visits,hP,hP,rp 2 (oI (((!r1)||(eqI (lenI r.visits) 0))=false)),oR True (((!r1)||(eqI (lenI r.visits) 0))=false),bF h1,cC (Qfv h3),cC (Qbv h4),hP,hP,hP,oI ((neI r3.2 0)=false),oR True ((neI r3.2 0)=false),bT h5,cC (Qa7 h6)]
  ·obtain ⟨h7,h⟩:=Qau h
   obtain ⟨l,h8,h⟩:=Qae h
   obtain ⟨r6,h9,h⟩:=Qae h
   rcases Qah h with ⟨h10,h⟩|⟨h10,h⟩
   ·obtain ⟨r7,h11,h⟩:=Qae h
    obtain rfl:=Option.some.inj h
    exact gr 26 [] [cC (Qbc h0),hP,hP,hP,rp 2 (oI ((!r1)=false)),nL Qaa.enc r.visits,rp 5 hP,oI ((!r1)=false),oR True ((!r1)=false),rp 2 (oI (((!r1)||(eqI (lenI r.visits) 0))=false)),nL QaI r.rests,hP,hP,hP,rp 2 (oI (((!r1)||(eqI (lenI r.visits) 0))=false)),nL Qaa.enc r.visits,hP,hP,rp 2 (oI (((!r1)||(eqI (lenI r.visits) 0))=false)),oR True (((!r1)||(eqI (lenI r.visits) 0))=false),bF h1,cC (Qfv h3),cC (Qbv h4),hP,hP,hP,oI ((neI r3.2 0)=false),oR True ((neI r3.2 0)=false),bF h5,hH (.draw 12 []),nL QaI r.rests,nL Qaa.enc r.visits,oO (h7),hH (.rows (l.map Qaa.enc)),oO (sl1 h8),oO (sl2 h8),oO (sl3 Qaa.enc h8),oO (Int.le_refl (maxI (lenI r.rests) (remK (cvK .i64 at_) (addK .i64 (lenI r.visits) 1)))),oO (sl3 Qaa.enc h8),oO (sl6 Qaa.enc h8),cC (Qbd h9),rp 5 hP,rp 3 (oI ((eqI r6.2 0)=true)),oR True ((eqI r6.2 0)=true),bT h10,cC (Qa7 h11),bT h10]
   ·obtain rfl:=Option.some.inj h
    exact gr 26 [] [cC (Qbc h0),hP,hP,hP,rp 2 (oI ((!r1)=false)),nL Qaa.enc r.visits,rp 5 hP,oI ((!r1)=false),oR True ((!r1)=false),rp 2 (oI (((!r1)||(eqI (lenI r.visits) 0))=false)),nL QaI r.rests,hP,hP,hP,rp 2 (oI (((!r1)||(eqI (lenI r.visits) 0))=false)),nL Qaa.enc r.visits,hP,hP,rp 2 (oI (((!r1)||(eqI (lenI r.visits) 0))=false)),oR True (((!r1)||(eqI (lenI r.visits) 0))=false),bF h1,cC (Qfv h3),cC (Qbv h4),hP,hP,hP,oI ((neI r3.2 0)=false),oR True ((neI r3.2 0)=false),bF h5,hH (.draw 12 []),nL QaI r.rests,nL Qaa.enc r.visits,oO (h7),hH (.rows (l.map Qaa.enc)),oO (sl1 h8),oO (sl2 h8),oO (sl3 Qaa.enc h8),oO (Int.le_refl (maxI (lenI r.rests) (remK (cvK .i64 at_) (addK .i64 (lenI r.visits) 1)))),oO (sl3 Qaa.enc h8),oO (sl6 Qaa.enc h8),cC (Qbd h9),rp 5 hP,rp 3 (oI ((eqI r6.2 0)=true)),oR True ((eqI r6.2 0)=true),rp 2 (bF h10)]
def Qe3 (Γ:Gam) (rv:Bool) (cf:Cf):Prop:=Go Tryz.prog Tryz.f5 [] Γ (one (.bool rv)) [] cf
def Qie (Γ:Gam) (rv:Bool) (x0:Qad) (b:Qac) (set_:Int) (r2:Qaf×Int) (v:Int):Prop:=Qe3 Γ rv ⟨[.c 8180,.l 8180,.b 0,.c 1023],⟨196,[vI 2 set_,vP 3 0 6,vP 4 1 4,vP 7 2 7,vP 9 3 4,vL 127 2 b.visits Qaa.enc,vI 128 (lenI b.visits),vI 129 v],[oX 6 30 (Qad.enc x0),oX 4 37 (Qac.enc b),oX 7 45 (Qaf.enc r2.1),oX 4 37 (Qac.enc r2.1.route)]⟩⟩
def QhW (Γ:Gam) (rv:Bool) (x0:Qad) (b:Qac) (set_:Int) (r2:Qaf×Int):Prop:=Qe3 Γ rv ⟨[.c 1023],⟨196,[vI 2 set_,vP 3 0 6,vP 4 1 4,vP 7 2 7,vP 9 3 4],[oX 6 30 (Qad.enc x0),oX 4 37 (Qac.enc b),oX 7 45 (Qaf.enc r2.1),oX 4 37 (Qac.enc r2.1.route)]⟩⟩
def Qif (Γ:Gam) (rv:Bool) (x0:Qad) (b:Qac) (set_:Int) (r2:Qaf×Int) (v1:Int):Prop:=Qe3 Γ rv ⟨[.c 16372,.l 16372,.b 2,.c 2047],⟨196,[vI 2 set_,vP 3 0 6,vP 4 1 4,vP 7 2 7,vP 9 3 4,vL 143 1 b.rests QaI,vI 144 (lenI b.rests),vI 145 v1],[oX 6 30 (Qad.enc x0),oX 4 37 (Qac.enc b),oX 7 45 (Qaf.enc r2.1),oX 4 37 (Qac.enc r2.1.route)]⟩⟩
def QhX (Γ:Gam) (rv:Bool) (x0:Qad) (b:Qac) (set_:Int) (r2:Qaf×Int):Prop:=Qe3 Γ rv ⟨[.c 2047],⟨196,[vI 2 set_,vP 3 0 6,vP 4 1 4,vP 7 2 7,vP 9 3 4],[oX 6 30 (Qad.enc x0),oX 4 37 (Qac.enc b),oX 7 45 (Qaf.enc r2.1),oX 4 37 (Qac.enc r2.1.route)]⟩⟩
theorem Qnl (Γ:Gam) (rv:Bool) {x0 b set_ r2} {s:Int} {e:(Unit)⊕(Bool)} (h:QaW (fun s=>Qbx x0 b set_ r2 s) s=some e) (hD:sel e (fun e=>QhW Γ rv x0 b set_ r2) (fun e=>e=rv)):Qie Γ rv x0 b set_ r2 s:=by
 refine QaA (C:=fun (s:Int)=>Qie Γ rv x0 b set_ r2 s) (D:=fun (e:(Unit)⊕(Bool))=>sel e (fun e=>QhW Γ rv x0 b set_ r2) (fun e=>e=rv)) ?_ h hD
 clear h hD s e
 intro v z_ h hI hE
 replace h:Qbx x0 b set_ r2 v=_:=h
 unfold Qbx at h
 rcases Qah h with ⟨h11,h⟩|⟨h11,h⟩
 ·obtain ⟨x1,h12,h⟩:=Qae h
  obtain ⟨x2,h13,h⟩:=Qae h
  rcases Qah h with ⟨h14,h⟩|⟨h14,h⟩
  ·exact gn 16 [2,3,4,7,9,127,128,129] [0,1,2,3] [bT h11,cE Qaa.enc h12,hH (.draw 7 []),cE Qaa.enc h13,nF h14] (hI _ (oJ h))
  ·obtain rfl:=(hE _ (oJ h):_=rv)
   exact gr 14 [] [bT h11,cE Qaa.enc h12,hH (.draw 7 []),cE Qaa.enc h13,nT h14]
 ·exact gn 5 [2,3,4,7,9] [0,1,2,3] [bF h11] (hE _ (oJ h))
theorem Qnm (Γ:Gam) (rv:Bool) {x0 b set_ r2} {s:Int} {e:(Unit)⊕(Bool)} (h:QaW (fun s=>Qbn x0 b set_ r2 s) s=some e) (hD:sel e (fun e=>QhX Γ rv x0 b set_ r2) (fun e=>e=rv)):Qif Γ rv x0 b set_ r2 s:=by
 refine QaA (C:=fun (s:Int)=>Qif Γ rv x0 b set_ r2 s) (D:=fun (e:(Unit)⊕(Bool))=>sel e (fun e=>QhX Γ rv x0 b set_ r2) (fun e=>e=rv)) ?_ h hD
 clear h hD s e
 intro v1 z_ h hI hE
 replace h:Qbn x0 b set_ r2 v1=_:=h
 unfold Qbn at h
 rcases Qah h with ⟨h16,h⟩|⟨h16,h⟩
 ·obtain ⟨x3,h17,h⟩:=Qae h
  obtain ⟨x4,h18,h⟩:=Qae h
  rcases Qah h with ⟨h19,h⟩|⟨h19,h⟩
  ·exact gn 16 [2,3,4,7,9,143,144,145] [0,1,2,3] [bT h16,cE QaI h17,cE QaI h18,nF h19] (hI _ (oJ h))
  ·obtain rfl:=(hE _ (oJ h):_=rv)
   exact gr 14 [] [bT h16,cE QaI h17,cE QaI h18,nT h19]
 ·exact gn 5 [2,3,4,7,9] [0,1,2,3] [bF h16] (hE _ (oJ h))
theorem Qpv {x0 b set_} {rv:Bool} (h:Qf3 x0 b set_=some rv):AFn Tryz.prog 5 [.agg (Qad.enc x0),.agg (Qac.enc b),.one (lI set_)] [] (one (.bool rv)) []:=by
 refine QaQ Tryz.func5 (by kernel_rfl) (by kernel_rfl) (fun Γ=>?_)
 unfold Qf3 at h
 obtain ⟨r,h0,h⟩:=Qae h
 rcases Qah h with ⟨h1,h⟩|⟨h1,h⟩
 ·obtain ⟨r1,h2,h⟩:=Qae h
  rcases Qah h with ⟨h3,h⟩|⟨h3,h⟩
  ·obtain ⟨r2,h4,h⟩:=Qae h
   rcases Qah h with ⟨h5,h⟩|⟨h5,h⟩
   ·rcases Qah h with ⟨h6,h⟩|⟨h6,h⟩
    ·obtain ⟨r3,h7,h⟩:=Qae h
     obtain rfl:=Option.some.inj h
     exact gr 15 [] [cC (Qbc h0),rp 3 (nF h1),cC (QbR h2),nF h1,nF h1,nF h3,cC (Qbd h4),bT h5,rp 4 hP,rp 2 (oI ((eqI r2.1.set_ 0)=true)),oR True ((eqI r2.1.set_ 0)=true),bT h6,cC (Qa7 h7),bT h6]
    ·obtain rfl:=Option.some.inj h
     exact gr 15 [] [cC (Qbc h0),rp 3 (nF h1),cC (QbR h2),nF h1,nF h1,nF h3,cC (Qbd h4),bT h5,rp 4 hP,rp 2 (oI ((eqI r2.1.set_ 0)=true)),oR True ((eqI r2.1.set_ 0)=true),bF h6,bF h6]
   ·obtain ⟨r4,h8,h⟩:=Qae h
    obtain ⟨r5,h9,h⟩:=Qae h
    rcases Qah h with ⟨h10,h⟩|⟨h10,h⟩
    ·obtain rfl:=Option.some.inj h
     exact gr 26 [] [cC (Qbc h0),rp 3 (nF h1),cC (QbR h2),nF h1,nF h1,nF h3,cC (Qbd h4),bF h5,cC (Qbv h8),cC (Qfv h9),rp 38 hP,oI ((neI r4.2 0)=false),oR True ((neI r4.2 0)=false),rp 2 (oI (((neI r4.2 0)||(neI r5.2 0))=false)),oR True (((neI r4.2 0)||(neI r5.2 0))=false),rp 3 (oI ((((neI r4.2 0)||(neI r5.2 0))||(neI r4.1 set_))=false)),oR True ((((neI r4.2 0)||(neI r5.2 0))||(neI r4.1 set_))=false),rp 3 (oI (((((neI r4.2 0)||(neI r5.2 0))||(neI r4.1 set_))||(neI r5.1 r2.1.price))=false)),oR True (((((neI r4.2 0)||(neI r5.2 0))||(neI r4.1 set_))||(neI r5.1 r2.1.price))=false),rp 4 (oI ((((((neI r4.2 0)||(neI r5.2 0))||(neI r4.1 set_))||(neI r5.1 r2.1.price))||(neI r2.1.set_ set_))=false)),oR True ((((((neI r4.2 0)||(neI r5.2 0))||(neI r4.1 set_))||(neI r5.1 r2.1.price))||(neI r2.1.set_ set_))=false),rp 4 (oI (((((((neI r4.2 0)||(neI r5.2 0))||(neI r4.1 set_))||(neI r5.1 r2.1.price))||(neI r2.1.set_ set_))||(neI r2.1.type_ b.type_))=false)),oR True (((((((neI r4.2 0)||(neI r5.2 0))||(neI r4.1 set_))||(neI r5.1 r2.1.price))||(neI r2.1.set_ set_))||(neI r2.1.type_ b.type_))=false),rp 4 (oI ((((((((neI r4.2 0)||(neI r5.2 0))||(neI r4.1 set_))||(neI r5.1 r2.1.price))||(neI r2.1.set_ set_))||(neI r2.1.type_ b.type_))||(neI r2.1.route.type_ b.type_))=false)),oR True ((((((((neI r4.2 0)||(neI r5.2 0))||(neI r4.1 set_))||(neI r5.1 r2.1.price))||(neI r2.1.set_ set_))||(neI r2.1.type_ b.type_))||(neI r2.1.route.type_ b.type_))=false),rp 2 (oI (((((((((neI r4.2 0)||(neI r5.2 0))||(neI r4.1 set_))||(neI r5.1 r2.1.price))||(neI r2.1.set_ set_))||(neI r2.1.type_ b.type_))||(neI r2.1.route.type_ b.type_))||(neI r2.1.route.start b.start))=false)),nL QaI r2.1.route.rests,hP,hP,hP,rp 2 (oI (((((((((neI r4.2 0)||(neI r5.2 0))||(neI r4.1 set_))||(neI r5.1 r2.1.price))||(neI r2.1.set_ set_))||(neI r2.1.type_ b.type_))||(neI r2.1.route.type_ b.type_))||(neI r2.1.route.start b.start))=false)),nL QaI b.rests,rp 5 hP,rp 2 (oI (((((((((neI r4.2 0)||(neI r5.2 0))||(neI r4.1 set_))||(neI r5.1 r2.1.price))||(neI r2.1.set_ set_))||(neI r2.1.type_ b.type_))||(neI r2.1.route.type_ b.type_))||(neI r2.1.route.start b.start))=false)),oR True (((((((((neI r4.2 0)||(neI r5.2 0))||(neI r4.1 set_))||(neI r5.1 r2.1.price))||(neI r2.1.set_ set_))||(neI r2.1.type_ b.type_))||(neI r2.1.route.type_ b.type_))||(neI r2.1.route.start b.start))=false),rp 2 (oI ((((((((((neI r4.2 0)||(neI r5.2 0))||(neI r4.1 set_))||(neI r5.1 r2.1.price))||(neI r2.1.set_ set_))||(neI r2.1.type_ b.type_))||(neI r2.1.route.type_ b.type_))||(neI r2.1.route.start b.start))||(neI (lenI r2.1.route.rests) (lenI b.rests)))=false)),nL Qaa.enc r2.1.route.visits,hP,hP,hP,rp 2 (oI ((((((((((neI r4.2 0)||(neI r5.2 0))||(neI r4.1 set_))||(neI r5.1 r2.1.price))||(neI r2.1.set_ set_))||(neI r2.1.type_ b.type_))||(neI r2.1.route.type_ b.type_))||(neI r2.1.route.start b.start))||(neI (lenI r2.1.route.rests) (lenI b.rests)))=false)),nL Qaa.enc b.visits,hP,hP,rp 2 (oI ((((((((((neI r4.2 0)||(neI r5.2 0))||(neI r4.1 set_))||(neI r5.1 r2.1.price))||(neI r2.1.set_ set_))||(neI r2.1.type_ b.type_))||(neI r2.1.route.type_ b.type_))||(neI r2.1.route.start b.start))||(neI (lenI r2.1.route.rests) (lenI b.rests)))=false)),oR True ((((((((((neI r4.2 0)||(neI r5.2 0))||(neI r4.1 set_))||(neI r5.1 r2.1.price))||(neI r2.1.set_ set_))||(neI r2.1.type_ b.type_))||(neI r2.1.route.type_ b.type_))||(neI r2.1.route.start b.start))||(neI (lenI r2.1.route.rests) (lenI b.rests)))=false),bT h10]
    ·obtain ⟨e0,h15,h⟩:=Qae h
     refine gn 30 [2,3,4,7,9,127,128,129] [0,1,2,3] [cC (Qbc h0),rp 3 (nF h1),cC (QbR h2),nF h1,nF h1,nF h3,cC (Qbd h4),bF h5,cC (Qbv h8),cC (Qfv h9),rp 38 hP,oI ((neI r4.2 0)=false),oR True ((neI r4.2 0)=false),rp 2 (oI (((neI r4.2 0)||(neI r5.2 0))=false)),oR True (((neI r4.2 0)||(neI r5.2 0))=false),rp 3 (oI ((((neI r4.2 0)||(neI r5.2 0))||(neI r4.1 set_))=false)),oR True ((((neI r4.2 0)||(neI r5.2 0))||(neI r4.1 set_))=false),rp 3 (oI (((((neI r4.2 0)||(neI r5.2 0))||(neI r4.1 set_))||(neI r5.1 r2.1.price))=false)),oR True (((((neI r4.2 0)||(neI r5.2 0))||(neI r4.1 set_))||(neI r5.1 r2.1.price))=false),rp 4 (oI ((((((neI r4.2 0)||(neI r5.2 0))||(neI r4.1 set_))||(neI r5.1 r2.1.price))||(neI r2.1.set_ set_))=false)),oR True ((((((neI r4.2 0)||(neI r5.2 0))||(neI r4.1 set_))||(neI r5.1 r2.1.price))||(neI r2.1.set_ set_))=false),rp 4 (oI (((((((neI r4.2 0)||(neI r5.2 0))||(neI r4.1 set_))||(neI r5.1 r2.1.price))||(neI r2.1.set_ set_))||(neI r2.1.type_ b.type_))=false)),oR True (((((((neI r4.2 0)||(neI r5.2 0))||(neI r4.1 set_))||(neI r5.1 r2.1.price))||(neI r2.1.set_ set_))||(neI r2.1.type_ b.type_))=false),rp 4 (oI ((((((((neI r4.2 0)||(neI r5.2 0))||(neI r4.1 set_))||(neI r5.1 r2.1.price))||(neI r2.1.set_ set_))||(neI r2.1.type_ b.type_))||(neI r2.1.route.type_ b.type_))=false)),oR True ((((((((neI r4.2 0)||(neI r5.2 0))||(neI r4.1 set_))||(neI r5.1 r2.1.price))||(neI r2.1.set_ set_))||(neI r2.1.type_ b.type_))||(neI r2.1.route.type_ b.type_))=false),rp 2 (oI (((((((((neI r4.2 0)||(neI r5.2 0))||(neI r4.1 set_))||(neI r5.1 r2.1.price))||(neI r2.1.set_ set_))||(neI r2.1.type_ b.type_))||(neI r2.1.route.type_ b.type_))||(neI r2.1.route.start b.start))=false)),nL QaI r2.1.route.rests,hP,hP,hP,rp 2 (oI (((((((((neI r4.2 0)||(neI r5.2 0))||(neI r4.1 set_))||(neI r5.1 r2.1.price))||(neI r2.1.set_ set_))||(neI r2.1.type_ b.type_))||(neI r2.1.route.type_ b.type_))||(neI r2.1.route.start b.start))=false)),nL QaI b.rests,rp 5 hP,rp 2 (oI (((((((((neI r4.2 0)||(neI r5.2 0))||(neI r4.1 set_))||(neI r5.1 r2.1.price))||(neI r2.1.set_ set_))||(neI r2.1.type_ b.type_))||(neI r2.1.route.type_ b.type_))||(neI r2.1.route.start b.start))=false)),oR True (((((((((neI r4.2 0)||(neI r5.2 0))||(neI r4.1 set_))||(neI r5.1 r2.1.price))||(neI r2.1.set_ set_))||(neI r2.1.type_ b.type_))||(neI r2.1.route.type_ b.type_))||(neI r2.1.route.start b.start))=false),rp 2 (oI ((((((((((neI r4.2 0)||(neI r5.2 0))||(neI r4.1 set_))||(neI r5.1 r2.1.price))||(neI r2.1.set_ set_))||(neI r2.1.type_ b.type_))||(neI r2.1.route.type_ b.type_))||(neI r2.1.route.start b.start))||(neI (lenI r2.1.route.rests) (lenI b.rests)))=false)),nL Qaa.enc r2.1.route.visits,hP,hP,hP,rp 2 (oI ((((((((((neI r4.2 0)||(neI r5.2 0))||(neI r4.1 set_))||(neI r5.1 r2.1.price))||(neI r2.1.set_ set_))||(neI r2.1.type_ b.type_))||(neI r2.1.route.type_ b.type_))||(neI r2.1.route.start b.start))||(neI (lenI r2.1.route.rests) (lenI b.rests)))=false)),nL Qaa.enc b.visits,hP,hP,rp 2 (oI ((((((((((neI r4.2 0)||(neI r5.2 0))||(neI r4.1 set_))||(neI r5.1 r2.1.price))||(neI r2.1.set_ set_))||(neI r2.1.type_ b.type_))||(neI r2.1.route.type_ b.type_))||(neI r2.1.route.start b.start))||(neI (lenI r2.1.route.rests) (lenI b.rests)))=false)),oR True ((((((((((neI r4.2 0)||(neI r5.2 0))||(neI r4.1 set_))||(neI r5.1 r2.1.price))||(neI r2.1.set_ set_))||(neI r2.1.type_ b.type_))||(neI r2.1.route.type_ b.type_))||(neI r2.1.route.start b.start))||(neI (lenI r2.1.route.rests) (lenI b.rests)))=false),bF h10,nL Qaa.enc b.visits] (Qnl Γ rv h15 ?_)
     rcases e0 with e0|e0
     ·replace h:(bnd (QaW (fun s=>Qbn x0 b set_ r2 s) 0) (fun e=>sel e (fun (_:Unit)=>br (gtI (lenI b.rests) (lenI b.visits)) (br (eqI (lenI r2.1.route.visits) (lenI b.visits)) (bnd (QaS) fun r6=>some r6) (some false)) (bnd (Qfl x0 (Qac.mk b.type_ b.start b.rests r2.1.route.visits) set_) fun r7=>br (eqI r7.2 0) (bnd (QeK r2.1 r7.1) fun r8=>br r8 (bnd (QaS) fun r9=>some r9) (some false)) (some false))) (fun r10=>some r10)):Option Bool)=some _:=h
      obtain ⟨e1,h20,h⟩:=Qae h
      refine gn 5 [2,3,4,7,9,143,144,145] [0,1,2,3] [nL QaI b.rests] (Qnm Γ rv h20 ?_)
      rcases e1 with e1|e1
      ·replace h:(br (gtI (lenI b.rests) (lenI b.visits)) (br (eqI (lenI r2.1.route.visits) (lenI b.visits)) (bnd (QaS) fun r6=>some r6) (some false)) (bnd (Qfl x0 (Qac.mk b.type_ b.start b.rests r2.1.route.visits) set_) fun r7=>br (eqI r7.2 0) (bnd (QeK r2.1 r7.1) fun r8=>br r8 (bnd (QaS) fun r9=>some r9) (some false)) (some false)):Option Bool)=some _:=h
       rcases Qah h with ⟨h21,h⟩|⟨h21,h⟩
       ·rcases Qah h with ⟨h22,h⟩|⟨h22,h⟩
        ·obtain ⟨r6,h23,h⟩:=Qae h
         obtain rfl:=Option.some.inj h
         exact gr 6 [] [nL QaI b.rests,nL Qaa.enc b.visits,bT h21,nL Qaa.enc r2.1.route.visits,nL Qaa.enc b.visits,bT h22,cC (Qa7 h23),bT h22]
        ·obtain rfl:=Option.some.inj h
         exact gr 6 [] [nL QaI b.rests,nL Qaa.enc b.visits,bT h21,nL Qaa.enc r2.1.route.visits,nL Qaa.enc b.visits,rp 2 (bF h22)]
       ·obtain ⟨r7,h24,h⟩:=Qae h
        rcases Qah h with ⟨h25,h⟩|⟨h25,h⟩
        ·obtain ⟨r8,h26,h⟩:=Qae h
         rcases Qah h with ⟨h27,h⟩|⟨h27,h⟩
         ·obtain ⟨r9,h28,h⟩:=Qae h
          obtain rfl:=Option.some.inj h
          exact gr 13 [] [nL QaI b.rests,nL Qaa.enc b.visits,bF h21,cC (Qbd h24),rp 3 (bT h25),cC (QfP h26),bT h25,bT h27,cC (Qa7 h28),bT h27]
         ·obtain rfl:=Option.some.inj h
          exact gr 13 [] [nL QaI b.rests,nL Qaa.enc b.visits,bF h21,cC (Qbd h24),rp 3 (bT h25),cC (QfP h26),bT h25,rp 2 (bF h27)]
        ·obtain rfl:=Option.some.inj h
         exact gr 13 [] [nL QaI b.rests,nL Qaa.enc b.visits,bF h21,cC (Qbd h24),rp 4 (bF h25),fF,fF]
      ·obtain ⟨r10,rfl⟩:∃ x,x=e1:=⟨_,rfl⟩
       replace h:(some r10:Option Bool)=some _:=h
       exact Option.some.inj h
     ·obtain ⟨r11,rfl⟩:∃ x,x=e0:=⟨_,rfl⟩
      replace h:(some r11:Option Bool)=some _:=h
      exact Option.some.inj h
  ·obtain ⟨r12,h29,h⟩:=Qae h
   obtain rfl:=Option.some.inj h
   exact gr 8 [] [cC (Qbc h0),rp 3 (nF h1),cC (QbR h2),nF h1,nF h1,nT h3,cC (Qa7 h29)]
 ·obtain ⟨r13,h30,h⟩:=Qae h
  obtain rfl:=Option.some.inj h
  exact gr 8 [] [cC (Qbc h0),rp 5 (nT h1),tT,cC (Qa7 h30)]
end Go.Proofs.YtoedkepcaigkeaaGreatDoor
