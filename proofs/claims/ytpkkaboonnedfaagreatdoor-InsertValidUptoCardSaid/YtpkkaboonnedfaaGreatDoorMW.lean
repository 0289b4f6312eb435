/- Part MW of the proof: texts Y2. -/
import Derived.Test.YtpkkaboonnedfaaGreatDoorMV
import Derived.Test.YtpkkaboonnedfaaGreatDoorProg
namespace Go.Proofs.YtpkkaboonnedfaaGreatDoor
set_option linter.unusedVariables false
set_option linter.unusedSectionVars false
set_option linter.unusedSimpArgs false
set_option maxHeartbeats 4000000
set_option maxRecDepth 100000
def QnU (Γ:Gam) (rv:Bool) (cf:Cf):Prop:=Go Tryz.prog Tryz.f18 [] Γ (one (.bool rv)) [] cf
def QlB (Γ:Gam) (rv:Bool) (p:Qam) (v:Int):Prop:=QnU Γ rv ⟨[.c 116,.l 116,.b 0,.c 15],⟨20,[vL 10 4 p.routes Qad.enc,vI 11 (lenI p.routes),vI 12 v],[]⟩⟩
def Qk0 (Γ:Gam) (rv:Bool) (p:Qam):Prop:=QnU Γ rv ⟨[.c 15],⟨20,[],[]⟩⟩
theorem Qpq (Γ:Gam) (rv:Bool) {p} {s:Int} {e:(Unit)⊕(Bool)} (h:loopF (fun s=>Qga p s) s=some e) (hD:sel e (fun e=>Qk0 Γ rv p) (fun e=>e=rv)):QlB Γ rv p s:=by
 refine QaN (C:=fun (s:Int)=>QlB Γ rv p s) (D:=fun (e:(Unit)⊕(Bool))=>sel e (fun e=>Qk0 Γ rv p) (fun e=>e=rv)) ?_ h hD
 clear h hD s e
 intro v z_ h hI hE
 replace h:Qga p v=_:=h
 unfold Qga at h
 rcases Qal h with ⟨h1,h⟩|⟨h1,h⟩
 ·obtain ⟨x0,h2,h⟩:=Qae h
  obtain ⟨r,h3,h⟩:=Qae h
  rcases Qal h with ⟨h4,h⟩|⟨h4,h⟩
  ·exact gn 16 [10,11,12] [] [bT h1,cE Qad.enc h2,cC (QlD h3),nF h4] (hI _ (oJ h))
  ·obtain rfl:=(hE _ (oJ h):_=rv)
   exact gr 14 [] [bT h1,cE Qad.enc h2,cC (QlD h3),nT h4]
 ·exact gn 5 [] [] [bF h1] (hE _ (oJ h))
theorem Qbi {p} {rv:Bool} (h:Qh3 p=some rv):AFn Tryz.prog 18 [.agg (Qam.enc p)] [] (one (.bool rv)) []:=by
 refine QaT Tryz.func18 (by kernel_rfl) (by kernel_rfl) (fun Γ=>?_)
 unfold Qh3 at h
 rcases Qal h with ⟨h0,h⟩|⟨h0,h⟩
 ·obtain rfl:=Option.some.inj h
  exact gr 8 [] [nL Qad.enc p.routes,bT h0]
 ·obtain ⟨e0,h5,h⟩:=Qae h
  refine gn 12 [10,11,12] [] [nL Qad.enc p.routes,bF h0,nL Qad.enc p.routes] (Qpq Γ rv h5 ?_)
  rcases e0 with e0|e0
  ·replace h:(some true:Option Bool)=some _:=h
   obtain rfl:=Option.some.inj h
   exact gr 2 [] []
  ·obtain ⟨r1,rfl⟩:∃ x,x=e0:=⟨_,rfl⟩
   replace h:(some r1:Option Bool)=some _:=h
   exact Option.some.inj h
theorem Qdu {x0 p o} {rv:Qam×Int} (h:QiJ x0 p o=some rv):AFn Tryz.prog 19 [.agg (Qac.enc x0),.agg (Qam.enc p),.one (lI o)] [] (.tup [.agg [lL 4 rv.1.routes Qad.enc,lL 1 rv.1.unserved e_i64],.one (lI rv.2)]) []:=by
 refine QaT Tryz.func19 (by kernel_rfl) (by kernel_rfl) (fun Γ=>?_)
 unfold QiJ at h
 obtain ⟨r,h0,h⟩:=Qae h
 rcases Qal h with ⟨h1,h⟩|⟨h1,h⟩
 ·obtain rfl:=Option.some.inj h
  exact gr 10 [] [cC (QeJ h0),bT h1,hW 6,hH (.nilB 2 0 4),hH (.nilB 2 1 1)]
 ·obtain ⟨r1,h2,h⟩:=Qae h
  rcases Qal h with ⟨h3,h⟩|⟨h3,h⟩
  ·obtain rfl:=Option.some.inj h
   exact gr 15 [] [cC (QeJ h0),bF h1,cC (QfC h2),bT h3,hW 5,hH (.nilB 2 0 4),hH (.nilB 2 1 1)]
  ·obtain ⟨r2,h4,h⟩:=Qae h
   rcases Qal h with ⟨h5,h⟩|⟨h5,h⟩
   ·obtain rfl:=Option.some.inj h
    exact gr 22 [] [cC (QeJ h0),bF h1,cC (QfC h2),bF h3,cC (Qh0 h4),bT h5,hW 6,hH (.nilB 2 0 4),hH (.nilB 2 1 1)]
   ·obtain ⟨r3,h6,h⟩:=Qae h
    obtain rfl:=Option.some.inj h
    exact gr 23 [] [cC (QeJ h0),bF h1,cC (QfC h2),bF h3,cC (Qh0 h4),bF h5,cC (QpL h6)]
theorem Qp0 {x0 r} {rv:Int} (h:Qmz x0 r=some rv):AFn Tryz.prog 50 [.agg (Qac.enc x0),.agg (Qad.enc r)] [] (one (lI rv)) []:=by
 refine QaT Tryz.func50 (by kernel_rfl) (by kernel_rfl) (fun Γ=>?_)
 unfold Qmz at h
 obtain ⟨r1,h0,h⟩:=Qae h
 obtain rfl:=Option.some.inj h
 exact gr 6 [] [cC (Qj6 h0)]
def QhW (Γ:Gam) (rv:List Int×List Int×Bool) (cf:Cf):Prop:=Go Tryz.prog Tryz.f51 [] Γ (.tup [.one (lL 1 rv.1 e_i64),.one (lL 1 rv.2.1 e_i64),.one (.bool rv.2.2)]) [] cf
def Qof (Γ:Gam) (rv:List Int×List Int×Bool) (x0:Qac) (p:Qam) (l:List Int) (l1:List Int) (l2:List Int) (v:Int) (r:Int×Int) (l3:List Int) (v1:Int):Prop:=QhW Γ rv ⟨[.c 59804,.l 59804,.b 2,.b 1,.c 935,.l 116,.b 0,.c 15],⟨76,[vP 2 0 6,vP 3 1 2,vO 4 2 1 l3 e_i64,vO 5 3 1 l1 e_i64,vI 9 r.1,vL 23 4 p.routes Qad.enc,vI 24 (lenI p.routes),vI 25 v,vI 35 (lenI l2),vI 36 v1],[oX 6 30 (Qac.enc x0),oX 2 44 (Qam.enc p),oS 1 3 l3 e_i64,oS 1 3 l1 e_i64]⟩⟩
def Qng (Γ:Gam) (rv:List Int×List Int×Bool) (x0:Qac) (p:Qam) (l:List Int) (l1:List Int) (l2:List Int) (v:Int) (r:Int×Int) (l4:List Int):Prop:=QhW Γ rv ⟨[.b 1,.c 935,.l 116,.b 0,.c 15],⟨76,[vP 2 0 6,vP 3 1 2,vO 4 2 1 l4 e_i64,vO 5 3 1 l1 e_i64,vL 23 4 p.routes Qad.enc,vI 24 (lenI p.routes),vI 25 v],[oX 6 30 (Qac.enc x0),oX 2 44 (Qam.enc p),oS 1 3 l4 e_i64,oS 1 3 l1 e_i64]⟩⟩
def Qoe (Γ:Gam) (rv:List Int×List Int×Bool) (x0:Qac) (p:Qam) (l:List Int) (l1:List Int) (l2:List Int) (v:Int):Prop:=QhW Γ rv ⟨[.c 116,.l 116,.b 0,.c 15],⟨76,[vP 2 0 6,vP 3 1 2,vO 4 2 1 l2 e_i64,vO 5 3 1 l1 e_i64,vL 23 4 p.routes Qad.enc,vI 24 (lenI p.routes),vI 25 v],[oX 6 30 (Qac.enc x0),oX 2 44 (Qam.enc p),oS 1 3 l2 e_i64,oS 1 3 l1 e_i64]⟩⟩
def Qnf (Γ:Gam) (rv:List Int×List Int×Bool) (x0:Qac) (p:Qam) (l:List Int) (l1:List Int) (l5:List Int):Prop:=QhW Γ rv ⟨[.c 15],⟨76,[vP 2 0 6,vP 3 1 2,vO 4 2 1 l5 e_i64,vO 5 3 1 l1 e_i64],[oX 6 30 (Qac.enc x0),oX 2 44 (Qam.enc p),oS 1 3 l5 e_i64,oS 1 3 l1 e_i64]⟩⟩
def Qog (Γ:Gam) (rv:List Int×List Int×Bool) (x0:Qac) (p:Qam) (l:List Int) (l5:List Int) (l6:List Int) (v2:Int):Prop:=QhW Γ rv ⟨[.c 244,.l 244,.b 4,.c 31],⟨76,[vP 2 0 6,vO 4 1 1 l5 e_i64,vO 5 2 1 l6 e_i64,vL 52 1 p.unserved e_i64,vI 53 (lenI p.unserved),vI 54 v2],[oX 6 30 (Qac.enc x0),oS 1 3 l5 e_i64,oS 1 3 l6 e_i64]⟩⟩
def Qnh (Γ:Gam) (rv:List Int×List Int×Bool) (x0:Qac) (p:Qam) (l:List Int) (l5:List Int) (l7:List Int):Prop:=QhW Γ rv ⟨[.c 31],⟨76,[vO 4 0 1 l5 e_i64,vO 5 1 1 l7 e_i64],[oS 1 3 l5 e_i64,oS 1 3 l7 e_i64]⟩⟩
theorem QqZ (Γ:Gam) (rv:List Int×List Int×Bool) {x0 p l l1 l2 v r} {s:List Int×Int} {e:List Int} (h:loopF (fun s=>Qdz x0 p l l1 l2 v r s.1 s.2) s=some e) (hD:Qng Γ rv x0 p l l1 l2 v r e):Qof Γ rv x0 p l l1 l2 v r s.1 s.2:=by
 refine QaN (C:=fun (s:List Int×Int)=>Qof Γ rv x0 p l l1 l2 v r s.1 s.2) (D:=fun (e:List Int)=>Qng Γ rv x0 p l l1 l2 v r e) ?_ h hD
 clear h hD s e
 rintro ⟨l3,v1⟩ z_ h hI hE
 replace h:Qdz x0 p l l1 l2 v r l3 v1=_:=h
 unfold Qdz at h
 rcases Qal h with ⟨h5,h⟩|⟨h5,h⟩
 ·obtain ⟨x2,h6,h⟩:=Qae h
  obtain ⟨h7,h⟩:=Qax h
  exact gn 13 [2,3,4,5,9,23,24,25,35,36] [0,1,2,3] [bT h5,hH (.draw 10 []),oO (getLo h6),oO (getHi e_i64 h6),rE e_i64 h6,oO (h7),oO (getLo h6),oO (getHi e_i64 h6),rE e_i64 h6,hH (.rows ((setI l3 v1 (addK .i64 x2 (andK .i64 (shrK .i64 r.1 v1) 1))).map e_i64)),hH (.relen 2 ((setI l3 v1 (addK .i64 x2 (andK .i64 (shrK .i64 r.1 v1) 1))).map e_i64).length),oO (setM e_i64 l3 v1 (addK .i64 x2 (andK .i64 (shrK .i64 r.1 v1) 1))),rp 2 (oO (QsS e_i64 l3 v1 (addK .i64 x2 (andK .i64 (shrK .i64 r.1 v1) 1))))] (hI _ (oJ h))
 ·exact gn 5 [2,3,4,5,23,24,25] [0,1,2,3] [bF h5] (hE _ (oJ h))
theorem QqY (Γ:Gam) (rv:List Int×List Int×Bool) {x0 p l l1} {s:List Int×Int} {e:List Int} (h:loopF (fun s=>Qdy x0 p l l1 s.1 s.2) s=some e) (hD:Qnf Γ rv x0 p l l1 e):Qoe Γ rv x0 p l l1 s.1 s.2:=by
 refine QaN (C:=fun (s:List Int×Int)=>Qoe Γ rv x0 p l l1 s.1 s.2) (D:=fun (e:List Int)=>Qnf Γ rv x0 p l l1 e) ?_ h hD
 clear h hD s e
 rintro ⟨l2,v⟩ z_ h hI hE
 replace h:Qdy x0 p l l1 l2 v=_:=h
 unfold Qdy at h
 rcases Qal h with ⟨h2,h⟩|⟨h2,h⟩
 ·obtain ⟨x1,h3,h⟩:=Qae h
  obtain ⟨r,h4,h⟩:=Qae h
  obtain ⟨e0,h8,h⟩:=Qae h
  refine gn 15 [2,3,4,5,9,23,24,25,35,36] [0,1,2,3] [bT h2,cE Qad.enc h3,cC (QiV h4),nL e_i64 l2] (QqZ Γ rv h8 ?_)
  obtain ⟨l4,rfl⟩:∃ x,x=e0:=⟨_,rfl⟩
  replace h:(some (.inl (l4,(addK .i64 v 1))):Option ((List Int×Int)⊕(List Int)))=some _:=h
  exact gn 3 [2,3,4,5,23,24,25] [0,1,2,3] [] (hI _ (oJ h))
 ·exact gn 5 [2,3,4,5] [0,1,2,3] [bF h2] (hE _ (oJ h))
theorem Qq0 (Γ:Gam) (rv:List Int×List Int×Bool) {x0 p l l5} {s:List Int×Int} {e:(List Int)⊕(List Int×List Int×Bool)} (h:loopF (fun s=>QdA x0 p l l5 s.1 s.2) s=some e) (hD:sel e (fun e=>Qnh Γ rv x0 p l l5 e) (fun e=>e=rv)):Qog Γ rv x0 p l l5 s.1 s.2:=by
 refine QaN (C:=fun (s:List Int×Int)=>Qog Γ rv x0 p l l5 s.1 s.2) (D:=fun (e:(List Int)⊕(List Int×List Int×Bool))=>sel e (fun e=>Qnh Γ rv x0 p l l5 e) (fun e=>e=rv)) ?_ h hD
 clear h hD s e
 rintro ⟨l6,v2⟩ z_ h hI hE
 replace h:QdA x0 p l l5 l6 v2=_:=h
 unfold QdA at h
 rcases Qal h with ⟨h10,h⟩|⟨h10,h⟩
 ·obtain ⟨x3,h11,h⟩:=Qae h
  rcases Qal h with ⟨h12,h⟩|⟨h12,h⟩
  ·obtain rfl:=(hE _ (oJ h):_=rv)
   exact gr 15 [] [bT h10,cE e_i64 h11,rp 4 hP,rp 2 (oI ((ltI x3 0)=false)),nL Qag.enc x0.orders,hP,hP,rp 2 (oI ((ltI x3 0)=false)),oR True ((ltI x3 0)=false),bT h12,hW 5,hH (.nilS 4 0 1),hH (.nilS 5 0 1)]
  ·obtain ⟨x4,h13,h⟩:=Qae h
   exact gn 18 [2,4,5,52,53,54] [0,1,2] [bT h10,cE e_i64 h11,rp 4 hP,rp 2 (oI ((ltI x3 0)=false)),nL Qag.enc x0.orders,hP,hP,rp 2 (oI ((ltI x3 0)=false)),oR True ((ltI x3 0)=false),bF h12,oO (getLo h13),oO (getHi e_i64 h13),rE e_i64 h13,oO (getLo h13),oO (getHi e_i64 h13),rE e_i64 h13,hH (.rows ((setI l6 x3 (addK .i64 x4 1)).map e_i64)),hH (.relen 2 ((setI l6 x3 (addK .i64 x4 1)).map e_i64).length),oO (setM e_i64 l6 x3 (addK .i64 x4 1)),rp 2 (oO (QsS e_i64 l6 x3 (addK .i64 x4 1)))] (hI _ (oJ h))
 ·exact gn 5 [4,5] [1,2] [bF h10] (hE _ (oJ h))
theorem Qg0 {x0 p} {rv:List Int×List Int×Bool} (h:QkN x0 p=some rv):AFn Tryz.prog 51 [.agg (Qac.enc x0),.agg (Qam.enc p)] [] (.tup [.one (lL 1 rv.1 e_i64),.one (lL 1 rv.2.1 e_i64),.one (.bool rv.2.2)]) []:=by
 refine QaT Tryz.func51 (by kernel_rfl) (by kernel_rfl) (fun Γ=>?_)
 unfold QkN at h
 obtain ⟨l,h0,h⟩:=Qae h
 obtain ⟨l1,h1,h⟩:=Qae h
 obtain ⟨e1,h9,h⟩:=Qae h
 refine gn 9 [2,3,4,5,23,24,25] [0,1,2,3] [hH (.draw 10 []),nL Qag.enc x0.orders,hH (.cells [lI 0]),hH (.rows (l.map e_i64)),oO (mk1 h0),oO (mk2 h0),oO (mk3 h0),oO (mk4 h0),oO (mk5 e_i64 h0),nL Qag.enc x0.orders,hH (.cells [lI 0]),hH (.rows (l1.map e_i64)),oO (mk1 h1),oO (mk2 h1),oO (mk3 h1),oO (mk4 h1),oO (mk5 e_i64 h1),nL Qad.enc p.routes] (QqY Γ rv h9 ?_)
 obtain ⟨l5,rfl⟩:∃ x,x=e1:=⟨_,rfl⟩
 replace h:(bnd (loopF (fun s=>QdA x0 p l l5 s.1 s.2) (l1,0)) (fun e=>sel e (fun l7=>some (l5,l7,true)) (fun r1=>some r1)):Option (List Int×List Int×Bool))=some _:=h
 obtain ⟨e2,h14,h⟩:=Qae h
 refine gn 5 [2,4,5,52,53,54] [0,2,3] [nL e_i64 p.unserved] (Qq0 Γ rv h14 ?_)
 rcases e2 with e2|e2
 ·obtain ⟨l7,rfl⟩:∃ x,x=e2:=⟨_,rfl⟩
  replace h:(some (l5,l7,true):Option (List Int×List Int×Bool))=some _:=h
  obtain rfl:=Option.some.inj h
  exact gr 2 [] [hW 7,hH (.frz 0),hH (.frz 1),rp 3 (eL l5 e_i64),rp 3 (eL l7 e_i64)]
 ·obtain ⟨r1,rfl⟩:∃ x,x=e2:=⟨_,rfl⟩
  replace h:(some r1:Option (List Int×List Int×Bool))=some _:=h
  exact Option.some.inj h
def QkB (Γ:Gam) (rv:Bool) (cf:Cf):Prop:=Go Tryz.prog Tryz.f54 [] Γ (one (.bool rv)) [] cf
def Qni (Γ:Gam) (rv:Bool) (x0:Qac) (p:Qam) (l:List Int) (l1:List Int) (v:Int):Prop:=QkB Γ rv ⟨[.c 116,.l 116,.b 0,.c 15],⟨45,[vP 2 0 6,vO 5 1 1 l1 e_i64,vL 15 4 p.routes Qad.enc,vI 16 (lenI p.routes),vI 17 v],[oX 6 30 (Qac.enc x0),oS 1 3 l1 e_i64]⟩⟩
def Qmv (Γ:Gam) (rv:Bool) (x0:Qac) (p:Qam) (l:List Int) (l2:List Int):Prop:=QkB Γ rv ⟨[.c 15],⟨45,[vP 2 0 6,vO 5 1 1 l2 e_i64],[oX 6 30 (Qac.enc x0),oS 1 3 l2 e_i64]⟩⟩
def Qnj (Γ:Gam) (rv:Bool) (x0:Qac) (l:List Int) (l2:List Int) (v1:Int):Prop:=QkB Γ rv ⟨[.c 244,.l 244,.b 2,.c 31],⟨45,[vP 2 0 6,vO 29 1 1 l2 e_i64,vI 30 (lenI l2),vI 31 v1],[oX 6 30 (Qac.enc x0),oS 1 3 l2 e_i64]⟩⟩
def Qmw (Γ:Gam) (rv:Bool) (x0:Qac) (l:List Int) (l2:List Int):Prop:=QkB Γ rv ⟨[.c 31],⟨45,[],[]⟩⟩
theorem Qql (Γ:Gam) (rv:Bool) {x0 p l} {s:List Int×Int} {e:List Int} (h:loopF (fun s=>QcV x0 p l s.1 s.2) s=some e) (hD:Qmv Γ rv x0 p l e):Qni Γ rv x0 p l s.1 s.2:=by
 refine QaN (C:=fun (s:List Int×Int)=>Qni Γ rv x0 p l s.1 s.2) (D:=fun (e:List Int)=>Qmv Γ rv x0 p l e) ?_ h hD
 clear h hD s e
 rintro ⟨l1,v⟩ z_ h hI hE
 replace h:QcV x0 p l l1 v=_:=h
 unfold QcV at h
 rcases Qal h with ⟨h1,h⟩|⟨h1,h⟩
 ·obtain ⟨x1,h2,h⟩:=Qae h
  obtain ⟨x2,h3,h⟩:=Qae h
  exact gn 13 [2,5,15,16,17] [0,1] [bT h1,cE Qad.enc h2,oO (getLo h3),oO (getHi e_i64 h3),rE e_i64 h3,oO (getLo h3),oO (getHi e_i64 h3),rE e_i64 h3,hH (.rows ((setI l1 x1.type_ (addK .i64 x2 1)).map e_i64)),hH (.relen 1 ((setI l1 x1.type_ (addK .i64 x2 1)).map e_i64).length),oO (setM e_i64 l1 x1.type_ (addK .i64 x2 1)),rp 2 (oO (QsS e_i64 l1 x1.type_ (addK .i64 x2 1)))] (hI _ (oJ h))
 ·exact gn 5 [2,5] [0,1] [bF h1] (hE _ (oJ h))
theorem Qqm (Γ:Gam) (rv:Bool) {x0 l l2} {s:Int} {e:(Unit)⊕(Bool)} (h:loopF (fun s=>Qeq x0 l l2 s) s=some e) (hD:sel e (fun e=>Qmw Γ rv x0 l l2) (fun e=>e=rv)):Qnj Γ rv x0 l l2 s:=by
 refine QaN (C:=fun (s:Int)=>Qnj Γ rv x0 l l2 s) (D:=fun (e:(Unit)⊕(Bool))=>sel e (fun e=>Qmw Γ rv x0 l l2) (fun e=>e=rv)) ?_ h hD
 clear h hD s e
 intro v1 z_ h hI hE
 replace h:Qeq x0 l l2 v1=_:=h
 unfold Qeq at h
 rcases Qal h with ⟨h5,h⟩|⟨h5,h⟩
 ·obtain ⟨x3,h6,h⟩:=Qae h
  obtain ⟨x4,h7,h⟩:=Qae h
  rcases Qal h with ⟨h8,h⟩|⟨h8,h⟩
  ·obtain rfl:=(hE _ (oJ h):_=rv)
   exact gr 14 [] [bT h5,oO (getLo h6),oO (getHi e_i64 h6),rE e_i64 h6,cE Qaj.enc h7,bT h8]
  ·exact gn 16 [2,29,30,31] [0,1] [bT h5,oO (getLo h6),oO (getHi e_i64 h6),rE e_i64 h6,cE Qaj.enc h7,bF h8] (hI _ (oJ h))
 ·exact gn 5 [] [] [bF h5] (hE _ (oJ h))
theorem Qi4 {x0 p} {rv:Bool} (h:QiT x0 p=some rv):AFn Tryz.prog 54 [.agg (Qac.enc x0),.agg (Qam.enc p)] [] (one (.bool rv)) []:=by
 refine QaT Tryz.func54 (by kernel_rfl) (by kernel_rfl) (fun Γ=>?_)
 unfold QiT at h
 obtain ⟨l,h0,h⟩:=Qae h
 obtain ⟨e0,h4,h⟩:=Qae h
 refine gn 9 [2,5,15,16,17] [0,2] [nL Qaj.enc x0.types,hH (.cells [lI 0]),hH (.rows (l.map e_i64)),oO (mk1 h0),oO (mk2 h0),oO (mk3 h0),oO (mk4 h0),oO (mk5 e_i64 h0),nL Qad.enc p.routes] (Qql Γ rv h4 ?_)
 obtain ⟨l2,rfl⟩:∃ x,x=e0:=⟨_,rfl⟩
 replace h:(bnd (loopF (fun s=>Qeq x0 l l2 s) 0) (fun e=>sel e (fun (_:Unit)=>some false) (fun r=>some r)):Option Bool)=some _:=h
 obtain ⟨e1,h9,h⟩:=Qae h
 refine gn 5 [2,29,30,31] [0,1] [nL e_i64 l2] (Qqm Γ rv h9 ?_)
 rcases e1 with e1|e1
 ·replace h:(some false:Option Bool)=some _:=h
  obtain rfl:=Option.some.inj h
  exact gr 2 [] []
 ·obtain ⟨r,rfl⟩:∃ x,x=e1:=⟨_,rfl⟩
  replace h:(some r:Option Bool)=some _:=h
  exact Option.some.inj h
theorem Qo7 {i a c c1} {rv:Bool} (h:QmS i a c c1=some rv):AFn Tryz.prog 53 [.one (lI i),.agg (Qag.enc a),.one (.ip [lL 1 c e_i64] 0),.one (.ip [lL 1 c1 e_i64] 0)] [] (one (.bool rv)) []:=by
 refine QaT Tryz.func53 (by kernel_rfl) (by kernel_rfl) (fun Γ=>?_)
 unfold QmS at h
 obtain ⟨x0,h0,h⟩:=Qae h
 obtain ⟨x1,h1,h⟩:=Qae h
 obtain rfl:=Option.some.inj h
 exact gr 4 [] [hH (.draw 11 []),cE e_i64 h0,cE e_i64 h1]
def QjJ (Γ:Gam) (rv:Bool) (cf:Cf):Prop:=Go Tryz.prog Tryz.f52 [] Γ (one (.bool rv)) [] cf
def QhT (Γ:Gam) (rv:Bool) (c:List Int) (c1:List Int) (c2:Qac) (v:Int):Prop:=QjJ Γ rv ⟨[.c 52,.l 52,.b 0,.c 7],⟨19,[(0,one (.fn (.func 53) [.ip [lL 1 c e_i64] 0,.ip [lL 1 c1 e_i64] 0])),vL 7 16 c2.orders Qag.enc,vI 8 (lenI c2.orders),vI 9 v],[]⟩⟩
def Qhg (Γ:Gam) (rv:Bool) (c:List Int) (c1:List Int) (c2:Qac):Prop:=QjJ Γ rv ⟨[.c 7],⟨19,[],[]⟩⟩
theorem Ql3 (Γ:Gam) (rv:Bool) {c c1 c2} {s:Int} {e:(Unit)⊕(Bool)} (h:loopF (fun s=>QbC c c1 c2 s) s=some e) (hD:sel e (fun e=>Qhg Γ rv c c1 c2) (fun e=>e=rv)):QhT Γ rv c c1 c2 s:=by
 refine QaN (C:=fun (s:Int)=>QhT Γ rv c c1 c2 s) (D:=fun (e:(Unit)⊕(Bool))=>sel e (fun e=>Qhg Γ rv c c1 c2) (fun e=>e=rv)) ?_ h hD
 clear h hD s e
 intro v z_ h hI hE
 replace h:QbC c c1 c2 v=_:=h
 unfold QbC at h
 rcases Qal h with ⟨h0,h⟩|⟨h0,h⟩
 ·obtain ⟨x0,h1,h⟩:=Qae h
  obtain ⟨r,h2,h⟩:=Qae h
  rcases Qal h with ⟨h3,h⟩|⟨h3,h⟩
  ·obtain rfl:=(hE _ (oJ h):_=rv)
   exact gr 14 [] [bT h0,cE Qag.enc h1,cC (Qo7 h2),bT h3]
  ·exact gn 16 [0,7,8,9] [] [bT h0,cE Qag.enc h1,cC (Qo7 h2),bF h3] (hI _ (oJ h))
 ·exact gn 5 [] [] [bF h0] (hE _ (oJ h))
theorem Qdf {c c1 c2} {rv:Bool} (h:QeP c c1 c2=some rv):AFn Tryz.prog 52 [.one (.fn (.func 53) [.ip [lL 1 c e_i64] 0,.ip [lL 1 c1 e_i64] 0]),.one (.ip (Qac.enc c2) 0)] [] (one (.bool rv)) []:=by
 refine QaT Tryz.func52 (by kernel_rfl) (by kernel_rfl) (fun Γ=>?_)
 unfold QeP at h
 obtain ⟨e0,h4,h⟩:=Qae h
 refine gn 7 [0,7,8,9] [] [nL Qag.enc c2.orders] (Ql3 Γ rv h4 ?_)
 rcases e0 with e0|e0
 ·replace h:(some false:Option Bool)=some _:=h
  obtain rfl:=Option.some.inj h
  exact gr 2 [] []
 ·obtain ⟨r1,rfl⟩:∃ x,x=e0:=⟨_,rfl⟩
  replace h:(some r1:Option Bool)=some _:=h
  exact Option.some.inj h
theorem Qo8 {i o c} {rv:Bool} (h:QmT i o c=some rv):AFn Tryz.prog 55 [.one (lI i),.agg (Qag.enc o),.one (.ip [lL 1 c e_i64] 0)] [] (one (.bool rv)) []:=by
 refine QaT Tryz.func55 (by kernel_rfl) (by kernel_rfl) (fun Γ=>?_)
 unfold QmT at h
 rcases Qal h with ⟨h0,h⟩|⟨h0,h⟩
 ·obtain ⟨x0,h1,h⟩:=Qae h
  obtain rfl:=Option.some.inj h
  exact gr 4 [] [rp 3 (bT h0),cE e_i64 h1,rp 3 (bT h0)]
 ·obtain rfl:=Option.some.inj h
  exact gr 4 [] [rp 6 (bF h0)]
def QjK (Γ:Gam) (rv:Bool) (cf:Cf):Prop:=Go Tryz.prog Tryz.f52 [] Γ (one (.bool rv)) [] cf
def QhU (Γ:Gam) (rv:Bool) (c:List Int) (c1:Qac) (v:Int):Prop:=QjK Γ rv ⟨[.c 52,.l 52,.b 0,.c 7],⟨19,[(0,one (.fn (.func 55) [.ip [lL 1 c e_i64] 0])),vL 7 16 c1.orders Qag.enc,vI 8 (lenI c1.orders),vI 9 v],[]⟩⟩
def Qhh (Γ:Gam) (rv:Bool) (c:List Int) (c1:Qac):Prop:=QjK Γ rv ⟨[.c 7],⟨19,[],[]⟩⟩
theorem Ql4 (Γ:Gam) (rv:Bool) {c c1} {s:Int} {e:(Unit)⊕(Bool)} (h:loopF (fun s=>QbD c c1 s) s=some e) (hD:sel e (fun e=>Qhh Γ rv c c1) (fun e=>e=rv)):QhU Γ rv c c1 s:=by
 refine QaN (C:=fun (s:Int)=>QhU Γ rv c c1 s) (D:=fun (e:(Unit)⊕(Bool))=>sel e (fun e=>Qhh Γ rv c c1) (fun e=>e=rv)) ?_ h hD
 clear h hD s e
 intro v z_ h hI hE
 replace h:QbD c c1 v=_:=h
 unfold QbD at h
 rcases Qal h with ⟨h0,h⟩|⟨h0,h⟩
 ·obtain ⟨x0,h1,h⟩:=Qae h
  obtain ⟨r,h2,h⟩:=Qae h
  rcases Qal h with ⟨h3,h⟩|⟨h3,h⟩
  ·obtain rfl:=(hE _ (oJ h):_=rv)
   exact gr 14 [] [bT h0,cE Qag.enc h1,cC (Qo8 h2),bT h3]
  ·exact gn 16 [0,7,8,9] [] [bT h0,cE Qag.enc h1,cC (Qo8 h2),bF h3] (hI _ (oJ h))
 ·exact gn 5 [] [] [bF h0] (hE _ (oJ h))
theorem Qgj {c c1} {rv:Bool} (h:QeQ c c1=some rv):AFn Tryz.prog 52 [.one (.fn (.func 55) [.ip [lL 1 c e_i64] 0]),.one (.ip (Qac.enc c1) 0)] [] (one (.bool rv)) []:=by
 refine QaT Tryz.func52 (by kernel_rfl) (by kernel_rfl) (fun Γ=>?_)
 unfold QeQ at h
 obtain ⟨e0,h4,h⟩:=Qae h
 refine gn 7 [0,7,8,9] [] [nL Qag.enc c1.orders] (Ql4 Γ rv h4 ?_)
 rcases e0 with e0|e0
 ·replace h:(some false:Option Bool)=some _:=h
  obtain rfl:=Option.some.inj h
  exact gr 2 [] []
 ·obtain ⟨r1,rfl⟩:∃ x,x=e0:=⟨_,rfl⟩
  replace h:(some r1:Option Bool)=some _:=h
  exact Option.some.inj h
theorem Qo9 {i o c c1} {rv:Bool} (h:QmU i o c c1=some rv):AFn Tryz.prog 56 [.one (lI i),.agg (Qag.enc o),.one (.ip [lL 1 c e_i64] 0),.one (.ip [lL 1 c1 e_i64] 0)] [] (one (.bool rv)) []:=by
 refine QaT Tryz.func56 (by kernel_rfl) (by kernel_rfl) (fun Γ=>?_)
 unfold QmU at h
 rcases Qal h with ⟨h0,h⟩|⟨h0,h⟩
 ·obtain rfl:=Option.some.inj h
  exact gr 4 [] [hH (.draw 28 []),rp 11 (nF h0),rp 10 kF,nF h0,nF h0]
 ·obtain ⟨x0,h1,h⟩:=Qae h
  obtain ⟨x1,h2,h⟩:=Qae h
  rcases Qal h with ⟨h3,h⟩|⟨h3,h⟩
  ·obtain rfl:=Option.some.inj h
   exact gr 4 [] [hH (.draw 28 []),rp 3 (nT h0),cE e_i64 h1,rp 4 (nT h0),cE e_i64 h2,rp 4 (nT h0),rp 6 (bT h3),kF,kF,kF,bT h3,nT h0,bT h3,nT h0]
  ·obtain rfl:=Option.some.inj h
   exact gr 4 [] [hH (.draw 28 []),rp 3 (nT h0),cE e_i64 h1,rp 4 (nT h0),cE e_i64 h2,rp 4 (nT h0),rp 3 (bF h3),cE e_i64 h2,rp 3 (bF h3),hP,hP,hP,rp 2 (oI ((gtI x1 0)=true)),bF h3,hP,oR True ((gtI x1 0)=true),nT h0,bF h3,nT h0]
def QjL (Γ:Gam) (rv:Bool) (cf:Cf):Prop:=Go Tryz.prog Tryz.f52 [] Γ (one (.bool rv)) [] cf
def QhV (Γ:Gam) (rv:Bool) (c:List Int) (c1:List Int) (c2:Qac) (v:Int):Prop:=QjL Γ rv ⟨[.c 52,.l 52,.b 0,.c 7],⟨19,[(0,one (.fn (.func 56) [.ip [lL 1 c e_i64] 0,.ip [lL 1 c1 e_i64] 0])),vL 7 16 c2.orders Qag.enc,vI 8 (lenI c2.orders),vI 9 v],[]⟩⟩
def Qhi (Γ:Gam) (rv:Bool) (c:List Int) (c1:List Int) (c2:Qac):Prop:=QjL Γ rv ⟨[.c 7],⟨19,[],[]⟩⟩
theorem Ql5 (Γ:Gam) (rv:Bool) {c c1 c2} {s:Int} {e:(Unit)⊕(Bool)} (h:loopF (fun s=>QbE c c1 c2 s) s=some e) (hD:sel e (fun e=>Qhi Γ rv c c1 c2) (fun e=>e=rv)):QhV Γ rv c c1 c2 s:=by
 refine QaN (C:=fun (s:Int)=>QhV Γ rv c c1 c2 s) (D:=fun (e:(Unit)⊕(Bool))=>sel e (fun e=>Qhi Γ rv c c1 c2) (fun e=>e=rv)) ?_ h hD
 clear h hD s e
 intro v z_ h hI hE
 replace h:QbE c c1 c2 v=_:=h
 unfold QbE at h
 rcases Qal h with ⟨h0,h⟩|⟨h0,h⟩
 ·obtain ⟨x0,h1,h⟩:=Qae h
  obtain ⟨r,h2,h⟩:=Qae h
  rcases Qal h with ⟨h3,h⟩|⟨h3,h⟩
  ·obtain rfl:=(hE _ (oJ h):_=rv)
   exact gr 14 [] [bT h0,cE Qag.enc h1,cC (Qo9 h2),bT h3]
  ·exact gn 16 [0,7,8,9] [] [bT h0,cE Qag.enc h1,cC (Qo9 h2),bF h3] (hI _ (oJ h))
 ·exact gn 5 [] [] [bF h0] (hE _ (oJ h))
theorem QiF {c c1 c2} {rv:Bool} (h:QeR c c1 c2=some rv):AFn Tryz.prog 52 [.one (.fn (.func 56) [.ip [lL 1 c e_i64] 0,.ip [lL 1 c1 e_i64] 0]),.one (.ip (Qac.enc c2) 0)] [] (one (.bool rv)) []:=by
 refine QaT Tryz.func52 (by kernel_rfl) (by kernel_rfl) (fun Γ=>?_)
 unfold QeR at h
 obtain ⟨e0,h4,h⟩:=Qae h
 refine gn 7 [0,7,8,9] [] [nL Qag.enc c2.orders] (Ql5 Γ rv h4 ?_)
 rcases e0 with e0|e0
 ·replace h:(some false:Option Bool)=some _:=h
  obtain rfl:=Option.some.inj h
  exact gr 2 [] []
 ·obtain ⟨r1,rfl⟩:∃ x,x=e0:=⟨_,rfl⟩
  replace h:(some r1:Option Bool)=some _:=h
  exact Option.some.inj h
def QrJ (Γ:Gam) (rv:Int) (cf:Cf):Prop:=Go Tryz.prog Tryz.f21 [] Γ (one (lI rv)) [] cf
def Qpa (Γ:Gam) (rv:Int) (x0:Qac) (p:Qam) (v:Int):Prop:=QrJ Γ rv ⟨[.c 52,.l 52,.b 0,.c 7],⟨52,[vP 2 0 6,vP 3 1 2,vL 13 4 p.routes Qad.enc,vI 14 (lenI p.routes),vI 15 v],[oX 6 30 (Qac.enc x0),oX 2 44 (Qam.enc p)]⟩⟩
def Qod (Γ:Gam) (rv:Int) (x0:Qac) (p:Qam):Prop:=QrJ Γ rv ⟨[.c 7],⟨52,[vP 2 0 6,vP 3 1 2],[oX 6 30 (Qac.enc x0),oX 2 44 (Qam.enc p)]⟩⟩
theorem QrK (Γ:Gam) (rv:Int) {x0 p} {s:Int} {e:(Unit)⊕(Int)} (h:loopF (fun s=>QgQ x0 p s) s=some e) (hD:sel e (fun e=>Qod Γ rv x0 p) (fun e=>e=rv)):Qpa Γ rv x0 p s:=by
 refine QaN (C:=fun (s:Int)=>Qpa Γ rv x0 p s) (D:=fun (e:(Unit)⊕(Int))=>sel e (fun e=>Qod Γ rv x0 p) (fun e=>e=rv)) ?_ h hD
 clear h hD s e
 intro v z_ h hI hE
 replace h:QgQ x0 p v=_:=h
 unfold QgQ at h
 rcases Qal h with ⟨h0,h⟩|⟨h0,h⟩
 ·obtain ⟨x1,h1,h⟩:=Qae h
  obtain ⟨r,h2,h⟩:=Qae h
  rcases Qal h with ⟨h3,h⟩|⟨h3,h⟩
  ·obtain rfl:=(hE _ (oJ h):_=rv)
   exact gr 16 [] [bT h0,cE Qad.enc h1,cC (Qp0 h2),bT h3]
  ·exact gn 18 [2,3,13,14,15] [0,1] [bT h0,cE Qad.enc h1,cC (Qp0 h2),bF h3] (hI _ (oJ h))
 ·exact gn 5 [2,3] [0,1] [bF h0] (hE _ (oJ h))
theorem Qa5 {x0 p} {rv:Int} (h:QgP x0 p=some rv):AFn Tryz.prog 21 [.agg (Qac.enc x0),.agg (Qam.enc p)] [] (one (lI rv)) []:=by
 refine QaT Tryz.func21 (by kernel_rfl) (by kernel_rfl) (fun Γ=>?_)
 unfold QgP at h
 obtain ⟨e0,h4,h⟩:=Qae h
 refine gn 7 [2,3,13,14,15] [0,1] [nL Qad.enc p.routes] (QrK Γ rv h4 ?_)
 rcases e0 with e0|e0
 ·replace h:(bnd (QkN x0 p) fun r1=>br r1.2.2 (bnd (QeP r1.1 r1.2.1 x0) fun r2=>br r2 (some 6) (bnd (QiT x0 p) fun r3=>br r3 (some 22) (bnd (QeQ r1.2.1 x0) fun r4=>br r4 (some 9) (bnd (QeR r1.1 r1.2.1 x0) fun r5=>br r5 (some 23) (some 0))))) (some 2):Option Int)=some _:=h
  obtain ⟨r1,h5,h⟩:=Qae h
  rcases Qal h with ⟨h6,h⟩|⟨h6,h⟩
  ·obtain ⟨r2,h7,h⟩:=Qae h
   rcases Qal h with ⟨h8,h⟩|⟨h8,h⟩
   ·obtain rfl:=Option.some.inj h
    exact gr 16 [] [cC (Qg0 h5),nF h6,cC (Qdf h7),bT h8]
   ·obtain ⟨r3,h9,h⟩:=Qae h
    rcases Qal h with ⟨h10,h⟩|⟨h10,h⟩
    ·obtain rfl:=Option.some.inj h
     exact gr 19 [] [cC (Qg0 h5),nF h6,cC (Qdf h7),bF h8,cC (Qi4 h9),bT h10]
    ·obtain ⟨r4,h11,h⟩:=Qae h
     rcases Qal h with ⟨h12,h⟩|⟨h12,h⟩
     ·obtain rfl:=Option.some.inj h
      exact gr 22 [] [cC (Qg0 h5),nF h6,cC (Qdf h7),bF h8,cC (Qi4 h9),bF h10,cC (Qgj h11),bT h12]
     ·obtain ⟨r5,h13,h⟩:=Qae h
      rcases Qal h with ⟨h14,h⟩|⟨h14,h⟩
      ·obtain rfl:=Option.some.inj h
       exact gr 25 [] [cC (Qg0 h5),nF h6,cC (Qdf h7),bF h8,cC (Qi4 h9),bF h10,cC (Qgj h11),bF h12,cC (QiF h13),bT h14]
      ·obtain rfl:=Option.some.inj h
       exact gr 27 [] [cC (Qg0 h5),nF h6,cC (Qdf h7),bF h8,cC (Qi4 h9),bF h10,cC (Qgj h11),bF h12,cC (QiF h13),bF h14]
  ·obtain rfl:=Option.some.inj h
   exact gr 8 [] [cC (Qg0 h5),nT h6]
 ·obtain ⟨r6,rfl⟩:∃ x,x=e0:=⟨_,rfl⟩
  replace h:(some r6:Option Int)=some _:=h
  exact Option.some.inj h
def QnV (Γ:Gam) (rv:Bool) (cf:Cf):Prop:=Go Tryz.prog Tryz.f22 [] Γ (one (.bool rv)) [] cf
def QlC (Γ:Gam) (rv:Bool) (l:List Int) (n:Int) (v:Int):Prop:=QnV Γ rv ⟨[.c 52,.l 52,.b 0,.c 7],⟨17,[vI 1 n,vL 7 1 l e_i64,vI 8 (lenI l),vI 9 v],[]⟩⟩
def Qk1 (Γ:Gam) (rv:Bool) (l:List Int) (n:Int):Prop:=QnV Γ rv ⟨[.c 7],⟨17,[],[]⟩⟩
theorem Qpr (Γ:Gam) (rv:Bool) {l n} {s:Int} {e:(Unit)⊕(Bool)} (h:loopF (fun s=>Qe5 l n s) s=some e) (hD:sel e (fun e=>Qk1 Γ rv l n) (fun e=>e=rv)):QlC Γ rv l n s:=by
 refine QaN (C:=fun (s:Int)=>QlC Γ rv l n s) (D:=fun (e:(Unit)⊕(Bool))=>sel e (fun e=>Qk1 Γ rv l n) (fun e=>e=rv)) ?_ h hD
 clear h hD s e
 intro v z_ h hI hE
 replace h:Qe5 l n v=_:=h
 unfold Qe5 at h
 rcases Qal h with ⟨h0,h⟩|⟨h0,h⟩
 ·obtain ⟨x0,h1,h⟩:=Qae h
  rcases Qal h with ⟨h2,h⟩|⟨h2,h⟩
  ·obtain rfl:=(hE _ (oJ h):_=rv)
   exact gr 14 [] [bT h0,cE e_i64 h1,bT h2]
  ·exact gn 16 [1,7,8,9] [] [bT h0,cE e_i64 h1,bF h2] (hI _ (oJ h))
 ·exact gn 5 [] [] [bF h0] (hE _ (oJ h))
theorem Qbj {l n} {rv:Bool} (h:Qdx l n=some rv):AFn Tryz.prog 22 [.one (lL 1 l e_i64),.one (lI n)] [] (one (.bool rv)) []:=by
 refine QaT Tryz.func22 (by kernel_rfl) (by kernel_rfl) (fun Γ=>?_)
 unfold Qdx at h
 obtain ⟨e0,h3,h⟩:=Qae h
 refine gn 7 [1,7,8,9] [] [nL e_i64 l] (Qpr Γ rv h3 ?_)
 rcases e0 with e0|e0
 ·replace h:(some false:Option Bool)=some _:=h
  obtain rfl:=Option.some.inj h
  exact gr 2 [] []
 ·obtain ⟨r,rfl⟩:∃ x,x=e0:=⟨_,rfl⟩
  replace h:(some r:Option Bool)=some _:=h
  exact Option.some.inj h
theorem Qml {x0 p at_ l} {rv:Bool} (h:Qfa x0 p at_ l=some rv):AFn Tryz.prog 7 [.agg (Qac.enc x0),.agg (Qam.enc p),.one (lI at_),.one (lL 1 l e_i64)] [] (one (.bool rv)) []:=by
 refine QaT Tryz.func7 (by kernel_rfl) (by kernel_rfl) (fun Γ=>?_)
 unfold Qfa at h
 obtain ⟨r,h0,h⟩:=Qae h
 rcases Qal h with ⟨h1,h⟩|⟨h1,h⟩
 ·obtain ⟨r1,h2,h⟩:=Qae h
  obtain rfl:=Option.some.inj h
  exact gr 8 [] [cC (Qa3 h0),hP,hP,hP,rp 2 (oI ((!r)=false)),nL Qag.enc x0.orders,hP,hP,oI ((!r)=false),oR True ((!r)=false),rp 4 (bT h1),tT,cC (Qbx h2)]
 ·obtain ⟨r2,h3,h⟩:=Qae h
  rcases Qal h with ⟨h4,h⟩|⟨h4,h⟩
  ·obtain ⟨r3,h5,h⟩:=Qae h
   rcases Qal h with ⟨h6,h⟩|⟨h6,h⟩
   ·obtain ⟨r4,h7,h⟩:=Qae h
    rcases Qal h with ⟨h8,h⟩|⟨h8,h⟩
    ·obtain rfl:=Option.some.inj h
     exact gr 15 [] [cC (Qa3 h0),hP,hP,hP,rp 2 (oI ((!r)=false)),nL Qag.enc x0.orders,hP,hP,oI ((!r)=false),oR True ((!r)=false),bF h1,bF h1,cC (Qbi h3),bF h1,bF h1,nF h4,cC (Qa8 h5),rp 3 (bT h6),cC (Qa5 h7),bT h6,bT h6,bT h8]
    ·obtain ⟨r5,h9,h⟩:=Qae h
     rcases Qal h with ⟨h10,h⟩|⟨h10,h⟩
     ·obtain ⟨r6,h11,h⟩:=Qae h
      obtain rfl:=Option.some.inj h
      exact gr 20 [] [cC (Qa3 h0),hP,hP,hP,rp 2 (oI ((!r)=false)),nL Qag.enc x0.orders,hP,hP,oI ((!r)=false),oR True ((!r)=false),bF h1,bF h1,cC (Qbi h3),bF h1,bF h1,nF h4,cC (Qa8 h5),rp 3 (bT h6),cC (Qa5 h7),bT h6,bT h6,bF h8,cC (Qa5 h9),rp 6 (bT h10),tT,cC (Qbx h11)]
     ·obtain ⟨r7,h12,h⟩:=Qae h
      rcases Qal h with ⟨h13,h⟩|⟨h13,h⟩
      ·obtain ⟨r8,h14,h⟩:=Qae h
       rcases Qal h with ⟨h15,h⟩|⟨h15,h⟩
       ·rcases Qal h with ⟨h16,h⟩|⟨h16,h⟩
        ·obtain ⟨r9,h17,h⟩:=Qae h
         obtain rfl:=Option.some.inj h
         exact gr 27 [] [cC (Qa3 h0),hP,hP,hP,rp 2 (oI ((!r)=false)),nL Qag.enc x0.orders,hP,hP,oI ((!r)=false),oR True ((!r)=false),bF h1,bF h1,cC (Qbi h3),bF h1,bF h1,nF h4,cC (Qa8 h5),rp 3 (bT h6),cC (Qa5 h7),bT h6,bT h6,bF h8,cC (Qa5 h9),rp 4 (bF h10),cC (Qbj h12),rp 2 (bF h10),nF h13,cC (Qdu h14),bT h15,bT h16,cC (Qbx h17),bT h16]
        ·obtain rfl:=Option.some.inj h
         exact gr 27 [] [cC (Qa3 h0),hP,hP,hP,rp 2 (oI ((!r)=false)),nL Qag.enc x0.orders,hP,hP,oI ((!r)=false),oR True ((!r)=false),bF h1,bF h1,cC (Qbi h3),bF h1,bF h1,nF h4,cC (Qa8 h5),rp 3 (bT h6),cC (Qa5 h7),bT h6,bT h6,bF h8,cC (Qa5 h9),rp 4 (bF h10),cC (Qbj h12),rp 2 (bF h10),nF h13,cC (Qdu h14),bT h15,rp 2 (bF h16)]
       ·obtain ⟨r10,h18,h⟩:=Qae h
        rcases Qal h with ⟨h19,h⟩|⟨h19,h⟩
        ·obtain ⟨r11,h20,h⟩:=Qae h
         rcases Qal h with ⟨h21,h⟩|⟨h21,h⟩
         ·obtain ⟨r12,h22,h⟩:=Qae h
          obtain rfl:=Option.some.inj h
          exact gr 28 [] [cC (Qa3 h0),hP,hP,hP,rp 2 (oI ((!r)=false)),nL Qag.enc x0.orders,hP,hP,oI ((!r)=false),oR True ((!r)=false),bF h1,bF h1,cC (Qbi h3),bF h1,bF h1,nF h4,cC (Qa8 h5),rp 3 (bT h6),cC (Qa5 h7),bT h6,bT h6,bF h8,cC (Qa5 h9),rp 4 (bF h10),cC (Qbj h12),rp 2 (bF h10),nF h13,cC (Qdu h14),bF h15,cC (Qa5 h18),rp 4 (bT h19),cC (Qbj h20),rp 2 (bT h19),hP,hP,hP,rp 2 (oI ((!r11)=true)),nL e_i64 r8.1.unserved,hP,hP,hP,rp 2 (oI ((!r11)=true)),nL e_i64 p.unserved,rp 6 hP,rp 3 (oI ((!r11)=true)),oR True ((!r11)=true),rp 2 (oI (((!r11)&&(eqI (lenI r8.1.unserved) (subK .i64 (lenI p.unserved) 1)))=true)),nL Qad.enc r8.1.routes,hP,hP,hP,rp 2 (oI (((!r11)&&(eqI (lenI r8.1.unserved) (subK .i64 (lenI p.unserved) 1)))=true)),nL Qad.enc p.routes,hP,hP,rp 2 (oI (((!r11)&&(eqI (lenI r8.1.unserved) (subK .i64 (lenI p.unserved) 1)))=true)),oR True (((!r11)&&(eqI (lenI r8.1.unserved) (subK .i64 (lenI p.unserved) 1)))=true),bT h21,cC (Qbx h22),bT h21]
         ·obtain rfl:=Option.some.inj h
          exact gr 28 [] [cC (Qa3 h0),hP,hP,hP,rp 2 (oI ((!r)=false)),nL Qag.enc x0.orders,hP,hP,oI ((!r)=false),oR True ((!r)=false),bF h1,bF h1,cC (Qbi h3),bF h1,bF h1,nF h4,cC (Qa8 h5),rp 3 (bT h6),cC (Qa5 h7),bT h6,bT h6,bF h8,cC (Qa5 h9),rp 4 (bF h10),cC (Qbj h12),rp 2 (bF h10),nF h13,cC (Qdu h14),bF h15,cC (Qa5 h18),rp 4 (bT h19),cC (Qbj h20),rp 2 (bT h19),hP,hP,hP,rp 2 (oI ((!r11)=true)),nL e_i64 r8.1.unserved,hP,hP,hP,rp 2 (oI ((!r11)=true)),nL e_i64 p.unserved,rp 6 hP,rp 3 (oI ((!r11)=true)),oR True ((!r11)=true),rp 2 (oI (((!r11)&&(eqI (lenI r8.1.unserved) (subK .i64 (lenI p.unserved) 1)))=true)),nL Qad.enc r8.1.routes,hP,hP,hP,rp 2 (oI (((!r11)&&(eqI (lenI r8.1.unserved) (subK .i64 (lenI p.unserved) 1)))=true)),nL Qad.enc p.routes,hP,hP,rp 2 (oI (((!r11)&&(eqI (lenI r8.1.unserved) (subK .i64 (lenI p.unserved) 1)))=true)),oR True (((!r11)&&(eqI (lenI r8.1.unserved) (subK .i64 (lenI p.unserved) 1)))=true),rp 2 (bF h21)]
        ·obtain rfl:=Option.some.inj h
         exact gr 28 [] [cC (Qa3 h0),hP,hP,hP,rp 2 (oI ((!r)=false)),nL Qag.enc x0.orders,hP,hP,oI ((!r)=false),oR True ((!r)=false),bF h1,bF h1,cC (Qbi h3),bF h1,bF h1,nF h4,cC (Qa8 h5),rp 3 (bT h6),cC (Qa5 h7),bT h6,bT h6,bF h8,cC (Qa5 h9),rp 4 (bF h10),cC (Qbj h12),rp 2 (bF h10),nF h13,cC (Qdu h14),bF h15,cC (Qa5 h18),rp 6 (bF h19),rp 19 fF]
      ·obtain ⟨r13,h23,h⟩:=Qae h
       obtain rfl:=Option.some.inj h
       exact gr 20 [] [cC (Qa3 h0),hP,hP,hP,rp 2 (oI ((!r)=false)),nL Qag.enc x0.orders,hP,hP,oI ((!r)=false),oR True ((!r)=false),bF h1,bF h1,cC (Qbi h3),bF h1,bF h1,nF h4,cC (Qa8 h5),rp 3 (bT h6),cC (Qa5 h7),bT h6,bT h6,bF h8,cC (Qa5 h9),rp 4 (bF h10),cC (Qbj h12),rp 2 (bF h10),nT h13,cC (Qbx h23)]
   ·obtain ⟨r14,h24,h⟩:=Qae h
    rcases Qal h with ⟨h25,h⟩|⟨h25,h⟩
    ·obtain ⟨r15,h26,h⟩:=Qae h
     obtain rfl:=Option.some.inj h
     exact gr 20 [] [cC (Qa3 h0),hP,hP,hP,rp 2 (oI ((!r)=false)),nL Qag.enc x0.orders,hP,hP,oI ((!r)=false),oR True ((!r)=false),bF h1,bF h1,cC (Qbi h3),bF h1,bF h1,nF h4,cC (Qa8 h5),rp 5 (bF h6),fF,cC (Qa5 h24),rp 6 (bT h25),tT,cC (Qbx h26)]
    ·obtain ⟨r16,h27,h⟩:=Qae h
     rcases Qal h with ⟨h28,h⟩|⟨h28,h⟩
     ·obtain ⟨r17,h29,h⟩:=Qae h
      rcases Qal h with ⟨h30,h⟩|⟨h30,h⟩
      ·rcases Qal h with ⟨h31,h⟩|⟨h31,h⟩
       ·obtain ⟨r18,h32,h⟩:=Qae h
        obtain rfl:=Option.some.inj h
        exact gr 27 [] [cC (Qa3 h0),hP,hP,hP,rp 2 (oI ((!r)=false)),nL Qag.enc x0.orders,hP,hP,oI ((!r)=false),oR True ((!r)=false),bF h1,bF h1,cC (Qbi h3),bF h1,bF h1,nF h4,cC (Qa8 h5),rp 5 (bF h6),fF,cC (Qa5 h24),rp 4 (bF h25),cC (Qbj h27),rp 2 (bF h25),nF h28,cC (Qdu h29),bT h30,bT h31,cC (Qbx h32),bT h31]
       ·obtain rfl:=Option.some.inj h
        exact gr 27 [] [cC (Qa3 h0),hP,hP,hP,rp 2 (oI ((!r)=false)),nL Qag.enc x0.orders,hP,hP,oI ((!r)=false),oR True ((!r)=false),bF h1,bF h1,cC (Qbi h3),bF h1,bF h1,nF h4,cC (Qa8 h5),rp 5 (bF h6),fF,cC (Qa5 h24),rp 4 (bF h25),cC (Qbj h27),rp 2 (bF h25),nF h28,cC (Qdu h29),bT h30,rp 2 (bF h31)]
      ·obtain ⟨r19,h33,h⟩:=Qae h
       rcases Qal h with ⟨h34,h⟩|⟨h34,h⟩
       ·obtain ⟨r20,h35,h⟩:=Qae h
        rcases Qal h with ⟨h36,h⟩|⟨h36,h⟩
        ·obtain ⟨r21,h37,h⟩:=Qae h
         obtain rfl:=Option.some.inj h
         exact gr 28 [] [cC (Qa3 h0),hP,hP,hP,rp 2 (oI ((!r)=false)),nL Qag.enc x0.orders,hP,hP,oI ((!r)=false),oR True ((!r)=false),bF h1,bF h1,cC (Qbi h3),bF h1,bF h1,nF h4,cC (Qa8 h5),rp 5 (bF h6),fF,cC (Qa5 h24),rp 4 (bF h25),cC (Qbj h27),rp 2 (bF h25),nF h28,cC (Qdu h29),bF h30,cC (Qa5 h33),rp 4 (bT h34),cC (Qbj h35),rp 2 (bT h34),hP,hP,hP,rp 2 (oI ((!r20)=true)),nL e_i64 r17.1.unserved,hP,hP,hP,rp 2 (oI ((!r20)=true)),nL e_i64 p.unserved,rp 6 hP,rp 3 (oI ((!r20)=true)),oR True ((!r20)=true),rp 2 (oI (((!r20)&&(eqI (lenI r17.1.unserved) (subK .i64 (lenI p.unserved) 1)))=true)),nL Qad.enc r17.1.routes,hP,hP,hP,rp 2 (oI (((!r20)&&(eqI (lenI r17.1.unserved) (subK .i64 (lenI p.unserved) 1)))=true)),nL Qad.enc p.routes,hP,hP,rp 2 (oI (((!r20)&&(eqI (lenI r17.1.unserved) (subK .i64 (lenI p.unserved) 1)))=true)),oR True (((!r20)&&(eqI (lenI r17.1.unserved) (subK .i64 (lenI p.unserved) 1)))=true),bT h36,cC (Qbx h37),bT h36]
        ·obtain rfl:=Option.some.inj h
         exact gr 28 [] [cC (Qa3 h0),hP,hP,hP,rp 2 (oI ((!r)=false)),nL Qag.enc x0.orders,hP,hP,oI ((!r)=false),oR True ((!r)=false),bF h1,bF h1,cC (Qbi h3),bF h1,bF h1,nF h4,cC (Qa8 h5),rp 5 (bF h6),fF,cC (Qa5 h24),rp 4 (bF h25),cC (Qbj h27),rp 2 (bF h25),nF h28,cC (Qdu h29),bF h30,cC (Qa5 h33),rp 4 (bT h34),cC (Qbj h35),rp 2 (bT h34),hP,hP,hP,rp 2 (oI ((!r20)=true)),nL e_i64 r17.1.unserved,hP,hP,hP,rp 2 (oI ((!r20)=true)),nL e_i64 p.unserved,rp 6 hP,rp 3 (oI ((!r20)=true)),oR True ((!r20)=true),rp 2 (oI (((!r20)&&(eqI (lenI r17.1.unserved) (subK .i64 (lenI p.unserved) 1)))=true)),nL Qad.enc r17.1.routes,hP,hP,hP,rp 2 (oI (((!r20)&&(eqI (lenI r17.1.unserved) (subK .i64 (lenI p.unserved) 1)))=true)),nL Qad.enc p.routes,hP,hP,rp 2 (oI (((!r20)&&(eqI (lenI r17.1.unserved) (subK .i64 (lenI p.unserved) 1)))=true)),oR True (((!r20)&&(eqI (lenI r17.1.unserved) (subK .i64 (lenI p.unserved) 1)))=true),rp 2 (bF h36)]
       ·obtain rfl:=Option.some.inj h
        exact gr 28 [] [cC (Qa3 h0),hP,hP,hP,rp 2 (oI ((!r)=false)),nL Qag.enc x0.orders,hP,hP,oI ((!r)=false),oR True ((!r)=false),bF h1,bF h1,cC (Qbi h3),bF h1,bF h1,nF h4,cC (Qa8 h5),rp 5 (bF h6),fF,cC (Qa5 h24),rp 4 (bF h25),cC (Qbj h27),rp 2 (bF h25),nF h28,cC (Qdu h29),bF h30,cC (Qa5 h33),rp 6 (bF h34),rp 19 fF]
     ·obtain ⟨r22,h38,h⟩:=Qae h
      obtain rfl:=Option.some.inj h
      exact gr 20 [] [cC (Qa3 h0),hP,hP,hP,rp 2 (oI ((!r)=false)),nL Qag.enc x0.orders,hP,hP,oI ((!r)=false),oR True ((!r)=false),bF h1,bF h1,cC (Qbi h3),bF h1,bF h1,nF h4,cC (Qa8 h5),rp 5 (bF h6),fF,cC (Qa5 h24),rp 4 (bF h25),cC (Qbj h27),rp 2 (bF h25),nT h28,cC (Qbx h38)]
  ·obtain ⟨r23,h39,h⟩:=Qae h
   obtain rfl:=Option.some.inj h
   exact gr 8 [] [cC (Qa3 h0),hP,hP,hP,rp 2 (oI ((!r)=false)),nL Qag.enc x0.orders,hP,hP,oI ((!r)=false),oR True ((!r)=false),bF h1,bF h1,cC (Qbi h3),bF h1,bF h1,nT h4,cC (Qbx h39)]
end Go.Proofs.YtpkkaboonnedfaaGreatDoor
