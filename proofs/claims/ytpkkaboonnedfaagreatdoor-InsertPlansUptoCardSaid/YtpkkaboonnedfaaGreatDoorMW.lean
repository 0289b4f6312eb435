/- Part MW of the proof: texts Y2. -/
import Derived.Test.YtpkkaboonnedfaaGreatDoorMV
import Derived.Test.YtpkkaboonnedfaaGreatDoorProg
namespace Go.Proofs.YtpkkaboonnedfaaGreatDoor
set_option linter.unusedVariables false
set_option linter.unusedSectionVars false
set_option linter.unusedSimpArgs false
set_option maxHeartbeats 4000000
set_option maxRecDepth 100000
def QnO (Γ:Gam) (rv:Int) (cf:Cf):Prop:=Go Tryz.prog Tryz.f201 [] Γ (one (lI rv)) [] cf
def Qks (Γ:Gam) (rv:Int) (l:List Qao) (t:Int) (i:Int):Prop:=QnO Γ rv ⟨[.c 116,.l 116,.b 0,.c 15],⟨93,[vL 0 2 l Qao.enc,vI 1 t,vI 5 i],[]⟩⟩
def QjK (Γ:Gam) (rv:Int) (l:List Qao) (t:Int):Prop:=QnO Γ rv ⟨[.c 15],⟨93,[vL 0 2 l Qao.enc,vI 1 t],[]⟩⟩
theorem QpY (Γ:Gam) (rv:Int) {l t} {s:Int} {e:(Unit)⊕(Int)} (h:loopF (fun s=>QdK l t s) s=some e) (hD:sel e (fun e=>QjK Γ rv l t) (fun e=>e=rv)):Qks Γ rv l t s:=by
 refine QaB (C:=fun (s:Int)=>Qks Γ rv l t s) (D:=fun (e:(Unit)⊕(Int))=>sel e (fun e=>QjK Γ rv l t) (fun e=>e=rv)) ?_ h hD
 clear h hD s e
 intro i z_ h hI hE
 replace h:QdK l t i=_:=h
 unfold QdK at h
 rcases Qah h with ⟨h2,h⟩|⟨h2,h⟩
 ·obtain ⟨x0,h3,h⟩:=Qae h
  obtain ⟨x1,h4,h⟩:=Qae h
  rcases Qah h with ⟨h5,h⟩|⟨h5,h⟩
  ·obtain ⟨h6,h⟩:=Qau h
   obtain rfl:=(hE _ (oJ h):_=rv)
   exact gr 16 [] [nL Qao.enc l,bT h2,cE Qao.enc h3,cE Qao.enc h4,rp 5 hP,rp 3 (oI ((leI x0.t t)=true)),oR True ((leI x0.t t)=true),bT h5,hH (.draw 27 []),oO (h6)]
  ·exact gn 18 [0,1,5] [] [nL Qao.enc l,bT h2,cE Qao.enc h3,cE Qao.enc h4,rp 5 hP,rp 3 (oI ((leI x0.t t)=true)),oR True ((leI x0.t t)=true),bF h5] (hI _ (oJ h))
 ·exact gn 5 [0,1] [] [nL Qao.enc l,bF h2] (hE _ (oJ h))
theorem Qsk {l t} {rv:Int} (h:QgK l t=some rv):AFn Tryz.prog 201 [.one (lL 2 l Qao.enc),.one (lI t)] [] (one (lI rv)) []:=by
 refine QaL Tryz.func201 (by kernel_rfl) (by kernel_rfl) (fun Γ=>?_)
 unfold QgK at h
 obtain ⟨r,h0,h⟩:=Qae h
 rcases Qah h with ⟨h1,h⟩|⟨h1,h⟩
 ·obtain rfl:=Option.some.inj h
  exact gr 8 [] [cC (Qjh h0),nL Qab.enc r,rp 6 hP,oI ((gtI (lenI r) 0)=false),oR True ((gtI (lenI r) 0)=false),oI (((gtI (lenI r) 0)||(ltI t 0))=false),oR True (((gtI (lenI r) 0)||(ltI t 0))=false),bT h1]
 ·obtain ⟨e0,h7,h⟩:=Qae h
  refine gn 12 [0,1,5] [] [cC (Qjh h0),nL Qab.enc r,rp 6 hP,oI ((gtI (lenI r) 0)=false),oR True ((gtI (lenI r) 0)=false),oI (((gtI (lenI r) 0)||(ltI t 0))=false),oR True (((gtI (lenI r) 0)||(ltI t 0))=false),bF h1] (QpY Γ rv h7 ?_)
  rcases e0 with e0|e0
  ·replace h:(bnd (getI l 0) fun x2=>br (gtI t x2.t) (bnd (getI l (subK .i64 (lenI l) 1)) fun x3=>some (subK .i64 (addK .i64 t x3.a) x3.t)) (some (subK .i64 (addK .i64 t x2.a) x2.t)):Option Int)=some _:=h
   obtain ⟨x2,h8,h⟩:=Qae h
   rcases Qah h with ⟨h9,h⟩|⟨h9,h⟩
   ·obtain ⟨x3,h10,h⟩:=Qae h
    obtain rfl:=Option.some.inj h
    exact gr 9 [] [cE Qao.enc h8,bT h9,nL Qao.enc l,cE Qao.enc h10]
   ·obtain rfl:=Option.some.inj h
    exact gr 9 [] [cE Qao.enc h8,bF h9]
  ·obtain ⟨r1,rfl⟩:∃ x,x=e0:=⟨_,rfl⟩
   replace h:(some r1:Option Int)=some _:=h
   exact Option.some.inj h
def QnP (Γ:Gam) (rv:Int) (cf:Cf):Prop:=Go Tryz.prog Tryz.f199 [] Γ (one (lI rv)) [] cf
def Qkv (Γ:Gam) (rv:Int) (a:Qas) (t:Int) (n:Int) (i:Int):Prop:=QnP Γ rv ⟨[.c 116,.l 116,.b 0,.c 15],⟨35,[vI 1 t,vP 2 0 6,vI 5 n,vI 6 i],[oX 6 122 (Qas.enc a)]⟩⟩
def QjL (Γ:Gam) (rv:Int) (a:Qas) (t:Int) (n1:Int):Prop:=QnP Γ rv ⟨[.c 15],⟨35,[vI 5 n1],[]⟩⟩
theorem QpZ (Γ:Gam) (rv:Int) {a t} {s:Int×Int} {e:Int} (h:loopF (fun s=>Qgs a t s.1 s.2) s=some e) (hD:QjL Γ rv a t e):Qkv Γ rv a t s.1 s.2:=by
 refine QaB (C:=fun (s:Int×Int)=>Qkv Γ rv a t s.1 s.2) (D:=fun (e:Int)=>QjL Γ rv a t e) ?_ h hD
 clear h hD s e
 rintro ⟨n,i⟩ z_ h hI hE
 replace h:Qgs a t n i=_:=h
 unfold Qgs at h
 rcases Qah h with ⟨h1,h⟩|⟨h1,h⟩
 ·obtain ⟨x0,h2,h⟩:=Qae h
  rcases Qah h with ⟨h3,h⟩|⟨h3,h⟩
  ·exact gn 14 [1,2,5,6] [0] [nL Qao.enc a.slow,bT h1,cE Qao.enc h2,bT h3,cE Qao.enc h2] (hI _ (oJ h))
  ·exact gn 14 [1,2,5,6] [0] [nL Qao.enc a.slow,bT h1,cE Qao.enc h2,bF h3] (hI _ (oJ h))
 ·exact gn 5 [5] [] [nL Qao.enc a.slow,bF h1] (hE _ (oJ h))
theorem Qsl {a t} {rv:Int} (h:QgL a t=some rv):AFn Tryz.prog 199 [.agg (Qas.enc a),.one (lI t)] [] (one (lI rv)) []:=by
 refine QaL Tryz.func199 (by kernel_rfl) (by kernel_rfl) (fun Γ=>?_)
 unfold QgL at h
 obtain ⟨r,h0,h⟩:=Qae h
 obtain ⟨e0,h4,h⟩:=Qae h
 refine gn 9 [1,2,5,6] [0] [cC (Qsk h0)] (QpZ Γ rv h4 ?_)
 obtain ⟨n1,rfl⟩:∃ x,x=e0:=⟨_,rfl⟩
 replace h:(some n1:Option Int)=some _:=h
 obtain rfl:=Option.some.inj h
 exact gr 2 [] []
theorem QuG {n profile from_ to_ t} {rv:Int×Int×Int} (h:QiO n profile from_ to_ t=some rv):AFn Tryz.prog 193 [.agg (Qal.enc n),.one (lI profile),.one (lI from_),.one (lI to_),.one (lI t)] [] (.tup [.one (lI rv.1),.one (lI rv.2.1),.one (lI rv.2.2)]) []:=by
 refine QaL Tryz.func193 (by kernel_rfl) (by kernel_rfl) (fun Γ=>?_)
 unfold QiO at h
 obtain ⟨r,h0,h⟩:=Qae h
 rcases Qah h with ⟨h1,h⟩|⟨h1,h⟩
 ·obtain ⟨r1,h2,h⟩:=Qae h
  rcases Qah h with ⟨h3,h⟩|⟨h3,h⟩
  ·rcases Qah h with ⟨h4,h⟩|⟨h4,h⟩
   ·obtain rfl:=Option.some.inj h
    exact gr 13 [] [cC (Qcq h0),rp 3 (nF h1),cC (Qcq h2),nF h1,nF h1,nF h3,bT h4]
   ·obtain ⟨r2,h5,h⟩:=Qae h
    rcases Qah h with ⟨h6,h⟩|⟨h6,h⟩
    ·obtain ⟨r3,h7,h⟩:=Qae h
     obtain rfl:=Option.some.inj h
     exact gr 21 [] [cC (Qcq h0),rp 3 (nF h1),cC (Qcq h2),nF h1,nF h1,nF h3,bF h4,cC (QoE h5),nF h6,hH (.draw 8 []),cC (Qsl h7)]
    ·obtain rfl:=Option.some.inj h
     exact gr 20 [] [cC (Qcq h0),rp 3 (nF h1),cC (Qcq h2),nF h1,nF h1,nF h3,bF h4,cC (QoE h5),nT h6]
  ·obtain rfl:=Option.some.inj h
   exact gr 8 [] [cC (Qcq h0),rp 3 (nF h1),cC (Qcq h2),nF h1,nF h1,nT h3]
 ·obtain rfl:=Option.some.inj h
  exact gr 8 [] [cC (Qcq h0),rp 5 (nT h1),tT]
theorem Qiq {x0 profile from_ to_ t} {rv:Int×Int×Bool} (h:Qmx x0 profile from_ to_ t=some rv):AFn Tryz.prog 189 [.agg (Qac.enc x0),.one (lI profile),.one (lI from_),.one (lI to_),.one (lI t)] [] (.tup [.one (lI rv.1),.one (lI rv.2.1),.one (.bool rv.2.2)]) []:=by
 refine QaL Tryz.func189 (by kernel_rfl) (by kernel_rfl) (fun Γ=>?_)
 unfold Qmx at h
 obtain ⟨r,h0,h⟩:=Qae h
 obtain rfl:=Option.some.inj h
 exact gr 6 [] [cC (QuG h0)]
theorem QhR {x0 t s0 to_ close late} {rv:Qay×Int} (h:Qds x0 t s0 to_ close late=some rv):AFn Tryz.prog 185 [.agg (Qac.enc x0),.agg (Qai.enc t),.agg (Qay.enc s0),.one (lI to_),.one (lI close),.one (lI late)] [] (.tup [.agg [lI rv.1.place,lI rv.1.time,lI rv.1.driven,lI rv.1.miles],.one (lI rv.2)]) []:=by
 refine QaL Tryz.func185 (by kernel_rfl) (by kernel_rfl) (fun Γ=>?_)
 unfold Qds at h
 obtain ⟨r,h0,h⟩:=Qae h
 rcases Qah h with ⟨h1,h⟩|⟨h1,h⟩
 ·rcases Qah h with ⟨h2,h⟩|⟨h2,h⟩
  ·obtain rfl:=Option.some.inj h
   exact gr 15 [] [cC (Qiq h0),nF h1,bT h2]
  ·rcases Qah h with ⟨h3,h⟩|⟨h3,h⟩
   ·obtain rfl:=Option.some.inj h
    exact gr 22 [] [cC (Qiq h0),nF h1,bF h2,bT h3]
   ·obtain rfl:=Option.some.inj h
    exact gr 23 [] [cC (Qiq h0),nF h1,bF h2,bF h3]
 ·obtain rfl:=Option.some.inj h
  exact gr 10 [] [cC (Qiq h0),nT h1]
def QqW (Γ:Gam) (rv:Qap×List Int×Int) (cf:Cf):Prop:=Go Tryz.prog Tryz.f177 [] Γ (.tup [.agg [.bool rv.1.rest_,lI rv.1.depart,lL 4 rv.1.times Qar.enc,lI rv.1.end_,lI rv.1.miles],.one (lL 1 rv.2.1 e_i64),.one (lI rv.2.2)]) [] cf
def QnV (Γ:Gam) (rv:Qap×List Int×Int) (x0:Qac) (r:Qad) (rests:List Bool) (x1:Qai) (x2:Bool) (l:List Int) (l1:List Qar) (x3:Qay) (depart:Int) (i:Int):Prop:=QqW Γ rv ⟨[.c 2036,.l 2036,.b 0,.c 255],⟨161,[vL 2 1 rests Qbb,vP 3 0 6,vP 4 1 4,vP 6 2 5,vP 9 3 14,vP 10 4 4,vP 11 5 5,vO 12 6 1 l e_i64,vI 13 i],[oX 6 30 (Qac.enc x0),oX 4 34 (Qad.enc r),oX 5 101 [.bool false,lI 0,.nils,lI 0,lI 0],oX 14 124 (Qai.enc x1),oX 4 233 (Qay.enc x3),oX 5 101 [.bool x2,lI depart,lO 7 4 l1 Qar.enc,lI 0,lI 0],oS 1 3 l e_i64,oS 4 213 l1 Qar.enc]⟩⟩
def Qm7 (Γ:Gam) (rv:Qap×List Int×Int) (x0:Qac) (r:Qad) (rests:List Bool) (x1:Qai) (x2:Bool) (l2:List Int) (l3:List Qar) (x6:Qay) (depart1:Int):Prop:=QqW Γ rv ⟨[.c 255],⟨161,[vP 3 0 6,vP 6 1 5,vP 9 2 14,vP 10 3 4,vP 11 4 5,vO 12 5 1 l2 e_i64],[oX 6 30 (Qac.enc x0),oX 5 101 [.bool false,lI 0,.nils,lI 0,lI 0],oX 14 124 (Qai.enc x1),oX 4 233 (Qay.enc x6),oX 5 101 [.bool x2,lI depart1,lO 6 4 l3 Qar.enc,lI 0,lI 0],oS 1 3 l2 e_i64,oS 4 213 l3 Qar.enc]⟩⟩
theorem Qso (Γ:Gam) (rv:Qap×List Int×Int) {x0 r rests x1 x2} {s:List Int×List Qar×Qay×Int×Int} {e:(List Int×List Qar×Qay×Int)⊕(Qap×List Int×Int)} (h:loopF (fun s=>Qfq x0 r rests x1 x2 s.1 s.2.1 s.2.2.1 s.2.2.2.1 s.2.2.2.2) s=some e) (hD:sel e (fun e=>Qm7 Γ rv x0 r rests x1 x2 e.1 e.2.1 e.2.2.1 e.2.2.2) (fun e=>e=rv)):QnV Γ rv x0 r rests x1 x2 s.1 s.2.1 s.2.2.1 s.2.2.2.1 s.2.2.2.2:=by
 refine QaB (C:=fun (s:List Int×List Qar×Qay×Int×Int)=>QnV Γ rv x0 r rests x1 x2 s.1 s.2.1 s.2.2.1 s.2.2.2.1 s.2.2.2.2) (D:=fun (e:(List Int×List Qar×Qay×Int)⊕(Qap×List Int×Int))=>sel e (fun e=>Qm7 Γ rv x0 r rests x1 x2 e.1 e.2.1 e.2.2.1 e.2.2.2) (fun e=>e=rv)) ?_ h hD
 clear h hD s e
 rintro ⟨l,l1,x3,depart,i⟩ z_ h hI hE
 replace h:Qfq x0 r rests x1 x2 l l1 x3 depart i=_:=h
 unfold Qfq at h
 rcases Qah h with ⟨h5,h⟩|⟨h5,h⟩
 ·obtain ⟨x4,h6,h⟩:=Qae h
  obtain ⟨r3,h7,h⟩:=Qae h
  obtain ⟨r4,h8,h⟩:=Qae h
  rcases Qah h with ⟨h9,h⟩|⟨h9,h⟩
  ·obtain rfl:=(hE _ (oJ h):_=rv)
   exact gr 17 [] [nL Qaa.enc r.visits,bT h5,hH (.draw 13 [(8,11)]),cE Qaa.enc h6,cC (QhS h7),cC (QhR h8),bT h9,hW 7,hH (.nilB 2 2 4),hH (.nilS 7 0 1)]
  ·obtain ⟨h10,h⟩:=Qau h
   obtain ⟨x5,h11,h⟩:=Qae h
   obtain ⟨r5,h12,h⟩:=Qae h
   obtain ⟨h13,h⟩:=Qau h
   exact gn 30 [2,3,4,6,9,10,11,12,13] [0,1,2,3,4,5,11,14] [nL Qaa.enc r.visits,bT h5,hH (.draw 13 [(8,11)]),cE Qaa.enc h6,cC (QhS h7),cC (QhR h8),bF h9,oO (Eq.refl ([r4.1.driven].map e_i64).length),aO e_i64 h10,hH (.draw 14 []),cE Qbb h11,hH (.draw 8 []),cE Qbb h11,cC (QoT h12),oO (Eq.refl ([(Qar.mk r4.1.time (maxI r4.1.time r3.1.open_) r5.time x5)].map Qar.enc).length),aO Qar.enc h13] (hI _ (oJ h))
 ·exact gn 5 [3,6,9,10,11,12] [0,2,3,4,5,6,7] [nL Qaa.enc r.visits,bF h5] (hE _ (oJ h))
theorem Qt6 {x0 r rests} {rv:Qap×List Int×Int} (h:QhQ x0 r rests=some rv):AFn Tryz.prog 177 [.agg (Qac.enc x0),.agg (Qad.enc r),.one (lL 1 rests Qbb)] [] (.tup [.agg [.bool rv.1.rest_,lI rv.1.depart,lL 4 rv.1.times Qar.enc,lI rv.1.end_,lI rv.1.miles],.one (lL 1 rv.2.1 e_i64),.one (lI rv.2.2)]) []:=by
 refine QaL Tryz.func177 (by kernel_rfl) (by kernel_rfl) (fun Γ=>?_)
 unfold QhQ at h
 obtain ⟨r1,h0,h⟩:=Qae h
 rcases Qah h with ⟨h1,h⟩|⟨h1,h⟩
 ·obtain rfl:=Option.some.inj h
  exact gr 8 [] [cC (QfK h0),hP,hP,oI ((!r1)=false),nL Qbb rests,hP,hP,hP,rp 2 (oI ((!r1)=false)),nL Qaa.enc r.visits,hP,hP,hP,rp 3 (oI ((!r1)=false)),oR True ((!r1)=false),bT h1,hW 6,hH (.nilB 2 2 4),hH (.nilS 7 0 1)]
 ·obtain ⟨x1,h2,h⟩:=Qae h
  obtain ⟨x2,h3,h⟩:=Qae h
  obtain ⟨r2,h4,h⟩:=Qae h
  obtain ⟨e0,h14,h⟩:=Qae h
  refine gn 20 [2,3,4,6,9,10,11,12,13] [0,1,2,3,4,5,6,7] [cC (QfK h0),hP,hP,oI ((!r1)=false),nL Qbb rests,hP,hP,hP,rp 2 (oI ((!r1)=false)),nL Qaa.enc r.visits,hP,hP,hP,rp 3 (oI ((!r1)=false)),oR True ((!r1)=false),bF h1,cE Qai.enc h2,hH (.draw 14 []),cE Qbb h3,cC (QoT h4),hH (.draw 7 []),cE Qbb h3,hW 10,hH (.adopt 12 1 3),hH (.adoptB 5 2 4 213)] (Qso Γ rv h14 ?_)
  rcases e0 with e0|e0
  ·obtain ⟨l2,l3,x6,depart1⟩:=e0
   replace h:(bnd (Qds x0 x1 x6 x1.to_ x1.close 15) fun r6=>br (neI r6.2 0) (some ((Qap.mk false 0 [] 0 0),[],r6.2)) (chk (okN (l2++[r6.1.driven]).length 8) (some ((Qap.mk x2 depart1 l3 r6.1.time r6.1.miles),(l2++[r6.1.driven]),0))):Option (Qap×List Int×Int))=some _:=h
   obtain ⟨r6,h15,h⟩:=Qae h
   rcases Qah h with ⟨h16,h⟩|⟨h16,h⟩
   ·obtain rfl:=Option.some.inj h
    exact gr 8 [] [cC (QhR h15),bT h16,hW 7,hH (.nilB 1 2 4),hH (.nilS 7 0 1)]
   ·obtain ⟨h17,h⟩:=Qau h
    obtain rfl:=Option.some.inj h
    exact gr 15 [] [cC (QhR h15),bF h16,oO (Eq.refl ([r6.1.driven].map e_i64).length),aO e_i64 h17,hW 20,hH (.frz 6),hH (.frz 9),rp 3 (eL l3 Qar.enc),rp 4 (oO (Eq.refl ((l2++[r6.1.driven]).map e_i64).length))]
  ·obtain ⟨r7,rfl⟩:∃ x,x=e0:=⟨_,rfl⟩
   replace h:(some r7:Option (Qap×List Int×Int))=some _:=h
   exact Option.some.inj h
theorem QlA {x0 r rests} {rv:Qap×Int} (h:QeD x0 r rests=some rv):AFn Tryz.prog 159 [.agg (Qac.enc x0),.agg (Qad.enc r),.one (lL 1 rests Qbb)] [] (.tup [.agg [.bool rv.1.rest_,lI rv.1.depart,lL 4 rv.1.times Qar.enc,lI rv.1.end_,lI rv.1.miles],.one (lI rv.2)]) []:=by
 refine QaL Tryz.func159 (by kernel_rfl) (by kernel_rfl) (fun Γ=>?_)
 unfold QeD at h
 obtain ⟨r1,h0,h⟩:=Qae h
 obtain rfl:=Option.some.inj h
 exact gr 6 [] [cC (Qt6 h0)]
def QpK (Γ:Gam) (rv:List Bool×Bool) (cf:Cf):Prop:=Go Tryz.prog Tryz.f160 [] Γ (.tup [.one (lL 1 rv.1 Qbb),.one (.bool rv.2)]) [] cf
def Qm6 (Γ:Gam) (rv:List Bool×Bool) (n:Int) (l:List Bool) (i:Int):Prop:=QpK Γ rv ⟨[.c 244,.l 244,.b 0,.c 31],⟨31,[vI 1 n,vO 6 0 1 l Qbb,vI 7 i],[oS 1 4 l Qbb]⟩⟩
def Qmh (Γ:Gam) (rv:List Bool×Bool) (n:Int):Prop:=QpK Γ rv ⟨[.c 31],⟨31,[],[]⟩⟩
theorem QrF (Γ:Gam) (rv:List Bool×Bool) {n} {s:List Bool×Int} {e:(Unit)⊕(List Bool×Bool)} (h:loopF (fun s=>QeZ n s.1 s.2) s=some e) (hD:sel e (fun e=>Qmh Γ rv n) (fun e=>e=rv)):Qm6 Γ rv n s.1 s.2:=by
 refine QaB (C:=fun (s:List Bool×Int)=>Qm6 Γ rv n s.1 s.2) (D:=fun (e:(Unit)⊕(List Bool×Bool))=>sel e (fun e=>Qmh Γ rv n) (fun e=>e=rv)) ?_ h hD
 clear h hD s e
 rintro ⟨l,i⟩ z_ h hI hE
 replace h:QeZ n l i=_:=h
 unfold QeZ at h
 rcases Qah h with ⟨h1,h⟩|⟨h1,h⟩
 ·obtain ⟨x0,h2,h⟩:=Qae h
  rcases Qah h with ⟨h3,h⟩|⟨h3,h⟩
  ·exact gn 16 [1,6,7] [0] [bT h1,oO (getLo h2),oO (getHi Qbb h2),rE Qbb h2,nF h3,oO (getLo h2),oO (getHi Qbb h2),rE Qbb h2,hH (.rows ((setI l i false).map Qbb)),hH (.relen 0 ((setI l i false).map Qbb).length),oO (setM Qbb l i false),rp 3 (oO (Qws Qbb l i false))] (hI _ (oJ h))
  ·obtain rfl:=(hE _ (oJ h):_=rv)
   exact gr 15 [] [bT h1,oO (getLo h2),oO (getHi Qbb h2),rE Qbb h2,nT h3,oO (getLo h2),oO (getHi Qbb h2),rE Qbb h2,hH (.rows ((setI l i true).map Qbb)),hH (.relen 0 ((setI l i true).map Qbb).length),hW 5,hH (.frz 0),oO (setM Qbb l i true),rp 3 (oO (Qws Qbb l i true)),rp 5 (oO (Eq.refl ((setI l i true).map Qbb).length))]
 ·exact gn 5 [] [] [bF h1] (hE _ (oJ h))
theorem QoS {rests n} {rv:List Bool×Bool} (h:QfU rests n=some rv):AFn Tryz.prog 160 [.one (lL 1 rests Qbb),.one (lI n)] [] (.tup [.one (lL 1 rv.1 Qbb),.one (.bool rv.2)]) []:=by
 refine QaL Tryz.func160 (by kernel_rfl) (by kernel_rfl) (fun Γ=>?_)
 unfold QfU at h
 obtain ⟨h0,h⟩:=Qau h
 obtain ⟨e0,h4,h⟩:=Qae h
 refine gn 11 [1,6,7] [0] [aN Qbb h0,nL Qbb rests] (QrF Γ rv h4 ?_)
 rcases e0 with e0|e0
 ·replace h:(some ([],false):Option (List Bool×Bool))=some _:=h
  obtain rfl:=Option.some.inj h
  exact gr 2 [] [hW 4,hH (.nilS 4 0 1)]
 ·obtain ⟨r,rfl⟩:∃ x,x=e0:=⟨_,rfl⟩
  replace h:(some r:Option (List Bool×Bool))=some _:=h
  exact Option.some.inj h
def Qlz (Γ:Gam) (rv:Qap×Int) (cf:Cf):Prop:=Go Tryz.prog Tryz.f132 [] Γ (.tup [.agg [.bool rv.1.rest_,lI rv.1.depart,lL 4 rv.1.times Qar.enc,lI rv.1.end_,lI rv.1.miles],.one (lI rv.2)]) [] cf
def Qiz (Γ:Gam) (rv:Qap×Int) (x0:Qac) (r:Qad) (l:List Bool) (r2:Qap×Int) (rests:List Bool) (x1:Qap) (rests1:List Bool) (found:Bool) (more:Bool):Prop:=Qlz Γ rv ⟨[.c 4088,.l 4088,.b 0,.c 1023],⟨88,[vP 2 0 6,vP 3 1 4,vP 4 2 5,vL 7 1 rests1 Qbb,vP 8 3 5,vI 9 r2.2,vB 10 found,vB 11 more],[oX 6 30 (Qac.enc x0),oX 4 34 [lI r.type_,lI r.start,lL 1 rests Qbb,lL 2 r.visits Qaa.enc],oX 5 101 [.bool false,lI 0,.nils,lI 0,lI 0],oX 5 101 (Qap.enc x1)]⟩⟩
def Qh3 (Γ:Gam) (rv:Qap×Int) (x0:Qac) (r:Qad) (l:List Bool) (r2:Qap×Int) (x3:Qap) (found2:Bool):Prop:=Qlz Γ rv ⟨[.c 1023],⟨88,[vP 4 0 5,vP 8 1 5,vI 9 r2.2,vB 10 found2],[oX 5 101 [.bool false,lI 0,.nils,lI 0,lI 0],oX 5 101 (Qap.enc x3)]⟩⟩
theorem Qmf (Γ:Gam) (rv:Qap×Int) {x0 r l r2 rests rests1 x2 found1} {x:(List Bool×Qap×List Bool×Bool×Bool)⊕(Qap×Bool)} (h:Qgg x0 r l r2 rests rests1 x2 found1=some x) (hI:∀ s:List Bool×Qap×List Bool×Bool×Bool,x=.inl s→Qiz Γ rv x0 r l r2 s.1 s.2.1 s.2.2.1 s.2.2.2.1 s.2.2.2.2) (hE:∀ e:Qap×Bool,x=.inr e→Qh3 Γ rv x0 r l r2 e.1 e.2):Qlz Γ rv ⟨[.c 65419,.b 1,.l 4088,.b 0,.c 1023],⟨88,[vP 2 0 6,vP 3 1 4,vP 4 2 5,vL 7 1 rests1 Qbb,vP 8 3 5,vI 9 r2.2,vB 10 found1],[oX 6 30 (Qac.enc x0),oX 4 34 [lI r.type_,lI r.start,lL 1 rests Qbb,lL 2 r.visits Qaa.enc],oX 5 101 [.bool false,lI 0,.nils,lI 0,lI 0],oX 5 101 (Qap.enc x2)]⟩⟩:=by
 unfold Qgg at h
 obtain ⟨r5,h8,h⟩:=Qae h
 exact gn 3 [2,3,4,7,8,9,10,11] [0,1,2,3] [nL Qbb rests,cC (QoS h8)] (hI _ (oJ h))
theorem QrE (Γ:Gam) (rv:Qap×Int) {x0 r l r2} {s:List Bool×Qap×List Bool×Bool×Bool} {e:Qap×Bool} (h:loopF (fun s=>QeY x0 r l r2 s.1 s.2.1 s.2.2.1 s.2.2.2.1 s.2.2.2.2) s=some e) (hD:Qh3 Γ rv x0 r l r2 e.1 e.2):Qiz Γ rv x0 r l r2 s.1 s.2.1 s.2.2.1 s.2.2.2.1 s.2.2.2.2:=by
 refine QaB (C:=fun (s:List Bool×Qap×List Bool×Bool×Bool)=>Qiz Γ rv x0 r l r2 s.1 s.2.1 s.2.2.1 s.2.2.2.1 s.2.2.2.2) (D:=fun (e:Qap×Bool)=>Qh3 Γ rv x0 r l r2 e.1 e.2) ?_ h hD
 clear h hD s e
 rintro ⟨rests,x1,rests1,found,more⟩ z_ h hI hE
 replace h:QeY x0 r l r2 rests x1 rests1 found more=_:=h
 unfold QeY at h
 rcases Qah h with ⟨h5,h⟩|⟨h5,h⟩
 ·obtain ⟨r4,h6,h⟩:=Qae h
  rcases Qah h with ⟨h7,h⟩|⟨h7,h⟩
  ·exact gn 15 [2,3,4,7,8,9,10] [0,1,2,3] [bT h5,cC (QlA h6),rp 11 hP,rp 2 (oI ((eqI r4.2 0)=true)),rp 4 (oI (((eqI r4.2 0)=true)∧(!found)=false)),oI ((eqI r4.2 0)=true),oI (((eqI r4.2 0)=true)∧(!found)=false),oR True ((eqI r4.2 0)=true),bT h7] (Qmf Γ rv h hI hE)
  ·exact gn 13 [2,3,4,7,8,9,10] [0,1,2,3] [bT h5,cC (QlA h6),rp 11 hP,rp 2 (oI ((eqI r4.2 0)=true)),rp 4 (oI (((eqI r4.2 0)=true)∧(!found)=false)),oI ((eqI r4.2 0)=true),oI (((eqI r4.2 0)=true)∧(!found)=false),oR True ((eqI r4.2 0)=true),bF h7] (Qmf Γ rv h hI hE)
 ·exact gn 5 [4,8,9,10] [2,3] [bF h5] (hE _ (oJ h))
theorem QoQ {x0 r} {rv:Qap×Int} (h:QfT x0 r=some rv):AFn Tryz.prog 132 [.agg (Qac.enc x0),.agg (Qad.enc r)] [] (.tup [.agg [.bool rv.1.rest_,lI rv.1.depart,lL 4 rv.1.times Qar.enc,lI rv.1.end_,lI rv.1.miles],.one (lI rv.2)]) []:=by
 refine QaL Tryz.func132 (by kernel_rfl) (by kernel_rfl) (fun Γ=>?_)
 unfold QfT at h
 obtain ⟨r1,h0,h⟩:=Qae h
 rcases Qah h with ⟨h1,h⟩|⟨h1,h⟩
 ·obtain rfl:=Option.some.inj h
  exact gr 10 [] [nL Qaa.enc r.visits,cC (QfK h0),hP,hP,hP,rp 2 (oI ((!r1)=false)),nL Qbb r.rests,hP,hP,hP,rp 2 (oI ((!r1)=false)),oR True ((!r1)=false),bT h1,hW 5,hH (.nilB 2 2 4)]
 ·obtain ⟨l,h2,h⟩:=Qae h
  obtain ⟨r2,h3,h⟩:=Qae h
  obtain ⟨r3,h4,h⟩:=Qae h
  obtain ⟨e0,h9,h⟩:=Qae h
  refine gn 22 [2,3,4,7,8,9,10,11] [0,1,2,4] [nL Qaa.enc r.visits,cC (QfK h0),hP,hP,hP,rp 2 (oI ((!r1)=false)),nL Qbb r.rests,hP,hP,hP,rp 2 (oI ((!r1)=false)),oR True ((!r1)=false),bF h1,hH (.cells [.bool false]),hH (.rows (l.map Qbb)),oO (mk1 h2),oO (mk2 h2),oO (mk3 h2),oO (mk4 h2),oO (mk5 Qbb h2),cY Qbb l r.rests,hH (.relen 3 ((cpyL l r.rests).map Qbb).length),hW 5,hH (.frz 3),rp 3 (oO (QDY Qbb l r.rests)),rp 4 (oO (Eq.refl ((cpyL l r.rests).map Qbb).length)),cC (QlA h3),nL Qbb r.rests,cC (QoS h4)] (QrE Γ rv h9 ?_)
  obtain ⟨x3,found2⟩:=e0
  replace h:(br found2 (some (x3,0)) (some ((Qap.mk false 0 [] 0 0),r2.2)):Option (Qap×Int))=some _:=h
  rcases Qah h with ⟨h10,h⟩|⟨h10,h⟩
  ·obtain rfl:=Option.some.inj h
   exact gr 7 [] [nF h10]
  ·obtain rfl:=Option.some.inj h
   exact gr 6 [] [nT h10,hW 6,hH (.nilB 0 2 4)]
def QnX (Γ:Gam) (rv:Bool) (cf:Cf):Prop:=Go Tryz.prog Tryz.f161 [] Γ (one (.bool rv)) [] cf
def Qlf (Γ:Gam) (rv:Bool) (l:List Qaa) (at_:Int) (i:Int):Prop:=QnX Γ rv ⟨[.c 52,.l 52,.b 0,.c 7],⟨22,[vL 0 2 l Qaa.enc,vI 1 at_,vI 5 i],[]⟩⟩
def Qj2 (Γ:Gam) (rv:Bool) (l:List Qaa) (at_:Int):Prop:=QnX Γ rv ⟨[.c 7],⟨22,[],[]⟩⟩
theorem Qp8 (Γ:Gam) (rv:Bool) {l at_} {s:Int} {e:(Unit)⊕(Bool)} (h:loopF (fun s=>Qcf l at_ s) s=some e) (hD:sel e (fun e=>Qj2 Γ rv l at_) (fun e=>e=rv)):Qlf Γ rv l at_ s:=by
 refine QaB (C:=fun (s:Int)=>Qlf Γ rv l at_ s) (D:=fun (e:(Unit)⊕(Bool))=>sel e (fun e=>Qj2 Γ rv l at_) (fun e=>e=rv)) ?_ h hD
 clear h hD s e
 intro i z_ h hI hE
 replace h:Qcf l at_ i=_:=h
 unfold Qcf at h
 rcases Qah h with ⟨h0,h⟩|⟨h0,h⟩
 ·obtain ⟨x0,h1,h⟩:=Qae h
  obtain ⟨x1,h2,h⟩:=Qae h
  rcases Qah h with ⟨h3,h⟩|⟨h3,h⟩
  ·obtain rfl:=(hE _ (oJ h):_=rv)
   exact gr 12 [] [bT h0,hH (.draw 11 []),cE Qaa.enc h1,cE Qaa.enc h2,bT h3]
  ·exact gn 14 [0,1,5] [] [bT h0,hH (.draw 11 []),cE Qaa.enc h1,cE Qaa.enc h2,bF h3] (hI _ (oJ h))
 ·exact gn 5 [] [] [bF h0] (hE _ (oJ h))
theorem QdP {l at_} {rv:Bool} (h:QgQ l at_=some rv):AFn Tryz.prog 161 [.one (lL 2 l Qaa.enc),.one (lI at_)] [] (one (.bool rv)) []:=by
 refine QaL Tryz.func161 (by kernel_rfl) (by kernel_rfl) (fun Γ=>?_)
 unfold QgQ at h
 obtain ⟨e0,h4,h⟩:=Qae h
 refine gn 7 [0,1,5] [] [] (Qp8 Γ rv h4 ?_)
 rcases e0 with e0|e0
 ·replace h:(some true:Option Bool)=some _:=h
  obtain rfl:=Option.some.inj h
  exact gr 2 [] []
 ·obtain ⟨r,rfl⟩:∃ x,x=e0:=⟨_,rfl⟩
  replace h:(some r:Option Bool)=some _:=h
  exact Option.some.inj h
def Qke (Γ:Gam) (rv:Qaz) (cf:Cf):Prop:=Go Tryz.prog Tryz.f133 [] Γ (gG [lI rv.cost,lI rv.moved,lI rv.other,lI rv.work]) [] cf
def Qh4 (Γ:Gam) (rv:Qaz) (x0:Qac) (r:Qad) (s0:Qap) (x1:Qai) (moved:Int) (other:Int) (i:Int):Prop:=Qke Γ rv ⟨[.c 1012,.l 1012,.b 0,.c 127],⟨128,[vP 3 0 6,vP 4 1 4,vP 6 2 4,vP 9 3 4,vI 10 i],[oX 6 30 (Qac.enc x0),oX 4 34 (Qad.enc r),oX 4 93 [lI 0,lI 0,lI 0,lI 0],oX 4 93 [lI (addK .i64 (addK .i64 x1.fixed (mulK .i64 x1.perMile s0.miles)) (mulK .i64 x1.perTick (subK .i64 s0.end_ x1.open_))),lI moved,lI other,lI (mulK .i64 (quoK .i64 (subK .i64 s0.end_ x1.open_) 64) (quoK .i64 (subK .i64 s0.end_ x1.open_) 64))]]⟩⟩
def QhF (Γ:Gam) (rv:Qaz) (x0:Qac) (r:Qad) (s0:Qap) (x1:Qai) (moved2:Int) (other1:Int):Prop:=Qke Γ rv ⟨[.c 127],⟨128,[vP 6 0 4,vP 9 1 4],[oX 4 93 [lI 0,lI 0,lI 0,lI 0],oX 4 93 [lI (addK .i64 (addK .i64 x1.fixed (mulK .i64 x1.perMile s0.miles)) (mulK .i64 x1.perTick (subK .i64 s0.end_ x1.open_))),lI moved2,lI other1,lI (mulK .i64 (quoK .i64 (subK .i64 s0.end_ x1.open_) 64) (quoK .i64 (subK .i64 s0.end_ x1.open_) 64))]]⟩⟩
theorem Qle (Γ:Gam) (rv:Qaz) {x0 r s0 x1 other i x2 moved1} {x:(Int×Int×Int)⊕(Int×Int)} (h:QfL x0 r s0 x1 other i x2 moved1=some x) (hI:∀ s:Int×Int×Int,x=.inl s→Qh4 Γ rv x0 r s0 x1 s.1 s.2.1 s.2.2) (hE:∀ e:Int×Int,x=.inr e→QhF Γ rv x0 r s0 x1 e.1 e.2):Qke Γ rv ⟨[.c 64807,.b 1,.c 4051,.l 1012,.b 0,.c 127],⟨128,[vP 3 0 6,vP 4 1 4,vP 6 2 4,vP 9 3 4,vI 10 i,vI 11 x2.order],[oX 6 30 (Qac.enc x0),oX 4 34 (Qad.enc r),oX 4 93 [lI 0,lI 0,lI 0,lI 0],oX 4 93 [lI (addK .i64 (addK .i64 x1.fixed (mulK .i64 x1.perMile s0.miles)) (mulK .i64 x1.perTick (subK .i64 s0.end_ x1.open_))),lI moved1,lI other,lI (mulK .i64 (quoK .i64 (subK .i64 s0.end_ x1.open_) 64) (quoK .i64 (subK .i64 s0.end_ x1.open_) 64))]]⟩⟩:=by
 unfold QfL at h
 obtain ⟨x4,h10,h⟩:=Qae h
 rcases Qah h with ⟨h11,h⟩|⟨h11,h⟩
 ·rcases Qah h with ⟨h12,h⟩|⟨h12,h⟩
  ·exact gn 7 [3,4,6,9,10] [0,1,2,3] [hH (.draw 18 []),cE Qag.enc h10,rp 4 (bT h11),cE Qag.enc h10,rp 6 (bT h11),bT h12] (hI _ (oJ h))
  ·exact gn 7 [3,4,6,9,10] [0,1,2,3] [hH (.draw 18 []),cE Qag.enc h10,rp 4 (bT h11),cE Qag.enc h10,rp 6 (bT h11),bF h12] (hI _ (oJ h))
 ·exact gn 7 [3,4,6,9,10] [0,1,2,3] [hH (.draw 18 []),cE Qag.enc h10,rp 10 (bF h11),fF] (hI _ (oJ h))
theorem QqX (Γ:Gam) (rv:Qaz) {x0 r s0 x1} {s:Int×Int×Int} {e:Int×Int} (h:loopF (fun s=>Qb5 x0 r s0 x1 s.1 s.2.1 s.2.2) s=some e) (hD:QhF Γ rv x0 r s0 x1 e.1 e.2):Qh4 Γ rv x0 r s0 x1 s.1 s.2.1 s.2.2:=by
 refine QaB (C:=fun (s:Int×Int×Int)=>Qh4 Γ rv x0 r s0 x1 s.1 s.2.1 s.2.2) (D:=fun (e:Int×Int)=>QhF Γ rv x0 r s0 x1 e.1 e.2) ?_ h hD
 clear h hD s e
 rintro ⟨moved,other,i⟩ z_ h hI hE
 replace h:Qb5 x0 r s0 x1 moved other i=_:=h
 unfold Qb5 at h
 rcases Qah h with ⟨h2,h⟩|⟨h2,h⟩
 ·obtain ⟨x2,h3,h⟩:=Qae h
  rcases Qah h with ⟨h4,h⟩|⟨h4,h⟩
  ·exact gn 16 [3,4,6,9,10] [0,1,2,3] [nL Qaa.enc r.visits,bT h2,cE Qaa.enc h3,rp 4 hP,rp 2 (oI ((ltI x2.order 0)=false)),nL Qag.enc x0.orders,hP,hP,rp 2 (oI ((ltI x2.order 0)=false)),oR True ((ltI x2.order 0)=false),rp 6 (bT h4),tT] (hI _ (oJ h))
  ·obtain ⟨r1,h5,h⟩:=Qae h
   rcases Qah h with ⟨h6,h⟩|⟨h6,h⟩
   ·obtain ⟨x3,h7,h⟩:=Qae h
    rcases Qah h with ⟨h8,h⟩|⟨h8,h⟩
    ·rcases Qah h with ⟨h9,h⟩|⟨h9,h⟩
     ·exact gn 19 [3,4,6,9,10,11] [0,1,2,3] [nL Qaa.enc r.visits,bT h2,cE Qaa.enc h3,rp 4 hP,rp 2 (oI ((ltI x2.order 0)=false)),nL Qag.enc x0.orders,hP,hP,rp 2 (oI ((ltI x2.order 0)=false)),oR True ((ltI x2.order 0)=false),rp 4 (bF h4),cC (QdP h5),bF h4,bF h4,nF h6,hH (.draw 18 []),cE Qag.enc h7,rp 4 (bT h8),cE Qag.enc h7,rp 6 (bT h8),bT h9] (Qle Γ rv h hI hE)
     ·exact gn 19 [3,4,6,9,10,11] [0,1,2,3] [nL Qaa.enc r.visits,bT h2,cE Qaa.enc h3,rp 4 hP,rp 2 (oI ((ltI x2.order 0)=false)),nL Qag.enc x0.orders,hP,hP,rp 2 (oI ((ltI x2.order 0)=false)),oR True ((ltI x2.order 0)=false),rp 4 (bF h4),cC (QdP h5),bF h4,bF h4,nF h6,hH (.draw 18 []),cE Qag.enc h7,rp 4 (bT h8),cE Qag.enc h7,rp 6 (bT h8),bF h9] (Qle Γ rv h hI hE)
    ·rcases Qah h with ⟨h13,h⟩|⟨h13,h⟩
     ·rcases Qah h with ⟨h14,h⟩|⟨h14,h⟩
      ·exact gn 26 [3,4,6,9,10] [0,1,2,3] [nL Qaa.enc r.visits,bT h2,cE Qaa.enc h3,rp 4 hP,rp 2 (oI ((ltI x2.order 0)=false)),nL Qag.enc x0.orders,hP,hP,rp 2 (oI ((ltI x2.order 0)=false)),oR True ((ltI x2.order 0)=false),rp 4 (bF h4),cC (QdP h5),bF h4,bF h4,nF h6,hH (.draw 18 []),cE Qag.enc h7,rp 10 (bF h8),fF,hH (.draw 18 []),cE Qag.enc h7,rp 4 (bT h13),cE Qag.enc h7,rp 6 (bT h13),bT h14] (hI _ (oJ h))
      ·exact gn 26 [3,4,6,9,10] [0,1,2,3] [nL Qaa.enc r.visits,bT h2,cE Qaa.enc h3,rp 4 hP,rp 2 (oI ((ltI x2.order 0)=false)),nL Qag.enc x0.orders,hP,hP,rp 2 (oI ((ltI x2.order 0)=false)),oR True ((ltI x2.order 0)=false),rp 4 (bF h4),cC (QdP h5),bF h4,bF h4,nF h6,hH (.draw 18 []),cE Qag.enc h7,rp 10 (bF h8),fF,hH (.draw 18 []),cE Qag.enc h7,rp 4 (bT h13),cE Qag.enc h7,rp 6 (bT h13),bF h14] (hI _ (oJ h))
     ·exact gn 26 [3,4,6,9,10] [0,1,2,3] [nL Qaa.enc r.visits,bT h2,cE Qaa.enc h3,rp 4 hP,rp 2 (oI ((ltI x2.order 0)=false)),nL Qag.enc x0.orders,hP,hP,rp 2 (oI ((ltI x2.order 0)=false)),oR True ((ltI x2.order 0)=false),rp 4 (bF h4),cC (QdP h5),bF h4,bF h4,nF h6,hH (.draw 18 []),cE Qag.enc h7,rp 10 (bF h8),fF,hH (.draw 18 []),cE Qag.enc h7,rp 10 (bF h13),fF] (hI _ (oJ h))
   ·exact gn 16 [3,4,6,9,10] [0,1,2,3] [nL Qaa.enc r.visits,bT h2,cE Qaa.enc h3,rp 4 hP,rp 2 (oI ((ltI x2.order 0)=false)),nL Qag.enc x0.orders,hP,hP,rp 2 (oI ((ltI x2.order 0)=false)),oR True ((ltI x2.order 0)=false),rp 4 (bF h4),cC (QdP h5),bF h4,bF h4,nT h6] (hI _ (oJ h))
 ·exact gn 5 [6,9] [2,3] [nL Qaa.enc r.visits,bF h2] (hE _ (oJ h))
theorem QsX {x0 r s0} {rv:Qaz} (h:Qgh x0 r s0=some rv):AFn Tryz.prog 133 [.agg (Qac.enc x0),.agg (Qad.enc r),.agg (Qap.enc s0)] [] (gG [lI rv.cost,lI rv.moved,lI rv.other,lI rv.work]) []:=by
 refine QaL Tryz.func133 (by kernel_rfl) (by kernel_rfl) (fun Γ=>?_)
 unfold Qgh at h
 rcases Qah h with ⟨h0,h⟩|⟨h0,h⟩
 ·obtain rfl:=Option.some.inj h
  exact gr 8 [] [rp 5 hP,rp 3 (oI ((ltI r.type_ 0)=false)),nL Qai.enc x0.types,hP,hP,rp 2 (oI ((ltI r.type_ 0)=false)),oR True ((ltI r.type_ 0)=false),bT h0]
 ·obtain ⟨x1,h1,h⟩:=Qae h
  obtain ⟨e0,h15,h⟩:=Qae h
  refine gn 18 [3,4,6,9,10] [0,1,3,5] [rp 5 hP,rp 3 (oI ((ltI r.type_ 0)=false)),nL Qai.enc x0.types,hP,hP,rp 2 (oI ((ltI r.type_ 0)=false)),oR True ((ltI r.type_ 0)=false),bF h0,cE Qai.enc h1,rp 2 (oO (oA (n:=64)))] (QqX Γ rv h15 ?_)
  obtain ⟨moved2,other1⟩:=e0
  replace h:(some (Qaz.mk (addK .i64 (addK .i64 x1.fixed (mulK .i64 x1.perMile s0.miles)) (mulK .i64 x1.perTick (subK .i64 s0.end_ x1.open_))) moved2 other1 (mulK .i64 (quoK .i64 (subK .i64 s0.end_ x1.open_) 64) (quoK .i64 (subK .i64 s0.end_ x1.open_) 64))):Option Qaz)=some _:=h
  obtain rfl:=Option.some.inj h
  exact gr 2 [] []
def Qmi (Γ:Gam) (rv:Qap×Qaz×Int) (cf:Cf):Prop:=Go Tryz.prog Tryz.f100 [] Γ (.tup [.agg [.bool rv.1.rest_,lI rv.1.depart,lL 4 rv.1.times Qar.enc,lI rv.1.end_,lI rv.1.miles],.agg [lI rv.2.1.cost,lI rv.2.1.moved,lI rv.2.1.other,lI rv.2.1.work],.one (lI rv.2.2)]) [] cf
def Qjt (Γ:Gam) (rv:Qap×Qaz×Int) (x0:Qac) (r:Qad) (i:Int):Prop:=Qmi Γ rv ⟨[.c 244,.l 244,.b 0,.c 31],⟨85,[vP 2 0 6,vP 3 1 4,vP 4 2 5,vP 5 3 4,vI 8 i],[oX 6 30 (Qac.enc x0),oX 4 34 (Qad.enc r),oX 5 101 [.bool false,lI 0,.nils,lI 0,lI 0],oX 4 93 [lI 0,lI 0,lI 0,lI 0]]⟩⟩
def QiZ (Γ:Gam) (rv:Qap×Qaz×Int) (x0:Qac) (r:Qad):Prop:=Qmi Γ rv ⟨[.c 31],⟨85,[vP 2 0 6,vP 3 1 4,vP 4 2 5,vP 5 3 4],[oX 6 30 (Qac.enc x0),oX 4 34 (Qad.enc r),oX 5 101 [.bool false,lI 0,.nils,lI 0,lI 0],oX 4 93 [lI 0,lI 0,lI 0,lI 0]]⟩⟩
theorem QoU (Γ:Gam) (rv:Qap×Qaz×Int) {x0 r} {s:Int} {e:(Unit)⊕(Qap×Qaz×Int)} (h:loopF (fun s=>Qbv x0 r s) s=some e) (hD:sel e (fun e=>QiZ Γ rv x0 r) (fun e=>e=rv)):Qjt Γ rv x0 r s:=by
 refine QaB (C:=fun (s:Int)=>Qjt Γ rv x0 r s) (D:=fun (e:(Unit)⊕(Qap×Qaz×Int))=>sel e (fun e=>QiZ Γ rv x0 r) (fun e=>e=rv)) ?_ h hD
 clear h hD s e
 intro i z_ h hI hE
 replace h:Qbv x0 r i=_:=h
 unfold Qbv at h
 rcases Qah h with ⟨h3,h⟩|⟨h3,h⟩
 ·obtain ⟨x1,h4,h⟩:=Qae h
  obtain ⟨x2,h5,h⟩:=Qae h
  obtain ⟨x3,h6,h⟩:=Qae h
  obtain ⟨r2,h7,h⟩:=Qae h
  rcases Qah h with ⟨h8,h⟩|⟨h8,h⟩
  ·exact gn 14 [2,3,4,5,8] [0,1,2,3] [nL Qaa.enc r.visits,bT h3,hH (.draw 19 []),cE Qai.enc h4,cE Qaa.enc h5,cE Qag.enc h6,cC (QoI h7),nF h8] (hI _ (oJ h))
  ·obtain rfl:=(hE _ (oJ h):_=rv)
   exact gr 12 [] [nL Qaa.enc r.visits,bT h3,hH (.draw 19 []),cE Qai.enc h4,cE Qaa.enc h5,cE Qag.enc h6,cC (QoI h7),nT h8,hW 7,hH (.nilB 2 2 4)]
 ·exact gn 5 [2,3,4,5] [0,1,2,3] [nL Qaa.enc r.visits,bF h3] (hE _ (oJ h))
theorem Qlg {x0 r} {rv:Qap×Qaz×Int} (h:Qev x0 r=some rv):AFn Tryz.prog 100 [.agg (Qac.enc x0),.agg (Qad.enc r)] [] (.tup [.agg [.bool rv.1.rest_,lI rv.1.depart,lL 4 rv.1.times Qar.enc,lI rv.1.end_,lI rv.1.miles],.agg [lI rv.2.1.cost,lI rv.2.1.moved,lI rv.2.1.other,lI rv.2.1.work],.one (lI rv.2.2)]) []:=by
 refine QaL Tryz.func100 (by kernel_rfl) (by kernel_rfl) (fun Γ=>?_)
 unfold Qev at h
 rcases Qah h with ⟨h0,h⟩|⟨h0,h⟩
 ·obtain rfl:=Option.some.inj h
  exact gr 8 [] [rp 5 hP,rp 3 (oI ((ltI r.type_ 0)=false)),nL Qai.enc x0.types,hP,hP,rp 2 (oI ((ltI r.type_ 0)=false)),oR True ((ltI r.type_ 0)=false),bT h0,hW 7,hH (.nilB 2 2 4)]
 ·obtain ⟨r1,h1,h⟩:=Qae h
  rcases Qah h with ⟨h2,h⟩|⟨h2,h⟩
  ·obtain rfl:=Option.some.inj h
   exact gr 15 [] [rp 5 hP,rp 3 (oI ((ltI r.type_ 0)=false)),nL Qai.enc x0.types,hP,hP,rp 2 (oI ((ltI r.type_ 0)=false)),oR True ((ltI r.type_ 0)=false),bF h0,cC (Qhi h1),bT h2,hW 8,hH (.nilB 2 2 4)]
  ·obtain ⟨e0,h9,h⟩:=Qae h
   refine gn 19 [2,3,4,5,8] [0,1,2,3] [rp 5 hP,rp 3 (oI ((ltI r.type_ 0)=false)),nL Qai.enc x0.types,hP,hP,rp 2 (oI ((ltI r.type_ 0)=false)),oR True ((ltI r.type_ 0)=false),bF h0,cC (Qhi h1),bF h2] (QoU Γ rv h9 ?_)
   rcases e0 with e0|e0
   ·replace h:(bnd (QgY x0 r) fun r3=>br (neI r3 0) (some ((Qap.mk false 0 [] 0 0),(Qaz.mk 0 0 0 0),r3)) (bnd (QfT x0 r) fun r4=>br (neI r4.2 0) (some ((Qap.mk false 0 [] 0 0),(Qaz.mk 0 0 0 0),r4.2)) (bnd (Qgh x0 r r4.1) fun r5=>some (r4.1,r5,0))):Option (Qap×Qaz×Int))=some _:=h
    obtain ⟨r3,h10,h⟩:=Qae h
    rcases Qah h with ⟨h11,h⟩|⟨h11,h⟩
    ·obtain rfl:=Option.some.inj h
     exact gr 8 [] [cC (Qkd h10),bT h11,hW 8,hH (.nilB 2 2 4)]
    ·obtain ⟨r4,h12,h⟩:=Qae h
     rcases Qah h with ⟨h13,h⟩|⟨h13,h⟩
     ·obtain rfl:=Option.some.inj h
      exact gr 15 [] [cC (Qkd h10),bF h11,cC (QoQ h12),bT h13,hW 8,hH (.nilB 2 2 4)]
     ·obtain ⟨r5,h14,h⟩:=Qae h
      obtain rfl:=Option.some.inj h
      exact gr 16 [] [cC (Qkd h10),bF h11,cC (QoQ h12),bF h13,hH (.draw 5 []),cC (QsX h14)]
   ·obtain ⟨r6,rfl⟩:∃ x,x=e0:=⟨_,rfl⟩
    replace h:(some r6:Option (Qap×Qaz×Int))=some _:=h
    exact Option.some.inj h
theorem Qdv {x0 r} {rv:Int×Int} (h:Qfd x0 r=some rv):AFn Tryz.prog 70 [.agg (Qac.enc x0),.agg (Qad.enc r)] [] (.tup [.one (lI rv.1),.one (lI rv.2)]) []:=by
 refine QaL Tryz.func70 (by kernel_rfl) (by kernel_rfl) (fun Γ=>?_)
 unfold Qfd at h
 obtain ⟨r1,h0,h⟩:=Qae h
 rcases Qah h with ⟨h1,h⟩|⟨h1,h⟩
 ·obtain rfl:=Option.some.inj h
  exact gr 10 [] [cC (Qlg h0),bT h1]
 ·obtain ⟨r2,h2,h⟩:=Qae h
  obtain rfl:=Option.some.inj h
  exact gr 11 [] [cC (Qlg h0),bF h1,cC (Qsp h2)]
theorem QsW {a b} {rv:Bool} (h:Qjq a b=some rv):AFn Tryz.prog 101 [.agg (Qaa.enc a),.agg (Qaa.enc b)] [] (one (.bool rv)) []:=by
 refine QaL Tryz.func101 (by kernel_rfl) (by kernel_rfl) (fun Γ=>?_)
 unfold Qjq at h
 obtain rfl:=Option.some.inj h
 exact gr 4 [] [rp 17 hP,rp 5 (oI ((ltI a.order b.order)=false)),rp 2 (oI (((ltI a.order b.order)=false)∧(eqI a.order b.order)=true)),oI ((ltI a.order b.order)=false),oI (((ltI a.order b.order)=false)∧(eqI a.order b.order)=true),oI ((ltI a.order b.order)=false),oI (((ltI a.order b.order)=false)∧((eqI a.order b.order)&&(!a.drop))=true),oI ((ltI a.order b.order)=false),oI (((ltI a.order b.order)=false)∧((eqI a.order b.order)&&(!a.drop))=true),oR True ((ltI a.order b.order)=false)]
def QpI (Γ:Gam) (rv:Bool) (cf:Cf):Prop:=Go Tryz.prog Tryz.f71 [] Γ (one (.bool rv)) [] cf
def Qm2 (Γ:Gam) (rv:Bool) (a:List Qaa) (b:List Qaa) (i:Int):Prop:=QpI Γ rv ⟨[.c 52,.l 52,.b 0,.c 7],⟨41,[vL 0 2 a Qaa.enc,vL 1 2 b Qaa.enc,vI 5 i],[]⟩⟩
def Ql8 (Γ:Gam) (rv:Bool) (a:List Qaa) (b:List Qaa):Prop:=QpI Γ rv ⟨[.c 7],⟨41,[vL 0 2 a Qaa.enc,vL 1 2 b Qaa.enc],[]⟩⟩
theorem QrC (Γ:Gam) (rv:Bool) {a b} {s:Int} {e:(Unit)⊕(Bool)} (h:loopF (fun s=>QcT a b s) s=some e) (hD:sel e (fun e=>Ql8 Γ rv a b) (fun e=>e=rv)):Qm2 Γ rv a b s:=by
 refine QaB (C:=fun (s:Int)=>Qm2 Γ rv a b s) (D:=fun (e:(Unit)⊕(Bool))=>sel e (fun e=>Ql8 Γ rv a b) (fun e=>e=rv)) ?_ h hD
 clear h hD s e
 intro i z_ h hI hE
 replace h:QcT a b i=_:=h
 unfold QcT at h
 rcases Qah h with ⟨h0,h⟩|⟨h0,h⟩
 ·obtain ⟨x0,h1,h⟩:=Qae h
  obtain ⟨x1,h2,h⟩:=Qae h
  rcases Qah h with ⟨h3,h⟩|⟨h3,h⟩
  ·exact gn 14 [0,1,5] [] [nL Qaa.enc a,hP,hP,hP,oI ((ltI i (lenI a))=true),nL Qaa.enc b,hP,hP,rp 2 (oI ((ltI i (lenI a))=true)),oR True ((ltI i (lenI a))=true),bT h0,hH (.draw 9 []),cE Qaa.enc h1,cE Qaa.enc h2,nF h3] (hI _ (oJ h))
  ·obtain ⟨r,h4,h⟩:=Qae h
   obtain rfl:=(hE _ (oJ h):_=rv)
   exact gr 12 [] [nL Qaa.enc a,hP,hP,hP,oI ((ltI i (lenI a))=true),nL Qaa.enc b,hP,hP,rp 2 (oI ((ltI i (lenI a))=true)),oR True ((ltI i (lenI a))=true),bT h0,hH (.draw 9 []),cE Qaa.enc h1,cE Qaa.enc h2,nT h3,hH (.draw 10 []),cE Qaa.enc h1,cE Qaa.enc h2,cC (QsW h4)]
 ·exact gn 5 [0,1] [] [nL Qaa.enc a,hP,hP,hP,oI ((ltI i (lenI a))=true),nL Qaa.enc b,hP,hP,rp 2 (oI ((ltI i (lenI a))=true)),oR True ((ltI i (lenI a))=true),bF h0] (hE _ (oJ h))
theorem QoM {a b} {rv:Bool} (h:Qib a b=some rv):AFn Tryz.prog 71 [.one (lL 2 a Qaa.enc),.one (lL 2 b Qaa.enc)] [] (one (.bool rv)) []:=by
 refine QaL Tryz.func71 (by kernel_rfl) (by kernel_rfl) (fun Γ=>?_)
 unfold Qib at h
 obtain ⟨e0,h5,h⟩:=Qae h
 refine gn 7 [0,1,5] [] [] (QrC Γ rv h5 ?_)
 rcases e0 with e0|e0
 ·replace h:(some (ltI (lenI a) (lenI b)):Option Bool)=some _:=h
  obtain rfl:=Option.some.inj h
  exact gr 2 [] [nL Qaa.enc a,nL Qaa.enc b]
 ·obtain ⟨r1,rfl⟩:∃ x,x=e0:=⟨_,rfl⟩
  replace h:(some r1:Option Bool)=some _:=h
  exact Option.some.inj h
theorem Qnc {x0 f r visits} {rv:QaK} (h:Qfr x0 f r visits=some rv):AFn Tryz.prog 33 [.agg (Qac.enc x0),.agg (QaK.enc f),.agg (Qad.enc r),.one (lL 2 visits Qaa.enc)] [] (gG [.bool rv.ok,lI rv.route.type_,lI rv.route.start,lL 1 rv.route.rests Qbb,lL 2 rv.route.visits Qaa.enc,lI rv.price]) []:=by
 refine QaL Tryz.func33 (by kernel_rfl) (by kernel_rfl) (fun Γ=>?_)
 unfold Qfr at h
 obtain ⟨r1,h0,h⟩:=Qae h
 rcases Qah h with ⟨h1,h⟩|⟨h1,h⟩
 ·obtain rfl:=Option.some.inj h
  exact gr 12 [] [cC (Qdv h0),bT h1]
 ·rcases Qah h with ⟨h2,h⟩|⟨h2,h⟩
  ·obtain rfl:=Option.some.inj h
   exact gr 17 [] [cC (Qdv h0),bF h1,rp 5 hP,rp 3 (oI ((!f.ok)=false)),oR True ((!f.ok)=false),rp 5 (bT h2),rp 5 kF,bT h2,bT h2,tT]
  ·rcases Qah h with ⟨h3,h⟩|⟨h3,h⟩
   ·obtain ⟨r2,h4,h⟩:=Qae h
    rcases Qah h with ⟨h5,h⟩|⟨h5,h⟩
    ·obtain rfl:=Option.some.inj h
     exact gr 17 [] [cC (Qdv h0),bF h1,rp 5 hP,rp 3 (oI ((!f.ok)=false)),oR True ((!f.ok)=false),rp 5 (bF h2),rp 5 (bT h3),cC (QoM h4),bF h2,bT h3,bF h2,bT h5]
    ·obtain rfl:=Option.some.inj h
     exact gr 18 [] [cC (Qdv h0),bF h1,rp 5 hP,rp 3 (oI ((!f.ok)=false)),oR True ((!f.ok)=false),rp 5 (bF h2),rp 5 (bT h3),cC (QoM h4),bF h2,bT h3,bF h2,bF h5]
   ·obtain rfl:=Option.some.inj h
    exact gr 18 [] [cC (Qdv h0),bF h1,rp 5 hP,rp 3 (oI ((!f.ok)=false)),oR True ((!f.ok)=false),rp 5 (bF h2),rp 5 (bF h3),bF h2,bF h3,bF h2,fF]
def Qis (Γ:Gam) (rv:Qad×Int×Int) (cf:Cf):Prop:=Go Tryz.prog Tryz.f12 [] Γ (.tup [.agg [lI rv.1.type_,lI rv.1.start,lL 1 rv.1.rests Qbb,lL 2 rv.1.visits Qaa.enc],.one (lI rv.2.1),.one (lI rv.2.2)]) [] cf
def Qnb (Γ:Gam) (rv:Qad×Int×Int) (x0:Qac) (r3:List Qaa) (x2:Qad) (ok:Bool) (type_:Int) (start:Int) (rests:List Bool) (visits:List Qaa) (price:Int) (i:Int) (r4:List Qaa) (ok1:Bool) (type_1:Int) (start1:Int) (rests1:List Bool) (visits1:List Qaa) (price1:Int) (k:Int):Prop:=Qis Γ rv ⟨[.c 521372,.l 521372,.b 2,.b 1,.c 8147,.l 2036,.b 0,.c 255],⟨98,[vP 3 0 6,vP 4 1 4,vP 6 2 4,vL 9 2 r3 Qaa.enc,vP 10 3 6,vI 11 i,vL 12 2 r4 Qaa.enc,vI 13 k],[oX 6 30 (Qac.enc x0),oX 4 34 (Qad.enc x2),oX 4 34 [lI 0,lI 0,.nils,.nils],oX 6 76 [.bool ok1,lI type_1,lI start1,lL 1 rests1 Qbb,lL 2 visits1 Qaa.enc,lI price1]]⟩⟩
def Qmm (Γ:Gam) (rv:Qad×Int×Int) (x0:Qac) (r3:List Qaa) (x2:Qad) (ok:Bool) (type_:Int) (start:Int) (rests:List Bool) (visits:List Qaa) (price:Int) (i:Int) (r4:List Qaa) (x5:QaK):Prop:=Qis Γ rv ⟨[.b 1,.c 8147,.l 2036,.b 0,.c 255],⟨98,[vP 3 0 6,vP 4 1 4,vP 6 2 4,vL 9 2 r3 Qaa.enc,vP 10 3 6,vI 11 i],[oX 6 30 (Qac.enc x0),oX 4 34 (Qad.enc x2),oX 4 34 [lI 0,lI 0,.nils,.nils],oX 6 76 (QaK.enc x5)]⟩⟩
def Qna (Γ:Gam) (rv:Qad×Int×Int) (x0:Qac) (r3:List Qaa) (x2:Qad) (ok:Bool) (type_:Int) (start:Int) (rests:List Bool) (visits:List Qaa) (price:Int) (i:Int):Prop:=Qis Γ rv ⟨[.c 2036,.l 2036,.b 0,.c 255],⟨98,[vP 3 0 6,vP 4 1 4,vP 6 2 4,vL 9 2 r3 Qaa.enc,vP 10 3 6,vI 11 i],[oX 6 30 (Qac.enc x0),oX 4 34 (Qad.enc x2),oX 4 34 [lI 0,lI 0,.nils,.nils],oX 6 76 [.bool ok,lI type_,lI start,lL 1 rests Qbb,lL 2 visits Qaa.enc,lI price]]⟩⟩
def Qml (Γ:Gam) (rv:Qad×Int×Int) (x0:Qac) (r3:List Qaa) (x6:QaK):Prop:=Qis Γ rv ⟨[.c 255],⟨98,[vP 6 0 4,vP 10 1 6],[oX 4 34 [lI 0,lI 0,.nils,.nils],oX 6 76 (QaK.enc x6)]⟩⟩
theorem QrJ (Γ:Gam) (rv:Qad×Int×Int) {x0 r3 x2 ok type_ start rests visits price i r4} {s:Bool×Int×Int×List Bool×List Qaa×Int×Int} {e:QaK} (h:loopF (fun s=>Qdp x0 r3 x2 ok type_ start rests visits price i r4 s.1 s.2.1 s.2.2.1 s.2.2.2.1 s.2.2.2.2.1 s.2.2.2.2.2.1 s.2.2.2.2.2.2) s=some e) (hD:Qmm Γ rv x0 r3 x2 ok type_ start rests visits price i r4 e):Qnb Γ rv x0 r3 x2 ok type_ start rests visits price i r4 s.1 s.2.1 s.2.2.1 s.2.2.2.1 s.2.2.2.2.1 s.2.2.2.2.2.1 s.2.2.2.2.2.2:=by
 refine QaB (C:=fun (s:Bool×Int×Int×List Bool×List Qaa×Int×Int)=>Qnb Γ rv x0 r3 x2 ok type_ start rests visits price i r4 s.1 s.2.1 s.2.2.1 s.2.2.2.1 s.2.2.2.2.1 s.2.2.2.2.2.1 s.2.2.2.2.2.2) (D:=fun (e:QaK)=>Qmm Γ rv x0 r3 x2 ok type_ start rests visits price i r4 e) ?_ h hD
 clear h hD s e
 rintro ⟨ok1,type_1,start1,rests1,visits1,price1,k⟩ z_ h hI hE
 replace h:Qdp x0 r3 x2 ok type_ start rests visits price i r4 ok1 type_1 start1 rests1 visits1 price1 k=_:=h
 unfold Qdp at h
 rcases Qah h with ⟨h13,h⟩|⟨h13,h⟩
 ·obtain ⟨x4,h14,h⟩:=Qae h
  obtain ⟨r6,h15,h⟩:=Qae h
  obtain ⟨r7,h16,h⟩:=Qae h
  exact gn 11 [3,4,6,9,10,11,12,13] [0,1,2,3] [nL Qaa.enc r4,bT h13,hH (.draw 10 []),cE Qaa.enc h14,cC (QiB h15),cC (Qnc h16)] (hI _ (oJ h))
 ·exact gn 5 [3,4,6,9,10,11] [0,1,2,3] [nL Qaa.enc r4,bF h13] (hE _ (oJ h))
theorem QrI (Γ:Gam) (rv:Qad×Int×Int) {x0 r3} {s:Qad×Bool×Int×Int×List Bool×List Qaa×Int×Int} {e:QaK} (h:loopF (fun s=>QbY x0 r3 s.1 s.2.1 s.2.2.1 s.2.2.2.1 s.2.2.2.2.1 s.2.2.2.2.2.1 s.2.2.2.2.2.2.1 s.2.2.2.2.2.2.2) s=some e) (hD:Qml Γ rv x0 r3 e):Qna Γ rv x0 r3 s.1 s.2.1 s.2.2.1 s.2.2.2.1 s.2.2.2.2.1 s.2.2.2.2.2.1 s.2.2.2.2.2.2.1 s.2.2.2.2.2.2.2:=by
 refine QaB (C:=fun (s:Qad×Bool×Int×Int×List Bool×List Qaa×Int×Int)=>Qna Γ rv x0 r3 s.1 s.2.1 s.2.2.1 s.2.2.2.1 s.2.2.2.2.1 s.2.2.2.2.2.1 s.2.2.2.2.2.2.1 s.2.2.2.2.2.2.2) (D:=fun (e:QaK)=>Qml Γ rv x0 r3 e) ?_ h hD
 clear h hD s e
 rintro ⟨x2,ok,type_,start,rests,visits,price,i⟩ z_ h hI hE
 replace h:QbY x0 r3 x2 ok type_ start rests visits price i=_:=h
 unfold QbY at h
 rcases Qah h with ⟨h8,h⟩|⟨h8,h⟩
 ·obtain ⟨x3,h9,h⟩:=Qae h
  obtain ⟨r4,h10,h⟩:=Qae h
  rcases Qah h with ⟨h11,h⟩|⟨h11,h⟩
  ·obtain ⟨r5,h12,h⟩:=Qae h
   exact gn 18 [3,4,6,9,10,11] [0,1,2,3] [nL Qaa.enc x2.visits,bT h8,hH (.draw 8 []),cE Qaa.enc h9,cC (QiB h10),nL Qaa.enc r3,bT h11,cC (Qnc h12)] (hI _ (oJ h))
  ·obtain ⟨e0,h17,h⟩:=Qae h
   refine gn 18 [3,4,6,9,10,11,12,13] [0,1,2,3] [nL Qaa.enc x2.visits,bT h8,hH (.draw 8 []),cE Qaa.enc h9,cC (QiB h10),nL Qaa.enc r3,bF h11] (QrJ Γ rv h17 ?_)
   obtain ⟨x5,rfl⟩:∃ x,x=e0:=⟨_,rfl⟩
   replace h:(some (.inl (x2,x5.ok,x5.route.type_,x5.route.start,x5.route.rests,x5.route.visits,x5.price,(addK .i64 i 1))):Option ((Qad×Bool×Int×Int×List Bool×List Qaa×Int×Int)⊕(QaK)))=some _:=h
   exact gn 3 [3,4,6,9,10,11] [0,1,2,3] [] (hI _ (oJ h))
 ·exact gn 5 [6,10] [2,3] [nL Qaa.enc x2.visits,bF h8] (hE _ (oJ h))
theorem Qe0 {x0 r order} {rv:Qad×Int×Int} (h:QfV x0 r order=some rv):AFn Tryz.prog 12 [.agg (Qac.enc x0),.agg (Qad.enc r),.one (lI order)] [] (.tup [.agg [lI rv.1.type_,lI rv.1.start,lL 1 rv.1.rests Qbb,lL 2 rv.1.visits Qaa.enc],.one (lI rv.2.1),.one (lI rv.2.2)]) []:=by
 refine QaL Tryz.func12 (by kernel_rfl) (by kernel_rfl) (fun Γ=>?_)
 unfold QfV at h
 rcases Qah h with ⟨h0,h⟩|⟨h0,h⟩
 ·obtain rfl:=Option.some.inj h
  exact gr 8 [] [rp 5 hP,rp 3 (oI ((ltI r.type_ 0)=false)),nL Qai.enc x0.types,hP,hP,rp 2 (oI ((ltI r.type_ 0)=false)),oR True ((ltI r.type_ 0)=false),rp 5 (bT h0),tT,hW 6,hH (.nilB 2 2 1),hH (.nilB 2 3 2)]
 ·obtain ⟨r1,h1,h⟩:=Qae h
  rcases Qah h with ⟨h2,h⟩|⟨h2,h⟩
  ·obtain ⟨x1,h3,h⟩:=Qae h
   rcases Qah h with ⟨h4,h⟩|⟨h4,h⟩
   ·obtain rfl:=Option.some.inj h
    exact gr 13 [] [rp 5 hP,rp 3 (oI ((ltI r.type_ 0)=false)),nL Qai.enc x0.types,hP,hP,rp 2 (oI ((ltI r.type_ 0)=false)),oR True ((ltI r.type_ 0)=false),rp 3 (bF h0),cC (QbQ h1),bF h0,bF h0,nF h2,cE Qag.enc h3,bT h4,hW 6,hH (.nilB 2 2 1),hH (.nilB 2 3 2)]
   ·obtain ⟨r2,h5,h⟩:=Qae h
    rcases Qah h with ⟨h6,h⟩|⟨h6,h⟩
    ·obtain rfl:=Option.some.inj h
     exact gr 18 [] [rp 5 hP,rp 3 (oI ((ltI r.type_ 0)=false)),nL Qai.enc x0.types,hP,hP,rp 2 (oI ((ltI r.type_ 0)=false)),oR True ((ltI r.type_ 0)=false),rp 3 (bF h0),cC (QbQ h1),bF h0,bF h0,nF h2,cE Qag.enc h3,bF h4,cC (Qju h5),bT h6,hW 6,hH (.nilB 2 2 1),hH (.nilB 2 3 2)]
    ·obtain ⟨r3,h7,h⟩:=Qae h
     obtain ⟨e1,h18,h⟩:=Qae h
     refine gn 26 [3,4,6,9,10,11] [0,1,2,3] [rp 5 hP,rp 3 (oI ((ltI r.type_ 0)=false)),nL Qai.enc x0.types,hP,hP,rp 2 (oI ((ltI r.type_ 0)=false)),oR True ((ltI r.type_ 0)=false),rp 3 (bF h0),cC (QbQ h1),bF h0,bF h0,nF h2,cE Qag.enc h3,bF h4,cC (Qju h5),bF h6,cC (Qsm h7),nL Qbb r.rests,hW 3,hH (.nilB 3 3 1),hH (.nilB 3 4 2)] (QrI Γ rv h18 ?_)
     obtain ⟨x6,rfl⟩:∃ x,x=e1:=⟨_,rfl⟩
     replace h:(br x6.ok (some (x6.route,x6.price,0)) (some ((Qad.mk 0 0 [] []),0,24)):Option (Qad×Int×Int))=some _:=h
     rcases Qah h with ⟨h19,h⟩|⟨h19,h⟩
     ·obtain rfl:=Option.some.inj h
      exact gr 7 [] [nF h19,hH (.draw 7 [(0,4)])]
     ·obtain rfl:=Option.some.inj h
      exact gr 6 [] [nT h19,hW 6,hH (.nilB 0 2 1),hH (.nilB 0 3 2)]
  ·obtain rfl:=Option.some.inj h
   exact gr 8 [] [rp 5 hP,rp 3 (oI ((ltI r.type_ 0)=false)),nL Qai.enc x0.types,hP,hP,rp 2 (oI ((ltI r.type_ 0)=false)),oR True ((ltI r.type_ 0)=false),rp 3 (bF h0),cC (QbQ h1),bF h0,bF h0,nT h2,hW 6,hH (.nilB 2 2 1),hH (.nilB 2 3 2)]
def QfM (Γ:Gam) (rv:Bool) (cf:Cf):Prop:=Go Tryz.prog Tryz.f72 [] Γ (one (.bool rv)) [] cf
def Qi0 (Γ:Gam) (rv:Bool) (a:Qad) (b:Qad) (i:Int):Prop:=QfM Γ rv ⟨[.c 116,.l 116,.b 0,.c 15],⟨73,[vP 2 0 4,vP 3 1 4,vI 5 i],[oX 4 34 (Qad.enc a),oX 4 34 (Qad.enc b)]⟩⟩
def Qic (Γ:Gam) (rv:Bool) (a:Qad) (b:Qad):Prop:=QfM Γ rv ⟨[.c 15],⟨73,[vP 2 0 4,vP 3 1 4],[oX 4 34 (Qad.enc a),oX 4 34 (Qad.enc b)]⟩⟩
def Qi1 (Γ:Gam) (rv:Bool) (a:Qad) (b:Qad) (i1:Int):Prop:=QfM Γ rv ⟨[.c 244,.l 244,.b 2,.c 31],⟨73,[vP 2 0 4,vP 3 1 4,vI 6 i1],[oX 4 34 (Qad.enc a),oX 4 34 (Qad.enc b)]⟩⟩
def Qid (Γ:Gam) (rv:Bool) (a:Qad) (b:Qad):Prop:=QfM Γ rv ⟨[.c 31],⟨73,[],[]⟩⟩
theorem Qog (Γ:Gam) (rv:Bool) {a b} {s:Int} {e:(Unit)⊕(Bool)} (h:loopF (fun s=>QbR a b s) s=some e) (hD:sel e (fun e=>Qic Γ rv a b) (fun e=>e=rv)):Qi0 Γ rv a b s:=by
 refine QaB (C:=fun (s:Int)=>Qi0 Γ rv a b s) (D:=fun (e:(Unit)⊕(Bool))=>sel e (fun e=>Qic Γ rv a b) (fun e=>e=rv)) ?_ h hD
 clear h hD s e
 intro i z_ h hI hE
 replace h:QbR a b i=_:=h
 unfold QbR at h
 rcases Qah h with ⟨h1,h⟩|⟨h1,h⟩
 ·obtain ⟨x0,h2,h⟩:=Qae h
  obtain ⟨x1,h3,h⟩:=Qae h
  rcases Qah h with ⟨h4,h⟩|⟨h4,h⟩
  ·exact gn 14 [2,3,5] [0,1] [nL Qbb a.rests,bT h1,hH (.draw 11 []),cE Qbb h2,cE Qbb h3,nF h4] (hI _ (oJ h))
  ·obtain rfl:=(hE _ (oJ h):_=rv)
   exact gr 12 [] [nL Qbb a.rests,bT h1,hH (.draw 11 []),cE Qbb h2,cE Qbb h3,nT h4]
 ·exact gn 5 [2,3] [0,1] [nL Qbb a.rests,bF h1] (hE _ (oJ h))
theorem Qoh (Γ:Gam) (rv:Bool) {a b} {s:Int} {e:(Unit)⊕(Bool)} (h:loopF (fun s=>Qbz a b s) s=some e) (hD:sel e (fun e=>Qid Γ rv a b) (fun e=>e=rv)):Qi1 Γ rv a b s:=by
 refine QaB (C:=fun (s:Int)=>Qi1 Γ rv a b s) (D:=fun (e:(Unit)⊕(Bool))=>sel e (fun e=>Qid Γ rv a b) (fun e=>e=rv)) ?_ h hD
 clear h hD s e
 intro i1 z_ h hI hE
 replace h:Qbz a b i1=_:=h
 unfold Qbz at h
 rcases Qah h with ⟨h6,h⟩|⟨h6,h⟩
 ·obtain ⟨x2,h7,h⟩:=Qae h
  obtain ⟨x3,h8,h⟩:=Qae h
  rcases Qah h with ⟨h9,h⟩|⟨h9,h⟩
  ·exact gn 14 [2,3,6] [0,1] [nL Qaa.enc a.visits,bT h6,hH (.draw 11 []),cE Qaa.enc h7,cE Qaa.enc h8,nF h9] (hI _ (oJ h))
  ·obtain rfl:=(hE _ (oJ h):_=rv)
   exact gr 12 [] [nL Qaa.enc a.visits,bT h6,hH (.draw 11 []),cE Qaa.enc h7,cE Qaa.enc h8,nT h9]
 ·exact gn 5 [] [] [nL Qaa.enc a.visits,bF h6] (hE _ (oJ h))
theorem Qj3 {a b} {rv:Bool} (h:Qfe a b=some rv):AFn Tryz.prog 72 [.agg (Qad.enc a),.agg (Qad.enc b)] [] (one (.bool rv)) []:=by
 refine QaL Tryz.func72 (by kernel_rfl) (by kernel_rfl) (fun Γ=>?_)
 unfold Qfe at h
 rcases Qah h with ⟨h0,h⟩|⟨h0,h⟩
 ·obtain rfl:=Option.some.inj h
  exact gr 8 [] [rp 9 hP,rp 4 (oI ((neI a.type_ b.type_)=false)),oR True ((neI a.type_ b.type_)=false),rp 2 (oI (((neI a.type_ b.type_)||(neI a.start b.start))=false)),nL Qbb a.rests,hP,hP,hP,rp 2 (oI (((neI a.type_ b.type_)||(neI a.start b.start))=false)),nL Qbb b.rests,rp 5 hP,rp 2 (oI (((neI a.type_ b.type_)||(neI a.start b.start))=false)),oR True (((neI a.type_ b.type_)||(neI a.start b.start))=false),rp 2 (oI ((((neI a.type_ b.type_)||(neI a.start b.start))||(neI (lenI a.rests) (lenI b.rests)))=false)),nL Qaa.enc a.visits,hP,hP,hP,rp 2 (oI ((((neI a.type_ b.type_)||(neI a.start b.start))||(neI (lenI a.rests) (lenI b.rests)))=false)),nL Qaa.enc b.visits,hP,hP,rp 2 (oI ((((neI a.type_ b.type_)||(neI a.start b.start))||(neI (lenI a.rests) (lenI b.rests)))=false)),oR True ((((neI a.type_ b.type_)||(neI a.start b.start))||(neI (lenI a.rests) (lenI b.rests)))=false),bT h0]
 ·obtain ⟨e0,h5,h⟩:=Qae h
  refine gn 12 [2,3,5] [0,1] [rp 9 hP,rp 4 (oI ((neI a.type_ b.type_)=false)),oR True ((neI a.type_ b.type_)=false),rp 2 (oI (((neI a.type_ b.type_)||(neI a.start b.start))=false)),nL Qbb a.rests,hP,hP,hP,rp 2 (oI (((neI a.type_ b.type_)||(neI a.start b.start))=false)),nL Qbb b.rests,rp 5 hP,rp 2 (oI (((neI a.type_ b.type_)||(neI a.start b.start))=false)),oR True (((neI a.type_ b.type_)||(neI a.start b.start))=false),rp 2 (oI ((((neI a.type_ b.type_)||(neI a.start b.start))||(neI (lenI a.rests) (lenI b.rests)))=false)),nL Qaa.enc a.visits,hP,hP,hP,rp 2 (oI ((((neI a.type_ b.type_)||(neI a.start b.start))||(neI (lenI a.rests) (lenI b.rests)))=false)),nL Qaa.enc b.visits,hP,hP,rp 2 (oI ((((neI a.type_ b.type_)||(neI a.start b.start))||(neI (lenI a.rests) (lenI b.rests)))=false)),oR True ((((neI a.type_ b.type_)||(neI a.start b.start))||(neI (lenI a.rests) (lenI b.rests)))=false),bF h0] (Qog Γ rv h5 ?_)
  rcases e0 with e0|e0
  ·replace h:(bnd (loopF (fun s=>Qbz a b s) 0) (fun e=>sel e (fun (_:Unit)=>some true) (fun r=>some r)):Option Bool)=some _:=h
   obtain ⟨e1,h10,h⟩:=Qae h
   refine gn 5 [2,3,6] [0,1] [] (Qoh Γ rv h10 ?_)
   rcases e1 with e1|e1
   ·replace h:(some true:Option Bool)=some _:=h
    obtain rfl:=Option.some.inj h
    exact gr 2 [] []
   ·obtain ⟨r,rfl⟩:∃ x,x=e1:=⟨_,rfl⟩
    replace h:(some r:Option Bool)=some _:=h
    exact Option.some.inj h
  ·obtain ⟨r1,rfl⟩:∃ x,x=e0:=⟨_,rfl⟩
   replace h:(some r1:Option Bool)=some _:=h
   exact Option.some.inj h
def Qir (Γ:Gam) (rv:Bool) (cf:Cf):Prop:=Go Tryz.prog Tryz.f34 [] Γ (one (.bool rv)) [] cf
def Qm8 (Γ:Gam) (rv:Bool) (a:Qak) (b:Qak) (i:Int):Prop:=Qir Γ rv ⟨[.c 116,.l 116,.b 0,.c 15],⟨60,[vP 2 0 2,vP 3 1 2,vI 5 i],[oX 2 44 (Qak.enc a),oX 2 44 (Qak.enc b)]⟩⟩
def Qmj (Γ:Gam) (rv:Bool) (a:Qak) (b:Qak):Prop:=Qir Γ rv ⟨[.c 15],⟨60,[vP 2 0 2,vP 3 1 2],[oX 2 44 (Qak.enc a),oX 2 44 (Qak.enc b)]⟩⟩
def Qm9 (Γ:Gam) (rv:Bool) (a:Qak) (b:Qak) (i1:Int):Prop:=Qir Γ rv ⟨[.c 244,.l 244,.b 2,.c 31],⟨60,[vP 2 0 2,vP 3 1 2,vI 6 i1],[oX 2 44 (Qak.enc a),oX 2 44 (Qak.enc b)]⟩⟩
def Qmk (Γ:Gam) (rv:Bool) (a:Qak) (b:Qak):Prop:=Qir Γ rv ⟨[.c 31],⟨60,[],[]⟩⟩
theorem QrG (Γ:Gam) (rv:Bool) {a b} {s:Int} {e:(Unit)⊕(Bool)} (h:loopF (fun s=>Qdo a b s) s=some e) (hD:sel e (fun e=>Qmj Γ rv a b) (fun e=>e=rv)):Qm8 Γ rv a b s:=by
 refine QaB (C:=fun (s:Int)=>Qm8 Γ rv a b s) (D:=fun (e:(Unit)⊕(Bool))=>sel e (fun e=>Qmj Γ rv a b) (fun e=>e=rv)) ?_ h hD
 clear h hD s e
 intro i z_ h hI hE
 replace h:Qdo a b i=_:=h
 unfold Qdo at h
 rcases Qah h with ⟨h1,h⟩|⟨h1,h⟩
 ·obtain ⟨x0,h2,h⟩:=Qae h
  obtain ⟨x1,h3,h⟩:=Qae h
  obtain ⟨r,h4,h⟩:=Qae h
  rcases Qah h with ⟨h5,h⟩|⟨h5,h⟩
  ·exact gn 14 [2,3,5] [0,1] [nL Qad.enc a.routes,bT h1,hH (.draw 12 []),cE Qad.enc h2,cE Qad.enc h3,cC (Qj3 h4),nF h5] (hI _ (oJ h))
  ·obtain rfl:=(hE _ (oJ h):_=rv)
   exact gr 12 [] [nL Qad.enc a.routes,bT h1,hH (.draw 12 []),cE Qad.enc h2,cE Qad.enc h3,cC (Qj3 h4),nT h5]
 ·exact gn 5 [2,3] [0,1] [nL Qad.enc a.routes,bF h1] (hE _ (oJ h))
theorem QrH (Γ:Gam) (rv:Bool) {a b} {s:Int} {e:(Unit)⊕(Bool)} (h:loopF (fun s=>QcV a b s) s=some e) (hD:sel e (fun e=>Qmk Γ rv a b) (fun e=>e=rv)):Qm9 Γ rv a b s:=by
 refine QaB (C:=fun (s:Int)=>Qm9 Γ rv a b s) (D:=fun (e:(Unit)⊕(Bool))=>sel e (fun e=>Qmk Γ rv a b) (fun e=>e=rv)) ?_ h hD
 clear h hD s e
 intro i1 z_ h hI hE
 replace h:QcV a b i1=_:=h
 unfold QcV at h
 rcases Qah h with ⟨h7,h⟩|⟨h7,h⟩
 ·obtain ⟨x2,h8,h⟩:=Qae h
  obtain ⟨x3,h9,h⟩:=Qae h
  rcases Qah h with ⟨h10,h⟩|⟨h10,h⟩
  ·obtain rfl:=(hE _ (oJ h):_=rv)
   exact gr 12 [] [nL e_i64 a.unserved,bT h7,hH (.draw 11 []),cE e_i64 h8,cE e_i64 h9,bT h10]
  ·exact gn 14 [2,3,6] [0,1] [nL e_i64 a.unserved,bT h7,hH (.draw 11 []),cE e_i64 h8,cE e_i64 h9,bF h10] (hI _ (oJ h))
 ·exact gn 5 [] [] [nL e_i64 a.unserved,bF h7] (hE _ (oJ h))
theorem Qto {a b} {rv:Bool} (h:Qkm a b=some rv):AFn Tryz.prog 34 [.agg (Qak.enc a),.agg (Qak.enc b)] [] (one (.bool rv)) []:=by
 refine QaL Tryz.func34 (by kernel_rfl) (by kernel_rfl) (fun Γ=>?_)
 unfold Qkm at h
 rcases Qah h with ⟨h0,h⟩|⟨h0,h⟩
 ·obtain rfl:=Option.some.inj h
  exact gr 8 [] [nL Qad.enc a.routes,nL Qad.enc b.routes,hP,hP,hP,rp 2 (oI ((neI (lenI a.routes) (lenI b.routes))=false)),nL e_i64 a.unserved,hP,hP,hP,rp 2 (oI ((neI (lenI a.routes) (lenI b.routes))=false)),nL e_i64 b.unserved,hP,hP,rp 2 (oI ((neI (lenI a.routes) (lenI b.routes))=false)),oR True ((neI (lenI a.routes) (lenI b.routes))=false),bT h0]
 ·obtain ⟨e0,h6,h⟩:=Qae h
  refine gn 12 [2,3,5] [0,1] [nL Qad.enc a.routes,nL Qad.enc b.routes,hP,hP,hP,rp 2 (oI ((neI (lenI a.routes) (lenI b.routes))=false)),nL e_i64 a.unserved,hP,hP,hP,rp 2 (oI ((neI (lenI a.routes) (lenI b.routes))=false)),nL e_i64 b.unserved,hP,hP,rp 2 (oI ((neI (lenI a.routes) (lenI b.routes))=false)),oR True ((neI (lenI a.routes) (lenI b.routes))=false),bF h0] (QrG Γ rv h6 ?_)
  rcases e0 with e0|e0
  ·replace h:(bnd (loopF (fun s=>QcV a b s) 0) (fun e=>sel e (fun (_:Unit)=>some true) (fun r1=>some r1)):Option Bool)=some _:=h
   obtain ⟨e1,h11,h⟩:=Qae h
   refine gn 5 [2,3,6] [0,1] [] (QrH Γ rv h11 ?_)
   rcases e1 with e1|e1
   ·replace h:(some true:Option Bool)=some _:=h
    obtain rfl:=Option.some.inj h
    exact gr 2 [] []
   ·obtain ⟨r1,rfl⟩:∃ x,x=e1:=⟨_,rfl⟩
    replace h:(some r1:Option Bool)=some _:=h
    exact Option.some.inj h
  ·obtain ⟨r2,rfl⟩:∃ x,x=e0:=⟨_,rfl⟩
   replace h:(some r2:Option Bool)=some _:=h
   exact Option.some.inj h
theorem QoV {a b} {rv:Bool} (h:Qif a b=some rv):AFn Tryz.prog 13 [.agg (Qak.enc a),.agg (Qak.enc b)] [] (one (.bool rv)) []:=by
 refine QaL Tryz.func13 (by kernel_rfl) (by kernel_rfl) (fun Γ=>?_)
 unfold Qif at h
 obtain ⟨r,h0,h⟩:=Qae h
 obtain rfl:=Option.some.inj h
 exact gr 4 [] [cC (Qto h0)]
def QqC (Γ:Gam) (rv:Bool) (cf:Cf):Prop:=Go Tryz.prog Tryz.f18 [] Γ (one (.bool rv)) [] cf
def QnJ (Γ:Gam) (rv:Bool) (p:Qak) (v:Int):Prop:=QqC Γ rv ⟨[.c 116,.l 116,.b 0,.c 15],⟨20,[vL 10 4 p.routes Qad.enc,vI 11 (lenI p.routes),vI 12 v],[]⟩⟩
def QmT (Γ:Gam) (rv:Bool) (p:Qak):Prop:=QqC Γ rv ⟨[.c 15],⟨20,[],[]⟩⟩
theorem Qsh (Γ:Gam) (rv:Bool) {p} {s:Int} {e:(Unit)⊕(Bool)} (h:loopF (fun s=>QgJ p s) s=some e) (hD:sel e (fun e=>QmT Γ rv p) (fun e=>e=rv)):QnJ Γ rv p s:=by
 refine QaB (C:=fun (s:Int)=>QnJ Γ rv p s) (D:=fun (e:(Unit)⊕(Bool))=>sel e (fun e=>QmT Γ rv p) (fun e=>e=rv)) ?_ h hD
 clear h hD s e
 intro v z_ h hI hE
 replace h:QgJ p v=_:=h
 unfold QgJ at h
 rcases Qah h with ⟨h1,h⟩|⟨h1,h⟩
 ·obtain ⟨x0,h2,h⟩:=Qae h
  obtain ⟨r,h3,h⟩:=Qae h
  rcases Qah h with ⟨h4,h⟩|⟨h4,h⟩
  ·exact gn 16 [10,11,12] [] [bT h1,cE Qad.enc h2,cC (QnK h3),nF h4] (hI _ (oJ h))
  ·obtain rfl:=(hE _ (oJ h):_=rv)
   exact gr 14 [] [bT h1,cE Qad.enc h2,cC (QnK h3),nT h4]
 ·exact gn 5 [] [] [bF h1] (hE _ (oJ h))
theorem Qip {p} {rv:Bool} (h:Qjc p=some rv):AFn Tryz.prog 18 [.agg (Qak.enc p)] [] (one (.bool rv)) []:=by
 refine QaL Tryz.func18 (by kernel_rfl) (by kernel_rfl) (fun Γ=>?_)
 unfold Qjc at h
 rcases Qah h with ⟨h0,h⟩|⟨h0,h⟩
 ·obtain rfl:=Option.some.inj h
  exact gr 8 [] [nL Qad.enc p.routes,bT h0]
 ·obtain ⟨e0,h5,h⟩:=Qae h
  refine gn 12 [10,11,12] [] [nL Qad.enc p.routes,bF h0,nL Qad.enc p.routes] (Qsh Γ rv h5 ?_)
  rcases e0 with e0|e0
  ·replace h:(some true:Option Bool)=some _:=h
   obtain rfl:=Option.some.inj h
   exact gr 2 [] []
  ·obtain ⟨r1,rfl⟩:∃ x,x=e0:=⟨_,rfl⟩
   replace h:(some r1:Option Bool)=some _:=h
   exact Option.some.inj h
theorem Qph {x0 p o} {rv:Qak×Int} (h:Qov x0 p o=some rv):AFn Tryz.prog 19 [.agg (Qac.enc x0),.agg (Qak.enc p),.one (lI o)] [] (.tup [.agg [lL 4 rv.1.routes Qad.enc,lL 1 rv.1.unserved e_i64],.one (lI rv.2)]) []:=by
 refine QaL Tryz.func19 (by kernel_rfl) (by kernel_rfl) (fun Γ=>?_)
 unfold Qov at h
 obtain ⟨r,h0,h⟩:=Qae h
 rcases Qah h with ⟨h1,h⟩|⟨h1,h⟩
 ·obtain rfl:=Option.some.inj h
  exact gr 10 [] [cC (Qe6 h0),bT h1,hW 6,hH (.nilB 2 0 4),hH (.nilB 2 1 1)]
 ·obtain ⟨r1,h2,h⟩:=Qae h
  rcases Qah h with ⟨h3,h⟩|⟨h3,h⟩
  ·obtain rfl:=Option.some.inj h
   exact gr 15 [] [cC (Qe6 h0),bF h1,cC (Qf5 h2),bT h3,hW 5,hH (.nilB 2 0 4),hH (.nilB 2 1 1)]
  ·obtain ⟨r2,h4,h⟩:=Qae h
   rcases Qah h with ⟨h5,h⟩|⟨h5,h⟩
   ·obtain rfl:=Option.some.inj h
    exact gr 22 [] [cC (Qe6 h0),bF h1,cC (Qf5 h2),bF h3,cC (Qi9 h4),bT h5,hW 6,hH (.nilB 2 0 4),hH (.nilB 2 1 1)]
   ·obtain ⟨r3,h6,h⟩:=Qae h
    obtain rfl:=Option.some.inj h
    exact gr 23 [] [cC (Qe6 h0),bF h1,cC (Qf5 h2),bF h3,cC (Qi9 h4),bF h5,cC (QsK h6)]
def QnY (Γ:Gam) (rv:List Int×Int) (cf:Cf):Prop:=Go Tryz.prog Tryz.f41 [] Γ (.tup [.one (lL 1 rv.1 e_i64),.one (lI rv.2)]) [] cf
def Qlh (Γ:Gam) (rv:List Int×Int) (x0:Qac) (p:Qak) (l:List Int) (i:Int):Prop:=QnY Γ rv ⟨[.c 116,.l 116,.b 0,.c 15],⟨35,[vP 2 0 6,vP 3 1 2,vO 6 2 1 l e_i64,vI 7 i],[oX 6 30 (Qac.enc x0),oX 2 44 (Qak.enc p),oS 1 3 l e_i64]⟩⟩
def Qj4 (Γ:Gam) (rv:List Int×Int) (x0:Qac) (p:Qak) (l1:List Int):Prop:=QnY Γ rv ⟨[.c 15],⟨35,[vO 6 0 1 l1 e_i64],[oS 1 3 l1 e_i64]⟩⟩
theorem Qp9 (Γ:Gam) (rv:List Int×Int) {x0 p} {s:List Int×Int} {e:(List Int)⊕(List Int×Int)} (h:loopF (fun s=>Qcg x0 p s.1 s.2) s=some e) (hD:sel e (fun e=>Qj4 Γ rv x0 p e) (fun e=>e=rv)):Qlh Γ rv x0 p s.1 s.2:=by
 refine QaB (C:=fun (s:List Int×Int)=>Qlh Γ rv x0 p s.1 s.2) (D:=fun (e:(List Int)⊕(List Int×Int))=>sel e (fun e=>Qj4 Γ rv x0 p e) (fun e=>e=rv)) ?_ h hD
 clear h hD s e
 rintro ⟨l,i⟩ z_ h hI hE
 replace h:Qcg x0 p l i=_:=h
 unfold Qcg at h
 rcases Qah h with ⟨h0,h⟩|⟨h0,h⟩
 ·obtain ⟨x1,h1,h⟩:=Qae h
  obtain ⟨r,h2,h⟩:=Qae h
  rcases Qah h with ⟨h3,h⟩|⟨h3,h⟩
  ·obtain rfl:=(hE _ (oJ h):_=rv)
   exact gr 15 [] [nL Qad.enc p.routes,bT h0,hH (.draw 12 []),cE Qad.enc h1,cC (Qdv h2),bT h3,hW 5,hH (.nilS 4 0 1)]
  ·obtain ⟨h4,h⟩:=Qau h
   exact gn 18 [2,3,6,7] [0,1,4] [nL Qad.enc p.routes,bT h0,hH (.draw 12 []),cE Qad.enc h1,cC (Qdv h2),bF h3,oO (Eq.refl ([r.1].map e_i64).length),aO e_i64 h4] (hI _ (oJ h))
 ·exact gn 5 [6] [2] [nL Qad.enc p.routes,bF h0] (hE _ (oJ h))
theorem QiA {x0 p} {rv:List Int×Int} (h:QgR x0 p=some rv):AFn Tryz.prog 41 [.agg (Qac.enc x0),.agg (Qak.enc p)] [] (.tup [.one (lL 1 rv.1 e_i64),.one (lI rv.2)]) []:=by
 refine QaL Tryz.func41 (by kernel_rfl) (by kernel_rfl) (fun Γ=>?_)
 unfold QgR at h
 obtain ⟨e0,h5,h⟩:=Qae h
 refine gn 9 [2,3,6,7] [0,1,2] [hW 15,hH (.adopt 6 1 3)] (Qp9 Γ rv h5 ?_)
 rcases e0 with e0|e0
 ·obtain ⟨l1,rfl⟩:∃ x,x=e0:=⟨_,rfl⟩
  replace h:(some (l1,0):Option (List Int×Int))=some _:=h
  obtain rfl:=Option.some.inj h
  exact gr 2 [] [hW 5,hH (.frz 0),rp 3 (eL l1 e_i64)]
 ·obtain ⟨r1,rfl⟩:∃ x,x=e0:=⟨_,rfl⟩
  replace h:(some r1:Option (List Int×Int))=some _:=h
  exact Option.some.inj h
def Qft (Γ:Gam) (rv:Qam) (cf:Cf):Prop:=Go Tryz.prog Tryz.f42 [] Γ (gG [.bool rv.ok,lI rv.place,lI rv.route.type_,lI rv.route.start,lL 1 rv.route.rests Qbb,lL 2 rv.route.visits Qaa.enc,lI rv.increase]) [] cf
def Qnd (Γ:Gam) (rv:Qam) (x0:Qac) (p:Qak) (prices:List Int) (order:Int) (ok:Bool) (place:Int) (type_:Int) (start:Int) (rests:List Bool) (visits:List Qaa) (increase:Int) (i:Int):Prop:=Qft Γ rv ⟨[.c 116,.l 116,.b 0,.c 15],⟨127,[vL 2 1 prices e_i64,vI 3 order,vP 4 0 6,vP 5 1 2,vP 8 2 7,vP 9 3 7,vI 10 i],[oX 6 30 (Qac.enc x0),oX 2 44 (Qak.enc p),oX 7 90 [.bool false,lI 0,lI 0,lI 0,.nils,.nils,lI 0],oX 7 90 [.bool ok,lI place,lI type_,lI start,lL 1 rests Qbb,lL 2 visits Qaa.enc,lI increase]]⟩⟩
def Qmp (Γ:Gam) (rv:Qam) (x0:Qac) (p:Qak) (prices:List Int) (order:Int) (x4:Qam):Prop:=Qft Γ rv ⟨[.c 15],⟨127,[vI 3 order,vP 4 0 6,vP 5 1 2,vP 8 2 7,vP 9 3 7],[oX 6 30 (Qac.enc x0),oX 2 44 (Qak.enc p),oX 7 90 [.bool false,lI 0,lI 0,lI 0,.nils,.nils,lI 0],oX 7 90 (Qam.enc x4)]⟩⟩
def Qnf (Γ:Gam) (rv:Qam) (x0:Qac) (p:Qak) (order:Int) (kind:Int) (x6:Qam) (used:Int) (i1:Int):Prop:=Qft Γ rv ⟨[.c 62612,.l 62612,.b 4,.c 7827,.b 3,.c 979,.l 244,.b 2,.c 31],⟨127,[vI 3 order,vP 4 0 6,vP 5 1 2,vP 8 2 7,vP 9 3 7,vI 14 kind,vI 15 used,vI 16 i1],[oX 6 30 (Qac.enc x0),oX 2 44 (Qak.enc p),oX 7 90 [.bool false,lI 0,lI 0,lI 0,.nils,.nils,lI 0],oX 7 90 (Qam.enc x6)]⟩⟩
def Qmr (Γ:Gam) (rv:Qam) (x0:Qac) (p:Qak) (order:Int) (kind:Int) (x8:Qam) (used1:Int):Prop:=Qft Γ rv ⟨[.c 7827,.b 3,.c 979,.l 244,.b 2,.c 31],⟨127,[vI 3 order,vP 4 0 6,vP 5 1 2,vP 8 2 7,vP 9 3 7,vI 14 kind,vI 15 used1],[oX 6 30 (Qac.enc x0),oX 2 44 (Qak.enc p),oX 7 90 [.bool false,lI 0,lI 0,lI 0,.nils,.nils,lI 0],oX 7 90 (Qam.enc x8)]⟩⟩
def Qne (Γ:Gam) (rv:Qam) (x0:Qac) (p:Qak) (order:Int) (x5:Qam) (kind:Int):Prop:=Qft Γ rv ⟨[.c 244,.l 244,.b 2,.c 31],⟨127,[vI 3 order,vP 4 0 6,vP 5 1 2,vP 8 2 7,vP 9 3 7,vI 14 kind],[oX 6 30 (Qac.enc x0),oX 2 44 (Qak.enc p),oX 7 90 [.bool false,lI 0,lI 0,lI 0,.nils,.nils,lI 0],oX 7 90 (Qam.enc x5)]⟩⟩
def Qmq (Γ:Gam) (rv:Qam) (x0:Qac) (p:Qak) (order:Int) (x10:Qam):Prop:=Qft Γ rv ⟨[.c 31],⟨127,[vP 8 0 7,vP 9 1 7],[oX 7 90 [.bool false,lI 0,lI 0,lI 0,.nils,.nils,lI 0],oX 7 90 (Qam.enc x10)]⟩⟩
theorem QrK (Γ:Gam) (rv:Qam) {x0 p prices order} {s:Bool×Int×Int×Int×List Bool×List Qaa×Int×Int} {e:Qam} (h:loopF (fun s=>Qcl x0 p prices order s.1 s.2.1 s.2.2.1 s.2.2.2.1 s.2.2.2.2.1 s.2.2.2.2.2.1 s.2.2.2.2.2.2.1 s.2.2.2.2.2.2.2) s=some e) (hD:Qmp Γ rv x0 p prices order e):Qnd Γ rv x0 p prices order s.1 s.2.1 s.2.2.1 s.2.2.2.1 s.2.2.2.2.1 s.2.2.2.2.2.1 s.2.2.2.2.2.2.1 s.2.2.2.2.2.2.2:=by
 refine QaB (C:=fun (s:Bool×Int×Int×Int×List Bool×List Qaa×Int×Int)=>Qnd Γ rv x0 p prices order s.1 s.2.1 s.2.2.1 s.2.2.2.1 s.2.2.2.2.1 s.2.2.2.2.2.1 s.2.2.2.2.2.2.1 s.2.2.2.2.2.2.2) (D:=fun (e:Qam)=>Qmp Γ rv x0 p prices order e) ?_ h hD
 clear h hD s e
 rintro ⟨ok,place,type_,start,rests,visits,increase,i⟩ z_ h hI hE
 replace h:Qcl x0 p prices order ok place type_ start rests visits increase i=_:=h
 unfold Qcl at h
 rcases Qah h with ⟨h0,h⟩|⟨h0,h⟩
 ·obtain ⟨x1,h1,h⟩:=Qae h
  obtain ⟨r,h2,h⟩:=Qae h
  rcases Qah h with ⟨h3,h⟩|⟨h3,h⟩
  ·rcases Qah h with ⟨h4,h⟩|⟨h4,h⟩
   ·obtain ⟨x2,h5,h⟩:=Qae h
    rcases Qah h with ⟨h6,h⟩|⟨h6,h⟩
    ·exact gn 16 [2,3,4,5,8,9,10] [0,1,2,3] [nL Qad.enc p.routes,bT h0,hH (.draw 16 [(4,13)]),cE Qad.enc h1,cC (Qe0 h2),hH (.draw 18 []),rp 4 (bT h3),rp 4 (nF h4),cE e_i64 h5,rp 5 (nF h4),bT h3,nF h4,bT h3,bT h6,hH (.draw 9 []),cE e_i64 h5] (hI _ (oJ h))
    ·exact gn 16 [2,3,4,5,8,9,10] [0,1,2,3] [nL Qad.enc p.routes,bT h0,hH (.draw 16 [(4,13)]),cE Qad.enc h1,cC (Qe0 h2),hH (.draw 18 []),rp 4 (bT h3),rp 4 (nF h4),cE e_i64 h5,rp 5 (nF h4),bT h3,nF h4,bT h3,bF h6] (hI _ (oJ h))
   ·obtain ⟨x3,h7,h⟩:=Qae h
    exact gn 16 [2,3,4,5,8,9,10] [0,1,2,3] [nL Qad.enc p.routes,bT h0,hH (.draw 16 [(4,13)]),cE Qad.enc h1,cC (Qe0 h2),hH (.draw 18 []),rp 4 (bT h3),rp 9 (nT h4),bT h3,nT h4,bT h3,tT,hH (.draw 9 []),cE e_i64 h7] (hI _ (oJ h))
  ·exact gn 16 [2,3,4,5,8,9,10] [0,1,2,3] [nL Qad.enc p.routes,bT h0,hH (.draw 16 [(4,13)]),cE Qad.enc h1,cC (Qe0 h2),hH (.draw 18 []),rp 4 (bF h3),rp 9 kF,bF h3,bF h3,fF] (hI _ (oJ h))
 ·exact gn 5 [3,4,5,8,9] [0,1,2,3] [nL Qad.enc p.routes,bF h0] (hE _ (oJ h))
theorem QrM (Γ:Gam) (rv:Qam) {x0 p order kind} {s:Qam×Int×Int} {e:Qam×Int} (h:loopF (fun s=>Qcm x0 p order kind s.1 s.2.1 s.2.2) s=some e) (hD:Qmr Γ rv x0 p order kind e.1 e.2):Qnf Γ rv x0 p order kind s.1 s.2.1 s.2.2:=by
 refine QaB (C:=fun (s:Qam×Int×Int)=>Qnf Γ rv x0 p order kind s.1 s.2.1 s.2.2) (D:=fun (e:Qam×Int)=>Qmr Γ rv x0 p order kind e.1 e.2) ?_ h hD
 clear h hD s e
 rintro ⟨x6,used,i1⟩ z_ h hI hE
 replace h:Qcm x0 p order kind x6 used i1=_:=h
 unfold Qcm at h
 rcases Qah h with ⟨h10,h⟩|⟨h10,h⟩
 ·obtain ⟨x7,h11,h⟩:=Qae h
  rcases Qah h with ⟨h12,h⟩|⟨h12,h⟩
  ·exact gn 14 [3,4,5,8,9,14,15,16] [0,1,2,3] [nL Qad.enc p.routes,bT h10,cE Qad.enc h11,bT h12] (hI _ (oJ h))
  ·exact gn 14 [3,4,5,8,9,14,15,16] [0,1,2,3] [nL Qad.enc p.routes,bT h10,cE Qad.enc h11,bF h12] (hI _ (oJ h))
 ·exact gn 5 [3,4,5,8,9,14,15] [0,1,2,3] [nL Qad.enc p.routes,bF h10] (hE _ (oJ h))
theorem QrL (Γ:Gam) (rv:Qam) {x0 p order} {s:Qam×Int} {e:Qam} (h:loopF (fun s=>QbZ x0 p order s.1 s.2) s=some e) (hD:Qmq Γ rv x0 p order e):Qne Γ rv x0 p order s.1 s.2:=by
 refine QaB (C:=fun (s:Qam×Int)=>Qne Γ rv x0 p order s.1 s.2) (D:=fun (e:Qam)=>Qmq Γ rv x0 p order e) ?_ h hD
 clear h hD s e
 rintro ⟨x5,kind⟩ z_ h hI hE
 replace h:QbZ x0 p order x5 kind=_:=h
 unfold QbZ at h
 rcases Qah h with ⟨h9,h⟩|⟨h9,h⟩
 ·obtain ⟨e1,h13,h⟩:=Qae h
  refine gn 14 [3,4,5,8,9,14,15,16] [0,1,2,3] [nL Qai.enc x0.types,bT h9] (QrM Γ rv h13 ?_)
  obtain ⟨x8,used1⟩:=e1
  replace h:(bnd (getI x0.types kind) fun x9=>br (geI used1 x9.count) (some (.inl (x8,(addK .i64 kind 1)))) (bnd (QfV x0 (Qad.mk kind 0 [] []) order) fun r1=>br ((eqI r1.2.2 0)&&((!x8.ok)||(ltI r1.2.1 x8.increase))) (some (.inl ((Qam.mk true (lenI p.routes) r1.1 r1.2.1),(addK .i64 kind 1)))) (some (.inl (x8,(addK .i64 kind 1))))):Option ((Qam×Int)⊕(Qam)))=some _:=h
  obtain ⟨x9,h14,h⟩:=Qae h
  rcases Qah h with ⟨h15,h⟩|⟨h15,h⟩
  ·exact gn 7 [3,4,5,8,9,14] [0,1,2,3] [cE Qai.enc h14,bT h15] (hI _ (oJ h))
  ·obtain ⟨r1,h16,h⟩:=Qae h
   rcases Qah h with ⟨h17,h⟩|⟨h17,h⟩
   ·exact gn 14 [3,4,5,8,9,14] [0,1,2,3] [cE Qai.enc h14,bF h15,hW 7,hH (.nilS 101 2 1),hH (.nilS 101 3 2),cC (Qe0 h16),rp 11 hP,rp 3 (oI ((eqI r1.2.2 0)=true)),rp 3 (oI (((eqI r1.2.2 0)=true)∧(!x8.ok)=false)),oI ((eqI r1.2.2 0)=true),oI (((eqI r1.2.2 0)=true)∧(!x8.ok)=false),oR True ((eqI r1.2.2 0)=true),bT h17,nL Qad.enc p.routes] (hI _ (oJ h))
   ·exact gn 14 [3,4,5,8,9,14] [0,1,2,3] [cE Qai.enc h14,bF h15,hW 7,hH (.nilS 101 2 1),hH (.nilS 101 3 2),cC (Qe0 h16),rp 11 hP,rp 3 (oI ((eqI r1.2.2 0)=true)),rp 3 (oI (((eqI r1.2.2 0)=true)∧(!x8.ok)=false)),oI ((eqI r1.2.2 0)=true),oI (((eqI r1.2.2 0)=true)∧(!x8.ok)=false),oR True ((eqI r1.2.2 0)=true),bF h17] (hI _ (oJ h))
 ·exact gn 5 [8,9] [2,3] [nL Qai.enc x0.types,bF h9] (hE _ (oJ h))
theorem QoX {x0 p prices order} {rv:Qam} (h:Qig x0 p prices order=some rv):AFn Tryz.prog 42 [.agg (Qac.enc x0),.agg (Qak.enc p),.one (lL 1 prices e_i64),.one (lI order)] [] (gG [.bool rv.ok,lI rv.place,lI rv.route.type_,lI rv.route.start,lL 1 rv.route.rests Qbb,lL 2 rv.route.visits Qaa.enc,lI rv.increase]) []:=by
 refine QaL Tryz.func42 (by kernel_rfl) (by kernel_rfl) (fun Γ=>?_)
 unfold Qig at h
 obtain ⟨e0,h8,h⟩:=Qae h
 refine gn 9 [2,3,4,5,8,9,10] [0,1,2,3] [hW 14,hH (.nilB 3 4 1),hH (.nilB 3 5 2)] (QrK Γ rv h8 ?_)
 obtain ⟨x4,rfl⟩:∃ x,x=e0:=⟨_,rfl⟩
 replace h:(bnd (loopF (fun s=>QbZ x0 p order s.1 s.2) (x4,0)) (fun x10=>some x10):Option Qam)=some _:=h
 obtain ⟨e2,h18,h⟩:=Qae h
 refine gn 5 [3,4,5,8,9,14] [0,1,2,3] [] (QrL Γ rv h18 ?_)
 obtain ⟨x10,rfl⟩:∃ x,x=e2:=⟨_,rfl⟩
 replace h:(some x10:Option Qam)=some _:=h
 obtain rfl:=Option.some.inj h
 exact gr 2 [] []
def Qgj (Γ:Gam) (rv:Qak) (cf:Cf):Prop:=Go Tryz.prog Tryz.f45 [] Γ (gG [lL 4 rv.routes Qad.enc,lL 1 rv.unserved e_i64]) [] cf
def Qmn (Γ:Gam) (rv:Qak) (p:Qak) (c:Qam) (order:Int) (l:List Qad) (i:Int):Prop:=Qgj Γ rv ⟨[.c 116,.l 116,.b 0,.c 15],⟨76,[vI 2 order,vP 3 0 2,vP 4 1 7,vP 6 2 2,vP 7 3 2,vI 8 i],[oX 2 44 (Qak.enc p),oX 7 90 (Qam.enc c),oX 2 44 [.nils,.nils],oX 2 44 [lO 4 4 l Qad.enc,.nils],oS 4 34 l Qad.enc]⟩⟩
def Qlj (Γ:Gam) (rv:Qak) (p:Qak) (c:Qam) (order:Int) (l1:List Qad):Prop:=Qgj Γ rv ⟨[.c 15],⟨76,[vI 2 order,vP 3 0 2,vP 4 1 7,vP 6 2 2,vP 7 3 2],[oX 2 44 (Qak.enc p),oX 7 90 (Qam.enc c),oX 2 44 [.nils,.nils],oX 2 44 [lO 4 4 l1 Qad.enc,.nils],oS 4 34 l1 Qad.enc]⟩⟩
def Qmo (Γ:Gam) (rv:Qak) (p:Qak) (c:Qam) (order:Int) (l2:List Qad) (l3:List Int) (i1:Int):Prop:=Qgj Γ rv ⟨[.c 500,.l 500,.b 2,.c 63],⟨76,[vI 2 order,vP 3 0 2,vP 6 1 2,vP 7 2 2,vI 9 i1],[oX 2 44 (Qak.enc p),oX 2 44 [.nils,.nils],oX 2 44 [lO 3 4 l2 Qad.enc,lO 4 1 l3 e_i64],oS 4 34 l2 Qad.enc,oS 1 3 l3 e_i64]⟩⟩
def Qlk (Γ:Gam) (rv:Qak) (p:Qak) (c:Qam) (order:Int) (l2:List Qad) (l4:List Int):Prop:=Qgj Γ rv ⟨[.c 63],⟨76,[vP 6 0 2,vP 7 1 2],[oX 2 44 [.nils,.nils],oX 2 44 [lO 2 4 l2 Qad.enc,lO 3 1 l4 e_i64],oS 4 34 l2 Qad.enc,oS 1 3 l4 e_i64]⟩⟩
theorem QqY (Γ:Gam) (rv:Qak) {p c order} {s:List Qad×Int} {e:List Qad} (h:loopF (fun s=>Qb6 p c order s.1 s.2) s=some e) (hD:Qlj Γ rv p c order e):Qmn Γ rv p c order s.1 s.2:=by
 refine QaB (C:=fun (s:List Qad×Int)=>Qmn Γ rv p c order s.1 s.2) (D:=fun (e:List Qad)=>Qlj Γ rv p c order e) ?_ h hD
 clear h hD s e
 rintro ⟨l,i⟩ z_ h hI hE
 replace h:Qb6 p c order l i=_:=h
 unfold Qb6 at h
 rcases Qah h with ⟨h0,h⟩|⟨h0,h⟩
 ·rcases Qah h with ⟨h1,h⟩|⟨h1,h⟩
  ·obtain ⟨h2,h⟩:=Qau h
   exact gn 14 [2,3,4,6,7,8] [0,1,2,3,6] [nL Qad.enc p.routes,bT h0,bT h1,oO (Eq.refl ([c.route].map Qad.enc).length),aO Qad.enc h2] (hI _ (oJ h))
  ·obtain ⟨x0,h3,h⟩:=Qae h
   obtain ⟨h4,h⟩:=Qau h
   exact gn 14 [2,3,4,6,7,8] [0,1,2,3,6] [nL Qad.enc p.routes,bT h0,bF h1,hH (.draw 8 []),cE Qad.enc h3,oO (Eq.refl ([x0].map Qad.enc).length),aO Qad.enc h4] (hI _ (oJ h))
 ·exact gn 5 [2,3,4,6,7] [0,1,2,3,4] [nL Qad.enc p.routes,bF h0] (hE _ (oJ h))
theorem QqZ (Γ:Gam) (rv:Qak) {p c order l2} {s:List Int×Int} {e:List Int} (h:loopF (fun s=>Qdc p c order l2 s.1 s.2) s=some e) (hD:Qlk Γ rv p c order l2 e):Qmo Γ rv p c order l2 s.1 s.2:=by
 refine QaB (C:=fun (s:List Int×Int)=>Qmo Γ rv p c order l2 s.1 s.2) (D:=fun (e:List Int)=>Qlk Γ rv p c order l2 e) ?_ h hD
 clear h hD s e
 rintro ⟨l3,i1⟩ z_ h hI hE
 replace h:Qdc p c order l2 l3 i1=_:=h
 unfold Qdc at h
 rcases Qah h with ⟨h8,h⟩|⟨h8,h⟩
 ·obtain ⟨x1,h9,h⟩:=Qae h
  rcases Qah h with ⟨h10,h⟩|⟨h10,h⟩
  ·obtain ⟨h11,h⟩:=Qau h
   exact gn 14 [2,3,6,7,9] [0,1,2,3,6] [nL e_i64 p.unserved,bT h8,cE e_i64 h9,bT h10,hH (.draw 8 []),cE e_i64 h9,oO (Eq.refl ([x1].map e_i64).length),aO e_i64 h11] (hI _ (oJ h))
  ·exact gn 14 [2,3,6,7,9] [0,1,2,3,4] [nL e_i64 p.unserved,bT h8,cE e_i64 h9,bF h10] (hI _ (oJ h))
 ·exact gn 5 [6,7] [1,2,3,4] [nL e_i64 p.unserved,bF h8] (hE _ (oJ h))
theorem Qli (Γ:Gam) (rv:Qak) {p c order l2} (h:Qdb p c order l2=some rv):Qgj Γ rv ⟨[.c 31],⟨76,[vI 2 order,vP 3 0 2,vP 6 1 2,vP 7 2 2],[oX 2 44 (Qak.enc p),oX 2 44 [.nils,.nils],oX 2 44 [lO 3 4 l2 Qad.enc,.nils],oS 4 34 l2 Qad.enc]⟩⟩:=by
 unfold Qdb at h
 obtain ⟨e1,h12,h⟩:=Qae h
 refine gn 5 [2,3,6,7,9] [0,1,2,3,4] [hW 6,hH (.adoptB 2 1 1 3)] (QqZ Γ rv h12 ?_)
 obtain ⟨l4,rfl⟩:∃ x,x=e1:=⟨_,rfl⟩
 replace h:(some (Qak.mk l2 l4):Option Qak)=some _:=h
 obtain rfl:=Option.some.inj h
 exact gr 2 [] [hW 4,hH (.frz 2),hH (.frz 3),rp 3 (eL l2 Qad.enc),rp 3 (eL l4 e_i64)]
theorem QsY {p c order} {rv:Qak} (h:Qgi p c order=some rv):AFn Tryz.prog 45 [.agg (Qak.enc p),.agg (Qam.enc c),.one (lI order)] [] (gG [lL 4 rv.routes Qad.enc,lL 1 rv.unserved e_i64]) []:=by
 refine QaL Tryz.func45 (by kernel_rfl) (by kernel_rfl) (fun Γ=>?_)
 unfold Qgi at h
 obtain ⟨e0,h5,h⟩:=Qae h
 refine gn 9 [2,3,4,6,7,8] [0,1,2,3,4] [hW 14,hH (.adoptB 3 0 4 34)] (QqY Γ rv h5 ?_)
 obtain ⟨l1,rfl⟩:∃ x,x=e0:=⟨_,rfl⟩
 replace h:(br (eqI c.place (lenI p.routes)) (chk (okN (l1++[c.route]).length 64) (Qdb p c order (l1++[c.route]))) (Qdb p c order l1):Option Qak)=some _:=h
 rcases Qah h with ⟨h6,h⟩|⟨h6,h⟩
 ·obtain ⟨h7,h⟩:=Qau h
  exact gn 5 [2,3,6,7] [0,2,3,6] [nL Qad.enc p.routes,bT h6,oO (Eq.refl ([c.route].map Qad.enc).length),aO Qad.enc h7] (Qli Γ rv h)
 ·exact gn 5 [2,3,6,7] [0,2,3,4] [nL Qad.enc p.routes,bF h6] (Qli Γ rv h)
def Qn0 (Γ:Gam) (rv:Bool) (cf:Cf):Prop:=Go Tryz.prog Tryz.f46 [] Γ (one (.bool rv)) [] cf
def Qll (Γ:Gam) (rv:Bool) (p:Qak) (order:Int) (i:Int):Prop:=Qn0 Γ rv ⟨[.c 52,.l 52,.b 0,.c 7],⟨20,[vI 1 order,vP 2 0 2,vI 5 i],[oX 2 44 (Qak.enc p)]⟩⟩
def Qj5 (Γ:Gam) (rv:Bool) (p:Qak) (order:Int):Prop:=Qn0 Γ rv ⟨[.c 7],⟨20,[],[]⟩⟩
theorem Qqa (Γ:Gam) (rv:Bool) {p order} {s:Int} {e:(Unit)⊕(Bool)} (h:loopF (fun s=>QdQ p order s) s=some e) (hD:sel e (fun e=>Qj5 Γ rv p order) (fun e=>e=rv)):Qll Γ rv p order s:=by
 refine QaB (C:=fun (s:Int)=>Qll Γ rv p order s) (D:=fun (e:(Unit)⊕(Bool))=>sel e (fun e=>Qj5 Γ rv p order) (fun e=>e=rv)) ?_ h hD
 clear h hD s e
 intro i z_ h hI hE
 replace h:QdQ p order i=_:=h
 unfold QdQ at h
 rcases Qah h with ⟨h0,h⟩|⟨h0,h⟩
 ·obtain ⟨x0,h1,h⟩:=Qae h
  obtain ⟨r,h2,h⟩:=Qae h
  rcases Qah h with ⟨h3,h⟩|⟨h3,h⟩
  ·obtain rfl:=(hE _ (oJ h):_=rv)
   exact gr 12 [] [nL Qad.enc p.routes,bT h0,cE Qad.enc h1,cC (Qju h2),bT h3]
  ·exact gn 14 [1,2,5] [0] [nL Qad.enc p.routes,bT h0,cE Qad.enc h1,cC (Qju h2),bF h3] (hI _ (oJ h))
 ·exact gn 5 [] [] [nL Qad.enc p.routes,bF h0] (hE _ (oJ h))
theorem QgA {p order} {rv:Bool} (h:QgS p order=some rv):AFn Tryz.prog 46 [.agg (Qak.enc p),.one (lI order)] [] (one (.bool rv)) []:=by
 refine QaL Tryz.func46 (by kernel_rfl) (by kernel_rfl) (fun Γ=>?_)
 unfold QgS at h
 obtain ⟨e0,h4,h⟩:=Qae h
 refine gn 7 [1,2,5] [0] [] (Qqa Γ rv h4 ?_)
 rcases e0 with e0|e0
 ·replace h:(some false:Option Bool)=some _:=h
  obtain rfl:=Option.some.inj h
  exact gr 2 [] []
 ·obtain ⟨r1,rfl⟩:∃ x,x=e0:=⟨_,rfl⟩
  replace h:(some r1:Option Bool)=some _:=h
  exact Option.some.inj h
theorem Qkf {x0 p order} {rv:Qak×Int} (h:Qie x0 p order=some rv):AFn Tryz.prog 20 [.agg (Qac.enc x0),.agg (Qak.enc p),.one (lI order)] [] (.tup [.agg [lL 4 rv.1.routes Qad.enc,lL 1 rv.1.unserved e_i64],.one (lI rv.2)]) []:=by
 refine QaL Tryz.func20 (by kernel_rfl) (by kernel_rfl) (fun Γ=>?_)
 unfold Qie at h
 obtain ⟨r,h0,h⟩:=Qae h
 rcases Qah h with ⟨h1,h⟩|⟨h1,h⟩
 ·obtain ⟨x1,h2,h⟩:=Qae h
  rcases Qah h with ⟨h3,h⟩|⟨h3,h⟩
  ·obtain rfl:=Option.some.inj h
   exact gr 13 [] [cC (QbQ h0),nF h1,cE Qag.enc h2,bT h3,hW 5,hH (.nilB 2 0 4),hH (.nilB 2 1 1)]
  ·obtain ⟨r1,h4,h⟩:=Qae h
   rcases Qah h with ⟨h5,h⟩|⟨h5,h⟩
   ·obtain rfl:=Option.some.inj h
    exact gr 18 [] [cC (QbQ h0),nF h1,cE Qag.enc h2,bF h3,cC (QgA h4),bT h5,hW 5,hH (.nilB 2 0 4),hH (.nilB 2 1 1)]
   ·obtain ⟨r2,h6,h⟩:=Qae h
    rcases Qah h with ⟨h7,h⟩|⟨h7,h⟩
    ·obtain rfl:=Option.some.inj h
     exact gr 25 [] [cC (QbQ h0),nF h1,cE Qag.enc h2,bF h3,cC (QgA h4),bF h5,cC (QiA h6),bT h7,hW 6,hH (.nilB 2 0 4),hH (.nilB 2 1 1)]
    ·obtain ⟨r3,h8,h⟩:=Qae h
     rcases Qah h with ⟨h9,h⟩|⟨h9,h⟩
     ·obtain ⟨r4,h10,h⟩:=Qae h
      obtain rfl:=Option.some.inj h
      exact gr 33 [] [cC (QbQ h0),nF h1,cE Qag.enc h2,bF h3,cC (QgA h4),bF h5,cC (QiA h6),bF h7,cC (QoX h8),nF h9,cC (QsY h10)]
     ·obtain rfl:=Option.some.inj h
      exact gr 32 [] [cC (QbQ h0),nF h1,cE Qag.enc h2,bF h3,cC (QgA h4),bF h5,cC (QiA h6),bF h7,cC (QoX h8),nT h9,hW 5,hH (.nilB 2 0 4),hH (.nilB 2 1 1)]
 ·obtain rfl:=Option.some.inj h
  exact gr 8 [] [cC (QbQ h0),nT h1,hW 5,hH (.nilB 2 0 4),hH (.nilB 2 1 1)]
theorem QoA {x0 p at_} {rv:Bool} (h:Qfy x0 p at_=some rv):AFn Tryz.prog 6 [.agg (Qac.enc x0),.agg (Qak.enc p),.one (lI at_)] [] (one (.bool rv)) []:=by
 refine QaL Tryz.func6 (by kernel_rfl) (by kernel_rfl) (fun Γ=>?_)
 unfold Qfy at h
 obtain ⟨r,h0,h⟩:=Qae h
 rcases Qah h with ⟨h1,h⟩|⟨h1,h⟩
 ·obtain ⟨r1,h2,h⟩:=Qae h
  rcases Qah h with ⟨h3,h⟩|⟨h3,h⟩
  ·obtain ⟨r2,h4,h⟩:=Qae h
   obtain ⟨r3,h5,h⟩:=Qae h
   rcases Qah h with ⟨h6,h⟩|⟨h6,h⟩
   ·obtain ⟨r4,h7,h⟩:=Qae h
    rcases Qah h with ⟨h8,h⟩|⟨h8,h⟩
    ·obtain ⟨r5,h9,h⟩:=Qae h
     obtain rfl:=Option.some.inj h
     exact gr 13 [] [cC (Qfz h0),nF h1,nF h1,cC (Qip h2),nF h1,nF h1,nF h3,cC (Qph h4),cC (Qkf h5),rp 3 (bT h6),cC (QoV h7),bT h6,bT h8,cC (Qhq h9),bT h8]
    ·obtain rfl:=Option.some.inj h
     exact gr 13 [] [cC (Qfz h0),nF h1,nF h1,cC (Qip h2),nF h1,nF h1,nF h3,cC (Qph h4),cC (Qkf h5),rp 3 (bT h6),cC (QoV h7),bT h6,bF h8,bF h8]
   ·obtain rfl:=Option.some.inj h
    exact gr 13 [] [cC (Qfz h0),nF h1,nF h1,cC (Qip h2),nF h1,nF h1,nF h3,cC (Qph h4),cC (Qkf h5),rp 4 (bF h6),fF,fF]
  ·obtain ⟨r6,h10,h⟩:=Qae h
   obtain rfl:=Option.some.inj h
   exact gr 8 [] [cC (Qfz h0),nF h1,nF h1,cC (Qip h2),nF h1,nF h1,nT h3,cC (Qhq h10)]
 ·obtain ⟨r7,h11,h⟩:=Qae h
  obtain rfl:=Option.some.inj h
  exact gr 8 [] [cC (Qfz h0),rp 4 (nT h1),tT,cC (Qhq h11)]
end Go.Proofs.YtpkkaboonnedfaaGreatDoor
