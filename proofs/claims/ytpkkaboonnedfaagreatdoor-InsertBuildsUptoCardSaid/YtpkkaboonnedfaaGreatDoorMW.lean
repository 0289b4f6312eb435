/- Part MW of the proof: texts Y2. -/
import Derived.Test.YtpkkaboonnedfaaGreatDoorMV
import Derived.Test.YtpkkaboonnedfaaGreatDoorProg
namespace Go.Proofs.YtpkkaboonnedfaaGreatDoor
set_option linter.unusedVariables false
set_option linter.unusedSectionVars false
set_option linter.unusedSimpArgs false
set_option maxHeartbeats 4000000
set_option maxRecDepth 100000
def Qn9 (Γ:Gam) (rv:Int) (cf:Cf):Prop:=Go Tryz.prog Tryz.f201 [] Γ (one (lI rv)) [] cf
def QkK (Γ:Gam) (rv:Int) (l:List Qao) (t:Int) (i:Int):Prop:=Qn9 Γ rv ⟨[.c 116,.l 116,.b 0,.c 15],⟨93,[vL 0 2 l Qao.enc,vI 1 t,vI 5 i],[]⟩⟩
def Qj0 (Γ:Gam) (rv:Int) (l:List Qao) (t:Int):Prop:=Qn9 Γ rv ⟨[.c 15],⟨93,[vL 0 2 l Qao.enc,vI 1 t],[]⟩⟩
theorem Qqp (Γ:Gam) (rv:Int) {l t} {s:Int} {e:(Unit)⊕(Int)} (h:QaT (fun s=>QdY l t s) s=some e) (hD:sel e (fun e=>Qj0 Γ rv l t) (fun e=>e=rv)):QkK Γ rv l t s:=by
 refine QaC (C:=fun (s:Int)=>QkK Γ rv l t s) (D:=fun (e:(Unit)⊕(Int))=>sel e (fun e=>Qj0 Γ rv l t) (fun e=>e=rv)) ?_ h hD
 clear h hD s e
 intro i z_ h hI hE
 replace h:QdY l t i=_:=h
 unfold QdY at h
 rcases Qah h with ⟨h2,h⟩|⟨h2,h⟩
 ·obtain ⟨x0,h3,h⟩:=Qae h
  obtain ⟨x1,h4,h⟩:=Qae h
  rcases Qah h with ⟨h5,h⟩|⟨h5,h⟩
  ·obtain ⟨h6,h⟩:=Qav h
   obtain rfl:=(hE _ (oJ h):_=rv)
   exact gr 16 [] [nL Qao.enc l,bT h2,cE Qao.enc h3,cE Qao.enc h4,rp 5 hP,rp 3 (oI ((leI x0.t t)=true)),oR True ((leI x0.t t)=true),bT h5,hH (.draw 27 []),oO (h6)]
  ·exact gn 18 [0,1,5] [] [nL Qao.enc l,bT h2,cE Qao.enc h3,cE Qao.enc h4,rp 5 hP,rp 3 (oI ((leI x0.t t)=true)),oR True ((leI x0.t t)=true),bF h5] (hI _ (oJ h))
 ·exact gn 5 [0,1] [] [nL Qao.enc l,bF h2] (hE _ (oJ h))
theorem QsR {l t} {rv:Int} (h:QgX l t=some rv):AFn Tryz.prog 201 [.one (lL 2 l Qao.enc),.one (lI t)] [] (one (lI rv)) []:=by
 refine QaM Tryz.func201 (by kernel_rfl) (by kernel_rfl) (fun Γ=>?_)
 unfold QgX at h
 obtain ⟨r,h0,h⟩:=Qae h
 rcases Qah h with ⟨h1,h⟩|⟨h1,h⟩
 ·obtain rfl:=Option.some.inj h
  exact gr 8 [] [cC (Qjv h0),nL Qab.enc r,rp 6 hP,oI ((gtI (lenI r) 0)=false),oR True ((gtI (lenI r) 0)=false),oI (((gtI (lenI r) 0)||(ltI t 0))=false),oR True (((gtI (lenI r) 0)||(ltI t 0))=false),bT h1]
 ·obtain ⟨e0,h7,h⟩:=Qae h
  refine gn 12 [0,1,5] [] [cC (Qjv h0),nL Qab.enc r,rp 6 hP,oI ((gtI (lenI r) 0)=false),oR True ((gtI (lenI r) 0)=false),oI (((gtI (lenI r) 0)||(ltI t 0))=false),oR True (((gtI (lenI r) 0)||(ltI t 0))=false),bF h1] (Qqp Γ rv h7 ?_)
  rcases e0 with e0|e0
  ·replace h:(bnd (getI l 0) fun x2=>br (gtI t x2.t) (bnd (getI l (subK .i64 (lenI l) 1)) fun x3=>some (subK .i64 (addK .i64 t x3.a) x3.t)) (some (subK .i64 (addK .i64 t x2.a) x2.t)):Option Int)=some _:=h
   obtain ⟨x2,h8,h⟩:=Qae h
   rcases Qah h with ⟨h9,h⟩|⟨h9,h⟩
   ·obtain ⟨x3,h10,h⟩:=Qae h
    obtain rfl:=Option.some.inj h
    exact gr 9 [] [cE Qao.enc h8,bT h9,nL Qao.enc l,cE Qao.enc h10]
   ·obtain rfl:=Option.some.inj h
    exact gr 9 [] [cE Qao.enc h8,bF h9]
  ·obtain ⟨r1,rfl⟩:∃ x,x=e0:=⟨_,rfl⟩
   replace h:(some r1:Option Int)=some _:=h
   exact Option.some.inj h
def Qoa (Γ:Gam) (rv:Int) (cf:Cf):Prop:=Go Tryz.prog Tryz.f199 [] Γ (one (lI rv)) [] cf
def QkN (Γ:Gam) (rv:Int) (a:Qas) (t:Int) (n:Int) (i:Int):Prop:=Qoa Γ rv ⟨[.c 116,.l 116,.b 0,.c 15],⟨35,[vI 1 t,vP 2 0 6,vI 5 n,vI 6 i],[oX 6 122 (Qas.enc a)]⟩⟩
def Qj1 (Γ:Gam) (rv:Int) (a:Qas) (t:Int) (n1:Int):Prop:=Qoa Γ rv ⟨[.c 15],⟨35,[vI 5 n1],[]⟩⟩
theorem Qqq (Γ:Gam) (rv:Int) {a t} {s:Int×Int} {e:Int} (h:QaT (fun s=>QgI a t s.1 s.2) s=some e) (hD:Qj1 Γ rv a t e):QkN Γ rv a t s.1 s.2:=by
 refine QaC (C:=fun (s:Int×Int)=>QkN Γ rv a t s.1 s.2) (D:=fun (e:Int)=>Qj1 Γ rv a t e) ?_ h hD
 clear h hD s e
 rintro ⟨n,i⟩ z_ h hI hE
 replace h:QgI a t n i=_:=h
 unfold QgI at h
 rcases Qah h with ⟨h1,h⟩|⟨h1,h⟩
 ·obtain ⟨x0,h2,h⟩:=Qae h
  rcases Qah h with ⟨h3,h⟩|⟨h3,h⟩
  ·exact gn 14 [1,2,5,6] [0] [nL Qao.enc a.slow,bT h1,cE Qao.enc h2,bT h3,cE Qao.enc h2] (hI _ (oJ h))
  ·exact gn 14 [1,2,5,6] [0] [nL Qao.enc a.slow,bT h1,cE Qao.enc h2,bF h3] (hI _ (oJ h))
 ·exact gn 5 [5] [] [nL Qao.enc a.slow,bF h1] (hE _ (oJ h))
theorem QsS {a t} {rv:Int} (h:QgY a t=some rv):AFn Tryz.prog 199 [.agg (Qas.enc a),.one (lI t)] [] (one (lI rv)) []:=by
 refine QaM Tryz.func199 (by kernel_rfl) (by kernel_rfl) (fun Γ=>?_)
 unfold QgY at h
 obtain ⟨r,h0,h⟩:=Qae h
 obtain ⟨e0,h4,h⟩:=Qae h
 refine gn 9 [1,2,5,6] [0] [cC (QsR h0)] (Qqq Γ rv h4 ?_)
 obtain ⟨n1,rfl⟩:∃ x,x=e0:=⟨_,rfl⟩
 replace h:(some n1:Option Int)=some _:=h
 obtain rfl:=Option.some.inj h
 exact gr 2 [] []
theorem Qvn {n profile from_ to_ t} {rv:Int×Int×Int} (h:Qi7 n profile from_ to_ t=some rv):AFn Tryz.prog 193 [.agg (Qam.enc n),.one (lI profile),.one (lI from_),.one (lI to_),.one (lI t)] [] (.tup [.one (lI rv.1),.one (lI rv.2.1),.one (lI rv.2.2)]) []:=by
 refine QaM Tryz.func193 (by kernel_rfl) (by kernel_rfl) (fun Γ=>?_)
 unfold Qi7 at h
 obtain ⟨r,h0,h⟩:=Qae h
 rcases Qah h with ⟨h1,h⟩|⟨h1,h⟩
 ·obtain ⟨r1,h2,h⟩:=Qae h
  rcases Qah h with ⟨h3,h⟩|⟨h3,h⟩
  ·rcases Qah h with ⟨h4,h⟩|⟨h4,h⟩
   ·obtain rfl:=Option.some.inj h
    exact gr 13 [] [cC (Qcy h0),rp 3 (nF h1),cC (Qcy h2),nF h1,nF h1,nF h3,bT h4]
   ·obtain ⟨r2,h5,h⟩:=Qae h
    rcases Qah h with ⟨h6,h⟩|⟨h6,h⟩
    ·obtain ⟨r3,h7,h⟩:=Qae h
     obtain rfl:=Option.some.inj h
     exact gr 21 [] [cC (Qcy h0),rp 3 (nF h1),cC (Qcy h2),nF h1,nF h1,nF h3,bF h4,cC (Qo3 h5),nF h6,hH (.draw 8 []),cC (QsS h7)]
    ·obtain rfl:=Option.some.inj h
     exact gr 20 [] [cC (Qcy h0),rp 3 (nF h1),cC (Qcy h2),nF h1,nF h1,nF h3,bF h4,cC (Qo3 h5),nT h6]
  ·obtain rfl:=Option.some.inj h
   exact gr 8 [] [cC (Qcy h0),rp 3 (nF h1),cC (Qcy h2),nF h1,nF h1,nT h3]
 ·obtain rfl:=Option.some.inj h
  exact gr 8 [] [cC (Qcy h0),rp 5 (nT h1),tT]
theorem QiI {x0 profile from_ to_ t} {rv:Int×Int×Bool} (h:QmP x0 profile from_ to_ t=some rv):AFn Tryz.prog 189 [.agg (Qac.enc x0),.one (lI profile),.one (lI from_),.one (lI to_),.one (lI t)] [] (.tup [.one (lI rv.1),.one (lI rv.2.1),.one (.bool rv.2.2)]) []:=by
 refine QaM Tryz.func189 (by kernel_rfl) (by kernel_rfl) (fun Γ=>?_)
 unfold QmP at h
 obtain ⟨r,h0,h⟩:=Qae h
 obtain rfl:=Option.some.inj h
 exact gr 6 [] [cC (Qvn h0)]
theorem Qh8 {x0 t s0 to_ close late} {rv:QaA×Int} (h:QdC x0 t s0 to_ close late=some rv):AFn Tryz.prog 185 [.agg (Qac.enc x0),.agg (Qal.enc t),.agg (QaA.enc s0),.one (lI to_),.one (lI close),.one (lI late)] [] (.tup [.agg [lI rv.1.place,lI rv.1.time,lI rv.1.driven,lI rv.1.miles],.one (lI rv.2)]) []:=by
 refine QaM Tryz.func185 (by kernel_rfl) (by kernel_rfl) (fun Γ=>?_)
 unfold QdC at h
 obtain ⟨r,h0,h⟩:=Qae h
 rcases Qah h with ⟨h1,h⟩|⟨h1,h⟩
 ·rcases Qah h with ⟨h2,h⟩|⟨h2,h⟩
  ·obtain rfl:=Option.some.inj h
   exact gr 15 [] [cC (QiI h0),nF h1,bT h2]
  ·rcases Qah h with ⟨h3,h⟩|⟨h3,h⟩
   ·obtain rfl:=Option.some.inj h
    exact gr 22 [] [cC (QiI h0),nF h1,bF h2,bT h3]
   ·obtain rfl:=Option.some.inj h
    exact gr 23 [] [cC (QiI h0),nF h1,bF h2,bF h3]
 ·obtain rfl:=Option.some.inj h
  exact gr 10 [] [cC (QiI h0),nT h1]
def Qrm (Γ:Gam) (rv:Qap×List Int×Int) (cf:Cf):Prop:=Go Tryz.prog Tryz.f177 [] Γ (.tup [.agg [.bool rv.1.rest_,lI rv.1.depart,lL 4 rv.1.times Qar.enc,lI rv.1.end_,lI rv.1.miles],.one (lL 1 rv.2.1 Qay),.one (lI rv.2.2)]) [] cf
def Qog (Γ:Gam) (rv:Qap×List Int×Int) (x0:Qac) (r:Qad) (rests:List Bool) (x1:Qal) (x2:Bool) (l:List Int) (l1:List Qar) (x3:QaA) (depart:Int) (i:Int):Prop:=Qrm Γ rv ⟨[.c 2036,.l 2036,.b 0,.c 255],⟨161,[vL 2 1 rests Qbd,vP 3 0 6,vP 4 1 4,vP 6 2 5,vP 9 3 14,vP 10 4 4,vP 11 5 5,vO 12 6 1 l Qay,vI 13 i],[oX 6 30 (Qac.enc x0),oX 4 34 (Qad.enc r),oX 5 101 [.bool false,lI 0,.nils,lI 0,lI 0],oX 14 124 (Qal.enc x1),oX 4 233 (QaA.enc x3),oX 5 101 [.bool x2,lI depart,lO 7 4 l1 Qar.enc,lI 0,lI 0],oS 1 3 l Qay,oS 4 213 l1 Qar.enc]⟩⟩
def Qnr (Γ:Gam) (rv:Qap×List Int×Int) (x0:Qac) (r:Qad) (rests:List Bool) (x1:Qal) (x2:Bool) (l2:List Int) (l3:List Qar) (x6:QaA) (depart1:Int):Prop:=Qrm Γ rv ⟨[.c 255],⟨161,[vP 3 0 6,vP 6 1 5,vP 9 2 14,vP 10 3 4,vP 11 4 5,vO 12 5 1 l2 Qay],[oX 6 30 (Qac.enc x0),oX 5 101 [.bool false,lI 0,.nils,lI 0,lI 0],oX 14 124 (Qal.enc x1),oX 4 233 (QaA.enc x6),oX 5 101 [.bool x2,lI depart1,lO 6 4 l3 Qar.enc,lI 0,lI 0],oS 1 3 l2 Qay,oS 4 213 l3 Qar.enc]⟩⟩
theorem QsV (Γ:Gam) (rv:Qap×List Int×Int) {x0 r rests x1 x2} {s:List Int×List Qar×QaA×Int×Int} {e:(List Int×List Qar×QaA×Int)⊕(Qap×List Int×Int)} (h:QaT (fun s=>QfI x0 r rests x1 x2 s.1 s.2.1 s.2.2.1 s.2.2.2.1 s.2.2.2.2) s=some e) (hD:sel e (fun e=>Qnr Γ rv x0 r rests x1 x2 e.1 e.2.1 e.2.2.1 e.2.2.2) (fun e=>e=rv)):Qog Γ rv x0 r rests x1 x2 s.1 s.2.1 s.2.2.1 s.2.2.2.1 s.2.2.2.2:=by
 refine QaC (C:=fun (s:List Int×List Qar×QaA×Int×Int)=>Qog Γ rv x0 r rests x1 x2 s.1 s.2.1 s.2.2.1 s.2.2.2.1 s.2.2.2.2) (D:=fun (e:(List Int×List Qar×QaA×Int)⊕(Qap×List Int×Int))=>sel e (fun e=>Qnr Γ rv x0 r rests x1 x2 e.1 e.2.1 e.2.2.1 e.2.2.2) (fun e=>e=rv)) ?_ h hD
 clear h hD s e
 rintro ⟨l,l1,x3,depart,i⟩ z_ h hI hE
 replace h:QfI x0 r rests x1 x2 l l1 x3 depart i=_:=h
 unfold QfI at h
 rcases Qah h with ⟨h5,h⟩|⟨h5,h⟩
 ·obtain ⟨x4,h6,h⟩:=Qae h
  obtain ⟨r3,h7,h⟩:=Qae h
  obtain ⟨r4,h8,h⟩:=Qae h
  rcases Qah h with ⟨h9,h⟩|⟨h9,h⟩
  ·obtain rfl:=(hE _ (oJ h):_=rv)
   exact gr 17 [] [nL Qaa.enc r.visits,bT h5,hH (.draw 13 [(8,11)]),cE Qaa.enc h6,cC (Qh9 h7),cC (Qh8 h8),bT h9,hW 7,hH (.nilB 2 2 4),hH (.nilS 7 0 1)]
  ·obtain ⟨h10,h⟩:=Qav h
   obtain ⟨x5,h11,h⟩:=Qae h
   obtain ⟨r5,h12,h⟩:=Qae h
   obtain ⟨h13,h⟩:=Qav h
   exact gn 30 [2,3,4,6,9,10,11,12,13] [0,1,2,3,4,5,11,14] [nL Qaa.enc r.visits,bT h5,hH (.draw 13 [(8,11)]),cE Qaa.enc h6,cC (Qh9 h7),cC (Qh8 h8),bF h9,oO (Eq.refl ([r4.1.driven].map Qay).length),aO Qay h10,hH (.draw 14 []),cE Qbd h11,hH (.draw 8 []),cE Qbd h11,cC (Qpi h12),oO (Eq.refl ([(Qar.mk r4.1.time (maxI r4.1.time r3.1.open_) r5.time x5)].map Qar.enc).length),aO Qar.enc h13] (hI _ (oJ h))
 ·exact gn 5 [3,6,9,10,11,12] [0,2,3,4,5,6,7] [nL Qaa.enc r.visits,bF h5] (hE _ (oJ h))
theorem QuF {x0 r rests} {rv:Qap×List Int×Int} (h:Qh7 x0 r rests=some rv):AFn Tryz.prog 177 [.agg (Qac.enc x0),.agg (Qad.enc r),.one (lL 1 rests Qbd)] [] (.tup [.agg [.bool rv.1.rest_,lI rv.1.depart,lL 4 rv.1.times Qar.enc,lI rv.1.end_,lI rv.1.miles],.one (lL 1 rv.2.1 Qay),.one (lI rv.2.2)]) []:=by
 refine QaM Tryz.func177 (by kernel_rfl) (by kernel_rfl) (fun Γ=>?_)
 unfold Qh7 at h
 obtain ⟨r1,h0,h⟩:=Qae h
 rcases Qah h with ⟨h1,h⟩|⟨h1,h⟩
 ·obtain rfl:=Option.some.inj h
  exact gr 8 [] [cC (Qf1 h0),hP,hP,oI ((!r1)=false),nL Qbd rests,hP,hP,hP,rp 2 (oI ((!r1)=false)),nL Qaa.enc r.visits,hP,hP,hP,rp 3 (oI ((!r1)=false)),oR True ((!r1)=false),bT h1,hW 6,hH (.nilB 2 2 4),hH (.nilS 7 0 1)]
 ·obtain ⟨x1,h2,h⟩:=Qae h
  obtain ⟨x2,h3,h⟩:=Qae h
  obtain ⟨r2,h4,h⟩:=Qae h
  obtain ⟨e0,h14,h⟩:=Qae h
  refine gn 20 [2,3,4,6,9,10,11,12,13] [0,1,2,3,4,5,6,7] [cC (Qf1 h0),hP,hP,oI ((!r1)=false),nL Qbd rests,hP,hP,hP,rp 2 (oI ((!r1)=false)),nL Qaa.enc r.visits,hP,hP,hP,rp 3 (oI ((!r1)=false)),oR True ((!r1)=false),bF h1,cE Qal.enc h2,hH (.draw 14 []),cE Qbd h3,cC (Qpi h4),hH (.draw 7 []),cE Qbd h3,hW 10,hH (.adopt 12 1 3),hH (.adoptB 5 2 4 213)] (QsV Γ rv h14 ?_)
  rcases e0 with e0|e0
  ·obtain ⟨l2,l3,x6,depart1⟩:=e0
   replace h:(bnd (QdC x0 x1 x6 x1.to_ x1.close 15) fun r6=>br (neI r6.2 0) (some ((Qap.mk false 0 [] 0 0),[],r6.2)) (chk (okN (l2++[r6.1.driven]).length 8) (some ((Qap.mk x2 depart1 l3 r6.1.time r6.1.miles),(l2++[r6.1.driven]),0))):Option (Qap×List Int×Int))=some _:=h
   obtain ⟨r6,h15,h⟩:=Qae h
   rcases Qah h with ⟨h16,h⟩|⟨h16,h⟩
   ·obtain rfl:=Option.some.inj h
    exact gr 8 [] [cC (Qh8 h15),bT h16,hW 7,hH (.nilB 1 2 4),hH (.nilS 7 0 1)]
   ·obtain ⟨h17,h⟩:=Qav h
    obtain rfl:=Option.some.inj h
    exact gr 15 [] [cC (Qh8 h15),bF h16,oO (Eq.refl ([r6.1.driven].map Qay).length),aO Qay h17,hW 20,hH (.frz 6),hH (.frz 9),rp 3 (eL l3 Qar.enc),rp 4 (oO (Eq.refl ((l2++[r6.1.driven]).map Qay).length))]
  ·obtain ⟨r7,rfl⟩:∃ x,x=e0:=⟨_,rfl⟩
   replace h:(some r7:Option (Qap×List Int×Int))=some _:=h
   exact Option.some.inj h
theorem QlR {x0 r rests} {rv:Qap×Int} (h:QeV x0 r rests=some rv):AFn Tryz.prog 159 [.agg (Qac.enc x0),.agg (Qad.enc r),.one (lL 1 rests Qbd)] [] (.tup [.agg [.bool rv.1.rest_,lI rv.1.depart,lL 4 rv.1.times Qar.enc,lI rv.1.end_,lI rv.1.miles],.one (lI rv.2)]) []:=by
 refine QaM Tryz.func159 (by kernel_rfl) (by kernel_rfl) (fun Γ=>?_)
 unfold QeV at h
 obtain ⟨r1,h0,h⟩:=Qae h
 obtain rfl:=Option.some.inj h
 exact gr 6 [] [cC (QuF h0)]
def Qqa (Γ:Gam) (rv:List Bool×Bool) (cf:Cf):Prop:=Go Tryz.prog Tryz.f160 [] Γ (.tup [.one (lL 1 rv.1 Qbd),.one (.bool rv.2)]) [] cf
def Qnq (Γ:Gam) (rv:List Bool×Bool) (n:Int) (l:List Bool) (i:Int):Prop:=Qqa Γ rv ⟨[.c 244,.l 244,.b 0,.c 31],⟨31,[vI 1 n,vO 6 0 1 l Qbd,vI 7 i],[oS 1 4 l Qbd]⟩⟩
def Qmx (Γ:Gam) (rv:List Bool×Bool) (n:Int):Prop:=Qqa Γ rv ⟨[.c 31],⟨31,[],[]⟩⟩
theorem Qr9 (Γ:Gam) (rv:List Bool×Bool) {n} {s:List Bool×Int} {e:(Unit)⊕(List Bool×Bool)} (h:QaT (fun s=>Qfg n s.1 s.2) s=some e) (hD:sel e (fun e=>Qmx Γ rv n) (fun e=>e=rv)):Qnq Γ rv n s.1 s.2:=by
 refine QaC (C:=fun (s:List Bool×Int)=>Qnq Γ rv n s.1 s.2) (D:=fun (e:(Unit)⊕(List Bool×Bool))=>sel e (fun e=>Qmx Γ rv n) (fun e=>e=rv)) ?_ h hD
 clear h hD s e
 rintro ⟨l,i⟩ z_ h hI hE
 replace h:Qfg n l i=_:=h
 unfold Qfg at h
 rcases Qah h with ⟨h1,h⟩|⟨h1,h⟩
 ·obtain ⟨x0,h2,h⟩:=Qae h
  rcases Qah h with ⟨h3,h⟩|⟨h3,h⟩
  ·exact gn 16 [1,6,7] [0] [bT h1,oO (QtK h2),oO (QtJ Qbd h2),rE Qbd h2,nF h3,oO (QtK h2),oO (QtJ Qbd h2),rE Qbd h2,hH (.rows ((setI l i false).map Qbd)),hH (.relen 0 ((setI l i false).map Qbd).length),oO (setM Qbd l i false),rp 3 (oO (Qxq Qbd l i false))] (hI _ (oJ h))
  ·obtain rfl:=(hE _ (oJ h):_=rv)
   exact gr 15 [] [bT h1,oO (QtK h2),oO (QtJ Qbd h2),rE Qbd h2,nT h3,oO (QtK h2),oO (QtJ Qbd h2),rE Qbd h2,hH (.rows ((setI l i true).map Qbd)),hH (.relen 0 ((setI l i true).map Qbd).length),hW 5,hH (.frz 0),oO (setM Qbd l i true),rp 3 (oO (Qxq Qbd l i true)),rp 5 (oO (Eq.refl ((setI l i true).map Qbd).length))]
 ·exact gn 5 [] [] [bF h1] (hE _ (oJ h))
theorem Qph {rests n} {rv:List Bool×Bool} (h:Qgc rests n=some rv):AFn Tryz.prog 160 [.one (lL 1 rests Qbd),.one (lI n)] [] (.tup [.one (lL 1 rv.1 Qbd),.one (.bool rv.2)]) []:=by
 refine QaM Tryz.func160 (by kernel_rfl) (by kernel_rfl) (fun Γ=>?_)
 unfold Qgc at h
 obtain ⟨h0,h⟩:=Qav h
 obtain ⟨e0,h4,h⟩:=Qae h
 refine gn 11 [1,6,7] [0] [aN Qbd h0,nL Qbd rests] (Qr9 Γ rv h4 ?_)
 rcases e0 with e0|e0
 ·replace h:(some ([],false):Option (List Bool×Bool))=some _:=h
  obtain rfl:=Option.some.inj h
  exact gr 2 [] [hW 4,hH (.nilS 4 0 1)]
 ·obtain ⟨r,rfl⟩:∃ x,x=e0:=⟨_,rfl⟩
  replace h:(some r:Option (List Bool×Bool))=some _:=h
  exact Option.some.inj h
def QlQ (Γ:Gam) (rv:Qap×Int) (cf:Cf):Prop:=Go Tryz.prog Tryz.f132 [] Γ (.tup [.agg [.bool rv.1.rest_,lI rv.1.depart,lL 4 rv.1.times Qar.enc,lI rv.1.end_,lI rv.1.miles],.one (lI rv.2)]) [] cf
def QiR (Γ:Gam) (rv:Qap×Int) (x0:Qac) (r:Qad) (l:List Bool) (r2:Qap×Int) (rests:List Bool) (x1:Qap) (rests1:List Bool) (found:Bool) (more:Bool):Prop:=QlQ Γ rv ⟨[.c 4088,.l 4088,.b 0,.c 1023],⟨88,[vP 2 0 6,vP 3 1 4,vP 4 2 5,vL 7 1 rests1 Qbd,vP 8 3 5,vI 9 r2.2,vB 10 found,vB 11 more],[oX 6 30 (Qac.enc x0),oX 4 34 [lI r.type_,lI r.start,lL 1 rests Qbd,lL 2 r.visits Qaa.enc],oX 5 101 [.bool false,lI 0,.nils,lI 0,lI 0],oX 5 101 (Qap.enc x1)]⟩⟩
def Qil (Γ:Gam) (rv:Qap×Int) (x0:Qac) (r:Qad) (l:List Bool) (r2:Qap×Int) (x3:Qap) (found2:Bool):Prop:=QlQ Γ rv ⟨[.c 1023],⟨88,[vP 4 0 5,vP 8 1 5,vI 9 r2.2,vB 10 found2],[oX 5 101 [.bool false,lI 0,.nils,lI 0,lI 0],oX 5 101 (Qap.enc x3)]⟩⟩
theorem Qmv (Γ:Gam) (rv:Qap×Int) {x0 r l r2 rests rests1 x2 found1} {x:(List Bool×Qap×List Bool×Bool×Bool)⊕(Qap×Bool)} (h:Qgx x0 r l r2 rests rests1 x2 found1=some x) (hI:∀ s:List Bool×Qap×List Bool×Bool×Bool,x=.inl s→QiR Γ rv x0 r l r2 s.1 s.2.1 s.2.2.1 s.2.2.2.1 s.2.2.2.2) (hE:∀ e:Qap×Bool,x=.inr e→Qil Γ rv x0 r l r2 e.1 e.2):QlQ Γ rv ⟨[.c 65419,.b 1,.l 4088,.b 0,.c 1023],⟨88,[vP 2 0 6,vP 3 1 4,vP 4 2 5,vL 7 1 rests1 Qbd,vP 8 3 5,vI 9 r2.2,vB 10 found1],[oX 6 30 (Qac.enc x0),oX 4 34 [lI r.type_,lI r.start,lL 1 rests Qbd,lL 2 r.visits Qaa.enc],oX 5 101 [.bool false,lI 0,.nils,lI 0,lI 0],oX 5 101 (Qap.enc x2)]⟩⟩:=by
 unfold Qgx at h
 obtain ⟨r5,h8,h⟩:=Qae h
 exact gn 3 [2,3,4,7,8,9,10,11] [0,1,2,3] [nL Qbd rests,cC (Qph h8)] (hI _ (oJ h))
theorem Qr8 (Γ:Gam) (rv:Qap×Int) {x0 r l r2} {s:List Bool×Qap×List Bool×Bool×Bool} {e:Qap×Bool} (h:QaT (fun s=>Qff x0 r l r2 s.1 s.2.1 s.2.2.1 s.2.2.2.1 s.2.2.2.2) s=some e) (hD:Qil Γ rv x0 r l r2 e.1 e.2):QiR Γ rv x0 r l r2 s.1 s.2.1 s.2.2.1 s.2.2.2.1 s.2.2.2.2:=by
 refine QaC (C:=fun (s:List Bool×Qap×List Bool×Bool×Bool)=>QiR Γ rv x0 r l r2 s.1 s.2.1 s.2.2.1 s.2.2.2.1 s.2.2.2.2) (D:=fun (e:Qap×Bool)=>Qil Γ rv x0 r l r2 e.1 e.2) ?_ h hD
 clear h hD s e
 rintro ⟨rests,x1,rests1,found,more⟩ z_ h hI hE
 replace h:Qff x0 r l r2 rests x1 rests1 found more=_:=h
 unfold Qff at h
 rcases Qah h with ⟨h5,h⟩|⟨h5,h⟩
 ·obtain ⟨r4,h6,h⟩:=Qae h
  rcases Qah h with ⟨h7,h⟩|⟨h7,h⟩
  ·exact gn 15 [2,3,4,7,8,9,10] [0,1,2,3] [bT h5,cC (QlR h6),rp 11 hP,rp 2 (oI ((eqI r4.2 0)=true)),rp 4 (oI (((eqI r4.2 0)=true)∧(!found)=false)),oI ((eqI r4.2 0)=true),oI (((eqI r4.2 0)=true)∧(!found)=false),oR True ((eqI r4.2 0)=true),bT h7] (Qmv Γ rv h hI hE)
  ·exact gn 13 [2,3,4,7,8,9,10] [0,1,2,3] [bT h5,cC (QlR h6),rp 11 hP,rp 2 (oI ((eqI r4.2 0)=true)),rp 4 (oI (((eqI r4.2 0)=true)∧(!found)=false)),oI ((eqI r4.2 0)=true),oI (((eqI r4.2 0)=true)∧(!found)=false),oR True ((eqI r4.2 0)=true),bF h7] (Qmv Γ rv h hI hE)
 ·exact gn 5 [4,8,9,10] [2,3] [bF h5] (hE _ (oJ h))
theorem Qpf {x0 r} {rv:Qap×Int} (h:Qgb x0 r=some rv):AFn Tryz.prog 132 [.agg (Qac.enc x0),.agg (Qad.enc r)] [] (.tup [.agg [.bool rv.1.rest_,lI rv.1.depart,lL 4 rv.1.times Qar.enc,lI rv.1.end_,lI rv.1.miles],.one (lI rv.2)]) []:=by
 refine QaM Tryz.func132 (by kernel_rfl) (by kernel_rfl) (fun Γ=>?_)
 unfold Qgb at h
 obtain ⟨r1,h0,h⟩:=Qae h
 rcases Qah h with ⟨h1,h⟩|⟨h1,h⟩
 ·obtain rfl:=Option.some.inj h
  exact gr 10 [] [nL Qaa.enc r.visits,cC (Qf1 h0),hP,hP,hP,rp 2 (oI ((!r1)=false)),nL Qbd r.rests,hP,hP,hP,rp 2 (oI ((!r1)=false)),oR True ((!r1)=false),bT h1,hW 5,hH (.nilB 2 2 4)]
 ·obtain ⟨l,h2,h⟩:=Qae h
  obtain ⟨r2,h3,h⟩:=Qae h
  obtain ⟨r3,h4,h⟩:=Qae h
  obtain ⟨e0,h9,h⟩:=Qae h
  refine gn 22 [2,3,4,7,8,9,10,11] [0,1,2,4] [nL Qaa.enc r.visits,cC (Qf1 h0),hP,hP,hP,rp 2 (oI ((!r1)=false)),nL Qbd r.rests,hP,hP,hP,rp 2 (oI ((!r1)=false)),oR True ((!r1)=false),bF h1,hH (.cells [.bool false]),hH (.rows (l.map Qbd)),oO (mk1 h2),oO (mk2 h2),oO (mk3 h2),oO (mk4 h2),oO (mk5 Qbd h2),cY Qbd l r.rests,hH (.relen 3 ((cpyL l r.rests).map Qbd).length),hW 5,hH (.frz 3),rp 3 (oO (QGe Qbd l r.rests)),rp 4 (oO (Eq.refl ((cpyL l r.rests).map Qbd).length)),cC (QlR h3),nL Qbd r.rests,cC (Qph h4)] (Qr8 Γ rv h9 ?_)
  obtain ⟨x3,found2⟩:=e0
  replace h:(br found2 (some (x3,0)) (some ((Qap.mk false 0 [] 0 0),r2.2)):Option (Qap×Int))=some _:=h
  rcases Qah h with ⟨h10,h⟩|⟨h10,h⟩
  ·obtain rfl:=Option.some.inj h
   exact gr 7 [] [nF h10]
  ·obtain rfl:=Option.some.inj h
   exact gr 6 [] [nT h10,hW 6,hH (.nilB 0 2 4)]
def Qoi (Γ:Gam) (rv:Bool) (cf:Cf):Prop:=Go Tryz.prog Tryz.f161 [] Γ (one (.bool rv)) [] cf
def Qlx (Γ:Gam) (rv:Bool) (l:List Qaa) (at_:Int) (i:Int):Prop:=Qoi Γ rv ⟨[.c 52,.l 52,.b 0,.c 7],⟨22,[vL 0 2 l Qaa.enc,vI 1 at_,vI 5 i],[]⟩⟩
def Qki (Γ:Gam) (rv:Bool) (l:List Qaa) (at_:Int):Prop:=Qoi Γ rv ⟨[.c 7],⟨22,[],[]⟩⟩
theorem Qqz (Γ:Gam) (rv:Bool) {l at_} {s:Int} {e:(Unit)⊕(Bool)} (h:QaT (fun s=>Qck l at_ s) s=some e) (hD:sel e (fun e=>Qki Γ rv l at_) (fun e=>e=rv)):Qlx Γ rv l at_ s:=by
 refine QaC (C:=fun (s:Int)=>Qlx Γ rv l at_ s) (D:=fun (e:(Unit)⊕(Bool))=>sel e (fun e=>Qki Γ rv l at_) (fun e=>e=rv)) ?_ h hD
 clear h hD s e
 intro i z_ h hI hE
 replace h:Qck l at_ i=_:=h
 unfold Qck at h
 rcases Qah h with ⟨h0,h⟩|⟨h0,h⟩
 ·obtain ⟨x0,h1,h⟩:=Qae h
  obtain ⟨x1,h2,h⟩:=Qae h
  rcases Qah h with ⟨h3,h⟩|⟨h3,h⟩
  ·obtain rfl:=(hE _ (oJ h):_=rv)
   exact gr 12 [] [bT h0,hH (.draw 11 []),cE Qaa.enc h1,cE Qaa.enc h2,bT h3]
  ·exact gn 14 [0,1,5] [] [bT h0,hH (.draw 11 []),cE Qaa.enc h1,cE Qaa.enc h2,bF h3] (hI _ (oJ h))
 ·exact gn 5 [] [] [bF h0] (hE _ (oJ h))
theorem Qd3 {l at_} {rv:Bool} (h:Qg2 l at_=some rv):AFn Tryz.prog 161 [.one (lL 2 l Qaa.enc),.one (lI at_)] [] (one (.bool rv)) []:=by
 refine QaM Tryz.func161 (by kernel_rfl) (by kernel_rfl) (fun Γ=>?_)
 unfold Qg2 at h
 obtain ⟨e0,h4,h⟩:=Qae h
 refine gn 7 [0,1,5] [] [] (Qqz Γ rv h4 ?_)
 rcases e0 with e0|e0
 ·replace h:(some true:Option Bool)=some _:=h
  obtain rfl:=Option.some.inj h
  exact gr 2 [] []
 ·obtain ⟨r,rfl⟩:∃ x,x=e0:=⟨_,rfl⟩
  replace h:(some r:Option Bool)=some _:=h
  exact Option.some.inj h
def Qkw (Γ:Gam) (rv:Qau) (cf:Cf):Prop:=Go Tryz.prog Tryz.f133 [] Γ (gG [lI rv.cost,lI rv.moved,lI rv.other,lI rv.work]) [] cf
def Qim (Γ:Gam) (rv:Qau) (x0:Qac) (r:Qad) (s0:Qap) (x1:Qal) (moved:Int) (other:Int) (i:Int):Prop:=Qkw Γ rv ⟨[.c 1012,.l 1012,.b 0,.c 127],⟨128,[vP 3 0 6,vP 4 1 4,vP 6 2 4,vP 9 3 4,vI 10 i],[oX 6 30 (Qac.enc x0),oX 4 34 (Qad.enc r),oX 4 93 [lI 0,lI 0,lI 0,lI 0],oX 4 93 [lI (addK .i64 (addK .i64 x1.fixed (mulK .i64 x1.perMile s0.miles)) (mulK .i64 x1.perTick (subK .i64 s0.end_ x1.open_))),lI moved,lI other,lI (mulK .i64 (quoK .i64 (subK .i64 s0.end_ x1.open_) 64) (quoK .i64 (subK .i64 s0.end_ x1.open_) 64))]]⟩⟩
def QhU (Γ:Gam) (rv:Qau) (x0:Qac) (r:Qad) (s0:Qap) (x1:Qal) (moved2:Int) (other1:Int):Prop:=Qkw Γ rv ⟨[.c 127],⟨128,[vP 6 0 4,vP 9 1 4],[oX 4 93 [lI 0,lI 0,lI 0,lI 0],oX 4 93 [lI (addK .i64 (addK .i64 x1.fixed (mulK .i64 x1.perMile s0.miles)) (mulK .i64 x1.perTick (subK .i64 s0.end_ x1.open_))),lI moved2,lI other1,lI (mulK .i64 (quoK .i64 (subK .i64 s0.end_ x1.open_) 64) (quoK .i64 (subK .i64 s0.end_ x1.open_) 64))]]⟩⟩
theorem Qlw (Γ:Gam) (rv:Qau) {x0 r s0 x1 other i x2 moved1} {x:(Int×Int×Int)⊕(Int×Int)} (h:Qf2 x0 r s0 x1 other i x2 moved1=some x) (hI:∀ s:Int×Int×Int,x=.inl s→Qim Γ rv x0 r s0 x1 s.1 s.2.1 s.2.2) (hE:∀ e:Int×Int,x=.inr e→QhU Γ rv x0 r s0 x1 e.1 e.2):Qkw Γ rv ⟨[.c 64807,.b 1,.c 4051,.l 1012,.b 0,.c 127],⟨128,[vP 3 0 6,vP 4 1 4,vP 6 2 4,vP 9 3 4,vI 10 i,vI 11 x2.order],[oX 6 30 (Qac.enc x0),oX 4 34 (Qad.enc r),oX 4 93 [lI 0,lI 0,lI 0,lI 0],oX 4 93 [lI (addK .i64 (addK .i64 x1.fixed (mulK .i64 x1.perMile s0.miles)) (mulK .i64 x1.perTick (subK .i64 s0.end_ x1.open_))),lI moved1,lI other,lI (mulK .i64 (quoK .i64 (subK .i64 s0.end_ x1.open_) 64) (quoK .i64 (subK .i64 s0.end_ x1.open_) 64))]]⟩⟩:=by
 unfold Qf2 at h
 obtain ⟨x4,h10,h⟩:=Qae h
 rcases Qah h with ⟨h11,h⟩|⟨h11,h⟩
 ·rcases Qah h with ⟨h12,h⟩|⟨h12,h⟩
  ·exact gn 7 [3,4,6,9,10] [0,1,2,3] [hH (.draw 18 []),cE Qag.enc h10,rp 4 (bT h11),cE Qag.enc h10,rp 6 (bT h11),bT h12] (hI _ (oJ h))
  ·exact gn 7 [3,4,6,9,10] [0,1,2,3] [hH (.draw 18 []),cE Qag.enc h10,rp 4 (bT h11),cE Qag.enc h10,rp 6 (bT h11),bF h12] (hI _ (oJ h))
 ·exact gn 7 [3,4,6,9,10] [0,1,2,3] [hH (.draw 18 []),cE Qag.enc h10,rp 10 (bF h11),fF] (hI _ (oJ h))
theorem Qrn (Γ:Gam) (rv:Qau) {x0 r s0 x1} {s:Int×Int×Int} {e:Int×Int} (h:QaT (fun s=>Qcb x0 r s0 x1 s.1 s.2.1 s.2.2) s=some e) (hD:QhU Γ rv x0 r s0 x1 e.1 e.2):Qim Γ rv x0 r s0 x1 s.1 s.2.1 s.2.2:=by
 refine QaC (C:=fun (s:Int×Int×Int)=>Qim Γ rv x0 r s0 x1 s.1 s.2.1 s.2.2) (D:=fun (e:Int×Int)=>QhU Γ rv x0 r s0 x1 e.1 e.2) ?_ h hD
 clear h hD s e
 rintro ⟨moved,other,i⟩ z_ h hI hE
 replace h:Qcb x0 r s0 x1 moved other i=_:=h
 unfold Qcb at h
 rcases Qah h with ⟨h2,h⟩|⟨h2,h⟩
 ·obtain ⟨x2,h3,h⟩:=Qae h
  rcases Qah h with ⟨h4,h⟩|⟨h4,h⟩
  ·exact gn 16 [3,4,6,9,10] [0,1,2,3] [nL Qaa.enc r.visits,bT h2,cE Qaa.enc h3,rp 4 hP,rp 2 (oI ((ltI x2.order 0)=false)),nL Qag.enc x0.orders,hP,hP,rp 2 (oI ((ltI x2.order 0)=false)),oR True ((ltI x2.order 0)=false),rp 6 (bT h4),tT] (hI _ (oJ h))
  ·obtain ⟨r1,h5,h⟩:=Qae h
   rcases Qah h with ⟨h6,h⟩|⟨h6,h⟩
   ·obtain ⟨x3,h7,h⟩:=Qae h
    rcases Qah h with ⟨h8,h⟩|⟨h8,h⟩
    ·rcases Qah h with ⟨h9,h⟩|⟨h9,h⟩
     ·exact gn 19 [3,4,6,9,10,11] [0,1,2,3] [nL Qaa.enc r.visits,bT h2,cE Qaa.enc h3,rp 4 hP,rp 2 (oI ((ltI x2.order 0)=false)),nL Qag.enc x0.orders,hP,hP,rp 2 (oI ((ltI x2.order 0)=false)),oR True ((ltI x2.order 0)=false),rp 4 (bF h4),cC (Qd3 h5),bF h4,bF h4,nF h6,hH (.draw 18 []),cE Qag.enc h7,rp 4 (bT h8),cE Qag.enc h7,rp 6 (bT h8),bT h9] (Qlw Γ rv h hI hE)
     ·exact gn 19 [3,4,6,9,10,11] [0,1,2,3] [nL Qaa.enc r.visits,bT h2,cE Qaa.enc h3,rp 4 hP,rp 2 (oI ((ltI x2.order 0)=false)),nL Qag.enc x0.orders,hP,hP,rp 2 (oI ((ltI x2.order 0)=false)),oR True ((ltI x2.order 0)=false),rp 4 (bF h4),cC (Qd3 h5),bF h4,bF h4,nF h6,hH (.draw 18 []),cE Qag.enc h7,rp 4 (bT h8),cE Qag.enc h7,rp 6 (bT h8),bF h9] (Qlw Γ rv h hI hE)
    ·rcases Qah h with ⟨h13,h⟩|⟨h13,h⟩
     ·rcases Qah h with ⟨h14,h⟩|⟨h14,h⟩
      ·exact gn 26 [3,4,6,9,10] [0,1,2,3] [nL Qaa.enc r.visits,bT h2,cE Qaa.enc h3,rp 4 hP,rp 2 (oI ((ltI x2.order 0)=false)),nL Qag.enc x0.orders,hP,hP,rp 2 (oI ((ltI x2.order 0)=false)),oR True ((ltI x2.order 0)=false),rp 4 (bF h4),cC (Qd3 h5),bF h4,bF h4,nF h6,hH (.draw 18 []),cE Qag.enc h7,rp 10 (bF h8),fF,hH (.draw 18 []),cE Qag.enc h7,rp 4 (bT h13),cE Qag.enc h7,rp 6 (bT h13),bT h14] (hI _ (oJ h))
      ·exact gn 26 [3,4,6,9,10] [0,1,2,3] [nL Qaa.enc r.visits,bT h2,cE Qaa.enc h3,rp 4 hP,rp 2 (oI ((ltI x2.order 0)=false)),nL Qag.enc x0.orders,hP,hP,rp 2 (oI ((ltI x2.order 0)=false)),oR True ((ltI x2.order 0)=false),rp 4 (bF h4),cC (Qd3 h5),bF h4,bF h4,nF h6,hH (.draw 18 []),cE Qag.enc h7,rp 10 (bF h8),fF,hH (.draw 18 []),cE Qag.enc h7,rp 4 (bT h13),cE Qag.enc h7,rp 6 (bT h13),bF h14] (hI _ (oJ h))
     ·exact gn 26 [3,4,6,9,10] [0,1,2,3] [nL Qaa.enc r.visits,bT h2,cE Qaa.enc h3,rp 4 hP,rp 2 (oI ((ltI x2.order 0)=false)),nL Qag.enc x0.orders,hP,hP,rp 2 (oI ((ltI x2.order 0)=false)),oR True ((ltI x2.order 0)=false),rp 4 (bF h4),cC (Qd3 h5),bF h4,bF h4,nF h6,hH (.draw 18 []),cE Qag.enc h7,rp 10 (bF h8),fF,hH (.draw 18 []),cE Qag.enc h7,rp 10 (bF h13),fF] (hI _ (oJ h))
   ·exact gn 16 [3,4,6,9,10] [0,1,2,3] [nL Qaa.enc r.visits,bT h2,cE Qaa.enc h3,rp 4 hP,rp 2 (oI ((ltI x2.order 0)=false)),nL Qag.enc x0.orders,hP,hP,rp 2 (oI ((ltI x2.order 0)=false)),oR True ((ltI x2.order 0)=false),rp 4 (bF h4),cC (Qd3 h5),bF h4,bF h4,nT h6] (hI _ (oJ h))
 ·exact gn 5 [6,9] [2,3] [nL Qaa.enc r.visits,bF h2] (hE _ (oJ h))
theorem Qtt {x0 r s0} {rv:Qau} (h:Qgy x0 r s0=some rv):AFn Tryz.prog 133 [.agg (Qac.enc x0),.agg (Qad.enc r),.agg (Qap.enc s0)] [] (gG [lI rv.cost,lI rv.moved,lI rv.other,lI rv.work]) []:=by
 refine QaM Tryz.func133 (by kernel_rfl) (by kernel_rfl) (fun Γ=>?_)
 unfold Qgy at h
 rcases Qah h with ⟨h0,h⟩|⟨h0,h⟩
 ·obtain rfl:=Option.some.inj h
  exact gr 8 [] [rp 5 hP,rp 3 (oI ((ltI r.type_ 0)=false)),nL Qal.enc x0.types,hP,hP,rp 2 (oI ((ltI r.type_ 0)=false)),oR True ((ltI r.type_ 0)=false),bT h0]
 ·obtain ⟨x1,h1,h⟩:=Qae h
  obtain ⟨e0,h15,h⟩:=Qae h
  refine gn 18 [3,4,6,9,10] [0,1,3,5] [rp 5 hP,rp 3 (oI ((ltI r.type_ 0)=false)),nL Qal.enc x0.types,hP,hP,rp 2 (oI ((ltI r.type_ 0)=false)),oR True ((ltI r.type_ 0)=false),bF h0,cE Qal.enc h1,rp 2 (oO (oA (n:=64)))] (Qrn Γ rv h15 ?_)
  obtain ⟨moved2,other1⟩:=e0
  replace h:(some (Qau.mk (addK .i64 (addK .i64 x1.fixed (mulK .i64 x1.perMile s0.miles)) (mulK .i64 x1.perTick (subK .i64 s0.end_ x1.open_))) moved2 other1 (mulK .i64 (quoK .i64 (subK .i64 s0.end_ x1.open_) 64) (quoK .i64 (subK .i64 s0.end_ x1.open_) 64))):Option Qau)=some _:=h
  obtain rfl:=Option.some.inj h
  exact gr 2 [] []
def Qmy (Γ:Gam) (rv:Qap×Qau×Int) (cf:Cf):Prop:=Go Tryz.prog Tryz.f100 [] Γ (.tup [.agg [.bool rv.1.rest_,lI rv.1.depart,lL 4 rv.1.times Qar.enc,lI rv.1.end_,lI rv.1.miles],.agg [lI rv.2.1.cost,lI rv.2.1.moved,lI rv.2.1.other,lI rv.2.1.work],.one (lI rv.2.2)]) [] cf
def QjH (Γ:Gam) (rv:Qap×Qau×Int) (x0:Qac) (r:Qad) (i:Int):Prop:=Qmy Γ rv ⟨[.c 244,.l 244,.b 0,.c 31],⟨85,[vP 2 0 6,vP 3 1 4,vP 4 2 5,vP 5 3 4,vI 8 i],[oX 6 30 (Qac.enc x0),oX 4 34 (Qad.enc r),oX 5 101 [.bool false,lI 0,.nils,lI 0,lI 0],oX 4 93 [lI 0,lI 0,lI 0,lI 0]]⟩⟩
def Qji (Γ:Gam) (rv:Qap×Qau×Int) (x0:Qac) (r:Qad):Prop:=Qmy Γ rv ⟨[.c 31],⟨85,[vP 2 0 6,vP 3 1 4,vP 4 2 5,vP 5 3 4],[oX 6 30 (Qac.enc x0),oX 4 34 (Qad.enc r),oX 5 101 [.bool false,lI 0,.nils,lI 0,lI 0],oX 4 93 [lI 0,lI 0,lI 0,lI 0]]⟩⟩
theorem Qpj (Γ:Gam) (rv:Qap×Qau×Int) {x0 r} {s:Int} {e:(Unit)⊕(Qap×Qau×Int)} (h:QaT (fun s=>Qbz x0 r s) s=some e) (hD:sel e (fun e=>Qji Γ rv x0 r) (fun e=>e=rv)):QjH Γ rv x0 r s:=by
 refine QaC (C:=fun (s:Int)=>QjH Γ rv x0 r s) (D:=fun (e:(Unit)⊕(Qap×Qau×Int))=>sel e (fun e=>Qji Γ rv x0 r) (fun e=>e=rv)) ?_ h hD
 clear h hD s e
 intro i z_ h hI hE
 replace h:Qbz x0 r i=_:=h
 unfold Qbz at h
 rcases Qah h with ⟨h3,h⟩|⟨h3,h⟩
 ·obtain ⟨x1,h4,h⟩:=Qae h
  obtain ⟨x2,h5,h⟩:=Qae h
  obtain ⟨x3,h6,h⟩:=Qae h
  obtain ⟨r2,h7,h⟩:=Qae h
  rcases Qah h with ⟨h8,h⟩|⟨h8,h⟩
  ·exact gn 14 [2,3,4,5,8] [0,1,2,3] [nL Qaa.enc r.visits,bT h3,hH (.draw 19 []),cE Qal.enc h4,cE Qaa.enc h5,cE Qag.enc h6,cC (Qo7 h7),nF h8] (hI _ (oJ h))
  ·obtain rfl:=(hE _ (oJ h):_=rv)
   exact gr 12 [] [nL Qaa.enc r.visits,bT h3,hH (.draw 19 []),cE Qal.enc h4,cE Qaa.enc h5,cE Qag.enc h6,cC (Qo7 h7),nT h8,hW 7,hH (.nilB 2 2 4)]
 ·exact gn 5 [2,3,4,5] [0,1,2,3] [nL Qaa.enc r.visits,bF h3] (hE _ (oJ h))
theorem Qly {x0 r} {rv:Qap×Qau×Int} (h:QeK x0 r=some rv):AFn Tryz.prog 100 [.agg (Qac.enc x0),.agg (Qad.enc r)] [] (.tup [.agg [.bool rv.1.rest_,lI rv.1.depart,lL 4 rv.1.times Qar.enc,lI rv.1.end_,lI rv.1.miles],.agg [lI rv.2.1.cost,lI rv.2.1.moved,lI rv.2.1.other,lI rv.2.1.work],.one (lI rv.2.2)]) []:=by
 refine QaM Tryz.func100 (by kernel_rfl) (by kernel_rfl) (fun Γ=>?_)
 unfold QeK at h
 rcases Qah h with ⟨h0,h⟩|⟨h0,h⟩
 ·obtain rfl:=Option.some.inj h
  exact gr 8 [] [rp 5 hP,rp 3 (oI ((ltI r.type_ 0)=false)),nL Qal.enc x0.types,hP,hP,rp 2 (oI ((ltI r.type_ 0)=false)),oR True ((ltI r.type_ 0)=false),bT h0,hW 7,hH (.nilB 2 2 4)]
 ·obtain ⟨r1,h1,h⟩:=Qae h
  rcases Qah h with ⟨h2,h⟩|⟨h2,h⟩
  ·obtain rfl:=Option.some.inj h
   exact gr 15 [] [rp 5 hP,rp 3 (oI ((ltI r.type_ 0)=false)),nL Qal.enc x0.types,hP,hP,rp 2 (oI ((ltI r.type_ 0)=false)),oR True ((ltI r.type_ 0)=false),bF h0,cC (Qhx h1),bT h2,hW 8,hH (.nilB 2 2 4)]
  ·obtain ⟨e0,h9,h⟩:=Qae h
   refine gn 19 [2,3,4,5,8] [0,1,2,3] [rp 5 hP,rp 3 (oI ((ltI r.type_ 0)=false)),nL Qal.enc x0.types,hP,hP,rp 2 (oI ((ltI r.type_ 0)=false)),oR True ((ltI r.type_ 0)=false),bF h0,cC (Qhx h1),bF h2] (Qpj Γ rv h9 ?_)
   rcases e0 with e0|e0
   ·replace h:(bnd (Qha x0 r) fun r3=>br (neI r3 0) (some ((Qap.mk false 0 [] 0 0),(Qau.mk 0 0 0 0),r3)) (bnd (Qgb x0 r) fun r4=>br (neI r4.2 0) (some ((Qap.mk false 0 [] 0 0),(Qau.mk 0 0 0 0),r4.2)) (bnd (Qgy x0 r r4.1) fun r5=>some (r4.1,r5,0))):Option (Qap×Qau×Int))=some _:=h
    obtain ⟨r3,h10,h⟩:=Qae h
    rcases Qah h with ⟨h11,h⟩|⟨h11,h⟩
    ·obtain rfl:=Option.some.inj h
     exact gr 8 [] [cC (Qkv h10),bT h11,hW 8,hH (.nilB 2 2 4)]
    ·obtain ⟨r4,h12,h⟩:=Qae h
     rcases Qah h with ⟨h13,h⟩|⟨h13,h⟩
     ·obtain rfl:=Option.some.inj h
      exact gr 15 [] [cC (Qkv h10),bF h11,cC (Qpf h12),bT h13,hW 8,hH (.nilB 2 2 4)]
     ·obtain ⟨r5,h14,h⟩:=Qae h
      obtain rfl:=Option.some.inj h
      exact gr 16 [] [cC (Qkv h10),bF h11,cC (Qpf h12),bF h13,hH (.draw 5 []),cC (Qtt h14)]
   ·obtain ⟨r6,rfl⟩:∃ x,x=e0:=⟨_,rfl⟩
    replace h:(some r6:Option (Qap×Qau×Int))=some _:=h
    exact Option.some.inj h
theorem QdG {x0 r} {rv:Int×Int} (h:Qft x0 r=some rv):AFn Tryz.prog 70 [.agg (Qac.enc x0),.agg (Qad.enc r)] [] (.tup [.one (lI rv.1),.one (lI rv.2)]) []:=by
 refine QaM Tryz.func70 (by kernel_rfl) (by kernel_rfl) (fun Γ=>?_)
 unfold Qft at h
 obtain ⟨r1,h0,h⟩:=Qae h
 rcases Qah h with ⟨h1,h⟩|⟨h1,h⟩
 ·obtain rfl:=Option.some.inj h
  exact gr 10 [] [cC (Qly h0),bT h1]
 ·obtain ⟨r2,h2,h⟩:=Qae h
  obtain rfl:=Option.some.inj h
  exact gr 11 [] [cC (Qly h0),bF h1,cC (Qns h2)]
theorem Qts {a b} {rv:Bool} (h:QjE a b=some rv):AFn Tryz.prog 101 [.agg (Qaa.enc a),.agg (Qaa.enc b)] [] (one (.bool rv)) []:=by
 refine QaM Tryz.func101 (by kernel_rfl) (by kernel_rfl) (fun Γ=>?_)
 unfold QjE at h
 obtain rfl:=Option.some.inj h
 exact gr 4 [] [rp 17 hP,rp 5 (oI ((ltI a.order b.order)=false)),rp 2 (oI (((ltI a.order b.order)=false)∧(eqI a.order b.order)=true)),oI ((ltI a.order b.order)=false),oI (((ltI a.order b.order)=false)∧(eqI a.order b.order)=true),oI ((ltI a.order b.order)=false),oI (((ltI a.order b.order)=false)∧((eqI a.order b.order)&&(!a.drop))=true),oI ((ltI a.order b.order)=false),oI (((ltI a.order b.order)=false)∧((eqI a.order b.order)&&(!a.drop))=true),oR True ((ltI a.order b.order)=false)]
def Qp8 (Γ:Gam) (rv:Bool) (cf:Cf):Prop:=Go Tryz.prog Tryz.f71 [] Γ (one (.bool rv)) [] cf
def Qnm (Γ:Gam) (rv:Bool) (a:List Qaa) (b:List Qaa) (i:Int):Prop:=Qp8 Γ rv ⟨[.c 52,.l 52,.b 0,.c 7],⟨41,[vL 0 2 a Qaa.enc,vL 1 2 b Qaa.enc,vI 5 i],[]⟩⟩
def Qmo (Γ:Gam) (rv:Bool) (a:List Qaa) (b:List Qaa):Prop:=Qp8 Γ rv ⟨[.c 7],⟨41,[vL 0 2 a Qaa.enc,vL 1 2 b Qaa.enc],[]⟩⟩
theorem Qr6 (Γ:Gam) (rv:Bool) {a b} {s:Int} {e:(Unit)⊕(Bool)} (h:QaT (fun s=>Qc5 a b s) s=some e) (hD:sel e (fun e=>Qmo Γ rv a b) (fun e=>e=rv)):Qnm Γ rv a b s:=by
 refine QaC (C:=fun (s:Int)=>Qnm Γ rv a b s) (D:=fun (e:(Unit)⊕(Bool))=>sel e (fun e=>Qmo Γ rv a b) (fun e=>e=rv)) ?_ h hD
 clear h hD s e
 intro i z_ h hI hE
 replace h:Qc5 a b i=_:=h
 unfold Qc5 at h
 rcases Qah h with ⟨h0,h⟩|⟨h0,h⟩
 ·obtain ⟨x0,h1,h⟩:=Qae h
  obtain ⟨x1,h2,h⟩:=Qae h
  rcases Qah h with ⟨h3,h⟩|⟨h3,h⟩
  ·exact gn 14 [0,1,5] [] [nL Qaa.enc a,hP,hP,hP,oI ((ltI i (lenI a))=true),nL Qaa.enc b,hP,hP,rp 2 (oI ((ltI i (lenI a))=true)),oR True ((ltI i (lenI a))=true),bT h0,hH (.draw 9 []),cE Qaa.enc h1,cE Qaa.enc h2,nF h3] (hI _ (oJ h))
  ·obtain ⟨r,h4,h⟩:=Qae h
   obtain rfl:=(hE _ (oJ h):_=rv)
   exact gr 12 [] [nL Qaa.enc a,hP,hP,hP,oI ((ltI i (lenI a))=true),nL Qaa.enc b,hP,hP,rp 2 (oI ((ltI i (lenI a))=true)),oR True ((ltI i (lenI a))=true),bT h0,hH (.draw 9 []),cE Qaa.enc h1,cE Qaa.enc h2,nT h3,hH (.draw 10 []),cE Qaa.enc h1,cE Qaa.enc h2,cC (Qts h4)]
 ·exact gn 5 [0,1] [] [nL Qaa.enc a,hP,hP,hP,oI ((ltI i (lenI a))=true),nL Qaa.enc b,hP,hP,rp 2 (oI ((ltI i (lenI a))=true)),oR True ((ltI i (lenI a))=true),bF h0] (hE _ (oJ h))
theorem Qpb {a b} {rv:Bool} (h:Qiu a b=some rv):AFn Tryz.prog 71 [.one (lL 2 a Qaa.enc),.one (lL 2 b Qaa.enc)] [] (one (.bool rv)) []:=by
 refine QaM Tryz.func71 (by kernel_rfl) (by kernel_rfl) (fun Γ=>?_)
 unfold Qiu at h
 obtain ⟨e0,h5,h⟩:=Qae h
 refine gn 7 [0,1,5] [] [] (Qr6 Γ rv h5 ?_)
 rcases e0 with e0|e0
 ·replace h:(some (ltI (lenI a) (lenI b)):Option Bool)=some _:=h
  obtain rfl:=Option.some.inj h
  exact gr 2 [] [nL Qaa.enc a,nL Qaa.enc b]
 ·obtain ⟨r1,rfl⟩:∃ x,x=e0:=⟨_,rfl⟩
  replace h:(some r1:Option Bool)=some _:=h
  exact Option.some.inj h
theorem Qnz {x0 f r visits} {rv:QaL} (h:QfJ x0 f r visits=some rv):AFn Tryz.prog 33 [.agg (Qac.enc x0),.agg (QaL.enc f),.agg (Qad.enc r),.one (lL 2 visits Qaa.enc)] [] (gG [.bool rv.ok,lI rv.route.type_,lI rv.route.start,lL 1 rv.route.rests Qbd,lL 2 rv.route.visits Qaa.enc,lI rv.price]) []:=by
 refine QaM Tryz.func33 (by kernel_rfl) (by kernel_rfl) (fun Γ=>?_)
 unfold QfJ at h
 obtain ⟨r1,h0,h⟩:=Qae h
 rcases Qah h with ⟨h1,h⟩|⟨h1,h⟩
 ·obtain rfl:=Option.some.inj h
  exact gr 12 [] [cC (QdG h0),bT h1]
 ·rcases Qah h with ⟨h2,h⟩|⟨h2,h⟩
  ·obtain rfl:=Option.some.inj h
   exact gr 17 [] [cC (QdG h0),bF h1,rp 5 hP,rp 3 (oI ((!f.ok)=false)),oR True ((!f.ok)=false),rp 5 (bT h2),rp 5 kF,bT h2,bT h2,tT]
  ·rcases Qah h with ⟨h3,h⟩|⟨h3,h⟩
   ·obtain ⟨r2,h4,h⟩:=Qae h
    rcases Qah h with ⟨h5,h⟩|⟨h5,h⟩
    ·obtain rfl:=Option.some.inj h
     exact gr 17 [] [cC (QdG h0),bF h1,rp 5 hP,rp 3 (oI ((!f.ok)=false)),oR True ((!f.ok)=false),rp 5 (bF h2),rp 5 (bT h3),cC (Qpb h4),bF h2,bT h3,bF h2,bT h5]
    ·obtain rfl:=Option.some.inj h
     exact gr 18 [] [cC (QdG h0),bF h1,rp 5 hP,rp 3 (oI ((!f.ok)=false)),oR True ((!f.ok)=false),rp 5 (bF h2),rp 5 (bT h3),cC (Qpb h4),bF h2,bT h3,bF h2,bF h5]
   ·obtain rfl:=Option.some.inj h
    exact gr 18 [] [cC (QdG h0),bF h1,rp 5 hP,rp 3 (oI ((!f.ok)=false)),oR True ((!f.ok)=false),rp 5 (bF h2),rp 5 (bF h3),bF h2,bF h3,bF h2,fF]
def QiK (Γ:Gam) (rv:Qad×Int×Int) (cf:Cf):Prop:=Go Tryz.prog Tryz.f12 [] Γ (.tup [.agg [lI rv.1.type_,lI rv.1.start,lL 1 rv.1.rests Qbd,lL 2 rv.1.visits Qaa.enc],.one (lI rv.2.1),.one (lI rv.2.2)]) [] cf
def Qnw (Γ:Gam) (rv:Qad×Int×Int) (x0:Qac) (r3:List Qaa) (x2:Qad) (ok:Bool) (type_:Int) (start:Int) (rests:List Bool) (visits:List Qaa) (price:Int) (i:Int) (r4:List Qaa) (ok1:Bool) (type_1:Int) (start1:Int) (rests1:List Bool) (visits1:List Qaa) (price1:Int) (k:Int):Prop:=QiK Γ rv ⟨[.c 521372,.l 521372,.b 2,.b 1,.c 8147,.l 2036,.b 0,.c 255],⟨98,[vP 3 0 6,vP 4 1 4,vP 6 2 4,vL 9 2 r3 Qaa.enc,vP 10 3 6,vI 11 i,vL 12 2 r4 Qaa.enc,vI 13 k],[oX 6 30 (Qac.enc x0),oX 4 34 (Qad.enc x2),oX 4 34 [lI 0,lI 0,.nils,.nils],oX 6 76 [.bool ok1,lI type_1,lI start1,lL 1 rests1 Qbd,lL 2 visits1 Qaa.enc,lI price1]]⟩⟩
def QmC (Γ:Gam) (rv:Qad×Int×Int) (x0:Qac) (r3:List Qaa) (x2:Qad) (ok:Bool) (type_:Int) (start:Int) (rests:List Bool) (visits:List Qaa) (price:Int) (i:Int) (r4:List Qaa) (x5:QaL):Prop:=QiK Γ rv ⟨[.b 1,.c 8147,.l 2036,.b 0,.c 255],⟨98,[vP 3 0 6,vP 4 1 4,vP 6 2 4,vL 9 2 r3 Qaa.enc,vP 10 3 6,vI 11 i],[oX 6 30 (Qac.enc x0),oX 4 34 (Qad.enc x2),oX 4 34 [lI 0,lI 0,.nils,.nils],oX 6 76 (QaL.enc x5)]⟩⟩
def Qnv (Γ:Gam) (rv:Qad×Int×Int) (x0:Qac) (r3:List Qaa) (x2:Qad) (ok:Bool) (type_:Int) (start:Int) (rests:List Bool) (visits:List Qaa) (price:Int) (i:Int):Prop:=QiK Γ rv ⟨[.c 2036,.l 2036,.b 0,.c 255],⟨98,[vP 3 0 6,vP 4 1 4,vP 6 2 4,vL 9 2 r3 Qaa.enc,vP 10 3 6,vI 11 i],[oX 6 30 (Qac.enc x0),oX 4 34 (Qad.enc x2),oX 4 34 [lI 0,lI 0,.nils,.nils],oX 6 76 [.bool ok,lI type_,lI start,lL 1 rests Qbd,lL 2 visits Qaa.enc,lI price]]⟩⟩
def QmB (Γ:Gam) (rv:Qad×Int×Int) (x0:Qac) (r3:List Qaa) (x6:QaL):Prop:=QiK Γ rv ⟨[.c 255],⟨98,[vP 6 0 4,vP 10 1 6],[oX 4 34 [lI 0,lI 0,.nils,.nils],oX 6 76 (QaL.enc x6)]⟩⟩
theorem Qsd (Γ:Gam) (rv:Qad×Int×Int) {x0 r3 x2 ok type_ start rests visits price i r4} {s:Bool×Int×Int×List Bool×List Qaa×Int×Int} {e:QaL} (h:QaT (fun s=>QdA x0 r3 x2 ok type_ start rests visits price i r4 s.1 s.2.1 s.2.2.1 s.2.2.2.1 s.2.2.2.2.1 s.2.2.2.2.2.1 s.2.2.2.2.2.2) s=some e) (hD:QmC Γ rv x0 r3 x2 ok type_ start rests visits price i r4 e):Qnw Γ rv x0 r3 x2 ok type_ start rests visits price i r4 s.1 s.2.1 s.2.2.1 s.2.2.2.1 s.2.2.2.2.1 s.2.2.2.2.2.1 s.2.2.2.2.2.2:=by
 refine QaC (C:=fun (s:Bool×Int×Int×List Bool×List Qaa×Int×Int)=>Qnw Γ rv x0 r3 x2 ok type_ start rests visits price i r4 s.1 s.2.1 s.2.2.1 s.2.2.2.1 s.2.2.2.2.1 s.2.2.2.2.2.1 s.2.2.2.2.2.2) (D:=fun (e:QaL)=>QmC Γ rv x0 r3 x2 ok type_ start rests visits price i r4 e) ?_ h hD
 clear h hD s e
 rintro ⟨ok1,type_1,start1,rests1,visits1,price1,k⟩ z_ h hI hE
 replace h:QdA x0 r3 x2 ok type_ start rests visits price i r4 ok1 type_1 start1 rests1 visits1 price1 k=_:=h
 unfold QdA at h
 rcases Qah h with ⟨h13,h⟩|⟨h13,h⟩
 ·obtain ⟨x4,h14,h⟩:=Qae h
  obtain ⟨r6,h15,h⟩:=Qae h
  obtain ⟨r7,h16,h⟩:=Qae h
  exact gn 11 [3,4,6,9,10,11,12,13] [0,1,2,3] [nL Qaa.enc r4,bT h13,hH (.draw 10 []),cE Qaa.enc h14,cC (QiT h15),cC (Qnz h16)] (hI _ (oJ h))
 ·exact gn 5 [3,4,6,9,10,11] [0,1,2,3] [nL Qaa.enc r4,bF h13] (hE _ (oJ h))
theorem Qsc (Γ:Gam) (rv:Qad×Int×Int) {x0 r3} {s:Qad×Bool×Int×Int×List Bool×List Qaa×Int×Int} {e:QaL} (h:QaT (fun s=>Qb4 x0 r3 s.1 s.2.1 s.2.2.1 s.2.2.2.1 s.2.2.2.2.1 s.2.2.2.2.2.1 s.2.2.2.2.2.2.1 s.2.2.2.2.2.2.2) s=some e) (hD:QmB Γ rv x0 r3 e):Qnv Γ rv x0 r3 s.1 s.2.1 s.2.2.1 s.2.2.2.1 s.2.2.2.2.1 s.2.2.2.2.2.1 s.2.2.2.2.2.2.1 s.2.2.2.2.2.2.2:=by
 refine QaC (C:=fun (s:Qad×Bool×Int×Int×List Bool×List Qaa×Int×Int)=>Qnv Γ rv x0 r3 s.1 s.2.1 s.2.2.1 s.2.2.2.1 s.2.2.2.2.1 s.2.2.2.2.2.1 s.2.2.2.2.2.2.1 s.2.2.2.2.2.2.2) (D:=fun (e:QaL)=>QmB Γ rv x0 r3 e) ?_ h hD
 clear h hD s e
 rintro ⟨x2,ok,type_,start,rests,visits,price,i⟩ z_ h hI hE
 replace h:Qb4 x0 r3 x2 ok type_ start rests visits price i=_:=h
 unfold Qb4 at h
 rcases Qah h with ⟨h8,h⟩|⟨h8,h⟩
 ·obtain ⟨x3,h9,h⟩:=Qae h
  obtain ⟨r4,h10,h⟩:=Qae h
  rcases Qah h with ⟨h11,h⟩|⟨h11,h⟩
  ·obtain ⟨r5,h12,h⟩:=Qae h
   exact gn 18 [3,4,6,9,10,11] [0,1,2,3] [nL Qaa.enc x2.visits,bT h8,hH (.draw 8 []),cE Qaa.enc h9,cC (QiT h10),nL Qaa.enc r3,bT h11,cC (Qnz h12)] (hI _ (oJ h))
  ·obtain ⟨e0,h17,h⟩:=Qae h
   refine gn 18 [3,4,6,9,10,11,12,13] [0,1,2,3] [nL Qaa.enc x2.visits,bT h8,hH (.draw 8 []),cE Qaa.enc h9,cC (QiT h10),nL Qaa.enc r3,bF h11] (Qsd Γ rv h17 ?_)
   obtain ⟨x5,rfl⟩:∃ x,x=e0:=⟨_,rfl⟩
   replace h:(some (.inl (x2,x5.ok,x5.route.type_,x5.route.start,x5.route.rests,x5.route.visits,x5.price,(addK .i64 i 1))):Option ((Qad×Bool×Int×Int×List Bool×List Qaa×Int×Int)⊕(QaL)))=some _:=h
   exact gn 3 [3,4,6,9,10,11] [0,1,2,3] [] (hI _ (oJ h))
 ·exact gn 5 [6,10] [2,3] [nL Qaa.enc x2.visits,bF h8] (hE _ (oJ h))
theorem Qfh {x0 r order} {rv:Qad×Int×Int} (h:Qgd x0 r order=some rv):AFn Tryz.prog 12 [.agg (Qac.enc x0),.agg (Qad.enc r),.one (lI order)] [] (.tup [.agg [lI rv.1.type_,lI rv.1.start,lL 1 rv.1.rests Qbd,lL 2 rv.1.visits Qaa.enc],.one (lI rv.2.1),.one (lI rv.2.2)]) []:=by
 refine QaM Tryz.func12 (by kernel_rfl) (by kernel_rfl) (fun Γ=>?_)
 unfold Qgd at h
 rcases Qah h with ⟨h0,h⟩|⟨h0,h⟩
 ·obtain rfl:=Option.some.inj h
  exact gr 8 [] [rp 5 hP,rp 3 (oI ((ltI r.type_ 0)=false)),nL Qal.enc x0.types,hP,hP,rp 2 (oI ((ltI r.type_ 0)=false)),oR True ((ltI r.type_ 0)=false),rp 5 (bT h0),tT,hW 6,hH (.nilB 2 2 1),hH (.nilB 2 3 2)]
 ·obtain ⟨r1,h1,h⟩:=Qae h
  rcases Qah h with ⟨h2,h⟩|⟨h2,h⟩
  ·obtain ⟨x1,h3,h⟩:=Qae h
   rcases Qah h with ⟨h4,h⟩|⟨h4,h⟩
   ·obtain rfl:=Option.some.inj h
    exact gr 13 [] [rp 5 hP,rp 3 (oI ((ltI r.type_ 0)=false)),nL Qal.enc x0.types,hP,hP,rp 2 (oI ((ltI r.type_ 0)=false)),oR True ((ltI r.type_ 0)=false),rp 3 (bF h0),cC (Qd4 h1),bF h0,bF h0,nF h2,cE Qag.enc h3,bT h4,hW 6,hH (.nilB 2 2 1),hH (.nilB 2 3 2)]
   ·obtain ⟨r2,h5,h⟩:=Qae h
    rcases Qah h with ⟨h6,h⟩|⟨h6,h⟩
    ·obtain rfl:=Option.some.inj h
     exact gr 18 [] [rp 5 hP,rp 3 (oI ((ltI r.type_ 0)=false)),nL Qal.enc x0.types,hP,hP,rp 2 (oI ((ltI r.type_ 0)=false)),oR True ((ltI r.type_ 0)=false),rp 3 (bF h0),cC (Qd4 h1),bF h0,bF h0,nF h2,cE Qag.enc h3,bF h4,cC (QjI h5),bT h6,hW 6,hH (.nilB 2 2 1),hH (.nilB 2 3 2)]
    ·obtain ⟨r3,h7,h⟩:=Qae h
     obtain ⟨e1,h18,h⟩:=Qae h
     refine gn 26 [3,4,6,9,10,11] [0,1,2,3] [rp 5 hP,rp 3 (oI ((ltI r.type_ 0)=false)),nL Qal.enc x0.types,hP,hP,rp 2 (oI ((ltI r.type_ 0)=false)),oR True ((ltI r.type_ 0)=false),rp 3 (bF h0),cC (Qd4 h1),bF h0,bF h0,nF h2,cE Qag.enc h3,bF h4,cC (QjI h5),bF h6,cC (QsT h7),nL Qbd r.rests,hW 3,hH (.nilB 3 3 1),hH (.nilB 3 4 2)] (Qsc Γ rv h18 ?_)
     obtain ⟨x6,rfl⟩:∃ x,x=e1:=⟨_,rfl⟩
     replace h:(br x6.ok (some (x6.route,x6.price,0)) (some ((Qad.mk 0 0 [] []),0,24)):Option (Qad×Int×Int))=some _:=h
     rcases Qah h with ⟨h19,h⟩|⟨h19,h⟩
     ·obtain rfl:=Option.some.inj h
      exact gr 7 [] [nF h19,hH (.draw 7 [(0,4)])]
     ·obtain rfl:=Option.some.inj h
      exact gr 6 [] [nT h19,hW 6,hH (.nilB 0 2 1),hH (.nilB 0 3 2)]
  ·obtain rfl:=Option.some.inj h
   exact gr 8 [] [rp 5 hP,rp 3 (oI ((ltI r.type_ 0)=false)),nL Qal.enc x0.types,hP,hP,rp 2 (oI ((ltI r.type_ 0)=false)),oR True ((ltI r.type_ 0)=false),rp 3 (bF h0),cC (Qd4 h1),bF h0,bF h0,nT h2,hW 6,hH (.nilB 2 2 1),hH (.nilB 2 3 2)]
def Qf3 (Γ:Gam) (rv:Bool) (cf:Cf):Prop:=Go Tryz.prog Tryz.f72 [] Γ (one (.bool rv)) [] cf
def Qjj (Γ:Gam) (rv:Bool) (a:Qad) (b:Qad) (i:Int):Prop:=Qf3 Γ rv ⟨[.c 116,.l 116,.b 0,.c 15],⟨73,[vP 2 0 4,vP 3 1 4,vI 5 i],[oX 4 34 (Qad.enc a),oX 4 34 (Qad.enc b)]⟩⟩
def Qiv (Γ:Gam) (rv:Bool) (a:Qad) (b:Qad):Prop:=Qf3 Γ rv ⟨[.c 15],⟨73,[vP 2 0 4,vP 3 1 4],[oX 4 34 (Qad.enc a),oX 4 34 (Qad.enc b)]⟩⟩
def Qjk (Γ:Gam) (rv:Bool) (a:Qad) (b:Qad) (i1:Int):Prop:=Qf3 Γ rv ⟨[.c 244,.l 244,.b 2,.c 31],⟨73,[vP 2 0 4,vP 3 1 4,vI 6 i1],[oX 4 34 (Qad.enc a),oX 4 34 (Qad.enc b)]⟩⟩
def Qiw (Γ:Gam) (rv:Bool) (a:Qad) (b:Qad):Prop:=Qf3 Γ rv ⟨[.c 31],⟨73,[],[]⟩⟩
theorem QoC (Γ:Gam) (rv:Bool) {a b} {s:Int} {e:(Unit)⊕(Bool)} (h:QaT (fun s=>QbX a b s) s=some e) (hD:sel e (fun e=>Qiv Γ rv a b) (fun e=>e=rv)):Qjj Γ rv a b s:=by
 refine QaC (C:=fun (s:Int)=>Qjj Γ rv a b s) (D:=fun (e:(Unit)⊕(Bool))=>sel e (fun e=>Qiv Γ rv a b) (fun e=>e=rv)) ?_ h hD
 clear h hD s e
 intro i z_ h hI hE
 replace h:QbX a b i=_:=h
 unfold QbX at h
 rcases Qah h with ⟨h1,h⟩|⟨h1,h⟩
 ·obtain ⟨x0,h2,h⟩:=Qae h
  obtain ⟨x1,h3,h⟩:=Qae h
  rcases Qah h with ⟨h4,h⟩|⟨h4,h⟩
  ·exact gn 14 [2,3,5] [0,1] [nL Qbd a.rests,bT h1,hH (.draw 11 []),cE Qbd h2,cE Qbd h3,nF h4] (hI _ (oJ h))
  ·obtain rfl:=(hE _ (oJ h):_=rv)
   exact gr 12 [] [nL Qbd a.rests,bT h1,hH (.draw 11 []),cE Qbd h2,cE Qbd h3,nT h4]
 ·exact gn 5 [2,3] [0,1] [nL Qbd a.rests,bF h1] (hE _ (oJ h))
theorem QoD (Γ:Gam) (rv:Bool) {a b} {s:Int} {e:(Unit)⊕(Bool)} (h:QaT (fun s=>QbF a b s) s=some e) (hD:sel e (fun e=>Qiw Γ rv a b) (fun e=>e=rv)):Qjk Γ rv a b s:=by
 refine QaC (C:=fun (s:Int)=>Qjk Γ rv a b s) (D:=fun (e:(Unit)⊕(Bool))=>sel e (fun e=>Qiw Γ rv a b) (fun e=>e=rv)) ?_ h hD
 clear h hD s e
 intro i1 z_ h hI hE
 replace h:QbF a b i1=_:=h
 unfold QbF at h
 rcases Qah h with ⟨h6,h⟩|⟨h6,h⟩
 ·obtain ⟨x2,h7,h⟩:=Qae h
  obtain ⟨x3,h8,h⟩:=Qae h
  rcases Qah h with ⟨h9,h⟩|⟨h9,h⟩
  ·exact gn 14 [2,3,6] [0,1] [nL Qaa.enc a.visits,bT h6,hH (.draw 11 []),cE Qaa.enc h7,cE Qaa.enc h8,nF h9] (hI _ (oJ h))
  ·obtain rfl:=(hE _ (oJ h):_=rv)
   exact gr 12 [] [nL Qaa.enc a.visits,bT h6,hH (.draw 11 []),cE Qaa.enc h7,cE Qaa.enc h8,nT h9]
 ·exact gn 5 [] [] [nL Qaa.enc a.visits,bF h6] (hE _ (oJ h))
theorem Qkj {a b} {rv:Bool} (h:Qfu a b=some rv):AFn Tryz.prog 72 [.agg (Qad.enc a),.agg (Qad.enc b)] [] (one (.bool rv)) []:=by
 refine QaM Tryz.func72 (by kernel_rfl) (by kernel_rfl) (fun Γ=>?_)
 unfold Qfu at h
 rcases Qah h with ⟨h0,h⟩|⟨h0,h⟩
 ·obtain rfl:=Option.some.inj h
  exact gr 8 [] [rp 9 hP,rp 4 (oI ((neI a.type_ b.type_)=false)),oR True ((neI a.type_ b.type_)=false),rp 2 (oI (((neI a.type_ b.type_)||(neI a.start b.start))=false)),nL Qbd a.rests,hP,hP,hP,rp 2 (oI (((neI a.type_ b.type_)||(neI a.start b.start))=false)),nL Qbd b.rests,rp 5 hP,rp 2 (oI (((neI a.type_ b.type_)||(neI a.start b.start))=false)),oR True (((neI a.type_ b.type_)||(neI a.start b.start))=false),rp 2 (oI ((((neI a.type_ b.type_)||(neI a.start b.start))||(neI (lenI a.rests) (lenI b.rests)))=false)),nL Qaa.enc a.visits,hP,hP,hP,rp 2 (oI ((((neI a.type_ b.type_)||(neI a.start b.start))||(neI (lenI a.rests) (lenI b.rests)))=false)),nL Qaa.enc b.visits,hP,hP,rp 2 (oI ((((neI a.type_ b.type_)||(neI a.start b.start))||(neI (lenI a.rests) (lenI b.rests)))=false)),oR True ((((neI a.type_ b.type_)||(neI a.start b.start))||(neI (lenI a.rests) (lenI b.rests)))=false),bT h0]
 ·obtain ⟨e0,h5,h⟩:=Qae h
  refine gn 12 [2,3,5] [0,1] [rp 9 hP,rp 4 (oI ((neI a.type_ b.type_)=false)),oR True ((neI a.type_ b.type_)=false),rp 2 (oI (((neI a.type_ b.type_)||(neI a.start b.start))=false)),nL Qbd a.rests,hP,hP,hP,rp 2 (oI (((neI a.type_ b.type_)||(neI a.start b.start))=false)),nL Qbd b.rests,rp 5 hP,rp 2 (oI (((neI a.type_ b.type_)||(neI a.start b.start))=false)),oR True (((neI a.type_ b.type_)||(neI a.start b.start))=false),rp 2 (oI ((((neI a.type_ b.type_)||(neI a.start b.start))||(neI (lenI a.rests) (lenI b.rests)))=false)),nL Qaa.enc a.visits,hP,hP,hP,rp 2 (oI ((((neI a.type_ b.type_)||(neI a.start b.start))||(neI (lenI a.rests) (lenI b.rests)))=false)),nL Qaa.enc b.visits,hP,hP,rp 2 (oI ((((neI a.type_ b.type_)||(neI a.start b.start))||(neI (lenI a.rests) (lenI b.rests)))=false)),oR True ((((neI a.type_ b.type_)||(neI a.start b.start))||(neI (lenI a.rests) (lenI b.rests)))=false),bF h0] (QoC Γ rv h5 ?_)
  rcases e0 with e0|e0
  ·replace h:(bnd (QaT (fun s=>QbF a b s) 0) (fun e=>sel e (fun (_:Unit)=>some true) (fun r=>some r)):Option Bool)=some _:=h
   obtain ⟨e1,h10,h⟩:=Qae h
   refine gn 5 [2,3,6] [0,1] [] (QoD Γ rv h10 ?_)
   rcases e1 with e1|e1
   ·replace h:(some true:Option Bool)=some _:=h
    obtain rfl:=Option.some.inj h
    exact gr 2 [] []
   ·obtain ⟨r,rfl⟩:∃ x,x=e1:=⟨_,rfl⟩
    replace h:(some r:Option Bool)=some _:=h
    exact Option.some.inj h
  ·obtain ⟨r1,rfl⟩:∃ x,x=e0:=⟨_,rfl⟩
   replace h:(some r1:Option Bool)=some _:=h
   exact Option.some.inj h
def QiJ (Γ:Gam) (rv:Bool) (cf:Cf):Prop:=Go Tryz.prog Tryz.f34 [] Γ (one (.bool rv)) [] cf
def Qnt (Γ:Gam) (rv:Bool) (a:Qak) (b:Qak) (i:Int):Prop:=QiJ Γ rv ⟨[.c 116,.l 116,.b 0,.c 15],⟨60,[vP 2 0 2,vP 3 1 2,vI 5 i],[oX 2 44 (Qak.enc a),oX 2 44 (Qak.enc b)]⟩⟩
def Qmz (Γ:Gam) (rv:Bool) (a:Qak) (b:Qak):Prop:=QiJ Γ rv ⟨[.c 15],⟨60,[vP 2 0 2,vP 3 1 2],[oX 2 44 (Qak.enc a),oX 2 44 (Qak.enc b)]⟩⟩
def Qnu (Γ:Gam) (rv:Bool) (a:Qak) (b:Qak) (i1:Int):Prop:=QiJ Γ rv ⟨[.c 244,.l 244,.b 2,.c 31],⟨60,[vP 2 0 2,vP 3 1 2,vI 6 i1],[oX 2 44 (Qak.enc a),oX 2 44 (Qak.enc b)]⟩⟩
def QmA (Γ:Gam) (rv:Bool) (a:Qak) (b:Qak):Prop:=QiJ Γ rv ⟨[.c 31],⟨60,[],[]⟩⟩
theorem Qsa (Γ:Gam) (rv:Bool) {a b} {s:Int} {e:(Unit)⊕(Bool)} (h:QaT (fun s=>Qdz a b s) s=some e) (hD:sel e (fun e=>Qmz Γ rv a b) (fun e=>e=rv)):Qnt Γ rv a b s:=by
 refine QaC (C:=fun (s:Int)=>Qnt Γ rv a b s) (D:=fun (e:(Unit)⊕(Bool))=>sel e (fun e=>Qmz Γ rv a b) (fun e=>e=rv)) ?_ h hD
 clear h hD s e
 intro i z_ h hI hE
 replace h:Qdz a b i=_:=h
 unfold Qdz at h
 rcases Qah h with ⟨h1,h⟩|⟨h1,h⟩
 ·obtain ⟨x0,h2,h⟩:=Qae h
  obtain ⟨x1,h3,h⟩:=Qae h
  obtain ⟨r,h4,h⟩:=Qae h
  rcases Qah h with ⟨h5,h⟩|⟨h5,h⟩
  ·exact gn 14 [2,3,5] [0,1] [nL Qad.enc a.routes,bT h1,hH (.draw 12 []),cE Qad.enc h2,cE Qad.enc h3,cC (Qkj h4),nF h5] (hI _ (oJ h))
  ·obtain rfl:=(hE _ (oJ h):_=rv)
   exact gr 12 [] [nL Qad.enc a.routes,bT h1,hH (.draw 12 []),cE Qad.enc h2,cE Qad.enc h3,cC (Qkj h4),nT h5]
 ·exact gn 5 [2,3] [0,1] [nL Qad.enc a.routes,bF h1] (hE _ (oJ h))
theorem Qsb (Γ:Gam) (rv:Bool) {a b} {s:Int} {e:(Unit)⊕(Bool)} (h:QaT (fun s=>Qc7 a b s) s=some e) (hD:sel e (fun e=>QmA Γ rv a b) (fun e=>e=rv)):Qnu Γ rv a b s:=by
 refine QaC (C:=fun (s:Int)=>Qnu Γ rv a b s) (D:=fun (e:(Unit)⊕(Bool))=>sel e (fun e=>QmA Γ rv a b) (fun e=>e=rv)) ?_ h hD
 clear h hD s e
 intro i1 z_ h hI hE
 replace h:Qc7 a b i1=_:=h
 unfold Qc7 at h
 rcases Qah h with ⟨h7,h⟩|⟨h7,h⟩
 ·obtain ⟨x2,h8,h⟩:=Qae h
  obtain ⟨x3,h9,h⟩:=Qae h
  rcases Qah h with ⟨h10,h⟩|⟨h10,h⟩
  ·obtain rfl:=(hE _ (oJ h):_=rv)
   exact gr 12 [] [nL Qay a.unserved,bT h7,hH (.draw 11 []),cE Qay h8,cE Qay h9,bT h10]
  ·exact gn 14 [2,3,6] [0,1] [nL Qay a.unserved,bT h7,hH (.draw 11 []),cE Qay h8,cE Qay h9,bF h10] (hI _ (oJ h))
 ·exact gn 5 [] [] [nL Qay a.unserved,bF h7] (hE _ (oJ h))
theorem QtW {a b} {rv:Bool} (h:QkD a b=some rv):AFn Tryz.prog 34 [.agg (Qak.enc a),.agg (Qak.enc b)] [] (one (.bool rv)) []:=by
 refine QaM Tryz.func34 (by kernel_rfl) (by kernel_rfl) (fun Γ=>?_)
 unfold QkD at h
 rcases Qah h with ⟨h0,h⟩|⟨h0,h⟩
 ·obtain rfl:=Option.some.inj h
  exact gr 8 [] [nL Qad.enc a.routes,nL Qad.enc b.routes,hP,hP,hP,rp 2 (oI ((neI (lenI a.routes) (lenI b.routes))=false)),nL Qay a.unserved,hP,hP,hP,rp 2 (oI ((neI (lenI a.routes) (lenI b.routes))=false)),nL Qay b.unserved,hP,hP,rp 2 (oI ((neI (lenI a.routes) (lenI b.routes))=false)),oR True ((neI (lenI a.routes) (lenI b.routes))=false),bT h0]
 ·obtain ⟨e0,h6,h⟩:=Qae h
  refine gn 12 [2,3,5] [0,1] [nL Qad.enc a.routes,nL Qad.enc b.routes,hP,hP,hP,rp 2 (oI ((neI (lenI a.routes) (lenI b.routes))=false)),nL Qay a.unserved,hP,hP,hP,rp 2 (oI ((neI (lenI a.routes) (lenI b.routes))=false)),nL Qay b.unserved,hP,hP,rp 2 (oI ((neI (lenI a.routes) (lenI b.routes))=false)),oR True ((neI (lenI a.routes) (lenI b.routes))=false),bF h0] (Qsa Γ rv h6 ?_)
  rcases e0 with e0|e0
  ·replace h:(bnd (QaT (fun s=>Qc7 a b s) 0) (fun e=>sel e (fun (_:Unit)=>some true) (fun r1=>some r1)):Option Bool)=some _:=h
   obtain ⟨e1,h11,h⟩:=Qae h
   refine gn 5 [2,3,6] [0,1] [] (Qsb Γ rv h11 ?_)
   rcases e1 with e1|e1
   ·replace h:(some true:Option Bool)=some _:=h
    obtain rfl:=Option.some.inj h
    exact gr 2 [] []
   ·obtain ⟨r1,rfl⟩:∃ x,x=e1:=⟨_,rfl⟩
    replace h:(some r1:Option Bool)=some _:=h
    exact Option.some.inj h
  ·obtain ⟨r2,rfl⟩:∃ x,x=e0:=⟨_,rfl⟩
   replace h:(some r2:Option Bool)=some _:=h
   exact Option.some.inj h
theorem Qpk {a b} {rv:Bool} (h:Qix a b=some rv):AFn Tryz.prog 13 [.agg (Qak.enc a),.agg (Qak.enc b)] [] (one (.bool rv)) []:=by
 refine QaM Tryz.func13 (by kernel_rfl) (by kernel_rfl) (fun Γ=>?_)
 unfold Qix at h
 obtain ⟨r,h0,h⟩:=Qae h
 obtain rfl:=Option.some.inj h
 exact gr 4 [] [cC (QtW h0)]
def Qoj (Γ:Gam) (rv:List Int×Int) (cf:Cf):Prop:=Go Tryz.prog Tryz.f41 [] Γ (.tup [.one (lL 1 rv.1 Qay),.one (lI rv.2)]) [] cf
def QlA (Γ:Gam) (rv:List Int×Int) (x0:Qac) (p:Qak) (l:List Int) (i:Int):Prop:=Qoj Γ rv ⟨[.c 116,.l 116,.b 0,.c 15],⟨35,[vP 2 0 6,vP 3 1 2,vO 6 2 1 l Qay,vI 7 i],[oX 6 30 (Qac.enc x0),oX 2 44 (Qak.enc p),oS 1 3 l Qay]⟩⟩
def Qkm (Γ:Gam) (rv:List Int×Int) (x0:Qac) (p:Qak) (l1:List Int):Prop:=Qoj Γ rv ⟨[.c 15],⟨35,[vO 6 0 1 l1 Qay],[oS 1 3 l1 Qay]⟩⟩
theorem QqC (Γ:Gam) (rv:List Int×Int) {x0 p} {s:List Int×Int} {e:(List Int)⊕(List Int×Int)} (h:QaT (fun s=>Qcl x0 p s.1 s.2) s=some e) (hD:sel e (fun e=>Qkm Γ rv x0 p e) (fun e=>e=rv)):QlA Γ rv x0 p s.1 s.2:=by
 refine QaC (C:=fun (s:List Int×Int)=>QlA Γ rv x0 p s.1 s.2) (D:=fun (e:(List Int)⊕(List Int×Int))=>sel e (fun e=>Qkm Γ rv x0 p e) (fun e=>e=rv)) ?_ h hD
 clear h hD s e
 rintro ⟨l,i⟩ z_ h hI hE
 replace h:Qcl x0 p l i=_:=h
 unfold Qcl at h
 rcases Qah h with ⟨h0,h⟩|⟨h0,h⟩
 ·obtain ⟨x1,h1,h⟩:=Qae h
  obtain ⟨r,h2,h⟩:=Qae h
  rcases Qah h with ⟨h3,h⟩|⟨h3,h⟩
  ·obtain rfl:=(hE _ (oJ h):_=rv)
   exact gr 15 [] [nL Qad.enc p.routes,bT h0,hH (.draw 12 []),cE Qad.enc h1,cC (QdG h2),bT h3,hW 5,hH (.nilS 4 0 1)]
  ·obtain ⟨h4,h⟩:=Qav h
   exact gn 18 [2,3,6,7] [0,1,4] [nL Qad.enc p.routes,bT h0,hH (.draw 12 []),cE Qad.enc h1,cC (QdG h2),bF h3,oO (Eq.refl ([r.1].map Qay).length),aO Qay h4] (hI _ (oJ h))
 ·exact gn 5 [6] [2] [nL Qad.enc p.routes,bF h0] (hE _ (oJ h))
theorem Qnx {x0 p} {rv:List Int×Int} (h:Qg4 x0 p=some rv):AFn Tryz.prog 41 [.agg (Qac.enc x0),.agg (Qak.enc p)] [] (.tup [.one (lL 1 rv.1 Qay),.one (lI rv.2)]) []:=by
 refine QaM Tryz.func41 (by kernel_rfl) (by kernel_rfl) (fun Γ=>?_)
 unfold Qg4 at h
 obtain ⟨e0,h5,h⟩:=Qae h
 refine gn 9 [2,3,6,7] [0,1,2] [hW 15,hH (.adopt 6 1 3)] (QqC Γ rv h5 ?_)
 rcases e0 with e0|e0
 ·obtain ⟨l1,rfl⟩:∃ x,x=e0:=⟨_,rfl⟩
  replace h:(some (l1,0):Option (List Int×Int))=some _:=h
  obtain rfl:=Option.some.inj h
  exact gr 2 [] [hW 5,hH (.frz 0),rp 3 (eL l1 Qay)]
 ·obtain ⟨r1,rfl⟩:∃ x,x=e0:=⟨_,rfl⟩
  replace h:(some r1:Option (List Int×Int))=some _:=h
  exact Option.some.inj h
def QfL (Γ:Gam) (rv:Qai) (cf:Cf):Prop:=Go Tryz.prog Tryz.f42 [] Γ (gG [.bool rv.ok,lI rv.place,lI rv.route.type_,lI rv.route.start,lL 1 rv.route.rests Qbd,lL 2 rv.route.visits Qaa.enc,lI rv.increase]) [] cf
def QnA (Γ:Gam) (rv:Qai) (x0:Qac) (p:Qak) (prices:List Int) (order:Int) (ok:Bool) (place:Int) (type_:Int) (start:Int) (rests:List Bool) (visits:List Qaa) (increase:Int) (i:Int):Prop:=QfL Γ rv ⟨[.c 116,.l 116,.b 0,.c 15],⟨127,[vL 2 1 prices Qay,vI 3 order,vP 4 0 6,vP 5 1 2,vP 8 2 7,vP 9 3 7,vI 10 i],[oX 6 30 (Qac.enc x0),oX 2 44 (Qak.enc p),oX 7 90 [.bool false,lI 0,lI 0,lI 0,.nils,.nils,lI 0],oX 7 90 [.bool ok,lI place,lI type_,lI start,lL 1 rests Qbd,lL 2 visits Qaa.enc,lI increase]]⟩⟩
def QmF (Γ:Gam) (rv:Qai) (x0:Qac) (p:Qak) (prices:List Int) (order:Int) (x4:Qai):Prop:=QfL Γ rv ⟨[.c 15],⟨127,[vI 3 order,vP 4 0 6,vP 5 1 2,vP 8 2 7,vP 9 3 7],[oX 6 30 (Qac.enc x0),oX 2 44 (Qak.enc p),oX 7 90 [.bool false,lI 0,lI 0,lI 0,.nils,.nils,lI 0],oX 7 90 (Qai.enc x4)]⟩⟩
def QnC (Γ:Gam) (rv:Qai) (x0:Qac) (p:Qak) (order:Int) (kind:Int) (x6:Qai) (used:Int) (i1:Int):Prop:=QfL Γ rv ⟨[.c 62612,.l 62612,.b 4,.c 7827,.b 3,.c 979,.l 244,.b 2,.c 31],⟨127,[vI 3 order,vP 4 0 6,vP 5 1 2,vP 8 2 7,vP 9 3 7,vI 14 kind,vI 15 used,vI 16 i1],[oX 6 30 (Qac.enc x0),oX 2 44 (Qak.enc p),oX 7 90 [.bool false,lI 0,lI 0,lI 0,.nils,.nils,lI 0],oX 7 90 (Qai.enc x6)]⟩⟩
def QmH (Γ:Gam) (rv:Qai) (x0:Qac) (p:Qak) (order:Int) (kind:Int) (x8:Qai) (used1:Int):Prop:=QfL Γ rv ⟨[.c 7827,.b 3,.c 979,.l 244,.b 2,.c 31],⟨127,[vI 3 order,vP 4 0 6,vP 5 1 2,vP 8 2 7,vP 9 3 7,vI 14 kind,vI 15 used1],[oX 6 30 (Qac.enc x0),oX 2 44 (Qak.enc p),oX 7 90 [.bool false,lI 0,lI 0,lI 0,.nils,.nils,lI 0],oX 7 90 (Qai.enc x8)]⟩⟩
def QnB (Γ:Gam) (rv:Qai) (x0:Qac) (p:Qak) (order:Int) (x5:Qai) (kind:Int):Prop:=QfL Γ rv ⟨[.c 244,.l 244,.b 2,.c 31],⟨127,[vI 3 order,vP 4 0 6,vP 5 1 2,vP 8 2 7,vP 9 3 7,vI 14 kind],[oX 6 30 (Qac.enc x0),oX 2 44 (Qak.enc p),oX 7 90 [.bool false,lI 0,lI 0,lI 0,.nils,.nils,lI 0],oX 7 90 (Qai.enc x5)]⟩⟩
def QmG (Γ:Gam) (rv:Qai) (x0:Qac) (p:Qak) (order:Int) (x10:Qai):Prop:=QfL Γ rv ⟨[.c 31],⟨127,[vP 8 0 7,vP 9 1 7],[oX 7 90 [.bool false,lI 0,lI 0,lI 0,.nils,.nils,lI 0],oX 7 90 (Qai.enc x10)]⟩⟩
theorem Qse (Γ:Gam) (rv:Qai) {x0 p prices order} {s:Bool×Int×Int×Int×List Bool×List Qaa×Int×Int} {e:Qai} (h:QaT (fun s=>Qcs x0 p prices order s.1 s.2.1 s.2.2.1 s.2.2.2.1 s.2.2.2.2.1 s.2.2.2.2.2.1 s.2.2.2.2.2.2.1 s.2.2.2.2.2.2.2) s=some e) (hD:QmF Γ rv x0 p prices order e):QnA Γ rv x0 p prices order s.1 s.2.1 s.2.2.1 s.2.2.2.1 s.2.2.2.2.1 s.2.2.2.2.2.1 s.2.2.2.2.2.2.1 s.2.2.2.2.2.2.2:=by
 refine QaC (C:=fun (s:Bool×Int×Int×Int×List Bool×List Qaa×Int×Int)=>QnA Γ rv x0 p prices order s.1 s.2.1 s.2.2.1 s.2.2.2.1 s.2.2.2.2.1 s.2.2.2.2.2.1 s.2.2.2.2.2.2.1 s.2.2.2.2.2.2.2) (D:=fun (e:Qai)=>QmF Γ rv x0 p prices order e) ?_ h hD
 clear h hD s e
 rintro ⟨ok,place,type_,start,rests,visits,increase,i⟩ z_ h hI hE
 replace h:Qcs x0 p prices order ok place type_ start rests visits increase i=_:=h
 unfold Qcs at h
 rcases Qah h with ⟨h0,h⟩|⟨h0,h⟩
 ·obtain ⟨x1,h1,h⟩:=Qae h
  obtain ⟨r,h2,h⟩:=Qae h
  rcases Qah h with ⟨h3,h⟩|⟨h3,h⟩
  ·rcases Qah h with ⟨h4,h⟩|⟨h4,h⟩
   ·obtain ⟨x2,h5,h⟩:=Qae h
    rcases Qah h with ⟨h6,h⟩|⟨h6,h⟩
    ·exact gn 16 [2,3,4,5,8,9,10] [0,1,2,3] [nL Qad.enc p.routes,bT h0,hH (.draw 16 [(4,13)]),cE Qad.enc h1,cC (Qfh h2),hH (.draw 18 []),rp 4 (bT h3),rp 4 (nF h4),cE Qay h5,rp 5 (nF h4),bT h3,nF h4,bT h3,bT h6,hH (.draw 9 []),cE Qay h5] (hI _ (oJ h))
    ·exact gn 16 [2,3,4,5,8,9,10] [0,1,2,3] [nL Qad.enc p.routes,bT h0,hH (.draw 16 [(4,13)]),cE Qad.enc h1,cC (Qfh h2),hH (.draw 18 []),rp 4 (bT h3),rp 4 (nF h4),cE Qay h5,rp 5 (nF h4),bT h3,nF h4,bT h3,bF h6] (hI _ (oJ h))
   ·obtain ⟨x3,h7,h⟩:=Qae h
    exact gn 16 [2,3,4,5,8,9,10] [0,1,2,3] [nL Qad.enc p.routes,bT h0,hH (.draw 16 [(4,13)]),cE Qad.enc h1,cC (Qfh h2),hH (.draw 18 []),rp 4 (bT h3),rp 9 (nT h4),bT h3,nT h4,bT h3,tT,hH (.draw 9 []),cE Qay h7] (hI _ (oJ h))
  ·exact gn 16 [2,3,4,5,8,9,10] [0,1,2,3] [nL Qad.enc p.routes,bT h0,hH (.draw 16 [(4,13)]),cE Qad.enc h1,cC (Qfh h2),hH (.draw 18 []),rp 4 (bF h3),rp 9 kF,bF h3,bF h3,fF] (hI _ (oJ h))
 ·exact gn 5 [3,4,5,8,9] [0,1,2,3] [nL Qad.enc p.routes,bF h0] (hE _ (oJ h))
theorem Qsg (Γ:Gam) (rv:Qai) {x0 p order kind} {s:Qai×Int×Int} {e:Qai×Int} (h:QaT (fun s=>Qct x0 p order kind s.1 s.2.1 s.2.2) s=some e) (hD:QmH Γ rv x0 p order kind e.1 e.2):QnC Γ rv x0 p order kind s.1 s.2.1 s.2.2:=by
 refine QaC (C:=fun (s:Qai×Int×Int)=>QnC Γ rv x0 p order kind s.1 s.2.1 s.2.2) (D:=fun (e:Qai×Int)=>QmH Γ rv x0 p order kind e.1 e.2) ?_ h hD
 clear h hD s e
 rintro ⟨x6,used,i1⟩ z_ h hI hE
 replace h:Qct x0 p order kind x6 used i1=_:=h
 unfold Qct at h
 rcases Qah h with ⟨h10,h⟩|⟨h10,h⟩
 ·obtain ⟨x7,h11,h⟩:=Qae h
  rcases Qah h with ⟨h12,h⟩|⟨h12,h⟩
  ·exact gn 14 [3,4,5,8,9,14,15,16] [0,1,2,3] [nL Qad.enc p.routes,bT h10,cE Qad.enc h11,bT h12] (hI _ (oJ h))
  ·exact gn 14 [3,4,5,8,9,14,15,16] [0,1,2,3] [nL Qad.enc p.routes,bT h10,cE Qad.enc h11,bF h12] (hI _ (oJ h))
 ·exact gn 5 [3,4,5,8,9,14,15] [0,1,2,3] [nL Qad.enc p.routes,bF h10] (hE _ (oJ h))
theorem Qsf (Γ:Gam) (rv:Qai) {x0 p order} {s:Qai×Int} {e:Qai} (h:QaT (fun s=>Qb5 x0 p order s.1 s.2) s=some e) (hD:QmG Γ rv x0 p order e):QnB Γ rv x0 p order s.1 s.2:=by
 refine QaC (C:=fun (s:Qai×Int)=>QnB Γ rv x0 p order s.1 s.2) (D:=fun (e:Qai)=>QmG Γ rv x0 p order e) ?_ h hD
 clear h hD s e
 rintro ⟨x5,kind⟩ z_ h hI hE
 replace h:Qb5 x0 p order x5 kind=_:=h
 unfold Qb5 at h
 rcases Qah h with ⟨h9,h⟩|⟨h9,h⟩
 ·obtain ⟨e1,h13,h⟩:=Qae h
  refine gn 14 [3,4,5,8,9,14,15,16] [0,1,2,3] [nL Qal.enc x0.types,bT h9] (Qsg Γ rv h13 ?_)
  obtain ⟨x8,used1⟩:=e1
  replace h:(bnd (getI x0.types kind) fun x9=>br (geI used1 x9.count) (some (.inl (x8,(addK .i64 kind 1)))) (bnd (Qgd x0 (Qad.mk kind 0 [] []) order) fun r1=>br ((eqI r1.2.2 0)&&((!x8.ok)||(ltI r1.2.1 x8.increase))) (some (.inl ((Qai.mk true (lenI p.routes) r1.1 r1.2.1),(addK .i64 kind 1)))) (some (.inl (x8,(addK .i64 kind 1))))):Option ((Qai×Int)⊕(Qai)))=some _:=h
  obtain ⟨x9,h14,h⟩:=Qae h
  rcases Qah h with ⟨h15,h⟩|⟨h15,h⟩
  ·exact gn 7 [3,4,5,8,9,14] [0,1,2,3] [cE Qal.enc h14,bT h15] (hI _ (oJ h))
  ·obtain ⟨r1,h16,h⟩:=Qae h
   rcases Qah h with ⟨h17,h⟩|⟨h17,h⟩
   ·exact gn 14 [3,4,5,8,9,14] [0,1,2,3] [cE Qal.enc h14,bF h15,hW 7,hH (.nilS 101 2 1),hH (.nilS 101 3 2),cC (Qfh h16),rp 11 hP,rp 3 (oI ((eqI r1.2.2 0)=true)),rp 3 (oI (((eqI r1.2.2 0)=true)∧(!x8.ok)=false)),oI ((eqI r1.2.2 0)=true),oI (((eqI r1.2.2 0)=true)∧(!x8.ok)=false),oR True ((eqI r1.2.2 0)=true),bT h17,nL Qad.enc p.routes] (hI _ (oJ h))
   ·exact gn 14 [3,4,5,8,9,14] [0,1,2,3] [cE Qal.enc h14,bF h15,hW 7,hH (.nilS 101 2 1),hH (.nilS 101 3 2),cC (Qfh h16),rp 11 hP,rp 3 (oI ((eqI r1.2.2 0)=true)),rp 3 (oI (((eqI r1.2.2 0)=true)∧(!x8.ok)=false)),oI ((eqI r1.2.2 0)=true),oI (((eqI r1.2.2 0)=true)∧(!x8.ok)=false),oR True ((eqI r1.2.2 0)=true),bF h17] (hI _ (oJ h))
 ·exact gn 5 [8,9] [2,3] [nL Qal.enc x0.types,bF h9] (hE _ (oJ h))
theorem Qpm {x0 p prices order} {rv:Qai} (h:Qiy x0 p prices order=some rv):AFn Tryz.prog 42 [.agg (Qac.enc x0),.agg (Qak.enc p),.one (lL 1 prices Qay),.one (lI order)] [] (gG [.bool rv.ok,lI rv.place,lI rv.route.type_,lI rv.route.start,lL 1 rv.route.rests Qbd,lL 2 rv.route.visits Qaa.enc,lI rv.increase]) []:=by
 refine QaM Tryz.func42 (by kernel_rfl) (by kernel_rfl) (fun Γ=>?_)
 unfold Qiy at h
 obtain ⟨e0,h8,h⟩:=Qae h
 refine gn 9 [2,3,4,5,8,9,10] [0,1,2,3] [hW 14,hH (.nilB 3 4 1),hH (.nilB 3 5 2)] (Qse Γ rv h8 ?_)
 obtain ⟨x4,rfl⟩:∃ x,x=e0:=⟨_,rfl⟩
 replace h:(bnd (QaT (fun s=>Qb5 x0 p order s.1 s.2) (x4,0)) (fun x10=>some x10):Option Qai)=some _:=h
 obtain ⟨e2,h18,h⟩:=Qae h
 refine gn 5 [3,4,5,8,9,14] [0,1,2,3] [] (Qsf Γ rv h18 ?_)
 obtain ⟨x10,rfl⟩:∃ x,x=e2:=⟨_,rfl⟩
 replace h:(some x10:Option Qai)=some _:=h
 obtain rfl:=Option.some.inj h
 exact gr 2 [] []
def Qom (Γ:Gam) (rv:Bool) (cf:Cf):Prop:=Go Tryz.prog Tryz.f46 [] Γ (one (.bool rv)) [] cf
def QlD (Γ:Gam) (rv:Bool) (p:Qak) (order:Int) (i:Int):Prop:=Qom Γ rv ⟨[.c 52,.l 52,.b 0,.c 7],⟨20,[vI 1 order,vP 2 0 2,vI 5 i],[oX 2 44 (Qak.enc p)]⟩⟩
def Qkn (Γ:Gam) (rv:Bool) (p:Qak) (order:Int):Prop:=Qom Γ rv ⟨[.c 7],⟨20,[],[]⟩⟩
theorem QqD (Γ:Gam) (rv:Bool) {p order} {s:Int} {e:(Unit)⊕(Bool)} (h:QaT (fun s=>Qd5 p order s) s=some e) (hD:sel e (fun e=>Qkn Γ rv p order) (fun e=>e=rv)):QlD Γ rv p order s:=by
 refine QaC (C:=fun (s:Int)=>QlD Γ rv p order s) (D:=fun (e:(Unit)⊕(Bool))=>sel e (fun e=>Qkn Γ rv p order) (fun e=>e=rv)) ?_ h hD
 clear h hD s e
 intro i z_ h hI hE
 replace h:Qd5 p order i=_:=h
 unfold Qd5 at h
 rcases Qah h with ⟨h0,h⟩|⟨h0,h⟩
 ·obtain ⟨x0,h1,h⟩:=Qae h
  obtain ⟨r,h2,h⟩:=Qae h
  rcases Qah h with ⟨h3,h⟩|⟨h3,h⟩
  ·obtain rfl:=(hE _ (oJ h):_=rv)
   exact gr 12 [] [nL Qad.enc p.routes,bT h0,cE Qad.enc h1,cC (QjI h2),bT h3]
  ·exact gn 14 [1,2,5] [0] [nL Qad.enc p.routes,bT h0,cE Qad.enc h1,cC (QjI h2),bF h3] (hI _ (oJ h))
 ·exact gn 5 [] [] [nL Qad.enc p.routes,bF h0] (hE _ (oJ h))
theorem QiU {p order} {rv:Bool} (h:Qg5 p order=some rv):AFn Tryz.prog 46 [.agg (Qak.enc p),.one (lI order)] [] (one (.bool rv)) []:=by
 refine QaM Tryz.func46 (by kernel_rfl) (by kernel_rfl) (fun Γ=>?_)
 unfold Qg5 at h
 obtain ⟨e0,h4,h⟩:=Qae h
 refine gn 7 [1,2,5] [0] [] (QqD Γ rv h4 ?_)
 rcases e0 with e0|e0
 ·replace h:(some false:Option Bool)=some _:=h
  obtain rfl:=Option.some.inj h
  exact gr 2 [] []
 ·obtain ⟨r1,rfl⟩:∃ x,x=e0:=⟨_,rfl⟩
  replace h:(some r1:Option Bool)=some _:=h
  exact Option.some.inj h
def Qia (Γ:Gam) (rv:Int) (cf:Cf):Prop:=Go Tryz.prog Tryz.f40 [] Γ (one (lI rv)) [] cf
def QmE (Γ:Gam) (rv:Int) (x0:Qac) (order:List Int) (i:Int) (k:Int):Prop:=Qia Γ rv ⟨[.c 6732,.l 6732,.b 2,.b 1,.c 211,.l 52,.b 0,.c 7],⟨34,[vL 1 1 order Qay,vP 2 0 6,vI 5 i,vI 6 k],[oX 6 30 (Qac.enc x0)]⟩⟩
def QlC (Γ:Gam) (rv:Int) (x0:Qac) (order:List Int) (i:Int):Prop:=Qia Γ rv ⟨[.b 1,.c 211,.l 52,.b 0,.c 7],⟨34,[vL 1 1 order Qay,vP 2 0 6,vI 5 i],[oX 6 30 (Qac.enc x0)]⟩⟩
def QmD (Γ:Gam) (rv:Int) (x0:Qac) (order:List Int) (i:Int):Prop:=Qia Γ rv ⟨[.c 52,.l 52,.b 0,.c 7],⟨34,[vL 1 1 order Qay,vP 2 0 6,vI 5 i],[oX 6 30 (Qac.enc x0)]⟩⟩
def QlB (Γ:Gam) (rv:Int) (x0:Qac) (order:List Int):Prop:=Qia Γ rv ⟨[.c 7],⟨34,[],[]⟩⟩
theorem Qrq (Γ:Gam) (rv:Int) {x0 order i} {s:Int} {e:(Unit)⊕(Int)} (h:QaT (fun s=>Qdl x0 order i s) s=some e) (hD:sel e (fun e=>QlC Γ rv x0 order i) (fun e=>e=rv)):QmE Γ rv x0 order i s:=by
 refine QaC (C:=fun (s:Int)=>QmE Γ rv x0 order i s) (D:=fun (e:(Unit)⊕(Int))=>sel e (fun e=>QlC Γ rv x0 order i) (fun e=>e=rv)) ?_ h hD
 clear h hD s e
 intro k z_ h hI hE
 replace h:Qdl x0 order i k=_:=h
 unfold Qdl at h
 rcases Qah h with ⟨h4,h⟩|⟨h4,h⟩
 ·obtain ⟨x2,h5,h⟩:=Qae h
  obtain ⟨x3,h6,h⟩:=Qae h
  rcases Qah h with ⟨h7,h⟩|⟨h7,h⟩
  ·obtain rfl:=(hE _ (oJ h):_=rv)
   exact gr 12 [] [bT h4,hH (.draw 9 []),cE Qay h5,cE Qay h6,bT h7]
  ·exact gn 14 [1,2,5,6] [0] [bT h4,hH (.draw 9 []),cE Qay h5,cE Qay h6,bF h7] (hI _ (oJ h))
 ·exact gn 5 [1,2,5] [0] [bF h4] (hE _ (oJ h))
theorem Qrp (Γ:Gam) (rv:Int) {x0 order} {s:Int} {e:(Unit)⊕(Int)} (h:QaT (fun s=>Qdk x0 order s) s=some e) (hD:sel e (fun e=>QlB Γ rv x0 order) (fun e=>e=rv)):QmD Γ rv x0 order s:=by
 refine QaC (C:=fun (s:Int)=>QmD Γ rv x0 order s) (D:=fun (e:(Unit)⊕(Int))=>sel e (fun e=>QlB Γ rv x0 order) (fun e=>e=rv)) ?_ h hD
 clear h hD s e
 intro i z_ h hI hE
 replace h:Qdk x0 order i=_:=h
 unfold Qdk at h
 rcases Qah h with ⟨h0,h⟩|⟨h0,h⟩
 ·obtain ⟨x1,h1,h⟩:=Qae h
  obtain ⟨r,h2,h⟩:=Qae h
  rcases Qah h with ⟨h3,h⟩|⟨h3,h⟩
  ·obtain ⟨e0,h8,h⟩:=Qae h
   refine gn 16 [1,2,5,6] [0] [nL Qay order,bT h0,hH (.draw 7 []),cE Qay h1,cC (Qd4 h2),nF h3] (Qrq Γ rv h8 ?_)
   rcases e0 with e0|e0
   ·replace h:(some (.inl (addK .i64 i 1)):Option ((Int)⊕((Unit)⊕(Int))))=some _:=h
    exact gn 3 [1,2,5] [0] [] (hI _ (oJ h))
   ·obtain ⟨r1,rfl⟩:∃ x,x=e0:=⟨_,rfl⟩
    replace h:(some (.inr (.inr r1)):Option ((Int)⊕((Unit)⊕(Int))))=some _:=h
    exact (hE _ (oJ h):_=rv)
  ·obtain rfl:=(hE _ (oJ h):_=rv)
   exact gr 13 [] [nL Qay order,bT h0,hH (.draw 7 []),cE Qay h1,cC (Qd4 h2),nT h3]
 ·exact gn 5 [] [] [nL Qay order,bF h0] (hE _ (oJ h))
theorem Qok {x0 order} {rv:Int} (h:QhX x0 order=some rv):AFn Tryz.prog 40 [.agg (Qac.enc x0),.one (lL 1 order Qay)] [] (one (lI rv)) []:=by
 refine QaM Tryz.func40 (by kernel_rfl) (by kernel_rfl) (fun Γ=>?_)
 unfold QhX at h
 obtain ⟨e1,h9,h⟩:=Qae h
 refine gn 7 [1,2,5] [0] [] (Qrp Γ rv h9 ?_)
 rcases e1 with e1|e1
 ·replace h:(some 0:Option Int)=some _:=h
  obtain rfl:=Option.some.inj h
  exact gr 2 [] []
 ·obtain ⟨r2,rfl⟩:∃ x,x=e1:=⟨_,rfl⟩
  replace h:(some r2:Option Int)=some _:=h
  exact Option.some.inj h
theorem Qro {x0 order} {rv:Qau×Int} (h:QdF x0 order=some rv):AFn Tryz.prog 43 [.agg (Qac.enc x0),.one (lI order)] [] (.tup [.agg [lI rv.1.cost,lI rv.1.moved,lI rv.1.other,lI rv.1.work],.one (lI rv.2)]) []:=by
 refine QaM Tryz.func43 (by kernel_rfl) (by kernel_rfl) (fun Γ=>?_)
 unfold QdF at h
 rcases Qah h with ⟨h0,h⟩|⟨h0,h⟩
 ·obtain rfl:=Option.some.inj h
  exact gr 8 [] [rp 4 hP,rp 2 (oI ((ltI order 0)=false)),nL Qag.enc x0.orders,hP,hP,rp 2 (oI ((ltI order 0)=false)),oR True ((ltI order 0)=false),bT h0]
 ·obtain ⟨x1,h1,h⟩:=Qae h
  rcases Qah h with ⟨h2,h⟩|⟨h2,h⟩
  ·obtain rfl:=Option.some.inj h
   exact gr 15 [] [rp 4 hP,rp 2 (oI ((ltI order 0)=false)),nL Qag.enc x0.orders,hP,hP,rp 2 (oI ((ltI order 0)=false)),oR True ((ltI order 0)=false),bF h0,cE Qag.enc h1,bT h2]
  ·rcases Qah h with ⟨h3,h⟩|⟨h3,h⟩
   ·obtain rfl:=Option.some.inj h
    exact gr 20 [] [rp 4 hP,rp 2 (oI ((ltI order 0)=false)),nL Qag.enc x0.orders,hP,hP,rp 2 (oI ((ltI order 0)=false)),oR True ((ltI order 0)=false),bF h0,cE Qag.enc h1,bF h2,bT h3]
   ·rcases Qah h with ⟨h4,h⟩|⟨h4,h⟩
    ·obtain rfl:=Option.some.inj h
     exact gr 28 [] [rp 4 hP,rp 2 (oI ((ltI order 0)=false)),nL Qag.enc x0.orders,hP,hP,rp 2 (oI ((ltI order 0)=false)),oR True ((ltI order 0)=false),bF h0,cE Qag.enc h1,bF h2,bF h3,bT h4]
    ·obtain rfl:=Option.some.inj h
     exact gr 28 [] [rp 4 hP,rp 2 (oI ((ltI order 0)=false)),nL Qag.enc x0.orders,hP,hP,rp 2 (oI ((ltI order 0)=false)),oR True ((ltI order 0)=false),bF h0,cE Qag.enc h1,bF h2,bF h3,bF h4]
def Qgz (Γ:Gam) (rv:Qak) (cf:Cf):Prop:=Go Tryz.prog Tryz.f45 [] Γ (gG [lL 4 rv.routes Qad.enc,.nils]) [] cf
def QhW (Γ:Gam) (rv:Qak) (p:Qak) (c:Qai) (order:Int) (l:List Qad) (i:Int):Prop:=Qgz Γ rv ⟨[.c 116,.l 116,.b 0,.c 15],⟨76,[vI 2 order,vP 3 0 2,vP 4 1 7,vP 6 2 2,vP 7 3 2,vI 8 i],[oX 2 44 [lL 4 p.routes Qad.enc,.nils],oX 7 90 (Qai.enc c),oX 2 44 [.nils,.nils],oX 2 44 [lO 4 4 l Qad.enc,.nils],oS 4 34 l Qad.enc]⟩⟩
def Qhz (Γ:Gam) (rv:Qak) (p:Qak) (c:Qai) (order:Int) (l1:List Qad):Prop:=Qgz Γ rv ⟨[.c 15],⟨76,[vI 2 order,vP 3 0 2,vP 4 1 7,vP 6 2 2,vP 7 3 2],[oX 2 44 [lL 4 p.routes Qad.enc,.nils],oX 7 90 (Qai.enc c),oX 2 44 [.nils,.nils],oX 2 44 [lO 4 4 l1 Qad.enc,.nils],oS 4 34 l1 Qad.enc]⟩⟩
theorem QmQ (Γ:Gam) (rv:Qak) {p c order} {s:List Qad×Int} {e:List Qad} (h:QaT (fun s=>Qeg p c order s.1 s.2) s=some e) (hD:Qhz Γ rv p c order e):QhW Γ rv p c order s.1 s.2:=by
 refine QaC (C:=fun (s:List Qad×Int)=>QhW Γ rv p c order s.1 s.2) (D:=fun (e:List Qad)=>Qhz Γ rv p c order e) ?_ h hD
 clear h hD s e
 rintro ⟨l,i⟩ z_ h hI hE
 replace h:Qeg p c order l i=_:=h
 unfold Qeg at h
 rcases Qah h with ⟨h0,h⟩|⟨h0,h⟩
 ·rcases Qah h with ⟨h1,h⟩|⟨h1,h⟩
  ·obtain ⟨h2,h⟩:=Qav h
   exact gn 14 [2,3,4,6,7,8] [0,1,2,3,6] [nL Qad.enc p.routes,bT h0,bT h1,oO (Eq.refl ([c.route].map Qad.enc).length),aO Qad.enc h2] (hI _ (oJ h))
  ·obtain ⟨x0,h3,h⟩:=Qae h
   obtain ⟨h4,h⟩:=Qav h
   exact gn 14 [2,3,4,6,7,8] [0,1,2,3,6] [nL Qad.enc p.routes,bT h0,bF h1,hH (.draw 8 []),cE Qad.enc h3,oO (Eq.refl ([x0].map Qad.enc).length),aO Qad.enc h4] (hI _ (oJ h))
 ·exact gn 5 [2,3,4,6,7] [0,1,2,3,4] [nL Qad.enc p.routes,bF h0] (hE _ (oJ h))
theorem Qhy (Γ:Gam) (rv:Qak) {p c order l2} (h:QbA p c order l2=some rv):Qgz Γ rv ⟨[.c 31],⟨76,[vI 2 order,vP 3 0 2,vP 6 1 2,vP 7 2 2],[oX 2 44 [lL 4 p.routes Qad.enc,.nils],oX 2 44 [.nils,.nils],oX 2 44 [lO 3 4 l2 Qad.enc,.nils],oS 4 34 l2 Qad.enc]⟩⟩:=by
 unfold QbA at h
 rcases Qah h with ⟨h8,h⟩|⟨h8,h⟩
 ·cases h
 ·obtain rfl:=Option.some.inj h
  exact gr 12 [] [bF h8,hW 5,hH (.frz 3),rp 3 (eL l2 Qad.enc)]
theorem QoE {p c order} {rv:Qak} (h:QdV p c order=some rv):AFn Tryz.prog 45 [.agg [lL 4 p.routes Qad.enc,.nils],.agg (Qai.enc c),.one (lI order)] [] (gG [lL 4 rv.routes Qad.enc,.nils]) []:=by
 refine QaM Tryz.func45 (by kernel_rfl) (by kernel_rfl) (fun Γ=>?_)
 unfold QdV at h
 obtain ⟨e0,h5,h⟩:=Qae h
 refine gn 9 [2,3,4,6,7,8] [0,1,2,3,4] [hW 14,hH (.adoptB 3 0 4 34)] (QmQ Γ rv h5 ?_)
 obtain ⟨l1,rfl⟩:∃ x,x=e0:=⟨_,rfl⟩
 replace h:(br (eqI c.place (lenI p.routes)) (chk (okN (l1++[c.route]).length 64) (QbA p c order (l1++[c.route]))) (QbA p c order l1):Option Qak)=some _:=h
 rcases Qah h with ⟨h6,h⟩|⟨h6,h⟩
 ·obtain ⟨h7,h⟩:=Qav h
  exact gn 5 [2,3,6,7] [0,2,3,6] [nL Qad.enc p.routes,bT h6,oO (Eq.refl ([c.route].map Qad.enc).length),aO Qad.enc h7] (Qhy Γ rv h)
 ·exact gn 5 [2,3,6,7] [0,2,3,4] [nL Qad.enc p.routes,bF h6] (Qhy Γ rv h)
def Qf4 (Γ:Gam) (rv:Qak×Int) (cf:Cf):Prop:=Go Tryz.prog Tryz.f15 [] Γ (.tup [.agg [lL 4 rv.1.routes Qad.enc,lL 1 rv.1.unserved Qay],.one (lI rv.2)]) [] cf
def QhV (Γ:Gam) (rv:Qak×Int) (x0:Qac) (order:List Int) (routes:List Qad) (i:Int):Prop:=Qf4 Γ rv ⟨[.c 244,.l 244,.b 0,.c 31],⟨126,[vL 1 1 order Qay,vP 2 0 6,vP 4 1 2,vP 7 2 2,vI 8 i],[oX 6 30 (Qac.enc x0),oX 2 44 [.nils,.nils],oX 2 44 [lL 4 routes Qad.enc,.nils]]⟩⟩
def Qhi (Γ:Gam) (rv:Qak×Int) (x0:Qac) (order:List Int) (routes1:List Qad):Prop:=Qf4 Γ rv ⟨[.c 31],⟨126,[vP 2 0 6,vP 4 1 2,vP 7 2 2],[oX 6 30 (Qac.enc x0),oX 2 44 [.nils,.nils],oX 2 44 [lL 4 routes1 Qad.enc,.nils]]⟩⟩
def Qlz (Γ:Gam) (rv:Qak×Int) (x0:Qac) (routes1:List Qad) (l:List Int) (i1:Int):Prop:=Qf4 Γ rv ⟨[.c 500,.l 500,.b 2,.c 63],⟨126,[vP 2 0 6,vP 4 1 2,vP 7 2 2,vI 18 i1],[oX 6 30 (Qac.enc x0),oX 2 44 [.nils,.nils],oX 2 44 [lL 4 routes1 Qad.enc,lO 3 1 l Qay],oS 1 3 l Qay]⟩⟩
def Qkl (Γ:Gam) (rv:Qak×Int) (x0:Qac) (routes1:List Qad) (l1:List Int):Prop:=Qf4 Γ rv ⟨[.c 63],⟨126,[vP 4 0 2,vP 7 1 2],[oX 2 44 [.nils,.nils],oX 2 44 [lL 4 routes1 Qad.enc,lO 2 1 l1 Qay],oS 1 3 l1 Qay]⟩⟩
theorem Qkk (Γ:Gam) (rv:Qak×Int) {x0 order routes i r2 worth} {x:(List Qad×Int)⊕(List Qad)} (h:Qbk x0 order routes i r2 worth=some x) (hI:∀ s:List Qad×Int,x=.inl s→QhV Γ rv x0 order s.1 s.2) (hE:∀ e:List Qad,x=.inr e→Qhi Γ rv x0 order e):Qf4 Γ rv ⟨[.c 125247,.b 1,.c 979,.l 244,.b 0,.c 31],⟨126,[vL 1 1 order Qay,vP 2 0 6,vP 4 1 2,vP 7 2 2,vI 8 i,vP 12 3 7,vB 13 worth],[oX 6 30 (Qac.enc x0),oX 2 44 [.nils,.nils],oX 2 44 [lL 4 routes Qad.enc,.nils],oX 7 90 (Qai.enc r2)]⟩⟩:=by
 unfold Qbk at h
 rcases Qah h with ⟨h11,h⟩|⟨h11,h⟩
 ·obtain ⟨x3,h12,h⟩:=Qae h
  obtain ⟨r5,h13,h⟩:=Qae h
  exact gn 7 [1,2,4,7,8] [0,1,2] [bT h11,hH (.draw 7 []),cE Qay h12,cC (QoE h13)] (hI _ (oJ h))
 ·exact gn 7 [1,2,4,7,8] [0,1,2] [bF h11] (hI _ (oJ h))
theorem QqA (Γ:Gam) (rv:Qak×Int) {x0 order} {s:List Qad×Int} {e:List Qad} (h:QaT (fun s=>QbV x0 order s.1 s.2) s=some e) (hD:Qhi Γ rv x0 order e):QhV Γ rv x0 order s.1 s.2:=by
 refine QaC (C:=fun (s:List Qad×Int)=>QhV Γ rv x0 order s.1 s.2) (D:=fun (e:List Qad)=>Qhi Γ rv x0 order e) ?_ h hD
 clear h hD s e
 rintro ⟨routes,i⟩ z_ h hI hE
 replace h:QbV x0 order routes i=_:=h
 unfold QbV at h
 rcases Qah h with ⟨h2,h⟩|⟨h2,h⟩
 ·obtain ⟨x1,h3,h⟩:=Qae h
  obtain ⟨x2,h4,h⟩:=Qae h
  rcases Qah h with ⟨h5,h⟩|⟨h5,h⟩
  ·exact gn 16 [1,2,4,7,8] [0,1,2] [nL Qay order,bT h2,hH (.draw 9 []),cE Qay h3,cE Qag.enc h4,bT h5] (hI _ (oJ h))
  ·obtain ⟨r1,h6,h⟩:=Qae h
   obtain ⟨r2,h7,h⟩:=Qae h
   rcases Qah h with ⟨h8,h⟩|⟨h8,h⟩
   ·obtain ⟨r3,h9,h⟩:=Qae h
    obtain ⟨r4,h10,h⟩:=Qae h
    exact gn 29 [1,2,4,7,8,12,13] [0,1,2,4] [nL Qay order,bT h2,hH (.draw 9 []),cE Qay h3,cE Qag.enc h4,bF h5,cC (AFn.nilL 1 1 1 (Qnx h6)),hH (.draw 9 []),cE Qay h3,cC (AFn.nilL 1 1 1 (Qpm h7)),bT h8,hH (.draw 12 [(5,10)]),cE Qay h3,cC (Qro h9),cC (Qns h10),rp 5 hP,rp 3 (oI (r2.ok=true)),oR True (r2.ok=true)] (Qkk Γ rv h hI hE)
   ·exact gn 25 [1,2,4,7,8,12,13] [0,1,2,4] [nL Qay order,bT h2,hH (.draw 9 []),cE Qay h3,cE Qag.enc h4,bF h5,cC (AFn.nilL 1 1 1 (Qnx h6)),hH (.draw 9 []),cE Qay h3,cC (AFn.nilL 1 1 1 (Qpm h7)),bF h8] (Qkk Γ rv h hI hE)
 ·exact gn 5 [2,4,7] [0,1,2] [nL Qay order,bF h2] (hE _ (oJ h))
theorem QqB (Γ:Gam) (rv:Qak×Int) {x0 routes1} {s:List Int×Int} {e:(List Int)⊕(Qak×Int)} (h:QaT (fun s=>QbE x0 routes1 s.1 s.2) s=some e) (hD:sel e (fun e=>Qkl Γ rv x0 routes1 e) (fun e=>e=rv)):Qlz Γ rv x0 routes1 s.1 s.2:=by
 refine QaC (C:=fun (s:List Int×Int)=>Qlz Γ rv x0 routes1 s.1 s.2) (D:=fun (e:(List Int)⊕(Qak×Int))=>sel e (fun e=>Qkl Γ rv x0 routes1 e) (fun e=>e=rv)) ?_ h hD
 clear h hD s e
 rintro ⟨l,i1⟩ z_ h hI hE
 replace h:QbE x0 routes1 l i1=_:=h
 unfold QbE at h
 rcases Qah h with ⟨h15,h⟩|⟨h15,h⟩
 ·obtain ⟨x4,h16,h⟩:=Qae h
  rcases Qah h with ⟨h17,h⟩|⟨h17,h⟩
  ·exact gn 14 [2,4,7,18] [0,1,2,3] [nL Qag.enc x0.orders,bT h15,cE Qag.enc h16,rp 5 (nF h17),fF] (hI _ (oJ h))
  ·obtain ⟨r6,h18,h⟩:=Qae h
   rcases Qah h with ⟨h19,h⟩|⟨h19,h⟩
   ·exact gn 14 [2,4,7,18] [0,1,2,3] [nL Qag.enc x0.orders,bT h15,cE Qag.enc h16,rp 3 (nT h17),eL l Qay,cC (QiU h18),rp 2 (nT h17),nF h19] (hI _ (oJ h))
   ·obtain ⟨h20,h⟩:=Qav h
    rcases Qah h with ⟨h21,h⟩|⟨h21,h⟩
    ·obtain rfl:=(hE _ (oJ h):_=rv)
     exact gr 17 [] [nL Qag.enc x0.orders,bT h15,cE Qag.enc h16,rp 3 (nT h17),eL l Qay,cC (QiU h18),rp 2 (nT h17),nT h19,oO (Eq.refl ([i1].map Qay).length),aO Qay h20,cE Qag.enc h16,bT h21,hW 5,hH (.nilB 1 0 4),hH (.nilB 1 1 1)]
    ·exact gn 19 [2,4,7,18] [0,1,2,5] [nL Qag.enc x0.orders,bT h15,cE Qag.enc h16,rp 3 (nT h17),eL l Qay,cC (QiU h18),rp 2 (nT h17),nT h19,oO (Eq.refl ([i1].map Qay).length),aO Qay h20,cE Qag.enc h16,bF h21] (hI _ (oJ h))
 ·exact gn 5 [4,7] [1,2,3] [nL Qag.enc x0.orders,bF h15] (hE _ (oJ h))
theorem QiS {x0 order} {rv:Qak×Int} (h:Qg3 x0 order=some rv):AFn Tryz.prog 15 [.agg (Qac.enc x0),.one (lL 1 order Qay)] [] (.tup [.agg [lL 4 rv.1.routes Qad.enc,lL 1 rv.1.unserved Qay],.one (lI rv.2)]) []:=by
 refine QaM Tryz.func15 (by kernel_rfl) (by kernel_rfl) (fun Γ=>?_)
 unfold Qg3 at h
 obtain ⟨r,h0,h⟩:=Qae h
 rcases Qah h with ⟨h1,h⟩|⟨h1,h⟩
 ·obtain rfl:=Option.some.inj h
  exact gr 10 [] [cC (Qok h0),bT h1,hW 6,hH (.nilB 1 0 4),hH (.nilB 1 1 1)]
 ·obtain ⟨e0,h14,h⟩:=Qae h
  refine gn 16 [1,2,4,7,8] [0,1,2] [cC (Qok h0),bF h1,hW 10,hH (.nilB 2 0 4)] (QqA Γ rv h14 ?_)
  obtain ⟨routes1,rfl⟩:∃ x,x=e0:=⟨_,rfl⟩
  replace h:(bnd (QaT (fun s=>QbE x0 routes1 s.1 s.2) ([],0)) (fun e=>sel e (fun l1=>some ((Qak.mk routes1 l1),0)) (fun r7=>some r7)):Option (Qak×Int))=some _:=h
  obtain ⟨e1,h22,h⟩:=Qae h
  refine gn 5 [2,4,7,18] [0,1,2,3] [hW 6,hH (.adoptB 2 1 1 3)] (QqB Γ rv h22 ?_)
  rcases e1 with e1|e1
  ·obtain ⟨l1,rfl⟩:∃ x,x=e1:=⟨_,rfl⟩
   replace h:(some ((Qak.mk routes1 l1),0):Option (Qak×Int))=some _:=h
   obtain rfl:=Option.some.inj h
   exact gr 2 [] [hW 5,hH (.frz 2),rp 3 (eL l1 Qay)]
  ·obtain ⟨r7,rfl⟩:∃ x,x=e1:=⟨_,rfl⟩
   replace h:(some r7:Option (Qak×Int))=some _:=h
   exact Option.some.inj h
theorem QoA {x0 l} {rv:Bool} (h:Qfv x0 l=some rv):AFn Tryz.prog 4 [.agg (Qac.enc x0),.one (lL 1 l Qay)] [] (one (.bool rv)) []:=by
 refine QaM Tryz.func4 (by kernel_rfl) (by kernel_rfl) (fun Γ=>?_)
 unfold Qfv at h
 obtain ⟨r,h0,h⟩:=Qae h
 rcases Qah h with ⟨h1,h⟩|⟨h1,h⟩
 ·obtain ⟨r1,h2,h⟩:=Qae h
  obtain rfl:=Option.some.inj h
  exact gr 8 [] [cC (Qhn h0),hP,hP,hP,rp 2 (oI ((!r)=false)),nL Qag.enc x0.orders,hP,hP,oI ((!r)=false),oR True ((!r)=false),bT h1,cC (QkG h2)]
 ·obtain ⟨r2,h3,h⟩:=Qae h
  obtain ⟨r3,h4,h⟩:=Qae h
  rcases Qah h with ⟨h5,h⟩|⟨h5,h⟩
  ·obtain ⟨r4,h6,h⟩:=Qae h
   rcases Qah h with ⟨h7,h⟩|⟨h7,h⟩
   ·obtain ⟨r5,h8,h⟩:=Qae h
    obtain rfl:=Option.some.inj h
    exact gr 13 [] [cC (Qhn h0),hP,hP,hP,rp 2 (oI ((!r)=false)),nL Qag.enc x0.orders,hP,hP,oI ((!r)=false),oR True ((!r)=false),bF h1,cC (Qem h3),cC (QiS h4),rp 3 (bT h5),cC (Qpk h6),bT h5,bT h7,cC (QkG h8),bT h7]
   ·obtain rfl:=Option.some.inj h
    exact gr 13 [] [cC (Qhn h0),hP,hP,hP,rp 2 (oI ((!r)=false)),nL Qag.enc x0.orders,hP,hP,oI ((!r)=false),oR True ((!r)=false),bF h1,cC (Qem h3),cC (QiS h4),rp 3 (bT h5),cC (Qpk h6),bT h5,bF h7,bF h7]
  ·obtain rfl:=Option.some.inj h
   exact gr 13 [] [cC (Qhn h0),hP,hP,hP,rp 2 (oI ((!r)=false)),nL Qag.enc x0.orders,hP,hP,oI ((!r)=false),oR True ((!r)=false),bF h1,cC (Qem h3),cC (QiS h4),rp 4 (bF h5),fF,fF]
end Go.Proofs.YtpkkaboonnedfaaGreatDoor
