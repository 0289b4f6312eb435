/- Part MW of the proof: texts Y2. -/
import Derived.Test.YtpkkaboonnedfaaGreatDoorMV
import Derived.Test.YtpkkaboonnedfaaGreatDoorProg
namespace Go.Proofs.YtpkkaboonnedfaaGreatDoor
set_option linter.unusedVariables false
set_option linter.unusedSectionVars false
set_option linter.unusedSimpArgs false
set_option maxHeartbeats 4000000
set_option maxRecDepth 100000
def Qm6 (Γ:Gam) (rv:Int) (cf:Cf):Prop:=Go Tryz.prog Tryz.f201 [] Γ (one (lI rv)) [] cf
def QjV (Γ:Gam) (rv:Int) (l:List Qam) (t:Int) (i:Int):Prop:=Qm6 Γ rv ⟨[.c 116,.l 116,.b 0,.c 15],⟨93,[vL 0 2 l Qam.enc,vI 1 t,vI 5 i],[]⟩⟩
def Qjh (Γ:Gam) (rv:Int) (l:List Qam) (t:Int):Prop:=Qm6 Γ rv ⟨[.c 15],⟨93,[vL 0 2 l Qam.enc,vI 1 t],[]⟩⟩
theorem Qpb (Γ:Gam) (rv:Int) {l t} {s:Int} {e:(Unit)⊕(Int)} (h:loopF (fun s=>QdC l t s) s=some e) (hD:sel e (fun e=>Qjh Γ rv l t) (fun e=>e=rv)):QjV Γ rv l t s:=by
 refine QaF (C:=fun (s:Int)=>QjV Γ rv l t s) (D:=fun (e:(Unit)⊕(Int))=>sel e (fun e=>Qjh Γ rv l t) (fun e=>e=rv)) ?_ h hD
 clear h hD s e
 intro i z_ h hI hE
 replace h:QdC l t i=_:=h
 unfold QdC at h
 rcases Qah h with ⟨h2,h⟩|⟨h2,h⟩
 ·obtain ⟨x0,h3,h⟩:=Qae h
  obtain ⟨x1,h4,h⟩:=Qae h
  rcases Qah h with ⟨h5,h⟩|⟨h5,h⟩
  ·obtain ⟨h6,h⟩:=Qat h
   obtain rfl:=(hE _ (oJ h):_=rv)
   exact gr 16 [] [nL Qam.enc l,bT h2,cE Qam.enc h3,cE Qam.enc h4,rp 5 hP,rp 3 (oI ((leI x0.t t)=true)),oR True ((leI x0.t t)=true),bT h5,hH (.draw 27 []),oO (h6)]
  ·exact gn 18 [0,1,5] [] [nL Qam.enc l,bT h2,cE Qam.enc h3,cE Qam.enc h4,rp 5 hP,rp 3 (oI ((leI x0.t t)=true)),oR True ((leI x0.t t)=true),bF h5] (hI _ (oJ h))
 ·exact gn 5 [0,1] [] [nL Qam.enc l,bF h2] (hE _ (oJ h))
theorem Qrr {l t} {rv:Int} (h:Qgs l t=some rv):AFn Tryz.prog 201 [.one (lL 2 l Qam.enc),.one (lI t)] [] (one (lI rv)) []:=by
 refine QaK Tryz.func201 (by kernel_rfl) (by kernel_rfl) (fun Γ=>?_)
 unfold Qgs at h
 obtain ⟨r,h0,h⟩:=Qae h
 rcases Qah h with ⟨h1,h⟩|⟨h1,h⟩
 ·obtain rfl:=Option.some.inj h
  exact gr 8 [] [cC (QiO h0),nL Qab.enc r,rp 6 hP,oI ((gtI (lenI r) 0)=false),oR True ((gtI (lenI r) 0)=false),oI (((gtI (lenI r) 0)||(ltI t 0))=false),oR True (((gtI (lenI r) 0)||(ltI t 0))=false),bT h1]
 ·obtain ⟨e0,h7,h⟩:=Qae h
  refine gn 12 [0,1,5] [] [cC (QiO h0),nL Qab.enc r,rp 6 hP,oI ((gtI (lenI r) 0)=false),oR True ((gtI (lenI r) 0)=false),oI (((gtI (lenI r) 0)||(ltI t 0))=false),oR True (((gtI (lenI r) 0)||(ltI t 0))=false),bF h1] (Qpb Γ rv h7 ?_)
  rcases e0 with e0|e0
  ·replace h:(bnd (getI l 0) fun x2=>br (gtI t x2.t) (bnd (getI l (subK .i64 (lenI l) 1)) fun x3=>some (subK .i64 (addK .i64 t x3.a) x3.t)) (some (subK .i64 (addK .i64 t x2.a) x2.t)):Option Int)=some _:=h
   obtain ⟨x2,h8,h⟩:=Qae h
   rcases Qah h with ⟨h9,h⟩|⟨h9,h⟩
   ·obtain ⟨x3,h10,h⟩:=Qae h
    obtain rfl:=Option.some.inj h
    exact gr 9 [] [cE Qam.enc h8,bT h9,nL Qam.enc l,cE Qam.enc h10]
   ·obtain rfl:=Option.some.inj h
    exact gr 9 [] [cE Qam.enc h8,bF h9]
  ·obtain ⟨r1,rfl⟩:∃ x,x=e0:=⟨_,rfl⟩
   replace h:(some r1:Option Int)=some _:=h
   exact Option.some.inj h
def Qm7 (Γ:Gam) (rv:Int) (cf:Cf):Prop:=Go Tryz.prog Tryz.f199 [] Γ (one (lI rv)) [] cf
def QjY (Γ:Gam) (rv:Int) (a:Qaq) (t:Int) (n:Int) (i:Int):Prop:=Qm7 Γ rv ⟨[.c 116,.l 116,.b 0,.c 15],⟨35,[vI 1 t,vP 2 0 6,vI 5 n,vI 6 i],[oX 6 122 (Qaq.enc a)]⟩⟩
def Qji (Γ:Gam) (rv:Int) (a:Qaq) (t:Int) (n1:Int):Prop:=Qm7 Γ rv ⟨[.c 15],⟨35,[vI 5 n1],[]⟩⟩
theorem Qpc (Γ:Gam) (rv:Int) {a t} {s:Int×Int} {e:Int} (h:loopF (fun s=>Qgc a t s.1 s.2) s=some e) (hD:Qji Γ rv a t e):QjY Γ rv a t s.1 s.2:=by
 refine QaF (C:=fun (s:Int×Int)=>QjY Γ rv a t s.1 s.2) (D:=fun (e:Int)=>Qji Γ rv a t e) ?_ h hD
 clear h hD s e
 rintro ⟨n,i⟩ z_ h hI hE
 replace h:Qgc a t n i=_:=h
 unfold Qgc at h
 rcases Qah h with ⟨h1,h⟩|⟨h1,h⟩
 ·obtain ⟨x0,h2,h⟩:=Qae h
  rcases Qah h with ⟨h3,h⟩|⟨h3,h⟩
  ·exact gn 14 [1,2,5,6] [0] [nL Qam.enc a.slow,bT h1,cE Qam.enc h2,bT h3,cE Qam.enc h2] (hI _ (oJ h))
  ·exact gn 14 [1,2,5,6] [0] [nL Qam.enc a.slow,bT h1,cE Qam.enc h2,bF h3] (hI _ (oJ h))
 ·exact gn 5 [5] [] [nL Qam.enc a.slow,bF h1] (hE _ (oJ h))
theorem Qrs {a t} {rv:Int} (h:Qgt a t=some rv):AFn Tryz.prog 199 [.agg (Qaq.enc a),.one (lI t)] [] (one (lI rv)) []:=by
 refine QaK Tryz.func199 (by kernel_rfl) (by kernel_rfl) (fun Γ=>?_)
 unfold Qgt at h
 obtain ⟨r,h0,h⟩:=Qae h
 obtain ⟨e0,h4,h⟩:=Qae h
 refine gn 9 [1,2,5,6] [0] [cC (Qrr h0)] (Qpc Γ rv h4 ?_)
 obtain ⟨n1,rfl⟩:∃ x,x=e0:=⟨_,rfl⟩
 replace h:(some n1:Option Int)=some _:=h
 obtain rfl:=Option.some.inj h
 exact gr 2 [] []
theorem QtI {n profile from_ to_ t} {rv:Int×Int×Int} (h:Qin n profile from_ to_ t=some rv):AFn Tryz.prog 193 [.agg (Qak.enc n),.one (lI profile),.one (lI from_),.one (lI to_),.one (lI t)] [] (.tup [.one (lI rv.1),.one (lI rv.2.1),.one (lI rv.2.2)]) []:=by
 refine QaK Tryz.func193 (by kernel_rfl) (by kernel_rfl) (fun Γ=>?_)
 unfold Qin at h
 obtain ⟨r,h0,h⟩:=Qae h
 rcases Qah h with ⟨h1,h⟩|⟨h1,h⟩
 ·obtain ⟨r1,h2,h⟩:=Qae h
  rcases Qah h with ⟨h3,h⟩|⟨h3,h⟩
  ·rcases Qah h with ⟨h4,h⟩|⟨h4,h⟩
   ·obtain rfl:=Option.some.inj h
    exact gr 13 [] [cC (Qci h0),rp 3 (nF h1),cC (Qci h2),nF h1,nF h1,nF h3,bT h4]
   ·obtain ⟨r2,h5,h⟩:=Qae h
    rcases Qah h with ⟨h6,h⟩|⟨h6,h⟩
    ·obtain ⟨r3,h7,h⟩:=Qae h
     obtain rfl:=Option.some.inj h
     exact gr 21 [] [cC (Qci h0),rp 3 (nF h1),cC (Qci h2),nF h1,nF h1,nF h3,bF h4,cC (QnS h5),nF h6,hH (.draw 8 []),cC (Qrs h7)]
    ·obtain rfl:=Option.some.inj h
     exact gr 20 [] [cC (Qci h0),rp 3 (nF h1),cC (Qci h2),nF h1,nF h1,nF h3,bF h4,cC (QnS h5),nT h6]
  ·obtain rfl:=Option.some.inj h
   exact gr 8 [] [cC (Qci h0),rp 3 (nF h1),cC (Qci h2),nF h1,nF h1,nT h3]
 ·obtain rfl:=Option.some.inj h
  exact gr 8 [] [cC (Qci h0),rp 5 (nT h1),tT]
theorem Qh4 {x0 profile from_ to_ t} {rv:Int×Int×Bool} (h:QlV x0 profile from_ to_ t=some rv):AFn Tryz.prog 189 [.agg (Qac.enc x0),.one (lI profile),.one (lI from_),.one (lI to_),.one (lI t)] [] (.tup [.one (lI rv.1),.one (lI rv.2.1),.one (.bool rv.2.2)]) []:=by
 refine QaK Tryz.func189 (by kernel_rfl) (by kernel_rfl) (fun Γ=>?_)
 unfold QlV at h
 obtain ⟨r,h0,h⟩:=Qae h
 obtain rfl:=Option.some.inj h
 exact gr 6 [] [cC (QtI h0)]
theorem Qhy {x0 t s0 to_ close late} {rv:Qax×Int} (h:Qdj x0 t s0 to_ close late=some rv):AFn Tryz.prog 185 [.agg (Qac.enc x0),.agg (Qai.enc t),.agg (Qax.enc s0),.one (lI to_),.one (lI close),.one (lI late)] [] (.tup [.agg [lI rv.1.place,lI rv.1.time,lI rv.1.driven,lI rv.1.miles],.one (lI rv.2)]) []:=by
 refine QaK Tryz.func185 (by kernel_rfl) (by kernel_rfl) (fun Γ=>?_)
 unfold Qdj at h
 obtain ⟨r,h0,h⟩:=Qae h
 rcases Qah h with ⟨h1,h⟩|⟨h1,h⟩
 ·rcases Qah h with ⟨h2,h⟩|⟨h2,h⟩
  ·obtain rfl:=Option.some.inj h
   exact gr 15 [] [cC (Qh4 h0),nF h1,bT h2]
  ·rcases Qah h with ⟨h3,h⟩|⟨h3,h⟩
   ·obtain rfl:=Option.some.inj h
    exact gr 22 [] [cC (Qh4 h0),nF h1,bF h2,bT h3]
   ·obtain rfl:=Option.some.inj h
    exact gr 23 [] [cC (Qh4 h0),nF h1,bF h2,bF h3]
 ·obtain rfl:=Option.some.inj h
  exact gr 10 [] [cC (Qh4 h0),nT h1]
def Qp6 (Γ:Gam) (rv:Qan×List Int×Int) (cf:Cf):Prop:=Go Tryz.prog Tryz.f177 [] Γ (.tup [.agg [.bool rv.1.rest_,lI rv.1.depart,lL 4 rv.1.times Qap.enc,lI rv.1.end_,lI rv.1.miles],.one (lL 1 rv.2.1 e_i64),.one (lI rv.2.2)]) [] cf
def Qnd (Γ:Gam) (rv:Qan×List Int×Int) (x0:Qac) (r:Qad) (rests:List Bool) (x1:Qai) (x2:Bool) (l:List Int) (l1:List Qap) (x3:Qax) (depart:Int) (i:Int):Prop:=Qp6 Γ rv ⟨[.c 2036,.l 2036,.b 0,.c 255],⟨161,[vL 2 1 rests Qa5,vP 3 0 6,vP 4 1 4,vP 6 2 5,vP 9 3 14,vP 10 4 4,vP 11 5 5,vO 12 6 1 l e_i64,vI 13 i],[oX 6 30 (Qac.enc x0),oX 4 34 (Qad.enc r),oX 5 101 [.bool false,lI 0,.nils,lI 0,lI 0],oX 14 124 (Qai.enc x1),oX 4 233 (Qax.enc x3),oX 5 101 [.bool x2,lI depart,lO 7 4 l1 Qap.enc,lI 0,lI 0],oS 1 3 l e_i64,oS 4 213 l1 Qap.enc]⟩⟩
def Qmt (Γ:Gam) (rv:Qan×List Int×Int) (x0:Qac) (r:Qad) (rests:List Bool) (x1:Qai) (x2:Bool) (l2:List Int) (l3:List Qap) (x6:Qax) (depart1:Int):Prop:=Qp6 Γ rv ⟨[.c 255],⟨161,[vP 3 0 6,vP 6 1 5,vP 9 2 14,vP 10 3 4,vP 11 4 5,vO 12 5 1 l2 e_i64],[oX 6 30 (Qac.enc x0),oX 5 101 [.bool false,lI 0,.nils,lI 0,lI 0],oX 14 124 (Qai.enc x1),oX 4 233 (Qax.enc x6),oX 5 101 [.bool x2,lI depart1,lO 6 4 l3 Qap.enc,lI 0,lI 0],oS 1 3 l2 e_i64,oS 4 213 l3 Qap.enc]⟩⟩
theorem Qrv (Γ:Gam) (rv:Qan×List Int×Int) {x0 r rests x1 x2} {s:List Int×List Qap×Qax×Int×Int} {e:(List Int×List Qap×Qax×Int)⊕(Qan×List Int×Int)} (h:loopF (fun s=>Qfa x0 r rests x1 x2 s.1 s.2.1 s.2.2.1 s.2.2.2.1 s.2.2.2.2) s=some e) (hD:sel e (fun e=>Qmt Γ rv x0 r rests x1 x2 e.1 e.2.1 e.2.2.1 e.2.2.2) (fun e=>e=rv)):Qnd Γ rv x0 r rests x1 x2 s.1 s.2.1 s.2.2.1 s.2.2.2.1 s.2.2.2.2:=by
 refine QaF (C:=fun (s:List Int×List Qap×Qax×Int×Int)=>Qnd Γ rv x0 r rests x1 x2 s.1 s.2.1 s.2.2.1 s.2.2.2.1 s.2.2.2.2) (D:=fun (e:(List Int×List Qap×Qax×Int)⊕(Qan×List Int×Int))=>sel e (fun e=>Qmt Γ rv x0 r rests x1 x2 e.1 e.2.1 e.2.2.1 e.2.2.2) (fun e=>e=rv)) ?_ h hD
 clear h hD s e
 rintro ⟨l,l1,x3,depart,i⟩ z_ h hI hE
 replace h:Qfa x0 r rests x1 x2 l l1 x3 depart i=_:=h
 unfold Qfa at h
 rcases Qah h with ⟨h5,h⟩|⟨h5,h⟩
 ·obtain ⟨x4,h6,h⟩:=Qae h
  obtain ⟨r3,h7,h⟩:=Qae h
  obtain ⟨r4,h8,h⟩:=Qae h
  rcases Qah h with ⟨h9,h⟩|⟨h9,h⟩
  ·obtain rfl:=(hE _ (oJ h):_=rv)
   exact gr 17 [] [nL Qaa.enc r.visits,bT h5,hH (.draw 13 [(8,11)]),cE Qaa.enc h6,cC (Qhz h7),cC (Qhy h8),bT h9,hW 7,hH (.nilB 2 2 4),hH (.nilS 7 0 1)]
  ·obtain ⟨h10,h⟩:=Qat h
   obtain ⟨x5,h11,h⟩:=Qae h
   obtain ⟨r5,h12,h⟩:=Qae h
   obtain ⟨h13,h⟩:=Qat h
   exact gn 30 [2,3,4,6,9,10,11,12,13] [0,1,2,3,4,5,11,14] [nL Qaa.enc r.visits,bT h5,hH (.draw 13 [(8,11)]),cE Qaa.enc h6,cC (Qhz h7),cC (Qhy h8),bF h9,oO (Eq.refl ([r4.1.driven].map e_i64).length),aO e_i64 h10,hH (.draw 14 []),cE Qa5 h11,hH (.draw 8 []),cE Qa5 h11,cC (Qn7 h12),oO (Eq.refl ([(Qap.mk r4.1.time (maxI r4.1.time r3.1.open_) r5.time x5)].map Qap.enc).length),aO Qap.enc h13] (hI _ (oJ h))
 ·exact gn 5 [3,6,9,10,11,12] [0,2,3,4,5,6,7] [nL Qaa.enc r.visits,bF h5] (hE _ (oJ h))
theorem Qs8 {x0 r rests} {rv:Qan×List Int×Int} (h:Qhx x0 r rests=some rv):AFn Tryz.prog 177 [.agg (Qac.enc x0),.agg (Qad.enc r),.one (lL 1 rests Qa5)] [] (.tup [.agg [.bool rv.1.rest_,lI rv.1.depart,lL 4 rv.1.times Qap.enc,lI rv.1.end_,lI rv.1.miles],.one (lL 1 rv.2.1 e_i64),.one (lI rv.2.2)]) []:=by
 refine QaK Tryz.func177 (by kernel_rfl) (by kernel_rfl) (fun Γ=>?_)
 unfold Qhx at h
 obtain ⟨r1,h0,h⟩:=Qae h
 rcases Qah h with ⟨h1,h⟩|⟨h1,h⟩
 ·obtain rfl:=Option.some.inj h
  exact gr 8 [] [cC (Qfs h0),hP,hP,oI ((!r1)=false),nL Qa5 rests,hP,hP,hP,rp 2 (oI ((!r1)=false)),nL Qaa.enc r.visits,hP,hP,hP,rp 3 (oI ((!r1)=false)),oR True ((!r1)=false),bT h1,hW 6,hH (.nilB 2 2 4),hH (.nilS 7 0 1)]
 ·obtain ⟨x1,h2,h⟩:=Qae h
  obtain ⟨x2,h3,h⟩:=Qae h
  obtain ⟨r2,h4,h⟩:=Qae h
  obtain ⟨e0,h14,h⟩:=Qae h
  refine gn 20 [2,3,4,6,9,10,11,12,13] [0,1,2,3,4,5,6,7] [cC (Qfs h0),hP,hP,oI ((!r1)=false),nL Qa5 rests,hP,hP,hP,rp 2 (oI ((!r1)=false)),nL Qaa.enc r.visits,hP,hP,hP,rp 3 (oI ((!r1)=false)),oR True ((!r1)=false),bF h1,cE Qai.enc h2,hH (.draw 14 []),cE Qa5 h3,cC (Qn7 h4),hH (.draw 7 []),cE Qa5 h3,hW 10,hH (.adopt 12 1 3),hH (.adoptB 5 2 4 213)] (Qrv Γ rv h14 ?_)
  rcases e0 with e0|e0
  ·obtain ⟨l2,l3,x6,depart1⟩:=e0
   replace h:(bnd (Qdj x0 x1 x6 x1.to_ x1.close 15) fun r6=>br (neI r6.2 0) (some ((Qan.mk false 0 [] 0 0),[],r6.2)) (chk (okN (l2++[r6.1.driven]).length 8) (some ((Qan.mk x2 depart1 l3 r6.1.time r6.1.miles),(l2++[r6.1.driven]),0))):Option (Qan×List Int×Int))=some _:=h
   obtain ⟨r6,h15,h⟩:=Qae h
   rcases Qah h with ⟨h16,h⟩|⟨h16,h⟩
   ·obtain rfl:=Option.some.inj h
    exact gr 8 [] [cC (Qhy h15),bT h16,hW 7,hH (.nilB 1 2 4),hH (.nilS 7 0 1)]
   ·obtain ⟨h17,h⟩:=Qat h
    obtain rfl:=Option.some.inj h
    exact gr 15 [] [cC (Qhy h15),bF h16,oO (Eq.refl ([r6.1.driven].map e_i64).length),aO e_i64 h17,hW 20,hH (.frz 6),hH (.frz 9),rp 3 (eL l3 Qap.enc),rp 4 (oO (Eq.refl ((l2++[r6.1.driven]).map e_i64).length))]
  ·obtain ⟨r7,rfl⟩:∃ x,x=e0:=⟨_,rfl⟩
   replace h:(some r7:Option (Qan×List Int×Int))=some _:=h
   exact Option.some.inj h
theorem QkY {x0 r rests} {rv:Qan×Int} (h:Qer x0 r rests=some rv):AFn Tryz.prog 159 [.agg (Qac.enc x0),.agg (Qad.enc r),.one (lL 1 rests Qa5)] [] (.tup [.agg [.bool rv.1.rest_,lI rv.1.depart,lL 4 rv.1.times Qap.enc,lI rv.1.end_,lI rv.1.miles],.one (lI rv.2)]) []:=by
 refine QaK Tryz.func159 (by kernel_rfl) (by kernel_rfl) (fun Γ=>?_)
 unfold Qer at h
 obtain ⟨r1,h0,h⟩:=Qae h
 obtain rfl:=Option.some.inj h
 exact gr 6 [] [cC (Qs8 h0)]
def QoW (Γ:Gam) (rv:List Bool×Bool) (cf:Cf):Prop:=Go Tryz.prog Tryz.f160 [] Γ (.tup [.one (lL 1 rv.1 Qa5),.one (.bool rv.2)]) [] cf
def Qms (Γ:Gam) (rv:List Bool×Bool) (n:Int) (l:List Bool) (i:Int):Prop:=QoW Γ rv ⟨[.c 244,.l 244,.b 0,.c 31],⟨31,[vI 1 n,vO 6 0 1 l Qa5,vI 7 i],[oS 1 4 l Qa5]⟩⟩
def QlF (Γ:Gam) (rv:List Bool×Bool) (n:Int):Prop:=QoW Γ rv ⟨[.c 31],⟨31,[],[]⟩⟩
theorem QqQ (Γ:Gam) (rv:List Bool×Bool) {n} {s:List Bool×Int} {e:(Unit)⊕(List Bool×Bool)} (h:loopF (fun s=>QeM n s.1 s.2) s=some e) (hD:sel e (fun e=>QlF Γ rv n) (fun e=>e=rv)):Qms Γ rv n s.1 s.2:=by
 refine QaF (C:=fun (s:List Bool×Int)=>Qms Γ rv n s.1 s.2) (D:=fun (e:(Unit)⊕(List Bool×Bool))=>sel e (fun e=>QlF Γ rv n) (fun e=>e=rv)) ?_ h hD
 clear h hD s e
 rintro ⟨l,i⟩ z_ h hI hE
 replace h:QeM n l i=_:=h
 unfold QeM at h
 rcases Qah h with ⟨h1,h⟩|⟨h1,h⟩
 ·obtain ⟨x0,h2,h⟩:=Qae h
  rcases Qah h with ⟨h3,h⟩|⟨h3,h⟩
  ·exact gn 16 [1,6,7] [0] [bT h1,oO (getLo h2),oO (getHi Qa5 h2),rE Qa5 h2,nF h3,oO (getLo h2),oO (getHi Qa5 h2),rE Qa5 h2,hH (.rows ((setI l i false).map Qa5)),hH (.relen 0 ((setI l i false).map Qa5).length),oO (setM Qa5 l i false),rp 3 (oO (Qvw Qa5 l i false))] (hI _ (oJ h))
  ·obtain rfl:=(hE _ (oJ h):_=rv)
   exact gr 15 [] [bT h1,oO (getLo h2),oO (getHi Qa5 h2),rE Qa5 h2,nT h3,oO (getLo h2),oO (getHi Qa5 h2),rE Qa5 h2,hH (.rows ((setI l i true).map Qa5)),hH (.relen 0 ((setI l i true).map Qa5).length),hW 5,hH (.frz 0),oO (setM Qa5 l i true),rp 3 (oO (Qvw Qa5 l i true)),rp 5 (oO (Eq.refl ((setI l i true).map Qa5).length))]
 ·exact gn 5 [] [] [bF h1] (hE _ (oJ h))
theorem Qn6 {rests n} {rv:List Bool×Bool} (h:QfD rests n=some rv):AFn Tryz.prog 160 [.one (lL 1 rests Qa5),.one (lI n)] [] (.tup [.one (lL 1 rv.1 Qa5),.one (.bool rv.2)]) []:=by
 refine QaK Tryz.func160 (by kernel_rfl) (by kernel_rfl) (fun Γ=>?_)
 unfold QfD at h
 obtain ⟨h0,h⟩:=Qat h
 obtain ⟨e0,h4,h⟩:=Qae h
 refine gn 11 [1,6,7] [0] [aN Qa5 h0,nL Qa5 rests] (QqQ Γ rv h4 ?_)
 rcases e0 with e0|e0
 ·replace h:(some ([],false):Option (List Bool×Bool))=some _:=h
  obtain rfl:=Option.some.inj h
  exact gr 2 [] [hW 4,hH (.nilS 4 0 1)]
 ·obtain ⟨r,rfl⟩:∃ x,x=e0:=⟨_,rfl⟩
  replace h:(some r:Option (List Bool×Bool))=some _:=h
  exact Option.some.inj h
def QkX (Γ:Gam) (rv:Qan×Int) (cf:Cf):Prop:=Go Tryz.prog Tryz.f132 [] Γ (.tup [.agg [.bool rv.1.rest_,lI rv.1.depart,lL 4 rv.1.times Qap.enc,lI rv.1.end_,lI rv.1.miles],.one (lI rv.2)]) [] cf
def Qie (Γ:Gam) (rv:Qan×Int) (x0:Qac) (r:Qad) (l:List Bool) (r2:Qan×Int) (rests:List Bool) (x1:Qan) (rests1:List Bool) (found:Bool) (more:Bool):Prop:=QkX Γ rv ⟨[.c 4088,.l 4088,.b 0,.c 1023],⟨88,[vP 2 0 6,vP 3 1 4,vP 4 2 5,vL 7 1 rests1 Qa5,vP 8 3 5,vI 9 r2.2,vB 10 found,vB 11 more],[oX 6 30 (Qac.enc x0),oX 4 34 [lI r.type_,lI r.start,lL 1 rests Qa5,lL 2 r.visits Qaa.enc],oX 5 101 [.bool false,lI 0,.nils,lI 0,lI 0],oX 5 101 (Qan.enc x1)]⟩⟩
def QhK (Γ:Gam) (rv:Qan×Int) (x0:Qac) (r:Qad) (l:List Bool) (r2:Qan×Int) (x3:Qan) (found2:Bool):Prop:=QkX Γ rv ⟨[.c 1023],⟨88,[vP 4 0 5,vP 8 1 5,vI 9 r2.2,vB 10 found2],[oX 5 101 [.bool false,lI 0,.nils,lI 0,lI 0],oX 5 101 (Qan.enc x3)]⟩⟩
theorem QlD (Γ:Gam) (rv:Qan×Int) {x0 r l r2 rests rests1 x2 found1} {x:(List Bool×Qan×List Bool×Bool×Bool)⊕(Qan×Bool)} (h:Qf1 x0 r l r2 rests rests1 x2 found1=some x) (hI:∀ s:List Bool×Qan×List Bool×Bool×Bool,x=.inl s→Qie Γ rv x0 r l r2 s.1 s.2.1 s.2.2.1 s.2.2.2.1 s.2.2.2.2) (hE:∀ e:Qan×Bool,x=.inr e→QhK Γ rv x0 r l r2 e.1 e.2):QkX Γ rv ⟨[.c 65419,.b 1,.l 4088,.b 0,.c 1023],⟨88,[vP 2 0 6,vP 3 1 4,vP 4 2 5,vL 7 1 rests1 Qa5,vP 8 3 5,vI 9 r2.2,vB 10 found1],[oX 6 30 (Qac.enc x0),oX 4 34 [lI r.type_,lI r.start,lL 1 rests Qa5,lL 2 r.visits Qaa.enc],oX 5 101 [.bool false,lI 0,.nils,lI 0,lI 0],oX 5 101 (Qan.enc x2)]⟩⟩:=by
 unfold Qf1 at h
 obtain ⟨r5,h8,h⟩:=Qae h
 exact gn 3 [2,3,4,7,8,9,10,11] [0,1,2,3] [nL Qa5 rests,cC (Qn6 h8)] (hI _ (oJ h))
theorem QqP (Γ:Gam) (rv:Qan×Int) {x0 r l r2} {s:List Bool×Qan×List Bool×Bool×Bool} {e:Qan×Bool} (h:loopF (fun s=>QeL x0 r l r2 s.1 s.2.1 s.2.2.1 s.2.2.2.1 s.2.2.2.2) s=some e) (hD:QhK Γ rv x0 r l r2 e.1 e.2):Qie Γ rv x0 r l r2 s.1 s.2.1 s.2.2.1 s.2.2.2.1 s.2.2.2.2:=by
 refine QaF (C:=fun (s:List Bool×Qan×List Bool×Bool×Bool)=>Qie Γ rv x0 r l r2 s.1 s.2.1 s.2.2.1 s.2.2.2.1 s.2.2.2.2) (D:=fun (e:Qan×Bool)=>QhK Γ rv x0 r l r2 e.1 e.2) ?_ h hD
 clear h hD s e
 rintro ⟨rests,x1,rests1,found,more⟩ z_ h hI hE
 replace h:QeL x0 r l r2 rests x1 rests1 found more=_:=h
 unfold QeL at h
 rcases Qah h with ⟨h5,h⟩|⟨h5,h⟩
 ·obtain ⟨r4,h6,h⟩:=Qae h
  rcases Qah h with ⟨h7,h⟩|⟨h7,h⟩
  ·exact gn 15 [2,3,4,7,8,9,10] [0,1,2,3] [bT h5,cC (QkY h6),rp 11 hP,rp 2 (oI ((eqI r4.2 0)=true)),rp 4 (oI (((eqI r4.2 0)=true)∧(!found)=false)),oI ((eqI r4.2 0)=true),oI (((eqI r4.2 0)=true)∧(!found)=false),oR True ((eqI r4.2 0)=true),bT h7] (QlD Γ rv h hI hE)
  ·exact gn 13 [2,3,4,7,8,9,10] [0,1,2,3] [bT h5,cC (QkY h6),rp 11 hP,rp 2 (oI ((eqI r4.2 0)=true)),rp 4 (oI (((eqI r4.2 0)=true)∧(!found)=false)),oI ((eqI r4.2 0)=true),oI (((eqI r4.2 0)=true)∧(!found)=false),oR True ((eqI r4.2 0)=true),bF h7] (QlD Γ rv h hI hE)
 ·exact gn 5 [4,8,9,10] [2,3] [bF h5] (hE _ (oJ h))
theorem Qn4 {x0 r} {rv:Qan×Int} (h:QfC x0 r=some rv):AFn Tryz.prog 132 [.agg (Qac.enc x0),.agg (Qad.enc r)] [] (.tup [.agg [.bool rv.1.rest_,lI rv.1.depart,lL 4 rv.1.times Qap.enc,lI rv.1.end_,lI rv.1.miles],.one (lI rv.2)]) []:=by
 refine QaK Tryz.func132 (by kernel_rfl) (by kernel_rfl) (fun Γ=>?_)
 unfold QfC at h
 obtain ⟨r1,h0,h⟩:=Qae h
 rcases Qah h with ⟨h1,h⟩|⟨h1,h⟩
 ·obtain rfl:=Option.some.inj h
  exact gr 10 [] [nL Qaa.enc r.visits,cC (Qfs h0),hP,hP,hP,rp 2 (oI ((!r1)=false)),nL Qa5 r.rests,hP,hP,hP,rp 2 (oI ((!r1)=false)),oR True ((!r1)=false),bT h1,hW 5,hH (.nilB 2 2 4)]
 ·obtain ⟨l,h2,h⟩:=Qae h
  obtain ⟨r2,h3,h⟩:=Qae h
  obtain ⟨r3,h4,h⟩:=Qae h
  obtain ⟨e0,h9,h⟩:=Qae h
  refine gn 22 [2,3,4,7,8,9,10,11] [0,1,2,4] [nL Qaa.enc r.visits,cC (Qfs h0),hP,hP,hP,rp 2 (oI ((!r1)=false)),nL Qa5 r.rests,hP,hP,hP,rp 2 (oI ((!r1)=false)),oR True ((!r1)=false),bF h1,hH (.cells [.bool false]),hH (.rows (l.map Qa5)),oO (mk1 h2),oO (mk2 h2),oO (mk3 h2),oO (mk4 h2),oO (mk5 Qa5 h2),cY Qa5 l r.rests,hH (.relen 3 ((cpyL l r.rests).map Qa5).length),hW 5,hH (.frz 3),rp 3 (oO (QCF Qa5 l r.rests)),rp 4 (oO (Eq.refl ((cpyL l r.rests).map Qa5).length)),cC (QkY h3),nL Qa5 r.rests,cC (Qn6 h4)] (QqP Γ rv h9 ?_)
  obtain ⟨x3,found2⟩:=e0
  replace h:(br found2 (some (x3,0)) (some ((Qan.mk false 0 [] 0 0),r2.2)):Option (Qan×Int))=some _:=h
  rcases Qah h with ⟨h10,h⟩|⟨h10,h⟩
  ·obtain rfl:=Option.some.inj h
   exact gr 7 [] [nF h10]
  ·obtain rfl:=Option.some.inj h
   exact gr 6 [] [nT h10,hW 6,hH (.nilB 0 2 4)]
def Qnf (Γ:Gam) (rv:Bool) (cf:Cf):Prop:=Go Tryz.prog Tryz.f161 [] Γ (one (.bool rv)) [] cf
def QkI (Γ:Gam) (rv:Bool) (l:List Qaa) (at_:Int) (i:Int):Prop:=Qnf Γ rv ⟨[.c 52,.l 52,.b 0,.c 7],⟨22,[vL 0 2 l Qaa.enc,vI 1 at_,vI 5 i],[]⟩⟩
def Qjz (Γ:Gam) (rv:Bool) (l:List Qaa) (at_:Int):Prop:=Qnf Γ rv ⟨[.c 7],⟨22,[],[]⟩⟩
theorem Qpl (Γ:Gam) (rv:Bool) {l at_} {s:Int} {e:(Unit)⊕(Bool)} (h:loopF (fun s=>Qcb l at_ s) s=some e) (hD:sel e (fun e=>Qjz Γ rv l at_) (fun e=>e=rv)):QkI Γ rv l at_ s:=by
 refine QaF (C:=fun (s:Int)=>QkI Γ rv l at_ s) (D:=fun (e:(Unit)⊕(Bool))=>sel e (fun e=>Qjz Γ rv l at_) (fun e=>e=rv)) ?_ h hD
 clear h hD s e
 intro i z_ h hI hE
 replace h:Qcb l at_ i=_:=h
 unfold Qcb at h
 rcases Qah h with ⟨h0,h⟩|⟨h0,h⟩
 ·obtain ⟨x0,h1,h⟩:=Qae h
  obtain ⟨x1,h2,h⟩:=Qae h
  rcases Qah h with ⟨h3,h⟩|⟨h3,h⟩
  ·obtain rfl:=(hE _ (oJ h):_=rv)
   exact gr 12 [] [bT h0,hH (.draw 11 []),cE Qaa.enc h1,cE Qaa.enc h2,bT h3]
  ·exact gn 14 [0,1,5] [] [bT h0,hH (.draw 11 []),cE Qaa.enc h1,cE Qaa.enc h2,bF h3] (hI _ (oJ h))
 ·exact gn 5 [] [] [bF h0] (hE _ (oJ h))
theorem QdH {l at_} {rv:Bool} (h:Qgy l at_=some rv):AFn Tryz.prog 161 [.one (lL 2 l Qaa.enc),.one (lI at_)] [] (one (.bool rv)) []:=by
 refine QaK Tryz.func161 (by kernel_rfl) (by kernel_rfl) (fun Γ=>?_)
 unfold Qgy at h
 obtain ⟨e0,h4,h⟩:=Qae h
 refine gn 7 [0,1,5] [] [] (Qpl Γ rv h4 ?_)
 rcases e0 with e0|e0
 ·replace h:(some true:Option Bool)=some _:=h
  obtain rfl:=Option.some.inj h
  exact gr 2 [] []
 ·obtain ⟨r,rfl⟩:∃ x,x=e0:=⟨_,rfl⟩
  replace h:(some r:Option Bool)=some _:=h
  exact Option.some.inj h
def QjJ (Γ:Gam) (rv:Qay) (cf:Cf):Prop:=Go Tryz.prog Tryz.f133 [] Γ (gG [lI rv.cost,lI rv.moved,lI rv.other,lI rv.work]) [] cf
def QhL (Γ:Gam) (rv:Qay) (x0:Qac) (r:Qad) (s0:Qan) (x1:Qai) (moved:Int) (other:Int) (i:Int):Prop:=QjJ Γ rv ⟨[.c 1012,.l 1012,.b 0,.c 127],⟨128,[vP 3 0 6,vP 4 1 4,vP 6 2 4,vP 9 3 4,vI 10 i],[oX 6 30 (Qac.enc x0),oX 4 34 (Qad.enc r),oX 4 93 [lI 0,lI 0,lI 0,lI 0],oX 4 93 [lI (addK .i64 (addK .i64 x1.fixed (mulK .i64 x1.perMile s0.miles)) (mulK .i64 x1.perTick (subK .i64 s0.end_ x1.open_))),lI moved,lI other,lI (mulK .i64 (quoK .i64 (subK .i64 s0.end_ x1.open_) 64) (quoK .i64 (subK .i64 s0.end_ x1.open_) 64))]]⟩⟩
def Qhk (Γ:Gam) (rv:Qay) (x0:Qac) (r:Qad) (s0:Qan) (x1:Qai) (moved2:Int) (other1:Int):Prop:=QjJ Γ rv ⟨[.c 127],⟨128,[vP 6 0 4,vP 9 1 4],[oX 4 93 [lI 0,lI 0,lI 0,lI 0],oX 4 93 [lI (addK .i64 (addK .i64 x1.fixed (mulK .i64 x1.perMile s0.miles)) (mulK .i64 x1.perTick (subK .i64 s0.end_ x1.open_))),lI moved2,lI other1,lI (mulK .i64 (quoK .i64 (subK .i64 s0.end_ x1.open_) 64) (quoK .i64 (subK .i64 s0.end_ x1.open_) 64))]]⟩⟩
theorem QkH (Γ:Gam) (rv:Qay) {x0 r s0 x1 other i x2 moved1} {x:(Int×Int×Int)⊕(Int×Int)} (h:Qft x0 r s0 x1 other i x2 moved1=some x) (hI:∀ s:Int×Int×Int,x=.inl s→QhL Γ rv x0 r s0 x1 s.1 s.2.1 s.2.2) (hE:∀ e:Int×Int,x=.inr e→Qhk Γ rv x0 r s0 x1 e.1 e.2):QjJ Γ rv ⟨[.c 64807,.b 1,.c 4051,.l 1012,.b 0,.c 127],⟨128,[vP 3 0 6,vP 4 1 4,vP 6 2 4,vP 9 3 4,vI 10 i,vI 11 x2.order],[oX 6 30 (Qac.enc x0),oX 4 34 (Qad.enc r),oX 4 93 [lI 0,lI 0,lI 0,lI 0],oX 4 93 [lI (addK .i64 (addK .i64 x1.fixed (mulK .i64 x1.perMile s0.miles)) (mulK .i64 x1.perTick (subK .i64 s0.end_ x1.open_))),lI moved1,lI other,lI (mulK .i64 (quoK .i64 (subK .i64 s0.end_ x1.open_) 64) (quoK .i64 (subK .i64 s0.end_ x1.open_) 64))]]⟩⟩:=by
 unfold Qft at h
 obtain ⟨x4,h10,h⟩:=Qae h
 rcases Qah h with ⟨h11,h⟩|⟨h11,h⟩
 ·rcases Qah h with ⟨h12,h⟩|⟨h12,h⟩
  ·exact gn 7 [3,4,6,9,10] [0,1,2,3] [hH (.draw 18 []),cE Qag.enc h10,rp 4 (bT h11),cE Qag.enc h10,rp 6 (bT h11),bT h12] (hI _ (oJ h))
  ·exact gn 7 [3,4,6,9,10] [0,1,2,3] [hH (.draw 18 []),cE Qag.enc h10,rp 4 (bT h11),cE Qag.enc h10,rp 6 (bT h11),bF h12] (hI _ (oJ h))
 ·exact gn 7 [3,4,6,9,10] [0,1,2,3] [hH (.draw 18 []),cE Qag.enc h10,rp 10 (bF h11),fF] (hI _ (oJ h))
theorem Qp7 (Γ:Gam) (rv:Qay) {x0 r s0 x1} {s:Int×Int×Int} {e:Int×Int} (h:loopF (fun s=>Qb2 x0 r s0 x1 s.1 s.2.1 s.2.2) s=some e) (hD:Qhk Γ rv x0 r s0 x1 e.1 e.2):QhL Γ rv x0 r s0 x1 s.1 s.2.1 s.2.2:=by
 refine QaF (C:=fun (s:Int×Int×Int)=>QhL Γ rv x0 r s0 x1 s.1 s.2.1 s.2.2) (D:=fun (e:Int×Int)=>Qhk Γ rv x0 r s0 x1 e.1 e.2) ?_ h hD
 clear h hD s e
 rintro ⟨moved,other,i⟩ z_ h hI hE
 replace h:Qb2 x0 r s0 x1 moved other i=_:=h
 unfold Qb2 at h
 rcases Qah h with ⟨h2,h⟩|⟨h2,h⟩
 ·obtain ⟨x2,h3,h⟩:=Qae h
  rcases Qah h with ⟨h4,h⟩|⟨h4,h⟩
  ·exact gn 16 [3,4,6,9,10] [0,1,2,3] [nL Qaa.enc r.visits,bT h2,cE Qaa.enc h3,rp 4 hP,rp 2 (oI ((ltI x2.order 0)=false)),nL Qag.enc x0.orders,hP,hP,rp 2 (oI ((ltI x2.order 0)=false)),oR True ((ltI x2.order 0)=false),rp 6 (bT h4),tT] (hI _ (oJ h))
  ·obtain ⟨r1,h5,h⟩:=Qae h
   rcases Qah h with ⟨h6,h⟩|⟨h6,h⟩
   ·obtain ⟨x3,h7,h⟩:=Qae h
    rcases Qah h with ⟨h8,h⟩|⟨h8,h⟩
    ·rcases Qah h with ⟨h9,h⟩|⟨h9,h⟩
     ·exact gn 19 [3,4,6,9,10,11] [0,1,2,3] [nL Qaa.enc r.visits,bT h2,cE Qaa.enc h3,rp 4 hP,rp 2 (oI ((ltI x2.order 0)=false)),nL Qag.enc x0.orders,hP,hP,rp 2 (oI ((ltI x2.order 0)=false)),oR True ((ltI x2.order 0)=false),rp 4 (bF h4),cC (QdH h5),bF h4,bF h4,nF h6,hH (.draw 18 []),cE Qag.enc h7,rp 4 (bT h8),cE Qag.enc h7,rp 6 (bT h8),bT h9] (QkH Γ rv h hI hE)
     ·exact gn 19 [3,4,6,9,10,11] [0,1,2,3] [nL Qaa.enc r.visits,bT h2,cE Qaa.enc h3,rp 4 hP,rp 2 (oI ((ltI x2.order 0)=false)),nL Qag.enc x0.orders,hP,hP,rp 2 (oI ((ltI x2.order 0)=false)),oR True ((ltI x2.order 0)=false),rp 4 (bF h4),cC (QdH h5),bF h4,bF h4,nF h6,hH (.draw 18 []),cE Qag.enc h7,rp 4 (bT h8),cE Qag.enc h7,rp 6 (bT h8),bF h9] (QkH Γ rv h hI hE)
    ·rcases Qah h with ⟨h13,h⟩|⟨h13,h⟩
     ·rcases Qah h with ⟨h14,h⟩|⟨h14,h⟩
      ·exact gn 26 [3,4,6,9,10] [0,1,2,3] [nL Qaa.enc r.visits,bT h2,cE Qaa.enc h3,rp 4 hP,rp 2 (oI ((ltI x2.order 0)=false)),nL Qag.enc x0.orders,hP,hP,rp 2 (oI ((ltI x2.order 0)=false)),oR True ((ltI x2.order 0)=false),rp 4 (bF h4),cC (QdH h5),bF h4,bF h4,nF h6,hH (.draw 18 []),cE Qag.enc h7,rp 10 (bF h8),fF,hH (.draw 18 []),cE Qag.enc h7,rp 4 (bT h13),cE Qag.enc h7,rp 6 (bT h13),bT h14] (hI _ (oJ h))
      ·exact gn 26 [3,4,6,9,10] [0,1,2,3] [nL Qaa.enc r.visits,bT h2,cE Qaa.enc h3,rp 4 hP,rp 2 (oI ((ltI x2.order 0)=false)),nL Qag.enc x0.orders,hP,hP,rp 2 (oI ((ltI x2.order 0)=false)),oR True ((ltI x2.order 0)=false),rp 4 (bF h4),cC (QdH h5),bF h4,bF h4,nF h6,hH (.draw 18 []),cE Qag.enc h7,rp 10 (bF h8),fF,hH (.draw 18 []),cE Qag.enc h7,rp 4 (bT h13),cE Qag.enc h7,rp 6 (bT h13),bF h14] (hI _ (oJ h))
     ·exact gn 26 [3,4,6,9,10] [0,1,2,3] [nL Qaa.enc r.visits,bT h2,cE Qaa.enc h3,rp 4 hP,rp 2 (oI ((ltI x2.order 0)=false)),nL Qag.enc x0.orders,hP,hP,rp 2 (oI ((ltI x2.order 0)=false)),oR True ((ltI x2.order 0)=false),rp 4 (bF h4),cC (QdH h5),bF h4,bF h4,nF h6,hH (.draw 18 []),cE Qag.enc h7,rp 10 (bF h8),fF,hH (.draw 18 []),cE Qag.enc h7,rp 10 (bF h13),fF] (hI _ (oJ h))
   ·exact gn 16 [3,4,6,9,10] [0,1,2,3] [nL Qaa.enc r.visits,bT h2,cE Qaa.enc h3,rp 4 hP,rp 2 (oI ((ltI x2.order 0)=false)),nL Qag.enc x0.orders,hP,hP,rp 2 (oI ((ltI x2.order 0)=false)),oR True ((ltI x2.order 0)=false),rp 4 (bF h4),cC (QdH h5),bF h4,bF h4,nT h6] (hI _ (oJ h))
 ·exact gn 5 [6,9] [2,3] [nL Qaa.enc r.visits,bF h2] (hE _ (oJ h))
theorem Qr1 {x0 r s0} {rv:Qay} (h:Qf2 x0 r s0=some rv):AFn Tryz.prog 133 [.agg (Qac.enc x0),.agg (Qad.enc r),.agg (Qan.enc s0)] [] (gG [lI rv.cost,lI rv.moved,lI rv.other,lI rv.work]) []:=by
 refine QaK Tryz.func133 (by kernel_rfl) (by kernel_rfl) (fun Γ=>?_)
 unfold Qf2 at h
 rcases Qah h with ⟨h0,h⟩|⟨h0,h⟩
 ·obtain rfl:=Option.some.inj h
  exact gr 8 [] [rp 5 hP,rp 3 (oI ((ltI r.type_ 0)=false)),nL Qai.enc x0.types,hP,hP,rp 2 (oI ((ltI r.type_ 0)=false)),oR True ((ltI r.type_ 0)=false),bT h0]
 ·obtain ⟨x1,h1,h⟩:=Qae h
  obtain ⟨e0,h15,h⟩:=Qae h
  refine gn 18 [3,4,6,9,10] [0,1,3,5] [rp 5 hP,rp 3 (oI ((ltI r.type_ 0)=false)),nL Qai.enc x0.types,hP,hP,rp 2 (oI ((ltI r.type_ 0)=false)),oR True ((ltI r.type_ 0)=false),bF h0,cE Qai.enc h1,rp 2 (oO (oA (n:=64)))] (Qp7 Γ rv h15 ?_)
  obtain ⟨moved2,other1⟩:=e0
  replace h:(some (Qay.mk (addK .i64 (addK .i64 x1.fixed (mulK .i64 x1.perMile s0.miles)) (mulK .i64 x1.perTick (subK .i64 s0.end_ x1.open_))) moved2 other1 (mulK .i64 (quoK .i64 (subK .i64 s0.end_ x1.open_) 64) (quoK .i64 (subK .i64 s0.end_ x1.open_) 64))):Option Qay)=some _:=h
  obtain rfl:=Option.some.inj h
  exact gr 2 [] []
def QlG (Γ:Gam) (rv:Qan×Qay×Int) (cf:Cf):Prop:=Go Tryz.prog Tryz.f100 [] Γ (.tup [.agg [.bool rv.1.rest_,lI rv.1.depart,lL 4 rv.1.times Qap.enc,lI rv.1.end_,lI rv.1.miles],.agg [lI rv.2.1.cost,lI rv.2.1.moved,lI rv.2.1.other,lI rv.2.1.work],.one (lI rv.2.2)]) [] cf
def Qi0 (Γ:Gam) (rv:Qan×Qay×Int) (x0:Qac) (r:Qad) (i:Int):Prop:=QlG Γ rv ⟨[.c 244,.l 244,.b 0,.c 31],⟨85,[vP 2 0 6,vP 3 1 4,vP 4 2 5,vP 5 3 4,vI 8 i],[oX 6 30 (Qac.enc x0),oX 4 34 (Qad.enc r),oX 5 101 [.bool false,lI 0,.nils,lI 0,lI 0],oX 4 93 [lI 0,lI 0,lI 0,lI 0]]⟩⟩
def Qiy (Γ:Gam) (rv:Qan×Qay×Int) (x0:Qac) (r:Qad):Prop:=QlG Γ rv ⟨[.c 31],⟨85,[vP 2 0 6,vP 3 1 4,vP 4 2 5,vP 5 3 4],[oX 6 30 (Qac.enc x0),oX 4 34 (Qad.enc r),oX 5 101 [.bool false,lI 0,.nils,lI 0,lI 0],oX 4 93 [lI 0,lI 0,lI 0,lI 0]]⟩⟩
theorem Qn8 (Γ:Gam) (rv:Qan×Qay×Int) {x0 r} {s:Int} {e:(Unit)⊕(Qan×Qay×Int)} (h:loopF (fun s=>Qbs x0 r s) s=some e) (hD:sel e (fun e=>Qiy Γ rv x0 r) (fun e=>e=rv)):Qi0 Γ rv x0 r s:=by
 refine QaF (C:=fun (s:Int)=>Qi0 Γ rv x0 r s) (D:=fun (e:(Unit)⊕(Qan×Qay×Int))=>sel e (fun e=>Qiy Γ rv x0 r) (fun e=>e=rv)) ?_ h hD
 clear h hD s e
 intro i z_ h hI hE
 replace h:Qbs x0 r i=_:=h
 unfold Qbs at h
 rcases Qah h with ⟨h3,h⟩|⟨h3,h⟩
 ·obtain ⟨x1,h4,h⟩:=Qae h
  obtain ⟨x2,h5,h⟩:=Qae h
  obtain ⟨x3,h6,h⟩:=Qae h
  obtain ⟨r2,h7,h⟩:=Qae h
  rcases Qah h with ⟨h8,h⟩|⟨h8,h⟩
  ·exact gn 14 [2,3,4,5,8] [0,1,2,3] [nL Qaa.enc r.visits,bT h3,hH (.draw 19 []),cE Qai.enc h4,cE Qaa.enc h5,cE Qag.enc h6,cC (QnW h7),nF h8] (hI _ (oJ h))
  ·obtain rfl:=(hE _ (oJ h):_=rv)
   exact gr 12 [] [nL Qaa.enc r.visits,bT h3,hH (.draw 19 []),cE Qai.enc h4,cE Qaa.enc h5,cE Qag.enc h6,cC (QnW h7),nT h8,hW 7,hH (.nilB 2 2 4)]
 ·exact gn 5 [2,3,4,5] [0,1,2,3] [nL Qaa.enc r.visits,bF h3] (hE _ (oJ h))
theorem QkJ {x0 r} {rv:Qan×Qay×Int} (h:Qej x0 r=some rv):AFn Tryz.prog 100 [.agg (Qac.enc x0),.agg (Qad.enc r)] [] (.tup [.agg [.bool rv.1.rest_,lI rv.1.depart,lL 4 rv.1.times Qap.enc,lI rv.1.end_,lI rv.1.miles],.agg [lI rv.2.1.cost,lI rv.2.1.moved,lI rv.2.1.other,lI rv.2.1.work],.one (lI rv.2.2)]) []:=by
 refine QaK Tryz.func100 (by kernel_rfl) (by kernel_rfl) (fun Γ=>?_)
 unfold Qej at h
 rcases Qah h with ⟨h0,h⟩|⟨h0,h⟩
 ·obtain rfl:=Option.some.inj h
  exact gr 8 [] [rp 5 hP,rp 3 (oI ((ltI r.type_ 0)=false)),nL Qai.enc x0.types,hP,hP,rp 2 (oI ((ltI r.type_ 0)=false)),oR True ((ltI r.type_ 0)=false),bT h0,hW 7,hH (.nilB 2 2 4)]
 ·obtain ⟨r1,h1,h⟩:=Qae h
  rcases Qah h with ⟨h2,h⟩|⟨h2,h⟩
  ·obtain rfl:=Option.some.inj h
   exact gr 15 [] [rp 5 hP,rp 3 (oI ((ltI r.type_ 0)=false)),nL Qai.enc x0.types,hP,hP,rp 2 (oI ((ltI r.type_ 0)=false)),oR True ((ltI r.type_ 0)=false),bF h0,cC (QgY h1),bT h2,hW 8,hH (.nilB 2 2 4)]
  ·obtain ⟨e0,h9,h⟩:=Qae h
   refine gn 19 [2,3,4,5,8] [0,1,2,3] [rp 5 hP,rp 3 (oI ((ltI r.type_ 0)=false)),nL Qai.enc x0.types,hP,hP,rp 2 (oI ((ltI r.type_ 0)=false)),oR True ((ltI r.type_ 0)=false),bF h0,cC (QgY h1),bF h2] (Qn8 Γ rv h9 ?_)
   rcases e0 with e0|e0
   ·replace h:(bnd (QgE x0 r) fun r3=>br (neI r3 0) (some ((Qan.mk false 0 [] 0 0),(Qay.mk 0 0 0 0),r3)) (bnd (QfC x0 r) fun r4=>br (neI r4.2 0) (some ((Qan.mk false 0 [] 0 0),(Qay.mk 0 0 0 0),r4.2)) (bnd (Qf2 x0 r r4.1) fun r5=>some (r4.1,r5,0))):Option (Qan×Qay×Int))=some _:=h
    obtain ⟨r3,h10,h⟩:=Qae h
    rcases Qah h with ⟨h11,h⟩|⟨h11,h⟩
    ·obtain rfl:=Option.some.inj h
     exact gr 8 [] [cC (QjI h10),bT h11,hW 8,hH (.nilB 2 2 4)]
    ·obtain ⟨r4,h12,h⟩:=Qae h
     rcases Qah h with ⟨h13,h⟩|⟨h13,h⟩
     ·obtain rfl:=Option.some.inj h
      exact gr 15 [] [cC (QjI h10),bF h11,cC (Qn4 h12),bT h13,hW 8,hH (.nilB 2 2 4)]
     ·obtain ⟨r5,h14,h⟩:=Qae h
      obtain rfl:=Option.some.inj h
      exact gr 16 [] [cC (QjI h10),bF h11,cC (Qn4 h12),bF h13,hH (.draw 5 []),cC (Qr1 h14)]
   ·obtain ⟨r6,rfl⟩:∃ x,x=e0:=⟨_,rfl⟩
    replace h:(some r6:Option (Qan×Qay×Int))=some _:=h
    exact Option.some.inj h
theorem Qfu {x0 r} {rv:Int×Int} (h:Qf3 x0 r=some rv):AFn Tryz.prog 70 [.agg (Qac.enc x0),.agg (Qad.enc r)] [] (.tup [.one (lI rv.1),.one (lI rv.2)]) []:=by
 refine QaK Tryz.func70 (by kernel_rfl) (by kernel_rfl) (fun Γ=>?_)
 unfold Qf3 at h
 obtain ⟨r1,h0,h⟩:=Qae h
 rcases Qah h with ⟨h1,h⟩|⟨h1,h⟩
 ·obtain rfl:=Option.some.inj h
  exact gr 10 [] [cC (QkJ h0),bT h1]
 ·obtain ⟨r2,h2,h⟩:=Qae h
  obtain rfl:=Option.some.inj h
  exact gr 11 [] [cC (QkJ h0),bF h1,cC (Qrw h2)]
theorem Qr0 {a b} {rv:Bool} (h:QiX a b=some rv):AFn Tryz.prog 101 [.agg (Qaa.enc a),.agg (Qaa.enc b)] [] (one (.bool rv)) []:=by
 refine QaK Tryz.func101 (by kernel_rfl) (by kernel_rfl) (fun Γ=>?_)
 unfold QiX at h
 obtain rfl:=Option.some.inj h
 exact gr 4 [] [rp 17 hP,rp 5 (oI ((ltI a.order b.order)=false)),rp 2 (oI (((ltI a.order b.order)=false)∧(eqI a.order b.order)=true)),oI ((ltI a.order b.order)=false),oI (((ltI a.order b.order)=false)∧(eqI a.order b.order)=true),oI ((ltI a.order b.order)=false),oI (((ltI a.order b.order)=false)∧((eqI a.order b.order)&&(!a.drop))=true),oI ((ltI a.order b.order)=false),oI (((ltI a.order b.order)=false)∧((eqI a.order b.order)&&(!a.drop))=true),oR True ((ltI a.order b.order)=false)]
def QoU (Γ:Gam) (rv:Bool) (cf:Cf):Prop:=Go Tryz.prog Tryz.f71 [] Γ (one (.bool rv)) [] cf
def Qmo (Γ:Gam) (rv:Bool) (a:List Qaa) (b:List Qaa) (i:Int):Prop:=QoU Γ rv ⟨[.c 52,.l 52,.b 0,.c 7],⟨41,[vL 0 2 a Qaa.enc,vL 1 2 b Qaa.enc,vI 5 i],[]⟩⟩
def Qlw (Γ:Gam) (rv:Bool) (a:List Qaa) (b:List Qaa):Prop:=QoU Γ rv ⟨[.c 7],⟨41,[vL 0 2 a Qaa.enc,vL 1 2 b Qaa.enc],[]⟩⟩
theorem QqN (Γ:Gam) (rv:Bool) {a b} {s:Int} {e:(Unit)⊕(Bool)} (h:loopF (fun s=>QcN a b s) s=some e) (hD:sel e (fun e=>Qlw Γ rv a b) (fun e=>e=rv)):Qmo Γ rv a b s:=by
 refine QaF (C:=fun (s:Int)=>Qmo Γ rv a b s) (D:=fun (e:(Unit)⊕(Bool))=>sel e (fun e=>Qlw Γ rv a b) (fun e=>e=rv)) ?_ h hD
 clear h hD s e
 intro i z_ h hI hE
 replace h:QcN a b i=_:=h
 unfold QcN at h
 rcases Qah h with ⟨h0,h⟩|⟨h0,h⟩
 ·obtain ⟨x0,h1,h⟩:=Qae h
  obtain ⟨x1,h2,h⟩:=Qae h
  rcases Qah h with ⟨h3,h⟩|⟨h3,h⟩
  ·exact gn 14 [0,1,5] [] [nL Qaa.enc a,hP,hP,hP,oI ((ltI i (lenI a))=true),nL Qaa.enc b,hP,hP,rp 2 (oI ((ltI i (lenI a))=true)),oR True ((ltI i (lenI a))=true),bT h0,hH (.draw 9 []),cE Qaa.enc h1,cE Qaa.enc h2,nF h3] (hI _ (oJ h))
  ·obtain ⟨r,h4,h⟩:=Qae h
   obtain rfl:=(hE _ (oJ h):_=rv)
   exact gr 12 [] [nL Qaa.enc a,hP,hP,hP,oI ((ltI i (lenI a))=true),nL Qaa.enc b,hP,hP,rp 2 (oI ((ltI i (lenI a))=true)),oR True ((ltI i (lenI a))=true),bT h0,hH (.draw 9 []),cE Qaa.enc h1,cE Qaa.enc h2,nT h3,hH (.draw 10 []),cE Qaa.enc h1,cE Qaa.enc h2,cC (Qr0 h4)]
 ·exact gn 5 [0,1] [] [nL Qaa.enc a,hP,hP,hP,oI ((ltI i (lenI a))=true),nL Qaa.enc b,hP,hP,rp 2 (oI ((ltI i (lenI a))=true)),oR True ((ltI i (lenI a))=true),bF h0] (hE _ (oJ h))
theorem Qn0 {a b} {rv:Bool} (h:QhS a b=some rv):AFn Tryz.prog 71 [.one (lL 2 a Qaa.enc),.one (lL 2 b Qaa.enc)] [] (one (.bool rv)) []:=by
 refine QaK Tryz.func71 (by kernel_rfl) (by kernel_rfl) (fun Γ=>?_)
 unfold QhS at h
 obtain ⟨e0,h5,h⟩:=Qae h
 refine gn 7 [0,1,5] [] [] (QqN Γ rv h5 ?_)
 rcases e0 with e0|e0
 ·replace h:(some (ltI (lenI a) (lenI b)):Option Bool)=some _:=h
  obtain rfl:=Option.some.inj h
  exact gr 2 [] [nL Qaa.enc a,nL Qaa.enc b]
 ·obtain ⟨r1,rfl⟩:∃ x,x=e0:=⟨_,rfl⟩
  replace h:(some r1:Option Bool)=some _:=h
  exact Option.some.inj h
theorem Qmy {x0 f r visits} {rv:QaJ} (h:Qfb x0 f r visits=some rv):AFn Tryz.prog 33 [.agg (Qac.enc x0),.agg (QaJ.enc f),.agg (Qad.enc r),.one (lL 2 visits Qaa.enc)] [] (gG [.bool rv.ok,lI rv.route.type_,lI rv.route.start,lL 1 rv.route.rests Qa5,lL 2 rv.route.visits Qaa.enc,lI rv.price]) []:=by
 refine QaK Tryz.func33 (by kernel_rfl) (by kernel_rfl) (fun Γ=>?_)
 unfold Qfb at h
 obtain ⟨r1,h0,h⟩:=Qae h
 rcases Qah h with ⟨h1,h⟩|⟨h1,h⟩
 ·obtain rfl:=Option.some.inj h
  exact gr 12 [] [cC (Qfu h0),bT h1]
 ·rcases Qah h with ⟨h2,h⟩|⟨h2,h⟩
  ·obtain rfl:=Option.some.inj h
   exact gr 17 [] [cC (Qfu h0),bF h1,rp 5 hP,rp 3 (oI ((!f.ok)=false)),oR True ((!f.ok)=false),rp 5 (bT h2),rp 5 kF,bT h2,bT h2,tT]
  ·rcases Qah h with ⟨h3,h⟩|⟨h3,h⟩
   ·obtain ⟨r2,h4,h⟩:=Qae h
    rcases Qah h with ⟨h5,h⟩|⟨h5,h⟩
    ·obtain rfl:=Option.some.inj h
     exact gr 17 [] [cC (Qfu h0),bF h1,rp 5 hP,rp 3 (oI ((!f.ok)=false)),oR True ((!f.ok)=false),rp 5 (bF h2),rp 5 (bT h3),cC (Qn0 h4),bF h2,bT h3,bF h2,bT h5]
    ·obtain rfl:=Option.some.inj h
     exact gr 18 [] [cC (Qfu h0),bF h1,rp 5 hP,rp 3 (oI ((!f.ok)=false)),oR True ((!f.ok)=false),rp 5 (bF h2),rp 5 (bT h3),cC (Qn0 h4),bF h2,bT h3,bF h2,bF h5]
   ·obtain rfl:=Option.some.inj h
    exact gr 18 [] [cC (Qfu h0),bF h1,rp 5 hP,rp 3 (oI ((!f.ok)=false)),oR True ((!f.ok)=false),rp 5 (bF h2),rp 5 (bF h3),bF h2,bF h3,bF h2,fF]
def Qh6 (Γ:Gam) (rv:Qad×Int×Int) (cf:Cf):Prop:=Go Tryz.prog Tryz.f12 [] Γ (.tup [.agg [lI rv.1.type_,lI rv.1.start,lL 1 rv.1.rests Qa5,lL 2 rv.1.visits Qaa.enc],.one (lI rv.2.1),.one (lI rv.2.2)]) [] cf
def Qmx (Γ:Gam) (rv:Qad×Int×Int) (x0:Qac) (r3:List Qaa) (x2:Qad) (ok:Bool) (type_:Int) (start:Int) (rests:List Bool) (visits:List Qaa) (price:Int) (i:Int) (r4:List Qaa) (ok1:Bool) (type_1:Int) (start1:Int) (rests1:List Bool) (visits1:List Qaa) (price1:Int) (k:Int):Prop:=Qh6 Γ rv ⟨[.c 521372,.l 521372,.b 2,.b 1,.c 8147,.l 2036,.b 0,.c 255],⟨98,[vP 3 0 6,vP 4 1 4,vP 6 2 4,vL 9 2 r3 Qaa.enc,vP 10 3 6,vI 11 i,vL 12 2 r4 Qaa.enc,vI 13 k],[oX 6 30 (Qac.enc x0),oX 4 34 (Qad.enc x2),oX 4 34 [lI 0,lI 0,.nils,.nils],oX 6 76 [.bool ok1,lI type_1,lI start1,lL 1 rests1 Qa5,lL 2 visits1 Qaa.enc,lI price1]]⟩⟩
def QlK (Γ:Gam) (rv:Qad×Int×Int) (x0:Qac) (r3:List Qaa) (x2:Qad) (ok:Bool) (type_:Int) (start:Int) (rests:List Bool) (visits:List Qaa) (price:Int) (i:Int) (r4:List Qaa) (x5:QaJ):Prop:=Qh6 Γ rv ⟨[.b 1,.c 8147,.l 2036,.b 0,.c 255],⟨98,[vP 3 0 6,vP 4 1 4,vP 6 2 4,vL 9 2 r3 Qaa.enc,vP 10 3 6,vI 11 i],[oX 6 30 (Qac.enc x0),oX 4 34 (Qad.enc x2),oX 4 34 [lI 0,lI 0,.nils,.nils],oX 6 76 (QaJ.enc x5)]⟩⟩
def Qmw (Γ:Gam) (rv:Qad×Int×Int) (x0:Qac) (r3:List Qaa) (x2:Qad) (ok:Bool) (type_:Int) (start:Int) (rests:List Bool) (visits:List Qaa) (price:Int) (i:Int):Prop:=Qh6 Γ rv ⟨[.c 2036,.l 2036,.b 0,.c 255],⟨98,[vP 3 0 6,vP 4 1 4,vP 6 2 4,vL 9 2 r3 Qaa.enc,vP 10 3 6,vI 11 i],[oX 6 30 (Qac.enc x0),oX 4 34 (Qad.enc x2),oX 4 34 [lI 0,lI 0,.nils,.nils],oX 6 76 [.bool ok,lI type_,lI start,lL 1 rests Qa5,lL 2 visits Qaa.enc,lI price]]⟩⟩
def QlJ (Γ:Gam) (rv:Qad×Int×Int) (x0:Qac) (r3:List Qaa) (x6:QaJ):Prop:=Qh6 Γ rv ⟨[.c 255],⟨98,[vP 6 0 4,vP 10 1 6],[oX 4 34 [lI 0,lI 0,.nils,.nils],oX 6 76 (QaJ.enc x6)]⟩⟩
theorem QqU (Γ:Gam) (rv:Qad×Int×Int) {x0 r3 x2 ok type_ start rests visits price i r4} {s:Bool×Int×Int×List Bool×List Qaa×Int×Int} {e:QaJ} (h:loopF (fun s=>Qdg x0 r3 x2 ok type_ start rests visits price i r4 s.1 s.2.1 s.2.2.1 s.2.2.2.1 s.2.2.2.2.1 s.2.2.2.2.2.1 s.2.2.2.2.2.2) s=some e) (hD:QlK Γ rv x0 r3 x2 ok type_ start rests visits price i r4 e):Qmx Γ rv x0 r3 x2 ok type_ start rests visits price i r4 s.1 s.2.1 s.2.2.1 s.2.2.2.1 s.2.2.2.2.1 s.2.2.2.2.2.1 s.2.2.2.2.2.2:=by
 refine QaF (C:=fun (s:Bool×Int×Int×List Bool×List Qaa×Int×Int)=>Qmx Γ rv x0 r3 x2 ok type_ start rests visits price i r4 s.1 s.2.1 s.2.2.1 s.2.2.2.1 s.2.2.2.2.1 s.2.2.2.2.2.1 s.2.2.2.2.2.2) (D:=fun (e:QaJ)=>QlK Γ rv x0 r3 x2 ok type_ start rests visits price i r4 e) ?_ h hD
 clear h hD s e
 rintro ⟨ok1,type_1,start1,rests1,visits1,price1,k⟩ z_ h hI hE
 replace h:Qdg x0 r3 x2 ok type_ start rests visits price i r4 ok1 type_1 start1 rests1 visits1 price1 k=_:=h
 unfold Qdg at h
 rcases Qah h with ⟨h13,h⟩|⟨h13,h⟩
 ·obtain ⟨x4,h14,h⟩:=Qae h
  obtain ⟨r6,h15,h⟩:=Qae h
  obtain ⟨r7,h16,h⟩:=Qae h
  exact gn 11 [3,4,6,9,10,11,12,13] [0,1,2,3] [nL Qaa.enc r4,bT h13,hH (.draw 10 []),cE Qaa.enc h14,cC (Qif h15),cC (Qmy h16)] (hI _ (oJ h))
 ·exact gn 5 [3,4,6,9,10,11] [0,1,2,3] [nL Qaa.enc r4,bF h13] (hE _ (oJ h))
theorem QqT (Γ:Gam) (rv:Qad×Int×Int) {x0 r3} {s:Qad×Bool×Int×Int×List Bool×List Qaa×Int×Int} {e:QaJ} (h:loopF (fun s=>QbU x0 r3 s.1 s.2.1 s.2.2.1 s.2.2.2.1 s.2.2.2.2.1 s.2.2.2.2.2.1 s.2.2.2.2.2.2.1 s.2.2.2.2.2.2.2) s=some e) (hD:QlJ Γ rv x0 r3 e):Qmw Γ rv x0 r3 s.1 s.2.1 s.2.2.1 s.2.2.2.1 s.2.2.2.2.1 s.2.2.2.2.2.1 s.2.2.2.2.2.2.1 s.2.2.2.2.2.2.2:=by
 refine QaF (C:=fun (s:Qad×Bool×Int×Int×List Bool×List Qaa×Int×Int)=>Qmw Γ rv x0 r3 s.1 s.2.1 s.2.2.1 s.2.2.2.1 s.2.2.2.2.1 s.2.2.2.2.2.1 s.2.2.2.2.2.2.1 s.2.2.2.2.2.2.2) (D:=fun (e:QaJ)=>QlJ Γ rv x0 r3 e) ?_ h hD
 clear h hD s e
 rintro ⟨x2,ok,type_,start,rests,visits,price,i⟩ z_ h hI hE
 replace h:QbU x0 r3 x2 ok type_ start rests visits price i=_:=h
 unfold QbU at h
 rcases Qah h with ⟨h8,h⟩|⟨h8,h⟩
 ·obtain ⟨x3,h9,h⟩:=Qae h
  obtain ⟨r4,h10,h⟩:=Qae h
  rcases Qah h with ⟨h11,h⟩|⟨h11,h⟩
  ·obtain ⟨r5,h12,h⟩:=Qae h
   exact gn 18 [3,4,6,9,10,11] [0,1,2,3] [nL Qaa.enc x2.visits,bT h8,hH (.draw 8 []),cE Qaa.enc h9,cC (Qif h10),nL Qaa.enc r3,bT h11,cC (Qmy h12)] (hI _ (oJ h))
  ·obtain ⟨e0,h17,h⟩:=Qae h
   refine gn 18 [3,4,6,9,10,11,12,13] [0,1,2,3] [nL Qaa.enc x2.visits,bT h8,hH (.draw 8 []),cE Qaa.enc h9,cC (Qif h10),nL Qaa.enc r3,bF h11] (QqU Γ rv h17 ?_)
   obtain ⟨x5,rfl⟩:∃ x,x=e0:=⟨_,rfl⟩
   replace h:(some (.inl (x2,x5.ok,x5.route.type_,x5.route.start,x5.route.rests,x5.route.visits,x5.price,(addK .i64 i 1))):Option ((Qad×Bool×Int×Int×List Bool×List Qaa×Int×Int)⊕(QaJ)))=some _:=h
   exact gn 3 [3,4,6,9,10,11] [0,1,2,3] [] (hI _ (oJ h))
 ·exact gn 5 [6,10] [2,3] [nL Qaa.enc x2.visits,bF h8] (hE _ (oJ h))
theorem QjK {x0 r order} {rv:Qad×Int×Int} (h:QhV x0 r order=some rv):AFn Tryz.prog 12 [.agg (Qac.enc x0),.agg (Qad.enc r),.one (lI order)] [] (.tup [.agg [lI rv.1.type_,lI rv.1.start,lL 1 rv.1.rests Qa5,lL 2 rv.1.visits Qaa.enc],.one (lI rv.2.1),.one (lI rv.2.2)]) []:=by
 refine QaK Tryz.func12 (by kernel_rfl) (by kernel_rfl) (fun Γ=>?_)
 unfold QhV at h
 rcases Qah h with ⟨h0,h⟩|⟨h0,h⟩
 ·obtain rfl:=Option.some.inj h
  exact gr 8 [] [rp 5 hP,rp 3 (oI ((ltI r.type_ 0)=false)),nL Qai.enc x0.types,hP,hP,rp 2 (oI ((ltI r.type_ 0)=false)),oR True ((ltI r.type_ 0)=false),rp 5 (bT h0),tT,hW 6,hH (.nilB 2 2 1),hH (.nilB 2 3 2)]
 ·obtain ⟨r1,h1,h⟩:=Qae h
  rcases Qah h with ⟨h2,h⟩|⟨h2,h⟩
  ·obtain ⟨x1,h3,h⟩:=Qae h
   rcases Qah h with ⟨h4,h⟩|⟨h4,h⟩
   ·obtain rfl:=Option.some.inj h
    exact gr 13 [] [rp 5 hP,rp 3 (oI ((ltI r.type_ 0)=false)),nL Qai.enc x0.types,hP,hP,rp 2 (oI ((ltI r.type_ 0)=false)),oR True ((ltI r.type_ 0)=false),rp 3 (bF h0),cC (Qgk h1),bF h0,bF h0,nF h2,cE Qag.enc h3,bT h4,hW 6,hH (.nilB 2 2 1),hH (.nilB 2 3 2)]
   ·obtain ⟨r2,h5,h⟩:=Qae h
    rcases Qah h with ⟨h6,h⟩|⟨h6,h⟩
    ·obtain rfl:=Option.some.inj h
     exact gr 18 [] [rp 5 hP,rp 3 (oI ((ltI r.type_ 0)=false)),nL Qai.enc x0.types,hP,hP,rp 2 (oI ((ltI r.type_ 0)=false)),oR True ((ltI r.type_ 0)=false),rp 3 (bF h0),cC (Qgk h1),bF h0,bF h0,nF h2,cE Qag.enc h3,bF h4,cC (Qp8 h5),bT h6,hW 6,hH (.nilB 2 2 1),hH (.nilB 2 3 2)]
    ·obtain ⟨r3,h7,h⟩:=Qae h
     obtain ⟨e1,h18,h⟩:=Qae h
     refine gn 26 [3,4,6,9,10,11] [0,1,2,3] [rp 5 hP,rp 3 (oI ((ltI r.type_ 0)=false)),nL Qai.enc x0.types,hP,hP,rp 2 (oI ((ltI r.type_ 0)=false)),oR True ((ltI r.type_ 0)=false),rp 3 (bF h0),cC (Qgk h1),bF h0,bF h0,nF h2,cE Qag.enc h3,bF h4,cC (Qp8 h5),bF h6,cC (Qrt h7),nL Qa5 r.rests,hW 3,hH (.nilB 3 3 1),hH (.nilB 3 4 2)] (QqT Γ rv h18 ?_)
     obtain ⟨x6,rfl⟩:∃ x,x=e1:=⟨_,rfl⟩
     replace h:(br x6.ok (some (x6.route,x6.price,0)) (some ((Qad.mk 0 0 [] []),0,24)):Option (Qad×Int×Int))=some _:=h
     rcases Qah h with ⟨h19,h⟩|⟨h19,h⟩
     ·obtain rfl:=Option.some.inj h
      exact gr 7 [] [nF h19,hH (.draw 7 [(0,4)])]
     ·obtain rfl:=Option.some.inj h
      exact gr 6 [] [nT h19,hW 6,hH (.nilB 0 2 1),hH (.nilB 0 3 2)]
  ·obtain rfl:=Option.some.inj h
   exact gr 8 [] [rp 5 hP,rp 3 (oI ((ltI r.type_ 0)=false)),nL Qai.enc x0.types,hP,hP,rp 2 (oI ((ltI r.type_ 0)=false)),oR True ((ltI r.type_ 0)=false),rp 3 (bF h0),cC (Qgk h1),bF h0,bF h0,nT h2,hW 6,hH (.nilB 2 2 1),hH (.nilB 2 3 2)]
def Qfv (Γ:Gam) (rv:Bool) (cf:Cf):Prop:=Go Tryz.prog Tryz.f72 [] Γ (one (.bool rv)) [] cf
def Qiz (Γ:Gam) (rv:Bool) (a:Qad) (b:Qad) (i:Int):Prop:=Qfv Γ rv ⟨[.c 116,.l 116,.b 0,.c 15],⟨73,[vP 2 0 4,vP 3 1 4,vI 5 i],[oX 4 34 (Qad.enc a),oX 4 34 (Qad.enc b)]⟩⟩
def QhT (Γ:Gam) (rv:Bool) (a:Qad) (b:Qad):Prop:=Qfv Γ rv ⟨[.c 15],⟨73,[vP 2 0 4,vP 3 1 4],[oX 4 34 (Qad.enc a),oX 4 34 (Qad.enc b)]⟩⟩
def QiA (Γ:Gam) (rv:Bool) (a:Qad) (b:Qad) (i1:Int):Prop:=Qfv Γ rv ⟨[.c 244,.l 244,.b 2,.c 31],⟨73,[vP 2 0 4,vP 3 1 4,vI 6 i1],[oX 4 34 (Qad.enc a),oX 4 34 (Qad.enc b)]⟩⟩
def QhU (Γ:Gam) (rv:Bool) (a:Qad) (b:Qad):Prop:=Qfv Γ rv ⟨[.c 31],⟨73,[],[]⟩⟩
theorem Qnw (Γ:Gam) (rv:Bool) {a b} {s:Int} {e:(Unit)⊕(Bool)} (h:loopF (fun s=>QbN a b s) s=some e) (hD:sel e (fun e=>QhT Γ rv a b) (fun e=>e=rv)):Qiz Γ rv a b s:=by
 refine QaF (C:=fun (s:Int)=>Qiz Γ rv a b s) (D:=fun (e:(Unit)⊕(Bool))=>sel e (fun e=>QhT Γ rv a b) (fun e=>e=rv)) ?_ h hD
 clear h hD s e
 intro i z_ h hI hE
 replace h:QbN a b i=_:=h
 unfold QbN at h
 rcases Qah h with ⟨h1,h⟩|⟨h1,h⟩
 ·obtain ⟨x0,h2,h⟩:=Qae h
  obtain ⟨x1,h3,h⟩:=Qae h
  rcases Qah h with ⟨h4,h⟩|⟨h4,h⟩
  ·exact gn 14 [2,3,5] [0,1] [nL Qa5 a.rests,bT h1,hH (.draw 11 []),cE Qa5 h2,cE Qa5 h3,nF h4] (hI _ (oJ h))
  ·obtain rfl:=(hE _ (oJ h):_=rv)
   exact gr 12 [] [nL Qa5 a.rests,bT h1,hH (.draw 11 []),cE Qa5 h2,cE Qa5 h3,nT h4]
 ·exact gn 5 [2,3] [0,1] [nL Qa5 a.rests,bF h1] (hE _ (oJ h))
theorem Qnx (Γ:Gam) (rv:Bool) {a b} {s:Int} {e:(Unit)⊕(Bool)} (h:loopF (fun s=>Qbw a b s) s=some e) (hD:sel e (fun e=>QhU Γ rv a b) (fun e=>e=rv)):QiA Γ rv a b s:=by
 refine QaF (C:=fun (s:Int)=>QiA Γ rv a b s) (D:=fun (e:(Unit)⊕(Bool))=>sel e (fun e=>QhU Γ rv a b) (fun e=>e=rv)) ?_ h hD
 clear h hD s e
 intro i1 z_ h hI hE
 replace h:Qbw a b i1=_:=h
 unfold Qbw at h
 rcases Qah h with ⟨h6,h⟩|⟨h6,h⟩
 ·obtain ⟨x2,h7,h⟩:=Qae h
  obtain ⟨x3,h8,h⟩:=Qae h
  rcases Qah h with ⟨h9,h⟩|⟨h9,h⟩
  ·exact gn 14 [2,3,6] [0,1] [nL Qaa.enc a.visits,bT h6,hH (.draw 11 []),cE Qaa.enc h7,cE Qaa.enc h8,nF h9] (hI _ (oJ h))
  ·obtain rfl:=(hE _ (oJ h):_=rv)
   exact gr 12 [] [nL Qaa.enc a.visits,bT h6,hH (.draw 11 []),cE Qaa.enc h7,cE Qaa.enc h8,nT h9]
 ·exact gn 5 [] [] [nL Qaa.enc a.visits,bF h6] (hE _ (oJ h))
theorem QjA {a b} {rv:Bool} (h:QeY a b=some rv):AFn Tryz.prog 72 [.agg (Qad.enc a),.agg (Qad.enc b)] [] (one (.bool rv)) []:=by
 refine QaK Tryz.func72 (by kernel_rfl) (by kernel_rfl) (fun Γ=>?_)
 unfold QeY at h
 rcases Qah h with ⟨h0,h⟩|⟨h0,h⟩
 ·obtain rfl:=Option.some.inj h
  exact gr 8 [] [rp 9 hP,rp 4 (oI ((neI a.type_ b.type_)=false)),oR True ((neI a.type_ b.type_)=false),rp 2 (oI (((neI a.type_ b.type_)||(neI a.start b.start))=false)),nL Qa5 a.rests,hP,hP,hP,rp 2 (oI (((neI a.type_ b.type_)||(neI a.start b.start))=false)),nL Qa5 b.rests,rp 5 hP,rp 2 (oI (((neI a.type_ b.type_)||(neI a.start b.start))=false)),oR True (((neI a.type_ b.type_)||(neI a.start b.start))=false),rp 2 (oI ((((neI a.type_ b.type_)||(neI a.start b.start))||(neI (lenI a.rests) (lenI b.rests)))=false)),nL Qaa.enc a.visits,hP,hP,hP,rp 2 (oI ((((neI a.type_ b.type_)||(neI a.start b.start))||(neI (lenI a.rests) (lenI b.rests)))=false)),nL Qaa.enc b.visits,hP,hP,rp 2 (oI ((((neI a.type_ b.type_)||(neI a.start b.start))||(neI (lenI a.rests) (lenI b.rests)))=false)),oR True ((((neI a.type_ b.type_)||(neI a.start b.start))||(neI (lenI a.rests) (lenI b.rests)))=false),bT h0]
 ·obtain ⟨e0,h5,h⟩:=Qae h
  refine gn 12 [2,3,5] [0,1] [rp 9 hP,rp 4 (oI ((neI a.type_ b.type_)=false)),oR True ((neI a.type_ b.type_)=false),rp 2 (oI (((neI a.type_ b.type_)||(neI a.start b.start))=false)),nL Qa5 a.rests,hP,hP,hP,rp 2 (oI (((neI a.type_ b.type_)||(neI a.start b.start))=false)),nL Qa5 b.rests,rp 5 hP,rp 2 (oI (((neI a.type_ b.type_)||(neI a.start b.start))=false)),oR True (((neI a.type_ b.type_)||(neI a.start b.start))=false),rp 2 (oI ((((neI a.type_ b.type_)||(neI a.start b.start))||(neI (lenI a.rests) (lenI b.rests)))=false)),nL Qaa.enc a.visits,hP,hP,hP,rp 2 (oI ((((neI a.type_ b.type_)||(neI a.start b.start))||(neI (lenI a.rests) (lenI b.rests)))=false)),nL Qaa.enc b.visits,hP,hP,rp 2 (oI ((((neI a.type_ b.type_)||(neI a.start b.start))||(neI (lenI a.rests) (lenI b.rests)))=false)),oR True ((((neI a.type_ b.type_)||(neI a.start b.start))||(neI (lenI a.rests) (lenI b.rests)))=false),bF h0] (Qnw Γ rv h5 ?_)
  rcases e0 with e0|e0
  ·replace h:(bnd (loopF (fun s=>Qbw a b s) 0) (fun e=>sel e (fun (_:Unit)=>some true) (fun r=>some r)):Option Bool)=some _:=h
   obtain ⟨e1,h10,h⟩:=Qae h
   refine gn 5 [2,3,6] [0,1] [] (Qnx Γ rv h10 ?_)
   rcases e1 with e1|e1
   ·replace h:(some true:Option Bool)=some _:=h
    obtain rfl:=Option.some.inj h
    exact gr 2 [] []
   ·obtain ⟨r,rfl⟩:∃ x,x=e1:=⟨_,rfl⟩
    replace h:(some r:Option Bool)=some _:=h
    exact Option.some.inj h
  ·obtain ⟨r1,rfl⟩:∃ x,x=e0:=⟨_,rfl⟩
   replace h:(some r1:Option Bool)=some _:=h
   exact Option.some.inj h
def Qh5 (Γ:Gam) (rv:Bool) (cf:Cf):Prop:=Go Tryz.prog Tryz.f34 [] Γ (one (.bool rv)) [] cf
def Qmu (Γ:Gam) (rv:Bool) (a:Qas) (b:Qas) (i:Int):Prop:=Qh5 Γ rv ⟨[.c 116,.l 116,.b 0,.c 15],⟨60,[vP 2 0 2,vP 3 1 2,vI 5 i],[oX 2 44 (Qas.enc a),oX 2 44 (Qas.enc b)]⟩⟩
def QlH (Γ:Gam) (rv:Bool) (a:Qas) (b:Qas):Prop:=Qh5 Γ rv ⟨[.c 15],⟨60,[vP 2 0 2,vP 3 1 2],[oX 2 44 (Qas.enc a),oX 2 44 (Qas.enc b)]⟩⟩
def Qmv (Γ:Gam) (rv:Bool) (a:Qas) (b:Qas) (i1:Int):Prop:=Qh5 Γ rv ⟨[.c 244,.l 244,.b 2,.c 31],⟨60,[vP 2 0 2,vP 3 1 2,vI 6 i1],[oX 2 44 (Qas.enc a),oX 2 44 (Qas.enc b)]⟩⟩
def QlI (Γ:Gam) (rv:Bool) (a:Qas) (b:Qas):Prop:=Qh5 Γ rv ⟨[.c 31],⟨60,[],[]⟩⟩
theorem QqR (Γ:Gam) (rv:Bool) {a b} {s:Int} {e:(Unit)⊕(Bool)} (h:loopF (fun s=>Qdf a b s) s=some e) (hD:sel e (fun e=>QlH Γ rv a b) (fun e=>e=rv)):Qmu Γ rv a b s:=by
 refine QaF (C:=fun (s:Int)=>Qmu Γ rv a b s) (D:=fun (e:(Unit)⊕(Bool))=>sel e (fun e=>QlH Γ rv a b) (fun e=>e=rv)) ?_ h hD
 clear h hD s e
 intro i z_ h hI hE
 replace h:Qdf a b i=_:=h
 unfold Qdf at h
 rcases Qah h with ⟨h1,h⟩|⟨h1,h⟩
 ·obtain ⟨x0,h2,h⟩:=Qae h
  obtain ⟨x1,h3,h⟩:=Qae h
  obtain ⟨r,h4,h⟩:=Qae h
  rcases Qah h with ⟨h5,h⟩|⟨h5,h⟩
  ·exact gn 14 [2,3,5] [0,1] [nL Qad.enc a.routes,bT h1,hH (.draw 12 []),cE Qad.enc h2,cE Qad.enc h3,cC (QjA h4),nF h5] (hI _ (oJ h))
  ·obtain rfl:=(hE _ (oJ h):_=rv)
   exact gr 12 [] [nL Qad.enc a.routes,bT h1,hH (.draw 12 []),cE Qad.enc h2,cE Qad.enc h3,cC (QjA h4),nT h5]
 ·exact gn 5 [2,3] [0,1] [nL Qad.enc a.routes,bF h1] (hE _ (oJ h))
theorem QqS (Γ:Gam) (rv:Bool) {a b} {s:Int} {e:(Unit)⊕(Bool)} (h:loopF (fun s=>QcP a b s) s=some e) (hD:sel e (fun e=>QlI Γ rv a b) (fun e=>e=rv)):Qmv Γ rv a b s:=by
 refine QaF (C:=fun (s:Int)=>Qmv Γ rv a b s) (D:=fun (e:(Unit)⊕(Bool))=>sel e (fun e=>QlI Γ rv a b) (fun e=>e=rv)) ?_ h hD
 clear h hD s e
 intro i1 z_ h hI hE
 replace h:QcP a b i1=_:=h
 unfold QcP at h
 rcases Qah h with ⟨h7,h⟩|⟨h7,h⟩
 ·obtain ⟨x2,h8,h⟩:=Qae h
  obtain ⟨x3,h9,h⟩:=Qae h
  rcases Qah h with ⟨h10,h⟩|⟨h10,h⟩
  ·obtain rfl:=(hE _ (oJ h):_=rv)
   exact gr 12 [] [nL e_i64 a.unserved,bT h7,hH (.draw 11 []),cE e_i64 h8,cE e_i64 h9,bT h10]
  ·exact gn 14 [2,3,6] [0,1] [nL e_i64 a.unserved,bT h7,hH (.draw 11 []),cE e_i64 h8,cE e_i64 h9,bF h10] (hI _ (oJ h))
 ·exact gn 5 [] [] [nL e_i64 a.unserved,bF h7] (hE _ (oJ h))
theorem Qso {a b} {rv:Bool} (h:QjQ a b=some rv):AFn Tryz.prog 34 [.agg (Qas.enc a),.agg (Qas.enc b)] [] (one (.bool rv)) []:=by
 refine QaK Tryz.func34 (by kernel_rfl) (by kernel_rfl) (fun Γ=>?_)
 unfold QjQ at h
 rcases Qah h with ⟨h0,h⟩|⟨h0,h⟩
 ·obtain rfl:=Option.some.inj h
  exact gr 8 [] [nL Qad.enc a.routes,nL Qad.enc b.routes,hP,hP,hP,rp 2 (oI ((neI (lenI a.routes) (lenI b.routes))=false)),nL e_i64 a.unserved,hP,hP,hP,rp 2 (oI ((neI (lenI a.routes) (lenI b.routes))=false)),nL e_i64 b.unserved,hP,hP,rp 2 (oI ((neI (lenI a.routes) (lenI b.routes))=false)),oR True ((neI (lenI a.routes) (lenI b.routes))=false),bT h0]
 ·obtain ⟨e0,h6,h⟩:=Qae h
  refine gn 12 [2,3,5] [0,1] [nL Qad.enc a.routes,nL Qad.enc b.routes,hP,hP,hP,rp 2 (oI ((neI (lenI a.routes) (lenI b.routes))=false)),nL e_i64 a.unserved,hP,hP,hP,rp 2 (oI ((neI (lenI a.routes) (lenI b.routes))=false)),nL e_i64 b.unserved,hP,hP,rp 2 (oI ((neI (lenI a.routes) (lenI b.routes))=false)),oR True ((neI (lenI a.routes) (lenI b.routes))=false),bF h0] (QqR Γ rv h6 ?_)
  rcases e0 with e0|e0
  ·replace h:(bnd (loopF (fun s=>QcP a b s) 0) (fun e=>sel e (fun (_:Unit)=>some true) (fun r1=>some r1)):Option Bool)=some _:=h
   obtain ⟨e1,h11,h⟩:=Qae h
   refine gn 5 [2,3,6] [0,1] [] (QqS Γ rv h11 ?_)
   rcases e1 with e1|e1
   ·replace h:(some true:Option Bool)=some _:=h
    obtain rfl:=Option.some.inj h
    exact gr 2 [] []
   ·obtain ⟨r1,rfl⟩:∃ x,x=e1:=⟨_,rfl⟩
    replace h:(some r1:Option Bool)=some _:=h
    exact Option.some.inj h
  ·obtain ⟨r2,rfl⟩:∃ x,x=e0:=⟨_,rfl⟩
   replace h:(some r2:Option Bool)=some _:=h
   exact Option.some.inj h
theorem Qn9 {a b} {rv:Bool} (h:QhW a b=some rv):AFn Tryz.prog 13 [.agg (Qas.enc a),.agg (Qas.enc b)] [] (one (.bool rv)) []:=by
 refine QaK Tryz.func13 (by kernel_rfl) (by kernel_rfl) (fun Γ=>?_)
 unfold QhW at h
 obtain ⟨r,h0,h⟩:=Qae h
 obtain rfl:=Option.some.inj h
 exact gr 4 [] [cC (Qso h0)]
theorem QnN {x0 r at_} {rv:Bool} (h:Qfg x0 r at_=some rv):AFn Tryz.prog 3 [.agg (Qac.enc x0),.agg (Qad.enc r),.one (lI at_)] [] (one (.bool rv)) []:=by
 refine QaK Tryz.func3 (by kernel_rfl) (by kernel_rfl) (fun Γ=>?_)
 unfold Qfg at h
 obtain ⟨r1,h0,h⟩:=Qae h
 rcases Qah h with ⟨h1,h⟩|⟨h1,h⟩
 ·obtain ⟨r2,h2,h⟩:=Qae h
  rcases Qah h with ⟨h3,h⟩|⟨h3,h⟩
  ·obtain ⟨r3,h4,h⟩:=Qae h
   obtain ⟨r4,h5,h⟩:=Qae h
   rcases Qah h with ⟨h6,h⟩|⟨h6,h⟩
   ·obtain ⟨r5,h7,h⟩:=Qae h
    rcases Qah h with ⟨h8,h⟩|⟨h8,h⟩
    ·obtain ⟨r6,h9,h⟩:=Qae h
     obtain rfl:=Option.some.inj h
     exact gr 15 [] [cC (QbW h0),nF h1,nF h1,cC (QgP h2),nF h1,nF h1,nF h3,cC (Qa9 h4),cC (QjK h5),hH (.draw 10 [(6,8),(7,9)]),rp 4 hP,rp 2 (oI ((eqI r3.2.1 r4.2.1)=true)),oR True ((eqI r3.2.1 r4.2.1)=true),bT h6,bT h6,hH (.nilS 55 1 1),hH (.nilS 56 1 1),bT h6,oO (Eq.refl ([r3.1].map Qad.enc).length),oO (Eq.refl ([r4.1].map Qad.enc).length),cC (Qn9 h7),bT h6,bT h8,cC (Qcy h9),bT h8]
    ·obtain rfl:=Option.some.inj h
     exact gr 15 [] [cC (QbW h0),nF h1,nF h1,cC (QgP h2),nF h1,nF h1,nF h3,cC (Qa9 h4),cC (QjK h5),hH (.draw 10 [(6,8),(7,9)]),rp 4 hP,rp 2 (oI ((eqI r3.2.1 r4.2.1)=true)),oR True ((eqI r3.2.1 r4.2.1)=true),bT h6,bT h6,hH (.nilS 55 1 1),hH (.nilS 56 1 1),bT h6,oO (Eq.refl ([r3.1].map Qad.enc).length),oO (Eq.refl ([r4.1].map Qad.enc).length),cC (Qn9 h7),bT h6,bF h8,bF h8]
   ·obtain rfl:=Option.some.inj h
    exact gr 15 [] [cC (QbW h0),nF h1,nF h1,cC (QgP h2),nF h1,nF h1,nF h3,cC (Qa9 h4),cC (QjK h5),hH (.draw 10 [(6,8),(7,9)]),rp 4 hP,rp 2 (oI ((eqI r3.2.1 r4.2.1)=true)),oR True ((eqI r3.2.1 r4.2.1)=true),rp 4 (bF h6),fF,fF]
  ·obtain ⟨r7,h10,h⟩:=Qae h
   obtain rfl:=Option.some.inj h
   exact gr 8 [] [cC (QbW h0),nF h1,nF h1,cC (QgP h2),nF h1,nF h1,nT h3,cC (Qcy h10)]
 ·obtain ⟨r8,h11,h⟩:=Qae h
  obtain rfl:=Option.some.inj h
  exact gr 8 [] [cC (QbW h0),rp 4 (nT h1),tT,cC (Qcy h11)]
theorem QnO {x0 r at_ place} {rv:Bool} (h:Qfh x0 r at_ place=some rv):AFn Tryz.prog 5 [.agg (Qac.enc x0),.agg (Qad.enc r),.one (lI at_),.one (lI place)] [] (one (.bool rv)) []:=by
 refine QaK Tryz.func5 (by kernel_rfl) (by kernel_rfl) (fun Γ=>?_)
 unfold Qfh at h
 obtain ⟨r1,h0,h⟩:=Qae h
 rcases Qah h with ⟨h1,h⟩|⟨h1,h⟩
 ·obtain ⟨r2,h2,h⟩:=Qae h
  obtain rfl:=Option.some.inj h
  exact gr 8 [] [cC (QbW h0),hP,hP,hP,rp 2 (oI ((!r1)=false)),nL Qaa.enc r.visits,rp 6 hP,oI ((!r1)=false),oR True ((!r1)=false),rp 2 (oI (((!r1)||(gtI (lenI r.visits) 6))=false)),nL Qa5 r.rests,rp 6 hP,rp 2 (oI (((!r1)||(gtI (lenI r.visits) 6))=false)),oR True (((!r1)||(gtI (lenI r.visits) 6))=false),rp 2 (oI ((((!r1)||(gtI (lenI r.visits) 6))||(ltI place (lenI r.rests)))=false)),nL Qaa.enc r.visits,hP,hP,rp 2 (oI ((((!r1)||(gtI (lenI r.visits) 6))||(ltI place (lenI r.rests)))=false)),oR True ((((!r1)||(gtI (lenI r.visits) 6))||(ltI place (lenI r.rests)))=false),bT h1,cC (Qcy h2)]
 ·obtain ⟨r3,h3,h⟩:=Qae h
  rcases Qah h with ⟨h4,h⟩|⟨h4,h⟩
  ·obtain ⟨r4,h5,h⟩:=Qae h
   obtain rfl:=Option.some.inj h
   exact gr 15 [] [cC (QbW h0),hP,hP,hP,rp 2 (oI ((!r1)=false)),nL Qaa.enc r.visits,rp 6 hP,oI ((!r1)=false),oR True ((!r1)=false),rp 2 (oI (((!r1)||(gtI (lenI r.visits) 6))=false)),nL Qa5 r.rests,rp 6 hP,rp 2 (oI (((!r1)||(gtI (lenI r.visits) 6))=false)),oR True (((!r1)||(gtI (lenI r.visits) 6))=false),rp 2 (oI ((((!r1)||(gtI (lenI r.visits) 6))||(ltI place (lenI r.rests)))=false)),nL Qaa.enc r.visits,hP,hP,rp 2 (oI ((((!r1)||(gtI (lenI r.visits) 6))||(ltI place (lenI r.rests)))=false)),oR True ((((!r1)||(gtI (lenI r.visits) 6))||(ltI place (lenI r.rests)))=false),bF h1,cC (QfF h3),nL Qaa.enc r3,bT h4,cC (Qcy h5)]
  ·obtain ⟨l,h6,h⟩:=Qae h
   obtain ⟨h7,h⟩:=Qat h
   obtain ⟨x1,h8,h⟩:=Qae h
   obtain ⟨h9,h⟩:=Qat h
   obtain ⟨l1,h10,h⟩:=Qae h
   obtain ⟨h11,h⟩:=Qat h
   obtain ⟨r5,h12,h⟩:=Qae h
   obtain ⟨r6,h13,h⟩:=Qae h
   rcases Qah h with ⟨h14,h⟩|⟨h14,h⟩
   ·obtain ⟨r7,h15,h⟩:=Qae h
    obtain rfl:=Option.some.inj h
    exact gr 32 [] [cC (QbW h0),hP,hP,hP,rp 2 (oI ((!r1)=false)),nL Qaa.enc r.visits,rp 6 hP,oI ((!r1)=false),oR True ((!r1)=false),rp 2 (oI (((!r1)||(gtI (lenI r.visits) 6))=false)),nL Qa5 r.rests,rp 6 hP,rp 2 (oI (((!r1)||(gtI (lenI r.visits) 6))=false)),oR True (((!r1)||(gtI (lenI r.visits) 6))=false),rp 2 (oI ((((!r1)||(gtI (lenI r.visits) 6))||(ltI place (lenI r.rests)))=false)),nL Qaa.enc r.visits,hP,hP,rp 2 (oI ((((!r1)||(gtI (lenI r.visits) 6))||(ltI place (lenI r.rests)))=false)),oR True ((((!r1)||(gtI (lenI r.visits) 6))||(ltI place (lenI r.rests)))=false),bF h1,cC (QfF h3),nL Qaa.enc r3,bF h4,rp 2 (hH (.rows (l.map Qaa.enc))),hH (.draw 6 []),oO (sl1 h6),oO (sl2 h6),oO (sl3 Qaa.enc h6),oO (Int.le_refl place),oO (sl3 Qaa.enc h6),oO (sl6 Qaa.enc h6),oO (Eq.refl (l.map Qaa.enc)),oO (neZ Qaa.enc l),oO (okLe (l:=(l:List Qaa)) Qaa.enc h7),oO (okLe2 (l:=(l:List Qaa)) (b:=16) Qaa.enc (by decide) h7),cE Qaa.enc h8,oO (Eq.refl ([x1].map Qaa.enc).length),aO Qaa.enc h9,hH (.draw 6 []),hH (.rows (l1.map Qaa.enc)),hH (.rows (((l++[x1])++l1).map Qaa.enc)),oO (sl1 h10),oO (sl2h Qaa.enc h10),rp 3 (oO (Int.le_refl ((r.visits.map Qaa.enc).length:Int))),oO (sl6h Qaa.enc h10),oO (Eq.refl ((l++[x1]).map Qaa.enc).length),oO (appM Qaa.enc (l++[x1]) l1),oO (okLe (l:=(((l++[x1])++l1):List Qaa)) Qaa.enc h11),oO (okLe2 (l:=(((l++[x1])++l1):List Qaa)) (b:=16) Qaa.enc (by decide) h11),oO (Eq.refl (((l++[x1])++l1).map Qaa.enc).length),cC (Qc8 h12),cC (Qa9 h13),bT h14,cC (Qcy h15)]
   ·obtain ⟨r8,h16,h⟩:=Qae h
    rcases Qah h with ⟨h17,h⟩|⟨h17,h⟩
    ·obtain ⟨r9,h18,h⟩:=Qae h
     obtain rfl:=Option.some.inj h
     exact gr 35 [] [cC (QbW h0),hP,hP,hP,rp 2 (oI ((!r1)=false)),nL Qaa.enc r.visits,rp 6 hP,oI ((!r1)=false),oR True ((!r1)=false),rp 2 (oI (((!r1)||(gtI (lenI r.visits) 6))=false)),nL Qa5 r.rests,rp 6 hP,rp 2 (oI (((!r1)||(gtI (lenI r.visits) 6))=false)),oR True (((!r1)||(gtI (lenI r.visits) 6))=false),rp 2 (oI ((((!r1)||(gtI (lenI r.visits) 6))||(ltI place (lenI r.rests)))=false)),nL Qaa.enc r.visits,hP,hP,rp 2 (oI ((((!r1)||(gtI (lenI r.visits) 6))||(ltI place (lenI r.rests)))=false)),oR True ((((!r1)||(gtI (lenI r.visits) 6))||(ltI place (lenI r.rests)))=false),bF h1,cC (QfF h3),nL Qaa.enc r3,bF h4,rp 2 (hH (.rows (l.map Qaa.enc))),hH (.draw 6 []),oO (sl1 h6),oO (sl2 h6),oO (sl3 Qaa.enc h6),oO (Int.le_refl place),oO (sl3 Qaa.enc h6),oO (sl6 Qaa.enc h6),oO (Eq.refl (l.map Qaa.enc)),oO (neZ Qaa.enc l),oO (okLe (l:=(l:List Qaa)) Qaa.enc h7),oO (okLe2 (l:=(l:List Qaa)) (b:=16) Qaa.enc (by decide) h7),cE Qaa.enc h8,oO (Eq.refl ([x1].map Qaa.enc).length),aO Qaa.enc h9,hH (.draw 6 []),hH (.rows (l1.map Qaa.enc)),hH (.rows (((l++[x1])++l1).map Qaa.enc)),oO (sl1 h10),oO (sl2h Qaa.enc h10),rp 3 (oO (Int.le_refl ((r.visits.map Qaa.enc).length:Int))),oO (sl6h Qaa.enc h10),oO (Eq.refl ((l++[x1]).map Qaa.enc).length),oO (appM Qaa.enc (l++[x1]) l1),oO (okLe (l:=(((l++[x1])++l1):List Qaa)) Qaa.enc h11),oO (okLe2 (l:=(((l++[x1])++l1):List Qaa)) (b:=16) Qaa.enc (by decide) h11),oO (Eq.refl (((l++[x1])++l1).map Qaa.enc).length),cC (Qc8 h12),cC (Qa9 h13),bF h14,cC (Qc8 h16),rp 11 hP,oI ((eqI r6.2.2 0)=true),oR True ((eqI r6.2.2 0)=true),rp 2 (oI (((eqI r6.2.2 0)&&(eqI r8.2 0))=true)),oR True (((eqI r6.2.2 0)&&(eqI r8.2 0))=true),rp 2 (oI ((((eqI r6.2.2 0)&&(eqI r8.2 0))&&(eqI r8.1 r6.2.1))=true)),oR True ((((eqI r6.2.2 0)&&(eqI r8.2 0))&&(eqI r8.1 r6.2.1))=true),bT h17,cC (Qcy h18),bT h17]
    ·obtain rfl:=Option.some.inj h
     exact gr 35 [] [cC (QbW h0),hP,hP,hP,rp 2 (oI ((!r1)=false)),nL Qaa.enc r.visits,rp 6 hP,oI ((!r1)=false),oR True ((!r1)=false),rp 2 (oI (((!r1)||(gtI (lenI r.visits) 6))=false)),nL Qa5 r.rests,rp 6 hP,rp 2 (oI (((!r1)||(gtI (lenI r.visits) 6))=false)),oR True (((!r1)||(gtI (lenI r.visits) 6))=false),rp 2 (oI ((((!r1)||(gtI (lenI r.visits) 6))||(ltI place (lenI r.rests)))=false)),nL Qaa.enc r.visits,hP,hP,rp 2 (oI ((((!r1)||(gtI (lenI r.visits) 6))||(ltI place (lenI r.rests)))=false)),oR True ((((!r1)||(gtI (lenI r.visits) 6))||(ltI place (lenI r.rests)))=false),bF h1,cC (QfF h3),nL Qaa.enc r3,bF h4,rp 2 (hH (.rows (l.map Qaa.enc))),hH (.draw 6 []),oO (sl1 h6),oO (sl2 h6),oO (sl3 Qaa.enc h6),oO (Int.le_refl place),oO (sl3 Qaa.enc h6),oO (sl6 Qaa.enc h6),oO (Eq.refl (l.map Qaa.enc)),oO (neZ Qaa.enc l),oO (okLe (l:=(l:List Qaa)) Qaa.enc h7),oO (okLe2 (l:=(l:List Qaa)) (b:=16) Qaa.enc (by decide) h7),cE Qaa.enc h8,oO (Eq.refl ([x1].map Qaa.enc).length),aO Qaa.enc h9,hH (.draw 6 []),hH (.rows (l1.map Qaa.enc)),hH (.rows (((l++[x1])++l1).map Qaa.enc)),oO (sl1 h10),oO (sl2h Qaa.enc h10),rp 3 (oO (Int.le_refl ((r.visits.map Qaa.enc).length:Int))),oO (sl6h Qaa.enc h10),oO (Eq.refl ((l++[x1]).map Qaa.enc).length),oO (appM Qaa.enc (l++[x1]) l1),oO (okLe (l:=(((l++[x1])++l1):List Qaa)) Qaa.enc h11),oO (okLe2 (l:=(((l++[x1])++l1):List Qaa)) (b:=16) Qaa.enc (by decide) h11),oO (Eq.refl (((l++[x1])++l1).map Qaa.enc).length),cC (Qc8 h12),cC (Qa9 h13),bF h14,cC (Qc8 h16),rp 11 hP,oI ((eqI r6.2.2 0)=true),oR True ((eqI r6.2.2 0)=true),rp 2 (oI (((eqI r6.2.2 0)&&(eqI r8.2 0))=true)),oR True (((eqI r6.2.2 0)&&(eqI r8.2 0))=true),rp 2 (oI ((((eqI r6.2.2 0)&&(eqI r8.2 0))&&(eqI r8.1 r6.2.1))=true)),oR True ((((eqI r6.2.2 0)&&(eqI r8.2 0))&&(eqI r8.1 r6.2.1))=true),rp 2 (bF h17)]
end Go.Proofs.YtpkkaboonnedfaaGreatDoor
