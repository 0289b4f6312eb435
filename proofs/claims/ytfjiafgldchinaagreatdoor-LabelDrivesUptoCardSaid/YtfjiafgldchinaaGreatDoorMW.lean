/- Part MW of the proof: texts L2. -/
import Derived.Test.YtfjiafgldchinaaGreatDoorMV
import Derived.Test.YtfjiafgldchinaaGreatDoorProg
namespace Go.Proofs.YtfjiafgldchinaaGreatDoor
set_option linter.unusedVariables false
set_option linter.unusedSectionVars false
set_option linter.unusedSimpArgs false
set_option maxHeartbeats 4000000
set_option maxRecDepth 100000
theorem QfG {x0 t s0 to_ close late} {rv:Qat×Int} (h:Qcf x0 t s0 to_ close late=some rv):AFn Tryz.prog 121 [.agg (Qac.enc x0),.agg (Qah.enc t),.agg (Qat.enc s0),.one (lI to_),.one (lI close),.one (lI late)] [] (.tup [.agg [lI rv.1.place,lI rv.1.time,lI rv.1.driven,lI rv.1.miles],.one (lI rv.2)]) []:=by
 refine QaM Tryz.func121 (by kernel_rfl) (by kernel_rfl) (fun Γ=>?_)
 unfold Qcf at h
 obtain ⟨r,h0,h⟩:=Qae h
 rcases Qai h with ⟨h1,h⟩|⟨h1,h⟩
 ·rcases Qai h with ⟨h2,h⟩|⟨h2,h⟩
  ·obtain rfl:=Option.some.inj h
   exact gr 15 [] [cC (Qgb h0),nF h1,bT h2]
  ·rcases Qai h with ⟨h3,h⟩|⟨h3,h⟩
   ·obtain rfl:=Option.some.inj h
    exact gr 22 [] [cC (Qgb h0),nF h1,bF h2,bT h3]
   ·obtain rfl:=Option.some.inj h
    exact gr 23 [] [cC (Qgb h0),nF h1,bF h2,bF h3]
 ·obtain rfl:=Option.some.inj h
  exact gr 10 [] [cC (Qgb h0),nT h1]
def QmZ (Γ:Gam) (rv:QaB×List Int×Int) (cf:Cf):Prop:=Go Tryz.prog Tryz.f92 [] Γ (.tup [.agg [.bool rv.1.rest_,lI rv.1.depart,lL 4 rv.1.times QaN.enc,lI rv.1.end_,lI rv.1.miles],.one (lL 1 rv.2.1 e_i64),.one (lI rv.2.2)]) [] cf
def Qkz (Γ:Gam) (rv:QaB×List Int×Int) (x0:Qac) (r:Qaw) (rests:List Bool) (x1:Qah) (x2:Bool) (l:List Int) (l1:List QaN) (x3:Qat) (depart:Int) (i:Int):Prop:=QmZ Γ rv ⟨[.c 2036,.l 2036,.b 0,.c 255],⟨161,[vL 2 1 rests QgD,vP 3 0 6,vP 4 1 4,vP 6 2 5,vP 9 3 14,vP 10 4 4,vP 11 5 5,vO 12 6 1 l e_i64,vI 13 i],[oX 6 30 (Qac.enc x0),oX 4 66 (Qaw.enc r),oX 5 102 [.bool false,lI 0,.nils,lI 0,lI 0],oX 14 79 (Qah.enc x1),oX 4 178 (Qat.enc x3),oX 5 102 [.bool x2,lI depart,lO 7 4 l1 QaN.enc,lI 0,lI 0],oS 1 3 l e_i64,oS 4 185 l1 QaN.enc]⟩⟩
def QjP (Γ:Gam) (rv:QaB×List Int×Int) (x0:Qac) (r:Qaw) (rests:List Bool) (x1:Qah) (x2:Bool) (l2:List Int) (l3:List QaN) (x6:Qat) (depart1:Int):Prop:=QmZ Γ rv ⟨[.c 255],⟨161,[vP 3 0 6,vP 6 1 5,vP 9 2 14,vP 10 3 4,vP 11 4 5,vO 12 5 1 l2 e_i64],[oX 6 30 (Qac.enc x0),oX 5 102 [.bool false,lI 0,.nils,lI 0,lI 0],oX 14 79 (Qah.enc x1),oX 4 178 (Qat.enc x6),oX 5 102 [.bool x2,lI depart1,lO 6 4 l3 QaN.enc,lI 0,lI 0],oS 1 3 l2 e_i64,oS 4 185 l3 QaN.enc]⟩⟩
theorem Qn9 (Γ:Gam) (rv:QaB×List Int×Int) {x0 r rests x1 x2} {s:List Int×List QaN×Qat×Int×Int} {e:(List Int×List QaN×Qat×Int)⊕(QaB×List Int×Int)} (h:loopF (fun s=>QdK x0 r rests x1 x2 s.1 s.2.1 s.2.2.1 s.2.2.2.1 s.2.2.2.2) s=some e) (hD:sel e (fun e=>QjP Γ rv x0 r rests x1 x2 e.1 e.2.1 e.2.2.1 e.2.2.2) (fun e=>e=rv)):Qkz Γ rv x0 r rests x1 x2 s.1 s.2.1 s.2.2.1 s.2.2.2.1 s.2.2.2.2:=by
 refine Qaz (C:=fun (s:List Int×List QaN×Qat×Int×Int)=>Qkz Γ rv x0 r rests x1 x2 s.1 s.2.1 s.2.2.1 s.2.2.2.1 s.2.2.2.2) (D:=fun (e:(List Int×List QaN×Qat×Int)⊕(QaB×List Int×Int))=>sel e (fun e=>QjP Γ rv x0 r rests x1 x2 e.1 e.2.1 e.2.2.1 e.2.2.2) (fun e=>e=rv)) ?_ h hD
 clear h hD s e
 rintro ⟨l,l1,x3,depart,i⟩ z_ h hI hE
 replace h:QdK x0 r rests x1 x2 l l1 x3 depart i=_:=h
 unfold QdK at h
 rcases Qai h with ⟨h5,h⟩|⟨h5,h⟩
 ·obtain ⟨x4,h6,h⟩:=Qae h
  obtain ⟨r3,h7,h⟩:=Qae h
  obtain ⟨r4,h8,h⟩:=Qae h
  rcases Qai h with ⟨h9,h⟩|⟨h9,h⟩
  ·obtain rfl:=(hE _ (oJ h):_=rv)
   exact gr 17 [] [nL Qab.enc r.visits,bT h5,hH (.draw 13 [(8,11)]),cE Qab.enc h6,cC (QfH h7),cC (QfG h8),bT h9,hW 7,hH (.nilB 2 2 4),hH (.nilS 7 0 1)]
  ·obtain ⟨h10,h⟩:=Qas h
   obtain ⟨x5,h11,h⟩:=Qae h
   obtain ⟨r5,h12,h⟩:=Qae h
   obtain ⟨h13,h⟩:=Qas h
   exact gn 30 [2,3,4,6,9,10,11,12,13] [0,1,2,3,4,5,11,14] [nL Qab.enc r.visits,bT h5,hH (.draw 13 [(8,11)]),cE Qab.enc h6,cC (QfH h7),cC (QfG h8),bF h9,oO (Eq.refl ([r4.1.driven].map e_i64).length),aO e_i64 h10,hH (.draw 14 []),cE QgD h11,hH (.draw 8 []),cE QgD h11,cC (Qlk h12),oO (Eq.refl ([(QaN.mk r4.1.time (maxI r4.1.time r3.1.open_) r5.time x5)].map QaN.enc).length),aO QaN.enc h13] (hI _ (oJ h))
 ·exact gn 5 [3,6,9,10,11,12] [0,2,3,4,5,6,7] [nL Qab.enc r.visits,bF h5] (hE _ (oJ h))
theorem QpN {x0 r rests} {rv:QaB×List Int×Int} (h:QfF x0 r rests=some rv):AFn Tryz.prog 92 [.agg (Qac.enc x0),.agg (Qaw.enc r),.one (lL 1 rests QgD)] [] (.tup [.agg [.bool rv.1.rest_,lI rv.1.depart,lL 4 rv.1.times QaN.enc,lI rv.1.end_,lI rv.1.miles],.one (lL 1 rv.2.1 e_i64),.one (lI rv.2.2)]) []:=by
 refine QaM Tryz.func92 (by kernel_rfl) (by kernel_rfl) (fun Γ=>?_)
 unfold QfF at h
 obtain ⟨r1,h0,h⟩:=Qae h
 rcases Qai h with ⟨h1,h⟩|⟨h1,h⟩
 ·obtain rfl:=Option.some.inj h
  exact gr 8 [] [cC (Qit h0),hP,hP,oI ((!r1)=false),nL QgD rests,hP,hP,hP,rp 2 (oI ((!r1)=false)),nL Qab.enc r.visits,hP,hP,hP,rp 3 (oI ((!r1)=false)),oR True ((!r1)=false),bT h1,hW 6,hH (.nilB 2 2 4),hH (.nilS 7 0 1)]
 ·obtain ⟨x1,h2,h⟩:=Qae h
  obtain ⟨x2,h3,h⟩:=Qae h
  obtain ⟨r2,h4,h⟩:=Qae h
  obtain ⟨e0,h14,h⟩:=Qae h
  refine gn 20 [2,3,4,6,9,10,11,12,13] [0,1,2,3,4,5,6,7] [cC (Qit h0),hP,hP,oI ((!r1)=false),nL QgD rests,hP,hP,hP,rp 2 (oI ((!r1)=false)),nL Qab.enc r.visits,hP,hP,hP,rp 3 (oI ((!r1)=false)),oR True ((!r1)=false),bF h1,cE Qah.enc h2,hH (.draw 14 []),cE QgD h3,cC (Qlk h4),hH (.draw 7 []),cE QgD h3,hW 10,hH (.adopt 12 1 3),hH (.adoptB 5 2 4 185)] (Qn9 Γ rv h14 ?_)
  rcases e0 with e0|e0
  ·obtain ⟨l2,l3,x6,depart1⟩:=e0
   replace h:(bnd (Qcf x0 x1 x6 x1.to_ x1.close 15) fun r6=>br (neI r6.2 0) (some ((QaB.mk false 0 [] 0 0),[],r6.2)) (chk (okN (l2++[r6.1.driven]).length 8) (some ((QaB.mk x2 depart1 l3 r6.1.time r6.1.miles),(l2++[r6.1.driven]),0))):Option (QaB×List Int×Int))=some _:=h
   obtain ⟨r6,h15,h⟩:=Qae h
   rcases Qai h with ⟨h16,h⟩|⟨h16,h⟩
   ·obtain rfl:=Option.some.inj h
    exact gr 8 [] [cC (QfG h15),bT h16,hW 7,hH (.nilB 1 2 4),hH (.nilS 7 0 1)]
   ·obtain ⟨h17,h⟩:=Qas h
    obtain rfl:=Option.some.inj h
    exact gr 15 [] [cC (QfG h15),bF h16,oO (Eq.refl ([r6.1.driven].map e_i64).length),aO e_i64 h17,hW 20,hH (.frz 6),hH (.frz 9),rp 3 (eL l3 QaN.enc),rp 4 (oO (Eq.refl ((l2++[r6.1.driven]).map e_i64).length))]
  ·obtain ⟨r7,rfl⟩:∃ x,x=e0:=⟨_,rfl⟩
   replace h:(some r7:Option (QaB×List Int×Int))=some _:=h
   exact Option.some.inj h
theorem QpM {x0 r rests} {rv:QaB×Int} (h:QfE x0 r rests=some rv):AFn Tryz.prog 54 [.agg (Qac.enc x0),.agg (Qaw.enc r),.one (lL 1 rests QgD)] [] (.tup [.agg [.bool rv.1.rest_,lI rv.1.depart,lL 4 rv.1.times QaN.enc,lI rv.1.end_,lI rv.1.miles],.one (lI rv.2)]) []:=by
 refine QaM Tryz.func54 (by kernel_rfl) (by kernel_rfl) (fun Γ=>?_)
 unfold QfE at h
 obtain ⟨r1,h0,h⟩:=Qae h
 obtain rfl:=Option.some.inj h
 exact gr 6 [] [cC (QpN h0)]
theorem QjA {x0 m l rests} {rv:Bool} (h:QeP x0 m l rests=some rv):AFn Tryz.prog 18 [.agg (Qac.enc x0),.agg (Qad.enc m),.one (lL 2 l Qab.enc),.one (lL 1 rests QgD)] [] (one (.bool rv)) []:=by
 refine QaM Tryz.func18 (by kernel_rfl) (by kernel_rfl) (fun Γ=>?_)
 unfold QeP at h
 obtain ⟨r,h0,h⟩:=Qae h
 rcases Qai h with ⟨h1,h⟩|⟨h1,h⟩
 ·obtain ⟨r1,h2,h⟩:=Qae h
  obtain rfl:=Option.some.inj h
  exact gr 13 [] [cC (QdM h0),nF h1,hW 9,hH (.nilS 28 2 1),cC (QpM h2),rp 11 hP,rp 3 (oI ((eqI r1.2 0)=true)),oR True ((eqI r1.2 0)=true),rp 4 (oI (((eqI r1.2 0)&&(eqI r1.1.end_ r.1))=true)),oR True (((eqI r1.2 0)&&(eqI r1.1.end_ r.1))=true)]
 ·obtain rfl:=Option.some.inj h
  exact gr 10 [] [cC (QdM h0),nT h1]
def QeC (Γ:Gam) (rv:Bool) (cf:Cf):Prop:=Go Tryz.prog Tryz.f4 [] Γ (one (.bool rv)) [] cf
def QdI (Γ:Gam) (rv:Bool) (x0:Qac) (w:QaC) (m:List Qad) (i:Int):Prop:=QeC Γ rv ⟨[.c 500,.l 500,.b 0,.c 63],⟨84,[vP 3 0 6,vL 7 2 w.visits Qab.enc,vL 8 1 w.rests QgD,vL 9 9 m Qad.enc,vI 10 i],[oX 6 30 (Qac.enc x0)]⟩⟩
def Qdx (Γ:Gam) (rv:Bool) (x0:Qac) (w:QaC):Prop:=QeC Γ rv ⟨[.c 63],⟨84,[],[]⟩⟩
theorem Qff (Γ:Gam) (rv:Bool) {x0 w m i k} {x:(List Qad×Int)⊕((Unit)⊕(Bool))} (h:QbB x0 w m i k=some x) (hI:∀ s:List Qad×Int,x=.inl s→QdI Γ rv x0 w s.1 s.2) (hE:∀ e:(Unit)⊕(Bool),x=.inr e→sel e (fun e=>Qdx Γ rv x0 w) (fun e=>e=rv)):QeC Γ rv ⟨[.c 32039,.b 1,.c 2003,.l 500,.b 0,.c 63],⟨84,[vP 3 0 6,vL 7 2 w.visits Qab.enc,vL 8 1 w.rests QgD,vL 9 9 m Qad.enc,vI 10 i,vI 11 k],[oX 6 30 (Qac.enc x0)]⟩⟩:=by
 unfold QbB at h
 rcases Qai h with ⟨h10,h⟩|⟨h10,h⟩
 ·obtain ⟨x2,h11,h⟩:=Qae h
  obtain ⟨r4,h12,h⟩:=Qae h
  rcases Qai h with ⟨h13,h⟩|⟨h13,h⟩
  ·obtain ⟨r5,h14,h⟩:=Qae h
   obtain rfl:=(hE _ (oJ h):_=rv)
   exact gr 6 [] [nL Qab.enc w.visits,bT h10,hH (.draw 12 []),cE Qad.enc h11,cC (QjA h12),bT h13,cC (QcR h14),bT h13]
  ·obtain rfl:=(hE _ (oJ h):_=rv)
   exact gr 6 [] [nL Qab.enc w.visits,bT h10,hH (.draw 12 []),cE Qad.enc h11,cC (QjA h12),rp 2 (bF h13)]
 ·obtain ⟨x3,h15,h⟩:=Qae h
  obtain ⟨x4,h16,h⟩:=Qae h
  obtain ⟨r6,h17,h⟩:=Qae h
  exact gn 9 [3,7,8,9,10] [0] [nL Qab.enc w.visits,bF h10,hH (.draw 10 []),cE Qad.enc h15,cE Qab.enc h16,cC (Qcd h17)] (hI _ (oJ h))
theorem Qjz (Γ:Gam) (rv:Bool) {x0 w} {s:List Qad×Int} {e:(Unit)⊕(Bool)} (h:loopF (fun s=>QbC x0 w s.1 s.2) s=some e) (hD:sel e (fun e=>Qdx Γ rv x0 w) (fun e=>e=rv)):QdI Γ rv x0 w s.1 s.2:=by
 refine Qaz (C:=fun (s:List Qad×Int)=>QdI Γ rv x0 w s.1 s.2) (D:=fun (e:(Unit)⊕(Bool))=>sel e (fun e=>Qdx Γ rv x0 w) (fun e=>e=rv)) ?_ h hD
 clear h hD s e
 rintro ⟨m,i⟩ z_ h hI hE
 replace h:QbC x0 w m i=_:=h
 unfold QbC at h
 rcases Qai h with ⟨h4,h⟩|⟨h4,h⟩
 ·rcases Qai h with ⟨h5,h⟩|⟨h5,h⟩
  ·rcases Qai h with ⟨h6,h⟩|⟨h6,h⟩
   ·obtain ⟨r3,h7,h⟩:=Qae h
    obtain rfl:=(hE _ (oJ h):_=rv)
    exact gr 13 [] [nL Qab.enc w.visits,bT h4,nL Qad.enc m,bT h5,nL Qad.enc m,bT h6,cC (QcR h7),bT h6]
   ·obtain rfl:=(hE _ (oJ h):_=rv)
    exact gr 13 [] [nL Qab.enc w.visits,bT h4,nL Qad.enc m,bT h5,nL Qad.enc m,bF h6,bF h6]
  ·obtain ⟨x1,h8,h⟩:=Qae h
   rcases Qai h with ⟨h9,h⟩|⟨h9,h⟩
   ·exact gn 19 [3,7,8,9,10,11] [0] [nL Qab.enc w.visits,bT h4,nL Qad.enc m,bF h5,cE QgD h8,bT h9] (Qff Γ rv h hI hE)
   ·exact gn 19 [3,7,8,9,10,11] [0] [nL Qab.enc w.visits,bT h4,nL Qad.enc m,bF h5,cE QgD h8,bF h9] (Qff Γ rv h hI hE)
 ·exact gn 5 [] [] [nL Qab.enc w.visits,bF h4] (hE _ (oJ h))
theorem Qk9 {x0 at_ w} {rv:Bool} (h:QdO x0 at_ w=some rv):AFn Tryz.prog 4 [.agg (Qac.enc x0),.agg (Qar.enc at_),.agg (QaC.enc w)] [] (one (.bool rv)) []:=by
 refine QaM Tryz.func4 (by kernel_rfl) (by kernel_rfl) (fun Γ=>?_)
 unfold QdO at h
 obtain ⟨r,h0,h⟩:=Qae h
 rcases Qai h with ⟨h1,h⟩|⟨h1,h⟩
 ·obtain ⟨r1,h2,h⟩:=Qae h
  obtain rfl:=Option.some.inj h
  exact gr 10 [] [hH (.draw 6 []),cC (Qga h0),hP,hP,oI ((!r)=false),nL Qab.enc w.visits,rp 4 hP,oI ((!r)=false),oR True ((!r)=false),oI (((!r)||(gtI (lenI w.visits) 12))=false),nL QgD w.rests,hP,hP,oI (((!r)||(gtI (lenI w.visits) 12))=false),nL Qab.enc w.visits,hP,hP,hP,rp 3 (oI (((!r)||(gtI (lenI w.visits) 12))=false)),oR True (((!r)||(gtI (lenI w.visits) 12))=false),bT h1,cC (QcR h2)]
 ·obtain ⟨r2,h3,h⟩:=Qae h
  obtain ⟨e0,h18,h⟩:=Qae h
  refine gn 16 [3,7,8,9,10] [0] [hH (.draw 6 []),cC (Qga h0),hP,hP,oI ((!r)=false),nL Qab.enc w.visits,rp 4 hP,oI ((!r)=false),oR True ((!r)=false),oI (((!r)||(gtI (lenI w.visits) 12))=false),nL QgD w.rests,hP,hP,oI (((!r)||(gtI (lenI w.visits) 12))=false),nL Qab.enc w.visits,hP,hP,hP,rp 3 (oI (((!r)||(gtI (lenI w.visits) 12))=false)),oR True (((!r)||(gtI (lenI w.visits) 12))=false),bF h1,oO (zL 0),oO (lT 0 2),oO (zL 1),oO (lT 1 2),cC (Qci h3)] (Qjz Γ rv h18 ?_)
  rcases e0 with e0|e0
  ·replace h:(bnd (QbE) fun r7=>some r7:Option Bool)=some _:=h
   obtain ⟨r7,h19,h⟩:=Qae h
   obtain rfl:=Option.some.inj h
   exact gr 2 [] [cC (QcR h19)]
  ·obtain ⟨r8,rfl⟩:∃ x,x=e0:=⟨_,rfl⟩
   replace h:(some r8:Option Bool)=some _:=h
   exact Option.some.inj h
end Go.Proofs.YtfjiafgldchinaaGreatDoor
