/- Part MW of the proof: texts L2. -/
import Derived.Test.YtfjiafgldchinaaGreatDoorMV
import Derived.Test.YtfjiafgldchinaaGreatDoorProg
namespace Go.Proofs.YtfjiafgldchinaaGreatDoor
set_option linter.unusedVariables false
set_option linter.unusedSectionVars false
set_option linter.unusedSimpArgs false
set_option maxHeartbeats 4000000
set_option maxRecDepth 100000
theorem QgI {x0 t s0 to_ close late} {rv:Qav×Int} (h:QcV x0 t s0 to_ close late=some rv):AFn Tryz.prog 121 [.agg (Qab.enc x0),.agg (Qag.enc t),.agg (Qav.enc s0),.one (lI to_),.one (lI close),.one (lI late)] [] (.tup [.agg [lI rv.1.place,lI rv.1.time,lI rv.1.driven,lI rv.1.miles],.one (lI rv.2)]) []:=by
 refine QaS Tryz.func121 (by kernel_rfl) (by kernel_rfl) (fun Γ=>?_)
 unfold QcV at h
 obtain ⟨r,h0,h⟩:=Qae h
 rcases Qah h with ⟨h1,h⟩|⟨h1,h⟩
 ·rcases Qah h with ⟨h2,h⟩|⟨h2,h⟩
  ·obtain rfl:=Option.some.inj h
   exact gr 15 [] [cC (Qhb h0),nF h1,bT h2]
  ·rcases Qah h with ⟨h3,h⟩|⟨h3,h⟩
   ·obtain rfl:=Option.some.inj h
    exact gr 22 [] [cC (Qhb h0),nF h1,bF h2,bT h3]
   ·obtain rfl:=Option.some.inj h
    exact gr 23 [] [cC (Qhb h0),nF h1,bF h2,bF h3]
 ·obtain rfl:=Option.some.inj h
  exact gr 10 [] [cC (Qhb h0),nT h1]
def QoU (Γ:Gam) (rv:Qap×List Int×Int) (cf:Cf):Prop:=Go Tryz.prog Tryz.f92 [] Γ (.tup [.agg [.bool rv.1.rest_,lI rv.1.depart,lL 4 rv.1.times QaF.enc,lI rv.1.end_,lI rv.1.miles],.one (lL 1 rv.2.1 Qax),.one (lI rv.2.2)]) [] cf
def QlU (Γ:Gam) (rv:Qap×List Int×Int) (x0:Qab) (r:Qam) (rests:List Bool) (x1:Qag) (x2:Bool) (l:List Int) (l1:List QaF) (x3:Qav) (depart:Int) (i:Int):Prop:=QoU Γ rv ⟨[.c 2036,.l 2036,.b 0,.c 255],⟨161,[vL 2 1 rests Qc8,vP 3 0 6,vP 4 1 4,vP 6 2 5,vP 9 3 14,vP 10 4 4,vP 11 5 5,vO 12 6 1 l Qax,vI 13 i],[oX 6 30 (Qab.enc x0),oX 4 66 (Qam.enc r),oX 5 102 [.bool false,lI 0,.nils,lI 0,lI 0],oX 14 79 (Qag.enc x1),oX 4 178 (Qav.enc x3),oX 5 102 [.bool x2,lI depart,lO 7 4 l1 QaF.enc,lI 0,lI 0],oS 1 3 l Qax,oS 4 185 l1 QaF.enc]⟩⟩
def Qlm (Γ:Gam) (rv:Qap×List Int×Int) (x0:Qab) (r:Qam) (rests:List Bool) (x1:Qag) (x2:Bool) (l2:List Int) (l3:List QaF) (x6:Qav) (depart1:Int):Prop:=QoU Γ rv ⟨[.c 255],⟨161,[vP 3 0 6,vP 6 1 5,vP 9 2 14,vP 10 3 4,vP 11 4 5,vO 12 5 1 l2 Qax],[oX 6 30 (Qab.enc x0),oX 5 102 [.bool false,lI 0,.nils,lI 0,lI 0],oX 14 79 (Qag.enc x1),oX 4 178 (Qav.enc x6),oX 5 102 [.bool x2,lI depart1,lO 6 4 l3 QaF.enc,lI 0,lI 0],oS 1 3 l2 Qax,oS 4 185 l3 QaF.enc]⟩⟩
theorem Qp5 (Γ:Gam) (rv:Qap×List Int×Int) {x0 r rests x1 x2} {s:List Int×List QaF×Qav×Int×Int} {e:(List Int×List QaF×Qav×Int)⊕(Qap×List Int×Int)} (h:QaK (fun s=>Qes x0 r rests x1 x2 s.1 s.2.1 s.2.2.1 s.2.2.2.1 s.2.2.2.2) s=some e) (hD:sel e (fun e=>Qlm Γ rv x0 r rests x1 x2 e.1 e.2.1 e.2.2.1 e.2.2.2) (fun e=>e=rv)):QlU Γ rv x0 r rests x1 x2 s.1 s.2.1 s.2.2.1 s.2.2.2.1 s.2.2.2.2:=by
 refine QaC (C:=fun (s:List Int×List QaF×Qav×Int×Int)=>QlU Γ rv x0 r rests x1 x2 s.1 s.2.1 s.2.2.1 s.2.2.2.1 s.2.2.2.2) (D:=fun (e:(List Int×List QaF×Qav×Int)⊕(Qap×List Int×Int))=>sel e (fun e=>Qlm Γ rv x0 r rests x1 x2 e.1 e.2.1 e.2.2.1 e.2.2.2) (fun e=>e=rv)) ?_ h hD
 clear h hD s e
 rintro ⟨l,l1,x3,depart,i⟩ z_ h hI hE
 replace h:Qes x0 r rests x1 x2 l l1 x3 depart i=_:=h
 unfold Qes at h
 rcases Qah h with ⟨h5,h⟩|⟨h5,h⟩
 ·obtain ⟨x4,h6,h⟩:=Qae h
  obtain ⟨r3,h7,h⟩:=Qae h
  obtain ⟨r4,h8,h⟩:=Qae h
  rcases Qah h with ⟨h9,h⟩|⟨h9,h⟩
  ·obtain rfl:=(hE _ (oJ h):_=rv)
   exact gr 17 [] [nL Qaa.enc r.visits,bT h5,hH (.draw 13 [(8,11)]),cE Qaa.enc h6,cC (QgJ h7),cC (QgI h8),bT h9,hW 7,hH (.nilB 2 2 4),hH (.nilS 7 0 1)]
  ·obtain ⟨h10,h⟩:=Qat h
   obtain ⟨x5,h11,h⟩:=Qae h
   obtain ⟨r5,h12,h⟩:=Qae h
   obtain ⟨h13,h⟩:=Qat h
   exact gn 30 [2,3,4,6,9,10,11,12,13] [0,1,2,3,4,5,11,14] [nL Qaa.enc r.visits,bT h5,hH (.draw 13 [(8,11)]),cE Qaa.enc h6,cC (QgJ h7),cC (QgI h8),bF h9,oO (Eq.refl ([r4.1.driven].map Qax).length),aO Qax h10,hH (.draw 14 []),cE Qc8 h11,hH (.draw 8 []),cE Qc8 h11,cC (QmS h12),oO (Eq.refl ([(QaF.mk r4.1.time (maxI r4.1.time r3.1.open_) r5.time x5)].map QaF.enc).length),aO QaF.enc h13] (hI _ (oJ h))
 ·exact gn 5 [3,6,9,10,11,12] [0,2,3,4,5,6,7] [nL Qaa.enc r.visits,bF h5] (hE _ (oJ h))
theorem Qsl {x0 r rests} {rv:Qap×List Int×Int} (h:QgH x0 r rests=some rv):AFn Tryz.prog 92 [.agg (Qab.enc x0),.agg (Qam.enc r),.one (lL 1 rests Qc8)] [] (.tup [.agg [.bool rv.1.rest_,lI rv.1.depart,lL 4 rv.1.times QaF.enc,lI rv.1.end_,lI rv.1.miles],.one (lL 1 rv.2.1 Qax),.one (lI rv.2.2)]) []:=by
 refine QaS Tryz.func92 (by kernel_rfl) (by kernel_rfl) (fun Γ=>?_)
 unfold QgH at h
 obtain ⟨r1,h0,h⟩:=Qae h
 rcases Qah h with ⟨h1,h⟩|⟨h1,h⟩
 ·obtain rfl:=Option.some.inj h
  exact gr 8 [] [cC (QeG h0),hP,hP,oI ((!r1)=false),nL Qc8 rests,hP,hP,hP,rp 2 (oI ((!r1)=false)),nL Qaa.enc r.visits,hP,hP,hP,rp 3 (oI ((!r1)=false)),oR True ((!r1)=false),bT h1,hW 6,hH (.nilB 2 2 4),hH (.nilS 7 0 1)]
 ·obtain ⟨x1,h2,h⟩:=Qae h
  obtain ⟨x2,h3,h⟩:=Qae h
  obtain ⟨r2,h4,h⟩:=Qae h
  obtain ⟨e0,h14,h⟩:=Qae h
  refine gn 20 [2,3,4,6,9,10,11,12,13] [0,1,2,3,4,5,6,7] [cC (QeG h0),hP,hP,oI ((!r1)=false),nL Qc8 rests,hP,hP,hP,rp 2 (oI ((!r1)=false)),nL Qaa.enc r.visits,hP,hP,hP,rp 3 (oI ((!r1)=false)),oR True ((!r1)=false),bF h1,cE Qag.enc h2,hH (.draw 14 []),cE Qc8 h3,cC (QmS h4),hH (.draw 7 []),cE Qc8 h3,hW 10,hH (.adopt 12 1 3),hH (.adoptB 5 2 4 185)] (Qp5 Γ rv h14 ?_)
  rcases e0 with e0|e0
  ·obtain ⟨l2,l3,x6,depart1⟩:=e0
   replace h:(bnd (QcV x0 x1 x6 x1.to_ x1.close 15) fun r6=>br (neI r6.2 0) (some ((Qap.mk false 0 [] 0 0),[],r6.2)) (chk (okN (l2++[r6.1.driven]).length 8) (some ((Qap.mk x2 depart1 l3 r6.1.time r6.1.miles),(l2++[r6.1.driven]),0))):Option (Qap×List Int×Int))=some _:=h
   obtain ⟨r6,h15,h⟩:=Qae h
   rcases Qah h with ⟨h16,h⟩|⟨h16,h⟩
   ·obtain rfl:=Option.some.inj h
    exact gr 8 [] [cC (QgI h15),bT h16,hW 7,hH (.nilB 1 2 4),hH (.nilS 7 0 1)]
   ·obtain ⟨h17,h⟩:=Qat h
    obtain rfl:=Option.some.inj h
    exact gr 15 [] [cC (QgI h15),bF h16,oO (Eq.refl ([r6.1.driven].map Qax).length),aO Qax h17,hW 20,hH (.frz 6),hH (.frz 9),rp 3 (eL l3 QaF.enc),rp 4 (oO (Eq.refl ((l2++[r6.1.driven]).map Qax).length))]
  ·obtain ⟨r7,rfl⟩:∃ x,x=e0:=⟨_,rfl⟩
   replace h:(some r7:Option (Qap×List Int×Int))=some _:=h
   exact Option.some.inj h
theorem QjZ {x0 r rests} {rv:Qap×Int} (h:Qd1 x0 r rests=some rv):AFn Tryz.prog 54 [.agg (Qab.enc x0),.agg (Qam.enc r),.one (lL 1 rests Qc8)] [] (.tup [.agg [.bool rv.1.rest_,lI rv.1.depart,lL 4 rv.1.times QaF.enc,lI rv.1.end_,lI rv.1.miles],.one (lI rv.2)]) []:=by
 refine QaS Tryz.func54 (by kernel_rfl) (by kernel_rfl) (fun Γ=>?_)
 unfold Qd1 at h
 obtain ⟨r1,h0,h⟩:=Qae h
 obtain rfl:=Option.some.inj h
 exact gr 6 [] [cC (Qsl h0)]
def QnJ (Γ:Gam) (rv:Int) (cf:Cf):Prop:=Go Tryz.prog Tryz.f19 [] Γ (one (lI rv)) [] cf
def Qk8 (Γ:Gam) (rv:Int) (set_1:Int) (n:Int):Prop:=QnJ Γ rv ⟨[.c 56,.l 56,.b 0,.c 15],⟨13,[vI 0 set_1,vI 3 n],[]⟩⟩
def Qkb (Γ:Gam) (rv:Int) (n1:Int):Prop:=QnJ Γ rv ⟨[.c 15],⟨13,[vI 3 n1],[]⟩⟩
theorem Qpu (Γ:Gam) (rv:Int) {s:Int×Int} {e:Int} (h:QaK (fun s=>Qd9 s.1 s.2) s=some e) (hD:Qkb Γ rv e):Qk8 Γ rv s.1 s.2:=by
 refine QaC (C:=fun (s:Int×Int)=>Qk8 Γ rv s.1 s.2) (D:=fun (e:Int)=>Qkb Γ rv e) ?_ h hD
 clear h hD s e
 rintro ⟨set_1,n⟩ z_ h hI hE
 replace h:Qd9 set_1 n=_:=h
 unfold Qd9 at h
 rcases Qah h with ⟨h0,h⟩|⟨h0,h⟩
 ·exact gn 11 [0,3] [] [bT h0,rp 2 (oO (oA (n:=2)))] (hI _ (oJ h))
 ·exact gn 5 [3] [] [bF h0] (hE _ (oJ h))
theorem QeZ {set_} {rv:Int} (h:QgZ set_=some rv):AFn Tryz.prog 19 [.one (lI set_)] [] (one (lI rv)) []:=by
 refine QaS Tryz.func19 (by kernel_rfl) (by kernel_rfl) (fun Γ=>?_)
 unfold QgZ at h
 obtain ⟨e0,h1,h⟩:=Qae h
 refine gn 7 [0,3] [] [] (Qpu Γ rv h1 ?_)
 obtain ⟨n1,rfl⟩:∃ x,x=e0:=⟨_,rfl⟩
 replace h:(some n1:Option Int)=some _:=h
 obtain rfl:=Option.some.inj h
 exact gr 2 [] []
theorem Qa6 {set_ i} {rv:Bool} (h:Qb8 set_ i=some rv):AFn Tryz.prog 98 [.one (lI set_),.one (lI i)] [] (one (.bool rv)) []:=by
 refine QaS Tryz.func98 (by kernel_rfl) (by kernel_rfl) (fun Γ=>?_)
 unfold Qb8 at h
 rcases Qah h with ⟨h0,h⟩|⟨h0,h⟩
 ·obtain ⟨h1,h⟩:=Qat h
  obtain rfl:=Option.some.inj h
  exact gr 4 [] [rp 6 hP,oI ((geI set_ 0)=true),oR True ((geI set_ 0)=true),oI (((geI set_ 0)&&(geI i 0))=true),oR True (((geI set_ 0)&&(geI i 0))=true),rp 4 (bT h0),oO (h1),bT h0,oO (oA (n:=2)),bT h0,bT h0]
 ·obtain rfl:=Option.some.inj h
  exact gr 4 [] [rp 6 hP,oI ((geI set_ 0)=true),oR True ((geI set_ 0)=true),oI (((geI set_ 0)&&(geI i 0))=true),oR True (((geI set_ 0)&&(geI i 0))=true),rp 7 (bF h0)]
def QmL (Γ:Gam) (rv:Bool) (cf:Cf):Prop:=Go Tryz.prog Tryz.f124 [] Γ (one (.bool rv)) [] cf
def Qkw (Γ:Gam) (rv:Bool) (x0:Qab) (set_:Int) (i:Int):Prop:=QmL Γ rv ⟨[.c 52,.l 52,.b 0,.c 7],⟨31,[vI 1 set_,vP 2 0 6,vI 5 i],[oX 6 30 (Qab.enc x0)]⟩⟩
def Qjz (Γ:Gam) (rv:Bool) (x0:Qab) (set_:Int):Prop:=QmL Γ rv ⟨[.c 7],⟨31,[],[]⟩⟩
theorem QoP (Γ:Gam) (rv:Bool) {x0 set_} {s:Int} {e:(Unit)⊕(Bool)} (h:QaK (fun s=>Qb7 x0 set_ s) s=some e) (hD:sel e (fun e=>Qjz Γ rv x0 set_) (fun e=>e=rv)):Qkw Γ rv x0 set_ s:=by
 refine QaC (C:=fun (s:Int)=>Qkw Γ rv x0 set_ s) (D:=fun (e:(Unit)⊕(Bool))=>sel e (fun e=>Qjz Γ rv x0 set_) (fun e=>e=rv)) ?_ h hD
 clear h hD s e
 intro i z_ h hI hE
 replace h:Qb7 x0 set_ i=_:=h
 unfold Qb7 at h
 rcases Qah h with ⟨h0,h⟩|⟨h0,h⟩
 ·obtain ⟨x1,h1,h⟩:=Qae h
  obtain ⟨r,h2,h⟩:=Qae h
  rcases Qah h with ⟨h3,h⟩|⟨h3,h⟩
  ·obtain ⟨r1,h4,h⟩:=Qae h
   rcases Qah h with ⟨h5,h⟩|⟨h5,h⟩
   ·obtain rfl:=(hE _ (oJ h):_=rv)
    exact gr 12 [] [nL Qau.enc x0.apart,bT h0,cE Qau.enc h1,oO (zL 0),oO (lT 0 2),cC (Qa6 h2),rp 5 (bT h3),cE Qau.enc h1,bT h3,oO (zL 1),oO (lT 1 2),bT h3,bT h3,cC (Qa6 h4),bT h3,bT h5]
   ·exact gn 14 [1,2,5] [0] [nL Qau.enc x0.apart,bT h0,cE Qau.enc h1,oO (zL 0),oO (lT 0 2),cC (Qa6 h2),rp 5 (bT h3),cE Qau.enc h1,bT h3,oO (zL 1),oO (lT 1 2),bT h3,bT h3,cC (Qa6 h4),bT h3,bF h5] (hI _ (oJ h))
  ·exact gn 14 [1,2,5] [0] [nL Qau.enc x0.apart,bT h0,cE Qau.enc h1,oO (zL 0),oO (lT 0 2),cC (Qa6 h2),rp 9 (bF h3),fF] (hI _ (oJ h))
 ·exact gn 5 [] [] [nL Qau.enc x0.apart,bF h0] (hE _ (oJ h))
theorem QhQ {x0 set_} {rv:Bool} (h:QcD x0 set_=some rv):AFn Tryz.prog 124 [.agg (Qab.enc x0),.one (lI set_)] [] (one (.bool rv)) []:=by
 refine QaS Tryz.func124 (by kernel_rfl) (by kernel_rfl) (fun Γ=>?_)
 unfold QcD at h
 obtain ⟨e0,h6,h⟩:=Qae h
 refine gn 7 [1,2,5] [0] [] (QoP Γ rv h6 ?_)
 rcases e0 with e0|e0
 ·replace h:(some true:Option Bool)=some _:=h
  obtain rfl:=Option.some.inj h
  exact gr 2 [] []
 ·obtain ⟨r2,rfl⟩:∃ x,x=e0:=⟨_,rfl⟩
  replace h:(some r2:Option Bool)=some _:=h
  exact Option.some.inj h
def QmK (Γ:Gam) (rv:Int) (cf:Cf):Prop:=Go Tryz.prog Tryz.f128 [] Γ (one (lI rv)) [] cf
def Qks (Γ:Gam) (rv:Int) (l:List Qaa) (v:Qaa) (i:Int):Prop:=QmK Γ rv ⟨[.c 52,.l 52,.b 0,.c 7],⟨19,[vL 0 2 l Qaa.enc,vP 3 0 2,vI 5 i],[oX 2 54 (Qaa.enc v)]⟩⟩
def Qjx (Γ:Gam) (rv:Int) (l:List Qaa) (v:Qaa):Prop:=QmK Γ rv ⟨[.c 7],⟨19,[],[]⟩⟩
theorem QoO (Γ:Gam) (rv:Int) {l v} {s:Int} {e:(Unit)⊕(Int)} (h:QaK (fun s=>Qb6 l v s) s=some e) (hD:sel e (fun e=>Qjx Γ rv l v) (fun e=>e=rv)):Qks Γ rv l v s:=by
 refine QaC (C:=fun (s:Int)=>Qks Γ rv l v s) (D:=fun (e:(Unit)⊕(Int))=>sel e (fun e=>Qjx Γ rv l v) (fun e=>e=rv)) ?_ h hD
 clear h hD s e
 intro i z_ h hI hE
 replace h:Qb6 l v i=_:=h
 unfold Qb6 at h
 rcases Qah h with ⟨h0,h⟩|⟨h0,h⟩
 ·obtain ⟨x0,h1,h⟩:=Qae h
  rcases Qah h with ⟨h2,h⟩|⟨h2,h⟩
  ·obtain rfl:=(hE _ (oJ h):_=rv)
   exact gr 12 [] [nL Qaa.enc l,bT h0,hH (.draw 6 []),cE Qaa.enc h1,bT h2]
  ·exact gn 14 [0,3,5] [0] [nL Qaa.enc l,bT h0,hH (.draw 6 []),cE Qaa.enc h1,bF h2] (hI _ (oJ h))
 ·exact gn 5 [] [] [nL Qaa.enc l,bF h0] (hE _ (oJ h))
theorem QaM {l v} {rv:Int} (h:Qbr l v=some rv):AFn Tryz.prog 128 [.one (lL 2 l Qaa.enc),.agg (Qaa.enc v)] [] (one (lI rv)) []:=by
 refine QaS Tryz.func128 (by kernel_rfl) (by kernel_rfl) (fun Γ=>?_)
 unfold Qbr at h
 obtain ⟨e0,h3,h⟩:=Qae h
 refine gn 7 [0,3,5] [0] [] (QoO Γ rv h3 ?_)
 rcases e0 with e0|e0
 ·replace h:(some (-1):Option Int)=some _:=h
  obtain rfl:=Option.some.inj h
  exact gr 2 [] []
 ·obtain ⟨r,rfl⟩:∃ x,x=e0:=⟨_,rfl⟩
  replace h:(some r:Option Int)=some _:=h
  exact Option.some.inj h
def Qkx (Γ:Gam) (rv:Bool) (cf:Cf):Prop:=Go Tryz.prog Tryz.f125 [] Γ (one (.bool rv)) [] cf
def QhR (Γ:Gam) (rv:Bool) (l:List Qaa) (some_:List Qaa) (i:Int):Prop:=Qkx Γ rv ⟨[.c 52,.l 52,.b 0,.c 7],⟨19,[vL 0 2 l Qaa.enc,vL 1 2 some_ Qaa.enc,vI 5 i],[]⟩⟩
def Qhu (Γ:Gam) (rv:Bool) (l:List Qaa) (some_:List Qaa):Prop:=Qkx Γ rv ⟨[.c 7],⟨19,[],[]⟩⟩
theorem QmM (Γ:Gam) (rv:Bool) {l some_} {s:Int} {e:(Unit)⊕(Bool)} (h:QaK (fun s=>Qbs l some_ s) s=some e) (hD:sel e (fun e=>Qhu Γ rv l some_) (fun e=>e=rv)):QhR Γ rv l some_ s:=by
 refine QaC (C:=fun (s:Int)=>QhR Γ rv l some_ s) (D:=fun (e:(Unit)⊕(Bool))=>sel e (fun e=>Qhu Γ rv l some_) (fun e=>e=rv)) ?_ h hD
 clear h hD s e
 intro i z_ h hI hE
 replace h:Qbs l some_ i=_:=h
 unfold Qbs at h
 rcases Qah h with ⟨h0,h⟩|⟨h0,h⟩
 ·obtain ⟨x0,h1,h⟩:=Qae h
  obtain ⟨r,h2,h⟩:=Qae h
  rcases Qah h with ⟨h3,h⟩|⟨h3,h⟩
  ·obtain rfl:=(hE _ (oJ h):_=rv)
   exact gr 12 [] [nL Qaa.enc some_,bT h0,cE Qaa.enc h1,cC (QaM h2),bT h3]
  ·exact gn 14 [0,1,5] [] [nL Qaa.enc some_,bT h0,cE Qaa.enc h1,cC (QaM h2),bF h3] (hI _ (oJ h))
 ·exact gn 5 [] [] [nL Qaa.enc some_,bF h0] (hE _ (oJ h))
theorem QcP {l some_} {rv:Bool} (h:QcA l some_=some rv):AFn Tryz.prog 125 [.one (lL 2 l Qaa.enc),.one (lL 2 some_ Qaa.enc)] [] (one (.bool rv)) []:=by
 refine QaS Tryz.func125 (by kernel_rfl) (by kernel_rfl) (fun Γ=>?_)
 unfold QcA at h
 obtain ⟨e0,h4,h⟩:=Qae h
 refine gn 7 [0,1,5] [] [] (QmM Γ rv h4 ?_)
 rcases e0 with e0|e0
 ·replace h:(some true:Option Bool)=some _:=h
  obtain rfl:=Option.some.inj h
  exact gr 2 [] []
 ·obtain ⟨r1,rfl⟩:∃ x,x=e0:=⟨_,rfl⟩
  replace h:(some r1:Option Bool)=some _:=h
  exact Option.some.inj h
def QqD (Γ:Gam) (rv:List Qaa) (cf:Cf):Prop:=Go Tryz.prog Tryz.f126 [] Γ (one (lL 2 rv Qaa.enc)) [] cf
theorem Qim (Γ:Gam) (rv:List Qaa) {x0 order l} (h:Qdj x0 order l=some rv):QqD Γ rv ⟨[.c 15],⟨33,[vI 1 order,vP 2 0 6,vO 5 1 2 l Qaa.enc],[oX 6 30 (Qab.enc x0),oS 2 54 l Qaa.enc]⟩⟩:=by
 unfold Qdj at h
 obtain ⟨x2,h3,h⟩:=Qae h
 rcases Qah h with ⟨h4,h⟩|⟨h4,h⟩
 ·obtain ⟨h5,h⟩:=Qat h
  obtain rfl:=Option.some.inj h
  exact gr 7 [] [cE Qaf.enc h3,bT h4,oO (Eq.refl ([(Qaa.mk order true)].map Qaa.enc).length),aO Qaa.enc h5,hW 5,hH (.frz 3),rp 4 (oO (Eq.refl ((l++[(Qaa.mk order true)]).map Qaa.enc).length))]
 ·obtain rfl:=Option.some.inj h
  exact gr 7 [] [cE Qaf.enc h3,bF h4,hW 5,hH (.frz 1),rp 3 (eL l Qaa.enc)]
theorem Qcf {x0 order} {rv:List Qaa} (h:Qcj x0 order=some rv):AFn Tryz.prog 126 [.agg (Qab.enc x0),.one (lI order)] [] (one (lL 2 rv Qaa.enc)) []:=by
 refine QaS Tryz.func126 (by kernel_rfl) (by kernel_rfl) (fun Γ=>?_)
 unfold Qcj at h
 obtain ⟨x1,h0,h⟩:=Qae h
 rcases Qah h with ⟨h1,h⟩|⟨h1,h⟩
 ·obtain ⟨h2,h⟩:=Qat h
  exact gn 9 [1,2,5] [0,2] [cE Qaf.enc h0,bT h1,oO (Eq.refl ([(Qaa.mk order false)].map Qaa.enc).length),aN (l:=([(Qaa.mk order false)]:List Qaa)) Qaa.enc h2] (Qim Γ rv h)
 ·exact gn 9 [1,2,5] [0,1] [cE Qaf.enc h0,bF h1,hW 1,hH (.adopt 5 2 54)] (Qim Γ rv h)
def QmN (Γ:Gam) (rv:Bool) (cf:Cf):Prop:=Go Tryz.prog Tryz.f127 [] Γ (one (.bool rv)) [] cf
def Qky (Γ:Gam) (rv:Bool) (x0:Qab) (order:Int) (l:List Qaa) (i:Int):Prop:=QmN Γ rv ⟨[.c 52,.l 52,.b 0,.c 7],⟨49,[vI 1 order,vL 2 2 l Qaa.enc,vP 3 0 6,vI 7 i],[oX 6 30 (Qab.enc x0)]⟩⟩
def QjE (Γ:Gam) (rv:Bool) (x0:Qab) (order:Int) (l:List Qaa):Prop:=QmN Γ rv ⟨[.c 7],⟨49,[],[]⟩⟩
theorem QoQ (Γ:Gam) (rv:Bool) {x0 order l} {s:Int} {e:(Unit)⊕(Bool)} (h:QaK (fun s=>Qb9 x0 order l s) s=some e) (hD:sel e (fun e=>QjE Γ rv x0 order l) (fun e=>e=rv)):Qky Γ rv x0 order l s:=by
 refine QaC (C:=fun (s:Int)=>Qky Γ rv x0 order l s) (D:=fun (e:(Unit)⊕(Bool))=>sel e (fun e=>QjE Γ rv x0 order l) (fun e=>e=rv)) ?_ h hD
 clear h hD s e
 intro i z_ h hI hE
 replace h:Qb9 x0 order l i=_:=h
 unfold Qb9 at h
 rcases Qah h with ⟨h0,h⟩|⟨h0,h⟩
 ·obtain ⟨x1,h1,h⟩:=Qae h
  rcases Qah h with ⟨h2,h⟩|⟨h2,h⟩
  ·rcases Qah h with ⟨h3,h⟩|⟨h3,h⟩
   ·obtain rfl:=(hE _ (oJ h):_=rv)
    exact gr 14 [] [nL Qau.enc x0.before,bT h0,cE Qau.enc h1,oO (zL 0),oO (lT 0 2),cE Qau.enc h1,oO (zL 1),oO (lT 1 2),rp 3 (bT h2),rp 4 hP,rp 2 (oI ((ltI x1.x0 0)=false)),nL Qaf.enc x0.orders,hP,rp 2 (oI ((ltI x1.x0 0)=false)),bT h2,hP,oR True ((ltI x1.x0 0)=false),bT h2,rp 6 (bT h3),bT h2,bT h3,bT h2,tT]
   ·obtain ⟨r,h4,h⟩:=Qae h
    obtain ⟨r1,h5,h⟩:=Qae h
    rcases Qah h with ⟨h6,h⟩|⟨h6,h⟩
    ·exact gn 16 [1,2,3,7] [0] [nL Qau.enc x0.before,bT h0,cE Qau.enc h1,oO (zL 0),oO (lT 0 2),cE Qau.enc h1,oO (zL 1),oO (lT 1 2),rp 3 (bT h2),rp 4 hP,rp 2 (oI ((ltI x1.x0 0)=false)),nL Qaf.enc x0.orders,hP,rp 2 (oI ((ltI x1.x0 0)=false)),bT h2,hP,oR True ((ltI x1.x0 0)=false),bT h2,rp 4 (bF h3),cC (Qcf h4),bF h3,cC (QcP h5),bF h3,bT h2,bF h3,bT h2,nF h6] (hI _ (oJ h))
    ·obtain rfl:=(hE _ (oJ h):_=rv)
     exact gr 14 [] [nL Qau.enc x0.before,bT h0,cE Qau.enc h1,oO (zL 0),oO (lT 0 2),cE Qau.enc h1,oO (zL 1),oO (lT 1 2),rp 3 (bT h2),rp 4 hP,rp 2 (oI ((ltI x1.x0 0)=false)),nL Qaf.enc x0.orders,hP,rp 2 (oI ((ltI x1.x0 0)=false)),bT h2,hP,oR True ((ltI x1.x0 0)=false),bT h2,rp 4 (bF h3),cC (Qcf h4),bF h3,cC (QcP h5),bF h3,bT h2,bF h3,bT h2,nT h6]
  ·exact gn 16 [1,2,3,7] [0] [nL Qau.enc x0.before,bT h0,cE Qau.enc h1,oO (zL 0),oO (lT 0 2),cE Qau.enc h1,oO (zL 1),oO (lT 1 2),rp 3 (bF h2),rp 5 kF,bF h2,bF h2,rp 6 kF,bF h2,bF h2,fF] (hI _ (oJ h))
 ·exact gn 5 [] [] [nL Qau.enc x0.before,bF h0] (hE _ (oJ h))
theorem QlR {x0 order l} {rv:Bool} (h:Qfa x0 order l=some rv):AFn Tryz.prog 127 [.agg (Qab.enc x0),.one (lI order),.one (lL 2 l Qaa.enc)] [] (one (.bool rv)) []:=by
 refine QaS Tryz.func127 (by kernel_rfl) (by kernel_rfl) (fun Γ=>?_)
 unfold Qfa at h
 obtain ⟨e0,h7,h⟩:=Qae h
 refine gn 7 [1,2,3,7] [0] [] (QoQ Γ rv h7 ?_)
 rcases e0 with e0|e0
 ·replace h:(some true:Option Bool)=some _:=h
  obtain rfl:=Option.some.inj h
  exact gr 2 [] []
 ·obtain ⟨r2,rfl⟩:∃ x,x=e0:=⟨_,rfl⟩
  replace h:(some r2:Option Bool)=some _:=h
  exact Option.some.inj h
def Qha (Γ:Gam) (rv:List Qaa) (cf:Cf):Prop:=Go Tryz.prog Tryz.f101 [] Γ (one (lL 2 rv Qaa.enc)) [] cf
def Qli (Γ:Gam) (rv:List Qaa) (x0:Qab) (set_:Int) (l:List Qaa) (i:Int) (r2:List Qaa) (l2:List Qaa) (k:Int):Prop:=Qha Γ rv ⟨[.c 29852,.l 29852,.b 2,.b 1,.c 467,.l 116,.b 0,.c 15],⟨73,[vI 1 set_,vL 2 2 l Qaa.enc,vP 3 0 6,vO 7 1 2 l2 Qaa.enc,vI 8 i,vL 9 2 r2 Qaa.enc,vI 10 k],[oX 6 30 (Qab.enc x0),oS 2 54 l2 Qaa.enc]⟩⟩
def Qkv (Γ:Gam) (rv:List Qaa) (x0:Qab) (set_:Int) (l:List Qaa) (i:Int) (r2:List Qaa) (l3:List Qaa):Prop:=Qha Γ rv ⟨[.b 1,.c 467,.l 116,.b 0,.c 15],⟨73,[vI 1 set_,vL 2 2 l Qaa.enc,vP 3 0 6,vO 7 1 2 l3 Qaa.enc,vI 8 i],[oX 6 30 (Qab.enc x0),oS 2 54 l3 Qaa.enc]⟩⟩
def Qlh (Γ:Gam) (rv:List Qaa) (x0:Qab) (set_:Int) (l:List Qaa) (l1:List Qaa) (i:Int):Prop:=Qha Γ rv ⟨[.c 116,.l 116,.b 0,.c 15],⟨73,[vI 1 set_,vL 2 2 l Qaa.enc,vP 3 0 6,vO 7 1 2 l1 Qaa.enc,vI 8 i],[oX 6 30 (Qab.enc x0),oS 2 54 l1 Qaa.enc]⟩⟩
def Qku (Γ:Gam) (rv:List Qaa) (x0:Qab) (set_:Int) (l:List Qaa) (l4:List Qaa):Prop:=Qha Γ rv ⟨[.c 15],⟨73,[vO 7 0 2 l4 Qaa.enc],[oS 2 54 l4 Qaa.enc]⟩⟩
theorem QpB (Γ:Gam) (rv:List Qaa) {x0 set_ l i r2} {s:List Qaa×Int} {e:List Qaa} (h:QaK (fun s=>Qcr x0 set_ l i r2 s.1 s.2) s=some e) (hD:Qkv Γ rv x0 set_ l i r2 e):Qli Γ rv x0 set_ l i r2 s.1 s.2:=by
 refine QaC (C:=fun (s:List Qaa×Int)=>Qli Γ rv x0 set_ l i r2 s.1 s.2) (D:=fun (e:List Qaa)=>Qkv Γ rv x0 set_ l i r2 e) ?_ h hD
 clear h hD s e
 rintro ⟨l2,k⟩ z_ h hI hE
 replace h:Qcr x0 set_ l i r2 l2 k=_:=h
 unfold Qcr at h
 rcases Qah h with ⟨h8,h⟩|⟨h8,h⟩
 ·obtain ⟨x2,h9,h⟩:=Qae h
  obtain ⟨r3,h10,h⟩:=Qae h
  rcases Qah h with ⟨h11,h⟩|⟨h11,h⟩
  ·rcases Qah h with ⟨h12,h⟩|⟨h12,h⟩
   ·obtain ⟨h13,h⟩:=Qat h
    exact gn 14 [1,2,3,7,8,9,10] [0,3] [nL Qaa.enc r2,bT h8,cE Qaa.enc h9,cC (QaM h10),rp 3 (bT h11),rp 6 (bT h12),bT h11,bT h12,bT h11,tT,cE Qaa.enc h9,oO (Eq.refl ([x2].map Qaa.enc).length),aO Qaa.enc h13] (hI _ (oJ h))
   ·obtain ⟨x3,h14,h⟩:=Qae h
    obtain ⟨r4,h15,h⟩:=Qae h
    rcases Qah h with ⟨h16,h⟩|⟨h16,h⟩
    ·obtain ⟨h17,h⟩:=Qat h
     exact gn 14 [1,2,3,7,8,9,10] [0,3] [nL Qaa.enc r2,bT h8,cE Qaa.enc h9,cC (QaM h10),rp 3 (bT h11),rp 3 (bF h12),cE Qaa.enc h14,rp 2 (bF h12),cC (QaM h15),bF h12,bT h11,bF h12,bT h11,bT h16,cE Qaa.enc h9,oO (Eq.refl ([x2].map Qaa.enc).length),aO Qaa.enc h17] (hI _ (oJ h))
    ·exact gn 14 [1,2,3,7,8,9,10] [0,1] [nL Qaa.enc r2,bT h8,cE Qaa.enc h9,cC (QaM h10),rp 3 (bT h11),rp 3 (bF h12),cE Qaa.enc h14,rp 2 (bF h12),cC (QaM h15),bF h12,bT h11,bF h12,bT h11,bF h16] (hI _ (oJ h))
  ·exact gn 14 [1,2,3,7,8,9,10] [0,1] [nL Qaa.enc r2,bT h8,cE Qaa.enc h9,cC (QaM h10),rp 3 (bF h11),rp 6 kF,rp 2 (bF h11),fF] (hI _ (oJ h))
 ·exact gn 5 [1,2,3,7,8] [0,1] [nL Qaa.enc r2,bF h8] (hE _ (oJ h))
theorem QpA (Γ:Gam) (rv:List Qaa) {x0 set_ l} {s:List Qaa×Int} {e:List Qaa} (h:QaK (fun s=>QbY x0 set_ l s.1 s.2) s=some e) (hD:Qku Γ rv x0 set_ l e):Qlh Γ rv x0 set_ l s.1 s.2:=by
 refine QaC (C:=fun (s:List Qaa×Int)=>Qlh Γ rv x0 set_ l s.1 s.2) (D:=fun (e:List Qaa)=>Qku Γ rv x0 set_ l e) ?_ h hD
 clear h hD s e
 rintro ⟨l1,i⟩ z_ h hI hE
 replace h:QbY x0 set_ l l1 i=_:=h
 unfold QbY at h
 rcases Qah h with ⟨h0,h⟩|⟨h0,h⟩
 ·obtain ⟨r,h1,h⟩:=Qae h
  rcases Qah h with ⟨h2,h⟩|⟨h2,h⟩
  ·obtain ⟨x1,h3,h⟩:=Qae h
   rcases Qah h with ⟨h4,h⟩|⟨h4,h⟩
   ·exact gn 14 [1,2,3,7,8] [0,1] [nL Qaf.enc x0.orders,bT h0,cC (Qa6 h1),rp 4 (nF h2),cE Qaf.enc h3,rp 3 (nF h2),rp 6 (bT h4),tT] (hI _ (oJ h))
   ·obtain ⟨r1,h5,h⟩:=Qae h
    rcases Qah h with ⟨h6,h⟩|⟨h6,h⟩
    ·obtain ⟨r2,h7,h⟩:=Qae h
     obtain ⟨e0,h18,h⟩:=Qae h
     refine gn 18 [1,2,3,7,8,9,10] [0,1] [nL Qaf.enc x0.orders,bT h0,cC (Qa6 h1),rp 4 (nF h2),cE Qaf.enc h3,rp 3 (nF h2),rp 4 (bF h4),cC (QlR h5),bF h4,bF h4,nF h6,cC (Qcf h7)] (QpB Γ rv h18 ?_)
     obtain ⟨l3,rfl⟩:∃ x,x=e0:=⟨_,rfl⟩
     replace h:(some (.inl (l3,(addK .i64 i 1))):Option ((List Qaa×Int)⊕(List Qaa)))=some _:=h
     exact gn 3 [1,2,3,7,8] [0,1] [] (hI _ (oJ h))
    ·exact gn 14 [1,2,3,7,8] [0,1] [nL Qaf.enc x0.orders,bT h0,cC (Qa6 h1),rp 4 (nF h2),cE Qaf.enc h3,rp 3 (nF h2),rp 4 (bF h4),cC (QlR h5),bF h4,bF h4,nT h6] (hI _ (oJ h))
  ·exact gn 14 [1,2,3,7,8] [0,1] [nL Qaf.enc x0.orders,bT h0,cC (Qa6 h1),rp 7 (nT h2),rp 7 tT] (hI _ (oJ h))
 ·exact gn 5 [7] [1] [nL Qaf.enc x0.orders,bF h0] (hE _ (oJ h))
theorem Qdh {x0 set_ l} {rv:List Qaa} (h:QeS x0 set_ l=some rv):AFn Tryz.prog 101 [.agg (Qab.enc x0),.one (lI set_),.one (lL 2 l Qaa.enc)] [] (one (lL 2 rv Qaa.enc)) []:=by
 refine QaS Tryz.func101 (by kernel_rfl) (by kernel_rfl) (fun Γ=>?_)
 unfold QeS at h
 obtain ⟨e1,h19,h⟩:=Qae h
 refine gn 9 [1,2,3,7,8] [0,1] [hW 13,hH (.adopt 7 2 54)] (QpA Γ rv h19 ?_)
 obtain ⟨l4,rfl⟩:∃ x,x=e1:=⟨_,rfl⟩
 replace h:(some l4:Option (List Qaa))=some _:=h
 obtain rfl:=Option.some.inj h
 exact gr 2 [] [hW 4,hH (.frz 0),rp 3 (eL l4 Qaa.enc)]
def QlX (Γ:Gam) (rv:Bool) (cf:Cf):Prop:=Go Tryz.prog Tryz.f63 [] Γ (one (.bool rv)) [] cf
def QjK (Γ:Gam) (rv:Bool) (x0:Qab) (set_:Int) (left:Int) (i:Int):Prop:=QlX Γ rv ⟨[.c 116,.l 116,.b 0,.c 15],⟨27,[vI 1 set_,vP 2 0 6,vI 5 left,vI 6 i],[oX 6 30 (Qab.enc x0)]⟩⟩
def Qit (Γ:Gam) (rv:Bool) (x0:Qab) (set_:Int) (left1:Int):Prop:=QlX Γ rv ⟨[.c 15],⟨27,[vI 1 set_,vI 5 left1],[]⟩⟩
theorem Qog (Γ:Gam) (rv:Bool) {x0 set_} {s:Int×Int} {e:Int} (h:QaK (fun s=>Qby x0 set_ s.1 s.2) s=some e) (hD:Qit Γ rv x0 set_ e):QjK Γ rv x0 set_ s.1 s.2:=by
 refine QaC (C:=fun (s:Int×Int)=>QjK Γ rv x0 set_ s.1 s.2) (D:=fun (e:Int)=>Qit Γ rv x0 set_ e) ?_ h hD
 clear h hD s e
 rintro ⟨left,i⟩ z_ h hI hE
 replace h:Qby x0 set_ left i=_:=h
 unfold Qby at h
 rcases Qah h with ⟨h0,h⟩|⟨h0,h⟩
 ·exact gn 11 [1,2,5,6] [0] [nL Qaf.enc x0.orders,hP,hP,hP,oI ((ltI i (lenI x0.orders))=true),oR True ((ltI i (lenI x0.orders))=true),bT h0,oO (oA (n:=2))] (hI _ (oJ h))
 ·exact gn 5 [1,5] [] [nL Qaf.enc x0.orders,hP,hP,hP,oI ((ltI i (lenI x0.orders))=true),oR True ((ltI i (lenI x0.orders))=true),bF h0] (hE _ (oJ h))
theorem Qhg {x0 set_} {rv:Bool} (h:QfQ x0 set_=some rv):AFn Tryz.prog 63 [.agg (Qab.enc x0),.one (lI set_)] [] (one (.bool rv)) []:=by
 refine QaS Tryz.func63 (by kernel_rfl) (by kernel_rfl) (fun Γ=>?_)
 unfold QfQ at h
 obtain ⟨e0,h1,h⟩:=Qae h
 refine gn 9 [1,2,5,6] [0] [] (Qog Γ rv h1 ?_)
 obtain ⟨left1,rfl⟩:∃ x,x=e0:=⟨_,rfl⟩
 replace h:(some ((gtI set_ 0)&&(eqI left1 0)):Option Bool)=some _:=h
 obtain rfl:=Option.some.inj h
 exact gr 2 [] [hP,hP,hP,oI ((gtI set_ 0)=true),oR True ((gtI set_ 0)=true)]
def QlP (Γ:Gam) (rv:Int×Int) (cf:Cf):Prop:=Go Tryz.prog Tryz.f102 [] Γ (.tup [.one (lI rv.1),.one (lI rv.2)]) [] cf
def Qjy (Γ:Gam) (rv:Int×Int) (r:Qam) (set_:Int) (i:Int):Prop:=QlP Γ rv ⟨[.c 116,.l 116,.b 0,.c 15],⟨36,[vP 1 0 4,vI 4 set_,vI 5 i],[oX 4 66 (Qam.enc r)]⟩⟩
def Qil (Γ:Gam) (rv:Int×Int) (r:Qam) (set_1:Int):Prop:=QlP Γ rv ⟨[.c 15],⟨36,[vI 4 set_1],[]⟩⟩
theorem Qoa (Γ:Gam) (rv:Int×Int) {r} {s:Int×Int} {e:(Int)⊕(Int×Int)} (h:QaK (fun s=>Qdi r s.1 s.2) s=some e) (hD:sel e (fun e=>Qil Γ rv r e) (fun e=>e=rv)):Qjy Γ rv r s.1 s.2:=by
 refine QaC (C:=fun (s:Int×Int)=>Qjy Γ rv r s.1 s.2) (D:=fun (e:(Int)⊕(Int×Int))=>sel e (fun e=>Qil Γ rv r e) (fun e=>e=rv)) ?_ h hD
 clear h hD s e
 rintro ⟨set_,i⟩ z_ h hI hE
 replace h:Qdi r set_ i=_:=h
 unfold Qdi at h
 rcases Qah h with ⟨h0,h⟩|⟨h0,h⟩
 ·obtain ⟨x0,h1,h⟩:=Qae h
  rcases Qah h with ⟨h2,h⟩|⟨h2,h⟩
  ·obtain rfl:=(hE _ (oJ h):_=rv)
   exact gr 15 [] [nL Qaa.enc r.visits,bT h0,cE Qaa.enc h1,hP,hP,hP,oI ((ltI x0.order 0)=false),oR True ((ltI x0.order 0)=false),bT h2]
  ·obtain ⟨r1,h3,h⟩:=Qae h
   rcases Qah h with ⟨h4,h⟩|⟨h4,h⟩
   ·exact gn 21 [1,4,5] [0] [nL Qaa.enc r.visits,bT h0,cE Qaa.enc h1,hP,hP,hP,oI ((ltI x0.order 0)=false),oR True ((ltI x0.order 0)=false),bF h2,cC (Qa6 h3),nF h4] (hI _ (oJ h))
   ·obtain ⟨h5,h⟩:=Qat h
    exact gn 21 [1,4,5] [0] [nL Qaa.enc r.visits,bT h0,cE Qaa.enc h1,hP,hP,hP,oI ((ltI x0.order 0)=false),oR True ((ltI x0.order 0)=false),bF h2,cC (Qa6 h3),nT h4,oO (h5)] (hI _ (oJ h))
 ·exact gn 5 [4] [] [nL Qaa.enc r.visits,bF h0] (hE _ (oJ h))
theorem Qce {r} {rv:Int×Int} (h:QcH r=some rv):AFn Tryz.prog 102 [.agg (Qam.enc r)] [] (.tup [.one (lI rv.1),.one (lI rv.2)]) []:=by
 refine QaS Tryz.func102 (by kernel_rfl) (by kernel_rfl) (fun Γ=>?_)
 unfold QcH at h
 obtain ⟨e0,h6,h⟩:=Qae h
 refine gn 9 [1,4,5] [0] [] (Qoa Γ rv h6 ?_)
 rcases e0 with e0|e0
 ·obtain ⟨set_1,rfl⟩:∃ x,x=e0:=⟨_,rfl⟩
  replace h:(some (set_1,0):Option (Int×Int))=some _:=h
  obtain rfl:=Option.some.inj h
  exact gr 2 [] []
 ·obtain ⟨r2,rfl⟩:∃ x,x=e0:=⟨_,rfl⟩
  replace h:(some r2:Option (Int×Int))=some _:=h
  exact Option.some.inj h
def QlQ (Γ:Gam) (rv:Bool) (cf:Cf):Prop:=Go Tryz.prog Tryz.f155 [] Γ (one (.bool rv)) [] cf
def QjD (Γ:Gam) (rv:Bool) (x0:Qab) (l:List Qaa) (i:Int):Prop:=QlQ Γ rv ⟨[.c 52,.l 52,.b 0,.c 7],⟨51,[vL 1 2 l Qaa.enc,vP 2 0 6,vI 5 i],[oX 6 30 (Qab.enc x0)]⟩⟩
def Qir (Γ:Gam) (rv:Bool) (x0:Qab) (l:List Qaa):Prop:=QlQ Γ rv ⟨[.c 7],⟨51,[],[]⟩⟩
theorem Qoe (Γ:Gam) (rv:Bool) {x0 l} {s:Int} {e:(Unit)⊕(Bool)} (h:QaK (fun s=>QbT x0 l s) s=some e) (hD:sel e (fun e=>Qir Γ rv x0 l) (fun e=>e=rv)):QjD Γ rv x0 l s:=by
 refine QaC (C:=fun (s:Int)=>QjD Γ rv x0 l s) (D:=fun (e:(Unit)⊕(Bool))=>sel e (fun e=>Qir Γ rv x0 l) (fun e=>e=rv)) ?_ h hD
 clear h hD s e
 intro i z_ h hI hE
 replace h:QbT x0 l i=_:=h
 unfold QbT at h
 rcases Qah h with ⟨h0,h⟩|⟨h0,h⟩
 ·obtain ⟨x1,h1,h⟩:=Qae h
  obtain ⟨r,h2,h⟩:=Qae h
  obtain ⟨r1,h3,h⟩:=Qae h
  rcases Qah h with ⟨h4,h⟩|⟨h4,h⟩
  ·obtain rfl:=(hE _ (oJ h):_=rv)
   exact gr 14 [] [nL Qaa.enc l,bT h0,hH (.draw 8 []),cE Qaa.enc h1,cC (Qcf h2),hH (.draw 31 []),cE Qaa.enc h1,cC (QaM h3),rp 5 (bT h4),rp 4 tT,rp 11 kF,tT,tT,tT]
  ·obtain ⟨r2,h5,h⟩:=Qae h
   rcases Qah h with ⟨h6,h⟩|⟨h6,h⟩
   ·rcases Qah h with ⟨h7,h⟩|⟨h7,h⟩
    ·obtain ⟨x2,h8,h⟩:=Qae h
     obtain ⟨r3,h9,h⟩:=Qae h
     obtain ⟨x3,h10,h⟩:=Qae h
     obtain ⟨r4,h11,h⟩:=Qae h
     rcases Qah h with ⟨h12,h⟩|⟨h12,h⟩
     ·obtain rfl:=(hE _ (oJ h):_=rv)
      exact gr 14 [] [nL Qaa.enc l,bT h0,hH (.draw 8 []),cE Qaa.enc h1,cC (Qcf h2),hH (.draw 31 []),cE Qaa.enc h1,cC (QaM h3),rp 3 (bF h4),cC (QcP h5),bF h4,bF h4,nF h6,nF h6,nL Qaa.enc r,nF h6,nF h6,rp 3 (bT h7),cE Qaa.enc h8,bT h7,bT h7,cC (QaM h9),rp 3 (bT h7),cE Qaa.enc h10,bT h7,bT h7,cC (QaM h11),bT h7,nF h6,bT h7,nF h6,bT h12]
     ·exact gn 16 [1,2,5] [0] [nL Qaa.enc l,bT h0,hH (.draw 8 []),cE Qaa.enc h1,cC (Qcf h2),hH (.draw 31 []),cE Qaa.enc h1,cC (QaM h3),rp 3 (bF h4),cC (QcP h5),bF h4,bF h4,nF h6,nF h6,nL Qaa.enc r,nF h6,nF h6,rp 3 (bT h7),cE Qaa.enc h8,bT h7,bT h7,cC (QaM h9),rp 3 (bT h7),cE Qaa.enc h10,bT h7,bT h7,cC (QaM h11),bT h7,nF h6,bT h7,nF h6,bF h12] (hI _ (oJ h))
    ·exact gn 16 [1,2,5] [0] [nL Qaa.enc l,bT h0,hH (.draw 8 []),cE Qaa.enc h1,cC (Qcf h2),hH (.draw 31 []),cE Qaa.enc h1,cC (QaM h3),rp 3 (bF h4),cC (QcP h5),bF h4,bF h4,nF h6,nF h6,nL Qaa.enc r,nF h6,nF h6,rp 11 (bF h7),nF h6,bF h7,nF h6,fF] (hI _ (oJ h))
   ·obtain rfl:=(hE _ (oJ h):_=rv)
    exact gr 14 [] [nL Qaa.enc l,bT h0,hH (.draw 8 []),cE Qaa.enc h1,cC (Qcf h2),hH (.draw 31 []),cE Qaa.enc h1,cC (QaM h3),rp 3 (bF h4),cC (QcP h5),bF h4,bF h4,rp 4 (nT h6),rp 11 kF,nT h6,nT h6,tT]
 ·exact gn 5 [] [] [nL Qaa.enc l,bF h0] (hE _ (oJ h))
theorem QfB {x0 l} {rv:Bool} (h:Qda x0 l=some rv):AFn Tryz.prog 155 [.agg (Qab.enc x0),.one (lL 2 l Qaa.enc)] [] (one (.bool rv)) []:=by
 refine QaS Tryz.func155 (by kernel_rfl) (by kernel_rfl) (fun Γ=>?_)
 unfold Qda at h
 obtain ⟨e0,h13,h⟩:=Qae h
 refine gn 7 [1,2,5] [0] [] (Qoe Γ rv h13 ?_)
 rcases e0 with e0|e0
 ·replace h:(some true:Option Bool)=some _:=h
  obtain rfl:=Option.some.inj h
  exact gr 2 [] []
 ·obtain ⟨r5,rfl⟩:∃ x,x=e0:=⟨_,rfl⟩
  replace h:(some r5:Option Bool)=some _:=h
  exact Option.some.inj h
def QdR (Γ:Gam) (rv:Bool) (cf:Cf):Prop:=Go Tryz.prog Tryz.f156 [] Γ (one (.bool rv)) [] cf
def QjC (Γ:Gam) (rv:Bool) (x0:Qab) (set_:Int) (l:List Qaa) (i:Int) (x1:Qau) (j:Int) (k:Int):Prop:=QdR Γ rv ⟨[.c 3448612,.l 3448612,.b 4,.b 3,.c 215539,.l 53884,.b 2,.b 1,.c 211,.l 52,.b 0,.c 7],⟨66,[vI 1 set_,vL 2 2 l Qaa.enc,vP 3 0 6,vI 7 i,vI 8 x1.x0,vI 9 x1.x1,vI 10 j,vI 11 k],[oX 6 30 (Qab.enc x0)]⟩⟩
def Qip (Γ:Gam) (rv:Bool) (x0:Qab) (set_:Int) (l:List Qaa) (i:Int) (x1:Qau) (j:Int):Prop:=QdR Γ rv ⟨[.b 3,.c 215539,.l 53884,.b 2,.b 1,.c 211,.l 52,.b 0,.c 7],⟨66,[vI 1 set_,vL 2 2 l Qaa.enc,vP 3 0 6,vI 7 i,vI 8 x1.x0,vI 9 x1.x1,vI 10 j],[oX 6 30 (Qab.enc x0)]⟩⟩
def QjB (Γ:Gam) (rv:Bool) (x0:Qab) (set_:Int) (l:List Qaa) (i:Int) (x1:Qau) (j:Int):Prop:=QdR Γ rv ⟨[.c 53884,.l 53884,.b 2,.b 1,.c 211,.l 52,.b 0,.c 7],⟨66,[vI 1 set_,vL 2 2 l Qaa.enc,vP 3 0 6,vI 7 i,vI 8 x1.x0,vI 9 x1.x1,vI 10 j],[oX 6 30 (Qab.enc x0)]⟩⟩
def Qio (Γ:Gam) (rv:Bool) (x0:Qab) (set_:Int) (l:List Qaa) (i:Int) (x1:Qau):Prop:=QdR Γ rv ⟨[.b 1,.c 211,.l 52,.b 0,.c 7],⟨66,[vI 1 set_,vL 2 2 l Qaa.enc,vP 3 0 6,vI 7 i],[oX 6 30 (Qab.enc x0)]⟩⟩
def QjA (Γ:Gam) (rv:Bool) (x0:Qab) (set_:Int) (l:List Qaa) (i:Int):Prop:=QdR Γ rv ⟨[.c 52,.l 52,.b 0,.c 7],⟨66,[vI 1 set_,vL 2 2 l Qaa.enc,vP 3 0 6,vI 7 i],[oX 6 30 (Qab.enc x0)]⟩⟩
def Qin (Γ:Gam) (rv:Bool) (x0:Qab) (set_:Int) (l:List Qaa):Prop:=QdR Γ rv ⟨[.c 7],⟨66,[],[]⟩⟩
theorem Qod (Γ:Gam) (rv:Bool) {x0 set_ l i x1 j} {s:Int} {e:(Unit)⊕(Bool)} (h:QaK (fun s=>QbS x0 set_ l i x1 j s) s=some e) (hD:sel e (fun e=>Qip Γ rv x0 set_ l i x1 j) (fun e=>e=rv)):QjC Γ rv x0 set_ l i x1 j s:=by
 refine QaC (C:=fun (s:Int)=>QjC Γ rv x0 set_ l i x1 j s) (D:=fun (e:(Unit)⊕(Bool))=>sel e (fun e=>Qip Γ rv x0 set_ l i x1 j) (fun e=>e=rv)) ?_ h hD
 clear h hD s e
 intro k z_ h hI hE
 replace h:QbS x0 set_ l i x1 j k=_:=h
 unfold QbS at h
 rcases Qah h with ⟨h7,h⟩|⟨h7,h⟩
 ·obtain ⟨x2,h8,h⟩:=Qae h
  rcases Qah h with ⟨h9,h⟩|⟨h9,h⟩
  ·obtain ⟨x3,h10,h⟩:=Qae h
   rcases Qah h with ⟨h11,h⟩|⟨h11,h⟩
   ·obtain rfl:=(hE _ (oJ h):_=rv)
    exact gr 12 [] [bT h7,cE Qaa.enc h8,rp 3 (bT h9),cE Qaa.enc h10,rp 5 (bT h9),bT h11]
   ·exact gn 14 [1,2,3,7,8,9,10,11] [0] [bT h7,cE Qaa.enc h8,rp 3 (bT h9),cE Qaa.enc h10,rp 5 (bT h9),bF h11] (hI _ (oJ h))
  ·exact gn 14 [1,2,3,7,8,9,10,11] [0] [bT h7,cE Qaa.enc h8,rp 8 (bF h9),fF] (hI _ (oJ h))
 ·exact gn 5 [1,2,3,7,8,9,10] [0] [bF h7] (hE _ (oJ h))
theorem Qoc (Γ:Gam) (rv:Bool) {x0 set_ l i x1} {s:Int} {e:(Unit)⊕(Bool)} (h:QaK (fun s=>QbR x0 set_ l i x1 s) s=some e) (hD:sel e (fun e=>Qio Γ rv x0 set_ l i x1) (fun e=>e=rv)):QjB Γ rv x0 set_ l i x1 s:=by
 refine QaC (C:=fun (s:Int)=>QjB Γ rv x0 set_ l i x1 s) (D:=fun (e:(Unit)⊕(Bool))=>sel e (fun e=>Qio Γ rv x0 set_ l i x1) (fun e=>e=rv)) ?_ h hD
 clear h hD s e
 intro j z_ h hI hE
 replace h:QbR x0 set_ l i x1 j=_:=h
 unfold QbR at h
 rcases Qah h with ⟨h6,h⟩|⟨h6,h⟩
 ·obtain ⟨e0,h12,h⟩:=Qae h
  refine gn 11 [1,2,3,7,8,9,10,11] [0] [nL Qaa.enc l,bT h6] (Qod Γ rv h12 ?_)
  rcases e0 with e0|e0
  ·replace h:(some (.inl (addK .i64 j 1)):Option ((Int)⊕((Unit)⊕(Bool))))=some _:=h
   exact gn 3 [1,2,3,7,8,9,10] [0] [] (hI _ (oJ h))
  ·obtain ⟨r2,rfl⟩:∃ x,x=e0:=⟨_,rfl⟩
   replace h:(some (.inr (.inr r2)):Option ((Int)⊕((Unit)⊕(Bool))))=some _:=h
   exact (hE _ (oJ h):_=rv)
 ·exact gn 5 [1,2,3,7] [0] [nL Qaa.enc l,bF h6] (hE _ (oJ h))
theorem Qob (Γ:Gam) (rv:Bool) {x0 set_ l} {s:Int} {e:(Unit)⊕(Bool)} (h:QaK (fun s=>QbQ x0 set_ l s) s=some e) (hD:sel e (fun e=>Qin Γ rv x0 set_ l) (fun e=>e=rv)):QjA Γ rv x0 set_ l s:=by
 refine QaC (C:=fun (s:Int)=>QjA Γ rv x0 set_ l s) (D:=fun (e:(Unit)⊕(Bool))=>sel e (fun e=>Qin Γ rv x0 set_ l) (fun e=>e=rv)) ?_ h hD
 clear h hD s e
 intro i z_ h hI hE
 replace h:QbQ x0 set_ l i=_:=h
 unfold QbQ at h
 rcases Qah h with ⟨h0,h⟩|⟨h0,h⟩
 ·obtain ⟨x1,h1,h⟩:=Qae h
  obtain ⟨r,h2,h⟩:=Qae h
  rcases Qah h with ⟨h3,h⟩|⟨h3,h⟩
  ·obtain ⟨r1,h4,h⟩:=Qae h
   rcases Qah h with ⟨h5,h⟩|⟨h5,h⟩
   ·obtain ⟨e1,h13,h⟩:=Qae h
    refine gn 25 [1,2,3,7,8,9,10] [0] [nL Qau.enc x0.before,bT h0,cE Qau.enc h1,oO (zL 0),oO (lT 0 2),cE Qau.enc h1,oO (zL 1),oO (lT 1 2),cC (Qa6 h2),nF h3,cC (Qa6 h4),nF h5] (Qoc Γ rv h13 ?_)
    rcases e1 with e1|e1
    ·replace h:(some (.inl (addK .i64 i 1)):Option ((Int)⊕((Unit)⊕(Bool))))=some _:=h
     exact gn 3 [1,2,3,7] [0] [] (hI _ (oJ h))
    ·obtain ⟨r3,rfl⟩:∃ x,x=e1:=⟨_,rfl⟩
     replace h:(some (.inr (.inr r3)):Option ((Int)⊕((Unit)⊕(Bool))))=some _:=h
     exact (hE _ (oJ h):_=rv)
   ·obtain rfl:=(hE _ (oJ h):_=rv)
    exact gr 22 [] [nL Qau.enc x0.before,bT h0,cE Qau.enc h1,oO (zL 0),oO (lT 0 2),cE Qau.enc h1,oO (zL 1),oO (lT 1 2),cC (Qa6 h2),nF h3,cC (Qa6 h4),nT h5]
  ·exact gn 18 [1,2,3,7] [0] [nL Qau.enc x0.before,bT h0,cE Qau.enc h1,oO (zL 0),oO (lT 0 2),cE Qau.enc h1,oO (zL 1),oO (lT 1 2),cC (Qa6 h2),nT h3] (hI _ (oJ h))
 ·exact gn 5 [] [] [nL Qau.enc x0.before,bF h0] (hE _ (oJ h))
theorem Qlj {x0 set_ l} {rv:Bool} (h:Qc9 x0 set_ l=some rv):AFn Tryz.prog 156 [.agg (Qab.enc x0),.one (lI set_),.one (lL 2 l Qaa.enc)] [] (one (.bool rv)) []:=by
 refine QaS Tryz.func156 (by kernel_rfl) (by kernel_rfl) (fun Γ=>?_)
 unfold Qc9 at h
 obtain ⟨e2,h14,h⟩:=Qae h
 refine gn 7 [1,2,3,7] [0] [] (Qob Γ rv h14 ?_)
 rcases e2 with e2|e2
 ·replace h:(some true:Option Bool)=some _:=h
  obtain rfl:=Option.some.inj h
  exact gr 2 [] []
 ·obtain ⟨r4,rfl⟩:∃ x,x=e2:=⟨_,rfl⟩
  replace h:(some r4:Option Bool)=some _:=h
  exact Option.some.inj h
def Qec (Γ:Gam) (rv:Int) (cf:Cf):Prop:=Go Tryz.prog Tryz.f145 [] Γ (one (lI rv)) [] cf
def Qkp (Γ:Gam) (rv:Int) (x0:Qab) (r:Qam) (i:Int):Prop:=Qec Γ rv ⟨[.c 116,.l 116,.b 0,.c 15],⟨91,[vP 2 0 6,vP 3 1 4,vL 5 2 r.visits Qaa.enc,vI 6 i],[oX 6 30 (Qab.enc x0),oX 4 66 (Qam.enc r)]⟩⟩
def Qju (Γ:Gam) (rv:Int) (x0:Qab) (r:Qam):Prop:=Qec Γ rv ⟨[.c 15],⟨91,[vP 2 0 6,vP 3 1 4,vL 5 2 r.visits Qaa.enc],[oX 6 30 (Qab.enc x0),oX 4 66 (Qam.enc r)]⟩⟩
def Qkq (Γ:Gam) (rv:Int) (x0:Qab) (r:Qam) (r1:Int×Int) (i1:Int):Prop:=Qec Γ rv ⟨[.c 1012,.l 1012,.b 2,.c 127],⟨91,[vP 2 0 6,vL 5 2 r.visits Qaa.enc,vI 7 r1.1,vI 9 i1],[oX 6 30 (Qab.enc x0)]⟩⟩
def Qjv (Γ:Gam) (rv:Int) (x0:Qab) (r:Qam) (r1:Int×Int):Prop:=Qec Γ rv ⟨[.c 127],⟨91,[vP 2 0 6,vL 5 2 r.visits Qaa.enc,vI 7 r1.1],[oX 6 30 (Qab.enc x0)]⟩⟩
def Qkr (Γ:Gam) (rv:Int) (x0:Qab) (r:Qam) (r1:Int×Int) (i2:Int):Prop:=Qec Γ rv ⟨[.c 2036,.l 2036,.b 4,.c 255],⟨91,[vP 2 0 6,vL 5 2 r.visits Qaa.enc,vI 7 r1.1,vI 10 i2],[oX 6 30 (Qab.enc x0)]⟩⟩
def Qjw (Γ:Gam) (rv:Int) (x0:Qab) (r:Qam) (r1:Int×Int):Prop:=Qec Γ rv ⟨[.c 255],⟨91,[vP 2 0 6,vL 5 2 r.visits Qaa.enc,vI 7 r1.1],[oX 6 30 (Qab.enc x0)]⟩⟩
theorem QoL (Γ:Gam) (rv:Int) {x0 r} {s:Int} {e:(Unit)⊕(Int)} (h:QaK (fun s=>Qb5 x0 r s) s=some e) (hD:sel e (fun e=>Qju Γ rv x0 r) (fun e=>e=rv)):Qkp Γ rv x0 r s:=by
 refine QaC (C:=fun (s:Int)=>Qkp Γ rv x0 r s) (D:=fun (e:(Unit)⊕(Int))=>sel e (fun e=>Qju Γ rv x0 r) (fun e=>e=rv)) ?_ h hD
 clear h hD s e
 intro i z_ h hI hE
 replace h:Qb5 x0 r i=_:=h
 unfold Qb5 at h
 rcases Qah h with ⟨h0,h⟩|⟨h0,h⟩
 ·obtain ⟨x1,h1,h⟩:=Qae h
  rcases Qah h with ⟨h2,h⟩|⟨h2,h⟩
  ·obtain rfl:=(hE _ (oJ h):_=rv)
   exact gr 12 [] [nL Qaa.enc r.visits,bT h0,hH (.draw 17 []),cE Qaa.enc h1,rp 10 (bT h2),tT]
  ·rcases Qah h with ⟨h3,h⟩|⟨h3,h⟩
   ·obtain rfl:=(hE _ (oJ h):_=rv)
    exact gr 12 [] [nL Qaa.enc r.visits,bT h0,hH (.draw 17 []),cE Qaa.enc h1,rp 3 (bF h2),cE Qaa.enc h1,rp 5 (bF h2),nL Qaf.enc x0.orders,bF h2,bF h2,bT h3]
   ·exact gn 14 [2,3,5,6] [0,1] [nL Qaa.enc r.visits,bT h0,hH (.draw 17 []),cE Qaa.enc h1,rp 3 (bF h2),cE Qaa.enc h1,rp 5 (bF h2),nL Qaf.enc x0.orders,bF h2,bF h2,bF h3] (hI _ (oJ h))
 ·exact gn 5 [2,3,5] [0,1] [nL Qaa.enc r.visits,bF h0] (hE _ (oJ h))
theorem QoM (Γ:Gam) (rv:Int) {x0 r r1} {s:Int} {e:(Unit)⊕(Int)} (h:QaK (fun s=>QbG x0 r r1 s) s=some e) (hD:sel e (fun e=>Qjv Γ rv x0 r r1) (fun e=>e=rv)):Qkq Γ rv x0 r r1 s:=by
 refine QaC (C:=fun (s:Int)=>Qkq Γ rv x0 r r1 s) (D:=fun (e:(Unit)⊕(Int))=>sel e (fun e=>Qjv Γ rv x0 r r1) (fun e=>e=rv)) ?_ h hD
 clear h hD s e
 intro i1 z_ h hI hE
 replace h:QbG x0 r r1 i1=_:=h
 unfold QbG at h
 rcases Qah h with ⟨h7,h⟩|⟨h7,h⟩
 ·obtain ⟨x2,h8,h⟩:=Qae h
  obtain ⟨x3,h9,h⟩:=Qae h
  rcases Qah h with ⟨h10,h⟩|⟨h10,h⟩
  ·obtain rfl:=(hE _ (oJ h):_=rv)
   exact gr 12 [] [nL Qaa.enc r.visits,bT h7,hH (.draw 10 []),cE Qaa.enc h8,cE Qaf.enc h9,bT h10]
  ·exact gn 14 [2,5,7,9] [0] [nL Qaa.enc r.visits,bT h7,hH (.draw 10 []),cE Qaa.enc h8,cE Qaf.enc h9,bF h10] (hI _ (oJ h))
 ·exact gn 5 [2,5,7] [0] [nL Qaa.enc r.visits,bF h7] (hE _ (oJ h))
theorem QoN (Γ:Gam) (rv:Int) {x0 r r1} {s:Int} {e:(Unit)⊕(Int)} (h:QaK (fun s=>Qbq x0 r r1 s) s=some e) (hD:sel e (fun e=>Qjw Γ rv x0 r r1) (fun e=>e=rv)):Qkr Γ rv x0 r r1 s:=by
 refine QaC (C:=fun (s:Int)=>Qkr Γ rv x0 r r1 s) (D:=fun (e:(Unit)⊕(Int))=>sel e (fun e=>Qjw Γ rv x0 r r1) (fun e=>e=rv)) ?_ h hD
 clear h hD s e
 intro i2 z_ h hI hE
 replace h:Qbq x0 r r1 i2=_:=h
 unfold Qbq at h
 rcases Qah h with ⟨h12,h⟩|⟨h12,h⟩
 ·obtain ⟨x4,h13,h⟩:=Qae h
  obtain ⟨r2,h14,h⟩:=Qae h
  rcases Qah h with ⟨h15,h⟩|⟨h15,h⟩
  ·obtain rfl:=(hE _ (oJ h):_=rv)
   exact gr 12 [] [nL Qaa.enc r.visits,bT h12,cE Qaa.enc h13,cC (QaM h14),bT h15]
  ·exact gn 14 [2,5,7,10] [0] [nL Qaa.enc r.visits,bT h12,cE Qaa.enc h13,cC (QaM h14),bF h15] (hI _ (oJ h))
 ·exact gn 5 [2,5,7] [0] [nL Qaa.enc r.visits,bF h12] (hE _ (oJ h))
theorem Qf9 {x0 r} {rv:Int} (h:Qe9 x0 r=some rv):AFn Tryz.prog 145 [.agg (Qab.enc x0),.agg (Qam.enc r)] [] (one (lI rv)) []:=by
 refine QaS Tryz.func145 (by kernel_rfl) (by kernel_rfl) (fun Γ=>?_)
 unfold Qe9 at h
 obtain ⟨e0,h4,h⟩:=Qae h
 refine gn 9 [2,3,5,6] [0,1] [] (QoL Γ rv h4 ?_)
 rcases e0 with e0|e0
 ·replace h:(bnd (QcH r) fun r1=>br ((neI r1.2 0)||(eqI (lenI r.visits) 0)) (some 2) (bnd (QaK (fun s=>QbG x0 r r1 s) 0) (fun e=>sel e (fun (_:Unit)=>bnd (QaK (fun s=>Qbq x0 r r1 s) 0) (fun e=>sel e (fun (_:Unit)=>bnd (Qda x0 r.visits) fun r3=>br r3 (bnd (QcD x0 r1.1) fun r4=>br r4 (bnd (Qc9 x0 r1.1 r.visits) fun r5=>br r5 (some 0) (some 21)) (some 20)) (some 19)) (fun r6=>some r6))) (fun r7=>some r7))):Option Int)=some _:=h
  obtain ⟨r1,h5,h⟩:=Qae h
  rcases Qah h with ⟨h6,h⟩|⟨h6,h⟩
  ·obtain rfl:=Option.some.inj h
   exact gr 8 [] [cC (Qce h5),hP,hP,oI ((neI r1.2 0)=false),nL Qaa.enc r.visits,hP,hP,oI ((neI r1.2 0)=false),oR True ((neI r1.2 0)=false),bT h6]
  ·obtain ⟨e1,h11,h⟩:=Qae h
   refine gn 12 [2,5,7,9] [0] [cC (Qce h5),hP,hP,oI ((neI r1.2 0)=false),nL Qaa.enc r.visits,hP,hP,oI ((neI r1.2 0)=false),oR True ((neI r1.2 0)=false),bF h6] (QoM Γ rv h11 ?_)
   rcases e1 with e1|e1
   ·replace h:(bnd (QaK (fun s=>Qbq x0 r r1 s) 0) (fun e=>sel e (fun (_:Unit)=>bnd (Qda x0 r.visits) fun r3=>br r3 (bnd (QcD x0 r1.1) fun r4=>br r4 (bnd (Qc9 x0 r1.1 r.visits) fun r5=>br r5 (some 0) (some 21)) (some 20)) (some 19)) (fun r6=>some r6)):Option Int)=some _:=h
    obtain ⟨e2,h16,h⟩:=Qae h
    refine gn 5 [2,5,7,10] [0] [] (QoN Γ rv h16 ?_)
    rcases e2 with e2|e2
    ·replace h:(bnd (Qda x0 r.visits) fun r3=>br r3 (bnd (QcD x0 r1.1) fun r4=>br r4 (bnd (Qc9 x0 r1.1 r.visits) fun r5=>br r5 (some 0) (some 21)) (some 20)) (some 19):Option Int)=some _:=h
     obtain ⟨r3,h17,h⟩:=Qae h
     rcases Qah h with ⟨h18,h⟩|⟨h18,h⟩
     ·obtain ⟨r4,h19,h⟩:=Qae h
      rcases Qah h with ⟨h20,h⟩|⟨h20,h⟩
      ·obtain ⟨r5,h21,h⟩:=Qae h
       rcases Qah h with ⟨h22,h⟩|⟨h22,h⟩
       ·obtain rfl:=Option.some.inj h
        exact gr 17 [] [cC (QfB h17),nF h18,cC (QhQ h19),nF h20,cC (Qlj h21),nF h22]
       ·obtain rfl:=Option.some.inj h
        exact gr 16 [] [cC (QfB h17),nF h18,cC (QhQ h19),nF h20,cC (Qlj h21),nT h22]
      ·obtain rfl:=Option.some.inj h
       exact gr 11 [] [cC (QfB h17),nF h18,cC (QhQ h19),nT h20]
     ·obtain rfl:=Option.some.inj h
      exact gr 6 [] [cC (QfB h17),nT h18]
    ·obtain ⟨r6,rfl⟩:∃ x,x=e2:=⟨_,rfl⟩
     replace h:(some r6:Option Int)=some _:=h
     exact Option.some.inj h
   ·obtain ⟨r7,rfl⟩:∃ x,x=e1:=⟨_,rfl⟩
    replace h:(some r7:Option Int)=some _:=h
    exact Option.some.inj h
 ·obtain ⟨r8,rfl⟩:∃ x,x=e0:=⟨_,rfl⟩
  replace h:(some r8:Option Int)=some _:=h
  exact Option.some.inj h
theorem Qrt {x0} {rv:Int} (h:QfT x0=some rv):AFn Tryz.prog 162 [.agg (Qab.enc x0)] [] (one (lI rv)) []:=by
 refine QaS Tryz.func162 (by kernel_rfl) (by kernel_rfl) (fun Γ=>?_)
 unfold QfT at h
 rcases Qah h with ⟨h0,h⟩|⟨h0,h⟩
 ·obtain rfl:=Option.some.inj h
  exact gr 8 [] [nL Qag.enc x0.types,bT h0]
 ·obtain ⟨x1,h1,h⟩:=Qae h
  obtain rfl:=Option.some.inj h
  exact gr 9 [] [nL Qag.enc x0.types,bF h0,cE Qag.enc h1,nL Qax x1.cap]
def QgG (Γ:Gam) (rv:List Int×Int) (cf:Cf):Prop:=Go Tryz.prog Tryz.f160 [] Γ (.tup [.one (lL 1 rv.1 Qax),.one (lI rv.2)]) [] cf
def QkC (Γ:Gam) (rv:List Int×Int) (x0:Qab) (l:List Qaa) (n:Int) (l1:List (List Int)) (i:Int) (on_:Bool) (there:Bool) (k:Int):Prop:=QgG Γ rv ⟨[.c 29844,.l 29844,.b 2,.c 3731,.b 1,.c 467,.l 116,.b 0,.c 15],⟨69,[vL 1 2 l Qaa.enc,vI 2 n,vP 3 0 6,vO 8 1 1 l1 QbL,vI 9 i,vB 10 on_,vB 11 there,vI 12 k],[oX 6 30 (Qab.enc x0),oS 1 45 l1 QbL]⟩⟩
def QjH (Γ:Gam) (rv:List Int×Int) (x0:Qab) (l:List Qaa) (n:Int) (l1:List (List Int)) (i:Int) (on_1:Bool) (there1:Bool):Prop:=QgG Γ rv ⟨[.c 3731,.b 1,.c 467,.l 116,.b 0,.c 15],⟨69,[vL 1 2 l Qaa.enc,vI 2 n,vP 3 0 6,vO 8 1 1 l1 QbL,vI 9 i,vB 10 on_1,vB 11 there1],[oX 6 30 (Qab.enc x0),oS 1 45 l1 QbL]⟩⟩
def QkB (Γ:Gam) (rv:List Int×Int) (x0:Qab) (l:List Qaa) (n:Int) (l1:List (List Int)) (i:Int):Prop:=QgG Γ rv ⟨[.c 116,.l 116,.b 0,.c 15],⟨69,[vL 1 2 l Qaa.enc,vI 2 n,vP 3 0 6,vO 8 1 1 l1 QbL,vI 9 i],[oX 6 30 (Qab.enc x0),oS 1 45 l1 QbL]⟩⟩
def QjG (Γ:Gam) (rv:List Int×Int) (x0:Qab) (l:List Qaa) (n:Int) (l2:List (List Int)):Prop:=QgG Γ rv ⟨[.c 15],⟨69,[vP 3 0 6,vO 8 1 1 l2 QbL],[oX 6 30 (Qab.enc x0),oS 1 45 l2 QbL]⟩⟩
theorem QoT (Γ:Gam) (rv:List Int×Int) {x0 l n l1 i} {s:Bool×Bool×Int} {e:Bool×Bool} (h:QaK (fun s=>QbJ x0 l n l1 i s.1 s.2.1 s.2.2) s=some e) (hD:QjH Γ rv x0 l n l1 i e.1 e.2):QkC Γ rv x0 l n l1 i s.1 s.2.1 s.2.2:=by
 refine QaC (C:=fun (s:Bool×Bool×Int)=>QkC Γ rv x0 l n l1 i s.1 s.2.1 s.2.2) (D:=fun (e:Bool×Bool)=>QjH Γ rv x0 l n l1 i e.1 e.2) ?_ h hD
 clear h hD s e
 rintro ⟨on_,there,k⟩ z_ h hI hE
 replace h:QbJ x0 l n l1 i on_ there k=_:=h
 unfold QbJ at h
 rcases Qah h with ⟨h2,h⟩|⟨h2,h⟩
 ·obtain ⟨x2,h3,h⟩:=Qae h
  rcases Qah h with ⟨h4,h⟩|⟨h4,h⟩
  ·exact gn 14 [1,2,3,8,9,10,11,12] [0,1] [nL Qaa.enc l,bT h2,cE Qaa.enc h3,bT h4] (hI _ (oJ h))
  ·rcases Qah h with ⟨h5,h⟩|⟨h5,h⟩
   ·exact gn 21 [1,2,3,8,9,10,11,12] [0,1] [nL Qaa.enc l,bT h2,cE Qaa.enc h3,bF h4,bT h5,cE Qaa.enc h3] (hI _ (oJ h))
   ·exact gn 21 [1,2,3,8,9,10,11,12] [0,1] [nL Qaa.enc l,bT h2,cE Qaa.enc h3,bF h4,bF h5] (hI _ (oJ h))
 ·exact gn 5 [1,2,3,8,9,10,11] [0,1] [nL Qaa.enc l,bF h2] (hE _ (oJ h))
theorem QoS (Γ:Gam) (rv:List Int×Int) {x0 l n} {s:List (List Int)×Int} {e:List (List Int)} (h:QaK (fun s=>QbI x0 l n s.1 s.2) s=some e) (hD:QjG Γ rv x0 l n e):QkB Γ rv x0 l n s.1 s.2:=by
 refine QaC (C:=fun (s:List (List Int)×Int)=>QkB Γ rv x0 l n s.1 s.2) (D:=fun (e:List (List Int))=>QjG Γ rv x0 l n e) ?_ h hD
 clear h hD s e
 rintro ⟨l1,i⟩ z_ h hI hE
 replace h:QbI x0 l n l1 i=_:=h
 unfold QbI at h
 rcases Qah h with ⟨h0,h⟩|⟨h0,h⟩
 ·obtain ⟨x1,h1,h⟩:=Qae h
  obtain ⟨e0,h6,h⟩:=Qae h
  refine gn 14 [1,2,3,8,9,10,11,12] [0,1] [nL Qaf.enc x0.orders,bT h0,cE Qaf.enc h1] (QoT Γ rv h6 ?_)
  obtain ⟨on_1,there1⟩:=e0
  replace h:(br (on_1&&there1) (bnd (getI x0.orders i) fun x3=>chk (okN (l1++[x3.load]).length 24) (some (.inl ((l1++[x3.load]),(addK .i64 i 1))))) (some (.inl (l1,(addK .i64 i 1)))):Option ((List (List Int)×Int)⊕(List (List Int))))=some _:=h
  rcases Qah h with ⟨h7,h⟩|⟨h7,h⟩
  ·obtain ⟨x3,h8,h⟩:=Qae h
   obtain ⟨h9,h⟩:=Qat h
   exact gn 7 [1,2,3,8,9] [0,3] [hP,hP,oR True (on_1=true),bT h7,cE Qaf.enc h8,oO (Eq.refl ([x3.load].map QbL).length),aO QbL h9] (hI _ (oJ h))
  ·exact gn 7 [1,2,3,8,9] [0,1] [hP,hP,oR True (on_1=true),bF h7] (hI _ (oJ h))
 ·exact gn 5 [3,8] [0,1] [nL Qaf.enc x0.orders,bF h0] (hE _ (oJ h))
theorem QlT {x0 l n} {rv:List Int×Int} (h:Qgr x0 l n=some rv):AFn Tryz.prog 160 [.agg (Qab.enc x0),.one (lL 2 l Qaa.enc),.one (lI n)] [] (.tup [.one (lL 1 rv.1 Qax),.one (lI rv.2)]) []:=by
 refine QaS Tryz.func160 (by kernel_rfl) (by kernel_rfl) (fun Γ=>?_)
 unfold Qgr at h
 obtain ⟨e1,h10,h⟩:=Qae h
 refine gn 9 [1,2,3,8,9] [0,1] [hW 14,hH (.adopt 8 1 45)] (QoS Γ rv h10 ?_)
 obtain ⟨l2,rfl⟩:∃ x,x=e1:=⟨_,rfl⟩
 replace h:(bnd (QfT x0) fun r=>bnd (Qfs l2 r) fun r1=>some (r1.1,r1.2):Option (List Int×Int))=some _:=h
 obtain ⟨r,h11,h⟩:=Qae h
 obtain ⟨r1,h12,h⟩:=Qae h
 obtain rfl:=Option.some.inj h
 exact gr 2 [] [cC (Qrt h11),hH (.frz 1),rp 2 (eL l2 QbL),cC (Qsk h12)]
def QmO (Γ:Gam) (rv:List (List Int)×Int) (cf:Cf):Prop:=Go Tryz.prog Tryz.f157 [] Γ (.tup [.one (lL 1 rv.1 QbL),.one (lI rv.2)]) [] cf
def QkA (Γ:Gam) (rv:List (List Int)×Int) (x0:Qab) (r:Qam) (l:List (List Int)) (n:Int):Prop:=QmO Γ rv ⟨[.c 244,.l 244,.b 0,.c 31],⟨40,[vP 2 0 6,vP 3 1 4,vO 7 2 1 l QbL,vI 8 n],[oX 6 30 (Qab.enc x0),oX 4 66 (Qam.enc r),oS 1 45 l QbL]⟩⟩
def QjF (Γ:Gam) (rv:List (List Int)×Int) (x0:Qab) (r:Qam) (l1:List (List Int)):Prop:=QmO Γ rv ⟨[.c 31],⟨40,[vO 7 0 1 l1 QbL],[oS 1 45 l1 QbL]⟩⟩
theorem QoR (Γ:Gam) (rv:List (List Int)×Int) {x0 r} {s:List (List Int)×Int} {e:(List (List Int))⊕(List (List Int)×Int)} (h:QaK (fun s=>QbH x0 r s.1 s.2) s=some e) (hD:sel e (fun e=>QjF Γ rv x0 r e) (fun e=>e=rv)):QkA Γ rv x0 r s.1 s.2:=by
 refine QaC (C:=fun (s:List (List Int)×Int)=>QkA Γ rv x0 r s.1 s.2) (D:=fun (e:(List (List Int))⊕(List (List Int)×Int))=>sel e (fun e=>QjF Γ rv x0 r e) (fun e=>e=rv)) ?_ h hD
 clear h hD s e
 rintro ⟨l,n⟩ z_ h hI hE
 replace h:QbH x0 r l n=_:=h
 unfold QbH at h
 rcases Qah h with ⟨h2,h⟩|⟨h2,h⟩
 ·obtain ⟨r2,h3,h⟩:=Qae h
  rcases Qah h with ⟨h4,h⟩|⟨h4,h⟩
  ·obtain rfl:=(hE _ (oJ h):_=rv)
   exact gr 15 [] [nL Qaa.enc r.visits,bT h2,cC (QlT h3),bT h4,hW 5,hH (.nilS 4 0 1)]
  ·obtain ⟨h5,h⟩:=Qat h
   exact gn 18 [2,3,7,8] [0,1,4] [nL Qaa.enc r.visits,bT h2,cC (QlT h3),bF h4,oO (Eq.refl ([r2.1].map QbL).length),aO QbL h5] (hI _ (oJ h))
 ·exact gn 5 [7] [2] [nL Qaa.enc r.visits,bF h2] (hE _ (oJ h))
theorem QlS {x0 r} {rv:List (List Int)×Int} (h:Qgq x0 r=some rv):AFn Tryz.prog 157 [.agg (Qab.enc x0),.agg (Qam.enc r)] [] (.tup [.one (lL 1 rv.1 QbL),.one (lI rv.2)]) []:=by
 refine QaS Tryz.func157 (by kernel_rfl) (by kernel_rfl) (fun Γ=>?_)
 unfold Qgq at h
 obtain ⟨r1,h0,h⟩:=Qae h
 rcases Qah h with ⟨h1,h⟩|⟨h1,h⟩
 ·obtain rfl:=Option.some.inj h
  exact gr 10 [] [cC (Qf9 h0),bT h1,hW 5,hH (.nilS 4 0 1)]
 ·obtain ⟨e0,h6,h⟩:=Qae h
  refine gn 16 [2,3,7,8] [0,1,2] [cC (Qf9 h0),bF h1,hW 10,hH (.adopt 7 1 45)] (QoR Γ rv h6 ?_)
  rcases e0 with e0|e0
  ·obtain ⟨l1,rfl⟩:∃ x,x=e0:=⟨_,rfl⟩
   replace h:(some (l1,0):Option (List (List Int)×Int))=some _:=h
   obtain rfl:=Option.some.inj h
   exact gr 2 [] [hW 5,hH (.frz 0),rp 3 (eL l1 QbL)]
  ·obtain ⟨r3,rfl⟩:∃ x,x=e0:=⟨_,rfl⟩
   replace h:(some r3:Option (List (List Int)×Int))=some _:=h
   exact Option.some.inj h
def QnP (Γ:Gam) (rv:Int) (cf:Cf):Prop:=Go Tryz.prog Tryz.f146 [] Γ (one (lI rv)) [] cf
def Qlk (Γ:Gam) (rv:Int) (x0:Qab) (r:Qam) (r1:List (List Int)×Int) (i:Int):Prop:=QnP Γ rv ⟨[.c 500,.l 500,.b 0,.c 63],⟨47,[vP 2 0 6,vP 3 1 4,vL 5 1 r1.1 QbL,vI 7 i],[oX 6 30 (Qab.enc x0),oX 4 66 (Qam.enc r)]⟩⟩
def Qkz (Γ:Gam) (rv:Int) (x0:Qab) (r:Qam) (r1:List (List Int)×Int):Prop:=QnP Γ rv ⟨[.c 63],⟨47,[],[]⟩⟩
theorem QpC (Γ:Gam) (rv:Int) {x0 r r1} {s:Int} {e:(Unit)⊕(Int)} (h:QaK (fun s=>Qcs x0 r r1 s) s=some e) (hD:sel e (fun e=>Qkz Γ rv x0 r r1) (fun e=>e=rv)):Qlk Γ rv x0 r r1 s:=by
 refine QaC (C:=fun (s:Int)=>Qlk Γ rv x0 r r1 s) (D:=fun (e:(Unit)⊕(Int))=>sel e (fun e=>Qkz Γ rv x0 r r1) (fun e=>e=rv)) ?_ h hD
 clear h hD s e
 intro i z_ h hI hE
 replace h:Qcs x0 r r1 i=_:=h
 unfold Qcs at h
 rcases Qah h with ⟨h3,h⟩|⟨h3,h⟩
 ·obtain ⟨x1,h4,h⟩:=Qae h
  obtain ⟨x2,h5,h⟩:=Qae h
  obtain ⟨r2,h6,h⟩:=Qae h
  rcases Qah h with ⟨h7,h⟩|⟨h7,h⟩
  ·exact gn 14 [2,3,5,7] [0,1] [nL QbL r1.1,bT h3,hH (.draw 13 []),cE QbL h4,cE Qag.enc h5,cC (Qmz h6),nF h7] (hI _ (oJ h))
  ·obtain rfl:=(hE _ (oJ h):_=rv)
   exact gr 12 [] [nL QbL r1.1,bT h3,hH (.draw 13 []),cE QbL h4,cE Qag.enc h5,cC (Qmz h6),nT h7]
 ·exact gn 5 [] [] [nL QbL r1.1,bF h3] (hE _ (oJ h))
theorem QiI {x0 r} {rv:Int} (h:QfS x0 r=some rv):AFn Tryz.prog 146 [.agg (Qab.enc x0),.agg (Qam.enc r)] [] (one (lI rv)) []:=by
 refine QaS Tryz.func146 (by kernel_rfl) (by kernel_rfl) (fun Γ=>?_)
 unfold QfS at h
 rcases Qah h with ⟨h0,h⟩|⟨h0,h⟩
 ·obtain rfl:=Option.some.inj h
  exact gr 8 [] [rp 5 hP,rp 3 (oI ((ltI r.type_ 0)=false)),nL Qag.enc x0.types,hP,hP,rp 2 (oI ((ltI r.type_ 0)=false)),oR True ((ltI r.type_ 0)=false),bT h0]
 ·obtain ⟨r1,h1,h⟩:=Qae h
  rcases Qah h with ⟨h2,h⟩|⟨h2,h⟩
  ·obtain rfl:=Option.some.inj h
   exact gr 15 [] [rp 5 hP,rp 3 (oI ((ltI r.type_ 0)=false)),nL Qag.enc x0.types,hP,hP,rp 2 (oI ((ltI r.type_ 0)=false)),oR True ((ltI r.type_ 0)=false),bF h0,cC (QlS h1),bT h2]
  ·obtain ⟨e0,h8,h⟩:=Qae h
   refine gn 19 [2,3,5,7] [0,1] [rp 5 hP,rp 3 (oI ((ltI r.type_ 0)=false)),nL Qag.enc x0.types,hP,hP,rp 2 (oI ((ltI r.type_ 0)=false)),oR True ((ltI r.type_ 0)=false),bF h0,cC (QlS h1),bF h2] (QpC Γ rv h8 ?_)
   rcases e0 with e0|e0
   ·replace h:(some 0:Option Int)=some _:=h
    obtain rfl:=Option.some.inj h
    exact gr 2 [] []
   ·obtain ⟨r3,rfl⟩:∃ x,x=e0:=⟨_,rfl⟩
    replace h:(some r3:Option Int)=some _:=h
    exact Option.some.inj h
def QnQ (Γ:Gam) (rv:List Bool×Bool) (cf:Cf):Prop:=Go Tryz.prog Tryz.f158 [] Γ (.tup [.one (lL 1 rv.1 Qc8),.one (.bool rv.2)]) [] cf
def Qll (Γ:Gam) (rv:List Bool×Bool) (n:Int) (l:List Bool) (i:Int):Prop:=QnQ Γ rv ⟨[.c 244,.l 244,.b 0,.c 31],⟨31,[vI 1 n,vO 6 0 1 l Qc8,vI 7 i],[oS 1 4 l Qc8]⟩⟩
def QkF (Γ:Gam) (rv:List Bool×Bool) (n:Int):Prop:=QnQ Γ rv ⟨[.c 31],⟨31,[],[]⟩⟩
theorem QpE (Γ:Gam) (rv:List Bool×Bool) {n} {s:List Bool×Int} {e:(Unit)⊕(List Bool×Bool)} (h:QaK (fun s=>Qef n s.1 s.2) s=some e) (hD:sel e (fun e=>QkF Γ rv n) (fun e=>e=rv)):Qll Γ rv n s.1 s.2:=by
 refine QaC (C:=fun (s:List Bool×Int)=>Qll Γ rv n s.1 s.2) (D:=fun (e:(Unit)⊕(List Bool×Bool))=>sel e (fun e=>QkF Γ rv n) (fun e=>e=rv)) ?_ h hD
 clear h hD s e
 rintro ⟨l,i⟩ z_ h hI hE
 replace h:Qef n l i=_:=h
 unfold Qef at h
 rcases Qah h with ⟨h1,h⟩|⟨h1,h⟩
 ·obtain ⟨x0,h2,h⟩:=Qae h
  rcases Qah h with ⟨h3,h⟩|⟨h3,h⟩
  ·exact gn 16 [1,6,7] [0] [bT h1,oO (Qxg h2),oO (Qxf Qc8 h2),rE Qc8 h2,nF h3,oO (Qxg h2),oO (Qxf Qc8 h2),rE Qc8 h2,hH (.rows ((setI l i false).map Qc8)),hH (.relen 0 ((setI l i false).map Qc8).length),oO (setM Qc8 l i false),rp 3 (oO (QzP Qc8 l i false))] (hI _ (oJ h))
  ·obtain rfl:=(hE _ (oJ h):_=rv)
   exact gr 15 [] [bT h1,oO (Qxg h2),oO (Qxf Qc8 h2),rE Qc8 h2,nT h3,oO (Qxg h2),oO (Qxf Qc8 h2),rE Qc8 h2,hH (.rows ((setI l i true).map Qc8)),hH (.relen 0 ((setI l i true).map Qc8).length),hW 5,hH (.frz 0),oO (setM Qc8 l i true),rp 3 (oO (QzP Qc8 l i true)),rp 5 (oO (Eq.refl ((setI l i true).map Qc8).length))]
 ·exact gn 5 [] [] [bF h1] (hE _ (oJ h))
theorem QmR {rests n} {rv:List Bool×Bool} (h:QeT rests n=some rv):AFn Tryz.prog 158 [.one (lL 1 rests Qc8),.one (lI n)] [] (.tup [.one (lL 1 rv.1 Qc8),.one (.bool rv.2)]) []:=by
 refine QaS Tryz.func158 (by kernel_rfl) (by kernel_rfl) (fun Γ=>?_)
 unfold QeT at h
 obtain ⟨h0,h⟩:=Qat h
 obtain ⟨e0,h4,h⟩:=Qae h
 refine gn 11 [1,6,7] [0] [aN Qc8 h0,nL Qc8 rests] (QpE Γ rv h4 ?_)
 rcases e0 with e0|e0
 ·replace h:(some ([],false):Option (List Bool×Bool))=some _:=h
  obtain rfl:=Option.some.inj h
  exact gr 2 [] [hW 4,hH (.nilS 4 0 1)]
 ·obtain ⟨r,rfl⟩:∃ x,x=e0:=⟨_,rfl⟩
  replace h:(some r:Option (List Bool×Bool))=some _:=h
  exact Option.some.inj h
def QjY (Γ:Gam) (rv:Qap×Int) (cf:Cf):Prop:=Go Tryz.prog Tryz.f147 [] Γ (.tup [.agg [.bool rv.1.rest_,lI rv.1.depart,lL 4 rv.1.times QaF.enc,lI rv.1.end_,lI rv.1.miles],.one (lI rv.2)]) [] cf
def Qhf (Γ:Gam) (rv:Qap×Int) (x0:Qab) (r:Qam) (l:List Bool) (r2:Qap×Int) (rests:List Bool) (x1:Qap) (rests1:List Bool) (found:Bool) (more:Bool):Prop:=QjY Γ rv ⟨[.c 4088,.l 4088,.b 0,.c 1023],⟨88,[vP 2 0 6,vP 3 1 4,vP 4 2 5,vL 7 1 rests1 Qc8,vP 8 3 5,vI 9 r2.2,vB 10 found,vB 11 more],[oX 6 30 (Qab.enc x0),oX 4 66 [lI r.type_,lI r.start,lL 1 rests Qc8,lL 2 r.visits Qaa.enc],oX 5 102 [.bool false,lI 0,.nils,lI 0,lI 0],oX 5 102 (Qap.enc x1)]⟩⟩
def QgU (Γ:Gam) (rv:Qap×Int) (x0:Qab) (r:Qam) (l:List Bool) (r2:Qap×Int) (x3:Qap) (found2:Bool):Prop:=QjY Γ rv ⟨[.c 1023],⟨88,[vP 4 0 5,vP 8 1 5,vI 9 r2.2,vB 10 found2],[oX 5 102 [.bool false,lI 0,.nils,lI 0,lI 0],oX 5 102 (Qap.enc x3)]⟩⟩
theorem QkD (Γ:Gam) (rv:Qap×Int) {x0 r l r2 rests rests1 x2 found1} {x:(List Bool×Qap×List Bool×Bool×Bool)⊕(Qap×Bool)} (h:Qfb x0 r l r2 rests rests1 x2 found1=some x) (hI:∀ s:List Bool×Qap×List Bool×Bool×Bool,x=.inl s→Qhf Γ rv x0 r l r2 s.1 s.2.1 s.2.2.1 s.2.2.2.1 s.2.2.2.2) (hE:∀ e:Qap×Bool,x=.inr e→QgU Γ rv x0 r l r2 e.1 e.2):QjY Γ rv ⟨[.c 65419,.b 1,.l 4088,.b 0,.c 1023],⟨88,[vP 2 0 6,vP 3 1 4,vP 4 2 5,vL 7 1 rests1 Qc8,vP 8 3 5,vI 9 r2.2,vB 10 found1],[oX 6 30 (Qab.enc x0),oX 4 66 [lI r.type_,lI r.start,lL 1 rests Qc8,lL 2 r.visits Qaa.enc],oX 5 102 [.bool false,lI 0,.nils,lI 0,lI 0],oX 5 102 (Qap.enc x2)]⟩⟩:=by
 unfold Qfb at h
 obtain ⟨r5,h8,h⟩:=Qae h
 exact gn 3 [2,3,4,7,8,9,10,11] [0,1,2,3] [nL Qc8 rests,cC (QmR h8)] (hI _ (oJ h))
theorem QpD (Γ:Gam) (rv:Qap×Int) {x0 r l r2} {s:List Bool×Qap×List Bool×Bool×Bool} {e:Qap×Bool} (h:QaK (fun s=>Qee x0 r l r2 s.1 s.2.1 s.2.2.1 s.2.2.2.1 s.2.2.2.2) s=some e) (hD:QgU Γ rv x0 r l r2 e.1 e.2):Qhf Γ rv x0 r l r2 s.1 s.2.1 s.2.2.1 s.2.2.2.1 s.2.2.2.2:=by
 refine QaC (C:=fun (s:List Bool×Qap×List Bool×Bool×Bool)=>Qhf Γ rv x0 r l r2 s.1 s.2.1 s.2.2.1 s.2.2.2.1 s.2.2.2.2) (D:=fun (e:Qap×Bool)=>QgU Γ rv x0 r l r2 e.1 e.2) ?_ h hD
 clear h hD s e
 rintro ⟨rests,x1,rests1,found,more⟩ z_ h hI hE
 replace h:Qee x0 r l r2 rests x1 rests1 found more=_:=h
 unfold Qee at h
 rcases Qah h with ⟨h5,h⟩|⟨h5,h⟩
 ·obtain ⟨r4,h6,h⟩:=Qae h
  rcases Qah h with ⟨h7,h⟩|⟨h7,h⟩
  ·exact gn 15 [2,3,4,7,8,9,10] [0,1,2,3] [bT h5,cC (QjZ h6),rp 11 hP,rp 2 (oI ((eqI r4.2 0)=true)),rp 4 (oI (((eqI r4.2 0)=true)∧(!found)=false)),oI ((eqI r4.2 0)=true),oI (((eqI r4.2 0)=true)∧(!found)=false),oR True ((eqI r4.2 0)=true),bT h7] (QkD Γ rv h hI hE)
  ·exact gn 13 [2,3,4,7,8,9,10] [0,1,2,3] [bT h5,cC (QjZ h6),rp 11 hP,rp 2 (oI ((eqI r4.2 0)=true)),rp 4 (oI (((eqI r4.2 0)=true)∧(!found)=false)),oI ((eqI r4.2 0)=true),oI (((eqI r4.2 0)=true)∧(!found)=false),oR True ((eqI r4.2 0)=true),bF h7] (QkD Γ rv h hI hE)
 ·exact gn 5 [4,8,9,10] [2,3] [bF h5] (hE _ (oJ h))
theorem QmP {x0 r} {rv:Qap×Int} (h:QfU x0 r=some rv):AFn Tryz.prog 147 [.agg (Qab.enc x0),.agg (Qam.enc r)] [] (.tup [.agg [.bool rv.1.rest_,lI rv.1.depart,lL 4 rv.1.times QaF.enc,lI rv.1.end_,lI rv.1.miles],.one (lI rv.2)]) []:=by
 refine QaS Tryz.func147 (by kernel_rfl) (by kernel_rfl) (fun Γ=>?_)
 unfold QfU at h
 obtain ⟨r1,h0,h⟩:=Qae h
 rcases Qah h with ⟨h1,h⟩|⟨h1,h⟩
 ·obtain rfl:=Option.some.inj h
  exact gr 10 [] [nL Qaa.enc r.visits,cC (QeG h0),hP,hP,hP,rp 2 (oI ((!r1)=false)),nL Qc8 r.rests,hP,hP,hP,rp 2 (oI ((!r1)=false)),oR True ((!r1)=false),bT h1,hW 5,hH (.nilB 2 2 4)]
 ·obtain ⟨l,h2,h⟩:=Qae h
  obtain ⟨r2,h3,h⟩:=Qae h
  obtain ⟨r3,h4,h⟩:=Qae h
  obtain ⟨e0,h9,h⟩:=Qae h
  refine gn 22 [2,3,4,7,8,9,10,11] [0,1,2,4] [nL Qaa.enc r.visits,cC (QeG h0),hP,hP,hP,rp 2 (oI ((!r1)=false)),nL Qc8 r.rests,hP,hP,hP,rp 2 (oI ((!r1)=false)),oR True ((!r1)=false),bF h1,hH (.cells [.bool false]),hH (.rows (l.map Qc8)),oO (mk1 h2),oO (mk2 h2),oO (mk3 h2),oO (mk4 h2),oO (mk5 Qc8 h2),cY Qc8 l r.rests,hH (.relen 3 ((cpyL l r.rests).map Qc8).length),hW 5,hH (.frz 3),rp 3 (oO (QBV Qc8 l r.rests)),rp 4 (oO (Eq.refl ((cpyL l r.rests).map Qc8).length)),cC (QjZ h3),nL Qc8 r.rests,cC (QmR h4)] (QpD Γ rv h9 ?_)
  obtain ⟨x3,found2⟩:=e0
  replace h:(br found2 (some (x3,0)) (some ((Qap.mk false 0 [] 0 0),r2.2)):Option (Qap×Int))=some _:=h
  rcases Qah h with ⟨h10,h⟩|⟨h10,h⟩
  ·obtain rfl:=Option.some.inj h
   exact gr 7 [] [nF h10]
  ·obtain rfl:=Option.some.inj h
   exact gr 6 [] [nT h10,hW 6,hH (.nilB 0 2 4)]
def QkG (Γ:Gam) (rv:Qap×Qay×Int) (cf:Cf):Prop:=Go Tryz.prog Tryz.f129 [] Γ (.tup [.agg [.bool rv.1.rest_,lI rv.1.depart,lL 4 rv.1.times QaF.enc,lI rv.1.end_,lI rv.1.miles],.agg [lI rv.2.1.cost,lI rv.2.1.moved,lI rv.2.1.other,lI rv.2.1.work],.one (lI rv.2.2)]) [] cf
def QhW (Γ:Gam) (rv:Qap×Qay×Int) (x0:Qab) (r:Qam) (i:Int):Prop:=QkG Γ rv ⟨[.c 244,.l 244,.b 0,.c 31],⟨85,[vP 2 0 6,vP 3 1 4,vP 4 2 5,vP 5 3 4,vI 8 i],[oX 6 30 (Qab.enc x0),oX 4 66 (Qam.enc r),oX 5 102 [.bool false,lI 0,.nils,lI 0,lI 0],oX 4 98 [lI 0,lI 0,lI 0,lI 0]]⟩⟩
def Qhw (Γ:Gam) (rv:Qap×Qay×Int) (x0:Qab) (r:Qam):Prop:=QkG Γ rv ⟨[.c 31],⟨85,[vP 2 0 6,vP 3 1 4,vP 4 2 5,vP 5 3 4],[oX 6 30 (Qab.enc x0),oX 4 66 (Qam.enc r),oX 5 102 [.bool false,lI 0,.nils,lI 0,lI 0],oX 4 98 [lI 0,lI 0,lI 0,lI 0]]⟩⟩
theorem QmT (Γ:Gam) (rv:Qap×Qay×Int) {x0 r} {s:Int} {e:(Unit)⊕(Qap×Qay×Int)} (h:QaK (fun s=>Qa9 x0 r s) s=some e) (hD:sel e (fun e=>Qhw Γ rv x0 r) (fun e=>e=rv)):QhW Γ rv x0 r s:=by
 refine QaC (C:=fun (s:Int)=>QhW Γ rv x0 r s) (D:=fun (e:(Unit)⊕(Qap×Qay×Int))=>sel e (fun e=>Qhw Γ rv x0 r) (fun e=>e=rv)) ?_ h hD
 clear h hD s e
 intro i z_ h hI hE
 replace h:Qa9 x0 r i=_:=h
 unfold Qa9 at h
 rcases Qah h with ⟨h3,h⟩|⟨h3,h⟩
 ·obtain ⟨x1,h4,h⟩:=Qae h
  obtain ⟨x2,h5,h⟩:=Qae h
  obtain ⟨x3,h6,h⟩:=Qae h
  obtain ⟨r2,h7,h⟩:=Qae h
  rcases Qah h with ⟨h8,h⟩|⟨h8,h⟩
  ·exact gn 14 [2,3,4,5,8] [0,1,2,3] [nL Qaa.enc r.visits,bT h3,hH (.draw 19 []),cE Qag.enc h4,cE Qaa.enc h5,cE Qaf.enc h6,cC (QmG h7),nF h8] (hI _ (oJ h))
  ·obtain rfl:=(hE _ (oJ h):_=rv)
   exact gr 12 [] [nL Qaa.enc r.visits,bT h3,hH (.draw 19 []),cE Qag.enc h4,cE Qaa.enc h5,cE Qaf.enc h6,cC (QmG h7),nT h8,hW 7,hH (.nilB 2 2 4)]
 ·exact gn 5 [2,3,4,5] [0,1,2,3] [nL Qaa.enc r.visits,bF h3] (hE _ (oJ h))
theorem Qgt {x0 r} {rv:Qap×Qay×Int} (h:QdS x0 r=some rv):AFn Tryz.prog 129 [.agg (Qab.enc x0),.agg (Qam.enc r)] [] (.tup [.agg [.bool rv.1.rest_,lI rv.1.depart,lL 4 rv.1.times QaF.enc,lI rv.1.end_,lI rv.1.miles],.agg [lI rv.2.1.cost,lI rv.2.1.moved,lI rv.2.1.other,lI rv.2.1.work],.one (lI rv.2.2)]) []:=by
 refine QaS Tryz.func129 (by kernel_rfl) (by kernel_rfl) (fun Γ=>?_)
 unfold QdS at h
 rcases Qah h with ⟨h0,h⟩|⟨h0,h⟩
 ·obtain rfl:=Option.some.inj h
  exact gr 8 [] [rp 5 hP,rp 3 (oI ((ltI r.type_ 0)=false)),nL Qag.enc x0.types,hP,hP,rp 2 (oI ((ltI r.type_ 0)=false)),oR True ((ltI r.type_ 0)=false),bT h0,hW 7,hH (.nilB 2 2 4)]
 ·obtain ⟨r1,h1,h⟩:=Qae h
  rcases Qah h with ⟨h2,h⟩|⟨h2,h⟩
  ·obtain rfl:=Option.some.inj h
   exact gr 15 [] [rp 5 hP,rp 3 (oI ((ltI r.type_ 0)=false)),nL Qag.enc x0.types,hP,hP,rp 2 (oI ((ltI r.type_ 0)=false)),oR True ((ltI r.type_ 0)=false),bF h0,cC (Qf9 h1),bT h2,hW 8,hH (.nilB 2 2 4)]
  ·obtain ⟨e0,h9,h⟩:=Qae h
   refine gn 19 [2,3,4,5,8] [0,1,2,3] [rp 5 hP,rp 3 (oI ((ltI r.type_ 0)=false)),nL Qag.enc x0.types,hP,hP,rp 2 (oI ((ltI r.type_ 0)=false)),oR True ((ltI r.type_ 0)=false),bF h0,cC (Qf9 h1),bF h2] (QmT Γ rv h9 ?_)
   rcases e0 with e0|e0
   ·replace h:(bnd (QfS x0 r) fun r3=>br (neI r3 0) (some ((Qap.mk false 0 [] 0 0),(Qay.mk 0 0 0 0),r3)) (bnd (QfU x0 r) fun r4=>br (neI r4.2 0) (some ((Qap.mk false 0 [] 0 0),(Qay.mk 0 0 0 0),r4.2)) (bnd (Qdy x0 r r4.1) fun r5=>some (r4.1,r5,0))):Option (Qap×Qay×Int))=some _:=h
    obtain ⟨r3,h10,h⟩:=Qae h
    rcases Qah h with ⟨h11,h⟩|⟨h11,h⟩
    ·obtain rfl:=Option.some.inj h
     exact gr 8 [] [cC (QiI h10),bT h11,hW 8,hH (.nilB 2 2 4)]
    ·obtain ⟨r4,h12,h⟩:=Qae h
     rcases Qah h with ⟨h13,h⟩|⟨h13,h⟩
     ·obtain rfl:=Option.some.inj h
      exact gr 15 [] [cC (QiI h10),bF h11,cC (QmP h12),bT h13,hW 8,hH (.nilB 2 2 4)]
     ·obtain ⟨r5,h14,h⟩:=Qae h
      obtain rfl:=Option.some.inj h
      exact gr 16 [] [cC (QiI h10),bF h11,cC (QmP h12),bF h13,hH (.draw 5 []),cC (QqF h14)]
   ·obtain ⟨r6,rfl⟩:∃ x,x=e0:=⟨_,rfl⟩
    replace h:(some r6:Option (Qap×Qay×Int))=some _:=h
    exact Option.some.inj h
theorem QeI {x0 r} {rv:Int} (h:Qfd x0 r=some rv):AFn Tryz.prog 103 [.agg (Qab.enc x0),.agg (Qam.enc r)] [] (one (lI rv)) []:=by
 refine QaS Tryz.func103 (by kernel_rfl) (by kernel_rfl) (fun Γ=>?_)
 unfold Qfd at h
 obtain ⟨r1,h0,h⟩:=Qae h
 obtain rfl:=Option.some.inj h
 exact gr 6 [] [cC (Qgt h0)]
theorem Qga {x0 r} {rv:Int×Int} (h:Qfc x0 r=some rv):AFn Tryz.prog 104 [.agg (Qab.enc x0),.agg (Qam.enc r)] [] (.tup [.one (lI rv.1),.one (lI rv.2)]) []:=by
 refine QaS Tryz.func104 (by kernel_rfl) (by kernel_rfl) (fun Γ=>?_)
 unfold Qfc at h
 obtain ⟨r1,h0,h⟩:=Qae h
 rcases Qah h with ⟨h1,h⟩|⟨h1,h⟩
 ·obtain rfl:=Option.some.inj h
  exact gr 10 [] [cC (Qgt h0),bT h1]
 ·obtain ⟨r2,h2,h⟩:=Qae h
  obtain rfl:=Option.some.inj h
  exact gr 11 [] [cC (Qgt h0),bF h1,cC (Qp6 h2)]
theorem QqE {a b} {rv:Bool} (h:QhS a b=some rv):AFn Tryz.prog 148 [.agg (Qaa.enc a),.agg (Qaa.enc b)] [] (one (.bool rv)) []:=by
 refine QaS Tryz.func148 (by kernel_rfl) (by kernel_rfl) (fun Γ=>?_)
 unfold QhS at h
 obtain rfl:=Option.some.inj h
 exact gr 4 [] [rp 17 hP,rp 5 (oI ((ltI a.order b.order)=false)),rp 2 (oI (((ltI a.order b.order)=false)∧(eqI a.order b.order)=true)),oI ((ltI a.order b.order)=false),oI (((ltI a.order b.order)=false)∧(eqI a.order b.order)=true),oI ((ltI a.order b.order)=false),oI (((ltI a.order b.order)=false)∧((eqI a.order b.order)&&(!a.drop))=true),oI ((ltI a.order b.order)=false),oI (((ltI a.order b.order)=false)∧((eqI a.order b.order)&&(!a.drop))=true),oR True ((ltI a.order b.order)=false)]
def QnO (Γ:Gam) (rv:Bool) (cf:Cf):Prop:=Go Tryz.prog Tryz.f130 [] Γ (one (.bool rv)) [] cf
def Qlg (Γ:Gam) (rv:Bool) (a:List Qaa) (b:List Qaa) (i:Int):Prop:=QnO Γ rv ⟨[.c 52,.l 52,.b 0,.c 7],⟨41,[vL 0 2 a Qaa.enc,vL 1 2 b Qaa.enc,vI 5 i],[]⟩⟩
def Qkt (Γ:Gam) (rv:Bool) (a:List Qaa) (b:List Qaa):Prop:=QnO Γ rv ⟨[.c 7],⟨41,[vL 0 2 a Qaa.enc,vL 1 2 b Qaa.enc],[]⟩⟩
theorem Qpz (Γ:Gam) (rv:Bool) {a b} {s:Int} {e:(Unit)⊕(Bool)} (h:QaK (fun s=>Qed a b s) s=some e) (hD:sel e (fun e=>Qkt Γ rv a b) (fun e=>e=rv)):Qlg Γ rv a b s:=by
 refine QaC (C:=fun (s:Int)=>Qlg Γ rv a b s) (D:=fun (e:(Unit)⊕(Bool))=>sel e (fun e=>Qkt Γ rv a b) (fun e=>e=rv)) ?_ h hD
 clear h hD s e
 intro i z_ h hI hE
 replace h:Qed a b i=_:=h
 unfold Qed at h
 rcases Qah h with ⟨h0,h⟩|⟨h0,h⟩
 ·obtain ⟨x0,h1,h⟩:=Qae h
  obtain ⟨x1,h2,h⟩:=Qae h
  rcases Qah h with ⟨h3,h⟩|⟨h3,h⟩
  ·exact gn 14 [0,1,5] [] [nL Qaa.enc a,hP,hP,hP,oI ((ltI i (lenI a))=true),nL Qaa.enc b,hP,hP,rp 2 (oI ((ltI i (lenI a))=true)),oR True ((ltI i (lenI a))=true),bT h0,hH (.draw 9 []),cE Qaa.enc h1,cE Qaa.enc h2,nF h3] (hI _ (oJ h))
  ·obtain ⟨r,h4,h⟩:=Qae h
   obtain rfl:=(hE _ (oJ h):_=rv)
   exact gr 12 [] [nL Qaa.enc a,hP,hP,hP,oI ((ltI i (lenI a))=true),nL Qaa.enc b,hP,hP,rp 2 (oI ((ltI i (lenI a))=true)),oR True ((ltI i (lenI a))=true),bT h0,hH (.draw 9 []),cE Qaa.enc h1,cE Qaa.enc h2,nT h3,hH (.draw 10 []),cE Qaa.enc h1,cE Qaa.enc h2,cC (QqE h4)]
 ·exact gn 5 [0,1] [] [nL Qaa.enc a,hP,hP,hP,oI ((ltI i (lenI a))=true),nL Qaa.enc b,hP,hP,rp 2 (oI ((ltI i (lenI a))=true)),oR True ((ltI i (lenI a))=true),bF h0] (hE _ (oJ h))
theorem Qrs {a b} {rv:Bool} (h:Qg5 a b=some rv):AFn Tryz.prog 130 [.one (lL 2 a Qaa.enc),.one (lL 2 b Qaa.enc)] [] (one (.bool rv)) []:=by
 refine QaS Tryz.func130 (by kernel_rfl) (by kernel_rfl) (fun Γ=>?_)
 unfold Qg5 at h
 obtain ⟨e0,h5,h⟩:=Qae h
 refine gn 7 [0,1,5] [] [] (Qpz Γ rv h5 ?_)
 rcases e0 with e0|e0
 ·replace h:(some (ltI (lenI a) (lenI b)):Option Bool)=some _:=h
  obtain rfl:=Option.some.inj h
  exact gr 2 [] [nL Qaa.enc a,nL Qaa.enc b]
 ·obtain ⟨r1,rfl⟩:∃ x,x=e0:=⟨_,rfl⟩
  replace h:(some r1:Option Bool)=some _:=h
  exact Option.some.inj h
theorem Qln {a b} {rv:Bool} (h:QfP a b=some rv):AFn Tryz.prog 105 [.agg (Qas.enc a),.agg (Qas.enc b)] [] (one (.bool rv)) []:=by
 refine QaS Tryz.func105 (by kernel_rfl) (by kernel_rfl) (fun Γ=>?_)
 unfold QfP at h
 rcases Qah h with ⟨h0,h⟩|⟨h0,h⟩
 ·obtain rfl:=Option.some.inj h
  exact gr 8 [] [bT h0]
 ·obtain ⟨r,h1,h⟩:=Qae h
  obtain rfl:=Option.some.inj h
  exact gr 9 [] [bF h0,cC (Qrs h1)]
def QlY (Γ:Gam) (rv:Qas×Bool) (cf:Cf):Prop:=Go Tryz.prog Tryz.f64 [] Γ (.tup [.agg [lI rv.1.type_,lI rv.1.set_,lI rv.1.price,lI rv.1.route.type_,lI rv.1.route.start,lL 1 rv.1.route.rests Qc8,lL 2 rv.1.route.visits Qaa.enc],.one (.bool rv.2)]) [] cf
def QjL (Γ:Gam) (rv:Qas×Bool) (self:Qab→Qas→Bool→(List Qaa)→Option (Qas×Bool)) (x0:Qab) (l:List Qaa) (r:List Qaa) (x1:Qas) (found1:Bool) (i:Int):Prop:=QlY Γ rv ⟨[.c 244,.l 244,.b 0,.c 31],⟨100,[vB 2 found1,vL 3 2 l Qaa.enc,vP 4 0 6,vP 5 1 7,vP 8 2 7,vL 10 2 r Qaa.enc,vI 16 i],[oX 6 30 (Qab.enc x0),oX 7 68 (Qas.enc x1),oX 7 68 [lI 0,lI 0,lI 0,lI 0,lI 0,.nils,.nils]]⟩⟩
def Qiu (Γ:Gam) (rv:Qas×Bool) (self:Qab→Qas→Bool→(List Qaa)→Option (Qas×Bool)) (x0:Qab) (l:List Qaa) (r:List Qaa) (x3:Qas) (found2:Bool):Prop:=QlY Γ rv ⟨[.c 31],⟨100,[vB 2 found2,vP 5 0 7,vP 8 1 7],[oX 7 68 (Qas.enc x3),oX 7 68 [lI 0,lI 0,lI 0,lI 0,lI 0,.nils,.nils]]⟩⟩
theorem Qoh (Γ:Gam) (rv:Qas×Bool) {self:Qab→Qas→Bool→(List Qaa)→Option (Qas×Bool)} (hself:∀ {x0:Qab} {best:Qas} {found:Bool} {l:List Qaa} {rv:Qas×Bool},self x0 best found l=some rv→AFn Tryz.prog 64 [.agg (Qab.enc x0),.agg (Qas.enc best),.one (.bool found),.one (lL 2 l Qaa.enc)] [] (.tup [.agg [lI rv.1.type_,lI rv.1.set_,lI rv.1.price,lI rv.1.route.type_,lI rv.1.route.start,lL 1 rv.1.route.rests Qc8,lL 2 rv.1.route.visits Qaa.enc],.one (.bool rv.2)]) []) {x0 l r} {s:Qas×Bool×Int} {e:Qas×Bool} (h:QaK (fun s=>Qdl self x0 l r s.1 s.2.1 s.2.2) s=some e) (hD:Qiu Γ rv self x0 l r e.1 e.2):QjL Γ rv self x0 l r s.1 s.2.1 s.2.2:=by
 refine QaC (C:=fun (s:Qas×Bool×Int)=>QjL Γ rv self x0 l r s.1 s.2.1 s.2.2) (D:=fun (e:Qas×Bool)=>Qiu Γ rv self x0 l r e.1 e.2) ?_ h hD
 clear h hD s e
 rintro ⟨x1,found1,i⟩ z_ h hI hE
 replace h:Qdl self x0 l r x1 found1 i=_:=h
 unfold Qdl at h
 rcases Qah h with ⟨h11,h⟩|⟨h11,h⟩
 ·obtain ⟨h12,h⟩:=Qat h
  obtain ⟨x2,h13,h⟩:=Qae h
  obtain ⟨h14,h⟩:=Qat h
  obtain ⟨r5,h15,h⟩:=Qae h
  exact gn 15 [2,3,4,5,8,10,16] [0,1,2] [nL Qaa.enc r,bT h11,aZ Qaa.enc h12,cE Qaa.enc h13,oO (Eq.refl ([x2].map Qaa.enc).length),aO Qaa.enc h14,hW 6,hH (.frz 5),rp 3 (oO (Eq.refl ((l++[x2]).map Qaa.enc).length)),cC (hself h15)] (hI _ (oJ h))
 ·exact gn 5 [2,5,8] [1,2] [nL Qaa.enc r,bF h11] (hE _ (oJ h))
theorem QoW {self:Qab→Qas→Bool→(List Qaa)→Option (Qas×Bool)} (hself:∀ {x0:Qab} {best:Qas} {found:Bool} {l:List Qaa} {rv:Qas×Bool},self x0 best found l=some rv→AFn Tryz.prog 64 [.agg (Qab.enc x0),.agg (Qas.enc best),.one (.bool found),.one (lL 2 l Qaa.enc)] [] (.tup [.agg [lI rv.1.type_,lI rv.1.set_,lI rv.1.price,lI rv.1.route.type_,lI rv.1.route.start,lL 1 rv.1.route.rests Qc8,lL 2 rv.1.route.visits Qaa.enc],.one (.bool rv.2)]) []) {x0 best found l} {rv:Qas×Bool} (h:QeJ self x0 best found l=some rv):AFn Tryz.prog 64 [.agg (Qab.enc x0),.agg (Qas.enc best),.one (.bool found),.one (lL 2 l Qaa.enc)] [] (.tup [.agg [lI rv.1.type_,lI rv.1.set_,lI rv.1.price,lI rv.1.route.type_,lI rv.1.route.start,lL 1 rv.1.route.rests Qc8,lL 2 rv.1.route.visits Qaa.enc],.one (.bool rv.2)]) []:=by
 refine QaS Tryz.func64 (by kernel_rfl) (by kernel_rfl) (fun Γ=>?_)
 unfold QeJ at h
 obtain ⟨r,h0,h⟩:=Qae h
 rcases Qah h with ⟨h1,h⟩|⟨h1,h⟩
 ·obtain ⟨r1,h2,h⟩:=Qae h
  rcases Qah h with ⟨h3,h⟩|⟨h3,h⟩
  ·obtain rfl:=Option.some.inj h
   exact gr 20 [] [cC (Qdh h0),nL Qaa.enc r,bT h1,hW 17,hH (.nilS 34 2 1),cC (Qce h2),rp 6 (bT h3),tT]
  ·obtain ⟨r2,h4,h⟩:=Qae h
   rcases Qah h with ⟨h5,h⟩|⟨h5,h⟩
   ·obtain rfl:=Option.some.inj h
    exact gr 20 [] [cC (Qdh h0),nL Qaa.enc r,bT h1,hW 17,hH (.nilS 34 2 1),cC (Qce h2),rp 3 (bF h3),hH (.nilS 45 2 1),bF h3,cC (QeI h4),bF h3,bF h3,bT h5]
   ·obtain ⟨r3,h6,h⟩:=Qae h
    rcases Qah h with ⟨h7,h⟩|⟨h7,h⟩
    ·obtain rfl:=Option.some.inj h
     exact gr 29 [] [cC (Qdh h0),nL Qaa.enc r,bT h1,hW 17,hH (.nilS 34 2 1),cC (Qce h2),rp 3 (bF h3),hH (.nilS 45 2 1),bF h3,cC (QeI h4),bF h3,bF h3,bF h5,hW 6,hH (.nilS 54 2 1),cC (Qga h6),bT h7,bT h7,rp 4 kF,bT h7,bT h7,tT]
    ·rcases Qah h with ⟨h8,h⟩|⟨h8,h⟩
     ·obtain ⟨r4,h9,h⟩:=Qae h
      rcases Qah h with ⟨h10,h⟩|⟨h10,h⟩
      ·obtain rfl:=Option.some.inj h
       exact gr 30 [] [cC (Qdh h0),nL Qaa.enc r,bT h1,hW 17,hH (.nilS 34 2 1),cC (Qce h2),rp 3 (bF h3),hH (.nilS 45 2 1),bF h3,cC (QeI h4),bF h3,bF h3,bF h5,hW 6,hH (.nilS 54 2 1),cC (Qga h6),bF h7,bF h7,bT h8,bT h8,hH (.nilS 65 5 1),bT h8,cC (Qln h9),bT h8,bF h7,bT h8,bF h7,nF h10,hW 6,hH (.nilB 2 5 1)]
      ·obtain rfl:=Option.some.inj h
       exact gr 29 [] [cC (Qdh h0),nL Qaa.enc r,bT h1,hW 17,hH (.nilS 34 2 1),cC (Qce h2),rp 3 (bF h3),hH (.nilS 45 2 1),bF h3,cC (QeI h4),bF h3,bF h3,bF h5,hW 6,hH (.nilS 54 2 1),cC (Qga h6),bF h7,bF h7,bT h8,bT h8,hH (.nilS 65 5 1),bT h8,cC (Qln h9),bT h8,bF h7,bT h8,bF h7,nT h10]
     ·obtain rfl:=Option.some.inj h
      exact gr 30 [] [cC (Qdh h0),nL Qaa.enc r,bT h1,hW 17,hH (.nilS 34 2 1),cC (Qce h2),rp 3 (bF h3),hH (.nilS 45 2 1),bF h3,cC (QeI h4),bF h3,bF h3,bF h5,hW 6,hH (.nilS 54 2 1),cC (Qga h6),bF h7,bF h7,rp 4 (bF h8),bF h7,bF h8,bF h7,fF,hW 6,hH (.nilB 2 5 1)]
 ·obtain ⟨e0,h16,h⟩:=Qae h
  refine gn 14 [2,3,4,5,8,10,16] [0,1,2] [cC (Qdh h0),nL Qaa.enc r,bF h1] (Qoh Γ rv hself h16 ?_)
  obtain ⟨x3,found2⟩:=e0
  replace h:(some (x3,found2):Option (Qas×Bool))=some _:=h
  obtain rfl:=Option.some.inj h
  exact gr 2 [] []
theorem QkH:∀ fuel_,∀ {x0:Qab} {best:Qas} {found:Bool} {l:List Qaa} {rv:Qas×Bool},QdT fuel_ x0 best found l=some rv→AFn Tryz.prog 64 [.agg (Qab.enc x0),.agg (Qas.enc best),.one (.bool found),.one (lL 2 l Qaa.enc)] [] (.tup [.agg [lI rv.1.type_,lI rv.1.set_,lI rv.1.price,lI rv.1.route.type_,lI rv.1.route.start,lL 1 rv.1.route.rests Qc8,lL 2 rv.1.route.visits Qaa.enc],.one (.bool rv.2)]) []
 | 0=>fun h=>nomatch h
 | fuel_+1=>fun h=>QoW (QkH fuel_) h
theorem Qlo:∀ {x0:Qab} {best:Qas} {found:Bool} {l:List Qaa} {rv:Qas×Bool},Qj0 x0 best found l=some rv→AFn Tryz.prog 64 [.agg (Qab.enc x0),.agg (Qas.enc best),.one (.bool found),.one (lL 2 l Qaa.enc)] [] (.tup [.agg [lI rv.1.type_,lI rv.1.set_,lI rv.1.price,lI rv.1.route.type_,lI rv.1.route.start,lL 1 rv.1.route.rests Qc8,lL 2 rv.1.route.visits Qaa.enc],.one (.bool rv.2)]) []:=QkH _
theorem QgK {x0 kind set_} {rv:Qas×Int} (h:QeU x0 kind set_=some rv):AFn Tryz.prog 22 [.agg (Qab.enc x0),.one (lI kind),.one (lI set_)] [] (.tup [.agg [lI rv.1.type_,lI rv.1.set_,lI rv.1.price,lI rv.1.route.type_,lI rv.1.route.start,lL 1 rv.1.route.rests Qc8,lL 2 rv.1.route.visits Qaa.enc],.one (lI rv.2)]) []:=by
 refine QaS Tryz.func22 (by kernel_rfl) (by kernel_rfl) (fun Γ=>?_)
 unfold QeU at h
 rcases Qah h with ⟨h0,h⟩|⟨h0,h⟩
 ·obtain rfl:=Option.some.inj h
  exact gr 8 [] [rp 4 hP,rp 2 (oI ((ltI kind 0)=false)),nL Qag.enc x0.types,hP,hP,rp 2 (oI ((ltI kind 0)=false)),oR True ((ltI kind 0)=false),rp 5 (bT h0),tT,hW 5,hH (.nilB 1 5 1),hH (.nilB 1 6 2)]
 ·obtain ⟨r,h1,h⟩:=Qae h
  rcases Qah h with ⟨h2,h⟩|⟨h2,h⟩
  ·obtain ⟨r1,h3,h⟩:=Qae h
   rcases Qah h with ⟨h4,h⟩|⟨h4,h⟩
   ·obtain rfl:=Option.some.inj h
    exact gr 16 [] [rp 4 hP,rp 2 (oI ((ltI kind 0)=false)),nL Qag.enc x0.types,hP,hP,rp 2 (oI ((ltI kind 0)=false)),oR True ((ltI kind 0)=false),rp 3 (bF h0),cC (Qhg h1),bF h0,bF h0,nF h2,hW 7,hH (.nilS 30 5 1),hH (.nilS 30 6 2),cC (AFn.nilA 3 2 (Qlo h3)),nF h4]
   ·obtain rfl:=Option.some.inj h
    exact gr 15 [] [rp 4 hP,rp 2 (oI ((ltI kind 0)=false)),nL Qag.enc x0.types,hP,hP,rp 2 (oI ((ltI kind 0)=false)),oR True ((ltI kind 0)=false),rp 3 (bF h0),cC (Qhg h1),bF h0,bF h0,nF h2,hW 7,hH (.nilS 30 5 1),hH (.nilS 30 6 2),cC (AFn.nilA 3 2 (Qlo h3)),nT h4,hW 5,hH (.nilB 1 5 1),hH (.nilB 1 6 2)]
  ·obtain rfl:=Option.some.inj h
   exact gr 8 [] [rp 4 hP,rp 2 (oI ((ltI kind 0)=false)),nL Qag.enc x0.types,hP,hP,rp 2 (oI ((ltI kind 0)=false)),oR True ((ltI kind 0)=false),rp 3 (bF h0),cC (Qhg h1),bF h0,bF h0,nT h2,hW 5,hH (.nilB 1 5 1),hH (.nilB 1 6 2)]
def QiT (Γ:Gam) (rv:Bool) (cf:Cf):Prop:=Go Tryz.prog Tryz.f6 [] Γ (one (.bool rv)) [] cf
def Qhl (Γ:Gam) (rv:Bool) (x0:Qab) (r4:Qas×Int) (r5:List Qad×Int) (least:Int) (i:Int):Prop:=QiT Γ rv ⟨[.c 4084,.l 4084,.b 0,.c 511],⟨97,[vP 3 0 6,vP 7 1 7,vI 8 r4.2,vL 9 9 r5.1 Qad.enc,vI 11 least,vI 12 i],[oX 6 30 (Qab.enc x0),oX 7 68 (Qas.enc r4.1)]⟩⟩
def QgY (Γ:Gam) (rv:Bool) (x0:Qab) (r4:Qas×Int) (r5:List Qad×Int) (least1:Int):Prop:=QiT Γ rv ⟨[.c 511],⟨97,[vP 7 0 7,vI 8 r4.2,vI 11 least1],[oX 7 68 (Qas.enc r4.1)]⟩⟩
theorem Qmh (Γ:Gam) (rv:Bool) {x0 r4 r5} {s:Int×Int} {e:(Int)⊕(Bool)} (h:QaK (fun s=>QbZ x0 r4 r5 s.1 s.2) s=some e) (hD:sel e (fun e=>QgY Γ rv x0 r4 r5 e) (fun e=>e=rv)):Qhl Γ rv x0 r4 r5 s.1 s.2:=by
 refine QaC (C:=fun (s:Int×Int)=>Qhl Γ rv x0 r4 r5 s.1 s.2) (D:=fun (e:(Int)⊕(Bool))=>sel e (fun e=>QgY Γ rv x0 r4 r5 e) (fun e=>e=rv)) ?_ h hD
 clear h hD s e
 rintro ⟨least,i⟩ z_ h hI hE
 replace h:QbZ x0 r4 r5 least i=_:=h
 unfold QbZ at h
 rcases Qah h with ⟨h12,h⟩|⟨h12,h⟩
 ·obtain ⟨x1,h13,h⟩:=Qae h
  obtain ⟨r7,h14,h⟩:=Qae h
  rcases Qah h with ⟨h15,h⟩|⟨h15,h⟩
  ·rcases Qah h with ⟨h16,h⟩|⟨h16,h⟩
   ·exact gn 21 [3,7,8,9,11,12] [0,1] [nL Qad.enc r5.1,bT h12,hH (.draw 13 []),cE Qad.enc h13,cC (QgB h14),nF h15,rp 4 hP,rp 2 (oI ((eqI i 0)=false)),oR True ((eqI i 0)=false),bT h16] (hI _ (oJ h))
   ·exact gn 21 [3,7,8,9,11,12] [0,1] [nL Qad.enc r5.1,bT h12,hH (.draw 13 []),cE Qad.enc h13,cC (QgB h14),nF h15,rp 4 hP,rp 2 (oI ((eqI i 0)=false)),oR True ((eqI i 0)=false),bF h16] (hI _ (oJ h))
  ·obtain rfl:=(hE _ (oJ h):_=rv)
   exact gr 15 [] [nL Qad.enc r5.1,bT h12,hH (.draw 13 []),cE Qad.enc h13,cC (QgB h14),nT h15]
 ·exact gn 5 [7,8,11] [1] [nL Qad.enc r5.1,bF h12] (hE _ (oJ h))
theorem Qn4 {x0 kind set_} {rv:Bool} (h:Qfq x0 kind set_=some rv):AFn Tryz.prog 6 [.agg (Qab.enc x0),.one (lI kind),.one (lI set_)] [] (one (.bool rv)) []:=by
 refine QaS Tryz.func6 (by kernel_rfl) (by kernel_rfl) (fun Γ=>?_)
 unfold Qfq at h
 obtain ⟨r,h0,h⟩:=Qae h
 rcases Qah h with ⟨h1,h⟩|⟨h1,h⟩
 ·obtain ⟨r1,h2,h⟩:=Qae h
  obtain rfl:=Option.some.inj h
  exact gr 8 [] [cC (Qer h0),hP,hP,hP,oI ((!r)=false),oR True ((!r)=false),rp 4 (bT h1),tT,cC (Qf0 h2)]
 ·obtain ⟨r2,h3,h⟩:=Qae h
  rcases Qah h with ⟨h4,h⟩|⟨h4,h⟩
  ·obtain ⟨r3,h5,h⟩:=Qae h
   obtain rfl:=Option.some.inj h
   exact gr 8 [] [cC (Qer h0),hP,hP,hP,oI ((!r)=false),oR True ((!r)=false),bF h1,bF h1,cC (QeZ h3),bF h1,bF h1,bT h4,cC (Qf0 h5)]
  ·obtain ⟨r4,h6,h⟩:=Qae h
   obtain ⟨r5,h7,h⟩:=Qae h
   rcases Qah h with ⟨h8,h⟩|⟨h8,h⟩
   ·rcases Qah h with ⟨h9,h⟩|⟨h9,h⟩
    ·obtain ⟨r6,h10,h⟩:=Qae h
     obtain rfl:=Option.some.inj h
     exact gr 17 [] [cC (Qer h0),hP,hP,hP,oI ((!r)=false),oR True ((!r)=false),bF h1,bF h1,cC (QeZ h3),bF h1,bF h1,bF h4,cC (QgK h6),cC (QiS h7),bT h8,bT h9,cC (Qf0 h10),bT h9]
    ·obtain rfl:=Option.some.inj h
     exact gr 17 [] [cC (Qer h0),hP,hP,hP,oI ((!r)=false),oR True ((!r)=false),bF h1,bF h1,cC (QeZ h3),bF h1,bF h1,bF h4,cC (QgK h6),cC (QiS h7),bT h8,bF h9,bF h9]
   ·rcases Qah h with ⟨h11,h⟩|⟨h11,h⟩
    ·obtain rfl:=Option.some.inj h
     exact gr 22 [] [cC (Qer h0),hP,hP,hP,oI ((!r)=false),oR True ((!r)=false),bF h1,bF h1,cC (QeZ h3),bF h1,bF h1,bF h4,cC (QgK h6),cC (QiS h7),bF h8,rp 4 hP,rp 2 (oI ((neI r5.2 0)=false)),nL Qad.enc r5.1,hP,hP,hP,rp 3 (oI ((neI r5.2 0)=false)),oR True ((neI r5.2 0)=false),bT h11]
    ·obtain ⟨e0,h17,h⟩:=Qae h
     refine gn 28 [3,7,8,9,11,12] [0,1] [cC (Qer h0),hP,hP,hP,oI ((!r)=false),oR True ((!r)=false),bF h1,bF h1,cC (QeZ h3),bF h1,bF h1,bF h4,cC (QgK h6),cC (QiS h7),bF h8,rp 4 hP,rp 2 (oI ((neI r5.2 0)=false)),nL Qad.enc r5.1,hP,hP,hP,rp 3 (oI ((neI r5.2 0)=false)),oR True ((neI r5.2 0)=false),bF h11] (Qmh Γ rv h17 ?_)
     rcases e0 with e0|e0
     ·obtain ⟨least1,rfl⟩:∃ x,x=e0:=⟨_,rfl⟩
      replace h:(br ((neI r4.2 0)||(eqI least1 r4.1.price)) (bnd (Qdw) fun r8=>some r8) (some false):Option Bool)=some _:=h
      rcases Qah h with ⟨h18,h⟩|⟨h18,h⟩
      ·obtain ⟨r8,h19,h⟩:=Qae h
       obtain rfl:=Option.some.inj h
       exact gr 2 [] [rp 5 hP,rp 3 (oI ((neI r4.2 0)=false)),oR True ((neI r4.2 0)=false),bT h18,cC (Qf0 h19),bT h18]
      ·obtain rfl:=Option.some.inj h
       exact gr 2 [] [rp 5 hP,rp 3 (oI ((neI r4.2 0)=false)),oR True ((neI r4.2 0)=false),rp 2 (bF h18)]
     ·obtain ⟨r9,rfl⟩:∃ x,x=e0:=⟨_,rfl⟩
      replace h:(some r9:Option Bool)=some _:=h
      exact Option.some.inj h
end Go.Proofs.YtfjiafgldchinaaGreatDoor
