/- Part MV of the proof: texts X1. -/
import Derived.Test.YtoedkepcaigkeaaGreatDoorMU
import Derived.Test.YtoedkepcaigkeaaGreatDoorProg
namespace Go.Proofs.YtoedkepcaigkeaaGreatDoor
set_option linter.unusedVariables false
set_option linter.unusedSectionVars false
set_option linter.unusedSimpArgs false
set_option maxHeartbeats 4000000
set_option maxRecDepth 100000
def Qul (Γ:Gam) (rv:Qas×Bool) (cf:Cf):Prop:=Go Tryz.prog Tryz.f181 [] Γ (.tup [.agg [lI rv.1.from_,lI rv.1.to_,lI rv.1.profile,lI rv.1.miles,lL 2 rv.1.travel Qan.enc,lL 2 rv.1.slow Qan.enc],.one (.bool rv.2)]) [] cf
def QqZ (Γ:Gam) (rv:Qas×Bool) (n:Qal) (profile:Int) (from_:Int) (to_:Int) (v:Int):Prop:=Qul Γ rv ⟨[.c 116,.l 116,.b 0,.c 15],⟨31,[vP 8 0 6,vP 10 1 3,vL 18 6 n.arcs Qas.enc,vI 19 (lenI n.arcs),vI 20 v],[oX 6 120 [lI 0,lI 0,lI 0,lI 0,.nils,.nils],oX 3 231 [lI from_,lI to_,lI profile]]⟩⟩
def Qqa (Γ:Gam) (rv:Qas×Bool) (n:Qal) (profile:Int) (from_:Int) (to_:Int):Prop:=Qul Γ rv ⟨[.c 15],⟨31,[vP 8 0 6],[oX 6 120 [lI 0,lI 0,lI 0,lI 0,.nils,.nils]]⟩⟩
theorem QuQ (Γ:Gam) (rv:Qas×Bool) {n profile from_ to_} {s:Int} {e:(Unit)⊕(Qas×Bool)} (h:QaW (fun s=>QhP n profile from_ to_ s) s=some e) (hD:sel e (fun e=>Qqa Γ rv n profile from_ to_) (fun e=>e=rv)):QqZ Γ rv n profile from_ to_ s:=by
 refine QaA (C:=fun (s:Int)=>QqZ Γ rv n profile from_ to_ s) (D:=fun (e:(Unit)⊕(Qas×Bool))=>sel e (fun e=>Qqa Γ rv n profile from_ to_) (fun e=>e=rv)) ?_ h hD
 clear h hD s e
 intro v z_ h hI hE
 replace h:QhP n profile from_ to_ v=_:=h
 unfold QhP at h
 rcases Qah h with ⟨h0,h⟩|⟨h0,h⟩
 ·obtain ⟨x0,h1,h⟩:=Qae h
  obtain ⟨r,h2,h⟩:=Qae h
  rcases Qah h with ⟨h3,h⟩|⟨h3,h⟩
  ·obtain rfl:=(hE _ (oJ h):_=rv)
   exact gr 14 [] [bT h0,cE Qas.enc h1,hH (.draw 4 []),cC (Qsb h2),bT h3]
  ·exact gn 16 [8,10,18,19,20] [0,1] [bT h0,cE Qas.enc h1,hH (.draw 4 []),cC (Qsb h2),bF h3] (hI _ (oJ h))
 ·exact gn 5 [8] [0] [bF h0] (hE _ (oJ h))
theorem Qti {n profile from_ to_} {rv:Qas×Bool} (h:Qn9 n profile from_ to_=some rv):AFn Tryz.prog 181 [.agg (Qal.enc n),.one (lI profile),.one (lI from_),.one (lI to_)] [] (.tup [.agg [lI rv.1.from_,lI rv.1.to_,lI rv.1.profile,lI rv.1.miles,lL 2 rv.1.travel Qan.enc,lL 2 rv.1.slow Qan.enc],.one (.bool rv.2)]) []:=by
 refine QaQ Tryz.func181 (by kernel_rfl) (by kernel_rfl) (fun Γ=>?_)
 unfold Qn9 at h
 obtain ⟨e0,h4,h⟩:=Qae h
 refine gn 9 [8,10,18,19,20] [1,2] [nL Qas.enc n.arcs] (QuQ Γ rv h4 ?_)
 rcases e0 with e0|e0
 ·replace h:(some ((Qas.mk 0 0 0 0 [] []),false):Option (Qas×Bool))=some _:=h
  obtain rfl:=Option.some.inj h
  exact gr 2 [] [hW 5,hH (.nilB 0 4 2),hH (.nilB 0 5 2)]
 ·obtain ⟨r1,rfl⟩:∃ x,x=e0:=⟨_,rfl⟩
  replace h:(some r1:Option (Qas×Bool))=some _:=h
  exact Option.some.inj h
theorem Qix {n least most} {rv:Bool} (h:Qhi n least most=some rv):AFn Tryz.prog 205 [.one (lI n),.one (lI least),.one (lI most)] [] (one (.bool rv)) []:=by
 refine QaQ Tryz.func205 (by kernel_rfl) (by kernel_rfl) (fun Γ=>?_)
 unfold Qhi at h
 obtain rfl:=Option.some.inj h
 exact gr 4 [] [rp 4 hP,rp 2 (oI ((geI n least)=true)),oR True ((geI n least)=true)]
theorem QwO {i} {rv:ByteArray} (h:Qsu i=some rv):AFn Tryz.prog 221 [.one (lI i)] [] (one (.str rv)) []:=by
 refine QaQ Tryz.func221 (by kernel_rfl) (by kernel_rfl) (fun Γ=>?_)
 unfold Qsu at h
 rcases Qah h with ⟨h0,h⟩|⟨h0,h⟩
 ·obtain ⟨s0,h1,h⟩:=Qae h
  obtain rfl:=Option.some.inj h
  exact gr 8 [] [bT h0,oO (ss1 h1),oO (ss2 h1),oO (ss3 h1)]
 ·obtain ⟨s1,h2,h⟩:=Qae h
  obtain rfl:=Option.some.inj h
  exact gr 9 [] [bF h0,oO (ss1 h2),oO (ss2 h2),oO (ss3 h2)]
def Quy (Γ:Gam) (rv:ByteArray) (cf:Cf):Prop:=Go Tryz.prog Tryz.f220 [] Γ (one (.str rv)) [] cf
theorem QkU (Γ:Gam) (rv:ByteArray) {i u} (h:Qhw i u=some rv):Quy Γ rv ⟨[.c 431,.c 7],⟨54,[vI 0 i,vP 5 0 24,(6,one (.int .u64 u))],[oX 24 249 [.int .u8 0,.int .u8 0,.int .u8 0,.int .u8 0,.int .u8 0,.int .u8 0,.int .u8 0,.int .u8 0,.int .u8 0,.int .u8 0,.int .u8 0,.int .u8 0,.int .u8 0,.int .u8 0,.int .u8 0,.int .u8 0,.int .u8 0,.int .u8 0,.int .u8 0,.int .u8 0,.int .u8 0,.int .u8 0,.int .u8 0,.int .u8 0]]⟩⟩:=by
 unfold Qhw at h
 obtain ⟨r1,h4,h⟩:=Qae h
 cases h
theorem QtV {i base} {rv:ByteArray} (h:Qmu i base=some rv):AFn Tryz.prog 220 [.one (lI i),.one (lI base)] [] (one (.str rv)) []:=by
 refine QaQ Tryz.func220 (by kernel_rfl) (by kernel_rfl) (fun Γ=>?_)
 unfold Qmu at h
 rcases Qah h with ⟨h0,h⟩|⟨h0,h⟩
 ·rcases Qah h with ⟨h1,h⟩|⟨h1,h⟩
  ·obtain ⟨r,h2,h⟩:=Qae h
   obtain rfl:=Option.some.inj h
   exact gr 12 [] [bT h0,hP,hP,hP,oI ((leI 0 i)=true),oR True ((leI 0 i)=true),bT h1,cC (QwO h2)]
  ·rcases Qah h with ⟨h3,h⟩|⟨h3,h⟩
   ·exact gn 20 [0,5,6] [0] [bT h0,hP,hP,hP,oI ((leI 0 i)=true),oR True ((leI 0 i)=true),bF h1,bT h3] (QkU Γ rv h)
   ·exact gn 20 [0,5,6] [0] [bT h0,hP,hP,hP,oI ((leI 0 i)=true),oR True ((leI 0 i)=true),bF h1,bF h3] (QkU Γ rv h)
 ·cases h
theorem Qw8 {i} {rv:ByteArray} (h:QtW i=some rv):AFn Tryz.prog 218 [.one (lI i)] [] (one (.str rv)) []:=by
 refine QaQ Tryz.func218 (by kernel_rfl) (by kernel_rfl) (fun Γ=>?_)
 unfold QtW at h
 obtain ⟨r,h0,h⟩:=Qae h
 obtain rfl:=Option.some.inj h
 exact gr 4 [] [cC (QtV h0)]
theorem Qq8 {i} {rv:ByteArray} (h:Qnr i=some rv):AFn Tryz.prog 214 [.one (lI i)] [] (one (.str rv)) []:=by
 refine QaQ Tryz.func214 (by kernel_rfl) (by kernel_rfl) (fun Γ=>?_)
 unfold Qnr at h
 obtain ⟨r,h0,h⟩:=Qae h
 obtain rfl:=Option.some.inj h
 exact gr 4 [] [cC (Qw8 h0)]
def Qns (Γ:Gam) (rv:List Qab) (cf:Cf):Prop:=Go Tryz.prog Tryz.f210 [] Γ (one (lL 2 rv Qab.enc)) [] cf
def Qmv (Γ:Gam) (rv:List Qab) (l:List Qan) (l2:List Qab) (v:Int):Prop:=Qns Γ rv ⟨[.c 244,.l 244,.b 0,.c 31],⟨83,[vL 0 2 l Qan.enc,vO 3 0 2 l2 Qab.enc,vL 19 2 l Qan.enc,vI 20 (lenI l),vI 21 v],[oS 2 151 l2 Qab.enc]⟩⟩
def Qk4 (Γ:Gam) (rv:List Qab) (l:List Qan) (l4:List Qab):Prop:=Qns Γ rv ⟨[.c 31],⟨83,[vO 3 0 2 l4 Qab.enc],[oS 2 151 l4 Qab.enc]⟩⟩
theorem Qqn (Γ:Gam) (rv:List Qab) {l v x0 r l3} {x:(List Qab×Int)⊕(List Qab)} (h:Qji l v x0 r l3=some x) (hI:∀ s:List Qab×Int,x=.inl s→Qmv Γ rv l s.1 s.2) (hE:∀ e:List Qab,x=.inr e→Qk4 Γ rv l e):Qns Γ rv ⟨[.c 31335,.b 1,.c 1959,.l 244,.b 0,.c 31],⟨83,[vL 0 2 l Qan.enc,vO 3 0 2 l3 Qab.enc,vI 4 v,vP 5 1 2,vS 6 r,vL 19 2 l Qan.enc,vI 20 (lenI l),vI 21 v],[oS 2 151 l3 Qab.enc,oX 2 117 (Qan.enc x0)]⟩⟩:=by
 unfold Qji at h
 rcases Qah h with ⟨h8,h⟩|⟨h8,h⟩
 ·obtain ⟨x1,h9,h⟩:=Qae h
  rcases Qah h with ⟨h10,h⟩|⟨h10,h⟩
  ·obtain ⟨h11,h⟩:=Qau h
   exact gn 7 [0,3,19,20,21] [3] [hH (.draw 24 []),rp 6 (bT h8),cE Qan.enc h9,rp 4 (bT h8),rp 9 (bT h10),bT h8,bT h10,bT h8,tT,oO (Eq.refl ([(Qab.mk 13 r)].map Qab.enc).length),aO Qab.enc h11] (hI _ (oJ h))
  ·rcases Qah h with ⟨h12,h⟩|⟨h12,h⟩
   ·obtain ⟨h13,h⟩:=Qau h
    exact gn 7 [0,3,19,20,21] [3] [hH (.draw 24 []),rp 6 (bT h8),cE Qan.enc h9,rp 4 (bT h8),rp 6 (bF h10),cE Qan.enc h9,rp 3 (bF h10),bT h8,bF h10,bT h8,bT h12,oO (Eq.refl ([(Qab.mk 13 r)].map Qab.enc).length),aO Qab.enc h13] (hI _ (oJ h))
   ·exact gn 7 [0,3,19,20,21] [0] [hH (.draw 24 []),rp 6 (bT h8),cE Qan.enc h9,rp 4 (bT h8),rp 6 (bF h10),cE Qan.enc h9,rp 3 (bF h10),bT h8,bF h10,bT h8,bF h12] (hI _ (oJ h))
 ·exact gn 7 [0,3,19,20,21] [0] [hH (.draw 24 []),rp 10 (bF h8),rp 9 kF,bF h8,bF h8,fF] (hI _ (oJ h))
theorem Qu3 (Γ:Gam) (rv:List Qab) {l} {s:List Qab×Int} {e:List Qab} (h:QaW (fun s=>QeN l s.1 s.2) s=some e) (hD:Qk4 Γ rv l e):Qmv Γ rv l s.1 s.2:=by
 refine QaA (C:=fun (s:List Qab×Int)=>Qmv Γ rv l s.1 s.2) (D:=fun (e:List Qab)=>Qk4 Γ rv l e) ?_ h hD
 clear h hD s e
 rintro ⟨l2,v⟩ z_ h hI hE
 replace h:QeN l l2 v=_:=h
 unfold QeN at h
 rcases Qah h with ⟨h2,h⟩|⟨h2,h⟩
 ·obtain ⟨x0,h3,h⟩:=Qae h
  obtain ⟨r,h4,h⟩:=Qae h
  obtain ⟨r1,h5,h⟩:=Qae h
  rcases Qah h with ⟨h6,h⟩|⟨h6,h⟩
  ·obtain ⟨h7,h⟩:=Qau h
   exact gn 16 [0,3,4,5,6,19,20,21] [3,1] [bT h2,cE Qan.enc h3,cC (Qq8 h4),cC (Qix h5),rp 13 hP,rp 4 (oI ((!r1)=false)),oR True ((!r1)=false),rp 5 (oI (((!r1)||(ltI x0.a x0.t))=false)),oR True (((!r1)||(ltI x0.a x0.t))=false),bT h6,oO (Eq.refl ([(Qab.mk 2 r)].map Qab.enc).length),aO Qab.enc h7] (Qqn Γ rv h hI hE)
  ·exact gn 16 [0,3,4,5,6,19,20,21] [0,1] [bT h2,cE Qan.enc h3,cC (Qq8 h4),cC (Qix h5),rp 13 hP,rp 4 (oI ((!r1)=false)),oR True ((!r1)=false),rp 5 (oI (((!r1)||(ltI x0.a x0.t))=false)),oR True (((!r1)||(ltI x0.a x0.t))=false),bF h6] (Qqn Γ rv h hI hE)
 ·exact gn 5 [3] [0] [bF h2] (hE _ (oJ h))
theorem Qqm (Γ:Gam) (rv:List Qab) {l l1} (h:Qjh l l1=some rv):Qns Γ rv ⟨[.c 15],⟨83,[vL 0 2 l Qan.enc,vO 3 0 2 l1 Qab.enc],[oS 2 151 l1 Qab.enc]⟩⟩:=by
 unfold Qjh at h
 obtain ⟨e0,h14,h⟩:=Qae h
 refine gn 5 [0,3,19,20,21] [0] [nL Qan.enc l] (Qu3 Γ rv h14 ?_)
 obtain ⟨l4,rfl⟩:∃ x,x=e0:=⟨_,rfl⟩
 replace h:(some l4:Option (List Qab))=some _:=h
 obtain rfl:=Option.some.inj h
 exact gr 2 [] [hW 4,hH (.frz 0),rp 3 (eL l4 Qab.enc)]
theorem Qw9 {l} {rv:List Qab} (h:Qow l=some rv):AFn Tryz.prog 210 [.one (lL 2 l Qan.enc)] [] (one (lL 2 rv Qab.enc)) []:=by
 refine QaQ Tryz.func210 (by kernel_rfl) (by kernel_rfl) (fun Γ=>?_)
 unfold Qow at h
 rcases Qah h with ⟨h0,h⟩|⟨h0,h⟩
 ·obtain ⟨h1,h⟩:=Qau h
  exact gn 9 [0,3] [1] [nL Qan.enc l,hP,hP,oI ((eqI (lenI l) 0)=false),nL Qan.enc l,hP,hP,oI ((eqI (lenI l) 0)=false),oR True ((eqI (lenI l) 0)=false),bT h0,oO (Eq.refl ([(Qab.mk 4 ByteArray.empty)].map Qab.enc).length),aN (l:=([(Qab.mk 4 ByteArray.empty)]:List Qab)) Qab.enc h1] (Qqm Γ rv h)
 ·exact gn 9 [0,3] [0] [nL Qan.enc l,hP,hP,oI ((eqI (lenI l) 0)=false),nL Qan.enc l,hP,hP,oI ((eqI (lenI l) 0)=false),oR True ((eqI (lenI l) 0)=false),bF h0,hW 1,hH (.adopt 3 2 151)] (Qqm Γ rv h)
theorem Qtq {l} {rv:Bool} (h:Qox l=some rv):AFn Tryz.prog 206 [.one (lL 2 l Qan.enc)] [] (one (.bool rv)) []:=by
 refine QaQ Tryz.func206 (by kernel_rfl) (by kernel_rfl) (fun Γ=>?_)
 unfold Qox at h
 obtain ⟨r,h0,h⟩:=Qae h
 obtain rfl:=Option.some.inj h
 exact gr 4 [] [cC (Qw9 h0),nL Qab.enc r]
theorem Qk5 {p t} {rv:Int} (h:QgR p t=some rv):AFn Tryz.prog 212 [.agg (Qan.enc p),.one (lI t)] [] (one (lI rv)) []:=by
 refine QaQ Tryz.func212 (by kernel_rfl) (by kernel_rfl) (fun Γ=>?_)
 unfold QgR at h
 obtain rfl:=Option.some.inj h
 exact gr 4 [] []
def Qca (Γ:Gam) (rv:Int×Bool) (cf:Cf):Prop:=Go Tryz.prog Tryz.f211 [] Γ (.tup [.one (lI rv.1),.one (.bool rv.2)]) [] cf
def Qb8 (Γ:Gam) (rv:Int×Bool) (x0:List Qan) (target:Int) (i:Int) (j:Int):Prop:=Qca Γ rv ⟨[.c 120,.l 120,.b 0,.c 31],⟨49,[vL 0 2 x0 Qan.enc,vI 1 target,(2,one (.fn (.func 212) [])),vI 8 (lenI x0),vI 9 i,vI 10 j],[]⟩⟩
def QbY (Γ:Gam) (rv:Int×Bool) (x0:List Qan) (target:Int) (i1:Int):Prop:=Qca Γ rv ⟨[.c 31],⟨49,[vL 0 2 x0 Qan.enc,vI 1 target,(2,one (.fn (.func 212) [])),vI 8 (lenI x0),vI 9 i1],[]⟩⟩
theorem QdY (Γ:Gam) (rv:Int×Bool) {x0 target} {s:Int×Int} {e:Int} (h:QaW (fun s=>QaN x0 target s.1 s.2) s=some e) (hD:QbY Γ rv x0 target e):Qb8 Γ rv x0 target s.1 s.2:=by
 refine QaA (C:=fun (s:Int×Int)=>Qb8 Γ rv x0 target s.1 s.2) (D:=fun (e:Int)=>QbY Γ rv x0 target e) ?_ h hD
 clear h hD s e
 rintro ⟨i,j⟩ z_ h hI hE
 replace h:QaN x0 target i j=_:=h
 unfold QaN at h
 rcases Qah h with ⟨h0,h⟩|⟨h0,h⟩
 ·obtain ⟨x1,h1,h⟩:=Qae h
  obtain ⟨r,h2,h⟩:=Qae h
  rcases Qah h with ⟨h3,h⟩|⟨h3,h⟩
  ·exact gn 14 [0,1,2,8,9,10] [] [bT h0,oO (zL 1),cE Qan.enc h1,cC (Qk5 h2),bT h3] (hI _ (oJ h))
  ·exact gn 14 [0,1,2,8,9,10] [] [bT h0,oO (zL 1),cE Qan.enc h1,cC (Qk5 h2),bF h3] (hI _ (oJ h))
 ·exact gn 5 [0,1,2,8,9] [] [bF h0] (hE _ (oJ h))
theorem Qa6 {x0 target} {rv:Int×Bool} (h:Qbb x0 target=some rv):AFn Tryz.prog 211 [.one (lL 2 x0 Qan.enc),.one (lI target),.one (.fn (.func 212) [])] [] (.tup [.one (lI rv.1),.one (.bool rv.2)]) []:=by
 refine QaQ Tryz.func211 (by kernel_rfl) (by kernel_rfl) (fun Γ=>?_)
 unfold Qbb at h
 obtain ⟨e0,h4,h⟩:=Qae h
 refine gn 9 [0,1,2,8,9,10] [] [nL Qan.enc x0] (QdY Γ rv h4 ?_)
 obtain ⟨i1,rfl⟩:∃ x,x=e0:=⟨_,rfl⟩
 replace h:(br (ltI i1 (lenI x0)) (bnd (getI x0 i1) fun x2=>bnd (QgR x2 target) fun r1=>some (i1,(eqI r1 0))) (some (i1,false)):Option (Int×Bool))=some _:=h
 rcases Qah h with ⟨h5,h⟩|⟨h5,h⟩
 ·obtain ⟨x2,h6,h⟩:=Qae h
  obtain ⟨r1,h7,h⟩:=Qae h
  obtain rfl:=Option.some.inj h
  exact gr 2 [] [rp 4 (bT h5),cE Qan.enc h6,rp 3 (bT h5),cC (Qk5 h7),bT h5,bT h5]
 ·obtain rfl:=Option.some.inj h
  exact gr 2 [] [rp 9 (bF h5)]
theorem QwS {l t} {rv:Int} (h:Qmk l t=some rv):AFn Tryz.prog 207 [.one (lL 2 l Qan.enc),.one (lI t)] [] (one (lI rv)) []:=by
 refine QaQ Tryz.func207 (by kernel_rfl) (by kernel_rfl) (fun Γ=>?_)
 unfold Qmk at h
 obtain ⟨r,h0,h⟩:=Qae h
 rcases Qah h with ⟨h1,h⟩|⟨h1,h⟩
 ·obtain ⟨x0,h2,h⟩:=Qae h
  obtain rfl:=Option.some.inj h
  exact gr 11 [] [cC (Qa6 h0),bT h1,cE Qan.enc h2]
 ·rcases Qah h with ⟨h3,h⟩|⟨h3,h⟩
  ·obtain ⟨x1,h4,h⟩:=Qae h
   obtain rfl:=Option.some.inj h
   exact gr 14 [] [cC (Qa6 h0),bF h1,bT h3,hH (.draw 12 []),rp 2 (cE Qan.enc h4)]
  ·rcases Qah h with ⟨h5,h⟩|⟨h5,h⟩
   ·obtain ⟨x2,h6,h⟩:=Qae h
    obtain rfl:=Option.some.inj h
    exact gr 17 [] [cC (Qa6 h0),bF h1,bF h3,nL Qan.enc l,bT h5,hH (.draw 16 []),rp 2 (cE Qan.enc h6)]
   ·obtain ⟨x3,h7,h⟩:=Qae h
    obtain ⟨x4,h8,h⟩:=Qae h
    obtain ⟨h9,h⟩:=Qau h
    obtain rfl:=Option.some.inj h
    exact gr 23 [] [cC (Qa6 h0),bF h1,bF h3,nL Qan.enc l,bF h5,hH (.draw 13 [(0,11),(1,12)]),cE Qan.enc h7,cE Qan.enc h8,hH (.draw 19 []),oO (h9)]
theorem QwR {l t} {rv:Int} (h:Qmj l t=some rv):AFn Tryz.prog 200 [.one (lL 2 l Qan.enc),.one (lI t)] [] (one (lI rv)) []:=by
 refine QaQ Tryz.func200 (by kernel_rfl) (by kernel_rfl) (fun Γ=>?_)
 unfold Qmj at h
 obtain ⟨r,h0,h⟩:=Qae h
 rcases Qah h with ⟨h1,h⟩|⟨h1,h⟩
 ·obtain ⟨r1,h2,h⟩:=Qae h
  rcases Qah h with ⟨h3,h⟩|⟨h3,h⟩
  ·obtain ⟨r2,h4,h⟩:=Qae h
   obtain rfl:=Option.some.inj h
   exact gr 9 [] [cC (Qix h0),nF h1,nF h1,cC (Qtq h2),nF h1,nF h1,nF h3,cC (QwS h4)]
  ·obtain rfl:=Option.some.inj h
   exact gr 8 [] [cC (Qix h0),nF h1,nF h1,cC (Qtq h2),nF h1,nF h1,nT h3]
 ·obtain rfl:=Option.some.inj h
  exact gr 8 [] [cC (Qix h0),rp 4 (nT h1),tT]
def Qq0 (Γ:Gam) (rv:Int) (cf:Cf):Prop:=Go Tryz.prog Tryz.f182 [] Γ (one (lI rv)) [] cf
def Qoa (Γ:Gam) (rv:Int) (a:Qas) (t:Int) (out:Int) (v:Int):Prop:=Qq0 Γ rv ⟨[.c 116,.l 116,.b 0,.c 15],⟨29,[vI 1 t,vI 5 out,vL 13 2 a.slow Qan.enc,vI 14 (lenI a.slow),vI 15 v],[]⟩⟩
def Qne (Γ:Gam) (rv:Int) (a:Qas) (t:Int) (out1:Int):Prop:=Qq0 Γ rv ⟨[.c 15],⟨29,[vI 5 out1],[]⟩⟩
theorem Qs3 (Γ:Gam) (rv:Int) {a t} {s:Int×Int} {e:Int} (h:QaW (fun s=>QiJ a t s.1 s.2) s=some e) (hD:Qne Γ rv a t e):Qoa Γ rv a t s.1 s.2:=by
 refine QaA (C:=fun (s:Int×Int)=>Qoa Γ rv a t s.1 s.2) (D:=fun (e:Int)=>Qne Γ rv a t e) ?_ h hD
 clear h hD s e
 rintro ⟨out,v⟩ z_ h hI hE
 replace h:QiJ a t out v=_:=h
 unfold QiJ at h
 rcases Qah h with ⟨h1,h⟩|⟨h1,h⟩
 ·obtain ⟨x0,h2,h⟩:=Qae h
  rcases Qah h with ⟨h3,h⟩|⟨h3,h⟩
  ·exact gn 16 [1,5,13,14,15] [] [bT h1,cE Qan.enc h2,bT h3] (hI _ (oJ h))
  ·exact gn 16 [1,5,13,14,15] [] [bT h1,cE Qan.enc h2,bF h3] (hI _ (oJ h))
 ·exact gn 5 [5] [] [bF h1] (hE _ (oJ h))
theorem QuR {a t} {rv:Int} (h:Qjd a t=some rv):AFn Tryz.prog 182 [.agg (Qas.enc a),.one (lI t)] [] (one (lI rv)) []:=by
 refine QaQ Tryz.func182 (by kernel_rfl) (by kernel_rfl) (fun Γ=>?_)
 unfold Qjd at h
 obtain ⟨r,h0,h⟩:=Qae h
 obtain ⟨e0,h4,h⟩:=Qae h
 refine gn 9 [1,5,13,14,15] [] [cC (QwR h0),nL Qan.enc a.slow] (Qs3 Γ rv h4 ?_)
 obtain ⟨out1,rfl⟩:∃ x,x=e0:=⟨_,rfl⟩
 replace h:(some out1:Option Int)=some _:=h
 obtain rfl:=Option.some.inj h
 exact gr 2 [] []
theorem Ql9 {n profile from_ to_ t} {rv:Int×Int×Int} (h:Qqb n profile from_ to_ t=some rv):AFn Tryz.prog 134 [.agg (Qal.enc n),.one (lI profile),.one (lI from_),.one (lI to_),.one (lI t)] [] (.tup [.one (lI rv.1),.one (lI rv.2.1),.one (lI rv.2.2)]) []:=by
 refine QaQ Tryz.func134 (by kernel_rfl) (by kernel_rfl) (fun Γ=>?_)
 unfold Qqb at h
 obtain ⟨r,h0,h⟩:=Qae h
 rcases Qah h with ⟨h1,h⟩|⟨h1,h⟩
 ·obtain ⟨r1,h2,h⟩:=Qae h
  rcases Qah h with ⟨h3,h⟩|⟨h3,h⟩
  ·rcases Qah h with ⟨h4,h⟩|⟨h4,h⟩
   ·obtain rfl:=Option.some.inj h
    exact gr 13 [] [cC (Qd5 h0),rp 3 (nF h1),cC (Qd5 h2),nF h1,nF h1,nF h3,bT h4]
   ·obtain ⟨r2,h5,h⟩:=Qae h
    rcases Qah h with ⟨h6,h⟩|⟨h6,h⟩
    ·obtain ⟨r3,h7,h⟩:=Qae h
     obtain rfl:=Option.some.inj h
     exact gr 21 [] [cC (Qd5 h0),rp 3 (nF h1),cC (Qd5 h2),nF h1,nF h1,nF h3,bF h4,cC (Qti h5),nF h6,hH (.draw 8 []),cC (QuR h7)]
    ·obtain rfl:=Option.some.inj h
     exact gr 20 [] [cC (Qd5 h0),rp 3 (nF h1),cC (Qd5 h2),nF h1,nF h1,nF h3,bF h4,cC (Qti h5),nT h6]
  ·obtain rfl:=Option.some.inj h
   exact gr 8 [] [cC (Qd5 h0),rp 3 (nF h1),cC (Qd5 h2),nF h1,nF h1,nT h3]
 ·obtain rfl:=Option.some.inj h
  exact gr 8 [] [cC (Qd5 h0),rp 5 (nT h1),tT]
theorem Qtr {s0 arrive} {rv:Int×Int} (h:QqI s0 arrive=some rv):AFn Tryz.prog 183 [.agg (Qaw.enc s0),.one (lI arrive)] [] (.tup [.one (lI rv.1),.one (lI rv.2)]) []:=by
 refine QaQ Tryz.func183 (by kernel_rfl) (by kernel_rfl) (fun Γ=>?_)
 unfold QqI at h
 rcases Qah h with ⟨h0,h⟩|⟨h0,h⟩
 ·obtain rfl:=Option.some.inj h
  exact gr 10 [] [bT h0]
 ·obtain rfl:=Option.some.inj h
  exact gr 11 [] [bF h0]
theorem Qgj {p visits} {rv:Int} (h:QgY p visits=some rv):AFn Tryz.prog 197 [.agg (Qay.enc p),.one (lI visits)] [] (one (lI rv)) []:=by
 refine QaQ Tryz.func197 (by kernel_rfl) (by kernel_rfl) (fun Γ=>?_)
 unfold QgY at h
 rcases Qah h with ⟨h0,h⟩|⟨h0,h⟩
 ·obtain rfl:=Option.some.inj h
  exact gr 8 [] [bT h0]
 ·obtain ⟨x0,h1,h⟩:=Qae h
  obtain rfl:=Option.some.inj h
  exact gr 9 [] [bF h0,cE Qaw.enc h1]
theorem QeY {s0} {rv:List Qaq} (h:QbN s0=some rv):AFn Tryz.prog 196 [.one (lL 4 s0 Qaq.enc)] [] (one (lO 0 4 rv Qaq.enc)) [oS 4 227 rv Qaq.enc]:=by
 refine QaQ Tryz.func196 (by kernel_rfl) (by kernel_rfl) (fun Γ=>?_)
 unfold QbN at h
 rcases Qah h with ⟨h0,h⟩|⟨h0,h⟩
 ·obtain ⟨hx,h⟩:=QBI h
  refine gn 5 [0,4] [] [hH (.skip)] (cf':=⟨[.c 13,.c 7],⟨8,[vL 0 4 s0 Qaq.enc,(4,.boo)],[]⟩⟩) (QG8 4 rfl ?_ ?_)
  ·replace h:=hx
   obtain rfl:=Option.some.inj h
   exact gr 3 [0] [tT,hW 3,hH (.adopt 2 4 227)]
  ·obtain ⟨h1,h⟩:=Qau h
   obtain rfl:=Option.some.inj h
   exact gr 4 [0] [fF,aZ Qaq.enc h1]
 ·obtain ⟨h2,h⟩:=Qau h
  obtain rfl:=Option.some.inj h
  exact gr 9 [0] [oO (neE Qaq.enc h0),fF,hH (.bit false),aZ Qaq.enc h2]
def Qjj (Γ:Gam) (rv:Qag×Int) (cf:Cf):Prop:=Go Tryz.prog Tryz.f176 [] Γ (.tup [.agg [lI rv.1.ready,lI rv.1.since,.bool rv.1.sheet.rest_,lI rv.1.sheet.depart,lL 4 rv.1.sheet.times Qaq.enc,lI rv.1.sheet.end_,lI rv.1.sheet.miles],.one (lI rv.2)]) [] cf
theorem QmD (Γ:Gam) (rv:Qag×Int) {p l depart since rest_1 depart1 r2 l2 ready end_} (h:QfH p l depart since rest_1 depart1 r2 l2 ready end_=some rv):Qjj Γ rv ⟨[.c 32767],⟨163,[vP 4 0 25,vP 8 1 7,vP 12 2 7],[oX 25 173 (Qay.enc p),oX 7 177 [lI 0,lI 0,.bool false,lI 0,.nils,lI 0,lI 0],oX 7 177 [lI ready,lI (subK .i64 (addK .i64 since r2.1) depart),.bool rest_1,lI depart1,lO 3 4 l2 Qaq.enc,lI end_,lI (addK .i64 l.sheet.miles r2.2.1)],oS 4 227 l2 Qaq.enc]⟩⟩:=by
 unfold QfH at h
 rcases Qah h with ⟨h15,h⟩|⟨h15,h⟩
 ·obtain rfl:=Option.some.inj h
  exact gr 6 [] [bT h15,hW 5,hH (.nilB 1 4 4)]
 ·obtain rfl:=Option.some.inj h
  exact gr 7 [] [bF h15,hW 6,hH (.frz 3),rp 3 (eL l2 Qaq.enc)]
theorem QmC (Γ:Gam) (rv:Qag×Int) {p l done depart since l1 rest_1 depart1 to_} (h:Qeo p l done depart since l1 rest_1 depart1 to_=some rv):Qjj Γ rv ⟨[.c 1023],⟨163,[vI 2 done,vP 4 0 25,vP 8 1 7,vI 10 depart,vI 11 since,vP 12 2 7,vB 13 (eqI done (lenI p.stops)),vI 14 to_],[oX 25 173 (Qay.enc p),oX 7 177 [lI 0,lI 0,.bool false,lI 0,.nils,lI 0,lI 0],oX 7 177 [lI 0,lI 0,.bool rest_1,lI depart1,lO 3 4 l1 Qaq.enc,lI l.sheet.end_,lI l.sheet.miles],oS 4 227 l1 Qaq.enc]⟩⟩:=by
 unfold Qeo at h
 obtain ⟨r1,h6,h⟩:=Qae h
 obtain ⟨r2,h7,h⟩:=Qae h
 rcases Qah h with ⟨h8,h⟩|⟨h8,h⟩
 ·obtain rfl:=Option.some.inj h
  exact gr 8 [] [hH (.draw 19 []),cC (Qgj h6),cC (Ql9 h7),bT h8,hW 5,hH (.nilB 1 4 4)]
 ·rcases Qah h with ⟨h9,h⟩|⟨h9,h⟩
  ·rcases Qah h with ⟨h10,h⟩|⟨h10,h⟩
   ·obtain rfl:=Option.some.inj h
    exact gr 21 [] [hH (.draw 19 []),cC (Qgj h6),cC (Ql9 h7),bF h8,bT h9,bT h10,hW 5,hH (.nilB 1 4 4)]
   ·exact gn 23 [4,8,12] [0,1,2,3] [hH (.draw 19 []),cC (Qgj h6),cC (Ql9 h7),bF h8,bT h9,bF h10] (QmD Γ rv h)
  ·obtain ⟨x2,h11,h⟩:=Qae h
   obtain ⟨r3,h12,h⟩:=Qae h
   rcases Qah h with ⟨h13,h⟩|⟨h13,h⟩
   ·obtain rfl:=Option.some.inj h
    exact gr 23 [] [hH (.draw 19 []),cC (Qgj h6),cC (Ql9 h7),bF h8,bF h9,cE Qaw.enc h11,cC (Qtr h12),bT h13,hW 5,hH (.nilB 1 4 4)]
   ·obtain ⟨h14,h⟩:=Qau h
    exact gn 25 [4,8,12] [0,1,2,5] [hH (.draw 19 []),cC (Qgj h6),cC (Ql9 h7),bF h8,bF h9,cE Qaw.enc h11,cC (Qtr h12),bF h13,cE Qaw.enc h11,oO (Eq.refl ([(Qaq.mk r2.1 r3.1 0 false)].map Qaq.enc).length),aO Qaq.enc h14] (QmD Γ rv h)
theorem QmB (Γ:Gam) (rv:Qag×Int) {p l done depart since l1 rest_1 depart1} (h:QfG p l done depart since l1 rest_1 depart1=some rv):Qjj Γ rv ⟨[.c 127],⟨163,[vI 2 done,vP 4 0 25,vP 8 1 7,vI 10 depart,vI 11 since,vP 12 2 7],[oX 25 173 (Qay.enc p),oX 7 177 [lI 0,lI 0,.bool false,lI 0,.nils,lI 0,lI 0],oX 7 177 [lI 0,lI 0,.bool rest_1,lI depart1,lO 3 4 l1 Qaq.enc,lI l.sheet.end_,lI l.sheet.miles],oS 4 227 l1 Qaq.enc]⟩⟩:=by
 unfold QfG at h
 rcases Qah h with ⟨h4,h⟩|⟨h4,h⟩
 ·exact gn 9 [2,4,8,10,11,12,13,14] [0,1,2,3] [nL Qaw.enc p.stops,nF h4] (QmC Γ rv h)
 ·obtain ⟨x1,h5,h⟩:=Qae h
  exact gn 9 [2,4,8,10,11,12,13,14] [0,1,2,3] [nL Qaw.enc p.stops,nT h4,cE Qaw.enc h5] (QmC Γ rv h)
theorem QmA (Γ:Gam) (rv:Qag×Int) {p l done rest_ depart since} (h:QfF p l done rest_ depart since=some rv):Qjj Γ rv ⟨[.c 15],⟨163,[vI 2 done,vB 3 rest_,vP 4 0 25,vP 5 1 7,vP 8 2 7,vI 10 depart,vI 11 since],[oX 25 173 (Qay.enc p),oX 7 177 (Qag.enc l),oX 7 177 [lI 0,lI 0,.bool false,lI 0,.nils,lI 0,lI 0]]⟩⟩:=by
 unfold QfF at h
 obtain ⟨r,h1,h⟩:=Qae h
 rcases Qah h with ⟨h2,h⟩|⟨h2,h⟩
 ·exact gn 11 [2,4,8,10,11,12] [0,2,3,4] [cC (QeY h1),bT h2] (QmB Γ rv h)
 ·obtain ⟨x0,h3,h⟩:=Qae h
  exact gn 11 [2,4,8,10,11,12] [0,2,3,4] [cC (QeY h1),bF h2,oO (Qxi h3),oO (Qxh Qaq.enc h3),rE Qaq.enc h3,hH (.rows ((setI r (subK .i64 done 1) (Qaq.mk x0.arrive x0.begin x0.depart rest_)).map Qaq.enc)),hH (.relen 4 ((setI r (subK .i64 done 1) (Qaq.mk x0.arrive x0.begin x0.depart rest_)).map Qaq.enc).length),oO (setM Qaq.enc r (subK .i64 done 1) (Qaq.mk x0.arrive x0.begin x0.depart rest_)),rp 3 (oO (QA9 Qaq.enc r (subK .i64 done 1) (Qaq.mk x0.arrive x0.begin x0.depart rest_))),oO (Qxi (QFP h3 (Qaq.mk x0.arrive x0.begin x0.depart rest_))),oO (Qxh Qaq.enc (QFP h3 (Qaq.mk x0.arrive x0.begin x0.depart rest_))),rE Qaq.enc (QFP h3 (Qaq.mk x0.arrive x0.begin x0.depart rest_)),hH (.rows ((setI (setI r (subK .i64 done 1) (Qaq.mk x0.arrive x0.begin x0.depart rest_)) (subK .i64 done 1) (Qaq.mk x0.arrive x0.begin depart rest_)).map Qaq.enc)),hH (.relen 4 ((setI (setI r (subK .i64 done 1) (Qaq.mk x0.arrive x0.begin x0.depart rest_)) (subK .i64 done 1) (Qaq.mk x0.arrive x0.begin depart rest_)).map Qaq.enc).length),oO (setM Qaq.enc (setI r (subK .i64 done 1) (Qaq.mk x0.arrive x0.begin x0.depart rest_)) (subK .i64 done 1) (Qaq.mk x0.arrive x0.begin depart rest_)),rp 4 (oO (QA9 Qaq.enc (setI r (subK .i64 done 1) (Qaq.mk x0.arrive x0.begin x0.depart rest_)) (subK .i64 done 1) (Qaq.mk x0.arrive x0.begin depart rest_)))] (QmB Γ rv h)
theorem QgX {p l done rest_} {rv:Qag×Int} (h:QfA p l done rest_=some rv):AFn Tryz.prog 176 [.agg (Qay.enc p),.agg (Qag.enc l),.one (lI done),.one (.bool rest_)] [] (.tup [.agg [lI rv.1.ready,lI rv.1.since,.bool rv.1.sheet.rest_,lI rv.1.sheet.depart,lL 4 rv.1.sheet.times Qaq.enc,lI rv.1.sheet.end_,lI rv.1.sheet.miles],.one (lI rv.2)]) []:=by
 refine QaQ Tryz.func176 (by kernel_rfl) (by kernel_rfl) (fun Γ=>?_)
 unfold QfA at h
 rcases Qah h with ⟨h0,h⟩|⟨h0,h⟩
 ·exact gn 11 [2,3,4,5,8,10,11] [0,1,2] [hH (.draw 6 []),bT h0] (QmA Γ rv h)
 ·exact gn 9 [2,3,4,5,8,10,11] [0,1,2] [hH (.draw 6 []),bF h0] (QmA Γ rv h)
theorem Qtt {l m} {rv:Bool} (h:Qml l m=some rv):AFn Tryz.prog 179 [.agg (Qag.enc l),.agg (Qag.enc m)] [] (one (.bool rv)) []:=by
 refine QaQ Tryz.func179 (by kernel_rfl) (by kernel_rfl) (fun Γ=>?_)
 unfold Qml at h
 obtain rfl:=Option.some.inj h
 exact gr 4 [] [rp 6 hP,rp 4 (oI ((eqI l.ready m.ready)=true)),oR True ((eqI l.ready m.ready)=true)]
theorem QnD {m c} {rv:Bool} (h:Qhx m c=some rv):AFn Tryz.prog 178 [.agg (Qag.enc m),.one (.ip (Qag.enc c) 0)] [] (one (.bool rv)) []:=by
 refine QaQ Tryz.func178 (by kernel_rfl) (by kernel_rfl) (fun Γ=>?_)
 unfold Qhx at h
 obtain ⟨r,h0,h⟩:=Qae h
 obtain rfl:=Option.some.inj h
 exact gr 4 [] [cC (Qtt h0)]
def Qc5 (Γ:Gam) (rv:Int) (cf:Cf):Prop:=Go Tryz.prog Tryz.f198 [] Γ (one (lI rv)) [] cf
def QcI (Γ:Gam) (rv:Int) (s0:List Qag) (c:Qag) (v:Int):Prop:=Qc5 Γ rv ⟨[.c 52,.l 52,.b 0,.c 7],⟨19,[vL 0 7 s0 Qag.enc,(1,one (.fn (.func 178) [.ip (Qag.enc c) 0])),vI 7 (lenI s0),vI 8 v],[]⟩⟩
def QcD (Γ:Gam) (rv:Int) (s0:List Qag) (c:Qag):Prop:=Qc5 Γ rv ⟨[.c 7],⟨19,[],[]⟩⟩
theorem Qfn (Γ:Gam) (rv:Int) {s0 c} {s:Int} {e:(Unit)⊕(Int)} (h:QaW (fun s=>Qax s0 c s) s=some e) (hD:sel e (fun e=>QcD Γ rv s0 c) (fun e=>e=rv)):QcI Γ rv s0 c s:=by
 refine QaA (C:=fun (s:Int)=>QcI Γ rv s0 c s) (D:=fun (e:(Unit)⊕(Int))=>sel e (fun e=>QcD Γ rv s0 c) (fun e=>e=rv)) ?_ h hD
 clear h hD s e
 intro v z_ h hI hE
 replace h:Qax s0 c v=_:=h
 unfold Qax at h
 rcases Qah h with ⟨h0,h⟩|⟨h0,h⟩
 ·obtain ⟨x0,h1,h⟩:=Qae h
  obtain ⟨r,h2,h⟩:=Qae h
  rcases Qah h with ⟨h3,h⟩|⟨h3,h⟩
  ·obtain rfl:=(hE _ (oJ h):_=rv)
   exact gr 14 [] [bT h0,cE Qag.enc h1,cC (QnD h2),bT h3]
  ·exact gn 16 [0,1,7,8] [] [bT h0,cE Qag.enc h1,cC (QnD h2),bF h3] (hI _ (oJ h))
 ·exact gn 5 [] [] [bF h0] (hE _ (oJ h))
theorem QfU {s0 c} {rv:Int} (h:Qbr s0 c=some rv):AFn Tryz.prog 198 [.one (lL 7 s0 Qag.enc),.one (.fn (.func 178) [.ip (Qag.enc c) 0])] [] (one (lI rv)) []:=by
 refine QaQ Tryz.func198 (by kernel_rfl) (by kernel_rfl) (fun Γ=>?_)
 unfold Qbr at h
 obtain ⟨e0,h4,h⟩:=Qae h
 refine gn 7 [0,1,7,8] [] [nL Qag.enc s0] (Qfn Γ rv h4 ?_)
 rcases e0 with e0|e0
 ·replace h:(some (-1):Option Int)=some _:=h
  obtain rfl:=Option.some.inj h
  exact gr 2 [] []
 ·obtain ⟨r1,rfl⟩:∃ x,x=e0:=⟨_,rfl⟩
  replace h:(some r1:Option Int)=some _:=h
  exact Option.some.inj h
theorem QcC {s0 c} {rv:Bool} (h:QaX s0 c=some rv):AFn Tryz.prog 177 [.one (lL 7 s0 Qag.enc),.one (.fn (.func 178) [.ip (Qag.enc c) 0])] [] (one (.bool rv)) []:=by
 refine QaQ Tryz.func177 (by kernel_rfl) (by kernel_rfl) (fun Γ=>?_)
 unfold QaX at h
 obtain ⟨r,h0,h⟩:=Qae h
 obtain rfl:=Option.some.inj h
 exact gr 4 [] [cC (QfU h0)]
def Qhy (Γ:Gam) (rv:List Qag) (cf:Cf):Prop:=Go Tryz.prog Tryz.f130 [] Γ (one (lL 7 rv Qag.enc)) [] cf
def QnF (Γ:Gam) (rv:List Qag) (p:Qay) (l:List Qag) (done:Int) (choices:List Bool) (v:Int) (x0:Qag) (l3:List Qag) (v1:Int):Prop:=Qhy Γ rv ⟨[.c 128204,.l 128204,.b 2,.b 1,.c 4007,.l 500,.b 0,.c 63],⟨64,[vI 2 done,vP 3 0 25,vL 7 1 choices QaI,vO 8 1 7 l3 Qag.enc,vP 10 2 7,vL 29 7 l Qag.enc,vI 30 (lenI l),vI 31 v,vL 35 1 choices QaI,vI 36 (lenI choices),vI 37 v1],[oX 25 173 (Qay.enc p),oS 7 177 l3 Qag.enc,oX 7 177 (Qag.enc x0)]⟩⟩
def Qmz (Γ:Gam) (rv:List Qag) (p:Qay) (l:List Qag) (done:Int) (choices:List Bool) (v:Int) (x0:Qag) (l4:List Qag):Prop:=Qhy Γ rv ⟨[.b 1,.c 4007,.l 500,.b 0,.c 63],⟨64,[vI 2 done,vP 3 0 25,vL 7 1 choices QaI,vO 8 1 7 l4 Qag.enc,vL 29 7 l Qag.enc,vI 30 (lenI l),vI 31 v],[oX 25 173 (Qay.enc p),oS 7 177 l4 Qag.enc]⟩⟩
def QnE (Γ:Gam) (rv:List Qag) (p:Qay) (l:List Qag) (done:Int) (choices:List Bool) (l2:List Qag) (v:Int):Prop:=Qhy Γ rv ⟨[.c 500,.l 500,.b 0,.c 63],⟨64,[vI 2 done,vP 3 0 25,vL 7 1 choices QaI,vO 8 1 7 l2 Qag.enc,vL 29 7 l Qag.enc,vI 30 (lenI l),vI 31 v],[oX 25 173 (Qay.enc p),oS 7 177 l2 Qag.enc]⟩⟩
def Qmy (Γ:Gam) (rv:List Qag) (p:Qay) (l:List Qag) (done:Int) (choices:List Bool) (l5:List Qag):Prop:=Qhy Γ rv ⟨[.c 63],⟨64,[vO 8 0 7 l5 Qag.enc],[oS 7 177 l5 Qag.enc]⟩⟩
theorem QsO (Γ:Gam) (rv:List Qag) {p l done choices v x0} {s:List Qag×Int} {e:List Qag} (h:QaW (fun s=>QcF p l done choices v x0 s.1 s.2) s=some e) (hD:Qmz Γ rv p l done choices v x0 e):QnF Γ rv p l done choices v x0 s.1 s.2:=by
 refine QaA (C:=fun (s:List Qag×Int)=>QnF Γ rv p l done choices v x0 s.1 s.2) (D:=fun (e:List Qag)=>Qmz Γ rv p l done choices v x0 e) ?_ h hD
 clear h hD s e
 rintro ⟨l3,v1⟩ z_ h hI hE
 replace h:QcF p l done choices v x0 l3 v1=_:=h
 unfold QcF at h
 rcases Qah h with ⟨h4,h⟩|⟨h4,h⟩
 ·obtain ⟨x1,h5,h⟩:=Qae h
  obtain ⟨r,h6,h⟩:=Qae h
  rcases Qah h with ⟨h7,h⟩|⟨h7,h⟩
  ·obtain ⟨r1,h8,h⟩:=Qae h
   rcases Qah h with ⟨h9,h⟩|⟨h9,h⟩
   ·exact gn 18 [2,3,7,8,10,29,30,31,35,36,37] [0,1,2] [bT h4,cE QaI h5,cC (QgX h6),rp 3 (bT h7),eL l3 Qag.enc,cC (QcC h8),bT h7,bT h7,nF h9] (hI _ (oJ h))
   ·obtain ⟨h10,h⟩:=Qau h
    exact gn 18 [2,3,7,8,10,29,30,31,35,36,37] [0,5,2] [bT h4,cE QaI h5,cC (QgX h6),rp 3 (bT h7),eL l3 Qag.enc,cC (QcC h8),bT h7,bT h7,nT h9,oO (Eq.refl ([r.1].map Qag.enc).length),aO Qag.enc h10] (hI _ (oJ h))
  ·exact gn 18 [2,3,7,8,10,29,30,31,35,36,37] [0,1,2] [bT h4,cE QaI h5,cC (QgX h6),rp 5 (bF h7),fF] (hI _ (oJ h))
 ·exact gn 5 [2,3,7,8,29,30,31] [0,1] [bF h4] (hE _ (oJ h))
theorem QsN (Γ:Gam) (rv:List Qag) {p l done choices} {s:List Qag×Int} {e:List Qag} (h:QaW (fun s=>QcE p l done choices s.1 s.2) s=some e) (hD:Qmy Γ rv p l done choices e):QnE Γ rv p l done choices s.1 s.2:=by
 refine QaA (C:=fun (s:List Qag×Int)=>QnE Γ rv p l done choices s.1 s.2) (D:=fun (e:List Qag)=>Qmy Γ rv p l done choices e) ?_ h hD
 clear h hD s e
 rintro ⟨l2,v⟩ z_ h hI hE
 replace h:QcE p l done choices l2 v=_:=h
 unfold QcE at h
 rcases Qah h with ⟨h2,h⟩|⟨h2,h⟩
 ·obtain ⟨x0,h3,h⟩:=Qae h
  obtain ⟨e0,h11,h⟩:=Qae h
  refine gn 13 [2,3,7,8,10,29,30,31,35,36,37] [0,1,2] [bT h2,cE Qag.enc h3,nL QaI choices] (QsO Γ rv h11 ?_)
  obtain ⟨l4,rfl⟩:∃ x,x=e0:=⟨_,rfl⟩
  replace h:(some (.inl (l4,(addK .i64 v 1))):Option ((List Qag×Int)⊕(List Qag)))=some _:=h
  exact gn 3 [2,3,7,8,29,30,31] [0,1] [] (hI _ (oJ h))
 ·exact gn 5 [8] [1] [bF h2] (hE _ (oJ h))
theorem Qmx (Γ:Gam) (rv:List Qag) {p l done choices} (h:QfE p l done choices=some rv):Qhy Γ rv ⟨[.c 15],⟨64,[vL 1 7 l Qag.enc,vI 2 done,vP 3 0 25,vL 7 1 choices QaI],[oX 25 173 (Qay.enc p)]⟩⟩:=by
 unfold QfE at h
 obtain ⟨e1,h12,h⟩:=Qae h
 refine gn 7 [2,3,7,8,29,30,31] [0,1] [nL Qag.enc l,hW 3,hH (.adopt 8 7 177)] (QsN Γ rv h12 ?_)
 obtain ⟨l5,rfl⟩:∃ x,x=e1:=⟨_,rfl⟩
 replace h:(some l5:Option (List Qag))=some _:=h
 obtain rfl:=Option.some.inj h
 exact gr 2 [] [hW 4,hH (.frz 0),rp 3 (eL l5 Qag.enc)]
theorem QuK {p l done} {rv:List Qag} (h:QgJ p l done=some rv):AFn Tryz.prog 130 [.agg (Qay.enc p),.one (lL 7 l Qag.enc),.one (lI done)] [] (one (lL 7 rv Qag.enc)) []:=by
 refine QaQ Tryz.func130 (by kernel_rfl) (by kernel_rfl) (fun Γ=>?_)
 unfold QgJ at h
 rcases Qah h with ⟨h0,h⟩|⟨h0,h⟩
 ·obtain ⟨l1,h1,h⟩:=Qae h
  exact gn 9 [1,2,3,7] [0] [nL QaI p.r.rests,bT h0,hH (.rows (l1.map QaI)),oO (sl1 h1),oO (sl2 h1),oO (sl3 QaI h1),oO (Int.le_refl (addK .i64 done 1)),oO (sl3 QaI h1),oO (sl6 QaI h1)] (Qmx Γ rv h)
 ·exact gn 9 [1,2,3,7] [0] [nL QaI p.r.rests,bF h0,hW 1,hH (.frz 1),rp 2 (oO (Eq.refl ([false,true].map QaI).length))] (Qmx Γ rv h)
def QrE (Γ:Gam) (rv:Qao×Int) (cf:Cf):Prop:=Go Tryz.prog Tryz.f131 [] Γ (.tup [.agg [.bool rv.1.rest_,lI rv.1.depart,lL 4 rv.1.times Qaq.enc,lI rv.1.end_,lI rv.1.miles],.one (lI rv.2)]) [] cf
def QoK (Γ:Gam) (rv:Qao×Int) (p:Qay) (rests:List Bool) (r:Qag) (rest_:Int) (x0:Qag) (v:Int):Prop:=QrE Γ rv ⟨[.c 116,.l 116,.b 0,.c 15],⟨36,[vP 2 0 25,vP 4 1 5,vP 6 2 7,vL 13 1 rests QaI,vI 14 (lenI rests),vI 15 v],[oX 25 173 [lL 1 p.x.net.places QmE,lL 6 p.x.net.arcs Qas.enc,lL 14 p.x.types Qak.enc,lL 16 p.x.orders Qai.enc,lL 2 p.x.apart QaO.enc,lL 2 p.x.before QaO.enc,.str p.t.name,lI p.t.count,lI p.t.from_,lI p.t.to_,lL 1 p.t.cap QaM,lI p.t.skills,lI p.t.profile,lI p.t.open_,lI p.t.close,lI p.t.drive,lI rest_,lI p.t.fixed,lI p.t.perMile,lI p.t.perTick,lI p.r.type_,lI p.r.start,lL 1 p.r.rests QaI,lL 2 p.r.visits Qaa.enc,lL 4 p.stops Qaw.enc],oX 5 74 [.bool false,lI 0,.nils,lI 0,lI 0],oX 7 177 (Qag.enc x0)]⟩⟩
def QnG (Γ:Gam) (rv:Qao×Int) (p:Qay) (rests:List Bool) (r:Qag) (x2:Qag):Prop:=QrE Γ rv ⟨[.c 15],⟨36,[vP 4 0 5,vP 6 1 7],[oX 5 74 [.bool false,lI 0,.nils,lI 0,lI 0],oX 7 177 (Qag.enc x2)]⟩⟩
theorem Qtu (Γ:Gam) (rv:Qao×Int) {p rests r} {s:Int×Qag×Int} {e:(Qag)⊕(Qao×Int)} (h:QaW (fun s=>Qge p rests r s.1 s.2.1 s.2.2) s=some e) (hD:sel e (fun e=>QnG Γ rv p rests r e) (fun e=>e=rv)):QoK Γ rv p rests r s.1 s.2.1 s.2.2:=by
 refine QaA (C:=fun (s:Int×Qag×Int)=>QoK Γ rv p rests r s.1 s.2.1 s.2.2) (D:=fun (e:(Qag)⊕(Qao×Int))=>sel e (fun e=>QnG Γ rv p rests r e) (fun e=>e=rv)) ?_ h hD
 clear h hD s e
 rintro ⟨rest_,x0,v⟩ z_ h hI hE
 replace h:Qge p rests r rest_ x0 v=_:=h
 unfold Qge at h
 rcases Qah h with ⟨h1,h⟩|⟨h1,h⟩
 ·obtain ⟨x1,h2,h⟩:=Qae h
  obtain ⟨r1,h3,h⟩:=Qae h
  rcases Qah h with ⟨h4,h⟩|⟨h4,h⟩
  ·obtain rfl:=(hE _ (oJ h):_=rv)
   exact gr 17 [] [bT h1,cE QaI h2,cC (QgX h3),bT h4,hW 6,hH (.nilB 1 2 4)]
  ·exact gn 20 [2,4,6,13,14,15] [0,1,2] [bT h1,cE QaI h2,cC (QgX h3),bF h4] (hI _ (oJ h))
 ·exact gn 5 [4,6] [1,2] [bF h1] (hE _ (oJ h))
theorem Qvt {p rests} {rv:Qao×Int} (h:Qhj p rests=some rv):AFn Tryz.prog 131 [.agg (Qay.enc p),.one (lL 1 rests QaI)] [] (.tup [.agg [.bool rv.1.rest_,lI rv.1.depart,lL 4 rv.1.times Qaq.enc,lI rv.1.end_,lI rv.1.miles],.one (lI rv.2)]) []:=by
 refine QaQ Tryz.func131 (by kernel_rfl) (by kernel_rfl) (fun Γ=>?_)
 unfold Qhj at h
 obtain ⟨r,h0,h⟩:=Qae h
 obtain ⟨e0,h5,h⟩:=Qae h
 refine gn 9 [2,4,6,13,14,15] [0,1,2] [cC (QoJ h0),nL QaI rests] (Qtu Γ rv h5 ?_)
 rcases e0 with e0|e0
 ·obtain ⟨x2,rfl⟩:∃ x,x=e0:=⟨_,rfl⟩
  replace h:(some (x2.sheet,0):Option (Qao×Int))=some _:=h
  obtain rfl:=Option.some.inj h
  exact gr 2 [] []
 ·obtain ⟨r2,rfl⟩:∃ x,x=e0:=⟨_,rfl⟩
  replace h:(some r2:Option (Qao×Int))=some _:=h
  exact Option.some.inj h
def Qqv (Γ:Gam) (rv:Qao×Int) (cf:Cf):Prop:=Go Tryz.prog Tryz.f82 [] Γ (.tup [.agg [.bool rv.1.rest_,lI rv.1.depart,lL 4 rv.1.times Qaq.enc,lI rv.1.end_,lI rv.1.miles],.one (lI rv.2)]) [] cf
def Qtc (Γ:Gam) (rv:Qao×Int) (r:Qac) (r1:Qay×Bool) (l:List Qag) (v:Int):Prop:=Qqv Γ rv ⟨[.c 1012,.l 1012,.b 0,.c 127],⟨82,[vP 3 0 4,vP 4 1 5,vP 6 2 25,vI 8 (addK .i64 (lenI r.visits) 1),vL 9 7 l Qag.enc,vI 38 (addK .i64 (lenI r.visits) 1),vI 39 v],[oX 4 37 (Qac.enc r),oX 5 74 [.bool false,lI 0,.nils,lI 0,lI 0],oX 25 173 (Qay.enc r1.1)]⟩⟩
def QrB (Γ:Gam) (rv:Qao×Int) (r:Qac) (r1:Qay×Bool) (l1:List Qag):Prop:=Qqv Γ rv ⟨[.c 127],⟨82,[vP 3 0 4,vP 4 1 5,vP 6 2 25,vI 8 (addK .i64 (lenI r.visits) 1),vL 9 7 l1 Qag.enc],[oX 4 37 (Qac.enc r),oX 5 74 [.bool false,lI 0,.nils,lI 0,lI 0],oX 25 173 (Qay.enc r1.1)]⟩⟩
def Qtd (Γ:Gam) (rv:Qao×Int) (l3:List Qag) (x2:Qag) (v1:Int):Prop:=Qqv Γ rv ⟨[.c 8180,.l 8180,.b 2,.c 1023],⟨82,[vP 4 0 5,vP 12 1 7,vL 65 7 l3 Qag.enc,vI 66 (lenI l3),vI 67 v1],[oX 5 74 [.bool false,lI 0,.nils,lI 0,lI 0],oX 7 177 (Qag.enc x2)]⟩⟩
def QrC (Γ:Gam) (rv:Qao×Int) (l3:List Qag) (x4:Qag):Prop:=Qqv Γ rv ⟨[.c 1023],⟨82,[vP 4 0 5,vP 12 1 7],[oX 5 74 [.bool false,lI 0,.nils,lI 0,lI 0],oX 7 177 (Qag.enc x4)]⟩⟩
theorem QvZ (Γ:Gam) (rv:Qao×Int) {r r1} {s:List Qag×Int} {e:List Qag} (h:QaW (fun s=>QeP r r1 s.1 s.2) s=some e) (hD:QrB Γ rv r r1 e):Qtc Γ rv r r1 s.1 s.2:=by
 refine QaA (C:=fun (s:List Qag×Int)=>Qtc Γ rv r r1 s.1 s.2) (D:=fun (e:List Qag)=>QrB Γ rv r r1 e) ?_ h hD
 clear h hD s e
 rintro ⟨l,v⟩ z_ h hI hE
 replace h:QeP r r1 l v=_:=h
 unfold QeP at h
 rcases Qah h with ⟨h3,h⟩|⟨h3,h⟩
 ·obtain ⟨r3,h4,h⟩:=Qae h
  exact gn 13 [3,4,6,8,9,38,39] [0,1,2] [bT h3,cC (QuK h4)] (hI _ (oJ h))
 ·exact gn 5 [3,4,6,8,9] [0,1,2] [bF h3] (hE _ (oJ h))
theorem Qv0 (Γ:Gam) (rv:Qao×Int) {l3} {s:Qag×Int} {e:Qag} (h:QaW (fun s=>Qed l3 s.1 s.2) s=some e) (hD:QrC Γ rv l3 e):Qtd Γ rv l3 s.1 s.2:=by
 refine QaA (C:=fun (s:Qag×Int)=>Qtd Γ rv l3 s.1 s.2) (D:=fun (e:Qag)=>QrC Γ rv l3 e) ?_ h hD
 clear h hD s e
 rintro ⟨x2,v1⟩ z_ h hI hE
 replace h:Qed l3 x2 v1=_:=h
 unfold Qed at h
 rcases Qah h with ⟨h11,h⟩|⟨h11,h⟩
 ·obtain ⟨x3,h12,h⟩:=Qae h
  rcases Qah h with ⟨h13,h⟩|⟨h13,h⟩
  ·exact gn 16 [4,12,65,66,67] [0,1] [bT h11,cE Qag.enc h12,bT h13] (hI _ (oJ h))
  ·exact gn 16 [4,12,65,66,67] [0,1] [bT h11,cE Qag.enc h12,bF h13] (hI _ (oJ h))
 ·exact gn 5 [4,12] [0,1] [bF h11] (hE _ (oJ h))
theorem Qve {x0 r} {rv:Qao×Int} (h:QpL x0 r=some rv):AFn Tryz.prog 82 [.agg (Qad.enc x0),.agg (Qac.enc r)] [] (.tup [.agg [.bool rv.1.rest_,lI rv.1.depart,lL 4 rv.1.times Qaq.enc,lI rv.1.end_,lI rv.1.miles],.one (lI rv.2)]) []:=by
 refine QaQ Tryz.func82 (by kernel_rfl) (by kernel_rfl) (fun Γ=>?_)
 unfold QpL at h
 obtain ⟨r1,h0,h⟩:=Qae h
 rcases Qah h with ⟨h1,h⟩|⟨h1,h⟩
 ·obtain rfl:=Option.some.inj h
  exact gr 12 [] [cC (Qvf h0),nL Qaa.enc r.visits,hP,hP,hP,rp 2 (oI ((!r1.2)=false)),nL QaI r.rests,hP,hP,hP,rp 2 (oI ((!r1.2)=false)),oR True ((!r1.2)=false),bT h1,hW 5,hH (.nilB 2 2 4)]
 ·obtain ⟨r2,h2,h⟩:=Qae h
  obtain ⟨e0,h5,h⟩:=Qae h
  refine gn 18 [3,4,6,8,9,38,39] [1,2,3] [cC (Qvf h0),nL Qaa.enc r.visits,hP,hP,hP,rp 2 (oI ((!r1.2)=false)),nL QaI r.rests,hP,hP,hP,rp 2 (oI ((!r1.2)=false)),oR True ((!r1.2)=false),bF h1,cC (QoJ h2),hW 9,hH (.frz 4),rp 2 (oO (Eq.refl ([r2].map Qag.enc).length))] (QvZ Γ rv h5 ?_)
  obtain ⟨l1,rfl⟩:∃ x,x=e0:=⟨_,rfl⟩
  replace h:(br (eqI (lenI l1) 0) (bnd (mkI (addK .i64 (lenI r.visits) 1) (addK .i64 (lenI r.visits) 1) 1 false) fun l2=>bnd (Qhj r1.1 (cpyL l2 r.rests)) fun r4=>some (r4.1,r4.2)) (bnd (getI l1 0) fun x1=>bnd (slcI l1 1 (lenI l1)) fun l3=>bnd (QaW (fun s=>Qed l3 s.1 s.2) (x1,0)) (fun x4=>some (x4.sheet,0))):Option (Qao×Int))=some _:=h
  rcases Qah h with ⟨h6,h⟩|⟨h6,h⟩
  ·obtain ⟨l2,h7,h⟩:=Qae h
   obtain ⟨r4,h8,h⟩:=Qae h
   obtain rfl:=Option.some.inj h
   exact gr 10 [] [nL Qag.enc l1,bT h6,hH (.cells [.bool false]),hH (.rows (l2.map QaI)),oO (mk1 h7),oO (mk2 h7),oO (mk3 h7),oO (mk4 h7),oO (mk5 QaI h7),cY QaI l2 r.rests,hH (.relen 3 ((cpyL l2 r.rests).map QaI).length),hW 4,hH (.frz 3),rp 3 (oO (QHd QaI l2 r.rests)),rp 4 (oO (Eq.refl ((cpyL l2 r.rests).map QaI).length)),cC (Qvt h8)]
  ·obtain ⟨x1,h9,h⟩:=Qae h
   obtain ⟨l3,h10,h⟩:=Qae h
   obtain ⟨e1,h14,h⟩:=Qae h
   refine gn 12 [4,12,65,66,67] [1,3] [nL Qag.enc l1,bF h6,cE Qag.enc h9,hH (.rows (l3.map Qag.enc)),oO (sl1 h10),oO (sl2h Qag.enc h10),rp 3 (oO (Int.le_refl ((l1.map Qag.enc).length:Int))),oO (sl6h Qag.enc h10),nL Qag.enc l3] (Qv0 Γ rv h14 ?_)
   obtain ⟨x4,rfl⟩:∃ x,x=e1:=⟨_,rfl⟩
   replace h:(some (x4.sheet,0):Option (Qao×Int))=some _:=h
   obtain rfl:=Option.some.inj h
   exact gr 2 [] []
theorem Qkh {kind own} {rv:Bool} (h:Qme kind own=some rv):AFn Tryz.prog 132 [.one (lI kind),.one (lI own)] [] (one (.bool rv)) []:=by
 refine QaQ Tryz.func132 (by kernel_rfl) (by kernel_rfl) (fun Γ=>?_)
 unfold Qme at h
 obtain rfl:=Option.some.inj h
 exact gr 4 [] [rp 4 hP,rp 2 (oI ((neI kind (-1))=true)),oR True ((neI kind (-1))=true)]
def Qsl (Γ:Gam) (rv:QaE) (cf:Cf):Prop:=Go Tryz.prog Tryz.f83 [] Γ (gG [lI rv.cost,lI rv.moved,lI rv.other,lI rv.work]) [] cf
def Qof (Γ:Gam) (rv:QaE) (x0:Qad) (r:Qac) (s0:Qao) (x1:Qak) (l:List (Int×Int)) (moved:Int) (other:Int) (v:Int):Prop:=Qsl Γ rv ⟨[.c 4084,.l 4084,.b 0,.c 511],⟨114,[vP 3 0 6,vP 4 1 4,vP 6 2 4,vP 10 3 4,(11,one (.mp 4)),vL 59 2 r.visits Qaa.enc,vI 60 (lenI r.visits),vI 61 v],[oX 6 30 (Qad.enc x0),oX 4 37 (Qac.enc r),oX 4 76 [lI 0,lI 0,lI 0,lI 0],oX 4 76 [lI (addK .i64 (addK .i64 x1.fixed (mulK .i64 x1.perMile s0.miles)) (mulK .i64 x1.perTick (subK .i64 s0.end_ x1.open_))),lI moved,lI other,lI (mulK .i64 (quoK .i64 (subK .i64 s0.end_ x1.open_) 64) (quoK .i64 (subK .i64 s0.end_ x1.open_) 64))],oM 182 l (mE lI lI)]⟩⟩
def Qms (Γ:Gam) (rv:QaE) (x0:Qad) (r:Qac) (s0:Qao) (x1:Qak) (moved2:Int) (other1:Int):Prop:=Qsl Γ rv ⟨[.c 511],⟨114,[vP 6 0 4,vP 10 1 4],[oX 4 76 [lI 0,lI 0,lI 0,lI 0],oX 4 76 [lI (addK .i64 (addK .i64 x1.fixed (mulK .i64 x1.perMile s0.miles)) (mulK .i64 x1.perTick (subK .i64 s0.end_ x1.open_))),lI moved2,lI other1,lI (mulK .i64 (quoK .i64 (subK .i64 s0.end_ x1.open_) 64) (quoK .i64 (subK .i64 s0.end_ x1.open_) 64))]]⟩⟩
theorem Qq1 (Γ:Gam) (rv:QaE) {x0 r s0 x1 l other v x2 x3 moved1} {x:(List (Int×Int)×Int×Int×Int)⊕(Int×Int)} (h:Qkg x0 r s0 x1 l other v x2 x3 moved1=some x) (hI:∀ s:List (Int×Int)×Int×Int×Int,x=.inl s→Qof Γ rv x0 r s0 x1 s.1 s.2.1 s.2.2.1 s.2.2.2) (hE:∀ e:Int×Int,x=.inr e→Qms Γ rv x0 r s0 x1 e.1 e.2):Qsl Γ rv ⟨[.c 2091423,.b 1,.c 32679,.l 4084,.b 0,.c 511],⟨114,[vP 3 0 6,vP 4 1 4,vP 6 2 4,vP 10 3 4,(11,one (.mp 4)),vP 14 5 16,vL 59 2 r.visits Qaa.enc,vI 60 (lenI r.visits),vI 61 v],[oX 6 30 (Qad.enc x0),oX 4 37 (Qac.enc r),oX 4 76 [lI 0,lI 0,lI 0,lI 0],oX 4 76 [lI (addK .i64 (addK .i64 x1.fixed (mulK .i64 x1.perMile s0.miles)) (mulK .i64 x1.perTick (subK .i64 s0.end_ x1.open_))),lI moved1,lI other,lI (mulK .i64 (quoK .i64 (subK .i64 s0.end_ x1.open_) 64) (quoK .i64 (subK .i64 s0.end_ x1.open_) 64))],oM 182 (mPut eqI l x2.order (addK .i64 (mGet eqI l x2.order 0) 1)) (mE lI lI),oX 16 124 (Qai.enc x3)]⟩⟩:=by
 unfold Qkg at h
 obtain ⟨r2,h9,h⟩:=Qae h
 rcases Qah h with ⟨h10,h⟩|⟨h10,h⟩
 ·exact gn 7 [3,4,6,10,11,59,60,61] [0,1,2,3,4] [cC (Qkh h9),bT h10] (hI _ (oJ h))
 ·exact gn 7 [3,4,6,10,11,59,60,61] [0,1,2,3,4] [cC (Qkh h9),bF h10] (hI _ (oJ h))
theorem Qvy (Γ:Gam) (rv:QaE) {x0 r s0 x1} {s:List (Int×Int)×Int×Int×Int} {e:Int×Int} (h:QaW (fun s=>QeL x0 r s0 x1 s.1 s.2.1 s.2.2.1 s.2.2.2) s=some e) (hD:Qms Γ rv x0 r s0 x1 e.1 e.2):Qof Γ rv x0 r s0 x1 s.1 s.2.1 s.2.2.1 s.2.2.2:=by
 refine QaA (C:=fun (s:List (Int×Int)×Int×Int×Int)=>Qof Γ rv x0 r s0 x1 s.1 s.2.1 s.2.2.1 s.2.2.2) (D:=fun (e:Int×Int)=>Qms Γ rv x0 r s0 x1 e.1 e.2) ?_ h hD
 clear h hD s e
 rintro ⟨l,moved,other,v⟩ z_ h hI hE
 replace h:QeL x0 r s0 x1 l moved other v=_:=h
 unfold QeL at h
 rcases Qah h with ⟨h2,h⟩|⟨h2,h⟩
 ·obtain ⟨x2,h3,h⟩:=Qae h
  rcases Qah h with ⟨h4,h⟩|⟨h4,h⟩
  ·exact gn 18 [3,4,6,10,11,59,60,61] [0,1,2,3,4] [bT h2,cE Qaa.enc h3,mG kqI lI l x2.order 0,mU kqI lI l x2.order (addK .i64 (mGet eqI l x2.order 0) 1),rp 5 hP,rp 3 (oI ((ltI x2.order 0)=false)),nL Qai.enc x0.orders,hP,hP,rp 2 (oI ((ltI x2.order 0)=false)),oR True ((ltI x2.order 0)=false),rp 6 (bT h4),tT] (hI _ (oJ h))
  ·rcases Qah h with ⟨h5,h⟩|⟨h5,h⟩
   ·exact gn 18 [3,4,6,10,11,59,60,61] [0,1,2,3,4] [bT h2,cE Qaa.enc h3,mG kqI lI l x2.order 0,mU kqI lI l x2.order (addK .i64 (mGet eqI l x2.order 0) 1),rp 5 hP,rp 3 (oI ((ltI x2.order 0)=false)),nL Qai.enc x0.orders,hP,hP,rp 2 (oI ((ltI x2.order 0)=false)),oR True ((ltI x2.order 0)=false),rp 4 (bF h4),mG kqI lI (mPut eqI l x2.order (addK .i64 (mGet eqI l x2.order 0) 1)) x2.order 0,bF h4,bF h4,bT h5] (hI _ (oJ h))
   ·obtain ⟨x3,h6,h⟩:=Qae h
    obtain ⟨r1,h7,h⟩:=Qae h
    rcases Qah h with ⟨h8,h⟩|⟨h8,h⟩
    ·exact gn 23 [3,4,6,10,11,14,59,60,61] [0,1,2,3,4,6] [bT h2,cE Qaa.enc h3,mG kqI lI l x2.order 0,mU kqI lI l x2.order (addK .i64 (mGet eqI l x2.order 0) 1),rp 5 hP,rp 3 (oI ((ltI x2.order 0)=false)),nL Qai.enc x0.orders,hP,hP,rp 2 (oI ((ltI x2.order 0)=false)),oR True ((ltI x2.order 0)=false),rp 4 (bF h4),mG kqI lI (mPut eqI l x2.order (addK .i64 (mGet eqI l x2.order 0) 1)) x2.order 0,bF h4,bF h4,bF h5,cE Qai.enc h6,cC (Qkh h7),bT h8] (Qq1 Γ rv h hI hE)
    ·exact gn 23 [3,4,6,10,11,14,59,60,61] [0,1,2,3,4,6] [bT h2,cE Qaa.enc h3,mG kqI lI l x2.order 0,mU kqI lI l x2.order (addK .i64 (mGet eqI l x2.order 0) 1),rp 5 hP,rp 3 (oI ((ltI x2.order 0)=false)),nL Qai.enc x0.orders,hP,hP,rp 2 (oI ((ltI x2.order 0)=false)),oR True ((ltI x2.order 0)=false),rp 4 (bF h4),mG kqI lI (mPut eqI l x2.order (addK .i64 (mGet eqI l x2.order 0) 1)) x2.order 0,bF h4,bF h4,bF h5,cE Qai.enc h6,cC (Qkh h7),bF h8] (Qq1 Γ rv h hI hE)
 ·exact gn 5 [6,10] [2,3] [bF h2] (hE _ (oJ h))
theorem Qx0 {x0 r s0} {rv:QaE} (h:Qqf x0 r s0=some rv):AFn Tryz.prog 83 [.agg (Qad.enc x0),.agg (Qac.enc r),.agg (Qao.enc s0)] [] (gG [lI rv.cost,lI rv.moved,lI rv.other,lI rv.work]) []:=by
 refine QaQ Tryz.func83 (by kernel_rfl) (by kernel_rfl) (fun Γ=>?_)
 unfold Qqf at h
 rcases Qah h with ⟨h0,h⟩|⟨h0,h⟩
 ·obtain rfl:=Option.some.inj h
  exact gr 8 [] [rp 5 hP,rp 3 (oI ((ltI r.type_ 0)=false)),nL Qak.enc x0.types,hP,hP,rp 2 (oI ((ltI r.type_ 0)=false)),oR True ((ltI r.type_ 0)=false),bT h0]
 ·obtain ⟨x1,h1,h⟩:=Qae h
  obtain ⟨e0,h11,h⟩:=Qae h
  refine gn 22 [3,4,6,10,11,59,60,61] [0,1,3,5,6] [rp 5 hP,rp 3 (oI ((ltI r.type_ 0)=false)),nL Qak.enc x0.types,hP,hP,rp 2 (oI ((ltI r.type_ 0)=false)),oR True ((ltI r.type_ 0)=false),bF h0,cE Qak.enc h1,oO (oA (n:=64)),nL Qaa.enc r.visits] (Qvy Γ rv h11 ?_)
  obtain ⟨moved2,other1⟩:=e0
  replace h:(some (QaE.mk (addK .i64 (addK .i64 x1.fixed (mulK .i64 x1.perMile s0.miles)) (mulK .i64 x1.perTick (subK .i64 s0.end_ x1.open_))) moved2 other1 (mulK .i64 (quoK .i64 (subK .i64 s0.end_ x1.open_) 64) (quoK .i64 (subK .i64 s0.end_ x1.open_) 64))):Option QaE)=some _:=h
  obtain rfl:=Option.some.inj h
  exact gr 2 [] []
theorem Qq2 {x0 r} {rv:Qao×QaE×Int} (h:Qfu x0 r=some rv):AFn Tryz.prog 46 [.agg (Qad.enc x0),.agg (Qac.enc r)] [] (.tup [.agg [.bool rv.1.rest_,lI rv.1.depart,lL 4 rv.1.times Qaq.enc,lI rv.1.end_,lI rv.1.miles],.agg [lI rv.2.1.cost,lI rv.2.1.moved,lI rv.2.1.other,lI rv.2.1.work],.one (lI rv.2.2)]) []:=by
 refine QaQ Tryz.func46 (by kernel_rfl) (by kernel_rfl) (fun Γ=>?_)
 unfold Qfu at h
 rcases Qah h with ⟨h0,h⟩|⟨h0,h⟩
 ·obtain rfl:=Option.some.inj h
  exact gr 8 [] [rp 5 hP,rp 3 (oI ((ltI r.type_ 0)=false)),nL Qak.enc x0.types,hP,hP,rp 2 (oI ((ltI r.type_ 0)=false)),oR True ((ltI r.type_ 0)=false),bT h0,hW 7,hH (.nilB 2 2 4)]
 ·obtain ⟨r1,h1,h⟩:=Qae h
  rcases Qah h with ⟨h2,h⟩|⟨h2,h⟩
  ·obtain rfl:=Option.some.inj h
   exact gr 28 [] [rp 5 hP,rp 3 (oI ((ltI r.type_ 0)=false)),nL Qak.enc x0.types,hP,hP,rp 2 (oI ((ltI r.type_ 0)=false)),oR True ((ltI r.type_ 0)=false),bF h0,nL e_fn [79,80,81],tT,oO (Qxi (rfl:getI ([79,80,81]:List Nat) 0=some 79)),oO (Qxh e_fn (rfl:getI ([79,80,81]:List Nat) 0=some 79)),rE e_fn (rfl:getI ([79,80,81]:List Nat) 0=some 79),cC (Qei h1),bT h2,hW 8,hH (.nilB 2 2 4)]
  ·obtain ⟨r2,h3,h⟩:=Qae h
   rcases Qah h with ⟨h4,h⟩|⟨h4,h⟩
   ·obtain rfl:=Option.some.inj h
    exact gr 46 [] [rp 5 hP,rp 3 (oI ((ltI r.type_ 0)=false)),nL Qak.enc x0.types,hP,hP,rp 2 (oI ((ltI r.type_ 0)=false)),oR True ((ltI r.type_ 0)=false),bF h0,nL e_fn [79,80,81],tT,oO (Qxi (rfl:getI ([79,80,81]:List Nat) 0=some 79)),oO (Qxh e_fn (rfl:getI ([79,80,81]:List Nat) 0=some 79)),rE e_fn (rfl:getI ([79,80,81]:List Nat) 0=some 79),cC (Qei h1),bF h2,tT,oO (Qxi (rfl:getI ([79,80,81]:List Nat) 1=some 80)),oO (Qxh e_fn (rfl:getI ([79,80,81]:List Nat) 1=some 80)),rE e_fn (rfl:getI ([79,80,81]:List Nat) 1=some 80),cC (Qpc h3),bT h4,hW 8,hH (.nilB 2 2 4)]
   ·obtain ⟨r3,h5,h⟩:=Qae h
    rcases Qah h with ⟨h6,h⟩|⟨h6,h⟩
    ·obtain rfl:=Option.some.inj h
     exact gr 64 [] [rp 5 hP,rp 3 (oI ((ltI r.type_ 0)=false)),nL Qak.enc x0.types,hP,hP,rp 2 (oI ((ltI r.type_ 0)=false)),oR True ((ltI r.type_ 0)=false),bF h0,nL e_fn [79,80,81],tT,oO (Qxi (rfl:getI ([79,80,81]:List Nat) 0=some 79)),oO (Qxh e_fn (rfl:getI ([79,80,81]:List Nat) 0=some 79)),rE e_fn (rfl:getI ([79,80,81]:List Nat) 0=some 79),cC (Qei h1),bF h2,tT,oO (Qxi (rfl:getI ([79,80,81]:List Nat) 1=some 80)),oO (Qxh e_fn (rfl:getI ([79,80,81]:List Nat) 1=some 80)),rE e_fn (rfl:getI ([79,80,81]:List Nat) 1=some 80),cC (Qpc h3),bF h4,tT,oO (Qxi (rfl:getI ([79,80,81]:List Nat) 2=some 81)),oO (Qxh e_fn (rfl:getI ([79,80,81]:List Nat) 2=some 81)),rE e_fn (rfl:getI ([79,80,81]:List Nat) 2=some 81),cC (Qrw h5),bT h6,hW 8,hH (.nilB 2 2 4)]
    ·obtain ⟨r4,h7,h⟩:=Qae h
     rcases Qah h with ⟨h8,h⟩|⟨h8,h⟩
     ·obtain rfl:=Option.some.inj h
      exact gr 79 [] [rp 5 hP,rp 3 (oI ((ltI r.type_ 0)=false)),nL Qak.enc x0.types,hP,hP,rp 2 (oI ((ltI r.type_ 0)=false)),oR True ((ltI r.type_ 0)=false),bF h0,nL e_fn [79,80,81],tT,oO (Qxi (rfl:getI ([79,80,81]:List Nat) 0=some 79)),oO (Qxh e_fn (rfl:getI ([79,80,81]:List Nat) 0=some 79)),rE e_fn (rfl:getI ([79,80,81]:List Nat) 0=some 79),cC (Qei h1),bF h2,tT,oO (Qxi (rfl:getI ([79,80,81]:List Nat) 1=some 80)),oO (Qxh e_fn (rfl:getI ([79,80,81]:List Nat) 1=some 80)),rE e_fn (rfl:getI ([79,80,81]:List Nat) 1=some 80),cC (Qpc h3),bF h4,tT,oO (Qxi (rfl:getI ([79,80,81]:List Nat) 2=some 81)),oO (Qxh e_fn (rfl:getI ([79,80,81]:List Nat) 2=some 81)),rE e_fn (rfl:getI ([79,80,81]:List Nat) 2=some 81),cC (Qrw h5),bF h6,fF,cC (Qve h7),bT h8,hW 8,hH (.nilB 2 2 4)]
     ·obtain ⟨r5,h9,h⟩:=Qae h
      obtain rfl:=Option.some.inj h
      exact gr 80 [] [rp 5 hP,rp 3 (oI ((ltI r.type_ 0)=false)),nL Qak.enc x0.types,hP,hP,rp 2 (oI ((ltI r.type_ 0)=false)),oR True ((ltI r.type_ 0)=false),bF h0,nL e_fn [79,80,81],tT,oO (Qxi (rfl:getI ([79,80,81]:List Nat) 0=some 79)),oO (Qxh e_fn (rfl:getI ([79,80,81]:List Nat) 0=some 79)),rE e_fn (rfl:getI ([79,80,81]:List Nat) 0=some 79),cC (Qei h1),bF h2,tT,oO (Qxi (rfl:getI ([79,80,81]:List Nat) 1=some 80)),oO (Qxh e_fn (rfl:getI ([79,80,81]:List Nat) 1=some 80)),rE e_fn (rfl:getI ([79,80,81]:List Nat) 1=some 80),cC (Qpc h3),bF h4,tT,oO (Qxi (rfl:getI ([79,80,81]:List Nat) 2=some 81)),oO (Qxh e_fn (rfl:getI ([79,80,81]:List Nat) 2=some 81)),rE e_fn (rfl:getI ([79,80,81]:List Nat) 2=some 81),cC (Qrw h5),bF h6,fF,cC (Qve h7),bF h8,hH (.draw 5 []),cC (Qx0 h9)]
theorem QiL {s0} {rv:QAQ} (h:QsH s0=some rv):AFn Tryz.prog 84 [.agg (QaE.enc s0)] [] (gG [lI rv.x0,lI rv.x1,lI rv.x2,lI rv.x3]) []:=by
 refine QaQ Tryz.func84 (by kernel_rfl) (by kernel_rfl) (fun Γ=>?_)
 unfold QsH at h
 obtain rfl:=Option.some.inj h
 exact gr 4 [] []
theorem Qw0 {s0} {rv:Int×Int} (h:Qog s0=some rv):AFn Tryz.prog 47 [.agg (QaE.enc s0)] [] (.tup [.one (lI rv.1),.one (lI rv.2)]) []:=by
 refine QaQ Tryz.func47 (by kernel_rfl) (by kernel_rfl) (fun Γ=>?_)
 unfold Qog at h
 obtain ⟨r,h0,h⟩:=Qae h
 rcases Qah h with ⟨h1,h⟩|⟨h1,h⟩
 ·obtain rfl:=Option.some.inj h
  exact gr 23 [] [cC (QiL h0),tT,oO (zL 0),oO (lT 0 4),bT h1]
 ·rcases Qah h with ⟨h2,h⟩|⟨h2,h⟩
  ·obtain rfl:=Option.some.inj h
   exact gr 39 [] [cC (QiL h0),tT,oO (zL 0),oO (lT 0 4),bF h1,tT,oO (zL 1),oO (lT 1 4),bT h2]
  ·rcases Qah h with ⟨h3,h⟩|⟨h3,h⟩
   ·obtain rfl:=Option.some.inj h
    exact gr 55 [] [cC (QiL h0),tT,oO (zL 0),oO (lT 0 4),bF h1,tT,oO (zL 1),oO (lT 1 4),bF h2,tT,oO (zL 2),oO (lT 2 4),bT h3]
   ·rcases Qah h with ⟨h4,h⟩|⟨h4,h⟩
    ·obtain rfl:=Option.some.inj h
     exact gr 71 [] [cC (QiL h0),tT,oO (zL 0),oO (lT 0 4),bF h1,tT,oO (zL 1),oO (lT 1 4),bF h2,tT,oO (zL 2),oO (lT 2 4),bF h3,tT,oO (zL 3),oO (lT 3 4),bT h4]
    ·rcases Qah h with ⟨h5,h⟩|⟨h5,h⟩
     ·obtain rfl:=Option.some.inj h
      exact gr 84 [] [cC (QiL h0),tT,oO (zL 0),oO (lT 0 4),bF h1,tT,oO (zL 1),oO (lT 1 4),bF h2,tT,oO (zL 2),oO (lT 2 4),bF h3,tT,oO (zL 3),oO (lT 3 4),bF h4,fF,rp 12 hP,rp 2 (oI ((gtI s0.cost 1073741824)=false)),oR True ((gtI s0.cost 1073741824)=false),rp 2 (oI (((gtI s0.cost 1073741824)||(geI s0.moved 16))=false)),oR True (((gtI s0.cost 1073741824)||(geI s0.moved 16))=false),rp 2 (oI ((((gtI s0.cost 1073741824)||(geI s0.moved 16))||(geI s0.other 16))=false)),oR True ((((gtI s0.cost 1073741824)||(geI s0.moved 16))||(geI s0.other 16))=false),bT h5]
     ·obtain rfl:=Option.some.inj h
      exact gr 85 [] [cC (QiL h0),tT,oO (zL 0),oO (lT 0 4),bF h1,tT,oO (zL 1),oO (lT 1 4),bF h2,tT,oO (zL 2),oO (lT 2 4),bF h3,tT,oO (zL 3),oO (lT 3 4),bF h4,fF,rp 12 hP,rp 2 (oI ((gtI s0.cost 1073741824)=false)),oR True ((gtI s0.cost 1073741824)=false),rp 2 (oI (((gtI s0.cost 1073741824)||(geI s0.moved 16))=false)),oR True (((gtI s0.cost 1073741824)||(geI s0.moved 16))=false),rp 2 (oI ((((gtI s0.cost 1073741824)||(geI s0.moved 16))||(geI s0.other 16))=false)),oR True ((((gtI s0.cost 1073741824)||(geI s0.moved 16))||(geI s0.other 16))=false),bF h5]
theorem Qfv {x0 r} {rv:Int×Int} (h:Qec x0 r=some rv):AFn Tryz.prog 19 [.agg (Qad.enc x0),.agg (Qac.enc r)] [] (.tup [.one (lI rv.1),.one (lI rv.2)]) []:=by
 refine QaQ Tryz.func19 (by kernel_rfl) (by kernel_rfl) (fun Γ=>?_)
 unfold Qec at h
 obtain ⟨r1,h0,h⟩:=Qae h
 rcases Qah h with ⟨h1,h⟩|⟨h1,h⟩
 ·obtain rfl:=Option.some.inj h
  exact gr 10 [] [cC (Qq2 h0),bT h1]
 ·obtain ⟨r2,h2,h⟩:=Qae h
  obtain rfl:=Option.some.inj h
  exact gr 11 [] [cC (Qq2 h0),bF h1,cC (Qw0 h2)]
theorem Qng {v} {rv:Int} (h:QfR v=some rv):AFn Tryz.prog 149 [.agg (Qaa.enc v)] [] (one (lI rv)) []:=by
 refine QaQ Tryz.func149 (by kernel_rfl) (by kernel_rfl) (fun Γ=>?_)
 unfold QfR at h
 rcases Qah h with ⟨h0,h⟩|⟨h0,h⟩
 ·obtain rfl:=Option.some.inj h
  exact gr 8 [] [bT h0]
 ·obtain rfl:=Option.some.inj h
  exact gr 9 [] [bF h0]
def Qvd (Γ:Gam) (rv:Int) (cf:Cf):Prop:=Go Tryz.prog Tryz.f150 [] Γ (one (lI rv)) [] cf
def Qrz (Γ:Gam) (rv:Int) (vals:List Int) (v:Int):Prop:=Qvd Γ rv ⟨[.c 116,.l 116,.b 0,.c 15],⟨18,[vI 3 0,vL 6 1 vals QaM,vI 7 (lenI vals),vI 8 v],[]⟩⟩
def QqL (Γ:Gam) (rv:Int) (vals:List Int):Prop:=Qvd Γ rv ⟨[.c 15],⟨18,[vI 3 0],[]⟩⟩
theorem Qvs (Γ:Gam) (rv:Int) {vals} {s:Int} {e:(Unit)⊕(Int)} (h:QaW (fun s=>QeF vals s) s=some e) (hD:sel e (fun e=>QqL Γ rv vals) (fun e=>e=rv)):Qrz Γ rv vals s:=by
 refine QaA (C:=fun (s:Int)=>Qrz Γ rv vals s) (D:=fun (e:(Unit)⊕(Int))=>sel e (fun e=>QqL Γ rv vals) (fun e=>e=rv)) ?_ h hD
 clear h hD s e
 intro v z_ h hI hE
 replace h:QeF vals v=_:=h
 unfold QeF at h
 rcases Qah h with ⟨h0,h⟩|⟨h0,h⟩
 ·obtain ⟨x0,h1,h⟩:=Qae h
  rcases Qah h with ⟨h2,h⟩|⟨h2,h⟩
  ·obtain rfl:=(hE _ (oJ h):_=rv)
   exact gr 14 [] [bT h0,cE QaM h1,bT h2]
  ·exact gn 16 [3,6,7,8] [] [bT h0,cE QaM h1,bF h2] (hI _ (oJ h))
 ·exact gn 5 [3] [] [bF h0] (hE _ (oJ h))
theorem QxB {vals} {rv:Int} (h:QpD vals=some rv):AFn Tryz.prog 150 [.one (lL 1 vals QaM)] [] (one (lI rv)) []:=by
 refine QaQ Tryz.func150 (by kernel_rfl) (by kernel_rfl) (fun Γ=>?_)
 unfold QpD at h
 obtain ⟨e0,h3,h⟩:=Qae h
 refine gn 9 [3,6,7,8] [] [nL QaM vals] (Qvs Γ rv h3 ?_)
 rcases e0 with e0|e0
 ·replace h:(some 0:Option Int)=some _:=h
  obtain rfl:=Option.some.inj h
  exact gr 2 [] []
 ·obtain ⟨r,rfl⟩:∃ x,x=e0:=⟨_,rfl⟩
  replace h:(some r:Option Int)=some _:=h
  exact Option.some.inj h
theorem Qce {x0} {rv:Bool} (h:QjS x0=some rv):AFn Tryz.prog 189 [.one (lI x0)] [] (one (.bool rv)) []:=by
 refine QaQ Tryz.func189 (by kernel_rfl) (by kernel_rfl) (fun Γ=>?_)
 unfold QjS at h
 obtain rfl:=Option.some.inj h
 exact gr 4 [] []
theorem QoI {x0 y} {rv:Int} (h:QgW x0 y=some rv):AFn Tryz.prog 151 [.one (lI x0),.one (lI y)] [] (one (lI rv)) []:=by
 refine QaQ Tryz.func151 (by kernel_rfl) (by kernel_rfl) (fun Γ=>?_)
 unfold QgW at h
 obtain ⟨r,h0,h⟩:=Qae h
 obtain ⟨r1,h1,h⟩:=Qae h
 rcases Qah h with ⟨h2,h⟩|⟨h2,h⟩
 ·rcases Qah h with ⟨h3,h⟩|⟨h3,h⟩
  ·obtain rfl:=Option.some.inj h
   exact gr 16 [] [cC (Qce h0),cC (Qce h1),bT h2,bT h3]
  ·obtain rfl:=Option.some.inj h
   exact gr 17 [] [cC (Qce h0),cC (Qce h1),bT h2,bF h3]
 ·rcases Qah h with ⟨h4,h⟩|⟨h4,h⟩
  ·obtain rfl:=Option.some.inj h
   exact gr 17 [] [cC (Qce h0),cC (Qce h1),bF h2,bT h4]
  ·rcases Qah h with ⟨h5,h⟩|⟨h5,h⟩
   ·obtain rfl:=Option.some.inj h
    exact gr 22 [] [cC (Qce h0),cC (Qce h1),bF h2,bF h4,bT h5]
   ·rcases Qah h with ⟨h6,h⟩|⟨h6,h⟩
    ·obtain rfl:=Option.some.inj h
     exact gr 27 [] [cC (Qce h0),cC (Qce h1),bF h2,bF h4,bF h5,bT h6]
    ·obtain rfl:=Option.some.inj h
     exact gr 28 [] [cC (Qce h0),cC (Qce h1),bF h2,bF h4,bF h5,bF h6]
theorem Qpm {a b} {rv:Int} (h:Qiv a b=some rv):AFn Tryz.prog 104 [.agg (Qaa.enc a),.agg (Qaa.enc b)] [] (one (lI rv)) []:=by
 refine QaQ Tryz.func104 (by kernel_rfl) (by kernel_rfl) (fun Γ=>?_)
 unfold Qiv at h
 obtain ⟨r,h0,h⟩:=Qae h
 obtain ⟨r1,h1,h⟩:=Qae h
 obtain ⟨r2,h2,h⟩:=Qae h
 obtain ⟨r3,h3,h⟩:=Qae h
 obtain ⟨r4,h4,h⟩:=Qae h
 obtain rfl:=Option.some.inj h
 exact gr 6 [] [hH (.draw 15 []),cC (QoI h0),cC (Qng h1),cC (Qng h2),cC (QoI h3),oO (Eq.refl ([r,r3].map QaM).length),cC (QxB h4)]
def QbH (Γ:Gam) (rv:Int) (cf:Cf):Prop:=Go Tryz.prog Tryz.f103 [] Γ (one (lI rv)) [] cf
def QbD (Γ:Gam) (rv:Int) (s1:List Qaa) (s2:List Qaa) (v:Int):Prop:=QbH Γ rv ⟨[.c 52,.l 52,.b 0,.c 7],⟨39,[vL 0 2 s1 Qaa.enc,vL 1 2 s2 Qaa.enc,(2,one (.fn (.func 104) [])),vL 11 2 s1 Qaa.enc,vI 12 (lenI s1),vI 13 v],[]⟩⟩
def QbA (Γ:Gam) (rv:Int) (s1:List Qaa) (s2:List Qaa):Prop:=QbH Γ rv ⟨[.c 7],⟨39,[vL 0 2 s1 Qaa.enc,vL 1 2 s2 Qaa.enc],[]⟩⟩
theorem QcY (Γ:Gam) (rv:Int) {s1 s2} {s:Int} {e:(Unit)⊕(Int)} (h:QaW (fun s=>Qat s1 s2 s) s=some e) (hD:sel e (fun e=>QbA Γ rv s1 s2) (fun e=>e=rv)):QbD Γ rv s1 s2 s:=by
 refine QaA (C:=fun (s:Int)=>QbD Γ rv s1 s2 s) (D:=fun (e:(Unit)⊕(Int))=>sel e (fun e=>QbA Γ rv s1 s2) (fun e=>e=rv)) ?_ h hD
 clear h hD s e
 intro v z_ h hI hE
 replace h:Qat s1 s2 v=_:=h
 unfold Qat at h
 rcases Qah h with ⟨h0,h⟩|⟨h0,h⟩
 ·obtain ⟨x0,h1,h⟩:=Qae h
  rcases Qah h with ⟨h2,h⟩|⟨h2,h⟩
  ·obtain rfl:=(hE _ (oJ h):_=rv)
   exact gr 15 [] [bT h0,cE Qaa.enc h1,nL Qaa.enc s2,bT h2]
  ·obtain ⟨x1,h3,h⟩:=Qae h
   obtain ⟨r,h4,h⟩:=Qae h
   rcases Qah h with ⟨h5,h⟩|⟨h5,h⟩
   ·obtain rfl:=(hE _ (oJ h):_=rv)
    exact gr 23 [] [bT h0,cE Qaa.enc h1,nL Qaa.enc s2,bF h2,cE Qaa.enc h3,cC (Qpm h4),bT h5]
   ·exact gn 25 [0,1,2,11,12,13] [] [bT h0,cE Qaa.enc h1,nL Qaa.enc s2,bF h2,cE Qaa.enc h3,cC (Qpm h4),bF h5] (hI _ (oJ h))
 ·exact gn 5 [0,1] [] [bF h0] (hE _ (oJ h))
theorem Qdp {s1 s2} {rv:Int} (h:Qa0 s1 s2=some rv):AFn Tryz.prog 103 [.one (lL 2 s1 Qaa.enc),.one (lL 2 s2 Qaa.enc),.one (.fn (.func 104) [])] [] (one (lI rv)) []:=by
 refine QaQ Tryz.func103 (by kernel_rfl) (by kernel_rfl) (fun Γ=>?_)
 unfold Qa0 at h
 obtain ⟨e0,h6,h⟩:=Qae h
 refine gn 7 [0,1,2,11,12,13] [] [nL Qaa.enc s1] (QcY Γ rv h6 ?_)
 rcases e0 with e0|e0
 ·replace h:(br (ltI (lenI s1) (lenI s2)) (some (-1)) (some 0):Option Int)=some _:=h
  rcases Qah h with ⟨h7,h⟩|⟨h7,h⟩
  ·obtain rfl:=Option.some.inj h
   exact gr 6 [] [nL Qaa.enc s1,nL Qaa.enc s2,bT h7]
  ·obtain rfl:=Option.some.inj h
   exact gr 7 [] [nL Qaa.enc s1,nL Qaa.enc s2,bF h7]
 ·obtain ⟨r1,rfl⟩:∃ x,x=e0:=⟨_,rfl⟩
  replace h:(some r1:Option Int)=some _:=h
  exact Option.some.inj h
theorem QwE {a b} {rv:Bool} (h:Qmg a b=some rv):AFn Tryz.prog 67 [.one (lL 2 a Qaa.enc),.one (lL 2 b Qaa.enc)] [] (one (.bool rv)) []:=by
 refine QaQ Tryz.func67 (by kernel_rfl) (by kernel_rfl) (fun Γ=>?_)
 unfold Qmg at h
 obtain ⟨r,h0,h⟩:=Qae h
 obtain rfl:=Option.some.inj h
 exact gr 4 [] [cC (Qdp h0)]
theorem QtZ {a b} {rv:Bool} (h:Qnu a b=some rv):AFn Tryz.prog 34 [.agg (Qaf.enc a),.agg (Qaf.enc b)] [] (one (.bool rv)) []:=by
 refine QaQ Tryz.func34 (by kernel_rfl) (by kernel_rfl) (fun Γ=>?_)
 unfold Qnu at h
 rcases Qah h with ⟨h0,h⟩|⟨h0,h⟩
 ·obtain rfl:=Option.some.inj h
  exact gr 8 [] [bT h0]
 ·obtain ⟨r,h1,h⟩:=Qae h
  obtain rfl:=Option.some.inj h
  exact gr 9 [] [bF h0,cC (QwE h1)]
theorem Qod {f l} {rv:Qar} (h:Qgg f l=some rv):AFn Tryz.prog 50 [.one (.op 0 19 0 0),.one (lL 2 l Qaa.enc)] [bX 19 83 (Qar.enc f)] (.tup []) [oX 19 83 [lL 1 rv.x.net.places QmE,lL 6 rv.x.net.arcs Qas.enc,lL 14 rv.x.types Qak.enc,lL 16 rv.x.orders Qai.enc,lL 2 rv.x.apart QaO.enc,lL 2 rv.x.before QaO.enc,lI rv.begin.type_,lI rv.begin.start,lL 1 rv.begin.rests QaI,lL 2 rv.begin.visits Qaa.enc,lI rv.set_,.bool rv.found,lI rv.best.type_,lI rv.best.set_,lI rv.best.price,lI rv.best.route.type_,lI rv.best.route.start,lL 1 rv.best.route.rests QaI,lL 2 rv.best.route.visits Qaa.enc]]:=by
 refine QaQ Tryz.func50 (by kernel_rfl) (by kernel_rfl) (fun Γ=>?_)
 unfold Qgg at h
 obtain ⟨r,h0,h⟩:=Qae h
 rcases Qah h with ⟨h1,h⟩|⟨h1,h⟩
 ·obtain rfl:=Option.some.inj h
  exact gr 10 [0] [cC (Qbv h0),rp 7 hP,rp 5 (oI ((neI r.2 0)=false)),oR True ((neI r.2 0)=false),bT h1]
 ·obtain ⟨r1,h2,h⟩:=Qae h
  rcases Qah h with ⟨h3,h⟩|⟨h3,h⟩
  ·obtain rfl:=Option.some.inj h
   exact gr 17 [0] [cC (Qbv h0),rp 7 hP,rp 5 (oI ((neI r.2 0)=false)),oR True ((neI r.2 0)=false),bF h1,hH (.draw 11 []),cC (Qfv h2),bT h3]
  ·rcases Qah h with ⟨h4,h⟩|⟨h4,h⟩
   ·obtain ⟨r2,h5,h⟩:=Qae h
    rcases Qah h with ⟨h6,h⟩|⟨h6,h⟩
    ·obtain rfl:=Option.some.inj h
     exact gr 24 [0] [cC (Qbv h0),rp 7 hP,rp 5 (oI ((neI r.2 0)=false)),oR True ((neI r.2 0)=false),bF h1,hH (.draw 11 []),cC (Qfv h2),bF h3,hH (.draw 10 []),hH (.draw 13 []),rp 6 (nF h4),cC (QtZ h5),nF h4,bT h6]
    ·obtain rfl:=Option.some.inj h
     exact gr 24 [0] [cC (Qbv h0),rp 7 hP,rp 5 (oI ((neI r.2 0)=false)),oR True ((neI r.2 0)=false),bF h1,hH (.draw 11 []),cC (Qfv h2),bF h3,hH (.draw 10 []),hH (.draw 13 []),rp 6 (nF h4),cC (QtZ h5),nF h4,bF h6]
   ·obtain rfl:=Option.some.inj h
    exact gr 24 [0] [cC (Qbv h0),rp 7 hP,rp 5 (oI ((neI r.2 0)=false)),oR True ((neI r.2 0)=false),bF h1,hH (.draw 11 []),cC (Qfv h2),bF h3,hH (.draw 10 []),hH (.draw 13 []),rp 7 (nT h4),tT]
def Qhd (Γ:Gam) (rv:Bool) (cf:Cf):Prop:=Go Tryz.prog Tryz.f133 [] Γ (one (.bool rv)) [] cf
def Qpn (Γ:Gam) (rv:Bool) (x0:Qad) (l:List Qaa) (v:Qaa) (r1:List Qaa) (v1:Int):Prop:=Qhd Γ rv ⟨[.c 116,.l 116,.b 0,.c 15],⟨63,[vL 1 2 l Qaa.enc,vP 3 0 6,vP 5 1 2,vL 21 2 r1 Qaa.enc,vI 22 (lenI r1),vI 23 v1],[oX 6 30 (Qad.enc x0),oX 2 54 (Qaa.enc v)]⟩⟩
def Qoo (Γ:Gam) (rv:Bool) (x0:Qad) (l:List Qaa) (v:Qaa) (r1:List Qaa):Prop:=Qhd Γ rv ⟨[.c 15],⟨63,[vL 1 2 l Qaa.enc,vP 3 0 6,vP 5 1 2],[oX 6 30 (Qad.enc x0),oX 2 54 (Qaa.enc v)]⟩⟩
def Qpp (Γ:Gam) (rv:Bool) (x0:Qad) (l:List Qaa) (v:Qaa) (v2:Int) (r3:List Qaa) (v3:Int):Prop:=Qhd Γ rv ⟨[.c 125340,.l 125340,.b 4,.b 3,.c 1959,.l 244,.b 2,.c 31],⟨63,[vL 1 2 l Qaa.enc,vP 3 0 6,vP 5 1 2,vL 36 2 x0.before QaO.enc,vI 37 (lenI x0.before),vI 38 v2,vL 51 2 r3 Qaa.enc,vI 52 (lenI r3),vI 53 v3],[oX 6 30 (Qad.enc x0),oX 2 54 (Qaa.enc v)]⟩⟩
def Qoq (Γ:Gam) (rv:Bool) (x0:Qad) (l:List Qaa) (v:Qaa) (v2:Int) (r3:List Qaa):Prop:=Qhd Γ rv ⟨[.b 3,.c 1959,.l 244,.b 2,.c 31],⟨63,[vL 1 2 l Qaa.enc,vP 3 0 6,vP 5 1 2,vL 36 2 x0.before QaO.enc,vI 37 (lenI x0.before),vI 38 v2],[oX 6 30 (Qad.enc x0),oX 2 54 (Qaa.enc v)]⟩⟩
def Qpo (Γ:Gam) (rv:Bool) (x0:Qad) (l:List Qaa) (v:Qaa) (v2:Int):Prop:=Qhd Γ rv ⟨[.c 244,.l 244,.b 2,.c 31],⟨63,[vL 1 2 l Qaa.enc,vP 3 0 6,vP 5 1 2,vL 36 2 x0.before QaO.enc,vI 37 (lenI x0.before),vI 38 v2],[oX 6 30 (Qad.enc x0),oX 2 54 (Qaa.enc v)]⟩⟩
def Qop (Γ:Gam) (rv:Bool) (x0:Qad) (l:List Qaa) (v:Qaa):Prop:=Qhd Γ rv ⟨[.c 31],⟨63,[],[]⟩⟩
theorem QtQ (Γ:Gam) (rv:Bool) {x0 l v r1} {s:Int} {e:(Unit)⊕(Bool)} (h:QaW (fun s=>Qdc x0 l v r1 s) s=some e) (hD:sel e (fun e=>Qoo Γ rv x0 l v r1) (fun e=>e=rv)):Qpn Γ rv x0 l v r1 s:=by
 refine QaA (C:=fun (s:Int)=>Qpn Γ rv x0 l v r1 s) (D:=fun (e:(Unit)⊕(Bool))=>sel e (fun e=>Qoo Γ rv x0 l v r1) (fun e=>e=rv)) ?_ h hD
 clear h hD s e
 intro v1 z_ h hI hE
 replace h:Qdc x0 l v r1 v1=_:=h
 unfold Qdc at h
 rcases Qah h with ⟨h3,h⟩|⟨h3,h⟩
 ·obtain ⟨x1,h4,h⟩:=Qae h
  rcases Qah h with ⟨h5,h⟩|⟨h5,h⟩
  ·exact gn 14 [1,3,5] [0,1] [bT h3,cE Qaa.enc h4,bT h5] (hE _ (oJ h))
  ·obtain ⟨r2,h6,h⟩:=Qae h
   rcases Qah h with ⟨h7,h⟩|⟨h7,h⟩
   ·obtain rfl:=(hE _ (oJ h):_=rv)
    exact gr 19 [] [bT h3,cE Qaa.enc h4,bF h5,cC (Qdb h6),bT h7]
   ·exact gn 21 [1,3,5,21,22,23] [0,1] [bT h3,cE Qaa.enc h4,bF h5,cC (Qdb h6),bF h7] (hI _ (oJ h))
 ·exact gn 5 [1,3,5] [0,1] [bF h3] (hE _ (oJ h))
theorem QtS (Γ:Gam) (rv:Bool) {x0 l v v2 r3} {s:Int} {e:(Unit)⊕(Bool)} (h:QaW (fun s=>QdO x0 l v v2 r3 s) s=some e) (hD:sel e (fun e=>Qoq Γ rv x0 l v v2 r3) (fun e=>e=rv)):Qpp Γ rv x0 l v v2 r3 s:=by
 refine QaA (C:=fun (s:Int)=>Qpp Γ rv x0 l v v2 r3 s) (D:=fun (e:(Unit)⊕(Bool))=>sel e (fun e=>Qoq Γ rv x0 l v v2 r3) (fun e=>e=rv)) ?_ h hD
 clear h hD s e
 intro v3 z_ h hI hE
 replace h:QdO x0 l v v2 r3 v3=_:=h
 unfold QdO at h
 rcases Qah h with ⟨h13,h⟩|⟨h13,h⟩
 ·obtain ⟨x3,h14,h⟩:=Qae h
  obtain ⟨r4,h15,h⟩:=Qae h
  rcases Qah h with ⟨h16,h⟩|⟨h16,h⟩
  ·obtain rfl:=(hE _ (oJ h):_=rv)
   exact gr 14 [] [bT h13,cE Qaa.enc h14,cC (Qdb h15),bT h16]
  ·exact gn 16 [1,3,5,36,37,38,51,52,53] [0,1] [bT h13,cE Qaa.enc h14,cC (Qdb h15),bF h16] (hI _ (oJ h))
 ·exact gn 5 [1,3,5,36,37,38] [0,1] [bF h13] (hE _ (oJ h))
theorem QtR (Γ:Gam) (rv:Bool) {x0 l v} {s:Int} {e:(Unit)⊕(Bool)} (h:QaW (fun s=>Qdd x0 l v s) s=some e) (hD:sel e (fun e=>Qop Γ rv x0 l v) (fun e=>e=rv)):Qpo Γ rv x0 l v s:=by
 refine QaA (C:=fun (s:Int)=>Qpo Γ rv x0 l v s) (D:=fun (e:(Unit)⊕(Bool))=>sel e (fun e=>Qop Γ rv x0 l v) (fun e=>e=rv)) ?_ h hD
 clear h hD s e
 intro v2 z_ h hI hE
 replace h:Qdd x0 l v v2=_:=h
 unfold Qdd at h
 rcases Qah h with ⟨h9,h⟩|⟨h9,h⟩
 ·obtain ⟨x2,h10,h⟩:=Qae h
  rcases Qah h with ⟨h11,h⟩|⟨h11,h⟩
  ·exact gn 16 [1,3,5,36,37,38] [0,1] [bT h9,cE QaO.enc h10,oO (zL 1),oO (lT 1 2),bT h11] (hI _ (oJ h))
  ·obtain ⟨r3,h12,h⟩:=Qae h
   obtain ⟨e1,h17,h⟩:=Qae h
   refine gn 18 [1,3,5,36,37,38,51,52,53] [0,1] [bT h9,cE QaO.enc h10,oO (zL 1),oO (lT 1 2),bF h11,oO (zL 0),oO (lT 0 2),cC (Qje h12),nL Qaa.enc r3] (QtS Γ rv h17 ?_)
   rcases e1 with e1|e1
   ·replace h:(some (.inl (addK .i64 v2 1)):Option ((Int)⊕((Unit)⊕(Bool))))=some _:=h
    exact gn 3 [1,3,5,36,37,38] [0,1] [] (hI _ (oJ h))
   ·obtain ⟨r5,rfl⟩:∃ x,x=e1:=⟨_,rfl⟩
    replace h:(some (.inr (.inr r5)):Option ((Int)⊕((Unit)⊕(Bool))))=some _:=h
    exact (hE _ (oJ h):_=rv)
 ·exact gn 5 [] [] [bF h9] (hE _ (oJ h))
theorem Qq6 {x0 l v} {rv:Bool} (h:Qkl x0 l v=some rv):AFn Tryz.prog 133 [.agg (Qad.enc x0),.one (lL 2 l Qaa.enc),.agg (Qaa.enc v)] [] (one (.bool rv)) []:=by
 refine QaQ Tryz.func133 (by kernel_rfl) (by kernel_rfl) (fun Γ=>?_)
 unfold Qkl at h
 obtain ⟨r,h0,h⟩:=Qae h
 rcases Qah h with ⟨h1,h⟩|⟨h1,h⟩
 ·obtain rfl:=Option.some.inj h
  exact gr 8 [] [cC (Qdb h0),bT h1]
 ·obtain ⟨r1,h2,h⟩:=Qae h
  obtain ⟨e0,h8,h⟩:=Qae h
  refine gn 12 [1,3,5,21,22,23] [0,1] [cC (Qdb h0),bF h1,cC (Qje h2),nL Qaa.enc r1] (QtQ Γ rv h8 ?_)
  rcases e0 with e0|e0
  ·replace h:(bnd (QaW (fun s=>Qdd x0 l v s) 0) (fun e=>sel e (fun (_:Unit)=>some true) (fun r6=>some r6)):Option Bool)=some _:=h
   obtain ⟨e2,h18,h⟩:=Qae h
   refine gn 5 [1,3,5,36,37,38] [0,1] [nL QaO.enc x0.before] (QtR Γ rv h18 ?_)
   rcases e2 with e2|e2
   ·replace h:(some true:Option Bool)=some _:=h
    obtain rfl:=Option.some.inj h
    exact gr 2 [] []
   ·obtain ⟨r6,rfl⟩:∃ x,x=e2:=⟨_,rfl⟩
    replace h:(some r6:Option Bool)=some _:=h
    exact Option.some.inj h
  ·obtain ⟨r7,rfl⟩:∃ x,x=e0:=⟨_,rfl⟩
   replace h:(some r7:Option Bool)=some _:=h
   exact Option.some.inj h
def Qk9 (Γ:Gam) (rv:List Qaa) (cf:Cf):Prop:=Go Tryz.prog Tryz.f85 [] Γ (one (lL 2 rv Qaa.enc)) [] cf
def Qqi (Γ:Gam) (rv:List Qaa) (x0:Qad) (set_:Int) (l:List Qaa) (v:Int) (r:List Qaa) (l2:List Qaa) (v1:Int):Prop:=Qk9 Γ rv ⟨[.c 59804,.l 59804,.b 2,.b 1,.c 935,.l 116,.b 0,.c 15],⟨53,[vI 1 set_,vL 2 2 l Qaa.enc,vP 3 0 6,vO 7 1 2 l2 Qaa.enc,vL 13 16 x0.orders Qai.enc,vI 14 (lenI x0.orders),vI 15 v,vL 36 2 r Qaa.enc,vI 37 (lenI r),vI 38 v1],[oX 6 30 (Qad.enc x0),oS 2 54 l2 Qaa.enc]⟩⟩
def Qpl (Γ:Gam) (rv:List Qaa) (x0:Qad) (set_:Int) (l:List Qaa) (v:Int) (r:List Qaa) (l3:List Qaa):Prop:=Qk9 Γ rv ⟨[.b 1,.c 935,.l 116,.b 0,.c 15],⟨53,[vI 1 set_,vL 2 2 l Qaa.enc,vP 3 0 6,vO 7 1 2 l3 Qaa.enc,vL 13 16 x0.orders Qai.enc,vI 14 (lenI x0.orders),vI 15 v],[oX 6 30 (Qad.enc x0),oS 2 54 l3 Qaa.enc]⟩⟩
def Qqh (Γ:Gam) (rv:List Qaa) (x0:Qad) (set_:Int) (l:List Qaa) (l1:List Qaa) (v:Int):Prop:=Qk9 Γ rv ⟨[.c 116,.l 116,.b 0,.c 15],⟨53,[vI 1 set_,vL 2 2 l Qaa.enc,vP 3 0 6,vO 7 1 2 l1 Qaa.enc,vL 13 16 x0.orders Qai.enc,vI 14 (lenI x0.orders),vI 15 v],[oX 6 30 (Qad.enc x0),oS 2 54 l1 Qaa.enc]⟩⟩
def Qpk (Γ:Gam) (rv:List Qaa) (x0:Qad) (set_:Int) (l:List Qaa) (l4:List Qaa):Prop:=Qk9 Γ rv ⟨[.c 15],⟨53,[vO 7 0 2 l4 Qaa.enc],[oS 2 54 l4 Qaa.enc]⟩⟩
theorem Qus (Γ:Gam) (rv:List Qaa) {x0 set_ l v r} {s:List Qaa×Int} {e:List Qaa} (h:QaW (fun s=>Qd6 x0 set_ l v r s.1 s.2) s=some e) (hD:Qpl Γ rv x0 set_ l v r e):Qqi Γ rv x0 set_ l v r s.1 s.2:=by
 refine QaA (C:=fun (s:List Qaa×Int)=>Qqi Γ rv x0 set_ l v r s.1 s.2) (D:=fun (e:List Qaa)=>Qpl Γ rv x0 set_ l v r e) ?_ h hD
 clear h hD s e
 rintro ⟨l2,v1⟩ z_ h hI hE
 replace h:Qd6 x0 set_ l v r l2 v1=_:=h
 unfold Qd6 at h
 rcases Qah h with ⟨h6,h⟩|⟨h6,h⟩
 ·obtain ⟨x2,h7,h⟩:=Qae h
  obtain ⟨r1,h8,h⟩:=Qae h
  rcases Qah h with ⟨h9,h⟩|⟨h9,h⟩
  ·obtain ⟨h10,h⟩:=Qau h
   exact gn 16 [1,2,3,7,13,14,15,36,37,38] [0,4] [bT h6,cE Qaa.enc h7,cC (Qq6 h8),bT h9,oO (Eq.refl ([x2].map Qaa.enc).length),aO Qaa.enc h10] (hI _ (oJ h))
  ·exact gn 16 [1,2,3,7,13,14,15,36,37,38] [0,1] [bT h6,cE Qaa.enc h7,cC (Qq6 h8),bF h9] (hI _ (oJ h))
 ·exact gn 5 [1,2,3,7,13,14,15] [0,1] [bF h6] (hE _ (oJ h))
theorem Qur (Γ:Gam) (rv:List Qaa) {x0 set_ l} {s:List Qaa×Int} {e:List Qaa} (h:QaW (fun s=>QdH x0 set_ l s.1 s.2) s=some e) (hD:Qpk Γ rv x0 set_ l e):Qqh Γ rv x0 set_ l s.1 s.2:=by
 refine QaA (C:=fun (s:List Qaa×Int)=>Qqh Γ rv x0 set_ l s.1 s.2) (D:=fun (e:List Qaa)=>Qpk Γ rv x0 set_ l e) ?_ h hD
 clear h hD s e
 rintro ⟨l1,v⟩ z_ h hI hE
 replace h:QdH x0 set_ l l1 v=_:=h
 unfold QdH at h
 rcases Qah h with ⟨h0,h⟩|⟨h0,h⟩
 ·obtain ⟨x1,h1,h⟩:=Qae h
  rcases Qah h with ⟨h2,h⟩|⟨h2,h⟩
  ·exact gn 16 [1,2,3,7,13,14,15] [0,1] [bT h0,cE Qai.enc h1,rp 6 (bT h2),rp 4 tT] (hI _ (oJ h))
  ·obtain ⟨h3,h⟩:=Qau h
   rcases Qah h with ⟨h4,h⟩|⟨h4,h⟩
   ·exact gn 16 [1,2,3,7,13,14,15] [0,1] [bT h0,cE Qai.enc h1,rp 3 (bF h2),oO (h3),rp 3 (bF h2),hP,hP,hP,oI ((eqI (andK .i64 (shrK .i64 set_ v) 1) 0)=false),oR True ((eqI (andK .i64 (shrK .i64 set_ v) 1) 0)=false),bT h4] (hI _ (oJ h))
   ·obtain ⟨r,h5,h⟩:=Qae h
    obtain ⟨e0,h11,h⟩:=Qae h
    refine gn 18 [1,2,3,7,13,14,15,36,37,38] [0,1] [bT h0,cE Qai.enc h1,rp 3 (bF h2),oO (h3),rp 3 (bF h2),hP,hP,hP,oI ((eqI (andK .i64 (shrK .i64 set_ v) 1) 0)=false),oR True ((eqI (andK .i64 (shrK .i64 set_ v) 1) 0)=false),bF h4,cC (Qje h5),nL Qaa.enc r] (Qus Γ rv h11 ?_)
    obtain ⟨l3,rfl⟩:∃ x,x=e0:=⟨_,rfl⟩
    replace h:(some (.inl (l3,(addK .i64 v 1))):Option ((List Qaa×Int)⊕(List Qaa)))=some _:=h
    exact gn 3 [1,2,3,7,13,14,15] [0,1] [] (hI _ (oJ h))
 ·exact gn 5 [7] [1] [bF h0] (hE _ (oJ h))
theorem Qsq {x0 set_ l} {rv:List Qaa} (h:Qmh x0 set_ l=some rv):AFn Tryz.prog 85 [.agg (Qad.enc x0),.one (lI set_),.one (lL 2 l Qaa.enc)] [] (one (lL 2 rv Qaa.enc)) []:=by
 refine QaQ Tryz.func85 (by kernel_rfl) (by kernel_rfl) (fun Γ=>?_)
 unfold Qmh at h
 obtain ⟨e1,h12,h⟩:=Qae h
 refine gn 9 [1,2,3,7,13,14,15] [0,1] [nL Qai.enc x0.orders,hW 3,hH (.adopt 7 2 54)] (Qur Γ rv h12 ?_)
 obtain ⟨l4,rfl⟩:∃ x,x=e1:=⟨_,rfl⟩
 replace h:(some l4:Option (List Qaa))=some _:=h
 obtain rfl:=Option.some.inj h
 exact gr 2 [] [hW 4,hH (.frz 0),rp 3 (eL l4 Qaa.enc)]
theorem QhS {s0} {rv:List Qaa} (h:QbF s0=some rv):AFn Tryz.prog 86 [.one (lL 2 s0 Qaa.enc)] [] (one (lO 0 2 rv Qaa.enc)) [oS 2 54 rv Qaa.enc]:=by
 refine QaQ Tryz.func86 (by kernel_rfl) (by kernel_rfl) (fun Γ=>?_)
 unfold QbF at h
 rcases Qah h with ⟨h0,h⟩|⟨h0,h⟩
 ·obtain ⟨hx,h⟩:=QBI h
  refine gn 5 [0,4] [] [hH (.skip)] (cf':=⟨[.c 13,.c 7],⟨8,[vL 0 2 s0 Qaa.enc,(4,.boo)],[]⟩⟩) (QG8 4 rfl ?_ ?_)
  ·replace h:=hx
   obtain rfl:=Option.some.inj h
   exact gr 3 [0] [tT,hW 3,hH (.adopt 2 2 54)]
  ·obtain ⟨h1,h⟩:=Qau h
   obtain rfl:=Option.some.inj h
   exact gr 4 [0] [fF,aZ Qaa.enc h1]
 ·obtain ⟨h2,h⟩:=Qau h
  obtain rfl:=Option.some.inj h
  exact gr 9 [0] [oO (neE Qaa.enc h0),fF,hH (.bit false),aZ Qaa.enc h2]
def Qoe (Γ:Gam) (rv:Qar) (cf:Cf):Prop:=Go Tryz.prog Tryz.f51 [0] Γ (.tup []) [oX 19 83 [lL 1 rv.x.net.places QmE,lL 6 rv.x.net.arcs Qas.enc,lL 14 rv.x.types Qak.enc,lL 16 rv.x.orders Qai.enc,lL 2 rv.x.apart QaO.enc,lL 2 rv.x.before QaO.enc,lI rv.begin.type_,lI rv.begin.start,lL 1 rv.begin.rests QaI,lL 2 rv.begin.visits Qaa.enc,lI rv.set_,.bool rv.found,lI rv.best.type_,lI rv.best.set_,lI rv.best.price,lI rv.best.route.type_,lI rv.best.route.start,lL 1 rv.best.route.rests QaI,lL 2 rv.best.route.visits Qaa.enc]] cf
def QkT (Γ:Gam) (rv:Qar) (self:Qar→(List Qaa)→Option Qar) (l:List Qaa) (r:List Qaa) (x0:Qar) (v:Int):Prop:=Qoe Γ rv ⟨[.c 60,.l 60,.b 0],⟨37,[vP 0 0 19,vL 1 2 l Qaa.enc,vL 23 2 r Qaa.enc,vI 24 (lenI r),vI 25 v],[oX 19 83 (Qar.enc x0)]⟩⟩
def Qkf (Γ:Gam) (rv:Qar) (self:Qar→(List Qaa)→Option Qar) (l:List Qaa) (r:List Qaa) (x2:Qar):Prop:=Qoe Γ rv ⟨[],⟨37,[],[oX 19 83 (Qar.enc x2)]⟩⟩
theorem QqE (Γ:Gam) (rv:Qar) {self:Qar→(List Qaa)→Option Qar} (hself:∀ {f:Qar} {l:List Qaa} {rv:Qar},self f l=some rv→AFn Tryz.prog 51 [.one (.op 0 19 0 0),.one (lL 2 l Qaa.enc)] [bX 19 83 (Qar.enc f)] (.tup []) [oX 19 83 [lL 1 rv.x.net.places QmE,lL 6 rv.x.net.arcs Qas.enc,lL 14 rv.x.types Qak.enc,lL 16 rv.x.orders Qai.enc,lL 2 rv.x.apart QaO.enc,lL 2 rv.x.before QaO.enc,lI rv.begin.type_,lI rv.begin.start,lL 1 rv.begin.rests QaI,lL 2 rv.begin.visits Qaa.enc,lI rv.set_,.bool rv.found,lI rv.best.type_,lI rv.best.set_,lI rv.best.price,lI rv.best.route.type_,lI rv.best.route.start,lL 1 rv.best.route.rests QaI,lL 2 rv.best.route.visits Qaa.enc]]) {l r} {s:Qar×Int} {e:Qar} (h:QaW (fun s=>Qeb self l r s.1 s.2) s=some e) (hD:Qkf Γ rv self l r e):QkT Γ rv self l r s.1 s.2:=by
 refine QaA (C:=fun (s:Qar×Int)=>QkT Γ rv self l r s.1 s.2) (D:=fun (e:Qar)=>Qkf Γ rv self l r e) ?_ h hD
 clear h hD s e
 rintro ⟨x0,v⟩ z_ h hI hE
 replace h:Qeb self l r x0 v=_:=h
 unfold Qeb at h
 rcases Qah h with ⟨h3,h⟩|⟨h3,h⟩
 ·obtain ⟨x1,h4,h⟩:=Qae h
  obtain ⟨r2,h5,h⟩:=Qae h
  obtain ⟨h6,h⟩:=Qau h
  obtain ⟨r3,h7,h⟩:=Qae h
  exact gn 13 [0,1,23,24,25] [0] [bT h3,cE Qaa.enc h4,hH (.draw 6 [(2,5)]),cC (QhS h5),oO (Eq.refl ([x1].map Qaa.enc).length),aO Qaa.enc h6,hH (.frz 4),oO (Eq.refl ((r2++[x1]).map Qaa.enc).length),cI [0] (hself h7)] (hI _ (oJ h))
 ·exact gn 5 [] [0] [bF h3] (hE _ (oJ h))
theorem Qrr {self:Qar→(List Qaa)→Option Qar} (hself:∀ {f:Qar} {l:List Qaa} {rv:Qar},self f l=some rv→AFn Tryz.prog 51 [.one (.op 0 19 0 0),.one (lL 2 l Qaa.enc)] [bX 19 83 (Qar.enc f)] (.tup []) [oX 19 83 [lL 1 rv.x.net.places QmE,lL 6 rv.x.net.arcs Qas.enc,lL 14 rv.x.types Qak.enc,lL 16 rv.x.orders Qai.enc,lL 2 rv.x.apart QaO.enc,lL 2 rv.x.before QaO.enc,lI rv.begin.type_,lI rv.begin.start,lL 1 rv.begin.rests QaI,lL 2 rv.begin.visits Qaa.enc,lI rv.set_,.bool rv.found,lI rv.best.type_,lI rv.best.set_,lI rv.best.price,lI rv.best.route.type_,lI rv.best.route.start,lL 1 rv.best.route.rests QaI,lL 2 rv.best.route.visits Qaa.enc]]) {f l} {rv:Qar} (h:Qf0 self f l=some rv):AFn Tryz.prog 51 [.one (.op 0 19 0 0),.one (lL 2 l Qaa.enc)] [bX 19 83 (Qar.enc f)] (.tup []) [oX 19 83 [lL 1 rv.x.net.places QmE,lL 6 rv.x.net.arcs Qas.enc,lL 14 rv.x.types Qak.enc,lL 16 rv.x.orders Qai.enc,lL 2 rv.x.apart QaO.enc,lL 2 rv.x.before QaO.enc,lI rv.begin.type_,lI rv.begin.start,lL 1 rv.begin.rests QaI,lL 2 rv.begin.visits Qaa.enc,lI rv.set_,.bool rv.found,lI rv.best.type_,lI rv.best.set_,lI rv.best.price,lI rv.best.route.type_,lI rv.best.route.start,lL 1 rv.best.route.rests QaI,lL 2 rv.best.route.visits Qaa.enc]]:=by
 refine QaQ Tryz.func51 (by kernel_rfl) (by kernel_rfl) (fun Γ=>?_)
 unfold Qf0 at h
 obtain ⟨r,h0,h⟩:=Qae h
 rcases Qah h with ⟨h1,h⟩|⟨h1,h⟩
 ·obtain ⟨r1,h2,h⟩:=Qae h
  obtain rfl:=Option.some.inj h
  exact gr 8 [0] [hH (.draw 11 []),cC (Qsq h0),nL Qaa.enc r,bT h1,cI [0] (Qod h2)]
 ·obtain ⟨e0,h8,h⟩:=Qae h
  refine gn 11 [0,1,23,24,25] [0] [hH (.draw 11 []),cC (Qsq h0),nL Qaa.enc r,bF h1,nL Qaa.enc r] (QqE Γ rv hself h8 ?_)
  obtain ⟨x2,rfl⟩:∃ x,x=e0:=⟨_,rfl⟩
  replace h:(some x2:Option Qar)=some _:=h
  obtain rfl:=Option.some.inj h
  exact gr 0 [0] []
theorem Qmd:∀ n,∀ {f:Qar} {l:List Qaa} {rv:Qar},QdR n f l=some rv→AFn Tryz.prog 51 [.one (.op 0 19 0 0),.one (lL 2 l Qaa.enc)] [bX 19 83 (Qar.enc f)] (.tup []) [oX 19 83 [lL 1 rv.x.net.places QmE,lL 6 rv.x.net.arcs Qas.enc,lL 14 rv.x.types Qak.enc,lL 16 rv.x.orders Qai.enc,lL 2 rv.x.apart QaO.enc,lL 2 rv.x.before QaO.enc,lI rv.begin.type_,lI rv.begin.start,lL 1 rv.begin.rests QaI,lL 2 rv.begin.visits Qaa.enc,lI rv.set_,.bool rv.found,lI rv.best.type_,lI rv.best.set_,lI rv.best.price,lI rv.best.route.type_,lI rv.best.route.start,lL 1 rv.best.route.rests QaI,lL 2 rv.best.route.visits Qaa.enc]]
 | 0=>fun h=>nomatch h
 | n+1=>fun h=>Qrr (Qmd n) h
theorem Qs5:∀ {f:Qar} {l:List Qaa} {rv:Qar},Qqd f l=some rv→AFn Tryz.prog 51 [.one (.op 0 19 0 0),.one (lL 2 l Qaa.enc)] [bX 19 83 (Qar.enc f)] (.tup []) [oX 19 83 [lL 1 rv.x.net.places QmE,lL 6 rv.x.net.arcs Qas.enc,lL 14 rv.x.types Qak.enc,lL 16 rv.x.orders Qai.enc,lL 2 rv.x.apart QaO.enc,lL 2 rv.x.before QaO.enc,lI rv.begin.type_,lI rv.begin.start,lL 1 rv.begin.rests QaI,lL 2 rv.begin.visits Qaa.enc,lI rv.set_,.bool rv.found,lI rv.best.type_,lI rv.best.set_,lI rv.best.price,lI rv.best.route.type_,lI rv.best.route.start,lL 1 rv.best.route.rests QaI,lL 2 rv.best.route.visits Qaa.enc]]:=Qmd _
def QyO (Γ:Gam) (rv:Qaf×Int) (cf:Cf):Prop:=Go Tryz.prog Tryz.f21 [] Γ (.tup [.agg [lI rv.1.type_,lI rv.1.set_,lI rv.1.price,lI rv.1.route.type_,lI rv.1.route.start,lL 1 rv.1.route.rests QaI,lL 2 rv.1.route.visits Qaa.enc],.one (lI rv.2)]) [] cf
theorem Qmr (Γ:Gam) (rv:Qaf×Int) {x1} (h:QgC x1=some rv):QyO Γ rv ⟨[.b 0,.c 63],⟨69,[vP 6 0 7,vP 8 1 19],[oX 7 45 [lI 0,lI 0,lI 0,lI 0,lI 0,.nils,.nils],oX 19 83 (Qar.enc x1)]⟩⟩:=by
 unfold QgC at h
 rcases Qah h with ⟨h9,h⟩|⟨h9,h⟩
 ·obtain rfl:=Option.some.inj h
  exact gr 8 [] [nF h9]
 ·obtain rfl:=Option.some.inj h
  exact gr 7 [] [nT h9,hW 5,hH (.nilB 0 5 1),hH (.nilB 0 6 2)]
theorem Qbd {x0 begin set_} {rv:Qaf×Int} (h:Qfl x0 begin set_=some rv):AFn Tryz.prog 21 [.agg (Qad.enc x0),.agg (Qac.enc begin),.one (lI set_)] [] (.tup [.agg [lI rv.1.type_,lI rv.1.set_,lI rv.1.price,lI rv.1.route.type_,lI rv.1.route.start,lL 1 rv.1.route.rests QaI,lL 2 rv.1.route.visits Qaa.enc],.one (lI rv.2)]) []:=by
 refine QaQ Tryz.func21 (by kernel_rfl) (by kernel_rfl) (fun Γ=>?_)
 unfold Qfl at h
 rcases Qah h with ⟨h0,h⟩|⟨h0,h⟩
 ·obtain rfl:=Option.some.inj h
  exact gr 8 [] [rp 5 hP,rp 3 (oI ((ltI begin.type_ 0)=false)),nL Qak.enc x0.types,hP,hP,rp 2 (oI ((ltI begin.type_ 0)=false)),oR True ((ltI begin.type_ 0)=false),rp 5 (bT h0),tT,hW 5,hH (.nilB 2 5 1),hH (.nilB 2 6 2)]
 ·obtain ⟨r,h1,h⟩:=Qae h
  rcases Qah h with ⟨h2,h⟩|⟨h2,h⟩
  ·obtain ⟨r1,h3,h⟩:=Qae h
   rcases Qah h with ⟨h4,h⟩|⟨h4,h⟩
   ·exact gn 17 [6,8] [2,3] [rp 5 hP,rp 3 (oI ((ltI begin.type_ 0)=false)),nL Qak.enc x0.types,hP,hP,rp 2 (oI ((ltI begin.type_ 0)=false)),oR True ((ltI begin.type_ 0)=false),rp 3 (bF h0),cC (Qke h1),bF h0,bF h0,nF h2,cC (Qbv h3),rp 5 hP,rp 3 (oI ((neI r1.2 0)=false)),oR True ((neI r1.2 0)=false),bT h4,hW 1,hH (.nilB 3 17 1),hH (.nilB 3 18 2)] (Qmr Γ rv h)
   ·obtain ⟨r2,h5,h⟩:=Qae h
    rcases Qah h with ⟨h6,h⟩|⟨h6,h⟩
    ·obtain ⟨r3,h7,h⟩:=Qae h
     exact gn 20 [6,8] [2,3] [rp 5 hP,rp 3 (oI ((ltI begin.type_ 0)=false)),nL Qak.enc x0.types,hP,hP,rp 2 (oI ((ltI begin.type_ 0)=false)),oR True ((ltI begin.type_ 0)=false),rp 3 (bF h0),cC (Qke h1),bF h0,bF h0,nF h2,cC (Qbv h3),rp 5 hP,rp 3 (oI ((neI r1.2 0)=false)),oR True ((neI r1.2 0)=false),bF h4,cC (Qqe h5),bT h6,hW 4,hH (.nilB 3 17 1),hH (.nilB 3 18 2),cI [3] (Qod h7)] (Qmr Γ rv h)
    ·obtain ⟨r4,h8,h⟩:=Qae h
     exact gn 20 [6,8] [2,3] [rp 5 hP,rp 3 (oI ((ltI begin.type_ 0)=false)),nL Qak.enc x0.types,hP,hP,rp 2 (oI ((ltI begin.type_ 0)=false)),oR True ((ltI begin.type_ 0)=false),rp 3 (bF h0),cC (Qke h1),bF h0,bF h0,nF h2,cC (Qbv h3),rp 5 hP,rp 3 (oI ((neI r1.2 0)=false)),oR True ((neI r1.2 0)=false),bF h4,cC (Qqe h5),bF h6,hW 4,hH (.nilB 3 17 1),hH (.nilB 3 18 2),cI [3] (Qs5 h8)] (Qmr Γ rv h)
  ·obtain rfl:=Option.some.inj h
   exact gr 8 [] [rp 5 hP,rp 3 (oI ((ltI begin.type_ 0)=false)),nL Qak.enc x0.types,hP,hP,rp 2 (oI ((ltI begin.type_ 0)=false)),oR True ((ltI begin.type_ 0)=false),rp 3 (bF h0),cC (Qke h1),bF h0,bF h0,nT h2,hW 5,hH (.nilB 2 5 1),hH (.nilB 2 6 2)]
def Qwq (Γ:Gam) (rv:List Qaf) (cf:Cf):Prop:=Go Tryz.prog Tryz.f43 [] Γ (one (lL 7 rv Qaf.enc)) [] cf
def Qtm (Γ:Gam) (rv:List Qaf) (x0:Qad) (begin:Qac) (need:Int) (without:Int) (l:List Qaf) (set_:Int):Prop:=Qwq Γ rv ⟨[.c 116,.l 116,.b 0,.c 15],⟨46,[vI 2 need,vI 3 without,vP 4 0 6,vP 5 1 4,vO 9 2 7 l Qaf.enc,vI 10 set_],[oX 6 30 (Qad.enc x0),oX 4 37 (Qac.enc begin),oS 7 45 l Qaf.enc]⟩⟩
def Qsk (Γ:Gam) (rv:List Qaf) (x0:Qad) (begin:Qac) (need:Int) (without:Int) (l1:List Qaf):Prop:=Qwq Γ rv ⟨[.c 15],⟨46,[vO 9 0 7 l1 Qaf.enc],[oS 7 45 l1 Qaf.enc]⟩⟩
theorem Qwr (Γ:Gam) (rv:List Qaf) {x0 begin need without} {s:List Qaf×Int} {e:List Qaf} (h:QaW (fun s=>QgD x0 begin need without s.1 s.2) s=some e) (hD:Qsk Γ rv x0 begin need without e):Qtm Γ rv x0 begin need without s.1 s.2:=by
 refine QaA (C:=fun (s:List Qaf×Int)=>Qtm Γ rv x0 begin need without s.1 s.2) (D:=fun (e:List Qaf)=>Qsk Γ rv x0 begin need without e) ?_ h hD
 clear h hD s e
 rintro ⟨l,set_⟩ z_ h hI hE
 replace h:QgD x0 begin need without l set_=_:=h
 unfold QgD at h
 obtain ⟨h0,h⟩:=Qau h
 rcases Qah h with ⟨h1,h⟩|⟨h1,h⟩
 ·rcases Qah h with ⟨h2,h⟩|⟨h2,h⟩
  ·exact gn 14 [2,3,4,5,9,10] [0,1,2] [nL Qai.enc x0.orders,oO (h0),bT h1,rp 5 hP,rp 3 (oI ((neI (andK .i64 set_ need) need)=false)),oR True ((neI (andK .i64 set_ need) need)=false),bT h2] (hI _ (oJ h))
  ·obtain ⟨r,h3,h⟩:=Qae h
   rcases Qah h with ⟨h4,h⟩|⟨h4,h⟩
   ·obtain ⟨h5,h⟩:=Qau h
    exact gn 21 [2,3,4,5,9,10] [0,1,5] [nL Qai.enc x0.orders,oO (h0),bT h1,rp 5 hP,rp 3 (oI ((neI (andK .i64 set_ need) need)=false)),oR True ((neI (andK .i64 set_ need) need)=false),bF h2,cC (Qbd h3),bT h4,oO (Eq.refl ([r.1].map Qaf.enc).length),aO Qaf.enc h5] (hI _ (oJ h))
   ·exact gn 21 [2,3,4,5,9,10] [0,1,2] [nL Qai.enc x0.orders,oO (h0),bT h1,rp 5 hP,rp 3 (oI ((neI (andK .i64 set_ need) need)=false)),oR True ((neI (andK .i64 set_ need) need)=false),bF h2,cC (Qbd h3),bF h4] (hI _ (oJ h))
 ·exact gn 5 [9] [2] [nL Qai.enc x0.orders,oO (h0),bF h1] (hE _ (oJ h))
theorem Qvl {x0 begin need without} {rv:List Qaf} (h:Qoc x0 begin need without=some rv):AFn Tryz.prog 43 [.agg (Qad.enc x0),.agg (Qac.enc begin),.one (lI need),.one (lI without)] [] (one (lL 7 rv Qaf.enc)) []:=by
 refine QaQ Tryz.func43 (by kernel_rfl) (by kernel_rfl) (fun Γ=>?_)
 unfold Qoc at h
 obtain ⟨e0,h6,h⟩:=Qae h
 refine gn 9 [2,3,4,5,9,10] [0,1,2] [hW 14,hH (.adopt 9 7 45)] (Qwr Γ rv h6 ?_)
 obtain ⟨l1,rfl⟩:∃ x,x=e0:=⟨_,rfl⟩
 replace h:(some l1:Option (List Qaf))=some _:=h
 obtain rfl:=Option.some.inj h
 exact gr 2 [] [hW 4,hH (.frz 0),rp 3 (eL l1 Qaf.enc)]
def Qk2 (Γ:Gam) (rv:List Qaf×Int) (cf:Cf):Prop:=Go Tryz.prog Tryz.f16 [] Γ (.tup [.one (lL 7 rv.1 Qaf.enc),.one (lI rv.2)]) [] cf
def Qtj (Γ:Gam) (rv:List Qaf×Int) (x0:Qad) (begins:List Qac) (now:Int) (v:Int):Prop:=Qk2 Γ rv ⟨[.c 116,.l 116,.b 0,.c 15],⟨88,[vL 1 4 begins Qac.enc,vI 2 now,vP 3 0 6,vL 22 4 begins Qac.enc,vI 23 (lenI begins),vI 24 v],[oX 6 30 (Qad.enc x0)]⟩⟩
def Qsh (Γ:Gam) (rv:List Qaf×Int) (x0:Qad) (begins:List Qac) (now:Int):Prop:=Qk2 Γ rv ⟨[.c 15],⟨88,[vL 1 4 begins Qac.enc,vI 2 now,vP 3 0 6],[oX 6 30 (Qad.enc x0)]⟩⟩
def Qtk (Γ:Gam) (rv:List Qaf×Int) (x0:Qad) (begins:List Qac) (now:Int) (l:List Qaf) (v1:Int):Prop:=Qk2 Γ rv ⟨[.c 500,.l 500,.b 2,.c 63],⟨88,[vL 1 4 begins Qac.enc,vI 2 now,vP 3 0 6,vO 10 1 7 l Qaf.enc,vL 40 4 begins Qac.enc,vI 41 (lenI begins),vI 42 v1],[oX 6 30 (Qad.enc x0),oS 7 45 l Qaf.enc]⟩⟩
def Qsi (Γ:Gam) (rv:List Qaf×Int) (x0:Qad) (begins:List Qac) (now:Int) (l4:List Qaf):Prop:=Qk2 Γ rv ⟨[.c 63],⟨88,[vL 1 4 begins Qac.enc,vI 2 now,vP 3 0 6,vO 10 1 7 l4 Qaf.enc],[oX 6 30 (Qad.enc x0),oS 7 45 l4 Qaf.enc]⟩⟩
def Qtl (Γ:Gam) (rv:List Qaf×Int) (x0:Qad) (now:Int) (r4:Int) (l5:List Qaf) (v2:Int):Prop:=Qk2 Γ rv ⟨[.c 2036,.l 2036,.b 4,.c 255],⟨88,[vI 2 now,vP 3 0 6,vO 10 1 7 l5 Qaf.enc,vI 14 r4,vI 74 (lenI x0.types),vI 75 v2],[oX 6 30 (Qad.enc x0),oS 7 45 l5 Qaf.enc]⟩⟩
def Qsj (Γ:Gam) (rv:List Qaf×Int) (x0:Qad) (now:Int) (r4:Int) (l6:List Qaf):Prop:=Qk2 Γ rv ⟨[.c 255],⟨88,[vO 10 0 7 l6 Qaf.enc],[oS 7 45 l6 Qaf.enc]⟩⟩
theorem Qwm (Γ:Gam) (rv:List Qaf×Int) {x0 begins now} {s:Int} {e:(Unit)⊕(List Qaf×Int)} (h:QaW (fun s=>QgB x0 begins now s) s=some e) (hD:sel e (fun e=>Qsh Γ rv x0 begins now) (fun e=>e=rv)):Qtj Γ rv x0 begins now s:=by
 refine QaA (C:=fun (s:Int)=>Qtj Γ rv x0 begins now s) (D:=fun (e:(Unit)⊕(List Qaf×Int))=>sel e (fun e=>Qsh Γ rv x0 begins now) (fun e=>e=rv)) ?_ h hD
 clear h hD s e
 intro v z_ h hI hE
 replace h:QgB x0 begins now v=_:=h
 unfold QgB at h
 rcases Qah h with ⟨h1,h⟩|⟨h1,h⟩
 ·obtain ⟨x1,h2,h⟩:=Qae h
  rcases Qah h with ⟨h3,h⟩|⟨h3,h⟩
  ·obtain rfl:=(hE _ (oJ h):_=rv)
   exact gr 14 [] [bT h1,cE Qac.enc h2,rp 5 hP,rp 3 (oI ((ltI x1.type_ 0)=false)),nL Qak.enc x0.types,hP,hP,rp 2 (oI ((ltI x1.type_ 0)=false)),oR True ((ltI x1.type_ 0)=false),bT h3,hW 4,hH (.nilS 6 0 7)]
  ·exact gn 16 [1,2,3,22,23,24] [0] [bT h1,cE Qac.enc h2,rp 5 hP,rp 3 (oI ((ltI x1.type_ 0)=false)),nL Qak.enc x0.types,hP,hP,rp 2 (oI ((ltI x1.type_ 0)=false)),oR True ((ltI x1.type_ 0)=false),bF h3] (hI _ (oJ h))
 ·exact gn 5 [1,2,3] [0] [bF h1] (hE _ (oJ h))
theorem Qwn (Γ:Gam) (rv:List Qaf×Int) {x0 begins now} {s:List Qaf×Int} {e:List Qaf} (h:QaW (fun s=>QeW x0 begins now s.1 s.2) s=some e) (hD:Qsi Γ rv x0 begins now e):Qtk Γ rv x0 begins now s.1 s.2:=by
 refine QaA (C:=fun (s:List Qaf×Int)=>Qtk Γ rv x0 begins now s.1 s.2) (D:=fun (e:List Qaf)=>Qsi Γ rv x0 begins now e) ?_ h hD
 clear h hD s e
 rintro ⟨l,v1⟩ z_ h hI hE
 replace h:QeW x0 begins now l v1=_:=h
 unfold QeW at h
 rcases Qah h with ⟨h5,h⟩|⟨h5,h⟩
 ·obtain ⟨x2,h6,h⟩:=Qae h
  obtain ⟨l1,h7,h⟩:=Qae h
  obtain ⟨l2,h8,h⟩:=Qae h
  obtain ⟨r,h9,h⟩:=Qae h
  obtain ⟨r1,h10,h⟩:=Qae h
  obtain ⟨l3,h11,h⟩:=Qae h
  obtain ⟨r2,h12,h⟩:=Qae h
  obtain ⟨r3,h13,h⟩:=Qae h
  obtain ⟨h14,h⟩:=Qau h
  exact gn 15 [1,2,3,10,40,41,42] [0,4] [bT h5,cE Qac.enc h6,hH (.draw 8 []),hH (.rows (l1.map Qac.enc)),hH (.rows (l2.map Qac.enc)),hH (.frz 3),oO (sl1 h7),oO (sl2 h7),oO (sl3 Qac.enc h7),oO (Int.le_refl v1),oO (sl3 Qac.enc h7),oO (sl6 Qac.enc h7),oO (sl1 h8),oO (sl2h Qac.enc h8),rp 3 (oO (Int.le_refl ((begins.map Qac.enc).length:Int))),oO (sl6h Qac.enc h8),oO (Eq.refl ([l1,l2].map es_T_api_Route.enc).length),cC (QiN h9),cC (Qpr h10),hH (.draw 11 []),hH (.rows (l3.map Qac.enc)),oO (sl1 h11),oO (sl2 h11),oO (sl3 Qac.enc h11),oO (Int.le_refl (addK .i64 v1 1)),oO (sl3 Qac.enc h11),oO (sl6 Qac.enc h11),cC (Qpr h12),cC (Qvl h13),aO Qaf.enc h14] (hI _ (oJ h))
 ·exact gn 5 [1,2,3,10] [0,1] [bF h5] (hE _ (oJ h))
theorem Qwo (Γ:Gam) (rv:List Qaf×Int) {x0 now r4} {s:List Qaf×Int} {e:List Qaf} (h:QaW (fun s=>Qeg x0 now r4 s.1 s.2) s=some e) (hD:Qsj Γ rv x0 now r4 e):Qtl Γ rv x0 now r4 s.1 s.2:=by
 refine QaA (C:=fun (s:List Qaf×Int)=>Qtl Γ rv x0 now r4 s.1 s.2) (D:=fun (e:List Qaf)=>Qsj Γ rv x0 now r4 e) ?_ h hD
 clear h hD s e
 rintro ⟨l5,v2⟩ z_ h hI hE
 replace h:Qeg x0 now r4 l5 v2=_:=h
 unfold Qeg at h
 rcases Qah h with ⟨h17,h⟩|⟨h17,h⟩
 ·obtain ⟨r5,h18,h⟩:=Qae h
  obtain ⟨h19,h⟩:=Qau h
  exact gn 13 [2,3,10,14,74,75] [0,2] [bT h17,hW 14,hH (.nilS 82 2 1),hH (.nilS 82 3 2),cC (Qvl h18),aO Qaf.enc h19] (hI _ (oJ h))
 ·exact gn 5 [10] [1] [bF h17] (hE _ (oJ h))
theorem QjQ {x0 begins now} {rv:List Qaf×Int} (h:Qob x0 begins now=some rv):AFn Tryz.prog 16 [.agg (Qad.enc x0),.one (lL 4 begins Qac.enc),.one (lI now)] [] (.tup [.one (lL 7 rv.1 Qaf.enc),.one (lI rv.2)]) []:=by
 refine QaQ Tryz.func16 (by kernel_rfl) (by kernel_rfl) (fun Γ=>?_)
 unfold Qob at h
 rcases Qah h with ⟨h0,h⟩|⟨h0,h⟩
 ·obtain rfl:=Option.some.inj h
  exact gr 8 [] [hP,hP,hP,oI ((ltI now 0)=false),oR True ((ltI now 0)=false),bT h0,hW 4,hH (.nilS 6 0 7)]
 ·obtain ⟨e0,h4,h⟩:=Qae h
  refine gn 12 [1,2,3,22,23,24] [0] [hP,hP,hP,oI ((ltI now 0)=false),oR True ((ltI now 0)=false),bF h0,nL Qac.enc begins] (Qwm Γ rv h4 ?_)
  rcases e0 with e0|e0
  ·replace h:(bnd (QaW (fun s=>QeW x0 begins now s.1 s.2) ([],0)) (fun l4=>bnd (QgH begins) fun r4=>bnd (QaW (fun s=>Qeg x0 now r4 s.1 s.2) (l4,0)) (fun l6=>some (l6,0))):Option (List Qaf×Int))=some _:=h
   obtain ⟨e1,h15,h⟩:=Qae h
   refine gn 7 [1,2,3,10,40,41,42] [0,1] [nL Qac.enc begins,hW 3,hH (.adopt 10 7 45)] (Qwn Γ rv h15 ?_)
   obtain ⟨l4,rfl⟩:∃ x,x=e1:=⟨_,rfl⟩
   replace h:(bnd (QgH begins) fun r4=>bnd (QaW (fun s=>Qeg x0 now r4 s.1 s.2) (l4,0)) (fun l6=>some (l6,0)):Option (List Qaf×Int))=some _:=h
   obtain ⟨r4,h16,h⟩:=Qae h
   obtain ⟨e2,h20,h⟩:=Qae h
   refine gn 7 [2,3,10,14,74,75] [0,1] [cC (Qpr h16),nL Qak.enc x0.types] (Qwo Γ rv h20 ?_)
   obtain ⟨l6,rfl⟩:∃ x,x=e2:=⟨_,rfl⟩
   replace h:(some (l6,0):Option (List Qaf×Int))=some _:=h
   obtain rfl:=Option.some.inj h
   exact gr 2 [] [hW 5,hH (.frz 0),rp 3 (eL l6 Qaf.enc)]
  ·obtain ⟨r6,rfl⟩:∃ x,x=e0:=⟨_,rfl⟩
   replace h:(some r6:Option (List Qaf×Int))=some _:=h
   exact Option.some.inj h
theorem Qhl {rv:Qad} (h:Qmm=some rv):AFn Tryz.prog 40 [] [] (gG [lL 1 rv.net.places QmE,lL 6 rv.net.arcs Qas.enc,lL 14 rv.types Qak.enc,lL 16 rv.orders Qai.enc,lL 2 rv.apart QaO.enc,lL 2 rv.before QaO.enc]) []:=by
 refine QaQ Tryz.func40 (by kernel_rfl) (by kernel_rfl) (fun Γ=>?_)
 unfold Qmm at h
 obtain rfl:=Option.some.inj h
 exact gr 12 [] [hW 18,hH (.frz 3),hH (.nilS 7 5 2),hH (.frz 4),hH (.nilS 10 5 2),hW 8,hH (.frz 6),hW 9,hH (.frz 8),hW 7,hH (.frz 1),hH (.frz 5),hH (.frz 7),hH (.frz 9),hH (.nilB 0 4 2),hH (.nilB 0 5 2),rp 4 (oO (Eq.refl ([(Qan.mk 0 10)].map Qan.enc).length)),rp 4 (oO (Eq.refl ([1].map QaM).length)),rp 6 (oO (Eq.refl ([QDa,QDb].map QmE).length)),rp 4 (oO (Eq.refl ([(Qas.mk 0 1 0 3 [(Qan.mk 0 10)] []),(Qas.mk 1 0 0 3 [(Qan.mk 0 10)] [])].map Qas.enc).length)),rp 4 (oO (Eq.refl ([(Qak.mk QDd 1 0 0 [1] 0 0 0 100 100 0 0 1 0)].map Qak.enc).length)),rp 4 (oO (Eq.refl ([(Qai.mk QDc [1] (Qaw.mk 0 0 90 0) (Qaw.mk 1 0 90 0) 0 (-1) 1 (-1) (-1) false)].map Qai.enc).length))]
theorem Qa7 {rv:Bool} (h:QaS=some rv):AFn Tryz.prog 14 [] [] (one (.bool rv)) []:=by
 refine QaQ Tryz.func14 (by kernel_rfl) (by kernel_rfl) (fun Γ=>?_)
 unfold QaS at h
 obtain ⟨r,h0,h⟩:=Qae h
 obtain ⟨r1,h1,h⟩:=Qae h
 obtain ⟨r2,h2,h⟩:=Qae h
 obtain ⟨r3,h3,h⟩:=Qae h
 obtain ⟨r4,h4,h⟩:=Qae h
 rcases Qah h with ⟨h5,h⟩|⟨h5,h⟩
 ·obtain rfl:=Option.some.inj h
  exact gr 20 [] [cC (Qhl h0),hW 17,hH (.frz 3),hH (.frz 4),rp 2 (oO (Eq.refl ([false].map QaI).length)),rp 2 (oO (Eq.refl ([(Qaa.mk 0 false)].map Qaa.enc).length)),cC (Qbd h1),hW 13,hH (.frz 6),hH (.frz 7),rp 2 (oO (Eq.refl ([false,false].map QaI).length)),rp 2 (oO (Eq.refl ([(Qaa.mk 0 false)].map Qaa.enc).length)),cC (Qbd h2),hW 10,hH (.nilS 35 2 1),hH (.nilS 35 3 2),cC (Qbd h3),hW 14,hH (.frz 10),hH (.frz 11),hW 1,hH (.frz 12),rp 2 (oO (Eq.refl ([false,false,false].map QaI).length)),rp 2 (oO (Eq.refl ([(Qaa.mk 0 false),(Qaa.mk 0 true)].map Qaa.enc).length)),oO (Eq.refl ([(Qac.mk 0 0 [false,false,false] [(Qaa.mk 0 false),(Qaa.mk 0 true)])].map Qac.enc).length),cC (QjQ h4),rp 13 hP,oI ((neI r1.2 0)=false),oR True ((neI r1.2 0)=false),oI (((neI r1.2 0)||(neI r2.2 24))=false),oR True (((neI r1.2 0)||(neI r2.2 24))=false),oI ((((neI r1.2 0)||(neI r2.2 24))||(neI r3.2 2))=false),oR True ((((neI r1.2 0)||(neI r2.2 24))||(neI r3.2 2))=false),rp 3 (oI (((((neI r1.2 0)||(neI r2.2 24))||(neI r3.2 2))||(neI r4.2 0))=false)),nL Qaa.enc r1.1.route.visits,rp 4 hP,oI (((((neI r1.2 0)||(neI r2.2 24))||(neI r3.2 2))||(neI r4.2 0))=false),oR True (((((neI r1.2 0)||(neI r2.2 24))||(neI r3.2 2))||(neI r4.2 0))=false),oI ((((((neI r1.2 0)||(neI r2.2 24))||(neI r3.2 2))||(neI r4.2 0))||(neI (lenI r1.1.route.visits) 2))=false),nL Qaf.enc r4.1,hP,hP,oI ((((((neI r1.2 0)||(neI r2.2 24))||(neI r3.2 2))||(neI r4.2 0))||(neI (lenI r1.1.route.visits) 2))=false),oR True ((((((neI r1.2 0)||(neI r2.2 24))||(neI r3.2 2))||(neI r4.2 0))||(neI (lenI r1.1.route.visits) 2))=false),bT h5]
 ·obtain ⟨x0,h6,h⟩:=Qae h
  rcases Qah h with ⟨h7,h⟩|⟨h7,h⟩
  ·obtain ⟨x1,h8,h⟩:=Qae h
   rcases Qah h with ⟨h9,h⟩|⟨h9,h⟩
   ·obtain rfl:=Option.some.inj h
    exact gr 21 [] [cC (Qhl h0),hW 17,hH (.frz 3),hH (.frz 4),rp 2 (oO (Eq.refl ([false].map QaI).length)),rp 2 (oO (Eq.refl ([(Qaa.mk 0 false)].map Qaa.enc).length)),cC (Qbd h1),hW 13,hH (.frz 6),hH (.frz 7),rp 2 (oO (Eq.refl ([false,false].map QaI).length)),rp 2 (oO (Eq.refl ([(Qaa.mk 0 false)].map Qaa.enc).length)),cC (Qbd h2),hW 10,hH (.nilS 35 2 1),hH (.nilS 35 3 2),cC (Qbd h3),hW 14,hH (.frz 10),hH (.frz 11),hW 1,hH (.frz 12),rp 2 (oO (Eq.refl ([false,false,false].map QaI).length)),rp 2 (oO (Eq.refl ([(Qaa.mk 0 false),(Qaa.mk 0 true)].map Qaa.enc).length)),oO (Eq.refl ([(Qac.mk 0 0 [false,false,false] [(Qaa.mk 0 false),(Qaa.mk 0 true)])].map Qac.enc).length),cC (QjQ h4),rp 13 hP,oI ((neI r1.2 0)=false),oR True ((neI r1.2 0)=false),oI (((neI r1.2 0)||(neI r2.2 24))=false),oR True (((neI r1.2 0)||(neI r2.2 24))=false),oI ((((neI r1.2 0)||(neI r2.2 24))||(neI r3.2 2))=false),oR True ((((neI r1.2 0)||(neI r2.2 24))||(neI r3.2 2))=false),rp 3 (oI (((((neI r1.2 0)||(neI r2.2 24))||(neI r3.2 2))||(neI r4.2 0))=false)),nL Qaa.enc r1.1.route.visits,rp 4 hP,oI (((((neI r1.2 0)||(neI r2.2 24))||(neI r3.2 2))||(neI r4.2 0))=false),oR True (((((neI r1.2 0)||(neI r2.2 24))||(neI r3.2 2))||(neI r4.2 0))=false),oI ((((((neI r1.2 0)||(neI r2.2 24))||(neI r3.2 2))||(neI r4.2 0))||(neI (lenI r1.1.route.visits) 2))=false),nL Qaf.enc r4.1,hP,hP,oI ((((((neI r1.2 0)||(neI r2.2 24))||(neI r3.2 2))||(neI r4.2 0))||(neI (lenI r1.1.route.visits) 2))=false),oR True ((((((neI r1.2 0)||(neI r2.2 24))||(neI r3.2 2))||(neI r4.2 0))||(neI (lenI r1.1.route.visits) 2))=false),bF h5,hH (.draw 29 []),cE Qaa.enc h6,rp 4 hP,rp 2 (oI ((eqI x0.order 0&&(eqB x0.drop true&&true))=true)),oR True ((eqI x0.order 0&&(eqB x0.drop true&&true))=true),bT h7,bT h7,cE Qaf.enc h8,rp 4 (bT h7),bT h9,bT h9,cE Qaf.enc h8,rp 4 (bT h9),nL QaI x1.route.rests,bT h9,bT h9]
   ·obtain rfl:=Option.some.inj h
    exact gr 21 [] [cC (Qhl h0),hW 17,hH (.frz 3),hH (.frz 4),rp 2 (oO (Eq.refl ([false].map QaI).length)),rp 2 (oO (Eq.refl ([(Qaa.mk 0 false)].map Qaa.enc).length)),cC (Qbd h1),hW 13,hH (.frz 6),hH (.frz 7),rp 2 (oO (Eq.refl ([false,false].map QaI).length)),rp 2 (oO (Eq.refl ([(Qaa.mk 0 false)].map Qaa.enc).length)),cC (Qbd h2),hW 10,hH (.nilS 35 2 1),hH (.nilS 35 3 2),cC (Qbd h3),hW 14,hH (.frz 10),hH (.frz 11),hW 1,hH (.frz 12),rp 2 (oO (Eq.refl ([false,false,false].map QaI).length)),rp 2 (oO (Eq.refl ([(Qaa.mk 0 false),(Qaa.mk 0 true)].map Qaa.enc).length)),oO (Eq.refl ([(Qac.mk 0 0 [false,false,false] [(Qaa.mk 0 false),(Qaa.mk 0 true)])].map Qac.enc).length),cC (QjQ h4),rp 13 hP,oI ((neI r1.2 0)=false),oR True ((neI r1.2 0)=false),oI (((neI r1.2 0)||(neI r2.2 24))=false),oR True (((neI r1.2 0)||(neI r2.2 24))=false),oI ((((neI r1.2 0)||(neI r2.2 24))||(neI r3.2 2))=false),oR True ((((neI r1.2 0)||(neI r2.2 24))||(neI r3.2 2))=false),rp 3 (oI (((((neI r1.2 0)||(neI r2.2 24))||(neI r3.2 2))||(neI r4.2 0))=false)),nL Qaa.enc r1.1.route.visits,rp 4 hP,oI (((((neI r1.2 0)||(neI r2.2 24))||(neI r3.2 2))||(neI r4.2 0))=false),oR True (((((neI r1.2 0)||(neI r2.2 24))||(neI r3.2 2))||(neI r4.2 0))=false),oI ((((((neI r1.2 0)||(neI r2.2 24))||(neI r3.2 2))||(neI r4.2 0))||(neI (lenI r1.1.route.visits) 2))=false),nL Qaf.enc r4.1,hP,hP,oI ((((((neI r1.2 0)||(neI r2.2 24))||(neI r3.2 2))||(neI r4.2 0))||(neI (lenI r1.1.route.visits) 2))=false),oR True ((((((neI r1.2 0)||(neI r2.2 24))||(neI r3.2 2))||(neI r4.2 0))||(neI (lenI r1.1.route.visits) 2))=false),bF h5,hH (.draw 29 []),cE Qaa.enc h6,rp 4 hP,rp 2 (oI ((eqI x0.order 0&&(eqB x0.drop true&&true))=true)),oR True ((eqI x0.order 0&&(eqB x0.drop true&&true))=true),bT h7,bT h7,cE Qaf.enc h8,rp 4 (bT h7),rp 8 (bF h9)]
  ·obtain rfl:=Option.some.inj h
   exact gr 21 [] [cC (Qhl h0),hW 17,hH (.frz 3),hH (.frz 4),rp 2 (oO (Eq.refl ([false].map QaI).length)),rp 2 (oO (Eq.refl ([(Qaa.mk 0 false)].map Qaa.enc).length)),cC (Qbd h1),hW 13,hH (.frz 6),hH (.frz 7),rp 2 (oO (Eq.refl ([false,false].map QaI).length)),rp 2 (oO (Eq.refl ([(Qaa.mk 0 false)].map Qaa.enc).length)),cC (Qbd h2),hW 10,hH (.nilS 35 2 1),hH (.nilS 35 3 2),cC (Qbd h3),hW 14,hH (.frz 10),hH (.frz 11),hW 1,hH (.frz 12),rp 2 (oO (Eq.refl ([false,false,false].map QaI).length)),rp 2 (oO (Eq.refl ([(Qaa.mk 0 false),(Qaa.mk 0 true)].map Qaa.enc).length)),oO (Eq.refl ([(Qac.mk 0 0 [false,false,false] [(Qaa.mk 0 false),(Qaa.mk 0 true)])].map Qac.enc).length),cC (QjQ h4),rp 13 hP,oI ((neI r1.2 0)=false),oR True ((neI r1.2 0)=false),oI (((neI r1.2 0)||(neI r2.2 24))=false),oR True (((neI r1.2 0)||(neI r2.2 24))=false),oI ((((neI r1.2 0)||(neI r2.2 24))||(neI r3.2 2))=false),oR True ((((neI r1.2 0)||(neI r2.2 24))||(neI r3.2 2))=false),rp 3 (oI (((((neI r1.2 0)||(neI r2.2 24))||(neI r3.2 2))||(neI r4.2 0))=false)),nL Qaa.enc r1.1.route.visits,rp 4 hP,oI (((((neI r1.2 0)||(neI r2.2 24))||(neI r3.2 2))||(neI r4.2 0))=false),oR True (((((neI r1.2 0)||(neI r2.2 24))||(neI r3.2 2))||(neI r4.2 0))=false),oI ((((((neI r1.2 0)||(neI r2.2 24))||(neI r3.2 2))||(neI r4.2 0))||(neI (lenI r1.1.route.visits) 2))=false),nL Qaf.enc r4.1,hP,hP,oI ((((((neI r1.2 0)||(neI r2.2 24))||(neI r3.2 2))||(neI r4.2 0))||(neI (lenI r1.1.route.visits) 2))=false),oR True ((((((neI r1.2 0)||(neI r2.2 24))||(neI r3.2 2))||(neI r4.2 0))||(neI (lenI r1.1.route.visits) 2))=false),bF h5,hH (.draw 29 []),cE Qaa.enc h6,rp 4 hP,rp 2 (oI ((eqI x0.order 0&&(eqB x0.drop true&&true))=true)),oR True ((eqI x0.order 0&&(eqB x0.drop true&&true))=true),rp 6 (bF h7),rp 8 fF]
def QhY (Γ:Gam) (rv:Bool) (cf:Cf):Prop:=Go Tryz.prog Tryz.f15 [] Γ (one (.bool rv)) [] cf
def Qlf (Γ:Gam) (rv:Bool) (x0:Qad) (b:Qac) (v:Int) (x1:Qaa) (v1:Int):Prop:=QhY Γ rv ⟨[.c 59804,.l 59804,.b 2,.b 1,.c 935,.l 116,.b 0,.c 15],⟨73,[vP 2 0 6,vP 3 1 4,vP 6 2 2,vL 42 2 b.visits Qaa.enc,vI 43 (lenI b.visits),vI 44 v,vI 60 v,vI 61 v1],[oX 6 30 (Qad.enc x0),oX 4 37 (Qac.enc b),oX 2 54 (Qaa.enc x1)]⟩⟩
def Qkv (Γ:Gam) (rv:Bool) (x0:Qad) (b:Qac) (v:Int) (x1:Qaa):Prop:=QhY Γ rv ⟨[.b 1,.c 935,.l 116,.b 0,.c 15],⟨73,[vP 2 0 6,vP 3 1 4,vL 42 2 b.visits Qaa.enc,vI 43 (lenI b.visits),vI 44 v],[oX 6 30 (Qad.enc x0),oX 4 37 (Qac.enc b)]⟩⟩
def Qle (Γ:Gam) (rv:Bool) (x0:Qad) (b:Qac) (v:Int):Prop:=QhY Γ rv ⟨[.c 116,.l 116,.b 0,.c 15],⟨73,[vP 2 0 6,vP 3 1 4,vL 42 2 b.visits Qaa.enc,vI 43 (lenI b.visits),vI 44 v],[oX 6 30 (Qad.enc x0),oX 4 37 (Qac.enc b)]⟩⟩
def Qku (Γ:Gam) (rv:Bool) (x0:Qad) (b:Qac):Prop:=QhY Γ rv ⟨[.c 15],⟨73,[],[]⟩⟩
theorem Qrb (Γ:Gam) (rv:Bool) {x0 b v x1} {s:Int} {e:(Unit)⊕(Bool)} (h:QaW (fun s=>Qcu x0 b v x1 s) s=some e) (hD:sel e (fun e=>Qkv Γ rv x0 b v x1) (fun e=>e=rv)):Qlf Γ rv x0 b v x1 s:=by
 refine QaA (C:=fun (s:Int)=>Qlf Γ rv x0 b v x1 s) (D:=fun (e:(Unit)⊕(Bool))=>sel e (fun e=>Qkv Γ rv x0 b v x1) (fun e=>e=rv)) ?_ h hD
 clear h hD s e
 intro v1 z_ h hI hE
 replace h:Qcu x0 b v x1 v1=_:=h
 unfold Qcu at h
 rcases Qah h with ⟨h4,h⟩|⟨h4,h⟩
 ·obtain ⟨x2,h5,h⟩:=Qae h
  rcases Qah h with ⟨h6,h⟩|⟨h6,h⟩
  ·obtain rfl:=(hE _ (oJ h):_=rv)
   exact gr 14 [] [bT h4,hH (.draw 7 []),cE Qaa.enc h5,bT h6]
  ·exact gn 16 [2,3,6,42,43,44,60,61] [0,1,2] [bT h4,hH (.draw 7 []),cE Qaa.enc h5,bF h6] (hI _ (oJ h))
 ·exact gn 5 [2,3,42,43,44] [0,1] [bF h4] (hE _ (oJ h))
theorem Qra (Γ:Gam) (rv:Bool) {x0 b} {s:Int} {e:(Unit)⊕(Bool)} (h:QaW (fun s=>Qct x0 b s) s=some e) (hD:sel e (fun e=>Qku Γ rv x0 b) (fun e=>e=rv)):Qle Γ rv x0 b s:=by
 refine QaA (C:=fun (s:Int)=>Qle Γ rv x0 b s) (D:=fun (e:(Unit)⊕(Bool))=>sel e (fun e=>Qku Γ rv x0 b) (fun e=>e=rv)) ?_ h hD
 clear h hD s e
 intro v z_ h hI hE
 replace h:Qct x0 b v=_:=h
 unfold Qct at h
 rcases Qah h with ⟨h1,h⟩|⟨h1,h⟩
 ·obtain ⟨x1,h2,h⟩:=Qae h
  rcases Qah h with ⟨h3,h⟩|⟨h3,h⟩
  ·obtain rfl:=(hE _ (oJ h):_=rv)
   exact gr 15 [] [bT h1,cE Qaa.enc h2,rp 5 hP,rp 3 (oI ((ltI x1.order 0)=false)),nL Qai.enc x0.orders,hP,hP,rp 2 (oI ((ltI x1.order 0)=false)),oR True ((ltI x1.order 0)=false),bT h3]
  ·obtain ⟨e0,h7,h⟩:=Qae h
   refine gn 18 [2,3,6,42,43,44,60,61] [0,1,2] [bT h1,cE Qaa.enc h2,rp 5 hP,rp 3 (oI ((ltI x1.order 0)=false)),nL Qai.enc x0.orders,hP,hP,rp 2 (oI ((ltI x1.order 0)=false)),oR True ((ltI x1.order 0)=false),bF h3] (Qrb Γ rv h7 ?_)
   rcases e0 with e0|e0
   ·replace h:(some (.inl (addK .i64 v 1)):Option ((Int)⊕((Unit)⊕(Bool))))=some _:=h
    exact gn 3 [2,3,42,43,44] [0,1] [] (hI _ (oJ h))
   ·obtain ⟨r,rfl⟩:∃ x,x=e0:=⟨_,rfl⟩
    replace h:(some (.inr (.inr r)):Option ((Int)⊕((Unit)⊕(Bool))))=some _:=h
    exact (hE _ (oJ h):_=rv)
 ·exact gn 5 [] [] [bF h1] (hE _ (oJ h))
theorem QbR {x0 b} {rv:Bool} (h:Qfm x0 b=some rv):AFn Tryz.prog 15 [.agg (Qad.enc x0),.agg (Qac.enc b)] [] (one (.bool rv)) []:=by
 refine QaQ Tryz.func15 (by kernel_rfl) (by kernel_rfl) (fun Γ=>?_)
 unfold Qfm at h
 rcases Qah h with ⟨h0,h⟩|⟨h0,h⟩
 ·obtain rfl:=Option.some.inj h
  exact gr 8 [] [rp 5 hP,rp 3 (oI ((ltI b.type_ 0)=false)),nL Qak.enc x0.types,rp 13 hP,rp 2 (oI ((ltI b.type_ 0)=false)),oR True ((ltI b.type_ 0)=false),rp 2 (oI (((ltI b.type_ 0)||(geI b.type_ (lenI x0.types)))=false)),oR True (((ltI b.type_ 0)||(geI b.type_ (lenI x0.types)))=false),rp 2 (oI ((((ltI b.type_ 0)||(geI b.type_ (lenI x0.types)))||(ltI b.start 0))=false)),oR True ((((ltI b.type_ 0)||(geI b.type_ (lenI x0.types)))||(ltI b.start 0))=false),rp 2 (oI (((((ltI b.type_ 0)||(geI b.type_ (lenI x0.types)))||(ltI b.start 0))||(gtI b.start 4096))=false)),nL Qaa.enc b.visits,rp 5 hP,oI (((((ltI b.type_ 0)||(geI b.type_ (lenI x0.types)))||(ltI b.start 0))||(gtI b.start 4096))=false),oR True (((((ltI b.type_ 0)||(geI b.type_ (lenI x0.types)))||(ltI b.start 0))||(gtI b.start 4096))=false),rp 2 (oI ((((((ltI b.type_ 0)||(geI b.type_ (lenI x0.types)))||(ltI b.start 0))||(gtI b.start 4096))||(gtI (lenI b.visits) 6))=false)),nL QaI b.rests,hP,hP,oI ((((((ltI b.type_ 0)||(geI b.type_ (lenI x0.types)))||(ltI b.start 0))||(gtI b.start 4096))||(gtI (lenI b.visits) 6))=false),oR True ((((((ltI b.type_ 0)||(geI b.type_ (lenI x0.types)))||(ltI b.start 0))||(gtI b.start 4096))||(gtI (lenI b.visits) 6))=false),bT h0]
 ·obtain ⟨e1,h8,h⟩:=Qae h
  refine gn 12 [2,3,42,43,44] [0,1] [rp 5 hP,rp 3 (oI ((ltI b.type_ 0)=false)),nL Qak.enc x0.types,rp 13 hP,rp 2 (oI ((ltI b.type_ 0)=false)),oR True ((ltI b.type_ 0)=false),rp 2 (oI (((ltI b.type_ 0)||(geI b.type_ (lenI x0.types)))=false)),oR True (((ltI b.type_ 0)||(geI b.type_ (lenI x0.types)))=false),rp 2 (oI ((((ltI b.type_ 0)||(geI b.type_ (lenI x0.types)))||(ltI b.start 0))=false)),oR True ((((ltI b.type_ 0)||(geI b.type_ (lenI x0.types)))||(ltI b.start 0))=false),rp 2 (oI (((((ltI b.type_ 0)||(geI b.type_ (lenI x0.types)))||(ltI b.start 0))||(gtI b.start 4096))=false)),nL Qaa.enc b.visits,rp 5 hP,oI (((((ltI b.type_ 0)||(geI b.type_ (lenI x0.types)))||(ltI b.start 0))||(gtI b.start 4096))=false),oR True (((((ltI b.type_ 0)||(geI b.type_ (lenI x0.types)))||(ltI b.start 0))||(gtI b.start 4096))=false),rp 2 (oI ((((((ltI b.type_ 0)||(geI b.type_ (lenI x0.types)))||(ltI b.start 0))||(gtI b.start 4096))||(gtI (lenI b.visits) 6))=false)),nL QaI b.rests,hP,hP,oI ((((((ltI b.type_ 0)||(geI b.type_ (lenI x0.types)))||(ltI b.start 0))||(gtI b.start 4096))||(gtI (lenI b.visits) 6))=false),oR True ((((((ltI b.type_ 0)||(geI b.type_ (lenI x0.types)))||(ltI b.start 0))||(gtI b.start 4096))||(gtI (lenI b.visits) 6))=false),bF h0,nL Qaa.enc b.visits] (Qra Γ rv h8 ?_)
  rcases e1 with e1|e1
  ·replace h:(some true:Option Bool)=some _:=h
   obtain rfl:=Option.some.inj h
   exact gr 2 [] []
  ·obtain ⟨r1,rfl⟩:∃ x,x=e1:=⟨_,rfl⟩
   replace h:(some r1:Option Bool)=some _:=h
   exact Option.some.inj h
def QdE (Γ:Gam) (rv:Bool) (cf:Cf):Prop:=Go Tryz.prog Tryz.f45 [] Γ (one (.bool rv)) [] cf
def Qja (Γ:Gam) (rv:Bool) (a:List Qac) (b:List Qac) (i:Int) (k:Int):Prop:=QdE Γ rv ⟨[.c 29844,.l 29844,.b 2,.c 3731,.b 1,.c 467,.l 116,.b 0,.c 15],⟨127,[vL 0 4 a Qac.enc,vL 1 4 b Qac.enc,vI 5 i,vI 6 k],[]⟩⟩
def QiS (Γ:Gam) (rv:Bool) (a:List Qac) (b:List Qac) (i:Int):Prop:=QdE Γ rv ⟨[.c 3731,.b 1,.c 467,.l 116,.b 0,.c 15],⟨127,[vL 0 4 a Qac.enc,vL 1 4 b Qac.enc,vI 5 i],[]⟩⟩
def Qjb (Γ:Gam) (rv:Bool) (a:List Qac) (b:List Qac) (i:Int) (k1:Int):Prop:=QdE Γ rv ⟨[.c 29852,.l 29852,.b 4,.b 1,.c 467,.l 116,.b 0,.c 15],⟨127,[vL 0 4 a Qac.enc,vL 1 4 b Qac.enc,vI 5 i,vI 7 k1],[]⟩⟩
def QiT (Γ:Gam) (rv:Bool) (a:List Qac) (b:List Qac) (i:Int):Prop:=QdE Γ rv ⟨[.b 1,.c 467,.l 116,.b 0,.c 15],⟨127,[vL 0 4 a Qac.enc,vL 1 4 b Qac.enc,vI 5 i],[]⟩⟩
def Qi9 (Γ:Gam) (rv:Bool) (a:List Qac) (b:List Qac) (i:Int):Prop:=QdE Γ rv ⟨[.c 116,.l 116,.b 0,.c 15],⟨127,[vL 0 4 a Qac.enc,vL 1 4 b Qac.enc,vI 5 i],[]⟩⟩
def QiR (Γ:Gam) (rv:Bool) (a:List Qac) (b:List Qac):Prop:=QdE Γ rv ⟨[.c 15],⟨127,[],[]⟩⟩
theorem QoF (Γ:Gam) (rv:Bool) {a b i} {s:Int} {e:(Unit)⊕(Bool)} (h:QaW (fun s=>QbL a b i s) s=some e) (hD:sel e (fun e=>QiS Γ rv a b i) (fun e=>e=rv)):Qja Γ rv a b i s:=by
 refine QaA (C:=fun (s:Int)=>Qja Γ rv a b i s) (D:=fun (e:(Unit)⊕(Bool))=>sel e (fun e=>QiS Γ rv a b i) (fun e=>e=rv)) ?_ h hD
 clear h hD s e
 intro k z_ h hI hE
 replace h:QbL a b i k=_:=h
 unfold QbL at h
 obtain ⟨x2,h8,h⟩:=Qae h
 rcases Qah h with ⟨h9,h⟩|⟨h9,h⟩
 ·obtain ⟨x3,h10,h⟩:=Qae h
  obtain ⟨x4,h11,h⟩:=Qae h
  obtain ⟨x5,h12,h⟩:=Qae h
  rcases Qah h with ⟨h13,h⟩|⟨h13,h⟩
  ·exact gn 14 [0,1,5,6] [] [cE Qac.enc h8,nL Qaa.enc x2.visits,bT h9,hH (.draw 17 []),cE Qac.enc h8,cE Qaa.enc h10,cE Qac.enc h11,cE Qaa.enc h12,nF h13] (hI _ (oJ h))
  ·obtain rfl:=(hE _ (oJ h):_=rv)
   exact gr 12 [] [cE Qac.enc h8,nL Qaa.enc x2.visits,bT h9,hH (.draw 17 []),cE Qac.enc h8,cE Qaa.enc h10,cE Qac.enc h11,cE Qaa.enc h12,nT h13]
 ·exact gn 5 [0,1,5] [] [cE Qac.enc h8,nL Qaa.enc x2.visits,bF h9] (hE _ (oJ h))
theorem QoG (Γ:Gam) (rv:Bool) {a b i} {s:Int} {e:(Unit)⊕(Bool)} (h:QaW (fun s=>Qby a b i s) s=some e) (hD:sel e (fun e=>QiT Γ rv a b i) (fun e=>e=rv)):Qjb Γ rv a b i s:=by
 refine QaA (C:=fun (s:Int)=>Qjb Γ rv a b i s) (D:=fun (e:(Unit)⊕(Bool))=>sel e (fun e=>QiT Γ rv a b i) (fun e=>e=rv)) ?_ h hD
 clear h hD s e
 intro k1 z_ h hI hE
 replace h:Qby a b i k1=_:=h
 unfold Qby at h
 obtain ⟨x6,h15,h⟩:=Qae h
 rcases Qah h with ⟨h16,h⟩|⟨h16,h⟩
 ·obtain ⟨x7,h17,h⟩:=Qae h
  obtain ⟨x8,h18,h⟩:=Qae h
  obtain ⟨x9,h19,h⟩:=Qae h
  rcases Qah h with ⟨h20,h⟩|⟨h20,h⟩
  ·exact gn 14 [0,1,5,7] [] [cE Qac.enc h15,nL QaI x6.rests,bT h16,hH (.draw 17 []),cE Qac.enc h15,cE QaI h17,cE Qac.enc h18,cE QaI h19,nF h20] (hI _ (oJ h))
  ·obtain rfl:=(hE _ (oJ h):_=rv)
   exact gr 12 [] [cE Qac.enc h15,nL QaI x6.rests,bT h16,hH (.draw 17 []),cE Qac.enc h15,cE QaI h17,cE Qac.enc h18,cE QaI h19,nT h20]
 ·exact gn 5 [0,1,5] [] [cE Qac.enc h15,nL QaI x6.rests,bF h16] (hE _ (oJ h))
theorem QoE (Γ:Gam) (rv:Bool) {a b} {s:Int} {e:(Unit)⊕(Bool)} (h:QaW (fun s=>QbK a b s) s=some e) (hD:sel e (fun e=>QiR Γ rv a b) (fun e=>e=rv)):Qi9 Γ rv a b s:=by
 refine QaA (C:=fun (s:Int)=>Qi9 Γ rv a b s) (D:=fun (e:(Unit)⊕(Bool))=>sel e (fun e=>QiR Γ rv a b) (fun e=>e=rv)) ?_ h hD
 clear h hD s e
 intro i z_ h hI hE
 replace h:QbK a b i=_:=h
 unfold QbK at h
 rcases Qah h with ⟨h1,h⟩|⟨h1,h⟩
 ·obtain ⟨x0,h2,h⟩:=Qae h
  obtain ⟨x1,h3,h⟩:=Qae h
  rcases Qah h with ⟨h4,h⟩|⟨h4,h⟩
  ·obtain rfl:=(hE _ (oJ h):_=rv)
   exact gr 13 [] [nL Qac.enc a,bT h1,hH (.draw 54 []),cE Qac.enc h2,cE Qac.enc h3,rp 12 (bT h4),rp 29 tT]
  ·rcases Qah h with ⟨h5,h⟩|⟨h5,h⟩
   ·obtain rfl:=(hE _ (oJ h):_=rv)
    exact gr 13 [] [nL Qac.enc a,bT h1,hH (.draw 54 []),cE Qac.enc h2,cE Qac.enc h3,rp 3 (bF h4),cE Qac.enc h2,rp 5 (bF h4),cE Qac.enc h3,rp 4 (bF h4),rp 14 (bT h5),rp 15 tT]
   ·rcases Qah h with ⟨h6,h⟩|⟨h6,h⟩
    ·obtain rfl:=(hE _ (oJ h):_=rv)
     exact gr 13 [] [nL Qac.enc a,bT h1,hH (.draw 54 []),cE Qac.enc h2,cE Qac.enc h3,rp 3 (bF h4),cE Qac.enc h2,rp 5 (bF h4),cE Qac.enc h3,rp 4 (bF h4),rp 3 (bF h5),cE Qac.enc h2,rp 3 (bF h5),nL Qaa.enc x0.visits,rp 3 (bF h5),cE Qac.enc h3,rp 3 (bF h5),nL Qaa.enc x1.visits,bF h5,bF h5,rp 14 (bT h6),tT]
    ·rcases Qah h with ⟨h7,h⟩|⟨h7,h⟩
     ·obtain rfl:=(hE _ (oJ h):_=rv)
      exact gr 13 [] [nL Qac.enc a,bT h1,hH (.draw 54 []),cE Qac.enc h2,cE Qac.enc h3,rp 3 (bF h4),cE Qac.enc h2,rp 5 (bF h4),cE Qac.enc h3,rp 4 (bF h4),rp 3 (bF h5),cE Qac.enc h2,rp 3 (bF h5),nL Qaa.enc x0.visits,rp 3 (bF h5),cE Qac.enc h3,rp 3 (bF h5),nL Qaa.enc x1.visits,bF h5,bF h5,rp 3 (bF h6),cE Qac.enc h2,rp 3 (bF h6),nL QaI x0.rests,rp 3 (bF h6),cE Qac.enc h3,rp 3 (bF h6),nL QaI x1.rests,bF h6,bF h6,bT h7]
     ·obtain ⟨e0,h14,h⟩:=Qae h
      refine gn 17 [0,1,5,6] [] [nL Qac.enc a,bT h1,hH (.draw 54 []),cE Qac.enc h2,cE Qac.enc h3,rp 3 (bF h4),cE Qac.enc h2,rp 5 (bF h4),cE Qac.enc h3,rp 4 (bF h4),rp 3 (bF h5),cE Qac.enc h2,rp 3 (bF h5),nL Qaa.enc x0.visits,rp 3 (bF h5),cE Qac.enc h3,rp 3 (bF h5),nL Qaa.enc x1.visits,bF h5,bF h5,rp 3 (bF h6),cE Qac.enc h2,rp 3 (bF h6),nL QaI x0.rests,rp 3 (bF h6),cE Qac.enc h3,rp 3 (bF h6),nL QaI x1.rests,bF h6,bF h6,bF h7] (QoF Γ rv h14 ?_)
      rcases e0 with e0|e0
      ·replace h:(bnd (QaW (fun s=>Qby a b i s) 0) (fun e=>sel e (fun (_:Unit)=>some (.inl (addK .i64 i 1))) (fun r=>some (.inr (.inr r)))):Option ((Int)⊕((Unit)⊕(Bool))))=some _:=h
       obtain ⟨e1,h21,h⟩:=Qae h
       refine gn 4 [0,1,5,7] [] [] (QoG Γ rv h21 ?_)
       rcases e1 with e1|e1
       ·replace h:(some (.inl (addK .i64 i 1)):Option ((Int)⊕((Unit)⊕(Bool))))=some _:=h
        exact gn 3 [0,1,5] [] [] (hI _ (oJ h))
       ·obtain ⟨r,rfl⟩:∃ x,x=e1:=⟨_,rfl⟩
        replace h:(some (.inr (.inr r)):Option ((Int)⊕((Unit)⊕(Bool))))=some _:=h
        exact (hE _ (oJ h):_=rv)
      ·obtain ⟨r1,rfl⟩:∃ x,x=e0:=⟨_,rfl⟩
       replace h:(some (.inr (.inr r1)):Option ((Int)⊕((Unit)⊕(Bool))))=some _:=h
       exact (hE _ (oJ h):_=rv)
 ·exact gn 5 [] [] [nL Qac.enc a,bF h1] (hE _ (oJ h))
theorem QqC {a b} {rv:Bool} (h:Qfo a b=some rv):AFn Tryz.prog 45 [.one (lL 4 a Qac.enc),.one (lL 4 b Qac.enc)] [] (one (.bool rv)) []:=by
 refine QaQ Tryz.func45 (by kernel_rfl) (by kernel_rfl) (fun Γ=>?_)
 unfold Qfo at h
 rcases Qah h with ⟨h0,h⟩|⟨h0,h⟩
 ·obtain rfl:=Option.some.inj h
  exact gr 8 [] [nL Qac.enc a,nL Qac.enc b,bT h0]
 ·obtain ⟨e2,h22,h⟩:=Qae h
  refine gn 12 [0,1,5] [] [nL Qac.enc a,nL Qac.enc b,bF h0] (QoE Γ rv h22 ?_)
  rcases e2 with e2|e2
  ·replace h:(some true:Option Bool)=some _:=h
   obtain rfl:=Option.some.inj h
   exact gr 2 [] []
  ·obtain ⟨r2,rfl⟩:∃ x,x=e2:=⟨_,rfl⟩
   replace h:(some r2:Option Bool)=some _:=h
   exact Option.some.inj h
theorem QfP {a b} {rv:Bool} (h:QeK a b=some rv):AFn Tryz.prog 18 [.agg (Qaf.enc a),.agg (Qaf.enc b)] [] (one (.bool rv)) []:=by
 refine QaQ Tryz.func18 (by kernel_rfl) (by kernel_rfl) (fun Γ=>?_)
 unfold QeK at h
 rcases Qah h with ⟨h0,h⟩|⟨h0,h⟩
 ·obtain ⟨r,h1,h⟩:=Qae h
  obtain rfl:=Option.some.inj h
  exact gr 4 [] [rp 12 hP,rp 4 (oI ((eqI a.type_ b.type_)=true)),oR True ((eqI a.type_ b.type_)=true),rp 4 (oI (((eqI a.type_ b.type_)&&(eqI a.set_ b.set_))=true)),oR True (((eqI a.type_ b.type_)&&(eqI a.set_ b.set_))=true),rp 7 (bT h0),oO (Eq.refl ([a.route].map Qac.enc).length),oO (Eq.refl ([b.route].map Qac.enc).length),cC (QqC h1),bT h0]
 ·obtain rfl:=Option.some.inj h
  exact gr 4 [] [rp 12 hP,rp 4 (oI ((eqI a.type_ b.type_)=true)),oR True ((eqI a.type_ b.type_)=true),rp 4 (oI (((eqI a.type_ b.type_)&&(eqI a.set_ b.set_))=true)),oR True (((eqI a.type_ b.type_)&&(eqI a.set_ b.set_))=true),rp 8 (bF h0)]
def QfC (Γ:Gam) (rv:Bool) (cf:Cf):Prop:=Go Tryz.prog Tryz.f102 [] Γ (one (.bool rv)) [] cf
def QeZ (Γ:Gam) (rv:Bool) (s1:List Qaa) (s2:List Qaa) (v:Int):Prop:=QfC Γ rv ⟨[.c 116,.l 116,.b 0,.c 15],⟨26,[vL 0 2 s1 Qaa.enc,vL 1 2 s2 Qaa.enc,vI 12 (lenI s1),vI 13 v],[]⟩⟩
def QeB (Γ:Gam) (rv:Bool) (s1:List Qaa) (s2:List Qaa):Prop:=QfC Γ rv ⟨[.c 15],⟨26,[],[]⟩⟩
theorem Qia (Γ:Gam) (rv:Bool) {s1 s2} {s:Int} {e:(Unit)⊕(Bool)} (h:QaW (fun s=>QaY s1 s2 s) s=some e) (hD:sel e (fun e=>QeB Γ rv s1 s2) (fun e=>e=rv)):QeZ Γ rv s1 s2 s:=by
 refine QaA (C:=fun (s:Int)=>QeZ Γ rv s1 s2 s) (D:=fun (e:(Unit)⊕(Bool))=>sel e (fun e=>QeB Γ rv s1 s2) (fun e=>e=rv)) ?_ h hD
 clear h hD s e
 intro v z_ h hI hE
 replace h:QaY s1 s2 v=_:=h
 unfold QaY at h
 rcases Qah h with ⟨h1,h⟩|⟨h1,h⟩
 ·obtain ⟨x0,h2,h⟩:=Qae h
  obtain ⟨x1,h3,h⟩:=Qae h
  rcases Qah h with ⟨h4,h⟩|⟨h4,h⟩
  ·exact gn 16 [0,1,12,13] [] [bT h1,hH (.draw 9 []),cE Qaa.enc h2,cE Qaa.enc h3,nF h4] (hI _ (oJ h))
  ·obtain rfl:=(hE _ (oJ h):_=rv)
   exact gr 14 [] [bT h1,hH (.draw 9 []),cE Qaa.enc h2,cE Qaa.enc h3,nT h4]
 ·exact gn 5 [] [] [bF h1] (hE _ (oJ h))
theorem Qi0 {s1 s2} {rv:Bool} (h:QbW s1 s2=some rv):AFn Tryz.prog 102 [.one (lL 2 s1 Qaa.enc),.one (lL 2 s2 Qaa.enc)] [] (one (.bool rv)) []:=by
 refine QaQ Tryz.func102 (by kernel_rfl) (by kernel_rfl) (fun Γ=>?_)
 unfold QbW at h
 rcases Qah h with ⟨h0,h⟩|⟨h0,h⟩
 ·obtain rfl:=Option.some.inj h
  exact gr 8 [] [nL Qaa.enc s1,nL Qaa.enc s2,bT h0]
 ·obtain ⟨e0,h5,h⟩:=Qae h
  refine gn 12 [0,1,12,13] [] [nL Qaa.enc s1,nL Qaa.enc s2,bF h0,nL Qaa.enc s1] (Qia Γ rv h5 ?_)
  rcases e0 with e0|e0
  ·replace h:(some true:Option Bool)=some _:=h
   obtain rfl:=Option.some.inj h
   exact gr 2 [] []
  ·obtain ⟨r,rfl⟩:∃ x,x=e0:=⟨_,rfl⟩
   replace h:(some r:Option Bool)=some _:=h
   exact Option.some.inj h
theorem Qga {l first_} {rv:Bool} (h:Qd1 l first_=some rv):AFn Tryz.prog 152 [.one (lL 2 l Qaa.enc),.one (lL 2 first_ Qaa.enc)] [] (one (.bool rv)) []:=by
 refine QaQ Tryz.func152 (by kernel_rfl) (by kernel_rfl) (fun Γ=>?_)
 unfold Qd1 at h
 rcases Qah h with ⟨h0,h⟩|⟨h0,h⟩
 ·obtain ⟨l1,h1,h⟩:=Qae h
  obtain ⟨r,h2,h⟩:=Qae h
  obtain rfl:=Option.some.inj h
  exact gr 4 [] [nL Qaa.enc l,nL Qaa.enc first_,rp 3 (bT h0),nL Qaa.enc first_,bT h0,hH (.rows (l1.map Qaa.enc)),oO (sl1 h1),oO (sl2 h1),oO (sl3 Qaa.enc h1),oO (Int.le_refl (lenI first_)),oO (sl3 Qaa.enc h1),oO (sl6 Qaa.enc h1),bT h0,bT h0,cC (Qi0 h2),bT h0]
 ·obtain rfl:=Option.some.inj h
  exact gr 4 [] [nL Qaa.enc l,nL Qaa.enc first_,rp 7 (bF h0)]
def QiU (Γ:Gam) (rv:Bool) (cf:Cf):Prop:=Go Tryz.prog Tryz.f65 [] Γ (one (.bool rv)) [] cf
def QhH (Γ:Gam) (rv:Bool) (s1:List Bool) (s2:List Bool) (v:Int):Prop:=QiU Γ rv ⟨[.c 116,.l 116,.b 0,.c 15],⟨26,[vL 0 1 s1 QaI,vL 1 1 s2 QaI,vI 12 (lenI s1),vI 13 v],[]⟩⟩
def Qhh (Γ:Gam) (rv:Bool) (s1:List Bool) (s2:List Bool):Prop:=QiU Γ rv ⟨[.c 15],⟨26,[],[]⟩⟩
theorem Qmi (Γ:Gam) (rv:Bool) {s1 s2} {s:Int} {e:(Unit)⊕(Bool)} (h:QaW (fun s=>Qbo s1 s2 s) s=some e) (hD:sel e (fun e=>Qhh Γ rv s1 s2) (fun e=>e=rv)):QhH Γ rv s1 s2 s:=by
 refine QaA (C:=fun (s:Int)=>QhH Γ rv s1 s2 s) (D:=fun (e:(Unit)⊕(Bool))=>sel e (fun e=>Qhh Γ rv s1 s2) (fun e=>e=rv)) ?_ h hD
 clear h hD s e
 intro v z_ h hI hE
 replace h:Qbo s1 s2 v=_:=h
 unfold Qbo at h
 rcases Qah h with ⟨h1,h⟩|⟨h1,h⟩
 ·obtain ⟨x0,h2,h⟩:=Qae h
  obtain ⟨x1,h3,h⟩:=Qae h
  rcases Qah h with ⟨h4,h⟩|⟨h4,h⟩
  ·exact gn 16 [0,1,12,13] [] [bT h1,hH (.draw 9 []),cE QaI h2,cE QaI h3,nF h4] (hI _ (oJ h))
  ·obtain rfl:=(hE _ (oJ h):_=rv)
   exact gr 14 [] [bT h1,hH (.draw 9 []),cE QaI h2,cE QaI h3,nT h4]
 ·exact gn 5 [] [] [bF h1] (hE _ (oJ h))
theorem Qot {s1 s2} {rv:Bool} (h:QdW s1 s2=some rv):AFn Tryz.prog 65 [.one (lL 1 s1 QaI),.one (lL 1 s2 QaI)] [] (one (.bool rv)) []:=by
 refine QaQ Tryz.func65 (by kernel_rfl) (by kernel_rfl) (fun Γ=>?_)
 unfold QdW at h
 rcases Qah h with ⟨h0,h⟩|⟨h0,h⟩
 ·obtain rfl:=Option.some.inj h
  exact gr 8 [] [nL QaI s1,nL QaI s2,bT h0]
 ·obtain ⟨e0,h5,h⟩:=Qae h
  refine gn 12 [0,1,12,13] [] [nL QaI s1,nL QaI s2,bF h0,nL QaI s1] (Qmi Γ rv h5 ?_)
  rcases e0 with e0|e0
  ·replace h:(some true:Option Bool)=some _:=h
   obtain rfl:=Option.some.inj h
   exact gr 2 [] []
  ·obtain ⟨r,rfl⟩:∃ x,x=e0:=⟨_,rfl⟩
   replace h:(some r:Option Bool)=some _:=h
   exact Option.some.inj h
theorem Qlc {l first_} {rv:Bool} (h:Qgi l first_=some rv):AFn Tryz.prog 153 [.one (lL 1 l QaI),.one (lL 1 first_ QaI)] [] (one (.bool rv)) []:=by
 refine QaQ Tryz.func153 (by kernel_rfl) (by kernel_rfl) (fun Γ=>?_)
 unfold Qgi at h
 rcases Qah h with ⟨h0,h⟩|⟨h0,h⟩
 ·obtain ⟨l1,h1,h⟩:=Qae h
  obtain ⟨r,h2,h⟩:=Qae h
  obtain rfl:=Option.some.inj h
  exact gr 4 [] [nL QaI l,nL QaI first_,rp 3 (bT h0),nL QaI first_,bT h0,hH (.rows (l1.map QaI)),oO (sl1 h1),oO (sl2 h1),oO (sl3 QaI h1),oO (Int.le_refl (lenI first_)),oO (sl3 QaI h1),oO (sl6 QaI h1),bT h0,bT h0,cC (Qot h2),bT h0]
 ·obtain rfl:=Option.some.inj h
  exact gr 4 [] [nL QaI l,nL QaI first_,rp 7 (bF h0)]
theorem QnA {r b} {rv:Bool} (h:Qla r b=some rv):AFn Tryz.prog 105 [.agg (Qac.enc r),.agg (Qac.enc b)] [] (one (.bool rv)) []:=by
 refine QaQ Tryz.func105 (by kernel_rfl) (by kernel_rfl) (fun Γ=>?_)
 unfold Qla at h
 rcases Qah h with ⟨h0,h⟩|⟨h0,h⟩
 ·obtain rfl:=Option.some.inj h
  exact gr 8 [] [rp 6 hP,rp 4 (oI ((neI r.type_ b.type_)=false)),oR True ((neI r.type_ b.type_)=false),rp 7 (bT h0),rp 8 tT]
 ·obtain ⟨r1,h1,h⟩:=Qae h
  rcases Qah h with ⟨h2,h⟩|⟨h2,h⟩
  ·obtain ⟨r2,h3,h⟩:=Qae h
   rcases Qah h with ⟨h4,h⟩|⟨h4,h⟩
   ·obtain rfl:=Option.some.inj h
    exact gr 11 [] [rp 6 hP,rp 4 (oI ((neI r.type_ b.type_)=false)),oR True ((neI r.type_ b.type_)=false),rp 5 (bF h0),cC (Qga h1),bF h0,bF h0,rp 5 (nF h2),cC (Qlc h3),nF h2,nF h2,nF h4,nL QaI b.rests,nL Qaa.enc b.visits,hP,hP,hP,rp 2 (oI ((!(gtI (lenI b.rests) (lenI b.visits)))=false)),nL Qaa.enc r.visits,hP,hP,hP,rp 2 (oI ((!(gtI (lenI b.rests) (lenI b.visits)))=false)),nL Qaa.enc b.visits,rp 5 hP,rp 3 (oI ((!(gtI (lenI b.rests) (lenI b.visits)))=false)),rp 2 (oI (((!(gtI (lenI b.rests) (lenI b.visits)))=false)∧(eqI (lenI r.visits) (lenI b.visits))=true)),nL QaI r.rests,hP,hP,hP,rp 2 (oI (((!(gtI (lenI b.rests) (lenI b.visits)))=false)∧(eqI (lenI r.visits) (lenI b.visits))=true)),nL QaI b.rests,rp 4 hP,rp 2 (oI (((!(gtI (lenI b.rests) (lenI b.visits)))=false)∧(eqI (lenI r.visits) (lenI b.visits))=true)),oI ((!(gtI (lenI b.rests) (lenI b.visits)))=false),oI (((!(gtI (lenI b.rests) (lenI b.visits)))=false)∧(eqI (lenI r.visits) (lenI b.visits))=true),oR True ((!(gtI (lenI b.rests) (lenI b.visits)))=false)]
   ·obtain rfl:=Option.some.inj h
    exact gr 8 [] [rp 6 hP,rp 4 (oI ((neI r.type_ b.type_)=false)),oR True ((neI r.type_ b.type_)=false),rp 5 (bF h0),cC (Qga h1),bF h0,bF h0,rp 5 (nF h2),cC (Qlc h3),nF h2,nF h2,nT h4]
  ·obtain rfl:=Option.some.inj h
   exact gr 8 [] [rp 6 hP,rp 4 (oI ((neI r.type_ b.type_)=false)),oR True ((neI r.type_ b.type_)=false),rp 5 (bF h0),cC (Qga h1),bF h0,bF h0,rp 7 (nT h2),tT]
theorem QpJ {w c} {rv:Bool} (h:Qk6 w c=some rv):AFn Tryz.prog 155 [.agg (Qaa.enc w),.one (.ip (Qaa.enc c) 0)] [] (one (.bool rv)) []:=by
 refine QaQ Tryz.func155 (by kernel_rfl) (by kernel_rfl) (fun Γ=>?_)
 unfold Qk6 at h
 obtain rfl:=Option.some.inj h
 exact gr 4 [] []
def Qds (Γ:Gam) (rv:Int) (cf:Cf):Prop:=Go Tryz.prog Tryz.f166 [] Γ (one (lI rv)) [] cf
def QcX (Γ:Gam) (rv:Int) (s0:List Qaa) (c:Qaa) (v:Int):Prop:=Qds Γ rv ⟨[.c 52,.l 52,.b 0,.c 7],⟨19,[vL 0 2 s0 Qaa.enc,(1,one (.fn (.func 155) [.ip (Qaa.enc c) 0])),vI 7 (lenI s0),vI 8 v],[]⟩⟩
def QcS (Γ:Gam) (rv:Int) (s0:List Qaa) (c:Qaa):Prop:=Qds Γ rv ⟨[.c 7],⟨19,[],[]⟩⟩
theorem Qfz (Γ:Gam) (rv:Int) {s0 c} {s:Int} {e:(Unit)⊕(Int)} (h:QaW (fun s=>QaD s0 c s) s=some e) (hD:sel e (fun e=>QcS Γ rv s0 c) (fun e=>e=rv)):QcX Γ rv s0 c s:=by
 refine QaA (C:=fun (s:Int)=>QcX Γ rv s0 c s) (D:=fun (e:(Unit)⊕(Int))=>sel e (fun e=>QcS Γ rv s0 c) (fun e=>e=rv)) ?_ h hD
 clear h hD s e
 intro v z_ h hI hE
 replace h:QaD s0 c v=_:=h
 unfold QaD at h
 rcases Qah h with ⟨h0,h⟩|⟨h0,h⟩
 ·obtain ⟨x0,h1,h⟩:=Qae h
  obtain ⟨r,h2,h⟩:=Qae h
  rcases Qah h with ⟨h3,h⟩|⟨h3,h⟩
  ·obtain rfl:=(hE _ (oJ h):_=rv)
   exact gr 14 [] [bT h0,cE Qaa.enc h1,cC (QpJ h2),bT h3]
  ·exact gn 16 [0,1,7,8] [] [bT h0,cE Qaa.enc h1,cC (QpJ h2),bF h3] (hI _ (oJ h))
 ·exact gn 5 [] [] [bF h0] (hE _ (oJ h))
theorem Qf8 {s0 c} {rv:Int} (h:Qbg s0 c=some rv):AFn Tryz.prog 166 [.one (lL 2 s0 Qaa.enc),.one (.fn (.func 155) [.ip (Qaa.enc c) 0])] [] (one (lI rv)) []:=by
 refine QaQ Tryz.func166 (by kernel_rfl) (by kernel_rfl) (fun Γ=>?_)
 unfold Qbg at h
 obtain ⟨e0,h4,h⟩:=Qae h
 refine gn 7 [0,1,7,8] [] [nL Qaa.enc s0] (Qfz Γ rv h4 ?_)
 rcases e0 with e0|e0
 ·replace h:(some (-1):Option Int)=some _:=h
  obtain rfl:=Option.some.inj h
  exact gr 2 [] []
 ·obtain ⟨r1,rfl⟩:∃ x,x=e0:=⟨_,rfl⟩
  replace h:(some r1:Option Int)=some _:=h
  exact Option.some.inj h
theorem Qfx {s0 c} {rv:Bool} (h:Qbp s0 c=some rv):AFn Tryz.prog 116 [.one (lL 2 s0 Qaa.enc),.one (.fn (.func 155) [.ip (Qaa.enc c) 0])] [] (one (.bool rv)) []:=by
 refine QaQ Tryz.func116 (by kernel_rfl) (by kernel_rfl) (fun Γ=>?_)
 unfold Qbp at h
 obtain ⟨r,h0,h⟩:=Qae h
 obtain rfl:=Option.some.inj h
 exact gr 4 [] [cC (Qf8 h0)]
theorem QrA {v c} {rv:Bool} (h:Qlb v c=some rv):AFn Tryz.prog 154 [.agg (Qaa.enc v),.one (.ip (Qac.enc c) 0)] [] (one (.bool rv)) []:=by
 refine QaQ Tryz.func154 (by kernel_rfl) (by kernel_rfl) (fun Γ=>?_)
 unfold Qlb at h
 obtain ⟨r,h0,h⟩:=Qae h
 obtain rfl:=Option.some.inj h
 exact gr 4 [] [cC (Qfx h0)]
def QdI (Γ:Gam) (rv:Int) (cf:Cf):Prop:=Go Tryz.prog Tryz.f166 [] Γ (one (lI rv)) [] cf
def Qdf (Γ:Gam) (rv:Int) (s0:List Qaa) (c:Qac) (v:Int):Prop:=QdI Γ rv ⟨[.c 52,.l 52,.b 0,.c 7],⟨19,[vL 0 2 s0 Qaa.enc,(1,one (.fn (.func 154) [.ip (Qac.enc c) 0])),vI 7 (lenI s0),vI 8 v],[]⟩⟩
def Qc4 (Γ:Gam) (rv:Int) (s0:List Qaa) (c:Qac):Prop:=QdI Γ rv ⟨[.c 7],⟨19,[],[]⟩⟩
theorem Qf2 (Γ:Gam) (rv:Int) {s0 c} {s:Int} {e:(Unit)⊕(Int)} (h:QaW (fun s=>QaJ s0 c s) s=some e) (hD:sel e (fun e=>Qc4 Γ rv s0 c) (fun e=>e=rv)):Qdf Γ rv s0 c s:=by
 refine QaA (C:=fun (s:Int)=>Qdf Γ rv s0 c s) (D:=fun (e:(Unit)⊕(Int))=>sel e (fun e=>Qc4 Γ rv s0 c) (fun e=>e=rv)) ?_ h hD
 clear h hD s e
 intro v z_ h hI hE
 replace h:QaJ s0 c v=_:=h
 unfold QaJ at h
 rcases Qah h with ⟨h0,h⟩|⟨h0,h⟩
 ·obtain ⟨x0,h1,h⟩:=Qae h
  obtain ⟨r,h2,h⟩:=Qae h
  rcases Qah h with ⟨h3,h⟩|⟨h3,h⟩
  ·obtain rfl:=(hE _ (oJ h):_=rv)
   exact gr 14 [] [bT h0,cE Qaa.enc h1,cC (QrA h2),bT h3]
  ·exact gn 16 [0,1,7,8] [] [bT h0,cE Qaa.enc h1,cC (QrA h2),bF h3] (hI _ (oJ h))
 ·exact gn 5 [] [] [bF h0] (hE _ (oJ h))
theorem QgF {s0 c} {rv:Int} (h:Qbk s0 c=some rv):AFn Tryz.prog 166 [.one (lL 2 s0 Qaa.enc),.one (.fn (.func 154) [.ip (Qac.enc c) 0])] [] (one (lI rv)) []:=by
 refine QaQ Tryz.func166 (by kernel_rfl) (by kernel_rfl) (fun Γ=>?_)
 unfold Qbk at h
 obtain ⟨e0,h4,h⟩:=Qae h
 refine gn 7 [0,1,7,8] [] [nL Qaa.enc s0] (Qf2 Γ rv h4 ?_)
 rcases e0 with e0|e0
 ·replace h:(some (-1):Option Int)=some _:=h
  obtain rfl:=Option.some.inj h
  exact gr 2 [] []
 ·obtain ⟨r1,rfl⟩:∃ x,x=e0:=⟨_,rfl⟩
  replace h:(some r1:Option Int)=some _:=h
  exact Option.some.inj h
theorem Qf1 {s0 c} {rv:Bool} (h:Qbu s0 c=some rv):AFn Tryz.prog 116 [.one (lL 2 s0 Qaa.enc),.one (.fn (.func 154) [.ip (Qac.enc c) 0])] [] (one (.bool rv)) []:=by
 refine QaQ Tryz.func116 (by kernel_rfl) (by kernel_rfl) (fun Γ=>?_)
 unfold Qbu at h
 obtain ⟨r,h0,h⟩:=Qae h
 obtain rfl:=Option.some.inj h
 exact gr 4 [] [cC (QgF h0)]
theorem Qt3 {a b} {rv:Bool} (h:QpI a b=some rv):AFn Tryz.prog 106 [.agg (Qac.enc a),.agg (Qac.enc b)] [] (one (.bool rv)) []:=by
 refine QaQ Tryz.func106 (by kernel_rfl) (by kernel_rfl) (fun Γ=>?_)
 unfold QpI at h
 obtain ⟨r,h0,h⟩:=Qae h
 obtain rfl:=Option.some.inj h
 exact gr 4 [] [cC (Qf1 h0)]
def Qnk (Γ:Gam) (rv:Int) (cf:Cf):Prop:=Go Tryz.prog Tryz.f68 [] Γ (one (lI rv)) [] cf
def QqP (Γ:Gam) (rv:Int) (p:Qek) (l:List Qac) (v:Int) (x0:Qac) (n:Int) (v1:Int):Prop:=Qnk Γ rv ⟨[.c 54068,.l 54068,.b 2,.c 6759,.b 1,.c 423,.l 52,.b 0,.c 7],⟨37,[vP 2 0 2,vP 6 1 4,vI 7 n,vL 10 4 l Qac.enc,vI 11 (lenI l),vI 12 v,vL 17 4 p.routes Qac.enc,vI 18 (lenI p.routes),vI 19 v1],[oX 2 105 (Qek.enc p),oX 4 37 (Qac.enc x0)]⟩⟩
def QpH (Γ:Gam) (rv:Int) (p:Qek) (l:List Qac) (v:Int) (x0:Qac) (n1:Int):Prop:=Qnk Γ rv ⟨[.c 6759,.b 1,.c 423,.l 52,.b 0,.c 7],⟨37,[vP 2 0 2,vI 7 n1,vL 10 4 l Qac.enc,vI 11 (lenI l),vI 12 v],[oX 2 105 (Qek.enc p)]⟩⟩
def QqO (Γ:Gam) (rv:Int) (p:Qek) (l:List Qac) (v:Int):Prop:=Qnk Γ rv ⟨[.c 52,.l 52,.b 0,.c 7],⟨37,[vP 2 0 2,vL 10 4 l Qac.enc,vI 11 (lenI l),vI 12 v],[oX 2 105 (Qek.enc p)]⟩⟩
def QpG (Γ:Gam) (rv:Int) (p:Qek) (l:List Qac):Prop:=Qnk Γ rv ⟨[.c 7],⟨37,[],[]⟩⟩
theorem QuJ (Γ:Gam) (rv:Int) {p l v x0} {s:Int×Int} {e:(Int)⊕(Int)} (h:QaW (fun s=>QeH p l v x0 s.1 s.2) s=some e) (hD:sel e (fun e=>QpH Γ rv p l v x0 e) (fun e=>e=rv)):QqP Γ rv p l v x0 s.1 s.2:=by
 refine QaA (C:=fun (s:Int×Int)=>QqP Γ rv p l v x0 s.1 s.2) (D:=fun (e:(Int)⊕(Int))=>sel e (fun e=>QpH Γ rv p l v x0 e) (fun e=>e=rv)) ?_ h hD
 clear h hD s e
 rintro ⟨n,v1⟩ z_ h hI hE
 replace h:QeH p l v x0 n v1=_:=h
 unfold QeH at h
 rcases Qah h with ⟨h2,h⟩|⟨h2,h⟩
 ·obtain ⟨x1,h3,h⟩:=Qae h
  obtain ⟨r,h4,h⟩:=Qae h
  rcases Qah h with ⟨h5,h⟩|⟨h5,h⟩
  ·exact gn 18 [2,6,7,10,11,12,17,18,19] [0,1] [bT h2,cE Qac.enc h3,cC (QnA h4),bT h5] (hI _ (oJ h))
  ·obtain ⟨r1,h6,h⟩:=Qae h
   rcases Qah h with ⟨h7,h⟩|⟨h7,h⟩
   ·obtain rfl:=(hE _ (oJ h):_=rv)
    exact gr 18 [] [bT h2,cE Qac.enc h3,cC (QnA h4),bF h5,cC (Qt3 h6),bT h7]
   ·exact gn 21 [2,6,7,10,11,12,17,18,19] [0,1] [bT h2,cE Qac.enc h3,cC (QnA h4),bF h5,cC (Qt3 h6),bF h7] (hI _ (oJ h))
 ·exact gn 5 [2,7,10,11,12] [0] [bF h2] (hE _ (oJ h))
theorem QuI (Γ:Gam) (rv:Int) {p l} {s:Int} {e:(Unit)⊕(Int)} (h:QaW (fun s=>QeG p l s) s=some e) (hD:sel e (fun e=>QpG Γ rv p l) (fun e=>e=rv)):QqO Γ rv p l s:=by
 refine QaA (C:=fun (s:Int)=>QqO Γ rv p l s) (D:=fun (e:(Unit)⊕(Int))=>sel e (fun e=>QpG Γ rv p l) (fun e=>e=rv)) ?_ h hD
 clear h hD s e
 intro v z_ h hI hE
 replace h:QeG p l v=_:=h
 unfold QeG at h
 rcases Qah h with ⟨h0,h⟩|⟨h0,h⟩
 ·obtain ⟨x0,h1,h⟩:=Qae h
  obtain ⟨e0,h8,h⟩:=Qae h
  refine gn 16 [2,6,7,10,11,12,17,18,19] [0,1] [bT h0,cE Qac.enc h1,nL Qac.enc p.routes] (QuJ Γ rv h8 ?_)
  rcases e0 with e0|e0
  ·obtain ⟨n1,rfl⟩:∃ x,x=e0:=⟨_,rfl⟩
   replace h:(br (neI n1 1) (some (.inr (.inr 31))) (some (.inl (addK .i64 v 1))):Option ((Int)⊕((Unit)⊕(Int))))=some _:=h
   rcases Qah h with ⟨h9,h⟩|⟨h9,h⟩
   ·obtain rfl:=(hE _ (oJ h):_=rv)
    exact gr 5 [] [bT h9]
   ·exact gn 7 [2,10,11,12] [0] [bF h9] (hI _ (oJ h))
  ·obtain ⟨r2,rfl⟩:∃ x,x=e0:=⟨_,rfl⟩
   replace h:(some (.inr (.inr r2)):Option ((Int)⊕((Unit)⊕(Int))))=some _:=h
   exact (hE _ (oJ h):_=rv)
 ·exact gn 5 [] [] [bF h0] (hE _ (oJ h))
theorem QwW {p l} {rv:Int} (h:Qnz p l=some rv):AFn Tryz.prog 68 [.agg (Qek.enc p),.one (lL 4 l Qac.enc)] [] (one (lI rv)) []:=by
 refine QaQ Tryz.func68 (by kernel_rfl) (by kernel_rfl) (fun Γ=>?_)
 unfold Qnz at h
 obtain ⟨e1,h10,h⟩:=Qae h
 refine gn 7 [2,10,11,12] [0] [nL Qac.enc l] (QuI Γ rv h10 ?_)
 rcases e1 with e1|e1
 ·replace h:(some 0:Option Int)=some _:=h
  obtain rfl:=Option.some.inj h
  exact gr 2 [] []
 ·obtain ⟨r3,rfl⟩:∃ x,x=e1:=⟨_,rfl⟩
  replace h:(some r3:Option Int)=some _:=h
  exact Option.some.inj h
theorem Qhb {r begin} {rv:Bool} (h:Qmc r begin=some rv):AFn Tryz.prog 36 [.agg (Qac.enc r),.agg (Qac.enc begin)] [] (one (.bool rv)) []:=by
 refine QaQ Tryz.func36 (by kernel_rfl) (by kernel_rfl) (fun Γ=>?_)
 unfold Qmc at h
 obtain ⟨r1,h0,h⟩:=Qae h
 obtain rfl:=Option.some.inj h
 exact gr 4 [] [hW 12,hH (.nilS 7 1 1),oO (Eq.refl ([r].map Qac.enc).length),oO (Eq.refl ([begin].map Qac.enc).length),cC (QwW h0)]
def Qh8 (Γ:Gam) (rv:Bool) (cf:Cf):Prop:=Go Tryz.prog Tryz.f69 [] Γ (one (.bool rv)) [] cf
def Ql6 (Γ:Gam) (rv:Bool) (r:Qac) (begin:Qac) (i:Int):Prop:=Qh8 Γ rv ⟨[.c 116,.l 116,.b 0,.c 15],⟨98,[vP 2 0 4,vP 3 1 4,vI 5 i],[oX 4 37 (Qac.enc r),oX 4 37 (Qac.enc begin)]⟩⟩
def QkP (Γ:Gam) (rv:Bool) (r:Qac) (begin:Qac):Prop:=Qh8 Γ rv ⟨[.c 15],⟨98,[vP 2 0 4,vP 3 1 4],[oX 4 37 (Qac.enc r),oX 4 37 (Qac.enc begin)]⟩⟩
def Ql7 (Γ:Gam) (rv:Bool) (r:Qac) (begin:Qac) (i1:Int):Prop:=Qh8 Γ rv ⟨[.c 244,.l 244,.b 2,.c 31],⟨98,[vP 2 0 4,vP 3 1 4,vI 6 i1],[oX 4 37 (Qac.enc r),oX 4 37 (Qac.enc begin)]⟩⟩
def QkQ (Γ:Gam) (rv:Bool) (r:Qac) (begin:Qac):Prop:=Qh8 Γ rv ⟨[.c 31],⟨98,[vP 2 0 4,vP 3 1 4],[oX 4 37 (Qac.enc r),oX 4 37 (Qac.enc begin)]⟩⟩
theorem Qrn (Γ:Gam) (rv:Bool) {r begin} {s:Int} {e:(Unit)⊕(Bool)} (h:QaW (fun s=>QcA r begin s) s=some e) (hD:sel e (fun e=>QkP Γ rv r begin) (fun e=>e=rv)):Ql6 Γ rv r begin s:=by
 refine QaA (C:=fun (s:Int)=>Ql6 Γ rv r begin s) (D:=fun (e:(Unit)⊕(Bool))=>sel e (fun e=>QkP Γ rv r begin) (fun e=>e=rv)) ?_ h hD
 clear h hD s e
 intro i z_ h hI hE
 replace h:QcA r begin i=_:=h
 unfold QcA at h
 rcases Qah h with ⟨h1,h⟩|⟨h1,h⟩
 ·obtain ⟨x0,h2,h⟩:=Qae h
  obtain ⟨x1,h3,h⟩:=Qae h
  rcases Qah h with ⟨h4,h⟩|⟨h4,h⟩
  ·exact gn 14 [2,3,5] [0,1] [nL Qaa.enc begin.visits,bT h1,hH (.draw 11 []),cE Qaa.enc h2,cE Qaa.enc h3,nF h4] (hI _ (oJ h))
  ·obtain rfl:=(hE _ (oJ h):_=rv)
   exact gr 12 [] [nL Qaa.enc begin.visits,bT h1,hH (.draw 11 []),cE Qaa.enc h2,cE Qaa.enc h3,nT h4]
 ·exact gn 5 [2,3] [0,1] [nL Qaa.enc begin.visits,bF h1] (hE _ (oJ h))
theorem Qro (Γ:Gam) (rv:Bool) {r begin} {s:Int} {e:(Unit)⊕(Bool)} (h:QaW (fun s=>Qb9 r begin s) s=some e) (hD:sel e (fun e=>QkQ Γ rv r begin) (fun e=>e=rv)):Ql7 Γ rv r begin s:=by
 refine QaA (C:=fun (s:Int)=>Ql7 Γ rv r begin s) (D:=fun (e:(Unit)⊕(Bool))=>sel e (fun e=>QkQ Γ rv r begin) (fun e=>e=rv)) ?_ h hD
 clear h hD s e
 intro i1 z_ h hI hE
 replace h:Qb9 r begin i1=_:=h
 unfold Qb9 at h
 rcases Qah h with ⟨h6,h⟩|⟨h6,h⟩
 ·obtain ⟨x2,h7,h⟩:=Qae h
  obtain ⟨x3,h8,h⟩:=Qae h
  rcases Qah h with ⟨h9,h⟩|⟨h9,h⟩
  ·exact gn 14 [2,3,6] [0,1] [nL QaI begin.rests,bT h6,hH (.draw 11 []),cE QaI h7,cE QaI h8,nF h9] (hI _ (oJ h))
  ·obtain rfl:=(hE _ (oJ h):_=rv)
   exact gr 12 [] [nL QaI begin.rests,bT h6,hH (.draw 11 []),cE QaI h7,cE QaI h8,nT h9]
 ·exact gn 5 [2,3] [0,1] [nL QaI begin.rests,bF h6] (hE _ (oJ h))
theorem QtF {r begin} {rv:Bool} (h:QhG r begin=some rv):AFn Tryz.prog 69 [.agg (Qac.enc r),.agg (Qac.enc begin)] [] (one (.bool rv)) []:=by
 refine QaQ Tryz.func69 (by kernel_rfl) (by kernel_rfl) (fun Γ=>?_)
 unfold QhG at h
 rcases Qah h with ⟨h0,h⟩|⟨h0,h⟩
 ·obtain rfl:=Option.some.inj h
  exact gr 8 [] [rp 9 hP,rp 4 (oI ((neI r.type_ begin.type_)=false)),oR True ((neI r.type_ begin.type_)=false),rp 2 (oI (((neI r.type_ begin.type_)||(neI r.start begin.start))=false)),nL Qaa.enc r.visits,hP,hP,hP,rp 2 (oI (((neI r.type_ begin.type_)||(neI r.start begin.start))=false)),nL Qaa.enc begin.visits,rp 5 hP,rp 2 (oI (((neI r.type_ begin.type_)||(neI r.start begin.start))=false)),oR True (((neI r.type_ begin.type_)||(neI r.start begin.start))=false),rp 2 (oI ((((neI r.type_ begin.type_)||(neI r.start begin.start))||(ltI (lenI r.visits) (lenI begin.visits)))=false)),nL QaI r.rests,hP,hP,hP,rp 2 (oI ((((neI r.type_ begin.type_)||(neI r.start begin.start))||(ltI (lenI r.visits) (lenI begin.visits)))=false)),nL QaI begin.rests,hP,hP,rp 2 (oI ((((neI r.type_ begin.type_)||(neI r.start begin.start))||(ltI (lenI r.visits) (lenI begin.visits)))=false)),oR True ((((neI r.type_ begin.type_)||(neI r.start begin.start))||(ltI (lenI r.visits) (lenI begin.visits)))=false),bT h0]
 ·obtain ⟨e0,h5,h⟩:=Qae h
  refine gn 12 [2,3,5] [0,1] [rp 9 hP,rp 4 (oI ((neI r.type_ begin.type_)=false)),oR True ((neI r.type_ begin.type_)=false),rp 2 (oI (((neI r.type_ begin.type_)||(neI r.start begin.start))=false)),nL Qaa.enc r.visits,hP,hP,hP,rp 2 (oI (((neI r.type_ begin.type_)||(neI r.start begin.start))=false)),nL Qaa.enc begin.visits,rp 5 hP,rp 2 (oI (((neI r.type_ begin.type_)||(neI r.start begin.start))=false)),oR True (((neI r.type_ begin.type_)||(neI r.start begin.start))=false),rp 2 (oI ((((neI r.type_ begin.type_)||(neI r.start begin.start))||(ltI (lenI r.visits) (lenI begin.visits)))=false)),nL QaI r.rests,hP,hP,hP,rp 2 (oI ((((neI r.type_ begin.type_)||(neI r.start begin.start))||(ltI (lenI r.visits) (lenI begin.visits)))=false)),nL QaI begin.rests,hP,hP,rp 2 (oI ((((neI r.type_ begin.type_)||(neI r.start begin.start))||(ltI (lenI r.visits) (lenI begin.visits)))=false)),oR True ((((neI r.type_ begin.type_)||(neI r.start begin.start))||(ltI (lenI r.visits) (lenI begin.visits)))=false),bF h0] (Qrn Γ rv h5 ?_)
  rcases e0 with e0|e0
  ·replace h:(bnd (QaW (fun s=>Qb9 r begin s) 0) (fun e=>sel e (fun (_:Unit)=>some ((leI (lenI begin.rests) (lenI begin.visits))||((eqI (lenI r.visits) (lenI begin.visits))&&(eqI (lenI r.rests) (lenI begin.rests))))) (fun r1=>some r1)):Option Bool)=some _:=h
   obtain ⟨e1,h10,h⟩:=Qae h
   refine gn 5 [2,3,6] [0,1] [] (Qro Γ rv h10 ?_)
   rcases e1 with e1|e1
   ·replace h:(some ((leI (lenI begin.rests) (lenI begin.visits))||((eqI (lenI r.visits) (lenI begin.visits))&&(eqI (lenI r.rests) (lenI begin.rests)))):Option Bool)=some _:=h
    obtain rfl:=Option.some.inj h
    exact gr 2 [] [nL QaI begin.rests,nL Qaa.enc begin.visits,hP,hP,hP,rp 2 (oI ((leI (lenI begin.rests) (lenI begin.visits))=false)),nL Qaa.enc r.visits,hP,hP,hP,rp 2 (oI ((leI (lenI begin.rests) (lenI begin.visits))=false)),nL Qaa.enc begin.visits,rp 5 hP,rp 3 (oI ((leI (lenI begin.rests) (lenI begin.visits))=false)),rp 2 (oI (((leI (lenI begin.rests) (lenI begin.visits))=false)∧(eqI (lenI r.visits) (lenI begin.visits))=true)),nL QaI r.rests,hP,hP,hP,rp 2 (oI (((leI (lenI begin.rests) (lenI begin.visits))=false)∧(eqI (lenI r.visits) (lenI begin.visits))=true)),nL QaI begin.rests,rp 4 hP,rp 2 (oI (((leI (lenI begin.rests) (lenI begin.visits))=false)∧(eqI (lenI r.visits) (lenI begin.visits))=true)),oI ((leI (lenI begin.rests) (lenI begin.visits))=false),oI (((leI (lenI begin.rests) (lenI begin.visits))=false)∧(eqI (lenI r.visits) (lenI begin.visits))=true),oR True ((leI (lenI begin.rests) (lenI begin.visits))=false)]
   ·obtain ⟨r1,rfl⟩:∃ x,x=e1:=⟨_,rfl⟩
    replace h:(some r1:Option Bool)=some _:=h
    exact Option.some.inj h
  ·obtain ⟨r2,rfl⟩:∃ x,x=e0:=⟨_,rfl⟩
   replace h:(some r2:Option Bool)=some _:=h
   exact Option.some.inj h
theorem Qev {r begin} {rv:Bool} (h:Qjl r begin=some rv):AFn Tryz.prog 37 [.agg (Qac.enc r),.agg (Qac.enc begin)] [] (one (.bool rv)) []:=by
 refine QaQ Tryz.func37 (by kernel_rfl) (by kernel_rfl) (fun Γ=>?_)
 unfold Qjl at h
 obtain ⟨r1,h0,h⟩:=Qae h
 obtain rfl:=Option.some.inj h
 exact gr 4 [] [cC (QtF h0)]
theorem Qcf {set_ i} {rv:Bool} (h:QeI set_ i=some rv):AFn Tryz.prog 62 [.one (lI set_),.one (lI i)] [] (one (.bool rv)) []:=by
 refine QaQ Tryz.func62 (by kernel_rfl) (by kernel_rfl) (fun Γ=>?_)
 unfold QeI at h
 rcases Qah h with ⟨h0,h⟩|⟨h0,h⟩
 ·obtain ⟨h1,h⟩:=Qau h
  obtain rfl:=Option.some.inj h
  exact gr 4 [] [rp 6 hP,oI ((geI set_ 0)=true),oR True ((geI set_ 0)=true),oI (((geI set_ 0)&&(geI i 0))=true),oR True (((geI set_ 0)&&(geI i 0))=true),rp 4 (bT h0),oO (h1),bT h0,oO (oA (n:=2)),bT h0,bT h0]
 ·obtain rfl:=Option.some.inj h
  exact gr 4 [] [rp 6 hP,oI ((geI set_ 0)=true),oR True ((geI set_ 0)=true),oI (((geI set_ 0)&&(geI i 0))=true),oR True (((geI set_ 0)&&(geI i 0))=true),rp 7 (bF h0)]
def QoT (Γ:Gam) (rv:Int×Int) (cf:Cf):Prop:=Go Tryz.prog Tryz.f30 [] Γ (.tup [.one (lI rv.1),.one (lI rv.2)]) [] cf
def QlU (Γ:Gam) (rv:Int×Int) (r:Qac) (set_:Int) (i:Int):Prop:=QoT Γ rv ⟨[.c 116,.l 116,.b 0,.c 15],⟨36,[vP 1 0 4,vI 4 set_,vI 5 i],[oX 4 37 (Qac.enc r)]⟩⟩
def QkI (Γ:Gam) (rv:Int×Int) (r:Qac) (set_1:Int):Prop:=QoT Γ rv ⟨[.c 15],⟨36,[vI 4 set_1],[]⟩⟩
theorem Qrh (Γ:Gam) (rv:Int×Int) {r} {s:Int×Int} {e:(Int)⊕(Int×Int)} (h:QaW (fun s=>Qes r s.1 s.2) s=some e) (hD:sel e (fun e=>QkI Γ rv r e) (fun e=>e=rv)):QlU Γ rv r s.1 s.2:=by
 refine QaA (C:=fun (s:Int×Int)=>QlU Γ rv r s.1 s.2) (D:=fun (e:(Int)⊕(Int×Int))=>sel e (fun e=>QkI Γ rv r e) (fun e=>e=rv)) ?_ h hD
 clear h hD s e
 rintro ⟨set_,i⟩ z_ h hI hE
 replace h:Qes r set_ i=_:=h
 unfold Qes at h
 rcases Qah h with ⟨h0,h⟩|⟨h0,h⟩
 ·obtain ⟨x0,h1,h⟩:=Qae h
  rcases Qah h with ⟨h2,h⟩|⟨h2,h⟩
  ·obtain rfl:=(hE _ (oJ h):_=rv)
   exact gr 15 [] [nL Qaa.enc r.visits,bT h0,cE Qaa.enc h1,hP,hP,hP,oI ((ltI x0.order 0)=false),oR True ((ltI x0.order 0)=false),bT h2]
  ·obtain ⟨r1,h3,h⟩:=Qae h
   rcases Qah h with ⟨h4,h⟩|⟨h4,h⟩
   ·exact gn 21 [1,4,5] [0] [nL Qaa.enc r.visits,bT h0,cE Qaa.enc h1,hP,hP,hP,oI ((ltI x0.order 0)=false),oR True ((ltI x0.order 0)=false),bF h2,cC (Qcf h3),nF h4] (hI _ (oJ h))
   ·obtain ⟨h5,h⟩:=Qau h
    exact gn 21 [1,4,5] [0] [nL Qaa.enc r.visits,bT h0,cE Qaa.enc h1,hP,hP,hP,oI ((ltI x0.order 0)=false),oR True ((ltI x0.order 0)=false),bF h2,cC (Qcf h3),nT h4,oO (h5)] (hI _ (oJ h))
 ·exact gn 5 [4] [] [nL Qaa.enc r.visits,bF h0] (hE _ (oJ h))
theorem QfY {r} {rv:Int×Int} (h:Qc8 r=some rv):AFn Tryz.prog 30 [.agg (Qac.enc r)] [] (.tup [.one (lI rv.1),.one (lI rv.2)]) []:=by
 refine QaQ Tryz.func30 (by kernel_rfl) (by kernel_rfl) (fun Γ=>?_)
 unfold Qc8 at h
 obtain ⟨e0,h6,h⟩:=Qae h
 refine gn 9 [1,4,5] [0] [] (Qrh Γ rv h6 ?_)
 rcases e0 with e0|e0
 ·obtain ⟨set_1,rfl⟩:∃ x,x=e0:=⟨_,rfl⟩
  replace h:(some (set_1,0):Option (Int×Int))=some _:=h
  obtain rfl:=Option.some.inj h
  exact gr 2 [] []
 ·obtain ⟨r2,rfl⟩:∃ x,x=e0:=⟨_,rfl⟩
  replace h:(some r2:Option (Int×Int))=some _:=h
  exact Option.some.inj h
def Qp0 (Γ:Gam) (rv:Int) (cf:Cf):Prop:=Go Tryz.prog Tryz.f139 [] Γ (one (lI rv)) [] cf
def QmX (Γ:Gam) (rv:Int) (l:List Qaa) (v:Qaa) (i:Int):Prop:=Qp0 Γ rv ⟨[.c 52,.l 52,.b 0,.c 7],⟨19,[vL 0 2 l Qaa.enc,vP 3 0 2,vI 5 i],[oX 2 54 (Qaa.enc v)]⟩⟩
def QlT (Γ:Gam) (rv:Int) (l:List Qaa) (v:Qaa):Prop:=Qp0 Γ rv ⟨[.c 7],⟨19,[],[]⟩⟩
theorem Qr2 (Γ:Gam) (rv:Int) {l v} {s:Int} {e:(Unit)⊕(Int)} (h:QaW (fun s=>QcP l v s) s=some e) (hD:sel e (fun e=>QlT Γ rv l v) (fun e=>e=rv)):QmX Γ rv l v s:=by
 refine QaA (C:=fun (s:Int)=>QmX Γ rv l v s) (D:=fun (e:(Unit)⊕(Int))=>sel e (fun e=>QlT Γ rv l v) (fun e=>e=rv)) ?_ h hD
 clear h hD s e
 intro i z_ h hI hE
 replace h:QcP l v i=_:=h
 unfold QcP at h
 rcases Qah h with ⟨h0,h⟩|⟨h0,h⟩
 ·obtain ⟨x0,h1,h⟩:=Qae h
  rcases Qah h with ⟨h2,h⟩|⟨h2,h⟩
  ·obtain rfl:=(hE _ (oJ h):_=rv)
   exact gr 12 [] [nL Qaa.enc l,bT h0,hH (.draw 6 []),cE Qaa.enc h1,bT h2]
  ·exact gn 14 [0,3,5] [0] [nL Qaa.enc l,bT h0,hH (.draw 6 []),cE Qaa.enc h1,bF h2] (hI _ (oJ h))
 ·exact gn 5 [] [] [nL Qaa.enc l,bF h0] (hE _ (oJ h))
theorem QbE {l v} {rv:Int} (h:Qc1 l v=some rv):AFn Tryz.prog 139 [.one (lL 2 l Qaa.enc),.agg (Qaa.enc v)] [] (one (lI rv)) []:=by
 refine QaQ Tryz.func139 (by kernel_rfl) (by kernel_rfl) (fun Γ=>?_)
 unfold Qc1 at h
 obtain ⟨e0,h3,h⟩:=Qae h
 refine gn 7 [0,3,5] [0] [] (Qr2 Γ rv h3 ?_)
 rcases e0 with e0|e0
 ·replace h:(some (-1):Option Int)=some _:=h
  obtain rfl:=Option.some.inj h
  exact gr 2 [] []
 ·obtain ⟨r,rfl⟩:∃ x,x=e0:=⟨_,rfl⟩
  replace h:(some r:Option Int)=some _:=h
  exact Option.some.inj h
def Quh (Γ:Gam) (rv:List Qaa) (cf:Cf):Prop:=Go Tryz.prog Tryz.f138 [] Γ (one (lL 2 rv Qaa.enc)) [] cf
theorem QkJ (Γ:Gam) (rv:List Qaa) {x0 order l} (h:Qet x0 order l=some rv):Quh Γ rv ⟨[.c 15],⟨33,[vI 1 order,vP 2 0 6,vO 5 1 2 l Qaa.enc],[oX 6 30 (Qad.enc x0),oS 2 54 l Qaa.enc]⟩⟩:=by
 unfold Qet at h
 obtain ⟨x2,h3,h⟩:=Qae h
 rcases Qah h with ⟨h4,h⟩|⟨h4,h⟩
 ·obtain ⟨h5,h⟩:=Qau h
  obtain rfl:=Option.some.inj h
  exact gr 7 [] [cE Qai.enc h3,bT h4,oO (Eq.refl ([(Qaa.mk order true)].map Qaa.enc).length),aO Qaa.enc h5,hW 5,hH (.frz 3),rp 4 (oO (Eq.refl ((l++[(Qaa.mk order true)]).map Qaa.enc).length))]
 ·obtain rfl:=Option.some.inj h
  exact gr 7 [] [cE Qai.enc h3,bF h4,hW 5,hH (.frz 1),rp 3 (eL l Qaa.enc)]
theorem QfZ {x0 order} {rv:List Qaa} (h:QhD x0 order=some rv):AFn Tryz.prog 138 [.agg (Qad.enc x0),.one (lI order)] [] (one (lL 2 rv Qaa.enc)) []:=by
 refine QaQ Tryz.func138 (by kernel_rfl) (by kernel_rfl) (fun Γ=>?_)
 unfold QhD at h
 obtain ⟨x1,h0,h⟩:=Qae h
 rcases Qah h with ⟨h1,h⟩|⟨h1,h⟩
 ·obtain ⟨h2,h⟩:=Qau h
  exact gn 9 [1,2,5] [0,2] [cE Qai.enc h0,bT h1,oO (Eq.refl ([(Qaa.mk order false)].map Qaa.enc).length),aN (l:=([(Qaa.mk order false)]:List Qaa)) Qaa.enc h2] (QkJ Γ rv h)
 ·exact gn 9 [1,2,5] [0,1] [cE Qai.enc h0,bF h1,hW 1,hH (.adopt 5 2 54)] (QkJ Γ rv h)
def QmZ (Γ:Gam) (rv:Bool) (cf:Cf):Prop:=Go Tryz.prog Tryz.f185 [] Γ (one (.bool rv)) [] cf
def Qj7 (Γ:Gam) (rv:Bool) (l:List Qaa) (some_:List Qaa) (i:Int):Prop:=QmZ Γ rv ⟨[.c 52,.l 52,.b 0,.c 7],⟨19,[vL 0 2 l Qaa.enc,vL 1 2 some_ Qaa.enc,vI 5 i],[]⟩⟩
def QjL (Γ:Gam) (rv:Bool) (l:List Qaa) (some_:List Qaa):Prop:=QmZ Γ rv ⟨[.c 7],⟨19,[],[]⟩⟩
theorem Qp2 (Γ:Gam) (rv:Bool) {l some_} {s:Int} {e:(Unit)⊕(Bool)} (h:QaW (fun s=>Qb6 l some_ s) s=some e) (hD:sel e (fun e=>QjL Γ rv l some_) (fun e=>e=rv)):Qj7 Γ rv l some_ s:=by
 refine QaA (C:=fun (s:Int)=>Qj7 Γ rv l some_ s) (D:=fun (e:(Unit)⊕(Bool))=>sel e (fun e=>QjL Γ rv l some_) (fun e=>e=rv)) ?_ h hD
 clear h hD s e
 intro i z_ h hI hE
 replace h:Qb6 l some_ i=_:=h
 unfold Qb6 at h
 rcases Qah h with ⟨h0,h⟩|⟨h0,h⟩
 ·obtain ⟨x0,h1,h⟩:=Qae h
  obtain ⟨r,h2,h⟩:=Qae h
  rcases Qah h with ⟨h3,h⟩|⟨h3,h⟩
  ·obtain rfl:=(hE _ (oJ h):_=rv)
   exact gr 12 [] [nL Qaa.enc some_,bT h0,cE Qaa.enc h1,cC (QbE h2),bT h3]
  ·exact gn 14 [0,1,5] [] [nL Qaa.enc some_,bT h0,cE Qaa.enc h1,cC (QbE h2),bF h3] (hI _ (oJ h))
 ·exact gn 5 [] [] [nL Qaa.enc some_,bF h0] (hE _ (oJ h))
theorem Qgw {l some_} {rv:Bool} (h:Qgv l some_=some rv):AFn Tryz.prog 185 [.one (lL 2 l Qaa.enc),.one (lL 2 some_ Qaa.enc)] [] (one (.bool rv)) []:=by
 refine QaQ Tryz.func185 (by kernel_rfl) (by kernel_rfl) (fun Γ=>?_)
 unfold Qgv at h
 obtain ⟨e0,h4,h⟩:=Qae h
 refine gn 7 [0,1,5] [] [] (Qp2 Γ rv h4 ?_)
 rcases e0 with e0|e0
 ·replace h:(some true:Option Bool)=some _:=h
  obtain rfl:=Option.some.inj h
  exact gr 2 [] []
 ·obtain ⟨r1,rfl⟩:∃ x,x=e0:=⟨_,rfl⟩
  replace h:(some r1:Option Bool)=some _:=h
  exact Option.some.inj h
def QoU (Γ:Gam) (rv:Bool) (cf:Cf):Prop:=Go Tryz.prog Tryz.f140 [] Γ (one (.bool rv)) [] cf
def QlZ (Γ:Gam) (rv:Bool) (x0:Qad) (l:List Qaa) (i:Int):Prop:=QoU Γ rv ⟨[.c 52,.l 52,.b 0,.c 7],⟨51,[vL 1 2 l Qaa.enc,vP 2 0 6,vI 5 i],[oX 6 30 (Qad.enc x0)]⟩⟩
def QkN (Γ:Gam) (rv:Bool) (x0:Qad) (l:List Qaa):Prop:=QoU Γ rv ⟨[.c 7],⟨51,[],[]⟩⟩
theorem Qrl (Γ:Gam) (rv:Bool) {x0 l} {s:Int} {e:(Unit)⊕(Bool)} (h:QaW (fun s=>Qcy x0 l s) s=some e) (hD:sel e (fun e=>QkN Γ rv x0 l) (fun e=>e=rv)):QlZ Γ rv x0 l s:=by
 refine QaA (C:=fun (s:Int)=>QlZ Γ rv x0 l s) (D:=fun (e:(Unit)⊕(Bool))=>sel e (fun e=>QkN Γ rv x0 l) (fun e=>e=rv)) ?_ h hD
 clear h hD s e
 intro i z_ h hI hE
 replace h:Qcy x0 l i=_:=h
 unfold Qcy at h
 rcases Qah h with ⟨h0,h⟩|⟨h0,h⟩
 ·obtain ⟨x1,h1,h⟩:=Qae h
  obtain ⟨r,h2,h⟩:=Qae h
  obtain ⟨r1,h3,h⟩:=Qae h
  rcases Qah h with ⟨h4,h⟩|⟨h4,h⟩
  ·obtain rfl:=(hE _ (oJ h):_=rv)
   exact gr 14 [] [nL Qaa.enc l,bT h0,hH (.draw 8 []),cE Qaa.enc h1,cC (QfZ h2),hH (.draw 31 []),cE Qaa.enc h1,cC (QbE h3),rp 5 (bT h4),rp 4 tT,rp 11 kF,tT,tT,tT]
  ·obtain ⟨r2,h5,h⟩:=Qae h
   rcases Qah h with ⟨h6,h⟩|⟨h6,h⟩
   ·rcases Qah h with ⟨h7,h⟩|⟨h7,h⟩
    ·obtain ⟨x2,h8,h⟩:=Qae h
     obtain ⟨r3,h9,h⟩:=Qae h
     obtain ⟨x3,h10,h⟩:=Qae h
     obtain ⟨r4,h11,h⟩:=Qae h
     rcases Qah h with ⟨h12,h⟩|⟨h12,h⟩
     ·obtain rfl:=(hE _ (oJ h):_=rv)
      exact gr 14 [] [nL Qaa.enc l,bT h0,hH (.draw 8 []),cE Qaa.enc h1,cC (QfZ h2),hH (.draw 31 []),cE Qaa.enc h1,cC (QbE h3),rp 3 (bF h4),cC (Qgw h5),bF h4,bF h4,nF h6,nF h6,nL Qaa.enc r,nF h6,nF h6,rp 3 (bT h7),cE Qaa.enc h8,bT h7,bT h7,cC (QbE h9),rp 3 (bT h7),cE Qaa.enc h10,bT h7,bT h7,cC (QbE h11),bT h7,nF h6,bT h7,nF h6,bT h12]
     ·exact gn 16 [1,2,5] [0] [nL Qaa.enc l,bT h0,hH (.draw 8 []),cE Qaa.enc h1,cC (QfZ h2),hH (.draw 31 []),cE Qaa.enc h1,cC (QbE h3),rp 3 (bF h4),cC (Qgw h5),bF h4,bF h4,nF h6,nF h6,nL Qaa.enc r,nF h6,nF h6,rp 3 (bT h7),cE Qaa.enc h8,bT h7,bT h7,cC (QbE h9),rp 3 (bT h7),cE Qaa.enc h10,bT h7,bT h7,cC (QbE h11),bT h7,nF h6,bT h7,nF h6,bF h12] (hI _ (oJ h))
    ·exact gn 16 [1,2,5] [0] [nL Qaa.enc l,bT h0,hH (.draw 8 []),cE Qaa.enc h1,cC (QfZ h2),hH (.draw 31 []),cE Qaa.enc h1,cC (QbE h3),rp 3 (bF h4),cC (Qgw h5),bF h4,bF h4,nF h6,nF h6,nL Qaa.enc r,nF h6,nF h6,rp 11 (bF h7),nF h6,bF h7,nF h6,fF] (hI _ (oJ h))
   ·obtain rfl:=(hE _ (oJ h):_=rv)
    exact gr 14 [] [nL Qaa.enc l,bT h0,hH (.draw 8 []),cE Qaa.enc h1,cC (QfZ h2),hH (.draw 31 []),cE Qaa.enc h1,cC (QbE h3),rp 3 (bF h4),cC (Qgw h5),bF h4,bF h4,rp 4 (nT h6),rp 11 kF,nT h6,nT h6,tT]
 ·exact gn 5 [] [] [nL Qaa.enc l,bF h0] (hE _ (oJ h))
theorem Qhu {x0 l} {rv:Bool} (h:Qef x0 l=some rv):AFn Tryz.prog 140 [.agg (Qad.enc x0),.one (lL 2 l Qaa.enc)] [] (one (.bool rv)) []:=by
 refine QaQ Tryz.func140 (by kernel_rfl) (by kernel_rfl) (fun Γ=>?_)
 unfold Qef at h
 obtain ⟨e0,h13,h⟩:=Qae h
 refine gn 7 [1,2,5] [0] [] (Qrl Γ rv h13 ?_)
 rcases e0 with e0|e0
 ·replace h:(some true:Option Bool)=some _:=h
  obtain rfl:=Option.some.inj h
  exact gr 2 [] []
 ·obtain ⟨r5,rfl⟩:∃ x,x=e0:=⟨_,rfl⟩
  replace h:(some r5:Option Bool)=some _:=h
  exact Option.some.inj h
def Qp1 (Γ:Gam) (rv:Bool) (cf:Cf):Prop:=Go Tryz.prog Tryz.f141 [] Γ (one (.bool rv)) [] cf
def QmY (Γ:Gam) (rv:Bool) (x0:Qad) (set_:Int) (i:Int):Prop:=Qp1 Γ rv ⟨[.c 52,.l 52,.b 0,.c 7],⟨31,[vI 1 set_,vP 2 0 6,vI 5 i],[oX 6 30 (Qad.enc x0)]⟩⟩
def QlV (Γ:Gam) (rv:Bool) (x0:Qad) (set_:Int):Prop:=Qp1 Γ rv ⟨[.c 7],⟨31,[],[]⟩⟩
theorem Qr3 (Γ:Gam) (rv:Bool) {x0 set_} {s:Int} {e:(Unit)⊕(Bool)} (h:QaW (fun s=>QcQ x0 set_ s) s=some e) (hD:sel e (fun e=>QlV Γ rv x0 set_) (fun e=>e=rv)):QmY Γ rv x0 set_ s:=by
 refine QaA (C:=fun (s:Int)=>QmY Γ rv x0 set_ s) (D:=fun (e:(Unit)⊕(Bool))=>sel e (fun e=>QlV Γ rv x0 set_) (fun e=>e=rv)) ?_ h hD
 clear h hD s e
 intro i z_ h hI hE
 replace h:QcQ x0 set_ i=_:=h
 unfold QcQ at h
 rcases Qah h with ⟨h0,h⟩|⟨h0,h⟩
 ·obtain ⟨x1,h1,h⟩:=Qae h
  obtain ⟨r,h2,h⟩:=Qae h
  rcases Qah h with ⟨h3,h⟩|⟨h3,h⟩
  ·obtain ⟨r1,h4,h⟩:=Qae h
   rcases Qah h with ⟨h5,h⟩|⟨h5,h⟩
   ·obtain rfl:=(hE _ (oJ h):_=rv)
    exact gr 12 [] [nL QaO.enc x0.apart,bT h0,cE QaO.enc h1,oO (zL 0),oO (lT 0 2),cC (Qcf h2),rp 5 (bT h3),cE QaO.enc h1,bT h3,oO (zL 1),oO (lT 1 2),bT h3,bT h3,cC (Qcf h4),bT h3,bT h5]
   ·exact gn 14 [1,2,5] [0] [nL QaO.enc x0.apart,bT h0,cE QaO.enc h1,oO (zL 0),oO (lT 0 2),cC (Qcf h2),rp 5 (bT h3),cE QaO.enc h1,bT h3,oO (zL 1),oO (lT 1 2),bT h3,bT h3,cC (Qcf h4),bT h3,bF h5] (hI _ (oJ h))
  ·exact gn 14 [1,2,5] [0] [nL QaO.enc x0.apart,bT h0,cE QaO.enc h1,oO (zL 0),oO (lT 0 2),cC (Qcf h2),rp 9 (bF h3),fF] (hI _ (oJ h))
 ·exact gn 5 [] [] [nL QaO.enc x0.apart,bF h0] (hE _ (oJ h))
theorem Qj6 {x0 set_} {rv:Bool} (h:QeT x0 set_=some rv):AFn Tryz.prog 141 [.agg (Qad.enc x0),.one (lI set_)] [] (one (.bool rv)) []:=by
 refine QaQ Tryz.func141 (by kernel_rfl) (by kernel_rfl) (fun Γ=>?_)
 unfold QeT at h
 obtain ⟨e0,h6,h⟩:=Qae h
 refine gn 7 [1,2,5] [0] [] (Qr3 Γ rv h6 ?_)
 rcases e0 with e0|e0
 ·replace h:(some true:Option Bool)=some _:=h
  obtain rfl:=Option.some.inj h
  exact gr 2 [] []
 ·obtain ⟨r2,rfl⟩:∃ x,x=e0:=⟨_,rfl⟩
  replace h:(some r2:Option Bool)=some _:=h
  exact Option.some.inj h
def Qfk (Γ:Gam) (rv:Bool) (cf:Cf):Prop:=Go Tryz.prog Tryz.f142 [] Γ (one (.bool rv)) [] cf
def QlY (Γ:Gam) (rv:Bool) (x0:Qad) (set_:Int) (l:List Qaa) (i:Int) (x1:QaO) (j:Int) (k:Int):Prop:=Qfk Γ rv ⟨[.c 3448612,.l 3448612,.b 4,.b 3,.c 215539,.l 53884,.b 2,.b 1,.c 211,.l 52,.b 0,.c 7],⟨66,[vI 1 set_,vL 2 2 l Qaa.enc,vP 3 0 6,vI 7 i,vI 8 x1.x0,vI 9 x1.x1,vI 10 j,vI 11 k],[oX 6 30 (Qad.enc x0)]⟩⟩
def QkM (Γ:Gam) (rv:Bool) (x0:Qad) (set_:Int) (l:List Qaa) (i:Int) (x1:QaO) (j:Int):Prop:=Qfk Γ rv ⟨[.b 3,.c 215539,.l 53884,.b 2,.b 1,.c 211,.l 52,.b 0,.c 7],⟨66,[vI 1 set_,vL 2 2 l Qaa.enc,vP 3 0 6,vI 7 i,vI 8 x1.x0,vI 9 x1.x1,vI 10 j],[oX 6 30 (Qad.enc x0)]⟩⟩
def QlX (Γ:Gam) (rv:Bool) (x0:Qad) (set_:Int) (l:List Qaa) (i:Int) (x1:QaO) (j:Int):Prop:=Qfk Γ rv ⟨[.c 53884,.l 53884,.b 2,.b 1,.c 211,.l 52,.b 0,.c 7],⟨66,[vI 1 set_,vL 2 2 l Qaa.enc,vP 3 0 6,vI 7 i,vI 8 x1.x0,vI 9 x1.x1,vI 10 j],[oX 6 30 (Qad.enc x0)]⟩⟩
def QkL (Γ:Gam) (rv:Bool) (x0:Qad) (set_:Int) (l:List Qaa) (i:Int) (x1:QaO):Prop:=Qfk Γ rv ⟨[.b 1,.c 211,.l 52,.b 0,.c 7],⟨66,[vI 1 set_,vL 2 2 l Qaa.enc,vP 3 0 6,vI 7 i],[oX 6 30 (Qad.enc x0)]⟩⟩
def QlW (Γ:Gam) (rv:Bool) (x0:Qad) (set_:Int) (l:List Qaa) (i:Int):Prop:=Qfk Γ rv ⟨[.c 52,.l 52,.b 0,.c 7],⟨66,[vI 1 set_,vL 2 2 l Qaa.enc,vP 3 0 6,vI 7 i],[oX 6 30 (Qad.enc x0)]⟩⟩
def QkK (Γ:Gam) (rv:Bool) (x0:Qad) (set_:Int) (l:List Qaa):Prop:=Qfk Γ rv ⟨[.c 7],⟨66,[],[]⟩⟩
theorem Qrk (Γ:Gam) (rv:Bool) {x0 set_ l i x1 j} {s:Int} {e:(Unit)⊕(Bool)} (h:QaW (fun s=>Qcx x0 set_ l i x1 j s) s=some e) (hD:sel e (fun e=>QkM Γ rv x0 set_ l i x1 j) (fun e=>e=rv)):QlY Γ rv x0 set_ l i x1 j s:=by
 refine QaA (C:=fun (s:Int)=>QlY Γ rv x0 set_ l i x1 j s) (D:=fun (e:(Unit)⊕(Bool))=>sel e (fun e=>QkM Γ rv x0 set_ l i x1 j) (fun e=>e=rv)) ?_ h hD
 clear h hD s e
 intro k z_ h hI hE
 replace h:Qcx x0 set_ l i x1 j k=_:=h
 unfold Qcx at h
 rcases Qah h with ⟨h7,h⟩|⟨h7,h⟩
 ·obtain ⟨x2,h8,h⟩:=Qae h
  rcases Qah h with ⟨h9,h⟩|⟨h9,h⟩
  ·obtain ⟨x3,h10,h⟩:=Qae h
   rcases Qah h with ⟨h11,h⟩|⟨h11,h⟩
   ·obtain rfl:=(hE _ (oJ h):_=rv)
    exact gr 12 [] [bT h7,cE Qaa.enc h8,rp 3 (bT h9),cE Qaa.enc h10,rp 5 (bT h9),bT h11]
   ·exact gn 14 [1,2,3,7,8,9,10,11] [0] [bT h7,cE Qaa.enc h8,rp 3 (bT h9),cE Qaa.enc h10,rp 5 (bT h9),bF h11] (hI _ (oJ h))
  ·exact gn 14 [1,2,3,7,8,9,10,11] [0] [bT h7,cE Qaa.enc h8,rp 8 (bF h9),fF] (hI _ (oJ h))
 ·exact gn 5 [1,2,3,7,8,9,10] [0] [bF h7] (hE _ (oJ h))
theorem Qrj (Γ:Gam) (rv:Bool) {x0 set_ l i x1} {s:Int} {e:(Unit)⊕(Bool)} (h:QaW (fun s=>Qcw x0 set_ l i x1 s) s=some e) (hD:sel e (fun e=>QkL Γ rv x0 set_ l i x1) (fun e=>e=rv)):QlX Γ rv x0 set_ l i x1 s:=by
 refine QaA (C:=fun (s:Int)=>QlX Γ rv x0 set_ l i x1 s) (D:=fun (e:(Unit)⊕(Bool))=>sel e (fun e=>QkL Γ rv x0 set_ l i x1) (fun e=>e=rv)) ?_ h hD
 clear h hD s e
 intro j z_ h hI hE
 replace h:Qcw x0 set_ l i x1 j=_:=h
 unfold Qcw at h
 rcases Qah h with ⟨h6,h⟩|⟨h6,h⟩
 ·obtain ⟨e0,h12,h⟩:=Qae h
  refine gn 11 [1,2,3,7,8,9,10,11] [0] [nL Qaa.enc l,bT h6] (Qrk Γ rv h12 ?_)
  rcases e0 with e0|e0
  ·replace h:(some (.inl (addK .i64 j 1)):Option ((Int)⊕((Unit)⊕(Bool))))=some _:=h
   exact gn 3 [1,2,3,7,8,9,10] [0] [] (hI _ (oJ h))
  ·obtain ⟨r2,rfl⟩:∃ x,x=e0:=⟨_,rfl⟩
   replace h:(some (.inr (.inr r2)):Option ((Int)⊕((Unit)⊕(Bool))))=some _:=h
   exact (hE _ (oJ h):_=rv)
 ·exact gn 5 [1,2,3,7] [0] [nL Qaa.enc l,bF h6] (hE _ (oJ h))
theorem Qri (Γ:Gam) (rv:Bool) {x0 set_ l} {s:Int} {e:(Unit)⊕(Bool)} (h:QaW (fun s=>Qcv x0 set_ l s) s=some e) (hD:sel e (fun e=>QkK Γ rv x0 set_ l) (fun e=>e=rv)):QlW Γ rv x0 set_ l s:=by
 refine QaA (C:=fun (s:Int)=>QlW Γ rv x0 set_ l s) (D:=fun (e:(Unit)⊕(Bool))=>sel e (fun e=>QkK Γ rv x0 set_ l) (fun e=>e=rv)) ?_ h hD
 clear h hD s e
 intro i z_ h hI hE
 replace h:Qcv x0 set_ l i=_:=h
 unfold Qcv at h
 rcases Qah h with ⟨h0,h⟩|⟨h0,h⟩
 ·obtain ⟨x1,h1,h⟩:=Qae h
  obtain ⟨r,h2,h⟩:=Qae h
  rcases Qah h with ⟨h3,h⟩|⟨h3,h⟩
  ·obtain ⟨r1,h4,h⟩:=Qae h
   rcases Qah h with ⟨h5,h⟩|⟨h5,h⟩
   ·obtain ⟨e1,h13,h⟩:=Qae h
    refine gn 25 [1,2,3,7,8,9,10] [0] [nL QaO.enc x0.before,bT h0,cE QaO.enc h1,oO (zL 0),oO (lT 0 2),cE QaO.enc h1,oO (zL 1),oO (lT 1 2),cC (Qcf h2),nF h3,cC (Qcf h4),nF h5] (Qrj Γ rv h13 ?_)
    rcases e1 with e1|e1
    ·replace h:(some (.inl (addK .i64 i 1)):Option ((Int)⊕((Unit)⊕(Bool))))=some _:=h
     exact gn 3 [1,2,3,7] [0] [] (hI _ (oJ h))
    ·obtain ⟨r3,rfl⟩:∃ x,x=e1:=⟨_,rfl⟩
     replace h:(some (.inr (.inr r3)):Option ((Int)⊕((Unit)⊕(Bool))))=some _:=h
     exact (hE _ (oJ h):_=rv)
   ·obtain rfl:=(hE _ (oJ h):_=rv)
    exact gr 22 [] [nL QaO.enc x0.before,bT h0,cE QaO.enc h1,oO (zL 0),oO (lT 0 2),cE QaO.enc h1,oO (zL 1),oO (lT 1 2),cC (Qcf h2),nF h3,cC (Qcf h4),nT h5]
  ·exact gn 18 [1,2,3,7] [0] [nL QaO.enc x0.before,bT h0,cE QaO.enc h1,oO (zL 0),oO (lT 0 2),cE QaO.enc h1,oO (zL 1),oO (lT 1 2),cC (Qcf h2),nT h3] (hI _ (oJ h))
 ·exact gn 5 [] [] [nL QaO.enc x0.before,bF h0] (hE _ (oJ h))
theorem QnR {x0 set_ l} {rv:Bool} (h:Qee x0 set_ l=some rv):AFn Tryz.prog 142 [.agg (Qad.enc x0),.one (lI set_),.one (lL 2 l Qaa.enc)] [] (one (.bool rv)) []:=by
 refine QaQ Tryz.func142 (by kernel_rfl) (by kernel_rfl) (fun Γ=>?_)
 unfold Qee at h
 obtain ⟨e2,h14,h⟩:=Qae h
 refine gn 7 [1,2,3,7] [0] [] (Qri Γ rv h14 ?_)
 rcases e2 with e2|e2
 ·replace h:(some true:Option Bool)=some _:=h
  obtain rfl:=Option.some.inj h
  exact gr 2 [] []
 ·obtain ⟨r4,rfl⟩:∃ x,x=e2:=⟨_,rfl⟩
  replace h:(some r4:Option Bool)=some _:=h
  exact Option.some.inj h
def QfM (Γ:Gam) (rv:Int) (cf:Cf):Prop:=Go Tryz.prog Tryz.f96 [] Γ (one (lI rv)) [] cf
def QmU (Γ:Gam) (rv:Int) (x0:Qad) (r:Qac) (i:Int):Prop:=QfM Γ rv ⟨[.c 116,.l 116,.b 0,.c 15],⟨91,[vP 2 0 6,vP 3 1 4,vL 5 2 r.visits Qaa.enc,vI 6 i],[oX 6 30 (Qad.enc x0),oX 4 37 (Qac.enc r)]⟩⟩
def QlQ (Γ:Gam) (rv:Int) (x0:Qad) (r:Qac):Prop:=QfM Γ rv ⟨[.c 15],⟨91,[vP 2 0 6,vP 3 1 4,vL 5 2 r.visits Qaa.enc],[oX 6 30 (Qad.enc x0),oX 4 37 (Qac.enc r)]⟩⟩
def QmV (Γ:Gam) (rv:Int) (x0:Qad) (r:Qac) (r1:Int×Int) (i1:Int):Prop:=QfM Γ rv ⟨[.c 1012,.l 1012,.b 2,.c 127],⟨91,[vP 2 0 6,vL 5 2 r.visits Qaa.enc,vI 7 r1.1,vI 9 i1],[oX 6 30 (Qad.enc x0)]⟩⟩
def QlR (Γ:Gam) (rv:Int) (x0:Qad) (r:Qac) (r1:Int×Int):Prop:=QfM Γ rv ⟨[.c 127],⟨91,[vP 2 0 6,vL 5 2 r.visits Qaa.enc,vI 7 r1.1],[oX 6 30 (Qad.enc x0)]⟩⟩
def QmW (Γ:Gam) (rv:Int) (x0:Qad) (r:Qac) (r1:Int×Int) (i2:Int):Prop:=QfM Γ rv ⟨[.c 2036,.l 2036,.b 4,.c 255],⟨91,[vP 2 0 6,vL 5 2 r.visits Qaa.enc,vI 7 r1.1,vI 10 i2],[oX 6 30 (Qad.enc x0)]⟩⟩
def QlS (Γ:Gam) (rv:Int) (x0:Qad) (r:Qac) (r1:Int×Int):Prop:=QfM Γ rv ⟨[.c 255],⟨91,[vP 2 0 6,vL 5 2 r.visits Qaa.enc,vI 7 r1.1],[oX 6 30 (Qad.enc x0)]⟩⟩
theorem QrZ (Γ:Gam) (rv:Int) {x0 r} {s:Int} {e:(Unit)⊕(Int)} (h:QaW (fun s=>QcO x0 r s) s=some e) (hD:sel e (fun e=>QlQ Γ rv x0 r) (fun e=>e=rv)):QmU Γ rv x0 r s:=by
 refine QaA (C:=fun (s:Int)=>QmU Γ rv x0 r s) (D:=fun (e:(Unit)⊕(Int))=>sel e (fun e=>QlQ Γ rv x0 r) (fun e=>e=rv)) ?_ h hD
 clear h hD s e
 intro i z_ h hI hE
 replace h:QcO x0 r i=_:=h
 unfold QcO at h
 rcases Qah h with ⟨h0,h⟩|⟨h0,h⟩
 ·obtain ⟨x1,h1,h⟩:=Qae h
  rcases Qah h with ⟨h2,h⟩|⟨h2,h⟩
  ·obtain rfl:=(hE _ (oJ h):_=rv)
   exact gr 12 [] [nL Qaa.enc r.visits,bT h0,hH (.draw 17 []),cE Qaa.enc h1,rp 10 (bT h2),tT]
  ·rcases Qah h with ⟨h3,h⟩|⟨h3,h⟩
   ·obtain rfl:=(hE _ (oJ h):_=rv)
    exact gr 12 [] [nL Qaa.enc r.visits,bT h0,hH (.draw 17 []),cE Qaa.enc h1,rp 3 (bF h2),cE Qaa.enc h1,rp 5 (bF h2),nL Qai.enc x0.orders,bF h2,bF h2,bT h3]
   ·exact gn 14 [2,3,5,6] [0,1] [nL Qaa.enc r.visits,bT h0,hH (.draw 17 []),cE Qaa.enc h1,rp 3 (bF h2),cE Qaa.enc h1,rp 5 (bF h2),nL Qai.enc x0.orders,bF h2,bF h2,bF h3] (hI _ (oJ h))
 ·exact gn 5 [2,3,5] [0,1] [nL Qaa.enc r.visits,bF h0] (hE _ (oJ h))
theorem Qr0 (Γ:Gam) (rv:Int) {x0 r r1} {s:Int} {e:(Unit)⊕(Int)} (h:QaW (fun s=>Qck x0 r r1 s) s=some e) (hD:sel e (fun e=>QlR Γ rv x0 r r1) (fun e=>e=rv)):QmV Γ rv x0 r r1 s:=by
 refine QaA (C:=fun (s:Int)=>QmV Γ rv x0 r r1 s) (D:=fun (e:(Unit)⊕(Int))=>sel e (fun e=>QlR Γ rv x0 r r1) (fun e=>e=rv)) ?_ h hD
 clear h hD s e
 intro i1 z_ h hI hE
 replace h:Qck x0 r r1 i1=_:=h
 unfold Qck at h
 rcases Qah h with ⟨h7,h⟩|⟨h7,h⟩
 ·obtain ⟨x2,h8,h⟩:=Qae h
  obtain ⟨x3,h9,h⟩:=Qae h
  rcases Qah h with ⟨h10,h⟩|⟨h10,h⟩
  ·obtain rfl:=(hE _ (oJ h):_=rv)
   exact gr 12 [] [nL Qaa.enc r.visits,bT h7,hH (.draw 10 []),cE Qaa.enc h8,cE Qai.enc h9,bT h10]
  ·exact gn 14 [2,5,7,9] [0] [nL Qaa.enc r.visits,bT h7,hH (.draw 10 []),cE Qaa.enc h8,cE Qai.enc h9,bF h10] (hI _ (oJ h))
 ·exact gn 5 [2,5,7] [0] [nL Qaa.enc r.visits,bF h7] (hE _ (oJ h))
theorem Qr1 (Γ:Gam) (rv:Int) {x0 r r1} {s:Int} {e:(Unit)⊕(Int)} (h:QaW (fun s=>Qb5 x0 r r1 s) s=some e) (hD:sel e (fun e=>QlS Γ rv x0 r r1) (fun e=>e=rv)):QmW Γ rv x0 r r1 s:=by
 refine QaA (C:=fun (s:Int)=>QmW Γ rv x0 r r1 s) (D:=fun (e:(Unit)⊕(Int))=>sel e (fun e=>QlS Γ rv x0 r r1) (fun e=>e=rv)) ?_ h hD
 clear h hD s e
 intro i2 z_ h hI hE
 replace h:Qb5 x0 r r1 i2=_:=h
 unfold Qb5 at h
 rcases Qah h with ⟨h12,h⟩|⟨h12,h⟩
 ·obtain ⟨x4,h13,h⟩:=Qae h
  obtain ⟨r2,h14,h⟩:=Qae h
  rcases Qah h with ⟨h15,h⟩|⟨h15,h⟩
  ·obtain rfl:=(hE _ (oJ h):_=rv)
   exact gr 12 [] [nL Qaa.enc r.visits,bT h12,cE Qaa.enc h13,cC (QbE h14),bT h15]
  ·exact gn 14 [2,5,7,10] [0] [nL Qaa.enc r.visits,bT h12,cE Qaa.enc h13,cC (QbE h14),bF h15] (hI _ (oJ h))
 ·exact gn 5 [2,5,7] [0] [nL Qaa.enc r.visits,bF h12] (hE _ (oJ h))
theorem Qh7 {x0 r} {rv:Int} (h:Qg8 x0 r=some rv):AFn Tryz.prog 96 [.agg (Qad.enc x0),.agg (Qac.enc r)] [] (one (lI rv)) []:=by
 refine QaQ Tryz.func96 (by kernel_rfl) (by kernel_rfl) (fun Γ=>?_)
 unfold Qg8 at h
 obtain ⟨e0,h4,h⟩:=Qae h
 refine gn 9 [2,3,5,6] [0,1] [] (QrZ Γ rv h4 ?_)
 rcases e0 with e0|e0
 ·replace h:(bnd (Qc8 r) fun r1=>br ((neI r1.2 0)||(eqI (lenI r.visits) 0)) (some 2) (bnd (QaW (fun s=>Qck x0 r r1 s) 0) (fun e=>sel e (fun (_:Unit)=>bnd (QaW (fun s=>Qb5 x0 r r1 s) 0) (fun e=>sel e (fun (_:Unit)=>bnd (Qef x0 r.visits) fun r3=>br r3 (bnd (QeT x0 r1.1) fun r4=>br r4 (bnd (Qee x0 r1.1 r.visits) fun r5=>br r5 (some 0) (some 21)) (some 20)) (some 19)) (fun r6=>some r6))) (fun r7=>some r7))):Option Int)=some _:=h
  obtain ⟨r1,h5,h⟩:=Qae h
  rcases Qah h with ⟨h6,h⟩|⟨h6,h⟩
  ·obtain rfl:=Option.some.inj h
   exact gr 8 [] [cC (QfY h5),hP,hP,oI ((neI r1.2 0)=false),nL Qaa.enc r.visits,hP,hP,oI ((neI r1.2 0)=false),oR True ((neI r1.2 0)=false),bT h6]
  ·obtain ⟨e1,h11,h⟩:=Qae h
   refine gn 12 [2,5,7,9] [0] [cC (QfY h5),hP,hP,oI ((neI r1.2 0)=false),nL Qaa.enc r.visits,hP,hP,oI ((neI r1.2 0)=false),oR True ((neI r1.2 0)=false),bF h6] (Qr0 Γ rv h11 ?_)
   rcases e1 with e1|e1
   ·replace h:(bnd (QaW (fun s=>Qb5 x0 r r1 s) 0) (fun e=>sel e (fun (_:Unit)=>bnd (Qef x0 r.visits) fun r3=>br r3 (bnd (QeT x0 r1.1) fun r4=>br r4 (bnd (Qee x0 r1.1 r.visits) fun r5=>br r5 (some 0) (some 21)) (some 20)) (some 19)) (fun r6=>some r6)):Option Int)=some _:=h
    obtain ⟨e2,h16,h⟩:=Qae h
    refine gn 5 [2,5,7,10] [0] [] (Qr1 Γ rv h16 ?_)
    rcases e2 with e2|e2
    ·replace h:(bnd (Qef x0 r.visits) fun r3=>br r3 (bnd (QeT x0 r1.1) fun r4=>br r4 (bnd (Qee x0 r1.1 r.visits) fun r5=>br r5 (some 0) (some 21)) (some 20)) (some 19):Option Int)=some _:=h
     obtain ⟨r3,h17,h⟩:=Qae h
     rcases Qah h with ⟨h18,h⟩|⟨h18,h⟩
     ·obtain ⟨r4,h19,h⟩:=Qae h
      rcases Qah h with ⟨h20,h⟩|⟨h20,h⟩
      ·obtain ⟨r5,h21,h⟩:=Qae h
       rcases Qah h with ⟨h22,h⟩|⟨h22,h⟩
       ·obtain rfl:=Option.some.inj h
        exact gr 17 [] [cC (Qhu h17),nF h18,cC (Qj6 h19),nF h20,cC (QnR h21),nF h22]
       ·obtain rfl:=Option.some.inj h
        exact gr 16 [] [cC (Qhu h17),nF h18,cC (Qj6 h19),nF h20,cC (QnR h21),nT h22]
      ·obtain rfl:=Option.some.inj h
       exact gr 11 [] [cC (Qhu h17),nF h18,cC (Qj6 h19),nT h20]
     ·obtain rfl:=Option.some.inj h
      exact gr 6 [] [cC (Qhu h17),nT h18]
    ·obtain ⟨r6,rfl⟩:∃ x,x=e2:=⟨_,rfl⟩
     replace h:(some r6:Option Int)=some _:=h
     exact Option.some.inj h
   ·obtain ⟨r7,rfl⟩:∃ x,x=e1:=⟨_,rfl⟩
    replace h:(some r7:Option Int)=some _:=h
    exact Option.some.inj h
 ·obtain ⟨r8,rfl⟩:∃ x,x=e0:=⟨_,rfl⟩
  replace h:(some r8:Option Int)=some _:=h
  exact Option.some.inj h
def QqU (Γ:Gam) (rv:Bool) (cf:Cf):Prop:=Go Tryz.prog Tryz.f97 [] Γ (one (.bool rv)) [] cf
def QnP (Γ:Gam) (rv:Bool) (t:Qak) (skills:Int) (bit:Int):Prop:=QqU Γ rv ⟨[.c 116,.l 116,.b 0,.c 15],⟨30,[vI 1 skills,vP 2 0 14,vI 5 bit],[oX 14 94 (Qak.enc t)]⟩⟩
def QmM (Γ:Gam) (rv:Bool) (t:Qak) (skills:Int):Prop:=QqU Γ rv ⟨[.c 15],⟨30,[],[]⟩⟩
theorem QsU (Γ:Gam) (rv:Bool) {t skills} {s:Int} {e:(Unit)⊕(Bool)} (h:QaW (fun s=>QdU t skills s) s=some e) (hD:sel e (fun e=>QmM Γ rv t skills) (fun e=>e=rv)):QnP Γ rv t skills s:=by
 refine QaA (C:=fun (s:Int)=>QnP Γ rv t skills s) (D:=fun (e:(Unit)⊕(Bool))=>sel e (fun e=>QmM Γ rv t skills) (fun e=>e=rv)) ?_ h hD
 clear h hD s e
 intro bit z_ h hI hE
 replace h:QdU t skills bit=_:=h
 unfold QdU at h
 rcases Qah h with ⟨h1,h⟩|⟨h1,h⟩
 ·obtain ⟨h2,h⟩:=Qau h
  rcases Qah h with ⟨h3,h⟩|⟨h3,h⟩
  ·obtain ⟨h4,h⟩:=Qau h
   rcases Qah h with ⟨h5,h⟩|⟨h5,h⟩
   ·obtain rfl:=(hE _ (oJ h):_=rv)
    exact gr 12 [] [bT h1,oO (h2),oO (oA (n:=2)),rp 4 (bT h3),oO (h4),bT h3,oO (oA (n:=2)),bT h3,bT h3,bT h5]
   ·exact gn 14 [1,2,5] [0] [bT h1,oO (h2),oO (oA (n:=2)),rp 4 (bT h3),oO (h4),bT h3,oO (oA (n:=2)),bT h3,bT h3,bF h5] (hI _ (oJ h))
  ·exact gn 14 [1,2,5] [0] [bT h1,oO (h2),oO (oA (n:=2)),rp 7 (bF h3),fF] (hI _ (oJ h))
 ·exact gn 5 [] [] [bF h1] (hE _ (oJ h))
theorem QpX {t skills} {rv:Bool} (h:QhK t skills=some rv):AFn Tryz.prog 97 [.agg (Qak.enc t),.one (lI skills)] [] (one (.bool rv)) []:=by
 refine QaQ Tryz.func97 (by kernel_rfl) (by kernel_rfl) (fun Γ=>?_)
 unfold QhK at h
 rcases Qah h with ⟨h0,h⟩|⟨h0,h⟩
 ·obtain rfl:=Option.some.inj h
  exact gr 8 [] [hP,hP,hP,oI ((ltI t.skills 0)=false),oR True ((ltI t.skills 0)=false),bT h0]
 ·obtain ⟨e0,h6,h⟩:=Qae h
  refine gn 12 [1,2,5] [0] [hP,hP,hP,oI ((ltI t.skills 0)=false),oR True ((ltI t.skills 0)=false),bF h0] (QsU Γ rv h6 ?_)
  rcases e0 with e0|e0
  ·replace h:(some true:Option Bool)=some _:=h
   obtain rfl:=Option.some.inj h
   exact gr 2 [] []
  ·obtain ⟨r,rfl⟩:∃ x,x=e0:=⟨_,rfl⟩
   replace h:(some r:Option Bool)=some _:=h
   exact Option.some.inj h
def QqS (Γ:Gam) (rv:Bool) (cf:Cf):Prop:=Go Tryz.prog Tryz.f208 [] Γ (one (.bool rv)) [] cf
def QnN (Γ:Gam) (rv:Bool) (l:List (List Int)) (dims:Int) (i:Int):Prop:=QqS Γ rv ⟨[.c 116,.l 116,.b 0,.c 15],⟨25,[vL 0 1 l Qbq,vI 1 dims,vI 5 i],[]⟩⟩
def QmJ (Γ:Gam) (rv:Bool) (l:List (List Int)) (dims:Int):Prop:=QqS Γ rv ⟨[.c 15],⟨25,[],[]⟩⟩
theorem QsS (Γ:Gam) (rv:Bool) {l dims} {s:Int} {e:(Unit)⊕(Bool)} (h:QaW (fun s=>Qdh l dims s) s=some e) (hD:sel e (fun e=>QmJ Γ rv l dims) (fun e=>e=rv)):QnN Γ rv l dims s:=by
 refine QaA (C:=fun (s:Int)=>QnN Γ rv l dims s) (D:=fun (e:(Unit)⊕(Bool))=>sel e (fun e=>QmJ Γ rv l dims) (fun e=>e=rv)) ?_ h hD
 clear h hD s e
 intro i z_ h hI hE
 replace h:Qdh l dims i=_:=h
 unfold Qdh at h
 rcases Qah h with ⟨h1,h⟩|⟨h1,h⟩
 ·obtain ⟨x0,h2,h⟩:=Qae h
  rcases Qah h with ⟨h3,h⟩|⟨h3,h⟩
  ·obtain rfl:=(hE _ (oJ h):_=rv)
   exact gr 12 [] [nL Qbq l,bT h1,cE Qbq h2,nL QaM x0,bT h3]
  ·exact gn 14 [0,1,5] [] [nL Qbq l,bT h1,cE Qbq h2,nL QaM x0,bF h3] (hI _ (oJ h))
 ·exact gn 5 [] [] [nL Qbq l,bF h1] (hE _ (oJ h))
theorem QpS {l dims} {rv:Bool} (h:Qi4 l dims=some rv):AFn Tryz.prog 208 [.one (lL 1 l Qbq),.one (lI dims)] [] (one (.bool rv)) []:=by
 refine QaQ Tryz.func208 (by kernel_rfl) (by kernel_rfl) (fun Γ=>?_)
 unfold Qi4 at h
 rcases Qah h with ⟨h0,h⟩|⟨h0,h⟩
 ·obtain rfl:=Option.some.inj h
  exact gr 8 [] [hP,hP,hP,oI ((ltI dims 0)=false),oR True ((ltI dims 0)=false),bT h0]
 ·obtain ⟨e0,h4,h⟩:=Qae h
  refine gn 12 [0,1,5] [] [hP,hP,hP,oI ((ltI dims 0)=false),oR True ((ltI dims 0)=false),bF h0] (QsS Γ rv h4 ?_)
  rcases e0 with e0|e0
  ·replace h:(some true:Option Bool)=some _:=h
   obtain rfl:=Option.some.inj h
   exact gr 2 [] []
  ·obtain ⟨r,rfl⟩:∃ x,x=e0:=⟨_,rfl⟩
   replace h:(some r:Option Bool)=some _:=h
   exact Option.some.inj h
def QjY (Γ:Gam) (rv:List Int×Int) (cf:Cf):Prop:=Go Tryz.prog Tryz.f201 [] Γ (.tup [.one (lL 1 rv.1 QaM),.one (lI rv.2)]) [] cf
def QoP (Γ:Gam) (rv:List Int×Int) (l:List (List Int)) (dims:Int) (l1:List Int) (d:Int) (n:Int) (i:Int):Prop:=QjY Γ rv ⟨[.c 62612,.l 62612,.b 2,.c 7827,.b 1,.c 979,.l 244,.b 0,.c 31],⟨39,[vL 0 1 l Qbq,vI 1 dims,vO 6 0 1 l1 QaM,vI 7 d,vI 8 n,vI 9 i],[oS 1 3 l1 QaM]⟩⟩
def QnM (Γ:Gam) (rv:List Int×Int) (l:List (List Int)) (dims:Int) (l1:List Int) (d:Int) (n1:Int):Prop:=QjY Γ rv ⟨[.c 7827,.b 1,.c 979,.l 244,.b 0,.c 31],⟨39,[vL 0 1 l Qbq,vI 1 dims,vO 6 0 1 l1 QaM,vI 7 d,vI 8 n1],[oS 1 3 l1 QaM]⟩⟩
def QoO (Γ:Gam) (rv:List Int×Int) (l:List (List Int)) (dims:Int) (l1:List Int) (d:Int):Prop:=QjY Γ rv ⟨[.c 244,.l 244,.b 0,.c 31],⟨39,[vL 0 1 l Qbq,vI 1 dims,vO 6 0 1 l1 QaM,vI 7 d],[oS 1 3 l1 QaM]⟩⟩
def QnL (Γ:Gam) (rv:List Int×Int) (l:List (List Int)) (dims:Int) (l2:List Int):Prop:=QjY Γ rv ⟨[.c 31],⟨39,[vO 6 0 1 l2 QaM],[oS 1 3 l2 QaM]⟩⟩
theorem Qty (Γ:Gam) (rv:List Int×Int) {l dims l1 d} {s:Int×Int} {e:Int} (h:QaW (fun s=>Qc7 l dims l1 d s.1 s.2) s=some e) (hD:QnM Γ rv l dims l1 d e):QoP Γ rv l dims l1 d s.1 s.2:=by
 refine QaA (C:=fun (s:Int×Int)=>QoP Γ rv l dims l1 d s.1 s.2) (D:=fun (e:Int)=>QnM Γ rv l dims l1 d e) ?_ h hD
 clear h hD s e
 rintro ⟨n,i⟩ z_ h hI hE
 replace h:Qc7 l dims l1 d n i=_:=h
 unfold Qc7 at h
 rcases Qah h with ⟨h3,h⟩|⟨h3,h⟩
 ·obtain ⟨x0,h4,h⟩:=Qae h
  obtain ⟨x1,h5,h⟩:=Qae h
  exact gn 11 [0,1,6,7,8,9] [0] [nL Qbq l,bT h3,cE Qbq h4,cE QaM h5] (hI _ (oJ h))
 ·exact gn 5 [0,1,6,7,8] [0] [nL Qbq l,bF h3] (hE _ (oJ h))
theorem Qtx (Γ:Gam) (rv:List Int×Int) {l dims} {s:List Int×Int} {e:List Int} (h:QaW (fun s=>Qc6 l dims s.1 s.2) s=some e) (hD:QnL Γ rv l dims e):QoO Γ rv l dims s.1 s.2:=by
 refine QaA (C:=fun (s:List Int×Int)=>QoO Γ rv l dims s.1 s.2) (D:=fun (e:List Int)=>QnL Γ rv l dims e) ?_ h hD
 clear h hD s e
 rintro ⟨l1,d⟩ z_ h hI hE
 replace h:Qc6 l dims l1 d=_:=h
 unfold Qc6 at h
 rcases Qah h with ⟨h2,h⟩|⟨h2,h⟩
 ·obtain ⟨e0,h6,h⟩:=Qae h
  refine gn 14 [0,1,6,7,8,9] [0] [bT h2] (Qty Γ rv h6 ?_)
  obtain ⟨n1,rfl⟩:∃ x,x=e0:=⟨_,rfl⟩
  replace h:(chk (okN (l1++[n1]).length 8) (some (.inl ((l1++[n1]),(addK .i64 d 1)))):Option ((List Int×Int)⊕(List Int)))=some _:=h
  obtain ⟨h7,h⟩:=Qau h
  exact gn 4 [0,1,6,7] [2] [oO (Eq.refl ([n1].map QaM).length),aO QaM h7] (hI _ (oJ h))
 ·exact gn 5 [6] [0] [bF h2] (hE _ (oJ h))
theorem Qvv {l dims} {rv:List Int×Int} (h:QiA l dims=some rv):AFn Tryz.prog 201 [.one (lL 1 l Qbq),.one (lI dims)] [] (.tup [.one (lL 1 rv.1 QaM),.one (lI rv.2)]) []:=by
 refine QaQ Tryz.func201 (by kernel_rfl) (by kernel_rfl) (fun Γ=>?_)
 unfold QiA at h
 obtain ⟨r,h0,h⟩:=Qae h
 rcases Qah h with ⟨h1,h⟩|⟨h1,h⟩
 ·obtain ⟨e1,h8,h⟩:=Qae h
  refine gn 14 [0,1,6,7] [0] [cC (QpS h0),nF h1,hW 10,hH (.adopt 6 1 3)] (Qtx Γ rv h8 ?_)
  obtain ⟨l2,rfl⟩:∃ x,x=e1:=⟨_,rfl⟩
  replace h:(some (l2,0):Option (List Int×Int))=some _:=h
  obtain rfl:=Option.some.inj h
  exact gr 2 [] [hW 5,hH (.frz 0),rp 3 (eL l2 QaM)]
 ·obtain rfl:=Option.some.inj h
  exact gr 8 [] [cC (QpS h0),nT h1,hW 4,hH (.nilS 4 0 1)]
theorem QuP {x0} {rv:Int} (h:QhM x0=some rv):AFn Tryz.prog 202 [.agg (Qad.enc x0)] [] (one (lI rv)) []:=by
 refine QaQ Tryz.func202 (by kernel_rfl) (by kernel_rfl) (fun Γ=>?_)
 unfold QhM at h
 rcases Qah h with ⟨h0,h⟩|⟨h0,h⟩
 ·obtain rfl:=Option.some.inj h
  exact gr 8 [] [nL Qak.enc x0.types,bT h0]
 ·obtain ⟨x1,h1,h⟩:=Qae h
  obtain rfl:=Option.some.inj h
  exact gr 9 [] [nL Qak.enc x0.types,bF h0,cE Qak.enc h1,nL QaM x1.cap]
end Go.Proofs.YtoedkepcaigkeaaGreatDoor
