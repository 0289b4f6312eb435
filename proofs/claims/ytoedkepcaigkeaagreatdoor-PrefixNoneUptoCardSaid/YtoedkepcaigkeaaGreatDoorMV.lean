/- Part MV of the proof: texts X1. -/
import Derived.Test.YtoedkepcaigkeaaGreatDoorMU
import Derived.Test.YtoedkepcaigkeaaGreatDoorProg
namespace Go.Proofs.YtoedkepcaigkeaaGreatDoor
set_option linter.unusedVariables false
set_option linter.unusedSectionVars false
set_option linter.unusedSimpArgs false
set_option maxHeartbeats 4000000
set_option maxRecDepth 100000
def QsY (Γ:Gam) (rv:Qas×Bool) (cf:Cf):Prop:=Go Tryz.prog Tryz.f181 [] Γ (.tup [.agg [lI rv.1.from_,lI rv.1.to_,lI rv.1.profile,lI rv.1.miles,lL 2 rv.1.travel Qao.enc,lL 2 rv.1.slow Qao.enc],.one (.bool rv.2)]) [] cf
def Qp1 (Γ:Gam) (rv:Qas×Bool) (n:Qam) (profile:Int) (from_:Int) (to_:Int) (v:Int):Prop:=QsY Γ rv ⟨[.c 116,.l 116,.b 0,.c 15],⟨31,[vP 8 0 6,vP 10 1 3,vL 18 6 n.arcs Qas.enc,vI 19 (lenI n.arcs),vI 20 v],[oX 6 120 [lI 0,lI 0,lI 0,lI 0,.nils,.nils],oX 3 231 [lI from_,lI to_,lI profile]]⟩⟩
def Qo8 (Γ:Gam) (rv:Qas×Bool) (n:Qam) (profile:Int) (from_:Int) (to_:Int):Prop:=QsY Γ rv ⟨[.c 15],⟨31,[vP 8 0 6],[oX 6 120 [lI 0,lI 0,lI 0,lI 0,.nils,.nils]]⟩⟩
theorem Qty (Γ:Gam) (rv:Qas×Bool) {n profile from_ to_} {s:Int} {e:(Unit)⊕(Qas×Bool)} (h:loopF (fun s=>Qhh n profile from_ to_ s) s=some e) (hD:sel e (fun e=>Qo8 Γ rv n profile from_ to_) (fun e=>e=rv)):Qp1 Γ rv n profile from_ to_ s:=by
 refine QaD (C:=fun (s:Int)=>Qp1 Γ rv n profile from_ to_ s) (D:=fun (e:(Unit)⊕(Qas×Bool))=>sel e (fun e=>Qo8 Γ rv n profile from_ to_) (fun e=>e=rv)) ?_ h hD
 clear h hD s e
 intro v z_ h hI hE
 replace h:Qhh n profile from_ to_ v=_:=h
 unfold Qhh at h
 rcases Qaj h with ⟨h0,h⟩|⟨h0,h⟩
 ·obtain ⟨x0,h1,h⟩:=Qae h
  obtain ⟨r,h2,h⟩:=Qae h
  rcases Qaj h with ⟨h3,h⟩|⟨h3,h⟩
  ·obtain rfl:=(hE _ (oJ h):_=rv)
   exact gr 14 [] [bT h0,cE Qas.enc h1,hH (.draw 4 []),cC (Qq3 h2),bT h3]
  ·exact gn 16 [8,10,18,19,20] [0,1] [bT h0,cE Qas.enc h1,hH (.draw 4 []),cC (Qq3 h2),bF h3] (hI _ (oJ h))
 ·exact gn 5 [8] [0] [bF h0] (hE _ (oJ h))
theorem Qr4 {n profile from_ to_} {rv:Qas×Bool} (h:Qne n profile from_ to_=some rv):AFn Tryz.prog 181 [.agg (Qam.enc n),.one (lI profile),.one (lI from_),.one (lI to_)] [] (.tup [.agg [lI rv.1.from_,lI rv.1.to_,lI rv.1.profile,lI rv.1.miles,lL 2 rv.1.travel Qao.enc,lL 2 rv.1.slow Qao.enc],.one (.bool rv.2)]) []:=by
 refine QaM Tryz.func181 (by kernel_rfl) (by kernel_rfl) (fun Γ=>?_)
 unfold Qne at h
 obtain ⟨e0,h4,h⟩:=Qae h
 refine gn 9 [8,10,18,19,20] [1,2] [nL Qas.enc n.arcs] (Qty Γ rv h4 ?_)
 rcases e0 with e0|e0
 ·replace h:(some ((Qas.mk 0 0 0 0 [] []),false):Option (Qas×Bool))=some _:=h
  obtain rfl:=Option.some.inj h
  exact gr 2 [] [hW 5,hH (.nilB 0 4 2),hH (.nilB 0 5 2)]
 ·obtain ⟨r1,rfl⟩:∃ x,x=e0:=⟨_,rfl⟩
  replace h:(some r1:Option (Qas×Bool))=some _:=h
  exact Option.some.inj h
theorem Qh0 {n least most} {rv:Bool} (h:QgI n least most=some rv):AFn Tryz.prog 205 [.one (lI n),.one (lI least),.one (lI most)] [] (one (.bool rv)) []:=by
 refine QaM Tryz.func205 (by kernel_rfl) (by kernel_rfl) (fun Γ=>?_)
 unfold QgI at h
 obtain rfl:=Option.some.inj h
 exact gr 4 [] [rp 4 hP,rp 2 (oI ((geI n least)=true)),oR True ((geI n least)=true)]
theorem Qvs {i} {rv:ByteArray} (h:Qrk i=some rv):AFn Tryz.prog 221 [.one (lI i)] [] (one (.str rv)) []:=by
 refine QaM Tryz.func221 (by kernel_rfl) (by kernel_rfl) (fun Γ=>?_)
 unfold Qrk at h
 rcases Qaj h with ⟨h0,h⟩|⟨h0,h⟩
 ·obtain ⟨s0,h1,h⟩:=Qae h
  obtain rfl:=Option.some.inj h
  exact gr 8 [] [bT h0,oO (ss1 h1),oO (ss2 h1),oO (ss3 h1)]
 ·obtain ⟨s1,h2,h⟩:=Qae h
  obtain rfl:=Option.some.inj h
  exact gr 9 [] [bF h0,oO (ss1 h2),oO (ss2 h2),oO (ss3 h2)]
def Qtf (Γ:Gam) (rv:ByteArray) (cf:Cf):Prop:=Go Tryz.prog Tryz.f220 [] Γ (one (.str rv)) [] cf
theorem Qkj (Γ:Gam) (rv:ByteArray) {i u} (h:QgZ i u=some rv):Qtf Γ rv ⟨[.c 431,.c 7],⟨54,[vI 0 i,vP 5 0 24,(6,one (.int .u64 u))],[oX 24 249 [.int .u8 0,.int .u8 0,.int .u8 0,.int .u8 0,.int .u8 0,.int .u8 0,.int .u8 0,.int .u8 0,.int .u8 0,.int .u8 0,.int .u8 0,.int .u8 0,.int .u8 0,.int .u8 0,.int .u8 0,.int .u8 0,.int .u8 0,.int .u8 0,.int .u8 0,.int .u8 0,.int .u8 0,.int .u8 0,.int .u8 0,.int .u8 0]]⟩⟩:=by
 unfold QgZ at h
 obtain ⟨r1,h4,h⟩:=Qae h
 cases h
theorem Qsz {i base} {rv:ByteArray} (h:QlT i base=some rv):AFn Tryz.prog 220 [.one (lI i),.one (lI base)] [] (one (.str rv)) []:=by
 refine QaM Tryz.func220 (by kernel_rfl) (by kernel_rfl) (fun Γ=>?_)
 unfold QlT at h
 rcases Qaj h with ⟨h0,h⟩|⟨h0,h⟩
 ·rcases Qaj h with ⟨h1,h⟩|⟨h1,h⟩
  ·obtain ⟨r,h2,h⟩:=Qae h
   obtain rfl:=Option.some.inj h
   exact gr 12 [] [bT h0,hP,hP,hP,oI ((leI 0 i)=true),oR True ((leI 0 i)=true),bT h1,cC (Qvs h2)]
  ·rcases Qaj h with ⟨h3,h⟩|⟨h3,h⟩
   ·exact gn 20 [0,5,6] [0] [bT h0,hP,hP,hP,oI ((leI 0 i)=true),oR True ((leI 0 i)=true),bF h1,bT h3] (Qkj Γ rv h)
   ·exact gn 20 [0,5,6] [0] [bT h0,hP,hP,hP,oI ((leI 0 i)=true),oR True ((leI 0 i)=true),bF h1,bF h3] (Qkj Γ rv h)
 ·cases h
theorem QvJ {i} {rv:ByteArray} (h:QsA i=some rv):AFn Tryz.prog 218 [.one (lI i)] [] (one (.str rv)) []:=by
 refine QaM Tryz.func218 (by kernel_rfl) (by kernel_rfl) (fun Γ=>?_)
 unfold QsA at h
 obtain ⟨r,h0,h⟩:=Qae h
 obtain rfl:=Option.some.inj h
 exact gr 4 [] [cC (Qsz h0)]
theorem Qqc {i} {rv:ByteArray} (h:QmI i=some rv):AFn Tryz.prog 214 [.one (lI i)] [] (one (.str rv)) []:=by
 refine QaM Tryz.func214 (by kernel_rfl) (by kernel_rfl) (fun Γ=>?_)
 unfold QmI at h
 obtain ⟨r,h0,h⟩:=Qae h
 obtain rfl:=Option.some.inj h
 exact gr 4 [] [cC (QvJ h0)]
def QmJ (Γ:Gam) (rv:List Qab) (cf:Cf):Prop:=Go Tryz.prog Tryz.f210 [] Γ (one (lL 2 rv Qab.enc)) [] cf
def QlU (Γ:Gam) (rv:List Qab) (l:List Qao) (l2:List Qab) (v:Int):Prop:=QmJ Γ rv ⟨[.c 244,.l 244,.b 0,.c 31],⟨83,[vL 0 2 l Qao.enc,vO 3 0 2 l2 Qab.enc,vL 19 2 l Qao.enc,vI 20 (lenI l),vI 21 v],[oS 2 151 l2 Qab.enc]⟩⟩
def Qkv (Γ:Gam) (rv:List Qab) (l:List Qao) (l4:List Qab):Prop:=QmJ Γ rv ⟨[.c 31],⟨83,[vO 3 0 2 l4 Qab.enc],[oS 2 151 l4 Qab.enc]⟩⟩
theorem Qpt (Γ:Gam) (rv:List Qab) {l v x0 r l3} {x:(List Qab×Int)⊕(List Qab)} (h:QiL l v x0 r l3=some x) (hI:∀ s:List Qab×Int,x=.inl s→QlU Γ rv l s.1 s.2) (hE:∀ e:List Qab,x=.inr e→Qkv Γ rv l e):QmJ Γ rv ⟨[.c 31335,.b 1,.c 1959,.l 244,.b 0,.c 31],⟨83,[vL 0 2 l Qao.enc,vO 3 0 2 l3 Qab.enc,vI 4 v,vP 5 1 2,vS 6 r,vL 19 2 l Qao.enc,vI 20 (lenI l),vI 21 v],[oS 2 151 l3 Qab.enc,oX 2 117 (Qao.enc x0)]⟩⟩:=by
 unfold QiL at h
 rcases Qaj h with ⟨h8,h⟩|⟨h8,h⟩
 ·obtain ⟨x1,h9,h⟩:=Qae h
  rcases Qaj h with ⟨h10,h⟩|⟨h10,h⟩
  ·obtain ⟨h11,h⟩:=Qax h
   exact gn 7 [0,3,19,20,21] [3] [hH (.draw 24 []),rp 6 (bT h8),cE Qao.enc h9,rp 4 (bT h8),rp 9 (bT h10),bT h8,bT h10,bT h8,tT,oO (Eq.refl ([(Qab.mk 13 r)].map Qab.enc).length),aO Qab.enc h11] (hI _ (oJ h))
  ·rcases Qaj h with ⟨h12,h⟩|⟨h12,h⟩
   ·obtain ⟨h13,h⟩:=Qax h
    exact gn 7 [0,3,19,20,21] [3] [hH (.draw 24 []),rp 6 (bT h8),cE Qao.enc h9,rp 4 (bT h8),rp 6 (bF h10),cE Qao.enc h9,rp 3 (bF h10),bT h8,bF h10,bT h8,bT h12,oO (Eq.refl ([(Qab.mk 13 r)].map Qab.enc).length),aO Qab.enc h13] (hI _ (oJ h))
   ·exact gn 7 [0,3,19,20,21] [0] [hH (.draw 24 []),rp 6 (bT h8),cE Qao.enc h9,rp 4 (bT h8),rp 6 (bF h10),cE Qao.enc h9,rp 3 (bF h10),bT h8,bF h10,bT h8,bF h12] (hI _ (oJ h))
 ·exact gn 7 [0,3,19,20,21] [0] [hH (.draw 24 []),rp 10 (bF h8),rp 9 kF,bF h8,bF h8,fF] (hI _ (oJ h))
theorem QtO (Γ:Gam) (rv:List Qab) {l} {s:List Qab×Int} {e:List Qab} (h:loopF (fun s=>Qeo l s.1 s.2) s=some e) (hD:Qkv Γ rv l e):QlU Γ rv l s.1 s.2:=by
 refine QaD (C:=fun (s:List Qab×Int)=>QlU Γ rv l s.1 s.2) (D:=fun (e:List Qab)=>Qkv Γ rv l e) ?_ h hD
 clear h hD s e
 rintro ⟨l2,v⟩ z_ h hI hE
 replace h:Qeo l l2 v=_:=h
 unfold Qeo at h
 rcases Qaj h with ⟨h2,h⟩|⟨h2,h⟩
 ·obtain ⟨x0,h3,h⟩:=Qae h
  obtain ⟨r,h4,h⟩:=Qae h
  obtain ⟨r1,h5,h⟩:=Qae h
  rcases Qaj h with ⟨h6,h⟩|⟨h6,h⟩
  ·obtain ⟨h7,h⟩:=Qax h
   exact gn 16 [0,3,4,5,6,19,20,21] [3,1] [bT h2,cE Qao.enc h3,cC (Qqc h4),cC (Qh0 h5),rp 13 hP,rp 4 (oI ((!r1)=false)),oR True ((!r1)=false),rp 5 (oI (((!r1)||(ltI x0.a x0.t))=false)),oR True (((!r1)||(ltI x0.a x0.t))=false),bT h6,oO (Eq.refl ([(Qab.mk 2 r)].map Qab.enc).length),aO Qab.enc h7] (Qpt Γ rv h hI hE)
  ·exact gn 16 [0,3,4,5,6,19,20,21] [0,1] [bT h2,cE Qao.enc h3,cC (Qqc h4),cC (Qh0 h5),rp 13 hP,rp 4 (oI ((!r1)=false)),oR True ((!r1)=false),rp 5 (oI (((!r1)||(ltI x0.a x0.t))=false)),oR True (((!r1)||(ltI x0.a x0.t))=false),bF h6] (Qpt Γ rv h hI hE)
 ·exact gn 5 [3] [0] [bF h2] (hE _ (oJ h))
theorem Qps (Γ:Gam) (rv:List Qab) {l l1} (h:QiK l l1=some rv):QmJ Γ rv ⟨[.c 15],⟨83,[vL 0 2 l Qao.enc,vO 3 0 2 l1 Qab.enc],[oS 2 151 l1 Qab.enc]⟩⟩:=by
 unfold QiK at h
 obtain ⟨e0,h14,h⟩:=Qae h
 refine gn 5 [0,3,19,20,21] [0] [nL Qao.enc l] (QtO Γ rv h14 ?_)
 obtain ⟨l4,rfl⟩:∃ x,x=e0:=⟨_,rfl⟩
 replace h:(some l4:Option (List Qab))=some _:=h
 obtain rfl:=Option.some.inj h
 exact gr 2 [] [hW 4,hH (.frz 0),rp 3 (eL l4 Qab.enc)]
theorem QvK {l} {rv:List Qab} (h:Qnz l=some rv):AFn Tryz.prog 210 [.one (lL 2 l Qao.enc)] [] (one (lL 2 rv Qab.enc)) []:=by
 refine QaM Tryz.func210 (by kernel_rfl) (by kernel_rfl) (fun Γ=>?_)
 unfold Qnz at h
 rcases Qaj h with ⟨h0,h⟩|⟨h0,h⟩
 ·obtain ⟨h1,h⟩:=Qax h
  exact gn 9 [0,3] [1] [nL Qao.enc l,hP,hP,oI ((eqI (lenI l) 0)=false),nL Qao.enc l,hP,hP,oI ((eqI (lenI l) 0)=false),oR True ((eqI (lenI l) 0)=false),bT h0,oO (Eq.refl ([(Qab.mk 4 ByteArray.empty)].map Qab.enc).length),aN (l:=([(Qab.mk 4 ByteArray.empty)]:List Qab)) Qab.enc h1] (Qps Γ rv h)
 ·exact gn 9 [0,3] [0] [nL Qao.enc l,hP,hP,oI ((eqI (lenI l) 0)=false),nL Qao.enc l,hP,hP,oI ((eqI (lenI l) 0)=false),oR True ((eqI (lenI l) 0)=false),bF h0,hW 1,hH (.adopt 3 2 151)] (Qps Γ rv h)
theorem Qsb {l} {rv:Bool} (h:QnA l=some rv):AFn Tryz.prog 206 [.one (lL 2 l Qao.enc)] [] (one (.bool rv)) []:=by
 refine QaM Tryz.func206 (by kernel_rfl) (by kernel_rfl) (fun Γ=>?_)
 unfold QnA at h
 obtain ⟨r,h0,h⟩:=Qae h
 obtain rfl:=Option.some.inj h
 exact gr 4 [] [cC (QvK h0),nL Qab.enc r]
theorem Qkw {p t} {rv:Int} (h:Qgb p t=some rv):AFn Tryz.prog 212 [.agg (Qao.enc p),.one (lI t)] [] (one (lI rv)) []:=by
 refine QaM Tryz.func212 (by kernel_rfl) (by kernel_rfl) (fun Γ=>?_)
 unfold Qgb at h
 obtain rfl:=Option.some.inj h
 exact gr 4 [] []
def Qb2 (Γ:Gam) (rv:Int×Bool) (cf:Cf):Prop:=Go Tryz.prog Tryz.f211 [] Γ (.tup [.one (lI rv.1),.one (.bool rv.2)]) [] cf
def QbY (Γ:Gam) (rv:Int×Bool) (x0:List Qao) (target:Int) (i:Int) (j:Int):Prop:=Qb2 Γ rv ⟨[.c 120,.l 120,.b 0,.c 31],⟨49,[vL 0 2 x0 Qao.enc,vI 1 target,(2,one (.fn (.func 212) [])),vI 8 (lenI x0),vI 9 i,vI 10 j],[]⟩⟩
def QbM (Γ:Gam) (rv:Int×Bool) (x0:List Qao) (target:Int) (i1:Int):Prop:=Qb2 Γ rv ⟨[.c 31],⟨49,[vL 0 2 x0 Qao.enc,vI 1 target,(2,one (.fn (.func 212) [])),vI 8 (lenI x0),vI 9 i1],[]⟩⟩
theorem Qdx (Γ:Gam) (rv:Int×Bool) {x0 target} {s:Int×Int} {e:Int} (h:loopF (fun s=>QaK x0 target s.1 s.2) s=some e) (hD:QbM Γ rv x0 target e):QbY Γ rv x0 target s.1 s.2:=by
 refine QaD (C:=fun (s:Int×Int)=>QbY Γ rv x0 target s.1 s.2) (D:=fun (e:Int)=>QbM Γ rv x0 target e) ?_ h hD
 clear h hD s e
 rintro ⟨i,j⟩ z_ h hI hE
 replace h:QaK x0 target i j=_:=h
 unfold QaK at h
 rcases Qaj h with ⟨h0,h⟩|⟨h0,h⟩
 ·obtain ⟨x1,h1,h⟩:=Qae h
  obtain ⟨r,h2,h⟩:=Qae h
  rcases Qaj h with ⟨h3,h⟩|⟨h3,h⟩
  ·exact gn 14 [0,1,2,8,9,10] [] [bT h0,oO (zL 1),cE Qao.enc h1,cC (Qkw h2),bT h3] (hI _ (oJ h))
  ·exact gn 14 [0,1,2,8,9,10] [] [bT h0,oO (zL 1),cE Qao.enc h1,cC (Qkw h2),bF h3] (hI _ (oJ h))
 ·exact gn 5 [0,1,2,8,9] [] [bF h0] (hE _ (oJ h))
theorem QaZ {x0 target} {rv:Int×Bool} (h:Qa4 x0 target=some rv):AFn Tryz.prog 211 [.one (lL 2 x0 Qao.enc),.one (lI target),.one (.fn (.func 212) [])] [] (.tup [.one (lI rv.1),.one (.bool rv.2)]) []:=by
 refine QaM Tryz.func211 (by kernel_rfl) (by kernel_rfl) (fun Γ=>?_)
 unfold Qa4 at h
 obtain ⟨e0,h4,h⟩:=Qae h
 refine gn 9 [0,1,2,8,9,10] [] [nL Qao.enc x0] (Qdx Γ rv h4 ?_)
 obtain ⟨i1,rfl⟩:∃ x,x=e0:=⟨_,rfl⟩
 replace h:(br (ltI i1 (lenI x0)) (bnd (getI x0 i1) fun x2=>bnd (Qgb x2 target) fun r1=>some (i1,(eqI r1 0))) (some (i1,false)):Option (Int×Bool))=some _:=h
 rcases Qaj h with ⟨h5,h⟩|⟨h5,h⟩
 ·obtain ⟨x2,h6,h⟩:=Qae h
  obtain ⟨r1,h7,h⟩:=Qae h
  obtain rfl:=Option.some.inj h
  exact gr 2 [] [rp 4 (bT h5),cE Qao.enc h6,rp 3 (bT h5),cC (Qkw h7),bT h5,bT h5]
 ·obtain rfl:=Option.some.inj h
  exact gr 2 [] [rp 9 (bF h5)]
theorem Qvv {l t} {rv:Int} (h:QlI l t=some rv):AFn Tryz.prog 207 [.one (lL 2 l Qao.enc),.one (lI t)] [] (one (lI rv)) []:=by
 refine QaM Tryz.func207 (by kernel_rfl) (by kernel_rfl) (fun Γ=>?_)
 unfold QlI at h
 obtain ⟨r,h0,h⟩:=Qae h
 rcases Qaj h with ⟨h1,h⟩|⟨h1,h⟩
 ·obtain ⟨x0,h2,h⟩:=Qae h
  obtain rfl:=Option.some.inj h
  exact gr 11 [] [cC (QaZ h0),bT h1,cE Qao.enc h2]
 ·rcases Qaj h with ⟨h3,h⟩|⟨h3,h⟩
  ·obtain ⟨x1,h4,h⟩:=Qae h
   obtain rfl:=Option.some.inj h
   exact gr 14 [] [cC (QaZ h0),bF h1,bT h3,hH (.draw 12 []),rp 2 (cE Qao.enc h4)]
  ·rcases Qaj h with ⟨h5,h⟩|⟨h5,h⟩
   ·obtain ⟨x2,h6,h⟩:=Qae h
    obtain rfl:=Option.some.inj h
    exact gr 17 [] [cC (QaZ h0),bF h1,bF h3,nL Qao.enc l,bT h5,hH (.draw 16 []),rp 2 (cE Qao.enc h6)]
   ·obtain ⟨x3,h7,h⟩:=Qae h
    obtain ⟨x4,h8,h⟩:=Qae h
    obtain ⟨h9,h⟩:=Qax h
    obtain rfl:=Option.some.inj h
    exact gr 23 [] [cC (QaZ h0),bF h1,bF h3,nL Qao.enc l,bF h5,hH (.draw 13 [(0,11),(1,12)]),cE Qao.enc h7,cE Qao.enc h8,hH (.draw 19 []),oO (h9)]
theorem Qvu {l t} {rv:Int} (h:QlH l t=some rv):AFn Tryz.prog 200 [.one (lL 2 l Qao.enc),.one (lI t)] [] (one (lI rv)) []:=by
 refine QaM Tryz.func200 (by kernel_rfl) (by kernel_rfl) (fun Γ=>?_)
 unfold QlH at h
 obtain ⟨r,h0,h⟩:=Qae h
 rcases Qaj h with ⟨h1,h⟩|⟨h1,h⟩
 ·obtain ⟨r1,h2,h⟩:=Qae h
  rcases Qaj h with ⟨h3,h⟩|⟨h3,h⟩
  ·obtain ⟨r2,h4,h⟩:=Qae h
   obtain rfl:=Option.some.inj h
   exact gr 9 [] [cC (Qh0 h0),nF h1,nF h1,cC (Qsb h2),nF h1,nF h1,nF h3,cC (Qvv h4)]
  ·obtain rfl:=Option.some.inj h
   exact gr 8 [] [cC (Qh0 h0),nF h1,nF h1,cC (Qsb h2),nF h1,nF h1,nT h3]
 ·obtain rfl:=Option.some.inj h
  exact gr 8 [] [cC (Qh0 h0),rp 4 (nT h1),tT]
def Qp2 (Γ:Gam) (rv:Int) (cf:Cf):Prop:=Go Tryz.prog Tryz.f182 [] Γ (one (lI rv)) [] cf
def Qng (Γ:Gam) (rv:Int) (a:Qas) (t:Int) (out:Int) (v:Int):Prop:=Qp2 Γ rv ⟨[.c 116,.l 116,.b 0,.c 15],⟨29,[vI 1 t,vI 5 out,vL 13 2 a.slow Qao.enc,vI 14 (lenI a.slow),vI 15 v],[]⟩⟩
def Qmx (Γ:Gam) (rv:Int) (a:Qas) (t:Int) (out1:Int):Prop:=Qp2 Γ rv ⟨[.c 15],⟨29,[vI 5 out1],[]⟩⟩
theorem QrQ (Γ:Gam) (rv:Int) {a t} {s:Int×Int} {e:Int} (h:loopF (fun s=>Qh9 a t s.1 s.2) s=some e) (hD:Qmx Γ rv a t e):Qng Γ rv a t s.1 s.2:=by
 refine QaD (C:=fun (s:Int×Int)=>Qng Γ rv a t s.1 s.2) (D:=fun (e:Int)=>Qmx Γ rv a t e) ?_ h hD
 clear h hD s e
 rintro ⟨out,v⟩ z_ h hI hE
 replace h:Qh9 a t out v=_:=h
 unfold Qh9 at h
 rcases Qaj h with ⟨h1,h⟩|⟨h1,h⟩
 ·obtain ⟨x0,h2,h⟩:=Qae h
  rcases Qaj h with ⟨h3,h⟩|⟨h3,h⟩
  ·exact gn 16 [1,5,13,14,15] [] [bT h1,cE Qao.enc h2,bT h3] (hI _ (oJ h))
  ·exact gn 16 [1,5,13,14,15] [] [bT h1,cE Qao.enc h2,bF h3] (hI _ (oJ h))
 ·exact gn 5 [5] [] [bF h1] (hE _ (oJ h))
theorem Qtz {a t} {rv:Int} (h:QiG a t=some rv):AFn Tryz.prog 182 [.agg (Qas.enc a),.one (lI t)] [] (one (lI rv)) []:=by
 refine QaM Tryz.func182 (by kernel_rfl) (by kernel_rfl) (fun Γ=>?_)
 unfold QiG at h
 obtain ⟨r,h0,h⟩:=Qae h
 obtain ⟨e0,h4,h⟩:=Qae h
 refine gn 9 [1,5,13,14,15] [] [cC (Qvu h0),nL Qao.enc a.slow] (QrQ Γ rv h4 ?_)
 obtain ⟨out1,rfl⟩:∃ x,x=e0:=⟨_,rfl⟩
 replace h:(some out1:Option Int)=some _:=h
 obtain rfl:=Option.some.inj h
 exact gr 2 [] []
theorem QgF {n profile from_ to_ t} {rv:Int×Int×Int} (h:Qnf n profile from_ to_ t=some rv):AFn Tryz.prog 134 [.agg (Qam.enc n),.one (lI profile),.one (lI from_),.one (lI to_),.one (lI t)] [] (.tup [.one (lI rv.1),.one (lI rv.2.1),.one (lI rv.2.2)]) []:=by
 refine QaM Tryz.func134 (by kernel_rfl) (by kernel_rfl) (fun Γ=>?_)
 unfold Qnf at h
 obtain ⟨r,h0,h⟩:=Qae h
 rcases Qaj h with ⟨h1,h⟩|⟨h1,h⟩
 ·obtain ⟨r1,h2,h⟩:=Qae h
  rcases Qaj h with ⟨h3,h⟩|⟨h3,h⟩
  ·rcases Qaj h with ⟨h4,h⟩|⟨h4,h⟩
   ·obtain rfl:=Option.some.inj h
    exact gr 13 [] [cC (QdE h0),rp 3 (nF h1),cC (QdE h2),nF h1,nF h1,nF h3,bT h4]
   ·obtain ⟨r2,h5,h⟩:=Qae h
    rcases Qaj h with ⟨h6,h⟩|⟨h6,h⟩
    ·obtain ⟨r3,h7,h⟩:=Qae h
     obtain rfl:=Option.some.inj h
     exact gr 21 [] [cC (QdE h0),rp 3 (nF h1),cC (QdE h2),nF h1,nF h1,nF h3,bF h4,cC (Qr4 h5),nF h6,hH (.draw 8 []),cC (Qtz h7)]
    ·obtain rfl:=Option.some.inj h
     exact gr 20 [] [cC (QdE h0),rp 3 (nF h1),cC (QdE h2),nF h1,nF h1,nF h3,bF h4,cC (Qr4 h5),nT h6]
  ·obtain rfl:=Option.some.inj h
   exact gr 8 [] [cC (QdE h0),rp 3 (nF h1),cC (QdE h2),nF h1,nF h1,nT h3]
 ·obtain rfl:=Option.some.inj h
  exact gr 8 [] [cC (QdE h0),rp 5 (nT h1),tT]
theorem QkF {s0 arrive} {rv:Int×Int} (h:Qkx s0 arrive=some rv):AFn Tryz.prog 183 [.agg (Qau.enc s0),.one (lI arrive)] [] (.tup [.one (lI rv.1),.one (lI rv.2)]) []:=by
 refine QaM Tryz.func183 (by kernel_rfl) (by kernel_rfl) (fun Γ=>?_)
 unfold Qkx at h
 rcases Qaj h with ⟨h0,h⟩|⟨h0,h⟩
 ·obtain rfl:=Option.some.inj h
  exact gr 10 [] [bT h0]
 ·obtain rfl:=Option.some.inj h
  exact gr 11 [] [bF h0]
theorem QfJ {p visits} {rv:Int} (h:Qgi p visits=some rv):AFn Tryz.prog 197 [.agg (Qaz.enc p),.one (lI visits)] [] (one (lI rv)) []:=by
 refine QaM Tryz.func197 (by kernel_rfl) (by kernel_rfl) (fun Γ=>?_)
 unfold Qgi at h
 rcases Qaj h with ⟨h0,h⟩|⟨h0,h⟩
 ·obtain rfl:=Option.some.inj h
  exact gr 8 [] [bT h0]
 ·obtain ⟨x0,h1,h⟩:=Qae h
  obtain rfl:=Option.some.inj h
  exact gr 9 [] [bF h0,cE Qau.enc h1]
theorem Qeu {s0} {rv:List Qar} (h:QbB s0=some rv):AFn Tryz.prog 196 [.one (lL 4 s0 Qar.enc)] [] (one (lO 0 4 rv Qar.enc)) [oS 4 227 rv Qar.enc]:=by
 refine QaM Tryz.func196 (by kernel_rfl) (by kernel_rfl) (fun Γ=>?_)
 unfold QbB at h
 rcases Qaj h with ⟨h0,h⟩|⟨h0,h⟩
 ·obtain ⟨hx,h⟩:=QzX h
  refine gn 5 [0,4] [] [hH (.skip)] (cf':=⟨[.c 13,.c 7],⟨8,[vL 0 4 s0 Qar.enc,(4,.boo)],[]⟩⟩) (QEB 4 rfl ?_ ?_)
  ·replace h:=hx
   obtain rfl:=Option.some.inj h
   exact gr 3 [0] [tT,hW 3,hH (.adopt 2 4 227)]
  ·obtain ⟨h1,h⟩:=Qax h
   obtain rfl:=Option.some.inj h
   exact gr 4 [0] [fF,aZ Qar.enc h1]
 ·obtain ⟨h2,h⟩:=Qax h
  obtain rfl:=Option.some.inj h
  exact gr 9 [0] [oO (neE Qar.enc h0),fF,hH (.bit false),aZ Qar.enc h2]
def QiO (Γ:Gam) (rv:Qaf×Int) (cf:Cf):Prop:=Go Tryz.prog Tryz.f176 [] Γ (.tup [.agg [lI rv.1.ready,lI rv.1.since,.bool rv.1.sheet.rest_,lI rv.1.sheet.depart,lL 4 rv.1.sheet.times Qar.enc,lI rv.1.sheet.end_,lI rv.1.sheet.miles],.one (lI rv.2)]) [] cf
theorem Ql2 (Γ:Gam) (rv:Qaf×Int) {p l depart since rest_1 depart1 r2 l2 ready end_} (h:Qfa p l depart since rest_1 depart1 r2 l2 ready end_=some rv):QiO Γ rv ⟨[.c 32767],⟨163,[vP 4 0 25,vP 8 1 7,vP 12 2 7],[oX 25 173 (Qaz.enc p),oX 7 177 [lI 0,lI 0,.bool false,lI 0,.nils,lI 0,lI 0],oX 7 177 [lI ready,lI (subK .i64 (addK .i64 since r2.1) depart),.bool rest_1,lI depart1,lO 3 4 l2 Qar.enc,lI end_,lI (addK .i64 l.sheet.miles r2.2.1)],oS 4 227 l2 Qar.enc]⟩⟩:=by
 unfold Qfa at h
 rcases Qaj h with ⟨h15,h⟩|⟨h15,h⟩
 ·obtain rfl:=Option.some.inj h
  exact gr 6 [] [bT h15,hW 5,hH (.nilB 1 4 4)]
 ·obtain rfl:=Option.some.inj h
  exact gr 7 [] [bF h15,hW 6,hH (.frz 3),rp 3 (eL l2 Qar.enc)]
theorem Ql1 (Γ:Gam) (rv:Qaf×Int) {p l done depart since l1 rest_1 depart1 to_} (h:Qd3 p l done depart since l1 rest_1 depart1 to_=some rv):QiO Γ rv ⟨[.c 1023],⟨163,[vI 2 done,vP 4 0 25,vP 8 1 7,vI 10 depart,vI 11 since,vP 12 2 7,vB 13 (eqI done (lenI p.stops)),vI 14 to_],[oX 25 173 (Qaz.enc p),oX 7 177 [lI 0,lI 0,.bool false,lI 0,.nils,lI 0,lI 0],oX 7 177 [lI 0,lI 0,.bool rest_1,lI depart1,lO 3 4 l1 Qar.enc,lI l.sheet.end_,lI l.sheet.miles],oS 4 227 l1 Qar.enc]⟩⟩:=by
 unfold Qd3 at h
 obtain ⟨r1,h6,h⟩:=Qae h
 obtain ⟨r2,h7,h⟩:=Qae h
 rcases Qaj h with ⟨h8,h⟩|⟨h8,h⟩
 ·obtain rfl:=Option.some.inj h
  exact gr 8 [] [hH (.draw 19 []),cC (QfJ h6),cC (QgF h7),bT h8,hW 5,hH (.nilB 1 4 4)]
 ·rcases Qaj h with ⟨h9,h⟩|⟨h9,h⟩
  ·rcases Qaj h with ⟨h10,h⟩|⟨h10,h⟩
   ·obtain rfl:=Option.some.inj h
    exact gr 21 [] [hH (.draw 19 []),cC (QfJ h6),cC (QgF h7),bF h8,bT h9,bT h10,hW 5,hH (.nilB 1 4 4)]
   ·exact gn 23 [4,8,12] [0,1,2,3] [hH (.draw 19 []),cC (QfJ h6),cC (QgF h7),bF h8,bT h9,bF h10] (Ql2 Γ rv h)
  ·obtain ⟨x2,h11,h⟩:=Qae h
   obtain ⟨r3,h12,h⟩:=Qae h
   rcases Qaj h with ⟨h13,h⟩|⟨h13,h⟩
   ·obtain rfl:=Option.some.inj h
    exact gr 23 [] [hH (.draw 19 []),cC (QfJ h6),cC (QgF h7),bF h8,bF h9,cE Qau.enc h11,cC (QkF h12),bT h13,hW 5,hH (.nilB 1 4 4)]
   ·obtain ⟨h14,h⟩:=Qax h
    exact gn 25 [4,8,12] [0,1,2,5] [hH (.draw 19 []),cC (QfJ h6),cC (QgF h7),bF h8,bF h9,cE Qau.enc h11,cC (QkF h12),bF h13,cE Qau.enc h11,oO (Eq.refl ([(Qar.mk r2.1 r3.1 0 false)].map Qar.enc).length),aO Qar.enc h14] (Ql2 Γ rv h)
theorem Ql0 (Γ:Gam) (rv:Qaf×Int) {p l done depart since l1 rest_1 depart1} (h:Qe9 p l done depart since l1 rest_1 depart1=some rv):QiO Γ rv ⟨[.c 127],⟨163,[vI 2 done,vP 4 0 25,vP 8 1 7,vI 10 depart,vI 11 since,vP 12 2 7],[oX 25 173 (Qaz.enc p),oX 7 177 [lI 0,lI 0,.bool false,lI 0,.nils,lI 0,lI 0],oX 7 177 [lI 0,lI 0,.bool rest_1,lI depart1,lO 3 4 l1 Qar.enc,lI l.sheet.end_,lI l.sheet.miles],oS 4 227 l1 Qar.enc]⟩⟩:=by
 unfold Qe9 at h
 rcases Qaj h with ⟨h4,h⟩|⟨h4,h⟩
 ·exact gn 9 [2,4,8,10,11,12,13,14] [0,1,2,3] [nL Qau.enc p.stops,nF h4] (Ql1 Γ rv h)
 ·obtain ⟨x1,h5,h⟩:=Qae h
  exact gn 9 [2,4,8,10,11,12,13,14] [0,1,2,3] [nL Qau.enc p.stops,nT h4,cE Qau.enc h5] (Ql1 Γ rv h)
theorem QlZ (Γ:Gam) (rv:Qaf×Int) {p l done rest_ depart since} (h:Qe8 p l done rest_ depart since=some rv):QiO Γ rv ⟨[.c 15],⟨163,[vI 2 done,vB 3 rest_,vP 4 0 25,vP 5 1 7,vP 8 2 7,vI 10 depart,vI 11 since],[oX 25 173 (Qaz.enc p),oX 7 177 (Qaf.enc l),oX 7 177 [lI 0,lI 0,.bool false,lI 0,.nils,lI 0,lI 0]]⟩⟩:=by
 unfold Qe8 at h
 obtain ⟨r,h1,h⟩:=Qae h
 rcases Qaj h with ⟨h2,h⟩|⟨h2,h⟩
 ·exact gn 11 [2,4,8,10,11,12] [0,2,3,4] [cC (Qeu h1),bT h2] (Ql0 Γ rv h)
 ·obtain ⟨x0,h3,h⟩:=Qae h
  exact gn 11 [2,4,8,10,11,12] [0,2,3,4] [cC (Qeu h1),bF h2,oO (getLo h3),oO (getHi Qar.enc h3),rE Qar.enc h3,hH (.rows ((setI r (subK .i64 done 1) (Qar.mk x0.arrive x0.begin x0.depart rest_)).map Qar.enc)),hH (.relen 4 ((setI r (subK .i64 done 1) (Qar.mk x0.arrive x0.begin x0.depart rest_)).map Qar.enc).length),oO (setM Qar.enc r (subK .i64 done 1) (Qar.mk x0.arrive x0.begin x0.depart rest_)),rp 3 (oO (QxY Qar.enc r (subK .i64 done 1) (Qar.mk x0.arrive x0.begin x0.depart rest_))),oO (getLo (QDx h3 (Qar.mk x0.arrive x0.begin x0.depart rest_))),oO (getHi Qar.enc (QDx h3 (Qar.mk x0.arrive x0.begin x0.depart rest_))),rE Qar.enc (QDx h3 (Qar.mk x0.arrive x0.begin x0.depart rest_)),hH (.rows ((setI (setI r (subK .i64 done 1) (Qar.mk x0.arrive x0.begin x0.depart rest_)) (subK .i64 done 1) (Qar.mk x0.arrive x0.begin depart rest_)).map Qar.enc)),hH (.relen 4 ((setI (setI r (subK .i64 done 1) (Qar.mk x0.arrive x0.begin x0.depart rest_)) (subK .i64 done 1) (Qar.mk x0.arrive x0.begin depart rest_)).map Qar.enc).length),oO (setM Qar.enc (setI r (subK .i64 done 1) (Qar.mk x0.arrive x0.begin x0.depart rest_)) (subK .i64 done 1) (Qar.mk x0.arrive x0.begin depart rest_)),rp 4 (oO (QxY Qar.enc (setI r (subK .i64 done 1) (Qar.mk x0.arrive x0.begin x0.depart rest_)) (subK .i64 done 1) (Qar.mk x0.arrive x0.begin depart rest_)))] (Ql0 Γ rv h)
theorem Qgh {p l done rest_} {rv:Qaf×Int} (h:Qe3 p l done rest_=some rv):AFn Tryz.prog 176 [.agg (Qaz.enc p),.agg (Qaf.enc l),.one (lI done),.one (.bool rest_)] [] (.tup [.agg [lI rv.1.ready,lI rv.1.since,.bool rv.1.sheet.rest_,lI rv.1.sheet.depart,lL 4 rv.1.sheet.times Qar.enc,lI rv.1.sheet.end_,lI rv.1.sheet.miles],.one (lI rv.2)]) []:=by
 refine QaM Tryz.func176 (by kernel_rfl) (by kernel_rfl) (fun Γ=>?_)
 unfold Qe3 at h
 rcases Qaj h with ⟨h0,h⟩|⟨h0,h⟩
 ·exact gn 11 [2,3,4,5,8,10,11] [0,1,2] [hH (.draw 6 []),bT h0] (QlZ Γ rv h)
 ·exact gn 9 [2,3,4,5,8,10,11] [0,1,2] [hH (.draw 6 []),bF h0] (QlZ Γ rv h)
theorem Qse {l m} {rv:Bool} (h:QlK l m=some rv):AFn Tryz.prog 179 [.agg (Qaf.enc l),.agg (Qaf.enc m)] [] (one (.bool rv)) []:=by
 refine QaM Tryz.func179 (by kernel_rfl) (by kernel_rfl) (fun Γ=>?_)
 unfold QlK at h
 obtain rfl:=Option.some.inj h
 exact gr 4 [] [rp 6 hP,rp 4 (oI ((eqI l.ready m.ready)=true)),oR True ((eqI l.ready m.ready)=true)]
theorem QmT {m c} {rv:Bool} (h:Qg2 m c=some rv):AFn Tryz.prog 178 [.agg (Qaf.enc m),.one (.ip (Qaf.enc c) 0)] [] (one (.bool rv)) []:=by
 refine QaM Tryz.func178 (by kernel_rfl) (by kernel_rfl) (fun Γ=>?_)
 unfold Qg2 at h
 obtain ⟨r,h0,h⟩:=Qae h
 obtain rfl:=Option.some.inj h
 exact gr 4 [] [cC (Qse h0)]
def QcO (Γ:Gam) (rv:Int) (cf:Cf):Prop:=Go Tryz.prog Tryz.f198 [] Γ (one (lI rv)) [] cf
def Qcv (Γ:Gam) (rv:Int) (s0:List Qaf) (c:Qaf) (v:Int):Prop:=QcO Γ rv ⟨[.c 52,.l 52,.b 0,.c 7],⟨19,[vL 0 7 s0 Qaf.enc,(1,one (.fn (.func 178) [.ip (Qaf.enc c) 0])),vI 7 (lenI s0),vI 8 v],[]⟩⟩
def Qcr (Γ:Gam) (rv:Int) (s0:List Qaf) (c:Qaf):Prop:=QcO Γ rv ⟨[.c 7],⟨19,[],[]⟩⟩
theorem QeS (Γ:Gam) (rv:Int) {s0 c} {s:Int} {e:(Unit)⊕(Int)} (h:loopF (fun s=>Qay s0 c s) s=some e) (hD:sel e (fun e=>Qcr Γ rv s0 c) (fun e=>e=rv)):Qcv Γ rv s0 c s:=by
 refine QaD (C:=fun (s:Int)=>Qcv Γ rv s0 c s) (D:=fun (e:(Unit)⊕(Int))=>sel e (fun e=>Qcr Γ rv s0 c) (fun e=>e=rv)) ?_ h hD
 clear h hD s e
 intro v z_ h hI hE
 replace h:Qay s0 c v=_:=h
 unfold Qay at h
 rcases Qaj h with ⟨h0,h⟩|⟨h0,h⟩
 ·obtain ⟨x0,h1,h⟩:=Qae h
  obtain ⟨r,h2,h⟩:=Qae h
  rcases Qaj h with ⟨h3,h⟩|⟨h3,h⟩
  ·obtain rfl:=(hE _ (oJ h):_=rv)
   exact gr 14 [] [bT h0,cE Qaf.enc h1,cC (QmT h2),bT h3]
  ·exact gn 16 [0,1,7,8] [] [bT h0,cE Qaf.enc h1,cC (QmT h2),bF h3] (hI _ (oJ h))
 ·exact gn 5 [] [] [bF h0] (hE _ (oJ h))
theorem Qfo {s0 c} {rv:Int} (h:Qbe s0 c=some rv):AFn Tryz.prog 198 [.one (lL 7 s0 Qaf.enc),.one (.fn (.func 178) [.ip (Qaf.enc c) 0])] [] (one (lI rv)) []:=by
 refine QaM Tryz.func198 (by kernel_rfl) (by kernel_rfl) (fun Γ=>?_)
 unfold Qbe at h
 obtain ⟨e0,h4,h⟩:=Qae h
 refine gn 7 [0,1,7,8] [] [nL Qaf.enc s0] (QeS Γ rv h4 ?_)
 rcases e0 with e0|e0
 ·replace h:(some (-1):Option Int)=some _:=h
  obtain rfl:=Option.some.inj h
  exact gr 2 [] []
 ·obtain ⟨r1,rfl⟩:∃ x,x=e0:=⟨_,rfl⟩
  replace h:(some r1:Option Int)=some _:=h
  exact Option.some.inj h
theorem Qcq {s0 c} {rv:Bool} (h:QaS s0 c=some rv):AFn Tryz.prog 177 [.one (lL 7 s0 Qaf.enc),.one (.fn (.func 178) [.ip (Qaf.enc c) 0])] [] (one (.bool rv)) []:=by
 refine QaM Tryz.func177 (by kernel_rfl) (by kernel_rfl) (fun Γ=>?_)
 unfold QaS at h
 obtain ⟨r,h0,h⟩:=Qae h
 obtain rfl:=Option.some.inj h
 exact gr 4 [] [cC (Qfo h0)]
def Qg3 (Γ:Gam) (rv:List Qaf) (cf:Cf):Prop:=Go Tryz.prog Tryz.f130 [] Γ (one (lL 7 rv Qaf.enc)) [] cf
def QmV (Γ:Gam) (rv:List Qaf) (p:Qaz) (l:List Qaf) (done:Int) (choices:List Bool) (v:Int) (x0:Qaf) (l3:List Qaf) (v1:Int):Prop:=Qg3 Γ rv ⟨[.c 128204,.l 128204,.b 2,.b 1,.c 4007,.l 500,.b 0,.c 63],⟨64,[vI 2 done,vP 3 0 25,vL 7 1 choices QaQ,vO 8 1 7 l3 Qaf.enc,vP 10 2 7,vL 29 7 l Qaf.enc,vI 30 (lenI l),vI 31 v,vL 35 1 choices QaQ,vI 36 (lenI choices),vI 37 v1],[oX 25 173 (Qaz.enc p),oS 7 177 l3 Qaf.enc,oX 7 177 (Qaf.enc x0)]⟩⟩
def QlY (Γ:Gam) (rv:List Qaf) (p:Qaz) (l:List Qaf) (done:Int) (choices:List Bool) (v:Int) (x0:Qaf) (l4:List Qaf):Prop:=Qg3 Γ rv ⟨[.b 1,.c 4007,.l 500,.b 0,.c 63],⟨64,[vI 2 done,vP 3 0 25,vL 7 1 choices QaQ,vO 8 1 7 l4 Qaf.enc,vL 29 7 l Qaf.enc,vI 30 (lenI l),vI 31 v],[oX 25 173 (Qaz.enc p),oS 7 177 l4 Qaf.enc]⟩⟩
def QmU (Γ:Gam) (rv:List Qaf) (p:Qaz) (l:List Qaf) (done:Int) (choices:List Bool) (l2:List Qaf) (v:Int):Prop:=Qg3 Γ rv ⟨[.c 500,.l 500,.b 0,.c 63],⟨64,[vI 2 done,vP 3 0 25,vL 7 1 choices QaQ,vO 8 1 7 l2 Qaf.enc,vL 29 7 l Qaf.enc,vI 30 (lenI l),vI 31 v],[oX 25 173 (Qaz.enc p),oS 7 177 l2 Qaf.enc]⟩⟩
def QlX (Γ:Gam) (rv:List Qaf) (p:Qaz) (l:List Qaf) (done:Int) (choices:List Bool) (l5:List Qaf):Prop:=Qg3 Γ rv ⟨[.c 63],⟨64,[vO 8 0 7 l5 Qaf.enc],[oS 7 177 l5 Qaf.enc]⟩⟩
theorem QrF (Γ:Gam) (rv:List Qaf) {p l done choices v x0} {s:List Qaf×Int} {e:List Qaf} (h:loopF (fun s=>Qct p l done choices v x0 s.1 s.2) s=some e) (hD:QlY Γ rv p l done choices v x0 e):QmV Γ rv p l done choices v x0 s.1 s.2:=by
 refine QaD (C:=fun (s:List Qaf×Int)=>QmV Γ rv p l done choices v x0 s.1 s.2) (D:=fun (e:List Qaf)=>QlY Γ rv p l done choices v x0 e) ?_ h hD
 clear h hD s e
 rintro ⟨l3,v1⟩ z_ h hI hE
 replace h:Qct p l done choices v x0 l3 v1=_:=h
 unfold Qct at h
 rcases Qaj h with ⟨h4,h⟩|⟨h4,h⟩
 ·obtain ⟨x1,h5,h⟩:=Qae h
  obtain ⟨r,h6,h⟩:=Qae h
  rcases Qaj h with ⟨h7,h⟩|⟨h7,h⟩
  ·obtain ⟨r1,h8,h⟩:=Qae h
   rcases Qaj h with ⟨h9,h⟩|⟨h9,h⟩
   ·exact gn 18 [2,3,7,8,10,29,30,31,35,36,37] [0,1,2] [bT h4,cE QaQ h5,cC (Qgh h6),rp 3 (bT h7),eL l3 Qaf.enc,cC (Qcq h8),bT h7,bT h7,nF h9] (hI _ (oJ h))
   ·obtain ⟨h10,h⟩:=Qax h
    exact gn 18 [2,3,7,8,10,29,30,31,35,36,37] [0,5,2] [bT h4,cE QaQ h5,cC (Qgh h6),rp 3 (bT h7),eL l3 Qaf.enc,cC (Qcq h8),bT h7,bT h7,nT h9,oO (Eq.refl ([r.1].map Qaf.enc).length),aO Qaf.enc h10] (hI _ (oJ h))
  ·exact gn 18 [2,3,7,8,10,29,30,31,35,36,37] [0,1,2] [bT h4,cE QaQ h5,cC (Qgh h6),rp 5 (bF h7),fF] (hI _ (oJ h))
 ·exact gn 5 [2,3,7,8,29,30,31] [0,1] [bF h4] (hE _ (oJ h))
theorem QrE (Γ:Gam) (rv:List Qaf) {p l done choices} {s:List Qaf×Int} {e:List Qaf} (h:loopF (fun s=>Qcs p l done choices s.1 s.2) s=some e) (hD:QlX Γ rv p l done choices e):QmU Γ rv p l done choices s.1 s.2:=by
 refine QaD (C:=fun (s:List Qaf×Int)=>QmU Γ rv p l done choices s.1 s.2) (D:=fun (e:List Qaf)=>QlX Γ rv p l done choices e) ?_ h hD
 clear h hD s e
 rintro ⟨l2,v⟩ z_ h hI hE
 replace h:Qcs p l done choices l2 v=_:=h
 unfold Qcs at h
 rcases Qaj h with ⟨h2,h⟩|⟨h2,h⟩
 ·obtain ⟨x0,h3,h⟩:=Qae h
  obtain ⟨e0,h11,h⟩:=Qae h
  refine gn 13 [2,3,7,8,10,29,30,31,35,36,37] [0,1,2] [bT h2,cE Qaf.enc h3,nL QaQ choices] (QrF Γ rv h11 ?_)
  obtain ⟨l4,rfl⟩:∃ x,x=e0:=⟨_,rfl⟩
  replace h:(some (.inl (l4,(addK .i64 v 1))):Option ((List Qaf×Int)⊕(List Qaf)))=some _:=h
  exact gn 3 [2,3,7,8,29,30,31] [0,1] [] (hI _ (oJ h))
 ·exact gn 5 [8] [1] [bF h2] (hE _ (oJ h))
theorem QlW (Γ:Gam) (rv:List Qaf) {p l done choices} (h:Qe7 p l done choices=some rv):Qg3 Γ rv ⟨[.c 15],⟨64,[vL 1 7 l Qaf.enc,vI 2 done,vP 3 0 25,vL 7 1 choices QaQ],[oX 25 173 (Qaz.enc p)]⟩⟩:=by
 unfold Qe7 at h
 obtain ⟨e1,h12,h⟩:=Qae h
 refine gn 7 [2,3,7,8,29,30,31] [0,1] [nL Qaf.enc l,hW 3,hH (.adopt 8 7 177)] (QrE Γ rv h12 ?_)
 obtain ⟨l5,rfl⟩:∃ x,x=e1:=⟨_,rfl⟩
 replace h:(some l5:Option (List Qaf))=some _:=h
 obtain rfl:=Option.some.inj h
 exact gr 2 [] [hW 4,hH (.frz 0),rp 3 (eL l5 Qaf.enc)]
theorem Qtr {p l done} {rv:List Qaf} (h:Qf3 p l done=some rv):AFn Tryz.prog 130 [.agg (Qaz.enc p),.one (lL 7 l Qaf.enc),.one (lI done)] [] (one (lL 7 rv Qaf.enc)) []:=by
 refine QaM Tryz.func130 (by kernel_rfl) (by kernel_rfl) (fun Γ=>?_)
 unfold Qf3 at h
 rcases Qaj h with ⟨h0,h⟩|⟨h0,h⟩
 ·obtain ⟨l1,h1,h⟩:=Qae h
  exact gn 9 [1,2,3,7] [0] [nL QaQ p.r.rests,bT h0,hH (.rows (l1.map QaQ)),oO (sl1 h1),oO (sl2 h1),oO (sl3 QaQ h1),oO (Int.le_refl (addK .i64 done 1)),oO (sl3 QaQ h1),oO (sl6 QaQ h1)] (QlW Γ rv h)
 ·exact gn 9 [1,2,3,7] [0] [nL QaQ p.r.rests,bF h0,hW 1,hH (.frz 1),rp 2 (oO (Eq.refl ([false,true].map QaQ).length))] (QlW Γ rv h)
def QqA (Γ:Gam) (rv:Qap×Int) (cf:Cf):Prop:=Go Tryz.prog Tryz.f131 [] Γ (.tup [.agg [.bool rv.1.rest_,lI rv.1.depart,lL 4 rv.1.times Qar.enc,lI rv.1.end_,lI rv.1.miles],.one (lI rv.2)]) [] cf
def QnO (Γ:Gam) (rv:Qap×Int) (p:Qaz) (rests:List Bool) (r:Qaf) (rest_:Int) (x0:Qaf) (v:Int):Prop:=QqA Γ rv ⟨[.c 116,.l 116,.b 0,.c 15],⟨36,[vP 2 0 25,vP 4 1 5,vP 6 2 7,vL 13 1 rests QaQ,vI 14 (lenI rests),vI 15 v],[oX 25 173 [lL 1 p.x.net.places e_str,lL 6 p.x.net.arcs Qas.enc,lL 14 p.x.types Qai.enc,lL 16 p.x.orders Qah.enc,lL 2 p.x.apart QaC.enc,lL 2 p.x.before QaC.enc,.str p.t.name,lI p.t.count,lI p.t.from_,lI p.t.to_,lL 1 p.t.cap e_i64,lI p.t.skills,lI p.t.profile,lI p.t.open_,lI p.t.close,lI p.t.drive,lI rest_,lI p.t.fixed,lI p.t.perMile,lI p.t.perTick,lI p.r.type_,lI p.r.start,lL 1 p.r.rests QaQ,lL 2 p.r.visits Qaa.enc,lL 4 p.stops Qau.enc],oX 5 74 [.bool false,lI 0,.nils,lI 0,lI 0],oX 7 177 (Qaf.enc x0)]⟩⟩
def QmW (Γ:Gam) (rv:Qap×Int) (p:Qaz) (rests:List Bool) (r:Qaf) (x2:Qaf):Prop:=QqA Γ rv ⟨[.c 15],⟨36,[vP 4 0 5,vP 6 1 7],[oX 5 74 [.bool false,lI 0,.nils,lI 0,lI 0],oX 7 177 (Qaf.enc x2)]⟩⟩
theorem Qsf (Γ:Gam) (rv:Qap×Int) {p rests r} {s:Int×Qaf×Int} {e:(Qaf)⊕(Qap×Int)} (h:loopF (fun s=>QfF p rests r s.1 s.2.1 s.2.2) s=some e) (hD:sel e (fun e=>QmW Γ rv p rests r e) (fun e=>e=rv)):QnO Γ rv p rests r s.1 s.2.1 s.2.2:=by
 refine QaD (C:=fun (s:Int×Qaf×Int)=>QnO Γ rv p rests r s.1 s.2.1 s.2.2) (D:=fun (e:(Qaf)⊕(Qap×Int))=>sel e (fun e=>QmW Γ rv p rests r e) (fun e=>e=rv)) ?_ h hD
 clear h hD s e
 rintro ⟨rest_,x0,v⟩ z_ h hI hE
 replace h:QfF p rests r rest_ x0 v=_:=h
 unfold QfF at h
 rcases Qaj h with ⟨h1,h⟩|⟨h1,h⟩
 ·obtain ⟨x1,h2,h⟩:=Qae h
  obtain ⟨r1,h3,h⟩:=Qae h
  rcases Qaj h with ⟨h4,h⟩|⟨h4,h⟩
  ·obtain rfl:=(hE _ (oJ h):_=rv)
   exact gr 17 [] [bT h1,cE QaQ h2,cC (Qgh h3),bT h4,hW 6,hH (.nilB 1 2 4)]
  ·exact gn 20 [2,4,6,13,14,15] [0,1,2] [bT h1,cE QaQ h2,cC (Qgh h3),bF h4] (hI _ (oJ h))
 ·exact gn 5 [4,6] [1,2] [bF h1] (hE _ (oJ h))
theorem Quc {p rests} {rv:Qap×Int} (h:QgK p rests=some rv):AFn Tryz.prog 131 [.agg (Qaz.enc p),.one (lL 1 rests QaQ)] [] (.tup [.agg [.bool rv.1.rest_,lI rv.1.depart,lL 4 rv.1.times Qar.enc,lI rv.1.end_,lI rv.1.miles],.one (lI rv.2)]) []:=by
 refine QaM Tryz.func131 (by kernel_rfl) (by kernel_rfl) (fun Γ=>?_)
 unfold QgK at h
 obtain ⟨r,h0,h⟩:=Qae h
 obtain ⟨e0,h5,h⟩:=Qae h
 refine gn 9 [2,4,6,13,14,15] [0,1,2] [cC (QnN h0),nL QaQ rests] (Qsf Γ rv h5 ?_)
 rcases e0 with e0|e0
 ·obtain ⟨x2,rfl⟩:∃ x,x=e0:=⟨_,rfl⟩
  replace h:(some (x2.sheet,0):Option (Qap×Int))=some _:=h
  obtain rfl:=Option.some.inj h
  exact gr 2 [] []
 ·obtain ⟨r2,rfl⟩:∃ x,x=e0:=⟨_,rfl⟩
  replace h:(some r2:Option (Qap×Int))=some _:=h
  exact Option.some.inj h
def QpA (Γ:Gam) (rv:Qap×Int) (cf:Cf):Prop:=Go Tryz.prog Tryz.f82 [] Γ (.tup [.agg [.bool rv.1.rest_,lI rv.1.depart,lL 4 rv.1.times Qar.enc,lI rv.1.end_,lI rv.1.miles],.one (lI rv.2)]) [] cf
def Qr0 (Γ:Gam) (rv:Qap×Int) (r:Qad) (r1:Qaz×Bool) (l:List Qaf) (v:Int):Prop:=QpA Γ rv ⟨[.c 1012,.l 1012,.b 0,.c 127],⟨82,[vP 3 0 4,vP 4 1 5,vP 6 2 25,vI 8 (addK .i64 (lenI r.visits) 1),vL 9 7 l Qaf.enc,vI 38 (addK .i64 (lenI r.visits) 1),vI 39 v],[oX 4 37 (Qad.enc r),oX 5 74 [.bool false,lI 0,.nils,lI 0,lI 0],oX 25 173 (Qaz.enc r1.1)]⟩⟩
def Qqx (Γ:Gam) (rv:Qap×Int) (r:Qad) (r1:Qaz×Bool) (l1:List Qaf):Prop:=QpA Γ rv ⟨[.c 127],⟨82,[vP 3 0 4,vP 4 1 5,vP 6 2 25,vI 8 (addK .i64 (lenI r.visits) 1),vL 9 7 l1 Qaf.enc],[oX 4 37 (Qad.enc r),oX 5 74 [.bool false,lI 0,.nils,lI 0,lI 0],oX 25 173 (Qaz.enc r1.1)]⟩⟩
def Qr1 (Γ:Gam) (rv:Qap×Int) (l3:List Qaf) (x2:Qaf) (v1:Int):Prop:=QpA Γ rv ⟨[.c 8180,.l 8180,.b 2,.c 1023],⟨82,[vP 4 0 5,vP 12 1 7,vL 65 7 l3 Qaf.enc,vI 66 (lenI l3),vI 67 v1],[oX 5 74 [.bool false,lI 0,.nils,lI 0,lI 0],oX 7 177 (Qaf.enc x2)]⟩⟩
def Qqy (Γ:Gam) (rv:Qap×Int) (l3:List Qaf) (x4:Qaf):Prop:=QpA Γ rv ⟨[.c 1023],⟨82,[vP 4 0 5,vP 12 1 7],[oX 5 74 [.bool false,lI 0,.nils,lI 0,lI 0],oX 7 177 (Qaf.enc x4)]⟩⟩
theorem QuG (Γ:Gam) (rv:Qap×Int) {r r1} {s:List Qaf×Int} {e:List Qaf} (h:loopF (fun s=>Qer r r1 s.1 s.2) s=some e) (hD:Qqx Γ rv r r1 e):Qr0 Γ rv r r1 s.1 s.2:=by
 refine QaD (C:=fun (s:List Qaf×Int)=>Qr0 Γ rv r r1 s.1 s.2) (D:=fun (e:List Qaf)=>Qqx Γ rv r r1 e) ?_ h hD
 clear h hD s e
 rintro ⟨l,v⟩ z_ h hI hE
 replace h:Qer r r1 l v=_:=h
 unfold Qer at h
 rcases Qaj h with ⟨h3,h⟩|⟨h3,h⟩
 ·obtain ⟨r3,h4,h⟩:=Qae h
  exact gn 13 [3,4,6,8,9,38,39] [0,1,2] [bT h3,cC (Qtr h4)] (hI _ (oJ h))
 ·exact gn 5 [3,4,6,8,9] [0,1,2] [bF h3] (hE _ (oJ h))
theorem QuH (Γ:Gam) (rv:Qap×Int) {l3} {s:Qaf×Int} {e:Qaf} (h:loopF (fun s=>QdN l3 s.1 s.2) s=some e) (hD:Qqy Γ rv l3 e):Qr1 Γ rv l3 s.1 s.2:=by
 refine QaD (C:=fun (s:Qaf×Int)=>Qr1 Γ rv l3 s.1 s.2) (D:=fun (e:Qaf)=>Qqy Γ rv l3 e) ?_ h hD
 clear h hD s e
 rintro ⟨x2,v1⟩ z_ h hI hE
 replace h:QdN l3 x2 v1=_:=h
 unfold QdN at h
 rcases Qaj h with ⟨h11,h⟩|⟨h11,h⟩
 ·obtain ⟨x3,h12,h⟩:=Qae h
  rcases Qaj h with ⟨h13,h⟩|⟨h13,h⟩
  ·exact gn 16 [4,12,65,66,67] [0,1] [bT h11,cE Qaf.enc h12,bT h13] (hI _ (oJ h))
  ·exact gn 16 [4,12,65,66,67] [0,1] [bT h11,cE Qaf.enc h12,bF h13] (hI _ (oJ h))
 ·exact gn 5 [4,12] [0,1] [bF h11] (hE _ (oJ h))
theorem QtZ {x0 r} {rv:Qap×Int} (h:QoI x0 r=some rv):AFn Tryz.prog 82 [.agg (Qac.enc x0),.agg (Qad.enc r)] [] (.tup [.agg [.bool rv.1.rest_,lI rv.1.depart,lL 4 rv.1.times Qar.enc,lI rv.1.end_,lI rv.1.miles],.one (lI rv.2)]) []:=by
 refine QaM Tryz.func82 (by kernel_rfl) (by kernel_rfl) (fun Γ=>?_)
 unfold QoI at h
 obtain ⟨r1,h0,h⟩:=Qae h
 rcases Qaj h with ⟨h1,h⟩|⟨h1,h⟩
 ·obtain rfl:=Option.some.inj h
  exact gr 12 [] [cC (Qt0 h0),nL Qaa.enc r.visits,hP,hP,hP,rp 2 (oI ((!r1.2)=false)),nL QaQ r.rests,hP,hP,hP,rp 2 (oI ((!r1.2)=false)),oR True ((!r1.2)=false),bT h1,hW 5,hH (.nilB 2 2 4)]
 ·obtain ⟨r2,h2,h⟩:=Qae h
  obtain ⟨e0,h5,h⟩:=Qae h
  refine gn 18 [3,4,6,8,9,38,39] [1,2,3] [cC (Qt0 h0),nL Qaa.enc r.visits,hP,hP,hP,rp 2 (oI ((!r1.2)=false)),nL QaQ r.rests,hP,hP,hP,rp 2 (oI ((!r1.2)=false)),oR True ((!r1.2)=false),bF h1,cC (QnN h2),hW 9,hH (.frz 4),rp 2 (oO (Eq.refl ([r2].map Qaf.enc).length))] (QuG Γ rv h5 ?_)
  obtain ⟨l1,rfl⟩:∃ x,x=e0:=⟨_,rfl⟩
  replace h:(br (eqI (lenI l1) 0) (bnd (mkI (addK .i64 (lenI r.visits) 1) (addK .i64 (lenI r.visits) 1) 1 false) fun l2=>bnd (QgK r1.1 (cpyL l2 r.rests)) fun r4=>some (r4.1,r4.2)) (bnd (getI l1 0) fun x1=>bnd (slcI l1 1 (lenI l1)) fun l3=>bnd (loopF (fun s=>QdN l3 s.1 s.2) (x1,0)) (fun x4=>some (x4.sheet,0))):Option (Qap×Int))=some _:=h
  rcases Qaj h with ⟨h6,h⟩|⟨h6,h⟩
  ·obtain ⟨l2,h7,h⟩:=Qae h
   obtain ⟨r4,h8,h⟩:=Qae h
   obtain rfl:=Option.some.inj h
   exact gr 10 [] [nL Qaf.enc l1,bT h6,hH (.cells [.bool false]),hH (.rows (l2.map QaQ)),oO (mk1 h7),oO (mk2 h7),oO (mk3 h7),oO (mk4 h7),oO (mk5 QaQ h7),cY QaQ l2 r.rests,hH (.relen 3 ((cpyL l2 r.rests).map QaQ).length),hW 4,hH (.frz 3),rp 3 (oO (QEE QaQ l2 r.rests)),rp 4 (oO (Eq.refl ((cpyL l2 r.rests).map QaQ).length)),cC (Quc h8)]
  ·obtain ⟨x1,h9,h⟩:=Qae h
   obtain ⟨l3,h10,h⟩:=Qae h
   obtain ⟨e1,h14,h⟩:=Qae h
   refine gn 12 [4,12,65,66,67] [1,3] [nL Qaf.enc l1,bF h6,cE Qaf.enc h9,hH (.rows (l3.map Qaf.enc)),oO (sl1 h10),oO (sl2h Qaf.enc h10),rp 3 (oO (Int.le_refl ((l1.map Qaf.enc).length:Int))),oO (sl6h Qaf.enc h10),nL Qaf.enc l3] (QuH Γ rv h14 ?_)
   obtain ⟨x4,rfl⟩:∃ x,x=e1:=⟨_,rfl⟩
   replace h:(some (x4.sheet,0):Option (Qap×Int))=some _:=h
   obtain rfl:=Option.some.inj h
   exact gr 2 [] []
theorem QjN {kind own} {rv:Bool} (h:QlD kind own=some rv):AFn Tryz.prog 132 [.one (lI kind),.one (lI own)] [] (one (.bool rv)) []:=by
 refine QaM Tryz.func132 (by kernel_rfl) (by kernel_rfl) (fun Γ=>?_)
 unfold QlD at h
 obtain rfl:=Option.some.inj h
 exact gr 4 [] [rp 4 hP,rp 2 (oI ((neI kind (-1))=true)),oR True ((neI kind (-1))=true)]
def Qrb (Γ:Gam) (rv:QaE) (cf:Cf):Prop:=Go Tryz.prog Tryz.f83 [] Γ (gG [lI rv.cost,lI rv.moved,lI rv.other,lI rv.work]) [] cf
def Qnj (Γ:Gam) (rv:QaE) (x0:Qac) (r:Qad) (s0:Qap) (x1:Qai) (l:List (Int×Int)) (moved:Int) (other:Int) (v:Int):Prop:=Qrb Γ rv ⟨[.c 4084,.l 4084,.b 0,.c 511],⟨114,[vP 3 0 6,vP 4 1 4,vP 6 2 4,vP 10 3 4,(11,one (.mp 4)),vL 59 2 r.visits Qaa.enc,vI 60 (lenI r.visits),vI 61 v],[oX 6 30 (Qac.enc x0),oX 4 37 (Qad.enc r),oX 4 76 [lI 0,lI 0,lI 0,lI 0],oX 4 76 [lI (addK .i64 (addK .i64 x1.fixed (mulK .i64 x1.perMile s0.miles)) (mulK .i64 x1.perTick (subK .i64 s0.end_ x1.open_))),lI moved,lI other,lI (mulK .i64 (quoK .i64 (subK .i64 s0.end_ x1.open_) 64) (quoK .i64 (subK .i64 s0.end_ x1.open_) 64))],oM 182 l (mE lI lI)]⟩⟩
def QlR (Γ:Gam) (rv:QaE) (x0:Qac) (r:Qad) (s0:Qap) (x1:Qai) (moved2:Int) (other1:Int):Prop:=Qrb Γ rv ⟨[.c 511],⟨114,[vP 6 0 4,vP 10 1 4],[oX 4 76 [lI 0,lI 0,lI 0,lI 0],oX 4 76 [lI (addK .i64 (addK .i64 x1.fixed (mulK .i64 x1.perMile s0.miles)) (mulK .i64 x1.perTick (subK .i64 s0.end_ x1.open_))),lI moved2,lI other1,lI (mulK .i64 (quoK .i64 (subK .i64 s0.end_ x1.open_) 64) (quoK .i64 (subK .i64 s0.end_ x1.open_) 64))]]⟩⟩
theorem Qp3 (Γ:Gam) (rv:QaE) {x0 r s0 x1 l other v x2 x3 moved1} {x:(List (Int×Int)×Int×Int×Int)⊕(Int×Int)} (h:QjM x0 r s0 x1 l other v x2 x3 moved1=some x) (hI:∀ s:List (Int×Int)×Int×Int×Int,x=.inl s→Qnj Γ rv x0 r s0 x1 s.1 s.2.1 s.2.2.1 s.2.2.2) (hE:∀ e:Int×Int,x=.inr e→QlR Γ rv x0 r s0 x1 e.1 e.2):Qrb Γ rv ⟨[.c 2091423,.b 1,.c 32679,.l 4084,.b 0,.c 511],⟨114,[vP 3 0 6,vP 4 1 4,vP 6 2 4,vP 10 3 4,(11,one (.mp 4)),vP 14 5 16,vL 59 2 r.visits Qaa.enc,vI 60 (lenI r.visits),vI 61 v],[oX 6 30 (Qac.enc x0),oX 4 37 (Qad.enc r),oX 4 76 [lI 0,lI 0,lI 0,lI 0],oX 4 76 [lI (addK .i64 (addK .i64 x1.fixed (mulK .i64 x1.perMile s0.miles)) (mulK .i64 x1.perTick (subK .i64 s0.end_ x1.open_))),lI moved1,lI other,lI (mulK .i64 (quoK .i64 (subK .i64 s0.end_ x1.open_) 64) (quoK .i64 (subK .i64 s0.end_ x1.open_) 64))],oM 182 (mPut eqI l x2.order (addK .i64 (mGet eqI l x2.order 0) 1)) (mE lI lI),oX 16 124 (Qah.enc x3)]⟩⟩:=by
 unfold QjM at h
 obtain ⟨r2,h9,h⟩:=Qae h
 rcases Qaj h with ⟨h10,h⟩|⟨h10,h⟩
 ·exact gn 7 [3,4,6,10,11,59,60,61] [0,1,2,3,4] [cC (QjN h9),bT h10] (hI _ (oJ h))
 ·exact gn 7 [3,4,6,10,11,59,60,61] [0,1,2,3,4] [cC (QjN h9),bF h10] (hI _ (oJ h))
theorem Quf (Γ:Gam) (rv:QaE) {x0 r s0 x1} {s:List (Int×Int)×Int×Int×Int} {e:Int×Int} (h:loopF (fun s=>Qel x0 r s0 x1 s.1 s.2.1 s.2.2.1 s.2.2.2) s=some e) (hD:QlR Γ rv x0 r s0 x1 e.1 e.2):Qnj Γ rv x0 r s0 x1 s.1 s.2.1 s.2.2.1 s.2.2.2:=by
 refine QaD (C:=fun (s:List (Int×Int)×Int×Int×Int)=>Qnj Γ rv x0 r s0 x1 s.1 s.2.1 s.2.2.1 s.2.2.2) (D:=fun (e:Int×Int)=>QlR Γ rv x0 r s0 x1 e.1 e.2) ?_ h hD
 clear h hD s e
 rintro ⟨l,moved,other,v⟩ z_ h hI hE
 replace h:Qel x0 r s0 x1 l moved other v=_:=h
 unfold Qel at h
 rcases Qaj h with ⟨h2,h⟩|⟨h2,h⟩
 ·obtain ⟨x2,h3,h⟩:=Qae h
  rcases Qaj h with ⟨h4,h⟩|⟨h4,h⟩
  ·exact gn 18 [3,4,6,10,11,59,60,61] [0,1,2,3,4] [bT h2,cE Qaa.enc h3,mG kqI lI l x2.order 0,mU kqI lI l x2.order (addK .i64 (mGet eqI l x2.order 0) 1),rp 5 hP,rp 3 (oI ((ltI x2.order 0)=false)),nL Qah.enc x0.orders,hP,hP,rp 2 (oI ((ltI x2.order 0)=false)),oR True ((ltI x2.order 0)=false),rp 6 (bT h4),tT] (hI _ (oJ h))
  ·rcases Qaj h with ⟨h5,h⟩|⟨h5,h⟩
   ·exact gn 18 [3,4,6,10,11,59,60,61] [0,1,2,3,4] [bT h2,cE Qaa.enc h3,mG kqI lI l x2.order 0,mU kqI lI l x2.order (addK .i64 (mGet eqI l x2.order 0) 1),rp 5 hP,rp 3 (oI ((ltI x2.order 0)=false)),nL Qah.enc x0.orders,hP,hP,rp 2 (oI ((ltI x2.order 0)=false)),oR True ((ltI x2.order 0)=false),rp 4 (bF h4),mG kqI lI (mPut eqI l x2.order (addK .i64 (mGet eqI l x2.order 0) 1)) x2.order 0,bF h4,bF h4,bT h5] (hI _ (oJ h))
   ·obtain ⟨x3,h6,h⟩:=Qae h
    obtain ⟨r1,h7,h⟩:=Qae h
    rcases Qaj h with ⟨h8,h⟩|⟨h8,h⟩
    ·exact gn 23 [3,4,6,10,11,14,59,60,61] [0,1,2,3,4,6] [bT h2,cE Qaa.enc h3,mG kqI lI l x2.order 0,mU kqI lI l x2.order (addK .i64 (mGet eqI l x2.order 0) 1),rp 5 hP,rp 3 (oI ((ltI x2.order 0)=false)),nL Qah.enc x0.orders,hP,hP,rp 2 (oI ((ltI x2.order 0)=false)),oR True ((ltI x2.order 0)=false),rp 4 (bF h4),mG kqI lI (mPut eqI l x2.order (addK .i64 (mGet eqI l x2.order 0) 1)) x2.order 0,bF h4,bF h4,bF h5,cE Qah.enc h6,cC (QjN h7),bT h8] (Qp3 Γ rv h hI hE)
    ·exact gn 23 [3,4,6,10,11,14,59,60,61] [0,1,2,3,4,6] [bT h2,cE Qaa.enc h3,mG kqI lI l x2.order 0,mU kqI lI l x2.order (addK .i64 (mGet eqI l x2.order 0) 1),rp 5 hP,rp 3 (oI ((ltI x2.order 0)=false)),nL Qah.enc x0.orders,hP,hP,rp 2 (oI ((ltI x2.order 0)=false)),oR True ((ltI x2.order 0)=false),rp 4 (bF h4),mG kqI lI (mPut eqI l x2.order (addK .i64 (mGet eqI l x2.order 0) 1)) x2.order 0,bF h4,bF h4,bF h5,cE Qah.enc h6,cC (QjN h7),bF h8] (Qp3 Γ rv h hI hE)
 ·exact gn 5 [6,10] [2,3] [bF h2] (hE _ (oJ h))
theorem QwD {x0 r s0} {rv:QaE} (h:Qpd x0 r s0=some rv):AFn Tryz.prog 83 [.agg (Qac.enc x0),.agg (Qad.enc r),.agg (Qap.enc s0)] [] (gG [lI rv.cost,lI rv.moved,lI rv.other,lI rv.work]) []:=by
 refine QaM Tryz.func83 (by kernel_rfl) (by kernel_rfl) (fun Γ=>?_)
 unfold Qpd at h
 rcases Qaj h with ⟨h0,h⟩|⟨h0,h⟩
 ·obtain rfl:=Option.some.inj h
  exact gr 8 [] [rp 5 hP,rp 3 (oI ((ltI r.type_ 0)=false)),nL Qai.enc x0.types,hP,hP,rp 2 (oI ((ltI r.type_ 0)=false)),oR True ((ltI r.type_ 0)=false),bT h0]
 ·obtain ⟨x1,h1,h⟩:=Qae h
  obtain ⟨e0,h11,h⟩:=Qae h
  refine gn 22 [3,4,6,10,11,59,60,61] [0,1,3,5,6] [rp 5 hP,rp 3 (oI ((ltI r.type_ 0)=false)),nL Qai.enc x0.types,hP,hP,rp 2 (oI ((ltI r.type_ 0)=false)),oR True ((ltI r.type_ 0)=false),bF h0,cE Qai.enc h1,oO (oA (n:=64)),nL Qaa.enc r.visits] (Quf Γ rv h11 ?_)
  obtain ⟨moved2,other1⟩:=e0
  replace h:(some (QaE.mk (addK .i64 (addK .i64 x1.fixed (mulK .i64 x1.perMile s0.miles)) (mulK .i64 x1.perTick (subK .i64 s0.end_ x1.open_))) moved2 other1 (mulK .i64 (quoK .i64 (subK .i64 s0.end_ x1.open_) 64) (quoK .i64 (subK .i64 s0.end_ x1.open_) 64))):Option QaE)=some _:=h
  obtain rfl:=Option.some.inj h
  exact gr 2 [] []
theorem Qp4 {x0 r} {rv:Qap×QaE×Int} (h:Qf0 x0 r=some rv):AFn Tryz.prog 46 [.agg (Qac.enc x0),.agg (Qad.enc r)] [] (.tup [.agg [.bool rv.1.rest_,lI rv.1.depart,lL 4 rv.1.times Qar.enc,lI rv.1.end_,lI rv.1.miles],.agg [lI rv.2.1.cost,lI rv.2.1.moved,lI rv.2.1.other,lI rv.2.1.work],.one (lI rv.2.2)]) []:=by
 refine QaM Tryz.func46 (by kernel_rfl) (by kernel_rfl) (fun Γ=>?_)
 unfold Qf0 at h
 rcases Qaj h with ⟨h0,h⟩|⟨h0,h⟩
 ·obtain rfl:=Option.some.inj h
  exact gr 8 [] [rp 5 hP,rp 3 (oI ((ltI r.type_ 0)=false)),nL Qai.enc x0.types,hP,hP,rp 2 (oI ((ltI r.type_ 0)=false)),oR True ((ltI r.type_ 0)=false),bT h0,hW 7,hH (.nilB 2 2 4)]
 ·obtain ⟨r1,h1,h⟩:=Qae h
  rcases Qaj h with ⟨h2,h⟩|⟨h2,h⟩
  ·obtain rfl:=Option.some.inj h
   exact gr 28 [] [rp 5 hP,rp 3 (oI ((ltI r.type_ 0)=false)),nL Qai.enc x0.types,hP,hP,rp 2 (oI ((ltI r.type_ 0)=false)),oR True ((ltI r.type_ 0)=false),bF h0,nL e_fn [79,80,81],tT,oO (getLo (rfl:getI ([79,80,81]:List Nat) 0=some 79)),oO (getHi e_fn (rfl:getI ([79,80,81]:List Nat) 0=some 79)),rE e_fn (rfl:getI ([79,80,81]:List Nat) 0=some 79),cC (QdS h1),bT h2,hW 8,hH (.nilB 2 2 4)]
  ·obtain ⟨r2,h3,h⟩:=Qae h
   rcases Qaj h with ⟨h4,h⟩|⟨h4,h⟩
   ·obtain rfl:=Option.some.inj h
    exact gr 46 [] [rp 5 hP,rp 3 (oI ((ltI r.type_ 0)=false)),nL Qai.enc x0.types,hP,hP,rp 2 (oI ((ltI r.type_ 0)=false)),oR True ((ltI r.type_ 0)=false),bF h0,nL e_fn [79,80,81],tT,oO (getLo (rfl:getI ([79,80,81]:List Nat) 0=some 79)),oO (getHi e_fn (rfl:getI ([79,80,81]:List Nat) 0=some 79)),rE e_fn (rfl:getI ([79,80,81]:List Nat) 0=some 79),cC (QdS h1),bF h2,tT,oO (getLo (rfl:getI ([79,80,81]:List Nat) 1=some 80)),oO (getHi e_fn (rfl:getI ([79,80,81]:List Nat) 1=some 80)),rE e_fn (rfl:getI ([79,80,81]:List Nat) 1=some 80),cC (Qoa h3),bT h4,hW 8,hH (.nilB 2 2 4)]
   ·obtain ⟨r3,h5,h⟩:=Qae h
    rcases Qaj h with ⟨h6,h⟩|⟨h6,h⟩
    ·obtain rfl:=Option.some.inj h
     exact gr 64 [] [rp 5 hP,rp 3 (oI ((ltI r.type_ 0)=false)),nL Qai.enc x0.types,hP,hP,rp 2 (oI ((ltI r.type_ 0)=false)),oR True ((ltI r.type_ 0)=false),bF h0,nL e_fn [79,80,81],tT,oO (getLo (rfl:getI ([79,80,81]:List Nat) 0=some 79)),oO (getHi e_fn (rfl:getI ([79,80,81]:List Nat) 0=some 79)),rE e_fn (rfl:getI ([79,80,81]:List Nat) 0=some 79),cC (QdS h1),bF h2,tT,oO (getLo (rfl:getI ([79,80,81]:List Nat) 1=some 80)),oO (getHi e_fn (rfl:getI ([79,80,81]:List Nat) 1=some 80)),rE e_fn (rfl:getI ([79,80,81]:List Nat) 1=some 80),cC (Qoa h3),bF h4,tT,oO (getLo (rfl:getI ([79,80,81]:List Nat) 2=some 81)),oO (getHi e_fn (rfl:getI ([79,80,81]:List Nat) 2=some 81)),rE e_fn (rfl:getI ([79,80,81]:List Nat) 2=some 81),cC (Qqt h5),bT h6,hW 8,hH (.nilB 2 2 4)]
    ·obtain ⟨r4,h7,h⟩:=Qae h
     rcases Qaj h with ⟨h8,h⟩|⟨h8,h⟩
     ·obtain rfl:=Option.some.inj h
      exact gr 79 [] [rp 5 hP,rp 3 (oI ((ltI r.type_ 0)=false)),nL Qai.enc x0.types,hP,hP,rp 2 (oI ((ltI r.type_ 0)=false)),oR True ((ltI r.type_ 0)=false),bF h0,nL e_fn [79,80,81],tT,oO (getLo (rfl:getI ([79,80,81]:List Nat) 0=some 79)),oO (getHi e_fn (rfl:getI ([79,80,81]:List Nat) 0=some 79)),rE e_fn (rfl:getI ([79,80,81]:List Nat) 0=some 79),cC (QdS h1),bF h2,tT,oO (getLo (rfl:getI ([79,80,81]:List Nat) 1=some 80)),oO (getHi e_fn (rfl:getI ([79,80,81]:List Nat) 1=some 80)),rE e_fn (rfl:getI ([79,80,81]:List Nat) 1=some 80),cC (Qoa h3),bF h4,tT,oO (getLo (rfl:getI ([79,80,81]:List Nat) 2=some 81)),oO (getHi e_fn (rfl:getI ([79,80,81]:List Nat) 2=some 81)),rE e_fn (rfl:getI ([79,80,81]:List Nat) 2=some 81),cC (Qqt h5),bF h6,fF,cC (QtZ h7),bT h8,hW 8,hH (.nilB 2 2 4)]
     ·obtain ⟨r5,h9,h⟩:=Qae h
      obtain rfl:=Option.some.inj h
      exact gr 80 [] [rp 5 hP,rp 3 (oI ((ltI r.type_ 0)=false)),nL Qai.enc x0.types,hP,hP,rp 2 (oI ((ltI r.type_ 0)=false)),oR True ((ltI r.type_ 0)=false),bF h0,nL e_fn [79,80,81],tT,oO (getLo (rfl:getI ([79,80,81]:List Nat) 0=some 79)),oO (getHi e_fn (rfl:getI ([79,80,81]:List Nat) 0=some 79)),rE e_fn (rfl:getI ([79,80,81]:List Nat) 0=some 79),cC (QdS h1),bF h2,tT,oO (getLo (rfl:getI ([79,80,81]:List Nat) 1=some 80)),oO (getHi e_fn (rfl:getI ([79,80,81]:List Nat) 1=some 80)),rE e_fn (rfl:getI ([79,80,81]:List Nat) 1=some 80),cC (Qoa h3),bF h4,tT,oO (getLo (rfl:getI ([79,80,81]:List Nat) 2=some 81)),oO (getHi e_fn (rfl:getI ([79,80,81]:List Nat) 2=some 81)),rE e_fn (rfl:getI ([79,80,81]:List Nat) 2=some 81),cC (Qqt h5),bF h6,fF,cC (QtZ h7),bF h8,hH (.draw 5 []),cC (QwD h9)]
theorem Qic {s0} {rv:Qzk} (h:Qpe s0=some rv):AFn Tryz.prog 84 [.agg (QaE.enc s0)] [] (gG [lI rv.x0,lI rv.x1,lI rv.x2,lI rv.x3]) []:=by
 refine QaM Tryz.func84 (by kernel_rfl) (by kernel_rfl) (fun Γ=>?_)
 unfold Qpe at h
 obtain rfl:=Option.some.inj h
 exact gr 4 [] []
theorem QvC {s0} {rv:Int×Int} (h:QiZ s0=some rv):AFn Tryz.prog 47 [.agg (QaE.enc s0)] [] (.tup [.one (lI rv.1),.one (lI rv.2)]) []:=by
 refine QaM Tryz.func47 (by kernel_rfl) (by kernel_rfl) (fun Γ=>?_)
 unfold QiZ at h
 obtain ⟨r,h0,h⟩:=Qae h
 rcases Qaj h with ⟨h1,h⟩|⟨h1,h⟩
 ·obtain rfl:=Option.some.inj h
  exact gr 23 [] [cC (Qic h0),tT,oO (zL 0),oO (lT 0 4),bT h1]
 ·rcases Qaj h with ⟨h2,h⟩|⟨h2,h⟩
  ·obtain rfl:=Option.some.inj h
   exact gr 39 [] [cC (Qic h0),tT,oO (zL 0),oO (lT 0 4),bF h1,tT,oO (zL 1),oO (lT 1 4),bT h2]
  ·rcases Qaj h with ⟨h3,h⟩|⟨h3,h⟩
   ·obtain rfl:=Option.some.inj h
    exact gr 55 [] [cC (Qic h0),tT,oO (zL 0),oO (lT 0 4),bF h1,tT,oO (zL 1),oO (lT 1 4),bF h2,tT,oO (zL 2),oO (lT 2 4),bT h3]
   ·rcases Qaj h with ⟨h4,h⟩|⟨h4,h⟩
    ·obtain rfl:=Option.some.inj h
     exact gr 71 [] [cC (Qic h0),tT,oO (zL 0),oO (lT 0 4),bF h1,tT,oO (zL 1),oO (lT 1 4),bF h2,tT,oO (zL 2),oO (lT 2 4),bF h3,tT,oO (zL 3),oO (lT 3 4),bT h4]
    ·rcases Qaj h with ⟨h5,h⟩|⟨h5,h⟩
     ·obtain rfl:=Option.some.inj h
      exact gr 84 [] [cC (Qic h0),tT,oO (zL 0),oO (lT 0 4),bF h1,tT,oO (zL 1),oO (lT 1 4),bF h2,tT,oO (zL 2),oO (lT 2 4),bF h3,tT,oO (zL 3),oO (lT 3 4),bF h4,fF,rp 12 hP,rp 2 (oI ((gtI s0.cost 1073741824)=false)),oR True ((gtI s0.cost 1073741824)=false),rp 2 (oI (((gtI s0.cost 1073741824)||(geI s0.moved 16))=false)),oR True (((gtI s0.cost 1073741824)||(geI s0.moved 16))=false),rp 2 (oI ((((gtI s0.cost 1073741824)||(geI s0.moved 16))||(geI s0.other 16))=false)),oR True ((((gtI s0.cost 1073741824)||(geI s0.moved 16))||(geI s0.other 16))=false),bT h5]
     ·obtain rfl:=Option.some.inj h
      exact gr 85 [] [cC (Qic h0),tT,oO (zL 0),oO (lT 0 4),bF h1,tT,oO (zL 1),oO (lT 1 4),bF h2,tT,oO (zL 2),oO (lT 2 4),bF h3,tT,oO (zL 3),oO (lT 3 4),bF h4,fF,rp 12 hP,rp 2 (oI ((gtI s0.cost 1073741824)=false)),oR True ((gtI s0.cost 1073741824)=false),rp 2 (oI (((gtI s0.cost 1073741824)||(geI s0.moved 16))=false)),oR True (((gtI s0.cost 1073741824)||(geI s0.moved 16))=false),rp 2 (oI ((((gtI s0.cost 1073741824)||(geI s0.moved 16))||(geI s0.other 16))=false)),oR True ((((gtI s0.cost 1073741824)||(geI s0.moved 16))||(geI s0.other 16))=false),bF h5]
theorem Qid {x0 r} {rv:Int×Int} (h:Qfj x0 r=some rv):AFn Tryz.prog 19 [.agg (Qac.enc x0),.agg (Qad.enc r)] [] (.tup [.one (lI rv.1),.one (lI rv.2)]) []:=by
 refine QaM Tryz.func19 (by kernel_rfl) (by kernel_rfl) (fun Γ=>?_)
 unfold Qfj at h
 obtain ⟨r1,h0,h⟩:=Qae h
 rcases Qaj h with ⟨h1,h⟩|⟨h1,h⟩
 ·obtain rfl:=Option.some.inj h
  exact gr 10 [] [cC (Qp4 h0),bT h1]
 ·obtain ⟨r2,h2,h⟩:=Qae h
  obtain rfl:=Option.some.inj h
  exact gr 11 [] [cC (Qp4 h0),bF h1,cC (QvC h2)]
theorem QmA {v} {rv:Int} (h:Qfl v=some rv):AFn Tryz.prog 149 [.agg (Qaa.enc v)] [] (one (lI rv)) []:=by
 refine QaM Tryz.func149 (by kernel_rfl) (by kernel_rfl) (fun Γ=>?_)
 unfold Qfl at h
 rcases Qaj h with ⟨h0,h⟩|⟨h0,h⟩
 ·obtain rfl:=Option.some.inj h
  exact gr 8 [] [bT h0]
 ·obtain rfl:=Option.some.inj h
  exact gr 9 [] [bF h0]
def QtY (Γ:Gam) (rv:Int) (cf:Cf):Prop:=Go Tryz.prog Tryz.f150 [] Γ (one (lI rv)) [] cf
def Qqw (Γ:Gam) (rv:Int) (vals:List Int) (v:Int):Prop:=QtY Γ rv ⟨[.c 116,.l 116,.b 0,.c 15],⟨18,[vI 3 0,vL 6 1 vals e_i64,vI 7 (lenI vals),vI 8 v],[]⟩⟩
def QpQ (Γ:Gam) (rv:Int) (vals:List Int):Prop:=QtY Γ rv ⟨[.c 15],⟨18,[vI 3 0],[]⟩⟩
theorem Qub (Γ:Gam) (rv:Int) {vals} {s:Int} {e:(Unit)⊕(Int)} (h:loopF (fun s=>Qei vals s) s=some e) (hD:sel e (fun e=>QpQ Γ rv vals) (fun e=>e=rv)):Qqw Γ rv vals s:=by
 refine QaD (C:=fun (s:Int)=>Qqw Γ rv vals s) (D:=fun (e:(Unit)⊕(Int))=>sel e (fun e=>QpQ Γ rv vals) (fun e=>e=rv)) ?_ h hD
 clear h hD s e
 intro v z_ h hI hE
 replace h:Qei vals v=_:=h
 unfold Qei at h
 rcases Qaj h with ⟨h0,h⟩|⟨h0,h⟩
 ·obtain ⟨x0,h1,h⟩:=Qae h
  rcases Qaj h with ⟨h2,h⟩|⟨h2,h⟩
  ·obtain rfl:=(hE _ (oJ h):_=rv)
   exact gr 14 [] [bT h0,cE e_i64 h1,bT h2]
  ·exact gn 16 [3,6,7,8] [] [bT h0,cE e_i64 h1,bF h2] (hI _ (oJ h))
 ·exact gn 5 [3] [] [bF h0] (hE _ (oJ h))
theorem Qwg {vals} {rv:Int} (h:QoE vals=some rv):AFn Tryz.prog 150 [.one (lL 1 vals e_i64)] [] (one (lI rv)) []:=by
 refine QaM Tryz.func150 (by kernel_rfl) (by kernel_rfl) (fun Γ=>?_)
 unfold QoE at h
 obtain ⟨e0,h3,h⟩:=Qae h
 refine gn 9 [3,6,7,8] [] [nL e_i64 vals] (Qub Γ rv h3 ?_)
 rcases e0 with e0|e0
 ·replace h:(some 0:Option Int)=some _:=h
  obtain rfl:=Option.some.inj h
  exact gr 2 [] []
 ·obtain ⟨r,rfl⟩:∃ x,x=e0:=⟨_,rfl⟩
  replace h:(some r:Option Int)=some _:=h
  exact Option.some.inj h
theorem Qb7 {x0} {rv:Bool} (h:Qjo x0=some rv):AFn Tryz.prog 189 [.one (lI x0)] [] (one (.bool rv)) []:=by
 refine QaM Tryz.func189 (by kernel_rfl) (by kernel_rfl) (fun Γ=>?_)
 unfold Qjo at h
 obtain rfl:=Option.some.inj h
 exact gr 4 [] []
theorem QnM {x0 y} {rv:Int} (h:Qgg x0 y=some rv):AFn Tryz.prog 151 [.one (lI x0),.one (lI y)] [] (one (lI rv)) []:=by
 refine QaM Tryz.func151 (by kernel_rfl) (by kernel_rfl) (fun Γ=>?_)
 unfold Qgg at h
 obtain ⟨r,h0,h⟩:=Qae h
 obtain ⟨r1,h1,h⟩:=Qae h
 rcases Qaj h with ⟨h2,h⟩|⟨h2,h⟩
 ·rcases Qaj h with ⟨h3,h⟩|⟨h3,h⟩
  ·obtain rfl:=Option.some.inj h
   exact gr 16 [] [cC (Qb7 h0),cC (Qb7 h1),bT h2,bT h3]
  ·obtain rfl:=Option.some.inj h
   exact gr 17 [] [cC (Qb7 h0),cC (Qb7 h1),bT h2,bF h3]
 ·rcases Qaj h with ⟨h4,h⟩|⟨h4,h⟩
  ·obtain rfl:=Option.some.inj h
   exact gr 17 [] [cC (Qb7 h0),cC (Qb7 h1),bF h2,bT h4]
  ·rcases Qaj h with ⟨h5,h⟩|⟨h5,h⟩
   ·obtain rfl:=Option.some.inj h
    exact gr 22 [] [cC (Qb7 h0),cC (Qb7 h1),bF h2,bF h4,bT h5]
   ·rcases Qaj h with ⟨h6,h⟩|⟨h6,h⟩
    ·obtain rfl:=Option.some.inj h
     exact gr 27 [] [cC (Qb7 h0),cC (Qb7 h1),bF h2,bF h4,bF h5,bT h6]
    ·obtain rfl:=Option.some.inj h
     exact gr 28 [] [cC (Qb7 h0),cC (Qb7 h1),bF h2,bF h4,bF h5,bF h6]
theorem Qop {a b} {rv:Int} (h:QhW a b=some rv):AFn Tryz.prog 104 [.agg (Qaa.enc a),.agg (Qaa.enc b)] [] (one (lI rv)) []:=by
 refine QaM Tryz.func104 (by kernel_rfl) (by kernel_rfl) (fun Γ=>?_)
 unfold QhW at h
 obtain ⟨r,h0,h⟩:=Qae h
 obtain ⟨r1,h1,h⟩:=Qae h
 obtain ⟨r2,h2,h⟩:=Qae h
 obtain ⟨r3,h3,h⟩:=Qae h
 obtain ⟨r4,h4,h⟩:=Qae h
 obtain rfl:=Option.some.inj h
 exact gr 6 [] [hH (.draw 15 []),cC (QnM h0),cC (QmA h1),cC (QmA h2),cC (QnM h3),oO (Eq.refl ([r,r3].map e_i64).length),cC (Qwg h4)]
def Qbu (Γ:Gam) (rv:Int) (cf:Cf):Prop:=Go Tryz.prog Tryz.f103 [] Γ (one (lI rv)) [] cf
def Qbq (Γ:Gam) (rv:Int) (s1:List Qaa) (s2:List Qaa) (v:Int):Prop:=Qbu Γ rv ⟨[.c 52,.l 52,.b 0,.c 7],⟨39,[vL 0 2 s1 Qaa.enc,vL 1 2 s2 Qaa.enc,(2,one (.fn (.func 104) [])),vL 11 2 s1 Qaa.enc,vI 12 (lenI s1),vI 13 v],[]⟩⟩
def Qbm (Γ:Gam) (rv:Int) (s1:List Qaa) (s2:List Qaa):Prop:=Qbu Γ rv ⟨[.c 7],⟨39,[vL 0 2 s1 Qaa.enc,vL 1 2 s2 Qaa.enc],[]⟩⟩
theorem QcI (Γ:Gam) (rv:Int) {s1 s2} {s:Int} {e:(Unit)⊕(Int)} (h:loopF (fun s=>Qav s1 s2 s) s=some e) (hD:sel e (fun e=>Qbm Γ rv s1 s2) (fun e=>e=rv)):Qbq Γ rv s1 s2 s:=by
 refine QaD (C:=fun (s:Int)=>Qbq Γ rv s1 s2 s) (D:=fun (e:(Unit)⊕(Int))=>sel e (fun e=>Qbm Γ rv s1 s2) (fun e=>e=rv)) ?_ h hD
 clear h hD s e
 intro v z_ h hI hE
 replace h:Qav s1 s2 v=_:=h
 unfold Qav at h
 rcases Qaj h with ⟨h0,h⟩|⟨h0,h⟩
 ·obtain ⟨x0,h1,h⟩:=Qae h
  rcases Qaj h with ⟨h2,h⟩|⟨h2,h⟩
  ·obtain rfl:=(hE _ (oJ h):_=rv)
   exact gr 15 [] [bT h0,cE Qaa.enc h1,nL Qaa.enc s2,bT h2]
  ·obtain ⟨x1,h3,h⟩:=Qae h
   obtain ⟨r,h4,h⟩:=Qae h
   rcases Qaj h with ⟨h5,h⟩|⟨h5,h⟩
   ·obtain rfl:=(hE _ (oJ h):_=rv)
    exact gr 23 [] [bT h0,cE Qaa.enc h1,nL Qaa.enc s2,bF h2,cE Qaa.enc h3,cC (Qop h4),bT h5]
   ·exact gn 25 [0,1,2,11,12,13] [] [bT h0,cE Qaa.enc h1,nL Qaa.enc s2,bF h2,cE Qaa.enc h3,cC (Qop h4),bF h5] (hI _ (oJ h))
 ·exact gn 5 [0,1] [] [bF h0] (hE _ (oJ h))
theorem Qc3 {s1 s2} {rv:Int} (h:QaU s1 s2=some rv):AFn Tryz.prog 103 [.one (lL 2 s1 Qaa.enc),.one (lL 2 s2 Qaa.enc),.one (.fn (.func 104) [])] [] (one (lI rv)) []:=by
 refine QaM Tryz.func103 (by kernel_rfl) (by kernel_rfl) (fun Γ=>?_)
 unfold QaU at h
 obtain ⟨e0,h6,h⟩:=Qae h
 refine gn 7 [0,1,2,11,12,13] [] [nL Qaa.enc s1] (QcI Γ rv h6 ?_)
 rcases e0 with e0|e0
 ·replace h:(br (ltI (lenI s1) (lenI s2)) (some (-1)) (some 0):Option Int)=some _:=h
  rcases Qaj h with ⟨h7,h⟩|⟨h7,h⟩
  ·obtain rfl:=Option.some.inj h
   exact gr 6 [] [nL Qaa.enc s1,nL Qaa.enc s2,bT h7]
  ·obtain rfl:=Option.some.inj h
   exact gr 7 [] [nL Qaa.enc s1,nL Qaa.enc s2,bF h7]
 ·obtain ⟨r1,rfl⟩:∃ x,x=e0:=⟨_,rfl⟩
  replace h:(some r1:Option Int)=some _:=h
  exact Option.some.inj h
theorem Qvj {a b} {rv:Bool} (h:QlF a b=some rv):AFn Tryz.prog 67 [.one (lL 2 a Qaa.enc),.one (lL 2 b Qaa.enc)] [] (one (.bool rv)) []:=by
 refine QaM Tryz.func67 (by kernel_rfl) (by kernel_rfl) (fun Γ=>?_)
 unfold QlF at h
 obtain ⟨r,h0,h⟩:=Qae h
 obtain rfl:=Option.some.inj h
 exact gr 4 [] [cC (Qc3 h0)]
theorem Qjm {a b} {rv:Bool} (h:Qh1 a b=some rv):AFn Tryz.prog 34 [.agg (Qag.enc a),.agg (Qag.enc b)] [] (one (.bool rv)) []:=by
 refine QaM Tryz.func34 (by kernel_rfl) (by kernel_rfl) (fun Γ=>?_)
 unfold Qh1 at h
 rcases Qaj h with ⟨h0,h⟩|⟨h0,h⟩
 ·obtain rfl:=Option.some.inj h
  exact gr 8 [] [bT h0]
 ·obtain ⟨r,h1,h⟩:=Qae h
  obtain rfl:=Option.some.inj h
  exact gr 9 [] [bF h0,cC (Qvj h1)]
theorem Qnh {f l} {rv:Qat} (h:QfI f l=some rv):AFn Tryz.prog 50 [.one (.op 0 19 0 0),.one (lL 2 l Qaa.enc)] [bX 19 83 (Qat.enc f)] (.tup []) [oX 19 83 [lL 1 rv.x.net.places e_str,lL 6 rv.x.net.arcs Qas.enc,lL 14 rv.x.types Qai.enc,lL 16 rv.x.orders Qah.enc,lL 2 rv.x.apart QaC.enc,lL 2 rv.x.before QaC.enc,lI rv.begin.type_,lI rv.begin.start,lL 1 rv.begin.rests QaQ,lL 2 rv.begin.visits Qaa.enc,lI rv.set_,.bool rv.found,lI rv.best.type_,lI rv.best.set_,lI rv.best.price,lI rv.best.route.type_,lI rv.best.route.start,lL 1 rv.best.route.rests QaQ,lL 2 rv.best.route.visits Qaa.enc]]:=by
 refine QaM Tryz.func50 (by kernel_rfl) (by kernel_rfl) (fun Γ=>?_)
 unfold QfI at h
 obtain ⟨r,h0,h⟩:=Qae h
 rcases Qaj h with ⟨h1,h⟩|⟨h1,h⟩
 ·obtain rfl:=Option.some.inj h
  exact gr 10 [0] [cC (Qcu h0),rp 7 hP,rp 5 (oI ((neI r.2 0)=false)),oR True ((neI r.2 0)=false),bT h1]
 ·obtain ⟨r1,h2,h⟩:=Qae h
  rcases Qaj h with ⟨h3,h⟩|⟨h3,h⟩
  ·obtain rfl:=Option.some.inj h
   exact gr 17 [0] [cC (Qcu h0),rp 7 hP,rp 5 (oI ((neI r.2 0)=false)),oR True ((neI r.2 0)=false),bF h1,hH (.draw 11 []),cC (Qid h2),bT h3]
  ·rcases Qaj h with ⟨h4,h⟩|⟨h4,h⟩
   ·obtain ⟨r2,h5,h⟩:=Qae h
    rcases Qaj h with ⟨h6,h⟩|⟨h6,h⟩
    ·obtain rfl:=Option.some.inj h
     exact gr 24 [0] [cC (Qcu h0),rp 7 hP,rp 5 (oI ((neI r.2 0)=false)),oR True ((neI r.2 0)=false),bF h1,hH (.draw 11 []),cC (Qid h2),bF h3,hH (.draw 10 []),hH (.draw 13 []),rp 6 (nF h4),cC (Qjm h5),nF h4,bT h6]
    ·obtain rfl:=Option.some.inj h
     exact gr 24 [0] [cC (Qcu h0),rp 7 hP,rp 5 (oI ((neI r.2 0)=false)),oR True ((neI r.2 0)=false),bF h1,hH (.draw 11 []),cC (Qid h2),bF h3,hH (.draw 10 []),hH (.draw 13 []),rp 6 (nF h4),cC (Qjm h5),nF h4,bF h6]
   ·obtain rfl:=Option.some.inj h
    exact gr 24 [0] [cC (Qcu h0),rp 7 hP,rp 5 (oI ((neI r.2 0)=false)),oR True ((neI r.2 0)=false),bF h1,hH (.draw 11 []),cC (Qid h2),bF h3,hH (.draw 10 []),hH (.draw 13 []),rp 7 (nT h4),tT]
def Qgz (Γ:Gam) (rv:Bool) (cf:Cf):Prop:=Go Tryz.prog Tryz.f133 [] Γ (one (.bool rv)) [] cf
def Qoq (Γ:Gam) (rv:Bool) (x0:Qac) (l:List Qaa) (v:Qaa) (r1:List Qaa) (v1:Int):Prop:=Qgz Γ rv ⟨[.c 116,.l 116,.b 0,.c 15],⟨63,[vL 1 2 l Qaa.enc,vP 3 0 6,vP 5 1 2,vL 21 2 r1 Qaa.enc,vI 22 (lenI r1),vI 23 v1],[oX 6 30 (Qac.enc x0),oX 2 54 (Qaa.enc v)]⟩⟩
def Qns (Γ:Gam) (rv:Bool) (x0:Qac) (l:List Qaa) (v:Qaa) (r1:List Qaa):Prop:=Qgz Γ rv ⟨[.c 15],⟨63,[vL 1 2 l Qaa.enc,vP 3 0 6,vP 5 1 2],[oX 6 30 (Qac.enc x0),oX 2 54 (Qaa.enc v)]⟩⟩
def Qos (Γ:Gam) (rv:Bool) (x0:Qac) (l:List Qaa) (v:Qaa) (v2:Int) (r3:List Qaa) (v3:Int):Prop:=Qgz Γ rv ⟨[.c 125340,.l 125340,.b 4,.b 3,.c 1959,.l 244,.b 2,.c 31],⟨63,[vL 1 2 l Qaa.enc,vP 3 0 6,vP 5 1 2,vL 36 2 x0.before QaC.enc,vI 37 (lenI x0.before),vI 38 v2,vL 51 2 r3 Qaa.enc,vI 52 (lenI r3),vI 53 v3],[oX 6 30 (Qac.enc x0),oX 2 54 (Qaa.enc v)]⟩⟩
def Qnu (Γ:Gam) (rv:Bool) (x0:Qac) (l:List Qaa) (v:Qaa) (v2:Int) (r3:List Qaa):Prop:=Qgz Γ rv ⟨[.b 3,.c 1959,.l 244,.b 2,.c 31],⟨63,[vL 1 2 l Qaa.enc,vP 3 0 6,vP 5 1 2,vL 36 2 x0.before QaC.enc,vI 37 (lenI x0.before),vI 38 v2],[oX 6 30 (Qac.enc x0),oX 2 54 (Qaa.enc v)]⟩⟩
def Qor (Γ:Gam) (rv:Bool) (x0:Qac) (l:List Qaa) (v:Qaa) (v2:Int):Prop:=Qgz Γ rv ⟨[.c 244,.l 244,.b 2,.c 31],⟨63,[vL 1 2 l Qaa.enc,vP 3 0 6,vP 5 1 2,vL 36 2 x0.before QaC.enc,vI 37 (lenI x0.before),vI 38 v2],[oX 6 30 (Qac.enc x0),oX 2 54 (Qaa.enc v)]⟩⟩
def Qnt (Γ:Gam) (rv:Bool) (x0:Qac) (l:List Qaa) (v:Qaa):Prop:=Qgz Γ rv ⟨[.c 31],⟨63,[],[]⟩⟩
theorem Qst (Γ:Gam) (rv:Bool) {x0 l v r1} {s:Int} {e:(Unit)⊕(Bool)} (h:loopF (fun s=>QcT x0 l v r1 s) s=some e) (hD:sel e (fun e=>Qns Γ rv x0 l v r1) (fun e=>e=rv)):Qoq Γ rv x0 l v r1 s:=by
 refine QaD (C:=fun (s:Int)=>Qoq Γ rv x0 l v r1 s) (D:=fun (e:(Unit)⊕(Bool))=>sel e (fun e=>Qns Γ rv x0 l v r1) (fun e=>e=rv)) ?_ h hD
 clear h hD s e
 intro v1 z_ h hI hE
 replace h:QcT x0 l v r1 v1=_:=h
 unfold QcT at h
 rcases Qaj h with ⟨h3,h⟩|⟨h3,h⟩
 ·obtain ⟨x1,h4,h⟩:=Qae h
  rcases Qaj h with ⟨h5,h⟩|⟨h5,h⟩
  ·exact gn 14 [1,3,5] [0,1] [bT h3,cE Qaa.enc h4,bT h5] (hE _ (oJ h))
  ·obtain ⟨r2,h6,h⟩:=Qae h
   rcases Qaj h with ⟨h7,h⟩|⟨h7,h⟩
   ·obtain rfl:=(hE _ (oJ h):_=rv)
    exact gr 19 [] [bT h3,cE Qaa.enc h4,bF h5,cC (QcS h6),bT h7]
   ·exact gn 21 [1,3,5,21,22,23] [0,1] [bT h3,cE Qaa.enc h4,bF h5,cC (QcS h6),bF h7] (hI _ (oJ h))
 ·exact gn 5 [1,3,5] [0,1] [bF h3] (hE _ (oJ h))
theorem Qsv (Γ:Gam) (rv:Bool) {x0 l v v2 r3} {s:Int} {e:(Unit)⊕(Bool)} (h:loopF (fun s=>Qdm x0 l v v2 r3 s) s=some e) (hD:sel e (fun e=>Qnu Γ rv x0 l v v2 r3) (fun e=>e=rv)):Qos Γ rv x0 l v v2 r3 s:=by
 refine QaD (C:=fun (s:Int)=>Qos Γ rv x0 l v v2 r3 s) (D:=fun (e:(Unit)⊕(Bool))=>sel e (fun e=>Qnu Γ rv x0 l v v2 r3) (fun e=>e=rv)) ?_ h hD
 clear h hD s e
 intro v3 z_ h hI hE
 replace h:Qdm x0 l v v2 r3 v3=_:=h
 unfold Qdm at h
 rcases Qaj h with ⟨h13,h⟩|⟨h13,h⟩
 ·obtain ⟨x3,h14,h⟩:=Qae h
  obtain ⟨r4,h15,h⟩:=Qae h
  rcases Qaj h with ⟨h16,h⟩|⟨h16,h⟩
  ·obtain rfl:=(hE _ (oJ h):_=rv)
   exact gr 14 [] [bT h13,cE Qaa.enc h14,cC (QcS h15),bT h16]
  ·exact gn 16 [1,3,5,36,37,38,51,52,53] [0,1] [bT h13,cE Qaa.enc h14,cC (QcS h15),bF h16] (hI _ (oJ h))
 ·exact gn 5 [1,3,5,36,37,38] [0,1] [bF h13] (hE _ (oJ h))
theorem Qsu (Γ:Gam) (rv:Bool) {x0 l v} {s:Int} {e:(Unit)⊕(Bool)} (h:loopF (fun s=>QcU x0 l v s) s=some e) (hD:sel e (fun e=>Qnt Γ rv x0 l v) (fun e=>e=rv)):Qor Γ rv x0 l v s:=by
 refine QaD (C:=fun (s:Int)=>Qor Γ rv x0 l v s) (D:=fun (e:(Unit)⊕(Bool))=>sel e (fun e=>Qnt Γ rv x0 l v) (fun e=>e=rv)) ?_ h hD
 clear h hD s e
 intro v2 z_ h hI hE
 replace h:QcU x0 l v v2=_:=h
 unfold QcU at h
 rcases Qaj h with ⟨h9,h⟩|⟨h9,h⟩
 ·obtain ⟨x2,h10,h⟩:=Qae h
  rcases Qaj h with ⟨h11,h⟩|⟨h11,h⟩
  ·exact gn 16 [1,3,5,36,37,38] [0,1] [bT h9,cE QaC.enc h10,oO (zL 1),oO (lT 1 2),bT h11] (hI _ (oJ h))
  ·obtain ⟨r3,h12,h⟩:=Qae h
   obtain ⟨e1,h17,h⟩:=Qae h
   refine gn 18 [1,3,5,36,37,38,51,52,53] [0,1] [bT h9,cE QaC.enc h10,oO (zL 1),oO (lT 1 2),bF h11,oO (zL 0),oO (lT 0 2),cC (Qhj h12),nL Qaa.enc r3] (Qsv Γ rv h17 ?_)
   rcases e1 with e1|e1
   ·replace h:(some (.inl (addK .i64 v2 1)):Option ((Int)⊕((Unit)⊕(Bool))))=some _:=h
    exact gn 3 [1,3,5,36,37,38] [0,1] [] (hI _ (oJ h))
   ·obtain ⟨r5,rfl⟩:∃ x,x=e1:=⟨_,rfl⟩
    replace h:(some (.inr (.inr r5)):Option ((Int)⊕((Unit)⊕(Bool))))=some _:=h
    exact (hE _ (oJ h):_=rv)
 ·exact gn 5 [] [] [bF h9] (hE _ (oJ h))
theorem Qqa {x0 l v} {rv:Bool} (h:QjR x0 l v=some rv):AFn Tryz.prog 133 [.agg (Qac.enc x0),.one (lL 2 l Qaa.enc),.agg (Qaa.enc v)] [] (one (.bool rv)) []:=by
 refine QaM Tryz.func133 (by kernel_rfl) (by kernel_rfl) (fun Γ=>?_)
 unfold QjR at h
 obtain ⟨r,h0,h⟩:=Qae h
 rcases Qaj h with ⟨h1,h⟩|⟨h1,h⟩
 ·obtain rfl:=Option.some.inj h
  exact gr 8 [] [cC (QcS h0),bT h1]
 ·obtain ⟨r1,h2,h⟩:=Qae h
  obtain ⟨e0,h8,h⟩:=Qae h
  refine gn 12 [1,3,5,21,22,23] [0,1] [cC (QcS h0),bF h1,cC (Qhj h2),nL Qaa.enc r1] (Qst Γ rv h8 ?_)
  rcases e0 with e0|e0
  ·replace h:(bnd (loopF (fun s=>QcU x0 l v s) 0) (fun e=>sel e (fun (_:Unit)=>some true) (fun r6=>some r6)):Option Bool)=some _:=h
   obtain ⟨e2,h18,h⟩:=Qae h
   refine gn 5 [1,3,5,36,37,38] [0,1] [nL QaC.enc x0.before] (Qsu Γ rv h18 ?_)
   rcases e2 with e2|e2
   ·replace h:(some true:Option Bool)=some _:=h
    obtain rfl:=Option.some.inj h
    exact gr 2 [] []
   ·obtain ⟨r6,rfl⟩:∃ x,x=e2:=⟨_,rfl⟩
    replace h:(some r6:Option Bool)=some _:=h
    exact Option.some.inj h
  ·obtain ⟨r7,rfl⟩:∃ x,x=e0:=⟨_,rfl⟩
   replace h:(some r7:Option Bool)=some _:=h
   exact Option.some.inj h
def QkD (Γ:Gam) (rv:List Qaa) (cf:Cf):Prop:=Go Tryz.prog Tryz.f85 [] Γ (one (lL 2 rv Qaa.enc)) [] cf
def Qpo (Γ:Gam) (rv:List Qaa) (x0:Qac) (set_:Int) (l:List Qaa) (v:Int) (r:List Qaa) (l2:List Qaa) (v1:Int):Prop:=QkD Γ rv ⟨[.c 59804,.l 59804,.b 2,.b 1,.c 935,.l 116,.b 0,.c 15],⟨53,[vI 1 set_,vL 2 2 l Qaa.enc,vP 3 0 6,vO 7 1 2 l2 Qaa.enc,vL 13 16 x0.orders Qah.enc,vI 14 (lenI x0.orders),vI 15 v,vL 36 2 r Qaa.enc,vI 37 (lenI r),vI 38 v1],[oX 6 30 (Qac.enc x0),oS 2 54 l2 Qaa.enc]⟩⟩
def Qoo (Γ:Gam) (rv:List Qaa) (x0:Qac) (set_:Int) (l:List Qaa) (v:Int) (r:List Qaa) (l3:List Qaa):Prop:=QkD Γ rv ⟨[.b 1,.c 935,.l 116,.b 0,.c 15],⟨53,[vI 1 set_,vL 2 2 l Qaa.enc,vP 3 0 6,vO 7 1 2 l3 Qaa.enc,vL 13 16 x0.orders Qah.enc,vI 14 (lenI x0.orders),vI 15 v],[oX 6 30 (Qac.enc x0),oS 2 54 l3 Qaa.enc]⟩⟩
def Qpn (Γ:Gam) (rv:List Qaa) (x0:Qac) (set_:Int) (l:List Qaa) (l1:List Qaa) (v:Int):Prop:=QkD Γ rv ⟨[.c 116,.l 116,.b 0,.c 15],⟨53,[vI 1 set_,vL 2 2 l Qaa.enc,vP 3 0 6,vO 7 1 2 l1 Qaa.enc,vL 13 16 x0.orders Qah.enc,vI 14 (lenI x0.orders),vI 15 v],[oX 6 30 (Qac.enc x0),oS 2 54 l1 Qaa.enc]⟩⟩
def Qon (Γ:Gam) (rv:List Qaa) (x0:Qac) (set_:Int) (l:List Qaa) (l4:List Qaa):Prop:=QkD Γ rv ⟨[.c 15],⟨53,[vO 7 0 2 l4 Qaa.enc],[oS 2 54 l4 Qaa.enc]⟩⟩
theorem Qtb (Γ:Gam) (rv:List Qaa) {x0 set_ l v r} {s:List Qaa×Int} {e:List Qaa} (h:loopF (fun s=>QdG x0 set_ l v r s.1 s.2) s=some e) (hD:Qoo Γ rv x0 set_ l v r e):Qpo Γ rv x0 set_ l v r s.1 s.2:=by
 refine QaD (C:=fun (s:List Qaa×Int)=>Qpo Γ rv x0 set_ l v r s.1 s.2) (D:=fun (e:List Qaa)=>Qoo Γ rv x0 set_ l v r e) ?_ h hD
 clear h hD s e
 rintro ⟨l2,v1⟩ z_ h hI hE
 replace h:QdG x0 set_ l v r l2 v1=_:=h
 unfold QdG at h
 rcases Qaj h with ⟨h6,h⟩|⟨h6,h⟩
 ·obtain ⟨x2,h7,h⟩:=Qae h
  obtain ⟨r1,h8,h⟩:=Qae h
  rcases Qaj h with ⟨h9,h⟩|⟨h9,h⟩
  ·obtain ⟨h10,h⟩:=Qax h
   exact gn 16 [1,2,3,7,13,14,15,36,37,38] [0,4] [bT h6,cE Qaa.enc h7,cC (Qqa h8),bT h9,oO (Eq.refl ([x2].map Qaa.enc).length),aO Qaa.enc h10] (hI _ (oJ h))
  ·exact gn 16 [1,2,3,7,13,14,15,36,37,38] [0,1] [bT h6,cE Qaa.enc h7,cC (Qqa h8),bF h9] (hI _ (oJ h))
 ·exact gn 5 [1,2,3,7,13,14,15] [0,1] [bF h6] (hE _ (oJ h))
theorem Qta (Γ:Gam) (rv:List Qaa) {x0 set_ l} {s:List Qaa×Int} {e:List Qaa} (h:loopF (fun s=>Qdk x0 set_ l s.1 s.2) s=some e) (hD:Qon Γ rv x0 set_ l e):Qpn Γ rv x0 set_ l s.1 s.2:=by
 refine QaD (C:=fun (s:List Qaa×Int)=>Qpn Γ rv x0 set_ l s.1 s.2) (D:=fun (e:List Qaa)=>Qon Γ rv x0 set_ l e) ?_ h hD
 clear h hD s e
 rintro ⟨l1,v⟩ z_ h hI hE
 replace h:Qdk x0 set_ l l1 v=_:=h
 unfold Qdk at h
 rcases Qaj h with ⟨h0,h⟩|⟨h0,h⟩
 ·obtain ⟨x1,h1,h⟩:=Qae h
  rcases Qaj h with ⟨h2,h⟩|⟨h2,h⟩
  ·exact gn 16 [1,2,3,7,13,14,15] [0,1] [bT h0,cE Qah.enc h1,rp 6 (bT h2),rp 4 tT] (hI _ (oJ h))
  ·obtain ⟨h3,h⟩:=Qax h
   rcases Qaj h with ⟨h4,h⟩|⟨h4,h⟩
   ·exact gn 16 [1,2,3,7,13,14,15] [0,1] [bT h0,cE Qah.enc h1,rp 3 (bF h2),oO (h3),rp 3 (bF h2),hP,hP,hP,oI ((eqI (andK .i64 (shrK .i64 set_ v) 1) 0)=false),oR True ((eqI (andK .i64 (shrK .i64 set_ v) 1) 0)=false),bT h4] (hI _ (oJ h))
   ·obtain ⟨r,h5,h⟩:=Qae h
    obtain ⟨e0,h11,h⟩:=Qae h
    refine gn 18 [1,2,3,7,13,14,15,36,37,38] [0,1] [bT h0,cE Qah.enc h1,rp 3 (bF h2),oO (h3),rp 3 (bF h2),hP,hP,hP,oI ((eqI (andK .i64 (shrK .i64 set_ v) 1) 0)=false),oR True ((eqI (andK .i64 (shrK .i64 set_ v) 1) 0)=false),bF h4,cC (Qhj h5),nL Qaa.enc r] (Qtb Γ rv h11 ?_)
    obtain ⟨l3,rfl⟩:∃ x,x=e0:=⟨_,rfl⟩
    replace h:(some (.inl (l3,(addK .i64 v 1))):Option ((List Qaa×Int)⊕(List Qaa)))=some _:=h
    exact gn 3 [1,2,3,7,13,14,15] [0,1] [] (hI _ (oJ h))
 ·exact gn 5 [7] [1] [bF h0] (hE _ (oJ h))
theorem Qnn {x0 set_ l} {rv:List Qaa} (h:Qjl x0 set_ l=some rv):AFn Tryz.prog 85 [.agg (Qac.enc x0),.one (lI set_),.one (lL 2 l Qaa.enc)] [] (one (lL 2 rv Qaa.enc)) []:=by
 refine QaM Tryz.func85 (by kernel_rfl) (by kernel_rfl) (fun Γ=>?_)
 unfold Qjl at h
 obtain ⟨e1,h12,h⟩:=Qae h
 refine gn 9 [1,2,3,7,13,14,15] [0,1] [nL Qah.enc x0.orders,hW 3,hH (.adopt 7 2 54)] (Qta Γ rv h12 ?_)
 obtain ⟨l4,rfl⟩:∃ x,x=e1:=⟨_,rfl⟩
 replace h:(some l4:Option (List Qaa))=some _:=h
 obtain rfl:=Option.some.inj h
 exact gr 2 [] [hW 4,hH (.frz 0),rp 3 (eL l4 Qaa.enc)]
theorem Qhn {s0} {rv:List Qaa} (h:Qbs s0=some rv):AFn Tryz.prog 86 [.one (lL 2 s0 Qaa.enc)] [] (one (lO 0 2 rv Qaa.enc)) [oS 2 54 rv Qaa.enc]:=by
 refine QaM Tryz.func86 (by kernel_rfl) (by kernel_rfl) (fun Γ=>?_)
 unfold Qbs at h
 rcases Qaj h with ⟨h0,h⟩|⟨h0,h⟩
 ·obtain ⟨hx,h⟩:=QzX h
  refine gn 5 [0,4] [] [hH (.skip)] (cf':=⟨[.c 13,.c 7],⟨8,[vL 0 2 s0 Qaa.enc,(4,.boo)],[]⟩⟩) (QEB 4 rfl ?_ ?_)
  ·replace h:=hx
   obtain rfl:=Option.some.inj h
   exact gr 3 [0] [tT,hW 3,hH (.adopt 2 2 54)]
  ·obtain ⟨h1,h⟩:=Qax h
   obtain rfl:=Option.some.inj h
   exact gr 4 [0] [fF,aZ Qaa.enc h1]
 ·obtain ⟨h2,h⟩:=Qax h
  obtain rfl:=Option.some.inj h
  exact gr 9 [0] [oO (neE Qaa.enc h0),fF,hH (.bit false),aZ Qaa.enc h2]
def Qni (Γ:Gam) (rv:Qat) (cf:Cf):Prop:=Go Tryz.prog Tryz.f51 [0] Γ (.tup []) [oX 19 83 [lL 1 rv.x.net.places e_str,lL 6 rv.x.net.arcs Qas.enc,lL 14 rv.x.types Qai.enc,lL 16 rv.x.orders Qah.enc,lL 2 rv.x.apart QaC.enc,lL 2 rv.x.before QaC.enc,lI rv.begin.type_,lI rv.begin.start,lL 1 rv.begin.rests QaQ,lL 2 rv.begin.visits Qaa.enc,lI rv.set_,.bool rv.found,lI rv.best.type_,lI rv.best.set_,lI rv.best.price,lI rv.best.route.type_,lI rv.best.route.start,lL 1 rv.best.route.rests QaQ,lL 2 rv.best.route.visits Qaa.enc]] cf
def Qki (Γ:Gam) (rv:Qat) (self:Qat→(List Qaa)→Option Qat) (l:List Qaa) (r:List Qaa) (x0:Qat) (v:Int):Prop:=Qni Γ rv ⟨[.c 60,.l 60,.b 0],⟨37,[vP 0 0 19,vL 1 2 l Qaa.enc,vL 23 2 r Qaa.enc,vI 24 (lenI r),vI 25 v],[oX 19 83 (Qat.enc x0)]⟩⟩
def QjL (Γ:Gam) (rv:Qat) (self:Qat→(List Qaa)→Option Qat) (l:List Qaa) (r:List Qaa) (x2:Qat):Prop:=Qni Γ rv ⟨[],⟨37,[],[oX 19 83 (Qat.enc x2)]⟩⟩
theorem QpL (Γ:Gam) (rv:Qat) {self:Qat→(List Qaa)→Option Qat} (hself:∀ {f:Qat} {l:List Qaa} {rv:Qat},self f l=some rv→AFn Tryz.prog 51 [.one (.op 0 19 0 0),.one (lL 2 l Qaa.enc)] [bX 19 83 (Qat.enc f)] (.tup []) [oX 19 83 [lL 1 rv.x.net.places e_str,lL 6 rv.x.net.arcs Qas.enc,lL 14 rv.x.types Qai.enc,lL 16 rv.x.orders Qah.enc,lL 2 rv.x.apart QaC.enc,lL 2 rv.x.before QaC.enc,lI rv.begin.type_,lI rv.begin.start,lL 1 rv.begin.rests QaQ,lL 2 rv.begin.visits Qaa.enc,lI rv.set_,.bool rv.found,lI rv.best.type_,lI rv.best.set_,lI rv.best.price,lI rv.best.route.type_,lI rv.best.route.start,lL 1 rv.best.route.rests QaQ,lL 2 rv.best.route.visits Qaa.enc]]) {l r} {s:Qat×Int} {e:Qat} (h:loopF (fun s=>QdM self l r s.1 s.2) s=some e) (hD:QjL Γ rv self l r e):Qki Γ rv self l r s.1 s.2:=by
 refine QaD (C:=fun (s:Qat×Int)=>Qki Γ rv self l r s.1 s.2) (D:=fun (e:Qat)=>QjL Γ rv self l r e) ?_ h hD
 clear h hD s e
 rintro ⟨x0,v⟩ z_ h hI hE
 replace h:QdM self l r x0 v=_:=h
 unfold QdM at h
 rcases Qaj h with ⟨h3,h⟩|⟨h3,h⟩
 ·obtain ⟨x1,h4,h⟩:=Qae h
  obtain ⟨r2,h5,h⟩:=Qae h
  obtain ⟨h6,h⟩:=Qax h
  obtain ⟨r3,h7,h⟩:=Qae h
  exact gn 13 [0,1,23,24,25] [0] [bT h3,cE Qaa.enc h4,hH (.draw 6 [(2,5)]),cC (Qhn h5),oO (Eq.refl ([x1].map Qaa.enc).length),aO Qaa.enc h6,hH (.frz 4),oO (Eq.refl ((r2++[x1]).map Qaa.enc).length),cI [0] (hself h7)] (hI _ (oJ h))
 ·exact gn 5 [] [0] [bF h3] (hE _ (oJ h))
theorem Qqp {self:Qat→(List Qaa)→Option Qat} (hself:∀ {f:Qat} {l:List Qaa} {rv:Qat},self f l=some rv→AFn Tryz.prog 51 [.one (.op 0 19 0 0),.one (lL 2 l Qaa.enc)] [bX 19 83 (Qat.enc f)] (.tup []) [oX 19 83 [lL 1 rv.x.net.places e_str,lL 6 rv.x.net.arcs Qas.enc,lL 14 rv.x.types Qai.enc,lL 16 rv.x.orders Qah.enc,lL 2 rv.x.apart QaC.enc,lL 2 rv.x.before QaC.enc,lI rv.begin.type_,lI rv.begin.start,lL 1 rv.begin.rests QaQ,lL 2 rv.begin.visits Qaa.enc,lI rv.set_,.bool rv.found,lI rv.best.type_,lI rv.best.set_,lI rv.best.price,lI rv.best.route.type_,lI rv.best.route.start,lL 1 rv.best.route.rests QaQ,lL 2 rv.best.route.visits Qaa.enc]]) {f l} {rv:Qat} (h:Qfv self f l=some rv):AFn Tryz.prog 51 [.one (.op 0 19 0 0),.one (lL 2 l Qaa.enc)] [bX 19 83 (Qat.enc f)] (.tup []) [oX 19 83 [lL 1 rv.x.net.places e_str,lL 6 rv.x.net.arcs Qas.enc,lL 14 rv.x.types Qai.enc,lL 16 rv.x.orders Qah.enc,lL 2 rv.x.apart QaC.enc,lL 2 rv.x.before QaC.enc,lI rv.begin.type_,lI rv.begin.start,lL 1 rv.begin.rests QaQ,lL 2 rv.begin.visits Qaa.enc,lI rv.set_,.bool rv.found,lI rv.best.type_,lI rv.best.set_,lI rv.best.price,lI rv.best.route.type_,lI rv.best.route.start,lL 1 rv.best.route.rests QaQ,lL 2 rv.best.route.visits Qaa.enc]]:=by
 refine QaM Tryz.func51 (by kernel_rfl) (by kernel_rfl) (fun Γ=>?_)
 unfold Qfv at h
 obtain ⟨r,h0,h⟩:=Qae h
 rcases Qaj h with ⟨h1,h⟩|⟨h1,h⟩
 ·obtain ⟨r1,h2,h⟩:=Qae h
  obtain rfl:=Option.some.inj h
  exact gr 8 [0] [hH (.draw 11 []),cC (Qnn h0),nL Qaa.enc r,bT h1,cI [0] (Qnh h2)]
 ·obtain ⟨e0,h8,h⟩:=Qae h
  refine gn 11 [0,1,23,24,25] [0] [hH (.draw 11 []),cC (Qnn h0),nL Qaa.enc r,bF h1,nL Qaa.enc r] (QpL Γ rv hself h8 ?_)
  obtain ⟨x2,rfl⟩:∃ x,x=e0:=⟨_,rfl⟩
  replace h:(some x2:Option Qat)=some _:=h
  obtain rfl:=Option.some.inj h
  exact gr 0 [0] []
theorem QlC:∀ n,∀ {f:Qat} {l:List Qaa} {rv:Qat},Qdp n f l=some rv→AFn Tryz.prog 51 [.one (.op 0 19 0 0),.one (lL 2 l Qaa.enc)] [bX 19 83 (Qat.enc f)] (.tup []) [oX 19 83 [lL 1 rv.x.net.places e_str,lL 6 rv.x.net.arcs Qas.enc,lL 14 rv.x.types Qai.enc,lL 16 rv.x.orders Qah.enc,lL 2 rv.x.apart QaC.enc,lL 2 rv.x.before QaC.enc,lI rv.begin.type_,lI rv.begin.start,lL 1 rv.begin.rests QaQ,lL 2 rv.begin.visits Qaa.enc,lI rv.set_,.bool rv.found,lI rv.best.type_,lI rv.best.set_,lI rv.best.price,lI rv.best.route.type_,lI rv.best.route.start,lL 1 rv.best.route.rests QaQ,lL 2 rv.best.route.visits Qaa.enc]]
 | 0=>fun h=>nomatch h
 | n+1=>fun h=>Qqp (QlC n) h
theorem QrS:∀ {f:Qat} {l:List Qaa} {rv:Qat},Qpb f l=some rv→AFn Tryz.prog 51 [.one (.op 0 19 0 0),.one (lL 2 l Qaa.enc)] [bX 19 83 (Qat.enc f)] (.tup []) [oX 19 83 [lL 1 rv.x.net.places e_str,lL 6 rv.x.net.arcs Qas.enc,lL 14 rv.x.types Qai.enc,lL 16 rv.x.orders Qah.enc,lL 2 rv.x.apart QaC.enc,lL 2 rv.x.before QaC.enc,lI rv.begin.type_,lI rv.begin.start,lL 1 rv.begin.rests QaQ,lL 2 rv.begin.visits Qaa.enc,lI rv.set_,.bool rv.found,lI rv.best.type_,lI rv.best.set_,lI rv.best.price,lI rv.best.route.type_,lI rv.best.route.start,lL 1 rv.best.route.rests QaQ,lL 2 rv.best.route.visits Qaa.enc]]:=QlC _
def Qxm (Γ:Gam) (rv:Qag×Int) (cf:Cf):Prop:=Go Tryz.prog Tryz.f21 [] Γ (.tup [.agg [lI rv.1.type_,lI rv.1.set_,lI rv.1.price,lI rv.1.route.type_,lI rv.1.route.start,lL 1 rv.1.route.rests QaQ,lL 2 rv.1.route.visits Qaa.enc],.one (lI rv.2)]) [] cf
theorem QlQ (Γ:Gam) (rv:Qag×Int) {x1} (h:QfZ x1=some rv):Qxm Γ rv ⟨[.b 0,.c 63],⟨69,[vP 6 0 7,vP 8 1 19],[oX 7 45 [lI 0,lI 0,lI 0,lI 0,lI 0,.nils,.nils],oX 19 83 (Qat.enc x1)]⟩⟩:=by
 unfold QfZ at h
 rcases Qaj h with ⟨h9,h⟩|⟨h9,h⟩
 ·obtain rfl:=Option.some.inj h
  exact gr 8 [] [nF h9]
 ·obtain rfl:=Option.some.inj h
  exact gr 7 [] [nT h9,hW 5,hH (.nilB 0 5 1),hH (.nilB 0 6 2)]
theorem QbX {x0 begin set_} {rv:Qag×Int} (h:Qib x0 begin set_=some rv):AFn Tryz.prog 21 [.agg (Qac.enc x0),.agg (Qad.enc begin),.one (lI set_)] [] (.tup [.agg [lI rv.1.type_,lI rv.1.set_,lI rv.1.price,lI rv.1.route.type_,lI rv.1.route.start,lL 1 rv.1.route.rests QaQ,lL 2 rv.1.route.visits Qaa.enc],.one (lI rv.2)]) []:=by
 refine QaM Tryz.func21 (by kernel_rfl) (by kernel_rfl) (fun Γ=>?_)
 unfold Qib at h
 rcases Qaj h with ⟨h0,h⟩|⟨h0,h⟩
 ·obtain rfl:=Option.some.inj h
  exact gr 8 [] [rp 5 hP,rp 3 (oI ((ltI begin.type_ 0)=false)),nL Qai.enc x0.types,hP,hP,rp 2 (oI ((ltI begin.type_ 0)=false)),oR True ((ltI begin.type_ 0)=false),rp 5 (bT h0),tT,hW 5,hH (.nilB 2 5 1),hH (.nilB 2 6 2)]
 ·obtain ⟨r,h1,h⟩:=Qae h
  rcases Qaj h with ⟨h2,h⟩|⟨h2,h⟩
  ·obtain ⟨r1,h3,h⟩:=Qae h
   rcases Qaj h with ⟨h4,h⟩|⟨h4,h⟩
   ·exact gn 17 [6,8] [2,3] [rp 5 hP,rp 3 (oI ((ltI begin.type_ 0)=false)),nL Qai.enc x0.types,hP,hP,rp 2 (oI ((ltI begin.type_ 0)=false)),oR True ((ltI begin.type_ 0)=false),rp 3 (bF h0),cC (QjK h1),bF h0,bF h0,nF h2,cC (Qcu h3),rp 5 hP,rp 3 (oI ((neI r1.2 0)=false)),oR True ((neI r1.2 0)=false),bT h4,hW 1,hH (.nilB 3 17 1),hH (.nilB 3 18 2)] (QlQ Γ rv h)
   ·obtain ⟨r2,h5,h⟩:=Qae h
    rcases Qaj h with ⟨h6,h⟩|⟨h6,h⟩
    ·obtain ⟨r3,h7,h⟩:=Qae h
     exact gn 20 [6,8] [2,3] [rp 5 hP,rp 3 (oI ((ltI begin.type_ 0)=false)),nL Qai.enc x0.types,hP,hP,rp 2 (oI ((ltI begin.type_ 0)=false)),oR True ((ltI begin.type_ 0)=false),rp 3 (bF h0),cC (QjK h1),bF h0,bF h0,nF h2,cC (Qcu h3),rp 5 hP,rp 3 (oI ((neI r1.2 0)=false)),oR True ((neI r1.2 0)=false),bF h4,cC (Qpc h5),bT h6,hW 4,hH (.nilB 3 17 1),hH (.nilB 3 18 2),cI [3] (Qnh h7)] (QlQ Γ rv h)
    ·obtain ⟨r4,h8,h⟩:=Qae h
     exact gn 20 [6,8] [2,3] [rp 5 hP,rp 3 (oI ((ltI begin.type_ 0)=false)),nL Qai.enc x0.types,hP,hP,rp 2 (oI ((ltI begin.type_ 0)=false)),oR True ((ltI begin.type_ 0)=false),rp 3 (bF h0),cC (QjK h1),bF h0,bF h0,nF h2,cC (Qcu h3),rp 5 hP,rp 3 (oI ((neI r1.2 0)=false)),oR True ((neI r1.2 0)=false),bF h4,cC (Qpc h5),bF h6,hW 4,hH (.nilB 3 17 1),hH (.nilB 3 18 2),cI [3] (QrS h8)] (QlQ Γ rv h)
  ·obtain rfl:=Option.some.inj h
   exact gr 8 [] [rp 5 hP,rp 3 (oI ((ltI begin.type_ 0)=false)),nL Qai.enc x0.types,hP,hP,rp 2 (oI ((ltI begin.type_ 0)=false)),oR True ((ltI begin.type_ 0)=false),rp 3 (bF h0),cC (QjK h1),bF h0,bF h0,nT h2,hW 5,hH (.nilB 2 5 1),hH (.nilB 2 6 2)]
def Qu6 (Γ:Gam) (rv:List Qag) (cf:Cf):Prop:=Go Tryz.prog Tryz.f43 [] Γ (one (lL 7 rv Qag.enc)) [] cf
def Qr8 (Γ:Gam) (rv:List Qag) (x0:Qac) (begin:Qad) (need:Int) (without:Int) (l:List Qag) (set_:Int):Prop:=Qu6 Γ rv ⟨[.c 116,.l 116,.b 0,.c 15],⟨46,[vI 2 need,vI 3 without,vP 4 0 6,vP 5 1 4,vO 9 2 7 l Qag.enc,vI 10 set_],[oX 6 30 (Qac.enc x0),oX 4 37 (Qad.enc begin),oS 7 45 l Qag.enc]⟩⟩
def Qra (Γ:Gam) (rv:List Qag) (x0:Qac) (begin:Qad) (need:Int) (without:Int) (l1:List Qag):Prop:=Qu6 Γ rv ⟨[.c 15],⟨46,[vO 9 0 7 l1 Qag.enc],[oS 7 45 l1 Qag.enc]⟩⟩
theorem Qu7 (Γ:Gam) (rv:List Qag) {x0 begin need without} {s:List Qag×Int} {e:List Qag} (h:loopF (fun s=>Qn8 x0 begin need without s.1 s.2) s=some e) (hD:Qra Γ rv x0 begin need without e):Qr8 Γ rv x0 begin need without s.1 s.2:=by
 refine QaD (C:=fun (s:List Qag×Int)=>Qr8 Γ rv x0 begin need without s.1 s.2) (D:=fun (e:List Qag)=>Qra Γ rv x0 begin need without e) ?_ h hD
 clear h hD s e
 rintro ⟨l,set_⟩ z_ h hI hE
 replace h:Qn8 x0 begin need without l set_=_:=h
 unfold Qn8 at h
 obtain ⟨h0,h⟩:=Qax h
 rcases Qaj h with ⟨h1,h⟩|⟨h1,h⟩
 ·rcases Qaj h with ⟨h2,h⟩|⟨h2,h⟩
  ·exact gn 14 [2,3,4,5,9,10] [0,1,2] [nL Qah.enc x0.orders,oO (h0),bT h1,rp 5 hP,rp 3 (oI ((neI (andK .i64 set_ need) need)=false)),oR True ((neI (andK .i64 set_ need) need)=false),bT h2] (hI _ (oJ h))
  ·obtain ⟨r,h3,h⟩:=Qae h
   rcases Qaj h with ⟨h4,h⟩|⟨h4,h⟩
   ·obtain ⟨h5,h⟩:=Qax h
    exact gn 21 [2,3,4,5,9,10] [0,1,5] [nL Qah.enc x0.orders,oO (h0),bT h1,rp 5 hP,rp 3 (oI ((neI (andK .i64 set_ need) need)=false)),oR True ((neI (andK .i64 set_ need) need)=false),bF h2,cC (QbX h3),bT h4,oO (Eq.refl ([r.1].map Qag.enc).length),aO Qag.enc h5] (hI _ (oJ h))
   ·exact gn 21 [2,3,4,5,9,10] [0,1,2] [nL Qah.enc x0.orders,oO (h0),bT h1,rp 5 hP,rp 3 (oI ((neI (andK .i64 set_ need) need)=false)),oR True ((neI (andK .i64 set_ need) need)=false),bF h2,cC (QbX h3),bF h4] (hI _ (oJ h))
 ·exact gn 5 [9] [2] [nL Qah.enc x0.orders,oO (h0),bF h1] (hE _ (oJ h))
theorem Qt4 {x0 begin need without} {rv:List Qag} (h:Qs1 x0 begin need without=some rv):AFn Tryz.prog 43 [.agg (Qac.enc x0),.agg (Qad.enc begin),.one (lI need),.one (lI without)] [] (one (lL 7 rv Qag.enc)) []:=by
 refine QaM Tryz.func43 (by kernel_rfl) (by kernel_rfl) (fun Γ=>?_)
 unfold Qs1 at h
 obtain ⟨e0,h6,h⟩:=Qae h
 refine gn 9 [2,3,4,5,9,10] [0,1,2] [hW 14,hH (.adopt 9 7 45)] (Qu7 Γ rv h6 ?_)
 obtain ⟨l1,rfl⟩:∃ x,x=e0:=⟨_,rfl⟩
 replace h:(some l1:Option (List Qag))=some _:=h
 obtain rfl:=Option.some.inj h
 exact gr 2 [] [hW 4,hH (.frz 0),rp 3 (eL l1 Qag.enc)]
def Qks (Γ:Gam) (rv:List Qag×Int) (cf:Cf):Prop:=Go Tryz.prog Tryz.f16 [] Γ (.tup [.one (lL 7 rv.1 Qag.enc),.one (lI rv.2)]) [] cf
def Qr5 (Γ:Gam) (rv:List Qag×Int) (x0:Qac) (begins:List Qad) (now:Int) (v:Int):Prop:=Qks Γ rv ⟨[.c 116,.l 116,.b 0,.c 15],⟨88,[vL 1 4 begins Qad.enc,vI 2 now,vP 3 0 6,vL 22 4 begins Qad.enc,vI 23 (lenI begins),vI 24 v],[oX 6 30 (Qac.enc x0)]⟩⟩
def Qq7 (Γ:Gam) (rv:List Qag×Int) (x0:Qac) (begins:List Qad) (now:Int):Prop:=Qks Γ rv ⟨[.c 15],⟨88,[vL 1 4 begins Qad.enc,vI 2 now,vP 3 0 6],[oX 6 30 (Qac.enc x0)]⟩⟩
def Qr6 (Γ:Gam) (rv:List Qag×Int) (x0:Qac) (begins:List Qad) (now:Int) (l:List Qag) (v1:Int):Prop:=Qks Γ rv ⟨[.c 500,.l 500,.b 2,.c 63],⟨88,[vL 1 4 begins Qad.enc,vI 2 now,vP 3 0 6,vO 10 1 7 l Qag.enc,vL 40 4 begins Qad.enc,vI 41 (lenI begins),vI 42 v1],[oX 6 30 (Qac.enc x0),oS 7 45 l Qag.enc]⟩⟩
def Qq8 (Γ:Gam) (rv:List Qag×Int) (x0:Qac) (begins:List Qad) (now:Int) (l4:List Qag):Prop:=Qks Γ rv ⟨[.c 63],⟨88,[vL 1 4 begins Qad.enc,vI 2 now,vP 3 0 6,vO 10 1 7 l4 Qag.enc],[oX 6 30 (Qac.enc x0),oS 7 45 l4 Qag.enc]⟩⟩
def Qr7 (Γ:Gam) (rv:List Qag×Int) (x0:Qac) (now:Int) (r4:Int) (l5:List Qag) (v2:Int):Prop:=Qks Γ rv ⟨[.c 2036,.l 2036,.b 4,.c 255],⟨88,[vI 2 now,vP 3 0 6,vO 10 1 7 l5 Qag.enc,vI 14 r4,vI 74 (lenI x0.types),vI 75 v2],[oX 6 30 (Qac.enc x0),oS 7 45 l5 Qag.enc]⟩⟩
def Qq9 (Γ:Gam) (rv:List Qag×Int) (x0:Qac) (now:Int) (r4:Int) (l6:List Qag):Prop:=Qks Γ rv ⟨[.c 255],⟨88,[vO 10 0 7 l6 Qag.enc],[oS 7 45 l6 Qag.enc]⟩⟩
theorem Qu3 (Γ:Gam) (rv:List Qag×Int) {x0 begins now} {s:Int} {e:(Unit)⊕(List Qag×Int)} (h:loopF (fun s=>Qn6 x0 begins now s) s=some e) (hD:sel e (fun e=>Qq7 Γ rv x0 begins now) (fun e=>e=rv)):Qr5 Γ rv x0 begins now s:=by
 refine QaD (C:=fun (s:Int)=>Qr5 Γ rv x0 begins now s) (D:=fun (e:(Unit)⊕(List Qag×Int))=>sel e (fun e=>Qq7 Γ rv x0 begins now) (fun e=>e=rv)) ?_ h hD
 clear h hD s e
 intro v z_ h hI hE
 replace h:Qn6 x0 begins now v=_:=h
 unfold Qn6 at h
 rcases Qaj h with ⟨h1,h⟩|⟨h1,h⟩
 ·obtain ⟨x1,h2,h⟩:=Qae h
  rcases Qaj h with ⟨h3,h⟩|⟨h3,h⟩
  ·obtain rfl:=(hE _ (oJ h):_=rv)
   exact gr 14 [] [bT h1,cE Qad.enc h2,rp 5 hP,rp 3 (oI ((ltI x1.type_ 0)=false)),nL Qai.enc x0.types,hP,hP,rp 2 (oI ((ltI x1.type_ 0)=false)),oR True ((ltI x1.type_ 0)=false),bT h3,hW 4,hH (.nilS 6 0 7)]
  ·exact gn 16 [1,2,3,22,23,24] [0] [bT h1,cE Qad.enc h2,rp 5 hP,rp 3 (oI ((ltI x1.type_ 0)=false)),nL Qai.enc x0.types,hP,hP,rp 2 (oI ((ltI x1.type_ 0)=false)),oR True ((ltI x1.type_ 0)=false),bF h3] (hI _ (oJ h))
 ·exact gn 5 [1,2,3] [0] [bF h1] (hE _ (oJ h))
theorem Qu4 (Γ:Gam) (rv:List Qag×Int) {x0 begins now} {s:List Qag×Int} {e:List Qag} (h:loopF (fun s=>QlB x0 begins now s.1 s.2) s=some e) (hD:Qq8 Γ rv x0 begins now e):Qr6 Γ rv x0 begins now s.1 s.2:=by
 refine QaD (C:=fun (s:List Qag×Int)=>Qr6 Γ rv x0 begins now s.1 s.2) (D:=fun (e:List Qag)=>Qq8 Γ rv x0 begins now e) ?_ h hD
 clear h hD s e
 rintro ⟨l,v1⟩ z_ h hI hE
 replace h:QlB x0 begins now l v1=_:=h
 unfold QlB at h
 rcases Qaj h with ⟨h5,h⟩|⟨h5,h⟩
 ·obtain ⟨x2,h6,h⟩:=Qae h
  obtain ⟨l1,h7,h⟩:=Qae h
  obtain ⟨l2,h8,h⟩:=Qae h
  obtain ⟨r,h9,h⟩:=Qae h
  obtain ⟨r1,h10,h⟩:=Qae h
  obtain ⟨l3,h11,h⟩:=Qae h
  obtain ⟨r2,h12,h⟩:=Qae h
  obtain ⟨r3,h13,h⟩:=Qae h
  obtain ⟨h14,h⟩:=Qax h
  exact gn 15 [1,2,3,10,40,41,42] [0,4] [bT h5,cE Qad.enc h6,hH (.draw 8 []),hH (.rows (l1.map Qad.enc)),hH (.rows (l2.map Qad.enc)),hH (.frz 3),oO (sl1 h7),oO (sl2 h7),oO (sl3 Qad.enc h7),oO (Int.le_refl v1),oO (sl3 Qad.enc h7),oO (sl6 Qad.enc h7),oO (sl1 h8),oO (sl2h Qad.enc h8),rp 3 (oO (Int.le_refl ((begins.map Qad.enc).length:Int))),oO (sl6h Qad.enc h8),oO (Eq.refl ([l1,l2].map es_T_api_Route.enc).length),cC (Qif h9),cC (Qou h10),hH (.draw 11 []),hH (.rows (l3.map Qad.enc)),oO (sl1 h11),oO (sl2 h11),oO (sl3 Qad.enc h11),oO (Int.le_refl (addK .i64 v1 1)),oO (sl3 Qad.enc h11),oO (sl6 Qad.enc h11),cC (Qou h12),cC (Qt4 h13),aO Qag.enc h14] (hI _ (oJ h))
 ·exact gn 5 [1,2,3,10] [0,1] [bF h5] (hE _ (oJ h))
theorem Qu5 (Γ:Gam) (rv:List Qag×Int) {x0 now r4} {s:List Qag×Int} {e:List Qag} (h:loopF (fun s=>Qjk x0 now r4 s.1 s.2) s=some e) (hD:Qq9 Γ rv x0 now r4 e):Qr7 Γ rv x0 now r4 s.1 s.2:=by
 refine QaD (C:=fun (s:List Qag×Int)=>Qr7 Γ rv x0 now r4 s.1 s.2) (D:=fun (e:List Qag)=>Qq9 Γ rv x0 now r4 e) ?_ h hD
 clear h hD s e
 rintro ⟨l5,v2⟩ z_ h hI hE
 replace h:Qjk x0 now r4 l5 v2=_:=h
 unfold Qjk at h
 rcases Qaj h with ⟨h17,h⟩|⟨h17,h⟩
 ·obtain ⟨r5,h18,h⟩:=Qae h
  obtain ⟨h19,h⟩:=Qax h
  exact gn 13 [2,3,10,14,74,75] [0,2] [bT h17,hW 14,hH (.nilS 82 2 1),hH (.nilS 82 3 2),cC (Qt4 h18),aO Qag.enc h19] (hI _ (oJ h))
 ·exact gn 5 [10] [1] [bF h17] (hE _ (oJ h))
theorem Qn7 {x0 begins now} {rv:List Qag×Int} (h:Qu2 x0 begins now=some rv):AFn Tryz.prog 16 [.agg (Qac.enc x0),.one (lL 4 begins Qad.enc),.one (lI now)] [] (.tup [.one (lL 7 rv.1 Qag.enc),.one (lI rv.2)]) []:=by
 refine QaM Tryz.func16 (by kernel_rfl) (by kernel_rfl) (fun Γ=>?_)
 unfold Qu2 at h
 rcases Qaj h with ⟨h0,h⟩|⟨h0,h⟩
 ·obtain rfl:=Option.some.inj h
  exact gr 8 [] [hP,hP,hP,oI ((ltI now 0)=false),oR True ((ltI now 0)=false),bT h0,hW 4,hH (.nilS 6 0 7)]
 ·obtain ⟨e0,h4,h⟩:=Qae h
  refine gn 12 [1,2,3,22,23,24] [0] [hP,hP,hP,oI ((ltI now 0)=false),oR True ((ltI now 0)=false),bF h0,nL Qad.enc begins] (Qu3 Γ rv h4 ?_)
  rcases e0 with e0|e0
  ·replace h:(bnd (loopF (fun s=>QlB x0 begins now s.1 s.2) ([],0)) (fun l4=>bnd (QiU begins) fun r4=>bnd (loopF (fun s=>Qjk x0 now r4 s.1 s.2) (l4,0)) (fun l6=>some (l6,0))):Option (List Qag×Int))=some _:=h
   obtain ⟨e1,h15,h⟩:=Qae h
   refine gn 7 [1,2,3,10,40,41,42] [0,1] [nL Qad.enc begins,hW 3,hH (.adopt 10 7 45)] (Qu4 Γ rv h15 ?_)
   obtain ⟨l4,rfl⟩:∃ x,x=e1:=⟨_,rfl⟩
   replace h:(bnd (QiU begins) fun r4=>bnd (loopF (fun s=>Qjk x0 now r4 s.1 s.2) (l4,0)) (fun l6=>some (l6,0)):Option (List Qag×Int))=some _:=h
   obtain ⟨r4,h16,h⟩:=Qae h
   obtain ⟨e2,h20,h⟩:=Qae h
   refine gn 7 [2,3,10,14,74,75] [0,1] [cC (Qou h16),nL Qai.enc x0.types] (Qu5 Γ rv h20 ?_)
   obtain ⟨l6,rfl⟩:∃ x,x=e2:=⟨_,rfl⟩
   replace h:(some (l6,0):Option (List Qag×Int))=some _:=h
   obtain rfl:=Option.some.inj h
   exact gr 2 [] [hW 5,hH (.frz 0),rp 3 (eL l6 Qag.enc)]
  ·obtain ⟨r6,rfl⟩:∃ x,x=e0:=⟨_,rfl⟩
   replace h:(some r6:Option (List Qag×Int))=some _:=h
   exact Option.some.inj h
theorem QgL {rv:Qac} (h:QlL=some rv):AFn Tryz.prog 40 [] [] (gG [lL 1 rv.net.places e_str,lL 6 rv.net.arcs Qas.enc,lL 14 rv.types Qai.enc,lL 16 rv.orders Qah.enc,lL 2 rv.apart QaC.enc,lL 2 rv.before QaC.enc]) []:=by
 refine QaM Tryz.func40 (by kernel_rfl) (by kernel_rfl) (fun Γ=>?_)
 unfold QlL at h
 obtain rfl:=Option.some.inj h
 exact gr 12 [] [hW 18,hH (.frz 3),hH (.nilS 7 5 2),hH (.frz 4),hH (.nilS 10 5 2),hW 8,hH (.frz 6),hW 9,hH (.frz 8),hW 7,hH (.frz 1),hH (.frz 5),hH (.frz 7),hH (.frz 9),hH (.nilB 0 4 2),hH (.nilB 0 5 2),rp 4 (oO (Eq.refl ([(Qao.mk 0 10)].map Qao.enc).length)),rp 4 (oO (Eq.refl ([1].map e_i64).length)),rp 6 (oO (Eq.refl ([QBl,QBm].map e_str).length)),rp 4 (oO (Eq.refl ([(Qas.mk 0 1 0 3 [(Qao.mk 0 10)] []),(Qas.mk 1 0 0 3 [(Qao.mk 0 10)] [])].map Qas.enc).length)),rp 4 (oO (Eq.refl ([(Qai.mk QBo 1 0 0 [1] 0 0 0 100 100 0 0 1 0)].map Qai.enc).length)),rp 4 (oO (Eq.refl ([(Qah.mk QBn [1] (Qau.mk 0 0 90 0) (Qau.mk 1 0 90 0) 0 (-1) 1 (-1) (-1) false)].map Qah.enc).length))]
theorem QkI {rv:Bool} (h:QfL=some rv):AFn Tryz.prog 14 [] [] (one (.bool rv)) []:=by
 refine QaM Tryz.func14 (by kernel_rfl) (by kernel_rfl) (fun Γ=>?_)
 unfold QfL at h
 obtain ⟨r,h0,h⟩:=Qae h
 obtain ⟨r1,h1,h⟩:=Qae h
 obtain ⟨r2,h2,h⟩:=Qae h
 obtain ⟨r3,h3,h⟩:=Qae h
 obtain ⟨r4,h4,h⟩:=Qae h
 rcases Qaj h with ⟨h5,h⟩|⟨h5,h⟩
 ·obtain rfl:=Option.some.inj h
  exact gr 20 [] [cC (QgL h0),hW 17,hH (.frz 3),hH (.frz 4),rp 2 (oO (Eq.refl ([false].map QaQ).length)),rp 2 (oO (Eq.refl ([(Qaa.mk 0 false)].map Qaa.enc).length)),cC (QbX h1),hW 13,hH (.frz 6),hH (.frz 7),rp 2 (oO (Eq.refl ([false,false].map QaQ).length)),rp 2 (oO (Eq.refl ([(Qaa.mk 0 false)].map Qaa.enc).length)),cC (QbX h2),hW 10,hH (.nilS 35 2 1),hH (.nilS 35 3 2),cC (QbX h3),hW 14,hH (.frz 10),hH (.frz 11),hW 1,hH (.frz 12),rp 2 (oO (Eq.refl ([false,false,false].map QaQ).length)),rp 2 (oO (Eq.refl ([(Qaa.mk 0 false),(Qaa.mk 0 true)].map Qaa.enc).length)),oO (Eq.refl ([(Qad.mk 0 0 [false,false,false] [(Qaa.mk 0 false),(Qaa.mk 0 true)])].map Qad.enc).length),cC (Qn7 h4),rp 13 hP,oI ((neI r1.2 0)=false),oR True ((neI r1.2 0)=false),oI (((neI r1.2 0)||(neI r2.2 24))=false),oR True (((neI r1.2 0)||(neI r2.2 24))=false),oI ((((neI r1.2 0)||(neI r2.2 24))||(neI r3.2 2))=false),oR True ((((neI r1.2 0)||(neI r2.2 24))||(neI r3.2 2))=false),rp 3 (oI (((((neI r1.2 0)||(neI r2.2 24))||(neI r3.2 2))||(neI r4.2 0))=false)),nL Qaa.enc r1.1.route.visits,rp 4 hP,oI (((((neI r1.2 0)||(neI r2.2 24))||(neI r3.2 2))||(neI r4.2 0))=false),oR True (((((neI r1.2 0)||(neI r2.2 24))||(neI r3.2 2))||(neI r4.2 0))=false),oI ((((((neI r1.2 0)||(neI r2.2 24))||(neI r3.2 2))||(neI r4.2 0))||(neI (lenI r1.1.route.visits) 2))=false),nL Qag.enc r4.1,hP,hP,oI ((((((neI r1.2 0)||(neI r2.2 24))||(neI r3.2 2))||(neI r4.2 0))||(neI (lenI r1.1.route.visits) 2))=false),oR True ((((((neI r1.2 0)||(neI r2.2 24))||(neI r3.2 2))||(neI r4.2 0))||(neI (lenI r1.1.route.visits) 2))=false),bT h5]
 ·obtain ⟨x0,h6,h⟩:=Qae h
  rcases Qaj h with ⟨h7,h⟩|⟨h7,h⟩
  ·obtain ⟨x1,h8,h⟩:=Qae h
   rcases Qaj h with ⟨h9,h⟩|⟨h9,h⟩
   ·obtain rfl:=Option.some.inj h
    exact gr 21 [] [cC (QgL h0),hW 17,hH (.frz 3),hH (.frz 4),rp 2 (oO (Eq.refl ([false].map QaQ).length)),rp 2 (oO (Eq.refl ([(Qaa.mk 0 false)].map Qaa.enc).length)),cC (QbX h1),hW 13,hH (.frz 6),hH (.frz 7),rp 2 (oO (Eq.refl ([false,false].map QaQ).length)),rp 2 (oO (Eq.refl ([(Qaa.mk 0 false)].map Qaa.enc).length)),cC (QbX h2),hW 10,hH (.nilS 35 2 1),hH (.nilS 35 3 2),cC (QbX h3),hW 14,hH (.frz 10),hH (.frz 11),hW 1,hH (.frz 12),rp 2 (oO (Eq.refl ([false,false,false].map QaQ).length)),rp 2 (oO (Eq.refl ([(Qaa.mk 0 false),(Qaa.mk 0 true)].map Qaa.enc).length)),oO (Eq.refl ([(Qad.mk 0 0 [false,false,false] [(Qaa.mk 0 false),(Qaa.mk 0 true)])].map Qad.enc).length),cC (Qn7 h4),rp 13 hP,oI ((neI r1.2 0)=false),oR True ((neI r1.2 0)=false),oI (((neI r1.2 0)||(neI r2.2 24))=false),oR True (((neI r1.2 0)||(neI r2.2 24))=false),oI ((((neI r1.2 0)||(neI r2.2 24))||(neI r3.2 2))=false),oR True ((((neI r1.2 0)||(neI r2.2 24))||(neI r3.2 2))=false),rp 3 (oI (((((neI r1.2 0)||(neI r2.2 24))||(neI r3.2 2))||(neI r4.2 0))=false)),nL Qaa.enc r1.1.route.visits,rp 4 hP,oI (((((neI r1.2 0)||(neI r2.2 24))||(neI r3.2 2))||(neI r4.2 0))=false),oR True (((((neI r1.2 0)||(neI r2.2 24))||(neI r3.2 2))||(neI r4.2 0))=false),oI ((((((neI r1.2 0)||(neI r2.2 24))||(neI r3.2 2))||(neI r4.2 0))||(neI (lenI r1.1.route.visits) 2))=false),nL Qag.enc r4.1,hP,hP,oI ((((((neI r1.2 0)||(neI r2.2 24))||(neI r3.2 2))||(neI r4.2 0))||(neI (lenI r1.1.route.visits) 2))=false),oR True ((((((neI r1.2 0)||(neI r2.2 24))||(neI r3.2 2))||(neI r4.2 0))||(neI (lenI r1.1.route.visits) 2))=false),bF h5,hH (.draw 29 []),cE Qaa.enc h6,rp 4 hP,rp 2 (oI ((eqI x0.order 0&&(eqB x0.drop true&&true))=true)),oR True ((eqI x0.order 0&&(eqB x0.drop true&&true))=true),bT h7,bT h7,cE Qag.enc h8,rp 4 (bT h7),bT h9,bT h9,cE Qag.enc h8,rp 4 (bT h9),nL QaQ x1.route.rests,bT h9,bT h9]
   ·obtain rfl:=Option.some.inj h
    exact gr 21 [] [cC (QgL h0),hW 17,hH (.frz 3),hH (.frz 4),rp 2 (oO (Eq.refl ([false].map QaQ).length)),rp 2 (oO (Eq.refl ([(Qaa.mk 0 false)].map Qaa.enc).length)),cC (QbX h1),hW 13,hH (.frz 6),hH (.frz 7),rp 2 (oO (Eq.refl ([false,false].map QaQ).length)),rp 2 (oO (Eq.refl ([(Qaa.mk 0 false)].map Qaa.enc).length)),cC (QbX h2),hW 10,hH (.nilS 35 2 1),hH (.nilS 35 3 2),cC (QbX h3),hW 14,hH (.frz 10),hH (.frz 11),hW 1,hH (.frz 12),rp 2 (oO (Eq.refl ([false,false,false].map QaQ).length)),rp 2 (oO (Eq.refl ([(Qaa.mk 0 false),(Qaa.mk 0 true)].map Qaa.enc).length)),oO (Eq.refl ([(Qad.mk 0 0 [false,false,false] [(Qaa.mk 0 false),(Qaa.mk 0 true)])].map Qad.enc).length),cC (Qn7 h4),rp 13 hP,oI ((neI r1.2 0)=false),oR True ((neI r1.2 0)=false),oI (((neI r1.2 0)||(neI r2.2 24))=false),oR True (((neI r1.2 0)||(neI r2.2 24))=false),oI ((((neI r1.2 0)||(neI r2.2 24))||(neI r3.2 2))=false),oR True ((((neI r1.2 0)||(neI r2.2 24))||(neI r3.2 2))=false),rp 3 (oI (((((neI r1.2 0)||(neI r2.2 24))||(neI r3.2 2))||(neI r4.2 0))=false)),nL Qaa.enc r1.1.route.visits,rp 4 hP,oI (((((neI r1.2 0)||(neI r2.2 24))||(neI r3.2 2))||(neI r4.2 0))=false),oR True (((((neI r1.2 0)||(neI r2.2 24))||(neI r3.2 2))||(neI r4.2 0))=false),oI ((((((neI r1.2 0)||(neI r2.2 24))||(neI r3.2 2))||(neI r4.2 0))||(neI (lenI r1.1.route.visits) 2))=false),nL Qag.enc r4.1,hP,hP,oI ((((((neI r1.2 0)||(neI r2.2 24))||(neI r3.2 2))||(neI r4.2 0))||(neI (lenI r1.1.route.visits) 2))=false),oR True ((((((neI r1.2 0)||(neI r2.2 24))||(neI r3.2 2))||(neI r4.2 0))||(neI (lenI r1.1.route.visits) 2))=false),bF h5,hH (.draw 29 []),cE Qaa.enc h6,rp 4 hP,rp 2 (oI ((eqI x0.order 0&&(eqB x0.drop true&&true))=true)),oR True ((eqI x0.order 0&&(eqB x0.drop true&&true))=true),bT h7,bT h7,cE Qag.enc h8,rp 4 (bT h7),rp 8 (bF h9)]
  ·obtain rfl:=Option.some.inj h
   exact gr 21 [] [cC (QgL h0),hW 17,hH (.frz 3),hH (.frz 4),rp 2 (oO (Eq.refl ([false].map QaQ).length)),rp 2 (oO (Eq.refl ([(Qaa.mk 0 false)].map Qaa.enc).length)),cC (QbX h1),hW 13,hH (.frz 6),hH (.frz 7),rp 2 (oO (Eq.refl ([false,false].map QaQ).length)),rp 2 (oO (Eq.refl ([(Qaa.mk 0 false)].map Qaa.enc).length)),cC (QbX h2),hW 10,hH (.nilS 35 2 1),hH (.nilS 35 3 2),cC (QbX h3),hW 14,hH (.frz 10),hH (.frz 11),hW 1,hH (.frz 12),rp 2 (oO (Eq.refl ([false,false,false].map QaQ).length)),rp 2 (oO (Eq.refl ([(Qaa.mk 0 false),(Qaa.mk 0 true)].map Qaa.enc).length)),oO (Eq.refl ([(Qad.mk 0 0 [false,false,false] [(Qaa.mk 0 false),(Qaa.mk 0 true)])].map Qad.enc).length),cC (Qn7 h4),rp 13 hP,oI ((neI r1.2 0)=false),oR True ((neI r1.2 0)=false),oI (((neI r1.2 0)||(neI r2.2 24))=false),oR True (((neI r1.2 0)||(neI r2.2 24))=false),oI ((((neI r1.2 0)||(neI r2.2 24))||(neI r3.2 2))=false),oR True ((((neI r1.2 0)||(neI r2.2 24))||(neI r3.2 2))=false),rp 3 (oI (((((neI r1.2 0)||(neI r2.2 24))||(neI r3.2 2))||(neI r4.2 0))=false)),nL Qaa.enc r1.1.route.visits,rp 4 hP,oI (((((neI r1.2 0)||(neI r2.2 24))||(neI r3.2 2))||(neI r4.2 0))=false),oR True (((((neI r1.2 0)||(neI r2.2 24))||(neI r3.2 2))||(neI r4.2 0))=false),oI ((((((neI r1.2 0)||(neI r2.2 24))||(neI r3.2 2))||(neI r4.2 0))||(neI (lenI r1.1.route.visits) 2))=false),nL Qag.enc r4.1,hP,hP,oI ((((((neI r1.2 0)||(neI r2.2 24))||(neI r3.2 2))||(neI r4.2 0))||(neI (lenI r1.1.route.visits) 2))=false),oR True ((((((neI r1.2 0)||(neI r2.2 24))||(neI r3.2 2))||(neI r4.2 0))||(neI (lenI r1.1.route.visits) 2))=false),bF h5,hH (.draw 29 []),cE Qaa.enc h6,rp 4 hP,rp 2 (oI ((eqI x0.order 0&&(eqB x0.drop true&&true))=true)),oR True ((eqI x0.order 0&&(eqB x0.drop true&&true))=true),rp 6 (bF h7),rp 8 fF]
def Qdg (Γ:Gam) (rv:Bool) (cf:Cf):Prop:=Go Tryz.prog Tryz.f45 [] Γ (one (.bool rv)) [] cf
def QiD (Γ:Gam) (rv:Bool) (a:List Qad) (b:List Qad) (i:Int) (k:Int):Prop:=Qdg Γ rv ⟨[.c 29844,.l 29844,.b 2,.c 3731,.b 1,.c 467,.l 116,.b 0,.c 15],⟨127,[vL 0 4 a Qad.enc,vL 1 4 b Qad.enc,vI 5 i,vI 6 k],[]⟩⟩
def Qik (Γ:Gam) (rv:Bool) (a:List Qad) (b:List Qad) (i:Int):Prop:=Qdg Γ rv ⟨[.c 3731,.b 1,.c 467,.l 116,.b 0,.c 15],⟨127,[vL 0 4 a Qad.enc,vL 1 4 b Qad.enc,vI 5 i],[]⟩⟩
def QiE (Γ:Gam) (rv:Bool) (a:List Qad) (b:List Qad) (i:Int) (k1:Int):Prop:=Qdg Γ rv ⟨[.c 29852,.l 29852,.b 4,.b 1,.c 467,.l 116,.b 0,.c 15],⟨127,[vL 0 4 a Qad.enc,vL 1 4 b Qad.enc,vI 5 i,vI 7 k1],[]⟩⟩
def Qil (Γ:Gam) (rv:Bool) (a:List Qad) (b:List Qad) (i:Int):Prop:=Qdg Γ rv ⟨[.b 1,.c 467,.l 116,.b 0,.c 15],⟨127,[vL 0 4 a Qad.enc,vL 1 4 b Qad.enc,vI 5 i],[]⟩⟩
def QiC (Γ:Gam) (rv:Bool) (a:List Qad) (b:List Qad) (i:Int):Prop:=Qdg Γ rv ⟨[.c 116,.l 116,.b 0,.c 15],⟨127,[vL 0 4 a Qad.enc,vL 1 4 b Qad.enc,vI 5 i],[]⟩⟩
def Qij (Γ:Gam) (rv:Bool) (a:List Qad) (b:List Qad):Prop:=Qdg Γ rv ⟨[.c 15],⟨127,[],[]⟩⟩
theorem QnG (Γ:Gam) (rv:Bool) {a b i} {s:Int} {e:(Unit)⊕(Bool)} (h:loopF (fun s=>Qbz a b i s) s=some e) (hD:sel e (fun e=>Qik Γ rv a b i) (fun e=>e=rv)):QiD Γ rv a b i s:=by
 refine QaD (C:=fun (s:Int)=>QiD Γ rv a b i s) (D:=fun (e:(Unit)⊕(Bool))=>sel e (fun e=>Qik Γ rv a b i) (fun e=>e=rv)) ?_ h hD
 clear h hD s e
 intro k z_ h hI hE
 replace h:Qbz a b i k=_:=h
 unfold Qbz at h
 obtain ⟨x2,h8,h⟩:=Qae h
 rcases Qaj h with ⟨h9,h⟩|⟨h9,h⟩
 ·obtain ⟨x3,h10,h⟩:=Qae h
  obtain ⟨x4,h11,h⟩:=Qae h
  obtain ⟨x5,h12,h⟩:=Qae h
  rcases Qaj h with ⟨h13,h⟩|⟨h13,h⟩
  ·exact gn 14 [0,1,5,6] [] [cE Qad.enc h8,nL Qaa.enc x2.visits,bT h9,hH (.draw 17 []),cE Qad.enc h8,cE Qaa.enc h10,cE Qad.enc h11,cE Qaa.enc h12,nF h13] (hI _ (oJ h))
  ·obtain rfl:=(hE _ (oJ h):_=rv)
   exact gr 12 [] [cE Qad.enc h8,nL Qaa.enc x2.visits,bT h9,hH (.draw 17 []),cE Qad.enc h8,cE Qaa.enc h10,cE Qad.enc h11,cE Qaa.enc h12,nT h13]
 ·exact gn 5 [0,1,5] [] [cE Qad.enc h8,nL Qaa.enc x2.visits,bF h9] (hE _ (oJ h))
theorem QnH (Γ:Gam) (rv:Bool) {a b i} {s:Int} {e:(Unit)⊕(Bool)} (h:loopF (fun s=>Qbk a b i s) s=some e) (hD:sel e (fun e=>Qil Γ rv a b i) (fun e=>e=rv)):QiE Γ rv a b i s:=by
 refine QaD (C:=fun (s:Int)=>QiE Γ rv a b i s) (D:=fun (e:(Unit)⊕(Bool))=>sel e (fun e=>Qil Γ rv a b i) (fun e=>e=rv)) ?_ h hD
 clear h hD s e
 intro k1 z_ h hI hE
 replace h:Qbk a b i k1=_:=h
 unfold Qbk at h
 obtain ⟨x6,h15,h⟩:=Qae h
 rcases Qaj h with ⟨h16,h⟩|⟨h16,h⟩
 ·obtain ⟨x7,h17,h⟩:=Qae h
  obtain ⟨x8,h18,h⟩:=Qae h
  obtain ⟨x9,h19,h⟩:=Qae h
  rcases Qaj h with ⟨h20,h⟩|⟨h20,h⟩
  ·exact gn 14 [0,1,5,7] [] [cE Qad.enc h15,nL QaQ x6.rests,bT h16,hH (.draw 17 []),cE Qad.enc h15,cE QaQ h17,cE Qad.enc h18,cE QaQ h19,nF h20] (hI _ (oJ h))
  ·obtain rfl:=(hE _ (oJ h):_=rv)
   exact gr 12 [] [cE Qad.enc h15,nL QaQ x6.rests,bT h16,hH (.draw 17 []),cE Qad.enc h15,cE QaQ h17,cE Qad.enc h18,cE QaQ h19,nT h20]
 ·exact gn 5 [0,1,5] [] [cE Qad.enc h15,nL QaQ x6.rests,bF h16] (hE _ (oJ h))
theorem QnF (Γ:Gam) (rv:Bool) {a b} {s:Int} {e:(Unit)⊕(Bool)} (h:loopF (fun s=>Qby a b s) s=some e) (hD:sel e (fun e=>Qij Γ rv a b) (fun e=>e=rv)):QiC Γ rv a b s:=by
 refine QaD (C:=fun (s:Int)=>QiC Γ rv a b s) (D:=fun (e:(Unit)⊕(Bool))=>sel e (fun e=>Qij Γ rv a b) (fun e=>e=rv)) ?_ h hD
 clear h hD s e
 intro i z_ h hI hE
 replace h:Qby a b i=_:=h
 unfold Qby at h
 rcases Qaj h with ⟨h1,h⟩|⟨h1,h⟩
 ·obtain ⟨x0,h2,h⟩:=Qae h
  obtain ⟨x1,h3,h⟩:=Qae h
  rcases Qaj h with ⟨h4,h⟩|⟨h4,h⟩
  ·obtain rfl:=(hE _ (oJ h):_=rv)
   exact gr 13 [] [nL Qad.enc a,bT h1,hH (.draw 54 []),cE Qad.enc h2,cE Qad.enc h3,rp 12 (bT h4),rp 29 tT]
  ·rcases Qaj h with ⟨h5,h⟩|⟨h5,h⟩
   ·obtain rfl:=(hE _ (oJ h):_=rv)
    exact gr 13 [] [nL Qad.enc a,bT h1,hH (.draw 54 []),cE Qad.enc h2,cE Qad.enc h3,rp 3 (bF h4),cE Qad.enc h2,rp 5 (bF h4),cE Qad.enc h3,rp 4 (bF h4),rp 14 (bT h5),rp 15 tT]
   ·rcases Qaj h with ⟨h6,h⟩|⟨h6,h⟩
    ·obtain rfl:=(hE _ (oJ h):_=rv)
     exact gr 13 [] [nL Qad.enc a,bT h1,hH (.draw 54 []),cE Qad.enc h2,cE Qad.enc h3,rp 3 (bF h4),cE Qad.enc h2,rp 5 (bF h4),cE Qad.enc h3,rp 4 (bF h4),rp 3 (bF h5),cE Qad.enc h2,rp 3 (bF h5),nL Qaa.enc x0.visits,rp 3 (bF h5),cE Qad.enc h3,rp 3 (bF h5),nL Qaa.enc x1.visits,bF h5,bF h5,rp 14 (bT h6),tT]
    ·rcases Qaj h with ⟨h7,h⟩|⟨h7,h⟩
     ·obtain rfl:=(hE _ (oJ h):_=rv)
      exact gr 13 [] [nL Qad.enc a,bT h1,hH (.draw 54 []),cE Qad.enc h2,cE Qad.enc h3,rp 3 (bF h4),cE Qad.enc h2,rp 5 (bF h4),cE Qad.enc h3,rp 4 (bF h4),rp 3 (bF h5),cE Qad.enc h2,rp 3 (bF h5),nL Qaa.enc x0.visits,rp 3 (bF h5),cE Qad.enc h3,rp 3 (bF h5),nL Qaa.enc x1.visits,bF h5,bF h5,rp 3 (bF h6),cE Qad.enc h2,rp 3 (bF h6),nL QaQ x0.rests,rp 3 (bF h6),cE Qad.enc h3,rp 3 (bF h6),nL QaQ x1.rests,bF h6,bF h6,bT h7]
     ·obtain ⟨e0,h14,h⟩:=Qae h
      refine gn 17 [0,1,5,6] [] [nL Qad.enc a,bT h1,hH (.draw 54 []),cE Qad.enc h2,cE Qad.enc h3,rp 3 (bF h4),cE Qad.enc h2,rp 5 (bF h4),cE Qad.enc h3,rp 4 (bF h4),rp 3 (bF h5),cE Qad.enc h2,rp 3 (bF h5),nL Qaa.enc x0.visits,rp 3 (bF h5),cE Qad.enc h3,rp 3 (bF h5),nL Qaa.enc x1.visits,bF h5,bF h5,rp 3 (bF h6),cE Qad.enc h2,rp 3 (bF h6),nL QaQ x0.rests,rp 3 (bF h6),cE Qad.enc h3,rp 3 (bF h6),nL QaQ x1.rests,bF h6,bF h6,bF h7] (QnG Γ rv h14 ?_)
      rcases e0 with e0|e0
      ·replace h:(bnd (loopF (fun s=>Qbk a b i s) 0) (fun e=>sel e (fun (_:Unit)=>some (.inl (addK .i64 i 1))) (fun r=>some (.inr (.inr r)))):Option ((Int)⊕((Unit)⊕(Bool))))=some _:=h
       obtain ⟨e1,h21,h⟩:=Qae h
       refine gn 4 [0,1,5,7] [] [] (QnH Γ rv h21 ?_)
       rcases e1 with e1|e1
       ·replace h:(some (.inl (addK .i64 i 1)):Option ((Int)⊕((Unit)⊕(Bool))))=some _:=h
        exact gn 3 [0,1,5] [] [] (hI _ (oJ h))
       ·obtain ⟨r,rfl⟩:∃ x,x=e1:=⟨_,rfl⟩
        replace h:(some (.inr (.inr r)):Option ((Int)⊕((Unit)⊕(Bool))))=some _:=h
        exact (hE _ (oJ h):_=rv)
      ·obtain ⟨r1,rfl⟩:∃ x,x=e0:=⟨_,rfl⟩
       replace h:(some (.inr (.inr r1)):Option ((Int)⊕((Unit)⊕(Bool))))=some _:=h
       exact (hE _ (oJ h):_=rv)
 ·exact gn 5 [] [] [nL Qad.enc a,bF h1] (hE _ (oJ h))
theorem QpH {a b} {rv:Bool} (h:QeV a b=some rv):AFn Tryz.prog 45 [.one (lL 4 a Qad.enc),.one (lL 4 b Qad.enc)] [] (one (.bool rv)) []:=by
 refine QaM Tryz.func45 (by kernel_rfl) (by kernel_rfl) (fun Γ=>?_)
 unfold QeV at h
 rcases Qaj h with ⟨h0,h⟩|⟨h0,h⟩
 ·obtain rfl:=Option.some.inj h
  exact gr 8 [] [nL Qad.enc a,nL Qad.enc b,bT h0]
 ·obtain ⟨e2,h22,h⟩:=Qae h
  refine gn 12 [0,1,5] [] [nL Qad.enc a,nL Qad.enc b,bF h0] (QnF Γ rv h22 ?_)
  rcases e2 with e2|e2
  ·replace h:(some true:Option Bool)=some _:=h
   obtain rfl:=Option.some.inj h
   exact gr 2 [] []
  ·obtain ⟨r2,rfl⟩:∃ x,x=e2:=⟨_,rfl⟩
   replace h:(some r2:Option Bool)=some _:=h
   exact Option.some.inj h
theorem Qo7 {a b} {rv:Bool} (h:QiF a b=some rv):AFn Tryz.prog 18 [.agg (Qag.enc a),.agg (Qag.enc b)] [] (one (.bool rv)) []:=by
 refine QaM Tryz.func18 (by kernel_rfl) (by kernel_rfl) (fun Γ=>?_)
 unfold QiF at h
 rcases Qaj h with ⟨h0,h⟩|⟨h0,h⟩
 ·obtain ⟨r,h1,h⟩:=Qae h
  obtain rfl:=Option.some.inj h
  exact gr 4 [] [rp 12 hP,rp 4 (oI ((eqI a.type_ b.type_)=true)),oR True ((eqI a.type_ b.type_)=true),rp 4 (oI (((eqI a.type_ b.type_)&&(eqI a.set_ b.set_))=true)),oR True (((eqI a.type_ b.type_)&&(eqI a.set_ b.set_))=true),rp 7 (bT h0),oO (Eq.refl ([a.route].map Qad.enc).length),oO (Eq.refl ([b.route].map Qad.enc).length),cC (QpH h1),bT h0]
 ·obtain rfl:=Option.some.inj h
  exact gr 4 [] [rp 12 hP,rp 4 (oI ((eqI a.type_ b.type_)=true)),oR True ((eqI a.type_ b.type_)=true),rp 4 (oI (((eqI a.type_ b.type_)&&(eqI a.set_ b.set_))=true)),oR True (((eqI a.type_ b.type_)&&(eqI a.set_ b.set_))=true),rp 8 (bF h0)]
def Qe5 (Γ:Gam) (rv:Bool) (cf:Cf):Prop:=Go Tryz.prog Tryz.f102 [] Γ (one (.bool rv)) [] cf
def Qev (Γ:Gam) (rv:Bool) (s1:List Qaa) (s2:List Qaa) (v:Int):Prop:=Qe5 Γ rv ⟨[.c 116,.l 116,.b 0,.c 15],⟨26,[vL 0 2 s1 Qaa.enc,vL 1 2 s2 Qaa.enc,vI 12 (lenI s1),vI 13 v],[]⟩⟩
def Qee (Γ:Gam) (rv:Bool) (s1:List Qaa) (s2:List Qaa):Prop:=Qe5 Γ rv ⟨[.c 15],⟨26,[],[]⟩⟩
theorem QhC (Γ:Gam) (rv:Bool) {s1 s2} {s:Int} {e:(Unit)⊕(Bool)} (h:loopF (fun s=>Qb6 s1 s2 s) s=some e) (hD:sel e (fun e=>Qee Γ rv s1 s2) (fun e=>e=rv)):Qev Γ rv s1 s2 s:=by
 refine QaD (C:=fun (s:Int)=>Qev Γ rv s1 s2 s) (D:=fun (e:(Unit)⊕(Bool))=>sel e (fun e=>Qee Γ rv s1 s2) (fun e=>e=rv)) ?_ h hD
 clear h hD s e
 intro v z_ h hI hE
 replace h:Qb6 s1 s2 v=_:=h
 unfold Qb6 at h
 rcases Qaj h with ⟨h1,h⟩|⟨h1,h⟩
 ·obtain ⟨x0,h2,h⟩:=Qae h
  obtain ⟨x1,h3,h⟩:=Qae h
  rcases Qaj h with ⟨h4,h⟩|⟨h4,h⟩
  ·exact gn 16 [0,1,12,13] [] [bT h1,hH (.draw 9 []),cE Qaa.enc h2,cE Qaa.enc h3,nF h4] (hI _ (oJ h))
  ·obtain rfl:=(hE _ (oJ h):_=rv)
   exact gr 14 [] [bT h1,hH (.draw 9 []),cE Qaa.enc h2,cE Qaa.enc h3,nT h4]
 ·exact gn 5 [] [] [bF h1] (hE _ (oJ h))
theorem Qit {s1 s2} {rv:Bool} (h:Qdv s1 s2=some rv):AFn Tryz.prog 102 [.one (lL 2 s1 Qaa.enc),.one (lL 2 s2 Qaa.enc)] [] (one (.bool rv)) []:=by
 refine QaM Tryz.func102 (by kernel_rfl) (by kernel_rfl) (fun Γ=>?_)
 unfold Qdv at h
 rcases Qaj h with ⟨h0,h⟩|⟨h0,h⟩
 ·obtain rfl:=Option.some.inj h
  exact gr 8 [] [nL Qaa.enc s1,nL Qaa.enc s2,bT h0]
 ·obtain ⟨e0,h5,h⟩:=Qae h
  refine gn 12 [0,1,12,13] [] [nL Qaa.enc s1,nL Qaa.enc s2,bF h0,nL Qaa.enc s1] (QhC Γ rv h5 ?_)
  rcases e0 with e0|e0
  ·replace h:(some true:Option Bool)=some _:=h
   obtain rfl:=Option.some.inj h
   exact gr 2 [] []
  ·obtain ⟨r,rfl⟩:∃ x,x=e0:=⟨_,rfl⟩
   replace h:(some r:Option Bool)=some _:=h
   exact Option.some.inj h
def Qim (Γ:Gam) (rv:Bool) (cf:Cf):Prop:=Go Tryz.prog Tryz.f65 [] Γ (one (.bool rv)) [] cf
def Qha (Γ:Gam) (rv:Bool) (s1:List Bool) (s2:List Bool) (v:Int):Prop:=Qim Γ rv ⟨[.c 116,.l 116,.b 0,.c 15],⟨26,[vL 0 1 s1 QaQ,vL 1 1 s2 QaQ,vI 12 (lenI s1),vI 13 v],[]⟩⟩
def QgH (Γ:Gam) (rv:Bool) (s1:List Bool) (s2:List Bool):Prop:=Qim Γ rv ⟨[.c 15],⟨26,[],[]⟩⟩
theorem QlG (Γ:Gam) (rv:Bool) {s1 s2} {s:Int} {e:(Unit)⊕(Bool)} (h:loopF (fun s=>QdI s1 s2 s) s=some e) (hD:sel e (fun e=>QgH Γ rv s1 s2) (fun e=>e=rv)):Qha Γ rv s1 s2 s:=by
 refine QaD (C:=fun (s:Int)=>Qha Γ rv s1 s2 s) (D:=fun (e:(Unit)⊕(Bool))=>sel e (fun e=>QgH Γ rv s1 s2) (fun e=>e=rv)) ?_ h hD
 clear h hD s e
 intro v z_ h hI hE
 replace h:QdI s1 s2 v=_:=h
 unfold QdI at h
 rcases Qaj h with ⟨h1,h⟩|⟨h1,h⟩
 ·obtain ⟨x0,h2,h⟩:=Qae h
  obtain ⟨x1,h3,h⟩:=Qae h
  rcases Qaj h with ⟨h4,h⟩|⟨h4,h⟩
  ·exact gn 16 [0,1,12,13] [] [bT h1,hH (.draw 9 []),cE QaQ h2,cE QaQ h3,nF h4] (hI _ (oJ h))
  ·obtain rfl:=(hE _ (oJ h):_=rv)
   exact gr 14 [] [bT h1,hH (.draw 9 []),cE QaQ h2,cE QaQ h3,nT h4]
 ·exact gn 5 [] [] [bF h1] (hE _ (oJ h))
theorem QhY {s1 s2} {rv:Bool} (h:QgA s1 s2=some rv):AFn Tryz.prog 65 [.one (lL 1 s1 QaQ),.one (lL 1 s2 QaQ)] [] (one (.bool rv)) []:=by
 refine QaM Tryz.func65 (by kernel_rfl) (by kernel_rfl) (fun Γ=>?_)
 unfold QgA at h
 rcases Qaj h with ⟨h0,h⟩|⟨h0,h⟩
 ·obtain rfl:=Option.some.inj h
  exact gr 8 [] [nL QaQ s1,nL QaQ s2,bT h0]
 ·obtain ⟨e0,h5,h⟩:=Qae h
  refine gn 12 [0,1,12,13] [] [nL QaQ s1,nL QaQ s2,bF h0,nL QaQ s1] (QlG Γ rv h5 ?_)
  rcases e0 with e0|e0
  ·replace h:(some true:Option Bool)=some _:=h
   obtain rfl:=Option.some.inj h
   exact gr 2 [] []
  ·obtain ⟨r,rfl⟩:∃ x,x=e0:=⟨_,rfl⟩
   replace h:(some r:Option Bool)=some _:=h
   exact Option.some.inj h
theorem Qb9 {set_ i} {rv:Bool} (h:Qej set_ i=some rv):AFn Tryz.prog 62 [.one (lI set_),.one (lI i)] [] (one (.bool rv)) []:=by
 refine QaM Tryz.func62 (by kernel_rfl) (by kernel_rfl) (fun Γ=>?_)
 unfold Qej at h
 rcases Qaj h with ⟨h0,h⟩|⟨h0,h⟩
 ·obtain ⟨h1,h⟩:=Qax h
  obtain rfl:=Option.some.inj h
  exact gr 4 [] [rp 6 hP,oI ((geI set_ 0)=true),oR True ((geI set_ 0)=true),oI (((geI set_ 0)&&(geI i 0))=true),oR True (((geI set_ 0)&&(geI i 0))=true),rp 4 (bT h0),oO (h1),bT h0,oO (oA (n:=2)),bT h0,bT h0]
 ·obtain rfl:=Option.some.inj h
  exact gr 4 [] [rp 6 hP,oI ((geI set_ 0)=true),oR True ((geI set_ 0)=true),oI (((geI set_ 0)&&(geI i 0))=true),oR True (((geI set_ 0)&&(geI i 0))=true),rp 7 (bF h0)]
def QnX (Γ:Gam) (rv:Int×Int) (cf:Cf):Prop:=Go Tryz.prog Tryz.f30 [] Γ (.tup [.one (lI rv.1),.one (lI rv.2)]) [] cf
def Qln (Γ:Gam) (rv:Int×Int) (r:Qad) (set_:Int) (i:Int):Prop:=QnX Γ rv ⟨[.c 116,.l 116,.b 0,.c 15],⟨36,[vP 1 0 4,vI 4 set_,vI 5 i],[oX 4 37 (Qad.enc r)]⟩⟩
def Qka (Γ:Gam) (rv:Int×Int) (r:Qad) (set_1:Int):Prop:=QnX Γ rv ⟨[.c 15],⟨36,[vI 4 set_1],[]⟩⟩
theorem Qqj (Γ:Gam) (rv:Int×Int) {r} {s:Int×Int} {e:(Int)⊕(Int×Int)} (h:loopF (fun s=>Qd7 r s.1 s.2) s=some e) (hD:sel e (fun e=>Qka Γ rv r e) (fun e=>e=rv)):Qln Γ rv r s.1 s.2:=by
 refine QaD (C:=fun (s:Int×Int)=>Qln Γ rv r s.1 s.2) (D:=fun (e:(Int)⊕(Int×Int))=>sel e (fun e=>Qka Γ rv r e) (fun e=>e=rv)) ?_ h hD
 clear h hD s e
 rintro ⟨set_,i⟩ z_ h hI hE
 replace h:Qd7 r set_ i=_:=h
 unfold Qd7 at h
 rcases Qaj h with ⟨h0,h⟩|⟨h0,h⟩
 ·obtain ⟨x0,h1,h⟩:=Qae h
  rcases Qaj h with ⟨h2,h⟩|⟨h2,h⟩
  ·obtain rfl:=(hE _ (oJ h):_=rv)
   exact gr 15 [] [nL Qaa.enc r.visits,bT h0,cE Qaa.enc h1,hP,hP,hP,oI ((ltI x0.order 0)=false),oR True ((ltI x0.order 0)=false),bT h2]
  ·obtain ⟨r1,h3,h⟩:=Qae h
   rcases Qaj h with ⟨h4,h⟩|⟨h4,h⟩
   ·exact gn 21 [1,4,5] [0] [nL Qaa.enc r.visits,bT h0,cE Qaa.enc h1,hP,hP,hP,oI ((ltI x0.order 0)=false),oR True ((ltI x0.order 0)=false),bF h2,cC (Qb9 h3),nF h4] (hI _ (oJ h))
   ·obtain ⟨h5,h⟩:=Qax h
    exact gn 21 [1,4,5] [0] [nL Qaa.enc r.visits,bT h0,cE Qaa.enc h1,hP,hP,hP,oI ((ltI x0.order 0)=false),oR True ((ltI x0.order 0)=false),bF h2,cC (Qb9 h3),nT h4,oO (h5)] (hI _ (oJ h))
 ·exact gn 5 [4] [] [nL Qaa.enc r.visits,bF h0] (hE _ (oJ h))
theorem Qbi {r} {rv:Int×Int} (h:Qb8 r=some rv):AFn Tryz.prog 30 [.agg (Qad.enc r)] [] (.tup [.one (lI rv.1),.one (lI rv.2)]) []:=by
 refine QaM Tryz.func30 (by kernel_rfl) (by kernel_rfl) (fun Γ=>?_)
 unfold Qb8 at h
 obtain ⟨e0,h6,h⟩:=Qae h
 refine gn 9 [1,4,5] [0] [] (Qqj Γ rv h6 ?_)
 rcases e0 with e0|e0
 ·obtain ⟨set_1,rfl⟩:∃ x,x=e0:=⟨_,rfl⟩
  replace h:(some (set_1,0):Option (Int×Int))=some _:=h
  obtain rfl:=Option.some.inj h
  exact gr 2 [] []
 ·obtain ⟨r2,rfl⟩:∃ x,x=e0:=⟨_,rfl⟩
  replace h:(some r2:Option (Int×Int))=some _:=h
  exact Option.some.inj h
def QoX (Γ:Gam) (rv:Int) (cf:Cf):Prop:=Go Tryz.prog Tryz.f139 [] Γ (one (lI rv)) [] cf
def Qml (Γ:Gam) (rv:Int) (l:List Qaa) (v:Qaa) (i:Int):Prop:=QoX Γ rv ⟨[.c 52,.l 52,.b 0,.c 7],⟨19,[vL 0 2 l Qaa.enc,vP 3 0 2,vI 5 i],[oX 2 54 (Qaa.enc v)]⟩⟩
def Qlm (Γ:Gam) (rv:Int) (l:List Qaa) (v:Qaa):Prop:=QoX Γ rv ⟨[.c 7],⟨19,[],[]⟩⟩
theorem QqW (Γ:Gam) (rv:Int) {l v} {s:Int} {e:(Unit)⊕(Int)} (h:loopF (fun s=>QcC l v s) s=some e) (hD:sel e (fun e=>Qlm Γ rv l v) (fun e=>e=rv)):Qml Γ rv l v s:=by
 refine QaD (C:=fun (s:Int)=>Qml Γ rv l v s) (D:=fun (e:(Unit)⊕(Int))=>sel e (fun e=>Qlm Γ rv l v) (fun e=>e=rv)) ?_ h hD
 clear h hD s e
 intro i z_ h hI hE
 replace h:QcC l v i=_:=h
 unfold QcC at h
 rcases Qaj h with ⟨h0,h⟩|⟨h0,h⟩
 ·obtain ⟨x0,h1,h⟩:=Qae h
  rcases Qaj h with ⟨h2,h⟩|⟨h2,h⟩
  ·obtain rfl:=(hE _ (oJ h):_=rv)
   exact gr 12 [] [nL Qaa.enc l,bT h0,hH (.draw 6 []),cE Qaa.enc h1,bT h2]
  ·exact gn 14 [0,3,5] [0] [nL Qaa.enc l,bT h0,hH (.draw 6 []),cE Qaa.enc h1,bF h2] (hI _ (oJ h))
 ·exact gn 5 [] [] [nL Qaa.enc l,bF h0] (hE _ (oJ h))
theorem Qbr {l v} {rv:Int} (h:QcL l v=some rv):AFn Tryz.prog 139 [.one (lL 2 l Qaa.enc),.agg (Qaa.enc v)] [] (one (lI rv)) []:=by
 refine QaM Tryz.func139 (by kernel_rfl) (by kernel_rfl) (fun Γ=>?_)
 unfold QcL at h
 obtain ⟨e0,h3,h⟩:=Qae h
 refine gn 7 [0,3,5] [0] [] (QqW Γ rv h3 ?_)
 rcases e0 with e0|e0
 ·replace h:(some (-1):Option Int)=some _:=h
  obtain rfl:=Option.some.inj h
  exact gr 2 [] []
 ·obtain ⟨r,rfl⟩:∃ x,x=e0:=⟨_,rfl⟩
  replace h:(some r:Option Int)=some _:=h
  exact Option.some.inj h
def QsV (Γ:Gam) (rv:List Qaa) (cf:Cf):Prop:=Go Tryz.prog Tryz.f138 [] Γ (one (lL 2 rv Qaa.enc)) [] cf
theorem Qkb (Γ:Gam) (rv:List Qaa) {x0 order l} (h:Qd8 x0 order l=some rv):QsV Γ rv ⟨[.c 15],⟨33,[vI 1 order,vP 2 0 6,vO 5 1 2 l Qaa.enc],[oX 6 30 (Qac.enc x0),oS 2 54 l Qaa.enc]⟩⟩:=by
 unfold Qd8 at h
 obtain ⟨x2,h3,h⟩:=Qae h
 rcases Qaj h with ⟨h4,h⟩|⟨h4,h⟩
 ·obtain ⟨h5,h⟩:=Qax h
  obtain rfl:=Option.some.inj h
  exact gr 7 [] [cE Qah.enc h3,bT h4,oO (Eq.refl ([(Qaa.mk order true)].map Qaa.enc).length),aO Qaa.enc h5,hW 5,hH (.frz 3),rp 4 (oO (Eq.refl ((l++[(Qaa.mk order true)]).map Qaa.enc).length))]
 ·obtain rfl:=Option.some.inj h
  exact gr 7 [] [cE Qah.enc h3,bF h4,hW 5,hH (.frz 1),rp 3 (eL l Qaa.enc)]
theorem Qft {x0 order} {rv:List Qaa} (h:Qg7 x0 order=some rv):AFn Tryz.prog 138 [.agg (Qac.enc x0),.one (lI order)] [] (one (lL 2 rv Qaa.enc)) []:=by
 refine QaM Tryz.func138 (by kernel_rfl) (by kernel_rfl) (fun Γ=>?_)
 unfold Qg7 at h
 obtain ⟨x1,h0,h⟩:=Qae h
 rcases Qaj h with ⟨h1,h⟩|⟨h1,h⟩
 ·obtain ⟨h2,h⟩:=Qax h
  exact gn 9 [1,2,5] [0,2] [cE Qah.enc h0,bT h1,oO (Eq.refl ([(Qaa.mk order false)].map Qaa.enc).length),aN (l:=([(Qaa.mk order false)]:List Qaa)) Qaa.enc h2] (Qkb Γ rv h)
 ·exact gn 9 [1,2,5] [0,1] [cE Qah.enc h0,bF h1,hW 1,hH (.adopt 5 2 54)] (Qkb Γ rv h)
def Qmo (Γ:Gam) (rv:Bool) (cf:Cf):Prop:=Go Tryz.prog Tryz.f185 [] Γ (one (.bool rv)) [] cf
def QjE (Γ:Gam) (rv:Bool) (l:List Qaa) (some_:List Qaa) (i:Int):Prop:=Qmo Γ rv ⟨[.c 52,.l 52,.b 0,.c 7],⟨19,[vL 0 2 l Qaa.enc,vL 1 2 some_ Qaa.enc,vI 5 i],[]⟩⟩
def Qjg (Γ:Gam) (rv:Bool) (l:List Qaa) (some_:List Qaa):Prop:=Qmo Γ rv ⟨[.c 7],⟨19,[],[]⟩⟩
theorem Qo0 (Γ:Gam) (rv:Bool) {l some_} {s:Int} {e:(Unit)⊕(Bool)} (h:loopF (fun s=>QbT l some_ s) s=some e) (hD:sel e (fun e=>Qjg Γ rv l some_) (fun e=>e=rv)):QjE Γ rv l some_ s:=by
 refine QaD (C:=fun (s:Int)=>QjE Γ rv l some_ s) (D:=fun (e:(Unit)⊕(Bool))=>sel e (fun e=>Qjg Γ rv l some_) (fun e=>e=rv)) ?_ h hD
 clear h hD s e
 intro i z_ h hI hE
 replace h:QbT l some_ i=_:=h
 unfold QbT at h
 rcases Qaj h with ⟨h0,h⟩|⟨h0,h⟩
 ·obtain ⟨x0,h1,h⟩:=Qae h
  obtain ⟨r,h2,h⟩:=Qae h
  rcases Qaj h with ⟨h3,h⟩|⟨h3,h⟩
  ·obtain rfl:=(hE _ (oJ h):_=rv)
   exact gr 12 [] [nL Qaa.enc some_,bT h0,cE Qaa.enc h1,cC (Qbr h2),bT h3]
  ·exact gn 14 [0,1,5] [] [nL Qaa.enc some_,bT h0,cE Qaa.enc h1,cC (Qbr h2),bF h3] (hI _ (oJ h))
 ·exact gn 5 [] [] [nL Qaa.enc some_,bF h0] (hE _ (oJ h))
theorem QfV {l some_} {rv:Bool} (h:QfU l some_=some rv):AFn Tryz.prog 185 [.one (lL 2 l Qaa.enc),.one (lL 2 some_ Qaa.enc)] [] (one (.bool rv)) []:=by
 refine QaM Tryz.func185 (by kernel_rfl) (by kernel_rfl) (fun Γ=>?_)
 unfold QfU at h
 obtain ⟨e0,h4,h⟩:=Qae h
 refine gn 7 [0,1,5] [] [] (Qo0 Γ rv h4 ?_)
 rcases e0 with e0|e0
 ·replace h:(some true:Option Bool)=some _:=h
  obtain rfl:=Option.some.inj h
  exact gr 2 [] []
 ·obtain ⟨r1,rfl⟩:∃ x,x=e0:=⟨_,rfl⟩
  replace h:(some r1:Option Bool)=some _:=h
  exact Option.some.inj h
def QnY (Γ:Gam) (rv:Bool) (cf:Cf):Prop:=Go Tryz.prog Tryz.f140 [] Γ (one (.bool rv)) [] cf
def Qls (Γ:Gam) (rv:Bool) (x0:Qac) (l:List Qaa) (i:Int):Prop:=QnY Γ rv ⟨[.c 52,.l 52,.b 0,.c 7],⟨51,[vL 1 2 l Qaa.enc,vP 2 0 6,vI 5 i],[oX 6 30 (Qac.enc x0)]⟩⟩
def Qkf (Γ:Gam) (rv:Bool) (x0:Qac) (l:List Qaa):Prop:=QnY Γ rv ⟨[.c 7],⟨51,[],[]⟩⟩
theorem Qqn (Γ:Gam) (rv:Bool) {x0 l} {s:Int} {e:(Unit)⊕(Bool)} (h:loopF (fun s=>Qco x0 l s) s=some e) (hD:sel e (fun e=>Qkf Γ rv x0 l) (fun e=>e=rv)):Qls Γ rv x0 l s:=by
 refine QaD (C:=fun (s:Int)=>Qls Γ rv x0 l s) (D:=fun (e:(Unit)⊕(Bool))=>sel e (fun e=>Qkf Γ rv x0 l) (fun e=>e=rv)) ?_ h hD
 clear h hD s e
 intro i z_ h hI hE
 replace h:Qco x0 l i=_:=h
 unfold Qco at h
 rcases Qaj h with ⟨h0,h⟩|⟨h0,h⟩
 ·obtain ⟨x1,h1,h⟩:=Qae h
  obtain ⟨r,h2,h⟩:=Qae h
  obtain ⟨r1,h3,h⟩:=Qae h
  rcases Qaj h with ⟨h4,h⟩|⟨h4,h⟩
  ·obtain rfl:=(hE _ (oJ h):_=rv)
   exact gr 14 [] [nL Qaa.enc l,bT h0,hH (.draw 8 []),cE Qaa.enc h1,cC (Qft h2),hH (.draw 31 []),cE Qaa.enc h1,cC (Qbr h3),rp 5 (bT h4),rp 4 tT,rp 11 kF,tT,tT,tT]
  ·obtain ⟨r2,h5,h⟩:=Qae h
   rcases Qaj h with ⟨h6,h⟩|⟨h6,h⟩
   ·rcases Qaj h with ⟨h7,h⟩|⟨h7,h⟩
    ·obtain ⟨x2,h8,h⟩:=Qae h
     obtain ⟨r3,h9,h⟩:=Qae h
     obtain ⟨x3,h10,h⟩:=Qae h
     obtain ⟨r4,h11,h⟩:=Qae h
     rcases Qaj h with ⟨h12,h⟩|⟨h12,h⟩
     ·obtain rfl:=(hE _ (oJ h):_=rv)
      exact gr 14 [] [nL Qaa.enc l,bT h0,hH (.draw 8 []),cE Qaa.enc h1,cC (Qft h2),hH (.draw 31 []),cE Qaa.enc h1,cC (Qbr h3),rp 3 (bF h4),cC (QfV h5),bF h4,bF h4,nF h6,nF h6,nL Qaa.enc r,nF h6,nF h6,rp 3 (bT h7),cE Qaa.enc h8,bT h7,bT h7,cC (Qbr h9),rp 3 (bT h7),cE Qaa.enc h10,bT h7,bT h7,cC (Qbr h11),bT h7,nF h6,bT h7,nF h6,bT h12]
     ·exact gn 16 [1,2,5] [0] [nL Qaa.enc l,bT h0,hH (.draw 8 []),cE Qaa.enc h1,cC (Qft h2),hH (.draw 31 []),cE Qaa.enc h1,cC (Qbr h3),rp 3 (bF h4),cC (QfV h5),bF h4,bF h4,nF h6,nF h6,nL Qaa.enc r,nF h6,nF h6,rp 3 (bT h7),cE Qaa.enc h8,bT h7,bT h7,cC (Qbr h9),rp 3 (bT h7),cE Qaa.enc h10,bT h7,bT h7,cC (Qbr h11),bT h7,nF h6,bT h7,nF h6,bF h12] (hI _ (oJ h))
    ·exact gn 16 [1,2,5] [0] [nL Qaa.enc l,bT h0,hH (.draw 8 []),cE Qaa.enc h1,cC (Qft h2),hH (.draw 31 []),cE Qaa.enc h1,cC (Qbr h3),rp 3 (bF h4),cC (QfV h5),bF h4,bF h4,nF h6,nF h6,nL Qaa.enc r,nF h6,nF h6,rp 11 (bF h7),nF h6,bF h7,nF h6,fF] (hI _ (oJ h))
   ·obtain rfl:=(hE _ (oJ h):_=rv)
    exact gr 14 [] [nL Qaa.enc l,bT h0,hH (.draw 8 []),cE Qaa.enc h1,cC (Qft h2),hH (.draw 31 []),cE Qaa.enc h1,cC (Qbr h3),rp 3 (bF h4),cC (QfV h5),bF h4,bF h4,rp 4 (nT h6),rp 11 kF,nT h6,nT h6,tT]
 ·exact gn 5 [] [] [nL Qaa.enc l,bF h0] (hE _ (oJ h))
theorem QgV {x0 l} {rv:Bool} (h:QdQ x0 l=some rv):AFn Tryz.prog 140 [.agg (Qac.enc x0),.one (lL 2 l Qaa.enc)] [] (one (.bool rv)) []:=by
 refine QaM Tryz.func140 (by kernel_rfl) (by kernel_rfl) (fun Γ=>?_)
 unfold QdQ at h
 obtain ⟨e0,h13,h⟩:=Qae h
 refine gn 7 [1,2,5] [0] [] (Qqn Γ rv h13 ?_)
 rcases e0 with e0|e0
 ·replace h:(some true:Option Bool)=some _:=h
  obtain rfl:=Option.some.inj h
  exact gr 2 [] []
 ·obtain ⟨r5,rfl⟩:∃ x,x=e0:=⟨_,rfl⟩
  replace h:(some r5:Option Bool)=some _:=h
  exact Option.some.inj h
def QoZ (Γ:Gam) (rv:Bool) (cf:Cf):Prop:=Go Tryz.prog Tryz.f141 [] Γ (one (.bool rv)) [] cf
def Qmn (Γ:Gam) (rv:Bool) (x0:Qac) (set_:Int) (i:Int):Prop:=QoZ Γ rv ⟨[.c 52,.l 52,.b 0,.c 7],⟨31,[vI 1 set_,vP 2 0 6,vI 5 i],[oX 6 30 (Qac.enc x0)]⟩⟩
def Qlo (Γ:Gam) (rv:Bool) (x0:Qac) (set_:Int):Prop:=QoZ Γ rv ⟨[.c 7],⟨31,[],[]⟩⟩
theorem QqX (Γ:Gam) (rv:Bool) {x0 set_} {s:Int} {e:(Unit)⊕(Bool)} (h:loopF (fun s=>QcD x0 set_ s) s=some e) (hD:sel e (fun e=>Qlo Γ rv x0 set_) (fun e=>e=rv)):Qmn Γ rv x0 set_ s:=by
 refine QaD (C:=fun (s:Int)=>Qmn Γ rv x0 set_ s) (D:=fun (e:(Unit)⊕(Bool))=>sel e (fun e=>Qlo Γ rv x0 set_) (fun e=>e=rv)) ?_ h hD
 clear h hD s e
 intro i z_ h hI hE
 replace h:QcD x0 set_ i=_:=h
 unfold QcD at h
 rcases Qaj h with ⟨h0,h⟩|⟨h0,h⟩
 ·obtain ⟨x1,h1,h⟩:=Qae h
  obtain ⟨r,h2,h⟩:=Qae h
  rcases Qaj h with ⟨h3,h⟩|⟨h3,h⟩
  ·obtain ⟨r1,h4,h⟩:=Qae h
   rcases Qaj h with ⟨h5,h⟩|⟨h5,h⟩
   ·obtain rfl:=(hE _ (oJ h):_=rv)
    exact gr 12 [] [nL QaC.enc x0.apart,bT h0,cE QaC.enc h1,oO (zL 0),oO (lT 0 2),cC (Qb9 h2),rp 5 (bT h3),cE QaC.enc h1,bT h3,oO (zL 1),oO (lT 1 2),bT h3,bT h3,cC (Qb9 h4),bT h3,bT h5]
   ·exact gn 14 [1,2,5] [0] [nL QaC.enc x0.apart,bT h0,cE QaC.enc h1,oO (zL 0),oO (lT 0 2),cC (Qb9 h2),rp 5 (bT h3),cE QaC.enc h1,bT h3,oO (zL 1),oO (lT 1 2),bT h3,bT h3,cC (Qb9 h4),bT h3,bF h5] (hI _ (oJ h))
  ·exact gn 14 [1,2,5] [0] [nL QaC.enc x0.apart,bT h0,cE QaC.enc h1,oO (zL 0),oO (lT 0 2),cC (Qb9 h2),rp 9 (bF h3),fF] (hI _ (oJ h))
 ·exact gn 5 [] [] [nL QaC.enc x0.apart,bF h0] (hE _ (oJ h))
theorem QjD {x0 set_} {rv:Bool} (h:Qet x0 set_=some rv):AFn Tryz.prog 141 [.agg (Qac.enc x0),.one (lI set_)] [] (one (.bool rv)) []:=by
 refine QaM Tryz.func141 (by kernel_rfl) (by kernel_rfl) (fun Γ=>?_)
 unfold Qet at h
 obtain ⟨e0,h6,h⟩:=Qae h
 refine gn 7 [1,2,5] [0] [] (QqX Γ rv h6 ?_)
 rcases e0 with e0|e0
 ·replace h:(some true:Option Bool)=some _:=h
  obtain rfl:=Option.some.inj h
  exact gr 2 [] []
 ·obtain ⟨r2,rfl⟩:∃ x,x=e0:=⟨_,rfl⟩
  replace h:(some r2:Option Bool)=some _:=h
  exact Option.some.inj h
def QeP (Γ:Gam) (rv:Bool) (cf:Cf):Prop:=Go Tryz.prog Tryz.f142 [] Γ (one (.bool rv)) [] cf
def Qlr (Γ:Gam) (rv:Bool) (x0:Qac) (set_:Int) (l:List Qaa) (i:Int) (x1:QaC) (j:Int) (k:Int):Prop:=QeP Γ rv ⟨[.c 3448612,.l 3448612,.b 4,.b 3,.c 215539,.l 53884,.b 2,.b 1,.c 211,.l 52,.b 0,.c 7],⟨66,[vI 1 set_,vL 2 2 l Qaa.enc,vP 3 0 6,vI 7 i,vI 8 x1.x0,vI 9 x1.x1,vI 10 j,vI 11 k],[oX 6 30 (Qac.enc x0)]⟩⟩
def Qke (Γ:Gam) (rv:Bool) (x0:Qac) (set_:Int) (l:List Qaa) (i:Int) (x1:QaC) (j:Int):Prop:=QeP Γ rv ⟨[.b 3,.c 215539,.l 53884,.b 2,.b 1,.c 211,.l 52,.b 0,.c 7],⟨66,[vI 1 set_,vL 2 2 l Qaa.enc,vP 3 0 6,vI 7 i,vI 8 x1.x0,vI 9 x1.x1,vI 10 j],[oX 6 30 (Qac.enc x0)]⟩⟩
def Qlq (Γ:Gam) (rv:Bool) (x0:Qac) (set_:Int) (l:List Qaa) (i:Int) (x1:QaC) (j:Int):Prop:=QeP Γ rv ⟨[.c 53884,.l 53884,.b 2,.b 1,.c 211,.l 52,.b 0,.c 7],⟨66,[vI 1 set_,vL 2 2 l Qaa.enc,vP 3 0 6,vI 7 i,vI 8 x1.x0,vI 9 x1.x1,vI 10 j],[oX 6 30 (Qac.enc x0)]⟩⟩
def Qkd (Γ:Gam) (rv:Bool) (x0:Qac) (set_:Int) (l:List Qaa) (i:Int) (x1:QaC):Prop:=QeP Γ rv ⟨[.b 1,.c 211,.l 52,.b 0,.c 7],⟨66,[vI 1 set_,vL 2 2 l Qaa.enc,vP 3 0 6,vI 7 i],[oX 6 30 (Qac.enc x0)]⟩⟩
def Qlp (Γ:Gam) (rv:Bool) (x0:Qac) (set_:Int) (l:List Qaa) (i:Int):Prop:=QeP Γ rv ⟨[.c 52,.l 52,.b 0,.c 7],⟨66,[vI 1 set_,vL 2 2 l Qaa.enc,vP 3 0 6,vI 7 i],[oX 6 30 (Qac.enc x0)]⟩⟩
def Qkc (Γ:Gam) (rv:Bool) (x0:Qac) (set_:Int) (l:List Qaa):Prop:=QeP Γ rv ⟨[.c 7],⟨66,[],[]⟩⟩
theorem Qqm (Γ:Gam) (rv:Bool) {x0 set_ l i x1 j} {s:Int} {e:(Unit)⊕(Bool)} (h:loopF (fun s=>Qcn x0 set_ l i x1 j s) s=some e) (hD:sel e (fun e=>Qke Γ rv x0 set_ l i x1 j) (fun e=>e=rv)):Qlr Γ rv x0 set_ l i x1 j s:=by
 refine QaD (C:=fun (s:Int)=>Qlr Γ rv x0 set_ l i x1 j s) (D:=fun (e:(Unit)⊕(Bool))=>sel e (fun e=>Qke Γ rv x0 set_ l i x1 j) (fun e=>e=rv)) ?_ h hD
 clear h hD s e
 intro k z_ h hI hE
 replace h:Qcn x0 set_ l i x1 j k=_:=h
 unfold Qcn at h
 rcases Qaj h with ⟨h7,h⟩|⟨h7,h⟩
 ·obtain ⟨x2,h8,h⟩:=Qae h
  rcases Qaj h with ⟨h9,h⟩|⟨h9,h⟩
  ·obtain ⟨x3,h10,h⟩:=Qae h
   rcases Qaj h with ⟨h11,h⟩|⟨h11,h⟩
   ·obtain rfl:=(hE _ (oJ h):_=rv)
    exact gr 12 [] [bT h7,cE Qaa.enc h8,rp 3 (bT h9),cE Qaa.enc h10,rp 5 (bT h9),bT h11]
   ·exact gn 14 [1,2,3,7,8,9,10,11] [0] [bT h7,cE Qaa.enc h8,rp 3 (bT h9),cE Qaa.enc h10,rp 5 (bT h9),bF h11] (hI _ (oJ h))
  ·exact gn 14 [1,2,3,7,8,9,10,11] [0] [bT h7,cE Qaa.enc h8,rp 8 (bF h9),fF] (hI _ (oJ h))
 ·exact gn 5 [1,2,3,7,8,9,10] [0] [bF h7] (hE _ (oJ h))
theorem Qql (Γ:Gam) (rv:Bool) {x0 set_ l i x1} {s:Int} {e:(Unit)⊕(Bool)} (h:loopF (fun s=>Qcm x0 set_ l i x1 s) s=some e) (hD:sel e (fun e=>Qkd Γ rv x0 set_ l i x1) (fun e=>e=rv)):Qlq Γ rv x0 set_ l i x1 s:=by
 refine QaD (C:=fun (s:Int)=>Qlq Γ rv x0 set_ l i x1 s) (D:=fun (e:(Unit)⊕(Bool))=>sel e (fun e=>Qkd Γ rv x0 set_ l i x1) (fun e=>e=rv)) ?_ h hD
 clear h hD s e
 intro j z_ h hI hE
 replace h:Qcm x0 set_ l i x1 j=_:=h
 unfold Qcm at h
 rcases Qaj h with ⟨h6,h⟩|⟨h6,h⟩
 ·obtain ⟨e0,h12,h⟩:=Qae h
  refine gn 11 [1,2,3,7,8,9,10,11] [0] [nL Qaa.enc l,bT h6] (Qqm Γ rv h12 ?_)
  rcases e0 with e0|e0
  ·replace h:(some (.inl (addK .i64 j 1)):Option ((Int)⊕((Unit)⊕(Bool))))=some _:=h
   exact gn 3 [1,2,3,7,8,9,10] [0] [] (hI _ (oJ h))
  ·obtain ⟨r2,rfl⟩:∃ x,x=e0:=⟨_,rfl⟩
   replace h:(some (.inr (.inr r2)):Option ((Int)⊕((Unit)⊕(Bool))))=some _:=h
   exact (hE _ (oJ h):_=rv)
 ·exact gn 5 [1,2,3,7] [0] [nL Qaa.enc l,bF h6] (hE _ (oJ h))
theorem Qqk (Γ:Gam) (rv:Bool) {x0 set_ l} {s:Int} {e:(Unit)⊕(Bool)} (h:loopF (fun s=>Qcl x0 set_ l s) s=some e) (hD:sel e (fun e=>Qkc Γ rv x0 set_ l) (fun e=>e=rv)):Qlp Γ rv x0 set_ l s:=by
 refine QaD (C:=fun (s:Int)=>Qlp Γ rv x0 set_ l s) (D:=fun (e:(Unit)⊕(Bool))=>sel e (fun e=>Qkc Γ rv x0 set_ l) (fun e=>e=rv)) ?_ h hD
 clear h hD s e
 intro i z_ h hI hE
 replace h:Qcl x0 set_ l i=_:=h
 unfold Qcl at h
 rcases Qaj h with ⟨h0,h⟩|⟨h0,h⟩
 ·obtain ⟨x1,h1,h⟩:=Qae h
  obtain ⟨r,h2,h⟩:=Qae h
  rcases Qaj h with ⟨h3,h⟩|⟨h3,h⟩
  ·obtain ⟨r1,h4,h⟩:=Qae h
   rcases Qaj h with ⟨h5,h⟩|⟨h5,h⟩
   ·obtain ⟨e1,h13,h⟩:=Qae h
    refine gn 25 [1,2,3,7,8,9,10] [0] [nL QaC.enc x0.before,bT h0,cE QaC.enc h1,oO (zL 0),oO (lT 0 2),cE QaC.enc h1,oO (zL 1),oO (lT 1 2),cC (Qb9 h2),nF h3,cC (Qb9 h4),nF h5] (Qql Γ rv h13 ?_)
    rcases e1 with e1|e1
    ·replace h:(some (.inl (addK .i64 i 1)):Option ((Int)⊕((Unit)⊕(Bool))))=some _:=h
     exact gn 3 [1,2,3,7] [0] [] (hI _ (oJ h))
    ·obtain ⟨r3,rfl⟩:∃ x,x=e1:=⟨_,rfl⟩
     replace h:(some (.inr (.inr r3)):Option ((Int)⊕((Unit)⊕(Bool))))=some _:=h
     exact (hE _ (oJ h):_=rv)
   ·obtain rfl:=(hE _ (oJ h):_=rv)
    exact gr 22 [] [nL QaC.enc x0.before,bT h0,cE QaC.enc h1,oO (zL 0),oO (lT 0 2),cE QaC.enc h1,oO (zL 1),oO (lT 1 2),cC (Qb9 h2),nF h3,cC (Qb9 h4),nT h5]
  ·exact gn 18 [1,2,3,7] [0] [nL QaC.enc x0.before,bT h0,cE QaC.enc h1,oO (zL 0),oO (lT 0 2),cE QaC.enc h1,oO (zL 1),oO (lT 1 2),cC (Qb9 h2),nT h3] (hI _ (oJ h))
 ·exact gn 5 [] [] [nL QaC.enc x0.before,bF h0] (hE _ (oJ h))
theorem Qna {x0 set_ l} {rv:Bool} (h:QdP x0 set_ l=some rv):AFn Tryz.prog 142 [.agg (Qac.enc x0),.one (lI set_),.one (lL 2 l Qaa.enc)] [] (one (.bool rv)) []:=by
 refine QaM Tryz.func142 (by kernel_rfl) (by kernel_rfl) (fun Γ=>?_)
 unfold QdP at h
 obtain ⟨e2,h14,h⟩:=Qae h
 refine gn 7 [1,2,3,7] [0] [] (Qqk Γ rv h14 ?_)
 rcases e2 with e2|e2
 ·replace h:(some true:Option Bool)=some _:=h
  obtain rfl:=Option.some.inj h
  exact gr 2 [] []
 ·obtain ⟨r4,rfl⟩:∃ x,x=e2:=⟨_,rfl⟩
  replace h:(some r4:Option Bool)=some _:=h
  exact Option.some.inj h
def Qff (Γ:Gam) (rv:Int) (cf:Cf):Prop:=Go Tryz.prog Tryz.f96 [] Γ (one (lI rv)) [] cf
def Qmi (Γ:Gam) (rv:Int) (x0:Qac) (r:Qad) (i:Int):Prop:=Qff Γ rv ⟨[.c 116,.l 116,.b 0,.c 15],⟨91,[vP 2 0 6,vP 3 1 4,vL 5 2 r.visits Qaa.enc,vI 6 i],[oX 6 30 (Qac.enc x0),oX 4 37 (Qad.enc r)]⟩⟩
def Qlj (Γ:Gam) (rv:Int) (x0:Qac) (r:Qad):Prop:=Qff Γ rv ⟨[.c 15],⟨91,[vP 2 0 6,vP 3 1 4,vL 5 2 r.visits Qaa.enc],[oX 6 30 (Qac.enc x0),oX 4 37 (Qad.enc r)]⟩⟩
def Qmj (Γ:Gam) (rv:Int) (x0:Qac) (r:Qad) (r1:Int×Int) (i1:Int):Prop:=Qff Γ rv ⟨[.c 1012,.l 1012,.b 2,.c 127],⟨91,[vP 2 0 6,vL 5 2 r.visits Qaa.enc,vI 7 r1.1,vI 9 i1],[oX 6 30 (Qac.enc x0)]⟩⟩
def Qlk (Γ:Gam) (rv:Int) (x0:Qac) (r:Qad) (r1:Int×Int):Prop:=Qff Γ rv ⟨[.c 127],⟨91,[vP 2 0 6,vL 5 2 r.visits Qaa.enc,vI 7 r1.1],[oX 6 30 (Qac.enc x0)]⟩⟩
def Qmk (Γ:Gam) (rv:Int) (x0:Qac) (r:Qad) (r1:Int×Int) (i2:Int):Prop:=Qff Γ rv ⟨[.c 2036,.l 2036,.b 4,.c 255],⟨91,[vP 2 0 6,vL 5 2 r.visits Qaa.enc,vI 7 r1.1,vI 10 i2],[oX 6 30 (Qac.enc x0)]⟩⟩
def Qll (Γ:Gam) (rv:Int) (x0:Qac) (r:Qad) (r1:Int×Int):Prop:=Qff Γ rv ⟨[.c 255],⟨91,[vP 2 0 6,vL 5 2 r.visits Qaa.enc,vI 7 r1.1],[oX 6 30 (Qac.enc x0)]⟩⟩
theorem QqT (Γ:Gam) (rv:Int) {x0 r} {s:Int} {e:(Unit)⊕(Int)} (h:loopF (fun s=>QcB x0 r s) s=some e) (hD:sel e (fun e=>Qlj Γ rv x0 r) (fun e=>e=rv)):Qmi Γ rv x0 r s:=by
 refine QaD (C:=fun (s:Int)=>Qmi Γ rv x0 r s) (D:=fun (e:(Unit)⊕(Int))=>sel e (fun e=>Qlj Γ rv x0 r) (fun e=>e=rv)) ?_ h hD
 clear h hD s e
 intro i z_ h hI hE
 replace h:QcB x0 r i=_:=h
 unfold QcB at h
 rcases Qaj h with ⟨h0,h⟩|⟨h0,h⟩
 ·obtain ⟨x1,h1,h⟩:=Qae h
  rcases Qaj h with ⟨h2,h⟩|⟨h2,h⟩
  ·obtain rfl:=(hE _ (oJ h):_=rv)
   exact gr 12 [] [nL Qaa.enc r.visits,bT h0,hH (.draw 17 []),cE Qaa.enc h1,rp 10 (bT h2),tT]
  ·rcases Qaj h with ⟨h3,h⟩|⟨h3,h⟩
   ·obtain rfl:=(hE _ (oJ h):_=rv)
    exact gr 12 [] [nL Qaa.enc r.visits,bT h0,hH (.draw 17 []),cE Qaa.enc h1,rp 3 (bF h2),cE Qaa.enc h1,rp 5 (bF h2),nL Qah.enc x0.orders,bF h2,bF h2,bT h3]
   ·exact gn 14 [2,3,5,6] [0,1] [nL Qaa.enc r.visits,bT h0,hH (.draw 17 []),cE Qaa.enc h1,rp 3 (bF h2),cE Qaa.enc h1,rp 5 (bF h2),nL Qah.enc x0.orders,bF h2,bF h2,bF h3] (hI _ (oJ h))
 ·exact gn 5 [2,3,5] [0,1] [nL Qaa.enc r.visits,bF h0] (hE _ (oJ h))
theorem QqU (Γ:Gam) (rv:Int) {x0 r r1} {s:Int} {e:(Unit)⊕(Int)} (h:loopF (fun s=>Qcc x0 r r1 s) s=some e) (hD:sel e (fun e=>Qlk Γ rv x0 r r1) (fun e=>e=rv)):Qmj Γ rv x0 r r1 s:=by
 refine QaD (C:=fun (s:Int)=>Qmj Γ rv x0 r r1 s) (D:=fun (e:(Unit)⊕(Int))=>sel e (fun e=>Qlk Γ rv x0 r r1) (fun e=>e=rv)) ?_ h hD
 clear h hD s e
 intro i1 z_ h hI hE
 replace h:Qcc x0 r r1 i1=_:=h
 unfold Qcc at h
 rcases Qaj h with ⟨h7,h⟩|⟨h7,h⟩
 ·obtain ⟨x2,h8,h⟩:=Qae h
  obtain ⟨x3,h9,h⟩:=Qae h
  rcases Qaj h with ⟨h10,h⟩|⟨h10,h⟩
  ·obtain rfl:=(hE _ (oJ h):_=rv)
   exact gr 12 [] [nL Qaa.enc r.visits,bT h7,hH (.draw 10 []),cE Qaa.enc h8,cE Qah.enc h9,bT h10]
  ·exact gn 14 [2,5,7,9] [0] [nL Qaa.enc r.visits,bT h7,hH (.draw 10 []),cE Qaa.enc h8,cE Qah.enc h9,bF h10] (hI _ (oJ h))
 ·exact gn 5 [2,5,7] [0] [nL Qaa.enc r.visits,bF h7] (hE _ (oJ h))
theorem QqV (Γ:Gam) (rv:Int) {x0 r r1} {s:Int} {e:(Unit)⊕(Int)} (h:loopF (fun s=>QbS x0 r r1 s) s=some e) (hD:sel e (fun e=>Qll Γ rv x0 r r1) (fun e=>e=rv)):Qmk Γ rv x0 r r1 s:=by
 refine QaD (C:=fun (s:Int)=>Qmk Γ rv x0 r r1 s) (D:=fun (e:(Unit)⊕(Int))=>sel e (fun e=>Qll Γ rv x0 r r1) (fun e=>e=rv)) ?_ h hD
 clear h hD s e
 intro i2 z_ h hI hE
 replace h:QbS x0 r r1 i2=_:=h
 unfold QbS at h
 rcases Qaj h with ⟨h12,h⟩|⟨h12,h⟩
 ·obtain ⟨x4,h13,h⟩:=Qae h
  obtain ⟨r2,h14,h⟩:=Qae h
  rcases Qaj h with ⟨h15,h⟩|⟨h15,h⟩
  ·obtain rfl:=(hE _ (oJ h):_=rv)
   exact gr 12 [] [nL Qaa.enc r.visits,bT h12,cE Qaa.enc h13,cC (Qbr h14),bT h15]
  ·exact gn 14 [2,5,7,10] [0] [nL Qaa.enc r.visits,bT h12,cE Qaa.enc h13,cC (Qbr h14),bF h15] (hI _ (oJ h))
 ·exact gn 5 [2,5,7] [0] [nL Qaa.enc r.visits,bF h12] (hE _ (oJ h))
theorem QhB {x0 r} {rv:Int} (h:Qgu x0 r=some rv):AFn Tryz.prog 96 [.agg (Qac.enc x0),.agg (Qad.enc r)] [] (one (lI rv)) []:=by
 refine QaM Tryz.func96 (by kernel_rfl) (by kernel_rfl) (fun Γ=>?_)
 unfold Qgu at h
 obtain ⟨e0,h4,h⟩:=Qae h
 refine gn 9 [2,3,5,6] [0,1] [] (QqT Γ rv h4 ?_)
 rcases e0 with e0|e0
 ·replace h:(bnd (Qb8 r) fun r1=>br ((neI r1.2 0)||(eqI (lenI r.visits) 0)) (some 2) (bnd (loopF (fun s=>Qcc x0 r r1 s) 0) (fun e=>sel e (fun (_:Unit)=>bnd (loopF (fun s=>QbS x0 r r1 s) 0) (fun e=>sel e (fun (_:Unit)=>bnd (QdQ x0 r.visits) fun r3=>br r3 (bnd (Qet x0 r1.1) fun r4=>br r4 (bnd (QdP x0 r1.1 r.visits) fun r5=>br r5 (some 0) (some 21)) (some 20)) (some 19)) (fun r6=>some r6))) (fun r7=>some r7))):Option Int)=some _:=h
  obtain ⟨r1,h5,h⟩:=Qae h
  rcases Qaj h with ⟨h6,h⟩|⟨h6,h⟩
  ·obtain rfl:=Option.some.inj h
   exact gr 8 [] [cC (Qbi h5),hP,hP,oI ((neI r1.2 0)=false),nL Qaa.enc r.visits,hP,hP,oI ((neI r1.2 0)=false),oR True ((neI r1.2 0)=false),bT h6]
  ·obtain ⟨e1,h11,h⟩:=Qae h
   refine gn 12 [2,5,7,9] [0] [cC (Qbi h5),hP,hP,oI ((neI r1.2 0)=false),nL Qaa.enc r.visits,hP,hP,oI ((neI r1.2 0)=false),oR True ((neI r1.2 0)=false),bF h6] (QqU Γ rv h11 ?_)
   rcases e1 with e1|e1
   ·replace h:(bnd (loopF (fun s=>QbS x0 r r1 s) 0) (fun e=>sel e (fun (_:Unit)=>bnd (QdQ x0 r.visits) fun r3=>br r3 (bnd (Qet x0 r1.1) fun r4=>br r4 (bnd (QdP x0 r1.1 r.visits) fun r5=>br r5 (some 0) (some 21)) (some 20)) (some 19)) (fun r6=>some r6)):Option Int)=some _:=h
    obtain ⟨e2,h16,h⟩:=Qae h
    refine gn 5 [2,5,7,10] [0] [] (QqV Γ rv h16 ?_)
    rcases e2 with e2|e2
    ·replace h:(bnd (QdQ x0 r.visits) fun r3=>br r3 (bnd (Qet x0 r1.1) fun r4=>br r4 (bnd (QdP x0 r1.1 r.visits) fun r5=>br r5 (some 0) (some 21)) (some 20)) (some 19):Option Int)=some _:=h
     obtain ⟨r3,h17,h⟩:=Qae h
     rcases Qaj h with ⟨h18,h⟩|⟨h18,h⟩
     ·obtain ⟨r4,h19,h⟩:=Qae h
      rcases Qaj h with ⟨h20,h⟩|⟨h20,h⟩
      ·obtain ⟨r5,h21,h⟩:=Qae h
       rcases Qaj h with ⟨h22,h⟩|⟨h22,h⟩
       ·obtain rfl:=Option.some.inj h
        exact gr 17 [] [cC (QgV h17),nF h18,cC (QjD h19),nF h20,cC (Qna h21),nF h22]
       ·obtain rfl:=Option.some.inj h
        exact gr 16 [] [cC (QgV h17),nF h18,cC (QjD h19),nF h20,cC (Qna h21),nT h22]
      ·obtain rfl:=Option.some.inj h
       exact gr 11 [] [cC (QgV h17),nF h18,cC (QjD h19),nT h20]
     ·obtain rfl:=Option.some.inj h
      exact gr 6 [] [cC (QgV h17),nT h18]
    ·obtain ⟨r6,rfl⟩:∃ x,x=e2:=⟨_,rfl⟩
     replace h:(some r6:Option Int)=some _:=h
     exact Option.some.inj h
   ·obtain ⟨r7,rfl⟩:∃ x,x=e1:=⟨_,rfl⟩
    replace h:(some r7:Option Int)=some _:=h
    exact Option.some.inj h
 ·obtain ⟨r8,rfl⟩:∃ x,x=e0:=⟨_,rfl⟩
  replace h:(some r8:Option Int)=some _:=h
  exact Option.some.inj h
def QpX (Γ:Gam) (rv:Bool) (cf:Cf):Prop:=Go Tryz.prog Tryz.f97 [] Γ (one (.bool rv)) [] cf
def Qm7 (Γ:Gam) (rv:Bool) (t:Qai) (skills:Int) (bit:Int):Prop:=QpX Γ rv ⟨[.c 116,.l 116,.b 0,.c 15],⟨30,[vI 1 skills,vP 2 0 14,vI 5 bit],[oX 14 94 (Qai.enc t)]⟩⟩
def Qma (Γ:Gam) (rv:Bool) (t:Qai) (skills:Int):Prop:=QpX Γ rv ⟨[.c 15],⟨30,[],[]⟩⟩
theorem QrL (Γ:Gam) (rv:Bool) {t skills} {s:Int} {e:(Unit)⊕(Bool)} (h:loopF (fun s=>Qdt t skills s) s=some e) (hD:sel e (fun e=>Qma Γ rv t skills) (fun e=>e=rv)):Qm7 Γ rv t skills s:=by
 refine QaD (C:=fun (s:Int)=>Qm7 Γ rv t skills s) (D:=fun (e:(Unit)⊕(Bool))=>sel e (fun e=>Qma Γ rv t skills) (fun e=>e=rv)) ?_ h hD
 clear h hD s e
 intro bit z_ h hI hE
 replace h:Qdt t skills bit=_:=h
 unfold Qdt at h
 rcases Qaj h with ⟨h1,h⟩|⟨h1,h⟩
 ·obtain ⟨h2,h⟩:=Qax h
  rcases Qaj h with ⟨h3,h⟩|⟨h3,h⟩
  ·obtain ⟨h4,h⟩:=Qax h
   rcases Qaj h with ⟨h5,h⟩|⟨h5,h⟩
   ·obtain rfl:=(hE _ (oJ h):_=rv)
    exact gr 12 [] [bT h1,oO (h2),oO (oA (n:=2)),rp 4 (bT h3),oO (h4),bT h3,oO (oA (n:=2)),bT h3,bT h3,bT h5]
   ·exact gn 14 [1,2,5] [0] [bT h1,oO (h2),oO (oA (n:=2)),rp 4 (bT h3),oO (h4),bT h3,oO (oA (n:=2)),bT h3,bT h3,bF h5] (hI _ (oJ h))
  ·exact gn 14 [1,2,5] [0] [bT h1,oO (h2),oO (oA (n:=2)),rp 7 (bF h3),fF] (hI _ (oJ h))
 ·exact gn 5 [] [] [bF h1] (hE _ (oJ h))
theorem QoU {t skills} {rv:Bool} (h:Qhd t skills=some rv):AFn Tryz.prog 97 [.agg (Qai.enc t),.one (lI skills)] [] (one (.bool rv)) []:=by
 refine QaM Tryz.func97 (by kernel_rfl) (by kernel_rfl) (fun Γ=>?_)
 unfold Qhd at h
 rcases Qaj h with ⟨h0,h⟩|⟨h0,h⟩
 ·obtain rfl:=Option.some.inj h
  exact gr 8 [] [hP,hP,hP,oI ((ltI t.skills 0)=false),oR True ((ltI t.skills 0)=false),bT h0]
 ·obtain ⟨e0,h6,h⟩:=Qae h
  refine gn 12 [1,2,5] [0] [hP,hP,hP,oI ((ltI t.skills 0)=false),oR True ((ltI t.skills 0)=false),bF h0] (QrL Γ rv h6 ?_)
  rcases e0 with e0|e0
  ·replace h:(some true:Option Bool)=some _:=h
   obtain rfl:=Option.some.inj h
   exact gr 2 [] []
  ·obtain ⟨r,rfl⟩:∃ x,x=e0:=⟨_,rfl⟩
   replace h:(some r:Option Bool)=some _:=h
   exact Option.some.inj h
def QpV (Γ:Gam) (rv:Bool) (cf:Cf):Prop:=Go Tryz.prog Tryz.f208 [] Γ (one (.bool rv)) [] cf
def Qm5 (Γ:Gam) (rv:Bool) (l:List (List Int)) (dims:Int) (i:Int):Prop:=QpV Γ rv ⟨[.c 116,.l 116,.b 0,.c 15],⟨25,[vL 0 1 l Qbc,vI 1 dims,vI 5 i],[]⟩⟩
def Ql7 (Γ:Gam) (rv:Bool) (l:List (List Int)) (dims:Int):Prop:=QpV Γ rv ⟨[.c 15],⟨25,[],[]⟩⟩
theorem QrJ (Γ:Gam) (rv:Bool) {l dims} {s:Int} {e:(Unit)⊕(Bool)} (h:loopF (fun s=>QcX l dims s) s=some e) (hD:sel e (fun e=>Ql7 Γ rv l dims) (fun e=>e=rv)):Qm5 Γ rv l dims s:=by
 refine QaD (C:=fun (s:Int)=>Qm5 Γ rv l dims s) (D:=fun (e:(Unit)⊕(Bool))=>sel e (fun e=>Ql7 Γ rv l dims) (fun e=>e=rv)) ?_ h hD
 clear h hD s e
 intro i z_ h hI hE
 replace h:QcX l dims i=_:=h
 unfold QcX at h
 rcases Qaj h with ⟨h1,h⟩|⟨h1,h⟩
 ·obtain ⟨x0,h2,h⟩:=Qae h
  rcases Qaj h with ⟨h3,h⟩|⟨h3,h⟩
  ·obtain rfl:=(hE _ (oJ h):_=rv)
   exact gr 12 [] [nL Qbc l,bT h1,cE Qbc h2,nL e_i64 x0,bT h3]
  ·exact gn 14 [0,1,5] [] [nL Qbc l,bT h1,cE Qbc h2,nL e_i64 x0,bF h3] (hI _ (oJ h))
 ·exact gn 5 [] [] [nL Qbc l,bF h1] (hE _ (oJ h))
theorem QoP {l dims} {rv:Bool} (h:Qiw l dims=some rv):AFn Tryz.prog 208 [.one (lL 1 l Qbc),.one (lI dims)] [] (one (.bool rv)) []:=by
 refine QaM Tryz.func208 (by kernel_rfl) (by kernel_rfl) (fun Γ=>?_)
 unfold Qiw at h
 rcases Qaj h with ⟨h0,h⟩|⟨h0,h⟩
 ·obtain rfl:=Option.some.inj h
  exact gr 8 [] [hP,hP,hP,oI ((ltI dims 0)=false),oR True ((ltI dims 0)=false),bT h0]
 ·obtain ⟨e0,h4,h⟩:=Qae h
  refine gn 12 [0,1,5] [] [hP,hP,hP,oI ((ltI dims 0)=false),oR True ((ltI dims 0)=false),bF h0] (QrJ Γ rv h4 ?_)
  rcases e0 with e0|e0
  ·replace h:(some true:Option Bool)=some _:=h
   obtain rfl:=Option.some.inj h
   exact gr 2 [] []
  ·obtain ⟨r,rfl⟩:∃ x,x=e0:=⟨_,rfl⟩
   replace h:(some r:Option Bool)=some _:=h
   exact Option.some.inj h
def Qjv (Γ:Gam) (rv:List Int×Int) (cf:Cf):Prop:=Go Tryz.prog Tryz.f201 [] Γ (.tup [.one (lL 1 rv.1 e_i64),.one (lI rv.2)]) [] cf
def QnS (Γ:Gam) (rv:List Int×Int) (l:List (List Int)) (dims:Int) (l1:List Int) (d:Int) (n:Int) (i:Int):Prop:=Qjv Γ rv ⟨[.c 62612,.l 62612,.b 2,.c 7827,.b 1,.c 979,.l 244,.b 0,.c 31],⟨39,[vL 0 1 l Qbc,vI 1 dims,vO 6 0 1 l1 e_i64,vI 7 d,vI 8 n,vI 9 i],[oS 1 3 l1 e_i64]⟩⟩
def Qm4 (Γ:Gam) (rv:List Int×Int) (l:List (List Int)) (dims:Int) (l1:List Int) (d:Int) (n1:Int):Prop:=Qjv Γ rv ⟨[.c 7827,.b 1,.c 979,.l 244,.b 0,.c 31],⟨39,[vL 0 1 l Qbc,vI 1 dims,vO 6 0 1 l1 e_i64,vI 7 d,vI 8 n1],[oS 1 3 l1 e_i64]⟩⟩
def QnR (Γ:Gam) (rv:List Int×Int) (l:List (List Int)) (dims:Int) (l1:List Int) (d:Int):Prop:=Qjv Γ rv ⟨[.c 244,.l 244,.b 0,.c 31],⟨39,[vL 0 1 l Qbc,vI 1 dims,vO 6 0 1 l1 e_i64,vI 7 d],[oS 1 3 l1 e_i64]⟩⟩
def Qm3 (Γ:Gam) (rv:List Int×Int) (l:List (List Int)) (dims:Int) (l2:List Int):Prop:=Qjv Γ rv ⟨[.c 31],⟨39,[vO 6 0 1 l2 e_i64],[oS 1 3 l2 e_i64]⟩⟩
theorem Qsj (Γ:Gam) (rv:List Int×Int) {l dims l1 d} {s:Int×Int} {e:Int} (h:loopF (fun s=>QcQ l dims l1 d s.1 s.2) s=some e) (hD:Qm4 Γ rv l dims l1 d e):QnS Γ rv l dims l1 d s.1 s.2:=by
 refine QaD (C:=fun (s:Int×Int)=>QnS Γ rv l dims l1 d s.1 s.2) (D:=fun (e:Int)=>Qm4 Γ rv l dims l1 d e) ?_ h hD
 clear h hD s e
 rintro ⟨n,i⟩ z_ h hI hE
 replace h:QcQ l dims l1 d n i=_:=h
 unfold QcQ at h
 rcases Qaj h with ⟨h3,h⟩|⟨h3,h⟩
 ·obtain ⟨x0,h4,h⟩:=Qae h
  obtain ⟨x1,h5,h⟩:=Qae h
  exact gn 11 [0,1,6,7,8,9] [0] [nL Qbc l,bT h3,cE Qbc h4,cE e_i64 h5] (hI _ (oJ h))
 ·exact gn 5 [0,1,6,7,8] [0] [nL Qbc l,bF h3] (hE _ (oJ h))
theorem Qsi (Γ:Gam) (rv:List Int×Int) {l dims} {s:List Int×Int} {e:List Int} (h:loopF (fun s=>QcP l dims s.1 s.2) s=some e) (hD:Qm3 Γ rv l dims e):QnR Γ rv l dims s.1 s.2:=by
 refine QaD (C:=fun (s:List Int×Int)=>QnR Γ rv l dims s.1 s.2) (D:=fun (e:List Int)=>Qm3 Γ rv l dims e) ?_ h hD
 clear h hD s e
 rintro ⟨l1,d⟩ z_ h hI hE
 replace h:QcP l dims l1 d=_:=h
 unfold QcP at h
 rcases Qaj h with ⟨h2,h⟩|⟨h2,h⟩
 ·obtain ⟨e0,h6,h⟩:=Qae h
  refine gn 14 [0,1,6,7,8,9] [0] [bT h2] (Qsj Γ rv h6 ?_)
  obtain ⟨n1,rfl⟩:∃ x,x=e0:=⟨_,rfl⟩
  replace h:(chk (okN (l1++[n1]).length 8) (some (.inl ((l1++[n1]),(addK .i64 d 1)))):Option ((List Int×Int)⊕(List Int)))=some _:=h
  obtain ⟨h7,h⟩:=Qax h
  exact gn 4 [0,1,6,7] [2] [oO (Eq.refl ([n1].map e_i64).length),aO e_i64 h7] (hI _ (oJ h))
 ·exact gn 5 [6] [0] [bF h2] (hE _ (oJ h))
theorem Qud {l dims} {rv:List Int×Int} (h:Qh3 l dims=some rv):AFn Tryz.prog 201 [.one (lL 1 l Qbc),.one (lI dims)] [] (.tup [.one (lL 1 rv.1 e_i64),.one (lI rv.2)]) []:=by
 refine QaM Tryz.func201 (by kernel_rfl) (by kernel_rfl) (fun Γ=>?_)
 unfold Qh3 at h
 obtain ⟨r,h0,h⟩:=Qae h
 rcases Qaj h with ⟨h1,h⟩|⟨h1,h⟩
 ·obtain ⟨e1,h8,h⟩:=Qae h
  refine gn 14 [0,1,6,7] [0] [cC (QoP h0),nF h1,hW 10,hH (.adopt 6 1 3)] (Qsi Γ rv h8 ?_)
  obtain ⟨l2,rfl⟩:∃ x,x=e1:=⟨_,rfl⟩
  replace h:(some (l2,0):Option (List Int×Int))=some _:=h
  obtain rfl:=Option.some.inj h
  exact gr 2 [] [hW 5,hH (.frz 0),rp 3 (eL l2 e_i64)]
 ·obtain rfl:=Option.some.inj h
  exact gr 8 [] [cC (QoP h0),nT h1,hW 4,hH (.nilS 4 0 1)]
theorem Qtw {x0} {rv:Int} (h:Qhf x0=some rv):AFn Tryz.prog 202 [.agg (Qac.enc x0)] [] (one (lI rv)) []:=by
 refine QaM Tryz.func202 (by kernel_rfl) (by kernel_rfl) (fun Γ=>?_)
 unfold Qhf at h
 rcases Qaj h with ⟨h0,h⟩|⟨h0,h⟩
 ·obtain rfl:=Option.some.inj h
  exact gr 8 [] [nL Qai.enc x0.types,bT h0]
 ·obtain ⟨x1,h1,h⟩:=Qae h
  obtain rfl:=Option.some.inj h
  exact gr 9 [] [nL Qai.enc x0.types,bF h0,cE Qai.enc h1,nL e_i64 x1.cap]
end Go.Proofs.YtoedkepcaigkeaaGreatDoor
