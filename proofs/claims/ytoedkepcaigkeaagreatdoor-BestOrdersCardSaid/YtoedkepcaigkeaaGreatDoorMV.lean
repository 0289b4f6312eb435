/- Part MV of the proof: texts X1. -/
import Derived.Test.YtoedkepcaigkeaaGreatDoorMU
import Derived.Test.YtoedkepcaigkeaaGreatDoorProg
namespace Go.Proofs.YtoedkepcaigkeaaGreatDoor
set_option linter.unusedVariables false
set_option linter.unusedSectionVars false
set_option linter.unusedSimpArgs false
set_option maxHeartbeats 4000000
set_option maxRecDepth 100000
def Qs7 (Γ:Gam) (rv:Qas×Bool) (cf:Cf):Prop:=Go Tryz.prog Tryz.f181 [] Γ (.tup [.agg [lI rv.1.from_,lI rv.1.to_,lI rv.1.profile,lI rv.1.miles,lL 2 rv.1.travel Qao.enc,lL 2 rv.1.slow Qao.enc],.one (.bool rv.2)]) [] cf
def Qp2 (Γ:Gam) (rv:Qas×Bool) (n:Qam) (profile:Int) (from_:Int) (to_:Int) (v:Int):Prop:=Qs7 Γ rv ⟨[.c 116,.l 116,.b 0,.c 15],⟨31,[vP 8 0 6,vP 10 1 3,vL 18 6 n.arcs Qas.enc,vI 19 (lenI n.arcs),vI 20 v],[oX 6 120 [lI 0,lI 0,lI 0,lI 0,.nils,.nils],oX 3 231 [lI from_,lI to_,lI profile]]⟩⟩
def Qpa (Γ:Gam) (rv:Qas×Bool) (n:Qam) (profile:Int) (from_:Int) (to_:Int):Prop:=Qs7 Γ rv ⟨[.c 15],⟨31,[vP 8 0 6],[oX 6 120 [lI 0,lI 0,lI 0,lI 0,.nils,.nils]]⟩⟩
theorem QtK (Γ:Gam) (rv:Qas×Bool) {n profile from_ to_} {s:Int} {e:(Unit)⊕(Qas×Bool)} (h:loopF (fun s=>Qhj n profile from_ to_ s) s=some e) (hD:sel e (fun e=>Qpa Γ rv n profile from_ to_) (fun e=>e=rv)):Qp2 Γ rv n profile from_ to_ s:=by
 refine QaD (C:=fun (s:Int)=>Qp2 Γ rv n profile from_ to_ s) (D:=fun (e:(Unit)⊕(Qas×Bool))=>sel e (fun e=>Qpa Γ rv n profile from_ to_) (fun e=>e=rv)) ?_ h hD
 clear h hD s e
 intro v z_ h hI hE
 replace h:Qhj n profile from_ to_ v=_:=h
 unfold Qhj at h
 rcases Qai h with ⟨h0,h⟩|⟨h0,h⟩
 ·obtain ⟨x0,h1,h⟩:=Qad h
  obtain ⟨r,h2,h⟩:=Qad h
  rcases Qai h with ⟨h3,h⟩|⟨h3,h⟩
  ·obtain rfl:=(hE _ (oJ h):_=rv)
   exact gr 14 [] [bT h0,cE Qas.enc h1,hH (.draw 4 []),cC (Qq8 h2),bT h3]
  ·exact gn 16 [8,10,18,19,20] [0,1] [bT h0,cE Qas.enc h1,hH (.draw 4 []),cC (Qq8 h2),bF h3] (hI _ (oJ h))
 ·exact gn 5 [8] [0] [bF h0] (hE _ (oJ h))
theorem Qsa {n profile from_ to_} {rv:Qas×Bool} (h:Qnm n profile from_ to_=some rv):AFn Tryz.prog 181 [.agg (Qam.enc n),.one (lI profile),.one (lI from_),.one (lI to_)] [] (.tup [.agg [lI rv.1.from_,lI rv.1.to_,lI rv.1.profile,lI rv.1.miles,lL 2 rv.1.travel Qao.enc,lL 2 rv.1.slow Qao.enc],.one (.bool rv.2)]) []:=by
 refine QaN Tryz.func181 (by kernel_rfl) (by kernel_rfl) (fun Γ=>?_)
 unfold Qnm at h
 obtain ⟨e0,h4,h⟩:=Qad h
 refine gn 9 [8,10,18,19,20] [1,2] [nL Qas.enc n.arcs] (QtK Γ rv h4 ?_)
 rcases e0 with e0|e0
 ·replace h:(some ((Qas.mk 0 0 0 0 [] []),false):Option (Qas×Bool))=some _:=h
  obtain rfl:=Option.some.inj h
  exact gr 2 [] [hW 5,hH (.nilB 0 4 2),hH (.nilB 0 5 2)]
 ·obtain ⟨r1,rfl⟩:∃ x,x=e0:=⟨_,rfl⟩
  replace h:(some r1:Option (Qas×Bool))=some _:=h
  exact Option.some.inj h
theorem Qh2 {n least most} {rv:Bool} (h:QgH n least most=some rv):AFn Tryz.prog 205 [.one (lI n),.one (lI least),.one (lI most)] [] (one (.bool rv)) []:=by
 refine QaN Tryz.func205 (by kernel_rfl) (by kernel_rfl) (fun Γ=>?_)
 unfold QgH at h
 obtain rfl:=Option.some.inj h
 exact gr 4 [] [rp 4 hP,rp 2 (oI ((geI n least)=true)),oR True ((geI n least)=true)]
theorem Qvy {i} {rv:ByteArray} (h:Qrl i=some rv):AFn Tryz.prog 221 [.one (lI i)] [] (one (.str rv)) []:=by
 refine QaN Tryz.func221 (by kernel_rfl) (by kernel_rfl) (fun Γ=>?_)
 unfold Qrl at h
 rcases Qai h with ⟨h0,h⟩|⟨h0,h⟩
 ·obtain ⟨s0,h1,h⟩:=Qad h
  obtain rfl:=Option.some.inj h
  exact gr 8 [] [bT h0,oO (ss1 h1),oO (ss2 h1),oO (ss3 h1)]
 ·obtain ⟨s1,h2,h⟩:=Qad h
  obtain rfl:=Option.some.inj h
  exact gr 9 [] [bF h0,oO (ss1 h2),oO (ss2 h2),oO (ss3 h2)]
def Qtp (Γ:Gam) (rv:ByteArray) (cf:Cf):Prop:=Go Tryz.prog Tryz.f220 [] Γ (one (.str rv)) [] cf
theorem Qke (Γ:Gam) (rv:ByteArray) {i u} (h:QgY i u=some rv):Qtp Γ rv ⟨[.c 431,.c 7],⟨54,[vI 0 i,vP 5 0 24,(6,one (.int .u64 u))],[oX 24 249 [.int .u8 0,.int .u8 0,.int .u8 0,.int .u8 0,.int .u8 0,.int .u8 0,.int .u8 0,.int .u8 0,.int .u8 0,.int .u8 0,.int .u8 0,.int .u8 0,.int .u8 0,.int .u8 0,.int .u8 0,.int .u8 0,.int .u8 0,.int .u8 0,.int .u8 0,.int .u8 0,.int .u8 0,.int .u8 0,.int .u8 0,.int .u8 0]]⟩⟩:=by
 unfold QgY at h
 obtain ⟨r1,h4,h⟩:=Qad h
 cases h
theorem QsG {i base} {rv:ByteArray} (h:QlN i base=some rv):AFn Tryz.prog 220 [.one (lI i),.one (lI base)] [] (one (.str rv)) []:=by
 refine QaN Tryz.func220 (by kernel_rfl) (by kernel_rfl) (fun Γ=>?_)
 unfold QlN at h
 rcases Qai h with ⟨h0,h⟩|⟨h0,h⟩
 ·rcases Qai h with ⟨h1,h⟩|⟨h1,h⟩
  ·obtain ⟨r,h2,h⟩:=Qad h
   obtain rfl:=Option.some.inj h
   exact gr 12 [] [bT h0,hP,hP,hP,oI ((leI 0 i)=true),oR True ((leI 0 i)=true),bT h1,cC (Qvy h2)]
  ·rcases Qai h with ⟨h3,h⟩|⟨h3,h⟩
   ·exact gn 20 [0,5,6] [0] [bT h0,hP,hP,hP,oI ((leI 0 i)=true),oR True ((leI 0 i)=true),bF h1,bT h3] (Qke Γ rv h)
   ·exact gn 20 [0,5,6] [0] [bT h0,hP,hP,hP,oI ((leI 0 i)=true),oR True ((leI 0 i)=true),bF h1,bF h3] (Qke Γ rv h)
 ·cases h
theorem QvQ {i} {rv:ByteArray} (h:QsH i=some rv):AFn Tryz.prog 218 [.one (lI i)] [] (one (.str rv)) []:=by
 refine QaN Tryz.func218 (by kernel_rfl) (by kernel_rfl) (fun Γ=>?_)
 unfold QsH at h
 obtain ⟨r,h0,h⟩:=Qad h
 obtain rfl:=Option.some.inj h
 exact gr 4 [] [cC (QsG h0)]
theorem Qqd {i} {rv:ByteArray} (h:QmH i=some rv):AFn Tryz.prog 214 [.one (lI i)] [] (one (.str rv)) []:=by
 refine QaN Tryz.func214 (by kernel_rfl) (by kernel_rfl) (fun Γ=>?_)
 unfold QmH at h
 obtain ⟨r,h0,h⟩:=Qad h
 obtain rfl:=Option.some.inj h
 exact gr 4 [] [cC (QvQ h0)]
def QmI (Γ:Gam) (rv:List Qab) (cf:Cf):Prop:=Go Tryz.prog Tryz.f210 [] Γ (one (lL 2 rv Qab.enc)) [] cf
def QlO (Γ:Gam) (rv:List Qab) (l:List Qao) (l2:List Qab) (v:Int):Prop:=QmI Γ rv ⟨[.c 244,.l 244,.b 0,.c 31],⟨83,[vL 0 2 l Qao.enc,vO 3 0 2 l2 Qab.enc,vL 19 2 l Qao.enc,vI 20 (lenI l),vI 21 v],[oS 2 151 l2 Qab.enc]⟩⟩
def Qkp (Γ:Gam) (rv:List Qab) (l:List Qao) (l4:List Qab):Prop:=QmI Γ rv ⟨[.c 31],⟨83,[vO 3 0 2 l4 Qab.enc],[oS 2 151 l4 Qab.enc]⟩⟩
theorem Qpt (Γ:Gam) (rv:List Qab) {l v x0 r l3} {x:(List Qab×Int)⊕(List Qab)} (h:QiF l v x0 r l3=some x) (hI:∀ s:List Qab×Int,x=.inl s→QlO Γ rv l s.1 s.2) (hE:∀ e:List Qab,x=.inr e→Qkp Γ rv l e):QmI Γ rv ⟨[.c 31335,.b 1,.c 1959,.l 244,.b 0,.c 31],⟨83,[vL 0 2 l Qao.enc,vO 3 0 2 l3 Qab.enc,vI 4 v,vP 5 1 2,vS 6 r,vL 19 2 l Qao.enc,vI 20 (lenI l),vI 21 v],[oS 2 151 l3 Qab.enc,oX 2 117 (Qao.enc x0)]⟩⟩:=by
 unfold QiF at h
 rcases Qai h with ⟨h8,h⟩|⟨h8,h⟩
 ·obtain ⟨x1,h9,h⟩:=Qad h
  rcases Qai h with ⟨h10,h⟩|⟨h10,h⟩
  ·obtain ⟨h11,h⟩:=Qaw h
   exact gn 7 [0,3,19,20,21] [3] [hH (.draw 24 []),rp 6 (bT h8),cE Qao.enc h9,rp 4 (bT h8),rp 9 (bT h10),bT h8,bT h10,bT h8,tT,oO (Eq.refl ([(Qab.mk 13 r)].map Qab.enc).length),aO Qab.enc h11] (hI _ (oJ h))
  ·rcases Qai h with ⟨h12,h⟩|⟨h12,h⟩
   ·obtain ⟨h13,h⟩:=Qaw h
    exact gn 7 [0,3,19,20,21] [3] [hH (.draw 24 []),rp 6 (bT h8),cE Qao.enc h9,rp 4 (bT h8),rp 6 (bF h10),cE Qao.enc h9,rp 3 (bF h10),bT h8,bF h10,bT h8,bT h12,oO (Eq.refl ([(Qab.mk 13 r)].map Qab.enc).length),aO Qab.enc h13] (hI _ (oJ h))
   ·exact gn 7 [0,3,19,20,21] [0] [hH (.draw 24 []),rp 6 (bT h8),cE Qao.enc h9,rp 4 (bT h8),rp 6 (bF h10),cE Qao.enc h9,rp 3 (bF h10),bT h8,bF h10,bT h8,bF h12] (hI _ (oJ h))
 ·exact gn 7 [0,3,19,20,21] [0] [hH (.draw 24 []),rp 10 (bF h8),rp 9 kF,bF h8,bF h8,fF] (hI _ (oJ h))
theorem QtZ (Γ:Gam) (rv:List Qab) {l} {s:List Qab×Int} {e:List Qab} (h:loopF (fun s=>Qet l s.1 s.2) s=some e) (hD:Qkp Γ rv l e):QlO Γ rv l s.1 s.2:=by
 refine QaD (C:=fun (s:List Qab×Int)=>QlO Γ rv l s.1 s.2) (D:=fun (e:List Qab)=>Qkp Γ rv l e) ?_ h hD
 clear h hD s e
 rintro ⟨l2,v⟩ z_ h hI hE
 replace h:Qet l l2 v=_:=h
 unfold Qet at h
 rcases Qai h with ⟨h2,h⟩|⟨h2,h⟩
 ·obtain ⟨x0,h3,h⟩:=Qad h
  obtain ⟨r,h4,h⟩:=Qad h
  obtain ⟨r1,h5,h⟩:=Qad h
  rcases Qai h with ⟨h6,h⟩|⟨h6,h⟩
  ·obtain ⟨h7,h⟩:=Qaw h
   exact gn 16 [0,3,4,5,6,19,20,21] [3,1] [bT h2,cE Qao.enc h3,cC (Qqd h4),cC (Qh2 h5),rp 13 hP,rp 4 (oI ((!r1)=false)),oR True ((!r1)=false),rp 5 (oI (((!r1)||(ltI x0.a x0.t))=false)),oR True (((!r1)||(ltI x0.a x0.t))=false),bT h6,oO (Eq.refl ([(Qab.mk 2 r)].map Qab.enc).length),aO Qab.enc h7] (Qpt Γ rv h hI hE)
  ·exact gn 16 [0,3,4,5,6,19,20,21] [0,1] [bT h2,cE Qao.enc h3,cC (Qqd h4),cC (Qh2 h5),rp 13 hP,rp 4 (oI ((!r1)=false)),oR True ((!r1)=false),rp 5 (oI (((!r1)||(ltI x0.a x0.t))=false)),oR True (((!r1)||(ltI x0.a x0.t))=false),bF h6] (Qpt Γ rv h hI hE)
 ·exact gn 5 [3] [0] [bF h2] (hE _ (oJ h))
theorem Qps (Γ:Gam) (rv:List Qab) {l l1} (h:QiE l l1=some rv):QmI Γ rv ⟨[.c 15],⟨83,[vL 0 2 l Qao.enc,vO 3 0 2 l1 Qab.enc],[oS 2 151 l1 Qab.enc]⟩⟩:=by
 unfold QiE at h
 obtain ⟨e0,h14,h⟩:=Qad h
 refine gn 5 [0,3,19,20,21] [0] [nL Qao.enc l] (QtZ Γ rv h14 ?_)
 obtain ⟨l4,rfl⟩:∃ x,x=e0:=⟨_,rfl⟩
 replace h:(some l4:Option (List Qab))=some _:=h
 obtain rfl:=Option.some.inj h
 exact gr 2 [] [hW 4,hH (.frz 0),rp 3 (eL l4 Qab.enc)]
theorem QvR {l} {rv:List Qab} (h:QnE l=some rv):AFn Tryz.prog 210 [.one (lL 2 l Qao.enc)] [] (one (lL 2 rv Qab.enc)) []:=by
 refine QaN Tryz.func210 (by kernel_rfl) (by kernel_rfl) (fun Γ=>?_)
 unfold QnE at h
 rcases Qai h with ⟨h0,h⟩|⟨h0,h⟩
 ·obtain ⟨h1,h⟩:=Qaw h
  exact gn 9 [0,3] [1] [nL Qao.enc l,hP,hP,oI ((eqI (lenI l) 0)=false),nL Qao.enc l,hP,hP,oI ((eqI (lenI l) 0)=false),oR True ((eqI (lenI l) 0)=false),bT h0,oO (Eq.refl ([(Qab.mk 4 ByteArray.empty)].map Qab.enc).length),aN (l:=([(Qab.mk 4 ByteArray.empty)]:List Qab)) Qab.enc h1] (Qps Γ rv h)
 ·exact gn 9 [0,3] [0] [nL Qao.enc l,hP,hP,oI ((eqI (lenI l) 0)=false),nL Qao.enc l,hP,hP,oI ((eqI (lenI l) 0)=false),oR True ((eqI (lenI l) 0)=false),bF h0,hW 1,hH (.adopt 3 2 151)] (Qps Γ rv h)
theorem Qsd {l} {rv:Bool} (h:QnF l=some rv):AFn Tryz.prog 206 [.one (lL 2 l Qao.enc)] [] (one (.bool rv)) []:=by
 refine QaN Tryz.func206 (by kernel_rfl) (by kernel_rfl) (fun Γ=>?_)
 unfold QnF at h
 obtain ⟨r,h0,h⟩:=Qad h
 obtain rfl:=Option.some.inj h
 exact gr 4 [] [cC (QvR h0),nL Qab.enc r]
theorem Qkq {p t} {rv:Int} (h:Qgb p t=some rv):AFn Tryz.prog 212 [.agg (Qao.enc p),.one (lI t)] [] (one (lI rv)) []:=by
 refine QaN Tryz.func212 (by kernel_rfl) (by kernel_rfl) (fun Γ=>?_)
 unfold Qgb at h
 obtain rfl:=Option.some.inj h
 exact gr 4 [] []
def Qb5 (Γ:Gam) (rv:Int×Bool) (cf:Cf):Prop:=Go Tryz.prog Tryz.f211 [] Γ (.tup [.one (lI rv.1),.one (.bool rv.2)]) [] cf
def Qb1 (Γ:Gam) (rv:Int×Bool) (x0:List Qao) (target:Int) (i:Int) (j:Int):Prop:=Qb5 Γ rv ⟨[.c 120,.l 120,.b 0,.c 31],⟨49,[vL 0 2 x0 Qao.enc,vI 1 target,(2,one (.fn (.func 212) [])),vI 8 (lenI x0),vI 9 i,vI 10 j],[]⟩⟩
def QbP (Γ:Gam) (rv:Int×Bool) (x0:List Qao) (target:Int) (i1:Int):Prop:=Qb5 Γ rv ⟨[.c 31],⟨49,[vL 0 2 x0 Qao.enc,vI 1 target,(2,one (.fn (.func 212) [])),vI 8 (lenI x0),vI 9 i1],[]⟩⟩
theorem QdC (Γ:Gam) (rv:Int×Bool) {x0 target} {s:Int×Int} {e:Int} (h:loopF (fun s=>QaL x0 target s.1 s.2) s=some e) (hD:QbP Γ rv x0 target e):Qb1 Γ rv x0 target s.1 s.2:=by
 refine QaD (C:=fun (s:Int×Int)=>Qb1 Γ rv x0 target s.1 s.2) (D:=fun (e:Int)=>QbP Γ rv x0 target e) ?_ h hD
 clear h hD s e
 rintro ⟨i,j⟩ z_ h hI hE
 replace h:QaL x0 target i j=_:=h
 unfold QaL at h
 rcases Qai h with ⟨h0,h⟩|⟨h0,h⟩
 ·obtain ⟨x1,h1,h⟩:=Qad h
  obtain ⟨r,h2,h⟩:=Qad h
  rcases Qai h with ⟨h3,h⟩|⟨h3,h⟩
  ·exact gn 14 [0,1,2,8,9,10] [] [bT h0,oO (zL 1),cE Qao.enc h1,cC (Qkq h2),bT h3] (hI _ (oJ h))
  ·exact gn 14 [0,1,2,8,9,10] [] [bT h0,oO (zL 1),cE Qao.enc h1,cC (Qkq h2),bF h3] (hI _ (oJ h))
 ·exact gn 5 [0,1,2,8,9] [] [bF h0] (hE _ (oJ h))
theorem Qa3 {x0 target} {rv:Int×Bool} (h:Qa7 x0 target=some rv):AFn Tryz.prog 211 [.one (lL 2 x0 Qao.enc),.one (lI target),.one (.fn (.func 212) [])] [] (.tup [.one (lI rv.1),.one (.bool rv.2)]) []:=by
 refine QaN Tryz.func211 (by kernel_rfl) (by kernel_rfl) (fun Γ=>?_)
 unfold Qa7 at h
 obtain ⟨e0,h4,h⟩:=Qad h
 refine gn 9 [0,1,2,8,9,10] [] [nL Qao.enc x0] (QdC Γ rv h4 ?_)
 obtain ⟨i1,rfl⟩:∃ x,x=e0:=⟨_,rfl⟩
 replace h:(br (ltI i1 (lenI x0)) (bnd (getI x0 i1) fun x2=>bnd (Qgb x2 target) fun r1=>some (i1,(eqI r1 0))) (some (i1,false)):Option (Int×Bool))=some _:=h
 rcases Qai h with ⟨h5,h⟩|⟨h5,h⟩
 ·obtain ⟨x2,h6,h⟩:=Qad h
  obtain ⟨r1,h7,h⟩:=Qad h
  obtain rfl:=Option.some.inj h
  exact gr 2 [] [rp 4 (bT h5),cE Qao.enc h6,rp 3 (bT h5),cC (Qkq h7),bT h5,bT h5]
 ·obtain rfl:=Option.some.inj h
  exact gr 2 [] [rp 9 (bF h5)]
theorem QvB {l t} {rv:Int} (h:QlD l t=some rv):AFn Tryz.prog 207 [.one (lL 2 l Qao.enc),.one (lI t)] [] (one (lI rv)) []:=by
 refine QaN Tryz.func207 (by kernel_rfl) (by kernel_rfl) (fun Γ=>?_)
 unfold QlD at h
 obtain ⟨r,h0,h⟩:=Qad h
 rcases Qai h with ⟨h1,h⟩|⟨h1,h⟩
 ·obtain ⟨x0,h2,h⟩:=Qad h
  obtain rfl:=Option.some.inj h
  exact gr 11 [] [cC (Qa3 h0),bT h1,cE Qao.enc h2]
 ·rcases Qai h with ⟨h3,h⟩|⟨h3,h⟩
  ·obtain ⟨x1,h4,h⟩:=Qad h
   obtain rfl:=Option.some.inj h
   exact gr 14 [] [cC (Qa3 h0),bF h1,bT h3,hH (.draw 12 []),rp 2 (cE Qao.enc h4)]
  ·rcases Qai h with ⟨h5,h⟩|⟨h5,h⟩
   ·obtain ⟨x2,h6,h⟩:=Qad h
    obtain rfl:=Option.some.inj h
    exact gr 17 [] [cC (Qa3 h0),bF h1,bF h3,nL Qao.enc l,bT h5,hH (.draw 16 []),rp 2 (cE Qao.enc h6)]
   ·obtain ⟨x3,h7,h⟩:=Qad h
    obtain ⟨x4,h8,h⟩:=Qad h
    obtain ⟨h9,h⟩:=Qaw h
    obtain rfl:=Option.some.inj h
    exact gr 23 [] [cC (Qa3 h0),bF h1,bF h3,nL Qao.enc l,bF h5,hH (.draw 13 [(0,11),(1,12)]),cE Qao.enc h7,cE Qao.enc h8,hH (.draw 19 []),oO (h9)]
theorem QvA {l t} {rv:Int} (h:QlC l t=some rv):AFn Tryz.prog 200 [.one (lL 2 l Qao.enc),.one (lI t)] [] (one (lI rv)) []:=by
 refine QaN Tryz.func200 (by kernel_rfl) (by kernel_rfl) (fun Γ=>?_)
 unfold QlC at h
 obtain ⟨r,h0,h⟩:=Qad h
 rcases Qai h with ⟨h1,h⟩|⟨h1,h⟩
 ·obtain ⟨r1,h2,h⟩:=Qad h
  rcases Qai h with ⟨h3,h⟩|⟨h3,h⟩
  ·obtain ⟨r2,h4,h⟩:=Qad h
   obtain rfl:=Option.some.inj h
   exact gr 9 [] [cC (Qh2 h0),nF h1,nF h1,cC (Qsd h2),nF h1,nF h1,nF h3,cC (QvB h4)]
  ·obtain rfl:=Option.some.inj h
   exact gr 8 [] [cC (Qh2 h0),nF h1,nF h1,cC (Qsd h2),nF h1,nF h1,nT h3]
 ·obtain rfl:=Option.some.inj h
  exact gr 8 [] [cC (Qh2 h0),rp 4 (nT h1),tT]
def Qp3 (Γ:Gam) (rv:Int) (cf:Cf):Prop:=Go Tryz.prog Tryz.f182 [] Γ (one (lI rv)) [] cf
def Qno (Γ:Gam) (rv:Int) (a:Qas) (t:Int) (out:Int) (v:Int):Prop:=Qp3 Γ rv ⟨[.c 116,.l 116,.b 0,.c 15],⟨29,[vI 1 t,vI 5 out,vL 13 2 a.slow Qao.enc,vI 14 (lenI a.slow),vI 15 v],[]⟩⟩
def Qmx (Γ:Gam) (rv:Int) (a:Qas) (t:Int) (out1:Int):Prop:=Qp3 Γ rv ⟨[.c 15],⟨29,[vI 5 out1],[]⟩⟩
theorem QrY (Γ:Gam) (rv:Int) {a t} {s:Int×Int} {e:Int} (h:loopF (fun s=>Qid a t s.1 s.2) s=some e) (hD:Qmx Γ rv a t e):Qno Γ rv a t s.1 s.2:=by
 refine QaD (C:=fun (s:Int×Int)=>Qno Γ rv a t s.1 s.2) (D:=fun (e:Int)=>Qmx Γ rv a t e) ?_ h hD
 clear h hD s e
 rintro ⟨out,v⟩ z_ h hI hE
 replace h:Qid a t out v=_:=h
 unfold Qid at h
 rcases Qai h with ⟨h1,h⟩|⟨h1,h⟩
 ·obtain ⟨x0,h2,h⟩:=Qad h
  rcases Qai h with ⟨h3,h⟩|⟨h3,h⟩
  ·exact gn 16 [1,5,13,14,15] [] [bT h1,cE Qao.enc h2,bT h3] (hI _ (oJ h))
  ·exact gn 16 [1,5,13,14,15] [] [bT h1,cE Qao.enc h2,bF h3] (hI _ (oJ h))
 ·exact gn 5 [5] [] [bF h1] (hE _ (oJ h))
theorem QtL {a t} {rv:Int} (h:QiA a t=some rv):AFn Tryz.prog 182 [.agg (Qas.enc a),.one (lI t)] [] (one (lI rv)) []:=by
 refine QaN Tryz.func182 (by kernel_rfl) (by kernel_rfl) (fun Γ=>?_)
 unfold QiA at h
 obtain ⟨r,h0,h⟩:=Qad h
 obtain ⟨e0,h4,h⟩:=Qad h
 refine gn 9 [1,5,13,14,15] [] [cC (QvA h0),nL Qao.enc a.slow] (QrY Γ rv h4 ?_)
 obtain ⟨out1,rfl⟩:∃ x,x=e0:=⟨_,rfl⟩
 replace h:(some out1:Option Int)=some _:=h
 obtain rfl:=Option.some.inj h
 exact gr 2 [] []
theorem QgE {n profile from_ to_ t} {rv:Int×Int×Int} (h:Qnn n profile from_ to_ t=some rv):AFn Tryz.prog 134 [.agg (Qam.enc n),.one (lI profile),.one (lI from_),.one (lI to_),.one (lI t)] [] (.tup [.one (lI rv.1),.one (lI rv.2.1),.one (lI rv.2.2)]) []:=by
 refine QaN Tryz.func134 (by kernel_rfl) (by kernel_rfl) (fun Γ=>?_)
 unfold Qnn at h
 obtain ⟨r,h0,h⟩:=Qad h
 rcases Qai h with ⟨h1,h⟩|⟨h1,h⟩
 ·obtain ⟨r1,h2,h⟩:=Qad h
  rcases Qai h with ⟨h3,h⟩|⟨h3,h⟩
  ·rcases Qai h with ⟨h4,h⟩|⟨h4,h⟩
   ·obtain rfl:=Option.some.inj h
    exact gr 13 [] [cC (QdM h0),rp 3 (nF h1),cC (QdM h2),nF h1,nF h1,nF h3,bT h4]
   ·obtain ⟨r2,h5,h⟩:=Qad h
    rcases Qai h with ⟨h6,h⟩|⟨h6,h⟩
    ·obtain ⟨r3,h7,h⟩:=Qad h
     obtain rfl:=Option.some.inj h
     exact gr 21 [] [cC (QdM h0),rp 3 (nF h1),cC (QdM h2),nF h1,nF h1,nF h3,bF h4,cC (Qsa h5),nF h6,hH (.draw 8 []),cC (QtL h7)]
    ·obtain rfl:=Option.some.inj h
     exact gr 20 [] [cC (QdM h0),rp 3 (nF h1),cC (QdM h2),nF h1,nF h1,nF h3,bF h4,cC (Qsa h5),nT h6]
  ·obtain rfl:=Option.some.inj h
   exact gr 8 [] [cC (QdM h0),rp 3 (nF h1),cC (QdM h2),nF h1,nF h1,nT h3]
 ·obtain rfl:=Option.some.inj h
  exact gr 8 [] [cC (QdM h0),rp 5 (nT h1),tT]
theorem Qkx {s0 arrive} {rv:Int×Int} (h:Qks s0 arrive=some rv):AFn Tryz.prog 183 [.agg (Qau.enc s0),.one (lI arrive)] [] (.tup [.one (lI rv.1),.one (lI rv.2)]) []:=by
 refine QaN Tryz.func183 (by kernel_rfl) (by kernel_rfl) (fun Γ=>?_)
 unfold Qks at h
 rcases Qai h with ⟨h0,h⟩|⟨h0,h⟩
 ·obtain rfl:=Option.some.inj h
  exact gr 10 [] [bT h0]
 ·obtain rfl:=Option.some.inj h
  exact gr 11 [] [bF h0]
theorem QfK {p visits} {rv:Int} (h:Qgk p visits=some rv):AFn Tryz.prog 197 [.agg (Qay.enc p),.one (lI visits)] [] (one (lI rv)) []:=by
 refine QaN Tryz.func197 (by kernel_rfl) (by kernel_rfl) (fun Γ=>?_)
 unfold Qgk at h
 rcases Qai h with ⟨h0,h⟩|⟨h0,h⟩
 ·obtain rfl:=Option.some.inj h
  exact gr 8 [] [bT h0]
 ·obtain ⟨x0,h1,h⟩:=Qad h
  obtain rfl:=Option.some.inj h
  exact gr 9 [] [bF h0,cE Qau.enc h1]
theorem QeA {s0} {rv:List Qar} (h:QbG s0=some rv):AFn Tryz.prog 196 [.one (lL 4 s0 Qar.enc)] [] (one (lO 0 4 rv Qar.enc)) [oS 4 227 rv Qar.enc]:=by
 refine QaN Tryz.func196 (by kernel_rfl) (by kernel_rfl) (fun Γ=>?_)
 unfold QbG at h
 rcases Qai h with ⟨h0,h⟩|⟨h0,h⟩
 ·obtain ⟨hx,h⟩:=QDl h
  refine gn 5 [0,4] [] [hH (.skip)] (cf':=⟨[.c 13,.c 7],⟨8,[vL 0 4 s0 Qar.enc,(4,.boo)],[]⟩⟩) (QFm 4 rfl ?_ ?_)
  ·replace h:=hx
   obtain rfl:=Option.some.inj h
   exact gr 3 [0] [tT,hW 3,hH (.adopt 2 4 227)]
  ·obtain ⟨h1,h⟩:=Qaw h
   obtain rfl:=Option.some.inj h
   exact gr 4 [0] [fF,aZ Qar.enc h1]
 ·obtain ⟨h2,h⟩:=Qaw h
  obtain rfl:=Option.some.inj h
  exact gr 9 [0] [oO (neE Qar.enc h0),fF,hH (.bit false),aZ Qar.enc h2]
def QiH (Γ:Gam) (rv:Qaf×Int) (cf:Cf):Prop:=Go Tryz.prog Tryz.f176 [] Γ (.tup [.agg [lI rv.1.ready,lI rv.1.since,.bool rv.1.sheet.rest_,lI rv.1.sheet.depart,lL 4 rv.1.sheet.times Qar.enc,lI rv.1.sheet.end_,lI rv.1.sheet.miles],.one (lI rv.2)]) [] cf
theorem QlW (Γ:Gam) (rv:Qaf×Int) {p l depart since rest_1 depart1 r2 l2 ready end_} (h:Qfh p l depart since rest_1 depart1 r2 l2 ready end_=some rv):QiH Γ rv ⟨[.c 32767],⟨163,[vP 4 0 25,vP 8 1 7,vP 12 2 7],[oX 25 173 (Qay.enc p),oX 7 177 [lI 0,lI 0,.bool false,lI 0,.nils,lI 0,lI 0],oX 7 177 [lI ready,lI (subK .i64 (addK .i64 since r2.1) depart),.bool rest_1,lI depart1,lO 3 4 l2 Qar.enc,lI end_,lI (addK .i64 l.sheet.miles r2.2.1)],oS 4 227 l2 Qar.enc]⟩⟩:=by
 unfold Qfh at h
 rcases Qai h with ⟨h15,h⟩|⟨h15,h⟩
 ·obtain rfl:=Option.some.inj h
  exact gr 6 [] [bT h15,hW 5,hH (.nilB 1 4 4)]
 ·obtain rfl:=Option.some.inj h
  exact gr 7 [] [bF h15,hW 6,hH (.frz 3),rp 3 (eL l2 Qar.enc)]
theorem QlV (Γ:Gam) (rv:Qaf×Int) {p l done depart since l1 rest_1 depart1 to_} (h:Qd9 p l done depart since l1 rest_1 depart1 to_=some rv):QiH Γ rv ⟨[.c 1023],⟨163,[vI 2 done,vP 4 0 25,vP 8 1 7,vI 10 depart,vI 11 since,vP 12 2 7,vB 13 (eqI done (lenI p.stops)),vI 14 to_],[oX 25 173 (Qay.enc p),oX 7 177 [lI 0,lI 0,.bool false,lI 0,.nils,lI 0,lI 0],oX 7 177 [lI 0,lI 0,.bool rest_1,lI depart1,lO 3 4 l1 Qar.enc,lI l.sheet.end_,lI l.sheet.miles],oS 4 227 l1 Qar.enc]⟩⟩:=by
 unfold Qd9 at h
 obtain ⟨r1,h6,h⟩:=Qad h
 obtain ⟨r2,h7,h⟩:=Qad h
 rcases Qai h with ⟨h8,h⟩|⟨h8,h⟩
 ·obtain rfl:=Option.some.inj h
  exact gr 8 [] [hH (.draw 19 []),cC (QfK h6),cC (QgE h7),bT h8,hW 5,hH (.nilB 1 4 4)]
 ·rcases Qai h with ⟨h9,h⟩|⟨h9,h⟩
  ·rcases Qai h with ⟨h10,h⟩|⟨h10,h⟩
   ·obtain rfl:=Option.some.inj h
    exact gr 21 [] [hH (.draw 19 []),cC (QfK h6),cC (QgE h7),bF h8,bT h9,bT h10,hW 5,hH (.nilB 1 4 4)]
   ·exact gn 23 [4,8,12] [0,1,2,3] [hH (.draw 19 []),cC (QfK h6),cC (QgE h7),bF h8,bT h9,bF h10] (QlW Γ rv h)
  ·obtain ⟨x2,h11,h⟩:=Qad h
   obtain ⟨r3,h12,h⟩:=Qad h
   rcases Qai h with ⟨h13,h⟩|⟨h13,h⟩
   ·obtain rfl:=Option.some.inj h
    exact gr 23 [] [hH (.draw 19 []),cC (QfK h6),cC (QgE h7),bF h8,bF h9,cE Qau.enc h11,cC (Qkx h12),bT h13,hW 5,hH (.nilB 1 4 4)]
   ·obtain ⟨h14,h⟩:=Qaw h
    exact gn 25 [4,8,12] [0,1,2,5] [hH (.draw 19 []),cC (QfK h6),cC (QgE h7),bF h8,bF h9,cE Qau.enc h11,cC (Qkx h12),bF h13,cE Qau.enc h11,oO (Eq.refl ([(Qar.mk r2.1 r3.1 0 false)].map Qar.enc).length),aO Qar.enc h14] (QlW Γ rv h)
theorem QlU (Γ:Gam) (rv:Qaf×Int) {p l done depart since l1 rest_1 depart1} (h:Qfg p l done depart since l1 rest_1 depart1=some rv):QiH Γ rv ⟨[.c 127],⟨163,[vI 2 done,vP 4 0 25,vP 8 1 7,vI 10 depart,vI 11 since,vP 12 2 7],[oX 25 173 (Qay.enc p),oX 7 177 [lI 0,lI 0,.bool false,lI 0,.nils,lI 0,lI 0],oX 7 177 [lI 0,lI 0,.bool rest_1,lI depart1,lO 3 4 l1 Qar.enc,lI l.sheet.end_,lI l.sheet.miles],oS 4 227 l1 Qar.enc]⟩⟩:=by
 unfold Qfg at h
 rcases Qai h with ⟨h4,h⟩|⟨h4,h⟩
 ·exact gn 9 [2,4,8,10,11,12,13,14] [0,1,2,3] [nL Qau.enc p.stops,nF h4] (QlV Γ rv h)
 ·obtain ⟨x1,h5,h⟩:=Qad h
  exact gn 9 [2,4,8,10,11,12,13,14] [0,1,2,3] [nL Qau.enc p.stops,nT h4,cE Qau.enc h5] (QlV Γ rv h)
theorem QlT (Γ:Gam) (rv:Qaf×Int) {p l done rest_ depart since} (h:Qff p l done rest_ depart since=some rv):QiH Γ rv ⟨[.c 15],⟨163,[vI 2 done,vB 3 rest_,vP 4 0 25,vP 5 1 7,vP 8 2 7,vI 10 depart,vI 11 since],[oX 25 173 (Qay.enc p),oX 7 177 (Qaf.enc l),oX 7 177 [lI 0,lI 0,.bool false,lI 0,.nils,lI 0,lI 0]]⟩⟩:=by
 unfold Qff at h
 obtain ⟨r,h1,h⟩:=Qad h
 rcases Qai h with ⟨h2,h⟩|⟨h2,h⟩
 ·exact gn 11 [2,4,8,10,11,12] [0,2,3,4] [cC (QeA h1),bT h2] (QlU Γ rv h)
 ·obtain ⟨x0,h3,h⟩:=Qad h
  exact gn 11 [2,4,8,10,11,12] [0,2,3,4] [cC (QeA h1),bF h2,oO (getLo h3),oO (getHi Qar.enc h3),rE Qar.enc h3,hH (.rows ((setI r (subK .i64 done 1) (Qar.mk x0.arrive x0.begin x0.depart rest_)).map Qar.enc)),hH (.relen 4 ((setI r (subK .i64 done 1) (Qar.mk x0.arrive x0.begin x0.depart rest_)).map Qar.enc).length),oO (setM Qar.enc r (subK .i64 done 1) (Qar.mk x0.arrive x0.begin x0.depart rest_)),rp 3 (oO (Qx4 Qar.enc r (subK .i64 done 1) (Qar.mk x0.arrive x0.begin x0.depart rest_))),oO (getLo (QDC h3 (Qar.mk x0.arrive x0.begin x0.depart rest_))),oO (getHi Qar.enc (QDC h3 (Qar.mk x0.arrive x0.begin x0.depart rest_))),rE Qar.enc (QDC h3 (Qar.mk x0.arrive x0.begin x0.depart rest_)),hH (.rows ((setI (setI r (subK .i64 done 1) (Qar.mk x0.arrive x0.begin x0.depart rest_)) (subK .i64 done 1) (Qar.mk x0.arrive x0.begin depart rest_)).map Qar.enc)),hH (.relen 4 ((setI (setI r (subK .i64 done 1) (Qar.mk x0.arrive x0.begin x0.depart rest_)) (subK .i64 done 1) (Qar.mk x0.arrive x0.begin depart rest_)).map Qar.enc).length),oO (setM Qar.enc (setI r (subK .i64 done 1) (Qar.mk x0.arrive x0.begin x0.depart rest_)) (subK .i64 done 1) (Qar.mk x0.arrive x0.begin depart rest_)),rp 4 (oO (Qx4 Qar.enc (setI r (subK .i64 done 1) (Qar.mk x0.arrive x0.begin x0.depart rest_)) (subK .i64 done 1) (Qar.mk x0.arrive x0.begin depart rest_)))] (QlU Γ rv h)
theorem Qgj {p l done rest_} {rv:Qaf×Int} (h:Qfa p l done rest_=some rv):AFn Tryz.prog 176 [.agg (Qay.enc p),.agg (Qaf.enc l),.one (lI done),.one (.bool rest_)] [] (.tup [.agg [lI rv.1.ready,lI rv.1.since,.bool rv.1.sheet.rest_,lI rv.1.sheet.depart,lL 4 rv.1.sheet.times Qar.enc,lI rv.1.sheet.end_,lI rv.1.sheet.miles],.one (lI rv.2)]) []:=by
 refine QaN Tryz.func176 (by kernel_rfl) (by kernel_rfl) (fun Γ=>?_)
 unfold Qfa at h
 rcases Qai h with ⟨h0,h⟩|⟨h0,h⟩
 ·exact gn 11 [2,3,4,5,8,10,11] [0,1,2] [hH (.draw 6 []),bT h0] (QlT Γ rv h)
 ·exact gn 9 [2,3,4,5,8,10,11] [0,1,2] [hH (.draw 6 []),bF h0] (QlT Γ rv h)
theorem Qsi {l m} {rv:Bool} (h:QlF l m=some rv):AFn Tryz.prog 179 [.agg (Qaf.enc l),.agg (Qaf.enc m)] [] (one (.bool rv)) []:=by
 refine QaN Tryz.func179 (by kernel_rfl) (by kernel_rfl) (fun Γ=>?_)
 unfold QlF at h
 obtain rfl:=Option.some.inj h
 exact gr 4 [] [rp 6 hP,rp 4 (oI ((eqI l.ready m.ready)=true)),oR True ((eqI l.ready m.ready)=true)]
theorem QmT {m c} {rv:Bool} (h:Qg1 m c=some rv):AFn Tryz.prog 178 [.agg (Qaf.enc m),.one (.ip (Qaf.enc c) 0)] [] (one (.bool rv)) []:=by
 refine QaN Tryz.func178 (by kernel_rfl) (by kernel_rfl) (fun Γ=>?_)
 unfold Qg1 at h
 obtain ⟨r,h0,h⟩:=Qad h
 obtain rfl:=Option.some.inj h
 exact gr 4 [] [cC (Qsi h0)]
def QcT (Γ:Gam) (rv:Int) (cf:Cf):Prop:=Go Tryz.prog Tryz.f198 [] Γ (one (lI rv)) [] cf
def Qcy (Γ:Gam) (rv:Int) (s0:List Qaf) (c:Qaf) (v:Int):Prop:=QcT Γ rv ⟨[.c 52,.l 52,.b 0,.c 7],⟨19,[vL 0 7 s0 Qaf.enc,(1,one (.fn (.func 178) [.ip (Qaf.enc c) 0])),vI 7 (lenI s0),vI 8 v],[]⟩⟩
def Qcu (Γ:Gam) (rv:Int) (s0:List Qaf) (c:Qaf):Prop:=QcT Γ rv ⟨[.c 7],⟨19,[],[]⟩⟩
theorem Qe1 (Γ:Gam) (rv:Int) {s0 c} {s:Int} {e:(Unit)⊕(Int)} (h:loopF (fun s=>Qax s0 c s) s=some e) (hD:sel e (fun e=>Qcu Γ rv s0 c) (fun e=>e=rv)):Qcy Γ rv s0 c s:=by
 refine QaD (C:=fun (s:Int)=>Qcy Γ rv s0 c s) (D:=fun (e:(Unit)⊕(Int))=>sel e (fun e=>Qcu Γ rv s0 c) (fun e=>e=rv)) ?_ h hD
 clear h hD s e
 intro v z_ h hI hE
 replace h:Qax s0 c v=_:=h
 unfold Qax at h
 rcases Qai h with ⟨h0,h⟩|⟨h0,h⟩
 ·obtain ⟨x0,h1,h⟩:=Qad h
  obtain ⟨r,h2,h⟩:=Qad h
  rcases Qai h with ⟨h3,h⟩|⟨h3,h⟩
  ·obtain rfl:=(hE _ (oJ h):_=rv)
   exact gr 14 [] [bT h0,cE Qaf.enc h1,cC (QmT h2),bT h3]
  ·exact gn 16 [0,1,7,8] [] [bT h0,cE Qaf.enc h1,cC (QmT h2),bF h3] (hI _ (oJ h))
 ·exact gn 5 [] [] [bF h0] (hE _ (oJ h))
theorem Qfu {s0 c} {rv:Int} (h:Qbj s0 c=some rv):AFn Tryz.prog 198 [.one (lL 7 s0 Qaf.enc),.one (.fn (.func 178) [.ip (Qaf.enc c) 0])] [] (one (lI rv)) []:=by
 refine QaN Tryz.func198 (by kernel_rfl) (by kernel_rfl) (fun Γ=>?_)
 unfold Qbj at h
 obtain ⟨e0,h4,h⟩:=Qad h
 refine gn 7 [0,1,7,8] [] [nL Qaf.enc s0] (Qe1 Γ rv h4 ?_)
 rcases e0 with e0|e0
 ·replace h:(some (-1):Option Int)=some _:=h
  obtain rfl:=Option.some.inj h
  exact gr 2 [] []
 ·obtain ⟨r1,rfl⟩:∃ x,x=e0:=⟨_,rfl⟩
  replace h:(some r1:Option Int)=some _:=h
  exact Option.some.inj h
theorem Qct {s0 c} {rv:Bool} (h:QaS s0 c=some rv):AFn Tryz.prog 177 [.one (lL 7 s0 Qaf.enc),.one (.fn (.func 178) [.ip (Qaf.enc c) 0])] [] (one (.bool rv)) []:=by
 refine QaN Tryz.func177 (by kernel_rfl) (by kernel_rfl) (fun Γ=>?_)
 unfold QaS at h
 obtain ⟨r,h0,h⟩:=Qad h
 obtain rfl:=Option.some.inj h
 exact gr 4 [] [cC (Qfu h0)]
def Qg2 (Γ:Gam) (rv:List Qaf) (cf:Cf):Prop:=Go Tryz.prog Tryz.f130 [] Γ (one (lL 7 rv Qaf.enc)) [] cf
def QmV (Γ:Gam) (rv:List Qaf) (p:Qay) (l:List Qaf) (done:Int) (choices:List Bool) (v:Int) (x0:Qaf) (l3:List Qaf) (v1:Int):Prop:=Qg2 Γ rv ⟨[.c 128204,.l 128204,.b 2,.b 1,.c 4007,.l 500,.b 0,.c 63],⟨64,[vI 2 done,vP 3 0 25,vL 7 1 choices QaY,vO 8 1 7 l3 Qaf.enc,vP 10 2 7,vL 29 7 l Qaf.enc,vI 30 (lenI l),vI 31 v,vL 35 1 choices QaY,vI 36 (lenI choices),vI 37 v1],[oX 25 173 (Qay.enc p),oS 7 177 l3 Qaf.enc,oX 7 177 (Qaf.enc x0)]⟩⟩
def QlS (Γ:Gam) (rv:List Qaf) (p:Qay) (l:List Qaf) (done:Int) (choices:List Bool) (v:Int) (x0:Qaf) (l4:List Qaf):Prop:=Qg2 Γ rv ⟨[.b 1,.c 4007,.l 500,.b 0,.c 63],⟨64,[vI 2 done,vP 3 0 25,vL 7 1 choices QaY,vO 8 1 7 l4 Qaf.enc,vL 29 7 l Qaf.enc,vI 30 (lenI l),vI 31 v],[oX 25 173 (Qay.enc p),oS 7 177 l4 Qaf.enc]⟩⟩
def QmU (Γ:Gam) (rv:List Qaf) (p:Qay) (l:List Qaf) (done:Int) (choices:List Bool) (l2:List Qaf) (v:Int):Prop:=Qg2 Γ rv ⟨[.c 500,.l 500,.b 0,.c 63],⟨64,[vI 2 done,vP 3 0 25,vL 7 1 choices QaY,vO 8 1 7 l2 Qaf.enc,vL 29 7 l Qaf.enc,vI 30 (lenI l),vI 31 v],[oX 25 173 (Qay.enc p),oS 7 177 l2 Qaf.enc]⟩⟩
def QlR (Γ:Gam) (rv:List Qaf) (p:Qay) (l:List Qaf) (done:Int) (choices:List Bool) (l5:List Qaf):Prop:=Qg2 Γ rv ⟨[.c 63],⟨64,[vO 8 0 7 l5 Qaf.enc],[oS 7 177 l5 Qaf.enc]⟩⟩
theorem QrH (Γ:Gam) (rv:List Qaf) {p l done choices v x0} {s:List Qaf×Int} {e:List Qaf} (h:loopF (fun s=>Qcw p l done choices v x0 s.1 s.2) s=some e) (hD:QlS Γ rv p l done choices v x0 e):QmV Γ rv p l done choices v x0 s.1 s.2:=by
 refine QaD (C:=fun (s:List Qaf×Int)=>QmV Γ rv p l done choices v x0 s.1 s.2) (D:=fun (e:List Qaf)=>QlS Γ rv p l done choices v x0 e) ?_ h hD
 clear h hD s e
 rintro ⟨l3,v1⟩ z_ h hI hE
 replace h:Qcw p l done choices v x0 l3 v1=_:=h
 unfold Qcw at h
 rcases Qai h with ⟨h4,h⟩|⟨h4,h⟩
 ·obtain ⟨x1,h5,h⟩:=Qad h
  obtain ⟨r,h6,h⟩:=Qad h
  rcases Qai h with ⟨h7,h⟩|⟨h7,h⟩
  ·obtain ⟨r1,h8,h⟩:=Qad h
   rcases Qai h with ⟨h9,h⟩|⟨h9,h⟩
   ·exact gn 18 [2,3,7,8,10,29,30,31,35,36,37] [0,1,2] [bT h4,cE QaY h5,cC (Qgj h6),rp 3 (bT h7),eL l3 Qaf.enc,cC (Qct h8),bT h7,bT h7,nF h9] (hI _ (oJ h))
   ·obtain ⟨h10,h⟩:=Qaw h
    exact gn 18 [2,3,7,8,10,29,30,31,35,36,37] [0,5,2] [bT h4,cE QaY h5,cC (Qgj h6),rp 3 (bT h7),eL l3 Qaf.enc,cC (Qct h8),bT h7,bT h7,nT h9,oO (Eq.refl ([r.1].map Qaf.enc).length),aO Qaf.enc h10] (hI _ (oJ h))
  ·exact gn 18 [2,3,7,8,10,29,30,31,35,36,37] [0,1,2] [bT h4,cE QaY h5,cC (Qgj h6),rp 5 (bF h7),fF] (hI _ (oJ h))
 ·exact gn 5 [2,3,7,8,29,30,31] [0,1] [bF h4] (hE _ (oJ h))
theorem QrG (Γ:Gam) (rv:List Qaf) {p l done choices} {s:List Qaf×Int} {e:List Qaf} (h:loopF (fun s=>Qcv p l done choices s.1 s.2) s=some e) (hD:QlR Γ rv p l done choices e):QmU Γ rv p l done choices s.1 s.2:=by
 refine QaD (C:=fun (s:List Qaf×Int)=>QmU Γ rv p l done choices s.1 s.2) (D:=fun (e:List Qaf)=>QlR Γ rv p l done choices e) ?_ h hD
 clear h hD s e
 rintro ⟨l2,v⟩ z_ h hI hE
 replace h:Qcv p l done choices l2 v=_:=h
 unfold Qcv at h
 rcases Qai h with ⟨h2,h⟩|⟨h2,h⟩
 ·obtain ⟨x0,h3,h⟩:=Qad h
  obtain ⟨e0,h11,h⟩:=Qad h
  refine gn 13 [2,3,7,8,10,29,30,31,35,36,37] [0,1,2] [bT h2,cE Qaf.enc h3,nL QaY choices] (QrH Γ rv h11 ?_)
  obtain ⟨l4,rfl⟩:∃ x,x=e0:=⟨_,rfl⟩
  replace h:(some (.inl (l4,(addK .i64 v 1))):Option ((List Qaf×Int)⊕(List Qaf)))=some _:=h
  exact gn 3 [2,3,7,8,29,30,31] [0,1] [] (hI _ (oJ h))
 ·exact gn 5 [8] [1] [bF h2] (hE _ (oJ h))
theorem QlQ (Γ:Gam) (rv:List Qaf) {p l done choices} (h:Qfe p l done choices=some rv):Qg2 Γ rv ⟨[.c 15],⟨64,[vL 1 7 l Qaf.enc,vI 2 done,vP 3 0 25,vL 7 1 choices QaY],[oX 25 173 (Qay.enc p)]⟩⟩:=by
 unfold Qfe at h
 obtain ⟨e1,h12,h⟩:=Qad h
 refine gn 7 [2,3,7,8,29,30,31] [0,1] [nL Qaf.enc l,hW 3,hH (.adopt 8 7 177)] (QrG Γ rv h12 ?_)
 obtain ⟨l5,rfl⟩:∃ x,x=e1:=⟨_,rfl⟩
 replace h:(some l5:Option (List Qaf))=some _:=h
 obtain rfl:=Option.some.inj h
 exact gr 2 [] [hW 4,hH (.frz 0),rp 3 (eL l5 Qaf.enc)]
theorem QtA {p l done} {rv:List Qaf} (h:Qf3 p l done=some rv):AFn Tryz.prog 130 [.agg (Qay.enc p),.one (lL 7 l Qaf.enc),.one (lI done)] [] (one (lL 7 rv Qaf.enc)) []:=by
 refine QaN Tryz.func130 (by kernel_rfl) (by kernel_rfl) (fun Γ=>?_)
 unfold Qf3 at h
 rcases Qai h with ⟨h0,h⟩|⟨h0,h⟩
 ·obtain ⟨l1,h1,h⟩:=Qad h
  exact gn 9 [1,2,3,7] [0] [nL QaY p.r.rests,bT h0,hH (.rows (l1.map QaY)),oO (sl1 h1),oO (sl2 h1),oO (sl3 QaY h1),oO (Int.le_refl (addK .i64 done 1)),oO (sl3 QaY h1),oO (sl6 QaY h1)] (QlQ Γ rv h)
 ·exact gn 9 [1,2,3,7] [0] [nL QaY p.r.rests,bF h0,hW 1,hH (.frz 1),rp 2 (oO (Eq.refl ([false,true].map QaY).length))] (QlQ Γ rv h)
def QqD (Γ:Gam) (rv:Qap×Int) (cf:Cf):Prop:=Go Tryz.prog Tryz.f131 [] Γ (.tup [.agg [.bool rv.1.rest_,lI rv.1.depart,lL 4 rv.1.times Qar.enc,lI rv.1.end_,lI rv.1.miles],.one (lI rv.2)]) [] cf
def QnP (Γ:Gam) (rv:Qap×Int) (p:Qay) (rests:List Bool) (r:Qaf) (rest_:Int) (x0:Qaf) (v:Int):Prop:=QqD Γ rv ⟨[.c 116,.l 116,.b 0,.c 15],⟨36,[vP 2 0 25,vP 4 1 5,vP 6 2 7,vL 13 1 rests QaY,vI 14 (lenI rests),vI 15 v],[oX 25 173 [lL 1 p.x.net.places e_str,lL 6 p.x.net.arcs Qas.enc,lL 14 p.x.types Qak.enc,lL 16 p.x.orders Qah.enc,lL 2 p.x.apart QaC.enc,lL 2 p.x.before QaC.enc,.str p.t.name,lI p.t.count,lI p.t.from_,lI p.t.to_,lL 1 p.t.cap e_i64,lI p.t.skills,lI p.t.profile,lI p.t.open_,lI p.t.close,lI p.t.drive,lI rest_,lI p.t.fixed,lI p.t.perMile,lI p.t.perTick,lI p.r.type_,lI p.r.start,lL 1 p.r.rests QaY,lL 2 p.r.visits Qaa.enc,lL 4 p.stops Qau.enc],oX 5 74 [.bool false,lI 0,.nils,lI 0,lI 0],oX 7 177 (Qaf.enc x0)]⟩⟩
def QmW (Γ:Gam) (rv:Qap×Int) (p:Qay) (rests:List Bool) (r:Qaf) (x2:Qaf):Prop:=QqD Γ rv ⟨[.c 15],⟨36,[vP 4 0 5,vP 6 1 7],[oX 5 74 [.bool false,lI 0,.nils,lI 0,lI 0],oX 7 177 (Qaf.enc x2)]⟩⟩
theorem Qsj (Γ:Gam) (rv:Qap×Int) {p rests r} {s:Int×Qaf×Int} {e:(Qaf)⊕(Qap×Int)} (h:loopF (fun s=>QfH p rests r s.1 s.2.1 s.2.2) s=some e) (hD:sel e (fun e=>QmW Γ rv p rests r e) (fun e=>e=rv)):QnP Γ rv p rests r s.1 s.2.1 s.2.2:=by
 refine QaD (C:=fun (s:Int×Qaf×Int)=>QnP Γ rv p rests r s.1 s.2.1 s.2.2) (D:=fun (e:(Qaf)⊕(Qap×Int))=>sel e (fun e=>QmW Γ rv p rests r e) (fun e=>e=rv)) ?_ h hD
 clear h hD s e
 rintro ⟨rest_,x0,v⟩ z_ h hI hE
 replace h:QfH p rests r rest_ x0 v=_:=h
 unfold QfH at h
 rcases Qai h with ⟨h1,h⟩|⟨h1,h⟩
 ·obtain ⟨x1,h2,h⟩:=Qad h
  obtain ⟨r1,h3,h⟩:=Qad h
  rcases Qai h with ⟨h4,h⟩|⟨h4,h⟩
  ·obtain rfl:=(hE _ (oJ h):_=rv)
   exact gr 17 [] [bT h1,cE QaY h2,cC (Qgj h3),bT h4,hW 6,hH (.nilB 1 2 4)]
  ·exact gn 20 [2,4,6,13,14,15] [0,1,2] [bT h1,cE QaY h2,cC (Qgj h3),bF h4] (hI _ (oJ h))
 ·exact gn 5 [4,6] [1,2] [bF h1] (hE _ (oJ h))
theorem Quo {p rests} {rv:Qap×Int} (h:QgI p rests=some rv):AFn Tryz.prog 131 [.agg (Qay.enc p),.one (lL 1 rests QaY)] [] (.tup [.agg [.bool rv.1.rest_,lI rv.1.depart,lL 4 rv.1.times Qar.enc,lI rv.1.end_,lI rv.1.miles],.one (lI rv.2)]) []:=by
 refine QaN Tryz.func131 (by kernel_rfl) (by kernel_rfl) (fun Γ=>?_)
 unfold QgI at h
 obtain ⟨r,h0,h⟩:=Qad h
 obtain ⟨e0,h5,h⟩:=Qad h
 refine gn 9 [2,4,6,13,14,15] [0,1,2] [cC (QnO h0),nL QaY rests] (Qsj Γ rv h5 ?_)
 rcases e0 with e0|e0
 ·obtain ⟨x2,rfl⟩:∃ x,x=e0:=⟨_,rfl⟩
  replace h:(some (x2.sheet,0):Option (Qap×Int))=some _:=h
  obtain rfl:=Option.some.inj h
  exact gr 2 [] []
 ·obtain ⟨r2,rfl⟩:∃ x,x=e0:=⟨_,rfl⟩
  replace h:(some r2:Option (Qap×Int))=some _:=h
  exact Option.some.inj h
def QpB (Γ:Gam) (rv:Qap×Int) (cf:Cf):Prop:=Go Tryz.prog Tryz.f82 [] Γ (.tup [.agg [.bool rv.1.rest_,lI rv.1.depart,lL 4 rv.1.times Qar.enc,lI rv.1.end_,lI rv.1.miles],.one (lI rv.2)]) [] cf
def Qr6 (Γ:Gam) (rv:Qap×Int) (r:Qag) (r1:Qay×Bool) (l:List Qaf) (v:Int):Prop:=QpB Γ rv ⟨[.c 1012,.l 1012,.b 0,.c 127],⟨82,[vP 3 0 4,vP 4 1 5,vP 6 2 25,vI 8 (addK .i64 (lenI r.visits) 1),vL 9 7 l Qaf.enc,vI 38 (addK .i64 (lenI r.visits) 1),vI 39 v],[oX 4 37 (Qag.enc r),oX 5 74 [.bool false,lI 0,.nils,lI 0,lI 0],oX 25 173 (Qay.enc r1.1)]⟩⟩
def QqA (Γ:Gam) (rv:Qap×Int) (r:Qag) (r1:Qay×Bool) (l1:List Qaf):Prop:=QpB Γ rv ⟨[.c 127],⟨82,[vP 3 0 4,vP 4 1 5,vP 6 2 25,vI 8 (addK .i64 (lenI r.visits) 1),vL 9 7 l1 Qaf.enc],[oX 4 37 (Qag.enc r),oX 5 74 [.bool false,lI 0,.nils,lI 0,lI 0],oX 25 173 (Qay.enc r1.1)]⟩⟩
def Qr7 (Γ:Gam) (rv:Qap×Int) (l3:List Qaf) (x2:Qaf) (v1:Int):Prop:=QpB Γ rv ⟨[.c 8180,.l 8180,.b 2,.c 1023],⟨82,[vP 4 0 5,vP 12 1 7,vL 65 7 l3 Qaf.enc,vI 66 (lenI l3),vI 67 v1],[oX 5 74 [.bool false,lI 0,.nils,lI 0,lI 0],oX 7 177 (Qaf.enc x2)]⟩⟩
def QqB (Γ:Gam) (rv:Qap×Int) (l3:List Qaf) (x4:Qaf):Prop:=QpB Γ rv ⟨[.c 1023],⟨82,[vP 4 0 5,vP 12 1 7],[oX 5 74 [.bool false,lI 0,.nils,lI 0,lI 0],oX 7 177 (Qaf.enc x4)]⟩⟩
theorem QuQ (Γ:Gam) (rv:Qap×Int) {r r1} {s:List Qaf×Int} {e:List Qaf} (h:loopF (fun s=>Qew r r1 s.1 s.2) s=some e) (hD:QqA Γ rv r r1 e):Qr6 Γ rv r r1 s.1 s.2:=by
 refine QaD (C:=fun (s:List Qaf×Int)=>Qr6 Γ rv r r1 s.1 s.2) (D:=fun (e:List Qaf)=>QqA Γ rv r r1 e) ?_ h hD
 clear h hD s e
 rintro ⟨l,v⟩ z_ h hI hE
 replace h:Qew r r1 l v=_:=h
 unfold Qew at h
 rcases Qai h with ⟨h3,h⟩|⟨h3,h⟩
 ·obtain ⟨r3,h4,h⟩:=Qad h
  exact gn 13 [3,4,6,8,9,38,39] [0,1,2] [bT h3,cC (QtA h4)] (hI _ (oJ h))
 ·exact gn 5 [3,4,6,8,9] [0,1,2] [bF h3] (hE _ (oJ h))
theorem QuR (Γ:Gam) (rv:Qap×Int) {l3} {s:Qaf×Int} {e:Qaf} (h:loopF (fun s=>QdT l3 s.1 s.2) s=some e) (hD:QqB Γ rv l3 e):Qr7 Γ rv l3 s.1 s.2:=by
 refine QaD (C:=fun (s:Qaf×Int)=>Qr7 Γ rv l3 s.1 s.2) (D:=fun (e:Qaf)=>QqB Γ rv l3 e) ?_ h hD
 clear h hD s e
 rintro ⟨x2,v1⟩ z_ h hI hE
 replace h:QdT l3 x2 v1=_:=h
 unfold QdT at h
 rcases Qai h with ⟨h11,h⟩|⟨h11,h⟩
 ·obtain ⟨x3,h12,h⟩:=Qad h
  rcases Qai h with ⟨h13,h⟩|⟨h13,h⟩
  ·exact gn 16 [4,12,65,66,67] [0,1] [bT h11,cE Qaf.enc h12,bT h13] (hI _ (oJ h))
  ·exact gn 16 [4,12,65,66,67] [0,1] [bT h11,cE Qaf.enc h12,bF h13] (hI _ (oJ h))
 ·exact gn 5 [4,12] [0,1] [bF h11] (hE _ (oJ h))
theorem Quc {x0 r} {rv:Qap×Int} (h:QoK x0 r=some rv):AFn Tryz.prog 82 [.agg (Qac.enc x0),.agg (Qag.enc r)] [] (.tup [.agg [.bool rv.1.rest_,lI rv.1.depart,lL 4 rv.1.times Qar.enc,lI rv.1.end_,lI rv.1.miles],.one (lI rv.2)]) []:=by
 refine QaN Tryz.func82 (by kernel_rfl) (by kernel_rfl) (fun Γ=>?_)
 unfold QoK at h
 obtain ⟨r1,h0,h⟩:=Qad h
 rcases Qai h with ⟨h1,h⟩|⟨h1,h⟩
 ·obtain rfl:=Option.some.inj h
  exact gr 12 [] [cC (Qud h0),nL Qaa.enc r.visits,hP,hP,hP,rp 2 (oI ((!r1.2)=false)),nL QaY r.rests,hP,hP,hP,rp 2 (oI ((!r1.2)=false)),oR True ((!r1.2)=false),bT h1,hW 5,hH (.nilB 2 2 4)]
 ·obtain ⟨r2,h2,h⟩:=Qad h
  obtain ⟨e0,h5,h⟩:=Qad h
  refine gn 18 [3,4,6,8,9,38,39] [1,2,3] [cC (Qud h0),nL Qaa.enc r.visits,hP,hP,hP,rp 2 (oI ((!r1.2)=false)),nL QaY r.rests,hP,hP,hP,rp 2 (oI ((!r1.2)=false)),oR True ((!r1.2)=false),bF h1,cC (QnO h2),hW 9,hH (.frz 4),rp 2 (oO (Eq.refl ([r2].map Qaf.enc).length))] (QuQ Γ rv h5 ?_)
  obtain ⟨l1,rfl⟩:∃ x,x=e0:=⟨_,rfl⟩
  replace h:(br (eqI (lenI l1) 0) (bnd (mkI (addK .i64 (lenI r.visits) 1) (addK .i64 (lenI r.visits) 1) 1 false) fun l2=>bnd (QgI r1.1 (cpyL l2 r.rests)) fun r4=>some (r4.1,r4.2)) (bnd (getI l1 0) fun x1=>bnd (slcI l1 1 (lenI l1)) fun l3=>bnd (loopF (fun s=>QdT l3 s.1 s.2) (x1,0)) (fun x4=>some (x4.sheet,0))):Option (Qap×Int))=some _:=h
  rcases Qai h with ⟨h6,h⟩|⟨h6,h⟩
  ·obtain ⟨l2,h7,h⟩:=Qad h
   obtain ⟨r4,h8,h⟩:=Qad h
   obtain rfl:=Option.some.inj h
   exact gr 10 [] [nL Qaf.enc l1,bT h6,hH (.cells [.bool false]),hH (.rows (l2.map QaY)),oO (mk1 h7),oO (mk2 h7),oO (mk3 h7),oO (mk4 h7),oO (mk5 QaY h7),cY QaY l2 r.rests,hH (.relen 3 ((cpyL l2 r.rests).map QaY).length),hW 4,hH (.frz 3),rp 3 (oO (QEK QaY l2 r.rests)),rp 4 (oO (Eq.refl ((cpyL l2 r.rests).map QaY).length)),cC (Quo h8)]
  ·obtain ⟨x1,h9,h⟩:=Qad h
   obtain ⟨l3,h10,h⟩:=Qad h
   obtain ⟨e1,h14,h⟩:=Qad h
   refine gn 12 [4,12,65,66,67] [1,3] [nL Qaf.enc l1,bF h6,cE Qaf.enc h9,hH (.rows (l3.map Qaf.enc)),oO (sl1 h10),oO (sl2h Qaf.enc h10),rp 3 (oO (Int.le_refl ((l1.map Qaf.enc).length:Int))),oO (sl6h Qaf.enc h10),nL Qaf.enc l3] (QuR Γ rv h14 ?_)
   obtain ⟨x4,rfl⟩:∃ x,x=e1:=⟨_,rfl⟩
   replace h:(some (x4.sheet,0):Option (Qap×Int))=some _:=h
   obtain rfl:=Option.some.inj h
   exact gr 2 [] []
theorem QjG {kind own} {rv:Bool} (h:Qlx kind own=some rv):AFn Tryz.prog 132 [.one (lI kind),.one (lI own)] [] (one (.bool rv)) []:=by
 refine QaN Tryz.func132 (by kernel_rfl) (by kernel_rfl) (fun Γ=>?_)
 unfold Qlx at h
 obtain rfl:=Option.some.inj h
 exact gr 4 [] [rp 4 hP,rp 2 (oI ((neI kind (-1))=true)),oR True ((neI kind (-1))=true)]
def Qrc (Γ:Gam) (rv:QaF) (cf:Cf):Prop:=Go Tryz.prog Tryz.f83 [] Γ (gG [lI rv.cost,lI rv.moved,lI rv.other,lI rv.work]) [] cf
def Qnp (Γ:Gam) (rv:QaF) (x0:Qac) (r:Qag) (s0:Qap) (x1:Qak) (l:List (Int×Int)) (moved:Int) (other:Int) (v:Int):Prop:=Qrc Γ rv ⟨[.c 4084,.l 4084,.b 0,.c 511],⟨114,[vP 3 0 6,vP 4 1 4,vP 6 2 4,vP 10 3 4,(11,one (.mp 4)),vL 59 2 r.visits Qaa.enc,vI 60 (lenI r.visits),vI 61 v],[oX 6 30 (Qac.enc x0),oX 4 37 (Qag.enc r),oX 4 76 [lI 0,lI 0,lI 0,lI 0],oX 4 76 [lI (addK .i64 (addK .i64 x1.fixed (mulK .i64 x1.perMile s0.miles)) (mulK .i64 x1.perTick (subK .i64 s0.end_ x1.open_))),lI moved,lI other,lI (mulK .i64 (quoK .i64 (subK .i64 s0.end_ x1.open_) 64) (quoK .i64 (subK .i64 s0.end_ x1.open_) 64))],oM 182 l (mE lI lI)]⟩⟩
def QlL (Γ:Gam) (rv:QaF) (x0:Qac) (r:Qag) (s0:Qap) (x1:Qak) (moved2:Int) (other1:Int):Prop:=Qrc Γ rv ⟨[.c 511],⟨114,[vP 6 0 4,vP 10 1 4],[oX 4 76 [lI 0,lI 0,lI 0,lI 0],oX 4 76 [lI (addK .i64 (addK .i64 x1.fixed (mulK .i64 x1.perMile s0.miles)) (mulK .i64 x1.perTick (subK .i64 s0.end_ x1.open_))),lI moved2,lI other1,lI (mulK .i64 (quoK .i64 (subK .i64 s0.end_ x1.open_) 64) (quoK .i64 (subK .i64 s0.end_ x1.open_) 64))]]⟩⟩
theorem Qp4 (Γ:Gam) (rv:QaF) {x0 r s0 x1 l other v x2 x3 moved1} {x:(List (Int×Int)×Int×Int×Int)⊕(Int×Int)} (h:QjF x0 r s0 x1 l other v x2 x3 moved1=some x) (hI:∀ s:List (Int×Int)×Int×Int×Int,x=.inl s→Qnp Γ rv x0 r s0 x1 s.1 s.2.1 s.2.2.1 s.2.2.2) (hE:∀ e:Int×Int,x=.inr e→QlL Γ rv x0 r s0 x1 e.1 e.2):Qrc Γ rv ⟨[.c 2091423,.b 1,.c 32679,.l 4084,.b 0,.c 511],⟨114,[vP 3 0 6,vP 4 1 4,vP 6 2 4,vP 10 3 4,(11,one (.mp 4)),vP 14 5 16,vL 59 2 r.visits Qaa.enc,vI 60 (lenI r.visits),vI 61 v],[oX 6 30 (Qac.enc x0),oX 4 37 (Qag.enc r),oX 4 76 [lI 0,lI 0,lI 0,lI 0],oX 4 76 [lI (addK .i64 (addK .i64 x1.fixed (mulK .i64 x1.perMile s0.miles)) (mulK .i64 x1.perTick (subK .i64 s0.end_ x1.open_))),lI moved1,lI other,lI (mulK .i64 (quoK .i64 (subK .i64 s0.end_ x1.open_) 64) (quoK .i64 (subK .i64 s0.end_ x1.open_) 64))],oM 182 (mPut eqI l x2.order (addK .i64 (mGet eqI l x2.order 0) 1)) (mE lI lI),oX 16 124 (Qah.enc x3)]⟩⟩:=by
 unfold QjF at h
 obtain ⟨r2,h9,h⟩:=Qad h
 rcases Qai h with ⟨h10,h⟩|⟨h10,h⟩
 ·exact gn 7 [3,4,6,10,11,59,60,61] [0,1,2,3,4] [cC (QjG h9),bT h10] (hI _ (oJ h))
 ·exact gn 7 [3,4,6,10,11,59,60,61] [0,1,2,3,4] [cC (QjG h9),bF h10] (hI _ (oJ h))
theorem Qur (Γ:Gam) (rv:QaF) {x0 r s0 x1} {s:List (Int×Int)×Int×Int×Int} {e:Int×Int} (h:loopF (fun s=>Qer x0 r s0 x1 s.1 s.2.1 s.2.2.1 s.2.2.2) s=some e) (hD:QlL Γ rv x0 r s0 x1 e.1 e.2):Qnp Γ rv x0 r s0 x1 s.1 s.2.1 s.2.2.1 s.2.2.2:=by
 refine QaD (C:=fun (s:List (Int×Int)×Int×Int×Int)=>Qnp Γ rv x0 r s0 x1 s.1 s.2.1 s.2.2.1 s.2.2.2) (D:=fun (e:Int×Int)=>QlL Γ rv x0 r s0 x1 e.1 e.2) ?_ h hD
 clear h hD s e
 rintro ⟨l,moved,other,v⟩ z_ h hI hE
 replace h:Qer x0 r s0 x1 l moved other v=_:=h
 unfold Qer at h
 rcases Qai h with ⟨h2,h⟩|⟨h2,h⟩
 ·obtain ⟨x2,h3,h⟩:=Qad h
  rcases Qai h with ⟨h4,h⟩|⟨h4,h⟩
  ·exact gn 18 [3,4,6,10,11,59,60,61] [0,1,2,3,4] [bT h2,cE Qaa.enc h3,mG kqI lI l x2.order 0,mU kqI lI l x2.order (addK .i64 (mGet eqI l x2.order 0) 1),rp 5 hP,rp 3 (oI ((ltI x2.order 0)=false)),nL Qah.enc x0.orders,hP,hP,rp 2 (oI ((ltI x2.order 0)=false)),oR True ((ltI x2.order 0)=false),rp 6 (bT h4),tT] (hI _ (oJ h))
  ·rcases Qai h with ⟨h5,h⟩|⟨h5,h⟩
   ·exact gn 18 [3,4,6,10,11,59,60,61] [0,1,2,3,4] [bT h2,cE Qaa.enc h3,mG kqI lI l x2.order 0,mU kqI lI l x2.order (addK .i64 (mGet eqI l x2.order 0) 1),rp 5 hP,rp 3 (oI ((ltI x2.order 0)=false)),nL Qah.enc x0.orders,hP,hP,rp 2 (oI ((ltI x2.order 0)=false)),oR True ((ltI x2.order 0)=false),rp 4 (bF h4),mG kqI lI (mPut eqI l x2.order (addK .i64 (mGet eqI l x2.order 0) 1)) x2.order 0,bF h4,bF h4,bT h5] (hI _ (oJ h))
   ·obtain ⟨x3,h6,h⟩:=Qad h
    obtain ⟨r1,h7,h⟩:=Qad h
    rcases Qai h with ⟨h8,h⟩|⟨h8,h⟩
    ·exact gn 23 [3,4,6,10,11,14,59,60,61] [0,1,2,3,4,6] [bT h2,cE Qaa.enc h3,mG kqI lI l x2.order 0,mU kqI lI l x2.order (addK .i64 (mGet eqI l x2.order 0) 1),rp 5 hP,rp 3 (oI ((ltI x2.order 0)=false)),nL Qah.enc x0.orders,hP,hP,rp 2 (oI ((ltI x2.order 0)=false)),oR True ((ltI x2.order 0)=false),rp 4 (bF h4),mG kqI lI (mPut eqI l x2.order (addK .i64 (mGet eqI l x2.order 0) 1)) x2.order 0,bF h4,bF h4,bF h5,cE Qah.enc h6,cC (QjG h7),bT h8] (Qp4 Γ rv h hI hE)
    ·exact gn 23 [3,4,6,10,11,14,59,60,61] [0,1,2,3,4,6] [bT h2,cE Qaa.enc h3,mG kqI lI l x2.order 0,mU kqI lI l x2.order (addK .i64 (mGet eqI l x2.order 0) 1),rp 5 hP,rp 3 (oI ((ltI x2.order 0)=false)),nL Qah.enc x0.orders,hP,hP,rp 2 (oI ((ltI x2.order 0)=false)),oR True ((ltI x2.order 0)=false),rp 4 (bF h4),mG kqI lI (mPut eqI l x2.order (addK .i64 (mGet eqI l x2.order 0) 1)) x2.order 0,bF h4,bF h4,bF h5,cE Qah.enc h6,cC (QjG h7),bF h8] (Qp4 Γ rv h hI hE)
 ·exact gn 5 [6,10] [2,3] [bF h2] (hE _ (oJ h))
theorem QwH {x0 r s0} {rv:QaF} (h:Qpd x0 r s0=some rv):AFn Tryz.prog 83 [.agg (Qac.enc x0),.agg (Qag.enc r),.agg (Qap.enc s0)] [] (gG [lI rv.cost,lI rv.moved,lI rv.other,lI rv.work]) []:=by
 refine QaN Tryz.func83 (by kernel_rfl) (by kernel_rfl) (fun Γ=>?_)
 unfold Qpd at h
 rcases Qai h with ⟨h0,h⟩|⟨h0,h⟩
 ·obtain rfl:=Option.some.inj h
  exact gr 8 [] [rp 5 hP,rp 3 (oI ((ltI r.type_ 0)=false)),nL Qak.enc x0.types,hP,hP,rp 2 (oI ((ltI r.type_ 0)=false)),oR True ((ltI r.type_ 0)=false),bT h0]
 ·obtain ⟨x1,h1,h⟩:=Qad h
  obtain ⟨e0,h11,h⟩:=Qad h
  refine gn 22 [3,4,6,10,11,59,60,61] [0,1,3,5,6] [rp 5 hP,rp 3 (oI ((ltI r.type_ 0)=false)),nL Qak.enc x0.types,hP,hP,rp 2 (oI ((ltI r.type_ 0)=false)),oR True ((ltI r.type_ 0)=false),bF h0,cE Qak.enc h1,oO (oA (n:=64)),nL Qaa.enc r.visits] (Qur Γ rv h11 ?_)
  obtain ⟨moved2,other1⟩:=e0
  replace h:(some (QaF.mk (addK .i64 (addK .i64 x1.fixed (mulK .i64 x1.perMile s0.miles)) (mulK .i64 x1.perTick (subK .i64 s0.end_ x1.open_))) moved2 other1 (mulK .i64 (quoK .i64 (subK .i64 s0.end_ x1.open_) 64) (quoK .i64 (subK .i64 s0.end_ x1.open_) 64))):Option QaF)=some _:=h
  obtain rfl:=Option.some.inj h
  exact gr 2 [] []
theorem Qp5 {x0 r} {rv:Qap×QaF×Int} (h:QfZ x0 r=some rv):AFn Tryz.prog 46 [.agg (Qac.enc x0),.agg (Qag.enc r)] [] (.tup [.agg [.bool rv.1.rest_,lI rv.1.depart,lL 4 rv.1.times Qar.enc,lI rv.1.end_,lI rv.1.miles],.agg [lI rv.2.1.cost,lI rv.2.1.moved,lI rv.2.1.other,lI rv.2.1.work],.one (lI rv.2.2)]) []:=by
 refine QaN Tryz.func46 (by kernel_rfl) (by kernel_rfl) (fun Γ=>?_)
 unfold QfZ at h
 rcases Qai h with ⟨h0,h⟩|⟨h0,h⟩
 ·obtain rfl:=Option.some.inj h
  exact gr 8 [] [rp 5 hP,rp 3 (oI ((ltI r.type_ 0)=false)),nL Qak.enc x0.types,hP,hP,rp 2 (oI ((ltI r.type_ 0)=false)),oR True ((ltI r.type_ 0)=false),bT h0,hW 7,hH (.nilB 2 2 4)]
 ·obtain ⟨r1,h1,h⟩:=Qad h
  rcases Qai h with ⟨h2,h⟩|⟨h2,h⟩
  ·obtain rfl:=Option.some.inj h
   exact gr 28 [] [rp 5 hP,rp 3 (oI ((ltI r.type_ 0)=false)),nL Qak.enc x0.types,hP,hP,rp 2 (oI ((ltI r.type_ 0)=false)),oR True ((ltI r.type_ 0)=false),bF h0,nL e_fn [79,80,81],tT,oO (getLo (rfl:getI ([79,80,81]:List Nat) 0=some 79)),oO (getHi e_fn (rfl:getI ([79,80,81]:List Nat) 0=some 79)),rE e_fn (rfl:getI ([79,80,81]:List Nat) 0=some 79),cC (QdZ h1),bT h2,hW 8,hH (.nilB 2 2 4)]
  ·obtain ⟨r2,h3,h⟩:=Qad h
   rcases Qai h with ⟨h4,h⟩|⟨h4,h⟩
   ·obtain rfl:=Option.some.inj h
    exact gr 46 [] [rp 5 hP,rp 3 (oI ((ltI r.type_ 0)=false)),nL Qak.enc x0.types,hP,hP,rp 2 (oI ((ltI r.type_ 0)=false)),oR True ((ltI r.type_ 0)=false),bF h0,nL e_fn [79,80,81],tT,oO (getLo (rfl:getI ([79,80,81]:List Nat) 0=some 79)),oO (getHi e_fn (rfl:getI ([79,80,81]:List Nat) 0=some 79)),rE e_fn (rfl:getI ([79,80,81]:List Nat) 0=some 79),cC (QdZ h1),bF h2,tT,oO (getLo (rfl:getI ([79,80,81]:List Nat) 1=some 80)),oO (getHi e_fn (rfl:getI ([79,80,81]:List Nat) 1=some 80)),rE e_fn (rfl:getI ([79,80,81]:List Nat) 1=some 80),cC (Qoc h3),bT h4,hW 8,hH (.nilB 2 2 4)]
   ·obtain ⟨r3,h5,h⟩:=Qad h
    rcases Qai h with ⟨h6,h⟩|⟨h6,h⟩
    ·obtain rfl:=Option.some.inj h
     exact gr 64 [] [rp 5 hP,rp 3 (oI ((ltI r.type_ 0)=false)),nL Qak.enc x0.types,hP,hP,rp 2 (oI ((ltI r.type_ 0)=false)),oR True ((ltI r.type_ 0)=false),bF h0,nL e_fn [79,80,81],tT,oO (getLo (rfl:getI ([79,80,81]:List Nat) 0=some 79)),oO (getHi e_fn (rfl:getI ([79,80,81]:List Nat) 0=some 79)),rE e_fn (rfl:getI ([79,80,81]:List Nat) 0=some 79),cC (QdZ h1),bF h2,tT,oO (getLo (rfl:getI ([79,80,81]:List Nat) 1=some 80)),oO (getHi e_fn (rfl:getI ([79,80,81]:List Nat) 1=some 80)),rE e_fn (rfl:getI ([79,80,81]:List Nat) 1=some 80),cC (Qoc h3),bF h4,tT,oO (getLo (rfl:getI ([79,80,81]:List Nat) 2=some 81)),oO (getHi e_fn (rfl:getI ([79,80,81]:List Nat) 2=some 81)),rE e_fn (rfl:getI ([79,80,81]:List Nat) 2=some 81),cC (Qqw h5),bT h6,hW 8,hH (.nilB 2 2 4)]
    ·obtain ⟨r4,h7,h⟩:=Qad h
     rcases Qai h with ⟨h8,h⟩|⟨h8,h⟩
     ·obtain rfl:=Option.some.inj h
      exact gr 79 [] [rp 5 hP,rp 3 (oI ((ltI r.type_ 0)=false)),nL Qak.enc x0.types,hP,hP,rp 2 (oI ((ltI r.type_ 0)=false)),oR True ((ltI r.type_ 0)=false),bF h0,nL e_fn [79,80,81],tT,oO (getLo (rfl:getI ([79,80,81]:List Nat) 0=some 79)),oO (getHi e_fn (rfl:getI ([79,80,81]:List Nat) 0=some 79)),rE e_fn (rfl:getI ([79,80,81]:List Nat) 0=some 79),cC (QdZ h1),bF h2,tT,oO (getLo (rfl:getI ([79,80,81]:List Nat) 1=some 80)),oO (getHi e_fn (rfl:getI ([79,80,81]:List Nat) 1=some 80)),rE e_fn (rfl:getI ([79,80,81]:List Nat) 1=some 80),cC (Qoc h3),bF h4,tT,oO (getLo (rfl:getI ([79,80,81]:List Nat) 2=some 81)),oO (getHi e_fn (rfl:getI ([79,80,81]:List Nat) 2=some 81)),rE e_fn (rfl:getI ([79,80,81]:List Nat) 2=some 81),cC (Qqw h5),bF h6,fF,cC (Quc h7),bT h8,hW 8,hH (.nilB 2 2 4)]
     ·obtain ⟨r5,h9,h⟩:=Qad h
      obtain rfl:=Option.some.inj h
      exact gr 80 [] [rp 5 hP,rp 3 (oI ((ltI r.type_ 0)=false)),nL Qak.enc x0.types,hP,hP,rp 2 (oI ((ltI r.type_ 0)=false)),oR True ((ltI r.type_ 0)=false),bF h0,nL e_fn [79,80,81],tT,oO (getLo (rfl:getI ([79,80,81]:List Nat) 0=some 79)),oO (getHi e_fn (rfl:getI ([79,80,81]:List Nat) 0=some 79)),rE e_fn (rfl:getI ([79,80,81]:List Nat) 0=some 79),cC (QdZ h1),bF h2,tT,oO (getLo (rfl:getI ([79,80,81]:List Nat) 1=some 80)),oO (getHi e_fn (rfl:getI ([79,80,81]:List Nat) 1=some 80)),rE e_fn (rfl:getI ([79,80,81]:List Nat) 1=some 80),cC (Qoc h3),bF h4,tT,oO (getLo (rfl:getI ([79,80,81]:List Nat) 2=some 81)),oO (getHi e_fn (rfl:getI ([79,80,81]:List Nat) 2=some 81)),rE e_fn (rfl:getI ([79,80,81]:List Nat) 2=some 81),cC (Qqw h5),bF h6,fF,cC (Quc h7),bF h8,hH (.draw 5 []),cC (QwH h9)]
theorem Qif {s0} {rv:Qzr} (h:Qrz s0=some rv):AFn Tryz.prog 84 [.agg (QaF.enc s0)] [] (gG [lI rv.x0,lI rv.x1,lI rv.x2,lI rv.x3]) []:=by
 refine QaN Tryz.func84 (by kernel_rfl) (by kernel_rfl) (fun Γ=>?_)
 unfold Qrz at h
 obtain rfl:=Option.some.inj h
 exact gr 4 [] []
theorem QvK {s0} {rv:Int×Int} (h:Qnq s0=some rv):AFn Tryz.prog 47 [.agg (QaF.enc s0)] [] (.tup [.one (lI rv.1),.one (lI rv.2)]) []:=by
 refine QaN Tryz.func47 (by kernel_rfl) (by kernel_rfl) (fun Γ=>?_)
 unfold Qnq at h
 obtain ⟨r,h0,h⟩:=Qad h
 rcases Qai h with ⟨h1,h⟩|⟨h1,h⟩
 ·obtain rfl:=Option.some.inj h
  exact gr 23 [] [cC (Qif h0),tT,oO (zL 0),oO (lT 0 4),bT h1]
 ·rcases Qai h with ⟨h2,h⟩|⟨h2,h⟩
  ·obtain rfl:=Option.some.inj h
   exact gr 39 [] [cC (Qif h0),tT,oO (zL 0),oO (lT 0 4),bF h1,tT,oO (zL 1),oO (lT 1 4),bT h2]
  ·rcases Qai h with ⟨h3,h⟩|⟨h3,h⟩
   ·obtain rfl:=Option.some.inj h
    exact gr 55 [] [cC (Qif h0),tT,oO (zL 0),oO (lT 0 4),bF h1,tT,oO (zL 1),oO (lT 1 4),bF h2,tT,oO (zL 2),oO (lT 2 4),bT h3]
   ·rcases Qai h with ⟨h4,h⟩|⟨h4,h⟩
    ·obtain rfl:=Option.some.inj h
     exact gr 71 [] [cC (Qif h0),tT,oO (zL 0),oO (lT 0 4),bF h1,tT,oO (zL 1),oO (lT 1 4),bF h2,tT,oO (zL 2),oO (lT 2 4),bF h3,tT,oO (zL 3),oO (lT 3 4),bT h4]
    ·rcases Qai h with ⟨h5,h⟩|⟨h5,h⟩
     ·obtain rfl:=Option.some.inj h
      exact gr 84 [] [cC (Qif h0),tT,oO (zL 0),oO (lT 0 4),bF h1,tT,oO (zL 1),oO (lT 1 4),bF h2,tT,oO (zL 2),oO (lT 2 4),bF h3,tT,oO (zL 3),oO (lT 3 4),bF h4,fF,rp 12 hP,rp 2 (oI ((gtI s0.cost 1073741824)=false)),oR True ((gtI s0.cost 1073741824)=false),rp 2 (oI (((gtI s0.cost 1073741824)||(geI s0.moved 16))=false)),oR True (((gtI s0.cost 1073741824)||(geI s0.moved 16))=false),rp 2 (oI ((((gtI s0.cost 1073741824)||(geI s0.moved 16))||(geI s0.other 16))=false)),oR True ((((gtI s0.cost 1073741824)||(geI s0.moved 16))||(geI s0.other 16))=false),bT h5]
     ·obtain rfl:=Option.some.inj h
      exact gr 85 [] [cC (Qif h0),tT,oO (zL 0),oO (lT 0 4),bF h1,tT,oO (zL 1),oO (lT 1 4),bF h2,tT,oO (zL 2),oO (lT 2 4),bF h3,tT,oO (zL 3),oO (lT 3 4),bF h4,fF,rp 12 hP,rp 2 (oI ((gtI s0.cost 1073741824)=false)),oR True ((gtI s0.cost 1073741824)=false),rp 2 (oI (((gtI s0.cost 1073741824)||(geI s0.moved 16))=false)),oR True (((gtI s0.cost 1073741824)||(geI s0.moved 16))=false),rp 2 (oI ((((gtI s0.cost 1073741824)||(geI s0.moved 16))||(geI s0.other 16))=false)),oR True ((((gtI s0.cost 1073741824)||(geI s0.moved 16))||(geI s0.other 16))=false),bF h5]
theorem Qtc {x0 r} {rv:Int×Int} (h:Qhm x0 r=some rv):AFn Tryz.prog 19 [.agg (Qac.enc x0),.agg (Qag.enc r)] [] (.tup [.one (lI rv.1),.one (lI rv.2)]) []:=by
 refine QaN Tryz.func19 (by kernel_rfl) (by kernel_rfl) (fun Γ=>?_)
 unfold Qhm at h
 obtain ⟨r1,h0,h⟩:=Qad h
 rcases Qai h with ⟨h1,h⟩|⟨h1,h⟩
 ·obtain rfl:=Option.some.inj h
  exact gr 10 [] [cC (Qp5 h0),bT h1]
 ·obtain ⟨r2,h2,h⟩:=Qad h
  obtain rfl:=Option.some.inj h
  exact gr 11 [] [cC (Qp5 h0),bF h1,cC (QvK h2)]
theorem QmA {v} {rv:Int} (h:Qfr v=some rv):AFn Tryz.prog 149 [.agg (Qaa.enc v)] [] (one (lI rv)) []:=by
 refine QaN Tryz.func149 (by kernel_rfl) (by kernel_rfl) (fun Γ=>?_)
 unfold Qfr at h
 rcases Qai h with ⟨h0,h⟩|⟨h0,h⟩
 ·obtain rfl:=Option.some.inj h
  exact gr 8 [] [bT h0]
 ·obtain rfl:=Option.some.inj h
  exact gr 9 [] [bF h0]
def Qua (Γ:Gam) (rv:Int) (cf:Cf):Prop:=Go Tryz.prog Tryz.f150 [] Γ (one (lI rv)) [] cf
def Qqz (Γ:Gam) (rv:Int) (vals:List Int) (v:Int):Prop:=Qua Γ rv ⟨[.c 116,.l 116,.b 0,.c 15],⟨18,[vI 3 0,vL 6 1 vals e_i64,vI 7 (lenI vals),vI 8 v],[]⟩⟩
def QpQ (Γ:Gam) (rv:Int) (vals:List Int):Prop:=Qua Γ rv ⟨[.c 15],⟨18,[vI 3 0],[]⟩⟩
theorem Qun (Γ:Gam) (rv:Int) {vals} {s:Int} {e:(Unit)⊕(Int)} (h:loopF (fun s=>Qeo vals s) s=some e) (hD:sel e (fun e=>QpQ Γ rv vals) (fun e=>e=rv)):Qqz Γ rv vals s:=by
 refine QaD (C:=fun (s:Int)=>Qqz Γ rv vals s) (D:=fun (e:(Unit)⊕(Int))=>sel e (fun e=>QpQ Γ rv vals) (fun e=>e=rv)) ?_ h hD
 clear h hD s e
 intro v z_ h hI hE
 replace h:Qeo vals v=_:=h
 unfold Qeo at h
 rcases Qai h with ⟨h0,h⟩|⟨h0,h⟩
 ·obtain ⟨x0,h1,h⟩:=Qad h
  rcases Qai h with ⟨h2,h⟩|⟨h2,h⟩
  ·obtain rfl:=(hE _ (oJ h):_=rv)
   exact gr 14 [] [bT h0,cE e_i64 h1,bT h2]
  ·exact gn 16 [3,6,7,8] [] [bT h0,cE e_i64 h1,bF h2] (hI _ (oJ h))
 ·exact gn 5 [3] [] [bF h0] (hE _ (oJ h))
theorem Qwn {vals} {rv:Int} (h:QoI vals=some rv):AFn Tryz.prog 150 [.one (lL 1 vals e_i64)] [] (one (lI rv)) []:=by
 refine QaN Tryz.func150 (by kernel_rfl) (by kernel_rfl) (fun Γ=>?_)
 unfold QoI at h
 obtain ⟨e0,h3,h⟩:=Qad h
 refine gn 9 [3,6,7,8] [] [nL e_i64 vals] (Qun Γ rv h3 ?_)
 rcases e0 with e0|e0
 ·replace h:(some 0:Option Int)=some _:=h
  obtain rfl:=Option.some.inj h
  exact gr 2 [] []
 ·obtain ⟨r,rfl⟩:∃ x,x=e0:=⟨_,rfl⟩
  replace h:(some r:Option Int)=some _:=h
  exact Option.some.inj h
theorem Qb9 {x0} {rv:Bool} (h:Qjg x0=some rv):AFn Tryz.prog 189 [.one (lI x0)] [] (one (.bool rv)) []:=by
 refine QaN Tryz.func189 (by kernel_rfl) (by kernel_rfl) (fun Γ=>?_)
 unfold Qjg at h
 obtain rfl:=Option.some.inj h
 exact gr 4 [] []
theorem QnN {x0 y} {rv:Int} (h:Qgi x0 y=some rv):AFn Tryz.prog 151 [.one (lI x0),.one (lI y)] [] (one (lI rv)) []:=by
 refine QaN Tryz.func151 (by kernel_rfl) (by kernel_rfl) (fun Γ=>?_)
 unfold Qgi at h
 obtain ⟨r,h0,h⟩:=Qad h
 obtain ⟨r1,h1,h⟩:=Qad h
 rcases Qai h with ⟨h2,h⟩|⟨h2,h⟩
 ·rcases Qai h with ⟨h3,h⟩|⟨h3,h⟩
  ·obtain rfl:=Option.some.inj h
   exact gr 16 [] [cC (Qb9 h0),cC (Qb9 h1),bT h2,bT h3]
  ·obtain rfl:=Option.some.inj h
   exact gr 17 [] [cC (Qb9 h0),cC (Qb9 h1),bT h2,bF h3]
 ·rcases Qai h with ⟨h4,h⟩|⟨h4,h⟩
  ·obtain rfl:=Option.some.inj h
   exact gr 17 [] [cC (Qb9 h0),cC (Qb9 h1),bF h2,bT h4]
  ·rcases Qai h with ⟨h5,h⟩|⟨h5,h⟩
   ·obtain rfl:=Option.some.inj h
    exact gr 22 [] [cC (Qb9 h0),cC (Qb9 h1),bF h2,bF h4,bT h5]
   ·rcases Qai h with ⟨h6,h⟩|⟨h6,h⟩
    ·obtain rfl:=Option.some.inj h
     exact gr 27 [] [cC (Qb9 h0),cC (Qb9 h1),bF h2,bF h4,bF h5,bT h6]
    ·obtain rfl:=Option.some.inj h
     exact gr 28 [] [cC (Qb9 h0),cC (Qb9 h1),bF h2,bF h4,bF h5,bF h6]
theorem Qos {a b} {rv:Int} (h:QhY a b=some rv):AFn Tryz.prog 104 [.agg (Qaa.enc a),.agg (Qaa.enc b)] [] (one (lI rv)) []:=by
 refine QaN Tryz.func104 (by kernel_rfl) (by kernel_rfl) (fun Γ=>?_)
 unfold QhY at h
 obtain ⟨r,h0,h⟩:=Qad h
 obtain ⟨r1,h1,h⟩:=Qad h
 obtain ⟨r2,h2,h⟩:=Qad h
 obtain ⟨r3,h3,h⟩:=Qad h
 obtain ⟨r4,h4,h⟩:=Qad h
 obtain rfl:=Option.some.inj h
 exact gr 6 [] [hH (.draw 15 []),cC (QnN h0),cC (QmA h1),cC (QmA h2),cC (QnN h3),oO (Eq.refl ([r,r3].map e_i64).length),cC (Qwn h4)]
def QbA (Γ:Gam) (rv:Int) (cf:Cf):Prop:=Go Tryz.prog Tryz.f103 [] Γ (one (lI rv)) [] cf
def Qbv (Γ:Gam) (rv:Int) (s1:List Qaa) (s2:List Qaa) (v:Int):Prop:=QbA Γ rv ⟨[.c 52,.l 52,.b 0,.c 7],⟨39,[vL 0 2 s1 Qaa.enc,vL 1 2 s2 Qaa.enc,(2,one (.fn (.func 104) [])),vL 11 2 s1 Qaa.enc,vI 12 (lenI s1),vI 13 v],[]⟩⟩
def Qbr (Γ:Gam) (rv:Int) (s1:List Qaa) (s2:List Qaa):Prop:=QbA Γ rv ⟨[.c 7],⟨39,[vL 0 2 s1 Qaa.enc,vL 1 2 s2 Qaa.enc],[]⟩⟩
theorem QcM (Γ:Gam) (rv:Int) {s1 s2} {s:Int} {e:(Unit)⊕(Int)} (h:loopF (fun s=>Qat s1 s2 s) s=some e) (hD:sel e (fun e=>Qbr Γ rv s1 s2) (fun e=>e=rv)):Qbv Γ rv s1 s2 s:=by
 refine QaD (C:=fun (s:Int)=>Qbv Γ rv s1 s2 s) (D:=fun (e:(Unit)⊕(Int))=>sel e (fun e=>Qbr Γ rv s1 s2) (fun e=>e=rv)) ?_ h hD
 clear h hD s e
 intro v z_ h hI hE
 replace h:Qat s1 s2 v=_:=h
 unfold Qat at h
 rcases Qai h with ⟨h0,h⟩|⟨h0,h⟩
 ·obtain ⟨x0,h1,h⟩:=Qad h
  rcases Qai h with ⟨h2,h⟩|⟨h2,h⟩
  ·obtain rfl:=(hE _ (oJ h):_=rv)
   exact gr 15 [] [bT h0,cE Qaa.enc h1,nL Qaa.enc s2,bT h2]
  ·obtain ⟨x1,h3,h⟩:=Qad h
   obtain ⟨r,h4,h⟩:=Qad h
   rcases Qai h with ⟨h5,h⟩|⟨h5,h⟩
   ·obtain rfl:=(hE _ (oJ h):_=rv)
    exact gr 23 [] [bT h0,cE Qaa.enc h1,nL Qaa.enc s2,bF h2,cE Qaa.enc h3,cC (Qos h4),bT h5]
   ·exact gn 25 [0,1,2,11,12,13] [] [bT h0,cE Qaa.enc h1,nL Qaa.enc s2,bF h2,cE Qaa.enc h3,cC (Qos h4),bF h5] (hI _ (oJ h))
 ·exact gn 5 [0,1] [] [bF h0] (hE _ (oJ h))
theorem Qdb {s1 s2} {rv:Int} (h:QaV s1 s2=some rv):AFn Tryz.prog 103 [.one (lL 2 s1 Qaa.enc),.one (lL 2 s2 Qaa.enc),.one (.fn (.func 104) [])] [] (one (lI rv)) []:=by
 refine QaN Tryz.func103 (by kernel_rfl) (by kernel_rfl) (fun Γ=>?_)
 unfold QaV at h
 obtain ⟨e0,h6,h⟩:=Qad h
 refine gn 7 [0,1,2,11,12,13] [] [nL Qaa.enc s1] (QcM Γ rv h6 ?_)
 rcases e0 with e0|e0
 ·replace h:(br (ltI (lenI s1) (lenI s2)) (some (-1)) (some 0):Option Int)=some _:=h
  rcases Qai h with ⟨h7,h⟩|⟨h7,h⟩
  ·obtain rfl:=Option.some.inj h
   exact gr 6 [] [nL Qaa.enc s1,nL Qaa.enc s2,bT h7]
  ·obtain rfl:=Option.some.inj h
   exact gr 7 [] [nL Qaa.enc s1,nL Qaa.enc s2,bF h7]
 ·obtain ⟨r1,rfl⟩:∃ x,x=e0:=⟨_,rfl⟩
  replace h:(some r1:Option Int)=some _:=h
  exact Option.some.inj h
theorem Qvo {a b} {rv:Bool} (h:Qlz a b=some rv):AFn Tryz.prog 67 [.one (lL 2 a Qaa.enc),.one (lL 2 b Qaa.enc)] [] (one (.bool rv)) []:=by
 refine QaN Tryz.func67 (by kernel_rfl) (by kernel_rfl) (fun Γ=>?_)
 unfold Qlz at h
 obtain ⟨r,h0,h⟩:=Qad h
 obtain rfl:=Option.some.inj h
 exact gr 4 [] [cC (Qdb h0)]
theorem QaB {a b} {rv:Bool} (h:QdQ a b=some rv):AFn Tryz.prog 34 [.agg (Qae.enc a),.agg (Qae.enc b)] [] (one (.bool rv)) []:=by
 refine QaN Tryz.func34 (by kernel_rfl) (by kernel_rfl) (fun Γ=>?_)
 unfold QdQ at h
 rcases Qai h with ⟨h0,h⟩|⟨h0,h⟩
 ·obtain rfl:=Option.some.inj h
  exact gr 8 [] [bT h0]
 ·obtain ⟨r,h1,h⟩:=Qad h
  obtain rfl:=Option.some.inj h
  exact gr 9 [] [bF h0,cC (Qvo h1)]
def QgA (Γ:Gam) (rv:Bool) (cf:Cf):Prop:=Go Tryz.prog Tryz.f133 [] Γ (one (.bool rv)) [] cf
def Qot (Γ:Gam) (rv:Bool) (x0:Qac) (l:List Qaa) (v:Qaa) (r1:List Qaa) (v1:Int):Prop:=QgA Γ rv ⟨[.c 116,.l 116,.b 0,.c 15],⟨63,[vL 1 2 l Qaa.enc,vP 3 0 6,vP 5 1 2,vL 21 2 r1 Qaa.enc,vI 22 (lenI r1),vI 23 v1],[oX 6 30 (Qac.enc x0),oX 2 54 (Qaa.enc v)]⟩⟩
def Qny (Γ:Gam) (rv:Bool) (x0:Qac) (l:List Qaa) (v:Qaa) (r1:List Qaa):Prop:=QgA Γ rv ⟨[.c 15],⟨63,[vL 1 2 l Qaa.enc,vP 3 0 6,vP 5 1 2],[oX 6 30 (Qac.enc x0),oX 2 54 (Qaa.enc v)]⟩⟩
def Qov (Γ:Gam) (rv:Bool) (x0:Qac) (l:List Qaa) (v:Qaa) (v2:Int) (r3:List Qaa) (v3:Int):Prop:=QgA Γ rv ⟨[.c 125340,.l 125340,.b 4,.b 3,.c 1959,.l 244,.b 2,.c 31],⟨63,[vL 1 2 l Qaa.enc,vP 3 0 6,vP 5 1 2,vL 36 2 x0.before QaC.enc,vI 37 (lenI x0.before),vI 38 v2,vL 51 2 r3 Qaa.enc,vI 52 (lenI r3),vI 53 v3],[oX 6 30 (Qac.enc x0),oX 2 54 (Qaa.enc v)]⟩⟩
def QnA (Γ:Gam) (rv:Bool) (x0:Qac) (l:List Qaa) (v:Qaa) (v2:Int) (r3:List Qaa):Prop:=QgA Γ rv ⟨[.b 3,.c 1959,.l 244,.b 2,.c 31],⟨63,[vL 1 2 l Qaa.enc,vP 3 0 6,vP 5 1 2,vL 36 2 x0.before QaC.enc,vI 37 (lenI x0.before),vI 38 v2],[oX 6 30 (Qac.enc x0),oX 2 54 (Qaa.enc v)]⟩⟩
def Qou (Γ:Gam) (rv:Bool) (x0:Qac) (l:List Qaa) (v:Qaa) (v2:Int):Prop:=QgA Γ rv ⟨[.c 244,.l 244,.b 2,.c 31],⟨63,[vL 1 2 l Qaa.enc,vP 3 0 6,vP 5 1 2,vL 36 2 x0.before QaC.enc,vI 37 (lenI x0.before),vI 38 v2],[oX 6 30 (Qac.enc x0),oX 2 54 (Qaa.enc v)]⟩⟩
def Qnz (Γ:Gam) (rv:Bool) (x0:Qac) (l:List Qaa) (v:Qaa):Prop:=QgA Γ rv ⟨[.c 31],⟨63,[],[]⟩⟩
theorem QsB (Γ:Gam) (rv:Bool) {x0 l v r1} {s:Int} {e:(Unit)⊕(Bool)} (h:loopF (fun s=>Qc0 x0 l v r1 s) s=some e) (hD:sel e (fun e=>Qny Γ rv x0 l v r1) (fun e=>e=rv)):Qot Γ rv x0 l v r1 s:=by
 refine QaD (C:=fun (s:Int)=>Qot Γ rv x0 l v r1 s) (D:=fun (e:(Unit)⊕(Bool))=>sel e (fun e=>Qny Γ rv x0 l v r1) (fun e=>e=rv)) ?_ h hD
 clear h hD s e
 intro v1 z_ h hI hE
 replace h:Qc0 x0 l v r1 v1=_:=h
 unfold Qc0 at h
 rcases Qai h with ⟨h3,h⟩|⟨h3,h⟩
 ·obtain ⟨x1,h4,h⟩:=Qad h
  rcases Qai h with ⟨h5,h⟩|⟨h5,h⟩
  ·exact gn 14 [1,3,5] [0,1] [bT h3,cE Qaa.enc h4,bT h5] (hE _ (oJ h))
  ·obtain ⟨r2,h6,h⟩:=Qad h
   rcases Qai h with ⟨h7,h⟩|⟨h7,h⟩
   ·obtain rfl:=(hE _ (oJ h):_=rv)
    exact gr 19 [] [bT h3,cE Qaa.enc h4,bF h5,cC (QcZ h6),bT h7]
   ·exact gn 21 [1,3,5,21,22,23] [0,1] [bT h3,cE Qaa.enc h4,bF h5,cC (QcZ h6),bF h7] (hI _ (oJ h))
 ·exact gn 5 [1,3,5] [0,1] [bF h3] (hE _ (oJ h))
theorem QsD (Γ:Gam) (rv:Bool) {x0 l v v2 r3} {s:Int} {e:(Unit)⊕(Bool)} (h:loopF (fun s=>Qds x0 l v v2 r3 s) s=some e) (hD:sel e (fun e=>QnA Γ rv x0 l v v2 r3) (fun e=>e=rv)):Qov Γ rv x0 l v v2 r3 s:=by
 refine QaD (C:=fun (s:Int)=>Qov Γ rv x0 l v v2 r3 s) (D:=fun (e:(Unit)⊕(Bool))=>sel e (fun e=>QnA Γ rv x0 l v v2 r3) (fun e=>e=rv)) ?_ h hD
 clear h hD s e
 intro v3 z_ h hI hE
 replace h:Qds x0 l v v2 r3 v3=_:=h
 unfold Qds at h
 rcases Qai h with ⟨h13,h⟩|⟨h13,h⟩
 ·obtain ⟨x3,h14,h⟩:=Qad h
  obtain ⟨r4,h15,h⟩:=Qad h
  rcases Qai h with ⟨h16,h⟩|⟨h16,h⟩
  ·obtain rfl:=(hE _ (oJ h):_=rv)
   exact gr 14 [] [bT h13,cE Qaa.enc h14,cC (QcZ h15),bT h16]
  ·exact gn 16 [1,3,5,36,37,38,51,52,53] [0,1] [bT h13,cE Qaa.enc h14,cC (QcZ h15),bF h16] (hI _ (oJ h))
 ·exact gn 5 [1,3,5,36,37,38] [0,1] [bF h13] (hE _ (oJ h))
theorem QsC (Γ:Gam) (rv:Bool) {x0 l v} {s:Int} {e:(Unit)⊕(Bool)} (h:loopF (fun s=>Qc1 x0 l v s) s=some e) (hD:sel e (fun e=>Qnz Γ rv x0 l v) (fun e=>e=rv)):Qou Γ rv x0 l v s:=by
 refine QaD (C:=fun (s:Int)=>Qou Γ rv x0 l v s) (D:=fun (e:(Unit)⊕(Bool))=>sel e (fun e=>Qnz Γ rv x0 l v) (fun e=>e=rv)) ?_ h hD
 clear h hD s e
 intro v2 z_ h hI hE
 replace h:Qc1 x0 l v v2=_:=h
 unfold Qc1 at h
 rcases Qai h with ⟨h9,h⟩|⟨h9,h⟩
 ·obtain ⟨x2,h10,h⟩:=Qad h
  rcases Qai h with ⟨h11,h⟩|⟨h11,h⟩
  ·exact gn 16 [1,3,5,36,37,38] [0,1] [bT h9,cE QaC.enc h10,oO (zL 1),oO (lT 1 2),bT h11] (hI _ (oJ h))
  ·obtain ⟨r3,h12,h⟩:=Qad h
   obtain ⟨e1,h17,h⟩:=Qad h
   refine gn 18 [1,3,5,36,37,38,51,52,53] [0,1] [bT h9,cE QaC.enc h10,oO (zL 1),oO (lT 1 2),bF h11,oO (zL 0),oO (lT 0 2),cC (Qhl h12),nL Qaa.enc r3] (QsD Γ rv h17 ?_)
   rcases e1 with e1|e1
   ·replace h:(some (.inl (addK .i64 v2 1)):Option ((Int)⊕((Unit)⊕(Bool))))=some _:=h
    exact gn 3 [1,3,5,36,37,38] [0,1] [] (hI _ (oJ h))
   ·obtain ⟨r5,rfl⟩:∃ x,x=e1:=⟨_,rfl⟩
    replace h:(some (.inr (.inr r5)):Option ((Int)⊕((Unit)⊕(Bool))))=some _:=h
    exact (hE _ (oJ h):_=rv)
 ·exact gn 5 [] [] [bF h9] (hE _ (oJ h))
theorem Qqb {x0 l v} {rv:Bool} (h:QjK x0 l v=some rv):AFn Tryz.prog 133 [.agg (Qac.enc x0),.one (lL 2 l Qaa.enc),.agg (Qaa.enc v)] [] (one (.bool rv)) []:=by
 refine QaN Tryz.func133 (by kernel_rfl) (by kernel_rfl) (fun Γ=>?_)
 unfold QjK at h
 obtain ⟨r,h0,h⟩:=Qad h
 rcases Qai h with ⟨h1,h⟩|⟨h1,h⟩
 ·obtain rfl:=Option.some.inj h
  exact gr 8 [] [cC (QcZ h0),bT h1]
 ·obtain ⟨r1,h2,h⟩:=Qad h
  obtain ⟨e0,h8,h⟩:=Qad h
  refine gn 12 [1,3,5,21,22,23] [0,1] [cC (QcZ h0),bF h1,cC (Qhl h2),nL Qaa.enc r1] (QsB Γ rv h8 ?_)
  rcases e0 with e0|e0
  ·replace h:(bnd (loopF (fun s=>Qc1 x0 l v s) 0) (fun e=>sel e (fun (_:Unit)=>some true) (fun r6=>some r6)):Option Bool)=some _:=h
   obtain ⟨e2,h18,h⟩:=Qad h
   refine gn 5 [1,3,5,36,37,38] [0,1] [nL QaC.enc x0.before] (QsC Γ rv h18 ?_)
   rcases e2 with e2|e2
   ·replace h:(some true:Option Bool)=some _:=h
    obtain rfl:=Option.some.inj h
    exact gr 2 [] []
   ·obtain ⟨r6,rfl⟩:∃ x,x=e2:=⟨_,rfl⟩
    replace h:(some r6:Option Bool)=some _:=h
    exact Option.some.inj h
  ·obtain ⟨r7,rfl⟩:∃ x,x=e0:=⟨_,rfl⟩
   replace h:(some r7:Option Bool)=some _:=h
   exact Option.some.inj h
def Qkv (Γ:Gam) (rv:List Qaa) (cf:Cf):Prop:=Go Tryz.prog Tryz.f85 [] Γ (one (lL 2 rv Qaa.enc)) [] cf
def Qpn (Γ:Gam) (rv:List Qaa) (x0:Qac) (set_:Int) (l:List Qaa) (v:Int) (r:List Qaa) (l2:List Qaa) (v1:Int):Prop:=Qkv Γ rv ⟨[.c 59804,.l 59804,.b 2,.b 1,.c 935,.l 116,.b 0,.c 15],⟨53,[vI 1 set_,vL 2 2 l Qaa.enc,vP 3 0 6,vO 7 1 2 l2 Qaa.enc,vL 13 16 x0.orders Qah.enc,vI 14 (lenI x0.orders),vI 15 v,vL 36 2 r Qaa.enc,vI 37 (lenI r),vI 38 v1],[oX 6 30 (Qac.enc x0),oS 2 54 l2 Qaa.enc]⟩⟩
def Qoq (Γ:Gam) (rv:List Qaa) (x0:Qac) (set_:Int) (l:List Qaa) (v:Int) (r:List Qaa) (l3:List Qaa):Prop:=Qkv Γ rv ⟨[.b 1,.c 935,.l 116,.b 0,.c 15],⟨53,[vI 1 set_,vL 2 2 l Qaa.enc,vP 3 0 6,vO 7 1 2 l3 Qaa.enc,vL 13 16 x0.orders Qah.enc,vI 14 (lenI x0.orders),vI 15 v],[oX 6 30 (Qac.enc x0),oS 2 54 l3 Qaa.enc]⟩⟩
def Qpm (Γ:Gam) (rv:List Qaa) (x0:Qac) (set_:Int) (l:List Qaa) (l1:List Qaa) (v:Int):Prop:=Qkv Γ rv ⟨[.c 116,.l 116,.b 0,.c 15],⟨53,[vI 1 set_,vL 2 2 l Qaa.enc,vP 3 0 6,vO 7 1 2 l1 Qaa.enc,vL 13 16 x0.orders Qah.enc,vI 14 (lenI x0.orders),vI 15 v],[oX 6 30 (Qac.enc x0),oS 2 54 l1 Qaa.enc]⟩⟩
def Qop (Γ:Gam) (rv:List Qaa) (x0:Qac) (set_:Int) (l:List Qaa) (l4:List Qaa):Prop:=Qkv Γ rv ⟨[.c 15],⟨53,[vO 7 0 2 l4 Qaa.enc],[oS 2 54 l4 Qaa.enc]⟩⟩
theorem Qtl (Γ:Gam) (rv:List Qaa) {x0 set_ l v r} {s:List Qaa×Int} {e:List Qaa} (h:loopF (fun s=>QdN x0 set_ l v r s.1 s.2) s=some e) (hD:Qoq Γ rv x0 set_ l v r e):Qpn Γ rv x0 set_ l v r s.1 s.2:=by
 refine QaD (C:=fun (s:List Qaa×Int)=>Qpn Γ rv x0 set_ l v r s.1 s.2) (D:=fun (e:List Qaa)=>Qoq Γ rv x0 set_ l v r e) ?_ h hD
 clear h hD s e
 rintro ⟨l2,v1⟩ z_ h hI hE
 replace h:QdN x0 set_ l v r l2 v1=_:=h
 unfold QdN at h
 rcases Qai h with ⟨h6,h⟩|⟨h6,h⟩
 ·obtain ⟨x2,h7,h⟩:=Qad h
  obtain ⟨r1,h8,h⟩:=Qad h
  rcases Qai h with ⟨h9,h⟩|⟨h9,h⟩
  ·obtain ⟨h10,h⟩:=Qaw h
   exact gn 16 [1,2,3,7,13,14,15,36,37,38] [0,4] [bT h6,cE Qaa.enc h7,cC (Qqb h8),bT h9,oO (Eq.refl ([x2].map Qaa.enc).length),aO Qaa.enc h10] (hI _ (oJ h))
  ·exact gn 16 [1,2,3,7,13,14,15,36,37,38] [0,1] [bT h6,cE Qaa.enc h7,cC (Qqb h8),bF h9] (hI _ (oJ h))
 ·exact gn 5 [1,2,3,7,13,14,15] [0,1] [bF h6] (hE _ (oJ h))
theorem Qtk (Γ:Gam) (rv:List Qaa) {x0 set_ l} {s:List Qaa×Int} {e:List Qaa} (h:loopF (fun s=>Qdp x0 set_ l s.1 s.2) s=some e) (hD:Qop Γ rv x0 set_ l e):Qpm Γ rv x0 set_ l s.1 s.2:=by
 refine QaD (C:=fun (s:List Qaa×Int)=>Qpm Γ rv x0 set_ l s.1 s.2) (D:=fun (e:List Qaa)=>Qop Γ rv x0 set_ l e) ?_ h hD
 clear h hD s e
 rintro ⟨l1,v⟩ z_ h hI hE
 replace h:Qdp x0 set_ l l1 v=_:=h
 unfold Qdp at h
 rcases Qai h with ⟨h0,h⟩|⟨h0,h⟩
 ·obtain ⟨x1,h1,h⟩:=Qad h
  rcases Qai h with ⟨h2,h⟩|⟨h2,h⟩
  ·exact gn 16 [1,2,3,7,13,14,15] [0,1] [bT h0,cE Qah.enc h1,rp 6 (bT h2),rp 4 tT] (hI _ (oJ h))
  ·obtain ⟨h3,h⟩:=Qaw h
   rcases Qai h with ⟨h4,h⟩|⟨h4,h⟩
   ·exact gn 16 [1,2,3,7,13,14,15] [0,1] [bT h0,cE Qah.enc h1,rp 3 (bF h2),oO (h3),rp 3 (bF h2),hP,hP,hP,oI ((eqI (andK .i64 (shrK .i64 set_ v) 1) 0)=false),oR True ((eqI (andK .i64 (shrK .i64 set_ v) 1) 0)=false),bT h4] (hI _ (oJ h))
   ·obtain ⟨r,h5,h⟩:=Qad h
    obtain ⟨e0,h11,h⟩:=Qad h
    refine gn 18 [1,2,3,7,13,14,15,36,37,38] [0,1] [bT h0,cE Qah.enc h1,rp 3 (bF h2),oO (h3),rp 3 (bF h2),hP,hP,hP,oI ((eqI (andK .i64 (shrK .i64 set_ v) 1) 0)=false),oR True ((eqI (andK .i64 (shrK .i64 set_ v) 1) 0)=false),bF h4,cC (Qhl h5),nL Qaa.enc r] (Qtl Γ rv h11 ?_)
    obtain ⟨l3,rfl⟩:∃ x,x=e0:=⟨_,rfl⟩
    replace h:(some (.inl (l3,(addK .i64 v 1))):Option ((List Qaa×Int)⊕(List Qaa)))=some _:=h
    exact gn 3 [1,2,3,7,13,14,15] [0,1] [] (hI _ (oJ h))
 ·exact gn 5 [7] [1] [bF h0] (hE _ (oJ h))
theorem Qvp {x0 set_ l} {rv:List Qaa} (h:QlA x0 set_ l=some rv):AFn Tryz.prog 85 [.agg (Qac.enc x0),.one (lI set_),.one (lL 2 l Qaa.enc)] [] (one (lL 2 rv Qaa.enc)) []:=by
 refine QaN Tryz.func85 (by kernel_rfl) (by kernel_rfl) (fun Γ=>?_)
 unfold QlA at h
 obtain ⟨e1,h12,h⟩:=Qad h
 refine gn 9 [1,2,3,7,13,14,15] [0,1] [nL Qah.enc x0.orders,hW 3,hH (.adopt 7 2 54)] (Qtk Γ rv h12 ?_)
 obtain ⟨l4,rfl⟩:∃ x,x=e1:=⟨_,rfl⟩
 replace h:(some l4:Option (List Qaa))=some _:=h
 obtain rfl:=Option.some.inj h
 exact gr 2 [] [hW 4,hH (.frz 0),rp 3 (eL l4 Qaa.enc)]
def Qfc (Γ:Gam) (rv:Bool) (cf:Cf):Prop:=Go Tryz.prog Tryz.f102 [] Γ (one (.bool rv)) [] cf
def QeB (Γ:Gam) (rv:Bool) (s1:List Qaa) (s2:List Qaa) (v:Int):Prop:=Qfc Γ rv ⟨[.c 116,.l 116,.b 0,.c 15],⟨26,[vL 0 2 s1 Qaa.enc,vL 1 2 s2 Qaa.enc,vI 12 (lenI s1),vI 13 v],[]⟩⟩
def Qek (Γ:Gam) (rv:Bool) (s1:List Qaa) (s2:List Qaa):Prop:=Qfc Γ rv ⟨[.c 15],⟨26,[],[]⟩⟩
theorem QhD (Γ:Gam) (rv:Bool) {s1 s2} {s:Int} {e:(Unit)⊕(Bool)} (h:loopF (fun s=>QaT s1 s2 s) s=some e) (hD:sel e (fun e=>Qek Γ rv s1 s2) (fun e=>e=rv)):QeB Γ rv s1 s2 s:=by
 refine QaD (C:=fun (s:Int)=>QeB Γ rv s1 s2 s) (D:=fun (e:(Unit)⊕(Bool))=>sel e (fun e=>Qek Γ rv s1 s2) (fun e=>e=rv)) ?_ h hD
 clear h hD s e
 intro v z_ h hI hE
 replace h:QaT s1 s2 v=_:=h
 unfold QaT at h
 rcases Qai h with ⟨h1,h⟩|⟨h1,h⟩
 ·obtain ⟨x0,h2,h⟩:=Qad h
  obtain ⟨x1,h3,h⟩:=Qad h
  rcases Qai h with ⟨h4,h⟩|⟨h4,h⟩
  ·exact gn 16 [0,1,12,13] [] [bT h1,hH (.draw 9 []),cE Qaa.enc h2,cE Qaa.enc h3,nF h4] (hI _ (oJ h))
  ·obtain rfl:=(hE _ (oJ h):_=rv)
   exact gr 14 [] [bT h1,hH (.draw 9 []),cE Qaa.enc h2,cE Qaa.enc h3,nT h4]
 ·exact gn 5 [] [] [bF h1] (hE _ (oJ h))
theorem Qiq {s1 s2} {rv:Bool} (h:Qbd s1 s2=some rv):AFn Tryz.prog 102 [.one (lL 2 s1 Qaa.enc),.one (lL 2 s2 Qaa.enc)] [] (one (.bool rv)) []:=by
 refine QaN Tryz.func102 (by kernel_rfl) (by kernel_rfl) (fun Γ=>?_)
 unfold Qbd at h
 rcases Qai h with ⟨h0,h⟩|⟨h0,h⟩
 ·obtain rfl:=Option.some.inj h
  exact gr 8 [] [nL Qaa.enc s1,nL Qaa.enc s2,bT h0]
 ·obtain ⟨e0,h5,h⟩:=Qad h
  refine gn 12 [0,1,12,13] [] [nL Qaa.enc s1,nL Qaa.enc s2,bF h0,nL Qaa.enc s1] (QhD Γ rv h5 ?_)
  rcases e0 with e0|e0
  ·replace h:(some true:Option Bool)=some _:=h
   obtain rfl:=Option.some.inj h
   exact gr 2 [] []
  ·obtain ⟨r,rfl⟩:∃ x,x=e0:=⟨_,rfl⟩
   replace h:(some r:Option Bool)=some _:=h
   exact Option.some.inj h
def Qik (Γ:Gam) (rv:Bool) (cf:Cf):Prop:=Go Tryz.prog Tryz.f65 [] Γ (one (.bool rv)) [] cf
def Qg9 (Γ:Gam) (rv:Bool) (s1:List Bool) (s2:List Bool) (v:Int):Prop:=Qik Γ rv ⟨[.c 116,.l 116,.b 0,.c 15],⟨26,[vL 0 1 s1 QaY,vL 1 1 s2 QaY,vI 12 (lenI s1),vI 13 v],[]⟩⟩
def QgG (Γ:Gam) (rv:Bool) (s1:List Bool) (s2:List Bool):Prop:=Qik Γ rv ⟨[.c 15],⟨26,[],[]⟩⟩
theorem QlB (Γ:Gam) (rv:Bool) {s1 s2} {s:Int} {e:(Unit)⊕(Bool)} (h:loopF (fun s=>Qbh s1 s2 s) s=some e) (hD:sel e (fun e=>QgG Γ rv s1 s2) (fun e=>e=rv)):Qg9 Γ rv s1 s2 s:=by
 refine QaD (C:=fun (s:Int)=>Qg9 Γ rv s1 s2 s) (D:=fun (e:(Unit)⊕(Bool))=>sel e (fun e=>QgG Γ rv s1 s2) (fun e=>e=rv)) ?_ h hD
 clear h hD s e
 intro v z_ h hI hE
 replace h:Qbh s1 s2 v=_:=h
 unfold Qbh at h
 rcases Qai h with ⟨h1,h⟩|⟨h1,h⟩
 ·obtain ⟨x0,h2,h⟩:=Qad h
  obtain ⟨x1,h3,h⟩:=Qad h
  rcases Qai h with ⟨h4,h⟩|⟨h4,h⟩
  ·exact gn 16 [0,1,12,13] [] [bT h1,hH (.draw 9 []),cE QaY h2,cE QaY h3,nF h4] (hI _ (oJ h))
  ·obtain rfl:=(hE _ (oJ h):_=rv)
   exact gr 14 [] [bT h1,hH (.draw 9 []),cE QaY h2,cE QaY h3,nT h4]
 ·exact gn 5 [] [] [bF h1] (hE _ (oJ h))
theorem Qh0 {s1 s2} {rv:Bool} (h:Qcc s1 s2=some rv):AFn Tryz.prog 65 [.one (lL 1 s1 QaY),.one (lL 1 s2 QaY)] [] (one (.bool rv)) []:=by
 refine QaN Tryz.func65 (by kernel_rfl) (by kernel_rfl) (fun Γ=>?_)
 unfold Qcc at h
 rcases Qai h with ⟨h0,h⟩|⟨h0,h⟩
 ·obtain rfl:=Option.some.inj h
  exact gr 8 [] [nL QaY s1,nL QaY s2,bT h0]
 ·obtain ⟨e0,h5,h⟩:=Qad h
  refine gn 12 [0,1,12,13] [] [nL QaY s1,nL QaY s2,bF h0,nL QaY s1] (QlB Γ rv h5 ?_)
  rcases e0 with e0|e0
  ·replace h:(some true:Option Bool)=some _:=h
   obtain rfl:=Option.some.inj h
   exact gr 2 [] []
  ·obtain ⟨r,rfl⟩:∃ x,x=e0:=⟨_,rfl⟩
   replace h:(some r:Option Bool)=some _:=h
   exact Option.some.inj h
theorem Qbp {set_ i} {rv:Bool} (h:QdJ set_ i=some rv):AFn Tryz.prog 62 [.one (lI set_),.one (lI i)] [] (one (.bool rv)) []:=by
 refine QaN Tryz.func62 (by kernel_rfl) (by kernel_rfl) (fun Γ=>?_)
 unfold QdJ at h
 rcases Qai h with ⟨h0,h⟩|⟨h0,h⟩
 ·obtain ⟨h1,h⟩:=Qaw h
  obtain rfl:=Option.some.inj h
  exact gr 4 [] [rp 6 hP,oI ((geI set_ 0)=true),oR True ((geI set_ 0)=true),oI (((geI set_ 0)&&(geI i 0))=true),oR True (((geI set_ 0)&&(geI i 0))=true),rp 4 (bT h0),oO (h1),bT h0,oO (oA (n:=2)),bT h0,bT h0]
 ·obtain rfl:=Option.some.inj h
  exact gr 4 [] [rp 6 hP,oI ((geI set_ 0)=true),oR True ((geI set_ 0)=true),oI (((geI set_ 0)&&(geI i 0))=true),oR True (((geI set_ 0)&&(geI i 0))=true),rp 7 (bF h0)]
def QnX (Γ:Gam) (rv:Int×Int) (cf:Cf):Prop:=Go Tryz.prog Tryz.f30 [] Γ (.tup [.one (lI rv.1),.one (lI rv.2)]) [] cf
def Qlg (Γ:Gam) (rv:Int×Int) (r:Qag) (set_:Int) (i:Int):Prop:=QnX Γ rv ⟨[.c 116,.l 116,.b 0,.c 15],⟨36,[vP 1 0 4,vI 4 set_,vI 5 i],[oX 4 37 (Qag.enc r)]⟩⟩
def Qj4 (Γ:Gam) (rv:Int×Int) (r:Qag) (set_1:Int):Prop:=QnX Γ rv ⟨[.c 15],⟨36,[vI 4 set_1],[]⟩⟩
theorem Qql (Γ:Gam) (rv:Int×Int) {r} {s:Int×Int} {e:(Int)⊕(Int×Int)} (h:loopF (fun s=>Qee r s.1 s.2) s=some e) (hD:sel e (fun e=>Qj4 Γ rv r e) (fun e=>e=rv)):Qlg Γ rv r s.1 s.2:=by
 refine QaD (C:=fun (s:Int×Int)=>Qlg Γ rv r s.1 s.2) (D:=fun (e:(Int)⊕(Int×Int))=>sel e (fun e=>Qj4 Γ rv r e) (fun e=>e=rv)) ?_ h hD
 clear h hD s e
 rintro ⟨set_,i⟩ z_ h hI hE
 replace h:Qee r set_ i=_:=h
 unfold Qee at h
 rcases Qai h with ⟨h0,h⟩|⟨h0,h⟩
 ·obtain ⟨x0,h1,h⟩:=Qad h
  rcases Qai h with ⟨h2,h⟩|⟨h2,h⟩
  ·obtain rfl:=(hE _ (oJ h):_=rv)
   exact gr 15 [] [nL Qaa.enc r.visits,bT h0,cE Qaa.enc h1,hP,hP,hP,oI ((ltI x0.order 0)=false),oR True ((ltI x0.order 0)=false),bT h2]
  ·obtain ⟨r1,h3,h⟩:=Qad h
   rcases Qai h with ⟨h4,h⟩|⟨h4,h⟩
   ·exact gn 21 [1,4,5] [0] [nL Qaa.enc r.visits,bT h0,cE Qaa.enc h1,hP,hP,hP,oI ((ltI x0.order 0)=false),oR True ((ltI x0.order 0)=false),bF h2,cC (Qbp h3),nF h4] (hI _ (oJ h))
   ·obtain ⟨h5,h⟩:=Qaw h
    exact gn 21 [1,4,5] [0] [nL Qaa.enc r.visits,bT h0,cE Qaa.enc h1,hP,hP,hP,oI ((ltI x0.order 0)=false),oR True ((ltI x0.order 0)=false),bF h2,cC (Qbp h3),nT h4,oO (h5)] (hI _ (oJ h))
 ·exact gn 5 [4] [] [nL Qaa.enc r.visits,bF h0] (hE _ (oJ h))
theorem QcP {r} {rv:Int×Int} (h:QcW r=some rv):AFn Tryz.prog 30 [.agg (Qag.enc r)] [] (.tup [.one (lI rv.1),.one (lI rv.2)]) []:=by
 refine QaN Tryz.func30 (by kernel_rfl) (by kernel_rfl) (fun Γ=>?_)
 unfold QcW at h
 obtain ⟨e0,h6,h⟩:=Qad h
 refine gn 9 [1,4,5] [0] [] (Qql Γ rv h6 ?_)
 rcases e0 with e0|e0
 ·obtain ⟨set_1,rfl⟩:∃ x,x=e0:=⟨_,rfl⟩
  replace h:(some (set_1,0):Option (Int×Int))=some _:=h
  obtain rfl:=Option.some.inj h
  exact gr 2 [] []
 ·obtain ⟨r2,rfl⟩:∃ x,x=e0:=⟨_,rfl⟩
  replace h:(some r2:Option (Int×Int))=some _:=h
  exact Option.some.inj h
def Qo0 (Γ:Gam) (rv:Int) (cf:Cf):Prop:=Go Tryz.prog Tryz.f139 [] Γ (one (lI rv)) [] cf
def Qmf (Γ:Gam) (rv:Int) (l:List Qaa) (v:Qaa) (i:Int):Prop:=Qo0 Γ rv ⟨[.c 52,.l 52,.b 0,.c 7],⟨19,[vL 0 2 l Qaa.enc,vP 3 0 2,vI 5 i],[oX 2 54 (Qaa.enc v)]⟩⟩
def Qlf (Γ:Gam) (rv:Int) (l:List Qaa) (v:Qaa):Prop:=Qo0 Γ rv ⟨[.c 7],⟨19,[],[]⟩⟩
theorem QqZ (Γ:Gam) (rv:Int) {l v} {s:Int} {e:(Unit)⊕(Int)} (h:loopF (fun s=>QcF l v s) s=some e) (hD:sel e (fun e=>Qlf Γ rv l v) (fun e=>e=rv)):Qmf Γ rv l v s:=by
 refine QaD (C:=fun (s:Int)=>Qmf Γ rv l v s) (D:=fun (e:(Unit)⊕(Int))=>sel e (fun e=>Qlf Γ rv l v) (fun e=>e=rv)) ?_ h hD
 clear h hD s e
 intro i z_ h hI hE
 replace h:QcF l v i=_:=h
 unfold QcF at h
 rcases Qai h with ⟨h0,h⟩|⟨h0,h⟩
 ·obtain ⟨x0,h1,h⟩:=Qad h
  rcases Qai h with ⟨h2,h⟩|⟨h2,h⟩
  ·obtain rfl:=(hE _ (oJ h):_=rv)
   exact gr 12 [] [nL Qaa.enc l,bT h0,hH (.draw 6 []),cE Qaa.enc h1,bT h2]
  ·exact gn 14 [0,3,5] [0] [nL Qaa.enc l,bT h0,hH (.draw 6 []),cE Qaa.enc h1,bF h2] (hI _ (oJ h))
 ·exact gn 5 [] [] [nL Qaa.enc l,bF h0] (hE _ (oJ h))
theorem Qa0 {l v} {rv:Int} (h:QbY l v=some rv):AFn Tryz.prog 139 [.one (lL 2 l Qaa.enc),.agg (Qaa.enc v)] [] (one (lI rv)) []:=by
 refine QaN Tryz.func139 (by kernel_rfl) (by kernel_rfl) (fun Γ=>?_)
 unfold QbY at h
 obtain ⟨e0,h3,h⟩:=Qad h
 refine gn 7 [0,3,5] [0] [] (QqZ Γ rv h3 ?_)
 rcases e0 with e0|e0
 ·replace h:(some (-1):Option Int)=some _:=h
  obtain rfl:=Option.some.inj h
  exact gr 2 [] []
 ·obtain ⟨r,rfl⟩:∃ x,x=e0:=⟨_,rfl⟩
  replace h:(some r:Option Int)=some _:=h
  exact Option.some.inj h
def Qs4 (Γ:Gam) (rv:List Qaa) (cf:Cf):Prop:=Go Tryz.prog Tryz.f138 [] Γ (one (lL 2 rv Qaa.enc)) [] cf
theorem Qj5 (Γ:Gam) (rv:List Qaa) {x0 order l} (h:Qef x0 order l=some rv):Qs4 Γ rv ⟨[.c 15],⟨33,[vI 1 order,vP 2 0 6,vO 5 1 2 l Qaa.enc],[oX 6 30 (Qac.enc x0),oS 2 54 l Qaa.enc]⟩⟩:=by
 unfold Qef at h
 obtain ⟨x2,h3,h⟩:=Qad h
 rcases Qai h with ⟨h4,h⟩|⟨h4,h⟩
 ·obtain ⟨h5,h⟩:=Qaw h
  obtain rfl:=Option.some.inj h
  exact gr 7 [] [cE Qah.enc h3,bT h4,oO (Eq.refl ([(Qaa.mk order true)].map Qaa.enc).length),aO Qaa.enc h5,hW 5,hH (.frz 3),rp 4 (oO (Eq.refl ((l++[(Qaa.mk order true)]).map Qaa.enc).length))]
 ·obtain rfl:=Option.some.inj h
  exact gr 7 [] [cE Qah.enc h3,bF h4,hW 5,hH (.frz 1),rp 3 (eL l Qaa.enc)]
theorem QcQ {x0 order} {rv:List Qaa} (h:Qe0 x0 order=some rv):AFn Tryz.prog 138 [.agg (Qac.enc x0),.one (lI order)] [] (one (lL 2 rv Qaa.enc)) []:=by
 refine QaN Tryz.func138 (by kernel_rfl) (by kernel_rfl) (fun Γ=>?_)
 unfold Qe0 at h
 obtain ⟨x1,h0,h⟩:=Qad h
 rcases Qai h with ⟨h1,h⟩|⟨h1,h⟩
 ·obtain ⟨h2,h⟩:=Qaw h
  exact gn 9 [1,2,5] [0,2] [cE Qah.enc h0,bT h1,oO (Eq.refl ([(Qaa.mk order false)].map Qaa.enc).length),aN (l:=([(Qaa.mk order false)]:List Qaa)) Qaa.enc h2] (Qj5 Γ rv h)
 ·exact gn 9 [1,2,5] [0,1] [cE Qah.enc h0,bF h1,hW 1,hH (.adopt 5 2 54)] (Qj5 Γ rv h)
def Qml (Γ:Gam) (rv:Bool) (cf:Cf):Prop:=Go Tryz.prog Tryz.f185 [] Γ (one (.bool rv)) [] cf
def Qjy (Γ:Gam) (rv:Bool) (l:List Qaa) (some_:List Qaa) (i:Int):Prop:=Qml Γ rv ⟨[.c 52,.l 52,.b 0,.c 7],⟨19,[vL 0 2 l Qaa.enc,vL 1 2 some_ Qaa.enc,vI 5 i],[]⟩⟩
def Qjb (Γ:Gam) (rv:Bool) (l:List Qaa) (some_:List Qaa):Prop:=Qml Γ rv ⟨[.c 7],⟨19,[],[]⟩⟩
theorem Qo2 (Γ:Gam) (rv:Bool) {l some_} {s:Int} {e:(Unit)⊕(Bool)} (h:loopF (fun s=>QbZ l some_ s) s=some e) (hD:sel e (fun e=>Qjb Γ rv l some_) (fun e=>e=rv)):Qjy Γ rv l some_ s:=by
 refine QaD (C:=fun (s:Int)=>Qjy Γ rv l some_ s) (D:=fun (e:(Unit)⊕(Bool))=>sel e (fun e=>Qjb Γ rv l some_) (fun e=>e=rv)) ?_ h hD
 clear h hD s e
 intro i z_ h hI hE
 replace h:QbZ l some_ i=_:=h
 unfold QbZ at h
 rcases Qai h with ⟨h0,h⟩|⟨h0,h⟩
 ·obtain ⟨x0,h1,h⟩:=Qad h
  obtain ⟨r,h2,h⟩:=Qad h
  rcases Qai h with ⟨h3,h⟩|⟨h3,h⟩
  ·obtain rfl:=(hE _ (oJ h):_=rv)
   exact gr 12 [] [nL Qaa.enc some_,bT h0,cE Qaa.enc h1,cC (Qa0 h2),bT h3]
  ·exact gn 14 [0,1,5] [] [nL Qaa.enc some_,bT h0,cE Qaa.enc h1,cC (Qa0 h2),bF h3] (hI _ (oJ h))
 ·exact gn 5 [] [] [nL Qaa.enc some_,bF h0] (hE _ (oJ h))
theorem Qdy {l some_} {rv:Bool} (h:QeW l some_=some rv):AFn Tryz.prog 185 [.one (lL 2 l Qaa.enc),.one (lL 2 some_ Qaa.enc)] [] (one (.bool rv)) []:=by
 refine QaN Tryz.func185 (by kernel_rfl) (by kernel_rfl) (fun Γ=>?_)
 unfold QeW at h
 obtain ⟨e0,h4,h⟩:=Qad h
 refine gn 7 [0,1,5] [] [] (Qo2 Γ rv h4 ?_)
 rcases e0 with e0|e0
 ·replace h:(some true:Option Bool)=some _:=h
  obtain rfl:=Option.some.inj h
  exact gr 2 [] []
 ·obtain ⟨r1,rfl⟩:∃ x,x=e0:=⟨_,rfl⟩
  replace h:(some r1:Option Bool)=some _:=h
  exact Option.some.inj h
def QnY (Γ:Gam) (rv:Bool) (cf:Cf):Prop:=Go Tryz.prog Tryz.f140 [] Γ (one (.bool rv)) [] cf
def Qll (Γ:Gam) (rv:Bool) (x0:Qac) (l:List Qaa) (i:Int):Prop:=QnY Γ rv ⟨[.c 52,.l 52,.b 0,.c 7],⟨51,[vL 1 2 l Qaa.enc,vP 2 0 6,vI 5 i],[oX 6 30 (Qac.enc x0)]⟩⟩
def Qj9 (Γ:Gam) (rv:Bool) (x0:Qac) (l:List Qaa):Prop:=QnY Γ rv ⟨[.c 7],⟨51,[],[]⟩⟩
theorem Qqp (Γ:Gam) (rv:Bool) {x0 l} {s:Int} {e:(Unit)⊕(Bool)} (h:loopF (fun s=>Qcq x0 l s) s=some e) (hD:sel e (fun e=>Qj9 Γ rv x0 l) (fun e=>e=rv)):Qll Γ rv x0 l s:=by
 refine QaD (C:=fun (s:Int)=>Qll Γ rv x0 l s) (D:=fun (e:(Unit)⊕(Bool))=>sel e (fun e=>Qj9 Γ rv x0 l) (fun e=>e=rv)) ?_ h hD
 clear h hD s e
 intro i z_ h hI hE
 replace h:Qcq x0 l i=_:=h
 unfold Qcq at h
 rcases Qai h with ⟨h0,h⟩|⟨h0,h⟩
 ·obtain ⟨x1,h1,h⟩:=Qad h
  obtain ⟨r,h2,h⟩:=Qad h
  obtain ⟨r1,h3,h⟩:=Qad h
  rcases Qai h with ⟨h4,h⟩|⟨h4,h⟩
  ·obtain rfl:=(hE _ (oJ h):_=rv)
   exact gr 14 [] [nL Qaa.enc l,bT h0,hH (.draw 8 []),cE Qaa.enc h1,cC (QcQ h2),hH (.draw 31 []),cE Qaa.enc h1,cC (Qa0 h3),rp 5 (bT h4),rp 4 tT,rp 11 kF,tT,tT,tT]
  ·obtain ⟨r2,h5,h⟩:=Qad h
   rcases Qai h with ⟨h6,h⟩|⟨h6,h⟩
   ·rcases Qai h with ⟨h7,h⟩|⟨h7,h⟩
    ·obtain ⟨x2,h8,h⟩:=Qad h
     obtain ⟨r3,h9,h⟩:=Qad h
     obtain ⟨x3,h10,h⟩:=Qad h
     obtain ⟨r4,h11,h⟩:=Qad h
     rcases Qai h with ⟨h12,h⟩|⟨h12,h⟩
     ·obtain rfl:=(hE _ (oJ h):_=rv)
      exact gr 14 [] [nL Qaa.enc l,bT h0,hH (.draw 8 []),cE Qaa.enc h1,cC (QcQ h2),hH (.draw 31 []),cE Qaa.enc h1,cC (Qa0 h3),rp 3 (bF h4),cC (Qdy h5),bF h4,bF h4,nF h6,nF h6,nL Qaa.enc r,nF h6,nF h6,rp 3 (bT h7),cE Qaa.enc h8,bT h7,bT h7,cC (Qa0 h9),rp 3 (bT h7),cE Qaa.enc h10,bT h7,bT h7,cC (Qa0 h11),bT h7,nF h6,bT h7,nF h6,bT h12]
     ·exact gn 16 [1,2,5] [0] [nL Qaa.enc l,bT h0,hH (.draw 8 []),cE Qaa.enc h1,cC (QcQ h2),hH (.draw 31 []),cE Qaa.enc h1,cC (Qa0 h3),rp 3 (bF h4),cC (Qdy h5),bF h4,bF h4,nF h6,nF h6,nL Qaa.enc r,nF h6,nF h6,rp 3 (bT h7),cE Qaa.enc h8,bT h7,bT h7,cC (Qa0 h9),rp 3 (bT h7),cE Qaa.enc h10,bT h7,bT h7,cC (Qa0 h11),bT h7,nF h6,bT h7,nF h6,bF h12] (hI _ (oJ h))
    ·exact gn 16 [1,2,5] [0] [nL Qaa.enc l,bT h0,hH (.draw 8 []),cE Qaa.enc h1,cC (QcQ h2),hH (.draw 31 []),cE Qaa.enc h1,cC (Qa0 h3),rp 3 (bF h4),cC (Qdy h5),bF h4,bF h4,nF h6,nF h6,nL Qaa.enc r,nF h6,nF h6,rp 11 (bF h7),nF h6,bF h7,nF h6,fF] (hI _ (oJ h))
   ·obtain rfl:=(hE _ (oJ h):_=rv)
    exact gr 14 [] [nL Qaa.enc l,bT h0,hH (.draw 8 []),cE Qaa.enc h1,cC (QcQ h2),hH (.draw 31 []),cE Qaa.enc h1,cC (Qa0 h3),rp 3 (bF h4),cC (Qdy h5),bF h4,bF h4,rp 4 (nT h6),rp 11 kF,nT h6,nT h6,tT]
 ·exact gn 5 [] [] [nL Qaa.enc l,bF h0] (hE _ (oJ h))
theorem QgU {x0 l} {rv:Bool} (h:QdW x0 l=some rv):AFn Tryz.prog 140 [.agg (Qac.enc x0),.one (lL 2 l Qaa.enc)] [] (one (.bool rv)) []:=by
 refine QaN Tryz.func140 (by kernel_rfl) (by kernel_rfl) (fun Γ=>?_)
 unfold QdW at h
 obtain ⟨e0,h13,h⟩:=Qad h
 refine gn 7 [1,2,5] [0] [] (Qqp Γ rv h13 ?_)
 rcases e0 with e0|e0
 ·replace h:(some true:Option Bool)=some _:=h
  obtain rfl:=Option.some.inj h
  exact gr 2 [] []
 ·obtain ⟨r5,rfl⟩:∃ x,x=e0:=⟨_,rfl⟩
  replace h:(some r5:Option Bool)=some _:=h
  exact Option.some.inj h
def Qo1 (Γ:Gam) (rv:Bool) (cf:Cf):Prop:=Go Tryz.prog Tryz.f141 [] Γ (one (.bool rv)) [] cf
def Qmk (Γ:Gam) (rv:Bool) (x0:Qac) (set_:Int) (i:Int):Prop:=Qo1 Γ rv ⟨[.c 52,.l 52,.b 0,.c 7],⟨31,[vI 1 set_,vP 2 0 6,vI 5 i],[oX 6 30 (Qac.enc x0)]⟩⟩
def Qlh (Γ:Gam) (rv:Bool) (x0:Qac) (set_:Int):Prop:=Qo1 Γ rv ⟨[.c 7],⟨31,[],[]⟩⟩
theorem Qq0 (Γ:Gam) (rv:Bool) {x0 set_} {s:Int} {e:(Unit)⊕(Bool)} (h:loopF (fun s=>QcG x0 set_ s) s=some e) (hD:sel e (fun e=>Qlh Γ rv x0 set_) (fun e=>e=rv)):Qmk Γ rv x0 set_ s:=by
 refine QaD (C:=fun (s:Int)=>Qmk Γ rv x0 set_ s) (D:=fun (e:(Unit)⊕(Bool))=>sel e (fun e=>Qlh Γ rv x0 set_) (fun e=>e=rv)) ?_ h hD
 clear h hD s e
 intro i z_ h hI hE
 replace h:QcG x0 set_ i=_:=h
 unfold QcG at h
 rcases Qai h with ⟨h0,h⟩|⟨h0,h⟩
 ·obtain ⟨x1,h1,h⟩:=Qad h
  obtain ⟨r,h2,h⟩:=Qad h
  rcases Qai h with ⟨h3,h⟩|⟨h3,h⟩
  ·obtain ⟨r1,h4,h⟩:=Qad h
   rcases Qai h with ⟨h5,h⟩|⟨h5,h⟩
   ·obtain rfl:=(hE _ (oJ h):_=rv)
    exact gr 12 [] [nL QaC.enc x0.apart,bT h0,cE QaC.enc h1,oO (zL 0),oO (lT 0 2),cC (Qbp h2),rp 5 (bT h3),cE QaC.enc h1,bT h3,oO (zL 1),oO (lT 1 2),bT h3,bT h3,cC (Qbp h4),bT h3,bT h5]
   ·exact gn 14 [1,2,5] [0] [nL QaC.enc x0.apart,bT h0,cE QaC.enc h1,oO (zL 0),oO (lT 0 2),cC (Qbp h2),rp 5 (bT h3),cE QaC.enc h1,bT h3,oO (zL 1),oO (lT 1 2),bT h3,bT h3,cC (Qbp h4),bT h3,bF h5] (hI _ (oJ h))
  ·exact gn 14 [1,2,5] [0] [nL QaC.enc x0.apart,bT h0,cE QaC.enc h1,oO (zL 0),oO (lT 0 2),cC (Qbp h2),rp 9 (bF h3),fF] (hI _ (oJ h))
 ·exact gn 5 [] [] [nL QaC.enc x0.apart,bF h0] (hE _ (oJ h))
theorem Qjx {x0 set_} {rv:Bool} (h:Qey x0 set_=some rv):AFn Tryz.prog 141 [.agg (Qac.enc x0),.one (lI set_)] [] (one (.bool rv)) []:=by
 refine QaN Tryz.func141 (by kernel_rfl) (by kernel_rfl) (fun Γ=>?_)
 unfold Qey at h
 obtain ⟨e0,h6,h⟩:=Qad h
 refine gn 7 [1,2,5] [0] [] (Qq0 Γ rv h6 ?_)
 rcases e0 with e0|e0
 ·replace h:(some true:Option Bool)=some _:=h
  obtain rfl:=Option.some.inj h
  exact gr 2 [] []
 ·obtain ⟨r2,rfl⟩:∃ x,x=e0:=⟨_,rfl⟩
  replace h:(some r2:Option Bool)=some _:=h
  exact Option.some.inj h
def QeV (Γ:Gam) (rv:Bool) (cf:Cf):Prop:=Go Tryz.prog Tryz.f142 [] Γ (one (.bool rv)) [] cf
def Qlk (Γ:Gam) (rv:Bool) (x0:Qac) (set_:Int) (l:List Qaa) (i:Int) (x1:QaC) (j:Int) (k:Int):Prop:=QeV Γ rv ⟨[.c 3448612,.l 3448612,.b 4,.b 3,.c 215539,.l 53884,.b 2,.b 1,.c 211,.l 52,.b 0,.c 7],⟨66,[vI 1 set_,vL 2 2 l Qaa.enc,vP 3 0 6,vI 7 i,vI 8 x1.x0,vI 9 x1.x1,vI 10 j,vI 11 k],[oX 6 30 (Qac.enc x0)]⟩⟩
def Qj8 (Γ:Gam) (rv:Bool) (x0:Qac) (set_:Int) (l:List Qaa) (i:Int) (x1:QaC) (j:Int):Prop:=QeV Γ rv ⟨[.b 3,.c 215539,.l 53884,.b 2,.b 1,.c 211,.l 52,.b 0,.c 7],⟨66,[vI 1 set_,vL 2 2 l Qaa.enc,vP 3 0 6,vI 7 i,vI 8 x1.x0,vI 9 x1.x1,vI 10 j],[oX 6 30 (Qac.enc x0)]⟩⟩
def Qlj (Γ:Gam) (rv:Bool) (x0:Qac) (set_:Int) (l:List Qaa) (i:Int) (x1:QaC) (j:Int):Prop:=QeV Γ rv ⟨[.c 53884,.l 53884,.b 2,.b 1,.c 211,.l 52,.b 0,.c 7],⟨66,[vI 1 set_,vL 2 2 l Qaa.enc,vP 3 0 6,vI 7 i,vI 8 x1.x0,vI 9 x1.x1,vI 10 j],[oX 6 30 (Qac.enc x0)]⟩⟩
def Qj7 (Γ:Gam) (rv:Bool) (x0:Qac) (set_:Int) (l:List Qaa) (i:Int) (x1:QaC):Prop:=QeV Γ rv ⟨[.b 1,.c 211,.l 52,.b 0,.c 7],⟨66,[vI 1 set_,vL 2 2 l Qaa.enc,vP 3 0 6,vI 7 i],[oX 6 30 (Qac.enc x0)]⟩⟩
def Qli (Γ:Gam) (rv:Bool) (x0:Qac) (set_:Int) (l:List Qaa) (i:Int):Prop:=QeV Γ rv ⟨[.c 52,.l 52,.b 0,.c 7],⟨66,[vI 1 set_,vL 2 2 l Qaa.enc,vP 3 0 6,vI 7 i],[oX 6 30 (Qac.enc x0)]⟩⟩
def Qj6 (Γ:Gam) (rv:Bool) (x0:Qac) (set_:Int) (l:List Qaa):Prop:=QeV Γ rv ⟨[.c 7],⟨66,[],[]⟩⟩
theorem Qqo (Γ:Gam) (rv:Bool) {x0 set_ l i x1 j} {s:Int} {e:(Unit)⊕(Bool)} (h:loopF (fun s=>Qcp x0 set_ l i x1 j s) s=some e) (hD:sel e (fun e=>Qj8 Γ rv x0 set_ l i x1 j) (fun e=>e=rv)):Qlk Γ rv x0 set_ l i x1 j s:=by
 refine QaD (C:=fun (s:Int)=>Qlk Γ rv x0 set_ l i x1 j s) (D:=fun (e:(Unit)⊕(Bool))=>sel e (fun e=>Qj8 Γ rv x0 set_ l i x1 j) (fun e=>e=rv)) ?_ h hD
 clear h hD s e
 intro k z_ h hI hE
 replace h:Qcp x0 set_ l i x1 j k=_:=h
 unfold Qcp at h
 rcases Qai h with ⟨h7,h⟩|⟨h7,h⟩
 ·obtain ⟨x2,h8,h⟩:=Qad h
  rcases Qai h with ⟨h9,h⟩|⟨h9,h⟩
  ·obtain ⟨x3,h10,h⟩:=Qad h
   rcases Qai h with ⟨h11,h⟩|⟨h11,h⟩
   ·obtain rfl:=(hE _ (oJ h):_=rv)
    exact gr 12 [] [bT h7,cE Qaa.enc h8,rp 3 (bT h9),cE Qaa.enc h10,rp 5 (bT h9),bT h11]
   ·exact gn 14 [1,2,3,7,8,9,10,11] [0] [bT h7,cE Qaa.enc h8,rp 3 (bT h9),cE Qaa.enc h10,rp 5 (bT h9),bF h11] (hI _ (oJ h))
  ·exact gn 14 [1,2,3,7,8,9,10,11] [0] [bT h7,cE Qaa.enc h8,rp 8 (bF h9),fF] (hI _ (oJ h))
 ·exact gn 5 [1,2,3,7,8,9,10] [0] [bF h7] (hE _ (oJ h))
theorem Qqn (Γ:Gam) (rv:Bool) {x0 set_ l i x1} {s:Int} {e:(Unit)⊕(Bool)} (h:loopF (fun s=>Qco x0 set_ l i x1 s) s=some e) (hD:sel e (fun e=>Qj7 Γ rv x0 set_ l i x1) (fun e=>e=rv)):Qlj Γ rv x0 set_ l i x1 s:=by
 refine QaD (C:=fun (s:Int)=>Qlj Γ rv x0 set_ l i x1 s) (D:=fun (e:(Unit)⊕(Bool))=>sel e (fun e=>Qj7 Γ rv x0 set_ l i x1) (fun e=>e=rv)) ?_ h hD
 clear h hD s e
 intro j z_ h hI hE
 replace h:Qco x0 set_ l i x1 j=_:=h
 unfold Qco at h
 rcases Qai h with ⟨h6,h⟩|⟨h6,h⟩
 ·obtain ⟨e0,h12,h⟩:=Qad h
  refine gn 11 [1,2,3,7,8,9,10,11] [0] [nL Qaa.enc l,bT h6] (Qqo Γ rv h12 ?_)
  rcases e0 with e0|e0
  ·replace h:(some (.inl (addK .i64 j 1)):Option ((Int)⊕((Unit)⊕(Bool))))=some _:=h
   exact gn 3 [1,2,3,7,8,9,10] [0] [] (hI _ (oJ h))
  ·obtain ⟨r2,rfl⟩:∃ x,x=e0:=⟨_,rfl⟩
   replace h:(some (.inr (.inr r2)):Option ((Int)⊕((Unit)⊕(Bool))))=some _:=h
   exact (hE _ (oJ h):_=rv)
 ·exact gn 5 [1,2,3,7] [0] [nL Qaa.enc l,bF h6] (hE _ (oJ h))
theorem Qqm (Γ:Gam) (rv:Bool) {x0 set_ l} {s:Int} {e:(Unit)⊕(Bool)} (h:loopF (fun s=>Qcn x0 set_ l s) s=some e) (hD:sel e (fun e=>Qj6 Γ rv x0 set_ l) (fun e=>e=rv)):Qli Γ rv x0 set_ l s:=by
 refine QaD (C:=fun (s:Int)=>Qli Γ rv x0 set_ l s) (D:=fun (e:(Unit)⊕(Bool))=>sel e (fun e=>Qj6 Γ rv x0 set_ l) (fun e=>e=rv)) ?_ h hD
 clear h hD s e
 intro i z_ h hI hE
 replace h:Qcn x0 set_ l i=_:=h
 unfold Qcn at h
 rcases Qai h with ⟨h0,h⟩|⟨h0,h⟩
 ·obtain ⟨x1,h1,h⟩:=Qad h
  obtain ⟨r,h2,h⟩:=Qad h
  rcases Qai h with ⟨h3,h⟩|⟨h3,h⟩
  ·obtain ⟨r1,h4,h⟩:=Qad h
   rcases Qai h with ⟨h5,h⟩|⟨h5,h⟩
   ·obtain ⟨e1,h13,h⟩:=Qad h
    refine gn 25 [1,2,3,7,8,9,10] [0] [nL QaC.enc x0.before,bT h0,cE QaC.enc h1,oO (zL 0),oO (lT 0 2),cE QaC.enc h1,oO (zL 1),oO (lT 1 2),cC (Qbp h2),nF h3,cC (Qbp h4),nF h5] (Qqn Γ rv h13 ?_)
    rcases e1 with e1|e1
    ·replace h:(some (.inl (addK .i64 i 1)):Option ((Int)⊕((Unit)⊕(Bool))))=some _:=h
     exact gn 3 [1,2,3,7] [0] [] (hI _ (oJ h))
    ·obtain ⟨r3,rfl⟩:∃ x,x=e1:=⟨_,rfl⟩
     replace h:(some (.inr (.inr r3)):Option ((Int)⊕((Unit)⊕(Bool))))=some _:=h
     exact (hE _ (oJ h):_=rv)
   ·obtain rfl:=(hE _ (oJ h):_=rv)
    exact gr 22 [] [nL QaC.enc x0.before,bT h0,cE QaC.enc h1,oO (zL 0),oO (lT 0 2),cE QaC.enc h1,oO (zL 1),oO (lT 1 2),cC (Qbp h2),nF h3,cC (Qbp h4),nT h5]
  ·exact gn 18 [1,2,3,7] [0] [nL QaC.enc x0.before,bT h0,cE QaC.enc h1,oO (zL 0),oO (lT 0 2),cE QaC.enc h1,oO (zL 1),oO (lT 1 2),cC (Qbp h2),nT h3] (hI _ (oJ h))
 ·exact gn 5 [] [] [nL QaC.enc x0.before,bF h0] (hE _ (oJ h))
theorem Qnd {x0 set_ l} {rv:Bool} (h:QdV x0 set_ l=some rv):AFn Tryz.prog 142 [.agg (Qac.enc x0),.one (lI set_),.one (lL 2 l Qaa.enc)] [] (one (.bool rv)) []:=by
 refine QaN Tryz.func142 (by kernel_rfl) (by kernel_rfl) (fun Γ=>?_)
 unfold QdV at h
 obtain ⟨e2,h14,h⟩:=Qad h
 refine gn 7 [1,2,3,7] [0] [] (Qqm Γ rv h14 ?_)
 rcases e2 with e2|e2
 ·replace h:(some true:Option Bool)=some _:=h
  obtain rfl:=Option.some.inj h
  exact gr 2 [] []
 ·obtain ⟨r4,rfl⟩:∃ x,x=e2:=⟨_,rfl⟩
  replace h:(some r4:Option Bool)=some _:=h
  exact Option.some.inj h
def Qfm (Γ:Gam) (rv:Int) (cf:Cf):Prop:=Go Tryz.prog Tryz.f96 [] Γ (one (lI rv)) [] cf
def Qmc (Γ:Gam) (rv:Int) (x0:Qac) (r:Qag) (i:Int):Prop:=Qfm Γ rv ⟨[.c 116,.l 116,.b 0,.c 15],⟨91,[vP 2 0 6,vP 3 1 4,vL 5 2 r.visits Qaa.enc,vI 6 i],[oX 6 30 (Qac.enc x0),oX 4 37 (Qag.enc r)]⟩⟩
def Qlc (Γ:Gam) (rv:Int) (x0:Qac) (r:Qag):Prop:=Qfm Γ rv ⟨[.c 15],⟨91,[vP 2 0 6,vP 3 1 4,vL 5 2 r.visits Qaa.enc],[oX 6 30 (Qac.enc x0),oX 4 37 (Qag.enc r)]⟩⟩
def Qmd (Γ:Gam) (rv:Int) (x0:Qac) (r:Qag) (r1:Int×Int) (i1:Int):Prop:=Qfm Γ rv ⟨[.c 1012,.l 1012,.b 2,.c 127],⟨91,[vP 2 0 6,vL 5 2 r.visits Qaa.enc,vI 7 r1.1,vI 9 i1],[oX 6 30 (Qac.enc x0)]⟩⟩
def Qld (Γ:Gam) (rv:Int) (x0:Qac) (r:Qag) (r1:Int×Int):Prop:=Qfm Γ rv ⟨[.c 127],⟨91,[vP 2 0 6,vL 5 2 r.visits Qaa.enc,vI 7 r1.1],[oX 6 30 (Qac.enc x0)]⟩⟩
def Qme (Γ:Gam) (rv:Int) (x0:Qac) (r:Qag) (r1:Int×Int) (i2:Int):Prop:=Qfm Γ rv ⟨[.c 2036,.l 2036,.b 4,.c 255],⟨91,[vP 2 0 6,vL 5 2 r.visits Qaa.enc,vI 7 r1.1,vI 10 i2],[oX 6 30 (Qac.enc x0)]⟩⟩
def Qle (Γ:Gam) (rv:Int) (x0:Qac) (r:Qag) (r1:Int×Int):Prop:=Qfm Γ rv ⟨[.c 255],⟨91,[vP 2 0 6,vL 5 2 r.visits Qaa.enc,vI 7 r1.1],[oX 6 30 (Qac.enc x0)]⟩⟩
theorem QqW (Γ:Gam) (rv:Int) {x0 r} {s:Int} {e:(Unit)⊕(Int)} (h:loopF (fun s=>QcE x0 r s) s=some e) (hD:sel e (fun e=>Qlc Γ rv x0 r) (fun e=>e=rv)):Qmc Γ rv x0 r s:=by
 refine QaD (C:=fun (s:Int)=>Qmc Γ rv x0 r s) (D:=fun (e:(Unit)⊕(Int))=>sel e (fun e=>Qlc Γ rv x0 r) (fun e=>e=rv)) ?_ h hD
 clear h hD s e
 intro i z_ h hI hE
 replace h:QcE x0 r i=_:=h
 unfold QcE at h
 rcases Qai h with ⟨h0,h⟩|⟨h0,h⟩
 ·obtain ⟨x1,h1,h⟩:=Qad h
  rcases Qai h with ⟨h2,h⟩|⟨h2,h⟩
  ·obtain rfl:=(hE _ (oJ h):_=rv)
   exact gr 12 [] [nL Qaa.enc r.visits,bT h0,hH (.draw 17 []),cE Qaa.enc h1,rp 10 (bT h2),tT]
  ·rcases Qai h with ⟨h3,h⟩|⟨h3,h⟩
   ·obtain rfl:=(hE _ (oJ h):_=rv)
    exact gr 12 [] [nL Qaa.enc r.visits,bT h0,hH (.draw 17 []),cE Qaa.enc h1,rp 3 (bF h2),cE Qaa.enc h1,rp 5 (bF h2),nL Qah.enc x0.orders,bF h2,bF h2,bT h3]
   ·exact gn 14 [2,3,5,6] [0,1] [nL Qaa.enc r.visits,bT h0,hH (.draw 17 []),cE Qaa.enc h1,rp 3 (bF h2),cE Qaa.enc h1,rp 5 (bF h2),nL Qah.enc x0.orders,bF h2,bF h2,bF h3] (hI _ (oJ h))
 ·exact gn 5 [2,3,5] [0,1] [nL Qaa.enc r.visits,bF h0] (hE _ (oJ h))
theorem QqX (Γ:Gam) (rv:Int) {x0 r r1} {s:Int} {e:(Unit)⊕(Int)} (h:loopF (fun s=>Qce x0 r r1 s) s=some e) (hD:sel e (fun e=>Qld Γ rv x0 r r1) (fun e=>e=rv)):Qmd Γ rv x0 r r1 s:=by
 refine QaD (C:=fun (s:Int)=>Qmd Γ rv x0 r r1 s) (D:=fun (e:(Unit)⊕(Int))=>sel e (fun e=>Qld Γ rv x0 r r1) (fun e=>e=rv)) ?_ h hD
 clear h hD s e
 intro i1 z_ h hI hE
 replace h:Qce x0 r r1 i1=_:=h
 unfold Qce at h
 rcases Qai h with ⟨h7,h⟩|⟨h7,h⟩
 ·obtain ⟨x2,h8,h⟩:=Qad h
  obtain ⟨x3,h9,h⟩:=Qad h
  rcases Qai h with ⟨h10,h⟩|⟨h10,h⟩
  ·obtain rfl:=(hE _ (oJ h):_=rv)
   exact gr 12 [] [nL Qaa.enc r.visits,bT h7,hH (.draw 10 []),cE Qaa.enc h8,cE Qah.enc h9,bT h10]
  ·exact gn 14 [2,5,7,9] [0] [nL Qaa.enc r.visits,bT h7,hH (.draw 10 []),cE Qaa.enc h8,cE Qah.enc h9,bF h10] (hI _ (oJ h))
 ·exact gn 5 [2,5,7] [0] [nL Qaa.enc r.visits,bF h7] (hE _ (oJ h))
theorem QqY (Γ:Gam) (rv:Int) {x0 r r1} {s:Int} {e:(Unit)⊕(Int)} (h:loopF (fun s=>QbX x0 r r1 s) s=some e) (hD:sel e (fun e=>Qle Γ rv x0 r r1) (fun e=>e=rv)):Qme Γ rv x0 r r1 s:=by
 refine QaD (C:=fun (s:Int)=>Qme Γ rv x0 r r1 s) (D:=fun (e:(Unit)⊕(Int))=>sel e (fun e=>Qle Γ rv x0 r r1) (fun e=>e=rv)) ?_ h hD
 clear h hD s e
 intro i2 z_ h hI hE
 replace h:QbX x0 r r1 i2=_:=h
 unfold QbX at h
 rcases Qai h with ⟨h12,h⟩|⟨h12,h⟩
 ·obtain ⟨x4,h13,h⟩:=Qad h
  obtain ⟨r2,h14,h⟩:=Qad h
  rcases Qai h with ⟨h15,h⟩|⟨h15,h⟩
  ·obtain rfl:=(hE _ (oJ h):_=rv)
   exact gr 12 [] [nL Qaa.enc r.visits,bT h12,cE Qaa.enc h13,cC (Qa0 h14),bT h15]
  ·exact gn 14 [2,5,7,10] [0] [nL Qaa.enc r.visits,bT h12,cE Qaa.enc h13,cC (Qa0 h14),bF h15] (hI _ (oJ h))
 ·exact gn 5 [2,5,7] [0] [nL Qaa.enc r.visits,bF h12] (hE _ (oJ h))
theorem QhB {x0 r} {rv:Int} (h:Qgu x0 r=some rv):AFn Tryz.prog 96 [.agg (Qac.enc x0),.agg (Qag.enc r)] [] (one (lI rv)) []:=by
 refine QaN Tryz.func96 (by kernel_rfl) (by kernel_rfl) (fun Γ=>?_)
 unfold Qgu at h
 obtain ⟨e0,h4,h⟩:=Qad h
 refine gn 9 [2,3,5,6] [0,1] [] (QqW Γ rv h4 ?_)
 rcases e0 with e0|e0
 ·replace h:(bnd (QcW r) fun r1=>br ((neI r1.2 0)||(eqI (lenI r.visits) 0)) (some 2) (bnd (loopF (fun s=>Qce x0 r r1 s) 0) (fun e=>sel e (fun (_:Unit)=>bnd (loopF (fun s=>QbX x0 r r1 s) 0) (fun e=>sel e (fun (_:Unit)=>bnd (QdW x0 r.visits) fun r3=>br r3 (bnd (Qey x0 r1.1) fun r4=>br r4 (bnd (QdV x0 r1.1 r.visits) fun r5=>br r5 (some 0) (some 21)) (some 20)) (some 19)) (fun r6=>some r6))) (fun r7=>some r7))):Option Int)=some _:=h
  obtain ⟨r1,h5,h⟩:=Qad h
  rcases Qai h with ⟨h6,h⟩|⟨h6,h⟩
  ·obtain rfl:=Option.some.inj h
   exact gr 8 [] [cC (QcP h5),hP,hP,oI ((neI r1.2 0)=false),nL Qaa.enc r.visits,hP,hP,oI ((neI r1.2 0)=false),oR True ((neI r1.2 0)=false),bT h6]
  ·obtain ⟨e1,h11,h⟩:=Qad h
   refine gn 12 [2,5,7,9] [0] [cC (QcP h5),hP,hP,oI ((neI r1.2 0)=false),nL Qaa.enc r.visits,hP,hP,oI ((neI r1.2 0)=false),oR True ((neI r1.2 0)=false),bF h6] (QqX Γ rv h11 ?_)
   rcases e1 with e1|e1
   ·replace h:(bnd (loopF (fun s=>QbX x0 r r1 s) 0) (fun e=>sel e (fun (_:Unit)=>bnd (QdW x0 r.visits) fun r3=>br r3 (bnd (Qey x0 r1.1) fun r4=>br r4 (bnd (QdV x0 r1.1 r.visits) fun r5=>br r5 (some 0) (some 21)) (some 20)) (some 19)) (fun r6=>some r6)):Option Int)=some _:=h
    obtain ⟨e2,h16,h⟩:=Qad h
    refine gn 5 [2,5,7,10] [0] [] (QqY Γ rv h16 ?_)
    rcases e2 with e2|e2
    ·replace h:(bnd (QdW x0 r.visits) fun r3=>br r3 (bnd (Qey x0 r1.1) fun r4=>br r4 (bnd (QdV x0 r1.1 r.visits) fun r5=>br r5 (some 0) (some 21)) (some 20)) (some 19):Option Int)=some _:=h
     obtain ⟨r3,h17,h⟩:=Qad h
     rcases Qai h with ⟨h18,h⟩|⟨h18,h⟩
     ·obtain ⟨r4,h19,h⟩:=Qad h
      rcases Qai h with ⟨h20,h⟩|⟨h20,h⟩
      ·obtain ⟨r5,h21,h⟩:=Qad h
       rcases Qai h with ⟨h22,h⟩|⟨h22,h⟩
       ·obtain rfl:=Option.some.inj h
        exact gr 17 [] [cC (QgU h17),nF h18,cC (Qjx h19),nF h20,cC (Qnd h21),nF h22]
       ·obtain rfl:=Option.some.inj h
        exact gr 16 [] [cC (QgU h17),nF h18,cC (Qjx h19),nF h20,cC (Qnd h21),nT h22]
      ·obtain rfl:=Option.some.inj h
       exact gr 11 [] [cC (QgU h17),nF h18,cC (Qjx h19),nT h20]
     ·obtain rfl:=Option.some.inj h
      exact gr 6 [] [cC (QgU h17),nT h18]
    ·obtain ⟨r6,rfl⟩:∃ x,x=e2:=⟨_,rfl⟩
     replace h:(some r6:Option Int)=some _:=h
     exact Option.some.inj h
   ·obtain ⟨r7,rfl⟩:∃ x,x=e1:=⟨_,rfl⟩
    replace h:(some r7:Option Int)=some _:=h
    exact Option.some.inj h
 ·obtain ⟨r8,rfl⟩:∃ x,x=e0:=⟨_,rfl⟩
  replace h:(some r8:Option Int)=some _:=h
  exact Option.some.inj h
def QpV (Γ:Gam) (rv:Bool) (cf:Cf):Prop:=Go Tryz.prog Tryz.f97 [] Γ (one (.bool rv)) [] cf
def Qm7 (Γ:Gam) (rv:Bool) (t:Qak) (skills:Int) (bit:Int):Prop:=QpV Γ rv ⟨[.c 116,.l 116,.b 0,.c 15],⟨30,[vI 1 skills,vP 2 0 14,vI 5 bit],[oX 14 94 (Qak.enc t)]⟩⟩
def Ql4 (Γ:Gam) (rv:Bool) (t:Qak) (skills:Int):Prop:=QpV Γ rv ⟨[.c 15],⟨30,[],[]⟩⟩
theorem QrP (Γ:Gam) (rv:Bool) {t skills} {s:Int} {e:(Unit)⊕(Bool)} (h:loopF (fun s=>Qdx t skills s) s=some e) (hD:sel e (fun e=>Ql4 Γ rv t skills) (fun e=>e=rv)):Qm7 Γ rv t skills s:=by
 refine QaD (C:=fun (s:Int)=>Qm7 Γ rv t skills s) (D:=fun (e:(Unit)⊕(Bool))=>sel e (fun e=>Ql4 Γ rv t skills) (fun e=>e=rv)) ?_ h hD
 clear h hD s e
 intro bit z_ h hI hE
 replace h:Qdx t skills bit=_:=h
 unfold Qdx at h
 rcases Qai h with ⟨h1,h⟩|⟨h1,h⟩
 ·obtain ⟨h2,h⟩:=Qaw h
  rcases Qai h with ⟨h3,h⟩|⟨h3,h⟩
  ·obtain ⟨h4,h⟩:=Qaw h
   rcases Qai h with ⟨h5,h⟩|⟨h5,h⟩
   ·obtain rfl:=(hE _ (oJ h):_=rv)
    exact gr 12 [] [bT h1,oO (h2),oO (oA (n:=2)),rp 4 (bT h3),oO (h4),bT h3,oO (oA (n:=2)),bT h3,bT h3,bT h5]
   ·exact gn 14 [1,2,5] [0] [bT h1,oO (h2),oO (oA (n:=2)),rp 4 (bT h3),oO (h4),bT h3,oO (oA (n:=2)),bT h3,bT h3,bF h5] (hI _ (oJ h))
  ·exact gn 14 [1,2,5] [0] [bT h1,oO (h2),oO (oA (n:=2)),rp 7 (bF h3),fF] (hI _ (oJ h))
 ·exact gn 5 [] [] [bF h1] (hE _ (oJ h))
theorem QoX {t skills} {rv:Bool} (h:Qhe t skills=some rv):AFn Tryz.prog 97 [.agg (Qak.enc t),.one (lI skills)] [] (one (.bool rv)) []:=by
 refine QaN Tryz.func97 (by kernel_rfl) (by kernel_rfl) (fun Γ=>?_)
 unfold Qhe at h
 rcases Qai h with ⟨h0,h⟩|⟨h0,h⟩
 ·obtain rfl:=Option.some.inj h
  exact gr 8 [] [hP,hP,hP,oI ((ltI t.skills 0)=false),oR True ((ltI t.skills 0)=false),bT h0]
 ·obtain ⟨e0,h6,h⟩:=Qad h
  refine gn 12 [1,2,5] [0] [hP,hP,hP,oI ((ltI t.skills 0)=false),oR True ((ltI t.skills 0)=false),bF h0] (QrP Γ rv h6 ?_)
  rcases e0 with e0|e0
  ·replace h:(some true:Option Bool)=some _:=h
   obtain rfl:=Option.some.inj h
   exact gr 2 [] []
  ·obtain ⟨r,rfl⟩:∃ x,x=e0:=⟨_,rfl⟩
   replace h:(some r:Option Bool)=some _:=h
   exact Option.some.inj h
def QpT (Γ:Gam) (rv:Bool) (cf:Cf):Prop:=Go Tryz.prog Tryz.f208 [] Γ (one (.bool rv)) [] cf
def Qm5 (Γ:Gam) (rv:Bool) (l:List (List Int)) (dims:Int) (i:Int):Prop:=QpT Γ rv ⟨[.c 116,.l 116,.b 0,.c 15],⟨25,[vL 0 1 l Qbi,vI 1 dims,vI 5 i],[]⟩⟩
def Ql1 (Γ:Gam) (rv:Bool) (l:List (List Int)) (dims:Int):Prop:=QpT Γ rv ⟨[.c 15],⟨25,[],[]⟩⟩
theorem QrN (Γ:Gam) (rv:Bool) {l dims} {s:Int} {e:(Unit)⊕(Bool)} (h:loopF (fun s=>Qc4 l dims s) s=some e) (hD:sel e (fun e=>Ql1 Γ rv l dims) (fun e=>e=rv)):Qm5 Γ rv l dims s:=by
 refine QaD (C:=fun (s:Int)=>Qm5 Γ rv l dims s) (D:=fun (e:(Unit)⊕(Bool))=>sel e (fun e=>Ql1 Γ rv l dims) (fun e=>e=rv)) ?_ h hD
 clear h hD s e
 intro i z_ h hI hE
 replace h:Qc4 l dims i=_:=h
 unfold Qc4 at h
 rcases Qai h with ⟨h1,h⟩|⟨h1,h⟩
 ·obtain ⟨x0,h2,h⟩:=Qad h
  rcases Qai h with ⟨h3,h⟩|⟨h3,h⟩
  ·obtain rfl:=(hE _ (oJ h):_=rv)
   exact gr 12 [] [nL Qbi l,bT h1,cE Qbi h2,nL e_i64 x0,bT h3]
  ·exact gn 14 [0,1,5] [] [nL Qbi l,bT h1,cE Qbi h2,nL e_i64 x0,bF h3] (hI _ (oJ h))
 ·exact gn 5 [] [] [nL Qbi l,bF h1] (hE _ (oJ h))
theorem QoS {l dims} {rv:Bool} (h:Qit l dims=some rv):AFn Tryz.prog 208 [.one (lL 1 l Qbi),.one (lI dims)] [] (one (.bool rv)) []:=by
 refine QaN Tryz.func208 (by kernel_rfl) (by kernel_rfl) (fun Γ=>?_)
 unfold Qit at h
 rcases Qai h with ⟨h0,h⟩|⟨h0,h⟩
 ·obtain rfl:=Option.some.inj h
  exact gr 8 [] [hP,hP,hP,oI ((ltI dims 0)=false),oR True ((ltI dims 0)=false),bT h0]
 ·obtain ⟨e0,h4,h⟩:=Qad h
  refine gn 12 [0,1,5] [] [hP,hP,hP,oI ((ltI dims 0)=false),oR True ((ltI dims 0)=false),bF h0] (QrN Γ rv h4 ?_)
  rcases e0 with e0|e0
  ·replace h:(some true:Option Bool)=some _:=h
   obtain rfl:=Option.some.inj h
   exact gr 2 [] []
  ·obtain ⟨r,rfl⟩:∃ x,x=e0:=⟨_,rfl⟩
   replace h:(some r:Option Bool)=some _:=h
   exact Option.some.inj h
def Qjp (Γ:Gam) (rv:List Int×Int) (cf:Cf):Prop:=Go Tryz.prog Tryz.f201 [] Γ (.tup [.one (lL 1 rv.1 e_i64),.one (lI rv.2)]) [] cf
def QnT (Γ:Gam) (rv:List Int×Int) (l:List (List Int)) (dims:Int) (l1:List Int) (d:Int) (n:Int) (i:Int):Prop:=Qjp Γ rv ⟨[.c 62612,.l 62612,.b 2,.c 7827,.b 1,.c 979,.l 244,.b 0,.c 31],⟨39,[vL 0 1 l Qbi,vI 1 dims,vO 6 0 1 l1 e_i64,vI 7 d,vI 8 n,vI 9 i],[oS 1 3 l1 e_i64]⟩⟩
def Qm4 (Γ:Gam) (rv:List Int×Int) (l:List (List Int)) (dims:Int) (l1:List Int) (d:Int) (n1:Int):Prop:=Qjp Γ rv ⟨[.c 7827,.b 1,.c 979,.l 244,.b 0,.c 31],⟨39,[vL 0 1 l Qbi,vI 1 dims,vO 6 0 1 l1 e_i64,vI 7 d,vI 8 n1],[oS 1 3 l1 e_i64]⟩⟩
def QnS (Γ:Gam) (rv:List Int×Int) (l:List (List Int)) (dims:Int) (l1:List Int) (d:Int):Prop:=Qjp Γ rv ⟨[.c 244,.l 244,.b 0,.c 31],⟨39,[vL 0 1 l Qbi,vI 1 dims,vO 6 0 1 l1 e_i64,vI 7 d],[oS 1 3 l1 e_i64]⟩⟩
def Qm3 (Γ:Gam) (rv:List Int×Int) (l:List (List Int)) (dims:Int) (l2:List Int):Prop:=Qjp Γ rv ⟨[.c 31],⟨39,[vO 6 0 1 l2 e_i64],[oS 1 3 l2 e_i64]⟩⟩
theorem Qsn (Γ:Gam) (rv:List Int×Int) {l dims l1 d} {s:Int×Int} {e:Int} (h:loopF (fun s=>QcV l dims l1 d s.1 s.2) s=some e) (hD:Qm4 Γ rv l dims l1 d e):QnT Γ rv l dims l1 d s.1 s.2:=by
 refine QaD (C:=fun (s:Int×Int)=>QnT Γ rv l dims l1 d s.1 s.2) (D:=fun (e:Int)=>Qm4 Γ rv l dims l1 d e) ?_ h hD
 clear h hD s e
 rintro ⟨n,i⟩ z_ h hI hE
 replace h:QcV l dims l1 d n i=_:=h
 unfold QcV at h
 rcases Qai h with ⟨h3,h⟩|⟨h3,h⟩
 ·obtain ⟨x0,h4,h⟩:=Qad h
  obtain ⟨x1,h5,h⟩:=Qad h
  exact gn 11 [0,1,6,7,8,9] [0] [nL Qbi l,bT h3,cE Qbi h4,cE e_i64 h5] (hI _ (oJ h))
 ·exact gn 5 [0,1,6,7,8] [0] [nL Qbi l,bF h3] (hE _ (oJ h))
theorem Qsm (Γ:Gam) (rv:List Int×Int) {l dims} {s:List Int×Int} {e:List Int} (h:loopF (fun s=>QcU l dims s.1 s.2) s=some e) (hD:Qm3 Γ rv l dims e):QnS Γ rv l dims s.1 s.2:=by
 refine QaD (C:=fun (s:List Int×Int)=>QnS Γ rv l dims s.1 s.2) (D:=fun (e:List Int)=>Qm3 Γ rv l dims e) ?_ h hD
 clear h hD s e
 rintro ⟨l1,d⟩ z_ h hI hE
 replace h:QcU l dims l1 d=_:=h
 unfold QcU at h
 rcases Qai h with ⟨h2,h⟩|⟨h2,h⟩
 ·obtain ⟨e0,h6,h⟩:=Qad h
  refine gn 14 [0,1,6,7,8,9] [0] [bT h2] (Qsn Γ rv h6 ?_)
  obtain ⟨n1,rfl⟩:∃ x,x=e0:=⟨_,rfl⟩
  replace h:(chk (okN (l1++[n1]).length 8) (some (.inl ((l1++[n1]),(addK .i64 d 1)))):Option ((List Int×Int)⊕(List Int)))=some _:=h
  obtain ⟨h7,h⟩:=Qaw h
  exact gn 4 [0,1,6,7] [2] [oO (Eq.refl ([n1].map e_i64).length),aO e_i64 h7] (hI _ (oJ h))
 ·exact gn 5 [6] [0] [bF h2] (hE _ (oJ h))
theorem Qup {l dims} {rv:List Int×Int} (h:Qh6 l dims=some rv):AFn Tryz.prog 201 [.one (lL 1 l Qbi),.one (lI dims)] [] (.tup [.one (lL 1 rv.1 e_i64),.one (lI rv.2)]) []:=by
 refine QaN Tryz.func201 (by kernel_rfl) (by kernel_rfl) (fun Γ=>?_)
 unfold Qh6 at h
 obtain ⟨r,h0,h⟩:=Qad h
 rcases Qai h with ⟨h1,h⟩|⟨h1,h⟩
 ·obtain ⟨e1,h8,h⟩:=Qad h
  refine gn 14 [0,1,6,7] [0] [cC (QoS h0),nF h1,hW 10,hH (.adopt 6 1 3)] (Qsm Γ rv h8 ?_)
  obtain ⟨l2,rfl⟩:∃ x,x=e1:=⟨_,rfl⟩
  replace h:(some (l2,0):Option (List Int×Int))=some _:=h
  obtain rfl:=Option.some.inj h
  exact gr 2 [] [hW 5,hH (.frz 0),rp 3 (eL l2 e_i64)]
 ·obtain rfl:=Option.some.inj h
  exact gr 8 [] [cC (QoS h0),nT h1,hW 4,hH (.nilS 4 0 1)]
theorem QtI {x0} {rv:Int} (h:Qhg x0=some rv):AFn Tryz.prog 202 [.agg (Qac.enc x0)] [] (one (lI rv)) []:=by
 refine QaN Tryz.func202 (by kernel_rfl) (by kernel_rfl) (fun Γ=>?_)
 unfold Qhg at h
 rcases Qai h with ⟨h0,h⟩|⟨h0,h⟩
 ·obtain rfl:=Option.some.inj h
  exact gr 8 [] [nL Qak.enc x0.types,bT h0]
 ·obtain ⟨x1,h1,h⟩:=Qad h
  obtain rfl:=Option.some.inj h
  exact gr 9 [] [nL Qak.enc x0.types,bF h0,cE Qak.enc h1,nL e_i64 x1.cap]
end Go.Proofs.YtoedkepcaigkeaaGreatDoor
