/- Part MV of the proof: texts Y1. -/
import Derived.Test.YtpkkaboonnedfaaGreatDoorMU
import Derived.Test.YtpkkaboonnedfaaGreatDoorProg
namespace Go.Proofs.YtpkkaboonnedfaaGreatDoor
set_option linter.unusedVariables false
set_option linter.unusedSectionVars false
set_option linter.unusedSimpArgs false
set_option maxHeartbeats 4000000
set_option maxRecDepth 100000
def Qs8 (Γ:Gam) (rv:ByteArray) (cf:Cf):Prop:=Go Tryz.prog Tryz.f203 [] Γ (one (.str rv)) [] cf
theorem Qj7 (Γ:Gam) (rv:ByteArray) {i u} (h:QgG i u=some rv):Qs8 Γ rv ⟨[.c 431,.c 7],⟨54,[vI 0 i,vP 5 0 24,(6,one (.int .u64 u))],[oX 24 249 [.int .u8 0,.int .u8 0,.int .u8 0,.int .u8 0,.int .u8 0,.int .u8 0,.int .u8 0,.int .u8 0,.int .u8 0,.int .u8 0,.int .u8 0,.int .u8 0,.int .u8 0,.int .u8 0,.int .u8 0,.int .u8 0,.int .u8 0,.int .u8 0,.int .u8 0,.int .u8 0,.int .u8 0,.int .u8 0,.int .u8 0,.int .u8 0]]⟩⟩:=by
 unfold QgG at h
 obtain ⟨r1,h4,h⟩:=Qae h
 cases h
theorem Qsv {i base} {rv:ByteArray} (h:QlF i base=some rv):AFn Tryz.prog 203 [.one (lI i),.one (lI base)] [] (one (.str rv)) []:=by
 refine QaL Tryz.func203 (by kernel_rfl) (by kernel_rfl) (fun Γ=>?_)
 unfold QlF at h
 rcases Qah h with ⟨h0,h⟩|⟨h0,h⟩
 ·rcases Qah h with ⟨h1,h⟩|⟨h1,h⟩
  ·obtain ⟨r,h2,h⟩:=Qae h
   obtain rfl:=Option.some.inj h
   exact gr 12 [] [bT h0,hP,hP,hP,oI ((leI 0 i)=true),oR True ((leI 0 i)=true),bT h1,cC (Qu4 h2)]
  ·rcases Qah h with ⟨h3,h⟩|⟨h3,h⟩
   ·exact gn 20 [0,5,6] [0] [bT h0,hP,hP,hP,oI ((leI 0 i)=true),oR True ((leI 0 i)=true),bF h1,bT h3] (Qj7 Γ rv h)
   ·exact gn 20 [0,5,6] [0] [bT h0,hP,hP,hP,oI ((leI 0 i)=true),oR True ((leI 0 i)=true),bF h1,bF h3] (Qj7 Γ rv h)
 ·cases h
theorem Qvi {i} {rv:ByteArray} (h:Qsw i=some rv):AFn Tryz.prog 202 [.one (lI i)] [] (one (.str rv)) []:=by
 refine QaL Tryz.func202 (by kernel_rfl) (by kernel_rfl) (fun Γ=>?_)
 unfold Qsw at h
 obtain ⟨r,h0,h⟩:=Qae h
 obtain rfl:=Option.some.inj h
 exact gr 4 [] [cC (Qsv h0)]
theorem QpV {i} {rv:ByteArray} (h:QmB i=some rv):AFn Tryz.prog 200 [.one (lI i)] [] (one (.str rv)) []:=by
 refine QaL Tryz.func200 (by kernel_rfl) (by kernel_rfl) (fun Γ=>?_)
 unfold QmB at h
 obtain ⟨r,h0,h⟩:=Qae h
 obtain rfl:=Option.some.inj h
 exact gr 4 [] [cC (Qvi h0)]
def QmC (Γ:Gam) (rv:List Qab) (cf:Cf):Prop:=Go Tryz.prog Tryz.f194 [] Γ (one (lL 2 rv Qab.enc)) [] cf
def QlH (Γ:Gam) (rv:List Qab) (l:List Qao) (l2:List Qab) (v:Int):Prop:=QmC Γ rv ⟨[.c 244,.l 244,.b 0,.c 31],⟨83,[vL 0 2 l Qao.enc,vO 3 0 2 l2 Qab.enc,vL 19 2 l Qao.enc,vI 20 (lenI l),vI 21 v],[oS 2 146 l2 Qab.enc]⟩⟩
def Qki (Γ:Gam) (rv:List Qab) (l:List Qao) (l4:List Qab):Prop:=QmC Γ rv ⟨[.c 31],⟨83,[vO 3 0 2 l4 Qab.enc],[oS 2 146 l4 Qab.enc]⟩⟩
theorem Qo9 (Γ:Gam) (rv:List Qab) {l v x0 r l3} {x:(List Qab×Int)⊕(List Qab)} (h:Qim l v x0 r l3=some x) (hI:∀ s:List Qab×Int,x=.inl s→QlH Γ rv l s.1 s.2) (hE:∀ e:List Qab,x=.inr e→Qki Γ rv l e):QmC Γ rv ⟨[.c 31335,.b 1,.c 1959,.l 244,.b 0,.c 31],⟨83,[vL 0 2 l Qao.enc,vO 3 0 2 l3 Qab.enc,vI 4 v,vP 5 1 2,vS 6 r,vL 19 2 l Qao.enc,vI 20 (lenI l),vI 21 v],[oS 2 146 l3 Qab.enc,oX 2 119 (Qao.enc x0)]⟩⟩:=by
 unfold Qim at h
 rcases Qah h with ⟨h8,h⟩|⟨h8,h⟩
 ·obtain ⟨x1,h9,h⟩:=Qae h
  rcases Qah h with ⟨h10,h⟩|⟨h10,h⟩
  ·obtain ⟨h11,h⟩:=Qau h
   exact gn 7 [0,3,19,20,21] [3] [hH (.draw 24 []),rp 6 (bT h8),cE Qao.enc h9,rp 4 (bT h8),rp 9 (bT h10),bT h8,bT h10,bT h8,tT,oO (Eq.refl ([(Qab.mk 13 r)].map Qab.enc).length),aO Qab.enc h11] (hI _ (oJ h))
  ·rcases Qah h with ⟨h12,h⟩|⟨h12,h⟩
   ·obtain ⟨h13,h⟩:=Qau h
    exact gn 7 [0,3,19,20,21] [3] [hH (.draw 24 []),rp 6 (bT h8),cE Qao.enc h9,rp 4 (bT h8),rp 6 (bF h10),cE Qao.enc h9,rp 3 (bF h10),bT h8,bF h10,bT h8,bT h12,oO (Eq.refl ([(Qab.mk 13 r)].map Qab.enc).length),aO Qab.enc h13] (hI _ (oJ h))
   ·exact gn 7 [0,3,19,20,21] [0] [hH (.draw 24 []),rp 6 (bT h8),cE Qao.enc h9,rp 4 (bT h8),rp 6 (bF h10),cE Qao.enc h9,rp 3 (bF h10),bT h8,bF h10,bT h8,bF h12] (hI _ (oJ h))
 ·exact gn 7 [0,3,19,20,21] [0] [hH (.draw 24 []),rp 10 (bF h8),rp 9 kF,bF h8,bF h8,fF] (hI _ (oJ h))
theorem QtC (Γ:Gam) (rv:List Qab) {l} {s:List Qab×Int} {e:List Qab} (h:loopF (fun s=>Qd3 l s.1 s.2) s=some e) (hD:Qki Γ rv l e):QlH Γ rv l s.1 s.2:=by
 refine QaB (C:=fun (s:List Qab×Int)=>QlH Γ rv l s.1 s.2) (D:=fun (e:List Qab)=>Qki Γ rv l e) ?_ h hD
 clear h hD s e
 rintro ⟨l2,v⟩ z_ h hI hE
 replace h:Qd3 l l2 v=_:=h
 unfold Qd3 at h
 rcases Qah h with ⟨h2,h⟩|⟨h2,h⟩
 ·obtain ⟨x0,h3,h⟩:=Qae h
  obtain ⟨r,h4,h⟩:=Qae h
  obtain ⟨r1,h5,h⟩:=Qae h
  rcases Qah h with ⟨h6,h⟩|⟨h6,h⟩
  ·obtain ⟨h7,h⟩:=Qau h
   exact gn 16 [0,3,4,5,6,19,20,21] [3,1] [bT h2,cE Qao.enc h3,cC (QpV h4),cC (QhK h5),rp 13 hP,rp 4 (oI ((!r1)=false)),oR True ((!r1)=false),rp 5 (oI (((!r1)||(ltI x0.a x0.t))=false)),oR True (((!r1)||(ltI x0.a x0.t))=false),bT h6,oO (Eq.refl ([(Qab.mk 2 r)].map Qab.enc).length),aO Qab.enc h7] (Qo9 Γ rv h hI hE)
  ·exact gn 16 [0,3,4,5,6,19,20,21] [0,1] [bT h2,cE Qao.enc h3,cC (QpV h4),cC (QhK h5),rp 13 hP,rp 4 (oI ((!r1)=false)),oR True ((!r1)=false),rp 5 (oI (((!r1)||(ltI x0.a x0.t))=false)),oR True (((!r1)||(ltI x0.a x0.t))=false),bF h6] (Qo9 Γ rv h hI hE)
 ·exact gn 5 [3] [0] [bF h2] (hE _ (oJ h))
theorem Qo8 (Γ:Gam) (rv:List Qab) {l l1} (h:Qil l l1=some rv):QmC Γ rv ⟨[.c 15],⟨83,[vL 0 2 l Qao.enc,vO 3 0 2 l1 Qab.enc],[oS 2 146 l1 Qab.enc]⟩⟩:=by
 unfold Qil at h
 obtain ⟨e0,h14,h⟩:=Qae h
 refine gn 5 [0,3,19,20,21] [0] [nL Qao.enc l] (QtC Γ rv h14 ?_)
 obtain ⟨l4,rfl⟩:∃ x,x=e0:=⟨_,rfl⟩
 replace h:(some l4:Option (List Qab))=some _:=h
 obtain rfl:=Option.some.inj h
 exact gr 2 [] [hW 4,hH (.frz 0),rp 3 (eL l4 Qab.enc)]
theorem Qvj {l} {rv:List Qab} (h:Qnu l=some rv):AFn Tryz.prog 194 [.one (lL 2 l Qao.enc)] [] (one (lL 2 rv Qab.enc)) []:=by
 refine QaL Tryz.func194 (by kernel_rfl) (by kernel_rfl) (fun Γ=>?_)
 unfold Qnu at h
 rcases Qah h with ⟨h0,h⟩|⟨h0,h⟩
 ·obtain ⟨h1,h⟩:=Qau h
  exact gn 9 [0,3] [1] [nL Qao.enc l,hP,hP,oI ((eqI (lenI l) 0)=false),nL Qao.enc l,hP,hP,oI ((eqI (lenI l) 0)=false),oR True ((eqI (lenI l) 0)=false),bT h0,oO (Eq.refl ([(Qab.mk 4 ByteArray.empty)].map Qab.enc).length),aN (l:=([(Qab.mk 4 ByteArray.empty)]:List Qab)) Qab.enc h1] (Qo8 Γ rv h)
 ·exact gn 9 [0,3] [0] [nL Qao.enc l,hP,hP,oI ((eqI (lenI l) 0)=false),nL Qao.enc l,hP,hP,oI ((eqI (lenI l) 0)=false),oR True ((eqI (lenI l) 0)=false),bF h0,hW 1,hH (.adopt 3 2 146)] (Qo8 Γ rv h)
theorem Qr7 {l} {rv:Bool} (h:Qnv l=some rv):AFn Tryz.prog 191 [.one (lL 2 l Qao.enc)] [] (one (.bool rv)) []:=by
 refine QaL Tryz.func191 (by kernel_rfl) (by kernel_rfl) (fun Γ=>?_)
 unfold Qnv at h
 obtain ⟨r,h0,h⟩:=Qae h
 obtain rfl:=Option.some.inj h
 exact gr 4 [] [cC (Qvj h0),nL Qab.enc r]
theorem Qkj {p t} {rv:Int} (h:QfY p t=some rv):AFn Tryz.prog 196 [.agg (Qao.enc p),.one (lI t)] [] (one (lI rv)) []:=by
 refine QaL Tryz.func196 (by kernel_rfl) (by kernel_rfl) (fun Γ=>?_)
 unfold QfY at h
 obtain rfl:=Option.some.inj h
 exact gr 4 [] []
def QbS (Γ:Gam) (rv:Int×Bool) (cf:Cf):Prop:=Go Tryz.prog Tryz.f195 [] Γ (.tup [.one (lI rv.1),.one (.bool rv.2)]) [] cf
def QbP (Γ:Gam) (rv:Int×Bool) (x0:List Qao) (target:Int) (i:Int) (j:Int):Prop:=QbS Γ rv ⟨[.c 120,.l 120,.b 0,.c 31],⟨49,[vL 0 2 x0 Qao.enc,vI 1 target,(2,one (.fn (.func 196) [])),vI 8 (lenI x0),vI 9 i,vI 10 j],[]⟩⟩
def QbE (Γ:Gam) (rv:Int×Bool) (x0:List Qao) (target:Int) (i1:Int):Prop:=QbS Γ rv ⟨[.c 31],⟨49,[vL 0 2 x0 Qao.enc,vI 1 target,(2,one (.fn (.func 196) [])),vI 8 (lenI x0),vI 9 i1],[]⟩⟩
theorem Qdr (Γ:Gam) (rv:Int×Bool) {x0 target} {s:Int×Int} {e:Int} (h:loopF (fun s=>QaI x0 target s.1 s.2) s=some e) (hD:QbE Γ rv x0 target e):QbP Γ rv x0 target s.1 s.2:=by
 refine QaB (C:=fun (s:Int×Int)=>QbP Γ rv x0 target s.1 s.2) (D:=fun (e:Int)=>QbE Γ rv x0 target e) ?_ h hD
 clear h hD s e
 rintro ⟨i,j⟩ z_ h hI hE
 replace h:QaI x0 target i j=_:=h
 unfold QaI at h
 rcases Qah h with ⟨h0,h⟩|⟨h0,h⟩
 ·obtain ⟨x1,h1,h⟩:=Qae h
  obtain ⟨r,h2,h⟩:=Qae h
  rcases Qah h with ⟨h3,h⟩|⟨h3,h⟩
  ·exact gn 14 [0,1,2,8,9,10] [] [bT h0,oO (zL 1),cE Qao.enc h1,cC (Qkj h2),bT h3] (hI _ (oJ h))
  ·exact gn 14 [0,1,2,8,9,10] [] [bT h0,oO (zL 1),cE Qao.enc h1,cC (Qkj h2),bF h3] (hI _ (oJ h))
 ·exact gn 5 [0,1,2,8,9] [] [bF h0] (hE _ (oJ h))
theorem Qa0 {x0 target} {rv:Int×Bool} (h:Qa4 x0 target=some rv):AFn Tryz.prog 195 [.one (lL 2 x0 Qao.enc),.one (lI target),.one (.fn (.func 196) [])] [] (.tup [.one (lI rv.1),.one (.bool rv.2)]) []:=by
 refine QaL Tryz.func195 (by kernel_rfl) (by kernel_rfl) (fun Γ=>?_)
 unfold Qa4 at h
 obtain ⟨e0,h4,h⟩:=Qae h
 refine gn 9 [0,1,2,8,9,10] [] [nL Qao.enc x0] (Qdr Γ rv h4 ?_)
 obtain ⟨i1,rfl⟩:∃ x,x=e0:=⟨_,rfl⟩
 replace h:(br (ltI i1 (lenI x0)) (bnd (getI x0 i1) fun x2=>bnd (QfY x2 target) fun r1=>some (i1,(eqI r1 0))) (some (i1,false)):Option (Int×Bool))=some _:=h
 rcases Qah h with ⟨h5,h⟩|⟨h5,h⟩
 ·obtain ⟨x2,h6,h⟩:=Qae h
  obtain ⟨r1,h7,h⟩:=Qae h
  obtain rfl:=Option.some.inj h
  exact gr 2 [] [rp 4 (bT h5),cE Qao.enc h6,rp 3 (bT h5),cC (Qkj h7),bT h5,bT h5]
 ·obtain rfl:=Option.some.inj h
  exact gr 2 [] [rp 9 (bF h5)]
theorem Qu7 {l t} {rv:Int} (h:Qlu l t=some rv):AFn Tryz.prog 192 [.one (lL 2 l Qao.enc),.one (lI t)] [] (one (lI rv)) []:=by
 refine QaL Tryz.func192 (by kernel_rfl) (by kernel_rfl) (fun Γ=>?_)
 unfold Qlu at h
 obtain ⟨r,h0,h⟩:=Qae h
 rcases Qah h with ⟨h1,h⟩|⟨h1,h⟩
 ·obtain ⟨x0,h2,h⟩:=Qae h
  obtain rfl:=Option.some.inj h
  exact gr 11 [] [cC (Qa0 h0),bT h1,cE Qao.enc h2]
 ·rcases Qah h with ⟨h3,h⟩|⟨h3,h⟩
  ·obtain ⟨x1,h4,h⟩:=Qae h
   obtain rfl:=Option.some.inj h
   exact gr 14 [] [cC (Qa0 h0),bF h1,bT h3,hH (.draw 12 []),rp 2 (cE Qao.enc h4)]
  ·rcases Qah h with ⟨h5,h⟩|⟨h5,h⟩
   ·obtain ⟨x2,h6,h⟩:=Qae h
    obtain rfl:=Option.some.inj h
    exact gr 17 [] [cC (Qa0 h0),bF h1,bF h3,nL Qao.enc l,bT h5,hH (.draw 16 []),rp 2 (cE Qao.enc h6)]
   ·obtain ⟨x3,h7,h⟩:=Qae h
    obtain ⟨x4,h8,h⟩:=Qae h
    obtain ⟨h9,h⟩:=Qau h
    obtain rfl:=Option.some.inj h
    exact gr 23 [] [cC (Qa0 h0),bF h1,bF h3,nL Qao.enc l,bF h5,hH (.draw 13 [(0,11),(1,12)]),cE Qao.enc h7,cE Qao.enc h8,hH (.draw 19 []),oO (h9)]
theorem Qu6 {l t} {rv:Int} (h:Qlt l t=some rv):AFn Tryz.prog 187 [.one (lL 2 l Qao.enc),.one (lI t)] [] (one (lI rv)) []:=by
 refine QaL Tryz.func187 (by kernel_rfl) (by kernel_rfl) (fun Γ=>?_)
 unfold Qlt at h
 obtain ⟨r,h0,h⟩:=Qae h
 rcases Qah h with ⟨h1,h⟩|⟨h1,h⟩
 ·obtain ⟨r1,h2,h⟩:=Qae h
  rcases Qah h with ⟨h3,h⟩|⟨h3,h⟩
  ·obtain ⟨r2,h4,h⟩:=Qae h
   obtain rfl:=Option.some.inj h
   exact gr 9 [] [cC (QhK h0),nF h1,nF h1,cC (Qr7 h2),nF h1,nF h1,nF h3,cC (Qu7 h4)]
  ·obtain rfl:=Option.some.inj h
   exact gr 8 [] [cC (QhK h0),nF h1,nF h1,cC (Qr7 h2),nF h1,nF h1,nT h3]
 ·obtain rfl:=Option.some.inj h
  exact gr 8 [] [cC (QhK h0),rp 4 (nT h1),tT]
def QpN (Γ:Gam) (rv:Int) (cf:Cf):Prop:=Go Tryz.prog Tryz.f181 [] Γ (one (lI rv)) [] cf
def Qnh (Γ:Gam) (rv:Int) (a:Qas) (t:Int) (out:Int) (v:Int):Prop:=QpN Γ rv ⟨[.c 116,.l 116,.b 0,.c 15],⟨29,[vI 1 t,vI 5 out,vL 13 2 a.slow Qao.enc,vI 14 (lenI a.slow),vI 15 v],[]⟩⟩
def Qms (Γ:Gam) (rv:Int) (a:Qas) (t:Int) (out1:Int):Prop:=QpN Γ rv ⟨[.c 15],⟨29,[vI 5 out1],[]⟩⟩
theorem QrN (Γ:Gam) (rv:Int) {a t} {s:Int×Int} {e:Int} (h:loopF (fun s=>QhT a t s.1 s.2) s=some e) (hD:Qms Γ rv a t e):Qnh Γ rv a t s.1 s.2:=by
 refine QaB (C:=fun (s:Int×Int)=>Qnh Γ rv a t s.1 s.2) (D:=fun (e:Int)=>Qms Γ rv a t e) ?_ h hD
 clear h hD s e
 rintro ⟨out,v⟩ z_ h hI hE
 replace h:QhT a t out v=_:=h
 unfold QhT at h
 rcases Qah h with ⟨h1,h⟩|⟨h1,h⟩
 ·obtain ⟨x0,h2,h⟩:=Qae h
  rcases Qah h with ⟨h3,h⟩|⟨h3,h⟩
  ·exact gn 16 [1,5,13,14,15] [] [bT h1,cE Qao.enc h2,bT h3] (hI _ (oJ h))
  ·exact gn 16 [1,5,13,14,15] [] [bT h1,cE Qao.enc h2,bF h3] (hI _ (oJ h))
 ·exact gn 5 [5] [] [bF h1] (hE _ (oJ h))
theorem Qtq {a t} {rv:Int} (h:Qih a t=some rv):AFn Tryz.prog 181 [.agg (Qas.enc a),.one (lI t)] [] (one (lI rv)) []:=by
 refine QaL Tryz.func181 (by kernel_rfl) (by kernel_rfl) (fun Γ=>?_)
 unfold Qih at h
 obtain ⟨r,h0,h⟩:=Qae h
 obtain ⟨e0,h4,h⟩:=Qae h
 refine gn 9 [1,5,13,14,15] [] [cC (Qu6 h0),nL Qao.enc a.slow] (QrN Γ rv h4 ?_)
 obtain ⟨out1,rfl⟩:∃ x,x=e0:=⟨_,rfl⟩
 replace h:(some out1:Option Int)=some _:=h
 obtain rfl:=Option.some.inj h
 exact gr 2 [] []
theorem Qlm {n profile from_ to_ t} {rv:Int×Int×Int} (h:QoZ n profile from_ to_ t=some rv):AFn Tryz.prog 168 [.agg (Qal.enc n),.one (lI profile),.one (lI from_),.one (lI to_),.one (lI t)] [] (.tup [.one (lI rv.1),.one (lI rv.2.1),.one (lI rv.2.2)]) []:=by
 refine QaL Tryz.func168 (by kernel_rfl) (by kernel_rfl) (fun Γ=>?_)
 unfold QoZ at h
 obtain ⟨r,h0,h⟩:=Qae h
 rcases Qah h with ⟨h1,h⟩|⟨h1,h⟩
 ·obtain ⟨r1,h2,h⟩:=Qae h
  rcases Qah h with ⟨h3,h⟩|⟨h3,h⟩
  ·rcases Qah h with ⟨h4,h⟩|⟨h4,h⟩
   ·obtain rfl:=Option.some.inj h
    exact gr 13 [] [cC (Qdw h0),rp 3 (nF h1),cC (Qdw h2),nF h1,nF h1,nF h3,bT h4]
   ·obtain ⟨r2,h5,h⟩:=Qae h
    rcases Qah h with ⟨h6,h⟩|⟨h6,h⟩
    ·obtain ⟨r3,h7,h⟩:=Qae h
     obtain rfl:=Option.some.inj h
     exact gr 21 [] [cC (Qdw h0),rp 3 (nF h1),cC (Qdw h2),nF h1,nF h1,nF h3,bF h4,cC (Qr3 h5),nF h6,hH (.draw 8 []),cC (Qtq h7)]
    ·obtain rfl:=Option.some.inj h
     exact gr 20 [] [cC (Qdw h0),rp 3 (nF h1),cC (Qdw h2),nF h1,nF h1,nF h3,bF h4,cC (Qr3 h5),nT h6]
  ·obtain rfl:=Option.some.inj h
   exact gr 8 [] [cC (Qdw h0),rp 3 (nF h1),cC (Qdw h2),nF h1,nF h1,nT h3]
 ·obtain rfl:=Option.some.inj h
  exact gr 8 [] [cC (Qdw h0),rp 5 (nT h1),tT]
theorem Qfv {p visits} {rv:Int} (h:Qf3 p visits=some rv):AFn Tryz.prog 169 [.agg (Qax.enc p),.one (lI visits)] [] (one (lI rv)) []:=by
 refine QaL Tryz.func169 (by kernel_rfl) (by kernel_rfl) (fun Γ=>?_)
 unfold Qf3 at h
 rcases Qah h with ⟨h0,h⟩|⟨h0,h⟩
 ·obtain rfl:=Option.some.inj h
  exact gr 8 [] [bT h0]
 ·obtain ⟨x0,h1,h⟩:=Qae h
  obtain rfl:=Option.some.inj h
  exact gr 9 [] [bF h0,cE Qav.enc h1]
theorem Qr8 {s0 arrive} {rv:Int×Int} (h:Qps s0 arrive=some rv):AFn Tryz.prog 170 [.agg (Qav.enc s0),.one (lI arrive)] [] (.tup [.one (lI rv.1),.one (lI rv.2)]) []:=by
 refine QaL Tryz.func170 (by kernel_rfl) (by kernel_rfl) (fun Γ=>?_)
 unfold Qps at h
 rcases Qah h with ⟨h0,h⟩|⟨h0,h⟩
 ·obtain rfl:=Option.some.inj h
  exact gr 10 [] [bT h0]
 ·obtain rfl:=Option.some.inj h
  exact gr 11 [] [bF h0]
theorem Qd9 {s0} {rv:List Qar} (h:Qbw s0=some rv):AFn Tryz.prog 167 [.one (lL 4 s0 Qar.enc)] [] (one (lO 0 4 rv Qar.enc)) [oS 4 213 rv Qar.enc]:=by
 refine QaL Tryz.func167 (by kernel_rfl) (by kernel_rfl) (fun Γ=>?_)
 unfold Qbw at h
 rcases Qah h with ⟨h0,h⟩|⟨h0,h⟩
 ·obtain ⟨hx,h⟩:=QwX h
  refine gn 5 [0,4] [] [hH (.skip)] (cf':=⟨[.c 13,.c 7],⟨8,[vL 0 4 s0 Qar.enc,(4,.boo)],[]⟩⟩) (go_amb 4 rfl ?_ ?_)
  ·replace h:=hx
   obtain rfl:=Option.some.inj h
   exact gr 3 [0] [tT,hW 3,hH (.adopt 2 4 213)]
  ·obtain ⟨h1,h⟩:=Qau h
   obtain rfl:=Option.some.inj h
   exact gr 4 [0] [fF,aZ Qar.enc h1]
 ·obtain ⟨h2,h⟩:=Qau h
  obtain rfl:=Option.some.inj h
  exact gr 9 [0] [oO (neE Qar.enc h0),fF,hH (.bit false),aZ Qar.enc h2]
def Qio (Γ:Gam) (rv:Qaf×Int) (cf:Cf):Prop:=Go Tryz.prog Tryz.f144 [] Γ (.tup [.agg [lI rv.1.ready,lI rv.1.since,.bool rv.1.sheet.rest_,lI rv.1.sheet.depart,lL 4 rv.1.sheet.times Qar.enc,lI rv.1.sheet.end_,lI rv.1.sheet.miles],.one (lI rv.2)]) [] cf
theorem QlO (Γ:Gam) (rv:Qaf×Int) {p l depart since rest_1 depart1 r2 l2 ready end_} (h:QeS p l depart since rest_1 depart1 r2 l2 ready end_=some rv):Qio Γ rv ⟨[.c 32767],⟨163,[vP 4 0 25,vP 8 1 7,vP 12 2 7],[oX 25 174 (Qax.enc p),oX 7 178 [lI 0,lI 0,.bool false,lI 0,.nils,lI 0,lI 0],oX 7 178 [lI ready,lI (subK .i64 (addK .i64 since r2.1) depart),.bool rest_1,lI depart1,lO 3 4 l2 Qar.enc,lI end_,lI (addK .i64 l.sheet.miles r2.2.1)],oS 4 213 l2 Qar.enc]⟩⟩:=by
 unfold QeS at h
 rcases Qah h with ⟨h15,h⟩|⟨h15,h⟩
 ·obtain rfl:=Option.some.inj h
  exact gr 6 [] [bT h15,hW 5,hH (.nilB 1 4 4)]
 ·obtain rfl:=Option.some.inj h
  exact gr 7 [] [bF h15,hW 6,hH (.frz 3),rp 3 (eL l2 Qar.enc)]
theorem QlN (Γ:Gam) (rv:Qaf×Int) {p l done depart since l1 rest_1 depart1 to_} (h:QdJ p l done depart since l1 rest_1 depart1 to_=some rv):Qio Γ rv ⟨[.c 1023],⟨163,[vI 2 done,vP 4 0 25,vP 8 1 7,vI 10 depart,vI 11 since,vP 12 2 7,vB 13 (eqI done (lenI p.stops)),vI 14 to_],[oX 25 174 (Qax.enc p),oX 7 178 [lI 0,lI 0,.bool false,lI 0,.nils,lI 0,lI 0],oX 7 178 [lI 0,lI 0,.bool rest_1,lI depart1,lO 3 4 l1 Qar.enc,lI l.sheet.end_,lI l.sheet.miles],oS 4 213 l1 Qar.enc]⟩⟩:=by
 unfold QdJ at h
 obtain ⟨r1,h6,h⟩:=Qae h
 obtain ⟨r2,h7,h⟩:=Qae h
 rcases Qah h with ⟨h8,h⟩|⟨h8,h⟩
 ·obtain rfl:=Option.some.inj h
  exact gr 8 [] [hH (.draw 19 []),cC (Qfv h6),cC (Qlm h7),bT h8,hW 5,hH (.nilB 1 4 4)]
 ·rcases Qah h with ⟨h9,h⟩|⟨h9,h⟩
  ·rcases Qah h with ⟨h10,h⟩|⟨h10,h⟩
   ·obtain rfl:=Option.some.inj h
    exact gr 21 [] [hH (.draw 19 []),cC (Qfv h6),cC (Qlm h7),bF h8,bT h9,bT h10,hW 5,hH (.nilB 1 4 4)]
   ·exact gn 23 [4,8,12] [0,1,2,3] [hH (.draw 19 []),cC (Qfv h6),cC (Qlm h7),bF h8,bT h9,bF h10] (QlO Γ rv h)
  ·obtain ⟨x2,h11,h⟩:=Qae h
   obtain ⟨r3,h12,h⟩:=Qae h
   rcases Qah h with ⟨h13,h⟩|⟨h13,h⟩
   ·obtain rfl:=Option.some.inj h
    exact gr 23 [] [hH (.draw 19 []),cC (Qfv h6),cC (Qlm h7),bF h8,bF h9,cE Qav.enc h11,cC (Qr8 h12),bT h13,hW 5,hH (.nilB 1 4 4)]
   ·obtain ⟨h14,h⟩:=Qau h
    exact gn 25 [4,8,12] [0,1,2,5] [hH (.draw 19 []),cC (Qfv h6),cC (Qlm h7),bF h8,bF h9,cE Qav.enc h11,cC (Qr8 h12),bF h13,cE Qav.enc h11,oO (Eq.refl ([(Qar.mk r2.1 r3.1 0 false)].map Qar.enc).length),aO Qar.enc h14] (QlO Γ rv h)
theorem QlM (Γ:Gam) (rv:Qaf×Int) {p l done depart since l1 rest_1 depart1} (h:QeR p l done depart since l1 rest_1 depart1=some rv):Qio Γ rv ⟨[.c 127],⟨163,[vI 2 done,vP 4 0 25,vP 8 1 7,vI 10 depart,vI 11 since,vP 12 2 7],[oX 25 174 (Qax.enc p),oX 7 178 [lI 0,lI 0,.bool false,lI 0,.nils,lI 0,lI 0],oX 7 178 [lI 0,lI 0,.bool rest_1,lI depart1,lO 3 4 l1 Qar.enc,lI l.sheet.end_,lI l.sheet.miles],oS 4 213 l1 Qar.enc]⟩⟩:=by
 unfold QeR at h
 rcases Qah h with ⟨h4,h⟩|⟨h4,h⟩
 ·exact gn 9 [2,4,8,10,11,12,13,14] [0,1,2,3] [nL Qav.enc p.stops,nF h4] (QlN Γ rv h)
 ·obtain ⟨x1,h5,h⟩:=Qae h
  exact gn 9 [2,4,8,10,11,12,13,14] [0,1,2,3] [nL Qav.enc p.stops,nT h4,cE Qav.enc h5] (QlN Γ rv h)
theorem QlL (Γ:Gam) (rv:Qaf×Int) {p l done rest_ depart since} (h:QeQ p l done rest_ depart since=some rv):Qio Γ rv ⟨[.c 15],⟨163,[vI 2 done,vB 3 rest_,vP 4 0 25,vP 5 1 7,vP 8 2 7,vI 10 depart,vI 11 since],[oX 25 174 (Qax.enc p),oX 7 178 (Qaf.enc l),oX 7 178 [lI 0,lI 0,.bool false,lI 0,.nils,lI 0,lI 0]]⟩⟩:=by
 unfold QeQ at h
 obtain ⟨r,h1,h⟩:=Qae h
 rcases Qah h with ⟨h2,h⟩|⟨h2,h⟩
 ·exact gn 11 [2,4,8,10,11,12] [0,2,3,4] [cC (Qd9 h1),bT h2] (QlM Γ rv h)
 ·obtain ⟨x0,h3,h⟩:=Qae h
  exact gn 11 [2,4,8,10,11,12] [0,2,3,4] [cC (Qd9 h1),bF h2,oO (getLo h3),oO (getHi Qar.enc h3),rE Qar.enc h3,hH (.rows ((setI r (subK .i64 done 1) (Qar.mk x0.arrive x0.begin x0.depart rest_)).map Qar.enc)),hH (.relen 4 ((setI r (subK .i64 done 1) (Qar.mk x0.arrive x0.begin x0.depart rest_)).map Qar.enc).length),oO (setM Qar.enc r (subK .i64 done 1) (Qar.mk x0.arrive x0.begin x0.depart rest_)),rp 3 (oO (Qws Qar.enc r (subK .i64 done 1) (Qar.mk x0.arrive x0.begin x0.depart rest_))),oO (getLo (QCH h3 (Qar.mk x0.arrive x0.begin x0.depart rest_))),oO (getHi Qar.enc (QCH h3 (Qar.mk x0.arrive x0.begin x0.depart rest_))),rE Qar.enc (QCH h3 (Qar.mk x0.arrive x0.begin x0.depart rest_)),hH (.rows ((setI (setI r (subK .i64 done 1) (Qar.mk x0.arrive x0.begin x0.depart rest_)) (subK .i64 done 1) (Qar.mk x0.arrive x0.begin depart rest_)).map Qar.enc)),hH (.relen 4 ((setI (setI r (subK .i64 done 1) (Qar.mk x0.arrive x0.begin x0.depart rest_)) (subK .i64 done 1) (Qar.mk x0.arrive x0.begin depart rest_)).map Qar.enc).length),oO (setM Qar.enc (setI r (subK .i64 done 1) (Qar.mk x0.arrive x0.begin x0.depart rest_)) (subK .i64 done 1) (Qar.mk x0.arrive x0.begin depart rest_)),rp 4 (oO (Qws Qar.enc (setI r (subK .i64 done 1) (Qar.mk x0.arrive x0.begin x0.depart rest_)) (subK .i64 done 1) (Qar.mk x0.arrive x0.begin depart rest_)))] (QlM Γ rv h)
theorem Qf2 {p l done rest_} {rv:Qaf×Int} (h:QeL p l done rest_=some rv):AFn Tryz.prog 144 [.agg (Qax.enc p),.agg (Qaf.enc l),.one (lI done),.one (.bool rest_)] [] (.tup [.agg [lI rv.1.ready,lI rv.1.since,.bool rv.1.sheet.rest_,lI rv.1.sheet.depart,lL 4 rv.1.sheet.times Qar.enc,lI rv.1.sheet.end_,lI rv.1.sheet.miles],.one (lI rv.2)]) []:=by
 refine QaL Tryz.func144 (by kernel_rfl) (by kernel_rfl) (fun Γ=>?_)
 unfold QeL at h
 rcases Qah h with ⟨h0,h⟩|⟨h0,h⟩
 ·exact gn 11 [2,3,4,5,8,10,11] [0,1,2] [hH (.draw 6 []),bT h0] (QlL Γ rv h)
 ·exact gn 9 [2,3,4,5,8,10,11] [0,1,2] [hH (.draw 6 []),bF h0] (QlL Γ rv h)
theorem Qsa {l m} {rv:Bool} (h:Qlw l m=some rv):AFn Tryz.prog 147 [.agg (Qaf.enc l),.agg (Qaf.enc m)] [] (one (.bool rv)) []:=by
 refine QaL Tryz.func147 (by kernel_rfl) (by kernel_rfl) (fun Γ=>?_)
 unfold Qlw at h
 obtain rfl:=Option.some.inj h
 exact gr 4 [] [rp 6 hP,rp 4 (oI ((eqI l.ready m.ready)=true)),oR True ((eqI l.ready m.ready)=true)]
theorem QmL {m c} {rv:Bool} (h:QgH m c=some rv):AFn Tryz.prog 146 [.agg (Qaf.enc m),.one (.ip (Qaf.enc c) 0)] [] (one (.bool rv)) []:=by
 refine QaL Tryz.func146 (by kernel_rfl) (by kernel_rfl) (fun Γ=>?_)
 unfold QgH at h
 obtain ⟨r,h0,h⟩:=Qae h
 obtain rfl:=Option.some.inj h
 exact gr 4 [] [cC (Qsa h0)]
def QcL (Γ:Gam) (rv:Int) (cf:Cf):Prop:=Go Tryz.prog Tryz.f171 [] Γ (one (lI rv)) [] cf
def Qcn (Γ:Gam) (rv:Int) (s0:List Qaf) (c:Qaf) (v:Int):Prop:=QcL Γ rv ⟨[.c 52,.l 52,.b 0,.c 7],⟨19,[vL 0 7 s0 Qaf.enc,(1,one (.fn (.func 146) [.ip (Qaf.enc c) 0])),vI 7 (lenI s0),vI 8 v],[]⟩⟩
def Qci (Γ:Gam) (rv:Int) (s0:List Qaf) (c:Qaf):Prop:=QcL Γ rv ⟨[.c 7],⟨19,[],[]⟩⟩
theorem Qew (Γ:Gam) (rv:Int) {s0 c} {s:Int} {e:(Unit)⊕(Int)} (h:loopF (fun s=>Qaw s0 c s) s=some e) (hD:sel e (fun e=>Qci Γ rv s0 c) (fun e=>e=rv)):Qcn Γ rv s0 c s:=by
 refine QaB (C:=fun (s:Int)=>Qcn Γ rv s0 c s) (D:=fun (e:(Unit)⊕(Int))=>sel e (fun e=>Qci Γ rv s0 c) (fun e=>e=rv)) ?_ h hD
 clear h hD s e
 intro v z_ h hI hE
 replace h:Qaw s0 c v=_:=h
 unfold Qaw at h
 rcases Qah h with ⟨h0,h⟩|⟨h0,h⟩
 ·obtain ⟨x0,h1,h⟩:=Qae h
  obtain ⟨r,h2,h⟩:=Qae h
  rcases Qah h with ⟨h3,h⟩|⟨h3,h⟩
  ·obtain rfl:=(hE _ (oJ h):_=rv)
   exact gr 14 [] [bT h0,cE Qaf.enc h1,cC (QmL h2),bT h3]
  ·exact gn 16 [0,1,7,8] [] [bT h0,cE Qaf.enc h1,cC (QmL h2),bF h3] (hI _ (oJ h))
 ·exact gn 5 [] [] [bF h0] (hE _ (oJ h))
theorem Qe5 {s0 c} {rv:Int} (h:Qbe s0 c=some rv):AFn Tryz.prog 171 [.one (lL 7 s0 Qaf.enc),.one (.fn (.func 146) [.ip (Qaf.enc c) 0])] [] (one (lI rv)) []:=by
 refine QaL Tryz.func171 (by kernel_rfl) (by kernel_rfl) (fun Γ=>?_)
 unfold Qbe at h
 obtain ⟨e0,h4,h⟩:=Qae h
 refine gn 7 [0,1,7,8] [] [nL Qaf.enc s0] (Qew Γ rv h4 ?_)
 rcases e0 with e0|e0
 ·replace h:(some (-1):Option Int)=some _:=h
  obtain rfl:=Option.some.inj h
  exact gr 2 [] []
 ·obtain ⟨r1,rfl⟩:∃ x,x=e0:=⟨_,rfl⟩
  replace h:(some r1:Option Int)=some _:=h
  exact Option.some.inj h
theorem Qch {s0 c} {rv:Bool} (h:QaN s0 c=some rv):AFn Tryz.prog 145 [.one (lL 7 s0 Qaf.enc),.one (.fn (.func 146) [.ip (Qaf.enc c) 0])] [] (one (.bool rv)) []:=by
 refine QaL Tryz.func145 (by kernel_rfl) (by kernel_rfl) (fun Γ=>?_)
 unfold QaN at h
 obtain ⟨r,h0,h⟩:=Qae h
 obtain rfl:=Option.some.inj h
 exact gr 4 [] [cC (Qe5 h0)]
def QgI (Γ:Gam) (rv:List Qaf) (cf:Cf):Prop:=Go Tryz.prog Tryz.f116 [] Γ (one (lL 7 rv Qaf.enc)) [] cf
def QmN (Γ:Gam) (rv:List Qaf) (p:Qax) (l:List Qaf) (done:Int) (choices:List Bool) (v:Int) (x0:Qaf) (l3:List Qaf) (v1:Int):Prop:=QgI Γ rv ⟨[.c 128204,.l 128204,.b 2,.b 1,.c 4007,.l 500,.b 0,.c 63],⟨64,[vI 2 done,vP 3 0 25,vL 7 1 choices Qbb,vO 8 1 7 l3 Qaf.enc,vP 10 2 7,vL 29 7 l Qaf.enc,vI 30 (lenI l),vI 31 v,vL 35 1 choices Qbb,vI 36 (lenI choices),vI 37 v1],[oX 25 174 (Qax.enc p),oS 7 178 l3 Qaf.enc,oX 7 178 (Qaf.enc x0)]⟩⟩
def QlK (Γ:Gam) (rv:List Qaf) (p:Qax) (l:List Qaf) (done:Int) (choices:List Bool) (v:Int) (x0:Qaf) (l4:List Qaf):Prop:=QgI Γ rv ⟨[.b 1,.c 4007,.l 500,.b 0,.c 63],⟨64,[vI 2 done,vP 3 0 25,vL 7 1 choices Qbb,vO 8 1 7 l4 Qaf.enc,vL 29 7 l Qaf.enc,vI 30 (lenI l),vI 31 v],[oX 25 174 (Qax.enc p),oS 7 178 l4 Qaf.enc]⟩⟩
def QmM (Γ:Gam) (rv:List Qaf) (p:Qax) (l:List Qaf) (done:Int) (choices:List Bool) (l2:List Qaf) (v:Int):Prop:=QgI Γ rv ⟨[.c 500,.l 500,.b 0,.c 63],⟨64,[vI 2 done,vP 3 0 25,vL 7 1 choices Qbb,vO 8 1 7 l2 Qaf.enc,vL 29 7 l Qaf.enc,vI 30 (lenI l),vI 31 v],[oX 25 174 (Qax.enc p),oS 7 178 l2 Qaf.enc]⟩⟩
def QlJ (Γ:Gam) (rv:List Qaf) (p:Qax) (l:List Qaf) (done:Int) (choices:List Bool) (l5:List Qaf):Prop:=QgI Γ rv ⟨[.c 63],⟨64,[vO 8 0 7 l5 Qaf.enc],[oS 7 178 l5 Qaf.enc]⟩⟩
theorem Qrv (Γ:Gam) (rv:List Qaf) {p l done choices v x0} {s:List Qaf×Int} {e:List Qaf} (h:loopF (fun s=>Qck p l done choices v x0 s.1 s.2) s=some e) (hD:QlK Γ rv p l done choices v x0 e):QmN Γ rv p l done choices v x0 s.1 s.2:=by
 refine QaB (C:=fun (s:List Qaf×Int)=>QmN Γ rv p l done choices v x0 s.1 s.2) (D:=fun (e:List Qaf)=>QlK Γ rv p l done choices v x0 e) ?_ h hD
 clear h hD s e
 rintro ⟨l3,v1⟩ z_ h hI hE
 replace h:Qck p l done choices v x0 l3 v1=_:=h
 unfold Qck at h
 rcases Qah h with ⟨h4,h⟩|⟨h4,h⟩
 ·obtain ⟨x1,h5,h⟩:=Qae h
  obtain ⟨r,h6,h⟩:=Qae h
  rcases Qah h with ⟨h7,h⟩|⟨h7,h⟩
  ·obtain ⟨r1,h8,h⟩:=Qae h
   rcases Qah h with ⟨h9,h⟩|⟨h9,h⟩
   ·exact gn 18 [2,3,7,8,10,29,30,31,35,36,37] [0,1,2] [bT h4,cE Qbb h5,cC (Qf2 h6),rp 3 (bT h7),eL l3 Qaf.enc,cC (Qch h8),bT h7,bT h7,nF h9] (hI _ (oJ h))
   ·obtain ⟨h10,h⟩:=Qau h
    exact gn 18 [2,3,7,8,10,29,30,31,35,36,37] [0,5,2] [bT h4,cE Qbb h5,cC (Qf2 h6),rp 3 (bT h7),eL l3 Qaf.enc,cC (Qch h8),bT h7,bT h7,nT h9,oO (Eq.refl ([r.1].map Qaf.enc).length),aO Qaf.enc h10] (hI _ (oJ h))
  ·exact gn 18 [2,3,7,8,10,29,30,31,35,36,37] [0,1,2] [bT h4,cE Qbb h5,cC (Qf2 h6),rp 5 (bF h7),fF] (hI _ (oJ h))
 ·exact gn 5 [2,3,7,8,29,30,31] [0,1] [bF h4] (hE _ (oJ h))
theorem Qru (Γ:Gam) (rv:List Qaf) {p l done choices} {s:List Qaf×Int} {e:List Qaf} (h:loopF (fun s=>Qcj p l done choices s.1 s.2) s=some e) (hD:QlJ Γ rv p l done choices e):QmM Γ rv p l done choices s.1 s.2:=by
 refine QaB (C:=fun (s:List Qaf×Int)=>QmM Γ rv p l done choices s.1 s.2) (D:=fun (e:List Qaf)=>QlJ Γ rv p l done choices e) ?_ h hD
 clear h hD s e
 rintro ⟨l2,v⟩ z_ h hI hE
 replace h:Qcj p l done choices l2 v=_:=h
 unfold Qcj at h
 rcases Qah h with ⟨h2,h⟩|⟨h2,h⟩
 ·obtain ⟨x0,h3,h⟩:=Qae h
  obtain ⟨e0,h11,h⟩:=Qae h
  refine gn 13 [2,3,7,8,10,29,30,31,35,36,37] [0,1,2] [bT h2,cE Qaf.enc h3,nL Qbb choices] (Qrv Γ rv h11 ?_)
  obtain ⟨l4,rfl⟩:∃ x,x=e0:=⟨_,rfl⟩
  replace h:(some (.inl (l4,(addK .i64 v 1))):Option ((List Qaf×Int)⊕(List Qaf)))=some _:=h
  exact gn 3 [2,3,7,8,29,30,31] [0,1] [] (hI _ (oJ h))
 ·exact gn 5 [8] [1] [bF h2] (hE _ (oJ h))
theorem QlI (Γ:Gam) (rv:List Qaf) {p l done choices} (h:QeP p l done choices=some rv):QgI Γ rv ⟨[.c 15],⟨64,[vL 1 7 l Qaf.enc,vI 2 done,vP 3 0 25,vL 7 1 choices Qbb],[oX 25 174 (Qax.enc p)]⟩⟩:=by
 unfold QeP at h
 obtain ⟨e1,h12,h⟩:=Qae h
 refine gn 7 [2,3,7,8,29,30,31] [0,1] [nL Qaf.enc l,hW 3,hH (.adopt 8 7 178)] (Qru Γ rv h12 ?_)
 obtain ⟨l5,rfl⟩:∃ x,x=e1:=⟨_,rfl⟩
 replace h:(some l5:Option (List Qaf))=some _:=h
 obtain rfl:=Option.some.inj h
 exact gr 2 [] [hW 4,hH (.frz 0),rp 3 (eL l5 Qaf.enc)]
theorem Qtg {p l done} {rv:List Qaf} (h:QfO p l done=some rv):AFn Tryz.prog 116 [.agg (Qax.enc p),.one (lL 7 l Qaf.enc),.one (lI done)] [] (one (lL 7 rv Qaf.enc)) []:=by
 refine QaL Tryz.func116 (by kernel_rfl) (by kernel_rfl) (fun Γ=>?_)
 unfold QfO at h
 rcases Qah h with ⟨h0,h⟩|⟨h0,h⟩
 ·obtain ⟨l1,h1,h⟩:=Qae h
  exact gn 9 [1,2,3,7] [0] [nL Qbb p.r.rests,bT h0,hH (.rows (l1.map Qbb)),oO (sl1 h1),oO (sl2 h1),oO (sl3 Qbb h1),oO (Int.le_refl (addK .i64 done 1)),oO (sl3 Qbb h1),oO (sl6 Qbb h1)] (QlI Γ rv h)
 ·exact gn 9 [1,2,3,7] [0] [nL Qbb p.r.rests,bF h0,hW 1,hH (.frz 1),rp 2 (oO (Eq.refl ([false,true].map Qbb).length))] (QlI Γ rv h)
def Qqk (Γ:Gam) (rv:Qap×Int) (cf:Cf):Prop:=Go Tryz.prog Tryz.f117 [] Γ (.tup [.agg [.bool rv.1.rest_,lI rv.1.depart,lL 4 rv.1.times Qar.enc,lI rv.1.end_,lI rv.1.miles],.one (lI rv.2)]) [] cf
def QnC (Γ:Gam) (rv:Qap×Int) (p:Qax) (rests:List Bool) (r:Qaf) (rest_:Int) (x0:Qaf) (v:Int):Prop:=Qqk Γ rv ⟨[.c 116,.l 116,.b 0,.c 15],⟨36,[vP 2 0 25,vP 4 1 5,vP 6 2 7,vL 13 1 rests Qbb,vI 14 (lenI rests),vI 15 v],[oX 25 174 [lL 1 p.x.net.places e_str,lL 6 p.x.net.arcs Qas.enc,lL 14 p.x.types Qai.enc,lL 16 p.x.orders Qag.enc,lL 2 p.x.apart QaQ.enc,lL 2 p.x.before QaQ.enc,.str p.t.name,lI p.t.count,lI p.t.from_,lI p.t.to_,lL 1 p.t.cap e_i64,lI p.t.skills,lI p.t.profile,lI p.t.open_,lI p.t.close,lI p.t.drive,lI rest_,lI p.t.fixed,lI p.t.perMile,lI p.t.perTick,lI p.r.type_,lI p.r.start,lL 1 p.r.rests Qbb,lL 2 p.r.visits Qaa.enc,lL 4 p.stops Qav.enc],oX 5 101 [.bool false,lI 0,.nils,lI 0,lI 0],oX 7 178 (Qaf.enc x0)]⟩⟩
def QmO (Γ:Gam) (rv:Qap×Int) (p:Qax) (rests:List Bool) (r:Qaf) (x2:Qaf):Prop:=Qqk Γ rv ⟨[.c 15],⟨36,[vP 4 0 5,vP 6 1 7],[oX 5 101 [.bool false,lI 0,.nils,lI 0,lI 0],oX 7 178 (Qaf.enc x2)]⟩⟩
theorem Qsb (Γ:Gam) (rv:Qap×Int) {p rests r} {s:Int×Qaf×Int} {e:(Qaf)⊕(Qap×Int)} (h:loopF (fun s=>Qfo p rests r s.1 s.2.1 s.2.2) s=some e) (hD:sel e (fun e=>QmO Γ rv p rests r e) (fun e=>e=rv)):QnC Γ rv p rests r s.1 s.2.1 s.2.2:=by
 refine QaB (C:=fun (s:Int×Qaf×Int)=>QnC Γ rv p rests r s.1 s.2.1 s.2.2) (D:=fun (e:(Qaf)⊕(Qap×Int))=>sel e (fun e=>QmO Γ rv p rests r e) (fun e=>e=rv)) ?_ h hD
 clear h hD s e
 rintro ⟨rest_,x0,v⟩ z_ h hI hE
 replace h:Qfo p rests r rest_ x0 v=_:=h
 unfold Qfo at h
 rcases Qah h with ⟨h1,h⟩|⟨h1,h⟩
 ·obtain ⟨x1,h2,h⟩:=Qae h
  obtain ⟨r1,h3,h⟩:=Qae h
  rcases Qah h with ⟨h4,h⟩|⟨h4,h⟩
  ·obtain rfl:=(hE _ (oJ h):_=rv)
   exact gr 17 [] [bT h1,cE Qbb h2,cC (Qf2 h3),bT h4,hW 6,hH (.nilB 1 2 4)]
  ·exact gn 20 [2,4,6,13,14,15] [0,1,2] [bT h1,cE Qbb h2,cC (Qf2 h3),bF h4] (hI _ (oJ h))
 ·exact gn 5 [4,6] [1,2] [bF h1] (hE _ (oJ h))
theorem QtZ {p rests} {rv:Qap×Int} (h:Qgp p rests=some rv):AFn Tryz.prog 117 [.agg (Qax.enc p),.one (lL 1 rests Qbb)] [] (.tup [.agg [.bool rv.1.rest_,lI rv.1.depart,lL 4 rv.1.times Qar.enc,lI rv.1.end_,lI rv.1.miles],.one (lI rv.2)]) []:=by
 refine QaL Tryz.func117 (by kernel_rfl) (by kernel_rfl) (fun Γ=>?_)
 unfold Qgp at h
 obtain ⟨r,h0,h⟩:=Qae h
 obtain ⟨e0,h5,h⟩:=Qae h
 refine gn 9 [2,4,6,13,14,15] [0,1,2] [cC (QnB h0),nL Qbb rests] (Qsb Γ rv h5 ?_)
 rcases e0 with e0|e0
 ·obtain ⟨x2,rfl⟩:∃ x,x=e0:=⟨_,rfl⟩
  replace h:(some (x2.sheet,0):Option (Qap×Int))=some _:=h
  obtain rfl:=Option.some.inj h
  exact gr 2 [] []
 ·obtain ⟨r2,rfl⟩:∃ x,x=e0:=⟨_,rfl⟩
  replace h:(some r2:Option (Qap×Int))=some _:=h
  exact Option.some.inj h
def Qpf (Γ:Gam) (rv:Qap×Int) (cf:Cf):Prop:=Go Tryz.prog Tryz.f83 [] Γ (.tup [.agg [.bool rv.1.rest_,lI rv.1.depart,lL 4 rv.1.times Qar.enc,lI rv.1.end_,lI rv.1.miles],.one (lI rv.2)]) [] cf
def QrW (Γ:Gam) (rv:Qap×Int) (r:Qad) (r1:Qax×Bool) (l:List Qaf) (v:Int):Prop:=Qpf Γ rv ⟨[.c 1012,.l 1012,.b 0,.c 127],⟨82,[vP 3 0 4,vP 4 1 5,vP 6 2 25,vI 8 (addK .i64 (lenI r.visits) 1),vL 9 7 l Qaf.enc,vI 38 (addK .i64 (lenI r.visits) 1),vI 39 v],[oX 4 34 (Qad.enc r),oX 5 101 [.bool false,lI 0,.nils,lI 0,lI 0],oX 25 174 (Qax.enc r1.1)]⟩⟩
def Qqh (Γ:Gam) (rv:Qap×Int) (r:Qad) (r1:Qax×Bool) (l1:List Qaf):Prop:=Qpf Γ rv ⟨[.c 127],⟨82,[vP 3 0 4,vP 4 1 5,vP 6 2 25,vI 8 (addK .i64 (lenI r.visits) 1),vL 9 7 l1 Qaf.enc],[oX 4 34 (Qad.enc r),oX 5 101 [.bool false,lI 0,.nils,lI 0,lI 0],oX 25 174 (Qax.enc r1.1)]⟩⟩
def QrX (Γ:Gam) (rv:Qap×Int) (l3:List Qaf) (x2:Qaf) (v1:Int):Prop:=Qpf Γ rv ⟨[.c 8180,.l 8180,.b 2,.c 1023],⟨82,[vP 4 0 5,vP 12 1 7,vL 65 7 l3 Qaf.enc,vI 66 (lenI l3),vI 67 v1],[oX 5 101 [.bool false,lI 0,.nils,lI 0,lI 0],oX 7 178 (Qaf.enc x2)]⟩⟩
def Qqi (Γ:Gam) (rv:Qap×Int) (l3:List Qaf) (x4:Qaf):Prop:=Qpf Γ rv ⟨[.c 1023],⟨82,[vP 4 0 5,vP 12 1 7],[oX 5 101 [.bool false,lI 0,.nils,lI 0,lI 0],oX 7 178 (Qaf.enc x4)]⟩⟩
theorem Qus (Γ:Gam) (rv:Qap×Int) {r r1} {s:List Qaf×Int} {e:List Qaf} (h:loopF (fun s=>Qd5 r r1 s.1 s.2) s=some e) (hD:Qqh Γ rv r r1 e):QrW Γ rv r r1 s.1 s.2:=by
 refine QaB (C:=fun (s:List Qaf×Int)=>QrW Γ rv r r1 s.1 s.2) (D:=fun (e:List Qaf)=>Qqh Γ rv r r1 e) ?_ h hD
 clear h hD s e
 rintro ⟨l,v⟩ z_ h hI hE
 replace h:Qd5 r r1 l v=_:=h
 unfold Qd5 at h
 rcases Qah h with ⟨h3,h⟩|⟨h3,h⟩
 ·obtain ⟨r3,h4,h⟩:=Qae h
  exact gn 13 [3,4,6,8,9,38,39] [0,1,2] [bT h3,cC (Qtg h4)] (hI _ (oJ h))
 ·exact gn 5 [3,4,6,8,9] [0,1,2] [bF h3] (hE _ (oJ h))
theorem Qut (Γ:Gam) (rv:Qap×Int) {l3} {s:Qaf×Int} {e:Qaf} (h:loopF (fun s=>QdB l3 s.1 s.2) s=some e) (hD:Qqi Γ rv l3 e):QrX Γ rv l3 s.1 s.2:=by
 refine QaB (C:=fun (s:Qaf×Int)=>QrX Γ rv l3 s.1 s.2) (D:=fun (e:Qaf)=>Qqi Γ rv l3 e) ?_ h hD
 clear h hD s e
 rintro ⟨x2,v1⟩ z_ h hI hE
 replace h:QdB l3 x2 v1=_:=h
 unfold QdB at h
 rcases Qah h with ⟨h11,h⟩|⟨h11,h⟩
 ·obtain ⟨x3,h12,h⟩:=Qae h
  rcases Qah h with ⟨h13,h⟩|⟨h13,h⟩
  ·exact gn 16 [4,12,65,66,67] [0,1] [bT h11,cE Qaf.enc h12,bT h13] (hI _ (oJ h))
  ·exact gn 16 [4,12,65,66,67] [0,1] [bT h11,cE Qaf.enc h12,bF h13] (hI _ (oJ h))
 ·exact gn 5 [4,12] [0,1] [bF h11] (hE _ (oJ h))
theorem QtN {x0 r} {rv:Qap×Int} (h:Qop x0 r=some rv):AFn Tryz.prog 83 [.agg (Qac.enc x0),.agg (Qad.enc r)] [] (.tup [.agg [.bool rv.1.rest_,lI rv.1.depart,lL 4 rv.1.times Qar.enc,lI rv.1.end_,lI rv.1.miles],.one (lI rv.2)]) []:=by
 refine QaL Tryz.func83 (by kernel_rfl) (by kernel_rfl) (fun Γ=>?_)
 unfold Qop at h
 obtain ⟨r1,h0,h⟩:=Qae h
 rcases Qah h with ⟨h1,h⟩|⟨h1,h⟩
 ·obtain rfl:=Option.some.inj h
  exact gr 12 [] [cC (QtO h0),nL Qaa.enc r.visits,hP,hP,hP,rp 2 (oI ((!r1.2)=false)),nL Qbb r.rests,hP,hP,hP,rp 2 (oI ((!r1.2)=false)),oR True ((!r1.2)=false),bT h1,hW 5,hH (.nilB 2 2 4)]
 ·obtain ⟨r2,h2,h⟩:=Qae h
  obtain ⟨e0,h5,h⟩:=Qae h
  refine gn 18 [3,4,6,8,9,38,39] [1,2,3] [cC (QtO h0),nL Qaa.enc r.visits,hP,hP,hP,rp 2 (oI ((!r1.2)=false)),nL Qbb r.rests,hP,hP,hP,rp 2 (oI ((!r1.2)=false)),oR True ((!r1.2)=false),bF h1,cC (QnB h2),hW 9,hH (.frz 4),rp 2 (oO (Eq.refl ([r2].map Qaf.enc).length))] (Qus Γ rv h5 ?_)
  obtain ⟨l1,rfl⟩:∃ x,x=e0:=⟨_,rfl⟩
  replace h:(br (eqI (lenI l1) 0) (bnd (mkI (addK .i64 (lenI r.visits) 1) (addK .i64 (lenI r.visits) 1) 1 false) fun l2=>bnd (Qgp r1.1 (cpyL l2 r.rests)) fun r4=>some (r4.1,r4.2)) (bnd (getI l1 0) fun x1=>bnd (slcI l1 1 (lenI l1)) fun l3=>bnd (loopF (fun s=>QdB l3 s.1 s.2) (x1,0)) (fun x4=>some (x4.sheet,0))):Option (Qap×Int))=some _:=h
  rcases Qah h with ⟨h6,h⟩|⟨h6,h⟩
  ·obtain ⟨l2,h7,h⟩:=Qae h
   obtain ⟨r4,h8,h⟩:=Qae h
   obtain rfl:=Option.some.inj h
   exact gr 10 [] [nL Qaf.enc l1,bT h6,hH (.cells [.bool false]),hH (.rows (l2.map Qbb)),oO (mk1 h7),oO (mk2 h7),oO (mk3 h7),oO (mk4 h7),oO (mk5 Qbb h7),cY Qbb l2 r.rests,hH (.relen 3 ((cpyL l2 r.rests).map Qbb).length),hW 4,hH (.frz 3),rp 3 (oO (QDY Qbb l2 r.rests)),rp 4 (oO (Eq.refl ((cpyL l2 r.rests).map Qbb).length)),cC (QtZ h8)]
  ·obtain ⟨x1,h9,h⟩:=Qae h
   obtain ⟨l3,h10,h⟩:=Qae h
   obtain ⟨e1,h14,h⟩:=Qae h
   refine gn 12 [4,12,65,66,67] [1,3] [nL Qaf.enc l1,bF h6,cE Qaf.enc h9,hH (.rows (l3.map Qaf.enc)),oO (sl1 h10),oO (sl2h Qaf.enc h10),rp 3 (oO (Int.le_refl ((l1.map Qaf.enc).length:Int))),oO (sl6h Qaf.enc h10),nL Qaf.enc l3] (Qut Γ rv h14 ?_)
   obtain ⟨x4,rfl⟩:∃ x,x=e1:=⟨_,rfl⟩
   replace h:(some (x4.sheet,0):Option (Qap×Int))=some _:=h
   obtain rfl:=Option.some.inj h
   exact gr 2 [] []
theorem Qjw {kind own} {rv:Bool} (h:Qlp kind own=some rv):AFn Tryz.prog 118 [.one (lI kind),.one (lI own)] [] (one (.bool rv)) []:=by
 refine QaL Tryz.func118 (by kernel_rfl) (by kernel_rfl) (fun Γ=>?_)
 unfold Qlp at h
 obtain rfl:=Option.some.inj h
 exact gr 4 [] [rp 4 hP,rp 2 (oI ((neI kind (-1))=true)),oR True ((neI kind (-1))=true)]
def Qq6 (Γ:Gam) (rv:Qaz) (cf:Cf):Prop:=Go Tryz.prog Tryz.f84 [] Γ (gG [lI rv.cost,lI rv.moved,lI rv.other,lI rv.work]) [] cf
def Qni (Γ:Gam) (rv:Qaz) (x0:Qac) (r:Qad) (s0:Qap) (x1:Qai) (l:List (Int×Int)) (moved:Int) (other:Int) (v:Int):Prop:=Qq6 Γ rv ⟨[.c 4084,.l 4084,.b 0,.c 511],⟨114,[vP 3 0 6,vP 4 1 4,vP 6 2 4,vP 10 3 4,(11,one (.mp 4)),vL 59 2 r.visits Qaa.enc,vI 60 (lenI r.visits),vI 61 v],[oX 6 30 (Qac.enc x0),oX 4 34 (Qad.enc r),oX 4 93 [lI 0,lI 0,lI 0,lI 0],oX 4 93 [lI (addK .i64 (addK .i64 x1.fixed (mulK .i64 x1.perMile s0.miles)) (mulK .i64 x1.perTick (subK .i64 s0.end_ x1.open_))),lI moved,lI other,lI (mulK .i64 (quoK .i64 (subK .i64 s0.end_ x1.open_) 64) (quoK .i64 (subK .i64 s0.end_ x1.open_) 64))],oM 183 l (mE lI lI)]⟩⟩
def QlB (Γ:Gam) (rv:Qaz) (x0:Qac) (r:Qad) (s0:Qap) (x1:Qai) (moved2:Int) (other1:Int):Prop:=Qq6 Γ rv ⟨[.c 511],⟨114,[vP 6 0 4,vP 10 1 4],[oX 4 93 [lI 0,lI 0,lI 0,lI 0],oX 4 93 [lI (addK .i64 (addK .i64 x1.fixed (mulK .i64 x1.perMile s0.miles)) (mulK .i64 x1.perTick (subK .i64 s0.end_ x1.open_))),lI moved2,lI other1,lI (mulK .i64 (quoK .i64 (subK .i64 s0.end_ x1.open_) 64) (quoK .i64 (subK .i64 s0.end_ x1.open_) 64))]]⟩⟩
theorem QpO (Γ:Gam) (rv:Qaz) {x0 r s0 x1 l other v x2 x3 moved1} {x:(List (Int×Int)×Int×Int×Int)⊕(Int×Int)} (h:Qjv x0 r s0 x1 l other v x2 x3 moved1=some x) (hI:∀ s:List (Int×Int)×Int×Int×Int,x=.inl s→Qni Γ rv x0 r s0 x1 s.1 s.2.1 s.2.2.1 s.2.2.2) (hE:∀ e:Int×Int,x=.inr e→QlB Γ rv x0 r s0 x1 e.1 e.2):Qq6 Γ rv ⟨[.c 2091423,.b 1,.c 32679,.l 4084,.b 0,.c 511],⟨114,[vP 3 0 6,vP 4 1 4,vP 6 2 4,vP 10 3 4,(11,one (.mp 4)),vP 14 5 16,vL 59 2 r.visits Qaa.enc,vI 60 (lenI r.visits),vI 61 v],[oX 6 30 (Qac.enc x0),oX 4 34 (Qad.enc r),oX 4 93 [lI 0,lI 0,lI 0,lI 0],oX 4 93 [lI (addK .i64 (addK .i64 x1.fixed (mulK .i64 x1.perMile s0.miles)) (mulK .i64 x1.perTick (subK .i64 s0.end_ x1.open_))),lI moved1,lI other,lI (mulK .i64 (quoK .i64 (subK .i64 s0.end_ x1.open_) 64) (quoK .i64 (subK .i64 s0.end_ x1.open_) 64))],oM 183 (mPut eqI l x2.order (addK .i64 (mGet eqI l x2.order 0) 1)) (mE lI lI),oX 16 74 (Qag.enc x3)]⟩⟩:=by
 unfold Qjv at h
 obtain ⟨r2,h9,h⟩:=Qae h
 rcases Qah h with ⟨h10,h⟩|⟨h10,h⟩
 ·exact gn 7 [3,4,6,10,11,59,60,61] [0,1,2,3,4] [cC (Qjw h9),bT h10] (hI _ (oJ h))
 ·exact gn 7 [3,4,6,10,11,59,60,61] [0,1,2,3,4] [cC (Qjw h9),bF h10] (hI _ (oJ h))
theorem Qt7 (Γ:Gam) (rv:Qaz) {x0 r s0 x1} {s:List (Int×Int)×Int×Int×Int} {e:Int×Int} (h:loopF (fun s=>Qd1 x0 r s0 x1 s.1 s.2.1 s.2.2.1 s.2.2.2) s=some e) (hD:QlB Γ rv x0 r s0 x1 e.1 e.2):Qni Γ rv x0 r s0 x1 s.1 s.2.1 s.2.2.1 s.2.2.2:=by
 refine QaB (C:=fun (s:List (Int×Int)×Int×Int×Int)=>Qni Γ rv x0 r s0 x1 s.1 s.2.1 s.2.2.1 s.2.2.2) (D:=fun (e:Int×Int)=>QlB Γ rv x0 r s0 x1 e.1 e.2) ?_ h hD
 clear h hD s e
 rintro ⟨l,moved,other,v⟩ z_ h hI hE
 replace h:Qd1 x0 r s0 x1 l moved other v=_:=h
 unfold Qd1 at h
 rcases Qah h with ⟨h2,h⟩|⟨h2,h⟩
 ·obtain ⟨x2,h3,h⟩:=Qae h
  rcases Qah h with ⟨h4,h⟩|⟨h4,h⟩
  ·exact gn 18 [3,4,6,10,11,59,60,61] [0,1,2,3,4] [bT h2,cE Qaa.enc h3,mG kqI lI l x2.order 0,mU kqI lI l x2.order (addK .i64 (mGet eqI l x2.order 0) 1),rp 5 hP,rp 3 (oI ((ltI x2.order 0)=false)),nL Qag.enc x0.orders,hP,hP,rp 2 (oI ((ltI x2.order 0)=false)),oR True ((ltI x2.order 0)=false),rp 6 (bT h4),tT] (hI _ (oJ h))
  ·rcases Qah h with ⟨h5,h⟩|⟨h5,h⟩
   ·exact gn 18 [3,4,6,10,11,59,60,61] [0,1,2,3,4] [bT h2,cE Qaa.enc h3,mG kqI lI l x2.order 0,mU kqI lI l x2.order (addK .i64 (mGet eqI l x2.order 0) 1),rp 5 hP,rp 3 (oI ((ltI x2.order 0)=false)),nL Qag.enc x0.orders,hP,hP,rp 2 (oI ((ltI x2.order 0)=false)),oR True ((ltI x2.order 0)=false),rp 4 (bF h4),mG kqI lI (mPut eqI l x2.order (addK .i64 (mGet eqI l x2.order 0) 1)) x2.order 0,bF h4,bF h4,bT h5] (hI _ (oJ h))
   ·obtain ⟨x3,h6,h⟩:=Qae h
    obtain ⟨r1,h7,h⟩:=Qae h
    rcases Qah h with ⟨h8,h⟩|⟨h8,h⟩
    ·exact gn 23 [3,4,6,10,11,14,59,60,61] [0,1,2,3,4,6] [bT h2,cE Qaa.enc h3,mG kqI lI l x2.order 0,mU kqI lI l x2.order (addK .i64 (mGet eqI l x2.order 0) 1),rp 5 hP,rp 3 (oI ((ltI x2.order 0)=false)),nL Qag.enc x0.orders,hP,hP,rp 2 (oI ((ltI x2.order 0)=false)),oR True ((ltI x2.order 0)=false),rp 4 (bF h4),mG kqI lI (mPut eqI l x2.order (addK .i64 (mGet eqI l x2.order 0) 1)) x2.order 0,bF h4,bF h4,bF h5,cE Qag.enc h6,cC (Qjw h7),bT h8] (QpO Γ rv h hI hE)
    ·exact gn 23 [3,4,6,10,11,14,59,60,61] [0,1,2,3,4,6] [bT h2,cE Qaa.enc h3,mG kqI lI l x2.order 0,mU kqI lI l x2.order (addK .i64 (mGet eqI l x2.order 0) 1),rp 5 hP,rp 3 (oI ((ltI x2.order 0)=false)),nL Qag.enc x0.orders,hP,hP,rp 2 (oI ((ltI x2.order 0)=false)),oR True ((ltI x2.order 0)=false),rp 4 (bF h4),mG kqI lI (mPut eqI l x2.order (addK .i64 (mGet eqI l x2.order 0) 1)) x2.order 0,bF h4,bF h4,bF h5,cE Qag.enc h6,cC (Qjw h7),bF h8] (QpO Γ rv h hI hE)
 ·exact gn 5 [6,10] [2,3] [bF h2] (hE _ (oJ h))
theorem QvX {x0 r s0} {rv:Qaz} (h:Qo1 x0 r s0=some rv):AFn Tryz.prog 84 [.agg (Qac.enc x0),.agg (Qad.enc r),.agg (Qap.enc s0)] [] (gG [lI rv.cost,lI rv.moved,lI rv.other,lI rv.work]) []:=by
 refine QaL Tryz.func84 (by kernel_rfl) (by kernel_rfl) (fun Γ=>?_)
 unfold Qo1 at h
 rcases Qah h with ⟨h0,h⟩|⟨h0,h⟩
 ·obtain rfl:=Option.some.inj h
  exact gr 8 [] [rp 5 hP,rp 3 (oI ((ltI r.type_ 0)=false)),nL Qai.enc x0.types,hP,hP,rp 2 (oI ((ltI r.type_ 0)=false)),oR True ((ltI r.type_ 0)=false),bT h0]
 ·obtain ⟨x1,h1,h⟩:=Qae h
  obtain ⟨e0,h11,h⟩:=Qae h
  refine gn 22 [3,4,6,10,11,59,60,61] [0,1,3,5,6] [rp 5 hP,rp 3 (oI ((ltI r.type_ 0)=false)),nL Qai.enc x0.types,hP,hP,rp 2 (oI ((ltI r.type_ 0)=false)),oR True ((ltI r.type_ 0)=false),bF h0,cE Qai.enc h1,oO (oA (n:=64)),nL Qaa.enc r.visits] (Qt7 Γ rv h11 ?_)
  obtain ⟨moved2,other1⟩:=e0
  replace h:(some (Qaz.mk (addK .i64 (addK .i64 x1.fixed (mulK .i64 x1.perMile s0.miles)) (mulK .i64 x1.perTick (subK .i64 s0.end_ x1.open_))) moved2 other1 (mulK .i64 (quoK .i64 (subK .i64 s0.end_ x1.open_) 64) (quoK .i64 (subK .i64 s0.end_ x1.open_) 64))):Option Qaz)=some _:=h
  obtain rfl:=Option.some.inj h
  exact gr 2 [] []
theorem QpQ {x0 r} {rv:Qap×Qaz×Int} (h:QgC x0 r=some rv):AFn Tryz.prog 48 [.agg (Qac.enc x0),.agg (Qad.enc r)] [] (.tup [.agg [.bool rv.1.rest_,lI rv.1.depart,lL 4 rv.1.times Qar.enc,lI rv.1.end_,lI rv.1.miles],.agg [lI rv.2.1.cost,lI rv.2.1.moved,lI rv.2.1.other,lI rv.2.1.work],.one (lI rv.2.2)]) []:=by
 refine QaL Tryz.func48 (by kernel_rfl) (by kernel_rfl) (fun Γ=>?_)
 unfold QgC at h
 rcases Qah h with ⟨h0,h⟩|⟨h0,h⟩
 ·obtain rfl:=Option.some.inj h
  exact gr 8 [] [rp 5 hP,rp 3 (oI ((ltI r.type_ 0)=false)),nL Qai.enc x0.types,hP,hP,rp 2 (oI ((ltI r.type_ 0)=false)),oR True ((ltI r.type_ 0)=false),bT h0,hW 7,hH (.nilB 2 2 4)]
 ·obtain ⟨r1,h1,h⟩:=Qae h
  rcases Qah h with ⟨h2,h⟩|⟨h2,h⟩
  ·obtain rfl:=Option.some.inj h
   exact gr 28 [] [rp 5 hP,rp 3 (oI ((ltI r.type_ 0)=false)),nL Qai.enc x0.types,hP,hP,rp 2 (oI ((ltI r.type_ 0)=false)),oR True ((ltI r.type_ 0)=false),bF h0,nL e_fn [80,81,82],tT,oO (getLo (rfl:getI ([80,81,82]:List Nat) 0=some 80)),oO (getHi e_fn (rfl:getI ([80,81,82]:List Nat) 0=some 80)),rE e_fn (rfl:getI ([80,81,82]:List Nat) 0=some 80),cC (QdF h1),bT h2,hW 8,hH (.nilB 2 2 4)]
  ·obtain ⟨r2,h3,h⟩:=Qae h
   rcases Qah h with ⟨h4,h⟩|⟨h4,h⟩
   ·obtain rfl:=Option.some.inj h
    exact gr 46 [] [rp 5 hP,rp 3 (oI ((ltI r.type_ 0)=false)),nL Qai.enc x0.types,hP,hP,rp 2 (oI ((ltI r.type_ 0)=false)),oR True ((ltI r.type_ 0)=false),bF h0,nL e_fn [80,81,82],tT,oO (getLo (rfl:getI ([80,81,82]:List Nat) 0=some 80)),oO (getHi e_fn (rfl:getI ([80,81,82]:List Nat) 0=some 80)),rE e_fn (rfl:getI ([80,81,82]:List Nat) 0=some 80),cC (QdF h1),bF h2,tT,oO (getLo (rfl:getI ([80,81,82]:List Nat) 1=some 81)),oO (getHi e_fn (rfl:getI ([80,81,82]:List Nat) 1=some 81)),rE e_fn (rfl:getI ([80,81,82]:List Nat) 1=some 81),cC (Qn2 h3),bT h4,hW 8,hH (.nilB 2 2 4)]
   ·obtain ⟨r3,h5,h⟩:=Qae h
    rcases Qah h with ⟨h6,h⟩|⟨h6,h⟩
    ·obtain rfl:=Option.some.inj h
     exact gr 64 [] [rp 5 hP,rp 3 (oI ((ltI r.type_ 0)=false)),nL Qai.enc x0.types,hP,hP,rp 2 (oI ((ltI r.type_ 0)=false)),oR True ((ltI r.type_ 0)=false),bF h0,nL e_fn [80,81,82],tT,oO (getLo (rfl:getI ([80,81,82]:List Nat) 0=some 80)),oO (getHi e_fn (rfl:getI ([80,81,82]:List Nat) 0=some 80)),rE e_fn (rfl:getI ([80,81,82]:List Nat) 0=some 80),cC (QdF h1),bF h2,tT,oO (getLo (rfl:getI ([80,81,82]:List Nat) 1=some 81)),oO (getHi e_fn (rfl:getI ([80,81,82]:List Nat) 1=some 81)),rE e_fn (rfl:getI ([80,81,82]:List Nat) 1=some 81),cC (Qn2 h3),bF h4,tT,oO (getLo (rfl:getI ([80,81,82]:List Nat) 2=some 82)),oO (getHi e_fn (rfl:getI ([80,81,82]:List Nat) 2=some 82)),rE e_fn (rfl:getI ([80,81,82]:List Nat) 2=some 82),cC (Qqd h5),bT h6,hW 8,hH (.nilB 2 2 4)]
    ·obtain ⟨r4,h7,h⟩:=Qae h
     rcases Qah h with ⟨h8,h⟩|⟨h8,h⟩
     ·obtain rfl:=Option.some.inj h
      exact gr 79 [] [rp 5 hP,rp 3 (oI ((ltI r.type_ 0)=false)),nL Qai.enc x0.types,hP,hP,rp 2 (oI ((ltI r.type_ 0)=false)),oR True ((ltI r.type_ 0)=false),bF h0,nL e_fn [80,81,82],tT,oO (getLo (rfl:getI ([80,81,82]:List Nat) 0=some 80)),oO (getHi e_fn (rfl:getI ([80,81,82]:List Nat) 0=some 80)),rE e_fn (rfl:getI ([80,81,82]:List Nat) 0=some 80),cC (QdF h1),bF h2,tT,oO (getLo (rfl:getI ([80,81,82]:List Nat) 1=some 81)),oO (getHi e_fn (rfl:getI ([80,81,82]:List Nat) 1=some 81)),rE e_fn (rfl:getI ([80,81,82]:List Nat) 1=some 81),cC (Qn2 h3),bF h4,tT,oO (getLo (rfl:getI ([80,81,82]:List Nat) 2=some 82)),oO (getHi e_fn (rfl:getI ([80,81,82]:List Nat) 2=some 82)),rE e_fn (rfl:getI ([80,81,82]:List Nat) 2=some 82),cC (Qqd h5),bF h6,fF,cC (QtN h7),bT h8,hW 8,hH (.nilB 2 2 4)]
     ·obtain ⟨r5,h9,h⟩:=Qae h
      obtain rfl:=Option.some.inj h
      exact gr 80 [] [rp 5 hP,rp 3 (oI ((ltI r.type_ 0)=false)),nL Qai.enc x0.types,hP,hP,rp 2 (oI ((ltI r.type_ 0)=false)),oR True ((ltI r.type_ 0)=false),bF h0,nL e_fn [80,81,82],tT,oO (getLo (rfl:getI ([80,81,82]:List Nat) 0=some 80)),oO (getHi e_fn (rfl:getI ([80,81,82]:List Nat) 0=some 80)),rE e_fn (rfl:getI ([80,81,82]:List Nat) 0=some 80),cC (QdF h1),bF h2,tT,oO (getLo (rfl:getI ([80,81,82]:List Nat) 1=some 81)),oO (getHi e_fn (rfl:getI ([80,81,82]:List Nat) 1=some 81)),rE e_fn (rfl:getI ([80,81,82]:List Nat) 1=some 81),cC (Qn2 h3),bF h4,tT,oO (getLo (rfl:getI ([80,81,82]:List Nat) 2=some 82)),oO (getHi e_fn (rfl:getI ([80,81,82]:List Nat) 2=some 82)),rE e_fn (rfl:getI ([80,81,82]:List Nat) 2=some 82),cC (Qqd h5),bF h6,fF,cC (QtN h7),bF h8,hH (.draw 5 []),cC (QvX h9)]
theorem QhV {s0} {rv:QyC} (h:Qo2 s0=some rv):AFn Tryz.prog 85 [.agg (Qaz.enc s0)] [] (gG [lI rv.x0,lI rv.x1,lI rv.x2,lI rv.x3]) []:=by
 refine QaL Tryz.func85 (by kernel_rfl) (by kernel_rfl) (fun Γ=>?_)
 unfold Qo2 at h
 obtain rfl:=Option.some.inj h
 exact gr 4 [] []
theorem Qr4 {s0} {rv:Int×Int} (h:QhG s0=some rv):AFn Tryz.prog 49 [.agg (Qaz.enc s0)] [] (.tup [.one (lI rv.1),.one (lI rv.2)]) []:=by
 refine QaL Tryz.func49 (by kernel_rfl) (by kernel_rfl) (fun Γ=>?_)
 unfold QhG at h
 obtain ⟨r,h0,h⟩:=Qae h
 rcases Qah h with ⟨h1,h⟩|⟨h1,h⟩
 ·obtain rfl:=Option.some.inj h
  exact gr 23 [] [cC (QhV h0),tT,oO (zL 0),oO (lT 0 4),bT h1]
 ·rcases Qah h with ⟨h2,h⟩|⟨h2,h⟩
  ·obtain rfl:=Option.some.inj h
   exact gr 39 [] [cC (QhV h0),tT,oO (zL 0),oO (lT 0 4),bF h1,tT,oO (zL 1),oO (lT 1 4),bT h2]
  ·rcases Qah h with ⟨h3,h⟩|⟨h3,h⟩
   ·obtain rfl:=Option.some.inj h
    exact gr 55 [] [cC (QhV h0),tT,oO (zL 0),oO (lT 0 4),bF h1,tT,oO (zL 1),oO (lT 1 4),bF h2,tT,oO (zL 2),oO (lT 2 4),bT h3]
   ·rcases Qah h with ⟨h4,h⟩|⟨h4,h⟩
    ·obtain rfl:=Option.some.inj h
     exact gr 71 [] [cC (QhV h0),tT,oO (zL 0),oO (lT 0 4),bF h1,tT,oO (zL 1),oO (lT 1 4),bF h2,tT,oO (zL 2),oO (lT 2 4),bF h3,tT,oO (zL 3),oO (lT 3 4),bT h4]
    ·rcases Qah h with ⟨h5,h⟩|⟨h5,h⟩
     ·obtain rfl:=Option.some.inj h
      exact gr 84 [] [cC (QhV h0),tT,oO (zL 0),oO (lT 0 4),bF h1,tT,oO (zL 1),oO (lT 1 4),bF h2,tT,oO (zL 2),oO (lT 2 4),bF h3,tT,oO (zL 3),oO (lT 3 4),bF h4,fF,rp 12 hP,rp 2 (oI ((gtI s0.cost 1073741824)=false)),oR True ((gtI s0.cost 1073741824)=false),rp 2 (oI (((gtI s0.cost 1073741824)||(geI s0.moved 16))=false)),oR True (((gtI s0.cost 1073741824)||(geI s0.moved 16))=false),rp 2 (oI ((((gtI s0.cost 1073741824)||(geI s0.moved 16))||(geI s0.other 16))=false)),oR True ((((gtI s0.cost 1073741824)||(geI s0.moved 16))||(geI s0.other 16))=false),bT h5]
     ·obtain rfl:=Option.some.inj h
      exact gr 85 [] [cC (QhV h0),tT,oO (zL 0),oO (lT 0 4),bF h1,tT,oO (zL 1),oO (lT 1 4),bF h2,tT,oO (zL 2),oO (lT 2 4),bF h3,tT,oO (zL 3),oO (lT 3 4),bF h4,fF,rp 12 hP,rp 2 (oI ((gtI s0.cost 1073741824)=false)),oR True ((gtI s0.cost 1073741824)=false),rp 2 (oI (((gtI s0.cost 1073741824)||(geI s0.moved 16))=false)),oR True (((gtI s0.cost 1073741824)||(geI s0.moved 16))=false),rp 2 (oI ((((gtI s0.cost 1073741824)||(geI s0.moved 16))||(geI s0.other 16))=false)),oR True ((((gtI s0.cost 1073741824)||(geI s0.moved 16))||(geI s0.other 16))=false),bF h5]
theorem QgD {x0 r} {rv:Int×Int} (h:Qg3 x0 r=some rv):AFn Tryz.prog 17 [.agg (Qac.enc x0),.agg (Qad.enc r)] [] (.tup [.one (lI rv.1),.one (lI rv.2)]) []:=by
 refine QaL Tryz.func17 (by kernel_rfl) (by kernel_rfl) (fun Γ=>?_)
 unfold Qg3 at h
 obtain ⟨r1,h0,h⟩:=Qae h
 rcases Qah h with ⟨h1,h⟩|⟨h1,h⟩
 ·obtain rfl:=Option.some.inj h
  exact gr 10 [] [cC (QpQ h0),bT h1]
 ·obtain ⟨r2,h2,h⟩:=Qae h
  obtain rfl:=Option.some.inj h
  exact gr 11 [] [cC (QpQ h0),bF h1,cC (Qr4 h2)]
theorem Qe6 {x0 order} {rv:Int} (h:QiI x0 order=some rv):AFn Tryz.prog 25 [.agg (Qac.enc x0),.one (lI order)] [] (one (lI rv)) []:=by
 refine QaL Tryz.func25 (by kernel_rfl) (by kernel_rfl) (fun Γ=>?_)
 unfold QiI at h
 rcases Qah h with ⟨h0,h⟩|⟨h0,h⟩
 ·obtain rfl:=Option.some.inj h
  exact gr 9 [] [rp 4 hP,rp 2 (oI ((ltI order 0)=false)),nL Qag.enc x0.orders,hP,hP,rp 2 (oI ((ltI order 0)=false)),oR True ((ltI order 0)=false),bT h0]
 ·obtain ⟨x1,h1,h⟩:=Qae h
  rcases Qah h with ⟨h2,h⟩|⟨h2,h⟩
  ·obtain rfl:=Option.some.inj h
   exact gr 12 [] [rp 4 hP,rp 2 (oI ((ltI order 0)=false)),nL Qag.enc x0.orders,hP,hP,rp 2 (oI ((ltI order 0)=false)),oR True ((ltI order 0)=false),bF h0,cE Qag.enc h1,bT h2]
  ·obtain rfl:=Option.some.inj h
   exact gr 14 [] [rp 4 hP,rp 2 (oI ((ltI order 0)=false)),nL Qag.enc x0.orders,hP,hP,rp 2 (oI ((ltI order 0)=false)),oR True ((ltI order 0)=false),bF h0,cE Qag.enc h1,bF h2]
theorem Qoy {v c} {rv:Bool} (h:Qkl v c=some rv):AFn Tryz.prog 64 [.agg (Qaa.enc v),.one (.ip [lI c] 0)] [] (one (.bool rv)) []:=by
 refine QaL Tryz.func64 (by kernel_rfl) (by kernel_rfl) (fun Γ=>?_)
 unfold Qkl at h
 obtain rfl:=Option.some.inj h
 exact gr 4 [] []
def Qc3 (Γ:Gam) (rv:Int) (cf:Cf):Prop:=Go Tryz.prog Tryz.f94 [] Γ (one (lI rv)) [] cf
def QcE (Γ:Gam) (rv:Int) (s0:List Qaa) (c:Int) (v:Int):Prop:=Qc3 Γ rv ⟨[.c 52,.l 52,.b 0,.c 7],⟨19,[vL 0 2 s0 Qaa.enc,(1,one (.fn (.func 64) [.ip [lI c] 0])),vI 7 (lenI s0),vI 8 v],[]⟩⟩
def Qcz (Γ:Gam) (rv:Int) (s0:List Qaa) (c:Int):Prop:=Qc3 Γ rv ⟨[.c 7],⟨19,[],[]⟩⟩
theorem QeK (Γ:Gam) (rv:Int) {s0 c} {s:Int} {e:(Unit)⊕(Int)} (h:loopF (fun s=>QaT s0 c s) s=some e) (hD:sel e (fun e=>Qcz Γ rv s0 c) (fun e=>e=rv)):QcE Γ rv s0 c s:=by
 refine QaB (C:=fun (s:Int)=>QcE Γ rv s0 c s) (D:=fun (e:(Unit)⊕(Int))=>sel e (fun e=>Qcz Γ rv s0 c) (fun e=>e=rv)) ?_ h hD
 clear h hD s e
 intro v z_ h hI hE
 replace h:QaT s0 c v=_:=h
 unfold QaT at h
 rcases Qah h with ⟨h0,h⟩|⟨h0,h⟩
 ·obtain ⟨x0,h1,h⟩:=Qae h
  obtain ⟨r,h2,h⟩:=Qae h
  rcases Qah h with ⟨h3,h⟩|⟨h3,h⟩
  ·obtain rfl:=(hE _ (oJ h):_=rv)
   exact gr 14 [] [bT h0,cE Qaa.enc h1,cC (Qoy h2),bT h3]
  ·exact gn 16 [0,1,7,8] [] [bT h0,cE Qaa.enc h1,cC (Qoy h2),bF h3] (hI _ (oJ h))
 ·exact gn 5 [] [] [bF h0] (hE _ (oJ h))
theorem Qfk {s0 c} {rv:Int} (h:Qbk s0 c=some rv):AFn Tryz.prog 94 [.one (lL 2 s0 Qaa.enc),.one (.fn (.func 64) [.ip [lI c] 0])] [] (one (lI rv)) []:=by
 refine QaL Tryz.func94 (by kernel_rfl) (by kernel_rfl) (fun Γ=>?_)
 unfold Qbk at h
 obtain ⟨e0,h4,h⟩:=Qae h
 refine gn 7 [0,1,7,8] [] [nL Qaa.enc s0] (QeK Γ rv h4 ?_)
 rcases e0 with e0|e0
 ·replace h:(some (-1):Option Int)=some _:=h
  obtain rfl:=Option.some.inj h
  exact gr 2 [] []
 ·obtain ⟨r1,rfl⟩:∃ x,x=e0:=⟨_,rfl⟩
  replace h:(some r1:Option Int)=some _:=h
  exact Option.some.inj h
theorem QeH {s0 c} {rv:Bool} (h:Qbc s0 c=some rv):AFn Tryz.prog 63 [.one (lL 2 s0 Qaa.enc),.one (.fn (.func 64) [.ip [lI c] 0])] [] (one (.bool rv)) []:=by
 refine QaL Tryz.func63 (by kernel_rfl) (by kernel_rfl) (fun Γ=>?_)
 unfold Qbc at h
 obtain ⟨r,h0,h⟩:=Qae h
 obtain rfl:=Option.some.inj h
 exact gr 4 [] [cC (Qfk h0)]
theorem QmR {r order} {rv:Bool} (h:QiM r order=some rv):AFn Tryz.prog 26 [.agg (Qad.enc r),.one (lI order)] [] (one (.bool rv)) []:=by
 refine QaL Tryz.func26 (by kernel_rfl) (by kernel_rfl) (fun Γ=>?_)
 unfold QiM at h
 obtain ⟨r1,h0,h⟩:=Qae h
 obtain rfl:=Option.some.inj h
 exact gr 4 [] [cC (QeH h0)]
theorem Qg5 {s0} {rv:List Qaa} (h:Qbr s0=some rv):AFn Tryz.prog 66 [.one (lL 2 s0 Qaa.enc)] [] (one (lO 0 2 rv Qaa.enc)) [oS 2 52 rv Qaa.enc]:=by
 refine QaL Tryz.func66 (by kernel_rfl) (by kernel_rfl) (fun Γ=>?_)
 unfold Qbr at h
 rcases Qah h with ⟨h0,h⟩|⟨h0,h⟩
 ·obtain ⟨hx,h⟩:=QwX h
  refine gn 5 [0,4] [] [hH (.skip)] (cf':=⟨[.c 13,.c 7],⟨8,[vL 0 2 s0 Qaa.enc,(4,.boo)],[]⟩⟩) (go_amb 4 rfl ?_ ?_)
  ·replace h:=hx
   obtain rfl:=Option.some.inj h
   exact gr 3 [0] [tT,hW 3,hH (.adopt 2 2 52)]
  ·obtain ⟨h1,h⟩:=Qau h
   obtain rfl:=Option.some.inj h
   exact gr 4 [0] [fF,aZ Qaa.enc h1]
 ·obtain ⟨h2,h⟩:=Qau h
  obtain rfl:=Option.some.inj h
  exact gr 9 [0] [oO (neE Qaa.enc h0),fF,hH (.bit false),aZ Qaa.enc h2]
def QrZ (Γ:Gam) (rv:List (List Qaa)) (cf:Cf):Prop:=Go Tryz.prog Tryz.f27 [] Γ (one (lL 1 rv es_T_api_Visit.enc)) [] cf
def Qow (Γ:Gam) (rv:List (List Qaa)) (self:(List Qaa)→(List Qaa)→Int→Option (List (List Qaa))) (l:List Qaa) (more:List Qaa) (l1:List (List Qaa)) (at_:Int):Prop:=QrZ Γ rv ⟨[.c 244,.l 244,.b 0,.c 31],⟨37,[vL 0 2 l Qaa.enc,vL 1 2 more Qaa.enc,vO 7 0 1 l1 es_T_api_Visit.enc,vI 8 at_],[oS 1 32 l1 es_T_api_Visit.enc]⟩⟩
def QnI (Γ:Gam) (rv:List (List Qaa)) (self:(List Qaa)→(List Qaa)→Int→Option (List (List Qaa))) (l:List Qaa) (more:List Qaa) (l3:List (List Qaa)):Prop:=QrZ Γ rv ⟨[.c 31],⟨37,[vO 7 0 1 l3 es_T_api_Visit.enc],[oS 1 32 l3 es_T_api_Visit.enc]⟩⟩
theorem QsJ (Γ:Gam) (rv:List (List Qaa)) {self:(List Qaa)→(List Qaa)→Int→Option (List (List Qaa))} (hself:∀ {l:List Qaa} {more:List Qaa} {from_:Int} {rv:List (List Qaa)},self l more from_=some rv→AFn Tryz.prog 27 [.one (lL 2 l Qaa.enc),.one (lL 2 more Qaa.enc),.one (lI from_)] [] (one (lL 1 rv es_T_api_Visit.enc)) []) {l more} {s:List (List Qaa)×Int} {e:List (List Qaa)} (h:loopF (fun s=>Qd6 self l more s.1 s.2) s=some e) (hD:QnI Γ rv self l more e):Qow Γ rv self l more s.1 s.2:=by
 refine QaB (C:=fun (s:List (List Qaa)×Int)=>Qow Γ rv self l more s.1 s.2) (D:=fun (e:List (List Qaa))=>QnI Γ rv self l more e) ?_ h hD
 clear h hD s e
 rintro ⟨l1,at_⟩ z_ h hI hE
 replace h:Qd6 self l more l1 at_=_:=h
 unfold Qd6 at h
 rcases Qah h with ⟨h1,h⟩|⟨h1,h⟩
 ·obtain ⟨r,h2,h⟩:=Qae h
  obtain ⟨x0,h3,h⟩:=Qae h
  obtain ⟨r1,h4,h⟩:=Qae h
  obtain ⟨l2,h5,h⟩:=Qae h
  obtain ⟨r2,h6,h⟩:=Qae h
  obtain ⟨h7,h⟩:=Qau h
  exact gn 11 [0,1,7,8] [3] [nL Qaa.enc l,bT h1,hH (.draw 14 [(1,8),(2,8)]),cC (Qg5 h2),cE Qaa.enc h3,cI [1,2] (QBj (enc:=Qaa.enc) (fun _=>rfl) h4),hH (.rows (l2.map Qaa.enc)),oO (sl1 h5),oO (sl2h Qaa.enc h5),rp 3 (oO (Int.le_refl ((more.map Qaa.enc).length:Int))),oO (sl6h Qaa.enc h5),cC (hself h6),aO es_T_api_Visit.enc h7] (hI _ (oJ h))
 ·exact gn 5 [7] [0] [nL Qaa.enc l,bF h1] (hE _ (oJ h))
theorem Qtk {self:(List Qaa)→(List Qaa)→Int→Option (List (List Qaa))} (hself:∀ {l:List Qaa} {more:List Qaa} {from_:Int} {rv:List (List Qaa)},self l more from_=some rv→AFn Tryz.prog 27 [.one (lL 2 l Qaa.enc),.one (lL 2 more Qaa.enc),.one (lI from_)] [] (one (lL 1 rv es_T_api_Visit.enc)) []) {l more from_} {rv:List (List Qaa)} (h:QfP self l more from_=some rv):AFn Tryz.prog 27 [.one (lL 2 l Qaa.enc),.one (lL 2 more Qaa.enc),.one (lI from_)] [] (one (lL 1 rv es_T_api_Visit.enc)) []:=by
 refine QaL Tryz.func27 (by kernel_rfl) (by kernel_rfl) (fun Γ=>?_)
 unfold QfP at h
 rcases Qah h with ⟨h0,h⟩|⟨h0,h⟩
 ·obtain rfl:=Option.some.inj h
  exact gr 8 [] [nL Qaa.enc more,bT h0,hW 5,hH (.frz 0),rp 2 (oO (Eq.refl ([l].map es_T_api_Visit.enc).length))]
 ·obtain ⟨e0,h8,h⟩:=Qae h
  refine gn 14 [0,1,7,8] [0] [nL Qaa.enc more,bF h0,hW 11,hH (.adopt 7 1 32)] (QsJ Γ rv hself h8 ?_)
  obtain ⟨l3,rfl⟩:∃ x,x=e0:=⟨_,rfl⟩
  replace h:(some l3:Option (List (List Qaa)))=some _:=h
  obtain rfl:=Option.some.inj h
  exact gr 2 [] [hW 4,hH (.frz 0),rp 3 (eL l3 es_T_api_Visit.enc)]
theorem QpA:∀ n,∀ {l:List Qaa} {more:List Qaa} {from_:Int} {rv:List (List Qaa)},QeM n l more from_=some rv→AFn Tryz.prog 27 [.one (lL 2 l Qaa.enc),.one (lL 2 more Qaa.enc),.one (lI from_)] [] (one (lL 1 rv es_T_api_Visit.enc)) []
 | 0=>fun h=>nomatch h
 | n+1=>fun h=>Qtk (QpA n) h
theorem Quz:∀ {l:List Qaa} {more:List Qaa} {from_:Int} {rv:List (List Qaa)},QnH l more from_=some rv→AFn Tryz.prog 27 [.one (lL 2 l Qaa.enc),.one (lL 2 more Qaa.enc),.one (lI from_)] [] (one (lL 1 rv es_T_api_Visit.enc)) []:=QpA _
theorem Qmu {v} {rv:Int} (h:Qe2 v=some rv):AFn Tryz.prog 97 [.agg (Qaa.enc v)] [] (one (lI rv)) []:=by
 refine QaL Tryz.func97 (by kernel_rfl) (by kernel_rfl) (fun Γ=>?_)
 unfold Qe2 at h
 rcases Qah h with ⟨h0,h⟩|⟨h0,h⟩
 ·obtain rfl:=Option.some.inj h
  exact gr 8 [] [bT h0]
 ·obtain rfl:=Option.some.inj h
  exact gr 9 [] [bF h0]
def QtM (Γ:Gam) (rv:Int) (cf:Cf):Prop:=Go Tryz.prog Tryz.f98 [] Γ (one (lI rv)) [] cf
def Qqg (Γ:Gam) (rv:Int) (vals:List Int) (v:Int):Prop:=QtM Γ rv ⟨[.c 116,.l 116,.b 0,.c 15],⟨18,[vI 3 0,vL 6 1 vals e_i64,vI 7 (lenI vals),vI 8 v],[]⟩⟩
def Qpv (Γ:Gam) (rv:Int) (vals:List Int):Prop:=QtM Γ rv ⟨[.c 15],⟨18,[vI 3 0],[]⟩⟩
theorem QtY (Γ:Gam) (rv:Int) {vals} {s:Int} {e:(Unit)⊕(Int)} (h:loopF (fun s=>QdV vals s) s=some e) (hD:sel e (fun e=>Qpv Γ rv vals) (fun e=>e=rv)):Qqg Γ rv vals s:=by
 refine QaB (C:=fun (s:Int)=>Qqg Γ rv vals s) (D:=fun (e:(Unit)⊕(Int))=>sel e (fun e=>Qpv Γ rv vals) (fun e=>e=rv)) ?_ h hD
 clear h hD s e
 intro v z_ h hI hE
 replace h:QdV vals v=_:=h
 unfold QdV at h
 rcases Qah h with ⟨h0,h⟩|⟨h0,h⟩
 ·obtain ⟨x0,h1,h⟩:=Qae h
  rcases Qah h with ⟨h2,h⟩|⟨h2,h⟩
  ·obtain rfl:=(hE _ (oJ h):_=rv)
   exact gr 14 [] [bT h0,cE e_i64 h1,bT h2]
  ·exact gn 16 [3,6,7,8] [] [bT h0,cE e_i64 h1,bF h2] (hI _ (oJ h))
 ·exact gn 5 [3] [] [bF h0] (hE _ (oJ h))
theorem QvE {vals} {rv:Int} (h:Qon vals=some rv):AFn Tryz.prog 98 [.one (lL 1 vals e_i64)] [] (one (lI rv)) []:=by
 refine QaL Tryz.func98 (by kernel_rfl) (by kernel_rfl) (fun Γ=>?_)
 unfold Qon at h
 obtain ⟨e0,h3,h⟩:=Qae h
 refine gn 9 [3,6,7,8] [] [nL e_i64 vals] (QtY Γ rv h3 ?_)
 rcases e0 with e0|e0
 ·replace h:(some 0:Option Int)=some _:=h
  obtain rfl:=Option.some.inj h
  exact gr 2 [] []
 ·obtain ⟨r,rfl⟩:∃ x,x=e0:=⟨_,rfl⟩
  replace h:(some r:Option Int)=some _:=h
  exact Option.some.inj h
theorem QbV {x0} {rv:Bool} (h:Qi6 x0=some rv):AFn Tryz.prog 128 [.one (lI x0)] [] (one (.bool rv)) []:=by
 refine QaL Tryz.func128 (by kernel_rfl) (by kernel_rfl) (fun Γ=>?_)
 unfold Qi6 at h
 obtain rfl:=Option.some.inj h
 exact gr 4 [] []
theorem QnA {x0 y} {rv:Int} (h:Qf1 x0 y=some rv):AFn Tryz.prog 99 [.one (lI x0),.one (lI y)] [] (one (lI rv)) []:=by
 refine QaL Tryz.func99 (by kernel_rfl) (by kernel_rfl) (fun Γ=>?_)
 unfold Qf1 at h
 obtain ⟨r,h0,h⟩:=Qae h
 obtain ⟨r1,h1,h⟩:=Qae h
 rcases Qah h with ⟨h2,h⟩|⟨h2,h⟩
 ·rcases Qah h with ⟨h3,h⟩|⟨h3,h⟩
  ·obtain rfl:=Option.some.inj h
   exact gr 16 [] [cC (QbV h0),cC (QbV h1),bT h2,bT h3]
  ·obtain rfl:=Option.some.inj h
   exact gr 17 [] [cC (QbV h0),cC (QbV h1),bT h2,bF h3]
 ·rcases Qah h with ⟨h4,h⟩|⟨h4,h⟩
  ·obtain rfl:=Option.some.inj h
   exact gr 17 [] [cC (QbV h0),cC (QbV h1),bF h2,bT h4]
  ·rcases Qah h with ⟨h5,h⟩|⟨h5,h⟩
   ·obtain rfl:=Option.some.inj h
    exact gr 22 [] [cC (QbV h0),cC (QbV h1),bF h2,bF h4,bT h5]
   ·rcases Qah h with ⟨h6,h⟩|⟨h6,h⟩
    ·obtain rfl:=Option.some.inj h
     exact gr 27 [] [cC (QbV h0),cC (QbV h1),bF h2,bF h4,bF h5,bT h6]
    ·obtain rfl:=Option.some.inj h
     exact gr 28 [] [cC (QbV h0),cC (QbV h1),bF h2,bF h4,bF h5,bF h6]
theorem Qob {a b} {rv:Int} (h:QhH a b=some rv):AFn Tryz.prog 68 [.agg (Qaa.enc a),.agg (Qaa.enc b)] [] (one (lI rv)) []:=by
 refine QaL Tryz.func68 (by kernel_rfl) (by kernel_rfl) (fun Γ=>?_)
 unfold QhH at h
 obtain ⟨r,h0,h⟩:=Qae h
 obtain ⟨r1,h1,h⟩:=Qae h
 obtain ⟨r2,h2,h⟩:=Qae h
 obtain ⟨r3,h3,h⟩:=Qae h
 obtain ⟨r4,h4,h⟩:=Qae h
 obtain rfl:=Option.some.inj h
 exact gr 6 [] [hH (.draw 15 []),cC (QnA h0),cC (Qmu h1),cC (Qmu h2),cC (QnA h3),oO (Eq.refl ([r,r3].map e_i64).length),cC (QvE h4)]
def Qbs (Γ:Gam) (rv:Int) (cf:Cf):Prop:=Go Tryz.prog Tryz.f67 [] Γ (one (lI rv)) [] cf
def Qbo (Γ:Gam) (rv:Int) (s1:List Qaa) (s2:List Qaa) (v:Int):Prop:=Qbs Γ rv ⟨[.c 52,.l 52,.b 0,.c 7],⟨39,[vL 0 2 s1 Qaa.enc,vL 1 2 s2 Qaa.enc,(2,one (.fn (.func 68) [])),vL 11 2 s1 Qaa.enc,vI 12 (lenI s1),vI 13 v],[]⟩⟩
def Qbl (Γ:Gam) (rv:Int) (s1:List Qaa) (s2:List Qaa):Prop:=Qbs Γ rv ⟨[.c 7],⟨39,[vL 0 2 s1 Qaa.enc,vL 1 2 s2 Qaa.enc],[]⟩⟩
theorem QcF (Γ:Gam) (rv:Int) {s1 s2} {s:Int} {e:(Unit)⊕(Int)} (h:loopF (fun s=>Qat s1 s2 s) s=some e) (hD:sel e (fun e=>Qbl Γ rv s1 s2) (fun e=>e=rv)):Qbo Γ rv s1 s2 s:=by
 refine QaB (C:=fun (s:Int)=>Qbo Γ rv s1 s2 s) (D:=fun (e:(Unit)⊕(Int))=>sel e (fun e=>Qbl Γ rv s1 s2) (fun e=>e=rv)) ?_ h hD
 clear h hD s e
 intro v z_ h hI hE
 replace h:Qat s1 s2 v=_:=h
 unfold Qat at h
 rcases Qah h with ⟨h0,h⟩|⟨h0,h⟩
 ·obtain ⟨x0,h1,h⟩:=Qae h
  rcases Qah h with ⟨h2,h⟩|⟨h2,h⟩
  ·obtain rfl:=(hE _ (oJ h):_=rv)
   exact gr 15 [] [bT h0,cE Qaa.enc h1,nL Qaa.enc s2,bT h2]
  ·obtain ⟨x1,h3,h⟩:=Qae h
   obtain ⟨r,h4,h⟩:=Qae h
   rcases Qah h with ⟨h5,h⟩|⟨h5,h⟩
   ·obtain rfl:=(hE _ (oJ h):_=rv)
    exact gr 23 [] [bT h0,cE Qaa.enc h1,nL Qaa.enc s2,bF h2,cE Qaa.enc h3,cC (Qob h4),bT h5]
   ·exact gn 25 [0,1,2,11,12,13] [] [bT h0,cE Qaa.enc h1,nL Qaa.enc s2,bF h2,cE Qaa.enc h3,cC (Qob h4),bF h5] (hI _ (oJ h))
 ·exact gn 5 [0,1] [] [bF h0] (hE _ (oJ h))
theorem QcX {s1 s2} {rv:Int} (h:QaR s1 s2=some rv):AFn Tryz.prog 67 [.one (lL 2 s1 Qaa.enc),.one (lL 2 s2 Qaa.enc),.one (.fn (.func 68) [])] [] (one (lI rv)) []:=by
 refine QaL Tryz.func67 (by kernel_rfl) (by kernel_rfl) (fun Γ=>?_)
 unfold QaR at h
 obtain ⟨e0,h6,h⟩:=Qae h
 refine gn 7 [0,1,2,11,12,13] [] [nL Qaa.enc s1] (QcF Γ rv h6 ?_)
 rcases e0 with e0|e0
 ·replace h:(br (ltI (lenI s1) (lenI s2)) (some (-1)) (some 0):Option Int)=some _:=h
  rcases Qah h with ⟨h7,h⟩|⟨h7,h⟩
  ·obtain rfl:=Option.some.inj h
   exact gr 6 [] [nL Qaa.enc s1,nL Qaa.enc s2,bT h7]
  ·obtain rfl:=Option.some.inj h
   exact gr 7 [] [nL Qaa.enc s1,nL Qaa.enc s2,bF h7]
 ·obtain ⟨r1,rfl⟩:∃ x,x=e0:=⟨_,rfl⟩
  replace h:(some r1:Option Int)=some _:=h
  exact Option.some.inj h
theorem Qrb {a b} {rv:Bool} (h:Qls a b=some rv):AFn Tryz.prog 28 [.one (lL 2 a Qaa.enc),.one (lL 2 b Qaa.enc)] [] (one (.bool rv)) []:=by
 refine QaL Tryz.func28 (by kernel_rfl) (by kernel_rfl) (fun Γ=>?_)
 unfold Qls at h
 obtain ⟨r,h0,h⟩:=Qae h
 obtain rfl:=Option.some.inj h
 exact gr 4 [] [cC (QcX h0)]
def QtQ (Γ:Gam) (rv:Qad×Int×Int) (cf:Cf):Prop:=Go Tryz.prog Tryz.f11 [] Γ (.tup [.agg [lI rv.1.type_,lI rv.1.start,lL 1 rv.1.rests Qbb,lL 2 rv.1.visits Qaa.enc],.one (lI rv.2.1),.one (lI rv.2.2)]) [] cf
def Qqp (Γ:Gam) (rv:Qad×Int×Int) (x0:Qac) (r4:List (List Qaa)) (x1:Qad) (type_:Int) (start:Int) (rests:List Bool) (visits:List Qaa) (least:Int) (v:Int):Prop:=QtQ Γ rv ⟨[.c 2036,.l 2036,.b 0,.c 255],⟨94,[vP 3 0 6,vP 4 1 4,vP 6 2 4,vP 10 3 4,vI 11 least,vL 49 1 r4 es_T_api_Visit.enc,vI 50 (lenI r4),vI 51 v],[oX 6 30 (Qac.enc x0),oX 4 34 (Qad.enc x1),oX 4 34 [lI 0,lI 0,.nils,.nils],oX 4 34 [lI type_,lI start,lL 1 rests Qbb,lL 2 visits Qaa.enc]]⟩⟩
def Qpw (Γ:Gam) (rv:Qad×Int×Int) (x0:Qac) (r4:List (List Qaa)) (x3:Qad) (least1:Int):Prop:=QtQ Γ rv ⟨[.c 255],⟨94,[vP 6 0 4,vP 10 1 4,vI 11 least1],[oX 4 34 [lI 0,lI 0,.nils,.nils],oX 4 34 (Qad.enc x3)]⟩⟩
theorem Qt0 (Γ:Gam) (rv:Qad×Int×Int) {x0 r4} {s:Qad×Int×Int×List Bool×List Qaa×Int×Int} {e:Qad×Int} (h:loopF (fun s=>Qey x0 r4 s.1 s.2.1 s.2.2.1 s.2.2.2.1 s.2.2.2.2.1 s.2.2.2.2.2.1 s.2.2.2.2.2.2) s=some e) (hD:Qpw Γ rv x0 r4 e.1 e.2):Qqp Γ rv x0 r4 s.1 s.2.1 s.2.2.1 s.2.2.2.1 s.2.2.2.2.1 s.2.2.2.2.2.1 s.2.2.2.2.2.2:=by
 refine QaB (C:=fun (s:Qad×Int×Int×List Bool×List Qaa×Int×Int)=>Qqp Γ rv x0 r4 s.1 s.2.1 s.2.2.1 s.2.2.2.1 s.2.2.2.2.1 s.2.2.2.2.2.1 s.2.2.2.2.2.2) (D:=fun (e:Qad×Int)=>Qpw Γ rv x0 r4 e.1 e.2) ?_ h hD
 clear h hD s e
 rintro ⟨x1,type_,start,rests,visits,least,v⟩ z_ h hI hE
 replace h:Qey x0 r4 x1 type_ start rests visits least v=_:=h
 unfold Qey at h
 rcases Qah h with ⟨h7,h⟩|⟨h7,h⟩
 ·obtain ⟨x2,h8,h⟩:=Qae h
  obtain ⟨r5,h9,h⟩:=Qae h
  rcases Qah h with ⟨h10,h⟩|⟨h10,h⟩
  ·rcases Qah h with ⟨h11,h⟩|⟨h11,h⟩
   ·exact gn 22 [3,4,6,10,11,49,50,51] [0,1,2,3] [bT h7,cE es_T_api_Visit.enc h8,cC (QgD h9),rp 3 (bT h10),hP,hP,hP,rp 2 (oI ((ltI least 0)=false)),bT h10,hP,oR True ((ltI least 0)=false),bT h10,rp 4 (bT h11),rp 4 kF,bT h11,bT h10,bT h11,bT h10,tT] (hI _ (oJ h))
   ·rcases Qah h with ⟨h12,h⟩|⟨h12,h⟩
    ·obtain ⟨r6,h13,h⟩:=Qae h
     rcases Qah h with ⟨h14,h⟩|⟨h14,h⟩
     ·exact gn 22 [3,4,6,10,11,49,50,51] [0,1,2,3] [bT h7,cE es_T_api_Visit.enc h8,cC (QgD h9),rp 3 (bT h10),hP,hP,hP,rp 2 (oI ((ltI least 0)=false)),bT h10,hP,oR True ((ltI least 0)=false),bT h10,rp 4 (bF h11),rp 4 (bT h12),cC (Qrb h13),bF h11,bT h12,bT h10,bF h11,bT h10,bT h14] (hI _ (oJ h))
     ·exact gn 22 [3,4,6,10,11,49,50,51] [0,1,2,3] [bT h7,cE es_T_api_Visit.enc h8,cC (QgD h9),rp 3 (bT h10),hP,hP,hP,rp 2 (oI ((ltI least 0)=false)),bT h10,hP,oR True ((ltI least 0)=false),bT h10,rp 4 (bF h11),rp 4 (bT h12),cC (Qrb h13),bF h11,bT h12,bT h10,bF h11,bT h10,bF h14] (hI _ (oJ h))
    ·exact gn 22 [3,4,6,10,11,49,50,51] [0,1,2,3] [bT h7,cE es_T_api_Visit.enc h8,cC (QgD h9),rp 3 (bT h10),hP,hP,hP,rp 2 (oI ((ltI least 0)=false)),bT h10,hP,oR True ((ltI least 0)=false),bT h10,rp 4 (bF h11),rp 4 (bF h12),bF h11,bF h12,bT h10,bF h11,bT h10,fF] (hI _ (oJ h))
  ·exact gn 22 [3,4,6,10,11,49,50,51] [0,1,2,3] [bT h7,cE es_T_api_Visit.enc h8,cC (QgD h9),rp 3 (bF h10),kF,kF,kF,rp 2 (bF h10),rp 9 kF,rp 2 (bF h10),fF] (hI _ (oJ h))
 ·exact gn 5 [6,10,11] [2,3] [bF h7] (hE _ (oJ h))
theorem QbH {x0 r o} {rv:Qad×Int×Int} (h:QiH x0 r o=some rv):AFn Tryz.prog 11 [.agg (Qac.enc x0),.agg (Qad.enc r),.one (lI o)] [] (.tup [.agg [lI rv.1.type_,lI rv.1.start,lL 1 rv.1.rests Qbb,lL 2 rv.1.visits Qaa.enc],.one (lI rv.2.1),.one (lI rv.2.2)]) []:=by
 refine QaL Tryz.func11 (by kernel_rfl) (by kernel_rfl) (fun Γ=>?_)
 unfold QiH at h
 rcases Qah h with ⟨h0,h⟩|⟨h0,h⟩
 ·obtain rfl:=Option.some.inj h
  exact gr 8 [] [rp 5 hP,rp 3 (oI ((ltI r.type_ 0)=false)),nL Qai.enc x0.types,hP,hP,rp 2 (oI ((ltI r.type_ 0)=false)),oR True ((ltI r.type_ 0)=false),bT h0,hW 6,hH (.nilB 2 2 1),hH (.nilB 2 3 2)]
 ·obtain ⟨r1,h1,h⟩:=Qae h
  rcases Qah h with ⟨h2,h⟩|⟨h2,h⟩
  ·obtain rfl:=Option.some.inj h
   exact gr 15 [] [rp 5 hP,rp 3 (oI ((ltI r.type_ 0)=false)),nL Qai.enc x0.types,hP,hP,rp 2 (oI ((ltI r.type_ 0)=false)),oR True ((ltI r.type_ 0)=false),bF h0,cC (Qe6 h1),bT h2,hW 7,hH (.nilB 2 2 1),hH (.nilB 2 3 2)]
  ·obtain ⟨r2,h3,h⟩:=Qae h
   rcases Qah h with ⟨h4,h⟩|⟨h4,h⟩
   ·obtain rfl:=Option.some.inj h
    exact gr 20 [] [rp 5 hP,rp 3 (oI ((ltI r.type_ 0)=false)),nL Qai.enc x0.types,hP,hP,rp 2 (oI ((ltI r.type_ 0)=false)),oR True ((ltI r.type_ 0)=false),bF h0,cC (Qe6 h1),bF h2,cC (QmR h3),bT h4,hW 6,hH (.nilB 2 2 1),hH (.nilB 2 3 2)]
   ·obtain ⟨r3,h5,h⟩:=Qae h
    obtain ⟨r4,h6,h⟩:=Qae h
    obtain ⟨e0,h15,h⟩:=Qae h
    refine gn 28 [3,4,6,10,11,49,50,51] [0,1,2,3] [rp 5 hP,rp 3 (oI ((ltI r.type_ 0)=false)),nL Qai.enc x0.types,hP,hP,rp 2 (oI ((ltI r.type_ 0)=false)),oR True ((ltI r.type_ 0)=false),bF h0,cC (Qe6 h1),bF h2,cC (QmR h3),bF h4,hH (.draw 12 []),cC (Qoj h5),nL Qbb r.rests,cC (Quz h6),nL es_T_api_Visit.enc r4,hW 2,hH (.nilB 3 2 1),hH (.nilB 3 3 2)] (Qt0 Γ rv h15 ?_)
    obtain ⟨x3,least1⟩:=e0
    replace h:(br (ltI least1 0) (some ((Qad.mk 0 0 [] []),0,24)) (some (x3,least1,0)):Option (Qad×Int×Int))=some _:=h
    rcases Qah h with ⟨h16,h⟩|⟨h16,h⟩
    ·obtain rfl:=Option.some.inj h
     exact gr 6 [] [bT h16,hW 6,hH (.nilB 0 2 1),hH (.nilB 0 3 2)]
    ·obtain rfl:=Option.some.inj h
     exact gr 7 [] [bF h16]
def Qi4 (Γ:Gam) (rv:Int) (cf:Cf):Prop:=Go Tryz.prog Tryz.f73 [] Γ (one (lI rv)) [] cf
def QhJ (Γ:Gam) (rv:Int) (s0:List Int) (v:Int) (v1:Int):Prop:=Qi4 Γ rv ⟨[.c 52,.l 52,.b 0,.c 7],⟨19,[vL 0 1 s0 e_i64,vI 1 v,vI 7 (lenI s0),vI 8 v1],[]⟩⟩
def Qhk (Γ:Gam) (rv:Int) (s0:List Int) (v:Int):Prop:=Qi4 Γ rv ⟨[.c 7],⟨19,[],[]⟩⟩
theorem Qmz (Γ:Gam) (rv:Int) {s0 v} {s:Int} {e:(Unit)⊕(Int)} (h:loopF (fun s=>Qd2 s0 v s) s=some e) (hD:sel e (fun e=>Qhk Γ rv s0 v) (fun e=>e=rv)):QhJ Γ rv s0 v s:=by
 refine QaB (C:=fun (s:Int)=>QhJ Γ rv s0 v s) (D:=fun (e:(Unit)⊕(Int))=>sel e (fun e=>Qhk Γ rv s0 v) (fun e=>e=rv)) ?_ h hD
 clear h hD s e
 intro v1 z_ h hI hE
 replace h:Qd2 s0 v v1=_:=h
 unfold Qd2 at h
 rcases Qah h with ⟨h0,h⟩|⟨h0,h⟩
 ·obtain ⟨x0,h1,h⟩:=Qae h
  rcases Qah h with ⟨h2,h⟩|⟨h2,h⟩
  ·obtain rfl:=(hE _ (oJ h):_=rv)
   exact gr 14 [] [bT h0,cE e_i64 h1,bT h2]
  ·exact gn 16 [0,1,7,8] [] [bT h0,cE e_i64 h1,bF h2] (hI _ (oJ h))
 ·exact gn 5 [] [] [bF h0] (hE _ (oJ h))
theorem Qok {s0 v} {rv:Int} (h:Qg6 s0 v=some rv):AFn Tryz.prog 73 [.one (lL 1 s0 e_i64),.one (lI v)] [] (one (lI rv)) []:=by
 refine QaL Tryz.func73 (by kernel_rfl) (by kernel_rfl) (fun Γ=>?_)
 unfold Qg6 at h
 obtain ⟨e0,h3,h⟩:=Qae h
 refine gn 7 [0,1,7,8] [] [nL e_i64 s0] (Qmz Γ rv h3 ?_)
 rcases e0 with e0|e0
 ·replace h:(some (-1):Option Int)=some _:=h
  obtain rfl:=Option.some.inj h
  exact gr 2 [] []
 ·obtain ⟨r,rfl⟩:∃ x,x=e0:=⟨_,rfl⟩
  replace h:(some r:Option Int)=some _:=h
  exact Option.some.inj h
theorem Qhj {s0 v} {rv:Bool} (h:QfW s0 v=some rv):AFn Tryz.prog 35 [.one (lL 1 s0 e_i64),.one (lI v)] [] (one (.bool rv)) []:=by
 refine QaL Tryz.func35 (by kernel_rfl) (by kernel_rfl) (fun Γ=>?_)
 unfold QfW at h
 obtain ⟨r,h0,h⟩:=Qae h
 obtain rfl:=Option.some.inj h
 exact gr 4 [] [cC (Qok h0)]
theorem Qqr {at_ r old c c1 c2} {rv:Qac×Int×Qaq} (h:QiJ at_ r old c c1 c2=some rv):AFn Tryz.prog 74 [.one (lI at_),.agg (Qad.enc r),.one (lI old),.one (.op 0 6 0 0),.one (.op 1 1 0 0),.one (.op 2 6 0 0)] [bX 6 30 (Qac.enc c),bX 1 3 [lI c1],bX 6 80 (Qaq.enc c2)] (.tup []) [oX 6 30 [lL 1 rv.1.net.places e_str,lL 6 rv.1.net.arcs Qas.enc,lL 14 rv.1.types Qai.enc,lL 16 rv.1.orders Qag.enc,lL 2 rv.1.apart QaQ.enc,lL 2 rv.1.before QaQ.enc],oX 1 3 [lI rv.2.1],oX 6 80 [lI rv.2.2.at_,lI rv.2.2.route.type_,lI rv.2.2.route.start,lL 1 rv.2.2.route.rests Qbb,lL 2 rv.2.2.route.visits Qaa.enc,lI rv.2.2.increase]]:=by
 refine QaL Tryz.func74 (by kernel_rfl) (by kernel_rfl) (fun Γ=>?_)
 unfold QiJ at h
 obtain ⟨r1,h0,h⟩:=Qae h
 rcases Qah h with ⟨h1,h⟩|⟨h1,h⟩
 ·obtain rfl:=Option.some.inj h
  exact gr 8 [0,1,2] [cC (QbH h0),rp 13 hP,rp 3 (oI ((eqI r1.2.2 0)=true)),rp 5 (oI (((eqI r1.2.2 0)=true)∧(ltI c2.at_ 0)=false)),oI ((eqI r1.2.2 0)=true),oI (((eqI r1.2.2 0)=true)∧(ltI c2.at_ 0)=false),oR True ((eqI r1.2.2 0)=true),bT h1]
 ·obtain rfl:=Option.some.inj h
  exact gr 8 [0,1,2] [cC (QbH h0),rp 13 hP,rp 3 (oI ((eqI r1.2.2 0)=true)),rp 5 (oI (((eqI r1.2.2 0)=true)∧(ltI c2.at_ 0)=false)),oI ((eqI r1.2.2 0)=true),oI (((eqI r1.2.2 0)=true)∧(ltI c2.at_ 0)=false),oR True ((eqI r1.2.2 0)=true),bF h1]
def QiK (Γ:Gam) (rv:Qaq×Int) (cf:Cf):Prop:=Go Tryz.prog Tryz.f36 [] Γ (.tup [.agg [lI rv.1.at_,lI rv.1.route.type_,lI rv.1.route.start,lL 1 rv.1.route.rests Qbb,lL 2 rv.1.route.visits Qaa.enc,lI rv.1.increase],.one (lI rv.2)]) [] cf
def Qqs (Γ:Gam) (rv:Qaq×Int) (x0:Qac) (p:Qak) (o:Int) (l:List Int) (l1:List Int) (l2:List Int) (v:Int):Prop:=QiK Γ rv ⟨[.c 244,.l 244,.b 0,.c 31],⟨101,[vP 3 0 6,vP 4 1 2,vP 5 2 1,vP 6 3 6,vO 8 4 1 l1 e_i64,vO 9 5 1 l2 e_i64,vL 24 4 p.routes Qad.enc,vI 25 (lenI p.routes),vI 26 v],[oX 6 30 (Qac.enc x0),oX 2 44 (Qak.enc p),oX 1 3 [lI o],oX 6 80 [lI 0,lI 0,lI 0,.nils,.nils,lI 0],oS 1 3 l1 e_i64,oS 1 3 l2 e_i64]⟩⟩
def Qpx (Γ:Gam) (rv:Qaq×Int) (x0:Qac) (p:Qak) (o:Int) (l:List Int) (l3:List Int) (l4:List Int):Prop:=QiK Γ rv ⟨[.c 31],⟨101,[vP 3 0 6,vP 4 1 2,vP 5 2 1,vP 6 3 6,vO 8 4 1 l3 e_i64,vO 9 5 1 l4 e_i64],[oX 6 30 (Qac.enc x0),oX 2 44 (Qak.enc p),oX 1 3 [lI o],oX 6 80 [lI 0,lI 0,lI 0,.nils,.nils,lI 0],oS 1 3 l3 e_i64,oS 1 3 l4 e_i64]⟩⟩
def Qqt (Γ:Gam) (rv:Qaq×Int) (p:Qak) (l:List Int) (l3:List Int) (l4:List Int) (x3:Qac) (at_:Int) (type_:Int) (start:Int) (rests:List Bool) (visits:List Qaa) (increase:Int) (x4:Int) (v1:Int):Prop:=QiK Γ rv ⟨[.c 2036,.l 2036,.b 2,.c 255],⟨101,[vP 3 0 6,vP 4 1 2,vP 6 2 6,vO 8 3 1 l3 e_i64,vO 9 4 1 l4 e_i64,vP 14 5 6,(15,one (.fn (.func 74) [.op 0 6 0 0,.op 6 1 0 0,.op 5 6 0 0])),vL 55 4 p.routes Qad.enc,vI 56 (lenI p.routes),vI 57 v1],[oX 6 30 (Qac.enc x3),oX 2 44 (Qak.enc p),oX 6 80 [lI 0,lI 0,lI 0,.nils,.nils,lI 0],oS 1 3 l3 e_i64,oS 1 3 l4 e_i64,oX 6 80 [lI at_,lI type_,lI start,lL 1 rests Qbb,lL 2 visits Qaa.enc,lI increase],oX 1 3 [lI x4]]⟩⟩
def Qpy (Γ:Gam) (rv:Qaq×Int) (p:Qak) (l:List Int) (l3:List Int) (l4:List Int) (x7:Qac) (x8:Qaq) (x9:Int):Prop:=QiK Γ rv ⟨[.c 255],⟨101,[vP 3 0 6,vP 4 1 2,vP 6 2 6,vO 9 3 1 l4 e_i64,vP 14 4 6,(15,one (.fn (.func 74) [.op 0 6 0 0,.op 5 1 0 0,.op 4 6 0 0]))],[oX 6 30 (Qac.enc x7),oX 2 44 (Qak.enc p),oX 6 80 [lI 0,lI 0,lI 0,.nils,.nils,lI 0],oS 1 3 l4 e_i64,oX 6 80 (Qaq.enc x8),oX 1 3 [lI x9]]⟩⟩
def Qqu (Γ:Gam) (rv:Qaq×Int) (p:Qak) (l:List Int) (l4:List Int) (x10:Qac) (x11:Qaq) (x12:Int) (v2:Int) (v3:Int):Prop:=QiK Γ rv ⟨[.c 4084,.l 4084,.b 4,.c 511],⟨101,[vP 3 0 6,vP 4 1 2,vP 6 2 6,vO 9 3 1 l4 e_i64,vP 14 4 6,(15,one (.fn (.func 74) [.op 0 6 0 0,.op 5 1 0 0,.op 4 6 0 0])),vI 73 v2,vI 74 v3],[oX 6 30 (Qac.enc x10),oX 2 44 (Qak.enc p),oX 6 80 [lI 0,lI 0,lI 0,.nils,.nils,lI 0],oS 1 3 l4 e_i64,oX 6 80 (Qaq.enc x11),oX 1 3 [lI x12]]⟩⟩
def Qpz (Γ:Gam) (rv:Qaq×Int) (p:Qak) (l:List Int) (l4:List Int) (x15:Qaq):Prop:=QiK Γ rv ⟨[.c 511],⟨101,[vP 6 0 6,vP 14 1 6],[oX 6 80 [lI 0,lI 0,lI 0,.nils,.nils,lI 0],oX 6 80 (Qaq.enc x15)]⟩⟩
theorem Qt1 (Γ:Gam) (rv:Qaq×Int) {x0 p o l} {s:List Int×List Int×Int} {e:(List Int×List Int)⊕(Qaq×Int)} (h:loopF (fun s=>QdW x0 p o l s.1 s.2.1 s.2.2) s=some e) (hD:sel e (fun e=>Qpx Γ rv x0 p o l e.1 e.2) (fun e=>e=rv)):Qqs Γ rv x0 p o l s.1 s.2.1 s.2.2:=by
 refine QaB (C:=fun (s:List Int×List Int×Int)=>Qqs Γ rv x0 p o l s.1 s.2.1 s.2.2) (D:=fun (e:(List Int×List Int)⊕(Qaq×Int))=>sel e (fun e=>Qpx Γ rv x0 p o l e.1 e.2) (fun e=>e=rv)) ?_ h hD
 clear h hD s e
 rintro ⟨l1,l2,v⟩ z_ h hI hE
 replace h:QdW x0 p o l l1 l2 v=_:=h
 unfold QdW at h
 rcases Qah h with ⟨h1,h⟩|⟨h1,h⟩
 ·obtain ⟨x1,h2,h⟩:=Qae h
  obtain ⟨r,h3,h⟩:=Qae h
  rcases Qah h with ⟨h4,h⟩|⟨h4,h⟩
  ·obtain rfl:=(hE _ (oJ h):_=rv)
   exact gr 17 [] [bT h1,cE Qad.enc h2,cC (QgD h3),bT h4,hW 6,hH (.nilB 3 3 1),hH (.nilB 3 4 2)]
  ·obtain ⟨h5,h⟩:=Qau h
   obtain ⟨x2,h6,h⟩:=Qae h
   exact gn 22 [3,4,5,6,8,9,24,25,26] [0,1,2,3,8,5] [bT h1,cE Qad.enc h2,cC (QgD h3),bF h4,oO (Eq.refl ([r.1].map e_i64).length),aO e_i64 h5,oO (getLo h6),oO (getHi e_i64 h6),rE e_i64 h6,oO (getLo h6),oO (getHi e_i64 h6),rE e_i64 h6,hH (.rows ((setI l2 x1.type_ (addK .i64 x2 1)).map e_i64)),hH (.relen 5 ((setI l2 x1.type_ (addK .i64 x2 1)).map e_i64).length),oO (setM e_i64 l2 x1.type_ (addK .i64 x2 1)),rp 2 (oO (Qws e_i64 l2 x1.type_ (addK .i64 x2 1)))] (hI _ (oJ h))
 ·exact gn 5 [3,4,5,6,8,9] [0,1,2,3,4,5] [bF h1] (hE _ (oJ h))
theorem Qt2 (Γ:Gam) (rv:Qaq×Int) {p l l3 l4} {s:Qac×Int×Int×Int×List Bool×List Qaa×Int×Int×Int} {e:Qac×Qaq×Int} (h:loopF (fun s=>Qez p l l3 l4 s.1 s.2.1 s.2.2.1 s.2.2.2.1 s.2.2.2.2.1 s.2.2.2.2.2.1 s.2.2.2.2.2.2.1 s.2.2.2.2.2.2.2.1 s.2.2.2.2.2.2.2.2) s=some e) (hD:Qpy Γ rv p l l3 l4 e.1 e.2.1 e.2.2):Qqt Γ rv p l l3 l4 s.1 s.2.1 s.2.2.1 s.2.2.2.1 s.2.2.2.2.1 s.2.2.2.2.2.1 s.2.2.2.2.2.2.1 s.2.2.2.2.2.2.2.1 s.2.2.2.2.2.2.2.2:=by
 refine QaB (C:=fun (s:Qac×Int×Int×Int×List Bool×List Qaa×Int×Int×Int)=>Qqt Γ rv p l l3 l4 s.1 s.2.1 s.2.2.1 s.2.2.2.1 s.2.2.2.2.1 s.2.2.2.2.2.1 s.2.2.2.2.2.2.1 s.2.2.2.2.2.2.2.1 s.2.2.2.2.2.2.2.2) (D:=fun (e:Qac×Qaq×Int)=>Qpy Γ rv p l l3 l4 e.1 e.2.1 e.2.2) ?_ h hD
 clear h hD s e
 rintro ⟨x3,at_,type_,start,rests,visits,increase,x4,v1⟩ z_ h hI hE
 replace h:Qez p l l3 l4 x3 at_ type_ start rests visits increase x4 v1=_:=h
 unfold Qez at h
 rcases Qah h with ⟨h8,h⟩|⟨h8,h⟩
 ·obtain ⟨x5,h9,h⟩:=Qae h
  obtain ⟨x6,h10,h⟩:=Qae h
  obtain ⟨r1,h11,h⟩:=Qae h
  exact gn 13 [3,4,6,8,9,14,15,55,56,57] [0,1,2,3,4,5,6] [bT h8,cE Qad.enc h9,hH (.draw 8 [(0,7),(6,7),(5,7)]),oO (getLo h10),oO (getHi e_i64 h10),rE e_i64 h10,cI [0,6,5] (Qqr h11)] (hI _ (oJ h))
 ·exact gn 5 [3,4,6,9,14,15] [0,1,2,4,5,6] [bF h8] (hE _ (oJ h))
theorem Qt3 (Γ:Gam) (rv:Qaq×Int) {p l l4} {s:Qac×Qaq×Int×Int×Int} {e:Qaq} (h:loopF (fun s=>QdX p l l4 s.1 s.2.1 s.2.2.1 s.2.2.2.1 s.2.2.2.2) s=some e) (hD:Qpz Γ rv p l l4 e):Qqu Γ rv p l l4 s.1 s.2.1 s.2.2.1 s.2.2.2.1 s.2.2.2.2:=by
 refine QaB (C:=fun (s:Qac×Qaq×Int×Int×Int)=>Qqu Γ rv p l l4 s.1 s.2.1 s.2.2.1 s.2.2.2.1 s.2.2.2.2) (D:=fun (e:Qaq)=>Qpz Γ rv p l l4 e) ?_ h hD
 clear h hD s e
 rintro ⟨x10,x11,x12,v2,v3⟩ z_ h hI hE
 replace h:QdX p l l4 x10 x11 x12 v2 v3=_:=h
 unfold QdX at h
 rcases Qah h with ⟨h13,h⟩|⟨h13,h⟩
 ·obtain ⟨x13,h14,h⟩:=Qae h
  obtain ⟨x14,h15,h⟩:=Qae h
  rcases Qah h with ⟨h16,h⟩|⟨h16,h⟩
  ·obtain ⟨r2,h17,h⟩:=Qae h
   exact gn 16 [3,4,6,9,14,15,73,74] [0,1,2,3,4,5] [bT h13,hH (.draw 11 []),oO (getLo h14),oO (getHi e_i64 h14),rE e_i64 h14,cE Qai.enc h15,bT h16,nL Qad.enc p.routes,hW 2,hH (.nilS 93 2 1),hH (.nilS 93 3 2),cI [0,5,4] (Qqr h17)] (hI _ (oJ h))
  ·exact gn 16 [3,4,6,9,14,15,73,74] [0,1,2,3,4,5] [bT h13,hH (.draw 11 []),oO (getLo h14),oO (getHi e_i64 h14),rE e_i64 h14,cE Qai.enc h15,bF h16] (hI _ (oJ h))
 ·exact gn 5 [6,14] [2,4] [bF h13] (hE _ (oJ h))
theorem Qi9 {x0 p o} {rv:Qaq×Int} (h:QmF x0 p o=some rv):AFn Tryz.prog 36 [.agg (Qac.enc x0),.agg (Qak.enc p),.one (lI o)] [] (.tup [.agg [lI rv.1.at_,lI rv.1.route.type_,lI rv.1.route.start,lL 1 rv.1.route.rests Qbb,lL 2 rv.1.route.visits Qaa.enc,lI rv.1.increase],.one (lI rv.2)]) []:=by
 refine QaL Tryz.func36 (by kernel_rfl) (by kernel_rfl) (fun Γ=>?_)
 unfold QmF at h
 obtain ⟨l,h0,h⟩:=Qae h
 obtain ⟨e0,h7,h⟩:=Qae h
 refine gn 11 [3,4,5,6,8,9,24,25,26] [0,1,2,3,5,4] [nL Qai.enc x0.types,hH (.cells [lI 0]),hH (.rows (l.map e_i64)),oO (mk1 h0),oO (mk2 h0),oO (mk3 h0),oO (mk4 h0),oO (mk5 e_i64 h0),nL Qad.enc p.routes,hW 3,hH (.adopt 8 1 3)] (Qt1 Γ rv h7 ?_)
 rcases e0 with e0|e0
 ·obtain ⟨l3,l4⟩:=e0
  replace h:(bnd (loopF (fun s=>Qez p l l3 l4 s.1 s.2.1 s.2.2.1 s.2.2.2.1 s.2.2.2.2.1 s.2.2.2.2.2.1 s.2.2.2.2.2.2.1 s.2.2.2.2.2.2.2.1 s.2.2.2.2.2.2.2.2) (x0,(-1),0,0,[],[],0,o,0)) (fun e0=>(fun x7 x8 x9=>bnd (loopF (fun s=>QdX p l l4 s.1 s.2.1 s.2.2.1 s.2.2.2.1 s.2.2.2.2) (x7,x8,x9,(lenI x7.types),0)) (fun x15=>br (ltI x15.at_ 0) (some ((Qaq.mk 0 (Qad.mk 0 0 [] []) 0),24)) (some (x15,0)))) e0.1 e0.2.1 e0.2.2):Option (Qaq×Int))=some _:=h
  obtain ⟨e1,h12,h⟩:=Qae h
  refine gn 9 [3,4,6,8,9,14,15,55,56,57] [0,1,3,4,5,6,2] [nL Qad.enc p.routes,hW 3,hH (.nilB 6 3 1),hH (.nilB 6 4 2)] (Qt2 Γ rv h12 ?_)
  obtain ⟨x7,x8,x9⟩:=e1
  replace h:(bnd (loopF (fun s=>QdX p l l4 s.1 s.2.1 s.2.2.1 s.2.2.2.1 s.2.2.2.2) (x7,x8,x9,(lenI x7.types),0)) (fun x15=>br (ltI x15.at_ 0) (some ((Qaq.mk 0 (Qad.mk 0 0 [] []) 0),24)) (some (x15,0))):Option (Qaq×Int))=some _:=h
  obtain ⟨e2,h18,h⟩:=Qae h
  refine gn 5 [3,4,6,9,14,15,73,74] [0,1,2,3,4,5] [nL Qai.enc x7.types] (Qt3 Γ rv h18 ?_)
  obtain ⟨x15,rfl⟩:∃ x,x=e2:=⟨_,rfl⟩
  replace h:(br (ltI x15.at_ 0) (some ((Qaq.mk 0 (Qad.mk 0 0 [] []) 0),24)) (some (x15,0)):Option (Qaq×Int))=some _:=h
  rcases Qah h with ⟨h19,h⟩|⟨h19,h⟩
  ·obtain rfl:=Option.some.inj h
   exact gr 6 [] [bT h19,hW 5,hH (.nilB 0 3 1),hH (.nilB 0 4 2)]
  ·obtain rfl:=Option.some.inj h
   exact gr 7 [] [bF h19]
 ·obtain ⟨r3,rfl⟩:∃ x,x=e0:=⟨_,rfl⟩
  replace h:(some r3:Option (Qaq×Int))=some _:=h
  exact Option.some.inj h
theorem QpP {x0 order} {rv:Qaz×Int} (h:Qpo x0 order=some rv):AFn Tryz.prog 75 [.agg (Qac.enc x0),.one (lI order)] [] (.tup [.agg [lI rv.1.cost,lI rv.1.moved,lI rv.1.other,lI rv.1.work],.one (lI rv.2)]) []:=by
 refine QaL Tryz.func75 (by kernel_rfl) (by kernel_rfl) (fun Γ=>?_)
 unfold Qpo at h
 rcases Qah h with ⟨h0,h⟩|⟨h0,h⟩
 ·obtain rfl:=Option.some.inj h
  exact gr 8 [] [rp 4 hP,rp 2 (oI ((ltI order 0)=false)),nL Qag.enc x0.orders,hP,hP,rp 2 (oI ((ltI order 0)=false)),oR True ((ltI order 0)=false),bT h0]
 ·obtain ⟨x1,h1,h⟩:=Qae h
  rcases Qah h with ⟨h2,h⟩|⟨h2,h⟩
  ·obtain rfl:=Option.some.inj h
   exact gr 16 [] [rp 4 hP,rp 2 (oI ((ltI order 0)=false)),nL Qag.enc x0.orders,hP,hP,rp 2 (oI ((ltI order 0)=false)),oR True ((ltI order 0)=false),bF h0,cE Qag.enc h1,bT h2]
  ·rcases Qah h with ⟨h3,h⟩|⟨h3,h⟩
   ·obtain rfl:=Option.some.inj h
    exact gr 19 [] [rp 4 hP,rp 2 (oI ((ltI order 0)=false)),nL Qag.enc x0.orders,hP,hP,rp 2 (oI ((ltI order 0)=false)),oR True ((ltI order 0)=false),bF h0,cE Qag.enc h1,bF h2,bT h3]
   ·rcases Qah h with ⟨h4,h⟩|⟨h4,h⟩
    ·obtain rfl:=Option.some.inj h
     exact gr 28 [] [rp 4 hP,rp 2 (oI ((ltI order 0)=false)),nL Qag.enc x0.orders,hP,hP,rp 2 (oI ((ltI order 0)=false)),oR True ((ltI order 0)=false),bF h0,cE Qag.enc h1,bF h2,bF h3,bT h4]
    ·obtain rfl:=Option.some.inj h
     exact gr 28 [] [rp 4 hP,rp 2 (oI ((ltI order 0)=false)),nL Qag.enc x0.orders,hP,hP,rp 2 (oI ((ltI order 0)=false)),oR True ((ltI order 0)=false),bF h0,cE Qag.enc h1,bF h2,bF h3,bF h4]
theorem Qr0 {x0 o increase} {rv:Bool} (h:Qsf x0 o increase=some rv):AFn Tryz.prog 37 [.agg (Qac.enc x0),.one (lI o),.one (lI increase)] [] (one (.bool rv)) []:=by
 refine QaL Tryz.func37 (by kernel_rfl) (by kernel_rfl) (fun Γ=>?_)
 unfold Qsf at h
 obtain ⟨x1,h0,h⟩:=Qae h
 rcases Qah h with ⟨h1,h⟩|⟨h1,h⟩
 ·obtain rfl:=Option.some.inj h
  exact gr 8 [] [cE Qag.enc h0,bT h1]
 ·obtain ⟨r,h2,h⟩:=Qae h
  rcases Qah h with ⟨h3,h⟩|⟨h3,h⟩
  ·obtain rfl:=Option.some.inj h
   exact gr 15 [] [cE Qag.enc h0,bF h1,cC (QpP h2),bT h3]
  ·obtain ⟨r1,h4,h⟩:=Qae h
   obtain rfl:=Option.some.inj h
   exact gr 18 [] [cE Qag.enc h0,bF h1,cC (QpP h2),bF h3,cC (Qr4 h4),rp 4 hP,rp 2 (oI ((eqI r1.2 0)=true)),oR True ((eqI r1.2 0)=true)]
theorem QdI {s0} {rv:List Qad} (h:Qbq s0=some rv):AFn Tryz.prog 76 [.one (lL 4 s0 Qad.enc)] [] (one (lO 0 4 rv Qad.enc)) [oS 4 34 rv Qad.enc]:=by
 refine QaL Tryz.func76 (by kernel_rfl) (by kernel_rfl) (fun Γ=>?_)
 unfold Qbq at h
 rcases Qah h with ⟨h0,h⟩|⟨h0,h⟩
 ·obtain ⟨hx,h⟩:=QwX h
  refine gn 5 [0,4] [] [hH (.skip)] (cf':=⟨[.c 13,.c 7],⟨8,[vL 0 4 s0 Qad.enc,(4,.boo)],[]⟩⟩) (go_amb 4 rfl ?_ ?_)
  ·replace h:=hx
   obtain rfl:=Option.some.inj h
   exact gr 3 [0] [tT,hW 3,hH (.adopt 2 4 34)]
  ·obtain ⟨h1,h⟩:=Qau h
   obtain rfl:=Option.some.inj h
   exact gr 4 [0] [fF,aZ Qad.enc h1]
 ·obtain ⟨h2,h⟩:=Qau h
  obtain rfl:=Option.some.inj h
  exact gr 9 [0] [oO (neE Qad.enc h0),fF,hH (.bit false),aZ Qad.enc h2]
def Qqv (Γ:Gam) (rv:Qak) (cf:Cf):Prop:=Go Tryz.prog Tryz.f38 [] Γ (gG [lL 4 rv.routes Qad.enc,lL 1 rv.unserved e_i64]) [] cf
def Qqw (Γ:Gam) (rv:Qak) (p:Qak) (c:Qaq) (o:Int) (l:List Qad) (l1:List Int) (v:Int):Prop:=Qqv Γ rv ⟨[.c 244,.l 244,.b 0,.c 31],⟨52,[vI 2 o,vP 6 0 2,vP 7 1 2,vL 35 1 p.unserved e_i64,vI 36 (lenI p.unserved),vI 37 v],[oX 2 44 [.nils,.nils],oX 2 44 [lO 2 4 l Qad.enc,lO 3 1 l1 e_i64],oS 4 34 l Qad.enc,oS 1 3 l1 e_i64]⟩⟩
def QpC (Γ:Gam) (rv:Qak) (p:Qak) (c:Qaq) (o:Int) (l:List Qad) (l2:List Int):Prop:=Qqv Γ rv ⟨[.c 31],⟨52,[vP 6 0 2,vP 7 1 2],[oX 2 44 [.nils,.nils],oX 2 44 [lO 2 4 l Qad.enc,lO 3 1 l2 e_i64],oS 4 34 l Qad.enc,oS 1 3 l2 e_i64]⟩⟩
theorem Qt4 (Γ:Gam) (rv:Qak) {p c o l} {s:List Int×Int} {e:List Int} (h:loopF (fun s=>Qfw p c o l s.1 s.2) s=some e) (hD:QpC Γ rv p c o l e):Qqw Γ rv p c o l s.1 s.2:=by
 refine QaB (C:=fun (s:List Int×Int)=>Qqw Γ rv p c o l s.1 s.2) (D:=fun (e:List Int)=>QpC Γ rv p c o l e) ?_ h hD
 clear h hD s e
 rintro ⟨l1,v⟩ z_ h hI hE
 replace h:Qfw p c o l l1 v=_:=h
 unfold Qfw at h
 rcases Qah h with ⟨h4,h⟩|⟨h4,h⟩
 ·obtain ⟨x1,h5,h⟩:=Qae h
  rcases Qah h with ⟨h6,h⟩|⟨h6,h⟩
  ·obtain ⟨h7,h⟩:=Qau h
   exact gn 16 [2,6,7,35,36,37] [0,1,2,5] [bT h4,cE e_i64 h5,bT h6,oO (Eq.refl ([x1].map e_i64).length),aO e_i64 h7] (hI _ (oJ h))
  ·exact gn 16 [2,6,7,35,36,37] [0,1,2,3] [bT h4,cE e_i64 h5,bF h6] (hI _ (oJ h))
 ·exact gn 5 [6,7] [0,1,2,3] [bF h4] (hE _ (oJ h))
theorem QpB (Γ:Gam) (rv:Qak) {p c o l} (h:QhL p c o l=some rv):Qqv Γ rv ⟨[.c 15],⟨52,[vI 2 o,vP 3 0 2,vP 6 1 2,vP 7 2 2],[oX 2 44 (Qak.enc p),oX 2 44 [.nils,.nils],oX 2 44 [lO 3 4 l Qad.enc,.nils],oS 4 34 l Qad.enc]⟩⟩:=by
 unfold QhL at h
 obtain ⟨e0,h8,h⟩:=Qae h
 refine gn 5 [2,6,7,35,36,37] [1,2,3,4] [nL e_i64 p.unserved,hW 3,hH (.adoptB 2 1 1 3)] (Qt4 Γ rv h8 ?_)
 obtain ⟨l2,rfl⟩:∃ x,x=e0:=⟨_,rfl⟩
 replace h:(some (Qak.mk l l2):Option Qak)=some _:=h
 obtain rfl:=Option.some.inj h
 exact gr 2 [] [hW 4,hH (.frz 2),hH (.frz 3),rp 3 (eL l Qad.enc),rp 3 (eL l2 e_i64)]
theorem QsK {p c o} {rv:Qak} (h:QmG p c o=some rv):AFn Tryz.prog 38 [.agg (Qak.enc p),.agg (Qaq.enc c),.one (lI o)] [] (gG [lL 4 rv.routes Qad.enc,lL 1 rv.unserved e_i64]) []:=by
 refine QaL Tryz.func38 (by kernel_rfl) (by kernel_rfl) (fun Γ=>?_)
 unfold QmG at h
 obtain ⟨r,h0,h⟩:=Qae h
 rcases Qah h with ⟨h1,h⟩|⟨h1,h⟩
 ·obtain ⟨x0,h2,h⟩:=Qae h
  exact gn 9 [2,3,6,7] [0,2,4,3] [cC (QdI h0),nL Qad.enc r,bT h1,oO (getLo h2),oO (getHi Qad.enc h2),rE Qad.enc h2,hH (.rows ((setI r c.at_ c.route).map Qad.enc)),hH (.relen 3 ((setI r c.at_ c.route).map Qad.enc).length),oO (setM Qad.enc r c.at_ c.route),rp 5 (oO (Qws Qad.enc r c.at_ c.route))] (QpB Γ rv h)
 ·obtain ⟨h3,h⟩:=Qau h
  exact gn 9 [2,3,6,7] [0,2,4,6] [cC (QdI h0),nL Qad.enc r,bF h1,oO (Eq.refl ([c.route].map Qad.enc).length),aO Qad.enc h3] (QpB Γ rv h)
theorem Qox {r c} {rv:Bool} (h:Qkk r c=some rv):AFn Tryz.prog 78 [.agg (Qad.enc r),.one (.ip [lI c] 0)] [] (one (.bool rv)) []:=by
 refine QaL Tryz.func78 (by kernel_rfl) (by kernel_rfl) (fun Γ=>?_)
 unfold Qkk at h
 obtain ⟨r1,h0,h⟩:=Qae h
 obtain rfl:=Option.some.inj h
 exact gr 4 [] [cC (QmR h0)]
def Qc0 (Γ:Gam) (rv:Int) (cf:Cf):Prop:=Go Tryz.prog Tryz.f102 [] Γ (one (lI rv)) [] cf
def QcA (Γ:Gam) (rv:Int) (s0:List Qad) (c:Int) (v:Int):Prop:=Qc0 Γ rv ⟨[.c 52,.l 52,.b 0,.c 7],⟨19,[vL 0 4 s0 Qad.enc,(1,one (.fn (.func 78) [.ip [lI c] 0])),vI 7 (lenI s0),vI 8 v],[]⟩⟩
def Qcx (Γ:Gam) (rv:Int) (s0:List Qad) (c:Int):Prop:=Qc0 Γ rv ⟨[.c 7],⟨19,[],[]⟩⟩
theorem QeI (Γ:Gam) (rv:Int) {s0 c} {s:Int} {e:(Unit)⊕(Int)} (h:loopF (fun s=>QaS s0 c s) s=some e) (hD:sel e (fun e=>Qcx Γ rv s0 c) (fun e=>e=rv)):QcA Γ rv s0 c s:=by
 refine QaB (C:=fun (s:Int)=>QcA Γ rv s0 c s) (D:=fun (e:(Unit)⊕(Int))=>sel e (fun e=>Qcx Γ rv s0 c) (fun e=>e=rv)) ?_ h hD
 clear h hD s e
 intro v z_ h hI hE
 replace h:QaS s0 c v=_:=h
 unfold QaS at h
 rcases Qah h with ⟨h0,h⟩|⟨h0,h⟩
 ·obtain ⟨x0,h1,h⟩:=Qae h
  obtain ⟨r,h2,h⟩:=Qae h
  rcases Qah h with ⟨h3,h⟩|⟨h3,h⟩
  ·obtain rfl:=(hE _ (oJ h):_=rv)
   exact gr 14 [] [bT h0,cE Qad.enc h1,cC (Qox h2),bT h3]
  ·exact gn 16 [0,1,7,8] [] [bT h0,cE Qad.enc h1,cC (Qox h2),bF h3] (hI _ (oJ h))
 ·exact gn 5 [] [] [bF h0] (hE _ (oJ h))
theorem Qfi {s0 c} {rv:Int} (h:Qbj s0 c=some rv):AFn Tryz.prog 102 [.one (lL 4 s0 Qad.enc),.one (.fn (.func 78) [.ip [lI c] 0])] [] (one (lI rv)) []:=by
 refine QaL Tryz.func102 (by kernel_rfl) (by kernel_rfl) (fun Γ=>?_)
 unfold Qbj at h
 obtain ⟨e0,h4,h⟩:=Qae h
 refine gn 7 [0,1,7,8] [] [nL Qad.enc s0] (QeI Γ rv h4 ?_)
 rcases e0 with e0|e0
 ·replace h:(some (-1):Option Int)=some _:=h
  obtain rfl:=Option.some.inj h
  exact gr 2 [] []
 ·obtain ⟨r1,rfl⟩:∃ x,x=e0:=⟨_,rfl⟩
  replace h:(some r1:Option Int)=some _:=h
  exact Option.some.inj h
theorem QeG {s0 c} {rv:Bool} (h:Qa1 s0 c=some rv):AFn Tryz.prog 77 [.one (lL 4 s0 Qad.enc),.one (.fn (.func 78) [.ip [lI c] 0])] [] (one (.bool rv)) []:=by
 refine QaL Tryz.func77 (by kernel_rfl) (by kernel_rfl) (fun Γ=>?_)
 unfold Qa1 at h
 obtain ⟨r,h0,h⟩:=Qae h
 obtain rfl:=Option.some.inj h
 exact gr 4 [] [cC (Qfi h0)]
theorem Qf5 {p o} {rv:Bool} (h:QiL p o=some rv):AFn Tryz.prog 39 [.agg (Qak.enc p),.one (lI o)] [] (one (.bool rv)) []:=by
 refine QaL Tryz.func39 (by kernel_rfl) (by kernel_rfl) (fun Γ=>?_)
 unfold QiL at h
 obtain ⟨r,h0,h⟩:=Qae h
 obtain rfl:=Option.some.inj h
 exact gr 4 [] [cC (QeG h0)]
def QgV (Γ:Gam) (rv:Qak×Int) (cf:Cf):Prop:=Go Tryz.prog Tryz.f14 [] Γ (.tup [.agg [lL 4 rv.1.routes Qad.enc,lL 1 rv.1.unserved e_i64],.one (lI rv.2)]) [] cf
def Qos (Γ:Gam) (rv:Qak×Int) (x0:Qac) (list_:List Int) (v:Int):Prop:=QgV Γ rv ⟨[.c 52,.l 52,.b 0,.c 7],⟨100,[vL 1 1 list_ e_i64,vP 2 0 6,vP 4 1 2,vL 15 1 list_ e_i64,vI 16 (lenI list_),vI 17 v],[oX 6 30 (Qac.enc x0),oX 2 44 [.nils,.nils]]⟩⟩
def QnE (Γ:Gam) (rv:Qak×Int) (x0:Qac) (list_:List Int):Prop:=QgV Γ rv ⟨[.c 7],⟨100,[vL 1 1 list_ e_i64,vP 2 0 6,vP 4 1 2],[oX 6 30 (Qac.enc x0),oX 2 44 [.nils,.nils]]⟩⟩
def Qot (Γ:Gam) (rv:Qak×Int) (x0:Qac) (list_:List Int) (routes:List Qad) (unserved:List Int) (v1:Int):Prop:=QgV Γ rv ⟨[.c 244,.l 244,.b 2,.c 31],⟨100,[vP 2 0 6,vP 4 1 2,vP 8 2 2,vL 39 1 list_ e_i64,vI 40 (lenI list_),vI 41 v1],[oX 6 30 (Qac.enc x0),oX 2 44 [.nils,.nils],oX 2 44 [lL 4 routes Qad.enc,lL 1 unserved e_i64]]⟩⟩
def QnF (Γ:Gam) (rv:Qak×Int) (x0:Qac) (list_:List Int) (routes1:List Qad) (unserved1:List Int):Prop:=QgV Γ rv ⟨[.c 31],⟨100,[vP 2 0 6,vP 4 1 2,vP 8 2 2],[oX 6 30 (Qac.enc x0),oX 2 44 [.nils,.nils],oX 2 44 [lL 4 routes1 Qad.enc,lL 1 unserved1 e_i64]]⟩⟩
def Qou (Γ:Gam) (rv:Qak×Int) (x0:Qac) (routes1:List Qad) (l1:List Int) (v2:Int):Prop:=QgV Γ rv ⟨[.c 1012,.l 1012,.b 4,.c 127],⟨100,[vP 4 0 2,vP 8 1 2,vL 74 16 x0.orders Qag.enc,vI 75 (lenI x0.orders),vI 76 v2],[oX 2 44 [.nils,.nils],oX 2 44 [lL 4 routes1 Qad.enc,lO 2 1 l1 e_i64],oS 1 3 l1 e_i64]⟩⟩
def QnG (Γ:Gam) (rv:Qak×Int) (x0:Qac) (routes1:List Qad) (l2:List Int):Prop:=QgV Γ rv ⟨[.c 127],⟨100,[vP 4 0 2,vP 8 1 2],[oX 2 44 [.nils,.nils],oX 2 44 [lL 4 routes1 Qad.enc,lO 2 1 l2 e_i64],oS 1 3 l2 e_i64]⟩⟩
theorem QsG (Γ:Gam) (rv:Qak×Int) {x0 list_} {s:Int} {e:(Unit)⊕(Qak×Int)} (h:loopF (fun s=>Qi8 x0 list_ s) s=some e) (hD:sel e (fun e=>QnE Γ rv x0 list_) (fun e=>e=rv)):Qos Γ rv x0 list_ s:=by
 refine QaB (C:=fun (s:Int)=>Qos Γ rv x0 list_ s) (D:=fun (e:(Unit)⊕(Qak×Int))=>sel e (fun e=>QnE Γ rv x0 list_) (fun e=>e=rv)) ?_ h hD
 clear h hD s e
 intro v z_ h hI hE
 replace h:Qi8 x0 list_ v=_:=h
 unfold Qi8 at h
 rcases Qah h with ⟨h0,h⟩|⟨h0,h⟩
 ·obtain ⟨x1,h1,h⟩:=Qae h
  rcases Qah h with ⟨h2,h⟩|⟨h2,h⟩
  ·obtain rfl:=(hE _ (oJ h):_=rv)
   exact gr 15 [] [bT h0,cE e_i64 h1,rp 4 hP,rp 2 (oI ((ltI x1 0)=false)),nL Qag.enc x0.orders,hP,hP,rp 2 (oI ((ltI x1 0)=false)),oR True ((ltI x1 0)=false),bT h2,hW 5,hH (.nilB 1 0 4),hH (.nilB 1 1 1)]
  ·obtain ⟨l,h3,h⟩:=Qae h
   obtain ⟨r,h4,h⟩:=Qae h
   rcases Qah h with ⟨h5,h⟩|⟨h5,h⟩
   ·obtain rfl:=(hE _ (oJ h):_=rv)
    exact gr 19 [] [bT h0,cE e_i64 h1,rp 4 hP,rp 2 (oI ((ltI x1 0)=false)),nL Qag.enc x0.orders,hP,hP,rp 2 (oI ((ltI x1 0)=false)),oR True ((ltI x1 0)=false),bF h2,hH (.rows (l.map e_i64)),oO (sl1 h3),oO (sl2 h3),oO (sl3 e_i64 h3),oO (Int.le_refl v),oO (sl3 e_i64 h3),oO (sl6 e_i64 h3),cC (Qhj h4),bT h5,hW 5,hH (.nilB 1 0 4),hH (.nilB 1 1 1)]
   ·exact gn 21 [1,2,4,15,16,17] [0,1] [bT h0,cE e_i64 h1,rp 4 hP,rp 2 (oI ((ltI x1 0)=false)),nL Qag.enc x0.orders,hP,hP,rp 2 (oI ((ltI x1 0)=false)),oR True ((ltI x1 0)=false),bF h2,hH (.rows (l.map e_i64)),oO (sl1 h3),oO (sl2 h3),oO (sl3 e_i64 h3),oO (Int.le_refl v),oO (sl3 e_i64 h3),oO (sl6 e_i64 h3),cC (Qhj h4),bF h5] (hI _ (oJ h))
 ·exact gn 5 [1,2,4] [0,1] [bF h0] (hE _ (oJ h))
theorem QsH (Γ:Gam) (rv:Qak×Int) {x0 list_} {s:List Qad×List Int×Int} {e:List Qad×List Int} (h:loopF (fun s=>Qhn x0 list_ s.1 s.2.1 s.2.2) s=some e) (hD:QnF Γ rv x0 list_ e.1 e.2):Qot Γ rv x0 list_ s.1 s.2.1 s.2.2:=by
 refine QaB (C:=fun (s:List Qad×List Int×Int)=>Qot Γ rv x0 list_ s.1 s.2.1 s.2.2) (D:=fun (e:List Qad×List Int)=>QnF Γ rv x0 list_ e.1 e.2) ?_ h hD
 clear h hD s e
 rintro ⟨routes,unserved,v1⟩ z_ h hI hE
 replace h:Qhn x0 list_ routes unserved v1=_:=h
 unfold Qhn at h
 rcases Qah h with ⟨h7,h⟩|⟨h7,h⟩
 ·obtain ⟨x2,h8,h⟩:=Qae h
  obtain ⟨x3,h9,h⟩:=Qae h
  rcases Qah h with ⟨h10,h⟩|⟨h10,h⟩
  ·exact gn 16 [2,4,8,39,40,41] [0,1,2] [bT h7,cE e_i64 h8,cE Qag.enc h9,bT h10] (hI _ (oJ h))
  ·obtain ⟨r1,h11,h⟩:=Qae h
   rcases Qah h with ⟨h12,h⟩|⟨h12,h⟩
   ·obtain ⟨r2,h13,h⟩:=Qae h
    rcases Qah h with ⟨h14,h⟩|⟨h14,h⟩
    ·obtain ⟨r3,h15,h⟩:=Qae h
     exact gn 23 [2,4,8,39,40,41] [0,1,2] [bT h7,cE e_i64 h8,cE Qag.enc h9,bF h10,cC (Qi9 h11),rp 5 (bT h12),cC (Qr0 h13),bT h12,bT h14,cC (QsK h15)] (hI _ (oJ h))
    ·exact gn 23 [2,4,8,39,40,41] [0,1,2] [bT h7,cE e_i64 h8,cE Qag.enc h9,bF h10,cC (Qi9 h11),rp 5 (bT h12),cC (Qr0 h13),bT h12,bF h14] (hI _ (oJ h))
   ·exact gn 23 [2,4,8,39,40,41] [0,1,2] [bT h7,cE e_i64 h8,cE Qag.enc h9,bF h10,cC (Qi9 h11),rp 6 (bF h12),fF] (hI _ (oJ h))
 ·exact gn 5 [2,4,8] [0,1,2] [bF h7] (hE _ (oJ h))
theorem QsI (Γ:Gam) (rv:Qak×Int) {x0 routes1} {s:List Int×Int} {e:(List Int)⊕(Qak×Int)} (h:loopF (fun s=>Qf4 x0 routes1 s.1 s.2) s=some e) (hD:sel e (fun e=>QnG Γ rv x0 routes1 e) (fun e=>e=rv)):Qou Γ rv x0 routes1 s.1 s.2:=by
 refine QaB (C:=fun (s:List Int×Int)=>Qou Γ rv x0 routes1 s.1 s.2) (D:=fun (e:(List Int)⊕(Qak×Int))=>sel e (fun e=>QnG Γ rv x0 routes1 e) (fun e=>e=rv)) ?_ h hD
 clear h hD s e
 rintro ⟨l1,v2⟩ z_ h hI hE
 replace h:Qf4 x0 routes1 l1 v2=_:=h
 unfold Qf4 at h
 rcases Qah h with ⟨h17,h⟩|⟨h17,h⟩
 ·obtain ⟨x4,h18,h⟩:=Qae h
  rcases Qah h with ⟨h19,h⟩|⟨h19,h⟩
  ·exact gn 16 [4,8,74,75,76] [0,1,2] [bT h17,cE Qag.enc h18,rp 4 (bT h19),tT] (hI _ (oJ h))
  ·obtain ⟨r4,h20,h⟩:=Qae h
   rcases Qah h with ⟨h21,h⟩|⟨h21,h⟩
   ·exact gn 16 [4,8,74,75,76] [0,1,2] [bT h17,cE Qag.enc h18,rp 3 (bF h19),eL l1 e_i64,cC (Qf5 h20),bF h19,bT h21] (hI _ (oJ h))
   ·rcases Qah h with ⟨h22,h⟩|⟨h22,h⟩
    ·obtain rfl:=(hE _ (oJ h):_=rv)
     exact gr 20 [] [bT h17,cE Qag.enc h18,rp 3 (bF h19),eL l1 e_i64,cC (Qf5 h20),bF h19,bF h21,bT h22,hW 5,hH (.nilB 0 0 4),hH (.nilB 0 1 1)]
    ·obtain ⟨h23,h⟩:=Qau h
     exact gn 23 [4,8,74,75,76] [0,1,5] [bT h17,cE Qag.enc h18,rp 3 (bF h19),eL l1 e_i64,cC (Qf5 h20),bF h19,bF h21,bF h22,oO (Eq.refl ([v2].map e_i64).length),aO e_i64 h23] (hI _ (oJ h))
 ·exact gn 5 [4,8] [0,1,2] [bF h17] (hE _ (oJ h))
theorem Qho {x0 list_} {rv:Qak×Int} (h:Qqq x0 list_=some rv):AFn Tryz.prog 14 [.agg (Qac.enc x0),.one (lL 1 list_ e_i64)] [] (.tup [.agg [lL 4 rv.1.routes Qad.enc,lL 1 rv.1.unserved e_i64],.one (lI rv.2)]) []:=by
 refine QaL Tryz.func14 (by kernel_rfl) (by kernel_rfl) (fun Γ=>?_)
 unfold Qqq at h
 obtain ⟨e0,h6,h⟩:=Qae h
 refine gn 7 [1,2,4,15,16,17] [0,1] [nL e_i64 list_] (QsG Γ rv h6 ?_)
 rcases e0 with e0|e0
 ·replace h:(bnd (loopF (fun s=>Qhn x0 list_ s.1 s.2.1 s.2.2) ([],[],0)) (fun e0=>(fun routes1 unserved1=>bnd (loopF (fun s=>Qf4 x0 routes1 s.1 s.2) ([],0)) (fun e=>sel e (fun l2=>some ((Qak.mk routes1 l2),0)) (fun r5=>some r5))) e0.1 e0.2):Option (Qak×Int))=some _:=h
  obtain ⟨e1,h16,h⟩:=Qae h
  refine gn 7 [2,4,8,39,40,41] [0,1,2] [nL e_i64 list_,hW 3,hH (.nilB 2 0 4),hH (.nilB 2 1 1)] (QsH Γ rv h16 ?_)
  obtain ⟨routes1,unserved1⟩:=e1
  replace h:(bnd (loopF (fun s=>Qf4 x0 routes1 s.1 s.2) ([],0)) (fun e=>sel e (fun l2=>some ((Qak.mk routes1 l2),0)) (fun r5=>some r5)):Option (Qak×Int))=some _:=h
  obtain ⟨e2,h24,h⟩:=Qae h
  refine gn 7 [4,8,74,75,76] [1,2,3] [nL Qag.enc x0.orders,hW 3,hH (.adoptB 2 1 1 3)] (QsI Γ rv h24 ?_)
  rcases e2 with e2|e2
  ·obtain ⟨l2,rfl⟩:∃ x,x=e2:=⟨_,rfl⟩
   replace h:(some ((Qak.mk routes1 l2),0):Option (Qak×Int))=some _:=h
   obtain rfl:=Option.some.inj h
   exact gr 2 [] [hW 5,hH (.frz 2),rp 3 (eL l2 e_i64)]
  ·obtain ⟨r5,rfl⟩:∃ x,x=e2:=⟨_,rfl⟩
   replace h:(some r5:Option (Qak×Int))=some _:=h
   exact Option.some.inj h
 ·obtain ⟨r6,rfl⟩:∃ x,x=e0:=⟨_,rfl⟩
  replace h:(some r6:Option (Qak×Int))=some _:=h
  exact Option.some.inj h
def Qg9 (Γ:Gam) (rv:Qac) (cf:Cf):Prop:=Go Tryz.prog Tryz.f24 [] Γ (gG [lL 1 rv.net.places e_str,lL 6 rv.net.arcs Qas.enc,lL 14 rv.types Qai.enc,lL 16 rv.orders Qag.enc,lL 2 rv.apart QaQ.enc,lL 2 rv.before QaQ.enc]) [] cf
def Qkp (Γ:Gam) (rv:Qac) (l:List Qas) (v:Int):Prop:=Qg9 Γ rv ⟨[.c 116,.l 116,.b 0,.c 15],⟨65,[vP 0 0 6,vP 1 1 6,vO 15 2 3 [(Qfu.mk 0 1 10),(Qfu.mk 1 0 10),(Qfu.mk 0 2 20),(Qfu.mk 2 0 20),(Qfu.mk 1 2 10),(Qfu.mk 2 1 10)] Qfu.enc,vI 16 (lenI [(Qfu.mk 0 1 10),(Qfu.mk 1 0 10),(Qfu.mk 0 2 20),(Qfu.mk 2 0 20),(Qfu.mk 1 2 10),(Qfu.mk 2 1 10)]),vI 17 v],[oX 6 30 [.nils,.nils,.nils,.nils,.nils,.nils],oX 6 30 [lO 3 1 [QgT,QlC,QlD] e_str,lO 4 6 l Qas.enc,.nils,.nils,.nils,.nils],oS 3 116 [(Qfu.mk 0 1 10),(Qfu.mk 1 0 10),(Qfu.mk 0 2 20),(Qfu.mk 2 0 20),(Qfu.mk 1 2 10),(Qfu.mk 2 1 10)] Qfu.enc,oS 1 9 [QgT,QlC,QlD] e_str,oS 6 122 l Qas.enc]⟩⟩
def QjI (Γ:Gam) (rv:Qac) (l1:List Qas):Prop:=Qg9 Γ rv ⟨[.c 15],⟨65,[vP 0 0 6,vP 1 1 6],[oX 6 30 [.nils,.nils,.nils,.nils,.nils,.nils],oX 6 30 [lO 2 1 [QgT,QlC,QlD] e_str,lO 3 6 l1 Qas.enc,.nils,.nils,.nils,.nils],oS 1 9 [QgT,QlC,QlD] e_str,oS 6 122 l1 Qas.enc]⟩⟩
def Qkq (Γ:Gam) (rv:Qac) (l1:List Qas) (l2:List Qag) (v1:Int):Prop:=Qg9 Γ rv ⟨[.c 500,.l 500,.b 2,.c 63],⟨65,[vP 0 0 6,vP 1 1 6,vO 44 2 1 [Qtw,Qtx] e_str,vI 45 (lenI [Qtw,Qtx]),vI 46 v1],[oX 6 30 [.nils,.nils,.nils,.nils,.nils,.nils],oX 6 30 [lO 3 1 [QgT,QlC,QlD] e_str,lO 4 6 l1 Qas.enc,lO 5 14 [(Qai.mk Qra 1 0 0 [2] 0 0 0 100 100 0 0 1 0)] Qai.enc,lO 6 16 l2 Qag.enc,.nils,.nils],oS 1 9 [Qtw,Qtx] e_str,oS 1 9 [QgT,QlC,QlD] e_str,oS 6 122 l1 Qas.enc,oS 14 124 [(Qai.mk Qra 1 0 0 [2] 0 0 0 100 100 0 0 1 0)] Qai.enc,oS 16 74 l2 Qag.enc]⟩⟩
def QjJ (Γ:Gam) (rv:Qac) (l1:List Qas) (l3:List Qag):Prop:=Qg9 Γ rv ⟨[.c 63],⟨65,[vP 0 0 6,vP 1 1 6],[oX 6 30 [.nils,.nils,.nils,.nils,.nils,.nils],oX 6 30 [lO 2 1 [QgT,QlC,QlD] e_str,lO 3 6 l1 Qas.enc,lO 4 14 [(Qai.mk Qra 1 0 0 [2] 0 0 0 100 100 0 0 1 0)] Qai.enc,lO 5 16 l3 Qag.enc,.nils,.nils],oS 1 9 [QgT,QlC,QlD] e_str,oS 6 122 l1 Qas.enc,oS 14 124 [(Qai.mk Qra 1 0 0 [2] 0 0 0 100 100 0 0 1 0)] Qai.enc,oS 16 74 l3 Qag.enc]⟩⟩
theorem QpW (Γ:Gam) (rv:Qac) {s:List Qas×Int} {e:List Qas} (h:loopF (fun s=>Qgq s.1 s.2) s=some e) (hD:QjI Γ rv e):Qkp Γ rv s.1 s.2:=by
 refine QaB (C:=fun (s:List Qas×Int)=>Qkp Γ rv s.1 s.2) (D:=fun (e:List Qas)=>QjI Γ rv e) ?_ h hD
 clear h hD s e
 rintro ⟨l,v⟩ z_ h hI hE
 replace h:Qgq l v=_:=h
 unfold Qgq at h
 rcases Qah h with ⟨h0,h⟩|⟨h0,h⟩
 ·obtain ⟨x0,h1,h⟩:=Qae h
  obtain ⟨h2,h⟩:=Qau h
  exact gn 13 [0,1,15,16,17] [0,1,2,3,8] [bT h0,oO (getLo h1),oO (getHi Qfu.enc h1),rE Qfu.enc h1,hW 17,hH (.frz 6),hH (.nilS 34 5 2),oO (zL 0),oO (lT 0 3),oO (zL 1),oO (lT 1 3),oO (zL 2),oO (lT 2 3),oO (zL 2),oO (lT 2 3),rp 2 (oO (Eq.refl ([(Qao.mk 0 x0.x2)].map Qao.enc).length)),oO (Eq.refl ([(Qas.mk x0.x0 x0.x1 0 x0.x2 [(Qao.mk 0 x0.x2)] [])].map Qas.enc).length),aO Qas.enc h2] (hI _ (oJ h))
 ·exact gn 5 [0,1] [0,1,3,4] [bF h0] (hE _ (oJ h))
theorem QpX (Γ:Gam) (rv:Qac) {l1} {s:List Qag×Int} {e:List Qag} (h:loopF (fun s=>Qe7 l1 s.1 s.2) s=some e) (hD:QjJ Γ rv l1 e):Qkq Γ rv l1 s.1 s.2:=by
 refine QaB (C:=fun (s:List Qag×Int)=>Qkq Γ rv l1 s.1 s.2) (D:=fun (e:List Qag)=>QjJ Γ rv l1 e) ?_ h hD
 clear h hD s e
 rintro ⟨l2,v1⟩ z_ h hI hE
 replace h:Qe7 l1 l2 v1=_:=h
 unfold Qe7 at h
 rcases Qah h with ⟨h4,h⟩|⟨h4,h⟩
 ·obtain ⟨x1,h5,h⟩:=Qae h
  obtain ⟨h6,h⟩:=Qau h
  exact gn 13 [0,1,44,45,46] [0,1,2,3,4,5,9] [bT h4,oO (getLo h5),oO (getHi e_str h5),rE e_str h5,hW 12,hH (.frz 7),rp 2 (oO (Eq.refl ([1].map e_i64).length)),oO (Eq.refl ([(Qag.mk x1 [1] (Qav.mk (-1) 0 0 0) (Qav.mk (addK .i64 v1 1) 0 90 0) 0 30 1 (-1) (-1) false)].map Qag.enc).length),aO Qag.enc h6] (hI _ (oJ h))
 ·exact gn 5 [0,1] [0,1,3,4,5,6] [bF h4] (hE _ (oJ h))
theorem Qe8 {rv:Qac} (h:Qlx=some rv):AFn Tryz.prog 24 [] [] (gG [lL 1 rv.net.places e_str,lL 6 rv.net.arcs Qas.enc,lL 14 rv.types Qai.enc,lL 16 rv.orders Qag.enc,lL 2 rv.apart QaQ.enc,lL 2 rv.before QaQ.enc]) []:=by
 refine QaL Tryz.func24 (by kernel_rfl) (by kernel_rfl) (fun Γ=>?_)
 unfold Qlx at h
 obtain ⟨e0,h3,h⟩:=Qae h
 refine gn 9 [0,1,15,16,17] [0,2,3,1,4] [nL Qfu.enc [(Qfu.mk 0 1 10),(Qfu.mk 1 0 10),(Qfu.mk 0 2 20),(Qfu.mk 2 0 20),(Qfu.mk 1 2 10),(Qfu.mk 2 1 10)],hW 3,hH (.adoptB 2 1 6 122)] (QpW Γ rv h3 ?_)
 obtain ⟨l1,rfl⟩:∃ x,x=e0:=⟨_,rfl⟩
 replace h:(bnd (loopF (fun s=>Qe7 l1 s.1 s.2) ([],0)) (fun l3=>some (Qac.mk (Qal.mk [QgT,QlC,QlD] l1) [(Qai.mk Qra 1 0 0 [2] 0 0 0 100 100 0 0 1 0)] l3 [] [])):Option Qac)=some _:=h
 obtain ⟨e1,h7,h⟩:=Qae h
 refine gn 7 [0,1,44,45,46] [0,1,6,2,3,5,7] [hW 4,hH (.frz 4),rp 2 (oO (Eq.refl ([2].map e_i64).length)),nL e_str [Qtw,Qtx],hW 3,hH (.adoptB 1 3 16 74)] (QpX Γ rv h7 ?_)
 obtain ⟨l3,rfl⟩:∃ x,x=e1:=⟨_,rfl⟩
 replace h:(some (Qac.mk (Qal.mk [QgT,QlC,QlD] l1) [(Qai.mk Qra 1 0 0 [2] 0 0 0 100 100 0 0 1 0)] l3 [] []):Option Qac)=some _:=h
 obtain rfl:=Option.some.inj h
 exact gr 2 [] [hW 4,hH (.frz 2),hH (.frz 3),hH (.frz 4),hH (.frz 5),hH (.nilB 0 4 2),hH (.nilB 0 5 2),rp 3 (oO (Eq.refl ([QgT,QlC,QlD].map e_str).length)),rp 3 (eL l1 Qas.enc),rp 3 (oO (Eq.refl ([(Qai.mk Qra 1 0 0 [2] 0 0 0 100 100 0 0 1 0)].map Qai.enc).length)),rp 3 (eL l3 Qag.enc)]
theorem Qhq {rv:Bool} (h:Qed=some rv):AFn Tryz.prog 10 [] [] (one (.bool rv)) []:=by
 refine QaL Tryz.func10 (by kernel_rfl) (by kernel_rfl) (fun Γ=>?_)
 unfold Qed at h
 obtain ⟨r,h0,h⟩:=Qae h
 obtain ⟨r1,h1,h⟩:=Qae h
 obtain ⟨r2,h2,h⟩:=Qae h
 obtain ⟨r3,h3,h⟩:=Qae h
 obtain ⟨r4,h4,h⟩:=Qae h
 rcases Qah h with ⟨h5,h⟩|⟨h5,h⟩
 ·obtain rfl:=Option.some.inj h
  exact gr 20 [] [cC (Qe8 h0),hW 16,hH (.frz 3),hH (.nilS 22 2 1),rp 2 (oO (Eq.refl ([(Qaa.mk 1 true)].map Qaa.enc).length)),cC (QbH h1),hW 15,hH (.frz 5),hH (.frz 6),rp 2 (oO (Eq.refl ([false].map Qbb).length)),rp 2 (oO (Eq.refl ([(Qaa.mk 1 true)].map Qaa.enc).length)),cC (QbH h2),hW 12,hH (.frz 8),oO (Eq.refl ([0,1].map e_i64).length),cC (Qho h3),hW 10,hH (.nilS 45 2 1),hH (.nilS 45 3 2),cC (QbH h4),rp 12 hP,oI ((neI r1.2.2 0)=false),oR True ((neI r1.2.2 0)=false),oI (((neI r1.2.2 0)||(neI r2.2.2 0))=false),oR True (((neI r1.2.2 0)||(neI r2.2.2 0))=false),oI ((((neI r1.2.2 0)||(neI r2.2.2 0))||(neI r3.2 0))=false),oR True ((((neI r1.2.2 0)||(neI r2.2.2 0))||(neI r3.2 0))=false),rp 2 (oI (((((neI r1.2.2 0)||(neI r2.2.2 0))||(neI r3.2 0))||(neI r4.2.2 2))=false)),nL Qaa.enc r1.1.visits,rp 5 hP,oI (((((neI r1.2.2 0)||(neI r2.2.2 0))||(neI r3.2 0))||(neI r4.2.2 2))=false),oR True (((((neI r1.2.2 0)||(neI r2.2.2 0))||(neI r3.2 0))||(neI r4.2.2 2))=false),rp 2 (oI ((((((neI r1.2.2 0)||(neI r2.2.2 0))||(neI r3.2 0))||(neI r4.2.2 2))||(neI (lenI r1.1.visits) 2))=false)),nL Qaa.enc r2.1.visits,rp 5 hP,oI ((((((neI r1.2.2 0)||(neI r2.2.2 0))||(neI r3.2 0))||(neI r4.2.2 2))||(neI (lenI r1.1.visits) 2))=false),oR True ((((((neI r1.2.2 0)||(neI r2.2.2 0))||(neI r3.2 0))||(neI r4.2.2 2))||(neI (lenI r1.1.visits) 2))=false),rp 2 (oI (((((((neI r1.2.2 0)||(neI r2.2.2 0))||(neI r3.2 0))||(neI r4.2.2 2))||(neI (lenI r1.1.visits) 2))||(neI (lenI r2.1.visits) 2))=false)),nL Qad.enc r3.1.routes,hP,hP,oI (((((((neI r1.2.2 0)||(neI r2.2.2 0))||(neI r3.2 0))||(neI r4.2.2 2))||(neI (lenI r1.1.visits) 2))||(neI (lenI r2.1.visits) 2))=false),oR True (((((((neI r1.2.2 0)||(neI r2.2.2 0))||(neI r3.2 0))||(neI r4.2.2 2))||(neI (lenI r1.1.visits) 2))||(neI (lenI r2.1.visits) 2))=false),bT h5]
 ·obtain ⟨x0,h6,h⟩:=Qae h
  rcases Qah h with ⟨h7,h⟩|⟨h7,h⟩
  ·obtain ⟨x1,h8,h⟩:=Qae h
   rcases Qah h with ⟨h9,h⟩|⟨h9,h⟩
   ·obtain ⟨x2,h10,h⟩:=Qae h
    rcases Qah h with ⟨h11,h⟩|⟨h11,h⟩
    ·obtain ⟨x3,h12,h⟩:=Qae h
     obtain rfl:=Option.some.inj h
     exact gr 21 [] [cC (Qe8 h0),hW 16,hH (.frz 3),hH (.nilS 22 2 1),rp 2 (oO (Eq.refl ([(Qaa.mk 1 true)].map Qaa.enc).length)),cC (QbH h1),hW 15,hH (.frz 5),hH (.frz 6),rp 2 (oO (Eq.refl ([false].map Qbb).length)),rp 2 (oO (Eq.refl ([(Qaa.mk 1 true)].map Qaa.enc).length)),cC (QbH h2),hW 12,hH (.frz 8),oO (Eq.refl ([0,1].map e_i64).length),cC (Qho h3),hW 10,hH (.nilS 45 2 1),hH (.nilS 45 3 2),cC (QbH h4),rp 12 hP,oI ((neI r1.2.2 0)=false),oR True ((neI r1.2.2 0)=false),oI (((neI r1.2.2 0)||(neI r2.2.2 0))=false),oR True (((neI r1.2.2 0)||(neI r2.2.2 0))=false),oI ((((neI r1.2.2 0)||(neI r2.2.2 0))||(neI r3.2 0))=false),oR True ((((neI r1.2.2 0)||(neI r2.2.2 0))||(neI r3.2 0))=false),rp 2 (oI (((((neI r1.2.2 0)||(neI r2.2.2 0))||(neI r3.2 0))||(neI r4.2.2 2))=false)),nL Qaa.enc r1.1.visits,rp 5 hP,oI (((((neI r1.2.2 0)||(neI r2.2.2 0))||(neI r3.2 0))||(neI r4.2.2 2))=false),oR True (((((neI r1.2.2 0)||(neI r2.2.2 0))||(neI r3.2 0))||(neI r4.2.2 2))=false),rp 2 (oI ((((((neI r1.2.2 0)||(neI r2.2.2 0))||(neI r3.2 0))||(neI r4.2.2 2))||(neI (lenI r1.1.visits) 2))=false)),nL Qaa.enc r2.1.visits,rp 5 hP,oI ((((((neI r1.2.2 0)||(neI r2.2.2 0))||(neI r3.2 0))||(neI r4.2.2 2))||(neI (lenI r1.1.visits) 2))=false),oR True ((((((neI r1.2.2 0)||(neI r2.2.2 0))||(neI r3.2 0))||(neI r4.2.2 2))||(neI (lenI r1.1.visits) 2))=false),rp 2 (oI (((((((neI r1.2.2 0)||(neI r2.2.2 0))||(neI r3.2 0))||(neI r4.2.2 2))||(neI (lenI r1.1.visits) 2))||(neI (lenI r2.1.visits) 2))=false)),nL Qad.enc r3.1.routes,hP,hP,oI (((((((neI r1.2.2 0)||(neI r2.2.2 0))||(neI r3.2 0))||(neI r4.2.2 2))||(neI (lenI r1.1.visits) 2))||(neI (lenI r2.1.visits) 2))=false),oR True (((((((neI r1.2.2 0)||(neI r2.2.2 0))||(neI r3.2 0))||(neI r4.2.2 2))||(neI (lenI r1.1.visits) 2))||(neI (lenI r2.1.visits) 2))=false),bF h5,hH (.draw 42 []),cE Qaa.enc h6,hP,hP,hP,oI ((eqI x0.order 0&&(eqB x0.drop true&&true))=true),oR True ((eqI x0.order 0&&(eqB x0.drop true&&true))=true),rp 3 (bT h7),cE Qaa.enc h8,rp 4 (bT h7),rp 3 (bT h9),cE Qaa.enc h10,rp 4 (bT h9),rp 3 (bT h11),cE Qad.enc h12,rp 3 (bT h11),nL Qaa.enc x3.visits,rp 2 (bT h11),hP,hP,hP,rp 2 (oI ((eqI (lenI x3.visits) 2)=true)),nL e_i64 r3.1.unserved,hP,hP,oI ((eqI (lenI x3.visits) 2)=true),oR True ((eqI (lenI x3.visits) 2)=true)]
    ·obtain rfl:=Option.some.inj h
     exact gr 21 [] [cC (Qe8 h0),hW 16,hH (.frz 3),hH (.nilS 22 2 1),rp 2 (oO (Eq.refl ([(Qaa.mk 1 true)].map Qaa.enc).length)),cC (QbH h1),hW 15,hH (.frz 5),hH (.frz 6),rp 2 (oO (Eq.refl ([false].map Qbb).length)),rp 2 (oO (Eq.refl ([(Qaa.mk 1 true)].map Qaa.enc).length)),cC (QbH h2),hW 12,hH (.frz 8),oO (Eq.refl ([0,1].map e_i64).length),cC (Qho h3),hW 10,hH (.nilS 45 2 1),hH (.nilS 45 3 2),cC (QbH h4),rp 12 hP,oI ((neI r1.2.2 0)=false),oR True ((neI r1.2.2 0)=false),oI (((neI r1.2.2 0)||(neI r2.2.2 0))=false),oR True (((neI r1.2.2 0)||(neI r2.2.2 0))=false),oI ((((neI r1.2.2 0)||(neI r2.2.2 0))||(neI r3.2 0))=false),oR True ((((neI r1.2.2 0)||(neI r2.2.2 0))||(neI r3.2 0))=false),rp 2 (oI (((((neI r1.2.2 0)||(neI r2.2.2 0))||(neI r3.2 0))||(neI r4.2.2 2))=false)),nL Qaa.enc r1.1.visits,rp 5 hP,oI (((((neI r1.2.2 0)||(neI r2.2.2 0))||(neI r3.2 0))||(neI r4.2.2 2))=false),oR True (((((neI r1.2.2 0)||(neI r2.2.2 0))||(neI r3.2 0))||(neI r4.2.2 2))=false),rp 2 (oI ((((((neI r1.2.2 0)||(neI r2.2.2 0))||(neI r3.2 0))||(neI r4.2.2 2))||(neI (lenI r1.1.visits) 2))=false)),nL Qaa.enc r2.1.visits,rp 5 hP,oI ((((((neI r1.2.2 0)||(neI r2.2.2 0))||(neI r3.2 0))||(neI r4.2.2 2))||(neI (lenI r1.1.visits) 2))=false),oR True ((((((neI r1.2.2 0)||(neI r2.2.2 0))||(neI r3.2 0))||(neI r4.2.2 2))||(neI (lenI r1.1.visits) 2))=false),rp 2 (oI (((((((neI r1.2.2 0)||(neI r2.2.2 0))||(neI r3.2 0))||(neI r4.2.2 2))||(neI (lenI r1.1.visits) 2))||(neI (lenI r2.1.visits) 2))=false)),nL Qad.enc r3.1.routes,hP,hP,oI (((((((neI r1.2.2 0)||(neI r2.2.2 0))||(neI r3.2 0))||(neI r4.2.2 2))||(neI (lenI r1.1.visits) 2))||(neI (lenI r2.1.visits) 2))=false),oR True (((((((neI r1.2.2 0)||(neI r2.2.2 0))||(neI r3.2 0))||(neI r4.2.2 2))||(neI (lenI r1.1.visits) 2))||(neI (lenI r2.1.visits) 2))=false),bF h5,hH (.draw 42 []),cE Qaa.enc h6,hP,hP,hP,oI ((eqI x0.order 0&&(eqB x0.drop true&&true))=true),oR True ((eqI x0.order 0&&(eqB x0.drop true&&true))=true),rp 3 (bT h7),cE Qaa.enc h8,rp 4 (bT h7),rp 3 (bT h9),cE Qaa.enc h10,rp 4 (bT h9),rp 8 (bF h11),rp 5 fF]
   ·obtain rfl:=Option.some.inj h
    exact gr 21 [] [cC (Qe8 h0),hW 16,hH (.frz 3),hH (.nilS 22 2 1),rp 2 (oO (Eq.refl ([(Qaa.mk 1 true)].map Qaa.enc).length)),cC (QbH h1),hW 15,hH (.frz 5),hH (.frz 6),rp 2 (oO (Eq.refl ([false].map Qbb).length)),rp 2 (oO (Eq.refl ([(Qaa.mk 1 true)].map Qaa.enc).length)),cC (QbH h2),hW 12,hH (.frz 8),oO (Eq.refl ([0,1].map e_i64).length),cC (Qho h3),hW 10,hH (.nilS 45 2 1),hH (.nilS 45 3 2),cC (QbH h4),rp 12 hP,oI ((neI r1.2.2 0)=false),oR True ((neI r1.2.2 0)=false),oI (((neI r1.2.2 0)||(neI r2.2.2 0))=false),oR True (((neI r1.2.2 0)||(neI r2.2.2 0))=false),oI ((((neI r1.2.2 0)||(neI r2.2.2 0))||(neI r3.2 0))=false),oR True ((((neI r1.2.2 0)||(neI r2.2.2 0))||(neI r3.2 0))=false),rp 2 (oI (((((neI r1.2.2 0)||(neI r2.2.2 0))||(neI r3.2 0))||(neI r4.2.2 2))=false)),nL Qaa.enc r1.1.visits,rp 5 hP,oI (((((neI r1.2.2 0)||(neI r2.2.2 0))||(neI r3.2 0))||(neI r4.2.2 2))=false),oR True (((((neI r1.2.2 0)||(neI r2.2.2 0))||(neI r3.2 0))||(neI r4.2.2 2))=false),rp 2 (oI ((((((neI r1.2.2 0)||(neI r2.2.2 0))||(neI r3.2 0))||(neI r4.2.2 2))||(neI (lenI r1.1.visits) 2))=false)),nL Qaa.enc r2.1.visits,rp 5 hP,oI ((((((neI r1.2.2 0)||(neI r2.2.2 0))||(neI r3.2 0))||(neI r4.2.2 2))||(neI (lenI r1.1.visits) 2))=false),oR True ((((((neI r1.2.2 0)||(neI r2.2.2 0))||(neI r3.2 0))||(neI r4.2.2 2))||(neI (lenI r1.1.visits) 2))=false),rp 2 (oI (((((((neI r1.2.2 0)||(neI r2.2.2 0))||(neI r3.2 0))||(neI r4.2.2 2))||(neI (lenI r1.1.visits) 2))||(neI (lenI r2.1.visits) 2))=false)),nL Qad.enc r3.1.routes,hP,hP,oI (((((((neI r1.2.2 0)||(neI r2.2.2 0))||(neI r3.2 0))||(neI r4.2.2 2))||(neI (lenI r1.1.visits) 2))||(neI (lenI r2.1.visits) 2))=false),oR True (((((((neI r1.2.2 0)||(neI r2.2.2 0))||(neI r3.2 0))||(neI r4.2.2 2))||(neI (lenI r1.1.visits) 2))||(neI (lenI r2.1.visits) 2))=false),bF h5,hH (.draw 42 []),cE Qaa.enc h6,hP,hP,hP,oI ((eqI x0.order 0&&(eqB x0.drop true&&true))=true),oR True ((eqI x0.order 0&&(eqB x0.drop true&&true))=true),rp 3 (bT h7),cE Qaa.enc h8,rp 4 (bT h7),rp 7 (bF h9),rp 13 fF]
  ·obtain rfl:=Option.some.inj h
   exact gr 21 [] [cC (Qe8 h0),hW 16,hH (.frz 3),hH (.nilS 22 2 1),rp 2 (oO (Eq.refl ([(Qaa.mk 1 true)].map Qaa.enc).length)),cC (QbH h1),hW 15,hH (.frz 5),hH (.frz 6),rp 2 (oO (Eq.refl ([false].map Qbb).length)),rp 2 (oO (Eq.refl ([(Qaa.mk 1 true)].map Qaa.enc).length)),cC (QbH h2),hW 12,hH (.frz 8),oO (Eq.refl ([0,1].map e_i64).length),cC (Qho h3),hW 10,hH (.nilS 45 2 1),hH (.nilS 45 3 2),cC (QbH h4),rp 12 hP,oI ((neI r1.2.2 0)=false),oR True ((neI r1.2.2 0)=false),oI (((neI r1.2.2 0)||(neI r2.2.2 0))=false),oR True (((neI r1.2.2 0)||(neI r2.2.2 0))=false),oI ((((neI r1.2.2 0)||(neI r2.2.2 0))||(neI r3.2 0))=false),oR True ((((neI r1.2.2 0)||(neI r2.2.2 0))||(neI r3.2 0))=false),rp 2 (oI (((((neI r1.2.2 0)||(neI r2.2.2 0))||(neI r3.2 0))||(neI r4.2.2 2))=false)),nL Qaa.enc r1.1.visits,rp 5 hP,oI (((((neI r1.2.2 0)||(neI r2.2.2 0))||(neI r3.2 0))||(neI r4.2.2 2))=false),oR True (((((neI r1.2.2 0)||(neI r2.2.2 0))||(neI r3.2 0))||(neI r4.2.2 2))=false),rp 2 (oI ((((((neI r1.2.2 0)||(neI r2.2.2 0))||(neI r3.2 0))||(neI r4.2.2 2))||(neI (lenI r1.1.visits) 2))=false)),nL Qaa.enc r2.1.visits,rp 5 hP,oI ((((((neI r1.2.2 0)||(neI r2.2.2 0))||(neI r3.2 0))||(neI r4.2.2 2))||(neI (lenI r1.1.visits) 2))=false),oR True ((((((neI r1.2.2 0)||(neI r2.2.2 0))||(neI r3.2 0))||(neI r4.2.2 2))||(neI (lenI r1.1.visits) 2))=false),rp 2 (oI (((((((neI r1.2.2 0)||(neI r2.2.2 0))||(neI r3.2 0))||(neI r4.2.2 2))||(neI (lenI r1.1.visits) 2))||(neI (lenI r2.1.visits) 2))=false)),nL Qad.enc r3.1.routes,hP,hP,oI (((((((neI r1.2.2 0)||(neI r2.2.2 0))||(neI r3.2 0))||(neI r4.2.2 2))||(neI (lenI r1.1.visits) 2))||(neI (lenI r2.1.visits) 2))=false),oR True (((((((neI r1.2.2 0)||(neI r2.2.2 0))||(neI r3.2 0))||(neI r4.2.2 2))||(neI (lenI r1.1.visits) 2))||(neI (lenI r2.1.visits) 2))=false),bF h5,hH (.draw 42 []),cE Qaa.enc h6,hP,hP,hP,oI ((eqI x0.order 0&&(eqB x0.drop true&&true))=true),oR True ((eqI x0.order 0&&(eqB x0.drop true&&true))=true),rp 7 (bF h7),rp 20 fF]
theorem QbQ {x0 order} {rv:Bool} (h:Qfs x0 order=some rv):AFn Tryz.prog 29 [.agg (Qac.enc x0),.one (lI order)] [] (one (.bool rv)) []:=by
 refine QaL Tryz.func29 (by kernel_rfl) (by kernel_rfl) (fun Γ=>?_)
 unfold Qfs at h
 obtain rfl:=Option.some.inj h
 exact gr 4 [] [rp 4 hP,rp 2 (oI ((geI order 0)=true)),nL Qag.enc x0.orders,hP,hP,rp 2 (oI ((geI order 0)=true)),oR True ((geI order 0)=true)]
def Qr2 (Γ:Gam) (rv:Bool) (cf:Cf):Prop:=Go Tryz.prog Tryz.f30 [] Γ (one (.bool rv)) [] cf
def QoW (Γ:Gam) (rv:Bool) (r:Qad) (order:Int) (i:Int):Prop:=Qr2 Γ rv ⟨[.c 52,.l 52,.b 0,.c 7],⟨21,[vI 1 order,vP 2 0 4,vI 5 i],[oX 4 34 (Qad.enc r)]⟩⟩
def QnZ (Γ:Gam) (rv:Bool) (r:Qad) (order:Int):Prop:=Qr2 Γ rv ⟨[.c 7],⟨21,[],[]⟩⟩
theorem QsZ (Γ:Gam) (rv:Bool) {r order} {s:Int} {e:(Unit)⊕(Bool)} (h:loopF (fun s=>Qgk r order s) s=some e) (hD:sel e (fun e=>QnZ Γ rv r order) (fun e=>e=rv)):QoW Γ rv r order s:=by
 refine QaB (C:=fun (s:Int)=>QoW Γ rv r order s) (D:=fun (e:(Unit)⊕(Bool))=>sel e (fun e=>QnZ Γ rv r order) (fun e=>e=rv)) ?_ h hD
 clear h hD s e
 intro i z_ h hI hE
 replace h:Qgk r order i=_:=h
 unfold Qgk at h
 rcases Qah h with ⟨h0,h⟩|⟨h0,h⟩
 ·obtain ⟨x0,h1,h⟩:=Qae h
  rcases Qah h with ⟨h2,h⟩|⟨h2,h⟩
  ·obtain rfl:=(hE _ (oJ h):_=rv)
   exact gr 12 [] [nL Qaa.enc r.visits,bT h0,cE Qaa.enc h1,bT h2]
  ·exact gn 14 [1,2,5] [0] [nL Qaa.enc r.visits,bT h0,cE Qaa.enc h1,bF h2] (hI _ (oJ h))
 ·exact gn 5 [] [] [nL Qaa.enc r.visits,bF h0] (hE _ (oJ h))
theorem Qju {r order} {rv:Bool} (h:Qi2 r order=some rv):AFn Tryz.prog 30 [.agg (Qad.enc r),.one (lI order)] [] (one (.bool rv)) []:=by
 refine QaL Tryz.func30 (by kernel_rfl) (by kernel_rfl) (fun Γ=>?_)
 unfold Qi2 at h
 obtain ⟨e0,h3,h⟩:=Qae h
 refine gn 7 [1,2,5] [0] [] (QsZ Γ rv h3 ?_)
 rcases e0 with e0|e0
 ·replace h:(some false:Option Bool)=some _:=h
  obtain rfl:=Option.some.inj h
  exact gr 2 [] []
 ·obtain ⟨r1,rfl⟩:∃ x,x=e0:=⟨_,rfl⟩
  replace h:(some r1:Option Bool)=some _:=h
  exact Option.some.inj h
def QsR (Γ:Gam) (rv:List Qaa) (cf:Cf):Prop:=Go Tryz.prog Tryz.f31 [] Γ (one (lL 2 rv Qaa.enc)) [] cf
theorem QjP (Γ:Gam) (rv:List Qaa) {l at_ l1} (h:QdL l at_ l1=some rv):QsR Γ rv ⟨[.c 31],⟨38,[vL 0 16 l Qag.enc,vI 1 at_,vO 5 0 2 l1 Qaa.enc],[oS 2 52 l1 Qaa.enc]⟩⟩:=by
 unfold QdL at h
 obtain ⟨x1,h5,h⟩:=Qae h
 rcases Qah h with ⟨h6,h⟩|⟨h6,h⟩
 ·obtain ⟨h7,h⟩:=Qau h
  obtain rfl:=Option.some.inj h
  exact gr 7 [] [cE Qag.enc h5,bT h6,oO (Eq.refl ([(Qaa.mk at_ true)].map Qaa.enc).length),aO Qaa.enc h7,hW 5,hH (.frz 2),rp 4 (oO (Eq.refl ((l1++[(Qaa.mk at_ true)]).map Qaa.enc).length))]
 ·obtain rfl:=Option.some.inj h
  exact gr 7 [] [cE Qag.enc h5,bF h6,hW 5,hH (.frz 0),rp 3 (eL l1 Qaa.enc)]
theorem Qsm {l at_} {rv:List Qaa} (h:QgM l at_=some rv):AFn Tryz.prog 31 [.one (lL 16 l Qag.enc),.one (lI at_)] [] (one (lL 2 rv Qaa.enc)) []:=by
 refine QaL Tryz.func31 (by kernel_rfl) (by kernel_rfl) (fun Γ=>?_)
 unfold QgM at h
 obtain ⟨r,h0,h⟩:=Qae h
 rcases Qah h with ⟨h1,h⟩|⟨h1,h⟩
 ·obtain ⟨x0,h2,h⟩:=Qae h
  rcases Qah h with ⟨h3,h⟩|⟨h3,h⟩
  ·obtain ⟨h4,h⟩:=Qau h
   exact gn 14 [0,1,5] [1] [nL Qag.enc l,cC (QaG h0),nF h1,cE Qag.enc h2,bT h3,oO (Eq.refl ([(Qaa.mk at_ false)].map Qaa.enc).length),aN (l:=([(Qaa.mk at_ false)]:List Qaa)) Qaa.enc h4] (QjP Γ rv h)
  ·exact gn 14 [0,1,5] [0] [nL Qag.enc l,cC (QaG h0),nF h1,cE Qag.enc h2,bF h3,hW 1,hH (.adopt 5 2 52)] (QjP Γ rv h)
 ·obtain rfl:=Option.some.inj h
  exact gr 10 [] [nL Qag.enc l,cC (QaG h0),nT h1,hW 4,hH (.nilS 4 0 2)]
theorem QiB {l at_ v} {rv:List Qaa} (h:Qdh l at_ v=some rv):AFn Tryz.prog 32 [.one (lL 2 l Qaa.enc),.one (lI at_),.agg (Qaa.enc v)] [] (one (lL 2 rv Qaa.enc)) []:=by
 refine QaL Tryz.func32 (by kernel_rfl) (by kernel_rfl) (fun Γ=>?_)
 unfold Qdh at h
 obtain ⟨l1,h0,h⟩:=Qae h
 obtain ⟨h1,h⟩:=Qau h
 obtain ⟨h2,h⟩:=Qau h
 obtain ⟨l2,h3,h⟩:=Qae h
 obtain ⟨h4,h⟩:=Qau h
 obtain rfl:=Option.some.inj h
 exact gr 10 [] [rp 2 (hH (.rows (l1.map Qaa.enc))),hH (.rows ((l1++[v]).map Qaa.enc)),hH (.rows (l2.map Qaa.enc)),hH (.rows (((l1++[v])++l2).map Qaa.enc)),hW 1,hH (.frz 4),oO (sl1 h0),oO (sl2 h0),oO (sl3 Qaa.enc h0),oO (Int.le_refl at_),oO (sl3 Qaa.enc h0),oO (sl6 Qaa.enc h0),oO (Eq.refl (l1.map Qaa.enc)),oO (okLe (l:=(l1:List Qaa)) Qaa.enc h1),oO (okLe2 (l:=(l1:List Qaa)) (b:=16) Qaa.enc (by decide) h1),oO (Eq.refl ([v].map Qaa.enc).length),eL l1 Qaa.enc,oO (appM Qaa.enc l1 [v]),oO (okLe (l:=((l1++[v]):List Qaa)) Qaa.enc h2),oO (okLe2 (l:=((l1++[v]):List Qaa)) (b:=16) Qaa.enc (by decide) h2),oO (sl1 h3),oO (sl2h Qaa.enc h3),rp 3 (oO (Int.le_refl ((l.map Qaa.enc).length:Int))),oO (sl6h Qaa.enc h3),oO (Eq.refl ((l1++[v]).map Qaa.enc).length),oO (appM Qaa.enc (l1++[v]) l2),oO (okLe (l:=(((l1++[v])++l2):List Qaa)) Qaa.enc h4),oO (okLe2 (l:=(((l1++[v])++l2):List Qaa)) (b:=16) Qaa.enc (by decide) h4),rp 2 (oO (Eq.refl (((l1++[v])++l2).map Qaa.enc).length))]
theorem QnW {s0} {rv:Bool} (h:Qjs s0=some rv):AFn Tryz.prog 79 [.agg (Qaz.enc s0)] [] (one (.bool rv)) []:=by
 refine QaL Tryz.func79 (by kernel_rfl) (by kernel_rfl) (fun Γ=>?_)
 unfold Qjs at h
 obtain rfl:=Option.some.inj h
 exact gr 4 [] [rp 28 hP,rp 2 (oI ((geI s0.cost 0)=true)),oR True ((geI s0.cost 0)=true),rp 2 (oI (((geI s0.cost 0)&&(leI s0.cost 1073741824))=true)),oR True (((geI s0.cost 0)&&(leI s0.cost 1073741824))=true),rp 2 (oI ((((geI s0.cost 0)&&(leI s0.cost 1073741824))&&(geI s0.moved 0))=true)),oR True ((((geI s0.cost 0)&&(leI s0.cost 1073741824))&&(geI s0.moved 0))=true),rp 2 (oI (((((geI s0.cost 0)&&(leI s0.cost 1073741824))&&(geI s0.moved 0))&&(leI s0.moved 15))=true)),oR True (((((geI s0.cost 0)&&(leI s0.cost 1073741824))&&(geI s0.moved 0))&&(leI s0.moved 15))=true),rp 2 (oI ((((((geI s0.cost 0)&&(leI s0.cost 1073741824))&&(geI s0.moved 0))&&(leI s0.moved 15))&&(geI s0.other 0))=true)),oR True ((((((geI s0.cost 0)&&(leI s0.cost 1073741824))&&(geI s0.moved 0))&&(leI s0.moved 15))&&(geI s0.other 0))=true),rp 2 (oI (((((((geI s0.cost 0)&&(leI s0.cost 1073741824))&&(geI s0.moved 0))&&(leI s0.moved 15))&&(geI s0.other 0))&&(leI s0.other 15))=true)),oR True (((((((geI s0.cost 0)&&(leI s0.cost 1073741824))&&(geI s0.moved 0))&&(leI s0.moved 15))&&(geI s0.other 0))&&(leI s0.other 15))=true),rp 2 (oI ((((((((geI s0.cost 0)&&(leI s0.cost 1073741824))&&(geI s0.moved 0))&&(leI s0.moved 15))&&(geI s0.other 0))&&(leI s0.other 15))&&(geI s0.work 0))=true)),oR True ((((((((geI s0.cost 0)&&(leI s0.cost 1073741824))&&(geI s0.moved 0))&&(leI s0.moved 15))&&(geI s0.other 0))&&(leI s0.other 15))&&(geI s0.work 0))=true)]
theorem Qsp {s0} {rv:Int×Int} (h:QgP s0=some rv):AFn Tryz.prog 44 [.agg (Qaz.enc s0)] [] (.tup [.one (lI rv.1),.one (lI rv.2)]) []:=by
 refine QaL Tryz.func44 (by kernel_rfl) (by kernel_rfl) (fun Γ=>?_)
 unfold QgP at h
 rcases Qah h with ⟨h0,h⟩|⟨h0,h⟩
 ·obtain rfl:=Option.some.inj h
  exact gr 8 [] [rp 12 hP,rp 2 (oI ((ltI s0.cost 0)=false)),oR True ((ltI s0.cost 0)=false),rp 2 (oI (((ltI s0.cost 0)||(ltI s0.moved 0))=false)),oR True (((ltI s0.cost 0)||(ltI s0.moved 0))=false),rp 2 (oI ((((ltI s0.cost 0)||(ltI s0.moved 0))||(ltI s0.other 0))=false)),oR True ((((ltI s0.cost 0)||(ltI s0.moved 0))||(ltI s0.other 0))=false),bT h0]
 ·obtain ⟨r,h1,h⟩:=Qae h
  rcases Qah h with ⟨h2,h⟩|⟨h2,h⟩
  ·obtain rfl:=Option.some.inj h
   exact gr 14 [] [rp 12 hP,rp 2 (oI ((ltI s0.cost 0)=false)),oR True ((ltI s0.cost 0)=false),rp 2 (oI (((ltI s0.cost 0)||(ltI s0.moved 0))=false)),oR True (((ltI s0.cost 0)||(ltI s0.moved 0))=false),rp 2 (oI ((((ltI s0.cost 0)||(ltI s0.moved 0))||(ltI s0.other 0))=false)),oR True ((((ltI s0.cost 0)||(ltI s0.moved 0))||(ltI s0.other 0))=false),bF h0,cC (QnW h1),nF h2]
  ·obtain rfl:=Option.some.inj h
   exact gr 13 [] [rp 12 hP,rp 2 (oI ((ltI s0.cost 0)=false)),oR True ((ltI s0.cost 0)=false),rp 2 (oI (((ltI s0.cost 0)||(ltI s0.moved 0))=false)),oR True (((ltI s0.cost 0)||(ltI s0.moved 0))=false),rp 2 (oI ((((ltI s0.cost 0)||(ltI s0.moved 0))||(ltI s0.other 0))=false)),oR True ((((ltI s0.cost 0)||(ltI s0.moved 0))||(ltI s0.other 0))=false),bF h0,cC (QnW h1),nT h2]
theorem QbW {set_ i} {rv:Bool} (h:QdY set_ i=some rv):AFn Tryz.prog 172 [.one (lI set_),.one (lI i)] [] (one (.bool rv)) []:=by
 refine QaL Tryz.func172 (by kernel_rfl) (by kernel_rfl) (fun Γ=>?_)
 unfold QdY at h
 rcases Qah h with ⟨h0,h⟩|⟨h0,h⟩
 ·obtain ⟨h1,h⟩:=Qau h
  obtain rfl:=Option.some.inj h
  exact gr 4 [] [rp 6 hP,oI ((geI set_ 0)=true),oR True ((geI set_ 0)=true),oI (((geI set_ 0)&&(geI i 0))=true),oR True (((geI set_ 0)&&(geI i 0))=true),rp 4 (bT h0),oO (h1),bT h0,oO (oA (n:=2)),bT h0,bT h0]
 ·obtain rfl:=Option.some.inj h
  exact gr 4 [] [rp 6 hP,oI ((geI set_ 0)=true),oR True ((geI set_ 0)=true),oI (((geI set_ 0)&&(geI i 0))=true),oR True (((geI set_ 0)&&(geI i 0))=true),rp 7 (bF h0)]
def QnR (Γ:Gam) (rv:Int×Int) (cf:Cf):Prop:=Go Tryz.prog Tryz.f151 [] Γ (.tup [.one (lI rv.1),.one (lI rv.2)]) [] cf
def Qk5 (Γ:Gam) (rv:Int×Int) (r:Qad) (set_:Int) (i:Int):Prop:=QnR Γ rv ⟨[.c 116,.l 116,.b 0,.c 15],⟨36,[vP 1 0 4,vI 4 set_,vI 5 i],[oX 4 34 (Qad.enc r)]⟩⟩
def QjW (Γ:Gam) (rv:Int×Int) (r:Qad) (set_1:Int):Prop:=QnR Γ rv ⟨[.c 15],⟨36,[vI 4 set_1],[]⟩⟩
theorem Qp3 (Γ:Gam) (rv:Int×Int) {r} {s:Int×Int} {e:(Int)⊕(Int×Int)} (h:loopF (fun s=>QdN r s.1 s.2) s=some e) (hD:sel e (fun e=>QjW Γ rv r e) (fun e=>e=rv)):Qk5 Γ rv r s.1 s.2:=by
 refine QaB (C:=fun (s:Int×Int)=>Qk5 Γ rv r s.1 s.2) (D:=fun (e:(Int)⊕(Int×Int))=>sel e (fun e=>QjW Γ rv r e) (fun e=>e=rv)) ?_ h hD
 clear h hD s e
 rintro ⟨set_,i⟩ z_ h hI hE
 replace h:QdN r set_ i=_:=h
 unfold QdN at h
 rcases Qah h with ⟨h0,h⟩|⟨h0,h⟩
 ·obtain ⟨x0,h1,h⟩:=Qae h
  rcases Qah h with ⟨h2,h⟩|⟨h2,h⟩
  ·obtain rfl:=(hE _ (oJ h):_=rv)
   exact gr 15 [] [nL Qaa.enc r.visits,bT h0,cE Qaa.enc h1,hP,hP,hP,oI ((ltI x0.order 0)=false),oR True ((ltI x0.order 0)=false),bT h2]
  ·obtain ⟨r1,h3,h⟩:=Qae h
   rcases Qah h with ⟨h4,h⟩|⟨h4,h⟩
   ·exact gn 21 [1,4,5] [0] [nL Qaa.enc r.visits,bT h0,cE Qaa.enc h1,hP,hP,hP,oI ((ltI x0.order 0)=false),oR True ((ltI x0.order 0)=false),bF h2,cC (QbW h3),nF h4] (hI _ (oJ h))
   ·obtain ⟨h5,h⟩:=Qau h
    exact gn 21 [1,4,5] [0] [nL Qaa.enc r.visits,bT h0,cE Qaa.enc h1,hP,hP,hP,oI ((ltI x0.order 0)=false),oR True ((ltI x0.order 0)=false),bF h2,cC (QbW h3),nT h4,oO (h5)] (hI _ (oJ h))
 ·exact gn 5 [4] [] [nL Qaa.enc r.visits,bF h0] (hE _ (oJ h))
theorem Qm3 {r} {rv:Int×Int} (h:Qfp r=some rv):AFn Tryz.prog 151 [.agg (Qad.enc r)] [] (.tup [.one (lI rv.1),.one (lI rv.2)]) []:=by
 refine QaL Tryz.func151 (by kernel_rfl) (by kernel_rfl) (fun Γ=>?_)
 unfold Qfp at h
 obtain ⟨e0,h6,h⟩:=Qae h
 refine gn 9 [1,4,5] [0] [] (Qp3 Γ rv h6 ?_)
 rcases e0 with e0|e0
 ·obtain ⟨set_1,rfl⟩:∃ x,x=e0:=⟨_,rfl⟩
  replace h:(some (set_1,0):Option (Int×Int))=some _:=h
  obtain rfl:=Option.some.inj h
  exact gr 2 [] []
 ·obtain ⟨r2,rfl⟩:∃ x,x=e0:=⟨_,rfl⟩
  replace h:(some r2:Option (Int×Int))=some _:=h
  exact Option.some.inj h
def QoL (Γ:Gam) (rv:Int) (cf:Cf):Prop:=Go Tryz.prog Tryz.f152 [] Γ (one (lI rv)) [] cf
def Ql7 (Γ:Gam) (rv:Int) (l:List Qaa) (v:Qaa) (i:Int):Prop:=QoL Γ rv ⟨[.c 52,.l 52,.b 0,.c 7],⟨19,[vL 0 2 l Qaa.enc,vP 3 0 2,vI 5 i],[oX 2 52 (Qaa.enc v)]⟩⟩
def Qk4 (Γ:Gam) (rv:Int) (l:List Qaa) (v:Qaa):Prop:=QoL Γ rv ⟨[.c 7],⟨19,[],[]⟩⟩
theorem QqR (Γ:Gam) (rv:Int) {l v} {s:Int} {e:(Unit)⊕(Int)} (h:loopF (fun s=>Qcv l v s) s=some e) (hD:sel e (fun e=>Qk4 Γ rv l v) (fun e=>e=rv)):Ql7 Γ rv l v s:=by
 refine QaB (C:=fun (s:Int)=>Ql7 Γ rv l v s) (D:=fun (e:(Unit)⊕(Int))=>sel e (fun e=>Qk4 Γ rv l v) (fun e=>e=rv)) ?_ h hD
 clear h hD s e
 intro i z_ h hI hE
 replace h:Qcv l v i=_:=h
 unfold Qcv at h
 rcases Qah h with ⟨h0,h⟩|⟨h0,h⟩
 ·obtain ⟨x0,h1,h⟩:=Qae h
  rcases Qah h with ⟨h2,h⟩|⟨h2,h⟩
  ·obtain rfl:=(hE _ (oJ h):_=rv)
   exact gr 12 [] [nL Qaa.enc l,bT h0,hH (.draw 6 []),cE Qaa.enc h1,bT h2]
  ·exact gn 14 [0,3,5] [0] [nL Qaa.enc l,bT h0,hH (.draw 6 []),cE Qaa.enc h1,bF h2] (hI _ (oJ h))
 ·exact gn 5 [] [] [nL Qaa.enc l,bF h0] (hE _ (oJ h))
theorem Qbp {l v} {rv:Int} (h:QcI l v=some rv):AFn Tryz.prog 152 [.one (lL 2 l Qaa.enc),.agg (Qaa.enc v)] [] (one (lI rv)) []:=by
 refine QaL Tryz.func152 (by kernel_rfl) (by kernel_rfl) (fun Γ=>?_)
 unfold QcI at h
 obtain ⟨e0,h3,h⟩:=Qae h
 refine gn 7 [0,3,5] [0] [] (QqR Γ rv h3 ?_)
 rcases e0 with e0|e0
 ·replace h:(some (-1):Option Int)=some _:=h
  obtain rfl:=Option.some.inj h
  exact gr 2 [] []
 ·obtain ⟨r,rfl⟩:∃ x,x=e0:=⟨_,rfl⟩
  replace h:(some r:Option Int)=some _:=h
  exact Option.some.inj h
def QsV (Γ:Gam) (rv:List Qaa) (cf:Cf):Prop:=Go Tryz.prog Tryz.f173 [] Γ (one (lL 2 rv Qaa.enc)) [] cf
theorem QjX (Γ:Gam) (rv:List Qaa) {x0 order l} (h:QdO x0 order l=some rv):QsV Γ rv ⟨[.c 15],⟨33,[vI 1 order,vP 2 0 6,vO 5 1 2 l Qaa.enc],[oX 6 30 (Qac.enc x0),oS 2 52 l Qaa.enc]⟩⟩:=by
 unfold QdO at h
 obtain ⟨x2,h3,h⟩:=Qae h
 rcases Qah h with ⟨h4,h⟩|⟨h4,h⟩
 ·obtain ⟨h5,h⟩:=Qau h
  obtain rfl:=Option.some.inj h
  exact gr 7 [] [cE Qag.enc h3,bT h4,oO (Eq.refl ([(Qaa.mk order true)].map Qaa.enc).length),aO Qaa.enc h5,hW 5,hH (.frz 3),rp 4 (oO (Eq.refl ((l++[(Qaa.mk order true)]).map Qaa.enc).length))]
 ·obtain rfl:=Option.some.inj h
  exact gr 7 [] [cE Qag.enc h3,bF h4,hW 5,hH (.frz 1),rp 3 (eL l Qaa.enc)]
theorem Qfc {x0 order} {rv:List Qaa} (h:QgO x0 order=some rv):AFn Tryz.prog 173 [.agg (Qac.enc x0),.one (lI order)] [] (one (lL 2 rv Qaa.enc)) []:=by
 refine QaL Tryz.func173 (by kernel_rfl) (by kernel_rfl) (fun Γ=>?_)
 unfold QgO at h
 obtain ⟨x1,h0,h⟩:=Qae h
 rcases Qah h with ⟨h1,h⟩|⟨h1,h⟩
 ·obtain ⟨h2,h⟩:=Qau h
  exact gn 9 [1,2,5] [0,2] [cE Qag.enc h0,bT h1,oO (Eq.refl ([(Qaa.mk order false)].map Qaa.enc).length),aN (l:=([(Qaa.mk order false)]:List Qaa)) Qaa.enc h2] (QjX Γ rv h)
 ·exact gn 9 [1,2,5] [0,1] [cE Qag.enc h0,bF h1,hW 1,hH (.adopt 5 2 52)] (QjX Γ rv h)
def Qma (Γ:Gam) (rv:Bool) (cf:Cf):Prop:=Go Tryz.prog Tryz.f174 [] Γ (one (.bool rv)) [] cf
def Qjp (Γ:Gam) (rv:Bool) (l:List Qaa) (some_:List Qaa) (i:Int):Prop:=Qma Γ rv ⟨[.c 52,.l 52,.b 0,.c 7],⟨19,[vL 0 2 l Qaa.enc,vL 1 2 some_ Qaa.enc,vI 5 i],[]⟩⟩
def QiX (Γ:Gam) (rv:Bool) (l:List Qaa) (some_:List Qaa):Prop:=Qma Γ rv ⟨[.c 7],⟨19,[],[]⟩⟩
theorem QoO (Γ:Gam) (rv:Bool) {l some_} {s:Int} {e:(Unit)⊕(Bool)} (h:loopF (fun s=>QbN l some_ s) s=some e) (hD:sel e (fun e=>QiX Γ rv l some_) (fun e=>e=rv)):Qjp Γ rv l some_ s:=by
 refine QaB (C:=fun (s:Int)=>Qjp Γ rv l some_ s) (D:=fun (e:(Unit)⊕(Bool))=>sel e (fun e=>QiX Γ rv l some_) (fun e=>e=rv)) ?_ h hD
 clear h hD s e
 intro i z_ h hI hE
 replace h:QbN l some_ i=_:=h
 unfold QbN at h
 rcases Qah h with ⟨h0,h⟩|⟨h0,h⟩
 ·obtain ⟨x0,h1,h⟩:=Qae h
  obtain ⟨r,h2,h⟩:=Qae h
  rcases Qah h with ⟨h3,h⟩|⟨h3,h⟩
  ·obtain rfl:=(hE _ (oJ h):_=rv)
   exact gr 12 [] [nL Qaa.enc some_,bT h0,cE Qaa.enc h1,cC (Qbp h2),bT h3]
  ·exact gn 14 [0,1,5] [] [nL Qaa.enc some_,bT h0,cE Qaa.enc h1,cC (Qbp h2),bF h3] (hI _ (oJ h))
 ·exact gn 5 [] [] [nL Qaa.enc some_,bF h0] (hE _ (oJ h))
theorem QfJ {l some_} {rv:Bool} (h:QfI l some_=some rv):AFn Tryz.prog 174 [.one (lL 2 l Qaa.enc),.one (lL 2 some_ Qaa.enc)] [] (one (.bool rv)) []:=by
 refine QaL Tryz.func174 (by kernel_rfl) (by kernel_rfl) (fun Γ=>?_)
 unfold QfI at h
 obtain ⟨e0,h4,h⟩:=Qae h
 refine gn 7 [0,1,5] [] [] (QoO Γ rv h4 ?_)
 rcases e0 with e0|e0
 ·replace h:(some true:Option Bool)=some _:=h
  obtain rfl:=Option.some.inj h
  exact gr 2 [] []
 ·obtain ⟨r1,rfl⟩:∃ x,x=e0:=⟨_,rfl⟩
  replace h:(some r1:Option Bool)=some _:=h
  exact Option.some.inj h
def QnS (Γ:Gam) (rv:Bool) (cf:Cf):Prop:=Go Tryz.prog Tryz.f153 [] Γ (one (.bool rv)) [] cf
def Qla (Γ:Gam) (rv:Bool) (x0:Qac) (l:List Qaa) (i:Int):Prop:=QnS Γ rv ⟨[.c 52,.l 52,.b 0,.c 7],⟨51,[vL 1 2 l Qaa.enc,vP 2 0 6,vI 5 i],[oX 6 30 (Qac.enc x0)]⟩⟩
def Qj1 (Γ:Gam) (rv:Bool) (x0:Qac) (l:List Qaa):Prop:=QnS Γ rv ⟨[.c 7],⟨51,[],[]⟩⟩
theorem Qp7 (Γ:Gam) (rv:Bool) {x0 l} {s:Int} {e:(Unit)⊕(Bool)} (h:loopF (fun s=>Qce x0 l s) s=some e) (hD:sel e (fun e=>Qj1 Γ rv x0 l) (fun e=>e=rv)):Qla Γ rv x0 l s:=by
 refine QaB (C:=fun (s:Int)=>Qla Γ rv x0 l s) (D:=fun (e:(Unit)⊕(Bool))=>sel e (fun e=>Qj1 Γ rv x0 l) (fun e=>e=rv)) ?_ h hD
 clear h hD s e
 intro i z_ h hI hE
 replace h:Qce x0 l i=_:=h
 unfold Qce at h
 rcases Qah h with ⟨h0,h⟩|⟨h0,h⟩
 ·obtain ⟨x1,h1,h⟩:=Qae h
  obtain ⟨r,h2,h⟩:=Qae h
  obtain ⟨r1,h3,h⟩:=Qae h
  rcases Qah h with ⟨h4,h⟩|⟨h4,h⟩
  ·obtain rfl:=(hE _ (oJ h):_=rv)
   exact gr 14 [] [nL Qaa.enc l,bT h0,hH (.draw 8 []),cE Qaa.enc h1,cC (Qfc h2),hH (.draw 31 []),cE Qaa.enc h1,cC (Qbp h3),rp 5 (bT h4),rp 4 tT,rp 11 kF,tT,tT,tT]
  ·obtain ⟨r2,h5,h⟩:=Qae h
   rcases Qah h with ⟨h6,h⟩|⟨h6,h⟩
   ·rcases Qah h with ⟨h7,h⟩|⟨h7,h⟩
    ·obtain ⟨x2,h8,h⟩:=Qae h
     obtain ⟨r3,h9,h⟩:=Qae h
     obtain ⟨x3,h10,h⟩:=Qae h
     obtain ⟨r4,h11,h⟩:=Qae h
     rcases Qah h with ⟨h12,h⟩|⟨h12,h⟩
     ·obtain rfl:=(hE _ (oJ h):_=rv)
      exact gr 14 [] [nL Qaa.enc l,bT h0,hH (.draw 8 []),cE Qaa.enc h1,cC (Qfc h2),hH (.draw 31 []),cE Qaa.enc h1,cC (Qbp h3),rp 3 (bF h4),cC (QfJ h5),bF h4,bF h4,nF h6,nF h6,nL Qaa.enc r,nF h6,nF h6,rp 3 (bT h7),cE Qaa.enc h8,bT h7,bT h7,cC (Qbp h9),rp 3 (bT h7),cE Qaa.enc h10,bT h7,bT h7,cC (Qbp h11),bT h7,nF h6,bT h7,nF h6,bT h12]
     ·exact gn 16 [1,2,5] [0] [nL Qaa.enc l,bT h0,hH (.draw 8 []),cE Qaa.enc h1,cC (Qfc h2),hH (.draw 31 []),cE Qaa.enc h1,cC (Qbp h3),rp 3 (bF h4),cC (QfJ h5),bF h4,bF h4,nF h6,nF h6,nL Qaa.enc r,nF h6,nF h6,rp 3 (bT h7),cE Qaa.enc h8,bT h7,bT h7,cC (Qbp h9),rp 3 (bT h7),cE Qaa.enc h10,bT h7,bT h7,cC (Qbp h11),bT h7,nF h6,bT h7,nF h6,bF h12] (hI _ (oJ h))
    ·exact gn 16 [1,2,5] [0] [nL Qaa.enc l,bT h0,hH (.draw 8 []),cE Qaa.enc h1,cC (Qfc h2),hH (.draw 31 []),cE Qaa.enc h1,cC (Qbp h3),rp 3 (bF h4),cC (QfJ h5),bF h4,bF h4,nF h6,nF h6,nL Qaa.enc r,nF h6,nF h6,rp 11 (bF h7),nF h6,bF h7,nF h6,fF] (hI _ (oJ h))
   ·obtain rfl:=(hE _ (oJ h):_=rv)
    exact gr 14 [] [nL Qaa.enc l,bT h0,hH (.draw 8 []),cE Qaa.enc h1,cC (Qfc h2),hH (.draw 31 []),cE Qaa.enc h1,cC (Qbp h3),rp 3 (bF h4),cC (QfJ h5),bF h4,bF h4,rp 4 (nT h6),rp 11 kF,nT h6,nT h6,tT]
 ·exact gn 5 [] [] [nL Qaa.enc l,bF h0] (hE _ (oJ h))
theorem Qgz {x0 l} {rv:Bool} (h:QdD x0 l=some rv):AFn Tryz.prog 153 [.agg (Qac.enc x0),.one (lL 2 l Qaa.enc)] [] (one (.bool rv)) []:=by
 refine QaL Tryz.func153 (by kernel_rfl) (by kernel_rfl) (fun Γ=>?_)
 unfold QdD at h
 obtain ⟨e0,h13,h⟩:=Qae h
 refine gn 7 [1,2,5] [0] [] (Qp7 Γ rv h13 ?_)
 rcases e0 with e0|e0
 ·replace h:(some true:Option Bool)=some _:=h
  obtain rfl:=Option.some.inj h
  exact gr 2 [] []
 ·obtain ⟨r5,rfl⟩:∃ x,x=e0:=⟨_,rfl⟩
  replace h:(some r5:Option Bool)=some _:=h
  exact Option.some.inj h
def QoN (Γ:Gam) (rv:Bool) (cf:Cf):Prop:=Go Tryz.prog Tryz.f154 [] Γ (one (.bool rv)) [] cf
def Ql9 (Γ:Gam) (rv:Bool) (x0:Qac) (set_:Int) (i:Int):Prop:=QoN Γ rv ⟨[.c 52,.l 52,.b 0,.c 7],⟨31,[vI 1 set_,vP 2 0 6,vI 5 i],[oX 6 30 (Qac.enc x0)]⟩⟩
def Qk6 (Γ:Gam) (rv:Bool) (x0:Qac) (set_:Int):Prop:=QoN Γ rv ⟨[.c 7],⟨31,[],[]⟩⟩
theorem QqS (Γ:Gam) (rv:Bool) {x0 set_} {s:Int} {e:(Unit)⊕(Bool)} (h:loopF (fun s=>Qcw x0 set_ s) s=some e) (hD:sel e (fun e=>Qk6 Γ rv x0 set_) (fun e=>e=rv)):Ql9 Γ rv x0 set_ s:=by
 refine QaB (C:=fun (s:Int)=>Ql9 Γ rv x0 set_ s) (D:=fun (e:(Unit)⊕(Bool))=>sel e (fun e=>Qk6 Γ rv x0 set_) (fun e=>e=rv)) ?_ h hD
 clear h hD s e
 intro i z_ h hI hE
 replace h:Qcw x0 set_ i=_:=h
 unfold Qcw at h
 rcases Qah h with ⟨h0,h⟩|⟨h0,h⟩
 ·obtain ⟨x1,h1,h⟩:=Qae h
  obtain ⟨r,h2,h⟩:=Qae h
  rcases Qah h with ⟨h3,h⟩|⟨h3,h⟩
  ·obtain ⟨r1,h4,h⟩:=Qae h
   rcases Qah h with ⟨h5,h⟩|⟨h5,h⟩
   ·obtain rfl:=(hE _ (oJ h):_=rv)
    exact gr 12 [] [nL QaQ.enc x0.apart,bT h0,cE QaQ.enc h1,oO (zL 0),oO (lT 0 2),cC (QbW h2),rp 5 (bT h3),cE QaQ.enc h1,bT h3,oO (zL 1),oO (lT 1 2),bT h3,bT h3,cC (QbW h4),bT h3,bT h5]
   ·exact gn 14 [1,2,5] [0] [nL QaQ.enc x0.apart,bT h0,cE QaQ.enc h1,oO (zL 0),oO (lT 0 2),cC (QbW h2),rp 5 (bT h3),cE QaQ.enc h1,bT h3,oO (zL 1),oO (lT 1 2),bT h3,bT h3,cC (QbW h4),bT h3,bF h5] (hI _ (oJ h))
  ·exact gn 14 [1,2,5] [0] [nL QaQ.enc x0.apart,bT h0,cE QaQ.enc h1,oO (zL 0),oO (lT 0 2),cC (QbW h2),rp 9 (bF h3),fF] (hI _ (oJ h))
 ·exact gn 5 [] [] [nL QaQ.enc x0.apart,bF h0] (hE _ (oJ h))
theorem Qjo {x0 set_} {rv:Bool} (h:Qd8 x0 set_=some rv):AFn Tryz.prog 154 [.agg (Qac.enc x0),.one (lI set_)] [] (one (.bool rv)) []:=by
 refine QaL Tryz.func154 (by kernel_rfl) (by kernel_rfl) (fun Γ=>?_)
 unfold Qd8 at h
 obtain ⟨e0,h6,h⟩:=Qae h
 refine gn 7 [1,2,5] [0] [] (QqS Γ rv h6 ?_)
 rcases e0 with e0|e0
 ·replace h:(some true:Option Bool)=some _:=h
  obtain rfl:=Option.some.inj h
  exact gr 2 [] []
 ·obtain ⟨r2,rfl⟩:∃ x,x=e0:=⟨_,rfl⟩
  replace h:(some r2:Option Bool)=some _:=h
  exact Option.some.inj h
def Qeu (Γ:Gam) (rv:Bool) (cf:Cf):Prop:=Go Tryz.prog Tryz.f155 [] Γ (one (.bool rv)) [] cf
def Qk9 (Γ:Gam) (rv:Bool) (x0:Qac) (set_:Int) (l:List Qaa) (i:Int) (x1:QaQ) (j:Int) (k:Int):Prop:=Qeu Γ rv ⟨[.c 3448612,.l 3448612,.b 4,.b 3,.c 215539,.l 53884,.b 2,.b 1,.c 211,.l 52,.b 0,.c 7],⟨66,[vI 1 set_,vL 2 2 l Qaa.enc,vP 3 0 6,vI 7 i,vI 8 x1.x0,vI 9 x1.x1,vI 10 j,vI 11 k],[oX 6 30 (Qac.enc x0)]⟩⟩
def Qj0 (Γ:Gam) (rv:Bool) (x0:Qac) (set_:Int) (l:List Qaa) (i:Int) (x1:QaQ) (j:Int):Prop:=Qeu Γ rv ⟨[.b 3,.c 215539,.l 53884,.b 2,.b 1,.c 211,.l 52,.b 0,.c 7],⟨66,[vI 1 set_,vL 2 2 l Qaa.enc,vP 3 0 6,vI 7 i,vI 8 x1.x0,vI 9 x1.x1,vI 10 j],[oX 6 30 (Qac.enc x0)]⟩⟩
def Qk8 (Γ:Gam) (rv:Bool) (x0:Qac) (set_:Int) (l:List Qaa) (i:Int) (x1:QaQ) (j:Int):Prop:=Qeu Γ rv ⟨[.c 53884,.l 53884,.b 2,.b 1,.c 211,.l 52,.b 0,.c 7],⟨66,[vI 1 set_,vL 2 2 l Qaa.enc,vP 3 0 6,vI 7 i,vI 8 x1.x0,vI 9 x1.x1,vI 10 j],[oX 6 30 (Qac.enc x0)]⟩⟩
def QjZ (Γ:Gam) (rv:Bool) (x0:Qac) (set_:Int) (l:List Qaa) (i:Int) (x1:QaQ):Prop:=Qeu Γ rv ⟨[.b 1,.c 211,.l 52,.b 0,.c 7],⟨66,[vI 1 set_,vL 2 2 l Qaa.enc,vP 3 0 6,vI 7 i],[oX 6 30 (Qac.enc x0)]⟩⟩
def Qk7 (Γ:Gam) (rv:Bool) (x0:Qac) (set_:Int) (l:List Qaa) (i:Int):Prop:=Qeu Γ rv ⟨[.c 52,.l 52,.b 0,.c 7],⟨66,[vI 1 set_,vL 2 2 l Qaa.enc,vP 3 0 6,vI 7 i],[oX 6 30 (Qac.enc x0)]⟩⟩
def QjY (Γ:Gam) (rv:Bool) (x0:Qac) (set_:Int) (l:List Qaa):Prop:=Qeu Γ rv ⟨[.c 7],⟨66,[],[]⟩⟩
theorem Qp6 (Γ:Gam) (rv:Bool) {x0 set_ l i x1 j} {s:Int} {e:(Unit)⊕(Bool)} (h:loopF (fun s=>Qcd x0 set_ l i x1 j s) s=some e) (hD:sel e (fun e=>Qj0 Γ rv x0 set_ l i x1 j) (fun e=>e=rv)):Qk9 Γ rv x0 set_ l i x1 j s:=by
 refine QaB (C:=fun (s:Int)=>Qk9 Γ rv x0 set_ l i x1 j s) (D:=fun (e:(Unit)⊕(Bool))=>sel e (fun e=>Qj0 Γ rv x0 set_ l i x1 j) (fun e=>e=rv)) ?_ h hD
 clear h hD s e
 intro k z_ h hI hE
 replace h:Qcd x0 set_ l i x1 j k=_:=h
 unfold Qcd at h
 rcases Qah h with ⟨h7,h⟩|⟨h7,h⟩
 ·obtain ⟨x2,h8,h⟩:=Qae h
  rcases Qah h with ⟨h9,h⟩|⟨h9,h⟩
  ·obtain ⟨x3,h10,h⟩:=Qae h
   rcases Qah h with ⟨h11,h⟩|⟨h11,h⟩
   ·obtain rfl:=(hE _ (oJ h):_=rv)
    exact gr 12 [] [bT h7,cE Qaa.enc h8,rp 3 (bT h9),cE Qaa.enc h10,rp 5 (bT h9),bT h11]
   ·exact gn 14 [1,2,3,7,8,9,10,11] [0] [bT h7,cE Qaa.enc h8,rp 3 (bT h9),cE Qaa.enc h10,rp 5 (bT h9),bF h11] (hI _ (oJ h))
  ·exact gn 14 [1,2,3,7,8,9,10,11] [0] [bT h7,cE Qaa.enc h8,rp 8 (bF h9),fF] (hI _ (oJ h))
 ·exact gn 5 [1,2,3,7,8,9,10] [0] [bF h7] (hE _ (oJ h))
theorem Qp5 (Γ:Gam) (rv:Bool) {x0 set_ l i x1} {s:Int} {e:(Unit)⊕(Bool)} (h:loopF (fun s=>Qcc x0 set_ l i x1 s) s=some e) (hD:sel e (fun e=>QjZ Γ rv x0 set_ l i x1) (fun e=>e=rv)):Qk8 Γ rv x0 set_ l i x1 s:=by
 refine QaB (C:=fun (s:Int)=>Qk8 Γ rv x0 set_ l i x1 s) (D:=fun (e:(Unit)⊕(Bool))=>sel e (fun e=>QjZ Γ rv x0 set_ l i x1) (fun e=>e=rv)) ?_ h hD
 clear h hD s e
 intro j z_ h hI hE
 replace h:Qcc x0 set_ l i x1 j=_:=h
 unfold Qcc at h
 rcases Qah h with ⟨h6,h⟩|⟨h6,h⟩
 ·obtain ⟨e0,h12,h⟩:=Qae h
  refine gn 11 [1,2,3,7,8,9,10,11] [0] [nL Qaa.enc l,bT h6] (Qp6 Γ rv h12 ?_)
  rcases e0 with e0|e0
  ·replace h:(some (.inl (addK .i64 j 1)):Option ((Int)⊕((Unit)⊕(Bool))))=some _:=h
   exact gn 3 [1,2,3,7,8,9,10] [0] [] (hI _ (oJ h))
  ·obtain ⟨r2,rfl⟩:∃ x,x=e0:=⟨_,rfl⟩
   replace h:(some (.inr (.inr r2)):Option ((Int)⊕((Unit)⊕(Bool))))=some _:=h
   exact (hE _ (oJ h):_=rv)
 ·exact gn 5 [1,2,3,7] [0] [nL Qaa.enc l,bF h6] (hE _ (oJ h))
theorem Qp4 (Γ:Gam) (rv:Bool) {x0 set_ l} {s:Int} {e:(Unit)⊕(Bool)} (h:loopF (fun s=>Qcb x0 set_ l s) s=some e) (hD:sel e (fun e=>QjY Γ rv x0 set_ l) (fun e=>e=rv)):Qk7 Γ rv x0 set_ l s:=by
 refine QaB (C:=fun (s:Int)=>Qk7 Γ rv x0 set_ l s) (D:=fun (e:(Unit)⊕(Bool))=>sel e (fun e=>QjY Γ rv x0 set_ l) (fun e=>e=rv)) ?_ h hD
 clear h hD s e
 intro i z_ h hI hE
 replace h:Qcb x0 set_ l i=_:=h
 unfold Qcb at h
 rcases Qah h with ⟨h0,h⟩|⟨h0,h⟩
 ·obtain ⟨x1,h1,h⟩:=Qae h
  obtain ⟨r,h2,h⟩:=Qae h
  rcases Qah h with ⟨h3,h⟩|⟨h3,h⟩
  ·obtain ⟨r1,h4,h⟩:=Qae h
   rcases Qah h with ⟨h5,h⟩|⟨h5,h⟩
   ·obtain ⟨e1,h13,h⟩:=Qae h
    refine gn 25 [1,2,3,7,8,9,10] [0] [nL QaQ.enc x0.before,bT h0,cE QaQ.enc h1,oO (zL 0),oO (lT 0 2),cE QaQ.enc h1,oO (zL 1),oO (lT 1 2),cC (QbW h2),nF h3,cC (QbW h4),nF h5] (Qp5 Γ rv h13 ?_)
    rcases e1 with e1|e1
    ·replace h:(some (.inl (addK .i64 i 1)):Option ((Int)⊕((Unit)⊕(Bool))))=some _:=h
     exact gn 3 [1,2,3,7] [0] [] (hI _ (oJ h))
    ·obtain ⟨r3,rfl⟩:∃ x,x=e1:=⟨_,rfl⟩
     replace h:(some (.inr (.inr r3)):Option ((Int)⊕((Unit)⊕(Bool))))=some _:=h
     exact (hE _ (oJ h):_=rv)
   ·obtain rfl:=(hE _ (oJ h):_=rv)
    exact gr 22 [] [nL QaQ.enc x0.before,bT h0,cE QaQ.enc h1,oO (zL 0),oO (lT 0 2),cE QaQ.enc h1,oO (zL 1),oO (lT 1 2),cC (QbW h2),nF h3,cC (QbW h4),nT h5]
  ·exact gn 18 [1,2,3,7] [0] [nL QaQ.enc x0.before,bT h0,cE QaQ.enc h1,oO (zL 0),oO (lT 0 2),cE QaQ.enc h1,oO (zL 1),oO (lT 1 2),cC (QbW h2),nT h3] (hI _ (oJ h))
 ·exact gn 5 [] [] [nL QaQ.enc x0.before,bF h0] (hE _ (oJ h))
theorem Qm4 {x0 set_ l} {rv:Bool} (h:QdC x0 set_ l=some rv):AFn Tryz.prog 155 [.agg (Qac.enc x0),.one (lI set_),.one (lL 2 l Qaa.enc)] [] (one (.bool rv)) []:=by
 refine QaL Tryz.func155 (by kernel_rfl) (by kernel_rfl) (fun Γ=>?_)
 unfold QdC at h
 obtain ⟨e2,h14,h⟩:=Qae h
 refine gn 7 [1,2,3,7] [0] [] (Qp4 Γ rv h14 ?_)
 rcases e2 with e2|e2
 ·replace h:(some true:Option Bool)=some _:=h
  obtain rfl:=Option.some.inj h
  exact gr 2 [] []
 ·obtain ⟨r4,rfl⟩:∃ x,x=e2:=⟨_,rfl⟩
  replace h:(some r4:Option Bool)=some _:=h
  exact Option.some.inj h
def QeX (Γ:Gam) (rv:Int) (cf:Cf):Prop:=Go Tryz.prog Tryz.f129 [] Γ (one (lI rv)) [] cf
def Ql4 (Γ:Gam) (rv:Int) (x0:Qac) (r:Qad) (i:Int):Prop:=QeX Γ rv ⟨[.c 116,.l 116,.b 0,.c 15],⟨91,[vP 2 0 6,vP 3 1 4,vL 5 2 r.visits Qaa.enc,vI 6 i],[oX 6 30 (Qac.enc x0),oX 4 34 (Qad.enc r)]⟩⟩
def Qk1 (Γ:Gam) (rv:Int) (x0:Qac) (r:Qad):Prop:=QeX Γ rv ⟨[.c 15],⟨91,[vP 2 0 6,vP 3 1 4,vL 5 2 r.visits Qaa.enc],[oX 6 30 (Qac.enc x0),oX 4 34 (Qad.enc r)]⟩⟩
def Ql5 (Γ:Gam) (rv:Int) (x0:Qac) (r:Qad) (r1:Int×Int) (i1:Int):Prop:=QeX Γ rv ⟨[.c 1012,.l 1012,.b 2,.c 127],⟨91,[vP 2 0 6,vL 5 2 r.visits Qaa.enc,vI 7 r1.1,vI 9 i1],[oX 6 30 (Qac.enc x0)]⟩⟩
def Qk2 (Γ:Gam) (rv:Int) (x0:Qac) (r:Qad) (r1:Int×Int):Prop:=QeX Γ rv ⟨[.c 127],⟨91,[vP 2 0 6,vL 5 2 r.visits Qaa.enc,vI 7 r1.1],[oX 6 30 (Qac.enc x0)]⟩⟩
def Ql6 (Γ:Gam) (rv:Int) (x0:Qac) (r:Qad) (r1:Int×Int) (i2:Int):Prop:=QeX Γ rv ⟨[.c 2036,.l 2036,.b 4,.c 255],⟨91,[vP 2 0 6,vL 5 2 r.visits Qaa.enc,vI 7 r1.1,vI 10 i2],[oX 6 30 (Qac.enc x0)]⟩⟩
def Qk3 (Γ:Gam) (rv:Int) (x0:Qac) (r:Qad) (r1:Int×Int):Prop:=QeX Γ rv ⟨[.c 255],⟨91,[vP 2 0 6,vL 5 2 r.visits Qaa.enc,vI 7 r1.1],[oX 6 30 (Qac.enc x0)]⟩⟩
theorem QqO (Γ:Gam) (rv:Int) {x0 r} {s:Int} {e:(Unit)⊕(Int)} (h:loopF (fun s=>Qcu x0 r s) s=some e) (hD:sel e (fun e=>Qk1 Γ rv x0 r) (fun e=>e=rv)):Ql4 Γ rv x0 r s:=by
 refine QaB (C:=fun (s:Int)=>Ql4 Γ rv x0 r s) (D:=fun (e:(Unit)⊕(Int))=>sel e (fun e=>Qk1 Γ rv x0 r) (fun e=>e=rv)) ?_ h hD
 clear h hD s e
 intro i z_ h hI hE
 replace h:Qcu x0 r i=_:=h
 unfold Qcu at h
 rcases Qah h with ⟨h0,h⟩|⟨h0,h⟩
 ·obtain ⟨x1,h1,h⟩:=Qae h
  rcases Qah h with ⟨h2,h⟩|⟨h2,h⟩
  ·obtain rfl:=(hE _ (oJ h):_=rv)
   exact gr 12 [] [nL Qaa.enc r.visits,bT h0,hH (.draw 17 []),cE Qaa.enc h1,rp 10 (bT h2),tT]
  ·rcases Qah h with ⟨h3,h⟩|⟨h3,h⟩
   ·obtain rfl:=(hE _ (oJ h):_=rv)
    exact gr 12 [] [nL Qaa.enc r.visits,bT h0,hH (.draw 17 []),cE Qaa.enc h1,rp 3 (bF h2),cE Qaa.enc h1,rp 5 (bF h2),nL Qag.enc x0.orders,bF h2,bF h2,bT h3]
   ·exact gn 14 [2,3,5,6] [0,1] [nL Qaa.enc r.visits,bT h0,hH (.draw 17 []),cE Qaa.enc h1,rp 3 (bF h2),cE Qaa.enc h1,rp 5 (bF h2),nL Qag.enc x0.orders,bF h2,bF h2,bF h3] (hI _ (oJ h))
 ·exact gn 5 [2,3,5] [0,1] [nL Qaa.enc r.visits,bF h0] (hE _ (oJ h))
theorem QqP (Γ:Gam) (rv:Int) {x0 r r1} {s:Int} {e:(Unit)⊕(Int)} (h:loopF (fun s=>Qb1 x0 r r1 s) s=some e) (hD:sel e (fun e=>Qk2 Γ rv x0 r r1) (fun e=>e=rv)):Ql5 Γ rv x0 r r1 s:=by
 refine QaB (C:=fun (s:Int)=>Ql5 Γ rv x0 r r1 s) (D:=fun (e:(Unit)⊕(Int))=>sel e (fun e=>Qk2 Γ rv x0 r r1) (fun e=>e=rv)) ?_ h hD
 clear h hD s e
 intro i1 z_ h hI hE
 replace h:Qb1 x0 r r1 i1=_:=h
 unfold Qb1 at h
 rcases Qah h with ⟨h7,h⟩|⟨h7,h⟩
 ·obtain ⟨x2,h8,h⟩:=Qae h
  obtain ⟨x3,h9,h⟩:=Qae h
  rcases Qah h with ⟨h10,h⟩|⟨h10,h⟩
  ·obtain rfl:=(hE _ (oJ h):_=rv)
   exact gr 12 [] [nL Qaa.enc r.visits,bT h7,hH (.draw 10 []),cE Qaa.enc h8,cE Qag.enc h9,bT h10]
  ·exact gn 14 [2,5,7,9] [0] [nL Qaa.enc r.visits,bT h7,hH (.draw 10 []),cE Qaa.enc h8,cE Qag.enc h9,bF h10] (hI _ (oJ h))
 ·exact gn 5 [2,5,7] [0] [nL Qaa.enc r.visits,bF h7] (hE _ (oJ h))
theorem QqQ (Γ:Gam) (rv:Int) {x0 r r1} {s:Int} {e:(Unit)⊕(Int)} (h:loopF (fun s=>QbM x0 r r1 s) s=some e) (hD:sel e (fun e=>Qk3 Γ rv x0 r r1) (fun e=>e=rv)):Ql6 Γ rv x0 r r1 s:=by
 refine QaB (C:=fun (s:Int)=>Ql6 Γ rv x0 r r1 s) (D:=fun (e:(Unit)⊕(Int))=>sel e (fun e=>Qk3 Γ rv x0 r r1) (fun e=>e=rv)) ?_ h hD
 clear h hD s e
 intro i2 z_ h hI hE
 replace h:QbM x0 r r1 i2=_:=h
 unfold QbM at h
 rcases Qah h with ⟨h12,h⟩|⟨h12,h⟩
 ·obtain ⟨x4,h13,h⟩:=Qae h
  obtain ⟨r2,h14,h⟩:=Qae h
  rcases Qah h with ⟨h15,h⟩|⟨h15,h⟩
  ·obtain rfl:=(hE _ (oJ h):_=rv)
   exact gr 12 [] [nL Qaa.enc r.visits,bT h12,cE Qaa.enc h13,cC (Qbp h14),bT h15]
  ·exact gn 14 [2,5,7,10] [0] [nL Qaa.enc r.visits,bT h12,cE Qaa.enc h13,cC (Qbp h14),bF h15] (hI _ (oJ h))
 ·exact gn 5 [2,5,7] [0] [nL Qaa.enc r.visits,bF h12] (hE _ (oJ h))
theorem Qhi {x0 r} {rv:Int} (h:Qgf x0 r=some rv):AFn Tryz.prog 129 [.agg (Qac.enc x0),.agg (Qad.enc r)] [] (one (lI rv)) []:=by
 refine QaL Tryz.func129 (by kernel_rfl) (by kernel_rfl) (fun Γ=>?_)
 unfold Qgf at h
 obtain ⟨e0,h4,h⟩:=Qae h
 refine gn 9 [2,3,5,6] [0,1] [] (QqO Γ rv h4 ?_)
 rcases e0 with e0|e0
 ·replace h:(bnd (Qfp r) fun r1=>br ((neI r1.2 0)||(eqI (lenI r.visits) 0)) (some 2) (bnd (loopF (fun s=>Qb1 x0 r r1 s) 0) (fun e=>sel e (fun (_:Unit)=>bnd (loopF (fun s=>QbM x0 r r1 s) 0) (fun e=>sel e (fun (_:Unit)=>bnd (QdD x0 r.visits) fun r3=>br r3 (bnd (Qd8 x0 r1.1) fun r4=>br r4 (bnd (QdC x0 r1.1 r.visits) fun r5=>br r5 (some 0) (some 21)) (some 20)) (some 19)) (fun r6=>some r6))) (fun r7=>some r7))):Option Int)=some _:=h
  obtain ⟨r1,h5,h⟩:=Qae h
  rcases Qah h with ⟨h6,h⟩|⟨h6,h⟩
  ·obtain rfl:=Option.some.inj h
   exact gr 8 [] [cC (Qm3 h5),hP,hP,oI ((neI r1.2 0)=false),nL Qaa.enc r.visits,hP,hP,oI ((neI r1.2 0)=false),oR True ((neI r1.2 0)=false),bT h6]
  ·obtain ⟨e1,h11,h⟩:=Qae h
   refine gn 12 [2,5,7,9] [0] [cC (Qm3 h5),hP,hP,oI ((neI r1.2 0)=false),nL Qaa.enc r.visits,hP,hP,oI ((neI r1.2 0)=false),oR True ((neI r1.2 0)=false),bF h6] (QqP Γ rv h11 ?_)
   rcases e1 with e1|e1
   ·replace h:(bnd (loopF (fun s=>QbM x0 r r1 s) 0) (fun e=>sel e (fun (_:Unit)=>bnd (QdD x0 r.visits) fun r3=>br r3 (bnd (Qd8 x0 r1.1) fun r4=>br r4 (bnd (QdC x0 r1.1 r.visits) fun r5=>br r5 (some 0) (some 21)) (some 20)) (some 19)) (fun r6=>some r6)):Option Int)=some _:=h
    obtain ⟨e2,h16,h⟩:=Qae h
    refine gn 5 [2,5,7,10] [0] [] (QqQ Γ rv h16 ?_)
    rcases e2 with e2|e2
    ·replace h:(bnd (QdD x0 r.visits) fun r3=>br r3 (bnd (Qd8 x0 r1.1) fun r4=>br r4 (bnd (QdC x0 r1.1 r.visits) fun r5=>br r5 (some 0) (some 21)) (some 20)) (some 19):Option Int)=some _:=h
     obtain ⟨r3,h17,h⟩:=Qae h
     rcases Qah h with ⟨h18,h⟩|⟨h18,h⟩
     ·obtain ⟨r4,h19,h⟩:=Qae h
      rcases Qah h with ⟨h20,h⟩|⟨h20,h⟩
      ·obtain ⟨r5,h21,h⟩:=Qae h
       rcases Qah h with ⟨h22,h⟩|⟨h22,h⟩
       ·obtain rfl:=Option.some.inj h
        exact gr 17 [] [cC (Qgz h17),nF h18,cC (Qjo h19),nF h20,cC (Qm4 h21),nF h22]
       ·obtain rfl:=Option.some.inj h
        exact gr 16 [] [cC (Qgz h17),nF h18,cC (Qjo h19),nF h20,cC (Qm4 h21),nT h22]
      ·obtain rfl:=Option.some.inj h
       exact gr 11 [] [cC (Qgz h17),nF h18,cC (Qjo h19),nT h20]
     ·obtain rfl:=Option.some.inj h
      exact gr 6 [] [cC (Qgz h17),nT h18]
    ·obtain ⟨r6,rfl⟩:∃ x,x=e2:=⟨_,rfl⟩
     replace h:(some r6:Option Int)=some _:=h
     exact Option.some.inj h
   ·obtain ⟨r7,rfl⟩:∃ x,x=e1:=⟨_,rfl⟩
    replace h:(some r7:Option Int)=some _:=h
    exact Option.some.inj h
 ·obtain ⟨r8,rfl⟩:∃ x,x=e0:=⟨_,rfl⟩
  replace h:(some r8:Option Int)=some _:=h
  exact Option.some.inj h
def QpH (Γ:Gam) (rv:Bool) (cf:Cf):Prop:=Go Tryz.prog Tryz.f130 [] Γ (one (.bool rv)) [] cf
def Qm0 (Γ:Gam) (rv:Bool) (t:Qai) (skills:Int) (bit:Int):Prop:=QpH Γ rv ⟨[.c 116,.l 116,.b 0,.c 15],⟨30,[vI 1 skills,vP 2 0 14,vI 5 bit],[oX 14 124 (Qai.enc t)]⟩⟩
def QlW (Γ:Gam) (rv:Bool) (t:Qai) (skills:Int):Prop:=QpH Γ rv ⟨[.c 15],⟨30,[],[]⟩⟩
theorem QrB (Γ:Gam) (rv:Bool) {t skills} {s:Int} {e:(Unit)⊕(Bool)} (h:loopF (fun s=>Qdn t skills s) s=some e) (hD:sel e (fun e=>QlW Γ rv t skills) (fun e=>e=rv)):Qm0 Γ rv t skills s:=by
 refine QaB (C:=fun (s:Int)=>Qm0 Γ rv t skills s) (D:=fun (e:(Unit)⊕(Bool))=>sel e (fun e=>QlW Γ rv t skills) (fun e=>e=rv)) ?_ h hD
 clear h hD s e
 intro bit z_ h hI hE
 replace h:Qdn t skills bit=_:=h
 unfold Qdn at h
 rcases Qah h with ⟨h1,h⟩|⟨h1,h⟩
 ·obtain ⟨h2,h⟩:=Qau h
  rcases Qah h with ⟨h3,h⟩|⟨h3,h⟩
  ·obtain ⟨h4,h⟩:=Qau h
   rcases Qah h with ⟨h5,h⟩|⟨h5,h⟩
   ·obtain rfl:=(hE _ (oJ h):_=rv)
    exact gr 12 [] [bT h1,oO (h2),oO (oA (n:=2)),rp 4 (bT h3),oO (h4),bT h3,oO (oA (n:=2)),bT h3,bT h3,bT h5]
   ·exact gn 14 [1,2,5] [0] [bT h1,oO (h2),oO (oA (n:=2)),rp 4 (bT h3),oO (h4),bT h3,oO (oA (n:=2)),bT h3,bT h3,bF h5] (hI _ (oJ h))
  ·exact gn 14 [1,2,5] [0] [bT h1,oO (h2),oO (oA (n:=2)),rp 7 (bF h3),fF] (hI _ (oJ h))
 ·exact gn 5 [] [] [bF h1] (hE _ (oJ h))
theorem QoI {t skills} {rv:Bool} (h:QgX t skills=some rv):AFn Tryz.prog 130 [.agg (Qai.enc t),.one (lI skills)] [] (one (.bool rv)) []:=by
 refine QaL Tryz.func130 (by kernel_rfl) (by kernel_rfl) (fun Γ=>?_)
 unfold QgX at h
 rcases Qah h with ⟨h0,h⟩|⟨h0,h⟩
 ·obtain rfl:=Option.some.inj h
  exact gr 8 [] [hP,hP,hP,oI ((ltI t.skills 0)=false),oR True ((ltI t.skills 0)=false),bT h0]
 ·obtain ⟨e0,h6,h⟩:=Qae h
  refine gn 12 [1,2,5] [0] [hP,hP,hP,oI ((ltI t.skills 0)=false),oR True ((ltI t.skills 0)=false),bF h0] (QrB Γ rv h6 ?_)
  rcases e0 with e0|e0
  ·replace h:(some true:Option Bool)=some _:=h
   obtain rfl:=Option.some.inj h
   exact gr 2 [] []
  ·obtain ⟨r,rfl⟩:∃ x,x=e0:=⟨_,rfl⟩
   replace h:(some r:Option Bool)=some _:=h
   exact Option.some.inj h
def QpF (Γ:Gam) (rv:Bool) (cf:Cf):Prop:=Go Tryz.prog Tryz.f188 [] Γ (one (.bool rv)) [] cf
def QmY (Γ:Gam) (rv:Bool) (l:List (List Int)) (dims:Int) (i:Int):Prop:=QpF Γ rv ⟨[.c 116,.l 116,.b 0,.c 15],⟨25,[vL 0 1 l Qbd,vI 1 dims,vI 5 i],[]⟩⟩
def QlT (Γ:Gam) (rv:Bool) (l:List (List Int)) (dims:Int):Prop:=QpF Γ rv ⟨[.c 15],⟨25,[],[]⟩⟩
theorem Qrz (Γ:Gam) (rv:Bool) {l dims} {s:Int} {e:(Unit)⊕(Bool)} (h:loopF (fun s=>QcR l dims s) s=some e) (hD:sel e (fun e=>QlT Γ rv l dims) (fun e=>e=rv)):QmY Γ rv l dims s:=by
 refine QaB (C:=fun (s:Int)=>QmY Γ rv l dims s) (D:=fun (e:(Unit)⊕(Bool))=>sel e (fun e=>QlT Γ rv l dims) (fun e=>e=rv)) ?_ h hD
 clear h hD s e
 intro i z_ h hI hE
 replace h:QcR l dims i=_:=h
 unfold QcR at h
 rcases Qah h with ⟨h1,h⟩|⟨h1,h⟩
 ·obtain ⟨x0,h2,h⟩:=Qae h
  rcases Qah h with ⟨h3,h⟩|⟨h3,h⟩
  ·obtain rfl:=(hE _ (oJ h):_=rv)
   exact gr 12 [] [nL Qbd l,bT h1,cE Qbd h2,nL e_i64 x0,bT h3]
  ·exact gn 14 [0,1,5] [] [nL Qbd l,bT h1,cE Qbd h2,nL e_i64 x0,bF h3] (hI _ (oJ h))
 ·exact gn 5 [] [] [nL Qbd l,bF h1] (hE _ (oJ h))
theorem QoD {l dims} {rv:Bool} (h:Qh6 l dims=some rv):AFn Tryz.prog 188 [.one (lL 1 l Qbd),.one (lI dims)] [] (one (.bool rv)) []:=by
 refine QaL Tryz.func188 (by kernel_rfl) (by kernel_rfl) (fun Γ=>?_)
 unfold Qh6 at h
 rcases Qah h with ⟨h0,h⟩|⟨h0,h⟩
 ·obtain rfl:=Option.some.inj h
  exact gr 8 [] [hP,hP,hP,oI ((ltI dims 0)=false),oR True ((ltI dims 0)=false),bT h0]
 ·obtain ⟨e0,h4,h⟩:=Qae h
  refine gn 12 [0,1,5] [] [hP,hP,hP,oI ((ltI dims 0)=false),oR True ((ltI dims 0)=false),bF h0] (Qrz Γ rv h4 ?_)
  rcases e0 with e0|e0
  ·replace h:(some true:Option Bool)=some _:=h
   obtain rfl:=Option.some.inj h
   exact gr 2 [] []
  ·obtain ⟨r,rfl⟩:∃ x,x=e0:=⟨_,rfl⟩
   replace h:(some r:Option Bool)=some _:=h
   exact Option.some.inj h
def Qjg (Γ:Gam) (rv:List Int×Int) (cf:Cf):Prop:=Go Tryz.prog Tryz.f182 [] Γ (.tup [.one (lL 1 rv.1 e_i64),.one (lI rv.2)]) [] cf
def QnN (Γ:Gam) (rv:List Int×Int) (l:List (List Int)) (dims:Int) (l1:List Int) (d:Int) (n:Int) (i:Int):Prop:=Qjg Γ rv ⟨[.c 62612,.l 62612,.b 2,.c 7827,.b 1,.c 979,.l 244,.b 0,.c 31],⟨39,[vL 0 1 l Qbd,vI 1 dims,vO 6 0 1 l1 e_i64,vI 7 d,vI 8 n,vI 9 i],[oS 1 3 l1 e_i64]⟩⟩
def QmX (Γ:Gam) (rv:List Int×Int) (l:List (List Int)) (dims:Int) (l1:List Int) (d:Int) (n1:Int):Prop:=Qjg Γ rv ⟨[.c 7827,.b 1,.c 979,.l 244,.b 0,.c 31],⟨39,[vL 0 1 l Qbd,vI 1 dims,vO 6 0 1 l1 e_i64,vI 7 d,vI 8 n1],[oS 1 3 l1 e_i64]⟩⟩
def QnM (Γ:Gam) (rv:List Int×Int) (l:List (List Int)) (dims:Int) (l1:List Int) (d:Int):Prop:=Qjg Γ rv ⟨[.c 244,.l 244,.b 0,.c 31],⟨39,[vL 0 1 l Qbd,vI 1 dims,vO 6 0 1 l1 e_i64,vI 7 d],[oS 1 3 l1 e_i64]⟩⟩
def QmW (Γ:Gam) (rv:List Int×Int) (l:List (List Int)) (dims:Int) (l2:List Int):Prop:=Qjg Γ rv ⟨[.c 31],⟨39,[vO 6 0 1 l2 e_i64],[oS 1 3 l2 e_i64]⟩⟩
theorem Qsj (Γ:Gam) (rv:List Int×Int) {l dims l1 d} {s:Int×Int} {e:Int} (h:loopF (fun s=>QcN l dims l1 d s.1 s.2) s=some e) (hD:QmX Γ rv l dims l1 d e):QnN Γ rv l dims l1 d s.1 s.2:=by
 refine QaB (C:=fun (s:Int×Int)=>QnN Γ rv l dims l1 d s.1 s.2) (D:=fun (e:Int)=>QmX Γ rv l dims l1 d e) ?_ h hD
 clear h hD s e
 rintro ⟨n,i⟩ z_ h hI hE
 replace h:QcN l dims l1 d n i=_:=h
 unfold QcN at h
 rcases Qah h with ⟨h3,h⟩|⟨h3,h⟩
 ·obtain ⟨x0,h4,h⟩:=Qae h
  obtain ⟨x1,h5,h⟩:=Qae h
  exact gn 11 [0,1,6,7,8,9] [0] [nL Qbd l,bT h3,cE Qbd h4,cE e_i64 h5] (hI _ (oJ h))
 ·exact gn 5 [0,1,6,7,8] [0] [nL Qbd l,bF h3] (hE _ (oJ h))
theorem Qsi (Γ:Gam) (rv:List Int×Int) {l dims} {s:List Int×Int} {e:List Int} (h:loopF (fun s=>QcM l dims s.1 s.2) s=some e) (hD:QmW Γ rv l dims e):QnM Γ rv l dims s.1 s.2:=by
 refine QaB (C:=fun (s:List Int×Int)=>QnM Γ rv l dims s.1 s.2) (D:=fun (e:List Int)=>QmW Γ rv l dims e) ?_ h hD
 clear h hD s e
 rintro ⟨l1,d⟩ z_ h hI hE
 replace h:QcM l dims l1 d=_:=h
 unfold QcM at h
 rcases Qah h with ⟨h2,h⟩|⟨h2,h⟩
 ·obtain ⟨e0,h6,h⟩:=Qae h
  refine gn 14 [0,1,6,7,8,9] [0] [bT h2] (Qsj Γ rv h6 ?_)
  obtain ⟨n1,rfl⟩:∃ x,x=e0:=⟨_,rfl⟩
  replace h:(chk (okN (l1++[n1]).length 8) (some (.inl ((l1++[n1]),(addK .i64 d 1)))):Option ((List Int×Int)⊕(List Int)))=some _:=h
  obtain ⟨h7,h⟩:=Qau h
  exact gn 4 [0,1,6,7] [2] [oO (Eq.refl ([n1].map e_i64).length),aO e_i64 h7] (hI _ (oJ h))
 ·exact gn 5 [6] [0] [bF h2] (hE _ (oJ h))
theorem Qt5 {l dims} {rv:List Int×Int} (h:QhN l dims=some rv):AFn Tryz.prog 182 [.one (lL 1 l Qbd),.one (lI dims)] [] (.tup [.one (lL 1 rv.1 e_i64),.one (lI rv.2)]) []:=by
 refine QaL Tryz.func182 (by kernel_rfl) (by kernel_rfl) (fun Γ=>?_)
 unfold QhN at h
 obtain ⟨r,h0,h⟩:=Qae h
 rcases Qah h with ⟨h1,h⟩|⟨h1,h⟩
 ·obtain ⟨e1,h8,h⟩:=Qae h
  refine gn 14 [0,1,6,7] [0] [cC (QoD h0),nF h1,hW 10,hH (.adopt 6 1 3)] (Qsi Γ rv h8 ?_)
  obtain ⟨l2,rfl⟩:∃ x,x=e1:=⟨_,rfl⟩
  replace h:(some (l2,0):Option (List Int×Int))=some _:=h
  obtain rfl:=Option.some.inj h
  exact gr 2 [] [hW 5,hH (.frz 0),rp 3 (eL l2 e_i64)]
 ·obtain rfl:=Option.some.inj h
  exact gr 8 [] [cC (QoD h0),nT h1,hW 4,hH (.nilS 4 0 1)]
theorem Qtn {x0} {rv:Int} (h:QgZ x0=some rv):AFn Tryz.prog 183 [.agg (Qac.enc x0)] [] (one (lI rv)) []:=by
 refine QaL Tryz.func183 (by kernel_rfl) (by kernel_rfl) (fun Γ=>?_)
 unfold QgZ at h
 rcases Qah h with ⟨h0,h⟩|⟨h0,h⟩
 ·obtain rfl:=Option.some.inj h
  exact gr 8 [] [nL Qai.enc x0.types,bT h0]
 ·obtain ⟨x1,h1,h⟩:=Qae h
  obtain rfl:=Option.some.inj h
  exact gr 9 [] [nL Qai.enc x0.types,bF h0,cE Qai.enc h1,nL e_i64 x1.cap]
def QhP (Γ:Gam) (rv:List Int×Int) (cf:Cf):Prop:=Go Tryz.prog Tryz.f175 [] Γ (.tup [.one (lL 1 rv.1 e_i64),.one (lI rv.2)]) [] cf
def Qme (Γ:Gam) (rv:List Int×Int) (x0:Qac) (l:List Qaa) (n:Int) (l1:List (List Int)) (i:Int) (on_:Bool) (there:Bool) (k:Int):Prop:=QhP Γ rv ⟨[.c 29844,.l 29844,.b 2,.c 3731,.b 1,.c 467,.l 116,.b 0,.c 15],⟨69,[vL 1 2 l Qaa.enc,vI 2 n,vP 3 0 6,vO 8 1 1 l1 Qbd,vI 9 i,vB 10 on_,vB 11 there,vI 12 k],[oX 6 30 (Qac.enc x0),oS 1 42 l1 Qbd]⟩⟩
def Qld (Γ:Gam) (rv:List Int×Int) (x0:Qac) (l:List Qaa) (n:Int) (l1:List (List Int)) (i:Int) (on_1:Bool) (there1:Bool):Prop:=QhP Γ rv ⟨[.c 3731,.b 1,.c 467,.l 116,.b 0,.c 15],⟨69,[vL 1 2 l Qaa.enc,vI 2 n,vP 3 0 6,vO 8 1 1 l1 Qbd,vI 9 i,vB 10 on_1,vB 11 there1],[oX 6 30 (Qac.enc x0),oS 1 42 l1 Qbd]⟩⟩
def Qmd (Γ:Gam) (rv:List Int×Int) (x0:Qac) (l:List Qaa) (n:Int) (l1:List (List Int)) (i:Int):Prop:=QhP Γ rv ⟨[.c 116,.l 116,.b 0,.c 15],⟨69,[vL 1 2 l Qaa.enc,vI 2 n,vP 3 0 6,vO 8 1 1 l1 Qbd,vI 9 i],[oX 6 30 (Qac.enc x0),oS 1 42 l1 Qbd]⟩⟩
def Qlc (Γ:Gam) (rv:List Int×Int) (x0:Qac) (l:List Qaa) (n:Int) (l2:List (List Int)):Prop:=QhP Γ rv ⟨[.c 15],⟨69,[vP 3 0 6,vO 8 1 1 l2 Qbd],[oX 6 30 (Qac.enc x0),oS 1 42 l2 Qbd]⟩⟩
theorem QqV (Γ:Gam) (rv:List Int×Int) {x0 l n l1 i} {s:Bool×Bool×Int} {e:Bool×Bool} (h:loopF (fun s=>Qb4 x0 l n l1 i s.1 s.2.1 s.2.2) s=some e) (hD:Qld Γ rv x0 l n l1 i e.1 e.2):Qme Γ rv x0 l n l1 i s.1 s.2.1 s.2.2:=by
 refine QaB (C:=fun (s:Bool×Bool×Int)=>Qme Γ rv x0 l n l1 i s.1 s.2.1 s.2.2) (D:=fun (e:Bool×Bool)=>Qld Γ rv x0 l n l1 i e.1 e.2) ?_ h hD
 clear h hD s e
 rintro ⟨on_,there,k⟩ z_ h hI hE
 replace h:Qb4 x0 l n l1 i on_ there k=_:=h
 unfold Qb4 at h
 rcases Qah h with ⟨h2,h⟩|⟨h2,h⟩
 ·obtain ⟨x2,h3,h⟩:=Qae h
  rcases Qah h with ⟨h4,h⟩|⟨h4,h⟩
  ·exact gn 14 [1,2,3,8,9,10,11,12] [0,1] [nL Qaa.enc l,bT h2,cE Qaa.enc h3,bT h4] (hI _ (oJ h))
  ·rcases Qah h with ⟨h5,h⟩|⟨h5,h⟩
   ·exact gn 21 [1,2,3,8,9,10,11,12] [0,1] [nL Qaa.enc l,bT h2,cE Qaa.enc h3,bF h4,bT h5,cE Qaa.enc h3] (hI _ (oJ h))
   ·exact gn 21 [1,2,3,8,9,10,11,12] [0,1] [nL Qaa.enc l,bT h2,cE Qaa.enc h3,bF h4,bF h5] (hI _ (oJ h))
 ·exact gn 5 [1,2,3,8,9,10,11] [0,1] [nL Qaa.enc l,bF h2] (hE _ (oJ h))
theorem QqU (Γ:Gam) (rv:List Int×Int) {x0 l n} {s:List (List Int)×Int} {e:List (List Int)} (h:loopF (fun s=>Qb3 x0 l n s.1 s.2) s=some e) (hD:Qlc Γ rv x0 l n e):Qmd Γ rv x0 l n s.1 s.2:=by
 refine QaB (C:=fun (s:List (List Int)×Int)=>Qmd Γ rv x0 l n s.1 s.2) (D:=fun (e:List (List Int))=>Qlc Γ rv x0 l n e) ?_ h hD
 clear h hD s e
 rintro ⟨l1,i⟩ z_ h hI hE
 replace h:Qb3 x0 l n l1 i=_:=h
 unfold Qb3 at h
 rcases Qah h with ⟨h0,h⟩|⟨h0,h⟩
 ·obtain ⟨x1,h1,h⟩:=Qae h
  obtain ⟨e0,h6,h⟩:=Qae h
  refine gn 14 [1,2,3,8,9,10,11,12] [0,1] [nL Qag.enc x0.orders,bT h0,cE Qag.enc h1] (QqV Γ rv h6 ?_)
  obtain ⟨on_1,there1⟩:=e0
  replace h:(br (on_1&&there1) (bnd (getI x0.orders i) fun x3=>chk (okN (l1++[x3.load]).length 24) (some (.inl ((l1++[x3.load]),(addK .i64 i 1))))) (some (.inl (l1,(addK .i64 i 1)))):Option ((List (List Int)×Int)⊕(List (List Int))))=some _:=h
  rcases Qah h with ⟨h7,h⟩|⟨h7,h⟩
  ·obtain ⟨x3,h8,h⟩:=Qae h
   obtain ⟨h9,h⟩:=Qau h
   exact gn 7 [1,2,3,8,9] [0,3] [hP,hP,oR True (on_1=true),bT h7,cE Qag.enc h8,oO (Eq.refl ([x3.load].map Qbd).length),aO Qbd h9] (hI _ (oJ h))
  ·exact gn 7 [1,2,3,8,9] [0,1] [hP,hP,oR True (on_1=true),bF h7] (hI _ (oJ h))
 ·exact gn 5 [3,8] [0,1] [nL Qag.enc x0.orders,bF h0] (hE _ (oJ h))
theorem QnU {x0 l n} {rv:List Int×Int} (h:QhE x0 l n=some rv):AFn Tryz.prog 175 [.agg (Qac.enc x0),.one (lL 2 l Qaa.enc),.one (lI n)] [] (.tup [.one (lL 1 rv.1 e_i64),.one (lI rv.2)]) []:=by
 refine QaL Tryz.func175 (by kernel_rfl) (by kernel_rfl) (fun Γ=>?_)
 unfold QhE at h
 obtain ⟨e1,h10,h⟩:=Qae h
 refine gn 9 [1,2,3,8,9] [0,1] [hW 14,hH (.adopt 8 1 42)] (QqU Γ rv h10 ?_)
 obtain ⟨l2,rfl⟩:∃ x,x=e1:=⟨_,rfl⟩
 replace h:(bnd (QgZ x0) fun r=>bnd (QhN l2 r) fun r1=>some (r1.1,r1.2):Option (List Int×Int))=some _:=h
 obtain ⟨r,h11,h⟩:=Qae h
 obtain ⟨r1,h12,h⟩:=Qae h
 obtain rfl:=Option.some.inj h
 exact gr 2 [] [cC (Qtn h11),hH (.frz 1),rp 2 (eL l2 Qbd),cC (Qt5 h12)]
def QoP (Γ:Gam) (rv:List (List Int)×Int) (cf:Cf):Prop:=Go Tryz.prog Tryz.f156 [] Γ (.tup [.one (lL 1 rv.1 Qbd),.one (lI rv.2)]) [] cf
def Qmc (Γ:Gam) (rv:List (List Int)×Int) (x0:Qac) (r:Qad) (l:List (List Int)) (n:Int):Prop:=QoP Γ rv ⟨[.c 244,.l 244,.b 0,.c 31],⟨40,[vP 2 0 6,vP 3 1 4,vO 7 2 1 l Qbd,vI 8 n],[oX 6 30 (Qac.enc x0),oX 4 34 (Qad.enc r),oS 1 42 l Qbd]⟩⟩
def Qlb (Γ:Gam) (rv:List (List Int)×Int) (x0:Qac) (r:Qad) (l1:List (List Int)):Prop:=QoP Γ rv ⟨[.c 31],⟨40,[vO 7 0 1 l1 Qbd],[oS 1 42 l1 Qbd]⟩⟩
theorem QqT (Γ:Gam) (rv:List (List Int)×Int) {x0 r} {s:List (List Int)×Int} {e:(List (List Int))⊕(List (List Int)×Int)} (h:loopF (fun s=>Qb2 x0 r s.1 s.2) s=some e) (hD:sel e (fun e=>Qlb Γ rv x0 r e) (fun e=>e=rv)):Qmc Γ rv x0 r s.1 s.2:=by
 refine QaB (C:=fun (s:List (List Int)×Int)=>Qmc Γ rv x0 r s.1 s.2) (D:=fun (e:(List (List Int))⊕(List (List Int)×Int))=>sel e (fun e=>Qlb Γ rv x0 r e) (fun e=>e=rv)) ?_ h hD
 clear h hD s e
 rintro ⟨l,n⟩ z_ h hI hE
 replace h:Qb2 x0 r l n=_:=h
 unfold Qb2 at h
 rcases Qah h with ⟨h2,h⟩|⟨h2,h⟩
 ·obtain ⟨r2,h3,h⟩:=Qae h
  rcases Qah h with ⟨h4,h⟩|⟨h4,h⟩
  ·obtain rfl:=(hE _ (oJ h):_=rv)
   exact gr 15 [] [nL Qaa.enc r.visits,bT h2,cC (QnU h3),bT h4,hW 5,hH (.nilS 4 0 1)]
  ·obtain ⟨h5,h⟩:=Qau h
   exact gn 18 [2,3,7,8] [0,1,4] [nL Qaa.enc r.visits,bT h2,cC (QnU h3),bF h4,oO (Eq.refl ([r2.1].map Qbd).length),aO Qbd h5] (hI _ (oJ h))
 ·exact gn 5 [7] [2] [nL Qaa.enc r.visits,bF h2] (hE _ (oJ h))
theorem QnT {x0 r} {rv:List (List Int)×Int} (h:QhD x0 r=some rv):AFn Tryz.prog 156 [.agg (Qac.enc x0),.agg (Qad.enc r)] [] (.tup [.one (lL 1 rv.1 Qbd),.one (lI rv.2)]) []:=by
 refine QaL Tryz.func156 (by kernel_rfl) (by kernel_rfl) (fun Γ=>?_)
 unfold QhD at h
 obtain ⟨r1,h0,h⟩:=Qae h
 rcases Qah h with ⟨h1,h⟩|⟨h1,h⟩
 ·obtain rfl:=Option.some.inj h
  exact gr 10 [] [cC (Qhi h0),bT h1,hW 5,hH (.nilS 4 0 1)]
 ·obtain ⟨e0,h6,h⟩:=Qae h
  refine gn 16 [2,3,7,8] [0,1,2] [cC (Qhi h0),bF h1,hW 10,hH (.adopt 7 1 42)] (QqT Γ rv h6 ?_)
  rcases e0 with e0|e0
  ·obtain ⟨l1,rfl⟩:∃ x,x=e0:=⟨_,rfl⟩
   replace h:(some (l1,0):Option (List (List Int)×Int))=some _:=h
   obtain rfl:=Option.some.inj h
   exact gr 2 [] [hW 5,hH (.frz 0),rp 3 (eL l1 Qbd)]
  ·obtain ⟨r3,rfl⟩:∃ x,x=e0:=⟨_,rfl⟩
   replace h:(some r3:Option (List (List Int)×Int))=some _:=h
   exact Option.some.inj h
def QpE (Γ:Gam) (rv:Bool) (cf:Cf):Prop:=Go Tryz.prog Tryz.f157 [] Γ (one (.bool rv)) [] cf
def QmV (Γ:Gam) (rv:Bool) (a:List Int) (capacity:List Int) (i:Int):Prop:=QpE Γ rv ⟨[.c 116,.l 116,.b 0,.c 15],⟨26,[vL 0 1 a e_i64,vL 1 1 capacity e_i64,vI 5 i],[]⟩⟩
def QlR (Γ:Gam) (rv:Bool) (a:List Int) (capacity:List Int):Prop:=QpE Γ rv ⟨[.c 15],⟨26,[],[]⟩⟩
theorem Qry (Γ:Gam) (rv:Bool) {a capacity} {s:Int} {e:(Unit)⊕(Bool)} (h:loopF (fun s=>QcQ a capacity s) s=some e) (hD:sel e (fun e=>QlR Γ rv a capacity) (fun e=>e=rv)):QmV Γ rv a capacity s:=by
 refine QaB (C:=fun (s:Int)=>QmV Γ rv a capacity s) (D:=fun (e:(Unit)⊕(Bool))=>sel e (fun e=>QlR Γ rv a capacity) (fun e=>e=rv)) ?_ h hD
 clear h hD s e
 intro i z_ h hI hE
 replace h:QcQ a capacity i=_:=h
 unfold QcQ at h
 rcases Qah h with ⟨h1,h⟩|⟨h1,h⟩
 ·obtain ⟨x0,h2,h⟩:=Qae h
  obtain ⟨x1,h3,h⟩:=Qae h
  rcases Qah h with ⟨h4,h⟩|⟨h4,h⟩
  ·obtain rfl:=(hE _ (oJ h):_=rv)
   exact gr 12 [] [nL e_i64 a,bT h1,hH (.draw 9 []),cE e_i64 h2,cE e_i64 h3,bT h4]
  ·exact gn 14 [0,1,5] [] [nL e_i64 a,bT h1,hH (.draw 9 []),cE e_i64 h2,cE e_i64 h3,bF h4] (hI _ (oJ h))
 ·exact gn 5 [] [] [nL e_i64 a,bF h1] (hE _ (oJ h))
theorem QoB {a capacity} {rv:Bool} (h:Qh5 a capacity=some rv):AFn Tryz.prog 157 [.one (lL 1 a e_i64),.one (lL 1 capacity e_i64)] [] (one (.bool rv)) []:=by
 refine QaL Tryz.func157 (by kernel_rfl) (by kernel_rfl) (fun Γ=>?_)
 unfold Qh5 at h
 rcases Qah h with ⟨h0,h⟩|⟨h0,h⟩
 ·obtain rfl:=Option.some.inj h
  exact gr 8 [] [nL e_i64 a,nL e_i64 capacity,bT h0]
 ·obtain ⟨e0,h5,h⟩:=Qae h
  refine gn 12 [0,1,5] [] [nL e_i64 a,nL e_i64 capacity,bF h0] (Qry Γ rv h5 ?_)
  rcases e0 with e0|e0
  ·replace h:(some true:Option Bool)=some _:=h
   obtain rfl:=Option.some.inj h
   exact gr 2 [] []
  ·obtain ⟨r,rfl⟩:∃ x,x=e0:=⟨_,rfl⟩
   replace h:(some r:Option Bool)=some _:=h
   exact Option.some.inj h
def QpJ (Γ:Gam) (rv:Int) (cf:Cf):Prop:=Go Tryz.prog Tryz.f131 [] Γ (one (lI rv)) [] cf
def Qm5 (Γ:Gam) (rv:Int) (x0:Qac) (r:Qad) (r1:List (List Int)×Int) (i:Int):Prop:=QpJ Γ rv ⟨[.c 500,.l 500,.b 0,.c 63],⟨47,[vP 2 0 6,vP 3 1 4,vL 5 1 r1.1 Qbd,vI 7 i],[oX 6 30 (Qac.enc x0),oX 4 34 (Qad.enc r)]⟩⟩
def Qmb (Γ:Gam) (rv:Int) (x0:Qac) (r:Qad) (r1:List (List Int)×Int):Prop:=QpJ Γ rv ⟨[.c 63],⟨47,[],[]⟩⟩
theorem QrD (Γ:Gam) (rv:Int) {x0 r r1} {s:Int} {e:(Unit)⊕(Int)} (h:loopF (fun s=>QcU x0 r r1 s) s=some e) (hD:sel e (fun e=>Qmb Γ rv x0 r r1) (fun e=>e=rv)):Qm5 Γ rv x0 r r1 s:=by
 refine QaB (C:=fun (s:Int)=>Qm5 Γ rv x0 r r1 s) (D:=fun (e:(Unit)⊕(Int))=>sel e (fun e=>Qmb Γ rv x0 r r1) (fun e=>e=rv)) ?_ h hD
 clear h hD s e
 intro i z_ h hI hE
 replace h:QcU x0 r r1 i=_:=h
 unfold QcU at h
 rcases Qah h with ⟨h3,h⟩|⟨h3,h⟩
 ·obtain ⟨x1,h4,h⟩:=Qae h
  obtain ⟨x2,h5,h⟩:=Qae h
  obtain ⟨r2,h6,h⟩:=Qae h
  rcases Qah h with ⟨h7,h⟩|⟨h7,h⟩
  ·exact gn 14 [2,3,5,7] [0,1] [nL Qbd r1.1,bT h3,hH (.draw 13 []),cE Qbd h4,cE Qai.enc h5,cC (QoB h6),nF h7] (hI _ (oJ h))
  ·obtain rfl:=(hE _ (oJ h):_=rv)
   exact gr 12 [] [nL Qbd r1.1,bT h3,hH (.draw 13 []),cE Qbd h4,cE Qai.enc h5,cC (QoB h6),nT h7]
 ·exact gn 5 [] [] [nL Qbd r1.1,bF h3] (hE _ (oJ h))
theorem Qkd {x0 r} {rv:Int} (h:QgY x0 r=some rv):AFn Tryz.prog 131 [.agg (Qac.enc x0),.agg (Qad.enc r)] [] (one (lI rv)) []:=by
 refine QaL Tryz.func131 (by kernel_rfl) (by kernel_rfl) (fun Γ=>?_)
 unfold QgY at h
 rcases Qah h with ⟨h0,h⟩|⟨h0,h⟩
 ·obtain rfl:=Option.some.inj h
  exact gr 8 [] [rp 5 hP,rp 3 (oI ((ltI r.type_ 0)=false)),nL Qai.enc x0.types,hP,hP,rp 2 (oI ((ltI r.type_ 0)=false)),oR True ((ltI r.type_ 0)=false),bT h0]
 ·obtain ⟨r1,h1,h⟩:=Qae h
  rcases Qah h with ⟨h2,h⟩|⟨h2,h⟩
  ·obtain rfl:=Option.some.inj h
   exact gr 15 [] [rp 5 hP,rp 3 (oI ((ltI r.type_ 0)=false)),nL Qai.enc x0.types,hP,hP,rp 2 (oI ((ltI r.type_ 0)=false)),oR True ((ltI r.type_ 0)=false),bF h0,cC (QnT h1),bT h2]
  ·obtain ⟨e0,h8,h⟩:=Qae h
   refine gn 19 [2,3,5,7] [0,1] [rp 5 hP,rp 3 (oI ((ltI r.type_ 0)=false)),nL Qai.enc x0.types,hP,hP,rp 2 (oI ((ltI r.type_ 0)=false)),oR True ((ltI r.type_ 0)=false),bF h0,cC (QnT h1),bF h2] (QrD Γ rv h8 ?_)
   rcases e0 with e0|e0
   ·replace h:(some 0:Option Int)=some _:=h
    obtain rfl:=Option.some.inj h
    exact gr 2 [] []
   ·obtain ⟨r3,rfl⟩:∃ x,x=e0:=⟨_,rfl⟩
    replace h:(some r3:Option Int)=some _:=h
    exact Option.some.inj h
theorem QhS {x0 v} {rv:Qav×Bool} (h:QdZ x0 v=some rv):AFn Tryz.prog 176 [.agg (Qac.enc x0),.agg (Qaa.enc v)] [] (.tup [.agg [lI rv.1.place,lI rv.1.open_,lI rv.1.close,lI rv.1.service],.one (.bool rv.2)]) []:=by
 refine QaL Tryz.func176 (by kernel_rfl) (by kernel_rfl) (fun Γ=>?_)
 unfold QdZ at h
 rcases Qah h with ⟨h0,h⟩|⟨h0,h⟩
 ·obtain rfl:=Option.some.inj h
  exact gr 8 [] [rp 5 hP,rp 3 (oI ((ltI v.order 0)=false)),nL Qag.enc x0.orders,hP,hP,rp 2 (oI ((ltI v.order 0)=false)),oR True ((ltI v.order 0)=false),bT h0]
 ·obtain ⟨x1,h1,h⟩:=Qae h
  rcases Qah h with ⟨h2,h⟩|⟨h2,h⟩
  ·obtain rfl:=Option.some.inj h
   exact gr 16 [] [rp 5 hP,rp 3 (oI ((ltI v.order 0)=false)),nL Qag.enc x0.orders,hP,hP,rp 2 (oI ((ltI v.order 0)=false)),oR True ((ltI v.order 0)=false),bF h0,cE Qag.enc h1,bT h2,cE Qag.enc h1,hH (.draw 6 [(2,4)])]
  ·obtain rfl:=Option.some.inj h
   exact gr 16 [] [rp 5 hP,rp 3 (oI ((ltI v.order 0)=false)),nL Qag.enc x0.orders,hP,hP,rp 2 (oI ((ltI v.order 0)=false)),oR True ((ltI v.order 0)=false),bF h0,cE Qag.enc h1,bF h2,hH (.draw 6 [(2,4)])]
def Qmg (Γ:Gam) (rv:Bool) (cf:Cf):Prop:=Go Tryz.prog Tryz.f158 [] Γ (one (.bool rv)) [] cf
def Qjr (Γ:Gam) (rv:Bool) (x0:Qac) (r:Qad) (i:Int):Prop:=Qmg Γ rv ⟨[.c 116,.l 116,.b 0,.c 15],⟨54,[vP 2 0 6,vP 3 1 4,vI 5 i],[oX 6 30 (Qac.enc x0),oX 4 34 (Qad.enc r)]⟩⟩
def QiY (Γ:Gam) (rv:Bool) (x0:Qac) (r:Qad):Prop:=Qmg Γ rv ⟨[.c 15],⟨54,[],[]⟩⟩
theorem QoR (Γ:Gam) (rv:Bool) {x0 r} {s:Int} {e:(Unit)⊕(Bool)} (h:loopF (fun s=>QbO x0 r s) s=some e) (hD:sel e (fun e=>QiY Γ rv x0 r) (fun e=>e=rv)):Qjr Γ rv x0 r s:=by
 refine QaB (C:=fun (s:Int)=>Qjr Γ rv x0 r s) (D:=fun (e:(Unit)⊕(Bool))=>sel e (fun e=>QiY Γ rv x0 r) (fun e=>e=rv)) ?_ h hD
 clear h hD s e
 intro i z_ h hI hE
 replace h:QbO x0 r i=_:=h
 unfold QbO at h
 rcases Qah h with ⟨h1,h⟩|⟨h1,h⟩
 ·obtain ⟨x1,h2,h⟩:=Qae h
  obtain ⟨r1,h3,h⟩:=Qae h
  rcases Qah h with ⟨h4,h⟩|⟨h4,h⟩
  ·exact gn 16 [2,3,5] [0,1] [nL Qaa.enc r.visits,bT h1,hH (.draw 13 [(2,11)]),cE Qaa.enc h2,cC (QhS h3),nF h4] (hI _ (oJ h))
  ·obtain rfl:=(hE _ (oJ h):_=rv)
   exact gr 14 [] [nL Qaa.enc r.visits,bT h1,hH (.draw 13 [(2,11)]),cE Qaa.enc h2,cC (QhS h3),nT h4]
 ·exact gn 5 [] [] [nL Qaa.enc r.visits,bF h1] (hE _ (oJ h))
theorem QfK {x0 r} {rv:Bool} (h:Qda x0 r=some rv):AFn Tryz.prog 158 [.agg (Qac.enc x0),.agg (Qad.enc r)] [] (one (.bool rv)) []:=by
 refine QaL Tryz.func158 (by kernel_rfl) (by kernel_rfl) (fun Γ=>?_)
 unfold Qda at h
 rcases Qah h with ⟨h0,h⟩|⟨h0,h⟩
 ·obtain rfl:=Option.some.inj h
  exact gr 8 [] [rp 5 hP,rp 3 (oI ((ltI r.type_ 0)=false)),nL Qai.enc x0.types,rp 13 hP,rp 2 (oI ((ltI r.type_ 0)=false)),oR True ((ltI r.type_ 0)=false),rp 2 (oI (((ltI r.type_ 0)||(geI r.type_ (lenI x0.types)))=false)),oR True (((ltI r.type_ 0)||(geI r.type_ (lenI x0.types)))=false),rp 2 (oI ((((ltI r.type_ 0)||(geI r.type_ (lenI x0.types)))||(ltI r.start 0))=false)),oR True ((((ltI r.type_ 0)||(geI r.type_ (lenI x0.types)))||(ltI r.start 0))=false),rp 2 (oI (((((ltI r.type_ 0)||(geI r.type_ (lenI x0.types)))||(ltI r.start 0))||(gtI r.start 4096))=false)),nL Qaa.enc r.visits,hP,hP,oI (((((ltI r.type_ 0)||(geI r.type_ (lenI x0.types)))||(ltI r.start 0))||(gtI r.start 4096))=false),oR True (((((ltI r.type_ 0)||(geI r.type_ (lenI x0.types)))||(ltI r.start 0))||(gtI r.start 4096))=false),bT h0]
 ·obtain ⟨e0,h5,h⟩:=Qae h
  refine gn 12 [2,3,5] [0,1] [rp 5 hP,rp 3 (oI ((ltI r.type_ 0)=false)),nL Qai.enc x0.types,rp 13 hP,rp 2 (oI ((ltI r.type_ 0)=false)),oR True ((ltI r.type_ 0)=false),rp 2 (oI (((ltI r.type_ 0)||(geI r.type_ (lenI x0.types)))=false)),oR True (((ltI r.type_ 0)||(geI r.type_ (lenI x0.types)))=false),rp 2 (oI ((((ltI r.type_ 0)||(geI r.type_ (lenI x0.types)))||(ltI r.start 0))=false)),oR True ((((ltI r.type_ 0)||(geI r.type_ (lenI x0.types)))||(ltI r.start 0))=false),rp 2 (oI (((((ltI r.type_ 0)||(geI r.type_ (lenI x0.types)))||(ltI r.start 0))||(gtI r.start 4096))=false)),nL Qaa.enc r.visits,hP,hP,oI (((((ltI r.type_ 0)||(geI r.type_ (lenI x0.types)))||(ltI r.start 0))||(gtI r.start 4096))=false),oR True (((((ltI r.type_ 0)||(geI r.type_ (lenI x0.types)))||(ltI r.start 0))||(gtI r.start 4096))=false),bF h0] (QoR Γ rv h5 ?_)
  rcases e0 with e0|e0
  ·replace h:(some true:Option Bool)=some _:=h
   obtain rfl:=Option.some.inj h
   exact gr 2 [] []
  ·obtain ⟨r2,rfl⟩:∃ x,x=e0:=⟨_,rfl⟩
   replace h:(some r2:Option Bool)=some _:=h
   exact Option.some.inj h
theorem QoT {t s0 yes} {rv:Qay} (h:Qg0 t s0 yes=some rv):AFn Tryz.prog 184 [.agg (Qai.enc t),.agg (Qay.enc s0),.one (.bool yes)] [] (gG [lI rv.place,lI rv.time,lI rv.driven,lI rv.miles]) []:=by
 refine QaL Tryz.func184 (by kernel_rfl) (by kernel_rfl) (fun Γ=>?_)
 unfold Qg0 at h
 rcases Qah h with ⟨h0,h⟩|⟨h0,h⟩
 ·obtain rfl:=Option.some.inj h
  exact gr 11 [] [bT h0]
 ·obtain rfl:=Option.some.inj h
  exact gr 9 [] [bF h0]
theorem Qcq {n p} {rv:Bool} (h:Qf6 n p=some rv):AFn Tryz.prog 197 [.agg (Qal.enc n),.one (lI p)] [] (one (.bool rv)) []:=by
 refine QaL Tryz.func197 (by kernel_rfl) (by kernel_rfl) (fun Γ=>?_)
 unfold Qf6 at h
 obtain rfl:=Option.some.inj h
 exact gr 4 [] [rp 4 hP,rp 2 (oI ((geI p 0)=true)),nL e_str n.places,hP,hP,rp 2 (oI ((geI p 0)=true)),oR True ((geI p 0)=true)]
def QpG (Γ:Gam) (rv:Qas×Bool) (cf:Cf):Prop:=Go Tryz.prog Tryz.f198 [] Γ (.tup [.agg [lI rv.1.from_,lI rv.1.to_,lI rv.1.profile,lI rv.1.miles,lL 2 rv.1.travel Qao.enc,lL 2 rv.1.slow Qao.enc],.one (.bool rv.2)]) [] cf
def QmZ (Γ:Gam) (rv:Qas×Bool) (n:Qal) (profile:Int) (from_:Int) (to_:Int) (i:Int):Prop:=QpG Γ rv ⟨[.c 52,.l 52,.b 0,.c 7],⟨42,[vI 1 profile,vI 2 from_,vI 3 to_,vP 4 0 2,vP 8 1 6,vI 10 i],[oX 2 25 (Qal.enc n),oX 6 122 [lI 0,lI 0,lI 0,lI 0,.nils,.nils]]⟩⟩
def QlV (Γ:Gam) (rv:Qas×Bool) (n:Qal) (profile:Int) (from_:Int) (to_:Int):Prop:=QpG Γ rv ⟨[.c 7],⟨42,[vP 8 0 6],[oX 6 122 [lI 0,lI 0,lI 0,lI 0,.nils,.nils]]⟩⟩
theorem QrA (Γ:Gam) (rv:Qas×Bool) {n profile from_ to_} {s:Int} {e:(Unit)⊕(Qas×Bool)} (h:loopF (fun s=>QeV n profile from_ to_ s) s=some e) (hD:sel e (fun e=>QlV Γ rv n profile from_ to_) (fun e=>e=rv)):QmZ Γ rv n profile from_ to_ s:=by
 refine QaB (C:=fun (s:Int)=>QmZ Γ rv n profile from_ to_ s) (D:=fun (e:(Unit)⊕(Qas×Bool))=>sel e (fun e=>QlV Γ rv n profile from_ to_) (fun e=>e=rv)) ?_ h hD
 clear h hD s e
 intro i z_ h hI hE
 replace h:QeV n profile from_ to_ i=_:=h
 unfold QeV at h
 rcases Qah h with ⟨h0,h⟩|⟨h0,h⟩
 ·obtain ⟨x0,h1,h⟩:=Qae h
  rcases Qah h with ⟨h2,h⟩|⟨h2,h⟩
  ·obtain rfl:=(hE _ (oJ h):_=rv)
   exact gr 14 [] [nL Qas.enc n.arcs,bT h0,cE Qas.enc h1,rp 10 hP,rp 3 (oI ((eqI x0.from_ from_)=true)),oR True ((eqI x0.from_ from_)=true),rp 3 (oI (((eqI x0.from_ from_)&&(eqI x0.to_ to_))=true)),oR True (((eqI x0.from_ from_)&&(eqI x0.to_ to_))=true),bT h2]
  ·exact gn 16 [1,2,3,4,8,10] [0,1] [nL Qas.enc n.arcs,bT h0,cE Qas.enc h1,rp 10 hP,rp 3 (oI ((eqI x0.from_ from_)=true)),oR True ((eqI x0.from_ from_)=true),rp 3 (oI (((eqI x0.from_ from_)&&(eqI x0.to_ to_))=true)),oR True (((eqI x0.from_ from_)&&(eqI x0.to_ to_))=true),bF h2] (hI _ (oJ h))
 ·exact gn 5 [8] [1] [nL Qas.enc n.arcs,bF h0] (hE _ (oJ h))
theorem QoE {n profile from_ to_} {rv:Qas×Bool} (h:Qh7 n profile from_ to_=some rv):AFn Tryz.prog 198 [.agg (Qal.enc n),.one (lI profile),.one (lI from_),.one (lI to_)] [] (.tup [.agg [lI rv.1.from_,lI rv.1.to_,lI rv.1.profile,lI rv.1.miles,lL 2 rv.1.travel Qao.enc,lL 2 rv.1.slow Qao.enc],.one (.bool rv.2)]) []:=by
 refine QaL Tryz.func198 (by kernel_rfl) (by kernel_rfl) (fun Γ=>?_)
 unfold Qh7 at h
 obtain ⟨e0,h3,h⟩:=Qae h
 refine gn 7 [1,2,3,4,8,10] [0,1] [] (QrA Γ rv h3 ?_)
 rcases e0 with e0|e0
 ·replace h:(some ((Qas.mk 0 0 0 0 [] []),false):Option (Qas×Bool))=some _:=h
  obtain rfl:=Option.some.inj h
  exact gr 2 [] [hW 5,hH (.nilB 0 4 2),hH (.nilB 0 5 2)]
 ·obtain ⟨r,rfl⟩:∃ x,x=e0:=⟨_,rfl⟩
  replace h:(some r:Option (Qas×Bool))=some _:=h
  exact Option.some.inj h
end Go.Proofs.YtpkkaboonnedfaaGreatDoor
