/- Part MV of the proof: texts Y1. -/
import Derived.Test.YtpkkaboonnedfaaGreatDoorMU
import Derived.Test.YtpkkaboonnedfaaGreatDoorProg
namespace Go.Proofs.YtpkkaboonnedfaaGreatDoor
set_option linter.unusedVariables false
set_option linter.unusedSectionVars false
set_option linter.unusedSimpArgs false
set_option maxHeartbeats 4000000
set_option maxRecDepth 100000
def Qp4 (Γ:Gam) (rv:ByteArray) (cf:Cf):Prop:=Go Tryz.prog Tryz.f203 [] Γ (one (.str rv)) [] cf
theorem QiG (Γ:Gam) (rv:ByteArray) {i u} (h:Qf6 i u=some rv):Qp4 Γ rv ⟨[.c 431,.c 7],⟨54,[vI 0 i,vP 5 0 24,(6,one (.int .u64 u))],[oX 24 249 [.int .u8 0,.int .u8 0,.int .u8 0,.int .u8 0,.int .u8 0,.int .u8 0,.int .u8 0,.int .u8 0,.int .u8 0,.int .u8 0,.int .u8 0,.int .u8 0,.int .u8 0,.int .u8 0,.int .u8 0,.int .u8 0,.int .u8 0,.int .u8 0,.int .u8 0,.int .u8 0,.int .u8 0,.int .u8 0,.int .u8 0,.int .u8 0]]⟩⟩:=by
 unfold Qf6 at h
 obtain ⟨r1,h4,h⟩:=Qae h
 cases h
theorem Qpz {i base} {rv:ByteArray} (h:Qkb i base=some rv):AFn Tryz.prog 203 [.one (lI i),.one (lI base)] [] (one (.str rv)) []:=by
 refine QaT Tryz.func203 (by kernel_rfl) (by kernel_rfl) (fun Γ=>?_)
 unfold Qkb at h
 rcases Qal h with ⟨h0,h⟩|⟨h0,h⟩
 ·rcases Qal h with ⟨h1,h⟩|⟨h1,h⟩
  ·obtain ⟨r,h2,h⟩:=Qae h
   obtain rfl:=Option.some.inj h
   exact gr 12 [] [bT h0,hP,hP,hP,oI ((leI 0 i)=true),oR True ((leI 0 i)=true),bT h1,cC (Qr3 h2)]
  ·rcases Qal h with ⟨h3,h⟩|⟨h3,h⟩
   ·exact gn 20 [0,5,6] [0] [bT h0,hP,hP,hP,oI ((leI 0 i)=true),oR True ((leI 0 i)=true),bF h1,bT h3] (QiG Γ rv h)
   ·exact gn 20 [0,5,6] [0] [bT h0,hP,hP,hP,oI ((leI 0 i)=true),oR True ((leI 0 i)=true),bF h1,bF h3] (QiG Γ rv h)
 ·cases h
theorem Qsi {i} {rv:ByteArray} (h:QpA i=some rv):AFn Tryz.prog 202 [.one (lI i)] [] (one (.str rv)) []:=by
 refine QaT Tryz.func202 (by kernel_rfl) (by kernel_rfl) (fun Γ=>?_)
 unfold QpA at h
 obtain ⟨r,h0,h⟩:=Qae h
 obtain rfl:=Option.some.inj h
 exact gr 4 [] [cC (Qpz h0)]
theorem Qnq {i} {rv:ByteArray} (h:QkG i=some rv):AFn Tryz.prog 200 [.one (lI i)] [] (one (.str rv)) []:=by
 refine QaT Tryz.func200 (by kernel_rfl) (by kernel_rfl) (fun Γ=>?_)
 unfold QkG at h
 obtain ⟨r,h0,h⟩:=Qae h
 obtain rfl:=Option.some.inj h
 exact gr 4 [] [cC (Qsi h0)]
def QkH (Γ:Gam) (rv:List Qaa) (cf:Cf):Prop:=Go Tryz.prog Tryz.f194 [] Γ (one (lL 2 rv Qaa.enc)) [] cf
def Qkc (Γ:Gam) (rv:List Qaa) (l:List Qao) (l2:List Qaa) (v:Int):Prop:=QkH Γ rv ⟨[.c 244,.l 244,.b 0,.c 31],⟨83,[vL 0 2 l Qao.enc,vO 3 0 2 l2 Qaa.enc,vL 19 2 l Qao.enc,vI 20 (lenI l),vI 21 v],[oS 2 146 l2 Qaa.enc]⟩⟩
def QiW (Γ:Gam) (rv:List Qaa) (l:List Qao) (l4:List Qaa):Prop:=QkH Γ rv ⟨[.c 31],⟨83,[vO 3 0 2 l4 Qaa.enc],[oS 2 146 l4 Qaa.enc]⟩⟩
theorem QmF (Γ:Gam) (rv:List Qaa) {l v x0 r l3} {x:(List Qaa×Int)⊕(List Qaa)} (h:Qhn l v x0 r l3=some x) (hI:∀ s:List Qaa×Int,x=.inl s→Qkc Γ rv l s.1 s.2) (hE:∀ e:List Qaa,x=.inr e→QiW Γ rv l e):QkH Γ rv ⟨[.c 31335,.b 1,.c 1959,.l 244,.b 0,.c 31],⟨83,[vL 0 2 l Qao.enc,vO 3 0 2 l3 Qaa.enc,vI 4 v,vP 5 1 2,vS 6 r,vL 19 2 l Qao.enc,vI 20 (lenI l),vI 21 v],[oS 2 146 l3 Qaa.enc,oX 2 119 (Qao.enc x0)]⟩⟩:=by
 unfold Qhn at h
 rcases Qal h with ⟨h8,h⟩|⟨h8,h⟩
 ·obtain ⟨x1,h9,h⟩:=Qae h
  rcases Qal h with ⟨h10,h⟩|⟨h10,h⟩
  ·obtain ⟨h11,h⟩:=Qax h
   exact gn 7 [0,3,19,20,21] [3] [hH (.draw 24 []),rp 6 (bT h8),cE Qao.enc h9,rp 4 (bT h8),rp 9 (bT h10),bT h8,bT h10,bT h8,tT,oO (Eq.refl ([(Qaa.mk 13 r)].map Qaa.enc).length),aO Qaa.enc h11] (hI _ (oJ h))
  ·rcases Qal h with ⟨h12,h⟩|⟨h12,h⟩
   ·obtain ⟨h13,h⟩:=Qax h
    exact gn 7 [0,3,19,20,21] [3] [hH (.draw 24 []),rp 6 (bT h8),cE Qao.enc h9,rp 4 (bT h8),rp 6 (bF h10),cE Qao.enc h9,rp 3 (bF h10),bT h8,bF h10,bT h8,bT h12,oO (Eq.refl ([(Qaa.mk 13 r)].map Qaa.enc).length),aO Qaa.enc h13] (hI _ (oJ h))
   ·exact gn 7 [0,3,19,20,21] [0] [hH (.draw 24 []),rp 6 (bT h8),cE Qao.enc h9,rp 4 (bT h8),rp 6 (bF h10),cE Qao.enc h9,rp 3 (bF h10),bT h8,bF h10,bT h8,bF h12] (hI _ (oJ h))
 ·exact gn 7 [0,3,19,20,21] [0] [hH (.draw 24 []),rp 10 (bF h8),rp 9 kF,bF h8,bF h8,fF] (hI _ (oJ h))
theorem Qqw (Γ:Gam) (rv:List Qaa) {l} {s:List Qaa×Int} {e:List Qaa} (h:loopF (fun s=>QdC l s.1 s.2) s=some e) (hD:QiW Γ rv l e):Qkc Γ rv l s.1 s.2:=by
 refine QaN (C:=fun (s:List Qaa×Int)=>Qkc Γ rv l s.1 s.2) (D:=fun (e:List Qaa)=>QiW Γ rv l e) ?_ h hD
 clear h hD s e
 rintro ⟨l2,v⟩ z_ h hI hE
 replace h:QdC l l2 v=_:=h
 unfold QdC at h
 rcases Qal h with ⟨h2,h⟩|⟨h2,h⟩
 ·obtain ⟨x0,h3,h⟩:=Qae h
  obtain ⟨r,h4,h⟩:=Qae h
  obtain ⟨r1,h5,h⟩:=Qae h
  rcases Qal h with ⟨h6,h⟩|⟨h6,h⟩
  ·obtain ⟨h7,h⟩:=Qax h
   exact gn 16 [0,3,4,5,6,19,20,21] [3,1] [bT h2,cE Qao.enc h3,cC (Qnq h4),cC (QgU h5),rp 13 hP,rp 4 (oI ((!r1)=false)),oR True ((!r1)=false),rp 5 (oI (((!r1)||(ltI x0.a x0.t))=false)),oR True (((!r1)||(ltI x0.a x0.t))=false),bT h6,oO (Eq.refl ([(Qaa.mk 2 r)].map Qaa.enc).length),aO Qaa.enc h7] (QmF Γ rv h hI hE)
  ·exact gn 16 [0,3,4,5,6,19,20,21] [0,1] [bT h2,cE Qao.enc h3,cC (Qnq h4),cC (QgU h5),rp 13 hP,rp 4 (oI ((!r1)=false)),oR True ((!r1)=false),rp 5 (oI (((!r1)||(ltI x0.a x0.t))=false)),oR True (((!r1)||(ltI x0.a x0.t))=false),bF h6] (QmF Γ rv h hI hE)
 ·exact gn 5 [3] [0] [bF h2] (hE _ (oJ h))
theorem QmE (Γ:Gam) (rv:List Qaa) {l l1} (h:Qhm l l1=some rv):QkH Γ rv ⟨[.c 15],⟨83,[vL 0 2 l Qao.enc,vO 3 0 2 l1 Qaa.enc],[oS 2 146 l1 Qaa.enc]⟩⟩:=by
 unfold Qhm at h
 obtain ⟨e0,h14,h⟩:=Qae h
 refine gn 5 [0,3,19,20,21] [0] [nL Qao.enc l] (Qqw Γ rv h14 ?_)
 obtain ⟨l4,rfl⟩:∃ x,x=e0:=⟨_,rfl⟩
 replace h:(some l4:Option (List Qaa))=some _:=h
 obtain rfl:=Option.some.inj h
 exact gr 2 [] [hW 4,hH (.frz 0),rp 3 (eL l4 Qaa.enc)]
theorem Qsj {l} {rv:List Qaa} (h:Qln l=some rv):AFn Tryz.prog 194 [.one (lL 2 l Qao.enc)] [] (one (lL 2 rv Qaa.enc)) []:=by
 refine QaT Tryz.func194 (by kernel_rfl) (by kernel_rfl) (fun Γ=>?_)
 unfold Qln at h
 rcases Qal h with ⟨h0,h⟩|⟨h0,h⟩
 ·obtain ⟨h1,h⟩:=Qax h
  exact gn 9 [0,3] [1] [nL Qao.enc l,hP,hP,oI ((eqI (lenI l) 0)=false),nL Qao.enc l,hP,hP,oI ((eqI (lenI l) 0)=false),oR True ((eqI (lenI l) 0)=false),bT h0,oO (Eq.refl ([(Qaa.mk 4 ByteArray.empty)].map Qaa.enc).length),aN (l:=([(Qaa.mk 4 ByteArray.empty)]:List Qaa)) Qaa.enc h1] (QmE Γ rv h)
 ·exact gn 9 [0,3] [0] [nL Qao.enc l,hP,hP,oI ((eqI (lenI l) 0)=false),nL Qao.enc l,hP,hP,oI ((eqI (lenI l) 0)=false),oR True ((eqI (lenI l) 0)=false),bF h0,hW 1,hH (.adopt 3 2 146)] (QmE Γ rv h)
theorem Qpf {l} {rv:Bool} (h:Qlo l=some rv):AFn Tryz.prog 191 [.one (lL 2 l Qao.enc)] [] (one (.bool rv)) []:=by
 refine QaT Tryz.func191 (by kernel_rfl) (by kernel_rfl) (fun Γ=>?_)
 unfold Qlo at h
 obtain ⟨r,h0,h⟩:=Qae h
 obtain rfl:=Option.some.inj h
 exact gr 4 [] [cC (Qsj h0),nL Qaa.enc r]
theorem QiX {p t} {rv:Int} (h:Qfv p t=some rv):AFn Tryz.prog 196 [.agg (Qao.enc p),.one (lI t)] [] (one (lI rv)) []:=by
 refine QaT Tryz.func196 (by kernel_rfl) (by kernel_rfl) (fun Γ=>?_)
 unfold Qfv at h
 obtain rfl:=Option.some.inj h
 exact gr 4 [] []
def QbP (Γ:Gam) (rv:Int×Bool) (cf:Cf):Prop:=Go Tryz.prog Tryz.f195 [] Γ (.tup [.one (lI rv.1),.one (.bool rv.2)]) [] cf
def QbO (Γ:Gam) (rv:Int×Bool) (x0:List Qao) (target:Int) (i:Int) (j:Int):Prop:=QbP Γ rv ⟨[.c 120,.l 120,.b 0,.c 31],⟨49,[vL 0 2 x0 Qao.enc,vI 1 target,(2,one (.fn (.func 196) [])),vI 8 (lenI x0),vI 9 i,vI 10 j],[]⟩⟩
def QbI (Γ:Gam) (rv:Int×Bool) (x0:List Qao) (target:Int) (i1:Int):Prop:=QbP Γ rv ⟨[.c 31],⟨49,[vL 0 2 x0 Qao.enc,vI 1 target,(2,one (.fn (.func 196) [])),vI 8 (lenI x0),vI 9 i1],[]⟩⟩
theorem QcU (Γ:Gam) (rv:Int×Bool) {x0 target} {s:Int×Int} {e:Int} (h:loopF (fun s=>QaF x0 target s.1 s.2) s=some e) (hD:QbI Γ rv x0 target e):QbO Γ rv x0 target s.1 s.2:=by
 refine QaN (C:=fun (s:Int×Int)=>QbO Γ rv x0 target s.1 s.2) (D:=fun (e:Int)=>QbI Γ rv x0 target e) ?_ h hD
 clear h hD s e
 rintro ⟨i,j⟩ z_ h hI hE
 replace h:QaF x0 target i j=_:=h
 unfold QaF at h
 rcases Qal h with ⟨h0,h⟩|⟨h0,h⟩
 ·obtain ⟨x1,h1,h⟩:=Qae h
  obtain ⟨r,h2,h⟩:=Qae h
  rcases Qal h with ⟨h3,h⟩|⟨h3,h⟩
  ·exact gn 14 [0,1,2,8,9,10] [] [bT h0,oO (zL 1),cE Qao.enc h1,cC (QiX h2),bT h3] (hI _ (oJ h))
  ·exact gn 14 [0,1,2,8,9,10] [] [bT h0,oO (zL 1),cE Qao.enc h1,cC (QiX h2),bF h3] (hI _ (oJ h))
 ·exact gn 5 [0,1,2,8,9] [] [bF h0] (hE _ (oJ h))
theorem QaX {x0 target} {rv:Int×Bool} (h:Qa2 x0 target=some rv):AFn Tryz.prog 195 [.one (lL 2 x0 Qao.enc),.one (lI target),.one (.fn (.func 196) [])] [] (.tup [.one (lI rv.1),.one (.bool rv.2)]) []:=by
 refine QaT Tryz.func195 (by kernel_rfl) (by kernel_rfl) (fun Γ=>?_)
 unfold Qa2 at h
 obtain ⟨e0,h4,h⟩:=Qae h
 refine gn 9 [0,1,2,8,9,10] [] [nL Qao.enc x0] (QcU Γ rv h4 ?_)
 obtain ⟨i1,rfl⟩:∃ x,x=e0:=⟨_,rfl⟩
 replace h:(br (ltI i1 (lenI x0)) (bnd (getI x0 i1) fun x2=>bnd (Qfv x2 target) fun r1=>some (i1,(eqI r1 0))) (some (i1,false)):Option (Int×Bool))=some _:=h
 rcases Qal h with ⟨h5,h⟩|⟨h5,h⟩
 ·obtain ⟨x2,h6,h⟩:=Qae h
  obtain ⟨r1,h7,h⟩:=Qae h
  obtain rfl:=Option.some.inj h
  exact gr 2 [] [rp 4 (bT h5),cE Qao.enc h6,rp 3 (bT h5),cC (QiX h7),bT h5,bT h5]
 ·obtain rfl:=Option.some.inj h
  exact gr 2 [] [rp 9 (bF h5)]
theorem Qr6 {l t} {rv:Int} (h:QjR l t=some rv):AFn Tryz.prog 192 [.one (lL 2 l Qao.enc),.one (lI t)] [] (one (lI rv)) []:=by
 refine QaT Tryz.func192 (by kernel_rfl) (by kernel_rfl) (fun Γ=>?_)
 unfold QjR at h
 obtain ⟨r,h0,h⟩:=Qae h
 rcases Qal h with ⟨h1,h⟩|⟨h1,h⟩
 ·obtain ⟨x0,h2,h⟩:=Qae h
  obtain rfl:=Option.some.inj h
  exact gr 11 [] [cC (QaX h0),bT h1,cE Qao.enc h2]
 ·rcases Qal h with ⟨h3,h⟩|⟨h3,h⟩
  ·obtain ⟨x1,h4,h⟩:=Qae h
   obtain rfl:=Option.some.inj h
   exact gr 14 [] [cC (QaX h0),bF h1,bT h3,hH (.draw 12 []),rp 2 (cE Qao.enc h4)]
  ·rcases Qal h with ⟨h5,h⟩|⟨h5,h⟩
   ·obtain ⟨x2,h6,h⟩:=Qae h
    obtain rfl:=Option.some.inj h
    exact gr 17 [] [cC (QaX h0),bF h1,bF h3,nL Qao.enc l,bT h5,hH (.draw 16 []),rp 2 (cE Qao.enc h6)]
   ·obtain ⟨x3,h7,h⟩:=Qae h
    obtain ⟨x4,h8,h⟩:=Qae h
    obtain ⟨h9,h⟩:=Qax h
    obtain rfl:=Option.some.inj h
    exact gr 23 [] [cC (QaX h0),bF h1,bF h3,nL Qao.enc l,bF h5,hH (.draw 13 [(0,11),(1,12)]),cE Qao.enc h7,cE Qao.enc h8,hH (.draw 19 []),oO (h9)]
theorem Qr5 {l t} {rv:Int} (h:QjQ l t=some rv):AFn Tryz.prog 187 [.one (lL 2 l Qao.enc),.one (lI t)] [] (one (lI rv)) []:=by
 refine QaT Tryz.func187 (by kernel_rfl) (by kernel_rfl) (fun Γ=>?_)
 unfold QjQ at h
 obtain ⟨r,h0,h⟩:=Qae h
 rcases Qal h with ⟨h1,h⟩|⟨h1,h⟩
 ·obtain ⟨r1,h2,h⟩:=Qae h
  rcases Qal h with ⟨h3,h⟩|⟨h3,h⟩
  ·obtain ⟨r2,h4,h⟩:=Qae h
   obtain rfl:=Option.some.inj h
   exact gr 9 [] [cC (QgU h0),nF h1,nF h1,cC (Qpf h2),nF h1,nF h1,nF h3,cC (Qr6 h4)]
  ·obtain rfl:=Option.some.inj h
   exact gr 8 [] [cC (QgU h0),nF h1,nF h1,cC (Qpf h2),nF h1,nF h1,nT h3]
 ·obtain rfl:=Option.some.inj h
  exact gr 8 [] [cC (QgU h0),rp 4 (nT h1),tT]
def Qne (Γ:Gam) (rv:Int) (cf:Cf):Prop:=Go Tryz.prog Tryz.f181 [] Γ (one (lI rv)) [] cf
def Qla (Γ:Gam) (rv:Int) (a:Qas) (t:Int) (out:Int) (v:Int):Prop:=Qne Γ rv ⟨[.c 116,.l 116,.b 0,.c 15],⟨29,[vI 1 t,vI 5 out,vL 13 2 a.slow Qao.enc,vI 14 (lenI a.slow),vI 15 v],[]⟩⟩
def Qkv (Γ:Gam) (rv:Int) (a:Qas) (t:Int) (out1:Int):Prop:=Qne Γ rv ⟨[.c 15],⟨29,[vI 5 out1],[]⟩⟩
theorem QoS (Γ:Gam) (rv:Int) {a t} {s:Int×Int} {e:Int} (h:loopF (fun s=>QgY a t s.1 s.2) s=some e) (hD:Qkv Γ rv a t e):Qla Γ rv a t s.1 s.2:=by
 refine QaN (C:=fun (s:Int×Int)=>Qla Γ rv a t s.1 s.2) (D:=fun (e:Int)=>Qkv Γ rv a t e) ?_ h hD
 clear h hD s e
 rintro ⟨out,v⟩ z_ h hI hE
 replace h:QgY a t out v=_:=h
 unfold QgY at h
 rcases Qal h with ⟨h1,h⟩|⟨h1,h⟩
 ·obtain ⟨x0,h2,h⟩:=Qae h
  rcases Qal h with ⟨h3,h⟩|⟨h3,h⟩
  ·exact gn 16 [1,5,13,14,15] [] [bT h1,cE Qao.enc h2,bT h3] (hI _ (oJ h))
  ·exact gn 16 [1,5,13,14,15] [] [bT h1,cE Qao.enc h2,bF h3] (hI _ (oJ h))
 ·exact gn 5 [5] [] [bF h1] (hE _ (oJ h))
theorem Qqi {a t} {rv:Int} (h:Qhf a t=some rv):AFn Tryz.prog 181 [.agg (Qas.enc a),.one (lI t)] [] (one (lI rv)) []:=by
 refine QaT Tryz.func181 (by kernel_rfl) (by kernel_rfl) (fun Γ=>?_)
 unfold Qhf at h
 obtain ⟨r,h0,h⟩:=Qae h
 obtain ⟨e0,h4,h⟩:=Qae h
 refine gn 9 [1,5,13,14,15] [] [cC (Qr5 h0),nL Qao.enc a.slow] (QoS Γ rv h4 ?_)
 obtain ⟨out1,rfl⟩:∃ x,x=e0:=⟨_,rfl⟩
 replace h:(some out1:Option Int)=some _:=h
 obtain rfl:=Option.some.inj h
 exact gr 2 [] []
theorem QjH {n profile from_ to_ t} {rv:Int×Int×Int} (h:Qmt n profile from_ to_ t=some rv):AFn Tryz.prog 168 [.agg (Qai.enc n),.one (lI profile),.one (lI from_),.one (lI to_),.one (lI t)] [] (.tup [.one (lI rv.1),.one (lI rv.2.1),.one (lI rv.2.2)]) []:=by
 refine QaT Tryz.func168 (by kernel_rfl) (by kernel_rfl) (fun Γ=>?_)
 unfold Qmt at h
 obtain ⟨r,h0,h⟩:=Qae h
 rcases Qal h with ⟨h1,h⟩|⟨h1,h⟩
 ·obtain ⟨r1,h2,h⟩:=Qae h
  rcases Qal h with ⟨h3,h⟩|⟨h3,h⟩
  ·rcases Qal h with ⟨h4,h⟩|⟨h4,h⟩
   ·obtain rfl:=Option.some.inj h
    exact gr 13 [] [cC (Qc4 h0),rp 3 (nF h1),cC (Qc4 h2),nF h1,nF h1,nF h3,bT h4]
   ·obtain ⟨r2,h5,h⟩:=Qae h
    rcases Qal h with ⟨h6,h⟩|⟨h6,h⟩
    ·obtain ⟨r3,h7,h⟩:=Qae h
     obtain rfl:=Option.some.inj h
     exact gr 21 [] [cC (Qc4 h0),rp 3 (nF h1),cC (Qc4 h2),nF h1,nF h1,nF h3,bF h4,cC (Qo6 h5),nF h6,hH (.draw 8 []),cC (Qqi h7)]
    ·obtain rfl:=Option.some.inj h
     exact gr 20 [] [cC (Qc4 h0),rp 3 (nF h1),cC (Qc4 h2),nF h1,nF h1,nF h3,bF h4,cC (Qo6 h5),nT h6]
  ·obtain rfl:=Option.some.inj h
   exact gr 8 [] [cC (Qc4 h0),rp 3 (nF h1),cC (Qc4 h2),nF h1,nF h1,nT h3]
 ·obtain rfl:=Option.some.inj h
  exact gr 8 [] [cC (Qc4 h0),rp 5 (nT h1),tT]
theorem Qe7 {p visits} {rv:Int} (h:QfB p visits=some rv):AFn Tryz.prog 169 [.agg (Qaw.enc p),.one (lI visits)] [] (one (lI rv)) []:=by
 refine QaT Tryz.func169 (by kernel_rfl) (by kernel_rfl) (fun Γ=>?_)
 unfold QfB at h
 rcases Qal h with ⟨h0,h⟩|⟨h0,h⟩
 ·obtain rfl:=Option.some.inj h
  exact gr 8 [] [bT h0]
 ·obtain ⟨x0,h1,h⟩:=Qae h
  obtain rfl:=Option.some.inj h
  exact gr 9 [] [bF h0,cE Qau.enc h1]
theorem Qph {s0 arrive} {rv:Int×Int} (h:QmZ s0 arrive=some rv):AFn Tryz.prog 170 [.agg (Qau.enc s0),.one (lI arrive)] [] (.tup [.one (lI rv.1),.one (lI rv.2)]) []:=by
 refine QaT Tryz.func170 (by kernel_rfl) (by kernel_rfl) (fun Γ=>?_)
 unfold QmZ at h
 rcases Qal h with ⟨h0,h⟩|⟨h0,h⟩
 ·obtain rfl:=Option.some.inj h
  exact gr 10 [] [bT h0]
 ·obtain rfl:=Option.some.inj h
  exact gr 11 [] [bF h0]
theorem QdJ {s0} {rv:List Qar} (h:Qby s0=some rv):AFn Tryz.prog 167 [.one (lL 4 s0 Qar.enc)] [] (one (lO 0 4 rv Qar.enc)) [oS 4 213 rv Qar.enc]:=by
 refine QaT Tryz.func167 (by kernel_rfl) (by kernel_rfl) (fun Γ=>?_)
 unfold Qby at h
 rcases Qal h with ⟨h0,h⟩|⟨h0,h⟩
 ·obtain ⟨hx,h⟩:=Qt8 h
  refine gn 5 [0,4] [] [hH (.skip)] (cf':=⟨[.c 13,.c 7],⟨8,[vL 0 4 s0 Qar.enc,(4,.boo)],[]⟩⟩) (go_amb 4 rfl ?_ ?_)
  ·replace h:=hx
   obtain rfl:=Option.some.inj h
   exact gr 3 [0] [tT,hW 3,hH (.adopt 2 4 213)]
  ·obtain ⟨h1,h⟩:=Qax h
   obtain rfl:=Option.some.inj h
   exact gr 4 [0] [fF,aZ Qar.enc h1]
 ·obtain ⟨h2,h⟩:=Qax h
  obtain rfl:=Option.some.inj h
  exact gr 9 [0] [oO (neE Qar.enc h0),fF,hH (.bit false),aZ Qar.enc h2]
def Qho (Γ:Gam) (rv:Qaf×Int) (cf:Cf):Prop:=Go Tryz.prog Tryz.f144 [] Γ (.tup [.agg [lI rv.1.ready,lI rv.1.since,.bool rv.1.sheet.rest_,lI rv.1.sheet.depart,lL 4 rv.1.sheet.times Qar.enc,lI rv.1.sheet.end_,lI rv.1.sheet.miles],.one (lI rv.2)]) [] cf
theorem Qkj (Γ:Gam) (rv:Qaf×Int) {p l depart since rest_1 depart1 r2 l2 ready end_} (h:Qew p l depart since rest_1 depart1 r2 l2 ready end_=some rv):Qho Γ rv ⟨[.c 32767],⟨163,[vP 4 0 25,vP 8 1 7,vP 12 2 7],[oX 25 174 (Qaw.enc p),oX 7 178 [lI 0,lI 0,.bool false,lI 0,.nils,lI 0,lI 0],oX 7 178 [lI ready,lI (subK .i64 (addK .i64 since r2.1) depart),.bool rest_1,lI depart1,lO 3 4 l2 Qar.enc,lI end_,lI (addK .i64 l.sheet.miles r2.2.1)],oS 4 213 l2 Qar.enc]⟩⟩:=by
 unfold Qew at h
 rcases Qal h with ⟨h15,h⟩|⟨h15,h⟩
 ·obtain rfl:=Option.some.inj h
  exact gr 6 [] [bT h15,hW 5,hH (.nilB 1 4 4)]
 ·obtain rfl:=Option.some.inj h
  exact gr 7 [] [bF h15,hW 6,hH (.frz 3),rp 3 (eL l2 Qar.enc)]
theorem Qki (Γ:Gam) (rv:Qaf×Int) {p l done depart since l1 rest_1 depart1 to_} (h:Qdh p l done depart since l1 rest_1 depart1 to_=some rv):Qho Γ rv ⟨[.c 1023],⟨163,[vI 2 done,vP 4 0 25,vP 8 1 7,vI 10 depart,vI 11 since,vP 12 2 7,vB 13 (eqI done (lenI p.stops)),vI 14 to_],[oX 25 174 (Qaw.enc p),oX 7 178 [lI 0,lI 0,.bool false,lI 0,.nils,lI 0,lI 0],oX 7 178 [lI 0,lI 0,.bool rest_1,lI depart1,lO 3 4 l1 Qar.enc,lI l.sheet.end_,lI l.sheet.miles],oS 4 213 l1 Qar.enc]⟩⟩:=by
 unfold Qdh at h
 obtain ⟨r1,h6,h⟩:=Qae h
 obtain ⟨r2,h7,h⟩:=Qae h
 rcases Qal h with ⟨h8,h⟩|⟨h8,h⟩
 ·obtain rfl:=Option.some.inj h
  exact gr 8 [] [hH (.draw 19 []),cC (Qe7 h6),cC (QjH h7),bT h8,hW 5,hH (.nilB 1 4 4)]
 ·rcases Qal h with ⟨h9,h⟩|⟨h9,h⟩
  ·rcases Qal h with ⟨h10,h⟩|⟨h10,h⟩
   ·obtain rfl:=Option.some.inj h
    exact gr 21 [] [hH (.draw 19 []),cC (Qe7 h6),cC (QjH h7),bF h8,bT h9,bT h10,hW 5,hH (.nilB 1 4 4)]
   ·exact gn 23 [4,8,12] [0,1,2,3] [hH (.draw 19 []),cC (Qe7 h6),cC (QjH h7),bF h8,bT h9,bF h10] (Qkj Γ rv h)
  ·obtain ⟨x2,h11,h⟩:=Qae h
   obtain ⟨r3,h12,h⟩:=Qae h
   rcases Qal h with ⟨h13,h⟩|⟨h13,h⟩
   ·obtain rfl:=Option.some.inj h
    exact gr 23 [] [hH (.draw 19 []),cC (Qe7 h6),cC (QjH h7),bF h8,bF h9,cE Qau.enc h11,cC (Qph h12),bT h13,hW 5,hH (.nilB 1 4 4)]
   ·obtain ⟨h14,h⟩:=Qax h
    exact gn 25 [4,8,12] [0,1,2,5] [hH (.draw 19 []),cC (Qe7 h6),cC (QjH h7),bF h8,bF h9,cE Qau.enc h11,cC (Qph h12),bF h13,cE Qau.enc h11,oO (Eq.refl ([(Qar.mk r2.1 r3.1 0 false)].map Qar.enc).length),aO Qar.enc h14] (Qkj Γ rv h)
theorem Qkh (Γ:Gam) (rv:Qaf×Int) {p l done depart since l1 rest_1 depart1} (h:Qev p l done depart since l1 rest_1 depart1=some rv):Qho Γ rv ⟨[.c 127],⟨163,[vI 2 done,vP 4 0 25,vP 8 1 7,vI 10 depart,vI 11 since,vP 12 2 7],[oX 25 174 (Qaw.enc p),oX 7 178 [lI 0,lI 0,.bool false,lI 0,.nils,lI 0,lI 0],oX 7 178 [lI 0,lI 0,.bool rest_1,lI depart1,lO 3 4 l1 Qar.enc,lI l.sheet.end_,lI l.sheet.miles],oS 4 213 l1 Qar.enc]⟩⟩:=by
 unfold Qev at h
 rcases Qal h with ⟨h4,h⟩|⟨h4,h⟩
 ·exact gn 9 [2,4,8,10,11,12,13,14] [0,1,2,3] [nL Qau.enc p.stops,nF h4] (Qki Γ rv h)
 ·obtain ⟨x1,h5,h⟩:=Qae h
  exact gn 9 [2,4,8,10,11,12,13,14] [0,1,2,3] [nL Qau.enc p.stops,nT h4,cE Qau.enc h5] (Qki Γ rv h)
theorem Qkg (Γ:Gam) (rv:Qaf×Int) {p l done rest_ depart since} (h:Qeu p l done rest_ depart since=some rv):Qho Γ rv ⟨[.c 15],⟨163,[vI 2 done,vB 3 rest_,vP 4 0 25,vP 5 1 7,vP 8 2 7,vI 10 depart,vI 11 since],[oX 25 174 (Qaw.enc p),oX 7 178 (Qaf.enc l),oX 7 178 [lI 0,lI 0,.bool false,lI 0,.nils,lI 0,lI 0]]⟩⟩:=by
 unfold Qeu at h
 obtain ⟨r,h1,h⟩:=Qae h
 rcases Qal h with ⟨h2,h⟩|⟨h2,h⟩
 ·exact gn 11 [2,4,8,10,11,12] [0,2,3,4] [cC (QdJ h1),bT h2] (Qkh Γ rv h)
 ·obtain ⟨x0,h3,h⟩:=Qae h
  exact gn 11 [2,4,8,10,11,12] [0,2,3,4] [cC (QdJ h1),bF h2,oO (getLo h3),oO (getHi Qar.enc h3),rE Qar.enc h3,hH (.rows ((setI r (subK .i64 done 1) (Qar.mk x0.arrive x0.begin x0.depart rest_)).map Qar.enc)),hH (.relen 4 ((setI r (subK .i64 done 1) (Qar.mk x0.arrive x0.begin x0.depart rest_)).map Qar.enc).length),oO (setM Qar.enc r (subK .i64 done 1) (Qar.mk x0.arrive x0.begin x0.depart rest_)),rp 3 (oO (QsS Qar.enc r (subK .i64 done 1) (Qar.mk x0.arrive x0.begin x0.depart rest_))),oO (getLo (QAa h3 (Qar.mk x0.arrive x0.begin x0.depart rest_))),oO (getHi Qar.enc (QAa h3 (Qar.mk x0.arrive x0.begin x0.depart rest_))),rE Qar.enc (QAa h3 (Qar.mk x0.arrive x0.begin x0.depart rest_)),hH (.rows ((setI (setI r (subK .i64 done 1) (Qar.mk x0.arrive x0.begin x0.depart rest_)) (subK .i64 done 1) (Qar.mk x0.arrive x0.begin depart rest_)).map Qar.enc)),hH (.relen 4 ((setI (setI r (subK .i64 done 1) (Qar.mk x0.arrive x0.begin x0.depart rest_)) (subK .i64 done 1) (Qar.mk x0.arrive x0.begin depart rest_)).map Qar.enc).length),oO (setM Qar.enc (setI r (subK .i64 done 1) (Qar.mk x0.arrive x0.begin x0.depart rest_)) (subK .i64 done 1) (Qar.mk x0.arrive x0.begin depart rest_)),rp 4 (oO (QsS Qar.enc (setI r (subK .i64 done 1) (Qar.mk x0.arrive x0.begin x0.depart rest_)) (subK .i64 done 1) (Qar.mk x0.arrive x0.begin depart rest_)))] (Qkh Γ rv h)
theorem QfA {p l done rest_} {rv:Qaf×Int} (h:Qeo p l done rest_=some rv):AFn Tryz.prog 144 [.agg (Qaw.enc p),.agg (Qaf.enc l),.one (lI done),.one (.bool rest_)] [] (.tup [.agg [lI rv.1.ready,lI rv.1.since,.bool rv.1.sheet.rest_,lI rv.1.sheet.depart,lL 4 rv.1.sheet.times Qar.enc,lI rv.1.sheet.end_,lI rv.1.sheet.miles],.one (lI rv.2)]) []:=by
 refine QaT Tryz.func144 (by kernel_rfl) (by kernel_rfl) (fun Γ=>?_)
 unfold Qeo at h
 rcases Qal h with ⟨h0,h⟩|⟨h0,h⟩
 ·exact gn 11 [2,3,4,5,8,10,11] [0,1,2] [hH (.draw 6 []),bT h0] (Qkg Γ rv h)
 ·exact gn 9 [2,3,4,5,8,10,11] [0,1,2] [hH (.draw 6 []),bF h0] (Qkg Γ rv h)
theorem Qpk {l m} {rv:Bool} (h:QjT l m=some rv):AFn Tryz.prog 147 [.agg (Qaf.enc l),.agg (Qaf.enc m)] [] (one (.bool rv)) []:=by
 refine QaT Tryz.func147 (by kernel_rfl) (by kernel_rfl) (fun Γ=>?_)
 unfold QjT at h
 obtain rfl:=Option.some.inj h
 exact gr 4 [] [rp 6 hP,rp 4 (oI ((eqI l.ready m.ready)=true)),oR True ((eqI l.ready m.ready)=true)]
theorem QkS {m c} {rv:Bool} (h:Qf8 m c=some rv):AFn Tryz.prog 146 [.agg (Qaf.enc m),.one (.ip (Qaf.enc c) 0)] [] (one (.bool rv)) []:=by
 refine QaT Tryz.func146 (by kernel_rfl) (by kernel_rfl) (fun Γ=>?_)
 unfold Qf8 at h
 obtain ⟨r,h0,h⟩:=Qae h
 obtain rfl:=Option.some.inj h
 exact gr 4 [] [cC (Qpk h0)]
def Qcs (Γ:Gam) (rv:Int) (cf:Cf):Prop:=Go Tryz.prog Tryz.f171 [] Γ (one (lI rv)) [] cf
def Qb8 (Γ:Gam) (rv:Int) (s0:List Qaf) (c:Qaf) (v:Int):Prop:=Qcs Γ rv ⟨[.c 52,.l 52,.b 0,.c 7],⟨19,[vL 0 7 s0 Qaf.enc,(1,one (.fn (.func 146) [.ip (Qaf.enc c) 0])),vI 7 (lenI s0),vI 8 v],[]⟩⟩
def Qb4 (Γ:Gam) (rv:Int) (s0:List Qaf) (c:Qaf):Prop:=Qcs Γ rv ⟨[.c 7],⟨19,[],[]⟩⟩
theorem Qeb (Γ:Gam) (rv:Int) {s0 c} {s:Int} {e:(Unit)⊕(Int)} (h:loopF (fun s=>Qav s0 c s) s=some e) (hD:sel e (fun e=>Qb4 Γ rv s0 c) (fun e=>e=rv)):Qb8 Γ rv s0 c s:=by
 refine QaN (C:=fun (s:Int)=>Qb8 Γ rv s0 c s) (D:=fun (e:(Unit)⊕(Int))=>sel e (fun e=>Qb4 Γ rv s0 c) (fun e=>e=rv)) ?_ h hD
 clear h hD s e
 intro v z_ h hI hE
 replace h:Qav s0 c v=_:=h
 unfold Qav at h
 rcases Qal h with ⟨h0,h⟩|⟨h0,h⟩
 ·obtain ⟨x0,h1,h⟩:=Qae h
  obtain ⟨r,h2,h⟩:=Qae h
  rcases Qal h with ⟨h3,h⟩|⟨h3,h⟩
  ·obtain rfl:=(hE _ (oJ h):_=rv)
   exact gr 14 [] [bT h0,cE Qaf.enc h1,cC (QkS h2),bT h3]
  ·exact gn 16 [0,1,7,8] [] [bT h0,cE Qaf.enc h1,cC (QkS h2),bF h3] (hI _ (oJ h))
 ·exact gn 5 [] [] [bF h0] (hE _ (oJ h))
theorem QeH {s0 c} {rv:Int} (h:Qbd s0 c=some rv):AFn Tryz.prog 171 [.one (lL 7 s0 Qaf.enc),.one (.fn (.func 146) [.ip (Qaf.enc c) 0])] [] (one (lI rv)) []:=by
 refine QaT Tryz.func171 (by kernel_rfl) (by kernel_rfl) (fun Γ=>?_)
 unfold Qbd at h
 obtain ⟨e0,h4,h⟩:=Qae h
 refine gn 7 [0,1,7,8] [] [nL Qaf.enc s0] (Qeb Γ rv h4 ?_)
 rcases e0 with e0|e0
 ·replace h:(some (-1):Option Int)=some _:=h
  obtain rfl:=Option.some.inj h
  exact gr 2 [] []
 ·obtain ⟨r1,rfl⟩:∃ x,x=e0:=⟨_,rfl⟩
  replace h:(some r1:Option Int)=some _:=h
  exact Option.some.inj h
theorem Qb3 {s0 c} {rv:Bool} (h:QaK s0 c=some rv):AFn Tryz.prog 145 [.one (lL 7 s0 Qaf.enc),.one (.fn (.func 146) [.ip (Qaf.enc c) 0])] [] (one (.bool rv)) []:=by
 refine QaT Tryz.func145 (by kernel_rfl) (by kernel_rfl) (fun Γ=>?_)
 unfold QaK at h
 obtain ⟨r,h0,h⟩:=Qae h
 obtain rfl:=Option.some.inj h
 exact gr 4 [] [cC (QeH h0)]
def Qf9 (Γ:Gam) (rv:List Qaf) (cf:Cf):Prop:=Go Tryz.prog Tryz.f116 [] Γ (one (lL 7 rv Qaf.enc)) [] cf
def QkU (Γ:Gam) (rv:List Qaf) (p:Qaw) (l:List Qaf) (done:Int) (choices:List Bool) (v:Int) (x0:Qaf) (l3:List Qaf) (v1:Int):Prop:=Qf9 Γ rv ⟨[.c 128204,.l 128204,.b 2,.b 1,.c 4007,.l 500,.b 0,.c 63],⟨64,[vI 2 done,vP 3 0 25,vL 7 1 choices Qdt,vO 8 1 7 l3 Qaf.enc,vP 10 2 7,vL 29 7 l Qaf.enc,vI 30 (lenI l),vI 31 v,vL 35 1 choices Qdt,vI 36 (lenI choices),vI 37 v1],[oX 25 174 (Qaw.enc p),oS 7 178 l3 Qaf.enc,oX 7 178 (Qaf.enc x0)]⟩⟩
def Qkf (Γ:Gam) (rv:List Qaf) (p:Qaw) (l:List Qaf) (done:Int) (choices:List Bool) (v:Int) (x0:Qaf) (l4:List Qaf):Prop:=Qf9 Γ rv ⟨[.b 1,.c 4007,.l 500,.b 0,.c 63],⟨64,[vI 2 done,vP 3 0 25,vL 7 1 choices Qdt,vO 8 1 7 l4 Qaf.enc,vL 29 7 l Qaf.enc,vI 30 (lenI l),vI 31 v],[oX 25 174 (Qaw.enc p),oS 7 178 l4 Qaf.enc]⟩⟩
def QkT (Γ:Gam) (rv:List Qaf) (p:Qaw) (l:List Qaf) (done:Int) (choices:List Bool) (l2:List Qaf) (v:Int):Prop:=Qf9 Γ rv ⟨[.c 500,.l 500,.b 0,.c 63],⟨64,[vI 2 done,vP 3 0 25,vL 7 1 choices Qdt,vO 8 1 7 l2 Qaf.enc,vL 29 7 l Qaf.enc,vI 30 (lenI l),vI 31 v],[oX 25 174 (Qaw.enc p),oS 7 178 l2 Qaf.enc]⟩⟩
def Qke (Γ:Gam) (rv:List Qaf) (p:Qaw) (l:List Qaf) (done:Int) (choices:List Bool) (l5:List Qaf):Prop:=Qf9 Γ rv ⟨[.c 63],⟨64,[vO 8 0 7 l5 Qaf.enc],[oS 7 178 l5 Qaf.enc]⟩⟩
theorem QoP (Γ:Gam) (rv:List Qaf) {p l done choices v x0} {s:List Qaf×Int} {e:List Qaf} (h:loopF (fun s=>Qb6 p l done choices v x0 s.1 s.2) s=some e) (hD:Qkf Γ rv p l done choices v x0 e):QkU Γ rv p l done choices v x0 s.1 s.2:=by
 refine QaN (C:=fun (s:List Qaf×Int)=>QkU Γ rv p l done choices v x0 s.1 s.2) (D:=fun (e:List Qaf)=>Qkf Γ rv p l done choices v x0 e) ?_ h hD
 clear h hD s e
 rintro ⟨l3,v1⟩ z_ h hI hE
 replace h:Qb6 p l done choices v x0 l3 v1=_:=h
 unfold Qb6 at h
 rcases Qal h with ⟨h4,h⟩|⟨h4,h⟩
 ·obtain ⟨x1,h5,h⟩:=Qae h
  obtain ⟨r,h6,h⟩:=Qae h
  rcases Qal h with ⟨h7,h⟩|⟨h7,h⟩
  ·obtain ⟨r1,h8,h⟩:=Qae h
   rcases Qal h with ⟨h9,h⟩|⟨h9,h⟩
   ·exact gn 18 [2,3,7,8,10,29,30,31,35,36,37] [0,1,2] [bT h4,cE Qdt h5,cC (QfA h6),rp 3 (bT h7),eL l3 Qaf.enc,cC (Qb3 h8),bT h7,bT h7,nF h9] (hI _ (oJ h))
   ·obtain ⟨h10,h⟩:=Qax h
    exact gn 18 [2,3,7,8,10,29,30,31,35,36,37] [0,5,2] [bT h4,cE Qdt h5,cC (QfA h6),rp 3 (bT h7),eL l3 Qaf.enc,cC (Qb3 h8),bT h7,bT h7,nT h9,oO (Eq.refl ([r.1].map Qaf.enc).length),aO Qaf.enc h10] (hI _ (oJ h))
  ·exact gn 18 [2,3,7,8,10,29,30,31,35,36,37] [0,1,2] [bT h4,cE Qdt h5,cC (QfA h6),rp 5 (bF h7),fF] (hI _ (oJ h))
 ·exact gn 5 [2,3,7,8,29,30,31] [0,1] [bF h4] (hE _ (oJ h))
theorem QoO (Γ:Gam) (rv:List Qaf) {p l done choices} {s:List Qaf×Int} {e:List Qaf} (h:loopF (fun s=>Qb5 p l done choices s.1 s.2) s=some e) (hD:Qke Γ rv p l done choices e):QkT Γ rv p l done choices s.1 s.2:=by
 refine QaN (C:=fun (s:List Qaf×Int)=>QkT Γ rv p l done choices s.1 s.2) (D:=fun (e:List Qaf)=>Qke Γ rv p l done choices e) ?_ h hD
 clear h hD s e
 rintro ⟨l2,v⟩ z_ h hI hE
 replace h:Qb5 p l done choices l2 v=_:=h
 unfold Qb5 at h
 rcases Qal h with ⟨h2,h⟩|⟨h2,h⟩
 ·obtain ⟨x0,h3,h⟩:=Qae h
  obtain ⟨e0,h11,h⟩:=Qae h
  refine gn 13 [2,3,7,8,10,29,30,31,35,36,37] [0,1,2] [bT h2,cE Qaf.enc h3,nL Qdt choices] (QoP Γ rv h11 ?_)
  obtain ⟨l4,rfl⟩:∃ x,x=e0:=⟨_,rfl⟩
  replace h:(some (.inl (l4,(addK .i64 v 1))):Option ((List Qaf×Int)⊕(List Qaf)))=some _:=h
  exact gn 3 [2,3,7,8,29,30,31] [0,1] [] (hI _ (oJ h))
 ·exact gn 5 [8] [1] [bF h2] (hE _ (oJ h))
theorem Qkd (Γ:Gam) (rv:List Qaf) {p l done choices} (h:Qet p l done choices=some rv):Qf9 Γ rv ⟨[.c 15],⟨64,[vL 1 7 l Qaf.enc,vI 2 done,vP 3 0 25,vL 7 1 choices Qdt],[oX 25 174 (Qaw.enc p)]⟩⟩:=by
 unfold Qet at h
 obtain ⟨e1,h12,h⟩:=Qae h
 refine gn 7 [2,3,7,8,29,30,31] [0,1] [nL Qaf.enc l,hW 3,hH (.adopt 8 7 178)] (QoO Γ rv h12 ?_)
 obtain ⟨l5,rfl⟩:∃ x,x=e1:=⟨_,rfl⟩
 replace h:(some l5:Option (List Qaf))=some _:=h
 obtain rfl:=Option.some.inj h
 exact gr 2 [] [hW 4,hH (.frz 0),rp 3 (eL l5 Qaf.enc)]
theorem Qqc {p l done} {rv:List Qaf} (h:Qfn p l done=some rv):AFn Tryz.prog 116 [.agg (Qaw.enc p),.one (lL 7 l Qaf.enc),.one (lI done)] [] (one (lL 7 rv Qaf.enc)) []:=by
 refine QaT Tryz.func116 (by kernel_rfl) (by kernel_rfl) (fun Γ=>?_)
 unfold Qfn at h
 rcases Qal h with ⟨h0,h⟩|⟨h0,h⟩
 ·obtain ⟨l1,h1,h⟩:=Qae h
  exact gn 9 [1,2,3,7] [0] [nL Qdt p.r.rests,bT h0,hH (.rows (l1.map Qdt)),oO (sl1 h1),oO (sl2 h1),oO (sl3 Qdt h1),oO (Int.le_refl (addK .i64 done 1)),oO (sl3 Qdt h1),oO (sl6 Qdt h1)] (Qkd Γ rv h)
 ·exact gn 9 [1,2,3,7] [0] [nL Qdt p.r.rests,bF h0,hW 1,hH (.frz 1),rp 2 (oO (Eq.refl ([false,true].map Qdt).length))] (Qkd Γ rv h)
def QnF (Γ:Gam) (rv:Qap×Int) (cf:Cf):Prop:=Go Tryz.prog Tryz.f117 [] Γ (.tup [.agg [.bool rv.1.rest_,lI rv.1.depart,lL 4 rv.1.times Qar.enc,lI rv.1.end_,lI rv.1.miles],.one (lI rv.2)]) [] cf
def Qlv (Γ:Gam) (rv:Qap×Int) (p:Qaw) (rests:List Bool) (r:Qaf) (rest_:Int) (x0:Qaf) (v:Int):Prop:=QnF Γ rv ⟨[.c 116,.l 116,.b 0,.c 15],⟨36,[vP 2 0 25,vP 4 1 5,vP 6 2 7,vL 13 1 rests Qdt,vI 14 (lenI rests),vI 15 v],[oX 25 174 [lL 1 p.x.net.places e_str,lL 6 p.x.net.arcs Qas.enc,lL 14 p.x.types Qaj.enc,lL 16 p.x.orders Qag.enc,lL 2 p.x.apart QaW.enc,lL 2 p.x.before QaW.enc,.str p.t.name,lI p.t.count,lI p.t.from_,lI p.t.to_,lL 1 p.t.cap e_i64,lI p.t.skills,lI p.t.profile,lI p.t.open_,lI p.t.close,lI p.t.drive,lI rest_,lI p.t.fixed,lI p.t.perMile,lI p.t.perTick,lI p.r.type_,lI p.r.start,lL 1 p.r.rests Qdt,lL 2 p.r.visits Qab.enc,lL 4 p.stops Qau.enc],oX 5 101 [.bool false,lI 0,.nils,lI 0,lI 0],oX 7 178 (Qaf.enc x0)]⟩⟩
def QkV (Γ:Gam) (rv:Qap×Int) (p:Qaw) (rests:List Bool) (r:Qaf) (x2:Qaf):Prop:=QnF Γ rv ⟨[.c 15],⟨36,[vP 4 0 5,vP 6 1 7],[oX 5 101 [.bool false,lI 0,.nils,lI 0,lI 0],oX 7 178 (Qaf.enc x2)]⟩⟩
theorem Qpl (Γ:Gam) (rv:Qap×Int) {p rests r} {s:Int×Qaf×Int} {e:(Qaf)⊕(Qap×Int)} (h:loopF (fun s=>Qe4 p rests r s.1 s.2.1 s.2.2) s=some e) (hD:sel e (fun e=>QkV Γ rv p rests r e) (fun e=>e=rv)):Qlv Γ rv p rests r s.1 s.2.1 s.2.2:=by
 refine QaN (C:=fun (s:Int×Qaf×Int)=>Qlv Γ rv p rests r s.1 s.2.1 s.2.2) (D:=fun (e:(Qaf)⊕(Qap×Int))=>sel e (fun e=>QkV Γ rv p rests r e) (fun e=>e=rv)) ?_ h hD
 clear h hD s e
 rintro ⟨rest_,x0,v⟩ z_ h hI hE
 replace h:Qe4 p rests r rest_ x0 v=_:=h
 unfold Qe4 at h
 rcases Qal h with ⟨h1,h⟩|⟨h1,h⟩
 ·obtain ⟨x1,h2,h⟩:=Qae h
  obtain ⟨r1,h3,h⟩:=Qae h
  rcases Qal h with ⟨h4,h⟩|⟨h4,h⟩
  ·obtain rfl:=(hE _ (oJ h):_=rv)
   exact gr 17 [] [bT h1,cE Qdt h2,cC (QfA h3),bT h4,hW 6,hH (.nilB 1 2 4)]
  ·exact gn 20 [2,4,6,13,14,15] [0,1,2] [bT h1,cE Qdt h2,cC (QfA h3),bF h4] (hI _ (oJ h))
 ·exact gn 5 [4,6] [1,2] [bF h1] (hE _ (oJ h))
theorem QqS {p rests} {rv:Qap×Int} (h:QfS p rests=some rv):AFn Tryz.prog 117 [.agg (Qaw.enc p),.one (lL 1 rests Qdt)] [] (.tup [.agg [.bool rv.1.rest_,lI rv.1.depart,lL 4 rv.1.times Qar.enc,lI rv.1.end_,lI rv.1.miles],.one (lI rv.2)]) []:=by
 refine QaT Tryz.func117 (by kernel_rfl) (by kernel_rfl) (fun Γ=>?_)
 unfold QfS at h
 obtain ⟨r,h0,h⟩:=Qae h
 obtain ⟨e0,h5,h⟩:=Qae h
 refine gn 9 [2,4,6,13,14,15] [0,1,2] [cC (Qlu h0),nL Qdt rests] (Qpl Γ rv h5 ?_)
 rcases e0 with e0|e0
 ·obtain ⟨x2,rfl⟩:∃ x,x=e0:=⟨_,rfl⟩
  replace h:(some (x2.sheet,0):Option (Qap×Int))=some _:=h
  obtain rfl:=Option.some.inj h
  exact gr 2 [] []
 ·obtain ⟨r2,rfl⟩:∃ x,x=e0:=⟨_,rfl⟩
  replace h:(some r2:Option (Qap×Int))=some _:=h
  exact Option.some.inj h
def QmK (Γ:Gam) (rv:Qap×Int) (cf:Cf):Prop:=Go Tryz.prog Tryz.f83 [] Γ (.tup [.agg [.bool rv.1.rest_,lI rv.1.depart,lL 4 rv.1.times Qar.enc,lI rv.1.end_,lI rv.1.miles],.one (lI rv.2)]) [] cf
def Qo0 (Γ:Gam) (rv:Qap×Int) (r:Qad) (r1:Qaw×Bool) (l:List Qaf) (v:Int):Prop:=QmK Γ rv ⟨[.c 1012,.l 1012,.b 0,.c 127],⟨82,[vP 3 0 4,vP 4 1 5,vP 6 2 25,vI 8 (addK .i64 (lenI r.visits) 1),vL 9 7 l Qaf.enc,vI 38 (addK .i64 (lenI r.visits) 1),vI 39 v],[oX 4 34 (Qad.enc r),oX 5 101 [.bool false,lI 0,.nils,lI 0,lI 0],oX 25 174 (Qaw.enc r1.1)]⟩⟩
def QnC (Γ:Gam) (rv:Qap×Int) (r:Qad) (r1:Qaw×Bool) (l1:List Qaf):Prop:=QmK Γ rv ⟨[.c 127],⟨82,[vP 3 0 4,vP 4 1 5,vP 6 2 25,vI 8 (addK .i64 (lenI r.visits) 1),vL 9 7 l1 Qaf.enc],[oX 4 34 (Qad.enc r),oX 5 101 [.bool false,lI 0,.nils,lI 0,lI 0],oX 25 174 (Qaw.enc r1.1)]⟩⟩
def Qo1 (Γ:Gam) (rv:Qap×Int) (l3:List Qaf) (x2:Qaf) (v1:Int):Prop:=QmK Γ rv ⟨[.c 8180,.l 8180,.b 2,.c 1023],⟨82,[vP 4 0 5,vP 12 1 7,vL 65 7 l3 Qaf.enc,vI 66 (lenI l3),vI 67 v1],[oX 5 101 [.bool false,lI 0,.nils,lI 0,lI 0],oX 7 178 (Qaf.enc x2)]⟩⟩
def QnD (Γ:Gam) (rv:Qap×Int) (l3:List Qaf) (x4:Qaf):Prop:=QmK Γ rv ⟨[.c 1023],⟨82,[vP 4 0 5,vP 12 1 7],[oX 5 101 [.bool false,lI 0,.nils,lI 0,lI 0],oX 7 178 (Qaf.enc x4)]⟩⟩
theorem Qrl (Γ:Gam) (rv:Qap×Int) {r r1} {s:List Qaf×Int} {e:List Qaf} (h:loopF (fun s=>QdE r r1 s.1 s.2) s=some e) (hD:QnC Γ rv r r1 e):Qo0 Γ rv r r1 s.1 s.2:=by
 refine QaN (C:=fun (s:List Qaf×Int)=>Qo0 Γ rv r r1 s.1 s.2) (D:=fun (e:List Qaf)=>QnC Γ rv r r1 e) ?_ h hD
 clear h hD s e
 rintro ⟨l,v⟩ z_ h hI hE
 replace h:QdE r r1 l v=_:=h
 unfold QdE at h
 rcases Qal h with ⟨h3,h⟩|⟨h3,h⟩
 ·obtain ⟨r3,h4,h⟩:=Qae h
  exact gn 13 [3,4,6,8,9,38,39] [0,1,2] [bT h3,cC (Qqc h4)] (hI _ (oJ h))
 ·exact gn 5 [3,4,6,8,9] [0,1,2] [bF h3] (hE _ (oJ h))
theorem Qrm (Γ:Gam) (rv:Qap×Int) {l3} {s:Qaf×Int} {e:Qaf} (h:loopF (fun s=>Qda l3 s.1 s.2) s=some e) (hD:QnD Γ rv l3 e):Qo1 Γ rv l3 s.1 s.2:=by
 refine QaN (C:=fun (s:Qaf×Int)=>Qo1 Γ rv l3 s.1 s.2) (D:=fun (e:Qaf)=>QnD Γ rv l3 e) ?_ h hD
 clear h hD s e
 rintro ⟨x2,v1⟩ z_ h hI hE
 replace h:Qda l3 x2 v1=_:=h
 unfold Qda at h
 rcases Qal h with ⟨h11,h⟩|⟨h11,h⟩
 ·obtain ⟨x3,h12,h⟩:=Qae h
  rcases Qal h with ⟨h13,h⟩|⟨h13,h⟩
  ·exact gn 16 [4,12,65,66,67] [0,1] [bT h11,cE Qaf.enc h12,bT h13] (hI _ (oJ h))
  ·exact gn 16 [4,12,65,66,67] [0,1] [bT h11,cE Qaf.enc h12,bF h13] (hI _ (oJ h))
 ·exact gn 5 [4,12] [0,1] [bF h11] (hE _ (oJ h))
theorem QqH {x0 r} {rv:Qap×Int} (h:Qmb x0 r=some rv):AFn Tryz.prog 83 [.agg (Qac.enc x0),.agg (Qad.enc r)] [] (.tup [.agg [.bool rv.1.rest_,lI rv.1.depart,lL 4 rv.1.times Qar.enc,lI rv.1.end_,lI rv.1.miles],.one (lI rv.2)]) []:=by
 refine QaT Tryz.func83 (by kernel_rfl) (by kernel_rfl) (fun Γ=>?_)
 unfold Qmb at h
 obtain ⟨r1,h0,h⟩:=Qae h
 rcases Qal h with ⟨h1,h⟩|⟨h1,h⟩
 ·obtain rfl:=Option.some.inj h
  exact gr 12 [] [cC (QqI h0),nL Qab.enc r.visits,hP,hP,hP,rp 2 (oI ((!r1.2)=false)),nL Qdt r.rests,hP,hP,hP,rp 2 (oI ((!r1.2)=false)),oR True ((!r1.2)=false),bT h1,hW 5,hH (.nilB 2 2 4)]
 ·obtain ⟨r2,h2,h⟩:=Qae h
  obtain ⟨e0,h5,h⟩:=Qae h
  refine gn 18 [3,4,6,8,9,38,39] [1,2,3] [cC (QqI h0),nL Qab.enc r.visits,hP,hP,hP,rp 2 (oI ((!r1.2)=false)),nL Qdt r.rests,hP,hP,hP,rp 2 (oI ((!r1.2)=false)),oR True ((!r1.2)=false),bF h1,cC (Qlu h2),hW 9,hH (.frz 4),rp 2 (oO (Eq.refl ([r2].map Qaf.enc).length))] (Qrl Γ rv h5 ?_)
  obtain ⟨l1,rfl⟩:∃ x,x=e0:=⟨_,rfl⟩
  replace h:(br (eqI (lenI l1) 0) (bnd (mkI (addK .i64 (lenI r.visits) 1) (addK .i64 (lenI r.visits) 1) 1 false) fun l2=>bnd (QfS r1.1 (cpyL l2 r.rests)) fun r4=>some (r4.1,r4.2)) (bnd (getI l1 0) fun x1=>bnd (slcI l1 1 (lenI l1)) fun l3=>bnd (loopF (fun s=>Qda l3 s.1 s.2) (x1,0)) (fun x4=>some (x4.sheet,0))):Option (Qap×Int))=some _:=h
  rcases Qal h with ⟨h6,h⟩|⟨h6,h⟩
  ·obtain ⟨l2,h7,h⟩:=Qae h
   obtain ⟨r4,h8,h⟩:=Qae h
   obtain rfl:=Option.some.inj h
   exact gr 10 [] [nL Qaf.enc l1,bT h6,hH (.cells [.bool false]),hH (.rows (l2.map Qdt)),oO (mk1 h7),oO (mk2 h7),oO (mk3 h7),oO (mk4 h7),oO (mk5 Qdt h7),cY Qdt l2 r.rests,hH (.relen 3 ((cpyL l2 r.rests).map Qdt).length),hW 4,hH (.frz 3),rp 3 (oO (QBX Qdt l2 r.rests)),rp 4 (oO (Eq.refl ((cpyL l2 r.rests).map Qdt).length)),cC (QqS h8)]
  ·obtain ⟨x1,h9,h⟩:=Qae h
   obtain ⟨l3,h10,h⟩:=Qae h
   obtain ⟨e1,h14,h⟩:=Qae h
   refine gn 12 [4,12,65,66,67] [1,3] [nL Qaf.enc l1,bF h6,cE Qaf.enc h9,hH (.rows (l3.map Qaf.enc)),oO (sl1 h10),oO (sl2h Qaf.enc h10),rp 3 (oO (Int.le_refl ((l1.map Qaf.enc).length:Int))),oO (sl6h Qaf.enc h10),nL Qaf.enc l3] (Qrm Γ rv h14 ?_)
   obtain ⟨x4,rfl⟩:∃ x,x=e1:=⟨_,rfl⟩
   replace h:(some (x4.sheet,0):Option (Qap×Int))=some _:=h
   obtain rfl:=Option.some.inj h
   exact gr 2 [] []
theorem Qii {kind own} {rv:Bool} (h:QjN kind own=some rv):AFn Tryz.prog 118 [.one (lI kind),.one (lI own)] [] (one (.bool rv)) []:=by
 refine QaT Tryz.func118 (by kernel_rfl) (by kernel_rfl) (fun Γ=>?_)
 unfold QjN at h
 obtain rfl:=Option.some.inj h
 exact gr 4 [] [rp 4 hP,rp 2 (oI ((neI kind (-1))=true)),oR True ((neI kind (-1))=true)]
def Qoi (Γ:Gam) (rv:QaG) (cf:Cf):Prop:=Go Tryz.prog Tryz.f84 [] Γ (gG [lI rv.cost,lI rv.moved,lI rv.other,lI rv.work]) [] cf
def Qlb (Γ:Gam) (rv:QaG) (x0:Qac) (r:Qad) (s0:Qap) (x1:Qaj) (l:List (Int×Int)) (moved:Int) (other:Int) (v:Int):Prop:=Qoi Γ rv ⟨[.c 4084,.l 4084,.b 0,.c 511],⟨114,[vP 3 0 6,vP 4 1 4,vP 6 2 4,vP 10 3 4,(11,one (.mp 4)),vL 59 2 r.visits Qab.enc,vI 60 (lenI r.visits),vI 61 v],[oX 6 30 (Qac.enc x0),oX 4 34 (Qad.enc r),oX 4 93 [lI 0,lI 0,lI 0,lI 0],oX 4 93 [lI (addK .i64 (addK .i64 x1.fixed (mulK .i64 x1.perMile s0.miles)) (mulK .i64 x1.perTick (subK .i64 s0.end_ x1.open_))),lI moved,lI other,lI (mulK .i64 (quoK .i64 (subK .i64 s0.end_ x1.open_) 64) (quoK .i64 (subK .i64 s0.end_ x1.open_) 64))],oM 183 l (mE kI lI)]⟩⟩
def Qj5 (Γ:Gam) (rv:QaG) (x0:Qac) (r:Qad) (s0:Qap) (x1:Qaj) (moved2:Int) (other1:Int):Prop:=Qoi Γ rv ⟨[.c 511],⟨114,[vP 6 0 4,vP 10 1 4],[oX 4 93 [lI 0,lI 0,lI 0,lI 0],oX 4 93 [lI (addK .i64 (addK .i64 x1.fixed (mulK .i64 x1.perMile s0.miles)) (mulK .i64 x1.perTick (subK .i64 s0.end_ x1.open_))),lI moved2,lI other1,lI (mulK .i64 (quoK .i64 (subK .i64 s0.end_ x1.open_) 64) (quoK .i64 (subK .i64 s0.end_ x1.open_) 64))]]⟩⟩
theorem Qnk (Γ:Gam) (rv:QaG) {x0 r s0 x1 l other v x2 x3 moved1} {x:(List (Int×Int)×Int×Int×Int)⊕(Int×Int)} (h:Qih x0 r s0 x1 l other v x2 x3 moved1=some x) (hI:∀ s:List (Int×Int)×Int×Int×Int,x=.inl s→Qlb Γ rv x0 r s0 x1 s.1 s.2.1 s.2.2.1 s.2.2.2) (hE:∀ e:Int×Int,x=.inr e→Qj5 Γ rv x0 r s0 x1 e.1 e.2):Qoi Γ rv ⟨[.c 2091423,.b 1,.c 32679,.l 4084,.b 0,.c 511],⟨114,[vP 3 0 6,vP 4 1 4,vP 6 2 4,vP 10 3 4,(11,one (.mp 4)),vP 14 5 16,vL 59 2 r.visits Qab.enc,vI 60 (lenI r.visits),vI 61 v],[oX 6 30 (Qac.enc x0),oX 4 34 (Qad.enc r),oX 4 93 [lI 0,lI 0,lI 0,lI 0],oX 4 93 [lI (addK .i64 (addK .i64 x1.fixed (mulK .i64 x1.perMile s0.miles)) (mulK .i64 x1.perTick (subK .i64 s0.end_ x1.open_))),lI moved1,lI other,lI (mulK .i64 (quoK .i64 (subK .i64 s0.end_ x1.open_) 64) (quoK .i64 (subK .i64 s0.end_ x1.open_) 64))],oM 183 (mPut eqI l x2.order (addK .i64 (mGet eqI l x2.order 0) 1)) (mE kI lI),oX 16 74 (Qag.enc x3)]⟩⟩:=by
 unfold Qih at h
 obtain ⟨r2,h9,h⟩:=Qae h
 rcases Qal h with ⟨h10,h⟩|⟨h10,h⟩
 ·exact gn 7 [3,4,6,10,11,59,60,61] [0,1,2,3,4] [cC (Qii h9),bT h10] (hI _ (oJ h))
 ·exact gn 7 [3,4,6,10,11,59,60,61] [0,1,2,3,4] [cC (Qii h9),bF h10] (hI _ (oJ h))
theorem Qq1 (Γ:Gam) (rv:QaG) {x0 r s0 x1} {s:List (Int×Int)×Int×Int×Int} {e:Int×Int} (h:loopF (fun s=>QdB x0 r s0 x1 s.1 s.2.1 s.2.2.1 s.2.2.2) s=some e) (hD:Qj5 Γ rv x0 r s0 x1 e.1 e.2):Qlb Γ rv x0 r s0 x1 s.1 s.2.1 s.2.2.1 s.2.2.2:=by
 refine QaN (C:=fun (s:List (Int×Int)×Int×Int×Int)=>Qlb Γ rv x0 r s0 x1 s.1 s.2.1 s.2.2.1 s.2.2.2) (D:=fun (e:Int×Int)=>Qj5 Γ rv x0 r s0 x1 e.1 e.2) ?_ h hD
 clear h hD s e
 rintro ⟨l,moved,other,v⟩ z_ h hI hE
 replace h:QdB x0 r s0 x1 l moved other v=_:=h
 unfold QdB at h
 rcases Qal h with ⟨h2,h⟩|⟨h2,h⟩
 ·obtain ⟨x2,h3,h⟩:=Qae h
  rcases Qal h with ⟨h4,h⟩|⟨h4,h⟩
  ·exact gn 18 [3,4,6,10,11,59,60,61] [0,1,2,3,4] [bT h2,cE Qab.enc h3,mG kqI lI l x2.order 0,mU kqI lI l x2.order (addK .i64 (mGet eqI l x2.order 0) 1),rp 5 hP,rp 3 (oI ((ltI x2.order 0)=false)),nL Qag.enc x0.orders,hP,hP,rp 2 (oI ((ltI x2.order 0)=false)),oR True ((ltI x2.order 0)=false),rp 6 (bT h4),tT] (hI _ (oJ h))
  ·rcases Qal h with ⟨h5,h⟩|⟨h5,h⟩
   ·exact gn 18 [3,4,6,10,11,59,60,61] [0,1,2,3,4] [bT h2,cE Qab.enc h3,mG kqI lI l x2.order 0,mU kqI lI l x2.order (addK .i64 (mGet eqI l x2.order 0) 1),rp 5 hP,rp 3 (oI ((ltI x2.order 0)=false)),nL Qag.enc x0.orders,hP,hP,rp 2 (oI ((ltI x2.order 0)=false)),oR True ((ltI x2.order 0)=false),rp 4 (bF h4),mG kqI lI (mPut eqI l x2.order (addK .i64 (mGet eqI l x2.order 0) 1)) x2.order 0,bF h4,bF h4,bT h5] (hI _ (oJ h))
   ·obtain ⟨x3,h6,h⟩:=Qae h
    obtain ⟨r1,h7,h⟩:=Qae h
    rcases Qal h with ⟨h8,h⟩|⟨h8,h⟩
    ·exact gn 23 [3,4,6,10,11,14,59,60,61] [0,1,2,3,4,6] [bT h2,cE Qab.enc h3,mG kqI lI l x2.order 0,mU kqI lI l x2.order (addK .i64 (mGet eqI l x2.order 0) 1),rp 5 hP,rp 3 (oI ((ltI x2.order 0)=false)),nL Qag.enc x0.orders,hP,hP,rp 2 (oI ((ltI x2.order 0)=false)),oR True ((ltI x2.order 0)=false),rp 4 (bF h4),mG kqI lI (mPut eqI l x2.order (addK .i64 (mGet eqI l x2.order 0) 1)) x2.order 0,bF h4,bF h4,bF h5,cE Qag.enc h6,cC (Qii h7),bT h8] (Qnk Γ rv h hI hE)
    ·exact gn 23 [3,4,6,10,11,14,59,60,61] [0,1,2,3,4,6] [bT h2,cE Qab.enc h3,mG kqI lI l x2.order 0,mU kqI lI l x2.order (addK .i64 (mGet eqI l x2.order 0) 1),rp 5 hP,rp 3 (oI ((ltI x2.order 0)=false)),nL Qag.enc x0.orders,hP,hP,rp 2 (oI ((ltI x2.order 0)=false)),oR True ((ltI x2.order 0)=false),rp 4 (bF h4),mG kqI lI (mPut eqI l x2.order (addK .i64 (mGet eqI l x2.order 0) 1)) x2.order 0,bF h4,bF h4,bF h5,cE Qag.enc h6,cC (Qii h7),bF h8] (Qnk Γ rv h hI hE)
 ·exact gn 5 [6,10] [2,3] [bF h2] (hE _ (oJ h))
theorem Qs3 {x0 r s0} {rv:QaG} (h:Qmx x0 r s0=some rv):AFn Tryz.prog 84 [.agg (Qac.enc x0),.agg (Qad.enc r),.agg (Qap.enc s0)] [] (gG [lI rv.cost,lI rv.moved,lI rv.other,lI rv.work]) []:=by
 refine QaT Tryz.func84 (by kernel_rfl) (by kernel_rfl) (fun Γ=>?_)
 unfold Qmx at h
 rcases Qal h with ⟨h0,h⟩|⟨h0,h⟩
 ·obtain rfl:=Option.some.inj h
  exact gr 8 [] [rp 5 hP,rp 3 (oI ((ltI r.type_ 0)=false)),nL Qaj.enc x0.types,hP,hP,rp 2 (oI ((ltI r.type_ 0)=false)),oR True ((ltI r.type_ 0)=false),bT h0]
 ·obtain ⟨x1,h1,h⟩:=Qae h
  obtain ⟨e0,h11,h⟩:=Qae h
  refine gn 22 [3,4,6,10,11,59,60,61] [0,1,3,5,6] [rp 5 hP,rp 3 (oI ((ltI r.type_ 0)=false)),nL Qaj.enc x0.types,hP,hP,rp 2 (oI ((ltI r.type_ 0)=false)),oR True ((ltI r.type_ 0)=false),bF h0,cE Qaj.enc h1,oO (oA (n:=64)),nL Qab.enc r.visits] (Qq1 Γ rv h11 ?_)
  obtain ⟨moved2,other1⟩:=e0
  replace h:(some (QaG.mk (addK .i64 (addK .i64 x1.fixed (mulK .i64 x1.perMile s0.miles)) (mulK .i64 x1.perTick (subK .i64 s0.end_ x1.open_))) moved2 other1 (mulK .i64 (quoK .i64 (subK .i64 s0.end_ x1.open_) 64) (quoK .i64 (subK .i64 s0.end_ x1.open_) 64))):Option QaG)=some _:=h
  obtain rfl:=Option.some.inj h
  exact gr 2 [] []
theorem Qj6 {x0 r} {rv:Qap×QaG×Int} (h:Qfk x0 r=some rv):AFn Tryz.prog 48 [.agg (Qac.enc x0),.agg (Qad.enc r)] [] (.tup [.agg [.bool rv.1.rest_,lI rv.1.depart,lL 4 rv.1.times Qar.enc,lI rv.1.end_,lI rv.1.miles],.agg [lI rv.2.1.cost,lI rv.2.1.moved,lI rv.2.1.other,lI rv.2.1.work],.one (lI rv.2.2)]) []:=by
 refine QaT Tryz.func48 (by kernel_rfl) (by kernel_rfl) (fun Γ=>?_)
 unfold Qfk at h
 rcases Qal h with ⟨h0,h⟩|⟨h0,h⟩
 ·obtain rfl:=Option.some.inj h
  exact gr 8 [] [rp 5 hP,rp 3 (oI ((ltI r.type_ 0)=false)),nL Qaj.enc x0.types,hP,hP,rp 2 (oI ((ltI r.type_ 0)=false)),oR True ((ltI r.type_ 0)=false),bT h0,hW 7,hH (.nilB 2 2 4)]
 ·obtain ⟨r1,h1,h⟩:=Qae h
  rcases Qal h with ⟨h2,h⟩|⟨h2,h⟩
  ·obtain rfl:=Option.some.inj h
   exact gr 28 [] [rp 5 hP,rp 3 (oI ((ltI r.type_ 0)=false)),nL Qaj.enc x0.types,hP,hP,rp 2 (oI ((ltI r.type_ 0)=false)),oR True ((ltI r.type_ 0)=false),bF h0,nL e_fn [80,81,82],tT,oO (getLo (rfl:getI ([80,81,82]:List Nat) 0=some 80)),oO (getHi e_fn (rfl:getI ([80,81,82]:List Nat) 0=some 80)),rE e_fn (rfl:getI ([80,81,82]:List Nat) 0=some 80),cC (Qdc h1),bT h2,hW 8,hH (.nilB 2 2 4)]
  ·obtain ⟨r2,h3,h⟩:=Qae h
   rcases Qal h with ⟨h4,h⟩|⟨h4,h⟩
   ·obtain rfl:=Option.some.inj h
    exact gr 46 [] [rp 5 hP,rp 3 (oI ((ltI r.type_ 0)=false)),nL Qaj.enc x0.types,hP,hP,rp 2 (oI ((ltI r.type_ 0)=false)),oR True ((ltI r.type_ 0)=false),bF h0,nL e_fn [80,81,82],tT,oO (getLo (rfl:getI ([80,81,82]:List Nat) 0=some 80)),oO (getHi e_fn (rfl:getI ([80,81,82]:List Nat) 0=some 80)),rE e_fn (rfl:getI ([80,81,82]:List Nat) 0=some 80),cC (Qdc h1),bF h2,tT,oO (getLo (rfl:getI ([80,81,82]:List Nat) 1=some 81)),oO (getHi e_fn (rfl:getI ([80,81,82]:List Nat) 1=some 81)),rE e_fn (rfl:getI ([80,81,82]:List Nat) 1=some 81),cC (QlI h3),bT h4,hW 8,hH (.nilB 2 2 4)]
   ·obtain ⟨r3,h5,h⟩:=Qae h
    rcases Qal h with ⟨h6,h⟩|⟨h6,h⟩
    ·obtain rfl:=Option.some.inj h
     exact gr 64 [] [rp 5 hP,rp 3 (oI ((ltI r.type_ 0)=false)),nL Qaj.enc x0.types,hP,hP,rp 2 (oI ((ltI r.type_ 0)=false)),oR True ((ltI r.type_ 0)=false),bF h0,nL e_fn [80,81,82],tT,oO (getLo (rfl:getI ([80,81,82]:List Nat) 0=some 80)),oO (getHi e_fn (rfl:getI ([80,81,82]:List Nat) 0=some 80)),rE e_fn (rfl:getI ([80,81,82]:List Nat) 0=some 80),cC (Qdc h1),bF h2,tT,oO (getLo (rfl:getI ([80,81,82]:List Nat) 1=some 81)),oO (getHi e_fn (rfl:getI ([80,81,82]:List Nat) 1=some 81)),rE e_fn (rfl:getI ([80,81,82]:List Nat) 1=some 81),cC (QlI h3),bF h4,tT,oO (getLo (rfl:getI ([80,81,82]:List Nat) 2=some 82)),oO (getHi e_fn (rfl:getI ([80,81,82]:List Nat) 2=some 82)),rE e_fn (rfl:getI ([80,81,82]:List Nat) 2=some 82),cC (Qny h5),bT h6,hW 8,hH (.nilB 2 2 4)]
    ·obtain ⟨r4,h7,h⟩:=Qae h
     rcases Qal h with ⟨h8,h⟩|⟨h8,h⟩
     ·obtain rfl:=Option.some.inj h
      exact gr 79 [] [rp 5 hP,rp 3 (oI ((ltI r.type_ 0)=false)),nL Qaj.enc x0.types,hP,hP,rp 2 (oI ((ltI r.type_ 0)=false)),oR True ((ltI r.type_ 0)=false),bF h0,nL e_fn [80,81,82],tT,oO (getLo (rfl:getI ([80,81,82]:List Nat) 0=some 80)),oO (getHi e_fn (rfl:getI ([80,81,82]:List Nat) 0=some 80)),rE e_fn (rfl:getI ([80,81,82]:List Nat) 0=some 80),cC (Qdc h1),bF h2,tT,oO (getLo (rfl:getI ([80,81,82]:List Nat) 1=some 81)),oO (getHi e_fn (rfl:getI ([80,81,82]:List Nat) 1=some 81)),rE e_fn (rfl:getI ([80,81,82]:List Nat) 1=some 81),cC (QlI h3),bF h4,tT,oO (getLo (rfl:getI ([80,81,82]:List Nat) 2=some 82)),oO (getHi e_fn (rfl:getI ([80,81,82]:List Nat) 2=some 82)),rE e_fn (rfl:getI ([80,81,82]:List Nat) 2=some 82),cC (Qny h5),bF h6,fF,cC (QqH h7),bT h8,hW 8,hH (.nilB 2 2 4)]
     ·obtain ⟨r5,h9,h⟩:=Qae h
      obtain rfl:=Option.some.inj h
      exact gr 80 [] [rp 5 hP,rp 3 (oI ((ltI r.type_ 0)=false)),nL Qaj.enc x0.types,hP,hP,rp 2 (oI ((ltI r.type_ 0)=false)),oR True ((ltI r.type_ 0)=false),bF h0,nL e_fn [80,81,82],tT,oO (getLo (rfl:getI ([80,81,82]:List Nat) 0=some 80)),oO (getHi e_fn (rfl:getI ([80,81,82]:List Nat) 0=some 80)),rE e_fn (rfl:getI ([80,81,82]:List Nat) 0=some 80),cC (Qdc h1),bF h2,tT,oO (getLo (rfl:getI ([80,81,82]:List Nat) 1=some 81)),oO (getHi e_fn (rfl:getI ([80,81,82]:List Nat) 1=some 81)),rE e_fn (rfl:getI ([80,81,82]:List Nat) 1=some 81),cC (QlI h3),bF h4,tT,oO (getLo (rfl:getI ([80,81,82]:List Nat) 2=some 82)),oO (getHi e_fn (rfl:getI ([80,81,82]:List Nat) 2=some 82)),rE e_fn (rfl:getI ([80,81,82]:List Nat) 2=some 82),cC (Qny h5),bF h6,fF,cC (QqH h7),bF h8,hH (.draw 5 []),cC (Qs3 h9)]
theorem Qg1 {s0} {rv:QvN} (h:Qmy s0=some rv):AFn Tryz.prog 85 [.agg (QaG.enc s0)] [] (gG [lI rv.x0,lI rv.x1,lI rv.x2,lI rv.x3]) []:=by
 refine QaT Tryz.func85 (by kernel_rfl) (by kernel_rfl) (fun Γ=>?_)
 unfold Qmy at h
 obtain rfl:=Option.some.inj h
 exact gr 4 [] []
theorem Qpb {s0} {rv:Int×Int} (h:QeS s0=some rv):AFn Tryz.prog 49 [.agg (QaG.enc s0)] [] (.tup [.one (lI rv.1),.one (lI rv.2)]) []:=by
 refine QaT Tryz.func49 (by kernel_rfl) (by kernel_rfl) (fun Γ=>?_)
 unfold QeS at h
 obtain ⟨r,h0,h⟩:=Qae h
 rcases Qal h with ⟨h1,h⟩|⟨h1,h⟩
 ·obtain rfl:=Option.some.inj h
  exact gr 23 [] [cC (Qg1 h0),tT,oO (zL 0),oO (lT 0 4),bT h1]
 ·rcases Qal h with ⟨h2,h⟩|⟨h2,h⟩
  ·obtain rfl:=Option.some.inj h
   exact gr 39 [] [cC (Qg1 h0),tT,oO (zL 0),oO (lT 0 4),bF h1,tT,oO (zL 1),oO (lT 1 4),bT h2]
  ·rcases Qal h with ⟨h3,h⟩|⟨h3,h⟩
   ·obtain rfl:=Option.some.inj h
    exact gr 55 [] [cC (Qg1 h0),tT,oO (zL 0),oO (lT 0 4),bF h1,tT,oO (zL 1),oO (lT 1 4),bF h2,tT,oO (zL 2),oO (lT 2 4),bT h3]
   ·rcases Qal h with ⟨h4,h⟩|⟨h4,h⟩
    ·obtain rfl:=Option.some.inj h
     exact gr 71 [] [cC (Qg1 h0),tT,oO (zL 0),oO (lT 0 4),bF h1,tT,oO (zL 1),oO (lT 1 4),bF h2,tT,oO (zL 2),oO (lT 2 4),bF h3,tT,oO (zL 3),oO (lT 3 4),bT h4]
    ·rcases Qal h with ⟨h5,h⟩|⟨h5,h⟩
     ·obtain rfl:=Option.some.inj h
      exact gr 84 [] [cC (Qg1 h0),tT,oO (zL 0),oO (lT 0 4),bF h1,tT,oO (zL 1),oO (lT 1 4),bF h2,tT,oO (zL 2),oO (lT 2 4),bF h3,tT,oO (zL 3),oO (lT 3 4),bF h4,fF,rp 12 hP,rp 2 (oI ((gtI s0.cost 1073741824)=false)),oR True ((gtI s0.cost 1073741824)=false),rp 2 (oI (((gtI s0.cost 1073741824)||(geI s0.moved 16))=false)),oR True (((gtI s0.cost 1073741824)||(geI s0.moved 16))=false),rp 2 (oI ((((gtI s0.cost 1073741824)||(geI s0.moved 16))||(geI s0.other 16))=false)),oR True ((((gtI s0.cost 1073741824)||(geI s0.moved 16))||(geI s0.other 16))=false),bT h5]
     ·obtain rfl:=Option.some.inj h
      exact gr 85 [] [cC (Qg1 h0),tT,oO (zL 0),oO (lT 0 4),bF h1,tT,oO (zL 1),oO (lT 1 4),bF h2,tT,oO (zL 2),oO (lT 2 4),bF h3,tT,oO (zL 3),oO (lT 3 4),bF h4,fF,rp 12 hP,rp 2 (oI ((gtI s0.cost 1073741824)=false)),oR True ((gtI s0.cost 1073741824)=false),rp 2 (oI (((gtI s0.cost 1073741824)||(geI s0.moved 16))=false)),oR True (((gtI s0.cost 1073741824)||(geI s0.moved 16))=false),rp 2 (oI ((((gtI s0.cost 1073741824)||(geI s0.moved 16))||(geI s0.other 16))=false)),oR True ((((gtI s0.cost 1073741824)||(geI s0.moved 16))||(geI s0.other 16))=false),bF h5]
theorem Qf3 {x0 r} {rv:Int×Int} (h:QfM x0 r=some rv):AFn Tryz.prog 17 [.agg (Qac.enc x0),.agg (Qad.enc r)] [] (.tup [.one (lI rv.1),.one (lI rv.2)]) []:=by
 refine QaT Tryz.func17 (by kernel_rfl) (by kernel_rfl) (fun Γ=>?_)
 unfold QfM at h
 obtain ⟨r1,h0,h⟩:=Qae h
 rcases Qal h with ⟨h1,h⟩|⟨h1,h⟩
 ·obtain rfl:=Option.some.inj h
  exact gr 10 [] [cC (Qj6 h0),bT h1]
 ·obtain ⟨r2,h2,h⟩:=Qae h
  obtain rfl:=Option.some.inj h
  exact gr 11 [] [cC (Qj6 h0),bF h1,cC (Qpb h2)]
theorem QeJ {x0 order} {rv:Int} (h:QhE x0 order=some rv):AFn Tryz.prog 25 [.agg (Qac.enc x0),.one (lI order)] [] (one (lI rv)) []:=by
 refine QaT Tryz.func25 (by kernel_rfl) (by kernel_rfl) (fun Γ=>?_)
 unfold QhE at h
 rcases Qal h with ⟨h0,h⟩|⟨h0,h⟩
 ·obtain rfl:=Option.some.inj h
  exact gr 9 [] [rp 4 hP,rp 2 (oI ((ltI order 0)=false)),nL Qag.enc x0.orders,hP,hP,rp 2 (oI ((ltI order 0)=false)),oR True ((ltI order 0)=false),bT h0]
 ·obtain ⟨x1,h1,h⟩:=Qae h
  rcases Qal h with ⟨h2,h⟩|⟨h2,h⟩
  ·obtain rfl:=Option.some.inj h
   exact gr 12 [] [rp 4 hP,rp 2 (oI ((ltI order 0)=false)),nL Qag.enc x0.orders,hP,hP,rp 2 (oI ((ltI order 0)=false)),oR True ((ltI order 0)=false),bF h0,cE Qag.enc h1,bT h2]
  ·obtain rfl:=Option.some.inj h
   exact gr 14 [] [rp 4 hP,rp 2 (oI ((ltI order 0)=false)),nL Qag.enc x0.orders,hP,hP,rp 2 (oI ((ltI order 0)=false)),oR True ((ltI order 0)=false),bF h0,cE Qag.enc h1,bF h2]
theorem Qmj {v c} {rv:Bool} (h:QiZ v c=some rv):AFn Tryz.prog 64 [.agg (Qab.enc v),.one (.ip [lI c] 0)] [] (one (.bool rv)) []:=by
 refine QaT Tryz.func64 (by kernel_rfl) (by kernel_rfl) (fun Γ=>?_)
 unfold QiZ at h
 obtain rfl:=Option.some.inj h
 exact gr 4 [] []
def QcB (Γ:Gam) (rv:Int) (cf:Cf):Prop:=Go Tryz.prog Tryz.f94 [] Γ (one (lI rv)) [] cf
def Qcl (Γ:Gam) (rv:Int) (s0:List Qab) (c:Int) (v:Int):Prop:=QcB Γ rv ⟨[.c 52,.l 52,.b 0,.c 7],⟨19,[vL 0 2 s0 Qab.enc,(1,one (.fn (.func 64) [.ip [lI c] 0])),vI 7 (lenI s0),vI 8 v],[]⟩⟩
def Qcf (Γ:Gam) (rv:Int) (s0:List Qab) (c:Int):Prop:=QcB Γ rv ⟨[.c 7],⟨19,[],[]⟩⟩
theorem Qen (Γ:Gam) (rv:Int) {s0 c} {s:Int} {e:(Unit)⊕(Int)} (h:loopF (fun s=>QaP s0 c s) s=some e) (hD:sel e (fun e=>Qcf Γ rv s0 c) (fun e=>e=rv)):Qcl Γ rv s0 c s:=by
 refine QaN (C:=fun (s:Int)=>Qcl Γ rv s0 c s) (D:=fun (e:(Unit)⊕(Int))=>sel e (fun e=>Qcf Γ rv s0 c) (fun e=>e=rv)) ?_ h hD
 clear h hD s e
 intro v z_ h hI hE
 replace h:QaP s0 c v=_:=h
 unfold QaP at h
 rcases Qal h with ⟨h0,h⟩|⟨h0,h⟩
 ·obtain ⟨x0,h1,h⟩:=Qae h
  obtain ⟨r,h2,h⟩:=Qae h
  rcases Qal h with ⟨h3,h⟩|⟨h3,h⟩
  ·obtain rfl:=(hE _ (oJ h):_=rv)
   exact gr 14 [] [bT h0,cE Qab.enc h1,cC (Qmj h2),bT h3]
  ·exact gn 16 [0,1,7,8] [] [bT h0,cE Qab.enc h1,cC (Qmj h2),bF h3] (hI _ (oJ h))
 ·exact gn 5 [] [] [bF h0] (hE _ (oJ h))
theorem QeZ {s0 c} {rv:Int} (h:Qbm s0 c=some rv):AFn Tryz.prog 94 [.one (lL 2 s0 Qab.enc),.one (.fn (.func 64) [.ip [lI c] 0])] [] (one (lI rv)) []:=by
 refine QaT Tryz.func94 (by kernel_rfl) (by kernel_rfl) (fun Γ=>?_)
 unfold Qbm at h
 obtain ⟨e0,h4,h⟩:=Qae h
 refine gn 7 [0,1,7,8] [] [nL Qab.enc s0] (Qen Γ rv h4 ?_)
 rcases e0 with e0|e0
 ·replace h:(some (-1):Option Int)=some _:=h
  obtain rfl:=Option.some.inj h
  exact gr 2 [] []
 ·obtain ⟨r1,rfl⟩:∃ x,x=e0:=⟨_,rfl⟩
  replace h:(some r1:Option Int)=some _:=h
  exact Option.some.inj h
theorem Qek {s0 c} {rv:Bool} (h:Qbb s0 c=some rv):AFn Tryz.prog 63 [.one (lL 2 s0 Qab.enc),.one (.fn (.func 64) [.ip [lI c] 0])] [] (one (.bool rv)) []:=by
 refine QaT Tryz.func63 (by kernel_rfl) (by kernel_rfl) (fun Γ=>?_)
 unfold Qbb at h
 obtain ⟨r,h0,h⟩:=Qae h
 obtain rfl:=Option.some.inj h
 exact gr 4 [] [cC (QeZ h0)]
theorem QkX {r order} {rv:Bool} (h:QhI r order=some rv):AFn Tryz.prog 26 [.agg (Qad.enc r),.one (lI order)] [] (one (.bool rv)) []:=by
 refine QaT Tryz.func26 (by kernel_rfl) (by kernel_rfl) (fun Γ=>?_)
 unfold QhI at h
 obtain ⟨r1,h0,h⟩:=Qae h
 obtain rfl:=Option.some.inj h
 exact gr 4 [] [cC (Qek h0)]
theorem Qgk {s0} {rv:List Qab} (h:Qbs s0=some rv):AFn Tryz.prog 66 [.one (lL 2 s0 Qab.enc)] [] (one (lO 0 2 rv Qab.enc)) [oS 2 52 rv Qab.enc]:=by
 refine QaT Tryz.func66 (by kernel_rfl) (by kernel_rfl) (fun Γ=>?_)
 unfold Qbs at h
 rcases Qal h with ⟨h0,h⟩|⟨h0,h⟩
 ·obtain ⟨hx,h⟩:=Qt8 h
  refine gn 5 [0,4] [] [hH (.skip)] (cf':=⟨[.c 13,.c 7],⟨8,[vL 0 2 s0 Qab.enc,(4,.boo)],[]⟩⟩) (go_amb 4 rfl ?_ ?_)
  ·replace h:=hx
   obtain rfl:=Option.some.inj h
   exact gr 3 [0] [tT,hW 3,hH (.adopt 2 2 52)]
  ·obtain ⟨h1,h⟩:=Qax h
   obtain rfl:=Option.some.inj h
   exact gr 4 [0] [fF,aZ Qab.enc h1]
 ·obtain ⟨h2,h⟩:=Qax h
  obtain rfl:=Option.some.inj h
  exact gr 9 [0] [oO (neE Qab.enc h0),fF,hH (.bit false),aZ Qab.enc h2]
def Qo3 (Γ:Gam) (rv:List (List Qab)) (cf:Cf):Prop:=Go Tryz.prog Tryz.f27 [] Γ (one (lL 1 rv es_T_api_Visit.enc)) [] cf
def Qmh (Γ:Gam) (rv:List (List Qab)) (self:(List Qab)→(List Qab)→Int→Option (List (List Qab))) (l:List Qab) (more:List Qab) (l1:List (List Qab)) (at_:Int):Prop:=Qo3 Γ rv ⟨[.c 244,.l 244,.b 0,.c 31],⟨37,[vL 0 2 l Qab.enc,vL 1 2 more Qab.enc,vO 7 0 1 l1 es_T_api_Visit.enc,vI 8 at_],[oS 1 32 l1 es_T_api_Visit.enc]⟩⟩
def QlA (Γ:Gam) (rv:List (List Qab)) (self:(List Qab)→(List Qab)→Int→Option (List (List Qab))) (l:List Qab) (more:List Qab) (l3:List (List Qab)):Prop:=Qo3 Γ rv ⟨[.c 31],⟨37,[vO 7 0 1 l3 es_T_api_Visit.enc],[oS 1 32 l3 es_T_api_Visit.enc]⟩⟩
theorem QpK (Γ:Gam) (rv:List (List Qab)) {self:(List Qab)→(List Qab)→Int→Option (List (List Qab))} (hself:∀ {l:List Qab} {more:List Qab} {from_:Int} {rv:List (List Qab)},self l more from_=some rv→AFn Tryz.prog 27 [.one (lL 2 l Qab.enc),.one (lL 2 more Qab.enc),.one (lI from_)] [] (one (lL 1 rv es_T_api_Visit.enc)) []) {l more} {s:List (List Qab)×Int} {e:List (List Qab)} (h:loopF (fun s=>QdG self l more s.1 s.2) s=some e) (hD:QlA Γ rv self l more e):Qmh Γ rv self l more s.1 s.2:=by
 refine QaN (C:=fun (s:List (List Qab)×Int)=>Qmh Γ rv self l more s.1 s.2) (D:=fun (e:List (List Qab))=>QlA Γ rv self l more e) ?_ h hD
 clear h hD s e
 rintro ⟨l1,at_⟩ z_ h hI hE
 replace h:QdG self l more l1 at_=_:=h
 unfold QdG at h
 rcases Qal h with ⟨h1,h⟩|⟨h1,h⟩
 ·obtain ⟨r,h2,h⟩:=Qae h
  obtain ⟨x0,h3,h⟩:=Qae h
  obtain ⟨r1,h4,h⟩:=Qae h
  obtain ⟨l2,h5,h⟩:=Qae h
  obtain ⟨r2,h6,h⟩:=Qae h
  obtain ⟨h7,h⟩:=Qax h
  exact gn 11 [0,1,7,8] [3] [nL Qab.enc l,bT h1,hH (.draw 14 [(1,8),(2,8)]),cC (Qgk h2),cE Qab.enc h3,cI [1,2] (QyC (enc:=Qab.enc) (fun _=>rfl) h4),hH (.rows (l2.map Qab.enc)),oO (sl1 h5),oO (sl2h Qab.enc h5),rp 3 (oO (Int.le_refl ((more.map Qab.enc).length:Int))),oO (sl6h Qab.enc h5),cC (hself h6),aO es_T_api_Visit.enc h7] (hI _ (oJ h))
 ·exact gn 5 [7] [0] [nL Qab.enc l,bF h1] (hE _ (oJ h))
theorem Qqf {self:(List Qab)→(List Qab)→Int→Option (List (List Qab))} (hself:∀ {l:List Qab} {more:List Qab} {from_:Int} {rv:List (List Qab)},self l more from_=some rv→AFn Tryz.prog 27 [.one (lL 2 l Qab.enc),.one (lL 2 more Qab.enc),.one (lI from_)] [] (one (lL 1 rv es_T_api_Visit.enc)) []) {l more from_} {rv:List (List Qab)} (h:Qfo self l more from_=some rv):AFn Tryz.prog 27 [.one (lL 2 l Qab.enc),.one (lL 2 more Qab.enc),.one (lI from_)] [] (one (lL 1 rv es_T_api_Visit.enc)) []:=by
 refine QaT Tryz.func27 (by kernel_rfl) (by kernel_rfl) (fun Γ=>?_)
 unfold Qfo at h
 rcases Qal h with ⟨h0,h⟩|⟨h0,h⟩
 ·obtain rfl:=Option.some.inj h
  exact gr 8 [] [nL Qab.enc more,bT h0,hW 5,hH (.frz 0),rp 2 (oO (Eq.refl ([l].map es_T_api_Visit.enc).length))]
 ·obtain ⟨e0,h8,h⟩:=Qae h
  refine gn 14 [0,1,7,8] [0] [nL Qab.enc more,bF h0,hW 11,hH (.adopt 7 1 32)] (QpK Γ rv hself h8 ?_)
  obtain ⟨l3,rfl⟩:∃ x,x=e0:=⟨_,rfl⟩
  replace h:(some l3:Option (List (List Qab)))=some _:=h
  obtain rfl:=Option.some.inj h
  exact gr 2 [] [hW 4,hH (.frz 0),rp 3 (eL l3 es_T_api_Visit.enc)]
theorem Qm8:∀ n,∀ {l:List Qab} {more:List Qab} {from_:Int} {rv:List (List Qab)},Qep n l more from_=some rv→AFn Tryz.prog 27 [.one (lL 2 l Qab.enc),.one (lL 2 more Qab.enc),.one (lI from_)] [] (one (lL 1 rv es_T_api_Visit.enc)) []
 | 0=>fun h=>nomatch h
 | n+1=>fun h=>Qqf (Qm8 n) h
theorem Qrv:∀ {l:List Qab} {more:List Qab} {from_:Int} {rv:List (List Qab)},Qlz l more from_=some rv→AFn Tryz.prog 27 [.one (lL 2 l Qab.enc),.one (lL 2 more Qab.enc),.one (lI from_)] [] (one (lL 1 rv es_T_api_Visit.enc)) []:=Qm8 _
theorem Qkx {v} {rv:Int} (h:QeE v=some rv):AFn Tryz.prog 97 [.agg (Qab.enc v)] [] (one (lI rv)) []:=by
 refine QaT Tryz.func97 (by kernel_rfl) (by kernel_rfl) (fun Γ=>?_)
 unfold QeE at h
 rcases Qal h with ⟨h0,h⟩|⟨h0,h⟩
 ·obtain rfl:=Option.some.inj h
  exact gr 8 [] [bT h0]
 ·obtain rfl:=Option.some.inj h
  exact gr 9 [] [bF h0]
def QqF (Γ:Gam) (rv:Int) (cf:Cf):Prop:=Go Tryz.prog Tryz.f98 [] Γ (one (lI rv)) [] cf
def QnB (Γ:Gam) (rv:Int) (vals:List Int) (v:Int):Prop:=QqF Γ rv ⟨[.c 116,.l 116,.b 0,.c 15],⟨18,[vI 3 0,vL 6 1 vals e_i64,vI 7 (lenI vals),vI 8 v],[]⟩⟩
def Qm2 (Γ:Gam) (rv:Int) (vals:List Int):Prop:=QqF Γ rv ⟨[.c 15],⟨18,[vI 3 0],[]⟩⟩
theorem QqR (Γ:Gam) (rv:Int) {vals} {s:Int} {e:(Unit)⊕(Int)} (h:loopF (fun s=>Qds vals s) s=some e) (hD:sel e (fun e=>Qm2 Γ rv vals) (fun e=>e=rv)):QnB Γ rv vals s:=by
 refine QaN (C:=fun (s:Int)=>QnB Γ rv vals s) (D:=fun (e:(Unit)⊕(Int))=>sel e (fun e=>Qm2 Γ rv vals) (fun e=>e=rv)) ?_ h hD
 clear h hD s e
 intro v z_ h hI hE
 replace h:Qds vals v=_:=h
 unfold Qds at h
 rcases Qal h with ⟨h0,h⟩|⟨h0,h⟩
 ·obtain ⟨x0,h1,h⟩:=Qae h
  rcases Qal h with ⟨h2,h⟩|⟨h2,h⟩
  ·obtain rfl:=(hE _ (oJ h):_=rv)
   exact gr 14 [] [bT h0,cE e_i64 h1,bT h2]
  ·exact gn 16 [3,6,7,8] [] [bT h0,cE e_i64 h1,bF h2] (hI _ (oJ h))
 ·exact gn 5 [3] [] [bF h0] (hE _ (oJ h))
theorem QsI {vals} {rv:Int} (h:Ql9 vals=some rv):AFn Tryz.prog 98 [.one (lL 1 vals e_i64)] [] (one (lI rv)) []:=by
 refine QaT Tryz.func98 (by kernel_rfl) (by kernel_rfl) (fun Γ=>?_)
 unfold Ql9 at h
 obtain ⟨e0,h3,h⟩:=Qae h
 refine gn 9 [3,6,7,8] [] [nL e_i64 vals] (QqR Γ rv h3 ?_)
 rcases e0 with e0|e0
 ·replace h:(some 0:Option Int)=some _:=h
  obtain rfl:=Option.some.inj h
  exact gr 2 [] []
 ·obtain ⟨r,rfl⟩:∃ x,x=e0:=⟨_,rfl⟩
  replace h:(some r:Option Int)=some _:=h
  exact Option.some.inj h
theorem QbT {x0} {rv:Bool} (h:QhZ x0=some rv):AFn Tryz.prog 128 [.one (lI x0)] [] (one (.bool rv)) []:=by
 refine QaT Tryz.func128 (by kernel_rfl) (by kernel_rfl) (fun Γ=>?_)
 unfold QhZ at h
 obtain rfl:=Option.some.inj h
 exact gr 4 [] []
theorem Qlt {x0 y} {rv:Int} (h:Qfz x0 y=some rv):AFn Tryz.prog 99 [.one (lI x0),.one (lI y)] [] (one (lI rv)) []:=by
 refine QaT Tryz.func99 (by kernel_rfl) (by kernel_rfl) (fun Γ=>?_)
 unfold Qfz at h
 obtain ⟨r,h0,h⟩:=Qae h
 obtain ⟨r1,h1,h⟩:=Qae h
 rcases Qal h with ⟨h2,h⟩|⟨h2,h⟩
 ·rcases Qal h with ⟨h3,h⟩|⟨h3,h⟩
  ·obtain rfl:=Option.some.inj h
   exact gr 16 [] [cC (QbT h0),cC (QbT h1),bT h2,bT h3]
  ·obtain rfl:=Option.some.inj h
   exact gr 17 [] [cC (QbT h0),cC (QbT h1),bT h2,bF h3]
 ·rcases Qal h with ⟨h4,h⟩|⟨h4,h⟩
  ·obtain rfl:=Option.some.inj h
   exact gr 17 [] [cC (QbT h0),cC (QbT h1),bF h2,bT h4]
  ·rcases Qal h with ⟨h5,h⟩|⟨h5,h⟩
   ·obtain rfl:=Option.some.inj h
    exact gr 22 [] [cC (QbT h0),cC (QbT h1),bF h2,bF h4,bT h5]
   ·rcases Qal h with ⟨h6,h⟩|⟨h6,h⟩
    ·obtain rfl:=Option.some.inj h
     exact gr 27 [] [cC (QbT h0),cC (QbT h1),bF h2,bF h4,bF h5,bT h6]
    ·obtain rfl:=Option.some.inj h
     exact gr 28 [] [cC (QbT h0),cC (QbT h1),bF h2,bF h4,bF h5,bF h6]
theorem QlR {a b} {rv:Int} (h:QgR a b=some rv):AFn Tryz.prog 68 [.agg (Qab.enc a),.agg (Qab.enc b)] [] (one (lI rv)) []:=by
 refine QaT Tryz.func68 (by kernel_rfl) (by kernel_rfl) (fun Γ=>?_)
 unfold QgR at h
 obtain ⟨r,h0,h⟩:=Qae h
 obtain ⟨r1,h1,h⟩:=Qae h
 obtain ⟨r2,h2,h⟩:=Qae h
 obtain ⟨r3,h3,h⟩:=Qae h
 obtain ⟨r4,h4,h⟩:=Qae h
 obtain rfl:=Option.some.inj h
 exact gr 6 [] [hH (.draw 15 []),cC (Qlt h0),cC (Qkx h1),cC (Qkx h2),cC (Qlt h3),oO (Eq.refl ([r,r3].map e_i64).length),cC (QsI h4)]
def Qbt (Γ:Gam) (rv:Int) (cf:Cf):Prop:=Go Tryz.prog Tryz.f67 [] Γ (one (lI rv)) [] cf
def Qbp (Γ:Gam) (rv:Int) (s1:List Qab) (s2:List Qab) (v:Int):Prop:=Qbt Γ rv ⟨[.c 52,.l 52,.b 0,.c 7],⟨39,[vL 0 2 s1 Qab.enc,vL 1 2 s2 Qab.enc,(2,one (.fn (.func 68) [])),vL 11 2 s1 Qab.enc,vI 12 (lenI s1),vI 13 v],[]⟩⟩
def Qbn (Γ:Gam) (rv:Int) (s1:List Qab) (s2:List Qab):Prop:=Qbt Γ rv ⟨[.c 7],⟨39,[vL 0 2 s1 Qab.enc,vL 1 2 s2 Qab.enc],[]⟩⟩
theorem Qcm (Γ:Gam) (rv:Int) {s1 s2} {s:Int} {e:(Unit)⊕(Int)} (h:loopF (fun s=>Qaq s1 s2 s) s=some e) (hD:sel e (fun e=>Qbn Γ rv s1 s2) (fun e=>e=rv)):Qbp Γ rv s1 s2 s:=by
 refine QaN (C:=fun (s:Int)=>Qbp Γ rv s1 s2 s) (D:=fun (e:(Unit)⊕(Int))=>sel e (fun e=>Qbn Γ rv s1 s2) (fun e=>e=rv)) ?_ h hD
 clear h hD s e
 intro v z_ h hI hE
 replace h:Qaq s1 s2 v=_:=h
 unfold Qaq at h
 rcases Qal h with ⟨h0,h⟩|⟨h0,h⟩
 ·obtain ⟨x0,h1,h⟩:=Qae h
  rcases Qal h with ⟨h2,h⟩|⟨h2,h⟩
  ·obtain rfl:=(hE _ (oJ h):_=rv)
   exact gr 15 [] [bT h0,cE Qab.enc h1,nL Qab.enc s2,bT h2]
  ·obtain ⟨x1,h3,h⟩:=Qae h
   obtain ⟨r,h4,h⟩:=Qae h
   rcases Qal h with ⟨h5,h⟩|⟨h5,h⟩
   ·obtain rfl:=(hE _ (oJ h):_=rv)
    exact gr 23 [] [bT h0,cE Qab.enc h1,nL Qab.enc s2,bF h2,cE Qab.enc h3,cC (QlR h4),bT h5]
   ·exact gn 25 [0,1,2,11,12,13] [] [bT h0,cE Qab.enc h1,nL Qab.enc s2,bF h2,cE Qab.enc h3,cC (QlR h4),bF h5] (hI _ (oJ h))
 ·exact gn 5 [0,1] [] [bF h0] (hE _ (oJ h))
theorem Qcx {s1 s2} {rv:Int} (h:QaM s1 s2=some rv):AFn Tryz.prog 67 [.one (lL 2 s1 Qab.enc),.one (lL 2 s2 Qab.enc),.one (.fn (.func 68) [])] [] (one (lI rv)) []:=by
 refine QaT Tryz.func67 (by kernel_rfl) (by kernel_rfl) (fun Γ=>?_)
 unfold QaM at h
 obtain ⟨e0,h6,h⟩:=Qae h
 refine gn 7 [0,1,2,11,12,13] [] [nL Qab.enc s1] (Qcm Γ rv h6 ?_)
 rcases e0 with e0|e0
 ·replace h:(br (ltI (lenI s1) (lenI s2)) (some (-1)) (some 0):Option Int)=some _:=h
  rcases Qal h with ⟨h7,h⟩|⟨h7,h⟩
  ·obtain rfl:=Option.some.inj h
   exact gr 6 [] [nL Qab.enc s1,nL Qab.enc s2,bT h7]
  ·obtain rfl:=Option.some.inj h
   exact gr 7 [] [nL Qab.enc s1,nL Qab.enc s2,bF h7]
 ·obtain ⟨r1,rfl⟩:∃ x,x=e0:=⟨_,rfl⟩
  replace h:(some r1:Option Int)=some _:=h
  exact Option.some.inj h
theorem Qoo {a b} {rv:Bool} (h:QjP a b=some rv):AFn Tryz.prog 28 [.one (lL 2 a Qab.enc),.one (lL 2 b Qab.enc)] [] (one (.bool rv)) []:=by
 refine QaT Tryz.func28 (by kernel_rfl) (by kernel_rfl) (fun Γ=>?_)
 unfold QjP at h
 obtain ⟨r,h0,h⟩:=Qae h
 obtain rfl:=Option.some.inj h
 exact gr 4 [] [cC (Qcx h0)]
def QqK (Γ:Gam) (rv:Qad×Int×Int) (cf:Cf):Prop:=Go Tryz.prog Tryz.f11 [] Γ (.tup [.agg [lI rv.1.type_,lI rv.1.start,lL 1 rv.1.rests Qdt,lL 2 rv.1.visits Qab.enc],.one (lI rv.2.1),.one (lI rv.2.2)]) [] cf
def QnJ (Γ:Gam) (rv:Qad×Int×Int) (x0:Qac) (r4:List (List Qab)) (x1:Qad) (type_:Int) (start:Int) (rests:List Bool) (visits:List Qab) (least:Int) (v:Int):Prop:=QqK Γ rv ⟨[.c 2036,.l 2036,.b 0,.c 255],⟨94,[vP 3 0 6,vP 4 1 4,vP 6 2 4,vP 10 3 4,vI 11 least,vL 49 1 r4 es_T_api_Visit.enc,vI 50 (lenI r4),vI 51 v],[oX 6 30 (Qac.enc x0),oX 4 34 (Qad.enc x1),oX 4 34 [lI 0,lI 0,.nils,.nils],oX 4 34 [lI type_,lI start,lL 1 rests Qdt,lL 2 visits Qab.enc]]⟩⟩
def Qm4 (Γ:Gam) (rv:Qad×Int×Int) (x0:Qac) (r4:List (List Qab)) (x3:Qad) (least1:Int):Prop:=QqK Γ rv ⟨[.c 255],⟨94,[vP 6 0 4,vP 10 1 4,vI 11 least1],[oX 4 34 [lI 0,lI 0,.nils,.nils],oX 4 34 (Qad.enc x3)]⟩⟩
theorem QqT (Γ:Gam) (rv:Qad×Int×Int) {x0 r4} {s:Qad×Int×Int×List Bool×List Qab×Int×Int} {e:Qad×Int} (h:loopF (fun s=>Qed x0 r4 s.1 s.2.1 s.2.2.1 s.2.2.2.1 s.2.2.2.2.1 s.2.2.2.2.2.1 s.2.2.2.2.2.2) s=some e) (hD:Qm4 Γ rv x0 r4 e.1 e.2):QnJ Γ rv x0 r4 s.1 s.2.1 s.2.2.1 s.2.2.2.1 s.2.2.2.2.1 s.2.2.2.2.2.1 s.2.2.2.2.2.2:=by
 refine QaN (C:=fun (s:Qad×Int×Int×List Bool×List Qab×Int×Int)=>QnJ Γ rv x0 r4 s.1 s.2.1 s.2.2.1 s.2.2.2.1 s.2.2.2.2.1 s.2.2.2.2.2.1 s.2.2.2.2.2.2) (D:=fun (e:Qad×Int)=>Qm4 Γ rv x0 r4 e.1 e.2) ?_ h hD
 clear h hD s e
 rintro ⟨x1,type_,start,rests,visits,least,v⟩ z_ h hI hE
 replace h:Qed x0 r4 x1 type_ start rests visits least v=_:=h
 unfold Qed at h
 rcases Qal h with ⟨h7,h⟩|⟨h7,h⟩
 ·obtain ⟨x2,h8,h⟩:=Qae h
  obtain ⟨r5,h9,h⟩:=Qae h
  rcases Qal h with ⟨h10,h⟩|⟨h10,h⟩
  ·rcases Qal h with ⟨h11,h⟩|⟨h11,h⟩
   ·exact gn 22 [3,4,6,10,11,49,50,51] [0,1,2,3] [bT h7,cE es_T_api_Visit.enc h8,cC (Qf3 h9),rp 3 (bT h10),hP,hP,hP,rp 2 (oI ((ltI least 0)=false)),bT h10,hP,oR True ((ltI least 0)=false),bT h10,rp 4 (bT h11),rp 4 kF,bT h11,bT h10,bT h11,bT h10,tT] (hI _ (oJ h))
   ·rcases Qal h with ⟨h12,h⟩|⟨h12,h⟩
    ·obtain ⟨r6,h13,h⟩:=Qae h
     rcases Qal h with ⟨h14,h⟩|⟨h14,h⟩
     ·exact gn 22 [3,4,6,10,11,49,50,51] [0,1,2,3] [bT h7,cE es_T_api_Visit.enc h8,cC (Qf3 h9),rp 3 (bT h10),hP,hP,hP,rp 2 (oI ((ltI least 0)=false)),bT h10,hP,oR True ((ltI least 0)=false),bT h10,rp 4 (bF h11),rp 4 (bT h12),cC (Qoo h13),bF h11,bT h12,bT h10,bF h11,bT h10,bT h14] (hI _ (oJ h))
     ·exact gn 22 [3,4,6,10,11,49,50,51] [0,1,2,3] [bT h7,cE es_T_api_Visit.enc h8,cC (Qf3 h9),rp 3 (bT h10),hP,hP,hP,rp 2 (oI ((ltI least 0)=false)),bT h10,hP,oR True ((ltI least 0)=false),bT h10,rp 4 (bF h11),rp 4 (bT h12),cC (Qoo h13),bF h11,bT h12,bT h10,bF h11,bT h10,bF h14] (hI _ (oJ h))
    ·exact gn 22 [3,4,6,10,11,49,50,51] [0,1,2,3] [bT h7,cE es_T_api_Visit.enc h8,cC (Qf3 h9),rp 3 (bT h10),hP,hP,hP,rp 2 (oI ((ltI least 0)=false)),bT h10,hP,oR True ((ltI least 0)=false),bT h10,rp 4 (bF h11),rp 4 (bF h12),bF h11,bF h12,bT h10,bF h11,bT h10,fF] (hI _ (oJ h))
  ·exact gn 22 [3,4,6,10,11,49,50,51] [0,1,2,3] [bT h7,cE es_T_api_Visit.enc h8,cC (Qf3 h9),rp 3 (bF h10),kF,kF,kF,rp 2 (bF h10),rp 9 kF,rp 2 (bF h10),fF] (hI _ (oJ h))
 ·exact gn 5 [6,10,11] [2,3] [bF h7] (hE _ (oJ h))
theorem QbK {x0 r o} {rv:Qad×Int×Int} (h:QhC x0 r o=some rv):AFn Tryz.prog 11 [.agg (Qac.enc x0),.agg (Qad.enc r),.one (lI o)] [] (.tup [.agg [lI rv.1.type_,lI rv.1.start,lL 1 rv.1.rests Qdt,lL 2 rv.1.visits Qab.enc],.one (lI rv.2.1),.one (lI rv.2.2)]) []:=by
 refine QaT Tryz.func11 (by kernel_rfl) (by kernel_rfl) (fun Γ=>?_)
 unfold QhC at h
 rcases Qal h with ⟨h0,h⟩|⟨h0,h⟩
 ·obtain rfl:=Option.some.inj h
  exact gr 8 [] [rp 5 hP,rp 3 (oI ((ltI r.type_ 0)=false)),nL Qaj.enc x0.types,hP,hP,rp 2 (oI ((ltI r.type_ 0)=false)),oR True ((ltI r.type_ 0)=false),bT h0,hW 6,hH (.nilB 2 2 1),hH (.nilB 2 3 2)]
 ·obtain ⟨r1,h1,h⟩:=Qae h
  rcases Qal h with ⟨h2,h⟩|⟨h2,h⟩
  ·obtain rfl:=Option.some.inj h
   exact gr 15 [] [rp 5 hP,rp 3 (oI ((ltI r.type_ 0)=false)),nL Qaj.enc x0.types,hP,hP,rp 2 (oI ((ltI r.type_ 0)=false)),oR True ((ltI r.type_ 0)=false),bF h0,cC (QeJ h1),bT h2,hW 7,hH (.nilB 2 2 1),hH (.nilB 2 3 2)]
  ·obtain ⟨r2,h3,h⟩:=Qae h
   rcases Qal h with ⟨h4,h⟩|⟨h4,h⟩
   ·obtain rfl:=Option.some.inj h
    exact gr 20 [] [rp 5 hP,rp 3 (oI ((ltI r.type_ 0)=false)),nL Qaj.enc x0.types,hP,hP,rp 2 (oI ((ltI r.type_ 0)=false)),oR True ((ltI r.type_ 0)=false),bF h0,cC (QeJ h1),bF h2,cC (QkX h3),bT h4,hW 6,hH (.nilB 2 2 1),hH (.nilB 2 3 2)]
   ·obtain ⟨r3,h5,h⟩:=Qae h
    obtain ⟨r4,h6,h⟩:=Qae h
    obtain ⟨e0,h15,h⟩:=Qae h
    refine gn 28 [3,4,6,10,11,49,50,51] [0,1,2,3] [rp 5 hP,rp 3 (oI ((ltI r.type_ 0)=false)),nL Qaj.enc x0.types,hP,hP,rp 2 (oI ((ltI r.type_ 0)=false)),oR True ((ltI r.type_ 0)=false),bF h0,cC (QeJ h1),bF h2,cC (QkX h3),bF h4,hH (.draw 12 []),cC (Ql2 h5),nL Qdt r.rests,cC (Qrv h6),nL es_T_api_Visit.enc r4,hW 2,hH (.nilB 3 2 1),hH (.nilB 3 3 2)] (QqT Γ rv h15 ?_)
    obtain ⟨x3,least1⟩:=e0
    replace h:(br (ltI least1 0) (some ((Qad.mk 0 0 [] []),0,24)) (some (x3,least1,0)):Option (Qad×Int×Int))=some _:=h
    rcases Qal h with ⟨h16,h⟩|⟨h16,h⟩
    ·obtain rfl:=Option.some.inj h
     exact gr 6 [] [bT h16,hW 6,hH (.nilB 0 2 1),hH (.nilB 0 3 2)]
    ·obtain rfl:=Option.some.inj h
     exact gr 7 [] [bF h16]
def QhX (Γ:Gam) (rv:Int) (cf:Cf):Prop:=Go Tryz.prog Tryz.f73 [] Γ (one (lI rv)) [] cf
def QgT (Γ:Gam) (rv:Int) (s0:List Int) (v:Int) (v1:Int):Prop:=QhX Γ rv ⟨[.c 52,.l 52,.b 0,.c 7],⟨19,[vL 0 1 s0 e_i64,vI 1 v,vI 7 (lenI s0),vI 8 v1],[]⟩⟩
def Qgx (Γ:Gam) (rv:Int) (s0:List Int) (v:Int):Prop:=QhX Γ rv ⟨[.c 7],⟨19,[],[]⟩⟩
theorem QkE (Γ:Gam) (rv:Int) {s0 v} {s:Int} {e:(Unit)⊕(Int)} (h:loopF (fun s=>Qb7 s0 v s) s=some e) (hD:sel e (fun e=>Qgx Γ rv s0 v) (fun e=>e=rv)):QgT Γ rv s0 v s:=by
 refine QaN (C:=fun (s:Int)=>QgT Γ rv s0 v s) (D:=fun (e:(Unit)⊕(Int))=>sel e (fun e=>Qgx Γ rv s0 v) (fun e=>e=rv)) ?_ h hD
 clear h hD s e
 intro v1 z_ h hI hE
 replace h:Qb7 s0 v v1=_:=h
 unfold Qb7 at h
 rcases Qal h with ⟨h0,h⟩|⟨h0,h⟩
 ·obtain ⟨x0,h1,h⟩:=Qae h
  rcases Qal h with ⟨h2,h⟩|⟨h2,h⟩
  ·obtain rfl:=(hE _ (oJ h):_=rv)
   exact gr 14 [] [bT h0,cE e_i64 h1,bT h2]
  ·exact gn 16 [0,1,7,8] [] [bT h0,cE e_i64 h1,bF h2] (hI _ (oJ h))
 ·exact gn 5 [] [] [bF h0] (hE _ (oJ h))
theorem Ql6 {s0 v} {rv:Int} (h:QeV s0 v=some rv):AFn Tryz.prog 73 [.one (lL 1 s0 e_i64),.one (lI v)] [] (one (lI rv)) []:=by
 refine QaT Tryz.func73 (by kernel_rfl) (by kernel_rfl) (fun Γ=>?_)
 unfold QeV at h
 obtain ⟨e0,h3,h⟩:=Qae h
 refine gn 7 [0,1,7,8] [] [nL e_i64 s0] (QkE Γ rv h3 ?_)
 rcases e0 with e0|e0
 ·replace h:(some (-1):Option Int)=some _:=h
  obtain rfl:=Option.some.inj h
  exact gr 2 [] []
 ·obtain ⟨r,rfl⟩:∃ x,x=e0:=⟨_,rfl⟩
  replace h:(some r:Option Int)=some _:=h
  exact Option.some.inj h
theorem Qgw {s0 v} {rv:Bool} (h:QcL s0 v=some rv):AFn Tryz.prog 35 [.one (lL 1 s0 e_i64),.one (lI v)] [] (one (.bool rv)) []:=by
 refine QaT Tryz.func35 (by kernel_rfl) (by kernel_rfl) (fun Γ=>?_)
 unfold QcL at h
 obtain ⟨r,h0,h⟩:=Qae h
 obtain rfl:=Option.some.inj h
 exact gr 4 [] [cC (Ql6 h0)]
theorem QnK {at_ r old c c1 c2} {rv:Qac×Int×Qan} (h:QhF at_ r old c c1 c2=some rv):AFn Tryz.prog 74 [.one (lI at_),.agg (Qad.enc r),.one (lI old),.one (.op 0 6 0 0),.one (.op 1 1 0 0),.one (.op 2 6 0 0)] [bX 6 30 (Qac.enc c),bX 1 3 [lI c1],bX 6 80 (Qan.enc c2)] (.tup []) [oX 6 30 [lL 1 rv.1.net.places e_str,lL 6 rv.1.net.arcs Qas.enc,lL 14 rv.1.types Qaj.enc,lL 16 rv.1.orders Qag.enc,lL 2 rv.1.apart QaW.enc,lL 2 rv.1.before QaW.enc],oX 1 3 [lI rv.2.1],oX 6 80 [lI rv.2.2.at_,lI rv.2.2.route.type_,lI rv.2.2.route.start,lL 1 rv.2.2.route.rests Qdt,lL 2 rv.2.2.route.visits Qab.enc,lI rv.2.2.increase]]:=by
 refine QaT Tryz.func74 (by kernel_rfl) (by kernel_rfl) (fun Γ=>?_)
 unfold QhF at h
 obtain ⟨r1,h0,h⟩:=Qae h
 rcases Qal h with ⟨h1,h⟩|⟨h1,h⟩
 ·obtain rfl:=Option.some.inj h
  exact gr 8 [0,1,2] [cC (QbK h0),rp 13 hP,rp 3 (oI ((eqI r1.2.2 0)=true)),rp 5 (oI (((eqI r1.2.2 0)=true)∧(ltI c2.at_ 0)=false)),oI ((eqI r1.2.2 0)=true),oI (((eqI r1.2.2 0)=true)∧(ltI c2.at_ 0)=false),oR True ((eqI r1.2.2 0)=true),bT h1]
 ·obtain rfl:=Option.some.inj h
  exact gr 8 [0,1,2] [cC (QbK h0),rp 13 hP,rp 3 (oI ((eqI r1.2.2 0)=true)),rp 5 (oI (((eqI r1.2.2 0)=true)∧(ltI c2.at_ 0)=false)),oI ((eqI r1.2.2 0)=true),oI (((eqI r1.2.2 0)=true)∧(ltI c2.at_ 0)=false),oR True ((eqI r1.2.2 0)=true),bF h1]
def QhG (Γ:Gam) (rv:Qan×Int) (cf:Cf):Prop:=Go Tryz.prog Tryz.f36 [] Γ (.tup [.agg [lI rv.1.at_,lI rv.1.route.type_,lI rv.1.route.start,lL 1 rv.1.route.rests Qdt,lL 2 rv.1.route.visits Qab.enc,lI rv.1.increase],.one (lI rv.2)]) [] cf
def QnL (Γ:Gam) (rv:Qan×Int) (x0:Qac) (p:Qam) (o:Int) (l:List Int) (l1:List Int) (l2:List Int) (v:Int):Prop:=QhG Γ rv ⟨[.c 244,.l 244,.b 0,.c 31],⟨101,[vP 3 0 6,vP 4 1 2,vP 5 2 1,vP 6 3 6,vO 8 4 1 l1 e_i64,vO 9 5 1 l2 e_i64,vL 24 4 p.routes Qad.enc,vI 25 (lenI p.routes),vI 26 v],[oX 6 30 (Qac.enc x0),oX 2 44 (Qam.enc p),oX 1 3 [lI o],oX 6 80 [lI 0,lI 0,lI 0,.nils,.nils,lI 0],oS 1 3 l1 e_i64,oS 1 3 l2 e_i64]⟩⟩
def Qm5 (Γ:Gam) (rv:Qan×Int) (x0:Qac) (p:Qam) (o:Int) (l:List Int) (l3:List Int) (l4:List Int):Prop:=QhG Γ rv ⟨[.c 31],⟨101,[vP 3 0 6,vP 4 1 2,vP 5 2 1,vP 6 3 6,vO 8 4 1 l3 e_i64,vO 9 5 1 l4 e_i64],[oX 6 30 (Qac.enc x0),oX 2 44 (Qam.enc p),oX 1 3 [lI o],oX 6 80 [lI 0,lI 0,lI 0,.nils,.nils,lI 0],oS 1 3 l3 e_i64,oS 1 3 l4 e_i64]⟩⟩
def QnM (Γ:Gam) (rv:Qan×Int) (p:Qam) (l:List Int) (l3:List Int) (l4:List Int) (x3:Qac) (at_:Int) (type_:Int) (start:Int) (rests:List Bool) (visits:List Qab) (increase:Int) (x4:Int) (v1:Int):Prop:=QhG Γ rv ⟨[.c 2036,.l 2036,.b 2,.c 255],⟨101,[vP 3 0 6,vP 4 1 2,vP 6 2 6,vO 8 3 1 l3 e_i64,vO 9 4 1 l4 e_i64,vP 14 5 6,(15,one (.fn (.func 74) [.op 0 6 0 0,.op 6 1 0 0,.op 5 6 0 0])),vL 55 4 p.routes Qad.enc,vI 56 (lenI p.routes),vI 57 v1],[oX 6 30 (Qac.enc x3),oX 2 44 (Qam.enc p),oX 6 80 [lI 0,lI 0,lI 0,.nils,.nils,lI 0],oS 1 3 l3 e_i64,oS 1 3 l4 e_i64,oX 6 80 [lI at_,lI type_,lI start,lL 1 rests Qdt,lL 2 visits Qab.enc,lI increase],oX 1 3 [lI x4]]⟩⟩
def Qm6 (Γ:Gam) (rv:Qan×Int) (p:Qam) (l:List Int) (l3:List Int) (l4:List Int) (x7:Qac) (x8:Qan) (x9:Int):Prop:=QhG Γ rv ⟨[.c 255],⟨101,[vP 3 0 6,vP 4 1 2,vP 6 2 6,vO 9 3 1 l4 e_i64,vP 14 4 6,(15,one (.fn (.func 74) [.op 0 6 0 0,.op 5 1 0 0,.op 4 6 0 0]))],[oX 6 30 (Qac.enc x7),oX 2 44 (Qam.enc p),oX 6 80 [lI 0,lI 0,lI 0,.nils,.nils,lI 0],oS 1 3 l4 e_i64,oX 6 80 (Qan.enc x8),oX 1 3 [lI x9]]⟩⟩
def QnN (Γ:Gam) (rv:Qan×Int) (p:Qam) (l:List Int) (l4:List Int) (x10:Qac) (x11:Qan) (x12:Int) (v2:Int) (v3:Int):Prop:=QhG Γ rv ⟨[.c 4084,.l 4084,.b 4,.c 511],⟨101,[vP 3 0 6,vP 4 1 2,vP 6 2 6,vO 9 3 1 l4 e_i64,vP 14 4 6,(15,one (.fn (.func 74) [.op 0 6 0 0,.op 5 1 0 0,.op 4 6 0 0])),vI 73 v2,vI 74 v3],[oX 6 30 (Qac.enc x10),oX 2 44 (Qam.enc p),oX 6 80 [lI 0,lI 0,lI 0,.nils,.nils,lI 0],oS 1 3 l4 e_i64,oX 6 80 (Qan.enc x11),oX 1 3 [lI x12]]⟩⟩
def Qm7 (Γ:Gam) (rv:Qan×Int) (p:Qam) (l:List Int) (l4:List Int) (x15:Qan):Prop:=QhG Γ rv ⟨[.c 511],⟨101,[vP 6 0 6,vP 14 1 6],[oX 6 80 [lI 0,lI 0,lI 0,.nils,.nils,lI 0],oX 6 80 (Qan.enc x15)]⟩⟩
theorem QqU (Γ:Gam) (rv:Qan×Int) {x0 p o l} {s:List Int×List Int×Int} {e:(List Int×List Int)⊕(Qan×Int)} (h:loopF (fun s=>Qdv x0 p o l s.1 s.2.1 s.2.2) s=some e) (hD:sel e (fun e=>Qm5 Γ rv x0 p o l e.1 e.2) (fun e=>e=rv)):QnL Γ rv x0 p o l s.1 s.2.1 s.2.2:=by
 refine QaN (C:=fun (s:List Int×List Int×Int)=>QnL Γ rv x0 p o l s.1 s.2.1 s.2.2) (D:=fun (e:(List Int×List Int)⊕(Qan×Int))=>sel e (fun e=>Qm5 Γ rv x0 p o l e.1 e.2) (fun e=>e=rv)) ?_ h hD
 clear h hD s e
 rintro ⟨l1,l2,v⟩ z_ h hI hE
 replace h:Qdv x0 p o l l1 l2 v=_:=h
 unfold Qdv at h
 rcases Qal h with ⟨h1,h⟩|⟨h1,h⟩
 ·obtain ⟨x1,h2,h⟩:=Qae h
  obtain ⟨r,h3,h⟩:=Qae h
  rcases Qal h with ⟨h4,h⟩|⟨h4,h⟩
  ·obtain rfl:=(hE _ (oJ h):_=rv)
   exact gr 17 [] [bT h1,cE Qad.enc h2,cC (Qf3 h3),bT h4,hW 6,hH (.nilB 3 3 1),hH (.nilB 3 4 2)]
  ·obtain ⟨h5,h⟩:=Qax h
   obtain ⟨x2,h6,h⟩:=Qae h
   exact gn 22 [3,4,5,6,8,9,24,25,26] [0,1,2,3,8,5] [bT h1,cE Qad.enc h2,cC (Qf3 h3),bF h4,oO (Eq.refl ([r.1].map e_i64).length),aO e_i64 h5,oO (getLo h6),oO (getHi e_i64 h6),rE e_i64 h6,oO (getLo h6),oO (getHi e_i64 h6),rE e_i64 h6,hH (.rows ((setI l2 x1.type_ (addK .i64 x2 1)).map e_i64)),hH (.relen 5 ((setI l2 x1.type_ (addK .i64 x2 1)).map e_i64).length),oO (setM e_i64 l2 x1.type_ (addK .i64 x2 1)),rp 2 (oO (QsS e_i64 l2 x1.type_ (addK .i64 x2 1)))] (hI _ (oJ h))
 ·exact gn 5 [3,4,5,6,8,9] [0,1,2,3,4,5] [bF h1] (hE _ (oJ h))
theorem QqV (Γ:Gam) (rv:Qan×Int) {p l l3 l4} {s:Qac×Int×Int×Int×List Bool×List Qab×Int×Int×Int} {e:Qac×Qan×Int} (h:loopF (fun s=>Qee p l l3 l4 s.1 s.2.1 s.2.2.1 s.2.2.2.1 s.2.2.2.2.1 s.2.2.2.2.2.1 s.2.2.2.2.2.2.1 s.2.2.2.2.2.2.2.1 s.2.2.2.2.2.2.2.2) s=some e) (hD:Qm6 Γ rv p l l3 l4 e.1 e.2.1 e.2.2):QnM Γ rv p l l3 l4 s.1 s.2.1 s.2.2.1 s.2.2.2.1 s.2.2.2.2.1 s.2.2.2.2.2.1 s.2.2.2.2.2.2.1 s.2.2.2.2.2.2.2.1 s.2.2.2.2.2.2.2.2:=by
 refine QaN (C:=fun (s:Qac×Int×Int×Int×List Bool×List Qab×Int×Int×Int)=>QnM Γ rv p l l3 l4 s.1 s.2.1 s.2.2.1 s.2.2.2.1 s.2.2.2.2.1 s.2.2.2.2.2.1 s.2.2.2.2.2.2.1 s.2.2.2.2.2.2.2.1 s.2.2.2.2.2.2.2.2) (D:=fun (e:Qac×Qan×Int)=>Qm6 Γ rv p l l3 l4 e.1 e.2.1 e.2.2) ?_ h hD
 clear h hD s e
 rintro ⟨x3,at_,type_,start,rests,visits,increase,x4,v1⟩ z_ h hI hE
 replace h:Qee p l l3 l4 x3 at_ type_ start rests visits increase x4 v1=_:=h
 unfold Qee at h
 rcases Qal h with ⟨h8,h⟩|⟨h8,h⟩
 ·obtain ⟨x5,h9,h⟩:=Qae h
  obtain ⟨x6,h10,h⟩:=Qae h
  obtain ⟨r1,h11,h⟩:=Qae h
  exact gn 13 [3,4,6,8,9,14,15,55,56,57] [0,1,2,3,4,5,6] [bT h8,cE Qad.enc h9,hH (.draw 8 [(0,7),(6,7),(5,7)]),oO (getLo h10),oO (getHi e_i64 h10),rE e_i64 h10,cI [0,6,5] (QnK h11)] (hI _ (oJ h))
 ·exact gn 5 [3,4,6,9,14,15] [0,1,2,4,5,6] [bF h8] (hE _ (oJ h))
theorem QqW (Γ:Gam) (rv:Qan×Int) {p l l4} {s:Qac×Qan×Int×Int×Int} {e:Qan} (h:loopF (fun s=>Qdw p l l4 s.1 s.2.1 s.2.2.1 s.2.2.2.1 s.2.2.2.2) s=some e) (hD:Qm7 Γ rv p l l4 e):QnN Γ rv p l l4 s.1 s.2.1 s.2.2.1 s.2.2.2.1 s.2.2.2.2:=by
 refine QaN (C:=fun (s:Qac×Qan×Int×Int×Int)=>QnN Γ rv p l l4 s.1 s.2.1 s.2.2.1 s.2.2.2.1 s.2.2.2.2) (D:=fun (e:Qan)=>Qm7 Γ rv p l l4 e) ?_ h hD
 clear h hD s e
 rintro ⟨x10,x11,x12,v2,v3⟩ z_ h hI hE
 replace h:Qdw p l l4 x10 x11 x12 v2 v3=_:=h
 unfold Qdw at h
 rcases Qal h with ⟨h13,h⟩|⟨h13,h⟩
 ·obtain ⟨x13,h14,h⟩:=Qae h
  obtain ⟨x14,h15,h⟩:=Qae h
  rcases Qal h with ⟨h16,h⟩|⟨h16,h⟩
  ·obtain ⟨r2,h17,h⟩:=Qae h
   exact gn 16 [3,4,6,9,14,15,73,74] [0,1,2,3,4,5] [bT h13,hH (.draw 11 []),oO (getLo h14),oO (getHi e_i64 h14),rE e_i64 h14,cE Qaj.enc h15,bT h16,nL Qad.enc p.routes,hW 2,hH (.nilS 93 2 1),hH (.nilS 93 3 2),cI [0,5,4] (QnK h17)] (hI _ (oJ h))
  ·exact gn 16 [3,4,6,9,14,15,73,74] [0,1,2,3,4,5] [bT h13,hH (.draw 11 []),oO (getLo h14),oO (getHi e_i64 h14),rE e_i64 h14,cE Qaj.enc h15,bF h16] (hI _ (oJ h))
 ·exact gn 5 [6,14] [2,4] [bF h13] (hE _ (oJ h))
theorem Qh0 {x0 p o} {rv:Qan×Int} (h:QkK x0 p o=some rv):AFn Tryz.prog 36 [.agg (Qac.enc x0),.agg (Qam.enc p),.one (lI o)] [] (.tup [.agg [lI rv.1.at_,lI rv.1.route.type_,lI rv.1.route.start,lL 1 rv.1.route.rests Qdt,lL 2 rv.1.route.visits Qab.enc,lI rv.1.increase],.one (lI rv.2)]) []:=by
 refine QaT Tryz.func36 (by kernel_rfl) (by kernel_rfl) (fun Γ=>?_)
 unfold QkK at h
 obtain ⟨l,h0,h⟩:=Qae h
 obtain ⟨e0,h7,h⟩:=Qae h
 refine gn 11 [3,4,5,6,8,9,24,25,26] [0,1,2,3,5,4] [nL Qaj.enc x0.types,hH (.cells [lI 0]),hH (.rows (l.map e_i64)),oO (mk1 h0),oO (mk2 h0),oO (mk3 h0),oO (mk4 h0),oO (mk5 e_i64 h0),nL Qad.enc p.routes,hW 3,hH (.adopt 8 1 3)] (QqU Γ rv h7 ?_)
 rcases e0 with e0|e0
 ·obtain ⟨l3,l4⟩:=e0
  replace h:(bnd (loopF (fun s=>Qee p l l3 l4 s.1 s.2.1 s.2.2.1 s.2.2.2.1 s.2.2.2.2.1 s.2.2.2.2.2.1 s.2.2.2.2.2.2.1 s.2.2.2.2.2.2.2.1 s.2.2.2.2.2.2.2.2) (x0,(-1),0,0,[],[],0,o,0)) (fun e0=>(fun x7 x8 x9=>bnd (loopF (fun s=>Qdw p l l4 s.1 s.2.1 s.2.2.1 s.2.2.2.1 s.2.2.2.2) (x7,x8,x9,(lenI x7.types),0)) (fun x15=>br (ltI x15.at_ 0) (some ((Qan.mk 0 (Qad.mk 0 0 [] []) 0),24)) (some (x15,0)))) e0.1 e0.2.1 e0.2.2):Option (Qan×Int))=some _:=h
  obtain ⟨e1,h12,h⟩:=Qae h
  refine gn 9 [3,4,6,8,9,14,15,55,56,57] [0,1,3,4,5,6,2] [nL Qad.enc p.routes,hW 3,hH (.nilB 6 3 1),hH (.nilB 6 4 2)] (QqV Γ rv h12 ?_)
  obtain ⟨x7,x8,x9⟩:=e1
  replace h:(bnd (loopF (fun s=>Qdw p l l4 s.1 s.2.1 s.2.2.1 s.2.2.2.1 s.2.2.2.2) (x7,x8,x9,(lenI x7.types),0)) (fun x15=>br (ltI x15.at_ 0) (some ((Qan.mk 0 (Qad.mk 0 0 [] []) 0),24)) (some (x15,0))):Option (Qan×Int))=some _:=h
  obtain ⟨e2,h18,h⟩:=Qae h
  refine gn 5 [3,4,6,9,14,15,73,74] [0,1,2,3,4,5] [nL Qaj.enc x7.types] (QqW Γ rv h18 ?_)
  obtain ⟨x15,rfl⟩:∃ x,x=e2:=⟨_,rfl⟩
  replace h:(br (ltI x15.at_ 0) (some ((Qan.mk 0 (Qad.mk 0 0 [] []) 0),24)) (some (x15,0)):Option (Qan×Int))=some _:=h
  rcases Qal h with ⟨h19,h⟩|⟨h19,h⟩
  ·obtain rfl:=Option.some.inj h
   exact gr 6 [] [bT h19,hW 5,hH (.nilB 0 3 1),hH (.nilB 0 4 2)]
  ·obtain rfl:=Option.some.inj h
   exact gr 7 [] [bF h19]
 ·obtain ⟨r3,rfl⟩:∃ x,x=e0:=⟨_,rfl⟩
  replace h:(some r3:Option (Qan×Int))=some _:=h
  exact Option.some.inj h
theorem Qnl {x0 order} {rv:QaG×Int} (h:QkC x0 order=some rv):AFn Tryz.prog 75 [.agg (Qac.enc x0),.one (lI order)] [] (.tup [.agg [lI rv.1.cost,lI rv.1.moved,lI rv.1.other,lI rv.1.work],.one (lI rv.2)]) []:=by
 refine QaT Tryz.func75 (by kernel_rfl) (by kernel_rfl) (fun Γ=>?_)
 unfold QkC at h
 rcases Qal h with ⟨h0,h⟩|⟨h0,h⟩
 ·obtain rfl:=Option.some.inj h
  exact gr 8 [] [rp 4 hP,rp 2 (oI ((ltI order 0)=false)),nL Qag.enc x0.orders,hP,hP,rp 2 (oI ((ltI order 0)=false)),oR True ((ltI order 0)=false),bT h0]
 ·obtain ⟨x1,h1,h⟩:=Qae h
  rcases Qal h with ⟨h2,h⟩|⟨h2,h⟩
  ·obtain rfl:=Option.some.inj h
   exact gr 16 [] [rp 4 hP,rp 2 (oI ((ltI order 0)=false)),nL Qag.enc x0.orders,hP,hP,rp 2 (oI ((ltI order 0)=false)),oR True ((ltI order 0)=false),bF h0,cE Qag.enc h1,bT h2]
  ·rcases Qal h with ⟨h3,h⟩|⟨h3,h⟩
   ·obtain rfl:=Option.some.inj h
    exact gr 19 [] [rp 4 hP,rp 2 (oI ((ltI order 0)=false)),nL Qag.enc x0.orders,hP,hP,rp 2 (oI ((ltI order 0)=false)),oR True ((ltI order 0)=false),bF h0,cE Qag.enc h1,bF h2,bT h3]
   ·rcases Qal h with ⟨h4,h⟩|⟨h4,h⟩
    ·obtain rfl:=Option.some.inj h
     exact gr 28 [] [rp 4 hP,rp 2 (oI ((ltI order 0)=false)),nL Qag.enc x0.orders,hP,hP,rp 2 (oI ((ltI order 0)=false)),oR True ((ltI order 0)=false),bF h0,cE Qag.enc h1,bF h2,bF h3,bT h4]
    ·obtain rfl:=Option.some.inj h
     exact gr 28 [] [rp 4 hP,rp 2 (oI ((ltI order 0)=false)),nL Qag.enc x0.orders,hP,hP,rp 2 (oI ((ltI order 0)=false)),oR True ((ltI order 0)=false),bF h0,cE Qag.enc h1,bF h2,bF h3,bF h4]
theorem Qo4 {x0 o increase} {rv:Bool} (h:QkY x0 o increase=some rv):AFn Tryz.prog 37 [.agg (Qac.enc x0),.one (lI o),.one (lI increase)] [] (one (.bool rv)) []:=by
 refine QaT Tryz.func37 (by kernel_rfl) (by kernel_rfl) (fun Γ=>?_)
 unfold QkY at h
 obtain ⟨x1,h0,h⟩:=Qae h
 rcases Qal h with ⟨h1,h⟩|⟨h1,h⟩
 ·obtain rfl:=Option.some.inj h
  exact gr 8 [] [cE Qag.enc h0,bT h1]
 ·obtain ⟨r,h2,h⟩:=Qae h
  rcases Qal h with ⟨h3,h⟩|⟨h3,h⟩
  ·obtain rfl:=Option.some.inj h
   exact gr 15 [] [cE Qag.enc h0,bF h1,cC (Qnl h2),bT h3]
  ·obtain ⟨r1,h4,h⟩:=Qae h
   obtain rfl:=Option.some.inj h
   exact gr 18 [] [cE Qag.enc h0,bF h1,cC (Qnl h2),bF h3,cC (Qpb h4),rp 4 hP,rp 2 (oI ((eqI r1.2 0)=true)),oR True ((eqI r1.2 0)=true)]
theorem Qdg {s0} {rv:List Qad} (h:Qbr s0=some rv):AFn Tryz.prog 76 [.one (lL 4 s0 Qad.enc)] [] (one (lO 0 4 rv Qad.enc)) [oS 4 34 rv Qad.enc]:=by
 refine QaT Tryz.func76 (by kernel_rfl) (by kernel_rfl) (fun Γ=>?_)
 unfold Qbr at h
 rcases Qal h with ⟨h0,h⟩|⟨h0,h⟩
 ·obtain ⟨hx,h⟩:=Qt8 h
  refine gn 5 [0,4] [] [hH (.skip)] (cf':=⟨[.c 13,.c 7],⟨8,[vL 0 4 s0 Qad.enc,(4,.boo)],[]⟩⟩) (go_amb 4 rfl ?_ ?_)
  ·replace h:=hx
   obtain rfl:=Option.some.inj h
   exact gr 3 [0] [tT,hW 3,hH (.adopt 2 4 34)]
  ·obtain ⟨h1,h⟩:=Qax h
   obtain rfl:=Option.some.inj h
   exact gr 4 [0] [fF,aZ Qad.enc h1]
 ·obtain ⟨h2,h⟩:=Qax h
  obtain rfl:=Option.some.inj h
  exact gr 9 [0] [oO (neE Qad.enc h0),fF,hH (.bit false),aZ Qad.enc h2]
def QnO (Γ:Gam) (rv:Qam) (cf:Cf):Prop:=Go Tryz.prog Tryz.f38 [] Γ (gG [lL 4 rv.routes Qad.enc,lL 1 rv.unserved e_i64]) [] cf
def QnP (Γ:Gam) (rv:Qam) (p:Qam) (c:Qan) (o:Int) (l:List Qad) (l1:List Int) (v:Int):Prop:=QnO Γ rv ⟨[.c 244,.l 244,.b 0,.c 31],⟨52,[vI 2 o,vP 6 0 2,vP 7 1 2,vL 35 1 p.unserved e_i64,vI 36 (lenI p.unserved),vI 37 v],[oX 2 44 [.nils,.nils],oX 2 44 [lO 2 4 l Qad.enc,lO 3 1 l1 e_i64],oS 4 34 l Qad.enc,oS 1 3 l1 e_i64]⟩⟩
def Qna (Γ:Gam) (rv:Qam) (p:Qam) (c:Qan) (o:Int) (l:List Qad) (l2:List Int):Prop:=QnO Γ rv ⟨[.c 31],⟨52,[vP 6 0 2,vP 7 1 2],[oX 2 44 [.nils,.nils],oX 2 44 [lO 2 4 l Qad.enc,lO 3 1 l2 e_i64],oS 4 34 l Qad.enc,oS 1 3 l2 e_i64]⟩⟩
theorem QqX (Γ:Gam) (rv:Qam) {p c o l} {s:List Int×Int} {e:List Int} (h:loopF (fun s=>Qe8 p c o l s.1 s.2) s=some e) (hD:Qna Γ rv p c o l e):QnP Γ rv p c o l s.1 s.2:=by
 refine QaN (C:=fun (s:List Int×Int)=>QnP Γ rv p c o l s.1 s.2) (D:=fun (e:List Int)=>Qna Γ rv p c o l e) ?_ h hD
 clear h hD s e
 rintro ⟨l1,v⟩ z_ h hI hE
 replace h:Qe8 p c o l l1 v=_:=h
 unfold Qe8 at h
 rcases Qal h with ⟨h4,h⟩|⟨h4,h⟩
 ·obtain ⟨x1,h5,h⟩:=Qae h
  rcases Qal h with ⟨h6,h⟩|⟨h6,h⟩
  ·obtain ⟨h7,h⟩:=Qax h
   exact gn 16 [2,6,7,35,36,37] [0,1,2,5] [bT h4,cE e_i64 h5,bT h6,oO (Eq.refl ([x1].map e_i64).length),aO e_i64 h7] (hI _ (oJ h))
  ·exact gn 16 [2,6,7,35,36,37] [0,1,2,3] [bT h4,cE e_i64 h5,bF h6] (hI _ (oJ h))
 ·exact gn 5 [6,7] [0,1,2,3] [bF h4] (hE _ (oJ h))
theorem Qm9 (Γ:Gam) (rv:Qam) {p c o l} (h:QgV p c o l=some rv):QnO Γ rv ⟨[.c 15],⟨52,[vI 2 o,vP 3 0 2,vP 6 1 2,vP 7 2 2],[oX 2 44 (Qam.enc p),oX 2 44 [.nils,.nils],oX 2 44 [lO 3 4 l Qad.enc,.nils],oS 4 34 l Qad.enc]⟩⟩:=by
 unfold QgV at h
 obtain ⟨e0,h8,h⟩:=Qae h
 refine gn 5 [2,6,7,35,36,37] [1,2,3,4] [nL e_i64 p.unserved,hW 3,hH (.adoptB 2 1 1 3)] (QqX Γ rv h8 ?_)
 obtain ⟨l2,rfl⟩:∃ x,x=e0:=⟨_,rfl⟩
 replace h:(some (Qam.mk l l2):Option Qam)=some _:=h
 obtain rfl:=Option.some.inj h
 exact gr 2 [] [hW 4,hH (.frz 2),hH (.frz 3),rp 3 (eL l Qad.enc),rp 3 (eL l2 e_i64)]
theorem QpL {p c o} {rv:Qam} (h:QkL p c o=some rv):AFn Tryz.prog 38 [.agg (Qam.enc p),.agg (Qan.enc c),.one (lI o)] [] (gG [lL 4 rv.routes Qad.enc,lL 1 rv.unserved e_i64]) []:=by
 refine QaT Tryz.func38 (by kernel_rfl) (by kernel_rfl) (fun Γ=>?_)
 unfold QkL at h
 obtain ⟨r,h0,h⟩:=Qae h
 rcases Qal h with ⟨h1,h⟩|⟨h1,h⟩
 ·obtain ⟨x0,h2,h⟩:=Qae h
  exact gn 9 [2,3,6,7] [0,2,4,3] [cC (Qdg h0),nL Qad.enc r,bT h1,oO (getLo h2),oO (getHi Qad.enc h2),rE Qad.enc h2,hH (.rows ((setI r c.at_ c.route).map Qad.enc)),hH (.relen 3 ((setI r c.at_ c.route).map Qad.enc).length),oO (setM Qad.enc r c.at_ c.route),rp 5 (oO (QsS Qad.enc r c.at_ c.route))] (Qm9 Γ rv h)
 ·obtain ⟨h3,h⟩:=Qax h
  exact gn 9 [2,3,6,7] [0,2,4,6] [cC (Qdg h0),nL Qad.enc r,bF h1,oO (Eq.refl ([c.route].map Qad.enc).length),aO Qad.enc h3] (Qm9 Γ rv h)
theorem Qmi {r c} {rv:Bool} (h:QiY r c=some rv):AFn Tryz.prog 78 [.agg (Qad.enc r),.one (.ip [lI c] 0)] [] (one (.bool rv)) []:=by
 refine QaT Tryz.func78 (by kernel_rfl) (by kernel_rfl) (fun Γ=>?_)
 unfold QiY at h
 obtain ⟨r1,h0,h⟩:=Qae h
 obtain rfl:=Option.some.inj h
 exact gr 4 [] [cC (QkX h0)]
def Qcy (Γ:Gam) (rv:Int) (cf:Cf):Prop:=Go Tryz.prog Tryz.f102 [] Γ (one (lI rv)) [] cf
def Qch (Γ:Gam) (rv:Int) (s0:List Qad) (c:Int) (v:Int):Prop:=Qcy Γ rv ⟨[.c 52,.l 52,.b 0,.c 7],⟨19,[vL 0 4 s0 Qad.enc,(1,one (.fn (.func 78) [.ip [lI c] 0])),vI 7 (lenI s0),vI 8 v],[]⟩⟩
def Qcd (Γ:Gam) (rv:Int) (s0:List Qad) (c:Int):Prop:=Qcy Γ rv ⟨[.c 7],⟨19,[],[]⟩⟩
theorem Qel (Γ:Gam) (rv:Int) {s0 c} {s:Int} {e:(Unit)⊕(Int)} (h:loopF (fun s=>QaO s0 c s) s=some e) (hD:sel e (fun e=>Qcd Γ rv s0 c) (fun e=>e=rv)):Qch Γ rv s0 c s:=by
 refine QaN (C:=fun (s:Int)=>Qch Γ rv s0 c s) (D:=fun (e:(Unit)⊕(Int))=>sel e (fun e=>Qcd Γ rv s0 c) (fun e=>e=rv)) ?_ h hD
 clear h hD s e
 intro v z_ h hI hE
 replace h:QaO s0 c v=_:=h
 unfold QaO at h
 rcases Qal h with ⟨h0,h⟩|⟨h0,h⟩
 ·obtain ⟨x0,h1,h⟩:=Qae h
  obtain ⟨r,h2,h⟩:=Qae h
  rcases Qal h with ⟨h3,h⟩|⟨h3,h⟩
  ·obtain rfl:=(hE _ (oJ h):_=rv)
   exact gr 14 [] [bT h0,cE Qad.enc h1,cC (Qmi h2),bT h3]
  ·exact gn 16 [0,1,7,8] [] [bT h0,cE Qad.enc h1,cC (Qmi h2),bF h3] (hI _ (oJ h))
 ·exact gn 5 [] [] [bF h0] (hE _ (oJ h))
theorem QeX {s0 c} {rv:Int} (h:Qbl s0 c=some rv):AFn Tryz.prog 102 [.one (lL 4 s0 Qad.enc),.one (.fn (.func 78) [.ip [lI c] 0])] [] (one (lI rv)) []:=by
 refine QaT Tryz.func102 (by kernel_rfl) (by kernel_rfl) (fun Γ=>?_)
 unfold Qbl at h
 obtain ⟨e0,h4,h⟩:=Qae h
 refine gn 7 [0,1,7,8] [] [nL Qad.enc s0] (Qel Γ rv h4 ?_)
 rcases e0 with e0|e0
 ·replace h:(some (-1):Option Int)=some _:=h
  obtain rfl:=Option.some.inj h
  exact gr 2 [] []
 ·obtain ⟨r1,rfl⟩:∃ x,x=e0:=⟨_,rfl⟩
  replace h:(some r1:Option Int)=some _:=h
  exact Option.some.inj h
theorem Qej {s0 c} {rv:Bool} (h:QaZ s0 c=some rv):AFn Tryz.prog 77 [.one (lL 4 s0 Qad.enc),.one (.fn (.func 78) [.ip [lI c] 0])] [] (one (.bool rv)) []:=by
 refine QaT Tryz.func77 (by kernel_rfl) (by kernel_rfl) (fun Γ=>?_)
 unfold QaZ at h
 obtain ⟨r,h0,h⟩:=Qae h
 obtain rfl:=Option.some.inj h
 exact gr 4 [] [cC (QeX h0)]
theorem QfC {p o} {rv:Bool} (h:QhH p o=some rv):AFn Tryz.prog 39 [.agg (Qam.enc p),.one (lI o)] [] (one (.bool rv)) []:=by
 refine QaT Tryz.func39 (by kernel_rfl) (by kernel_rfl) (fun Γ=>?_)
 unfold QhH at h
 obtain ⟨r,h0,h⟩:=Qae h
 obtain rfl:=Option.some.inj h
 exact gr 4 [] [cC (Qej h0)]
def Qgd (Γ:Gam) (rv:Qam×Int) (cf:Cf):Prop:=Go Tryz.prog Tryz.f14 [] Γ (.tup [.agg [lL 4 rv.1.routes Qad.enc,lL 1 rv.1.unserved e_i64],.one (lI rv.2)]) [] cf
def Qme (Γ:Gam) (rv:Qam×Int) (x0:Qac) (list_:List Int) (v:Int):Prop:=Qgd Γ rv ⟨[.c 52,.l 52,.b 0,.c 7],⟨100,[vL 1 1 list_ e_i64,vP 2 0 6,vP 4 1 2,vL 15 1 list_ e_i64,vI 16 (lenI list_),vI 17 v],[oX 6 30 (Qac.enc x0),oX 2 44 [.nils,.nils]]⟩⟩
def Qlw (Γ:Gam) (rv:Qam×Int) (x0:Qac) (list_:List Int):Prop:=Qgd Γ rv ⟨[.c 7],⟨100,[vL 1 1 list_ e_i64,vP 2 0 6,vP 4 1 2],[oX 6 30 (Qac.enc x0),oX 2 44 [.nils,.nils]]⟩⟩
def Qmf (Γ:Gam) (rv:Qam×Int) (x0:Qac) (list_:List Int) (routes:List Qad) (unserved:List Int) (v1:Int):Prop:=Qgd Γ rv ⟨[.c 244,.l 244,.b 2,.c 31],⟨100,[vP 2 0 6,vP 4 1 2,vP 8 2 2,vL 39 1 list_ e_i64,vI 40 (lenI list_),vI 41 v1],[oX 6 30 (Qac.enc x0),oX 2 44 [.nils,.nils],oX 2 44 [lL 4 routes Qad.enc,lL 1 unserved e_i64]]⟩⟩
def Qlx (Γ:Gam) (rv:Qam×Int) (x0:Qac) (list_:List Int) (routes1:List Qad) (unserved1:List Int):Prop:=Qgd Γ rv ⟨[.c 31],⟨100,[vP 2 0 6,vP 4 1 2,vP 8 2 2],[oX 6 30 (Qac.enc x0),oX 2 44 [.nils,.nils],oX 2 44 [lL 4 routes1 Qad.enc,lL 1 unserved1 e_i64]]⟩⟩
def Qmg (Γ:Gam) (rv:Qam×Int) (x0:Qac) (routes1:List Qad) (l1:List Int) (v2:Int):Prop:=Qgd Γ rv ⟨[.c 1012,.l 1012,.b 4,.c 127],⟨100,[vP 4 0 2,vP 8 1 2,vL 74 16 x0.orders Qag.enc,vI 75 (lenI x0.orders),vI 76 v2],[oX 2 44 [.nils,.nils],oX 2 44 [lL 4 routes1 Qad.enc,lO 2 1 l1 e_i64],oS 1 3 l1 e_i64]⟩⟩
def Qly (Γ:Gam) (rv:Qam×Int) (x0:Qac) (routes1:List Qad) (l2:List Int):Prop:=Qgd Γ rv ⟨[.c 127],⟨100,[vP 4 0 2,vP 8 1 2],[oX 2 44 [.nils,.nils],oX 2 44 [lL 4 routes1 Qad.enc,lO 2 1 l2 e_i64],oS 1 3 l2 e_i64]⟩⟩
theorem QpH (Γ:Gam) (rv:Qam×Int) {x0 list_} {s:Int} {e:(Unit)⊕(Qam×Int)} (h:loopF (fun s=>QeI x0 list_ s) s=some e) (hD:sel e (fun e=>Qlw Γ rv x0 list_) (fun e=>e=rv)):Qme Γ rv x0 list_ s:=by
 refine QaN (C:=fun (s:Int)=>Qme Γ rv x0 list_ s) (D:=fun (e:(Unit)⊕(Qam×Int))=>sel e (fun e=>Qlw Γ rv x0 list_) (fun e=>e=rv)) ?_ h hD
 clear h hD s e
 intro v z_ h hI hE
 replace h:QeI x0 list_ v=_:=h
 unfold QeI at h
 rcases Qal h with ⟨h0,h⟩|⟨h0,h⟩
 ·obtain ⟨x1,h1,h⟩:=Qae h
  rcases Qal h with ⟨h2,h⟩|⟨h2,h⟩
  ·obtain rfl:=(hE _ (oJ h):_=rv)
   exact gr 15 [] [bT h0,cE e_i64 h1,rp 4 hP,rp 2 (oI ((ltI x1 0)=false)),nL Qag.enc x0.orders,hP,hP,rp 2 (oI ((ltI x1 0)=false)),oR True ((ltI x1 0)=false),bT h2,hW 5,hH (.nilB 1 0 4),hH (.nilB 1 1 1)]
  ·obtain ⟨l,h3,h⟩:=Qae h
   obtain ⟨r,h4,h⟩:=Qae h
   rcases Qal h with ⟨h5,h⟩|⟨h5,h⟩
   ·obtain rfl:=(hE _ (oJ h):_=rv)
    exact gr 19 [] [bT h0,cE e_i64 h1,rp 4 hP,rp 2 (oI ((ltI x1 0)=false)),nL Qag.enc x0.orders,hP,hP,rp 2 (oI ((ltI x1 0)=false)),oR True ((ltI x1 0)=false),bF h2,hH (.rows (l.map e_i64)),oO (sl1 h3),oO (sl2 h3),oO (sl3 e_i64 h3),oO (Int.le_refl v),oO (sl3 e_i64 h3),oO (sl6 e_i64 h3),cC (Qgw h4),bT h5,hW 5,hH (.nilB 1 0 4),hH (.nilB 1 1 1)]
   ·exact gn 21 [1,2,4,15,16,17] [0,1] [bT h0,cE e_i64 h1,rp 4 hP,rp 2 (oI ((ltI x1 0)=false)),nL Qag.enc x0.orders,hP,hP,rp 2 (oI ((ltI x1 0)=false)),oR True ((ltI x1 0)=false),bF h2,hH (.rows (l.map e_i64)),oO (sl1 h3),oO (sl2 h3),oO (sl3 e_i64 h3),oO (Int.le_refl v),oO (sl3 e_i64 h3),oO (sl6 e_i64 h3),cC (Qgw h4),bF h5] (hI _ (oJ h))
 ·exact gn 5 [1,2,4] [0,1] [bF h0] (hE _ (oJ h))
theorem QpI (Γ:Gam) (rv:Qam×Int) {x0 list_} {s:List Qad×List Int×Int} {e:List Qad×List Int} (h:loopF (fun s=>QdF x0 list_ s.1 s.2.1 s.2.2) s=some e) (hD:Qlx Γ rv x0 list_ e.1 e.2):Qmf Γ rv x0 list_ s.1 s.2.1 s.2.2:=by
 refine QaN (C:=fun (s:List Qad×List Int×Int)=>Qmf Γ rv x0 list_ s.1 s.2.1 s.2.2) (D:=fun (e:List Qad×List Int)=>Qlx Γ rv x0 list_ e.1 e.2) ?_ h hD
 clear h hD s e
 rintro ⟨routes,unserved,v1⟩ z_ h hI hE
 replace h:QdF x0 list_ routes unserved v1=_:=h
 unfold QdF at h
 rcases Qal h with ⟨h7,h⟩|⟨h7,h⟩
 ·obtain ⟨x2,h8,h⟩:=Qae h
  obtain ⟨x3,h9,h⟩:=Qae h
  rcases Qal h with ⟨h10,h⟩|⟨h10,h⟩
  ·exact gn 16 [2,4,8,39,40,41] [0,1,2] [bT h7,cE e_i64 h8,cE Qag.enc h9,bT h10] (hI _ (oJ h))
  ·obtain ⟨r1,h11,h⟩:=Qae h
   rcases Qal h with ⟨h12,h⟩|⟨h12,h⟩
   ·obtain ⟨r2,h13,h⟩:=Qae h
    rcases Qal h with ⟨h14,h⟩|⟨h14,h⟩
    ·obtain ⟨r3,h15,h⟩:=Qae h
     exact gn 23 [2,4,8,39,40,41] [0,1,2] [bT h7,cE e_i64 h8,cE Qag.enc h9,bF h10,cC (Qh0 h11),rp 5 (bT h12),cC (Qo4 h13),bT h12,bT h14,cC (QpL h15)] (hI _ (oJ h))
    ·exact gn 23 [2,4,8,39,40,41] [0,1,2] [bT h7,cE e_i64 h8,cE Qag.enc h9,bF h10,cC (Qh0 h11),rp 5 (bT h12),cC (Qo4 h13),bT h12,bF h14] (hI _ (oJ h))
   ·exact gn 23 [2,4,8,39,40,41] [0,1,2] [bT h7,cE e_i64 h8,cE Qag.enc h9,bF h10,cC (Qh0 h11),rp 6 (bF h12),fF] (hI _ (oJ h))
 ·exact gn 5 [2,4,8] [0,1,2] [bF h7] (hE _ (oJ h))
theorem QpJ (Γ:Gam) (rv:Qam×Int) {x0 routes1} {s:List Int×Int} {e:(List Int)⊕(Qam×Int)} (h:loopF (fun s=>QcX x0 routes1 s.1 s.2) s=some e) (hD:sel e (fun e=>Qly Γ rv x0 routes1 e) (fun e=>e=rv)):Qmg Γ rv x0 routes1 s.1 s.2:=by
 refine QaN (C:=fun (s:List Int×Int)=>Qmg Γ rv x0 routes1 s.1 s.2) (D:=fun (e:(List Int)⊕(Qam×Int))=>sel e (fun e=>Qly Γ rv x0 routes1 e) (fun e=>e=rv)) ?_ h hD
 clear h hD s e
 rintro ⟨l1,v2⟩ z_ h hI hE
 replace h:QcX x0 routes1 l1 v2=_:=h
 unfold QcX at h
 rcases Qal h with ⟨h17,h⟩|⟨h17,h⟩
 ·obtain ⟨x4,h18,h⟩:=Qae h
  rcases Qal h with ⟨h19,h⟩|⟨h19,h⟩
  ·exact gn 16 [4,8,74,75,76] [0,1,2] [bT h17,cE Qag.enc h18,rp 4 (bT h19),tT] (hI _ (oJ h))
  ·obtain ⟨r4,h20,h⟩:=Qae h
   rcases Qal h with ⟨h21,h⟩|⟨h21,h⟩
   ·exact gn 16 [4,8,74,75,76] [0,1,2] [bT h17,cE Qag.enc h18,rp 3 (bF h19),eL l1 e_i64,cC (QfC h20),bF h19,bT h21] (hI _ (oJ h))
   ·rcases Qal h with ⟨h22,h⟩|⟨h22,h⟩
    ·obtain rfl:=(hE _ (oJ h):_=rv)
     exact gr 20 [] [bT h17,cE Qag.enc h18,rp 3 (bF h19),eL l1 e_i64,cC (QfC h20),bF h19,bF h21,bT h22,hW 5,hH (.nilB 0 0 4),hH (.nilB 0 1 1)]
    ·obtain ⟨h23,h⟩:=Qax h
     exact gn 23 [4,8,74,75,76] [0,1,5] [bT h17,cE Qag.enc h18,rp 3 (bF h19),eL l1 e_i64,cC (QfC h20),bF h19,bF h21,bF h22,oO (Eq.refl ([v2].map e_i64).length),aO e_i64 h23] (hI _ (oJ h))
 ·exact gn 5 [4,8] [0,1,2] [bF h17] (hE _ (oJ h))
theorem Qa8 {x0 list_} {rv:Qam×Int} (h:QhD x0 list_=some rv):AFn Tryz.prog 14 [.agg (Qac.enc x0),.one (lL 1 list_ e_i64)] [] (.tup [.agg [lL 4 rv.1.routes Qad.enc,lL 1 rv.1.unserved e_i64],.one (lI rv.2)]) []:=by
 refine QaT Tryz.func14 (by kernel_rfl) (by kernel_rfl) (fun Γ=>?_)
 unfold QhD at h
 obtain ⟨e0,h6,h⟩:=Qae h
 refine gn 7 [1,2,4,15,16,17] [0,1] [nL e_i64 list_] (QpH Γ rv h6 ?_)
 rcases e0 with e0|e0
 ·replace h:(bnd (loopF (fun s=>QdF x0 list_ s.1 s.2.1 s.2.2) ([],[],0)) (fun e0=>(fun routes1 unserved1=>bnd (loopF (fun s=>QcX x0 routes1 s.1 s.2) ([],0)) (fun e=>sel e (fun l2=>some ((Qam.mk routes1 l2),0)) (fun r5=>some r5))) e0.1 e0.2):Option (Qam×Int))=some _:=h
  obtain ⟨e1,h16,h⟩:=Qae h
  refine gn 7 [2,4,8,39,40,41] [0,1,2] [nL e_i64 list_,hW 3,hH (.nilB 2 0 4),hH (.nilB 2 1 1)] (QpI Γ rv h16 ?_)
  obtain ⟨routes1,unserved1⟩:=e1
  replace h:(bnd (loopF (fun s=>QcX x0 routes1 s.1 s.2) ([],0)) (fun e=>sel e (fun l2=>some ((Qam.mk routes1 l2),0)) (fun r5=>some r5)):Option (Qam×Int))=some _:=h
  obtain ⟨e2,h24,h⟩:=Qae h
  refine gn 7 [4,8,74,75,76] [1,2,3] [nL Qag.enc x0.orders,hW 3,hH (.adoptB 2 1 1 3)] (QpJ Γ rv h24 ?_)
  rcases e2 with e2|e2
  ·obtain ⟨l2,rfl⟩:∃ x,x=e2:=⟨_,rfl⟩
   replace h:(some ((Qam.mk routes1 l2),0):Option (Qam×Int))=some _:=h
   obtain rfl:=Option.some.inj h
   exact gr 2 [] [hW 5,hH (.frz 2),rp 3 (eL l2 e_i64)]
  ·obtain ⟨r5,rfl⟩:∃ x,x=e2:=⟨_,rfl⟩
   replace h:(some r5:Option (Qam×Int))=some _:=h
   exact Option.some.inj h
 ·obtain ⟨r6,rfl⟩:∃ x,x=e0:=⟨_,rfl⟩
  replace h:(some r6:Option (Qam×Int))=some _:=h
  exact Option.some.inj h
def Qgm (Γ:Gam) (rv:Qac) (cf:Cf):Prop:=Go Tryz.prog Tryz.f24 [] Γ (gG [lL 1 rv.net.places e_str,lL 6 rv.net.arcs Qas.enc,lL 14 rv.types Qaj.enc,lL 16 rv.orders Qag.enc,lL 2 rv.apart QaW.enc,lL 2 rv.before QaW.enc]) [] cf
def Qi7 (Γ:Gam) (rv:Qac) (l:List Qas) (v:Int):Prop:=Qgm Γ rv ⟨[.c 116,.l 116,.b 0,.c 15],⟨65,[vP 0 0 6,vP 1 1 6,vO 15 2 3 [(Qe6.mk 0 1 10),(Qe6.mk 1 0 10),(Qe6.mk 0 2 20),(Qe6.mk 2 0 20),(Qe6.mk 1 2 10),(Qe6.mk 2 1 10)] Qe6.enc,vI 16 (lenI [(Qe6.mk 0 1 10),(Qe6.mk 1 0 10),(Qe6.mk 0 2 20),(Qe6.mk 2 0 20),(Qe6.mk 1 2 10),(Qe6.mk 2 1 10)]),vI 17 v],[oX 6 30 [.nils,.nils,.nils,.nils,.nils,.nils],oX 6 30 [lO 3 1 [Qgc,Qj7,Qj8] e_str,lO 4 6 l Qas.enc,.nils,.nils,.nils,.nils],oS 3 116 [(Qe6.mk 0 1 10),(Qe6.mk 1 0 10),(Qe6.mk 0 2 20),(Qe6.mk 2 0 20),(Qe6.mk 1 2 10),(Qe6.mk 2 1 10)] Qe6.enc,oS 1 9 [Qgc,Qj7,Qj8] e_str,oS 6 122 l Qas.enc]⟩⟩
def Qiu (Γ:Gam) (rv:Qac) (l1:List Qas):Prop:=Qgm Γ rv ⟨[.c 15],⟨65,[vP 0 0 6,vP 1 1 6],[oX 6 30 [.nils,.nils,.nils,.nils,.nils,.nils],oX 6 30 [lO 2 1 [Qgc,Qj7,Qj8] e_str,lO 3 6 l1 Qas.enc,.nils,.nils,.nils,.nils],oS 1 9 [Qgc,Qj7,Qj8] e_str,oS 6 122 l1 Qas.enc]⟩⟩
def Qi8 (Γ:Gam) (rv:Qac) (l1:List Qas) (l2:List Qag) (v1:Int):Prop:=Qgm Γ rv ⟨[.c 500,.l 500,.b 2,.c 63],⟨65,[vP 0 0 6,vP 1 1 6,vO 44 2 1 [Qqq,Qqr] e_str,vI 45 (lenI [Qqq,Qqr]),vI 46 v1],[oX 6 30 [.nils,.nils,.nils,.nils,.nils,.nils],oX 6 30 [lO 3 1 [Qgc,Qj7,Qj8] e_str,lO 4 6 l1 Qas.enc,lO 5 14 [(Qaj.mk Qon 1 0 0 [2] 0 0 0 100 100 0 0 1 0)] Qaj.enc,lO 6 16 l2 Qag.enc,.nils,.nils],oS 1 9 [Qqq,Qqr] e_str,oS 1 9 [Qgc,Qj7,Qj8] e_str,oS 6 122 l1 Qas.enc,oS 14 124 [(Qaj.mk Qon 1 0 0 [2] 0 0 0 100 100 0 0 1 0)] Qaj.enc,oS 16 74 l2 Qag.enc]⟩⟩
def Qiv (Γ:Gam) (rv:Qac) (l1:List Qas) (l3:List Qag):Prop:=Qgm Γ rv ⟨[.c 63],⟨65,[vP 0 0 6,vP 1 1 6],[oX 6 30 [.nils,.nils,.nils,.nils,.nils,.nils],oX 6 30 [lO 2 1 [Qgc,Qj7,Qj8] e_str,lO 3 6 l1 Qas.enc,lO 4 14 [(Qaj.mk Qon 1 0 0 [2] 0 0 0 100 100 0 0 1 0)] Qaj.enc,lO 5 16 l3 Qag.enc,.nils,.nils],oS 1 9 [Qgc,Qj7,Qj8] e_str,oS 6 122 l1 Qas.enc,oS 14 124 [(Qaj.mk Qon 1 0 0 [2] 0 0 0 100 100 0 0 1 0)] Qaj.enc,oS 16 74 l3 Qag.enc]⟩⟩
theorem Qnr (Γ:Gam) (rv:Qac) {s:List Qas×Int} {e:List Qas} (h:loopF (fun s=>QfT s.1 s.2) s=some e) (hD:Qiu Γ rv e):Qi7 Γ rv s.1 s.2:=by
 refine QaN (C:=fun (s:List Qas×Int)=>Qi7 Γ rv s.1 s.2) (D:=fun (e:List Qas)=>Qiu Γ rv e) ?_ h hD
 clear h hD s e
 rintro ⟨l,v⟩ z_ h hI hE
 replace h:QfT l v=_:=h
 unfold QfT at h
 rcases Qal h with ⟨h0,h⟩|⟨h0,h⟩
 ·obtain ⟨x0,h1,h⟩:=Qae h
  obtain ⟨h2,h⟩:=Qax h
  exact gn 13 [0,1,15,16,17] [0,1,2,3,8] [bT h0,oO (getLo h1),oO (getHi Qe6.enc h1),rE Qe6.enc h1,hW 17,hH (.frz 6),hH (.nilS 34 5 2),oO (zL 0),oO (lT 0 3),oO (zL 1),oO (lT 1 3),oO (zL 2),oO (lT 2 3),oO (zL 2),oO (lT 2 3),rp 2 (oO (Eq.refl ([(Qao.mk 0 x0.x2)].map Qao.enc).length)),oO (Eq.refl ([(Qas.mk x0.x0 x0.x1 0 x0.x2 [(Qao.mk 0 x0.x2)] [])].map Qas.enc).length),aO Qas.enc h2] (hI _ (oJ h))
 ·exact gn 5 [0,1] [0,1,3,4] [bF h0] (hE _ (oJ h))
theorem Qns (Γ:Gam) (rv:Qac) {l1} {s:List Qag×Int} {e:List Qag} (h:loopF (fun s=>QeK l1 s.1 s.2) s=some e) (hD:Qiv Γ rv l1 e):Qi8 Γ rv l1 s.1 s.2:=by
 refine QaN (C:=fun (s:List Qag×Int)=>Qi8 Γ rv l1 s.1 s.2) (D:=fun (e:List Qag)=>Qiv Γ rv l1 e) ?_ h hD
 clear h hD s e
 rintro ⟨l2,v1⟩ z_ h hI hE
 replace h:QeK l1 l2 v1=_:=h
 unfold QeK at h
 rcases Qal h with ⟨h4,h⟩|⟨h4,h⟩
 ·obtain ⟨x1,h5,h⟩:=Qae h
  obtain ⟨h6,h⟩:=Qax h
  exact gn 13 [0,1,44,45,46] [0,1,2,3,4,5,9] [bT h4,oO (getLo h5),oO (getHi e_str h5),rE e_str h5,hW 12,hH (.frz 7),rp 2 (oO (Eq.refl ([1].map e_i64).length)),oO (Eq.refl ([(Qag.mk x1 [1] (Qau.mk (-1) 0 0 0) (Qau.mk (addK .i64 v1 1) 0 90 0) 0 30 1 (-1) (-1) false)].map Qag.enc).length),aO Qag.enc h6] (hI _ (oJ h))
 ·exact gn 5 [0,1] [0,1,3,4,5,6] [bF h4] (hE _ (oJ h))
theorem QeL {rv:Qac} (h:QjU=some rv):AFn Tryz.prog 24 [] [] (gG [lL 1 rv.net.places e_str,lL 6 rv.net.arcs Qas.enc,lL 14 rv.types Qaj.enc,lL 16 rv.orders Qag.enc,lL 2 rv.apart QaW.enc,lL 2 rv.before QaW.enc]) []:=by
 refine QaT Tryz.func24 (by kernel_rfl) (by kernel_rfl) (fun Γ=>?_)
 unfold QjU at h
 obtain ⟨e0,h3,h⟩:=Qae h
 refine gn 9 [0,1,15,16,17] [0,2,3,1,4] [nL Qe6.enc [(Qe6.mk 0 1 10),(Qe6.mk 1 0 10),(Qe6.mk 0 2 20),(Qe6.mk 2 0 20),(Qe6.mk 1 2 10),(Qe6.mk 2 1 10)],hW 3,hH (.adoptB 2 1 6 122)] (Qnr Γ rv h3 ?_)
 obtain ⟨l1,rfl⟩:∃ x,x=e0:=⟨_,rfl⟩
 replace h:(bnd (loopF (fun s=>QeK l1 s.1 s.2) ([],0)) (fun l3=>some (Qac.mk (Qai.mk [Qgc,Qj7,Qj8] l1) [(Qaj.mk Qon 1 0 0 [2] 0 0 0 100 100 0 0 1 0)] l3 [] [])):Option Qac)=some _:=h
 obtain ⟨e1,h7,h⟩:=Qae h
 refine gn 7 [0,1,44,45,46] [0,1,6,2,3,5,7] [hW 4,hH (.frz 4),rp 2 (oO (Eq.refl ([2].map e_i64).length)),nL e_str [Qqq,Qqr],hW 3,hH (.adoptB 1 3 16 74)] (Qns Γ rv h7 ?_)
 obtain ⟨l3,rfl⟩:∃ x,x=e1:=⟨_,rfl⟩
 replace h:(some (Qac.mk (Qai.mk [Qgc,Qj7,Qj8] l1) [(Qaj.mk Qon 1 0 0 [2] 0 0 0 100 100 0 0 1 0)] l3 [] []):Option Qac)=some _:=h
 obtain rfl:=Option.some.inj h
 exact gr 2 [] [hW 4,hH (.frz 2),hH (.frz 3),hH (.frz 4),hH (.frz 5),hH (.nilB 0 4 2),hH (.nilB 0 5 2),rp 3 (oO (Eq.refl ([Qgc,Qj7,Qj8].map e_str).length)),rp 3 (eL l1 Qas.enc),rp 3 (oO (Eq.refl ([(Qaj.mk Qon 1 0 0 [2] 0 0 0 100 100 0 0 1 0)].map Qaj.enc).length)),rp 3 (eL l3 Qag.enc)]
theorem Qbx {rv:Bool} (h:Qbq=some rv):AFn Tryz.prog 10 [] [] (one (.bool rv)) []:=by
 refine QaT Tryz.func10 (by kernel_rfl) (by kernel_rfl) (fun Γ=>?_)
 unfold Qbq at h
 obtain ⟨r,h0,h⟩:=Qae h
 obtain ⟨r1,h1,h⟩:=Qae h
 obtain ⟨r2,h2,h⟩:=Qae h
 obtain ⟨r3,h3,h⟩:=Qae h
 obtain ⟨r4,h4,h⟩:=Qae h
 rcases Qal h with ⟨h5,h⟩|⟨h5,h⟩
 ·obtain rfl:=Option.some.inj h
  exact gr 20 [] [cC (QeL h0),hW 16,hH (.frz 3),hH (.nilS 22 2 1),rp 2 (oO (Eq.refl ([(Qab.mk 1 true)].map Qab.enc).length)),cC (QbK h1),hW 15,hH (.frz 5),hH (.frz 6),rp 2 (oO (Eq.refl ([false].map Qdt).length)),rp 2 (oO (Eq.refl ([(Qab.mk 1 true)].map Qab.enc).length)),cC (QbK h2),hW 12,hH (.frz 8),oO (Eq.refl ([0,1].map e_i64).length),cC (Qa8 h3),hW 10,hH (.nilS 45 2 1),hH (.nilS 45 3 2),cC (QbK h4),rp 12 hP,oI ((neI r1.2.2 0)=false),oR True ((neI r1.2.2 0)=false),oI (((neI r1.2.2 0)||(neI r2.2.2 0))=false),oR True (((neI r1.2.2 0)||(neI r2.2.2 0))=false),oI ((((neI r1.2.2 0)||(neI r2.2.2 0))||(neI r3.2 0))=false),oR True ((((neI r1.2.2 0)||(neI r2.2.2 0))||(neI r3.2 0))=false),rp 2 (oI (((((neI r1.2.2 0)||(neI r2.2.2 0))||(neI r3.2 0))||(neI r4.2.2 2))=false)),nL Qab.enc r1.1.visits,rp 5 hP,oI (((((neI r1.2.2 0)||(neI r2.2.2 0))||(neI r3.2 0))||(neI r4.2.2 2))=false),oR True (((((neI r1.2.2 0)||(neI r2.2.2 0))||(neI r3.2 0))||(neI r4.2.2 2))=false),rp 2 (oI ((((((neI r1.2.2 0)||(neI r2.2.2 0))||(neI r3.2 0))||(neI r4.2.2 2))||(neI (lenI r1.1.visits) 2))=false)),nL Qab.enc r2.1.visits,rp 5 hP,oI ((((((neI r1.2.2 0)||(neI r2.2.2 0))||(neI r3.2 0))||(neI r4.2.2 2))||(neI (lenI r1.1.visits) 2))=false),oR True ((((((neI r1.2.2 0)||(neI r2.2.2 0))||(neI r3.2 0))||(neI r4.2.2 2))||(neI (lenI r1.1.visits) 2))=false),rp 2 (oI (((((((neI r1.2.2 0)||(neI r2.2.2 0))||(neI r3.2 0))||(neI r4.2.2 2))||(neI (lenI r1.1.visits) 2))||(neI (lenI r2.1.visits) 2))=false)),nL Qad.enc r3.1.routes,hP,hP,oI (((((((neI r1.2.2 0)||(neI r2.2.2 0))||(neI r3.2 0))||(neI r4.2.2 2))||(neI (lenI r1.1.visits) 2))||(neI (lenI r2.1.visits) 2))=false),oR True (((((((neI r1.2.2 0)||(neI r2.2.2 0))||(neI r3.2 0))||(neI r4.2.2 2))||(neI (lenI r1.1.visits) 2))||(neI (lenI r2.1.visits) 2))=false),bT h5]
 ·obtain ⟨x0,h6,h⟩:=Qae h
  rcases Qal h with ⟨h7,h⟩|⟨h7,h⟩
  ·obtain ⟨x1,h8,h⟩:=Qae h
   rcases Qal h with ⟨h9,h⟩|⟨h9,h⟩
   ·obtain ⟨x2,h10,h⟩:=Qae h
    rcases Qal h with ⟨h11,h⟩|⟨h11,h⟩
    ·obtain ⟨x3,h12,h⟩:=Qae h
     obtain rfl:=Option.some.inj h
     exact gr 21 [] [cC (QeL h0),hW 16,hH (.frz 3),hH (.nilS 22 2 1),rp 2 (oO (Eq.refl ([(Qab.mk 1 true)].map Qab.enc).length)),cC (QbK h1),hW 15,hH (.frz 5),hH (.frz 6),rp 2 (oO (Eq.refl ([false].map Qdt).length)),rp 2 (oO (Eq.refl ([(Qab.mk 1 true)].map Qab.enc).length)),cC (QbK h2),hW 12,hH (.frz 8),oO (Eq.refl ([0,1].map e_i64).length),cC (Qa8 h3),hW 10,hH (.nilS 45 2 1),hH (.nilS 45 3 2),cC (QbK h4),rp 12 hP,oI ((neI r1.2.2 0)=false),oR True ((neI r1.2.2 0)=false),oI (((neI r1.2.2 0)||(neI r2.2.2 0))=false),oR True (((neI r1.2.2 0)||(neI r2.2.2 0))=false),oI ((((neI r1.2.2 0)||(neI r2.2.2 0))||(neI r3.2 0))=false),oR True ((((neI r1.2.2 0)||(neI r2.2.2 0))||(neI r3.2 0))=false),rp 2 (oI (((((neI r1.2.2 0)||(neI r2.2.2 0))||(neI r3.2 0))||(neI r4.2.2 2))=false)),nL Qab.enc r1.1.visits,rp 5 hP,oI (((((neI r1.2.2 0)||(neI r2.2.2 0))||(neI r3.2 0))||(neI r4.2.2 2))=false),oR True (((((neI r1.2.2 0)||(neI r2.2.2 0))||(neI r3.2 0))||(neI r4.2.2 2))=false),rp 2 (oI ((((((neI r1.2.2 0)||(neI r2.2.2 0))||(neI r3.2 0))||(neI r4.2.2 2))||(neI (lenI r1.1.visits) 2))=false)),nL Qab.enc r2.1.visits,rp 5 hP,oI ((((((neI r1.2.2 0)||(neI r2.2.2 0))||(neI r3.2 0))||(neI r4.2.2 2))||(neI (lenI r1.1.visits) 2))=false),oR True ((((((neI r1.2.2 0)||(neI r2.2.2 0))||(neI r3.2 0))||(neI r4.2.2 2))||(neI (lenI r1.1.visits) 2))=false),rp 2 (oI (((((((neI r1.2.2 0)||(neI r2.2.2 0))||(neI r3.2 0))||(neI r4.2.2 2))||(neI (lenI r1.1.visits) 2))||(neI (lenI r2.1.visits) 2))=false)),nL Qad.enc r3.1.routes,hP,hP,oI (((((((neI r1.2.2 0)||(neI r2.2.2 0))||(neI r3.2 0))||(neI r4.2.2 2))||(neI (lenI r1.1.visits) 2))||(neI (lenI r2.1.visits) 2))=false),oR True (((((((neI r1.2.2 0)||(neI r2.2.2 0))||(neI r3.2 0))||(neI r4.2.2 2))||(neI (lenI r1.1.visits) 2))||(neI (lenI r2.1.visits) 2))=false),bF h5,hH (.draw 42 []),cE Qab.enc h6,hP,hP,hP,oI ((eqI x0.order 0&&(eqB x0.drop true&&true))=true),oR True ((eqI x0.order 0&&(eqB x0.drop true&&true))=true),rp 3 (bT h7),cE Qab.enc h8,rp 4 (bT h7),rp 3 (bT h9),cE Qab.enc h10,rp 4 (bT h9),rp 3 (bT h11),cE Qad.enc h12,rp 3 (bT h11),nL Qab.enc x3.visits,rp 2 (bT h11),hP,hP,hP,rp 2 (oI ((eqI (lenI x3.visits) 2)=true)),nL e_i64 r3.1.unserved,hP,hP,oI ((eqI (lenI x3.visits) 2)=true),oR True ((eqI (lenI x3.visits) 2)=true)]
    ·obtain rfl:=Option.some.inj h
     exact gr 21 [] [cC (QeL h0),hW 16,hH (.frz 3),hH (.nilS 22 2 1),rp 2 (oO (Eq.refl ([(Qab.mk 1 true)].map Qab.enc).length)),cC (QbK h1),hW 15,hH (.frz 5),hH (.frz 6),rp 2 (oO (Eq.refl ([false].map Qdt).length)),rp 2 (oO (Eq.refl ([(Qab.mk 1 true)].map Qab.enc).length)),cC (QbK h2),hW 12,hH (.frz 8),oO (Eq.refl ([0,1].map e_i64).length),cC (Qa8 h3),hW 10,hH (.nilS 45 2 1),hH (.nilS 45 3 2),cC (QbK h4),rp 12 hP,oI ((neI r1.2.2 0)=false),oR True ((neI r1.2.2 0)=false),oI (((neI r1.2.2 0)||(neI r2.2.2 0))=false),oR True (((neI r1.2.2 0)||(neI r2.2.2 0))=false),oI ((((neI r1.2.2 0)||(neI r2.2.2 0))||(neI r3.2 0))=false),oR True ((((neI r1.2.2 0)||(neI r2.2.2 0))||(neI r3.2 0))=false),rp 2 (oI (((((neI r1.2.2 0)||(neI r2.2.2 0))||(neI r3.2 0))||(neI r4.2.2 2))=false)),nL Qab.enc r1.1.visits,rp 5 hP,oI (((((neI r1.2.2 0)||(neI r2.2.2 0))||(neI r3.2 0))||(neI r4.2.2 2))=false),oR True (((((neI r1.2.2 0)||(neI r2.2.2 0))||(neI r3.2 0))||(neI r4.2.2 2))=false),rp 2 (oI ((((((neI r1.2.2 0)||(neI r2.2.2 0))||(neI r3.2 0))||(neI r4.2.2 2))||(neI (lenI r1.1.visits) 2))=false)),nL Qab.enc r2.1.visits,rp 5 hP,oI ((((((neI r1.2.2 0)||(neI r2.2.2 0))||(neI r3.2 0))||(neI r4.2.2 2))||(neI (lenI r1.1.visits) 2))=false),oR True ((((((neI r1.2.2 0)||(neI r2.2.2 0))||(neI r3.2 0))||(neI r4.2.2 2))||(neI (lenI r1.1.visits) 2))=false),rp 2 (oI (((((((neI r1.2.2 0)||(neI r2.2.2 0))||(neI r3.2 0))||(neI r4.2.2 2))||(neI (lenI r1.1.visits) 2))||(neI (lenI r2.1.visits) 2))=false)),nL Qad.enc r3.1.routes,hP,hP,oI (((((((neI r1.2.2 0)||(neI r2.2.2 0))||(neI r3.2 0))||(neI r4.2.2 2))||(neI (lenI r1.1.visits) 2))||(neI (lenI r2.1.visits) 2))=false),oR True (((((((neI r1.2.2 0)||(neI r2.2.2 0))||(neI r3.2 0))||(neI r4.2.2 2))||(neI (lenI r1.1.visits) 2))||(neI (lenI r2.1.visits) 2))=false),bF h5,hH (.draw 42 []),cE Qab.enc h6,hP,hP,hP,oI ((eqI x0.order 0&&(eqB x0.drop true&&true))=true),oR True ((eqI x0.order 0&&(eqB x0.drop true&&true))=true),rp 3 (bT h7),cE Qab.enc h8,rp 4 (bT h7),rp 3 (bT h9),cE Qab.enc h10,rp 4 (bT h9),rp 8 (bF h11),rp 5 fF]
   ·obtain rfl:=Option.some.inj h
    exact gr 21 [] [cC (QeL h0),hW 16,hH (.frz 3),hH (.nilS 22 2 1),rp 2 (oO (Eq.refl ([(Qab.mk 1 true)].map Qab.enc).length)),cC (QbK h1),hW 15,hH (.frz 5),hH (.frz 6),rp 2 (oO (Eq.refl ([false].map Qdt).length)),rp 2 (oO (Eq.refl ([(Qab.mk 1 true)].map Qab.enc).length)),cC (QbK h2),hW 12,hH (.frz 8),oO (Eq.refl ([0,1].map e_i64).length),cC (Qa8 h3),hW 10,hH (.nilS 45 2 1),hH (.nilS 45 3 2),cC (QbK h4),rp 12 hP,oI ((neI r1.2.2 0)=false),oR True ((neI r1.2.2 0)=false),oI (((neI r1.2.2 0)||(neI r2.2.2 0))=false),oR True (((neI r1.2.2 0)||(neI r2.2.2 0))=false),oI ((((neI r1.2.2 0)||(neI r2.2.2 0))||(neI r3.2 0))=false),oR True ((((neI r1.2.2 0)||(neI r2.2.2 0))||(neI r3.2 0))=false),rp 2 (oI (((((neI r1.2.2 0)||(neI r2.2.2 0))||(neI r3.2 0))||(neI r4.2.2 2))=false)),nL Qab.enc r1.1.visits,rp 5 hP,oI (((((neI r1.2.2 0)||(neI r2.2.2 0))||(neI r3.2 0))||(neI r4.2.2 2))=false),oR True (((((neI r1.2.2 0)||(neI r2.2.2 0))||(neI r3.2 0))||(neI r4.2.2 2))=false),rp 2 (oI ((((((neI r1.2.2 0)||(neI r2.2.2 0))||(neI r3.2 0))||(neI r4.2.2 2))||(neI (lenI r1.1.visits) 2))=false)),nL Qab.enc r2.1.visits,rp 5 hP,oI ((((((neI r1.2.2 0)||(neI r2.2.2 0))||(neI r3.2 0))||(neI r4.2.2 2))||(neI (lenI r1.1.visits) 2))=false),oR True ((((((neI r1.2.2 0)||(neI r2.2.2 0))||(neI r3.2 0))||(neI r4.2.2 2))||(neI (lenI r1.1.visits) 2))=false),rp 2 (oI (((((((neI r1.2.2 0)||(neI r2.2.2 0))||(neI r3.2 0))||(neI r4.2.2 2))||(neI (lenI r1.1.visits) 2))||(neI (lenI r2.1.visits) 2))=false)),nL Qad.enc r3.1.routes,hP,hP,oI (((((((neI r1.2.2 0)||(neI r2.2.2 0))||(neI r3.2 0))||(neI r4.2.2 2))||(neI (lenI r1.1.visits) 2))||(neI (lenI r2.1.visits) 2))=false),oR True (((((((neI r1.2.2 0)||(neI r2.2.2 0))||(neI r3.2 0))||(neI r4.2.2 2))||(neI (lenI r1.1.visits) 2))||(neI (lenI r2.1.visits) 2))=false),bF h5,hH (.draw 42 []),cE Qab.enc h6,hP,hP,hP,oI ((eqI x0.order 0&&(eqB x0.drop true&&true))=true),oR True ((eqI x0.order 0&&(eqB x0.drop true&&true))=true),rp 3 (bT h7),cE Qab.enc h8,rp 4 (bT h7),rp 7 (bF h9),rp 13 fF]
  ·obtain rfl:=Option.some.inj h
   exact gr 21 [] [cC (QeL h0),hW 16,hH (.frz 3),hH (.nilS 22 2 1),rp 2 (oO (Eq.refl ([(Qab.mk 1 true)].map Qab.enc).length)),cC (QbK h1),hW 15,hH (.frz 5),hH (.frz 6),rp 2 (oO (Eq.refl ([false].map Qdt).length)),rp 2 (oO (Eq.refl ([(Qab.mk 1 true)].map Qab.enc).length)),cC (QbK h2),hW 12,hH (.frz 8),oO (Eq.refl ([0,1].map e_i64).length),cC (Qa8 h3),hW 10,hH (.nilS 45 2 1),hH (.nilS 45 3 2),cC (QbK h4),rp 12 hP,oI ((neI r1.2.2 0)=false),oR True ((neI r1.2.2 0)=false),oI (((neI r1.2.2 0)||(neI r2.2.2 0))=false),oR True (((neI r1.2.2 0)||(neI r2.2.2 0))=false),oI ((((neI r1.2.2 0)||(neI r2.2.2 0))||(neI r3.2 0))=false),oR True ((((neI r1.2.2 0)||(neI r2.2.2 0))||(neI r3.2 0))=false),rp 2 (oI (((((neI r1.2.2 0)||(neI r2.2.2 0))||(neI r3.2 0))||(neI r4.2.2 2))=false)),nL Qab.enc r1.1.visits,rp 5 hP,oI (((((neI r1.2.2 0)||(neI r2.2.2 0))||(neI r3.2 0))||(neI r4.2.2 2))=false),oR True (((((neI r1.2.2 0)||(neI r2.2.2 0))||(neI r3.2 0))||(neI r4.2.2 2))=false),rp 2 (oI ((((((neI r1.2.2 0)||(neI r2.2.2 0))||(neI r3.2 0))||(neI r4.2.2 2))||(neI (lenI r1.1.visits) 2))=false)),nL Qab.enc r2.1.visits,rp 5 hP,oI ((((((neI r1.2.2 0)||(neI r2.2.2 0))||(neI r3.2 0))||(neI r4.2.2 2))||(neI (lenI r1.1.visits) 2))=false),oR True ((((((neI r1.2.2 0)||(neI r2.2.2 0))||(neI r3.2 0))||(neI r4.2.2 2))||(neI (lenI r1.1.visits) 2))=false),rp 2 (oI (((((((neI r1.2.2 0)||(neI r2.2.2 0))||(neI r3.2 0))||(neI r4.2.2 2))||(neI (lenI r1.1.visits) 2))||(neI (lenI r2.1.visits) 2))=false)),nL Qad.enc r3.1.routes,hP,hP,oI (((((((neI r1.2.2 0)||(neI r2.2.2 0))||(neI r3.2 0))||(neI r4.2.2 2))||(neI (lenI r1.1.visits) 2))||(neI (lenI r2.1.visits) 2))=false),oR True (((((((neI r1.2.2 0)||(neI r2.2.2 0))||(neI r3.2 0))||(neI r4.2.2 2))||(neI (lenI r1.1.visits) 2))||(neI (lenI r2.1.visits) 2))=false),bF h5,hH (.draw 42 []),cE Qab.enc h6,hP,hP,hP,oI ((eqI x0.order 0&&(eqB x0.drop true&&true))=true),oR True ((eqI x0.order 0&&(eqB x0.drop true&&true))=true),rp 7 (bF h7),rp 20 fF]
end Go.Proofs.YtpkkaboonnedfaaGreatDoor
