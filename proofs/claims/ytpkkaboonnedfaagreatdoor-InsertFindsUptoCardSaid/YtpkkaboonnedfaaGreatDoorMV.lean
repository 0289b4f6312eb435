/- Part MV of the proof: texts Y1. -/
import Derived.Test.YtpkkaboonnedfaaGreatDoorMU
import Derived.Test.YtpkkaboonnedfaaGreatDoorProg
namespace Go.Proofs.YtpkkaboonnedfaaGreatDoor
set_option linter.unusedVariables false
set_option linter.unusedSectionVars false
set_option linter.unusedSimpArgs false
set_option maxHeartbeats 4000000
set_option maxRecDepth 100000
def Qr9 (Γ:Gam) (rv:ByteArray) (cf:Cf):Prop:=Go Tryz.prog Tryz.f203 [] Γ (one (.str rv)) [] cf
theorem QjC (Γ:Gam) (rv:ByteArray) {i u} (h:Qgp i u=some rv):Qr9 Γ rv ⟨[.c 431,.c 7],⟨54,[vI 0 i,vP 5 0 24,(6,one (.int .u64 u))],[oX 24 249 [.int .u8 0,.int .u8 0,.int .u8 0,.int .u8 0,.int .u8 0,.int .u8 0,.int .u8 0,.int .u8 0,.int .u8 0,.int .u8 0,.int .u8 0,.int .u8 0,.int .u8 0,.int .u8 0,.int .u8 0,.int .u8 0,.int .u8 0,.int .u8 0,.int .u8 0,.int .u8 0,.int .u8 0,.int .u8 0,.int .u8 0,.int .u8 0]]⟩⟩:=by
 unfold Qgp at h
 obtain ⟨r1,h4,h⟩:=Qae h
 cases h
theorem QrC {i base} {rv:ByteArray} (h:Qk3 i base=some rv):AFn Tryz.prog 203 [.one (lI i),.one (lI base)] [] (one (.str rv)) []:=by
 refine QaK Tryz.func203 (by kernel_rfl) (by kernel_rfl) (fun Γ=>?_)
 unfold Qk3 at h
 rcases Qah h with ⟨h0,h⟩|⟨h0,h⟩
 ·rcases Qah h with ⟨h1,h⟩|⟨h1,h⟩
  ·obtain ⟨r,h2,h⟩:=Qae h
   obtain rfl:=Option.some.inj h
   exact gr 12 [] [bT h0,hP,hP,hP,oI ((leI 0 i)=true),oR True ((leI 0 i)=true),bT h1,cC (Qt5 h2)]
  ·rcases Qah h with ⟨h3,h⟩|⟨h3,h⟩
   ·exact gn 20 [0,5,6] [0] [bT h0,hP,hP,hP,oI ((leI 0 i)=true),oR True ((leI 0 i)=true),bF h1,bT h3] (QjC Γ rv h)
   ·exact gn 20 [0,5,6] [0] [bT h0,hP,hP,hP,oI ((leI 0 i)=true),oR True ((leI 0 i)=true),bF h1,bF h3] (QjC Γ rv h)
 ·cases h
theorem Qul {i} {rv:ByteArray} (h:QrD i=some rv):AFn Tryz.prog 202 [.one (lI i)] [] (one (.str rv)) []:=by
 refine QaK Tryz.func202 (by kernel_rfl) (by kernel_rfl) (fun Γ=>?_)
 unfold QrD at h
 obtain ⟨r,h0,h⟩:=Qae h
 obtain rfl:=Option.some.inj h
 exact gr 4 [] [cC (QrC h0)]
theorem Qo7 {i} {rv:ByteArray} (h:Ql0 i=some rv):AFn Tryz.prog 200 [.one (lI i)] [] (one (.str rv)) []:=by
 refine QaK Tryz.func200 (by kernel_rfl) (by kernel_rfl) (fun Γ=>?_)
 unfold Ql0 at h
 obtain ⟨r,h0,h⟩:=Qae h
 obtain rfl:=Option.some.inj h
 exact gr 4 [] [cC (Qul h0)]
def Ql1 (Γ:Gam) (rv:List Qab) (cf:Cf):Prop:=Go Tryz.prog Tryz.f194 [] Γ (one (lL 2 rv Qab.enc)) [] cf
def Qk4 (Γ:Gam) (rv:List Qab) (l:List Qam) (l2:List Qab) (v:Int):Prop:=Ql1 Γ rv ⟨[.c 244,.l 244,.b 0,.c 31],⟨83,[vL 0 2 l Qam.enc,vO 3 0 2 l2 Qab.enc,vL 19 2 l Qam.enc,vI 20 (lenI l),vI 21 v],[oS 2 146 l2 Qab.enc]⟩⟩
def QjN (Γ:Gam) (rv:List Qab) (l:List Qam) (l4:List Qab):Prop:=Ql1 Γ rv ⟨[.c 31],⟨83,[vO 3 0 2 l4 Qab.enc],[oS 2 146 l4 Qab.enc]⟩⟩
theorem Qom (Γ:Gam) (rv:List Qab) {l v x0 r l3} {x:(List Qab×Int)⊕(List Qab)} (h:Qh2 l v x0 r l3=some x) (hI:∀ s:List Qab×Int,x=.inl s→Qk4 Γ rv l s.1 s.2) (hE:∀ e:List Qab,x=.inr e→QjN Γ rv l e):Ql1 Γ rv ⟨[.c 31335,.b 1,.c 1959,.l 244,.b 0,.c 31],⟨83,[vL 0 2 l Qam.enc,vO 3 0 2 l3 Qab.enc,vI 4 v,vP 5 1 2,vS 6 r,vL 19 2 l Qam.enc,vI 20 (lenI l),vI 21 v],[oS 2 146 l3 Qab.enc,oX 2 119 (Qam.enc x0)]⟩⟩:=by
 unfold Qh2 at h
 rcases Qah h with ⟨h8,h⟩|⟨h8,h⟩
 ·obtain ⟨x1,h9,h⟩:=Qae h
  rcases Qah h with ⟨h10,h⟩|⟨h10,h⟩
  ·obtain ⟨h11,h⟩:=Qat h
   exact gn 7 [0,3,19,20,21] [3] [hH (.draw 24 []),rp 6 (bT h8),cE Qam.enc h9,rp 4 (bT h8),rp 9 (bT h10),bT h8,bT h10,bT h8,tT,oO (Eq.refl ([(Qab.mk 13 r)].map Qab.enc).length),aO Qab.enc h11] (hI _ (oJ h))
  ·rcases Qah h with ⟨h12,h⟩|⟨h12,h⟩
   ·obtain ⟨h13,h⟩:=Qat h
    exact gn 7 [0,3,19,20,21] [3] [hH (.draw 24 []),rp 6 (bT h8),cE Qam.enc h9,rp 4 (bT h8),rp 6 (bF h10),cE Qam.enc h9,rp 3 (bF h10),bT h8,bF h10,bT h8,bT h12,oO (Eq.refl ([(Qab.mk 13 r)].map Qab.enc).length),aO Qab.enc h13] (hI _ (oJ h))
   ·exact gn 7 [0,3,19,20,21] [0] [hH (.draw 24 []),rp 6 (bT h8),cE Qam.enc h9,rp 4 (bT h8),rp 6 (bF h10),cE Qam.enc h9,rp 3 (bF h10),bT h8,bF h10,bT h8,bF h12] (hI _ (oJ h))
 ·exact gn 7 [0,3,19,20,21] [0] [hH (.draw 24 []),rp 10 (bF h8),rp 9 kF,bF h8,bF h8,fF] (hI _ (oJ h))
theorem QsC (Γ:Gam) (rv:List Qab) {l} {s:List Qab×Int} {e:List Qab} (h:loopF (fun s=>QdS l s.1 s.2) s=some e) (hD:QjN Γ rv l e):Qk4 Γ rv l s.1 s.2:=by
 refine QaF (C:=fun (s:List Qab×Int)=>Qk4 Γ rv l s.1 s.2) (D:=fun (e:List Qab)=>QjN Γ rv l e) ?_ h hD
 clear h hD s e
 rintro ⟨l2,v⟩ z_ h hI hE
 replace h:QdS l l2 v=_:=h
 unfold QdS at h
 rcases Qah h with ⟨h2,h⟩|⟨h2,h⟩
 ·obtain ⟨x0,h3,h⟩:=Qae h
  obtain ⟨r,h4,h⟩:=Qae h
  obtain ⟨r1,h5,h⟩:=Qae h
  rcases Qah h with ⟨h6,h⟩|⟨h6,h⟩
  ·obtain ⟨h7,h⟩:=Qat h
   exact gn 16 [0,3,4,5,6,19,20,21] [3,1] [bT h2,cE Qam.enc h3,cC (Qo7 h4),cC (Qhq h5),rp 13 hP,rp 4 (oI ((!r1)=false)),oR True ((!r1)=false),rp 5 (oI (((!r1)||(ltI x0.a x0.t))=false)),oR True (((!r1)||(ltI x0.a x0.t))=false),bT h6,oO (Eq.refl ([(Qab.mk 2 r)].map Qab.enc).length),aO Qab.enc h7] (Qom Γ rv h hI hE)
  ·exact gn 16 [0,3,4,5,6,19,20,21] [0,1] [bT h2,cE Qam.enc h3,cC (Qo7 h4),cC (Qhq h5),rp 13 hP,rp 4 (oI ((!r1)=false)),oR True ((!r1)=false),rp 5 (oI (((!r1)||(ltI x0.a x0.t))=false)),oR True (((!r1)||(ltI x0.a x0.t))=false),bF h6] (Qom Γ rv h hI hE)
 ·exact gn 5 [3] [0] [bF h2] (hE _ (oJ h))
theorem Qol (Γ:Gam) (rv:List Qab) {l l1} (h:Qh1 l l1=some rv):Ql1 Γ rv ⟨[.c 15],⟨83,[vL 0 2 l Qam.enc,vO 3 0 2 l1 Qab.enc],[oS 2 146 l1 Qab.enc]⟩⟩:=by
 unfold Qh1 at h
 obtain ⟨e0,h14,h⟩:=Qae h
 refine gn 5 [0,3,19,20,21] [0] [nL Qam.enc l] (QsC Γ rv h14 ?_)
 obtain ⟨l4,rfl⟩:∃ x,x=e0:=⟨_,rfl⟩
 replace h:(some l4:Option (List Qab))=some _:=h
 obtain rfl:=Option.some.inj h
 exact gr 2 [] [hW 4,hH (.frz 0),rp 3 (eL l4 Qab.enc)]
theorem Qum {l} {rv:List Qab} (h:QmO l=some rv):AFn Tryz.prog 194 [.one (lL 2 l Qam.enc)] [] (one (lL 2 rv Qab.enc)) []:=by
 refine QaK Tryz.func194 (by kernel_rfl) (by kernel_rfl) (fun Γ=>?_)
 unfold QmO at h
 rcases Qah h with ⟨h0,h⟩|⟨h0,h⟩
 ·obtain ⟨h1,h⟩:=Qat h
  exact gn 9 [0,3] [1] [nL Qam.enc l,hP,hP,oI ((eqI (lenI l) 0)=false),nL Qam.enc l,hP,hP,oI ((eqI (lenI l) 0)=false),oR True ((eqI (lenI l) 0)=false),bT h0,oO (Eq.refl ([(Qab.mk 4 ByteArray.empty)].map Qab.enc).length),aN (l:=([(Qab.mk 4 ByteArray.empty)]:List Qab)) Qab.enc h1] (Qol Γ rv h)
 ·exact gn 9 [0,3] [0] [nL Qam.enc l,hP,hP,oI ((eqI (lenI l) 0)=false),nL Qam.enc l,hP,hP,oI ((eqI (lenI l) 0)=false),oR True ((eqI (lenI l) 0)=false),bF h0,hW 1,hH (.adopt 3 2 146)] (Qol Γ rv h)
theorem Qrf {l} {rv:Bool} (h:QmP l=some rv):AFn Tryz.prog 191 [.one (lL 2 l Qam.enc)] [] (one (.bool rv)) []:=by
 refine QaK Tryz.func191 (by kernel_rfl) (by kernel_rfl) (fun Γ=>?_)
 unfold QmP at h
 obtain ⟨r,h0,h⟩:=Qae h
 obtain rfl:=Option.some.inj h
 exact gr 4 [] [cC (Qum h0),nL Qab.enc r]
theorem QjO {p t} {rv:Int} (h:QfI p t=some rv):AFn Tryz.prog 196 [.agg (Qam.enc p),.one (lI t)] [] (one (lI rv)) []:=by
 refine QaK Tryz.func196 (by kernel_rfl) (by kernel_rfl) (fun Γ=>?_)
 unfold QfI at h
 obtain rfl:=Option.some.inj h
 exact gr 4 [] []
def QbO (Γ:Gam) (rv:Int×Bool) (cf:Cf):Prop:=Go Tryz.prog Tryz.f195 [] Γ (.tup [.one (lI rv.1),.one (.bool rv.2)]) [] cf
def QbL (Γ:Gam) (rv:Int×Bool) (x0:List Qam) (target:Int) (i:Int) (j:Int):Prop:=QbO Γ rv ⟨[.c 120,.l 120,.b 0,.c 31],⟨49,[vL 0 2 x0 Qam.enc,vI 1 target,(2,one (.fn (.func 196) [])),vI 8 (lenI x0),vI 9 i,vI 10 j],[]⟩⟩
def QbC (Γ:Gam) (rv:Int×Bool) (x0:List Qam) (target:Int) (i1:Int):Prop:=QbO Γ rv ⟨[.c 31],⟨49,[vL 0 2 x0 Qam.enc,vI 1 target,(2,one (.fn (.func 196) [])),vI 8 (lenI x0),vI 9 i1],[]⟩⟩
theorem Qdi (Γ:Gam) (rv:Int×Bool) {x0 target} {s:Int×Int} {e:Int} (h:loopF (fun s=>QaH x0 target s.1 s.2) s=some e) (hD:QbC Γ rv x0 target e):QbL Γ rv x0 target s.1 s.2:=by
 refine QaF (C:=fun (s:Int×Int)=>QbL Γ rv x0 target s.1 s.2) (D:=fun (e:Int)=>QbC Γ rv x0 target e) ?_ h hD
 clear h hD s e
 rintro ⟨i,j⟩ z_ h hI hE
 replace h:QaH x0 target i j=_:=h
 unfold QaH at h
 rcases Qah h with ⟨h0,h⟩|⟨h0,h⟩
 ·obtain ⟨x1,h1,h⟩:=Qae h
  obtain ⟨r,h2,h⟩:=Qae h
  rcases Qah h with ⟨h3,h⟩|⟨h3,h⟩
  ·exact gn 14 [0,1,2,8,9,10] [] [bT h0,oO (zL 1),cE Qam.enc h1,cC (QjO h2),bT h3] (hI _ (oJ h))
  ·exact gn 14 [0,1,2,8,9,10] [] [bT h0,oO (zL 1),cE Qam.enc h1,cC (QjO h2),bF h3] (hI _ (oJ h))
 ·exact gn 5 [0,1,2,8,9] [] [bF h0] (hE _ (oJ h))
theorem QaX {x0 target} {rv:Int×Bool} (h:Qa0 x0 target=some rv):AFn Tryz.prog 195 [.one (lL 2 x0 Qam.enc),.one (lI target),.one (.fn (.func 196) [])] [] (.tup [.one (lI rv.1),.one (.bool rv.2)]) []:=by
 refine QaK Tryz.func195 (by kernel_rfl) (by kernel_rfl) (fun Γ=>?_)
 unfold Qa0 at h
 obtain ⟨e0,h4,h⟩:=Qae h
 refine gn 9 [0,1,2,8,9,10] [] [nL Qam.enc x0] (Qdi Γ rv h4 ?_)
 obtain ⟨i1,rfl⟩:∃ x,x=e0:=⟨_,rfl⟩
 replace h:(br (ltI i1 (lenI x0)) (bnd (getI x0 i1) fun x2=>bnd (QfI x2 target) fun r1=>some (i1,(eqI r1 0))) (some (i1,false)):Option (Int×Bool))=some _:=h
 rcases Qah h with ⟨h5,h⟩|⟨h5,h⟩
 ·obtain ⟨x2,h6,h⟩:=Qae h
  obtain ⟨r1,h7,h⟩:=Qae h
  obtain rfl:=Option.some.inj h
  exact gr 2 [] [rp 4 (bT h5),cE Qam.enc h6,rp 3 (bT h5),cC (QjO h7),bT h5,bT h5]
 ·obtain rfl:=Option.some.inj h
  exact gr 2 [] [rp 9 (bF h5)]
theorem Qua {l t} {rv:Int} (h:QkS l t=some rv):AFn Tryz.prog 192 [.one (lL 2 l Qam.enc),.one (lI t)] [] (one (lI rv)) []:=by
 refine QaK Tryz.func192 (by kernel_rfl) (by kernel_rfl) (fun Γ=>?_)
 unfold QkS at h
 obtain ⟨r,h0,h⟩:=Qae h
 rcases Qah h with ⟨h1,h⟩|⟨h1,h⟩
 ·obtain ⟨x0,h2,h⟩:=Qae h
  obtain rfl:=Option.some.inj h
  exact gr 11 [] [cC (QaX h0),bT h1,cE Qam.enc h2]
 ·rcases Qah h with ⟨h3,h⟩|⟨h3,h⟩
  ·obtain ⟨x1,h4,h⟩:=Qae h
   obtain rfl:=Option.some.inj h
   exact gr 14 [] [cC (QaX h0),bF h1,bT h3,hH (.draw 12 []),rp 2 (cE Qam.enc h4)]
  ·rcases Qah h with ⟨h5,h⟩|⟨h5,h⟩
   ·obtain ⟨x2,h6,h⟩:=Qae h
    obtain rfl:=Option.some.inj h
    exact gr 17 [] [cC (QaX h0),bF h1,bF h3,nL Qam.enc l,bT h5,hH (.draw 16 []),rp 2 (cE Qam.enc h6)]
   ·obtain ⟨x3,h7,h⟩:=Qae h
    obtain ⟨x4,h8,h⟩:=Qae h
    obtain ⟨h9,h⟩:=Qat h
    obtain rfl:=Option.some.inj h
    exact gr 23 [] [cC (QaX h0),bF h1,bF h3,nL Qam.enc l,bF h5,hH (.draw 13 [(0,11),(1,12)]),cE Qam.enc h7,cE Qam.enc h8,hH (.draw 19 []),oO (h9)]
theorem Qt9 {l t} {rv:Int} (h:QkR l t=some rv):AFn Tryz.prog 187 [.one (lL 2 l Qam.enc),.one (lI t)] [] (one (lI rv)) []:=by
 refine QaK Tryz.func187 (by kernel_rfl) (by kernel_rfl) (fun Γ=>?_)
 unfold QkR at h
 obtain ⟨r,h0,h⟩:=Qae h
 rcases Qah h with ⟨h1,h⟩|⟨h1,h⟩
 ·obtain ⟨r1,h2,h⟩:=Qae h
  rcases Qah h with ⟨h3,h⟩|⟨h3,h⟩
  ·obtain ⟨r2,h4,h⟩:=Qae h
   obtain rfl:=Option.some.inj h
   exact gr 9 [] [cC (Qhq h0),nF h1,nF h1,cC (Qrf h2),nF h1,nF h1,nF h3,cC (Qua h4)]
  ·obtain rfl:=Option.some.inj h
   exact gr 8 [] [cC (Qhq h0),nF h1,nF h1,cC (Qrf h2),nF h1,nF h1,nT h3]
 ·obtain rfl:=Option.some.inj h
  exact gr 8 [] [cC (Qhq h0),rp 4 (nT h1),tT]
def QoZ (Γ:Gam) (rv:Int) (cf:Cf):Prop:=Go Tryz.prog Tryz.f181 [] Γ (one (lI rv)) [] cf
def QmA (Γ:Gam) (rv:Int) (a:Qaq) (t:Int) (out:Int) (v:Int):Prop:=QoZ Γ rv ⟨[.c 116,.l 116,.b 0,.c 15],⟨29,[vI 1 t,vI 5 out,vL 13 2 a.slow Qam.enc,vI 14 (lenI a.slow),vI 15 v],[]⟩⟩
def QlL (Γ:Gam) (rv:Int) (a:Qaq) (t:Int) (out1:Int):Prop:=QoZ Γ rv ⟨[.c 15],⟨29,[vI 5 out1],[]⟩⟩
theorem QqV (Γ:Gam) (rv:Int) {a t} {s:Int×Int} {e:Int} (h:loopF (fun s=>QhA a t s.1 s.2) s=some e) (hD:QlL Γ rv a t e):QmA Γ rv a t s.1 s.2:=by
 refine QaF (C:=fun (s:Int×Int)=>QmA Γ rv a t s.1 s.2) (D:=fun (e:Int)=>QlL Γ rv a t e) ?_ h hD
 clear h hD s e
 rintro ⟨out,v⟩ z_ h hI hE
 replace h:QhA a t out v=_:=h
 unfold QhA at h
 rcases Qah h with ⟨h1,h⟩|⟨h1,h⟩
 ·obtain ⟨x0,h2,h⟩:=Qae h
  rcases Qah h with ⟨h3,h⟩|⟨h3,h⟩
  ·exact gn 16 [1,5,13,14,15] [] [bT h1,cE Qam.enc h2,bT h3] (hI _ (oJ h))
  ·exact gn 16 [1,5,13,14,15] [] [bT h1,cE Qam.enc h2,bF h3] (hI _ (oJ h))
 ·exact gn 5 [5] [] [bF h1] (hE _ (oJ h))
theorem Qsq {a t} {rv:Int} (h:QhX a t=some rv):AFn Tryz.prog 181 [.agg (Qaq.enc a),.one (lI t)] [] (one (lI rv)) []:=by
 refine QaK Tryz.func181 (by kernel_rfl) (by kernel_rfl) (fun Γ=>?_)
 unfold QhX at h
 obtain ⟨r,h0,h⟩:=Qae h
 obtain ⟨e0,h4,h⟩:=Qae h
 refine gn 9 [1,5,13,14,15] [] [cC (Qt9 h0),nL Qam.enc a.slow] (QqV Γ rv h4 ?_)
 obtain ⟨out1,rfl⟩:∃ x,x=e0:=⟨_,rfl⟩
 replace h:(some out1:Option Int)=some _:=h
 obtain rfl:=Option.some.inj h
 exact gr 2 [] []
theorem QkL {n profile from_ to_ t} {rv:Int×Int×Int} (h:Qoc n profile from_ to_ t=some rv):AFn Tryz.prog 168 [.agg (Qak.enc n),.one (lI profile),.one (lI from_),.one (lI to_),.one (lI t)] [] (.tup [.one (lI rv.1),.one (lI rv.2.1),.one (lI rv.2.2)]) []:=by
 refine QaK Tryz.func168 (by kernel_rfl) (by kernel_rfl) (fun Γ=>?_)
 unfold Qoc at h
 obtain ⟨r,h0,h⟩:=Qae h
 rcases Qah h with ⟨h1,h⟩|⟨h1,h⟩
 ·obtain ⟨r1,h2,h⟩:=Qae h
  rcases Qah h with ⟨h3,h⟩|⟨h3,h⟩
  ·rcases Qah h with ⟨h4,h⟩|⟨h4,h⟩
   ·obtain rfl:=Option.some.inj h
    exact gr 13 [] [cC (Qdm h0),rp 3 (nF h1),cC (Qdm h2),nF h1,nF h1,nF h3,bT h4]
   ·obtain ⟨r2,h5,h⟩:=Qae h
    rcases Qah h with ⟨h6,h⟩|⟨h6,h⟩
    ·obtain ⟨r3,h7,h⟩:=Qae h
     obtain rfl:=Option.some.inj h
     exact gr 21 [] [cC (Qdm h0),rp 3 (nF h1),cC (Qdm h2),nF h1,nF h1,nF h3,bF h4,cC (Qrb h5),nF h6,hH (.draw 8 []),cC (Qsq h7)]
    ·obtain rfl:=Option.some.inj h
     exact gr 20 [] [cC (Qdm h0),rp 3 (nF h1),cC (Qdm h2),nF h1,nF h1,nF h3,bF h4,cC (Qrb h5),nT h6]
  ·obtain rfl:=Option.some.inj h
   exact gr 8 [] [cC (Qdm h0),rp 3 (nF h1),cC (Qdm h2),nF h1,nF h1,nT h3]
 ·obtain rfl:=Option.some.inj h
  exact gr 8 [] [cC (Qdm h0),rp 5 (nT h1),tT]
theorem Qfe {p visits} {rv:Int} (h:QfO p visits=some rv):AFn Tryz.prog 169 [.agg (Qaw.enc p),.one (lI visits)] [] (one (lI rv)) []:=by
 refine QaK Tryz.func169 (by kernel_rfl) (by kernel_rfl) (fun Γ=>?_)
 unfold QfO at h
 rcases Qah h with ⟨h0,h⟩|⟨h0,h⟩
 ·obtain rfl:=Option.some.inj h
  exact gr 8 [] [bT h0]
 ·obtain ⟨x0,h1,h⟩:=Qae h
  obtain rfl:=Option.some.inj h
  exact gr 9 [] [bF h0,cE Qau.enc h1]
theorem Qrg {s0 arrive} {rv:Int×Int} (h:QoE s0 arrive=some rv):AFn Tryz.prog 170 [.agg (Qau.enc s0),.one (lI arrive)] [] (.tup [.one (lI rv.1),.one (lI rv.2)]) []:=by
 refine QaK Tryz.func170 (by kernel_rfl) (by kernel_rfl) (fun Γ=>?_)
 unfold QoE at h
 rcases Qah h with ⟨h0,h⟩|⟨h0,h⟩
 ·obtain rfl:=Option.some.inj h
  exact gr 10 [] [bT h0]
 ·obtain rfl:=Option.some.inj h
  exact gr 11 [] [bF h0]
theorem QdZ {s0} {rv:List Qap} (h:Qbt s0=some rv):AFn Tryz.prog 167 [.one (lL 4 s0 Qap.enc)] [] (one (lO 0 4 rv Qap.enc)) [oS 4 213 rv Qap.enc]:=by
 refine QaK Tryz.func167 (by kernel_rfl) (by kernel_rfl) (fun Γ=>?_)
 unfold Qbt at h
 rcases Qah h with ⟨h0,h⟩|⟨h0,h⟩
 ·obtain ⟨hx,h⟩:=Qv1 h
  refine gn 5 [0,4] [] [hH (.skip)] (cf':=⟨[.c 13,.c 7],⟨8,[vL 0 4 s0 Qap.enc,(4,.boo)],[]⟩⟩) (go_amb 4 rfl ?_ ?_)
  ·replace h:=hx
   obtain rfl:=Option.some.inj h
   exact gr 3 [0] [tT,hW 3,hH (.adopt 2 4 213)]
  ·obtain ⟨h1,h⟩:=Qat h
   obtain rfl:=Option.some.inj h
   exact gr 4 [0] [fF,aZ Qap.enc h1]
 ·obtain ⟨h2,h⟩:=Qat h
  obtain rfl:=Option.some.inj h
  exact gr 9 [0] [oO (neE Qap.enc h0),fF,hH (.bit false),aZ Qap.enc h2]
def Qh3 (Γ:Gam) (rv:Qaf×Int) (cf:Cf):Prop:=Go Tryz.prog Tryz.f144 [] Γ (.tup [.agg [lI rv.1.ready,lI rv.1.since,.bool rv.1.sheet.rest_,lI rv.1.sheet.depart,lL 4 rv.1.sheet.times Qap.enc,lI rv.1.sheet.end_,lI rv.1.sheet.miles],.one (lI rv.2)]) [] cf
theorem Qlc (Γ:Gam) (rv:Qaf×Int) {p l depart since rest_1 depart1 r2 l2 ready end_} (h:QeF p l depart since rest_1 depart1 r2 l2 ready end_=some rv):Qh3 Γ rv ⟨[.c 32767],⟨163,[vP 4 0 25,vP 8 1 7,vP 12 2 7],[oX 25 174 (Qaw.enc p),oX 7 178 [lI 0,lI 0,.bool false,lI 0,.nils,lI 0,lI 0],oX 7 178 [lI ready,lI (subK .i64 (addK .i64 since r2.1) depart),.bool rest_1,lI depart1,lO 3 4 l2 Qap.enc,lI end_,lI (addK .i64 l.sheet.miles r2.2.1)],oS 4 213 l2 Qap.enc]⟩⟩:=by
 unfold QeF at h
 rcases Qah h with ⟨h15,h⟩|⟨h15,h⟩
 ·obtain rfl:=Option.some.inj h
  exact gr 6 [] [bT h15,hW 5,hH (.nilB 1 4 4)]
 ·obtain rfl:=Option.some.inj h
  exact gr 7 [] [bF h15,hW 6,hH (.frz 3),rp 3 (eL l2 Qap.enc)]
theorem Qlb (Γ:Gam) (rv:Qaf×Int) {p l done depart since l1 rest_1 depart1 to_} (h:QdB p l done depart since l1 rest_1 depart1 to_=some rv):Qh3 Γ rv ⟨[.c 1023],⟨163,[vI 2 done,vP 4 0 25,vP 8 1 7,vI 10 depart,vI 11 since,vP 12 2 7,vB 13 (eqI done (lenI p.stops)),vI 14 to_],[oX 25 174 (Qaw.enc p),oX 7 178 [lI 0,lI 0,.bool false,lI 0,.nils,lI 0,lI 0],oX 7 178 [lI 0,lI 0,.bool rest_1,lI depart1,lO 3 4 l1 Qap.enc,lI l.sheet.end_,lI l.sheet.miles],oS 4 213 l1 Qap.enc]⟩⟩:=by
 unfold QdB at h
 obtain ⟨r1,h6,h⟩:=Qae h
 obtain ⟨r2,h7,h⟩:=Qae h
 rcases Qah h with ⟨h8,h⟩|⟨h8,h⟩
 ·obtain rfl:=Option.some.inj h
  exact gr 8 [] [hH (.draw 19 []),cC (Qfe h6),cC (QkL h7),bT h8,hW 5,hH (.nilB 1 4 4)]
 ·rcases Qah h with ⟨h9,h⟩|⟨h9,h⟩
  ·rcases Qah h with ⟨h10,h⟩|⟨h10,h⟩
   ·obtain rfl:=Option.some.inj h
    exact gr 21 [] [hH (.draw 19 []),cC (Qfe h6),cC (QkL h7),bF h8,bT h9,bT h10,hW 5,hH (.nilB 1 4 4)]
   ·exact gn 23 [4,8,12] [0,1,2,3] [hH (.draw 19 []),cC (Qfe h6),cC (QkL h7),bF h8,bT h9,bF h10] (Qlc Γ rv h)
  ·obtain ⟨x2,h11,h⟩:=Qae h
   obtain ⟨r3,h12,h⟩:=Qae h
   rcases Qah h with ⟨h13,h⟩|⟨h13,h⟩
   ·obtain rfl:=Option.some.inj h
    exact gr 23 [] [hH (.draw 19 []),cC (Qfe h6),cC (QkL h7),bF h8,bF h9,cE Qau.enc h11,cC (Qrg h12),bT h13,hW 5,hH (.nilB 1 4 4)]
   ·obtain ⟨h14,h⟩:=Qat h
    exact gn 25 [4,8,12] [0,1,2,5] [hH (.draw 19 []),cC (Qfe h6),cC (QkL h7),bF h8,bF h9,cE Qau.enc h11,cC (Qrg h12),bF h13,cE Qau.enc h11,oO (Eq.refl ([(Qap.mk r2.1 r3.1 0 false)].map Qap.enc).length),aO Qap.enc h14] (Qlc Γ rv h)
theorem Qla (Γ:Gam) (rv:Qaf×Int) {p l done depart since l1 rest_1 depart1} (h:QeE p l done depart since l1 rest_1 depart1=some rv):Qh3 Γ rv ⟨[.c 127],⟨163,[vI 2 done,vP 4 0 25,vP 8 1 7,vI 10 depart,vI 11 since,vP 12 2 7],[oX 25 174 (Qaw.enc p),oX 7 178 [lI 0,lI 0,.bool false,lI 0,.nils,lI 0,lI 0],oX 7 178 [lI 0,lI 0,.bool rest_1,lI depart1,lO 3 4 l1 Qap.enc,lI l.sheet.end_,lI l.sheet.miles],oS 4 213 l1 Qap.enc]⟩⟩:=by
 unfold QeE at h
 rcases Qah h with ⟨h4,h⟩|⟨h4,h⟩
 ·exact gn 9 [2,4,8,10,11,12,13,14] [0,1,2,3] [nL Qau.enc p.stops,nF h4] (Qlb Γ rv h)
 ·obtain ⟨x1,h5,h⟩:=Qae h
  exact gn 9 [2,4,8,10,11,12,13,14] [0,1,2,3] [nL Qau.enc p.stops,nT h4,cE Qau.enc h5] (Qlb Γ rv h)
theorem Qk9 (Γ:Gam) (rv:Qaf×Int) {p l done rest_ depart since} (h:QeD p l done rest_ depart since=some rv):Qh3 Γ rv ⟨[.c 15],⟨163,[vI 2 done,vB 3 rest_,vP 4 0 25,vP 5 1 7,vP 8 2 7,vI 10 depart,vI 11 since],[oX 25 174 (Qaw.enc p),oX 7 178 (Qaf.enc l),oX 7 178 [lI 0,lI 0,.bool false,lI 0,.nils,lI 0,lI 0]]⟩⟩:=by
 unfold QeD at h
 obtain ⟨r,h1,h⟩:=Qae h
 rcases Qah h with ⟨h2,h⟩|⟨h2,h⟩
 ·exact gn 11 [2,4,8,10,11,12] [0,2,3,4] [cC (QdZ h1),bT h2] (Qla Γ rv h)
 ·obtain ⟨x0,h3,h⟩:=Qae h
  exact gn 11 [2,4,8,10,11,12] [0,2,3,4] [cC (QdZ h1),bF h2,oO (getLo h3),oO (getHi Qap.enc h3),rE Qap.enc h3,hH (.rows ((setI r (subK .i64 done 1) (Qap.mk x0.arrive x0.begin x0.depart rest_)).map Qap.enc)),hH (.relen 4 ((setI r (subK .i64 done 1) (Qap.mk x0.arrive x0.begin x0.depart rest_)).map Qap.enc).length),oO (setM Qap.enc r (subK .i64 done 1) (Qap.mk x0.arrive x0.begin x0.depart rest_)),rp 3 (oO (Qvw Qap.enc r (subK .i64 done 1) (Qap.mk x0.arrive x0.begin x0.depart rest_))),oO (getLo (QBz h3 (Qap.mk x0.arrive x0.begin x0.depart rest_))),oO (getHi Qap.enc (QBz h3 (Qap.mk x0.arrive x0.begin x0.depart rest_))),rE Qap.enc (QBz h3 (Qap.mk x0.arrive x0.begin x0.depart rest_)),hH (.rows ((setI (setI r (subK .i64 done 1) (Qap.mk x0.arrive x0.begin x0.depart rest_)) (subK .i64 done 1) (Qap.mk x0.arrive x0.begin depart rest_)).map Qap.enc)),hH (.relen 4 ((setI (setI r (subK .i64 done 1) (Qap.mk x0.arrive x0.begin x0.depart rest_)) (subK .i64 done 1) (Qap.mk x0.arrive x0.begin depart rest_)).map Qap.enc).length),oO (setM Qap.enc (setI r (subK .i64 done 1) (Qap.mk x0.arrive x0.begin x0.depart rest_)) (subK .i64 done 1) (Qap.mk x0.arrive x0.begin depart rest_)),rp 4 (oO (Qvw Qap.enc (setI r (subK .i64 done 1) (Qap.mk x0.arrive x0.begin x0.depart rest_)) (subK .i64 done 1) (Qap.mk x0.arrive x0.begin depart rest_)))] (Qla Γ rv h)
theorem QfN {p l done rest_} {rv:Qaf×Int} (h:Qey p l done rest_=some rv):AFn Tryz.prog 144 [.agg (Qaw.enc p),.agg (Qaf.enc l),.one (lI done),.one (.bool rest_)] [] (.tup [.agg [lI rv.1.ready,lI rv.1.since,.bool rv.1.sheet.rest_,lI rv.1.sheet.depart,lL 4 rv.1.sheet.times Qap.enc,lI rv.1.sheet.end_,lI rv.1.sheet.miles],.one (lI rv.2)]) []:=by
 refine QaK Tryz.func144 (by kernel_rfl) (by kernel_rfl) (fun Γ=>?_)
 unfold Qey at h
 rcases Qah h with ⟨h0,h⟩|⟨h0,h⟩
 ·exact gn 11 [2,3,4,5,8,10,11] [0,1,2] [hH (.draw 6 []),bT h0] (Qk9 Γ rv h)
 ·exact gn 9 [2,3,4,5,8,10,11] [0,1,2] [hH (.draw 6 []),bF h0] (Qk9 Γ rv h)
theorem Qri {l m} {rv:Bool} (h:QkU l m=some rv):AFn Tryz.prog 147 [.agg (Qaf.enc l),.agg (Qaf.enc m)] [] (one (.bool rv)) []:=by
 refine QaK Tryz.func147 (by kernel_rfl) (by kernel_rfl) (fun Γ=>?_)
 unfold QkU at h
 obtain rfl:=Option.some.inj h
 exact gr 4 [] [rp 6 hP,rp 4 (oI ((eqI l.ready m.ready)=true)),oR True ((eqI l.ready m.ready)=true)]
theorem Ql7 {m c} {rv:Bool} (h:Qgq m c=some rv):AFn Tryz.prog 146 [.agg (Qaf.enc m),.one (.ip (Qaf.enc c) 0)] [] (one (.bool rv)) []:=by
 refine QaK Tryz.func146 (by kernel_rfl) (by kernel_rfl) (fun Γ=>?_)
 unfold Qgq at h
 obtain ⟨r,h0,h⟩:=Qae h
 obtain rfl:=Option.some.inj h
 exact gr 4 [] [cC (Qri h0)]
def QcE (Γ:Gam) (rv:Int) (cf:Cf):Prop:=Go Tryz.prog Tryz.f171 [] Γ (one (lI rv)) [] cf
def Qcg (Γ:Gam) (rv:Int) (s0:List Qaf) (c:Qaf) (v:Int):Prop:=QcE Γ rv ⟨[.c 52,.l 52,.b 0,.c 7],⟨19,[vL 0 7 s0 Qaf.enc,(1,one (.fn (.func 146) [.ip (Qaf.enc c) 0])),vI 7 (lenI s0),vI 8 v],[]⟩⟩
def Qcd (Γ:Gam) (rv:Int) (s0:List Qaf) (c:Qaf):Prop:=QcE Γ rv ⟨[.c 7],⟨19,[],[]⟩⟩
theorem Qel (Γ:Gam) (rv:Int) {s0 c} {s:Int} {e:(Unit)⊕(Int)} (h:loopF (fun s=>Qav s0 c s) s=some e) (hD:sel e (fun e=>Qcd Γ rv s0 c) (fun e=>e=rv)):Qcg Γ rv s0 c s:=by
 refine QaF (C:=fun (s:Int)=>Qcg Γ rv s0 c s) (D:=fun (e:(Unit)⊕(Int))=>sel e (fun e=>Qcd Γ rv s0 c) (fun e=>e=rv)) ?_ h hD
 clear h hD s e
 intro v z_ h hI hE
 replace h:Qav s0 c v=_:=h
 unfold Qav at h
 rcases Qah h with ⟨h0,h⟩|⟨h0,h⟩
 ·obtain ⟨x0,h1,h⟩:=Qae h
  obtain ⟨r,h2,h⟩:=Qae h
  rcases Qah h with ⟨h3,h⟩|⟨h3,h⟩
  ·obtain rfl:=(hE _ (oJ h):_=rv)
   exact gr 14 [] [bT h0,cE Qaf.enc h1,cC (Ql7 h2),bT h3]
  ·exact gn 16 [0,1,7,8] [] [bT h0,cE Qaf.enc h1,cC (Ql7 h2),bF h3] (hI _ (oJ h))
 ·exact gn 5 [] [] [bF h0] (hE _ (oJ h))
theorem QeR {s0 c} {rv:Int} (h:Qbd s0 c=some rv):AFn Tryz.prog 171 [.one (lL 7 s0 Qaf.enc),.one (.fn (.func 146) [.ip (Qaf.enc c) 0])] [] (one (lI rv)) []:=by
 refine QaK Tryz.func171 (by kernel_rfl) (by kernel_rfl) (fun Γ=>?_)
 unfold Qbd at h
 obtain ⟨e0,h4,h⟩:=Qae h
 refine gn 7 [0,1,7,8] [] [nL Qaf.enc s0] (Qel Γ rv h4 ?_)
 rcases e0 with e0|e0
 ·replace h:(some (-1):Option Int)=some _:=h
  obtain rfl:=Option.some.inj h
  exact gr 2 [] []
 ·obtain ⟨r1,rfl⟩:∃ x,x=e0:=⟨_,rfl⟩
  replace h:(some r1:Option Int)=some _:=h
  exact Option.some.inj h
theorem Qcc {s0 c} {rv:Bool} (h:QaM s0 c=some rv):AFn Tryz.prog 145 [.one (lL 7 s0 Qaf.enc),.one (.fn (.func 146) [.ip (Qaf.enc c) 0])] [] (one (.bool rv)) []:=by
 refine QaK Tryz.func145 (by kernel_rfl) (by kernel_rfl) (fun Γ=>?_)
 unfold QaM at h
 obtain ⟨r,h0,h⟩:=Qae h
 obtain rfl:=Option.some.inj h
 exact gr 4 [] [cC (QeR h0)]
def Qgr (Γ:Gam) (rv:List Qaf) (cf:Cf):Prop:=Go Tryz.prog Tryz.f116 [] Γ (one (lL 7 rv Qaf.enc)) [] cf
def Ql9 (Γ:Gam) (rv:List Qaf) (p:Qaw) (l:List Qaf) (done:Int) (choices:List Bool) (v:Int) (x0:Qaf) (l3:List Qaf) (v1:Int):Prop:=Qgr Γ rv ⟨[.c 128204,.l 128204,.b 2,.b 1,.c 4007,.l 500,.b 0,.c 63],⟨64,[vI 2 done,vP 3 0 25,vL 7 1 choices Qa5,vO 8 1 7 l3 Qaf.enc,vP 10 2 7,vL 29 7 l Qaf.enc,vI 30 (lenI l),vI 31 v,vL 35 1 choices Qa5,vI 36 (lenI choices),vI 37 v1],[oX 25 174 (Qaw.enc p),oS 7 178 l3 Qaf.enc,oX 7 178 (Qaf.enc x0)]⟩⟩
def Qk8 (Γ:Gam) (rv:List Qaf) (p:Qaw) (l:List Qaf) (done:Int) (choices:List Bool) (v:Int) (x0:Qaf) (l4:List Qaf):Prop:=Qgr Γ rv ⟨[.b 1,.c 4007,.l 500,.b 0,.c 63],⟨64,[vI 2 done,vP 3 0 25,vL 7 1 choices Qa5,vO 8 1 7 l4 Qaf.enc,vL 29 7 l Qaf.enc,vI 30 (lenI l),vI 31 v],[oX 25 174 (Qaw.enc p),oS 7 178 l4 Qaf.enc]⟩⟩
def Ql8 (Γ:Gam) (rv:List Qaf) (p:Qaw) (l:List Qaf) (done:Int) (choices:List Bool) (l2:List Qaf) (v:Int):Prop:=Qgr Γ rv ⟨[.c 500,.l 500,.b 0,.c 63],⟨64,[vI 2 done,vP 3 0 25,vL 7 1 choices Qa5,vO 8 1 7 l2 Qaf.enc,vL 29 7 l Qaf.enc,vI 30 (lenI l),vI 31 v],[oX 25 174 (Qaw.enc p),oS 7 178 l2 Qaf.enc]⟩⟩
def Qk7 (Γ:Gam) (rv:List Qaf) (p:Qaw) (l:List Qaf) (done:Int) (choices:List Bool) (l5:List Qaf):Prop:=Qgr Γ rv ⟨[.c 63],⟨64,[vO 8 0 7 l5 Qaf.enc],[oS 7 178 l5 Qaf.enc]⟩⟩
theorem QqG (Γ:Gam) (rv:List Qaf) {p l done choices v x0} {s:List Qaf×Int} {e:List Qaf} (h:loopF (fun s=>Qcf p l done choices v x0 s.1 s.2) s=some e) (hD:Qk8 Γ rv p l done choices v x0 e):Ql9 Γ rv p l done choices v x0 s.1 s.2:=by
 refine QaF (C:=fun (s:List Qaf×Int)=>Ql9 Γ rv p l done choices v x0 s.1 s.2) (D:=fun (e:List Qaf)=>Qk8 Γ rv p l done choices v x0 e) ?_ h hD
 clear h hD s e
 rintro ⟨l3,v1⟩ z_ h hI hE
 replace h:Qcf p l done choices v x0 l3 v1=_:=h
 unfold Qcf at h
 rcases Qah h with ⟨h4,h⟩|⟨h4,h⟩
 ·obtain ⟨x1,h5,h⟩:=Qae h
  obtain ⟨r,h6,h⟩:=Qae h
  rcases Qah h with ⟨h7,h⟩|⟨h7,h⟩
  ·obtain ⟨r1,h8,h⟩:=Qae h
   rcases Qah h with ⟨h9,h⟩|⟨h9,h⟩
   ·exact gn 18 [2,3,7,8,10,29,30,31,35,36,37] [0,1,2] [bT h4,cE Qa5 h5,cC (QfN h6),rp 3 (bT h7),eL l3 Qaf.enc,cC (Qcc h8),bT h7,bT h7,nF h9] (hI _ (oJ h))
   ·obtain ⟨h10,h⟩:=Qat h
    exact gn 18 [2,3,7,8,10,29,30,31,35,36,37] [0,5,2] [bT h4,cE Qa5 h5,cC (QfN h6),rp 3 (bT h7),eL l3 Qaf.enc,cC (Qcc h8),bT h7,bT h7,nT h9,oO (Eq.refl ([r.1].map Qaf.enc).length),aO Qaf.enc h10] (hI _ (oJ h))
  ·exact gn 18 [2,3,7,8,10,29,30,31,35,36,37] [0,1,2] [bT h4,cE Qa5 h5,cC (QfN h6),rp 5 (bF h7),fF] (hI _ (oJ h))
 ·exact gn 5 [2,3,7,8,29,30,31] [0,1] [bF h4] (hE _ (oJ h))
theorem QqF (Γ:Gam) (rv:List Qaf) {p l done choices} {s:List Qaf×Int} {e:List Qaf} (h:loopF (fun s=>Qce p l done choices s.1 s.2) s=some e) (hD:Qk7 Γ rv p l done choices e):Ql8 Γ rv p l done choices s.1 s.2:=by
 refine QaF (C:=fun (s:List Qaf×Int)=>Ql8 Γ rv p l done choices s.1 s.2) (D:=fun (e:List Qaf)=>Qk7 Γ rv p l done choices e) ?_ h hD
 clear h hD s e
 rintro ⟨l2,v⟩ z_ h hI hE
 replace h:Qce p l done choices l2 v=_:=h
 unfold Qce at h
 rcases Qah h with ⟨h2,h⟩|⟨h2,h⟩
 ·obtain ⟨x0,h3,h⟩:=Qae h
  obtain ⟨e0,h11,h⟩:=Qae h
  refine gn 13 [2,3,7,8,10,29,30,31,35,36,37] [0,1,2] [bT h2,cE Qaf.enc h3,nL Qa5 choices] (QqG Γ rv h11 ?_)
  obtain ⟨l4,rfl⟩:∃ x,x=e0:=⟨_,rfl⟩
  replace h:(some (.inl (l4,(addK .i64 v 1))):Option ((List Qaf×Int)⊕(List Qaf)))=some _:=h
  exact gn 3 [2,3,7,8,29,30,31] [0,1] [] (hI _ (oJ h))
 ·exact gn 5 [8] [1] [bF h2] (hE _ (oJ h))
theorem Qk6 (Γ:Gam) (rv:List Qaf) {p l done choices} (h:QeC p l done choices=some rv):Qgr Γ rv ⟨[.c 15],⟨64,[vL 1 7 l Qaf.enc,vI 2 done,vP 3 0 25,vL 7 1 choices Qa5],[oX 25 174 (Qaw.enc p)]⟩⟩:=by
 unfold QeC at h
 obtain ⟨e1,h12,h⟩:=Qae h
 refine gn 7 [2,3,7,8,29,30,31] [0,1] [nL Qaf.enc l,hW 3,hH (.adopt 8 7 178)] (QqF Γ rv h12 ?_)
 obtain ⟨l5,rfl⟩:∃ x,x=e1:=⟨_,rfl⟩
 replace h:(some l5:Option (List Qaf))=some _:=h
 obtain rfl:=Option.some.inj h
 exact gr 2 [] [hW 4,hH (.frz 0),rp 3 (eL l5 Qaf.enc)]
theorem Qsh {p l done} {rv:List Qaf} (h:Qfx p l done=some rv):AFn Tryz.prog 116 [.agg (Qaw.enc p),.one (lL 7 l Qaf.enc),.one (lI done)] [] (one (lL 7 rv Qaf.enc)) []:=by
 refine QaK Tryz.func116 (by kernel_rfl) (by kernel_rfl) (fun Γ=>?_)
 unfold Qfx at h
 rcases Qah h with ⟨h0,h⟩|⟨h0,h⟩
 ·obtain ⟨l1,h1,h⟩:=Qae h
  exact gn 9 [1,2,3,7] [0] [nL Qa5 p.r.rests,bT h0,hH (.rows (l1.map Qa5)),oO (sl1 h1),oO (sl2 h1),oO (sl3 Qa5 h1),oO (Int.le_refl (addK .i64 done 1)),oO (sl3 Qa5 h1),oO (sl6 Qa5 h1)] (Qk6 Γ rv h)
 ·exact gn 9 [1,2,3,7] [0] [nL Qa5 p.r.rests,bF h0,hW 1,hH (.frz 1),rp 2 (oO (Eq.refl ([false,true].map Qa5).length))] (Qk6 Γ rv h)
def Qpv (Γ:Gam) (rv:Qan×Int) (cf:Cf):Prop:=Go Tryz.prog Tryz.f117 [] Γ (.tup [.agg [.bool rv.1.rest_,lI rv.1.depart,lL 4 rv.1.times Qap.enc,lI rv.1.end_,lI rv.1.miles],.one (lI rv.2)]) [] cf
def QmW (Γ:Gam) (rv:Qan×Int) (p:Qaw) (rests:List Bool) (r:Qaf) (rest_:Int) (x0:Qaf) (v:Int):Prop:=Qpv Γ rv ⟨[.c 116,.l 116,.b 0,.c 15],⟨36,[vP 2 0 25,vP 4 1 5,vP 6 2 7,vL 13 1 rests Qa5,vI 14 (lenI rests),vI 15 v],[oX 25 174 [lL 1 p.x.net.places e_str,lL 6 p.x.net.arcs Qaq.enc,lL 14 p.x.types Qai.enc,lL 16 p.x.orders Qag.enc,lL 2 p.x.apart QaO.enc,lL 2 p.x.before QaO.enc,.str p.t.name,lI p.t.count,lI p.t.from_,lI p.t.to_,lL 1 p.t.cap e_i64,lI p.t.skills,lI p.t.profile,lI p.t.open_,lI p.t.close,lI p.t.drive,lI rest_,lI p.t.fixed,lI p.t.perMile,lI p.t.perTick,lI p.r.type_,lI p.r.start,lL 1 p.r.rests Qa5,lL 2 p.r.visits Qaa.enc,lL 4 p.stops Qau.enc],oX 5 101 [.bool false,lI 0,.nils,lI 0,lI 0],oX 7 178 (Qaf.enc x0)]⟩⟩
def Qma (Γ:Gam) (rv:Qan×Int) (p:Qaw) (rests:List Bool) (r:Qaf) (x2:Qaf):Prop:=Qpv Γ rv ⟨[.c 15],⟨36,[vP 4 0 5,vP 6 1 7],[oX 5 101 [.bool false,lI 0,.nils,lI 0,lI 0],oX 7 178 (Qaf.enc x2)]⟩⟩
theorem Qrj (Γ:Gam) (rv:Qan×Int) {p rests r} {s:Int×Qaf×Int} {e:(Qaf)⊕(Qan×Int)} (h:loopF (fun s=>Qe8 p rests r s.1 s.2.1 s.2.2) s=some e) (hD:sel e (fun e=>Qma Γ rv p rests r e) (fun e=>e=rv)):QmW Γ rv p rests r s.1 s.2.1 s.2.2:=by
 refine QaF (C:=fun (s:Int×Qaf×Int)=>QmW Γ rv p rests r s.1 s.2.1 s.2.2) (D:=fun (e:(Qaf)⊕(Qan×Int))=>sel e (fun e=>Qma Γ rv p rests r e) (fun e=>e=rv)) ?_ h hD
 clear h hD s e
 rintro ⟨rest_,x0,v⟩ z_ h hI hE
 replace h:Qe8 p rests r rest_ x0 v=_:=h
 unfold Qe8 at h
 rcases Qah h with ⟨h1,h⟩|⟨h1,h⟩
 ·obtain ⟨x1,h2,h⟩:=Qae h
  obtain ⟨r1,h3,h⟩:=Qae h
  rcases Qah h with ⟨h4,h⟩|⟨h4,h⟩
  ·obtain rfl:=(hE _ (oJ h):_=rv)
   exact gr 17 [] [bT h1,cE Qa5 h2,cC (QfN h3),bT h4,hW 6,hH (.nilB 1 2 4)]
  ·exact gn 20 [2,4,6,13,14,15] [0,1,2] [bT h1,cE Qa5 h2,cC (QfN h3),bF h4] (hI _ (oJ h))
 ·exact gn 5 [4,6] [1,2] [bF h1] (hE _ (oJ h))
theorem Qs1 {p rests} {rv:Qan×Int} (h:Qf9 p rests=some rv):AFn Tryz.prog 117 [.agg (Qaw.enc p),.one (lL 1 rests Qa5)] [] (.tup [.agg [.bool rv.1.rest_,lI rv.1.depart,lL 4 rv.1.times Qap.enc,lI rv.1.end_,lI rv.1.miles],.one (lI rv.2)]) []:=by
 refine QaK Tryz.func117 (by kernel_rfl) (by kernel_rfl) (fun Γ=>?_)
 unfold Qf9 at h
 obtain ⟨r,h0,h⟩:=Qae h
 obtain ⟨e0,h5,h⟩:=Qae h
 refine gn 9 [2,4,6,13,14,15] [0,1,2] [cC (QmV h0),nL Qa5 rests] (Qrj Γ rv h5 ?_)
 rcases e0 with e0|e0
 ·obtain ⟨x2,rfl⟩:∃ x,x=e0:=⟨_,rfl⟩
  replace h:(some (x2.sheet,0):Option (Qan×Int))=some _:=h
  obtain rfl:=Option.some.inj h
  exact gr 2 [] []
 ·obtain ⟨r2,rfl⟩:∃ x,x=e0:=⟨_,rfl⟩
  replace h:(some r2:Option (Qan×Int))=some _:=h
  exact Option.some.inj h
def Qos (Γ:Gam) (rv:Qan×Int) (cf:Cf):Prop:=Go Tryz.prog Tryz.f83 [] Γ (.tup [.agg [.bool rv.1.rest_,lI rv.1.depart,lL 4 rv.1.times Qap.enc,lI rv.1.end_,lI rv.1.miles],.one (lI rv.2)]) [] cf
def Qq3 (Γ:Gam) (rv:Qan×Int) (r:Qad) (r1:Qaw×Bool) (l:List Qaf) (v:Int):Prop:=Qos Γ rv ⟨[.c 1012,.l 1012,.b 0,.c 127],⟨82,[vP 3 0 4,vP 4 1 5,vP 6 2 25,vI 8 (addK .i64 (lenI r.visits) 1),vL 9 7 l Qaf.enc,vI 38 (addK .i64 (lenI r.visits) 1),vI 39 v],[oX 4 34 (Qad.enc r),oX 5 101 [.bool false,lI 0,.nils,lI 0,lI 0],oX 25 174 (Qaw.enc r1.1)]⟩⟩
def Qps (Γ:Gam) (rv:Qan×Int) (r:Qad) (r1:Qaw×Bool) (l1:List Qaf):Prop:=Qos Γ rv ⟨[.c 127],⟨82,[vP 3 0 4,vP 4 1 5,vP 6 2 25,vI 8 (addK .i64 (lenI r.visits) 1),vL 9 7 l1 Qaf.enc],[oX 4 34 (Qad.enc r),oX 5 101 [.bool false,lI 0,.nils,lI 0,lI 0],oX 25 174 (Qaw.enc r1.1)]⟩⟩
def Qq4 (Γ:Gam) (rv:Qan×Int) (l3:List Qaf) (x2:Qaf) (v1:Int):Prop:=Qos Γ rv ⟨[.c 8180,.l 8180,.b 2,.c 1023],⟨82,[vP 4 0 5,vP 12 1 7,vL 65 7 l3 Qaf.enc,vI 66 (lenI l3),vI 67 v1],[oX 5 101 [.bool false,lI 0,.nils,lI 0,lI 0],oX 7 178 (Qaf.enc x2)]⟩⟩
def Qpt (Γ:Gam) (rv:Qan×Int) (l3:List Qaf) (x4:Qaf):Prop:=Qos Γ rv ⟨[.c 1023],⟨82,[vP 4 0 5,vP 12 1 7],[oX 5 101 [.bool false,lI 0,.nils,lI 0,lI 0],oX 7 178 (Qaf.enc x4)]⟩⟩
theorem Qtt (Γ:Gam) (rv:Qan×Int) {r r1} {s:List Qaf×Int} {e:List Qaf} (h:loopF (fun s=>QdU r r1 s.1 s.2) s=some e) (hD:Qps Γ rv r r1 e):Qq3 Γ rv r r1 s.1 s.2:=by
 refine QaF (C:=fun (s:List Qaf×Int)=>Qq3 Γ rv r r1 s.1 s.2) (D:=fun (e:List Qaf)=>Qps Γ rv r r1 e) ?_ h hD
 clear h hD s e
 rintro ⟨l,v⟩ z_ h hI hE
 replace h:QdU r r1 l v=_:=h
 unfold QdU at h
 rcases Qah h with ⟨h3,h⟩|⟨h3,h⟩
 ·obtain ⟨r3,h4,h⟩:=Qae h
  exact gn 13 [3,4,6,8,9,38,39] [0,1,2] [bT h3,cC (Qsh h4)] (hI _ (oJ h))
 ·exact gn 5 [3,4,6,8,9] [0,1,2] [bF h3] (hE _ (oJ h))
theorem Qtu (Γ:Gam) (rv:Qan×Int) {l3} {s:Qaf×Int} {e:Qaf} (h:loopF (fun s=>Qdr l3 s.1 s.2) s=some e) (hD:Qpt Γ rv l3 e):Qq4 Γ rv l3 s.1 s.2:=by
 refine QaF (C:=fun (s:Qaf×Int)=>Qq4 Γ rv l3 s.1 s.2) (D:=fun (e:Qaf)=>Qpt Γ rv l3 e) ?_ h hD
 clear h hD s e
 rintro ⟨x2,v1⟩ z_ h hI hE
 replace h:Qdr l3 x2 v1=_:=h
 unfold Qdr at h
 rcases Qah h with ⟨h11,h⟩|⟨h11,h⟩
 ·obtain ⟨x3,h12,h⟩:=Qae h
  rcases Qah h with ⟨h13,h⟩|⟨h13,h⟩
  ·exact gn 16 [4,12,65,66,67] [0,1] [bT h11,cE Qaf.enc h12,bT h13] (hI _ (oJ h))
  ·exact gn 16 [4,12,65,66,67] [0,1] [bT h11,cE Qaf.enc h12,bF h13] (hI _ (oJ h))
 ·exact gn 5 [4,12] [0,1] [bF h11] (hE _ (oJ h))
theorem QsM {x0 r} {rv:Qan×Int} (h:QnD x0 r=some rv):AFn Tryz.prog 83 [.agg (Qac.enc x0),.agg (Qad.enc r)] [] (.tup [.agg [.bool rv.1.rest_,lI rv.1.depart,lL 4 rv.1.times Qap.enc,lI rv.1.end_,lI rv.1.miles],.one (lI rv.2)]) []:=by
 refine QaK Tryz.func83 (by kernel_rfl) (by kernel_rfl) (fun Γ=>?_)
 unfold QnD at h
 obtain ⟨r1,h0,h⟩:=Qae h
 rcases Qah h with ⟨h1,h⟩|⟨h1,h⟩
 ·obtain rfl:=Option.some.inj h
  exact gr 12 [] [cC (QsN h0),nL Qaa.enc r.visits,hP,hP,hP,rp 2 (oI ((!r1.2)=false)),nL Qa5 r.rests,hP,hP,hP,rp 2 (oI ((!r1.2)=false)),oR True ((!r1.2)=false),bT h1,hW 5,hH (.nilB 2 2 4)]
 ·obtain ⟨r2,h2,h⟩:=Qae h
  obtain ⟨e0,h5,h⟩:=Qae h
  refine gn 18 [3,4,6,8,9,38,39] [1,2,3] [cC (QsN h0),nL Qaa.enc r.visits,hP,hP,hP,rp 2 (oI ((!r1.2)=false)),nL Qa5 r.rests,hP,hP,hP,rp 2 (oI ((!r1.2)=false)),oR True ((!r1.2)=false),bF h1,cC (QmV h2),hW 9,hH (.frz 4),rp 2 (oO (Eq.refl ([r2].map Qaf.enc).length))] (Qtt Γ rv h5 ?_)
  obtain ⟨l1,rfl⟩:∃ x,x=e0:=⟨_,rfl⟩
  replace h:(br (eqI (lenI l1) 0) (bnd (mkI (addK .i64 (lenI r.visits) 1) (addK .i64 (lenI r.visits) 1) 1 false) fun l2=>bnd (Qf9 r1.1 (cpyL l2 r.rests)) fun r4=>some (r4.1,r4.2)) (bnd (getI l1 0) fun x1=>bnd (slcI l1 1 (lenI l1)) fun l3=>bnd (loopF (fun s=>Qdr l3 s.1 s.2) (x1,0)) (fun x4=>some (x4.sheet,0))):Option (Qan×Int))=some _:=h
  rcases Qah h with ⟨h6,h⟩|⟨h6,h⟩
  ·obtain ⟨l2,h7,h⟩:=Qae h
   obtain ⟨r4,h8,h⟩:=Qae h
   obtain rfl:=Option.some.inj h
   exact gr 10 [] [nL Qaf.enc l1,bT h6,hH (.cells [.bool false]),hH (.rows (l2.map Qa5)),oO (mk1 h7),oO (mk2 h7),oO (mk3 h7),oO (mk4 h7),oO (mk5 Qa5 h7),cY Qa5 l2 r.rests,hH (.relen 3 ((cpyL l2 r.rests).map Qa5).length),hW 4,hH (.frz 3),rp 3 (oO (QCF Qa5 l2 r.rests)),rp 4 (oO (Eq.refl ((cpyL l2 r.rests).map Qa5).length)),cC (Qs1 h8)]
  ·obtain ⟨x1,h9,h⟩:=Qae h
   obtain ⟨l3,h10,h⟩:=Qae h
   obtain ⟨e1,h14,h⟩:=Qae h
   refine gn 12 [4,12,65,66,67] [1,3] [nL Qaf.enc l1,bF h6,cE Qaf.enc h9,hH (.rows (l3.map Qaf.enc)),oO (sl1 h10),oO (sl2h Qaf.enc h10),rp 3 (oO (Int.le_refl ((l1.map Qaf.enc).length:Int))),oO (sl6h Qaf.enc h10),nL Qaf.enc l3] (Qtu Γ rv h14 ?_)
   obtain ⟨x4,rfl⟩:∃ x,x=e1:=⟨_,rfl⟩
   replace h:(some (x4.sheet,0):Option (Qan×Int))=some _:=h
   obtain rfl:=Option.some.inj h
   exact gr 2 [] []
theorem Qi2 {kind own} {rv:Bool} (h:QkO kind own=some rv):AFn Tryz.prog 118 [.one (lI kind),.one (lI own)] [] (one (.bool rv)) []:=by
 refine QaK Tryz.func118 (by kernel_rfl) (by kernel_rfl) (fun Γ=>?_)
 unfold QkO at h
 obtain rfl:=Option.some.inj h
 exact gr 4 [] [rp 4 hP,rp 2 (oI ((neI kind (-1))=true)),oR True ((neI kind (-1))=true)]
def Qqf (Γ:Gam) (rv:Qay) (cf:Cf):Prop:=Go Tryz.prog Tryz.f84 [] Γ (gG [lI rv.cost,lI rv.moved,lI rv.other,lI rv.work]) [] cf
def QmB (Γ:Gam) (rv:Qay) (x0:Qac) (r:Qad) (s0:Qan) (x1:Qai) (l:List (Int×Int)) (moved:Int) (other:Int) (v:Int):Prop:=Qqf Γ rv ⟨[.c 4084,.l 4084,.b 0,.c 511],⟨114,[vP 3 0 6,vP 4 1 4,vP 6 2 4,vP 10 3 4,(11,one (.mp 4)),vL 59 2 r.visits Qaa.enc,vI 60 (lenI r.visits),vI 61 v],[oX 6 30 (Qac.enc x0),oX 4 34 (Qad.enc r),oX 4 93 [lI 0,lI 0,lI 0,lI 0],oX 4 93 [lI (addK .i64 (addK .i64 x1.fixed (mulK .i64 x1.perMile s0.miles)) (mulK .i64 x1.perTick (subK .i64 s0.end_ x1.open_))),lI moved,lI other,lI (mulK .i64 (quoK .i64 (subK .i64 s0.end_ x1.open_) 64) (quoK .i64 (subK .i64 s0.end_ x1.open_) 64))],oM 183 l (mE lI lI)]⟩⟩
def QkZ (Γ:Gam) (rv:Qay) (x0:Qac) (r:Qad) (s0:Qan) (x1:Qai) (moved2:Int) (other1:Int):Prop:=Qqf Γ rv ⟨[.c 511],⟨114,[vP 6 0 4,vP 10 1 4],[oX 4 93 [lI 0,lI 0,lI 0,lI 0],oX 4 93 [lI (addK .i64 (addK .i64 x1.fixed (mulK .i64 x1.perMile s0.miles)) (mulK .i64 x1.perTick (subK .i64 s0.end_ x1.open_))),lI moved2,lI other1,lI (mulK .i64 (quoK .i64 (subK .i64 s0.end_ x1.open_) 64) (quoK .i64 (subK .i64 s0.end_ x1.open_) 64))]]⟩⟩
theorem Qo0 (Γ:Gam) (rv:Qay) {x0 r s0 x1 l other v x2 x3 moved1} {x:(List (Int×Int)×Int×Int×Int)⊕(Int×Int)} (h:Qi1 x0 r s0 x1 l other v x2 x3 moved1=some x) (hI:∀ s:List (Int×Int)×Int×Int×Int,x=.inl s→QmB Γ rv x0 r s0 x1 s.1 s.2.1 s.2.2.1 s.2.2.2) (hE:∀ e:Int×Int,x=.inr e→QkZ Γ rv x0 r s0 x1 e.1 e.2):Qqf Γ rv ⟨[.c 2091423,.b 1,.c 32679,.l 4084,.b 0,.c 511],⟨114,[vP 3 0 6,vP 4 1 4,vP 6 2 4,vP 10 3 4,(11,one (.mp 4)),vP 14 5 16,vL 59 2 r.visits Qaa.enc,vI 60 (lenI r.visits),vI 61 v],[oX 6 30 (Qac.enc x0),oX 4 34 (Qad.enc r),oX 4 93 [lI 0,lI 0,lI 0,lI 0],oX 4 93 [lI (addK .i64 (addK .i64 x1.fixed (mulK .i64 x1.perMile s0.miles)) (mulK .i64 x1.perTick (subK .i64 s0.end_ x1.open_))),lI moved1,lI other,lI (mulK .i64 (quoK .i64 (subK .i64 s0.end_ x1.open_) 64) (quoK .i64 (subK .i64 s0.end_ x1.open_) 64))],oM 183 (mPut eqI l x2.order (addK .i64 (mGet eqI l x2.order 0) 1)) (mE lI lI),oX 16 74 (Qag.enc x3)]⟩⟩:=by
 unfold Qi1 at h
 obtain ⟨r2,h9,h⟩:=Qae h
 rcases Qah h with ⟨h10,h⟩|⟨h10,h⟩
 ·exact gn 7 [3,4,6,10,11,59,60,61] [0,1,2,3,4] [cC (Qi2 h9),bT h10] (hI _ (oJ h))
 ·exact gn 7 [3,4,6,10,11,59,60,61] [0,1,2,3,4] [cC (Qi2 h9),bF h10] (hI _ (oJ h))
theorem Qs9 (Γ:Gam) (rv:Qay) {x0 r s0 x1} {s:List (Int×Int)×Int×Int×Int} {e:Int×Int} (h:loopF (fun s=>QdQ x0 r s0 x1 s.1 s.2.1 s.2.2.1 s.2.2.2) s=some e) (hD:QkZ Γ rv x0 r s0 x1 e.1 e.2):QmB Γ rv x0 r s0 x1 s.1 s.2.1 s.2.2.1 s.2.2.2:=by
 refine QaF (C:=fun (s:List (Int×Int)×Int×Int×Int)=>QmB Γ rv x0 r s0 x1 s.1 s.2.1 s.2.2.1 s.2.2.2) (D:=fun (e:Int×Int)=>QkZ Γ rv x0 r s0 x1 e.1 e.2) ?_ h hD
 clear h hD s e
 rintro ⟨l,moved,other,v⟩ z_ h hI hE
 replace h:QdQ x0 r s0 x1 l moved other v=_:=h
 unfold QdQ at h
 rcases Qah h with ⟨h2,h⟩|⟨h2,h⟩
 ·obtain ⟨x2,h3,h⟩:=Qae h
  rcases Qah h with ⟨h4,h⟩|⟨h4,h⟩
  ·exact gn 18 [3,4,6,10,11,59,60,61] [0,1,2,3,4] [bT h2,cE Qaa.enc h3,mG kqI lI l x2.order 0,mU kqI lI l x2.order (addK .i64 (mGet eqI l x2.order 0) 1),rp 5 hP,rp 3 (oI ((ltI x2.order 0)=false)),nL Qag.enc x0.orders,hP,hP,rp 2 (oI ((ltI x2.order 0)=false)),oR True ((ltI x2.order 0)=false),rp 6 (bT h4),tT] (hI _ (oJ h))
  ·rcases Qah h with ⟨h5,h⟩|⟨h5,h⟩
   ·exact gn 18 [3,4,6,10,11,59,60,61] [0,1,2,3,4] [bT h2,cE Qaa.enc h3,mG kqI lI l x2.order 0,mU kqI lI l x2.order (addK .i64 (mGet eqI l x2.order 0) 1),rp 5 hP,rp 3 (oI ((ltI x2.order 0)=false)),nL Qag.enc x0.orders,hP,hP,rp 2 (oI ((ltI x2.order 0)=false)),oR True ((ltI x2.order 0)=false),rp 4 (bF h4),mG kqI lI (mPut eqI l x2.order (addK .i64 (mGet eqI l x2.order 0) 1)) x2.order 0,bF h4,bF h4,bT h5] (hI _ (oJ h))
   ·obtain ⟨x3,h6,h⟩:=Qae h
    obtain ⟨r1,h7,h⟩:=Qae h
    rcases Qah h with ⟨h8,h⟩|⟨h8,h⟩
    ·exact gn 23 [3,4,6,10,11,14,59,60,61] [0,1,2,3,4,6] [bT h2,cE Qaa.enc h3,mG kqI lI l x2.order 0,mU kqI lI l x2.order (addK .i64 (mGet eqI l x2.order 0) 1),rp 5 hP,rp 3 (oI ((ltI x2.order 0)=false)),nL Qag.enc x0.orders,hP,hP,rp 2 (oI ((ltI x2.order 0)=false)),oR True ((ltI x2.order 0)=false),rp 4 (bF h4),mG kqI lI (mPut eqI l x2.order (addK .i64 (mGet eqI l x2.order 0) 1)) x2.order 0,bF h4,bF h4,bF h5,cE Qag.enc h6,cC (Qi2 h7),bT h8] (Qo0 Γ rv h hI hE)
    ·exact gn 23 [3,4,6,10,11,14,59,60,61] [0,1,2,3,4,6] [bT h2,cE Qaa.enc h3,mG kqI lI l x2.order 0,mU kqI lI l x2.order (addK .i64 (mGet eqI l x2.order 0) 1),rp 5 hP,rp 3 (oI ((ltI x2.order 0)=false)),nL Qag.enc x0.orders,hP,hP,rp 2 (oI ((ltI x2.order 0)=false)),oR True ((ltI x2.order 0)=false),rp 4 (bF h4),mG kqI lI (mPut eqI l x2.order (addK .i64 (mGet eqI l x2.order 0) 1)) x2.order 0,bF h4,bF h4,bF h5,cE Qag.enc h6,cC (Qi2 h7),bF h8] (Qo0 Γ rv h hI hE)
 ·exact gn 5 [6,10] [2,3] [bF h2] (hE _ (oJ h))
theorem Qu3 {x0 r s0} {rv:Qay} (h:Qoe x0 r s0=some rv):AFn Tryz.prog 84 [.agg (Qac.enc x0),.agg (Qad.enc r),.agg (Qan.enc s0)] [] (gG [lI rv.cost,lI rv.moved,lI rv.other,lI rv.work]) []:=by
 refine QaK Tryz.func84 (by kernel_rfl) (by kernel_rfl) (fun Γ=>?_)
 unfold Qoe at h
 rcases Qah h with ⟨h0,h⟩|⟨h0,h⟩
 ·obtain rfl:=Option.some.inj h
  exact gr 8 [] [rp 5 hP,rp 3 (oI ((ltI r.type_ 0)=false)),nL Qai.enc x0.types,hP,hP,rp 2 (oI ((ltI r.type_ 0)=false)),oR True ((ltI r.type_ 0)=false),bT h0]
 ·obtain ⟨x1,h1,h⟩:=Qae h
  obtain ⟨e0,h11,h⟩:=Qae h
  refine gn 22 [3,4,6,10,11,59,60,61] [0,1,3,5,6] [rp 5 hP,rp 3 (oI ((ltI r.type_ 0)=false)),nL Qai.enc x0.types,hP,hP,rp 2 (oI ((ltI r.type_ 0)=false)),oR True ((ltI r.type_ 0)=false),bF h0,cE Qai.enc h1,oO (oA (n:=64)),nL Qaa.enc r.visits] (Qs9 Γ rv h11 ?_)
  obtain ⟨moved2,other1⟩:=e0
  replace h:(some (Qay.mk (addK .i64 (addK .i64 x1.fixed (mulK .i64 x1.perMile s0.miles)) (mulK .i64 x1.perTick (subK .i64 s0.end_ x1.open_))) moved2 other1 (mulK .i64 (quoK .i64 (subK .i64 s0.end_ x1.open_) 64) (quoK .i64 (subK .i64 s0.end_ x1.open_) 64))):Option Qay)=some _:=h
  obtain rfl:=Option.some.inj h
  exact gr 2 [] []
theorem Qo2 {x0 r} {rv:Qan×Qay×Int} (h:Qgm x0 r=some rv):AFn Tryz.prog 48 [.agg (Qac.enc x0),.agg (Qad.enc r)] [] (.tup [.agg [.bool rv.1.rest_,lI rv.1.depart,lL 4 rv.1.times Qap.enc,lI rv.1.end_,lI rv.1.miles],.agg [lI rv.2.1.cost,lI rv.2.1.moved,lI rv.2.1.other,lI rv.2.1.work],.one (lI rv.2.2)]) []:=by
 refine QaK Tryz.func48 (by kernel_rfl) (by kernel_rfl) (fun Γ=>?_)
 unfold Qgm at h
 rcases Qah h with ⟨h0,h⟩|⟨h0,h⟩
 ·obtain rfl:=Option.some.inj h
  exact gr 8 [] [rp 5 hP,rp 3 (oI ((ltI r.type_ 0)=false)),nL Qai.enc x0.types,hP,hP,rp 2 (oI ((ltI r.type_ 0)=false)),oR True ((ltI r.type_ 0)=false),bT h0,hW 7,hH (.nilB 2 2 4)]
 ·obtain ⟨r1,h1,h⟩:=Qae h
  rcases Qah h with ⟨h2,h⟩|⟨h2,h⟩
  ·obtain rfl:=Option.some.inj h
   exact gr 28 [] [rp 5 hP,rp 3 (oI ((ltI r.type_ 0)=false)),nL Qai.enc x0.types,hP,hP,rp 2 (oI ((ltI r.type_ 0)=false)),oR True ((ltI r.type_ 0)=false),bF h0,nL e_fn [80,81,82],tT,oO (getLo (rfl:getI ([80,81,82]:List Nat) 0=some 80)),oO (getHi e_fn (rfl:getI ([80,81,82]:List Nat) 0=some 80)),rE e_fn (rfl:getI ([80,81,82]:List Nat) 0=some 80),cC (Qdv h1),bT h2,hW 8,hH (.nilB 2 2 4)]
  ·obtain ⟨r2,h3,h⟩:=Qae h
   rcases Qah h with ⟨h4,h⟩|⟨h4,h⟩
   ·obtain rfl:=Option.some.inj h
    exact gr 46 [] [rp 5 hP,rp 3 (oI ((ltI r.type_ 0)=false)),nL Qai.enc x0.types,hP,hP,rp 2 (oI ((ltI r.type_ 0)=false)),oR True ((ltI r.type_ 0)=false),bF h0,nL e_fn [80,81,82],tT,oO (getLo (rfl:getI ([80,81,82]:List Nat) 0=some 80)),oO (getHi e_fn (rfl:getI ([80,81,82]:List Nat) 0=some 80)),rE e_fn (rfl:getI ([80,81,82]:List Nat) 0=some 80),cC (Qdv h1),bF h2,tT,oO (getLo (rfl:getI ([80,81,82]:List Nat) 1=some 81)),oO (getHi e_fn (rfl:getI ([80,81,82]:List Nat) 1=some 81)),rE e_fn (rfl:getI ([80,81,82]:List Nat) 1=some 81),cC (Qni h3),bT h4,hW 8,hH (.nilB 2 2 4)]
   ·obtain ⟨r3,h5,h⟩:=Qae h
    rcases Qah h with ⟨h6,h⟩|⟨h6,h⟩
    ·obtain rfl:=Option.some.inj h
     exact gr 64 [] [rp 5 hP,rp 3 (oI ((ltI r.type_ 0)=false)),nL Qai.enc x0.types,hP,hP,rp 2 (oI ((ltI r.type_ 0)=false)),oR True ((ltI r.type_ 0)=false),bF h0,nL e_fn [80,81,82],tT,oO (getLo (rfl:getI ([80,81,82]:List Nat) 0=some 80)),oO (getHi e_fn (rfl:getI ([80,81,82]:List Nat) 0=some 80)),rE e_fn (rfl:getI ([80,81,82]:List Nat) 0=some 80),cC (Qdv h1),bF h2,tT,oO (getLo (rfl:getI ([80,81,82]:List Nat) 1=some 81)),oO (getHi e_fn (rfl:getI ([80,81,82]:List Nat) 1=some 81)),rE e_fn (rfl:getI ([80,81,82]:List Nat) 1=some 81),cC (Qni h3),bF h4,tT,oO (getLo (rfl:getI ([80,81,82]:List Nat) 2=some 82)),oO (getHi e_fn (rfl:getI ([80,81,82]:List Nat) 2=some 82)),rE e_fn (rfl:getI ([80,81,82]:List Nat) 2=some 82),cC (Qpo h5),bT h6,hW 8,hH (.nilB 2 2 4)]
    ·obtain ⟨r4,h7,h⟩:=Qae h
     rcases Qah h with ⟨h8,h⟩|⟨h8,h⟩
     ·obtain rfl:=Option.some.inj h
      exact gr 79 [] [rp 5 hP,rp 3 (oI ((ltI r.type_ 0)=false)),nL Qai.enc x0.types,hP,hP,rp 2 (oI ((ltI r.type_ 0)=false)),oR True ((ltI r.type_ 0)=false),bF h0,nL e_fn [80,81,82],tT,oO (getLo (rfl:getI ([80,81,82]:List Nat) 0=some 80)),oO (getHi e_fn (rfl:getI ([80,81,82]:List Nat) 0=some 80)),rE e_fn (rfl:getI ([80,81,82]:List Nat) 0=some 80),cC (Qdv h1),bF h2,tT,oO (getLo (rfl:getI ([80,81,82]:List Nat) 1=some 81)),oO (getHi e_fn (rfl:getI ([80,81,82]:List Nat) 1=some 81)),rE e_fn (rfl:getI ([80,81,82]:List Nat) 1=some 81),cC (Qni h3),bF h4,tT,oO (getLo (rfl:getI ([80,81,82]:List Nat) 2=some 82)),oO (getHi e_fn (rfl:getI ([80,81,82]:List Nat) 2=some 82)),rE e_fn (rfl:getI ([80,81,82]:List Nat) 2=some 82),cC (Qpo h5),bF h6,fF,cC (QsM h7),bT h8,hW 8,hH (.nilB 2 2 4)]
     ·obtain ⟨r5,h9,h⟩:=Qae h
      obtain rfl:=Option.some.inj h
      exact gr 80 [] [rp 5 hP,rp 3 (oI ((ltI r.type_ 0)=false)),nL Qai.enc x0.types,hP,hP,rp 2 (oI ((ltI r.type_ 0)=false)),oR True ((ltI r.type_ 0)=false),bF h0,nL e_fn [80,81,82],tT,oO (getLo (rfl:getI ([80,81,82]:List Nat) 0=some 80)),oO (getHi e_fn (rfl:getI ([80,81,82]:List Nat) 0=some 80)),rE e_fn (rfl:getI ([80,81,82]:List Nat) 0=some 80),cC (Qdv h1),bF h2,tT,oO (getLo (rfl:getI ([80,81,82]:List Nat) 1=some 81)),oO (getHi e_fn (rfl:getI ([80,81,82]:List Nat) 1=some 81)),rE e_fn (rfl:getI ([80,81,82]:List Nat) 1=some 81),cC (Qni h3),bF h4,tT,oO (getLo (rfl:getI ([80,81,82]:List Nat) 2=some 82)),oO (getHi e_fn (rfl:getI ([80,81,82]:List Nat) 2=some 82)),rE e_fn (rfl:getI ([80,81,82]:List Nat) 2=some 82),cC (Qpo h5),bF h6,fF,cC (QsM h7),bF h8,hH (.draw 5 []),cC (Qu3 h9)]
theorem QhC {s0} {rv:Qxz} (h:Qof s0=some rv):AFn Tryz.prog 85 [.agg (Qay.enc s0)] [] (gG [lI rv.x0,lI rv.x1,lI rv.x2,lI rv.x3]) []:=by
 refine QaK Tryz.func85 (by kernel_rfl) (by kernel_rfl) (fun Γ=>?_)
 unfold Qof at h
 obtain rfl:=Option.some.inj h
 exact gr 4 [] []
theorem Qrc {s0} {rv:Int×Int} (h:Qhl s0=some rv):AFn Tryz.prog 49 [.agg (Qay.enc s0)] [] (.tup [.one (lI rv.1),.one (lI rv.2)]) []:=by
 refine QaK Tryz.func49 (by kernel_rfl) (by kernel_rfl) (fun Γ=>?_)
 unfold Qhl at h
 obtain ⟨r,h0,h⟩:=Qae h
 rcases Qah h with ⟨h1,h⟩|⟨h1,h⟩
 ·obtain rfl:=Option.some.inj h
  exact gr 23 [] [cC (QhC h0),tT,oO (zL 0),oO (lT 0 4),bT h1]
 ·rcases Qah h with ⟨h2,h⟩|⟨h2,h⟩
  ·obtain rfl:=Option.some.inj h
   exact gr 39 [] [cC (QhC h0),tT,oO (zL 0),oO (lT 0 4),bF h1,tT,oO (zL 1),oO (lT 1 4),bT h2]
  ·rcases Qah h with ⟨h3,h⟩|⟨h3,h⟩
   ·obtain rfl:=Option.some.inj h
    exact gr 55 [] [cC (QhC h0),tT,oO (zL 0),oO (lT 0 4),bF h1,tT,oO (zL 1),oO (lT 1 4),bF h2,tT,oO (zL 2),oO (lT 2 4),bT h3]
   ·rcases Qah h with ⟨h4,h⟩|⟨h4,h⟩
    ·obtain rfl:=Option.some.inj h
     exact gr 71 [] [cC (QhC h0),tT,oO (zL 0),oO (lT 0 4),bF h1,tT,oO (zL 1),oO (lT 1 4),bF h2,tT,oO (zL 2),oO (lT 2 4),bF h3,tT,oO (zL 3),oO (lT 3 4),bT h4]
    ·rcases Qah h with ⟨h5,h⟩|⟨h5,h⟩
     ·obtain rfl:=Option.some.inj h
      exact gr 84 [] [cC (QhC h0),tT,oO (zL 0),oO (lT 0 4),bF h1,tT,oO (zL 1),oO (lT 1 4),bF h2,tT,oO (zL 2),oO (lT 2 4),bF h3,tT,oO (zL 3),oO (lT 3 4),bF h4,fF,rp 12 hP,rp 2 (oI ((gtI s0.cost 1073741824)=false)),oR True ((gtI s0.cost 1073741824)=false),rp 2 (oI (((gtI s0.cost 1073741824)||(geI s0.moved 16))=false)),oR True (((gtI s0.cost 1073741824)||(geI s0.moved 16))=false),rp 2 (oI ((((gtI s0.cost 1073741824)||(geI s0.moved 16))||(geI s0.other 16))=false)),oR True ((((gtI s0.cost 1073741824)||(geI s0.moved 16))||(geI s0.other 16))=false),bT h5]
     ·obtain rfl:=Option.some.inj h
      exact gr 85 [] [cC (QhC h0),tT,oO (zL 0),oO (lT 0 4),bF h1,tT,oO (zL 1),oO (lT 1 4),bF h2,tT,oO (zL 2),oO (lT 2 4),bF h3,tT,oO (zL 3),oO (lT 3 4),bF h4,fF,rp 12 hP,rp 2 (oI ((gtI s0.cost 1073741824)=false)),oR True ((gtI s0.cost 1073741824)=false),rp 2 (oI (((gtI s0.cost 1073741824)||(geI s0.moved 16))=false)),oR True (((gtI s0.cost 1073741824)||(geI s0.moved 16))=false),rp 2 (oI ((((gtI s0.cost 1073741824)||(geI s0.moved 16))||(geI s0.other 16))=false)),oR True ((((gtI s0.cost 1073741824)||(geI s0.moved 16))||(geI s0.other 16))=false),bF h5]
theorem Qc8 {x0 r} {rv:Int×Int} (h:Qfc x0 r=some rv):AFn Tryz.prog 17 [.agg (Qac.enc x0),.agg (Qad.enc r)] [] (.tup [.one (lI rv.1),.one (lI rv.2)]) []:=by
 refine QaK Tryz.func17 (by kernel_rfl) (by kernel_rfl) (fun Γ=>?_)
 unfold Qfc at h
 obtain ⟨r1,h0,h⟩:=Qae h
 rcases Qah h with ⟨h1,h⟩|⟨h1,h⟩
 ·obtain rfl:=Option.some.inj h
  exact gr 10 [] [cC (Qo2 h0),bT h1]
 ·obtain ⟨r2,h2,h⟩:=Qae h
  obtain rfl:=Option.some.inj h
  exact gr 11 [] [cC (Qo2 h0),bF h1,cC (Qrc h2)]
theorem Qmc {x0 order} {rv:Int} (h:QjR x0 order=some rv):AFn Tryz.prog 25 [.agg (Qac.enc x0),.one (lI order)] [] (one (lI rv)) []:=by
 refine QaK Tryz.func25 (by kernel_rfl) (by kernel_rfl) (fun Γ=>?_)
 unfold QjR at h
 rcases Qah h with ⟨h0,h⟩|⟨h0,h⟩
 ·obtain rfl:=Option.some.inj h
  exact gr 9 [] [rp 4 hP,rp 2 (oI ((ltI order 0)=false)),nL Qag.enc x0.orders,hP,hP,rp 2 (oI ((ltI order 0)=false)),oR True ((ltI order 0)=false),bT h0]
 ·obtain ⟨x1,h1,h⟩:=Qae h
  rcases Qah h with ⟨h2,h⟩|⟨h2,h⟩
  ·obtain rfl:=Option.some.inj h
   exact gr 12 [] [rp 4 hP,rp 2 (oI ((ltI order 0)=false)),nL Qag.enc x0.orders,hP,hP,rp 2 (oI ((ltI order 0)=false)),oR True ((ltI order 0)=false),bF h0,cE Qag.enc h1,bT h2]
  ·obtain rfl:=Option.some.inj h
   exact gr 14 [] [rp 4 hP,rp 2 (oI ((ltI order 0)=false)),nL Qag.enc x0.orders,hP,hP,rp 2 (oI ((ltI order 0)=false)),oR True ((ltI order 0)=false),bF h0,cE Qag.enc h1,bF h2]
theorem QnL {v c} {rv:Bool} (h:QjP v c=some rv):AFn Tryz.prog 64 [.agg (Qaa.enc v),.one (.ip [lI c] 0)] [] (one (.bool rv)) []:=by
 refine QaK Tryz.func64 (by kernel_rfl) (by kernel_rfl) (fun Γ=>?_)
 unfold QjP at h
 obtain rfl:=Option.some.inj h
 exact gr 4 [] []
def QcW (Γ:Gam) (rv:Int) (cf:Cf):Prop:=Go Tryz.prog Tryz.f94 [] Γ (one (lI rv)) [] cf
def Qcw (Γ:Gam) (rv:Int) (s0:List Qaa) (c:Int) (v:Int):Prop:=QcW Γ rv ⟨[.c 52,.l 52,.b 0,.c 7],⟨19,[vL 0 2 s0 Qaa.enc,(1,one (.fn (.func 64) [.ip [lI c] 0])),vI 7 (lenI s0),vI 8 v],[]⟩⟩
def Qcr (Γ:Gam) (rv:Int) (s0:List Qaa) (c:Int):Prop:=QcW Γ rv ⟨[.c 7],⟨19,[],[]⟩⟩
theorem Qex (Γ:Gam) (rv:Int) {s0 c} {s:Int} {e:(Unit)⊕(Int)} (h:loopF (fun s=>QaQ s0 c s) s=some e) (hD:sel e (fun e=>Qcr Γ rv s0 c) (fun e=>e=rv)):Qcw Γ rv s0 c s:=by
 refine QaF (C:=fun (s:Int)=>Qcw Γ rv s0 c s) (D:=fun (e:(Unit)⊕(Int))=>sel e (fun e=>Qcr Γ rv s0 c) (fun e=>e=rv)) ?_ h hD
 clear h hD s e
 intro v z_ h hI hE
 replace h:QaQ s0 c v=_:=h
 unfold QaQ at h
 rcases Qah h with ⟨h0,h⟩|⟨h0,h⟩
 ·obtain ⟨x0,h1,h⟩:=Qae h
  obtain ⟨r,h2,h⟩:=Qae h
  rcases Qah h with ⟨h3,h⟩|⟨h3,h⟩
  ·obtain rfl:=(hE _ (oJ h):_=rv)
   exact gr 14 [] [bT h0,cE Qaa.enc h1,cC (QnL h2),bT h3]
  ·exact gn 16 [0,1,7,8] [] [bT h0,cE Qaa.enc h1,cC (QnL h2),bF h3] (hI _ (oJ h))
 ·exact gn 5 [] [] [bF h0] (hE _ (oJ h))
theorem Qe4 {s0 c} {rv:Int} (h:Qbi s0 c=some rv):AFn Tryz.prog 94 [.one (lL 2 s0 Qaa.enc),.one (.fn (.func 64) [.ip [lI c] 0])] [] (one (lI rv)) []:=by
 refine QaK Tryz.func94 (by kernel_rfl) (by kernel_rfl) (fun Γ=>?_)
 unfold Qbi at h
 obtain ⟨e0,h4,h⟩:=Qae h
 refine gn 7 [0,1,7,8] [] [nL Qaa.enc s0] (Qex Γ rv h4 ?_)
 rcases e0 with e0|e0
 ·replace h:(some (-1):Option Int)=some _:=h
  obtain rfl:=Option.some.inj h
  exact gr 2 [] []
 ·obtain ⟨r1,rfl⟩:∃ x,x=e0:=⟨_,rfl⟩
  replace h:(some r1:Option Int)=some _:=h
  exact Option.some.inj h
theorem Qeu {s0 c} {rv:Bool} (h:Qba s0 c=some rv):AFn Tryz.prog 63 [.one (lL 2 s0 Qaa.enc),.one (.fn (.func 64) [.ip [lI c] 0])] [] (one (.bool rv)) []:=by
 refine QaK Tryz.func63 (by kernel_rfl) (by kernel_rfl) (fun Γ=>?_)
 unfold Qba at h
 obtain ⟨r,h0,h⟩:=Qae h
 obtain rfl:=Option.some.inj h
 exact gr 4 [] [cC (Qe4 h0)]
theorem Qme {r order} {rv:Bool} (h:Qil r order=some rv):AFn Tryz.prog 26 [.agg (Qad.enc r),.one (lI order)] [] (one (.bool rv)) []:=by
 refine QaK Tryz.func26 (by kernel_rfl) (by kernel_rfl) (fun Γ=>?_)
 unfold Qil at h
 obtain ⟨r1,h0,h⟩:=Qae h
 obtain rfl:=Option.some.inj h
 exact gr 4 [] [cC (Qeu h0)]
theorem QgL {s0} {rv:List Qaa} (h:Qbo s0=some rv):AFn Tryz.prog 66 [.one (lL 2 s0 Qaa.enc)] [] (one (lO 0 2 rv Qaa.enc)) [oS 2 52 rv Qaa.enc]:=by
 refine QaK Tryz.func66 (by kernel_rfl) (by kernel_rfl) (fun Γ=>?_)
 unfold Qbo at h
 rcases Qah h with ⟨h0,h⟩|⟨h0,h⟩
 ·obtain ⟨hx,h⟩:=Qv1 h
  refine gn 5 [0,4] [] [hH (.skip)] (cf':=⟨[.c 13,.c 7],⟨8,[vL 0 2 s0 Qaa.enc,(4,.boo)],[]⟩⟩) (go_amb 4 rfl ?_ ?_)
  ·replace h:=hx
   obtain rfl:=Option.some.inj h
   exact gr 3 [0] [tT,hW 3,hH (.adopt 2 2 52)]
  ·obtain ⟨h1,h⟩:=Qat h
   obtain rfl:=Option.some.inj h
   exact gr 4 [0] [fF,aZ Qaa.enc h1]
 ·obtain ⟨h2,h⟩:=Qat h
  obtain rfl:=Option.some.inj h
  exact gr 9 [0] [oO (neE Qaa.enc h0),fF,hH (.bit false),aZ Qaa.enc h2]
def Qq7 (Γ:Gam) (rv:List (List Qaa)) (cf:Cf):Prop:=Go Tryz.prog Tryz.f27 [] Γ (one (lL 1 rv es_T_api_Visit.enc)) [] cf
def QnJ (Γ:Gam) (rv:List (List Qaa)) (self:(List Qaa)→(List Qaa)→Int→Option (List (List Qaa))) (l:List Qaa) (more:List Qaa) (l1:List (List Qaa)) (at_:Int):Prop:=Qq7 Γ rv ⟨[.c 244,.l 244,.b 0,.c 31],⟨37,[vL 0 2 l Qaa.enc,vL 1 2 more Qaa.enc,vO 7 0 1 l1 es_T_api_Visit.enc,vI 8 at_],[oS 1 32 l1 es_T_api_Visit.enc]⟩⟩
def Qm2 (Γ:Gam) (rv:List (List Qaa)) (self:(List Qaa)→(List Qaa)→Int→Option (List (List Qaa))) (l:List Qaa) (more:List Qaa) (l3:List (List Qaa)):Prop:=Qq7 Γ rv ⟨[.c 31],⟨37,[vO 7 0 1 l3 es_T_api_Visit.enc],[oS 1 32 l3 es_T_api_Visit.enc]⟩⟩
theorem QrO (Γ:Gam) (rv:List (List Qaa)) {self:(List Qaa)→(List Qaa)→Int→Option (List (List Qaa))} (hself:∀ {l:List Qaa} {more:List Qaa} {from_:Int} {rv:List (List Qaa)},self l more from_=some rv→AFn Tryz.prog 27 [.one (lL 2 l Qaa.enc),.one (lL 2 more Qaa.enc),.one (lI from_)] [] (one (lL 1 rv es_T_api_Visit.enc)) []) {l more} {s:List (List Qaa)×Int} {e:List (List Qaa)} (h:loopF (fun s=>QdV self l more s.1 s.2) s=some e) (hD:Qm2 Γ rv self l more e):QnJ Γ rv self l more s.1 s.2:=by
 refine QaF (C:=fun (s:List (List Qaa)×Int)=>QnJ Γ rv self l more s.1 s.2) (D:=fun (e:List (List Qaa))=>Qm2 Γ rv self l more e) ?_ h hD
 clear h hD s e
 rintro ⟨l1,at_⟩ z_ h hI hE
 replace h:QdV self l more l1 at_=_:=h
 unfold QdV at h
 rcases Qah h with ⟨h1,h⟩|⟨h1,h⟩
 ·obtain ⟨r,h2,h⟩:=Qae h
  obtain ⟨x0,h3,h⟩:=Qae h
  obtain ⟨r1,h4,h⟩:=Qae h
  obtain ⟨l2,h5,h⟩:=Qae h
  obtain ⟨r2,h6,h⟩:=Qae h
  obtain ⟨h7,h⟩:=Qat h
  exact gn 11 [0,1,7,8] [3] [nL Qaa.enc l,bT h1,hH (.draw 14 [(1,8),(2,8)]),cC (QgL h2),cE Qaa.enc h3,cI [1,2] (QAb (enc:=Qaa.enc) (fun _=>rfl) h4),hH (.rows (l2.map Qaa.enc)),oO (sl1 h5),oO (sl2h Qaa.enc h5),rp 3 (oO (Int.le_refl ((more.map Qaa.enc).length:Int))),oO (sl6h Qaa.enc h5),cC (hself h6),aO es_T_api_Visit.enc h7] (hI _ (oJ h))
 ·exact gn 5 [7] [0] [nL Qaa.enc l,bF h1] (hE _ (oJ h))
theorem Qsl {self:(List Qaa)→(List Qaa)→Int→Option (List (List Qaa))} (hself:∀ {l:List Qaa} {more:List Qaa} {from_:Int} {rv:List (List Qaa)},self l more from_=some rv→AFn Tryz.prog 27 [.one (lL 2 l Qaa.enc),.one (lL 2 more Qaa.enc),.one (lI from_)] [] (one (lL 1 rv es_T_api_Visit.enc)) []) {l more from_} {rv:List (List Qaa)} (h:Qfy self l more from_=some rv):AFn Tryz.prog 27 [.one (lL 2 l Qaa.enc),.one (lL 2 more Qaa.enc),.one (lI from_)] [] (one (lL 1 rv es_T_api_Visit.enc)) []:=by
 refine QaK Tryz.func27 (by kernel_rfl) (by kernel_rfl) (fun Γ=>?_)
 unfold Qfy at h
 rcases Qah h with ⟨h0,h⟩|⟨h0,h⟩
 ·obtain rfl:=Option.some.inj h
  exact gr 8 [] [nL Qaa.enc more,bT h0,hW 5,hH (.frz 0),rp 2 (oO (Eq.refl ([l].map es_T_api_Visit.enc).length))]
 ·obtain ⟨e0,h8,h⟩:=Qae h
  refine gn 14 [0,1,7,8] [0] [nL Qaa.enc more,bF h0,hW 11,hH (.adopt 7 1 32)] (QrO Γ rv hself h8 ?_)
  obtain ⟨l3,rfl⟩:∃ x,x=e0:=⟨_,rfl⟩
  replace h:(some l3:Option (List (List Qaa)))=some _:=h
  obtain rfl:=Option.some.inj h
  exact gr 2 [] [hW 4,hH (.frz 0),rp 3 (eL l3 es_T_api_Visit.enc)]
theorem QoM:∀ n,∀ {l:List Qaa} {more:List Qaa} {from_:Int} {rv:List (List Qaa)},Qez n l more from_=some rv→AFn Tryz.prog 27 [.one (lL 2 l Qaa.enc),.one (lL 2 more Qaa.enc),.one (lI from_)] [] (one (lL 1 rv es_T_api_Visit.enc)) []
 | 0=>fun h=>nomatch h
 | n+1=>fun h=>Qsl (QoM n) h
theorem QtA:∀ {l:List Qaa} {more:List Qaa} {from_:Int} {rv:List (List Qaa)},Qm1 l more from_=some rv→AFn Tryz.prog 27 [.one (lL 2 l Qaa.enc),.one (lL 2 more Qaa.enc),.one (lI from_)] [] (one (lL 1 rv es_T_api_Visit.enc)) []:=QoM _
theorem QlN {v} {rv:Int} (h:QeO v=some rv):AFn Tryz.prog 97 [.agg (Qaa.enc v)] [] (one (lI rv)) []:=by
 refine QaK Tryz.func97 (by kernel_rfl) (by kernel_rfl) (fun Γ=>?_)
 unfold QeO at h
 rcases Qah h with ⟨h0,h⟩|⟨h0,h⟩
 ·obtain rfl:=Option.some.inj h
  exact gr 8 [] [bT h0]
 ·obtain rfl:=Option.some.inj h
  exact gr 9 [] [bF h0]
def QsL (Γ:Gam) (rv:Int) (cf:Cf):Prop:=Go Tryz.prog Tryz.f98 [] Γ (one (lI rv)) [] cf
def Qpr (Γ:Gam) (rv:Int) (vals:List Int) (v:Int):Prop:=QsL Γ rv ⟨[.c 116,.l 116,.b 0,.c 15],⟨18,[vI 3 0,vL 6 1 vals e_i64,vI 7 (lenI vals),vI 8 v],[]⟩⟩
def QoH (Γ:Gam) (rv:Int) (vals:List Int):Prop:=QsL Γ rv ⟨[.c 15],⟨18,[vI 3 0],[]⟩⟩
theorem Qs0 (Γ:Gam) (rv:Int) {vals} {s:Int} {e:(Unit)⊕(Int)} (h:loopF (fun s=>QdN vals s) s=some e) (hD:sel e (fun e=>QoH Γ rv vals) (fun e=>e=rv)):Qpr Γ rv vals s:=by
 refine QaF (C:=fun (s:Int)=>Qpr Γ rv vals s) (D:=fun (e:(Unit)⊕(Int))=>sel e (fun e=>QoH Γ rv vals) (fun e=>e=rv)) ?_ h hD
 clear h hD s e
 intro v z_ h hI hE
 replace h:QdN vals v=_:=h
 unfold QdN at h
 rcases Qah h with ⟨h0,h⟩|⟨h0,h⟩
 ·obtain ⟨x0,h1,h⟩:=Qae h
  rcases Qah h with ⟨h2,h⟩|⟨h2,h⟩
  ·obtain rfl:=(hE _ (oJ h):_=rv)
   exact gr 14 [] [bT h0,cE e_i64 h1,bT h2]
  ·exact gn 16 [3,6,7,8] [] [bT h0,cE e_i64 h1,bF h2] (hI _ (oJ h))
 ·exact gn 5 [3] [] [bF h0] (hE _ (oJ h))
theorem QuI {vals} {rv:Int} (h:QnB vals=some rv):AFn Tryz.prog 98 [.one (lL 1 vals e_i64)] [] (one (lI rv)) []:=by
 refine QaK Tryz.func98 (by kernel_rfl) (by kernel_rfl) (fun Γ=>?_)
 unfold QnB at h
 obtain ⟨e0,h3,h⟩:=Qae h
 refine gn 9 [3,6,7,8] [] [nL e_i64 vals] (Qs0 Γ rv h3 ?_)
 rcases e0 with e0|e0
 ·replace h:(some 0:Option Int)=some _:=h
  obtain rfl:=Option.some.inj h
  exact gr 2 [] []
 ·obtain ⟨r,rfl⟩:∃ x,x=e0:=⟨_,rfl⟩
  replace h:(some r:Option Int)=some _:=h
  exact Option.some.inj h
theorem QbR {x0} {rv:Bool} (h:QiE x0=some rv):AFn Tryz.prog 128 [.one (lI x0)] [] (one (.bool rv)) []:=by
 refine QaK Tryz.func128 (by kernel_rfl) (by kernel_rfl) (fun Γ=>?_)
 unfold QiE at h
 obtain rfl:=Option.some.inj h
 exact gr 4 [] []
theorem QmU {x0 y} {rv:Int} (h:QfM x0 y=some rv):AFn Tryz.prog 99 [.one (lI x0),.one (lI y)] [] (one (lI rv)) []:=by
 refine QaK Tryz.func99 (by kernel_rfl) (by kernel_rfl) (fun Γ=>?_)
 unfold QfM at h
 obtain ⟨r,h0,h⟩:=Qae h
 obtain ⟨r1,h1,h⟩:=Qae h
 rcases Qah h with ⟨h2,h⟩|⟨h2,h⟩
 ·rcases Qah h with ⟨h3,h⟩|⟨h3,h⟩
  ·obtain rfl:=Option.some.inj h
   exact gr 16 [] [cC (QbR h0),cC (QbR h1),bT h2,bT h3]
  ·obtain rfl:=Option.some.inj h
   exact gr 17 [] [cC (QbR h0),cC (QbR h1),bT h2,bF h3]
 ·rcases Qah h with ⟨h4,h⟩|⟨h4,h⟩
  ·obtain rfl:=Option.some.inj h
   exact gr 17 [] [cC (QbR h0),cC (QbR h1),bF h2,bT h4]
  ·rcases Qah h with ⟨h5,h⟩|⟨h5,h⟩
   ·obtain rfl:=Option.some.inj h
    exact gr 22 [] [cC (QbR h0),cC (QbR h1),bF h2,bF h4,bT h5]
   ·rcases Qah h with ⟨h6,h⟩|⟨h6,h⟩
    ·obtain rfl:=Option.some.inj h
     exact gr 27 [] [cC (QbR h0),cC (QbR h1),bF h2,bF h4,bF h5,bT h6]
    ·obtain rfl:=Option.some.inj h
     exact gr 28 [] [cC (QbR h0),cC (QbR h1),bF h2,bF h4,bF h5,bF h6]
theorem Qnr {a b} {rv:Int} (h:Qhn a b=some rv):AFn Tryz.prog 68 [.agg (Qaa.enc a),.agg (Qaa.enc b)] [] (one (lI rv)) []:=by
 refine QaK Tryz.func68 (by kernel_rfl) (by kernel_rfl) (fun Γ=>?_)
 unfold Qhn at h
 obtain ⟨r,h0,h⟩:=Qae h
 obtain ⟨r1,h1,h⟩:=Qae h
 obtain ⟨r2,h2,h⟩:=Qae h
 obtain ⟨r3,h3,h⟩:=Qae h
 obtain ⟨r4,h4,h⟩:=Qae h
 obtain rfl:=Option.some.inj h
 exact gr 6 [] [hH (.draw 15 []),cC (QmU h0),cC (QlN h1),cC (QlN h2),cC (QmU h3),oO (Eq.refl ([r,r3].map e_i64).length),cC (QuI h4)]
def Qbp (Γ:Gam) (rv:Int) (cf:Cf):Prop:=Go Tryz.prog Tryz.f67 [] Γ (one (lI rv)) [] cf
def Qbm (Γ:Gam) (rv:Int) (s1:List Qaa) (s2:List Qaa) (v:Int):Prop:=Qbp Γ rv ⟨[.c 52,.l 52,.b 0,.c 7],⟨39,[vL 0 2 s1 Qaa.enc,vL 1 2 s2 Qaa.enc,(2,one (.fn (.func 68) [])),vL 11 2 s1 Qaa.enc,vI 12 (lenI s1),vI 13 v],[]⟩⟩
def Qbj (Γ:Gam) (rv:Int) (s1:List Qaa) (s2:List Qaa):Prop:=Qbp Γ rv ⟨[.c 7],⟨39,[vL 0 2 s1 Qaa.enc,vL 1 2 s2 Qaa.enc],[]⟩⟩
theorem Qcx (Γ:Gam) (rv:Int) {s1 s2} {s:Int} {e:(Unit)⊕(Int)} (h:loopF (fun s=>Qar s1 s2 s) s=some e) (hD:sel e (fun e=>Qbj Γ rv s1 s2) (fun e=>e=rv)):Qbm Γ rv s1 s2 s:=by
 refine QaF (C:=fun (s:Int)=>Qbm Γ rv s1 s2 s) (D:=fun (e:(Unit)⊕(Int))=>sel e (fun e=>Qbj Γ rv s1 s2) (fun e=>e=rv)) ?_ h hD
 clear h hD s e
 intro v z_ h hI hE
 replace h:Qar s1 s2 v=_:=h
 unfold Qar at h
 rcases Qah h with ⟨h0,h⟩|⟨h0,h⟩
 ·obtain ⟨x0,h1,h⟩:=Qae h
  rcases Qah h with ⟨h2,h⟩|⟨h2,h⟩
  ·obtain rfl:=(hE _ (oJ h):_=rv)
   exact gr 15 [] [bT h0,cE Qaa.enc h1,nL Qaa.enc s2,bT h2]
  ·obtain ⟨x1,h3,h⟩:=Qae h
   obtain ⟨r,h4,h⟩:=Qae h
   rcases Qah h with ⟨h5,h⟩|⟨h5,h⟩
   ·obtain rfl:=(hE _ (oJ h):_=rv)
    exact gr 23 [] [bT h0,cE Qaa.enc h1,nL Qaa.enc s2,bF h2,cE Qaa.enc h3,cC (Qnr h4),bT h5]
   ·exact gn 25 [0,1,2,11,12,13] [] [bT h0,cE Qaa.enc h1,nL Qaa.enc s2,bF h2,cE Qaa.enc h3,cC (Qnr h4),bF h5] (hI _ (oJ h))
 ·exact gn 5 [0,1] [] [bF h0] (hE _ (oJ h))
theorem QcS {s1 s2} {rv:Int} (h:QaP s1 s2=some rv):AFn Tryz.prog 67 [.one (lL 2 s1 Qaa.enc),.one (lL 2 s2 Qaa.enc),.one (.fn (.func 68) [])] [] (one (lI rv)) []:=by
 refine QaK Tryz.func67 (by kernel_rfl) (by kernel_rfl) (fun Γ=>?_)
 unfold QaP at h
 obtain ⟨e0,h6,h⟩:=Qae h
 refine gn 7 [0,1,2,11,12,13] [] [nL Qaa.enc s1] (Qcx Γ rv h6 ?_)
 rcases e0 with e0|e0
 ·replace h:(br (ltI (lenI s1) (lenI s2)) (some (-1)) (some 0):Option Int)=some _:=h
  rcases Qah h with ⟨h7,h⟩|⟨h7,h⟩
  ·obtain rfl:=Option.some.inj h
   exact gr 6 [] [nL Qaa.enc s1,nL Qaa.enc s2,bT h7]
  ·obtain rfl:=Option.some.inj h
   exact gr 7 [] [nL Qaa.enc s1,nL Qaa.enc s2,bF h7]
 ·obtain ⟨r1,rfl⟩:∃ x,x=e0:=⟨_,rfl⟩
  replace h:(some r1:Option Int)=some _:=h
  exact Option.some.inj h
theorem Qqk {a b} {rv:Bool} (h:QkQ a b=some rv):AFn Tryz.prog 28 [.one (lL 2 a Qaa.enc),.one (lL 2 b Qaa.enc)] [] (one (.bool rv)) []:=by
 refine QaK Tryz.func28 (by kernel_rfl) (by kernel_rfl) (fun Γ=>?_)
 unfold QkQ at h
 obtain ⟨r,h0,h⟩:=Qae h
 obtain rfl:=Option.some.inj h
 exact gr 4 [] [cC (QcS h0)]
def QsQ (Γ:Gam) (rv:Qad×Int×Int) (cf:Cf):Prop:=Go Tryz.prog Tryz.f11 [] Γ (.tup [.agg [lI rv.1.type_,lI rv.1.start,lL 1 rv.1.rests Qa5,lL 2 rv.1.visits Qaa.enc],.one (lI rv.2.1),.one (lI rv.2.2)]) [] cf
def Qpz (Γ:Gam) (rv:Qad×Int×Int) (x0:Qac) (r4:List (List Qaa)) (x1:Qad) (type_:Int) (start:Int) (rests:List Bool) (visits:List Qaa) (least:Int) (v:Int):Prop:=QsQ Γ rv ⟨[.c 2036,.l 2036,.b 0,.c 255],⟨94,[vP 3 0 6,vP 4 1 4,vP 6 2 4,vP 10 3 4,vI 11 least,vL 49 1 r4 es_T_api_Visit.enc,vI 50 (lenI r4),vI 51 v],[oX 6 30 (Qac.enc x0),oX 4 34 (Qad.enc x1),oX 4 34 [lI 0,lI 0,.nils,.nils],oX 4 34 [lI type_,lI start,lL 1 rests Qa5,lL 2 visits Qaa.enc]]⟩⟩
def QoI (Γ:Gam) (rv:Qad×Int×Int) (x0:Qac) (r4:List (List Qaa)) (x3:Qad) (least1:Int):Prop:=QsQ Γ rv ⟨[.c 255],⟨94,[vP 6 0 4,vP 10 1 4,vI 11 least1],[oX 4 34 [lI 0,lI 0,.nils,.nils],oX 4 34 (Qad.enc x3)]⟩⟩
theorem Qs2 (Γ:Gam) (rv:Qad×Int×Int) {x0 r4} {s:Qad×Int×Int×List Bool×List Qaa×Int×Int} {e:Qad×Int} (h:loopF (fun s=>Qen x0 r4 s.1 s.2.1 s.2.2.1 s.2.2.2.1 s.2.2.2.2.1 s.2.2.2.2.2.1 s.2.2.2.2.2.2) s=some e) (hD:QoI Γ rv x0 r4 e.1 e.2):Qpz Γ rv x0 r4 s.1 s.2.1 s.2.2.1 s.2.2.2.1 s.2.2.2.2.1 s.2.2.2.2.2.1 s.2.2.2.2.2.2:=by
 refine QaF (C:=fun (s:Qad×Int×Int×List Bool×List Qaa×Int×Int)=>Qpz Γ rv x0 r4 s.1 s.2.1 s.2.2.1 s.2.2.2.1 s.2.2.2.2.1 s.2.2.2.2.2.1 s.2.2.2.2.2.2) (D:=fun (e:Qad×Int)=>QoI Γ rv x0 r4 e.1 e.2) ?_ h hD
 clear h hD s e
 rintro ⟨x1,type_,start,rests,visits,least,v⟩ z_ h hI hE
 replace h:Qen x0 r4 x1 type_ start rests visits least v=_:=h
 unfold Qen at h
 rcases Qah h with ⟨h7,h⟩|⟨h7,h⟩
 ·obtain ⟨x2,h8,h⟩:=Qae h
  obtain ⟨r5,h9,h⟩:=Qae h
  rcases Qah h with ⟨h10,h⟩|⟨h10,h⟩
  ·rcases Qah h with ⟨h11,h⟩|⟨h11,h⟩
   ·exact gn 22 [3,4,6,10,11,49,50,51] [0,1,2,3] [bT h7,cE es_T_api_Visit.enc h8,cC (Qc8 h9),rp 3 (bT h10),hP,hP,hP,rp 2 (oI ((ltI least 0)=false)),bT h10,hP,oR True ((ltI least 0)=false),bT h10,rp 4 (bT h11),rp 4 kF,bT h11,bT h10,bT h11,bT h10,tT] (hI _ (oJ h))
   ·rcases Qah h with ⟨h12,h⟩|⟨h12,h⟩
    ·obtain ⟨r6,h13,h⟩:=Qae h
     rcases Qah h with ⟨h14,h⟩|⟨h14,h⟩
     ·exact gn 22 [3,4,6,10,11,49,50,51] [0,1,2,3] [bT h7,cE es_T_api_Visit.enc h8,cC (Qc8 h9),rp 3 (bT h10),hP,hP,hP,rp 2 (oI ((ltI least 0)=false)),bT h10,hP,oR True ((ltI least 0)=false),bT h10,rp 4 (bF h11),rp 4 (bT h12),cC (Qqk h13),bF h11,bT h12,bT h10,bF h11,bT h10,bT h14] (hI _ (oJ h))
     ·exact gn 22 [3,4,6,10,11,49,50,51] [0,1,2,3] [bT h7,cE es_T_api_Visit.enc h8,cC (Qc8 h9),rp 3 (bT h10),hP,hP,hP,rp 2 (oI ((ltI least 0)=false)),bT h10,hP,oR True ((ltI least 0)=false),bT h10,rp 4 (bF h11),rp 4 (bT h12),cC (Qqk h13),bF h11,bT h12,bT h10,bF h11,bT h10,bF h14] (hI _ (oJ h))
    ·exact gn 22 [3,4,6,10,11,49,50,51] [0,1,2,3] [bT h7,cE es_T_api_Visit.enc h8,cC (Qc8 h9),rp 3 (bT h10),hP,hP,hP,rp 2 (oI ((ltI least 0)=false)),bT h10,hP,oR True ((ltI least 0)=false),bT h10,rp 4 (bF h11),rp 4 (bF h12),bF h11,bF h12,bT h10,bF h11,bT h10,fF] (hI _ (oJ h))
  ·exact gn 22 [3,4,6,10,11,49,50,51] [0,1,2,3] [bT h7,cE es_T_api_Visit.enc h8,cC (Qc8 h9),rp 3 (bF h10),kF,kF,kF,rp 2 (bF h10),rp 9 kF,rp 2 (bF h10),fF] (hI _ (oJ h))
 ·exact gn 5 [6,10,11] [2,3] [bF h7] (hE _ (oJ h))
theorem Qa9 {x0 r o} {rv:Qad×Int×Int} (h:QgA x0 r o=some rv):AFn Tryz.prog 11 [.agg (Qac.enc x0),.agg (Qad.enc r),.one (lI o)] [] (.tup [.agg [lI rv.1.type_,lI rv.1.start,lL 1 rv.1.rests Qa5,lL 2 rv.1.visits Qaa.enc],.one (lI rv.2.1),.one (lI rv.2.2)]) []:=by
 refine QaK Tryz.func11 (by kernel_rfl) (by kernel_rfl) (fun Γ=>?_)
 unfold QgA at h
 rcases Qah h with ⟨h0,h⟩|⟨h0,h⟩
 ·obtain rfl:=Option.some.inj h
  exact gr 8 [] [rp 5 hP,rp 3 (oI ((ltI r.type_ 0)=false)),nL Qai.enc x0.types,hP,hP,rp 2 (oI ((ltI r.type_ 0)=false)),oR True ((ltI r.type_ 0)=false),bT h0,hW 6,hH (.nilB 2 2 1),hH (.nilB 2 3 2)]
 ·obtain ⟨r1,h1,h⟩:=Qae h
  rcases Qah h with ⟨h2,h⟩|⟨h2,h⟩
  ·obtain rfl:=Option.some.inj h
   exact gr 15 [] [rp 5 hP,rp 3 (oI ((ltI r.type_ 0)=false)),nL Qai.enc x0.types,hP,hP,rp 2 (oI ((ltI r.type_ 0)=false)),oR True ((ltI r.type_ 0)=false),bF h0,cC (Qmc h1),bT h2,hW 7,hH (.nilB 2 2 1),hH (.nilB 2 3 2)]
  ·obtain ⟨r2,h3,h⟩:=Qae h
   rcases Qah h with ⟨h4,h⟩|⟨h4,h⟩
   ·obtain rfl:=Option.some.inj h
    exact gr 20 [] [rp 5 hP,rp 3 (oI ((ltI r.type_ 0)=false)),nL Qai.enc x0.types,hP,hP,rp 2 (oI ((ltI r.type_ 0)=false)),oR True ((ltI r.type_ 0)=false),bF h0,cC (Qmc h1),bF h2,cC (Qme h3),bT h4,hW 6,hH (.nilB 2 2 1),hH (.nilB 2 3 2)]
   ·obtain ⟨r3,h5,h⟩:=Qae h
    obtain ⟨r4,h6,h⟩:=Qae h
    obtain ⟨e0,h15,h⟩:=Qae h
    refine gn 28 [3,4,6,10,11,49,50,51] [0,1,2,3] [rp 5 hP,rp 3 (oI ((ltI r.type_ 0)=false)),nL Qai.enc x0.types,hP,hP,rp 2 (oI ((ltI r.type_ 0)=false)),oR True ((ltI r.type_ 0)=false),bF h0,cC (Qmc h1),bF h2,cC (Qme h3),bF h4,hH (.draw 12 []),cC (QfF h5),nL Qa5 r.rests,cC (QtA h6),nL es_T_api_Visit.enc r4,hW 2,hH (.nilB 3 2 1),hH (.nilB 3 3 2)] (Qs2 Γ rv h15 ?_)
    obtain ⟨x3,least1⟩:=e0
    replace h:(br (ltI least1 0) (some ((Qad.mk 0 0 [] []),0,24)) (some (x3,least1,0)):Option (Qad×Int×Int))=some _:=h
    rcases Qah h with ⟨h16,h⟩|⟨h16,h⟩
    ·obtain rfl:=Option.some.inj h
     exact gr 6 [] [bT h16,hW 6,hH (.nilB 0 2 1),hH (.nilB 0 3 2)]
    ·obtain rfl:=Option.some.inj h
     exact gr 7 [] [bF h16]
def QiC (Γ:Gam) (rv:Int) (cf:Cf):Prop:=Go Tryz.prog Tryz.f73 [] Γ (one (lI rv)) [] cf
def Qhp (Γ:Gam) (rv:Int) (s0:List Int) (v:Int) (v1:Int):Prop:=QiC Γ rv ⟨[.c 52,.l 52,.b 0,.c 7],⟨19,[vL 0 1 s0 e_i64,vI 1 v,vI 7 (lenI s0),vI 8 v1],[]⟩⟩
def Qg0 (Γ:Gam) (rv:Int) (s0:List Int) (v:Int):Prop:=QiC Γ rv ⟨[.c 7],⟨19,[],[]⟩⟩
theorem QlY (Γ:Gam) (rv:Int) {s0 v} {s:Int} {e:(Unit)⊕(Int)} (h:loopF (fun s=>QdR s0 v s) s=some e) (hD:sel e (fun e=>Qg0 Γ rv s0 v) (fun e=>e=rv)):Qhp Γ rv s0 v s:=by
 refine QaF (C:=fun (s:Int)=>Qhp Γ rv s0 v s) (D:=fun (e:(Unit)⊕(Int))=>sel e (fun e=>Qg0 Γ rv s0 v) (fun e=>e=rv)) ?_ h hD
 clear h hD s e
 intro v1 z_ h hI hE
 replace h:QdR s0 v v1=_:=h
 unfold QdR at h
 rcases Qah h with ⟨h0,h⟩|⟨h0,h⟩
 ·obtain ⟨x0,h1,h⟩:=Qae h
  rcases Qah h with ⟨h2,h⟩|⟨h2,h⟩
  ·obtain rfl:=(hE _ (oJ h):_=rv)
   exact gr 14 [] [bT h0,cE e_i64 h1,bT h2]
  ·exact gn 16 [0,1,7,8] [] [bT h0,cE e_i64 h1,bF h2] (hI _ (oJ h))
 ·exact gn 5 [] [] [bF h0] (hE _ (oJ h))
theorem Qny {s0 v} {rv:Int} (h:QgM s0 v=some rv):AFn Tryz.prog 73 [.one (lL 1 s0 e_i64),.one (lI v)] [] (one (lI rv)) []:=by
 refine QaK Tryz.func73 (by kernel_rfl) (by kernel_rfl) (fun Γ=>?_)
 unfold QgM at h
 obtain ⟨e0,h3,h⟩:=Qae h
 refine gn 7 [0,1,7,8] [] [nL e_i64 s0] (QlY Γ rv h3 ?_)
 rcases e0 with e0|e0
 ·replace h:(some (-1):Option Int)=some _:=h
  obtain rfl:=Option.some.inj h
  exact gr 2 [] []
 ·obtain ⟨r,rfl⟩:∃ x,x=e0:=⟨_,rfl⟩
  replace h:(some r:Option Int)=some _:=h
  exact Option.some.inj h
theorem QgZ {s0 v} {rv:Bool} (h:QfG s0 v=some rv):AFn Tryz.prog 35 [.one (lL 1 s0 e_i64),.one (lI v)] [] (one (.bool rv)) []:=by
 refine QaK Tryz.func35 (by kernel_rfl) (by kernel_rfl) (fun Γ=>?_)
 unfold QfG at h
 obtain ⟨r,h0,h⟩:=Qae h
 obtain rfl:=Option.some.inj h
 exact gr 4 [] [cC (Qny h0)]
theorem QpB {at_ r old c c1 c2} {rv:Qac×Int×Qao} (h:Qm0 at_ r old c c1 c2=some rv):AFn Tryz.prog 74 [.one (lI at_),.agg (Qad.enc r),.one (lI old),.one (.op 0 6 0 0),.one (.op 1 1 0 0),.one (.op 2 6 0 0)] [bX 6 30 (Qac.enc c),bX 1 3 [lI c1],bX 6 80 (Qao.enc c2)] (.tup []) [oX 6 30 [lL 1 rv.1.net.places e_str,lL 6 rv.1.net.arcs Qaq.enc,lL 14 rv.1.types Qai.enc,lL 16 rv.1.orders Qag.enc,lL 2 rv.1.apart QaO.enc,lL 2 rv.1.before QaO.enc],oX 1 3 [lI rv.2.1],oX 6 80 [lI rv.2.2.at_,lI rv.2.2.route.type_,lI rv.2.2.route.start,lL 1 rv.2.2.route.rests Qa5,lL 2 rv.2.2.route.visits Qaa.enc,lI rv.2.2.increase]]:=by
 refine QaK Tryz.func74 (by kernel_rfl) (by kernel_rfl) (fun Γ=>?_)
 unfold Qm0 at h
 obtain ⟨r1,h0,h⟩:=Qae h
 rcases Qah h with ⟨h1,h⟩|⟨h1,h⟩
 ·obtain rfl:=Option.some.inj h
  exact gr 8 [0,1,2] [cC (Qa9 h0),rp 13 hP,rp 3 (oI ((eqI r1.2.2 0)=true)),rp 5 (oI (((eqI r1.2.2 0)=true)∧(ltI c2.at_ 0)=false)),oI ((eqI r1.2.2 0)=true),oI (((eqI r1.2.2 0)=true)∧(ltI c2.at_ 0)=false),oR True ((eqI r1.2.2 0)=true),bT h1]
 ·obtain rfl:=Option.some.inj h
  exact gr 8 [0,1,2] [cC (Qa9 h0),rp 13 hP,rp 3 (oI ((eqI r1.2.2 0)=true)),rp 5 (oI (((eqI r1.2.2 0)=true)∧(ltI c2.at_ 0)=false)),oI ((eqI r1.2.2 0)=true),oI (((eqI r1.2.2 0)=true)∧(ltI c2.at_ 0)=false),oR True ((eqI r1.2.2 0)=true),bF h1]
def Qik (Γ:Gam) (rv:Qao×Int) (cf:Cf):Prop:=Go Tryz.prog Tryz.f36 [] Γ (.tup [.agg [lI rv.1.at_,lI rv.1.route.type_,lI rv.1.route.start,lL 1 rv.1.route.rests Qa5,lL 2 rv.1.route.visits Qaa.enc,lI rv.1.increase],.one (lI rv.2)]) [] cf
def QpC (Γ:Gam) (rv:Qao×Int) (x0:Qac) (p:Qas) (o:Int) (l:List Int) (l1:List Int) (l2:List Int) (v:Int):Prop:=Qik Γ rv ⟨[.c 244,.l 244,.b 0,.c 31],⟨101,[vP 3 0 6,vP 4 1 2,vP 5 2 1,vP 6 3 6,vO 8 4 1 l1 e_i64,vO 9 5 1 l2 e_i64,vL 24 4 p.routes Qad.enc,vI 25 (lenI p.routes),vI 26 v],[oX 6 30 (Qac.enc x0),oX 2 44 (Qas.enc p),oX 1 3 [lI o],oX 6 80 [lI 0,lI 0,lI 0,.nils,.nils,lI 0],oS 1 3 l1 e_i64,oS 1 3 l2 e_i64]⟩⟩
def QoJ (Γ:Gam) (rv:Qao×Int) (x0:Qac) (p:Qas) (o:Int) (l:List Int) (l3:List Int) (l4:List Int):Prop:=Qik Γ rv ⟨[.c 31],⟨101,[vP 3 0 6,vP 4 1 2,vP 5 2 1,vP 6 3 6,vO 8 4 1 l3 e_i64,vO 9 5 1 l4 e_i64],[oX 6 30 (Qac.enc x0),oX 2 44 (Qas.enc p),oX 1 3 [lI o],oX 6 80 [lI 0,lI 0,lI 0,.nils,.nils,lI 0],oS 1 3 l3 e_i64,oS 1 3 l4 e_i64]⟩⟩
def QpD (Γ:Gam) (rv:Qao×Int) (p:Qas) (l:List Int) (l3:List Int) (l4:List Int) (x3:Qac) (at_:Int) (type_:Int) (start:Int) (rests:List Bool) (visits:List Qaa) (increase:Int) (x4:Int) (v1:Int):Prop:=Qik Γ rv ⟨[.c 2036,.l 2036,.b 2,.c 255],⟨101,[vP 3 0 6,vP 4 1 2,vP 6 2 6,vO 8 3 1 l3 e_i64,vO 9 4 1 l4 e_i64,vP 14 5 6,(15,one (.fn (.func 74) [.op 0 6 0 0,.op 6 1 0 0,.op 5 6 0 0])),vL 55 4 p.routes Qad.enc,vI 56 (lenI p.routes),vI 57 v1],[oX 6 30 (Qac.enc x3),oX 2 44 (Qas.enc p),oX 6 80 [lI 0,lI 0,lI 0,.nils,.nils,lI 0],oS 1 3 l3 e_i64,oS 1 3 l4 e_i64,oX 6 80 [lI at_,lI type_,lI start,lL 1 rests Qa5,lL 2 visits Qaa.enc,lI increase],oX 1 3 [lI x4]]⟩⟩
def QoK (Γ:Gam) (rv:Qao×Int) (p:Qas) (l:List Int) (l3:List Int) (l4:List Int) (x7:Qac) (x8:Qao) (x9:Int):Prop:=Qik Γ rv ⟨[.c 255],⟨101,[vP 3 0 6,vP 4 1 2,vP 6 2 6,vO 9 3 1 l4 e_i64,vP 14 4 6,(15,one (.fn (.func 74) [.op 0 6 0 0,.op 5 1 0 0,.op 4 6 0 0]))],[oX 6 30 (Qac.enc x7),oX 2 44 (Qas.enc p),oX 6 80 [lI 0,lI 0,lI 0,.nils,.nils,lI 0],oS 1 3 l4 e_i64,oX 6 80 (Qao.enc x8),oX 1 3 [lI x9]]⟩⟩
def QpE (Γ:Gam) (rv:Qao×Int) (p:Qas) (l:List Int) (l4:List Int) (x10:Qac) (x11:Qao) (x12:Int) (v2:Int) (v3:Int):Prop:=Qik Γ rv ⟨[.c 4084,.l 4084,.b 4,.c 511],⟨101,[vP 3 0 6,vP 4 1 2,vP 6 2 6,vO 9 3 1 l4 e_i64,vP 14 4 6,(15,one (.fn (.func 74) [.op 0 6 0 0,.op 5 1 0 0,.op 4 6 0 0])),vI 73 v2,vI 74 v3],[oX 6 30 (Qac.enc x10),oX 2 44 (Qas.enc p),oX 6 80 [lI 0,lI 0,lI 0,.nils,.nils,lI 0],oS 1 3 l4 e_i64,oX 6 80 (Qao.enc x11),oX 1 3 [lI x12]]⟩⟩
def QoL (Γ:Gam) (rv:Qao×Int) (p:Qas) (l:List Int) (l4:List Int) (x15:Qao):Prop:=Qik Γ rv ⟨[.c 511],⟨101,[vP 6 0 6,vP 14 1 6],[oX 6 80 [lI 0,lI 0,lI 0,.nils,.nils,lI 0],oX 6 80 (Qao.enc x15)]⟩⟩
theorem Qs3 (Γ:Gam) (rv:Qao×Int) {x0 p o l} {s:List Int×List Int×Int} {e:(List Int×List Int)⊕(Qao×Int)} (h:loopF (fun s=>QlS x0 p o l s.1 s.2.1 s.2.2) s=some e) (hD:sel e (fun e=>QoJ Γ rv x0 p o l e.1 e.2) (fun e=>e=rv)):QpC Γ rv x0 p o l s.1 s.2.1 s.2.2:=by
 refine QaF (C:=fun (s:List Int×List Int×Int)=>QpC Γ rv x0 p o l s.1 s.2.1 s.2.2) (D:=fun (e:(List Int×List Int)⊕(Qao×Int))=>sel e (fun e=>QoJ Γ rv x0 p o l e.1 e.2) (fun e=>e=rv)) ?_ h hD
 clear h hD s e
 rintro ⟨l1,l2,v⟩ z_ h hI hE
 replace h:QlS x0 p o l l1 l2 v=_:=h
 unfold QlS at h
 rcases Qah h with ⟨h1,h⟩|⟨h1,h⟩
 ·obtain ⟨x1,h2,h⟩:=Qae h
  obtain ⟨r,h3,h⟩:=Qae h
  rcases Qah h with ⟨h4,h⟩|⟨h4,h⟩
  ·obtain rfl:=(hE _ (oJ h):_=rv)
   exact gr 17 [] [bT h1,cE Qad.enc h2,cC (Qc8 h3),bT h4,hW 6,hH (.nilB 3 3 1),hH (.nilB 3 4 2)]
  ·obtain ⟨h5,h⟩:=Qat h
   obtain ⟨x2,h6,h⟩:=Qae h
   exact gn 22 [3,4,5,6,8,9,24,25,26] [0,1,2,3,8,5] [bT h1,cE Qad.enc h2,cC (Qc8 h3),bF h4,oO (Eq.refl ([r.1].map e_i64).length),aO e_i64 h5,oO (getLo h6),oO (getHi e_i64 h6),rE e_i64 h6,oO (getLo h6),oO (getHi e_i64 h6),rE e_i64 h6,hH (.rows ((setI l2 x1.type_ (addK .i64 x2 1)).map e_i64)),hH (.relen 5 ((setI l2 x1.type_ (addK .i64 x2 1)).map e_i64).length),oO (setM e_i64 l2 x1.type_ (addK .i64 x2 1)),rp 2 (oO (Qvw e_i64 l2 x1.type_ (addK .i64 x2 1)))] (hI _ (oJ h))
 ·exact gn 5 [3,4,5,6,8,9] [0,1,2,3,4,5] [bF h1] (hE _ (oJ h))
theorem Qs4 (Γ:Gam) (rv:Qao×Int) {p l l3 l4} {s:Qac×Int×Int×Int×List Bool×List Qaa×Int×Int×Int} {e:Qac×Qao×Int} (h:loopF (fun s=>QiH p l l3 l4 s.1 s.2.1 s.2.2.1 s.2.2.2.1 s.2.2.2.2.1 s.2.2.2.2.2.1 s.2.2.2.2.2.2.1 s.2.2.2.2.2.2.2.1 s.2.2.2.2.2.2.2.2) s=some e) (hD:QoK Γ rv p l l3 l4 e.1 e.2.1 e.2.2):QpD Γ rv p l l3 l4 s.1 s.2.1 s.2.2.1 s.2.2.2.1 s.2.2.2.2.1 s.2.2.2.2.2.1 s.2.2.2.2.2.2.1 s.2.2.2.2.2.2.2.1 s.2.2.2.2.2.2.2.2:=by
 refine QaF (C:=fun (s:Qac×Int×Int×Int×List Bool×List Qaa×Int×Int×Int)=>QpD Γ rv p l l3 l4 s.1 s.2.1 s.2.2.1 s.2.2.2.1 s.2.2.2.2.1 s.2.2.2.2.2.1 s.2.2.2.2.2.2.1 s.2.2.2.2.2.2.2.1 s.2.2.2.2.2.2.2.2) (D:=fun (e:Qac×Qao×Int)=>QoK Γ rv p l l3 l4 e.1 e.2.1 e.2.2) ?_ h hD
 clear h hD s e
 rintro ⟨x3,at_,type_,start,rests,visits,increase,x4,v1⟩ z_ h hI hE
 replace h:QiH p l l3 l4 x3 at_ type_ start rests visits increase x4 v1=_:=h
 unfold QiH at h
 rcases Qah h with ⟨h8,h⟩|⟨h8,h⟩
 ·obtain ⟨x5,h9,h⟩:=Qae h
  obtain ⟨x6,h10,h⟩:=Qae h
  obtain ⟨r1,h11,h⟩:=Qae h
  exact gn 13 [3,4,6,8,9,14,15,55,56,57] [0,1,2,3,4,5,6] [bT h8,cE Qad.enc h9,hH (.draw 8 [(0,7),(6,7),(5,7)]),oO (getLo h10),oO (getHi e_i64 h10),rE e_i64 h10,cI [0,6,5] (QpB h11)] (hI _ (oJ h))
 ·exact gn 5 [3,4,6,9,14,15] [0,1,2,4,5,6] [bF h8] (hE _ (oJ h))
theorem Qs5 (Γ:Gam) (rv:Qao×Int) {p l l4} {s:Qac×Qao×Int×Int×Int} {e:Qao} (h:loopF (fun s=>Qhs p l l4 s.1 s.2.1 s.2.2.1 s.2.2.2.1 s.2.2.2.2) s=some e) (hD:QoL Γ rv p l l4 e):QpE Γ rv p l l4 s.1 s.2.1 s.2.2.1 s.2.2.2.1 s.2.2.2.2:=by
 refine QaF (C:=fun (s:Qac×Qao×Int×Int×Int)=>QpE Γ rv p l l4 s.1 s.2.1 s.2.2.1 s.2.2.2.1 s.2.2.2.2) (D:=fun (e:Qao)=>QoL Γ rv p l l4 e) ?_ h hD
 clear h hD s e
 rintro ⟨x10,x11,x12,v2,v3⟩ z_ h hI hE
 replace h:Qhs p l l4 x10 x11 x12 v2 v3=_:=h
 unfold Qhs at h
 rcases Qah h with ⟨h13,h⟩|⟨h13,h⟩
 ·obtain ⟨x13,h14,h⟩:=Qae h
  obtain ⟨x14,h15,h⟩:=Qae h
  rcases Qah h with ⟨h16,h⟩|⟨h16,h⟩
  ·obtain ⟨r2,h17,h⟩:=Qae h
   exact gn 16 [3,4,6,9,14,15,73,74] [0,1,2,3,4,5] [bT h13,hH (.draw 11 []),oO (getLo h14),oO (getHi e_i64 h14),rE e_i64 h14,cE Qai.enc h15,bT h16,nL Qad.enc p.routes,hW 2,hH (.nilS 93 2 1),hH (.nilS 93 3 2),cI [0,5,4] (QpB h17)] (hI _ (oJ h))
  ·exact gn 16 [3,4,6,9,14,15,73,74] [0,1,2,3,4,5] [bT h13,hH (.draw 11 []),oO (getLo h14),oO (getHi e_i64 h14),rE e_i64 h14,cE Qai.enc h15,bF h16] (hI _ (oJ h))
 ·exact gn 5 [6,14] [2,4] [bF h13] (hE _ (oJ h))
theorem Qot {x0 p o} {rv:Qao×Int} (h:Qsk x0 p o=some rv):AFn Tryz.prog 36 [.agg (Qac.enc x0),.agg (Qas.enc p),.one (lI o)] [] (.tup [.agg [lI rv.1.at_,lI rv.1.route.type_,lI rv.1.route.start,lL 1 rv.1.route.rests Qa5,lL 2 rv.1.route.visits Qaa.enc,lI rv.1.increase],.one (lI rv.2)]) []:=by
 refine QaK Tryz.func36 (by kernel_rfl) (by kernel_rfl) (fun Γ=>?_)
 unfold Qsk at h
 obtain ⟨l,h0,h⟩:=Qae h
 obtain ⟨e0,h7,h⟩:=Qae h
 refine gn 11 [3,4,5,6,8,9,24,25,26] [0,1,2,3,5,4] [nL Qai.enc x0.types,hH (.cells [lI 0]),hH (.rows (l.map e_i64)),oO (mk1 h0),oO (mk2 h0),oO (mk3 h0),oO (mk4 h0),oO (mk5 e_i64 h0),nL Qad.enc p.routes,hW 3,hH (.adopt 8 1 3)] (Qs3 Γ rv h7 ?_)
 rcases e0 with e0|e0
 ·obtain ⟨l3,l4⟩:=e0
  replace h:(bnd (loopF (fun s=>QiH p l l3 l4 s.1 s.2.1 s.2.2.1 s.2.2.2.1 s.2.2.2.2.1 s.2.2.2.2.2.1 s.2.2.2.2.2.2.1 s.2.2.2.2.2.2.2.1 s.2.2.2.2.2.2.2.2) (x0,(-1),0,0,[],[],0,o,0)) (fun e0=>(fun x7 x8 x9=>bnd (loopF (fun s=>Qhs p l l4 s.1 s.2.1 s.2.2.1 s.2.2.2.1 s.2.2.2.2) (x7,x8,x9,(lenI x7.types),0)) (fun x15=>br (ltI x15.at_ 0) (some ((Qao.mk 0 (Qad.mk 0 0 [] []) 0),24)) (some (x15,0)))) e0.1 e0.2.1 e0.2.2):Option (Qao×Int))=some _:=h
  obtain ⟨e1,h12,h⟩:=Qae h
  refine gn 9 [3,4,6,8,9,14,15,55,56,57] [0,1,3,4,5,6,2] [nL Qad.enc p.routes,hW 3,hH (.nilB 6 3 1),hH (.nilB 6 4 2)] (Qs4 Γ rv h12 ?_)
  obtain ⟨x7,x8,x9⟩:=e1
  replace h:(bnd (loopF (fun s=>Qhs p l l4 s.1 s.2.1 s.2.2.1 s.2.2.2.1 s.2.2.2.2) (x7,x8,x9,(lenI x7.types),0)) (fun x15=>br (ltI x15.at_ 0) (some ((Qao.mk 0 (Qad.mk 0 0 [] []) 0),24)) (some (x15,0))):Option (Qao×Int))=some _:=h
  obtain ⟨e2,h18,h⟩:=Qae h
  refine gn 5 [3,4,6,9,14,15,73,74] [0,1,2,3,4,5] [nL Qai.enc x7.types] (Qs5 Γ rv h18 ?_)
  obtain ⟨x15,rfl⟩:∃ x,x=e2:=⟨_,rfl⟩
  replace h:(br (ltI x15.at_ 0) (some ((Qao.mk 0 (Qad.mk 0 0 [] []) 0),24)) (some (x15,0)):Option (Qao×Int))=some _:=h
  rcases Qah h with ⟨h19,h⟩|⟨h19,h⟩
  ·obtain rfl:=Option.some.inj h
   exact gr 6 [] [bT h19,hW 5,hH (.nilB 0 3 1),hH (.nilB 0 4 2)]
  ·obtain rfl:=Option.some.inj h
   exact gr 7 [] [bF h19]
 ·obtain ⟨r3,rfl⟩:∃ x,x=e0:=⟨_,rfl⟩
  replace h:(some r3:Option (Qao×Int))=some _:=h
  exact Option.some.inj h
theorem Qo1 {x0 order} {rv:Qay×Int} (h:QoB x0 order=some rv):AFn Tryz.prog 75 [.agg (Qac.enc x0),.one (lI order)] [] (.tup [.agg [lI rv.1.cost,lI rv.1.moved,lI rv.1.other,lI rv.1.work],.one (lI rv.2)]) []:=by
 refine QaK Tryz.func75 (by kernel_rfl) (by kernel_rfl) (fun Γ=>?_)
 unfold QoB at h
 rcases Qah h with ⟨h0,h⟩|⟨h0,h⟩
 ·obtain rfl:=Option.some.inj h
  exact gr 8 [] [rp 4 hP,rp 2 (oI ((ltI order 0)=false)),nL Qag.enc x0.orders,hP,hP,rp 2 (oI ((ltI order 0)=false)),oR True ((ltI order 0)=false),bT h0]
 ·obtain ⟨x1,h1,h⟩:=Qae h
  rcases Qah h with ⟨h2,h⟩|⟨h2,h⟩
  ·obtain rfl:=Option.some.inj h
   exact gr 16 [] [rp 4 hP,rp 2 (oI ((ltI order 0)=false)),nL Qag.enc x0.orders,hP,hP,rp 2 (oI ((ltI order 0)=false)),oR True ((ltI order 0)=false),bF h0,cE Qag.enc h1,bT h2]
  ·rcases Qah h with ⟨h3,h⟩|⟨h3,h⟩
   ·obtain rfl:=Option.some.inj h
    exact gr 19 [] [rp 4 hP,rp 2 (oI ((ltI order 0)=false)),nL Qag.enc x0.orders,hP,hP,rp 2 (oI ((ltI order 0)=false)),oR True ((ltI order 0)=false),bF h0,cE Qag.enc h1,bF h2,bT h3]
   ·rcases Qah h with ⟨h4,h⟩|⟨h4,h⟩
    ·obtain rfl:=Option.some.inj h
     exact gr 28 [] [rp 4 hP,rp 2 (oI ((ltI order 0)=false)),nL Qag.enc x0.orders,hP,hP,rp 2 (oI ((ltI order 0)=false)),oR True ((ltI order 0)=false),bF h0,cE Qag.enc h1,bF h2,bF h3,bT h4]
    ·obtain rfl:=Option.some.inj h
     exact gr 28 [] [rp 4 hP,rp 2 (oI ((ltI order 0)=false)),nL Qag.enc x0.orders,hP,hP,rp 2 (oI ((ltI order 0)=false)),oR True ((ltI order 0)=false),bF h0,cE Qag.enc h1,bF h2,bF h3,bF h4]
theorem Qq8 {x0 o increase} {rv:Bool} (h:Qrn x0 o increase=some rv):AFn Tryz.prog 37 [.agg (Qac.enc x0),.one (lI o),.one (lI increase)] [] (one (.bool rv)) []:=by
 refine QaK Tryz.func37 (by kernel_rfl) (by kernel_rfl) (fun Γ=>?_)
 unfold Qrn at h
 obtain ⟨x1,h0,h⟩:=Qae h
 rcases Qah h with ⟨h1,h⟩|⟨h1,h⟩
 ·obtain rfl:=Option.some.inj h
  exact gr 8 [] [cE Qag.enc h0,bT h1]
 ·obtain ⟨r,h2,h⟩:=Qae h
  rcases Qah h with ⟨h3,h⟩|⟨h3,h⟩
  ·obtain rfl:=Option.some.inj h
   exact gr 15 [] [cE Qag.enc h0,bF h1,cC (Qo1 h2),bT h3]
  ·obtain ⟨r1,h4,h⟩:=Qae h
   obtain rfl:=Option.some.inj h
   exact gr 18 [] [cE Qag.enc h0,bF h1,cC (Qo1 h2),bF h3,cC (Qrc h4),rp 4 hP,rp 2 (oI ((eqI r1.2 0)=true)),oR True ((eqI r1.2 0)=true)]
theorem Qdz {s0} {rv:List Qad} (h:QcR s0=some rv):AFn Tryz.prog 76 [.one (lL 4 s0 Qad.enc)] [] (one (lO 0 4 rv Qad.enc)) [oS 4 34 rv Qad.enc]:=by
 refine QaK Tryz.func76 (by kernel_rfl) (by kernel_rfl) (fun Γ=>?_)
 unfold QcR at h
 rcases Qah h with ⟨h0,h⟩|⟨h0,h⟩
 ·obtain ⟨hx,h⟩:=Qv1 h
  refine gn 5 [0,4] [] [hH (.skip)] (cf':=⟨[.c 13,.c 7],⟨8,[vL 0 4 s0 Qad.enc,(4,.boo)],[]⟩⟩) (go_amb 4 rfl ?_ ?_)
  ·replace h:=hx
   obtain rfl:=Option.some.inj h
   exact gr 3 [0] [tT,hW 3,hH (.adopt 2 4 34)]
  ·obtain ⟨h1,h⟩:=Qat h
   obtain rfl:=Option.some.inj h
   exact gr 4 [0] [fF,aZ Qad.enc h1]
 ·obtain ⟨h2,h⟩:=Qat h
  obtain rfl:=Option.some.inj h
  exact gr 9 [0] [oO (neE Qad.enc h0),fF,hH (.bit false),aZ Qad.enc h2]
def QpG (Γ:Gam) (rv:Qas) (cf:Cf):Prop:=Go Tryz.prog Tryz.f38 [] Γ (gG [lL 4 rv.routes Qad.enc,lL 1 rv.unserved e_i64]) [] cf
def QpH (Γ:Gam) (rv:Qas) (p:Qas) (c:Qao) (o:Int) (l:List Qad) (l1:List Int) (v:Int):Prop:=QpG Γ rv ⟨[.c 244,.l 244,.b 0,.c 31],⟨52,[vI 2 o,vP 6 0 2,vP 7 1 2,vL 35 1 p.unserved e_i64,vI 36 (lenI p.unserved),vI 37 v],[oX 2 44 [.nils,.nils],oX 2 44 [lO 2 4 l Qad.enc,lO 3 1 l1 e_i64],oS 4 34 l Qad.enc,oS 1 3 l1 e_i64]⟩⟩
def QoO (Γ:Gam) (rv:Qas) (p:Qas) (c:Qao) (o:Int) (l:List Qad) (l2:List Int):Prop:=QpG Γ rv ⟨[.c 31],⟨52,[vP 6 0 2,vP 7 1 2],[oX 2 44 [.nils,.nils],oX 2 44 [lO 2 4 l Qad.enc,lO 3 1 l2 e_i64],oS 4 34 l Qad.enc,oS 1 3 l2 e_i64]⟩⟩
theorem Qs6 (Γ:Gam) (rv:Qas) {p c o l} {s:List Int×Int} {e:List Int} (h:loopF (fun s=>QlU p c o l s.1 s.2) s=some e) (hD:QoO Γ rv p c o l e):QpH Γ rv p c o l s.1 s.2:=by
 refine QaF (C:=fun (s:List Int×Int)=>QpH Γ rv p c o l s.1 s.2) (D:=fun (e:List Int)=>QoO Γ rv p c o l e) ?_ h hD
 clear h hD s e
 rintro ⟨l1,v⟩ z_ h hI hE
 replace h:QlU p c o l l1 v=_:=h
 unfold QlU at h
 rcases Qah h with ⟨h4,h⟩|⟨h4,h⟩
 ·obtain ⟨x1,h5,h⟩:=Qae h
  rcases Qah h with ⟨h6,h⟩|⟨h6,h⟩
  ·obtain ⟨h7,h⟩:=Qat h
   exact gn 16 [2,6,7,35,36,37] [0,1,2,5] [bT h4,cE e_i64 h5,bT h6,oO (Eq.refl ([x1].map e_i64).length),aO e_i64 h7] (hI _ (oJ h))
  ·exact gn 16 [2,6,7,35,36,37] [0,1,2,3] [bT h4,cE e_i64 h5,bF h6] (hI _ (oJ h))
 ·exact gn 5 [6,7] [0,1,2,3] [bF h4] (hE _ (oJ h))
theorem QoN (Γ:Gam) (rv:Qas) {p c o l} (h:QlT p c o l=some rv):QpG Γ rv ⟨[.c 15],⟨52,[vI 2 o,vP 3 0 2,vP 6 1 2,vP 7 2 2],[oX 2 44 (Qas.enc p),oX 2 44 [.nils,.nils],oX 2 44 [lO 3 4 l Qad.enc,.nils],oS 4 34 l Qad.enc]⟩⟩:=by
 unfold QlT at h
 obtain ⟨e0,h8,h⟩:=Qae h
 refine gn 5 [2,6,7,35,36,37] [1,2,3,4] [nL e_i64 p.unserved,hW 3,hH (.adoptB 2 1 1 3)] (Qs6 Γ rv h8 ?_)
 obtain ⟨l2,rfl⟩:∃ x,x=e0:=⟨_,rfl⟩
 replace h:(some (Qas.mk l l2):Option Qas)=some _:=h
 obtain rfl:=Option.some.inj h
 exact gr 2 [] [hW 4,hH (.frz 2),hH (.frz 3),rp 3 (eL l Qad.enc),rp 3 (eL l2 e_i64)]
theorem QuQ {p c o} {rv:Qas} (h:Qsm p c o=some rv):AFn Tryz.prog 38 [.agg (Qas.enc p),.agg (Qao.enc c),.one (lI o)] [] (gG [lL 4 rv.routes Qad.enc,lL 1 rv.unserved e_i64]) []:=by
 refine QaK Tryz.func38 (by kernel_rfl) (by kernel_rfl) (fun Γ=>?_)
 unfold Qsm at h
 obtain ⟨r,h0,h⟩:=Qae h
 rcases Qah h with ⟨h1,h⟩|⟨h1,h⟩
 ·obtain ⟨x0,h2,h⟩:=Qae h
  exact gn 9 [2,3,6,7] [0,2,4,3] [cC (Qdz h0),nL Qad.enc r,bT h1,oO (getLo h2),oO (getHi Qad.enc h2),rE Qad.enc h2,hH (.rows ((setI r c.at_ c.route).map Qad.enc)),hH (.relen 3 ((setI r c.at_ c.route).map Qad.enc).length),oO (setM Qad.enc r c.at_ c.route),rp 5 (oO (Qvw Qad.enc r c.at_ c.route))] (QoN Γ rv h)
 ·obtain ⟨h3,h⟩:=Qat h
  exact gn 9 [2,3,6,7] [0,2,4,6] [cC (Qdz h0),nL Qad.enc r,bF h1,oO (Eq.refl ([c.route].map Qad.enc).length),aO Qad.enc h3] (QoN Γ rv h)
theorem QnK {r c} {rv:Bool} (h:Qnu r c=some rv):AFn Tryz.prog 78 [.agg (Qad.enc r),.one (.ip [lI c] 0)] [] (one (.bool rv)) []:=by
 refine QaK Tryz.func78 (by kernel_rfl) (by kernel_rfl) (fun Γ=>?_)
 unfold Qnu at h
 obtain ⟨r1,h0,h⟩:=Qae h
 obtain rfl:=Option.some.inj h
 exact gr 4 [] [cC (Qme h0)]
def QcT (Γ:Gam) (rv:Int) (cf:Cf):Prop:=Go Tryz.prog Tryz.f102 [] Γ (one (lI rv)) [] cf
def Qcs (Γ:Gam) (rv:Int) (s0:List Qad) (c:Int) (v:Int):Prop:=QcT Γ rv ⟨[.c 52,.l 52,.b 0,.c 7],⟨19,[vL 0 4 s0 Qad.enc,(1,one (.fn (.func 78) [.ip [lI c] 0])),vI 7 (lenI s0),vI 8 v],[]⟩⟩
def Qcp (Γ:Gam) (rv:Int) (s0:List Qad) (c:Int):Prop:=QcT Γ rv ⟨[.c 7],⟨19,[],[]⟩⟩
theorem Qev (Γ:Gam) (rv:Int) {s0 c} {s:Int} {e:(Unit)⊕(Int)} (h:loopF (fun s=>Qbb s0 c s) s=some e) (hD:sel e (fun e=>Qcp Γ rv s0 c) (fun e=>e=rv)):Qcs Γ rv s0 c s:=by
 refine QaF (C:=fun (s:Int)=>Qcs Γ rv s0 c s) (D:=fun (e:(Unit)⊕(Int))=>sel e (fun e=>Qcp Γ rv s0 c) (fun e=>e=rv)) ?_ h hD
 clear h hD s e
 intro v z_ h hI hE
 replace h:Qbb s0 c v=_:=h
 unfold Qbb at h
 rcases Qah h with ⟨h0,h⟩|⟨h0,h⟩
 ·obtain ⟨x0,h1,h⟩:=Qae h
  obtain ⟨r,h2,h⟩:=Qae h
  rcases Qah h with ⟨h3,h⟩|⟨h3,h⟩
  ·obtain rfl:=(hE _ (oJ h):_=rv)
   exact gr 14 [] [bT h0,cE Qad.enc h1,cC (QnK h2),bT h3]
  ·exact gn 16 [0,1,7,8] [] [bT h0,cE Qad.enc h1,cC (QnK h2),bF h3] (hI _ (oJ h))
 ·exact gn 5 [] [] [bF h0] (hE _ (oJ h))
theorem Qe2 {s0 c} {rv:Int} (h:QbM s0 c=some rv):AFn Tryz.prog 102 [.one (lL 4 s0 Qad.enc),.one (.fn (.func 78) [.ip [lI c] 0])] [] (one (lI rv)) []:=by
 refine QaK Tryz.func102 (by kernel_rfl) (by kernel_rfl) (fun Γ=>?_)
 unfold QbM at h
 obtain ⟨e0,h4,h⟩:=Qae h
 refine gn 7 [0,1,7,8] [] [nL Qad.enc s0] (Qev Γ rv h4 ?_)
 rcases e0 with e0|e0
 ·replace h:(some (-1):Option Int)=some _:=h
  obtain rfl:=Option.some.inj h
  exact gr 2 [] []
 ·obtain ⟨r1,rfl⟩:∃ x,x=e0:=⟨_,rfl⟩
  replace h:(some r1:Option Int)=some _:=h
  exact Option.some.inj h
theorem Qet {s0 c} {rv:Bool} (h:Qby s0 c=some rv):AFn Tryz.prog 77 [.one (lL 4 s0 Qad.enc),.one (.fn (.func 78) [.ip [lI c] 0])] [] (one (.bool rv)) []:=by
 refine QaK Tryz.func77 (by kernel_rfl) (by kernel_rfl) (fun Γ=>?_)
 unfold Qby at h
 obtain ⟨r,h0,h⟩:=Qae h
 obtain rfl:=Option.some.inj h
 exact gr 4 [] [cC (Qe2 h0)]
theorem Qmd {p o} {rv:Bool} (h:QpF p o=some rv):AFn Tryz.prog 39 [.agg (Qas.enc p),.one (lI o)] [] (one (.bool rv)) []:=by
 refine QaK Tryz.func39 (by kernel_rfl) (by kernel_rfl) (fun Γ=>?_)
 unfold QpF at h
 obtain ⟨r,h0,h⟩:=Qae h
 obtain rfl:=Option.some.inj h
 exact gr 4 [] [cC (Qet h0)]
def QgB (Γ:Gam) (rv:Qas×Int) (cf:Cf):Prop:=Go Tryz.prog Tryz.f14 [] Γ (.tup [.agg [lL 4 rv.1.routes Qad.enc,lL 1 rv.1.unserved e_i64],.one (lI rv.2)]) [] cf
def QnG (Γ:Gam) (rv:Qas×Int) (x0:Qac) (list_:List Int) (v:Int):Prop:=QgB Γ rv ⟨[.c 52,.l 52,.b 0,.c 7],⟨100,[vL 1 1 list_ e_i64,vP 2 0 6,vP 4 1 2,vL 15 1 list_ e_i64,vI 16 (lenI list_),vI 17 v],[oX 6 30 (Qac.enc x0),oX 2 44 [.nils,.nils]]⟩⟩
def QmX (Γ:Gam) (rv:Qas×Int) (x0:Qac) (list_:List Int):Prop:=QgB Γ rv ⟨[.c 7],⟨100,[vL 1 1 list_ e_i64,vP 2 0 6,vP 4 1 2],[oX 6 30 (Qac.enc x0),oX 2 44 [.nils,.nils]]⟩⟩
def QnH (Γ:Gam) (rv:Qas×Int) (x0:Qac) (list_:List Int) (routes:List Qad) (unserved:List Int) (v1:Int):Prop:=QgB Γ rv ⟨[.c 244,.l 244,.b 2,.c 31],⟨100,[vP 2 0 6,vP 4 1 2,vP 8 2 2,vL 39 1 list_ e_i64,vI 40 (lenI list_),vI 41 v1],[oX 6 30 (Qac.enc x0),oX 2 44 [.nils,.nils],oX 2 44 [lL 4 routes Qad.enc,lL 1 unserved e_i64]]⟩⟩
def QmY (Γ:Gam) (rv:Qas×Int) (x0:Qac) (list_:List Int) (routes1:List Qad) (unserved1:List Int):Prop:=QgB Γ rv ⟨[.c 31],⟨100,[vP 2 0 6,vP 4 1 2,vP 8 2 2],[oX 6 30 (Qac.enc x0),oX 2 44 [.nils,.nils],oX 2 44 [lL 4 routes1 Qad.enc,lL 1 unserved1 e_i64]]⟩⟩
def QnI (Γ:Gam) (rv:Qas×Int) (x0:Qac) (routes1:List Qad) (l1:List Int) (v2:Int):Prop:=QgB Γ rv ⟨[.c 1012,.l 1012,.b 4,.c 127],⟨100,[vP 4 0 2,vP 8 1 2,vL 74 16 x0.orders Qag.enc,vI 75 (lenI x0.orders),vI 76 v2],[oX 2 44 [.nils,.nils],oX 2 44 [lL 4 routes1 Qad.enc,lO 2 1 l1 e_i64],oS 1 3 l1 e_i64]⟩⟩
def QmZ (Γ:Gam) (rv:Qas×Int) (x0:Qac) (routes1:List Qad) (l2:List Int):Prop:=QgB Γ rv ⟨[.c 127],⟨100,[vP 4 0 2,vP 8 1 2],[oX 2 44 [.nils,.nils],oX 2 44 [lL 4 routes1 Qad.enc,lO 2 1 l2 e_i64],oS 1 3 l2 e_i64]⟩⟩
theorem QrL (Γ:Gam) (rv:Qas×Int) {x0 list_} {s:Int} {e:(Unit)⊕(Qas×Int)} (h:loopF (fun s=>QiG x0 list_ s) s=some e) (hD:sel e (fun e=>QmX Γ rv x0 list_) (fun e=>e=rv)):QnG Γ rv x0 list_ s:=by
 refine QaF (C:=fun (s:Int)=>QnG Γ rv x0 list_ s) (D:=fun (e:(Unit)⊕(Qas×Int))=>sel e (fun e=>QmX Γ rv x0 list_) (fun e=>e=rv)) ?_ h hD
 clear h hD s e
 intro v z_ h hI hE
 replace h:QiG x0 list_ v=_:=h
 unfold QiG at h
 rcases Qah h with ⟨h0,h⟩|⟨h0,h⟩
 ·obtain ⟨x1,h1,h⟩:=Qae h
  rcases Qah h with ⟨h2,h⟩|⟨h2,h⟩
  ·obtain rfl:=(hE _ (oJ h):_=rv)
   exact gr 15 [] [bT h0,cE e_i64 h1,rp 4 hP,rp 2 (oI ((ltI x1 0)=false)),nL Qag.enc x0.orders,hP,hP,rp 2 (oI ((ltI x1 0)=false)),oR True ((ltI x1 0)=false),bT h2,hW 5,hH (.nilB 1 0 4),hH (.nilB 1 1 1)]
  ·obtain ⟨l,h3,h⟩:=Qae h
   obtain ⟨r,h4,h⟩:=Qae h
   rcases Qah h with ⟨h5,h⟩|⟨h5,h⟩
   ·obtain rfl:=(hE _ (oJ h):_=rv)
    exact gr 19 [] [bT h0,cE e_i64 h1,rp 4 hP,rp 2 (oI ((ltI x1 0)=false)),nL Qag.enc x0.orders,hP,hP,rp 2 (oI ((ltI x1 0)=false)),oR True ((ltI x1 0)=false),bF h2,hH (.rows (l.map e_i64)),oO (sl1 h3),oO (sl2 h3),oO (sl3 e_i64 h3),oO (Int.le_refl v),oO (sl3 e_i64 h3),oO (sl6 e_i64 h3),cC (QgZ h4),bT h5,hW 5,hH (.nilB 1 0 4),hH (.nilB 1 1 1)]
   ·exact gn 21 [1,2,4,15,16,17] [0,1] [bT h0,cE e_i64 h1,rp 4 hP,rp 2 (oI ((ltI x1 0)=false)),nL Qag.enc x0.orders,hP,hP,rp 2 (oI ((ltI x1 0)=false)),oR True ((ltI x1 0)=false),bF h2,hH (.rows (l.map e_i64)),oO (sl1 h3),oO (sl2 h3),oO (sl3 e_i64 h3),oO (Int.le_refl v),oO (sl3 e_i64 h3),oO (sl6 e_i64 h3),cC (QgZ h4),bF h5] (hI _ (oJ h))
 ·exact gn 5 [1,2,4] [0,1] [bF h0] (hE _ (oJ h))
theorem QrM (Γ:Gam) (rv:Qas×Int) {x0 list_} {s:List Qad×List Int×Int} {e:List Qad×List Int} (h:loopF (fun s=>Qg4 x0 list_ s.1 s.2.1 s.2.2) s=some e) (hD:QmY Γ rv x0 list_ e.1 e.2):QnH Γ rv x0 list_ s.1 s.2.1 s.2.2:=by
 refine QaF (C:=fun (s:List Qad×List Int×Int)=>QnH Γ rv x0 list_ s.1 s.2.1 s.2.2) (D:=fun (e:List Qad×List Int)=>QmY Γ rv x0 list_ e.1 e.2) ?_ h hD
 clear h hD s e
 rintro ⟨routes,unserved,v1⟩ z_ h hI hE
 replace h:Qg4 x0 list_ routes unserved v1=_:=h
 unfold Qg4 at h
 rcases Qah h with ⟨h7,h⟩|⟨h7,h⟩
 ·obtain ⟨x2,h8,h⟩:=Qae h
  obtain ⟨x3,h9,h⟩:=Qae h
  rcases Qah h with ⟨h10,h⟩|⟨h10,h⟩
  ·exact gn 16 [2,4,8,39,40,41] [0,1,2] [bT h7,cE e_i64 h8,cE Qag.enc h9,bT h10] (hI _ (oJ h))
  ·obtain ⟨r1,h11,h⟩:=Qae h
   rcases Qah h with ⟨h12,h⟩|⟨h12,h⟩
   ·obtain ⟨r2,h13,h⟩:=Qae h
    rcases Qah h with ⟨h14,h⟩|⟨h14,h⟩
    ·obtain ⟨r3,h15,h⟩:=Qae h
     exact gn 23 [2,4,8,39,40,41] [0,1,2] [bT h7,cE e_i64 h8,cE Qag.enc h9,bF h10,cC (Qot h11),rp 5 (bT h12),cC (Qq8 h13),bT h12,bT h14,cC (QuQ h15)] (hI _ (oJ h))
    ·exact gn 23 [2,4,8,39,40,41] [0,1,2] [bT h7,cE e_i64 h8,cE Qag.enc h9,bF h10,cC (Qot h11),rp 5 (bT h12),cC (Qq8 h13),bT h12,bF h14] (hI _ (oJ h))
   ·exact gn 23 [2,4,8,39,40,41] [0,1,2] [bT h7,cE e_i64 h8,cE Qag.enc h9,bF h10,cC (Qot h11),rp 6 (bF h12),fF] (hI _ (oJ h))
 ·exact gn 5 [2,4,8] [0,1,2] [bF h7] (hE _ (oJ h))
theorem QrN (Γ:Gam) (rv:Qas×Int) {x0 routes1} {s:List Int×Int} {e:(List Int)⊕(Qas×Int)} (h:loopF (fun s=>QfP x0 routes1 s.1 s.2) s=some e) (hD:sel e (fun e=>QmZ Γ rv x0 routes1 e) (fun e=>e=rv)):QnI Γ rv x0 routes1 s.1 s.2:=by
 refine QaF (C:=fun (s:List Int×Int)=>QnI Γ rv x0 routes1 s.1 s.2) (D:=fun (e:(List Int)⊕(Qas×Int))=>sel e (fun e=>QmZ Γ rv x0 routes1 e) (fun e=>e=rv)) ?_ h hD
 clear h hD s e
 rintro ⟨l1,v2⟩ z_ h hI hE
 replace h:QfP x0 routes1 l1 v2=_:=h
 unfold QfP at h
 rcases Qah h with ⟨h17,h⟩|⟨h17,h⟩
 ·obtain ⟨x4,h18,h⟩:=Qae h
  rcases Qah h with ⟨h19,h⟩|⟨h19,h⟩
  ·exact gn 16 [4,8,74,75,76] [0,1,2] [bT h17,cE Qag.enc h18,rp 4 (bT h19),tT] (hI _ (oJ h))
  ·obtain ⟨r4,h20,h⟩:=Qae h
   rcases Qah h with ⟨h21,h⟩|⟨h21,h⟩
   ·exact gn 16 [4,8,74,75,76] [0,1,2] [bT h17,cE Qag.enc h18,rp 3 (bF h19),eL l1 e_i64,cC (Qmd h20),bF h19,bT h21] (hI _ (oJ h))
   ·rcases Qah h with ⟨h22,h⟩|⟨h22,h⟩
    ·obtain rfl:=(hE _ (oJ h):_=rv)
     exact gr 20 [] [bT h17,cE Qag.enc h18,rp 3 (bF h19),eL l1 e_i64,cC (Qmd h20),bF h19,bF h21,bT h22,hW 5,hH (.nilB 0 0 4),hH (.nilB 0 1 1)]
    ·obtain ⟨h23,h⟩:=Qat h
     exact gn 23 [4,8,74,75,76] [0,1,5] [bT h17,cE Qag.enc h18,rp 3 (bF h19),eL l1 e_i64,cC (Qmd h20),bF h19,bF h21,bF h22,oO (Eq.refl ([v2].map e_i64).length),aO e_i64 h23] (hI _ (oJ h))
 ·exact gn 5 [4,8] [0,1,2] [bF h17] (hE _ (oJ h))
theorem Qg5 {x0 list_} {rv:Qas×Int} (h:QpA x0 list_=some rv):AFn Tryz.prog 14 [.agg (Qac.enc x0),.one (lL 1 list_ e_i64)] [] (.tup [.agg [lL 4 rv.1.routes Qad.enc,lL 1 rv.1.unserved e_i64],.one (lI rv.2)]) []:=by
 refine QaK Tryz.func14 (by kernel_rfl) (by kernel_rfl) (fun Γ=>?_)
 unfold QpA at h
 obtain ⟨e0,h6,h⟩:=Qae h
 refine gn 7 [1,2,4,15,16,17] [0,1] [nL e_i64 list_] (QrL Γ rv h6 ?_)
 rcases e0 with e0|e0
 ·replace h:(bnd (loopF (fun s=>Qg4 x0 list_ s.1 s.2.1 s.2.2) ([],[],0)) (fun e0=>(fun routes1 unserved1=>bnd (loopF (fun s=>QfP x0 routes1 s.1 s.2) ([],0)) (fun e=>sel e (fun l2=>some ((Qas.mk routes1 l2),0)) (fun r5=>some r5))) e0.1 e0.2):Option (Qas×Int))=some _:=h
  obtain ⟨e1,h16,h⟩:=Qae h
  refine gn 7 [2,4,8,39,40,41] [0,1,2] [nL e_i64 list_,hW 3,hH (.nilB 2 0 4),hH (.nilB 2 1 1)] (QrM Γ rv h16 ?_)
  obtain ⟨routes1,unserved1⟩:=e1
  replace h:(bnd (loopF (fun s=>QfP x0 routes1 s.1 s.2) ([],0)) (fun e=>sel e (fun l2=>some ((Qas.mk routes1 l2),0)) (fun r5=>some r5)):Option (Qas×Int))=some _:=h
  obtain ⟨e2,h24,h⟩:=Qae h
  refine gn 7 [4,8,74,75,76] [1,2,3] [nL Qag.enc x0.orders,hW 3,hH (.adoptB 2 1 1 3)] (QrN Γ rv h24 ?_)
  rcases e2 with e2|e2
  ·obtain ⟨l2,rfl⟩:∃ x,x=e2:=⟨_,rfl⟩
   replace h:(some ((Qas.mk routes1 l2),0):Option (Qas×Int))=some _:=h
   obtain rfl:=Option.some.inj h
   exact gr 2 [] [hW 5,hH (.frz 2),rp 3 (eL l2 e_i64)]
  ·obtain ⟨r5,rfl⟩:∃ x,x=e2:=⟨_,rfl⟩
   replace h:(some r5:Option (Qas×Int))=some _:=h
   exact Option.some.inj h
 ·obtain ⟨r6,rfl⟩:∃ x,x=e0:=⟨_,rfl⟩
  replace h:(some r6:Option (Qas×Int))=some _:=h
  exact Option.some.inj h
def QgO (Γ:Gam) (rv:Qac) (cf:Cf):Prop:=Go Tryz.prog Tryz.f24 [] Γ (gG [lL 1 rv.net.places e_str,lL 6 rv.net.arcs Qaq.enc,lL 14 rv.types Qai.enc,lL 16 rv.orders Qag.enc,lL 2 rv.apart QaO.enc,lL 2 rv.before QaO.enc]) [] cf
def QjS (Γ:Gam) (rv:Qac) (l:List Qaq) (v:Int):Prop:=QgO Γ rv ⟨[.c 116,.l 116,.b 0,.c 15],⟨65,[vP 0 0 6,vP 1 1 6,vO 15 2 3 [(Qfd.mk 0 1 10),(Qfd.mk 1 0 10),(Qfd.mk 0 2 20),(Qfd.mk 2 0 20),(Qfd.mk 1 2 10),(Qfd.mk 2 1 10)] Qfd.enc,vI 16 (lenI [(Qfd.mk 0 1 10),(Qfd.mk 1 0 10),(Qfd.mk 0 2 20),(Qfd.mk 2 0 20),(Qfd.mk 1 2 10),(Qfd.mk 2 1 10)]),vI 17 v],[oX 6 30 [.nils,.nils,.nils,.nils,.nils,.nils],oX 6 30 [lO 3 1 [Qgz,Qk0,Qk1] e_str,lO 4 6 l Qaq.enc,.nils,.nils,.nils,.nils],oS 3 116 [(Qfd.mk 0 1 10),(Qfd.mk 1 0 10),(Qfd.mk 0 2 20),(Qfd.mk 2 0 20),(Qfd.mk 1 2 10),(Qfd.mk 2 1 10)] Qfd.enc,oS 1 9 [Qgz,Qk0,Qk1] e_str,oS 6 122 l Qaq.enc]⟩⟩
def Qjf (Γ:Gam) (rv:Qac) (l1:List Qaq):Prop:=QgO Γ rv ⟨[.c 15],⟨65,[vP 0 0 6,vP 1 1 6],[oX 6 30 [.nils,.nils,.nils,.nils,.nils,.nils],oX 6 30 [lO 2 1 [Qgz,Qk0,Qk1] e_str,lO 3 6 l1 Qaq.enc,.nils,.nils,.nils,.nils],oS 1 9 [Qgz,Qk0,Qk1] e_str,oS 6 122 l1 Qaq.enc]⟩⟩
def QjT (Γ:Gam) (rv:Qac) (l1:List Qaq) (l2:List Qag) (v1:Int):Prop:=QgO Γ rv ⟨[.c 500,.l 500,.b 2,.c 63],⟨65,[vP 0 0 6,vP 1 1 6,vO 44 2 1 [Qsw,Qsx] e_str,vI 45 (lenI [Qsw,Qsx]),vI 46 v1],[oX 6 30 [.nils,.nils,.nils,.nils,.nils,.nils],oX 6 30 [lO 3 1 [Qgz,Qk0,Qk1] e_str,lO 4 6 l1 Qaq.enc,lO 5 14 [(Qai.mk Qqj 1 0 0 [2] 0 0 0 100 100 0 0 1 0)] Qai.enc,lO 6 16 l2 Qag.enc,.nils,.nils],oS 1 9 [Qsw,Qsx] e_str,oS 1 9 [Qgz,Qk0,Qk1] e_str,oS 6 122 l1 Qaq.enc,oS 14 124 [(Qai.mk Qqj 1 0 0 [2] 0 0 0 100 100 0 0 1 0)] Qai.enc,oS 16 74 l2 Qag.enc]⟩⟩
def Qjg (Γ:Gam) (rv:Qac) (l1:List Qaq) (l3:List Qag):Prop:=QgO Γ rv ⟨[.c 63],⟨65,[vP 0 0 6,vP 1 1 6],[oX 6 30 [.nils,.nils,.nils,.nils,.nils,.nils],oX 6 30 [lO 2 1 [Qgz,Qk0,Qk1] e_str,lO 3 6 l1 Qaq.enc,lO 4 14 [(Qai.mk Qqj 1 0 0 [2] 0 0 0 100 100 0 0 1 0)] Qai.enc,lO 5 16 l3 Qag.enc,.nils,.nils],oS 1 9 [Qgz,Qk0,Qk1] e_str,oS 6 122 l1 Qaq.enc,oS 14 124 [(Qai.mk Qqj 1 0 0 [2] 0 0 0 100 100 0 0 1 0)] Qai.enc,oS 16 74 l3 Qag.enc]⟩⟩
theorem Qo9 (Γ:Gam) (rv:Qac) {s:List Qaq×Int} {e:List Qaq} (h:loopF (fun s=>Qga s.1 s.2) s=some e) (hD:Qjf Γ rv e):QjS Γ rv s.1 s.2:=by
 refine QaF (C:=fun (s:List Qaq×Int)=>QjS Γ rv s.1 s.2) (D:=fun (e:List Qaq)=>Qjf Γ rv e) ?_ h hD
 clear h hD s e
 rintro ⟨l,v⟩ z_ h hI hE
 replace h:Qga l v=_:=h
 unfold Qga at h
 rcases Qah h with ⟨h0,h⟩|⟨h0,h⟩
 ·obtain ⟨x0,h1,h⟩:=Qae h
  obtain ⟨h2,h⟩:=Qat h
  exact gn 13 [0,1,15,16,17] [0,1,2,3,8] [bT h0,oO (getLo h1),oO (getHi Qfd.enc h1),rE Qfd.enc h1,hW 17,hH (.frz 6),hH (.nilS 34 5 2),oO (zL 0),oO (lT 0 3),oO (zL 1),oO (lT 1 3),oO (zL 2),oO (lT 2 3),oO (zL 2),oO (lT 2 3),rp 2 (oO (Eq.refl ([(Qam.mk 0 x0.x2)].map Qam.enc).length)),oO (Eq.refl ([(Qaq.mk x0.x0 x0.x1 0 x0.x2 [(Qam.mk 0 x0.x2)] [])].map Qaq.enc).length),aO Qaq.enc h2] (hI _ (oJ h))
 ·exact gn 5 [0,1] [0,1,3,4] [bF h0] (hE _ (oJ h))
theorem Qpa (Γ:Gam) (rv:Qac) {l1} {s:List Qag×Int} {e:List Qag} (h:loopF (fun s=>QeS l1 s.1 s.2) s=some e) (hD:Qjg Γ rv l1 e):QjT Γ rv l1 s.1 s.2:=by
 refine QaF (C:=fun (s:List Qag×Int)=>QjT Γ rv l1 s.1 s.2) (D:=fun (e:List Qag)=>Qjg Γ rv l1 e) ?_ h hD
 clear h hD s e
 rintro ⟨l2,v1⟩ z_ h hI hE
 replace h:QeS l1 l2 v1=_:=h
 unfold QeS at h
 rcases Qah h with ⟨h4,h⟩|⟨h4,h⟩
 ·obtain ⟨x1,h5,h⟩:=Qae h
  obtain ⟨h6,h⟩:=Qat h
  exact gn 13 [0,1,44,45,46] [0,1,2,3,4,5,9] [bT h4,oO (getLo h5),oO (getHi e_str h5),rE e_str h5,hW 12,hH (.frz 7),rp 2 (oO (Eq.refl ([1].map e_i64).length)),oO (Eq.refl ([(Qag.mk x1 [1] (Qau.mk (-1) 0 0 0) (Qau.mk (addK .i64 v1 1) 0 90 0) 0 30 1 (-1) (-1) false)].map Qag.enc).length),aO Qag.enc h6] (hI _ (oJ h))
 ·exact gn 5 [0,1] [0,1,3,4,5,6] [bF h4] (hE _ (oJ h))
theorem QeT {rv:Qac} (h:QkV=some rv):AFn Tryz.prog 24 [] [] (gG [lL 1 rv.net.places e_str,lL 6 rv.net.arcs Qaq.enc,lL 14 rv.types Qai.enc,lL 16 rv.orders Qag.enc,lL 2 rv.apart QaO.enc,lL 2 rv.before QaO.enc]) []:=by
 refine QaK Tryz.func24 (by kernel_rfl) (by kernel_rfl) (fun Γ=>?_)
 unfold QkV at h
 obtain ⟨e0,h3,h⟩:=Qae h
 refine gn 9 [0,1,15,16,17] [0,2,3,1,4] [nL Qfd.enc [(Qfd.mk 0 1 10),(Qfd.mk 1 0 10),(Qfd.mk 0 2 20),(Qfd.mk 2 0 20),(Qfd.mk 1 2 10),(Qfd.mk 2 1 10)],hW 3,hH (.adoptB 2 1 6 122)] (Qo9 Γ rv h3 ?_)
 obtain ⟨l1,rfl⟩:∃ x,x=e0:=⟨_,rfl⟩
 replace h:(bnd (loopF (fun s=>QeS l1 s.1 s.2) ([],0)) (fun l3=>some (Qac.mk (Qak.mk [Qgz,Qk0,Qk1] l1) [(Qai.mk Qqj 1 0 0 [2] 0 0 0 100 100 0 0 1 0)] l3 [] [])):Option Qac)=some _:=h
 obtain ⟨e1,h7,h⟩:=Qae h
 refine gn 7 [0,1,44,45,46] [0,1,6,2,3,5,7] [hW 4,hH (.frz 4),rp 2 (oO (Eq.refl ([2].map e_i64).length)),nL e_str [Qsw,Qsx],hW 3,hH (.adoptB 1 3 16 74)] (Qpa Γ rv h7 ?_)
 obtain ⟨l3,rfl⟩:∃ x,x=e1:=⟨_,rfl⟩
 replace h:(some (Qac.mk (Qak.mk [Qgz,Qk0,Qk1] l1) [(Qai.mk Qqj 1 0 0 [2] 0 0 0 100 100 0 0 1 0)] l3 [] []):Option Qac)=some _:=h
 obtain rfl:=Option.some.inj h
 exact gr 2 [] [hW 4,hH (.frz 2),hH (.frz 3),hH (.frz 4),hH (.frz 5),hH (.nilB 0 4 2),hH (.nilB 0 5 2),rp 3 (oO (Eq.refl ([Qgz,Qk0,Qk1].map e_str).length)),rp 3 (eL l1 Qaq.enc),rp 3 (oO (Eq.refl ([(Qai.mk Qqj 1 0 0 [2] 0 0 0 100 100 0 0 1 0)].map Qai.enc).length)),rp 3 (eL l3 Qag.enc)]
theorem Qcy {rv:Bool} (h:QbV=some rv):AFn Tryz.prog 10 [] [] (one (.bool rv)) []:=by
 refine QaK Tryz.func10 (by kernel_rfl) (by kernel_rfl) (fun Γ=>?_)
 unfold QbV at h
 obtain ⟨r,h0,h⟩:=Qae h
 obtain ⟨r1,h1,h⟩:=Qae h
 obtain ⟨r2,h2,h⟩:=Qae h
 obtain ⟨r3,h3,h⟩:=Qae h
 obtain ⟨r4,h4,h⟩:=Qae h
 rcases Qah h with ⟨h5,h⟩|⟨h5,h⟩
 ·obtain rfl:=Option.some.inj h
  exact gr 20 [] [cC (QeT h0),hW 16,hH (.frz 3),hH (.nilS 22 2 1),rp 2 (oO (Eq.refl ([(Qaa.mk 1 true)].map Qaa.enc).length)),cC (Qa9 h1),hW 15,hH (.frz 5),hH (.frz 6),rp 2 (oO (Eq.refl ([false].map Qa5).length)),rp 2 (oO (Eq.refl ([(Qaa.mk 1 true)].map Qaa.enc).length)),cC (Qa9 h2),hW 12,hH (.frz 8),oO (Eq.refl ([0,1].map e_i64).length),cC (Qg5 h3),hW 10,hH (.nilS 45 2 1),hH (.nilS 45 3 2),cC (Qa9 h4),rp 12 hP,oI ((neI r1.2.2 0)=false),oR True ((neI r1.2.2 0)=false),oI (((neI r1.2.2 0)||(neI r2.2.2 0))=false),oR True (((neI r1.2.2 0)||(neI r2.2.2 0))=false),oI ((((neI r1.2.2 0)||(neI r2.2.2 0))||(neI r3.2 0))=false),oR True ((((neI r1.2.2 0)||(neI r2.2.2 0))||(neI r3.2 0))=false),rp 2 (oI (((((neI r1.2.2 0)||(neI r2.2.2 0))||(neI r3.2 0))||(neI r4.2.2 2))=false)),nL Qaa.enc r1.1.visits,rp 5 hP,oI (((((neI r1.2.2 0)||(neI r2.2.2 0))||(neI r3.2 0))||(neI r4.2.2 2))=false),oR True (((((neI r1.2.2 0)||(neI r2.2.2 0))||(neI r3.2 0))||(neI r4.2.2 2))=false),rp 2 (oI ((((((neI r1.2.2 0)||(neI r2.2.2 0))||(neI r3.2 0))||(neI r4.2.2 2))||(neI (lenI r1.1.visits) 2))=false)),nL Qaa.enc r2.1.visits,rp 5 hP,oI ((((((neI r1.2.2 0)||(neI r2.2.2 0))||(neI r3.2 0))||(neI r4.2.2 2))||(neI (lenI r1.1.visits) 2))=false),oR True ((((((neI r1.2.2 0)||(neI r2.2.2 0))||(neI r3.2 0))||(neI r4.2.2 2))||(neI (lenI r1.1.visits) 2))=false),rp 2 (oI (((((((neI r1.2.2 0)||(neI r2.2.2 0))||(neI r3.2 0))||(neI r4.2.2 2))||(neI (lenI r1.1.visits) 2))||(neI (lenI r2.1.visits) 2))=false)),nL Qad.enc r3.1.routes,hP,hP,oI (((((((neI r1.2.2 0)||(neI r2.2.2 0))||(neI r3.2 0))||(neI r4.2.2 2))||(neI (lenI r1.1.visits) 2))||(neI (lenI r2.1.visits) 2))=false),oR True (((((((neI r1.2.2 0)||(neI r2.2.2 0))||(neI r3.2 0))||(neI r4.2.2 2))||(neI (lenI r1.1.visits) 2))||(neI (lenI r2.1.visits) 2))=false),bT h5]
 ·obtain ⟨x0,h6,h⟩:=Qae h
  rcases Qah h with ⟨h7,h⟩|⟨h7,h⟩
  ·obtain ⟨x1,h8,h⟩:=Qae h
   rcases Qah h with ⟨h9,h⟩|⟨h9,h⟩
   ·obtain ⟨x2,h10,h⟩:=Qae h
    rcases Qah h with ⟨h11,h⟩|⟨h11,h⟩
    ·obtain ⟨x3,h12,h⟩:=Qae h
     obtain rfl:=Option.some.inj h
     exact gr 21 [] [cC (QeT h0),hW 16,hH (.frz 3),hH (.nilS 22 2 1),rp 2 (oO (Eq.refl ([(Qaa.mk 1 true)].map Qaa.enc).length)),cC (Qa9 h1),hW 15,hH (.frz 5),hH (.frz 6),rp 2 (oO (Eq.refl ([false].map Qa5).length)),rp 2 (oO (Eq.refl ([(Qaa.mk 1 true)].map Qaa.enc).length)),cC (Qa9 h2),hW 12,hH (.frz 8),oO (Eq.refl ([0,1].map e_i64).length),cC (Qg5 h3),hW 10,hH (.nilS 45 2 1),hH (.nilS 45 3 2),cC (Qa9 h4),rp 12 hP,oI ((neI r1.2.2 0)=false),oR True ((neI r1.2.2 0)=false),oI (((neI r1.2.2 0)||(neI r2.2.2 0))=false),oR True (((neI r1.2.2 0)||(neI r2.2.2 0))=false),oI ((((neI r1.2.2 0)||(neI r2.2.2 0))||(neI r3.2 0))=false),oR True ((((neI r1.2.2 0)||(neI r2.2.2 0))||(neI r3.2 0))=false),rp 2 (oI (((((neI r1.2.2 0)||(neI r2.2.2 0))||(neI r3.2 0))||(neI r4.2.2 2))=false)),nL Qaa.enc r1.1.visits,rp 5 hP,oI (((((neI r1.2.2 0)||(neI r2.2.2 0))||(neI r3.2 0))||(neI r4.2.2 2))=false),oR True (((((neI r1.2.2 0)||(neI r2.2.2 0))||(neI r3.2 0))||(neI r4.2.2 2))=false),rp 2 (oI ((((((neI r1.2.2 0)||(neI r2.2.2 0))||(neI r3.2 0))||(neI r4.2.2 2))||(neI (lenI r1.1.visits) 2))=false)),nL Qaa.enc r2.1.visits,rp 5 hP,oI ((((((neI r1.2.2 0)||(neI r2.2.2 0))||(neI r3.2 0))||(neI r4.2.2 2))||(neI (lenI r1.1.visits) 2))=false),oR True ((((((neI r1.2.2 0)||(neI r2.2.2 0))||(neI r3.2 0))||(neI r4.2.2 2))||(neI (lenI r1.1.visits) 2))=false),rp 2 (oI (((((((neI r1.2.2 0)||(neI r2.2.2 0))||(neI r3.2 0))||(neI r4.2.2 2))||(neI (lenI r1.1.visits) 2))||(neI (lenI r2.1.visits) 2))=false)),nL Qad.enc r3.1.routes,hP,hP,oI (((((((neI r1.2.2 0)||(neI r2.2.2 0))||(neI r3.2 0))||(neI r4.2.2 2))||(neI (lenI r1.1.visits) 2))||(neI (lenI r2.1.visits) 2))=false),oR True (((((((neI r1.2.2 0)||(neI r2.2.2 0))||(neI r3.2 0))||(neI r4.2.2 2))||(neI (lenI r1.1.visits) 2))||(neI (lenI r2.1.visits) 2))=false),bF h5,hH (.draw 42 []),cE Qaa.enc h6,hP,hP,hP,oI ((eqI x0.order 0&&(eqB x0.drop true&&true))=true),oR True ((eqI x0.order 0&&(eqB x0.drop true&&true))=true),rp 3 (bT h7),cE Qaa.enc h8,rp 4 (bT h7),rp 3 (bT h9),cE Qaa.enc h10,rp 4 (bT h9),rp 3 (bT h11),cE Qad.enc h12,rp 3 (bT h11),nL Qaa.enc x3.visits,rp 2 (bT h11),hP,hP,hP,rp 2 (oI ((eqI (lenI x3.visits) 2)=true)),nL e_i64 r3.1.unserved,hP,hP,oI ((eqI (lenI x3.visits) 2)=true),oR True ((eqI (lenI x3.visits) 2)=true)]
    ·obtain rfl:=Option.some.inj h
     exact gr 21 [] [cC (QeT h0),hW 16,hH (.frz 3),hH (.nilS 22 2 1),rp 2 (oO (Eq.refl ([(Qaa.mk 1 true)].map Qaa.enc).length)),cC (Qa9 h1),hW 15,hH (.frz 5),hH (.frz 6),rp 2 (oO (Eq.refl ([false].map Qa5).length)),rp 2 (oO (Eq.refl ([(Qaa.mk 1 true)].map Qaa.enc).length)),cC (Qa9 h2),hW 12,hH (.frz 8),oO (Eq.refl ([0,1].map e_i64).length),cC (Qg5 h3),hW 10,hH (.nilS 45 2 1),hH (.nilS 45 3 2),cC (Qa9 h4),rp 12 hP,oI ((neI r1.2.2 0)=false),oR True ((neI r1.2.2 0)=false),oI (((neI r1.2.2 0)||(neI r2.2.2 0))=false),oR True (((neI r1.2.2 0)||(neI r2.2.2 0))=false),oI ((((neI r1.2.2 0)||(neI r2.2.2 0))||(neI r3.2 0))=false),oR True ((((neI r1.2.2 0)||(neI r2.2.2 0))||(neI r3.2 0))=false),rp 2 (oI (((((neI r1.2.2 0)||(neI r2.2.2 0))||(neI r3.2 0))||(neI r4.2.2 2))=false)),nL Qaa.enc r1.1.visits,rp 5 hP,oI (((((neI r1.2.2 0)||(neI r2.2.2 0))||(neI r3.2 0))||(neI r4.2.2 2))=false),oR True (((((neI r1.2.2 0)||(neI r2.2.2 0))||(neI r3.2 0))||(neI r4.2.2 2))=false),rp 2 (oI ((((((neI r1.2.2 0)||(neI r2.2.2 0))||(neI r3.2 0))||(neI r4.2.2 2))||(neI (lenI r1.1.visits) 2))=false)),nL Qaa.enc r2.1.visits,rp 5 hP,oI ((((((neI r1.2.2 0)||(neI r2.2.2 0))||(neI r3.2 0))||(neI r4.2.2 2))||(neI (lenI r1.1.visits) 2))=false),oR True ((((((neI r1.2.2 0)||(neI r2.2.2 0))||(neI r3.2 0))||(neI r4.2.2 2))||(neI (lenI r1.1.visits) 2))=false),rp 2 (oI (((((((neI r1.2.2 0)||(neI r2.2.2 0))||(neI r3.2 0))||(neI r4.2.2 2))||(neI (lenI r1.1.visits) 2))||(neI (lenI r2.1.visits) 2))=false)),nL Qad.enc r3.1.routes,hP,hP,oI (((((((neI r1.2.2 0)||(neI r2.2.2 0))||(neI r3.2 0))||(neI r4.2.2 2))||(neI (lenI r1.1.visits) 2))||(neI (lenI r2.1.visits) 2))=false),oR True (((((((neI r1.2.2 0)||(neI r2.2.2 0))||(neI r3.2 0))||(neI r4.2.2 2))||(neI (lenI r1.1.visits) 2))||(neI (lenI r2.1.visits) 2))=false),bF h5,hH (.draw 42 []),cE Qaa.enc h6,hP,hP,hP,oI ((eqI x0.order 0&&(eqB x0.drop true&&true))=true),oR True ((eqI x0.order 0&&(eqB x0.drop true&&true))=true),rp 3 (bT h7),cE Qaa.enc h8,rp 4 (bT h7),rp 3 (bT h9),cE Qaa.enc h10,rp 4 (bT h9),rp 8 (bF h11),rp 5 fF]
   ·obtain rfl:=Option.some.inj h
    exact gr 21 [] [cC (QeT h0),hW 16,hH (.frz 3),hH (.nilS 22 2 1),rp 2 (oO (Eq.refl ([(Qaa.mk 1 true)].map Qaa.enc).length)),cC (Qa9 h1),hW 15,hH (.frz 5),hH (.frz 6),rp 2 (oO (Eq.refl ([false].map Qa5).length)),rp 2 (oO (Eq.refl ([(Qaa.mk 1 true)].map Qaa.enc).length)),cC (Qa9 h2),hW 12,hH (.frz 8),oO (Eq.refl ([0,1].map e_i64).length),cC (Qg5 h3),hW 10,hH (.nilS 45 2 1),hH (.nilS 45 3 2),cC (Qa9 h4),rp 12 hP,oI ((neI r1.2.2 0)=false),oR True ((neI r1.2.2 0)=false),oI (((neI r1.2.2 0)||(neI r2.2.2 0))=false),oR True (((neI r1.2.2 0)||(neI r2.2.2 0))=false),oI ((((neI r1.2.2 0)||(neI r2.2.2 0))||(neI r3.2 0))=false),oR True ((((neI r1.2.2 0)||(neI r2.2.2 0))||(neI r3.2 0))=false),rp 2 (oI (((((neI r1.2.2 0)||(neI r2.2.2 0))||(neI r3.2 0))||(neI r4.2.2 2))=false)),nL Qaa.enc r1.1.visits,rp 5 hP,oI (((((neI r1.2.2 0)||(neI r2.2.2 0))||(neI r3.2 0))||(neI r4.2.2 2))=false),oR True (((((neI r1.2.2 0)||(neI r2.2.2 0))||(neI r3.2 0))||(neI r4.2.2 2))=false),rp 2 (oI ((((((neI r1.2.2 0)||(neI r2.2.2 0))||(neI r3.2 0))||(neI r4.2.2 2))||(neI (lenI r1.1.visits) 2))=false)),nL Qaa.enc r2.1.visits,rp 5 hP,oI ((((((neI r1.2.2 0)||(neI r2.2.2 0))||(neI r3.2 0))||(neI r4.2.2 2))||(neI (lenI r1.1.visits) 2))=false),oR True ((((((neI r1.2.2 0)||(neI r2.2.2 0))||(neI r3.2 0))||(neI r4.2.2 2))||(neI (lenI r1.1.visits) 2))=false),rp 2 (oI (((((((neI r1.2.2 0)||(neI r2.2.2 0))||(neI r3.2 0))||(neI r4.2.2 2))||(neI (lenI r1.1.visits) 2))||(neI (lenI r2.1.visits) 2))=false)),nL Qad.enc r3.1.routes,hP,hP,oI (((((((neI r1.2.2 0)||(neI r2.2.2 0))||(neI r3.2 0))||(neI r4.2.2 2))||(neI (lenI r1.1.visits) 2))||(neI (lenI r2.1.visits) 2))=false),oR True (((((((neI r1.2.2 0)||(neI r2.2.2 0))||(neI r3.2 0))||(neI r4.2.2 2))||(neI (lenI r1.1.visits) 2))||(neI (lenI r2.1.visits) 2))=false),bF h5,hH (.draw 42 []),cE Qaa.enc h6,hP,hP,hP,oI ((eqI x0.order 0&&(eqB x0.drop true&&true))=true),oR True ((eqI x0.order 0&&(eqB x0.drop true&&true))=true),rp 3 (bT h7),cE Qaa.enc h8,rp 4 (bT h7),rp 7 (bF h9),rp 13 fF]
  ·obtain rfl:=Option.some.inj h
   exact gr 21 [] [cC (QeT h0),hW 16,hH (.frz 3),hH (.nilS 22 2 1),rp 2 (oO (Eq.refl ([(Qaa.mk 1 true)].map Qaa.enc).length)),cC (Qa9 h1),hW 15,hH (.frz 5),hH (.frz 6),rp 2 (oO (Eq.refl ([false].map Qa5).length)),rp 2 (oO (Eq.refl ([(Qaa.mk 1 true)].map Qaa.enc).length)),cC (Qa9 h2),hW 12,hH (.frz 8),oO (Eq.refl ([0,1].map e_i64).length),cC (Qg5 h3),hW 10,hH (.nilS 45 2 1),hH (.nilS 45 3 2),cC (Qa9 h4),rp 12 hP,oI ((neI r1.2.2 0)=false),oR True ((neI r1.2.2 0)=false),oI (((neI r1.2.2 0)||(neI r2.2.2 0))=false),oR True (((neI r1.2.2 0)||(neI r2.2.2 0))=false),oI ((((neI r1.2.2 0)||(neI r2.2.2 0))||(neI r3.2 0))=false),oR True ((((neI r1.2.2 0)||(neI r2.2.2 0))||(neI r3.2 0))=false),rp 2 (oI (((((neI r1.2.2 0)||(neI r2.2.2 0))||(neI r3.2 0))||(neI r4.2.2 2))=false)),nL Qaa.enc r1.1.visits,rp 5 hP,oI (((((neI r1.2.2 0)||(neI r2.2.2 0))||(neI r3.2 0))||(neI r4.2.2 2))=false),oR True (((((neI r1.2.2 0)||(neI r2.2.2 0))||(neI r3.2 0))||(neI r4.2.2 2))=false),rp 2 (oI ((((((neI r1.2.2 0)||(neI r2.2.2 0))||(neI r3.2 0))||(neI r4.2.2 2))||(neI (lenI r1.1.visits) 2))=false)),nL Qaa.enc r2.1.visits,rp 5 hP,oI ((((((neI r1.2.2 0)||(neI r2.2.2 0))||(neI r3.2 0))||(neI r4.2.2 2))||(neI (lenI r1.1.visits) 2))=false),oR True ((((((neI r1.2.2 0)||(neI r2.2.2 0))||(neI r3.2 0))||(neI r4.2.2 2))||(neI (lenI r1.1.visits) 2))=false),rp 2 (oI (((((((neI r1.2.2 0)||(neI r2.2.2 0))||(neI r3.2 0))||(neI r4.2.2 2))||(neI (lenI r1.1.visits) 2))||(neI (lenI r2.1.visits) 2))=false)),nL Qad.enc r3.1.routes,hP,hP,oI (((((((neI r1.2.2 0)||(neI r2.2.2 0))||(neI r3.2 0))||(neI r4.2.2 2))||(neI (lenI r1.1.visits) 2))||(neI (lenI r2.1.visits) 2))=false),oR True (((((((neI r1.2.2 0)||(neI r2.2.2 0))||(neI r3.2 0))||(neI r4.2.2 2))||(neI (lenI r1.1.visits) 2))||(neI (lenI r2.1.visits) 2))=false),bF h5,hH (.draw 42 []),cE Qaa.enc h6,hP,hP,hP,oI ((eqI x0.order 0&&(eqB x0.drop true&&true))=true),oR True ((eqI x0.order 0&&(eqB x0.drop true&&true))=true),rp 7 (bF h7),rp 20 fF]
theorem Qgk {x0 order} {rv:Bool} (h:Qh7 x0 order=some rv):AFn Tryz.prog 29 [.agg (Qac.enc x0),.one (lI order)] [] (one (.bool rv)) []:=by
 refine QaK Tryz.func29 (by kernel_rfl) (by kernel_rfl) (fun Γ=>?_)
 unfold Qh7 at h
 obtain rfl:=Option.some.inj h
 exact gr 4 [] [rp 4 hP,rp 2 (oI ((geI order 0)=true)),nL Qag.enc x0.orders,hP,hP,rp 2 (oI ((geI order 0)=true)),oR True ((geI order 0)=true)]
def Qra (Γ:Gam) (rv:Bool) (cf:Cf):Prop:=Go Tryz.prog Tryz.f30 [] Γ (one (.bool rv)) [] cf
def Qoa (Γ:Gam) (rv:Bool) (r:Qad) (order:Int) (i:Int):Prop:=Qra Γ rv ⟨[.c 52,.l 52,.b 0,.c 7],⟨21,[vI 1 order,vP 2 0 4,vI 5 i],[oX 4 34 (Qad.enc r)]⟩⟩
def Qng (Γ:Gam) (rv:Bool) (r:Qad) (order:Int):Prop:=Qra Γ rv ⟨[.c 7],⟨21,[],[]⟩⟩
theorem Qr2 (Γ:Gam) (rv:Bool) {r order} {s:Int} {e:(Unit)⊕(Bool)} (h:loopF (fun s=>Qf4 r order s) s=some e) (hD:sel e (fun e=>Qng Γ rv r order) (fun e=>e=rv)):Qoa Γ rv r order s:=by
 refine QaF (C:=fun (s:Int)=>Qoa Γ rv r order s) (D:=fun (e:(Unit)⊕(Bool))=>sel e (fun e=>Qng Γ rv r order) (fun e=>e=rv)) ?_ h hD
 clear h hD s e
 intro i z_ h hI hE
 replace h:Qf4 r order i=_:=h
 unfold Qf4 at h
 rcases Qah h with ⟨h0,h⟩|⟨h0,h⟩
 ·obtain ⟨x0,h1,h⟩:=Qae h
  rcases Qah h with ⟨h2,h⟩|⟨h2,h⟩
  ·obtain rfl:=(hE _ (oJ h):_=rv)
   exact gr 12 [] [nL Qaa.enc r.visits,bT h0,cE Qaa.enc h1,bT h2]
  ·exact gn 14 [1,2,5] [0] [nL Qaa.enc r.visits,bT h0,cE Qaa.enc h1,bF h2] (hI _ (oJ h))
 ·exact gn 5 [] [] [nL Qaa.enc r.visits,bF h0] (hE _ (oJ h))
theorem Qp8 {r order} {rv:Bool} (h:QkK r order=some rv):AFn Tryz.prog 30 [.agg (Qad.enc r),.one (lI order)] [] (one (.bool rv)) []:=by
 refine QaK Tryz.func30 (by kernel_rfl) (by kernel_rfl) (fun Γ=>?_)
 unfold QkK at h
 obtain ⟨e0,h3,h⟩:=Qae h
 refine gn 7 [1,2,5] [0] [] (Qr2 Γ rv h3 ?_)
 rcases e0 with e0|e0
 ·replace h:(some false:Option Bool)=some _:=h
  obtain rfl:=Option.some.inj h
  exact gr 2 [] []
 ·obtain ⟨r1,rfl⟩:∃ x,x=e0:=⟨_,rfl⟩
  replace h:(some r1:Option Bool)=some _:=h
  exact Option.some.inj h
def QrV (Γ:Gam) (rv:List Qaa) (cf:Cf):Prop:=Go Tryz.prog Tryz.f31 [] Γ (one (lL 2 rv Qaa.enc)) [] cf
theorem Qjm (Γ:Gam) (rv:List Qaa) {l at_ l1} (h:QdD l at_ l1=some rv):QrV Γ rv ⟨[.c 31],⟨38,[vL 0 16 l Qag.enc,vI 1 at_,vO 5 0 2 l1 Qaa.enc],[oS 2 52 l1 Qaa.enc]⟩⟩:=by
 unfold QdD at h
 obtain ⟨x1,h5,h⟩:=Qae h
 rcases Qah h with ⟨h6,h⟩|⟨h6,h⟩
 ·obtain ⟨h7,h⟩:=Qat h
  obtain rfl:=Option.some.inj h
  exact gr 7 [] [cE Qag.enc h5,bT h6,oO (Eq.refl ([(Qaa.mk at_ true)].map Qaa.enc).length),aO Qaa.enc h7,hW 5,hH (.frz 2),rp 4 (oO (Eq.refl ((l1++[(Qaa.mk at_ true)]).map Qaa.enc).length))]
 ·obtain rfl:=Option.some.inj h
  exact gr 7 [] [cE Qag.enc h5,bF h6,hW 5,hH (.frz 0),rp 3 (eL l1 Qaa.enc)]
theorem Qrt {l at_} {rv:List Qaa} (h:Qgu l at_=some rv):AFn Tryz.prog 31 [.one (lL 16 l Qag.enc),.one (lI at_)] [] (one (lL 2 rv Qaa.enc)) []:=by
 refine QaK Tryz.func31 (by kernel_rfl) (by kernel_rfl) (fun Γ=>?_)
 unfold Qgu at h
 obtain ⟨r,h0,h⟩:=Qae h
 rcases Qah h with ⟨h1,h⟩|⟨h1,h⟩
 ·obtain ⟨x0,h2,h⟩:=Qae h
  rcases Qah h with ⟨h3,h⟩|⟨h3,h⟩
  ·obtain ⟨h4,h⟩:=Qat h
   exact gn 14 [0,1,5] [1] [nL Qag.enc l,cC (QaE h0),nF h1,cE Qag.enc h2,bT h3,oO (Eq.refl ([(Qaa.mk at_ false)].map Qaa.enc).length),aN (l:=([(Qaa.mk at_ false)]:List Qaa)) Qaa.enc h4] (Qjm Γ rv h)
  ·exact gn 14 [0,1,5] [0] [nL Qag.enc l,cC (QaE h0),nF h1,cE Qag.enc h2,bF h3,hW 1,hH (.adopt 5 2 52)] (Qjm Γ rv h)
 ·obtain rfl:=Option.some.inj h
  exact gr 10 [] [nL Qag.enc l,cC (QaE h0),nT h1,hW 4,hH (.nilS 4 0 2)]
theorem Qif {l at_ v} {rv:List Qaa} (h:Qc7 l at_ v=some rv):AFn Tryz.prog 32 [.one (lL 2 l Qaa.enc),.one (lI at_),.agg (Qaa.enc v)] [] (one (lL 2 rv Qaa.enc)) []:=by
 refine QaK Tryz.func32 (by kernel_rfl) (by kernel_rfl) (fun Γ=>?_)
 unfold Qc7 at h
 obtain ⟨l1,h0,h⟩:=Qae h
 obtain ⟨h1,h⟩:=Qat h
 obtain ⟨h2,h⟩:=Qat h
 obtain ⟨l2,h3,h⟩:=Qae h
 obtain ⟨h4,h⟩:=Qat h
 obtain rfl:=Option.some.inj h
 exact gr 10 [] [rp 2 (hH (.rows (l1.map Qaa.enc))),hH (.rows ((l1++[v]).map Qaa.enc)),hH (.rows (l2.map Qaa.enc)),hH (.rows (((l1++[v])++l2).map Qaa.enc)),hW 1,hH (.frz 4),oO (sl1 h0),oO (sl2 h0),oO (sl3 Qaa.enc h0),oO (Int.le_refl at_),oO (sl3 Qaa.enc h0),oO (sl6 Qaa.enc h0),oO (Eq.refl (l1.map Qaa.enc)),oO (okLe (l:=(l1:List Qaa)) Qaa.enc h1),oO (okLe2 (l:=(l1:List Qaa)) (b:=16) Qaa.enc (by decide) h1),oO (Eq.refl ([v].map Qaa.enc).length),eL l1 Qaa.enc,oO (appM Qaa.enc l1 [v]),oO (okLe (l:=((l1++[v]):List Qaa)) Qaa.enc h2),oO (okLe2 (l:=((l1++[v]):List Qaa)) (b:=16) Qaa.enc (by decide) h2),oO (sl1 h3),oO (sl2h Qaa.enc h3),rp 3 (oO (Int.le_refl ((l.map Qaa.enc).length:Int))),oO (sl6h Qaa.enc h3),oO (Eq.refl ((l1++[v]).map Qaa.enc).length),oO (appM Qaa.enc (l1++[v]) l2),oO (okLe (l:=(((l1++[v])++l2):List Qaa)) Qaa.enc h4),oO (okLe2 (l:=(((l1++[v])++l2):List Qaa)) (b:=16) Qaa.enc (by decide) h4),rp 2 (oO (Eq.refl (((l1++[v])++l2).map Qaa.enc).length))]
theorem Qne {s0} {rv:Bool} (h:QiZ s0=some rv):AFn Tryz.prog 79 [.agg (Qay.enc s0)] [] (one (.bool rv)) []:=by
 refine QaK Tryz.func79 (by kernel_rfl) (by kernel_rfl) (fun Γ=>?_)
 unfold QiZ at h
 obtain rfl:=Option.some.inj h
 exact gr 4 [] [rp 28 hP,rp 2 (oI ((geI s0.cost 0)=true)),oR True ((geI s0.cost 0)=true),rp 2 (oI (((geI s0.cost 0)&&(leI s0.cost 1073741824))=true)),oR True (((geI s0.cost 0)&&(leI s0.cost 1073741824))=true),rp 2 (oI ((((geI s0.cost 0)&&(leI s0.cost 1073741824))&&(geI s0.moved 0))=true)),oR True ((((geI s0.cost 0)&&(leI s0.cost 1073741824))&&(geI s0.moved 0))=true),rp 2 (oI (((((geI s0.cost 0)&&(leI s0.cost 1073741824))&&(geI s0.moved 0))&&(leI s0.moved 15))=true)),oR True (((((geI s0.cost 0)&&(leI s0.cost 1073741824))&&(geI s0.moved 0))&&(leI s0.moved 15))=true),rp 2 (oI ((((((geI s0.cost 0)&&(leI s0.cost 1073741824))&&(geI s0.moved 0))&&(leI s0.moved 15))&&(geI s0.other 0))=true)),oR True ((((((geI s0.cost 0)&&(leI s0.cost 1073741824))&&(geI s0.moved 0))&&(leI s0.moved 15))&&(geI s0.other 0))=true),rp 2 (oI (((((((geI s0.cost 0)&&(leI s0.cost 1073741824))&&(geI s0.moved 0))&&(leI s0.moved 15))&&(geI s0.other 0))&&(leI s0.other 15))=true)),oR True (((((((geI s0.cost 0)&&(leI s0.cost 1073741824))&&(geI s0.moved 0))&&(leI s0.moved 15))&&(geI s0.other 0))&&(leI s0.other 15))=true),rp 2 (oI ((((((((geI s0.cost 0)&&(leI s0.cost 1073741824))&&(geI s0.moved 0))&&(leI s0.moved 15))&&(geI s0.other 0))&&(leI s0.other 15))&&(geI s0.work 0))=true)),oR True ((((((((geI s0.cost 0)&&(leI s0.cost 1073741824))&&(geI s0.moved 0))&&(leI s0.moved 15))&&(geI s0.other 0))&&(leI s0.other 15))&&(geI s0.work 0))=true)]
theorem Qrw {s0} {rv:Int×Int} (h:Qgx s0=some rv):AFn Tryz.prog 44 [.agg (Qay.enc s0)] [] (.tup [.one (lI rv.1),.one (lI rv.2)]) []:=by
 refine QaK Tryz.func44 (by kernel_rfl) (by kernel_rfl) (fun Γ=>?_)
 unfold Qgx at h
 rcases Qah h with ⟨h0,h⟩|⟨h0,h⟩
 ·obtain rfl:=Option.some.inj h
  exact gr 8 [] [rp 12 hP,rp 2 (oI ((ltI s0.cost 0)=false)),oR True ((ltI s0.cost 0)=false),rp 2 (oI (((ltI s0.cost 0)||(ltI s0.moved 0))=false)),oR True (((ltI s0.cost 0)||(ltI s0.moved 0))=false),rp 2 (oI ((((ltI s0.cost 0)||(ltI s0.moved 0))||(ltI s0.other 0))=false)),oR True ((((ltI s0.cost 0)||(ltI s0.moved 0))||(ltI s0.other 0))=false),bT h0]
 ·obtain ⟨r,h1,h⟩:=Qae h
  rcases Qah h with ⟨h2,h⟩|⟨h2,h⟩
  ·obtain rfl:=Option.some.inj h
   exact gr 14 [] [rp 12 hP,rp 2 (oI ((ltI s0.cost 0)=false)),oR True ((ltI s0.cost 0)=false),rp 2 (oI (((ltI s0.cost 0)||(ltI s0.moved 0))=false)),oR True (((ltI s0.cost 0)||(ltI s0.moved 0))=false),rp 2 (oI ((((ltI s0.cost 0)||(ltI s0.moved 0))||(ltI s0.other 0))=false)),oR True ((((ltI s0.cost 0)||(ltI s0.moved 0))||(ltI s0.other 0))=false),bF h0,cC (Qne h1),nF h2]
  ·obtain rfl:=Option.some.inj h
   exact gr 13 [] [rp 12 hP,rp 2 (oI ((ltI s0.cost 0)=false)),oR True ((ltI s0.cost 0)=false),rp 2 (oI (((ltI s0.cost 0)||(ltI s0.moved 0))=false)),oR True (((ltI s0.cost 0)||(ltI s0.moved 0))=false),rp 2 (oI ((((ltI s0.cost 0)||(ltI s0.moved 0))||(ltI s0.other 0))=false)),oR True ((((ltI s0.cost 0)||(ltI s0.moved 0))||(ltI s0.other 0))=false),bF h0,cC (Qne h1),nT h2]
theorem QbS {set_ i} {rv:Bool} (h:QdO set_ i=some rv):AFn Tryz.prog 172 [.one (lI set_),.one (lI i)] [] (one (.bool rv)) []:=by
 refine QaK Tryz.func172 (by kernel_rfl) (by kernel_rfl) (fun Γ=>?_)
 unfold QdO at h
 rcases Qah h with ⟨h0,h⟩|⟨h0,h⟩
 ·obtain ⟨h1,h⟩:=Qat h
  obtain rfl:=Option.some.inj h
  exact gr 4 [] [rp 6 hP,oI ((geI set_ 0)=true),oR True ((geI set_ 0)=true),oI (((geI set_ 0)&&(geI i 0))=true),oR True (((geI set_ 0)&&(geI i 0))=true),rp 4 (bT h0),oO (h1),bT h0,oO (oA (n:=2)),bT h0,bT h0]
 ·obtain rfl:=Option.some.inj h
  exact gr 4 [] [rp 6 hP,oI ((geI set_ 0)=true),oR True ((geI set_ 0)=true),oI (((geI set_ 0)&&(geI i 0))=true),oR True (((geI set_ 0)&&(geI i 0))=true),rp 7 (bF h0)]
def Qm9 (Γ:Gam) (rv:Int×Int) (cf:Cf):Prop:=Go Tryz.prog Tryz.f151 [] Γ (.tup [.one (lI rv.1),.one (lI rv.2)]) [] cf
def Qky (Γ:Gam) (rv:Int×Int) (r:Qad) (set_:Int) (i:Int):Prop:=Qm9 Γ rv ⟨[.c 116,.l 116,.b 0,.c 15],⟨36,[vP 1 0 4,vI 4 set_,vI 5 i],[oX 4 34 (Qad.enc r)]⟩⟩
def Qjt (Γ:Gam) (rv:Int×Int) (r:Qad) (set_1:Int):Prop:=Qm9 Γ rv ⟨[.c 15],⟨36,[vI 4 set_1],[]⟩⟩
theorem Qpg (Γ:Gam) (rv:Int×Int) {r} {s:Int×Int} {e:(Int)⊕(Int×Int)} (h:loopF (fun s=>QdF r s.1 s.2) s=some e) (hD:sel e (fun e=>Qjt Γ rv r e) (fun e=>e=rv)):Qky Γ rv r s.1 s.2:=by
 refine QaF (C:=fun (s:Int×Int)=>Qky Γ rv r s.1 s.2) (D:=fun (e:(Int)⊕(Int×Int))=>sel e (fun e=>Qjt Γ rv r e) (fun e=>e=rv)) ?_ h hD
 clear h hD s e
 rintro ⟨set_,i⟩ z_ h hI hE
 replace h:QdF r set_ i=_:=h
 unfold QdF at h
 rcases Qah h with ⟨h0,h⟩|⟨h0,h⟩
 ·obtain ⟨x0,h1,h⟩:=Qae h
  rcases Qah h with ⟨h2,h⟩|⟨h2,h⟩
  ·obtain rfl:=(hE _ (oJ h):_=rv)
   exact gr 15 [] [nL Qaa.enc r.visits,bT h0,cE Qaa.enc h1,hP,hP,hP,oI ((ltI x0.order 0)=false),oR True ((ltI x0.order 0)=false),bT h2]
  ·obtain ⟨r1,h3,h⟩:=Qae h
   rcases Qah h with ⟨h4,h⟩|⟨h4,h⟩
   ·exact gn 21 [1,4,5] [0] [nL Qaa.enc r.visits,bT h0,cE Qaa.enc h1,hP,hP,hP,oI ((ltI x0.order 0)=false),oR True ((ltI x0.order 0)=false),bF h2,cC (QbS h3),nF h4] (hI _ (oJ h))
   ·obtain ⟨h5,h⟩:=Qat h
    exact gn 21 [1,4,5] [0] [nL Qaa.enc r.visits,bT h0,cE Qaa.enc h1,hP,hP,hP,oI ((ltI x0.order 0)=false),oR True ((ltI x0.order 0)=false),bF h2,cC (QbS h3),nT h4,oO (h5)] (hI _ (oJ h))
 ·exact gn 5 [4] [] [nL Qaa.enc r.visits,bF h0] (hE _ (oJ h))
theorem Qmp {r} {rv:Int×Int} (h:Qe9 r=some rv):AFn Tryz.prog 151 [.agg (Qad.enc r)] [] (.tup [.one (lI rv.1),.one (lI rv.2)]) []:=by
 refine QaK Tryz.func151 (by kernel_rfl) (by kernel_rfl) (fun Γ=>?_)
 unfold Qe9 at h
 obtain ⟨e0,h6,h⟩:=Qae h
 refine gn 9 [1,4,5] [0] [] (Qpg Γ rv h6 ?_)
 rcases e0 with e0|e0
 ·obtain ⟨set_1,rfl⟩:∃ x,x=e0:=⟨_,rfl⟩
  replace h:(some (set_1,0):Option (Int×Int))=some _:=h
  obtain rfl:=Option.some.inj h
  exact gr 2 [] []
 ·obtain ⟨r2,rfl⟩:∃ x,x=e0:=⟨_,rfl⟩
  replace h:(some r2:Option (Int×Int))=some _:=h
  exact Option.some.inj h
def QnZ (Γ:Gam) (rv:Int) (cf:Cf):Prop:=Go Tryz.prog Tryz.f152 [] Γ (one (lI rv)) [] cf
def Qlv (Γ:Gam) (rv:Int) (l:List Qaa) (v:Qaa) (i:Int):Prop:=QnZ Γ rv ⟨[.c 52,.l 52,.b 0,.c 7],⟨19,[vL 0 2 l Qaa.enc,vP 3 0 2,vI 5 i],[oX 2 52 (Qaa.enc v)]⟩⟩
def Qkx (Γ:Gam) (rv:Int) (l:List Qaa) (v:Qaa):Prop:=QnZ Γ rv ⟨[.c 7],⟨19,[],[]⟩⟩
theorem Qp1 (Γ:Gam) (rv:Int) {l v} {s:Int} {e:(Unit)⊕(Int)} (h:loopF (fun s=>Qcn l v s) s=some e) (hD:sel e (fun e=>Qkx Γ rv l v) (fun e=>e=rv)):Qlv Γ rv l v s:=by
 refine QaF (C:=fun (s:Int)=>Qlv Γ rv l v s) (D:=fun (e:(Unit)⊕(Int))=>sel e (fun e=>Qkx Γ rv l v) (fun e=>e=rv)) ?_ h hD
 clear h hD s e
 intro i z_ h hI hE
 replace h:Qcn l v i=_:=h
 unfold Qcn at h
 rcases Qah h with ⟨h0,h⟩|⟨h0,h⟩
 ·obtain ⟨x0,h1,h⟩:=Qae h
  rcases Qah h with ⟨h2,h⟩|⟨h2,h⟩
  ·obtain rfl:=(hE _ (oJ h):_=rv)
   exact gr 12 [] [nL Qaa.enc l,bT h0,hH (.draw 6 []),cE Qaa.enc h1,bT h2]
  ·exact gn 14 [0,3,5] [0] [nL Qaa.enc l,bT h0,hH (.draw 6 []),cE Qaa.enc h1,bF h2] (hI _ (oJ h))
 ·exact gn 5 [] [] [nL Qaa.enc l,bF h0] (hE _ (oJ h))
theorem Qbn {l v} {rv:Int} (h:QcB l v=some rv):AFn Tryz.prog 152 [.one (lL 2 l Qaa.enc),.agg (Qaa.enc v)] [] (one (lI rv)) []:=by
 refine QaK Tryz.func152 (by kernel_rfl) (by kernel_rfl) (fun Γ=>?_)
 unfold QcB at h
 obtain ⟨e0,h3,h⟩:=Qae h
 refine gn 7 [0,3,5] [0] [] (Qp1 Γ rv h3 ?_)
 rcases e0 with e0|e0
 ·replace h:(some (-1):Option Int)=some _:=h
  obtain rfl:=Option.some.inj h
  exact gr 2 [] []
 ·obtain ⟨r,rfl⟩:∃ x,x=e0:=⟨_,rfl⟩
  replace h:(some r:Option Int)=some _:=h
  exact Option.some.inj h
def QrZ (Γ:Gam) (rv:List Qaa) (cf:Cf):Prop:=Go Tryz.prog Tryz.f173 [] Γ (one (lL 2 rv Qaa.enc)) [] cf
theorem Qju (Γ:Gam) (rv:List Qaa) {x0 order l} (h:QdG x0 order l=some rv):QrZ Γ rv ⟨[.c 15],⟨33,[vI 1 order,vP 2 0 6,vO 5 1 2 l Qaa.enc],[oX 6 30 (Qac.enc x0),oS 2 52 l Qaa.enc]⟩⟩:=by
 unfold QdG at h
 obtain ⟨x2,h3,h⟩:=Qae h
 rcases Qah h with ⟨h4,h⟩|⟨h4,h⟩
 ·obtain ⟨h5,h⟩:=Qat h
  obtain rfl:=Option.some.inj h
  exact gr 7 [] [cE Qag.enc h3,bT h4,oO (Eq.refl ([(Qaa.mk order true)].map Qaa.enc).length),aO Qaa.enc h5,hW 5,hH (.frz 3),rp 4 (oO (Eq.refl ((l++[(Qaa.mk order true)]).map Qaa.enc).length))]
 ·obtain rfl:=Option.some.inj h
  exact gr 7 [] [cE Qag.enc h3,bF h4,hW 5,hH (.frz 1),rp 3 (eL l Qaa.enc)]
theorem QeX {x0 order} {rv:List Qaa} (h:Qgw x0 order=some rv):AFn Tryz.prog 173 [.agg (Qac.enc x0),.one (lI order)] [] (one (lL 2 rv Qaa.enc)) []:=by
 refine QaK Tryz.func173 (by kernel_rfl) (by kernel_rfl) (fun Γ=>?_)
 unfold Qgw at h
 obtain ⟨x1,h0,h⟩:=Qae h
 rcases Qah h with ⟨h1,h⟩|⟨h1,h⟩
 ·obtain ⟨h2,h⟩:=Qat h
  exact gn 9 [1,2,5] [0,2] [cE Qag.enc h0,bT h1,oO (Eq.refl ([(Qaa.mk order false)].map Qaa.enc).length),aN (l:=([(Qaa.mk order false)]:List Qaa)) Qaa.enc h2] (Qju Γ rv h)
 ·exact gn 9 [1,2,5] [0,1] [cE Qag.enc h0,bF h1,hW 1,hH (.adopt 5 2 52)] (Qju Γ rv h)
def Qly (Γ:Gam) (rv:Bool) (cf:Cf):Prop:=Go Tryz.prog Tryz.f174 [] Γ (one (.bool rv)) [] cf
def QiW (Γ:Gam) (rv:Bool) (l:List Qaa) (some_:List Qaa) (i:Int):Prop:=Qly Γ rv ⟨[.c 52,.l 52,.b 0,.c 7],⟨19,[vL 0 2 l Qaa.enc,vL 1 2 some_ Qaa.enc,vI 5 i],[]⟩⟩
def Qiw (Γ:Gam) (rv:Bool) (l:List Qaa) (some_:List Qaa):Prop:=Qly Γ rv ⟨[.c 7],⟨19,[],[]⟩⟩
theorem Qn2 (Γ:Gam) (rv:Bool) {l some_} {s:Int} {e:(Unit)⊕(Bool)} (h:loopF (fun s=>QbJ l some_ s) s=some e) (hD:sel e (fun e=>Qiw Γ rv l some_) (fun e=>e=rv)):QiW Γ rv l some_ s:=by
 refine QaF (C:=fun (s:Int)=>QiW Γ rv l some_ s) (D:=fun (e:(Unit)⊕(Bool))=>sel e (fun e=>Qiw Γ rv l some_) (fun e=>e=rv)) ?_ h hD
 clear h hD s e
 intro i z_ h hI hE
 replace h:QbJ l some_ i=_:=h
 unfold QbJ at h
 rcases Qah h with ⟨h0,h⟩|⟨h0,h⟩
 ·obtain ⟨x0,h1,h⟩:=Qae h
  obtain ⟨r,h2,h⟩:=Qae h
  rcases Qah h with ⟨h3,h⟩|⟨h3,h⟩
  ·obtain rfl:=(hE _ (oJ h):_=rv)
   exact gr 12 [] [nL Qaa.enc some_,bT h0,cE Qaa.enc h1,cC (Qbn h2),bT h3]
  ·exact gn 14 [0,1,5] [] [nL Qaa.enc some_,bT h0,cE Qaa.enc h1,cC (Qbn h2),bF h3] (hI _ (oJ h))
 ·exact gn 5 [] [] [nL Qaa.enc some_,bF h0] (hE _ (oJ h))
theorem Qfr {l some_} {rv:Bool} (h:Qfq l some_=some rv):AFn Tryz.prog 174 [.one (lL 2 l Qaa.enc),.one (lL 2 some_ Qaa.enc)] [] (one (.bool rv)) []:=by
 refine QaK Tryz.func174 (by kernel_rfl) (by kernel_rfl) (fun Γ=>?_)
 unfold Qfq at h
 obtain ⟨e0,h4,h⟩:=Qae h
 refine gn 7 [0,1,5] [] [] (Qn2 Γ rv h4 ?_)
 rcases e0 with e0|e0
 ·replace h:(some true:Option Bool)=some _:=h
  obtain rfl:=Option.some.inj h
  exact gr 2 [] []
 ·obtain ⟨r1,rfl⟩:∃ x,x=e0:=⟨_,rfl⟩
  replace h:(some r1:Option Bool)=some _:=h
  exact Option.some.inj h
def Qna (Γ:Gam) (rv:Bool) (cf:Cf):Prop:=Go Tryz.prog Tryz.f153 [] Γ (one (.bool rv)) [] cf
def QkD (Γ:Gam) (rv:Bool) (x0:Qac) (l:List Qaa) (i:Int):Prop:=Qna Γ rv ⟨[.c 52,.l 52,.b 0,.c 7],⟨51,[vL 1 2 l Qaa.enc,vP 2 0 6,vI 5 i],[oX 6 30 (Qac.enc x0)]⟩⟩
def Qjy (Γ:Gam) (rv:Bool) (x0:Qac) (l:List Qaa):Prop:=Qna Γ rv ⟨[.c 7],⟨51,[],[]⟩⟩
theorem Qpk (Γ:Gam) (rv:Bool) {x0 l} {s:Int} {e:(Unit)⊕(Bool)} (h:loopF (fun s=>Qca x0 l s) s=some e) (hD:sel e (fun e=>Qjy Γ rv x0 l) (fun e=>e=rv)):QkD Γ rv x0 l s:=by
 refine QaF (C:=fun (s:Int)=>QkD Γ rv x0 l s) (D:=fun (e:(Unit)⊕(Bool))=>sel e (fun e=>Qjy Γ rv x0 l) (fun e=>e=rv)) ?_ h hD
 clear h hD s e
 intro i z_ h hI hE
 replace h:Qca x0 l i=_:=h
 unfold Qca at h
 rcases Qah h with ⟨h0,h⟩|⟨h0,h⟩
 ·obtain ⟨x1,h1,h⟩:=Qae h
  obtain ⟨r,h2,h⟩:=Qae h
  obtain ⟨r1,h3,h⟩:=Qae h
  rcases Qah h with ⟨h4,h⟩|⟨h4,h⟩
  ·obtain rfl:=(hE _ (oJ h):_=rv)
   exact gr 14 [] [nL Qaa.enc l,bT h0,hH (.draw 8 []),cE Qaa.enc h1,cC (QeX h2),hH (.draw 31 []),cE Qaa.enc h1,cC (Qbn h3),rp 5 (bT h4),rp 4 tT,rp 11 kF,tT,tT,tT]
  ·obtain ⟨r2,h5,h⟩:=Qae h
   rcases Qah h with ⟨h6,h⟩|⟨h6,h⟩
   ·rcases Qah h with ⟨h7,h⟩|⟨h7,h⟩
    ·obtain ⟨x2,h8,h⟩:=Qae h
     obtain ⟨r3,h9,h⟩:=Qae h
     obtain ⟨x3,h10,h⟩:=Qae h
     obtain ⟨r4,h11,h⟩:=Qae h
     rcases Qah h with ⟨h12,h⟩|⟨h12,h⟩
     ·obtain rfl:=(hE _ (oJ h):_=rv)
      exact gr 14 [] [nL Qaa.enc l,bT h0,hH (.draw 8 []),cE Qaa.enc h1,cC (QeX h2),hH (.draw 31 []),cE Qaa.enc h1,cC (Qbn h3),rp 3 (bF h4),cC (Qfr h5),bF h4,bF h4,nF h6,nF h6,nL Qaa.enc r,nF h6,nF h6,rp 3 (bT h7),cE Qaa.enc h8,bT h7,bT h7,cC (Qbn h9),rp 3 (bT h7),cE Qaa.enc h10,bT h7,bT h7,cC (Qbn h11),bT h7,nF h6,bT h7,nF h6,bT h12]
     ·exact gn 16 [1,2,5] [0] [nL Qaa.enc l,bT h0,hH (.draw 8 []),cE Qaa.enc h1,cC (QeX h2),hH (.draw 31 []),cE Qaa.enc h1,cC (Qbn h3),rp 3 (bF h4),cC (Qfr h5),bF h4,bF h4,nF h6,nF h6,nL Qaa.enc r,nF h6,nF h6,rp 3 (bT h7),cE Qaa.enc h8,bT h7,bT h7,cC (Qbn h9),rp 3 (bT h7),cE Qaa.enc h10,bT h7,bT h7,cC (Qbn h11),bT h7,nF h6,bT h7,nF h6,bF h12] (hI _ (oJ h))
    ·exact gn 16 [1,2,5] [0] [nL Qaa.enc l,bT h0,hH (.draw 8 []),cE Qaa.enc h1,cC (QeX h2),hH (.draw 31 []),cE Qaa.enc h1,cC (Qbn h3),rp 3 (bF h4),cC (Qfr h5),bF h4,bF h4,nF h6,nF h6,nL Qaa.enc r,nF h6,nF h6,rp 11 (bF h7),nF h6,bF h7,nF h6,fF] (hI _ (oJ h))
   ·obtain rfl:=(hE _ (oJ h):_=rv)
    exact gr 14 [] [nL Qaa.enc l,bT h0,hH (.draw 8 []),cE Qaa.enc h1,cC (QeX h2),hH (.draw 31 []),cE Qaa.enc h1,cC (Qbn h3),rp 3 (bF h4),cC (Qfr h5),bF h4,bF h4,rp 4 (nT h6),rp 11 kF,nT h6,nT h6,tT]
 ·exact gn 5 [] [] [nL Qaa.enc l,bF h0] (hE _ (oJ h))
theorem Qgj {x0 l} {rv:Bool} (h:Qdt x0 l=some rv):AFn Tryz.prog 153 [.agg (Qac.enc x0),.one (lL 2 l Qaa.enc)] [] (one (.bool rv)) []:=by
 refine QaK Tryz.func153 (by kernel_rfl) (by kernel_rfl) (fun Γ=>?_)
 unfold Qdt at h
 obtain ⟨e0,h13,h⟩:=Qae h
 refine gn 7 [1,2,5] [0] [] (Qpk Γ rv h13 ?_)
 rcases e0 with e0|e0
 ·replace h:(some true:Option Bool)=some _:=h
  obtain rfl:=Option.some.inj h
  exact gr 2 [] []
 ·obtain ⟨r5,rfl⟩:∃ x,x=e0:=⟨_,rfl⟩
  replace h:(some r5:Option Bool)=some _:=h
  exact Option.some.inj h
def Qn1 (Γ:Gam) (rv:Bool) (cf:Cf):Prop:=Go Tryz.prog Tryz.f154 [] Γ (one (.bool rv)) [] cf
def Qlx (Γ:Gam) (rv:Bool) (x0:Qac) (set_:Int) (i:Int):Prop:=Qn1 Γ rv ⟨[.c 52,.l 52,.b 0,.c 7],⟨31,[vI 1 set_,vP 2 0 6,vI 5 i],[oX 6 30 (Qac.enc x0)]⟩⟩
def Qkz (Γ:Gam) (rv:Bool) (x0:Qac) (set_:Int):Prop:=Qn1 Γ rv ⟨[.c 7],⟨31,[],[]⟩⟩
theorem Qp2 (Γ:Gam) (rv:Bool) {x0 set_} {s:Int} {e:(Unit)⊕(Bool)} (h:loopF (fun s=>Qco x0 set_ s) s=some e) (hD:sel e (fun e=>Qkz Γ rv x0 set_) (fun e=>e=rv)):Qlx Γ rv x0 set_ s:=by
 refine QaF (C:=fun (s:Int)=>Qlx Γ rv x0 set_ s) (D:=fun (e:(Unit)⊕(Bool))=>sel e (fun e=>Qkz Γ rv x0 set_) (fun e=>e=rv)) ?_ h hD
 clear h hD s e
 intro i z_ h hI hE
 replace h:Qco x0 set_ i=_:=h
 unfold Qco at h
 rcases Qah h with ⟨h0,h⟩|⟨h0,h⟩
 ·obtain ⟨x1,h1,h⟩:=Qae h
  obtain ⟨r,h2,h⟩:=Qae h
  rcases Qah h with ⟨h3,h⟩|⟨h3,h⟩
  ·obtain ⟨r1,h4,h⟩:=Qae h
   rcases Qah h with ⟨h5,h⟩|⟨h5,h⟩
   ·obtain rfl:=(hE _ (oJ h):_=rv)
    exact gr 12 [] [nL QaO.enc x0.apart,bT h0,cE QaO.enc h1,oO (zL 0),oO (lT 0 2),cC (QbS h2),rp 5 (bT h3),cE QaO.enc h1,bT h3,oO (zL 1),oO (lT 1 2),bT h3,bT h3,cC (QbS h4),bT h3,bT h5]
   ·exact gn 14 [1,2,5] [0] [nL QaO.enc x0.apart,bT h0,cE QaO.enc h1,oO (zL 0),oO (lT 0 2),cC (QbS h2),rp 5 (bT h3),cE QaO.enc h1,bT h3,oO (zL 1),oO (lT 1 2),bT h3,bT h3,cC (QbS h4),bT h3,bF h5] (hI _ (oJ h))
  ·exact gn 14 [1,2,5] [0] [nL QaO.enc x0.apart,bT h0,cE QaO.enc h1,oO (zL 0),oO (lT 0 2),cC (QbS h2),rp 9 (bF h3),fF] (hI _ (oJ h))
 ·exact gn 5 [] [] [nL QaO.enc x0.apart,bF h0] (hE _ (oJ h))
theorem QiV {x0 set_} {rv:Bool} (h:QdY x0 set_=some rv):AFn Tryz.prog 154 [.agg (Qac.enc x0),.one (lI set_)] [] (one (.bool rv)) []:=by
 refine QaK Tryz.func154 (by kernel_rfl) (by kernel_rfl) (fun Γ=>?_)
 unfold QdY at h
 obtain ⟨e0,h6,h⟩:=Qae h
 refine gn 7 [1,2,5] [0] [] (Qp2 Γ rv h6 ?_)
 rcases e0 with e0|e0
 ·replace h:(some true:Option Bool)=some _:=h
  obtain rfl:=Option.some.inj h
  exact gr 2 [] []
 ·obtain ⟨r2,rfl⟩:∃ x,x=e0:=⟨_,rfl⟩
  replace h:(some r2:Option Bool)=some _:=h
  exact Option.some.inj h
def Qei (Γ:Gam) (rv:Bool) (cf:Cf):Prop:=Go Tryz.prog Tryz.f155 [] Γ (one (.bool rv)) [] cf
def QkC (Γ:Gam) (rv:Bool) (x0:Qac) (set_:Int) (l:List Qaa) (i:Int) (x1:QaO) (j:Int) (k:Int):Prop:=Qei Γ rv ⟨[.c 3448612,.l 3448612,.b 4,.b 3,.c 215539,.l 53884,.b 2,.b 1,.c 211,.l 52,.b 0,.c 7],⟨66,[vI 1 set_,vL 2 2 l Qaa.enc,vP 3 0 6,vI 7 i,vI 8 x1.x0,vI 9 x1.x1,vI 10 j,vI 11 k],[oX 6 30 (Qac.enc x0)]⟩⟩
def Qjx (Γ:Gam) (rv:Bool) (x0:Qac) (set_:Int) (l:List Qaa) (i:Int) (x1:QaO) (j:Int):Prop:=Qei Γ rv ⟨[.b 3,.c 215539,.l 53884,.b 2,.b 1,.c 211,.l 52,.b 0,.c 7],⟨66,[vI 1 set_,vL 2 2 l Qaa.enc,vP 3 0 6,vI 7 i,vI 8 x1.x0,vI 9 x1.x1,vI 10 j],[oX 6 30 (Qac.enc x0)]⟩⟩
def QkB (Γ:Gam) (rv:Bool) (x0:Qac) (set_:Int) (l:List Qaa) (i:Int) (x1:QaO) (j:Int):Prop:=Qei Γ rv ⟨[.c 53884,.l 53884,.b 2,.b 1,.c 211,.l 52,.b 0,.c 7],⟨66,[vI 1 set_,vL 2 2 l Qaa.enc,vP 3 0 6,vI 7 i,vI 8 x1.x0,vI 9 x1.x1,vI 10 j],[oX 6 30 (Qac.enc x0)]⟩⟩
def Qjw (Γ:Gam) (rv:Bool) (x0:Qac) (set_:Int) (l:List Qaa) (i:Int) (x1:QaO):Prop:=Qei Γ rv ⟨[.b 1,.c 211,.l 52,.b 0,.c 7],⟨66,[vI 1 set_,vL 2 2 l Qaa.enc,vP 3 0 6,vI 7 i],[oX 6 30 (Qac.enc x0)]⟩⟩
def QkA (Γ:Gam) (rv:Bool) (x0:Qac) (set_:Int) (l:List Qaa) (i:Int):Prop:=Qei Γ rv ⟨[.c 52,.l 52,.b 0,.c 7],⟨66,[vI 1 set_,vL 2 2 l Qaa.enc,vP 3 0 6,vI 7 i],[oX 6 30 (Qac.enc x0)]⟩⟩
def Qjv (Γ:Gam) (rv:Bool) (x0:Qac) (set_:Int) (l:List Qaa):Prop:=Qei Γ rv ⟨[.c 7],⟨66,[],[]⟩⟩
theorem Qpj (Γ:Gam) (rv:Bool) {x0 set_ l i x1 j} {s:Int} {e:(Unit)⊕(Bool)} (h:loopF (fun s=>Qb9 x0 set_ l i x1 j s) s=some e) (hD:sel e (fun e=>Qjx Γ rv x0 set_ l i x1 j) (fun e=>e=rv)):QkC Γ rv x0 set_ l i x1 j s:=by
 refine QaF (C:=fun (s:Int)=>QkC Γ rv x0 set_ l i x1 j s) (D:=fun (e:(Unit)⊕(Bool))=>sel e (fun e=>Qjx Γ rv x0 set_ l i x1 j) (fun e=>e=rv)) ?_ h hD
 clear h hD s e
 intro k z_ h hI hE
 replace h:Qb9 x0 set_ l i x1 j k=_:=h
 unfold Qb9 at h
 rcases Qah h with ⟨h7,h⟩|⟨h7,h⟩
 ·obtain ⟨x2,h8,h⟩:=Qae h
  rcases Qah h with ⟨h9,h⟩|⟨h9,h⟩
  ·obtain ⟨x3,h10,h⟩:=Qae h
   rcases Qah h with ⟨h11,h⟩|⟨h11,h⟩
   ·obtain rfl:=(hE _ (oJ h):_=rv)
    exact gr 12 [] [bT h7,cE Qaa.enc h8,rp 3 (bT h9),cE Qaa.enc h10,rp 5 (bT h9),bT h11]
   ·exact gn 14 [1,2,3,7,8,9,10,11] [0] [bT h7,cE Qaa.enc h8,rp 3 (bT h9),cE Qaa.enc h10,rp 5 (bT h9),bF h11] (hI _ (oJ h))
  ·exact gn 14 [1,2,3,7,8,9,10,11] [0] [bT h7,cE Qaa.enc h8,rp 8 (bF h9),fF] (hI _ (oJ h))
 ·exact gn 5 [1,2,3,7,8,9,10] [0] [bF h7] (hE _ (oJ h))
theorem Qpi (Γ:Gam) (rv:Bool) {x0 set_ l i x1} {s:Int} {e:(Unit)⊕(Bool)} (h:loopF (fun s=>Qb8 x0 set_ l i x1 s) s=some e) (hD:sel e (fun e=>Qjw Γ rv x0 set_ l i x1) (fun e=>e=rv)):QkB Γ rv x0 set_ l i x1 s:=by
 refine QaF (C:=fun (s:Int)=>QkB Γ rv x0 set_ l i x1 s) (D:=fun (e:(Unit)⊕(Bool))=>sel e (fun e=>Qjw Γ rv x0 set_ l i x1) (fun e=>e=rv)) ?_ h hD
 clear h hD s e
 intro j z_ h hI hE
 replace h:Qb8 x0 set_ l i x1 j=_:=h
 unfold Qb8 at h
 rcases Qah h with ⟨h6,h⟩|⟨h6,h⟩
 ·obtain ⟨e0,h12,h⟩:=Qae h
  refine gn 11 [1,2,3,7,8,9,10,11] [0] [nL Qaa.enc l,bT h6] (Qpj Γ rv h12 ?_)
  rcases e0 with e0|e0
  ·replace h:(some (.inl (addK .i64 j 1)):Option ((Int)⊕((Unit)⊕(Bool))))=some _:=h
   exact gn 3 [1,2,3,7,8,9,10] [0] [] (hI _ (oJ h))
  ·obtain ⟨r2,rfl⟩:∃ x,x=e0:=⟨_,rfl⟩
   replace h:(some (.inr (.inr r2)):Option ((Int)⊕((Unit)⊕(Bool))))=some _:=h
   exact (hE _ (oJ h):_=rv)
 ·exact gn 5 [1,2,3,7] [0] [nL Qaa.enc l,bF h6] (hE _ (oJ h))
theorem Qph (Γ:Gam) (rv:Bool) {x0 set_ l} {s:Int} {e:(Unit)⊕(Bool)} (h:loopF (fun s=>Qb7 x0 set_ l s) s=some e) (hD:sel e (fun e=>Qjv Γ rv x0 set_ l) (fun e=>e=rv)):QkA Γ rv x0 set_ l s:=by
 refine QaF (C:=fun (s:Int)=>QkA Γ rv x0 set_ l s) (D:=fun (e:(Unit)⊕(Bool))=>sel e (fun e=>Qjv Γ rv x0 set_ l) (fun e=>e=rv)) ?_ h hD
 clear h hD s e
 intro i z_ h hI hE
 replace h:Qb7 x0 set_ l i=_:=h
 unfold Qb7 at h
 rcases Qah h with ⟨h0,h⟩|⟨h0,h⟩
 ·obtain ⟨x1,h1,h⟩:=Qae h
  obtain ⟨r,h2,h⟩:=Qae h
  rcases Qah h with ⟨h3,h⟩|⟨h3,h⟩
  ·obtain ⟨r1,h4,h⟩:=Qae h
   rcases Qah h with ⟨h5,h⟩|⟨h5,h⟩
   ·obtain ⟨e1,h13,h⟩:=Qae h
    refine gn 25 [1,2,3,7,8,9,10] [0] [nL QaO.enc x0.before,bT h0,cE QaO.enc h1,oO (zL 0),oO (lT 0 2),cE QaO.enc h1,oO (zL 1),oO (lT 1 2),cC (QbS h2),nF h3,cC (QbS h4),nF h5] (Qpi Γ rv h13 ?_)
    rcases e1 with e1|e1
    ·replace h:(some (.inl (addK .i64 i 1)):Option ((Int)⊕((Unit)⊕(Bool))))=some _:=h
     exact gn 3 [1,2,3,7] [0] [] (hI _ (oJ h))
    ·obtain ⟨r3,rfl⟩:∃ x,x=e1:=⟨_,rfl⟩
     replace h:(some (.inr (.inr r3)):Option ((Int)⊕((Unit)⊕(Bool))))=some _:=h
     exact (hE _ (oJ h):_=rv)
   ·obtain rfl:=(hE _ (oJ h):_=rv)
    exact gr 22 [] [nL QaO.enc x0.before,bT h0,cE QaO.enc h1,oO (zL 0),oO (lT 0 2),cE QaO.enc h1,oO (zL 1),oO (lT 1 2),cC (QbS h2),nF h3,cC (QbS h4),nT h5]
  ·exact gn 18 [1,2,3,7] [0] [nL QaO.enc x0.before,bT h0,cE QaO.enc h1,oO (zL 0),oO (lT 0 2),cE QaO.enc h1,oO (zL 1),oO (lT 1 2),cC (QbS h2),nT h3] (hI _ (oJ h))
 ·exact gn 5 [] [] [nL QaO.enc x0.before,bF h0] (hE _ (oJ h))
theorem Qmq {x0 set_ l} {rv:Bool} (h:Qds x0 set_ l=some rv):AFn Tryz.prog 155 [.agg (Qac.enc x0),.one (lI set_),.one (lL 2 l Qaa.enc)] [] (one (.bool rv)) []:=by
 refine QaK Tryz.func155 (by kernel_rfl) (by kernel_rfl) (fun Γ=>?_)
 unfold Qds at h
 obtain ⟨e2,h14,h⟩:=Qae h
 refine gn 7 [1,2,3,7] [0] [] (Qph Γ rv h14 ?_)
 rcases e2 with e2|e2
 ·replace h:(some true:Option Bool)=some _:=h
  obtain rfl:=Option.some.inj h
  exact gr 2 [] []
 ·obtain ⟨r4,rfl⟩:∃ x,x=e2:=⟨_,rfl⟩
  replace h:(some r4:Option Bool)=some _:=h
  exact Option.some.inj h
def QeK (Γ:Gam) (rv:Int) (cf:Cf):Prop:=Go Tryz.prog Tryz.f129 [] Γ (one (lI rv)) [] cf
def Qls (Γ:Gam) (rv:Int) (x0:Qac) (r:Qad) (i:Int):Prop:=QeK Γ rv ⟨[.c 116,.l 116,.b 0,.c 15],⟨91,[vP 2 0 6,vP 3 1 4,vL 5 2 r.visits Qaa.enc,vI 6 i],[oX 6 30 (Qac.enc x0),oX 4 34 (Qad.enc r)]⟩⟩
def Qku (Γ:Gam) (rv:Int) (x0:Qac) (r:Qad):Prop:=QeK Γ rv ⟨[.c 15],⟨91,[vP 2 0 6,vP 3 1 4,vL 5 2 r.visits Qaa.enc],[oX 6 30 (Qac.enc x0),oX 4 34 (Qad.enc r)]⟩⟩
def Qlt (Γ:Gam) (rv:Int) (x0:Qac) (r:Qad) (r1:Int×Int) (i1:Int):Prop:=QeK Γ rv ⟨[.c 1012,.l 1012,.b 2,.c 127],⟨91,[vP 2 0 6,vL 5 2 r.visits Qaa.enc,vI 7 r1.1,vI 9 i1],[oX 6 30 (Qac.enc x0)]⟩⟩
def Qkv (Γ:Gam) (rv:Int) (x0:Qac) (r:Qad) (r1:Int×Int):Prop:=QeK Γ rv ⟨[.c 127],⟨91,[vP 2 0 6,vL 5 2 r.visits Qaa.enc,vI 7 r1.1],[oX 6 30 (Qac.enc x0)]⟩⟩
def Qlu (Γ:Gam) (rv:Int) (x0:Qac) (r:Qad) (r1:Int×Int) (i2:Int):Prop:=QeK Γ rv ⟨[.c 2036,.l 2036,.b 4,.c 255],⟨91,[vP 2 0 6,vL 5 2 r.visits Qaa.enc,vI 7 r1.1,vI 10 i2],[oX 6 30 (Qac.enc x0)]⟩⟩
def Qkw (Γ:Gam) (rv:Int) (x0:Qac) (r:Qad) (r1:Int×Int):Prop:=QeK Γ rv ⟨[.c 255],⟨91,[vP 2 0 6,vL 5 2 r.visits Qaa.enc,vI 7 r1.1],[oX 6 30 (Qac.enc x0)]⟩⟩
theorem QpY (Γ:Gam) (rv:Int) {x0 r} {s:Int} {e:(Unit)⊕(Int)} (h:loopF (fun s=>Qcm x0 r s) s=some e) (hD:sel e (fun e=>Qku Γ rv x0 r) (fun e=>e=rv)):Qls Γ rv x0 r s:=by
 refine QaF (C:=fun (s:Int)=>Qls Γ rv x0 r s) (D:=fun (e:(Unit)⊕(Int))=>sel e (fun e=>Qku Γ rv x0 r) (fun e=>e=rv)) ?_ h hD
 clear h hD s e
 intro i z_ h hI hE
 replace h:Qcm x0 r i=_:=h
 unfold Qcm at h
 rcases Qah h with ⟨h0,h⟩|⟨h0,h⟩
 ·obtain ⟨x1,h1,h⟩:=Qae h
  rcases Qah h with ⟨h2,h⟩|⟨h2,h⟩
  ·obtain rfl:=(hE _ (oJ h):_=rv)
   exact gr 12 [] [nL Qaa.enc r.visits,bT h0,hH (.draw 17 []),cE Qaa.enc h1,rp 10 (bT h2),tT]
  ·rcases Qah h with ⟨h3,h⟩|⟨h3,h⟩
   ·obtain rfl:=(hE _ (oJ h):_=rv)
    exact gr 12 [] [nL Qaa.enc r.visits,bT h0,hH (.draw 17 []),cE Qaa.enc h1,rp 3 (bF h2),cE Qaa.enc h1,rp 5 (bF h2),nL Qag.enc x0.orders,bF h2,bF h2,bT h3]
   ·exact gn 14 [2,3,5,6] [0,1] [nL Qaa.enc r.visits,bT h0,hH (.draw 17 []),cE Qaa.enc h1,rp 3 (bF h2),cE Qaa.enc h1,rp 5 (bF h2),nL Qag.enc x0.orders,bF h2,bF h2,bF h3] (hI _ (oJ h))
 ·exact gn 5 [2,3,5] [0,1] [nL Qaa.enc r.visits,bF h0] (hE _ (oJ h))
theorem QpZ (Γ:Gam) (rv:Int) {x0 r r1} {s:Int} {e:(Unit)⊕(Int)} (h:loopF (fun s=>QbY x0 r r1 s) s=some e) (hD:sel e (fun e=>Qkv Γ rv x0 r r1) (fun e=>e=rv)):Qlt Γ rv x0 r r1 s:=by
 refine QaF (C:=fun (s:Int)=>Qlt Γ rv x0 r r1 s) (D:=fun (e:(Unit)⊕(Int))=>sel e (fun e=>Qkv Γ rv x0 r r1) (fun e=>e=rv)) ?_ h hD
 clear h hD s e
 intro i1 z_ h hI hE
 replace h:QbY x0 r r1 i1=_:=h
 unfold QbY at h
 rcases Qah h with ⟨h7,h⟩|⟨h7,h⟩
 ·obtain ⟨x2,h8,h⟩:=Qae h
  obtain ⟨x3,h9,h⟩:=Qae h
  rcases Qah h with ⟨h10,h⟩|⟨h10,h⟩
  ·obtain rfl:=(hE _ (oJ h):_=rv)
   exact gr 12 [] [nL Qaa.enc r.visits,bT h7,hH (.draw 10 []),cE Qaa.enc h8,cE Qag.enc h9,bT h10]
  ·exact gn 14 [2,5,7,9] [0] [nL Qaa.enc r.visits,bT h7,hH (.draw 10 []),cE Qaa.enc h8,cE Qag.enc h9,bF h10] (hI _ (oJ h))
 ·exact gn 5 [2,5,7] [0] [nL Qaa.enc r.visits,bF h7] (hE _ (oJ h))
theorem Qp0 (Γ:Gam) (rv:Int) {x0 r r1} {s:Int} {e:(Unit)⊕(Int)} (h:loopF (fun s=>QbI x0 r r1 s) s=some e) (hD:sel e (fun e=>Qkw Γ rv x0 r r1) (fun e=>e=rv)):Qlu Γ rv x0 r r1 s:=by
 refine QaF (C:=fun (s:Int)=>Qlu Γ rv x0 r r1 s) (D:=fun (e:(Unit)⊕(Int))=>sel e (fun e=>Qkw Γ rv x0 r r1) (fun e=>e=rv)) ?_ h hD
 clear h hD s e
 intro i2 z_ h hI hE
 replace h:QbI x0 r r1 i2=_:=h
 unfold QbI at h
 rcases Qah h with ⟨h12,h⟩|⟨h12,h⟩
 ·obtain ⟨x4,h13,h⟩:=Qae h
  obtain ⟨r2,h14,h⟩:=Qae h
  rcases Qah h with ⟨h15,h⟩|⟨h15,h⟩
  ·obtain rfl:=(hE _ (oJ h):_=rv)
   exact gr 12 [] [nL Qaa.enc r.visits,bT h12,cE Qaa.enc h13,cC (Qbn h14),bT h15]
  ·exact gn 14 [2,5,7,10] [0] [nL Qaa.enc r.visits,bT h12,cE Qaa.enc h13,cC (Qbn h14),bF h15] (hI _ (oJ h))
 ·exact gn 5 [2,5,7] [0] [nL Qaa.enc r.visits,bF h12] (hE _ (oJ h))
theorem QgY {x0 r} {rv:Int} (h:Qf0 x0 r=some rv):AFn Tryz.prog 129 [.agg (Qac.enc x0),.agg (Qad.enc r)] [] (one (lI rv)) []:=by
 refine QaK Tryz.func129 (by kernel_rfl) (by kernel_rfl) (fun Γ=>?_)
 unfold Qf0 at h
 obtain ⟨e0,h4,h⟩:=Qae h
 refine gn 9 [2,3,5,6] [0,1] [] (QpY Γ rv h4 ?_)
 rcases e0 with e0|e0
 ·replace h:(bnd (Qe9 r) fun r1=>br ((neI r1.2 0)||(eqI (lenI r.visits) 0)) (some 2) (bnd (loopF (fun s=>QbY x0 r r1 s) 0) (fun e=>sel e (fun (_:Unit)=>bnd (loopF (fun s=>QbI x0 r r1 s) 0) (fun e=>sel e (fun (_:Unit)=>bnd (Qdt x0 r.visits) fun r3=>br r3 (bnd (QdY x0 r1.1) fun r4=>br r4 (bnd (Qds x0 r1.1 r.visits) fun r5=>br r5 (some 0) (some 21)) (some 20)) (some 19)) (fun r6=>some r6))) (fun r7=>some r7))):Option Int)=some _:=h
  obtain ⟨r1,h5,h⟩:=Qae h
  rcases Qah h with ⟨h6,h⟩|⟨h6,h⟩
  ·obtain rfl:=Option.some.inj h
   exact gr 8 [] [cC (Qmp h5),hP,hP,oI ((neI r1.2 0)=false),nL Qaa.enc r.visits,hP,hP,oI ((neI r1.2 0)=false),oR True ((neI r1.2 0)=false),bT h6]
  ·obtain ⟨e1,h11,h⟩:=Qae h
   refine gn 12 [2,5,7,9] [0] [cC (Qmp h5),hP,hP,oI ((neI r1.2 0)=false),nL Qaa.enc r.visits,hP,hP,oI ((neI r1.2 0)=false),oR True ((neI r1.2 0)=false),bF h6] (QpZ Γ rv h11 ?_)
   rcases e1 with e1|e1
   ·replace h:(bnd (loopF (fun s=>QbI x0 r r1 s) 0) (fun e=>sel e (fun (_:Unit)=>bnd (Qdt x0 r.visits) fun r3=>br r3 (bnd (QdY x0 r1.1) fun r4=>br r4 (bnd (Qds x0 r1.1 r.visits) fun r5=>br r5 (some 0) (some 21)) (some 20)) (some 19)) (fun r6=>some r6)):Option Int)=some _:=h
    obtain ⟨e2,h16,h⟩:=Qae h
    refine gn 5 [2,5,7,10] [0] [] (Qp0 Γ rv h16 ?_)
    rcases e2 with e2|e2
    ·replace h:(bnd (Qdt x0 r.visits) fun r3=>br r3 (bnd (QdY x0 r1.1) fun r4=>br r4 (bnd (Qds x0 r1.1 r.visits) fun r5=>br r5 (some 0) (some 21)) (some 20)) (some 19):Option Int)=some _:=h
     obtain ⟨r3,h17,h⟩:=Qae h
     rcases Qah h with ⟨h18,h⟩|⟨h18,h⟩
     ·obtain ⟨r4,h19,h⟩:=Qae h
      rcases Qah h with ⟨h20,h⟩|⟨h20,h⟩
      ·obtain ⟨r5,h21,h⟩:=Qae h
       rcases Qah h with ⟨h22,h⟩|⟨h22,h⟩
       ·obtain rfl:=Option.some.inj h
        exact gr 17 [] [cC (Qgj h17),nF h18,cC (QiV h19),nF h20,cC (Qmq h21),nF h22]
       ·obtain rfl:=Option.some.inj h
        exact gr 16 [] [cC (Qgj h17),nF h18,cC (QiV h19),nF h20,cC (Qmq h21),nT h22]
      ·obtain rfl:=Option.some.inj h
       exact gr 11 [] [cC (Qgj h17),nF h18,cC (QiV h19),nT h20]
     ·obtain rfl:=Option.some.inj h
      exact gr 6 [] [cC (Qgj h17),nT h18]
    ·obtain ⟨r6,rfl⟩:∃ x,x=e2:=⟨_,rfl⟩
     replace h:(some r6:Option Int)=some _:=h
     exact Option.some.inj h
   ·obtain ⟨r7,rfl⟩:∃ x,x=e1:=⟨_,rfl⟩
    replace h:(some r7:Option Int)=some _:=h
    exact Option.some.inj h
 ·obtain ⟨r8,rfl⟩:∃ x,x=e0:=⟨_,rfl⟩
  replace h:(some r8:Option Int)=some _:=h
  exact Option.some.inj h
def QoT (Γ:Gam) (rv:Bool) (cf:Cf):Prop:=Go Tryz.prog Tryz.f130 [] Γ (one (.bool rv)) [] cf
def Qmm (Γ:Gam) (rv:Bool) (t:Qai) (skills:Int) (bit:Int):Prop:=QoT Γ rv ⟨[.c 116,.l 116,.b 0,.c 15],⟨30,[vI 1 skills,vP 2 0 14,vI 5 bit],[oX 14 124 (Qai.enc t)]⟩⟩
def Qlk (Γ:Gam) (rv:Bool) (t:Qai) (skills:Int):Prop:=QoT Γ rv ⟨[.c 15],⟨30,[],[]⟩⟩
theorem QqM (Γ:Gam) (rv:Bool) {t skills} {s:Int} {e:(Unit)⊕(Bool)} (h:loopF (fun s=>Qde t skills s) s=some e) (hD:sel e (fun e=>Qlk Γ rv t skills) (fun e=>e=rv)):Qmm Γ rv t skills s:=by
 refine QaF (C:=fun (s:Int)=>Qmm Γ rv t skills s) (D:=fun (e:(Unit)⊕(Bool))=>sel e (fun e=>Qlk Γ rv t skills) (fun e=>e=rv)) ?_ h hD
 clear h hD s e
 intro bit z_ h hI hE
 replace h:Qde t skills bit=_:=h
 unfold Qde at h
 rcases Qah h with ⟨h1,h⟩|⟨h1,h⟩
 ·obtain ⟨h2,h⟩:=Qat h
  rcases Qah h with ⟨h3,h⟩|⟨h3,h⟩
  ·obtain ⟨h4,h⟩:=Qat h
   rcases Qah h with ⟨h5,h⟩|⟨h5,h⟩
   ·obtain rfl:=(hE _ (oJ h):_=rv)
    exact gr 12 [] [bT h1,oO (h2),oO (oA (n:=2)),rp 4 (bT h3),oO (h4),bT h3,oO (oA (n:=2)),bT h3,bT h3,bT h5]
   ·exact gn 14 [1,2,5] [0] [bT h1,oO (h2),oO (oA (n:=2)),rp 4 (bT h3),oO (h4),bT h3,oO (oA (n:=2)),bT h3,bT h3,bF h5] (hI _ (oJ h))
  ·exact gn 14 [1,2,5] [0] [bT h1,oO (h2),oO (oA (n:=2)),rp 7 (bF h3),fF] (hI _ (oJ h))
 ·exact gn 5 [] [] [bF h1] (hE _ (oJ h))
theorem QnW {t skills} {rv:Bool} (h:QgD t skills=some rv):AFn Tryz.prog 130 [.agg (Qai.enc t),.one (lI skills)] [] (one (.bool rv)) []:=by
 refine QaK Tryz.func130 (by kernel_rfl) (by kernel_rfl) (fun Γ=>?_)
 unfold QgD at h
 rcases Qah h with ⟨h0,h⟩|⟨h0,h⟩
 ·obtain rfl:=Option.some.inj h
  exact gr 8 [] [hP,hP,hP,oI ((ltI t.skills 0)=false),oR True ((ltI t.skills 0)=false),bT h0]
 ·obtain ⟨e0,h6,h⟩:=Qae h
  refine gn 12 [1,2,5] [0] [hP,hP,hP,oI ((ltI t.skills 0)=false),oR True ((ltI t.skills 0)=false),bF h0] (QqM Γ rv h6 ?_)
  rcases e0 with e0|e0
  ·replace h:(some true:Option Bool)=some _:=h
   obtain rfl:=Option.some.inj h
   exact gr 2 [] []
  ·obtain ⟨r,rfl⟩:∃ x,x=e0:=⟨_,rfl⟩
   replace h:(some r:Option Bool)=some _:=h
   exact Option.some.inj h
def QoR (Γ:Gam) (rv:Bool) (cf:Cf):Prop:=Go Tryz.prog Tryz.f188 [] Γ (one (.bool rv)) [] cf
def Qmk (Γ:Gam) (rv:Bool) (l:List (List Int)) (dims:Int) (i:Int):Prop:=QoR Γ rv ⟨[.c 116,.l 116,.b 0,.c 15],⟨25,[vL 0 1 l Qbc,vI 1 dims,vI 5 i],[]⟩⟩
def Qlh (Γ:Gam) (rv:Bool) (l:List (List Int)) (dims:Int):Prop:=QoR Γ rv ⟨[.c 15],⟨25,[],[]⟩⟩
theorem QqK (Γ:Gam) (rv:Bool) {l dims} {s:Int} {e:(Unit)⊕(Bool)} (h:loopF (fun s=>QcL l dims s) s=some e) (hD:sel e (fun e=>Qlh Γ rv l dims) (fun e=>e=rv)):Qmk Γ rv l dims s:=by
 refine QaF (C:=fun (s:Int)=>Qmk Γ rv l dims s) (D:=fun (e:(Unit)⊕(Bool))=>sel e (fun e=>Qlh Γ rv l dims) (fun e=>e=rv)) ?_ h hD
 clear h hD s e
 intro i z_ h hI hE
 replace h:QcL l dims i=_:=h
 unfold QcL at h
 rcases Qah h with ⟨h1,h⟩|⟨h1,h⟩
 ·obtain ⟨x0,h2,h⟩:=Qae h
  rcases Qah h with ⟨h3,h⟩|⟨h3,h⟩
  ·obtain rfl:=(hE _ (oJ h):_=rv)
   exact gr 12 [] [nL Qbc l,bT h1,cE Qbc h2,nL e_i64 x0,bT h3]
  ·exact gn 14 [0,1,5] [] [nL Qbc l,bT h1,cE Qbc h2,nL e_i64 x0,bF h3] (hI _ (oJ h))
 ·exact gn 5 [] [] [nL Qbc l,bF h1] (hE _ (oJ h))
theorem QnR {l dims} {rv:Bool} (h:QhN l dims=some rv):AFn Tryz.prog 188 [.one (lL 1 l Qbc),.one (lI dims)] [] (one (.bool rv)) []:=by
 refine QaK Tryz.func188 (by kernel_rfl) (by kernel_rfl) (fun Γ=>?_)
 unfold QhN at h
 rcases Qah h with ⟨h0,h⟩|⟨h0,h⟩
 ·obtain rfl:=Option.some.inj h
  exact gr 8 [] [hP,hP,hP,oI ((ltI dims 0)=false),oR True ((ltI dims 0)=false),bT h0]
 ·obtain ⟨e0,h4,h⟩:=Qae h
  refine gn 12 [0,1,5] [] [hP,hP,hP,oI ((ltI dims 0)=false),oR True ((ltI dims 0)=false),bF h0] (QqK Γ rv h4 ?_)
  rcases e0 with e0|e0
  ·replace h:(some true:Option Bool)=some _:=h
   obtain rfl:=Option.some.inj h
   exact gr 2 [] []
  ·obtain ⟨r,rfl⟩:∃ x,x=e0:=⟨_,rfl⟩
   replace h:(some r:Option Bool)=some _:=h
   exact Option.some.inj h
def QiN (Γ:Gam) (rv:List Int×Int) (cf:Cf):Prop:=Go Tryz.prog Tryz.f182 [] Γ (.tup [.one (lL 1 rv.1 e_i64),.one (lI rv.2)]) [] cf
def Qm5 (Γ:Gam) (rv:List Int×Int) (l:List (List Int)) (dims:Int) (l1:List Int) (d:Int) (n:Int) (i:Int):Prop:=QiN Γ rv ⟨[.c 62612,.l 62612,.b 2,.c 7827,.b 1,.c 979,.l 244,.b 0,.c 31],⟨39,[vL 0 1 l Qbc,vI 1 dims,vO 6 0 1 l1 e_i64,vI 7 d,vI 8 n,vI 9 i],[oS 1 3 l1 e_i64]⟩⟩
def Qmj (Γ:Gam) (rv:List Int×Int) (l:List (List Int)) (dims:Int) (l1:List Int) (d:Int) (n1:Int):Prop:=QiN Γ rv ⟨[.c 7827,.b 1,.c 979,.l 244,.b 0,.c 31],⟨39,[vL 0 1 l Qbc,vI 1 dims,vO 6 0 1 l1 e_i64,vI 7 d,vI 8 n1],[oS 1 3 l1 e_i64]⟩⟩
def Qm4 (Γ:Gam) (rv:List Int×Int) (l:List (List Int)) (dims:Int) (l1:List Int) (d:Int):Prop:=QiN Γ rv ⟨[.c 244,.l 244,.b 0,.c 31],⟨39,[vL 0 1 l Qbc,vI 1 dims,vO 6 0 1 l1 e_i64,vI 7 d],[oS 1 3 l1 e_i64]⟩⟩
def Qmi (Γ:Gam) (rv:List Int×Int) (l:List (List Int)) (dims:Int) (l2:List Int):Prop:=QiN Γ rv ⟨[.c 31],⟨39,[vO 6 0 1 l2 e_i64],[oS 1 3 l2 e_i64]⟩⟩
theorem Qrq (Γ:Gam) (rv:List Int×Int) {l dims l1 d} {s:Int×Int} {e:Int} (h:loopF (fun s=>QcG l dims l1 d s.1 s.2) s=some e) (hD:Qmj Γ rv l dims l1 d e):Qm5 Γ rv l dims l1 d s.1 s.2:=by
 refine QaF (C:=fun (s:Int×Int)=>Qm5 Γ rv l dims l1 d s.1 s.2) (D:=fun (e:Int)=>Qmj Γ rv l dims l1 d e) ?_ h hD
 clear h hD s e
 rintro ⟨n,i⟩ z_ h hI hE
 replace h:QcG l dims l1 d n i=_:=h
 unfold QcG at h
 rcases Qah h with ⟨h3,h⟩|⟨h3,h⟩
 ·obtain ⟨x0,h4,h⟩:=Qae h
  obtain ⟨x1,h5,h⟩:=Qae h
  exact gn 11 [0,1,6,7,8,9] [0] [nL Qbc l,bT h3,cE Qbc h4,cE e_i64 h5] (hI _ (oJ h))
 ·exact gn 5 [0,1,6,7,8] [0] [nL Qbc l,bF h3] (hE _ (oJ h))
theorem Qrp (Γ:Gam) (rv:List Int×Int) {l dims} {s:List Int×Int} {e:List Int} (h:loopF (fun s=>QcF l dims s.1 s.2) s=some e) (hD:Qmi Γ rv l dims e):Qm4 Γ rv l dims s.1 s.2:=by
 refine QaF (C:=fun (s:List Int×Int)=>Qm4 Γ rv l dims s.1 s.2) (D:=fun (e:List Int)=>Qmi Γ rv l dims e) ?_ h hD
 clear h hD s e
 rintro ⟨l1,d⟩ z_ h hI hE
 replace h:QcF l dims l1 d=_:=h
 unfold QcF at h
 rcases Qah h with ⟨h2,h⟩|⟨h2,h⟩
 ·obtain ⟨e0,h6,h⟩:=Qae h
  refine gn 14 [0,1,6,7,8,9] [0] [bT h2] (Qrq Γ rv h6 ?_)
  obtain ⟨n1,rfl⟩:∃ x,x=e0:=⟨_,rfl⟩
  replace h:(chk (okN (l1++[n1]).length 8) (some (.inl ((l1++[n1]),(addK .i64 d 1)))):Option ((List Int×Int)⊕(List Int)))=some _:=h
  obtain ⟨h7,h⟩:=Qat h
  exact gn 4 [0,1,6,7] [2] [oO (Eq.refl ([n1].map e_i64).length),aO e_i64 h7] (hI _ (oJ h))
 ·exact gn 5 [6] [0] [bF h2] (hE _ (oJ h))
theorem Qs7 {l dims} {rv:List Int×Int} (h:Qhu l dims=some rv):AFn Tryz.prog 182 [.one (lL 1 l Qbc),.one (lI dims)] [] (.tup [.one (lL 1 rv.1 e_i64),.one (lI rv.2)]) []:=by
 refine QaK Tryz.func182 (by kernel_rfl) (by kernel_rfl) (fun Γ=>?_)
 unfold Qhu at h
 obtain ⟨r,h0,h⟩:=Qae h
 rcases Qah h with ⟨h1,h⟩|⟨h1,h⟩
 ·obtain ⟨e1,h8,h⟩:=Qae h
  refine gn 14 [0,1,6,7] [0] [cC (QnR h0),nF h1,hW 10,hH (.adopt 6 1 3)] (Qrp Γ rv h8 ?_)
  obtain ⟨l2,rfl⟩:∃ x,x=e1:=⟨_,rfl⟩
  replace h:(some (l2,0):Option (List Int×Int))=some _:=h
  obtain rfl:=Option.some.inj h
  exact gr 2 [] [hW 5,hH (.frz 0),rp 3 (eL l2 e_i64)]
 ·obtain rfl:=Option.some.inj h
  exact gr 8 [] [cC (QnR h0),nT h1,hW 4,hH (.nilS 4 0 1)]
theorem Qsn {x0} {rv:Int} (h:QgF x0=some rv):AFn Tryz.prog 183 [.agg (Qac.enc x0)] [] (one (lI rv)) []:=by
 refine QaK Tryz.func183 (by kernel_rfl) (by kernel_rfl) (fun Γ=>?_)
 unfold QgF at h
 rcases Qah h with ⟨h0,h⟩|⟨h0,h⟩
 ·obtain rfl:=Option.some.inj h
  exact gr 8 [] [nL Qai.enc x0.types,bT h0]
 ·obtain ⟨x1,h1,h⟩:=Qae h
  obtain rfl:=Option.some.inj h
  exact gr 9 [] [nL Qai.enc x0.types,bF h0,cE Qai.enc h1,nL e_i64 x1.cap]
def Qhw (Γ:Gam) (rv:List Int×Int) (cf:Cf):Prop:=Go Tryz.prog Tryz.f175 [] Γ (.tup [.one (lL 1 rv.1 e_i64),.one (lI rv.2)]) [] cf
def QlC (Γ:Gam) (rv:List Int×Int) (x0:Qac) (l:List Qaa) (n:Int) (l1:List (List Int)) (i:Int) (on_:Bool) (there:Bool) (k:Int):Prop:=Qhw Γ rv ⟨[.c 29844,.l 29844,.b 2,.c 3731,.b 1,.c 467,.l 116,.b 0,.c 15],⟨69,[vL 1 2 l Qaa.enc,vI 2 n,vP 3 0 6,vO 8 1 1 l1 Qbc,vI 9 i,vB 10 on_,vB 11 there,vI 12 k],[oX 6 30 (Qac.enc x0),oS 1 42 l1 Qbc]⟩⟩
def QkG (Γ:Gam) (rv:List Int×Int) (x0:Qac) (l:List Qaa) (n:Int) (l1:List (List Int)) (i:Int) (on_1:Bool) (there1:Bool):Prop:=Qhw Γ rv ⟨[.c 3731,.b 1,.c 467,.l 116,.b 0,.c 15],⟨69,[vL 1 2 l Qaa.enc,vI 2 n,vP 3 0 6,vO 8 1 1 l1 Qbc,vI 9 i,vB 10 on_1,vB 11 there1],[oX 6 30 (Qac.enc x0),oS 1 42 l1 Qbc]⟩⟩
def QlB (Γ:Gam) (rv:List Int×Int) (x0:Qac) (l:List Qaa) (n:Int) (l1:List (List Int)) (i:Int):Prop:=Qhw Γ rv ⟨[.c 116,.l 116,.b 0,.c 15],⟨69,[vL 1 2 l Qaa.enc,vI 2 n,vP 3 0 6,vO 8 1 1 l1 Qbc,vI 9 i],[oX 6 30 (Qac.enc x0),oS 1 42 l1 Qbc]⟩⟩
def QkF (Γ:Gam) (rv:List Int×Int) (x0:Qac) (l:List Qaa) (n:Int) (l2:List (List Int)):Prop:=Qhw Γ rv ⟨[.c 15],⟨69,[vP 3 0 6,vO 8 1 1 l2 Qbc],[oX 6 30 (Qac.enc x0),oS 1 42 l2 Qbc]⟩⟩
theorem Qp5 (Γ:Gam) (rv:List Int×Int) {x0 l n l1 i} {s:Bool×Bool×Int} {e:Bool×Bool} (h:loopF (fun s=>Qb1 x0 l n l1 i s.1 s.2.1 s.2.2) s=some e) (hD:QkG Γ rv x0 l n l1 i e.1 e.2):QlC Γ rv x0 l n l1 i s.1 s.2.1 s.2.2:=by
 refine QaF (C:=fun (s:Bool×Bool×Int)=>QlC Γ rv x0 l n l1 i s.1 s.2.1 s.2.2) (D:=fun (e:Bool×Bool)=>QkG Γ rv x0 l n l1 i e.1 e.2) ?_ h hD
 clear h hD s e
 rintro ⟨on_,there,k⟩ z_ h hI hE
 replace h:Qb1 x0 l n l1 i on_ there k=_:=h
 unfold Qb1 at h
 rcases Qah h with ⟨h2,h⟩|⟨h2,h⟩
 ·obtain ⟨x2,h3,h⟩:=Qae h
  rcases Qah h with ⟨h4,h⟩|⟨h4,h⟩
  ·exact gn 14 [1,2,3,8,9,10,11,12] [0,1] [nL Qaa.enc l,bT h2,cE Qaa.enc h3,bT h4] (hI _ (oJ h))
  ·rcases Qah h with ⟨h5,h⟩|⟨h5,h⟩
   ·exact gn 21 [1,2,3,8,9,10,11,12] [0,1] [nL Qaa.enc l,bT h2,cE Qaa.enc h3,bF h4,bT h5,cE Qaa.enc h3] (hI _ (oJ h))
   ·exact gn 21 [1,2,3,8,9,10,11,12] [0,1] [nL Qaa.enc l,bT h2,cE Qaa.enc h3,bF h4,bF h5] (hI _ (oJ h))
 ·exact gn 5 [1,2,3,8,9,10,11] [0,1] [nL Qaa.enc l,bF h2] (hE _ (oJ h))
theorem Qp4 (Γ:Gam) (rv:List Int×Int) {x0 l n} {s:List (List Int)×Int} {e:List (List Int)} (h:loopF (fun s=>Qb0 x0 l n s.1 s.2) s=some e) (hD:QkF Γ rv x0 l n e):QlB Γ rv x0 l n s.1 s.2:=by
 refine QaF (C:=fun (s:List (List Int)×Int)=>QlB Γ rv x0 l n s.1 s.2) (D:=fun (e:List (List Int))=>QkF Γ rv x0 l n e) ?_ h hD
 clear h hD s e
 rintro ⟨l1,i⟩ z_ h hI hE
 replace h:Qb0 x0 l n l1 i=_:=h
 unfold Qb0 at h
 rcases Qah h with ⟨h0,h⟩|⟨h0,h⟩
 ·obtain ⟨x1,h1,h⟩:=Qae h
  obtain ⟨e0,h6,h⟩:=Qae h
  refine gn 14 [1,2,3,8,9,10,11,12] [0,1] [nL Qag.enc x0.orders,bT h0,cE Qag.enc h1] (Qp5 Γ rv h6 ?_)
  obtain ⟨on_1,there1⟩:=e0
  replace h:(br (on_1&&there1) (bnd (getI x0.orders i) fun x3=>chk (okN (l1++[x3.load]).length 24) (some (.inl ((l1++[x3.load]),(addK .i64 i 1))))) (some (.inl (l1,(addK .i64 i 1)))):Option ((List (List Int)×Int)⊕(List (List Int))))=some _:=h
  rcases Qah h with ⟨h7,h⟩|⟨h7,h⟩
  ·obtain ⟨x3,h8,h⟩:=Qae h
   obtain ⟨h9,h⟩:=Qat h
   exact gn 7 [1,2,3,8,9] [0,3] [hP,hP,oR True (on_1=true),bT h7,cE Qag.enc h8,oO (Eq.refl ([x3.load].map Qbc).length),aO Qbc h9] (hI _ (oJ h))
  ·exact gn 7 [1,2,3,8,9] [0,1] [hP,hP,oR True (on_1=true),bF h7] (hI _ (oJ h))
 ·exact gn 5 [3,8] [0,1] [nL Qag.enc x0.orders,bF h0] (hE _ (oJ h))
theorem Qnc {x0 l n} {rv:List Int×Int} (h:Qhj x0 l n=some rv):AFn Tryz.prog 175 [.agg (Qac.enc x0),.one (lL 2 l Qaa.enc),.one (lI n)] [] (.tup [.one (lL 1 rv.1 e_i64),.one (lI rv.2)]) []:=by
 refine QaK Tryz.func175 (by kernel_rfl) (by kernel_rfl) (fun Γ=>?_)
 unfold Qhj at h
 obtain ⟨e1,h10,h⟩:=Qae h
 refine gn 9 [1,2,3,8,9] [0,1] [hW 14,hH (.adopt 8 1 42)] (Qp4 Γ rv h10 ?_)
 obtain ⟨l2,rfl⟩:∃ x,x=e1:=⟨_,rfl⟩
 replace h:(bnd (QgF x0) fun r=>bnd (Qhu l2 r) fun r1=>some (r1.1,r1.2):Option (List Int×Int))=some _:=h
 obtain ⟨r,h11,h⟩:=Qae h
 obtain ⟨r1,h12,h⟩:=Qae h
 obtain rfl:=Option.some.inj h
 exact gr 2 [] [cC (Qsn h11),hH (.frz 1),rp 2 (eL l2 Qbc),cC (Qs7 h12)]
def Qn3 (Γ:Gam) (rv:List (List Int)×Int) (cf:Cf):Prop:=Go Tryz.prog Tryz.f156 [] Γ (.tup [.one (lL 1 rv.1 Qbc),.one (lI rv.2)]) [] cf
def QlA (Γ:Gam) (rv:List (List Int)×Int) (x0:Qac) (r:Qad) (l:List (List Int)) (n:Int):Prop:=Qn3 Γ rv ⟨[.c 244,.l 244,.b 0,.c 31],⟨40,[vP 2 0 6,vP 3 1 4,vO 7 2 1 l Qbc,vI 8 n],[oX 6 30 (Qac.enc x0),oX 4 34 (Qad.enc r),oS 1 42 l Qbc]⟩⟩
def QkE (Γ:Gam) (rv:List (List Int)×Int) (x0:Qac) (r:Qad) (l1:List (List Int)):Prop:=Qn3 Γ rv ⟨[.c 31],⟨40,[vO 7 0 1 l1 Qbc],[oS 1 42 l1 Qbc]⟩⟩
theorem Qp3 (Γ:Gam) (rv:List (List Int)×Int) {x0 r} {s:List (List Int)×Int} {e:(List (List Int))⊕(List (List Int)×Int)} (h:loopF (fun s=>QbZ x0 r s.1 s.2) s=some e) (hD:sel e (fun e=>QkE Γ rv x0 r e) (fun e=>e=rv)):QlA Γ rv x0 r s.1 s.2:=by
 refine QaF (C:=fun (s:List (List Int)×Int)=>QlA Γ rv x0 r s.1 s.2) (D:=fun (e:(List (List Int))⊕(List (List Int)×Int))=>sel e (fun e=>QkE Γ rv x0 r e) (fun e=>e=rv)) ?_ h hD
 clear h hD s e
 rintro ⟨l,n⟩ z_ h hI hE
 replace h:QbZ x0 r l n=_:=h
 unfold QbZ at h
 rcases Qah h with ⟨h2,h⟩|⟨h2,h⟩
 ·obtain ⟨r2,h3,h⟩:=Qae h
  rcases Qah h with ⟨h4,h⟩|⟨h4,h⟩
  ·obtain rfl:=(hE _ (oJ h):_=rv)
   exact gr 15 [] [nL Qaa.enc r.visits,bT h2,cC (Qnc h3),bT h4,hW 5,hH (.nilS 4 0 1)]
  ·obtain ⟨h5,h⟩:=Qat h
   exact gn 18 [2,3,7,8] [0,1,4] [nL Qaa.enc r.visits,bT h2,cC (Qnc h3),bF h4,oO (Eq.refl ([r2.1].map Qbc).length),aO Qbc h5] (hI _ (oJ h))
 ·exact gn 5 [7] [2] [nL Qaa.enc r.visits,bF h2] (hE _ (oJ h))
theorem Qnb {x0 r} {rv:List (List Int)×Int} (h:Qhi x0 r=some rv):AFn Tryz.prog 156 [.agg (Qac.enc x0),.agg (Qad.enc r)] [] (.tup [.one (lL 1 rv.1 Qbc),.one (lI rv.2)]) []:=by
 refine QaK Tryz.func156 (by kernel_rfl) (by kernel_rfl) (fun Γ=>?_)
 unfold Qhi at h
 obtain ⟨r1,h0,h⟩:=Qae h
 rcases Qah h with ⟨h1,h⟩|⟨h1,h⟩
 ·obtain rfl:=Option.some.inj h
  exact gr 10 [] [cC (QgY h0),bT h1,hW 5,hH (.nilS 4 0 1)]
 ·obtain ⟨e0,h6,h⟩:=Qae h
  refine gn 16 [2,3,7,8] [0,1,2] [cC (QgY h0),bF h1,hW 10,hH (.adopt 7 1 42)] (Qp3 Γ rv h6 ?_)
  rcases e0 with e0|e0
  ·obtain ⟨l1,rfl⟩:∃ x,x=e0:=⟨_,rfl⟩
   replace h:(some (l1,0):Option (List (List Int)×Int))=some _:=h
   obtain rfl:=Option.some.inj h
   exact gr 2 [] [hW 5,hH (.frz 0),rp 3 (eL l1 Qbc)]
  ·obtain ⟨r3,rfl⟩:∃ x,x=e0:=⟨_,rfl⟩
   replace h:(some r3:Option (List (List Int)×Int))=some _:=h
   exact Option.some.inj h
def QoQ (Γ:Gam) (rv:Bool) (cf:Cf):Prop:=Go Tryz.prog Tryz.f157 [] Γ (one (.bool rv)) [] cf
def Qmh (Γ:Gam) (rv:Bool) (a:List Int) (capacity:List Int) (i:Int):Prop:=QoQ Γ rv ⟨[.c 116,.l 116,.b 0,.c 15],⟨26,[vL 0 1 a e_i64,vL 1 1 capacity e_i64,vI 5 i],[]⟩⟩
def Qlf (Γ:Gam) (rv:Bool) (a:List Int) (capacity:List Int):Prop:=QoQ Γ rv ⟨[.c 15],⟨26,[],[]⟩⟩
theorem QqJ (Γ:Gam) (rv:Bool) {a capacity} {s:Int} {e:(Unit)⊕(Bool)} (h:loopF (fun s=>QcK a capacity s) s=some e) (hD:sel e (fun e=>Qlf Γ rv a capacity) (fun e=>e=rv)):Qmh Γ rv a capacity s:=by
 refine QaF (C:=fun (s:Int)=>Qmh Γ rv a capacity s) (D:=fun (e:(Unit)⊕(Bool))=>sel e (fun e=>Qlf Γ rv a capacity) (fun e=>e=rv)) ?_ h hD
 clear h hD s e
 intro i z_ h hI hE
 replace h:QcK a capacity i=_:=h
 unfold QcK at h
 rcases Qah h with ⟨h1,h⟩|⟨h1,h⟩
 ·obtain ⟨x0,h2,h⟩:=Qae h
  obtain ⟨x1,h3,h⟩:=Qae h
  rcases Qah h with ⟨h4,h⟩|⟨h4,h⟩
  ·obtain rfl:=(hE _ (oJ h):_=rv)
   exact gr 12 [] [nL e_i64 a,bT h1,hH (.draw 9 []),cE e_i64 h2,cE e_i64 h3,bT h4]
  ·exact gn 14 [0,1,5] [] [nL e_i64 a,bT h1,hH (.draw 9 []),cE e_i64 h2,cE e_i64 h3,bF h4] (hI _ (oJ h))
 ·exact gn 5 [] [] [nL e_i64 a,bF h1] (hE _ (oJ h))
theorem QnP {a capacity} {rv:Bool} (h:QhM a capacity=some rv):AFn Tryz.prog 157 [.one (lL 1 a e_i64),.one (lL 1 capacity e_i64)] [] (one (.bool rv)) []:=by
 refine QaK Tryz.func157 (by kernel_rfl) (by kernel_rfl) (fun Γ=>?_)
 unfold QhM at h
 rcases Qah h with ⟨h0,h⟩|⟨h0,h⟩
 ·obtain rfl:=Option.some.inj h
  exact gr 8 [] [nL e_i64 a,nL e_i64 capacity,bT h0]
 ·obtain ⟨e0,h5,h⟩:=Qae h
  refine gn 12 [0,1,5] [] [nL e_i64 a,nL e_i64 capacity,bF h0] (QqJ Γ rv h5 ?_)
  rcases e0 with e0|e0
  ·replace h:(some true:Option Bool)=some _:=h
   obtain rfl:=Option.some.inj h
   exact gr 2 [] []
  ·obtain ⟨r,rfl⟩:∃ x,x=e0:=⟨_,rfl⟩
   replace h:(some r:Option Bool)=some _:=h
   exact Option.some.inj h
def QoV (Γ:Gam) (rv:Int) (cf:Cf):Prop:=Go Tryz.prog Tryz.f131 [] Γ (one (lI rv)) [] cf
def Qmr (Γ:Gam) (rv:Int) (x0:Qac) (r:Qad) (r1:List (List Int)×Int) (i:Int):Prop:=QoV Γ rv ⟨[.c 500,.l 500,.b 0,.c 63],⟨47,[vP 2 0 6,vP 3 1 4,vL 5 1 r1.1 Qbc,vI 7 i],[oX 6 30 (Qac.enc x0),oX 4 34 (Qad.enc r)]⟩⟩
def Qlz (Γ:Gam) (rv:Int) (x0:Qac) (r:Qad) (r1:List (List Int)×Int):Prop:=QoV Γ rv ⟨[.c 63],⟨47,[],[]⟩⟩
theorem QqO (Γ:Gam) (rv:Int) {x0 r r1} {s:Int} {e:(Unit)⊕(Int)} (h:loopF (fun s=>QcO x0 r r1 s) s=some e) (hD:sel e (fun e=>Qlz Γ rv x0 r r1) (fun e=>e=rv)):Qmr Γ rv x0 r r1 s:=by
 refine QaF (C:=fun (s:Int)=>Qmr Γ rv x0 r r1 s) (D:=fun (e:(Unit)⊕(Int))=>sel e (fun e=>Qlz Γ rv x0 r r1) (fun e=>e=rv)) ?_ h hD
 clear h hD s e
 intro i z_ h hI hE
 replace h:QcO x0 r r1 i=_:=h
 unfold QcO at h
 rcases Qah h with ⟨h3,h⟩|⟨h3,h⟩
 ·obtain ⟨x1,h4,h⟩:=Qae h
  obtain ⟨x2,h5,h⟩:=Qae h
  obtain ⟨r2,h6,h⟩:=Qae h
  rcases Qah h with ⟨h7,h⟩|⟨h7,h⟩
  ·exact gn 14 [2,3,5,7] [0,1] [nL Qbc r1.1,bT h3,hH (.draw 13 []),cE Qbc h4,cE Qai.enc h5,cC (QnP h6),nF h7] (hI _ (oJ h))
  ·obtain rfl:=(hE _ (oJ h):_=rv)
   exact gr 12 [] [nL Qbc r1.1,bT h3,hH (.draw 13 []),cE Qbc h4,cE Qai.enc h5,cC (QnP h6),nT h7]
 ·exact gn 5 [] [] [nL Qbc r1.1,bF h3] (hE _ (oJ h))
theorem QjI {x0 r} {rv:Int} (h:QgE x0 r=some rv):AFn Tryz.prog 131 [.agg (Qac.enc x0),.agg (Qad.enc r)] [] (one (lI rv)) []:=by
 refine QaK Tryz.func131 (by kernel_rfl) (by kernel_rfl) (fun Γ=>?_)
 unfold QgE at h
 rcases Qah h with ⟨h0,h⟩|⟨h0,h⟩
 ·obtain rfl:=Option.some.inj h
  exact gr 8 [] [rp 5 hP,rp 3 (oI ((ltI r.type_ 0)=false)),nL Qai.enc x0.types,hP,hP,rp 2 (oI ((ltI r.type_ 0)=false)),oR True ((ltI r.type_ 0)=false),bT h0]
 ·obtain ⟨r1,h1,h⟩:=Qae h
  rcases Qah h with ⟨h2,h⟩|⟨h2,h⟩
  ·obtain rfl:=Option.some.inj h
   exact gr 15 [] [rp 5 hP,rp 3 (oI ((ltI r.type_ 0)=false)),nL Qai.enc x0.types,hP,hP,rp 2 (oI ((ltI r.type_ 0)=false)),oR True ((ltI r.type_ 0)=false),bF h0,cC (Qnb h1),bT h2]
  ·obtain ⟨e0,h8,h⟩:=Qae h
   refine gn 19 [2,3,5,7] [0,1] [rp 5 hP,rp 3 (oI ((ltI r.type_ 0)=false)),nL Qai.enc x0.types,hP,hP,rp 2 (oI ((ltI r.type_ 0)=false)),oR True ((ltI r.type_ 0)=false),bF h0,cC (Qnb h1),bF h2] (QqO Γ rv h8 ?_)
   rcases e0 with e0|e0
   ·replace h:(some 0:Option Int)=some _:=h
    obtain rfl:=Option.some.inj h
    exact gr 2 [] []
   ·obtain ⟨r3,rfl⟩:∃ x,x=e0:=⟨_,rfl⟩
    replace h:(some r3:Option Int)=some _:=h
    exact Option.some.inj h
theorem Qhz {x0 v} {rv:Qau×Bool} (h:QdP x0 v=some rv):AFn Tryz.prog 176 [.agg (Qac.enc x0),.agg (Qaa.enc v)] [] (.tup [.agg [lI rv.1.place,lI rv.1.open_,lI rv.1.close,lI rv.1.service],.one (.bool rv.2)]) []:=by
 refine QaK Tryz.func176 (by kernel_rfl) (by kernel_rfl) (fun Γ=>?_)
 unfold QdP at h
 rcases Qah h with ⟨h0,h⟩|⟨h0,h⟩
 ·obtain rfl:=Option.some.inj h
  exact gr 8 [] [rp 5 hP,rp 3 (oI ((ltI v.order 0)=false)),nL Qag.enc x0.orders,hP,hP,rp 2 (oI ((ltI v.order 0)=false)),oR True ((ltI v.order 0)=false),bT h0]
 ·obtain ⟨x1,h1,h⟩:=Qae h
  rcases Qah h with ⟨h2,h⟩|⟨h2,h⟩
  ·obtain rfl:=Option.some.inj h
   exact gr 16 [] [rp 5 hP,rp 3 (oI ((ltI v.order 0)=false)),nL Qag.enc x0.orders,hP,hP,rp 2 (oI ((ltI v.order 0)=false)),oR True ((ltI v.order 0)=false),bF h0,cE Qag.enc h1,bT h2,cE Qag.enc h1,hH (.draw 6 [(2,4)])]
  ·obtain rfl:=Option.some.inj h
   exact gr 16 [] [rp 5 hP,rp 3 (oI ((ltI v.order 0)=false)),nL Qag.enc x0.orders,hP,hP,rp 2 (oI ((ltI v.order 0)=false)),oR True ((ltI v.order 0)=false),bF h0,cE Qag.enc h1,bF h2,hH (.draw 6 [(2,4)])]
def QlE (Γ:Gam) (rv:Bool) (cf:Cf):Prop:=Go Tryz.prog Tryz.f158 [] Γ (one (.bool rv)) [] cf
def QiY (Γ:Gam) (rv:Bool) (x0:Qac) (r:Qad) (i:Int):Prop:=QlE Γ rv ⟨[.c 116,.l 116,.b 0,.c 15],⟨54,[vP 2 0 6,vP 3 1 4,vI 5 i],[oX 6 30 (Qac.enc x0),oX 4 34 (Qad.enc r)]⟩⟩
def Qix (Γ:Gam) (rv:Bool) (x0:Qac) (r:Qad):Prop:=QlE Γ rv ⟨[.c 15],⟨54,[],[]⟩⟩
theorem Qn5 (Γ:Gam) (rv:Bool) {x0 r} {s:Int} {e:(Unit)⊕(Bool)} (h:loopF (fun s=>QbK x0 r s) s=some e) (hD:sel e (fun e=>Qix Γ rv x0 r) (fun e=>e=rv)):QiY Γ rv x0 r s:=by
 refine QaF (C:=fun (s:Int)=>QiY Γ rv x0 r s) (D:=fun (e:(Unit)⊕(Bool))=>sel e (fun e=>Qix Γ rv x0 r) (fun e=>e=rv)) ?_ h hD
 clear h hD s e
 intro i z_ h hI hE
 replace h:QbK x0 r i=_:=h
 unfold QbK at h
 rcases Qah h with ⟨h1,h⟩|⟨h1,h⟩
 ·obtain ⟨x1,h2,h⟩:=Qae h
  obtain ⟨r1,h3,h⟩:=Qae h
  rcases Qah h with ⟨h4,h⟩|⟨h4,h⟩
  ·exact gn 16 [2,3,5] [0,1] [nL Qaa.enc r.visits,bT h1,hH (.draw 13 [(2,11)]),cE Qaa.enc h2,cC (Qhz h3),nF h4] (hI _ (oJ h))
  ·obtain rfl:=(hE _ (oJ h):_=rv)
   exact gr 14 [] [nL Qaa.enc r.visits,bT h1,hH (.draw 13 [(2,11)]),cE Qaa.enc h2,cC (Qhz h3),nT h4]
 ·exact gn 5 [] [] [nL Qaa.enc r.visits,bF h1] (hE _ (oJ h))
theorem Qfs {x0 r} {rv:Bool} (h:Qc2 x0 r=some rv):AFn Tryz.prog 158 [.agg (Qac.enc x0),.agg (Qad.enc r)] [] (one (.bool rv)) []:=by
 refine QaK Tryz.func158 (by kernel_rfl) (by kernel_rfl) (fun Γ=>?_)
 unfold Qc2 at h
 rcases Qah h with ⟨h0,h⟩|⟨h0,h⟩
 ·obtain rfl:=Option.some.inj h
  exact gr 8 [] [rp 5 hP,rp 3 (oI ((ltI r.type_ 0)=false)),nL Qai.enc x0.types,rp 13 hP,rp 2 (oI ((ltI r.type_ 0)=false)),oR True ((ltI r.type_ 0)=false),rp 2 (oI (((ltI r.type_ 0)||(geI r.type_ (lenI x0.types)))=false)),oR True (((ltI r.type_ 0)||(geI r.type_ (lenI x0.types)))=false),rp 2 (oI ((((ltI r.type_ 0)||(geI r.type_ (lenI x0.types)))||(ltI r.start 0))=false)),oR True ((((ltI r.type_ 0)||(geI r.type_ (lenI x0.types)))||(ltI r.start 0))=false),rp 2 (oI (((((ltI r.type_ 0)||(geI r.type_ (lenI x0.types)))||(ltI r.start 0))||(gtI r.start 4096))=false)),nL Qaa.enc r.visits,hP,hP,oI (((((ltI r.type_ 0)||(geI r.type_ (lenI x0.types)))||(ltI r.start 0))||(gtI r.start 4096))=false),oR True (((((ltI r.type_ 0)||(geI r.type_ (lenI x0.types)))||(ltI r.start 0))||(gtI r.start 4096))=false),bT h0]
 ·obtain ⟨e0,h5,h⟩:=Qae h
  refine gn 12 [2,3,5] [0,1] [rp 5 hP,rp 3 (oI ((ltI r.type_ 0)=false)),nL Qai.enc x0.types,rp 13 hP,rp 2 (oI ((ltI r.type_ 0)=false)),oR True ((ltI r.type_ 0)=false),rp 2 (oI (((ltI r.type_ 0)||(geI r.type_ (lenI x0.types)))=false)),oR True (((ltI r.type_ 0)||(geI r.type_ (lenI x0.types)))=false),rp 2 (oI ((((ltI r.type_ 0)||(geI r.type_ (lenI x0.types)))||(ltI r.start 0))=false)),oR True ((((ltI r.type_ 0)||(geI r.type_ (lenI x0.types)))||(ltI r.start 0))=false),rp 2 (oI (((((ltI r.type_ 0)||(geI r.type_ (lenI x0.types)))||(ltI r.start 0))||(gtI r.start 4096))=false)),nL Qaa.enc r.visits,hP,hP,oI (((((ltI r.type_ 0)||(geI r.type_ (lenI x0.types)))||(ltI r.start 0))||(gtI r.start 4096))=false),oR True (((((ltI r.type_ 0)||(geI r.type_ (lenI x0.types)))||(ltI r.start 0))||(gtI r.start 4096))=false),bF h0] (Qn5 Γ rv h5 ?_)
  rcases e0 with e0|e0
  ·replace h:(some true:Option Bool)=some _:=h
   obtain rfl:=Option.some.inj h
   exact gr 2 [] []
  ·obtain ⟨r2,rfl⟩:∃ x,x=e0:=⟨_,rfl⟩
   replace h:(some r2:Option Bool)=some _:=h
   exact Option.some.inj h
theorem Qn7 {t s0 yes} {rv:Qax} (h:QgG t s0 yes=some rv):AFn Tryz.prog 184 [.agg (Qai.enc t),.agg (Qax.enc s0),.one (.bool yes)] [] (gG [lI rv.place,lI rv.time,lI rv.driven,lI rv.miles]) []:=by
 refine QaK Tryz.func184 (by kernel_rfl) (by kernel_rfl) (fun Γ=>?_)
 unfold QgG at h
 rcases Qah h with ⟨h0,h⟩|⟨h0,h⟩
 ·obtain rfl:=Option.some.inj h
  exact gr 11 [] [bT h0]
 ·obtain rfl:=Option.some.inj h
  exact gr 9 [] [bF h0]
theorem Qci {n p} {rv:Bool} (h:QfR n p=some rv):AFn Tryz.prog 197 [.agg (Qak.enc n),.one (lI p)] [] (one (.bool rv)) []:=by
 refine QaK Tryz.func197 (by kernel_rfl) (by kernel_rfl) (fun Γ=>?_)
 unfold QfR at h
 obtain rfl:=Option.some.inj h
 exact gr 4 [] [rp 4 hP,rp 2 (oI ((geI p 0)=true)),nL e_str n.places,hP,hP,rp 2 (oI ((geI p 0)=true)),oR True ((geI p 0)=true)]
def QoS (Γ:Gam) (rv:Qaq×Bool) (cf:Cf):Prop:=Go Tryz.prog Tryz.f198 [] Γ (.tup [.agg [lI rv.1.from_,lI rv.1.to_,lI rv.1.profile,lI rv.1.miles,lL 2 rv.1.travel Qam.enc,lL 2 rv.1.slow Qam.enc],.one (.bool rv.2)]) [] cf
def Qml (Γ:Gam) (rv:Qaq×Bool) (n:Qak) (profile:Int) (from_:Int) (to_:Int) (i:Int):Prop:=QoS Γ rv ⟨[.c 52,.l 52,.b 0,.c 7],⟨42,[vI 1 profile,vI 2 from_,vI 3 to_,vP 4 0 2,vP 8 1 6,vI 10 i],[oX 2 25 (Qak.enc n),oX 6 122 [lI 0,lI 0,lI 0,lI 0,.nils,.nils]]⟩⟩
def Qlj (Γ:Gam) (rv:Qaq×Bool) (n:Qak) (profile:Int) (from_:Int) (to_:Int):Prop:=QoS Γ rv ⟨[.c 7],⟨42,[vP 8 0 6],[oX 6 122 [lI 0,lI 0,lI 0,lI 0,.nils,.nils]]⟩⟩
theorem QqL (Γ:Gam) (rv:Qaq×Bool) {n profile from_ to_} {s:Int} {e:(Unit)⊕(Qaq×Bool)} (h:loopF (fun s=>QeI n profile from_ to_ s) s=some e) (hD:sel e (fun e=>Qlj Γ rv n profile from_ to_) (fun e=>e=rv)):Qml Γ rv n profile from_ to_ s:=by
 refine QaF (C:=fun (s:Int)=>Qml Γ rv n profile from_ to_ s) (D:=fun (e:(Unit)⊕(Qaq×Bool))=>sel e (fun e=>Qlj Γ rv n profile from_ to_) (fun e=>e=rv)) ?_ h hD
 clear h hD s e
 intro i z_ h hI hE
 replace h:QeI n profile from_ to_ i=_:=h
 unfold QeI at h
 rcases Qah h with ⟨h0,h⟩|⟨h0,h⟩
 ·obtain ⟨x0,h1,h⟩:=Qae h
  rcases Qah h with ⟨h2,h⟩|⟨h2,h⟩
  ·obtain rfl:=(hE _ (oJ h):_=rv)
   exact gr 14 [] [nL Qaq.enc n.arcs,bT h0,cE Qaq.enc h1,rp 10 hP,rp 3 (oI ((eqI x0.from_ from_)=true)),oR True ((eqI x0.from_ from_)=true),rp 3 (oI (((eqI x0.from_ from_)&&(eqI x0.to_ to_))=true)),oR True (((eqI x0.from_ from_)&&(eqI x0.to_ to_))=true),bT h2]
  ·exact gn 16 [1,2,3,4,8,10] [0,1] [nL Qaq.enc n.arcs,bT h0,cE Qaq.enc h1,rp 10 hP,rp 3 (oI ((eqI x0.from_ from_)=true)),oR True ((eqI x0.from_ from_)=true),rp 3 (oI (((eqI x0.from_ from_)&&(eqI x0.to_ to_))=true)),oR True (((eqI x0.from_ from_)&&(eqI x0.to_ to_))=true),bF h2] (hI _ (oJ h))
 ·exact gn 5 [8] [1] [nL Qaq.enc n.arcs,bF h0] (hE _ (oJ h))
theorem QnS {n profile from_ to_} {rv:Qaq×Bool} (h:QhO n profile from_ to_=some rv):AFn Tryz.prog 198 [.agg (Qak.enc n),.one (lI profile),.one (lI from_),.one (lI to_)] [] (.tup [.agg [lI rv.1.from_,lI rv.1.to_,lI rv.1.profile,lI rv.1.miles,lL 2 rv.1.travel Qam.enc,lL 2 rv.1.slow Qam.enc],.one (.bool rv.2)]) []:=by
 refine QaK Tryz.func198 (by kernel_rfl) (by kernel_rfl) (fun Γ=>?_)
 unfold QhO at h
 obtain ⟨e0,h3,h⟩:=Qae h
 refine gn 7 [1,2,3,4,8,10] [0,1] [] (QqL Γ rv h3 ?_)
 rcases e0 with e0|e0
 ·replace h:(some ((Qaq.mk 0 0 0 0 [] []),false):Option (Qaq×Bool))=some _:=h
  obtain rfl:=Option.some.inj h
  exact gr 2 [] [hW 5,hH (.nilB 0 4 2),hH (.nilB 0 5 2)]
 ·obtain ⟨r,rfl⟩:∃ x,x=e0:=⟨_,rfl⟩
  replace h:(some r:Option (Qaq×Bool))=some _:=h
  exact Option.some.inj h
end Go.Proofs.YtpkkaboonnedfaaGreatDoor
