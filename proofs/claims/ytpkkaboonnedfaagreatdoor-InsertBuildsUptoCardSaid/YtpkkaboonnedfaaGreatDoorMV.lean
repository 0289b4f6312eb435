/- Part MV of the proof: texts Y1. -/
import Derived.Test.YtpkkaboonnedfaaGreatDoorMU
import Derived.Test.YtpkkaboonnedfaaGreatDoorProg
namespace Go.Proofs.YtpkkaboonnedfaaGreatDoor
set_option linter.unusedVariables false
set_option linter.unusedSectionVars false
set_option linter.unusedSimpArgs false
set_option maxHeartbeats 4000000
set_option maxRecDepth 100000
def QtD (Γ:Gam) (rv:ByteArray) (cf:Cf):Prop:=Go Tryz.prog Tryz.f203 [] Γ (one (.str rv)) [] cf
theorem Qko (Γ:Gam) (rv:ByteArray) {i u} (h:QgU i u=some rv):QtD Γ rv ⟨[.c 431,.c 7],⟨54,[vI 0 i,vP 5 0 24,(6,one (.int .u64 u))],[oX 24 249 [.int .u8 0,.int .u8 0,.int .u8 0,.int .u8 0,.int .u8 0,.int .u8 0,.int .u8 0,.int .u8 0,.int .u8 0,.int .u8 0,.int .u8 0,.int .u8 0,.int .u8 0,.int .u8 0,.int .u8 0,.int .u8 0,.int .u8 0,.int .u8 0,.int .u8 0,.int .u8 0,.int .u8 0,.int .u8 0,.int .u8 0,.int .u8 0]]⟩⟩:=by
 unfold QgU at h
 obtain ⟨r1,h4,h⟩:=Qae h
 cases h
theorem Qs2 {i base} {rv:ByteArray} (h:QlW i base=some rv):AFn Tryz.prog 203 [.one (lI i),.one (lI base)] [] (one (.str rv)) []:=by
 refine QaM Tryz.func203 (by kernel_rfl) (by kernel_rfl) (fun Γ=>?_)
 unfold QlW at h
 rcases Qah h with ⟨h0,h⟩|⟨h0,h⟩
 ·rcases Qah h with ⟨h1,h⟩|⟨h1,h⟩
  ·obtain ⟨r,h2,h⟩:=Qae h
   obtain rfl:=Option.some.inj h
   exact gr 12 [] [bT h0,hP,hP,hP,oI ((leI 0 i)=true),oR True ((leI 0 i)=true),bT h1,cC (QvK h2)]
  ·rcases Qah h with ⟨h3,h⟩|⟨h3,h⟩
   ·exact gn 20 [0,5,6] [0] [bT h0,hP,hP,hP,oI ((leI 0 i)=true),oR True ((leI 0 i)=true),bF h1,bT h3] (Qko Γ rv h)
   ·exact gn 20 [0,5,6] [0] [bT h0,hP,hP,hP,oI ((leI 0 i)=true),oR True ((leI 0 i)=true),bF h1,bF h3] (Qko Γ rv h)
 ·cases h
theorem Qv6 {i} {rv:ByteArray} (h:Qs3 i=some rv):AFn Tryz.prog 202 [.one (lI i)] [] (one (.str rv)) []:=by
 refine QaM Tryz.func202 (by kernel_rfl) (by kernel_rfl) (fun Γ=>?_)
 unfold Qs3 at h
 obtain ⟨r,h0,h⟩:=Qae h
 obtain rfl:=Option.some.inj h
 exact gr 4 [] [cC (Qs2 h0)]
theorem Qql {i} {rv:ByteArray} (h:QmU i=some rv):AFn Tryz.prog 200 [.one (lI i)] [] (one (.str rv)) []:=by
 refine QaM Tryz.func200 (by kernel_rfl) (by kernel_rfl) (fun Γ=>?_)
 unfold QmU at h
 obtain ⟨r,h0,h⟩:=Qae h
 obtain rfl:=Option.some.inj h
 exact gr 4 [] [cC (Qv6 h0)]
def QmV (Γ:Gam) (rv:List Qab) (cf:Cf):Prop:=Go Tryz.prog Tryz.f194 [] Γ (one (lL 2 rv Qab.enc)) [] cf
def QlX (Γ:Gam) (rv:List Qab) (l:List Qao) (l2:List Qab) (v:Int):Prop:=QmV Γ rv ⟨[.c 244,.l 244,.b 0,.c 31],⟨83,[vL 0 2 l Qao.enc,vO 3 0 2 l2 Qab.enc,vL 19 2 l Qao.enc,vI 20 (lenI l),vI 21 v],[oS 2 146 l2 Qab.enc]⟩⟩
def Qkz (Γ:Gam) (rv:List Qab) (l:List Qao) (l4:List Qab):Prop:=QmV Γ rv ⟨[.c 31],⟨83,[vO 3 0 2 l4 Qab.enc],[oS 2 146 l4 Qab.enc]⟩⟩
theorem Qpy (Γ:Gam) (rv:List Qab) {l v x0 r l3} {x:(List Qab×Int)⊕(List Qab)} (h:QiF l v x0 r l3=some x) (hI:∀ s:List Qab×Int,x=.inl s→QlX Γ rv l s.1 s.2) (hE:∀ e:List Qab,x=.inr e→Qkz Γ rv l e):QmV Γ rv ⟨[.c 31335,.b 1,.c 1959,.l 244,.b 0,.c 31],⟨83,[vL 0 2 l Qao.enc,vO 3 0 2 l3 Qab.enc,vI 4 v,vP 5 1 2,vS 6 r,vL 19 2 l Qao.enc,vI 20 (lenI l),vI 21 v],[oS 2 146 l3 Qab.enc,oX 2 119 (Qao.enc x0)]⟩⟩:=by
 unfold QiF at h
 rcases Qah h with ⟨h8,h⟩|⟨h8,h⟩
 ·obtain ⟨x1,h9,h⟩:=Qae h
  rcases Qah h with ⟨h10,h⟩|⟨h10,h⟩
  ·obtain ⟨h11,h⟩:=Qav h
   exact gn 7 [0,3,19,20,21] [3] [hH (.draw 24 []),rp 6 (bT h8),cE Qao.enc h9,rp 4 (bT h8),rp 9 (bT h10),bT h8,bT h10,bT h8,tT,oO (Eq.refl ([(Qab.mk 13 r)].map Qab.enc).length),aO Qab.enc h11] (hI _ (oJ h))
  ·rcases Qah h with ⟨h12,h⟩|⟨h12,h⟩
   ·obtain ⟨h13,h⟩:=Qav h
    exact gn 7 [0,3,19,20,21] [3] [hH (.draw 24 []),rp 6 (bT h8),cE Qao.enc h9,rp 4 (bT h8),rp 6 (bF h10),cE Qao.enc h9,rp 3 (bF h10),bT h8,bF h10,bT h8,bT h12,oO (Eq.refl ([(Qab.mk 13 r)].map Qab.enc).length),aO Qab.enc h13] (hI _ (oJ h))
   ·exact gn 7 [0,3,19,20,21] [0] [hH (.draw 24 []),rp 6 (bT h8),cE Qao.enc h9,rp 4 (bT h8),rp 6 (bF h10),cE Qao.enc h9,rp 3 (bF h10),bT h8,bF h10,bT h8,bF h12] (hI _ (oJ h))
 ·exact gn 7 [0,3,19,20,21] [0] [hH (.draw 24 []),rp 10 (bF h8),rp 9 kF,bF h8,bF h8,fF] (hI _ (oJ h))
theorem Qub (Γ:Gam) (rv:List Qab) {l} {s:List Qab×Int} {e:List Qab} (h:QaT (fun s=>Qei l s.1 s.2) s=some e) (hD:Qkz Γ rv l e):QlX Γ rv l s.1 s.2:=by
 refine QaC (C:=fun (s:List Qab×Int)=>QlX Γ rv l s.1 s.2) (D:=fun (e:List Qab)=>Qkz Γ rv l e) ?_ h hD
 clear h hD s e
 rintro ⟨l2,v⟩ z_ h hI hE
 replace h:Qei l l2 v=_:=h
 unfold Qei at h
 rcases Qah h with ⟨h2,h⟩|⟨h2,h⟩
 ·obtain ⟨x0,h3,h⟩:=Qae h
  obtain ⟨r,h4,h⟩:=Qae h
  obtain ⟨r1,h5,h⟩:=Qae h
  rcases Qah h with ⟨h6,h⟩|⟨h6,h⟩
  ·obtain ⟨h7,h⟩:=Qav h
   exact gn 16 [0,3,4,5,6,19,20,21] [3,1] [bT h2,cE Qao.enc h3,cC (Qql h4),cC (Qh1 h5),rp 13 hP,rp 4 (oI ((!r1)=false)),oR True ((!r1)=false),rp 5 (oI (((!r1)||(ltI x0.a x0.t))=false)),oR True (((!r1)||(ltI x0.a x0.t))=false),bT h6,oO (Eq.refl ([(Qab.mk 2 r)].map Qab.enc).length),aO Qab.enc h7] (Qpy Γ rv h hI hE)
  ·exact gn 16 [0,3,4,5,6,19,20,21] [0,1] [bT h2,cE Qao.enc h3,cC (Qql h4),cC (Qh1 h5),rp 13 hP,rp 4 (oI ((!r1)=false)),oR True ((!r1)=false),rp 5 (oI (((!r1)||(ltI x0.a x0.t))=false)),oR True (((!r1)||(ltI x0.a x0.t))=false),bF h6] (Qpy Γ rv h hI hE)
 ·exact gn 5 [3] [0] [bF h2] (hE _ (oJ h))
theorem Qpx (Γ:Gam) (rv:List Qab) {l l1} (h:QiE l l1=some rv):QmV Γ rv ⟨[.c 15],⟨83,[vL 0 2 l Qao.enc,vO 3 0 2 l1 Qab.enc],[oS 2 146 l1 Qab.enc]⟩⟩:=by
 unfold QiE at h
 obtain ⟨e0,h14,h⟩:=Qae h
 refine gn 5 [0,3,19,20,21] [0] [nL Qao.enc l] (Qub Γ rv h14 ?_)
 obtain ⟨l4,rfl⟩:∃ x,x=e0:=⟨_,rfl⟩
 replace h:(some l4:Option (List Qab))=some _:=h
 obtain rfl:=Option.some.inj h
 exact gr 2 [] [hW 4,hH (.frz 0),rp 3 (eL l4 Qab.enc)]
theorem Qv7 {l} {rv:List Qab} (h:QnR l=some rv):AFn Tryz.prog 194 [.one (lL 2 l Qao.enc)] [] (one (lL 2 rv Qab.enc)) []:=by
 refine QaM Tryz.func194 (by kernel_rfl) (by kernel_rfl) (fun Γ=>?_)
 unfold QnR at h
 rcases Qah h with ⟨h0,h⟩|⟨h0,h⟩
 ·obtain ⟨h1,h⟩:=Qav h
  exact gn 9 [0,3] [1] [nL Qao.enc l,hP,hP,oI ((eqI (lenI l) 0)=false),nL Qao.enc l,hP,hP,oI ((eqI (lenI l) 0)=false),oR True ((eqI (lenI l) 0)=false),bT h0,oO (Eq.refl ([(Qab.mk 4 ByteArray.empty)].map Qab.enc).length),aN (l:=([(Qab.mk 4 ByteArray.empty)]:List Qab)) Qab.enc h1] (Qpx Γ rv h)
 ·exact gn 9 [0,3] [0] [nL Qao.enc l,hP,hP,oI ((eqI (lenI l) 0)=false),nL Qao.enc l,hP,hP,oI ((eqI (lenI l) 0)=false),oR True ((eqI (lenI l) 0)=false),bF h0,hW 1,hH (.adopt 3 2 146)] (Qpx Γ rv h)
theorem QsG {l} {rv:Bool} (h:QnS l=some rv):AFn Tryz.prog 191 [.one (lL 2 l Qao.enc)] [] (one (.bool rv)) []:=by
 refine QaM Tryz.func191 (by kernel_rfl) (by kernel_rfl) (fun Γ=>?_)
 unfold QnS at h
 obtain ⟨r,h0,h⟩:=Qae h
 obtain rfl:=Option.some.inj h
 exact gr 4 [] [cC (Qv7 h0),nL Qab.enc r]
theorem QkA {p t} {rv:Int} (h:Qgg p t=some rv):AFn Tryz.prog 196 [.agg (Qao.enc p),.one (lI t)] [] (one (lI rv)) []:=by
 refine QaM Tryz.func196 (by kernel_rfl) (by kernel_rfl) (fun Γ=>?_)
 unfold Qgg at h
 obtain rfl:=Option.some.inj h
 exact gr 4 [] []
def QbY (Γ:Gam) (rv:Int×Bool) (cf:Cf):Prop:=Go Tryz.prog Tryz.f195 [] Γ (.tup [.one (lI rv.1),.one (.bool rv.2)]) [] cf
def QbU (Γ:Gam) (rv:Int×Bool) (x0:List Qao) (target:Int) (i:Int) (j:Int):Prop:=QbY Γ rv ⟨[.c 120,.l 120,.b 0,.c 31],⟨49,[vL 0 2 x0 Qao.enc,vI 1 target,(2,one (.fn (.func 196) [])),vI 8 (lenI x0),vI 9 i,vI 10 j],[]⟩⟩
def QbK (Γ:Gam) (rv:Int×Bool) (x0:List Qao) (target:Int) (i1:Int):Prop:=QbY Γ rv ⟨[.c 31],⟨49,[vL 0 2 x0 Qao.enc,vI 1 target,(2,one (.fn (.func 196) [])),vI 8 (lenI x0),vI 9 i1],[]⟩⟩
theorem QdB (Γ:Gam) (rv:Int×Bool) {x0 target} {s:Int×Int} {e:Int} (h:QaT (fun s=>QaK x0 target s.1 s.2) s=some e) (hD:QbK Γ rv x0 target e):QbU Γ rv x0 target s.1 s.2:=by
 refine QaC (C:=fun (s:Int×Int)=>QbU Γ rv x0 target s.1 s.2) (D:=fun (e:Int)=>QbK Γ rv x0 target e) ?_ h hD
 clear h hD s e
 rintro ⟨i,j⟩ z_ h hI hE
 replace h:QaK x0 target i j=_:=h
 unfold QaK at h
 rcases Qah h with ⟨h0,h⟩|⟨h0,h⟩
 ·obtain ⟨x1,h1,h⟩:=Qae h
  obtain ⟨r,h2,h⟩:=Qae h
  rcases Qah h with ⟨h3,h⟩|⟨h3,h⟩
  ·exact gn 14 [0,1,2,8,9,10] [] [bT h0,oO (zL 1),cE Qao.enc h1,cC (QkA h2),bT h3] (hI _ (oJ h))
  ·exact gn 14 [0,1,2,8,9,10] [] [bT h0,oO (zL 1),cE Qao.enc h1,cC (QkA h2),bF h3] (hI _ (oJ h))
 ·exact gn 5 [0,1,2,8,9] [] [bF h0] (hE _ (oJ h))
theorem Qa2 {x0 target} {rv:Int×Bool} (h:Qa6 x0 target=some rv):AFn Tryz.prog 195 [.one (lL 2 x0 Qao.enc),.one (lI target),.one (.fn (.func 196) [])] [] (.tup [.one (lI rv.1),.one (.bool rv.2)]) []:=by
 refine QaM Tryz.func195 (by kernel_rfl) (by kernel_rfl) (fun Γ=>?_)
 unfold Qa6 at h
 obtain ⟨e0,h4,h⟩:=Qae h
 refine gn 9 [0,1,2,8,9,10] [] [nL Qao.enc x0] (QdB Γ rv h4 ?_)
 obtain ⟨i1,rfl⟩:∃ x,x=e0:=⟨_,rfl⟩
 replace h:(br (ltI i1 (lenI x0)) (bnd (getI x0 i1) fun x2=>bnd (Qgg x2 target) fun r1=>some (i1,(eqI r1 0))) (some (i1,false)):Option (Int×Bool))=some _:=h
 rcases Qah h with ⟨h5,h⟩|⟨h5,h⟩
 ·obtain ⟨x2,h6,h⟩:=Qae h
  obtain ⟨r1,h7,h⟩:=Qae h
  obtain rfl:=Option.some.inj h
  exact gr 2 [] [rp 4 (bT h5),cE Qao.enc h6,rp 3 (bT h5),cC (QkA h7),bT h5,bT h5]
 ·obtain rfl:=Option.some.inj h
  exact gr 2 [] [rp 9 (bF h5)]
theorem QvN {l t} {rv:Int} (h:QlL l t=some rv):AFn Tryz.prog 192 [.one (lL 2 l Qao.enc),.one (lI t)] [] (one (lI rv)) []:=by
 refine QaM Tryz.func192 (by kernel_rfl) (by kernel_rfl) (fun Γ=>?_)
 unfold QlL at h
 obtain ⟨r,h0,h⟩:=Qae h
 rcases Qah h with ⟨h1,h⟩|⟨h1,h⟩
 ·obtain ⟨x0,h2,h⟩:=Qae h
  obtain rfl:=Option.some.inj h
  exact gr 11 [] [cC (Qa2 h0),bT h1,cE Qao.enc h2]
 ·rcases Qah h with ⟨h3,h⟩|⟨h3,h⟩
  ·obtain ⟨x1,h4,h⟩:=Qae h
   obtain rfl:=Option.some.inj h
   exact gr 14 [] [cC (Qa2 h0),bF h1,bT h3,hH (.draw 12 []),rp 2 (cE Qao.enc h4)]
  ·rcases Qah h with ⟨h5,h⟩|⟨h5,h⟩
   ·obtain ⟨x2,h6,h⟩:=Qae h
    obtain rfl:=Option.some.inj h
    exact gr 17 [] [cC (Qa2 h0),bF h1,bF h3,nL Qao.enc l,bT h5,hH (.draw 16 []),rp 2 (cE Qao.enc h6)]
   ·obtain ⟨x3,h7,h⟩:=Qae h
    obtain ⟨x4,h8,h⟩:=Qae h
    obtain ⟨h9,h⟩:=Qav h
    obtain rfl:=Option.some.inj h
    exact gr 23 [] [cC (Qa2 h0),bF h1,bF h3,nL Qao.enc l,bF h5,hH (.draw 13 [(0,11),(1,12)]),cE Qao.enc h7,cE Qao.enc h8,hH (.draw 19 []),oO (h9)]
theorem QvM {l t} {rv:Int} (h:QlK l t=some rv):AFn Tryz.prog 187 [.one (lL 2 l Qao.enc),.one (lI t)] [] (one (lI rv)) []:=by
 refine QaM Tryz.func187 (by kernel_rfl) (by kernel_rfl) (fun Γ=>?_)
 unfold QlK at h
 obtain ⟨r,h0,h⟩:=Qae h
 rcases Qah h with ⟨h1,h⟩|⟨h1,h⟩
 ·obtain ⟨r1,h2,h⟩:=Qae h
  rcases Qah h with ⟨h3,h⟩|⟨h3,h⟩
  ·obtain ⟨r2,h4,h⟩:=Qae h
   obtain rfl:=Option.some.inj h
   exact gr 9 [] [cC (Qh1 h0),nF h1,nF h1,cC (QsG h2),nF h1,nF h1,nF h3,cC (QvN h4)]
  ·obtain rfl:=Option.some.inj h
   exact gr 8 [] [cC (Qh1 h0),nF h1,nF h1,cC (QsG h2),nF h1,nF h1,nT h3]
 ·obtain rfl:=Option.some.inj h
  exact gr 8 [] [cC (Qh1 h0),rp 4 (nT h1),tT]
def Qqd (Γ:Gam) (rv:Int) (cf:Cf):Prop:=Go Tryz.prog Tryz.f181 [] Γ (one (lI rv)) [] cf
def QnE (Γ:Gam) (rv:Int) (a:Qas) (t:Int) (out:Int) (v:Int):Prop:=Qqd Γ rv ⟨[.c 116,.l 116,.b 0,.c 15],⟨29,[vI 1 t,vI 5 out,vL 13 2 a.slow Qao.enc,vI 14 (lenI a.slow),vI 15 v],[]⟩⟩
def QmI (Γ:Gam) (rv:Int) (a:Qas) (t:Int) (out1:Int):Prop:=Qqd Γ rv ⟨[.c 15],⟨29,[vI 5 out1],[]⟩⟩
theorem Qsi (Γ:Gam) (rv:Int) {a t} {s:Int×Int} {e:Int} (h:QaT (fun s=>Qib a t s.1 s.2) s=some e) (hD:QmI Γ rv a t e):QnE Γ rv a t s.1 s.2:=by
 refine QaC (C:=fun (s:Int×Int)=>QnE Γ rv a t s.1 s.2) (D:=fun (e:Int)=>QmI Γ rv a t e) ?_ h hD
 clear h hD s e
 rintro ⟨out,v⟩ z_ h hI hE
 replace h:Qib a t out v=_:=h
 unfold Qib at h
 rcases Qah h with ⟨h1,h⟩|⟨h1,h⟩
 ·obtain ⟨x0,h2,h⟩:=Qae h
  rcases Qah h with ⟨h3,h⟩|⟨h3,h⟩
  ·exact gn 16 [1,5,13,14,15] [] [bT h1,cE Qao.enc h2,bT h3] (hI _ (oJ h))
  ·exact gn 16 [1,5,13,14,15] [] [bT h1,cE Qao.enc h2,bF h3] (hI _ (oJ h))
 ·exact gn 5 [5] [] [bF h1] (hE _ (oJ h))
theorem QtY {a t} {rv:Int} (h:Qiz a t=some rv):AFn Tryz.prog 181 [.agg (Qas.enc a),.one (lI t)] [] (one (lI rv)) []:=by
 refine QaM Tryz.func181 (by kernel_rfl) (by kernel_rfl) (fun Γ=>?_)
 unfold Qiz at h
 obtain ⟨r,h0,h⟩:=Qae h
 obtain ⟨e0,h4,h⟩:=Qae h
 refine gn 9 [1,5,13,14,15] [] [cC (QvM h0),nL Qao.enc a.slow] (Qsi Γ rv h4 ?_)
 obtain ⟨out1,rfl⟩:∃ x,x=e0:=⟨_,rfl⟩
 replace h:(some out1:Option Int)=some _:=h
 obtain rfl:=Option.some.inj h
 exact gr 2 [] []
theorem QlE {n profile from_ to_ t} {rv:Int×Int×Int} (h:Qpo n profile from_ to_ t=some rv):AFn Tryz.prog 168 [.agg (Qam.enc n),.one (lI profile),.one (lI from_),.one (lI to_),.one (lI t)] [] (.tup [.one (lI rv.1),.one (lI rv.2.1),.one (lI rv.2.2)]) []:=by
 refine QaM Tryz.func168 (by kernel_rfl) (by kernel_rfl) (fun Γ=>?_)
 unfold Qpo at h
 obtain ⟨r,h0,h⟩:=Qae h
 rcases Qah h with ⟨h1,h⟩|⟨h1,h⟩
 ·obtain ⟨r1,h2,h⟩:=Qae h
  rcases Qah h with ⟨h3,h⟩|⟨h3,h⟩
  ·rcases Qah h with ⟨h4,h⟩|⟨h4,h⟩
   ·obtain rfl:=Option.some.inj h
    exact gr 13 [] [cC (QdI h0),rp 3 (nF h1),cC (QdI h2),nF h1,nF h1,nF h3,bT h4]
   ·obtain ⟨r2,h5,h⟩:=Qae h
    rcases Qah h with ⟨h6,h⟩|⟨h6,h⟩
    ·obtain ⟨r3,h7,h⟩:=Qae h
     obtain rfl:=Option.some.inj h
     exact gr 21 [] [cC (QdI h0),rp 3 (nF h1),cC (QdI h2),nF h1,nF h1,nF h3,bF h4,cC (QsB h5),nF h6,hH (.draw 8 []),cC (QtY h7)]
    ·obtain rfl:=Option.some.inj h
     exact gr 20 [] [cC (QdI h0),rp 3 (nF h1),cC (QdI h2),nF h1,nF h1,nF h3,bF h4,cC (QsB h5),nT h6]
  ·obtain rfl:=Option.some.inj h
   exact gr 8 [] [cC (QdI h0),rp 3 (nF h1),cC (QdI h2),nF h1,nF h1,nT h3]
 ·obtain rfl:=Option.some.inj h
  exact gr 8 [] [cC (QdI h0),rp 5 (nT h1),tT]
theorem QfN {p visits} {rv:Int} (h:Qgm p visits=some rv):AFn Tryz.prog 169 [.agg (Qaz.enc p),.one (lI visits)] [] (one (lI rv)) []:=by
 refine QaM Tryz.func169 (by kernel_rfl) (by kernel_rfl) (fun Γ=>?_)
 unfold Qgm at h
 rcases Qah h with ⟨h0,h⟩|⟨h0,h⟩
 ·obtain rfl:=Option.some.inj h
  exact gr 8 [] [bT h0]
 ·obtain ⟨x0,h1,h⟩:=Qae h
  obtain rfl:=Option.some.inj h
  exact gr 9 [] [bF h0,cE Qaw.enc h1]
theorem QsH {s0 arrive} {rv:Int×Int} (h:QpR s0 arrive=some rv):AFn Tryz.prog 170 [.agg (Qaw.enc s0),.one (lI arrive)] [] (.tup [.one (lI rv.1),.one (lI rv.2)]) []:=by
 refine QaM Tryz.func170 (by kernel_rfl) (by kernel_rfl) (fun Γ=>?_)
 unfold QpR at h
 rcases Qah h with ⟨h0,h⟩|⟨h0,h⟩
 ·obtain rfl:=Option.some.inj h
  exact gr 10 [] [bT h0]
 ·obtain rfl:=Option.some.inj h
  exact gr 11 [] [bF h0]
theorem Qeq {s0} {rv:List Qar} (h:QbB s0=some rv):AFn Tryz.prog 167 [.one (lL 4 s0 Qar.enc)] [] (one (lO 0 4 rv Qar.enc)) [oS 4 213 rv Qar.enc]:=by
 refine QaM Tryz.func167 (by kernel_rfl) (by kernel_rfl) (fun Γ=>?_)
 unfold QbB at h
 rcases Qah h with ⟨h0,h⟩|⟨h0,h⟩
 ·obtain ⟨hx,h⟩:=QxU h
  refine gn 5 [0,4] [] [hH (.skip)] (cf':=⟨[.c 13,.c 7],⟨8,[vL 0 4 s0 Qar.enc,(4,.boo)],[]⟩⟩) (go_amb 4 rfl ?_ ?_)
  ·replace h:=hx
   obtain rfl:=Option.some.inj h
   exact gr 3 [0] [tT,hW 3,hH (.adopt 2 4 213)]
  ·obtain ⟨h1,h⟩:=Qav h
   obtain rfl:=Option.some.inj h
   exact gr 4 [0] [fF,aZ Qar.enc h1]
 ·obtain ⟨h2,h⟩:=Qav h
  obtain rfl:=Option.some.inj h
  exact gr 9 [0] [oO (neE Qar.enc h0),fF,hH (.bit false),aZ Qar.enc h2]
def QiH (Γ:Gam) (rv:Qaf×Int) (cf:Cf):Prop:=Go Tryz.prog Tryz.f144 [] Γ (.tup [.agg [lI rv.1.ready,lI rv.1.since,.bool rv.1.sheet.rest_,lI rv.1.sheet.depart,lL 4 rv.1.sheet.times Qar.enc,lI rv.1.sheet.end_,lI rv.1.sheet.miles],.one (lI rv.2)]) [] cf
theorem Ql4 (Γ:Gam) (rv:Qaf×Int) {p l depart since rest_1 depart1 r2 l2 ready end_} (h:Qe9 p l depart since rest_1 depart1 r2 l2 ready end_=some rv):QiH Γ rv ⟨[.c 32767],⟨163,[vP 4 0 25,vP 8 1 7,vP 12 2 7],[oX 25 174 (Qaz.enc p),oX 7 178 [lI 0,lI 0,.bool false,lI 0,.nils,lI 0,lI 0],oX 7 178 [lI ready,lI (subK .i64 (addK .i64 since r2.1) depart),.bool rest_1,lI depart1,lO 3 4 l2 Qar.enc,lI end_,lI (addK .i64 l.sheet.miles r2.2.1)],oS 4 213 l2 Qar.enc]⟩⟩:=by
 unfold Qe9 at h
 rcases Qah h with ⟨h15,h⟩|⟨h15,h⟩
 ·obtain rfl:=Option.some.inj h
  exact gr 6 [] [bT h15,hW 5,hH (.nilB 1 4 4)]
 ·obtain rfl:=Option.some.inj h
  exact gr 7 [] [bF h15,hW 6,hH (.frz 3),rp 3 (eL l2 Qar.enc)]
theorem Ql3 (Γ:Gam) (rv:Qaf×Int) {p l done depart since l1 rest_1 depart1 to_} (h:QdX p l done depart since l1 rest_1 depart1 to_=some rv):QiH Γ rv ⟨[.c 1023],⟨163,[vI 2 done,vP 4 0 25,vP 8 1 7,vI 10 depart,vI 11 since,vP 12 2 7,vB 13 (eqI done (lenI p.stops)),vI 14 to_],[oX 25 174 (Qaz.enc p),oX 7 178 [lI 0,lI 0,.bool false,lI 0,.nils,lI 0,lI 0],oX 7 178 [lI 0,lI 0,.bool rest_1,lI depart1,lO 3 4 l1 Qar.enc,lI l.sheet.end_,lI l.sheet.miles],oS 4 213 l1 Qar.enc]⟩⟩:=by
 unfold QdX at h
 obtain ⟨r1,h6,h⟩:=Qae h
 obtain ⟨r2,h7,h⟩:=Qae h
 rcases Qah h with ⟨h8,h⟩|⟨h8,h⟩
 ·obtain rfl:=Option.some.inj h
  exact gr 8 [] [hH (.draw 19 []),cC (QfN h6),cC (QlE h7),bT h8,hW 5,hH (.nilB 1 4 4)]
 ·rcases Qah h with ⟨h9,h⟩|⟨h9,h⟩
  ·rcases Qah h with ⟨h10,h⟩|⟨h10,h⟩
   ·obtain rfl:=Option.some.inj h
    exact gr 21 [] [hH (.draw 19 []),cC (QfN h6),cC (QlE h7),bF h8,bT h9,bT h10,hW 5,hH (.nilB 1 4 4)]
   ·exact gn 23 [4,8,12] [0,1,2,3] [hH (.draw 19 []),cC (QfN h6),cC (QlE h7),bF h8,bT h9,bF h10] (Ql4 Γ rv h)
  ·obtain ⟨x2,h11,h⟩:=Qae h
   obtain ⟨r3,h12,h⟩:=Qae h
   rcases Qah h with ⟨h13,h⟩|⟨h13,h⟩
   ·obtain rfl:=Option.some.inj h
    exact gr 23 [] [hH (.draw 19 []),cC (QfN h6),cC (QlE h7),bF h8,bF h9,cE Qaw.enc h11,cC (QsH h12),bT h13,hW 5,hH (.nilB 1 4 4)]
   ·obtain ⟨h14,h⟩:=Qav h
    exact gn 25 [4,8,12] [0,1,2,5] [hH (.draw 19 []),cC (QfN h6),cC (QlE h7),bF h8,bF h9,cE Qaw.enc h11,cC (QsH h12),bF h13,cE Qaw.enc h11,oO (Eq.refl ([(Qar.mk r2.1 r3.1 0 false)].map Qar.enc).length),aO Qar.enc h14] (Ql4 Γ rv h)
theorem Ql2 (Γ:Gam) (rv:Qaf×Int) {p l done depart since l1 rest_1 depart1} (h:Qe8 p l done depart since l1 rest_1 depart1=some rv):QiH Γ rv ⟨[.c 127],⟨163,[vI 2 done,vP 4 0 25,vP 8 1 7,vI 10 depart,vI 11 since,vP 12 2 7],[oX 25 174 (Qaz.enc p),oX 7 178 [lI 0,lI 0,.bool false,lI 0,.nils,lI 0,lI 0],oX 7 178 [lI 0,lI 0,.bool rest_1,lI depart1,lO 3 4 l1 Qar.enc,lI l.sheet.end_,lI l.sheet.miles],oS 4 213 l1 Qar.enc]⟩⟩:=by
 unfold Qe8 at h
 rcases Qah h with ⟨h4,h⟩|⟨h4,h⟩
 ·exact gn 9 [2,4,8,10,11,12,13,14] [0,1,2,3] [nL Qaw.enc p.stops,nF h4] (Ql3 Γ rv h)
 ·obtain ⟨x1,h5,h⟩:=Qae h
  exact gn 9 [2,4,8,10,11,12,13,14] [0,1,2,3] [nL Qaw.enc p.stops,nT h4,cE Qaw.enc h5] (Ql3 Γ rv h)
theorem Ql1 (Γ:Gam) (rv:Qaf×Int) {p l done rest_ depart since} (h:Qe7 p l done rest_ depart since=some rv):QiH Γ rv ⟨[.c 15],⟨163,[vI 2 done,vB 3 rest_,vP 4 0 25,vP 5 1 7,vP 8 2 7,vI 10 depart,vI 11 since],[oX 25 174 (Qaz.enc p),oX 7 178 (Qaf.enc l),oX 7 178 [lI 0,lI 0,.bool false,lI 0,.nils,lI 0,lI 0]]⟩⟩:=by
 unfold Qe7 at h
 obtain ⟨r,h1,h⟩:=Qae h
 rcases Qah h with ⟨h2,h⟩|⟨h2,h⟩
 ·exact gn 11 [2,4,8,10,11,12] [0,2,3,4] [cC (Qeq h1),bT h2] (Ql2 Γ rv h)
 ·obtain ⟨x0,h3,h⟩:=Qae h
  exact gn 11 [2,4,8,10,11,12] [0,2,3,4] [cC (Qeq h1),bF h2,oO (QtK h3),oO (QtJ Qar.enc h3),rE Qar.enc h3,hH (.rows ((setI r (subK .i64 done 1) (Qar.mk x0.arrive x0.begin x0.depart rest_)).map Qar.enc)),hH (.relen 4 ((setI r (subK .i64 done 1) (Qar.mk x0.arrive x0.begin x0.depart rest_)).map Qar.enc).length),oO (setM Qar.enc r (subK .i64 done 1) (Qar.mk x0.arrive x0.begin x0.depart rest_)),rp 3 (oO (Qxq Qar.enc r (subK .i64 done 1) (Qar.mk x0.arrive x0.begin x0.depart rest_))),oO (QtK (QEI h3 (Qar.mk x0.arrive x0.begin x0.depart rest_))),oO (QtJ Qar.enc (QEI h3 (Qar.mk x0.arrive x0.begin x0.depart rest_))),rE Qar.enc (QEI h3 (Qar.mk x0.arrive x0.begin x0.depart rest_)),hH (.rows ((setI (setI r (subK .i64 done 1) (Qar.mk x0.arrive x0.begin x0.depart rest_)) (subK .i64 done 1) (Qar.mk x0.arrive x0.begin depart rest_)).map Qar.enc)),hH (.relen 4 ((setI (setI r (subK .i64 done 1) (Qar.mk x0.arrive x0.begin x0.depart rest_)) (subK .i64 done 1) (Qar.mk x0.arrive x0.begin depart rest_)).map Qar.enc).length),oO (setM Qar.enc (setI r (subK .i64 done 1) (Qar.mk x0.arrive x0.begin x0.depart rest_)) (subK .i64 done 1) (Qar.mk x0.arrive x0.begin depart rest_)),rp 4 (oO (Qxq Qar.enc (setI r (subK .i64 done 1) (Qar.mk x0.arrive x0.begin x0.depart rest_)) (subK .i64 done 1) (Qar.mk x0.arrive x0.begin depart rest_)))] (Ql2 Γ rv h)
theorem Qgl {p l done rest_} {rv:Qaf×Int} (h:Qe2 p l done rest_=some rv):AFn Tryz.prog 144 [.agg (Qaz.enc p),.agg (Qaf.enc l),.one (lI done),.one (.bool rest_)] [] (.tup [.agg [lI rv.1.ready,lI rv.1.since,.bool rv.1.sheet.rest_,lI rv.1.sheet.depart,lL 4 rv.1.sheet.times Qar.enc,lI rv.1.sheet.end_,lI rv.1.sheet.miles],.one (lI rv.2)]) []:=by
 refine QaM Tryz.func144 (by kernel_rfl) (by kernel_rfl) (fun Γ=>?_)
 unfold Qe2 at h
 rcases Qah h with ⟨h0,h⟩|⟨h0,h⟩
 ·exact gn 11 [2,3,4,5,8,10,11] [0,1,2] [hH (.draw 6 []),bT h0] (Ql1 Γ rv h)
 ·exact gn 9 [2,3,4,5,8,10,11] [0,1,2] [hH (.draw 6 []),bF h0] (Ql1 Γ rv h)
theorem QsJ {l m} {rv:Bool} (h:QlN l m=some rv):AFn Tryz.prog 147 [.agg (Qaf.enc l),.agg (Qaf.enc m)] [] (one (.bool rv)) []:=by
 refine QaM Tryz.func147 (by kernel_rfl) (by kernel_rfl) (fun Γ=>?_)
 unfold QlN at h
 obtain rfl:=Option.some.inj h
 exact gr 4 [] [rp 6 hP,rp 4 (oI ((eqI l.ready m.ready)=true)),oR True ((eqI l.ready m.ready)=true)]
theorem Qm3 {m c} {rv:Bool} (h:QgV m c=some rv):AFn Tryz.prog 146 [.agg (Qaf.enc m),.one (.ip (Qaf.enc c) 0)] [] (one (.bool rv)) []:=by
 refine QaM Tryz.func146 (by kernel_rfl) (by kernel_rfl) (fun Γ=>?_)
 unfold QgV at h
 obtain ⟨r,h0,h⟩:=Qae h
 obtain rfl:=Option.some.inj h
 exact gr 4 [] [cC (QsJ h0)]
def QcX (Γ:Gam) (rv:Int) (cf:Cf):Prop:=Go Tryz.prog Tryz.f171 [] Γ (one (lI rv)) [] cf
def Qcv (Γ:Gam) (rv:Int) (s0:List Qaf) (c:Qaf) (v:Int):Prop:=QcX Γ rv ⟨[.c 52,.l 52,.b 0,.c 7],⟨19,[vL 0 7 s0 Qaf.enc,(1,one (.fn (.func 146) [.ip (Qaf.enc c) 0])),vI 7 (lenI s0),vI 8 v],[]⟩⟩
def Qcp (Γ:Gam) (rv:Int) (s0:List Qaf) (c:Qaf):Prop:=QcX Γ rv ⟨[.c 7],⟨19,[],[]⟩⟩
theorem QeO (Γ:Gam) (rv:Int) {s0 c} {s:Int} {e:(Unit)⊕(Int)} (h:QaT (fun s=>Qax s0 c s) s=some e) (hD:sel e (fun e=>Qcp Γ rv s0 c) (fun e=>e=rv)):Qcv Γ rv s0 c s:=by
 refine QaC (C:=fun (s:Int)=>Qcv Γ rv s0 c s) (D:=fun (e:(Unit)⊕(Int))=>sel e (fun e=>Qcp Γ rv s0 c) (fun e=>e=rv)) ?_ h hD
 clear h hD s e
 intro v z_ h hI hE
 replace h:Qax s0 c v=_:=h
 unfold Qax at h
 rcases Qah h with ⟨h0,h⟩|⟨h0,h⟩
 ·obtain ⟨x0,h1,h⟩:=Qae h
  obtain ⟨r,h2,h⟩:=Qae h
  rcases Qah h with ⟨h3,h⟩|⟨h3,h⟩
  ·obtain rfl:=(hE _ (oJ h):_=rv)
   exact gr 14 [] [bT h0,cE Qaf.enc h1,cC (Qm3 h2),bT h3]
  ·exact gn 16 [0,1,7,8] [] [bT h0,cE Qaf.enc h1,cC (Qm3 h2),bF h3] (hI _ (oJ h))
 ·exact gn 5 [] [] [bF h0] (hE _ (oJ h))
theorem Qfm {s0 c} {rv:Int} (h:Qbg s0 c=some rv):AFn Tryz.prog 171 [.one (lL 7 s0 Qaf.enc),.one (.fn (.func 146) [.ip (Qaf.enc c) 0])] [] (one (lI rv)) []:=by
 refine QaM Tryz.func171 (by kernel_rfl) (by kernel_rfl) (fun Γ=>?_)
 unfold Qbg at h
 obtain ⟨e0,h4,h⟩:=Qae h
 refine gn 7 [0,1,7,8] [] [nL Qaf.enc s0] (QeO Γ rv h4 ?_)
 rcases e0 with e0|e0
 ·replace h:(some (-1):Option Int)=some _:=h
  obtain rfl:=Option.some.inj h
  exact gr 2 [] []
 ·obtain ⟨r1,rfl⟩:∃ x,x=e0:=⟨_,rfl⟩
  replace h:(some r1:Option Int)=some _:=h
  exact Option.some.inj h
theorem Qco {s0 c} {rv:Bool} (h:QaP s0 c=some rv):AFn Tryz.prog 145 [.one (lL 7 s0 Qaf.enc),.one (.fn (.func 146) [.ip (Qaf.enc c) 0])] [] (one (.bool rv)) []:=by
 refine QaM Tryz.func145 (by kernel_rfl) (by kernel_rfl) (fun Γ=>?_)
 unfold QaP at h
 obtain ⟨r,h0,h⟩:=Qae h
 obtain rfl:=Option.some.inj h
 exact gr 4 [] [cC (Qfm h0)]
def QgW (Γ:Gam) (rv:List Qaf) (cf:Cf):Prop:=Go Tryz.prog Tryz.f116 [] Γ (one (lL 7 rv Qaf.enc)) [] cf
def Qm5 (Γ:Gam) (rv:List Qaf) (p:Qaz) (l:List Qaf) (done:Int) (choices:List Bool) (v:Int) (x0:Qaf) (l3:List Qaf) (v1:Int):Prop:=QgW Γ rv ⟨[.c 128204,.l 128204,.b 2,.b 1,.c 4007,.l 500,.b 0,.c 63],⟨64,[vI 2 done,vP 3 0 25,vL 7 1 choices Qbd,vO 8 1 7 l3 Qaf.enc,vP 10 2 7,vL 29 7 l Qaf.enc,vI 30 (lenI l),vI 31 v,vL 35 1 choices Qbd,vI 36 (lenI choices),vI 37 v1],[oX 25 174 (Qaz.enc p),oS 7 178 l3 Qaf.enc,oX 7 178 (Qaf.enc x0)]⟩⟩
def Ql0 (Γ:Gam) (rv:List Qaf) (p:Qaz) (l:List Qaf) (done:Int) (choices:List Bool) (v:Int) (x0:Qaf) (l4:List Qaf):Prop:=QgW Γ rv ⟨[.b 1,.c 4007,.l 500,.b 0,.c 63],⟨64,[vI 2 done,vP 3 0 25,vL 7 1 choices Qbd,vO 8 1 7 l4 Qaf.enc,vL 29 7 l Qaf.enc,vI 30 (lenI l),vI 31 v],[oX 25 174 (Qaz.enc p),oS 7 178 l4 Qaf.enc]⟩⟩
def Qm4 (Γ:Gam) (rv:List Qaf) (p:Qaz) (l:List Qaf) (done:Int) (choices:List Bool) (l2:List Qaf) (v:Int):Prop:=QgW Γ rv ⟨[.c 500,.l 500,.b 0,.c 63],⟨64,[vI 2 done,vP 3 0 25,vL 7 1 choices Qbd,vO 8 1 7 l2 Qaf.enc,vL 29 7 l Qaf.enc,vI 30 (lenI l),vI 31 v],[oX 25 174 (Qaz.enc p),oS 7 178 l2 Qaf.enc]⟩⟩
def QlZ (Γ:Gam) (rv:List Qaf) (p:Qaz) (l:List Qaf) (done:Int) (choices:List Bool) (l5:List Qaf):Prop:=QgW Γ rv ⟨[.c 63],⟨64,[vO 8 0 7 l5 Qaf.enc],[oS 7 178 l5 Qaf.enc]⟩⟩
theorem QrZ (Γ:Gam) (rv:List Qaf) {p l done choices v x0} {s:List Qaf×Int} {e:List Qaf} (h:QaT (fun s=>Qcr p l done choices v x0 s.1 s.2) s=some e) (hD:Ql0 Γ rv p l done choices v x0 e):Qm5 Γ rv p l done choices v x0 s.1 s.2:=by
 refine QaC (C:=fun (s:List Qaf×Int)=>Qm5 Γ rv p l done choices v x0 s.1 s.2) (D:=fun (e:List Qaf)=>Ql0 Γ rv p l done choices v x0 e) ?_ h hD
 clear h hD s e
 rintro ⟨l3,v1⟩ z_ h hI hE
 replace h:Qcr p l done choices v x0 l3 v1=_:=h
 unfold Qcr at h
 rcases Qah h with ⟨h4,h⟩|⟨h4,h⟩
 ·obtain ⟨x1,h5,h⟩:=Qae h
  obtain ⟨r,h6,h⟩:=Qae h
  rcases Qah h with ⟨h7,h⟩|⟨h7,h⟩
  ·obtain ⟨r1,h8,h⟩:=Qae h
   rcases Qah h with ⟨h9,h⟩|⟨h9,h⟩
   ·exact gn 18 [2,3,7,8,10,29,30,31,35,36,37] [0,1,2] [bT h4,cE Qbd h5,cC (Qgl h6),rp 3 (bT h7),eL l3 Qaf.enc,cC (Qco h8),bT h7,bT h7,nF h9] (hI _ (oJ h))
   ·obtain ⟨h10,h⟩:=Qav h
    exact gn 18 [2,3,7,8,10,29,30,31,35,36,37] [0,5,2] [bT h4,cE Qbd h5,cC (Qgl h6),rp 3 (bT h7),eL l3 Qaf.enc,cC (Qco h8),bT h7,bT h7,nT h9,oO (Eq.refl ([r.1].map Qaf.enc).length),aO Qaf.enc h10] (hI _ (oJ h))
  ·exact gn 18 [2,3,7,8,10,29,30,31,35,36,37] [0,1,2] [bT h4,cE Qbd h5,cC (Qgl h6),rp 5 (bF h7),fF] (hI _ (oJ h))
 ·exact gn 5 [2,3,7,8,29,30,31] [0,1] [bF h4] (hE _ (oJ h))
theorem QrY (Γ:Gam) (rv:List Qaf) {p l done choices} {s:List Qaf×Int} {e:List Qaf} (h:QaT (fun s=>Qcq p l done choices s.1 s.2) s=some e) (hD:QlZ Γ rv p l done choices e):Qm4 Γ rv p l done choices s.1 s.2:=by
 refine QaC (C:=fun (s:List Qaf×Int)=>Qm4 Γ rv p l done choices s.1 s.2) (D:=fun (e:List Qaf)=>QlZ Γ rv p l done choices e) ?_ h hD
 clear h hD s e
 rintro ⟨l2,v⟩ z_ h hI hE
 replace h:Qcq p l done choices l2 v=_:=h
 unfold Qcq at h
 rcases Qah h with ⟨h2,h⟩|⟨h2,h⟩
 ·obtain ⟨x0,h3,h⟩:=Qae h
  obtain ⟨e0,h11,h⟩:=Qae h
  refine gn 13 [2,3,7,8,10,29,30,31,35,36,37] [0,1,2] [bT h2,cE Qaf.enc h3,nL Qbd choices] (QrZ Γ rv h11 ?_)
  obtain ⟨l4,rfl⟩:∃ x,x=e0:=⟨_,rfl⟩
  replace h:(some (.inl (l4,(addK .i64 v 1))):Option ((List Qaf×Int)⊕(List Qaf)))=some _:=h
  exact gn 3 [2,3,7,8,29,30,31] [0,1] [] (hI _ (oJ h))
 ·exact gn 5 [8] [1] [bF h2] (hE _ (oJ h))
theorem QlY (Γ:Gam) (rv:List Qaf) {p l done choices} (h:Qe6 p l done choices=some rv):QgW Γ rv ⟨[.c 15],⟨64,[vL 1 7 l Qaf.enc,vI 2 done,vP 3 0 25,vL 7 1 choices Qbd],[oX 25 174 (Qaz.enc p)]⟩⟩:=by
 unfold Qe6 at h
 obtain ⟨e1,h12,h⟩:=Qae h
 refine gn 7 [2,3,7,8,29,30,31] [0,1] [nL Qaf.enc l,hW 3,hH (.adopt 8 7 178)] (QrY Γ rv h12 ?_)
 obtain ⟨l5,rfl⟩:∃ x,x=e1:=⟨_,rfl⟩
 replace h:(some l5:Option (List Qaf))=some _:=h
 obtain rfl:=Option.some.inj h
 exact gr 2 [] [hW 4,hH (.frz 0),rp 3 (eL l5 Qaf.enc)]
theorem QtO {p l done} {rv:List Qaf} (h:Qf6 p l done=some rv):AFn Tryz.prog 116 [.agg (Qaz.enc p),.one (lL 7 l Qaf.enc),.one (lI done)] [] (one (lL 7 rv Qaf.enc)) []:=by
 refine QaM Tryz.func116 (by kernel_rfl) (by kernel_rfl) (fun Γ=>?_)
 unfold Qf6 at h
 rcases Qah h with ⟨h0,h⟩|⟨h0,h⟩
 ·obtain ⟨l1,h1,h⟩:=Qae h
  exact gn 9 [1,2,3,7] [0] [nL Qbd p.r.rests,bT h0,hH (.rows (l1.map Qbd)),oO (sl1 h1),oO (sl2 h1),oO (sl3 Qbd h1),oO (Int.le_refl (addK .i64 done 1)),oO (sl3 Qbd h1),oO (sl6 Qbd h1)] (QlY Γ rv h)
 ·exact gn 9 [1,2,3,7] [0] [nL Qbd p.r.rests,bF h0,hW 1,hH (.frz 1),rp 2 (oO (Eq.refl ([false,true].map Qbd).length))] (QlY Γ rv h)
def QqN (Γ:Gam) (rv:Qap×Int) (cf:Cf):Prop:=Go Tryz.prog Tryz.f117 [] Γ (.tup [.agg [.bool rv.1.rest_,lI rv.1.depart,lL 4 rv.1.times Qar.enc,lI rv.1.end_,lI rv.1.miles],.one (lI rv.2)]) [] cf
def QnZ (Γ:Gam) (rv:Qap×Int) (p:Qaz) (rests:List Bool) (r:Qaf) (rest_:Int) (x0:Qaf) (v:Int):Prop:=QqN Γ rv ⟨[.c 116,.l 116,.b 0,.c 15],⟨36,[vP 2 0 25,vP 4 1 5,vP 6 2 7,vL 13 1 rests Qbd,vI 14 (lenI rests),vI 15 v],[oX 25 174 [lL 1 p.x.net.places QmO,lL 6 p.x.net.arcs Qas.enc,lL 14 p.x.types Qal.enc,lL 16 p.x.orders Qag.enc,lL 2 p.x.apart QaR.enc,lL 2 p.x.before QaR.enc,.str p.t.name,lI p.t.count,lI p.t.from_,lI p.t.to_,lL 1 p.t.cap Qay,lI p.t.skills,lI p.t.profile,lI p.t.open_,lI p.t.close,lI p.t.drive,lI rest_,lI p.t.fixed,lI p.t.perMile,lI p.t.perTick,lI p.r.type_,lI p.r.start,lL 1 p.r.rests Qbd,lL 2 p.r.visits Qaa.enc,lL 4 p.stops Qaw.enc],oX 5 101 [.bool false,lI 0,.nils,lI 0,lI 0],oX 7 178 (Qaf.enc x0)]⟩⟩
def Qm6 (Γ:Gam) (rv:Qap×Int) (p:Qaz) (rests:List Bool) (r:Qaf) (x2:Qaf):Prop:=QqN Γ rv ⟨[.c 15],⟨36,[vP 4 0 5,vP 6 1 7],[oX 5 101 [.bool false,lI 0,.nils,lI 0,lI 0],oX 7 178 (Qaf.enc x2)]⟩⟩
theorem QsK (Γ:Gam) (rv:Qap×Int) {p rests r} {s:Int×Qaf×Int} {e:(Qaf)⊕(Qap×Int)} (h:QaT (fun s=>QfG p rests r s.1 s.2.1 s.2.2) s=some e) (hD:sel e (fun e=>Qm6 Γ rv p rests r e) (fun e=>e=rv)):QnZ Γ rv p rests r s.1 s.2.1 s.2.2:=by
 refine QaC (C:=fun (s:Int×Qaf×Int)=>QnZ Γ rv p rests r s.1 s.2.1 s.2.2) (D:=fun (e:(Qaf)⊕(Qap×Int))=>sel e (fun e=>Qm6 Γ rv p rests r e) (fun e=>e=rv)) ?_ h hD
 clear h hD s e
 rintro ⟨rest_,x0,v⟩ z_ h hI hE
 replace h:QfG p rests r rest_ x0 v=_:=h
 unfold QfG at h
 rcases Qah h with ⟨h1,h⟩|⟨h1,h⟩
 ·obtain ⟨x1,h2,h⟩:=Qae h
  obtain ⟨r1,h3,h⟩:=Qae h
  rcases Qah h with ⟨h4,h⟩|⟨h4,h⟩
  ·obtain rfl:=(hE _ (oJ h):_=rv)
   exact gr 17 [] [bT h1,cE Qbd h2,cC (Qgl h3),bT h4,hW 6,hH (.nilB 1 2 4)]
  ·exact gn 20 [2,4,6,13,14,15] [0,1,2] [bT h1,cE Qbd h2,cC (Qgl h3),bF h4] (hI _ (oJ h))
 ·exact gn 5 [4,6] [1,2] [bF h1] (hE _ (oJ h))
theorem Qux {p rests} {rv:Qap×Int} (h:QgF p rests=some rv):AFn Tryz.prog 117 [.agg (Qaz.enc p),.one (lL 1 rests Qbd)] [] (.tup [.agg [.bool rv.1.rest_,lI rv.1.depart,lL 4 rv.1.times Qar.enc,lI rv.1.end_,lI rv.1.miles],.one (lI rv.2)]) []:=by
 refine QaM Tryz.func117 (by kernel_rfl) (by kernel_rfl) (fun Γ=>?_)
 unfold QgF at h
 obtain ⟨r,h0,h⟩:=Qae h
 obtain ⟨e0,h5,h⟩:=Qae h
 refine gn 9 [2,4,6,13,14,15] [0,1,2] [cC (QnY h0),nL Qbd rests] (QsK Γ rv h5 ?_)
 rcases e0 with e0|e0
 ·obtain ⟨x2,rfl⟩:∃ x,x=e0:=⟨_,rfl⟩
  replace h:(some (x2.sheet,0):Option (Qap×Int))=some _:=h
  obtain rfl:=Option.some.inj h
  exact gr 2 [] []
 ·obtain ⟨r2,rfl⟩:∃ x,x=e0:=⟨_,rfl⟩
  replace h:(some r2:Option (Qap×Int))=some _:=h
  exact Option.some.inj h
def QpD (Γ:Gam) (rv:Qap×Int) (cf:Cf):Prop:=Go Tryz.prog Tryz.f83 [] Γ (.tup [.agg [.bool rv.1.rest_,lI rv.1.depart,lL 4 rv.1.times Qar.enc,lI rv.1.end_,lI rv.1.miles],.one (lI rv.2)]) [] cf
def Qss (Γ:Gam) (rv:Qap×Int) (r:Qad) (r1:Qaz×Bool) (l:List Qaf) (v:Int):Prop:=QpD Γ rv ⟨[.c 1012,.l 1012,.b 0,.c 127],⟨82,[vP 3 0 4,vP 4 1 5,vP 6 2 25,vI 8 (addK .i64 (lenI r.visits) 1),vL 9 7 l Qaf.enc,vI 38 (addK .i64 (lenI r.visits) 1),vI 39 v],[oX 4 34 (Qad.enc r),oX 5 101 [.bool false,lI 0,.nils,lI 0,lI 0],oX 25 174 (Qaz.enc r1.1)]⟩⟩
def QqK (Γ:Gam) (rv:Qap×Int) (r:Qad) (r1:Qaz×Bool) (l1:List Qaf):Prop:=QpD Γ rv ⟨[.c 127],⟨82,[vP 3 0 4,vP 4 1 5,vP 6 2 25,vI 8 (addK .i64 (lenI r.visits) 1),vL 9 7 l1 Qaf.enc],[oX 4 34 (Qad.enc r),oX 5 101 [.bool false,lI 0,.nils,lI 0,lI 0],oX 25 174 (Qaz.enc r1.1)]⟩⟩
def Qst (Γ:Gam) (rv:Qap×Int) (l3:List Qaf) (x2:Qaf) (v1:Int):Prop:=QpD Γ rv ⟨[.c 8180,.l 8180,.b 2,.c 1023],⟨82,[vP 4 0 5,vP 12 1 7,vL 65 7 l3 Qaf.enc,vI 66 (lenI l3),vI 67 v1],[oX 5 101 [.bool false,lI 0,.nils,lI 0,lI 0],oX 7 178 (Qaf.enc x2)]⟩⟩
def QqL (Γ:Gam) (rv:Qap×Int) (l3:List Qaf) (x4:Qaf):Prop:=QpD Γ rv ⟨[.c 1023],⟨82,[vP 4 0 5,vP 12 1 7],[oX 5 101 [.bool false,lI 0,.nils,lI 0,lI 0],oX 7 178 (Qaf.enc x4)]⟩⟩
theorem Qu4 (Γ:Gam) (rv:Qap×Int) {r r1} {s:List Qaf×Int} {e:List Qaf} (h:QaT (fun s=>Qek r r1 s.1 s.2) s=some e) (hD:QqK Γ rv r r1 e):Qss Γ rv r r1 s.1 s.2:=by
 refine QaC (C:=fun (s:List Qaf×Int)=>Qss Γ rv r r1 s.1 s.2) (D:=fun (e:List Qaf)=>QqK Γ rv r r1 e) ?_ h hD
 clear h hD s e
 rintro ⟨l,v⟩ z_ h hI hE
 replace h:Qek r r1 l v=_:=h
 unfold Qek at h
 rcases Qah h with ⟨h3,h⟩|⟨h3,h⟩
 ·obtain ⟨r3,h4,h⟩:=Qae h
  exact gn 13 [3,4,6,8,9,38,39] [0,1,2] [bT h3,cC (QtO h4)] (hI _ (oJ h))
 ·exact gn 5 [3,4,6,8,9] [0,1,2] [bF h3] (hE _ (oJ h))
theorem Qu5 (Γ:Gam) (rv:Qap×Int) {l3} {s:Qaf×Int} {e:Qaf} (h:QaT (fun s=>QdN l3 s.1 s.2) s=some e) (hD:QqL Γ rv l3 e):Qst Γ rv l3 s.1 s.2:=by
 refine QaC (C:=fun (s:Qaf×Int)=>Qst Γ rv l3 s.1 s.2) (D:=fun (e:Qaf)=>QqL Γ rv l3 e) ?_ h hD
 clear h hD s e
 rintro ⟨x2,v1⟩ z_ h hI hE
 replace h:QdN l3 x2 v1=_:=h
 unfold QdN at h
 rcases Qah h with ⟨h11,h⟩|⟨h11,h⟩
 ·obtain ⟨x3,h12,h⟩:=Qae h
  rcases Qah h with ⟨h13,h⟩|⟨h13,h⟩
  ·exact gn 16 [4,12,65,66,67] [0,1] [bT h11,cE Qaf.enc h12,bT h13] (hI _ (oJ h))
  ·exact gn 16 [4,12,65,66,67] [0,1] [bT h11,cE Qaf.enc h12,bF h13] (hI _ (oJ h))
 ·exact gn 5 [4,12] [0,1] [bF h11] (hE _ (oJ h))
theorem Qum {x0 r} {rv:Qap×Int} (h:QoN x0 r=some rv):AFn Tryz.prog 83 [.agg (Qac.enc x0),.agg (Qad.enc r)] [] (.tup [.agg [.bool rv.1.rest_,lI rv.1.depart,lL 4 rv.1.times Qar.enc,lI rv.1.end_,lI rv.1.miles],.one (lI rv.2)]) []:=by
 refine QaM Tryz.func83 (by kernel_rfl) (by kernel_rfl) (fun Γ=>?_)
 unfold QoN at h
 obtain ⟨r1,h0,h⟩:=Qae h
 rcases Qah h with ⟨h1,h⟩|⟨h1,h⟩
 ·obtain rfl:=Option.some.inj h
  exact gr 12 [] [cC (Qun h0),nL Qaa.enc r.visits,hP,hP,hP,rp 2 (oI ((!r1.2)=false)),nL Qbd r.rests,hP,hP,hP,rp 2 (oI ((!r1.2)=false)),oR True ((!r1.2)=false),bT h1,hW 5,hH (.nilB 2 2 4)]
 ·obtain ⟨r2,h2,h⟩:=Qae h
  obtain ⟨e0,h5,h⟩:=Qae h
  refine gn 18 [3,4,6,8,9,38,39] [1,2,3] [cC (Qun h0),nL Qaa.enc r.visits,hP,hP,hP,rp 2 (oI ((!r1.2)=false)),nL Qbd r.rests,hP,hP,hP,rp 2 (oI ((!r1.2)=false)),oR True ((!r1.2)=false),bF h1,cC (QnY h2),hW 9,hH (.frz 4),rp 2 (oO (Eq.refl ([r2].map Qaf.enc).length))] (Qu4 Γ rv h5 ?_)
  obtain ⟨l1,rfl⟩:∃ x,x=e0:=⟨_,rfl⟩
  replace h:(br (eqI (lenI l1) 0) (bnd (mkI (addK .i64 (lenI r.visits) 1) (addK .i64 (lenI r.visits) 1) 1 false) fun l2=>bnd (QgF r1.1 (cpyL l2 r.rests)) fun r4=>some (r4.1,r4.2)) (bnd (getI l1 0) fun x1=>bnd (slcI l1 1 (lenI l1)) fun l3=>bnd (QaT (fun s=>QdN l3 s.1 s.2) (x1,0)) (fun x4=>some (x4.sheet,0))):Option (Qap×Int))=some _:=h
  rcases Qah h with ⟨h6,h⟩|⟨h6,h⟩
  ·obtain ⟨l2,h7,h⟩:=Qae h
   obtain ⟨r4,h8,h⟩:=Qae h
   obtain rfl:=Option.some.inj h
   exact gr 10 [] [nL Qaf.enc l1,bT h6,hH (.cells [.bool false]),hH (.rows (l2.map Qbd)),oO (mk1 h7),oO (mk2 h7),oO (mk3 h7),oO (mk4 h7),oO (mk5 Qbd h7),cY Qbd l2 r.rests,hH (.relen 3 ((cpyL l2 r.rests).map Qbd).length),hW 4,hH (.frz 3),rp 3 (oO (QGe Qbd l2 r.rests)),rp 4 (oO (Eq.refl ((cpyL l2 r.rests).map Qbd).length)),cC (Qux h8)]
  ·obtain ⟨x1,h9,h⟩:=Qae h
   obtain ⟨l3,h10,h⟩:=Qae h
   obtain ⟨e1,h14,h⟩:=Qae h
   refine gn 12 [4,12,65,66,67] [1,3] [nL Qaf.enc l1,bF h6,cE Qaf.enc h9,hH (.rows (l3.map Qaf.enc)),oO (sl1 h10),oO (sl2h Qaf.enc h10),rp 3 (oO (Int.le_refl ((l1.map Qaf.enc).length:Int))),oO (sl6h Qaf.enc h10),nL Qaf.enc l3] (Qu5 Γ rv h14 ?_)
   obtain ⟨x4,rfl⟩:∃ x,x=e1:=⟨_,rfl⟩
   replace h:(some (x4.sheet,0):Option (Qap×Int))=some _:=h
   obtain rfl:=Option.some.inj h
   exact gr 2 [] []
theorem QjL {kind own} {rv:Bool} (h:QlH kind own=some rv):AFn Tryz.prog 118 [.one (lI kind),.one (lI own)] [] (one (.bool rv)) []:=by
 refine QaM Tryz.func118 (by kernel_rfl) (by kernel_rfl) (fun Γ=>?_)
 unfold QlH at h
 obtain rfl:=Option.some.inj h
 exact gr 4 [] [rp 4 hP,rp 2 (oI ((neI kind (-1))=true)),oR True ((neI kind (-1))=true)]
def Qrx (Γ:Gam) (rv:Qau) (cf:Cf):Prop:=Go Tryz.prog Tryz.f84 [] Γ (gG [lI rv.cost,lI rv.moved,lI rv.other,lI rv.work]) [] cf
def QnF (Γ:Gam) (rv:Qau) (x0:Qac) (r:Qad) (s0:Qap) (x1:Qal) (l:List (Int×Int)) (moved:Int) (other:Int) (v:Int):Prop:=Qrx Γ rv ⟨[.c 4084,.l 4084,.b 0,.c 511],⟨114,[vP 3 0 6,vP 4 1 4,vP 6 2 4,vP 10 3 4,(11,one (.mp 4)),vL 59 2 r.visits Qaa.enc,vI 60 (lenI r.visits),vI 61 v],[oX 6 30 (Qac.enc x0),oX 4 34 (Qad.enc r),oX 4 93 [lI 0,lI 0,lI 0,lI 0],oX 4 93 [lI (addK .i64 (addK .i64 x1.fixed (mulK .i64 x1.perMile s0.miles)) (mulK .i64 x1.perTick (subK .i64 s0.end_ x1.open_))),lI moved,lI other,lI (mulK .i64 (quoK .i64 (subK .i64 s0.end_ x1.open_) 64) (quoK .i64 (subK .i64 s0.end_ x1.open_) 64))],oM 183 l (mE kI lI)]⟩⟩
def QlS (Γ:Gam) (rv:Qau) (x0:Qac) (r:Qad) (s0:Qap) (x1:Qal) (moved2:Int) (other1:Int):Prop:=Qrx Γ rv ⟨[.c 511],⟨114,[vP 6 0 4,vP 10 1 4],[oX 4 93 [lI 0,lI 0,lI 0,lI 0],oX 4 93 [lI (addK .i64 (addK .i64 x1.fixed (mulK .i64 x1.perMile s0.miles)) (mulK .i64 x1.perTick (subK .i64 s0.end_ x1.open_))),lI moved2,lI other1,lI (mulK .i64 (quoK .i64 (subK .i64 s0.end_ x1.open_) 64) (quoK .i64 (subK .i64 s0.end_ x1.open_) 64))]]⟩⟩
theorem Qqe (Γ:Gam) (rv:Qau) {x0 r s0 x1 l other v x2 x3 moved1} {x:(List (Int×Int)×Int×Int×Int)⊕(Int×Int)} (h:QjJ x0 r s0 x1 l other v x2 x3 moved1=some x) (hI:∀ s:List (Int×Int)×Int×Int×Int,x=.inl s→QnF Γ rv x0 r s0 x1 s.1 s.2.1 s.2.2.1 s.2.2.2) (hE:∀ e:Int×Int,x=.inr e→QlS Γ rv x0 r s0 x1 e.1 e.2):Qrx Γ rv ⟨[.c 2091423,.b 1,.c 32679,.l 4084,.b 0,.c 511],⟨114,[vP 3 0 6,vP 4 1 4,vP 6 2 4,vP 10 3 4,(11,one (.mp 4)),vP 14 5 16,vL 59 2 r.visits Qaa.enc,vI 60 (lenI r.visits),vI 61 v],[oX 6 30 (Qac.enc x0),oX 4 34 (Qad.enc r),oX 4 93 [lI 0,lI 0,lI 0,lI 0],oX 4 93 [lI (addK .i64 (addK .i64 x1.fixed (mulK .i64 x1.perMile s0.miles)) (mulK .i64 x1.perTick (subK .i64 s0.end_ x1.open_))),lI moved1,lI other,lI (mulK .i64 (quoK .i64 (subK .i64 s0.end_ x1.open_) 64) (quoK .i64 (subK .i64 s0.end_ x1.open_) 64))],oM 183 (mPut eqI l x2.order (addK .i64 (mGet eqI l x2.order 0) 1)) (mE kI lI),oX 16 74 (Qag.enc x3)]⟩⟩:=by
 unfold QjJ at h
 obtain ⟨r2,h9,h⟩:=Qae h
 rcases Qah h with ⟨h10,h⟩|⟨h10,h⟩
 ·exact gn 7 [3,4,6,10,11,59,60,61] [0,1,2,3,4] [cC (QjL h9),bT h10] (hI _ (oJ h))
 ·exact gn 7 [3,4,6,10,11,59,60,61] [0,1,2,3,4] [cC (QjL h9),bF h10] (hI _ (oJ h))
theorem QuH (Γ:Gam) (rv:Qau) {x0 r s0 x1} {s:List (Int×Int)×Int×Int×Int} {e:Int×Int} (h:QaT (fun s=>Qeh x0 r s0 x1 s.1 s.2.1 s.2.2.1 s.2.2.2) s=some e) (hD:QlS Γ rv x0 r s0 x1 e.1 e.2):QnF Γ rv x0 r s0 x1 s.1 s.2.1 s.2.2.1 s.2.2.2:=by
 refine QaC (C:=fun (s:List (Int×Int)×Int×Int×Int)=>QnF Γ rv x0 r s0 x1 s.1 s.2.1 s.2.2.1 s.2.2.2) (D:=fun (e:Int×Int)=>QlS Γ rv x0 r s0 x1 e.1 e.2) ?_ h hD
 clear h hD s e
 rintro ⟨l,moved,other,v⟩ z_ h hI hE
 replace h:Qeh x0 r s0 x1 l moved other v=_:=h
 unfold Qeh at h
 rcases Qah h with ⟨h2,h⟩|⟨h2,h⟩
 ·obtain ⟨x2,h3,h⟩:=Qae h
  rcases Qah h with ⟨h4,h⟩|⟨h4,h⟩
  ·exact gn 18 [3,4,6,10,11,59,60,61] [0,1,2,3,4] [bT h2,cE Qaa.enc h3,mG kqI lI l x2.order 0,mU kqI lI l x2.order (addK .i64 (mGet eqI l x2.order 0) 1),rp 5 hP,rp 3 (oI ((ltI x2.order 0)=false)),nL Qag.enc x0.orders,hP,hP,rp 2 (oI ((ltI x2.order 0)=false)),oR True ((ltI x2.order 0)=false),rp 6 (bT h4),tT] (hI _ (oJ h))
  ·rcases Qah h with ⟨h5,h⟩|⟨h5,h⟩
   ·exact gn 18 [3,4,6,10,11,59,60,61] [0,1,2,3,4] [bT h2,cE Qaa.enc h3,mG kqI lI l x2.order 0,mU kqI lI l x2.order (addK .i64 (mGet eqI l x2.order 0) 1),rp 5 hP,rp 3 (oI ((ltI x2.order 0)=false)),nL Qag.enc x0.orders,hP,hP,rp 2 (oI ((ltI x2.order 0)=false)),oR True ((ltI x2.order 0)=false),rp 4 (bF h4),mG kqI lI (mPut eqI l x2.order (addK .i64 (mGet eqI l x2.order 0) 1)) x2.order 0,bF h4,bF h4,bT h5] (hI _ (oJ h))
   ·obtain ⟨x3,h6,h⟩:=Qae h
    obtain ⟨r1,h7,h⟩:=Qae h
    rcases Qah h with ⟨h8,h⟩|⟨h8,h⟩
    ·exact gn 23 [3,4,6,10,11,14,59,60,61] [0,1,2,3,4,6] [bT h2,cE Qaa.enc h3,mG kqI lI l x2.order 0,mU kqI lI l x2.order (addK .i64 (mGet eqI l x2.order 0) 1),rp 5 hP,rp 3 (oI ((ltI x2.order 0)=false)),nL Qag.enc x0.orders,hP,hP,rp 2 (oI ((ltI x2.order 0)=false)),oR True ((ltI x2.order 0)=false),rp 4 (bF h4),mG kqI lI (mPut eqI l x2.order (addK .i64 (mGet eqI l x2.order 0) 1)) x2.order 0,bF h4,bF h4,bF h5,cE Qag.enc h6,cC (QjL h7),bT h8] (Qqe Γ rv h hI hE)
    ·exact gn 23 [3,4,6,10,11,14,59,60,61] [0,1,2,3,4,6] [bT h2,cE Qaa.enc h3,mG kqI lI l x2.order 0,mU kqI lI l x2.order (addK .i64 (mGet eqI l x2.order 0) 1),rp 5 hP,rp 3 (oI ((ltI x2.order 0)=false)),nL Qag.enc x0.orders,hP,hP,rp 2 (oI ((ltI x2.order 0)=false)),oR True ((ltI x2.order 0)=false),rp 4 (bF h4),mG kqI lI (mPut eqI l x2.order (addK .i64 (mGet eqI l x2.order 0) 1)) x2.order 0,bF h4,bF h4,bF h5,cE Qag.enc h6,cC (QjL h7),bF h8] (Qqe Γ rv h hI hE)
 ·exact gn 5 [6,10] [2,3] [bF h2] (hE _ (oJ h))
theorem QwP {x0 r s0} {rv:Qau} (h:Qpq x0 r s0=some rv):AFn Tryz.prog 84 [.agg (Qac.enc x0),.agg (Qad.enc r),.agg (Qap.enc s0)] [] (gG [lI rv.cost,lI rv.moved,lI rv.other,lI rv.work]) []:=by
 refine QaM Tryz.func84 (by kernel_rfl) (by kernel_rfl) (fun Γ=>?_)
 unfold Qpq at h
 rcases Qah h with ⟨h0,h⟩|⟨h0,h⟩
 ·obtain rfl:=Option.some.inj h
  exact gr 8 [] [rp 5 hP,rp 3 (oI ((ltI r.type_ 0)=false)),nL Qal.enc x0.types,hP,hP,rp 2 (oI ((ltI r.type_ 0)=false)),oR True ((ltI r.type_ 0)=false),bT h0]
 ·obtain ⟨x1,h1,h⟩:=Qae h
  obtain ⟨e0,h11,h⟩:=Qae h
  refine gn 22 [3,4,6,10,11,59,60,61] [0,1,3,5,6] [rp 5 hP,rp 3 (oI ((ltI r.type_ 0)=false)),nL Qal.enc x0.types,hP,hP,rp 2 (oI ((ltI r.type_ 0)=false)),oR True ((ltI r.type_ 0)=false),bF h0,cE Qal.enc h1,oO (oA (n:=64)),nL Qaa.enc r.visits] (QuH Γ rv h11 ?_)
  obtain ⟨moved2,other1⟩:=e0
  replace h:(some (Qau.mk (addK .i64 (addK .i64 x1.fixed (mulK .i64 x1.perMile s0.miles)) (mulK .i64 x1.perTick (subK .i64 s0.end_ x1.open_))) moved2 other1 (mulK .i64 (quoK .i64 (subK .i64 s0.end_ x1.open_) 64) (quoK .i64 (subK .i64 s0.end_ x1.open_) 64))):Option Qau)=some _:=h
  obtain rfl:=Option.some.inj h
  exact gr 2 [] []
theorem Qqg {x0 r} {rv:Qap×Qau×Int} (h:QgQ x0 r=some rv):AFn Tryz.prog 48 [.agg (Qac.enc x0),.agg (Qad.enc r)] [] (.tup [.agg [.bool rv.1.rest_,lI rv.1.depart,lL 4 rv.1.times Qar.enc,lI rv.1.end_,lI rv.1.miles],.agg [lI rv.2.1.cost,lI rv.2.1.moved,lI rv.2.1.other,lI rv.2.1.work],.one (lI rv.2.2)]) []:=by
 refine QaM Tryz.func48 (by kernel_rfl) (by kernel_rfl) (fun Γ=>?_)
 unfold QgQ at h
 rcases Qah h with ⟨h0,h⟩|⟨h0,h⟩
 ·obtain rfl:=Option.some.inj h
  exact gr 8 [] [rp 5 hP,rp 3 (oI ((ltI r.type_ 0)=false)),nL Qal.enc x0.types,hP,hP,rp 2 (oI ((ltI r.type_ 0)=false)),oR True ((ltI r.type_ 0)=false),bT h0,hW 7,hH (.nilB 2 2 4)]
 ·obtain ⟨r1,h1,h⟩:=Qae h
  rcases Qah h with ⟨h2,h⟩|⟨h2,h⟩
  ·obtain rfl:=Option.some.inj h
   exact gr 28 [] [rp 5 hP,rp 3 (oI ((ltI r.type_ 0)=false)),nL Qal.enc x0.types,hP,hP,rp 2 (oI ((ltI r.type_ 0)=false)),oR True ((ltI r.type_ 0)=false),bF h0,nL e_fn [80,81,82],tT,oO (QtK (rfl:getI ([80,81,82]:List Nat) 0=some 80)),oO (QtJ e_fn (rfl:getI ([80,81,82]:List Nat) 0=some 80)),rE e_fn (rfl:getI ([80,81,82]:List Nat) 0=some 80),cC (QdR h1),bT h2,hW 8,hH (.nilB 2 2 4)]
  ·obtain ⟨r2,h3,h⟩:=Qae h
   rcases Qah h with ⟨h4,h⟩|⟨h4,h⟩
   ·obtain rfl:=Option.some.inj h
    exact gr 46 [] [rp 5 hP,rp 3 (oI ((ltI r.type_ 0)=false)),nL Qal.enc x0.types,hP,hP,rp 2 (oI ((ltI r.type_ 0)=false)),oR True ((ltI r.type_ 0)=false),bF h0,nL e_fn [80,81,82],tT,oO (QtK (rfl:getI ([80,81,82]:List Nat) 0=some 80)),oO (QtJ e_fn (rfl:getI ([80,81,82]:List Nat) 0=some 80)),rE e_fn (rfl:getI ([80,81,82]:List Nat) 0=some 80),cC (QdR h1),bF h2,tT,oO (QtK (rfl:getI ([80,81,82]:List Nat) 1=some 81)),oO (QtJ e_fn (rfl:getI ([80,81,82]:List Nat) 1=some 81)),rE e_fn (rfl:getI ([80,81,82]:List Nat) 1=some 81),cC (Qoo h3),bT h4,hW 8,hH (.nilB 2 2 4)]
   ·obtain ⟨r3,h5,h⟩:=Qae h
    rcases Qah h with ⟨h6,h⟩|⟨h6,h⟩
    ·obtain rfl:=Option.some.inj h
     exact gr 64 [] [rp 5 hP,rp 3 (oI ((ltI r.type_ 0)=false)),nL Qal.enc x0.types,hP,hP,rp 2 (oI ((ltI r.type_ 0)=false)),oR True ((ltI r.type_ 0)=false),bF h0,nL e_fn [80,81,82],tT,oO (QtK (rfl:getI ([80,81,82]:List Nat) 0=some 80)),oO (QtJ e_fn (rfl:getI ([80,81,82]:List Nat) 0=some 80)),rE e_fn (rfl:getI ([80,81,82]:List Nat) 0=some 80),cC (QdR h1),bF h2,tT,oO (QtK (rfl:getI ([80,81,82]:List Nat) 1=some 81)),oO (QtJ e_fn (rfl:getI ([80,81,82]:List Nat) 1=some 81)),rE e_fn (rfl:getI ([80,81,82]:List Nat) 1=some 81),cC (Qoo h3),bF h4,tT,oO (QtK (rfl:getI ([80,81,82]:List Nat) 2=some 82)),oO (QtJ e_fn (rfl:getI ([80,81,82]:List Nat) 2=some 82)),rE e_fn (rfl:getI ([80,81,82]:List Nat) 2=some 82),cC (QqG h5),bT h6,hW 8,hH (.nilB 2 2 4)]
    ·obtain ⟨r4,h7,h⟩:=Qae h
     rcases Qah h with ⟨h8,h⟩|⟨h8,h⟩
     ·obtain rfl:=Option.some.inj h
      exact gr 79 [] [rp 5 hP,rp 3 (oI ((ltI r.type_ 0)=false)),nL Qal.enc x0.types,hP,hP,rp 2 (oI ((ltI r.type_ 0)=false)),oR True ((ltI r.type_ 0)=false),bF h0,nL e_fn [80,81,82],tT,oO (QtK (rfl:getI ([80,81,82]:List Nat) 0=some 80)),oO (QtJ e_fn (rfl:getI ([80,81,82]:List Nat) 0=some 80)),rE e_fn (rfl:getI ([80,81,82]:List Nat) 0=some 80),cC (QdR h1),bF h2,tT,oO (QtK (rfl:getI ([80,81,82]:List Nat) 1=some 81)),oO (QtJ e_fn (rfl:getI ([80,81,82]:List Nat) 1=some 81)),rE e_fn (rfl:getI ([80,81,82]:List Nat) 1=some 81),cC (Qoo h3),bF h4,tT,oO (QtK (rfl:getI ([80,81,82]:List Nat) 2=some 82)),oO (QtJ e_fn (rfl:getI ([80,81,82]:List Nat) 2=some 82)),rE e_fn (rfl:getI ([80,81,82]:List Nat) 2=some 82),cC (QqG h5),bF h6,fF,cC (Qum h7),bT h8,hW 8,hH (.nilB 2 2 4)]
     ·obtain ⟨r5,h9,h⟩:=Qae h
      obtain rfl:=Option.some.inj h
      exact gr 80 [] [rp 5 hP,rp 3 (oI ((ltI r.type_ 0)=false)),nL Qal.enc x0.types,hP,hP,rp 2 (oI ((ltI r.type_ 0)=false)),oR True ((ltI r.type_ 0)=false),bF h0,nL e_fn [80,81,82],tT,oO (QtK (rfl:getI ([80,81,82]:List Nat) 0=some 80)),oO (QtJ e_fn (rfl:getI ([80,81,82]:List Nat) 0=some 80)),rE e_fn (rfl:getI ([80,81,82]:List Nat) 0=some 80),cC (QdR h1),bF h2,tT,oO (QtK (rfl:getI ([80,81,82]:List Nat) 1=some 81)),oO (QtJ e_fn (rfl:getI ([80,81,82]:List Nat) 1=some 81)),rE e_fn (rfl:getI ([80,81,82]:List Nat) 1=some 81),cC (Qoo h3),bF h4,tT,oO (QtK (rfl:getI ([80,81,82]:List Nat) 2=some 82)),oO (QtJ e_fn (rfl:getI ([80,81,82]:List Nat) 2=some 82)),rE e_fn (rfl:getI ([80,81,82]:List Nat) 2=some 82),cC (QqG h5),bF h6,fF,cC (Qum h7),bF h8,hH (.draw 5 []),cC (QwP h9)]
theorem Qid {s0} {rv:QzJ} (h:Qpr s0=some rv):AFn Tryz.prog 85 [.agg (Qau.enc s0)] [] (gG [lI rv.x0,lI rv.x1,lI rv.x2,lI rv.x3]) []:=by
 refine QaM Tryz.func85 (by kernel_rfl) (by kernel_rfl) (fun Γ=>?_)
 unfold Qpr at h
 obtain rfl:=Option.some.inj h
 exact gr 4 [] []
theorem QsC {s0} {rv:Int×Int} (h:Qge s0=some rv):AFn Tryz.prog 49 [.agg (Qau.enc s0)] [] (.tup [.one (lI rv.1),.one (lI rv.2)]) []:=by
 refine QaM Tryz.func49 (by kernel_rfl) (by kernel_rfl) (fun Γ=>?_)
 unfold Qge at h
 obtain ⟨r,h0,h⟩:=Qae h
 rcases Qah h with ⟨h1,h⟩|⟨h1,h⟩
 ·obtain rfl:=Option.some.inj h
  exact gr 23 [] [cC (Qid h0),tT,oO (zL 0),oO (lT 0 4),bT h1]
 ·rcases Qah h with ⟨h2,h⟩|⟨h2,h⟩
  ·obtain rfl:=Option.some.inj h
   exact gr 39 [] [cC (Qid h0),tT,oO (zL 0),oO (lT 0 4),bF h1,tT,oO (zL 1),oO (lT 1 4),bT h2]
  ·rcases Qah h with ⟨h3,h⟩|⟨h3,h⟩
   ·obtain rfl:=Option.some.inj h
    exact gr 55 [] [cC (Qid h0),tT,oO (zL 0),oO (lT 0 4),bF h1,tT,oO (zL 1),oO (lT 1 4),bF h2,tT,oO (zL 2),oO (lT 2 4),bT h3]
   ·rcases Qah h with ⟨h4,h⟩|⟨h4,h⟩
    ·obtain rfl:=Option.some.inj h
     exact gr 71 [] [cC (Qid h0),tT,oO (zL 0),oO (lT 0 4),bF h1,tT,oO (zL 1),oO (lT 1 4),bF h2,tT,oO (zL 2),oO (lT 2 4),bF h3,tT,oO (zL 3),oO (lT 3 4),bT h4]
    ·rcases Qah h with ⟨h5,h⟩|⟨h5,h⟩
     ·obtain rfl:=Option.some.inj h
      exact gr 84 [] [cC (Qid h0),tT,oO (zL 0),oO (lT 0 4),bF h1,tT,oO (zL 1),oO (lT 1 4),bF h2,tT,oO (zL 2),oO (lT 2 4),bF h3,tT,oO (zL 3),oO (lT 3 4),bF h4,fF,rp 12 hP,rp 2 (oI ((gtI s0.cost 1073741824)=false)),oR True ((gtI s0.cost 1073741824)=false),rp 2 (oI (((gtI s0.cost 1073741824)||(geI s0.moved 16))=false)),oR True (((gtI s0.cost 1073741824)||(geI s0.moved 16))=false),rp 2 (oI ((((gtI s0.cost 1073741824)||(geI s0.moved 16))||(geI s0.other 16))=false)),oR True ((((gtI s0.cost 1073741824)||(geI s0.moved 16))||(geI s0.other 16))=false),bT h5]
     ·obtain rfl:=Option.some.inj h
      exact gr 85 [] [cC (Qid h0),tT,oO (zL 0),oO (lT 0 4),bF h1,tT,oO (zL 1),oO (lT 1 4),bF h2,tT,oO (zL 2),oO (lT 2 4),bF h3,tT,oO (zL 3),oO (lT 3 4),bF h4,fF,rp 12 hP,rp 2 (oI ((gtI s0.cost 1073741824)=false)),oR True ((gtI s0.cost 1073741824)=false),rp 2 (oI (((gtI s0.cost 1073741824)||(geI s0.moved 16))=false)),oR True (((gtI s0.cost 1073741824)||(geI s0.moved 16))=false),rp 2 (oI ((((gtI s0.cost 1073741824)||(geI s0.moved 16))||(geI s0.other 16))=false)),oR True ((((gtI s0.cost 1073741824)||(geI s0.moved 16))||(geI s0.other 16))=false),bF h5]
theorem QgR {x0 r} {rv:Int×Int} (h:Qhf x0 r=some rv):AFn Tryz.prog 17 [.agg (Qac.enc x0),.agg (Qad.enc r)] [] (.tup [.one (lI rv.1),.one (lI rv.2)]) []:=by
 refine QaM Tryz.func17 (by kernel_rfl) (by kernel_rfl) (fun Γ=>?_)
 unfold Qhf at h
 obtain ⟨r1,h0,h⟩:=Qae h
 rcases Qah h with ⟨h1,h⟩|⟨h1,h⟩
 ·obtain rfl:=Option.some.inj h
  exact gr 10 [] [cC (Qqg h0),bT h1]
 ·obtain ⟨r2,h2,h⟩:=Qae h
  obtain rfl:=Option.some.inj h
  exact gr 11 [] [cC (Qqg h0),bF h1,cC (QsC h2)]
theorem Qm9 {x0 order} {rv:Int} (h:QkE x0 order=some rv):AFn Tryz.prog 25 [.agg (Qac.enc x0),.one (lI order)] [] (one (lI rv)) []:=by
 refine QaM Tryz.func25 (by kernel_rfl) (by kernel_rfl) (fun Γ=>?_)
 unfold QkE at h
 rcases Qah h with ⟨h0,h⟩|⟨h0,h⟩
 ·obtain rfl:=Option.some.inj h
  exact gr 9 [] [rp 4 hP,rp 2 (oI ((ltI order 0)=false)),nL Qag.enc x0.orders,hP,hP,rp 2 (oI ((ltI order 0)=false)),oR True ((ltI order 0)=false),bT h0]
 ·obtain ⟨x1,h1,h⟩:=Qae h
  rcases Qah h with ⟨h2,h⟩|⟨h2,h⟩
  ·obtain rfl:=Option.some.inj h
   exact gr 12 [] [rp 4 hP,rp 2 (oI ((ltI order 0)=false)),nL Qag.enc x0.orders,hP,hP,rp 2 (oI ((ltI order 0)=false)),oR True ((ltI order 0)=false),bF h0,cE Qag.enc h1,bT h2]
  ·obtain rfl:=Option.some.inj h
   exact gr 14 [] [rp 4 hP,rp 2 (oI ((ltI order 0)=false)),nL Qag.enc x0.orders,hP,hP,rp 2 (oI ((ltI order 0)=false)),oR True ((ltI order 0)=false),bF h0,cE Qag.enc h1,bF h2]
theorem QoW {v c} {rv:Bool} (h:QkC v c=some rv):AFn Tryz.prog 64 [.agg (Qaa.enc v),.one (.ip [lI c] 0)] [] (one (.bool rv)) []:=by
 refine QaM Tryz.func64 (by kernel_rfl) (by kernel_rfl) (fun Γ=>?_)
 unfold QkC at h
 obtain rfl:=Option.some.inj h
 exact gr 4 [] []
def Qdd (Γ:Gam) (rv:Int) (cf:Cf):Prop:=Go Tryz.prog Tryz.f94 [] Γ (one (lI rv)) [] cf
def QcP (Γ:Gam) (rv:Int) (s0:List Qaa) (c:Int) (v:Int):Prop:=Qdd Γ rv ⟨[.c 52,.l 52,.b 0,.c 7],⟨19,[vL 0 2 s0 Qaa.enc,(1,one (.fn (.func 64) [.ip [lI c] 0])),vI 7 (lenI s0),vI 8 v],[]⟩⟩
def QcI (Γ:Gam) (rv:Int) (s0:List Qaa) (c:Int):Prop:=Qdd Γ rv ⟨[.c 7],⟨19,[],[]⟩⟩
theorem Qe1 (Γ:Gam) (rv:Int) {s0 c} {s:Int} {e:(Unit)⊕(Int)} (h:QaT (fun s=>QaV s0 c s) s=some e) (hD:sel e (fun e=>QcI Γ rv s0 c) (fun e=>e=rv)):QcP Γ rv s0 c s:=by
 refine QaC (C:=fun (s:Int)=>QcP Γ rv s0 c s) (D:=fun (e:(Unit)⊕(Int))=>sel e (fun e=>QcI Γ rv s0 c) (fun e=>e=rv)) ?_ h hD
 clear h hD s e
 intro v z_ h hI hE
 replace h:QaV s0 c v=_:=h
 unfold QaV at h
 rcases Qah h with ⟨h0,h⟩|⟨h0,h⟩
 ·obtain ⟨x0,h1,h⟩:=Qae h
  obtain ⟨r,h2,h⟩:=Qae h
  rcases Qah h with ⟨h3,h⟩|⟨h3,h⟩
  ·obtain rfl:=(hE _ (oJ h):_=rv)
   exact gr 14 [] [bT h0,cE Qaa.enc h1,cC (QoW h2),bT h3]
  ·exact gn 16 [0,1,7,8] [] [bT h0,cE Qaa.enc h1,cC (QoW h2),bF h3] (hI _ (oJ h))
 ·exact gn 5 [] [] [bF h0] (hE _ (oJ h))
theorem QfC {s0 c} {rv:Int} (h:Qbo s0 c=some rv):AFn Tryz.prog 94 [.one (lL 2 s0 Qaa.enc),.one (.fn (.func 64) [.ip [lI c] 0])] [] (one (lI rv)) []:=by
 refine QaM Tryz.func94 (by kernel_rfl) (by kernel_rfl) (fun Γ=>?_)
 unfold Qbo at h
 obtain ⟨e0,h4,h⟩:=Qae h
 refine gn 7 [0,1,7,8] [] [nL Qaa.enc s0] (Qe1 Γ rv h4 ?_)
 rcases e0 with e0|e0
 ·replace h:(some (-1):Option Int)=some _:=h
  obtain rfl:=Option.some.inj h
  exact gr 2 [] []
 ·obtain ⟨r1,rfl⟩:∃ x,x=e0:=⟨_,rfl⟩
  replace h:(some r1:Option Int)=some _:=h
  exact Option.some.inj h
theorem QeY {s0 c} {rv:Bool} (h:Qbe s0 c=some rv):AFn Tryz.prog 63 [.one (lL 2 s0 Qaa.enc),.one (.fn (.func 64) [.ip [lI c] 0])] [] (one (.bool rv)) []:=by
 refine QaM Tryz.func63 (by kernel_rfl) (by kernel_rfl) (fun Γ=>?_)
 unfold Qbe at h
 obtain ⟨r,h0,h⟩:=Qae h
 obtain rfl:=Option.some.inj h
 exact gr 4 [] [cC (QfC h0)]
theorem Qnb {r order} {rv:Bool} (h:Qi5 r order=some rv):AFn Tryz.prog 26 [.agg (Qad.enc r),.one (lI order)] [] (one (.bool rv)) []:=by
 refine QaM Tryz.func26 (by kernel_rfl) (by kernel_rfl) (fun Γ=>?_)
 unfold Qi5 at h
 obtain ⟨r1,h0,h⟩:=Qae h
 obtain rfl:=Option.some.inj h
 exact gr 4 [] [cC (QeY h0)]
theorem Qhk {s0} {rv:List Qaa} (h:Qbu s0=some rv):AFn Tryz.prog 66 [.one (lL 2 s0 Qaa.enc)] [] (one (lO 0 2 rv Qaa.enc)) [oS 2 52 rv Qaa.enc]:=by
 refine QaM Tryz.func66 (by kernel_rfl) (by kernel_rfl) (fun Γ=>?_)
 unfold Qbu at h
 rcases Qah h with ⟨h0,h⟩|⟨h0,h⟩
 ·obtain ⟨hx,h⟩:=QxU h
  refine gn 5 [0,4] [] [hH (.skip)] (cf':=⟨[.c 13,.c 7],⟨8,[vL 0 2 s0 Qaa.enc,(4,.boo)],[]⟩⟩) (go_amb 4 rfl ?_ ?_)
  ·replace h:=hx
   obtain rfl:=Option.some.inj h
   exact gr 3 [0] [tT,hW 3,hH (.adopt 2 2 52)]
  ·obtain ⟨h1,h⟩:=Qav h
   obtain rfl:=Option.some.inj h
   exact gr 4 [0] [fF,aZ Qaa.enc h1]
 ·obtain ⟨h2,h⟩:=Qav h
  obtain rfl:=Option.some.inj h
  exact gr 9 [0] [oO (neE Qaa.enc h0),fF,hH (.bit false),aZ Qaa.enc h2]
def Qsw (Γ:Gam) (rv:List (List Qaa)) (cf:Cf):Prop:=Go Tryz.prog Tryz.f27 [] Γ (one (lL 1 rv es_T_api_Visit.enc)) [] cf
def QoU (Γ:Gam) (rv:List (List Qaa)) (self:(List Qaa)→(List Qaa)→Int→Option (List (List Qaa))) (l:List Qaa) (more:List Qaa) (l1:List (List Qaa)) (at_:Int):Prop:=Qsw Γ rv ⟨[.c 244,.l 244,.b 0,.c 31],⟨37,[vL 0 2 l Qaa.enc,vL 1 2 more Qaa.enc,vO 7 0 1 l1 es_T_api_Visit.enc,vI 8 at_],[oS 1 32 l1 es_T_api_Visit.enc]⟩⟩
def Qn5 (Γ:Gam) (rv:List (List Qaa)) (self:(List Qaa)→(List Qaa)→Int→Option (List (List Qaa))) (l:List Qaa) (more:List Qaa) (l3:List (List Qaa)):Prop:=Qsw Γ rv ⟨[.c 31],⟨37,[vO 7 0 1 l3 es_T_api_Visit.enc],[oS 1 32 l3 es_T_api_Visit.enc]⟩⟩
theorem Qtg (Γ:Gam) (rv:List (List Qaa)) {self:(List Qaa)→(List Qaa)→Int→Option (List (List Qaa))} (hself:∀ {l:List Qaa} {more:List Qaa} {from_:Int} {rv:List (List Qaa)},self l more from_=some rv→AFn Tryz.prog 27 [.one (lL 2 l Qaa.enc),.one (lL 2 more Qaa.enc),.one (lI from_)] [] (one (lL 1 rv es_T_api_Visit.enc)) []) {l more} {s:List (List Qaa)×Int} {e:List (List Qaa)} (h:QaT (fun s=>Qen self l more s.1 s.2) s=some e) (hD:Qn5 Γ rv self l more e):QoU Γ rv self l more s.1 s.2:=by
 refine QaC (C:=fun (s:List (List Qaa)×Int)=>QoU Γ rv self l more s.1 s.2) (D:=fun (e:List (List Qaa))=>Qn5 Γ rv self l more e) ?_ h hD
 clear h hD s e
 rintro ⟨l1,at_⟩ z_ h hI hE
 replace h:Qen self l more l1 at_=_:=h
 unfold Qen at h
 rcases Qah h with ⟨h1,h⟩|⟨h1,h⟩
 ·obtain ⟨r,h2,h⟩:=Qae h
  obtain ⟨x0,h3,h⟩:=Qae h
  obtain ⟨r1,h4,h⟩:=Qae h
  obtain ⟨l2,h5,h⟩:=Qae h
  obtain ⟨r2,h6,h⟩:=Qae h
  obtain ⟨h7,h⟩:=Qav h
  exact gn 11 [0,1,7,8] [3] [nL Qaa.enc l,bT h1,hH (.draw 14 [(1,8),(2,8)]),cC (Qhk h2),cE Qaa.enc h3,cI [1,2] (QC2 (enc:=Qaa.enc) (fun _=>rfl) h4),hH (.rows (l2.map Qaa.enc)),oO (sl1 h5),oO (sl2h Qaa.enc h5),rp 3 (oO (Int.le_refl ((more.map Qaa.enc).length:Int))),oO (sl6h Qaa.enc h5),cC (hself h6),aO es_T_api_Visit.enc h7] (hI _ (oJ h))
 ·exact gn 5 [7] [0] [nL Qaa.enc l,bF h1] (hE _ (oJ h))
theorem QtT {self:(List Qaa)→(List Qaa)→Int→Option (List (List Qaa))} (hself:∀ {l:List Qaa} {more:List Qaa} {from_:Int} {rv:List (List Qaa)},self l more from_=some rv→AFn Tryz.prog 27 [.one (lL 2 l Qaa.enc),.one (lL 2 more Qaa.enc),.one (lI from_)] [] (one (lL 1 rv es_T_api_Visit.enc)) []) {l more from_} {rv:List (List Qaa)} (h:Qf7 self l more from_=some rv):AFn Tryz.prog 27 [.one (lL 2 l Qaa.enc),.one (lL 2 more Qaa.enc),.one (lI from_)] [] (one (lL 1 rv es_T_api_Visit.enc)) []:=by
 refine QaM Tryz.func27 (by kernel_rfl) (by kernel_rfl) (fun Γ=>?_)
 unfold Qf7 at h
 rcases Qah h with ⟨h0,h⟩|⟨h0,h⟩
 ·obtain rfl:=Option.some.inj h
  exact gr 8 [] [nL Qaa.enc more,bT h0,hW 5,hH (.frz 0),rp 2 (oO (Eq.refl ([l].map es_T_api_Visit.enc).length))]
 ·obtain ⟨e0,h8,h⟩:=Qae h
  refine gn 14 [0,1,7,8] [0] [nL Qaa.enc more,bF h0,hW 11,hH (.adopt 7 1 32)] (Qtg Γ rv hself h8 ?_)
  obtain ⟨l3,rfl⟩:∃ x,x=e0:=⟨_,rfl⟩
  replace h:(some l3:Option (List (List Qaa)))=some _:=h
  obtain rfl:=Option.some.inj h
  exact gr 2 [] [hW 4,hH (.frz 0),rp 3 (eL l3 es_T_api_Visit.enc)]
theorem Qp0:∀ n,∀ {l:List Qaa} {more:List Qaa} {from_:Int} {rv:List (List Qaa)},Qe3 n l more from_=some rv→AFn Tryz.prog 27 [.one (lL 2 l Qaa.enc),.one (lL 2 more Qaa.enc),.one (lI from_)] [] (one (lL 1 rv es_T_api_Visit.enc)) []
 | 0=>fun h=>nomatch h
 | n+1=>fun h=>QtT (Qp0 n) h
theorem Qvc:∀ {l:List Qaa} {more:List Qaa} {from_:Int} {rv:List (List Qaa)},Qn4 l more from_=some rv→AFn Tryz.prog 27 [.one (lL 2 l Qaa.enc),.one (lL 2 more Qaa.enc),.one (lI from_)] [] (one (lL 1 rv es_T_api_Visit.enc)) []:=Qp0 _
theorem QmK {v} {rv:Int} (h:Qfj v=some rv):AFn Tryz.prog 97 [.agg (Qaa.enc v)] [] (one (lI rv)) []:=by
 refine QaM Tryz.func97 (by kernel_rfl) (by kernel_rfl) (fun Γ=>?_)
 unfold Qfj at h
 rcases Qah h with ⟨h0,h⟩|⟨h0,h⟩
 ·obtain rfl:=Option.some.inj h
  exact gr 8 [] [bT h0]
 ·obtain rfl:=Option.some.inj h
  exact gr 9 [] [bF h0]
def Qul (Γ:Gam) (rv:Int) (cf:Cf):Prop:=Go Tryz.prog Tryz.f98 [] Γ (one (lI rv)) [] cf
def QqJ (Γ:Gam) (rv:Int) (vals:List Int) (v:Int):Prop:=Qul Γ rv ⟨[.c 116,.l 116,.b 0,.c 15],⟨18,[vI 3 0,vL 6 1 vals Qay,vI 7 (lenI vals),vI 8 v],[]⟩⟩
def QpU (Γ:Gam) (rv:Int) (vals:List Int):Prop:=Qul Γ rv ⟨[.c 15],⟨18,[vI 3 0],[]⟩⟩
theorem Quw (Γ:Gam) (rv:Int) {vals} {s:Int} {e:(Unit)⊕(Int)} (h:QaT (fun s=>Qeb vals s) s=some e) (hD:sel e (fun e=>QpU Γ rv vals) (fun e=>e=rv)):QqJ Γ rv vals s:=by
 refine QaC (C:=fun (s:Int)=>QqJ Γ rv vals s) (D:=fun (e:(Unit)⊕(Int))=>sel e (fun e=>QpU Γ rv vals) (fun e=>e=rv)) ?_ h hD
 clear h hD s e
 intro v z_ h hI hE
 replace h:Qeb vals v=_:=h
 unfold Qeb at h
 rcases Qah h with ⟨h0,h⟩|⟨h0,h⟩
 ·obtain ⟨x0,h1,h⟩:=Qae h
  rcases Qah h with ⟨h2,h⟩|⟨h2,h⟩
  ·obtain rfl:=(hE _ (oJ h):_=rv)
   exact gr 14 [] [bT h0,cE Qay h1,bT h2]
  ·exact gn 16 [3,6,7,8] [] [bT h0,cE Qay h1,bF h2] (hI _ (oJ h))
 ·exact gn 5 [3] [] [bF h0] (hE _ (oJ h))
theorem Qwt {vals} {rv:Int} (h:QoL vals=some rv):AFn Tryz.prog 98 [.one (lL 1 vals Qay)] [] (one (lI rv)) []:=by
 refine QaM Tryz.func98 (by kernel_rfl) (by kernel_rfl) (fun Γ=>?_)
 unfold QoL at h
 obtain ⟨e0,h3,h⟩:=Qae h
 refine gn 9 [3,6,7,8] [] [nL Qay vals] (Quw Γ rv h3 ?_)
 rcases e0 with e0|e0
 ·replace h:(some 0:Option Int)=some _:=h
  obtain rfl:=Option.some.inj h
  exact gr 2 [] []
 ·obtain ⟨r,rfl⟩:∃ x,x=e0:=⟨_,rfl⟩
  replace h:(some r:Option Int)=some _:=h
  exact Option.some.inj h
theorem Qb1 {x0} {rv:Bool} (h:Qjp x0=some rv):AFn Tryz.prog 128 [.one (lI x0)] [] (one (.bool rv)) []:=by
 refine QaM Tryz.func128 (by kernel_rfl) (by kernel_rfl) (fun Γ=>?_)
 unfold Qjp at h
 obtain rfl:=Option.some.inj h
 exact gr 4 [] []
theorem QnX {x0 y} {rv:Int} (h:Qgk x0 y=some rv):AFn Tryz.prog 99 [.one (lI x0),.one (lI y)] [] (one (lI rv)) []:=by
 refine QaM Tryz.func99 (by kernel_rfl) (by kernel_rfl) (fun Γ=>?_)
 unfold Qgk at h
 obtain ⟨r,h0,h⟩:=Qae h
 obtain ⟨r1,h1,h⟩:=Qae h
 rcases Qah h with ⟨h2,h⟩|⟨h2,h⟩
 ·rcases Qah h with ⟨h3,h⟩|⟨h3,h⟩
  ·obtain rfl:=Option.some.inj h
   exact gr 16 [] [cC (Qb1 h0),cC (Qb1 h1),bT h2,bT h3]
  ·obtain rfl:=Option.some.inj h
   exact gr 17 [] [cC (Qb1 h0),cC (Qb1 h1),bT h2,bF h3]
 ·rcases Qah h with ⟨h4,h⟩|⟨h4,h⟩
  ·obtain rfl:=Option.some.inj h
   exact gr 17 [] [cC (Qb1 h0),cC (Qb1 h1),bF h2,bT h4]
  ·rcases Qah h with ⟨h5,h⟩|⟨h5,h⟩
   ·obtain rfl:=Option.some.inj h
    exact gr 22 [] [cC (Qb1 h0),cC (Qb1 h1),bF h2,bF h4,bT h5]
   ·rcases Qah h with ⟨h6,h⟩|⟨h6,h⟩
    ·obtain rfl:=Option.some.inj h
     exact gr 27 [] [cC (Qb1 h0),cC (Qb1 h1),bF h2,bF h4,bF h5,bT h6]
    ·obtain rfl:=Option.some.inj h
     exact gr 28 [] [cC (Qb1 h0),cC (Qb1 h1),bF h2,bF h4,bF h5,bF h6]
theorem Qox {a b} {rv:Int} (h:QhY a b=some rv):AFn Tryz.prog 68 [.agg (Qaa.enc a),.agg (Qaa.enc b)] [] (one (lI rv)) []:=by
 refine QaM Tryz.func68 (by kernel_rfl) (by kernel_rfl) (fun Γ=>?_)
 unfold QhY at h
 obtain ⟨r,h0,h⟩:=Qae h
 obtain ⟨r1,h1,h⟩:=Qae h
 obtain ⟨r2,h2,h⟩:=Qae h
 obtain ⟨r3,h3,h⟩:=Qae h
 obtain ⟨r4,h4,h⟩:=Qae h
 obtain rfl:=Option.some.inj h
 exact gr 6 [] [hH (.draw 15 []),cC (QnX h0),cC (QmK h1),cC (QmK h2),cC (QnX h3),oO (Eq.refl ([r,r3].map Qay).length),cC (Qwt h4)]
def Qbv (Γ:Gam) (rv:Int) (cf:Cf):Prop:=Go Tryz.prog Tryz.f67 [] Γ (one (lI rv)) [] cf
def Qbr (Γ:Gam) (rv:Int) (s1:List Qaa) (s2:List Qaa) (v:Int):Prop:=Qbv Γ rv ⟨[.c 52,.l 52,.b 0,.c 7],⟨39,[vL 0 2 s1 Qaa.enc,vL 1 2 s2 Qaa.enc,(2,one (.fn (.func 68) [])),vL 11 2 s1 Qaa.enc,vI 12 (lenI s1),vI 13 v],[]⟩⟩
def Qbp (Γ:Gam) (rv:Int) (s1:List Qaa) (s2:List Qaa):Prop:=Qbv Γ rv ⟨[.c 7],⟨39,[vL 0 2 s1 Qaa.enc,vL 1 2 s2 Qaa.enc],[]⟩⟩
theorem QcQ (Γ:Gam) (rv:Int) {s1 s2} {s:Int} {e:(Unit)⊕(Int)} (h:QaT (fun s=>Qat s1 s2 s) s=some e) (hD:sel e (fun e=>Qbp Γ rv s1 s2) (fun e=>e=rv)):Qbr Γ rv s1 s2 s:=by
 refine QaC (C:=fun (s:Int)=>Qbr Γ rv s1 s2 s) (D:=fun (e:(Unit)⊕(Int))=>sel e (fun e=>Qbp Γ rv s1 s2) (fun e=>e=rv)) ?_ h hD
 clear h hD s e
 intro v z_ h hI hE
 replace h:Qat s1 s2 v=_:=h
 unfold Qat at h
 rcases Qah h with ⟨h0,h⟩|⟨h0,h⟩
 ·obtain ⟨x0,h1,h⟩:=Qae h
  rcases Qah h with ⟨h2,h⟩|⟨h2,h⟩
  ·obtain rfl:=(hE _ (oJ h):_=rv)
   exact gr 15 [] [bT h0,cE Qaa.enc h1,nL Qaa.enc s2,bT h2]
  ·obtain ⟨x1,h3,h⟩:=Qae h
   obtain ⟨r,h4,h⟩:=Qae h
   rcases Qah h with ⟨h5,h⟩|⟨h5,h⟩
   ·obtain rfl:=(hE _ (oJ h):_=rv)
    exact gr 23 [] [bT h0,cE Qaa.enc h1,nL Qaa.enc s2,bF h2,cE Qaa.enc h3,cC (Qox h4),bT h5]
   ·exact gn 25 [0,1,2,11,12,13] [] [bT h0,cE Qaa.enc h1,nL Qaa.enc s2,bF h2,cE Qaa.enc h3,cC (Qox h4),bF h5] (hI _ (oJ h))
 ·exact gn 5 [0,1] [] [bF h0] (hE _ (oJ h))
theorem Qc9 {s1 s2} {rv:Int} (h:QaS s1 s2=some rv):AFn Tryz.prog 67 [.one (lL 2 s1 Qaa.enc),.one (lL 2 s2 Qaa.enc),.one (.fn (.func 68) [])] [] (one (lI rv)) []:=by
 refine QaM Tryz.func67 (by kernel_rfl) (by kernel_rfl) (fun Γ=>?_)
 unfold QaS at h
 obtain ⟨e0,h6,h⟩:=Qae h
 refine gn 7 [0,1,2,11,12,13] [] [nL Qaa.enc s1] (QcQ Γ rv h6 ?_)
 rcases e0 with e0|e0
 ·replace h:(br (ltI (lenI s1) (lenI s2)) (some (-1)) (some 0):Option Int)=some _:=h
  rcases Qah h with ⟨h7,h⟩|⟨h7,h⟩
  ·obtain rfl:=Option.some.inj h
   exact gr 6 [] [nL Qaa.enc s1,nL Qaa.enc s2,bT h7]
  ·obtain rfl:=Option.some.inj h
   exact gr 7 [] [nL Qaa.enc s1,nL Qaa.enc s2,bF h7]
 ·obtain ⟨r1,rfl⟩:∃ x,x=e0:=⟨_,rfl⟩
  replace h:(some r1:Option Int)=some _:=h
  exact Option.some.inj h
theorem QrD {a b} {rv:Bool} (h:QlJ a b=some rv):AFn Tryz.prog 28 [.one (lL 2 a Qaa.enc),.one (lL 2 b Qaa.enc)] [] (one (.bool rv)) []:=by
 refine QaM Tryz.func28 (by kernel_rfl) (by kernel_rfl) (fun Γ=>?_)
 unfold QlJ at h
 obtain ⟨r,h0,h⟩:=Qae h
 obtain rfl:=Option.some.inj h
 exact gr 4 [] [cC (Qc9 h0)]
def Quq (Γ:Gam) (rv:Qad×Int×Int) (cf:Cf):Prop:=Go Tryz.prog Tryz.f11 [] Γ (.tup [.agg [lI rv.1.type_,lI rv.1.start,lL 1 rv.1.rests Qbd,lL 2 rv.1.visits Qaa.enc],.one (lI rv.2.1),.one (lI rv.2.2)]) [] cf
def QqR (Γ:Gam) (rv:Qad×Int×Int) (x0:Qac) (r4:List (List Qaa)) (x1:Qad) (type_:Int) (start:Int) (rests:List Bool) (visits:List Qaa) (least:Int) (v:Int):Prop:=Quq Γ rv ⟨[.c 2036,.l 2036,.b 0,.c 255],⟨94,[vP 3 0 6,vP 4 1 4,vP 6 2 4,vP 10 3 4,vI 11 least,vL 49 1 r4 es_T_api_Visit.enc,vI 50 (lenI r4),vI 51 v],[oX 6 30 (Qac.enc x0),oX 4 34 (Qad.enc x1),oX 4 34 [lI 0,lI 0,.nils,.nils],oX 4 34 [lI type_,lI start,lL 1 rests Qbd,lL 2 visits Qaa.enc]]⟩⟩
def QpW (Γ:Gam) (rv:Qad×Int×Int) (x0:Qac) (r4:List (List Qaa)) (x3:Qad) (least1:Int):Prop:=Quq Γ rv ⟨[.c 255],⟨94,[vP 6 0 4,vP 10 1 4,vI 11 least1],[oX 4 34 [lI 0,lI 0,.nils,.nils],oX 4 34 (Qad.enc x3)]⟩⟩
theorem Quz (Γ:Gam) (rv:Qad×Int×Int) {x0 r4} {s:Qad×Int×Int×List Bool×List Qaa×Int×Int} {e:Qad×Int} (h:QaT (fun s=>QeQ x0 r4 s.1 s.2.1 s.2.2.1 s.2.2.2.1 s.2.2.2.2.1 s.2.2.2.2.2.1 s.2.2.2.2.2.2) s=some e) (hD:QpW Γ rv x0 r4 e.1 e.2):QqR Γ rv x0 r4 s.1 s.2.1 s.2.2.1 s.2.2.2.1 s.2.2.2.2.1 s.2.2.2.2.2.1 s.2.2.2.2.2.2:=by
 refine QaC (C:=fun (s:Qad×Int×Int×List Bool×List Qaa×Int×Int)=>QqR Γ rv x0 r4 s.1 s.2.1 s.2.2.1 s.2.2.2.1 s.2.2.2.2.1 s.2.2.2.2.2.1 s.2.2.2.2.2.2) (D:=fun (e:Qad×Int)=>QpW Γ rv x0 r4 e.1 e.2) ?_ h hD
 clear h hD s e
 rintro ⟨x1,type_,start,rests,visits,least,v⟩ z_ h hI hE
 replace h:QeQ x0 r4 x1 type_ start rests visits least v=_:=h
 unfold QeQ at h
 rcases Qah h with ⟨h7,h⟩|⟨h7,h⟩
 ·obtain ⟨x2,h8,h⟩:=Qae h
  obtain ⟨r5,h9,h⟩:=Qae h
  rcases Qah h with ⟨h10,h⟩|⟨h10,h⟩
  ·rcases Qah h with ⟨h11,h⟩|⟨h11,h⟩
   ·exact gn 22 [3,4,6,10,11,49,50,51] [0,1,2,3] [bT h7,cE es_T_api_Visit.enc h8,cC (QgR h9),rp 3 (bT h10),hP,hP,hP,rp 2 (oI ((ltI least 0)=false)),bT h10,hP,oR True ((ltI least 0)=false),bT h10,rp 4 (bT h11),rp 4 kF,bT h11,bT h10,bT h11,bT h10,tT] (hI _ (oJ h))
   ·rcases Qah h with ⟨h12,h⟩|⟨h12,h⟩
    ·obtain ⟨r6,h13,h⟩:=Qae h
     rcases Qah h with ⟨h14,h⟩|⟨h14,h⟩
     ·exact gn 22 [3,4,6,10,11,49,50,51] [0,1,2,3] [bT h7,cE es_T_api_Visit.enc h8,cC (QgR h9),rp 3 (bT h10),hP,hP,hP,rp 2 (oI ((ltI least 0)=false)),bT h10,hP,oR True ((ltI least 0)=false),bT h10,rp 4 (bF h11),rp 4 (bT h12),cC (QrD h13),bF h11,bT h12,bT h10,bF h11,bT h10,bT h14] (hI _ (oJ h))
     ·exact gn 22 [3,4,6,10,11,49,50,51] [0,1,2,3] [bT h7,cE es_T_api_Visit.enc h8,cC (QgR h9),rp 3 (bT h10),hP,hP,hP,rp 2 (oI ((ltI least 0)=false)),bT h10,hP,oR True ((ltI least 0)=false),bT h10,rp 4 (bF h11),rp 4 (bT h12),cC (QrD h13),bF h11,bT h12,bT h10,bF h11,bT h10,bF h14] (hI _ (oJ h))
    ·exact gn 22 [3,4,6,10,11,49,50,51] [0,1,2,3] [bT h7,cE es_T_api_Visit.enc h8,cC (QgR h9),rp 3 (bT h10),hP,hP,hP,rp 2 (oI ((ltI least 0)=false)),bT h10,hP,oR True ((ltI least 0)=false),bT h10,rp 4 (bF h11),rp 4 (bF h12),bF h11,bF h12,bT h10,bF h11,bT h10,fF] (hI _ (oJ h))
  ·exact gn 22 [3,4,6,10,11,49,50,51] [0,1,2,3] [bT h7,cE es_T_api_Visit.enc h8,cC (QgR h9),rp 3 (bF h10),kF,kF,kF,rp 2 (bF h10),rp 9 kF,rp 2 (bF h10),fF] (hI _ (oJ h))
 ·exact gn 5 [6,10,11] [2,3] [bF h7] (hE _ (oJ h))
theorem QbM {x0 r o} {rv:Qad×Int×Int} (h:Qi1 x0 r o=some rv):AFn Tryz.prog 11 [.agg (Qac.enc x0),.agg (Qad.enc r),.one (lI o)] [] (.tup [.agg [lI rv.1.type_,lI rv.1.start,lL 1 rv.1.rests Qbd,lL 2 rv.1.visits Qaa.enc],.one (lI rv.2.1),.one (lI rv.2.2)]) []:=by
 refine QaM Tryz.func11 (by kernel_rfl) (by kernel_rfl) (fun Γ=>?_)
 unfold Qi1 at h
 rcases Qah h with ⟨h0,h⟩|⟨h0,h⟩
 ·obtain rfl:=Option.some.inj h
  exact gr 8 [] [rp 5 hP,rp 3 (oI ((ltI r.type_ 0)=false)),nL Qal.enc x0.types,hP,hP,rp 2 (oI ((ltI r.type_ 0)=false)),oR True ((ltI r.type_ 0)=false),bT h0,hW 6,hH (.nilB 2 2 1),hH (.nilB 2 3 2)]
 ·obtain ⟨r1,h1,h⟩:=Qae h
  rcases Qah h with ⟨h2,h⟩|⟨h2,h⟩
  ·obtain rfl:=Option.some.inj h
   exact gr 15 [] [rp 5 hP,rp 3 (oI ((ltI r.type_ 0)=false)),nL Qal.enc x0.types,hP,hP,rp 2 (oI ((ltI r.type_ 0)=false)),oR True ((ltI r.type_ 0)=false),bF h0,cC (Qm9 h1),bT h2,hW 7,hH (.nilB 2 2 1),hH (.nilB 2 3 2)]
  ·obtain ⟨r2,h3,h⟩:=Qae h
   rcases Qah h with ⟨h4,h⟩|⟨h4,h⟩
   ·obtain rfl:=Option.some.inj h
    exact gr 20 [] [rp 5 hP,rp 3 (oI ((ltI r.type_ 0)=false)),nL Qal.enc x0.types,hP,hP,rp 2 (oI ((ltI r.type_ 0)=false)),oR True ((ltI r.type_ 0)=false),bF h0,cC (Qm9 h1),bF h2,cC (Qnb h3),bT h4,hW 6,hH (.nilB 2 2 1),hH (.nilB 2 3 2)]
   ·obtain ⟨r3,h5,h⟩:=Qae h
    obtain ⟨r4,h6,h⟩:=Qae h
    obtain ⟨e0,h15,h⟩:=Qae h
    refine gn 28 [3,4,6,10,11,49,50,51] [0,1,2,3] [rp 5 hP,rp 3 (oI ((ltI r.type_ 0)=false)),nL Qal.enc x0.types,hP,hP,rp 2 (oI ((ltI r.type_ 0)=false)),oR True ((ltI r.type_ 0)=false),bF h0,cC (Qm9 h1),bF h2,cC (Qnb h3),bF h4,hH (.draw 12 []),cC (QoF h5),nL Qbd r.rests,cC (Qvc h6),nL es_T_api_Visit.enc r4,hW 2,hH (.nilB 3 2 1),hH (.nilB 3 3 2)] (Quz Γ rv h15 ?_)
    obtain ⟨x3,least1⟩:=e0
    replace h:(br (ltI least1 0) (some ((Qad.mk 0 0 [] []),0,24)) (some (x3,least1,0)):Option (Qad×Int×Int))=some _:=h
    rcases Qah h with ⟨h16,h⟩|⟨h16,h⟩
    ·obtain rfl:=Option.some.inj h
     exact gr 6 [] [bT h16,hW 6,hH (.nilB 0 2 1),hH (.nilB 0 3 2)]
    ·obtain rfl:=Option.some.inj h
     exact gr 7 [] [bF h16]
def Qjo (Γ:Gam) (rv:Int) (cf:Cf):Prop:=Go Tryz.prog Tryz.f73 [] Γ (one (lI rv)) [] cf
def Qh0 (Γ:Gam) (rv:Int) (s0:List Int) (v:Int) (v1:Int):Prop:=Qjo Γ rv ⟨[.c 52,.l 52,.b 0,.c 7],⟨19,[vL 0 1 s0 Qay,vI 1 v,vI 7 (lenI s0),vI 8 v1],[]⟩⟩
def QhB (Γ:Gam) (rv:Int) (s0:List Int) (v:Int):Prop:=Qjo Γ rv ⟨[.c 7],⟨19,[],[]⟩⟩
theorem QmS (Γ:Gam) (rv:Int) {s0 v} {s:Int} {e:(Unit)⊕(Int)} (h:QaT (fun s=>Qcu s0 v s) s=some e) (hD:sel e (fun e=>QhB Γ rv s0 v) (fun e=>e=rv)):Qh0 Γ rv s0 v s:=by
 refine QaC (C:=fun (s:Int)=>Qh0 Γ rv s0 v s) (D:=fun (e:(Unit)⊕(Int))=>sel e (fun e=>QhB Γ rv s0 v) (fun e=>e=rv)) ?_ h hD
 clear h hD s e
 intro v1 z_ h hI hE
 replace h:Qcu s0 v v1=_:=h
 unfold Qcu at h
 rcases Qah h with ⟨h0,h⟩|⟨h0,h⟩
 ·obtain ⟨x0,h1,h⟩:=Qae h
  rcases Qah h with ⟨h2,h⟩|⟨h2,h⟩
  ·obtain rfl:=(hE _ (oJ h):_=rv)
   exact gr 14 [] [bT h0,cE Qay h1,bT h2]
  ·exact gn 16 [0,1,7,8] [] [bT h0,cE Qay h1,bF h2] (hI _ (oJ h))
 ·exact gn 5 [] [] [bF h0] (hE _ (oJ h))
theorem QoG {s0 v} {rv:Int} (h:Qfy s0 v=some rv):AFn Tryz.prog 73 [.one (lL 1 s0 Qay),.one (lI v)] [] (one (lI rv)) []:=by
 refine QaM Tryz.func73 (by kernel_rfl) (by kernel_rfl) (fun Γ=>?_)
 unfold Qfy at h
 obtain ⟨e0,h3,h⟩:=Qae h
 refine gn 7 [0,1,7,8] [] [nL Qay s0] (QmS Γ rv h3 ?_)
 rcases e0 with e0|e0
 ·replace h:(some (-1):Option Int)=some _:=h
  obtain rfl:=Option.some.inj h
  exact gr 2 [] []
 ·obtain ⟨r,rfl⟩:∃ x,x=e0:=⟨_,rfl⟩
  replace h:(some r:Option Int)=some _:=h
  exact Option.some.inj h
theorem QhA {s0 v} {rv:Bool} (h:Qdq s0 v=some rv):AFn Tryz.prog 35 [.one (lL 1 s0 Qay),.one (lI v)] [] (one (.bool rv)) []:=by
 refine QaM Tryz.func35 (by kernel_rfl) (by kernel_rfl) (fun Γ=>?_)
 unfold Qdq at h
 obtain ⟨r,h0,h⟩:=Qae h
 obtain rfl:=Option.some.inj h
 exact gr 4 [] [cC (QoG h0)]
theorem QqS {at_ r old c c1 c2} {rv:Qac×Int×Qaq} (h:Qi3 at_ r old c c1 c2=some rv):AFn Tryz.prog 74 [.one (lI at_),.agg (Qad.enc r),.one (lI old),.one (.op 0 6 0 0),.one (.op 1 1 0 0),.one (.op 2 6 0 0)] [bX 6 30 (Qac.enc c),bX 1 3 [lI c1],bX 6 80 (Qaq.enc c2)] (.tup []) [oX 6 30 [lL 1 rv.1.net.places QmO,lL 6 rv.1.net.arcs Qas.enc,lL 14 rv.1.types Qal.enc,lL 16 rv.1.orders Qag.enc,lL 2 rv.1.apart QaR.enc,lL 2 rv.1.before QaR.enc],oX 1 3 [lI rv.2.1],oX 6 80 [lI rv.2.2.at_,lI rv.2.2.route.type_,lI rv.2.2.route.start,lL 1 rv.2.2.route.rests Qbd,lL 2 rv.2.2.route.visits Qaa.enc,lI rv.2.2.increase]]:=by
 refine QaM Tryz.func74 (by kernel_rfl) (by kernel_rfl) (fun Γ=>?_)
 unfold Qi3 at h
 obtain ⟨r1,h0,h⟩:=Qae h
 rcases Qah h with ⟨h1,h⟩|⟨h1,h⟩
 ·obtain rfl:=Option.some.inj h
  exact gr 8 [0,1,2] [cC (QbM h0),rp 13 hP,rp 3 (oI ((eqI r1.2.2 0)=true)),rp 5 (oI (((eqI r1.2.2 0)=true)∧(ltI c2.at_ 0)=false)),oI ((eqI r1.2.2 0)=true),oI (((eqI r1.2.2 0)=true)∧(ltI c2.at_ 0)=false),oR True ((eqI r1.2.2 0)=true),bT h1]
 ·obtain rfl:=Option.some.inj h
  exact gr 8 [0,1,2] [cC (QbM h0),rp 13 hP,rp 3 (oI ((eqI r1.2.2 0)=true)),rp 5 (oI (((eqI r1.2.2 0)=true)∧(ltI c2.at_ 0)=false)),oI ((eqI r1.2.2 0)=true),oI (((eqI r1.2.2 0)=true)∧(ltI c2.at_ 0)=false),oR True ((eqI r1.2.2 0)=true),bF h1]
def Qi4 (Γ:Gam) (rv:Qaq×Int) (cf:Cf):Prop:=Go Tryz.prog Tryz.f36 [] Γ (.tup [.agg [lI rv.1.at_,lI rv.1.route.type_,lI rv.1.route.start,lL 1 rv.1.route.rests Qbd,lL 2 rv.1.route.visits Qaa.enc,lI rv.1.increase],.one (lI rv.2)]) [] cf
def QqT (Γ:Gam) (rv:Qaq×Int) (x0:Qac) (p:Qak) (o:Int) (l:List Int) (l1:List Int) (l2:List Int) (v:Int):Prop:=Qi4 Γ rv ⟨[.c 244,.l 244,.b 0,.c 31],⟨101,[vP 3 0 6,vP 4 1 2,vP 5 2 1,vP 6 3 6,vO 8 4 1 l1 Qay,vO 9 5 1 l2 Qay,vL 24 4 p.routes Qad.enc,vI 25 (lenI p.routes),vI 26 v],[oX 6 30 (Qac.enc x0),oX 2 44 (Qak.enc p),oX 1 3 [lI o],oX 6 80 [lI 0,lI 0,lI 0,.nils,.nils,lI 0],oS 1 3 l1 Qay,oS 1 3 l2 Qay]⟩⟩
def QpX (Γ:Gam) (rv:Qaq×Int) (x0:Qac) (p:Qak) (o:Int) (l:List Int) (l3:List Int) (l4:List Int):Prop:=Qi4 Γ rv ⟨[.c 31],⟨101,[vP 3 0 6,vP 4 1 2,vP 5 2 1,vP 6 3 6,vO 8 4 1 l3 Qay,vO 9 5 1 l4 Qay],[oX 6 30 (Qac.enc x0),oX 2 44 (Qak.enc p),oX 1 3 [lI o],oX 6 80 [lI 0,lI 0,lI 0,.nils,.nils,lI 0],oS 1 3 l3 Qay,oS 1 3 l4 Qay]⟩⟩
def QqU (Γ:Gam) (rv:Qaq×Int) (p:Qak) (l:List Int) (l3:List Int) (l4:List Int) (x3:Qac) (at_:Int) (type_:Int) (start:Int) (rests:List Bool) (visits:List Qaa) (increase:Int) (x4:Int) (v1:Int):Prop:=Qi4 Γ rv ⟨[.c 2036,.l 2036,.b 2,.c 255],⟨101,[vP 3 0 6,vP 4 1 2,vP 6 2 6,vO 8 3 1 l3 Qay,vO 9 4 1 l4 Qay,vP 14 5 6,(15,one (.fn (.func 74) [.op 0 6 0 0,.op 6 1 0 0,.op 5 6 0 0])),vL 55 4 p.routes Qad.enc,vI 56 (lenI p.routes),vI 57 v1],[oX 6 30 (Qac.enc x3),oX 2 44 (Qak.enc p),oX 6 80 [lI 0,lI 0,lI 0,.nils,.nils,lI 0],oS 1 3 l3 Qay,oS 1 3 l4 Qay,oX 6 80 [lI at_,lI type_,lI start,lL 1 rests Qbd,lL 2 visits Qaa.enc,lI increase],oX 1 3 [lI x4]]⟩⟩
def QpY (Γ:Gam) (rv:Qaq×Int) (p:Qak) (l:List Int) (l3:List Int) (l4:List Int) (x7:Qac) (x8:Qaq) (x9:Int):Prop:=Qi4 Γ rv ⟨[.c 255],⟨101,[vP 3 0 6,vP 4 1 2,vP 6 2 6,vO 9 3 1 l4 Qay,vP 14 4 6,(15,one (.fn (.func 74) [.op 0 6 0 0,.op 5 1 0 0,.op 4 6 0 0]))],[oX 6 30 (Qac.enc x7),oX 2 44 (Qak.enc p),oX 6 80 [lI 0,lI 0,lI 0,.nils,.nils,lI 0],oS 1 3 l4 Qay,oX 6 80 (Qaq.enc x8),oX 1 3 [lI x9]]⟩⟩
def QqV (Γ:Gam) (rv:Qaq×Int) (p:Qak) (l:List Int) (l4:List Int) (x10:Qac) (x11:Qaq) (x12:Int) (v2:Int) (v3:Int):Prop:=Qi4 Γ rv ⟨[.c 4084,.l 4084,.b 4,.c 511],⟨101,[vP 3 0 6,vP 4 1 2,vP 6 2 6,vO 9 3 1 l4 Qay,vP 14 4 6,(15,one (.fn (.func 74) [.op 0 6 0 0,.op 5 1 0 0,.op 4 6 0 0])),vI 73 v2,vI 74 v3],[oX 6 30 (Qac.enc x10),oX 2 44 (Qak.enc p),oX 6 80 [lI 0,lI 0,lI 0,.nils,.nils,lI 0],oS 1 3 l4 Qay,oX 6 80 (Qaq.enc x11),oX 1 3 [lI x12]]⟩⟩
def QpZ (Γ:Gam) (rv:Qaq×Int) (p:Qak) (l:List Int) (l4:List Int) (x15:Qaq):Prop:=Qi4 Γ rv ⟨[.c 511],⟨101,[vP 6 0 6,vP 14 1 6],[oX 6 80 [lI 0,lI 0,lI 0,.nils,.nils,lI 0],oX 6 80 (Qaq.enc x15)]⟩⟩
theorem QuA (Γ:Gam) (rv:Qaq×Int) {x0 p o l} {s:List Int×List Int×Int} {e:(List Int×List Int)⊕(Qaq×Int)} (h:QaT (fun s=>Qec x0 p o l s.1 s.2.1 s.2.2) s=some e) (hD:sel e (fun e=>QpX Γ rv x0 p o l e.1 e.2) (fun e=>e=rv)):QqT Γ rv x0 p o l s.1 s.2.1 s.2.2:=by
 refine QaC (C:=fun (s:List Int×List Int×Int)=>QqT Γ rv x0 p o l s.1 s.2.1 s.2.2) (D:=fun (e:(List Int×List Int)⊕(Qaq×Int))=>sel e (fun e=>QpX Γ rv x0 p o l e.1 e.2) (fun e=>e=rv)) ?_ h hD
 clear h hD s e
 rintro ⟨l1,l2,v⟩ z_ h hI hE
 replace h:Qec x0 p o l l1 l2 v=_:=h
 unfold Qec at h
 rcases Qah h with ⟨h1,h⟩|⟨h1,h⟩
 ·obtain ⟨x1,h2,h⟩:=Qae h
  obtain ⟨r,h3,h⟩:=Qae h
  rcases Qah h with ⟨h4,h⟩|⟨h4,h⟩
  ·obtain rfl:=(hE _ (oJ h):_=rv)
   exact gr 17 [] [bT h1,cE Qad.enc h2,cC (QgR h3),bT h4,hW 6,hH (.nilB 3 3 1),hH (.nilB 3 4 2)]
  ·obtain ⟨h5,h⟩:=Qav h
   obtain ⟨x2,h6,h⟩:=Qae h
   exact gn 22 [3,4,5,6,8,9,24,25,26] [0,1,2,3,8,5] [bT h1,cE Qad.enc h2,cC (QgR h3),bF h4,oO (Eq.refl ([r.1].map Qay).length),aO Qay h5,oO (QtK h6),oO (QtJ Qay h6),rE Qay h6,oO (QtK h6),oO (QtJ Qay h6),rE Qay h6,hH (.rows ((setI l2 x1.type_ (addK .i64 x2 1)).map Qay)),hH (.relen 5 ((setI l2 x1.type_ (addK .i64 x2 1)).map Qay).length),oO (setM Qay l2 x1.type_ (addK .i64 x2 1)),rp 2 (oO (Qxq Qay l2 x1.type_ (addK .i64 x2 1)))] (hI _ (oJ h))
 ·exact gn 5 [3,4,5,6,8,9] [0,1,2,3,4,5] [bF h1] (hE _ (oJ h))
theorem QuB (Γ:Gam) (rv:Qaq×Int) {p l l3 l4} {s:Qac×Int×Int×Int×List Bool×List Qaa×Int×Int×Int} {e:Qac×Qaq×Int} (h:QaT (fun s=>QeR p l l3 l4 s.1 s.2.1 s.2.2.1 s.2.2.2.1 s.2.2.2.2.1 s.2.2.2.2.2.1 s.2.2.2.2.2.2.1 s.2.2.2.2.2.2.2.1 s.2.2.2.2.2.2.2.2) s=some e) (hD:QpY Γ rv p l l3 l4 e.1 e.2.1 e.2.2):QqU Γ rv p l l3 l4 s.1 s.2.1 s.2.2.1 s.2.2.2.1 s.2.2.2.2.1 s.2.2.2.2.2.1 s.2.2.2.2.2.2.1 s.2.2.2.2.2.2.2.1 s.2.2.2.2.2.2.2.2:=by
 refine QaC (C:=fun (s:Qac×Int×Int×Int×List Bool×List Qaa×Int×Int×Int)=>QqU Γ rv p l l3 l4 s.1 s.2.1 s.2.2.1 s.2.2.2.1 s.2.2.2.2.1 s.2.2.2.2.2.1 s.2.2.2.2.2.2.1 s.2.2.2.2.2.2.2.1 s.2.2.2.2.2.2.2.2) (D:=fun (e:Qac×Qaq×Int)=>QpY Γ rv p l l3 l4 e.1 e.2.1 e.2.2) ?_ h hD
 clear h hD s e
 rintro ⟨x3,at_,type_,start,rests,visits,increase,x4,v1⟩ z_ h hI hE
 replace h:QeR p l l3 l4 x3 at_ type_ start rests visits increase x4 v1=_:=h
 unfold QeR at h
 rcases Qah h with ⟨h8,h⟩|⟨h8,h⟩
 ·obtain ⟨x5,h9,h⟩:=Qae h
  obtain ⟨x6,h10,h⟩:=Qae h
  obtain ⟨r1,h11,h⟩:=Qae h
  exact gn 13 [3,4,6,8,9,14,15,55,56,57] [0,1,2,3,4,5,6] [bT h8,cE Qad.enc h9,hH (.draw 8 [(0,7),(6,7),(5,7)]),oO (QtK h10),oO (QtJ Qay h10),rE Qay h10,cI [0,6,5] (QqS h11)] (hI _ (oJ h))
 ·exact gn 5 [3,4,6,9,14,15] [0,1,2,4,5,6] [bF h8] (hE _ (oJ h))
theorem QuC (Γ:Gam) (rv:Qaq×Int) {p l l4} {s:Qac×Qaq×Int×Int×Int} {e:Qaq} (h:QaT (fun s=>Qed p l l4 s.1 s.2.1 s.2.2.1 s.2.2.2.1 s.2.2.2.2) s=some e) (hD:QpZ Γ rv p l l4 e):QqV Γ rv p l l4 s.1 s.2.1 s.2.2.1 s.2.2.2.1 s.2.2.2.2:=by
 refine QaC (C:=fun (s:Qac×Qaq×Int×Int×Int)=>QqV Γ rv p l l4 s.1 s.2.1 s.2.2.1 s.2.2.2.1 s.2.2.2.2) (D:=fun (e:Qaq)=>QpZ Γ rv p l l4 e) ?_ h hD
 clear h hD s e
 rintro ⟨x10,x11,x12,v2,v3⟩ z_ h hI hE
 replace h:Qed p l l4 x10 x11 x12 v2 v3=_:=h
 unfold Qed at h
 rcases Qah h with ⟨h13,h⟩|⟨h13,h⟩
 ·obtain ⟨x13,h14,h⟩:=Qae h
  obtain ⟨x14,h15,h⟩:=Qae h
  rcases Qah h with ⟨h16,h⟩|⟨h16,h⟩
  ·obtain ⟨r2,h17,h⟩:=Qae h
   exact gn 16 [3,4,6,9,14,15,73,74] [0,1,2,3,4,5] [bT h13,hH (.draw 11 []),oO (QtK h14),oO (QtJ Qay h14),rE Qay h14,cE Qal.enc h15,bT h16,nL Qad.enc p.routes,hW 2,hH (.nilS 93 2 1),hH (.nilS 93 3 2),cI [0,5,4] (QqS h17)] (hI _ (oJ h))
  ·exact gn 16 [3,4,6,9,14,15,73,74] [0,1,2,3,4,5] [bT h13,hH (.draw 11 []),oO (QtK h14),oO (QtJ Qay h14),rE Qay h14,cE Qal.enc h15,bF h16] (hI _ (oJ h))
 ·exact gn 5 [6,14] [2,4] [bF h13] (hE _ (oJ h))
theorem QpG {x0 p o} {rv:Qaq×Int} (h:QoT x0 p o=some rv):AFn Tryz.prog 36 [.agg (Qac.enc x0),.agg (Qak.enc p),.one (lI o)] [] (.tup [.agg [lI rv.1.at_,lI rv.1.route.type_,lI rv.1.route.start,lL 1 rv.1.route.rests Qbd,lL 2 rv.1.route.visits Qaa.enc,lI rv.1.increase],.one (lI rv.2)]) []:=by
 refine QaM Tryz.func36 (by kernel_rfl) (by kernel_rfl) (fun Γ=>?_)
 unfold QoT at h
 obtain ⟨l,h0,h⟩:=Qae h
 obtain ⟨e0,h7,h⟩:=Qae h
 refine gn 11 [3,4,5,6,8,9,24,25,26] [0,1,2,3,5,4] [nL Qal.enc x0.types,hH (.cells [lI 0]),hH (.rows (l.map Qay)),oO (mk1 h0),oO (mk2 h0),oO (mk3 h0),oO (mk4 h0),oO (mk5 Qay h0),nL Qad.enc p.routes,hW 3,hH (.adopt 8 1 3)] (QuA Γ rv h7 ?_)
 rcases e0 with e0|e0
 ·obtain ⟨l3,l4⟩:=e0
  replace h:(bnd (QaT (fun s=>QeR p l l3 l4 s.1 s.2.1 s.2.2.1 s.2.2.2.1 s.2.2.2.2.1 s.2.2.2.2.2.1 s.2.2.2.2.2.2.1 s.2.2.2.2.2.2.2.1 s.2.2.2.2.2.2.2.2) (x0,(-1),0,0,[],[],0,o,0)) (fun e0=>(fun x7 x8 x9=>bnd (QaT (fun s=>Qed p l l4 s.1 s.2.1 s.2.2.1 s.2.2.2.1 s.2.2.2.2) (x7,x8,x9,(lenI x7.types),0)) (fun x15=>br (ltI x15.at_ 0) (some ((Qaq.mk 0 (Qad.mk 0 0 [] []) 0),24)) (some (x15,0)))) e0.1 e0.2.1 e0.2.2):Option (Qaq×Int))=some _:=h
  obtain ⟨e1,h12,h⟩:=Qae h
  refine gn 9 [3,4,6,8,9,14,15,55,56,57] [0,1,3,4,5,6,2] [nL Qad.enc p.routes,hW 3,hH (.nilB 6 3 1),hH (.nilB 6 4 2)] (QuB Γ rv h12 ?_)
  obtain ⟨x7,x8,x9⟩:=e1
  replace h:(bnd (QaT (fun s=>Qed p l l4 s.1 s.2.1 s.2.2.1 s.2.2.2.1 s.2.2.2.2) (x7,x8,x9,(lenI x7.types),0)) (fun x15=>br (ltI x15.at_ 0) (some ((Qaq.mk 0 (Qad.mk 0 0 [] []) 0),24)) (some (x15,0))):Option (Qaq×Int))=some _:=h
  obtain ⟨e2,h18,h⟩:=Qae h
  refine gn 5 [3,4,6,9,14,15,73,74] [0,1,2,3,4,5] [nL Qal.enc x7.types] (QuC Γ rv h18 ?_)
  obtain ⟨x15,rfl⟩:∃ x,x=e2:=⟨_,rfl⟩
  replace h:(br (ltI x15.at_ 0) (some ((Qaq.mk 0 (Qad.mk 0 0 [] []) 0),24)) (some (x15,0)):Option (Qaq×Int))=some _:=h
  rcases Qah h with ⟨h19,h⟩|⟨h19,h⟩
  ·obtain rfl:=Option.some.inj h
   exact gr 6 [] [bT h19,hW 5,hH (.nilB 0 3 1),hH (.nilB 0 4 2)]
  ·obtain rfl:=Option.some.inj h
   exact gr 7 [] [bF h19]
 ·obtain ⟨r3,rfl⟩:∃ x,x=e0:=⟨_,rfl⟩
  replace h:(some r3:Option (Qaq×Int))=some _:=h
  exact Option.some.inj h
theorem Qqf {x0 order} {rv:Qau×Int} (h:QjK x0 order=some rv):AFn Tryz.prog 75 [.agg (Qac.enc x0),.one (lI order)] [] (.tup [.agg [lI rv.1.cost,lI rv.1.moved,lI rv.1.other,lI rv.1.work],.one (lI rv.2)]) []:=by
 refine QaM Tryz.func75 (by kernel_rfl) (by kernel_rfl) (fun Γ=>?_)
 unfold QjK at h
 rcases Qah h with ⟨h0,h⟩|⟨h0,h⟩
 ·obtain rfl:=Option.some.inj h
  exact gr 8 [] [rp 4 hP,rp 2 (oI ((ltI order 0)=false)),nL Qag.enc x0.orders,hP,hP,rp 2 (oI ((ltI order 0)=false)),oR True ((ltI order 0)=false),bT h0]
 ·obtain ⟨x1,h1,h⟩:=Qae h
  rcases Qah h with ⟨h2,h⟩|⟨h2,h⟩
  ·obtain rfl:=Option.some.inj h
   exact gr 16 [] [rp 4 hP,rp 2 (oI ((ltI order 0)=false)),nL Qag.enc x0.orders,hP,hP,rp 2 (oI ((ltI order 0)=false)),oR True ((ltI order 0)=false),bF h0,cE Qag.enc h1,bT h2]
  ·rcases Qah h with ⟨h3,h⟩|⟨h3,h⟩
   ·obtain rfl:=Option.some.inj h
    exact gr 19 [] [rp 4 hP,rp 2 (oI ((ltI order 0)=false)),nL Qag.enc x0.orders,hP,hP,rp 2 (oI ((ltI order 0)=false)),oR True ((ltI order 0)=false),bF h0,cE Qag.enc h1,bF h2,bT h3]
   ·rcases Qah h with ⟨h4,h⟩|⟨h4,h⟩
    ·obtain rfl:=Option.some.inj h
     exact gr 28 [] [rp 4 hP,rp 2 (oI ((ltI order 0)=false)),nL Qag.enc x0.orders,hP,hP,rp 2 (oI ((ltI order 0)=false)),oR True ((ltI order 0)=false),bF h0,cE Qag.enc h1,bF h2,bF h3,bT h4]
    ·obtain rfl:=Option.some.inj h
     exact gr 28 [] [rp 4 hP,rp 2 (oI ((ltI order 0)=false)),nL Qag.enc x0.orders,hP,hP,rp 2 (oI ((ltI order 0)=false)),oR True ((ltI order 0)=false),bF h0,cE Qag.enc h1,bF h2,bF h3,bF h4]
theorem Qsx {x0 o increase} {rv:Bool} (h:Qnc x0 o increase=some rv):AFn Tryz.prog 37 [.agg (Qac.enc x0),.one (lI o),.one (lI increase)] [] (one (.bool rv)) []:=by
 refine QaM Tryz.func37 (by kernel_rfl) (by kernel_rfl) (fun Γ=>?_)
 unfold Qnc at h
 obtain ⟨x1,h0,h⟩:=Qae h
 rcases Qah h with ⟨h1,h⟩|⟨h1,h⟩
 ·obtain rfl:=Option.some.inj h
  exact gr 8 [] [cE Qag.enc h0,bT h1]
 ·obtain ⟨r,h2,h⟩:=Qae h
  rcases Qah h with ⟨h3,h⟩|⟨h3,h⟩
  ·obtain rfl:=Option.some.inj h
   exact gr 15 [] [cE Qag.enc h0,bF h1,cC (Qqf h2),bT h3]
  ·obtain ⟨r1,h4,h⟩:=Qae h
   obtain rfl:=Option.some.inj h
   exact gr 18 [] [cE Qag.enc h0,bF h1,cC (Qqf h2),bF h3,cC (QsC h4),rp 4 hP,rp 2 (oI ((eqI r1.2 0)=true)),oR True ((eqI r1.2 0)=true)]
theorem QdW {s0} {rv:List Qad} (h:Qbt s0=some rv):AFn Tryz.prog 76 [.one (lL 4 s0 Qad.enc)] [] (one (lO 0 4 rv Qad.enc)) [oS 4 34 rv Qad.enc]:=by
 refine QaM Tryz.func76 (by kernel_rfl) (by kernel_rfl) (fun Γ=>?_)
 unfold Qbt at h
 rcases Qah h with ⟨h0,h⟩|⟨h0,h⟩
 ·obtain ⟨hx,h⟩:=QxU h
  refine gn 5 [0,4] [] [hH (.skip)] (cf':=⟨[.c 13,.c 7],⟨8,[vL 0 4 s0 Qad.enc,(4,.boo)],[]⟩⟩) (go_amb 4 rfl ?_ ?_)
  ·replace h:=hx
   obtain rfl:=Option.some.inj h
   exact gr 3 [0] [tT,hW 3,hH (.adopt 2 4 34)]
  ·obtain ⟨h1,h⟩:=Qav h
   obtain rfl:=Option.some.inj h
   exact gr 4 [0] [fF,aZ Qad.enc h1]
 ·obtain ⟨h2,h⟩:=Qav h
  obtain rfl:=Option.some.inj h
  exact gr 9 [0] [oO (neE Qad.enc h0),fF,hH (.bit false),aZ Qad.enc h2]
def QqW (Γ:Gam) (rv:Qak) (cf:Cf):Prop:=Go Tryz.prog Tryz.f38 [] Γ (gG [lL 4 rv.routes Qad.enc,lL 1 rv.unserved Qay]) [] cf
def QqX (Γ:Gam) (rv:Qak) (p:Qak) (c:Qaq) (o:Int) (l:List Qad) (l1:List Int) (v:Int):Prop:=QqW Γ rv ⟨[.c 244,.l 244,.b 0,.c 31],⟨52,[vI 2 o,vP 6 0 2,vP 7 1 2,vL 35 1 p.unserved Qay,vI 36 (lenI p.unserved),vI 37 v],[oX 2 44 [.nils,.nils],oX 2 44 [lO 2 4 l Qad.enc,lO 3 1 l1 Qay],oS 4 34 l Qad.enc,oS 1 3 l1 Qay]⟩⟩
def Qp2 (Γ:Gam) (rv:Qak) (p:Qak) (c:Qaq) (o:Int) (l:List Qad) (l2:List Int):Prop:=QqW Γ rv ⟨[.c 31],⟨52,[vP 6 0 2,vP 7 1 2],[oX 2 44 [.nils,.nils],oX 2 44 [lO 2 4 l Qad.enc,lO 3 1 l2 Qay],oS 4 34 l Qad.enc,oS 1 3 l2 Qay]⟩⟩
theorem QuD (Γ:Gam) (rv:Qak) {p c o l} {s:List Int×Int} {e:List Int} (h:QaT (fun s=>QfO p c o l s.1 s.2) s=some e) (hD:Qp2 Γ rv p c o l e):QqX Γ rv p c o l s.1 s.2:=by
 refine QaC (C:=fun (s:List Int×Int)=>QqX Γ rv p c o l s.1 s.2) (D:=fun (e:List Int)=>Qp2 Γ rv p c o l e) ?_ h hD
 clear h hD s e
 rintro ⟨l1,v⟩ z_ h hI hE
 replace h:QfO p c o l l1 v=_:=h
 unfold QfO at h
 rcases Qah h with ⟨h4,h⟩|⟨h4,h⟩
 ·obtain ⟨x1,h5,h⟩:=Qae h
  rcases Qah h with ⟨h6,h⟩|⟨h6,h⟩
  ·obtain ⟨h7,h⟩:=Qav h
   exact gn 16 [2,6,7,35,36,37] [0,1,2,5] [bT h4,cE Qay h5,bT h6,oO (Eq.refl ([x1].map Qay).length),aO Qay h7] (hI _ (oJ h))
  ·exact gn 16 [2,6,7,35,36,37] [0,1,2,3] [bT h4,cE Qay h5,bF h6] (hI _ (oJ h))
 ·exact gn 5 [6,7] [0,1,2,3] [bF h4] (hE _ (oJ h))
theorem Qp1 (Γ:Gam) (rv:Qak) {p c o l} (h:Qh2 p c o l=some rv):QqW Γ rv ⟨[.c 15],⟨52,[vI 2 o,vP 3 0 2,vP 6 1 2,vP 7 2 2],[oX 2 44 (Qak.enc p),oX 2 44 [.nils,.nils],oX 2 44 [lO 3 4 l Qad.enc,.nils],oS 4 34 l Qad.enc]⟩⟩:=by
 unfold Qh2 at h
 obtain ⟨e0,h8,h⟩:=Qae h
 refine gn 5 [2,6,7,35,36,37] [1,2,3,4] [nL Qay p.unserved,hW 3,hH (.adoptB 2 1 1 3)] (QuD Γ rv h8 ?_)
 obtain ⟨l2,rfl⟩:∃ x,x=e0:=⟨_,rfl⟩
 replace h:(some (Qak.mk l l2):Option Qak)=some _:=h
 obtain rfl:=Option.some.inj h
 exact gr 2 [] [hW 4,hH (.frz 2),hH (.frz 3),rp 3 (eL l Qad.enc),rp 3 (eL l2 Qay)]
theorem QwB {p c o} {rv:Qak} (h:QoX p c o=some rv):AFn Tryz.prog 38 [.agg (Qak.enc p),.agg (Qaq.enc c),.one (lI o)] [] (gG [lL 4 rv.routes Qad.enc,lL 1 rv.unserved Qay]) []:=by
 refine QaM Tryz.func38 (by kernel_rfl) (by kernel_rfl) (fun Γ=>?_)
 unfold QoX at h
 obtain ⟨r,h0,h⟩:=Qae h
 rcases Qah h with ⟨h1,h⟩|⟨h1,h⟩
 ·obtain ⟨x0,h2,h⟩:=Qae h
  exact gn 9 [2,3,6,7] [0,2,4,3] [cC (QdW h0),nL Qad.enc r,bT h1,oO (QtK h2),oO (QtJ Qad.enc h2),rE Qad.enc h2,hH (.rows ((setI r c.at_ c.route).map Qad.enc)),hH (.relen 3 ((setI r c.at_ c.route).map Qad.enc).length),oO (setM Qad.enc r c.at_ c.route),rp 5 (oO (Qxq Qad.enc r c.at_ c.route))] (Qp1 Γ rv h)
 ·obtain ⟨h3,h⟩:=Qav h
  exact gn 9 [2,3,6,7] [0,2,4,6] [cC (QdW h0),nL Qad.enc r,bF h1,oO (Eq.refl ([c.route].map Qad.enc).length),aO Qad.enc h3] (Qp1 Γ rv h)
theorem QoV {r c} {rv:Bool} (h:QkB r c=some rv):AFn Tryz.prog 78 [.agg (Qad.enc r),.one (.ip [lI c] 0)] [] (one (.bool rv)) []:=by
 refine QaM Tryz.func78 (by kernel_rfl) (by kernel_rfl) (fun Γ=>?_)
 unfold QkB at h
 obtain ⟨r1,h0,h⟩:=Qae h
 obtain rfl:=Option.some.inj h
 exact gr 4 [] [cC (Qnb h0)]
def Qda (Γ:Gam) (rv:Int) (cf:Cf):Prop:=Go Tryz.prog Tryz.f102 [] Γ (one (lI rv)) [] cf
def QcL (Γ:Gam) (rv:Int) (s0:List Qad) (c:Int) (v:Int):Prop:=Qda Γ rv ⟨[.c 52,.l 52,.b 0,.c 7],⟨19,[vL 0 4 s0 Qad.enc,(1,one (.fn (.func 78) [.ip [lI c] 0])),vI 7 (lenI s0),vI 8 v],[]⟩⟩
def QcG (Γ:Gam) (rv:Int) (s0:List Qad) (c:Int):Prop:=Qda Γ rv ⟨[.c 7],⟨19,[],[]⟩⟩
theorem QeZ (Γ:Gam) (rv:Int) {s0 c} {s:Int} {e:(Unit)⊕(Int)} (h:QaT (fun s=>QaU s0 c s) s=some e) (hD:sel e (fun e=>QcG Γ rv s0 c) (fun e=>e=rv)):QcL Γ rv s0 c s:=by
 refine QaC (C:=fun (s:Int)=>QcL Γ rv s0 c s) (D:=fun (e:(Unit)⊕(Int))=>sel e (fun e=>QcG Γ rv s0 c) (fun e=>e=rv)) ?_ h hD
 clear h hD s e
 intro v z_ h hI hE
 replace h:QaU s0 c v=_:=h
 unfold QaU at h
 rcases Qah h with ⟨h0,h⟩|⟨h0,h⟩
 ·obtain ⟨x0,h1,h⟩:=Qae h
  obtain ⟨r,h2,h⟩:=Qae h
  rcases Qah h with ⟨h3,h⟩|⟨h3,h⟩
  ·obtain rfl:=(hE _ (oJ h):_=rv)
   exact gr 14 [] [bT h0,cE Qad.enc h1,cC (QoV h2),bT h3]
  ·exact gn 16 [0,1,7,8] [] [bT h0,cE Qad.enc h1,cC (QoV h2),bF h3] (hI _ (oJ h))
 ·exact gn 5 [] [] [bF h0] (hE _ (oJ h))
theorem QfA {s0 c} {rv:Int} (h:Qbn s0 c=some rv):AFn Tryz.prog 102 [.one (lL 4 s0 Qad.enc),.one (.fn (.func 78) [.ip [lI c] 0])] [] (one (lI rv)) []:=by
 refine QaM Tryz.func102 (by kernel_rfl) (by kernel_rfl) (fun Γ=>?_)
 unfold Qbn at h
 obtain ⟨e0,h4,h⟩:=Qae h
 refine gn 7 [0,1,7,8] [] [nL Qad.enc s0] (QeZ Γ rv h4 ?_)
 rcases e0 with e0|e0
 ·replace h:(some (-1):Option Int)=some _:=h
  obtain rfl:=Option.some.inj h
  exact gr 2 [] []
 ·obtain ⟨r1,rfl⟩:∃ x,x=e0:=⟨_,rfl⟩
  replace h:(some r1:Option Int)=some _:=h
  exact Option.some.inj h
theorem QeX {s0 c} {rv:Bool} (h:Qa3 s0 c=some rv):AFn Tryz.prog 77 [.one (lL 4 s0 Qad.enc),.one (.fn (.func 78) [.ip [lI c] 0])] [] (one (.bool rv)) []:=by
 refine QaM Tryz.func77 (by kernel_rfl) (by kernel_rfl) (fun Γ=>?_)
 unfold Qa3 at h
 obtain ⟨r,h0,h⟩:=Qae h
 obtain rfl:=Option.some.inj h
 exact gr 4 [] [cC (QfA h0)]
theorem Qna {p o} {rv:Bool} (h:QkF p o=some rv):AFn Tryz.prog 39 [.agg (Qak.enc p),.one (lI o)] [] (one (.bool rv)) []:=by
 refine QaM Tryz.func39 (by kernel_rfl) (by kernel_rfl) (fun Γ=>?_)
 unfold QkF at h
 obtain ⟨r,h0,h⟩:=Qae h
 obtain rfl:=Option.some.inj h
 exact gr 4 [] [cC (QeX h0)]
def Qg7 (Γ:Gam) (rv:Qak×Int) (cf:Cf):Prop:=Go Tryz.prog Tryz.f14 [] Γ (.tup [.agg [lL 4 rv.1.routes Qad.enc,lL 1 rv.1.unserved Qay],.one (lI rv.2)]) [] cf
def QoQ (Γ:Gam) (rv:Qak×Int) (x0:Qac) (list_:List Int) (v:Int):Prop:=Qg7 Γ rv ⟨[.c 52,.l 52,.b 0,.c 7],⟨100,[vL 1 1 list_ Qay,vP 2 0 6,vP 4 1 2,vL 15 1 list_ Qay,vI 16 (lenI list_),vI 17 v],[oX 6 30 (Qac.enc x0),oX 2 44 [.nils,.nils]]⟩⟩
def Qn1 (Γ:Gam) (rv:Qak×Int) (x0:Qac) (list_:List Int):Prop:=Qg7 Γ rv ⟨[.c 7],⟨100,[vL 1 1 list_ Qay,vP 2 0 6,vP 4 1 2],[oX 6 30 (Qac.enc x0),oX 2 44 [.nils,.nils]]⟩⟩
def QoR (Γ:Gam) (rv:Qak×Int) (x0:Qac) (list_:List Int) (routes:List Qad) (unserved:List Int) (v1:Int):Prop:=Qg7 Γ rv ⟨[.c 244,.l 244,.b 2,.c 31],⟨100,[vP 2 0 6,vP 4 1 2,vP 8 2 2,vL 39 1 list_ Qay,vI 40 (lenI list_),vI 41 v1],[oX 6 30 (Qac.enc x0),oX 2 44 [.nils,.nils],oX 2 44 [lL 4 routes Qad.enc,lL 1 unserved Qay]]⟩⟩
def Qn2 (Γ:Gam) (rv:Qak×Int) (x0:Qac) (list_:List Int) (routes1:List Qad) (unserved1:List Int):Prop:=Qg7 Γ rv ⟨[.c 31],⟨100,[vP 2 0 6,vP 4 1 2,vP 8 2 2],[oX 6 30 (Qac.enc x0),oX 2 44 [.nils,.nils],oX 2 44 [lL 4 routes1 Qad.enc,lL 1 unserved1 Qay]]⟩⟩
def QoS (Γ:Gam) (rv:Qak×Int) (x0:Qac) (routes1:List Qad) (l1:List Int) (v2:Int):Prop:=Qg7 Γ rv ⟨[.c 1012,.l 1012,.b 4,.c 127],⟨100,[vP 4 0 2,vP 8 1 2,vL 74 16 x0.orders Qag.enc,vI 75 (lenI x0.orders),vI 76 v2],[oX 2 44 [.nils,.nils],oX 2 44 [lL 4 routes1 Qad.enc,lO 2 1 l1 Qay],oS 1 3 l1 Qay]⟩⟩
def Qn3 (Γ:Gam) (rv:Qak×Int) (x0:Qac) (routes1:List Qad) (l2:List Int):Prop:=Qg7 Γ rv ⟨[.c 127],⟨100,[vP 4 0 2,vP 8 1 2],[oX 2 44 [.nils,.nils],oX 2 44 [lL 4 routes1 Qad.enc,lO 2 1 l2 Qay],oS 1 3 l2 Qay]⟩⟩
theorem Qtd (Γ:Gam) (rv:Qak×Int) {x0 list_} {s:Int} {e:(Unit)⊕(Qak×Int)} (h:QaT (fun s=>Qel x0 list_ s) s=some e) (hD:sel e (fun e=>Qn1 Γ rv x0 list_) (fun e=>e=rv)):QoQ Γ rv x0 list_ s:=by
 refine QaC (C:=fun (s:Int)=>QoQ Γ rv x0 list_ s) (D:=fun (e:(Unit)⊕(Qak×Int))=>sel e (fun e=>Qn1 Γ rv x0 list_) (fun e=>e=rv)) ?_ h hD
 clear h hD s e
 intro v z_ h hI hE
 replace h:Qel x0 list_ v=_:=h
 unfold Qel at h
 rcases Qah h with ⟨h0,h⟩|⟨h0,h⟩
 ·obtain ⟨x1,h1,h⟩:=Qae h
  rcases Qah h with ⟨h2,h⟩|⟨h2,h⟩
  ·obtain rfl:=(hE _ (oJ h):_=rv)
   exact gr 15 [] [bT h0,cE Qay h1,rp 4 hP,rp 2 (oI ((ltI x1 0)=false)),nL Qag.enc x0.orders,hP,hP,rp 2 (oI ((ltI x1 0)=false)),oR True ((ltI x1 0)=false),bT h2,hW 5,hH (.nilB 1 0 4),hH (.nilB 1 1 1)]
  ·obtain ⟨l,h3,h⟩:=Qae h
   obtain ⟨r,h4,h⟩:=Qae h
   rcases Qah h with ⟨h5,h⟩|⟨h5,h⟩
   ·obtain rfl:=(hE _ (oJ h):_=rv)
    exact gr 19 [] [bT h0,cE Qay h1,rp 4 hP,rp 2 (oI ((ltI x1 0)=false)),nL Qag.enc x0.orders,hP,hP,rp 2 (oI ((ltI x1 0)=false)),oR True ((ltI x1 0)=false),bF h2,hH (.rows (l.map Qay)),oO (sl1 h3),oO (sl2 h3),oO (sl3 Qay h3),oO (Int.le_refl v),oO (sl3 Qay h3),oO (sl6 Qay h3),cC (QhA h4),bT h5,hW 5,hH (.nilB 1 0 4),hH (.nilB 1 1 1)]
   ·exact gn 21 [1,2,4,15,16,17] [0,1] [bT h0,cE Qay h1,rp 4 hP,rp 2 (oI ((ltI x1 0)=false)),nL Qag.enc x0.orders,hP,hP,rp 2 (oI ((ltI x1 0)=false)),oR True ((ltI x1 0)=false),bF h2,hH (.rows (l.map Qay)),oO (sl1 h3),oO (sl2 h3),oO (sl3 Qay h3),oO (Int.le_refl v),oO (sl3 Qay h3),oO (sl6 Qay h3),cC (QhA h4),bF h5] (hI _ (oJ h))
 ·exact gn 5 [1,2,4] [0,1] [bF h0] (hE _ (oJ h))
theorem Qte (Γ:Gam) (rv:Qak×Int) {x0 list_} {s:List Qad×List Int×Int} {e:List Qad×List Int} (h:QaT (fun s=>QcR x0 list_ s.1 s.2.1 s.2.2) s=some e) (hD:Qn2 Γ rv x0 list_ e.1 e.2):QoR Γ rv x0 list_ s.1 s.2.1 s.2.2:=by
 refine QaC (C:=fun (s:List Qad×List Int×Int)=>QoR Γ rv x0 list_ s.1 s.2.1 s.2.2) (D:=fun (e:List Qad×List Int)=>Qn2 Γ rv x0 list_ e.1 e.2) ?_ h hD
 clear h hD s e
 rintro ⟨routes,unserved,v1⟩ z_ h hI hE
 replace h:QcR x0 list_ routes unserved v1=_:=h
 unfold QcR at h
 rcases Qah h with ⟨h7,h⟩|⟨h7,h⟩
 ·obtain ⟨x2,h8,h⟩:=Qae h
  obtain ⟨x3,h9,h⟩:=Qae h
  rcases Qah h with ⟨h10,h⟩|⟨h10,h⟩
  ·exact gn 16 [2,4,8,39,40,41] [0,1,2] [bT h7,cE Qay h8,cE Qag.enc h9,bT h10] (hI _ (oJ h))
  ·obtain ⟨r1,h11,h⟩:=Qae h
   rcases Qah h with ⟨h12,h⟩|⟨h12,h⟩
   ·obtain ⟨r2,h13,h⟩:=Qae h
    rcases Qah h with ⟨h14,h⟩|⟨h14,h⟩
    ·obtain ⟨r3,h15,h⟩:=Qae h
     exact gn 23 [2,4,8,39,40,41] [0,1,2] [bT h7,cE Qay h8,cE Qag.enc h9,bF h10,cC (QpG h11),rp 5 (bT h12),cC (Qsx h13),bT h12,bT h14,cC (QwB h15)] (hI _ (oJ h))
    ·exact gn 23 [2,4,8,39,40,41] [0,1,2] [bT h7,cE Qay h8,cE Qag.enc h9,bF h10,cC (QpG h11),rp 5 (bT h12),cC (Qsx h13),bT h12,bF h14] (hI _ (oJ h))
   ·exact gn 23 [2,4,8,39,40,41] [0,1,2] [bT h7,cE Qay h8,cE Qag.enc h9,bF h10,cC (QpG h11),rp 6 (bF h12),fF] (hI _ (oJ h))
 ·exact gn 5 [2,4,8] [0,1,2] [bF h7] (hE _ (oJ h))
theorem Qtf (Γ:Gam) (rv:Qak×Int) {x0 routes1} {s:List Int×Int} {e:(List Int)⊕(Qak×Int)} (h:QaT (fun s=>Qcn x0 routes1 s.1 s.2) s=some e) (hD:sel e (fun e=>Qn3 Γ rv x0 routes1 e) (fun e=>e=rv)):QoS Γ rv x0 routes1 s.1 s.2:=by
 refine QaC (C:=fun (s:List Int×Int)=>QoS Γ rv x0 routes1 s.1 s.2) (D:=fun (e:(List Int)⊕(Qak×Int))=>sel e (fun e=>Qn3 Γ rv x0 routes1 e) (fun e=>e=rv)) ?_ h hD
 clear h hD s e
 rintro ⟨l1,v2⟩ z_ h hI hE
 replace h:Qcn x0 routes1 l1 v2=_:=h
 unfold Qcn at h
 rcases Qah h with ⟨h17,h⟩|⟨h17,h⟩
 ·obtain ⟨x4,h18,h⟩:=Qae h
  rcases Qah h with ⟨h19,h⟩|⟨h19,h⟩
  ·exact gn 16 [4,8,74,75,76] [0,1,2] [bT h17,cE Qag.enc h18,rp 4 (bT h19),tT] (hI _ (oJ h))
  ·obtain ⟨r4,h20,h⟩:=Qae h
   rcases Qah h with ⟨h21,h⟩|⟨h21,h⟩
   ·exact gn 16 [4,8,74,75,76] [0,1,2] [bT h17,cE Qag.enc h18,rp 3 (bF h19),eL l1 Qay,cC (Qna h20),bF h19,bT h21] (hI _ (oJ h))
   ·rcases Qah h with ⟨h22,h⟩|⟨h22,h⟩
    ·obtain rfl:=(hE _ (oJ h):_=rv)
     exact gr 20 [] [bT h17,cE Qag.enc h18,rp 3 (bF h19),eL l1 Qay,cC (Qna h20),bF h19,bF h21,bT h22,hW 5,hH (.nilB 0 0 4),hH (.nilB 0 1 1)]
    ·obtain ⟨h23,h⟩:=Qav h
     exact gn 23 [4,8,74,75,76] [0,1,5] [bT h17,cE Qag.enc h18,rp 3 (bF h19),eL l1 Qay,cC (Qna h20),bF h19,bF h21,bF h22,oO (Eq.refl ([v2].map Qay).length),aO Qay h23] (hI _ (oJ h))
 ·exact gn 5 [4,8] [0,1,2] [bF h17] (hE _ (oJ h))
theorem Qem {x0 list_} {rv:Qak×Int} (h:Qi2 x0 list_=some rv):AFn Tryz.prog 14 [.agg (Qac.enc x0),.one (lL 1 list_ Qay)] [] (.tup [.agg [lL 4 rv.1.routes Qad.enc,lL 1 rv.1.unserved Qay],.one (lI rv.2)]) []:=by
 refine QaM Tryz.func14 (by kernel_rfl) (by kernel_rfl) (fun Γ=>?_)
 unfold Qi2 at h
 obtain ⟨e0,h6,h⟩:=Qae h
 refine gn 7 [1,2,4,15,16,17] [0,1] [nL Qay list_] (Qtd Γ rv h6 ?_)
 rcases e0 with e0|e0
 ·replace h:(bnd (QaT (fun s=>QcR x0 list_ s.1 s.2.1 s.2.2) ([],[],0)) (fun e0=>(fun routes1 unserved1=>bnd (QaT (fun s=>Qcn x0 routes1 s.1 s.2) ([],0)) (fun e=>sel e (fun l2=>some ((Qak.mk routes1 l2),0)) (fun r5=>some r5))) e0.1 e0.2):Option (Qak×Int))=some _:=h
  obtain ⟨e1,h16,h⟩:=Qae h
  refine gn 7 [2,4,8,39,40,41] [0,1,2] [nL Qay list_,hW 3,hH (.nilB 2 0 4),hH (.nilB 2 1 1)] (Qte Γ rv h16 ?_)
  obtain ⟨routes1,unserved1⟩:=e1
  replace h:(bnd (QaT (fun s=>Qcn x0 routes1 s.1 s.2) ([],0)) (fun e=>sel e (fun l2=>some ((Qak.mk routes1 l2),0)) (fun r5=>some r5)):Option (Qak×Int))=some _:=h
  obtain ⟨e2,h24,h⟩:=Qae h
  refine gn 7 [4,8,74,75,76] [1,2,3] [nL Qag.enc x0.orders,hW 3,hH (.adoptB 2 1 1 3)] (Qtf Γ rv h24 ?_)
  rcases e2 with e2|e2
  ·obtain ⟨l2,rfl⟩:∃ x,x=e2:=⟨_,rfl⟩
   replace h:(some ((Qak.mk routes1 l2),0):Option (Qak×Int))=some _:=h
   obtain rfl:=Option.some.inj h
   exact gr 2 [] [hW 5,hH (.frz 2),rp 3 (eL l2 Qay)]
  ·obtain ⟨r5,rfl⟩:∃ x,x=e2:=⟨_,rfl⟩
   replace h:(some r5:Option (Qak×Int))=some _:=h
   exact Option.some.inj h
 ·obtain ⟨r6,rfl⟩:∃ x,x=e0:=⟨_,rfl⟩
  replace h:(some r6:Option (Qak×Int))=some _:=h
  exact Option.some.inj h
def Qho (Γ:Gam) (rv:Qac) (cf:Cf):Prop:=Go Tryz.prog Tryz.f24 [] Γ (gG [lL 1 rv.net.places QmO,lL 6 rv.net.arcs Qas.enc,lL 14 rv.types Qal.enc,lL 16 rv.orders Qag.enc,lL 2 rv.apart QaR.enc,lL 2 rv.before QaR.enc]) [] cf
def QkH (Γ:Gam) (rv:Qac) (l:List Qas) (v:Int):Prop:=Qho Γ rv ⟨[.c 116,.l 116,.b 0,.c 15],⟨65,[vP 0 0 6,vP 1 1 6,vO 15 2 3 [(QfM.mk 0 1 10),(QfM.mk 1 0 10),(QfM.mk 0 2 20),(QfM.mk 2 0 20),(QfM.mk 1 2 10),(QfM.mk 2 1 10)] QfM.enc,vI 16 (lenI [(QfM.mk 0 1 10),(QfM.mk 1 0 10),(QfM.mk 0 2 20),(QfM.mk 2 0 20),(QfM.mk 1 2 10),(QfM.mk 2 1 10)]),vI 17 v],[oX 6 30 [.nils,.nils,.nils,.nils,.nils,.nils],oX 6 30 [lO 3 1 [Qg6,QlT,QlU] QmO,lO 4 6 l Qas.enc,.nils,.nils,.nils,.nils],oS 3 116 [(QfM.mk 0 1 10),(QfM.mk 1 0 10),(QfM.mk 0 2 20),(QfM.mk 2 0 20),(QfM.mk 1 2 10),(QfM.mk 2 1 10)] QfM.enc,oS 1 9 [Qg6,QlT,QlU] QmO,oS 6 122 l Qas.enc]⟩⟩
def QjY (Γ:Gam) (rv:Qac) (l1:List Qas):Prop:=Qho Γ rv ⟨[.c 15],⟨65,[vP 0 0 6,vP 1 1 6],[oX 6 30 [.nils,.nils,.nils,.nils,.nils,.nils],oX 6 30 [lO 2 1 [Qg6,QlT,QlU] QmO,lO 3 6 l1 Qas.enc,.nils,.nils,.nils,.nils],oS 1 9 [Qg6,QlT,QlU] QmO,oS 6 122 l1 Qas.enc]⟩⟩
def QkI (Γ:Gam) (rv:Qac) (l1:List Qas) (l2:List Qag) (v1:Int):Prop:=Qho Γ rv ⟨[.c 500,.l 500,.b 2,.c 63],⟨65,[vP 0 0 6,vP 1 1 6,vO 44 2 1 [Qt5,Qt6] QmO,vI 45 (lenI [Qt5,Qt6]),vI 46 v1],[oX 6 30 [.nils,.nils,.nils,.nils,.nils,.nils],oX 6 30 [lO 3 1 [Qg6,QlT,QlU] QmO,lO 4 6 l1 Qas.enc,lO 5 14 [(Qal.mk QrC 1 0 0 [2] 0 0 0 100 100 0 0 1 0)] Qal.enc,lO 6 16 l2 Qag.enc,.nils,.nils],oS 1 9 [Qt5,Qt6] QmO,oS 1 9 [Qg6,QlT,QlU] QmO,oS 6 122 l1 Qas.enc,oS 14 124 [(Qal.mk QrC 1 0 0 [2] 0 0 0 100 100 0 0 1 0)] Qal.enc,oS 16 74 l2 Qag.enc]⟩⟩
def QjZ (Γ:Gam) (rv:Qac) (l1:List Qas) (l3:List Qag):Prop:=Qho Γ rv ⟨[.c 63],⟨65,[vP 0 0 6,vP 1 1 6],[oX 6 30 [.nils,.nils,.nils,.nils,.nils,.nils],oX 6 30 [lO 2 1 [Qg6,QlT,QlU] QmO,lO 3 6 l1 Qas.enc,lO 4 14 [(Qal.mk QrC 1 0 0 [2] 0 0 0 100 100 0 0 1 0)] Qal.enc,lO 5 16 l3 Qag.enc,.nils,.nils],oS 1 9 [Qg6,QlT,QlU] QmO,oS 6 122 l1 Qas.enc,oS 14 124 [(Qal.mk QrC 1 0 0 [2] 0 0 0 100 100 0 0 1 0)] Qal.enc,oS 16 74 l3 Qag.enc]⟩⟩
theorem Qqn (Γ:Gam) (rv:Qac) {s:List Qas×Int} {e:List Qas} (h:QaT (fun s=>QgG s.1 s.2) s=some e) (hD:QjY Γ rv e):QkH Γ rv s.1 s.2:=by
 refine QaC (C:=fun (s:List Qas×Int)=>QkH Γ rv s.1 s.2) (D:=fun (e:List Qas)=>QjY Γ rv e) ?_ h hD
 clear h hD s e
 rintro ⟨l,v⟩ z_ h hI hE
 replace h:QgG l v=_:=h
 unfold QgG at h
 rcases Qah h with ⟨h0,h⟩|⟨h0,h⟩
 ·obtain ⟨x0,h1,h⟩:=Qae h
  obtain ⟨h2,h⟩:=Qav h
  exact gn 13 [0,1,15,16,17] [0,1,2,3,8] [bT h0,oO (QtK h1),oO (QtJ QfM.enc h1),rE QfM.enc h1,hW 17,hH (.frz 6),hH (.nilS 34 5 2),oO (zL 0),oO (lT 0 3),oO (zL 1),oO (lT 1 3),oO (zL 2),oO (lT 2 3),oO (zL 2),oO (lT 2 3),rp 2 (oO (Eq.refl ([(Qao.mk 0 x0.x2)].map Qao.enc).length)),oO (Eq.refl ([(Qas.mk x0.x0 x0.x1 0 x0.x2 [(Qao.mk 0 x0.x2)] [])].map Qas.enc).length),aO Qas.enc h2] (hI _ (oJ h))
 ·exact gn 5 [0,1] [0,1,3,4] [bF h0] (hE _ (oJ h))
theorem Qqo (Γ:Gam) (rv:Qac) {l1} {s:List Qag×Int} {e:List Qag} (h:QaT (fun s=>Qfn l1 s.1 s.2) s=some e) (hD:QjZ Γ rv l1 e):QkI Γ rv l1 s.1 s.2:=by
 refine QaC (C:=fun (s:List Qag×Int)=>QkI Γ rv l1 s.1 s.2) (D:=fun (e:List Qag)=>QjZ Γ rv l1 e) ?_ h hD
 clear h hD s e
 rintro ⟨l2,v1⟩ z_ h hI hE
 replace h:Qfn l1 l2 v1=_:=h
 unfold Qfn at h
 rcases Qah h with ⟨h4,h⟩|⟨h4,h⟩
 ·obtain ⟨x1,h5,h⟩:=Qae h
  obtain ⟨h6,h⟩:=Qav h
  exact gn 13 [0,1,44,45,46] [0,1,2,3,4,5,9] [bT h4,oO (QtK h5),oO (QtJ QmO h5),rE QmO h5,hW 12,hH (.frz 7),rp 2 (oO (Eq.refl ([1].map Qay).length)),oO (Eq.refl ([(Qag.mk x1 [1] (Qaw.mk (-1) 0 0 0) (Qaw.mk (addK .i64 v1 1) 0 90 0) 0 30 1 (-1) (-1) false)].map Qag.enc).length),aO Qag.enc h6] (hI _ (oJ h))
 ·exact gn 5 [0,1] [0,1,3,4,5,6] [bF h4] (hE _ (oJ h))
theorem Qfo {rv:Qac} (h:QlO=some rv):AFn Tryz.prog 24 [] [] (gG [lL 1 rv.net.places QmO,lL 6 rv.net.arcs Qas.enc,lL 14 rv.types Qal.enc,lL 16 rv.orders Qag.enc,lL 2 rv.apart QaR.enc,lL 2 rv.before QaR.enc]) []:=by
 refine QaM Tryz.func24 (by kernel_rfl) (by kernel_rfl) (fun Γ=>?_)
 unfold QlO at h
 obtain ⟨e0,h3,h⟩:=Qae h
 refine gn 9 [0,1,15,16,17] [0,2,3,1,4] [nL QfM.enc [(QfM.mk 0 1 10),(QfM.mk 1 0 10),(QfM.mk 0 2 20),(QfM.mk 2 0 20),(QfM.mk 1 2 10),(QfM.mk 2 1 10)],hW 3,hH (.adoptB 2 1 6 122)] (Qqn Γ rv h3 ?_)
 obtain ⟨l1,rfl⟩:∃ x,x=e0:=⟨_,rfl⟩
 replace h:(bnd (QaT (fun s=>Qfn l1 s.1 s.2) ([],0)) (fun l3=>some (Qac.mk (Qam.mk [Qg6,QlT,QlU] l1) [(Qal.mk QrC 1 0 0 [2] 0 0 0 100 100 0 0 1 0)] l3 [] [])):Option Qac)=some _:=h
 obtain ⟨e1,h7,h⟩:=Qae h
 refine gn 7 [0,1,44,45,46] [0,1,6,2,3,5,7] [hW 4,hH (.frz 4),rp 2 (oO (Eq.refl ([2].map Qay).length)),nL QmO [Qt5,Qt6],hW 3,hH (.adoptB 1 3 16 74)] (Qqo Γ rv h7 ?_)
 obtain ⟨l3,rfl⟩:∃ x,x=e1:=⟨_,rfl⟩
 replace h:(some (Qac.mk (Qam.mk [Qg6,QlT,QlU] l1) [(Qal.mk QrC 1 0 0 [2] 0 0 0 100 100 0 0 1 0)] l3 [] []):Option Qac)=some _:=h
 obtain rfl:=Option.some.inj h
 exact gr 2 [] [hW 4,hH (.frz 2),hH (.frz 3),hH (.frz 4),hH (.frz 5),hH (.nilB 0 4 2),hH (.nilB 0 5 2),rp 3 (oO (Eq.refl ([Qg6,QlT,QlU].map QmO).length)),rp 3 (eL l1 Qas.enc),rp 3 (oO (Eq.refl ([(Qal.mk QrC 1 0 0 [2] 0 0 0 100 100 0 0 1 0)].map Qal.enc).length)),rp 3 (eL l3 Qag.enc)]
theorem QkG {rv:Bool} (h:QfQ=some rv):AFn Tryz.prog 10 [] [] (one (.bool rv)) []:=by
 refine QaM Tryz.func10 (by kernel_rfl) (by kernel_rfl) (fun Γ=>?_)
 unfold QfQ at h
 obtain ⟨r,h0,h⟩:=Qae h
 obtain ⟨r1,h1,h⟩:=Qae h
 obtain ⟨r2,h2,h⟩:=Qae h
 obtain ⟨r3,h3,h⟩:=Qae h
 obtain ⟨r4,h4,h⟩:=Qae h
 rcases Qah h with ⟨h5,h⟩|⟨h5,h⟩
 ·obtain rfl:=Option.some.inj h
  exact gr 20 [] [cC (Qfo h0),hW 16,hH (.frz 3),hH (.nilS 22 2 1),rp 2 (oO (Eq.refl ([(Qaa.mk 1 true)].map Qaa.enc).length)),cC (QbM h1),hW 15,hH (.frz 5),hH (.frz 6),rp 2 (oO (Eq.refl ([false].map Qbd).length)),rp 2 (oO (Eq.refl ([(Qaa.mk 1 true)].map Qaa.enc).length)),cC (QbM h2),hW 12,hH (.frz 8),oO (Eq.refl ([0,1].map Qay).length),cC (Qem h3),hW 10,hH (.nilS 45 2 1),hH (.nilS 45 3 2),cC (QbM h4),rp 12 hP,oI ((neI r1.2.2 0)=false),oR True ((neI r1.2.2 0)=false),oI (((neI r1.2.2 0)||(neI r2.2.2 0))=false),oR True (((neI r1.2.2 0)||(neI r2.2.2 0))=false),oI ((((neI r1.2.2 0)||(neI r2.2.2 0))||(neI r3.2 0))=false),oR True ((((neI r1.2.2 0)||(neI r2.2.2 0))||(neI r3.2 0))=false),rp 2 (oI (((((neI r1.2.2 0)||(neI r2.2.2 0))||(neI r3.2 0))||(neI r4.2.2 2))=false)),nL Qaa.enc r1.1.visits,rp 5 hP,oI (((((neI r1.2.2 0)||(neI r2.2.2 0))||(neI r3.2 0))||(neI r4.2.2 2))=false),oR True (((((neI r1.2.2 0)||(neI r2.2.2 0))||(neI r3.2 0))||(neI r4.2.2 2))=false),rp 2 (oI ((((((neI r1.2.2 0)||(neI r2.2.2 0))||(neI r3.2 0))||(neI r4.2.2 2))||(neI (lenI r1.1.visits) 2))=false)),nL Qaa.enc r2.1.visits,rp 5 hP,oI ((((((neI r1.2.2 0)||(neI r2.2.2 0))||(neI r3.2 0))||(neI r4.2.2 2))||(neI (lenI r1.1.visits) 2))=false),oR True ((((((neI r1.2.2 0)||(neI r2.2.2 0))||(neI r3.2 0))||(neI r4.2.2 2))||(neI (lenI r1.1.visits) 2))=false),rp 2 (oI (((((((neI r1.2.2 0)||(neI r2.2.2 0))||(neI r3.2 0))||(neI r4.2.2 2))||(neI (lenI r1.1.visits) 2))||(neI (lenI r2.1.visits) 2))=false)),nL Qad.enc r3.1.routes,hP,hP,oI (((((((neI r1.2.2 0)||(neI r2.2.2 0))||(neI r3.2 0))||(neI r4.2.2 2))||(neI (lenI r1.1.visits) 2))||(neI (lenI r2.1.visits) 2))=false),oR True (((((((neI r1.2.2 0)||(neI r2.2.2 0))||(neI r3.2 0))||(neI r4.2.2 2))||(neI (lenI r1.1.visits) 2))||(neI (lenI r2.1.visits) 2))=false),bT h5]
 ·obtain ⟨x0,h6,h⟩:=Qae h
  rcases Qah h with ⟨h7,h⟩|⟨h7,h⟩
  ·obtain ⟨x1,h8,h⟩:=Qae h
   rcases Qah h with ⟨h9,h⟩|⟨h9,h⟩
   ·obtain ⟨x2,h10,h⟩:=Qae h
    rcases Qah h with ⟨h11,h⟩|⟨h11,h⟩
    ·obtain ⟨x3,h12,h⟩:=Qae h
     obtain rfl:=Option.some.inj h
     exact gr 21 [] [cC (Qfo h0),hW 16,hH (.frz 3),hH (.nilS 22 2 1),rp 2 (oO (Eq.refl ([(Qaa.mk 1 true)].map Qaa.enc).length)),cC (QbM h1),hW 15,hH (.frz 5),hH (.frz 6),rp 2 (oO (Eq.refl ([false].map Qbd).length)),rp 2 (oO (Eq.refl ([(Qaa.mk 1 true)].map Qaa.enc).length)),cC (QbM h2),hW 12,hH (.frz 8),oO (Eq.refl ([0,1].map Qay).length),cC (Qem h3),hW 10,hH (.nilS 45 2 1),hH (.nilS 45 3 2),cC (QbM h4),rp 12 hP,oI ((neI r1.2.2 0)=false),oR True ((neI r1.2.2 0)=false),oI (((neI r1.2.2 0)||(neI r2.2.2 0))=false),oR True (((neI r1.2.2 0)||(neI r2.2.2 0))=false),oI ((((neI r1.2.2 0)||(neI r2.2.2 0))||(neI r3.2 0))=false),oR True ((((neI r1.2.2 0)||(neI r2.2.2 0))||(neI r3.2 0))=false),rp 2 (oI (((((neI r1.2.2 0)||(neI r2.2.2 0))||(neI r3.2 0))||(neI r4.2.2 2))=false)),nL Qaa.enc r1.1.visits,rp 5 hP,oI (((((neI r1.2.2 0)||(neI r2.2.2 0))||(neI r3.2 0))||(neI r4.2.2 2))=false),oR True (((((neI r1.2.2 0)||(neI r2.2.2 0))||(neI r3.2 0))||(neI r4.2.2 2))=false),rp 2 (oI ((((((neI r1.2.2 0)||(neI r2.2.2 0))||(neI r3.2 0))||(neI r4.2.2 2))||(neI (lenI r1.1.visits) 2))=false)),nL Qaa.enc r2.1.visits,rp 5 hP,oI ((((((neI r1.2.2 0)||(neI r2.2.2 0))||(neI r3.2 0))||(neI r4.2.2 2))||(neI (lenI r1.1.visits) 2))=false),oR True ((((((neI r1.2.2 0)||(neI r2.2.2 0))||(neI r3.2 0))||(neI r4.2.2 2))||(neI (lenI r1.1.visits) 2))=false),rp 2 (oI (((((((neI r1.2.2 0)||(neI r2.2.2 0))||(neI r3.2 0))||(neI r4.2.2 2))||(neI (lenI r1.1.visits) 2))||(neI (lenI r2.1.visits) 2))=false)),nL Qad.enc r3.1.routes,hP,hP,oI (((((((neI r1.2.2 0)||(neI r2.2.2 0))||(neI r3.2 0))||(neI r4.2.2 2))||(neI (lenI r1.1.visits) 2))||(neI (lenI r2.1.visits) 2))=false),oR True (((((((neI r1.2.2 0)||(neI r2.2.2 0))||(neI r3.2 0))||(neI r4.2.2 2))||(neI (lenI r1.1.visits) 2))||(neI (lenI r2.1.visits) 2))=false),bF h5,hH (.draw 42 []),cE Qaa.enc h6,hP,hP,hP,oI ((eqI x0.order 0&&(eqB x0.drop true&&true))=true),oR True ((eqI x0.order 0&&(eqB x0.drop true&&true))=true),rp 3 (bT h7),cE Qaa.enc h8,rp 4 (bT h7),rp 3 (bT h9),cE Qaa.enc h10,rp 4 (bT h9),rp 3 (bT h11),cE Qad.enc h12,rp 3 (bT h11),nL Qaa.enc x3.visits,rp 2 (bT h11),hP,hP,hP,rp 2 (oI ((eqI (lenI x3.visits) 2)=true)),nL Qay r3.1.unserved,hP,hP,oI ((eqI (lenI x3.visits) 2)=true),oR True ((eqI (lenI x3.visits) 2)=true)]
    ·obtain rfl:=Option.some.inj h
     exact gr 21 [] [cC (Qfo h0),hW 16,hH (.frz 3),hH (.nilS 22 2 1),rp 2 (oO (Eq.refl ([(Qaa.mk 1 true)].map Qaa.enc).length)),cC (QbM h1),hW 15,hH (.frz 5),hH (.frz 6),rp 2 (oO (Eq.refl ([false].map Qbd).length)),rp 2 (oO (Eq.refl ([(Qaa.mk 1 true)].map Qaa.enc).length)),cC (QbM h2),hW 12,hH (.frz 8),oO (Eq.refl ([0,1].map Qay).length),cC (Qem h3),hW 10,hH (.nilS 45 2 1),hH (.nilS 45 3 2),cC (QbM h4),rp 12 hP,oI ((neI r1.2.2 0)=false),oR True ((neI r1.2.2 0)=false),oI (((neI r1.2.2 0)||(neI r2.2.2 0))=false),oR True (((neI r1.2.2 0)||(neI r2.2.2 0))=false),oI ((((neI r1.2.2 0)||(neI r2.2.2 0))||(neI r3.2 0))=false),oR True ((((neI r1.2.2 0)||(neI r2.2.2 0))||(neI r3.2 0))=false),rp 2 (oI (((((neI r1.2.2 0)||(neI r2.2.2 0))||(neI r3.2 0))||(neI r4.2.2 2))=false)),nL Qaa.enc r1.1.visits,rp 5 hP,oI (((((neI r1.2.2 0)||(neI r2.2.2 0))||(neI r3.2 0))||(neI r4.2.2 2))=false),oR True (((((neI r1.2.2 0)||(neI r2.2.2 0))||(neI r3.2 0))||(neI r4.2.2 2))=false),rp 2 (oI ((((((neI r1.2.2 0)||(neI r2.2.2 0))||(neI r3.2 0))||(neI r4.2.2 2))||(neI (lenI r1.1.visits) 2))=false)),nL Qaa.enc r2.1.visits,rp 5 hP,oI ((((((neI r1.2.2 0)||(neI r2.2.2 0))||(neI r3.2 0))||(neI r4.2.2 2))||(neI (lenI r1.1.visits) 2))=false),oR True ((((((neI r1.2.2 0)||(neI r2.2.2 0))||(neI r3.2 0))||(neI r4.2.2 2))||(neI (lenI r1.1.visits) 2))=false),rp 2 (oI (((((((neI r1.2.2 0)||(neI r2.2.2 0))||(neI r3.2 0))||(neI r4.2.2 2))||(neI (lenI r1.1.visits) 2))||(neI (lenI r2.1.visits) 2))=false)),nL Qad.enc r3.1.routes,hP,hP,oI (((((((neI r1.2.2 0)||(neI r2.2.2 0))||(neI r3.2 0))||(neI r4.2.2 2))||(neI (lenI r1.1.visits) 2))||(neI (lenI r2.1.visits) 2))=false),oR True (((((((neI r1.2.2 0)||(neI r2.2.2 0))||(neI r3.2 0))||(neI r4.2.2 2))||(neI (lenI r1.1.visits) 2))||(neI (lenI r2.1.visits) 2))=false),bF h5,hH (.draw 42 []),cE Qaa.enc h6,hP,hP,hP,oI ((eqI x0.order 0&&(eqB x0.drop true&&true))=true),oR True ((eqI x0.order 0&&(eqB x0.drop true&&true))=true),rp 3 (bT h7),cE Qaa.enc h8,rp 4 (bT h7),rp 3 (bT h9),cE Qaa.enc h10,rp 4 (bT h9),rp 8 (bF h11),rp 5 fF]
   ·obtain rfl:=Option.some.inj h
    exact gr 21 [] [cC (Qfo h0),hW 16,hH (.frz 3),hH (.nilS 22 2 1),rp 2 (oO (Eq.refl ([(Qaa.mk 1 true)].map Qaa.enc).length)),cC (QbM h1),hW 15,hH (.frz 5),hH (.frz 6),rp 2 (oO (Eq.refl ([false].map Qbd).length)),rp 2 (oO (Eq.refl ([(Qaa.mk 1 true)].map Qaa.enc).length)),cC (QbM h2),hW 12,hH (.frz 8),oO (Eq.refl ([0,1].map Qay).length),cC (Qem h3),hW 10,hH (.nilS 45 2 1),hH (.nilS 45 3 2),cC (QbM h4),rp 12 hP,oI ((neI r1.2.2 0)=false),oR True ((neI r1.2.2 0)=false),oI (((neI r1.2.2 0)||(neI r2.2.2 0))=false),oR True (((neI r1.2.2 0)||(neI r2.2.2 0))=false),oI ((((neI r1.2.2 0)||(neI r2.2.2 0))||(neI r3.2 0))=false),oR True ((((neI r1.2.2 0)||(neI r2.2.2 0))||(neI r3.2 0))=false),rp 2 (oI (((((neI r1.2.2 0)||(neI r2.2.2 0))||(neI r3.2 0))||(neI r4.2.2 2))=false)),nL Qaa.enc r1.1.visits,rp 5 hP,oI (((((neI r1.2.2 0)||(neI r2.2.2 0))||(neI r3.2 0))||(neI r4.2.2 2))=false),oR True (((((neI r1.2.2 0)||(neI r2.2.2 0))||(neI r3.2 0))||(neI r4.2.2 2))=false),rp 2 (oI ((((((neI r1.2.2 0)||(neI r2.2.2 0))||(neI r3.2 0))||(neI r4.2.2 2))||(neI (lenI r1.1.visits) 2))=false)),nL Qaa.enc r2.1.visits,rp 5 hP,oI ((((((neI r1.2.2 0)||(neI r2.2.2 0))||(neI r3.2 0))||(neI r4.2.2 2))||(neI (lenI r1.1.visits) 2))=false),oR True ((((((neI r1.2.2 0)||(neI r2.2.2 0))||(neI r3.2 0))||(neI r4.2.2 2))||(neI (lenI r1.1.visits) 2))=false),rp 2 (oI (((((((neI r1.2.2 0)||(neI r2.2.2 0))||(neI r3.2 0))||(neI r4.2.2 2))||(neI (lenI r1.1.visits) 2))||(neI (lenI r2.1.visits) 2))=false)),nL Qad.enc r3.1.routes,hP,hP,oI (((((((neI r1.2.2 0)||(neI r2.2.2 0))||(neI r3.2 0))||(neI r4.2.2 2))||(neI (lenI r1.1.visits) 2))||(neI (lenI r2.1.visits) 2))=false),oR True (((((((neI r1.2.2 0)||(neI r2.2.2 0))||(neI r3.2 0))||(neI r4.2.2 2))||(neI (lenI r1.1.visits) 2))||(neI (lenI r2.1.visits) 2))=false),bF h5,hH (.draw 42 []),cE Qaa.enc h6,hP,hP,hP,oI ((eqI x0.order 0&&(eqB x0.drop true&&true))=true),oR True ((eqI x0.order 0&&(eqB x0.drop true&&true))=true),rp 3 (bT h7),cE Qaa.enc h8,rp 4 (bT h7),rp 7 (bF h9),rp 13 fF]
  ·obtain rfl:=Option.some.inj h
   exact gr 21 [] [cC (Qfo h0),hW 16,hH (.frz 3),hH (.nilS 22 2 1),rp 2 (oO (Eq.refl ([(Qaa.mk 1 true)].map Qaa.enc).length)),cC (QbM h1),hW 15,hH (.frz 5),hH (.frz 6),rp 2 (oO (Eq.refl ([false].map Qbd).length)),rp 2 (oO (Eq.refl ([(Qaa.mk 1 true)].map Qaa.enc).length)),cC (QbM h2),hW 12,hH (.frz 8),oO (Eq.refl ([0,1].map Qay).length),cC (Qem h3),hW 10,hH (.nilS 45 2 1),hH (.nilS 45 3 2),cC (QbM h4),rp 12 hP,oI ((neI r1.2.2 0)=false),oR True ((neI r1.2.2 0)=false),oI (((neI r1.2.2 0)||(neI r2.2.2 0))=false),oR True (((neI r1.2.2 0)||(neI r2.2.2 0))=false),oI ((((neI r1.2.2 0)||(neI r2.2.2 0))||(neI r3.2 0))=false),oR True ((((neI r1.2.2 0)||(neI r2.2.2 0))||(neI r3.2 0))=false),rp 2 (oI (((((neI r1.2.2 0)||(neI r2.2.2 0))||(neI r3.2 0))||(neI r4.2.2 2))=false)),nL Qaa.enc r1.1.visits,rp 5 hP,oI (((((neI r1.2.2 0)||(neI r2.2.2 0))||(neI r3.2 0))||(neI r4.2.2 2))=false),oR True (((((neI r1.2.2 0)||(neI r2.2.2 0))||(neI r3.2 0))||(neI r4.2.2 2))=false),rp 2 (oI ((((((neI r1.2.2 0)||(neI r2.2.2 0))||(neI r3.2 0))||(neI r4.2.2 2))||(neI (lenI r1.1.visits) 2))=false)),nL Qaa.enc r2.1.visits,rp 5 hP,oI ((((((neI r1.2.2 0)||(neI r2.2.2 0))||(neI r3.2 0))||(neI r4.2.2 2))||(neI (lenI r1.1.visits) 2))=false),oR True ((((((neI r1.2.2 0)||(neI r2.2.2 0))||(neI r3.2 0))||(neI r4.2.2 2))||(neI (lenI r1.1.visits) 2))=false),rp 2 (oI (((((((neI r1.2.2 0)||(neI r2.2.2 0))||(neI r3.2 0))||(neI r4.2.2 2))||(neI (lenI r1.1.visits) 2))||(neI (lenI r2.1.visits) 2))=false)),nL Qad.enc r3.1.routes,hP,hP,oI (((((((neI r1.2.2 0)||(neI r2.2.2 0))||(neI r3.2 0))||(neI r4.2.2 2))||(neI (lenI r1.1.visits) 2))||(neI (lenI r2.1.visits) 2))=false),oR True (((((((neI r1.2.2 0)||(neI r2.2.2 0))||(neI r3.2 0))||(neI r4.2.2 2))||(neI (lenI r1.1.visits) 2))||(neI (lenI r2.1.visits) 2))=false),bF h5,hH (.draw 42 []),cE Qaa.enc h6,hP,hP,hP,oI ((eqI x0.order 0&&(eqB x0.drop true&&true))=true),oR True ((eqI x0.order 0&&(eqB x0.drop true&&true))=true),rp 7 (bF h7),rp 20 fF]
theorem Qd4 {x0 order} {rv:Bool} (h:QfK x0 order=some rv):AFn Tryz.prog 29 [.agg (Qac.enc x0),.one (lI order)] [] (one (.bool rv)) []:=by
 refine QaM Tryz.func29 (by kernel_rfl) (by kernel_rfl) (fun Γ=>?_)
 unfold QfK at h
 obtain rfl:=Option.some.inj h
 exact gr 4 [] [rp 4 hP,rp 2 (oI ((geI order 0)=true)),nL Qag.enc x0.orders,hP,hP,rp 2 (oI ((geI order 0)=true)),oR True ((geI order 0)=true)]
def Qsz (Γ:Gam) (rv:Bool) (cf:Cf):Prop:=Go Tryz.prog Tryz.f30 [] Γ (one (.bool rv)) [] cf
def Qpl (Γ:Gam) (rv:Bool) (r:Qad) (order:Int) (i:Int):Prop:=Qsz Γ rv ⟨[.c 52,.l 52,.b 0,.c 7],⟨21,[vI 1 order,vP 2 0 4,vI 5 i],[oX 4 34 (Qad.enc r)]⟩⟩
def Qol (Γ:Gam) (rv:Bool) (r:Qad) (order:Int):Prop:=Qsz Γ rv ⟨[.c 7],⟨21,[],[]⟩⟩
theorem Qtu (Γ:Gam) (rv:Bool) {r order} {s:Int} {e:(Unit)⊕(Bool)} (h:QaT (fun s=>QgA r order s) s=some e) (hD:sel e (fun e=>Qol Γ rv r order) (fun e=>e=rv)):Qpl Γ rv r order s:=by
 refine QaC (C:=fun (s:Int)=>Qpl Γ rv r order s) (D:=fun (e:(Unit)⊕(Bool))=>sel e (fun e=>Qol Γ rv r order) (fun e=>e=rv)) ?_ h hD
 clear h hD s e
 intro i z_ h hI hE
 replace h:QgA r order i=_:=h
 unfold QgA at h
 rcases Qah h with ⟨h0,h⟩|⟨h0,h⟩
 ·obtain ⟨x0,h1,h⟩:=Qae h
  rcases Qah h with ⟨h2,h⟩|⟨h2,h⟩
  ·obtain rfl:=(hE _ (oJ h):_=rv)
   exact gr 12 [] [nL Qaa.enc r.visits,bT h0,cE Qaa.enc h1,bT h2]
  ·exact gn 14 [1,2,5] [0] [nL Qaa.enc r.visits,bT h0,cE Qaa.enc h1,bF h2] (hI _ (oJ h))
 ·exact gn 5 [] [] [nL Qaa.enc r.visits,bF h0] (hE _ (oJ h))
theorem QjI {r order} {rv:Bool} (h:Qjl r order=some rv):AFn Tryz.prog 30 [.agg (Qad.enc r),.one (lI order)] [] (one (.bool rv)) []:=by
 refine QaM Tryz.func30 (by kernel_rfl) (by kernel_rfl) (fun Γ=>?_)
 unfold Qjl at h
 obtain ⟨e0,h3,h⟩:=Qae h
 refine gn 7 [1,2,5] [0] [] (Qtu Γ rv h3 ?_)
 rcases e0 with e0|e0
 ·replace h:(some false:Option Bool)=some _:=h
  obtain rfl:=Option.some.inj h
  exact gr 2 [] []
 ·obtain ⟨r1,rfl⟩:∃ x,x=e0:=⟨_,rfl⟩
  replace h:(some r1:Option Bool)=some _:=h
  exact Option.some.inj h
def Qtn (Γ:Gam) (rv:List Qaa) (cf:Cf):Prop:=Go Tryz.prog Tryz.f31 [] Γ (one (lL 2 rv Qaa.enc)) [] cf
theorem Qj5 (Γ:Gam) (rv:List Qaa) {l at_ l1} (h:QdZ l at_ l1=some rv):Qtn Γ rv ⟨[.c 31],⟨38,[vL 0 16 l Qag.enc,vI 1 at_,vO 5 0 2 l1 Qaa.enc],[oS 2 52 l1 Qaa.enc]⟩⟩:=by
 unfold QdZ at h
 obtain ⟨x1,h5,h⟩:=Qae h
 rcases Qah h with ⟨h6,h⟩|⟨h6,h⟩
 ·obtain ⟨h7,h⟩:=Qav h
  obtain rfl:=Option.some.inj h
  exact gr 7 [] [cE Qag.enc h5,bT h6,oO (Eq.refl ([(Qaa.mk at_ true)].map Qaa.enc).length),aO Qaa.enc h7,hW 5,hH (.frz 2),rp 4 (oO (Eq.refl ((l1++[(Qaa.mk at_ true)]).map Qaa.enc).length))]
 ·obtain rfl:=Option.some.inj h
  exact gr 7 [] [cE Qag.enc h5,bF h6,hW 5,hH (.frz 0),rp 3 (eL l1 Qaa.enc)]
theorem QsT {l at_} {rv:List Qaa} (h:QgZ l at_=some rv):AFn Tryz.prog 31 [.one (lL 16 l Qag.enc),.one (lI at_)] [] (one (lL 2 rv Qaa.enc)) []:=by
 refine QaM Tryz.func31 (by kernel_rfl) (by kernel_rfl) (fun Γ=>?_)
 unfold QgZ at h
 obtain ⟨r,h0,h⟩:=Qae h
 rcases Qah h with ⟨h1,h⟩|⟨h1,h⟩
 ·obtain ⟨x0,h2,h⟩:=Qae h
  rcases Qah h with ⟨h3,h⟩|⟨h3,h⟩
  ·obtain ⟨h4,h⟩:=Qav h
   exact gn 14 [0,1,5] [1] [nL Qag.enc l,cC (QaG h0),nF h1,cE Qag.enc h2,bT h3,oO (Eq.refl ([(Qaa.mk at_ false)].map Qaa.enc).length),aN (l:=([(Qaa.mk at_ false)]:List Qaa)) Qaa.enc h4] (Qj5 Γ rv h)
  ·exact gn 14 [0,1,5] [0] [nL Qag.enc l,cC (QaG h0),nF h1,cE Qag.enc h2,bF h3,hW 1,hH (.adopt 5 2 52)] (Qj5 Γ rv h)
 ·obtain rfl:=Option.some.inj h
  exact gr 10 [] [nL Qag.enc l,cC (QaG h0),nT h1,hW 4,hH (.nilS 4 0 2)]
theorem QiT {l at_ v} {rv:List Qaa} (h:Qds l at_ v=some rv):AFn Tryz.prog 32 [.one (lL 2 l Qaa.enc),.one (lI at_),.agg (Qaa.enc v)] [] (one (lL 2 rv Qaa.enc)) []:=by
 refine QaM Tryz.func32 (by kernel_rfl) (by kernel_rfl) (fun Γ=>?_)
 unfold Qds at h
 obtain ⟨l1,h0,h⟩:=Qae h
 obtain ⟨h1,h⟩:=Qav h
 obtain ⟨h2,h⟩:=Qav h
 obtain ⟨l2,h3,h⟩:=Qae h
 obtain ⟨h4,h⟩:=Qav h
 obtain rfl:=Option.some.inj h
 exact gr 10 [] [rp 2 (hH (.rows (l1.map Qaa.enc))),hH (.rows ((l1++[v]).map Qaa.enc)),hH (.rows (l2.map Qaa.enc)),hH (.rows (((l1++[v])++l2).map Qaa.enc)),hW 1,hH (.frz 4),oO (sl1 h0),oO (sl2 h0),oO (sl3 Qaa.enc h0),oO (Int.le_refl at_),oO (sl3 Qaa.enc h0),oO (sl6 Qaa.enc h0),oO (Eq.refl (l1.map Qaa.enc)),oO (okLe (l:=(l1:List Qaa)) Qaa.enc h1),oO (QFA (l:=(l1:List Qaa)) (b:=16) Qaa.enc (by decide) h1),oO (Eq.refl ([v].map Qaa.enc).length),eL l1 Qaa.enc,oO (appM Qaa.enc l1 [v]),oO (okLe (l:=((l1++[v]):List Qaa)) Qaa.enc h2),oO (QFA (l:=((l1++[v]):List Qaa)) (b:=16) Qaa.enc (by decide) h2),oO (sl1 h3),oO (sl2h Qaa.enc h3),rp 3 (oO (Int.le_refl ((l.map Qaa.enc).length:Int))),oO (sl6h Qaa.enc h3),oO (Eq.refl ((l1++[v]).map Qaa.enc).length),oO (appM Qaa.enc (l1++[v]) l2),oO (okLe (l:=(((l1++[v])++l2):List Qaa)) Qaa.enc h4),oO (QFA (l:=(((l1++[v])++l2):List Qaa)) (b:=16) Qaa.enc (by decide) h4),rp 2 (oO (Eq.refl (((l1++[v])++l2).map Qaa.enc).length))]
theorem Qoh {s0} {rv:Bool} (h:QjG s0=some rv):AFn Tryz.prog 79 [.agg (Qau.enc s0)] [] (one (.bool rv)) []:=by
 refine QaM Tryz.func79 (by kernel_rfl) (by kernel_rfl) (fun Γ=>?_)
 unfold QjG at h
 obtain rfl:=Option.some.inj h
 exact gr 4 [] [rp 28 hP,rp 2 (oI ((geI s0.cost 0)=true)),oR True ((geI s0.cost 0)=true),rp 2 (oI (((geI s0.cost 0)&&(leI s0.cost 1073741824))=true)),oR True (((geI s0.cost 0)&&(leI s0.cost 1073741824))=true),rp 2 (oI ((((geI s0.cost 0)&&(leI s0.cost 1073741824))&&(geI s0.moved 0))=true)),oR True ((((geI s0.cost 0)&&(leI s0.cost 1073741824))&&(geI s0.moved 0))=true),rp 2 (oI (((((geI s0.cost 0)&&(leI s0.cost 1073741824))&&(geI s0.moved 0))&&(leI s0.moved 15))=true)),oR True (((((geI s0.cost 0)&&(leI s0.cost 1073741824))&&(geI s0.moved 0))&&(leI s0.moved 15))=true),rp 2 (oI ((((((geI s0.cost 0)&&(leI s0.cost 1073741824))&&(geI s0.moved 0))&&(leI s0.moved 15))&&(geI s0.other 0))=true)),oR True ((((((geI s0.cost 0)&&(leI s0.cost 1073741824))&&(geI s0.moved 0))&&(leI s0.moved 15))&&(geI s0.other 0))=true),rp 2 (oI (((((((geI s0.cost 0)&&(leI s0.cost 1073741824))&&(geI s0.moved 0))&&(leI s0.moved 15))&&(geI s0.other 0))&&(leI s0.other 15))=true)),oR True (((((((geI s0.cost 0)&&(leI s0.cost 1073741824))&&(geI s0.moved 0))&&(leI s0.moved 15))&&(geI s0.other 0))&&(leI s0.other 15))=true),rp 2 (oI ((((((((geI s0.cost 0)&&(leI s0.cost 1073741824))&&(geI s0.moved 0))&&(leI s0.moved 15))&&(geI s0.other 0))&&(leI s0.other 15))&&(geI s0.work 0))=true)),oR True ((((((((geI s0.cost 0)&&(leI s0.cost 1073741824))&&(geI s0.moved 0))&&(leI s0.moved 15))&&(geI s0.other 0))&&(leI s0.other 15))&&(geI s0.work 0))=true)]
theorem Qns {s0} {rv:Int×Int} (h:Qdr s0=some rv):AFn Tryz.prog 44 [.agg (Qau.enc s0)] [] (.tup [.one (lI rv.1),.one (lI rv.2)]) []:=by
 refine QaM Tryz.func44 (by kernel_rfl) (by kernel_rfl) (fun Γ=>?_)
 unfold Qdr at h
 rcases Qah h with ⟨h0,h⟩|⟨h0,h⟩
 ·obtain rfl:=Option.some.inj h
  exact gr 8 [] [rp 12 hP,rp 2 (oI ((ltI s0.cost 0)=false)),oR True ((ltI s0.cost 0)=false),rp 2 (oI (((ltI s0.cost 0)||(ltI s0.moved 0))=false)),oR True (((ltI s0.cost 0)||(ltI s0.moved 0))=false),rp 2 (oI ((((ltI s0.cost 0)||(ltI s0.moved 0))||(ltI s0.other 0))=false)),oR True ((((ltI s0.cost 0)||(ltI s0.moved 0))||(ltI s0.other 0))=false),bT h0]
 ·obtain ⟨r,h1,h⟩:=Qae h
  rcases Qah h with ⟨h2,h⟩|⟨h2,h⟩
  ·obtain rfl:=Option.some.inj h
   exact gr 14 [] [rp 12 hP,rp 2 (oI ((ltI s0.cost 0)=false)),oR True ((ltI s0.cost 0)=false),rp 2 (oI (((ltI s0.cost 0)||(ltI s0.moved 0))=false)),oR True (((ltI s0.cost 0)||(ltI s0.moved 0))=false),rp 2 (oI ((((ltI s0.cost 0)||(ltI s0.moved 0))||(ltI s0.other 0))=false)),oR True ((((ltI s0.cost 0)||(ltI s0.moved 0))||(ltI s0.other 0))=false),bF h0,cC (Qoh h1),nF h2]
  ·obtain rfl:=Option.some.inj h
   exact gr 13 [] [rp 12 hP,rp 2 (oI ((ltI s0.cost 0)=false)),oR True ((ltI s0.cost 0)=false),rp 2 (oI (((ltI s0.cost 0)||(ltI s0.moved 0))=false)),oR True (((ltI s0.cost 0)||(ltI s0.moved 0))=false),rp 2 (oI ((((ltI s0.cost 0)||(ltI s0.moved 0))||(ltI s0.other 0))=false)),oR True ((((ltI s0.cost 0)||(ltI s0.moved 0))||(ltI s0.other 0))=false),bF h0,cC (Qoh h1),nT h2]
theorem Qb2 {set_ i} {rv:Bool} (h:Qee set_ i=some rv):AFn Tryz.prog 172 [.one (lI set_),.one (lI i)] [] (one (.bool rv)) []:=by
 refine QaM Tryz.func172 (by kernel_rfl) (by kernel_rfl) (fun Γ=>?_)
 unfold Qee at h
 rcases Qah h with ⟨h0,h⟩|⟨h0,h⟩
 ·obtain ⟨h1,h⟩:=Qav h
  obtain rfl:=Option.some.inj h
  exact gr 4 [] [rp 6 hP,oI ((geI set_ 0)=true),oR True ((geI set_ 0)=true),oI (((geI set_ 0)&&(geI i 0))=true),oR True (((geI set_ 0)&&(geI i 0))=true),rp 4 (bT h0),oO (h1),bT h0,oO (oA (n:=2)),bT h0,bT h0]
 ·obtain rfl:=Option.some.inj h
  exact gr 4 [] [rp 6 hP,oI ((geI set_ 0)=true),oR True ((geI set_ 0)=true),oI (((geI set_ 0)&&(geI i 0))=true),oR True (((geI set_ 0)&&(geI i 0))=true),rp 7 (bF h0)]
def Qoc (Γ:Gam) (rv:Int×Int) (cf:Cf):Prop:=Go Tryz.prog Tryz.f151 [] Γ (.tup [.one (lI rv.1),.one (lI rv.2)]) [] cf
def Qln (Γ:Gam) (rv:Int×Int) (r:Qad) (set_:Int) (i:Int):Prop:=Qoc Γ rv ⟨[.c 116,.l 116,.b 0,.c 15],⟨36,[vP 1 0 4,vI 4 set_,vI 5 i],[oX 4 34 (Qad.enc r)]⟩⟩
def Qkc (Γ:Gam) (rv:Int×Int) (r:Qad) (set_1:Int):Prop:=Qoc Γ rv ⟨[.c 15],⟨36,[vI 4 set_1],[]⟩⟩
theorem Qqu (Γ:Gam) (rv:Int×Int) {r} {s:Int×Int} {e:(Int)⊕(Int×Int)} (h:QaT (fun s=>Qd1 r s.1 s.2) s=some e) (hD:sel e (fun e=>Qkc Γ rv r e) (fun e=>e=rv)):Qln Γ rv r s.1 s.2:=by
 refine QaC (C:=fun (s:Int×Int)=>Qln Γ rv r s.1 s.2) (D:=fun (e:(Int)⊕(Int×Int))=>sel e (fun e=>Qkc Γ rv r e) (fun e=>e=rv)) ?_ h hD
 clear h hD s e
 rintro ⟨set_,i⟩ z_ h hI hE
 replace h:Qd1 r set_ i=_:=h
 unfold Qd1 at h
 rcases Qah h with ⟨h0,h⟩|⟨h0,h⟩
 ·obtain ⟨x0,h1,h⟩:=Qae h
  rcases Qah h with ⟨h2,h⟩|⟨h2,h⟩
  ·obtain rfl:=(hE _ (oJ h):_=rv)
   exact gr 15 [] [nL Qaa.enc r.visits,bT h0,cE Qaa.enc h1,hP,hP,hP,oI ((ltI x0.order 0)=false),oR True ((ltI x0.order 0)=false),bT h2]
  ·obtain ⟨r1,h3,h⟩:=Qae h
   rcases Qah h with ⟨h4,h⟩|⟨h4,h⟩
   ·exact gn 21 [1,4,5] [0] [nL Qaa.enc r.visits,bT h0,cE Qaa.enc h1,hP,hP,hP,oI ((ltI x0.order 0)=false),oR True ((ltI x0.order 0)=false),bF h2,cC (Qb2 h3),nF h4] (hI _ (oJ h))
   ·obtain ⟨h5,h⟩:=Qav h
    exact gn 21 [1,4,5] [0] [nL Qaa.enc r.visits,bT h0,cE Qaa.enc h1,hP,hP,hP,oI ((ltI x0.order 0)=false),oR True ((ltI x0.order 0)=false),bF h2,cC (Qb2 h3),nT h4,oO (h5)] (hI _ (oJ h))
 ·exact gn 5 [4] [] [nL Qaa.enc r.visits,bF h0] (hE _ (oJ h))
theorem Qnn {r} {rv:Int×Int} (h:QfH r=some rv):AFn Tryz.prog 151 [.agg (Qad.enc r)] [] (.tup [.one (lI rv.1),.one (lI rv.2)]) []:=by
 refine QaM Tryz.func151 (by kernel_rfl) (by kernel_rfl) (fun Γ=>?_)
 unfold QfH at h
 obtain ⟨e0,h6,h⟩:=Qae h
 refine gn 9 [1,4,5] [0] [] (Qqu Γ rv h6 ?_)
 rcases e0 with e0|e0
 ·obtain ⟨set_1,rfl⟩:∃ x,x=e0:=⟨_,rfl⟩
  replace h:(some (set_1,0):Option (Int×Int))=some _:=h
  obtain rfl:=Option.some.inj h
  exact gr 2 [] []
 ·obtain ⟨r2,rfl⟩:∃ x,x=e0:=⟨_,rfl⟩
  replace h:(some r2:Option (Int×Int))=some _:=h
  exact Option.some.inj h
def Qpa (Γ:Gam) (rv:Int) (cf:Cf):Prop:=Go Tryz.prog Tryz.f152 [] Γ (one (lI rv)) [] cf
def Qmn (Γ:Gam) (rv:Int) (l:List Qaa) (v:Qaa) (i:Int):Prop:=Qpa Γ rv ⟨[.c 52,.l 52,.b 0,.c 7],⟨19,[vL 0 2 l Qaa.enc,vP 3 0 2,vI 5 i],[oX 2 52 (Qaa.enc v)]⟩⟩
def Qlm (Γ:Gam) (rv:Int) (l:List Qaa) (v:Qaa):Prop:=Qpa Γ rv ⟨[.c 7],⟨19,[],[]⟩⟩
theorem Qrh (Γ:Gam) (rv:Int) {l v} {s:Int} {e:(Unit)⊕(Int)} (h:QaT (fun s=>QcD l v s) s=some e) (hD:sel e (fun e=>Qlm Γ rv l v) (fun e=>e=rv)):Qmn Γ rv l v s:=by
 refine QaC (C:=fun (s:Int)=>Qmn Γ rv l v s) (D:=fun (e:(Unit)⊕(Int))=>sel e (fun e=>Qlm Γ rv l v) (fun e=>e=rv)) ?_ h hD
 clear h hD s e
 intro i z_ h hI hE
 replace h:QcD l v i=_:=h
 unfold QcD at h
 rcases Qah h with ⟨h0,h⟩|⟨h0,h⟩
 ·obtain ⟨x0,h1,h⟩:=Qae h
  rcases Qah h with ⟨h2,h⟩|⟨h2,h⟩
  ·obtain rfl:=(hE _ (oJ h):_=rv)
   exact gr 12 [] [nL Qaa.enc l,bT h0,hH (.draw 6 []),cE Qaa.enc h1,bT h2]
  ·exact gn 14 [0,3,5] [0] [nL Qaa.enc l,bT h0,hH (.draw 6 []),cE Qaa.enc h1,bF h2] (hI _ (oJ h))
 ·exact gn 5 [] [] [nL Qaa.enc l,bF h0] (hE _ (oJ h))
theorem Qbs {l v} {rv:Int} (h:QcU l v=some rv):AFn Tryz.prog 152 [.one (lL 2 l Qaa.enc),.agg (Qaa.enc v)] [] (one (lI rv)) []:=by
 refine QaM Tryz.func152 (by kernel_rfl) (by kernel_rfl) (fun Γ=>?_)
 unfold QcU at h
 obtain ⟨e0,h3,h⟩:=Qae h
 refine gn 7 [0,3,5] [0] [] (Qrh Γ rv h3 ?_)
 rcases e0 with e0|e0
 ·replace h:(some (-1):Option Int)=some _:=h
  obtain rfl:=Option.some.inj h
  exact gr 2 [] []
 ·obtain ⟨r,rfl⟩:∃ x,x=e0:=⟨_,rfl⟩
  replace h:(some r:Option Int)=some _:=h
  exact Option.some.inj h
def Qtr (Γ:Gam) (rv:List Qaa) (cf:Cf):Prop:=Go Tryz.prog Tryz.f173 [] Γ (one (lL 2 rv Qaa.enc)) [] cf
theorem Qkd (Γ:Gam) (rv:List Qaa) {x0 order l} (h:Qd2 x0 order l=some rv):Qtr Γ rv ⟨[.c 15],⟨33,[vI 1 order,vP 2 0 6,vO 5 1 2 l Qaa.enc],[oX 6 30 (Qac.enc x0),oS 2 52 l Qaa.enc]⟩⟩:=by
 unfold Qd2 at h
 obtain ⟨x2,h3,h⟩:=Qae h
 rcases Qah h with ⟨h4,h⟩|⟨h4,h⟩
 ·obtain ⟨h5,h⟩:=Qav h
  obtain rfl:=Option.some.inj h
  exact gr 7 [] [cE Qag.enc h3,bT h4,oO (Eq.refl ([(Qaa.mk order true)].map Qaa.enc).length),aO Qaa.enc h5,hW 5,hH (.frz 3),rp 4 (oO (Eq.refl ((l++[(Qaa.mk order true)]).map Qaa.enc).length))]
 ·obtain rfl:=Option.some.inj h
  exact gr 7 [] [cE Qag.enc h3,bF h4,hW 5,hH (.frz 1),rp 3 (eL l Qaa.enc)]
theorem Qfs {x0 order} {rv:List Qaa} (h:Qg1 x0 order=some rv):AFn Tryz.prog 173 [.agg (Qac.enc x0),.one (lI order)] [] (one (lL 2 rv Qaa.enc)) []:=by
 refine QaM Tryz.func173 (by kernel_rfl) (by kernel_rfl) (fun Γ=>?_)
 unfold Qg1 at h
 obtain ⟨x1,h0,h⟩:=Qae h
 rcases Qah h with ⟨h1,h⟩|⟨h1,h⟩
 ·obtain ⟨h2,h⟩:=Qav h
  exact gn 9 [1,2,5] [0,2] [cE Qag.enc h0,bT h1,oO (Eq.refl ([(Qaa.mk order false)].map Qaa.enc).length),aN (l:=([(Qaa.mk order false)]:List Qaa)) Qaa.enc h2] (Qkd Γ rv h)
 ·exact gn 9 [1,2,5] [0,1] [cE Qag.enc h0,bF h1,hW 1,hH (.adopt 5 2 52)] (Qkd Γ rv h)
def Qmq (Γ:Gam) (rv:Bool) (cf:Cf):Prop:=Go Tryz.prog Tryz.f174 [] Γ (one (.bool rv)) [] cf
def QjD (Γ:Gam) (rv:Bool) (l:List Qaa) (some_:List Qaa) (i:Int):Prop:=Qmq Γ rv ⟨[.c 52,.l 52,.b 0,.c 7],⟨19,[vL 0 2 l Qaa.enc,vL 1 2 some_ Qaa.enc,vI 5 i],[]⟩⟩
def Qjg (Γ:Gam) (rv:Bool) (l:List Qaa) (some_:List Qaa):Prop:=Qmq Γ rv ⟨[.c 7],⟨19,[],[]⟩⟩
theorem Qpd (Γ:Gam) (rv:Bool) {l some_} {s:Int} {e:(Unit)⊕(Bool)} (h:QaT (fun s=>QbS l some_ s) s=some e) (hD:sel e (fun e=>Qjg Γ rv l some_) (fun e=>e=rv)):QjD Γ rv l some_ s:=by
 refine QaC (C:=fun (s:Int)=>QjD Γ rv l some_ s) (D:=fun (e:(Unit)⊕(Bool))=>sel e (fun e=>Qjg Γ rv l some_) (fun e=>e=rv)) ?_ h hD
 clear h hD s e
 intro i z_ h hI hE
 replace h:QbS l some_ i=_:=h
 unfold QbS at h
 rcases Qah h with ⟨h0,h⟩|⟨h0,h⟩
 ·obtain ⟨x0,h1,h⟩:=Qae h
  obtain ⟨r,h2,h⟩:=Qae h
  rcases Qah h with ⟨h3,h⟩|⟨h3,h⟩
  ·obtain rfl:=(hE _ (oJ h):_=rv)
   exact gr 12 [] [nL Qaa.enc some_,bT h0,cE Qaa.enc h1,cC (Qbs h2),bT h3]
  ·exact gn 14 [0,1,5] [] [nL Qaa.enc some_,bT h0,cE Qaa.enc h1,cC (Qbs h2),bF h3] (hI _ (oJ h))
 ·exact gn 5 [] [] [nL Qaa.enc some_,bF h0] (hE _ (oJ h))
theorem Qf0 {l some_} {rv:Bool} (h:QfZ l some_=some rv):AFn Tryz.prog 174 [.one (lL 2 l Qaa.enc),.one (lL 2 some_ Qaa.enc)] [] (one (.bool rv)) []:=by
 refine QaM Tryz.func174 (by kernel_rfl) (by kernel_rfl) (fun Γ=>?_)
 unfold QfZ at h
 obtain ⟨e0,h4,h⟩:=Qae h
 refine gn 7 [0,1,5] [] [] (Qpd Γ rv h4 ?_)
 rcases e0 with e0|e0
 ·replace h:(some true:Option Bool)=some _:=h
  obtain rfl:=Option.some.inj h
  exact gr 2 [] []
 ·obtain ⟨r1,rfl⟩:∃ x,x=e0:=⟨_,rfl⟩
  replace h:(some r1:Option Bool)=some _:=h
  exact Option.some.inj h
def Qod (Γ:Gam) (rv:Bool) (cf:Cf):Prop:=Go Tryz.prog Tryz.f153 [] Γ (one (.bool rv)) [] cf
def Qls (Γ:Gam) (rv:Bool) (x0:Qac) (l:List Qaa) (i:Int):Prop:=Qod Γ rv ⟨[.c 52,.l 52,.b 0,.c 7],⟨51,[vL 1 2 l Qaa.enc,vP 2 0 6,vI 5 i],[oX 6 30 (Qac.enc x0)]⟩⟩
def Qkh (Γ:Gam) (rv:Bool) (x0:Qac) (l:List Qaa):Prop:=Qod Γ rv ⟨[.c 7],⟨51,[],[]⟩⟩
theorem Qqy (Γ:Gam) (rv:Bool) {x0 l} {s:Int} {e:(Unit)⊕(Bool)} (h:QaT (fun s=>Qcj x0 l s) s=some e) (hD:sel e (fun e=>Qkh Γ rv x0 l) (fun e=>e=rv)):Qls Γ rv x0 l s:=by
 refine QaC (C:=fun (s:Int)=>Qls Γ rv x0 l s) (D:=fun (e:(Unit)⊕(Bool))=>sel e (fun e=>Qkh Γ rv x0 l) (fun e=>e=rv)) ?_ h hD
 clear h hD s e
 intro i z_ h hI hE
 replace h:Qcj x0 l i=_:=h
 unfold Qcj at h
 rcases Qah h with ⟨h0,h⟩|⟨h0,h⟩
 ·obtain ⟨x1,h1,h⟩:=Qae h
  obtain ⟨r,h2,h⟩:=Qae h
  obtain ⟨r1,h3,h⟩:=Qae h
  rcases Qah h with ⟨h4,h⟩|⟨h4,h⟩
  ·obtain rfl:=(hE _ (oJ h):_=rv)
   exact gr 14 [] [nL Qaa.enc l,bT h0,hH (.draw 8 []),cE Qaa.enc h1,cC (Qfs h2),hH (.draw 31 []),cE Qaa.enc h1,cC (Qbs h3),rp 5 (bT h4),rp 4 tT,rp 11 kF,tT,tT,tT]
  ·obtain ⟨r2,h5,h⟩:=Qae h
   rcases Qah h with ⟨h6,h⟩|⟨h6,h⟩
   ·rcases Qah h with ⟨h7,h⟩|⟨h7,h⟩
    ·obtain ⟨x2,h8,h⟩:=Qae h
     obtain ⟨r3,h9,h⟩:=Qae h
     obtain ⟨x3,h10,h⟩:=Qae h
     obtain ⟨r4,h11,h⟩:=Qae h
     rcases Qah h with ⟨h12,h⟩|⟨h12,h⟩
     ·obtain rfl:=(hE _ (oJ h):_=rv)
      exact gr 14 [] [nL Qaa.enc l,bT h0,hH (.draw 8 []),cE Qaa.enc h1,cC (Qfs h2),hH (.draw 31 []),cE Qaa.enc h1,cC (Qbs h3),rp 3 (bF h4),cC (Qf0 h5),bF h4,bF h4,nF h6,nF h6,nL Qaa.enc r,nF h6,nF h6,rp 3 (bT h7),cE Qaa.enc h8,bT h7,bT h7,cC (Qbs h9),rp 3 (bT h7),cE Qaa.enc h10,bT h7,bT h7,cC (Qbs h11),bT h7,nF h6,bT h7,nF h6,bT h12]
     ·exact gn 16 [1,2,5] [0] [nL Qaa.enc l,bT h0,hH (.draw 8 []),cE Qaa.enc h1,cC (Qfs h2),hH (.draw 31 []),cE Qaa.enc h1,cC (Qbs h3),rp 3 (bF h4),cC (Qf0 h5),bF h4,bF h4,nF h6,nF h6,nL Qaa.enc r,nF h6,nF h6,rp 3 (bT h7),cE Qaa.enc h8,bT h7,bT h7,cC (Qbs h9),rp 3 (bT h7),cE Qaa.enc h10,bT h7,bT h7,cC (Qbs h11),bT h7,nF h6,bT h7,nF h6,bF h12] (hI _ (oJ h))
    ·exact gn 16 [1,2,5] [0] [nL Qaa.enc l,bT h0,hH (.draw 8 []),cE Qaa.enc h1,cC (Qfs h2),hH (.draw 31 []),cE Qaa.enc h1,cC (Qbs h3),rp 3 (bF h4),cC (Qf0 h5),bF h4,bF h4,nF h6,nF h6,nL Qaa.enc r,nF h6,nF h6,rp 11 (bF h7),nF h6,bF h7,nF h6,fF] (hI _ (oJ h))
   ·obtain rfl:=(hE _ (oJ h):_=rv)
    exact gr 14 [] [nL Qaa.enc l,bT h0,hH (.draw 8 []),cE Qaa.enc h1,cC (Qfs h2),hH (.draw 31 []),cE Qaa.enc h1,cC (Qbs h3),rp 3 (bF h4),cC (Qf0 h5),bF h4,bF h4,rp 4 (nT h6),rp 11 kF,nT h6,nT h6,tT]
 ·exact gn 5 [] [] [nL Qaa.enc l,bF h0] (hE _ (oJ h))
theorem QgP {x0 l} {rv:Bool} (h:QdP x0 l=some rv):AFn Tryz.prog 153 [.agg (Qac.enc x0),.one (lL 2 l Qaa.enc)] [] (one (.bool rv)) []:=by
 refine QaM Tryz.func153 (by kernel_rfl) (by kernel_rfl) (fun Γ=>?_)
 unfold QdP at h
 obtain ⟨e0,h13,h⟩:=Qae h
 refine gn 7 [1,2,5] [0] [] (Qqy Γ rv h13 ?_)
 rcases e0 with e0|e0
 ·replace h:(some true:Option Bool)=some _:=h
  obtain rfl:=Option.some.inj h
  exact gr 2 [] []
 ·obtain ⟨r5,rfl⟩:∃ x,x=e0:=⟨_,rfl⟩
  replace h:(some r5:Option Bool)=some _:=h
  exact Option.some.inj h
def Qpc (Γ:Gam) (rv:Bool) (cf:Cf):Prop:=Go Tryz.prog Tryz.f154 [] Γ (one (.bool rv)) [] cf
def Qmp (Γ:Gam) (rv:Bool) (x0:Qac) (set_:Int) (i:Int):Prop:=Qpc Γ rv ⟨[.c 52,.l 52,.b 0,.c 7],⟨31,[vI 1 set_,vP 2 0 6,vI 5 i],[oX 6 30 (Qac.enc x0)]⟩⟩
def Qlo (Γ:Gam) (rv:Bool) (x0:Qac) (set_:Int):Prop:=Qpc Γ rv ⟨[.c 7],⟨31,[],[]⟩⟩
theorem Qri (Γ:Gam) (rv:Bool) {x0 set_} {s:Int} {e:(Unit)⊕(Bool)} (h:QaT (fun s=>QcE x0 set_ s) s=some e) (hD:sel e (fun e=>Qlo Γ rv x0 set_) (fun e=>e=rv)):Qmp Γ rv x0 set_ s:=by
 refine QaC (C:=fun (s:Int)=>Qmp Γ rv x0 set_ s) (D:=fun (e:(Unit)⊕(Bool))=>sel e (fun e=>Qlo Γ rv x0 set_) (fun e=>e=rv)) ?_ h hD
 clear h hD s e
 intro i z_ h hI hE
 replace h:QcE x0 set_ i=_:=h
 unfold QcE at h
 rcases Qah h with ⟨h0,h⟩|⟨h0,h⟩
 ·obtain ⟨x1,h1,h⟩:=Qae h
  obtain ⟨r,h2,h⟩:=Qae h
  rcases Qah h with ⟨h3,h⟩|⟨h3,h⟩
  ·obtain ⟨r1,h4,h⟩:=Qae h
   rcases Qah h with ⟨h5,h⟩|⟨h5,h⟩
   ·obtain rfl:=(hE _ (oJ h):_=rv)
    exact gr 12 [] [nL QaR.enc x0.apart,bT h0,cE QaR.enc h1,oO (zL 0),oO (lT 0 2),cC (Qb2 h2),rp 5 (bT h3),cE QaR.enc h1,bT h3,oO (zL 1),oO (lT 1 2),bT h3,bT h3,cC (Qb2 h4),bT h3,bT h5]
   ·exact gn 14 [1,2,5] [0] [nL QaR.enc x0.apart,bT h0,cE QaR.enc h1,oO (zL 0),oO (lT 0 2),cC (Qb2 h2),rp 5 (bT h3),cE QaR.enc h1,bT h3,oO (zL 1),oO (lT 1 2),bT h3,bT h3,cC (Qb2 h4),bT h3,bF h5] (hI _ (oJ h))
  ·exact gn 14 [1,2,5] [0] [nL QaR.enc x0.apart,bT h0,cE QaR.enc h1,oO (zL 0),oO (lT 0 2),cC (Qb2 h2),rp 9 (bF h3),fF] (hI _ (oJ h))
 ·exact gn 5 [] [] [nL QaR.enc x0.apart,bF h0] (hE _ (oJ h))
theorem QjC {x0 set_} {rv:Bool} (h:Qep x0 set_=some rv):AFn Tryz.prog 154 [.agg (Qac.enc x0),.one (lI set_)] [] (one (.bool rv)) []:=by
 refine QaM Tryz.func154 (by kernel_rfl) (by kernel_rfl) (fun Γ=>?_)
 unfold Qep at h
 obtain ⟨e0,h6,h⟩:=Qae h
 refine gn 7 [1,2,5] [0] [] (Qri Γ rv h6 ?_)
 rcases e0 with e0|e0
 ·replace h:(some true:Option Bool)=some _:=h
  obtain rfl:=Option.some.inj h
  exact gr 2 [] []
 ·obtain ⟨r2,rfl⟩:∃ x,x=e0:=⟨_,rfl⟩
  replace h:(some r2:Option Bool)=some _:=h
  exact Option.some.inj h
def QeJ (Γ:Gam) (rv:Bool) (cf:Cf):Prop:=Go Tryz.prog Tryz.f155 [] Γ (one (.bool rv)) [] cf
def Qlr (Γ:Gam) (rv:Bool) (x0:Qac) (set_:Int) (l:List Qaa) (i:Int) (x1:QaR) (j:Int) (k:Int):Prop:=QeJ Γ rv ⟨[.c 3448612,.l 3448612,.b 4,.b 3,.c 215539,.l 53884,.b 2,.b 1,.c 211,.l 52,.b 0,.c 7],⟨66,[vI 1 set_,vL 2 2 l Qaa.enc,vP 3 0 6,vI 7 i,vI 8 x1.x0,vI 9 x1.x1,vI 10 j,vI 11 k],[oX 6 30 (Qac.enc x0)]⟩⟩
def Qkg (Γ:Gam) (rv:Bool) (x0:Qac) (set_:Int) (l:List Qaa) (i:Int) (x1:QaR) (j:Int):Prop:=QeJ Γ rv ⟨[.b 3,.c 215539,.l 53884,.b 2,.b 1,.c 211,.l 52,.b 0,.c 7],⟨66,[vI 1 set_,vL 2 2 l Qaa.enc,vP 3 0 6,vI 7 i,vI 8 x1.x0,vI 9 x1.x1,vI 10 j],[oX 6 30 (Qac.enc x0)]⟩⟩
def Qlq (Γ:Gam) (rv:Bool) (x0:Qac) (set_:Int) (l:List Qaa) (i:Int) (x1:QaR) (j:Int):Prop:=QeJ Γ rv ⟨[.c 53884,.l 53884,.b 2,.b 1,.c 211,.l 52,.b 0,.c 7],⟨66,[vI 1 set_,vL 2 2 l Qaa.enc,vP 3 0 6,vI 7 i,vI 8 x1.x0,vI 9 x1.x1,vI 10 j],[oX 6 30 (Qac.enc x0)]⟩⟩
def Qkf (Γ:Gam) (rv:Bool) (x0:Qac) (set_:Int) (l:List Qaa) (i:Int) (x1:QaR):Prop:=QeJ Γ rv ⟨[.b 1,.c 211,.l 52,.b 0,.c 7],⟨66,[vI 1 set_,vL 2 2 l Qaa.enc,vP 3 0 6,vI 7 i],[oX 6 30 (Qac.enc x0)]⟩⟩
def Qlp (Γ:Gam) (rv:Bool) (x0:Qac) (set_:Int) (l:List Qaa) (i:Int):Prop:=QeJ Γ rv ⟨[.c 52,.l 52,.b 0,.c 7],⟨66,[vI 1 set_,vL 2 2 l Qaa.enc,vP 3 0 6,vI 7 i],[oX 6 30 (Qac.enc x0)]⟩⟩
def Qke (Γ:Gam) (rv:Bool) (x0:Qac) (set_:Int) (l:List Qaa):Prop:=QeJ Γ rv ⟨[.c 7],⟨66,[],[]⟩⟩
theorem Qqx (Γ:Gam) (rv:Bool) {x0 set_ l i x1 j} {s:Int} {e:(Unit)⊕(Bool)} (h:QaT (fun s=>Qci x0 set_ l i x1 j s) s=some e) (hD:sel e (fun e=>Qkg Γ rv x0 set_ l i x1 j) (fun e=>e=rv)):Qlr Γ rv x0 set_ l i x1 j s:=by
 refine QaC (C:=fun (s:Int)=>Qlr Γ rv x0 set_ l i x1 j s) (D:=fun (e:(Unit)⊕(Bool))=>sel e (fun e=>Qkg Γ rv x0 set_ l i x1 j) (fun e=>e=rv)) ?_ h hD
 clear h hD s e
 intro k z_ h hI hE
 replace h:Qci x0 set_ l i x1 j k=_:=h
 unfold Qci at h
 rcases Qah h with ⟨h7,h⟩|⟨h7,h⟩
 ·obtain ⟨x2,h8,h⟩:=Qae h
  rcases Qah h with ⟨h9,h⟩|⟨h9,h⟩
  ·obtain ⟨x3,h10,h⟩:=Qae h
   rcases Qah h with ⟨h11,h⟩|⟨h11,h⟩
   ·obtain rfl:=(hE _ (oJ h):_=rv)
    exact gr 12 [] [bT h7,cE Qaa.enc h8,rp 3 (bT h9),cE Qaa.enc h10,rp 5 (bT h9),bT h11]
   ·exact gn 14 [1,2,3,7,8,9,10,11] [0] [bT h7,cE Qaa.enc h8,rp 3 (bT h9),cE Qaa.enc h10,rp 5 (bT h9),bF h11] (hI _ (oJ h))
  ·exact gn 14 [1,2,3,7,8,9,10,11] [0] [bT h7,cE Qaa.enc h8,rp 8 (bF h9),fF] (hI _ (oJ h))
 ·exact gn 5 [1,2,3,7,8,9,10] [0] [bF h7] (hE _ (oJ h))
theorem Qqw (Γ:Gam) (rv:Bool) {x0 set_ l i x1} {s:Int} {e:(Unit)⊕(Bool)} (h:QaT (fun s=>Qch x0 set_ l i x1 s) s=some e) (hD:sel e (fun e=>Qkf Γ rv x0 set_ l i x1) (fun e=>e=rv)):Qlq Γ rv x0 set_ l i x1 s:=by
 refine QaC (C:=fun (s:Int)=>Qlq Γ rv x0 set_ l i x1 s) (D:=fun (e:(Unit)⊕(Bool))=>sel e (fun e=>Qkf Γ rv x0 set_ l i x1) (fun e=>e=rv)) ?_ h hD
 clear h hD s e
 intro j z_ h hI hE
 replace h:Qch x0 set_ l i x1 j=_:=h
 unfold Qch at h
 rcases Qah h with ⟨h6,h⟩|⟨h6,h⟩
 ·obtain ⟨e0,h12,h⟩:=Qae h
  refine gn 11 [1,2,3,7,8,9,10,11] [0] [nL Qaa.enc l,bT h6] (Qqx Γ rv h12 ?_)
  rcases e0 with e0|e0
  ·replace h:(some (.inl (addK .i64 j 1)):Option ((Int)⊕((Unit)⊕(Bool))))=some _:=h
   exact gn 3 [1,2,3,7,8,9,10] [0] [] (hI _ (oJ h))
  ·obtain ⟨r2,rfl⟩:∃ x,x=e0:=⟨_,rfl⟩
   replace h:(some (.inr (.inr r2)):Option ((Int)⊕((Unit)⊕(Bool))))=some _:=h
   exact (hE _ (oJ h):_=rv)
 ·exact gn 5 [1,2,3,7] [0] [nL Qaa.enc l,bF h6] (hE _ (oJ h))
theorem Qqv (Γ:Gam) (rv:Bool) {x0 set_ l} {s:Int} {e:(Unit)⊕(Bool)} (h:QaT (fun s=>Qcg x0 set_ l s) s=some e) (hD:sel e (fun e=>Qke Γ rv x0 set_ l) (fun e=>e=rv)):Qlp Γ rv x0 set_ l s:=by
 refine QaC (C:=fun (s:Int)=>Qlp Γ rv x0 set_ l s) (D:=fun (e:(Unit)⊕(Bool))=>sel e (fun e=>Qke Γ rv x0 set_ l) (fun e=>e=rv)) ?_ h hD
 clear h hD s e
 intro i z_ h hI hE
 replace h:Qcg x0 set_ l i=_:=h
 unfold Qcg at h
 rcases Qah h with ⟨h0,h⟩|⟨h0,h⟩
 ·obtain ⟨x1,h1,h⟩:=Qae h
  obtain ⟨r,h2,h⟩:=Qae h
  rcases Qah h with ⟨h3,h⟩|⟨h3,h⟩
  ·obtain ⟨r1,h4,h⟩:=Qae h
   rcases Qah h with ⟨h5,h⟩|⟨h5,h⟩
   ·obtain ⟨e1,h13,h⟩:=Qae h
    refine gn 25 [1,2,3,7,8,9,10] [0] [nL QaR.enc x0.before,bT h0,cE QaR.enc h1,oO (zL 0),oO (lT 0 2),cE QaR.enc h1,oO (zL 1),oO (lT 1 2),cC (Qb2 h2),nF h3,cC (Qb2 h4),nF h5] (Qqw Γ rv h13 ?_)
    rcases e1 with e1|e1
    ·replace h:(some (.inl (addK .i64 i 1)):Option ((Int)⊕((Unit)⊕(Bool))))=some _:=h
     exact gn 3 [1,2,3,7] [0] [] (hI _ (oJ h))
    ·obtain ⟨r3,rfl⟩:∃ x,x=e1:=⟨_,rfl⟩
     replace h:(some (.inr (.inr r3)):Option ((Int)⊕((Unit)⊕(Bool))))=some _:=h
     exact (hE _ (oJ h):_=rv)
   ·obtain rfl:=(hE _ (oJ h):_=rv)
    exact gr 22 [] [nL QaR.enc x0.before,bT h0,cE QaR.enc h1,oO (zL 0),oO (lT 0 2),cE QaR.enc h1,oO (zL 1),oO (lT 1 2),cC (Qb2 h2),nF h3,cC (Qb2 h4),nT h5]
  ·exact gn 18 [1,2,3,7] [0] [nL QaR.enc x0.before,bT h0,cE QaR.enc h1,oO (zL 0),oO (lT 0 2),cE QaR.enc h1,oO (zL 1),oO (lT 1 2),cC (Qb2 h2),nT h3] (hI _ (oJ h))
 ·exact gn 5 [] [] [nL QaR.enc x0.before,bF h0] (hE _ (oJ h))
theorem Qno {x0 set_ l} {rv:Bool} (h:QdO x0 set_ l=some rv):AFn Tryz.prog 155 [.agg (Qac.enc x0),.one (lI set_),.one (lL 2 l Qaa.enc)] [] (one (.bool rv)) []:=by
 refine QaM Tryz.func155 (by kernel_rfl) (by kernel_rfl) (fun Γ=>?_)
 unfold QdO at h
 obtain ⟨e2,h14,h⟩:=Qae h
 refine gn 7 [1,2,3,7] [0] [] (Qqv Γ rv h14 ?_)
 rcases e2 with e2|e2
 ·replace h:(some true:Option Bool)=some _:=h
  obtain rfl:=Option.some.inj h
  exact gr 2 [] []
 ·obtain ⟨r4,rfl⟩:∃ x,x=e2:=⟨_,rfl⟩
  replace h:(some r4:Option Bool)=some _:=h
  exact Option.some.inj h
def Qfe (Γ:Gam) (rv:Int) (cf:Cf):Prop:=Go Tryz.prog Tryz.f129 [] Γ (one (lI rv)) [] cf
def Qmk (Γ:Gam) (rv:Int) (x0:Qac) (r:Qad) (i:Int):Prop:=Qfe Γ rv ⟨[.c 116,.l 116,.b 0,.c 15],⟨91,[vP 2 0 6,vP 3 1 4,vL 5 2 r.visits Qaa.enc,vI 6 i],[oX 6 30 (Qac.enc x0),oX 4 34 (Qad.enc r)]⟩⟩
def Qlj (Γ:Gam) (rv:Int) (x0:Qac) (r:Qad):Prop:=Qfe Γ rv ⟨[.c 15],⟨91,[vP 2 0 6,vP 3 1 4,vL 5 2 r.visits Qaa.enc],[oX 6 30 (Qac.enc x0),oX 4 34 (Qad.enc r)]⟩⟩
def Qml (Γ:Gam) (rv:Int) (x0:Qac) (r:Qad) (r1:Int×Int) (i1:Int):Prop:=Qfe Γ rv ⟨[.c 1012,.l 1012,.b 2,.c 127],⟨91,[vP 2 0 6,vL 5 2 r.visits Qaa.enc,vI 7 r1.1,vI 9 i1],[oX 6 30 (Qac.enc x0)]⟩⟩
def Qlk (Γ:Gam) (rv:Int) (x0:Qac) (r:Qad) (r1:Int×Int):Prop:=Qfe Γ rv ⟨[.c 127],⟨91,[vP 2 0 6,vL 5 2 r.visits Qaa.enc,vI 7 r1.1],[oX 6 30 (Qac.enc x0)]⟩⟩
def Qmm (Γ:Gam) (rv:Int) (x0:Qac) (r:Qad) (r1:Int×Int) (i2:Int):Prop:=Qfe Γ rv ⟨[.c 2036,.l 2036,.b 4,.c 255],⟨91,[vP 2 0 6,vL 5 2 r.visits Qaa.enc,vI 7 r1.1,vI 10 i2],[oX 6 30 (Qac.enc x0)]⟩⟩
def Qll (Γ:Gam) (rv:Int) (x0:Qac) (r:Qad) (r1:Int×Int):Prop:=Qfe Γ rv ⟨[.c 255],⟨91,[vP 2 0 6,vL 5 2 r.visits Qaa.enc,vI 7 r1.1],[oX 6 30 (Qac.enc x0)]⟩⟩
theorem Qre (Γ:Gam) (rv:Int) {x0 r} {s:Int} {e:(Unit)⊕(Int)} (h:QaT (fun s=>QcC x0 r s) s=some e) (hD:sel e (fun e=>Qlj Γ rv x0 r) (fun e=>e=rv)):Qmk Γ rv x0 r s:=by
 refine QaC (C:=fun (s:Int)=>Qmk Γ rv x0 r s) (D:=fun (e:(Unit)⊕(Int))=>sel e (fun e=>Qlj Γ rv x0 r) (fun e=>e=rv)) ?_ h hD
 clear h hD s e
 intro i z_ h hI hE
 replace h:QcC x0 r i=_:=h
 unfold QcC at h
 rcases Qah h with ⟨h0,h⟩|⟨h0,h⟩
 ·obtain ⟨x1,h1,h⟩:=Qae h
  rcases Qah h with ⟨h2,h⟩|⟨h2,h⟩
  ·obtain rfl:=(hE _ (oJ h):_=rv)
   exact gr 12 [] [nL Qaa.enc r.visits,bT h0,hH (.draw 17 []),cE Qaa.enc h1,rp 10 (bT h2),tT]
  ·rcases Qah h with ⟨h3,h⟩|⟨h3,h⟩
   ·obtain rfl:=(hE _ (oJ h):_=rv)
    exact gr 12 [] [nL Qaa.enc r.visits,bT h0,hH (.draw 17 []),cE Qaa.enc h1,rp 3 (bF h2),cE Qaa.enc h1,rp 5 (bF h2),nL Qag.enc x0.orders,bF h2,bF h2,bT h3]
   ·exact gn 14 [2,3,5,6] [0,1] [nL Qaa.enc r.visits,bT h0,hH (.draw 17 []),cE Qaa.enc h1,rp 3 (bF h2),cE Qaa.enc h1,rp 5 (bF h2),nL Qag.enc x0.orders,bF h2,bF h2,bF h3] (hI _ (oJ h))
 ·exact gn 5 [2,3,5] [0,1] [nL Qaa.enc r.visits,bF h0] (hE _ (oJ h))
theorem Qrf (Γ:Gam) (rv:Int) {x0 r r1} {s:Int} {e:(Unit)⊕(Int)} (h:QaT (fun s=>Qb7 x0 r r1 s) s=some e) (hD:sel e (fun e=>Qlk Γ rv x0 r r1) (fun e=>e=rv)):Qml Γ rv x0 r r1 s:=by
 refine QaC (C:=fun (s:Int)=>Qml Γ rv x0 r r1 s) (D:=fun (e:(Unit)⊕(Int))=>sel e (fun e=>Qlk Γ rv x0 r r1) (fun e=>e=rv)) ?_ h hD
 clear h hD s e
 intro i1 z_ h hI hE
 replace h:Qb7 x0 r r1 i1=_:=h
 unfold Qb7 at h
 rcases Qah h with ⟨h7,h⟩|⟨h7,h⟩
 ·obtain ⟨x2,h8,h⟩:=Qae h
  obtain ⟨x3,h9,h⟩:=Qae h
  rcases Qah h with ⟨h10,h⟩|⟨h10,h⟩
  ·obtain rfl:=(hE _ (oJ h):_=rv)
   exact gr 12 [] [nL Qaa.enc r.visits,bT h7,hH (.draw 10 []),cE Qaa.enc h8,cE Qag.enc h9,bT h10]
  ·exact gn 14 [2,5,7,9] [0] [nL Qaa.enc r.visits,bT h7,hH (.draw 10 []),cE Qaa.enc h8,cE Qag.enc h9,bF h10] (hI _ (oJ h))
 ·exact gn 5 [2,5,7] [0] [nL Qaa.enc r.visits,bF h7] (hE _ (oJ h))
theorem Qrg (Γ:Gam) (rv:Int) {x0 r r1} {s:Int} {e:(Unit)⊕(Int)} (h:QaT (fun s=>QbR x0 r r1 s) s=some e) (hD:sel e (fun e=>Qll Γ rv x0 r r1) (fun e=>e=rv)):Qmm Γ rv x0 r r1 s:=by
 refine QaC (C:=fun (s:Int)=>Qmm Γ rv x0 r r1 s) (D:=fun (e:(Unit)⊕(Int))=>sel e (fun e=>Qll Γ rv x0 r r1) (fun e=>e=rv)) ?_ h hD
 clear h hD s e
 intro i2 z_ h hI hE
 replace h:QbR x0 r r1 i2=_:=h
 unfold QbR at h
 rcases Qah h with ⟨h12,h⟩|⟨h12,h⟩
 ·obtain ⟨x4,h13,h⟩:=Qae h
  obtain ⟨r2,h14,h⟩:=Qae h
  rcases Qah h with ⟨h15,h⟩|⟨h15,h⟩
  ·obtain rfl:=(hE _ (oJ h):_=rv)
   exact gr 12 [] [nL Qaa.enc r.visits,bT h12,cE Qaa.enc h13,cC (Qbs h14),bT h15]
  ·exact gn 14 [2,5,7,10] [0] [nL Qaa.enc r.visits,bT h12,cE Qaa.enc h13,cC (Qbs h14),bF h15] (hI _ (oJ h))
 ·exact gn 5 [2,5,7] [0] [nL Qaa.enc r.visits,bF h12] (hE _ (oJ h))
theorem Qhx {x0 r} {rv:Int} (h:Qgw x0 r=some rv):AFn Tryz.prog 129 [.agg (Qac.enc x0),.agg (Qad.enc r)] [] (one (lI rv)) []:=by
 refine QaM Tryz.func129 (by kernel_rfl) (by kernel_rfl) (fun Γ=>?_)
 unfold Qgw at h
 obtain ⟨e0,h4,h⟩:=Qae h
 refine gn 9 [2,3,5,6] [0,1] [] (Qre Γ rv h4 ?_)
 rcases e0 with e0|e0
 ·replace h:(bnd (QfH r) fun r1=>br ((neI r1.2 0)||(eqI (lenI r.visits) 0)) (some 2) (bnd (QaT (fun s=>Qb7 x0 r r1 s) 0) (fun e=>sel e (fun (_:Unit)=>bnd (QaT (fun s=>QbR x0 r r1 s) 0) (fun e=>sel e (fun (_:Unit)=>bnd (QdP x0 r.visits) fun r3=>br r3 (bnd (Qep x0 r1.1) fun r4=>br r4 (bnd (QdO x0 r1.1 r.visits) fun r5=>br r5 (some 0) (some 21)) (some 20)) (some 19)) (fun r6=>some r6))) (fun r7=>some r7))):Option Int)=some _:=h
  obtain ⟨r1,h5,h⟩:=Qae h
  rcases Qah h with ⟨h6,h⟩|⟨h6,h⟩
  ·obtain rfl:=Option.some.inj h
   exact gr 8 [] [cC (Qnn h5),hP,hP,oI ((neI r1.2 0)=false),nL Qaa.enc r.visits,hP,hP,oI ((neI r1.2 0)=false),oR True ((neI r1.2 0)=false),bT h6]
  ·obtain ⟨e1,h11,h⟩:=Qae h
   refine gn 12 [2,5,7,9] [0] [cC (Qnn h5),hP,hP,oI ((neI r1.2 0)=false),nL Qaa.enc r.visits,hP,hP,oI ((neI r1.2 0)=false),oR True ((neI r1.2 0)=false),bF h6] (Qrf Γ rv h11 ?_)
   rcases e1 with e1|e1
   ·replace h:(bnd (QaT (fun s=>QbR x0 r r1 s) 0) (fun e=>sel e (fun (_:Unit)=>bnd (QdP x0 r.visits) fun r3=>br r3 (bnd (Qep x0 r1.1) fun r4=>br r4 (bnd (QdO x0 r1.1 r.visits) fun r5=>br r5 (some 0) (some 21)) (some 20)) (some 19)) (fun r6=>some r6)):Option Int)=some _:=h
    obtain ⟨e2,h16,h⟩:=Qae h
    refine gn 5 [2,5,7,10] [0] [] (Qrg Γ rv h16 ?_)
    rcases e2 with e2|e2
    ·replace h:(bnd (QdP x0 r.visits) fun r3=>br r3 (bnd (Qep x0 r1.1) fun r4=>br r4 (bnd (QdO x0 r1.1 r.visits) fun r5=>br r5 (some 0) (some 21)) (some 20)) (some 19):Option Int)=some _:=h
     obtain ⟨r3,h17,h⟩:=Qae h
     rcases Qah h with ⟨h18,h⟩|⟨h18,h⟩
     ·obtain ⟨r4,h19,h⟩:=Qae h
      rcases Qah h with ⟨h20,h⟩|⟨h20,h⟩
      ·obtain ⟨r5,h21,h⟩:=Qae h
       rcases Qah h with ⟨h22,h⟩|⟨h22,h⟩
       ·obtain rfl:=Option.some.inj h
        exact gr 17 [] [cC (QgP h17),nF h18,cC (QjC h19),nF h20,cC (Qno h21),nF h22]
       ·obtain rfl:=Option.some.inj h
        exact gr 16 [] [cC (QgP h17),nF h18,cC (QjC h19),nF h20,cC (Qno h21),nT h22]
      ·obtain rfl:=Option.some.inj h
       exact gr 11 [] [cC (QgP h17),nF h18,cC (QjC h19),nT h20]
     ·obtain rfl:=Option.some.inj h
      exact gr 6 [] [cC (QgP h17),nT h18]
    ·obtain ⟨r6,rfl⟩:∃ x,x=e2:=⟨_,rfl⟩
     replace h:(some r6:Option Int)=some _:=h
     exact Option.some.inj h
   ·obtain ⟨r7,rfl⟩:∃ x,x=e1:=⟨_,rfl⟩
    replace h:(some r7:Option Int)=some _:=h
    exact Option.some.inj h
 ·obtain ⟨r8,rfl⟩:∃ x,x=e0:=⟨_,rfl⟩
  replace h:(some r8:Option Int)=some _:=h
  exact Option.some.inj h
def Qp7 (Γ:Gam) (rv:Bool) (cf:Cf):Prop:=Go Tryz.prog Tryz.f130 [] Γ (one (.bool rv)) [] cf
def Qnk (Γ:Gam) (rv:Bool) (t:Qal) (skills:Int) (bit:Int):Prop:=Qp7 Γ rv ⟨[.c 116,.l 116,.b 0,.c 15],⟨30,[vI 1 skills,vP 2 0 14,vI 5 bit],[oX 14 124 (Qal.enc t)]⟩⟩
def Qmc (Γ:Gam) (rv:Bool) (t:Qal) (skills:Int):Prop:=Qp7 Γ rv ⟨[.c 15],⟨30,[],[]⟩⟩
theorem Qr5 (Γ:Gam) (rv:Bool) {t skills} {s:Int} {e:(Unit)⊕(Bool)} (h:QaT (fun s=>Qdy t skills s) s=some e) (hD:sel e (fun e=>Qmc Γ rv t skills) (fun e=>e=rv)):Qnk Γ rv t skills s:=by
 refine QaC (C:=fun (s:Int)=>Qnk Γ rv t skills s) (D:=fun (e:(Unit)⊕(Bool))=>sel e (fun e=>Qmc Γ rv t skills) (fun e=>e=rv)) ?_ h hD
 clear h hD s e
 intro bit z_ h hI hE
 replace h:Qdy t skills bit=_:=h
 unfold Qdy at h
 rcases Qah h with ⟨h1,h⟩|⟨h1,h⟩
 ·obtain ⟨h2,h⟩:=Qav h
  rcases Qah h with ⟨h3,h⟩|⟨h3,h⟩
  ·obtain ⟨h4,h⟩:=Qav h
   rcases Qah h with ⟨h5,h⟩|⟨h5,h⟩
   ·obtain rfl:=(hE _ (oJ h):_=rv)
    exact gr 12 [] [bT h1,oO (h2),oO (oA (n:=2)),rp 4 (bT h3),oO (h4),bT h3,oO (oA (n:=2)),bT h3,bT h3,bT h5]
   ·exact gn 14 [1,2,5] [0] [bT h1,oO (h2),oO (oA (n:=2)),rp 4 (bT h3),oO (h4),bT h3,oO (oA (n:=2)),bT h3,bT h3,bF h5] (hI _ (oJ h))
  ·exact gn 14 [1,2,5] [0] [bT h1,oO (h2),oO (oA (n:=2)),rp 7 (bF h3),fF] (hI _ (oJ h))
 ·exact gn 5 [] [] [bF h1] (hE _ (oJ h))
theorem Qo7 {t skills} {rv:Bool} (h:Qg9 t skills=some rv):AFn Tryz.prog 130 [.agg (Qal.enc t),.one (lI skills)] [] (one (.bool rv)) []:=by
 refine QaM Tryz.func130 (by kernel_rfl) (by kernel_rfl) (fun Γ=>?_)
 unfold Qg9 at h
 rcases Qah h with ⟨h0,h⟩|⟨h0,h⟩
 ·obtain rfl:=Option.some.inj h
  exact gr 8 [] [hP,hP,hP,oI ((ltI t.skills 0)=false),oR True ((ltI t.skills 0)=false),bT h0]
 ·obtain ⟨e0,h6,h⟩:=Qae h
  refine gn 12 [1,2,5] [0] [hP,hP,hP,oI ((ltI t.skills 0)=false),oR True ((ltI t.skills 0)=false),bF h0] (Qr5 Γ rv h6 ?_)
  rcases e0 with e0|e0
  ·replace h:(some true:Option Bool)=some _:=h
   obtain rfl:=Option.some.inj h
   exact gr 2 [] []
  ·obtain ⟨r,rfl⟩:∃ x,x=e0:=⟨_,rfl⟩
   replace h:(some r:Option Bool)=some _:=h
   exact Option.some.inj h
def Qp5 (Γ:Gam) (rv:Bool) (cf:Cf):Prop:=Go Tryz.prog Tryz.f188 [] Γ (one (.bool rv)) [] cf
def Qni (Γ:Gam) (rv:Bool) (l:List (List Int)) (dims:Int) (i:Int):Prop:=Qp5 Γ rv ⟨[.c 116,.l 116,.b 0,.c 15],⟨25,[vL 0 1 l Qbf,vI 1 dims,vI 5 i],[]⟩⟩
def Ql9 (Γ:Gam) (rv:Bool) (l:List (List Int)) (dims:Int):Prop:=Qp5 Γ rv ⟨[.c 15],⟨25,[],[]⟩⟩
theorem Qr3 (Γ:Gam) (rv:Bool) {l dims} {s:Int} {e:(Unit)⊕(Bool)} (h:QaT (fun s=>Qc3 l dims s) s=some e) (hD:sel e (fun e=>Ql9 Γ rv l dims) (fun e=>e=rv)):Qni Γ rv l dims s:=by
 refine QaC (C:=fun (s:Int)=>Qni Γ rv l dims s) (D:=fun (e:(Unit)⊕(Bool))=>sel e (fun e=>Ql9 Γ rv l dims) (fun e=>e=rv)) ?_ h hD
 clear h hD s e
 intro i z_ h hI hE
 replace h:Qc3 l dims i=_:=h
 unfold Qc3 at h
 rcases Qah h with ⟨h1,h⟩|⟨h1,h⟩
 ·obtain ⟨x0,h2,h⟩:=Qae h
  rcases Qah h with ⟨h3,h⟩|⟨h3,h⟩
  ·obtain rfl:=(hE _ (oJ h):_=rv)
   exact gr 12 [] [nL Qbf l,bT h1,cE Qbf h2,nL Qay x0,bT h3]
  ·exact gn 14 [0,1,5] [] [nL Qbf l,bT h1,cE Qbf h2,nL Qay x0,bF h3] (hI _ (oJ h))
 ·exact gn 5 [] [] [nL Qbf l,bF h1] (hE _ (oJ h))
theorem Qo2 {l dims} {rv:Bool} (h:Qip l dims=some rv):AFn Tryz.prog 188 [.one (lL 1 l Qbf),.one (lI dims)] [] (one (.bool rv)) []:=by
 refine QaM Tryz.func188 (by kernel_rfl) (by kernel_rfl) (fun Γ=>?_)
 unfold Qip at h
 rcases Qah h with ⟨h0,h⟩|⟨h0,h⟩
 ·obtain rfl:=Option.some.inj h
  exact gr 8 [] [hP,hP,hP,oI ((ltI dims 0)=false),oR True ((ltI dims 0)=false),bT h0]
 ·obtain ⟨e0,h4,h⟩:=Qae h
  refine gn 12 [0,1,5] [] [hP,hP,hP,oI ((ltI dims 0)=false),oR True ((ltI dims 0)=false),bF h0] (Qr3 Γ rv h4 ?_)
  rcases e0 with e0|e0
  ·replace h:(some true:Option Bool)=some _:=h
   obtain rfl:=Option.some.inj h
   exact gr 2 [] []
  ·obtain ⟨r,rfl⟩:∃ x,x=e0:=⟨_,rfl⟩
   replace h:(some r:Option Bool)=some _:=h
   exact Option.some.inj h
def Qju (Γ:Gam) (rv:List Int×Int) (cf:Cf):Prop:=Go Tryz.prog Tryz.f182 [] Γ (.tup [.one (lL 1 rv.1 Qay),.one (lI rv.2)]) [] cf
def Qn8 (Γ:Gam) (rv:List Int×Int) (l:List (List Int)) (dims:Int) (l1:List Int) (d:Int) (n:Int) (i:Int):Prop:=Qju Γ rv ⟨[.c 62612,.l 62612,.b 2,.c 7827,.b 1,.c 979,.l 244,.b 0,.c 31],⟨39,[vL 0 1 l Qbf,vI 1 dims,vO 6 0 1 l1 Qay,vI 7 d,vI 8 n,vI 9 i],[oS 1 3 l1 Qay]⟩⟩
def Qnh (Γ:Gam) (rv:List Int×Int) (l:List (List Int)) (dims:Int) (l1:List Int) (d:Int) (n1:Int):Prop:=Qju Γ rv ⟨[.c 7827,.b 1,.c 979,.l 244,.b 0,.c 31],⟨39,[vL 0 1 l Qbf,vI 1 dims,vO 6 0 1 l1 Qay,vI 7 d,vI 8 n1],[oS 1 3 l1 Qay]⟩⟩
def Qn7 (Γ:Gam) (rv:List Int×Int) (l:List (List Int)) (dims:Int) (l1:List Int) (d:Int):Prop:=Qju Γ rv ⟨[.c 244,.l 244,.b 0,.c 31],⟨39,[vL 0 1 l Qbf,vI 1 dims,vO 6 0 1 l1 Qay,vI 7 d],[oS 1 3 l1 Qay]⟩⟩
def Qng (Γ:Gam) (rv:List Int×Int) (l:List (List Int)) (dims:Int) (l2:List Int):Prop:=Qju Γ rv ⟨[.c 31],⟨39,[vO 6 0 1 l2 Qay],[oS 1 3 l2 Qay]⟩⟩
theorem QsQ (Γ:Gam) (rv:List Int×Int) {l dims l1 d} {s:Int×Int} {e:Int} (h:QaT (fun s=>QcZ l dims l1 d s.1 s.2) s=some e) (hD:Qnh Γ rv l dims l1 d e):Qn8 Γ rv l dims l1 d s.1 s.2:=by
 refine QaC (C:=fun (s:Int×Int)=>Qn8 Γ rv l dims l1 d s.1 s.2) (D:=fun (e:Int)=>Qnh Γ rv l dims l1 d e) ?_ h hD
 clear h hD s e
 rintro ⟨n,i⟩ z_ h hI hE
 replace h:QcZ l dims l1 d n i=_:=h
 unfold QcZ at h
 rcases Qah h with ⟨h3,h⟩|⟨h3,h⟩
 ·obtain ⟨x0,h4,h⟩:=Qae h
  obtain ⟨x1,h5,h⟩:=Qae h
  exact gn 11 [0,1,6,7,8,9] [0] [nL Qbf l,bT h3,cE Qbf h4,cE Qay h5] (hI _ (oJ h))
 ·exact gn 5 [0,1,6,7,8] [0] [nL Qbf l,bF h3] (hE _ (oJ h))
theorem QsP (Γ:Gam) (rv:List Int×Int) {l dims} {s:List Int×Int} {e:List Int} (h:QaT (fun s=>QcY l dims s.1 s.2) s=some e) (hD:Qng Γ rv l dims e):Qn7 Γ rv l dims s.1 s.2:=by
 refine QaC (C:=fun (s:List Int×Int)=>Qn7 Γ rv l dims s.1 s.2) (D:=fun (e:List Int)=>Qng Γ rv l dims e) ?_ h hD
 clear h hD s e
 rintro ⟨l1,d⟩ z_ h hI hE
 replace h:QcY l dims l1 d=_:=h
 unfold QcY at h
 rcases Qah h with ⟨h2,h⟩|⟨h2,h⟩
 ·obtain ⟨e0,h6,h⟩:=Qae h
  refine gn 14 [0,1,6,7,8,9] [0] [bT h2] (QsQ Γ rv h6 ?_)
  obtain ⟨n1,rfl⟩:∃ x,x=e0:=⟨_,rfl⟩
  replace h:(chk (okN (l1++[n1]).length 8) (some (.inl ((l1++[n1]),(addK .i64 d 1)))):Option ((List Int×Int)⊕(List Int)))=some _:=h
  obtain ⟨h7,h⟩:=Qav h
  exact gn 4 [0,1,6,7] [2] [oO (Eq.refl ([n1].map Qay).length),aO Qay h7] (hI _ (oJ h))
 ·exact gn 5 [6] [0] [bF h2] (hE _ (oJ h))
theorem QuE {l dims} {rv:List Int×Int} (h:Qh4 l dims=some rv):AFn Tryz.prog 182 [.one (lL 1 l Qbf),.one (lI dims)] [] (.tup [.one (lL 1 rv.1 Qay),.one (lI rv.2)]) []:=by
 refine QaM Tryz.func182 (by kernel_rfl) (by kernel_rfl) (fun Γ=>?_)
 unfold Qh4 at h
 obtain ⟨r,h0,h⟩:=Qae h
 rcases Qah h with ⟨h1,h⟩|⟨h1,h⟩
 ·obtain ⟨e1,h8,h⟩:=Qae h
  refine gn 14 [0,1,6,7] [0] [cC (Qo2 h0),nF h1,hW 10,hH (.adopt 6 1 3)] (QsP Γ rv h8 ?_)
  obtain ⟨l2,rfl⟩:∃ x,x=e1:=⟨_,rfl⟩
  replace h:(some (l2,0):Option (List Int×Int))=some _:=h
  obtain rfl:=Option.some.inj h
  exact gr 2 [] [hW 5,hH (.frz 0),rp 3 (eL l2 Qay)]
 ·obtain rfl:=Option.some.inj h
  exact gr 8 [] [cC (Qo2 h0),nT h1,hW 4,hH (.nilS 4 0 1)]
theorem QtV {x0} {rv:Int} (h:Qhb x0=some rv):AFn Tryz.prog 183 [.agg (Qac.enc x0)] [] (one (lI rv)) []:=by
 refine QaM Tryz.func183 (by kernel_rfl) (by kernel_rfl) (fun Γ=>?_)
 unfold Qhb at h
 rcases Qah h with ⟨h0,h⟩|⟨h0,h⟩
 ·obtain rfl:=Option.some.inj h
  exact gr 8 [] [nL Qal.enc x0.types,bT h0]
 ·obtain ⟨x1,h1,h⟩:=Qae h
  obtain rfl:=Option.some.inj h
  exact gr 9 [] [nL Qal.enc x0.types,bF h0,cE Qal.enc h1,nL Qay x1.cap]
def Qh6 (Γ:Gam) (rv:List Int×Int) (cf:Cf):Prop:=Go Tryz.prog Tryz.f175 [] Γ (.tup [.one (lL 1 rv.1 Qay),.one (lI rv.2)]) [] cf
def Qmu (Γ:Gam) (rv:List Int×Int) (x0:Qac) (l:List Qaa) (n:Int) (l1:List (List Int)) (i:Int) (on_:Bool) (there:Bool) (k:Int):Prop:=Qh6 Γ rv ⟨[.c 29844,.l 29844,.b 2,.c 3731,.b 1,.c 467,.l 116,.b 0,.c 15],⟨69,[vL 1 2 l Qaa.enc,vI 2 n,vP 3 0 6,vO 8 1 1 l1 Qbf,vI 9 i,vB 10 on_,vB 11 there,vI 12 k],[oX 6 30 (Qac.enc x0),oS 1 42 l1 Qbf]⟩⟩
def Qlv (Γ:Gam) (rv:List Int×Int) (x0:Qac) (l:List Qaa) (n:Int) (l1:List (List Int)) (i:Int) (on_1:Bool) (there1:Bool):Prop:=Qh6 Γ rv ⟨[.c 3731,.b 1,.c 467,.l 116,.b 0,.c 15],⟨69,[vL 1 2 l Qaa.enc,vI 2 n,vP 3 0 6,vO 8 1 1 l1 Qbf,vI 9 i,vB 10 on_1,vB 11 there1],[oX 6 30 (Qac.enc x0),oS 1 42 l1 Qbf]⟩⟩
def Qmt (Γ:Gam) (rv:List Int×Int) (x0:Qac) (l:List Qaa) (n:Int) (l1:List (List Int)) (i:Int):Prop:=Qh6 Γ rv ⟨[.c 116,.l 116,.b 0,.c 15],⟨69,[vL 1 2 l Qaa.enc,vI 2 n,vP 3 0 6,vO 8 1 1 l1 Qbf,vI 9 i],[oX 6 30 (Qac.enc x0),oS 1 42 l1 Qbf]⟩⟩
def Qlu (Γ:Gam) (rv:List Int×Int) (x0:Qac) (l:List Qaa) (n:Int) (l2:List (List Int)):Prop:=Qh6 Γ rv ⟨[.c 15],⟨69,[vP 3 0 6,vO 8 1 1 l2 Qbf],[oX 6 30 (Qac.enc x0),oS 1 42 l2 Qbf]⟩⟩
theorem Qrl (Γ:Gam) (rv:List Int×Int) {x0 l n l1 i} {s:Bool×Bool×Int} {e:Bool×Bool} (h:QaT (fun s=>Qca x0 l n l1 i s.1 s.2.1 s.2.2) s=some e) (hD:Qlv Γ rv x0 l n l1 i e.1 e.2):Qmu Γ rv x0 l n l1 i s.1 s.2.1 s.2.2:=by
 refine QaC (C:=fun (s:Bool×Bool×Int)=>Qmu Γ rv x0 l n l1 i s.1 s.2.1 s.2.2) (D:=fun (e:Bool×Bool)=>Qlv Γ rv x0 l n l1 i e.1 e.2) ?_ h hD
 clear h hD s e
 rintro ⟨on_,there,k⟩ z_ h hI hE
 replace h:Qca x0 l n l1 i on_ there k=_:=h
 unfold Qca at h
 rcases Qah h with ⟨h2,h⟩|⟨h2,h⟩
 ·obtain ⟨x2,h3,h⟩:=Qae h
  rcases Qah h with ⟨h4,h⟩|⟨h4,h⟩
  ·exact gn 14 [1,2,3,8,9,10,11,12] [0,1] [nL Qaa.enc l,bT h2,cE Qaa.enc h3,bT h4] (hI _ (oJ h))
  ·rcases Qah h with ⟨h5,h⟩|⟨h5,h⟩
   ·exact gn 21 [1,2,3,8,9,10,11,12] [0,1] [nL Qaa.enc l,bT h2,cE Qaa.enc h3,bF h4,bT h5,cE Qaa.enc h3] (hI _ (oJ h))
   ·exact gn 21 [1,2,3,8,9,10,11,12] [0,1] [nL Qaa.enc l,bT h2,cE Qaa.enc h3,bF h4,bF h5] (hI _ (oJ h))
 ·exact gn 5 [1,2,3,8,9,10,11] [0,1] [nL Qaa.enc l,bF h2] (hE _ (oJ h))
theorem Qrk (Γ:Gam) (rv:List Int×Int) {x0 l n} {s:List (List Int)×Int} {e:List (List Int)} (h:QaT (fun s=>Qb9 x0 l n s.1 s.2) s=some e) (hD:Qlu Γ rv x0 l n e):Qmt Γ rv x0 l n s.1 s.2:=by
 refine QaC (C:=fun (s:List (List Int)×Int)=>Qmt Γ rv x0 l n s.1 s.2) (D:=fun (e:List (List Int))=>Qlu Γ rv x0 l n e) ?_ h hD
 clear h hD s e
 rintro ⟨l1,i⟩ z_ h hI hE
 replace h:Qb9 x0 l n l1 i=_:=h
 unfold Qb9 at h
 rcases Qah h with ⟨h0,h⟩|⟨h0,h⟩
 ·obtain ⟨x1,h1,h⟩:=Qae h
  obtain ⟨e0,h6,h⟩:=Qae h
  refine gn 14 [1,2,3,8,9,10,11,12] [0,1] [nL Qag.enc x0.orders,bT h0,cE Qag.enc h1] (Qrl Γ rv h6 ?_)
  obtain ⟨on_1,there1⟩:=e0
  replace h:(br (on_1&&there1) (bnd (getI x0.orders i) fun x3=>chk (okN (l1++[x3.load]).length 24) (some (.inl ((l1++[x3.load]),(addK .i64 i 1))))) (some (.inl (l1,(addK .i64 i 1)))):Option ((List (List Int)×Int)⊕(List (List Int))))=some _:=h
  rcases Qah h with ⟨h7,h⟩|⟨h7,h⟩
  ·obtain ⟨x3,h8,h⟩:=Qae h
   obtain ⟨h9,h⟩:=Qav h
   exact gn 7 [1,2,3,8,9] [0,3] [hP,hP,oR True (on_1=true),bT h7,cE Qag.enc h8,oO (Eq.refl ([x3.load].map Qbf).length),aO Qbf h9] (hI _ (oJ h))
  ·exact gn 7 [1,2,3,8,9] [0,1] [hP,hP,oR True (on_1=true),bF h7] (hI _ (oJ h))
 ·exact gn 5 [3,8] [0,1] [nL Qag.enc x0.orders,bF h0] (hE _ (oJ h))
theorem Qof {x0 l n} {rv:List Int×Int} (h:QhT x0 l n=some rv):AFn Tryz.prog 175 [.agg (Qac.enc x0),.one (lL 2 l Qaa.enc),.one (lI n)] [] (.tup [.one (lL 1 rv.1 Qay),.one (lI rv.2)]) []:=by
 refine QaM Tryz.func175 (by kernel_rfl) (by kernel_rfl) (fun Γ=>?_)
 unfold QhT at h
 obtain ⟨e1,h10,h⟩:=Qae h
 refine gn 9 [1,2,3,8,9] [0,1] [hW 14,hH (.adopt 8 1 42)] (Qrk Γ rv h10 ?_)
 obtain ⟨l2,rfl⟩:∃ x,x=e1:=⟨_,rfl⟩
 replace h:(bnd (Qhb x0) fun r=>bnd (Qh4 l2 r) fun r1=>some (r1.1,r1.2):Option (List Int×Int))=some _:=h
 obtain ⟨r,h11,h⟩:=Qae h
 obtain ⟨r1,h12,h⟩:=Qae h
 obtain rfl:=Option.some.inj h
 exact gr 2 [] [cC (QtV h11),hH (.frz 1),rp 2 (eL l2 Qbf),cC (QuE h12)]
def Qpe (Γ:Gam) (rv:List (List Int)×Int) (cf:Cf):Prop:=Go Tryz.prog Tryz.f156 [] Γ (.tup [.one (lL 1 rv.1 Qbf),.one (lI rv.2)]) [] cf
def Qms (Γ:Gam) (rv:List (List Int)×Int) (x0:Qac) (r:Qad) (l:List (List Int)) (n:Int):Prop:=Qpe Γ rv ⟨[.c 244,.l 244,.b 0,.c 31],⟨40,[vP 2 0 6,vP 3 1 4,vO 7 2 1 l Qbf,vI 8 n],[oX 6 30 (Qac.enc x0),oX 4 34 (Qad.enc r),oS 1 42 l Qbf]⟩⟩
def Qlt (Γ:Gam) (rv:List (List Int)×Int) (x0:Qac) (r:Qad) (l1:List (List Int)):Prop:=Qpe Γ rv ⟨[.c 31],⟨40,[vO 7 0 1 l1 Qbf],[oS 1 42 l1 Qbf]⟩⟩
theorem Qrj (Γ:Gam) (rv:List (List Int)×Int) {x0 r} {s:List (List Int)×Int} {e:(List (List Int))⊕(List (List Int)×Int)} (h:QaT (fun s=>Qb8 x0 r s.1 s.2) s=some e) (hD:sel e (fun e=>Qlt Γ rv x0 r e) (fun e=>e=rv)):Qms Γ rv x0 r s.1 s.2:=by
 refine QaC (C:=fun (s:List (List Int)×Int)=>Qms Γ rv x0 r s.1 s.2) (D:=fun (e:(List (List Int))⊕(List (List Int)×Int))=>sel e (fun e=>Qlt Γ rv x0 r e) (fun e=>e=rv)) ?_ h hD
 clear h hD s e
 rintro ⟨l,n⟩ z_ h hI hE
 replace h:Qb8 x0 r l n=_:=h
 unfold Qb8 at h
 rcases Qah h with ⟨h2,h⟩|⟨h2,h⟩
 ·obtain ⟨r2,h3,h⟩:=Qae h
  rcases Qah h with ⟨h4,h⟩|⟨h4,h⟩
  ·obtain rfl:=(hE _ (oJ h):_=rv)
   exact gr 15 [] [nL Qaa.enc r.visits,bT h2,cC (Qof h3),bT h4,hW 5,hH (.nilS 4 0 1)]
  ·obtain ⟨h5,h⟩:=Qav h
   exact gn 18 [2,3,7,8] [0,1,4] [nL Qaa.enc r.visits,bT h2,cC (Qof h3),bF h4,oO (Eq.refl ([r2.1].map Qbf).length),aO Qbf h5] (hI _ (oJ h))
 ·exact gn 5 [7] [2] [nL Qaa.enc r.visits,bF h2] (hE _ (oJ h))
theorem Qoe {x0 r} {rv:List (List Int)×Int} (h:QhS x0 r=some rv):AFn Tryz.prog 156 [.agg (Qac.enc x0),.agg (Qad.enc r)] [] (.tup [.one (lL 1 rv.1 Qbf),.one (lI rv.2)]) []:=by
 refine QaM Tryz.func156 (by kernel_rfl) (by kernel_rfl) (fun Γ=>?_)
 unfold QhS at h
 obtain ⟨r1,h0,h⟩:=Qae h
 rcases Qah h with ⟨h1,h⟩|⟨h1,h⟩
 ·obtain rfl:=Option.some.inj h
  exact gr 10 [] [cC (Qhx h0),bT h1,hW 5,hH (.nilS 4 0 1)]
 ·obtain ⟨e0,h6,h⟩:=Qae h
  refine gn 16 [2,3,7,8] [0,1,2] [cC (Qhx h0),bF h1,hW 10,hH (.adopt 7 1 42)] (Qrj Γ rv h6 ?_)
  rcases e0 with e0|e0
  ·obtain ⟨l1,rfl⟩:∃ x,x=e0:=⟨_,rfl⟩
   replace h:(some (l1,0):Option (List (List Int)×Int))=some _:=h
   obtain rfl:=Option.some.inj h
   exact gr 2 [] [hW 5,hH (.frz 0),rp 3 (eL l1 Qbf)]
  ·obtain ⟨r3,rfl⟩:∃ x,x=e0:=⟨_,rfl⟩
   replace h:(some r3:Option (List (List Int)×Int))=some _:=h
   exact Option.some.inj h
def Qp4 (Γ:Gam) (rv:Bool) (cf:Cf):Prop:=Go Tryz.prog Tryz.f157 [] Γ (one (.bool rv)) [] cf
def Qnf (Γ:Gam) (rv:Bool) (a:List Int) (capacity:List Int) (i:Int):Prop:=Qp4 Γ rv ⟨[.c 116,.l 116,.b 0,.c 15],⟨26,[vL 0 1 a Qay,vL 1 1 capacity Qay,vI 5 i],[]⟩⟩
def Ql7 (Γ:Gam) (rv:Bool) (a:List Int) (capacity:List Int):Prop:=Qp4 Γ rv ⟨[.c 15],⟨26,[],[]⟩⟩
theorem Qr2 (Γ:Gam) (rv:Bool) {a capacity} {s:Int} {e:(Unit)⊕(Bool)} (h:QaT (fun s=>Qc2 a capacity s) s=some e) (hD:sel e (fun e=>Ql7 Γ rv a capacity) (fun e=>e=rv)):Qnf Γ rv a capacity s:=by
 refine QaC (C:=fun (s:Int)=>Qnf Γ rv a capacity s) (D:=fun (e:(Unit)⊕(Bool))=>sel e (fun e=>Ql7 Γ rv a capacity) (fun e=>e=rv)) ?_ h hD
 clear h hD s e
 intro i z_ h hI hE
 replace h:Qc2 a capacity i=_:=h
 unfold Qc2 at h
 rcases Qah h with ⟨h1,h⟩|⟨h1,h⟩
 ·obtain ⟨x0,h2,h⟩:=Qae h
  obtain ⟨x1,h3,h⟩:=Qae h
  rcases Qah h with ⟨h4,h⟩|⟨h4,h⟩
  ·obtain rfl:=(hE _ (oJ h):_=rv)
   exact gr 12 [] [nL Qay a,bT h1,hH (.draw 9 []),cE Qay h2,cE Qay h3,bT h4]
  ·exact gn 14 [0,1,5] [] [nL Qay a,bT h1,hH (.draw 9 []),cE Qay h2,cE Qay h3,bF h4] (hI _ (oJ h))
 ·exact gn 5 [] [] [nL Qay a,bF h1] (hE _ (oJ h))
theorem Qo0 {a capacity} {rv:Bool} (h:Qio a capacity=some rv):AFn Tryz.prog 157 [.one (lL 1 a Qay),.one (lL 1 capacity Qay)] [] (one (.bool rv)) []:=by
 refine QaM Tryz.func157 (by kernel_rfl) (by kernel_rfl) (fun Γ=>?_)
 unfold Qio at h
 rcases Qah h with ⟨h0,h⟩|⟨h0,h⟩
 ·obtain rfl:=Option.some.inj h
  exact gr 8 [] [nL Qay a,nL Qay capacity,bT h0]
 ·obtain ⟨e0,h5,h⟩:=Qae h
  refine gn 12 [0,1,5] [] [nL Qay a,nL Qay capacity,bF h0] (Qr2 Γ rv h5 ?_)
  rcases e0 with e0|e0
  ·replace h:(some true:Option Bool)=some _:=h
   obtain rfl:=Option.some.inj h
   exact gr 2 [] []
  ·obtain ⟨r,rfl⟩:∃ x,x=e0:=⟨_,rfl⟩
   replace h:(some r:Option Bool)=some _:=h
   exact Option.some.inj h
def Qp9 (Γ:Gam) (rv:Int) (cf:Cf):Prop:=Go Tryz.prog Tryz.f131 [] Γ (one (lI rv)) [] cf
def Qnp (Γ:Gam) (rv:Int) (x0:Qac) (r:Qad) (r1:List (List Int)×Int) (i:Int):Prop:=Qp9 Γ rv ⟨[.c 500,.l 500,.b 0,.c 63],⟨47,[vP 2 0 6,vP 3 1 4,vL 5 1 r1.1 Qbf,vI 7 i],[oX 6 30 (Qac.enc x0),oX 4 34 (Qad.enc r)]⟩⟩
def Qmr (Γ:Gam) (rv:Int) (x0:Qac) (r:Qad) (r1:List (List Int)×Int):Prop:=Qp9 Γ rv ⟨[.c 63],⟨47,[],[]⟩⟩
theorem Qr7 (Γ:Gam) (rv:Int) {x0 r r1} {s:Int} {e:(Unit)⊕(Int)} (h:QaT (fun s=>Qc6 x0 r r1 s) s=some e) (hD:sel e (fun e=>Qmr Γ rv x0 r r1) (fun e=>e=rv)):Qnp Γ rv x0 r r1 s:=by
 refine QaC (C:=fun (s:Int)=>Qnp Γ rv x0 r r1 s) (D:=fun (e:(Unit)⊕(Int))=>sel e (fun e=>Qmr Γ rv x0 r r1) (fun e=>e=rv)) ?_ h hD
 clear h hD s e
 intro i z_ h hI hE
 replace h:Qc6 x0 r r1 i=_:=h
 unfold Qc6 at h
 rcases Qah h with ⟨h3,h⟩|⟨h3,h⟩
 ·obtain ⟨x1,h4,h⟩:=Qae h
  obtain ⟨x2,h5,h⟩:=Qae h
  obtain ⟨r2,h6,h⟩:=Qae h
  rcases Qah h with ⟨h7,h⟩|⟨h7,h⟩
  ·exact gn 14 [2,3,5,7] [0,1] [nL Qbf r1.1,bT h3,hH (.draw 13 []),cE Qbf h4,cE Qal.enc h5,cC (Qo0 h6),nF h7] (hI _ (oJ h))
  ·obtain rfl:=(hE _ (oJ h):_=rv)
   exact gr 12 [] [nL Qbf r1.1,bT h3,hH (.draw 13 []),cE Qbf h4,cE Qal.enc h5,cC (Qo0 h6),nT h7]
 ·exact gn 5 [] [] [nL Qbf r1.1,bF h3] (hE _ (oJ h))
theorem Qkv {x0 r} {rv:Int} (h:Qha x0 r=some rv):AFn Tryz.prog 131 [.agg (Qac.enc x0),.agg (Qad.enc r)] [] (one (lI rv)) []:=by
 refine QaM Tryz.func131 (by kernel_rfl) (by kernel_rfl) (fun Γ=>?_)
 unfold Qha at h
 rcases Qah h with ⟨h0,h⟩|⟨h0,h⟩
 ·obtain rfl:=Option.some.inj h
  exact gr 8 [] [rp 5 hP,rp 3 (oI ((ltI r.type_ 0)=false)),nL Qal.enc x0.types,hP,hP,rp 2 (oI ((ltI r.type_ 0)=false)),oR True ((ltI r.type_ 0)=false),bT h0]
 ·obtain ⟨r1,h1,h⟩:=Qae h
  rcases Qah h with ⟨h2,h⟩|⟨h2,h⟩
  ·obtain rfl:=Option.some.inj h
   exact gr 15 [] [rp 5 hP,rp 3 (oI ((ltI r.type_ 0)=false)),nL Qal.enc x0.types,hP,hP,rp 2 (oI ((ltI r.type_ 0)=false)),oR True ((ltI r.type_ 0)=false),bF h0,cC (Qoe h1),bT h2]
  ·obtain ⟨e0,h8,h⟩:=Qae h
   refine gn 19 [2,3,5,7] [0,1] [rp 5 hP,rp 3 (oI ((ltI r.type_ 0)=false)),nL Qal.enc x0.types,hP,hP,rp 2 (oI ((ltI r.type_ 0)=false)),oR True ((ltI r.type_ 0)=false),bF h0,cC (Qoe h1),bF h2] (Qr7 Γ rv h8 ?_)
   rcases e0 with e0|e0
   ·replace h:(some 0:Option Int)=some _:=h
    obtain rfl:=Option.some.inj h
    exact gr 2 [] []
   ·obtain ⟨r3,rfl⟩:∃ x,x=e0:=⟨_,rfl⟩
    replace h:(some r3:Option Int)=some _:=h
    exact Option.some.inj h
theorem Qh9 {x0 v} {rv:Qaw×Bool} (h:Qef x0 v=some rv):AFn Tryz.prog 176 [.agg (Qac.enc x0),.agg (Qaa.enc v)] [] (.tup [.agg [lI rv.1.place,lI rv.1.open_,lI rv.1.close,lI rv.1.service],.one (.bool rv.2)]) []:=by
 refine QaM Tryz.func176 (by kernel_rfl) (by kernel_rfl) (fun Γ=>?_)
 unfold Qef at h
 rcases Qah h with ⟨h0,h⟩|⟨h0,h⟩
 ·obtain rfl:=Option.some.inj h
  exact gr 8 [] [rp 5 hP,rp 3 (oI ((ltI v.order 0)=false)),nL Qag.enc x0.orders,hP,hP,rp 2 (oI ((ltI v.order 0)=false)),oR True ((ltI v.order 0)=false),bT h0]
 ·obtain ⟨x1,h1,h⟩:=Qae h
  rcases Qah h with ⟨h2,h⟩|⟨h2,h⟩
  ·obtain rfl:=Option.some.inj h
   exact gr 16 [] [rp 5 hP,rp 3 (oI ((ltI v.order 0)=false)),nL Qag.enc x0.orders,hP,hP,rp 2 (oI ((ltI v.order 0)=false)),oR True ((ltI v.order 0)=false),bF h0,cE Qag.enc h1,bT h2,cE Qag.enc h1,hH (.draw 6 [(2,4)])]
  ·obtain rfl:=Option.some.inj h
   exact gr 16 [] [rp 5 hP,rp 3 (oI ((ltI v.order 0)=false)),nL Qag.enc x0.orders,hP,hP,rp 2 (oI ((ltI v.order 0)=false)),oR True ((ltI v.order 0)=false),bF h0,cE Qag.enc h1,bF h2,hH (.draw 6 [(2,4)])]
def Qmw (Γ:Gam) (rv:Bool) (cf:Cf):Prop:=Go Tryz.prog Tryz.f158 [] Γ (one (.bool rv)) [] cf
def QjF (Γ:Gam) (rv:Bool) (x0:Qac) (r:Qad) (i:Int):Prop:=Qmw Γ rv ⟨[.c 116,.l 116,.b 0,.c 15],⟨54,[vP 2 0 6,vP 3 1 4,vI 5 i],[oX 6 30 (Qac.enc x0),oX 4 34 (Qad.enc r)]⟩⟩
def Qjh (Γ:Gam) (rv:Bool) (x0:Qac) (r:Qad):Prop:=Qmw Γ rv ⟨[.c 15],⟨54,[],[]⟩⟩
theorem Qpg (Γ:Gam) (rv:Bool) {x0 r} {s:Int} {e:(Unit)⊕(Bool)} (h:QaT (fun s=>QbT x0 r s) s=some e) (hD:sel e (fun e=>Qjh Γ rv x0 r) (fun e=>e=rv)):QjF Γ rv x0 r s:=by
 refine QaC (C:=fun (s:Int)=>QjF Γ rv x0 r s) (D:=fun (e:(Unit)⊕(Bool))=>sel e (fun e=>Qjh Γ rv x0 r) (fun e=>e=rv)) ?_ h hD
 clear h hD s e
 intro i z_ h hI hE
 replace h:QbT x0 r i=_:=h
 unfold QbT at h
 rcases Qah h with ⟨h1,h⟩|⟨h1,h⟩
 ·obtain ⟨x1,h2,h⟩:=Qae h
  obtain ⟨r1,h3,h⟩:=Qae h
  rcases Qah h with ⟨h4,h⟩|⟨h4,h⟩
  ·exact gn 16 [2,3,5] [0,1] [nL Qaa.enc r.visits,bT h1,hH (.draw 13 [(2,11)]),cE Qaa.enc h2,cC (Qh9 h3),nF h4] (hI _ (oJ h))
  ·obtain rfl:=(hE _ (oJ h):_=rv)
   exact gr 14 [] [nL Qaa.enc r.visits,bT h1,hH (.draw 13 [(2,11)]),cE Qaa.enc h2,cC (Qh9 h3),nT h4]
 ·exact gn 5 [] [] [nL Qaa.enc r.visits,bF h1] (hE _ (oJ h))
theorem Qf1 {x0 r} {rv:Bool} (h:Qdj x0 r=some rv):AFn Tryz.prog 158 [.agg (Qac.enc x0),.agg (Qad.enc r)] [] (one (.bool rv)) []:=by
 refine QaM Tryz.func158 (by kernel_rfl) (by kernel_rfl) (fun Γ=>?_)
 unfold Qdj at h
 rcases Qah h with ⟨h0,h⟩|⟨h0,h⟩
 ·obtain rfl:=Option.some.inj h
  exact gr 8 [] [rp 5 hP,rp 3 (oI ((ltI r.type_ 0)=false)),nL Qal.enc x0.types,rp 13 hP,rp 2 (oI ((ltI r.type_ 0)=false)),oR True ((ltI r.type_ 0)=false),rp 2 (oI (((ltI r.type_ 0)||(geI r.type_ (lenI x0.types)))=false)),oR True (((ltI r.type_ 0)||(geI r.type_ (lenI x0.types)))=false),rp 2 (oI ((((ltI r.type_ 0)||(geI r.type_ (lenI x0.types)))||(ltI r.start 0))=false)),oR True ((((ltI r.type_ 0)||(geI r.type_ (lenI x0.types)))||(ltI r.start 0))=false),rp 2 (oI (((((ltI r.type_ 0)||(geI r.type_ (lenI x0.types)))||(ltI r.start 0))||(gtI r.start 4096))=false)),nL Qaa.enc r.visits,hP,hP,oI (((((ltI r.type_ 0)||(geI r.type_ (lenI x0.types)))||(ltI r.start 0))||(gtI r.start 4096))=false),oR True (((((ltI r.type_ 0)||(geI r.type_ (lenI x0.types)))||(ltI r.start 0))||(gtI r.start 4096))=false),bT h0]
 ·obtain ⟨e0,h5,h⟩:=Qae h
  refine gn 12 [2,3,5] [0,1] [rp 5 hP,rp 3 (oI ((ltI r.type_ 0)=false)),nL Qal.enc x0.types,rp 13 hP,rp 2 (oI ((ltI r.type_ 0)=false)),oR True ((ltI r.type_ 0)=false),rp 2 (oI (((ltI r.type_ 0)||(geI r.type_ (lenI x0.types)))=false)),oR True (((ltI r.type_ 0)||(geI r.type_ (lenI x0.types)))=false),rp 2 (oI ((((ltI r.type_ 0)||(geI r.type_ (lenI x0.types)))||(ltI r.start 0))=false)),oR True ((((ltI r.type_ 0)||(geI r.type_ (lenI x0.types)))||(ltI r.start 0))=false),rp 2 (oI (((((ltI r.type_ 0)||(geI r.type_ (lenI x0.types)))||(ltI r.start 0))||(gtI r.start 4096))=false)),nL Qaa.enc r.visits,hP,hP,oI (((((ltI r.type_ 0)||(geI r.type_ (lenI x0.types)))||(ltI r.start 0))||(gtI r.start 4096))=false),oR True (((((ltI r.type_ 0)||(geI r.type_ (lenI x0.types)))||(ltI r.start 0))||(gtI r.start 4096))=false),bF h0] (Qpg Γ rv h5 ?_)
  rcases e0 with e0|e0
  ·replace h:(some true:Option Bool)=some _:=h
   obtain rfl:=Option.some.inj h
   exact gr 2 [] []
  ·obtain ⟨r2,rfl⟩:∃ x,x=e0:=⟨_,rfl⟩
   replace h:(some r2:Option Bool)=some _:=h
   exact Option.some.inj h
theorem Qpi {t s0 yes} {rv:QaA} (h:Qhc t s0 yes=some rv):AFn Tryz.prog 184 [.agg (Qal.enc t),.agg (QaA.enc s0),.one (.bool yes)] [] (gG [lI rv.place,lI rv.time,lI rv.driven,lI rv.miles]) []:=by
 refine QaM Tryz.func184 (by kernel_rfl) (by kernel_rfl) (fun Γ=>?_)
 unfold Qhc at h
 rcases Qah h with ⟨h0,h⟩|⟨h0,h⟩
 ·obtain rfl:=Option.some.inj h
  exact gr 11 [] [bT h0]
 ·obtain rfl:=Option.some.inj h
  exact gr 9 [] [bF h0]
theorem Qcy {n p} {rv:Bool} (h:Qgn n p=some rv):AFn Tryz.prog 197 [.agg (Qam.enc n),.one (lI p)] [] (one (.bool rv)) []:=by
 refine QaM Tryz.func197 (by kernel_rfl) (by kernel_rfl) (fun Γ=>?_)
 unfold Qgn at h
 obtain rfl:=Option.some.inj h
 exact gr 4 [] [rp 4 hP,rp 2 (oI ((geI p 0)=true)),nL QmO n.places,hP,hP,rp 2 (oI ((geI p 0)=true)),oR True ((geI p 0)=true)]
def Qp6 (Γ:Gam) (rv:Qas×Bool) (cf:Cf):Prop:=Go Tryz.prog Tryz.f198 [] Γ (.tup [.agg [lI rv.1.from_,lI rv.1.to_,lI rv.1.profile,lI rv.1.miles,lL 2 rv.1.travel Qao.enc,lL 2 rv.1.slow Qao.enc],.one (.bool rv.2)]) [] cf
def Qnj (Γ:Gam) (rv:Qas×Bool) (n:Qam) (profile:Int) (from_:Int) (to_:Int) (i:Int):Prop:=Qp6 Γ rv ⟨[.c 52,.l 52,.b 0,.c 7],⟨42,[vI 1 profile,vI 2 from_,vI 3 to_,vP 4 0 2,vP 8 1 6,vI 10 i],[oX 2 25 (Qam.enc n),oX 6 122 [lI 0,lI 0,lI 0,lI 0,.nils,.nils]]⟩⟩
def Qmb (Γ:Gam) (rv:Qas×Bool) (n:Qam) (profile:Int) (from_:Int) (to_:Int):Prop:=Qp6 Γ rv ⟨[.c 7],⟨42,[vP 8 0 6],[oX 6 122 [lI 0,lI 0,lI 0,lI 0,.nils,.nils]]⟩⟩
theorem Qr4 (Γ:Gam) (rv:Qas×Bool) {n profile from_ to_} {s:Int} {e:(Unit)⊕(Qas×Bool)} (h:QaT (fun s=>Qfc n profile from_ to_ s) s=some e) (hD:sel e (fun e=>Qmb Γ rv n profile from_ to_) (fun e=>e=rv)):Qnj Γ rv n profile from_ to_ s:=by
 refine QaC (C:=fun (s:Int)=>Qnj Γ rv n profile from_ to_ s) (D:=fun (e:(Unit)⊕(Qas×Bool))=>sel e (fun e=>Qmb Γ rv n profile from_ to_) (fun e=>e=rv)) ?_ h hD
 clear h hD s e
 intro i z_ h hI hE
 replace h:Qfc n profile from_ to_ i=_:=h
 unfold Qfc at h
 rcases Qah h with ⟨h0,h⟩|⟨h0,h⟩
 ·obtain ⟨x0,h1,h⟩:=Qae h
  rcases Qah h with ⟨h2,h⟩|⟨h2,h⟩
  ·obtain rfl:=(hE _ (oJ h):_=rv)
   exact gr 14 [] [nL Qas.enc n.arcs,bT h0,cE Qas.enc h1,rp 10 hP,rp 3 (oI ((eqI x0.from_ from_)=true)),oR True ((eqI x0.from_ from_)=true),rp 3 (oI (((eqI x0.from_ from_)&&(eqI x0.to_ to_))=true)),oR True (((eqI x0.from_ from_)&&(eqI x0.to_ to_))=true),bT h2]
  ·exact gn 16 [1,2,3,4,8,10] [0,1] [nL Qas.enc n.arcs,bT h0,cE Qas.enc h1,rp 10 hP,rp 3 (oI ((eqI x0.from_ from_)=true)),oR True ((eqI x0.from_ from_)=true),rp 3 (oI (((eqI x0.from_ from_)&&(eqI x0.to_ to_))=true)),oR True (((eqI x0.from_ from_)&&(eqI x0.to_ to_))=true),bF h2] (hI _ (oJ h))
 ·exact gn 5 [8] [1] [nL Qas.enc n.arcs,bF h0] (hE _ (oJ h))
theorem Qo3 {n profile from_ to_} {rv:Qas×Bool} (h:Qiq n profile from_ to_=some rv):AFn Tryz.prog 198 [.agg (Qam.enc n),.one (lI profile),.one (lI from_),.one (lI to_)] [] (.tup [.agg [lI rv.1.from_,lI rv.1.to_,lI rv.1.profile,lI rv.1.miles,lL 2 rv.1.travel Qao.enc,lL 2 rv.1.slow Qao.enc],.one (.bool rv.2)]) []:=by
 refine QaM Tryz.func198 (by kernel_rfl) (by kernel_rfl) (fun Γ=>?_)
 unfold Qiq at h
 obtain ⟨e0,h3,h⟩:=Qae h
 refine gn 7 [1,2,3,4,8,10] [0,1] [] (Qr4 Γ rv h3 ?_)
 rcases e0 with e0|e0
 ·replace h:(some ((Qas.mk 0 0 0 0 [] []),false):Option (Qas×Bool))=some _:=h
  obtain rfl:=Option.some.inj h
  exact gr 2 [] [hW 5,hH (.nilB 0 4 2),hH (.nilB 0 5 2)]
 ·obtain ⟨r,rfl⟩:∃ x,x=e0:=⟨_,rfl⟩
  replace h:(some r:Option (Qas×Bool))=some _:=h
  exact Option.some.inj h
end Go.Proofs.YtpkkaboonnedfaaGreatDoor
