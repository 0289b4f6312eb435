/- Part MV of the proof: texts W1. -/
import Derived.Test.YtoogjnlmicgfiaaGreatDoorMU
import Derived.Test.YtoogjnlmicgfiaaGreatDoorProg
namespace Go.Proofs.YtoogjnlmicgfiaaGreatDoor
set_option linter.unusedVariables false
set_option linter.unusedSectionVars false
set_option linter.unusedSimpArgs false
set_option maxHeartbeats 4000000
set_option maxRecDepth 100000
def Qq9 (Γ:Gam) (rv:ByteArray) (cf:Cf):Prop:=Go Tryz.prog Tryz.f180 [] Γ (one (.str rv)) [] cf
theorem Qjd (Γ:Gam) (rv:ByteArray) {i u} (h:Qge i u = some rv):Qq9 Γ rv ⟨[.c 431,.c 7],⟨54,[vI 0 i,vP 5 0 24,(6,one (.int .u64 u))],[oX 24 223 [.int .u8 0,.int .u8 0,.int .u8 0,.int .u8 0,.int .u8 0,.int .u8 0,.int .u8 0,.int .u8 0,.int .u8 0,.int .u8 0,.int .u8 0,.int .u8 0,.int .u8 0,.int .u8 0,.int .u8 0,.int .u8 0,.int .u8 0,.int .u8 0,.int .u8 0,.int .u8 0,.int .u8 0,.int .u8 0,.int .u8 0,.int .u8 0]]⟩⟩:=by
 unfold Qge at h
 obtain ⟨r1,h4,h⟩:=Qae h
 cases h
theorem QqD {i base} {rv:ByteArray} (h:QkC i base = some rv):AFn Tryz.prog 180 [.one (lI i),.one (lI base)] [] (one (.str rv)) []:=by
 refine QaL Tryz.func180 (by kernel_rfl) (by kernel_rfl) (fun Γ=>?_)
 unfold QkC at h
 rcases Qag h with ⟨h0,h⟩|⟨h0,h⟩
 ·rcases Qag h with ⟨h1,h⟩|⟨h1,h⟩
  ·obtain ⟨r,h2,h⟩:=Qae h
   obtain rfl:=Option.some.inj h
   exact gr 12 [] [bT h0,hP,hP,hP,oI ((leI 0 i) = true),oR True ((leI 0 i) = true),bT h1,cC (QsY h2)]
  ·rcases Qag h with ⟨h3,h⟩|⟨h3,h⟩
   ·exact gn 20 [0,5,6] [0] [bT h0,hP,hP,hP,oI ((leI 0 i) = true),oR True ((leI 0 i) = true),bF h1,bT h3] (Qjd Γ rv h)
   ·exact gn 20 [0,5,6] [0] [bT h0,hP,hP,hP,oI ((leI 0 i) = true),oR True ((leI 0 i) = true),bF h1,bF h3] (Qjd Γ rv h)
 ·cases h
theorem Qtg {i} {rv:ByteArray} (h:QqE i = some rv):AFn Tryz.prog 179 [.one (lI i)] [] (one (.str rv)) []:=by
 refine QaL Tryz.func179 (by kernel_rfl) (by kernel_rfl) (fun Γ=>?_)
 unfold QqE at h
 obtain ⟨r,h0,h⟩:=Qae h
 obtain rfl:=Option.some.inj h
 exact gr 4 [] [cC (QqD h0)]
theorem Qos {i} {rv:ByteArray} (h:Qlu i = some rv):AFn Tryz.prog 178 [.one (lI i)] [] (one (.str rv)) []:=by
 refine QaL Tryz.func178 (by kernel_rfl) (by kernel_rfl) (fun Γ=>?_)
 unfold Qlu at h
 obtain ⟨r,h0,h⟩:=Qae h
 obtain rfl:=Option.some.inj h
 exact gr 4 [] [cC (Qtg h0)]
def Qlv (Γ:Gam) (rv:List Qaa) (cf:Cf):Prop:=Go Tryz.prog Tryz.f174 [] Γ (one (lL 2 rv Qaa.enc)) [] cf
def QkD (Γ:Gam) (rv:List Qaa) (l:List Qan) (l2:List Qaa) (v:Int):Prop:=Qlv Γ rv ⟨[.c 244,.l 244,.b 0,.c 31],⟨83,[vL 0 2 l Qan.enc,vO 3 0 2 l2 Qaa.enc,vL 19 2 l Qan.enc,vI 20 (lenI l),vI 21 v],[oS 2 144 l2 Qaa.enc]⟩⟩
def Qjm (Γ:Gam) (rv:List Qaa) (l:List Qan) (l4:List Qaa):Prop:=Qlv Γ rv ⟨[.c 31],⟨83,[vO 3 0 2 l4 Qaa.enc],[oS 2 144 l4 Qaa.enc]⟩⟩
theorem QnL (Γ:Gam) (rv:List Qaa) {l v x0 r l3} {x:(List Qaa × Int) ⊕ (List Qaa)} (h:QhT l v x0 r l3 = some x) (hI:∀ s:List Qaa × Int,x = .inl s→QkD Γ rv l s.1 s.2) (hE:∀ e:List Qaa,x = .inr e→Qjm Γ rv l e):Qlv Γ rv ⟨[.c 31335,.b 1,.c 1959,.l 244,.b 0,.c 31],⟨83,[vL 0 2 l Qan.enc,vO 3 0 2 l3 Qaa.enc,vI 4 v,vP 5 1 2,vS 6 r,vL 19 2 l Qan.enc,vI 20 (lenI l),vI 21 v],[oS 2 144 l3 Qaa.enc,oX 2 96 (Qan.enc x0)]⟩⟩:=by
 unfold QhT at h
 rcases Qag h with ⟨h8,h⟩|⟨h8,h⟩
 ·obtain ⟨x1,h9,h⟩:=Qae h
  rcases Qag h with ⟨h10,h⟩|⟨h10,h⟩
  ·obtain ⟨h11,h⟩:=Qas h
   exact gn 7 [0,3,19,20,21] [3] [hH (.draw 24 []),rp 6 (bT h8),cE Qan.enc h9,rp 4 (bT h8),rp 9 (bT h10),bT h8,bT h10,bT h8,tT,oO (Eq.refl ([(Qaa.mk 13 r)].map Qaa.enc).length),aO Qaa.enc h11] (hI _ (oJ h))
  ·rcases Qag h with ⟨h12,h⟩|⟨h12,h⟩
   ·obtain ⟨h13,h⟩:=Qas h
    exact gn 7 [0,3,19,20,21] [3] [hH (.draw 24 []),rp 6 (bT h8),cE Qan.enc h9,rp 4 (bT h8),rp 6 (bF h10),cE Qan.enc h9,rp 3 (bF h10),bT h8,bF h10,bT h8,bT h12,oO (Eq.refl ([(Qaa.mk 13 r)].map Qaa.enc).length),aO Qaa.enc h13] (hI _ (oJ h))
   ·exact gn 7 [0,3,19,20,21] [0] [hH (.draw 24 []),rp 6 (bT h8),cE Qan.enc h9,rp 4 (bT h8),rp 6 (bF h10),cE Qan.enc h9,rp 3 (bF h10),bT h8,bF h10,bT h8,bF h12] (hI _ (oJ h))
 ·exact gn 7 [0,3,19,20,21] [0] [hH (.draw 24 []),rp 10 (bF h8),rp 9 kF,bF h8,bF h8,fF] (hI _ (oJ h))
theorem QrF (Γ:Gam) (rv:List Qaa) {l} {s:List Qaa × Int} {e:List Qaa} (h:loopF (fun s=>QdO l s.1 s.2) s = some e) (hD:Qjm Γ rv l e):QkD Γ rv l s.1 s.2:=by
 refine QaD (C:=fun (s:List Qaa × Int)=>QkD Γ rv l s.1 s.2) (D:=fun (e:List Qaa)=>Qjm Γ rv l e) ?_ h hD
 clear h hD s e
 rintro ⟨l2,v⟩ z_ h hI hE
 replace h:QdO l l2 v = _:=h
 unfold QdO at h
 rcases Qag h with ⟨h2,h⟩|⟨h2,h⟩
 ·obtain ⟨x0,h3,h⟩:=Qae h
  obtain ⟨r,h4,h⟩:=Qae h
  obtain ⟨r1,h5,h⟩:=Qae h
  rcases Qag h with ⟨h6,h⟩|⟨h6,h⟩
  ·obtain ⟨h7,h⟩:=Qas h
   exact gn 16 [0,3,4,5,6,19,20,21] [3,1] [bT h2,cE Qan.enc h3,cC (Qos h4),cC (Qg8 h5),rp 13 hP,rp 4 (oI ((!r1) = false)),oR True ((!r1) = false),rp 5 (oI (((!r1) || (ltI x0.a x0.t)) = false)),oR True (((!r1) || (ltI x0.a x0.t)) = false),bT h6,oO (Eq.refl ([(Qaa.mk 2 r)].map Qaa.enc).length),aO Qaa.enc h7] (QnL Γ rv h hI hE)
  ·exact gn 16 [0,3,4,5,6,19,20,21] [0,1] [bT h2,cE Qan.enc h3,cC (Qos h4),cC (Qg8 h5),rp 13 hP,rp 4 (oI ((!r1) = false)),oR True ((!r1) = false),rp 5 (oI (((!r1) || (ltI x0.a x0.t)) = false)),oR True (((!r1) || (ltI x0.a x0.t)) = false),bF h6] (QnL Γ rv h hI hE)
 ·exact gn 5 [3] [0] [bF h2] (hE _ (oJ h))
theorem QnK (Γ:Gam) (rv:List Qaa) {l l1} (h:QhS l l1 = some rv):Qlv Γ rv ⟨[.c 15],⟨83,[vL 0 2 l Qan.enc,vO 3 0 2 l1 Qaa.enc],[oS 2 144 l1 Qaa.enc]⟩⟩:=by
 unfold QhS at h
 obtain ⟨e0,h14,h⟩:=Qae h
 refine gn 5 [0,3,19,20,21] [0] [nL Qan.enc l] (QrF Γ rv h14 ?_)
 obtain ⟨l4,rfl⟩:∃ x,x = e0:=⟨_,rfl⟩
 replace h:(some l4:Option (List Qaa)) = some _:=h
 obtain rfl:=Option.some.inj h
 exact gr 2 [] [hW 4,hH (.frz 0),rp 3 (eL l4 Qaa.enc)]
theorem Qth {l} {rv:List Qaa} (h:Qmk l = some rv):AFn Tryz.prog 174 [.one (lL 2 l Qan.enc)] [] (one (lL 2 rv Qaa.enc)) []:=by
 refine QaL Tryz.func174 (by kernel_rfl) (by kernel_rfl) (fun Γ=>?_)
 unfold Qmk at h
 rcases Qag h with ⟨h0,h⟩|⟨h0,h⟩
 ·obtain ⟨h1,h⟩:=Qas h
  exact gn 9 [0,3] [1] [nL Qan.enc l,hP,hP,oI ((eqI (lenI l) 0) = false),nL Qan.enc l,hP,hP,oI ((eqI (lenI l) 0) = false),oR True ((eqI (lenI l) 0) = false),bT h0,oO (Eq.refl ([(Qaa.mk 4 ByteArray.empty)].map Qaa.enc).length),aN (l:=([(Qaa.mk 4 ByteArray.empty)]:List Qaa)) Qaa.enc h1] (QnK Γ rv h)
 ·exact gn 9 [0,3] [0] [nL Qan.enc l,hP,hP,oI ((eqI (lenI l) 0) = false),nL Qan.enc l,hP,hP,oI ((eqI (lenI l) 0) = false),oR True ((eqI (lenI l) 0) = false),bF h0,hW 1,hH (.adopt 3 2 144)] (QnK Γ rv h)
theorem Qqf {l} {rv:Bool} (h:Qml l = some rv):AFn Tryz.prog 169 [.one (lL 2 l Qan.enc)] [] (one (.bool rv)) []:=by
 refine QaL Tryz.func169 (by kernel_rfl) (by kernel_rfl) (fun Γ=>?_)
 unfold Qml at h
 obtain ⟨r,h0,h⟩:=Qae h
 obtain rfl:=Option.some.inj h
 exact gr 4 [] [cC (Qth h0),nL Qaa.enc r]
theorem Qjn {p t} {rv:Int} (h:Qfy p t = some rv):AFn Tryz.prog 176 [.agg (Qan.enc p),.one (lI t)] [] (one (lI rv)) []:=by
 refine QaL Tryz.func176 (by kernel_rfl) (by kernel_rfl) (fun Γ=>?_)
 unfold Qfy at h
 obtain rfl:=Option.some.inj h
 exact gr 4 [] []
def QbN (Γ:Gam) (rv:Int × Bool) (cf:Cf):Prop:=Go Tryz.prog Tryz.f175 [] Γ (.tup [.one (lI rv.1),.one (.bool rv.2)]) [] cf
def QbJ (Γ:Gam) (rv:Int × Bool) (x0:List Qan) (target:Int) (i:Int) (j:Int):Prop:=QbN Γ rv ⟨[.c 120,.l 120,.b 0,.c 31],⟨49,[vL 0 2 x0 Qan.enc,vI 1 target,(2,one (.fn (.func 176) [])),vI 8 (lenI x0),vI 9 i,vI 10 j],[]⟩⟩
def QbA (Γ:Gam) (rv:Int × Bool) (x0:List Qan) (target:Int) (i1:Int):Prop:=QbN Γ rv ⟨[.c 31],⟨49,[vL 0 2 x0 Qan.enc,vI 1 target,(2,one (.fn (.func 176) [])),vI 8 (lenI x0),vI 9 i1],[]⟩⟩
theorem Qde (Γ:Gam) (rv:Int × Bool) {x0 target} {s:Int × Int} {e:Int} (h:loopF (fun s=>QaG x0 target s.1 s.2) s = some e) (hD:QbA Γ rv x0 target e):QbJ Γ rv x0 target s.1 s.2:=by
 refine QaD (C:=fun (s:Int × Int)=>QbJ Γ rv x0 target s.1 s.2) (D:=fun (e:Int)=>QbA Γ rv x0 target e) ?_ h hD
 clear h hD s e
 rintro ⟨i,j⟩ z_ h hI hE
 replace h:QaG x0 target i j = _:=h
 unfold QaG at h
 rcases Qag h with ⟨h0,h⟩|⟨h0,h⟩
 ·obtain ⟨x1,h1,h⟩:=Qae h
  obtain ⟨r,h2,h⟩:=Qae h
  rcases Qag h with ⟨h3,h⟩|⟨h3,h⟩
  ·exact gn 14 [0,1,2,8,9,10] [] [bT h0,oO (zL 1),cE Qan.enc h1,cC (Qjn h2),bT h3] (hI _ (oJ h))
  ·exact gn 14 [0,1,2,8,9,10] [] [bT h0,oO (zL 1),cE Qan.enc h1,cC (Qjn h2),bF h3] (hI _ (oJ h))
 ·exact gn 5 [0,1,2,8,9] [] [bF h0] (hE _ (oJ h))
theorem QaV {x0 target} {rv:Int × Bool} (h:QaY x0 target = some rv):AFn Tryz.prog 175 [.one (lL 2 x0 Qan.enc),.one (lI target),.one (.fn (.func 176) [])] [] (.tup [.one (lI rv.1),.one (.bool rv.2)]) []:=by
 refine QaL Tryz.func175 (by kernel_rfl) (by kernel_rfl) (fun Γ=>?_)
 unfold QaY at h
 obtain ⟨e0,h4,h⟩:=Qae h
 refine gn 9 [0,1,2,8,9,10] [] [nL Qan.enc x0] (Qde Γ rv h4 ?_)
 obtain ⟨i1,rfl⟩:∃ x,x = e0:=⟨_,rfl⟩
 replace h:(br (ltI i1 (lenI x0)) (bnd (getI x0 i1) fun x2=>bnd (Qfy x2 target) fun r1=>some (i1,(eqI r1 0))) (some (i1,false)):Option (Int × Bool)) = some _:=h
 rcases Qag h with ⟨h5,h⟩|⟨h5,h⟩
 ·obtain ⟨x2,h6,h⟩:=Qae h
  obtain ⟨r1,h7,h⟩:=Qae h
  obtain rfl:=Option.some.inj h
  exact gr 2 [] [rp 4 (bT h5),cE Qan.enc h6,rp 3 (bT h5),cC (Qjn h7),bT h5,bT h5]
 ·obtain rfl:=Option.some.inj h
  exact gr 2 [] [rp 9 (bF h5)]
theorem Qs3 {l t} {rv:Int} (h:Qku l t = some rv):AFn Tryz.prog 170 [.one (lL 2 l Qan.enc),.one (lI t)] [] (one (lI rv)) []:=by
 refine QaL Tryz.func170 (by kernel_rfl) (by kernel_rfl) (fun Γ=>?_)
 unfold Qku at h
 obtain ⟨r,h0,h⟩:=Qae h
 rcases Qag h with ⟨h1,h⟩|⟨h1,h⟩
 ·obtain ⟨x0,h2,h⟩:=Qae h
  obtain rfl:=Option.some.inj h
  exact gr 11 [] [cC (QaV h0),bT h1,cE Qan.enc h2]
 ·rcases Qag h with ⟨h3,h⟩|⟨h3,h⟩
  ·obtain ⟨x1,h4,h⟩:=Qae h
   obtain rfl:=Option.some.inj h
   exact gr 14 [] [cC (QaV h0),bF h1,bT h3,hH (.draw 12 []),rp 2 (cE Qan.enc h4)]
  ·rcases Qag h with ⟨h5,h⟩|⟨h5,h⟩
   ·obtain ⟨x2,h6,h⟩:=Qae h
    obtain rfl:=Option.some.inj h
    exact gr 17 [] [cC (QaV h0),bF h1,bF h3,nL Qan.enc l,bT h5,hH (.draw 16 []),rp 2 (cE Qan.enc h6)]
   ·obtain ⟨x3,h7,h⟩:=Qae h
    obtain ⟨x4,h8,h⟩:=Qae h
    obtain ⟨h9,h⟩:=Qas h
    obtain rfl:=Option.some.inj h
    exact gr 23 [] [cC (QaV h0),bF h1,bF h3,nL Qan.enc l,bF h5,hH (.draw 13 [(0,11),(1,12)]),cE Qan.enc h7,cE Qan.enc h8,hH (.draw 19 []),oO (h9)]
theorem Qs2 {l t} {rv:Int} (h:Qkt l t = some rv):AFn Tryz.prog 166 [.one (lL 2 l Qan.enc),.one (lI t)] [] (one (lI rv)) []:=by
 refine QaL Tryz.func166 (by kernel_rfl) (by kernel_rfl) (fun Γ=>?_)
 unfold Qkt at h
 obtain ⟨r,h0,h⟩:=Qae h
 rcases Qag h with ⟨h1,h⟩|⟨h1,h⟩
 ·obtain ⟨r1,h2,h⟩:=Qae h
  rcases Qag h with ⟨h3,h⟩|⟨h3,h⟩
  ·obtain ⟨r2,h4,h⟩:=Qae h
   obtain rfl:=Option.some.inj h
   exact gr 9 [] [cC (Qg8 h0),nF h1,nF h1,cC (Qqf h2),nF h1,nF h1,nF h3,cC (Qs3 h4)]
  ·obtain rfl:=Option.some.inj h
   exact gr 8 [] [cC (Qg8 h0),nF h1,nF h1,cC (Qqf h2),nF h1,nF h1,nT h3]
 ·obtain rfl:=Option.some.inj h
  exact gr 8 [] [cC (Qg8 h0),rp 4 (nT h1),tT]
def Qol (Γ:Gam) (rv:Int) (cf:Cf):Prop:=Go Tryz.prog Tryz.f162 [] Γ (one (lI rv)) [] cf
def Ql4 (Γ:Gam) (rv:Int) (a:Qap) (t:Int) (out:Int) (v:Int):Prop:=Qol Γ rv ⟨[.c 116,.l 116,.b 0,.c 15],⟨29,[vI 1 t,vI 5 out,vL 13 2 a.slow Qan.enc,vI 14 (lenI a.slow),vI 15 v],[]⟩⟩
def Qlk (Γ:Gam) (rv:Int) (a:Qap) (t:Int) (out1:Int):Prop:=Qol Γ rv ⟨[.c 15],⟨29,[vI 5 out1],[]⟩⟩
theorem Qp1 (Γ:Gam) (rv:Int) {a t} {s:Int × Int} {e:Int} (h:loopF (fun s=>Qhi a t s.1 s.2) s = some e) (hD:Qlk Γ rv a t e):Ql4 Γ rv a t s.1 s.2:=by
 refine QaD (C:=fun (s:Int × Int)=>Ql4 Γ rv a t s.1 s.2) (D:=fun (e:Int)=>Qlk Γ rv a t e) ?_ h hD
 clear h hD s e
 rintro ⟨out,v⟩ z_ h hI hE
 replace h:Qhi a t out v = _:=h
 unfold Qhi at h
 rcases Qag h with ⟨h1,h⟩|⟨h1,h⟩
 ·obtain ⟨x0,h2,h⟩:=Qae h
  rcases Qag h with ⟨h3,h⟩|⟨h3,h⟩
  ·exact gn 16 [1,5,13,14,15] [] [bT h1,cE Qan.enc h2,bT h3] (hI _ (oJ h))
  ·exact gn 16 [1,5,13,14,15] [] [bT h1,cE Qan.enc h2,bF h3] (hI _ (oJ h))
 ·exact gn 5 [5] [] [bF h1] (hE _ (oJ h))
theorem Qru {a t} {rv:Int} (h:QhO a t = some rv):AFn Tryz.prog 162 [.agg (Qap.enc a),.one (lI t)] [] (one (lI rv)) []:=by
 refine QaL Tryz.func162 (by kernel_rfl) (by kernel_rfl) (fun Γ=>?_)
 unfold QhO at h
 obtain ⟨r,h0,h⟩:=Qae h
 obtain ⟨e0,h4,h⟩:=Qae h
 refine gn 9 [1,5,13,14,15] [] [cC (Qs2 h0),nL Qan.enc a.slow] (Qp1 Γ rv h4 ?_)
 obtain ⟨out1,rfl⟩:∃ x,x = e0:=⟨_,rfl⟩
 replace h:(some out1:Option Int) = some _:=h
 obtain rfl:=Option.some.inj h
 exact gr 2 [] []
theorem Qkn {n profile from_ to_ t} {rv:Int × Int × Int} (h:QnB n profile from_ to_ t = some rv):AFn Tryz.prog 149 [.agg (Qaj.enc n),.one (lI profile),.one (lI from_),.one (lI to_),.one (lI t)] [] (.tup [.one (lI rv.1),.one (lI rv.2.1),.one (lI rv.2.2)]) []:=by
 refine QaL Tryz.func149 (by kernel_rfl) (by kernel_rfl) (fun Γ=>?_)
 unfold QnB at h
 obtain ⟨r,h0,h⟩:=Qae h
 rcases Qag h with ⟨h1,h⟩|⟨h1,h⟩
 ·obtain ⟨r1,h2,h⟩:=Qae h
  rcases Qag h with ⟨h3,h⟩|⟨h3,h⟩
  ·rcases Qag h with ⟨h4,h⟩|⟨h4,h⟩
   ·obtain rfl:=Option.some.inj h
    exact gr 13 [] [cC (Qdj h0),rp 3 (nF h1),cC (Qdj h2),nF h1,nF h1,nF h3,bT h4]
   ·obtain ⟨r2,h5,h⟩:=Qae h
    rcases Qag h with ⟨h6,h⟩|⟨h6,h⟩
    ·obtain ⟨r3,h7,h⟩:=Qae h
     obtain rfl:=Option.some.inj h
     exact gr 21 [] [cC (Qdj h0),rp 3 (nF h1),cC (Qdj h2),nF h1,nF h1,nF h3,bF h4,cC (Qqb h5),nF h6,hH (.draw 8 []),cC (Qru h7)]
    ·obtain rfl:=Option.some.inj h
     exact gr 20 [] [cC (Qdj h0),rp 3 (nF h1),cC (Qdj h2),nF h1,nF h1,nF h3,bF h4,cC (Qqb h5),nT h6]
  ·obtain rfl:=Option.some.inj h
   exact gr 8 [] [cC (Qdj h0),rp 3 (nF h1),cC (Qdj h2),nF h1,nF h1,nT h3]
 ·obtain rfl:=Option.some.inj h
  exact gr 8 [] [cC (Qdj h0),rp 5 (nT h1),tT]
theorem Qe6 {p visits} {rv:Int} (h:QfD p visits = some rv):AFn Tryz.prog 150 [.agg (Qat.enc p),.one (lI visits)] [] (one (lI rv)) []:=by
 refine QaL Tryz.func150 (by kernel_rfl) (by kernel_rfl) (fun Γ=>?_)
 unfold QfD at h
 rcases Qag h with ⟨h0,h⟩|⟨h0,h⟩
 ·obtain rfl:=Option.some.inj h
  exact gr 8 [] [bT h0]
 ·obtain ⟨x0,h1,h⟩:=Qae h
  obtain rfl:=Option.some.inj h
  exact gr 9 [] [bF h0,cE Qar.enc h1]
theorem Qqg {s0 arrive} {rv:Int × Int} (h:Qn2 s0 arrive = some rv):AFn Tryz.prog 151 [.agg (Qar.enc s0),.one (lI arrive)] [] (.tup [.one (lI rv.1),.one (lI rv.2)]) []:=by
 refine QaL Tryz.func151 (by kernel_rfl) (by kernel_rfl) (fun Γ=>?_)
 unfold Qn2 at h
 rcases Qag h with ⟨h0,h⟩|⟨h0,h⟩
 ·obtain rfl:=Option.some.inj h
  exact gr 10 [] [bT h0]
 ·obtain rfl:=Option.some.inj h
  exact gr 11 [] [bF h0]
theorem QdU {s0} {rv:List Qao} (h:Qbr s0 = some rv):AFn Tryz.prog 148 [.one (lL 4 s0 Qao.enc)] [] (one (lO 0 4 rv Qao.enc)) [oS 4 66 rv Qao.enc]:=by
 refine QaL Tryz.func148 (by kernel_rfl) (by kernel_rfl) (fun Γ=>?_)
 unfold Qbr at h
 rcases Qag h with ⟨h0,h⟩|⟨h0,h⟩
 ·obtain ⟨hx,h⟩:=Qw2 h
  refine gn 5 [0,4] [] [hH (.skip)] (cf':=⟨[.c 13,.c 7],⟨8,[vL 0 4 s0 Qao.enc,(4,.boo)],[]⟩⟩) (QA1 4 rfl ?_ ?_)
  ·replace h:=hx
   obtain rfl:=Option.some.inj h
   exact gr 3 [0] [tT,hW 3,hH (.adopt 2 4 66)]
  ·obtain ⟨h1,h⟩:=Qas h
   obtain rfl:=Option.some.inj h
   exact gr 4 [0] [fF,aN Qao.enc h1]
 ·obtain ⟨h2,h⟩:=Qas h
  obtain rfl:=Option.some.inj h
  exact gr 9 [0] [oO (neE Qao.enc h0),fF,hH (.bit false),aN Qao.enc h2]
def QhU (Γ:Gam) (rv:Qaf × Int) (cf:Cf):Prop:=Go Tryz.prog Tryz.f124 [] Γ (.tup [.agg [lI rv.1.ready,lI rv.1.since,.bool rv.1.sheet.rest_,lI rv.1.sheet.depart,lL 4 rv.1.sheet.times Qao.enc,lI rv.1.sheet.end_,lI rv.1.sheet.miles],.one (lI rv.2)]) [] cf
theorem QkO (Γ:Gam) (rv:Qaf × Int) {p l depart since rest_1 depart1 r2 l2 ready end_} (h:QeA p l depart since rest_1 depart1 r2 l2 ready end_ = some rv):QhU Γ rv ⟨[.c 32767],⟨163,[vP 4 0 25,vP 8 1 7,vP 12 2 7],[oX 25 133 (Qat.enc p),oX 7 137 [lI 0,lI 0,.bool false,lI 0,.nils,lI 0,lI 0],oX 7 137 [lI ready,lI (subK .i64 (addK .i64 since r2.1) depart),.bool rest_1,lI depart1,lO 3 4 l2 Qao.enc,lI end_,lI (addK .i64 l.sheet.miles r2.2.1)],oS 4 66 l2 Qao.enc]⟩⟩:=by
 unfold QeA at h
 rcases Qag h with ⟨h15,h⟩|⟨h15,h⟩
 ·obtain rfl:=Option.some.inj h
  exact gr 6 [] [bT h15,hW 5,hH (.nilB 1 4 4)]
 ·obtain rfl:=Option.some.inj h
  exact gr 7 [] [bF h15,hW 6,hH (.frz 3),rp 3 (eL l2 Qao.enc)]
theorem QkN (Γ:Gam) (rv:Qaf × Int) {p l done depart since l1 rest_1 depart1 to_} (h:Qdy p l done depart since l1 rest_1 depart1 to_ = some rv):QhU Γ rv ⟨[.c 1023],⟨163,[vI 2 done,vP 4 0 25,vP 8 1 7,vI 10 depart,vI 11 since,vP 12 2 7,vB 13 (eqI done (lenI p.stops)),vI 14 to_],[oX 25 133 (Qat.enc p),oX 7 137 [lI 0,lI 0,.bool false,lI 0,.nils,lI 0,lI 0],oX 7 137 [lI 0,lI 0,.bool rest_1,lI depart1,lO 3 4 l1 Qao.enc,lI l.sheet.end_,lI l.sheet.miles],oS 4 66 l1 Qao.enc]⟩⟩:=by
 unfold Qdy at h
 obtain ⟨r1,h6,h⟩:=Qae h
 obtain ⟨r2,h7,h⟩:=Qae h
 rcases Qag h with ⟨h8,h⟩|⟨h8,h⟩
 ·obtain rfl:=Option.some.inj h
  exact gr 8 [] [hH (.draw 19 []),cC (Qe6 h6),cC (Qkn h7),bT h8,hW 5,hH (.nilB 1 4 4)]
 ·rcases Qag h with ⟨h9,h⟩|⟨h9,h⟩
  ·rcases Qag h with ⟨h10,h⟩|⟨h10,h⟩
   ·obtain rfl:=Option.some.inj h
    exact gr 21 [] [hH (.draw 19 []),cC (Qe6 h6),cC (Qkn h7),bF h8,bT h9,bT h10,hW 5,hH (.nilB 1 4 4)]
   ·exact gn 23 [4,8,12] [0,1,2,3] [hH (.draw 19 []),cC (Qe6 h6),cC (Qkn h7),bF h8,bT h9,bF h10] (QkO Γ rv h)
  ·obtain ⟨x2,h11,h⟩:=Qae h
   obtain ⟨r3,h12,h⟩:=Qae h
   rcases Qag h with ⟨h13,h⟩|⟨h13,h⟩
   ·obtain rfl:=Option.some.inj h
    exact gr 23 [] [hH (.draw 19 []),cC (Qe6 h6),cC (Qkn h7),bF h8,bF h9,cE Qar.enc h11,cC (Qqg h12),bT h13,hW 5,hH (.nilB 1 4 4)]
   ·obtain ⟨h14,h⟩:=Qas h
    exact gn 25 [4,8,12] [0,1,2,5] [hH (.draw 19 []),cC (Qe6 h6),cC (Qkn h7),bF h8,bF h9,cE Qar.enc h11,cC (Qqg h12),bF h13,cE Qar.enc h11,oO (Eq.refl ([(Qao.mk r2.1 r3.1 0 false)].map Qao.enc).length),aO Qao.enc h14] (QkO Γ rv h)
theorem QkM (Γ:Gam) (rv:Qaf × Int) {p l done depart since l1 rest_1 depart1} (h:Qez p l done depart since l1 rest_1 depart1 = some rv):QhU Γ rv ⟨[.c 127],⟨163,[vI 2 done,vP 4 0 25,vP 8 1 7,vI 10 depart,vI 11 since,vP 12 2 7],[oX 25 133 (Qat.enc p),oX 7 137 [lI 0,lI 0,.bool false,lI 0,.nils,lI 0,lI 0],oX 7 137 [lI 0,lI 0,.bool rest_1,lI depart1,lO 3 4 l1 Qao.enc,lI l.sheet.end_,lI l.sheet.miles],oS 4 66 l1 Qao.enc]⟩⟩:=by
 unfold Qez at h
 rcases Qag h with ⟨h4,h⟩|⟨h4,h⟩
 ·exact gn 9 [2,4,8,10,11,12,13,14] [0,1,2,3] [nL Qar.enc p.stops,nF h4] (QkN Γ rv h)
 ·obtain ⟨x1,h5,h⟩:=Qae h
  exact gn 9 [2,4,8,10,11,12,13,14] [0,1,2,3] [nL Qar.enc p.stops,nT h4,cE Qar.enc h5] (QkN Γ rv h)
theorem QkL (Γ:Gam) (rv:Qaf × Int) {p l done rest_ depart since} (h:Qey p l done rest_ depart since = some rv):QhU Γ rv ⟨[.c 15],⟨163,[vI 2 done,vB 3 rest_,vP 4 0 25,vP 5 1 7,vP 8 2 7,vI 10 depart,vI 11 since],[oX 25 133 (Qat.enc p),oX 7 137 (Qaf.enc l),oX 7 137 [lI 0,lI 0,.bool false,lI 0,.nils,lI 0,lI 0]]⟩⟩:=by
 unfold Qey at h
 obtain ⟨r,h1,h⟩:=Qae h
 rcases Qag h with ⟨h2,h⟩|⟨h2,h⟩
 ·exact gn 11 [2,4,8,10,11,12] [0,2,3,4] [cC (QdU h1),bT h2] (QkM Γ rv h)
 ·obtain ⟨x0,h3,h⟩:=Qae h
  exact gn 11 [2,4,8,10,11,12] [0,2,3,4] [cC (QdU h1),bF h2,oO (getLo h3),oO (getHi Qao.enc h3),rE Qao.enc h3,hH (.rows ((setI r (subK .i64 done 1) (Qao.mk x0.arrive x0.begin x0.depart rest_)).map Qao.enc)),hH (.relen 4 ((setI r (subK .i64 done 1) (Qao.mk x0.arrive x0.begin x0.depart rest_)).map Qao.enc).length),oO (setM Qao.enc r (subK .i64 done 1) (Qao.mk x0.arrive x0.begin x0.depart rest_)),rp 3 (oO (QwG Qao.enc r (subK .i64 done 1) (Qao.mk x0.arrive x0.begin x0.depart rest_))),oO (getLo (Qz7 h3 (Qao.mk x0.arrive x0.begin x0.depart rest_))),oO (getHi Qao.enc (Qz7 h3 (Qao.mk x0.arrive x0.begin x0.depart rest_))),rE Qao.enc (Qz7 h3 (Qao.mk x0.arrive x0.begin x0.depart rest_)),hH (.rows ((setI (setI r (subK .i64 done 1) (Qao.mk x0.arrive x0.begin x0.depart rest_)) (subK .i64 done 1) (Qao.mk x0.arrive x0.begin depart rest_)).map Qao.enc)),hH (.relen 4 ((setI (setI r (subK .i64 done 1) (Qao.mk x0.arrive x0.begin x0.depart rest_)) (subK .i64 done 1) (Qao.mk x0.arrive x0.begin depart rest_)).map Qao.enc).length),oO (setM Qao.enc (setI r (subK .i64 done 1) (Qao.mk x0.arrive x0.begin x0.depart rest_)) (subK .i64 done 1) (Qao.mk x0.arrive x0.begin depart rest_)),rp 4 (oO (QwG Qao.enc (setI r (subK .i64 done 1) (Qao.mk x0.arrive x0.begin x0.depart rest_)) (subK .i64 done 1) (Qao.mk x0.arrive x0.begin depart rest_)))] (QkM Γ rv h)
theorem QfC {p l done rest_} {rv:Qaf × Int} (h:Qet p l done rest_ = some rv):AFn Tryz.prog 124 [.agg (Qat.enc p),.agg (Qaf.enc l),.one (lI done),.one (.bool rest_)] [] (.tup [.agg [lI rv.1.ready,lI rv.1.since,.bool rv.1.sheet.rest_,lI rv.1.sheet.depart,lL 4 rv.1.sheet.times Qao.enc,lI rv.1.sheet.end_,lI rv.1.sheet.miles],.one (lI rv.2)]) []:=by
 refine QaL Tryz.func124 (by kernel_rfl) (by kernel_rfl) (fun Γ=>?_)
 unfold Qet at h
 rcases Qag h with ⟨h0,h⟩|⟨h0,h⟩
 ·exact gn 11 [2,3,4,5,8,10,11] [0,1,2] [hH (.draw 6 []),bT h0] (QkL Γ rv h)
 ·exact gn 9 [2,3,4,5,8,10,11] [0,1,2] [hH (.draw 6 []),bF h0] (QkL Γ rv h)
theorem Qql {l m} {rv:Bool} (h:Qkv l m = some rv):AFn Tryz.prog 127 [.agg (Qaf.enc l),.agg (Qaf.enc m)] [] (one (.bool rv)) []:=by
 refine QaL Tryz.func127 (by kernel_rfl) (by kernel_rfl) (fun Γ=>?_)
 unfold Qkv at h
 obtain rfl:=Option.some.inj h
 exact gr 4 [] [rp 6 hP,rp 4 (oI ((eqI l.ready m.ready) = true)),oR True ((eqI l.ready m.ready) = true)]
theorem QlH {m c} {rv:Bool} (h:Qgf m c = some rv):AFn Tryz.prog 126 [.agg (Qaf.enc m),.one (.ip (Qaf.enc c) 0)] [] (one (.bool rv)) []:=by
 refine QaL Tryz.func126 (by kernel_rfl) (by kernel_rfl) (fun Γ=>?_)
 unfold Qgf at h
 obtain ⟨r,h0,h⟩:=Qae h
 obtain rfl:=Option.some.inj h
 exact gr 4 [] [cC (Qql h0)]
def QcD (Γ:Gam) (rv:Int) (cf:Cf):Prop:=Go Tryz.prog Tryz.f152 [] Γ (one (lI rv)) [] cf
def Qci (Γ:Gam) (rv:Int) (s0:List Qaf) (c:Qaf) (v:Int):Prop:=QcD Γ rv ⟨[.c 52,.l 52,.b 0,.c 7],⟨19,[vL 0 7 s0 Qaf.enc,(1,one (.fn (.func 126) [.ip (Qaf.enc c) 0])),vI 7 (lenI s0),vI 8 v],[]⟩⟩
def Qce (Γ:Gam) (rv:Int) (s0:List Qaf) (c:Qaf):Prop:=QcD Γ rv ⟨[.c 7],⟨19,[],[]⟩⟩
theorem Qei (Γ:Gam) (rv:Int) {s0 c} {s:Int} {e:(Unit) ⊕ (Int)} (h:loopF (fun s=>Qaq s0 c s) s = some e) (hD:sel e (fun e=>Qce Γ rv s0 c) (fun e=>e = rv)):Qci Γ rv s0 c s:=by
 refine QaD (C:=fun (s:Int)=>Qci Γ rv s0 c s) (D:=fun (e:(Unit) ⊕ (Int))=>sel e (fun e=>Qce Γ rv s0 c) (fun e=>e = rv)) ?_ h hD
 clear h hD s e
 intro v z_ h hI hE
 replace h:Qaq s0 c v = _:=h
 unfold Qaq at h
 rcases Qag h with ⟨h0,h⟩|⟨h0,h⟩
 ·obtain ⟨x0,h1,h⟩:=Qae h
  obtain ⟨r,h2,h⟩:=Qae h
  rcases Qag h with ⟨h3,h⟩|⟨h3,h⟩
  ·obtain rfl:=(hE _ (oJ h):_ = rv)
   exact gr 14 [] [bT h0,cE Qaf.enc h1,cC (QlH h2),bT h3]
  ·exact gn 16 [0,1,7,8] [] [bT h0,cE Qaf.enc h1,cC (QlH h2),bF h3] (hI _ (oJ h))
 ·exact gn 5 [] [] [bF h0] (hE _ (oJ h))
theorem QeL {s0 c} {rv:Int} (h:Qbb s0 c = some rv):AFn Tryz.prog 152 [.one (lL 7 s0 Qaf.enc),.one (.fn (.func 126) [.ip (Qaf.enc c) 0])] [] (one (lI rv)) []:=by
 refine QaL Tryz.func152 (by kernel_rfl) (by kernel_rfl) (fun Γ=>?_)
 unfold Qbb at h
 obtain ⟨e0,h4,h⟩:=Qae h
 refine gn 7 [0,1,7,8] [] [nL Qaf.enc s0] (Qei Γ rv h4 ?_)
 rcases e0 with e0|e0
 ·replace h:(some (-1):Option Int) = some _:=h
  obtain rfl:=Option.some.inj h
  exact gr 2 [] []
 ·obtain ⟨r1,rfl⟩:∃ x,x = e0:=⟨_,rfl⟩
  replace h:(some r1:Option Int) = some _:=h
  exact Option.some.inj h
theorem Qcd {s0 c} {rv:Bool} (h:QaK s0 c = some rv):AFn Tryz.prog 125 [.one (lL 7 s0 Qaf.enc),.one (.fn (.func 126) [.ip (Qaf.enc c) 0])] [] (one (.bool rv)) []:=by
 refine QaL Tryz.func125 (by kernel_rfl) (by kernel_rfl) (fun Γ=>?_)
 unfold QaK at h
 obtain ⟨r,h0,h⟩:=Qae h
 obtain rfl:=Option.some.inj h
 exact gr 4 [] [cC (QeL h0)]
def Qgg (Γ:Gam) (rv:List Qaf) (cf:Cf):Prop:=Go Tryz.prog Tryz.f80 [] Γ (one (lL 7 rv Qaf.enc)) [] cf
def QlJ (Γ:Gam) (rv:List Qaf) (p:Qat) (l:List Qaf) (done:Int) (choices:List Bool) (v:Int) (x0:Qaf) (l3:List Qaf) (v1:Int):Prop:=Qgg Γ rv ⟨[.c 128204,.l 128204,.b 2,.b 1,.c 4007,.l 500,.b 0,.c 63],⟨64,[vI 2 done,vP 3 0 25,vL 7 1 choices QaI,vO 8 1 7 l3 Qaf.enc,vP 10 2 7,vL 29 7 l Qaf.enc,vI 30 (lenI l),vI 31 v,vL 35 1 choices QaI,vI 36 (lenI choices),vI 37 v1],[oX 25 133 (Qat.enc p),oS 7 137 l3 Qaf.enc,oX 7 137 (Qaf.enc x0)]⟩⟩
def QkK (Γ:Gam) (rv:List Qaf) (p:Qat) (l:List Qaf) (done:Int) (choices:List Bool) (v:Int) (x0:Qaf) (l4:List Qaf):Prop:=Qgg Γ rv ⟨[.b 1,.c 4007,.l 500,.b 0,.c 63],⟨64,[vI 2 done,vP 3 0 25,vL 7 1 choices QaI,vO 8 1 7 l4 Qaf.enc,vL 29 7 l Qaf.enc,vI 30 (lenI l),vI 31 v],[oX 25 133 (Qat.enc p),oS 7 137 l4 Qaf.enc]⟩⟩
def QlI (Γ:Gam) (rv:List Qaf) (p:Qat) (l:List Qaf) (done:Int) (choices:List Bool) (l2:List Qaf) (v:Int):Prop:=Qgg Γ rv ⟨[.c 500,.l 500,.b 0,.c 63],⟨64,[vI 2 done,vP 3 0 25,vL 7 1 choices QaI,vO 8 1 7 l2 Qaf.enc,vL 29 7 l Qaf.enc,vI 30 (lenI l),vI 31 v],[oX 25 133 (Qat.enc p),oS 7 137 l2 Qaf.enc]⟩⟩
def QkJ (Γ:Gam) (rv:List Qaf) (p:Qat) (l:List Qaf) (done:Int) (choices:List Bool) (l5:List Qaf):Prop:=Qgg Γ rv ⟨[.c 63],⟨64,[vO 8 0 7 l5 Qaf.enc],[oS 7 137 l5 Qaf.enc]⟩⟩
theorem QpQ (Γ:Gam) (rv:List Qaf) {p l done choices v x0} {s:List Qaf × Int} {e:List Qaf} (h:loopF (fun s=>Qch p l done choices v x0 s.1 s.2) s = some e) (hD:QkK Γ rv p l done choices v x0 e):QlJ Γ rv p l done choices v x0 s.1 s.2:=by
 refine QaD (C:=fun (s:List Qaf × Int)=>QlJ Γ rv p l done choices v x0 s.1 s.2) (D:=fun (e:List Qaf)=>QkK Γ rv p l done choices v x0 e) ?_ h hD
 clear h hD s e
 rintro ⟨l3,v1⟩ z_ h hI hE
 replace h:Qch p l done choices v x0 l3 v1 = _:=h
 unfold Qch at h
 rcases Qag h with ⟨h4,h⟩|⟨h4,h⟩
 ·obtain ⟨x1,h5,h⟩:=Qae h
  obtain ⟨r,h6,h⟩:=Qae h
  rcases Qag h with ⟨h7,h⟩|⟨h7,h⟩
  ·obtain ⟨r1,h8,h⟩:=Qae h
   rcases Qag h with ⟨h9,h⟩|⟨h9,h⟩
   ·exact gn 18 [2,3,7,8,10,29,30,31,35,36,37] [0,1,2] [bT h4,cE QaI h5,cC (QfC h6),rp 3 (bT h7),eL l3 Qaf.enc,cC (Qcd h8),bT h7,bT h7,nF h9] (hI _ (oJ h))
   ·obtain ⟨h10,h⟩:=Qas h
    exact gn 18 [2,3,7,8,10,29,30,31,35,36,37] [0,5,2] [bT h4,cE QaI h5,cC (QfC h6),rp 3 (bT h7),eL l3 Qaf.enc,cC (Qcd h8),bT h7,bT h7,nT h9,oO (Eq.refl ([r.1].map Qaf.enc).length),aO Qaf.enc h10] (hI _ (oJ h))
  ·exact gn 18 [2,3,7,8,10,29,30,31,35,36,37] [0,1,2] [bT h4,cE QaI h5,cC (QfC h6),rp 5 (bF h7),fF] (hI _ (oJ h))
 ·exact gn 5 [2,3,7,8,29,30,31] [0,1] [bF h4] (hE _ (oJ h))
theorem QpP (Γ:Gam) (rv:List Qaf) {p l done choices} {s:List Qaf × Int} {e:List Qaf} (h:loopF (fun s=>Qcg p l done choices s.1 s.2) s = some e) (hD:QkJ Γ rv p l done choices e):QlI Γ rv p l done choices s.1 s.2:=by
 refine QaD (C:=fun (s:List Qaf × Int)=>QlI Γ rv p l done choices s.1 s.2) (D:=fun (e:List Qaf)=>QkJ Γ rv p l done choices e) ?_ h hD
 clear h hD s e
 rintro ⟨l2,v⟩ z_ h hI hE
 replace h:Qcg p l done choices l2 v = _:=h
 unfold Qcg at h
 rcases Qag h with ⟨h2,h⟩|⟨h2,h⟩
 ·obtain ⟨x0,h3,h⟩:=Qae h
  obtain ⟨e0,h11,h⟩:=Qae h
  refine gn 13 [2,3,7,8,10,29,30,31,35,36,37] [0,1,2] [bT h2,cE Qaf.enc h3,nL QaI choices] (QpQ Γ rv h11 ?_)
  obtain ⟨l4,rfl⟩:∃ x,x = e0:=⟨_,rfl⟩
  replace h:(some (.inl (l4,(addK .i64 v 1))):Option ((List Qaf × Int) ⊕ (List Qaf))) = some _:=h
  exact gn 3 [2,3,7,8,29,30,31] [0,1] [] (hI _ (oJ h))
 ·exact gn 5 [8] [1] [bF h2] (hE _ (oJ h))
theorem QkI (Γ:Gam) (rv:List Qaf) {p l done choices} (h:Qex p l done choices = some rv):Qgg Γ rv ⟨[.c 15],⟨64,[vL 1 7 l Qaf.enc,vI 2 done,vP 3 0 25,vL 7 1 choices QaI],[oX 25 133 (Qat.enc p)]⟩⟩:=by
 unfold Qex at h
 obtain ⟨e1,h12,h⟩:=Qae h
 refine gn 7 [2,3,7,8,29,30,31] [0,1] [nL Qaf.enc l,hW 3,hH (.adopt 8 7 137)] (QpP Γ rv h12 ?_)
 obtain ⟨l5,rfl⟩:∃ x,x = e1:=⟨_,rfl⟩
 replace h:(some l5:Option (List Qaf)) = some _:=h
 obtain rfl:=Option.some.inj h
 exact gr 2 [] [hW 4,hH (.frz 0),rp 3 (eL l5 Qaf.enc)]
theorem Qrn {p l done} {rv:List Qaf} (h:Qfr p l done = some rv):AFn Tryz.prog 80 [.agg (Qat.enc p),.one (lL 7 l Qaf.enc),.one (lI done)] [] (one (lL 7 rv Qaf.enc)) []:=by
 refine QaL Tryz.func80 (by kernel_rfl) (by kernel_rfl) (fun Γ=>?_)
 unfold Qfr at h
 rcases Qag h with ⟨h0,h⟩|⟨h0,h⟩
 ·obtain ⟨l1,h1,h⟩:=Qae h
  exact gn 9 [1,2,3,7] [0] [nL QaI p.r.rests,bT h0,hH (.rows (l1.map QaI)),oO (sl1 h1),oO (sl2 h1),oO (sl3 QaI h1),oO (Int.le_refl (addK .i64 done 1)),oO (sl3 QaI h1),oO (sl6 QaI h1)] (QkI Γ rv h)
 ·exact gn 9 [1,2,3,7] [0] [nL QaI p.r.rests,bF h0,hW 1,hH (.frz 1),rp 2 (oO (Eq.refl ([false,true].map QaI).length))] (QkI Γ rv h)
def QoQ (Γ:Gam) (rv:Qah × Int) (cf:Cf):Prop:=Go Tryz.prog Tryz.f81 [] Γ (.tup [.agg [.bool rv.1.rest_,lI rv.1.depart,lL 4 rv.1.times Qao.enc,lI rv.1.end_,lI rv.1.miles],.one (lI rv.2)]) [] cf
def Qmt (Γ:Gam) (rv:Qah × Int) (p:Qat) (rests:List Bool) (r:Qaf) (rest_:Int) (x0:Qaf) (v:Int):Prop:=QoQ Γ rv ⟨[.c 116,.l 116,.b 0,.c 15],⟨36,[vP 2 0 25,vP 4 1 5,vP 6 2 7,vL 13 1 rests QaI,vI 14 (lenI rests),vI 15 v],[oX 25 133 [lL 1 p.x.net.places e_str,lL 6 p.x.net.arcs Qap.enc,lL 14 p.x.types Qai.enc,lL 16 p.x.orders Qak.enc,lL 2 p.x.apart QaQ.enc,lL 2 p.x.before QaQ.enc,.str p.t.name,lI p.t.count,lI p.t.from_,lI p.t.to_,lL 1 p.t.cap e_i64,lI p.t.skills,lI p.t.profile,lI p.t.open_,lI p.t.close,lI p.t.drive,lI rest_,lI p.t.fixed,lI p.t.perMile,lI p.t.perTick,lI p.r.type_,lI p.r.start,lL 1 p.r.rests QaI,lL 2 p.r.visits Qab.enc,lL 4 p.stops Qar.enc],oX 5 60 [.bool false,lI 0,.nils,lI 0,lI 0],oX 7 137 (Qaf.enc x0)]⟩⟩
def QlK (Γ:Gam) (rv:Qah × Int) (p:Qat) (rests:List Bool) (r:Qaf) (x2:Qaf):Prop:=QoQ Γ rv ⟨[.c 15],⟨36,[vP 4 0 5,vP 6 1 7],[oX 5 60 [.bool false,lI 0,.nils,lI 0,lI 0],oX 7 137 (Qaf.enc x2)]⟩⟩
theorem Qqm (Γ:Gam) (rv:Qah × Int) {p rests r} {s:Int × Qaf × Int} {e:(Qaf) ⊕ (Qah × Int)} (h:loopF (fun s=>Qe3 p rests r s.1 s.2.1 s.2.2) s = some e) (hD:sel e (fun e=>QlK Γ rv p rests r e) (fun e=>e = rv)):Qmt Γ rv p rests r s.1 s.2.1 s.2.2:=by
 refine QaD (C:=fun (s:Int × Qaf × Int)=>Qmt Γ rv p rests r s.1 s.2.1 s.2.2) (D:=fun (e:(Qaf) ⊕ (Qah × Int))=>sel e (fun e=>QlK Γ rv p rests r e) (fun e=>e = rv)) ?_ h hD
 clear h hD s e
 rintro ⟨rest_,x0,v⟩ z_ h hI hE
 replace h:Qe3 p rests r rest_ x0 v = _:=h
 unfold Qe3 at h
 rcases Qag h with ⟨h1,h⟩|⟨h1,h⟩
 ·obtain ⟨x1,h2,h⟩:=Qae h
  obtain ⟨r1,h3,h⟩:=Qae h
  rcases Qag h with ⟨h4,h⟩|⟨h4,h⟩
  ·obtain rfl:=(hE _ (oJ h):_ = rv)
   exact gr 17 [] [bT h1,cE QaI h2,cC (QfC h3),bT h4,hW 6,hH (.nilB 1 2 4)]
  ·exact gn 20 [2,4,6,13,14,15] [0,1,2] [bT h1,cE QaI h2,cC (QfC h3),bF h4] (hI _ (oJ h))
 ·exact gn 5 [4,6] [1,2] [bF h1] (hE _ (oJ h))
theorem Qr1 {p rests} {rv:Qah × Int} (h:Qf0 p rests = some rv):AFn Tryz.prog 81 [.agg (Qat.enc p),.one (lL 1 rests QaI)] [] (.tup [.agg [.bool rv.1.rest_,lI rv.1.depart,lL 4 rv.1.times Qao.enc,lI rv.1.end_,lI rv.1.miles],.one (lI rv.2)]) []:=by
 refine QaL Tryz.func81 (by kernel_rfl) (by kernel_rfl) (fun Γ=>?_)
 unfold Qf0 at h
 obtain ⟨r,h0,h⟩:=Qae h
 obtain ⟨e0,h5,h⟩:=Qae h
 refine gn 9 [2,4,6,13,14,15] [0,1,2] [cC (Qms h0),nL QaI rests] (Qqm Γ rv h5 ?_)
 rcases e0 with e0|e0
 ·obtain ⟨x2,rfl⟩:∃ x,x = e0:=⟨_,rfl⟩
  replace h:(some (x2.sheet,0):Option (Qah × Int)) = some _:=h
  obtain rfl:=Option.some.inj h
  exact gr 2 [] []
 ·obtain ⟨r2,rfl⟩:∃ x,x = e0:=⟨_,rfl⟩
  replace h:(some r2:Option (Qah × Int)) = some _:=h
  exact Option.some.inj h
def QnT (Γ:Gam) (rv:Qah × Int) (cf:Cf):Prop:=Go Tryz.prog Tryz.f42 [] Γ (.tup [.agg [.bool rv.1.rest_,lI rv.1.depart,lL 4 rv.1.times Qao.enc,lI rv.1.end_,lI rv.1.miles],.one (lI rv.2)]) [] cf
def Qp7 (Γ:Gam) (rv:Qah × Int) (r:Qac) (r1:Qat × Bool) (l:List Qaf) (v:Int):Prop:=QnT Γ rv ⟨[.c 1012,.l 1012,.b 0,.c 127],⟨82,[vP 3 0 4,vP 4 1 5,vP 6 2 25,vI 8 (addK .i64 (lenI r.visits) 1),vL 9 7 l Qaf.enc,vI 38 (addK .i64 (lenI r.visits) 1),vI 39 v],[oX 4 34 (Qac.enc r),oX 5 60 [.bool false,lI 0,.nils,lI 0,lI 0],oX 25 133 (Qat.enc r1.1)]⟩⟩
def QoN (Γ:Gam) (rv:Qah × Int) (r:Qac) (r1:Qat × Bool) (l1:List Qaf):Prop:=QnT Γ rv ⟨[.c 127],⟨82,[vP 3 0 4,vP 4 1 5,vP 6 2 25,vI 8 (addK .i64 (lenI r.visits) 1),vL 9 7 l1 Qaf.enc],[oX 4 34 (Qac.enc r),oX 5 60 [.bool false,lI 0,.nils,lI 0,lI 0],oX 25 133 (Qat.enc r1.1)]⟩⟩
def Qp8 (Γ:Gam) (rv:Qah × Int) (l3:List Qaf) (x2:Qaf) (v1:Int):Prop:=QnT Γ rv ⟨[.c 8180,.l 8180,.b 2,.c 1023],⟨82,[vP 4 0 5,vP 12 1 7,vL 65 7 l3 Qaf.enc,vI 66 (lenI l3),vI 67 v1],[oX 5 60 [.bool false,lI 0,.nils,lI 0,lI 0],oX 7 137 (Qaf.enc x2)]⟩⟩
def QoO (Γ:Gam) (rv:Qah × Int) (l3:List Qaf) (x4:Qaf):Prop:=QnT Γ rv ⟨[.c 1023],⟨82,[vP 4 0 5,vP 12 1 7],[oX 5 60 [.bool false,lI 0,.nils,lI 0,lI 0],oX 7 137 (Qaf.enc x4)]⟩⟩
theorem Qso (Γ:Gam) (rv:Qah × Int) {r r1} {s:List Qaf × Int} {e:List Qaf} (h:loopF (fun s=>QdQ r r1 s.1 s.2) s = some e) (hD:QoN Γ rv r r1 e):Qp7 Γ rv r r1 s.1 s.2:=by
 refine QaD (C:=fun (s:List Qaf × Int)=>Qp7 Γ rv r r1 s.1 s.2) (D:=fun (e:List Qaf)=>QoN Γ rv r r1 e) ?_ h hD
 clear h hD s e
 rintro ⟨l,v⟩ z_ h hI hE
 replace h:QdQ r r1 l v = _:=h
 unfold QdQ at h
 rcases Qag h with ⟨h3,h⟩|⟨h3,h⟩
 ·obtain ⟨r3,h4,h⟩:=Qae h
  exact gn 13 [3,4,6,8,9,38,39] [0,1,2] [bT h3,cC (Qrn h4)] (hI _ (oJ h))
 ·exact gn 5 [3,4,6,8,9] [0,1,2] [bF h3] (hE _ (oJ h))
theorem Qsp (Γ:Gam) (rv:Qah × Int) {l3} {s:Qaf × Int} {e:Qaf} (h:loopF (fun s=>Qdq l3 s.1 s.2) s = some e) (hD:QoO Γ rv l3 e):Qp8 Γ rv l3 s.1 s.2:=by
 refine QaD (C:=fun (s:Qaf × Int)=>Qp8 Γ rv l3 s.1 s.2) (D:=fun (e:Qaf)=>QoO Γ rv l3 e) ?_ h hD
 clear h hD s e
 rintro ⟨x2,v1⟩ z_ h hI hE
 replace h:Qdq l3 x2 v1 = _:=h
 unfold Qdq at h
 rcases Qag h with ⟨h11,h⟩|⟨h11,h⟩
 ·obtain ⟨x3,h12,h⟩:=Qae h
  rcases Qag h with ⟨h13,h⟩|⟨h13,h⟩
  ·exact gn 16 [4,12,65,66,67] [0,1] [bT h11,cE Qaf.enc h12,bT h13] (hI _ (oJ h))
  ·exact gn 16 [4,12,65,66,67] [0,1] [bT h11,cE Qaf.enc h12,bF h13] (hI _ (oJ h))
 ·exact gn 5 [4,12] [0,1] [bF h11] (hE _ (oJ h))
theorem QrO {x0 r} {rv:Qah × Int} (h:Qm8 x0 r = some rv):AFn Tryz.prog 42 [.agg (Qad.enc x0),.agg (Qac.enc r)] [] (.tup [.agg [.bool rv.1.rest_,lI rv.1.depart,lL 4 rv.1.times Qao.enc,lI rv.1.end_,lI rv.1.miles],.one (lI rv.2)]) []:=by
 refine QaL Tryz.func42 (by kernel_rfl) (by kernel_rfl) (fun Γ=>?_)
 unfold Qm8 at h
 obtain ⟨r1,h0,h⟩:=Qae h
 rcases Qag h with ⟨h1,h⟩|⟨h1,h⟩
 ·obtain rfl:=Option.some.inj h
  exact gr 12 [] [cC (QrP h0),nL Qab.enc r.visits,hP,hP,hP,rp 2 (oI ((!r1.2) = false)),nL QaI r.rests,hP,hP,hP,rp 2 (oI ((!r1.2) = false)),oR True ((!r1.2) = false),bT h1,hW 5,hH (.nilB 2 2 4)]
 ·obtain ⟨r2,h2,h⟩:=Qae h
  obtain ⟨e0,h5,h⟩:=Qae h
  refine gn 18 [3,4,6,8,9,38,39] [1,2,3] [cC (QrP h0),nL Qab.enc r.visits,hP,hP,hP,rp 2 (oI ((!r1.2) = false)),nL QaI r.rests,hP,hP,hP,rp 2 (oI ((!r1.2) = false)),oR True ((!r1.2) = false),bF h1,cC (Qms h2),hW 9,hH (.frz 4),rp 2 (oO (Eq.refl ([r2].map Qaf.enc).length))] (Qso Γ rv h5 ?_)
  obtain ⟨l1,rfl⟩:∃ x,x = e0:=⟨_,rfl⟩
  replace h:(br (eqI (lenI l1) 0) (bnd (mkI (addK .i64 (lenI r.visits) 1) (addK .i64 (lenI r.visits) 1) 1 false) fun l2=>bnd (Qf0 r1.1 (cpyL l2 r.rests)) fun r4=>some (r4.1,r4.2)) (bnd (getI l1 0) fun x1=>bnd (slcI l1 1 (lenI l1)) fun l3=>bnd (loopF (fun s=>Qdq l3 s.1 s.2) (x1,0)) (fun x4=>some (x4.sheet,0))):Option (Qah × Int)) = some _:=h
  rcases Qag h with ⟨h6,h⟩|⟨h6,h⟩
  ·obtain ⟨l2,h7,h⟩:=Qae h
   obtain ⟨r4,h8,h⟩:=Qae h
   obtain rfl:=Option.some.inj h
   exact gr 10 [] [nL Qaf.enc l1,bT h6,hH (.cells [.bool false]),hH (.rows (l2.map QaI)),oO (mk1 h7),oO (mk2 h7),oO (mk3 h7),oO (mk4 h7),oO (mk5 QaI h7),cY QaI l2 r.rests,hH (.relen 3 ((cpyL l2 r.rests).map QaI).length),hW 4,hH (.frz 3),rp 3 (oO (QA5 QaI l2 r.rests)),rp 4 (oO (Eq.refl ((cpyL l2 r.rests).map QaI).length)),cC (Qr1 h8)]
  ·obtain ⟨x1,h9,h⟩:=Qae h
   obtain ⟨l3,h10,h⟩:=Qae h
   obtain ⟨e1,h14,h⟩:=Qae h
   refine gn 12 [4,12,65,66,67] [1,3] [nL Qaf.enc l1,bF h6,cE Qaf.enc h9,hH (.rows (l3.map Qaf.enc)),oO (sl1 h10),oO (sl2h Qaf.enc h10),rp 3 (oO (Int.le_refl ((l1.map Qaf.enc).length:Int))),oO (sl6h Qaf.enc h10),nL Qaf.enc l3] (Qsp Γ rv h14 ?_)
   obtain ⟨x4,rfl⟩:∃ x,x = e1:=⟨_,rfl⟩
   replace h:(some (x4.sheet,0):Option (Qah × Int)) = some _:=h
   obtain rfl:=Option.some.inj h
   exact gr 2 [] []
theorem QiJ {kind own} {rv:Bool} (h:Qkq kind own = some rv):AFn Tryz.prog 82 [.one (lI kind),.one (lI own)] [] (one (.bool rv)) []:=by
 refine QaL Tryz.func82 (by kernel_rfl) (by kernel_rfl) (fun Γ=>?_)
 unfold Qkq at h
 obtain rfl:=Option.some.inj h
 exact gr 4 [] [rp 4 hP,rp 2 (oI ((neI kind (-1)) = true)),oR True ((neI kind (-1)) = true)]
def Qpt (Γ:Gam) (rv:QaE) (cf:Cf):Prop:=Go Tryz.prog Tryz.f43 [] Γ (gG [lI rv.cost,lI rv.moved,lI rv.other,lI rv.work]) [] cf
def Ql6 (Γ:Gam) (rv:QaE) (x0:Qad) (r:Qac) (s0:Qah) (x1:Qai) (l:List (Int × Int)) (moved:Int) (other:Int) (v:Int):Prop:=Qpt Γ rv ⟨[.c 4084,.l 4084,.b 0,.c 511],⟨114,[vP 3 0 6,vP 4 1 4,vP 6 2 4,vP 10 3 4,(11,one (.mp 4)),vL 59 2 r.visits Qab.enc,vI 60 (lenI r.visits),vI 61 v],[oX 6 30 (Qad.enc x0),oX 4 34 (Qac.enc r),oX 4 62 [lI 0,lI 0,lI 0,lI 0],oX 4 62 [lI (addK .i64 (addK .i64 x1.fixed (mulK .i64 x1.perMile s0.miles)) (mulK .i64 x1.perTick (subK .i64 s0.end_ x1.open_))),lI moved,lI other,lI (mulK .i64 (quoK .i64 (subK .i64 s0.end_ x1.open_) 64) (quoK .i64 (subK .i64 s0.end_ x1.open_) 64))],oM 142 l (mE lI lI)]⟩⟩
def QkA (Γ:Gam) (rv:QaE) (x0:Qad) (r:Qac) (s0:Qah) (x1:Qai) (moved2:Int) (other1:Int):Prop:=Qpt Γ rv ⟨[.c 511],⟨114,[vP 6 0 4,vP 10 1 4],[oX 4 62 [lI 0,lI 0,lI 0,lI 0],oX 4 62 [lI (addK .i64 (addK .i64 x1.fixed (mulK .i64 x1.perMile s0.miles)) (mulK .i64 x1.perTick (subK .i64 s0.end_ x1.open_))),lI moved2,lI other1,lI (mulK .i64 (quoK .i64 (subK .i64 s0.end_ x1.open_) 64) (quoK .i64 (subK .i64 s0.end_ x1.open_) 64))]]⟩⟩
theorem Qom (Γ:Gam) (rv:QaE) {x0 r s0 x1 l other v x2 x3 moved1} {x:(List (Int × Int) × Int × Int × Int) ⊕ (Int × Int)} (h:QiI x0 r s0 x1 l other v x2 x3 moved1 = some x) (hI:∀ s:List (Int × Int) × Int × Int × Int,x = .inl s→Ql6 Γ rv x0 r s0 x1 s.1 s.2.1 s.2.2.1 s.2.2.2) (hE:∀ e:Int × Int,x = .inr e→QkA Γ rv x0 r s0 x1 e.1 e.2):Qpt Γ rv ⟨[.c 2091423,.b 1,.c 32679,.l 4084,.b 0,.c 511],⟨114,[vP 3 0 6,vP 4 1 4,vP 6 2 4,vP 10 3 4,(11,one (.mp 4)),vP 14 5 16,vL 59 2 r.visits Qab.enc,vI 60 (lenI r.visits),vI 61 v],[oX 6 30 (Qad.enc x0),oX 4 34 (Qac.enc r),oX 4 62 [lI 0,lI 0,lI 0,lI 0],oX 4 62 [lI (addK .i64 (addK .i64 x1.fixed (mulK .i64 x1.perMile s0.miles)) (mulK .i64 x1.perTick (subK .i64 s0.end_ x1.open_))),lI moved1,lI other,lI (mulK .i64 (quoK .i64 (subK .i64 s0.end_ x1.open_) 64) (quoK .i64 (subK .i64 s0.end_ x1.open_) 64))],oM 142 (mPut eqI l x2.order (addK .i64 (mGet eqI l x2.order 0) 1)) (mE lI lI),oX 16 105 (Qak.enc x3)]⟩⟩:=by
 unfold QiI at h
 obtain ⟨r2,h9,h⟩:=Qae h
 rcases Qag h with ⟨h10,h⟩|⟨h10,h⟩
 ·exact gn 7 [3,4,6,10,11,59,60,61] [0,1,2,3,4] [cC (QiJ h9),bT h10] (hI _ (oJ h))
 ·exact gn 7 [3,4,6,10,11,59,60,61] [0,1,2,3,4] [cC (QiJ h9),bF h10] (hI _ (oJ h))
theorem Qr4 (Γ:Gam) (rv:QaE) {x0 r s0 x1} {s:List (Int × Int) × Int × Int × Int} {e:Int × Int} (h:loopF (fun s=>QdN x0 r s0 x1 s.1 s.2.1 s.2.2.1 s.2.2.2) s = some e) (hD:QkA Γ rv x0 r s0 x1 e.1 e.2):Ql6 Γ rv x0 r s0 x1 s.1 s.2.1 s.2.2.1 s.2.2.2:=by
 refine QaD (C:=fun (s:List (Int × Int) × Int × Int × Int)=>Ql6 Γ rv x0 r s0 x1 s.1 s.2.1 s.2.2.1 s.2.2.2) (D:=fun (e:Int × Int)=>QkA Γ rv x0 r s0 x1 e.1 e.2) ?_ h hD
 clear h hD s e
 rintro ⟨l,moved,other,v⟩ z_ h hI hE
 replace h:QdN x0 r s0 x1 l moved other v = _:=h
 unfold QdN at h
 rcases Qag h with ⟨h2,h⟩|⟨h2,h⟩
 ·obtain ⟨x2,h3,h⟩:=Qae h
  rcases Qag h with ⟨h4,h⟩|⟨h4,h⟩
  ·exact gn 18 [3,4,6,10,11,59,60,61] [0,1,2,3,4] [bT h2,cE Qab.enc h3,mG kqI lI l x2.order 0,mU kqI lI l x2.order (addK .i64 (mGet eqI l x2.order 0) 1),rp 5 hP,rp 3 (oI ((ltI x2.order 0) = false)),nL Qak.enc x0.orders,hP,hP,rp 2 (oI ((ltI x2.order 0) = false)),oR True ((ltI x2.order 0) = false),rp 6 (bT h4),tT] (hI _ (oJ h))
  ·rcases Qag h with ⟨h5,h⟩|⟨h5,h⟩
   ·exact gn 18 [3,4,6,10,11,59,60,61] [0,1,2,3,4] [bT h2,cE Qab.enc h3,mG kqI lI l x2.order 0,mU kqI lI l x2.order (addK .i64 (mGet eqI l x2.order 0) 1),rp 5 hP,rp 3 (oI ((ltI x2.order 0) = false)),nL Qak.enc x0.orders,hP,hP,rp 2 (oI ((ltI x2.order 0) = false)),oR True ((ltI x2.order 0) = false),rp 4 (bF h4),mG kqI lI (mPut eqI l x2.order (addK .i64 (mGet eqI l x2.order 0) 1)) x2.order 0,bF h4,bF h4,bT h5] (hI _ (oJ h))
   ·obtain ⟨x3,h6,h⟩:=Qae h
    obtain ⟨r1,h7,h⟩:=Qae h
    rcases Qag h with ⟨h8,h⟩|⟨h8,h⟩
    ·exact gn 23 [3,4,6,10,11,14,59,60,61] [0,1,2,3,4,6] [bT h2,cE Qab.enc h3,mG kqI lI l x2.order 0,mU kqI lI l x2.order (addK .i64 (mGet eqI l x2.order 0) 1),rp 5 hP,rp 3 (oI ((ltI x2.order 0) = false)),nL Qak.enc x0.orders,hP,hP,rp 2 (oI ((ltI x2.order 0) = false)),oR True ((ltI x2.order 0) = false),rp 4 (bF h4),mG kqI lI (mPut eqI l x2.order (addK .i64 (mGet eqI l x2.order 0) 1)) x2.order 0,bF h4,bF h4,bF h5,cE Qak.enc h6,cC (QiJ h7),bT h8] (Qom Γ rv h hI hE)
    ·exact gn 23 [3,4,6,10,11,14,59,60,61] [0,1,2,3,4,6] [bT h2,cE Qab.enc h3,mG kqI lI l x2.order 0,mU kqI lI l x2.order (addK .i64 (mGet eqI l x2.order 0) 1),rp 5 hP,rp 3 (oI ((ltI x2.order 0) = false)),nL Qak.enc x0.orders,hP,hP,rp 2 (oI ((ltI x2.order 0) = false)),oR True ((ltI x2.order 0) = false),rp 4 (bF h4),mG kqI lI (mPut eqI l x2.order (addK .i64 (mGet eqI l x2.order 0) 1)) x2.order 0,bF h4,bF h4,bF h5,cE Qak.enc h6,cC (QiJ h7),bF h8] (Qom Γ rv h hI hE)
 ·exact gn 5 [6,10] [2,3] [bF h2] (hE _ (oJ h))
theorem QtW {x0 r s0} {rv:QaE} (h:QnE x0 r s0 = some rv):AFn Tryz.prog 43 [.agg (Qad.enc x0),.agg (Qac.enc r),.agg (Qah.enc s0)] [] (gG [lI rv.cost,lI rv.moved,lI rv.other,lI rv.work]) []:=by
 refine QaL Tryz.func43 (by kernel_rfl) (by kernel_rfl) (fun Γ=>?_)
 unfold QnE at h
 rcases Qag h with ⟨h0,h⟩|⟨h0,h⟩
 ·obtain rfl:=Option.some.inj h
  exact gr 8 [] [rp 5 hP,rp 3 (oI ((ltI r.type_ 0) = false)),nL Qai.enc x0.types,hP,hP,rp 2 (oI ((ltI r.type_ 0) = false)),oR True ((ltI r.type_ 0) = false),bT h0]
 ·obtain ⟨x1,h1,h⟩:=Qae h
  obtain ⟨e0,h11,h⟩:=Qae h
  refine gn 22 [3,4,6,10,11,59,60,61] [0,1,3,5,6] [rp 5 hP,rp 3 (oI ((ltI r.type_ 0) = false)),nL Qai.enc x0.types,hP,hP,rp 2 (oI ((ltI r.type_ 0) = false)),oR True ((ltI r.type_ 0) = false),bF h0,cE Qai.enc h1,oO (oA (n:=64)),nL Qab.enc r.visits] (Qr4 Γ rv h11 ?_)
  obtain ⟨moved2,other1⟩:=e0
  replace h:(some (QaE.mk (addK .i64 (addK .i64 x1.fixed (mulK .i64 x1.perMile s0.miles)) (mulK .i64 x1.perTick (subK .i64 s0.end_ x1.open_))) moved2 other1 (mulK .i64 (quoK .i64 (subK .i64 s0.end_ x1.open_) 64) (quoK .i64 (subK .i64 s0.end_ x1.open_) 64))):Option QaE) = some _:=h
  obtain rfl:=Option.some.inj h
  exact gr 2 [] []
theorem Qon {x0 r} {rv:Qah × QaE × Int} (h:Qgb x0 r = some rv):AFn Tryz.prog 24 [.agg (Qad.enc x0),.agg (Qac.enc r)] [] (.tup [.agg [.bool rv.1.rest_,lI rv.1.depart,lL 4 rv.1.times Qao.enc,lI rv.1.end_,lI rv.1.miles],.agg [lI rv.2.1.cost,lI rv.2.1.moved,lI rv.2.1.other,lI rv.2.1.work],.one (lI rv.2.2)]) []:=by
 refine QaL Tryz.func24 (by kernel_rfl) (by kernel_rfl) (fun Γ=>?_)
 unfold Qgb at h
 rcases Qag h with ⟨h0,h⟩|⟨h0,h⟩
 ·obtain rfl:=Option.some.inj h
  exact gr 8 [] [rp 5 hP,rp 3 (oI ((ltI r.type_ 0) = false)),nL Qai.enc x0.types,hP,hP,rp 2 (oI ((ltI r.type_ 0) = false)),oR True ((ltI r.type_ 0) = false),bT h0,hW 7,hH (.nilB 2 2 4)]
 ·obtain ⟨r1,h1,h⟩:=Qae h
  rcases Qag h with ⟨h2,h⟩|⟨h2,h⟩
  ·obtain rfl:=Option.some.inj h
   exact gr 28 [] [rp 5 hP,rp 3 (oI ((ltI r.type_ 0) = false)),nL Qai.enc x0.types,hP,hP,rp 2 (oI ((ltI r.type_ 0) = false)),oR True ((ltI r.type_ 0) = false),bF h0,nL e_fn [39,40,41],tT,oO (getLo (rfl:getI ([39,40,41]:List Nat) 0 = some 39)),oO (getHi e_fn (rfl:getI ([39,40,41]:List Nat) 0 = some 39)),rE e_fn (rfl:getI ([39,40,41]:List Nat) 0 = some 39),cC (Qdu h1),bT h2,hW 8,hH (.nilB 2 2 4)]
  ·obtain ⟨r2,h3,h⟩:=Qae h
   rcases Qag h with ⟨h4,h⟩|⟨h4,h⟩
   ·obtain rfl:=Option.some.inj h
    exact gr 46 [] [rp 5 hP,rp 3 (oI ((ltI r.type_ 0) = false)),nL Qai.enc x0.types,hP,hP,rp 2 (oI ((ltI r.type_ 0) = false)),oR True ((ltI r.type_ 0) = false),bF h0,nL e_fn [39,40,41],tT,oO (getLo (rfl:getI ([39,40,41]:List Nat) 0 = some 39)),oO (getHi e_fn (rfl:getI ([39,40,41]:List Nat) 0 = some 39)),rE e_fn (rfl:getI ([39,40,41]:List Nat) 0 = some 39),cC (Qdu h1),bF h2,tT,oO (getLo (rfl:getI ([39,40,41]:List Nat) 1 = some 40)),oO (getHi e_fn (rfl:getI ([39,40,41]:List Nat) 1 = some 40)),rE e_fn (rfl:getI ([39,40,41]:List Nat) 1 = some 40),cC (QmK h3),bT h4,hW 8,hH (.nilB 2 2 4)]
   ·obtain ⟨r3,h5,h⟩:=Qae h
    rcases Qag h with ⟨h6,h⟩|⟨h6,h⟩
    ·obtain rfl:=Option.some.inj h
     exact gr 64 [] [rp 5 hP,rp 3 (oI ((ltI r.type_ 0) = false)),nL Qai.enc x0.types,hP,hP,rp 2 (oI ((ltI r.type_ 0) = false)),oR True ((ltI r.type_ 0) = false),bF h0,nL e_fn [39,40,41],tT,oO (getLo (rfl:getI ([39,40,41]:List Nat) 0 = some 39)),oO (getHi e_fn (rfl:getI ([39,40,41]:List Nat) 0 = some 39)),rE e_fn (rfl:getI ([39,40,41]:List Nat) 0 = some 39),cC (Qdu h1),bF h2,tT,oO (getLo (rfl:getI ([39,40,41]:List Nat) 1 = some 40)),oO (getHi e_fn (rfl:getI ([39,40,41]:List Nat) 1 = some 40)),rE e_fn (rfl:getI ([39,40,41]:List Nat) 1 = some 40),cC (QmK h3),bF h4,tT,oO (getLo (rfl:getI ([39,40,41]:List Nat) 2 = some 41)),oO (getHi e_fn (rfl:getI ([39,40,41]:List Nat) 2 = some 41)),rE e_fn (rfl:getI ([39,40,41]:List Nat) 2 = some 41),cC (QoH h5),bT h6,hW 8,hH (.nilB 2 2 4)]
    ·obtain ⟨r4,h7,h⟩:=Qae h
     rcases Qag h with ⟨h8,h⟩|⟨h8,h⟩
     ·obtain rfl:=Option.some.inj h
      exact gr 79 [] [rp 5 hP,rp 3 (oI ((ltI r.type_ 0) = false)),nL Qai.enc x0.types,hP,hP,rp 2 (oI ((ltI r.type_ 0) = false)),oR True ((ltI r.type_ 0) = false),bF h0,nL e_fn [39,40,41],tT,oO (getLo (rfl:getI ([39,40,41]:List Nat) 0 = some 39)),oO (getHi e_fn (rfl:getI ([39,40,41]:List Nat) 0 = some 39)),rE e_fn (rfl:getI ([39,40,41]:List Nat) 0 = some 39),cC (Qdu h1),bF h2,tT,oO (getLo (rfl:getI ([39,40,41]:List Nat) 1 = some 40)),oO (getHi e_fn (rfl:getI ([39,40,41]:List Nat) 1 = some 40)),rE e_fn (rfl:getI ([39,40,41]:List Nat) 1 = some 40),cC (QmK h3),bF h4,tT,oO (getLo (rfl:getI ([39,40,41]:List Nat) 2 = some 41)),oO (getHi e_fn (rfl:getI ([39,40,41]:List Nat) 2 = some 41)),rE e_fn (rfl:getI ([39,40,41]:List Nat) 2 = some 41),cC (QoH h5),bF h6,fF,cC (QrO h7),bT h8,hW 8,hH (.nilB 2 2 4)]
     ·obtain ⟨r5,h9,h⟩:=Qae h
      obtain rfl:=Option.some.inj h
      exact gr 80 [] [rp 5 hP,rp 3 (oI ((ltI r.type_ 0) = false)),nL Qai.enc x0.types,hP,hP,rp 2 (oI ((ltI r.type_ 0) = false)),oR True ((ltI r.type_ 0) = false),bF h0,nL e_fn [39,40,41],tT,oO (getLo (rfl:getI ([39,40,41]:List Nat) 0 = some 39)),oO (getHi e_fn (rfl:getI ([39,40,41]:List Nat) 0 = some 39)),rE e_fn (rfl:getI ([39,40,41]:List Nat) 0 = some 39),cC (Qdu h1),bF h2,tT,oO (getLo (rfl:getI ([39,40,41]:List Nat) 1 = some 40)),oO (getHi e_fn (rfl:getI ([39,40,41]:List Nat) 1 = some 40)),rE e_fn (rfl:getI ([39,40,41]:List Nat) 1 = some 40),cC (QmK h3),bF h4,tT,oO (getLo (rfl:getI ([39,40,41]:List Nat) 2 = some 41)),oO (getHi e_fn (rfl:getI ([39,40,41]:List Nat) 2 = some 41)),rE e_fn (rfl:getI ([39,40,41]:List Nat) 2 = some 41),cC (QoH h5),bF h6,fF,cC (QrO h7),bF h8,hH (.draw 5 []),cC (QtW h9)]
def Qoc (Γ:Gam) (rv:Int × Bool × Qah × Int) (cf:Cf):Prop:=Go Tryz.prog Tryz.f28 [] Γ (.tup [.one (lI rv.1),.one (.bool rv.2.1),.agg [.bool rv.2.2.1.rest_,lI rv.2.2.1.depart,lL 4 rv.2.2.1.times Qao.enc,lI rv.2.2.1.end_,lI rv.2.2.1.miles],.one (lI rv.2.2.2)]) [] cf
def QlE (Γ:Gam) (rv:Int × Bool × Qah × Int) (x0:Qad) (r:Qac) (now:Int) (r1:Qah × QaE × Int) (ready:Int) (k:Int) (v:Int):Prop:=Qoc Γ rv ⟨[.c 1012,.l 1012,.b 0,.c 127],⟨81,[vI 2 now,vP 3 0 6,vP 8 1 5,vP 10 2 5,vI 13 ready,vI 14 k,vL 41 2 r.visits Qab.enc,vI 42 (lenI r.visits),vI 43 v],[oX 6 30 (Qad.enc x0),oX 5 60 [.bool false,lI 0,.nils,lI 0,lI 0],oX 5 60 (Qah.enc r1.1)]⟩⟩
def QkH (Γ:Gam) (rv:Int × Bool × Qah × Int) (x0:Qad) (r:Qac) (now:Int) (r1:Qah × QaE × Int) (ready1:Int) (k1:Int):Prop:=Qoc Γ rv ⟨[.c 127],⟨81,[vI 2 now,vP 8 0 5,vP 10 1 5,vI 13 ready1,vI 14 k1],[oX 5 60 [.bool false,lI 0,.nils,lI 0,lI 0],oX 5 60 (Qah.enc r1.1)]⟩⟩
theorem QpO (Γ:Gam) (rv:Int × Bool × Qah × Int) {x0 r now r1} {s:Int × Int × Int} {e:(Int × Int) ⊕ (Int × Bool × Qah × Int)} (h:loopF (fun s=>Qcf x0 r now r1 s.1 s.2.1 s.2.2) s = some e) (hD:sel e (fun e=>QkH Γ rv x0 r now r1 e.1 e.2) (fun e=>e = rv)):QlE Γ rv x0 r now r1 s.1 s.2.1 s.2.2:=by
 refine QaD (C:=fun (s:Int × Int × Int)=>QlE Γ rv x0 r now r1 s.1 s.2.1 s.2.2) (D:=fun (e:(Int × Int) ⊕ (Int × Bool × Qah × Int))=>sel e (fun e=>QkH Γ rv x0 r now r1 e.1 e.2) (fun e=>e = rv)) ?_ h hD
 clear h hD s e
 rintro ⟨ready,k,v⟩ z_ h hI hE
 replace h:Qcf x0 r now r1 ready k v = _:=h
 unfold Qcf at h
 rcases Qag h with ⟨h3,h⟩|⟨h3,h⟩
 ·obtain ⟨x2,h4,h⟩:=Qae h
  rcases Qag h with ⟨h5,h⟩|⟨h5,h⟩
  ·obtain rfl:=(hE _ (oJ h):_ = rv)
   exact gr 15 [] [bT h3,cE Qab.enc h4,bT h5,hH (.draw 4 [])]
  ·obtain ⟨r2,h6,h⟩:=Qae h
   obtain ⟨x3,h7,h⟩:=Qae h
   exact gn 22 [2,3,8,10,13,14,41,42,43] [0,1,2] [bT h3,cE Qab.enc h4,bF h5,cC (Qps h6),hH (.draw 10 []),cE Qao.enc h7] (hI _ (oJ h))
 ·exact gn 5 [2,8,10,13,14] [1,2] [bF h3] (hE _ (oJ h))
theorem Qha {x0 r now} {rv:Int × Bool × Qah × Int} (h:Qes x0 r now = some rv):AFn Tryz.prog 28 [.agg (Qad.enc x0),.agg (Qac.enc r),.one (lI now)] [] (.tup [.one (lI rv.1),.one (.bool rv.2.1),.agg [.bool rv.2.2.1.rest_,lI rv.2.2.1.depart,lL 4 rv.2.2.1.times Qao.enc,lI rv.2.2.1.end_,lI rv.2.2.1.miles],.one (lI rv.2.2.2)]) []:=by
 refine QaL Tryz.func28 (by kernel_rfl) (by kernel_rfl) (fun Γ=>?_)
 unfold Qes at h
 obtain ⟨r1,h0,h⟩:=Qae h
 rcases Qag h with ⟨h1,h⟩|⟨h1,h⟩
 ·obtain rfl:=Option.some.inj h
  exact gr 10 [] [cC (Qon h0),bT h1,hW 8,hH (.nilB 2 2 4)]
 ·obtain ⟨x1,h2,h⟩:=Qae h
  obtain ⟨e0,h8,h⟩:=Qae h
  refine gn 18 [2,3,8,10,13,14,41,42,43] [0,2,3] [cC (Qon h0),bF h1,hH (.draw 11 []),cE Qai.enc h2,nL Qab.enc r.visits] (QpO Γ rv h8 ?_)
  rcases e0 with e0|e0
  ·obtain ⟨ready1,k1⟩:=e0
   replace h:(some (k1,((gtI k1 0) && (ltI ready1 now)),r1.1,0):Option (Int × Bool × Qah × Int)) = some _:=h
   obtain rfl:=Option.some.inj h
   exact gr 2 [] [hH (.draw 11 []),rp 4 hP,rp 2 (oI ((gtI k1 0) = true)),oR True ((gtI k1 0) = true)]
  ·obtain ⟨r3,rfl⟩:∃ x,x = e0:=⟨_,rfl⟩
   replace h:(some r3:Option (Int × Bool × Qah × Int)) = some _:=h
   exact Option.some.inj h
theorem QaB {x0 r now} {rv:Int × Int} (h:Qfq x0 r now = some rv):AFn Tryz.prog 11 [.agg (Qad.enc x0),.agg (Qac.enc r),.one (lI now)] [] (.tup [.one (lI rv.1),.one (lI rv.2)]) []:=by
 refine QaL Tryz.func11 (by kernel_rfl) (by kernel_rfl) (fun Γ=>?_)
 unfold Qfq at h
 obtain ⟨r1,h0,h⟩:=Qae h
 rcases Qag h with ⟨h1,h⟩|⟨h1,h⟩
 ·obtain ⟨r2,h2,h⟩:=Qae h
  obtain rfl:=Option.some.inj h
  exact gr 11 [] [cC (Qlq h0),nF h1,cC (Qha h2)]
 ·obtain rfl:=Option.some.inj h
  exact gr 8 [] [cC (Qlq h0),nT h1]
theorem QhB {s0} {rv:List Qab} (h:Qby s0 = some rv):AFn Tryz.prog 57 [.one (lL 2 s0 Qab.enc)] [] (one (lL 2 rv Qab.enc)) []:=by
 refine QaL Tryz.func57 (by kernel_rfl) (by kernel_rfl) (fun Γ=>?_)
 unfold Qby at h
 rcases Qag h with ⟨h0,h⟩|⟨h0,h⟩
 ·obtain ⟨hx,h⟩:=Qw2 h
  refine gn 5 [0,4] [] [hH (.skip)] (cf':=⟨[.c 13,.c 7],⟨8,[vL 0 2 s0 Qab.enc,(4,.boo)],[]⟩⟩) (QA1 4 rfl ?_ ?_)
  ·replace h:=hx
   obtain rfl:=Option.some.inj h
   exact gr 3 [] [tT,hW 3,hH (.nilS 2 0 2)]
  ·obtain ⟨h1,h⟩:=Qas h
   obtain rfl:=Option.some.inj h
   exact gr 4 [] [fF,aN Qab.enc h1,hW 1,hH (.frz 0),rp 2 (eL s0 Qab.enc)]
 ·obtain ⟨h2,h⟩:=Qas h
  obtain rfl:=Option.some.inj h
  exact gr 9 [] [oO (neE Qab.enc h0),fF,hH (.bit false),aN Qab.enc h2,hW 1,hH (.frz 0),rp 2 (eL s0 Qab.enc)]
def QqJ (Γ:Gam) (rv:Qac) (cf:Cf):Prop:=Go Tryz.prog Tryz.f31 [] Γ (gG [lI rv.type_,lI rv.start,lL 1 rv.rests QaI,lL 2 rv.visits Qab.enc]) [] cf
def Qob (Γ:Gam) (rv:Qac) (r:Qac) (k:Int) (finished:Bool) (s0:Qah) (l:List Qab) (r1:List Qab) (l1:List Bool) (v:Int):Prop:=QqJ Γ rv ⟨[.c 244,.l 244,.b 0,.c 31],⟨47,[vI 1 k,vB 2 finished,vP 8 0 4,vP 9 1 4,vO 10 2 1 l1 QaI,vL 27 4 s0.times Qao.enc,vI 28 (lenI s0.times),vI 29 v],[oX 4 34 [lI 0,lI 0,.nils,.nils],oX 4 34 [lI r.type_,lI r.start,.nils,lL 2 r1 Qab.enc],oS 1 4 l1 QaI]⟩⟩
def Qm5 (Γ:Gam) (rv:Qac) (r:Qac) (k:Int) (finished:Bool) (s0:Qah) (l:List Qab) (r1:List Qab) (l2:List Bool):Prop:=QqJ Γ rv ⟨[.c 31],⟨47,[vI 1 k,vB 2 finished,vP 8 0 4,vP 9 1 4,vO 10 2 1 l2 QaI],[oX 4 34 [lI 0,lI 0,.nils,.nils],oX 4 34 [lI r.type_,lI r.start,.nils,lL 2 r1 Qab.enc],oS 1 4 l2 QaI]⟩⟩
theorem Qrl (Γ:Gam) (rv:Qac) {r k finished s0 l r1} {s:List Bool × Int} {e:List Bool} (h:loopF (fun s=>QhE r k finished s0 l r1 s.1 s.2) s = some e) (hD:Qm5 Γ rv r k finished s0 l r1 e):Qob Γ rv r k finished s0 l r1 s.1 s.2:=by
 refine QaD (C:=fun (s:List Bool × Int)=>Qob Γ rv r k finished s0 l r1 s.1 s.2) (D:=fun (e:List Bool)=>Qm5 Γ rv r k finished s0 l r1 e) ?_ h hD
 clear h hD s e
 rintro ⟨l1,v⟩ z_ h hI hE
 replace h:QhE r k finished s0 l r1 l1 v = _:=h
 unfold QhE at h
 rcases Qag h with ⟨h2,h⟩|⟨h2,h⟩
 ·obtain ⟨x0,h3,h⟩:=Qae h
  obtain ⟨h4,h⟩:=Qas h
  exact gn 13 [1,2,8,9,10,27,28,29] [0,1,5] [bT h2,cE Qao.enc h3,oO (Eq.refl ([x0.rest_].map QaI).length),aO QaI h4] (hI _ (oJ h))
 ·exact gn 5 [1,2,8,9,10] [0,1,2] [bF h2] (hE _ (oJ h))
theorem Qs6 {r k finished s0} {rv:Qac} (h:QlD r k finished s0 = some rv):AFn Tryz.prog 31 [.agg (Qac.enc r),.one (lI k),.one (.bool finished),.agg (Qah.enc s0)] [] (gG [lI rv.type_,lI rv.start,lL 1 rv.rests QaI,lL 2 rv.visits Qab.enc]) []:=by
 refine QaL Tryz.func31 (by kernel_rfl) (by kernel_rfl) (fun Γ=>?_)
 unfold QlD at h
 obtain ⟨l,h0,h⟩:=Qae h
 obtain ⟨r1,h1,h⟩:=Qae h
 obtain ⟨e0,h5,h⟩:=Qae h
 refine gn 11 [1,2,8,9,10,27,28,29] [2,3,4] [hH (.draw 11 []),hH (.rows (l.map Qab.enc)),oO (sl1 h0),oO (sl2 h0),oO (sl3 Qab.enc h0),oO (Int.le_refl k),oO (sl3 Qab.enc h0),oO (sl6 Qab.enc h0),cC (QhB h1),nL Qao.enc s0.times] (Qrl Γ rv h5 ?_)
 obtain ⟨l2,rfl⟩:∃ x,x = e0:=⟨_,rfl⟩
 replace h:(br finished (bnd (slcI l2 0 (addK .i64 k 1)) fun l3=>some (Qac.mk r.type_ r.start l3 r1)) (bnd (slcI l2 0 k) fun l4=>some (Qac.mk r.type_ r.start l4 r1)):Option Qac) = some _:=h
 rcases Qag h with ⟨h6,h⟩|⟨h6,h⟩
 ·obtain ⟨l3,h7,h⟩:=Qae h
  obtain rfl:=Option.some.inj h
  exact gr 9 [] [bT h6,hW 8,hH (.frz 2),rp 2 (eL l2 QaI),hH (.rows (l3.map QaI)),oO (sl1 h7),oO (sl2 h7),oO (sl3 QaI h7),oO (Int.le_refl (addK .i64 k 1)),oO (sl3 QaI h7),oO (sl6 QaI h7)]
 ·obtain ⟨l4,h8,h⟩:=Qae h
  obtain rfl:=Option.some.inj h
  exact gr 9 [] [bF h6,hW 5,hH (.frz 2),rp 2 (eL l2 QaI),hH (.rows (l4.map QaI)),oO (sl1 h8),oO (sl2 h8),oO (sl3 QaI h8),oO (Int.le_refl k),oO (sl3 QaI h8),oO (sl6 QaI h8)]
def Qoa (Γ:Gam) (rv:List Qac × Int) (cf:Cf):Prop:=Go Tryz.prog Tryz.f14 [] Γ (.tup [.one (lL 4 rv.1 Qac.enc),.one (lI rv.2)]) [] cf
def QlB (Γ:Gam) (rv:List Qac × Int) (x0:Qad) (p:QaN) (now:Int) (l:List Qac) (v:Int):Prop:=Qoa Γ rv ⟨[.c 244,.l 244,.b 0,.c 31],⟨49,[vI 2 now,vP 3 0 6,vO 8 1 4 l Qac.enc,vL 19 4 p.routes Qac.enc,vI 20 (lenI p.routes),vI 21 v],[oX 6 30 (Qad.enc x0),oS 4 34 l Qac.enc]⟩⟩
def QkG (Γ:Gam) (rv:List Qac × Int) (x0:Qad) (p:QaN) (now:Int) (l1:List Qac):Prop:=Qoa Γ rv ⟨[.c 31],⟨49,[vO 8 0 4 l1 Qac.enc],[oS 4 34 l1 Qac.enc]⟩⟩
theorem QpN (Γ:Gam) (rv:List Qac × Int) {x0 p now} {s:List Qac × Int} {e:(List Qac) ⊕ (List Qac × Int)} (h:loopF (fun s=>QcJ x0 p now s.1 s.2) s = some e) (hD:sel e (fun e=>QkG Γ rv x0 p now e) (fun e=>e = rv)):QlB Γ rv x0 p now s.1 s.2:=by
 refine QaD (C:=fun (s:List Qac × Int)=>QlB Γ rv x0 p now s.1 s.2) (D:=fun (e:(List Qac) ⊕ (List Qac × Int))=>sel e (fun e=>QkG Γ rv x0 p now e) (fun e=>e = rv)) ?_ h hD
 clear h hD s e
 rintro ⟨l,v⟩ z_ h hI hE
 replace h:QcJ x0 p now l v = _:=h
 unfold QcJ at h
 rcases Qag h with ⟨h2,h⟩|⟨h2,h⟩
 ·obtain ⟨x1,h3,h⟩:=Qae h
  obtain ⟨r1,h4,h⟩:=Qae h
  rcases Qag h with ⟨h5,h⟩|⟨h5,h⟩
  ·obtain rfl:=(hE _ (oJ h):_ = rv)
   exact gr 17 [] [bT h2,cE Qac.enc h3,cC (Qha h4),bT h5,hW 5,hH (.nilS 6 0 4)]
  ·rcases Qag h with ⟨h6,h⟩|⟨h6,h⟩
   ·obtain ⟨r2,h7,h⟩:=Qae h
    obtain ⟨h8,h⟩:=Qas h
    exact gn 23 [2,3,8,19,20,21] [0,5] [bT h2,cE Qac.enc h3,cC (Qha h4),bF h5,bT h6,cC (Qs6 h7),oO (Eq.refl ([r2].map Qac.enc).length),aO Qac.enc h8] (hI _ (oJ h))
   ·exact gn 23 [2,3,8,19,20,21] [0,1] [bT h2,cE Qac.enc h3,cC (Qha h4),bF h5,bF h6] (hI _ (oJ h))
 ·exact gn 5 [8] [1] [bF h2] (hE _ (oJ h))
theorem Qaw {x0 p now} {rv:List Qac × Int} (h:QdK x0 p now = some rv):AFn Tryz.prog 14 [.agg (Qad.enc x0),.agg (QaN.enc p),.one (lI now)] [] (.tup [.one (lL 4 rv.1 Qac.enc),.one (lI rv.2)]) []:=by
 refine QaL Tryz.func14 (by kernel_rfl) (by kernel_rfl) (fun Γ=>?_)
 unfold QdK at h
 obtain ⟨r,h0,h⟩:=Qae h
 rcases Qag h with ⟨h1,h⟩|⟨h1,h⟩
 ·obtain ⟨e0,h9,h⟩:=Qae h
  refine gn 14 [2,3,8,19,20,21] [0,2] [cC (Qlq h0),nF h1,nL Qac.enc p.routes,hW 3,hH (.adopt 8 4 34)] (QpN Γ rv h9 ?_)
  rcases e0 with e0|e0
  ·obtain ⟨l1,rfl⟩:∃ x,x = e0:=⟨_,rfl⟩
   replace h:(some (l1,0):Option (List Qac × Int)) = some _:=h
   obtain rfl:=Option.some.inj h
   exact gr 2 [] [hW 5,hH (.frz 0),rp 3 (eL l1 Qac.enc)]
  ·obtain ⟨r3,rfl⟩:∃ x,x = e0:=⟨_,rfl⟩
   replace h:(some r3:Option (List Qac × Int)) = some _:=h
   exact Option.some.inj h
 ·obtain rfl:=Option.some.inj h
  exact gr 8 [] [cC (Qlq h0),nT h1,hW 4,hH (.nilS 6 0 4)]
def Qev (Γ:Gam) (rv:Bool) (cf:Cf):Prop:=Go Tryz.prog Tryz.f102 [] Γ (one (.bool rv)) [] cf
def QdV (Γ:Gam) (rv:Bool) (s1:List Qab) (s2:List Qab) (v:Int):Prop:=Qev Γ rv ⟨[.c 116,.l 116,.b 0,.c 15],⟨26,[vL 0 2 s1 Qab.enc,vL 1 2 s2 Qab.enc,vI 12 (lenI s1),vI 13 v],[]⟩⟩
def QdG (Γ:Gam) (rv:Bool) (s1:List Qab) (s2:List Qab):Prop:=Qev Γ rv ⟨[.c 15],⟨26,[],[]⟩⟩
theorem QgL (Γ:Gam) (rv:Bool) {s1 s2} {s:Int} {e:(Unit) ⊕ (Bool)} (h:loopF (fun s=>QbQ s1 s2 s) s = some e) (hD:sel e (fun e=>QdG Γ rv s1 s2) (fun e=>e = rv)):QdV Γ rv s1 s2 s:=by
 refine QaD (C:=fun (s:Int)=>QdV Γ rv s1 s2 s) (D:=fun (e:(Unit) ⊕ (Bool))=>sel e (fun e=>QdG Γ rv s1 s2) (fun e=>e = rv)) ?_ h hD
 clear h hD s e
 intro v z_ h hI hE
 replace h:QbQ s1 s2 v = _:=h
 unfold QbQ at h
 rcases Qag h with ⟨h1,h⟩|⟨h1,h⟩
 ·obtain ⟨x0,h2,h⟩:=Qae h
  obtain ⟨x1,h3,h⟩:=Qae h
  rcases Qag h with ⟨h4,h⟩|⟨h4,h⟩
  ·exact gn 16 [0,1,12,13] [] [bT h1,hH (.draw 9 []),cE Qab.enc h2,cE Qab.enc h3,nF h4] (hI _ (oJ h))
  ·obtain rfl:=(hE _ (oJ h):_ = rv)
   exact gr 14 [] [bT h1,hH (.draw 9 []),cE Qab.enc h2,cE Qab.enc h3,nT h4]
 ·exact gn 5 [] [] [bF h1] (hE _ (oJ h))
theorem QhC {s1 s2} {rv:Bool} (h:Qdc s1 s2 = some rv):AFn Tryz.prog 102 [.one (lL 2 s1 Qab.enc),.one (lL 2 s2 Qab.enc)] [] (one (.bool rv)) []:=by
 refine QaL Tryz.func102 (by kernel_rfl) (by kernel_rfl) (fun Γ=>?_)
 unfold Qdc at h
 rcases Qag h with ⟨h0,h⟩|⟨h0,h⟩
 ·obtain rfl:=Option.some.inj h
  exact gr 8 [] [nL Qab.enc s1,nL Qab.enc s2,bT h0]
 ·obtain ⟨e0,h5,h⟩:=Qae h
  refine gn 12 [0,1,12,13] [] [nL Qab.enc s1,nL Qab.enc s2,bF h0,nL Qab.enc s1] (QgL Γ rv h5 ?_)
  rcases e0 with e0|e0
  ·replace h:(some true:Option Bool) = some _:=h
   obtain rfl:=Option.some.inj h
   exact gr 2 [] []
  ·obtain ⟨r,rfl⟩:∃ x,x = e0:=⟨_,rfl⟩
   replace h:(some r:Option Bool) = some _:=h
   exact Option.some.inj h
theorem QeZ {l first_} {rv:Bool} (h:QfZ l first_ = some rv):AFn Tryz.prog 58 [.one (lL 2 l Qab.enc),.one (lL 2 first_ Qab.enc)] [] (one (.bool rv)) []:=by
 refine QaL Tryz.func58 (by kernel_rfl) (by kernel_rfl) (fun Γ=>?_)
 unfold QfZ at h
 rcases Qag h with ⟨h0,h⟩|⟨h0,h⟩
 ·obtain ⟨l1,h1,h⟩:=Qae h
  obtain ⟨r,h2,h⟩:=Qae h
  obtain rfl:=Option.some.inj h
  exact gr 4 [] [nL Qab.enc l,nL Qab.enc first_,rp 3 (bT h0),nL Qab.enc first_,bT h0,hH (.rows (l1.map Qab.enc)),oO (sl1 h1),oO (sl2 h1),oO (sl3 Qab.enc h1),oO (Int.le_refl (lenI first_)),oO (sl3 Qab.enc h1),oO (sl6 Qab.enc h1),bT h0,bT h0,cC (QhC h2),bT h0]
 ·obtain rfl:=Option.some.inj h
  exact gr 4 [] [nL Qab.enc l,nL Qab.enc first_,rp 7 (bF h0)]
def Qhu (Γ:Gam) (rv:Bool) (cf:Cf):Prop:=Go Tryz.prog Tryz.f103 [] Γ (one (.bool rv)) [] cf
def Qgn (Γ:Gam) (rv:Bool) (s1:List Bool) (s2:List Bool) (v:Int):Prop:=Qhu Γ rv ⟨[.c 116,.l 116,.b 0,.c 15],⟨26,[vL 0 1 s1 QaI,vL 1 1 s2 QaI,vI 12 (lenI s1),vI 13 v],[]⟩⟩
def QfX (Γ:Gam) (rv:Bool) (s1:List Bool) (s2:List Bool):Prop:=Qhu Γ rv ⟨[.c 15],⟨26,[],[]⟩⟩
theorem Qks (Γ:Gam) (rv:Bool) {s1 s2} {s:Int} {e:(Unit) ⊕ (Bool)} (h:loopF (fun s=>Qdl s1 s2 s) s = some e) (hD:sel e (fun e=>QfX Γ rv s1 s2) (fun e=>e = rv)):Qgn Γ rv s1 s2 s:=by
 refine QaD (C:=fun (s:Int)=>Qgn Γ rv s1 s2 s) (D:=fun (e:(Unit) ⊕ (Bool))=>sel e (fun e=>QfX Γ rv s1 s2) (fun e=>e = rv)) ?_ h hD
 clear h hD s e
 intro v z_ h hI hE
 replace h:Qdl s1 s2 v = _:=h
 unfold Qdl at h
 rcases Qag h with ⟨h1,h⟩|⟨h1,h⟩
 ·obtain ⟨x0,h2,h⟩:=Qae h
  obtain ⟨x1,h3,h⟩:=Qae h
  rcases Qag h with ⟨h4,h⟩|⟨h4,h⟩
  ·exact gn 16 [0,1,12,13] [] [bT h1,hH (.draw 9 []),cE QaI h2,cE QaI h3,nF h4] (hI _ (oJ h))
  ·obtain rfl:=(hE _ (oJ h):_ = rv)
   exact gr 14 [] [bT h1,hH (.draw 9 []),cE QaI h2,cE QaI h3,nT h4]
 ·exact gn 5 [] [] [bF h1] (hE _ (oJ h))
theorem Qmh {s1 s2} {rv:Bool} (h:QfU s1 s2 = some rv):AFn Tryz.prog 103 [.one (lL 1 s1 QaI),.one (lL 1 s2 QaI)] [] (one (.bool rv)) []:=by
 refine QaL Tryz.func103 (by kernel_rfl) (by kernel_rfl) (fun Γ=>?_)
 unfold QfU at h
 rcases Qag h with ⟨h0,h⟩|⟨h0,h⟩
 ·obtain rfl:=Option.some.inj h
  exact gr 8 [] [nL QaI s1,nL QaI s2,bT h0]
 ·obtain ⟨e0,h5,h⟩:=Qae h
  refine gn 12 [0,1,12,13] [] [nL QaI s1,nL QaI s2,bF h0,nL QaI s1] (Qks Γ rv h5 ?_)
  rcases e0 with e0|e0
  ·replace h:(some true:Option Bool) = some _:=h
   obtain rfl:=Option.some.inj h
   exact gr 2 [] []
  ·obtain ⟨r,rfl⟩:∃ x,x = e0:=⟨_,rfl⟩
   replace h:(some r:Option Bool) = some _:=h
   exact Option.some.inj h
theorem Qjt {l first_} {rv:Bool} (h:Qio l first_ = some rv):AFn Tryz.prog 59 [.one (lL 1 l QaI),.one (lL 1 first_ QaI)] [] (one (.bool rv)) []:=by
 refine QaL Tryz.func59 (by kernel_rfl) (by kernel_rfl) (fun Γ=>?_)
 unfold Qio at h
 rcases Qag h with ⟨h0,h⟩|⟨h0,h⟩
 ·obtain ⟨l1,h1,h⟩:=Qae h
  obtain ⟨r,h2,h⟩:=Qae h
  obtain rfl:=Option.some.inj h
  exact gr 4 [] [nL QaI l,nL QaI first_,rp 3 (bT h0),nL QaI first_,bT h0,hH (.rows (l1.map QaI)),oO (sl1 h1),oO (sl2 h1),oO (sl3 QaI h1),oO (Int.le_refl (lenI first_)),oO (sl3 QaI h1),oO (sl6 QaI h1),bT h0,bT h0,cC (Qmh h2),bT h0]
 ·obtain rfl:=Option.some.inj h
  exact gr 4 [] [nL QaI l,nL QaI first_,rp 7 (bF h0)]
theorem QlC {r b} {rv:Bool} (h:QoK r b = some rv):AFn Tryz.prog 33 [.agg (Qac.enc r),.agg (Qac.enc b)] [] (one (.bool rv)) []:=by
 refine QaL Tryz.func33 (by kernel_rfl) (by kernel_rfl) (fun Γ=>?_)
 unfold QoK at h
 rcases Qag h with ⟨h0,h⟩|⟨h0,h⟩
 ·obtain rfl:=Option.some.inj h
  exact gr 8 [] [rp 6 hP,rp 4 (oI ((neI r.type_ b.type_) = false)),oR True ((neI r.type_ b.type_) = false),rp 7 (bT h0),rp 8 tT]
 ·obtain ⟨r1,h1,h⟩:=Qae h
  rcases Qag h with ⟨h2,h⟩|⟨h2,h⟩
  ·obtain ⟨r2,h3,h⟩:=Qae h
   rcases Qag h with ⟨h4,h⟩|⟨h4,h⟩
   ·obtain rfl:=Option.some.inj h
    exact gr 11 [] [rp 6 hP,rp 4 (oI ((neI r.type_ b.type_) = false)),oR True ((neI r.type_ b.type_) = false),rp 5 (bF h0),cC (QeZ h1),bF h0,bF h0,rp 5 (nF h2),cC (Qjt h3),nF h2,nF h2,nF h4,nL QaI b.rests,nL Qab.enc b.visits,hP,hP,hP,rp 2 (oI ((!(gtI (lenI b.rests) (lenI b.visits))) = false)),nL Qab.enc r.visits,hP,hP,hP,rp 2 (oI ((!(gtI (lenI b.rests) (lenI b.visits))) = false)),nL Qab.enc b.visits,rp 5 hP,rp 3 (oI ((!(gtI (lenI b.rests) (lenI b.visits))) = false)),rp 2 (oI (((!(gtI (lenI b.rests) (lenI b.visits))) = false)∧(eqI (lenI r.visits) (lenI b.visits)) = true)),nL QaI r.rests,hP,hP,hP,rp 2 (oI (((!(gtI (lenI b.rests) (lenI b.visits))) = false)∧(eqI (lenI r.visits) (lenI b.visits)) = true)),nL QaI b.rests,rp 4 hP,rp 2 (oI (((!(gtI (lenI b.rests) (lenI b.visits))) = false)∧(eqI (lenI r.visits) (lenI b.visits)) = true)),oI ((!(gtI (lenI b.rests) (lenI b.visits))) = false),oI (((!(gtI (lenI b.rests) (lenI b.visits))) = false)∧(eqI (lenI r.visits) (lenI b.visits)) = true),oR True ((!(gtI (lenI b.rests) (lenI b.visits))) = false)]
   ·obtain rfl:=Option.some.inj h
    exact gr 8 [] [rp 6 hP,rp 4 (oI ((neI r.type_ b.type_) = false)),oR True ((neI r.type_ b.type_) = false),rp 5 (bF h0),cC (QeZ h1),bF h0,bF h0,rp 5 (nF h2),cC (Qjt h3),nF h2,nF h2,nT h4]
  ·obtain rfl:=Option.some.inj h
   exact gr 8 [] [rp 6 hP,rp 4 (oI ((neI r.type_ b.type_) = false)),oR True ((neI r.type_ b.type_) = false),rp 5 (bF h0),cC (QeZ h1),bF h0,bF h0,rp 7 (nT h2),tT]
theorem Qm6 {w c} {rv:Bool} (h:QmV w c = some rv):AFn Tryz.prog 62 [.agg (Qab.enc w),.one (.ip (Qab.enc c) 0)] [] (one (.bool rv)) []:=by
 refine QaL Tryz.func62 (by kernel_rfl) (by kernel_rfl) (fun Γ=>?_)
 unfold QmV at h
 obtain rfl:=Option.some.inj h
 exact gr 4 [] []
def QcR (Γ:Gam) (rv:Int) (cf:Cf):Prop:=Go Tryz.prog Tryz.f104 [] Γ (one (lI rv)) [] cf
def Qcw (Γ:Gam) (rv:Int) (s0:List Qab) (c:Qab) (v:Int):Prop:=QcR Γ rv ⟨[.c 52,.l 52,.b 0,.c 7],⟨19,[vL 0 2 s0 Qab.enc,(1,one (.fn (.func 62) [.ip (Qab.enc c) 0])),vI 7 (lenI s0),vI 8 v],[]⟩⟩
def Qcs (Γ:Gam) (rv:Int) (s0:List Qab) (c:Qab):Prop:=QcR Γ rv ⟨[.c 7],⟨19,[],[]⟩⟩
theorem Qer (Γ:Gam) (rv:Int) {s0 c} {s:Int} {e:(Unit) ⊕ (Int)} (h:loopF (fun s=>Qa8 s0 c s) s = some e) (hD:sel e (fun e=>Qcs Γ rv s0 c) (fun e=>e = rv)):Qcw Γ rv s0 c s:=by
 refine QaD (C:=fun (s:Int)=>Qcw Γ rv s0 c s) (D:=fun (e:(Unit) ⊕ (Int))=>sel e (fun e=>Qcs Γ rv s0 c) (fun e=>e = rv)) ?_ h hD
 clear h hD s e
 intro v z_ h hI hE
 replace h:Qa8 s0 c v = _:=h
 unfold Qa8 at h
 rcases Qag h with ⟨h0,h⟩|⟨h0,h⟩
 ·obtain ⟨x0,h1,h⟩:=Qae h
  obtain ⟨r,h2,h⟩:=Qae h
  rcases Qag h with ⟨h3,h⟩|⟨h3,h⟩
  ·obtain rfl:=(hE _ (oJ h):_ = rv)
   exact gr 14 [] [bT h0,cE Qab.enc h1,cC (Qm6 h2),bT h3]
  ·exact gn 16 [0,1,7,8] [] [bT h0,cE Qab.enc h1,cC (Qm6 h2),bF h3] (hI _ (oJ h))
 ·exact gn 5 [] [] [bF h0] (hE _ (oJ h))
theorem QeY {s0 c} {rv:Int} (h:QbM s0 c = some rv):AFn Tryz.prog 104 [.one (lL 2 s0 Qab.enc),.one (.fn (.func 62) [.ip (Qab.enc c) 0])] [] (one (lI rv)) []:=by
 refine QaL Tryz.func104 (by kernel_rfl) (by kernel_rfl) (fun Γ=>?_)
 unfold QbM at h
 obtain ⟨e0,h4,h⟩:=Qae h
 refine gn 7 [0,1,7,8] [] [nL Qab.enc s0] (Qer Γ rv h4 ?_)
 rcases e0 with e0|e0
 ·replace h:(some (-1):Option Int) = some _:=h
  obtain rfl:=Option.some.inj h
  exact gr 2 [] []
 ·obtain ⟨r1,rfl⟩:∃ x,x = e0:=⟨_,rfl⟩
  replace h:(some r1:Option Int) = some _:=h
  exact Option.some.inj h
theorem Qep {s0 c} {rv:Bool} (h:Qbv s0 c = some rv):AFn Tryz.prog 60 [.one (lL 2 s0 Qab.enc),.one (.fn (.func 62) [.ip (Qab.enc c) 0])] [] (one (.bool rv)) []:=by
 refine QaL Tryz.func60 (by kernel_rfl) (by kernel_rfl) (fun Γ=>?_)
 unfold Qbv at h
 obtain ⟨r,h0,h⟩:=Qae h
 obtain rfl:=Option.some.inj h
 exact gr 4 [] [cC (QeY h0)]
theorem QoM {v c} {rv:Bool} (h:QoL v c = some rv):AFn Tryz.prog 61 [.agg (Qab.enc v),.one (.ip (Qac.enc c) 0)] [] (one (.bool rv)) []:=by
 refine QaL Tryz.func61 (by kernel_rfl) (by kernel_rfl) (fun Γ=>?_)
 unfold QoL at h
 obtain ⟨r,h0,h⟩:=Qae h
 obtain rfl:=Option.some.inj h
 exact gr 4 [] [cC (Qep h0)]
def Qc2 (Γ:Gam) (rv:Int) (cf:Cf):Prop:=Go Tryz.prog Tryz.f104 [] Γ (one (lI rv)) [] cf
def QcI (Γ:Gam) (rv:Int) (s0:List Qab) (c:Qac) (v:Int):Prop:=Qc2 Γ rv ⟨[.c 52,.l 52,.b 0,.c 7],⟨19,[vL 0 2 s0 Qab.enc,(1,one (.fn (.func 61) [.ip (Qac.enc c) 0])),vI 7 (lenI s0),vI 8 v],[]⟩⟩
def QcC (Γ:Gam) (rv:Int) (s0:List Qab) (c:Qac):Prop:=Qc2 Γ rv ⟨[.c 7],⟨19,[],[]⟩⟩
theorem QeT (Γ:Gam) (rv:Int) {s0 c} {s:Int} {e:(Unit) ⊕ (Int)} (h:loopF (fun s=>Qbe s0 c s) s = some e) (hD:sel e (fun e=>QcC Γ rv s0 c) (fun e=>e = rv)):QcI Γ rv s0 c s:=by
 refine QaD (C:=fun (s:Int)=>QcI Γ rv s0 c s) (D:=fun (e:(Unit) ⊕ (Int))=>sel e (fun e=>QcC Γ rv s0 c) (fun e=>e = rv)) ?_ h hD
 clear h hD s e
 intro v z_ h hI hE
 replace h:Qbe s0 c v = _:=h
 unfold Qbe at h
 rcases Qag h with ⟨h0,h⟩|⟨h0,h⟩
 ·obtain ⟨x0,h1,h⟩:=Qae h
  obtain ⟨r,h2,h⟩:=Qae h
  rcases Qag h with ⟨h3,h⟩|⟨h3,h⟩
  ·obtain rfl:=(hE _ (oJ h):_ = rv)
   exact gr 14 [] [bT h0,cE Qab.enc h1,cC (QoM h2),bT h3]
  ·exact gn 16 [0,1,7,8] [] [bT h0,cE Qab.enc h1,cC (QoM h2),bF h3] (hI _ (oJ h))
 ·exact gn 5 [] [] [bF h0] (hE _ (oJ h))
theorem Qfp {s0 c} {rv:Int} (h:QbT s0 c = some rv):AFn Tryz.prog 104 [.one (lL 2 s0 Qab.enc),.one (.fn (.func 61) [.ip (Qac.enc c) 0])] [] (one (lI rv)) []:=by
 refine QaL Tryz.func104 (by kernel_rfl) (by kernel_rfl) (fun Γ=>?_)
 unfold QbT at h
 obtain ⟨e0,h4,h⟩:=Qae h
 refine gn 7 [0,1,7,8] [] [nL Qab.enc s0] (QeT Γ rv h4 ?_)
 rcases e0 with e0|e0
 ·replace h:(some (-1):Option Int) = some _:=h
  obtain rfl:=Option.some.inj h
  exact gr 2 [] []
 ·obtain ⟨r1,rfl⟩:∃ x,x = e0:=⟨_,rfl⟩
  replace h:(some r1:Option Int) = some _:=h
  exact Option.some.inj h
theorem QeS {s0 c} {rv:Bool} (h:QbK s0 c = some rv):AFn Tryz.prog 60 [.one (lL 2 s0 Qab.enc),.one (.fn (.func 61) [.ip (Qac.enc c) 0])] [] (one (.bool rv)) []:=by
 refine QaL Tryz.func60 (by kernel_rfl) (by kernel_rfl) (fun Γ=>?_)
 unfold QbK at h
 obtain ⟨r,h0,h⟩:=Qae h
 obtain rfl:=Option.some.inj h
 exact gr 4 [] [cC (Qfp h0)]
theorem QqK {a b} {rv:Bool} (h:Qrm a b = some rv):AFn Tryz.prog 34 [.agg (Qac.enc a),.agg (Qac.enc b)] [] (one (.bool rv)) []:=by
 refine QaL Tryz.func34 (by kernel_rfl) (by kernel_rfl) (fun Γ=>?_)
 unfold Qrm at h
 obtain ⟨r,h0,h⟩:=Qae h
 obtain rfl:=Option.some.inj h
 exact gr 4 [] [cC (QeS h0)]
def Qlp (Γ:Gam) (rv:Int) (cf:Cf):Prop:=Go Tryz.prog Tryz.f18 [] Γ (one (lI rv)) [] cf
def Qn9 (Γ:Gam) (rv:Int) (p:QaN) (l:List Qac) (v:Int) (x0:Qac) (n:Int) (v1:Int):Prop:=Qlp Γ rv ⟨[.c 54068,.l 54068,.b 2,.c 6759,.b 1,.c 423,.l 52,.b 0,.c 7],⟨37,[vP 2 0 2,vP 6 1 4,vI 7 n,vL 10 4 l Qac.enc,vI 11 (lenI l),vI 12 v,vL 17 4 p.routes Qac.enc,vI 18 (lenI p.routes),vI 19 v1],[oX 2 45 (QaN.enc p),oX 4 34 (Qac.enc x0)]⟩⟩
def Qm4 (Γ:Gam) (rv:Int) (p:QaN) (l:List Qac) (v:Int) (x0:Qac) (n1:Int):Prop:=Qlp Γ rv ⟨[.c 6759,.b 1,.c 423,.l 52,.b 0,.c 7],⟨37,[vP 2 0 2,vI 7 n1,vL 10 4 l Qac.enc,vI 11 (lenI l),vI 12 v],[oX 2 45 (QaN.enc p)]⟩⟩
def Qn8 (Γ:Gam) (rv:Int) (p:QaN) (l:List Qac) (v:Int):Prop:=Qlp Γ rv ⟨[.c 52,.l 52,.b 0,.c 7],⟨37,[vP 2 0 2,vL 10 4 l Qac.enc,vI 11 (lenI l),vI 12 v],[oX 2 45 (QaN.enc p)]⟩⟩
def Qm3 (Γ:Gam) (rv:Int) (p:QaN) (l:List Qac):Prop:=Qlp Γ rv ⟨[.c 7],⟨37,[],[]⟩⟩
theorem Qrk (Γ:Gam) (rv:Int) {p l v x0} {s:Int × Int} {e:(Int) ⊕ (Int)} (h:loopF (fun s=>Qjr p l v x0 s.1 s.2) s = some e) (hD:sel e (fun e=>Qm4 Γ rv p l v x0 e) (fun e=>e = rv)):Qn9 Γ rv p l v x0 s.1 s.2:=by
 refine QaD (C:=fun (s:Int × Int)=>Qn9 Γ rv p l v x0 s.1 s.2) (D:=fun (e:(Int) ⊕ (Int))=>sel e (fun e=>Qm4 Γ rv p l v x0 e) (fun e=>e = rv)) ?_ h hD
 clear h hD s e
 rintro ⟨n,v1⟩ z_ h hI hE
 replace h:Qjr p l v x0 n v1 = _:=h
 unfold Qjr at h
 rcases Qag h with ⟨h2,h⟩|⟨h2,h⟩
 ·obtain ⟨x1,h3,h⟩:=Qae h
  obtain ⟨r,h4,h⟩:=Qae h
  rcases Qag h with ⟨h5,h⟩|⟨h5,h⟩
  ·exact gn 18 [2,6,7,10,11,12,17,18,19] [0,1] [bT h2,cE Qac.enc h3,cC (QlC h4),bT h5] (hI _ (oJ h))
  ·obtain ⟨r1,h6,h⟩:=Qae h
   rcases Qag h with ⟨h7,h⟩|⟨h7,h⟩
   ·obtain rfl:=(hE _ (oJ h):_ = rv)
    exact gr 18 [] [bT h2,cE Qac.enc h3,cC (QlC h4),bF h5,cC (QqK h6),bT h7]
   ·exact gn 21 [2,6,7,10,11,12,17,18,19] [0,1] [bT h2,cE Qac.enc h3,cC (QlC h4),bF h5,cC (QqK h6),bF h7] (hI _ (oJ h))
 ·exact gn 5 [2,7,10,11,12] [0] [bF h2] (hE _ (oJ h))
theorem Qrj (Γ:Gam) (rv:Int) {p l} {s:Int} {e:(Unit) ⊕ (Int)} (h:loopF (fun s=>Qjq p l s) s = some e) (hD:sel e (fun e=>Qm3 Γ rv p l) (fun e=>e = rv)):Qn8 Γ rv p l s:=by
 refine QaD (C:=fun (s:Int)=>Qn8 Γ rv p l s) (D:=fun (e:(Unit) ⊕ (Int))=>sel e (fun e=>Qm3 Γ rv p l) (fun e=>e = rv)) ?_ h hD
 clear h hD s e
 intro v z_ h hI hE
 replace h:Qjq p l v = _:=h
 unfold Qjq at h
 rcases Qag h with ⟨h0,h⟩|⟨h0,h⟩
 ·obtain ⟨x0,h1,h⟩:=Qae h
  obtain ⟨e0,h8,h⟩:=Qae h
  refine gn 16 [2,6,7,10,11,12,17,18,19] [0,1] [bT h0,cE Qac.enc h1,nL Qac.enc p.routes] (Qrk Γ rv h8 ?_)
  rcases e0 with e0|e0
  ·obtain ⟨n1,rfl⟩:∃ x,x = e0:=⟨_,rfl⟩
   replace h:(br (neI n1 1) (some (.inr (.inr 31))) (some (.inl (addK .i64 v 1))):Option ((Int) ⊕ ((Unit) ⊕ (Int)))) = some _:=h
   rcases Qag h with ⟨h9,h⟩|⟨h9,h⟩
   ·obtain rfl:=(hE _ (oJ h):_ = rv)
    exact gr 5 [] [bT h9]
   ·exact gn 7 [2,10,11,12] [0] [bF h9] (hI _ (oJ h))
  ·obtain ⟨r2,rfl⟩:∃ x,x = e0:=⟨_,rfl⟩
   replace h:(some (.inr (.inr r2)):Option ((Int) ⊕ ((Unit) ⊕ (Int)))) = some _:=h
   exact (hE _ (oJ h):_ = rv)
 ·exact gn 5 [] [] [bF h0] (hE _ (oJ h))
theorem QhD {p l} {rv:Int} (h:QnR p l = some rv):AFn Tryz.prog 18 [.agg (QaN.enc p),.one (lL 4 l Qac.enc)] [] (one (lI rv)) []:=by
 refine QaL Tryz.func18 (by kernel_rfl) (by kernel_rfl) (fun Γ=>?_)
 unfold QnR at h
 obtain ⟨e1,h10,h⟩:=Qae h
 refine gn 7 [2,10,11,12] [0] [nL Qac.enc l] (Qrj Γ rv h10 ?_)
 rcases e1 with e1|e1
 ·replace h:(some 0:Option Int) = some _:=h
  obtain rfl:=Option.some.inj h
  exact gr 2 [] []
 ·obtain ⟨r3,rfl⟩:∃ x,x = e1:=⟨_,rfl⟩
  replace h:(some r3:Option Int) = some _:=h
  exact Option.some.inj h
def Qlo (Γ:Gam) (rv:Int) (cf:Cf):Prop:=Go Tryz.prog Tryz.f20 [] Γ (one (lI rv)) [] cf
def Qn7 (Γ:Gam) (rv:Int) (l:List Qac) (v:Int) (x0:Qac) (set_1:Int) (v1:Int):Prop:=Qlo Γ rv ⟨[.c 29900,.l 29900,.b 2,.b 1,.c 935,.l 116,.b 0,.c 15],⟨37,[vI 3 set_1,vL 8 4 l Qac.enc,vI 9 (lenI l),vI 10 v,vL 15 2 x0.visits Qab.enc,vI 16 (lenI x0.visits),vI 17 v1],[]⟩⟩
def Qm2 (Γ:Gam) (rv:Int) (l:List Qac) (v:Int) (x0:Qac) (set_2:Int):Prop:=Qlo Γ rv ⟨[.b 1,.c 935,.l 116,.b 0,.c 15],⟨37,[vI 3 set_2,vL 8 4 l Qac.enc,vI 9 (lenI l),vI 10 v],[]⟩⟩
def Qn6 (Γ:Gam) (rv:Int) (l:List Qac) (set_:Int) (v:Int):Prop:=Qlo Γ rv ⟨[.c 116,.l 116,.b 0,.c 15],⟨37,[vI 3 set_,vL 8 4 l Qac.enc,vI 9 (lenI l),vI 10 v],[]⟩⟩
def Qm1 (Γ:Gam) (rv:Int) (l:List Qac) (set_3:Int):Prop:=Qlo Γ rv ⟨[.c 15],⟨37,[vI 3 set_3],[]⟩⟩
theorem Qri (Γ:Gam) (rv:Int) {l v x0} {s:Int × Int} {e:Int} (h:loopF (fun s=>Qjp l v x0 s.1 s.2) s = some e) (hD:Qm2 Γ rv l v x0 e):Qn7 Γ rv l v x0 s.1 s.2:=by
 refine QaD (C:=fun (s:Int × Int)=>Qn7 Γ rv l v x0 s.1 s.2) (D:=fun (e:Int)=>Qm2 Γ rv l v x0 e) ?_ h hD
 clear h hD s e
 rintro ⟨set_1,v1⟩ z_ h hI hE
 replace h:Qjp l v x0 set_1 v1 = _:=h
 unfold Qjp at h
 rcases Qag h with ⟨h2,h⟩|⟨h2,h⟩
 ·obtain ⟨x1,h3,h⟩:=Qae h
  rcases Qag h with ⟨h4,h⟩|⟨h4,h⟩
  ·obtain ⟨h5,h⟩:=Qas h
   exact gn 16 [3,8,9,10,15,16,17] [] [bT h2,cE Qab.enc h3,rp 4 hP,rp 2 (oI ((geI x1.order 0) = true)),oR True ((geI x1.order 0) = true),bT h4,oO (h5)] (hI _ (oJ h))
  ·exact gn 16 [3,8,9,10,15,16,17] [] [bT h2,cE Qab.enc h3,rp 4 hP,rp 2 (oI ((geI x1.order 0) = true)),oR True ((geI x1.order 0) = true),bF h4] (hI _ (oJ h))
 ·exact gn 5 [3,8,9,10] [] [bF h2] (hE _ (oJ h))
theorem Qrh (Γ:Gam) (rv:Int) {l} {s:Int × Int} {e:Int} (h:loopF (fun s=>Qjo l s.1 s.2) s = some e) (hD:Qm1 Γ rv l e):Qn6 Γ rv l s.1 s.2:=by
 refine QaD (C:=fun (s:Int × Int)=>Qn6 Γ rv l s.1 s.2) (D:=fun (e:Int)=>Qm1 Γ rv l e) ?_ h hD
 clear h hD s e
 rintro ⟨set_,v⟩ z_ h hI hE
 replace h:Qjo l set_ v = _:=h
 unfold Qjo at h
 rcases Qag h with ⟨h0,h⟩|⟨h0,h⟩
 ·obtain ⟨x0,h1,h⟩:=Qae h
  obtain ⟨e0,h6,h⟩:=Qae h
  refine gn 13 [3,8,9,10,15,16,17] [] [bT h0,cE Qac.enc h1,nL Qab.enc x0.visits] (Qri Γ rv h6 ?_)
  obtain ⟨set_2,rfl⟩:∃ x,x = e0:=⟨_,rfl⟩
  replace h:(some (.inl (set_2,(addK .i64 v 1))):Option ((Int × Int) ⊕ (Int))) = some _:=h
  exact gn 3 [3,8,9,10] [] [] (hI _ (oJ h))
 ·exact gn 5 [3] [] [bF h0] (hE _ (oJ h))
theorem Qs5 {l} {rv:Int} (h:Qqk l = some rv):AFn Tryz.prog 20 [.one (lL 4 l Qac.enc)] [] (one (lI rv)) []:=by
 refine QaL Tryz.func20 (by kernel_rfl) (by kernel_rfl) (fun Γ=>?_)
 unfold Qqk at h
 obtain ⟨e1,h7,h⟩:=Qae h
 refine gn 9 [3,8,9,10] [] [nL Qac.enc l] (Qrh Γ rv h7 ?_)
 obtain ⟨set_3,rfl⟩:∃ x,x = e1:=⟨_,rfl⟩
 replace h:(some set_3:Option Int) = some _:=h
 obtain rfl:=Option.some.inj h
 exact gr 2 [] []
theorem Qdz {rv:Qad × Qac} (h:Qkw = some rv):AFn Tryz.prog 26 [] [] (.tup [.agg [lL 1 rv.1.net.places e_str,lL 6 rv.1.net.arcs Qap.enc,lL 14 rv.1.types Qai.enc,lL 16 rv.1.orders Qak.enc,lL 2 rv.1.apart QaQ.enc,lL 2 rv.1.before QaQ.enc],.agg [lI rv.2.type_,lI rv.2.start,lL 1 rv.2.rests QaI,lL 2 rv.2.visits Qab.enc]]) []:=by
 refine QaL Tryz.func26 (by kernel_rfl) (by kernel_rfl) (fun Γ=>?_)
 unfold Qkw at h
 obtain rfl:=Option.some.inj h
 exact gr 12 [] [hW 19,hH (.frz 4),hH (.nilS 8 5 2),hH (.frz 5),hH (.nilS 11 5 2),hW 8,hH (.frz 7),hW 9,hH (.frz 9),hW 11,hH (.frz 2),hH (.frz 6),hH (.frz 8),hH (.frz 10),hH (.nilB 0 4 2),hH (.nilB 0 5 2),hH (.frz 11),hH (.nilB 1 2 1),rp 4 (oO (Eq.refl ([(Qan.mk 0 10)].map Qan.enc).length)),rp 4 (oO (Eq.refl ([1].map e_i64).length)),rp 6 (oO (Eq.refl ([Qyh,Qyi].map e_str).length)),rp 4 (oO (Eq.refl ([(Qap.mk 0 1 0 0 [(Qan.mk 0 10)] []),(Qap.mk 1 0 0 0 [(Qan.mk 0 10)] [])].map Qap.enc).length)),rp 4 (oO (Eq.refl ([(Qai.mk Qyk 1 0 0 [1] 0 0 5 100 100 0 0 0 0)].map Qai.enc).length)),rp 4 (oO (Eq.refl ([(Qak.mk Qyj [1] (Qar.mk (-1) 0 0 0) (Qar.mk 1 30 40 2) 0 (-1) 1 (-1) (-1) false)].map Qak.enc).length)),rp 3 (oO (Eq.refl ([(Qab.mk 0 true)].map Qab.enc).length))]
theorem Qa9 {rv:Bool} (h:Qa7 = some rv):AFn Tryz.prog 10 [] [] (one (.bool rv)) []:=by
 refine QaL Tryz.func10 (by kernel_rfl) (by kernel_rfl) (fun Γ=>?_)
 unfold Qa7 at h
 obtain ⟨r,h0,h⟩:=Qae h
 obtain ⟨r1,h1,h⟩:=Qae h
 obtain ⟨r2,h2,h⟩:=Qae h
 obtain ⟨r3,h3,h⟩:=Qae h
 obtain ⟨r4,h4,h⟩:=Qae h
 obtain ⟨r5,h5,h⟩:=Qae h
 rcases Qag h with ⟨h6,h⟩|⟨h6,h⟩
 ·obtain rfl:=Option.some.inj h
  exact gr 22 [] [cC (Qdz h0),cC (QaB h1),cC (QaB h2),hW 16,hH (.frz 2),hH (.nilS 35 1 1),rp 4 (oO (Eq.refl ([r.2].map Qac.enc).length)),cC (Qaw h3),hW 9,hH (.nilS 41 1 1),cC (Qaw h4),cC (QaB h5),rp 20 hP,oI ((neI r1.2 0) = false),oR True ((neI r1.2 0) = false),oI (((neI r1.2 0) || (neI r2.2 0)) = false),oR True (((neI r1.2 0) || (neI r2.2 0)) = false),oI ((((neI r1.2 0) || (neI r2.2 0)) || (neI r3.2 0)) = false),oR True ((((neI r1.2 0) || (neI r2.2 0)) || (neI r3.2 0)) = false),oI (((((neI r1.2 0) || (neI r2.2 0)) || (neI r3.2 0)) || (neI r4.2 0)) = false),oR True (((((neI r1.2 0) || (neI r2.2 0)) || (neI r3.2 0)) || (neI r4.2 0)) = false),oI ((((((neI r1.2 0) || (neI r2.2 0)) || (neI r3.2 0)) || (neI r4.2 0)) || (neI r5.2 2)) = false),oR True ((((((neI r1.2 0) || (neI r2.2 0)) || (neI r3.2 0)) || (neI r4.2 0)) || (neI r5.2 2)) = false),oI (((((((neI r1.2 0) || (neI r2.2 0)) || (neI r3.2 0)) || (neI r4.2 0)) || (neI r5.2 2)) || (neI r1.1 0)) = false),oR True (((((((neI r1.2 0) || (neI r2.2 0)) || (neI r3.2 0)) || (neI r4.2 0)) || (neI r5.2 2)) || (neI r1.1 0)) = false),oI ((((((((neI r1.2 0) || (neI r2.2 0)) || (neI r3.2 0)) || (neI r4.2 0)) || (neI r5.2 2)) || (neI r1.1 0)) || (neI r2.1 1)) = false),nL Qac.enc r3.1,rp 4 hP,oI ((((((((neI r1.2 0) || (neI r2.2 0)) || (neI r3.2 0)) || (neI r4.2 0)) || (neI r5.2 2)) || (neI r1.1 0)) || (neI r2.1 1)) = false),oR True ((((((((neI r1.2 0) || (neI r2.2 0)) || (neI r3.2 0)) || (neI r4.2 0)) || (neI r5.2 2)) || (neI r1.1 0)) || (neI r2.1 1)) = false),oI (((((((((neI r1.2 0) || (neI r2.2 0)) || (neI r3.2 0)) || (neI r4.2 0)) || (neI r5.2 2)) || (neI r1.1 0)) || (neI r2.1 1)) || (neI (lenI r3.1) 1)) = false),nL Qac.enc r4.1,hP,hP,oI (((((((((neI r1.2 0) || (neI r2.2 0)) || (neI r3.2 0)) || (neI r4.2 0)) || (neI r5.2 2)) || (neI r1.1 0)) || (neI r2.1 1)) || (neI (lenI r3.1) 1)) = false),oR True (((((((((neI r1.2 0) || (neI r2.2 0)) || (neI r3.2 0)) || (neI r4.2 0)) || (neI r5.2 2)) || (neI r1.1 0)) || (neI r2.1 1)) || (neI (lenI r3.1) 1)) = false),bT h6]
 ·obtain ⟨x0,h7,h⟩:=Qae h
  rcases Qag h with ⟨h8,h⟩|⟨h8,h⟩
  ·obtain ⟨x1,h9,h⟩:=Qae h
   rcases Qag h with ⟨h10,h⟩|⟨h10,h⟩
   ·obtain ⟨r6,h11,h⟩:=Qae h
    rcases Qag h with ⟨h12,h⟩|⟨h12,h⟩
    ·obtain ⟨r7,h13,h⟩:=Qae h
     rcases Qag h with ⟨h14,h⟩|⟨h14,h⟩
     ·obtain ⟨r8,h15,h⟩:=Qae h
      obtain rfl:=Option.some.inj h
      exact gr 23 [] [cC (Qdz h0),cC (QaB h1),cC (QaB h2),hW 16,hH (.frz 2),hH (.nilS 35 1 1),rp 4 (oO (Eq.refl ([r.2].map Qac.enc).length)),cC (Qaw h3),hW 9,hH (.nilS 41 1 1),cC (Qaw h4),cC (QaB h5),rp 20 hP,oI ((neI r1.2 0) = false),oR True ((neI r1.2 0) = false),oI (((neI r1.2 0) || (neI r2.2 0)) = false),oR True (((neI r1.2 0) || (neI r2.2 0)) = false),oI ((((neI r1.2 0) || (neI r2.2 0)) || (neI r3.2 0)) = false),oR True ((((neI r1.2 0) || (neI r2.2 0)) || (neI r3.2 0)) = false),oI (((((neI r1.2 0) || (neI r2.2 0)) || (neI r3.2 0)) || (neI r4.2 0)) = false),oR True (((((neI r1.2 0) || (neI r2.2 0)) || (neI r3.2 0)) || (neI r4.2 0)) = false),oI ((((((neI r1.2 0) || (neI r2.2 0)) || (neI r3.2 0)) || (neI r4.2 0)) || (neI r5.2 2)) = false),oR True ((((((neI r1.2 0) || (neI r2.2 0)) || (neI r3.2 0)) || (neI r4.2 0)) || (neI r5.2 2)) = false),oI (((((((neI r1.2 0) || (neI r2.2 0)) || (neI r3.2 0)) || (neI r4.2 0)) || (neI r5.2 2)) || (neI r1.1 0)) = false),oR True (((((((neI r1.2 0) || (neI r2.2 0)) || (neI r3.2 0)) || (neI r4.2 0)) || (neI r5.2 2)) || (neI r1.1 0)) = false),oI ((((((((neI r1.2 0) || (neI r2.2 0)) || (neI r3.2 0)) || (neI r4.2 0)) || (neI r5.2 2)) || (neI r1.1 0)) || (neI r2.1 1)) = false),nL Qac.enc r3.1,rp 4 hP,oI ((((((((neI r1.2 0) || (neI r2.2 0)) || (neI r3.2 0)) || (neI r4.2 0)) || (neI r5.2 2)) || (neI r1.1 0)) || (neI r2.1 1)) = false),oR True ((((((((neI r1.2 0) || (neI r2.2 0)) || (neI r3.2 0)) || (neI r4.2 0)) || (neI r5.2 2)) || (neI r1.1 0)) || (neI r2.1 1)) = false),oI (((((((((neI r1.2 0) || (neI r2.2 0)) || (neI r3.2 0)) || (neI r4.2 0)) || (neI r5.2 2)) || (neI r1.1 0)) || (neI r2.1 1)) || (neI (lenI r3.1) 1)) = false),nL Qac.enc r4.1,hP,hP,oI (((((((((neI r1.2 0) || (neI r2.2 0)) || (neI r3.2 0)) || (neI r4.2 0)) || (neI r5.2 2)) || (neI r1.1 0)) || (neI r2.1 1)) || (neI (lenI r3.1) 1)) = false),oR True (((((((((neI r1.2 0) || (neI r2.2 0)) || (neI r3.2 0)) || (neI r4.2 0)) || (neI r5.2 2)) || (neI r1.1 0)) || (neI r2.1 1)) || (neI (lenI r3.1) 1)) = false),bF h6,cE Qac.enc h7,nL QaI x0.rests,bT h8,bT h8,cE Qac.enc h9,rp 3 (bT h8),nL QaI x1.rests,bT h8,bT h8,rp 2 (bT h10),hH (.nilS 102 1 1),bT h10,cC (QhD h11),rp 2 (bT h10),rp 3 (bT h12),hH (.nilS 109 1 1),bT h12,cC (QhD h13),rp 2 (bT h12),rp 2 (bT h14),cC (Qs5 h15),rp 2 (bT h14)]
     ·obtain rfl:=Option.some.inj h
      exact gr 23 [] [cC (Qdz h0),cC (QaB h1),cC (QaB h2),hW 16,hH (.frz 2),hH (.nilS 35 1 1),rp 4 (oO (Eq.refl ([r.2].map Qac.enc).length)),cC (Qaw h3),hW 9,hH (.nilS 41 1 1),cC (Qaw h4),cC (QaB h5),rp 20 hP,oI ((neI r1.2 0) = false),oR True ((neI r1.2 0) = false),oI (((neI r1.2 0) || (neI r2.2 0)) = false),oR True (((neI r1.2 0) || (neI r2.2 0)) = false),oI ((((neI r1.2 0) || (neI r2.2 0)) || (neI r3.2 0)) = false),oR True ((((neI r1.2 0) || (neI r2.2 0)) || (neI r3.2 0)) = false),oI (((((neI r1.2 0) || (neI r2.2 0)) || (neI r3.2 0)) || (neI r4.2 0)) = false),oR True (((((neI r1.2 0) || (neI r2.2 0)) || (neI r3.2 0)) || (neI r4.2 0)) = false),oI ((((((neI r1.2 0) || (neI r2.2 0)) || (neI r3.2 0)) || (neI r4.2 0)) || (neI r5.2 2)) = false),oR True ((((((neI r1.2 0) || (neI r2.2 0)) || (neI r3.2 0)) || (neI r4.2 0)) || (neI r5.2 2)) = false),oI (((((((neI r1.2 0) || (neI r2.2 0)) || (neI r3.2 0)) || (neI r4.2 0)) || (neI r5.2 2)) || (neI r1.1 0)) = false),oR True (((((((neI r1.2 0) || (neI r2.2 0)) || (neI r3.2 0)) || (neI r4.2 0)) || (neI r5.2 2)) || (neI r1.1 0)) = false),oI ((((((((neI r1.2 0) || (neI r2.2 0)) || (neI r3.2 0)) || (neI r4.2 0)) || (neI r5.2 2)) || (neI r1.1 0)) || (neI r2.1 1)) = false),nL Qac.enc r3.1,rp 4 hP,oI ((((((((neI r1.2 0) || (neI r2.2 0)) || (neI r3.2 0)) || (neI r4.2 0)) || (neI r5.2 2)) || (neI r1.1 0)) || (neI r2.1 1)) = false),oR True ((((((((neI r1.2 0) || (neI r2.2 0)) || (neI r3.2 0)) || (neI r4.2 0)) || (neI r5.2 2)) || (neI r1.1 0)) || (neI r2.1 1)) = false),oI (((((((((neI r1.2 0) || (neI r2.2 0)) || (neI r3.2 0)) || (neI r4.2 0)) || (neI r5.2 2)) || (neI r1.1 0)) || (neI r2.1 1)) || (neI (lenI r3.1) 1)) = false),nL Qac.enc r4.1,hP,hP,oI (((((((((neI r1.2 0) || (neI r2.2 0)) || (neI r3.2 0)) || (neI r4.2 0)) || (neI r5.2 2)) || (neI r1.1 0)) || (neI r2.1 1)) || (neI (lenI r3.1) 1)) = false),oR True (((((((((neI r1.2 0) || (neI r2.2 0)) || (neI r3.2 0)) || (neI r4.2 0)) || (neI r5.2 2)) || (neI r1.1 0)) || (neI r2.1 1)) || (neI (lenI r3.1) 1)) = false),bF h6,cE Qac.enc h7,nL QaI x0.rests,bT h8,bT h8,cE Qac.enc h9,rp 3 (bT h8),nL QaI x1.rests,bT h8,bT h8,rp 2 (bT h10),hH (.nilS 102 1 1),bT h10,cC (QhD h11),rp 2 (bT h10),rp 3 (bT h12),hH (.nilS 109 1 1),bT h12,cC (QhD h13),rp 2 (bT h12),rp 4 (bF h14)]
    ·obtain rfl:=Option.some.inj h
     exact gr 23 [] [cC (Qdz h0),cC (QaB h1),cC (QaB h2),hW 16,hH (.frz 2),hH (.nilS 35 1 1),rp 4 (oO (Eq.refl ([r.2].map Qac.enc).length)),cC (Qaw h3),hW 9,hH (.nilS 41 1 1),cC (Qaw h4),cC (QaB h5),rp 20 hP,oI ((neI r1.2 0) = false),oR True ((neI r1.2 0) = false),oI (((neI r1.2 0) || (neI r2.2 0)) = false),oR True (((neI r1.2 0) || (neI r2.2 0)) = false),oI ((((neI r1.2 0) || (neI r2.2 0)) || (neI r3.2 0)) = false),oR True ((((neI r1.2 0) || (neI r2.2 0)) || (neI r3.2 0)) = false),oI (((((neI r1.2 0) || (neI r2.2 0)) || (neI r3.2 0)) || (neI r4.2 0)) = false),oR True (((((neI r1.2 0) || (neI r2.2 0)) || (neI r3.2 0)) || (neI r4.2 0)) = false),oI ((((((neI r1.2 0) || (neI r2.2 0)) || (neI r3.2 0)) || (neI r4.2 0)) || (neI r5.2 2)) = false),oR True ((((((neI r1.2 0) || (neI r2.2 0)) || (neI r3.2 0)) || (neI r4.2 0)) || (neI r5.2 2)) = false),oI (((((((neI r1.2 0) || (neI r2.2 0)) || (neI r3.2 0)) || (neI r4.2 0)) || (neI r5.2 2)) || (neI r1.1 0)) = false),oR True (((((((neI r1.2 0) || (neI r2.2 0)) || (neI r3.2 0)) || (neI r4.2 0)) || (neI r5.2 2)) || (neI r1.1 0)) = false),oI ((((((((neI r1.2 0) || (neI r2.2 0)) || (neI r3.2 0)) || (neI r4.2 0)) || (neI r5.2 2)) || (neI r1.1 0)) || (neI r2.1 1)) = false),nL Qac.enc r3.1,rp 4 hP,oI ((((((((neI r1.2 0) || (neI r2.2 0)) || (neI r3.2 0)) || (neI r4.2 0)) || (neI r5.2 2)) || (neI r1.1 0)) || (neI r2.1 1)) = false),oR True ((((((((neI r1.2 0) || (neI r2.2 0)) || (neI r3.2 0)) || (neI r4.2 0)) || (neI r5.2 2)) || (neI r1.1 0)) || (neI r2.1 1)) = false),oI (((((((((neI r1.2 0) || (neI r2.2 0)) || (neI r3.2 0)) || (neI r4.2 0)) || (neI r5.2 2)) || (neI r1.1 0)) || (neI r2.1 1)) || (neI (lenI r3.1) 1)) = false),nL Qac.enc r4.1,hP,hP,oI (((((((((neI r1.2 0) || (neI r2.2 0)) || (neI r3.2 0)) || (neI r4.2 0)) || (neI r5.2 2)) || (neI r1.1 0)) || (neI r2.1 1)) || (neI (lenI r3.1) 1)) = false),oR True (((((((((neI r1.2 0) || (neI r2.2 0)) || (neI r3.2 0)) || (neI r4.2 0)) || (neI r5.2 2)) || (neI r1.1 0)) || (neI r2.1 1)) || (neI (lenI r3.1) 1)) = false),bF h6,cE Qac.enc h7,nL QaI x0.rests,bT h8,bT h8,cE Qac.enc h9,rp 3 (bT h8),nL QaI x1.rests,bT h8,bT h8,rp 2 (bT h10),hH (.nilS 102 1 1),bT h10,cC (QhD h11),rp 2 (bT h10),rp 6 (bF h12),rp 4 fF]
   ·obtain rfl:=Option.some.inj h
    exact gr 23 [] [cC (Qdz h0),cC (QaB h1),cC (QaB h2),hW 16,hH (.frz 2),hH (.nilS 35 1 1),rp 4 (oO (Eq.refl ([r.2].map Qac.enc).length)),cC (Qaw h3),hW 9,hH (.nilS 41 1 1),cC (Qaw h4),cC (QaB h5),rp 20 hP,oI ((neI r1.2 0) = false),oR True ((neI r1.2 0) = false),oI (((neI r1.2 0) || (neI r2.2 0)) = false),oR True (((neI r1.2 0) || (neI r2.2 0)) = false),oI ((((neI r1.2 0) || (neI r2.2 0)) || (neI r3.2 0)) = false),oR True ((((neI r1.2 0) || (neI r2.2 0)) || (neI r3.2 0)) = false),oI (((((neI r1.2 0) || (neI r2.2 0)) || (neI r3.2 0)) || (neI r4.2 0)) = false),oR True (((((neI r1.2 0) || (neI r2.2 0)) || (neI r3.2 0)) || (neI r4.2 0)) = false),oI ((((((neI r1.2 0) || (neI r2.2 0)) || (neI r3.2 0)) || (neI r4.2 0)) || (neI r5.2 2)) = false),oR True ((((((neI r1.2 0) || (neI r2.2 0)) || (neI r3.2 0)) || (neI r4.2 0)) || (neI r5.2 2)) = false),oI (((((((neI r1.2 0) || (neI r2.2 0)) || (neI r3.2 0)) || (neI r4.2 0)) || (neI r5.2 2)) || (neI r1.1 0)) = false),oR True (((((((neI r1.2 0) || (neI r2.2 0)) || (neI r3.2 0)) || (neI r4.2 0)) || (neI r5.2 2)) || (neI r1.1 0)) = false),oI ((((((((neI r1.2 0) || (neI r2.2 0)) || (neI r3.2 0)) || (neI r4.2 0)) || (neI r5.2 2)) || (neI r1.1 0)) || (neI r2.1 1)) = false),nL Qac.enc r3.1,rp 4 hP,oI ((((((((neI r1.2 0) || (neI r2.2 0)) || (neI r3.2 0)) || (neI r4.2 0)) || (neI r5.2 2)) || (neI r1.1 0)) || (neI r2.1 1)) = false),oR True ((((((((neI r1.2 0) || (neI r2.2 0)) || (neI r3.2 0)) || (neI r4.2 0)) || (neI r5.2 2)) || (neI r1.1 0)) || (neI r2.1 1)) = false),oI (((((((((neI r1.2 0) || (neI r2.2 0)) || (neI r3.2 0)) || (neI r4.2 0)) || (neI r5.2 2)) || (neI r1.1 0)) || (neI r2.1 1)) || (neI (lenI r3.1) 1)) = false),nL Qac.enc r4.1,hP,hP,oI (((((((((neI r1.2 0) || (neI r2.2 0)) || (neI r3.2 0)) || (neI r4.2 0)) || (neI r5.2 2)) || (neI r1.1 0)) || (neI r2.1 1)) || (neI (lenI r3.1) 1)) = false),oR True (((((((((neI r1.2 0) || (neI r2.2 0)) || (neI r3.2 0)) || (neI r4.2 0)) || (neI r5.2 2)) || (neI r1.1 0)) || (neI r2.1 1)) || (neI (lenI r3.1) 1)) = false),bF h6,cE Qac.enc h7,nL QaI x0.rests,bT h8,bT h8,cE Qac.enc h9,rp 3 (bT h8),nL QaI x1.rests,bT h8,bT h8,rp 5 (bF h10),rp 10 fF]
  ·obtain rfl:=Option.some.inj h
   exact gr 23 [] [cC (Qdz h0),cC (QaB h1),cC (QaB h2),hW 16,hH (.frz 2),hH (.nilS 35 1 1),rp 4 (oO (Eq.refl ([r.2].map Qac.enc).length)),cC (Qaw h3),hW 9,hH (.nilS 41 1 1),cC (Qaw h4),cC (QaB h5),rp 20 hP,oI ((neI r1.2 0) = false),oR True ((neI r1.2 0) = false),oI (((neI r1.2 0) || (neI r2.2 0)) = false),oR True (((neI r1.2 0) || (neI r2.2 0)) = false),oI ((((neI r1.2 0) || (neI r2.2 0)) || (neI r3.2 0)) = false),oR True ((((neI r1.2 0) || (neI r2.2 0)) || (neI r3.2 0)) = false),oI (((((neI r1.2 0) || (neI r2.2 0)) || (neI r3.2 0)) || (neI r4.2 0)) = false),oR True (((((neI r1.2 0) || (neI r2.2 0)) || (neI r3.2 0)) || (neI r4.2 0)) = false),oI ((((((neI r1.2 0) || (neI r2.2 0)) || (neI r3.2 0)) || (neI r4.2 0)) || (neI r5.2 2)) = false),oR True ((((((neI r1.2 0) || (neI r2.2 0)) || (neI r3.2 0)) || (neI r4.2 0)) || (neI r5.2 2)) = false),oI (((((((neI r1.2 0) || (neI r2.2 0)) || (neI r3.2 0)) || (neI r4.2 0)) || (neI r5.2 2)) || (neI r1.1 0)) = false),oR True (((((((neI r1.2 0) || (neI r2.2 0)) || (neI r3.2 0)) || (neI r4.2 0)) || (neI r5.2 2)) || (neI r1.1 0)) = false),oI ((((((((neI r1.2 0) || (neI r2.2 0)) || (neI r3.2 0)) || (neI r4.2 0)) || (neI r5.2 2)) || (neI r1.1 0)) || (neI r2.1 1)) = false),nL Qac.enc r3.1,rp 4 hP,oI ((((((((neI r1.2 0) || (neI r2.2 0)) || (neI r3.2 0)) || (neI r4.2 0)) || (neI r5.2 2)) || (neI r1.1 0)) || (neI r2.1 1)) = false),oR True ((((((((neI r1.2 0) || (neI r2.2 0)) || (neI r3.2 0)) || (neI r4.2 0)) || (neI r5.2 2)) || (neI r1.1 0)) || (neI r2.1 1)) = false),oI (((((((((neI r1.2 0) || (neI r2.2 0)) || (neI r3.2 0)) || (neI r4.2 0)) || (neI r5.2 2)) || (neI r1.1 0)) || (neI r2.1 1)) || (neI (lenI r3.1) 1)) = false),nL Qac.enc r4.1,hP,hP,oI (((((((((neI r1.2 0) || (neI r2.2 0)) || (neI r3.2 0)) || (neI r4.2 0)) || (neI r5.2 2)) || (neI r1.1 0)) || (neI r2.1 1)) || (neI (lenI r3.1) 1)) = false),oR True (((((((((neI r1.2 0) || (neI r2.2 0)) || (neI r3.2 0)) || (neI r4.2 0)) || (neI r5.2 2)) || (neI r1.1 0)) || (neI r2.1 1)) || (neI (lenI r3.1) 1)) = false),bF h6,cE Qac.enc h7,nL QaI x0.rests,rp 7 (bF h8),rp 15 fF]
theorem QbR {set_ i} {rv:Bool} (h:QdL set_ i = some rv):AFn Tryz.prog 137 [.one (lI set_),.one (lI i)] [] (one (.bool rv)) []:=by
 refine QaL Tryz.func137 (by kernel_rfl) (by kernel_rfl) (fun Γ=>?_)
 unfold QdL at h
 rcases Qag h with ⟨h0,h⟩|⟨h0,h⟩
 ·obtain ⟨h1,h⟩:=Qas h
  obtain rfl:=Option.some.inj h
  exact gr 4 [] [rp 6 hP,oI ((geI set_ 0) = true),oR True ((geI set_ 0) = true),oI (((geI set_ 0) && (geI i 0)) = true),oR True (((geI set_ 0) && (geI i 0)) = true),rp 4 (bT h0),oO (h1),bT h0,oO (oA (n:=2)),bT h0,bT h0]
 ·obtain rfl:=Option.some.inj h
  exact gr 4 [] [rp 6 hP,oI ((geI set_ 0) = true),oR True ((geI set_ 0) = true),oI (((geI set_ 0) && (geI i 0)) = true),oR True (((geI set_ 0) && (geI i 0)) = true),rp 7 (bF h0)]
def QmB (Γ:Gam) (rv:Int × Int) (cf:Cf):Prop:=Go Tryz.prog Tryz.f91 [] Γ (.tup [.one (lI rv.1),.one (lI rv.2)]) [] cf
def Qj8 (Γ:Gam) (rv:Int × Int) (r:Qac) (set_:Int) (i:Int):Prop:=QmB Γ rv ⟨[.c 116,.l 116,.b 0,.c 15],⟨36,[vP 1 0 4,vI 4 set_,vI 5 i],[oX 4 34 (Qac.enc r)]⟩⟩
def Qi3 (Γ:Gam) (rv:Int × Int) (r:Qac) (set_1:Int):Prop:=QmB Γ rv ⟨[.c 15],⟨36,[vI 4 set_1],[]⟩⟩
theorem Qoy (Γ:Gam) (rv:Int × Int) {r} {s:Int × Int} {e:(Int) ⊕ (Int × Int)} (h:loopF (fun s=>QdC r s.1 s.2) s = some e) (hD:sel e (fun e=>Qi3 Γ rv r e) (fun e=>e = rv)):Qj8 Γ rv r s.1 s.2:=by
 refine QaD (C:=fun (s:Int × Int)=>Qj8 Γ rv r s.1 s.2) (D:=fun (e:(Int) ⊕ (Int × Int))=>sel e (fun e=>Qi3 Γ rv r e) (fun e=>e = rv)) ?_ h hD
 clear h hD s e
 rintro ⟨set_,i⟩ z_ h hI hE
 replace h:QdC r set_ i = _:=h
 unfold QdC at h
 rcases Qag h with ⟨h0,h⟩|⟨h0,h⟩
 ·obtain ⟨x0,h1,h⟩:=Qae h
  rcases Qag h with ⟨h2,h⟩|⟨h2,h⟩
  ·obtain rfl:=(hE _ (oJ h):_ = rv)
   exact gr 15 [] [nL Qab.enc r.visits,bT h0,cE Qab.enc h1,hP,hP,hP,oI ((ltI x0.order 0) = false),oR True ((ltI x0.order 0) = false),bT h2]
  ·obtain ⟨r1,h3,h⟩:=Qae h
   rcases Qag h with ⟨h4,h⟩|⟨h4,h⟩
   ·exact gn 21 [1,4,5] [0] [nL Qab.enc r.visits,bT h0,cE Qab.enc h1,hP,hP,hP,oI ((ltI x0.order 0) = false),oR True ((ltI x0.order 0) = false),bF h2,cC (QbR h3),nF h4] (hI _ (oJ h))
   ·obtain ⟨h5,h⟩:=Qas h
    exact gn 21 [1,4,5] [0] [nL Qab.enc r.visits,bT h0,cE Qab.enc h1,hP,hP,hP,oI ((ltI x0.order 0) = false),oR True ((ltI x0.order 0) = false),bF h2,cC (QbR h3),nT h4,oO (h5)] (hI _ (oJ h))
 ·exact gn 5 [4] [] [nL Qab.enc r.visits,bF h0] (hE _ (oJ h))
theorem QlX {r} {rv:Int × Int} (h:Qe4 r = some rv):AFn Tryz.prog 91 [.agg (Qac.enc r)] [] (.tup [.one (lI rv.1),.one (lI rv.2)]) []:=by
 refine QaL Tryz.func91 (by kernel_rfl) (by kernel_rfl) (fun Γ=>?_)
 unfold Qe4 at h
 obtain ⟨e0,h6,h⟩:=Qae h
 refine gn 9 [1,4,5] [0] [] (Qoy Γ rv h6 ?_)
 rcases e0 with e0|e0
 ·obtain ⟨set_1,rfl⟩:∃ x,x = e0:=⟨_,rfl⟩
  replace h:(some (set_1,0):Option (Int × Int)) = some _:=h
  obtain rfl:=Option.some.inj h
  exact gr 2 [] []
 ·obtain ⟨r2,rfl⟩:∃ x,x = e0:=⟨_,rfl⟩
  replace h:(some r2:Option (Int × Int)) = some _:=h
  exact Option.some.inj h
def Qno (Γ:Gam) (rv:Int) (cf:Cf):Prop:=Go Tryz.prog Tryz.f92 [] Γ (one (lI rv)) [] cf
def Qk7 (Γ:Gam) (rv:Int) (l:List Qab) (v:Qab) (i:Int):Prop:=Qno Γ rv ⟨[.c 52,.l 52,.b 0,.c 7],⟨19,[vL 0 2 l Qab.enc,vP 3 0 2,vI 5 i],[oX 2 79 (Qab.enc v)]⟩⟩
def Qj7 (Γ:Gam) (rv:Int) (l:List Qab) (v:Qab):Prop:=Qno Γ rv ⟨[.c 7],⟨19,[],[]⟩⟩
theorem Qpf (Γ:Gam) (rv:Int) {l v} {s:Int} {e:(Unit) ⊕ (Int)} (h:loopF (fun s=>Qcp l v s) s = some e) (hD:sel e (fun e=>Qj7 Γ rv l v) (fun e=>e = rv)):Qk7 Γ rv l v s:=by
 refine QaD (C:=fun (s:Int)=>Qk7 Γ rv l v s) (D:=fun (e:(Unit) ⊕ (Int))=>sel e (fun e=>Qj7 Γ rv l v) (fun e=>e = rv)) ?_ h hD
 clear h hD s e
 intro i z_ h hI hE
 replace h:Qcp l v i = _:=h
 unfold Qcp at h
 rcases Qag h with ⟨h0,h⟩|⟨h0,h⟩
 ·obtain ⟨x0,h1,h⟩:=Qae h
  rcases Qag h with ⟨h2,h⟩|⟨h2,h⟩
  ·obtain rfl:=(hE _ (oJ h):_ = rv)
   exact gr 12 [] [nL Qab.enc l,bT h0,hH (.draw 6 []),cE Qab.enc h1,bT h2]
  ·exact gn 14 [0,3,5] [0] [nL Qab.enc l,bT h0,hH (.draw 6 []),cE Qab.enc h1,bF h2] (hI _ (oJ h))
 ·exact gn 5 [] [] [nL Qab.enc l,bF h0] (hE _ (oJ h))
theorem Qbk {l v} {rv:Int} (h:Qcz l v = some rv):AFn Tryz.prog 92 [.one (lL 2 l Qab.enc),.agg (Qab.enc v)] [] (one (lI rv)) []:=by
 refine QaL Tryz.func92 (by kernel_rfl) (by kernel_rfl) (fun Γ=>?_)
 unfold Qcz at h
 obtain ⟨e0,h3,h⟩:=Qae h
 refine gn 7 [0,3,5] [0] [] (Qpf Γ rv h3 ?_)
 rcases e0 with e0|e0
 ·replace h:(some (-1):Option Int) = some _:=h
  obtain rfl:=Option.some.inj h
  exact gr 2 [] []
 ·obtain ⟨r,rfl⟩:∃ x,x = e0:=⟨_,rfl⟩
  replace h:(some r:Option Int) = some _:=h
  exact Option.some.inj h
def QqX (Γ:Gam) (rv:List Qab) (cf:Cf):Prop:=Go Tryz.prog Tryz.f138 [] Γ (one (lL 2 rv Qab.enc)) [] cf
theorem Qi4 (Γ:Gam) (rv:List Qab) {x0 order l} (h:QdD x0 order l = some rv):QqX Γ rv ⟨[.c 15],⟨33,[vI 1 order,vP 2 0 6,vO 5 1 2 l Qab.enc],[oX 6 30 (Qad.enc x0),oS 2 79 l Qab.enc]⟩⟩:=by
 unfold QdD at h
 obtain ⟨x2,h3,h⟩:=Qae h
 rcases Qag h with ⟨h4,h⟩|⟨h4,h⟩
 ·obtain ⟨h5,h⟩:=Qas h
  obtain rfl:=Option.some.inj h
  exact gr 7 [] [cE Qak.enc h3,bT h4,oO (Eq.refl ([(Qab.mk order true)].map Qab.enc).length),aO Qab.enc h5,hW 5,hH (.frz 3),rp 4 (oO (Eq.refl ((l ++ [(Qab.mk order true)]).map Qab.enc).length))]
 ·obtain rfl:=Option.some.inj h
  exact gr 7 [] [cE Qak.enc h3,bF h4,hW 5,hH (.frz 1),rp 3 (eL l Qab.enc)]
theorem QeR {x0 order} {rv:List Qab} (h:Qgk x0 order = some rv):AFn Tryz.prog 138 [.agg (Qad.enc x0),.one (lI order)] [] (one (lL 2 rv Qab.enc)) []:=by
 refine QaL Tryz.func138 (by kernel_rfl) (by kernel_rfl) (fun Γ=>?_)
 unfold Qgk at h
 obtain ⟨x1,h0,h⟩:=Qae h
 rcases Qag h with ⟨h1,h⟩|⟨h1,h⟩
 ·obtain ⟨h2,h⟩:=Qas h
  exact gn 9 [1,2,5] [0,2] [cE Qak.enc h0,bT h1,oO (Eq.refl ([(Qab.mk order false)].map Qab.enc).length),aN (l:=([(Qab.mk order false)]:List Qab)) Qab.enc h2] (Qi4 Γ rv h)
 ·exact gn 9 [1,2,5] [0,1] [cE Qak.enc h0,bF h1,hW 1,hH (.adopt 5 2 79)] (Qi4 Γ rv h)
def Qk9 (Γ:Gam) (rv:Bool) (cf:Cf):Prop:=Go Tryz.prog Tryz.f139 [] Γ (one (.bool rv)) [] cf
def QiE (Γ:Gam) (rv:Bool) (l:List Qab) (some_:List Qab) (i:Int):Prop:=Qk9 Γ rv ⟨[.c 52,.l 52,.b 0,.c 7],⟨19,[vL 0 2 l Qab.enc,vL 1 2 some_ Qab.enc,vI 5 i],[]⟩⟩
def Qij (Γ:Gam) (rv:Bool) (l:List Qab) (some_:List Qab):Prop:=Qk9 Γ rv ⟨[.c 7],⟨19,[],[]⟩⟩
theorem Qnq (Γ:Gam) (rv:Bool) {l some_} {s:Int} {e:(Unit) ⊕ (Bool)} (h:loopF (fun s=>QbG l some_ s) s = some e) (hD:sel e (fun e=>Qij Γ rv l some_) (fun e=>e = rv)):QiE Γ rv l some_ s:=by
 refine QaD (C:=fun (s:Int)=>QiE Γ rv l some_ s) (D:=fun (e:(Unit) ⊕ (Bool))=>sel e (fun e=>Qij Γ rv l some_) (fun e=>e = rv)) ?_ h hD
 clear h hD s e
 intro i z_ h hI hE
 replace h:QbG l some_ i = _:=h
 unfold QbG at h
 rcases Qag h with ⟨h0,h⟩|⟨h0,h⟩
 ·obtain ⟨x0,h1,h⟩:=Qae h
  obtain ⟨r,h2,h⟩:=Qae h
  rcases Qag h with ⟨h3,h⟩|⟨h3,h⟩
  ·obtain rfl:=(hE _ (oJ h):_ = rv)
   exact gr 12 [] [nL Qab.enc some_,bT h0,cE Qab.enc h1,cC (Qbk h2),bT h3]
  ·exact gn 14 [0,1,5] [] [nL Qab.enc some_,bT h0,cE Qab.enc h1,cC (Qbk h2),bF h3] (hI _ (oJ h))
 ·exact gn 5 [] [] [nL Qab.enc some_,bF h0] (hE _ (oJ h))
theorem Qfj {l some_} {rv:Bool} (h:Qfi l some_ = some rv):AFn Tryz.prog 139 [.one (lL 2 l Qab.enc),.one (lL 2 some_ Qab.enc)] [] (one (.bool rv)) []:=by
 refine QaL Tryz.func139 (by kernel_rfl) (by kernel_rfl) (fun Γ=>?_)
 unfold Qfi at h
 obtain ⟨e0,h4,h⟩:=Qae h
 refine gn 7 [0,1,5] [] [] (Qnq Γ rv h4 ?_)
 rcases e0 with e0|e0
 ·replace h:(some true:Option Bool) = some _:=h
  obtain rfl:=Option.some.inj h
  exact gr 2 [] []
 ·obtain ⟨r1,rfl⟩:∃ x,x = e0:=⟨_,rfl⟩
  replace h:(some r1:Option Bool) = some _:=h
  exact Option.some.inj h
def QmC (Γ:Gam) (rv:Bool) (cf:Cf):Prop:=Go Tryz.prog Tryz.f93 [] Γ (one (.bool rv)) [] cf
def Qkd (Γ:Gam) (rv:Bool) (x0:Qad) (l:List Qab) (i:Int):Prop:=QmC Γ rv ⟨[.c 52,.l 52,.b 0,.c 7],⟨51,[vL 1 2 l Qab.enc,vP 2 0 6,vI 5 i],[oX 6 30 (Qad.enc x0)]⟩⟩
def Qi8 (Γ:Gam) (rv:Bool) (x0:Qad) (l:List Qab):Prop:=QmC Γ rv ⟨[.c 7],⟨51,[],[]⟩⟩
theorem QoC (Γ:Gam) (rv:Bool) {x0 l} {s:Int} {e:(Unit) ⊕ (Bool)} (h:loopF (fun s=>Qca x0 l s) s = some e) (hD:sel e (fun e=>Qi8 Γ rv x0 l) (fun e=>e = rv)):Qkd Γ rv x0 l s:=by
 refine QaD (C:=fun (s:Int)=>Qkd Γ rv x0 l s) (D:=fun (e:(Unit) ⊕ (Bool))=>sel e (fun e=>Qi8 Γ rv x0 l) (fun e=>e = rv)) ?_ h hD
 clear h hD s e
 intro i z_ h hI hE
 replace h:Qca x0 l i = _:=h
 unfold Qca at h
 rcases Qag h with ⟨h0,h⟩|⟨h0,h⟩
 ·obtain ⟨x1,h1,h⟩:=Qae h
  obtain ⟨r,h2,h⟩:=Qae h
  obtain ⟨r1,h3,h⟩:=Qae h
  rcases Qag h with ⟨h4,h⟩|⟨h4,h⟩
  ·obtain rfl:=(hE _ (oJ h):_ = rv)
   exact gr 14 [] [nL Qab.enc l,bT h0,hH (.draw 8 []),cE Qab.enc h1,cC (QeR h2),hH (.draw 31 []),cE Qab.enc h1,cC (Qbk h3),rp 5 (bT h4),rp 4 tT,rp 11 kF,tT,tT,tT]
  ·obtain ⟨r2,h5,h⟩:=Qae h
   rcases Qag h with ⟨h6,h⟩|⟨h6,h⟩
   ·rcases Qag h with ⟨h7,h⟩|⟨h7,h⟩
    ·obtain ⟨x2,h8,h⟩:=Qae h
     obtain ⟨r3,h9,h⟩:=Qae h
     obtain ⟨x3,h10,h⟩:=Qae h
     obtain ⟨r4,h11,h⟩:=Qae h
     rcases Qag h with ⟨h12,h⟩|⟨h12,h⟩
     ·obtain rfl:=(hE _ (oJ h):_ = rv)
      exact gr 14 [] [nL Qab.enc l,bT h0,hH (.draw 8 []),cE Qab.enc h1,cC (QeR h2),hH (.draw 31 []),cE Qab.enc h1,cC (Qbk h3),rp 3 (bF h4),cC (Qfj h5),bF h4,bF h4,nF h6,nF h6,nL Qab.enc r,nF h6,nF h6,rp 3 (bT h7),cE Qab.enc h8,bT h7,bT h7,cC (Qbk h9),rp 3 (bT h7),cE Qab.enc h10,bT h7,bT h7,cC (Qbk h11),bT h7,nF h6,bT h7,nF h6,bT h12]
     ·exact gn 16 [1,2,5] [0] [nL Qab.enc l,bT h0,hH (.draw 8 []),cE Qab.enc h1,cC (QeR h2),hH (.draw 31 []),cE Qab.enc h1,cC (Qbk h3),rp 3 (bF h4),cC (Qfj h5),bF h4,bF h4,nF h6,nF h6,nL Qab.enc r,nF h6,nF h6,rp 3 (bT h7),cE Qab.enc h8,bT h7,bT h7,cC (Qbk h9),rp 3 (bT h7),cE Qab.enc h10,bT h7,bT h7,cC (Qbk h11),bT h7,nF h6,bT h7,nF h6,bF h12] (hI _ (oJ h))
    ·exact gn 16 [1,2,5] [0] [nL Qab.enc l,bT h0,hH (.draw 8 []),cE Qab.enc h1,cC (QeR h2),hH (.draw 31 []),cE Qab.enc h1,cC (Qbk h3),rp 3 (bF h4),cC (Qfj h5),bF h4,bF h4,nF h6,nF h6,nL Qab.enc r,nF h6,nF h6,rp 11 (bF h7),nF h6,bF h7,nF h6,fF] (hI _ (oJ h))
   ·obtain rfl:=(hE _ (oJ h):_ = rv)
    exact gr 14 [] [nL Qab.enc l,bT h0,hH (.draw 8 []),cE Qab.enc h1,cC (QeR h2),hH (.draw 31 []),cE Qab.enc h1,cC (Qbk h3),rp 3 (bF h4),cC (Qfj h5),bF h4,bF h4,rp 4 (nT h6),rp 11 kF,nT h6,nT h6,tT]
 ·exact gn 5 [] [] [nL Qab.enc l,bF h0] (hE _ (oJ h))
theorem Qf9 {x0 l} {rv:Bool} (h:Qds x0 l = some rv):AFn Tryz.prog 93 [.agg (Qad.enc x0),.one (lL 2 l Qab.enc)] [] (one (.bool rv)) []:=by
 refine QaL Tryz.func93 (by kernel_rfl) (by kernel_rfl) (fun Γ=>?_)
 unfold Qds at h
 obtain ⟨e0,h13,h⟩:=Qae h
 refine gn 7 [1,2,5] [0] [] (QoC Γ rv h13 ?_)
 rcases e0 with e0|e0
 ·replace h:(some true:Option Bool) = some _:=h
  obtain rfl:=Option.some.inj h
  exact gr 2 [] []
 ·obtain ⟨r5,rfl⟩:∃ x,x = e0:=⟨_,rfl⟩
  replace h:(some r5:Option Bool) = some _:=h
  exact Option.some.inj h
def Qnp (Γ:Gam) (rv:Bool) (cf:Cf):Prop:=Go Tryz.prog Tryz.f94 [] Γ (one (.bool rv)) [] cf
def Qk8 (Γ:Gam) (rv:Bool) (x0:Qad) (set_:Int) (i:Int):Prop:=Qnp Γ rv ⟨[.c 52,.l 52,.b 0,.c 7],⟨31,[vI 1 set_,vP 2 0 6,vI 5 i],[oX 6 30 (Qad.enc x0)]⟩⟩
def Qj9 (Γ:Gam) (rv:Bool) (x0:Qad) (set_:Int):Prop:=Qnp Γ rv ⟨[.c 7],⟨31,[],[]⟩⟩
theorem Qpg (Γ:Gam) (rv:Bool) {x0 set_} {s:Int} {e:(Unit) ⊕ (Bool)} (h:loopF (fun s=>Qcq x0 set_ s) s = some e) (hD:sel e (fun e=>Qj9 Γ rv x0 set_) (fun e=>e = rv)):Qk8 Γ rv x0 set_ s:=by
 refine QaD (C:=fun (s:Int)=>Qk8 Γ rv x0 set_ s) (D:=fun (e:(Unit) ⊕ (Bool))=>sel e (fun e=>Qj9 Γ rv x0 set_) (fun e=>e = rv)) ?_ h hD
 clear h hD s e
 intro i z_ h hI hE
 replace h:Qcq x0 set_ i = _:=h
 unfold Qcq at h
 rcases Qag h with ⟨h0,h⟩|⟨h0,h⟩
 ·obtain ⟨x1,h1,h⟩:=Qae h
  obtain ⟨r,h2,h⟩:=Qae h
  rcases Qag h with ⟨h3,h⟩|⟨h3,h⟩
  ·obtain ⟨r1,h4,h⟩:=Qae h
   rcases Qag h with ⟨h5,h⟩|⟨h5,h⟩
   ·obtain rfl:=(hE _ (oJ h):_ = rv)
    exact gr 12 [] [nL QaQ.enc x0.apart,bT h0,cE QaQ.enc h1,oO (zL 0),oO (lT 0 2),cC (QbR h2),rp 5 (bT h3),cE QaQ.enc h1,bT h3,oO (zL 1),oO (lT 1 2),bT h3,bT h3,cC (QbR h4),bT h3,bT h5]
   ·exact gn 14 [1,2,5] [0] [nL QaQ.enc x0.apart,bT h0,cE QaQ.enc h1,oO (zL 0),oO (lT 0 2),cC (QbR h2),rp 5 (bT h3),cE QaQ.enc h1,bT h3,oO (zL 1),oO (lT 1 2),bT h3,bT h3,cC (QbR h4),bT h3,bF h5] (hI _ (oJ h))
  ·exact gn 14 [1,2,5] [0] [nL QaQ.enc x0.apart,bT h0,cE QaQ.enc h1,oO (zL 0),oO (lT 0 2),cC (QbR h2),rp 9 (bF h3),fF] (hI _ (oJ h))
 ·exact gn 5 [] [] [nL QaQ.enc x0.apart,bF h0] (hE _ (oJ h))
theorem QiD {x0 set_} {rv:Bool} (h:QdS x0 set_ = some rv):AFn Tryz.prog 94 [.agg (Qad.enc x0),.one (lI set_)] [] (one (.bool rv)) []:=by
 refine QaL Tryz.func94 (by kernel_rfl) (by kernel_rfl) (fun Γ=>?_)
 unfold QdS at h
 obtain ⟨e0,h6,h⟩:=Qae h
 refine gn 7 [1,2,5] [0] [] (Qpg Γ rv h6 ?_)
 rcases e0 with e0|e0
 ·replace h:(some true:Option Bool) = some _:=h
  obtain rfl:=Option.some.inj h
  exact gr 2 [] []
 ·obtain ⟨r2,rfl⟩:∃ x,x = e0:=⟨_,rfl⟩
  replace h:(some r2:Option Bool) = some _:=h
  exact Option.some.inj h
def Qeg (Γ:Gam) (rv:Bool) (cf:Cf):Prop:=Go Tryz.prog Tryz.f95 [] Γ (one (.bool rv)) [] cf
def Qkc (Γ:Gam) (rv:Bool) (x0:Qad) (set_:Int) (l:List Qab) (i:Int) (x1:QaQ) (j:Int) (k:Int):Prop:=Qeg Γ rv ⟨[.c 3448612,.l 3448612,.b 4,.b 3,.c 215539,.l 53884,.b 2,.b 1,.c 211,.l 52,.b 0,.c 7],⟨66,[vI 1 set_,vL 2 2 l Qab.enc,vP 3 0 6,vI 7 i,vI 8 x1.x0,vI 9 x1.x1,vI 10 j,vI 11 k],[oX 6 30 (Qad.enc x0)]⟩⟩
def Qi7 (Γ:Gam) (rv:Bool) (x0:Qad) (set_:Int) (l:List Qab) (i:Int) (x1:QaQ) (j:Int):Prop:=Qeg Γ rv ⟨[.b 3,.c 215539,.l 53884,.b 2,.b 1,.c 211,.l 52,.b 0,.c 7],⟨66,[vI 1 set_,vL 2 2 l Qab.enc,vP 3 0 6,vI 7 i,vI 8 x1.x0,vI 9 x1.x1,vI 10 j],[oX 6 30 (Qad.enc x0)]⟩⟩
def Qkb (Γ:Gam) (rv:Bool) (x0:Qad) (set_:Int) (l:List Qab) (i:Int) (x1:QaQ) (j:Int):Prop:=Qeg Γ rv ⟨[.c 53884,.l 53884,.b 2,.b 1,.c 211,.l 52,.b 0,.c 7],⟨66,[vI 1 set_,vL 2 2 l Qab.enc,vP 3 0 6,vI 7 i,vI 8 x1.x0,vI 9 x1.x1,vI 10 j],[oX 6 30 (Qad.enc x0)]⟩⟩
def Qi6 (Γ:Gam) (rv:Bool) (x0:Qad) (set_:Int) (l:List Qab) (i:Int) (x1:QaQ):Prop:=Qeg Γ rv ⟨[.b 1,.c 211,.l 52,.b 0,.c 7],⟨66,[vI 1 set_,vL 2 2 l Qab.enc,vP 3 0 6,vI 7 i],[oX 6 30 (Qad.enc x0)]⟩⟩
def Qka (Γ:Gam) (rv:Bool) (x0:Qad) (set_:Int) (l:List Qab) (i:Int):Prop:=Qeg Γ rv ⟨[.c 52,.l 52,.b 0,.c 7],⟨66,[vI 1 set_,vL 2 2 l Qab.enc,vP 3 0 6,vI 7 i],[oX 6 30 (Qad.enc x0)]⟩⟩
def Qi5 (Γ:Gam) (rv:Bool) (x0:Qad) (set_:Int) (l:List Qab):Prop:=Qeg Γ rv ⟨[.c 7],⟨66,[],[]⟩⟩
theorem QoB (Γ:Gam) (rv:Bool) {x0 set_ l i x1 j} {s:Int} {e:(Unit) ⊕ (Bool)} (h:loopF (fun s=>Qb9 x0 set_ l i x1 j s) s = some e) (hD:sel e (fun e=>Qi7 Γ rv x0 set_ l i x1 j) (fun e=>e = rv)):Qkc Γ rv x0 set_ l i x1 j s:=by
 refine QaD (C:=fun (s:Int)=>Qkc Γ rv x0 set_ l i x1 j s) (D:=fun (e:(Unit) ⊕ (Bool))=>sel e (fun e=>Qi7 Γ rv x0 set_ l i x1 j) (fun e=>e = rv)) ?_ h hD
 clear h hD s e
 intro k z_ h hI hE
 replace h:Qb9 x0 set_ l i x1 j k = _:=h
 unfold Qb9 at h
 rcases Qag h with ⟨h7,h⟩|⟨h7,h⟩
 ·obtain ⟨x2,h8,h⟩:=Qae h
  rcases Qag h with ⟨h9,h⟩|⟨h9,h⟩
  ·obtain ⟨x3,h10,h⟩:=Qae h
   rcases Qag h with ⟨h11,h⟩|⟨h11,h⟩
   ·obtain rfl:=(hE _ (oJ h):_ = rv)
    exact gr 12 [] [bT h7,cE Qab.enc h8,rp 3 (bT h9),cE Qab.enc h10,rp 5 (bT h9),bT h11]
   ·exact gn 14 [1,2,3,7,8,9,10,11] [0] [bT h7,cE Qab.enc h8,rp 3 (bT h9),cE Qab.enc h10,rp 5 (bT h9),bF h11] (hI _ (oJ h))
  ·exact gn 14 [1,2,3,7,8,9,10,11] [0] [bT h7,cE Qab.enc h8,rp 8 (bF h9),fF] (hI _ (oJ h))
 ·exact gn 5 [1,2,3,7,8,9,10] [0] [bF h7] (hE _ (oJ h))
theorem QoA (Γ:Gam) (rv:Bool) {x0 set_ l i x1} {s:Int} {e:(Unit) ⊕ (Bool)} (h:loopF (fun s=>Qb8 x0 set_ l i x1 s) s = some e) (hD:sel e (fun e=>Qi6 Γ rv x0 set_ l i x1) (fun e=>e = rv)):Qkb Γ rv x0 set_ l i x1 s:=by
 refine QaD (C:=fun (s:Int)=>Qkb Γ rv x0 set_ l i x1 s) (D:=fun (e:(Unit) ⊕ (Bool))=>sel e (fun e=>Qi6 Γ rv x0 set_ l i x1) (fun e=>e = rv)) ?_ h hD
 clear h hD s e
 intro j z_ h hI hE
 replace h:Qb8 x0 set_ l i x1 j = _:=h
 unfold Qb8 at h
 rcases Qag h with ⟨h6,h⟩|⟨h6,h⟩
 ·obtain ⟨e0,h12,h⟩:=Qae h
  refine gn 11 [1,2,3,7,8,9,10,11] [0] [nL Qab.enc l,bT h6] (QoB Γ rv h12 ?_)
  rcases e0 with e0|e0
  ·replace h:(some (.inl (addK .i64 j 1)):Option ((Int) ⊕ ((Unit) ⊕ (Bool)))) = some _:=h
   exact gn 3 [1,2,3,7,8,9,10] [0] [] (hI _ (oJ h))
  ·obtain ⟨r2,rfl⟩:∃ x,x = e0:=⟨_,rfl⟩
   replace h:(some (.inr (.inr r2)):Option ((Int) ⊕ ((Unit) ⊕ (Bool)))) = some _:=h
   exact (hE _ (oJ h):_ = rv)
 ·exact gn 5 [1,2,3,7] [0] [nL Qab.enc l,bF h6] (hE _ (oJ h))
theorem Qoz (Γ:Gam) (rv:Bool) {x0 set_ l} {s:Int} {e:(Unit) ⊕ (Bool)} (h:loopF (fun s=>Qb7 x0 set_ l s) s = some e) (hD:sel e (fun e=>Qi5 Γ rv x0 set_ l) (fun e=>e = rv)):Qka Γ rv x0 set_ l s:=by
 refine QaD (C:=fun (s:Int)=>Qka Γ rv x0 set_ l s) (D:=fun (e:(Unit) ⊕ (Bool))=>sel e (fun e=>Qi5 Γ rv x0 set_ l) (fun e=>e = rv)) ?_ h hD
 clear h hD s e
 intro i z_ h hI hE
 replace h:Qb7 x0 set_ l i = _:=h
 unfold Qb7 at h
 rcases Qag h with ⟨h0,h⟩|⟨h0,h⟩
 ·obtain ⟨x1,h1,h⟩:=Qae h
  obtain ⟨r,h2,h⟩:=Qae h
  rcases Qag h with ⟨h3,h⟩|⟨h3,h⟩
  ·obtain ⟨r1,h4,h⟩:=Qae h
   rcases Qag h with ⟨h5,h⟩|⟨h5,h⟩
   ·obtain ⟨e1,h13,h⟩:=Qae h
    refine gn 25 [1,2,3,7,8,9,10] [0] [nL QaQ.enc x0.before,bT h0,cE QaQ.enc h1,oO (zL 0),oO (lT 0 2),cE QaQ.enc h1,oO (zL 1),oO (lT 1 2),cC (QbR h2),nF h3,cC (QbR h4),nF h5] (QoA Γ rv h13 ?_)
    rcases e1 with e1|e1
    ·replace h:(some (.inl (addK .i64 i 1)):Option ((Int) ⊕ ((Unit) ⊕ (Bool)))) = some _:=h
     exact gn 3 [1,2,3,7] [0] [] (hI _ (oJ h))
    ·obtain ⟨r3,rfl⟩:∃ x,x = e1:=⟨_,rfl⟩
     replace h:(some (.inr (.inr r3)):Option ((Int) ⊕ ((Unit) ⊕ (Bool)))) = some _:=h
     exact (hE _ (oJ h):_ = rv)
   ·obtain rfl:=(hE _ (oJ h):_ = rv)
    exact gr 22 [] [nL QaQ.enc x0.before,bT h0,cE QaQ.enc h1,oO (zL 0),oO (lT 0 2),cE QaQ.enc h1,oO (zL 1),oO (lT 1 2),cC (QbR h2),nF h3,cC (QbR h4),nT h5]
  ·exact gn 18 [1,2,3,7] [0] [nL QaQ.enc x0.before,bT h0,cE QaQ.enc h1,oO (zL 0),oO (lT 0 2),cE QaQ.enc h1,oO (zL 1),oO (lT 1 2),cC (QbR h2),nT h3] (hI _ (oJ h))
 ·exact gn 5 [] [] [nL QaQ.enc x0.before,bF h0] (hE _ (oJ h))
theorem QlY {x0 set_ l} {rv:Bool} (h:Qdr x0 set_ l = some rv):AFn Tryz.prog 95 [.agg (Qad.enc x0),.one (lI set_),.one (lL 2 l Qab.enc)] [] (one (.bool rv)) []:=by
 refine QaL Tryz.func95 (by kernel_rfl) (by kernel_rfl) (fun Γ=>?_)
 unfold Qdr at h
 obtain ⟨e2,h14,h⟩:=Qae h
 refine gn 7 [1,2,3,7] [0] [] (Qoz Γ rv h14 ?_)
 rcases e2 with e2|e2
 ·replace h:(some true:Option Bool) = some _:=h
  obtain rfl:=Option.some.inj h
  exact gr 2 [] []
 ·obtain ⟨r4,rfl⟩:∃ x,x = e2:=⟨_,rfl⟩
  replace h:(some r4:Option Bool) = some _:=h
  exact Option.some.inj h
def QeF (Γ:Gam) (rv:Int) (cf:Cf):Prop:=Go Tryz.prog Tryz.f51 [] Γ (one (lI rv)) [] cf
def Qk4 (Γ:Gam) (rv:Int) (x0:Qad) (r:Qac) (i:Int):Prop:=QeF Γ rv ⟨[.c 116,.l 116,.b 0,.c 15],⟨91,[vP 2 0 6,vP 3 1 4,vL 5 2 r.visits Qab.enc,vI 6 i],[oX 6 30 (Qad.enc x0),oX 4 34 (Qac.enc r)]⟩⟩
def Qj4 (Γ:Gam) (rv:Int) (x0:Qad) (r:Qac):Prop:=QeF Γ rv ⟨[.c 15],⟨91,[vP 2 0 6,vP 3 1 4,vL 5 2 r.visits Qab.enc],[oX 6 30 (Qad.enc x0),oX 4 34 (Qac.enc r)]⟩⟩
def Qk5 (Γ:Gam) (rv:Int) (x0:Qad) (r:Qac) (r1:Int × Int) (i1:Int):Prop:=QeF Γ rv ⟨[.c 1012,.l 1012,.b 2,.c 127],⟨91,[vP 2 0 6,vL 5 2 r.visits Qab.enc,vI 7 r1.1,vI 9 i1],[oX 6 30 (Qad.enc x0)]⟩⟩
def Qj5 (Γ:Gam) (rv:Int) (x0:Qad) (r:Qac) (r1:Int × Int):Prop:=QeF Γ rv ⟨[.c 127],⟨91,[vP 2 0 6,vL 5 2 r.visits Qab.enc,vI 7 r1.1],[oX 6 30 (Qad.enc x0)]⟩⟩
def Qk6 (Γ:Gam) (rv:Int) (x0:Qad) (r:Qac) (r1:Int × Int) (i2:Int):Prop:=QeF Γ rv ⟨[.c 2036,.l 2036,.b 4,.c 255],⟨91,[vP 2 0 6,vL 5 2 r.visits Qab.enc,vI 7 r1.1,vI 10 i2],[oX 6 30 (Qad.enc x0)]⟩⟩
def Qj6 (Γ:Gam) (rv:Int) (x0:Qad) (r:Qac) (r1:Int × Int):Prop:=QeF Γ rv ⟨[.c 255],⟨91,[vP 2 0 6,vL 5 2 r.visits Qab.enc,vI 7 r1.1],[oX 6 30 (Qad.enc x0)]⟩⟩
theorem Qpc (Γ:Gam) (rv:Int) {x0 r} {s:Int} {e:(Unit) ⊕ (Int)} (h:loopF (fun s=>Qco x0 r s) s = some e) (hD:sel e (fun e=>Qj4 Γ rv x0 r) (fun e=>e = rv)):Qk4 Γ rv x0 r s:=by
 refine QaD (C:=fun (s:Int)=>Qk4 Γ rv x0 r s) (D:=fun (e:(Unit) ⊕ (Int))=>sel e (fun e=>Qj4 Γ rv x0 r) (fun e=>e = rv)) ?_ h hD
 clear h hD s e
 intro i z_ h hI hE
 replace h:Qco x0 r i = _:=h
 unfold Qco at h
 rcases Qag h with ⟨h0,h⟩|⟨h0,h⟩
 ·obtain ⟨x1,h1,h⟩:=Qae h
  rcases Qag h with ⟨h2,h⟩|⟨h2,h⟩
  ·obtain rfl:=(hE _ (oJ h):_ = rv)
   exact gr 12 [] [nL Qab.enc r.visits,bT h0,hH (.draw 17 []),cE Qab.enc h1,rp 10 (bT h2),tT]
  ·rcases Qag h with ⟨h3,h⟩|⟨h3,h⟩
   ·obtain rfl:=(hE _ (oJ h):_ = rv)
    exact gr 12 [] [nL Qab.enc r.visits,bT h0,hH (.draw 17 []),cE Qab.enc h1,rp 3 (bF h2),cE Qab.enc h1,rp 5 (bF h2),nL Qak.enc x0.orders,bF h2,bF h2,bT h3]
   ·exact gn 14 [2,3,5,6] [0,1] [nL Qab.enc r.visits,bT h0,hH (.draw 17 []),cE Qab.enc h1,rp 3 (bF h2),cE Qab.enc h1,rp 5 (bF h2),nL Qak.enc x0.orders,bF h2,bF h2,bF h3] (hI _ (oJ h))
 ·exact gn 5 [2,3,5] [0,1] [nL Qab.enc r.visits,bF h0] (hE _ (oJ h))
theorem Qpd (Γ:Gam) (rv:Int) {x0 r r1} {s:Int} {e:(Unit) ⊕ (Int)} (h:loopF (fun s=>QbV x0 r r1 s) s = some e) (hD:sel e (fun e=>Qj5 Γ rv x0 r r1) (fun e=>e = rv)):Qk5 Γ rv x0 r r1 s:=by
 refine QaD (C:=fun (s:Int)=>Qk5 Γ rv x0 r r1 s) (D:=fun (e:(Unit) ⊕ (Int))=>sel e (fun e=>Qj5 Γ rv x0 r r1) (fun e=>e = rv)) ?_ h hD
 clear h hD s e
 intro i1 z_ h hI hE
 replace h:QbV x0 r r1 i1 = _:=h
 unfold QbV at h
 rcases Qag h with ⟨h7,h⟩|⟨h7,h⟩
 ·obtain ⟨x2,h8,h⟩:=Qae h
  obtain ⟨x3,h9,h⟩:=Qae h
  rcases Qag h with ⟨h10,h⟩|⟨h10,h⟩
  ·obtain rfl:=(hE _ (oJ h):_ = rv)
   exact gr 12 [] [nL Qab.enc r.visits,bT h7,hH (.draw 10 []),cE Qab.enc h8,cE Qak.enc h9,bT h10]
  ·exact gn 14 [2,5,7,9] [0] [nL Qab.enc r.visits,bT h7,hH (.draw 10 []),cE Qab.enc h8,cE Qak.enc h9,bF h10] (hI _ (oJ h))
 ·exact gn 5 [2,5,7] [0] [nL Qab.enc r.visits,bF h7] (hE _ (oJ h))
theorem Qpe (Γ:Gam) (rv:Int) {x0 r r1} {s:Int} {e:(Unit) ⊕ (Int)} (h:loopF (fun s=>QbF x0 r r1 s) s = some e) (hD:sel e (fun e=>Qj6 Γ rv x0 r r1) (fun e=>e = rv)):Qk6 Γ rv x0 r r1 s:=by
 refine QaD (C:=fun (s:Int)=>Qk6 Γ rv x0 r r1 s) (D:=fun (e:(Unit) ⊕ (Int))=>sel e (fun e=>Qj6 Γ rv x0 r r1) (fun e=>e = rv)) ?_ h hD
 clear h hD s e
 intro i2 z_ h hI hE
 replace h:QbF x0 r r1 i2 = _:=h
 unfold QbF at h
 rcases Qag h with ⟨h12,h⟩|⟨h12,h⟩
 ·obtain ⟨x4,h13,h⟩:=Qae h
  obtain ⟨r2,h14,h⟩:=Qae h
  rcases Qag h with ⟨h15,h⟩|⟨h15,h⟩
  ·obtain rfl:=(hE _ (oJ h):_ = rv)
   exact gr 12 [] [nL Qab.enc r.visits,bT h12,cE Qab.enc h13,cC (Qbk h14),bT h15]
  ·exact gn 14 [2,5,7,10] [0] [nL Qab.enc r.visits,bT h12,cE Qab.enc h13,cC (Qbk h14),bF h15] (hI _ (oJ h))
 ·exact gn 5 [2,5,7] [0] [nL Qab.enc r.visits,bF h12] (hE _ (oJ h))
theorem QgI {x0 r} {rv:Int} (h:QfO x0 r = some rv):AFn Tryz.prog 51 [.agg (Qad.enc x0),.agg (Qac.enc r)] [] (one (lI rv)) []:=by
 refine QaL Tryz.func51 (by kernel_rfl) (by kernel_rfl) (fun Γ=>?_)
 unfold QfO at h
 obtain ⟨e0,h4,h⟩:=Qae h
 refine gn 9 [2,3,5,6] [0,1] [] (Qpc Γ rv h4 ?_)
 rcases e0 with e0|e0
 ·replace h:(bnd (Qe4 r) fun r1=>br ((neI r1.2 0) || (eqI (lenI r.visits) 0)) (some 2) (bnd (loopF (fun s=>QbV x0 r r1 s) 0) (fun e=>sel e (fun (_:Unit)=>bnd (loopF (fun s=>QbF x0 r r1 s) 0) (fun e=>sel e (fun (_:Unit)=>bnd (Qds x0 r.visits) fun r3=>br r3 (bnd (QdS x0 r1.1) fun r4=>br r4 (bnd (Qdr x0 r1.1 r.visits) fun r5=>br r5 (some 0) (some 21)) (some 20)) (some 19)) (fun r6=>some r6))) (fun r7=>some r7))):Option Int) = some _:=h
  obtain ⟨r1,h5,h⟩:=Qae h
  rcases Qag h with ⟨h6,h⟩|⟨h6,h⟩
  ·obtain rfl:=Option.some.inj h
   exact gr 8 [] [cC (QlX h5),hP,hP,oI ((neI r1.2 0) = false),nL Qab.enc r.visits,hP,hP,oI ((neI r1.2 0) = false),oR True ((neI r1.2 0) = false),bT h6]
  ·obtain ⟨e1,h11,h⟩:=Qae h
   refine gn 12 [2,5,7,9] [0] [cC (QlX h5),hP,hP,oI ((neI r1.2 0) = false),nL Qab.enc r.visits,hP,hP,oI ((neI r1.2 0) = false),oR True ((neI r1.2 0) = false),bF h6] (Qpd Γ rv h11 ?_)
   rcases e1 with e1|e1
   ·replace h:(bnd (loopF (fun s=>QbF x0 r r1 s) 0) (fun e=>sel e (fun (_:Unit)=>bnd (Qds x0 r.visits) fun r3=>br r3 (bnd (QdS x0 r1.1) fun r4=>br r4 (bnd (Qdr x0 r1.1 r.visits) fun r5=>br r5 (some 0) (some 21)) (some 20)) (some 19)) (fun r6=>some r6)):Option Int) = some _:=h
    obtain ⟨e2,h16,h⟩:=Qae h
    refine gn 5 [2,5,7,10] [0] [] (Qpe Γ rv h16 ?_)
    rcases e2 with e2|e2
    ·replace h:(bnd (Qds x0 r.visits) fun r3=>br r3 (bnd (QdS x0 r1.1) fun r4=>br r4 (bnd (Qdr x0 r1.1 r.visits) fun r5=>br r5 (some 0) (some 21)) (some 20)) (some 19):Option Int) = some _:=h
     obtain ⟨r3,h17,h⟩:=Qae h
     rcases Qag h with ⟨h18,h⟩|⟨h18,h⟩
     ·obtain ⟨r4,h19,h⟩:=Qae h
      rcases Qag h with ⟨h20,h⟩|⟨h20,h⟩
      ·obtain ⟨r5,h21,h⟩:=Qae h
       rcases Qag h with ⟨h22,h⟩|⟨h22,h⟩
       ·obtain rfl:=Option.some.inj h
        exact gr 17 [] [cC (Qf9 h17),nF h18,cC (QiD h19),nF h20,cC (QlY h21),nF h22]
       ·obtain rfl:=Option.some.inj h
        exact gr 16 [] [cC (Qf9 h17),nF h18,cC (QiD h19),nF h20,cC (QlY h21),nT h22]
      ·obtain rfl:=Option.some.inj h
       exact gr 11 [] [cC (Qf9 h17),nF h18,cC (QiD h19),nT h20]
     ·obtain rfl:=Option.some.inj h
      exact gr 6 [] [cC (Qf9 h17),nT h18]
    ·obtain ⟨r6,rfl⟩:∃ x,x = e2:=⟨_,rfl⟩
     replace h:(some r6:Option Int) = some _:=h
     exact Option.some.inj h
   ·obtain ⟨r7,rfl⟩:∃ x,x = e1:=⟨_,rfl⟩
    replace h:(some r7:Option Int) = some _:=h
    exact Option.some.inj h
 ·obtain ⟨r8,rfl⟩:∃ x,x = e0:=⟨_,rfl⟩
  replace h:(some r8:Option Int) = some _:=h
  exact Option.some.inj h
def Qoh (Γ:Gam) (rv:Bool) (cf:Cf):Prop:=Go Tryz.prog Tryz.f52 [] Γ (one (.bool rv)) [] cf
def QlV (Γ:Gam) (rv:Bool) (t:Qai) (skills:Int) (bit:Int):Prop:=Qoh Γ rv ⟨[.c 116,.l 116,.b 0,.c 15],⟨30,[vI 1 skills,vP 2 0 14,vI 5 bit],[oX 14 101 (Qai.enc t)]⟩⟩
def QkW (Γ:Gam) (rv:Bool) (t:Qai) (skills:Int):Prop:=Qoh Γ rv ⟨[.c 15],⟨30,[],[]⟩⟩
theorem QpX (Γ:Gam) (rv:Bool) {t skills} {s:Int} {e:(Unit) ⊕ (Bool)} (h:loopF (fun s=>Qda t skills s) s = some e) (hD:sel e (fun e=>QkW Γ rv t skills) (fun e=>e = rv)):QlV Γ rv t skills s:=by
 refine QaD (C:=fun (s:Int)=>QlV Γ rv t skills s) (D:=fun (e:(Unit) ⊕ (Bool))=>sel e (fun e=>QkW Γ rv t skills) (fun e=>e = rv)) ?_ h hD
 clear h hD s e
 intro bit z_ h hI hE
 replace h:Qda t skills bit = _:=h
 unfold Qda at h
 rcases Qag h with ⟨h1,h⟩|⟨h1,h⟩
 ·obtain ⟨h2,h⟩:=Qas h
  rcases Qag h with ⟨h3,h⟩|⟨h3,h⟩
  ·obtain ⟨h4,h⟩:=Qas h
   rcases Qag h with ⟨h5,h⟩|⟨h5,h⟩
   ·obtain rfl:=(hE _ (oJ h):_ = rv)
    exact gr 12 [] [bT h1,oO (h2),oO (oA (n:=2)),rp 4 (bT h3),oO (h4),bT h3,oO (oA (n:=2)),bT h3,bT h3,bT h5]
   ·exact gn 14 [1,2,5] [0] [bT h1,oO (h2),oO (oA (n:=2)),rp 4 (bT h3),oO (h4),bT h3,oO (oA (n:=2)),bT h3,bT h3,bF h5] (hI _ (oJ h))
  ·exact gn 14 [1,2,5] [0] [bT h1,oO (h2),oO (oA (n:=2)),rp 7 (bF h3),fF] (hI _ (oJ h))
 ·exact gn 5 [] [] [bF h1] (hE _ (oJ h))
theorem Qnl {t skills} {rv:Bool} (h:Qgp t skills = some rv):AFn Tryz.prog 52 [.agg (Qai.enc t),.one (lI skills)] [] (one (.bool rv)) []:=by
 refine QaL Tryz.func52 (by kernel_rfl) (by kernel_rfl) (fun Γ=>?_)
 unfold Qgp at h
 rcases Qag h with ⟨h0,h⟩|⟨h0,h⟩
 ·obtain rfl:=Option.some.inj h
  exact gr 8 [] [hP,hP,hP,oI ((ltI t.skills 0) = false),oR True ((ltI t.skills 0) = false),bT h0]
 ·obtain ⟨e0,h6,h⟩:=Qae h
  refine gn 12 [1,2,5] [0] [hP,hP,hP,oI ((ltI t.skills 0) = false),oR True ((ltI t.skills 0) = false),bF h0] (QpX Γ rv h6 ?_)
  rcases e0 with e0|e0
  ·replace h:(some true:Option Bool) = some _:=h
   obtain rfl:=Option.some.inj h
   exact gr 2 [] []
  ·obtain ⟨r,rfl⟩:∃ x,x = e0:=⟨_,rfl⟩
   replace h:(some r:Option Bool) = some _:=h
   exact Option.some.inj h
def Qof (Γ:Gam) (rv:Bool) (cf:Cf):Prop:=Go Tryz.prog Tryz.f163 [] Γ (one (.bool rv)) [] cf
def QlT (Γ:Gam) (rv:Bool) (l:List (List Int)) (dims:Int) (i:Int):Prop:=Qof Γ rv ⟨[.c 116,.l 116,.b 0,.c 15],⟨25,[vL 0 1 l Qba,vI 1 dims,vI 5 i],[]⟩⟩
def QkT (Γ:Gam) (rv:Bool) (l:List (List Int)) (dims:Int):Prop:=Qof Γ rv ⟨[.c 15],⟨25,[],[]⟩⟩
theorem QpV (Γ:Gam) (rv:Bool) {l dims} {s:Int} {e:(Unit) ⊕ (Bool)} (h:loopF (fun s=>QcL l dims s) s = some e) (hD:sel e (fun e=>QkT Γ rv l dims) (fun e=>e = rv)):QlT Γ rv l dims s:=by
 refine QaD (C:=fun (s:Int)=>QlT Γ rv l dims s) (D:=fun (e:(Unit) ⊕ (Bool))=>sel e (fun e=>QkT Γ rv l dims) (fun e=>e = rv)) ?_ h hD
 clear h hD s e
 intro i z_ h hI hE
 replace h:QcL l dims i = _:=h
 unfold QcL at h
 rcases Qag h with ⟨h1,h⟩|⟨h1,h⟩
 ·obtain ⟨x0,h2,h⟩:=Qae h
  rcases Qag h with ⟨h3,h⟩|⟨h3,h⟩
  ·obtain rfl:=(hE _ (oJ h):_ = rv)
   exact gr 12 [] [nL Qba l,bT h1,cE Qba h2,nL e_i64 x0,bT h3]
  ·exact gn 14 [0,1,5] [] [nL Qba l,bT h1,cE Qba h2,nL e_i64 x0,bF h3] (hI _ (oJ h))
 ·exact gn 5 [] [] [nL Qba l,bF h1] (hE _ (oJ h))
theorem Qng {l dims} {rv:Bool} (h:QhG l dims = some rv):AFn Tryz.prog 163 [.one (lL 1 l Qba),.one (lI dims)] [] (one (.bool rv)) []:=by
 refine QaL Tryz.func163 (by kernel_rfl) (by kernel_rfl) (fun Γ=>?_)
 unfold QhG at h
 rcases Qag h with ⟨h0,h⟩|⟨h0,h⟩
 ·obtain rfl:=Option.some.inj h
  exact gr 8 [] [hP,hP,hP,oI ((ltI dims 0) = false),oR True ((ltI dims 0) = false),bT h0]
 ·obtain ⟨e0,h4,h⟩:=Qae h
  refine gn 12 [0,1,5] [] [hP,hP,hP,oI ((ltI dims 0) = false),oR True ((ltI dims 0) = false),bF h0] (QpV Γ rv h4 ?_)
  rcases e0 with e0|e0
  ·replace h:(some true:Option Bool) = some _:=h
   obtain rfl:=Option.some.inj h
   exact gr 2 [] []
  ·obtain ⟨r,rfl⟩:∃ x,x = e0:=⟨_,rfl⟩
   replace h:(some r:Option Bool) = some _:=h
   exact Option.some.inj h
def Qiv (Γ:Gam) (rv:List Int × Int) (cf:Cf):Prop:=Go Tryz.prog Tryz.f155 [] Γ (.tup [.one (lL 1 rv.1 e_i64),.one (lI rv.2)]) [] cf
def Qmx (Γ:Gam) (rv:List Int × Int) (l:List (List Int)) (dims:Int) (l1:List Int) (d:Int) (n:Int) (i:Int):Prop:=Qiv Γ rv ⟨[.c 62612,.l 62612,.b 2,.c 7827,.b 1,.c 979,.l 244,.b 0,.c 31],⟨39,[vL 0 1 l Qba,vI 1 dims,vO 6 0 1 l1 e_i64,vI 7 d,vI 8 n,vI 9 i],[oS 1 3 l1 e_i64]⟩⟩
def QlS (Γ:Gam) (rv:List Int × Int) (l:List (List Int)) (dims:Int) (l1:List Int) (d:Int) (n1:Int):Prop:=Qiv Γ rv ⟨[.c 7827,.b 1,.c 979,.l 244,.b 0,.c 31],⟨39,[vL 0 1 l Qba,vI 1 dims,vO 6 0 1 l1 e_i64,vI 7 d,vI 8 n1],[oS 1 3 l1 e_i64]⟩⟩
def Qmw (Γ:Gam) (rv:List Int × Int) (l:List (List Int)) (dims:Int) (l1:List Int) (d:Int):Prop:=Qiv Γ rv ⟨[.c 244,.l 244,.b 0,.c 31],⟨39,[vL 0 1 l Qba,vI 1 dims,vO 6 0 1 l1 e_i64,vI 7 d],[oS 1 3 l1 e_i64]⟩⟩
def QlR (Γ:Gam) (rv:List Int × Int) (l:List (List Int)) (dims:Int) (l2:List Int):Prop:=Qiv Γ rv ⟨[.c 31],⟨39,[vO 6 0 1 l2 e_i64],[oS 1 3 l2 e_i64]⟩⟩
theorem Qqs (Γ:Gam) (rv:List Int × Int) {l dims l1 d} {s:Int × Int} {e:Int} (h:loopF (fun s=>QcF l dims l1 d s.1 s.2) s = some e) (hD:QlS Γ rv l dims l1 d e):Qmx Γ rv l dims l1 d s.1 s.2:=by
 refine QaD (C:=fun (s:Int × Int)=>Qmx Γ rv l dims l1 d s.1 s.2) (D:=fun (e:Int)=>QlS Γ rv l dims l1 d e) ?_ h hD
 clear h hD s e
 rintro ⟨n,i⟩ z_ h hI hE
 replace h:QcF l dims l1 d n i = _:=h
 unfold QcF at h
 rcases Qag h with ⟨h3,h⟩|⟨h3,h⟩
 ·obtain ⟨x0,h4,h⟩:=Qae h
  obtain ⟨x1,h5,h⟩:=Qae h
  exact gn 11 [0,1,6,7,8,9] [0] [nL Qba l,bT h3,cE Qba h4,cE e_i64 h5] (hI _ (oJ h))
 ·exact gn 5 [0,1,6,7,8] [0] [nL Qba l,bF h3] (hE _ (oJ h))
theorem Qqr (Γ:Gam) (rv:List Int × Int) {l dims} {s:List Int × Int} {e:List Int} (h:loopF (fun s=>QcE l dims s.1 s.2) s = some e) (hD:QlR Γ rv l dims e):Qmw Γ rv l dims s.1 s.2:=by
 refine QaD (C:=fun (s:List Int × Int)=>Qmw Γ rv l dims s.1 s.2) (D:=fun (e:List Int)=>QlR Γ rv l dims e) ?_ h hD
 clear h hD s e
 rintro ⟨l1,d⟩ z_ h hI hE
 replace h:QcE l dims l1 d = _:=h
 unfold QcE at h
 rcases Qag h with ⟨h2,h⟩|⟨h2,h⟩
 ·obtain ⟨e0,h6,h⟩:=Qae h
  refine gn 14 [0,1,6,7,8,9] [0] [bT h2] (Qqs Γ rv h6 ?_)
  obtain ⟨n1,rfl⟩:∃ x,x = e0:=⟨_,rfl⟩
  replace h:(chk (okN (l1 ++ [n1]).length 8) (some (.inl ((l1 ++ [n1]),(addK .i64 d 1)))):Option ((List Int × Int) ⊕ (List Int))) = some _:=h
  obtain ⟨h7,h⟩:=Qas h
  exact gn 4 [0,1,6,7] [2] [oO (Eq.refl ([n1].map e_i64).length),aO e_i64 h7] (hI _ (oJ h))
 ·exact gn 5 [6] [0] [bF h2] (hE _ (oJ h))
theorem Qr2 {l dims} {rv:List Int × Int} (h:Qhc l dims = some rv):AFn Tryz.prog 155 [.one (lL 1 l Qba),.one (lI dims)] [] (.tup [.one (lL 1 rv.1 e_i64),.one (lI rv.2)]) []:=by
 refine QaL Tryz.func155 (by kernel_rfl) (by kernel_rfl) (fun Γ=>?_)
 unfold Qhc at h
 obtain ⟨r,h0,h⟩:=Qae h
 rcases Qag h with ⟨h1,h⟩|⟨h1,h⟩
 ·obtain ⟨e1,h8,h⟩:=Qae h
  refine gn 14 [0,1,6,7] [0] [cC (Qng h0),nF h1,hW 10,hH (.adopt 6 1 3)] (Qqr Γ rv h8 ?_)
  obtain ⟨l2,rfl⟩:∃ x,x = e1:=⟨_,rfl⟩
  replace h:(some (l2,0):Option (List Int × Int)) = some _:=h
  obtain rfl:=Option.some.inj h
  exact gr 2 [] [hW 5,hH (.frz 0),rp 3 (eL l2 e_i64)]
 ·obtain rfl:=Option.some.inj h
  exact gr 8 [] [cC (Qng h0),nT h1,hW 4,hH (.nilS 4 0 1)]
theorem Qrs {x0} {rv:Int} (h:Qgr x0 = some rv):AFn Tryz.prog 156 [.agg (Qad.enc x0)] [] (one (lI rv)) []:=by
 refine QaL Tryz.func156 (by kernel_rfl) (by kernel_rfl) (fun Γ=>?_)
 unfold Qgr at h
 rcases Qag h with ⟨h0,h⟩|⟨h0,h⟩
 ·obtain rfl:=Option.some.inj h
  exact gr 8 [] [nL Qai.enc x0.types,bT h0]
 ·obtain ⟨x1,h1,h⟩:=Qae h
  obtain rfl:=Option.some.inj h
  exact gr 9 [] [nL Qai.enc x0.types,bF h0,cE Qai.enc h1,nL e_i64 x1.cap]
def Qhe (Γ:Gam) (rv:List Int × Int) (cf:Cf):Prop:=Go Tryz.prog Tryz.f140 [] Γ (.tup [.one (lL 1 rv.1 e_i64),.one (lI rv.2)]) [] cf
def Qld (Γ:Gam) (rv:List Int × Int) (x0:Qad) (l:List Qab) (n:Int) (l1:List (List Int)) (i:Int) (on_:Bool) (there:Bool) (k:Int):Prop:=Qhe Γ rv ⟨[.c 29844,.l 29844,.b 2,.c 3731,.b 1,.c 467,.l 116,.b 0,.c 15],⟨69,[vL 1 2 l Qab.enc,vI 2 n,vP 3 0 6,vO 8 1 1 l1 Qba,vI 9 i,vB 10 on_,vB 11 there,vI 12 k],[oX 6 30 (Qad.enc x0),oS 1 43 l1 Qba]⟩⟩
def Qkg (Γ:Gam) (rv:List Int × Int) (x0:Qad) (l:List Qab) (n:Int) (l1:List (List Int)) (i:Int) (on_1:Bool) (there1:Bool):Prop:=Qhe Γ rv ⟨[.c 3731,.b 1,.c 467,.l 116,.b 0,.c 15],⟨69,[vL 1 2 l Qab.enc,vI 2 n,vP 3 0 6,vO 8 1 1 l1 Qba,vI 9 i,vB 10 on_1,vB 11 there1],[oX 6 30 (Qad.enc x0),oS 1 43 l1 Qba]⟩⟩
def Qlc (Γ:Gam) (rv:List Int × Int) (x0:Qad) (l:List Qab) (n:Int) (l1:List (List Int)) (i:Int):Prop:=Qhe Γ rv ⟨[.c 116,.l 116,.b 0,.c 15],⟨69,[vL 1 2 l Qab.enc,vI 2 n,vP 3 0 6,vO 8 1 1 l1 Qba,vI 9 i],[oX 6 30 (Qad.enc x0),oS 1 43 l1 Qba]⟩⟩
def Qkf (Γ:Gam) (rv:List Int × Int) (x0:Qad) (l:List Qab) (n:Int) (l2:List (List Int)):Prop:=Qhe Γ rv ⟨[.c 15],⟨69,[vP 3 0 6,vO 8 1 1 l2 Qba],[oX 6 30 (Qad.enc x0),oS 1 43 l2 Qba]⟩⟩
theorem Qpj (Γ:Gam) (rv:List Int × Int) {x0 l n l1 i} {s:Bool × Bool × Int} {e:Bool × Bool} (h:loopF (fun s=>QbY x0 l n l1 i s.1 s.2.1 s.2.2) s = some e) (hD:Qkg Γ rv x0 l n l1 i e.1 e.2):Qld Γ rv x0 l n l1 i s.1 s.2.1 s.2.2:=by
 refine QaD (C:=fun (s:Bool × Bool × Int)=>Qld Γ rv x0 l n l1 i s.1 s.2.1 s.2.2) (D:=fun (e:Bool × Bool)=>Qkg Γ rv x0 l n l1 i e.1 e.2) ?_ h hD
 clear h hD s e
 rintro ⟨on_,there,k⟩ z_ h hI hE
 replace h:QbY x0 l n l1 i on_ there k = _:=h
 unfold QbY at h
 rcases Qag h with ⟨h2,h⟩|⟨h2,h⟩
 ·obtain ⟨x2,h3,h⟩:=Qae h
  rcases Qag h with ⟨h4,h⟩|⟨h4,h⟩
  ·exact gn 14 [1,2,3,8,9,10,11,12] [0,1] [nL Qab.enc l,bT h2,cE Qab.enc h3,bT h4] (hI _ (oJ h))
  ·rcases Qag h with ⟨h5,h⟩|⟨h5,h⟩
   ·exact gn 21 [1,2,3,8,9,10,11,12] [0,1] [nL Qab.enc l,bT h2,cE Qab.enc h3,bF h4,bT h5,cE Qab.enc h3] (hI _ (oJ h))
   ·exact gn 21 [1,2,3,8,9,10,11,12] [0,1] [nL Qab.enc l,bT h2,cE Qab.enc h3,bF h4,bF h5] (hI _ (oJ h))
 ·exact gn 5 [1,2,3,8,9,10,11] [0,1] [nL Qab.enc l,bF h2] (hE _ (oJ h))
theorem Qpi (Γ:Gam) (rv:List Int × Int) {x0 l n} {s:List (List Int) × Int} {e:List (List Int)} (h:loopF (fun s=>QbX x0 l n s.1 s.2) s = some e) (hD:Qkf Γ rv x0 l n e):Qlc Γ rv x0 l n s.1 s.2:=by
 refine QaD (C:=fun (s:List (List Int) × Int)=>Qlc Γ rv x0 l n s.1 s.2) (D:=fun (e:List (List Int))=>Qkf Γ rv x0 l n e) ?_ h hD
 clear h hD s e
 rintro ⟨l1,i⟩ z_ h hI hE
 replace h:QbX x0 l n l1 i = _:=h
 unfold QbX at h
 rcases Qag h with ⟨h0,h⟩|⟨h0,h⟩
 ·obtain ⟨x1,h1,h⟩:=Qae h
  obtain ⟨e0,h6,h⟩:=Qae h
  refine gn 14 [1,2,3,8,9,10,11,12] [0,1] [nL Qak.enc x0.orders,bT h0,cE Qak.enc h1] (Qpj Γ rv h6 ?_)
  obtain ⟨on_1,there1⟩:=e0
  replace h:(br (on_1 && there1) (bnd (getI x0.orders i) fun x3=>chk (okN (l1 ++ [x3.load]).length 24) (some (.inl ((l1 ++ [x3.load]),(addK .i64 i 1))))) (some (.inl (l1,(addK .i64 i 1)))):Option ((List (List Int) × Int) ⊕ (List (List Int)))) = some _:=h
  rcases Qag h with ⟨h7,h⟩|⟨h7,h⟩
  ·obtain ⟨x3,h8,h⟩:=Qae h
   obtain ⟨h9,h⟩:=Qas h
   exact gn 7 [1,2,3,8,9] [0,3] [hP,hP,oR True (on_1 = true),bT h7,cE Qak.enc h8,oO (Eq.refl ([x3.load].map Qba).length),aO Qba h9] (hI _ (oJ h))
  ·exact gn 7 [1,2,3,8,9] [0,1] [hP,hP,oR True (on_1 = true),bF h7] (hI _ (oJ h))
 ·exact gn 5 [3,8] [0,1] [nL Qak.enc x0.orders,bF h0] (hE _ (oJ h))
theorem QmE {x0 l n} {rv:List Int × Int} (h:Qg1 x0 l n = some rv):AFn Tryz.prog 140 [.agg (Qad.enc x0),.one (lL 2 l Qab.enc),.one (lI n)] [] (.tup [.one (lL 1 rv.1 e_i64),.one (lI rv.2)]) []:=by
 refine QaL Tryz.func140 (by kernel_rfl) (by kernel_rfl) (fun Γ=>?_)
 unfold Qg1 at h
 obtain ⟨e1,h10,h⟩:=Qae h
 refine gn 9 [1,2,3,8,9] [0,1] [hW 14,hH (.adopt 8 1 43)] (Qpi Γ rv h10 ?_)
 obtain ⟨l2,rfl⟩:∃ x,x = e1:=⟨_,rfl⟩
 replace h:(bnd (Qgr x0) fun r=>bnd (Qhc l2 r) fun r1=>some (r1.1,r1.2):Option (List Int × Int)) = some _:=h
 obtain ⟨r,h11,h⟩:=Qae h
 obtain ⟨r1,h12,h⟩:=Qae h
 obtain rfl:=Option.some.inj h
 exact gr 2 [] [cC (Qrs h11),hH (.frz 1),rp 2 (eL l2 Qba),cC (Qr2 h12)]
def Qnr (Γ:Gam) (rv:List (List Int) × Int) (cf:Cf):Prop:=Go Tryz.prog Tryz.f96 [] Γ (.tup [.one (lL 1 rv.1 Qba),.one (lI rv.2)]) [] cf
def Qlb (Γ:Gam) (rv:List (List Int) × Int) (x0:Qad) (r:Qac) (l:List (List Int)) (n:Int):Prop:=Qnr Γ rv ⟨[.c 244,.l 244,.b 0,.c 31],⟨40,[vP 2 0 6,vP 3 1 4,vO 7 2 1 l Qba,vI 8 n],[oX 6 30 (Qad.enc x0),oX 4 34 (Qac.enc r),oS 1 43 l Qba]⟩⟩
def Qke (Γ:Gam) (rv:List (List Int) × Int) (x0:Qad) (r:Qac) (l1:List (List Int)):Prop:=Qnr Γ rv ⟨[.c 31],⟨40,[vO 7 0 1 l1 Qba],[oS 1 43 l1 Qba]⟩⟩
theorem Qph (Γ:Gam) (rv:List (List Int) × Int) {x0 r} {s:List (List Int) × Int} {e:(List (List Int)) ⊕ (List (List Int) × Int)} (h:loopF (fun s=>QbW x0 r s.1 s.2) s = some e) (hD:sel e (fun e=>Qke Γ rv x0 r e) (fun e=>e = rv)):Qlb Γ rv x0 r s.1 s.2:=by
 refine QaD (C:=fun (s:List (List Int) × Int)=>Qlb Γ rv x0 r s.1 s.2) (D:=fun (e:(List (List Int)) ⊕ (List (List Int) × Int))=>sel e (fun e=>Qke Γ rv x0 r e) (fun e=>e = rv)) ?_ h hD
 clear h hD s e
 rintro ⟨l,n⟩ z_ h hI hE
 replace h:QbW x0 r l n = _:=h
 unfold QbW at h
 rcases Qag h with ⟨h2,h⟩|⟨h2,h⟩
 ·obtain ⟨r2,h3,h⟩:=Qae h
  rcases Qag h with ⟨h4,h⟩|⟨h4,h⟩
  ·obtain rfl:=(hE _ (oJ h):_ = rv)
   exact gr 15 [] [nL Qab.enc r.visits,bT h2,cC (QmE h3),bT h4,hW 5,hH (.nilS 4 0 1)]
  ·obtain ⟨h5,h⟩:=Qas h
   exact gn 18 [2,3,7,8] [0,1,4] [nL Qab.enc r.visits,bT h2,cC (QmE h3),bF h4,oO (Eq.refl ([r2.1].map Qba).length),aO Qba h5] (hI _ (oJ h))
 ·exact gn 5 [7] [2] [nL Qab.enc r.visits,bF h2] (hE _ (oJ h))
theorem QmD {x0 r} {rv:List (List Int) × Int} (h:Qg0 x0 r = some rv):AFn Tryz.prog 96 [.agg (Qad.enc x0),.agg (Qac.enc r)] [] (.tup [.one (lL 1 rv.1 Qba),.one (lI rv.2)]) []:=by
 refine QaL Tryz.func96 (by kernel_rfl) (by kernel_rfl) (fun Γ=>?_)
 unfold Qg0 at h
 obtain ⟨r1,h0,h⟩:=Qae h
 rcases Qag h with ⟨h1,h⟩|⟨h1,h⟩
 ·obtain rfl:=Option.some.inj h
  exact gr 10 [] [cC (QgI h0),bT h1,hW 5,hH (.nilS 4 0 1)]
 ·obtain ⟨e0,h6,h⟩:=Qae h
  refine gn 16 [2,3,7,8] [0,1,2] [cC (QgI h0),bF h1,hW 10,hH (.adopt 7 1 43)] (Qph Γ rv h6 ?_)
  rcases e0 with e0|e0
  ·obtain ⟨l1,rfl⟩:∃ x,x = e0:=⟨_,rfl⟩
   replace h:(some (l1,0):Option (List (List Int) × Int)) = some _:=h
   obtain rfl:=Option.some.inj h
   exact gr 2 [] [hW 5,hH (.frz 0),rp 3 (eL l1 Qba)]
  ·obtain ⟨r3,rfl⟩:∃ x,x = e0:=⟨_,rfl⟩
   replace h:(some r3:Option (List (List Int) × Int)) = some _:=h
   exact Option.some.inj h
def Qoe (Γ:Gam) (rv:Bool) (cf:Cf):Prop:=Go Tryz.prog Tryz.f97 [] Γ (one (.bool rv)) [] cf
def QlQ (Γ:Gam) (rv:Bool) (a:List Int) (capacity:List Int) (i:Int):Prop:=Qoe Γ rv ⟨[.c 116,.l 116,.b 0,.c 15],⟨26,[vL 0 1 a e_i64,vL 1 1 capacity e_i64,vI 5 i],[]⟩⟩
def QkR (Γ:Gam) (rv:Bool) (a:List Int) (capacity:List Int):Prop:=Qoe Γ rv ⟨[.c 15],⟨26,[],[]⟩⟩
theorem QpU (Γ:Gam) (rv:Bool) {a capacity} {s:Int} {e:(Unit) ⊕ (Bool)} (h:loopF (fun s=>QcK a capacity s) s = some e) (hD:sel e (fun e=>QkR Γ rv a capacity) (fun e=>e = rv)):QlQ Γ rv a capacity s:=by
 refine QaD (C:=fun (s:Int)=>QlQ Γ rv a capacity s) (D:=fun (e:(Unit) ⊕ (Bool))=>sel e (fun e=>QkR Γ rv a capacity) (fun e=>e = rv)) ?_ h hD
 clear h hD s e
 intro i z_ h hI hE
 replace h:QcK a capacity i = _:=h
 unfold QcK at h
 rcases Qag h with ⟨h1,h⟩|⟨h1,h⟩
 ·obtain ⟨x0,h2,h⟩:=Qae h
  obtain ⟨x1,h3,h⟩:=Qae h
  rcases Qag h with ⟨h4,h⟩|⟨h4,h⟩
  ·obtain rfl:=(hE _ (oJ h):_ = rv)
   exact gr 12 [] [nL e_i64 a,bT h1,hH (.draw 9 []),cE e_i64 h2,cE e_i64 h3,bT h4]
  ·exact gn 14 [0,1,5] [] [nL e_i64 a,bT h1,hH (.draw 9 []),cE e_i64 h2,cE e_i64 h3,bF h4] (hI _ (oJ h))
 ·exact gn 5 [] [] [nL e_i64 a,bF h1] (hE _ (oJ h))
theorem Qne {a capacity} {rv:Bool} (h:QhF a capacity = some rv):AFn Tryz.prog 97 [.one (lL 1 a e_i64),.one (lL 1 capacity e_i64)] [] (one (.bool rv)) []:=by
 refine QaL Tryz.func97 (by kernel_rfl) (by kernel_rfl) (fun Γ=>?_)
 unfold QhF at h
 rcases Qag h with ⟨h0,h⟩|⟨h0,h⟩
 ·obtain rfl:=Option.some.inj h
  exact gr 8 [] [nL e_i64 a,nL e_i64 capacity,bT h0]
 ·obtain ⟨e0,h5,h⟩:=Qae h
  refine gn 12 [0,1,5] [] [nL e_i64 a,nL e_i64 capacity,bF h0] (QpU Γ rv h5 ?_)
  rcases e0 with e0|e0
  ·replace h:(some true:Option Bool) = some _:=h
   obtain rfl:=Option.some.inj h
   exact gr 2 [] []
  ·obtain ⟨r,rfl⟩:∃ x,x = e0:=⟨_,rfl⟩
   replace h:(some r:Option Bool) = some _:=h
   exact Option.some.inj h
def Qoi (Γ:Gam) (rv:Int) (cf:Cf):Prop:=Go Tryz.prog Tryz.f53 [] Γ (one (lI rv)) [] cf
def QlZ (Γ:Gam) (rv:Int) (x0:Qad) (r:Qac) (r1:List (List Int) × Int) (i:Int):Prop:=Qoi Γ rv ⟨[.c 500,.l 500,.b 0,.c 63],⟨47,[vP 2 0 6,vP 3 1 4,vL 5 1 r1.1 Qba,vI 7 i],[oX 6 30 (Qad.enc x0),oX 4 34 (Qac.enc r)]⟩⟩
def Qla (Γ:Gam) (rv:Int) (x0:Qad) (r:Qac) (r1:List (List Int) × Int):Prop:=Qoi Γ rv ⟨[.c 63],⟨47,[],[]⟩⟩
theorem QpY (Γ:Gam) (rv:Int) {x0 r r1} {s:Int} {e:(Unit) ⊕ (Int)} (h:loopF (fun s=>QcN x0 r r1 s) s = some e) (hD:sel e (fun e=>Qla Γ rv x0 r r1) (fun e=>e = rv)):QlZ Γ rv x0 r r1 s:=by
 refine QaD (C:=fun (s:Int)=>QlZ Γ rv x0 r r1 s) (D:=fun (e:(Unit) ⊕ (Int))=>sel e (fun e=>Qla Γ rv x0 r r1) (fun e=>e = rv)) ?_ h hD
 clear h hD s e
 intro i z_ h hI hE
 replace h:QcN x0 r r1 i = _:=h
 unfold QcN at h
 rcases Qag h with ⟨h3,h⟩|⟨h3,h⟩
 ·obtain ⟨x1,h4,h⟩:=Qae h
  obtain ⟨x2,h5,h⟩:=Qae h
  obtain ⟨r2,h6,h⟩:=Qae h
  rcases Qag h with ⟨h7,h⟩|⟨h7,h⟩
  ·exact gn 14 [2,3,5,7] [0,1] [nL Qba r1.1,bT h3,hH (.draw 13 []),cE Qba h4,cE Qai.enc h5,cC (Qne h6),nF h7] (hI _ (oJ h))
  ·obtain rfl:=(hE _ (oJ h):_ = rv)
   exact gr 12 [] [nL Qba r1.1,bT h3,hH (.draw 13 []),cE Qba h4,cE Qai.enc h5,cC (Qne h6),nT h7]
 ·exact gn 5 [] [] [nL Qba r1.1,bF h3] (hE _ (oJ h))
theorem Qjj {x0 r} {rv:Int} (h:Qgq x0 r = some rv):AFn Tryz.prog 53 [.agg (Qad.enc x0),.agg (Qac.enc r)] [] (one (lI rv)) []:=by
 refine QaL Tryz.func53 (by kernel_rfl) (by kernel_rfl) (fun Γ=>?_)
 unfold Qgq at h
 rcases Qag h with ⟨h0,h⟩|⟨h0,h⟩
 ·obtain rfl:=Option.some.inj h
  exact gr 8 [] [rp 5 hP,rp 3 (oI ((ltI r.type_ 0) = false)),nL Qai.enc x0.types,hP,hP,rp 2 (oI ((ltI r.type_ 0) = false)),oR True ((ltI r.type_ 0) = false),bT h0]
 ·obtain ⟨r1,h1,h⟩:=Qae h
  rcases Qag h with ⟨h2,h⟩|⟨h2,h⟩
  ·obtain rfl:=Option.some.inj h
   exact gr 15 [] [rp 5 hP,rp 3 (oI ((ltI r.type_ 0) = false)),nL Qai.enc x0.types,hP,hP,rp 2 (oI ((ltI r.type_ 0) = false)),oR True ((ltI r.type_ 0) = false),bF h0,cC (QmD h1),bT h2]
  ·obtain ⟨e0,h8,h⟩:=Qae h
   refine gn 19 [2,3,5,7] [0,1] [rp 5 hP,rp 3 (oI ((ltI r.type_ 0) = false)),nL Qai.enc x0.types,hP,hP,rp 2 (oI ((ltI r.type_ 0) = false)),oR True ((ltI r.type_ 0) = false),bF h0,cC (QmD h1),bF h2] (QpY Γ rv h8 ?_)
   rcases e0 with e0|e0
   ·replace h:(some 0:Option Int) = some _:=h
    obtain rfl:=Option.some.inj h
    exact gr 2 [] []
   ·obtain ⟨r3,rfl⟩:∃ x,x = e0:=⟨_,rfl⟩
    replace h:(some r3:Option Int) = some _:=h
    exact Option.some.inj h
theorem Qhh {x0 v} {rv:Qar × Bool} (h:QdM x0 v = some rv):AFn Tryz.prog 141 [.agg (Qad.enc x0),.agg (Qab.enc v)] [] (.tup [.agg [lI rv.1.place,lI rv.1.open_,lI rv.1.close,lI rv.1.service],.one (.bool rv.2)]) []:=by
 refine QaL Tryz.func141 (by kernel_rfl) (by kernel_rfl) (fun Γ=>?_)
 unfold QdM at h
 rcases Qag h with ⟨h0,h⟩|⟨h0,h⟩
 ·obtain rfl:=Option.some.inj h
  exact gr 8 [] [rp 5 hP,rp 3 (oI ((ltI v.order 0) = false)),nL Qak.enc x0.orders,hP,hP,rp 2 (oI ((ltI v.order 0) = false)),oR True ((ltI v.order 0) = false),bT h0]
 ·obtain ⟨x1,h1,h⟩:=Qae h
  rcases Qag h with ⟨h2,h⟩|⟨h2,h⟩
  ·obtain rfl:=Option.some.inj h
   exact gr 16 [] [rp 5 hP,rp 3 (oI ((ltI v.order 0) = false)),nL Qak.enc x0.orders,hP,hP,rp 2 (oI ((ltI v.order 0) = false)),oR True ((ltI v.order 0) = false),bF h0,cE Qak.enc h1,bT h2,cE Qak.enc h1,hH (.draw 6 [(2,4)])]
  ·obtain rfl:=Option.some.inj h
   exact gr 16 [] [rp 5 hP,rp 3 (oI ((ltI v.order 0) = false)),nL Qak.enc x0.orders,hP,hP,rp 2 (oI ((ltI v.order 0) = false)),oR True ((ltI v.order 0) = false),bF h0,cE Qak.enc h1,bF h2,hH (.draw 6 [(2,4)])]
def Qlf (Γ:Gam) (rv:Bool) (cf:Cf):Prop:=Go Tryz.prog Tryz.f98 [] Γ (one (.bool rv)) [] cf
def QiF (Γ:Gam) (rv:Bool) (x0:Qad) (r:Qac) (i:Int):Prop:=Qlf Γ rv ⟨[.c 116,.l 116,.b 0,.c 15],⟨54,[vP 2 0 6,vP 3 1 4,vI 5 i],[oX 6 30 (Qad.enc x0),oX 4 34 (Qac.enc r)]⟩⟩
def Qik (Γ:Gam) (rv:Bool) (x0:Qad) (r:Qac):Prop:=Qlf Γ rv ⟨[.c 15],⟨54,[],[]⟩⟩
theorem Qnt (Γ:Gam) (rv:Bool) {x0 r} {s:Int} {e:(Unit) ⊕ (Bool)} (h:loopF (fun s=>QbH x0 r s) s = some e) (hD:sel e (fun e=>Qik Γ rv x0 r) (fun e=>e = rv)):QiF Γ rv x0 r s:=by
 refine QaD (C:=fun (s:Int)=>QiF Γ rv x0 r s) (D:=fun (e:(Unit) ⊕ (Bool))=>sel e (fun e=>Qik Γ rv x0 r) (fun e=>e = rv)) ?_ h hD
 clear h hD s e
 intro i z_ h hI hE
 replace h:QbH x0 r i = _:=h
 unfold QbH at h
 rcases Qag h with ⟨h1,h⟩|⟨h1,h⟩
 ·obtain ⟨x1,h2,h⟩:=Qae h
  obtain ⟨r1,h3,h⟩:=Qae h
  rcases Qag h with ⟨h4,h⟩|⟨h4,h⟩
  ·exact gn 16 [2,3,5] [0,1] [nL Qab.enc r.visits,bT h1,hH (.draw 13 [(2,11)]),cE Qab.enc h2,cC (Qhh h3),nF h4] (hI _ (oJ h))
  ·obtain rfl:=(hE _ (oJ h):_ = rv)
   exact gr 14 [] [nL Qab.enc r.visits,bT h1,hH (.draw 13 [(2,11)]),cE Qab.enc h2,cC (Qhh h3),nT h4]
 ·exact gn 5 [] [] [nL Qab.enc r.visits,bF h1] (hE _ (oJ h))
theorem Qfk {x0 r} {rv:Bool} (h:QcW x0 r = some rv):AFn Tryz.prog 98 [.agg (Qad.enc x0),.agg (Qac.enc r)] [] (one (.bool rv)) []:=by
 refine QaL Tryz.func98 (by kernel_rfl) (by kernel_rfl) (fun Γ=>?_)
 unfold QcW at h
 rcases Qag h with ⟨h0,h⟩|⟨h0,h⟩
 ·obtain rfl:=Option.some.inj h
  exact gr 8 [] [rp 5 hP,rp 3 (oI ((ltI r.type_ 0) = false)),nL Qai.enc x0.types,rp 13 hP,rp 2 (oI ((ltI r.type_ 0) = false)),oR True ((ltI r.type_ 0) = false),rp 2 (oI (((ltI r.type_ 0) || (geI r.type_ (lenI x0.types))) = false)),oR True (((ltI r.type_ 0) || (geI r.type_ (lenI x0.types))) = false),rp 2 (oI ((((ltI r.type_ 0) || (geI r.type_ (lenI x0.types))) || (ltI r.start 0)) = false)),oR True ((((ltI r.type_ 0) || (geI r.type_ (lenI x0.types))) || (ltI r.start 0)) = false),rp 2 (oI (((((ltI r.type_ 0) || (geI r.type_ (lenI x0.types))) || (ltI r.start 0)) || (gtI r.start 4096)) = false)),nL Qab.enc r.visits,hP,hP,oI (((((ltI r.type_ 0) || (geI r.type_ (lenI x0.types))) || (ltI r.start 0)) || (gtI r.start 4096)) = false),oR True (((((ltI r.type_ 0) || (geI r.type_ (lenI x0.types))) || (ltI r.start 0)) || (gtI r.start 4096)) = false),bT h0]
 ·obtain ⟨e0,h5,h⟩:=Qae h
  refine gn 12 [2,3,5] [0,1] [rp 5 hP,rp 3 (oI ((ltI r.type_ 0) = false)),nL Qai.enc x0.types,rp 13 hP,rp 2 (oI ((ltI r.type_ 0) = false)),oR True ((ltI r.type_ 0) = false),rp 2 (oI (((ltI r.type_ 0) || (geI r.type_ (lenI x0.types))) = false)),oR True (((ltI r.type_ 0) || (geI r.type_ (lenI x0.types))) = false),rp 2 (oI ((((ltI r.type_ 0) || (geI r.type_ (lenI x0.types))) || (ltI r.start 0)) = false)),oR True ((((ltI r.type_ 0) || (geI r.type_ (lenI x0.types))) || (ltI r.start 0)) = false),rp 2 (oI (((((ltI r.type_ 0) || (geI r.type_ (lenI x0.types))) || (ltI r.start 0)) || (gtI r.start 4096)) = false)),nL Qab.enc r.visits,hP,hP,oI (((((ltI r.type_ 0) || (geI r.type_ (lenI x0.types))) || (ltI r.start 0)) || (gtI r.start 4096)) = false),oR True (((((ltI r.type_ 0) || (geI r.type_ (lenI x0.types))) || (ltI r.start 0)) || (gtI r.start 4096)) = false),bF h0] (Qnt Γ rv h5 ?_)
  rcases e0 with e0|e0
  ·replace h:(some true:Option Bool) = some _:=h
   obtain rfl:=Option.some.inj h
   exact gr 2 [] []
  ·obtain ⟨r2,rfl⟩:∃ x,x = e0:=⟨_,rfl⟩
   replace h:(some r2:Option Bool) = some _:=h
   exact Option.some.inj h
theorem Qnw {t s0 yes} {rv:Qau} (h:Qgs t s0 yes = some rv):AFn Tryz.prog 157 [.agg (Qai.enc t),.agg (Qau.enc s0),.one (.bool yes)] [] (gG [lI rv.place,lI rv.time,lI rv.driven,lI rv.miles]) []:=by
 refine QaL Tryz.func157 (by kernel_rfl) (by kernel_rfl) (fun Γ=>?_)
 unfold Qgs at h
 rcases Qag h with ⟨h0,h⟩|⟨h0,h⟩
 ·obtain rfl:=Option.some.inj h
  exact gr 11 [] [bT h0]
 ·obtain rfl:=Option.some.inj h
  exact gr 9 [] [bF h0]
theorem Qck {n p} {rv:Bool} (h:QfF n p = some rv):AFn Tryz.prog 171 [.agg (Qaj.enc n),.one (lI p)] [] (one (.bool rv)) []:=by
 refine QaL Tryz.func171 (by kernel_rfl) (by kernel_rfl) (fun Γ=>?_)
 unfold QfF at h
 obtain rfl:=Option.some.inj h
 exact gr 4 [] [rp 4 hP,rp 2 (oI ((geI p 0) = true)),nL e_str n.places,hP,hP,rp 2 (oI ((geI p 0) = true)),oR True ((geI p 0) = true)]
def Qog (Γ:Gam) (rv:Qap × Bool) (cf:Cf):Prop:=Go Tryz.prog Tryz.f172 [] Γ (.tup [.agg [lI rv.1.from_,lI rv.1.to_,lI rv.1.profile,lI rv.1.miles,lL 2 rv.1.travel Qan.enc,lL 2 rv.1.slow Qan.enc],.one (.bool rv.2)]) [] cf
def QlU (Γ:Gam) (rv:Qap × Bool) (n:Qaj) (profile:Int) (from_:Int) (to_:Int) (i:Int):Prop:=Qog Γ rv ⟨[.c 52,.l 52,.b 0,.c 7],⟨42,[vI 1 profile,vI 2 from_,vI 3 to_,vP 4 0 2,vP 8 1 6,vI 10 i],[oX 2 25 (Qaj.enc n),oX 6 99 [lI 0,lI 0,lI 0,lI 0,.nils,.nils]]⟩⟩
def QkV (Γ:Gam) (rv:Qap × Bool) (n:Qaj) (profile:Int) (from_:Int) (to_:Int):Prop:=Qog Γ rv ⟨[.c 7],⟨42,[vP 8 0 6],[oX 6 99 [lI 0,lI 0,lI 0,lI 0,.nils,.nils]]⟩⟩
theorem QpW (Γ:Gam) (rv:Qap × Bool) {n profile from_ to_} {s:Int} {e:(Unit) ⊕ (Qap × Bool)} (h:loopF (fun s=>QeD n profile from_ to_ s) s = some e) (hD:sel e (fun e=>QkV Γ rv n profile from_ to_) (fun e=>e = rv)):QlU Γ rv n profile from_ to_ s:=by
 refine QaD (C:=fun (s:Int)=>QlU Γ rv n profile from_ to_ s) (D:=fun (e:(Unit) ⊕ (Qap × Bool))=>sel e (fun e=>QkV Γ rv n profile from_ to_) (fun e=>e = rv)) ?_ h hD
 clear h hD s e
 intro i z_ h hI hE
 replace h:QeD n profile from_ to_ i = _:=h
 unfold QeD at h
 rcases Qag h with ⟨h0,h⟩|⟨h0,h⟩
 ·obtain ⟨x0,h1,h⟩:=Qae h
  rcases Qag h with ⟨h2,h⟩|⟨h2,h⟩
  ·obtain rfl:=(hE _ (oJ h):_ = rv)
   exact gr 14 [] [nL Qap.enc n.arcs,bT h0,cE Qap.enc h1,rp 10 hP,rp 3 (oI ((eqI x0.from_ from_) = true)),oR True ((eqI x0.from_ from_) = true),rp 3 (oI (((eqI x0.from_ from_) && (eqI x0.to_ to_)) = true)),oR True (((eqI x0.from_ from_) && (eqI x0.to_ to_)) = true),bT h2]
  ·exact gn 16 [1,2,3,4,8,10] [0,1] [nL Qap.enc n.arcs,bT h0,cE Qap.enc h1,rp 10 hP,rp 3 (oI ((eqI x0.from_ from_) = true)),oR True ((eqI x0.from_ from_) = true),rp 3 (oI (((eqI x0.from_ from_) && (eqI x0.to_ to_)) = true)),oR True (((eqI x0.from_ from_) && (eqI x0.to_ to_)) = true),bF h2] (hI _ (oJ h))
 ·exact gn 5 [8] [1] [nL Qap.enc n.arcs,bF h0] (hE _ (oJ h))
theorem Qnh {n profile from_ to_} {rv:Qap × Bool} (h:QhH n profile from_ to_ = some rv):AFn Tryz.prog 172 [.agg (Qaj.enc n),.one (lI profile),.one (lI from_),.one (lI to_)] [] (.tup [.agg [lI rv.1.from_,lI rv.1.to_,lI rv.1.profile,lI rv.1.miles,lL 2 rv.1.travel Qan.enc,lL 2 rv.1.slow Qan.enc],.one (.bool rv.2)]) []:=by
 refine QaL Tryz.func172 (by kernel_rfl) (by kernel_rfl) (fun Γ=>?_)
 unfold QhH at h
 obtain ⟨e0,h3,h⟩:=Qae h
 refine gn 7 [1,2,3,4,8,10] [0,1] [] (QpW Γ rv h3 ?_)
 rcases e0 with e0|e0
 ·replace h:(some ((Qap.mk 0 0 0 0 [] []),false):Option (Qap × Bool)) = some _:=h
  obtain rfl:=Option.some.inj h
  exact gr 2 [] [hW 5,hH (.nilB 0 4 2),hH (.nilB 0 5 2)]
 ·obtain ⟨r,rfl⟩:∃ x,x = e0:=⟨_,rfl⟩
  replace h:(some r:Option (Qap × Bool)) = some _:=h
  exact Option.some.inj h
def Qmy (Γ:Gam) (rv:Int) (cf:Cf):Prop:=Go Tryz.prog Tryz.f177 [] Γ (one (lI rv)) [] cf
def Qjv (Γ:Gam) (rv:Int) (l:List Qan) (t:Int) (i:Int):Prop:=Qmy Γ rv ⟨[.c 116,.l 116,.b 0,.c 15],⟨93,[vL 0 2 l Qan.enc,vI 1 t,vI 5 i],[]⟩⟩
def QiS (Γ:Gam) (rv:Int) (l:List Qan) (t:Int):Prop:=Qmy Γ rv ⟨[.c 15],⟨93,[vL 0 2 l Qan.enc,vI 1 t],[]⟩⟩
theorem Qot (Γ:Gam) (rv:Int) {l t} {s:Int} {e:(Unit) ⊕ (Int)} (h:loopF (fun s=>QdA l t s) s = some e) (hD:sel e (fun e=>QiS Γ rv l t) (fun e=>e = rv)):Qjv Γ rv l t s:=by
 refine QaD (C:=fun (s:Int)=>Qjv Γ rv l t s) (D:=fun (e:(Unit) ⊕ (Int))=>sel e (fun e=>QiS Γ rv l t) (fun e=>e = rv)) ?_ h hD
 clear h hD s e
 intro i z_ h hI hE
 replace h:QdA l t i = _:=h
 unfold QdA at h
 rcases Qag h with ⟨h2,h⟩|⟨h2,h⟩
 ·obtain ⟨x0,h3,h⟩:=Qae h
  obtain ⟨x1,h4,h⟩:=Qae h
  rcases Qag h with ⟨h5,h⟩|⟨h5,h⟩
  ·obtain ⟨h6,h⟩:=Qas h
   obtain rfl:=(hE _ (oJ h):_ = rv)
   exact gr 16 [] [nL Qan.enc l,bT h2,cE Qan.enc h3,cE Qan.enc h4,rp 5 hP,rp 3 (oI ((leI x0.t t) = true)),oR True ((leI x0.t t) = true),bT h5,hH (.draw 27 []),oO (h6)]
  ·exact gn 18 [0,1,5] [] [nL Qan.enc l,bT h2,cE Qan.enc h3,cE Qan.enc h4,rp 5 hP,rp 3 (oI ((leI x0.t t) = true)),oR True ((leI x0.t t) = true),bF h5] (hI _ (oJ h))
 ·exact gn 5 [0,1] [] [nL Qan.enc l,bF h2] (hE _ (oJ h))
theorem Qqt {l t} {rv:Int} (h:Qgh l t = some rv):AFn Tryz.prog 177 [.one (lL 2 l Qan.enc),.one (lI t)] [] (one (lI rv)) []:=by
 refine QaL Tryz.func177 (by kernel_rfl) (by kernel_rfl) (fun Γ=>?_)
 unfold Qgh at h
 obtain ⟨r,h0,h⟩:=Qae h
 rcases Qag h with ⟨h1,h⟩|⟨h1,h⟩
 ·obtain rfl:=Option.some.inj h
  exact gr 8 [] [cC (Qiw h0),nL Qaa.enc r,rp 6 hP,oI ((gtI (lenI r) 0) = false),oR True ((gtI (lenI r) 0) = false),oI (((gtI (lenI r) 0) || (ltI t 0)) = false),oR True (((gtI (lenI r) 0) || (ltI t 0)) = false),bT h1]
 ·obtain ⟨e0,h7,h⟩:=Qae h
  refine gn 12 [0,1,5] [] [cC (Qiw h0),nL Qaa.enc r,rp 6 hP,oI ((gtI (lenI r) 0) = false),oR True ((gtI (lenI r) 0) = false),oI (((gtI (lenI r) 0) || (ltI t 0)) = false),oR True (((gtI (lenI r) 0) || (ltI t 0)) = false),bF h1] (Qot Γ rv h7 ?_)
  rcases e0 with e0|e0
  ·replace h:(bnd (getI l 0) fun x2=>br (gtI t x2.t) (bnd (getI l (subK .i64 (lenI l) 1)) fun x3=>some (subK .i64 (addK .i64 t x3.a) x3.t)) (some (subK .i64 (addK .i64 t x2.a) x2.t)):Option Int) = some _:=h
   obtain ⟨x2,h8,h⟩:=Qae h
   rcases Qag h with ⟨h9,h⟩|⟨h9,h⟩
   ·obtain ⟨x3,h10,h⟩:=Qae h
    obtain rfl:=Option.some.inj h
    exact gr 9 [] [cE Qan.enc h8,bT h9,nL Qan.enc l,cE Qan.enc h10]
   ·obtain rfl:=Option.some.inj h
    exact gr 9 [] [cE Qan.enc h8,bF h9]
  ·obtain ⟨r1,rfl⟩:∃ x,x = e0:=⟨_,rfl⟩
   replace h:(some r1:Option Int) = some _:=h
   exact Option.some.inj h
def Qmz (Γ:Gam) (rv:Int) (cf:Cf):Prop:=Go Tryz.prog Tryz.f173 [] Γ (one (lI rv)) [] cf
def Qjy (Γ:Gam) (rv:Int) (a:Qap) (t:Int) (n:Int) (i:Int):Prop:=Qmz Γ rv ⟨[.c 116,.l 116,.b 0,.c 15],⟨35,[vI 1 t,vP 2 0 6,vI 5 n,vI 6 i],[oX 6 99 (Qap.enc a)]⟩⟩
def QiT (Γ:Gam) (rv:Int) (a:Qap) (t:Int) (n1:Int):Prop:=Qmz Γ rv ⟨[.c 15],⟨35,[vI 5 n1],[]⟩⟩
theorem Qou (Γ:Gam) (rv:Int) {a t} {s:Int × Int} {e:Int} (h:loopF (fun s=>Qf2 a t s.1 s.2) s = some e) (hD:QiT Γ rv a t e):Qjy Γ rv a t s.1 s.2:=by
 refine QaD (C:=fun (s:Int × Int)=>Qjy Γ rv a t s.1 s.2) (D:=fun (e:Int)=>QiT Γ rv a t e) ?_ h hD
 clear h hD s e
 rintro ⟨n,i⟩ z_ h hI hE
 replace h:Qf2 a t n i = _:=h
 unfold Qf2 at h
 rcases Qag h with ⟨h1,h⟩|⟨h1,h⟩
 ·obtain ⟨x0,h2,h⟩:=Qae h
  rcases Qag h with ⟨h3,h⟩|⟨h3,h⟩
  ·exact gn 14 [1,2,5,6] [0] [nL Qan.enc a.slow,bT h1,cE Qan.enc h2,bT h3,cE Qan.enc h2] (hI _ (oJ h))
  ·exact gn 14 [1,2,5,6] [0] [nL Qan.enc a.slow,bT h1,cE Qan.enc h2,bF h3] (hI _ (oJ h))
 ·exact gn 5 [5] [] [nL Qan.enc a.slow,bF h1] (hE _ (oJ h))
theorem Qqu {a t} {rv:Int} (h:Qgi a t = some rv):AFn Tryz.prog 173 [.agg (Qap.enc a),.one (lI t)] [] (one (lI rv)) []:=by
 refine QaL Tryz.func173 (by kernel_rfl) (by kernel_rfl) (fun Γ=>?_)
 unfold Qgi at h
 obtain ⟨r,h0,h⟩:=Qae h
 obtain ⟨e0,h4,h⟩:=Qae h
 refine gn 9 [1,2,5,6] [0] [cC (Qqt h0)] (Qou Γ rv h4 ?_)
 obtain ⟨n1,rfl⟩:∃ x,x = e0:=⟨_,rfl⟩
 replace h:(some n1:Option Int) = some _:=h
 obtain rfl:=Option.some.inj h
 exact gr 2 [] []
theorem QsD {n profile from_ to_ t} {rv:Int × Int × Int} (h:Qia n profile from_ to_ t = some rv):AFn Tryz.prog 167 [.agg (Qaj.enc n),.one (lI profile),.one (lI from_),.one (lI to_),.one (lI t)] [] (.tup [.one (lI rv.1),.one (lI rv.2.1),.one (lI rv.2.2)]) []:=by
 refine QaL Tryz.func167 (by kernel_rfl) (by kernel_rfl) (fun Γ=>?_)
 unfold Qia at h
 obtain ⟨r,h0,h⟩:=Qae h
 rcases Qag h with ⟨h1,h⟩|⟨h1,h⟩
 ·obtain ⟨r1,h2,h⟩:=Qae h
  rcases Qag h with ⟨h3,h⟩|⟨h3,h⟩
  ·rcases Qag h with ⟨h4,h⟩|⟨h4,h⟩
   ·obtain rfl:=Option.some.inj h
    exact gr 13 [] [cC (Qck h0),rp 3 (nF h1),cC (Qck h2),nF h1,nF h1,nF h3,bT h4]
   ·obtain ⟨r2,h5,h⟩:=Qae h
    rcases Qag h with ⟨h6,h⟩|⟨h6,h⟩
    ·obtain ⟨r3,h7,h⟩:=Qae h
     obtain rfl:=Option.some.inj h
     exact gr 21 [] [cC (Qck h0),rp 3 (nF h1),cC (Qck h2),nF h1,nF h1,nF h3,bF h4,cC (Qnh h5),nF h6,hH (.draw 8 []),cC (Qqu h7)]
    ·obtain rfl:=Option.some.inj h
     exact gr 20 [] [cC (Qck h0),rp 3 (nF h1),cC (Qck h2),nF h1,nF h1,nF h3,bF h4,cC (Qnh h5),nT h6]
  ·obtain rfl:=Option.some.inj h
   exact gr 8 [] [cC (Qck h0),rp 3 (nF h1),cC (Qck h2),nF h1,nF h1,nT h3]
 ·obtain rfl:=Option.some.inj h
  exact gr 8 [] [cC (Qck h0),rp 5 (nT h1),tT]
theorem QhW {x0 profile from_ to_ t} {rv:Int × Int × Bool} (h:Qlr x0 profile from_ to_ t = some rv):AFn Tryz.prog 164 [.agg (Qad.enc x0),.one (lI profile),.one (lI from_),.one (lI to_),.one (lI t)] [] (.tup [.one (lI rv.1),.one (lI rv.2.1),.one (.bool rv.2.2)]) []:=by
 refine QaL Tryz.func164 (by kernel_rfl) (by kernel_rfl) (fun Γ=>?_)
 unfold Qlr at h
 obtain ⟨r,h0,h⟩:=Qae h
 obtain rfl:=Option.some.inj h
 exact gr 6 [] [cC (QsD h0)]
theorem Qhg {x0 t s0 to_ close late} {rv:Qau × Int} (h:Qdf x0 t s0 to_ close late = some rv):AFn Tryz.prog 158 [.agg (Qad.enc x0),.agg (Qai.enc t),.agg (Qau.enc s0),.one (lI to_),.one (lI close),.one (lI late)] [] (.tup [.agg [lI rv.1.place,lI rv.1.time,lI rv.1.driven,lI rv.1.miles],.one (lI rv.2)]) []:=by
 refine QaL Tryz.func158 (by kernel_rfl) (by kernel_rfl) (fun Γ=>?_)
 unfold Qdf at h
 obtain ⟨r,h0,h⟩:=Qae h
 rcases Qag h with ⟨h1,h⟩|⟨h1,h⟩
 ·rcases Qag h with ⟨h2,h⟩|⟨h2,h⟩
  ·obtain rfl:=Option.some.inj h
   exact gr 15 [] [cC (QhW h0),nF h1,bT h2]
  ·rcases Qag h with ⟨h3,h⟩|⟨h3,h⟩
   ·obtain rfl:=Option.some.inj h
    exact gr 22 [] [cC (QhW h0),nF h1,bF h2,bT h3]
   ·obtain rfl:=Option.some.inj h
    exact gr 23 [] [cC (QhW h0),nF h1,bF h2,bF h3]
 ·obtain rfl:=Option.some.inj h
  exact gr 10 [] [cC (QhW h0),nT h1]
def Qpl (Γ:Gam) (rv:Qah × List Int × Int) (cf:Cf):Prop:=Go Tryz.prog Tryz.f142 [] Γ (.tup [.agg [.bool rv.1.rest_,lI rv.1.depart,lL 4 rv.1.times Qao.enc,lI rv.1.end_,lI rv.1.miles],.one (lL 1 rv.2.1 e_i64),.one (lI rv.2.2)]) [] cf
def QmG (Γ:Gam) (rv:Qah × List Int × Int) (x0:Qad) (r:Qac) (rests:List Bool) (x1:Qai) (x2:Bool) (l:List Int) (l1:List Qao) (x3:Qau) (depart:Int) (i:Int):Prop:=Qpl Γ rv ⟨[.c 2036,.l 2036,.b 0,.c 255],⟨161,[vL 2 1 rests QaI,vP 3 0 6,vP 4 1 4,vP 6 2 5,vP 9 3 14,vP 10 4 4,vP 11 5 5,vO 12 6 1 l e_i64,vI 13 i],[oX 6 30 (Qad.enc x0),oX 4 34 (Qac.enc r),oX 5 60 [.bool false,lI 0,.nils,lI 0,lI 0],oX 14 101 (Qai.enc x1),oX 4 204 (Qau.enc x3),oX 5 60 [.bool x2,lI depart,lO 7 4 l1 Qao.enc,lI 0,lI 0],oS 1 3 l e_i64,oS 4 66 l1 Qao.enc]⟩⟩
def Ql1 (Γ:Gam) (rv:Qah × List Int × Int) (x0:Qad) (r:Qac) (rests:List Bool) (x1:Qai) (x2:Bool) (l2:List Int) (l3:List Qao) (x6:Qau) (depart1:Int):Prop:=Qpl Γ rv ⟨[.c 255],⟨161,[vP 3 0 6,vP 6 1 5,vP 9 2 14,vP 10 3 4,vP 11 4 5,vO 12 5 1 l2 e_i64],[oX 6 30 (Qad.enc x0),oX 5 60 [.bool false,lI 0,.nils,lI 0,lI 0],oX 14 101 (Qai.enc x1),oX 4 204 (Qau.enc x6),oX 5 60 [.bool x2,lI depart1,lO 6 4 l3 Qao.enc,lI 0,lI 0],oS 1 3 l2 e_i64,oS 4 66 l3 Qao.enc]⟩⟩
theorem Qqw (Γ:Gam) (rv:Qah × List Int × Int) {x0 r rests x1 x2} {s:List Int × List Qao × Qau × Int × Int} {e:(List Int × List Qao × Qau × Int) ⊕ (Qah × List Int × Int)} (h:loopF (fun s=>Qe5 x0 r rests x1 x2 s.1 s.2.1 s.2.2.1 s.2.2.2.1 s.2.2.2.2) s = some e) (hD:sel e (fun e=>Ql1 Γ rv x0 r rests x1 x2 e.1 e.2.1 e.2.2.1 e.2.2.2) (fun e=>e = rv)):QmG Γ rv x0 r rests x1 x2 s.1 s.2.1 s.2.2.1 s.2.2.2.1 s.2.2.2.2:=by
 refine QaD (C:=fun (s:List Int × List Qao × Qau × Int × Int)=>QmG Γ rv x0 r rests x1 x2 s.1 s.2.1 s.2.2.1 s.2.2.2.1 s.2.2.2.2) (D:=fun (e:(List Int × List Qao × Qau × Int) ⊕ (Qah × List Int × Int))=>sel e (fun e=>Ql1 Γ rv x0 r rests x1 x2 e.1 e.2.1 e.2.2.1 e.2.2.2) (fun e=>e = rv)) ?_ h hD
 clear h hD s e
 rintro ⟨l,l1,x3,depart,i⟩ z_ h hI hE
 replace h:Qe5 x0 r rests x1 x2 l l1 x3 depart i = _:=h
 unfold Qe5 at h
 rcases Qag h with ⟨h5,h⟩|⟨h5,h⟩
 ·obtain ⟨x4,h6,h⟩:=Qae h
  obtain ⟨r3,h7,h⟩:=Qae h
  obtain ⟨r4,h8,h⟩:=Qae h
  rcases Qag h with ⟨h9,h⟩|⟨h9,h⟩
  ·obtain rfl:=(hE _ (oJ h):_ = rv)
   exact gr 17 [] [nL Qab.enc r.visits,bT h5,hH (.draw 13 [(8,11)]),cE Qab.enc h6,cC (Qhh h7),cC (Qhg h8),bT h9,hW 7,hH (.nilB 2 2 4),hH (.nilS 7 0 1)]
  ·obtain ⟨h10,h⟩:=Qas h
   obtain ⟨x5,h11,h⟩:=Qae h
   obtain ⟨r5,h12,h⟩:=Qae h
   obtain ⟨h13,h⟩:=Qas h
   exact gn 30 [2,3,4,6,9,10,11,12,13] [0,1,2,3,4,5,11,14] [nL Qab.enc r.visits,bT h5,hH (.draw 13 [(8,11)]),cE Qab.enc h6,cC (Qhh h7),cC (Qhg h8),bF h9,oO (Eq.refl ([r4.1.driven].map e_i64).length),aO e_i64 h10,hH (.draw 14 []),cE QaI h11,hH (.draw 8 []),cE QaI h11,cC (Qnw h12),oO (Eq.refl ([(Qao.mk r4.1.time (maxI r4.1.time r3.1.open_) r5.time x5)].map Qao.enc).length),aO Qao.enc h13] (hI _ (oJ h))
 ·exact gn 5 [3,6,9,10,11,12] [0,2,3,4,5,6,7] [nL Qab.enc r.visits,bF h5] (hE _ (oJ h))
theorem Qr3 {x0 r rests} {rv:Qah × List Int × Int} (h:Qhf x0 r rests = some rv):AFn Tryz.prog 142 [.agg (Qad.enc x0),.agg (Qac.enc r),.one (lL 1 rests QaI)] [] (.tup [.agg [.bool rv.1.rest_,lI rv.1.depart,lL 4 rv.1.times Qao.enc,lI rv.1.end_,lI rv.1.miles],.one (lL 1 rv.2.1 e_i64),.one (lI rv.2.2)]) []:=by
 refine QaL Tryz.func142 (by kernel_rfl) (by kernel_rfl) (fun Γ=>?_)
 unfold Qhf at h
 obtain ⟨r1,h0,h⟩:=Qae h
 rcases Qag h with ⟨h1,h⟩|⟨h1,h⟩
 ·obtain rfl:=Option.some.inj h
  exact gr 8 [] [cC (Qfk h0),hP,hP,oI ((!r1) = false),nL QaI rests,hP,hP,hP,rp 2 (oI ((!r1) = false)),nL Qab.enc r.visits,hP,hP,hP,rp 3 (oI ((!r1) = false)),oR True ((!r1) = false),bT h1,hW 6,hH (.nilB 2 2 4),hH (.nilS 7 0 1)]
 ·obtain ⟨x1,h2,h⟩:=Qae h
  obtain ⟨x2,h3,h⟩:=Qae h
  obtain ⟨r2,h4,h⟩:=Qae h
  obtain ⟨e0,h14,h⟩:=Qae h
  refine gn 20 [2,3,4,6,9,10,11,12,13] [0,1,2,3,4,5,6,7] [cC (Qfk h0),hP,hP,oI ((!r1) = false),nL QaI rests,hP,hP,hP,rp 2 (oI ((!r1) = false)),nL Qab.enc r.visits,hP,hP,hP,rp 3 (oI ((!r1) = false)),oR True ((!r1) = false),bF h1,cE Qai.enc h2,hH (.draw 14 []),cE QaI h3,cC (Qnw h4),hH (.draw 7 []),cE QaI h3,hW 10,hH (.adopt 12 1 3),hH (.adoptB 5 2 4 66)] (Qqw Γ rv h14 ?_)
  rcases e0 with e0|e0
  ·obtain ⟨l2,l3,x6,depart1⟩:=e0
   replace h:(bnd (Qdf x0 x1 x6 x1.to_ x1.close 15) fun r6=>br (neI r6.2 0) (some ((Qah.mk false 0 [] 0 0),[],r6.2)) (chk (okN (l2 ++ [r6.1.driven]).length 8) (some ((Qah.mk x2 depart1 l3 r6.1.time r6.1.miles),(l2 ++ [r6.1.driven]),0))):Option (Qah × List Int × Int)) = some _:=h
   obtain ⟨r6,h15,h⟩:=Qae h
   rcases Qag h with ⟨h16,h⟩|⟨h16,h⟩
   ·obtain rfl:=Option.some.inj h
    exact gr 8 [] [cC (Qhg h15),bT h16,hW 7,hH (.nilB 1 2 4),hH (.nilS 7 0 1)]
   ·obtain ⟨h17,h⟩:=Qas h
    obtain rfl:=Option.some.inj h
    exact gr 15 [] [cC (Qhg h15),bF h16,oO (Eq.refl ([r6.1.driven].map e_i64).length),aO e_i64 h17,hW 20,hH (.frz 6),hH (.frz 9),rp 3 (eL l3 Qao.enc),rp 4 (oO (Eq.refl ((l2 ++ [r6.1.driven]).map e_i64).length))]
  ·obtain ⟨r7,rfl⟩:∃ x,x = e0:=⟨_,rfl⟩
   replace h:(some r7:Option (Qah × List Int × Int)) = some _:=h
   exact Option.some.inj h
theorem Qkz {x0 r rests} {rv:Qah × Int} (h:Qen x0 r rests = some rv):AFn Tryz.prog 99 [.agg (Qad.enc x0),.agg (Qac.enc r),.one (lL 1 rests QaI)] [] (.tup [.agg [.bool rv.1.rest_,lI rv.1.depart,lL 4 rv.1.times Qao.enc,lI rv.1.end_,lI rv.1.miles],.one (lI rv.2)]) []:=by
 refine QaL Tryz.func99 (by kernel_rfl) (by kernel_rfl) (fun Γ=>?_)
 unfold Qen at h
 obtain ⟨r1,h0,h⟩:=Qae h
 obtain rfl:=Option.some.inj h
 exact gr 6 [] [cC (Qr3 h0)]
def Qoj (Γ:Gam) (rv:List Bool × Bool) (cf:Cf):Prop:=Go Tryz.prog Tryz.f100 [] Γ (.tup [.one (lL 1 rv.1 QaI),.one (.bool rv.2)]) [] cf
def Ql0 (Γ:Gam) (rv:List Bool × Bool) (n:Int) (l:List Bool) (i:Int):Prop:=Qoj Γ rv ⟨[.c 244,.l 244,.b 0,.c 31],⟨31,[vI 1 n,vO 6 0 1 l QaI,vI 7 i],[oS 1 4 l QaI]⟩⟩
def Qlh (Γ:Gam) (rv:List Bool × Bool) (n:Int):Prop:=Qoj Γ rv ⟨[.c 31],⟨31,[],[]⟩⟩
theorem Qp0 (Γ:Gam) (rv:List Bool × Bool) {n} {s:List Bool × Int} {e:(Unit) ⊕ (List Bool × Bool)} (h:loopF (fun s=>QeH n s.1 s.2) s = some e) (hD:sel e (fun e=>Qlh Γ rv n) (fun e=>e = rv)):Ql0 Γ rv n s.1 s.2:=by
 refine QaD (C:=fun (s:List Bool × Int)=>Ql0 Γ rv n s.1 s.2) (D:=fun (e:(Unit) ⊕ (List Bool × Bool))=>sel e (fun e=>Qlh Γ rv n) (fun e=>e = rv)) ?_ h hD
 clear h hD s e
 rintro ⟨l,i⟩ z_ h hI hE
 replace h:QeH n l i = _:=h
 unfold QeH at h
 rcases Qag h with ⟨h1,h⟩|⟨h1,h⟩
 ·obtain ⟨x0,h2,h⟩:=Qae h
  rcases Qag h with ⟨h3,h⟩|⟨h3,h⟩
  ·exact gn 16 [1,6,7] [0] [bT h1,oO (getLo h2),oO (getHi QaI h2),rE QaI h2,nF h3,oO (getLo h2),oO (getHi QaI h2),rE QaI h2,hH (.rows ((setI l i false).map QaI)),hH (.relen 0 ((setI l i false).map QaI).length),oO (setM QaI l i false),rp 3 (oO (QwG QaI l i false))] (hI _ (oJ h))
  ·obtain rfl:=(hE _ (oJ h):_ = rv)
   exact gr 15 [] [bT h1,oO (getLo h2),oO (getHi QaI h2),rE QaI h2,nT h3,oO (getLo h2),oO (getHi QaI h2),rE QaI h2,hH (.rows ((setI l i true).map QaI)),hH (.relen 0 ((setI l i true).map QaI).length),hW 5,hH (.frz 0),oO (setM QaI l i true),rp 3 (oO (QwG QaI l i true)),rp 5 (oO (Eq.refl ((setI l i true).map QaI).length))]
 ·exact gn 5 [] [] [bF h1] (hE _ (oJ h))
theorem Qnv {rests n} {rv:List Bool × Bool} (h:Qfw rests n = some rv):AFn Tryz.prog 100 [.one (lL 1 rests QaI),.one (lI n)] [] (.tup [.one (lL 1 rv.1 QaI),.one (.bool rv.2)]) []:=by
 refine QaL Tryz.func100 (by kernel_rfl) (by kernel_rfl) (fun Γ=>?_)
 unfold Qfw at h
 obtain ⟨h0,h⟩:=Qas h
 obtain ⟨e0,h4,h⟩:=Qae h
 refine gn 11 [1,6,7] [0] [aN QaI h0,nL QaI rests] (Qp0 Γ rv h4 ?_)
 rcases e0 with e0|e0
 ·replace h:(some ([],false):Option (List Bool × Bool)) = some _:=h
  obtain rfl:=Option.some.inj h
  exact gr 2 [] [hW 4,hH (.nilS 4 0 1)]
 ·obtain ⟨r,rfl⟩:∃ x,x = e0:=⟨_,rfl⟩
  replace h:(some r:Option (List Bool × Bool)) = some _:=h
  exact Option.some.inj h
def Qky (Γ:Gam) (rv:Qah × Int) (cf:Cf):Prop:=Go Tryz.prog Tryz.f54 [] Γ (.tup [.agg [.bool rv.1.rest_,lI rv.1.depart,lL 4 rv.1.times Qao.enc,lI rv.1.end_,lI rv.1.miles],.one (lI rv.2)]) [] cf
def Qh4 (Γ:Gam) (rv:Qah × Int) (x0:Qad) (r:Qac) (l:List Bool) (r2:Qah × Int) (rests:List Bool) (x1:Qah) (rests1:List Bool) (found:Bool) (more:Bool):Prop:=Qky Γ rv ⟨[.c 4088,.l 4088,.b 0,.c 1023],⟨88,[vP 2 0 6,vP 3 1 4,vP 4 2 5,vL 7 1 rests1 QaI,vP 8 3 5,vI 9 r2.2,vB 10 found,vB 11 more],[oX 6 30 (Qad.enc x0),oX 4 34 [lI r.type_,lI r.start,lL 1 rests QaI,lL 2 r.visits Qab.enc],oX 5 60 [.bool false,lI 0,.nils,lI 0,lI 0],oX 5 60 (Qah.enc x1)]⟩⟩
def Qhy (Γ:Gam) (rv:Qah × Int) (x0:Qad) (r:Qac) (l:List Bool) (r2:Qah × Int) (x3:Qah) (found2:Bool):Prop:=Qky Γ rv ⟨[.c 1023],⟨88,[vP 4 0 5,vP 8 1 5,vI 9 r2.2,vB 10 found2],[oX 5 60 [.bool false,lI 0,.nils,lI 0,lI 0],oX 5 60 (Qah.enc x3)]⟩⟩
theorem Qle (Γ:Gam) (rv:Qah × Int) {x0 r l r2 rests rests1 x2 found1} {x:(List Bool × Qah × List Bool × Bool × Bool) ⊕ (Qah × Bool)} (h:QfP x0 r l r2 rests rests1 x2 found1 = some x) (hI:∀ s:List Bool × Qah × List Bool × Bool × Bool,x = .inl s→Qh4 Γ rv x0 r l r2 s.1 s.2.1 s.2.2.1 s.2.2.2.1 s.2.2.2.2) (hE:∀ e:Qah × Bool,x = .inr e→Qhy Γ rv x0 r l r2 e.1 e.2):Qky Γ rv ⟨[.c 65419,.b 1,.l 4088,.b 0,.c 1023],⟨88,[vP 2 0 6,vP 3 1 4,vP 4 2 5,vL 7 1 rests1 QaI,vP 8 3 5,vI 9 r2.2,vB 10 found1],[oX 6 30 (Qad.enc x0),oX 4 34 [lI r.type_,lI r.start,lL 1 rests QaI,lL 2 r.visits Qab.enc],oX 5 60 [.bool false,lI 0,.nils,lI 0,lI 0],oX 5 60 (Qah.enc x2)]⟩⟩:=by
 unfold QfP at h
 obtain ⟨r5,h8,h⟩:=Qae h
 exact gn 3 [2,3,4,7,8,9,10,11] [0,1,2,3] [nL QaI rests,cC (Qnv h8)] (hI _ (oJ h))
theorem QpZ (Γ:Gam) (rv:Qah × Int) {x0 r l r2} {s:List Bool × Qah × List Bool × Bool × Bool} {e:Qah × Bool} (h:loopF (fun s=>QeG x0 r l r2 s.1 s.2.1 s.2.2.1 s.2.2.2.1 s.2.2.2.2) s = some e) (hD:Qhy Γ rv x0 r l r2 e.1 e.2):Qh4 Γ rv x0 r l r2 s.1 s.2.1 s.2.2.1 s.2.2.2.1 s.2.2.2.2:=by
 refine QaD (C:=fun (s:List Bool × Qah × List Bool × Bool × Bool)=>Qh4 Γ rv x0 r l r2 s.1 s.2.1 s.2.2.1 s.2.2.2.1 s.2.2.2.2) (D:=fun (e:Qah × Bool)=>Qhy Γ rv x0 r l r2 e.1 e.2) ?_ h hD
 clear h hD s e
 rintro ⟨rests,x1,rests1,found,more⟩ z_ h hI hE
 replace h:QeG x0 r l r2 rests x1 rests1 found more = _:=h
 unfold QeG at h
 rcases Qag h with ⟨h5,h⟩|⟨h5,h⟩
 ·obtain ⟨r4,h6,h⟩:=Qae h
  rcases Qag h with ⟨h7,h⟩|⟨h7,h⟩
  ·exact gn 15 [2,3,4,7,8,9,10] [0,1,2,3] [bT h5,cC (Qkz h6),rp 11 hP,rp 2 (oI ((eqI r4.2 0) = true)),rp 4 (oI (((eqI r4.2 0) = true)∧(!found) = false)),oI ((eqI r4.2 0) = true),oI (((eqI r4.2 0) = true)∧(!found) = false),oR True ((eqI r4.2 0) = true),bT h7] (Qle Γ rv h hI hE)
  ·exact gn 13 [2,3,4,7,8,9,10] [0,1,2,3] [bT h5,cC (Qkz h6),rp 11 hP,rp 2 (oI ((eqI r4.2 0) = true)),rp 4 (oI (((eqI r4.2 0) = true)∧(!found) = false)),oI ((eqI r4.2 0) = true),oI (((eqI r4.2 0) = true)∧(!found) = false),oR True ((eqI r4.2 0) = true),bF h7] (Qle Γ rv h hI hE)
 ·exact gn 5 [4,8,9,10] [2,3] [bF h5] (hE _ (oJ h))
theorem Qns {x0 r} {rv:Qah × Int} (h:Qfv x0 r = some rv):AFn Tryz.prog 54 [.agg (Qad.enc x0),.agg (Qac.enc r)] [] (.tup [.agg [.bool rv.1.rest_,lI rv.1.depart,lL 4 rv.1.times Qao.enc,lI rv.1.end_,lI rv.1.miles],.one (lI rv.2)]) []:=by
 refine QaL Tryz.func54 (by kernel_rfl) (by kernel_rfl) (fun Γ=>?_)
 unfold Qfv at h
 obtain ⟨r1,h0,h⟩:=Qae h
 rcases Qag h with ⟨h1,h⟩|⟨h1,h⟩
 ·obtain rfl:=Option.some.inj h
  exact gr 10 [] [nL Qab.enc r.visits,cC (Qfk h0),hP,hP,hP,rp 2 (oI ((!r1) = false)),nL QaI r.rests,hP,hP,hP,rp 2 (oI ((!r1) = false)),oR True ((!r1) = false),bT h1,hW 5,hH (.nilB 2 2 4)]
 ·obtain ⟨l,h2,h⟩:=Qae h
  obtain ⟨r2,h3,h⟩:=Qae h
  obtain ⟨r3,h4,h⟩:=Qae h
  obtain ⟨e0,h9,h⟩:=Qae h
  refine gn 22 [2,3,4,7,8,9,10,11] [0,1,2,4] [nL Qab.enc r.visits,cC (Qfk h0),hP,hP,hP,rp 2 (oI ((!r1) = false)),nL QaI r.rests,hP,hP,hP,rp 2 (oI ((!r1) = false)),oR True ((!r1) = false),bF h1,hH (.cells [.bool false]),hH (.rows (l.map QaI)),oO (mk1 h2),oO (mk2 h2),oO (mk3 h2),oO (mk4 h2),oO (mk5 QaI h2),cY QaI l r.rests,hH (.relen 3 ((cpyL l r.rests).map QaI).length),hW 5,hH (.frz 3),rp 3 (oO (QA5 QaI l r.rests)),rp 4 (oO (Eq.refl ((cpyL l r.rests).map QaI).length)),cC (Qkz h3),nL QaI r.rests,cC (Qnv h4)] (QpZ Γ rv h9 ?_)
  obtain ⟨x3,found2⟩:=e0
  replace h:(br found2 (some (x3,0)) (some ((Qah.mk false 0 [] 0 0),r2.2)):Option (Qah × Int)) = some _:=h
  rcases Qag h with ⟨h10,h⟩|⟨h10,h⟩
  ·obtain rfl:=Option.some.inj h
   exact gr 7 [] [nF h10]
  ·obtain rfl:=Option.some.inj h
   exact gr 6 [] [nT h10,hW 6,hH (.nilB 0 2 4)]
def QmH (Γ:Gam) (rv:Bool) (cf:Cf):Prop:=Go Tryz.prog Tryz.f101 [] Γ (one (.bool rv)) [] cf
def Qkj (Γ:Gam) (rv:Bool) (l:List Qab) (at_:Int) (i:Int):Prop:=QmH Γ rv ⟨[.c 52,.l 52,.b 0,.c 7],⟨22,[vL 0 2 l Qab.enc,vI 1 at_,vI 5 i],[]⟩⟩
def Qi9 (Γ:Gam) (rv:Bool) (l:List Qab) (at_:Int):Prop:=QmH Γ rv ⟨[.c 7],⟨22,[],[]⟩⟩
theorem QoD (Γ:Gam) (rv:Bool) {l at_} {s:Int} {e:(Unit) ⊕ (Bool)} (h:loopF (fun s=>Qcb l at_ s) s = some e) (hD:sel e (fun e=>Qi9 Γ rv l at_) (fun e=>e = rv)):Qkj Γ rv l at_ s:=by
 refine QaD (C:=fun (s:Int)=>Qkj Γ rv l at_ s) (D:=fun (e:(Unit) ⊕ (Bool))=>sel e (fun e=>Qi9 Γ rv l at_) (fun e=>e = rv)) ?_ h hD
 clear h hD s e
 intro i z_ h hI hE
 replace h:Qcb l at_ i = _:=h
 unfold Qcb at h
 rcases Qag h with ⟨h0,h⟩|⟨h0,h⟩
 ·obtain ⟨x0,h1,h⟩:=Qae h
  obtain ⟨x1,h2,h⟩:=Qae h
  rcases Qag h with ⟨h3,h⟩|⟨h3,h⟩
  ·obtain rfl:=(hE _ (oJ h):_ = rv)
   exact gr 12 [] [bT h0,hH (.draw 11 []),cE Qab.enc h1,cE Qab.enc h2,bT h3]
  ·exact gn 14 [0,1,5] [] [bT h0,hH (.draw 11 []),cE Qab.enc h1,cE Qab.enc h2,bF h3] (hI _ (oJ h))
 ·exact gn 5 [] [] [bF h0] (hE _ (oJ h))
theorem QdE {l at_} {rv:Bool} (h:Qgl l at_ = some rv):AFn Tryz.prog 101 [.one (lL 2 l Qab.enc),.one (lI at_)] [] (one (.bool rv)) []:=by
 refine QaL Tryz.func101 (by kernel_rfl) (by kernel_rfl) (fun Γ=>?_)
 unfold Qgl at h
 obtain ⟨e0,h4,h⟩:=Qae h
 refine gn 7 [0,1,5] [] [] (QoD Γ rv h4 ?_)
 rcases e0 with e0|e0
 ·replace h:(some true:Option Bool) = some _:=h
  obtain rfl:=Option.some.inj h
  exact gr 2 [] []
 ·obtain ⟨r,rfl⟩:∃ x,x = e0:=⟨_,rfl⟩
  replace h:(some r:Option Bool) = some _:=h
  exact Option.some.inj h
def Qjk (Γ:Gam) (rv:QaE) (cf:Cf):Prop:=Go Tryz.prog Tryz.f55 [] Γ (gG [lI rv.cost,lI rv.moved,lI rv.other,lI rv.work]) [] cf
def Qhz (Γ:Gam) (rv:QaE) (x0:Qad) (r:Qac) (s0:Qah) (x1:Qai) (moved:Int) (other:Int) (i:Int):Prop:=Qjk Γ rv ⟨[.c 1012,.l 1012,.b 0,.c 127],⟨128,[vP 3 0 6,vP 4 1 4,vP 6 2 4,vP 9 3 4,vI 10 i],[oX 6 30 (Qad.enc x0),oX 4 34 (Qac.enc r),oX 4 62 [lI 0,lI 0,lI 0,lI 0],oX 4 62 [lI (addK .i64 (addK .i64 x1.fixed (mulK .i64 x1.perMile s0.miles)) (mulK .i64 x1.perTick (subK .i64 s0.end_ x1.open_))),lI moved,lI other,lI (mulK .i64 (quoK .i64 (subK .i64 s0.end_ x1.open_) 64) (quoK .i64 (subK .i64 s0.end_ x1.open_) 64))]]⟩⟩
def Qg3 (Γ:Gam) (rv:QaE) (x0:Qad) (r:Qac) (s0:Qah) (x1:Qai) (moved2:Int) (other1:Int):Prop:=Qjk Γ rv ⟨[.c 127],⟨128,[vP 6 0 4,vP 9 1 4],[oX 4 62 [lI 0,lI 0,lI 0,lI 0],oX 4 62 [lI (addK .i64 (addK .i64 x1.fixed (mulK .i64 x1.perMile s0.miles)) (mulK .i64 x1.perTick (subK .i64 s0.end_ x1.open_))),lI moved2,lI other1,lI (mulK .i64 (quoK .i64 (subK .i64 s0.end_ x1.open_) 64) (quoK .i64 (subK .i64 s0.end_ x1.open_) 64))]]⟩⟩
theorem Qki (Γ:Gam) (rv:QaE) {x0 r s0 x1 other i x2 moved1} {x:(Int × Int × Int) ⊕ (Int × Int)} (h:Qfm x0 r s0 x1 other i x2 moved1 = some x) (hI:∀ s:Int × Int × Int,x = .inl s→Qhz Γ rv x0 r s0 x1 s.1 s.2.1 s.2.2) (hE:∀ e:Int × Int,x = .inr e→Qg3 Γ rv x0 r s0 x1 e.1 e.2):Qjk Γ rv ⟨[.c 64807,.b 1,.c 4051,.l 1012,.b 0,.c 127],⟨128,[vP 3 0 6,vP 4 1 4,vP 6 2 4,vP 9 3 4,vI 10 i,vI 11 x2.order],[oX 6 30 (Qad.enc x0),oX 4 34 (Qac.enc r),oX 4 62 [lI 0,lI 0,lI 0,lI 0],oX 4 62 [lI (addK .i64 (addK .i64 x1.fixed (mulK .i64 x1.perMile s0.miles)) (mulK .i64 x1.perTick (subK .i64 s0.end_ x1.open_))),lI moved1,lI other,lI (mulK .i64 (quoK .i64 (subK .i64 s0.end_ x1.open_) 64) (quoK .i64 (subK .i64 s0.end_ x1.open_) 64))]]⟩⟩:=by
 unfold Qfm at h
 obtain ⟨x4,h10,h⟩:=Qae h
 rcases Qag h with ⟨h11,h⟩|⟨h11,h⟩
 ·rcases Qag h with ⟨h12,h⟩|⟨h12,h⟩
  ·exact gn 7 [3,4,6,9,10] [0,1,2,3] [hH (.draw 18 []),cE Qak.enc h10,rp 4 (bT h11),cE Qak.enc h10,rp 6 (bT h11),bT h12] (hI _ (oJ h))
  ·exact gn 7 [3,4,6,9,10] [0,1,2,3] [hH (.draw 18 []),cE Qak.enc h10,rp 4 (bT h11),cE Qak.enc h10,rp 6 (bT h11),bF h12] (hI _ (oJ h))
 ·exact gn 7 [3,4,6,9,10] [0,1,2,3] [hH (.draw 18 []),cE Qak.enc h10,rp 10 (bF h11),fF] (hI _ (oJ h))
theorem Qpm (Γ:Gam) (rv:QaE) {x0 r s0 x1} {s:Int × Int × Int} {e:Int × Int} (h:loopF (fun s=>QbZ x0 r s0 x1 s.1 s.2.1 s.2.2) s = some e) (hD:Qg3 Γ rv x0 r s0 x1 e.1 e.2):Qhz Γ rv x0 r s0 x1 s.1 s.2.1 s.2.2:=by
 refine QaD (C:=fun (s:Int × Int × Int)=>Qhz Γ rv x0 r s0 x1 s.1 s.2.1 s.2.2) (D:=fun (e:Int × Int)=>Qg3 Γ rv x0 r s0 x1 e.1 e.2) ?_ h hD
 clear h hD s e
 rintro ⟨moved,other,i⟩ z_ h hI hE
 replace h:QbZ x0 r s0 x1 moved other i = _:=h
 unfold QbZ at h
 rcases Qag h with ⟨h2,h⟩|⟨h2,h⟩
 ·obtain ⟨x2,h3,h⟩:=Qae h
  rcases Qag h with ⟨h4,h⟩|⟨h4,h⟩
  ·exact gn 16 [3,4,6,9,10] [0,1,2,3] [nL Qab.enc r.visits,bT h2,cE Qab.enc h3,rp 4 hP,rp 2 (oI ((ltI x2.order 0) = false)),nL Qak.enc x0.orders,hP,hP,rp 2 (oI ((ltI x2.order 0) = false)),oR True ((ltI x2.order 0) = false),rp 6 (bT h4),tT] (hI _ (oJ h))
  ·obtain ⟨r1,h5,h⟩:=Qae h
   rcases Qag h with ⟨h6,h⟩|⟨h6,h⟩
   ·obtain ⟨x3,h7,h⟩:=Qae h
    rcases Qag h with ⟨h8,h⟩|⟨h8,h⟩
    ·rcases Qag h with ⟨h9,h⟩|⟨h9,h⟩
     ·exact gn 19 [3,4,6,9,10,11] [0,1,2,3] [nL Qab.enc r.visits,bT h2,cE Qab.enc h3,rp 4 hP,rp 2 (oI ((ltI x2.order 0) = false)),nL Qak.enc x0.orders,hP,hP,rp 2 (oI ((ltI x2.order 0) = false)),oR True ((ltI x2.order 0) = false),rp 4 (bF h4),cC (QdE h5),bF h4,bF h4,nF h6,hH (.draw 18 []),cE Qak.enc h7,rp 4 (bT h8),cE Qak.enc h7,rp 6 (bT h8),bT h9] (Qki Γ rv h hI hE)
     ·exact gn 19 [3,4,6,9,10,11] [0,1,2,3] [nL Qab.enc r.visits,bT h2,cE Qab.enc h3,rp 4 hP,rp 2 (oI ((ltI x2.order 0) = false)),nL Qak.enc x0.orders,hP,hP,rp 2 (oI ((ltI x2.order 0) = false)),oR True ((ltI x2.order 0) = false),rp 4 (bF h4),cC (QdE h5),bF h4,bF h4,nF h6,hH (.draw 18 []),cE Qak.enc h7,rp 4 (bT h8),cE Qak.enc h7,rp 6 (bT h8),bF h9] (Qki Γ rv h hI hE)
    ·rcases Qag h with ⟨h13,h⟩|⟨h13,h⟩
     ·rcases Qag h with ⟨h14,h⟩|⟨h14,h⟩
      ·exact gn 26 [3,4,6,9,10] [0,1,2,3] [nL Qab.enc r.visits,bT h2,cE Qab.enc h3,rp 4 hP,rp 2 (oI ((ltI x2.order 0) = false)),nL Qak.enc x0.orders,hP,hP,rp 2 (oI ((ltI x2.order 0) = false)),oR True ((ltI x2.order 0) = false),rp 4 (bF h4),cC (QdE h5),bF h4,bF h4,nF h6,hH (.draw 18 []),cE Qak.enc h7,rp 10 (bF h8),fF,hH (.draw 18 []),cE Qak.enc h7,rp 4 (bT h13),cE Qak.enc h7,rp 6 (bT h13),bT h14] (hI _ (oJ h))
      ·exact gn 26 [3,4,6,9,10] [0,1,2,3] [nL Qab.enc r.visits,bT h2,cE Qab.enc h3,rp 4 hP,rp 2 (oI ((ltI x2.order 0) = false)),nL Qak.enc x0.orders,hP,hP,rp 2 (oI ((ltI x2.order 0) = false)),oR True ((ltI x2.order 0) = false),rp 4 (bF h4),cC (QdE h5),bF h4,bF h4,nF h6,hH (.draw 18 []),cE Qak.enc h7,rp 10 (bF h8),fF,hH (.draw 18 []),cE Qak.enc h7,rp 4 (bT h13),cE Qak.enc h7,rp 6 (bT h13),bF h14] (hI _ (oJ h))
     ·exact gn 26 [3,4,6,9,10] [0,1,2,3] [nL Qab.enc r.visits,bT h2,cE Qab.enc h3,rp 4 hP,rp 2 (oI ((ltI x2.order 0) = false)),nL Qak.enc x0.orders,hP,hP,rp 2 (oI ((ltI x2.order 0) = false)),oR True ((ltI x2.order 0) = false),rp 4 (bF h4),cC (QdE h5),bF h4,bF h4,nF h6,hH (.draw 18 []),cE Qak.enc h7,rp 10 (bF h8),fF,hH (.draw 18 []),cE Qak.enc h7,rp 10 (bF h13),fF] (hI _ (oJ h))
   ·exact gn 16 [3,4,6,9,10] [0,1,2,3] [nL Qab.enc r.visits,bT h2,cE Qab.enc h3,rp 4 hP,rp 2 (oI ((ltI x2.order 0) = false)),nL Qak.enc x0.orders,hP,hP,rp 2 (oI ((ltI x2.order 0) = false)),oR True ((ltI x2.order 0) = false),rp 4 (bF h4),cC (QdE h5),bF h4,bF h4,nT h6] (hI _ (oJ h))
 ·exact gn 5 [6,9] [2,3] [nL Qab.enc r.visits,bF h2] (hE _ (oJ h))
theorem QqY {x0 r s0} {rv:QaE} (h:QfQ x0 r s0 = some rv):AFn Tryz.prog 55 [.agg (Qad.enc x0),.agg (Qac.enc r),.agg (Qah.enc s0)] [] (gG [lI rv.cost,lI rv.moved,lI rv.other,lI rv.work]) []:=by
 refine QaL Tryz.func55 (by kernel_rfl) (by kernel_rfl) (fun Γ=>?_)
 unfold QfQ at h
 rcases Qag h with ⟨h0,h⟩|⟨h0,h⟩
 ·obtain rfl:=Option.some.inj h
  exact gr 8 [] [rp 5 hP,rp 3 (oI ((ltI r.type_ 0) = false)),nL Qai.enc x0.types,hP,hP,rp 2 (oI ((ltI r.type_ 0) = false)),oR True ((ltI r.type_ 0) = false),bT h0]
 ·obtain ⟨x1,h1,h⟩:=Qae h
  obtain ⟨e0,h15,h⟩:=Qae h
  refine gn 18 [3,4,6,9,10] [0,1,3,5] [rp 5 hP,rp 3 (oI ((ltI r.type_ 0) = false)),nL Qai.enc x0.types,hP,hP,rp 2 (oI ((ltI r.type_ 0) = false)),oR True ((ltI r.type_ 0) = false),bF h0,cE Qai.enc h1,rp 2 (oO (oA (n:=64)))] (Qpm Γ rv h15 ?_)
  obtain ⟨moved2,other1⟩:=e0
  replace h:(some (QaE.mk (addK .i64 (addK .i64 x1.fixed (mulK .i64 x1.perMile s0.miles)) (mulK .i64 x1.perTick (subK .i64 s0.end_ x1.open_))) moved2 other1 (mulK .i64 (quoK .i64 (subK .i64 s0.end_ x1.open_) 64) (quoK .i64 (subK .i64 s0.end_ x1.open_) 64))):Option QaE) = some _:=h
  obtain rfl:=Option.some.inj h
  exact gr 2 [] []
def Qli (Γ:Gam) (rv:Qah × QaE × Int) (cf:Cf):Prop:=Go Tryz.prog Tryz.f29 [] Γ (.tup [.agg [.bool rv.1.rest_,lI rv.1.depart,lL 4 rv.1.times Qao.enc,lI rv.1.end_,lI rv.1.miles],.agg [lI rv.2.1.cost,lI rv.2.1.moved,lI rv.2.1.other,lI rv.2.1.work],.one (lI rv.2.2)]) [] cf
def QiG (Γ:Gam) (rv:Qah × QaE × Int) (x0:Qad) (r:Qac) (i:Int):Prop:=Qli Γ rv ⟨[.c 244,.l 244,.b 0,.c 31],⟨85,[vP 2 0 6,vP 3 1 4,vP 4 2 5,vP 5 3 4,vI 8 i],[oX 6 30 (Qad.enc x0),oX 4 34 (Qac.enc r),oX 5 60 [.bool false,lI 0,.nils,lI 0,lI 0],oX 4 62 [lI 0,lI 0,lI 0,lI 0]]⟩⟩
def Qil (Γ:Gam) (rv:Qah × QaE × Int) (x0:Qad) (r:Qac):Prop:=Qli Γ rv ⟨[.c 31],⟨85,[vP 2 0 6,vP 3 1 4,vP 4 2 5,vP 5 3 4],[oX 6 30 (Qad.enc x0),oX 4 34 (Qac.enc r),oX 5 60 [.bool false,lI 0,.nils,lI 0,lI 0],oX 4 62 [lI 0,lI 0,lI 0,lI 0]]⟩⟩
theorem Qnx (Γ:Gam) (rv:Qah × QaE × Int) {x0 r} {s:Int} {e:(Unit) ⊕ (Qah × QaE × Int)} (h:loopF (fun s=>Qbq x0 r s) s = some e) (hD:sel e (fun e=>Qil Γ rv x0 r) (fun e=>e = rv)):QiG Γ rv x0 r s:=by
 refine QaD (C:=fun (s:Int)=>QiG Γ rv x0 r s) (D:=fun (e:(Unit) ⊕ (Qah × QaE × Int))=>sel e (fun e=>Qil Γ rv x0 r) (fun e=>e = rv)) ?_ h hD
 clear h hD s e
 intro i z_ h hI hE
 replace h:Qbq x0 r i = _:=h
 unfold Qbq at h
 rcases Qag h with ⟨h3,h⟩|⟨h3,h⟩
 ·obtain ⟨x1,h4,h⟩:=Qae h
  obtain ⟨x2,h5,h⟩:=Qae h
  obtain ⟨x3,h6,h⟩:=Qae h
  obtain ⟨r2,h7,h⟩:=Qae h
  rcases Qag h with ⟨h8,h⟩|⟨h8,h⟩
  ·exact gn 14 [2,3,4,5,8] [0,1,2,3] [nL Qab.enc r.visits,bT h3,hH (.draw 19 []),cE Qai.enc h4,cE Qab.enc h5,cE Qak.enc h6,cC (Qnl h7),nF h8] (hI _ (oJ h))
  ·obtain rfl:=(hE _ (oJ h):_ = rv)
   exact gr 12 [] [nL Qab.enc r.visits,bT h3,hH (.draw 19 []),cE Qai.enc h4,cE Qab.enc h5,cE Qak.enc h6,cC (Qnl h7),nT h8,hW 7,hH (.nilB 2 2 4)]
 ·exact gn 5 [2,3,4,5] [0,1,2,3] [nL Qab.enc r.visits,bF h3] (hE _ (oJ h))
theorem Qdb {x0 r} {rv:Qah × QaE × Int} (h:Qdi x0 r = some rv):AFn Tryz.prog 29 [.agg (Qad.enc x0),.agg (Qac.enc r)] [] (.tup [.agg [.bool rv.1.rest_,lI rv.1.depart,lL 4 rv.1.times Qao.enc,lI rv.1.end_,lI rv.1.miles],.agg [lI rv.2.1.cost,lI rv.2.1.moved,lI rv.2.1.other,lI rv.2.1.work],.one (lI rv.2.2)]) []:=by
 refine QaL Tryz.func29 (by kernel_rfl) (by kernel_rfl) (fun Γ=>?_)
 unfold Qdi at h
 rcases Qag h with ⟨h0,h⟩|⟨h0,h⟩
 ·obtain rfl:=Option.some.inj h
  exact gr 8 [] [rp 5 hP,rp 3 (oI ((ltI r.type_ 0) = false)),nL Qai.enc x0.types,hP,hP,rp 2 (oI ((ltI r.type_ 0) = false)),oR True ((ltI r.type_ 0) = false),bT h0,hW 7,hH (.nilB 2 2 4)]
 ·obtain ⟨r1,h1,h⟩:=Qae h
  rcases Qag h with ⟨h2,h⟩|⟨h2,h⟩
  ·obtain rfl:=Option.some.inj h
   exact gr 15 [] [rp 5 hP,rp 3 (oI ((ltI r.type_ 0) = false)),nL Qai.enc x0.types,hP,hP,rp 2 (oI ((ltI r.type_ 0) = false)),oR True ((ltI r.type_ 0) = false),bF h0,cC (QgI h1),bT h2,hW 8,hH (.nilB 2 2 4)]
  ·obtain ⟨e0,h9,h⟩:=Qae h
   refine gn 19 [2,3,4,5,8] [0,1,2,3] [rp 5 hP,rp 3 (oI ((ltI r.type_ 0) = false)),nL Qai.enc x0.types,hP,hP,rp 2 (oI ((ltI r.type_ 0) = false)),oR True ((ltI r.type_ 0) = false),bF h0,cC (QgI h1),bF h2] (Qnx Γ rv h9 ?_)
   rcases e0 with e0|e0
   ·replace h:(bnd (Qgq x0 r) fun r3=>br (neI r3 0) (some ((Qah.mk false 0 [] 0 0),(QaE.mk 0 0 0 0),r3)) (bnd (Qfv x0 r) fun r4=>br (neI r4.2 0) (some ((Qah.mk false 0 [] 0 0),(QaE.mk 0 0 0 0),r4.2)) (bnd (QfQ x0 r r4.1) fun r5=>some (r4.1,r5,0))):Option (Qah × QaE × Int)) = some _:=h
    obtain ⟨r3,h10,h⟩:=Qae h
    rcases Qag h with ⟨h11,h⟩|⟨h11,h⟩
    ·obtain rfl:=Option.some.inj h
     exact gr 8 [] [cC (Qjj h10),bT h11,hW 8,hH (.nilB 2 2 4)]
    ·obtain ⟨r4,h12,h⟩:=Qae h
     rcases Qag h with ⟨h13,h⟩|⟨h13,h⟩
     ·obtain rfl:=Option.some.inj h
      exact gr 15 [] [cC (Qjj h10),bF h11,cC (Qns h12),bT h13,hW 8,hH (.nilB 2 2 4)]
     ·obtain ⟨r5,h14,h⟩:=Qae h
      obtain rfl:=Option.some.inj h
      exact gr 16 [] [cC (Qjj h10),bF h11,cC (Qns h12),bF h13,hH (.draw 5 []),cC (QqY h14)]
   ·obtain ⟨r6,rfl⟩:∃ x,x = e0:=⟨_,rfl⟩
    replace h:(some r6:Option (Qah × QaE × Int)) = some _:=h
    exact Option.some.inj h
theorem QqZ {x0 r s0 i} {rv:Int} (h:QiH x0 r s0 i = some rv):AFn Tryz.prog 56 [.agg (Qad.enc x0),.agg (Qac.enc r),.agg (Qah.enc s0),.one (lI i)] [] (one (lI rv)) []:=by
 refine QaL Tryz.func56 (by kernel_rfl) (by kernel_rfl) (fun Γ=>?_)
 unfold QiH at h
 obtain ⟨x1,h0,h⟩:=Qae h
 obtain ⟨x2,h1,h⟩:=Qae h
 rcases Qag h with ⟨h2,h⟩|⟨h2,h⟩
 ·obtain ⟨x3,h3,h⟩:=Qae h
  obtain rfl:=Option.some.inj h
  exact gr 10 [] [hH (.draw 11 []),cE Qab.enc h0,cE Qak.enc h1,cE Qab.enc h0,bT h2,hH (.draw 11 []),cE Qao.enc h3]
 ·obtain ⟨x4,h4,h⟩:=Qae h
  obtain rfl:=Option.some.inj h
  exact gr 11 [] [hH (.draw 11 []),cE Qab.enc h0,cE Qak.enc h1,cE Qab.enc h0,bF h2,hH (.draw 11 []),cE Qao.enc h4]
def Qnz (Γ:Gam) (rv:Int × Bool) (cf:Cf):Prop:=Go Tryz.prog Tryz.f30 [] Γ (.tup [.one (lI rv.1),.one (.bool rv.2)]) [] cf
def Qlj (Γ:Gam) (rv:Int × Bool) (x0:Qad) (r:Qac) (s0:Qah) (now:Int) (n:Int) (ready:Int) (i:Int):Prop:=Qnz Γ rv ⟨[.c 244,.l 244,.b 0,.c 31],⟨49,[vI 3 now,vP 4 0 6,vP 5 1 4,vP 6 2 5,vI 10 n,vI 11 ready,vI 12 i],[oX 6 30 (Qad.enc x0),oX 4 34 (Qac.enc r),oX 5 60 (Qah.enc s0)]⟩⟩
def Qkm (Γ:Gam) (rv:Int × Bool) (x0:Qad) (r:Qac) (s0:Qah) (now:Int) (n1:Int) (ready1:Int):Prop:=Qnz Γ rv ⟨[.c 31],⟨49,[vI 3 now,vI 10 n1,vI 11 ready1],[]⟩⟩
theorem Qpn (Γ:Gam) (rv:Int × Bool) {x0 r s0 now} {s:Int × Int × Int} {e:(Int × Int) ⊕ (Int × Bool)} (h:loopF (fun s=>Qb0 x0 r s0 now s.1 s.2.1 s.2.2) s = some e) (hD:sel e (fun e=>Qkm Γ rv x0 r s0 now e.1 e.2) (fun e=>e = rv)):Qlj Γ rv x0 r s0 now s.1 s.2.1 s.2.2:=by
 refine QaD (C:=fun (s:Int × Int × Int)=>Qlj Γ rv x0 r s0 now s.1 s.2.1 s.2.2) (D:=fun (e:(Int × Int) ⊕ (Int × Bool))=>sel e (fun e=>Qkm Γ rv x0 r s0 now e.1 e.2) (fun e=>e = rv)) ?_ h hD
 clear h hD s e
 rintro ⟨n,ready,i⟩ z_ h hI hE
 replace h:Qb0 x0 r s0 now n ready i = _:=h
 unfold Qb0 at h
 rcases Qag h with ⟨h1,h⟩|⟨h1,h⟩
 ·rcases Qag h with ⟨h2,h⟩|⟨h2,h⟩
  ·obtain rfl:=(hE _ (oJ h):_ = rv)
   exact gr 13 [] [nL Qab.enc r.visits,bT h1,bT h2]
  ·obtain ⟨r1,h3,h⟩:=Qae h
   exact gn 18 [3,4,5,6,10,11,12] [0,1,2] [nL Qab.enc r.visits,bT h1,bF h2,cC (QqZ h3)] (hI _ (oJ h))
 ·exact gn 5 [3,10,11] [] [nL Qab.enc r.visits,bF h1] (hE _ (oJ h))
theorem QgK {x0 r s0 now} {rv:Int × Bool} (h:QfS x0 r s0 now = some rv):AFn Tryz.prog 30 [.agg (Qad.enc x0),.agg (Qac.enc r),.agg (Qah.enc s0),.one (lI now)] [] (.tup [.one (lI rv.1),.one (.bool rv.2)]) []:=by
 refine QaL Tryz.func30 (by kernel_rfl) (by kernel_rfl) (fun Γ=>?_)
 unfold QfS at h
 obtain ⟨x1,h0,h⟩:=Qae h
 obtain ⟨e0,h4,h⟩:=Qae h
 refine gn 11 [3,4,5,6,10,11,12] [0,1,2] [hH (.draw 11 []),cE Qai.enc h0] (Qpn Γ rv h4 ?_)
 rcases e0 with e0|e0
 ·obtain ⟨n1,ready1⟩:=e0
  replace h:(some (n1,((gtI n1 0) && (ltI ready1 now))):Option (Int × Bool)) = some _:=h
  obtain rfl:=Option.some.inj h
  exact gr 2 [] [rp 4 hP,rp 2 (oI ((gtI n1 0) = true)),oR True ((gtI n1 0) = true)]
 ·obtain ⟨r2,rfl⟩:∃ x,x = e0:=⟨_,rfl⟩
  replace h:(some r2:Option (Int × Bool)) = some _:=h
  exact Option.some.inj h
theorem QmI {x0 r now} {rv:Int × Int} (h:Qg4 x0 r now = some rv):AFn Tryz.prog 12 [.agg (Qad.enc x0),.agg (Qac.enc r),.one (lI now)] [] (.tup [.one (lI rv.1),.one (lI rv.2)]) []:=by
 refine QaL Tryz.func12 (by kernel_rfl) (by kernel_rfl) (fun Γ=>?_)
 unfold Qg4 at h
 rcases Qag h with ⟨h0,h⟩|⟨h0,h⟩
 ·obtain rfl:=Option.some.inj h
  exact gr 8 [] [hP,hP,hP,oI ((ltI now 0) = false),oR True ((ltI now 0) = false),bT h0]
 ·obtain ⟨r1,h1,h⟩:=Qae h
  rcases Qag h with ⟨h2,h⟩|⟨h2,h⟩
  ·obtain rfl:=Option.some.inj h
   exact gr 15 [] [hP,hP,hP,oI ((ltI now 0) = false),oR True ((ltI now 0) = false),bF h0,cC (Qdb h1),bT h2]
  ·obtain ⟨r2,h3,h⟩:=Qae h
   obtain rfl:=Option.some.inj h
   exact gr 18 [] [hP,hP,hP,oI ((ltI now 0) = false),oR True ((ltI now 0) = false),bF h0,cC (Qdb h1),bF h2,cC (QgK h3)]
theorem Qnc {x0 r now} {rv:Bool} (h:Qe8 x0 r now = some rv):AFn Tryz.prog 3 [.agg (Qad.enc x0),.agg (Qac.enc r),.one (lI now)] [] (one (.bool rv)) []:=by
 refine QaL Tryz.func3 (by kernel_rfl) (by kernel_rfl) (fun Γ=>?_)
 unfold Qe8 at h
 obtain ⟨r1,h0,h⟩:=Qae h
 rcases Qag h with ⟨h1,h⟩|⟨h1,h⟩
 ·obtain ⟨r2,h2,h⟩:=Qae h
  rcases Qag h with ⟨h3,h⟩|⟨h3,h⟩
  ·obtain ⟨r3,h4,h⟩:=Qae h
   obtain ⟨r4,h5,h⟩:=Qae h
   rcases Qag h with ⟨h6,h⟩|⟨h6,h⟩
   ·obtain ⟨r5,h7,h⟩:=Qae h
    obtain rfl:=Option.some.inj h
    exact gr 13 [] [cC (QaO h0),nF h1,nF h1,cC (Qa4 h2),nF h1,nF h1,nF h3,cC (QaB h4),cC (QmI h5),rp 4 hP,rp 2 (oI ((eqI r3.1 r4.1) = true)),oR True ((eqI r3.1 r4.1) = true),bT h6,cC (Qa9 h7),bT h6]
   ·obtain rfl:=Option.some.inj h
    exact gr 13 [] [cC (QaO h0),nF h1,nF h1,cC (Qa4 h2),nF h1,nF h1,nF h3,cC (QaB h4),cC (QmI h5),rp 4 hP,rp 2 (oI ((eqI r3.1 r4.1) = true)),oR True ((eqI r3.1 r4.1) = true),bF h6,bF h6]
  ·obtain ⟨r6,h8,h⟩:=Qae h
   obtain rfl:=Option.some.inj h
   exact gr 8 [] [cC (QaO h0),nF h1,nF h1,cC (Qa4 h2),nF h1,nF h1,nT h3,cC (Qa9 h8)]
 ·obtain ⟨r7,h9,h⟩:=Qae h
  obtain rfl:=Option.some.inj h
  exact gr 8 [] [cC (QaO h0),rp 4 (nT h1),tT,cC (Qa9 h9)]
end Go.Proofs.YtoogjnlmicgfiaaGreatDoor
