/- Part MV of the proof: texts W1. -/
import Derived.Test.YtoogjnlmicgfiaaGreatDoorMU
import Derived.Test.YtoogjnlmicgfiaaGreatDoorProg
namespace Go.Proofs.YtoogjnlmicgfiaaGreatDoor
set_option linter.unusedVariables false
set_option linter.unusedSectionVars false
set_option linter.unusedSimpArgs false
set_option maxHeartbeats 4000000
set_option maxRecDepth 100000
def QqF (Γ:Gam) (rv:ByteArray) (cf:Cf):Prop:=Go Tryz.prog Tryz.f180 [] Γ (one (.str rv)) [] cf
theorem Qi2 (Γ:Gam) (rv:ByteArray) {i u} (h:Qgf i u = some rv):QqF Γ rv ⟨[.c 431,.c 7],⟨54,[vI 0 i,vP 5 0 24,(6,one (.int .u64 u))],[oX 24 223 [.int .u8 0,.int .u8 0,.int .u8 0,.int .u8 0,.int .u8 0,.int .u8 0,.int .u8 0,.int .u8 0,.int .u8 0,.int .u8 0,.int .u8 0,.int .u8 0,.int .u8 0,.int .u8 0,.int .u8 0,.int .u8 0,.int .u8 0,.int .u8 0,.int .u8 0,.int .u8 0,.int .u8 0,.int .u8 0,.int .u8 0,.int .u8 0]]⟩⟩:=by
 unfold Qgf at h
 obtain ⟨r1,h4,h⟩:=Qae h
 cases h
theorem Qp8 {i base} {rv:ByteArray} (h:QkB i base = some rv):AFn Tryz.prog 180 [.one (lI i),.one (lI base)] [] (one (.str rv)) []:=by
 refine QaS Tryz.func180 (by kernel_rfl) (by kernel_rfl) (fun Γ=>?_)
 unfold QkB at h
 rcases Qai h with ⟨h0,h⟩|⟨h0,h⟩
 ·rcases Qai h with ⟨h1,h⟩|⟨h1,h⟩
  ·obtain ⟨r,h2,h⟩:=Qae h
   obtain rfl:=Option.some.inj h
   exact gr 12 [] [bT h0,hP,hP,hP,oI ((leI 0 i) = true),oR True ((leI 0 i) = true),bT h1,cC (Qsy h2)]
  ·rcases Qai h with ⟨h3,h⟩|⟨h3,h⟩
   ·exact gn 20 [0,5,6] [0] [bT h0,hP,hP,hP,oI ((leI 0 i) = true),oR True ((leI 0 i) = true),bF h1,bT h3] (Qi2 Γ rv h)
   ·exact gn 20 [0,5,6] [0] [bT h0,hP,hP,hP,oI ((leI 0 i) = true),oR True ((leI 0 i) = true),bF h1,bF h3] (Qi2 Γ rv h)
 ·cases h
theorem QsP {i} {rv:ByteArray} (h:Qp9 i = some rv):AFn Tryz.prog 179 [.one (lI i)] [] (one (.str rv)) []:=by
 refine QaS Tryz.func179 (by kernel_rfl) (by kernel_rfl) (fun Γ=>?_)
 unfold Qp9 at h
 obtain ⟨r,h0,h⟩:=Qae h
 obtain rfl:=Option.some.inj h
 exact gr 4 [] [cC (Qp8 h0)]
theorem Qn9 {i} {rv:ByteArray} (h:Qlh i = some rv):AFn Tryz.prog 178 [.one (lI i)] [] (one (.str rv)) []:=by
 refine QaS Tryz.func178 (by kernel_rfl) (by kernel_rfl) (fun Γ=>?_)
 unfold Qlh at h
 obtain ⟨r,h0,h⟩:=Qae h
 obtain rfl:=Option.some.inj h
 exact gr 4 [] [cC (QsP h0)]
def Qli (Γ:Gam) (rv:List Qaa) (cf:Cf):Prop:=Go Tryz.prog Tryz.f174 [] Γ (one (lL 2 rv Qaa.enc)) [] cf
def QkD (Γ:Gam) (rv:List Qaa) (l:List Qan) (l2:List Qaa) (v:Int):Prop:=Qli Γ rv ⟨[.c 244,.l 244,.b 0,.c 31],⟨83,[vL 0 2 l Qan.enc,vO 3 0 2 l2 Qaa.enc,vL 19 2 l Qan.enc,vI 20 (lenI l),vI 21 v],[oS 2 144 l2 Qaa.enc]⟩⟩
def Qjf (Γ:Gam) (rv:List Qaa) (l:List Qan) (l4:List Qaa):Prop:=Qli Γ rv ⟨[.c 31],⟨83,[vO 3 0 2 l4 Qaa.enc],[oS 2 144 l4 Qaa.enc]⟩⟩
theorem Qnm (Γ:Gam) (rv:List Qaa) {l v x0 r l3} {x:(List Qaa × Int) ⊕ (List Qaa)} (h:QhM l v x0 r l3 = some x) (hI:∀ s:List Qaa × Int,x = .inl s→QkD Γ rv l s.1 s.2) (hE:∀ e:List Qaa,x = .inr e→Qjf Γ rv l e):Qli Γ rv ⟨[.c 31335,.b 1,.c 1959,.l 244,.b 0,.c 31],⟨83,[vL 0 2 l Qan.enc,vO 3 0 2 l3 Qaa.enc,vI 4 v,vP 5 1 2,vS 6 r,vL 19 2 l Qan.enc,vI 20 (lenI l),vI 21 v],[oS 2 144 l3 Qaa.enc,oX 2 96 (Qan.enc x0)]⟩⟩:=by
 unfold QhM at h
 rcases Qai h with ⟨h8,h⟩|⟨h8,h⟩
 ·obtain ⟨x1,h9,h⟩:=Qae h
  rcases Qai h with ⟨h10,h⟩|⟨h10,h⟩
  ·obtain ⟨h11,h⟩:=Qaw h
   exact gn 7 [0,3,19,20,21] [3] [hH (.draw 24 []),rp 6 (bT h8),cE Qan.enc h9,rp 4 (bT h8),rp 9 (bT h10),bT h8,bT h10,bT h8,tT,oO (Eq.refl ([(Qaa.mk 13 r)].map Qaa.enc).length),aO Qaa.enc h11] (hI _ (oJ h))
  ·rcases Qai h with ⟨h12,h⟩|⟨h12,h⟩
   ·obtain ⟨h13,h⟩:=Qaw h
    exact gn 7 [0,3,19,20,21] [3] [hH (.draw 24 []),rp 6 (bT h8),cE Qan.enc h9,rp 4 (bT h8),rp 6 (bF h10),cE Qan.enc h9,rp 3 (bF h10),bT h8,bF h10,bT h8,bT h12,oO (Eq.refl ([(Qaa.mk 13 r)].map Qaa.enc).length),aO Qaa.enc h13] (hI _ (oJ h))
   ·exact gn 7 [0,3,19,20,21] [0] [hH (.draw 24 []),rp 6 (bT h8),cE Qan.enc h9,rp 4 (bT h8),rp 6 (bF h10),cE Qan.enc h9,rp 3 (bF h10),bT h8,bF h10,bT h8,bF h12] (hI _ (oJ h))
 ·exact gn 7 [0,3,19,20,21] [0] [hH (.draw 24 []),rp 10 (bF h8),rp 9 kF,bF h8,bF h8,fF] (hI _ (oJ h))
theorem Qq7 (Γ:Gam) (rv:List Qaa) {l} {s:List Qaa × Int} {e:List Qaa} (h:loopF (fun s=>QdO l s.1 s.2) s = some e) (hD:Qjf Γ rv l e):QkD Γ rv l s.1 s.2:=by
 refine QaI (C:=fun (s:List Qaa × Int)=>QkD Γ rv l s.1 s.2) (D:=fun (e:List Qaa)=>Qjf Γ rv l e) ?_ h hD
 clear h hD s e
 rintro ⟨l2,v⟩ z_ h hI hE
 replace h:QdO l l2 v = _:=h
 unfold QdO at h
 rcases Qai h with ⟨h2,h⟩|⟨h2,h⟩
 ·obtain ⟨x0,h3,h⟩:=Qae h
  obtain ⟨r,h4,h⟩:=Qae h
  obtain ⟨r1,h5,h⟩:=Qae h
  rcases Qai h with ⟨h6,h⟩|⟨h6,h⟩
  ·obtain ⟨h7,h⟩:=Qaw h
   exact gn 16 [0,3,4,5,6,19,20,21] [3,1] [bT h2,cE Qan.enc h3,cC (Qn9 h4),cC (Qg3 h5),rp 13 hP,rp 4 (oI ((!r1) = false)),oR True ((!r1) = false),rp 5 (oI (((!r1) || (ltI x0.a x0.t)) = false)),oR True (((!r1) || (ltI x0.a x0.t)) = false),bT h6,oO (Eq.refl ([(Qaa.mk 2 r)].map Qaa.enc).length),aO Qaa.enc h7] (Qnm Γ rv h hI hE)
  ·exact gn 16 [0,3,4,5,6,19,20,21] [0,1] [bT h2,cE Qan.enc h3,cC (Qn9 h4),cC (Qg3 h5),rp 13 hP,rp 4 (oI ((!r1) = false)),oR True ((!r1) = false),rp 5 (oI (((!r1) || (ltI x0.a x0.t)) = false)),oR True (((!r1) || (ltI x0.a x0.t)) = false),bF h6] (Qnm Γ rv h hI hE)
 ·exact gn 5 [3] [0] [bF h2] (hE _ (oJ h))
theorem Qnl (Γ:Gam) (rv:List Qaa) {l l1} (h:QhL l l1 = some rv):Qli Γ rv ⟨[.c 15],⟨83,[vL 0 2 l Qan.enc,vO 3 0 2 l1 Qaa.enc],[oS 2 144 l1 Qaa.enc]⟩⟩:=by
 unfold QhL at h
 obtain ⟨e0,h14,h⟩:=Qae h
 refine gn 5 [0,3,19,20,21] [0] [nL Qan.enc l] (Qq7 Γ rv h14 ?_)
 obtain ⟨l4,rfl⟩:∃ x,x = e0:=⟨_,rfl⟩
 replace h:(some l4:Option (List Qaa)) = some _:=h
 obtain rfl:=Option.some.inj h
 exact gr 2 [] [hW 4,hH (.frz 0),rp 3 (eL l4 Qaa.enc)]
theorem QsQ {l} {rv:List Qaa} (h:Ql4 l = some rv):AFn Tryz.prog 174 [.one (lL 2 l Qan.enc)] [] (one (lL 2 rv Qaa.enc)) []:=by
 refine QaS Tryz.func174 (by kernel_rfl) (by kernel_rfl) (fun Γ=>?_)
 unfold Ql4 at h
 rcases Qai h with ⟨h0,h⟩|⟨h0,h⟩
 ·obtain ⟨h1,h⟩:=Qaw h
  exact gn 9 [0,3] [1] [nL Qan.enc l,hP,hP,oI ((eqI (lenI l) 0) = false),nL Qan.enc l,hP,hP,oI ((eqI (lenI l) 0) = false),oR True ((eqI (lenI l) 0) = false),bT h0,oO (Eq.refl ([(Qaa.mk 4 ByteArray.empty)].map Qaa.enc).length),aN (l:=([(Qaa.mk 4 ByteArray.empty)]:List Qaa)) Qaa.enc h1] (Qnl Γ rv h)
 ·exact gn 9 [0,3] [0] [nL Qan.enc l,hP,hP,oI ((eqI (lenI l) 0) = false),nL Qan.enc l,hP,hP,oI ((eqI (lenI l) 0) = false),oR True ((eqI (lenI l) 0) = false),bF h0,hW 1,hH (.adopt 3 2 144)] (Qnl Γ rv h)
theorem QpP {l} {rv:Bool} (h:Ql5 l = some rv):AFn Tryz.prog 169 [.one (lL 2 l Qan.enc)] [] (one (.bool rv)) []:=by
 refine QaS Tryz.func169 (by kernel_rfl) (by kernel_rfl) (fun Γ=>?_)
 unfold Ql5 at h
 obtain ⟨r,h0,h⟩:=Qae h
 obtain rfl:=Option.some.inj h
 exact gr 4 [] [cC (QsQ h0),nL Qaa.enc r]
theorem Qjg {p t} {rv:Int} (h:QfF p t = some rv):AFn Tryz.prog 176 [.agg (Qan.enc p),.one (lI t)] [] (one (lI rv)) []:=by
 refine QaS Tryz.func176 (by kernel_rfl) (by kernel_rfl) (fun Γ=>?_)
 unfold QfF at h
 obtain rfl:=Option.some.inj h
 exact gr 4 [] []
def QbO (Γ:Gam) (rv:Int × Bool) (cf:Cf):Prop:=Go Tryz.prog Tryz.f175 [] Γ (.tup [.one (lI rv.1),.one (.bool rv.2)]) [] cf
def QbL (Γ:Gam) (rv:Int × Bool) (x0:List Qan) (target:Int) (i:Int) (j:Int):Prop:=QbO Γ rv ⟨[.c 120,.l 120,.b 0,.c 31],⟨49,[vL 0 2 x0 Qan.enc,vI 1 target,(2,one (.fn (.func 176) [])),vI 8 (lenI x0),vI 9 i,vI 10 j],[]⟩⟩
def QbF (Γ:Gam) (rv:Int × Bool) (x0:List Qan) (target:Int) (i1:Int):Prop:=QbO Γ rv ⟨[.c 31],⟨49,[vL 0 2 x0 Qan.enc,vI 1 target,(2,one (.fn (.func 176) [])),vI 8 (lenI x0),vI 9 i1],[]⟩⟩
theorem Qc8 (Γ:Gam) (rv:Int × Bool) {x0 target} {s:Int × Int} {e:Int} (h:loopF (fun s=>QaF x0 target s.1 s.2) s = some e) (hD:QbF Γ rv x0 target e):QbL Γ rv x0 target s.1 s.2:=by
 refine QaI (C:=fun (s:Int × Int)=>QbL Γ rv x0 target s.1 s.2) (D:=fun (e:Int)=>QbF Γ rv x0 target e) ?_ h hD
 clear h hD s e
 rintro ⟨i,j⟩ z_ h hI hE
 replace h:QaF x0 target i j = _:=h
 unfold QaF at h
 rcases Qai h with ⟨h0,h⟩|⟨h0,h⟩
 ·obtain ⟨x1,h1,h⟩:=Qae h
  obtain ⟨r,h2,h⟩:=Qae h
  rcases Qai h with ⟨h3,h⟩|⟨h3,h⟩
  ·exact gn 14 [0,1,2,8,9,10] [] [bT h0,oO (zL 1),cE Qan.enc h1,cC (Qjg h2),bT h3] (hI _ (oJ h))
  ·exact gn 14 [0,1,2,8,9,10] [] [bT h0,oO (zL 1),cE Qan.enc h1,cC (Qjg h2),bF h3] (hI _ (oJ h))
 ·exact gn 5 [0,1,2,8,9] [] [bF h0] (hE _ (oJ h))
theorem QaV {x0 target} {rv:Int × Bool} (h:Qa0 x0 target = some rv):AFn Tryz.prog 175 [.one (lL 2 x0 Qan.enc),.one (lI target),.one (.fn (.func 176) [])] [] (.tup [.one (lI rv.1),.one (.bool rv.2)]) []:=by
 refine QaS Tryz.func175 (by kernel_rfl) (by kernel_rfl) (fun Γ=>?_)
 unfold Qa0 at h
 obtain ⟨e0,h4,h⟩:=Qae h
 refine gn 9 [0,1,2,8,9,10] [] [nL Qan.enc x0] (Qc8 Γ rv h4 ?_)
 obtain ⟨i1,rfl⟩:∃ x,x = e0:=⟨_,rfl⟩
 replace h:(br (ltI i1 (lenI x0)) (bnd (getI x0 i1) fun x2=>bnd (QfF x2 target) fun r1=>some (i1,(eqI r1 0))) (some (i1,false)):Option (Int × Bool)) = some _:=h
 rcases Qai h with ⟨h5,h⟩|⟨h5,h⟩
 ·obtain ⟨x2,h6,h⟩:=Qae h
  obtain ⟨r1,h7,h⟩:=Qae h
  obtain rfl:=Option.some.inj h
  exact gr 2 [] [rp 4 (bT h5),cE Qan.enc h6,rp 3 (bT h5),cC (Qjg h7),bT h5,bT h5]
 ·obtain rfl:=Option.some.inj h
  exact gr 2 [] [rp 9 (bF h5)]
theorem QsC {l t} {rv:Int} (h:Qkl l t = some rv):AFn Tryz.prog 170 [.one (lL 2 l Qan.enc),.one (lI t)] [] (one (lI rv)) []:=by
 refine QaS Tryz.func170 (by kernel_rfl) (by kernel_rfl) (fun Γ=>?_)
 unfold Qkl at h
 obtain ⟨r,h0,h⟩:=Qae h
 rcases Qai h with ⟨h1,h⟩|⟨h1,h⟩
 ·obtain ⟨x0,h2,h⟩:=Qae h
  obtain rfl:=Option.some.inj h
  exact gr 11 [] [cC (QaV h0),bT h1,cE Qan.enc h2]
 ·rcases Qai h with ⟨h3,h⟩|⟨h3,h⟩
  ·obtain ⟨x1,h4,h⟩:=Qae h
   obtain rfl:=Option.some.inj h
   exact gr 14 [] [cC (QaV h0),bF h1,bT h3,hH (.draw 12 []),rp 2 (cE Qan.enc h4)]
  ·rcases Qai h with ⟨h5,h⟩|⟨h5,h⟩
   ·obtain ⟨x2,h6,h⟩:=Qae h
    obtain rfl:=Option.some.inj h
    exact gr 17 [] [cC (QaV h0),bF h1,bF h3,nL Qan.enc l,bT h5,hH (.draw 16 []),rp 2 (cE Qan.enc h6)]
   ·obtain ⟨x3,h7,h⟩:=Qae h
    obtain ⟨x4,h8,h⟩:=Qae h
    obtain ⟨h9,h⟩:=Qaw h
    obtain rfl:=Option.some.inj h
    exact gr 23 [] [cC (QaV h0),bF h1,bF h3,nL Qan.enc l,bF h5,hH (.draw 13 [(0,11),(1,12)]),cE Qan.enc h7,cE Qan.enc h8,hH (.draw 19 []),oO (h9)]
theorem QsB {l t} {rv:Int} (h:Qkk l t = some rv):AFn Tryz.prog 166 [.one (lL 2 l Qan.enc),.one (lI t)] [] (one (lI rv)) []:=by
 refine QaS Tryz.func166 (by kernel_rfl) (by kernel_rfl) (fun Γ=>?_)
 unfold Qkk at h
 obtain ⟨r,h0,h⟩:=Qae h
 rcases Qai h with ⟨h1,h⟩|⟨h1,h⟩
 ·obtain ⟨r1,h2,h⟩:=Qae h
  rcases Qai h with ⟨h3,h⟩|⟨h3,h⟩
  ·obtain ⟨r2,h4,h⟩:=Qae h
   obtain rfl:=Option.some.inj h
   exact gr 9 [] [cC (Qg3 h0),nF h1,nF h1,cC (QpP h2),nF h1,nF h1,nF h3,cC (QsC h4)]
  ·obtain rfl:=Option.some.inj h
   exact gr 8 [] [cC (Qg3 h0),nF h1,nF h1,cC (QpP h2),nF h1,nF h1,nT h3]
 ·obtain rfl:=Option.some.inj h
  exact gr 8 [] [cC (Qg3 h0),rp 4 (nT h1),tT]
def QnX (Γ:Gam) (rv:Int) (cf:Cf):Prop:=Go Tryz.prog Tryz.f162 [] Γ (one (lI rv)) [] cf
def QlN (Γ:Gam) (rv:Int) (a:Qav) (t:Int) (out:Int) (v:Int):Prop:=QnX Γ rv ⟨[.c 116,.l 116,.b 0,.c 15],⟨29,[vI 1 t,vI 5 out,vL 13 2 a.slow Qan.enc,vI 14 (lenI a.slow),vI 15 v],[]⟩⟩
def Qk5 (Γ:Gam) (rv:Int) (a:Qav) (t:Int) (out1:Int):Prop:=QnX Γ rv ⟨[.c 15],⟨29,[vI 5 out1],[]⟩⟩
theorem Qpv (Γ:Gam) (rv:Int) {a t} {s:Int × Int} {e:Int} (h:loopF (fun s=>Qg9 a t s.1 s.2) s = some e) (hD:Qk5 Γ rv a t e):QlN Γ rv a t s.1 s.2:=by
 refine QaI (C:=fun (s:Int × Int)=>QlN Γ rv a t s.1 s.2) (D:=fun (e:Int)=>Qk5 Γ rv a t e) ?_ h hD
 clear h hD s e
 rintro ⟨out,v⟩ z_ h hI hE
 replace h:Qg9 a t out v = _:=h
 unfold Qg9 at h
 rcases Qai h with ⟨h1,h⟩|⟨h1,h⟩
 ·obtain ⟨x0,h2,h⟩:=Qae h
  rcases Qai h with ⟨h3,h⟩|⟨h3,h⟩
  ·exact gn 16 [1,5,13,14,15] [] [bT h1,cE Qan.enc h2,bT h3] (hI _ (oJ h))
  ·exact gn 16 [1,5,13,14,15] [] [bT h1,cE Qan.enc h2,bF h3] (hI _ (oJ h))
 ·exact gn 5 [5] [] [bF h1] (hE _ (oJ h))
theorem QqX {a t} {rv:Int} (h:QhE a t = some rv):AFn Tryz.prog 162 [.agg (Qav.enc a),.one (lI t)] [] (one (lI rv)) []:=by
 refine QaS Tryz.func162 (by kernel_rfl) (by kernel_rfl) (fun Γ=>?_)
 unfold QhE at h
 obtain ⟨r,h0,h⟩:=Qae h
 obtain ⟨e0,h4,h⟩:=Qae h
 refine gn 9 [1,5,13,14,15] [] [cC (QsB h0),nL Qan.enc a.slow] (Qpv Γ rv h4 ?_)
 obtain ⟨out1,rfl⟩:∃ x,x = e0:=⟨_,rfl⟩
 replace h:(some out1:Option Int) = some _:=h
 obtain rfl:=Option.some.inj h
 exact gr 2 [] []
theorem Qj9 {n profile from_ to_ t} {rv:Int × Int × Int} (h:Qnb n profile from_ to_ t = some rv):AFn Tryz.prog 149 [.agg (Qah.enc n),.one (lI profile),.one (lI from_),.one (lI to_),.one (lI t)] [] (.tup [.one (lI rv.1),.one (lI rv.2.1),.one (lI rv.2.2)]) []:=by
 refine QaS Tryz.func149 (by kernel_rfl) (by kernel_rfl) (fun Γ=>?_)
 unfold Qnb at h
 obtain ⟨r,h0,h⟩:=Qae h
 rcases Qai h with ⟨h1,h⟩|⟨h1,h⟩
 ·obtain ⟨r1,h2,h⟩:=Qae h
  rcases Qai h with ⟨h3,h⟩|⟨h3,h⟩
  ·rcases Qai h with ⟨h4,h⟩|⟨h4,h⟩
   ·obtain rfl:=Option.some.inj h
    exact gr 13 [] [cC (Qdk h0),rp 3 (nF h1),cC (Qdk h2),nF h1,nF h1,nF h3,bT h4]
   ·obtain ⟨r2,h5,h⟩:=Qae h
    rcases Qai h with ⟨h6,h⟩|⟨h6,h⟩
    ·obtain ⟨r3,h7,h⟩:=Qae h
     obtain rfl:=Option.some.inj h
     exact gr 21 [] [cC (Qdk h0),rp 3 (nF h1),cC (Qdk h2),nF h1,nF h1,nF h3,bF h4,cC (QpF h5),nF h6,hH (.draw 8 []),cC (QqX h7)]
    ·obtain rfl:=Option.some.inj h
     exact gr 20 [] [cC (Qdk h0),rp 3 (nF h1),cC (Qdk h2),nF h1,nF h1,nF h3,bF h4,cC (QpF h5),nT h6]
  ·obtain rfl:=Option.some.inj h
   exact gr 8 [] [cC (Qdk h0),rp 3 (nF h1),cC (Qdk h2),nF h1,nF h1,nT h3]
 ·obtain rfl:=Option.some.inj h
  exact gr 8 [] [cC (Qdk h0),rp 5 (nT h1),tT]
theorem Qfe {p visits} {rv:Int} (h:QfJ p visits = some rv):AFn Tryz.prog 150 [.agg (Qau.enc p),.one (lI visits)] [] (one (lI rv)) []:=by
 refine QaS Tryz.func150 (by kernel_rfl) (by kernel_rfl) (fun Γ=>?_)
 unfold QfJ at h
 rcases Qai h with ⟨h0,h⟩|⟨h0,h⟩
 ·obtain rfl:=Option.some.inj h
  exact gr 8 [] [bT h0]
 ·obtain ⟨x0,h1,h⟩:=Qae h
  obtain rfl:=Option.some.inj h
  exact gr 9 [] [bF h0,cE Qat.enc h1]
theorem QpQ {s0 arrive} {rv:Int × Int} (h:QnJ s0 arrive = some rv):AFn Tryz.prog 151 [.agg (Qat.enc s0),.one (lI arrive)] [] (.tup [.one (lI rv.1),.one (lI rv.2)]) []:=by
 refine QaS Tryz.func151 (by kernel_rfl) (by kernel_rfl) (fun Γ=>?_)
 unfold QnJ at h
 rcases Qai h with ⟨h0,h⟩|⟨h0,h⟩
 ·obtain rfl:=Option.some.inj h
  exact gr 10 [] [bT h0]
 ·obtain rfl:=Option.some.inj h
  exact gr 11 [] [bF h0]
theorem QdS {s0} {rv:List Qaq} (h:Qbs s0 = some rv):AFn Tryz.prog 148 [.one (lL 4 s0 Qaq.enc)] [] (one (lO 0 4 rv Qaq.enc)) [oS 4 66 rv Qaq.enc]:=by
 refine QaS Tryz.func148 (by kernel_rfl) (by kernel_rfl) (fun Γ=>?_)
 unfold Qbs at h
 rcases Qai h with ⟨h0,h⟩|⟨h0,h⟩
 ·obtain ⟨hx,h⟩:=QwS h
  refine gn 5 [0,4] [] [hH (.skip)] (cf':=⟨[.c 13,.c 7],⟨8,[vL 0 4 s0 Qaq.enc,(4,.boo)],[]⟩⟩) (QBd 4 rfl ?_ ?_)
  ·replace h:=hx
   obtain rfl:=Option.some.inj h
   exact gr 3 [0] [tT,hW 3,hH (.adopt 2 4 66)]
  ·obtain ⟨h1,h⟩:=Qaw h
   obtain rfl:=Option.some.inj h
   exact gr 4 [0] [fF,aN Qaq.enc h1]
 ·obtain ⟨h2,h⟩:=Qaw h
  obtain rfl:=Option.some.inj h
  exact gr 9 [0] [oO (neE Qaq.enc h0),fF,hH (.bit false),aN Qaq.enc h2]
def QhN (Γ:Gam) (rv:Qaf × Int) (cf:Cf):Prop:=Go Tryz.prog Tryz.f124 [] Γ (.tup [.agg [lI rv.1.ready,lI rv.1.since,.bool rv.1.sheet.rest_,lI rv.1.sheet.depart,lL 4 rv.1.sheet.times Qaq.enc,lI rv.1.sheet.end_,lI rv.1.sheet.miles],.one (lI rv.2)]) [] cf
theorem QkN (Γ:Gam) (rv:Qaf × Int) {p l depart since rest_1 depart1 r2 l2 ready end_} (h:QeF p l depart since rest_1 depart1 r2 l2 ready end_ = some rv):QhN Γ rv ⟨[.c 32767],⟨163,[vP 4 0 25,vP 8 1 7,vP 12 2 7],[oX 25 133 (Qau.enc p),oX 7 137 [lI 0,lI 0,.bool false,lI 0,.nils,lI 0,lI 0],oX 7 137 [lI ready,lI (subK .i64 (addK .i64 since r2.1) depart),.bool rest_1,lI depart1,lO 3 4 l2 Qaq.enc,lI end_,lI (addK .i64 l.sheet.miles r2.2.1)],oS 4 66 l2 Qaq.enc]⟩⟩:=by
 unfold QeF at h
 rcases Qai h with ⟨h15,h⟩|⟨h15,h⟩
 ·obtain rfl:=Option.some.inj h
  exact gr 6 [] [bT h15,hW 5,hH (.nilB 1 4 4)]
 ·obtain rfl:=Option.some.inj h
  exact gr 7 [] [bF h15,hW 6,hH (.frz 3),rp 3 (eL l2 Qaq.enc)]
theorem QkM (Γ:Gam) (rv:Qaf × Int) {p l done depart since l1 rest_1 depart1 to_} (h:Qdw p l done depart since l1 rest_1 depart1 to_ = some rv):QhN Γ rv ⟨[.c 1023],⟨163,[vI 2 done,vP 4 0 25,vP 8 1 7,vI 10 depart,vI 11 since,vP 12 2 7,vB 13 (eqI done (lenI p.stops)),vI 14 to_],[oX 25 133 (Qau.enc p),oX 7 137 [lI 0,lI 0,.bool false,lI 0,.nils,lI 0,lI 0],oX 7 137 [lI 0,lI 0,.bool rest_1,lI depart1,lO 3 4 l1 Qaq.enc,lI l.sheet.end_,lI l.sheet.miles],oS 4 66 l1 Qaq.enc]⟩⟩:=by
 unfold Qdw at h
 obtain ⟨r1,h6,h⟩:=Qae h
 obtain ⟨r2,h7,h⟩:=Qae h
 rcases Qai h with ⟨h8,h⟩|⟨h8,h⟩
 ·obtain rfl:=Option.some.inj h
  exact gr 8 [] [hH (.draw 19 []),cC (Qfe h6),cC (Qj9 h7),bT h8,hW 5,hH (.nilB 1 4 4)]
 ·rcases Qai h with ⟨h9,h⟩|⟨h9,h⟩
  ·rcases Qai h with ⟨h10,h⟩|⟨h10,h⟩
   ·obtain rfl:=Option.some.inj h
    exact gr 21 [] [hH (.draw 19 []),cC (Qfe h6),cC (Qj9 h7),bF h8,bT h9,bT h10,hW 5,hH (.nilB 1 4 4)]
   ·exact gn 23 [4,8,12] [0,1,2,3] [hH (.draw 19 []),cC (Qfe h6),cC (Qj9 h7),bF h8,bT h9,bF h10] (QkN Γ rv h)
  ·obtain ⟨x2,h11,h⟩:=Qae h
   obtain ⟨r3,h12,h⟩:=Qae h
   rcases Qai h with ⟨h13,h⟩|⟨h13,h⟩
   ·obtain rfl:=Option.some.inj h
    exact gr 23 [] [hH (.draw 19 []),cC (Qfe h6),cC (Qj9 h7),bF h8,bF h9,cE Qat.enc h11,cC (QpQ h12),bT h13,hW 5,hH (.nilB 1 4 4)]
   ·obtain ⟨h14,h⟩:=Qaw h
    exact gn 25 [4,8,12] [0,1,2,5] [hH (.draw 19 []),cC (Qfe h6),cC (Qj9 h7),bF h8,bF h9,cE Qat.enc h11,cC (QpQ h12),bF h13,cE Qat.enc h11,oO (Eq.refl ([(Qaq.mk r2.1 r3.1 0 false)].map Qaq.enc).length),aO Qaq.enc h14] (QkN Γ rv h)
theorem QkL (Γ:Gam) (rv:Qaf × Int) {p l done depart since l1 rest_1 depart1} (h:QeE p l done depart since l1 rest_1 depart1 = some rv):QhN Γ rv ⟨[.c 127],⟨163,[vI 2 done,vP 4 0 25,vP 8 1 7,vI 10 depart,vI 11 since,vP 12 2 7],[oX 25 133 (Qau.enc p),oX 7 137 [lI 0,lI 0,.bool false,lI 0,.nils,lI 0,lI 0],oX 7 137 [lI 0,lI 0,.bool rest_1,lI depart1,lO 3 4 l1 Qaq.enc,lI l.sheet.end_,lI l.sheet.miles],oS 4 66 l1 Qaq.enc]⟩⟩:=by
 unfold QeE at h
 rcases Qai h with ⟨h4,h⟩|⟨h4,h⟩
 ·exact gn 9 [2,4,8,10,11,12,13,14] [0,1,2,3] [nL Qat.enc p.stops,nF h4] (QkM Γ rv h)
 ·obtain ⟨x1,h5,h⟩:=Qae h
  exact gn 9 [2,4,8,10,11,12,13,14] [0,1,2,3] [nL Qat.enc p.stops,nT h4,cE Qat.enc h5] (QkM Γ rv h)
theorem QkK (Γ:Gam) (rv:Qaf × Int) {p l done rest_ depart since} (h:QeD p l done rest_ depart since = some rv):QhN Γ rv ⟨[.c 15],⟨163,[vI 2 done,vB 3 rest_,vP 4 0 25,vP 5 1 7,vP 8 2 7,vI 10 depart,vI 11 since],[oX 25 133 (Qau.enc p),oX 7 137 (Qaf.enc l),oX 7 137 [lI 0,lI 0,.bool false,lI 0,.nils,lI 0,lI 0]]⟩⟩:=by
 unfold QeD at h
 obtain ⟨r,h1,h⟩:=Qae h
 rcases Qai h with ⟨h2,h⟩|⟨h2,h⟩
 ·exact gn 11 [2,4,8,10,11,12] [0,2,3,4] [cC (QdS h1),bT h2] (QkL Γ rv h)
 ·obtain ⟨x0,h3,h⟩:=Qae h
  exact gn 11 [2,4,8,10,11,12] [0,2,3,4] [cC (QdS h1),bF h2,oO (getLo h3),oO (getHi Qaq.enc h3),rE Qaq.enc h3,hH (.rows ((setI r (subK .i64 done 1) (Qaq.mk x0.arrive x0.begin x0.depart rest_)).map Qaq.enc)),hH (.relen 4 ((setI r (subK .i64 done 1) (Qaq.mk x0.arrive x0.begin x0.depart rest_)).map Qaq.enc).length),oO (setM Qaq.enc r (subK .i64 done 1) (Qaq.mk x0.arrive x0.begin x0.depart rest_)),rp 3 (oO (QuW Qaq.enc r (subK .i64 done 1) (Qaq.mk x0.arrive x0.begin x0.depart rest_))),oO (getLo (QAg h3 (Qaq.mk x0.arrive x0.begin x0.depart rest_))),oO (getHi Qaq.enc (QAg h3 (Qaq.mk x0.arrive x0.begin x0.depart rest_))),rE Qaq.enc (QAg h3 (Qaq.mk x0.arrive x0.begin x0.depart rest_)),hH (.rows ((setI (setI r (subK .i64 done 1) (Qaq.mk x0.arrive x0.begin x0.depart rest_)) (subK .i64 done 1) (Qaq.mk x0.arrive x0.begin depart rest_)).map Qaq.enc)),hH (.relen 4 ((setI (setI r (subK .i64 done 1) (Qaq.mk x0.arrive x0.begin x0.depart rest_)) (subK .i64 done 1) (Qaq.mk x0.arrive x0.begin depart rest_)).map Qaq.enc).length),oO (setM Qaq.enc (setI r (subK .i64 done 1) (Qaq.mk x0.arrive x0.begin x0.depart rest_)) (subK .i64 done 1) (Qaq.mk x0.arrive x0.begin depart rest_)),rp 4 (oO (QuW Qaq.enc (setI r (subK .i64 done 1) (Qaq.mk x0.arrive x0.begin x0.depart rest_)) (subK .i64 done 1) (Qaq.mk x0.arrive x0.begin depart rest_)))] (QkL Γ rv h)
theorem QfI {p l done rest_} {rv:Qaf × Int} (h:Qex p l done rest_ = some rv):AFn Tryz.prog 124 [.agg (Qau.enc p),.agg (Qaf.enc l),.one (lI done),.one (.bool rest_)] [] (.tup [.agg [lI rv.1.ready,lI rv.1.since,.bool rv.1.sheet.rest_,lI rv.1.sheet.depart,lL 4 rv.1.sheet.times Qaq.enc,lI rv.1.sheet.end_,lI rv.1.sheet.miles],.one (lI rv.2)]) []:=by
 refine QaS Tryz.func124 (by kernel_rfl) (by kernel_rfl) (fun Γ=>?_)
 unfold Qex at h
 rcases Qai h with ⟨h0,h⟩|⟨h0,h⟩
 ·exact gn 11 [2,3,4,5,8,10,11] [0,1,2] [hH (.draw 6 []),bT h0] (QkK Γ rv h)
 ·exact gn 9 [2,3,4,5,8,10,11] [0,1,2] [hH (.draw 6 []),bF h0] (QkK Γ rv h)
theorem QpS {l m} {rv:Bool} (h:Qkn l m = some rv):AFn Tryz.prog 127 [.agg (Qaf.enc l),.agg (Qaf.enc m)] [] (one (.bool rv)) []:=by
 refine QaS Tryz.func127 (by kernel_rfl) (by kernel_rfl) (fun Γ=>?_)
 unfold Qkn at h
 obtain rfl:=Option.some.inj h
 exact gr 4 [] [rp 6 hP,rp 4 (oI ((eqI l.ready m.ready) = true)),oR True ((eqI l.ready m.ready) = true)]
theorem Qlw {m c} {rv:Bool} (h:Qgg m c = some rv):AFn Tryz.prog 126 [.agg (Qaf.enc m),.one (.ip (Qaf.enc c) 0)] [] (one (.bool rv)) []:=by
 refine QaS Tryz.func126 (by kernel_rfl) (by kernel_rfl) (fun Γ=>?_)
 unfold Qgg at h
 obtain ⟨r,h0,h⟩:=Qae h
 obtain rfl:=Option.some.inj h
 exact gr 4 [] [cC (QpS h0)]
def Qcw (Γ:Gam) (rv:Int) (cf:Cf):Prop:=Go Tryz.prog Tryz.f152 [] Γ (one (lI rv)) [] cf
def Qb9 (Γ:Gam) (rv:Int) (s0:List Qaf) (c:Qaf) (v:Int):Prop:=Qcw Γ rv ⟨[.c 52,.l 52,.b 0,.c 7],⟨19,[vL 0 7 s0 Qaf.enc,(1,one (.fn (.func 126) [.ip (Qaf.enc c) 0])),vI 7 (lenI s0),vI 8 v],[]⟩⟩
def Qb4 (Γ:Gam) (rv:Int) (s0:List Qaf) (c:Qaf):Prop:=Qcw Γ rv ⟨[.c 7],⟨19,[],[]⟩⟩
theorem Qem (Γ:Gam) (rv:Int) {s0 c} {s:Int} {e:(Unit) ⊕ (Int)} (h:loopF (fun s=>Qas s0 c s) s = some e) (hD:sel e (fun e=>Qb4 Γ rv s0 c) (fun e=>e = rv)):Qb9 Γ rv s0 c s:=by
 refine QaI (C:=fun (s:Int)=>Qb9 Γ rv s0 c s) (D:=fun (e:(Unit) ⊕ (Int))=>sel e (fun e=>Qb4 Γ rv s0 c) (fun e=>e = rv)) ?_ h hD
 clear h hD s e
 intro v z_ h hI hE
 replace h:Qas s0 c v = _:=h
 unfold Qas at h
 rcases Qai h with ⟨h0,h⟩|⟨h0,h⟩
 ·obtain ⟨x0,h1,h⟩:=Qae h
  obtain ⟨r,h2,h⟩:=Qae h
  rcases Qai h with ⟨h3,h⟩|⟨h3,h⟩
  ·obtain rfl:=(hE _ (oJ h):_ = rv)
   exact gr 14 [] [bT h0,cE Qaf.enc h1,cC (Qlw h2),bT h3]
  ·exact gn 16 [0,1,7,8] [] [bT h0,cE Qaf.enc h1,cC (Qlw h2),bF h3] (hI _ (oJ h))
 ·exact gn 5 [] [] [bF h0] (hE _ (oJ h))
theorem QeQ {s0 c} {rv:Int} (h:Qbc s0 c = some rv):AFn Tryz.prog 152 [.one (lL 7 s0 Qaf.enc),.one (.fn (.func 126) [.ip (Qaf.enc c) 0])] [] (one (lI rv)) []:=by
 refine QaS Tryz.func152 (by kernel_rfl) (by kernel_rfl) (fun Γ=>?_)
 unfold Qbc at h
 obtain ⟨e0,h4,h⟩:=Qae h
 refine gn 7 [0,1,7,8] [] [nL Qaf.enc s0] (Qem Γ rv h4 ?_)
 rcases e0 with e0|e0
 ·replace h:(some (-1):Option Int) = some _:=h
  obtain rfl:=Option.some.inj h
  exact gr 2 [] []
 ·obtain ⟨r1,rfl⟩:∃ x,x = e0:=⟨_,rfl⟩
  replace h:(some r1:Option Int) = some _:=h
  exact Option.some.inj h
theorem Qb3 {s0 c} {rv:Bool} (h:QaM s0 c = some rv):AFn Tryz.prog 125 [.one (lL 7 s0 Qaf.enc),.one (.fn (.func 126) [.ip (Qaf.enc c) 0])] [] (one (.bool rv)) []:=by
 refine QaS Tryz.func125 (by kernel_rfl) (by kernel_rfl) (fun Γ=>?_)
 unfold QaM at h
 obtain ⟨r,h0,h⟩:=Qae h
 obtain rfl:=Option.some.inj h
 exact gr 4 [] [cC (QeQ h0)]
def Qgh (Γ:Gam) (rv:List Qaf) (cf:Cf):Prop:=Go Tryz.prog Tryz.f80 [] Γ (one (lL 7 rv Qaf.enc)) [] cf
def Qly (Γ:Gam) (rv:List Qaf) (p:Qau) (l:List Qaf) (done:Int) (choices:List Bool) (v:Int) (x0:Qaf) (l3:List Qaf) (v1:Int):Prop:=Qgh Γ rv ⟨[.c 128204,.l 128204,.b 2,.b 1,.c 4007,.l 500,.b 0,.c 63],⟨64,[vI 2 done,vP 3 0 25,vL 7 1 choices Qa5,vO 8 1 7 l3 Qaf.enc,vP 10 2 7,vL 29 7 l Qaf.enc,vI 30 (lenI l),vI 31 v,vL 35 1 choices Qa5,vI 36 (lenI choices),vI 37 v1],[oX 25 133 (Qau.enc p),oS 7 137 l3 Qaf.enc,oX 7 137 (Qaf.enc x0)]⟩⟩
def QkJ (Γ:Gam) (rv:List Qaf) (p:Qau) (l:List Qaf) (done:Int) (choices:List Bool) (v:Int) (x0:Qaf) (l4:List Qaf):Prop:=Qgh Γ rv ⟨[.b 1,.c 4007,.l 500,.b 0,.c 63],⟨64,[vI 2 done,vP 3 0 25,vL 7 1 choices Qa5,vO 8 1 7 l4 Qaf.enc,vL 29 7 l Qaf.enc,vI 30 (lenI l),vI 31 v],[oX 25 133 (Qau.enc p),oS 7 137 l4 Qaf.enc]⟩⟩
def Qlx (Γ:Gam) (rv:List Qaf) (p:Qau) (l:List Qaf) (done:Int) (choices:List Bool) (l2:List Qaf) (v:Int):Prop:=Qgh Γ rv ⟨[.c 500,.l 500,.b 0,.c 63],⟨64,[vI 2 done,vP 3 0 25,vL 7 1 choices Qa5,vO 8 1 7 l2 Qaf.enc,vL 29 7 l Qaf.enc,vI 30 (lenI l),vI 31 v],[oX 25 133 (Qau.enc p),oS 7 137 l2 Qaf.enc]⟩⟩
def QkI (Γ:Gam) (rv:List Qaf) (p:Qau) (l:List Qaf) (done:Int) (choices:List Bool) (l5:List Qaf):Prop:=Qgh Γ rv ⟨[.c 63],⟨64,[vO 8 0 7 l5 Qaf.enc],[oS 7 137 l5 Qaf.enc]⟩⟩
theorem Qps (Γ:Gam) (rv:List Qaf) {p l done choices v x0} {s:List Qaf × Int} {e:List Qaf} (h:loopF (fun s=>Qb8 p l done choices v x0 s.1 s.2) s = some e) (hD:QkJ Γ rv p l done choices v x0 e):Qly Γ rv p l done choices v x0 s.1 s.2:=by
 refine QaI (C:=fun (s:List Qaf × Int)=>Qly Γ rv p l done choices v x0 s.1 s.2) (D:=fun (e:List Qaf)=>QkJ Γ rv p l done choices v x0 e) ?_ h hD
 clear h hD s e
 rintro ⟨l3,v1⟩ z_ h hI hE
 replace h:Qb8 p l done choices v x0 l3 v1 = _:=h
 unfold Qb8 at h
 rcases Qai h with ⟨h4,h⟩|⟨h4,h⟩
 ·obtain ⟨x1,h5,h⟩:=Qae h
  obtain ⟨r,h6,h⟩:=Qae h
  rcases Qai h with ⟨h7,h⟩|⟨h7,h⟩
  ·obtain ⟨r1,h8,h⟩:=Qae h
   rcases Qai h with ⟨h9,h⟩|⟨h9,h⟩
   ·exact gn 18 [2,3,7,8,10,29,30,31,35,36,37] [0,1,2] [bT h4,cE Qa5 h5,cC (QfI h6),rp 3 (bT h7),eL l3 Qaf.enc,cC (Qb3 h8),bT h7,bT h7,nF h9] (hI _ (oJ h))
   ·obtain ⟨h10,h⟩:=Qaw h
    exact gn 18 [2,3,7,8,10,29,30,31,35,36,37] [0,5,2] [bT h4,cE Qa5 h5,cC (QfI h6),rp 3 (bT h7),eL l3 Qaf.enc,cC (Qb3 h8),bT h7,bT h7,nT h9,oO (Eq.refl ([r.1].map Qaf.enc).length),aO Qaf.enc h10] (hI _ (oJ h))
  ·exact gn 18 [2,3,7,8,10,29,30,31,35,36,37] [0,1,2] [bT h4,cE Qa5 h5,cC (QfI h6),rp 5 (bF h7),fF] (hI _ (oJ h))
 ·exact gn 5 [2,3,7,8,29,30,31] [0,1] [bF h4] (hE _ (oJ h))
theorem Qpr (Γ:Gam) (rv:List Qaf) {p l done choices} {s:List Qaf × Int} {e:List Qaf} (h:loopF (fun s=>Qb7 p l done choices s.1 s.2) s = some e) (hD:QkI Γ rv p l done choices e):Qlx Γ rv p l done choices s.1 s.2:=by
 refine QaI (C:=fun (s:List Qaf × Int)=>Qlx Γ rv p l done choices s.1 s.2) (D:=fun (e:List Qaf)=>QkI Γ rv p l done choices e) ?_ h hD
 clear h hD s e
 rintro ⟨l2,v⟩ z_ h hI hE
 replace h:Qb7 p l done choices l2 v = _:=h
 unfold Qb7 at h
 rcases Qai h with ⟨h2,h⟩|⟨h2,h⟩
 ·obtain ⟨x0,h3,h⟩:=Qae h
  obtain ⟨e0,h11,h⟩:=Qae h
  refine gn 13 [2,3,7,8,10,29,30,31,35,36,37] [0,1,2] [bT h2,cE Qaf.enc h3,nL Qa5 choices] (Qps Γ rv h11 ?_)
  obtain ⟨l4,rfl⟩:∃ x,x = e0:=⟨_,rfl⟩
  replace h:(some (.inl (l4,(addK .i64 v 1))):Option ((List Qaf × Int) ⊕ (List Qaf))) = some _:=h
  exact gn 3 [2,3,7,8,29,30,31] [0,1] [] (hI _ (oJ h))
 ·exact gn 5 [8] [1] [bF h2] (hE _ (oJ h))
theorem QkH (Γ:Gam) (rv:List Qaf) {p l done choices} (h:QeC p l done choices = some rv):Qgh Γ rv ⟨[.c 15],⟨64,[vL 1 7 l Qaf.enc,vI 2 done,vP 3 0 25,vL 7 1 choices Qa5],[oX 25 133 (Qau.enc p)]⟩⟩:=by
 unfold QeC at h
 obtain ⟨e1,h12,h⟩:=Qae h
 refine gn 7 [2,3,7,8,29,30,31] [0,1] [nL Qaf.enc l,hW 3,hH (.adopt 8 7 137)] (Qpr Γ rv h12 ?_)
 obtain ⟨l5,rfl⟩:∃ x,x = e1:=⟨_,rfl⟩
 replace h:(some l5:Option (List Qaf)) = some _:=h
 obtain rfl:=Option.some.inj h
 exact gr 2 [] [hW 4,hH (.frz 0),rp 3 (eL l5 Qaf.enc)]
theorem QqR {p l done} {rv:List Qaf} (h:Qfx p l done = some rv):AFn Tryz.prog 80 [.agg (Qau.enc p),.one (lL 7 l Qaf.enc),.one (lI done)] [] (one (lL 7 rv Qaf.enc)) []:=by
 refine QaS Tryz.func80 (by kernel_rfl) (by kernel_rfl) (fun Γ=>?_)
 unfold Qfx at h
 rcases Qai h with ⟨h0,h⟩|⟨h0,h⟩
 ·obtain ⟨l1,h1,h⟩:=Qae h
  exact gn 9 [1,2,3,7] [0] [nL Qa5 p.r.rests,bT h0,hH (.rows (l1.map Qa5)),oO (sl1 h1),oO (sl2 h1),oO (sl3 Qa5 h1),oO (Int.le_refl (addK .i64 done 1)),oO (sl3 Qa5 h1),oO (sl6 Qa5 h1)] (QkH Γ rv h)
 ·exact gn 9 [1,2,3,7] [0] [nL Qa5 p.r.rests,bF h0,hW 1,hH (.frz 1),rp 2 (oO (Eq.refl ([false,true].map Qa5).length))] (QkH Γ rv h)
def Qor (Γ:Gam) (rv:Qam × Int) (cf:Cf):Prop:=Go Tryz.prog Tryz.f81 [] Γ (.tup [.agg [.bool rv.1.rest_,lI rv.1.depart,lL 4 rv.1.times Qaq.enc,lI rv.1.end_,lI rv.1.miles],.one (lI rv.2)]) [] cf
def Qme (Γ:Gam) (rv:Qam × Int) (p:Qau) (rests:List Bool) (r:Qaf) (rest_:Int) (x0:Qaf) (v:Int):Prop:=Qor Γ rv ⟨[.c 116,.l 116,.b 0,.c 15],⟨36,[vP 2 0 25,vP 4 1 5,vP 6 2 7,vL 13 1 rests Qa5,vI 14 (lenI rests),vI 15 v],[oX 25 133 [lL 1 p.x.net.places e_str,lL 6 p.x.net.arcs Qav.enc,lL 14 p.x.types Qal.enc,lL 16 p.x.orders Qak.enc,lL 2 p.x.apart QaW.enc,lL 2 p.x.before QaW.enc,.str p.t.name,lI p.t.count,lI p.t.from_,lI p.t.to_,lL 1 p.t.cap e_i64,lI p.t.skills,lI p.t.profile,lI p.t.open_,lI p.t.close,lI p.t.drive,lI rest_,lI p.t.fixed,lI p.t.perMile,lI p.t.perTick,lI p.r.type_,lI p.r.start,lL 1 p.r.rests Qa5,lL 2 p.r.visits Qac.enc,lL 4 p.stops Qat.enc],oX 5 60 [.bool false,lI 0,.nils,lI 0,lI 0],oX 7 137 (Qaf.enc x0)]⟩⟩
def Qlz (Γ:Gam) (rv:Qam × Int) (p:Qau) (rests:List Bool) (r:Qaf) (x2:Qaf):Prop:=Qor Γ rv ⟨[.c 15],⟨36,[vP 4 0 5,vP 6 1 7],[oX 5 60 [.bool false,lI 0,.nils,lI 0,lI 0],oX 7 137 (Qaf.enc x2)]⟩⟩
theorem QpT (Γ:Gam) (rv:Qam × Int) {p rests r} {s:Int × Qaf × Int} {e:(Qaf) ⊕ (Qam × Int)} (h:loopF (fun s=>Qfc p rests r s.1 s.2.1 s.2.2) s = some e) (hD:sel e (fun e=>Qlz Γ rv p rests r e) (fun e=>e = rv)):Qme Γ rv p rests r s.1 s.2.1 s.2.2:=by
 refine QaI (C:=fun (s:Int × Qaf × Int)=>Qme Γ rv p rests r s.1 s.2.1 s.2.2) (D:=fun (e:(Qaf) ⊕ (Qam × Int))=>sel e (fun e=>Qlz Γ rv p rests r e) (fun e=>e = rv)) ?_ h hD
 clear h hD s e
 rintro ⟨rest_,x0,v⟩ z_ h hI hE
 replace h:Qfc p rests r rest_ x0 v = _:=h
 unfold Qfc at h
 rcases Qai h with ⟨h1,h⟩|⟨h1,h⟩
 ·obtain ⟨x1,h2,h⟩:=Qae h
  obtain ⟨r1,h3,h⟩:=Qae h
  rcases Qai h with ⟨h4,h⟩|⟨h4,h⟩
  ·obtain rfl:=(hE _ (oJ h):_ = rv)
   exact gr 17 [] [bT h1,cE Qa5 h2,cC (QfI h3),bT h4,hW 6,hH (.nilB 1 2 4)]
  ·exact gn 20 [2,4,6,13,14,15] [0,1,2] [bT h1,cE Qa5 h2,cC (QfI h3),bF h4] (hI _ (oJ h))
 ·exact gn 5 [4,6] [1,2] [bF h1] (hE _ (oJ h))
theorem Qrv {p rests} {rv:Qam × Int} (h:Qf0 p rests = some rv):AFn Tryz.prog 81 [.agg (Qau.enc p),.one (lL 1 rests Qa5)] [] (.tup [.agg [.bool rv.1.rest_,lI rv.1.depart,lL 4 rv.1.times Qaq.enc,lI rv.1.end_,lI rv.1.miles],.one (lI rv.2)]) []:=by
 refine QaS Tryz.func81 (by kernel_rfl) (by kernel_rfl) (fun Γ=>?_)
 unfold Qf0 at h
 obtain ⟨r,h0,h⟩:=Qae h
 obtain ⟨e0,h5,h⟩:=Qae h
 refine gn 9 [2,4,6,13,14,15] [0,1,2] [cC (Qmd h0),nL Qa5 rests] (QpT Γ rv h5 ?_)
 rcases e0 with e0|e0
 ·obtain ⟨x2,rfl⟩:∃ x,x = e0:=⟨_,rfl⟩
  replace h:(some (x2.sheet,0):Option (Qam × Int)) = some _:=h
  obtain rfl:=Option.some.inj h
  exact gr 2 [] []
 ·obtain ⟨r2,rfl⟩:∃ x,x = e0:=⟨_,rfl⟩
  replace h:(some r2:Option (Qam × Int)) = some _:=h
  exact Option.some.inj h
def Qnt (Γ:Gam) (rv:Qam × Int) (cf:Cf):Prop:=Go Tryz.prog Tryz.f42 [] Γ (.tup [.agg [.bool rv.1.rest_,lI rv.1.depart,lL 4 rv.1.times Qaq.enc,lI rv.1.end_,lI rv.1.miles],.one (lI rv.2)]) [] cf
def QpB (Γ:Gam) (rv:Qam × Int) (r:Qab) (r1:Qau × Bool) (l:List Qaf) (v:Int):Prop:=Qnt Γ rv ⟨[.c 1012,.l 1012,.b 0,.c 127],⟨82,[vP 3 0 4,vP 4 1 5,vP 6 2 25,vI 8 (addK .i64 (lenI r.visits) 1),vL 9 7 l Qaf.enc,vI 38 (addK .i64 (lenI r.visits) 1),vI 39 v],[oX 4 34 (Qab.enc r),oX 5 60 [.bool false,lI 0,.nils,lI 0,lI 0],oX 25 133 (Qau.enc r1.1)]⟩⟩
def Qoo (Γ:Gam) (rv:Qam × Int) (r:Qab) (r1:Qau × Bool) (l1:List Qaf):Prop:=Qnt Γ rv ⟨[.c 127],⟨82,[vP 3 0 4,vP 4 1 5,vP 6 2 25,vI 8 (addK .i64 (lenI r.visits) 1),vL 9 7 l1 Qaf.enc],[oX 4 34 (Qab.enc r),oX 5 60 [.bool false,lI 0,.nils,lI 0,lI 0],oX 25 133 (Qau.enc r1.1)]⟩⟩
def QpC (Γ:Gam) (rv:Qam × Int) (l3:List Qaf) (x2:Qaf) (v1:Int):Prop:=Qnt Γ rv ⟨[.c 8180,.l 8180,.b 2,.c 1023],⟨82,[vP 4 0 5,vP 12 1 7,vL 65 7 l3 Qaf.enc,vI 66 (lenI l3),vI 67 v1],[oX 5 60 [.bool false,lI 0,.nils,lI 0,lI 0],oX 7 137 (Qaf.enc x2)]⟩⟩
def Qop (Γ:Gam) (rv:Qam × Int) (l3:List Qaf) (x4:Qaf):Prop:=Qnt Γ rv ⟨[.c 1023],⟨82,[vP 4 0 5,vP 12 1 7],[oX 5 60 [.bool false,lI 0,.nils,lI 0,lI 0],oX 7 137 (Qaf.enc x4)]⟩⟩
theorem QrU (Γ:Gam) (rv:Qam × Int) {r r1} {s:List Qaf × Int} {e:List Qaf} (h:loopF (fun s=>QdQ r r1 s.1 s.2) s = some e) (hD:Qoo Γ rv r r1 e):QpB Γ rv r r1 s.1 s.2:=by
 refine QaI (C:=fun (s:List Qaf × Int)=>QpB Γ rv r r1 s.1 s.2) (D:=fun (e:List Qaf)=>Qoo Γ rv r r1 e) ?_ h hD
 clear h hD s e
 rintro ⟨l,v⟩ z_ h hI hE
 replace h:QdQ r r1 l v = _:=h
 unfold QdQ at h
 rcases Qai h with ⟨h3,h⟩|⟨h3,h⟩
 ·obtain ⟨r3,h4,h⟩:=Qae h
  exact gn 13 [3,4,6,8,9,38,39] [0,1,2] [bT h3,cC (QqR h4)] (hI _ (oJ h))
 ·exact gn 5 [3,4,6,8,9] [0,1,2] [bF h3] (hE _ (oJ h))
theorem QrV (Γ:Gam) (rv:Qam × Int) {l3} {s:Qaf × Int} {e:Qaf} (h:loopF (fun s=>Qdp l3 s.1 s.2) s = some e) (hD:Qop Γ rv l3 e):QpC Γ rv l3 s.1 s.2:=by
 refine QaI (C:=fun (s:Qaf × Int)=>QpC Γ rv l3 s.1 s.2) (D:=fun (e:Qaf)=>Qop Γ rv l3 e) ?_ h hD
 clear h hD s e
 rintro ⟨x2,v1⟩ z_ h hI hE
 replace h:Qdp l3 x2 v1 = _:=h
 unfold Qdp at h
 rcases Qai h with ⟨h11,h⟩|⟨h11,h⟩
 ·obtain ⟨x3,h12,h⟩:=Qae h
  rcases Qai h with ⟨h13,h⟩|⟨h13,h⟩
  ·exact gn 16 [4,12,65,66,67] [0,1] [bT h11,cE Qaf.enc h12,bT h13] (hI _ (oJ h))
  ·exact gn 16 [4,12,65,66,67] [0,1] [bT h11,cE Qaf.enc h12,bF h13] (hI _ (oJ h))
 ·exact gn 5 [4,12] [0,1] [bF h11] (hE _ (oJ h))
theorem Qrg {x0 r} {rv:Qam × Int} (h:QmY x0 r = some rv):AFn Tryz.prog 42 [.agg (Qad.enc x0),.agg (Qab.enc r)] [] (.tup [.agg [.bool rv.1.rest_,lI rv.1.depart,lL 4 rv.1.times Qaq.enc,lI rv.1.end_,lI rv.1.miles],.one (lI rv.2)]) []:=by
 refine QaS Tryz.func42 (by kernel_rfl) (by kernel_rfl) (fun Γ=>?_)
 unfold QmY at h
 obtain ⟨r1,h0,h⟩:=Qae h
 rcases Qai h with ⟨h1,h⟩|⟨h1,h⟩
 ·obtain rfl:=Option.some.inj h
  exact gr 12 [] [cC (Qrh h0),nL Qac.enc r.visits,hP,hP,hP,rp 2 (oI ((!r1.2) = false)),nL Qa5 r.rests,hP,hP,hP,rp 2 (oI ((!r1.2) = false)),oR True ((!r1.2) = false),bT h1,hW 5,hH (.nilB 2 2 4)]
 ·obtain ⟨r2,h2,h⟩:=Qae h
  obtain ⟨e0,h5,h⟩:=Qae h
  refine gn 18 [3,4,6,8,9,38,39] [1,2,3] [cC (Qrh h0),nL Qac.enc r.visits,hP,hP,hP,rp 2 (oI ((!r1.2) = false)),nL Qa5 r.rests,hP,hP,hP,rp 2 (oI ((!r1.2) = false)),oR True ((!r1.2) = false),bF h1,cC (Qmd h2),hW 9,hH (.frz 4),rp 2 (oO (Eq.refl ([r2].map Qaf.enc).length))] (QrU Γ rv h5 ?_)
  obtain ⟨l1,rfl⟩:∃ x,x = e0:=⟨_,rfl⟩
  replace h:(br (eqI (lenI l1) 0) (bnd (mkI (addK .i64 (lenI r.visits) 1) (addK .i64 (lenI r.visits) 1) 1 false) fun l2=>bnd (Qf0 r1.1 (cpyL l2 r.rests)) fun r4=>some (r4.1,r4.2)) (bnd (getI l1 0) fun x1=>bnd (slcI l1 1 (lenI l1)) fun l3=>bnd (loopF (fun s=>Qdp l3 s.1 s.2) (x1,0)) (fun x4=>some (x4.sheet,0))):Option (Qam × Int)) = some _:=h
  rcases Qai h with ⟨h6,h⟩|⟨h6,h⟩
  ·obtain ⟨l2,h7,h⟩:=Qae h
   obtain ⟨r4,h8,h⟩:=Qae h
   obtain rfl:=Option.some.inj h
   exact gr 10 [] [nL Qaf.enc l1,bT h6,hH (.cells [.bool false]),hH (.rows (l2.map Qa5)),oO (mk1 h7),oO (mk2 h7),oO (mk3 h7),oO (mk4 h7),oO (mk5 Qa5 h7),cY Qa5 l2 r.rests,hH (.relen 3 ((cpyL l2 r.rests).map Qa5).length),hW 4,hH (.frz 3),rp 3 (oO (QBJ Qa5 l2 r.rests)),rp 4 (oO (Eq.refl ((cpyL l2 r.rests).map Qa5).length)),cC (Qrv h8)]
  ·obtain ⟨x1,h9,h⟩:=Qae h
   obtain ⟨l3,h10,h⟩:=Qae h
   obtain ⟨e1,h14,h⟩:=Qae h
   refine gn 12 [4,12,65,66,67] [1,3] [nL Qaf.enc l1,bF h6,cE Qaf.enc h9,hH (.rows (l3.map Qaf.enc)),oO (sl1 h10),oO (sl2h Qaf.enc h10),rp 3 (oO (Int.le_refl ((l1.map Qaf.enc).length:Int))),oO (sl6h Qaf.enc h10),nL Qaf.enc l3] (QrV Γ rv h14 ?_)
   obtain ⟨x4,rfl⟩:∃ x,x = e1:=⟨_,rfl⟩
   replace h:(some (x4.sheet,0):Option (Qam × Int)) = some _:=h
   obtain rfl:=Option.some.inj h
   exact gr 2 [] []
theorem QiF {kind own} {rv:Bool} (h:Qkh kind own = some rv):AFn Tryz.prog 82 [.one (lI kind),.one (lI own)] [] (one (.bool rv)) []:=by
 refine QaS Tryz.func82 (by kernel_rfl) (by kernel_rfl) (fun Γ=>?_)
 unfold Qkh at h
 obtain rfl:=Option.some.inj h
 exact gr 4 [] [rp 4 hP,rp 2 (oI ((neI kind (-1)) = true)),oR True ((neI kind (-1)) = true)]
def Qo4 (Γ:Gam) (rv:Qao) (cf:Cf):Prop:=Go Tryz.prog Tryz.f43 [] Γ (gG [lI rv.cost,lI rv.moved,lI rv.other,lI rv.work]) [] cf
def QlP (Γ:Gam) (rv:Qao) (x0:Qad) (r:Qab) (s0:Qam) (x1:Qal) (l:List (Int × Int)) (moved:Int) (other:Int) (v:Int):Prop:=Qo4 Γ rv ⟨[.c 4084,.l 4084,.b 0,.c 511],⟨114,[vP 3 0 6,vP 4 1 4,vP 6 2 4,vP 10 3 4,(11,one (.mp 4)),vL 59 2 r.visits Qac.enc,vI 60 (lenI r.visits),vI 61 v],[oX 6 30 (Qad.enc x0),oX 4 34 (Qab.enc r),oX 4 62 [lI 0,lI 0,lI 0,lI 0],oX 4 62 [lI (addK .i64 (addK .i64 x1.fixed (mulK .i64 x1.perMile s0.miles)) (mulK .i64 x1.perTick (subK .i64 s0.end_ x1.open_))),lI moved,lI other,lI (mulK .i64 (quoK .i64 (subK .i64 s0.end_ x1.open_) 64) (quoK .i64 (subK .i64 s0.end_ x1.open_) 64))],oM 142 l (mE lI lI)]⟩⟩
def Qkz (Γ:Gam) (rv:Qao) (x0:Qad) (r:Qab) (s0:Qam) (x1:Qal) (moved2:Int) (other1:Int):Prop:=Qo4 Γ rv ⟨[.c 511],⟨114,[vP 6 0 4,vP 10 1 4],[oX 4 62 [lI 0,lI 0,lI 0,lI 0],oX 4 62 [lI (addK .i64 (addK .i64 x1.fixed (mulK .i64 x1.perMile s0.miles)) (mulK .i64 x1.perTick (subK .i64 s0.end_ x1.open_))),lI moved2,lI other1,lI (mulK .i64 (quoK .i64 (subK .i64 s0.end_ x1.open_) 64) (quoK .i64 (subK .i64 s0.end_ x1.open_) 64))]]⟩⟩
theorem Qn3 (Γ:Gam) (rv:Qao) {x0 r s0 x1 l other v x2 x3 moved1} {x:(List (Int × Int) × Int × Int × Int) ⊕ (Int × Int)} (h:QiE x0 r s0 x1 l other v x2 x3 moved1 = some x) (hI:∀ s:List (Int × Int) × Int × Int × Int,x = .inl s→QlP Γ rv x0 r s0 x1 s.1 s.2.1 s.2.2.1 s.2.2.2) (hE:∀ e:Int × Int,x = .inr e→Qkz Γ rv x0 r s0 x1 e.1 e.2):Qo4 Γ rv ⟨[.c 2091423,.b 1,.c 32679,.l 4084,.b 0,.c 511],⟨114,[vP 3 0 6,vP 4 1 4,vP 6 2 4,vP 10 3 4,(11,one (.mp 4)),vP 14 5 16,vL 59 2 r.visits Qac.enc,vI 60 (lenI r.visits),vI 61 v],[oX 6 30 (Qad.enc x0),oX 4 34 (Qab.enc r),oX 4 62 [lI 0,lI 0,lI 0,lI 0],oX 4 62 [lI (addK .i64 (addK .i64 x1.fixed (mulK .i64 x1.perMile s0.miles)) (mulK .i64 x1.perTick (subK .i64 s0.end_ x1.open_))),lI moved1,lI other,lI (mulK .i64 (quoK .i64 (subK .i64 s0.end_ x1.open_) 64) (quoK .i64 (subK .i64 s0.end_ x1.open_) 64))],oM 142 (mPut eqI l x2.order (addK .i64 (mGet eqI l x2.order 0) 1)) (mE lI lI),oX 16 105 (Qak.enc x3)]⟩⟩:=by
 unfold QiE at h
 obtain ⟨r2,h9,h⟩:=Qae h
 rcases Qai h with ⟨h10,h⟩|⟨h10,h⟩
 ·exact gn 7 [3,4,6,10,11,59,60,61] [0,1,2,3,4] [cC (QiF h9),bT h10] (hI _ (oJ h))
 ·exact gn 7 [3,4,6,10,11,59,60,61] [0,1,2,3,4] [cC (QiF h9),bF h10] (hI _ (oJ h))
theorem Qrz (Γ:Gam) (rv:Qao) {x0 r s0 x1} {s:List (Int × Int) × Int × Int × Int} {e:Int × Int} (h:loopF (fun s=>QdN x0 r s0 x1 s.1 s.2.1 s.2.2.1 s.2.2.2) s = some e) (hD:Qkz Γ rv x0 r s0 x1 e.1 e.2):QlP Γ rv x0 r s0 x1 s.1 s.2.1 s.2.2.1 s.2.2.2:=by
 refine QaI (C:=fun (s:List (Int × Int) × Int × Int × Int)=>QlP Γ rv x0 r s0 x1 s.1 s.2.1 s.2.2.1 s.2.2.2) (D:=fun (e:Int × Int)=>Qkz Γ rv x0 r s0 x1 e.1 e.2) ?_ h hD
 clear h hD s e
 rintro ⟨l,moved,other,v⟩ z_ h hI hE
 replace h:QdN x0 r s0 x1 l moved other v = _:=h
 unfold QdN at h
 rcases Qai h with ⟨h2,h⟩|⟨h2,h⟩
 ·obtain ⟨x2,h3,h⟩:=Qae h
  rcases Qai h with ⟨h4,h⟩|⟨h4,h⟩
  ·exact gn 18 [3,4,6,10,11,59,60,61] [0,1,2,3,4] [bT h2,cE Qac.enc h3,mG kqI lI l x2.order 0,mU kqI lI l x2.order (addK .i64 (mGet eqI l x2.order 0) 1),rp 5 hP,rp 3 (oI ((ltI x2.order 0) = false)),nL Qak.enc x0.orders,hP,hP,rp 2 (oI ((ltI x2.order 0) = false)),oR True ((ltI x2.order 0) = false),rp 6 (bT h4),tT] (hI _ (oJ h))
  ·rcases Qai h with ⟨h5,h⟩|⟨h5,h⟩
   ·exact gn 18 [3,4,6,10,11,59,60,61] [0,1,2,3,4] [bT h2,cE Qac.enc h3,mG kqI lI l x2.order 0,mU kqI lI l x2.order (addK .i64 (mGet eqI l x2.order 0) 1),rp 5 hP,rp 3 (oI ((ltI x2.order 0) = false)),nL Qak.enc x0.orders,hP,hP,rp 2 (oI ((ltI x2.order 0) = false)),oR True ((ltI x2.order 0) = false),rp 4 (bF h4),mG kqI lI (mPut eqI l x2.order (addK .i64 (mGet eqI l x2.order 0) 1)) x2.order 0,bF h4,bF h4,bT h5] (hI _ (oJ h))
   ·obtain ⟨x3,h6,h⟩:=Qae h
    obtain ⟨r1,h7,h⟩:=Qae h
    rcases Qai h with ⟨h8,h⟩|⟨h8,h⟩
    ·exact gn 23 [3,4,6,10,11,14,59,60,61] [0,1,2,3,4,6] [bT h2,cE Qac.enc h3,mG kqI lI l x2.order 0,mU kqI lI l x2.order (addK .i64 (mGet eqI l x2.order 0) 1),rp 5 hP,rp 3 (oI ((ltI x2.order 0) = false)),nL Qak.enc x0.orders,hP,hP,rp 2 (oI ((ltI x2.order 0) = false)),oR True ((ltI x2.order 0) = false),rp 4 (bF h4),mG kqI lI (mPut eqI l x2.order (addK .i64 (mGet eqI l x2.order 0) 1)) x2.order 0,bF h4,bF h4,bF h5,cE Qak.enc h6,cC (QiF h7),bT h8] (Qn3 Γ rv h hI hE)
    ·exact gn 23 [3,4,6,10,11,14,59,60,61] [0,1,2,3,4,6] [bT h2,cE Qac.enc h3,mG kqI lI l x2.order 0,mU kqI lI l x2.order (addK .i64 (mGet eqI l x2.order 0) 1),rp 5 hP,rp 3 (oI ((ltI x2.order 0) = false)),nL Qak.enc x0.orders,hP,hP,rp 2 (oI ((ltI x2.order 0) = false)),oR True ((ltI x2.order 0) = false),rp 4 (bF h4),mG kqI lI (mPut eqI l x2.order (addK .i64 (mGet eqI l x2.order 0) 1)) x2.order 0,bF h4,bF h4,bF h5,cE Qak.enc h6,cC (QiF h7),bF h8] (Qn3 Γ rv h hI hE)
 ·exact gn 5 [6,10] [2,3] [bF h2] (hE _ (oJ h))
theorem QtB {x0 r s0} {rv:Qao} (h:Qng x0 r s0 = some rv):AFn Tryz.prog 43 [.agg (Qad.enc x0),.agg (Qab.enc r),.agg (Qam.enc s0)] [] (gG [lI rv.cost,lI rv.moved,lI rv.other,lI rv.work]) []:=by
 refine QaS Tryz.func43 (by kernel_rfl) (by kernel_rfl) (fun Γ=>?_)
 unfold Qng at h
 rcases Qai h with ⟨h0,h⟩|⟨h0,h⟩
 ·obtain rfl:=Option.some.inj h
  exact gr 8 [] [rp 5 hP,rp 3 (oI ((ltI r.type_ 0) = false)),nL Qal.enc x0.types,hP,hP,rp 2 (oI ((ltI r.type_ 0) = false)),oR True ((ltI r.type_ 0) = false),bT h0]
 ·obtain ⟨x1,h1,h⟩:=Qae h
  obtain ⟨e0,h11,h⟩:=Qae h
  refine gn 22 [3,4,6,10,11,59,60,61] [0,1,3,5,6] [rp 5 hP,rp 3 (oI ((ltI r.type_ 0) = false)),nL Qal.enc x0.types,hP,hP,rp 2 (oI ((ltI r.type_ 0) = false)),oR True ((ltI r.type_ 0) = false),bF h0,cE Qal.enc h1,oO (oA (n:=64)),nL Qac.enc r.visits] (Qrz Γ rv h11 ?_)
  obtain ⟨moved2,other1⟩:=e0
  replace h:(some (Qao.mk (addK .i64 (addK .i64 x1.fixed (mulK .i64 x1.perMile s0.miles)) (mulK .i64 x1.perTick (subK .i64 s0.end_ x1.open_))) moved2 other1 (mulK .i64 (quoK .i64 (subK .i64 s0.end_ x1.open_) 64) (quoK .i64 (subK .i64 s0.end_ x1.open_) 64))):Option Qao) = some _:=h
  obtain rfl:=Option.some.inj h
  exact gr 2 [] []
theorem Qel {x0 r} {rv:Qam × Qao × Int} (h:Qch x0 r = some rv):AFn Tryz.prog 24 [.agg (Qad.enc x0),.agg (Qab.enc r)] [] (.tup [.agg [.bool rv.1.rest_,lI rv.1.depart,lL 4 rv.1.times Qaq.enc,lI rv.1.end_,lI rv.1.miles],.agg [lI rv.2.1.cost,lI rv.2.1.moved,lI rv.2.1.other,lI rv.2.1.work],.one (lI rv.2.2)]) []:=by
 refine QaS Tryz.func24 (by kernel_rfl) (by kernel_rfl) (fun Γ=>?_)
 unfold Qch at h
 rcases Qai h with ⟨h0,h⟩|⟨h0,h⟩
 ·obtain rfl:=Option.some.inj h
  exact gr 8 [] [rp 5 hP,rp 3 (oI ((ltI r.type_ 0) = false)),nL Qal.enc x0.types,hP,hP,rp 2 (oI ((ltI r.type_ 0) = false)),oR True ((ltI r.type_ 0) = false),bT h0,hW 7,hH (.nilB 2 2 4)]
 ·obtain ⟨r1,h1,h⟩:=Qae h
  rcases Qai h with ⟨h2,h⟩|⟨h2,h⟩
  ·obtain rfl:=Option.some.inj h
   exact gr 28 [] [rp 5 hP,rp 3 (oI ((ltI r.type_ 0) = false)),nL Qal.enc x0.types,hP,hP,rp 2 (oI ((ltI r.type_ 0) = false)),oR True ((ltI r.type_ 0) = false),bF h0,nL e_fn [39,40,41],tT,oO (getLo (rfl:getI ([39,40,41]:List Nat) 0 = some 39)),oO (getHi e_fn (rfl:getI ([39,40,41]:List Nat) 0 = some 39)),rE e_fn (rfl:getI ([39,40,41]:List Nat) 0 = some 39),cC (Qdr h1),bT h2,hW 8,hH (.nilB 2 2 4)]
  ·obtain ⟨r2,h3,h⟩:=Qae h
   rcases Qai h with ⟨h4,h⟩|⟨h4,h⟩
   ·obtain rfl:=Option.some.inj h
    exact gr 46 [] [rp 5 hP,rp 3 (oI ((ltI r.type_ 0) = false)),nL Qal.enc x0.types,hP,hP,rp 2 (oI ((ltI r.type_ 0) = false)),oR True ((ltI r.type_ 0) = false),bF h0,nL e_fn [39,40,41],tT,oO (getLo (rfl:getI ([39,40,41]:List Nat) 0 = some 39)),oO (getHi e_fn (rfl:getI ([39,40,41]:List Nat) 0 = some 39)),rE e_fn (rfl:getI ([39,40,41]:List Nat) 0 = some 39),cC (Qdr h1),bF h2,tT,oO (getLo (rfl:getI ([39,40,41]:List Nat) 1 = some 40)),oO (getHi e_fn (rfl:getI ([39,40,41]:List Nat) 1 = some 40)),rE e_fn (rfl:getI ([39,40,41]:List Nat) 1 = some 40),cC (Qmq h3),bT h4,hW 8,hH (.nilB 2 2 4)]
   ·obtain ⟨r3,h5,h⟩:=Qae h
    rcases Qai h with ⟨h6,h⟩|⟨h6,h⟩
    ·obtain rfl:=Option.some.inj h
     exact gr 64 [] [rp 5 hP,rp 3 (oI ((ltI r.type_ 0) = false)),nL Qal.enc x0.types,hP,hP,rp 2 (oI ((ltI r.type_ 0) = false)),oR True ((ltI r.type_ 0) = false),bF h0,nL e_fn [39,40,41],tT,oO (getLo (rfl:getI ([39,40,41]:List Nat) 0 = some 39)),oO (getHi e_fn (rfl:getI ([39,40,41]:List Nat) 0 = some 39)),rE e_fn (rfl:getI ([39,40,41]:List Nat) 0 = some 39),cC (Qdr h1),bF h2,tT,oO (getLo (rfl:getI ([39,40,41]:List Nat) 1 = some 40)),oO (getHi e_fn (rfl:getI ([39,40,41]:List Nat) 1 = some 40)),rE e_fn (rfl:getI ([39,40,41]:List Nat) 1 = some 40),cC (Qmq h3),bF h4,tT,oO (getLo (rfl:getI ([39,40,41]:List Nat) 2 = some 41)),oO (getHi e_fn (rfl:getI ([39,40,41]:List Nat) 2 = some 41)),rE e_fn (rfl:getI ([39,40,41]:List Nat) 2 = some 41),cC (Qok h5),bT h6,hW 8,hH (.nilB 2 2 4)]
    ·obtain ⟨r4,h7,h⟩:=Qae h
     rcases Qai h with ⟨h8,h⟩|⟨h8,h⟩
     ·obtain rfl:=Option.some.inj h
      exact gr 79 [] [rp 5 hP,rp 3 (oI ((ltI r.type_ 0) = false)),nL Qal.enc x0.types,hP,hP,rp 2 (oI ((ltI r.type_ 0) = false)),oR True ((ltI r.type_ 0) = false),bF h0,nL e_fn [39,40,41],tT,oO (getLo (rfl:getI ([39,40,41]:List Nat) 0 = some 39)),oO (getHi e_fn (rfl:getI ([39,40,41]:List Nat) 0 = some 39)),rE e_fn (rfl:getI ([39,40,41]:List Nat) 0 = some 39),cC (Qdr h1),bF h2,tT,oO (getLo (rfl:getI ([39,40,41]:List Nat) 1 = some 40)),oO (getHi e_fn (rfl:getI ([39,40,41]:List Nat) 1 = some 40)),rE e_fn (rfl:getI ([39,40,41]:List Nat) 1 = some 40),cC (Qmq h3),bF h4,tT,oO (getLo (rfl:getI ([39,40,41]:List Nat) 2 = some 41)),oO (getHi e_fn (rfl:getI ([39,40,41]:List Nat) 2 = some 41)),rE e_fn (rfl:getI ([39,40,41]:List Nat) 2 = some 41),cC (Qok h5),bF h6,fF,cC (Qrg h7),bT h8,hW 8,hH (.nilB 2 2 4)]
     ·obtain ⟨r5,h9,h⟩:=Qae h
      obtain rfl:=Option.some.inj h
      exact gr 80 [] [rp 5 hP,rp 3 (oI ((ltI r.type_ 0) = false)),nL Qal.enc x0.types,hP,hP,rp 2 (oI ((ltI r.type_ 0) = false)),oR True ((ltI r.type_ 0) = false),bF h0,nL e_fn [39,40,41],tT,oO (getLo (rfl:getI ([39,40,41]:List Nat) 0 = some 39)),oO (getHi e_fn (rfl:getI ([39,40,41]:List Nat) 0 = some 39)),rE e_fn (rfl:getI ([39,40,41]:List Nat) 0 = some 39),cC (Qdr h1),bF h2,tT,oO (getLo (rfl:getI ([39,40,41]:List Nat) 1 = some 40)),oO (getHi e_fn (rfl:getI ([39,40,41]:List Nat) 1 = some 40)),rE e_fn (rfl:getI ([39,40,41]:List Nat) 1 = some 40),cC (Qmq h3),bF h4,tT,oO (getLo (rfl:getI ([39,40,41]:List Nat) 2 = some 41)),oO (getHi e_fn (rfl:getI ([39,40,41]:List Nat) 2 = some 41)),rE e_fn (rfl:getI ([39,40,41]:List Nat) 2 = some 41),cC (Qok h5),bF h6,fF,cC (Qrg h7),bF h8,hH (.draw 5 []),cC (QtB h9)]
def QnT (Γ:Gam) (rv:Int × Bool × Qam × Int) (cf:Cf):Prop:=Go Tryz.prog Tryz.f28 [] Γ (.tup [.one (lI rv.1),.one (.bool rv.2.1),.agg [.bool rv.2.2.1.rest_,lI rv.2.2.1.depart,lL 4 rv.2.2.1.times Qaq.enc,lI rv.2.2.1.end_,lI rv.2.2.1.miles],.one (lI rv.2.2.2)]) [] cf
def Qlt (Γ:Gam) (rv:Int × Bool × Qam × Int) (x0:Qad) (r:Qab) (now:Int) (r1:Qam × Qao × Int) (ready:Int) (k:Int) (v:Int):Prop:=QnT Γ rv ⟨[.c 1012,.l 1012,.b 0,.c 127],⟨81,[vI 2 now,vP 3 0 6,vP 8 1 5,vP 10 2 5,vI 13 ready,vI 14 k,vL 41 2 r.visits Qac.enc,vI 42 (lenI r.visits),vI 43 v],[oX 6 30 (Qad.enc x0),oX 5 60 [.bool false,lI 0,.nils,lI 0,lI 0],oX 5 60 (Qam.enc r1.1)]⟩⟩
def QkG (Γ:Gam) (rv:Int × Bool × Qam × Int) (x0:Qad) (r:Qab) (now:Int) (r1:Qam × Qao × Int) (ready1:Int) (k1:Int):Prop:=QnT Γ rv ⟨[.c 127],⟨81,[vI 2 now,vP 8 0 5,vP 10 1 5,vI 13 ready1,vI 14 k1],[oX 5 60 [.bool false,lI 0,.nils,lI 0,lI 0],oX 5 60 (Qam.enc r1.1)]⟩⟩
theorem Qpq (Γ:Gam) (rv:Int × Bool × Qam × Int) {x0 r now r1} {s:Int × Int × Int} {e:(Int × Int) ⊕ (Int × Bool × Qam × Int)} (h:loopF (fun s=>Qb6 x0 r now r1 s.1 s.2.1 s.2.2) s = some e) (hD:sel e (fun e=>QkG Γ rv x0 r now r1 e.1 e.2) (fun e=>e = rv)):Qlt Γ rv x0 r now r1 s.1 s.2.1 s.2.2:=by
 refine QaI (C:=fun (s:Int × Int × Int)=>Qlt Γ rv x0 r now r1 s.1 s.2.1 s.2.2) (D:=fun (e:(Int × Int) ⊕ (Int × Bool × Qam × Int))=>sel e (fun e=>QkG Γ rv x0 r now r1 e.1 e.2) (fun e=>e = rv)) ?_ h hD
 clear h hD s e
 rintro ⟨ready,k,v⟩ z_ h hI hE
 replace h:Qb6 x0 r now r1 ready k v = _:=h
 unfold Qb6 at h
 rcases Qai h with ⟨h3,h⟩|⟨h3,h⟩
 ·obtain ⟨x2,h4,h⟩:=Qae h
  rcases Qai h with ⟨h5,h⟩|⟨h5,h⟩
  ·obtain rfl:=(hE _ (oJ h):_ = rv)
   exact gr 15 [] [bT h3,cE Qac.enc h4,bT h5,hH (.draw 4 [])]
  ·obtain ⟨r2,h6,h⟩:=Qae h
   obtain ⟨x3,h7,h⟩:=Qae h
   exact gn 22 [2,3,8,10,13,14,41,42,43] [0,1,2] [bT h3,cE Qac.enc h4,bF h5,cC (QoX h6),hH (.draw 10 []),cE Qaq.enc h7] (hI _ (oJ h))
 ·exact gn 5 [2,8,10,13,14] [1,2] [bF h3] (hE _ (oJ h))
theorem Qg5 {x0 r now} {rv:Int × Bool × Qam × Int} (h:Qew x0 r now = some rv):AFn Tryz.prog 28 [.agg (Qad.enc x0),.agg (Qab.enc r),.one (lI now)] [] (.tup [.one (lI rv.1),.one (.bool rv.2.1),.agg [.bool rv.2.2.1.rest_,lI rv.2.2.1.depart,lL 4 rv.2.2.1.times Qaq.enc,lI rv.2.2.1.end_,lI rv.2.2.1.miles],.one (lI rv.2.2.2)]) []:=by
 refine QaS Tryz.func28 (by kernel_rfl) (by kernel_rfl) (fun Γ=>?_)
 unfold Qew at h
 obtain ⟨r1,h0,h⟩:=Qae h
 rcases Qai h with ⟨h1,h⟩|⟨h1,h⟩
 ·obtain rfl:=Option.some.inj h
  exact gr 10 [] [cC (Qel h0),bT h1,hW 8,hH (.nilB 2 2 4)]
 ·obtain ⟨x1,h2,h⟩:=Qae h
  obtain ⟨e0,h8,h⟩:=Qae h
  refine gn 18 [2,3,8,10,13,14,41,42,43] [0,2,3] [cC (Qel h0),bF h1,hH (.draw 11 []),cE Qal.enc h2,nL Qac.enc r.visits] (Qpq Γ rv h8 ?_)
  rcases e0 with e0|e0
  ·obtain ⟨ready1,k1⟩:=e0
   replace h:(some (k1,((gtI k1 0) && (ltI ready1 now)),r1.1,0):Option (Int × Bool × Qam × Int)) = some _:=h
   obtain rfl:=Option.some.inj h
   exact gr 2 [] [hH (.draw 11 []),rp 4 hP,rp 2 (oI ((gtI k1 0) = true)),oR True ((gtI k1 0) = true)]
  ·obtain ⟨r3,rfl⟩:∃ x,x = e0:=⟨_,rfl⟩
   replace h:(some r3:Option (Int × Bool × Qam × Int)) = some _:=h
   exact Option.some.inj h
theorem Qbl {x0 r now} {rv:Int × Int} (h:Qlp x0 r now = some rv):AFn Tryz.prog 11 [.agg (Qad.enc x0),.agg (Qab.enc r),.one (lI now)] [] (.tup [.one (lI rv.1),.one (lI rv.2)]) []:=by
 refine QaS Tryz.func11 (by kernel_rfl) (by kernel_rfl) (fun Γ=>?_)
 unfold Qlp at h
 obtain ⟨r1,h0,h⟩:=Qae h
 rcases Qai h with ⟨h1,h⟩|⟨h1,h⟩
 ·obtain ⟨r2,h2,h⟩:=Qae h
  obtain rfl:=Option.some.inj h
  exact gr 11 [] [cC (Qlb h0),nF h1,cC (Qg5 h2)]
 ·obtain rfl:=Option.some.inj h
  exact gr 8 [] [cC (Qlb h0),nT h1]
theorem Qhr {s0} {rv:List Qac} (h:QbC s0 = some rv):AFn Tryz.prog 57 [.one (lL 2 s0 Qac.enc)] [] (one (lL 2 rv Qac.enc)) []:=by
 refine QaS Tryz.func57 (by kernel_rfl) (by kernel_rfl) (fun Γ=>?_)
 unfold QbC at h
 rcases Qai h with ⟨h0,h⟩|⟨h0,h⟩
 ·obtain ⟨hx,h⟩:=QwS h
  refine gn 5 [0,4] [] [hH (.skip)] (cf':=⟨[.c 13,.c 7],⟨8,[vL 0 2 s0 Qac.enc,(4,.boo)],[]⟩⟩) (QBd 4 rfl ?_ ?_)
  ·replace h:=hx
   obtain rfl:=Option.some.inj h
   exact gr 3 [] [tT,hW 3,hH (.nilS 2 0 2)]
  ·obtain ⟨h1,h⟩:=Qaw h
   obtain rfl:=Option.some.inj h
   exact gr 4 [] [fF,aN Qac.enc h1,hW 1,hH (.frz 0),rp 2 (eL s0 Qac.enc)]
 ·obtain ⟨h2,h⟩:=Qaw h
  obtain rfl:=Option.some.inj h
  exact gr 9 [] [oO (neE Qac.enc h0),fF,hH (.bit false),aN Qac.enc h2,hW 1,hH (.frz 0),rp 2 (eL s0 Qac.enc)]
def Qqf (Γ:Gam) (rv:Qab) (cf:Cf):Prop:=Go Tryz.prog Tryz.f31 [] Γ (gG [lI rv.type_,lI rv.start,lL 1 rv.rests Qa5,lL 2 rv.visits Qac.enc]) [] cf
def QnS (Γ:Gam) (rv:Qab) (r:Qab) (k:Int) (finished:Bool) (s0:Qam) (l:List Qac) (r1:List Qac) (l1:List Bool) (v:Int):Prop:=Qqf Γ rv ⟨[.c 244,.l 244,.b 0,.c 31],⟨47,[vI 1 k,vB 2 finished,vP 8 0 4,vP 9 1 4,vO 10 2 1 l1 Qa5,vL 27 4 s0.times Qaq.enc,vI 28 (lenI s0.times),vI 29 v],[oX 4 34 [lI 0,lI 0,.nils,.nils],oX 4 34 [lI r.type_,lI r.start,.nils,lL 2 r1 Qac.enc],oS 1 4 l1 Qa5]⟩⟩
def QmU (Γ:Gam) (rv:Qab) (r:Qab) (k:Int) (finished:Bool) (s0:Qam) (l:List Qac) (r1:List Qac) (l2:List Bool):Prop:=Qqf Γ rv ⟨[.c 31],⟨47,[vI 1 k,vB 2 finished,vP 8 0 4,vP 9 1 4,vO 10 2 1 l2 Qa5],[oX 4 34 [lI 0,lI 0,.nils,.nils],oX 4 34 [lI r.type_,lI r.start,.nils,lL 2 r1 Qac.enc],oS 1 4 l2 Qa5]⟩⟩
theorem QqQ (Γ:Gam) (rv:Qab) {r k finished s0 l r1} {s:List Bool × Int} {e:List Bool} (h:loopF (fun s=>Qhu r k finished s0 l r1 s.1 s.2) s = some e) (hD:QmU Γ rv r k finished s0 l r1 e):QnS Γ rv r k finished s0 l r1 s.1 s.2:=by
 refine QaI (C:=fun (s:List Bool × Int)=>QnS Γ rv r k finished s0 l r1 s.1 s.2) (D:=fun (e:List Bool)=>QmU Γ rv r k finished s0 l r1 e) ?_ h hD
 clear h hD s e
 rintro ⟨l1,v⟩ z_ h hI hE
 replace h:Qhu r k finished s0 l r1 l1 v = _:=h
 unfold Qhu at h
 rcases Qai h with ⟨h2,h⟩|⟨h2,h⟩
 ·obtain ⟨x0,h3,h⟩:=Qae h
  obtain ⟨h4,h⟩:=Qaw h
  exact gn 13 [1,2,8,9,10,27,28,29] [0,1,5] [bT h2,cE Qaq.enc h3,oO (Eq.refl ([x0.rest_].map Qa5).length),aO Qa5 h4] (hI _ (oJ h))
 ·exact gn 5 [1,2,8,9,10] [0,1,2] [bF h2] (hE _ (oJ h))
theorem QsF {r k finished s0} {rv:Qab} (h:Qls r k finished s0 = some rv):AFn Tryz.prog 31 [.agg (Qab.enc r),.one (lI k),.one (.bool finished),.agg (Qam.enc s0)] [] (gG [lI rv.type_,lI rv.start,lL 1 rv.rests Qa5,lL 2 rv.visits Qac.enc]) []:=by
 refine QaS Tryz.func31 (by kernel_rfl) (by kernel_rfl) (fun Γ=>?_)
 unfold Qls at h
 obtain ⟨l,h0,h⟩:=Qae h
 obtain ⟨r1,h1,h⟩:=Qae h
 obtain ⟨e0,h5,h⟩:=Qae h
 refine gn 11 [1,2,8,9,10,27,28,29] [2,3,4] [hH (.draw 11 []),hH (.rows (l.map Qac.enc)),oO (sl1 h0),oO (sl2 h0),oO (sl3 Qac.enc h0),oO (Int.le_refl k),oO (sl3 Qac.enc h0),oO (sl6 Qac.enc h0),cC (Qhr h1),nL Qaq.enc s0.times] (QqQ Γ rv h5 ?_)
 obtain ⟨l2,rfl⟩:∃ x,x = e0:=⟨_,rfl⟩
 replace h:(br finished (bnd (slcI l2 0 (addK .i64 k 1)) fun l3=>some (Qab.mk r.type_ r.start l3 r1)) (bnd (slcI l2 0 k) fun l4=>some (Qab.mk r.type_ r.start l4 r1)):Option Qab) = some _:=h
 rcases Qai h with ⟨h6,h⟩|⟨h6,h⟩
 ·obtain ⟨l3,h7,h⟩:=Qae h
  obtain rfl:=Option.some.inj h
  exact gr 9 [] [bT h6,hW 8,hH (.frz 2),rp 2 (eL l2 Qa5),hH (.rows (l3.map Qa5)),oO (sl1 h7),oO (sl2 h7),oO (sl3 Qa5 h7),oO (Int.le_refl (addK .i64 k 1)),oO (sl3 Qa5 h7),oO (sl6 Qa5 h7)]
 ·obtain ⟨l4,h8,h⟩:=Qae h
  obtain rfl:=Option.some.inj h
  exact gr 9 [] [bF h6,hW 5,hH (.frz 2),rp 2 (eL l2 Qa5),hH (.rows (l4.map Qa5)),oO (sl1 h8),oO (sl2 h8),oO (sl3 Qa5 h8),oO (Int.le_refl k),oO (sl3 Qa5 h8),oO (sl6 Qa5 h8)]
def QnR (Γ:Gam) (rv:List Qab × Int) (cf:Cf):Prop:=Go Tryz.prog Tryz.f14 [] Γ (.tup [.one (lL 4 rv.1 Qab.enc),.one (lI rv.2)]) [] cf
def Qlq (Γ:Gam) (rv:List Qab × Int) (x0:Qad) (p:Qap) (now:Int) (l:List Qab) (v:Int):Prop:=QnR Γ rv ⟨[.c 244,.l 244,.b 0,.c 31],⟨49,[vI 2 now,vP 3 0 6,vO 8 1 4 l Qab.enc,vL 19 4 p.routes Qab.enc,vI 20 (lenI p.routes),vI 21 v],[oX 6 30 (Qad.enc x0),oS 4 34 l Qab.enc]⟩⟩
def QkF (Γ:Gam) (rv:List Qab × Int) (x0:Qad) (p:Qap) (now:Int) (l1:List Qab):Prop:=QnR Γ rv ⟨[.c 31],⟨49,[vO 8 0 4 l1 Qab.enc],[oS 4 34 l1 Qab.enc]⟩⟩
theorem Qpp (Γ:Gam) (rv:List Qab × Int) {x0 p now} {s:List Qab × Int} {e:(List Qab) ⊕ (List Qab × Int)} (h:loopF (fun s=>QcC x0 p now s.1 s.2) s = some e) (hD:sel e (fun e=>QkF Γ rv x0 p now e) (fun e=>e = rv)):Qlq Γ rv x0 p now s.1 s.2:=by
 refine QaI (C:=fun (s:List Qab × Int)=>Qlq Γ rv x0 p now s.1 s.2) (D:=fun (e:(List Qab) ⊕ (List Qab × Int))=>sel e (fun e=>QkF Γ rv x0 p now e) (fun e=>e = rv)) ?_ h hD
 clear h hD s e
 rintro ⟨l,v⟩ z_ h hI hE
 replace h:QcC x0 p now l v = _:=h
 unfold QcC at h
 rcases Qai h with ⟨h2,h⟩|⟨h2,h⟩
 ·obtain ⟨x1,h3,h⟩:=Qae h
  obtain ⟨r1,h4,h⟩:=Qae h
  rcases Qai h with ⟨h5,h⟩|⟨h5,h⟩
  ·obtain rfl:=(hE _ (oJ h):_ = rv)
   exact gr 17 [] [bT h2,cE Qab.enc h3,cC (Qg5 h4),bT h5,hW 5,hH (.nilS 6 0 4)]
  ·rcases Qai h with ⟨h6,h⟩|⟨h6,h⟩
   ·obtain ⟨r2,h7,h⟩:=Qae h
    obtain ⟨h8,h⟩:=Qaw h
    exact gn 23 [2,3,8,19,20,21] [0,5] [bT h2,cE Qab.enc h3,cC (Qg5 h4),bF h5,bT h6,cC (QsF h7),oO (Eq.refl ([r2].map Qab.enc).length),aO Qab.enc h8] (hI _ (oJ h))
   ·exact gn 23 [2,3,8,19,20,21] [0,1] [bT h2,cE Qab.enc h3,cC (Qg5 h4),bF h5,bF h6] (hI _ (oJ h))
 ·exact gn 5 [8] [1] [bF h2] (hE _ (oJ h))
theorem QaT {x0 p now} {rv:List Qab × Int} (h:Qcx x0 p now = some rv):AFn Tryz.prog 14 [.agg (Qad.enc x0),.agg (Qap.enc p),.one (lI now)] [] (.tup [.one (lL 4 rv.1 Qab.enc),.one (lI rv.2)]) []:=by
 refine QaS Tryz.func14 (by kernel_rfl) (by kernel_rfl) (fun Γ=>?_)
 unfold Qcx at h
 obtain ⟨r,h0,h⟩:=Qae h
 rcases Qai h with ⟨h1,h⟩|⟨h1,h⟩
 ·obtain ⟨e0,h9,h⟩:=Qae h
  refine gn 14 [2,3,8,19,20,21] [0,2] [cC (Qlb h0),nF h1,nL Qab.enc p.routes,hW 3,hH (.adopt 8 4 34)] (Qpp Γ rv h9 ?_)
  rcases e0 with e0|e0
  ·obtain ⟨l1,rfl⟩:∃ x,x = e0:=⟨_,rfl⟩
   replace h:(some (l1,0):Option (List Qab × Int)) = some _:=h
   obtain rfl:=Option.some.inj h
   exact gr 2 [] [hW 5,hH (.frz 0),rp 3 (eL l1 Qab.enc)]
  ·obtain ⟨r3,rfl⟩:∃ x,x = e0:=⟨_,rfl⟩
   replace h:(some r3:Option (List Qab × Int)) = some _:=h
   exact Option.some.inj h
 ·obtain rfl:=Option.some.inj h
  exact gr 8 [] [cC (Qlb h0),nT h1,hW 4,hH (.nilS 6 0 4)]
def QeA (Γ:Gam) (rv:Bool) (cf:Cf):Prop:=Go Tryz.prog Tryz.f102 [] Γ (one (.bool rv)) [] cf
def QdT (Γ:Gam) (rv:Bool) (s1:List Qac) (s2:List Qac) (v:Int):Prop:=QeA Γ rv ⟨[.c 116,.l 116,.b 0,.c 15],⟨26,[vL 0 2 s1 Qac.enc,vL 1 2 s2 Qac.enc,vI 12 (lenI s1),vI 13 v],[]⟩⟩
def QdF (Γ:Gam) (rv:Bool) (s1:List Qac) (s2:List Qac):Prop:=QeA Γ rv ⟨[.c 15],⟨26,[],[]⟩⟩
theorem QgH (Γ:Gam) (rv:Bool) {s1 s2} {s:Int} {e:(Unit) ⊕ (Bool)} (h:loopF (fun s=>QaN s1 s2 s) s = some e) (hD:sel e (fun e=>QdF Γ rv s1 s2) (fun e=>e = rv)):QdT Γ rv s1 s2 s:=by
 refine QaI (C:=fun (s:Int)=>QdT Γ rv s1 s2 s) (D:=fun (e:(Unit) ⊕ (Bool))=>sel e (fun e=>QdF Γ rv s1 s2) (fun e=>e = rv)) ?_ h hD
 clear h hD s e
 intro v z_ h hI hE
 replace h:QaN s1 s2 v = _:=h
 unfold QaN at h
 rcases Qai h with ⟨h1,h⟩|⟨h1,h⟩
 ·obtain ⟨x0,h2,h⟩:=Qae h
  obtain ⟨x1,h3,h⟩:=Qae h
  rcases Qai h with ⟨h4,h⟩|⟨h4,h⟩
  ·exact gn 16 [0,1,12,13] [] [bT h1,hH (.draw 9 []),cE Qac.enc h2,cE Qac.enc h3,nF h4] (hI _ (oJ h))
  ·obtain rfl:=(hE _ (oJ h):_ = rv)
   exact gr 14 [] [bT h1,hH (.draw 9 []),cE Qac.enc h2,cE Qac.enc h3,nT h4]
 ·exact gn 5 [] [] [bF h1] (hE _ (oJ h))
theorem Qhs {s1 s2} {rv:Bool} (h:QbD s1 s2 = some rv):AFn Tryz.prog 102 [.one (lL 2 s1 Qac.enc),.one (lL 2 s2 Qac.enc)] [] (one (.bool rv)) []:=by
 refine QaS Tryz.func102 (by kernel_rfl) (by kernel_rfl) (fun Γ=>?_)
 unfold QbD at h
 rcases Qai h with ⟨h0,h⟩|⟨h0,h⟩
 ·obtain rfl:=Option.some.inj h
  exact gr 8 [] [nL Qac.enc s1,nL Qac.enc s2,bT h0]
 ·obtain ⟨e0,h5,h⟩:=Qae h
  refine gn 12 [0,1,12,13] [] [nL Qac.enc s1,nL Qac.enc s2,bF h0,nL Qac.enc s1] (QgH Γ rv h5 ?_)
  rcases e0 with e0|e0
  ·replace h:(some true:Option Bool) = some _:=h
   obtain rfl:=Option.some.inj h
   exact gr 2 [] []
  ·obtain ⟨r,rfl⟩:∃ x,x = e0:=⟨_,rfl⟩
   replace h:(some r:Option Bool) = some _:=h
   exact Option.some.inj h
theorem Qe7 {l first_} {rv:Bool} (h:Qdb l first_ = some rv):AFn Tryz.prog 58 [.one (lL 2 l Qac.enc),.one (lL 2 first_ Qac.enc)] [] (one (.bool rv)) []:=by
 refine QaS Tryz.func58 (by kernel_rfl) (by kernel_rfl) (fun Γ=>?_)
 unfold Qdb at h
 rcases Qai h with ⟨h0,h⟩|⟨h0,h⟩
 ·obtain ⟨l1,h1,h⟩:=Qae h
  obtain ⟨r,h2,h⟩:=Qae h
  obtain rfl:=Option.some.inj h
  exact gr 4 [] [nL Qac.enc l,nL Qac.enc first_,rp 3 (bT h0),nL Qac.enc first_,bT h0,hH (.rows (l1.map Qac.enc)),oO (sl1 h1),oO (sl2 h1),oO (sl3 Qac.enc h1),oO (Int.le_refl (lenI first_)),oO (sl3 Qac.enc h1),oO (sl6 Qac.enc h1),bT h0,bT h0,cC (Qhs h2),bT h0]
 ·obtain rfl:=Option.some.inj h
  exact gr 4 [] [nL Qac.enc l,nL Qac.enc first_,rp 7 (bF h0)]
def Qhn (Γ:Gam) (rv:Bool) (cf:Cf):Prop:=Go Tryz.prog Tryz.f103 [] Γ (one (.bool rv)) [] cf
def Qgl (Γ:Gam) (rv:Bool) (s1:List Bool) (s2:List Bool) (v:Int):Prop:=Qhn Γ rv ⟨[.c 116,.l 116,.b 0,.c 15],⟨26,[vL 0 1 s1 Qa5,vL 1 1 s2 Qa5,vI 12 (lenI s1),vI 13 v],[]⟩⟩
def QfY (Γ:Gam) (rv:Bool) (s1:List Bool) (s2:List Bool):Prop:=Qhn Γ rv ⟨[.c 15],⟨26,[],[]⟩⟩
theorem Qkj (Γ:Gam) (rv:Bool) {s1 s2} {s:Int} {e:(Unit) ⊕ (Bool)} (h:loopF (fun s=>Qba s1 s2 s) s = some e) (hD:sel e (fun e=>QfY Γ rv s1 s2) (fun e=>e = rv)):Qgl Γ rv s1 s2 s:=by
 refine QaI (C:=fun (s:Int)=>Qgl Γ rv s1 s2 s) (D:=fun (e:(Unit) ⊕ (Bool))=>sel e (fun e=>QfY Γ rv s1 s2) (fun e=>e = rv)) ?_ h hD
 clear h hD s e
 intro v z_ h hI hE
 replace h:Qba s1 s2 v = _:=h
 unfold Qba at h
 rcases Qai h with ⟨h1,h⟩|⟨h1,h⟩
 ·obtain ⟨x0,h2,h⟩:=Qae h
  obtain ⟨x1,h3,h⟩:=Qae h
  rcases Qai h with ⟨h4,h⟩|⟨h4,h⟩
  ·exact gn 16 [0,1,12,13] [] [bT h1,hH (.draw 9 []),cE Qa5 h2,cE Qa5 h3,nF h4] (hI _ (oJ h))
  ·obtain rfl:=(hE _ (oJ h):_ = rv)
   exact gr 14 [] [bT h1,hH (.draw 9 []),cE Qa5 h2,cE Qa5 h3,nT h4]
 ·exact gn 5 [] [] [bF h1] (hE _ (oJ h))
theorem Ql1 {s1 s2} {rv:Bool} (h:Qc6 s1 s2 = some rv):AFn Tryz.prog 103 [.one (lL 1 s1 Qa5),.one (lL 1 s2 Qa5)] [] (one (.bool rv)) []:=by
 refine QaS Tryz.func103 (by kernel_rfl) (by kernel_rfl) (fun Γ=>?_)
 unfold Qc6 at h
 rcases Qai h with ⟨h0,h⟩|⟨h0,h⟩
 ·obtain rfl:=Option.some.inj h
  exact gr 8 [] [nL Qa5 s1,nL Qa5 s2,bT h0]
 ·obtain ⟨e0,h5,h⟩:=Qae h
  refine gn 12 [0,1,12,13] [] [nL Qa5 s1,nL Qa5 s2,bF h0,nL Qa5 s1] (Qkj Γ rv h5 ?_)
  rcases e0 with e0|e0
  ·replace h:(some true:Option Bool) = some _:=h
   obtain rfl:=Option.some.inj h
   exact gr 2 [] []
  ·obtain ⟨r,rfl⟩:∃ x,x = e0:=⟨_,rfl⟩
   replace h:(some r:Option Bool) = some _:=h
   exact Option.some.inj h
theorem Qjq {l first_} {rv:Bool} (h:Qfd l first_ = some rv):AFn Tryz.prog 59 [.one (lL 1 l Qa5),.one (lL 1 first_ Qa5)] [] (one (.bool rv)) []:=by
 refine QaS Tryz.func59 (by kernel_rfl) (by kernel_rfl) (fun Γ=>?_)
 unfold Qfd at h
 rcases Qai h with ⟨h0,h⟩|⟨h0,h⟩
 ·obtain ⟨l1,h1,h⟩:=Qae h
  obtain ⟨r,h2,h⟩:=Qae h
  obtain rfl:=Option.some.inj h
  exact gr 4 [] [nL Qa5 l,nL Qa5 first_,rp 3 (bT h0),nL Qa5 first_,bT h0,hH (.rows (l1.map Qa5)),oO (sl1 h1),oO (sl2 h1),oO (sl3 Qa5 h1),oO (Int.le_refl (lenI first_)),oO (sl3 Qa5 h1),oO (sl6 Qa5 h1),bT h0,bT h0,cC (Ql1 h2),bT h0]
 ·obtain rfl:=Option.some.inj h
  exact gr 4 [] [nL Qa5 l,nL Qa5 first_,rp 7 (bF h0)]
theorem Qlr {r b} {rv:Bool} (h:Qjo r b = some rv):AFn Tryz.prog 33 [.agg (Qab.enc r),.agg (Qab.enc b)] [] (one (.bool rv)) []:=by
 refine QaS Tryz.func33 (by kernel_rfl) (by kernel_rfl) (fun Γ=>?_)
 unfold Qjo at h
 rcases Qai h with ⟨h0,h⟩|⟨h0,h⟩
 ·obtain rfl:=Option.some.inj h
  exact gr 8 [] [rp 6 hP,rp 4 (oI ((neI r.type_ b.type_) = false)),oR True ((neI r.type_ b.type_) = false),rp 7 (bT h0),rp 8 tT]
 ·obtain ⟨r1,h1,h⟩:=Qae h
  rcases Qai h with ⟨h2,h⟩|⟨h2,h⟩
  ·obtain ⟨r2,h3,h⟩:=Qae h
   rcases Qai h with ⟨h4,h⟩|⟨h4,h⟩
   ·obtain rfl:=Option.some.inj h
    exact gr 11 [] [rp 6 hP,rp 4 (oI ((neI r.type_ b.type_) = false)),oR True ((neI r.type_ b.type_) = false),rp 5 (bF h0),cC (Qe7 h1),bF h0,bF h0,rp 5 (nF h2),cC (Qjq h3),nF h2,nF h2,nF h4,nL Qa5 b.rests,nL Qac.enc b.visits,hP,hP,hP,rp 2 (oI ((!(gtI (lenI b.rests) (lenI b.visits))) = false)),nL Qac.enc r.visits,hP,hP,hP,rp 2 (oI ((!(gtI (lenI b.rests) (lenI b.visits))) = false)),nL Qac.enc b.visits,rp 5 hP,rp 3 (oI ((!(gtI (lenI b.rests) (lenI b.visits))) = false)),rp 2 (oI (((!(gtI (lenI b.rests) (lenI b.visits))) = false)∧(eqI (lenI r.visits) (lenI b.visits)) = true)),nL Qa5 r.rests,hP,hP,hP,rp 2 (oI (((!(gtI (lenI b.rests) (lenI b.visits))) = false)∧(eqI (lenI r.visits) (lenI b.visits)) = true)),nL Qa5 b.rests,rp 4 hP,rp 2 (oI (((!(gtI (lenI b.rests) (lenI b.visits))) = false)∧(eqI (lenI r.visits) (lenI b.visits)) = true)),oI ((!(gtI (lenI b.rests) (lenI b.visits))) = false),oI (((!(gtI (lenI b.rests) (lenI b.visits))) = false)∧(eqI (lenI r.visits) (lenI b.visits)) = true),oR True ((!(gtI (lenI b.rests) (lenI b.visits))) = false)]
   ·obtain rfl:=Option.some.inj h
    exact gr 8 [] [rp 6 hP,rp 4 (oI ((neI r.type_ b.type_) = false)),oR True ((neI r.type_ b.type_) = false),rp 5 (bF h0),cC (Qe7 h1),bF h0,bF h0,rp 5 (nF h2),cC (Qjq h3),nF h2,nF h2,nT h4]
  ·obtain rfl:=Option.some.inj h
   exact gr 8 [] [rp 6 hP,rp 4 (oI ((neI r.type_ b.type_) = false)),oR True ((neI r.type_ b.type_) = false),rp 5 (bF h0),cC (Qe7 h1),bF h0,bF h0,rp 7 (nT h2),tT]
theorem QmW {w c} {rv:Bool} (h:Qjh w c = some rv):AFn Tryz.prog 62 [.agg (Qac.enc w),.one (.ip (Qac.enc c) 0)] [] (one (.bool rv)) []:=by
 refine QaS Tryz.func62 (by kernel_rfl) (by kernel_rfl) (fun Γ=>?_)
 unfold Qjh at h
 obtain rfl:=Option.some.inj h
 exact gr 4 [] []
def QcI (Γ:Gam) (rv:Int) (cf:Cf):Prop:=Go Tryz.prog Tryz.f104 [] Γ (one (lI rv)) [] cf
def Qcn (Γ:Gam) (rv:Int) (s0:List Qac) (c:Qac) (v:Int):Prop:=QcI Γ rv ⟨[.c 52,.l 52,.b 0,.c 7],⟨19,[vL 0 2 s0 Qac.enc,(1,one (.fn (.func 62) [.ip (Qac.enc c) 0])),vI 7 (lenI s0),vI 8 v],[]⟩⟩
def Qcj (Γ:Gam) (rv:Int) (s0:List Qac) (c:Qac):Prop:=QcI Γ rv ⟨[.c 7],⟨19,[],[]⟩⟩
theorem Qev (Γ:Gam) (rv:Int) {s0 c} {s:Int} {e:(Unit) ⊕ (Int)} (h:loopF (fun s=>Qaz s0 c s) s = some e) (hD:sel e (fun e=>Qcj Γ rv s0 c) (fun e=>e = rv)):Qcn Γ rv s0 c s:=by
 refine QaI (C:=fun (s:Int)=>Qcn Γ rv s0 c s) (D:=fun (e:(Unit) ⊕ (Int))=>sel e (fun e=>Qcj Γ rv s0 c) (fun e=>e = rv)) ?_ h hD
 clear h hD s e
 intro v z_ h hI hE
 replace h:Qaz s0 c v = _:=h
 unfold Qaz at h
 rcases Qai h with ⟨h0,h⟩|⟨h0,h⟩
 ·obtain ⟨x0,h1,h⟩:=Qae h
  obtain ⟨r,h2,h⟩:=Qae h
  rcases Qai h with ⟨h3,h⟩|⟨h3,h⟩
  ·obtain rfl:=(hE _ (oJ h):_ = rv)
   exact gr 14 [] [bT h0,cE Qac.enc h1,cC (QmW h2),bT h3]
  ·exact gn 16 [0,1,7,8] [] [bT h0,cE Qac.enc h1,cC (QmW h2),bF h3] (hI _ (oJ h))
 ·exact gn 5 [] [] [bF h0] (hE _ (oJ h))
theorem Qe5 {s0 c} {rv:Int} (h:Qa2 s0 c = some rv):AFn Tryz.prog 104 [.one (lL 2 s0 Qac.enc),.one (.fn (.func 62) [.ip (Qac.enc c) 0])] [] (one (lI rv)) []:=by
 refine QaS Tryz.func104 (by kernel_rfl) (by kernel_rfl) (fun Γ=>?_)
 unfold Qa2 at h
 obtain ⟨e0,h4,h⟩:=Qae h
 refine gn 7 [0,1,7,8] [] [nL Qac.enc s0] (Qev Γ rv h4 ?_)
 rcases e0 with e0|e0
 ·replace h:(some (-1):Option Int) = some _:=h
  obtain rfl:=Option.some.inj h
  exact gr 2 [] []
 ·obtain ⟨r1,rfl⟩:∃ x,x = e0:=⟨_,rfl⟩
  replace h:(some r1:Option Int) = some _:=h
  exact Option.some.inj h
theorem Qet {s0 c} {rv:Bool} (h:Qbb s0 c = some rv):AFn Tryz.prog 60 [.one (lL 2 s0 Qac.enc),.one (.fn (.func 62) [.ip (Qac.enc c) 0])] [] (one (.bool rv)) []:=by
 refine QaS Tryz.func60 (by kernel_rfl) (by kernel_rfl) (fun Γ=>?_)
 unfold Qbb at h
 obtain ⟨r,h0,h⟩:=Qae h
 obtain rfl:=Option.some.inj h
 exact gr 4 [] [cC (Qe5 h0)]
theorem Qon {v c} {rv:Bool} (h:Qjp v c = some rv):AFn Tryz.prog 61 [.agg (Qac.enc v),.one (.ip (Qab.enc c) 0)] [] (one (.bool rv)) []:=by
 refine QaS Tryz.func61 (by kernel_rfl) (by kernel_rfl) (fun Γ=>?_)
 unfold Qjp at h
 obtain ⟨r,h0,h⟩:=Qae h
 obtain rfl:=Option.some.inj h
 exact gr 4 [] [cC (Qet h0)]
def QcU (Γ:Gam) (rv:Int) (cf:Cf):Prop:=Go Tryz.prog Tryz.f104 [] Γ (one (lI rv)) [] cf
def QcB (Γ:Gam) (rv:Int) (s0:List Qac) (c:Qab) (v:Int):Prop:=QcU Γ rv ⟨[.c 52,.l 52,.b 0,.c 7],⟨19,[vL 0 2 s0 Qac.enc,(1,one (.fn (.func 61) [.ip (Qab.enc c) 0])),vI 7 (lenI s0),vI 8 v],[]⟩⟩
def Qcv (Γ:Gam) (rv:Int) (s0:List Qac) (c:Qab):Prop:=QcU Γ rv ⟨[.c 7],⟨19,[],[]⟩⟩
theorem Qe0 (Γ:Gam) (rv:Int) {s0 c} {s:Int} {e:(Unit) ⊕ (Int)} (h:loopF (fun s=>QaC s0 c s) s = some e) (hD:sel e (fun e=>Qcv Γ rv s0 c) (fun e=>e = rv)):QcB Γ rv s0 c s:=by
 refine QaI (C:=fun (s:Int)=>QcB Γ rv s0 c s) (D:=fun (e:(Unit) ⊕ (Int))=>sel e (fun e=>Qcv Γ rv s0 c) (fun e=>e = rv)) ?_ h hD
 clear h hD s e
 intro v z_ h hI hE
 replace h:QaC s0 c v = _:=h
 unfold QaC at h
 rcases Qai h with ⟨h0,h⟩|⟨h0,h⟩
 ·obtain ⟨x0,h1,h⟩:=Qae h
  obtain ⟨r,h2,h⟩:=Qae h
  rcases Qai h with ⟨h3,h⟩|⟨h3,h⟩
  ·obtain rfl:=(hE _ (oJ h):_ = rv)
   exact gr 14 [] [bT h0,cE Qac.enc h1,cC (Qon h2),bT h3]
  ·exact gn 16 [0,1,7,8] [] [bT h0,cE Qac.enc h1,cC (Qon h2),bF h3] (hI _ (oJ h))
 ·exact gn 5 [] [] [bF h0] (hE _ (oJ h))
theorem Qfu {s0 c} {rv:Int} (h:Qa7 s0 c = some rv):AFn Tryz.prog 104 [.one (lL 2 s0 Qac.enc),.one (.fn (.func 61) [.ip (Qab.enc c) 0])] [] (one (lI rv)) []:=by
 refine QaS Tryz.func104 (by kernel_rfl) (by kernel_rfl) (fun Γ=>?_)
 unfold Qa7 at h
 obtain ⟨e0,h4,h⟩:=Qae h
 refine gn 7 [0,1,7,8] [] [nL Qac.enc s0] (Qe0 Γ rv h4 ?_)
 rcases e0 with e0|e0
 ·replace h:(some (-1):Option Int) = some _:=h
  obtain rfl:=Option.some.inj h
  exact gr 2 [] []
 ·obtain ⟨r1,rfl⟩:∃ x,x = e0:=⟨_,rfl⟩
  replace h:(some r1:Option Int) = some _:=h
  exact Option.some.inj h
theorem QeZ {s0 c} {rv:Bool} (h:Qbg s0 c = some rv):AFn Tryz.prog 60 [.one (lL 2 s0 Qac.enc),.one (.fn (.func 61) [.ip (Qab.enc c) 0])] [] (one (.bool rv)) []:=by
 refine QaS Tryz.func60 (by kernel_rfl) (by kernel_rfl) (fun Γ=>?_)
 unfold Qbg at h
 obtain ⟨r,h0,h⟩:=Qae h
 obtain rfl:=Option.some.inj h
 exact gr 4 [] [cC (Qfu h0)]
theorem Qqg {a b} {rv:Bool} (h:QmV a b = some rv):AFn Tryz.prog 34 [.agg (Qab.enc a),.agg (Qab.enc b)] [] (one (.bool rv)) []:=by
 refine QaS Tryz.func34 (by kernel_rfl) (by kernel_rfl) (fun Γ=>?_)
 unfold QmV at h
 obtain ⟨r,h0,h⟩:=Qae h
 obtain rfl:=Option.some.inj h
 exact gr 4 [] [cC (QeZ h0)]
def Qla (Γ:Gam) (rv:Int) (cf:Cf):Prop:=Go Tryz.prog Tryz.f18 [] Γ (one (lI rv)) [] cf
def QnQ (Γ:Gam) (rv:Int) (p:Qap) (l:List Qab) (v:Int) (x0:Qab) (n:Int) (v1:Int):Prop:=Qla Γ rv ⟨[.c 54068,.l 54068,.b 2,.c 6759,.b 1,.c 423,.l 52,.b 0,.c 7],⟨37,[vP 2 0 2,vP 6 1 4,vI 7 n,vL 10 4 l Qab.enc,vI 11 (lenI l),vI 12 v,vL 17 4 p.routes Qab.enc,vI 18 (lenI p.routes),vI 19 v1],[oX 2 45 (Qap.enc p),oX 4 34 (Qab.enc x0)]⟩⟩
def QmT (Γ:Gam) (rv:Int) (p:Qap) (l:List Qab) (v:Int) (x0:Qab) (n1:Int):Prop:=Qla Γ rv ⟨[.c 6759,.b 1,.c 423,.l 52,.b 0,.c 7],⟨37,[vP 2 0 2,vI 7 n1,vL 10 4 l Qab.enc,vI 11 (lenI l),vI 12 v],[oX 2 45 (Qap.enc p)]⟩⟩
def QnP (Γ:Gam) (rv:Int) (p:Qap) (l:List Qab) (v:Int):Prop:=Qla Γ rv ⟨[.c 52,.l 52,.b 0,.c 7],⟨37,[vP 2 0 2,vL 10 4 l Qab.enc,vI 11 (lenI l),vI 12 v],[oX 2 45 (Qap.enc p)]⟩⟩
def QmS (Γ:Gam) (rv:Int) (p:Qap) (l:List Qab):Prop:=Qla Γ rv ⟨[.c 7],⟨37,[],[]⟩⟩
theorem QqP (Γ:Gam) (rv:Int) {p l v x0} {s:Int × Int} {e:(Int) ⊕ (Int)} (h:loopF (fun s=>QdK p l v x0 s.1 s.2) s = some e) (hD:sel e (fun e=>QmT Γ rv p l v x0 e) (fun e=>e = rv)):QnQ Γ rv p l v x0 s.1 s.2:=by
 refine QaI (C:=fun (s:Int × Int)=>QnQ Γ rv p l v x0 s.1 s.2) (D:=fun (e:(Int) ⊕ (Int))=>sel e (fun e=>QmT Γ rv p l v x0 e) (fun e=>e = rv)) ?_ h hD
 clear h hD s e
 rintro ⟨n,v1⟩ z_ h hI hE
 replace h:QdK p l v x0 n v1 = _:=h
 unfold QdK at h
 rcases Qai h with ⟨h2,h⟩|⟨h2,h⟩
 ·obtain ⟨x1,h3,h⟩:=Qae h
  obtain ⟨r,h4,h⟩:=Qae h
  rcases Qai h with ⟨h5,h⟩|⟨h5,h⟩
  ·exact gn 18 [2,6,7,10,11,12,17,18,19] [0,1] [bT h2,cE Qab.enc h3,cC (Qlr h4),bT h5] (hI _ (oJ h))
  ·obtain ⟨r1,h6,h⟩:=Qae h
   rcases Qai h with ⟨h7,h⟩|⟨h7,h⟩
   ·obtain rfl:=(hE _ (oJ h):_ = rv)
    exact gr 18 [] [bT h2,cE Qab.enc h3,cC (Qlr h4),bF h5,cC (Qqg h6),bT h7]
   ·exact gn 21 [2,6,7,10,11,12,17,18,19] [0,1] [bT h2,cE Qab.enc h3,cC (Qlr h4),bF h5,cC (Qqg h6),bF h7] (hI _ (oJ h))
 ·exact gn 5 [2,7,10,11,12] [0] [bF h2] (hE _ (oJ h))
theorem QqO (Γ:Gam) (rv:Int) {p l} {s:Int} {e:(Unit) ⊕ (Int)} (h:loopF (fun s=>QdJ p l s) s = some e) (hD:sel e (fun e=>QmS Γ rv p l) (fun e=>e = rv)):QnP Γ rv p l s:=by
 refine QaI (C:=fun (s:Int)=>QnP Γ rv p l s) (D:=fun (e:(Unit) ⊕ (Int))=>sel e (fun e=>QmS Γ rv p l) (fun e=>e = rv)) ?_ h hD
 clear h hD s e
 intro v z_ h hI hE
 replace h:QdJ p l v = _:=h
 unfold QdJ at h
 rcases Qai h with ⟨h0,h⟩|⟨h0,h⟩
 ·obtain ⟨x0,h1,h⟩:=Qae h
  obtain ⟨e0,h8,h⟩:=Qae h
  refine gn 16 [2,6,7,10,11,12,17,18,19] [0,1] [bT h0,cE Qab.enc h1,nL Qab.enc p.routes] (QqP Γ rv h8 ?_)
  rcases e0 with e0|e0
  ·obtain ⟨n1,rfl⟩:∃ x,x = e0:=⟨_,rfl⟩
   replace h:(br (neI n1 1) (some (.inr (.inr 31))) (some (.inl (addK .i64 v 1))):Option ((Int) ⊕ ((Unit) ⊕ (Int)))) = some _:=h
   rcases Qai h with ⟨h9,h⟩|⟨h9,h⟩
   ·obtain rfl:=(hE _ (oJ h):_ = rv)
    exact gr 5 [] [bT h9]
   ·exact gn 7 [2,10,11,12] [0] [bF h9] (hI _ (oJ h))
  ·obtain ⟨r2,rfl⟩:∃ x,x = e0:=⟨_,rfl⟩
   replace h:(some (.inr (.inr r2)):Option ((Int) ⊕ ((Unit) ⊕ (Int)))) = some _:=h
   exact (hE _ (oJ h):_ = rv)
 ·exact gn 5 [] [] [bF h0] (hE _ (oJ h))
theorem Qc9 {p l} {rv:Int} (h:Qfw p l = some rv):AFn Tryz.prog 18 [.agg (Qap.enc p),.one (lL 4 l Qab.enc)] [] (one (lI rv)) []:=by
 refine QaS Tryz.func18 (by kernel_rfl) (by kernel_rfl) (fun Γ=>?_)
 unfold Qfw at h
 obtain ⟨e1,h10,h⟩:=Qae h
 refine gn 7 [2,10,11,12] [0] [nL Qab.enc l] (QqO Γ rv h10 ?_)
 rcases e1 with e1|e1
 ·replace h:(some 0:Option Int) = some _:=h
  obtain rfl:=Option.some.inj h
  exact gr 2 [] []
 ·obtain ⟨r3,rfl⟩:∃ x,x = e1:=⟨_,rfl⟩
  replace h:(some r3:Option Int) = some _:=h
  exact Option.some.inj h
def Qk9 (Γ:Gam) (rv:Int) (cf:Cf):Prop:=Go Tryz.prog Tryz.f20 [] Γ (one (lI rv)) [] cf
def QnO (Γ:Gam) (rv:Int) (l:List Qab) (v:Int) (x0:Qab) (set_1:Int) (v1:Int):Prop:=Qk9 Γ rv ⟨[.c 29900,.l 29900,.b 2,.b 1,.c 935,.l 116,.b 0,.c 15],⟨37,[vI 3 set_1,vL 8 4 l Qab.enc,vI 9 (lenI l),vI 10 v,vL 15 2 x0.visits Qac.enc,vI 16 (lenI x0.visits),vI 17 v1],[]⟩⟩
def QmR (Γ:Gam) (rv:Int) (l:List Qab) (v:Int) (x0:Qab) (set_2:Int):Prop:=Qk9 Γ rv ⟨[.b 1,.c 935,.l 116,.b 0,.c 15],⟨37,[vI 3 set_2,vL 8 4 l Qab.enc,vI 9 (lenI l),vI 10 v],[]⟩⟩
def QnN (Γ:Gam) (rv:Int) (l:List Qab) (set_:Int) (v:Int):Prop:=Qk9 Γ rv ⟨[.c 116,.l 116,.b 0,.c 15],⟨37,[vI 3 set_,vL 8 4 l Qab.enc,vI 9 (lenI l),vI 10 v],[]⟩⟩
def QmQ (Γ:Gam) (rv:Int) (l:List Qab) (set_3:Int):Prop:=Qk9 Γ rv ⟨[.c 15],⟨37,[vI 3 set_3],[]⟩⟩
theorem QqN (Γ:Gam) (rv:Int) {l v x0} {s:Int × Int} {e:Int} (h:loopF (fun s=>Qfv l v x0 s.1 s.2) s = some e) (hD:QmR Γ rv l v x0 e):QnO Γ rv l v x0 s.1 s.2:=by
 refine QaI (C:=fun (s:Int × Int)=>QnO Γ rv l v x0 s.1 s.2) (D:=fun (e:Int)=>QmR Γ rv l v x0 e) ?_ h hD
 clear h hD s e
 rintro ⟨set_1,v1⟩ z_ h hI hE
 replace h:Qfv l v x0 set_1 v1 = _:=h
 unfold Qfv at h
 rcases Qai h with ⟨h2,h⟩|⟨h2,h⟩
 ·obtain ⟨x1,h3,h⟩:=Qae h
  rcases Qai h with ⟨h4,h⟩|⟨h4,h⟩
  ·obtain ⟨h5,h⟩:=Qaw h
   exact gn 16 [3,8,9,10,15,16,17] [] [bT h2,cE Qac.enc h3,rp 4 hP,rp 2 (oI ((geI x1.order 0) = true)),oR True ((geI x1.order 0) = true),bT h4,oO (h5)] (hI _ (oJ h))
  ·exact gn 16 [3,8,9,10,15,16,17] [] [bT h2,cE Qac.enc h3,rp 4 hP,rp 2 (oI ((geI x1.order 0) = true)),oR True ((geI x1.order 0) = true),bF h4] (hI _ (oJ h))
 ·exact gn 5 [3,8,9,10] [] [bF h2] (hE _ (oJ h))
theorem QqM (Γ:Gam) (rv:Int) {l} {s:Int × Int} {e:Int} (h:loopF (fun s=>Qgm l s.1 s.2) s = some e) (hD:QmQ Γ rv l e):QnN Γ rv l s.1 s.2:=by
 refine QaI (C:=fun (s:Int × Int)=>QnN Γ rv l s.1 s.2) (D:=fun (e:Int)=>QmQ Γ rv l e) ?_ h hD
 clear h hD s e
 rintro ⟨set_,v⟩ z_ h hI hE
 replace h:Qgm l set_ v = _:=h
 unfold Qgm at h
 rcases Qai h with ⟨h0,h⟩|⟨h0,h⟩
 ·obtain ⟨x0,h1,h⟩:=Qae h
  obtain ⟨e0,h6,h⟩:=Qae h
  refine gn 13 [3,8,9,10,15,16,17] [] [bT h0,cE Qab.enc h1,nL Qac.enc x0.visits] (QqN Γ rv h6 ?_)
  obtain ⟨set_2,rfl⟩:∃ x,x = e0:=⟨_,rfl⟩
  replace h:(some (.inl (set_2,(addK .i64 v 1))):Option ((Int × Int) ⊕ (Int))) = some _:=h
  exact gn 3 [3,8,9,10] [] [] (hI _ (oJ h))
 ·exact gn 5 [3] [] [bF h0] (hE _ (oJ h))
theorem QmA {l} {rv:Int} (h:Qi3 l = some rv):AFn Tryz.prog 20 [.one (lL 4 l Qab.enc)] [] (one (lI rv)) []:=by
 refine QaS Tryz.func20 (by kernel_rfl) (by kernel_rfl) (fun Γ=>?_)
 unfold Qi3 at h
 obtain ⟨e1,h7,h⟩:=Qae h
 refine gn 9 [3,8,9,10] [] [nL Qab.enc l] (QqM Γ rv h7 ?_)
 obtain ⟨set_3,rfl⟩:∃ x,x = e1:=⟨_,rfl⟩
 replace h:(some set_3:Option Int) = some _:=h
 obtain rfl:=Option.some.inj h
 exact gr 2 [] []
theorem Qdx {rv:Qad × Qab} (h:Qkp = some rv):AFn Tryz.prog 26 [] [] (.tup [.agg [lL 1 rv.1.net.places e_str,lL 6 rv.1.net.arcs Qav.enc,lL 14 rv.1.types Qal.enc,lL 16 rv.1.orders Qak.enc,lL 2 rv.1.apart QaW.enc,lL 2 rv.1.before QaW.enc],.agg [lI rv.2.type_,lI rv.2.start,lL 1 rv.2.rests Qa5,lL 2 rv.2.visits Qac.enc]]) []:=by
 refine QaS Tryz.func26 (by kernel_rfl) (by kernel_rfl) (fun Γ=>?_)
 unfold Qkp at h
 obtain rfl:=Option.some.inj h
 exact gr 12 [] [hW 19,hH (.frz 4),hH (.nilS 8 5 2),hH (.frz 5),hH (.nilS 11 5 2),hW 8,hH (.frz 7),hW 9,hH (.frz 9),hW 11,hH (.frz 2),hH (.frz 6),hH (.frz 8),hH (.frz 10),hH (.nilB 0 4 2),hH (.nilB 0 5 2),hH (.frz 11),hH (.nilB 1 2 1),rp 4 (oO (Eq.refl ([(Qan.mk 0 10)].map Qan.enc).length)),rp 4 (oO (Eq.refl ([1].map e_i64).length)),rp 6 (oO (Eq.refl ([Qye,Qyf].map e_str).length)),rp 4 (oO (Eq.refl ([(Qav.mk 0 1 0 0 [(Qan.mk 0 10)] []),(Qav.mk 1 0 0 0 [(Qan.mk 0 10)] [])].map Qav.enc).length)),rp 4 (oO (Eq.refl ([(Qal.mk Qyh 1 0 0 [1] 0 0 5 100 100 0 0 0 0)].map Qal.enc).length)),rp 4 (oO (Eq.refl ([(Qak.mk Qyg [1] (Qat.mk (-1) 0 0 0) (Qat.mk 1 30 40 2) 0 (-1) 1 (-1) (-1) false)].map Qak.enc).length)),rp 3 (oO (Eq.refl ([(Qac.mk 0 true)].map Qac.enc).length))]
theorem Qcp {rv:Bool} (h:QbI = some rv):AFn Tryz.prog 10 [] [] (one (.bool rv)) []:=by
 refine QaS Tryz.func10 (by kernel_rfl) (by kernel_rfl) (fun Γ=>?_)
 unfold QbI at h
 obtain ⟨r,h0,h⟩:=Qae h
 obtain ⟨r1,h1,h⟩:=Qae h
 obtain ⟨r2,h2,h⟩:=Qae h
 obtain ⟨r3,h3,h⟩:=Qae h
 obtain ⟨r4,h4,h⟩:=Qae h
 obtain ⟨r5,h5,h⟩:=Qae h
 rcases Qai h with ⟨h6,h⟩|⟨h6,h⟩
 ·obtain rfl:=Option.some.inj h
  exact gr 22 [] [cC (Qdx h0),cC (Qbl h1),cC (Qbl h2),hW 16,hH (.frz 2),hH (.nilS 35 1 1),rp 4 (oO (Eq.refl ([r.2].map Qab.enc).length)),cC (QaT h3),hW 9,hH (.nilS 41 1 1),cC (QaT h4),cC (Qbl h5),rp 20 hP,oI ((neI r1.2 0) = false),oR True ((neI r1.2 0) = false),oI (((neI r1.2 0) || (neI r2.2 0)) = false),oR True (((neI r1.2 0) || (neI r2.2 0)) = false),oI ((((neI r1.2 0) || (neI r2.2 0)) || (neI r3.2 0)) = false),oR True ((((neI r1.2 0) || (neI r2.2 0)) || (neI r3.2 0)) = false),oI (((((neI r1.2 0) || (neI r2.2 0)) || (neI r3.2 0)) || (neI r4.2 0)) = false),oR True (((((neI r1.2 0) || (neI r2.2 0)) || (neI r3.2 0)) || (neI r4.2 0)) = false),oI ((((((neI r1.2 0) || (neI r2.2 0)) || (neI r3.2 0)) || (neI r4.2 0)) || (neI r5.2 2)) = false),oR True ((((((neI r1.2 0) || (neI r2.2 0)) || (neI r3.2 0)) || (neI r4.2 0)) || (neI r5.2 2)) = false),oI (((((((neI r1.2 0) || (neI r2.2 0)) || (neI r3.2 0)) || (neI r4.2 0)) || (neI r5.2 2)) || (neI r1.1 0)) = false),oR True (((((((neI r1.2 0) || (neI r2.2 0)) || (neI r3.2 0)) || (neI r4.2 0)) || (neI r5.2 2)) || (neI r1.1 0)) = false),oI ((((((((neI r1.2 0) || (neI r2.2 0)) || (neI r3.2 0)) || (neI r4.2 0)) || (neI r5.2 2)) || (neI r1.1 0)) || (neI r2.1 1)) = false),nL Qab.enc r3.1,rp 4 hP,oI ((((((((neI r1.2 0) || (neI r2.2 0)) || (neI r3.2 0)) || (neI r4.2 0)) || (neI r5.2 2)) || (neI r1.1 0)) || (neI r2.1 1)) = false),oR True ((((((((neI r1.2 0) || (neI r2.2 0)) || (neI r3.2 0)) || (neI r4.2 0)) || (neI r5.2 2)) || (neI r1.1 0)) || (neI r2.1 1)) = false),oI (((((((((neI r1.2 0) || (neI r2.2 0)) || (neI r3.2 0)) || (neI r4.2 0)) || (neI r5.2 2)) || (neI r1.1 0)) || (neI r2.1 1)) || (neI (lenI r3.1) 1)) = false),nL Qab.enc r4.1,hP,hP,oI (((((((((neI r1.2 0) || (neI r2.2 0)) || (neI r3.2 0)) || (neI r4.2 0)) || (neI r5.2 2)) || (neI r1.1 0)) || (neI r2.1 1)) || (neI (lenI r3.1) 1)) = false),oR True (((((((((neI r1.2 0) || (neI r2.2 0)) || (neI r3.2 0)) || (neI r4.2 0)) || (neI r5.2 2)) || (neI r1.1 0)) || (neI r2.1 1)) || (neI (lenI r3.1) 1)) = false),bT h6]
 ·obtain ⟨x0,h7,h⟩:=Qae h
  rcases Qai h with ⟨h8,h⟩|⟨h8,h⟩
  ·obtain ⟨x1,h9,h⟩:=Qae h
   rcases Qai h with ⟨h10,h⟩|⟨h10,h⟩
   ·obtain ⟨r6,h11,h⟩:=Qae h
    rcases Qai h with ⟨h12,h⟩|⟨h12,h⟩
    ·obtain ⟨r7,h13,h⟩:=Qae h
     rcases Qai h with ⟨h14,h⟩|⟨h14,h⟩
     ·obtain ⟨r8,h15,h⟩:=Qae h
      obtain rfl:=Option.some.inj h
      exact gr 23 [] [cC (Qdx h0),cC (Qbl h1),cC (Qbl h2),hW 16,hH (.frz 2),hH (.nilS 35 1 1),rp 4 (oO (Eq.refl ([r.2].map Qab.enc).length)),cC (QaT h3),hW 9,hH (.nilS 41 1 1),cC (QaT h4),cC (Qbl h5),rp 20 hP,oI ((neI r1.2 0) = false),oR True ((neI r1.2 0) = false),oI (((neI r1.2 0) || (neI r2.2 0)) = false),oR True (((neI r1.2 0) || (neI r2.2 0)) = false),oI ((((neI r1.2 0) || (neI r2.2 0)) || (neI r3.2 0)) = false),oR True ((((neI r1.2 0) || (neI r2.2 0)) || (neI r3.2 0)) = false),oI (((((neI r1.2 0) || (neI r2.2 0)) || (neI r3.2 0)) || (neI r4.2 0)) = false),oR True (((((neI r1.2 0) || (neI r2.2 0)) || (neI r3.2 0)) || (neI r4.2 0)) = false),oI ((((((neI r1.2 0) || (neI r2.2 0)) || (neI r3.2 0)) || (neI r4.2 0)) || (neI r5.2 2)) = false),oR True ((((((neI r1.2 0) || (neI r2.2 0)) || (neI r3.2 0)) || (neI r4.2 0)) || (neI r5.2 2)) = false),oI (((((((neI r1.2 0) || (neI r2.2 0)) || (neI r3.2 0)) || (neI r4.2 0)) || (neI r5.2 2)) || (neI r1.1 0)) = false),oR True (((((((neI r1.2 0) || (neI r2.2 0)) || (neI r3.2 0)) || (neI r4.2 0)) || (neI r5.2 2)) || (neI r1.1 0)) = false),oI ((((((((neI r1.2 0) || (neI r2.2 0)) || (neI r3.2 0)) || (neI r4.2 0)) || (neI r5.2 2)) || (neI r1.1 0)) || (neI r2.1 1)) = false),nL Qab.enc r3.1,rp 4 hP,oI ((((((((neI r1.2 0) || (neI r2.2 0)) || (neI r3.2 0)) || (neI r4.2 0)) || (neI r5.2 2)) || (neI r1.1 0)) || (neI r2.1 1)) = false),oR True ((((((((neI r1.2 0) || (neI r2.2 0)) || (neI r3.2 0)) || (neI r4.2 0)) || (neI r5.2 2)) || (neI r1.1 0)) || (neI r2.1 1)) = false),oI (((((((((neI r1.2 0) || (neI r2.2 0)) || (neI r3.2 0)) || (neI r4.2 0)) || (neI r5.2 2)) || (neI r1.1 0)) || (neI r2.1 1)) || (neI (lenI r3.1) 1)) = false),nL Qab.enc r4.1,hP,hP,oI (((((((((neI r1.2 0) || (neI r2.2 0)) || (neI r3.2 0)) || (neI r4.2 0)) || (neI r5.2 2)) || (neI r1.1 0)) || (neI r2.1 1)) || (neI (lenI r3.1) 1)) = false),oR True (((((((((neI r1.2 0) || (neI r2.2 0)) || (neI r3.2 0)) || (neI r4.2 0)) || (neI r5.2 2)) || (neI r1.1 0)) || (neI r2.1 1)) || (neI (lenI r3.1) 1)) = false),bF h6,cE Qab.enc h7,nL Qa5 x0.rests,bT h8,bT h8,cE Qab.enc h9,rp 3 (bT h8),nL Qa5 x1.rests,bT h8,bT h8,rp 2 (bT h10),hH (.nilS 102 1 1),bT h10,cC (Qc9 h11),rp 2 (bT h10),rp 3 (bT h12),hH (.nilS 109 1 1),bT h12,cC (Qc9 h13),rp 2 (bT h12),rp 2 (bT h14),cC (QmA h15),rp 2 (bT h14)]
     ·obtain rfl:=Option.some.inj h
      exact gr 23 [] [cC (Qdx h0),cC (Qbl h1),cC (Qbl h2),hW 16,hH (.frz 2),hH (.nilS 35 1 1),rp 4 (oO (Eq.refl ([r.2].map Qab.enc).length)),cC (QaT h3),hW 9,hH (.nilS 41 1 1),cC (QaT h4),cC (Qbl h5),rp 20 hP,oI ((neI r1.2 0) = false),oR True ((neI r1.2 0) = false),oI (((neI r1.2 0) || (neI r2.2 0)) = false),oR True (((neI r1.2 0) || (neI r2.2 0)) = false),oI ((((neI r1.2 0) || (neI r2.2 0)) || (neI r3.2 0)) = false),oR True ((((neI r1.2 0) || (neI r2.2 0)) || (neI r3.2 0)) = false),oI (((((neI r1.2 0) || (neI r2.2 0)) || (neI r3.2 0)) || (neI r4.2 0)) = false),oR True (((((neI r1.2 0) || (neI r2.2 0)) || (neI r3.2 0)) || (neI r4.2 0)) = false),oI ((((((neI r1.2 0) || (neI r2.2 0)) || (neI r3.2 0)) || (neI r4.2 0)) || (neI r5.2 2)) = false),oR True ((((((neI r1.2 0) || (neI r2.2 0)) || (neI r3.2 0)) || (neI r4.2 0)) || (neI r5.2 2)) = false),oI (((((((neI r1.2 0) || (neI r2.2 0)) || (neI r3.2 0)) || (neI r4.2 0)) || (neI r5.2 2)) || (neI r1.1 0)) = false),oR True (((((((neI r1.2 0) || (neI r2.2 0)) || (neI r3.2 0)) || (neI r4.2 0)) || (neI r5.2 2)) || (neI r1.1 0)) = false),oI ((((((((neI r1.2 0) || (neI r2.2 0)) || (neI r3.2 0)) || (neI r4.2 0)) || (neI r5.2 2)) || (neI r1.1 0)) || (neI r2.1 1)) = false),nL Qab.enc r3.1,rp 4 hP,oI ((((((((neI r1.2 0) || (neI r2.2 0)) || (neI r3.2 0)) || (neI r4.2 0)) || (neI r5.2 2)) || (neI r1.1 0)) || (neI r2.1 1)) = false),oR True ((((((((neI r1.2 0) || (neI r2.2 0)) || (neI r3.2 0)) || (neI r4.2 0)) || (neI r5.2 2)) || (neI r1.1 0)) || (neI r2.1 1)) = false),oI (((((((((neI r1.2 0) || (neI r2.2 0)) || (neI r3.2 0)) || (neI r4.2 0)) || (neI r5.2 2)) || (neI r1.1 0)) || (neI r2.1 1)) || (neI (lenI r3.1) 1)) = false),nL Qab.enc r4.1,hP,hP,oI (((((((((neI r1.2 0) || (neI r2.2 0)) || (neI r3.2 0)) || (neI r4.2 0)) || (neI r5.2 2)) || (neI r1.1 0)) || (neI r2.1 1)) || (neI (lenI r3.1) 1)) = false),oR True (((((((((neI r1.2 0) || (neI r2.2 0)) || (neI r3.2 0)) || (neI r4.2 0)) || (neI r5.2 2)) || (neI r1.1 0)) || (neI r2.1 1)) || (neI (lenI r3.1) 1)) = false),bF h6,cE Qab.enc h7,nL Qa5 x0.rests,bT h8,bT h8,cE Qab.enc h9,rp 3 (bT h8),nL Qa5 x1.rests,bT h8,bT h8,rp 2 (bT h10),hH (.nilS 102 1 1),bT h10,cC (Qc9 h11),rp 2 (bT h10),rp 3 (bT h12),hH (.nilS 109 1 1),bT h12,cC (Qc9 h13),rp 2 (bT h12),rp 4 (bF h14)]
    ·obtain rfl:=Option.some.inj h
     exact gr 23 [] [cC (Qdx h0),cC (Qbl h1),cC (Qbl h2),hW 16,hH (.frz 2),hH (.nilS 35 1 1),rp 4 (oO (Eq.refl ([r.2].map Qab.enc).length)),cC (QaT h3),hW 9,hH (.nilS 41 1 1),cC (QaT h4),cC (Qbl h5),rp 20 hP,oI ((neI r1.2 0) = false),oR True ((neI r1.2 0) = false),oI (((neI r1.2 0) || (neI r2.2 0)) = false),oR True (((neI r1.2 0) || (neI r2.2 0)) = false),oI ((((neI r1.2 0) || (neI r2.2 0)) || (neI r3.2 0)) = false),oR True ((((neI r1.2 0) || (neI r2.2 0)) || (neI r3.2 0)) = false),oI (((((neI r1.2 0) || (neI r2.2 0)) || (neI r3.2 0)) || (neI r4.2 0)) = false),oR True (((((neI r1.2 0) || (neI r2.2 0)) || (neI r3.2 0)) || (neI r4.2 0)) = false),oI ((((((neI r1.2 0) || (neI r2.2 0)) || (neI r3.2 0)) || (neI r4.2 0)) || (neI r5.2 2)) = false),oR True ((((((neI r1.2 0) || (neI r2.2 0)) || (neI r3.2 0)) || (neI r4.2 0)) || (neI r5.2 2)) = false),oI (((((((neI r1.2 0) || (neI r2.2 0)) || (neI r3.2 0)) || (neI r4.2 0)) || (neI r5.2 2)) || (neI r1.1 0)) = false),oR True (((((((neI r1.2 0) || (neI r2.2 0)) || (neI r3.2 0)) || (neI r4.2 0)) || (neI r5.2 2)) || (neI r1.1 0)) = false),oI ((((((((neI r1.2 0) || (neI r2.2 0)) || (neI r3.2 0)) || (neI r4.2 0)) || (neI r5.2 2)) || (neI r1.1 0)) || (neI r2.1 1)) = false),nL Qab.enc r3.1,rp 4 hP,oI ((((((((neI r1.2 0) || (neI r2.2 0)) || (neI r3.2 0)) || (neI r4.2 0)) || (neI r5.2 2)) || (neI r1.1 0)) || (neI r2.1 1)) = false),oR True ((((((((neI r1.2 0) || (neI r2.2 0)) || (neI r3.2 0)) || (neI r4.2 0)) || (neI r5.2 2)) || (neI r1.1 0)) || (neI r2.1 1)) = false),oI (((((((((neI r1.2 0) || (neI r2.2 0)) || (neI r3.2 0)) || (neI r4.2 0)) || (neI r5.2 2)) || (neI r1.1 0)) || (neI r2.1 1)) || (neI (lenI r3.1) 1)) = false),nL Qab.enc r4.1,hP,hP,oI (((((((((neI r1.2 0) || (neI r2.2 0)) || (neI r3.2 0)) || (neI r4.2 0)) || (neI r5.2 2)) || (neI r1.1 0)) || (neI r2.1 1)) || (neI (lenI r3.1) 1)) = false),oR True (((((((((neI r1.2 0) || (neI r2.2 0)) || (neI r3.2 0)) || (neI r4.2 0)) || (neI r5.2 2)) || (neI r1.1 0)) || (neI r2.1 1)) || (neI (lenI r3.1) 1)) = false),bF h6,cE Qab.enc h7,nL Qa5 x0.rests,bT h8,bT h8,cE Qab.enc h9,rp 3 (bT h8),nL Qa5 x1.rests,bT h8,bT h8,rp 2 (bT h10),hH (.nilS 102 1 1),bT h10,cC (Qc9 h11),rp 2 (bT h10),rp 6 (bF h12),rp 4 fF]
   ·obtain rfl:=Option.some.inj h
    exact gr 23 [] [cC (Qdx h0),cC (Qbl h1),cC (Qbl h2),hW 16,hH (.frz 2),hH (.nilS 35 1 1),rp 4 (oO (Eq.refl ([r.2].map Qab.enc).length)),cC (QaT h3),hW 9,hH (.nilS 41 1 1),cC (QaT h4),cC (Qbl h5),rp 20 hP,oI ((neI r1.2 0) = false),oR True ((neI r1.2 0) = false),oI (((neI r1.2 0) || (neI r2.2 0)) = false),oR True (((neI r1.2 0) || (neI r2.2 0)) = false),oI ((((neI r1.2 0) || (neI r2.2 0)) || (neI r3.2 0)) = false),oR True ((((neI r1.2 0) || (neI r2.2 0)) || (neI r3.2 0)) = false),oI (((((neI r1.2 0) || (neI r2.2 0)) || (neI r3.2 0)) || (neI r4.2 0)) = false),oR True (((((neI r1.2 0) || (neI r2.2 0)) || (neI r3.2 0)) || (neI r4.2 0)) = false),oI ((((((neI r1.2 0) || (neI r2.2 0)) || (neI r3.2 0)) || (neI r4.2 0)) || (neI r5.2 2)) = false),oR True ((((((neI r1.2 0) || (neI r2.2 0)) || (neI r3.2 0)) || (neI r4.2 0)) || (neI r5.2 2)) = false),oI (((((((neI r1.2 0) || (neI r2.2 0)) || (neI r3.2 0)) || (neI r4.2 0)) || (neI r5.2 2)) || (neI r1.1 0)) = false),oR True (((((((neI r1.2 0) || (neI r2.2 0)) || (neI r3.2 0)) || (neI r4.2 0)) || (neI r5.2 2)) || (neI r1.1 0)) = false),oI ((((((((neI r1.2 0) || (neI r2.2 0)) || (neI r3.2 0)) || (neI r4.2 0)) || (neI r5.2 2)) || (neI r1.1 0)) || (neI r2.1 1)) = false),nL Qab.enc r3.1,rp 4 hP,oI ((((((((neI r1.2 0) || (neI r2.2 0)) || (neI r3.2 0)) || (neI r4.2 0)) || (neI r5.2 2)) || (neI r1.1 0)) || (neI r2.1 1)) = false),oR True ((((((((neI r1.2 0) || (neI r2.2 0)) || (neI r3.2 0)) || (neI r4.2 0)) || (neI r5.2 2)) || (neI r1.1 0)) || (neI r2.1 1)) = false),oI (((((((((neI r1.2 0) || (neI r2.2 0)) || (neI r3.2 0)) || (neI r4.2 0)) || (neI r5.2 2)) || (neI r1.1 0)) || (neI r2.1 1)) || (neI (lenI r3.1) 1)) = false),nL Qab.enc r4.1,hP,hP,oI (((((((((neI r1.2 0) || (neI r2.2 0)) || (neI r3.2 0)) || (neI r4.2 0)) || (neI r5.2 2)) || (neI r1.1 0)) || (neI r2.1 1)) || (neI (lenI r3.1) 1)) = false),oR True (((((((((neI r1.2 0) || (neI r2.2 0)) || (neI r3.2 0)) || (neI r4.2 0)) || (neI r5.2 2)) || (neI r1.1 0)) || (neI r2.1 1)) || (neI (lenI r3.1) 1)) = false),bF h6,cE Qab.enc h7,nL Qa5 x0.rests,bT h8,bT h8,cE Qab.enc h9,rp 3 (bT h8),nL Qa5 x1.rests,bT h8,bT h8,rp 5 (bF h10),rp 10 fF]
  ·obtain rfl:=Option.some.inj h
   exact gr 23 [] [cC (Qdx h0),cC (Qbl h1),cC (Qbl h2),hW 16,hH (.frz 2),hH (.nilS 35 1 1),rp 4 (oO (Eq.refl ([r.2].map Qab.enc).length)),cC (QaT h3),hW 9,hH (.nilS 41 1 1),cC (QaT h4),cC (Qbl h5),rp 20 hP,oI ((neI r1.2 0) = false),oR True ((neI r1.2 0) = false),oI (((neI r1.2 0) || (neI r2.2 0)) = false),oR True (((neI r1.2 0) || (neI r2.2 0)) = false),oI ((((neI r1.2 0) || (neI r2.2 0)) || (neI r3.2 0)) = false),oR True ((((neI r1.2 0) || (neI r2.2 0)) || (neI r3.2 0)) = false),oI (((((neI r1.2 0) || (neI r2.2 0)) || (neI r3.2 0)) || (neI r4.2 0)) = false),oR True (((((neI r1.2 0) || (neI r2.2 0)) || (neI r3.2 0)) || (neI r4.2 0)) = false),oI ((((((neI r1.2 0) || (neI r2.2 0)) || (neI r3.2 0)) || (neI r4.2 0)) || (neI r5.2 2)) = false),oR True ((((((neI r1.2 0) || (neI r2.2 0)) || (neI r3.2 0)) || (neI r4.2 0)) || (neI r5.2 2)) = false),oI (((((((neI r1.2 0) || (neI r2.2 0)) || (neI r3.2 0)) || (neI r4.2 0)) || (neI r5.2 2)) || (neI r1.1 0)) = false),oR True (((((((neI r1.2 0) || (neI r2.2 0)) || (neI r3.2 0)) || (neI r4.2 0)) || (neI r5.2 2)) || (neI r1.1 0)) = false),oI ((((((((neI r1.2 0) || (neI r2.2 0)) || (neI r3.2 0)) || (neI r4.2 0)) || (neI r5.2 2)) || (neI r1.1 0)) || (neI r2.1 1)) = false),nL Qab.enc r3.1,rp 4 hP,oI ((((((((neI r1.2 0) || (neI r2.2 0)) || (neI r3.2 0)) || (neI r4.2 0)) || (neI r5.2 2)) || (neI r1.1 0)) || (neI r2.1 1)) = false),oR True ((((((((neI r1.2 0) || (neI r2.2 0)) || (neI r3.2 0)) || (neI r4.2 0)) || (neI r5.2 2)) || (neI r1.1 0)) || (neI r2.1 1)) = false),oI (((((((((neI r1.2 0) || (neI r2.2 0)) || (neI r3.2 0)) || (neI r4.2 0)) || (neI r5.2 2)) || (neI r1.1 0)) || (neI r2.1 1)) || (neI (lenI r3.1) 1)) = false),nL Qab.enc r4.1,hP,hP,oI (((((((((neI r1.2 0) || (neI r2.2 0)) || (neI r3.2 0)) || (neI r4.2 0)) || (neI r5.2 2)) || (neI r1.1 0)) || (neI r2.1 1)) || (neI (lenI r3.1) 1)) = false),oR True (((((((((neI r1.2 0) || (neI r2.2 0)) || (neI r3.2 0)) || (neI r4.2 0)) || (neI r5.2 2)) || (neI r1.1 0)) || (neI r2.1 1)) || (neI (lenI r3.1) 1)) = false),bF h6,cE Qab.enc h7,nL Qa5 x0.rests,rp 7 (bF h8),rp 15 fF]
end Go.Proofs.YtoogjnlmicgfiaaGreatDoor
