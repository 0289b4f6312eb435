/- Part MU of the proof: texts W0. -/
import Derived.Test.YtoogjnlmicgfiaaGreatDoorMT
import Derived.Test.YtoogjnlmicgfiaaGreatDoorMC
import Derived.Test.YtoogjnlmicgfiaaGreatDoorProg
namespace Go.Proofs.YtoogjnlmicgfiaaGreatDoor
set_option linter.unusedVariables false
set_option linter.unusedSectionVars false
set_option linter.unusedSimpArgs false
set_option maxHeartbeats 4000000
set_option maxRecDepth 100000
def Qji (Γ:Gam) (rv:List Qaa) (cf:Cf):Prop:=Go Tryz.prog Tryz.f44 [] Γ (one (lL 2 rv Qaa.enc)) [] cf
def Qhx (Γ:Gam) (rv:List Qaa) (word:ByteArray) (l:List Qaa) (l1:List Qaa) (i:Int):Prop:=Qji Γ rv ⟨[.c 116,.l 116,.b 0,.c 15],⟨40,[vS 0 word,vL 1 2 l Qaa.enc,vO 5 0 2 l1 Qaa.enc,vI 6 i],[oS 2 144 l1 Qaa.enc]⟩⟩
def QgY (Γ:Gam) (rv:List Qaa) (word:ByteArray) (l:List Qaa) (l2:List Qaa):Prop:=Qji Γ rv ⟨[.c 15],⟨40,[vO 5 0 2 l2 Qaa.enc],[oS 2 144 l2 Qaa.enc]⟩⟩
theorem Qj3 (Γ:Gam) (rv:List Qaa) {word l l1 i at_} {x:(List Qaa × Int) ⊕ (List Qaa)} (h:Qfh word l l1 i at_ = some x) (hI:∀ s:List Qaa × Int,x = .inl s→Qhx Γ rv word l s.1 s.2) (hE:∀ e:List Qaa,x = .inr e→QgY Γ rv word l e):Qji Γ rv ⟨[.c 3731,.b 1,.c 467,.l 116,.b 0,.c 15],⟨40,[vS 0 word,vL 1 2 l Qaa.enc,vO 5 0 2 l1 Qaa.enc,vI 6 i,vS 7 at_],[oS 2 144 l1 Qaa.enc]⟩⟩:=by
 unfold Qfh at h
 obtain ⟨x1,h5,h⟩:=Qae h
 obtain ⟨h6,h⟩:=Qas h
 exact gn 4 [0,1,5,6] [2] [cE Qaa.enc h5,oO (Eq.refl ([(Qaa.mk x1.err at_)].map Qaa.enc).length),aO Qaa.enc h6] (hI _ (oJ h))
theorem Qpb (Γ:Gam) (rv:List Qaa) {word l} {s:List Qaa × Int} {e:List Qaa} (h:loopF (fun s=>Qef word l s.1 s.2) s = some e) (hD:QgY Γ rv word l e):Qhx Γ rv word l s.1 s.2:=by
 refine QaD (C:=fun (s:List Qaa × Int)=>Qhx Γ rv word l s.1 s.2) (D:=fun (e:List Qaa)=>QgY Γ rv word l e) ?_ h hD
 clear h hD s e
 rintro ⟨l1,i⟩ z_ h hI hE
 replace h:Qef word l l1 i = _:=h
 unfold Qef at h
 rcases Qag h with ⟨h0,h⟩|⟨h0,h⟩
 ·obtain ⟨x0,h1,h⟩:=Qae h
  rcases Qag h with ⟨h2,h⟩|⟨h2,h⟩
  ·exact gn 14 [0,1,5,6,7] [0] [nL Qaa.enc l,bT h0,cE Qaa.enc h1,nF h2] (Qj3 Γ rv h hI hE)
  ·obtain ⟨h3,h⟩:=Qas h
   obtain ⟨h4,h⟩:=Qas h
   exact gn 14 [0,1,5,6,7] [0] [nL Qaa.enc l,bT h0,cE Qaa.enc h1,nT h2,oO (h3),cE Qaa.enc h1,oO (h4)] (Qj3 Γ rv h hI hE)
 ·exact gn 5 [5] [0] [nL Qaa.enc l,bF h0] (hE _ (oJ h))
theorem QiC {word l} {rv:List Qaa} (h:QfM word l = some rv):AFn Tryz.prog 44 [.one (.str word),.one (lL 2 l Qaa.enc)] [] (one (lL 2 rv Qaa.enc)) []:=by
 refine QaL Tryz.func44 (by kernel_rfl) (by kernel_rfl) (fun Γ=>?_)
 unfold QfM at h
 obtain ⟨e0,h7,h⟩:=Qae h
 refine gn 9 [0,1,5,6] [0] [hW 12,hH (.adopt 5 2 144)] (Qpb Γ rv h7 ?_)
 obtain ⟨l2,rfl⟩:∃ x,x = e0:=⟨_,rfl⟩
 replace h:(some l2:Option (List Qaa)) = some _:=h
 obtain rfl:=Option.some.inj h
 exact gr 2 [] [hW 4,hH (.frz 0),rp 3 (eL l2 Qaa.enc)]
def Qh2 (Γ:Gam) (rv:ByteArray) (cf:Cf):Prop:=Go Tryz.prog Tryz.f87 [] Γ (one (.str rv)) [] cf
def Qgw (Γ:Gam) (rv:ByteArray) (n:Int) (s0:ByteArray) (left:Int) (again:Bool):Prop:=Qh2 Γ rv ⟨[.c 244,.l 244,.b 0,.c 31],⟨31,[vI 0 n,vS 3 s0,vI 4 left,vB 5 again],[]⟩⟩
def Qf1 (Γ:Gam) (rv:ByteArray) (n:Int) (s1:ByteArray):Prop:=Qh2 Γ rv ⟨[.c 31],⟨31,[vI 0 n,vS 3 s1],[]⟩⟩
theorem Qit (Γ:Gam) (rv:ByteArray) {n s0 left d} {x:(ByteArray × Int × Bool) ⊕ (ByteArray)} (h:Qdn n s0 left d = some x) (hI:∀ s:ByteArray × Int × Bool,x = .inl s→Qgw Γ rv n s.1 s.2.1 s.2.2) (hE:∀ e:ByteArray,x = .inr e→Qf1 Γ rv n e):Qh2 Γ rv ⟨[.c 7827,.b 1,.c 979,.l 244,.b 0,.c 31],⟨31,[vI 0 n,vS 3 s0,vI 4 left,vI 6 d],[]⟩⟩:=by
 unfold Qdn at h
 obtain ⟨h2,h⟩:=Qas h
 exact gn 6 [0,3,4,5] [] [hH (.ints [(cvK .u8 (addK .i64 48 d))]),oO (Eq.refl ([(cvK .u8 (addK .i64 48 d))].map e_u8).length),oO (Eq.refl (([(cvK .u8 (addK .i64 48 d))].map e_u8):List (List Lf))),oO (h2),oO (oA (n:=10))] (hI _ (oJ h))
theorem QnV (Γ:Gam) (rv:ByteArray) {n} {s:ByteArray × Int × Bool} {e:ByteArray} (h:loopF (fun s=>Qfz n s.1 s.2.1 s.2.2) s = some e) (hD:Qf1 Γ rv n e):Qgw Γ rv n s.1 s.2.1 s.2.2:=by
 refine QaD (C:=fun (s:ByteArray × Int × Bool)=>Qgw Γ rv n s.1 s.2.1 s.2.2) (D:=fun (e:ByteArray)=>Qf1 Γ rv n e) ?_ h hD
 clear h hD s e
 rintro ⟨s0,left,again⟩ z_ h hI hE
 replace h:Qfz n s0 left again = _:=h
 unfold Qfz at h
 rcases Qag h with ⟨h0,h⟩|⟨h0,h⟩
 ·rcases Qag h with ⟨h1,h⟩|⟨h1,h⟩
  ·exact gn 14 [0,3,4,6] [] [bT h0,oO (oA (n:=10)),bT h1] (Qit Γ rv h hI hE)
  ·exact gn 14 [0,3,4,6] [] [bT h0,oO (oA (n:=10)),bF h1] (Qit Γ rv h hI hE)
 ·exact gn 5 [0,3] [] [bF h0] (hE _ (oJ h))
theorem QbP {n} {rv:ByteArray} (h:QbS n = some rv):AFn Tryz.prog 87 [.one (lI n)] [] (one (.str rv)) []:=by
 refine QaL Tryz.func87 (by kernel_rfl) (by kernel_rfl) (fun Γ=>?_)
 unfold QbS at h
 obtain ⟨e0,h3,h⟩:=Qae h
 refine gn 11 [0,3,4,5] [] [] (QnV Γ rv h3 ?_)
 obtain ⟨s1,rfl⟩:∃ x,x = e0:=⟨_,rfl⟩
 replace h:(br (ltI n 0) (chk (Qt1.size + s1.size ≤ 9223372036854775807) (some (catS Qt1 s1))) (some s1):Option ByteArray) = some _:=h
 rcases Qag h with ⟨h4,h⟩|⟨h4,h⟩
 ·obtain ⟨h5,h⟩:=Qas h
  obtain rfl:=Option.some.inj h
  exact gr 6 [] [bT h4,oO (h5)]
 ·obtain rfl:=Option.some.inj h
  exact gr 7 [] [bF h4]
theorem QgA {c} {rv:Bool} (h:Qiu c = some rv):AFn Tryz.prog 153 [.one (.int .u8 c)] [] (one (.bool rv)) []:=by
 refine QaL Tryz.func153 (by kernel_rfl) (by kernel_rfl) (fun Γ=>?_)
 unfold Qiu at h
 obtain rfl:=Option.some.inj h
 exact gr 4 [] [hP,hP,hP,oI ((geI c 48) = true),oR True ((geI c 48) = true)]
theorem Qh3 {c} {rv:Bool} (h:Qkx c = some rv):AFn Tryz.prog 154 [.one (.int .u8 c)] [] (one (.bool rv)) []:=by
 refine QaL Tryz.func154 (by kernel_rfl) (by kernel_rfl) (fun Γ=>?_)
 unfold Qkx at h
 obtain rfl:=Option.some.inj h
 exact gr 4 [] [rp 14 hP,oI ((geI c 97) = true),oR True ((geI c 97) = true),rp 2 (oI (((geI c 97) && (leI c 122)) = false)),oI ((((geI c 97) && (leI c 122)) = false)∧(geI c 65) = true),oI (((geI c 97) && (leI c 122)) = false),oI ((((geI c 97) && (leI c 122)) = false)∧(geI c 65) = true),oR True (((geI c 97) && (leI c 122)) = false),oI ((((geI c 97) && (leI c 122)) || ((geI c 65) && (leI c 90))) = false),oR True ((((geI c 97) && (leI c 122)) || ((geI c 65) && (leI c 90))) = false)]
def Qod (Γ:Gam) (rv:Bool) (cf:Cf):Prop:=Go Tryz.prog Tryz.f128 [] Γ (one (.bool rv)) [] cf
def QlP (Γ:Gam) (rv:Bool) (s0:ByteArray) (b:UInt8) (i:Int):Prop:=Qod Γ rv ⟨[.c 116,.l 116,.b 0,.c 15],⟨35,[vS 0 s0,vI 3 i],[]⟩⟩
def QkQ (Γ:Gam) (rv:Bool) (s0:ByteArray) (b:UInt8):Prop:=Qod Γ rv ⟨[.c 15],⟨35,[],[]⟩⟩
theorem QpT (Γ:Gam) (rv:Bool) {s0 b} {s:Int} {e:(Unit) ⊕ (Bool)} (h:loopF (fun s=>QeB s0 b s) s = some e) (hD:sel e (fun e=>QkQ Γ rv s0 b) (fun e=>e = rv)):QlP Γ rv s0 b s:=by
 refine QaD (C:=fun (s:Int)=>QlP Γ rv s0 b s) (D:=fun (e:(Unit) ⊕ (Bool))=>sel e (fun e=>QkQ Γ rv s0 b) (fun e=>e = rv)) ?_ h hD
 clear h hD s e
 intro i z_ h hI hE
 replace h:QeB s0 b i = _:=h
 unfold QeB at h
 rcases Qag h with ⟨h4,h⟩|⟨h4,h⟩
 ·obtain ⟨b1,h5,h⟩:=Qae h
  obtain ⟨r1,h6,h⟩:=Qae h
  rcases Qag h with ⟨h7,h⟩|⟨h7,h⟩
  ·exact gn 14 [0,3] [] [bT h4,yE h5,cC (Qh3 h6),rp 6 (nF h7),fF] (hI _ (oJ h))
  ·obtain ⟨r2,h8,h⟩:=Qae h
   rcases Qag h with ⟨h9,h⟩|⟨h9,h⟩
   ·exact gn 14 [0,3] [] [bT h4,yE h5,cC (Qh3 h6),rp 3 (nT h7),yE h5,nT h7,cC (QgA h8),nT h7,nT h7,nF h9] (hI _ (oJ h))
   ·obtain rfl:=(hE _ (oJ h):_ = rv)
    exact gr 12 [] [bT h4,yE h5,cC (Qh3 h6),rp 3 (nT h7),yE h5,nT h7,cC (QgA h8),nT h7,nT h7,nT h9]
 ·exact gn 5 [] [] [bF h4] (hE _ (oJ h))
theorem QeC {s0} {rv:Bool} (h:Qfs s0 = some rv):AFn Tryz.prog 128 [.one (.str s0)] [] (one (.bool rv)) []:=by
 refine QaL Tryz.func128 (by kernel_rfl) (by kernel_rfl) (fun Γ=>?_)
 unfold Qfs at h
 rcases Qag h with ⟨h0,h⟩|⟨h0,h⟩
 ·obtain rfl:=Option.some.inj h
  exact gr 8 [] [rp 4 hP,rp 2 (oI ((ltI (sizeS s0) 1) = false)),oR True ((ltI (sizeS s0) 1) = false),rp 4 (bT h0),tT]
 ·obtain ⟨b,h1,h⟩:=Qae h
  obtain ⟨r,h2,h⟩:=Qae h
  rcases Qag h with ⟨h3,h⟩|⟨h3,h⟩
  ·obtain rfl:=Option.some.inj h
   exact gr 8 [] [rp 4 hP,rp 2 (oI ((ltI (sizeS s0) 1) = false)),oR True ((ltI (sizeS s0) 1) = false),bF h0,bF h0,yE h1,bF h0,cC (QgA h2),bF h0,bT h3]
  ·obtain ⟨e0,h10,h⟩:=Qae h
   refine gn 12 [0,3] [] [rp 4 hP,rp 2 (oI ((ltI (sizeS s0) 1) = false)),oR True ((ltI (sizeS s0) 1) = false),bF h0,bF h0,yE h1,bF h0,cC (QgA h2),bF h0,bF h3] (QpT Γ rv h10 ?_)
   rcases e0 with e0|e0
   ·replace h:(some true:Option Bool) = some _:=h
    obtain rfl:=Option.some.inj h
    exact gr 2 [] []
   ·obtain ⟨r3,rfl⟩:∃ x,x = e0:=⟨_,rfl⟩
    replace h:(some r3:Option Bool) = some _:=h
    exact Option.some.inj h
def Qhd (Γ:Gam) (rv:List Qaa) (cf:Cf):Prop:=Go Tryz.prog Tryz.f129 [] Γ (one (lL 2 rv Qaa.enc)) [] cf
def Qhv (Γ:Gam) (rv:List Qaa) (l:List Qan) (l2:List Qaa) (i:Int):Prop:=Qhd Γ rv ⟨[.c 244,.l 244,.b 0,.c 31],⟨88,[vL 0 2 l Qan.enc,vO 3 0 2 l2 Qaa.enc,vI 4 i],[oS 2 144 l2 Qaa.enc]⟩⟩
def QgP (Γ:Gam) (rv:List Qaa) (l:List Qan) (l4:List Qaa):Prop:=Qhd Γ rv ⟨[.c 31],⟨88,[vO 3 0 2 l4 Qaa.enc],[oS 2 144 l4 Qaa.enc]⟩⟩
theorem Qjx (Γ:Gam) (rv:List Qaa) {l i x0 l3} {x:(List Qaa × Int) ⊕ (List Qaa)} (h:Qd0 l i x0 l3 = some x) (hI:∀ s:List Qaa × Int,x = .inl s→Qhv Γ rv l s.1 s.2) (hE:∀ e:List Qaa,x = .inr e→QgP Γ rv l e):Qhd Γ rv ⟨[.c 7827,.b 1,.c 979,.l 244,.b 0,.c 31],⟨88,[vL 0 2 l Qan.enc,vO 3 0 2 l3 Qaa.enc,vI 4 i,vP 5 1 2],[oS 2 144 l3 Qaa.enc,oX 2 96 (Qan.enc x0)]⟩⟩:=by
 unfold Qd0 at h
 rcases Qag h with ⟨h7,h⟩|⟨h7,h⟩
 ·obtain ⟨x1,h8,h⟩:=Qae h
  rcases Qag h with ⟨h9,h⟩|⟨h9,h⟩
  ·obtain ⟨r1,h10,h⟩:=Qae h
   obtain ⟨h11,h⟩:=Qas h
   exact gn 7 [0,3,4] [3] [hH (.draw 24 []),rp 6 (bT h7),cE Qan.enc h8,rp 4 (bT h7),rp 9 (bT h9),bT h7,bT h9,bT h7,tT,cC (QbP h10),oO (Eq.refl ([(Qaa.mk 13 r1)].map Qaa.enc).length),aO Qaa.enc h11] (hI _ (oJ h))
  ·rcases Qag h with ⟨h12,h⟩|⟨h12,h⟩
   ·obtain ⟨r2,h13,h⟩:=Qae h
    obtain ⟨h14,h⟩:=Qas h
    exact gn 7 [0,3,4] [3] [hH (.draw 24 []),rp 6 (bT h7),cE Qan.enc h8,rp 4 (bT h7),rp 6 (bF h9),cE Qan.enc h8,rp 3 (bF h9),bT h7,bF h9,bT h7,bT h12,cC (QbP h13),oO (Eq.refl ([(Qaa.mk 13 r2)].map Qaa.enc).length),aO Qaa.enc h14] (hI _ (oJ h))
   ·exact gn 7 [0,3,4] [0] [hH (.draw 24 []),rp 6 (bT h7),cE Qan.enc h8,rp 4 (bT h7),rp 6 (bF h9),cE Qan.enc h8,rp 3 (bF h9),bT h7,bF h9,bT h7,bF h12] (hI _ (oJ h))
 ·exact gn 7 [0,3,4] [0] [hH (.draw 24 []),rp 10 (bF h7),rp 9 kF,bF h7,bF h7,fF] (hI _ (oJ h))
theorem Qo2 (Γ:Gam) (rv:List Qaa) {l} {s:List Qaa × Int} {e:List Qaa} (h:loopF (fun s=>Qdh l s.1 s.2) s = some e) (hD:QgP Γ rv l e):Qhv Γ rv l s.1 s.2:=by
 refine QaD (C:=fun (s:List Qaa × Int)=>Qhv Γ rv l s.1 s.2) (D:=fun (e:List Qaa)=>QgP Γ rv l e) ?_ h hD
 clear h hD s e
 rintro ⟨l2,i⟩ z_ h hI hE
 replace h:Qdh l l2 i = _:=h
 unfold Qdh at h
 rcases Qag h with ⟨h2,h⟩|⟨h2,h⟩
 ·obtain ⟨x0,h3,h⟩:=Qae h
  rcases Qag h with ⟨h4,h⟩|⟨h4,h⟩
  ·obtain ⟨r,h5,h⟩:=Qae h
   obtain ⟨h6,h⟩:=Qas h
   exact gn 14 [0,3,4,5] [3,1] [nL Qan.enc l,bT h2,cE Qan.enc h3,rp 17 hP,rp 2 (oI ((ltI x0.t 0) = false)),oR True ((ltI x0.t 0) = false),rp 4 (oI (((ltI x0.t 0) || (gtI x0.t 4096)) = false)),oR True (((ltI x0.t 0) || (gtI x0.t 4096)) = false),rp 5 (oI ((((ltI x0.t 0) || (gtI x0.t 4096)) || (ltI x0.a x0.t)) = false)),oR True ((((ltI x0.t 0) || (gtI x0.t 4096)) || (ltI x0.a x0.t)) = false),bT h4,cC (QbP h5),oO (Eq.refl ([(Qaa.mk 2 r)].map Qaa.enc).length),aO Qaa.enc h6] (Qjx Γ rv h hI hE)
  ·exact gn 14 [0,3,4,5] [0,1] [nL Qan.enc l,bT h2,cE Qan.enc h3,rp 17 hP,rp 2 (oI ((ltI x0.t 0) = false)),oR True ((ltI x0.t 0) = false),rp 4 (oI (((ltI x0.t 0) || (gtI x0.t 4096)) = false)),oR True (((ltI x0.t 0) || (gtI x0.t 4096)) = false),rp 5 (oI ((((ltI x0.t 0) || (gtI x0.t 4096)) || (ltI x0.a x0.t)) = false)),oR True ((((ltI x0.t 0) || (gtI x0.t 4096)) || (ltI x0.a x0.t)) = false),bF h4] (Qjx Γ rv h hI hE)
 ·exact gn 5 [3] [0] [nL Qan.enc l,bF h2] (hE _ (oJ h))
theorem Qjw (Γ:Gam) (rv:List Qaa) {l l1} (h:Qfa l l1 = some rv):Qhd Γ rv ⟨[.c 15],⟨88,[vL 0 2 l Qan.enc,vO 3 0 2 l1 Qaa.enc],[oS 2 144 l1 Qaa.enc]⟩⟩:=by
 unfold Qfa at h
 obtain ⟨e0,h15,h⟩:=Qae h
 refine gn 5 [0,3,4] [0] [] (Qo2 Γ rv h15 ?_)
 obtain ⟨l4,rfl⟩:∃ x,x = e0:=⟨_,rfl⟩
 replace h:(some l4:Option (List Qaa)) = some _:=h
 obtain rfl:=Option.some.inj h
 exact gr 2 [] [hW 4,hH (.frz 0),rp 3 (eL l4 Qaa.enc)]
theorem Qiw {l} {rv:List Qaa} (h:QeP l = some rv):AFn Tryz.prog 129 [.one (lL 2 l Qan.enc)] [] (one (lL 2 rv Qaa.enc)) []:=by
 refine QaL Tryz.func129 (by kernel_rfl) (by kernel_rfl) (fun Γ=>?_)
 unfold QeP at h
 rcases Qag h with ⟨h0,h⟩|⟨h0,h⟩
 ·obtain ⟨h1,h⟩:=Qas h
  exact gn 9 [0,3] [1] [nL Qan.enc l,hP,hP,oI ((ltI (lenI l) 1) = false),nL Qan.enc l,hP,hP,oI ((ltI (lenI l) 1) = false),oR True ((ltI (lenI l) 1) = false),bT h0,oO (Eq.refl ([(Qaa.mk 4 ByteArray.empty)].map Qaa.enc).length),aN (l:=([(Qaa.mk 4 ByteArray.empty)]:List Qaa)) Qaa.enc h1] (Qjw Γ rv h)
 ·exact gn 9 [0,3] [0] [nL Qan.enc l,hP,hP,oI ((ltI (lenI l) 1) = false),nL Qan.enc l,hP,hP,oI ((ltI (lenI l) 1) = false),oR True ((ltI (lenI l) 1) = false),bF h0,hW 1,hH (.adopt 3 2 144)] (Qjw Γ rv h)
theorem QcM {t} {rv:Bool} (h:Qgo t = some rv):AFn Tryz.prog 130 [.one (lI t)] [] (one (.bool rv)) []:=by
 refine QaL Tryz.func130 (by kernel_rfl) (by kernel_rfl) (fun Γ=>?_)
 unfold Qgo at h
 obtain rfl:=Option.some.inj h
 exact gr 4 [] [hP,hP,hP,oI ((geI t 0) = true),oR True ((geI t 0) = true)]
def Qbx (Γ:Gam) (rv:List Qaa) (cf:Cf):Prop:=Go Tryz.prog Tryz.f84 [] Γ (one (lL 2 rv Qaa.enc)) [] cf
def Qix (Γ:Gam) (rv:List Qaa) (n:Qaj) (i:Int) (r:ByteArray) (x0:Qap) (l:List Qaa) (l1:List Qaa) (twice:Bool) (k:Int):Prop:=Qbx Γ rv ⟨[.c 4084,.l 4084,.b 0,.c 511],⟨192,[vI 1 i,vP 2 0 2,vO 5 1 2 l1 Qaa.enc,vS 6 (catS QaT r),vP 7 2 6,vB 8 twice,vI 9 k],[oX 2 25 (Qaj.enc n),oS 2 144 l1 Qaa.enc,oX 6 99 (Qap.enc x0)]⟩⟩
def Qif (Γ:Gam) (rv:List Qaa) (n:Qaj) (i:Int) (r:ByteArray) (x0:Qap) (l:List Qaa) (l1:List Qaa) (twice1:Bool):Prop:=Qbx Γ rv ⟨[.c 511],⟨192,[vO 5 0 2 l1 Qaa.enc,vS 6 (catS QaT r),vP 7 1 6,vB 8 twice1],[oS 2 144 l1 Qaa.enc,oX 6 99 (Qap.enc x0)]⟩⟩
def Qiy (Γ:Gam) (rv:List Qaa) (r:ByteArray) (x0:Qap) (l:List Qaa) (r1:List Qaa) (l3:List Qaa) (k1:Int):Prop:=Qbx Γ rv ⟨[.c 32756,.l 32756,.b 2,.c 4095],⟨192,[vO 5 0 2 l3 Qaa.enc,vS 6 (catS QaT r),vP 7 1 6,vL 11 2 r1 Qaa.enc,vI 12 k1],[oS 2 144 l3 Qaa.enc,oX 6 99 (Qap.enc x0)]⟩⟩
def Qig (Γ:Gam) (rv:List Qaa) (r:ByteArray) (x0:Qap) (l:List Qaa) (r1:List Qaa) (l4:List Qaa):Prop:=Qbx Γ rv ⟨[.c 4095],⟨192,[vO 5 0 2 l4 Qaa.enc,vS 6 (catS QaT r),vP 7 1 6],[oS 2 144 l4 Qaa.enc,oX 6 99 (Qap.enc x0)]⟩⟩
def Qiz (Γ:Gam) (rv:List Qaa) (r:ByteArray) (x0:Qap) (l:List Qaa) (l6:List Qaa) (k2:Int):Prop:=Qbx Γ rv ⟨[.c 131060,.l 131060,.b 4,.c 16383],⟨192,[vO 5 0 2 l6 Qaa.enc,vS 6 (catS QaT r),vP 7 1 6,vI 13 k2],[oS 2 144 l6 Qaa.enc,oX 6 99 (Qap.enc x0)]⟩⟩
def Qih (Γ:Gam) (rv:List Qaa) (r:ByteArray) (x0:Qap) (l:List Qaa) (l7:List Qaa):Prop:=Qbx Γ rv ⟨[.c 16383],⟨192,[vO 5 0 2 l7 Qaa.enc],[oS 2 144 l7 Qaa.enc]⟩⟩
theorem Qni (Γ:Gam) (rv:List Qaa) {n i r x0 l l1} {s:Bool × Int} {e:Bool} (h:loopF (fun s=>Qb3 n i r x0 l l1 s.1 s.2) s = some e) (hD:Qif Γ rv n i r x0 l l1 e):Qix Γ rv n i r x0 l l1 s.1 s.2:=by
 refine QaD (C:=fun (s:Bool × Int)=>Qix Γ rv n i r x0 l l1 s.1 s.2) (D:=fun (e:Bool)=>Qif Γ rv n i r x0 l l1 e) ?_ h hD
 clear h hD s e
 rintro ⟨twice,k⟩ z_ h hI hE
 replace h:Qb3 n i r x0 l l1 twice k = _:=h
 unfold Qb3 at h
 rcases Qag h with ⟨h7,h⟩|⟨h7,h⟩
 ·obtain ⟨x1,h8,h⟩:=Qae h
  exact gn 13 [1,2,5,6,7,8,9] [0,1,2] [bT h7,cE Qap.enc h8,rp 22 hP,rp 5 (oI (twice = false)),rp 4 (oI ((twice = false)∧(eqI x0.from_ x1.from_) = true)),oI (twice = false),oI ((twice = false)∧(eqI x0.from_ x1.from_) = true),oI (twice = false),rp 4 (oI ((twice = false)∧((eqI x0.from_ x1.from_) && (eqI x0.to_ x1.to_)) = true)),oI (twice = false),oI ((twice = false)∧((eqI x0.from_ x1.from_) && (eqI x0.to_ x1.to_)) = true),oR True (twice = false)] (hI _ (oJ h))
 ·exact gn 5 [5,6,7,8] [1,2] [bF h7] (hE _ (oJ h))
theorem Qnj (Γ:Gam) (rv:List Qaa) {r x0 l r1} {s:List Qaa × Int} {e:List Qaa} (h:loopF (fun s=>Qb4 r x0 l r1 s.1 s.2) s = some e) (hD:Qig Γ rv r x0 l r1 e):Qiy Γ rv r x0 l r1 s.1 s.2:=by
 refine QaD (C:=fun (s:List Qaa × Int)=>Qiy Γ rv r x0 l r1 s.1 s.2) (D:=fun (e:List Qaa)=>Qig Γ rv r x0 l r1 e) ?_ h hD
 clear h hD s e
 rintro ⟨l3,k1⟩ z_ h hI hE
 replace h:Qb4 r x0 l r1 l3 k1 = _:=h
 unfold Qb4 at h
 rcases Qag h with ⟨h13,h⟩|⟨h13,h⟩
 ·obtain ⟨x2,h14,h⟩:=Qae h
  obtain ⟨h15,h⟩:=Qas h
  exact gn 11 [5,6,7,11,12] [3,1] [nL Qaa.enc r1,bT h13,cE Qaa.enc h14,oO (Eq.refl ([(Qaa.mk x2.err (catS QaT r))].map Qaa.enc).length),aO Qaa.enc h15] (hI _ (oJ h))
 ·exact gn 5 [5,6,7] [0,1] [nL Qaa.enc r1,bF h13] (hE _ (oJ h))
theorem Qnk (Γ:Gam) (rv:List Qaa) {r x0 l} {s:List Qaa × Int} {e:List Qaa} (h:loopF (fun s=>Qb5 r x0 l s.1 s.2) s = some e) (hD:Qih Γ rv r x0 l e):Qiz Γ rv r x0 l s.1 s.2:=by
 refine QaD (C:=fun (s:List Qaa × Int)=>Qiz Γ rv r x0 l s.1 s.2) (D:=fun (e:List Qaa)=>Qih Γ rv r x0 l e) ?_ h hD
 clear h hD s e
 rintro ⟨l6,k2⟩ z_ h hI hE
 replace h:Qb5 r x0 l l6 k2 = _:=h
 unfold Qb5 at h
 rcases Qag h with ⟨h19,h⟩|⟨h19,h⟩
 ·obtain ⟨x3,h20,h⟩:=Qae h
  obtain ⟨r2,h21,h⟩:=Qae h
  rcases Qag h with ⟨h22,h⟩|⟨h22,h⟩
  ·obtain ⟨r3,h23,h⟩:=Qae h
   rcases Qag h with ⟨h24,h⟩|⟨h24,h⟩
   ·rcases Qag h with ⟨h25,h⟩|⟨h25,h⟩
    ·obtain ⟨x4,h26,h⟩:=Qae h
     rcases Qag h with ⟨h27,h⟩|⟨h27,h⟩
     ·obtain ⟨h28,h⟩:=Qas h
      exact gn 16 [5,6,7,13] [4,1] [nL Qan.enc x0.slow,bT h19,cE Qan.enc h20,hH (.draw 26 []),cC (QcM h21),rp 3 (nF h22),cC (QcM h23),rp 2 (nF h22),rp 3 (nF h24),rp 7 (bT h25),cE Qan.enc h26,rp 3 (bT h25),nF h24,bT h25,nF h24,bT h27,oO (Eq.refl ([(Qaa.mk 2 (catS QaT r))].map Qaa.enc).length),aO Qaa.enc h28] (hI _ (oJ h))
     ·exact gn 16 [5,6,7,13] [0,1] [nL Qan.enc x0.slow,bT h19,cE Qan.enc h20,hH (.draw 26 []),cC (QcM h21),rp 3 (nF h22),cC (QcM h23),rp 2 (nF h22),rp 3 (nF h24),rp 7 (bT h25),cE Qan.enc h26,rp 3 (bT h25),nF h24,bT h25,nF h24,bF h27] (hI _ (oJ h))
    ·exact gn 16 [5,6,7,13] [0,1] [nL Qan.enc x0.slow,bT h19,cE Qan.enc h20,hH (.draw 26 []),cC (QcM h21),rp 3 (nF h22),cC (QcM h23),rp 2 (nF h22),rp 3 (nF h24),rp 10 (bF h25),nF h24,bF h25,nF h24,fF] (hI _ (oJ h))
   ·obtain ⟨h29,h⟩:=Qas h
    exact gn 16 [5,6,7,13] [4,1] [nL Qan.enc x0.slow,bT h19,cE Qan.enc h20,hH (.draw 26 []),cC (QcM h21),rp 3 (nF h22),cC (QcM h23),rp 2 (nF h22),rp 3 (nT h24),rp 10 kF,rp 2 (nT h24),tT,oO (Eq.refl ([(Qaa.mk 2 (catS QaT r))].map Qaa.enc).length),aO Qaa.enc h29] (hI _ (oJ h))
  ·obtain ⟨h30,h⟩:=Qas h
   exact gn 16 [5,6,7,13] [4,1] [nL Qan.enc x0.slow,bT h19,cE Qan.enc h20,hH (.draw 26 []),cC (QcM h21),rp 5 (nT h22),tT,tT,tT,rp 10 kF,tT,tT,tT,oO (Eq.refl ([(Qaa.mk 2 (catS QaT r))].map Qaa.enc).length),aO Qaa.enc h30] (hI _ (oJ h))
 ·exact gn 5 [5] [0] [nL Qan.enc x0.slow,bF h19] (hE _ (oJ h))
theorem Qie (Γ:Gam) (rv:List Qaa) {r x0 l l5} (h:QbD r x0 l l5 = some rv):Qbx Γ rv ⟨[.c 8191],⟨192,[vO 5 0 2 l5 Qaa.enc,vS 6 (catS QaT r),vP 7 1 6],[oS 2 144 l5 Qaa.enc,oX 6 99 (Qap.enc x0)]⟩⟩:=by
 unfold QbD at h
 obtain ⟨e2,h31,h⟩:=Qae h
 refine gn 5 [5,6,7,13] [0,1] [] (Qnk Γ rv h31 ?_)
 obtain ⟨l7,rfl⟩:∃ x,x = e2:=⟨_,rfl⟩
 replace h:(some l7:Option (List Qaa)) = some _:=h
 obtain rfl:=Option.some.inj h
 exact gr 2 [] [hW 4,hH (.frz 0),rp 3 (eL l7 Qaa.enc)]
theorem Qid (Γ:Gam) (rv:List Qaa) {r x0 l l2} (h:Qb2 r x0 l l2 = some rv):Qbx Γ rv ⟨[.c 1023],⟨192,[vO 5 0 2 l2 Qaa.enc,vS 6 (catS QaT r),vP 7 1 6],[oS 2 144 l2 Qaa.enc,oX 6 99 (Qap.enc x0)]⟩⟩:=by
 unfold Qb2 at h
 obtain ⟨r1,h12,h⟩:=Qae h
 obtain ⟨e1,h16,h⟩:=Qae h
 refine gn 7 [5,6,7,11,12] [0,1] [cC (Qiw h12)] (Qnj Γ rv h16 ?_)
 obtain ⟨l4,rfl⟩:∃ x,x = e1:=⟨_,rfl⟩
 replace h:(br (gtI (lenI x0.slow) 16) (chk (okN (l4 ++ [(Qaa.mk 4 (catS QaT r))]).length 24) (QbD r x0 l (l4 ++ [(Qaa.mk 4 (catS QaT r))]))) (QbD r x0 l l4):Option (List Qaa)) = some _:=h
 rcases Qag h with ⟨h17,h⟩|⟨h17,h⟩
 ·obtain ⟨h18,h⟩:=Qas h
  exact gn 5 [5,6,7] [3,1] [nL Qan.enc x0.slow,bT h17,oO (Eq.refl ([(Qaa.mk 4 (catS QaT r))].map Qaa.enc).length),aO Qaa.enc h18] (Qie Γ rv h)
 ·exact gn 5 [5,6,7] [0,1] [nL Qan.enc x0.slow,bF h17] (Qie Γ rv h)
theorem Qic (Γ:Gam) (rv:List Qaa) {n i r x0 l l1} (h:Qc9 n i r x0 l l1 = some rv):Qbx Γ rv ⟨[.c 127],⟨192,[vI 1 i,vP 2 0 2,vO 5 1 2 l1 Qaa.enc,vS 6 (catS QaT r),vP 7 2 6],[oX 2 25 (Qaj.enc n),oS 2 144 l1 Qaa.enc,oX 6 99 (Qap.enc x0)]⟩⟩:=by
 unfold Qc9 at h
 obtain ⟨e0,h9,h⟩:=Qae h
 refine gn 7 [1,2,5,6,7,8,9] [0,1,2] [] (Qni Γ rv h9 ?_)
 obtain ⟨twice1,rfl⟩:∃ x,x = e0:=⟨_,rfl⟩
 replace h:(br twice1 (chk (okN (l1 ++ [(Qaa.mk 6 (catS QaT r))]).length 24) (Qb2 r x0 l (l1 ++ [(Qaa.mk 6 (catS QaT r))]))) (Qb2 r x0 l l1):Option (List Qaa)) = some _:=h
 rcases Qag h with ⟨h10,h⟩|⟨h10,h⟩
 ·obtain ⟨h11,h⟩:=Qas h
  exact gn 5 [5,6,7] [3,1] [bT h10,oO (Eq.refl ([(Qaa.mk 6 (catS QaT r))].map Qaa.enc).length),aO Qaa.enc h11] (Qid Γ rv h)
 ·exact gn 5 [5,6,7] [0,1] [bF h10] (Qid Γ rv h)
theorem Qib (Γ:Gam) (rv:List Qaa) {n i r x0 l} (h:Qc8 n i r x0 l = some rv):Qbx Γ rv ⟨[.c 63],⟨192,[vI 1 i,vP 2 0 2,vO 5 1 2 l Qaa.enc,vS 6 (catS QaT r),vP 7 2 6],[oX 2 25 (Qaj.enc n),oS 2 144 l Qaa.enc,oX 6 99 (Qap.enc x0)]⟩⟩:=by
 unfold Qc8 at h
 rcases Qag h with ⟨h5,h⟩|⟨h5,h⟩
 ·obtain ⟨h6,h⟩:=Qas h
  exact gn 5 [1,2,5,6,7] [0,4,2] [rp 18 hP,rp 2 (oI ((ltI x0.profile 0) = false)),oR True ((ltI x0.profile 0) = false),rp 2 (oI (((ltI x0.profile 0) || (gtI x0.profile 7)) = false)),oR True (((ltI x0.profile 0) || (gtI x0.profile 7)) = false),rp 2 (oI ((((ltI x0.profile 0) || (gtI x0.profile 7)) || (ltI x0.miles 0)) = false)),oR True ((((ltI x0.profile 0) || (gtI x0.profile 7)) || (ltI x0.miles 0)) = false),rp 4 (oI (((((ltI x0.profile 0) || (gtI x0.profile 7)) || (ltI x0.miles 0)) || (gtI x0.miles 10000)) = false)),oR True (((((ltI x0.profile 0) || (gtI x0.profile 7)) || (ltI x0.miles 0)) || (gtI x0.miles 10000)) = false),bT h5,oO (Eq.refl ([(Qaa.mk 2 (catS QaT r))].map Qaa.enc).length),aO Qaa.enc h6] (Qic Γ rv h)
 ·exact gn 5 [1,2,5,6,7] [0,1,2] [rp 18 hP,rp 2 (oI ((ltI x0.profile 0) = false)),oR True ((ltI x0.profile 0) = false),rp 2 (oI (((ltI x0.profile 0) || (gtI x0.profile 7)) = false)),oR True (((ltI x0.profile 0) || (gtI x0.profile 7)) = false),rp 2 (oI ((((ltI x0.profile 0) || (gtI x0.profile 7)) || (ltI x0.miles 0)) = false)),oR True ((((ltI x0.profile 0) || (gtI x0.profile 7)) || (ltI x0.miles 0)) = false),rp 4 (oI (((((ltI x0.profile 0) || (gtI x0.profile 7)) || (ltI x0.miles 0)) || (gtI x0.miles 10000)) = false)),oR True (((((ltI x0.profile 0) || (gtI x0.profile 7)) || (ltI x0.miles 0)) || (gtI x0.miles 10000)) = false),bF h5] (Qic Γ rv h)
theorem Qo4 {n i} {rv:List Qaa} (h:Qfc n i = some rv):AFn Tryz.prog 84 [.agg (Qaj.enc n),.one (lI i)] [] (one (lL 2 rv Qaa.enc)) []:=by
 refine QaL Tryz.func84 (by kernel_rfl) (by kernel_rfl) (fun Γ=>?_)
 unfold Qfc at h
 obtain ⟨r,h0,h⟩:=Qae h
 obtain ⟨h1,h⟩:=Qas h
 obtain ⟨x0,h2,h⟩:=Qae h
 rcases Qag h with ⟨h3,h⟩|⟨h3,h⟩
 ·obtain ⟨h4,h⟩:=Qas h
  exact gn 13 [1,2,5,6,7] [0,3,1] [cC (QbP h0),oO (h1),cE Qap.enc h2,rp 5 hP,rp 3 (oI ((ltI x0.from_ 0) = false)),nL e_str n.places,rp 11 hP,rp 2 (oI ((ltI x0.from_ 0) = false)),oR True ((ltI x0.from_ 0) = false),rp 2 (oI (((ltI x0.from_ 0) || (geI x0.from_ (lenI n.places))) = false)),oR True (((ltI x0.from_ 0) || (geI x0.from_ (lenI n.places))) = false),rp 3 (oI ((((ltI x0.from_ 0) || (geI x0.from_ (lenI n.places))) || (ltI x0.to_ 0)) = false)),nL e_str n.places,hP,hP,rp 2 (oI ((((ltI x0.from_ 0) || (geI x0.from_ (lenI n.places))) || (ltI x0.to_ 0)) = false)),oR True ((((ltI x0.from_ 0) || (geI x0.from_ (lenI n.places))) || (ltI x0.to_ 0)) = false),bT h3,oO (Eq.refl ([(Qaa.mk 11 (catS QaT r))].map Qaa.enc).length),aN (l:=([(Qaa.mk 11 (catS QaT r))]:List Qaa)) Qaa.enc h4] (Qib Γ rv h)
 ·exact gn 13 [1,2,5,6,7] [0,2,1] [cC (QbP h0),oO (h1),cE Qap.enc h2,rp 5 hP,rp 3 (oI ((ltI x0.from_ 0) = false)),nL e_str n.places,rp 11 hP,rp 2 (oI ((ltI x0.from_ 0) = false)),oR True ((ltI x0.from_ 0) = false),rp 2 (oI (((ltI x0.from_ 0) || (geI x0.from_ (lenI n.places))) = false)),oR True (((ltI x0.from_ 0) || (geI x0.from_ (lenI n.places))) = false),rp 3 (oI ((((ltI x0.from_ 0) || (geI x0.from_ (lenI n.places))) || (ltI x0.to_ 0)) = false)),nL e_str n.places,hP,hP,rp 2 (oI ((((ltI x0.from_ 0) || (geI x0.from_ (lenI n.places))) || (ltI x0.to_ 0)) = false)),oR True ((((ltI x0.from_ 0) || (geI x0.from_ (lenI n.places))) || (ltI x0.to_ 0)) = false),bF h3,hW 1,hH (.adopt 5 2 144)] (Qib Γ rv h)
def Qcx (Γ:Gam) (rv:List Qaa) (cf:Cf):Prop:=Go Tryz.prog Tryz.f83 [] Γ (one (lO 0 2 rv Qaa.enc)) [oS 2 144 rv Qaa.enc] cf
def QfW (Γ:Gam) (rv:List Qaa) (n:Qaj) (l:List Qaa) (l1:List Qaa) (i:Int) (r:ByteArray) (twice:Bool) (k:Int):Prop:=Qcx Γ rv ⟨[.c 250484,.l 250484,.b 2,.c 31311,.b 1,.c 979,.l 244,.b 0,.c 31],⟨64,[vP 1 0 2,vO 3 1 2 l1 Qaa.enc,vI 4 i,vS 5 (catS Qdt r),vB 6 twice,vI 7 k],[oX 2 25 (Qaj.enc n),oS 2 144 l1 Qaa.enc]⟩⟩
def QfI (Γ:Gam) (rv:List Qaa) (n:Qaj) (l:List Qaa) (l1:List Qaa) (i:Int) (r:ByteArray) (twice1:Bool):Prop:=Qcx Γ rv ⟨[.c 31311,.b 1,.c 979,.l 244,.b 0,.c 31],⟨64,[vP 1 0 2,vO 3 1 2 l1 Qaa.enc,vI 4 i,vS 5 (catS Qdt r),vB 6 twice1],[oX 2 25 (Qaj.enc n),oS 2 144 l1 Qaa.enc]⟩⟩
def QfV (Γ:Gam) (rv:List Qaa) (n:Qaj) (l:List Qaa) (l1:List Qaa) (i:Int):Prop:=Qcx Γ rv ⟨[.c 244,.l 244,.b 0,.c 31],⟨64,[vP 1 0 2,vO 3 1 2 l1 Qaa.enc,vI 4 i],[oX 2 25 (Qaj.enc n),oS 2 144 l1 Qaa.enc]⟩⟩
def QfH (Γ:Gam) (rv:List Qaa) (n:Qaj) (l:List Qaa) (l2:List Qaa):Prop:=Qcx Γ rv ⟨[.c 31],⟨64,[vO 3 0 2 l2 Qaa.enc],[oS 2 144 l2 Qaa.enc]⟩⟩
theorem Qjh (Γ:Gam) (rv:List Qaa) {n l l1 i r} {s:Bool × Int} {e:Bool} (h:loopF (fun s=>Qbd n l l1 i r s.1 s.2) s = some e) (hD:QfI Γ rv n l l1 i r e):QfW Γ rv n l l1 i r s.1 s.2:=by
 refine QaD (C:=fun (s:Bool × Int)=>QfW Γ rv n l l1 i r s.1 s.2) (D:=fun (e:Bool)=>QfI Γ rv n l l1 i r e) ?_ h hD
 clear h hD s e
 rintro ⟨twice,k⟩ z_ h hI hE
 replace h:Qbd n l l1 i r twice k = _:=h
 unfold Qbd at h
 rcases Qag h with ⟨h8,h⟩|⟨h8,h⟩
 ·rcases Qag h with ⟨h9,h⟩|⟨h9,h⟩
  ·exact gn 11 [1,3,4,5,6,7] [0,1] [bT h8,hH (.draw 14 []),rp 12 (bT h9)] (hI _ (oJ h))
  ·obtain ⟨x1,h10,h⟩:=Qae h
   obtain ⟨x2,h11,h⟩:=Qae h
   exact gn 11 [1,3,4,5,6,7] [0,1] [bT h8,hH (.draw 14 []),rp 4 (bF h9),cE e_str h10,rp 5 (bF h9),cE e_str h11,rp 3 (bF h9)] (hI _ (oJ h))
 ·exact gn 5 [1,3,4,5,6] [0,1] [bF h8] (hE _ (oJ h))
theorem Qjg (Γ:Gam) (rv:List Qaa) {n l} {s:List Qaa × Int} {e:List Qaa} (h:loopF (fun s=>Qbc n l s.1 s.2) s = some e) (hD:QfH Γ rv n l e):QfV Γ rv n l s.1 s.2:=by
 refine QaD (C:=fun (s:List Qaa × Int)=>QfV Γ rv n l s.1 s.2) (D:=fun (e:List Qaa)=>QfH Γ rv n l e) ?_ h hD
 clear h hD s e
 rintro ⟨l1,i⟩ z_ h hI hE
 replace h:Qbc n l l1 i = _:=h
 unfold Qbc at h
 rcases Qag h with ⟨h2,h⟩|⟨h2,h⟩
 ·obtain ⟨r,h3,h⟩:=Qae h
  obtain ⟨h4,h⟩:=Qas h
  obtain ⟨x0,h5,h⟩:=Qae h
  obtain ⟨r1,h6,h⟩:=Qae h
  rcases Qag h with ⟨h7,h⟩|⟨h7,h⟩
  ·obtain ⟨e0,h12,h⟩:=Qae h
   refine gn 21 [1,3,4,5,6,7] [0,1] [nL e_str n.places,bT h2,cC (QbP h3),oO (h4),cE e_str h5,cC (QeC h6),nF h7] (Qjh Γ rv h12 ?_)
   obtain ⟨twice1,rfl⟩:∃ x,x = e0:=⟨_,rfl⟩
   replace h:(br twice1 (chk (okN (l1 ++ [(Qaa.mk 6 (catS Qdt r))]).length 24) (some (.inl ((l1 ++ [(Qaa.mk 6 (catS Qdt r))]),(addK .i64 i 1))))) (some (.inl (l1,(addK .i64 i 1)))):Option ((List Qaa × Int) ⊕ (List Qaa))) = some _:=h
   rcases Qag h with ⟨h13,h⟩|⟨h13,h⟩
   ·obtain ⟨h14,h⟩:=Qas h
    exact gn 7 [1,3,4] [0,3] [bT h13,oO (Eq.refl ([(Qaa.mk 6 (catS Qdt r))].map Qaa.enc).length),aO Qaa.enc h14] (hI _ (oJ h))
   ·exact gn 7 [1,3,4] [0,1] [bF h13] (hI _ (oJ h))
  ·obtain ⟨h15,h⟩:=Qas h
   exact gn 18 [1,3,4] [0,3] [nL e_str n.places,bT h2,cC (QbP h3),oO (h4),cE e_str h5,cC (QeC h6),nT h7,oO (Eq.refl ([(Qaa.mk 5 (catS Qdt r))].map Qaa.enc).length),aO Qaa.enc h15] (hI _ (oJ h))
 ·exact gn 5 [3] [1] [nL e_str n.places,bF h2] (hE _ (oJ h))
theorem QfG (Γ:Gam) (rv:List Qaa) {n l} (h:Qcl n l = some rv):Qcx Γ rv ⟨[.c 15],⟨64,[vP 1 0 2,vO 3 1 2 l Qaa.enc],[oX 2 25 (Qaj.enc n),oS 2 144 l Qaa.enc]⟩⟩:=by
 unfold Qcl at h
 obtain ⟨e1,h16,h⟩:=Qae h
 refine gn 5 [1,3,4] [0,1] [] (Qjg Γ rv h16 ?_)
 obtain ⟨l2,rfl⟩:∃ x,x = e1:=⟨_,rfl⟩
 replace h:(some l2:Option (List Qaa)) = some _:=h
 obtain rfl:=Option.some.inj h
 exact gr 2 [0] []
theorem QgB {n} {rv:List Qaa} (h:Qc1 n = some rv):AFn Tryz.prog 83 [.agg (Qaj.enc n)] [] (one (lO 0 2 rv Qaa.enc)) [oS 2 144 rv Qaa.enc]:=by
 refine QaL Tryz.func83 (by kernel_rfl) (by kernel_rfl) (fun Γ=>?_)
 unfold Qc1 at h
 rcases Qag h with ⟨h0,h⟩|⟨h0,h⟩
 ·obtain ⟨h1,h⟩:=Qas h
  exact gn 9 [1,3] [0,2] [nL e_str n.places,bT h0,oO (Eq.refl ([(Qaa.mk 4 Qkr)].map Qaa.enc).length),aN (l:=([(Qaa.mk 4 Qkr)]:List Qaa)) Qaa.enc h1] (QfG Γ rv h)
 ·exact gn 9 [1,3] [0,1] [nL e_str n.places,bF h0,hW 1,hH (.adopt 3 2 144)] (QfG Γ rv h)
def Qjf (Γ:Gam) (rv:List Qaa) (cf:Cf):Prop:=Go Tryz.prog Tryz.f45 [] Γ (one (lL 2 rv Qaa.enc)) [] cf
def QkU (Γ:Gam) (rv:List Qaa) (n:Qaj) (l:List Qaa) (l1:List Qaa) (i:Int):Prop:=Qjf Γ rv ⟨[.c 244,.l 244,.b 0,.c 31],⟨28,[vP 1 0 2,vO 3 1 2 l1 Qaa.enc,vI 4 i],[oX 2 25 (Qaj.enc n),oS 2 144 l1 Qaa.enc]⟩⟩
def QjA (Γ:Gam) (rv:List Qaa) (n:Qaj) (l:List Qaa) (l2:List Qaa):Prop:=Qjf Γ rv ⟨[.c 31],⟨28,[vO 3 0 2 l2 Qaa.enc],[oS 2 144 l2 Qaa.enc]⟩⟩
theorem Qo3 (Γ:Gam) (rv:List Qaa) {n l} {s:List Qaa × Int} {e:List Qaa} (h:loopF (fun s=>QcT n l s.1 s.2) s = some e) (hD:QjA Γ rv n l e):QkU Γ rv n l s.1 s.2:=by
 refine QaD (C:=fun (s:List Qaa × Int)=>QkU Γ rv n l s.1 s.2) (D:=fun (e:List Qaa)=>QjA Γ rv n l e) ?_ h hD
 clear h hD s e
 rintro ⟨l1,i⟩ z_ h hI hE
 replace h:QcT n l l1 i = _:=h
 unfold QcT at h
 rcases Qag h with ⟨h3,h⟩|⟨h3,h⟩
 ·obtain ⟨r1,h4,h⟩:=Qae h
  obtain ⟨h5,h⟩:=Qas h
  exact gn 11 [1,3,4] [0,2] [nL Qap.enc n.arcs,bT h3,cC (Qo4 h4),aO Qaa.enc h5] (hI _ (oJ h))
 ·exact gn 5 [3] [1] [nL Qap.enc n.arcs,bF h3] (hE _ (oJ h))
theorem Qjz (Γ:Gam) (rv:List Qaa) {n l} (h:Qfb n l = some rv):Qjf Γ rv ⟨[.c 15],⟨28,[vP 1 0 2,vO 3 1 2 l Qaa.enc],[oX 2 25 (Qaj.enc n),oS 2 144 l Qaa.enc]⟩⟩:=by
 unfold Qfb at h
 obtain ⟨e0,h6,h⟩:=Qae h
 refine gn 5 [1,3,4] [0,1] [] (Qo3 Γ rv h6 ?_)
 obtain ⟨l2,rfl⟩:∃ x,x = e0:=⟨_,rfl⟩
 replace h:(some l2:Option (List Qaa)) = some _:=h
 obtain rfl:=Option.some.inj h
 exact gr 2 [] [hW 4,hH (.frz 0),rp 3 (eL l2 Qaa.enc)]
theorem QqQ {n} {rv:List Qaa} (h:QgQ n = some rv):AFn Tryz.prog 45 [.agg (Qaj.enc n)] [] (one (lL 2 rv Qaa.enc)) []:=by
 refine QaL Tryz.func45 (by kernel_rfl) (by kernel_rfl) (fun Γ=>?_)
 unfold QgQ at h
 obtain ⟨r,h0,h⟩:=Qae h
 rcases Qag h with ⟨h1,h⟩|⟨h1,h⟩
 ·obtain ⟨h2,h⟩:=Qas h
  exact gn 9 [1,3] [0,3] [cC (QgB h0),nL Qap.enc n.arcs,bT h1,oO (Eq.refl ([(Qaa.mk 4 QpK)].map Qaa.enc).length),aO Qaa.enc h2] (Qjz Γ rv h)
 ·exact gn 9 [1,3] [0,1] [cC (QgB h0),nL Qap.enc n.arcs,bF h1] (Qjz Γ rv h)
theorem Qam {n lo hi} {rv:Bool} (h:QaR n lo hi = some rv):AFn Tryz.prog 85 [.one (lI n),.one (lI lo),.one (lI hi)] [] (one (.bool rv)) []:=by
 refine QaL Tryz.func85 (by kernel_rfl) (by kernel_rfl) (fun Γ=>?_)
 unfold QaR at h
 obtain rfl:=Option.some.inj h
 exact gr 4 [] [rp 4 hP,rp 2 (oI ((geI n lo) = true)),oR True ((geI n lo) = true)]
theorem QfK {l} {rv:Int} (h:Qft l = some rv):AFn Tryz.prog 48 [.one (lL 14 l Qai.enc)] [] (one (lI rv)) []:=by
 refine QaL Tryz.func48 (by kernel_rfl) (by kernel_rfl) (fun Γ=>?_)
 unfold Qft at h
 rcases Qag h with ⟨h0,h⟩|⟨h0,h⟩
 ·obtain rfl:=Option.some.inj h
  exact gr 8 [] [nL Qai.enc l,bT h0]
 ·obtain ⟨x0,h1,h⟩:=Qae h
  obtain rfl:=Option.some.inj h
  exact gr 9 [] [nL Qai.enc l,bF h0,cE Qai.enc h1,nL e_i64 x0.cap]
def Qnn (Γ:Gam) (rv:Bool) (cf:Cf):Prop:=Go Tryz.prog Tryz.f131 [] Γ (one (.bool rv)) [] cf
def Qk0 (Γ:Gam) (rv:Bool) (l:List Qai) (at_:Int) (name:ByteArray) (i:Int):Prop:=Qnn Γ rv ⟨[.c 52,.l 52,.b 0,.c 7],⟨20,[vL 0 14 l Qai.enc,vI 1 at_,vS 2 name,vI 7 i],[]⟩⟩
def QjE (Γ:Gam) (rv:Bool) (l:List Qai) (at_:Int) (name:ByteArray):Prop:=Qnn Γ rv ⟨[.c 7],⟨20,[],[]⟩⟩
theorem Qo7 (Γ:Gam) (rv:Bool) {l at_ name} {s:Int} {e:(Unit) ⊕ (Bool)} (h:loopF (fun s=>Qcm l at_ name s) s = some e) (hD:sel e (fun e=>QjE Γ rv l at_ name) (fun e=>e = rv)):Qk0 Γ rv l at_ name s:=by
 refine QaD (C:=fun (s:Int)=>Qk0 Γ rv l at_ name s) (D:=fun (e:(Unit) ⊕ (Bool))=>sel e (fun e=>QjE Γ rv l at_ name) (fun e=>e = rv)) ?_ h hD
 clear h hD s e
 intro i z_ h hI hE
 replace h:Qcm l at_ name i = _:=h
 unfold Qcm at h
 rcases Qag h with ⟨h0,h⟩|⟨h0,h⟩
 ·obtain ⟨x0,h1,h⟩:=Qae h
  rcases Qag h with ⟨h2,h⟩|⟨h2,h⟩
  ·obtain rfl:=(hE _ (oJ h):_ = rv)
   exact gr 12 [] [bT h0,cE Qai.enc h1,bT h2]
  ·exact gn 14 [0,1,2,7] [] [bT h0,cE Qai.enc h1,bF h2] (hI _ (oJ h))
 ·exact gn 5 [] [] [bF h0] (hE _ (oJ h))
theorem QmA {l at_ name} {rv:Bool} (h:QgS l at_ name = some rv):AFn Tryz.prog 131 [.one (lL 14 l Qai.enc),.one (lI at_),.one (.str name)] [] (one (.bool rv)) []:=by
 refine QaL Tryz.func131 (by kernel_rfl) (by kernel_rfl) (fun Γ=>?_)
 unfold QgS at h
 obtain ⟨e0,h3,h⟩:=Qae h
 refine gn 7 [0,1,2,7] [] [] (Qo7 Γ rv h3 ?_)
 rcases e0 with e0|e0
 ·replace h:(some false:Option Bool) = some _:=h
  obtain rfl:=Option.some.inj h
  exact gr 2 [] []
 ·obtain ⟨r,rfl⟩:∃ x,x = e0:=⟨_,rfl⟩
  replace h:(some r:Option Bool) = some _:=h
  exact Option.some.inj h
def QkZ (Γ:Gam) (rv:Bool) (cf:Cf):Prop:=Go Tryz.prog Tryz.f132 [] Γ (one (.bool rv)) [] cf
def QiA (Γ:Gam) (rv:Bool) (l:List Int) (i:Int):Prop:=QkZ Γ rv ⟨[.c 116,.l 116,.b 0,.c 15],⟨28,[vL 0 1 l e_i64,vI 5 i],[]⟩⟩
def Qii (Γ:Gam) (rv:Bool) (l:List Int):Prop:=QkZ Γ rv ⟨[.c 15],⟨28,[],[]⟩⟩
theorem Qnm (Γ:Gam) (rv:Bool) {l} {s:Int} {e:(Unit) ⊕ (Bool)} (h:loopF (fun s=>QbE l s) s = some e) (hD:sel e (fun e=>Qii Γ rv l) (fun e=>e = rv)):QiA Γ rv l s:=by
 refine QaD (C:=fun (s:Int)=>QiA Γ rv l s) (D:=fun (e:(Unit) ⊕ (Bool))=>sel e (fun e=>Qii Γ rv l) (fun e=>e = rv)) ?_ h hD
 clear h hD s e
 intro i z_ h hI hE
 replace h:QbE l i = _:=h
 unfold QbE at h
 rcases Qag h with ⟨h2,h⟩|⟨h2,h⟩
 ·obtain ⟨x0,h3,h⟩:=Qae h
  obtain ⟨r1,h4,h⟩:=Qae h
  rcases Qag h with ⟨h5,h⟩|⟨h5,h⟩
  ·exact gn 14 [0,5] [] [nL e_i64 l,bT h2,cE e_i64 h3,cC (Qam h4),nF h5] (hI _ (oJ h))
  ·obtain rfl:=(hE _ (oJ h):_ = rv)
   exact gr 12 [] [nL e_i64 l,bT h2,cE e_i64 h3,cC (Qam h4),nT h5]
 ·exact gn 5 [] [] [nL e_i64 l,bF h2] (hE _ (oJ h))
theorem Qfe {l dims} {rv:Bool} (h:Qd1 l dims = some rv):AFn Tryz.prog 132 [.one (lL 1 l e_i64),.one (lI dims)] [] (one (.bool rv)) []:=by
 refine QaL Tryz.func132 (by kernel_rfl) (by kernel_rfl) (fun Γ=>?_)
 unfold Qd1 at h
 obtain ⟨r,h0,h⟩:=Qae h
 rcases Qag h with ⟨h1,h⟩|⟨h1,h⟩
 ·obtain rfl:=Option.some.inj h
  exact gr 8 [] [nL e_i64 l,cC (Qam h0),hP,hP,oI ((!r) = false),nL e_i64 l,hP,hP,hP,rp 2 (oI ((!r) = false)),oR True ((!r) = false),bT h1]
 ·obtain ⟨e0,h6,h⟩:=Qae h
  refine gn 12 [0,5] [] [nL e_i64 l,cC (Qam h0),hP,hP,oI ((!r) = false),nL e_i64 l,hP,hP,hP,rp 2 (oI ((!r) = false)),oR True ((!r) = false),bF h1] (Qnm Γ rv h6 ?_)
  rcases e0 with e0|e0
  ·replace h:(some true:Option Bool) = some _:=h
   obtain rfl:=Option.some.inj h
   exact gr 2 [] []
  ·obtain ⟨r2,rfl⟩:∃ x,x = e0:=⟨_,rfl⟩
   replace h:(some r2:Option Bool) = some _:=h
   exact Option.some.inj h
def QbB (Γ:Gam) (rv:List Int) (cf:Cf):Prop:=Go Tryz.prog Tryz.f86 [] Γ (one (lL 1 rv e_i64)) [] cf
theorem QjM (Γ:Gam) (rv:List Int) {x0 l8} (h:Qd9 x0 l8 = some rv):QbB Γ rv ⟨[.c 4095],⟨125,[vP 7 0 14,vO 8 1 1 l8 e_i64],[oX 14 101 (Qai.enc x0),oS 1 38 l8 e_i64]⟩⟩:=by
 unfold Qd9 at h
 obtain ⟨r11,h30,h⟩:=Qae h
 rcases Qag h with ⟨h31,h⟩|⟨h31,h⟩
 ·obtain ⟨r12,h32,h⟩:=Qae h
  rcases Qag h with ⟨h33,h⟩|⟨h33,h⟩
  ·obtain ⟨r13,h34,h⟩:=Qae h
   rcases Qag h with ⟨h35,h⟩|⟨h35,h⟩
   ·obtain ⟨r14,h36,h⟩:=Qae h
    rcases Qag h with ⟨h37,h⟩|⟨h37,h⟩
    ·obtain rfl:=Option.some.inj h
     exact gr 7 [] [cC (Qam h30),rp 3 (nF h31),cC (Qam h32),rp 2 (nF h31),rp 3 (nF h33),cC (Qam h34),rp 2 (nF h33),rp 3 (nF h35),cC (Qam h36),rp 2 (nF h35),nF h37,hW 5,hH (.frz 1),rp 3 (eL l8 e_i64)]
    ·obtain ⟨h38,h⟩:=Qas h
     obtain rfl:=Option.some.inj h
     exact gr 7 [] [cC (Qam h30),rp 3 (nF h31),cC (Qam h32),rp 2 (nF h31),rp 3 (nF h33),cC (Qam h34),rp 2 (nF h33),rp 3 (nF h35),cC (Qam h36),rp 2 (nF h35),nT h37,oO (Eq.refl ([2].map e_i64).length),aO e_i64 h38,hW 5,hH (.frz 3),rp 4 (oO (Eq.refl ((l8 ++ [2]).map e_i64).length))]
   ·obtain ⟨h39,h⟩:=Qas h
    obtain rfl:=Option.some.inj h
    exact gr 7 [] [cC (Qam h30),rp 3 (nF h31),cC (Qam h32),rp 2 (nF h31),rp 3 (nF h33),cC (Qam h34),rp 2 (nF h33),rp 5 (nT h35),tT,oO (Eq.refl ([2].map e_i64).length),aO e_i64 h39,hW 5,hH (.frz 3),rp 4 (oO (Eq.refl ((l8 ++ [2]).map e_i64).length))]
  ·obtain ⟨h40,h⟩:=Qas h
   obtain rfl:=Option.some.inj h
   exact gr 7 [] [cC (Qam h30),rp 3 (nF h31),cC (Qam h32),rp 2 (nF h31),rp 5 (nT h33),rp 6 tT,oO (Eq.refl ([2].map e_i64).length),aO e_i64 h40,hW 5,hH (.frz 3),rp 4 (oO (Eq.refl ((l8 ++ [2]).map e_i64).length))]
 ·obtain ⟨h41,h⟩:=Qas h
  obtain rfl:=Option.some.inj h
  exact gr 7 [] [cC (Qam h30),rp 5 (nT h31),rp 11 tT,oO (Eq.refl ([2].map e_i64).length),aO e_i64 h41,hW 5,hH (.frz 3),rp 4 (oO (Eq.refl ((l8 ++ [2]).map e_i64).length))]
theorem QjL (Γ:Gam) (rv:List Int) {x0 l7} (h:Qd8 x0 l7 = some rv):QbB Γ rv ⟨[.c 2047],⟨125,[vP 7 0 14,vO 8 1 1 l7 e_i64],[oX 14 101 (Qai.enc x0),oS 1 38 l7 e_i64]⟩⟩:=by
 unfold Qd8 at h
 obtain ⟨r9,h25,h⟩:=Qae h
 rcases Qag h with ⟨h26,h⟩|⟨h26,h⟩
 ·obtain ⟨r10,h27,h⟩:=Qae h
  rcases Qag h with ⟨h28,h⟩|⟨h28,h⟩
  ·exact gn 5 [7,8] [0,1] [cC (Qam h25),rp 3 (nF h26),cC (Qam h27),rp 2 (nF h26),nF h28] (QjM Γ rv h)
  ·obtain ⟨h29,h⟩:=Qas h
   exact gn 5 [7,8] [0,3] [cC (Qam h25),rp 3 (nF h26),cC (Qam h27),rp 2 (nF h26),nT h28,oO (Eq.refl ([16].map e_i64).length),aO e_i64 h29] (QjM Γ rv h)
 ·obtain ⟨h42,h⟩:=Qas h
  obtain ⟨r15,h43,h⟩:=Qae h
  rcases Qag h with ⟨h44,h⟩|⟨h44,h⟩
  ·obtain ⟨r16,h45,h⟩:=Qae h
   rcases Qag h with ⟨h46,h⟩|⟨h46,h⟩
   ·obtain ⟨r17,h47,h⟩:=Qae h
    rcases Qag h with ⟨h48,h⟩|⟨h48,h⟩
    ·obtain ⟨r18,h49,h⟩:=Qae h
     rcases Qag h with ⟨h50,h⟩|⟨h50,h⟩
     ·obtain rfl:=Option.some.inj h
      exact gr 12 [] [cC (Qam h25),rp 5 (nT h26),tT,oO (Eq.refl ([16].map e_i64).length),aO e_i64 h42,cC (Qam h43),rp 3 (nF h44),cC (Qam h45),rp 2 (nF h44),rp 3 (nF h46),cC (Qam h47),rp 2 (nF h46),rp 3 (nF h48),cC (Qam h49),rp 2 (nF h48),nF h50,hW 5,hH (.frz 3),rp 4 (oO (Eq.refl ((l7 ++ [16]).map e_i64).length))]
     ·obtain ⟨h51,h⟩:=Qas h
      obtain rfl:=Option.some.inj h
      exact gr 12 [] [cC (Qam h25),rp 5 (nT h26),tT,oO (Eq.refl ([16].map e_i64).length),aO e_i64 h42,cC (Qam h43),rp 3 (nF h44),cC (Qam h45),rp 2 (nF h44),rp 3 (nF h46),cC (Qam h47),rp 2 (nF h46),rp 3 (nF h48),cC (Qam h49),rp 2 (nF h48),nT h50,oO (Eq.refl ([2].map e_i64).length),aO e_i64 h51,hW 5,hH (.frz 5),rp 4 (oO (Eq.refl (((l7 ++ [16]) ++ [2]).map e_i64).length))]
    ·obtain ⟨h52,h⟩:=Qas h
     obtain rfl:=Option.some.inj h
     exact gr 12 [] [cC (Qam h25),rp 5 (nT h26),tT,oO (Eq.refl ([16].map e_i64).length),aO e_i64 h42,cC (Qam h43),rp 3 (nF h44),cC (Qam h45),rp 2 (nF h44),rp 3 (nF h46),cC (Qam h47),rp 2 (nF h46),rp 5 (nT h48),tT,oO (Eq.refl ([2].map e_i64).length),aO e_i64 h52,hW 5,hH (.frz 5),rp 4 (oO (Eq.refl (((l7 ++ [16]) ++ [2]).map e_i64).length))]
   ·obtain ⟨h53,h⟩:=Qas h
    obtain rfl:=Option.some.inj h
    exact gr 12 [] [cC (Qam h25),rp 5 (nT h26),tT,oO (Eq.refl ([16].map e_i64).length),aO e_i64 h42,cC (Qam h43),rp 3 (nF h44),cC (Qam h45),rp 2 (nF h44),rp 5 (nT h46),rp 6 tT,oO (Eq.refl ([2].map e_i64).length),aO e_i64 h53,hW 5,hH (.frz 5),rp 4 (oO (Eq.refl (((l7 ++ [16]) ++ [2]).map e_i64).length))]
  ·obtain ⟨h54,h⟩:=Qas h
   obtain rfl:=Option.some.inj h
   exact gr 12 [] [cC (Qam h25),rp 5 (nT h26),tT,oO (Eq.refl ([16].map e_i64).length),aO e_i64 h42,cC (Qam h43),rp 5 (nT h44),rp 11 tT,oO (Eq.refl ([2].map e_i64).length),aO e_i64 h54,hW 5,hH (.frz 5),rp 4 (oO (Eq.refl (((l7 ++ [16]) ++ [2]).map e_i64).length))]
theorem QjK (Γ:Gam) (rv:List Int) {x0 l6} (h:Qd7 x0 l6 = some rv):QbB Γ rv ⟨[.c 1023],⟨125,[vP 7 0 14,vO 8 1 1 l6 e_i64],[oX 14 101 (Qai.enc x0),oS 1 38 l6 e_i64]⟩⟩:=by
 unfold Qd7 at h
 obtain ⟨r8,h22,h⟩:=Qae h
 rcases Qag h with ⟨h23,h⟩|⟨h23,h⟩
 ·obtain ⟨h24,h⟩:=Qas h
  exact gn 5 [7,8] [0,3] [cC (Qam h22),rp 4 hP,rp 2 (oI ((!r8) = false)),oR True ((!r8) = false),bT h23,oO (Eq.refl ([15].map e_i64).length),aO e_i64 h24] (QjL Γ rv h)
 ·exact gn 5 [7,8] [0,1] [cC (Qam h22),rp 4 hP,rp 2 (oI ((!r8) = false)),oR True ((!r8) = false),bF h23] (QjL Γ rv h)
theorem QjJ (Γ:Gam) (rv:List Int) {x0 l5} (h:Qd6 x0 l5 = some rv):QbB Γ rv ⟨[.c 511],⟨125,[vP 7 0 14,vO 8 1 1 l5 e_i64],[oX 14 101 (Qai.enc x0),oS 1 38 l5 e_i64]⟩⟩:=by
 unfold Qd6 at h
 obtain ⟨r7,h19,h⟩:=Qae h
 rcases Qag h with ⟨h20,h⟩|⟨h20,h⟩
 ·exact gn 5 [7,8] [0,1] [cC (Qam h19),nF h20] (QjK Γ rv h)
 ·obtain ⟨h21,h⟩:=Qas h
  exact gn 5 [7,8] [0,3] [cC (Qam h19),nT h20,oO (Eq.refl ([18].map e_i64).length),aO e_i64 h21] (QjK Γ rv h)
theorem QjI (Γ:Gam) (rv:List Int) {l x0 l4} (h:Qd5 l x0 l4 = some rv):QbB Γ rv ⟨[.c 255],⟨125,[vL 1 14 l Qai.enc,vP 7 0 14,vO 8 1 1 l4 e_i64],[oX 14 101 (Qai.enc x0),oS 1 38 l4 e_i64]⟩⟩:=by
 unfold Qd5 at h
 obtain ⟨r5,h15,h⟩:=Qae h
 obtain ⟨r6,h16,h⟩:=Qae h
 rcases Qag h with ⟨h17,h⟩|⟨h17,h⟩
 ·exact gn 5 [7,8] [0,1] [hH (.draw 6 []),cC (QfK h15),cC (Qfe h16),nF h17] (QjJ Γ rv h)
 ·obtain ⟨h18,h⟩:=Qas h
  exact gn 5 [7,8] [0,3] [hH (.draw 6 []),cC (QfK h15),cC (Qfe h16),nT h17,oO (Eq.refl ([17].map e_i64).length),aO e_i64 h18] (QjJ Γ rv h)
theorem QiW (Γ:Gam) (rv:List Int) {x0 l12} (h:Qf5 x0 l12 = some rv):QbB Γ rv ⟨[.c 4095],⟨125,[vP 7 0 14,vO 8 1 1 l12 e_i64],[oX 14 101 (Qai.enc x0),oS 1 38 l12 e_i64]⟩⟩:=by
 unfold Qf5 at h
 obtain ⟨r25,h71,h⟩:=Qae h
 rcases Qag h with ⟨h72,h⟩|⟨h72,h⟩
 ·obtain ⟨r26,h73,h⟩:=Qae h
  rcases Qag h with ⟨h74,h⟩|⟨h74,h⟩
  ·obtain ⟨r27,h75,h⟩:=Qae h
   rcases Qag h with ⟨h76,h⟩|⟨h76,h⟩
   ·obtain ⟨r28,h77,h⟩:=Qae h
    rcases Qag h with ⟨h78,h⟩|⟨h78,h⟩
    ·obtain rfl:=Option.some.inj h
     exact gr 7 [] [cC (Qam h71),rp 3 (nF h72),cC (Qam h73),rp 2 (nF h72),rp 3 (nF h74),cC (Qam h75),rp 2 (nF h74),rp 3 (nF h76),cC (Qam h77),rp 2 (nF h76),nF h78,hW 5,hH (.frz 1),rp 3 (eL l12 e_i64)]
    ·obtain ⟨h79,h⟩:=Qas h
     obtain rfl:=Option.some.inj h
     exact gr 7 [] [cC (Qam h71),rp 3 (nF h72),cC (Qam h73),rp 2 (nF h72),rp 3 (nF h74),cC (Qam h75),rp 2 (nF h74),rp 3 (nF h76),cC (Qam h77),rp 2 (nF h76),nT h78,oO (Eq.refl ([2].map e_i64).length),aO e_i64 h79,hW 5,hH (.frz 3),rp 4 (oO (Eq.refl ((l12 ++ [2]).map e_i64).length))]
   ·obtain ⟨h80,h⟩:=Qas h
    obtain rfl:=Option.some.inj h
    exact gr 7 [] [cC (Qam h71),rp 3 (nF h72),cC (Qam h73),rp 2 (nF h72),rp 3 (nF h74),cC (Qam h75),rp 2 (nF h74),rp 5 (nT h76),tT,oO (Eq.refl ([2].map e_i64).length),aO e_i64 h80,hW 5,hH (.frz 3),rp 4 (oO (Eq.refl ((l12 ++ [2]).map e_i64).length))]
  ·obtain ⟨h81,h⟩:=Qas h
   obtain rfl:=Option.some.inj h
   exact gr 7 [] [cC (Qam h71),rp 3 (nF h72),cC (Qam h73),rp 2 (nF h72),rp 5 (nT h74),rp 6 tT,oO (Eq.refl ([2].map e_i64).length),aO e_i64 h81,hW 5,hH (.frz 3),rp 4 (oO (Eq.refl ((l12 ++ [2]).map e_i64).length))]
 ·obtain ⟨h82,h⟩:=Qas h
  obtain rfl:=Option.some.inj h
  exact gr 7 [] [cC (Qam h71),rp 5 (nT h72),rp 11 tT,oO (Eq.refl ([2].map e_i64).length),aO e_i64 h82,hW 5,hH (.frz 3),rp 4 (oO (Eq.refl ((l12 ++ [2]).map e_i64).length))]
theorem QiV (Γ:Gam) (rv:List Int) {x0 l11} (h:Qf4 x0 l11 = some rv):QbB Γ rv ⟨[.c 2047],⟨125,[vP 7 0 14,vO 8 1 1 l11 e_i64],[oX 14 101 (Qai.enc x0),oS 1 38 l11 e_i64]⟩⟩:=by
 unfold Qf4 at h
 obtain ⟨r23,h66,h⟩:=Qae h
 rcases Qag h with ⟨h67,h⟩|⟨h67,h⟩
 ·obtain ⟨r24,h68,h⟩:=Qae h
  rcases Qag h with ⟨h69,h⟩|⟨h69,h⟩
  ·exact gn 5 [7,8] [0,1] [cC (Qam h66),rp 3 (nF h67),cC (Qam h68),rp 2 (nF h67),nF h69] (QiW Γ rv h)
  ·obtain ⟨h70,h⟩:=Qas h
   exact gn 5 [7,8] [0,3] [cC (Qam h66),rp 3 (nF h67),cC (Qam h68),rp 2 (nF h67),nT h69,oO (Eq.refl ([16].map e_i64).length),aO e_i64 h70] (QiW Γ rv h)
 ·obtain ⟨h83,h⟩:=Qas h
  obtain ⟨r29,h84,h⟩:=Qae h
  rcases Qag h with ⟨h85,h⟩|⟨h85,h⟩
  ·obtain ⟨r30,h86,h⟩:=Qae h
   rcases Qag h with ⟨h87,h⟩|⟨h87,h⟩
   ·obtain ⟨r31,h88,h⟩:=Qae h
    rcases Qag h with ⟨h89,h⟩|⟨h89,h⟩
    ·obtain ⟨r32,h90,h⟩:=Qae h
     rcases Qag h with ⟨h91,h⟩|⟨h91,h⟩
     ·obtain rfl:=Option.some.inj h
      exact gr 12 [] [cC (Qam h66),rp 5 (nT h67),tT,oO (Eq.refl ([16].map e_i64).length),aO e_i64 h83,cC (Qam h84),rp 3 (nF h85),cC (Qam h86),rp 2 (nF h85),rp 3 (nF h87),cC (Qam h88),rp 2 (nF h87),rp 3 (nF h89),cC (Qam h90),rp 2 (nF h89),nF h91,hW 5,hH (.frz 3),rp 4 (oO (Eq.refl ((l11 ++ [16]).map e_i64).length))]
     ·obtain ⟨h92,h⟩:=Qas h
      obtain rfl:=Option.some.inj h
      exact gr 12 [] [cC (Qam h66),rp 5 (nT h67),tT,oO (Eq.refl ([16].map e_i64).length),aO e_i64 h83,cC (Qam h84),rp 3 (nF h85),cC (Qam h86),rp 2 (nF h85),rp 3 (nF h87),cC (Qam h88),rp 2 (nF h87),rp 3 (nF h89),cC (Qam h90),rp 2 (nF h89),nT h91,oO (Eq.refl ([2].map e_i64).length),aO e_i64 h92,hW 5,hH (.frz 5),rp 4 (oO (Eq.refl (((l11 ++ [16]) ++ [2]).map e_i64).length))]
    ·obtain ⟨h93,h⟩:=Qas h
     obtain rfl:=Option.some.inj h
     exact gr 12 [] [cC (Qam h66),rp 5 (nT h67),tT,oO (Eq.refl ([16].map e_i64).length),aO e_i64 h83,cC (Qam h84),rp 3 (nF h85),cC (Qam h86),rp 2 (nF h85),rp 3 (nF h87),cC (Qam h88),rp 2 (nF h87),rp 5 (nT h89),tT,oO (Eq.refl ([2].map e_i64).length),aO e_i64 h93,hW 5,hH (.frz 5),rp 4 (oO (Eq.refl (((l11 ++ [16]) ++ [2]).map e_i64).length))]
   ·obtain ⟨h94,h⟩:=Qas h
    obtain rfl:=Option.some.inj h
    exact gr 12 [] [cC (Qam h66),rp 5 (nT h67),tT,oO (Eq.refl ([16].map e_i64).length),aO e_i64 h83,cC (Qam h84),rp 3 (nF h85),cC (Qam h86),rp 2 (nF h85),rp 5 (nT h87),rp 6 tT,oO (Eq.refl ([2].map e_i64).length),aO e_i64 h94,hW 5,hH (.frz 5),rp 4 (oO (Eq.refl (((l11 ++ [16]) ++ [2]).map e_i64).length))]
  ·obtain ⟨h95,h⟩:=Qas h
   obtain rfl:=Option.some.inj h
   exact gr 12 [] [cC (Qam h66),rp 5 (nT h67),tT,oO (Eq.refl ([16].map e_i64).length),aO e_i64 h83,cC (Qam h84),rp 5 (nT h85),rp 11 tT,oO (Eq.refl ([2].map e_i64).length),aO e_i64 h95,hW 5,hH (.frz 5),rp 4 (oO (Eq.refl (((l11 ++ [16]) ++ [2]).map e_i64).length))]
theorem QiU (Γ:Gam) (rv:List Int) {x0 l10} (h:Qf3 x0 l10 = some rv):QbB Γ rv ⟨[.c 1023],⟨125,[vP 7 0 14,vO 8 1 1 l10 e_i64],[oX 14 101 (Qai.enc x0),oS 1 38 l10 e_i64]⟩⟩:=by
 unfold Qf3 at h
 obtain ⟨r22,h63,h⟩:=Qae h
 rcases Qag h with ⟨h64,h⟩|⟨h64,h⟩
 ·obtain ⟨h65,h⟩:=Qas h
  exact gn 5 [7,8] [0,3] [cC (Qam h63),rp 4 hP,rp 2 (oI ((!r22) = false)),oR True ((!r22) = false),bT h64,oO (Eq.refl ([15].map e_i64).length),aO e_i64 h65] (QiV Γ rv h)
 ·exact gn 5 [7,8] [0,1] [cC (Qam h63),rp 4 hP,rp 2 (oI ((!r22) = false)),oR True ((!r22) = false),bF h64] (QiV Γ rv h)
theorem QjN (Γ:Gam) (rv:List Int) {x0 l9} (h:QgD x0 l9 = some rv):QbB Γ rv ⟨[.c 511],⟨125,[vP 7 0 14,vO 8 1 1 l9 e_i64],[oX 14 101 (Qai.enc x0),oS 1 38 l9 e_i64]⟩⟩:=by
 unfold QgD at h
 obtain ⟨r21,h60,h⟩:=Qae h
 rcases Qag h with ⟨h61,h⟩|⟨h61,h⟩
 ·exact gn 5 [7,8] [0,1] [cC (Qam h60),nF h61] (QiU Γ rv h)
 ·obtain ⟨h62,h⟩:=Qas h
  exact gn 5 [7,8] [0,3] [cC (Qam h60),nT h61,oO (Eq.refl ([18].map e_i64).length),aO e_i64 h62] (QiU Γ rv h)
theorem QjH (Γ:Gam) (rv:List Int) {n l x0 l3} (h:Qd4 n l x0 l3 = some rv):QbB Γ rv ⟨[.c 127],⟨125,[vL 1 14 l Qai.enc,vP 3 0 2,vP 7 1 14,vO 8 2 1 l3 e_i64],[oX 2 25 (Qaj.enc n),oX 14 101 (Qai.enc x0),oS 1 38 l3 e_i64]⟩⟩:=by
 unfold Qd4 at h
 obtain ⟨r3,h10,h⟩:=Qae h
 rcases Qag h with ⟨h11,h⟩|⟨h11,h⟩
 ·obtain ⟨r4,h12,h⟩:=Qae h
  rcases Qag h with ⟨h13,h⟩|⟨h13,h⟩
  ·exact gn 5 [1,7,8] [1,2] [nL e_str n.places,cC (Qam h10),rp 5 (nF h11),nL e_str n.places,rp 2 (nF h11),cC (Qam h12),rp 2 (nF h11),nF h13] (QjI Γ rv h)
  ·obtain ⟨h14,h⟩:=Qas h
   exact gn 5 [1,7,8] [1,4] [nL e_str n.places,cC (Qam h10),rp 5 (nF h11),nL e_str n.places,rp 2 (nF h11),cC (Qam h12),rp 2 (nF h11),nT h13,oO (Eq.refl ([11].map e_i64).length),aO e_i64 h14] (QjI Γ rv h)
 ·obtain ⟨h55,h⟩:=Qas h
  obtain ⟨r19,h56,h⟩:=Qae h
  obtain ⟨r20,h57,h⟩:=Qae h
  rcases Qag h with ⟨h58,h⟩|⟨h58,h⟩
  ·exact gn 10 [7,8] [1,4] [nL e_str n.places,cC (Qam h10),rp 9 (nT h11),tT,oO (Eq.refl ([11].map e_i64).length),aO e_i64 h55,hH (.draw 6 []),cC (QfK h56),cC (Qfe h57),nF h58] (QjN Γ rv h)
  ·obtain ⟨h59,h⟩:=Qas h
   exact gn 10 [7,8] [1,6] [nL e_str n.places,cC (Qam h10),rp 9 (nT h11),tT,oO (Eq.refl ([11].map e_i64).length),aO e_i64 h55,hH (.draw 6 []),cC (QfK h56),cC (Qfe h57),nT h58,oO (Eq.refl ([17].map e_i64).length),aO e_i64 h59] (QjN Γ rv h)
theorem QjG (Γ:Gam) (rv:List Int) {n l x0 l2} (h:Qd3 n l x0 l2 = some rv):QbB Γ rv ⟨[.c 63],⟨125,[vL 1 14 l Qai.enc,vP 3 0 2,vP 7 1 14,vO 8 2 1 l2 e_i64],[oX 2 25 (Qaj.enc n),oX 14 101 (Qai.enc x0),oS 1 38 l2 e_i64]⟩⟩:=by
 unfold Qd3 at h
 obtain ⟨r2,h7,h⟩:=Qae h
 rcases Qag h with ⟨h8,h⟩|⟨h8,h⟩
 ·exact gn 5 [1,3,7,8] [0,1,2] [cC (Qam h7),nF h8] (QjH Γ rv h)
 ·obtain ⟨h9,h⟩:=Qas h
  exact gn 5 [1,3,7,8] [0,1,4] [cC (Qam h7),nT h8,oO (Eq.refl ([22].map e_i64).length),aO e_i64 h9] (QjH Γ rv h)
theorem QjF (Γ:Gam) (rv:List Int) {n l at_ x0 l1} (h:Qd2 n l at_ x0 l1 = some rv):QbB Γ rv ⟨[.c 31],⟨125,[vL 1 14 l Qai.enc,vI 2 at_,vP 3 0 2,vP 7 1 14,vO 8 2 1 l1 e_i64],[oX 2 25 (Qaj.enc n),oX 14 101 (Qai.enc x0),oS 1 38 l1 e_i64]⟩⟩:=by
 unfold Qd2 at h
 obtain ⟨r1,h4,h⟩:=Qae h
 rcases Qag h with ⟨h5,h⟩|⟨h5,h⟩
 ·obtain ⟨h6,h⟩:=Qas h
  exact gn 5 [1,3,7,8] [0,1,4] [cC (QmA h4),bT h5,oO (Eq.refl ([6].map e_i64).length),aO e_i64 h6] (QjG Γ rv h)
 ·exact gn 5 [1,3,7,8] [0,1,2] [cC (QmA h4),bF h5] (QjG Γ rv h)
theorem QqS {n l at_} {rv:List Int} (h:QgT n l at_ = some rv):AFn Tryz.prog 86 [.agg (Qaj.enc n),.one (lL 14 l Qai.enc),.one (lI at_)] [] (one (lL 1 rv e_i64)) []:=by
 refine QaL Tryz.func86 (by kernel_rfl) (by kernel_rfl) (fun Γ=>?_)
 unfold QgT at h
 obtain ⟨x0,h0,h⟩:=Qae h
 obtain ⟨r,h1,h⟩:=Qae h
 rcases Qag h with ⟨h2,h⟩|⟨h2,h⟩
 ·exact gn 11 [1,2,3,7,8] [0,1,2] [cE Qai.enc h0,cC (QeC h1),nF h2,hW 1,hH (.adopt 8 1 38)] (QjF Γ rv h)
 ·obtain ⟨h3,h⟩:=Qas h
  exact gn 11 [1,2,3,7,8] [0,1,3] [cE Qai.enc h0,cC (QeC h1),nT h2,oO (Eq.refl ([5].map e_i64).length),aN (l:=([5]:List Int)) e_i64 h3] (QjF Γ rv h)
def QfJ (Γ:Gam) (rv:List Qaa) (cf:Cf):Prop:=Go Tryz.prog Tryz.f46 [] Γ (one (lL 2 rv Qaa.enc)) [] cf
def QkY (Γ:Gam) (rv:List Qaa) (n:Qaj) (l:List Qai) (i:Int) (r1:List Int) (l3:List Qaa) (k:Int):Prop:=QfJ Γ rv ⟨[.c 31308,.l 31308,.b 2,.b 1,.c 979,.l 244,.b 0,.c 31],⟨44,[vL 1 14 l Qai.enc,vP 2 0 2,vO 5 1 2 l3 Qaa.enc,vI 6 i,vL 7 1 r1 e_i64,vI 8 k],[oX 2 25 (Qaj.enc n),oS 2 144 l3 Qaa.enc]⟩⟩
def QjD (Γ:Gam) (rv:List Qaa) (n:Qaj) (l:List Qai) (i:Int) (r1:List Int) (l4:List Qaa):Prop:=QfJ Γ rv ⟨[.b 1,.c 979,.l 244,.b 0,.c 31],⟨44,[vL 1 14 l Qai.enc,vP 2 0 2,vO 5 1 2 l4 Qaa.enc,vI 6 i],[oX 2 25 (Qaj.enc n),oS 2 144 l4 Qaa.enc]⟩⟩
def QkX (Γ:Gam) (rv:List Qaa) (n:Qaj) (l:List Qai) (l2:List Qaa) (i:Int):Prop:=QfJ Γ rv ⟨[.c 244,.l 244,.b 0,.c 31],⟨44,[vL 1 14 l Qai.enc,vP 2 0 2,vO 5 1 2 l2 Qaa.enc,vI 6 i],[oX 2 25 (Qaj.enc n),oS 2 144 l2 Qaa.enc]⟩⟩
def QjC (Γ:Gam) (rv:List Qaa) (n:Qaj) (l:List Qai) (l5:List Qaa):Prop:=QfJ Γ rv ⟨[.c 31],⟨44,[vO 5 0 2 l5 Qaa.enc],[oS 2 144 l5 Qaa.enc]⟩⟩
theorem Qo6 (Γ:Gam) (rv:List Qaa) {n l i r1} {s:List Qaa × Int} {e:List Qaa} (h:loopF (fun s=>QgC n l i r1 s.1 s.2) s = some e) (hD:QjD Γ rv n l i r1 e):QkY Γ rv n l i r1 s.1 s.2:=by
 refine QaD (C:=fun (s:List Qaa × Int)=>QkY Γ rv n l i r1 s.1 s.2) (D:=fun (e:List Qaa)=>QjD Γ rv n l i r1 e) ?_ h hD
 clear h hD s e
 rintro ⟨l3,k⟩ z_ h hI hE
 replace h:QgC n l i r1 l3 k = _:=h
 unfold QgC at h
 rcases Qag h with ⟨h5,h⟩|⟨h5,h⟩
 ·obtain ⟨x0,h6,h⟩:=Qae h
  obtain ⟨r2,h7,h⟩:=Qae h
  obtain ⟨h8,h⟩:=Qas h
  exact gn 11 [1,2,5,6,7,8] [0,3] [nL e_i64 r1,bT h5,hH (.draw 9 []),cE e_i64 h6,cC (QbP h7),oO (Eq.refl ([(Qaa.mk x0 r2)].map Qaa.enc).length),aO Qaa.enc h8] (hI _ (oJ h))
 ·exact gn 5 [1,2,5,6] [0,1] [nL e_i64 r1,bF h5] (hE _ (oJ h))
theorem Qo5 (Γ:Gam) (rv:List Qaa) {n l} {s:List Qaa × Int} {e:List Qaa} (h:loopF (fun s=>QcU n l s.1 s.2) s = some e) (hD:QjC Γ rv n l e):QkX Γ rv n l s.1 s.2:=by
 refine QaD (C:=fun (s:List Qaa × Int)=>QkX Γ rv n l s.1 s.2) (D:=fun (e:List Qaa)=>QjC Γ rv n l e) ?_ h hD
 clear h hD s e
 rintro ⟨l2,i⟩ z_ h hI hE
 replace h:QcU n l l2 i = _:=h
 unfold QcU at h
 rcases Qag h with ⟨h3,h⟩|⟨h3,h⟩
 ·obtain ⟨r1,h4,h⟩:=Qae h
  obtain ⟨e0,h9,h⟩:=Qae h
  refine gn 13 [1,2,5,6,7,8] [0,1] [nL Qai.enc l,bT h3,cC (QqS h4)] (Qo6 Γ rv h9 ?_)
  obtain ⟨l4,rfl⟩:∃ x,x = e0:=⟨_,rfl⟩
  replace h:(some (.inl (l4,(addK .i64 i 1))):Option ((List Qaa × Int) ⊕ (List Qaa))) = some _:=h
  exact gn 3 [1,2,5,6] [0,1] [] (hI _ (oJ h))
 ·exact gn 5 [5] [1] [nL Qai.enc l,bF h3] (hE _ (oJ h))
theorem QjB (Γ:Gam) (rv:List Qaa) {n l l1} (h:Qfd n l l1 = some rv):QfJ Γ rv ⟨[.c 15],⟨44,[vL 1 14 l Qai.enc,vP 2 0 2,vO 5 1 2 l1 Qaa.enc],[oX 2 25 (Qaj.enc n),oS 2 144 l1 Qaa.enc]⟩⟩:=by
 unfold Qfd at h
 obtain ⟨e1,h10,h⟩:=Qae h
 refine gn 5 [1,2,5,6] [0,1] [] (Qo5 Γ rv h10 ?_)
 obtain ⟨l5,rfl⟩:∃ x,x = e1:=⟨_,rfl⟩
 replace h:(some l5:Option (List Qaa)) = some _:=h
 obtain rfl:=Option.some.inj h
 exact gr 2 [] [hW 4,hH (.frz 0),rp 3 (eL l5 Qaa.enc)]
theorem QqR {n l} {rv:List Qaa} (h:QgR n l = some rv):AFn Tryz.prog 46 [.agg (Qaj.enc n),.one (lL 14 l Qai.enc)] [] (one (lL 2 rv Qaa.enc)) []:=by
 refine QaL Tryz.func46 (by kernel_rfl) (by kernel_rfl) (fun Γ=>?_)
 unfold QgR at h
 obtain ⟨r,h0,h⟩:=Qae h
 rcases Qag h with ⟨h1,h⟩|⟨h1,h⟩
 ·exact gn 9 [1,2,5] [0,1] [nL Qai.enc l,cC (Qam h0),nF h1,hW 1,hH (.adopt 5 2 144)] (QjB Γ rv h)
 ·obtain ⟨h2,h⟩:=Qas h
  exact gn 9 [1,2,5] [0,2] [nL Qai.enc l,cC (Qam h0),nT h1,oO (Eq.refl ([(Qaa.mk 4 ByteArray.empty)].map Qaa.enc).length),aN (l:=([(Qaa.mk 4 ByteArray.empty)]:List Qaa)) Qaa.enc h2] (QjB Γ rv h)
def Qnf (Γ:Gam) (rv:Bool) (cf:Cf):Prop:=Go Tryz.prog Tryz.f133 [] Γ (one (.bool rv)) [] cf
def QkS (Γ:Gam) (rv:Bool) (a:List Int) (i:Int):Prop:=Qnf Γ rv ⟨[.c 116,.l 116,.b 0,.c 15],⟨28,[vL 0 1 a e_i64,vI 5 i],[]⟩⟩
def Qju (Γ:Gam) (rv:Bool) (a:List Int):Prop:=Qnf Γ rv ⟨[.c 15],⟨28,[],[]⟩⟩
theorem Qo1 (Γ:Gam) (rv:Bool) {a} {s:Int} {e:(Unit) ⊕ (Bool)} (h:loopF (fun s=>Qcj a s) s = some e) (hD:sel e (fun e=>Qju Γ rv a) (fun e=>e = rv)):QkS Γ rv a s:=by
 refine QaD (C:=fun (s:Int)=>QkS Γ rv a s) (D:=fun (e:(Unit) ⊕ (Bool))=>sel e (fun e=>Qju Γ rv a) (fun e=>e = rv)) ?_ h hD
 clear h hD s e
 intro i z_ h hI hE
 replace h:Qcj a i = _:=h
 unfold Qcj at h
 rcases Qag h with ⟨h1,h⟩|⟨h1,h⟩
 ·obtain ⟨x0,h2,h⟩:=Qae h
  rcases Qag h with ⟨h3,h⟩|⟨h3,h⟩
  ·obtain rfl:=(hE _ (oJ h):_ = rv)
   exact gr 12 [] [nL e_i64 a,bT h1,cE e_i64 h2,rp 6 (bT h3),tT]
  ·rcases Qag h with ⟨h4,h⟩|⟨h4,h⟩
   ·obtain rfl:=(hE _ (oJ h):_ = rv)
    exact gr 12 [] [nL e_i64 a,bT h1,cE e_i64 h2,rp 3 (bF h3),cE e_i64 h2,rp 3 (bF h3),bT h4]
   ·exact gn 14 [0,5] [] [nL e_i64 a,bT h1,cE e_i64 h2,rp 3 (bF h3),cE e_i64 h2,rp 3 (bF h3),bF h4] (hI _ (oJ h))
 ·exact gn 5 [] [] [nL e_i64 a,bF h1] (hE _ (oJ h))
theorem Qmv {a dims} {rv:Bool} (h:QeO a dims = some rv):AFn Tryz.prog 133 [.one (lL 1 a e_i64),.one (lI dims)] [] (one (.bool rv)) []:=by
 refine QaL Tryz.func133 (by kernel_rfl) (by kernel_rfl) (fun Γ=>?_)
 unfold QeO at h
 rcases Qag h with ⟨h0,h⟩|⟨h0,h⟩
 ·obtain rfl:=Option.some.inj h
  exact gr 8 [] [nL e_i64 a,bT h0]
 ·obtain ⟨e0,h5,h⟩:=Qae h
  refine gn 12 [0,5] [] [nL e_i64 a,bF h0] (Qo1 Γ rv h5 ?_)
  rcases e0 with e0|e0
  ·replace h:(some true:Option Bool) = some _:=h
   obtain rfl:=Option.some.inj h
   exact gr 2 [] []
  ·obtain ⟨r,rfl⟩:∃ x,x = e0:=⟨_,rfl⟩
   replace h:(some r:Option Bool) = some _:=h
   exact Option.some.inj h
theorem QaF {n low high} {rv:Bool} (h:Qb6 n low high = some rv):AFn Tryz.prog 134 [.one (lI n),.one (lI low),.one (lI high)] [] (one (.bool rv)) []:=by
 refine QaL Tryz.func134 (by kernel_rfl) (by kernel_rfl) (fun Γ=>?_)
 unfold Qb6 at h
 obtain rfl:=Option.some.inj h
 exact gr 4 [] [rp 4 hP,rp 2 (oI ((geI n low) = true)),oR True ((geI n low) = true)]
theorem Qbt {s0} {rv:Int} (h:QdR s0 = some rv):AFn Tryz.prog 135 [.agg (Qar.enc s0)] [] (one (lI rv)) []:=by
 refine QaL Tryz.func135 (by kernel_rfl) (by kernel_rfl) (fun Γ=>?_)
 unfold QdR at h
 rcases Qag h with ⟨h0,h⟩|⟨h0,h⟩
 ·obtain rfl:=Option.some.inj h
  exact gr 8 [] [rp 12 hP,rp 2 (oI ((eqI s0.place (-1)) = true)),oR True ((eqI s0.place (-1)) = true),rp 2 (oI (((eqI s0.place (-1)) && (eqI s0.open_ 0)) = true)),oR True (((eqI s0.place (-1)) && (eqI s0.open_ 0)) = true),rp 2 (oI ((((eqI s0.place (-1)) && (eqI s0.open_ 0)) && (eqI s0.close 0)) = true)),oR True ((((eqI s0.place (-1)) && (eqI s0.open_ 0)) && (eqI s0.close 0)) = true),bT h0]
 ·rcases Qag h with ⟨h1,h⟩|⟨h1,h⟩
  ·obtain rfl:=Option.some.inj h
   exact gr 13 [] [rp 12 hP,rp 2 (oI ((eqI s0.place (-1)) = true)),oR True ((eqI s0.place (-1)) = true),rp 2 (oI (((eqI s0.place (-1)) && (eqI s0.open_ 0)) = true)),oR True (((eqI s0.place (-1)) && (eqI s0.open_ 0)) = true),rp 2 (oI ((((eqI s0.place (-1)) && (eqI s0.open_ 0)) && (eqI s0.close 0)) = true)),oR True ((((eqI s0.place (-1)) && (eqI s0.open_ 0)) && (eqI s0.close 0)) = true),bF h0,rp 22 hP,rp 2 (oI ((ltI s0.place 0) = false)),oR True ((ltI s0.place 0) = false),rp 4 (oI (((ltI s0.place 0) || (ltI s0.open_ 0)) = false)),oR True (((ltI s0.place 0) || (ltI s0.open_ 0)) = false),rp 2 (oI ((((ltI s0.place 0) || (ltI s0.open_ 0)) || (gtI s0.open_ s0.close)) = false)),oR True ((((ltI s0.place 0) || (ltI s0.open_ 0)) || (gtI s0.open_ s0.close)) = false),rp 2 (oI (((((ltI s0.place 0) || (ltI s0.open_ 0)) || (gtI s0.open_ s0.close)) || (gtI s0.close 4096)) = false)),oR True (((((ltI s0.place 0) || (ltI s0.open_ 0)) || (gtI s0.open_ s0.close)) || (gtI s0.close 4096)) = false),rp 2 (oI ((((((ltI s0.place 0) || (ltI s0.open_ 0)) || (gtI s0.open_ s0.close)) || (gtI s0.close 4096)) || (ltI s0.service 0)) = false)),oR True ((((((ltI s0.place 0) || (ltI s0.open_ 0)) || (gtI s0.open_ s0.close)) || (gtI s0.close 4096)) || (ltI s0.service 0)) = false),bT h1]
  ·obtain rfl:=Option.some.inj h
   exact gr 14 [] [rp 12 hP,rp 2 (oI ((eqI s0.place (-1)) = true)),oR True ((eqI s0.place (-1)) = true),rp 2 (oI (((eqI s0.place (-1)) && (eqI s0.open_ 0)) = true)),oR True (((eqI s0.place (-1)) && (eqI s0.open_ 0)) = true),rp 2 (oI ((((eqI s0.place (-1)) && (eqI s0.open_ 0)) && (eqI s0.close 0)) = true)),oR True ((((eqI s0.place (-1)) && (eqI s0.open_ 0)) && (eqI s0.close 0)) = true),bF h0,rp 22 hP,rp 2 (oI ((ltI s0.place 0) = false)),oR True ((ltI s0.place 0) = false),rp 4 (oI (((ltI s0.place 0) || (ltI s0.open_ 0)) = false)),oR True (((ltI s0.place 0) || (ltI s0.open_ 0)) = false),rp 2 (oI ((((ltI s0.place 0) || (ltI s0.open_ 0)) || (gtI s0.open_ s0.close)) = false)),oR True ((((ltI s0.place 0) || (ltI s0.open_ 0)) || (gtI s0.open_ s0.close)) = false),rp 2 (oI (((((ltI s0.place 0) || (ltI s0.open_ 0)) || (gtI s0.open_ s0.close)) || (gtI s0.close 4096)) = false)),oR True (((((ltI s0.place 0) || (ltI s0.open_ 0)) || (gtI s0.open_ s0.close)) || (gtI s0.close 4096)) = false),rp 2 (oI ((((((ltI s0.place 0) || (ltI s0.open_ 0)) || (gtI s0.open_ s0.close)) || (gtI s0.close 4096)) || (ltI s0.service 0)) = false)),oR True ((((((ltI s0.place 0) || (ltI s0.open_ 0)) || (gtI s0.open_ s0.close)) || (gtI s0.close 4096)) || (ltI s0.service 0)) = false),bF h1]
def Qbs (Γ:Gam) (rv:List Int) (cf:Cf):Prop:=Go Tryz.prog Tryz.f88 [] Γ (one (lL 1 rv e_i64)) [] cf
def Qk3 (Γ:Gam) (rv:List Int) (places:Int) (dims:Int) (types:Int) (l:List Qak) (at_:Int) (x0:Qak) (l1:List Int) (i:Int):Prop:=Qbs Γ rv ⟨[.c 500,.l 500,.b 0,.c 63],⟨156,[vI 0 places,vI 1 dims,vI 2 types,vL 3 16 l Qak.enc,vI 4 at_,vO 11 0 1 l1 e_i64,vP 12 1 16,vI 13 i],[oS 1 38 l1 e_i64,oX 16 105 (Qak.enc x0)]⟩⟩
def Qj0 (Γ:Gam) (rv:List Int) (places:Int) (dims:Int) (types:Int) (l:List Qak) (at_:Int) (x0:Qak) (l1:List Int) (l2:List Int):Prop:=Qbs Γ rv ⟨[.c 63],⟨156,[vI 0 places,vI 1 dims,vI 2 types,vO 11 0 1 l2 e_i64,vP 12 1 16],[oS 1 38 l2 e_i64,oX 16 105 (Qak.enc x0)]⟩⟩
theorem Qpa (Γ:Gam) (rv:List Int) {places dims types l at_ x0 l1} {s:Int} {e:List Int} (h:loopF (fun s=>Qcn places dims types l at_ x0 l1 s) s = some e) (hD:Qj0 Γ rv places dims types l at_ x0 l1 e):Qk3 Γ rv places dims types l at_ x0 l1 s:=by
 refine QaD (C:=fun (s:Int)=>Qk3 Γ rv places dims types l at_ x0 l1 s) (D:=fun (e:List Int)=>Qj0 Γ rv places dims types l at_ x0 l1 e) ?_ h hD
 clear h hD s e
 intro i z_ h hI hE
 replace h:Qcn places dims types l at_ x0 l1 i = _:=h
 unfold Qcn at h
 rcases Qag h with ⟨h4,h⟩|⟨h4,h⟩
 ·obtain ⟨x1,h5,h⟩:=Qae h
  rcases Qag h with ⟨h6,h⟩|⟨h6,h⟩
  ·obtain ⟨h7,h⟩:=Qas h
   exact gn 13 [0,1,2,11,12] [3,1] [bT h4,hH (.draw 8 []),cE Qak.enc h5,bT h6,oO (Eq.refl ([6].map e_i64).length),aO e_i64 h7] (hE _ (oJ h))
  ·exact gn 14 [0,1,2,3,4,11,12,13] [0,1] [bT h4,hH (.draw 8 []),cE Qak.enc h5,bF h6] (hI _ (oJ h))
 ·exact gn 5 [0,1,2,11,12] [0,1] [bF h4] (hE _ (oJ h))
theorem QjV (Γ:Gam) (rv:List Int) {types x0 l6} (h:Qed types x0 l6 = some rv):Qbs Γ rv ⟨[.c 2047],⟨156,[vI 2 types,vO 11 0 1 l6 e_i64,vP 12 1 16],[oS 1 38 l6 e_i64,oX 16 105 (Qak.enc x0)]⟩⟩:=by
 unfold Qed at h
 obtain ⟨r6,h25,h⟩:=Qae h
 rcases Qag h with ⟨h26,h⟩|⟨h26,h⟩
 ·obtain ⟨r7,h27,h⟩:=Qae h
  rcases Qag h with ⟨h28,h⟩|⟨h28,h⟩
  ·obtain ⟨h29,h⟩:=Qas h
   obtain rfl:=Option.some.inj h
   exact gr 9 [] [rp 5 hP,rp 3 (oI ((neI x0.pick.place (-1)) = true)),oR True ((neI x0.pick.place (-1)) = true),cC (QaF h25),rp 3 (nF h26),cC (QaF h27),rp 2 (nF h26),rp 26 hP,rp 4 (oI ((!r7) = false)),oI (((!r7) = false)∧(gtI x0.split 1) = true),oR True ((!r7) = false),rp 2 (oI (((!r7) || ((gtI x0.split 1) && ((neI x0.pick.place (-1)) && (neI x0.drop.place (-1))))) = false)),oR True (((!r7) || ((gtI x0.split 1) && ((neI x0.pick.place (-1)) && (neI x0.drop.place (-1))))) = false),rp 3 (oI ((((!r7) || ((gtI x0.split 1) && ((neI x0.pick.place (-1)) && (neI x0.drop.place (-1))))) || (ltI x0.last_ (-1))) = false)),oR True ((((!r7) || ((gtI x0.split 1) && ((neI x0.pick.place (-1)) && (neI x0.drop.place (-1))))) || (ltI x0.last_ (-1))) = false),rp 2 (oI (((((!r7) || ((gtI x0.split 1) && ((neI x0.pick.place (-1)) && (neI x0.drop.place (-1))))) || (ltI x0.last_ (-1))) || (geI x0.last_ types)) = false)),oR True (((((!r7) || ((gtI x0.split 1) && ((neI x0.pick.place (-1)) && (neI x0.drop.place (-1))))) || (ltI x0.last_ (-1))) || (geI x0.last_ types)) = false),rp 3 (oI ((((((!r7) || ((gtI x0.split 1) && ((neI x0.pick.place (-1)) && (neI x0.drop.place (-1))))) || (ltI x0.last_ (-1))) || (geI x0.last_ types)) || (ltI x0.now (-1))) = false)),oR True ((((((!r7) || ((gtI x0.split 1) && ((neI x0.pick.place (-1)) && (neI x0.drop.place (-1))))) || (ltI x0.last_ (-1))) || (geI x0.last_ types)) || (ltI x0.now (-1))) = false),bT h28,oO (Eq.refl ([2].map e_i64).length),aO e_i64 h29,hW 5,hH (.frz 3),rp 4 (oO (Eq.refl ((l6 ++ [2]).map e_i64).length))]
  ·obtain rfl:=Option.some.inj h
   exact gr 9 [] [rp 5 hP,rp 3 (oI ((neI x0.pick.place (-1)) = true)),oR True ((neI x0.pick.place (-1)) = true),cC (QaF h25),rp 3 (nF h26),cC (QaF h27),rp 2 (nF h26),rp 26 hP,rp 4 (oI ((!r7) = false)),oI (((!r7) = false)∧(gtI x0.split 1) = true),oR True ((!r7) = false),rp 2 (oI (((!r7) || ((gtI x0.split 1) && ((neI x0.pick.place (-1)) && (neI x0.drop.place (-1))))) = false)),oR True (((!r7) || ((gtI x0.split 1) && ((neI x0.pick.place (-1)) && (neI x0.drop.place (-1))))) = false),rp 3 (oI ((((!r7) || ((gtI x0.split 1) && ((neI x0.pick.place (-1)) && (neI x0.drop.place (-1))))) || (ltI x0.last_ (-1))) = false)),oR True ((((!r7) || ((gtI x0.split 1) && ((neI x0.pick.place (-1)) && (neI x0.drop.place (-1))))) || (ltI x0.last_ (-1))) = false),rp 2 (oI (((((!r7) || ((gtI x0.split 1) && ((neI x0.pick.place (-1)) && (neI x0.drop.place (-1))))) || (ltI x0.last_ (-1))) || (geI x0.last_ types)) = false)),oR True (((((!r7) || ((gtI x0.split 1) && ((neI x0.pick.place (-1)) && (neI x0.drop.place (-1))))) || (ltI x0.last_ (-1))) || (geI x0.last_ types)) = false),rp 3 (oI ((((((!r7) || ((gtI x0.split 1) && ((neI x0.pick.place (-1)) && (neI x0.drop.place (-1))))) || (ltI x0.last_ (-1))) || (geI x0.last_ types)) || (ltI x0.now (-1))) = false)),oR True ((((((!r7) || ((gtI x0.split 1) && ((neI x0.pick.place (-1)) && (neI x0.drop.place (-1))))) || (ltI x0.last_ (-1))) || (geI x0.last_ types)) || (ltI x0.now (-1))) = false),bF h28,hW 5,hH (.frz 0),rp 3 (eL l6 e_i64)]
 ·obtain ⟨h30,h⟩:=Qas h
  obtain rfl:=Option.some.inj h
  exact gr 9 [] [rp 5 hP,rp 3 (oI ((neI x0.pick.place (-1)) = true)),oR True ((neI x0.pick.place (-1)) = true),cC (QaF h25),rp 5 (nT h26),rp 4 tT,kF,rp 21 tT,oO (Eq.refl ([2].map e_i64).length),aO e_i64 h30,hW 5,hH (.frz 3),rp 4 (oO (Eq.refl ((l6 ++ [2]).map e_i64).length))]
theorem QjX (Γ:Gam) (rv:List Int) {types x0 l8} (h:QgF types x0 l8 = some rv):Qbs Γ rv ⟨[.c 2047],⟨156,[vI 2 types,vO 11 0 1 l8 e_i64,vP 12 1 16],[oS 1 38 l8 e_i64,oX 16 105 (Qak.enc x0)]⟩⟩:=by
 unfold QgF at h
 obtain ⟨r10,h37,h⟩:=Qae h
 rcases Qag h with ⟨h38,h⟩|⟨h38,h⟩
 ·obtain ⟨r11,h39,h⟩:=Qae h
  rcases Qag h with ⟨h40,h⟩|⟨h40,h⟩
  ·obtain ⟨h41,h⟩:=Qas h
   obtain rfl:=Option.some.inj h
   exact gr 9 [] [rp 5 hP,rp 3 (oI ((neI x0.pick.place (-1)) = true)),oR True ((neI x0.pick.place (-1)) = true),cC (QaF h37),rp 3 (nF h38),cC (QaF h39),rp 2 (nF h38),rp 26 hP,rp 4 (oI ((!r11) = false)),oI (((!r11) = false)∧(gtI x0.split 1) = true),oR True ((!r11) = false),rp 2 (oI (((!r11) || ((gtI x0.split 1) && ((neI x0.pick.place (-1)) && (neI x0.drop.place (-1))))) = false)),oR True (((!r11) || ((gtI x0.split 1) && ((neI x0.pick.place (-1)) && (neI x0.drop.place (-1))))) = false),rp 3 (oI ((((!r11) || ((gtI x0.split 1) && ((neI x0.pick.place (-1)) && (neI x0.drop.place (-1))))) || (ltI x0.last_ (-1))) = false)),oR True ((((!r11) || ((gtI x0.split 1) && ((neI x0.pick.place (-1)) && (neI x0.drop.place (-1))))) || (ltI x0.last_ (-1))) = false),rp 2 (oI (((((!r11) || ((gtI x0.split 1) && ((neI x0.pick.place (-1)) && (neI x0.drop.place (-1))))) || (ltI x0.last_ (-1))) || (geI x0.last_ types)) = false)),oR True (((((!r11) || ((gtI x0.split 1) && ((neI x0.pick.place (-1)) && (neI x0.drop.place (-1))))) || (ltI x0.last_ (-1))) || (geI x0.last_ types)) = false),rp 3 (oI ((((((!r11) || ((gtI x0.split 1) && ((neI x0.pick.place (-1)) && (neI x0.drop.place (-1))))) || (ltI x0.last_ (-1))) || (geI x0.last_ types)) || (ltI x0.now (-1))) = false)),oR True ((((((!r11) || ((gtI x0.split 1) && ((neI x0.pick.place (-1)) && (neI x0.drop.place (-1))))) || (ltI x0.last_ (-1))) || (geI x0.last_ types)) || (ltI x0.now (-1))) = false),bT h40,oO (Eq.refl ([2].map e_i64).length),aO e_i64 h41,hW 5,hH (.frz 3),rp 4 (oO (Eq.refl ((l8 ++ [2]).map e_i64).length))]
  ·obtain rfl:=Option.some.inj h
   exact gr 9 [] [rp 5 hP,rp 3 (oI ((neI x0.pick.place (-1)) = true)),oR True ((neI x0.pick.place (-1)) = true),cC (QaF h37),rp 3 (nF h38),cC (QaF h39),rp 2 (nF h38),rp 26 hP,rp 4 (oI ((!r11) = false)),oI (((!r11) = false)∧(gtI x0.split 1) = true),oR True ((!r11) = false),rp 2 (oI (((!r11) || ((gtI x0.split 1) && ((neI x0.pick.place (-1)) && (neI x0.drop.place (-1))))) = false)),oR True (((!r11) || ((gtI x0.split 1) && ((neI x0.pick.place (-1)) && (neI x0.drop.place (-1))))) = false),rp 3 (oI ((((!r11) || ((gtI x0.split 1) && ((neI x0.pick.place (-1)) && (neI x0.drop.place (-1))))) || (ltI x0.last_ (-1))) = false)),oR True ((((!r11) || ((gtI x0.split 1) && ((neI x0.pick.place (-1)) && (neI x0.drop.place (-1))))) || (ltI x0.last_ (-1))) = false),rp 2 (oI (((((!r11) || ((gtI x0.split 1) && ((neI x0.pick.place (-1)) && (neI x0.drop.place (-1))))) || (ltI x0.last_ (-1))) || (geI x0.last_ types)) = false)),oR True (((((!r11) || ((gtI x0.split 1) && ((neI x0.pick.place (-1)) && (neI x0.drop.place (-1))))) || (ltI x0.last_ (-1))) || (geI x0.last_ types)) = false),rp 3 (oI ((((((!r11) || ((gtI x0.split 1) && ((neI x0.pick.place (-1)) && (neI x0.drop.place (-1))))) || (ltI x0.last_ (-1))) || (geI x0.last_ types)) || (ltI x0.now (-1))) = false)),oR True ((((((!r11) || ((gtI x0.split 1) && ((neI x0.pick.place (-1)) && (neI x0.drop.place (-1))))) || (ltI x0.last_ (-1))) || (geI x0.last_ types)) || (ltI x0.now (-1))) = false),bF h40,hW 5,hH (.frz 0),rp 3 (eL l8 e_i64)]
 ·obtain ⟨h42,h⟩:=Qas h
  obtain rfl:=Option.some.inj h
  exact gr 9 [] [rp 5 hP,rp 3 (oI ((neI x0.pick.place (-1)) = true)),oR True ((neI x0.pick.place (-1)) = true),cC (QaF h37),rp 5 (nT h38),rp 4 tT,kF,rp 21 tT,oO (Eq.refl ([2].map e_i64).length),aO e_i64 h42,hW 5,hH (.frz 3),rp 4 (oO (Eq.refl ((l8 ++ [2]).map e_i64).length))]
theorem QjW (Γ:Gam) (rv:List Int) {types x0 l7} (h:Qee types x0 l7 = some rv):Qbs Γ rv ⟨[.c 1023],⟨156,[vI 2 types,vO 11 0 1 l7 e_i64,vP 12 1 16],[oS 1 38 l7 e_i64,oX 16 105 (Qak.enc x0)]⟩⟩:=by
 unfold Qee at h
 obtain ⟨r9,h34,h⟩:=Qae h
 rcases Qag h with ⟨h35,h⟩|⟨h35,h⟩
 ·exact gn 5 [2,11,12] [0,1] [cC (QaF h34),nF h35] (QjX Γ rv h)
 ·obtain ⟨h36,h⟩:=Qas h
  exact gn 5 [2,11,12] [3,1] [cC (QaF h34),nT h35,oO (Eq.refl ([18].map e_i64).length),aO e_i64 h36] (QjX Γ rv h)
theorem QjU (Γ:Gam) (rv:List Int) {types x0 l5} (h:Qec types x0 l5 = some rv):Qbs Γ rv ⟨[.c 511],⟨156,[vI 2 types,vO 11 0 1 l5 e_i64,vP 12 1 16],[oS 1 38 l5 e_i64,oX 16 105 (Qak.enc x0)]⟩⟩:=by
 unfold Qec at h
 obtain ⟨r4,h19,h⟩:=Qae h
 rcases Qag h with ⟨h20,h⟩|⟨h20,h⟩
 ·obtain ⟨h21,h⟩:=Qas h
  obtain ⟨r5,h22,h⟩:=Qae h
  rcases Qag h with ⟨h23,h⟩|⟨h23,h⟩
  ·exact gn 10 [2,11,12] [3,1] [cC (Qbt h19),rp 5 (bT h20),tT,oO (Eq.refl ([14].map e_i64).length),aO e_i64 h21,cC (QaF h22),nF h23] (QjV Γ rv h)
  ·obtain ⟨h24,h⟩:=Qas h
   exact gn 10 [2,11,12] [5,1] [cC (Qbt h19),rp 5 (bT h20),tT,oO (Eq.refl ([14].map e_i64).length),aO e_i64 h21,cC (QaF h22),nT h23,oO (Eq.refl ([18].map e_i64).length),aO e_i64 h24] (QjV Γ rv h)
 ·obtain ⟨r8,h31,h⟩:=Qae h
  rcases Qag h with ⟨h32,h⟩|⟨h32,h⟩
  ·obtain ⟨h33,h⟩:=Qas h
   exact gn 5 [2,11,12] [3,1] [cC (Qbt h19),rp 3 (bF h20),cC (Qbt h31),rp 2 (bF h20),bT h32,oO (Eq.refl ([14].map e_i64).length),aO e_i64 h33] (QjW Γ rv h)
  ·exact gn 5 [2,11,12] [0,1] [cC (Qbt h19),rp 3 (bF h20),cC (Qbt h31),rp 2 (bF h20),bF h32] (QjW Γ rv h)
theorem QjT (Γ:Gam) (rv:List Int) {types x0 l4} (h:Qeb types x0 l4 = some rv):Qbs Γ rv ⟨[.c 255],⟨156,[vI 2 types,vO 11 0 1 l4 e_i64,vP 12 1 16],[oS 1 38 l4 e_i64,oX 16 105 (Qak.enc x0)]⟩⟩:=by
 unfold Qeb at h
 rcases Qag h with ⟨h17,h⟩|⟨h17,h⟩
 ·obtain ⟨h18,h⟩:=Qas h
  exact gn 5 [2,11,12] [3,1] [rp 5 hP,rp 3 (oI ((eqI x0.pick.place (-1)) = true)),oR True ((eqI x0.pick.place (-1)) = true),bT h17,oO (Eq.refl ([19].map e_i64).length),aO e_i64 h18] (QjU Γ rv h)
 ·exact gn 5 [2,11,12] [0,1] [rp 5 hP,rp 3 (oI ((eqI x0.pick.place (-1)) = true)),oR True ((eqI x0.pick.place (-1)) = true),bF h17] (QjU Γ rv h)
theorem QjZ (Γ:Gam) (rv:List Int) {types x0 l10} (h:QgH types x0 l10 = some rv):Qbs Γ rv ⟨[.c 2047],⟨156,[vI 2 types,vO 11 0 1 l10 e_i64,vP 12 1 16],[oS 1 38 l10 e_i64,oX 16 105 (Qak.enc x0)]⟩⟩:=by
 unfold QgH at h
 obtain ⟨r14,h52,h⟩:=Qae h
 rcases Qag h with ⟨h53,h⟩|⟨h53,h⟩
 ·obtain ⟨r15,h54,h⟩:=Qae h
  rcases Qag h with ⟨h55,h⟩|⟨h55,h⟩
  ·obtain ⟨h56,h⟩:=Qas h
   obtain rfl:=Option.some.inj h
   exact gr 9 [] [rp 5 hP,rp 3 (oI ((neI x0.pick.place (-1)) = true)),oR True ((neI x0.pick.place (-1)) = true),cC (QaF h52),rp 3 (nF h53),cC (QaF h54),rp 2 (nF h53),rp 26 hP,rp 4 (oI ((!r15) = false)),oI (((!r15) = false)∧(gtI x0.split 1) = true),oR True ((!r15) = false),rp 2 (oI (((!r15) || ((gtI x0.split 1) && ((neI x0.pick.place (-1)) && (neI x0.drop.place (-1))))) = false)),oR True (((!r15) || ((gtI x0.split 1) && ((neI x0.pick.place (-1)) && (neI x0.drop.place (-1))))) = false),rp 3 (oI ((((!r15) || ((gtI x0.split 1) && ((neI x0.pick.place (-1)) && (neI x0.drop.place (-1))))) || (ltI x0.last_ (-1))) = false)),oR True ((((!r15) || ((gtI x0.split 1) && ((neI x0.pick.place (-1)) && (neI x0.drop.place (-1))))) || (ltI x0.last_ (-1))) = false),rp 2 (oI (((((!r15) || ((gtI x0.split 1) && ((neI x0.pick.place (-1)) && (neI x0.drop.place (-1))))) || (ltI x0.last_ (-1))) || (geI x0.last_ types)) = false)),oR True (((((!r15) || ((gtI x0.split 1) && ((neI x0.pick.place (-1)) && (neI x0.drop.place (-1))))) || (ltI x0.last_ (-1))) || (geI x0.last_ types)) = false),rp 3 (oI ((((((!r15) || ((gtI x0.split 1) && ((neI x0.pick.place (-1)) && (neI x0.drop.place (-1))))) || (ltI x0.last_ (-1))) || (geI x0.last_ types)) || (ltI x0.now (-1))) = false)),oR True ((((((!r15) || ((gtI x0.split 1) && ((neI x0.pick.place (-1)) && (neI x0.drop.place (-1))))) || (ltI x0.last_ (-1))) || (geI x0.last_ types)) || (ltI x0.now (-1))) = false),bT h55,oO (Eq.refl ([2].map e_i64).length),aO e_i64 h56,hW 5,hH (.frz 3),rp 4 (oO (Eq.refl ((l10 ++ [2]).map e_i64).length))]
  ·obtain rfl:=Option.some.inj h
   exact gr 9 [] [rp 5 hP,rp 3 (oI ((neI x0.pick.place (-1)) = true)),oR True ((neI x0.pick.place (-1)) = true),cC (QaF h52),rp 3 (nF h53),cC (QaF h54),rp 2 (nF h53),rp 26 hP,rp 4 (oI ((!r15) = false)),oI (((!r15) = false)∧(gtI x0.split 1) = true),oR True ((!r15) = false),rp 2 (oI (((!r15) || ((gtI x0.split 1) && ((neI x0.pick.place (-1)) && (neI x0.drop.place (-1))))) = false)),oR True (((!r15) || ((gtI x0.split 1) && ((neI x0.pick.place (-1)) && (neI x0.drop.place (-1))))) = false),rp 3 (oI ((((!r15) || ((gtI x0.split 1) && ((neI x0.pick.place (-1)) && (neI x0.drop.place (-1))))) || (ltI x0.last_ (-1))) = false)),oR True ((((!r15) || ((gtI x0.split 1) && ((neI x0.pick.place (-1)) && (neI x0.drop.place (-1))))) || (ltI x0.last_ (-1))) = false),rp 2 (oI (((((!r15) || ((gtI x0.split 1) && ((neI x0.pick.place (-1)) && (neI x0.drop.place (-1))))) || (ltI x0.last_ (-1))) || (geI x0.last_ types)) = false)),oR True (((((!r15) || ((gtI x0.split 1) && ((neI x0.pick.place (-1)) && (neI x0.drop.place (-1))))) || (ltI x0.last_ (-1))) || (geI x0.last_ types)) = false),rp 3 (oI ((((((!r15) || ((gtI x0.split 1) && ((neI x0.pick.place (-1)) && (neI x0.drop.place (-1))))) || (ltI x0.last_ (-1))) || (geI x0.last_ types)) || (ltI x0.now (-1))) = false)),oR True ((((((!r15) || ((gtI x0.split 1) && ((neI x0.pick.place (-1)) && (neI x0.drop.place (-1))))) || (ltI x0.last_ (-1))) || (geI x0.last_ types)) || (ltI x0.now (-1))) = false),bF h55,hW 5,hH (.frz 0),rp 3 (eL l10 e_i64)]
 ·obtain ⟨h57,h⟩:=Qas h
  obtain rfl:=Option.some.inj h
  exact gr 9 [] [rp 5 hP,rp 3 (oI ((neI x0.pick.place (-1)) = true)),oR True ((neI x0.pick.place (-1)) = true),cC (QaF h52),rp 5 (nT h53),rp 4 tT,kF,rp 21 tT,oO (Eq.refl ([2].map e_i64).length),aO e_i64 h57,hW 5,hH (.frz 3),rp 4 (oO (Eq.refl ((l10 ++ [2]).map e_i64).length))]
theorem QiY (Γ:Gam) (rv:List Int) {types x0 l12} (h:Qf7 types x0 l12 = some rv):Qbs Γ rv ⟨[.c 2047],⟨156,[vI 2 types,vO 11 0 1 l12 e_i64,vP 12 1 16],[oS 1 38 l12 e_i64,oX 16 105 (Qak.enc x0)]⟩⟩:=by
 unfold Qf7 at h
 obtain ⟨r18,h64,h⟩:=Qae h
 rcases Qag h with ⟨h65,h⟩|⟨h65,h⟩
 ·obtain ⟨r19,h66,h⟩:=Qae h
  rcases Qag h with ⟨h67,h⟩|⟨h67,h⟩
  ·obtain ⟨h68,h⟩:=Qas h
   obtain rfl:=Option.some.inj h
   exact gr 9 [] [rp 5 hP,rp 3 (oI ((neI x0.pick.place (-1)) = true)),oR True ((neI x0.pick.place (-1)) = true),cC (QaF h64),rp 3 (nF h65),cC (QaF h66),rp 2 (nF h65),rp 26 hP,rp 4 (oI ((!r19) = false)),oI (((!r19) = false)∧(gtI x0.split 1) = true),oR True ((!r19) = false),rp 2 (oI (((!r19) || ((gtI x0.split 1) && ((neI x0.pick.place (-1)) && (neI x0.drop.place (-1))))) = false)),oR True (((!r19) || ((gtI x0.split 1) && ((neI x0.pick.place (-1)) && (neI x0.drop.place (-1))))) = false),rp 3 (oI ((((!r19) || ((gtI x0.split 1) && ((neI x0.pick.place (-1)) && (neI x0.drop.place (-1))))) || (ltI x0.last_ (-1))) = false)),oR True ((((!r19) || ((gtI x0.split 1) && ((neI x0.pick.place (-1)) && (neI x0.drop.place (-1))))) || (ltI x0.last_ (-1))) = false),rp 2 (oI (((((!r19) || ((gtI x0.split 1) && ((neI x0.pick.place (-1)) && (neI x0.drop.place (-1))))) || (ltI x0.last_ (-1))) || (geI x0.last_ types)) = false)),oR True (((((!r19) || ((gtI x0.split 1) && ((neI x0.pick.place (-1)) && (neI x0.drop.place (-1))))) || (ltI x0.last_ (-1))) || (geI x0.last_ types)) = false),rp 3 (oI ((((((!r19) || ((gtI x0.split 1) && ((neI x0.pick.place (-1)) && (neI x0.drop.place (-1))))) || (ltI x0.last_ (-1))) || (geI x0.last_ types)) || (ltI x0.now (-1))) = false)),oR True ((((((!r19) || ((gtI x0.split 1) && ((neI x0.pick.place (-1)) && (neI x0.drop.place (-1))))) || (ltI x0.last_ (-1))) || (geI x0.last_ types)) || (ltI x0.now (-1))) = false),bT h67,oO (Eq.refl ([2].map e_i64).length),aO e_i64 h68,hW 5,hH (.frz 3),rp 4 (oO (Eq.refl ((l12 ++ [2]).map e_i64).length))]
  ·obtain rfl:=Option.some.inj h
   exact gr 9 [] [rp 5 hP,rp 3 (oI ((neI x0.pick.place (-1)) = true)),oR True ((neI x0.pick.place (-1)) = true),cC (QaF h64),rp 3 (nF h65),cC (QaF h66),rp 2 (nF h65),rp 26 hP,rp 4 (oI ((!r19) = false)),oI (((!r19) = false)∧(gtI x0.split 1) = true),oR True ((!r19) = false),rp 2 (oI (((!r19) || ((gtI x0.split 1) && ((neI x0.pick.place (-1)) && (neI x0.drop.place (-1))))) = false)),oR True (((!r19) || ((gtI x0.split 1) && ((neI x0.pick.place (-1)) && (neI x0.drop.place (-1))))) = false),rp 3 (oI ((((!r19) || ((gtI x0.split 1) && ((neI x0.pick.place (-1)) && (neI x0.drop.place (-1))))) || (ltI x0.last_ (-1))) = false)),oR True ((((!r19) || ((gtI x0.split 1) && ((neI x0.pick.place (-1)) && (neI x0.drop.place (-1))))) || (ltI x0.last_ (-1))) = false),rp 2 (oI (((((!r19) || ((gtI x0.split 1) && ((neI x0.pick.place (-1)) && (neI x0.drop.place (-1))))) || (ltI x0.last_ (-1))) || (geI x0.last_ types)) = false)),oR True (((((!r19) || ((gtI x0.split 1) && ((neI x0.pick.place (-1)) && (neI x0.drop.place (-1))))) || (ltI x0.last_ (-1))) || (geI x0.last_ types)) = false),rp 3 (oI ((((((!r19) || ((gtI x0.split 1) && ((neI x0.pick.place (-1)) && (neI x0.drop.place (-1))))) || (ltI x0.last_ (-1))) || (geI x0.last_ types)) || (ltI x0.now (-1))) = false)),oR True ((((((!r19) || ((gtI x0.split 1) && ((neI x0.pick.place (-1)) && (neI x0.drop.place (-1))))) || (ltI x0.last_ (-1))) || (geI x0.last_ types)) || (ltI x0.now (-1))) = false),bF h67,hW 5,hH (.frz 0),rp 3 (eL l12 e_i64)]
 ·obtain ⟨h69,h⟩:=Qas h
  obtain rfl:=Option.some.inj h
  exact gr 9 [] [rp 5 hP,rp 3 (oI ((neI x0.pick.place (-1)) = true)),oR True ((neI x0.pick.place (-1)) = true),cC (QaF h64),rp 5 (nT h65),rp 4 tT,kF,rp 21 tT,oO (Eq.refl ([2].map e_i64).length),aO e_i64 h69,hW 5,hH (.frz 3),rp 4 (oO (Eq.refl ((l12 ++ [2]).map e_i64).length))]
theorem QiX (Γ:Gam) (rv:List Int) {types x0 l11} (h:Qf6 types x0 l11 = some rv):Qbs Γ rv ⟨[.c 1023],⟨156,[vI 2 types,vO 11 0 1 l11 e_i64,vP 12 1 16],[oS 1 38 l11 e_i64,oX 16 105 (Qak.enc x0)]⟩⟩:=by
 unfold Qf6 at h
 obtain ⟨r17,h61,h⟩:=Qae h
 rcases Qag h with ⟨h62,h⟩|⟨h62,h⟩
 ·exact gn 5 [2,11,12] [0,1] [cC (QaF h61),nF h62] (QiY Γ rv h)
 ·obtain ⟨h63,h⟩:=Qas h
  exact gn 5 [2,11,12] [3,1] [cC (QaF h61),nT h62,oO (Eq.refl ([18].map e_i64).length),aO e_i64 h63] (QiY Γ rv h)
theorem QjY (Γ:Gam) (rv:List Int) {types x0 l9} (h:QgG types x0 l9 = some rv):Qbs Γ rv ⟨[.c 511],⟨156,[vI 2 types,vO 11 0 1 l9 e_i64,vP 12 1 16],[oS 1 38 l9 e_i64,oX 16 105 (Qak.enc x0)]⟩⟩:=by
 unfold QgG at h
 obtain ⟨r12,h46,h⟩:=Qae h
 rcases Qag h with ⟨h47,h⟩|⟨h47,h⟩
 ·obtain ⟨h48,h⟩:=Qas h
  obtain ⟨r13,h49,h⟩:=Qae h
  rcases Qag h with ⟨h50,h⟩|⟨h50,h⟩
  ·exact gn 10 [2,11,12] [3,1] [cC (Qbt h46),rp 5 (bT h47),tT,oO (Eq.refl ([14].map e_i64).length),aO e_i64 h48,cC (QaF h49),nF h50] (QjZ Γ rv h)
  ·obtain ⟨h51,h⟩:=Qas h
   exact gn 10 [2,11,12] [5,1] [cC (Qbt h46),rp 5 (bT h47),tT,oO (Eq.refl ([14].map e_i64).length),aO e_i64 h48,cC (QaF h49),nT h50,oO (Eq.refl ([18].map e_i64).length),aO e_i64 h51] (QjZ Γ rv h)
 ·obtain ⟨r16,h58,h⟩:=Qae h
  rcases Qag h with ⟨h59,h⟩|⟨h59,h⟩
  ·obtain ⟨h60,h⟩:=Qas h
   exact gn 5 [2,11,12] [3,1] [cC (Qbt h46),rp 3 (bF h47),cC (Qbt h58),rp 2 (bF h47),bT h59,oO (Eq.refl ([14].map e_i64).length),aO e_i64 h60] (QiX Γ rv h)
  ·exact gn 5 [2,11,12] [0,1] [cC (Qbt h46),rp 3 (bF h47),cC (Qbt h58),rp 2 (bF h47),bF h59] (QiX Γ rv h)
theorem QjS (Γ:Gam) (rv:List Int) {places types x0 l3} (h:QbU places types x0 l3 = some rv):Qbs Γ rv ⟨[.c 127],⟨156,[vI 0 places,vI 2 types,vO 11 0 1 l3 e_i64,vP 12 1 16],[oS 1 38 l3 e_i64,oX 16 105 (Qak.enc x0)]⟩⟩:=by
 unfold QbU at h
 obtain ⟨r2,h12,h⟩:=Qae h
 rcases Qag h with ⟨h13,h⟩|⟨h13,h⟩
 ·obtain ⟨r3,h14,h⟩:=Qae h
  rcases Qag h with ⟨h15,h⟩|⟨h15,h⟩
  ·exact gn 5 [2,11,12] [0,1] [cC (QaF h12),rp 6 (nF h13),cC (QaF h14),rp 2 (nF h13),nF h15] (QjT Γ rv h)
  ·obtain ⟨h16,h⟩:=Qas h
   exact gn 5 [2,11,12] [3,1] [cC (QaF h12),rp 6 (nF h13),cC (QaF h14),rp 2 (nF h13),nT h15,oO (Eq.refl ([11].map e_i64).length),aO e_i64 h16] (QjT Γ rv h)
 ·obtain ⟨h43,h⟩:=Qas h
  rcases Qag h with ⟨h44,h⟩|⟨h44,h⟩
  ·obtain ⟨h45,h⟩:=Qas h
   exact gn 10 [2,11,12] [5,1] [cC (QaF h12),rp 8 (nT h13),tT,oO (Eq.refl ([11].map e_i64).length),aO e_i64 h43,rp 5 hP,rp 3 (oI ((eqI x0.pick.place (-1)) = true)),oR True ((eqI x0.pick.place (-1)) = true),bT h44,oO (Eq.refl ([19].map e_i64).length),aO e_i64 h45] (QjY Γ rv h)
  ·exact gn 10 [2,11,12] [3,1] [cC (QaF h12),rp 8 (nT h13),tT,oO (Eq.refl ([11].map e_i64).length),aO e_i64 h43,rp 5 hP,rp 3 (oI ((eqI x0.pick.place (-1)) = true)),oR True ((eqI x0.pick.place (-1)) = true),bF h44] (QjY Γ rv h)
theorem QjR (Γ:Gam) (rv:List Int) {places dims types l at_ x0 l1} (h:Qea places dims types l at_ x0 l1 = some rv):Qbs Γ rv ⟨[.c 31],⟨156,[vI 0 places,vI 1 dims,vI 2 types,vL 3 16 l Qak.enc,vI 4 at_,vO 11 0 1 l1 e_i64,vP 12 1 16],[oS 1 38 l1 e_i64,oX 16 105 (Qak.enc x0)]⟩⟩:=by
 unfold Qea at h
 obtain ⟨e0,h8,h⟩:=Qae h
 refine gn 5 [0,1,2,3,4,11,12,13] [0,1] [] (Qpa Γ rv h8 ?_)
 obtain ⟨l2,rfl⟩:∃ x,x = e0:=⟨_,rfl⟩
 replace h:(bnd (QeO x0.load dims) fun r1=>br r1 (QbU places types x0 l2) (chk (okN (l2 ++ [17]).length 8) (QbU places types x0 (l2 ++ [17]))):Option (List Int)) = some _:=h
 obtain ⟨r1,h9,h⟩:=Qae h
 rcases Qag h with ⟨h10,h⟩|⟨h10,h⟩
 ·exact gn 5 [0,2,11,12] [0,1] [cC (Qmv h9),nF h10] (QjS Γ rv h)
 ·obtain ⟨h11,h⟩:=Qas h
  exact gn 5 [0,2,11,12] [3,1] [cC (Qmv h9),nT h10,oO (Eq.refl ([17].map e_i64).length),aO e_i64 h11] (QjS Γ rv h)
theorem QqU {places dims types l at_} {rv:List Int} (h:QgV places dims types l at_ = some rv):AFn Tryz.prog 88 [.one (lI places),.one (lI dims),.one (lI types),.one (lL 16 l Qak.enc),.one (lI at_)] [] (one (lL 1 rv e_i64)) []:=by
 refine QaL Tryz.func88 (by kernel_rfl) (by kernel_rfl) (fun Γ=>?_)
 unfold QgV at h
 obtain ⟨x0,h0,h⟩:=Qae h
 obtain ⟨r,h1,h⟩:=Qae h
 rcases Qag h with ⟨h2,h⟩|⟨h2,h⟩
 ·exact gn 11 [0,1,2,3,4,11,12] [1,0] [cE Qak.enc h0,cC (QeC h1),nF h2,hW 1,hH (.adopt 11 1 38)] (QjR Γ rv h)
 ·obtain ⟨h3,h⟩:=Qas h
  exact gn 11 [0,1,2,3,4,11,12] [2,0] [cE Qak.enc h0,cC (QeC h1),nT h2,oO (Eq.refl ([5].map e_i64).length),aN (l:=([5]:List Int)) e_i64 h3] (QjR Γ rv h)
def QfL (Γ:Gam) (rv:List Qaa) (cf:Cf):Prop:=Go Tryz.prog Tryz.f47 [] Γ (one (lL 2 rv Qaa.enc)) [] cf
def Qk2 (Γ:Gam) (rv:List Qaa) (n:Qaj) (dims:Int) (types:Int) (l:List Qak) (i:Int) (r:List Int) (l3:List Qaa) (k:Int):Prop:=QfL Γ rv ⟨[.c 31308,.l 31308,.b 2,.b 1,.c 979,.l 244,.b 0,.c 31],⟨51,[vI 1 dims,vI 2 types,vL 3 16 l Qak.enc,vP 4 0 2,vO 9 1 2 l3 Qaa.enc,vI 10 i,vL 11 1 r e_i64,vI 12 k],[oX 2 25 (Qaj.enc n),oS 2 144 l3 Qaa.enc]⟩⟩
def QjQ (Γ:Gam) (rv:List Qaa) (n:Qaj) (dims:Int) (types:Int) (l:List Qak) (i:Int) (r:List Int) (l4:List Qaa):Prop:=QfL Γ rv ⟨[.b 1,.c 979,.l 244,.b 0,.c 31],⟨51,[vI 1 dims,vI 2 types,vL 3 16 l Qak.enc,vP 4 0 2,vO 9 1 2 l4 Qaa.enc,vI 10 i],[oX 2 25 (Qaj.enc n),oS 2 144 l4 Qaa.enc]⟩⟩
def Qk1 (Γ:Gam) (rv:List Qaa) (n:Qaj) (dims:Int) (types:Int) (l:List Qak) (l2:List Qaa) (i:Int):Prop:=QfL Γ rv ⟨[.c 244,.l 244,.b 0,.c 31],⟨51,[vI 1 dims,vI 2 types,vL 3 16 l Qak.enc,vP 4 0 2,vO 9 1 2 l2 Qaa.enc,vI 10 i],[oX 2 25 (Qaj.enc n),oS 2 144 l2 Qaa.enc]⟩⟩
def QjP (Γ:Gam) (rv:List Qaa) (n:Qaj) (dims:Int) (types:Int) (l:List Qak) (l5:List Qaa):Prop:=QfL Γ rv ⟨[.c 31],⟨51,[vO 9 0 2 l5 Qaa.enc],[oS 2 144 l5 Qaa.enc]⟩⟩
theorem Qo9 (Γ:Gam) (rv:List Qaa) {n dims types l i r} {s:List Qaa × Int} {e:List Qaa} (h:loopF (fun s=>QgE n dims types l i r s.1 s.2) s = some e) (hD:QjQ Γ rv n dims types l i r e):Qk2 Γ rv n dims types l i r s.1 s.2:=by
 refine QaD (C:=fun (s:List Qaa × Int)=>Qk2 Γ rv n dims types l i r s.1 s.2) (D:=fun (e:List Qaa)=>QjQ Γ rv n dims types l i r e) ?_ h hD
 clear h hD s e
 rintro ⟨l3,k⟩ z_ h hI hE
 replace h:QgE n dims types l i r l3 k = _:=h
 unfold QgE at h
 rcases Qag h with ⟨h4,h⟩|⟨h4,h⟩
 ·obtain ⟨x0,h5,h⟩:=Qae h
  obtain ⟨r1,h6,h⟩:=Qae h
  obtain ⟨h7,h⟩:=Qas h
  exact gn 11 [1,2,3,4,9,10,11,12] [0,3] [nL e_i64 r,bT h4,hH (.draw 9 []),cE e_i64 h5,cC (QbP h6),oO (Eq.refl ([(Qaa.mk x0 r1)].map Qaa.enc).length),aO Qaa.enc h7] (hI _ (oJ h))
 ·exact gn 5 [1,2,3,4,9,10] [0,1] [nL e_i64 r,bF h4] (hE _ (oJ h))
theorem Qo8 (Γ:Gam) (rv:List Qaa) {n dims types l} {s:List Qaa × Int} {e:List Qaa} (h:loopF (fun s=>QcV n dims types l s.1 s.2) s = some e) (hD:QjP Γ rv n dims types l e):Qk1 Γ rv n dims types l s.1 s.2:=by
 refine QaD (C:=fun (s:List Qaa × Int)=>Qk1 Γ rv n dims types l s.1 s.2) (D:=fun (e:List Qaa)=>QjP Γ rv n dims types l e) ?_ h hD
 clear h hD s e
 rintro ⟨l2,i⟩ z_ h hI hE
 replace h:QcV n dims types l l2 i = _:=h
 unfold QcV at h
 rcases Qag h with ⟨h2,h⟩|⟨h2,h⟩
 ·obtain ⟨r,h3,h⟩:=Qae h
  obtain ⟨e0,h8,h⟩:=Qae h
  refine gn 13 [1,2,3,4,9,10,11,12] [0,1] [nL Qak.enc l,bT h2,nL e_str n.places,cC (QqU h3)] (Qo9 Γ rv h8 ?_)
  obtain ⟨l4,rfl⟩:∃ x,x = e0:=⟨_,rfl⟩
  replace h:(some (.inl (l4,(addK .i64 i 1))):Option ((List Qaa × Int) ⊕ (List Qaa))) = some _:=h
  exact gn 3 [1,2,3,4,9,10] [0,1] [] (hI _ (oJ h))
 ·exact gn 5 [9] [1] [nL Qak.enc l,bF h2] (hE _ (oJ h))
theorem QjO (Γ:Gam) (rv:List Qaa) {n dims types l l1} (h:Qff n dims types l l1 = some rv):QfL Γ rv ⟨[.c 15],⟨51,[vI 1 dims,vI 2 types,vL 3 16 l Qak.enc,vP 4 0 2,vO 9 1 2 l1 Qaa.enc],[oX 2 25 (Qaj.enc n),oS 2 144 l1 Qaa.enc]⟩⟩:=by
 unfold Qff at h
 obtain ⟨e1,h9,h⟩:=Qae h
 refine gn 5 [1,2,3,4,9,10] [0,1] [] (Qo8 Γ rv h9 ?_)
 obtain ⟨l5,rfl⟩:∃ x,x = e1:=⟨_,rfl⟩
 replace h:(some l5:Option (List Qaa)) = some _:=h
 obtain rfl:=Option.some.inj h
 exact gr 2 [] [hW 4,hH (.frz 0),rp 3 (eL l5 Qaa.enc)]
theorem QqT {n dims types l} {rv:List Qaa} (h:QgU n dims types l = some rv):AFn Tryz.prog 47 [.agg (Qaj.enc n),.one (lI dims),.one (lI types),.one (lL 16 l Qak.enc)] [] (one (lL 2 rv Qaa.enc)) []:=by
 refine QaL Tryz.func47 (by kernel_rfl) (by kernel_rfl) (fun Γ=>?_)
 unfold QgU at h
 rcases Qag h with ⟨h0,h⟩|⟨h0,h⟩
 ·obtain ⟨h1,h⟩:=Qas h
  exact gn 9 [1,2,3,4,9] [0,2] [nL Qak.enc l,bT h0,oO (Eq.refl ([(Qaa.mk 4 ByteArray.empty)].map Qaa.enc).length),aN (l:=([(Qaa.mk 4 ByteArray.empty)]:List Qaa)) Qaa.enc h1] (QjO Γ rv h)
 ·exact gn 9 [1,2,3,4,9] [0,1] [nL Qak.enc l,bF h0,hW 1,hH (.adopt 9 2 144)] (QjO Γ rv h)
def QlW (Γ:Gam) (rv:ByteArray) (cf:Cf):Prop:=Go Tryz.prog Tryz.f136 [] Γ (one (.str rv)) [] cf
def QiZ (Γ:Gam) (rv:ByteArray) (n1:Int) (s0:ByteArray):Prop:=QlW Γ rv ⟨[.c 56,.l 56,.b 0,.c 15],⟨23,[vI 0 n1,vS 3 s0],[]⟩⟩
def QiB (Γ:Gam) (rv:ByteArray) (n2:Int) (s1:ByteArray):Prop:=QlW Γ rv ⟨[.c 15],⟨23,[vI 0 n2,vS 3 s1],[]⟩⟩
theorem QnW (Γ:Gam) (rv:ByteArray) {s:Int × ByteArray} {e:Int × ByteArray} (h:loopF (fun s=>Qdo s.1 s.2) s = some e) (hD:QiB Γ rv e.1 e.2):QiZ Γ rv s.1 s.2:=by
 refine QaD (C:=fun (s:Int × ByteArray)=>QiZ Γ rv s.1 s.2) (D:=fun (e:Int × ByteArray)=>QiB Γ rv e.1 e.2) ?_ h hD
 clear h hD s e
 rintro ⟨n1,s0⟩ z_ h hI hE
 replace h:Qdo n1 s0 = _:=h
 unfold Qdo at h
 rcases Qag h with ⟨h0,h⟩|⟨h0,h⟩
 ·obtain ⟨h1,h⟩:=Qas h
  exact gn 11 [0,3] [] [bT h0,hH (.ints [(cvK .u8 (addK .i64 48 (remK n1 10)))]),oO (oA (n:=10)),oO (Eq.refl ([(cvK .u8 (addK .i64 48 (remK n1 10)))].map e_u8).length),oO (Eq.refl (([(cvK .u8 (addK .i64 48 (remK n1 10)))].map e_u8):List (List Lf))),oO (h1),oO (oA (n:=10))] (hI _ (oJ h))
 ·exact gn 5 [0,3] [] [bF h0] (hE _ (oJ h))
theorem QfA {n} {rv:ByteArray} (h:QeE n = some rv):AFn Tryz.prog 136 [.one (lI n)] [] (one (.str rv)) []:=by
 refine QaL Tryz.func136 (by kernel_rfl) (by kernel_rfl) (fun Γ=>?_)
 unfold QeE at h
 obtain ⟨e0,h2,h⟩:=Qae h
 refine gn 7 [0,3] [] [] (QnW Γ rv h2 ?_)
 obtain ⟨n2,s1⟩:=e0
 replace h:(chk ((Qqj [(cvK .u8 (addK .i64 48 n2))]).size + s1.size ≤ 9223372036854775807) (some (catS (Qqj [(cvK .u8 (addK .i64 48 n2))]) s1)):Option ByteArray) = some _:=h
 obtain ⟨h3,h⟩:=Qas h
 obtain rfl:=Option.some.inj h
 exact gr 2 [] [hH (.ints [(cvK .u8 (addK .i64 48 n2))]),oO (Eq.refl ([(cvK .u8 (addK .i64 48 n2))].map e_u8).length),oO (Eq.refl (([(cvK .u8 (addK .i64 48 n2))].map e_u8):List (List Lf))),oO (h3)]
def Qfg (Γ:Gam) (rv:List Qaa) (cf:Cf):Prop:=Go Tryz.prog Tryz.f89 [] Γ (one (lL 2 rv Qaa.enc)) [] cf
def Qj2 (Γ:Gam) (rv:List Qaa) (orders:Int) (l:List QaQ) (word:ByteArray) (turned:Bool) (l2:List Qaa) (i:Int) (x0:QaQ) (r:ByteArray) (twice:Bool) (k:Int):Prop:=Qfg Γ rv ⟨[.c 1001972,.l 1001972,.b 2,.c 125247,.b 1,.c 979,.l 244,.b 0,.c 31],⟨123,[vI 0 orders,vL 1 2 l QaQ.enc,vS 2 word,vB 3 turned,vO 9 0 2 l2 Qaa.enc,vI 10 i,vI 11 x0.x0,vI 12 x0.x1,vS 13 (catS (catS word QcS) r),vB 14 twice,vI 15 k],[oS 2 144 l2 Qaa.enc]⟩⟩
def Qi2 (Γ:Gam) (rv:List Qaa) (orders:Int) (l:List QaQ) (word:ByteArray) (turned:Bool) (l2:List Qaa) (i:Int) (x0:QaQ) (r:ByteArray) (twice1:Bool):Prop:=Qfg Γ rv ⟨[.c 125247,.b 1,.c 979,.l 244,.b 0,.c 31],⟨123,[vI 0 orders,vL 1 2 l QaQ.enc,vS 2 word,vB 3 turned,vO 9 0 2 l2 Qaa.enc,vI 10 i,vS 13 (catS (catS word QcS) r),vB 14 twice1],[oS 2 144 l2 Qaa.enc]⟩⟩
def Qj1 (Γ:Gam) (rv:List Qaa) (orders:Int) (l:List QaQ) (word:ByteArray) (turned:Bool) (l2:List Qaa) (i:Int):Prop:=Qfg Γ rv ⟨[.c 244,.l 244,.b 0,.c 31],⟨123,[vI 0 orders,vL 1 2 l QaQ.enc,vS 2 word,vB 3 turned,vO 9 0 2 l2 Qaa.enc,vI 10 i],[oS 2 144 l2 Qaa.enc]⟩⟩
def Qi1 (Γ:Gam) (rv:List Qaa) (orders:Int) (l:List QaQ) (word:ByteArray) (turned:Bool) (l3:List Qaa):Prop:=Qfg Γ rv ⟨[.c 31],⟨123,[vO 9 0 2 l3 Qaa.enc],[oS 2 144 l3 Qaa.enc]⟩⟩
theorem Qow (Γ:Gam) (rv:List Qaa) {orders l word turned l2 i x0 r} {s:Bool × Int} {e:Bool} (h:loopF (fun s=>QdB orders l word turned l2 i x0 r s.1 s.2) s = some e) (hD:Qi2 Γ rv orders l word turned l2 i x0 r e):Qj2 Γ rv orders l word turned l2 i x0 r s.1 s.2:=by
 refine QaD (C:=fun (s:Bool × Int)=>Qj2 Γ rv orders l word turned l2 i x0 r s.1 s.2) (D:=fun (e:Bool)=>Qi2 Γ rv orders l word turned l2 i x0 r e) ?_ h hD
 clear h hD s e
 rintro ⟨twice,k⟩ z_ h hI hE
 replace h:QdB orders l word turned l2 i x0 r twice k = _:=h
 unfold QdB at h
 rcases Qag h with ⟨h9,h⟩|⟨h9,h⟩
 ·rcases Qag h with ⟨h10,h⟩|⟨h10,h⟩
  ·exact gn 11 [0,1,2,3,9,10,11,12,13,14,15] [0] [bT h9,rp 8 (bT h10),rp 7 kF,rp 2 (bT h10),tT,tT,rp 7 kF,tT,tT,rp 7 kF,tT,tT] (hI _ (oJ h))
  ·obtain ⟨x1,h11,h⟩:=Qae h
   rcases Qag h with ⟨h12,h⟩|⟨h12,h⟩
   ·rcases Qag h with ⟨h13,h⟩|⟨h13,h⟩
    ·exact gn 11 [0,1,2,3,9,10,11,12,13,14,15] [0] [bT h9,rp 3 (bF h10),cE QaQ.enc h11,bF h10,oO (zL 0),oO (lT 0 2),rp 4 (bF h10),rp 3 (bT h12),cE QaQ.enc h11,bT h12,oO (zL 1),oO (lT 1 2),rp 3 (bT h12),bF h10,bT h12,bF h10,rp 2 (bT h13),rp 7 kF,rp 2 (bT h13),rp 7 kF,rp 2 (bT h13)] (hI _ (oJ h))
    ·rcases Qag h with ⟨h14,h⟩|⟨h14,h⟩
     ·rcases Qag h with ⟨h15,h⟩|⟨h15,h⟩
      ·exact gn 11 [0,1,2,3,9,10,11,12,13,14,15] [0] [bT h9,rp 3 (bF h10),cE QaQ.enc h11,bF h10,oO (zL 0),oO (lT 0 2),rp 4 (bF h10),rp 3 (bT h12),cE QaQ.enc h11,bT h12,oO (zL 1),oO (lT 1 2),rp 3 (bT h12),bF h10,bT h12,bF h10,rp 2 (bF h13),rp 3 (bT h14),cE QaQ.enc h11,bT h14,oO (zL 0),oO (lT 0 2),rp 3 (bT h14),bF h13,bT h14,bF h13,rp 3 (bT h15),cE QaQ.enc h11,bT h15,oO (zL 1),oO (lT 1 2),rp 3 (bT h15),bF h13,bT h15,bF h13] (hI _ (oJ h))
      ·exact gn 11 [0,1,2,3,9,10,11,12,13,14,15] [0] [bT h9,rp 3 (bF h10),cE QaQ.enc h11,bF h10,oO (zL 0),oO (lT 0 2),rp 4 (bF h10),rp 3 (bT h12),cE QaQ.enc h11,bT h12,oO (zL 1),oO (lT 1 2),rp 3 (bT h12),bF h10,bT h12,bF h10,rp 2 (bF h13),rp 3 (bT h14),cE QaQ.enc h11,bT h14,oO (zL 0),oO (lT 0 2),rp 3 (bT h14),bF h13,bT h14,bF h13,rp 7 (bF h15),bF h13,bF h15,bF h13] (hI _ (oJ h))
     ·exact gn 11 [0,1,2,3,9,10,11,12,13,14,15] [0] [bT h9,rp 3 (bF h10),cE QaQ.enc h11,bF h10,oO (zL 0),oO (lT 0 2),rp 4 (bF h10),rp 3 (bT h12),cE QaQ.enc h11,bT h12,oO (zL 1),oO (lT 1 2),rp 3 (bT h12),bF h10,bT h12,bF h10,rp 2 (bF h13),rp 7 (bF h14),bF h13,bF h14,bF h13,rp 7 fF,bF h13,fF,bF h13] (hI _ (oJ h))
   ·rcases Qag h with ⟨h16,h⟩|⟨h16,h⟩
    ·rcases Qag h with ⟨h17,h⟩|⟨h17,h⟩
     ·exact gn 11 [0,1,2,3,9,10,11,12,13,14,15] [0] [bT h9,rp 3 (bF h10),cE QaQ.enc h11,bF h10,oO (zL 0),oO (lT 0 2),rp 4 (bF h10),rp 7 (bF h12),bF h10,bF h12,bF h10,fF,fF,rp 3 (bT h16),cE QaQ.enc h11,bT h16,oO (zL 0),oO (lT 0 2),rp 3 (bT h16),fF,bT h16,fF,rp 3 (bT h17),cE QaQ.enc h11,bT h17,oO (zL 1),oO (lT 1 2),rp 3 (bT h17),fF,bT h17,fF] (hI _ (oJ h))
     ·exact gn 11 [0,1,2,3,9,10,11,12,13,14,15] [0] [bT h9,rp 3 (bF h10),cE QaQ.enc h11,bF h10,oO (zL 0),oO (lT 0 2),rp 4 (bF h10),rp 7 (bF h12),bF h10,bF h12,bF h10,fF,fF,rp 3 (bT h16),cE QaQ.enc h11,bT h16,oO (zL 0),oO (lT 0 2),rp 3 (bT h16),fF,bT h16,fF,rp 7 (bF h17),fF,bF h17,fF] (hI _ (oJ h))
    ·exact gn 11 [0,1,2,3,9,10,11,12,13,14,15] [0] [bT h9,rp 3 (bF h10),cE QaQ.enc h11,bF h10,oO (zL 0),oO (lT 0 2),rp 4 (bF h10),rp 7 (bF h12),bF h10,bF h12,bF h10,fF,fF,rp 7 (bF h16),fF,bF h16,rp 11 fF] (hI _ (oJ h))
 ·exact gn 5 [0,1,2,3,9,10,13,14] [0] [bF h9] (hE _ (oJ h))
theorem Qov (Γ:Gam) (rv:List Qaa) {orders l word turned} {s:List Qaa × Int} {e:List Qaa} (h:loopF (fun s=>Qcy orders l word turned s.1 s.2) s = some e) (hD:Qi1 Γ rv orders l word turned e):Qj1 Γ rv orders l word turned s.1 s.2:=by
 refine QaD (C:=fun (s:List Qaa × Int)=>Qj1 Γ rv orders l word turned s.1 s.2) (D:=fun (e:List Qaa)=>Qi1 Γ rv orders l word turned e) ?_ h hD
 clear h hD s e
 rintro ⟨l2,i⟩ z_ h hI hE
 replace h:Qcy orders l word turned l2 i = _:=h
 unfold Qcy at h
 rcases Qag h with ⟨h2,h⟩|⟨h2,h⟩
 ·obtain ⟨x0,h3,h⟩:=Qae h
  obtain ⟨h4,h⟩:=Qas h
  obtain ⟨r,h5,h⟩:=Qae h
  obtain ⟨h6,h⟩:=Qas h
  rcases Qag h with ⟨h7,h⟩|⟨h7,h⟩
  ·obtain ⟨h8,h⟩:=Qas h
   exact gn 22 [0,1,2,3,9,10] [2] [nL QaQ.enc l,bT h2,cE QaQ.enc h3,oO (zL 0),oO (lT 0 2),cE QaQ.enc h3,oO (zL 1),oO (lT 1 2),oO (h4),cC (QfA h5),rp 15 hP,oO (h6),rp 2 (oI ((ltI x0.x0 0) = false)),oR True ((ltI x0.x0 0) = false),oI (((ltI x0.x0 0) || (geI x0.x0 orders)) = false),oR True (((ltI x0.x0 0) || (geI x0.x0 orders)) = false),rp 2 (oI ((((ltI x0.x0 0) || (geI x0.x0 orders)) || (ltI x0.x1 0)) = false)),oR True ((((ltI x0.x0 0) || (geI x0.x0 orders)) || (ltI x0.x1 0)) = false),rp 2 (oI (((((ltI x0.x0 0) || (geI x0.x0 orders)) || (ltI x0.x1 0)) || (geI x0.x1 orders)) = false)),oR True (((((ltI x0.x0 0) || (geI x0.x0 orders)) || (ltI x0.x1 0)) || (geI x0.x1 orders)) = false),bT h7,oO (Eq.refl ([(Qaa.mk 2 (catS (catS word QcS) r))].map Qaa.enc).length),aO Qaa.enc h8] (hI _ (oJ h))
  ·obtain ⟨e0,h18,h⟩:=Qae h
   refine gn 25 [0,1,2,3,9,10,11,12,13,14,15] [0] [nL QaQ.enc l,bT h2,cE QaQ.enc h3,oO (zL 0),oO (lT 0 2),cE QaQ.enc h3,oO (zL 1),oO (lT 1 2),oO (h4),cC (QfA h5),rp 15 hP,oO (h6),rp 2 (oI ((ltI x0.x0 0) = false)),oR True ((ltI x0.x0 0) = false),oI (((ltI x0.x0 0) || (geI x0.x0 orders)) = false),oR True (((ltI x0.x0 0) || (geI x0.x0 orders)) = false),rp 2 (oI ((((ltI x0.x0 0) || (geI x0.x0 orders)) || (ltI x0.x1 0)) = false)),oR True ((((ltI x0.x0 0) || (geI x0.x0 orders)) || (ltI x0.x1 0)) = false),rp 2 (oI (((((ltI x0.x0 0) || (geI x0.x0 orders)) || (ltI x0.x1 0)) || (geI x0.x1 orders)) = false)),oR True (((((ltI x0.x0 0) || (geI x0.x0 orders)) || (ltI x0.x1 0)) || (geI x0.x1 orders)) = false),bF h7] (Qow Γ rv h18 ?_)
   obtain ⟨twice1,rfl⟩:∃ x,x = e0:=⟨_,rfl⟩
   replace h:(br twice1 (chk (okN (l2 ++ [(Qaa.mk 6 (catS (catS word QcS) r))]).length 24) (some (.inl ((l2 ++ [(Qaa.mk 6 (catS (catS word QcS) r))]),(addK .i64 i 1))))) (some (.inl (l2,(addK .i64 i 1)))):Option ((List Qaa × Int) ⊕ (List Qaa))) = some _:=h
   rcases Qag h with ⟨h19,h⟩|⟨h19,h⟩
   ·obtain ⟨h20,h⟩:=Qas h
    exact gn 7 [0,1,2,3,9,10] [2] [bT h19,oO (Eq.refl ([(Qaa.mk 6 (catS (catS word QcS) r))].map Qaa.enc).length),aO Qaa.enc h20] (hI _ (oJ h))
   ·exact gn 7 [0,1,2,3,9,10] [0] [bF h19] (hI _ (oJ h))
 ·exact gn 5 [9] [0] [nL QaQ.enc l,bF h2] (hE _ (oJ h))
theorem Qi0 (Γ:Gam) (rv:List Qaa) {orders l word turned l1} (h:QeQ orders l word turned l1 = some rv):Qfg Γ rv ⟨[.c 15],⟨123,[vI 0 orders,vL 1 2 l QaQ.enc,vS 2 word,vB 3 turned,vO 9 0 2 l1 Qaa.enc],[oS 2 144 l1 Qaa.enc]⟩⟩:=by
 unfold QeQ at h
 obtain ⟨e1,h21,h⟩:=Qae h
 refine gn 5 [0,1,2,3,9,10] [0] [] (Qov Γ rv h21 ?_)
 obtain ⟨l3,rfl⟩:∃ x,x = e1:=⟨_,rfl⟩
 replace h:(some l3:Option (List Qaa)) = some _:=h
 obtain rfl:=Option.some.inj h
 exact gr 2 [] [hW 4,hH (.frz 0),rp 3 (eL l3 Qaa.enc)]
theorem Qqv {orders l word turned} {rv:List Qaa} (h:Qgj orders l word turned = some rv):AFn Tryz.prog 89 [.one (lI orders),.one (lL 2 l QaQ.enc),.one (.str word),.one (.bool turned)] [] (one (lL 2 rv Qaa.enc)) []:=by
 refine QaL Tryz.func89 (by kernel_rfl) (by kernel_rfl) (fun Γ=>?_)
 unfold Qgj at h
 rcases Qag h with ⟨h0,h⟩|⟨h0,h⟩
 ·obtain ⟨h1,h⟩:=Qas h
  exact gn 9 [0,1,2,3,9] [1] [nL QaQ.enc l,bT h0,oO (Eq.refl ([(Qaa.mk 4 word)].map Qaa.enc).length),aN (l:=([(Qaa.mk 4 word)]:List Qaa)) Qaa.enc h1] (Qi0 Γ rv h)
 ·exact gn 9 [0,1,2,3,9] [0] [nL QaQ.enc l,bF h0,hW 1,hH (.adopt 9 2 144)] (Qi0 Γ rv h)
def Qdx (Γ:Gam) (rv:List Qaa) (cf:Cf):Prop:=Go Tryz.prog Tryz.f89 [] Γ (one (lO 0 2 rv Qaa.enc)) [oS 2 144 rv Qaa.enc] cf
def QhJ (Γ:Gam) (rv:List Qaa) (orders:Int) (l:List QaQ) (word:ByteArray) (turned:Bool) (l2:List Qaa) (i:Int) (x0:QaQ) (r:ByteArray) (twice:Bool) (k:Int):Prop:=Qdx Γ rv ⟨[.c 1001972,.l 1001972,.b 2,.c 125247,.b 1,.c 979,.l 244,.b 0,.c 31],⟨123,[vI 0 orders,vL 1 2 l QaQ.enc,vS 2 word,vB 3 turned,vO 9 0 2 l2 Qaa.enc,vI 10 i,vI 11 x0.x0,vI 12 x0.x1,vS 13 (catS (catS word QcS) r),vB 14 twice,vI 15 k],[oS 2 144 l2 Qaa.enc]⟩⟩
def Qhp (Γ:Gam) (rv:List Qaa) (orders:Int) (l:List QaQ) (word:ByteArray) (turned:Bool) (l2:List Qaa) (i:Int) (x0:QaQ) (r:ByteArray) (twice1:Bool):Prop:=Qdx Γ rv ⟨[.c 125247,.b 1,.c 979,.l 244,.b 0,.c 31],⟨123,[vI 0 orders,vL 1 2 l QaQ.enc,vS 2 word,vB 3 turned,vO 9 0 2 l2 Qaa.enc,vI 10 i,vS 13 (catS (catS word QcS) r),vB 14 twice1],[oS 2 144 l2 Qaa.enc]⟩⟩
def QhI (Γ:Gam) (rv:List Qaa) (orders:Int) (l:List QaQ) (word:ByteArray) (turned:Bool) (l2:List Qaa) (i:Int):Prop:=Qdx Γ rv ⟨[.c 244,.l 244,.b 0,.c 31],⟨123,[vI 0 orders,vL 1 2 l QaQ.enc,vS 2 word,vB 3 turned,vO 9 0 2 l2 Qaa.enc,vI 10 i],[oS 2 144 l2 Qaa.enc]⟩⟩
def Qho (Γ:Gam) (rv:List Qaa) (orders:Int) (l:List QaQ) (word:ByteArray) (turned:Bool) (l3:List Qaa):Prop:=Qdx Γ rv ⟨[.c 31],⟨123,[vO 9 0 2 l3 Qaa.enc],[oS 2 144 l3 Qaa.enc]⟩⟩
theorem Qmn (Γ:Gam) (rv:List Qaa) {orders l word turned l2 i x0 r} {s:Bool × Int} {e:Bool} (h:loopF (fun s=>Qem orders l word turned l2 i x0 r s.1 s.2) s = some e) (hD:Qhp Γ rv orders l word turned l2 i x0 r e):QhJ Γ rv orders l word turned l2 i x0 r s.1 s.2:=by
 refine QaD (C:=fun (s:Bool × Int)=>QhJ Γ rv orders l word turned l2 i x0 r s.1 s.2) (D:=fun (e:Bool)=>Qhp Γ rv orders l word turned l2 i x0 r e) ?_ h hD
 clear h hD s e
 rintro ⟨twice,k⟩ z_ h hI hE
 replace h:Qem orders l word turned l2 i x0 r twice k = _:=h
 unfold Qem at h
 rcases Qag h with ⟨h9,h⟩|⟨h9,h⟩
 ·rcases Qag h with ⟨h10,h⟩|⟨h10,h⟩
  ·exact gn 11 [0,1,2,3,9,10,11,12,13,14,15] [0] [bT h9,rp 8 (bT h10),rp 7 kF,rp 2 (bT h10),tT,tT,rp 7 kF,tT,tT,rp 7 kF,tT,tT] (hI _ (oJ h))
  ·obtain ⟨x1,h11,h⟩:=Qae h
   rcases Qag h with ⟨h12,h⟩|⟨h12,h⟩
   ·rcases Qag h with ⟨h13,h⟩|⟨h13,h⟩
    ·exact gn 11 [0,1,2,3,9,10,11,12,13,14,15] [0] [bT h9,rp 3 (bF h10),cE QaQ.enc h11,bF h10,oO (zL 0),oO (lT 0 2),rp 4 (bF h10),rp 3 (bT h12),cE QaQ.enc h11,bT h12,oO (zL 1),oO (lT 1 2),rp 3 (bT h12),bF h10,bT h12,bF h10,rp 2 (bT h13),rp 7 kF,rp 2 (bT h13),rp 7 kF,rp 2 (bT h13)] (hI _ (oJ h))
    ·rcases Qag h with ⟨h14,h⟩|⟨h14,h⟩
     ·rcases Qag h with ⟨h15,h⟩|⟨h15,h⟩
      ·exact gn 11 [0,1,2,3,9,10,11,12,13,14,15] [0] [bT h9,rp 3 (bF h10),cE QaQ.enc h11,bF h10,oO (zL 0),oO (lT 0 2),rp 4 (bF h10),rp 3 (bT h12),cE QaQ.enc h11,bT h12,oO (zL 1),oO (lT 1 2),rp 3 (bT h12),bF h10,bT h12,bF h10,rp 2 (bF h13),rp 3 (bT h14),cE QaQ.enc h11,bT h14,oO (zL 0),oO (lT 0 2),rp 3 (bT h14),bF h13,bT h14,bF h13,rp 3 (bT h15),cE QaQ.enc h11,bT h15,oO (zL 1),oO (lT 1 2),rp 3 (bT h15),bF h13,bT h15,bF h13] (hI _ (oJ h))
      ·exact gn 11 [0,1,2,3,9,10,11,12,13,14,15] [0] [bT h9,rp 3 (bF h10),cE QaQ.enc h11,bF h10,oO (zL 0),oO (lT 0 2),rp 4 (bF h10),rp 3 (bT h12),cE QaQ.enc h11,bT h12,oO (zL 1),oO (lT 1 2),rp 3 (bT h12),bF h10,bT h12,bF h10,rp 2 (bF h13),rp 3 (bT h14),cE QaQ.enc h11,bT h14,oO (zL 0),oO (lT 0 2),rp 3 (bT h14),bF h13,bT h14,bF h13,rp 7 (bF h15),bF h13,bF h15,bF h13] (hI _ (oJ h))
     ·exact gn 11 [0,1,2,3,9,10,11,12,13,14,15] [0] [bT h9,rp 3 (bF h10),cE QaQ.enc h11,bF h10,oO (zL 0),oO (lT 0 2),rp 4 (bF h10),rp 3 (bT h12),cE QaQ.enc h11,bT h12,oO (zL 1),oO (lT 1 2),rp 3 (bT h12),bF h10,bT h12,bF h10,rp 2 (bF h13),rp 7 (bF h14),bF h13,bF h14,bF h13,rp 7 fF,bF h13,fF,bF h13] (hI _ (oJ h))
   ·rcases Qag h with ⟨h16,h⟩|⟨h16,h⟩
    ·rcases Qag h with ⟨h17,h⟩|⟨h17,h⟩
     ·exact gn 11 [0,1,2,3,9,10,11,12,13,14,15] [0] [bT h9,rp 3 (bF h10),cE QaQ.enc h11,bF h10,oO (zL 0),oO (lT 0 2),rp 4 (bF h10),rp 7 (bF h12),bF h10,bF h12,bF h10,fF,fF,rp 3 (bT h16),cE QaQ.enc h11,bT h16,oO (zL 0),oO (lT 0 2),rp 3 (bT h16),fF,bT h16,fF,rp 3 (bT h17),cE QaQ.enc h11,bT h17,oO (zL 1),oO (lT 1 2),rp 3 (bT h17),fF,bT h17,fF] (hI _ (oJ h))
     ·exact gn 11 [0,1,2,3,9,10,11,12,13,14,15] [0] [bT h9,rp 3 (bF h10),cE QaQ.enc h11,bF h10,oO (zL 0),oO (lT 0 2),rp 4 (bF h10),rp 7 (bF h12),bF h10,bF h12,bF h10,fF,fF,rp 3 (bT h16),cE QaQ.enc h11,bT h16,oO (zL 0),oO (lT 0 2),rp 3 (bT h16),fF,bT h16,fF,rp 7 (bF h17),fF,bF h17,fF] (hI _ (oJ h))
    ·exact gn 11 [0,1,2,3,9,10,11,12,13,14,15] [0] [bT h9,rp 3 (bF h10),cE QaQ.enc h11,bF h10,oO (zL 0),oO (lT 0 2),rp 4 (bF h10),rp 7 (bF h12),bF h10,bF h12,bF h10,fF,fF,rp 7 (bF h16),fF,bF h16,rp 11 fF] (hI _ (oJ h))
 ·exact gn 5 [0,1,2,3,9,10,13,14] [0] [bF h9] (hE _ (oJ h))
theorem Qmm (Γ:Gam) (rv:List Qaa) {orders l word turned} {s:List Qaa × Int} {e:List Qaa} (h:loopF (fun s=>Qel orders l word turned s.1 s.2) s = some e) (hD:Qho Γ rv orders l word turned e):QhI Γ rv orders l word turned s.1 s.2:=by
 refine QaD (C:=fun (s:List Qaa × Int)=>QhI Γ rv orders l word turned s.1 s.2) (D:=fun (e:List Qaa)=>Qho Γ rv orders l word turned e) ?_ h hD
 clear h hD s e
 rintro ⟨l2,i⟩ z_ h hI hE
 replace h:Qel orders l word turned l2 i = _:=h
 unfold Qel at h
 rcases Qag h with ⟨h2,h⟩|⟨h2,h⟩
 ·obtain ⟨x0,h3,h⟩:=Qae h
  obtain ⟨h4,h⟩:=Qas h
  obtain ⟨r,h5,h⟩:=Qae h
  obtain ⟨h6,h⟩:=Qas h
  rcases Qag h with ⟨h7,h⟩|⟨h7,h⟩
  ·obtain ⟨h8,h⟩:=Qas h
   exact gn 22 [0,1,2,3,9,10] [2] [nL QaQ.enc l,bT h2,cE QaQ.enc h3,oO (zL 0),oO (lT 0 2),cE QaQ.enc h3,oO (zL 1),oO (lT 1 2),oO (h4),cC (QfA h5),rp 15 hP,oO (h6),rp 2 (oI ((ltI x0.x0 0) = false)),oR True ((ltI x0.x0 0) = false),oI (((ltI x0.x0 0) || (geI x0.x0 orders)) = false),oR True (((ltI x0.x0 0) || (geI x0.x0 orders)) = false),rp 2 (oI ((((ltI x0.x0 0) || (geI x0.x0 orders)) || (ltI x0.x1 0)) = false)),oR True ((((ltI x0.x0 0) || (geI x0.x0 orders)) || (ltI x0.x1 0)) = false),rp 2 (oI (((((ltI x0.x0 0) || (geI x0.x0 orders)) || (ltI x0.x1 0)) || (geI x0.x1 orders)) = false)),oR True (((((ltI x0.x0 0) || (geI x0.x0 orders)) || (ltI x0.x1 0)) || (geI x0.x1 orders)) = false),bT h7,oO (Eq.refl ([(Qaa.mk 2 (catS (catS word QcS) r))].map Qaa.enc).length),aO Qaa.enc h8] (hI _ (oJ h))
  ·obtain ⟨e0,h18,h⟩:=Qae h
   refine gn 25 [0,1,2,3,9,10,11,12,13,14,15] [0] [nL QaQ.enc l,bT h2,cE QaQ.enc h3,oO (zL 0),oO (lT 0 2),cE QaQ.enc h3,oO (zL 1),oO (lT 1 2),oO (h4),cC (QfA h5),rp 15 hP,oO (h6),rp 2 (oI ((ltI x0.x0 0) = false)),oR True ((ltI x0.x0 0) = false),oI (((ltI x0.x0 0) || (geI x0.x0 orders)) = false),oR True (((ltI x0.x0 0) || (geI x0.x0 orders)) = false),rp 2 (oI ((((ltI x0.x0 0) || (geI x0.x0 orders)) || (ltI x0.x1 0)) = false)),oR True ((((ltI x0.x0 0) || (geI x0.x0 orders)) || (ltI x0.x1 0)) = false),rp 2 (oI (((((ltI x0.x0 0) || (geI x0.x0 orders)) || (ltI x0.x1 0)) || (geI x0.x1 orders)) = false)),oR True (((((ltI x0.x0 0) || (geI x0.x0 orders)) || (ltI x0.x1 0)) || (geI x0.x1 orders)) = false),bF h7] (Qmn Γ rv h18 ?_)
   obtain ⟨twice1,rfl⟩:∃ x,x = e0:=⟨_,rfl⟩
   replace h:(br twice1 (chk (okN (l2 ++ [(Qaa.mk 6 (catS (catS word QcS) r))]).length 24) (some (.inl ((l2 ++ [(Qaa.mk 6 (catS (catS word QcS) r))]),(addK .i64 i 1))))) (some (.inl (l2,(addK .i64 i 1)))):Option ((List Qaa × Int) ⊕ (List Qaa))) = some _:=h
   rcases Qag h with ⟨h19,h⟩|⟨h19,h⟩
   ·obtain ⟨h20,h⟩:=Qas h
    exact gn 7 [0,1,2,3,9,10] [2] [bT h19,oO (Eq.refl ([(Qaa.mk 6 (catS (catS word QcS) r))].map Qaa.enc).length),aO Qaa.enc h20] (hI _ (oJ h))
   ·exact gn 7 [0,1,2,3,9,10] [0] [bF h19] (hI _ (oJ h))
 ·exact gn 5 [9] [0] [nL QaQ.enc l,bF h2] (hE _ (oJ h))
theorem Qhn (Γ:Gam) (rv:List Qaa) {orders l word turned l1} (h:Qek orders l word turned l1 = some rv):Qdx Γ rv ⟨[.c 15],⟨123,[vI 0 orders,vL 1 2 l QaQ.enc,vS 2 word,vB 3 turned,vO 9 0 2 l1 Qaa.enc],[oS 2 144 l1 Qaa.enc]⟩⟩:=by
 unfold Qek at h
 obtain ⟨e1,h21,h⟩:=Qae h
 refine gn 5 [0,1,2,3,9,10] [0] [] (Qmm Γ rv h21 ?_)
 obtain ⟨l3,rfl⟩:∃ x,x = e1:=⟨_,rfl⟩
 replace h:(some l3:Option (List Qaa)) = some _:=h
 obtain rfl:=Option.some.inj h
 exact gr 2 [0] []
theorem QnX {orders l word turned} {rv:List Qaa} (h:Qhw orders l word turned = some rv):AFn Tryz.prog 89 [.one (lI orders),.one (lL 2 l QaQ.enc),.one (.str word),.one (.bool turned)] [] (one (lO 0 2 rv Qaa.enc)) [oS 2 144 rv Qaa.enc]:=by
 refine QaL Tryz.func89 (by kernel_rfl) (by kernel_rfl) (fun Γ=>?_)
 unfold Qhw at h
 rcases Qag h with ⟨h0,h⟩|⟨h0,h⟩
 ·obtain ⟨h1,h⟩:=Qas h
  exact gn 9 [0,1,2,3,9] [1] [nL QaQ.enc l,bT h0,oO (Eq.refl ([(Qaa.mk 4 word)].map Qaa.enc).length),aN (l:=([(Qaa.mk 4 word)]:List Qaa)) Qaa.enc h1] (Qhn Γ rv h)
 ·exact gn 9 [0,1,2,3,9] [0] [nL QaQ.enc l,bF h0,hW 1,hH (.adopt 9 2 144)] (Qhn Γ rv h)
theorem QqV {orders apart before} {rv:List Qaa} (h:QgW orders apart before = some rv):AFn Tryz.prog 49 [.one (lI orders),.one (lL 2 apart QaQ.enc),.one (lL 2 before QaQ.enc)] [] (one (lL 2 rv Qaa.enc)) []:=by
 refine QaL Tryz.func49 (by kernel_rfl) (by kernel_rfl) (fun Γ=>?_)
 unfold QgW at h
 obtain ⟨r,h0,h⟩:=Qae h
 obtain ⟨r1,h1,h⟩:=Qae h
 obtain ⟨h2,h⟩:=Qas h
 obtain rfl:=Option.some.inj h
 exact gr 6 [] [cC (QnX h0),cC (Qqv h1),aO Qaa.enc h2,hW 1,hH (.frz 1),rp 2 (oO (Eq.refl ((r ++ r1).map Qaa.enc).length))]
def QgZ (Γ:Gam) (rv:List Qaa) (cf:Cf):Prop:=Go Tryz.prog Tryz.f44 [] Γ (one (lO 0 2 rv Qaa.enc)) [oS 2 144 rv Qaa.enc] cf
def QfN (Γ:Gam) (rv:List Qaa) (word:ByteArray) (l:List Qaa) (l1:List Qaa) (i:Int):Prop:=QgZ Γ rv ⟨[.c 116,.l 116,.b 0,.c 15],⟨40,[vS 0 word,vL 1 2 l Qaa.enc,vO 5 0 2 l1 Qaa.enc,vI 6 i],[oS 2 144 l1 Qaa.enc]⟩⟩
def Qfu (Γ:Gam) (rv:List Qaa) (word:ByteArray) (l:List Qaa) (l2:List Qaa):Prop:=QgZ Γ rv ⟨[.c 15],⟨40,[vO 5 0 2 l2 Qaa.enc],[oS 2 144 l2 Qaa.enc]⟩⟩
theorem QhK (Γ:Gam) (rv:List Qaa) {word l l1 i at_} {x:(List Qaa × Int) ⊕ (List Qaa)} (h:QeU word l l1 i at_ = some x) (hI:∀ s:List Qaa × Int,x = .inl s→QfN Γ rv word l s.1 s.2) (hE:∀ e:List Qaa,x = .inr e→Qfu Γ rv word l e):QgZ Γ rv ⟨[.c 3731,.b 1,.c 467,.l 116,.b 0,.c 15],⟨40,[vS 0 word,vL 1 2 l Qaa.enc,vO 5 0 2 l1 Qaa.enc,vI 6 i,vS 7 at_],[oS 2 144 l1 Qaa.enc]⟩⟩:=by
 unfold QeU at h
 obtain ⟨x1,h5,h⟩:=Qae h
 obtain ⟨h6,h⟩:=Qas h
 exact gn 4 [0,1,5,6] [2] [cE Qaa.enc h5,oO (Eq.refl ([(Qaa.mk x1.err at_)].map Qaa.enc).length),aO Qaa.enc h6] (hI _ (oJ h))
theorem QmX (Γ:Gam) (rv:List Qaa) {word l} {s:List Qaa × Int} {e:List Qaa} (h:loopF (fun s=>QeV word l s.1 s.2) s = some e) (hD:Qfu Γ rv word l e):QfN Γ rv word l s.1 s.2:=by
 refine QaD (C:=fun (s:List Qaa × Int)=>QfN Γ rv word l s.1 s.2) (D:=fun (e:List Qaa)=>Qfu Γ rv word l e) ?_ h hD
 clear h hD s e
 rintro ⟨l1,i⟩ z_ h hI hE
 replace h:QeV word l l1 i = _:=h
 unfold QeV at h
 rcases Qag h with ⟨h0,h⟩|⟨h0,h⟩
 ·obtain ⟨x0,h1,h⟩:=Qae h
  rcases Qag h with ⟨h2,h⟩|⟨h2,h⟩
  ·exact gn 14 [0,1,5,6,7] [0] [nL Qaa.enc l,bT h0,cE Qaa.enc h1,nF h2] (QhK Γ rv h hI hE)
  ·obtain ⟨h3,h⟩:=Qas h
   obtain ⟨h4,h⟩:=Qas h
   exact gn 14 [0,1,5,6,7] [0] [nL Qaa.enc l,bT h0,cE Qaa.enc h1,nT h2,oO (h3),cE Qaa.enc h1,oO (h4)] (QhK Γ rv h hI hE)
 ·exact gn 5 [5] [0] [nL Qaa.enc l,bF h0] (hE _ (oJ h))
theorem Qox {word l} {rv:List Qaa} (h:Qf8 word l = some rv):AFn Tryz.prog 44 [.one (.str word),.one (lL 2 l Qaa.enc)] [] (one (lO 0 2 rv Qaa.enc)) [oS 2 144 rv Qaa.enc]:=by
 refine QaL Tryz.func44 (by kernel_rfl) (by kernel_rfl) (fun Γ=>?_)
 unfold Qf8 at h
 obtain ⟨e0,h7,h⟩:=Qae h
 refine gn 9 [0,1,5,6] [0] [hW 12,hH (.adopt 5 2 144)] (QmX Γ rv h7 ?_)
 obtain ⟨l2,rfl⟩:∃ x,x = e0:=⟨_,rfl⟩
 replace h:(some l2:Option (List Qaa)) = some _:=h
 obtain rfl:=Option.some.inj h
 exact gr 2 [0] []
theorem QqW {x0} {rv:List Qaa} (h:QgX x0 = some rv):AFn Tryz.prog 25 [.agg (Qad.enc x0)] [] (one (lL 2 rv Qaa.enc)) []:=by
 refine QaL Tryz.func25 (by kernel_rfl) (by kernel_rfl) (fun Γ=>?_)
 unfold QgX at h
 obtain ⟨r,h0,h⟩:=Qae h
 obtain ⟨r1,h1,h⟩:=Qae h
 obtain ⟨r2,h2,h⟩:=Qae h
 obtain ⟨r3,h3,h⟩:=Qae h
 obtain ⟨h4,h⟩:=Qas h
 obtain ⟨r4,h5,h⟩:=Qae h
 obtain ⟨r5,h6,h⟩:=Qae h
 obtain ⟨r6,h7,h⟩:=Qae h
 obtain ⟨h8,h⟩:=Qas h
 obtain ⟨r7,h9,h⟩:=Qae h
 obtain ⟨r8,h10,h⟩:=Qae h
 obtain ⟨h11,h⟩:=Qas h
 obtain rfl:=Option.some.inj h
 exact gr 12 [] [cC (QqQ h0),cC (Qox h1),cC (QqR h2),cC (QiC h3),aO Qaa.enc h4,hH (.draw 13 []),cC (QfK h5),nL Qai.enc x0.types,cC (QqT h6),cC (QiC h7),aO Qaa.enc h8,nL Qak.enc x0.orders,cC (QqV h9),cC (QiC h10),aO Qaa.enc h11,hW 5,hH (.frz 4),rp 4 (oO (Eq.refl ((((r1 ++ r3) ++ r6) ++ r8).map Qaa.enc).length))]
theorem QaO {x0} {rv:Bool} (h:QeN x0 = some rv):AFn Tryz.prog 8 [.agg (Qad.enc x0)] [] (one (.bool rv)) []:=by
 refine QaL Tryz.func8 (by kernel_rfl) (by kernel_rfl) (fun Γ=>?_)
 unfold QeN at h
 obtain ⟨r,h0,h⟩:=Qae h
 obtain rfl:=Option.some.inj h
 exact gr 4 [] [cC (QqW h0),nL Qaa.enc r]
theorem Qa4 {r} {rv:Bool} (h:QfE r = some rv):AFn Tryz.prog 9 [.agg (Qac.enc r)] [] (one (.bool rv)) []:=by
 refine QaL Tryz.func9 (by kernel_rfl) (by kernel_rfl) (fun Γ=>?_)
 unfold QfE at h
 obtain rfl:=Option.some.inj h
 exact gr 4 [] [nL Qab.enc r.visits,hP,hP,hP,rp 2 (oI ((leI (lenI r.visits) 8) = false)),nL Qab.enc r.visits,hP,hP,oI ((leI (lenI r.visits) 8) = false),oR True ((leI (lenI r.visits) 8) = false)]
theorem Qlq {now} {rv:Bool} (h:Qly now = some rv):AFn Tryz.prog 27 [.one (lI now)] [] (one (.bool rv)) []:=by
 refine QaL Tryz.func27 (by kernel_rfl) (by kernel_rfl) (fun Γ=>?_)
 unfold Qly at h
 obtain rfl:=Option.some.inj h
 exact gr 4 [] [hP,hP,hP,oI ((geI now 0) = true),oR True ((geI now 0) = true)]
def Qew (Γ:Gam) (rv:Int) (cf:Cf):Prop:=Go Tryz.prog Tryz.f143 [] Γ (one (lI rv)) [] cf
def QdX (Γ:Gam) (rv:Int) (s0:List Qab) (v:Qab) (v1:Int):Prop:=Qew Γ rv ⟨[.c 52,.l 52,.b 0,.c 7],⟨19,[vL 0 2 s0 Qab.enc,vP 3 0 2,vI 7 (lenI s0),vI 8 v1],[oX 2 79 (Qab.enc v)]⟩⟩
def QdH (Γ:Gam) (rv:Int) (s0:List Qab) (v:Qab):Prop:=Qew Γ rv ⟨[.c 7],⟨19,[],[]⟩⟩
theorem QgN (Γ:Gam) (rv:Int) {s0 v} {s:Int} {e:(Unit) ⊕ (Int)} (h:loopF (fun s=>QaM s0 v s) s = some e) (hD:sel e (fun e=>QdH Γ rv s0 v) (fun e=>e = rv)):QdX Γ rv s0 v s:=by
 refine QaD (C:=fun (s:Int)=>QdX Γ rv s0 v s) (D:=fun (e:(Unit) ⊕ (Int))=>sel e (fun e=>QdH Γ rv s0 v) (fun e=>e = rv)) ?_ h hD
 clear h hD s e
 intro v1 z_ h hI hE
 replace h:QaM s0 v v1 = _:=h
 unfold QaM at h
 rcases Qag h with ⟨h0,h⟩|⟨h0,h⟩
 ·obtain ⟨x0,h1,h⟩:=Qae h
  rcases Qag h with ⟨h2,h⟩|⟨h2,h⟩
  ·obtain rfl:=(hE _ (oJ h):_ = rv)
   exact gr 14 [] [bT h0,hH (.draw 6 []),cE Qab.enc h1,bT h2]
  ·exact gn 16 [0,3,7,8] [0] [bT h0,hH (.draw 6 []),cE Qab.enc h1,bF h2] (hI _ (oJ h))
 ·exact gn 5 [] [] [bF h0] (hE _ (oJ h))
theorem Qej {s0 v} {rv:Int} (h:Qbi s0 v = some rv):AFn Tryz.prog 143 [.one (lL 2 s0 Qab.enc),.agg (Qab.enc v)] [] (one (lI rv)) []:=by
 refine QaL Tryz.func143 (by kernel_rfl) (by kernel_rfl) (fun Γ=>?_)
 unfold Qbi at h
 obtain ⟨e0,h3,h⟩:=Qae h
 refine gn 7 [0,3,7,8] [0] [nL Qab.enc s0] (QgN Γ rv h3 ?_)
 rcases e0 with e0|e0
 ·replace h:(some (-1):Option Int) = some _:=h
  obtain rfl:=Option.some.inj h
  exact gr 2 [] []
 ·obtain ⟨r,rfl⟩:∃ x,x = e0:=⟨_,rfl⟩
  replace h:(some r:Option Int) = some _:=h
  exact Option.some.inj h
theorem QhZ {l v} {rv:Int} (h:Qgc l v = some rv):AFn Tryz.prog 113 [.one (lL 2 l Qab.enc),.agg (Qab.enc v)] [] (one (lI rv)) []:=by
 refine QaL Tryz.func113 (by kernel_rfl) (by kernel_rfl) (fun Γ=>?_)
 unfold Qgc at h
 obtain ⟨r,h0,h⟩:=Qae h
 obtain rfl:=Option.some.inj h
 exact gr 4 [] [cC (Qej h0)]
def Qpx (Γ:Gam) (rv:Bool) (cf:Cf):Prop:=Go Tryz.prog Tryz.f69 [] Γ (one (.bool rv)) [] cf
def QmT (Γ:Gam) (rv:Bool) (l:List Qab) (v:Int):Prop:=Qpx Γ rv ⟨[.c 52,.l 52,.b 0,.c 7],⟨19,[vL 0 2 l Qab.enc,vL 5 2 l Qab.enc,vI 6 (lenI l),vI 7 v],[]⟩⟩
def Qmf (Γ:Gam) (rv:Bool) (l:List Qab):Prop:=Qpx Γ rv ⟨[.c 7],⟨19,[],[]⟩⟩
theorem QqA (Γ:Gam) (rv:Bool) {l} {s:Int} {e:(Unit) ⊕ (Bool)} (h:loopF (fun s=>Qc5 l s) s = some e) (hD:sel e (fun e=>Qmf Γ rv l) (fun e=>e = rv)):QmT Γ rv l s:=by
 refine QaD (C:=fun (s:Int)=>QmT Γ rv l s) (D:=fun (e:(Unit) ⊕ (Bool))=>sel e (fun e=>Qmf Γ rv l) (fun e=>e = rv)) ?_ h hD
 clear h hD s e
 intro v z_ h hI hE
 replace h:Qc5 l v = _:=h
 unfold Qc5 at h
 rcases Qag h with ⟨h0,h⟩|⟨h0,h⟩
 ·obtain ⟨x0,h1,h⟩:=Qae h
  obtain ⟨l1,h2,h⟩:=Qae h
  obtain ⟨r,h3,h⟩:=Qae h
  rcases Qag h with ⟨h4,h⟩|⟨h4,h⟩
  ·obtain rfl:=(hE _ (oJ h):_ = rv)
   exact gr 14 [] [bT h0,cE Qab.enc h1,hH (.draw 6 []),hH (.rows (l1.map Qab.enc)),oO (sl1 h2),oO (sl2 h2),oO (sl3 Qab.enc h2),oO (Int.le_refl v),oO (sl3 Qab.enc h2),oO (sl6 Qab.enc h2),cC (QhZ h3),bT h4]
  ·exact gn 16 [0,5,6,7] [] [bT h0,cE Qab.enc h1,hH (.draw 6 []),hH (.rows (l1.map Qab.enc)),oO (sl1 h2),oO (sl2 h2),oO (sl3 Qab.enc h2),oO (Int.le_refl v),oO (sl3 Qab.enc h2),oO (sl6 Qab.enc h2),cC (QhZ h3),bF h4] (hI _ (oJ h))
 ·exact gn 5 [] [] [bF h0] (hE _ (oJ h))
theorem QkB {l} {rv:Bool} (h:QiN l = some rv):AFn Tryz.prog 69 [.one (lL 2 l Qab.enc)] [] (one (.bool rv)) []:=by
 refine QaL Tryz.func69 (by kernel_rfl) (by kernel_rfl) (fun Γ=>?_)
 unfold QiN at h
 obtain ⟨e0,h5,h⟩:=Qae h
 refine gn 7 [0,5,6,7] [] [nL Qab.enc l] (QqA Γ rv h5 ?_)
 rcases e0 with e0|e0
 ·replace h:(some false:Option Bool) = some _:=h
  obtain rfl:=Option.some.inj h
  exact gr 2 [] []
 ·obtain ⟨r1,rfl⟩:∃ x,x = e0:=⟨_,rfl⟩
  replace h:(some r1:Option Bool) = some _:=h
  exact Option.some.inj h
theorem Qhj {l at_} {rv:Bool} (h:Qlz l at_ = some rv):AFn Tryz.prog 90 [.one (lL 16 l Qak.enc),.one (lI at_)] [] (one (.bool rv)) []:=by
 refine QaL Tryz.func90 (by kernel_rfl) (by kernel_rfl) (fun Γ=>?_)
 unfold Qlz at h
 obtain rfl:=Option.some.inj h
 exact gr 4 [] [hP,hP,hP,oI ((geI at_ 0) = true),nL Qak.enc l,hP,hP,rp 2 (oI ((geI at_ 0) = true)),oR True ((geI at_ 0) = true)]
def QtT (Γ:Gam) (rv:List Qab) (cf:Cf):Prop:=Go Tryz.prog Tryz.f114 [] Γ (one (lL 2 rv Qab.enc)) [] cf
theorem QnD (Γ:Gam) (rv:List Qab) {l at_ l1} (h:Qgu l at_ l1 = some rv):QtT Γ rv ⟨[.c 31],⟨35,[vL 0 16 l Qak.enc,vI 1 at_,vO 5 0 2 l1 Qab.enc],[oS 2 79 l1 Qab.enc]⟩⟩:=by
 unfold Qgu at h
 obtain ⟨x1,h5,h⟩:=Qae h
 rcases Qag h with ⟨h6,h⟩|⟨h6,h⟩
 ·obtain ⟨h7,h⟩:=Qas h
  obtain rfl:=Option.some.inj h
  exact gr 7 [] [cE Qak.enc h5,bT h6,oO (Eq.refl ([(Qab.mk at_ true)].map Qab.enc).length),aO Qab.enc h7,hW 5,hH (.frz 2),rp 4 (oO (Eq.refl ((l1 ++ [(Qab.mk at_ true)]).map Qab.enc).length))]
 ·obtain rfl:=Option.some.inj h
  exact gr 7 [] [cE Qak.enc h5,bF h6,hW 5,hH (.frz 0),rp 3 (eL l1 Qab.enc)]
theorem Qqc {l at_} {rv:List Qab} (h:Ql5 l at_ = some rv):AFn Tryz.prog 114 [.one (lL 16 l Qak.enc),.one (lI at_)] [] (one (lL 2 rv Qab.enc)) []:=by
 refine QaL Tryz.func114 (by kernel_rfl) (by kernel_rfl) (fun Γ=>?_)
 unfold Ql5 at h
 obtain ⟨r,h0,h⟩:=Qae h
 rcases Qag h with ⟨h1,h⟩|⟨h1,h⟩
 ·obtain ⟨x0,h2,h⟩:=Qae h
  rcases Qag h with ⟨h3,h⟩|⟨h3,h⟩
  ·obtain ⟨h4,h⟩:=Qas h
   exact gn 14 [0,1,5] [1] [cC (Qhj h0),nF h1,cE Qak.enc h2,bT h3,oO (Eq.refl ([(Qab.mk at_ false)].map Qab.enc).length),aN (l:=([(Qab.mk at_ false)]:List Qab)) Qab.enc h4] (QnD Γ rv h)
  ·exact gn 14 [0,1,5] [0] [cC (Qhj h0),nF h1,cE Qak.enc h2,bF h3,hW 1,hH (.adopt 5 2 79)] (QnD Γ rv h)
 ·obtain rfl:=Option.some.inj h
  exact gr 10 [] [cC (Qhj h0),nT h1,hW 3,hH (.nilS 4 0 2)]
theorem QdF {s0 v} {rv:Bool} (h:Qbm s0 v = some rv):AFn Tryz.prog 115 [.one (lL 2 s0 Qab.enc),.agg (Qab.enc v)] [] (one (.bool rv)) []:=by
 refine QaL Tryz.func115 (by kernel_rfl) (by kernel_rfl) (fun Γ=>?_)
 unfold Qbm at h
 obtain ⟨r,h0,h⟩:=Qae h
 obtain rfl:=Option.some.inj h
 exact gr 4 [] [cC (Qej h0)]
def QhY (Γ:Gam) (rv:Bool) (cf:Cf):Prop:=Go Tryz.prog Tryz.f70 [] Γ (one (.bool rv)) [] cf
def Qme (Γ:Gam) (rv:Bool) (x0:Qad) (l:List Qab) (v:Int) (r:List Qab) (last_:Int) (v1:Int):Prop:=QhY Γ rv ⟨[.c 108156,.l 108156,.b 2,.b 1,.c 423,.l 52,.b 0,.c 7],⟨42,[vL 1 2 l Qab.enc,vP 2 0 6,vI 8 last_,vL 12 2 l Qab.enc,vI 13 (lenI l),vI 14 v,vL 27 2 r Qab.enc,vI 28 (lenI r),vI 29 v1],[oX 6 30 (Qad.enc x0)]⟩⟩
def Qln (Γ:Gam) (rv:Bool) (x0:Qad) (l:List Qab) (v:Int) (r:List Qab):Prop:=QhY Γ rv ⟨[.b 1,.c 423,.l 52,.b 0,.c 7],⟨42,[vL 1 2 l Qab.enc,vP 2 0 6,vL 12 2 l Qab.enc,vI 13 (lenI l),vI 14 v],[oX 6 30 (Qad.enc x0)]⟩⟩
def Qmd (Γ:Gam) (rv:Bool) (x0:Qad) (l:List Qab) (v:Int):Prop:=QhY Γ rv ⟨[.c 52,.l 52,.b 0,.c 7],⟨42,[vL 1 2 l Qab.enc,vP 2 0 6,vL 12 2 l Qab.enc,vI 13 (lenI l),vI 14 v],[oX 6 30 (Qad.enc x0)]⟩⟩
def Qlm (Γ:Gam) (rv:Bool) (x0:Qad) (l:List Qab):Prop:=QhY Γ rv ⟨[.c 7],⟨42,[],[]⟩⟩
theorem Qp5 (Γ:Gam) (rv:Bool) {x0 l v r} {s:Int × Int} {e:(Unit) ⊕ (Bool)} (h:loopF (fun s=>Qbf x0 l v r s.1 s.2) s = some e) (hD:sel e (fun e=>Qln Γ rv x0 l v r) (fun e=>e = rv)):Qme Γ rv x0 l v r s.1 s.2:=by
 refine QaD (C:=fun (s:Int × Int)=>Qme Γ rv x0 l v r s.1 s.2) (D:=fun (e:(Unit) ⊕ (Bool))=>sel e (fun e=>Qln Γ rv x0 l v r) (fun e=>e = rv)) ?_ h hD
 clear h hD s e
 rintro ⟨last_,v1⟩ z_ h hI hE
 replace h:Qbf x0 l v r last_ v1 = _:=h
 unfold Qbf at h
 rcases Qag h with ⟨h5,h⟩|⟨h5,h⟩
 ·obtain ⟨x2,h6,h⟩:=Qae h
  obtain ⟨r2,h7,h⟩:=Qae h
  rcases Qag h with ⟨h8,h⟩|⟨h8,h⟩
  ·obtain rfl:=(hE _ (oJ h):_ = rv)
   exact gr 17 [] [bT h5,cE Qab.enc h6,cC (QhZ h7),bT h8]
  ·exact gn 20 [1,2,8,12,13,14,27,28,29] [0] [bT h5,cE Qab.enc h6,cC (QhZ h7),bF h8] (hI _ (oJ h))
 ·exact gn 5 [1,2,12,13,14] [0] [bF h5] (hE _ (oJ h))
theorem Qp4 (Γ:Gam) (rv:Bool) {x0 l} {s:Int} {e:(Unit) ⊕ (Bool)} (h:loopF (fun s=>QcO x0 l s) s = some e) (hD:sel e (fun e=>Qlm Γ rv x0 l) (fun e=>e = rv)):Qmd Γ rv x0 l s:=by
 refine QaD (C:=fun (s:Int)=>Qmd Γ rv x0 l s) (D:=fun (e:(Unit) ⊕ (Bool))=>sel e (fun e=>Qlm Γ rv x0 l) (fun e=>e = rv)) ?_ h hD
 clear h hD s e
 intro v z_ h hI hE
 replace h:QcO x0 l v = _:=h
 unfold QcO at h
 rcases Qag h with ⟨h0,h⟩|⟨h0,h⟩
 ·obtain ⟨x1,h1,h⟩:=Qae h
  obtain ⟨r,h2,h⟩:=Qae h
  obtain ⟨r1,h3,h⟩:=Qae h
  rcases Qag h with ⟨h4,h⟩|⟨h4,h⟩
  ·obtain ⟨e0,h9,h⟩:=Qae h
   refine gn 22 [1,2,8,12,13,14,27,28,29] [0] [bT h0,cE Qab.enc h1,cC (Qqc h2),cC (QdF h3),nF h4,nL Qab.enc r] (Qp5 Γ rv h9 ?_)
   rcases e0 with e0|e0
   ·replace h:(some (.inl (addK .i64 v 1)):Option ((Int) ⊕ ((Unit) ⊕ (Bool)))) = some _:=h
    exact gn 3 [1,2,12,13,14] [0] [] (hI _ (oJ h))
   ·obtain ⟨r3,rfl⟩:∃ x,x = e0:=⟨_,rfl⟩
    replace h:(some (.inr (.inr r3)):Option ((Int) ⊕ ((Unit) ⊕ (Bool)))) = some _:=h
    exact (hE _ (oJ h):_ = rv)
  ·obtain rfl:=(hE _ (oJ h):_ = rv)
   exact gr 17 [] [bT h0,cE Qab.enc h1,cC (Qqc h2),cC (QdF h3),nT h4]
 ·exact gn 5 [] [] [bF h0] (hE _ (oJ h))
theorem QnH {x0 l} {rv:Bool} (h:QhR x0 l = some rv):AFn Tryz.prog 70 [.agg (Qad.enc x0),.one (lL 2 l Qab.enc)] [] (one (.bool rv)) []:=by
 refine QaL Tryz.func70 (by kernel_rfl) (by kernel_rfl) (fun Γ=>?_)
 unfold QhR at h
 obtain ⟨e1,h10,h⟩:=Qae h
 refine gn 7 [1,2,12,13,14] [0] [nL Qab.enc l] (Qp4 Γ rv h10 ?_)
 rcases e1 with e1|e1
 ·replace h:(some true:Option Bool) = some _:=h
  obtain rfl:=Option.some.inj h
  exact gr 2 [] []
 ·obtain ⟨r4,rfl⟩:∃ x,x = e1:=⟨_,rfl⟩
  replace h:(some r4:Option Bool) = some _:=h
  exact Option.some.inj h
theorem Qoq {v c} {rv:Bool} (h:Qls v c = some rv):AFn Tryz.prog 116 [.agg (Qab.enc v),.one (.ip [lI c] 0)] [] (one (.bool rv)) []:=by
 refine QaL Tryz.func116 (by kernel_rfl) (by kernel_rfl) (fun Γ=>?_)
 unfold Qls at h
 obtain rfl:=Option.some.inj h
 exact gr 4 [] []
def Qc7 (Γ:Gam) (rv:Int) (cf:Cf):Prop:=Go Tryz.prog Tryz.f104 [] Γ (one (lI rv)) [] cf
def QcQ (Γ:Gam) (rv:Int) (s0:List Qab) (c:Int) (v:Int):Prop:=Qc7 Γ rv ⟨[.c 52,.l 52,.b 0,.c 7],⟨19,[vL 0 2 s0 Qab.enc,(1,one (.fn (.func 116) [.ip [lI c] 0])),vI 7 (lenI s0),vI 8 v],[]⟩⟩
def QcH (Γ:Gam) (rv:Int) (s0:List Qab) (c:Int):Prop:=Qc7 Γ rv ⟨[.c 7],⟨19,[],[]⟩⟩
theorem QeX (Γ:Gam) (rv:Int) {s0 c} {s:Int} {e:(Unit) ⊕ (Int)} (h:loopF (fun s=>QaC s0 c s) s = some e) (hD:sel e (fun e=>QcH Γ rv s0 c) (fun e=>e = rv)):QcQ Γ rv s0 c s:=by
 refine QaD (C:=fun (s:Int)=>QcQ Γ rv s0 c s) (D:=fun (e:(Unit) ⊕ (Int))=>sel e (fun e=>QcH Γ rv s0 c) (fun e=>e = rv)) ?_ h hD
 clear h hD s e
 intro v z_ h hI hE
 replace h:QaC s0 c v = _:=h
 unfold QaC at h
 rcases Qag h with ⟨h0,h⟩|⟨h0,h⟩
 ·obtain ⟨x0,h1,h⟩:=Qae h
  obtain ⟨r,h2,h⟩:=Qae h
  rcases Qag h with ⟨h3,h⟩|⟨h3,h⟩
  ·obtain rfl:=(hE _ (oJ h):_ = rv)
   exact gr 14 [] [bT h0,cE Qab.enc h1,cC (Qoq h2),bT h3]
  ·exact gn 16 [0,1,7,8] [] [bT h0,cE Qab.enc h1,cC (Qoq h2),bF h3] (hI _ (oJ h))
 ·exact gn 5 [] [] [bF h0] (hE _ (oJ h))
theorem Qfx {s0 c} {rv:Int} (h:Qa5 s0 c = some rv):AFn Tryz.prog 104 [.one (lL 2 s0 Qab.enc),.one (.fn (.func 116) [.ip [lI c] 0])] [] (one (lI rv)) []:=by
 refine QaL Tryz.func104 (by kernel_rfl) (by kernel_rfl) (fun Γ=>?_)
 unfold Qa5 at h
 obtain ⟨e0,h4,h⟩:=Qae h
 refine gn 7 [0,1,7,8] [] [nL Qab.enc s0] (QeX Γ rv h4 ?_)
 rcases e0 with e0|e0
 ·replace h:(some (-1):Option Int) = some _:=h
  obtain rfl:=Option.some.inj h
  exact gr 2 [] []
 ·obtain ⟨r1,rfl⟩:∃ x,x = e0:=⟨_,rfl⟩
  replace h:(some r1:Option Int) = some _:=h
  exact Option.some.inj h
theorem QeW {s0 c} {rv:Bool} (h:Qbh s0 c = some rv):AFn Tryz.prog 60 [.one (lL 2 s0 Qab.enc),.one (.fn (.func 116) [.ip [lI c] 0])] [] (one (.bool rv)) []:=by
 refine QaL Tryz.func60 (by kernel_rfl) (by kernel_rfl) (fun Γ=>?_)
 unfold Qbh at h
 obtain ⟨r,h0,h⟩:=Qae h
 obtain rfl:=Option.some.inj h
 exact gr 4 [] [cC (Qfx h0)]
theorem Qeu {l o} {rv:Bool} (h:Qg7 l o = some rv):AFn Tryz.prog 71 [.one (lL 2 l Qab.enc),.one (lI o)] [] (one (.bool rv)) []:=by
 refine QaL Tryz.func71 (by kernel_rfl) (by kernel_rfl) (fun Γ=>?_)
 unfold Qg7 at h
 obtain ⟨r,h0,h⟩:=Qae h
 obtain rfl:=Option.some.inj h
 exact gr 4 [] [cC (QeW h0)]
theorem Qmc {v c} {rv:Bool} (h:QhX v c = some rv):AFn Tryz.prog 117 [.agg (Qab.enc v),.one (.ip [lI c] 0)] [] (one (.bool rv)) []:=by
 refine QaL Tryz.func117 (by kernel_rfl) (by kernel_rfl) (fun Γ=>?_)
 unfold QhX at h
 obtain rfl:=Option.some.inj h
 exact gr 4 [] []
def QcP (Γ:Gam) (rv:Int) (cf:Cf):Prop:=Go Tryz.prog Tryz.f104 [] Γ (one (lI rv)) [] cf
def Qcv (Γ:Gam) (rv:Int) (s0:List Qab) (c:Int) (v:Int):Prop:=QcP Γ rv ⟨[.c 52,.l 52,.b 0,.c 7],⟨19,[vL 0 2 s0 Qab.enc,(1,one (.fn (.func 117) [.ip [lI c] 0])),vI 7 (lenI s0),vI 8 v],[]⟩⟩
def Qcr (Γ:Gam) (rv:Int) (s0:List Qab) (c:Int):Prop:=QcP Γ rv ⟨[.c 7],⟨19,[],[]⟩⟩
theorem Qeq (Γ:Gam) (rv:Int) {s0 c} {s:Int} {e:(Unit) ⊕ (Int)} (h:loopF (fun s=>Qay s0 c s) s = some e) (hD:sel e (fun e=>Qcr Γ rv s0 c) (fun e=>e = rv)):Qcv Γ rv s0 c s:=by
 refine QaD (C:=fun (s:Int)=>Qcv Γ rv s0 c s) (D:=fun (e:(Unit) ⊕ (Int))=>sel e (fun e=>Qcr Γ rv s0 c) (fun e=>e = rv)) ?_ h hD
 clear h hD s e
 intro v z_ h hI hE
 replace h:Qay s0 c v = _:=h
 unfold Qay at h
 rcases Qag h with ⟨h0,h⟩|⟨h0,h⟩
 ·obtain ⟨x0,h1,h⟩:=Qae h
  obtain ⟨r,h2,h⟩:=Qae h
  rcases Qag h with ⟨h3,h⟩|⟨h3,h⟩
  ·obtain rfl:=(hE _ (oJ h):_ = rv)
   exact gr 14 [] [bT h0,cE Qab.enc h1,cC (Qmc h2),bT h3]
  ·exact gn 16 [0,1,7,8] [] [bT h0,cE Qab.enc h1,cC (Qmc h2),bF h3] (hI _ (oJ h))
 ·exact gn 5 [] [] [bF h0] (hE _ (oJ h))
theorem Qbw {s0 c} {rv:Int} (h:QaZ s0 c = some rv):AFn Tryz.prog 104 [.one (lL 2 s0 Qab.enc),.one (.fn (.func 117) [.ip [lI c] 0])] [] (one (lI rv)) []:=by
 refine QaL Tryz.func104 (by kernel_rfl) (by kernel_rfl) (fun Γ=>?_)
 unfold QaZ at h
 obtain ⟨e0,h4,h⟩:=Qae h
 refine gn 7 [0,1,7,8] [] [nL Qab.enc s0] (Qeq Γ rv h4 ?_)
 rcases e0 with e0|e0
 ·replace h:(some (-1):Option Int) = some _:=h
  obtain rfl:=Option.some.inj h
  exact gr 2 [] []
 ·obtain ⟨r1,rfl⟩:∃ x,x = e0:=⟨_,rfl⟩
  replace h:(some r1:Option Int) = some _:=h
  exact Option.some.inj h
theorem QnG {l a b} {rv:Bool} (h:QhQ l a b = some rv):AFn Tryz.prog 72 [.one (lL 2 l Qab.enc),.one (lI a),.one (lI b)] [] (one (.bool rv)) []:=by
 refine QaL Tryz.func72 (by kernel_rfl) (by kernel_rfl) (fun Γ=>?_)
 unfold QhQ at h
 obtain ⟨r,h0,h⟩:=Qae h
 rcases Qag h with ⟨h1,h⟩|⟨h1,h⟩
 ·obtain rfl:=Option.some.inj h
  exact gr 10 [] [cC (Qbw h0),bT h1]
 ·obtain ⟨r1,h2,h⟩:=Qae h
  rcases Qag h with ⟨h3,h⟩|⟨h3,h⟩
  ·obtain ⟨l1,h4,h⟩:=Qae h
   obtain ⟨r2,h5,h⟩:=Qae h
   obtain rfl:=Option.some.inj h
   exact gr 11 [] [cC (Qbw h0),bF h1,cC (Qeu h2),rp 3 (bT h3),hH (.rows (l1.map Qab.enc)),oO (sl1 h4),oO (sl2h Qab.enc h4),rp 3 (oO (Int.le_refl ((l.map Qab.enc).length:Int))),oO (sl6h Qab.enc h4),bT h3,bT h3,cC (Qeu h5),bT h3,bT h3]
  ·obtain rfl:=Option.some.inj h
   exact gr 11 [] [cC (Qbw h0),bF h1,cC (Qeu h2),rp 7 (bF h3)]
theorem QmP {v c} {rv:Bool} (h:QiK v c = some rv):AFn Tryz.prog 67 [.agg (Qab.enc v),.one (.ip (Qad.enc c) 0)] [] (one (.bool rv)) []:=by
 refine QaL Tryz.func67 (by kernel_rfl) (by kernel_rfl) (fun Γ=>?_)
 unfold QiK at h
 obtain rfl:=Option.some.inj h
 exact gr 4 [] [rp 5 hP,rp 3 (oI ((ltI v.order 0) = false)),nL Qak.enc c.orders,hP,hP,rp 2 (oI ((ltI v.order 0) = false)),oR True ((ltI v.order 0) = false)]
def QcX (Γ:Gam) (rv:Int) (cf:Cf):Prop:=Go Tryz.prog Tryz.f104 [] Γ (one (lI rv)) [] cf
def QcA (Γ:Gam) (rv:Int) (s0:List Qab) (c:Qad) (v:Int):Prop:=QcX Γ rv ⟨[.c 52,.l 52,.b 0,.c 7],⟨19,[vL 0 2 s0 Qab.enc,(1,one (.fn (.func 67) [.ip (Qad.enc c) 0])),vI 7 (lenI s0),vI 8 v],[]⟩⟩
def Qct (Γ:Gam) (rv:Int) (s0:List Qab) (c:Qad):Prop:=QcX Γ rv ⟨[.c 7],⟨19,[],[]⟩⟩
theorem QeJ (Γ:Gam) (rv:Int) {s0 c} {s:Int} {e:(Unit) ⊕ (Int)} (h:loopF (fun s=>Qaz s0 c s) s = some e) (hD:sel e (fun e=>Qct Γ rv s0 c) (fun e=>e = rv)):QcA Γ rv s0 c s:=by
 refine QaD (C:=fun (s:Int)=>QcA Γ rv s0 c s) (D:=fun (e:(Unit) ⊕ (Int))=>sel e (fun e=>Qct Γ rv s0 c) (fun e=>e = rv)) ?_ h hD
 clear h hD s e
 intro v z_ h hI hE
 replace h:Qaz s0 c v = _:=h
 unfold Qaz at h
 rcases Qag h with ⟨h0,h⟩|⟨h0,h⟩
 ·obtain ⟨x0,h1,h⟩:=Qae h
  obtain ⟨r,h2,h⟩:=Qae h
  rcases Qag h with ⟨h3,h⟩|⟨h3,h⟩
  ·obtain rfl:=(hE _ (oJ h):_ = rv)
   exact gr 14 [] [bT h0,cE Qab.enc h1,cC (QmP h2),bT h3]
  ·exact gn 16 [0,1,7,8] [] [bT h0,cE Qab.enc h1,cC (QmP h2),bF h3] (hI _ (oJ h))
 ·exact gn 5 [] [] [bF h0] (hE _ (oJ h))
theorem Qe0 {s0 c} {rv:Int} (h:Qa1 s0 c = some rv):AFn Tryz.prog 104 [.one (lL 2 s0 Qab.enc),.one (.fn (.func 67) [.ip (Qad.enc c) 0])] [] (one (lI rv)) []:=by
 refine QaL Tryz.func104 (by kernel_rfl) (by kernel_rfl) (fun Γ=>?_)
 unfold Qa1 at h
 obtain ⟨e0,h4,h⟩:=Qae h
 refine gn 7 [0,1,7,8] [] [nL Qab.enc s0] (QeJ Γ rv h4 ?_)
 rcases e0 with e0|e0
 ·replace h:(some (-1):Option Int) = some _:=h
  obtain rfl:=Option.some.inj h
  exact gr 2 [] []
 ·obtain ⟨r1,rfl⟩:∃ x,x = e0:=⟨_,rfl⟩
  replace h:(some r1:Option Int) = some _:=h
  exact Option.some.inj h
theorem QaU {s0 c} {rv:Bool} (h:QaW s0 c = some rv):AFn Tryz.prog 60 [.one (lL 2 s0 Qab.enc),.one (.fn (.func 67) [.ip (Qad.enc c) 0])] [] (one (.bool rv)) []:=by
 refine QaL Tryz.func60 (by kernel_rfl) (by kernel_rfl) (fun Γ=>?_)
 unfold QaW at h
 obtain ⟨r,h0,h⟩:=Qae h
 obtain rfl:=Option.some.inj h
 exact gr 4 [] [cC (Qe0 h0)]
theorem QmQ {v c} {rv:Bool} (h:QiL v c = some rv):AFn Tryz.prog 68 [.agg (Qab.enc v),.one (.ip (Qad.enc c) 0)] [] (one (.bool rv)) []:=by
 refine QaL Tryz.func68 (by kernel_rfl) (by kernel_rfl) (fun Γ=>?_)
 unfold QiL at h
 obtain ⟨x0,h0,h⟩:=Qae h
 obtain rfl:=Option.some.inj h
 exact gr 4 [] [cE Qak.enc h0]
def QcY (Γ:Gam) (rv:Int) (cf:Cf):Prop:=Go Tryz.prog Tryz.f104 [] Γ (one (lI rv)) [] cf
def QcB (Γ:Gam) (rv:Int) (s0:List Qab) (c:Qad) (v:Int):Prop:=QcY Γ rv ⟨[.c 52,.l 52,.b 0,.c 7],⟨19,[vL 0 2 s0 Qab.enc,(1,one (.fn (.func 68) [.ip (Qad.enc c) 0])),vI 7 (lenI s0),vI 8 v],[]⟩⟩
def Qcu (Γ:Gam) (rv:Int) (s0:List Qab) (c:Qad):Prop:=QcY Γ rv ⟨[.c 7],⟨19,[],[]⟩⟩
theorem QeK (Γ:Gam) (rv:Int) {s0 c} {s:Int} {e:(Unit) ⊕ (Int)} (h:loopF (fun s=>QaA s0 c s) s = some e) (hD:sel e (fun e=>Qcu Γ rv s0 c) (fun e=>e = rv)):QcB Γ rv s0 c s:=by
 refine QaD (C:=fun (s:Int)=>QcB Γ rv s0 c s) (D:=fun (e:(Unit) ⊕ (Int))=>sel e (fun e=>Qcu Γ rv s0 c) (fun e=>e = rv)) ?_ h hD
 clear h hD s e
 intro v z_ h hI hE
 replace h:QaA s0 c v = _:=h
 unfold QaA at h
 rcases Qag h with ⟨h0,h⟩|⟨h0,h⟩
 ·obtain ⟨x0,h1,h⟩:=Qae h
  obtain ⟨r,h2,h⟩:=Qae h
  rcases Qag h with ⟨h3,h⟩|⟨h3,h⟩
  ·obtain rfl:=(hE _ (oJ h):_ = rv)
   exact gr 14 [] [bT h0,cE Qab.enc h1,cC (QmQ h2),bT h3]
  ·exact gn 16 [0,1,7,8] [] [bT h0,cE Qab.enc h1,cC (QmQ h2),bF h3] (hI _ (oJ h))
 ·exact gn 5 [] [] [bF h0] (hE _ (oJ h))
theorem Qe1 {s0 c} {rv:Int} (h:Qa2 s0 c = some rv):AFn Tryz.prog 104 [.one (lL 2 s0 Qab.enc),.one (.fn (.func 68) [.ip (Qad.enc c) 0])] [] (one (lI rv)) []:=by
 refine QaL Tryz.func104 (by kernel_rfl) (by kernel_rfl) (fun Γ=>?_)
 unfold Qa2 at h
 obtain ⟨e0,h4,h⟩:=Qae h
 refine gn 7 [0,1,7,8] [] [nL Qab.enc s0] (QeK Γ rv h4 ?_)
 rcases e0 with e0|e0
 ·replace h:(some (-1):Option Int) = some _:=h
  obtain rfl:=Option.some.inj h
  exact gr 2 [] []
 ·obtain ⟨r1,rfl⟩:∃ x,x = e0:=⟨_,rfl⟩
  replace h:(some r1:Option Int) = some _:=h
  exact Option.some.inj h
theorem Qa6 {s0 c} {rv:Bool} (h:QaX s0 c = some rv):AFn Tryz.prog 60 [.one (lL 2 s0 Qab.enc),.one (.fn (.func 68) [.ip (Qad.enc c) 0])] [] (one (.bool rv)) []:=by
 refine QaL Tryz.func60 (by kernel_rfl) (by kernel_rfl) (fun Γ=>?_)
 unfold QaX at h
 obtain ⟨r,h0,h⟩:=Qae h
 obtain rfl:=Option.some.inj h
 exact gr 4 [] [cC (Qe1 h0)]
def QiM (Γ:Gam) (rv:Int) (cf:Cf):Prop:=Go Tryz.prog Tryz.f39 [] Γ (one (lI rv)) [] cf
def QmR (Γ:Gam) (rv:Int) (x0:Qad) (r:Qac) (v:Int):Prop:=QiM Γ rv ⟨[.c 500,.l 500,.b 1,.c 63],⟨65,[vP 2 0 6,vL 5 2 r.visits Qab.enc,vL 33 2 x0.apart QaQ.enc,vI 34 (lenI x0.apart),vI 35 v],[oX 6 30 (Qad.enc x0)]⟩⟩
def Ql9 (Γ:Gam) (rv:Int) (x0:Qad) (r:Qac):Prop:=QiM Γ rv ⟨[.c 63],⟨65,[vP 2 0 6,vL 5 2 r.visits Qab.enc],[oX 6 30 (Qad.enc x0)]⟩⟩
def QmS (Γ:Gam) (rv:Int) (x0:Qad) (r:Qac) (v1:Int):Prop:=QiM Γ rv ⟨[.c 1012,.l 1012,.b 3,.c 127],⟨65,[vL 5 2 r.visits Qab.enc,vL 51 2 x0.before QaQ.enc,vI 52 (lenI x0.before),vI 53 v1],[]⟩⟩
def Qma (Γ:Gam) (rv:Int) (x0:Qad) (r:Qac):Prop:=QiM Γ rv ⟨[.c 127],⟨65,[],[]⟩⟩
theorem Qqy (Γ:Gam) (rv:Int) {x0 r} {s:Int} {e:(Unit) ⊕ (Int)} (h:loopF (fun s=>Qc4 x0 r s) s = some e) (hD:sel e (fun e=>Ql9 Γ rv x0 r) (fun e=>e = rv)):QmR Γ rv x0 r s:=by
 refine QaD (C:=fun (s:Int)=>QmR Γ rv x0 r s) (D:=fun (e:(Unit) ⊕ (Int))=>sel e (fun e=>Ql9 Γ rv x0 r) (fun e=>e = rv)) ?_ h hD
 clear h hD s e
 intro v z_ h hI hE
 replace h:Qc4 x0 r v = _:=h
 unfold Qc4 at h
 rcases Qag h with ⟨h9,h⟩|⟨h9,h⟩
 ·obtain ⟨x1,h10,h⟩:=Qae h
  obtain ⟨r5,h11,h⟩:=Qae h
  rcases Qag h with ⟨h12,h⟩|⟨h12,h⟩
  ·obtain ⟨r6,h13,h⟩:=Qae h
   rcases Qag h with ⟨h14,h⟩|⟨h14,h⟩
   ·obtain rfl:=(hE _ (oJ h):_ = rv)
    exact gr 14 [] [bT h9,cE QaQ.enc h10,oO (zL 0),oO (lT 0 2),cC (Qeu h11),rp 2 (bT h12),oO (zL 1),oO (lT 1 2),rp 2 (bT h12),cC (Qeu h13),bT h12,bT h14]
   ·exact gn 16 [2,5,33,34,35] [0] [bT h9,cE QaQ.enc h10,oO (zL 0),oO (lT 0 2),cC (Qeu h11),rp 2 (bT h12),oO (zL 1),oO (lT 1 2),rp 2 (bT h12),cC (Qeu h13),bT h12,bF h14] (hI _ (oJ h))
  ·exact gn 16 [2,5,33,34,35] [0] [bT h9,cE QaQ.enc h10,oO (zL 0),oO (lT 0 2),cC (Qeu h11),rp 5 (bF h12),fF] (hI _ (oJ h))
 ·exact gn 5 [2,5] [0] [bF h9] (hE _ (oJ h))
theorem Qqz (Γ:Gam) (rv:Int) {x0 r} {s:Int} {e:(Unit) ⊕ (Int)} (h:loopF (fun s=>QcG x0 r s) s = some e) (hD:sel e (fun e=>Qma Γ rv x0 r) (fun e=>e = rv)):QmS Γ rv x0 r s:=by
 refine QaD (C:=fun (s:Int)=>QmS Γ rv x0 r s) (D:=fun (e:(Unit) ⊕ (Int))=>sel e (fun e=>Qma Γ rv x0 r) (fun e=>e = rv)) ?_ h hD
 clear h hD s e
 intro v1 z_ h hI hE
 replace h:QcG x0 r v1 = _:=h
 unfold QcG at h
 rcases Qag h with ⟨h16,h⟩|⟨h16,h⟩
 ·obtain ⟨x2,h17,h⟩:=Qae h
  obtain ⟨r7,h18,h⟩:=Qae h
  rcases Qag h with ⟨h19,h⟩|⟨h19,h⟩
  ·exact gn 16 [5,51,52,53] [] [bT h16,cE QaQ.enc h17,oO (zL 0),oO (lT 0 2),oO (zL 1),oO (lT 1 2),cC (QnG h18),nF h19] (hI _ (oJ h))
  ·obtain rfl:=(hE _ (oJ h):_ = rv)
   exact gr 14 [] [bT h16,cE QaQ.enc h17,oO (zL 0),oO (lT 0 2),oO (zL 1),oO (lT 1 2),cC (QnG h18),nT h19]
 ·exact gn 5 [] [] [bF h16] (hE _ (oJ h))
theorem Qdu {x0 r} {rv:Int} (h:Qhk x0 r = some rv):AFn Tryz.prog 39 [.agg (Qad.enc x0),.agg (Qac.enc r)] [] (one (lI rv)) []:=by
 refine QaL Tryz.func39 (by kernel_rfl) (by kernel_rfl) (fun Γ=>?_)
 unfold Qhk at h
 rcases Qag h with ⟨h0,h⟩|⟨h0,h⟩
 ·obtain rfl:=Option.some.inj h
  exact gr 10 [] [nL Qab.enc r.visits,rp 4 (bT h0),tT]
 ·obtain ⟨r1,h1,h⟩:=Qae h
  rcases Qag h with ⟨h2,h⟩|⟨h2,h⟩
  ·obtain rfl:=Option.some.inj h
   exact gr 10 [] [nL Qab.enc r.visits,rp 3 (bF h0),cC (QaU h1),bF h0,bT h2]
  ·obtain ⟨r2,h3,h⟩:=Qae h
   rcases Qag h with ⟨h4,h⟩|⟨h4,h⟩
   ·obtain rfl:=Option.some.inj h
    exact gr 16 [] [nL Qab.enc r.visits,rp 3 (bF h0),cC (QaU h1),bF h0,bF h2,cC (Qa6 h3),bT h4]
   ·obtain ⟨r3,h5,h⟩:=Qae h
    rcases Qag h with ⟨h6,h⟩|⟨h6,h⟩
    ·obtain rfl:=Option.some.inj h
     exact gr 19 [] [nL Qab.enc r.visits,rp 3 (bF h0),cC (QaU h1),bF h0,bF h2,cC (Qa6 h3),bF h4,cC (QkB h5),bT h6]
    ·obtain ⟨r4,h7,h⟩:=Qae h
     rcases Qag h with ⟨h8,h⟩|⟨h8,h⟩
     ·obtain ⟨e0,h15,h⟩:=Qae h
      refine gn 27 [2,5,33,34,35] [0] [nL Qab.enc r.visits,rp 3 (bF h0),cC (QaU h1),bF h0,bF h2,cC (Qa6 h3),bF h4,cC (QkB h5),bF h6,cC (QnH h7),nF h8,nL QaQ.enc x0.apart] (Qqy Γ rv h15 ?_)
      rcases e0 with e0|e0
      ·replace h:(bnd (loopF (fun s=>QcG x0 r s) 0) (fun e=>sel e (fun (_:Unit)=>some 0) (fun r8=>some r8)):Option Int) = some _:=h
       obtain ⟨e1,h20,h⟩:=Qae h
       refine gn 5 [5,51,52,53] [] [nL QaQ.enc x0.before] (Qqz Γ rv h20 ?_)
       rcases e1 with e1|e1
       ·replace h:(some 0:Option Int) = some _:=h
        obtain rfl:=Option.some.inj h
        exact gr 2 [] []
       ·obtain ⟨r8,rfl⟩:∃ x,x = e1:=⟨_,rfl⟩
        replace h:(some r8:Option Int) = some _:=h
        exact Option.some.inj h
      ·obtain ⟨r9,rfl⟩:∃ x,x = e0:=⟨_,rfl⟩
       replace h:(some r9:Option Int) = some _:=h
       exact Option.some.inj h
     ·obtain rfl:=Option.some.inj h
      exact gr 22 [] [nL Qab.enc r.visits,rp 3 (bF h0),cC (QaU h1),bF h0,bF h2,cC (Qa6 h3),bF h4,cC (QkB h5),bF h6,cC (QnH h7),nT h8]
theorem QrQ {t skills} {rv:Bool} (h:QlL t skills = some rv):AFn Tryz.prog 73 [.agg (Qai.enc t),.one (lI skills)] [] (one (.bool rv)) []:=by
 refine QaL Tryz.func73 (by kernel_rfl) (by kernel_rfl) (fun Γ=>?_)
 unfold QlL at h
 obtain rfl:=Option.some.inj h
 exact gr 4 [] [rp 9 hP,oI ((geI t.skills 0) = true),oR True ((geI t.skills 0) = true),rp 4 (oI (((geI t.skills 0) && (geI skills 0)) = true)),oR True (((geI t.skills 0) && (geI skills 0)) = true)]
def QsL (Γ:Gam) (rv:Int) (cf:Cf):Prop:=Go Tryz.prog Tryz.f40 [] Γ (one (lI rv)) [] cf
def Qqd (Γ:Gam) (rv:Int) (x0:Qad) (r:Qac) (v:Int):Prop:=QsL Γ rv ⟨[.c 52,.l 52,.b 0,.c 7],⟨30,[vP 2 0 6,vP 3 1 4,vL 8 2 r.visits Qab.enc,vI 9 (lenI r.visits),vI 10 v],[oX 6 30 (Qad.enc x0),oX 4 34 (Qac.enc r)]⟩⟩
def Qpw (Γ:Gam) (rv:Int) (x0:Qad) (r:Qac):Prop:=QsL Γ rv ⟨[.c 7],⟨30,[],[]⟩⟩
theorem QsM (Γ:Gam) (rv:Int) {x0 r} {s:Int} {e:(Unit) ⊕ (Int)} (h:loopF (fun s=>Qfo x0 r s) s = some e) (hD:sel e (fun e=>Qpw Γ rv x0 r) (fun e=>e = rv)):Qqd Γ rv x0 r s:=by
 refine QaD (C:=fun (s:Int)=>Qqd Γ rv x0 r s) (D:=fun (e:(Unit) ⊕ (Int))=>sel e (fun e=>Qpw Γ rv x0 r) (fun e=>e = rv)) ?_ h hD
 clear h hD s e
 intro v z_ h hI hE
 replace h:Qfo x0 r v = _:=h
 unfold Qfo at h
 rcases Qag h with ⟨h0,h⟩|⟨h0,h⟩
 ·obtain ⟨x1,h1,h⟩:=Qae h
  obtain ⟨x2,h2,h⟩:=Qae h
  obtain ⟨x3,h3,h⟩:=Qae h
  obtain ⟨r1,h4,h⟩:=Qae h
  rcases Qag h with ⟨h5,h⟩|⟨h5,h⟩
  ·exact gn 16 [2,3,8,9,10] [0,1] [bT h0,cE Qab.enc h1,hH (.draw 15 []),cE Qai.enc h2,cE Qak.enc h3,cC (QrQ h4),nF h5] (hI _ (oJ h))
  ·obtain rfl:=(hE _ (oJ h):_ = rv)
   exact gr 14 [] [bT h0,cE Qab.enc h1,hH (.draw 15 []),cE Qai.enc h2,cE Qak.enc h3,cC (QrQ h4),nT h5]
 ·exact gn 5 [] [] [bF h0] (hE _ (oJ h))
theorem QmK {x0 r} {rv:Int} (h:Qpv x0 r = some rv):AFn Tryz.prog 40 [.agg (Qad.enc x0),.agg (Qac.enc r)] [] (one (lI rv)) []:=by
 refine QaL Tryz.func40 (by kernel_rfl) (by kernel_rfl) (fun Γ=>?_)
 unfold Qpv at h
 obtain ⟨e0,h6,h⟩:=Qae h
 refine gn 7 [2,3,8,9,10] [0,1] [nL Qab.enc r.visits] (QsM Γ rv h6 ?_)
 rcases e0 with e0|e0
 ·replace h:(some 0:Option Int) = some _:=h
  obtain rfl:=Option.some.inj h
  exact gr 2 [] []
 ·obtain ⟨r2,rfl⟩:∃ x,x = e0:=⟨_,rfl⟩
  replace h:(some r2:Option Int) = some _:=h
  exact Option.some.inj h
def Qop (Γ:Gam) (rv:Int × Int) (cf:Cf):Prop:=Go Tryz.prog Tryz.f118 [] Γ (.tup [.one (lI rv.1),.one (lI rv.2)]) [] cf
def Qmb (Γ:Gam) (rv:Int × Int) (r:Qac) (set_:Int) (v:Int):Prop:=Qop Γ rv ⟨[.c 116,.l 116,.b 0,.c 15],⟨29,[vI 4 set_,vL 8 2 r.visits Qab.enc,vI 9 (lenI r.visits),vI 10 v],[]⟩⟩
def Qll (Γ:Gam) (rv:Int × Int) (r:Qac) (set_1:Int):Prop:=Qop Γ rv ⟨[.c 15],⟨29,[vI 4 set_1],[]⟩⟩
theorem Qp3 (Γ:Gam) (rv:Int × Int) {r} {s:Int × Int} {e:(Int) ⊕ (Int × Int)} (h:loopF (fun s=>QeI r s.1 s.2) s = some e) (hD:sel e (fun e=>Qll Γ rv r e) (fun e=>e = rv)):Qmb Γ rv r s.1 s.2:=by
 refine QaD (C:=fun (s:Int × Int)=>Qmb Γ rv r s.1 s.2) (D:=fun (e:(Int) ⊕ (Int × Int))=>sel e (fun e=>Qll Γ rv r e) (fun e=>e = rv)) ?_ h hD
 clear h hD s e
 rintro ⟨set_,v⟩ z_ h hI hE
 replace h:QeI r set_ v = _:=h
 unfold QeI at h
 rcases Qag h with ⟨h0,h⟩|⟨h0,h⟩
 ·obtain ⟨x0,h1,h⟩:=Qae h
  rcases Qag h with ⟨h2,h⟩|⟨h2,h⟩
  ·obtain rfl:=(hE _ (oJ h):_ = rv)
   exact gr 15 [] [bT h0,cE Qab.enc h1,rp 4 hP,rp 2 (oI ((ltI x0.order 0) = false)),oR True ((ltI x0.order 0) = false),bT h2]
  ·obtain ⟨h3,h⟩:=Qas h
   exact gn 18 [4,8,9,10] [] [bT h0,cE Qab.enc h1,rp 4 hP,rp 2 (oI ((ltI x0.order 0) = false)),oR True ((ltI x0.order 0) = false),bF h2,oO (h3)] (hI _ (oJ h))
 ·exact gn 5 [4] [] [bF h0] (hE _ (oJ h))
theorem QnF {r} {rv:Int × Int} (h:QhP r = some rv):AFn Tryz.prog 118 [.agg (Qac.enc r)] [] (.tup [.one (lI rv.1),.one (lI rv.2)]) []:=by
 refine QaL Tryz.func118 (by kernel_rfl) (by kernel_rfl) (fun Γ=>?_)
 unfold QhP at h
 obtain ⟨e0,h4,h⟩:=Qae h
 refine gn 9 [4,8,9,10] [] [nL Qab.enc r.visits] (Qp3 Γ rv h4 ?_)
 rcases e0 with e0|e0
 ·obtain ⟨set_1,rfl⟩:∃ x,x = e0:=⟨_,rfl⟩
  replace h:(some (set_1,0):Option (Int × Int)) = some _:=h
  obtain rfl:=Option.some.inj h
  exact gr 2 [] []
 ·obtain ⟨r1,rfl⟩:∃ x,x = e0:=⟨_,rfl⟩
  replace h:(some r1:Option (Int × Int)) = some _:=h
  exact Option.some.inj h
theorem Qur {a b} {rv:Int} (h:QqP a b = some rv):AFn Tryz.prog 146 [.one (lI a),.one (lI b)] [] (one (lI rv)) []:=by
 refine QaL Tryz.func146 (by kernel_rfl) (by kernel_rfl) (fun Γ=>?_)
 unfold QqP at h
 obtain rfl:=Option.some.inj h
 exact gr 4 [] []
def QlM (Γ:Gam) (rv:List Int × Int) (cf:Cf):Prop:=Go Tryz.prog Tryz.f145 [] Γ (.tup [.one (lL 1 rv.1 e_i64),.one (lI rv.2)]) [] cf
def QiR (Γ:Gam) (rv:List Int × Int) (a:List Int) (b:List Int) (l:List Int) (l1:List Int) (v:Int):Prop:=QlM Γ rv ⟨[.c 244,.l 244,.b 0,.c 31],⟨38,[vL 0 1 a e_i64,vL 1 1 b e_i64,(2,one (.fn (.func 146) [])),vO 8 0 1 l1 e_i64,vI 19 (lenI a),vI 20 v],[oS 1 3 l1 e_i64]⟩⟩
def Qir (Γ:Gam) (rv:List Int × Int) (a:List Int) (b:List Int) (l:List Int) (l2:List Int):Prop:=QlM Γ rv ⟨[.c 31],⟨38,[vO 8 0 1 l2 e_i64],[oS 1 3 l2 e_i64]⟩⟩
theorem QnU (Γ:Gam) (rv:List Int × Int) {a b l} {s:List Int × Int} {e:List Int} (h:loopF (fun s=>QbO a b l s.1 s.2) s = some e) (hD:Qir Γ rv a b l e):QiR Γ rv a b l s.1 s.2:=by
 refine QaD (C:=fun (s:List Int × Int)=>QiR Γ rv a b l s.1 s.2) (D:=fun (e:List Int)=>Qir Γ rv a b l e) ?_ h hD
 clear h hD s e
 rintro ⟨l1,v⟩ z_ h hI hE
 replace h:QbO a b l l1 v = _:=h
 unfold QbO at h
 rcases Qag h with ⟨h2,h⟩|⟨h2,h⟩
 ·obtain ⟨x0,h3,h⟩:=Qae h
  obtain ⟨x1,h4,h⟩:=Qae h
  obtain ⟨r,h5,h⟩:=Qae h
  obtain ⟨x2,h6,h⟩:=Qae h
  exact gn 13 [0,1,2,8,19,20] [0] [bT h2,hH (.draw 13 []),cE e_i64 h3,cE e_i64 h4,cC (Qur h5),oO (getLo h6),oO (getHi e_i64 h6),rE e_i64 h6,hH (.rows ((setI l1 v r).map e_i64)),hH (.relen 0 ((setI l1 v r).map e_i64).length),oO (setM e_i64 l1 v r),rp 2 (oO (QwG e_i64 l1 v r))] (hI _ (oJ h))
 ·exact gn 5 [8] [0] [bF h2] (hE _ (oJ h))
theorem QpS {a b} {rv:List Int × Int} (h:Qhb a b = some rv):AFn Tryz.prog 145 [.one (lL 1 a e_i64),.one (lL 1 b e_i64),.one (.fn (.func 146) [])] [] (.tup [.one (lL 1 rv.1 e_i64),.one (lI rv.2)]) []:=by
 refine QaL Tryz.func145 (by kernel_rfl) (by kernel_rfl) (fun Γ=>?_)
 unfold Qhb at h
 rcases Qag h with ⟨h0,h⟩|⟨h0,h⟩
 ·obtain rfl:=Option.some.inj h
  exact gr 8 [] [nL e_i64 a,nL e_i64 b,bT h0,hW 4,hH (.nilS 6 0 1)]
 ·obtain ⟨l,h1,h⟩:=Qae h
  obtain ⟨e0,h7,h⟩:=Qae h
  refine gn 14 [0,1,2,8,19,20] [0] [nL e_i64 a,nL e_i64 b,bF h0,nL e_i64 a,hH (.cells [lI 0]),hH (.rows (l.map e_i64)),oO (mk1 h1),oO (mk2 h1),oO (mk3 h1),oO (mk4 h1),oO (mk5 e_i64 h1),nL e_i64 a] (QnU Γ rv h7 ?_)
  obtain ⟨l2,rfl⟩:∃ x,x = e0:=⟨_,rfl⟩
  replace h:(some (l2,0):Option (List Int × Int)) = some _:=h
  obtain rfl:=Option.some.inj h
  exact gr 2 [] [hW 5,hH (.frz 0),rp 3 (eL l2 e_i64)]
theorem Qqp {a b} {rv:List Int × Int} (h:QpG a b = some rv):AFn Tryz.prog 121 [.one (lL 1 a e_i64),.one (lL 1 b e_i64)] [] (.tup [.one (lL 1 rv.1 e_i64),.one (lI rv.2)]) []:=by
 refine QaL Tryz.func121 (by kernel_rfl) (by kernel_rfl) (fun Γ=>?_)
 unfold QpG at h
 obtain ⟨r,h0,h⟩:=Qae h
 obtain rfl:=Option.some.inj h
 exact gr 4 [] [cC (QpS h0)]
theorem Qtz {set_ i} {rv:Bool} (h:QsQ set_ i = some rv):AFn Tryz.prog 159 [.one (lI set_),.one (lI i)] [] (one (.bool rv)) []:=by
 refine QaL Tryz.func159 (by kernel_rfl) (by kernel_rfl) (fun Γ=>?_)
 unfold QsQ at h
 rcases Qag h with ⟨h0,h⟩|⟨h0,h⟩
 ·obtain ⟨h1,h⟩:=Qas h
  obtain rfl:=Option.some.inj h
  exact gr 4 [] [hP,hP,hP,oI ((geI i 0) = true),oR True ((geI i 0) = true),rp 3 (bT h0),oO (h1),rp 3 (bT h0)]
 ·obtain rfl:=Option.some.inj h
  exact gr 4 [] [hP,hP,hP,oI ((geI i 0) = true),oR True ((geI i 0) = true),rp 6 (bF h0)]
def Qq6 (Γ:Gam) (rv:List Int) (cf:Cf):Prop:=Go Tryz.prog Tryz.f144 [] Γ (one (lL 1 rv e_i64)) [] cf
def Qor (Γ:Gam) (rv:List Int) (set_:Int) (l:List Int) (v:Int):Prop:=Qq6 Γ rv ⟨[.c 116,.l 116,.b 0,.c 15],⟨17,[vI 0 set_,vO 3 0 1 l e_i64,vI 5 v],[oS 1 3 l e_i64]⟩⟩
def QnI (Γ:Gam) (rv:List Int) (set_:Int) (l1:List Int):Prop:=Qq6 Γ rv ⟨[.c 15],⟨17,[vO 3 0 1 l1 e_i64],[oS 1 3 l1 e_i64]⟩⟩
theorem QrC (Γ:Gam) (rv:List Int) {set_} {s:List Int × Int} {e:List Int} (h:loopF (fun s=>Qdg set_ s.1 s.2) s = some e) (hD:QnI Γ rv set_ e):Qor Γ rv set_ s.1 s.2:=by
 refine QaD (C:=fun (s:List Int × Int)=>Qor Γ rv set_ s.1 s.2) (D:=fun (e:List Int)=>QnI Γ rv set_ e) ?_ h hD
 clear h hD s e
 rintro ⟨l,v⟩ z_ h hI hE
 replace h:Qdg set_ l v = _:=h
 unfold Qdg at h
 rcases Qag h with ⟨h0,h⟩|⟨h0,h⟩
 ·obtain ⟨r,h1,h⟩:=Qae h
  rcases Qag h with ⟨h2,h⟩|⟨h2,h⟩
  ·obtain ⟨h3,h⟩:=Qas h
   exact gn 16 [0,3,5] [2] [bT h0,cC (Qtz h1),bT h2,oO (Eq.refl ([v].map e_i64).length),aO e_i64 h3] (hI _ (oJ h))
  ·exact gn 16 [0,3,5] [0] [bT h0,cC (Qtz h1),bF h2] (hI _ (oJ h))
 ·exact gn 5 [3] [0] [bF h0] (hE _ (oJ h))
theorem Qtb {set_} {rv:List Int} (h:Qmg set_ = some rv):AFn Tryz.prog 144 [.one (lI set_)] [] (one (lL 1 rv e_i64)) []:=by
 refine QaL Tryz.func144 (by kernel_rfl) (by kernel_rfl) (fun Γ=>?_)
 unfold Qmg at h
 obtain ⟨e0,h4,h⟩:=Qae h
 refine gn 9 [0,3,5] [0] [hW 12,hH (.adopt 3 1 3)] (QrC Γ rv h4 ?_)
 obtain ⟨l1,rfl⟩:∃ x,x = e0:=⟨_,rfl⟩
 replace h:(some l1:Option (List Int)) = some _:=h
 obtain rfl:=Option.some.inj h
 exact gr 2 [] [hW 4,hH (.frz 0),rp 3 (eL l1 e_i64)]
def QrN (Γ:Gam) (rv:List Int) (cf:Cf):Prop:=Go Tryz.prog Tryz.f119 [] Γ (one (lL 1 rv e_i64)) [] cf
def QoJ (Γ:Gam) (rv:List Int) (x0:Qad) (l:List Int) (r:List Int) (sum:List Int) (v:Int):Prop:=QrN Γ rv ⟨[.c 116,.l 116,.b 0,.c 15],⟨40,[vP 3 0 6,vL 7 1 sum e_i64,vL 13 1 r e_i64,vI 14 (lenI r),vI 15 v],[oX 6 30 (Qad.enc x0)]⟩⟩
def Qn5 (Γ:Gam) (rv:List Int) (x0:Qad) (l:List Int) (r:List Int) (sum1:List Int):Prop:=QrN Γ rv ⟨[.c 15],⟨40,[vL 7 1 sum1 e_i64],[]⟩⟩
theorem Qr0 (Γ:Gam) (rv:List Int) {x0 l r} {s:List Int × Int} {e:List Int} (h:loopF (fun s=>QdJ x0 l r s.1 s.2) s = some e) (hD:Qn5 Γ rv x0 l r e):QoJ Γ rv x0 l r s.1 s.2:=by
 refine QaD (C:=fun (s:List Int × Int)=>QoJ Γ rv x0 l r s.1 s.2) (D:=fun (e:List Int)=>Qn5 Γ rv x0 l r e) ?_ h hD
 clear h hD s e
 rintro ⟨sum,v⟩ z_ h hI hE
 replace h:QdJ x0 l r sum v = _:=h
 unfold QdJ at h
 rcases Qag h with ⟨h2,h⟩|⟨h2,h⟩
 ·obtain ⟨x1,h3,h⟩:=Qae h
  obtain ⟨x2,h4,h⟩:=Qae h
  rcases Qag h with ⟨h5,h⟩|⟨h5,h⟩
  ·obtain ⟨r1,h6,h⟩:=Qae h
   exact gn 16 [3,7,13,14,15] [0] [bT h2,cE e_i64 h3,cE Qak.enc h4,bT h5,cE Qak.enc h4,cC (Qqp h6)] (hI _ (oJ h))
  ·exact gn 16 [3,7,13,14,15] [0] [bT h2,cE e_i64 h3,cE Qak.enc h4,bF h5] (hI _ (oJ h))
 ·exact gn 5 [7] [] [bF h2] (hE _ (oJ h))
theorem QtE {x0 set_ dims} {rv:List Int} (h:Qm0 x0 set_ dims = some rv):AFn Tryz.prog 119 [.agg (Qad.enc x0),.one (lI set_),.one (lI dims)] [] (one (lL 1 rv e_i64)) []:=by
 refine QaL Tryz.func119 (by kernel_rfl) (by kernel_rfl) (fun Γ=>?_)
 unfold Qm0 at h
 obtain ⟨l,h0,h⟩:=Qae h
 obtain ⟨r,h1,h⟩:=Qae h
 obtain ⟨e0,h7,h⟩:=Qae h
 refine gn 9 [3,7,13,14,15] [0] [hH (.cells [lI 0]),hH (.rows (l.map e_i64)),oO (mk1 h0),oO (mk2 h0),oO (mk3 h0),oO (mk4 h0),oO (mk5 e_i64 h0),cC (Qtb h1),nL e_i64 r,hW 3,hH (.frz 1),rp 2 (eL l e_i64)] (Qr0 Γ rv h7 ?_)
 obtain ⟨sum1,rfl⟩:∃ x,x = e0:=⟨_,rfl⟩
 replace h:(some sum1:Option (List Int)) = some _:=h
 obtain rfl:=Option.some.inj h
 exact gr 2 [] []
theorem Quj {l} {rv:Int} (h:QoS l = some rv):AFn Tryz.prog 120 [.one (lL 14 l Qai.enc)] [] (one (lI rv)) []:=by
 refine QaL Tryz.func120 (by kernel_rfl) (by kernel_rfl) (fun Γ=>?_)
 unfold QoS at h
 rcases Qag h with ⟨h0,h⟩|⟨h0,h⟩
 ·obtain rfl:=Option.some.inj h
  exact gr 8 [] [nL Qai.enc l,bT h0]
 ·obtain ⟨x0,h1,h⟩:=Qae h
  obtain rfl:=Option.some.inj h
  exact gr 9 [] [nL Qai.enc l,bF h0,cE Qai.enc h1,nL e_i64 x0.cap]
theorem QtN {a b} {rv:Int} (h:QpH a b = some rv):AFn Tryz.prog 147 [.one (lI a),.one (lI b)] [] (one (lI rv)) []:=by
 refine QaL Tryz.func147 (by kernel_rfl) (by kernel_rfl) (fun Γ=>?_)
 unfold QpH at h
 obtain rfl:=Option.some.inj h
 exact gr 4 [] []
def QkP (Γ:Gam) (rv:List Int × Int) (cf:Cf):Prop:=Go Tryz.prog Tryz.f145 [] Γ (.tup [.one (lL 1 rv.1 e_i64),.one (lI rv.2)]) [] cf
def Qiq (Γ:Gam) (rv:List Int × Int) (a:List Int) (b:List Int) (l:List Int) (l1:List Int) (v:Int):Prop:=QkP Γ rv ⟨[.c 244,.l 244,.b 0,.c 31],⟨38,[vL 0 1 a e_i64,vL 1 1 b e_i64,(2,one (.fn (.func 147) [])),vO 8 0 1 l1 e_i64,vI 19 (lenI a),vI 20 v],[oS 1 3 l1 e_i64]⟩⟩
def Qh9 (Γ:Gam) (rv:List Int × Int) (a:List Int) (b:List Int) (l:List Int) (l2:List Int):Prop:=QkP Γ rv ⟨[.c 31],⟨38,[vO 8 0 1 l2 e_i64],[oS 1 3 l2 e_i64]⟩⟩
theorem Qnb (Γ:Gam) (rv:List Int × Int) {a b l} {s:List Int × Int} {e:List Int} (h:loopF (fun s=>QbC a b l s.1 s.2) s = some e) (hD:Qh9 Γ rv a b l e):Qiq Γ rv a b l s.1 s.2:=by
 refine QaD (C:=fun (s:List Int × Int)=>Qiq Γ rv a b l s.1 s.2) (D:=fun (e:List Int)=>Qh9 Γ rv a b l e) ?_ h hD
 clear h hD s e
 rintro ⟨l1,v⟩ z_ h hI hE
 replace h:QbC a b l l1 v = _:=h
 unfold QbC at h
 rcases Qag h with ⟨h2,h⟩|⟨h2,h⟩
 ·obtain ⟨x0,h3,h⟩:=Qae h
  obtain ⟨x1,h4,h⟩:=Qae h
  obtain ⟨r,h5,h⟩:=Qae h
  obtain ⟨x2,h6,h⟩:=Qae h
  exact gn 13 [0,1,2,8,19,20] [0] [bT h2,hH (.draw 13 []),cE e_i64 h3,cE e_i64 h4,cC (QtN h5),oO (getLo h6),oO (getHi e_i64 h6),rE e_i64 h6,hH (.rows ((setI l1 v r).map e_i64)),hH (.relen 0 ((setI l1 v r).map e_i64).length),oO (setM e_i64 l1 v r),rp 2 (oO (QwG e_i64 l1 v r))] (hI _ (oJ h))
 ·exact gn 5 [8] [0] [bF h2] (hE _ (oJ h))
theorem QoZ {a b} {rv:List Int × Int} (h:Qgz a b = some rv):AFn Tryz.prog 145 [.one (lL 1 a e_i64),.one (lL 1 b e_i64),.one (.fn (.func 147) [])] [] (.tup [.one (lL 1 rv.1 e_i64),.one (lI rv.2)]) []:=by
 refine QaL Tryz.func145 (by kernel_rfl) (by kernel_rfl) (fun Γ=>?_)
 unfold Qgz at h
 rcases Qag h with ⟨h0,h⟩|⟨h0,h⟩
 ·obtain rfl:=Option.some.inj h
  exact gr 8 [] [nL e_i64 a,nL e_i64 b,bT h0,hW 4,hH (.nilS 6 0 1)]
 ·obtain ⟨l,h1,h⟩:=Qae h
  obtain ⟨e0,h7,h⟩:=Qae h
  refine gn 14 [0,1,2,8,19,20] [0] [nL e_i64 a,nL e_i64 b,bF h0,nL e_i64 a,hH (.cells [lI 0]),hH (.rows (l.map e_i64)),oO (mk1 h1),oO (mk2 h1),oO (mk3 h1),oO (mk4 h1),oO (mk5 e_i64 h1),nL e_i64 a] (Qnb Γ rv h7 ?_)
  obtain ⟨l2,rfl⟩:∃ x,x = e0:=⟨_,rfl⟩
  replace h:(some (l2,0):Option (List Int × Int)) = some _:=h
  obtain rfl:=Option.some.inj h
  exact gr 2 [] [hW 5,hH (.frz 0),rp 3 (eL l2 e_i64)]
theorem QsC {a b} {rv:List Int × Int} (h:QqO a b = some rv):AFn Tryz.prog 122 [.one (lL 1 a e_i64),.one (lL 1 b e_i64)] [] (.tup [.one (lL 1 rv.1 e_i64),.one (lI rv.2)]) []:=by
 refine QaL Tryz.func122 (by kernel_rfl) (by kernel_rfl) (fun Γ=>?_)
 unfold QqO at h
 obtain ⟨r,h0,h⟩:=Qae h
 obtain rfl:=Option.some.inj h
 exact gr 4 [] [cC (QoZ h0)]
def QrM (Γ:Gam) (rv:List (List Int) × Int) (cf:Cf):Prop:=Go Tryz.prog Tryz.f74 [] Γ (.tup [.one (lL 1 rv.1 Qba),.one (lI rv.2)]) [] cf
def QoI (Γ:Gam) (rv:List (List Int) × Int) (x0:Qad) (r:Qac) (l:List (List Int)) (now:List Int) (v:Int):Prop:=QrM Γ rv ⟨[.c 2036,.l 2036,.b 0,.c 255],⟨67,[vP 2 0 6,vL 9 1 now e_i64,vO 10 1 1 l Qba,vL 37 2 r.visits Qab.enc,vI 38 (lenI r.visits),vI 39 v],[oX 6 30 (Qad.enc x0),oS 1 43 l Qba]⟩⟩
def Qn4 (Γ:Gam) (rv:List (List Int) × Int) (x0:Qad) (r:Qac) (l1:List (List Int)):Prop:=QrM Γ rv ⟨[.c 255],⟨67,[vO 10 0 1 l1 Qba],[oS 1 43 l1 Qba]⟩⟩
theorem QrZ (Γ:Gam) (rv:List (List Int) × Int) {x0 r} {s:List (List Int) × List Int × Int} {e:(List (List Int)) ⊕ (List (List Int) × Int)} (h:loopF (fun s=>QdI x0 r s.1 s.2.1 s.2.2) s = some e) (hD:sel e (fun e=>Qn4 Γ rv x0 r e) (fun e=>e = rv)):QoI Γ rv x0 r s.1 s.2.1 s.2.2:=by
 refine QaD (C:=fun (s:List (List Int) × List Int × Int)=>QoI Γ rv x0 r s.1 s.2.1 s.2.2) (D:=fun (e:(List (List Int)) ⊕ (List (List Int) × Int))=>sel e (fun e=>Qn4 Γ rv x0 r e) (fun e=>e = rv)) ?_ h hD
 clear h hD s e
 rintro ⟨l,now,v⟩ z_ h hI hE
 replace h:QdI x0 r l now v = _:=h
 unfold QdI at h
 rcases Qag h with ⟨h6,h⟩|⟨h6,h⟩
 ·obtain ⟨x1,h7,h⟩:=Qae h
  rcases Qag h with ⟨h8,h⟩|⟨h8,h⟩
  ·obtain ⟨x2,h9,h⟩:=Qae h
   obtain ⟨r5,h10,h⟩:=Qae h
   rcases Qag h with ⟨h11,h⟩|⟨h11,h⟩
   ·obtain rfl:=(hE _ (oJ h):_ = rv)
    exact gr 24 [] [bT h6,cE Qab.enc h7,bT h8,cE Qak.enc h9,cC (QsC h10),bT h11,hW 5,hH (.nilS 4 0 1)]
   ·obtain ⟨h12,h⟩:=Qas h
    exact gn 27 [2,9,10,37,38,39] [0,4] [bT h6,cE Qab.enc h7,bT h8,cE Qak.enc h9,cC (QsC h10),bF h11,oO (Eq.refl ([r5.1].map Qba).length),aO Qba h12] (hI _ (oJ h))
  ·obtain ⟨x3,h13,h⟩:=Qae h
   obtain ⟨r6,h14,h⟩:=Qae h
   rcases Qag h with ⟨h15,h⟩|⟨h15,h⟩
   ·obtain rfl:=(hE _ (oJ h):_ = rv)
    exact gr 24 [] [bT h6,cE Qab.enc h7,bF h8,cE Qak.enc h13,cC (Qqp h14),bT h15,hW 5,hH (.nilS 4 0 1)]
   ·obtain ⟨h16,h⟩:=Qas h
    exact gn 27 [2,9,10,37,38,39] [0,4] [bT h6,cE Qab.enc h7,bF h8,cE Qak.enc h13,cC (Qqp h14),bF h15,oO (Eq.refl ([r6.1].map Qba).length),aO Qba h16] (hI _ (oJ h))
 ·exact gn 5 [10] [1] [bF h6] (hE _ (oJ h))
theorem QnP {x0 r} {rv:List (List Int) × Int} (h:QmZ x0 r = some rv):AFn Tryz.prog 74 [.agg (Qad.enc x0),.agg (Qac.enc r)] [] (.tup [.one (lL 1 rv.1 Qba),.one (lI rv.2)]) []:=by
 refine QaL Tryz.func74 (by kernel_rfl) (by kernel_rfl) (fun Γ=>?_)
 unfold QmZ at h
 obtain ⟨r1,h0,h⟩:=Qae h
 rcases Qag h with ⟨h1,h⟩|⟨h1,h⟩
 ·obtain rfl:=Option.some.inj h
  exact gr 10 [] [cC (Qdu h0),bT h1,hW 5,hH (.nilS 4 0 1)]
 ·obtain ⟨r2,h2,h⟩:=Qae h
  rcases Qag h with ⟨h3,h⟩|⟨h3,h⟩
  ·obtain rfl:=Option.some.inj h
   exact gr 17 [] [cC (Qdu h0),bF h1,cC (QnF h2),bT h3,hW 5,hH (.nilS 4 0 1)]
  ·obtain ⟨r3,h4,h⟩:=Qae h
   obtain ⟨r4,h5,h⟩:=Qae h
   obtain ⟨e0,h17,h⟩:=Qae h
   refine gn 25 [2,9,10,37,38,39] [0,2] [cC (Qdu h0),bF h1,cC (QnF h2),bF h3,hH (.draw 7 []),cC (Quj h4),cC (QtE h5),nL Qab.enc r.visits] (QrZ Γ rv h17 ?_)
   rcases e0 with e0|e0
   ·obtain ⟨l1,rfl⟩:∃ x,x = e0:=⟨_,rfl⟩
    replace h:(some (l1,0):Option (List (List Int) × Int)) = some _:=h
    obtain rfl:=Option.some.inj h
    exact gr 2 [] [hW 5,hH (.frz 0),rp 3 (eL l1 Qba)]
   ·obtain ⟨r7,rfl⟩:∃ x,x = e0:=⟨_,rfl⟩
    replace h:(some r7:Option (List (List Int) × Int)) = some _:=h
    exact Option.some.inj h
def QsA (Γ:Gam) (rv:Bool) (cf:Cf):Prop:=Go Tryz.prog Tryz.f77 [] Γ (one (.bool rv)) [] cf
def Qqa (Γ:Gam) (rv:Bool) (a:List Int) (capacity:List Int) (v:Int):Prop:=QsA Γ rv ⟨[.c 116,.l 116,.b 0,.c 15],⟨26,[vL 1 1 capacity e_i64,vL 12 1 a e_i64,vI 13 (lenI a),vI 14 v],[]⟩⟩
def QoY (Γ:Gam) (rv:Bool) (a:List Int) (capacity:List Int):Prop:=QsA Γ rv ⟨[.c 15],⟨26,[],[]⟩⟩
theorem QsB (Γ:Gam) (rv:Bool) {a capacity} {s:Int} {e:(Unit) ⊕ (Bool)} (h:loopF (fun s=>Qe7 a capacity s) s = some e) (hD:sel e (fun e=>QoY Γ rv a capacity) (fun e=>e = rv)):Qqa Γ rv a capacity s:=by
 refine QaD (C:=fun (s:Int)=>Qqa Γ rv a capacity s) (D:=fun (e:(Unit) ⊕ (Bool))=>sel e (fun e=>QoY Γ rv a capacity) (fun e=>e = rv)) ?_ h hD
 clear h hD s e
 intro v z_ h hI hE
 replace h:Qe7 a capacity v = _:=h
 unfold Qe7 at h
 rcases Qag h with ⟨h1,h⟩|⟨h1,h⟩
 ·obtain ⟨x0,h2,h⟩:=Qae h
  obtain ⟨x1,h3,h⟩:=Qae h
  rcases Qag h with ⟨h4,h⟩|⟨h4,h⟩
  ·obtain rfl:=(hE _ (oJ h):_ = rv)
   exact gr 14 [] [bT h1,cE e_i64 h2,cE e_i64 h3,bT h4]
  ·exact gn 16 [1,12,13,14] [] [bT h1,cE e_i64 h2,cE e_i64 h3,bF h4] (hI _ (oJ h))
 ·exact gn 5 [] [] [bF h1] (hE _ (oJ h))
theorem Quq {a capacity} {rv:Bool} (h:QoX a capacity = some rv):AFn Tryz.prog 77 [.one (lL 1 a e_i64),.one (lL 1 capacity e_i64)] [] (one (.bool rv)) []:=by
 refine QaL Tryz.func77 (by kernel_rfl) (by kernel_rfl) (fun Γ=>?_)
 unfold QoX at h
 rcases Qag h with ⟨h0,h⟩|⟨h0,h⟩
 ·obtain rfl:=Option.some.inj h
  exact gr 8 [] [nL e_i64 a,nL e_i64 capacity,bT h0]
 ·obtain ⟨e0,h5,h⟩:=Qae h
  refine gn 12 [1,12,13,14] [] [nL e_i64 a,nL e_i64 capacity,bF h0,nL e_i64 a] (QsB Γ rv h5 ?_)
  rcases e0 with e0|e0
  ·replace h:(some true:Option Bool) = some _:=h
   obtain rfl:=Option.some.inj h
   exact gr 2 [] []
  ·obtain ⟨r,rfl⟩:∃ x,x = e0:=⟨_,rfl⟩
   replace h:(some r:Option Bool) = some _:=h
   exact Option.some.inj h
theorem Qp6 {a c c1} {rv:Bool} (h:QnO a c c1 = some rv):AFn Tryz.prog 76 [.one (lL 1 a e_i64),.one (.ip (Qad.enc c) 0),.one (.ip (Qac.enc c1) 0)] [] (one (.bool rv)) []:=by
 refine QaL Tryz.func76 (by kernel_rfl) (by kernel_rfl) (fun Γ=>?_)
 unfold QnO at h
 obtain ⟨x0,h0,h⟩:=Qae h
 obtain ⟨r,h1,h⟩:=Qae h
 obtain rfl:=Option.some.inj h
 exact gr 4 [] [cE Qai.enc h0,cC (Quq h1)]
def QdW (Γ:Gam) (rv:Int) (cf:Cf):Prop:=Go Tryz.prog Tryz.f123 [] Γ (one (lI rv)) [] cf
def Qdv (Γ:Gam) (rv:Int) (s0:List (List Int)) (c:Qad) (c1:Qac) (v:Int):Prop:=QdW Γ rv ⟨[.c 52,.l 52,.b 0,.c 7],⟨19,[vL 0 1 s0 Qba,(1,one (.fn (.func 76) [.ip (Qad.enc c) 0,.ip (Qac.enc c1) 0])),vI 7 (lenI s0),vI 8 v],[]⟩⟩
def Qdm (Γ:Gam) (rv:Int) (s0:List (List Int)) (c:Qad) (c1:Qac):Prop:=QdW Γ rv ⟨[.c 7],⟨19,[],[]⟩⟩
theorem Qgd (Γ:Gam) (rv:Int) {s0 c c1} {s:Int} {e:(Unit) ⊕ (Int)} (h:loopF (fun s=>QaJ s0 c c1 s) s = some e) (hD:sel e (fun e=>Qdm Γ rv s0 c c1) (fun e=>e = rv)):Qdv Γ rv s0 c c1 s:=by
 refine QaD (C:=fun (s:Int)=>Qdv Γ rv s0 c c1 s) (D:=fun (e:(Unit) ⊕ (Int))=>sel e (fun e=>Qdm Γ rv s0 c c1) (fun e=>e = rv)) ?_ h hD
 clear h hD s e
 intro v z_ h hI hE
 replace h:QaJ s0 c c1 v = _:=h
 unfold QaJ at h
 rcases Qag h with ⟨h0,h⟩|⟨h0,h⟩
 ·obtain ⟨x0,h1,h⟩:=Qae h
  obtain ⟨r,h2,h⟩:=Qae h
  rcases Qag h with ⟨h3,h⟩|⟨h3,h⟩
  ·obtain rfl:=(hE _ (oJ h):_ = rv)
   exact gr 14 [] [bT h0,cE Qba h1,cC (Qp6 h2),bT h3]
  ·exact gn 16 [0,1,7,8] [] [bT h0,cE Qba h1,cC (Qp6 h2),bF h3] (hI _ (oJ h))
 ·exact gn 5 [] [] [bF h0] (hE _ (oJ h))
theorem QgM {s0 c c1} {rv:Int} (h:Qbn s0 c c1 = some rv):AFn Tryz.prog 123 [.one (lL 1 s0 Qba),.one (.fn (.func 76) [.ip (Qad.enc c) 0,.ip (Qac.enc c1) 0])] [] (one (lI rv)) []:=by
 refine QaL Tryz.func123 (by kernel_rfl) (by kernel_rfl) (fun Γ=>?_)
 unfold Qbn at h
 obtain ⟨e0,h4,h⟩:=Qae h
 refine gn 7 [0,1,7,8] [] [nL Qba s0] (Qgd Γ rv h4 ?_)
 rcases e0 with e0|e0
 ·replace h:(some (-1):Option Int) = some _:=h
  obtain rfl:=Option.some.inj h
  exact gr 2 [] []
 ·obtain ⟨r1,rfl⟩:∃ x,x = e0:=⟨_,rfl⟩
  replace h:(some r1:Option Int) = some _:=h
  exact Option.some.inj h
theorem Qdk {s0 c c1} {rv:Bool} (h:Qbz s0 c c1 = some rv):AFn Tryz.prog 75 [.one (lL 1 s0 Qba),.one (.fn (.func 76) [.ip (Qad.enc c) 0,.ip (Qac.enc c1) 0])] [] (one (.bool rv)) []:=by
 refine QaL Tryz.func75 (by kernel_rfl) (by kernel_rfl) (fun Γ=>?_)
 unfold Qbz at h
 obtain ⟨r,h0,h⟩:=Qae h
 obtain rfl:=Option.some.inj h
 exact gr 4 [] [cC (QgM h0)]
theorem QoH {x0 r} {rv:Int} (h:QoG x0 r = some rv):AFn Tryz.prog 41 [.agg (Qad.enc x0),.agg (Qac.enc r)] [] (one (lI rv)) []:=by
 refine QaL Tryz.func41 (by kernel_rfl) (by kernel_rfl) (fun Γ=>?_)
 unfold QoG at h
 rcases Qag h with ⟨h0,h⟩|⟨h0,h⟩
 ·obtain rfl:=Option.some.inj h
  exact gr 8 [] [rp 5 hP,rp 3 (oI ((ltI r.type_ 0) = false)),nL Qai.enc x0.types,hP,hP,rp 2 (oI ((ltI r.type_ 0) = false)),oR True ((ltI r.type_ 0) = false),bT h0]
 ·obtain ⟨r1,h1,h⟩:=Qae h
  rcases Qag h with ⟨h2,h⟩|⟨h2,h⟩
  ·obtain rfl:=Option.some.inj h
   exact gr 15 [] [rp 5 hP,rp 3 (oI ((ltI r.type_ 0) = false)),nL Qai.enc x0.types,hP,hP,rp 2 (oI ((ltI r.type_ 0) = false)),oR True ((ltI r.type_ 0) = false),bF h0,cC (QnP h1),bT h2]
  ·obtain ⟨r2,h3,h⟩:=Qae h
   rcases Qag h with ⟨h4,h⟩|⟨h4,h⟩
   ·obtain rfl:=Option.some.inj h
    exact gr 20 [] [rp 5 hP,rp 3 (oI ((ltI r.type_ 0) = false)),nL Qai.enc x0.types,hP,hP,rp 2 (oI ((ltI r.type_ 0) = false)),oR True ((ltI r.type_ 0) = false),bF h0,cC (QnP h1),bF h2,cC (Qdk h3),bT h4]
   ·obtain rfl:=Option.some.inj h
    exact gr 21 [] [rp 5 hP,rp 3 (oI ((ltI r.type_ 0) = false)),nL Qai.enc x0.types,hP,hP,rp 2 (oI ((ltI r.type_ 0) = false)),oR True ((ltI r.type_ 0) = false),bF h0,cC (QnP h1),bF h2,cC (Qdk h3),bF h4]
def Qvi (Γ:Gam) (rv:Qar × Int) (cf:Cf):Prop:=Go Tryz.prog Tryz.f50 [] Γ (.tup [.agg [lI rv.1.place,lI rv.1.open_,lI rv.1.close,lI rv.1.service],.one (lI rv.2)]) [] cf
theorem Qpr (Γ:Gam) (rv:Qar × Int) {x1} (h:Qko x1 = some rv):Qvi Γ rv ⟨[.c 31],⟨32,[vP 4 0 4,vP 6 1 4],[oX 4 103 [lI 0,lI 0,lI 0,lI 0],oX 4 103 (Qar.enc x1)]⟩⟩:=by
 unfold Qko at h
 rcases Qag h with ⟨h4,h⟩|⟨h4,h⟩
 ·obtain rfl:=Option.some.inj h
  exact gr 6 [] [bT h4]
 ·obtain rfl:=Option.some.inj h
  exact gr 7 [] [bF h4]
theorem Qps {l v} {rv:Qar × Int} (h:QnC l v = some rv):AFn Tryz.prog 50 [.one (lL 16 l Qak.enc),.agg (Qab.enc v)] [] (.tup [.agg [lI rv.1.place,lI rv.1.open_,lI rv.1.close,lI rv.1.service],.one (lI rv.2)]) []:=by
 refine QaL Tryz.func50 (by kernel_rfl) (by kernel_rfl) (fun Γ=>?_)
 unfold QnC at h
 obtain ⟨r,h0,h⟩:=Qae h
 rcases Qag h with ⟨h1,h⟩|⟨h1,h⟩
 ·obtain ⟨x0,h2,h⟩:=Qae h
  rcases Qag h with ⟨h3,h⟩|⟨h3,h⟩
  ·exact gn 14 [4,6] [1,2] [cC (Qhj h0),nF h1,cE Qak.enc h2,bT h3,cE Qak.enc h2] (Qpr Γ rv h)
  ·exact gn 14 [4,6] [1,2] [cC (Qhj h0),nF h1,cE Qak.enc h2,bF h3] (Qpr Γ rv h)
 ·obtain rfl:=Option.some.inj h
  exact gr 8 [] [cC (Qhj h0),nT h1]
def Qsq (Γ:Gam) (rv:Qat × Bool) (cf:Cf):Prop:=Go Tryz.prog Tryz.f78 [] Γ (.tup [.agg [lL 1 rv.1.x.net.places e_str,lL 6 rv.1.x.net.arcs Qap.enc,lL 14 rv.1.x.types Qai.enc,lL 16 rv.1.x.orders Qak.enc,lL 2 rv.1.x.apart QaQ.enc,lL 2 rv.1.x.before QaQ.enc,.str rv.1.t.name,lI rv.1.t.count,lI rv.1.t.from_,lI rv.1.t.to_,lL 1 rv.1.t.cap e_i64,lI rv.1.t.skills,lI rv.1.t.profile,lI rv.1.t.open_,lI rv.1.t.close,lI rv.1.t.drive,lI rv.1.t.rest_,lI rv.1.t.fixed,lI rv.1.t.perMile,lI rv.1.t.perTick,lI rv.1.r.type_,lI rv.1.r.start,lL 1 rv.1.r.rests QaI,lL 2 rv.1.r.visits Qab.enc,lL 4 rv.1.stops Qar.enc],.one (.bool rv.2)]) [] cf
def Qp9 (Γ:Gam) (rv:Qat × Bool) (x0:Qad) (r:Qac) (x1:Qai) (l:List Qar) (v:Int):Prop:=Qsq Γ rv ⟨[.c 244,.l 244,.b 0,.c 31],⟨78,[vP 2 0 6,vP 4 1 25,vP 6 2 25,vL 49 2 r.visits Qab.enc,vI 50 (lenI r.visits),vI 51 v],[oX 6 30 (Qad.enc x0),oX 25 133 [.nils,.nils,.nils,.nils,.nils,.nils,.str ByteArray.empty,lI 0,lI 0,lI 0,.nils,lI 0,lI 0,lI 0,lI 0,lI 0,lI 0,lI 0,lI 0,lI 0,lI 0,lI 0,.nils,.nils,.nils],oX 25 133 [lL 1 x0.net.places e_str,lL 6 x0.net.arcs Qap.enc,lL 14 x0.types Qai.enc,lL 16 x0.orders Qak.enc,lL 2 x0.apart QaQ.enc,lL 2 x0.before QaQ.enc,.str x1.name,lI x1.count,lI x1.from_,lI x1.to_,lL 1 x1.cap e_i64,lI x1.skills,lI x1.profile,lI x1.open_,lI x1.close,lI x1.drive,lI x1.rest_,lI x1.fixed,lI x1.perMile,lI x1.perTick,lI r.type_,lI r.start,lL 1 r.rests QaI,lL 2 r.visits Qab.enc,lO 3 4 l Qar.enc],oS 4 103 l Qar.enc]⟩⟩
def QoP (Γ:Gam) (rv:Qat × Bool) (x0:Qad) (r:Qac) (x1:Qai) (l1:List Qar):Prop:=Qsq Γ rv ⟨[.c 31],⟨78,[vP 4 0 25,vP 6 1 25],[oX 25 133 [.nils,.nils,.nils,.nils,.nils,.nils,.str ByteArray.empty,lI 0,lI 0,lI 0,.nils,lI 0,lI 0,lI 0,lI 0,lI 0,lI 0,lI 0,lI 0,lI 0,lI 0,lI 0,.nils,.nils,.nils],oX 25 133 [lL 1 x0.net.places e_str,lL 6 x0.net.arcs Qap.enc,lL 14 x0.types Qai.enc,lL 16 x0.orders Qak.enc,lL 2 x0.apart QaQ.enc,lL 2 x0.before QaQ.enc,.str x1.name,lI x1.count,lI x1.from_,lI x1.to_,lL 1 x1.cap e_i64,lI x1.skills,lI x1.profile,lI x1.open_,lI x1.close,lI x1.drive,lI x1.rest_,lI x1.fixed,lI x1.perMile,lI x1.perTick,lI r.type_,lI r.start,lL 1 r.rests QaI,lL 2 r.visits Qab.enc,lO 2 4 l1 Qar.enc],oS 4 103 l1 Qar.enc]⟩⟩
theorem Qsr (Γ:Gam) (rv:Qat × Bool) {x0 r x1} {s:List Qar × Int} {e:(List Qar) ⊕ (Qat × Bool)} (h:loopF (fun s=>Qh7 x0 r x1 s.1 s.2) s = some e) (hD:sel e (fun e=>QoP Γ rv x0 r x1 e) (fun e=>e = rv)):Qp9 Γ rv x0 r x1 s.1 s.2:=by
 refine QaD (C:=fun (s:List Qar × Int)=>Qp9 Γ rv x0 r x1 s.1 s.2) (D:=fun (e:(List Qar) ⊕ (Qat × Bool))=>sel e (fun e=>QoP Γ rv x0 r x1 e) (fun e=>e = rv)) ?_ h hD
 clear h hD s e
 rintro ⟨l,v⟩ z_ h hI hE
 replace h:Qh7 x0 r x1 l v = _:=h
 unfold Qh7 at h
 rcases Qag h with ⟨h2,h⟩|⟨h2,h⟩
 ·obtain ⟨x2,h3,h⟩:=Qae h
  obtain ⟨r1,h4,h⟩:=Qae h
  rcases Qag h with ⟨h5,h⟩|⟨h5,h⟩
  ·obtain rfl:=(hE _ (oJ h):_ = rv)
   exact gr 17 [] [bT h2,cE Qab.enc h3,cC (Qps h4),rp 4 hP,rp 2 (oI ((neI r1.2 0) = false)),oR True ((neI r1.2 0) = false),bT h5,hW 5,hH (.nilB 1 0 1),hH (.nilB 1 1 6),hH (.nilB 1 2 14),hH (.nilB 1 3 16),hH (.nilB 1 4 2),hH (.nilB 1 5 2),hH (.nilB 1 10 1),hH (.nilB 1 22 1),hH (.nilB 1 23 2),hH (.nilB 1 24 4)]
  ·obtain ⟨h6,h⟩:=Qas h
   exact gn 20 [2,4,6,49,50,51] [0,1,2,7] [bT h2,cE Qab.enc h3,cC (Qps h4),rp 4 hP,rp 2 (oI ((neI r1.2 0) = false)),oR True ((neI r1.2 0) = false),bF h5,oO (Eq.refl ([r1.1].map Qar.enc).length),aO Qar.enc h6] (hI _ (oJ h))
 ·exact gn 5 [4,6] [1,2,3] [bF h2] (hE _ (oJ h))
theorem QrP {x0 r} {rv:Qat × Bool} (h:Qm9 x0 r = some rv):AFn Tryz.prog 78 [.agg (Qad.enc x0),.agg (Qac.enc r)] [] (.tup [.agg [lL 1 rv.1.x.net.places e_str,lL 6 rv.1.x.net.arcs Qap.enc,lL 14 rv.1.x.types Qai.enc,lL 16 rv.1.x.orders Qak.enc,lL 2 rv.1.x.apart QaQ.enc,lL 2 rv.1.x.before QaQ.enc,.str rv.1.t.name,lI rv.1.t.count,lI rv.1.t.from_,lI rv.1.t.to_,lL 1 rv.1.t.cap e_i64,lI rv.1.t.skills,lI rv.1.t.profile,lI rv.1.t.open_,lI rv.1.t.close,lI rv.1.t.drive,lI rv.1.t.rest_,lI rv.1.t.fixed,lI rv.1.t.perMile,lI rv.1.t.perTick,lI rv.1.r.type_,lI rv.1.r.start,lL 1 rv.1.r.rests QaI,lL 2 rv.1.r.visits Qab.enc,lL 4 rv.1.stops Qar.enc],.one (.bool rv.2)]) []:=by
 refine QaL Tryz.func78 (by kernel_rfl) (by kernel_rfl) (fun Γ=>?_)
 unfold Qm9 at h
 rcases Qag h with ⟨h0,h⟩|⟨h0,h⟩
 ·obtain rfl:=Option.some.inj h
  exact gr 8 [] [rp 5 hP,rp 3 (oI ((ltI r.type_ 0) = false)),nL Qai.enc x0.types,rp 13 hP,rp 2 (oI ((ltI r.type_ 0) = false)),oR True ((ltI r.type_ 0) = false),rp 2 (oI (((ltI r.type_ 0) || (geI r.type_ (lenI x0.types))) = false)),oR True (((ltI r.type_ 0) || (geI r.type_ (lenI x0.types))) = false),rp 2 (oI ((((ltI r.type_ 0) || (geI r.type_ (lenI x0.types))) || (ltI r.start 0)) = false)),oR True ((((ltI r.type_ 0) || (geI r.type_ (lenI x0.types))) || (ltI r.start 0)) = false),rp 2 (oI (((((ltI r.type_ 0) || (geI r.type_ (lenI x0.types))) || (ltI r.start 0)) || (gtI r.start 4096)) = false)),nL Qab.enc r.visits,hP,hP,oI (((((ltI r.type_ 0) || (geI r.type_ (lenI x0.types))) || (ltI r.start 0)) || (gtI r.start 4096)) = false),oR True (((((ltI r.type_ 0) || (geI r.type_ (lenI x0.types))) || (ltI r.start 0)) || (gtI r.start 4096)) = false),bT h0,hW 5,hH (.nilB 2 0 1),hH (.nilB 2 1 6),hH (.nilB 2 2 14),hH (.nilB 2 3 16),hH (.nilB 2 4 2),hH (.nilB 2 5 2),hH (.nilB 2 10 1),hH (.nilB 2 22 1),hH (.nilB 2 23 2),hH (.nilB 2 24 4)]
 ·obtain ⟨x1,h1,h⟩:=Qae h
  obtain ⟨e0,h7,h⟩:=Qae h
  refine gn 14 [2,4,6,49,50,51] [0,2,3,4] [rp 5 hP,rp 3 (oI ((ltI r.type_ 0) = false)),nL Qai.enc x0.types,rp 13 hP,rp 2 (oI ((ltI r.type_ 0) = false)),oR True ((ltI r.type_ 0) = false),rp 2 (oI (((ltI r.type_ 0) || (geI r.type_ (lenI x0.types))) = false)),oR True (((ltI r.type_ 0) || (geI r.type_ (lenI x0.types))) = false),rp 2 (oI ((((ltI r.type_ 0) || (geI r.type_ (lenI x0.types))) || (ltI r.start 0)) = false)),oR True ((((ltI r.type_ 0) || (geI r.type_ (lenI x0.types))) || (ltI r.start 0)) = false),rp 2 (oI (((((ltI r.type_ 0) || (geI r.type_ (lenI x0.types))) || (ltI r.start 0)) || (gtI r.start 4096)) = false)),nL Qab.enc r.visits,hP,hP,oI (((((ltI r.type_ 0) || (geI r.type_ (lenI x0.types))) || (ltI r.start 0)) || (gtI r.start 4096)) = false),oR True (((((ltI r.type_ 0) || (geI r.type_ (lenI x0.types))) || (ltI r.start 0)) || (gtI r.start 4096)) = false),bF h0,hH (.draw 10 []),cE Qai.enc h1,nL Qab.enc r.visits,hW 3,hH (.adoptB 3 24 4 103)] (Qsr Γ rv h7 ?_)
  rcases e0 with e0|e0
  ·obtain ⟨l1,rfl⟩:∃ x,x = e0:=⟨_,rfl⟩
   replace h:(some ((Qat.mk x0 x1 r l1),true):Option (Qat × Bool)) = some _:=h
   obtain rfl:=Option.some.inj h
   exact gr 2 [] [hW 5,hH (.frz 2),rp 3 (eL l1 Qar.enc)]
  ·obtain ⟨r2,rfl⟩:∃ x,x = e0:=⟨_,rfl⟩
   replace h:(some r2:Option (Qat × Bool)) = some _:=h
   exact Option.some.inj h
theorem Qms {p} {rv:Qaf} (h:Qc0 p = some rv):AFn Tryz.prog 79 [.agg (Qat.enc p)] [] (gG [lI rv.ready,lI rv.since,.bool rv.sheet.rest_,lI rv.sheet.depart,lL 4 rv.sheet.times Qao.enc,lI rv.sheet.end_,lI rv.sheet.miles]) []:=by
 refine QaL Tryz.func79 (by kernel_rfl) (by kernel_rfl) (fun Γ=>?_)
 unfold Qc0 at h
 obtain rfl:=Option.some.inj h
 exact gr 4 [] [hW 15,hH (.nilB 1 4 4)]
theorem Qdj {n i} {rv:Bool} (h:Qin n i = some rv):AFn Tryz.prog 160 [.agg (Qaj.enc n),.one (lI i)] [] (one (.bool rv)) []:=by
 refine QaL Tryz.func160 (by kernel_rfl) (by kernel_rfl) (fun Γ=>?_)
 unfold Qin at h
 obtain rfl:=Option.some.inj h
 exact gr 4 [] [rp 4 hP,rp 2 (oI ((geI i 0) = true)),nL e_str n.places,hP,hP,rp 2 (oI ((geI i 0) = true)),oR True ((geI i 0) = true)]
theorem Qpo {a} {rv:Qh6} (h:QmJ a = some rv):AFn Tryz.prog 165 [.agg (Qap.enc a)] [] (gG [lI rv.from_,lI rv.to_,lI rv.profile]) []:=by
 refine QaL Tryz.func165 (by kernel_rfl) (by kernel_rfl) (fun Γ=>?_)
 unfold QmJ at h
 obtain rfl:=Option.some.inj h
 exact gr 4 [] []
def Qq0 (Γ:Gam) (rv:Qap × Bool) (cf:Cf):Prop:=Go Tryz.prog Tryz.f161 [] Γ (.tup [.agg [lI rv.1.from_,lI rv.1.to_,lI rv.1.profile,lI rv.1.miles,lL 2 rv.1.travel Qan.enc,lL 2 rv.1.slow Qan.enc],.one (.bool rv.2)]) [] cf
def Qok (Γ:Gam) (rv:Qap × Bool) (n:Qaj) (profile:Int) (from_:Int) (to_:Int) (v:Int):Prop:=Qq0 Γ rv ⟨[.c 116,.l 116,.b 0,.c 15],⟨31,[vP 8 0 6,vP 10 1 3,vL 18 6 n.arcs Qap.enc,vI 19 (lenI n.arcs),vI 20 v],[oX 6 99 [lI 0,lI 0,lI 0,lI 0,.nils,.nils],oX 3 216 [lI from_,lI to_,lI profile]]⟩⟩
def QnA (Γ:Gam) (rv:Qap × Bool) (n:Qaj) (profile:Int) (from_:Int) (to_:Int):Prop:=Qq0 Γ rv ⟨[.c 15],⟨31,[vP 8 0 6],[oX 6 99 [lI 0,lI 0,lI 0,lI 0,.nils,.nils]]⟩⟩
theorem Qrt (Γ:Gam) (rv:Qap × Bool) {n profile from_ to_} {s:Int} {e:(Unit) ⊕ (Qap × Bool)} (h:loopF (fun s=>Qgt n profile from_ to_ s) s = some e) (hD:sel e (fun e=>QnA Γ rv n profile from_ to_) (fun e=>e = rv)):Qok Γ rv n profile from_ to_ s:=by
 refine QaD (C:=fun (s:Int)=>Qok Γ rv n profile from_ to_ s) (D:=fun (e:(Unit) ⊕ (Qap × Bool))=>sel e (fun e=>QnA Γ rv n profile from_ to_) (fun e=>e = rv)) ?_ h hD
 clear h hD s e
 intro v z_ h hI hE
 replace h:Qgt n profile from_ to_ v = _:=h
 unfold Qgt at h
 rcases Qag h with ⟨h0,h⟩|⟨h0,h⟩
 ·obtain ⟨x0,h1,h⟩:=Qae h
  obtain ⟨r,h2,h⟩:=Qae h
  rcases Qag h with ⟨h3,h⟩|⟨h3,h⟩
  ·obtain rfl:=(hE _ (oJ h):_ = rv)
   exact gr 14 [] [bT h0,cE Qap.enc h1,hH (.draw 4 []),cC (Qpo h2),bT h3]
  ·exact gn 16 [8,10,18,19,20] [0,1] [bT h0,cE Qap.enc h1,hH (.draw 4 []),cC (Qpo h2),bF h3] (hI _ (oJ h))
 ·exact gn 5 [8] [0] [bF h0] (hE _ (oJ h))
theorem Qqb {n profile from_ to_} {rv:Qap × Bool} (h:Ql3 n profile from_ to_ = some rv):AFn Tryz.prog 161 [.agg (Qaj.enc n),.one (lI profile),.one (lI from_),.one (lI to_)] [] (.tup [.agg [lI rv.1.from_,lI rv.1.to_,lI rv.1.profile,lI rv.1.miles,lL 2 rv.1.travel Qan.enc,lL 2 rv.1.slow Qan.enc],.one (.bool rv.2)]) []:=by
 refine QaL Tryz.func161 (by kernel_rfl) (by kernel_rfl) (fun Γ=>?_)
 unfold Ql3 at h
 obtain ⟨e0,h4,h⟩:=Qae h
 refine gn 9 [8,10,18,19,20] [1,2] [nL Qap.enc n.arcs] (Qrt Γ rv h4 ?_)
 rcases e0 with e0|e0
 ·replace h:(some ((Qap.mk 0 0 0 0 [] []),false):Option (Qap × Bool)) = some _:=h
  obtain rfl:=Option.some.inj h
  exact gr 2 [] [hW 5,hH (.nilB 0 4 2),hH (.nilB 0 5 2)]
 ·obtain ⟨r1,rfl⟩:∃ x,x = e0:=⟨_,rfl⟩
  replace h:(some r1:Option (Qap × Bool)) = some _:=h
  exact Option.some.inj h
theorem Qg8 {n least most} {rv:Bool} (h:QfY n least most = some rv):AFn Tryz.prog 168 [.one (lI n),.one (lI least),.one (lI most)] [] (one (.bool rv)) []:=by
 refine QaL Tryz.func168 (by kernel_rfl) (by kernel_rfl) (fun Γ=>?_)
 unfold QfY at h
 obtain rfl:=Option.some.inj h
 exact gr 4 [] [rp 4 hP,rp 2 (oI ((geI n least) = true)),oR True ((geI n least) = true)]
theorem QsY {i} {rv:ByteArray} (h:Qpz i = some rv):AFn Tryz.prog 181 [.one (lI i)] [] (one (.str rv)) []:=by
 refine QaL Tryz.func181 (by kernel_rfl) (by kernel_rfl) (fun Γ=>?_)
 unfold Qpz at h
 rcases Qag h with ⟨h0,h⟩|⟨h0,h⟩
 ·obtain ⟨s0,h1,h⟩:=Qae h
  obtain rfl:=Option.some.inj h
  exact gr 8 [] [bT h0,oO (ss1 h1),oO (ss2 h1),oO (ss3 h1)]
 ·obtain ⟨s1,h2,h⟩:=Qae h
  obtain rfl:=Option.some.inj h
  exact gr 9 [] [bF h0,oO (ss1 h2),oO (ss2 h2),oO (ss3 h2)]
end Go.Proofs.YtoogjnlmicgfiaaGreatDoor
