/- Part MU of the proof: texts W0. -/
import Derived.Test.YtoogjnlmicgfiaaGreatDoorMT
import Derived.Test.YtoogjnlmicgfiaaGreatDoorMC
import Derived.Test.YtoogjnlmicgfiaaGreatDoorProg
namespace Go.Proofs.YtoogjnlmicgfiaaGreatDoor
set_option linter.unusedVariables false
set_option linter.unusedSectionVars false
set_option linter.unusedSimpArgs false
set_option maxHeartbeats 4000000
set_option maxRecDepth 100000
def Qi9 (Γ:Gam) (rv:List Qaa) (cf:Cf):Prop:=Go Tryz.prog Tryz.f44 [] Γ (one (lL 2 rv Qaa.enc)) [] cf
def Qhq (Γ:Gam) (rv:List Qaa) (word:ByteArray) (l:List Qaa) (l1:List Qaa) (i:Int):Prop:=Qi9 Γ rv ⟨[.c 116,.l 116,.b 0,.c 15],⟨40,[vS 0 word,vL 1 2 l Qaa.enc,vO 5 0 2 l1 Qaa.enc,vI 6 i],[oS 2 144 l1 Qaa.enc]⟩⟩
def QgW (Γ:Gam) (rv:List Qaa) (word:ByteArray) (l:List Qaa) (l2:List Qaa):Prop:=Qi9 Γ rv ⟨[.c 15],⟨40,[vO 5 0 2 l2 Qaa.enc],[oS 2 144 l2 Qaa.enc]⟩⟩
theorem QjZ (Γ:Gam) (rv:List Qaa) {word l l1 i at_} {x:(List Qaa × Int) ⊕ (List Qaa)} (h:Qfp word l l1 i at_ = some x) (hI:∀ s:List Qaa × Int,x = .inl s→Qhq Γ rv word l s.1 s.2) (hE:∀ e:List Qaa,x = .inr e→QgW Γ rv word l e):Qi9 Γ rv ⟨[.c 3731,.b 1,.c 467,.l 116,.b 0,.c 15],⟨40,[vS 0 word,vL 1 2 l Qaa.enc,vO 5 0 2 l1 Qaa.enc,vI 6 i,vS 7 at_],[oS 2 144 l1 Qaa.enc]⟩⟩:=by
 unfold Qfp at h
 obtain ⟨x1,h5,h⟩:=Qae h
 obtain ⟨h6,h⟩:=Qaw h
 exact gn 4 [0,1,5,6] [2] [cE Qaa.enc h5,oO (Eq.refl ([(Qaa.mk x1.err at_)].map Qaa.enc).length),aO Qaa.enc h6] (hI _ (oJ h))
theorem QoL (Γ:Gam) (rv:List Qaa) {word l} {s:List Qaa × Int} {e:List Qaa} (h:loopF (fun s=>Qeb word l s.1 s.2) s = some e) (hD:QgW Γ rv word l e):Qhq Γ rv word l s.1 s.2:=by
 refine QaI (C:=fun (s:List Qaa × Int)=>Qhq Γ rv word l s.1 s.2) (D:=fun (e:List Qaa)=>QgW Γ rv word l e) ?_ h hD
 clear h hD s e
 rintro ⟨l1,i⟩ z_ h hI hE
 replace h:Qeb word l l1 i = _:=h
 unfold Qeb at h
 rcases Qai h with ⟨h0,h⟩|⟨h0,h⟩
 ·obtain ⟨x0,h1,h⟩:=Qae h
  rcases Qai h with ⟨h2,h⟩|⟨h2,h⟩
  ·exact gn 14 [0,1,5,6,7] [0] [nL Qaa.enc l,bT h0,cE Qaa.enc h1,nF h2] (QjZ Γ rv h hI hE)
  ·obtain ⟨h3,h⟩:=Qaw h
   obtain ⟨h4,h⟩:=Qaw h
   exact gn 14 [0,1,5,6,7] [0] [nL Qaa.enc l,bT h0,cE Qaa.enc h1,nT h2,oO (h3),cE Qaa.enc h1,oO (h4)] (QjZ Γ rv h hI hE)
 ·exact gn 5 [5] [0] [nL Qaa.enc l,bF h0] (hE _ (oJ h))
theorem Qiy {word l} {rv:List Qaa} (h:QfS word l = some rv):AFn Tryz.prog 44 [.one (.str word),.one (lL 2 l Qaa.enc)] [] (one (lL 2 rv Qaa.enc)) []:=by
 refine QaS Tryz.func44 (by kernel_rfl) (by kernel_rfl) (fun Γ=>?_)
 unfold QfS at h
 obtain ⟨e0,h7,h⟩:=Qae h
 refine gn 9 [0,1,5,6] [0] [hW 12,hH (.adopt 5 2 144)] (QoL Γ rv h7 ?_)
 obtain ⟨l2,rfl⟩:∃ x,x = e0:=⟨_,rfl⟩
 replace h:(some l2:Option (List Qaa)) = some _:=h
 obtain rfl:=Option.some.inj h
 exact gr 2 [] [hW 4,hH (.frz 0),rp 3 (eL l2 Qaa.enc)]
def QhS (Γ:Gam) (rv:ByteArray) (cf:Cf):Prop:=Go Tryz.prog Tryz.f87 [] Γ (one (.str rv)) [] cf
def Qgr (Γ:Gam) (rv:ByteArray) (n:Int) (s0:ByteArray) (left:Int) (again:Bool):Prop:=QhS Γ rv ⟨[.c 244,.l 244,.b 0,.c 31],⟨31,[vI 0 n,vS 3 s0,vI 4 left,vB 5 again],[]⟩⟩
def Qf2 (Γ:Gam) (rv:ByteArray) (n:Int) (s1:ByteArray):Prop:=QhS Γ rv ⟨[.c 31],⟨31,[vI 0 n,vS 3 s1],[]⟩⟩
theorem Qiq (Γ:Gam) (rv:ByteArray) {n s0 left d} {x:(ByteArray × Int × Bool) ⊕ (ByteArray)} (h:Qdn n s0 left d = some x) (hI:∀ s:ByteArray × Int × Bool,x = .inl s→Qgr Γ rv n s.1 s.2.1 s.2.2) (hE:∀ e:ByteArray,x = .inr e→Qf2 Γ rv n e):QhS Γ rv ⟨[.c 7827,.b 1,.c 979,.l 244,.b 0,.c 31],⟨31,[vI 0 n,vS 3 s0,vI 4 left,vI 6 d],[]⟩⟩:=by
 unfold Qdn at h
 obtain ⟨h2,h⟩:=Qaw h
 exact gn 6 [0,3,4,5] [] [hH (.ints [(cvK .u8 (addK .i64 48 d))]),oO (Eq.refl ([(cvK .u8 (addK .i64 48 d))].map e_u8).length),oO (Eq.refl (([(cvK .u8 (addK .i64 48 d))].map e_u8):List (List Lf))),oO (h2),oO (oA (n:=10))] (hI _ (oJ h))
theorem Qnw (Γ:Gam) (rv:ByteArray) {n} {s:ByteArray × Int × Bool} {e:ByteArray} (h:loopF (fun s=>QfG n s.1 s.2.1 s.2.2) s = some e) (hD:Qf2 Γ rv n e):Qgr Γ rv n s.1 s.2.1 s.2.2:=by
 refine QaI (C:=fun (s:ByteArray × Int × Bool)=>Qgr Γ rv n s.1 s.2.1 s.2.2) (D:=fun (e:ByteArray)=>Qf2 Γ rv n e) ?_ h hD
 clear h hD s e
 rintro ⟨s0,left,again⟩ z_ h hI hE
 replace h:QfG n s0 left again = _:=h
 unfold QfG at h
 rcases Qai h with ⟨h0,h⟩|⟨h0,h⟩
 ·rcases Qai h with ⟨h1,h⟩|⟨h1,h⟩
  ·exact gn 14 [0,3,4,6] [] [bT h0,oO (oA (n:=10)),bT h1] (Qiq Γ rv h hI hE)
  ·exact gn 14 [0,3,4,6] [] [bT h0,oO (oA (n:=10)),bF h1] (Qiq Γ rv h hI hE)
 ·exact gn 5 [0,3] [] [bF h0] (hE _ (oJ h))
theorem QbQ {n} {rv:ByteArray} (h:QbR n = some rv):AFn Tryz.prog 87 [.one (lI n)] [] (one (.str rv)) []:=by
 refine QaS Tryz.func87 (by kernel_rfl) (by kernel_rfl) (fun Γ=>?_)
 unfold QbR at h
 obtain ⟨e0,h3,h⟩:=Qae h
 refine gn 11 [0,3,4,5] [] [] (Qnw Γ rv h3 ?_)
 obtain ⟨s1,rfl⟩:∃ x,x = e0:=⟨_,rfl⟩
 replace h:(br (ltI n 0) (chk (QtF.size + s1.size ≤ 9223372036854775807) (some (catS QtF s1))) (some s1):Option ByteArray) = some _:=h
 rcases Qai h with ⟨h4,h⟩|⟨h4,h⟩
 ·obtain ⟨h5,h⟩:=Qaw h
  obtain rfl:=Option.some.inj h
  exact gr 6 [] [bT h4,oO (h5)]
 ·obtain rfl:=Option.some.inj h
  exact gr 7 [] [bF h4]
theorem Qgw {c} {rv:Bool} (h:Qir c = some rv):AFn Tryz.prog 153 [.one (.int .u8 c)] [] (one (.bool rv)) []:=by
 refine QaS Tryz.func153 (by kernel_rfl) (by kernel_rfl) (fun Γ=>?_)
 unfold Qir at h
 obtain rfl:=Option.some.inj h
 exact gr 4 [] [hP,hP,hP,oI ((geI c 48) = true),oR True ((geI c 48) = true)]
theorem QhT {c} {rv:Bool} (h:Qkq c = some rv):AFn Tryz.prog 154 [.one (.int .u8 c)] [] (one (.bool rv)) []:=by
 refine QaS Tryz.func154 (by kernel_rfl) (by kernel_rfl) (fun Γ=>?_)
 unfold Qkq at h
 obtain rfl:=Option.some.inj h
 exact gr 4 [] [rp 14 hP,oI ((geI c 97) = true),oR True ((geI c 97) = true),rp 2 (oI (((geI c 97) && (leI c 122)) = false)),oI ((((geI c 97) && (leI c 122)) = false)∧(geI c 65) = true),oI (((geI c 97) && (leI c 122)) = false),oI ((((geI c 97) && (leI c 122)) = false)∧(geI c 65) = true),oR True (((geI c 97) && (leI c 122)) = false),oI ((((geI c 97) && (leI c 122)) || ((geI c 65) && (leI c 90))) = false),oR True ((((geI c 97) && (leI c 122)) || ((geI c 65) && (leI c 90))) = false)]
def QnU (Γ:Gam) (rv:Bool) (cf:Cf):Prop:=Go Tryz.prog Tryz.f128 [] Γ (one (.bool rv)) [] cf
def QlD (Γ:Gam) (rv:Bool) (s0:ByteArray) (b:UInt8) (i:Int):Prop:=QnU Γ rv ⟨[.c 116,.l 116,.b 0,.c 15],⟨35,[vS 0 s0,vI 3 i],[]⟩⟩
def QkQ (Γ:Gam) (rv:Bool) (s0:ByteArray) (b:UInt8):Prop:=QnU Γ rv ⟨[.c 15],⟨35,[],[]⟩⟩
theorem Qpu (Γ:Gam) (rv:Bool) {s0 b} {s:Int} {e:(Unit) ⊕ (Bool)} (h:loopF (fun s=>QeG s0 b s) s = some e) (hD:sel e (fun e=>QkQ Γ rv s0 b) (fun e=>e = rv)):QlD Γ rv s0 b s:=by
 refine QaI (C:=fun (s:Int)=>QlD Γ rv s0 b s) (D:=fun (e:(Unit) ⊕ (Bool))=>sel e (fun e=>QkQ Γ rv s0 b) (fun e=>e = rv)) ?_ h hD
 clear h hD s e
 intro i z_ h hI hE
 replace h:QeG s0 b i = _:=h
 unfold QeG at h
 rcases Qai h with ⟨h4,h⟩|⟨h4,h⟩
 ·obtain ⟨b1,h5,h⟩:=Qae h
  obtain ⟨r1,h6,h⟩:=Qae h
  rcases Qai h with ⟨h7,h⟩|⟨h7,h⟩
  ·exact gn 14 [0,3] [] [bT h4,yE h5,cC (QhT h6),rp 6 (nF h7),fF] (hI _ (oJ h))
  ·obtain ⟨r2,h8,h⟩:=Qae h
   rcases Qai h with ⟨h9,h⟩|⟨h9,h⟩
   ·exact gn 14 [0,3] [] [bT h4,yE h5,cC (QhT h6),rp 3 (nT h7),yE h5,nT h7,cC (Qgw h8),nT h7,nT h7,nF h9] (hI _ (oJ h))
   ·obtain rfl:=(hE _ (oJ h):_ = rv)
    exact gr 12 [] [bT h4,yE h5,cC (QhT h6),rp 3 (nT h7),yE h5,nT h7,cC (Qgw h8),nT h7,nT h7,nT h9]
 ·exact gn 5 [] [] [bF h4] (hE _ (oJ h))
theorem QeH {s0} {rv:Bool} (h:Qfy s0 = some rv):AFn Tryz.prog 128 [.one (.str s0)] [] (one (.bool rv)) []:=by
 refine QaS Tryz.func128 (by kernel_rfl) (by kernel_rfl) (fun Γ=>?_)
 unfold Qfy at h
 rcases Qai h with ⟨h0,h⟩|⟨h0,h⟩
 ·obtain rfl:=Option.some.inj h
  exact gr 8 [] [rp 4 hP,rp 2 (oI ((ltI (sizeS s0) 1) = false)),oR True ((ltI (sizeS s0) 1) = false),rp 4 (bT h0),tT]
 ·obtain ⟨b,h1,h⟩:=Qae h
  obtain ⟨r,h2,h⟩:=Qae h
  rcases Qai h with ⟨h3,h⟩|⟨h3,h⟩
  ·obtain rfl:=Option.some.inj h
   exact gr 8 [] [rp 4 hP,rp 2 (oI ((ltI (sizeS s0) 1) = false)),oR True ((ltI (sizeS s0) 1) = false),bF h0,bF h0,yE h1,bF h0,cC (Qgw h2),bF h0,bT h3]
  ·obtain ⟨e0,h10,h⟩:=Qae h
   refine gn 12 [0,3] [] [rp 4 hP,rp 2 (oI ((ltI (sizeS s0) 1) = false)),oR True ((ltI (sizeS s0) 1) = false),bF h0,bF h0,yE h1,bF h0,cC (Qgw h2),bF h0,bF h3] (Qpu Γ rv h10 ?_)
   rcases e0 with e0|e0
   ·replace h:(some true:Option Bool) = some _:=h
    obtain rfl:=Option.some.inj h
    exact gr 2 [] []
   ·obtain ⟨r3,rfl⟩:∃ x,x = e0:=⟨_,rfl⟩
    replace h:(some r3:Option Bool) = some _:=h
    exact Option.some.inj h
def Qg7 (Γ:Gam) (rv:List Qaa) (cf:Cf):Prop:=Go Tryz.prog Tryz.f129 [] Γ (one (lL 2 rv Qaa.enc)) [] cf
def Qho (Γ:Gam) (rv:List Qaa) (l:List Qan) (l2:List Qaa) (i:Int):Prop:=Qg7 Γ rv ⟨[.c 244,.l 244,.b 0,.c 31],⟨88,[vL 0 2 l Qan.enc,vO 3 0 2 l2 Qaa.enc,vI 4 i],[oS 2 144 l2 Qaa.enc]⟩⟩
def QgN (Γ:Gam) (rv:List Qaa) (l:List Qan) (l4:List Qaa):Prop:=Qg7 Γ rv ⟨[.c 31],⟨88,[vO 3 0 2 l4 Qaa.enc],[oS 2 144 l4 Qaa.enc]⟩⟩
theorem Qju (Γ:Gam) (rv:List Qaa) {l i x0 l3} {x:(List Qaa × Int) ⊕ (List Qaa)} (h:QdW l i x0 l3 = some x) (hI:∀ s:List Qaa × Int,x = .inl s→Qho Γ rv l s.1 s.2) (hE:∀ e:List Qaa,x = .inr e→QgN Γ rv l e):Qg7 Γ rv ⟨[.c 7827,.b 1,.c 979,.l 244,.b 0,.c 31],⟨88,[vL 0 2 l Qan.enc,vO 3 0 2 l3 Qaa.enc,vI 4 i,vP 5 1 2],[oS 2 144 l3 Qaa.enc,oX 2 96 (Qan.enc x0)]⟩⟩:=by
 unfold QdW at h
 rcases Qai h with ⟨h7,h⟩|⟨h7,h⟩
 ·obtain ⟨x1,h8,h⟩:=Qae h
  rcases Qai h with ⟨h9,h⟩|⟨h9,h⟩
  ·obtain ⟨r1,h10,h⟩:=Qae h
   obtain ⟨h11,h⟩:=Qaw h
   exact gn 7 [0,3,4] [3] [hH (.draw 24 []),rp 6 (bT h7),cE Qan.enc h8,rp 4 (bT h7),rp 9 (bT h9),bT h7,bT h9,bT h7,tT,cC (QbQ h10),oO (Eq.refl ([(Qaa.mk 13 r1)].map Qaa.enc).length),aO Qaa.enc h11] (hI _ (oJ h))
  ·rcases Qai h with ⟨h12,h⟩|⟨h12,h⟩
   ·obtain ⟨r2,h13,h⟩:=Qae h
    obtain ⟨h14,h⟩:=Qaw h
    exact gn 7 [0,3,4] [3] [hH (.draw 24 []),rp 6 (bT h7),cE Qan.enc h8,rp 4 (bT h7),rp 6 (bF h9),cE Qan.enc h8,rp 3 (bF h9),bT h7,bF h9,bT h7,bT h12,cC (QbQ h13),oO (Eq.refl ([(Qaa.mk 13 r2)].map Qaa.enc).length),aO Qaa.enc h14] (hI _ (oJ h))
   ·exact gn 7 [0,3,4] [0] [hH (.draw 24 []),rp 6 (bT h7),cE Qan.enc h8,rp 4 (bT h7),rp 6 (bF h9),cE Qan.enc h8,rp 3 (bF h9),bT h7,bF h9,bT h7,bF h12] (hI _ (oJ h))
 ·exact gn 7 [0,3,4] [0] [hH (.draw 24 []),rp 10 (bF h7),rp 9 kF,bF h7,bF h7,fF] (hI _ (oJ h))
theorem QoC (Γ:Gam) (rv:List Qaa) {l} {s:List Qaa × Int} {e:List Qaa} (h:loopF (fun s=>Qdc l s.1 s.2) s = some e) (hD:QgN Γ rv l e):Qho Γ rv l s.1 s.2:=by
 refine QaI (C:=fun (s:List Qaa × Int)=>Qho Γ rv l s.1 s.2) (D:=fun (e:List Qaa)=>QgN Γ rv l e) ?_ h hD
 clear h hD s e
 rintro ⟨l2,i⟩ z_ h hI hE
 replace h:Qdc l l2 i = _:=h
 unfold Qdc at h
 rcases Qai h with ⟨h2,h⟩|⟨h2,h⟩
 ·obtain ⟨x0,h3,h⟩:=Qae h
  rcases Qai h with ⟨h4,h⟩|⟨h4,h⟩
  ·obtain ⟨r,h5,h⟩:=Qae h
   obtain ⟨h6,h⟩:=Qaw h
   exact gn 14 [0,3,4,5] [3,1] [nL Qan.enc l,bT h2,cE Qan.enc h3,rp 17 hP,rp 2 (oI ((ltI x0.t 0) = false)),oR True ((ltI x0.t 0) = false),rp 4 (oI (((ltI x0.t 0) || (gtI x0.t 4096)) = false)),oR True (((ltI x0.t 0) || (gtI x0.t 4096)) = false),rp 5 (oI ((((ltI x0.t 0) || (gtI x0.t 4096)) || (ltI x0.a x0.t)) = false)),oR True ((((ltI x0.t 0) || (gtI x0.t 4096)) || (ltI x0.a x0.t)) = false),bT h4,cC (QbQ h5),oO (Eq.refl ([(Qaa.mk 2 r)].map Qaa.enc).length),aO Qaa.enc h6] (Qju Γ rv h hI hE)
  ·exact gn 14 [0,3,4,5] [0,1] [nL Qan.enc l,bT h2,cE Qan.enc h3,rp 17 hP,rp 2 (oI ((ltI x0.t 0) = false)),oR True ((ltI x0.t 0) = false),rp 4 (oI (((ltI x0.t 0) || (gtI x0.t 4096)) = false)),oR True (((ltI x0.t 0) || (gtI x0.t 4096)) = false),rp 5 (oI ((((ltI x0.t 0) || (gtI x0.t 4096)) || (ltI x0.a x0.t)) = false)),oR True ((((ltI x0.t 0) || (gtI x0.t 4096)) || (ltI x0.a x0.t)) = false),bF h4] (Qju Γ rv h hI hE)
 ·exact gn 5 [3] [0] [nL Qan.enc l,bF h2] (hE _ (oJ h))
theorem Qjt (Γ:Gam) (rv:List Qaa) {l l1} (h:Qfi l l1 = some rv):Qg7 Γ rv ⟨[.c 15],⟨88,[vL 0 2 l Qan.enc,vO 3 0 2 l1 Qaa.enc],[oS 2 144 l1 Qaa.enc]⟩⟩:=by
 unfold Qfi at h
 obtain ⟨e0,h15,h⟩:=Qae h
 refine gn 5 [0,3,4] [0] [] (QoC Γ rv h15 ?_)
 obtain ⟨l4,rfl⟩:∃ x,x = e0:=⟨_,rfl⟩
 replace h:(some l4:Option (List Qaa)) = some _:=h
 obtain rfl:=Option.some.inj h
 exact gr 2 [] [hW 4,hH (.frz 0),rp 3 (eL l4 Qaa.enc)]
theorem Qql {l} {rv:List Qaa} (h:QeS l = some rv):AFn Tryz.prog 129 [.one (lL 2 l Qan.enc)] [] (one (lL 2 rv Qaa.enc)) []:=by
 refine QaS Tryz.func129 (by kernel_rfl) (by kernel_rfl) (fun Γ=>?_)
 unfold QeS at h
 rcases Qai h with ⟨h0,h⟩|⟨h0,h⟩
 ·obtain ⟨h1,h⟩:=Qaw h
  exact gn 9 [0,3] [1] [nL Qan.enc l,hP,hP,oI ((ltI (lenI l) 1) = false),nL Qan.enc l,hP,hP,oI ((ltI (lenI l) 1) = false),oR True ((ltI (lenI l) 1) = false),bT h0,oO (Eq.refl ([(Qaa.mk 4 ByteArray.empty)].map Qaa.enc).length),aN (l:=([(Qaa.mk 4 ByteArray.empty)]:List Qaa)) Qaa.enc h1] (Qjt Γ rv h)
 ·exact gn 9 [0,3] [0] [nL Qan.enc l,hP,hP,oI ((ltI (lenI l) 1) = false),nL Qan.enc l,hP,hP,oI ((ltI (lenI l) 1) = false),oR True ((ltI (lenI l) 1) = false),bF h0,hW 1,hH (.adopt 3 2 144)] (Qjt Γ rv h)
theorem QcD {t} {rv:Bool} (h:Qgn t = some rv):AFn Tryz.prog 130 [.one (lI t)] [] (one (.bool rv)) []:=by
 refine QaS Tryz.func130 (by kernel_rfl) (by kernel_rfl) (fun Γ=>?_)
 unfold Qgn at h
 obtain rfl:=Option.some.inj h
 exact gr 4 [] [hP,hP,hP,oI ((geI t 0) = true),oR True ((geI t 0) = true)]
def QbB (Γ:Gam) (rv:List Qaa) (cf:Cf):Prop:=Go Tryz.prog Tryz.f84 [] Γ (one (lL 2 rv Qaa.enc)) [] cf
def Qit (Γ:Gam) (rv:List Qaa) (n:Qah) (i:Int) (r:ByteArray) (x0:Qav) (l:List Qaa) (l1:List Qaa) (twice:Bool) (k:Int):Prop:=QbB Γ rv ⟨[.c 4084,.l 4084,.b 0,.c 511],⟨192,[vI 1 i,vP 2 0 2,vO 5 1 2 l1 Qaa.enc,vS 6 (catS QaR r),vP 7 2 6,vB 8 twice,vI 9 k],[oX 2 25 (Qah.enc n),oS 2 144 l1 Qaa.enc,oX 6 99 (Qav.enc x0)]⟩⟩
def Qh9 (Γ:Gam) (rv:List Qaa) (n:Qah) (i:Int) (r:ByteArray) (x0:Qav) (l:List Qaa) (l1:List Qaa) (twice1:Bool):Prop:=QbB Γ rv ⟨[.c 511],⟨192,[vO 5 0 2 l1 Qaa.enc,vS 6 (catS QaR r),vP 7 1 6,vB 8 twice1],[oS 2 144 l1 Qaa.enc,oX 6 99 (Qav.enc x0)]⟩⟩
def Qiu (Γ:Gam) (rv:List Qaa) (r:ByteArray) (x0:Qav) (l:List Qaa) (r1:List Qaa) (l3:List Qaa) (k1:Int):Prop:=QbB Γ rv ⟨[.c 32756,.l 32756,.b 2,.c 4095],⟨192,[vO 5 0 2 l3 Qaa.enc,vS 6 (catS QaR r),vP 7 1 6,vL 11 2 r1 Qaa.enc,vI 12 k1],[oS 2 144 l3 Qaa.enc,oX 6 99 (Qav.enc x0)]⟩⟩
def Qia (Γ:Gam) (rv:List Qaa) (r:ByteArray) (x0:Qav) (l:List Qaa) (r1:List Qaa) (l4:List Qaa):Prop:=QbB Γ rv ⟨[.c 4095],⟨192,[vO 5 0 2 l4 Qaa.enc,vS 6 (catS QaR r),vP 7 1 6],[oS 2 144 l4 Qaa.enc,oX 6 99 (Qav.enc x0)]⟩⟩
def Qiv (Γ:Gam) (rv:List Qaa) (r:ByteArray) (x0:Qav) (l:List Qaa) (l6:List Qaa) (k2:Int):Prop:=QbB Γ rv ⟨[.c 131060,.l 131060,.b 4,.c 16383],⟨192,[vO 5 0 2 l6 Qaa.enc,vS 6 (catS QaR r),vP 7 1 6,vI 13 k2],[oS 2 144 l6 Qaa.enc,oX 6 99 (Qav.enc x0)]⟩⟩
def Qib (Γ:Gam) (rv:List Qaa) (r:ByteArray) (x0:Qav) (l:List Qaa) (l7:List Qaa):Prop:=QbB Γ rv ⟨[.c 16383],⟨192,[vO 5 0 2 l7 Qaa.enc],[oS 2 144 l7 Qaa.enc]⟩⟩
theorem Qm5 (Γ:Gam) (rv:List Qaa) {n i r x0 l l1} {s:Bool × Int} {e:Bool} (h:loopF (fun s=>QbW n i r x0 l l1 s.1 s.2) s = some e) (hD:Qh9 Γ rv n i r x0 l l1 e):Qit Γ rv n i r x0 l l1 s.1 s.2:=by
 refine QaI (C:=fun (s:Bool × Int)=>Qit Γ rv n i r x0 l l1 s.1 s.2) (D:=fun (e:Bool)=>Qh9 Γ rv n i r x0 l l1 e) ?_ h hD
 clear h hD s e
 rintro ⟨twice,k⟩ z_ h hI hE
 replace h:QbW n i r x0 l l1 twice k = _:=h
 unfold QbW at h
 rcases Qai h with ⟨h7,h⟩|⟨h7,h⟩
 ·obtain ⟨x1,h8,h⟩:=Qae h
  exact gn 13 [1,2,5,6,7,8,9] [0,1,2] [bT h7,cE Qav.enc h8,rp 22 hP,rp 5 (oI (twice = false)),rp 4 (oI ((twice = false)∧(eqI x0.from_ x1.from_) = true)),oI (twice = false),oI ((twice = false)∧(eqI x0.from_ x1.from_) = true),oI (twice = false),rp 4 (oI ((twice = false)∧((eqI x0.from_ x1.from_) && (eqI x0.to_ x1.to_)) = true)),oI (twice = false),oI ((twice = false)∧((eqI x0.from_ x1.from_) && (eqI x0.to_ x1.to_)) = true),oR True (twice = false)] (hI _ (oJ h))
 ·exact gn 5 [5,6,7,8] [1,2] [bF h7] (hE _ (oJ h))
theorem Qm6 (Γ:Gam) (rv:List Qaa) {r x0 l r1} {s:List Qaa × Int} {e:List Qaa} (h:loopF (fun s=>QbX r x0 l r1 s.1 s.2) s = some e) (hD:Qia Γ rv r x0 l r1 e):Qiu Γ rv r x0 l r1 s.1 s.2:=by
 refine QaI (C:=fun (s:List Qaa × Int)=>Qiu Γ rv r x0 l r1 s.1 s.2) (D:=fun (e:List Qaa)=>Qia Γ rv r x0 l r1 e) ?_ h hD
 clear h hD s e
 rintro ⟨l3,k1⟩ z_ h hI hE
 replace h:QbX r x0 l r1 l3 k1 = _:=h
 unfold QbX at h
 rcases Qai h with ⟨h13,h⟩|⟨h13,h⟩
 ·obtain ⟨x2,h14,h⟩:=Qae h
  obtain ⟨h15,h⟩:=Qaw h
  exact gn 11 [5,6,7,11,12] [3,1] [nL Qaa.enc r1,bT h13,cE Qaa.enc h14,oO (Eq.refl ([(Qaa.mk x2.err (catS QaR r))].map Qaa.enc).length),aO Qaa.enc h15] (hI _ (oJ h))
 ·exact gn 5 [5,6,7] [0,1] [nL Qaa.enc r1,bF h13] (hE _ (oJ h))
theorem Qm7 (Γ:Gam) (rv:List Qaa) {r x0 l} {s:List Qaa × Int} {e:List Qaa} (h:loopF (fun s=>QbY r x0 l s.1 s.2) s = some e) (hD:Qib Γ rv r x0 l e):Qiv Γ rv r x0 l s.1 s.2:=by
 refine QaI (C:=fun (s:List Qaa × Int)=>Qiv Γ rv r x0 l s.1 s.2) (D:=fun (e:List Qaa)=>Qib Γ rv r x0 l e) ?_ h hD
 clear h hD s e
 rintro ⟨l6,k2⟩ z_ h hI hE
 replace h:QbY r x0 l l6 k2 = _:=h
 unfold QbY at h
 rcases Qai h with ⟨h19,h⟩|⟨h19,h⟩
 ·obtain ⟨x3,h20,h⟩:=Qae h
  obtain ⟨r2,h21,h⟩:=Qae h
  rcases Qai h with ⟨h22,h⟩|⟨h22,h⟩
  ·obtain ⟨r3,h23,h⟩:=Qae h
   rcases Qai h with ⟨h24,h⟩|⟨h24,h⟩
   ·rcases Qai h with ⟨h25,h⟩|⟨h25,h⟩
    ·obtain ⟨x4,h26,h⟩:=Qae h
     rcases Qai h with ⟨h27,h⟩|⟨h27,h⟩
     ·obtain ⟨h28,h⟩:=Qaw h
      exact gn 16 [5,6,7,13] [4,1] [nL Qan.enc x0.slow,bT h19,cE Qan.enc h20,hH (.draw 26 []),cC (QcD h21),rp 3 (nF h22),cC (QcD h23),rp 2 (nF h22),rp 3 (nF h24),rp 7 (bT h25),cE Qan.enc h26,rp 3 (bT h25),nF h24,bT h25,nF h24,bT h27,oO (Eq.refl ([(Qaa.mk 2 (catS QaR r))].map Qaa.enc).length),aO Qaa.enc h28] (hI _ (oJ h))
     ·exact gn 16 [5,6,7,13] [0,1] [nL Qan.enc x0.slow,bT h19,cE Qan.enc h20,hH (.draw 26 []),cC (QcD h21),rp 3 (nF h22),cC (QcD h23),rp 2 (nF h22),rp 3 (nF h24),rp 7 (bT h25),cE Qan.enc h26,rp 3 (bT h25),nF h24,bT h25,nF h24,bF h27] (hI _ (oJ h))
    ·exact gn 16 [5,6,7,13] [0,1] [nL Qan.enc x0.slow,bT h19,cE Qan.enc h20,hH (.draw 26 []),cC (QcD h21),rp 3 (nF h22),cC (QcD h23),rp 2 (nF h22),rp 3 (nF h24),rp 10 (bF h25),nF h24,bF h25,nF h24,fF] (hI _ (oJ h))
   ·obtain ⟨h29,h⟩:=Qaw h
    exact gn 16 [5,6,7,13] [4,1] [nL Qan.enc x0.slow,bT h19,cE Qan.enc h20,hH (.draw 26 []),cC (QcD h21),rp 3 (nF h22),cC (QcD h23),rp 2 (nF h22),rp 3 (nT h24),rp 10 kF,rp 2 (nT h24),tT,oO (Eq.refl ([(Qaa.mk 2 (catS QaR r))].map Qaa.enc).length),aO Qaa.enc h29] (hI _ (oJ h))
  ·obtain ⟨h30,h⟩:=Qaw h
   exact gn 16 [5,6,7,13] [4,1] [nL Qan.enc x0.slow,bT h19,cE Qan.enc h20,hH (.draw 26 []),cC (QcD h21),rp 5 (nT h22),tT,tT,tT,rp 10 kF,tT,tT,tT,oO (Eq.refl ([(Qaa.mk 2 (catS QaR r))].map Qaa.enc).length),aO Qaa.enc h30] (hI _ (oJ h))
 ·exact gn 5 [5] [0] [nL Qan.enc x0.slow,bF h19] (hE _ (oJ h))
theorem Qh8 (Γ:Gam) (rv:List Qaa) {r x0 l l5} (h:QbJ r x0 l l5 = some rv):QbB Γ rv ⟨[.c 8191],⟨192,[vO 5 0 2 l5 Qaa.enc,vS 6 (catS QaR r),vP 7 1 6],[oS 2 144 l5 Qaa.enc,oX 6 99 (Qav.enc x0)]⟩⟩:=by
 unfold QbJ at h
 obtain ⟨e2,h31,h⟩:=Qae h
 refine gn 5 [5,6,7,13] [0,1] [] (Qm7 Γ rv h31 ?_)
 obtain ⟨l7,rfl⟩:∃ x,x = e2:=⟨_,rfl⟩
 replace h:(some l7:Option (List Qaa)) = some _:=h
 obtain rfl:=Option.some.inj h
 exact gr 2 [] [hW 4,hH (.frz 0),rp 3 (eL l7 Qaa.enc)]
theorem Qh7 (Γ:Gam) (rv:List Qaa) {r x0 l l2} (h:QbV r x0 l l2 = some rv):QbB Γ rv ⟨[.c 1023],⟨192,[vO 5 0 2 l2 Qaa.enc,vS 6 (catS QaR r),vP 7 1 6],[oS 2 144 l2 Qaa.enc,oX 6 99 (Qav.enc x0)]⟩⟩:=by
 unfold QbV at h
 obtain ⟨r1,h12,h⟩:=Qae h
 obtain ⟨e1,h16,h⟩:=Qae h
 refine gn 7 [5,6,7,11,12] [0,1] [cC (Qql h12)] (Qm6 Γ rv h16 ?_)
 obtain ⟨l4,rfl⟩:∃ x,x = e1:=⟨_,rfl⟩
 replace h:(br (gtI (lenI x0.slow) 16) (chk (okN (l4 ++ [(Qaa.mk 4 (catS QaR r))]).length 24) (QbJ r x0 l (l4 ++ [(Qaa.mk 4 (catS QaR r))]))) (QbJ r x0 l l4):Option (List Qaa)) = some _:=h
 rcases Qai h with ⟨h17,h⟩|⟨h17,h⟩
 ·obtain ⟨h18,h⟩:=Qaw h
  exact gn 5 [5,6,7] [3,1] [nL Qan.enc x0.slow,bT h17,oO (Eq.refl ([(Qaa.mk 4 (catS QaR r))].map Qaa.enc).length),aO Qaa.enc h18] (Qh8 Γ rv h)
 ·exact gn 5 [5,6,7] [0,1] [nL Qan.enc x0.slow,bF h17] (Qh8 Γ rv h)
theorem Qh6 (Γ:Gam) (rv:List Qaa) {n i r x0 l l1} (h:Qc2 n i r x0 l l1 = some rv):QbB Γ rv ⟨[.c 127],⟨192,[vI 1 i,vP 2 0 2,vO 5 1 2 l1 Qaa.enc,vS 6 (catS QaR r),vP 7 2 6],[oX 2 25 (Qah.enc n),oS 2 144 l1 Qaa.enc,oX 6 99 (Qav.enc x0)]⟩⟩:=by
 unfold Qc2 at h
 obtain ⟨e0,h9,h⟩:=Qae h
 refine gn 7 [1,2,5,6,7,8,9] [0,1,2] [] (Qm5 Γ rv h9 ?_)
 obtain ⟨twice1,rfl⟩:∃ x,x = e0:=⟨_,rfl⟩
 replace h:(br twice1 (chk (okN (l1 ++ [(Qaa.mk 6 (catS QaR r))]).length 24) (QbV r x0 l (l1 ++ [(Qaa.mk 6 (catS QaR r))]))) (QbV r x0 l l1):Option (List Qaa)) = some _:=h
 rcases Qai h with ⟨h10,h⟩|⟨h10,h⟩
 ·obtain ⟨h11,h⟩:=Qaw h
  exact gn 5 [5,6,7] [3,1] [bT h10,oO (Eq.refl ([(Qaa.mk 6 (catS QaR r))].map Qaa.enc).length),aO Qaa.enc h11] (Qh7 Γ rv h)
 ·exact gn 5 [5,6,7] [0,1] [bF h10] (Qh7 Γ rv h)
theorem Qh5 (Γ:Gam) (rv:List Qaa) {n i r x0 l} (h:Qc1 n i r x0 l = some rv):QbB Γ rv ⟨[.c 63],⟨192,[vI 1 i,vP 2 0 2,vO 5 1 2 l Qaa.enc,vS 6 (catS QaR r),vP 7 2 6],[oX 2 25 (Qah.enc n),oS 2 144 l Qaa.enc,oX 6 99 (Qav.enc x0)]⟩⟩:=by
 unfold Qc1 at h
 rcases Qai h with ⟨h5,h⟩|⟨h5,h⟩
 ·obtain ⟨h6,h⟩:=Qaw h
  exact gn 5 [1,2,5,6,7] [0,4,2] [rp 18 hP,rp 2 (oI ((ltI x0.profile 0) = false)),oR True ((ltI x0.profile 0) = false),rp 2 (oI (((ltI x0.profile 0) || (gtI x0.profile 7)) = false)),oR True (((ltI x0.profile 0) || (gtI x0.profile 7)) = false),rp 2 (oI ((((ltI x0.profile 0) || (gtI x0.profile 7)) || (ltI x0.miles 0)) = false)),oR True ((((ltI x0.profile 0) || (gtI x0.profile 7)) || (ltI x0.miles 0)) = false),rp 4 (oI (((((ltI x0.profile 0) || (gtI x0.profile 7)) || (ltI x0.miles 0)) || (gtI x0.miles 10000)) = false)),oR True (((((ltI x0.profile 0) || (gtI x0.profile 7)) || (ltI x0.miles 0)) || (gtI x0.miles 10000)) = false),bT h5,oO (Eq.refl ([(Qaa.mk 2 (catS QaR r))].map Qaa.enc).length),aO Qaa.enc h6] (Qh6 Γ rv h)
 ·exact gn 5 [1,2,5,6,7] [0,1,2] [rp 18 hP,rp 2 (oI ((ltI x0.profile 0) = false)),oR True ((ltI x0.profile 0) = false),rp 2 (oI (((ltI x0.profile 0) || (gtI x0.profile 7)) = false)),oR True (((ltI x0.profile 0) || (gtI x0.profile 7)) = false),rp 2 (oI ((((ltI x0.profile 0) || (gtI x0.profile 7)) || (ltI x0.miles 0)) = false)),oR True ((((ltI x0.profile 0) || (gtI x0.profile 7)) || (ltI x0.miles 0)) = false),rp 4 (oI (((((ltI x0.profile 0) || (gtI x0.profile 7)) || (ltI x0.miles 0)) || (gtI x0.miles 10000)) = false)),oR True (((((ltI x0.profile 0) || (gtI x0.profile 7)) || (ltI x0.miles 0)) || (gtI x0.miles 10000)) = false),bF h5] (Qh6 Γ rv h)
theorem QoE {n i} {rv:List Qaa} (h:Qfk n i = some rv):AFn Tryz.prog 84 [.agg (Qah.enc n),.one (lI i)] [] (one (lL 2 rv Qaa.enc)) []:=by
 refine QaS Tryz.func84 (by kernel_rfl) (by kernel_rfl) (fun Γ=>?_)
 unfold Qfk at h
 obtain ⟨r,h0,h⟩:=Qae h
 obtain ⟨h1,h⟩:=Qaw h
 obtain ⟨x0,h2,h⟩:=Qae h
 rcases Qai h with ⟨h3,h⟩|⟨h3,h⟩
 ·obtain ⟨h4,h⟩:=Qaw h
  exact gn 13 [1,2,5,6,7] [0,3,1] [cC (QbQ h0),oO (h1),cE Qav.enc h2,rp 5 hP,rp 3 (oI ((ltI x0.from_ 0) = false)),nL e_str n.places,rp 11 hP,rp 2 (oI ((ltI x0.from_ 0) = false)),oR True ((ltI x0.from_ 0) = false),rp 2 (oI (((ltI x0.from_ 0) || (geI x0.from_ (lenI n.places))) = false)),oR True (((ltI x0.from_ 0) || (geI x0.from_ (lenI n.places))) = false),rp 3 (oI ((((ltI x0.from_ 0) || (geI x0.from_ (lenI n.places))) || (ltI x0.to_ 0)) = false)),nL e_str n.places,hP,hP,rp 2 (oI ((((ltI x0.from_ 0) || (geI x0.from_ (lenI n.places))) || (ltI x0.to_ 0)) = false)),oR True ((((ltI x0.from_ 0) || (geI x0.from_ (lenI n.places))) || (ltI x0.to_ 0)) = false),bT h3,oO (Eq.refl ([(Qaa.mk 11 (catS QaR r))].map Qaa.enc).length),aN (l:=([(Qaa.mk 11 (catS QaR r))]:List Qaa)) Qaa.enc h4] (Qh5 Γ rv h)
 ·exact gn 13 [1,2,5,6,7] [0,2,1] [cC (QbQ h0),oO (h1),cE Qav.enc h2,rp 5 hP,rp 3 (oI ((ltI x0.from_ 0) = false)),nL e_str n.places,rp 11 hP,rp 2 (oI ((ltI x0.from_ 0) = false)),oR True ((ltI x0.from_ 0) = false),rp 2 (oI (((ltI x0.from_ 0) || (geI x0.from_ (lenI n.places))) = false)),oR True (((ltI x0.from_ 0) || (geI x0.from_ (lenI n.places))) = false),rp 3 (oI ((((ltI x0.from_ 0) || (geI x0.from_ (lenI n.places))) || (ltI x0.to_ 0)) = false)),nL e_str n.places,hP,hP,rp 2 (oI ((((ltI x0.from_ 0) || (geI x0.from_ (lenI n.places))) || (ltI x0.to_ 0)) = false)),oR True ((((ltI x0.from_ 0) || (geI x0.from_ (lenI n.places))) || (ltI x0.to_ 0)) = false),bF h3,hW 1,hH (.adopt 5 2 144)] (Qh5 Γ rv h)
def Qcq (Γ:Gam) (rv:List Qaa) (cf:Cf):Prop:=Go Tryz.prog Tryz.f83 [] Γ (one (lO 0 2 rv Qaa.enc)) [oS 2 144 rv Qaa.enc] cf
def QfX (Γ:Gam) (rv:List Qaa) (n:Qah) (l:List Qaa) (l1:List Qaa) (i:Int) (r:ByteArray) (twice:Bool) (k:Int):Prop:=Qcq Γ rv ⟨[.c 250484,.l 250484,.b 2,.c 31311,.b 1,.c 979,.l 244,.b 0,.c 31],⟨64,[vP 1 0 2,vO 3 1 2 l1 Qaa.enc,vI 4 i,vS 5 (catS Qdq r),vB 6 twice,vI 7 k],[oX 2 25 (Qah.enc n),oS 2 144 l1 Qaa.enc]⟩⟩
def QfN (Γ:Gam) (rv:List Qaa) (n:Qah) (l:List Qaa) (l1:List Qaa) (i:Int) (r:ByteArray) (twice1:Bool):Prop:=Qcq Γ rv ⟨[.c 31311,.b 1,.c 979,.l 244,.b 0,.c 31],⟨64,[vP 1 0 2,vO 3 1 2 l1 Qaa.enc,vI 4 i,vS 5 (catS Qdq r),vB 6 twice1],[oX 2 25 (Qah.enc n),oS 2 144 l1 Qaa.enc]⟩⟩
def QfW (Γ:Gam) (rv:List Qaa) (n:Qah) (l:List Qaa) (l1:List Qaa) (i:Int):Prop:=Qcq Γ rv ⟨[.c 244,.l 244,.b 0,.c 31],⟨64,[vP 1 0 2,vO 3 1 2 l1 Qaa.enc,vI 4 i],[oX 2 25 (Qah.enc n),oS 2 144 l1 Qaa.enc]⟩⟩
def QfM (Γ:Gam) (rv:List Qaa) (n:Qah) (l:List Qaa) (l2:List Qaa):Prop:=Qcq Γ rv ⟨[.c 31],⟨64,[vO 3 0 2 l2 Qaa.enc],[oS 2 144 l2 Qaa.enc]⟩⟩
theorem Qi8 (Γ:Gam) (rv:List Qaa) {n l l1 i r} {s:Bool × Int} {e:Bool} (h:loopF (fun s=>Qbf n l l1 i r s.1 s.2) s = some e) (hD:QfN Γ rv n l l1 i r e):QfX Γ rv n l l1 i r s.1 s.2:=by
 refine QaI (C:=fun (s:Bool × Int)=>QfX Γ rv n l l1 i r s.1 s.2) (D:=fun (e:Bool)=>QfN Γ rv n l l1 i r e) ?_ h hD
 clear h hD s e
 rintro ⟨twice,k⟩ z_ h hI hE
 replace h:Qbf n l l1 i r twice k = _:=h
 unfold Qbf at h
 rcases Qai h with ⟨h8,h⟩|⟨h8,h⟩
 ·rcases Qai h with ⟨h9,h⟩|⟨h9,h⟩
  ·exact gn 11 [1,3,4,5,6,7] [0,1] [bT h8,hH (.draw 14 []),rp 12 (bT h9)] (hI _ (oJ h))
  ·obtain ⟨x1,h10,h⟩:=Qae h
   obtain ⟨x2,h11,h⟩:=Qae h
   exact gn 11 [1,3,4,5,6,7] [0,1] [bT h8,hH (.draw 14 []),rp 4 (bF h9),cE e_str h10,rp 5 (bF h9),cE e_str h11,rp 3 (bF h9)] (hI _ (oJ h))
 ·exact gn 5 [1,3,4,5,6] [0,1] [bF h8] (hE _ (oJ h))
theorem Qi7 (Γ:Gam) (rv:List Qaa) {n l} {s:List Qaa × Int} {e:List Qaa} (h:loopF (fun s=>Qbe n l s.1 s.2) s = some e) (hD:QfM Γ rv n l e):QfW Γ rv n l s.1 s.2:=by
 refine QaI (C:=fun (s:List Qaa × Int)=>QfW Γ rv n l s.1 s.2) (D:=fun (e:List Qaa)=>QfM Γ rv n l e) ?_ h hD
 clear h hD s e
 rintro ⟨l1,i⟩ z_ h hI hE
 replace h:Qbe n l l1 i = _:=h
 unfold Qbe at h
 rcases Qai h with ⟨h2,h⟩|⟨h2,h⟩
 ·obtain ⟨r,h3,h⟩:=Qae h
  obtain ⟨h4,h⟩:=Qaw h
  obtain ⟨x0,h5,h⟩:=Qae h
  obtain ⟨r1,h6,h⟩:=Qae h
  rcases Qai h with ⟨h7,h⟩|⟨h7,h⟩
  ·obtain ⟨e0,h12,h⟩:=Qae h
   refine gn 21 [1,3,4,5,6,7] [0,1] [nL e_str n.places,bT h2,cC (QbQ h3),oO (h4),cE e_str h5,cC (QeH h6),nF h7] (Qi8 Γ rv h12 ?_)
   obtain ⟨twice1,rfl⟩:∃ x,x = e0:=⟨_,rfl⟩
   replace h:(br twice1 (chk (okN (l1 ++ [(Qaa.mk 6 (catS Qdq r))]).length 24) (some (.inl ((l1 ++ [(Qaa.mk 6 (catS Qdq r))]),(addK .i64 i 1))))) (some (.inl (l1,(addK .i64 i 1)))):Option ((List Qaa × Int) ⊕ (List Qaa))) = some _:=h
   rcases Qai h with ⟨h13,h⟩|⟨h13,h⟩
   ·obtain ⟨h14,h⟩:=Qaw h
    exact gn 7 [1,3,4] [0,3] [bT h13,oO (Eq.refl ([(Qaa.mk 6 (catS Qdq r))].map Qaa.enc).length),aO Qaa.enc h14] (hI _ (oJ h))
   ·exact gn 7 [1,3,4] [0,1] [bF h13] (hI _ (oJ h))
  ·obtain ⟨h15,h⟩:=Qaw h
   exact gn 18 [1,3,4] [0,3] [nL e_str n.places,bT h2,cC (QbQ h3),oO (h4),cE e_str h5,cC (QeH h6),nT h7,oO (Eq.refl ([(Qaa.mk 5 (catS Qdq r))].map Qaa.enc).length),aO Qaa.enc h15] (hI _ (oJ h))
 ·exact gn 5 [3] [1] [nL e_str n.places,bF h2] (hE _ (oJ h))
theorem QfL (Γ:Gam) (rv:List Qaa) {n l} (h:Qcd n l = some rv):Qcq Γ rv ⟨[.c 15],⟨64,[vP 1 0 2,vO 3 1 2 l Qaa.enc],[oX 2 25 (Qah.enc n),oS 2 144 l Qaa.enc]⟩⟩:=by
 unfold Qcd at h
 obtain ⟨e1,h16,h⟩:=Qae h
 refine gn 5 [1,3,4] [0,1] [] (Qi7 Γ rv h16 ?_)
 obtain ⟨l2,rfl⟩:∃ x,x = e1:=⟨_,rfl⟩
 replace h:(some l2:Option (List Qaa)) = some _:=h
 obtain rfl:=Option.some.inj h
 exact gr 2 [0] []
theorem Qgx {n} {rv:List Qaa} (h:QcT n = some rv):AFn Tryz.prog 83 [.agg (Qah.enc n)] [] (one (lO 0 2 rv Qaa.enc)) [oS 2 144 rv Qaa.enc]:=by
 refine QaS Tryz.func83 (by kernel_rfl) (by kernel_rfl) (fun Γ=>?_)
 unfold QcT at h
 rcases Qai h with ⟨h0,h⟩|⟨h0,h⟩
 ·obtain ⟨h1,h⟩:=Qaw h
  exact gn 9 [1,3] [0,2] [nL e_str n.places,bT h0,oO (Eq.refl ([(Qaa.mk 4 Qki)].map Qaa.enc).length),aN (l:=([(Qaa.mk 4 Qki)]:List Qaa)) Qaa.enc h1] (QfL Γ rv h)
 ·exact gn 9 [1,3] [0,1] [nL e_str n.places,bF h0,hW 1,hH (.adopt 3 2 144)] (QfL Γ rv h)
def Qi5 (Γ:Gam) (rv:List Qaa) (cf:Cf):Prop:=Go Tryz.prog Tryz.f45 [] Γ (one (lL 2 rv Qaa.enc)) [] cf
def QkS (Γ:Gam) (rv:List Qaa) (n:Qah) (l:List Qaa) (l1:List Qaa) (i:Int):Prop:=Qi5 Γ rv ⟨[.c 244,.l 244,.b 0,.c 31],⟨28,[vP 1 0 2,vO 3 1 2 l1 Qaa.enc,vI 4 i],[oX 2 25 (Qah.enc n),oS 2 144 l1 Qaa.enc]⟩⟩
def Qjw (Γ:Gam) (rv:List Qaa) (n:Qah) (l:List Qaa) (l2:List Qaa):Prop:=Qi5 Γ rv ⟨[.c 31],⟨28,[vO 3 0 2 l2 Qaa.enc],[oS 2 144 l2 Qaa.enc]⟩⟩
theorem QoD (Γ:Gam) (rv:List Qaa) {n l} {s:List Qaa × Int} {e:List Qaa} (h:loopF (fun s=>QcL n l s.1 s.2) s = some e) (hD:Qjw Γ rv n l e):QkS Γ rv n l s.1 s.2:=by
 refine QaI (C:=fun (s:List Qaa × Int)=>QkS Γ rv n l s.1 s.2) (D:=fun (e:List Qaa)=>Qjw Γ rv n l e) ?_ h hD
 clear h hD s e
 rintro ⟨l1,i⟩ z_ h hI hE
 replace h:QcL n l l1 i = _:=h
 unfold QcL at h
 rcases Qai h with ⟨h3,h⟩|⟨h3,h⟩
 ·obtain ⟨r1,h4,h⟩:=Qae h
  obtain ⟨h5,h⟩:=Qaw h
  exact gn 11 [1,3,4] [0,2] [nL Qav.enc n.arcs,bT h3,cC (QoE h4),aO Qaa.enc h5] (hI _ (oJ h))
 ·exact gn 5 [3] [1] [nL Qav.enc n.arcs,bF h3] (hE _ (oJ h))
theorem Qjv (Γ:Gam) (rv:List Qaa) {n l} (h:Qfj n l = some rv):Qi5 Γ rv ⟨[.c 15],⟨28,[vP 1 0 2,vO 3 1 2 l Qaa.enc],[oX 2 25 (Qah.enc n),oS 2 144 l Qaa.enc]⟩⟩:=by
 unfold Qfj at h
 obtain ⟨e0,h6,h⟩:=Qae h
 refine gn 5 [1,3,4] [0,1] [] (QoD Γ rv h6 ?_)
 obtain ⟨l2,rfl⟩:∃ x,x = e0:=⟨_,rfl⟩
 replace h:(some l2:Option (List Qaa)) = some _:=h
 obtain rfl:=Option.some.inj h
 exact gr 2 [] [hW 4,hH (.frz 0),rp 3 (eL l2 Qaa.enc)]
theorem Qqm {n} {rv:List Qaa} (h:QgO n = some rv):AFn Tryz.prog 45 [.agg (Qah.enc n)] [] (one (lL 2 rv Qaa.enc)) []:=by
 refine QaS Tryz.func45 (by kernel_rfl) (by kernel_rfl) (fun Γ=>?_)
 unfold QgO at h
 obtain ⟨r,h0,h⟩:=Qae h
 rcases Qai h with ⟨h1,h⟩|⟨h1,h⟩
 ·obtain ⟨h2,h⟩:=Qaw h
  exact gn 9 [1,3] [0,3] [cC (Qgx h0),nL Qav.enc n.arcs,bT h1,oO (Eq.refl ([(Qaa.mk 4 Qpk)].map Qaa.enc).length),aO Qaa.enc h2] (Qjv Γ rv h)
 ·exact gn 9 [1,3] [0,1] [cC (Qgx h0),nL Qav.enc n.arcs,bF h1] (Qjv Γ rv h)
theorem Qaj {n lo hi} {rv:Bool} (h:QaQ n lo hi = some rv):AFn Tryz.prog 85 [.one (lI n),.one (lI lo),.one (lI hi)] [] (one (.bool rv)) []:=by
 refine QaS Tryz.func85 (by kernel_rfl) (by kernel_rfl) (fun Γ=>?_)
 unfold QaQ at h
 obtain rfl:=Option.some.inj h
 exact gr 4 [] [rp 4 hP,rp 2 (oI ((geI n lo) = true)),oR True ((geI n lo) = true)]
theorem QfQ {l} {rv:Int} (h:Qfz l = some rv):AFn Tryz.prog 48 [.one (lL 14 l Qal.enc)] [] (one (lI rv)) []:=by
 refine QaS Tryz.func48 (by kernel_rfl) (by kernel_rfl) (fun Γ=>?_)
 unfold Qfz at h
 rcases Qai h with ⟨h0,h⟩|⟨h0,h⟩
 ·obtain rfl:=Option.some.inj h
  exact gr 8 [] [nL Qal.enc l,bT h0]
 ·obtain ⟨x0,h1,h⟩:=Qae h
  obtain rfl:=Option.some.inj h
  exact gr 9 [] [nL Qal.enc l,bF h0,cE Qal.enc h1,nL e_i64 x0.cap]
def Qm9 (Γ:Gam) (rv:Bool) (cf:Cf):Prop:=Go Tryz.prog Tryz.f131 [] Γ (one (.bool rv)) [] cf
def QkW (Γ:Gam) (rv:Bool) (l:List Qal) (at_:Int) (name:ByteArray) (i:Int):Prop:=Qm9 Γ rv ⟨[.c 52,.l 52,.b 0,.c 7],⟨20,[vL 0 14 l Qal.enc,vI 1 at_,vS 2 name,vI 7 i],[]⟩⟩
def QjA (Γ:Gam) (rv:Bool) (l:List Qal) (at_:Int) (name:ByteArray):Prop:=Qm9 Γ rv ⟨[.c 7],⟨20,[],[]⟩⟩
theorem QoH (Γ:Gam) (rv:Bool) {l at_ name} {s:Int} {e:(Unit) ⊕ (Bool)} (h:loopF (fun s=>Qce l at_ name s) s = some e) (hD:sel e (fun e=>QjA Γ rv l at_ name) (fun e=>e = rv)):QkW Γ rv l at_ name s:=by
 refine QaI (C:=fun (s:Int)=>QkW Γ rv l at_ name s) (D:=fun (e:(Unit) ⊕ (Bool))=>sel e (fun e=>QjA Γ rv l at_ name) (fun e=>e = rv)) ?_ h hD
 clear h hD s e
 intro i z_ h hI hE
 replace h:Qce l at_ name i = _:=h
 unfold Qce at h
 rcases Qai h with ⟨h0,h⟩|⟨h0,h⟩
 ·obtain ⟨x0,h1,h⟩:=Qae h
  rcases Qai h with ⟨h2,h⟩|⟨h2,h⟩
  ·obtain rfl:=(hE _ (oJ h):_ = rv)
   exact gr 12 [] [bT h0,cE Qal.enc h1,bT h2]
  ·exact gn 14 [0,1,2,7] [] [bT h0,cE Qal.enc h1,bF h2] (hI _ (oJ h))
 ·exact gn 5 [] [] [bF h0] (hE _ (oJ h))
theorem Qmk {l at_ name} {rv:Bool} (h:QgQ l at_ name = some rv):AFn Tryz.prog 131 [.one (lL 14 l Qal.enc),.one (lI at_),.one (.str name)] [] (one (.bool rv)) []:=by
 refine QaS Tryz.func131 (by kernel_rfl) (by kernel_rfl) (fun Γ=>?_)
 unfold QgQ at h
 obtain ⟨e0,h3,h⟩:=Qae h
 refine gn 7 [0,1,2,7] [] [] (QoH Γ rv h3 ?_)
 rcases e0 with e0|e0
 ·replace h:(some false:Option Bool) = some _:=h
  obtain rfl:=Option.some.inj h
  exact gr 2 [] []
 ·obtain ⟨r,rfl⟩:∃ x,x = e0:=⟨_,rfl⟩
  replace h:(some r:Option Bool) = some _:=h
  exact Option.some.inj h
def QkV (Γ:Gam) (rv:Bool) (cf:Cf):Prop:=Go Tryz.prog Tryz.f132 [] Γ (one (.bool rv)) [] cf
def Qiw (Γ:Gam) (rv:Bool) (l:List Int) (i:Int):Prop:=QkV Γ rv ⟨[.c 116,.l 116,.b 0,.c 15],⟨28,[vL 0 1 l e_i64,vI 5 i],[]⟩⟩
def Qic (Γ:Gam) (rv:Bool) (l:List Int):Prop:=QkV Γ rv ⟨[.c 15],⟨28,[],[]⟩⟩
theorem Qm8 (Γ:Gam) (rv:Bool) {l} {s:Int} {e:(Unit) ⊕ (Bool)} (h:loopF (fun s=>QbK l s) s = some e) (hD:sel e (fun e=>Qic Γ rv l) (fun e=>e = rv)):Qiw Γ rv l s:=by
 refine QaI (C:=fun (s:Int)=>Qiw Γ rv l s) (D:=fun (e:(Unit) ⊕ (Bool))=>sel e (fun e=>Qic Γ rv l) (fun e=>e = rv)) ?_ h hD
 clear h hD s e
 intro i z_ h hI hE
 replace h:QbK l i = _:=h
 unfold QbK at h
 rcases Qai h with ⟨h2,h⟩|⟨h2,h⟩
 ·obtain ⟨x0,h3,h⟩:=Qae h
  obtain ⟨r1,h4,h⟩:=Qae h
  rcases Qai h with ⟨h5,h⟩|⟨h5,h⟩
  ·exact gn 14 [0,5] [] [nL e_i64 l,bT h2,cE e_i64 h3,cC (Qaj h4),nF h5] (hI _ (oJ h))
  ·obtain rfl:=(hE _ (oJ h):_ = rv)
   exact gr 12 [] [nL e_i64 l,bT h2,cE e_i64 h3,cC (Qaj h4),nT h5]
 ·exact gn 5 [] [] [nL e_i64 l,bF h2] (hE _ (oJ h))
theorem Qfm {l dims} {rv:Bool} (h:QdX l dims = some rv):AFn Tryz.prog 132 [.one (lL 1 l e_i64),.one (lI dims)] [] (one (.bool rv)) []:=by
 refine QaS Tryz.func132 (by kernel_rfl) (by kernel_rfl) (fun Γ=>?_)
 unfold QdX at h
 obtain ⟨r,h0,h⟩:=Qae h
 rcases Qai h with ⟨h1,h⟩|⟨h1,h⟩
 ·obtain rfl:=Option.some.inj h
  exact gr 8 [] [nL e_i64 l,cC (Qaj h0),hP,hP,oI ((!r) = false),nL e_i64 l,hP,hP,hP,rp 2 (oI ((!r) = false)),oR True ((!r) = false),bT h1]
 ·obtain ⟨e0,h6,h⟩:=Qae h
  refine gn 12 [0,5] [] [nL e_i64 l,cC (Qaj h0),hP,hP,oI ((!r) = false),nL e_i64 l,hP,hP,hP,rp 2 (oI ((!r) = false)),oR True ((!r) = false),bF h1] (Qm8 Γ rv h6 ?_)
  rcases e0 with e0|e0
  ·replace h:(some true:Option Bool) = some _:=h
   obtain rfl:=Option.some.inj h
   exact gr 2 [] []
  ·obtain ⟨r2,rfl⟩:∃ x,x = e0:=⟨_,rfl⟩
   replace h:(some r2:Option Bool) = some _:=h
   exact Option.some.inj h
def QbG (Γ:Gam) (rv:List Int) (cf:Cf):Prop:=Go Tryz.prog Tryz.f86 [] Γ (one (lL 1 rv e_i64)) [] cf
theorem QjI (Γ:Gam) (rv:List Int) {x0 l8} (h:Qd5 x0 l8 = some rv):QbG Γ rv ⟨[.c 4095],⟨125,[vP 7 0 14,vO 8 1 1 l8 e_i64],[oX 14 101 (Qal.enc x0),oS 1 38 l8 e_i64]⟩⟩:=by
 unfold Qd5 at h
 obtain ⟨r11,h30,h⟩:=Qae h
 rcases Qai h with ⟨h31,h⟩|⟨h31,h⟩
 ·obtain ⟨r12,h32,h⟩:=Qae h
  rcases Qai h with ⟨h33,h⟩|⟨h33,h⟩
  ·obtain ⟨r13,h34,h⟩:=Qae h
   rcases Qai h with ⟨h35,h⟩|⟨h35,h⟩
   ·obtain ⟨r14,h36,h⟩:=Qae h
    rcases Qai h with ⟨h37,h⟩|⟨h37,h⟩
    ·obtain rfl:=Option.some.inj h
     exact gr 7 [] [cC (Qaj h30),rp 3 (nF h31),cC (Qaj h32),rp 2 (nF h31),rp 3 (nF h33),cC (Qaj h34),rp 2 (nF h33),rp 3 (nF h35),cC (Qaj h36),rp 2 (nF h35),nF h37,hW 5,hH (.frz 1),rp 3 (eL l8 e_i64)]
    ·obtain ⟨h38,h⟩:=Qaw h
     obtain rfl:=Option.some.inj h
     exact gr 7 [] [cC (Qaj h30),rp 3 (nF h31),cC (Qaj h32),rp 2 (nF h31),rp 3 (nF h33),cC (Qaj h34),rp 2 (nF h33),rp 3 (nF h35),cC (Qaj h36),rp 2 (nF h35),nT h37,oO (Eq.refl ([2].map e_i64).length),aO e_i64 h38,hW 5,hH (.frz 3),rp 4 (oO (Eq.refl ((l8 ++ [2]).map e_i64).length))]
   ·obtain ⟨h39,h⟩:=Qaw h
    obtain rfl:=Option.some.inj h
    exact gr 7 [] [cC (Qaj h30),rp 3 (nF h31),cC (Qaj h32),rp 2 (nF h31),rp 3 (nF h33),cC (Qaj h34),rp 2 (nF h33),rp 5 (nT h35),tT,oO (Eq.refl ([2].map e_i64).length),aO e_i64 h39,hW 5,hH (.frz 3),rp 4 (oO (Eq.refl ((l8 ++ [2]).map e_i64).length))]
  ·obtain ⟨h40,h⟩:=Qaw h
   obtain rfl:=Option.some.inj h
   exact gr 7 [] [cC (Qaj h30),rp 3 (nF h31),cC (Qaj h32),rp 2 (nF h31),rp 5 (nT h33),rp 6 tT,oO (Eq.refl ([2].map e_i64).length),aO e_i64 h40,hW 5,hH (.frz 3),rp 4 (oO (Eq.refl ((l8 ++ [2]).map e_i64).length))]
 ·obtain ⟨h41,h⟩:=Qaw h
  obtain rfl:=Option.some.inj h
  exact gr 7 [] [cC (Qaj h30),rp 5 (nT h31),rp 11 tT,oO (Eq.refl ([2].map e_i64).length),aO e_i64 h41,hW 5,hH (.frz 3),rp 4 (oO (Eq.refl ((l8 ++ [2]).map e_i64).length))]
theorem QjH (Γ:Gam) (rv:List Int) {x0 l7} (h:Qd4 x0 l7 = some rv):QbG Γ rv ⟨[.c 2047],⟨125,[vP 7 0 14,vO 8 1 1 l7 e_i64],[oX 14 101 (Qal.enc x0),oS 1 38 l7 e_i64]⟩⟩:=by
 unfold Qd4 at h
 obtain ⟨r9,h25,h⟩:=Qae h
 rcases Qai h with ⟨h26,h⟩|⟨h26,h⟩
 ·obtain ⟨r10,h27,h⟩:=Qae h
  rcases Qai h with ⟨h28,h⟩|⟨h28,h⟩
  ·exact gn 5 [7,8] [0,1] [cC (Qaj h25),rp 3 (nF h26),cC (Qaj h27),rp 2 (nF h26),nF h28] (QjI Γ rv h)
  ·obtain ⟨h29,h⟩:=Qaw h
   exact gn 5 [7,8] [0,3] [cC (Qaj h25),rp 3 (nF h26),cC (Qaj h27),rp 2 (nF h26),nT h28,oO (Eq.refl ([16].map e_i64).length),aO e_i64 h29] (QjI Γ rv h)
 ·obtain ⟨h42,h⟩:=Qaw h
  obtain ⟨r15,h43,h⟩:=Qae h
  rcases Qai h with ⟨h44,h⟩|⟨h44,h⟩
  ·obtain ⟨r16,h45,h⟩:=Qae h
   rcases Qai h with ⟨h46,h⟩|⟨h46,h⟩
   ·obtain ⟨r17,h47,h⟩:=Qae h
    rcases Qai h with ⟨h48,h⟩|⟨h48,h⟩
    ·obtain ⟨r18,h49,h⟩:=Qae h
     rcases Qai h with ⟨h50,h⟩|⟨h50,h⟩
     ·obtain rfl:=Option.some.inj h
      exact gr 12 [] [cC (Qaj h25),rp 5 (nT h26),tT,oO (Eq.refl ([16].map e_i64).length),aO e_i64 h42,cC (Qaj h43),rp 3 (nF h44),cC (Qaj h45),rp 2 (nF h44),rp 3 (nF h46),cC (Qaj h47),rp 2 (nF h46),rp 3 (nF h48),cC (Qaj h49),rp 2 (nF h48),nF h50,hW 5,hH (.frz 3),rp 4 (oO (Eq.refl ((l7 ++ [16]).map e_i64).length))]
     ·obtain ⟨h51,h⟩:=Qaw h
      obtain rfl:=Option.some.inj h
      exact gr 12 [] [cC (Qaj h25),rp 5 (nT h26),tT,oO (Eq.refl ([16].map e_i64).length),aO e_i64 h42,cC (Qaj h43),rp 3 (nF h44),cC (Qaj h45),rp 2 (nF h44),rp 3 (nF h46),cC (Qaj h47),rp 2 (nF h46),rp 3 (nF h48),cC (Qaj h49),rp 2 (nF h48),nT h50,oO (Eq.refl ([2].map e_i64).length),aO e_i64 h51,hW 5,hH (.frz 5),rp 4 (oO (Eq.refl (((l7 ++ [16]) ++ [2]).map e_i64).length))]
    ·obtain ⟨h52,h⟩:=Qaw h
     obtain rfl:=Option.some.inj h
     exact gr 12 [] [cC (Qaj h25),rp 5 (nT h26),tT,oO (Eq.refl ([16].map e_i64).length),aO e_i64 h42,cC (Qaj h43),rp 3 (nF h44),cC (Qaj h45),rp 2 (nF h44),rp 3 (nF h46),cC (Qaj h47),rp 2 (nF h46),rp 5 (nT h48),tT,oO (Eq.refl ([2].map e_i64).length),aO e_i64 h52,hW 5,hH (.frz 5),rp 4 (oO (Eq.refl (((l7 ++ [16]) ++ [2]).map e_i64).length))]
   ·obtain ⟨h53,h⟩:=Qaw h
    obtain rfl:=Option.some.inj h
    exact gr 12 [] [cC (Qaj h25),rp 5 (nT h26),tT,oO (Eq.refl ([16].map e_i64).length),aO e_i64 h42,cC (Qaj h43),rp 3 (nF h44),cC (Qaj h45),rp 2 (nF h44),rp 5 (nT h46),rp 6 tT,oO (Eq.refl ([2].map e_i64).length),aO e_i64 h53,hW 5,hH (.frz 5),rp 4 (oO (Eq.refl (((l7 ++ [16]) ++ [2]).map e_i64).length))]
  ·obtain ⟨h54,h⟩:=Qaw h
   obtain rfl:=Option.some.inj h
   exact gr 12 [] [cC (Qaj h25),rp 5 (nT h26),tT,oO (Eq.refl ([16].map e_i64).length),aO e_i64 h42,cC (Qaj h43),rp 5 (nT h44),rp 11 tT,oO (Eq.refl ([2].map e_i64).length),aO e_i64 h54,hW 5,hH (.frz 5),rp 4 (oO (Eq.refl (((l7 ++ [16]) ++ [2]).map e_i64).length))]
theorem QjG (Γ:Gam) (rv:List Int) {x0 l6} (h:Qd3 x0 l6 = some rv):QbG Γ rv ⟨[.c 1023],⟨125,[vP 7 0 14,vO 8 1 1 l6 e_i64],[oX 14 101 (Qal.enc x0),oS 1 38 l6 e_i64]⟩⟩:=by
 unfold Qd3 at h
 obtain ⟨r8,h22,h⟩:=Qae h
 rcases Qai h with ⟨h23,h⟩|⟨h23,h⟩
 ·obtain ⟨h24,h⟩:=Qaw h
  exact gn 5 [7,8] [0,3] [cC (Qaj h22),rp 4 hP,rp 2 (oI ((!r8) = false)),oR True ((!r8) = false),bT h23,oO (Eq.refl ([15].map e_i64).length),aO e_i64 h24] (QjH Γ rv h)
 ·exact gn 5 [7,8] [0,1] [cC (Qaj h22),rp 4 hP,rp 2 (oI ((!r8) = false)),oR True ((!r8) = false),bF h23] (QjH Γ rv h)
theorem QjF (Γ:Gam) (rv:List Int) {x0 l5} (h:Qd2 x0 l5 = some rv):QbG Γ rv ⟨[.c 511],⟨125,[vP 7 0 14,vO 8 1 1 l5 e_i64],[oX 14 101 (Qal.enc x0),oS 1 38 l5 e_i64]⟩⟩:=by
 unfold Qd2 at h
 obtain ⟨r7,h19,h⟩:=Qae h
 rcases Qai h with ⟨h20,h⟩|⟨h20,h⟩
 ·exact gn 5 [7,8] [0,1] [cC (Qaj h19),nF h20] (QjG Γ rv h)
 ·obtain ⟨h21,h⟩:=Qaw h
  exact gn 5 [7,8] [0,3] [cC (Qaj h19),nT h20,oO (Eq.refl ([18].map e_i64).length),aO e_i64 h21] (QjG Γ rv h)
theorem QjE (Γ:Gam) (rv:List Int) {l x0 l4} (h:Qd1 l x0 l4 = some rv):QbG Γ rv ⟨[.c 255],⟨125,[vL 1 14 l Qal.enc,vP 7 0 14,vO 8 1 1 l4 e_i64],[oX 14 101 (Qal.enc x0),oS 1 38 l4 e_i64]⟩⟩:=by
 unfold Qd1 at h
 obtain ⟨r5,h15,h⟩:=Qae h
 obtain ⟨r6,h16,h⟩:=Qae h
 rcases Qai h with ⟨h17,h⟩|⟨h17,h⟩
 ·exact gn 5 [7,8] [0,1] [hH (.draw 6 []),cC (QfQ h15),cC (Qfm h16),nF h17] (QjF Γ rv h)
 ·obtain ⟨h18,h⟩:=Qaw h
  exact gn 5 [7,8] [0,3] [hH (.draw 6 []),cC (QfQ h15),cC (Qfm h16),nT h17,oO (Eq.refl ([17].map e_i64).length),aO e_i64 h18] (QjF Γ rv h)
theorem QiP (Γ:Gam) (rv:List Int) {x0 l12} (h:Qf5 x0 l12 = some rv):QbG Γ rv ⟨[.c 4095],⟨125,[vP 7 0 14,vO 8 1 1 l12 e_i64],[oX 14 101 (Qal.enc x0),oS 1 38 l12 e_i64]⟩⟩:=by
 unfold Qf5 at h
 obtain ⟨r25,h71,h⟩:=Qae h
 rcases Qai h with ⟨h72,h⟩|⟨h72,h⟩
 ·obtain ⟨r26,h73,h⟩:=Qae h
  rcases Qai h with ⟨h74,h⟩|⟨h74,h⟩
  ·obtain ⟨r27,h75,h⟩:=Qae h
   rcases Qai h with ⟨h76,h⟩|⟨h76,h⟩
   ·obtain ⟨r28,h77,h⟩:=Qae h
    rcases Qai h with ⟨h78,h⟩|⟨h78,h⟩
    ·obtain rfl:=Option.some.inj h
     exact gr 7 [] [cC (Qaj h71),rp 3 (nF h72),cC (Qaj h73),rp 2 (nF h72),rp 3 (nF h74),cC (Qaj h75),rp 2 (nF h74),rp 3 (nF h76),cC (Qaj h77),rp 2 (nF h76),nF h78,hW 5,hH (.frz 1),rp 3 (eL l12 e_i64)]
    ·obtain ⟨h79,h⟩:=Qaw h
     obtain rfl:=Option.some.inj h
     exact gr 7 [] [cC (Qaj h71),rp 3 (nF h72),cC (Qaj h73),rp 2 (nF h72),rp 3 (nF h74),cC (Qaj h75),rp 2 (nF h74),rp 3 (nF h76),cC (Qaj h77),rp 2 (nF h76),nT h78,oO (Eq.refl ([2].map e_i64).length),aO e_i64 h79,hW 5,hH (.frz 3),rp 4 (oO (Eq.refl ((l12 ++ [2]).map e_i64).length))]
   ·obtain ⟨h80,h⟩:=Qaw h
    obtain rfl:=Option.some.inj h
    exact gr 7 [] [cC (Qaj h71),rp 3 (nF h72),cC (Qaj h73),rp 2 (nF h72),rp 3 (nF h74),cC (Qaj h75),rp 2 (nF h74),rp 5 (nT h76),tT,oO (Eq.refl ([2].map e_i64).length),aO e_i64 h80,hW 5,hH (.frz 3),rp 4 (oO (Eq.refl ((l12 ++ [2]).map e_i64).length))]
  ·obtain ⟨h81,h⟩:=Qaw h
   obtain rfl:=Option.some.inj h
   exact gr 7 [] [cC (Qaj h71),rp 3 (nF h72),cC (Qaj h73),rp 2 (nF h72),rp 5 (nT h74),rp 6 tT,oO (Eq.refl ([2].map e_i64).length),aO e_i64 h81,hW 5,hH (.frz 3),rp 4 (oO (Eq.refl ((l12 ++ [2]).map e_i64).length))]
 ·obtain ⟨h82,h⟩:=Qaw h
  obtain rfl:=Option.some.inj h
  exact gr 7 [] [cC (Qaj h71),rp 5 (nT h72),rp 11 tT,oO (Eq.refl ([2].map e_i64).length),aO e_i64 h82,hW 5,hH (.frz 3),rp 4 (oO (Eq.refl ((l12 ++ [2]).map e_i64).length))]
theorem QiO (Γ:Gam) (rv:List Int) {x0 l11} (h:Qf4 x0 l11 = some rv):QbG Γ rv ⟨[.c 2047],⟨125,[vP 7 0 14,vO 8 1 1 l11 e_i64],[oX 14 101 (Qal.enc x0),oS 1 38 l11 e_i64]⟩⟩:=by
 unfold Qf4 at h
 obtain ⟨r23,h66,h⟩:=Qae h
 rcases Qai h with ⟨h67,h⟩|⟨h67,h⟩
 ·obtain ⟨r24,h68,h⟩:=Qae h
  rcases Qai h with ⟨h69,h⟩|⟨h69,h⟩
  ·exact gn 5 [7,8] [0,1] [cC (Qaj h66),rp 3 (nF h67),cC (Qaj h68),rp 2 (nF h67),nF h69] (QiP Γ rv h)
  ·obtain ⟨h70,h⟩:=Qaw h
   exact gn 5 [7,8] [0,3] [cC (Qaj h66),rp 3 (nF h67),cC (Qaj h68),rp 2 (nF h67),nT h69,oO (Eq.refl ([16].map e_i64).length),aO e_i64 h70] (QiP Γ rv h)
 ·obtain ⟨h83,h⟩:=Qaw h
  obtain ⟨r29,h84,h⟩:=Qae h
  rcases Qai h with ⟨h85,h⟩|⟨h85,h⟩
  ·obtain ⟨r30,h86,h⟩:=Qae h
   rcases Qai h with ⟨h87,h⟩|⟨h87,h⟩
   ·obtain ⟨r31,h88,h⟩:=Qae h
    rcases Qai h with ⟨h89,h⟩|⟨h89,h⟩
    ·obtain ⟨r32,h90,h⟩:=Qae h
     rcases Qai h with ⟨h91,h⟩|⟨h91,h⟩
     ·obtain rfl:=Option.some.inj h
      exact gr 12 [] [cC (Qaj h66),rp 5 (nT h67),tT,oO (Eq.refl ([16].map e_i64).length),aO e_i64 h83,cC (Qaj h84),rp 3 (nF h85),cC (Qaj h86),rp 2 (nF h85),rp 3 (nF h87),cC (Qaj h88),rp 2 (nF h87),rp 3 (nF h89),cC (Qaj h90),rp 2 (nF h89),nF h91,hW 5,hH (.frz 3),rp 4 (oO (Eq.refl ((l11 ++ [16]).map e_i64).length))]
     ·obtain ⟨h92,h⟩:=Qaw h
      obtain rfl:=Option.some.inj h
      exact gr 12 [] [cC (Qaj h66),rp 5 (nT h67),tT,oO (Eq.refl ([16].map e_i64).length),aO e_i64 h83,cC (Qaj h84),rp 3 (nF h85),cC (Qaj h86),rp 2 (nF h85),rp 3 (nF h87),cC (Qaj h88),rp 2 (nF h87),rp 3 (nF h89),cC (Qaj h90),rp 2 (nF h89),nT h91,oO (Eq.refl ([2].map e_i64).length),aO e_i64 h92,hW 5,hH (.frz 5),rp 4 (oO (Eq.refl (((l11 ++ [16]) ++ [2]).map e_i64).length))]
    ·obtain ⟨h93,h⟩:=Qaw h
     obtain rfl:=Option.some.inj h
     exact gr 12 [] [cC (Qaj h66),rp 5 (nT h67),tT,oO (Eq.refl ([16].map e_i64).length),aO e_i64 h83,cC (Qaj h84),rp 3 (nF h85),cC (Qaj h86),rp 2 (nF h85),rp 3 (nF h87),cC (Qaj h88),rp 2 (nF h87),rp 5 (nT h89),tT,oO (Eq.refl ([2].map e_i64).length),aO e_i64 h93,hW 5,hH (.frz 5),rp 4 (oO (Eq.refl (((l11 ++ [16]) ++ [2]).map e_i64).length))]
   ·obtain ⟨h94,h⟩:=Qaw h
    obtain rfl:=Option.some.inj h
    exact gr 12 [] [cC (Qaj h66),rp 5 (nT h67),tT,oO (Eq.refl ([16].map e_i64).length),aO e_i64 h83,cC (Qaj h84),rp 3 (nF h85),cC (Qaj h86),rp 2 (nF h85),rp 5 (nT h87),rp 6 tT,oO (Eq.refl ([2].map e_i64).length),aO e_i64 h94,hW 5,hH (.frz 5),rp 4 (oO (Eq.refl (((l11 ++ [16]) ++ [2]).map e_i64).length))]
  ·obtain ⟨h95,h⟩:=Qaw h
   obtain rfl:=Option.some.inj h
   exact gr 12 [] [cC (Qaj h66),rp 5 (nT h67),tT,oO (Eq.refl ([16].map e_i64).length),aO e_i64 h83,cC (Qaj h84),rp 5 (nT h85),rp 11 tT,oO (Eq.refl ([2].map e_i64).length),aO e_i64 h95,hW 5,hH (.frz 5),rp 4 (oO (Eq.refl (((l11 ++ [16]) ++ [2]).map e_i64).length))]
theorem QiN (Γ:Gam) (rv:List Int) {x0 l10} (h:Qf3 x0 l10 = some rv):QbG Γ rv ⟨[.c 1023],⟨125,[vP 7 0 14,vO 8 1 1 l10 e_i64],[oX 14 101 (Qal.enc x0),oS 1 38 l10 e_i64]⟩⟩:=by
 unfold Qf3 at h
 obtain ⟨r22,h63,h⟩:=Qae h
 rcases Qai h with ⟨h64,h⟩|⟨h64,h⟩
 ·obtain ⟨h65,h⟩:=Qaw h
  exact gn 5 [7,8] [0,3] [cC (Qaj h63),rp 4 hP,rp 2 (oI ((!r22) = false)),oR True ((!r22) = false),bT h64,oO (Eq.refl ([15].map e_i64).length),aO e_i64 h65] (QiO Γ rv h)
 ·exact gn 5 [7,8] [0,1] [cC (Qaj h63),rp 4 hP,rp 2 (oI ((!r22) = false)),oR True ((!r22) = false),bF h64] (QiO Γ rv h)
theorem QjJ (Γ:Gam) (rv:List Int) {x0 l9} (h:Qgz x0 l9 = some rv):QbG Γ rv ⟨[.c 511],⟨125,[vP 7 0 14,vO 8 1 1 l9 e_i64],[oX 14 101 (Qal.enc x0),oS 1 38 l9 e_i64]⟩⟩:=by
 unfold Qgz at h
 obtain ⟨r21,h60,h⟩:=Qae h
 rcases Qai h with ⟨h61,h⟩|⟨h61,h⟩
 ·exact gn 5 [7,8] [0,1] [cC (Qaj h60),nF h61] (QiN Γ rv h)
 ·obtain ⟨h62,h⟩:=Qaw h
  exact gn 5 [7,8] [0,3] [cC (Qaj h60),nT h61,oO (Eq.refl ([18].map e_i64).length),aO e_i64 h62] (QiN Γ rv h)
theorem QjD (Γ:Gam) (rv:List Int) {n l x0 l3} (h:Qd0 n l x0 l3 = some rv):QbG Γ rv ⟨[.c 127],⟨125,[vL 1 14 l Qal.enc,vP 3 0 2,vP 7 1 14,vO 8 2 1 l3 e_i64],[oX 2 25 (Qah.enc n),oX 14 101 (Qal.enc x0),oS 1 38 l3 e_i64]⟩⟩:=by
 unfold Qd0 at h
 obtain ⟨r3,h10,h⟩:=Qae h
 rcases Qai h with ⟨h11,h⟩|⟨h11,h⟩
 ·obtain ⟨r4,h12,h⟩:=Qae h
  rcases Qai h with ⟨h13,h⟩|⟨h13,h⟩
  ·exact gn 5 [1,7,8] [1,2] [nL e_str n.places,cC (Qaj h10),rp 5 (nF h11),nL e_str n.places,rp 2 (nF h11),cC (Qaj h12),rp 2 (nF h11),nF h13] (QjE Γ rv h)
  ·obtain ⟨h14,h⟩:=Qaw h
   exact gn 5 [1,7,8] [1,4] [nL e_str n.places,cC (Qaj h10),rp 5 (nF h11),nL e_str n.places,rp 2 (nF h11),cC (Qaj h12),rp 2 (nF h11),nT h13,oO (Eq.refl ([11].map e_i64).length),aO e_i64 h14] (QjE Γ rv h)
 ·obtain ⟨h55,h⟩:=Qaw h
  obtain ⟨r19,h56,h⟩:=Qae h
  obtain ⟨r20,h57,h⟩:=Qae h
  rcases Qai h with ⟨h58,h⟩|⟨h58,h⟩
  ·exact gn 10 [7,8] [1,4] [nL e_str n.places,cC (Qaj h10),rp 9 (nT h11),tT,oO (Eq.refl ([11].map e_i64).length),aO e_i64 h55,hH (.draw 6 []),cC (QfQ h56),cC (Qfm h57),nF h58] (QjJ Γ rv h)
  ·obtain ⟨h59,h⟩:=Qaw h
   exact gn 10 [7,8] [1,6] [nL e_str n.places,cC (Qaj h10),rp 9 (nT h11),tT,oO (Eq.refl ([11].map e_i64).length),aO e_i64 h55,hH (.draw 6 []),cC (QfQ h56),cC (Qfm h57),nT h58,oO (Eq.refl ([17].map e_i64).length),aO e_i64 h59] (QjJ Γ rv h)
theorem QjC (Γ:Gam) (rv:List Int) {n l x0 l2} (h:QdZ n l x0 l2 = some rv):QbG Γ rv ⟨[.c 63],⟨125,[vL 1 14 l Qal.enc,vP 3 0 2,vP 7 1 14,vO 8 2 1 l2 e_i64],[oX 2 25 (Qah.enc n),oX 14 101 (Qal.enc x0),oS 1 38 l2 e_i64]⟩⟩:=by
 unfold QdZ at h
 obtain ⟨r2,h7,h⟩:=Qae h
 rcases Qai h with ⟨h8,h⟩|⟨h8,h⟩
 ·exact gn 5 [1,3,7,8] [0,1,2] [cC (Qaj h7),nF h8] (QjD Γ rv h)
 ·obtain ⟨h9,h⟩:=Qaw h
  exact gn 5 [1,3,7,8] [0,1,4] [cC (Qaj h7),nT h8,oO (Eq.refl ([22].map e_i64).length),aO e_i64 h9] (QjD Γ rv h)
theorem QjB (Γ:Gam) (rv:List Int) {n l at_ x0 l1} (h:QdY n l at_ x0 l1 = some rv):QbG Γ rv ⟨[.c 31],⟨125,[vL 1 14 l Qal.enc,vI 2 at_,vP 3 0 2,vP 7 1 14,vO 8 2 1 l1 e_i64],[oX 2 25 (Qah.enc n),oX 14 101 (Qal.enc x0),oS 1 38 l1 e_i64]⟩⟩:=by
 unfold QdY at h
 obtain ⟨r1,h4,h⟩:=Qae h
 rcases Qai h with ⟨h5,h⟩|⟨h5,h⟩
 ·obtain ⟨h6,h⟩:=Qaw h
  exact gn 5 [1,3,7,8] [0,1,4] [cC (Qmk h4),bT h5,oO (Eq.refl ([6].map e_i64).length),aO e_i64 h6] (QjC Γ rv h)
 ·exact gn 5 [1,3,7,8] [0,1,2] [cC (Qmk h4),bF h5] (QjC Γ rv h)
theorem Qqo {n l at_} {rv:List Int} (h:QgR n l at_ = some rv):AFn Tryz.prog 86 [.agg (Qah.enc n),.one (lL 14 l Qal.enc),.one (lI at_)] [] (one (lL 1 rv e_i64)) []:=by
 refine QaS Tryz.func86 (by kernel_rfl) (by kernel_rfl) (fun Γ=>?_)
 unfold QgR at h
 obtain ⟨x0,h0,h⟩:=Qae h
 obtain ⟨r,h1,h⟩:=Qae h
 rcases Qai h with ⟨h2,h⟩|⟨h2,h⟩
 ·exact gn 11 [1,2,3,7,8] [0,1,2] [cE Qal.enc h0,cC (QeH h1),nF h2,hW 1,hH (.adopt 8 1 38)] (QjB Γ rv h)
 ·obtain ⟨h3,h⟩:=Qaw h
  exact gn 11 [1,2,3,7,8] [0,1,3] [cE Qal.enc h0,cC (QeH h1),nT h2,oO (Eq.refl ([5].map e_i64).length),aN (l:=([5]:List Int)) e_i64 h3] (QjB Γ rv h)
def QfP (Γ:Gam) (rv:List Qaa) (cf:Cf):Prop:=Go Tryz.prog Tryz.f46 [] Γ (one (lL 2 rv Qaa.enc)) [] cf
def QkU (Γ:Gam) (rv:List Qaa) (n:Qah) (l:List Qal) (i:Int) (r1:List Int) (l3:List Qaa) (k:Int):Prop:=QfP Γ rv ⟨[.c 31308,.l 31308,.b 2,.b 1,.c 979,.l 244,.b 0,.c 31],⟨44,[vL 1 14 l Qal.enc,vP 2 0 2,vO 5 1 2 l3 Qaa.enc,vI 6 i,vL 7 1 r1 e_i64,vI 8 k],[oX 2 25 (Qah.enc n),oS 2 144 l3 Qaa.enc]⟩⟩
def Qjz (Γ:Gam) (rv:List Qaa) (n:Qah) (l:List Qal) (i:Int) (r1:List Int) (l4:List Qaa):Prop:=QfP Γ rv ⟨[.b 1,.c 979,.l 244,.b 0,.c 31],⟨44,[vL 1 14 l Qal.enc,vP 2 0 2,vO 5 1 2 l4 Qaa.enc,vI 6 i],[oX 2 25 (Qah.enc n),oS 2 144 l4 Qaa.enc]⟩⟩
def QkT (Γ:Gam) (rv:List Qaa) (n:Qah) (l:List Qal) (l2:List Qaa) (i:Int):Prop:=QfP Γ rv ⟨[.c 244,.l 244,.b 0,.c 31],⟨44,[vL 1 14 l Qal.enc,vP 2 0 2,vO 5 1 2 l2 Qaa.enc,vI 6 i],[oX 2 25 (Qah.enc n),oS 2 144 l2 Qaa.enc]⟩⟩
def Qjy (Γ:Gam) (rv:List Qaa) (n:Qah) (l:List Qal) (l5:List Qaa):Prop:=QfP Γ rv ⟨[.c 31],⟨44,[vO 5 0 2 l5 Qaa.enc],[oS 2 144 l5 Qaa.enc]⟩⟩
theorem QoG (Γ:Gam) (rv:List Qaa) {n l i r1} {s:List Qaa × Int} {e:List Qaa} (h:loopF (fun s=>Qgy n l i r1 s.1 s.2) s = some e) (hD:Qjz Γ rv n l i r1 e):QkU Γ rv n l i r1 s.1 s.2:=by
 refine QaI (C:=fun (s:List Qaa × Int)=>QkU Γ rv n l i r1 s.1 s.2) (D:=fun (e:List Qaa)=>Qjz Γ rv n l i r1 e) ?_ h hD
 clear h hD s e
 rintro ⟨l3,k⟩ z_ h hI hE
 replace h:Qgy n l i r1 l3 k = _:=h
 unfold Qgy at h
 rcases Qai h with ⟨h5,h⟩|⟨h5,h⟩
 ·obtain ⟨x0,h6,h⟩:=Qae h
  obtain ⟨r2,h7,h⟩:=Qae h
  obtain ⟨h8,h⟩:=Qaw h
  exact gn 11 [1,2,5,6,7,8] [0,3] [nL e_i64 r1,bT h5,hH (.draw 9 []),cE e_i64 h6,cC (QbQ h7),oO (Eq.refl ([(Qaa.mk x0 r2)].map Qaa.enc).length),aO Qaa.enc h8] (hI _ (oJ h))
 ·exact gn 5 [1,2,5,6] [0,1] [nL e_i64 r1,bF h5] (hE _ (oJ h))
theorem QoF (Γ:Gam) (rv:List Qaa) {n l} {s:List Qaa × Int} {e:List Qaa} (h:loopF (fun s=>QcM n l s.1 s.2) s = some e) (hD:Qjy Γ rv n l e):QkT Γ rv n l s.1 s.2:=by
 refine QaI (C:=fun (s:List Qaa × Int)=>QkT Γ rv n l s.1 s.2) (D:=fun (e:List Qaa)=>Qjy Γ rv n l e) ?_ h hD
 clear h hD s e
 rintro ⟨l2,i⟩ z_ h hI hE
 replace h:QcM n l l2 i = _:=h
 unfold QcM at h
 rcases Qai h with ⟨h3,h⟩|⟨h3,h⟩
 ·obtain ⟨r1,h4,h⟩:=Qae h
  obtain ⟨e0,h9,h⟩:=Qae h
  refine gn 13 [1,2,5,6,7,8] [0,1] [nL Qal.enc l,bT h3,cC (Qqo h4)] (QoG Γ rv h9 ?_)
  obtain ⟨l4,rfl⟩:∃ x,x = e0:=⟨_,rfl⟩
  replace h:(some (.inl (l4,(addK .i64 i 1))):Option ((List Qaa × Int) ⊕ (List Qaa))) = some _:=h
  exact gn 3 [1,2,5,6] [0,1] [] (hI _ (oJ h))
 ·exact gn 5 [5] [1] [nL Qal.enc l,bF h3] (hE _ (oJ h))
theorem Qjx (Γ:Gam) (rv:List Qaa) {n l l1} (h:Qfl n l l1 = some rv):QfP Γ rv ⟨[.c 15],⟨44,[vL 1 14 l Qal.enc,vP 2 0 2,vO 5 1 2 l1 Qaa.enc],[oX 2 25 (Qah.enc n),oS 2 144 l1 Qaa.enc]⟩⟩:=by
 unfold Qfl at h
 obtain ⟨e1,h10,h⟩:=Qae h
 refine gn 5 [1,2,5,6] [0,1] [] (QoF Γ rv h10 ?_)
 obtain ⟨l5,rfl⟩:∃ x,x = e1:=⟨_,rfl⟩
 replace h:(some l5:Option (List Qaa)) = some _:=h
 obtain rfl:=Option.some.inj h
 exact gr 2 [] [hW 4,hH (.frz 0),rp 3 (eL l5 Qaa.enc)]
theorem Qqn {n l} {rv:List Qaa} (h:QgP n l = some rv):AFn Tryz.prog 46 [.agg (Qah.enc n),.one (lL 14 l Qal.enc)] [] (one (lL 2 rv Qaa.enc)) []:=by
 refine QaS Tryz.func46 (by kernel_rfl) (by kernel_rfl) (fun Γ=>?_)
 unfold QgP at h
 obtain ⟨r,h0,h⟩:=Qae h
 rcases Qai h with ⟨h1,h⟩|⟨h1,h⟩
 ·exact gn 9 [1,2,5] [0,1] [nL Qal.enc l,cC (Qaj h0),nF h1,hW 1,hH (.adopt 5 2 144)] (Qjx Γ rv h)
 ·obtain ⟨h2,h⟩:=Qaw h
  exact gn 9 [1,2,5] [0,2] [nL Qal.enc l,cC (Qaj h0),nT h1,oO (Eq.refl ([(Qaa.mk 4 ByteArray.empty)].map Qaa.enc).length),aN (l:=([(Qaa.mk 4 ByteArray.empty)]:List Qaa)) Qaa.enc h2] (Qjx Γ rv h)
def Qm4 (Γ:Gam) (rv:Bool) (cf:Cf):Prop:=Go Tryz.prog Tryz.f133 [] Γ (one (.bool rv)) [] cf
def QkR (Γ:Gam) (rv:Bool) (a:List Int) (i:Int):Prop:=Qm4 Γ rv ⟨[.c 116,.l 116,.b 0,.c 15],⟨28,[vL 0 1 a e_i64,vI 5 i],[]⟩⟩
def Qjs (Γ:Gam) (rv:Bool) (a:List Int):Prop:=Qm4 Γ rv ⟨[.c 15],⟨28,[],[]⟩⟩
theorem QoB (Γ:Gam) (rv:Bool) {a} {s:Int} {e:(Unit) ⊕ (Bool)} (h:loopF (fun s=>Qcc a s) s = some e) (hD:sel e (fun e=>Qjs Γ rv a) (fun e=>e = rv)):QkR Γ rv a s:=by
 refine QaI (C:=fun (s:Int)=>QkR Γ rv a s) (D:=fun (e:(Unit) ⊕ (Bool))=>sel e (fun e=>Qjs Γ rv a) (fun e=>e = rv)) ?_ h hD
 clear h hD s e
 intro i z_ h hI hE
 replace h:Qcc a i = _:=h
 unfold Qcc at h
 rcases Qai h with ⟨h1,h⟩|⟨h1,h⟩
 ·obtain ⟨x0,h2,h⟩:=Qae h
  rcases Qai h with ⟨h3,h⟩|⟨h3,h⟩
  ·obtain rfl:=(hE _ (oJ h):_ = rv)
   exact gr 12 [] [nL e_i64 a,bT h1,cE e_i64 h2,rp 6 (bT h3),tT]
  ·rcases Qai h with ⟨h4,h⟩|⟨h4,h⟩
   ·obtain rfl:=(hE _ (oJ h):_ = rv)
    exact gr 12 [] [nL e_i64 a,bT h1,cE e_i64 h2,rp 3 (bF h3),cE e_i64 h2,rp 3 (bF h3),bT h4]
   ·exact gn 14 [0,5] [] [nL e_i64 a,bT h1,cE e_i64 h2,rp 3 (bF h3),cE e_i64 h2,rp 3 (bF h3),bF h4] (hI _ (oJ h))
 ·exact gn 5 [] [] [nL e_i64 a,bF h1] (hE _ (oJ h))
theorem Qmi {a dims} {rv:Bool} (h:QeR a dims = some rv):AFn Tryz.prog 133 [.one (lL 1 a e_i64),.one (lI dims)] [] (one (.bool rv)) []:=by
 refine QaS Tryz.func133 (by kernel_rfl) (by kernel_rfl) (fun Γ=>?_)
 unfold QeR at h
 rcases Qai h with ⟨h0,h⟩|⟨h0,h⟩
 ·obtain rfl:=Option.some.inj h
  exact gr 8 [] [nL e_i64 a,bT h0]
 ·obtain ⟨e0,h5,h⟩:=Qae h
  refine gn 12 [0,5] [] [nL e_i64 a,bF h0] (QoB Γ rv h5 ?_)
  rcases e0 with e0|e0
  ·replace h:(some true:Option Bool) = some _:=h
   obtain rfl:=Option.some.inj h
   exact gr 2 [] []
  ·obtain ⟨r,rfl⟩:∃ x,x = e0:=⟨_,rfl⟩
   replace h:(some r:Option Bool) = some _:=h
   exact Option.some.inj h
theorem QaE {n low high} {rv:Bool} (h:QbZ n low high = some rv):AFn Tryz.prog 134 [.one (lI n),.one (lI low),.one (lI high)] [] (one (.bool rv)) []:=by
 refine QaS Tryz.func134 (by kernel_rfl) (by kernel_rfl) (fun Γ=>?_)
 unfold QbZ at h
 obtain rfl:=Option.some.inj h
 exact gr 4 [] [rp 4 hP,rp 2 (oI ((geI n low) = true)),oR True ((geI n low) = true)]
theorem Qbv {s0} {rv:Int} (h:QdR s0 = some rv):AFn Tryz.prog 135 [.agg (Qat.enc s0)] [] (one (lI rv)) []:=by
 refine QaS Tryz.func135 (by kernel_rfl) (by kernel_rfl) (fun Γ=>?_)
 unfold QdR at h
 rcases Qai h with ⟨h0,h⟩|⟨h0,h⟩
 ·obtain rfl:=Option.some.inj h
  exact gr 8 [] [rp 12 hP,rp 2 (oI ((eqI s0.place (-1)) = true)),oR True ((eqI s0.place (-1)) = true),rp 2 (oI (((eqI s0.place (-1)) && (eqI s0.open_ 0)) = true)),oR True (((eqI s0.place (-1)) && (eqI s0.open_ 0)) = true),rp 2 (oI ((((eqI s0.place (-1)) && (eqI s0.open_ 0)) && (eqI s0.close 0)) = true)),oR True ((((eqI s0.place (-1)) && (eqI s0.open_ 0)) && (eqI s0.close 0)) = true),bT h0]
 ·rcases Qai h with ⟨h1,h⟩|⟨h1,h⟩
  ·obtain rfl:=Option.some.inj h
   exact gr 13 [] [rp 12 hP,rp 2 (oI ((eqI s0.place (-1)) = true)),oR True ((eqI s0.place (-1)) = true),rp 2 (oI (((eqI s0.place (-1)) && (eqI s0.open_ 0)) = true)),oR True (((eqI s0.place (-1)) && (eqI s0.open_ 0)) = true),rp 2 (oI ((((eqI s0.place (-1)) && (eqI s0.open_ 0)) && (eqI s0.close 0)) = true)),oR True ((((eqI s0.place (-1)) && (eqI s0.open_ 0)) && (eqI s0.close 0)) = true),bF h0,rp 22 hP,rp 2 (oI ((ltI s0.place 0) = false)),oR True ((ltI s0.place 0) = false),rp 4 (oI (((ltI s0.place 0) || (ltI s0.open_ 0)) = false)),oR True (((ltI s0.place 0) || (ltI s0.open_ 0)) = false),rp 2 (oI ((((ltI s0.place 0) || (ltI s0.open_ 0)) || (gtI s0.open_ s0.close)) = false)),oR True ((((ltI s0.place 0) || (ltI s0.open_ 0)) || (gtI s0.open_ s0.close)) = false),rp 2 (oI (((((ltI s0.place 0) || (ltI s0.open_ 0)) || (gtI s0.open_ s0.close)) || (gtI s0.close 4096)) = false)),oR True (((((ltI s0.place 0) || (ltI s0.open_ 0)) || (gtI s0.open_ s0.close)) || (gtI s0.close 4096)) = false),rp 2 (oI ((((((ltI s0.place 0) || (ltI s0.open_ 0)) || (gtI s0.open_ s0.close)) || (gtI s0.close 4096)) || (ltI s0.service 0)) = false)),oR True ((((((ltI s0.place 0) || (ltI s0.open_ 0)) || (gtI s0.open_ s0.close)) || (gtI s0.close 4096)) || (ltI s0.service 0)) = false),bT h1]
  ·obtain rfl:=Option.some.inj h
   exact gr 14 [] [rp 12 hP,rp 2 (oI ((eqI s0.place (-1)) = true)),oR True ((eqI s0.place (-1)) = true),rp 2 (oI (((eqI s0.place (-1)) && (eqI s0.open_ 0)) = true)),oR True (((eqI s0.place (-1)) && (eqI s0.open_ 0)) = true),rp 2 (oI ((((eqI s0.place (-1)) && (eqI s0.open_ 0)) && (eqI s0.close 0)) = true)),oR True ((((eqI s0.place (-1)) && (eqI s0.open_ 0)) && (eqI s0.close 0)) = true),bF h0,rp 22 hP,rp 2 (oI ((ltI s0.place 0) = false)),oR True ((ltI s0.place 0) = false),rp 4 (oI (((ltI s0.place 0) || (ltI s0.open_ 0)) = false)),oR True (((ltI s0.place 0) || (ltI s0.open_ 0)) = false),rp 2 (oI ((((ltI s0.place 0) || (ltI s0.open_ 0)) || (gtI s0.open_ s0.close)) = false)),oR True ((((ltI s0.place 0) || (ltI s0.open_ 0)) || (gtI s0.open_ s0.close)) = false),rp 2 (oI (((((ltI s0.place 0) || (ltI s0.open_ 0)) || (gtI s0.open_ s0.close)) || (gtI s0.close 4096)) = false)),oR True (((((ltI s0.place 0) || (ltI s0.open_ 0)) || (gtI s0.open_ s0.close)) || (gtI s0.close 4096)) = false),rp 2 (oI ((((((ltI s0.place 0) || (ltI s0.open_ 0)) || (gtI s0.open_ s0.close)) || (gtI s0.close 4096)) || (ltI s0.service 0)) = false)),oR True ((((((ltI s0.place 0) || (ltI s0.open_ 0)) || (gtI s0.open_ s0.close)) || (gtI s0.close 4096)) || (ltI s0.service 0)) = false),bF h1]
def Qbt (Γ:Gam) (rv:List Int) (cf:Cf):Prop:=Go Tryz.prog Tryz.f88 [] Γ (one (lL 1 rv e_i64)) [] cf
def QkZ (Γ:Gam) (rv:List Int) (places:Int) (dims:Int) (types:Int) (l:List Qak) (at_:Int) (x0:Qak) (l1:List Int) (i:Int):Prop:=Qbt Γ rv ⟨[.c 500,.l 500,.b 0,.c 63],⟨156,[vI 0 places,vI 1 dims,vI 2 types,vL 3 16 l Qak.enc,vI 4 at_,vO 11 0 1 l1 e_i64,vP 12 1 16,vI 13 i],[oS 1 38 l1 e_i64,oX 16 105 (Qak.enc x0)]⟩⟩
def QjW (Γ:Gam) (rv:List Int) (places:Int) (dims:Int) (types:Int) (l:List Qak) (at_:Int) (x0:Qak) (l1:List Int) (l2:List Int):Prop:=Qbt Γ rv ⟨[.c 63],⟨156,[vI 0 places,vI 1 dims,vI 2 types,vO 11 0 1 l2 e_i64,vP 12 1 16],[oS 1 38 l2 e_i64,oX 16 105 (Qak.enc x0)]⟩⟩
theorem QoK (Γ:Gam) (rv:List Int) {places dims types l at_ x0 l1} {s:Int} {e:List Int} (h:loopF (fun s=>Qcf places dims types l at_ x0 l1 s) s = some e) (hD:QjW Γ rv places dims types l at_ x0 l1 e):QkZ Γ rv places dims types l at_ x0 l1 s:=by
 refine QaI (C:=fun (s:Int)=>QkZ Γ rv places dims types l at_ x0 l1 s) (D:=fun (e:List Int)=>QjW Γ rv places dims types l at_ x0 l1 e) ?_ h hD
 clear h hD s e
 intro i z_ h hI hE
 replace h:Qcf places dims types l at_ x0 l1 i = _:=h
 unfold Qcf at h
 rcases Qai h with ⟨h4,h⟩|⟨h4,h⟩
 ·obtain ⟨x1,h5,h⟩:=Qae h
  rcases Qai h with ⟨h6,h⟩|⟨h6,h⟩
  ·obtain ⟨h7,h⟩:=Qaw h
   exact gn 13 [0,1,2,11,12] [3,1] [bT h4,hH (.draw 8 []),cE Qak.enc h5,bT h6,oO (Eq.refl ([6].map e_i64).length),aO e_i64 h7] (hE _ (oJ h))
  ·exact gn 14 [0,1,2,3,4,11,12,13] [0,1] [bT h4,hH (.draw 8 []),cE Qak.enc h5,bF h6] (hI _ (oJ h))
 ·exact gn 5 [0,1,2,11,12] [0,1] [bF h4] (hE _ (oJ h))
theorem QjR (Γ:Gam) (rv:List Int) {types x0 l6} (h:Qd9 types x0 l6 = some rv):Qbt Γ rv ⟨[.c 2047],⟨156,[vI 2 types,vO 11 0 1 l6 e_i64,vP 12 1 16],[oS 1 38 l6 e_i64,oX 16 105 (Qak.enc x0)]⟩⟩:=by
 unfold Qd9 at h
 obtain ⟨r6,h25,h⟩:=Qae h
 rcases Qai h with ⟨h26,h⟩|⟨h26,h⟩
 ·obtain ⟨r7,h27,h⟩:=Qae h
  rcases Qai h with ⟨h28,h⟩|⟨h28,h⟩
  ·obtain ⟨h29,h⟩:=Qaw h
   obtain rfl:=Option.some.inj h
   exact gr 9 [] [rp 5 hP,rp 3 (oI ((neI x0.pick.place (-1)) = true)),oR True ((neI x0.pick.place (-1)) = true),cC (QaE h25),rp 3 (nF h26),cC (QaE h27),rp 2 (nF h26),rp 26 hP,rp 4 (oI ((!r7) = false)),oI (((!r7) = false)∧(gtI x0.split 1) = true),oR True ((!r7) = false),rp 2 (oI (((!r7) || ((gtI x0.split 1) && ((neI x0.pick.place (-1)) && (neI x0.drop.place (-1))))) = false)),oR True (((!r7) || ((gtI x0.split 1) && ((neI x0.pick.place (-1)) && (neI x0.drop.place (-1))))) = false),rp 3 (oI ((((!r7) || ((gtI x0.split 1) && ((neI x0.pick.place (-1)) && (neI x0.drop.place (-1))))) || (ltI x0.last_ (-1))) = false)),oR True ((((!r7) || ((gtI x0.split 1) && ((neI x0.pick.place (-1)) && (neI x0.drop.place (-1))))) || (ltI x0.last_ (-1))) = false),rp 2 (oI (((((!r7) || ((gtI x0.split 1) && ((neI x0.pick.place (-1)) && (neI x0.drop.place (-1))))) || (ltI x0.last_ (-1))) || (geI x0.last_ types)) = false)),oR True (((((!r7) || ((gtI x0.split 1) && ((neI x0.pick.place (-1)) && (neI x0.drop.place (-1))))) || (ltI x0.last_ (-1))) || (geI x0.last_ types)) = false),rp 3 (oI ((((((!r7) || ((gtI x0.split 1) && ((neI x0.pick.place (-1)) && (neI x0.drop.place (-1))))) || (ltI x0.last_ (-1))) || (geI x0.last_ types)) || (ltI x0.now (-1))) = false)),oR True ((((((!r7) || ((gtI x0.split 1) && ((neI x0.pick.place (-1)) && (neI x0.drop.place (-1))))) || (ltI x0.last_ (-1))) || (geI x0.last_ types)) || (ltI x0.now (-1))) = false),bT h28,oO (Eq.refl ([2].map e_i64).length),aO e_i64 h29,hW 5,hH (.frz 3),rp 4 (oO (Eq.refl ((l6 ++ [2]).map e_i64).length))]
  ·obtain rfl:=Option.some.inj h
   exact gr 9 [] [rp 5 hP,rp 3 (oI ((neI x0.pick.place (-1)) = true)),oR True ((neI x0.pick.place (-1)) = true),cC (QaE h25),rp 3 (nF h26),cC (QaE h27),rp 2 (nF h26),rp 26 hP,rp 4 (oI ((!r7) = false)),oI (((!r7) = false)∧(gtI x0.split 1) = true),oR True ((!r7) = false),rp 2 (oI (((!r7) || ((gtI x0.split 1) && ((neI x0.pick.place (-1)) && (neI x0.drop.place (-1))))) = false)),oR True (((!r7) || ((gtI x0.split 1) && ((neI x0.pick.place (-1)) && (neI x0.drop.place (-1))))) = false),rp 3 (oI ((((!r7) || ((gtI x0.split 1) && ((neI x0.pick.place (-1)) && (neI x0.drop.place (-1))))) || (ltI x0.last_ (-1))) = false)),oR True ((((!r7) || ((gtI x0.split 1) && ((neI x0.pick.place (-1)) && (neI x0.drop.place (-1))))) || (ltI x0.last_ (-1))) = false),rp 2 (oI (((((!r7) || ((gtI x0.split 1) && ((neI x0.pick.place (-1)) && (neI x0.drop.place (-1))))) || (ltI x0.last_ (-1))) || (geI x0.last_ types)) = false)),oR True (((((!r7) || ((gtI x0.split 1) && ((neI x0.pick.place (-1)) && (neI x0.drop.place (-1))))) || (ltI x0.last_ (-1))) || (geI x0.last_ types)) = false),rp 3 (oI ((((((!r7) || ((gtI x0.split 1) && ((neI x0.pick.place (-1)) && (neI x0.drop.place (-1))))) || (ltI x0.last_ (-1))) || (geI x0.last_ types)) || (ltI x0.now (-1))) = false)),oR True ((((((!r7) || ((gtI x0.split 1) && ((neI x0.pick.place (-1)) && (neI x0.drop.place (-1))))) || (ltI x0.last_ (-1))) || (geI x0.last_ types)) || (ltI x0.now (-1))) = false),bF h28,hW 5,hH (.frz 0),rp 3 (eL l6 e_i64)]
 ·obtain ⟨h30,h⟩:=Qaw h
  obtain rfl:=Option.some.inj h
  exact gr 9 [] [rp 5 hP,rp 3 (oI ((neI x0.pick.place (-1)) = true)),oR True ((neI x0.pick.place (-1)) = true),cC (QaE h25),rp 5 (nT h26),rp 4 tT,kF,rp 21 tT,oO (Eq.refl ([2].map e_i64).length),aO e_i64 h30,hW 5,hH (.frz 3),rp 4 (oO (Eq.refl ((l6 ++ [2]).map e_i64).length))]
theorem QjT (Γ:Gam) (rv:List Int) {types x0 l8} (h:QgB types x0 l8 = some rv):Qbt Γ rv ⟨[.c 2047],⟨156,[vI 2 types,vO 11 0 1 l8 e_i64,vP 12 1 16],[oS 1 38 l8 e_i64,oX 16 105 (Qak.enc x0)]⟩⟩:=by
 unfold QgB at h
 obtain ⟨r10,h37,h⟩:=Qae h
 rcases Qai h with ⟨h38,h⟩|⟨h38,h⟩
 ·obtain ⟨r11,h39,h⟩:=Qae h
  rcases Qai h with ⟨h40,h⟩|⟨h40,h⟩
  ·obtain ⟨h41,h⟩:=Qaw h
   obtain rfl:=Option.some.inj h
   exact gr 9 [] [rp 5 hP,rp 3 (oI ((neI x0.pick.place (-1)) = true)),oR True ((neI x0.pick.place (-1)) = true),cC (QaE h37),rp 3 (nF h38),cC (QaE h39),rp 2 (nF h38),rp 26 hP,rp 4 (oI ((!r11) = false)),oI (((!r11) = false)∧(gtI x0.split 1) = true),oR True ((!r11) = false),rp 2 (oI (((!r11) || ((gtI x0.split 1) && ((neI x0.pick.place (-1)) && (neI x0.drop.place (-1))))) = false)),oR True (((!r11) || ((gtI x0.split 1) && ((neI x0.pick.place (-1)) && (neI x0.drop.place (-1))))) = false),rp 3 (oI ((((!r11) || ((gtI x0.split 1) && ((neI x0.pick.place (-1)) && (neI x0.drop.place (-1))))) || (ltI x0.last_ (-1))) = false)),oR True ((((!r11) || ((gtI x0.split 1) && ((neI x0.pick.place (-1)) && (neI x0.drop.place (-1))))) || (ltI x0.last_ (-1))) = false),rp 2 (oI (((((!r11) || ((gtI x0.split 1) && ((neI x0.pick.place (-1)) && (neI x0.drop.place (-1))))) || (ltI x0.last_ (-1))) || (geI x0.last_ types)) = false)),oR True (((((!r11) || ((gtI x0.split 1) && ((neI x0.pick.place (-1)) && (neI x0.drop.place (-1))))) || (ltI x0.last_ (-1))) || (geI x0.last_ types)) = false),rp 3 (oI ((((((!r11) || ((gtI x0.split 1) && ((neI x0.pick.place (-1)) && (neI x0.drop.place (-1))))) || (ltI x0.last_ (-1))) || (geI x0.last_ types)) || (ltI x0.now (-1))) = false)),oR True ((((((!r11) || ((gtI x0.split 1) && ((neI x0.pick.place (-1)) && (neI x0.drop.place (-1))))) || (ltI x0.last_ (-1))) || (geI x0.last_ types)) || (ltI x0.now (-1))) = false),bT h40,oO (Eq.refl ([2].map e_i64).length),aO e_i64 h41,hW 5,hH (.frz 3),rp 4 (oO (Eq.refl ((l8 ++ [2]).map e_i64).length))]
  ·obtain rfl:=Option.some.inj h
   exact gr 9 [] [rp 5 hP,rp 3 (oI ((neI x0.pick.place (-1)) = true)),oR True ((neI x0.pick.place (-1)) = true),cC (QaE h37),rp 3 (nF h38),cC (QaE h39),rp 2 (nF h38),rp 26 hP,rp 4 (oI ((!r11) = false)),oI (((!r11) = false)∧(gtI x0.split 1) = true),oR True ((!r11) = false),rp 2 (oI (((!r11) || ((gtI x0.split 1) && ((neI x0.pick.place (-1)) && (neI x0.drop.place (-1))))) = false)),oR True (((!r11) || ((gtI x0.split 1) && ((neI x0.pick.place (-1)) && (neI x0.drop.place (-1))))) = false),rp 3 (oI ((((!r11) || ((gtI x0.split 1) && ((neI x0.pick.place (-1)) && (neI x0.drop.place (-1))))) || (ltI x0.last_ (-1))) = false)),oR True ((((!r11) || ((gtI x0.split 1) && ((neI x0.pick.place (-1)) && (neI x0.drop.place (-1))))) || (ltI x0.last_ (-1))) = false),rp 2 (oI (((((!r11) || ((gtI x0.split 1) && ((neI x0.pick.place (-1)) && (neI x0.drop.place (-1))))) || (ltI x0.last_ (-1))) || (geI x0.last_ types)) = false)),oR True (((((!r11) || ((gtI x0.split 1) && ((neI x0.pick.place (-1)) && (neI x0.drop.place (-1))))) || (ltI x0.last_ (-1))) || (geI x0.last_ types)) = false),rp 3 (oI ((((((!r11) || ((gtI x0.split 1) && ((neI x0.pick.place (-1)) && (neI x0.drop.place (-1))))) || (ltI x0.last_ (-1))) || (geI x0.last_ types)) || (ltI x0.now (-1))) = false)),oR True ((((((!r11) || ((gtI x0.split 1) && ((neI x0.pick.place (-1)) && (neI x0.drop.place (-1))))) || (ltI x0.last_ (-1))) || (geI x0.last_ types)) || (ltI x0.now (-1))) = false),bF h40,hW 5,hH (.frz 0),rp 3 (eL l8 e_i64)]
 ·obtain ⟨h42,h⟩:=Qaw h
  obtain rfl:=Option.some.inj h
  exact gr 9 [] [rp 5 hP,rp 3 (oI ((neI x0.pick.place (-1)) = true)),oR True ((neI x0.pick.place (-1)) = true),cC (QaE h37),rp 5 (nT h38),rp 4 tT,kF,rp 21 tT,oO (Eq.refl ([2].map e_i64).length),aO e_i64 h42,hW 5,hH (.frz 3),rp 4 (oO (Eq.refl ((l8 ++ [2]).map e_i64).length))]
theorem QjS (Γ:Gam) (rv:List Int) {types x0 l7} (h:Qea types x0 l7 = some rv):Qbt Γ rv ⟨[.c 1023],⟨156,[vI 2 types,vO 11 0 1 l7 e_i64,vP 12 1 16],[oS 1 38 l7 e_i64,oX 16 105 (Qak.enc x0)]⟩⟩:=by
 unfold Qea at h
 obtain ⟨r9,h34,h⟩:=Qae h
 rcases Qai h with ⟨h35,h⟩|⟨h35,h⟩
 ·exact gn 5 [2,11,12] [0,1] [cC (QaE h34),nF h35] (QjT Γ rv h)
 ·obtain ⟨h36,h⟩:=Qaw h
  exact gn 5 [2,11,12] [3,1] [cC (QaE h34),nT h35,oO (Eq.refl ([18].map e_i64).length),aO e_i64 h36] (QjT Γ rv h)
theorem QjQ (Γ:Gam) (rv:List Int) {types x0 l5} (h:Qd8 types x0 l5 = some rv):Qbt Γ rv ⟨[.c 511],⟨156,[vI 2 types,vO 11 0 1 l5 e_i64,vP 12 1 16],[oS 1 38 l5 e_i64,oX 16 105 (Qak.enc x0)]⟩⟩:=by
 unfold Qd8 at h
 obtain ⟨r4,h19,h⟩:=Qae h
 rcases Qai h with ⟨h20,h⟩|⟨h20,h⟩
 ·obtain ⟨h21,h⟩:=Qaw h
  obtain ⟨r5,h22,h⟩:=Qae h
  rcases Qai h with ⟨h23,h⟩|⟨h23,h⟩
  ·exact gn 10 [2,11,12] [3,1] [cC (Qbv h19),rp 5 (bT h20),tT,oO (Eq.refl ([14].map e_i64).length),aO e_i64 h21,cC (QaE h22),nF h23] (QjR Γ rv h)
  ·obtain ⟨h24,h⟩:=Qaw h
   exact gn 10 [2,11,12] [5,1] [cC (Qbv h19),rp 5 (bT h20),tT,oO (Eq.refl ([14].map e_i64).length),aO e_i64 h21,cC (QaE h22),nT h23,oO (Eq.refl ([18].map e_i64).length),aO e_i64 h24] (QjR Γ rv h)
 ·obtain ⟨r8,h31,h⟩:=Qae h
  rcases Qai h with ⟨h32,h⟩|⟨h32,h⟩
  ·obtain ⟨h33,h⟩:=Qaw h
   exact gn 5 [2,11,12] [3,1] [cC (Qbv h19),rp 3 (bF h20),cC (Qbv h31),rp 2 (bF h20),bT h32,oO (Eq.refl ([14].map e_i64).length),aO e_i64 h33] (QjS Γ rv h)
  ·exact gn 5 [2,11,12] [0,1] [cC (Qbv h19),rp 3 (bF h20),cC (Qbv h31),rp 2 (bF h20),bF h32] (QjS Γ rv h)
theorem QjP (Γ:Gam) (rv:List Int) {types x0 l4} (h:Qd7 types x0 l4 = some rv):Qbt Γ rv ⟨[.c 255],⟨156,[vI 2 types,vO 11 0 1 l4 e_i64,vP 12 1 16],[oS 1 38 l4 e_i64,oX 16 105 (Qak.enc x0)]⟩⟩:=by
 unfold Qd7 at h
 rcases Qai h with ⟨h17,h⟩|⟨h17,h⟩
 ·obtain ⟨h18,h⟩:=Qaw h
  exact gn 5 [2,11,12] [3,1] [rp 5 hP,rp 3 (oI ((eqI x0.pick.place (-1)) = true)),oR True ((eqI x0.pick.place (-1)) = true),bT h17,oO (Eq.refl ([19].map e_i64).length),aO e_i64 h18] (QjQ Γ rv h)
 ·exact gn 5 [2,11,12] [0,1] [rp 5 hP,rp 3 (oI ((eqI x0.pick.place (-1)) = true)),oR True ((eqI x0.pick.place (-1)) = true),bF h17] (QjQ Γ rv h)
theorem QjV (Γ:Gam) (rv:List Int) {types x0 l10} (h:QgD types x0 l10 = some rv):Qbt Γ rv ⟨[.c 2047],⟨156,[vI 2 types,vO 11 0 1 l10 e_i64,vP 12 1 16],[oS 1 38 l10 e_i64,oX 16 105 (Qak.enc x0)]⟩⟩:=by
 unfold QgD at h
 obtain ⟨r14,h52,h⟩:=Qae h
 rcases Qai h with ⟨h53,h⟩|⟨h53,h⟩
 ·obtain ⟨r15,h54,h⟩:=Qae h
  rcases Qai h with ⟨h55,h⟩|⟨h55,h⟩
  ·obtain ⟨h56,h⟩:=Qaw h
   obtain rfl:=Option.some.inj h
   exact gr 9 [] [rp 5 hP,rp 3 (oI ((neI x0.pick.place (-1)) = true)),oR True ((neI x0.pick.place (-1)) = true),cC (QaE h52),rp 3 (nF h53),cC (QaE h54),rp 2 (nF h53),rp 26 hP,rp 4 (oI ((!r15) = false)),oI (((!r15) = false)∧(gtI x0.split 1) = true),oR True ((!r15) = false),rp 2 (oI (((!r15) || ((gtI x0.split 1) && ((neI x0.pick.place (-1)) && (neI x0.drop.place (-1))))) = false)),oR True (((!r15) || ((gtI x0.split 1) && ((neI x0.pick.place (-1)) && (neI x0.drop.place (-1))))) = false),rp 3 (oI ((((!r15) || ((gtI x0.split 1) && ((neI x0.pick.place (-1)) && (neI x0.drop.place (-1))))) || (ltI x0.last_ (-1))) = false)),oR True ((((!r15) || ((gtI x0.split 1) && ((neI x0.pick.place (-1)) && (neI x0.drop.place (-1))))) || (ltI x0.last_ (-1))) = false),rp 2 (oI (((((!r15) || ((gtI x0.split 1) && ((neI x0.pick.place (-1)) && (neI x0.drop.place (-1))))) || (ltI x0.last_ (-1))) || (geI x0.last_ types)) = false)),oR True (((((!r15) || ((gtI x0.split 1) && ((neI x0.pick.place (-1)) && (neI x0.drop.place (-1))))) || (ltI x0.last_ (-1))) || (geI x0.last_ types)) = false),rp 3 (oI ((((((!r15) || ((gtI x0.split 1) && ((neI x0.pick.place (-1)) && (neI x0.drop.place (-1))))) || (ltI x0.last_ (-1))) || (geI x0.last_ types)) || (ltI x0.now (-1))) = false)),oR True ((((((!r15) || ((gtI x0.split 1) && ((neI x0.pick.place (-1)) && (neI x0.drop.place (-1))))) || (ltI x0.last_ (-1))) || (geI x0.last_ types)) || (ltI x0.now (-1))) = false),bT h55,oO (Eq.refl ([2].map e_i64).length),aO e_i64 h56,hW 5,hH (.frz 3),rp 4 (oO (Eq.refl ((l10 ++ [2]).map e_i64).length))]
  ·obtain rfl:=Option.some.inj h
   exact gr 9 [] [rp 5 hP,rp 3 (oI ((neI x0.pick.place (-1)) = true)),oR True ((neI x0.pick.place (-1)) = true),cC (QaE h52),rp 3 (nF h53),cC (QaE h54),rp 2 (nF h53),rp 26 hP,rp 4 (oI ((!r15) = false)),oI (((!r15) = false)∧(gtI x0.split 1) = true),oR True ((!r15) = false),rp 2 (oI (((!r15) || ((gtI x0.split 1) && ((neI x0.pick.place (-1)) && (neI x0.drop.place (-1))))) = false)),oR True (((!r15) || ((gtI x0.split 1) && ((neI x0.pick.place (-1)) && (neI x0.drop.place (-1))))) = false),rp 3 (oI ((((!r15) || ((gtI x0.split 1) && ((neI x0.pick.place (-1)) && (neI x0.drop.place (-1))))) || (ltI x0.last_ (-1))) = false)),oR True ((((!r15) || ((gtI x0.split 1) && ((neI x0.pick.place (-1)) && (neI x0.drop.place (-1))))) || (ltI x0.last_ (-1))) = false),rp 2 (oI (((((!r15) || ((gtI x0.split 1) && ((neI x0.pick.place (-1)) && (neI x0.drop.place (-1))))) || (ltI x0.last_ (-1))) || (geI x0.last_ types)) = false)),oR True (((((!r15) || ((gtI x0.split 1) && ((neI x0.pick.place (-1)) && (neI x0.drop.place (-1))))) || (ltI x0.last_ (-1))) || (geI x0.last_ types)) = false),rp 3 (oI ((((((!r15) || ((gtI x0.split 1) && ((neI x0.pick.place (-1)) && (neI x0.drop.place (-1))))) || (ltI x0.last_ (-1))) || (geI x0.last_ types)) || (ltI x0.now (-1))) = false)),oR True ((((((!r15) || ((gtI x0.split 1) && ((neI x0.pick.place (-1)) && (neI x0.drop.place (-1))))) || (ltI x0.last_ (-1))) || (geI x0.last_ types)) || (ltI x0.now (-1))) = false),bF h55,hW 5,hH (.frz 0),rp 3 (eL l10 e_i64)]
 ·obtain ⟨h57,h⟩:=Qaw h
  obtain rfl:=Option.some.inj h
  exact gr 9 [] [rp 5 hP,rp 3 (oI ((neI x0.pick.place (-1)) = true)),oR True ((neI x0.pick.place (-1)) = true),cC (QaE h52),rp 5 (nT h53),rp 4 tT,kF,rp 21 tT,oO (Eq.refl ([2].map e_i64).length),aO e_i64 h57,hW 5,hH (.frz 3),rp 4 (oO (Eq.refl ((l10 ++ [2]).map e_i64).length))]
theorem QiR (Γ:Gam) (rv:List Int) {types x0 l12} (h:Qf7 types x0 l12 = some rv):Qbt Γ rv ⟨[.c 2047],⟨156,[vI 2 types,vO 11 0 1 l12 e_i64,vP 12 1 16],[oS 1 38 l12 e_i64,oX 16 105 (Qak.enc x0)]⟩⟩:=by
 unfold Qf7 at h
 obtain ⟨r18,h64,h⟩:=Qae h
 rcases Qai h with ⟨h65,h⟩|⟨h65,h⟩
 ·obtain ⟨r19,h66,h⟩:=Qae h
  rcases Qai h with ⟨h67,h⟩|⟨h67,h⟩
  ·obtain ⟨h68,h⟩:=Qaw h
   obtain rfl:=Option.some.inj h
   exact gr 9 [] [rp 5 hP,rp 3 (oI ((neI x0.pick.place (-1)) = true)),oR True ((neI x0.pick.place (-1)) = true),cC (QaE h64),rp 3 (nF h65),cC (QaE h66),rp 2 (nF h65),rp 26 hP,rp 4 (oI ((!r19) = false)),oI (((!r19) = false)∧(gtI x0.split 1) = true),oR True ((!r19) = false),rp 2 (oI (((!r19) || ((gtI x0.split 1) && ((neI x0.pick.place (-1)) && (neI x0.drop.place (-1))))) = false)),oR True (((!r19) || ((gtI x0.split 1) && ((neI x0.pick.place (-1)) && (neI x0.drop.place (-1))))) = false),rp 3 (oI ((((!r19) || ((gtI x0.split 1) && ((neI x0.pick.place (-1)) && (neI x0.drop.place (-1))))) || (ltI x0.last_ (-1))) = false)),oR True ((((!r19) || ((gtI x0.split 1) && ((neI x0.pick.place (-1)) && (neI x0.drop.place (-1))))) || (ltI x0.last_ (-1))) = false),rp 2 (oI (((((!r19) || ((gtI x0.split 1) && ((neI x0.pick.place (-1)) && (neI x0.drop.place (-1))))) || (ltI x0.last_ (-1))) || (geI x0.last_ types)) = false)),oR True (((((!r19) || ((gtI x0.split 1) && ((neI x0.pick.place (-1)) && (neI x0.drop.place (-1))))) || (ltI x0.last_ (-1))) || (geI x0.last_ types)) = false),rp 3 (oI ((((((!r19) || ((gtI x0.split 1) && ((neI x0.pick.place (-1)) && (neI x0.drop.place (-1))))) || (ltI x0.last_ (-1))) || (geI x0.last_ types)) || (ltI x0.now (-1))) = false)),oR True ((((((!r19) || ((gtI x0.split 1) && ((neI x0.pick.place (-1)) && (neI x0.drop.place (-1))))) || (ltI x0.last_ (-1))) || (geI x0.last_ types)) || (ltI x0.now (-1))) = false),bT h67,oO (Eq.refl ([2].map e_i64).length),aO e_i64 h68,hW 5,hH (.frz 3),rp 4 (oO (Eq.refl ((l12 ++ [2]).map e_i64).length))]
  ·obtain rfl:=Option.some.inj h
   exact gr 9 [] [rp 5 hP,rp 3 (oI ((neI x0.pick.place (-1)) = true)),oR True ((neI x0.pick.place (-1)) = true),cC (QaE h64),rp 3 (nF h65),cC (QaE h66),rp 2 (nF h65),rp 26 hP,rp 4 (oI ((!r19) = false)),oI (((!r19) = false)∧(gtI x0.split 1) = true),oR True ((!r19) = false),rp 2 (oI (((!r19) || ((gtI x0.split 1) && ((neI x0.pick.place (-1)) && (neI x0.drop.place (-1))))) = false)),oR True (((!r19) || ((gtI x0.split 1) && ((neI x0.pick.place (-1)) && (neI x0.drop.place (-1))))) = false),rp 3 (oI ((((!r19) || ((gtI x0.split 1) && ((neI x0.pick.place (-1)) && (neI x0.drop.place (-1))))) || (ltI x0.last_ (-1))) = false)),oR True ((((!r19) || ((gtI x0.split 1) && ((neI x0.pick.place (-1)) && (neI x0.drop.place (-1))))) || (ltI x0.last_ (-1))) = false),rp 2 (oI (((((!r19) || ((gtI x0.split 1) && ((neI x0.pick.place (-1)) && (neI x0.drop.place (-1))))) || (ltI x0.last_ (-1))) || (geI x0.last_ types)) = false)),oR True (((((!r19) || ((gtI x0.split 1) && ((neI x0.pick.place (-1)) && (neI x0.drop.place (-1))))) || (ltI x0.last_ (-1))) || (geI x0.last_ types)) = false),rp 3 (oI ((((((!r19) || ((gtI x0.split 1) && ((neI x0.pick.place (-1)) && (neI x0.drop.place (-1))))) || (ltI x0.last_ (-1))) || (geI x0.last_ types)) || (ltI x0.now (-1))) = false)),oR True ((((((!r19) || ((gtI x0.split 1) && ((neI x0.pick.place (-1)) && (neI x0.drop.place (-1))))) || (ltI x0.last_ (-1))) || (geI x0.last_ types)) || (ltI x0.now (-1))) = false),bF h67,hW 5,hH (.frz 0),rp 3 (eL l12 e_i64)]
 ·obtain ⟨h69,h⟩:=Qaw h
  obtain rfl:=Option.some.inj h
  exact gr 9 [] [rp 5 hP,rp 3 (oI ((neI x0.pick.place (-1)) = true)),oR True ((neI x0.pick.place (-1)) = true),cC (QaE h64),rp 5 (nT h65),rp 4 tT,kF,rp 21 tT,oO (Eq.refl ([2].map e_i64).length),aO e_i64 h69,hW 5,hH (.frz 3),rp 4 (oO (Eq.refl ((l12 ++ [2]).map e_i64).length))]
theorem QiQ (Γ:Gam) (rv:List Int) {types x0 l11} (h:Qf6 types x0 l11 = some rv):Qbt Γ rv ⟨[.c 1023],⟨156,[vI 2 types,vO 11 0 1 l11 e_i64,vP 12 1 16],[oS 1 38 l11 e_i64,oX 16 105 (Qak.enc x0)]⟩⟩:=by
 unfold Qf6 at h
 obtain ⟨r17,h61,h⟩:=Qae h
 rcases Qai h with ⟨h62,h⟩|⟨h62,h⟩
 ·exact gn 5 [2,11,12] [0,1] [cC (QaE h61),nF h62] (QiR Γ rv h)
 ·obtain ⟨h63,h⟩:=Qaw h
  exact gn 5 [2,11,12] [3,1] [cC (QaE h61),nT h62,oO (Eq.refl ([18].map e_i64).length),aO e_i64 h63] (QiR Γ rv h)
theorem QjU (Γ:Gam) (rv:List Int) {types x0 l9} (h:QgC types x0 l9 = some rv):Qbt Γ rv ⟨[.c 511],⟨156,[vI 2 types,vO 11 0 1 l9 e_i64,vP 12 1 16],[oS 1 38 l9 e_i64,oX 16 105 (Qak.enc x0)]⟩⟩:=by
 unfold QgC at h
 obtain ⟨r12,h46,h⟩:=Qae h
 rcases Qai h with ⟨h47,h⟩|⟨h47,h⟩
 ·obtain ⟨h48,h⟩:=Qaw h
  obtain ⟨r13,h49,h⟩:=Qae h
  rcases Qai h with ⟨h50,h⟩|⟨h50,h⟩
  ·exact gn 10 [2,11,12] [3,1] [cC (Qbv h46),rp 5 (bT h47),tT,oO (Eq.refl ([14].map e_i64).length),aO e_i64 h48,cC (QaE h49),nF h50] (QjV Γ rv h)
  ·obtain ⟨h51,h⟩:=Qaw h
   exact gn 10 [2,11,12] [5,1] [cC (Qbv h46),rp 5 (bT h47),tT,oO (Eq.refl ([14].map e_i64).length),aO e_i64 h48,cC (QaE h49),nT h50,oO (Eq.refl ([18].map e_i64).length),aO e_i64 h51] (QjV Γ rv h)
 ·obtain ⟨r16,h58,h⟩:=Qae h
  rcases Qai h with ⟨h59,h⟩|⟨h59,h⟩
  ·obtain ⟨h60,h⟩:=Qaw h
   exact gn 5 [2,11,12] [3,1] [cC (Qbv h46),rp 3 (bF h47),cC (Qbv h58),rp 2 (bF h47),bT h59,oO (Eq.refl ([14].map e_i64).length),aO e_i64 h60] (QiQ Γ rv h)
  ·exact gn 5 [2,11,12] [0,1] [cC (Qbv h46),rp 3 (bF h47),cC (Qbv h58),rp 2 (bF h47),bF h59] (QiQ Γ rv h)
theorem QjO (Γ:Gam) (rv:List Int) {places types x0 l3} (h:QbS places types x0 l3 = some rv):Qbt Γ rv ⟨[.c 127],⟨156,[vI 0 places,vI 2 types,vO 11 0 1 l3 e_i64,vP 12 1 16],[oS 1 38 l3 e_i64,oX 16 105 (Qak.enc x0)]⟩⟩:=by
 unfold QbS at h
 obtain ⟨r2,h12,h⟩:=Qae h
 rcases Qai h with ⟨h13,h⟩|⟨h13,h⟩
 ·obtain ⟨r3,h14,h⟩:=Qae h
  rcases Qai h with ⟨h15,h⟩|⟨h15,h⟩
  ·exact gn 5 [2,11,12] [0,1] [cC (QaE h12),rp 6 (nF h13),cC (QaE h14),rp 2 (nF h13),nF h15] (QjP Γ rv h)
  ·obtain ⟨h16,h⟩:=Qaw h
   exact gn 5 [2,11,12] [3,1] [cC (QaE h12),rp 6 (nF h13),cC (QaE h14),rp 2 (nF h13),nT h15,oO (Eq.refl ([11].map e_i64).length),aO e_i64 h16] (QjP Γ rv h)
 ·obtain ⟨h43,h⟩:=Qaw h
  rcases Qai h with ⟨h44,h⟩|⟨h44,h⟩
  ·obtain ⟨h45,h⟩:=Qaw h
   exact gn 10 [2,11,12] [5,1] [cC (QaE h12),rp 8 (nT h13),tT,oO (Eq.refl ([11].map e_i64).length),aO e_i64 h43,rp 5 hP,rp 3 (oI ((eqI x0.pick.place (-1)) = true)),oR True ((eqI x0.pick.place (-1)) = true),bT h44,oO (Eq.refl ([19].map e_i64).length),aO e_i64 h45] (QjU Γ rv h)
  ·exact gn 10 [2,11,12] [3,1] [cC (QaE h12),rp 8 (nT h13),tT,oO (Eq.refl ([11].map e_i64).length),aO e_i64 h43,rp 5 hP,rp 3 (oI ((eqI x0.pick.place (-1)) = true)),oR True ((eqI x0.pick.place (-1)) = true),bF h44] (QjU Γ rv h)
theorem QjN (Γ:Gam) (rv:List Int) {places dims types l at_ x0 l1} (h:Qd6 places dims types l at_ x0 l1 = some rv):Qbt Γ rv ⟨[.c 31],⟨156,[vI 0 places,vI 1 dims,vI 2 types,vL 3 16 l Qak.enc,vI 4 at_,vO 11 0 1 l1 e_i64,vP 12 1 16],[oS 1 38 l1 e_i64,oX 16 105 (Qak.enc x0)]⟩⟩:=by
 unfold Qd6 at h
 obtain ⟨e0,h8,h⟩:=Qae h
 refine gn 5 [0,1,2,3,4,11,12,13] [0,1] [] (QoK Γ rv h8 ?_)
 obtain ⟨l2,rfl⟩:∃ x,x = e0:=⟨_,rfl⟩
 replace h:(bnd (QeR x0.load dims) fun r1=>br r1 (QbS places types x0 l2) (chk (okN (l2 ++ [17]).length 8) (QbS places types x0 (l2 ++ [17]))):Option (List Int)) = some _:=h
 obtain ⟨r1,h9,h⟩:=Qae h
 rcases Qai h with ⟨h10,h⟩|⟨h10,h⟩
 ·exact gn 5 [0,2,11,12] [0,1] [cC (Qmi h9),nF h10] (QjO Γ rv h)
 ·obtain ⟨h11,h⟩:=Qaw h
  exact gn 5 [0,2,11,12] [3,1] [cC (Qmi h9),nT h10,oO (Eq.refl ([17].map e_i64).length),aO e_i64 h11] (QjO Γ rv h)
theorem Qqq {places dims types l at_} {rv:List Int} (h:QgT places dims types l at_ = some rv):AFn Tryz.prog 88 [.one (lI places),.one (lI dims),.one (lI types),.one (lL 16 l Qak.enc),.one (lI at_)] [] (one (lL 1 rv e_i64)) []:=by
 refine QaS Tryz.func88 (by kernel_rfl) (by kernel_rfl) (fun Γ=>?_)
 unfold QgT at h
 obtain ⟨x0,h0,h⟩:=Qae h
 obtain ⟨r,h1,h⟩:=Qae h
 rcases Qai h with ⟨h2,h⟩|⟨h2,h⟩
 ·exact gn 11 [0,1,2,3,4,11,12] [1,0] [cE Qak.enc h0,cC (QeH h1),nF h2,hW 1,hH (.adopt 11 1 38)] (QjN Γ rv h)
 ·obtain ⟨h3,h⟩:=Qaw h
  exact gn 11 [0,1,2,3,4,11,12] [2,0] [cE Qak.enc h0,cC (QeH h1),nT h2,oO (Eq.refl ([5].map e_i64).length),aN (l:=([5]:List Int)) e_i64 h3] (QjN Γ rv h)
def QfR (Γ:Gam) (rv:List Qaa) (cf:Cf):Prop:=Go Tryz.prog Tryz.f47 [] Γ (one (lL 2 rv Qaa.enc)) [] cf
def QkY (Γ:Gam) (rv:List Qaa) (n:Qah) (dims:Int) (types:Int) (l:List Qak) (i:Int) (r:List Int) (l3:List Qaa) (k:Int):Prop:=QfR Γ rv ⟨[.c 31308,.l 31308,.b 2,.b 1,.c 979,.l 244,.b 0,.c 31],⟨51,[vI 1 dims,vI 2 types,vL 3 16 l Qak.enc,vP 4 0 2,vO 9 1 2 l3 Qaa.enc,vI 10 i,vL 11 1 r e_i64,vI 12 k],[oX 2 25 (Qah.enc n),oS 2 144 l3 Qaa.enc]⟩⟩
def QjM (Γ:Gam) (rv:List Qaa) (n:Qah) (dims:Int) (types:Int) (l:List Qak) (i:Int) (r:List Int) (l4:List Qaa):Prop:=QfR Γ rv ⟨[.b 1,.c 979,.l 244,.b 0,.c 31],⟨51,[vI 1 dims,vI 2 types,vL 3 16 l Qak.enc,vP 4 0 2,vO 9 1 2 l4 Qaa.enc,vI 10 i],[oX 2 25 (Qah.enc n),oS 2 144 l4 Qaa.enc]⟩⟩
def QkX (Γ:Gam) (rv:List Qaa) (n:Qah) (dims:Int) (types:Int) (l:List Qak) (l2:List Qaa) (i:Int):Prop:=QfR Γ rv ⟨[.c 244,.l 244,.b 0,.c 31],⟨51,[vI 1 dims,vI 2 types,vL 3 16 l Qak.enc,vP 4 0 2,vO 9 1 2 l2 Qaa.enc,vI 10 i],[oX 2 25 (Qah.enc n),oS 2 144 l2 Qaa.enc]⟩⟩
def QjL (Γ:Gam) (rv:List Qaa) (n:Qah) (dims:Int) (types:Int) (l:List Qak) (l5:List Qaa):Prop:=QfR Γ rv ⟨[.c 31],⟨51,[vO 9 0 2 l5 Qaa.enc],[oS 2 144 l5 Qaa.enc]⟩⟩
theorem QoJ (Γ:Gam) (rv:List Qaa) {n dims types l i r} {s:List Qaa × Int} {e:List Qaa} (h:loopF (fun s=>QgA n dims types l i r s.1 s.2) s = some e) (hD:QjM Γ rv n dims types l i r e):QkY Γ rv n dims types l i r s.1 s.2:=by
 refine QaI (C:=fun (s:List Qaa × Int)=>QkY Γ rv n dims types l i r s.1 s.2) (D:=fun (e:List Qaa)=>QjM Γ rv n dims types l i r e) ?_ h hD
 clear h hD s e
 rintro ⟨l3,k⟩ z_ h hI hE
 replace h:QgA n dims types l i r l3 k = _:=h
 unfold QgA at h
 rcases Qai h with ⟨h4,h⟩|⟨h4,h⟩
 ·obtain ⟨x0,h5,h⟩:=Qae h
  obtain ⟨r1,h6,h⟩:=Qae h
  obtain ⟨h7,h⟩:=Qaw h
  exact gn 11 [1,2,3,4,9,10,11,12] [0,3] [nL e_i64 r,bT h4,hH (.draw 9 []),cE e_i64 h5,cC (QbQ h6),oO (Eq.refl ([(Qaa.mk x0 r1)].map Qaa.enc).length),aO Qaa.enc h7] (hI _ (oJ h))
 ·exact gn 5 [1,2,3,4,9,10] [0,1] [nL e_i64 r,bF h4] (hE _ (oJ h))
theorem QoI (Γ:Gam) (rv:List Qaa) {n dims types l} {s:List Qaa × Int} {e:List Qaa} (h:loopF (fun s=>QcN n dims types l s.1 s.2) s = some e) (hD:QjL Γ rv n dims types l e):QkX Γ rv n dims types l s.1 s.2:=by
 refine QaI (C:=fun (s:List Qaa × Int)=>QkX Γ rv n dims types l s.1 s.2) (D:=fun (e:List Qaa)=>QjL Γ rv n dims types l e) ?_ h hD
 clear h hD s e
 rintro ⟨l2,i⟩ z_ h hI hE
 replace h:QcN n dims types l l2 i = _:=h
 unfold QcN at h
 rcases Qai h with ⟨h2,h⟩|⟨h2,h⟩
 ·obtain ⟨r,h3,h⟩:=Qae h
  obtain ⟨e0,h8,h⟩:=Qae h
  refine gn 13 [1,2,3,4,9,10,11,12] [0,1] [nL Qak.enc l,bT h2,nL e_str n.places,cC (Qqq h3)] (QoJ Γ rv h8 ?_)
  obtain ⟨l4,rfl⟩:∃ x,x = e0:=⟨_,rfl⟩
  replace h:(some (.inl (l4,(addK .i64 i 1))):Option ((List Qaa × Int) ⊕ (List Qaa))) = some _:=h
  exact gn 3 [1,2,3,4,9,10] [0,1] [] (hI _ (oJ h))
 ·exact gn 5 [9] [1] [nL Qak.enc l,bF h2] (hE _ (oJ h))
theorem QjK (Γ:Gam) (rv:List Qaa) {n dims types l l1} (h:Qfn n dims types l l1 = some rv):QfR Γ rv ⟨[.c 15],⟨51,[vI 1 dims,vI 2 types,vL 3 16 l Qak.enc,vP 4 0 2,vO 9 1 2 l1 Qaa.enc],[oX 2 25 (Qah.enc n),oS 2 144 l1 Qaa.enc]⟩⟩:=by
 unfold Qfn at h
 obtain ⟨e1,h9,h⟩:=Qae h
 refine gn 5 [1,2,3,4,9,10] [0,1] [] (QoI Γ rv h9 ?_)
 obtain ⟨l5,rfl⟩:∃ x,x = e1:=⟨_,rfl⟩
 replace h:(some l5:Option (List Qaa)) = some _:=h
 obtain rfl:=Option.some.inj h
 exact gr 2 [] [hW 4,hH (.frz 0),rp 3 (eL l5 Qaa.enc)]
theorem Qqp {n dims types l} {rv:List Qaa} (h:QgS n dims types l = some rv):AFn Tryz.prog 47 [.agg (Qah.enc n),.one (lI dims),.one (lI types),.one (lL 16 l Qak.enc)] [] (one (lL 2 rv Qaa.enc)) []:=by
 refine QaS Tryz.func47 (by kernel_rfl) (by kernel_rfl) (fun Γ=>?_)
 unfold QgS at h
 rcases Qai h with ⟨h0,h⟩|⟨h0,h⟩
 ·obtain ⟨h1,h⟩:=Qaw h
  exact gn 9 [1,2,3,4,9] [0,2] [nL Qak.enc l,bT h0,oO (Eq.refl ([(Qaa.mk 4 ByteArray.empty)].map Qaa.enc).length),aN (l:=([(Qaa.mk 4 ByteArray.empty)]:List Qaa)) Qaa.enc h1] (QjK Γ rv h)
 ·exact gn 9 [1,2,3,4,9] [0,1] [nL Qak.enc l,bF h0,hW 1,hH (.adopt 9 2 144)] (QjK Γ rv h)
def QlE (Γ:Gam) (rv:ByteArray) (cf:Cf):Prop:=Go Tryz.prog Tryz.f136 [] Γ (one (.str rv)) [] cf
def QiS (Γ:Gam) (rv:ByteArray) (n1:Int) (s0:ByteArray):Prop:=QlE Γ rv ⟨[.c 56,.l 56,.b 0,.c 15],⟨23,[vI 0 n1,vS 3 s0],[]⟩⟩
def Qix (Γ:Gam) (rv:ByteArray) (n2:Int) (s1:ByteArray):Prop:=QlE Γ rv ⟨[.c 15],⟨23,[vI 0 n2,vS 3 s1],[]⟩⟩
theorem Qny (Γ:Gam) (rv:ByteArray) {s:Int × ByteArray} {e:Int × ByteArray} (h:loopF (fun s=>Qdo s.1 s.2) s = some e) (hD:Qix Γ rv e.1 e.2):QiS Γ rv s.1 s.2:=by
 refine QaI (C:=fun (s:Int × ByteArray)=>QiS Γ rv s.1 s.2) (D:=fun (e:Int × ByteArray)=>Qix Γ rv e.1 e.2) ?_ h hD
 clear h hD s e
 rintro ⟨n1,s0⟩ z_ h hI hE
 replace h:Qdo n1 s0 = _:=h
 unfold Qdo at h
 rcases Qai h with ⟨h0,h⟩|⟨h0,h⟩
 ·obtain ⟨h1,h⟩:=Qaw h
  exact gn 11 [0,3] [] [bT h0,hH (.ints [(cvK .u8 (addK .i64 48 (remK n1 10)))]),oO (oA (n:=10)),oO (Eq.refl ([(cvK .u8 (addK .i64 48 (remK n1 10)))].map e_u8).length),oO (Eq.refl (([(cvK .u8 (addK .i64 48 (remK n1 10)))].map e_u8):List (List Lf))),oO (h1),oO (oA (n:=10))] (hI _ (oJ h))
 ·exact gn 5 [0,3] [] [bF h0] (hE _ (oJ h))
theorem QfH {n} {rv:ByteArray} (h:QeK n = some rv):AFn Tryz.prog 136 [.one (lI n)] [] (one (.str rv)) []:=by
 refine QaS Tryz.func136 (by kernel_rfl) (by kernel_rfl) (fun Γ=>?_)
 unfold QeK at h
 obtain ⟨e0,h2,h⟩:=Qae h
 refine gn 7 [0,3] [] [] (Qny Γ rv h2 ?_)
 obtain ⟨n2,s1⟩:=e0
 replace h:(chk ((QpR [(cvK .u8 (addK .i64 48 n2))]).size + s1.size ≤ 9223372036854775807) (some (catS (QpR [(cvK .u8 (addK .i64 48 n2))]) s1)):Option ByteArray) = some _:=h
 obtain ⟨h3,h⟩:=Qaw h
 obtain rfl:=Option.some.inj h
 exact gr 2 [] [hH (.ints [(cvK .u8 (addK .i64 48 n2))]),oO (Eq.refl ([(cvK .u8 (addK .i64 48 n2))].map e_u8).length),oO (Eq.refl (([(cvK .u8 (addK .i64 48 n2))].map e_u8):List (List Lf))),oO (h3)]
def Qfo (Γ:Gam) (rv:List Qaa) (cf:Cf):Prop:=Go Tryz.prog Tryz.f89 [] Γ (one (lL 2 rv Qaa.enc)) [] cf
def QjY (Γ:Gam) (rv:List Qaa) (orders:Int) (l:List QaW) (word:ByteArray) (turned:Bool) (l2:List Qaa) (i:Int) (x0:QaW) (r:ByteArray) (twice:Bool) (k:Int):Prop:=Qfo Γ rv ⟨[.c 1001972,.l 1001972,.b 2,.c 125247,.b 1,.c 979,.l 244,.b 0,.c 31],⟨123,[vI 0 orders,vL 1 2 l QaW.enc,vS 2 word,vB 3 turned,vO 9 0 2 l2 Qaa.enc,vI 10 i,vI 11 x0.x0,vI 12 x0.x1,vS 13 (catS (catS word QcK) r),vB 14 twice,vI 15 k],[oS 2 144 l2 Qaa.enc]⟩⟩
def QiV (Γ:Gam) (rv:List Qaa) (orders:Int) (l:List QaW) (word:ByteArray) (turned:Bool) (l2:List Qaa) (i:Int) (x0:QaW) (r:ByteArray) (twice1:Bool):Prop:=Qfo Γ rv ⟨[.c 125247,.b 1,.c 979,.l 244,.b 0,.c 31],⟨123,[vI 0 orders,vL 1 2 l QaW.enc,vS 2 word,vB 3 turned,vO 9 0 2 l2 Qaa.enc,vI 10 i,vS 13 (catS (catS word QcK) r),vB 14 twice1],[oS 2 144 l2 Qaa.enc]⟩⟩
def QjX (Γ:Gam) (rv:List Qaa) (orders:Int) (l:List QaW) (word:ByteArray) (turned:Bool) (l2:List Qaa) (i:Int):Prop:=Qfo Γ rv ⟨[.c 244,.l 244,.b 0,.c 31],⟨123,[vI 0 orders,vL 1 2 l QaW.enc,vS 2 word,vB 3 turned,vO 9 0 2 l2 Qaa.enc,vI 10 i],[oS 2 144 l2 Qaa.enc]⟩⟩
def QiU (Γ:Gam) (rv:List Qaa) (orders:Int) (l:List QaW) (word:ByteArray) (turned:Bool) (l3:List Qaa):Prop:=Qfo Γ rv ⟨[.c 31],⟨123,[vO 9 0 2 l3 Qaa.enc],[oS 2 144 l3 Qaa.enc]⟩⟩
theorem Qoc (Γ:Gam) (rv:List Qaa) {orders l word turned l2 i x0 r} {s:Bool × Int} {e:Bool} (h:loopF (fun s=>Qdy orders l word turned l2 i x0 r s.1 s.2) s = some e) (hD:QiV Γ rv orders l word turned l2 i x0 r e):QjY Γ rv orders l word turned l2 i x0 r s.1 s.2:=by
 refine QaI (C:=fun (s:Bool × Int)=>QjY Γ rv orders l word turned l2 i x0 r s.1 s.2) (D:=fun (e:Bool)=>QiV Γ rv orders l word turned l2 i x0 r e) ?_ h hD
 clear h hD s e
 rintro ⟨twice,k⟩ z_ h hI hE
 replace h:Qdy orders l word turned l2 i x0 r twice k = _:=h
 unfold Qdy at h
 rcases Qai h with ⟨h9,h⟩|⟨h9,h⟩
 ·rcases Qai h with ⟨h10,h⟩|⟨h10,h⟩
  ·exact gn 11 [0,1,2,3,9,10,11,12,13,14,15] [0] [bT h9,rp 8 (bT h10),rp 7 kF,rp 2 (bT h10),tT,tT,rp 7 kF,tT,tT,rp 7 kF,tT,tT] (hI _ (oJ h))
  ·obtain ⟨x1,h11,h⟩:=Qae h
   rcases Qai h with ⟨h12,h⟩|⟨h12,h⟩
   ·rcases Qai h with ⟨h13,h⟩|⟨h13,h⟩
    ·exact gn 11 [0,1,2,3,9,10,11,12,13,14,15] [0] [bT h9,rp 3 (bF h10),cE QaW.enc h11,bF h10,oO (zL 0),oO (lT 0 2),rp 4 (bF h10),rp 3 (bT h12),cE QaW.enc h11,bT h12,oO (zL 1),oO (lT 1 2),rp 3 (bT h12),bF h10,bT h12,bF h10,rp 2 (bT h13),rp 7 kF,rp 2 (bT h13),rp 7 kF,rp 2 (bT h13)] (hI _ (oJ h))
    ·rcases Qai h with ⟨h14,h⟩|⟨h14,h⟩
     ·rcases Qai h with ⟨h15,h⟩|⟨h15,h⟩
      ·exact gn 11 [0,1,2,3,9,10,11,12,13,14,15] [0] [bT h9,rp 3 (bF h10),cE QaW.enc h11,bF h10,oO (zL 0),oO (lT 0 2),rp 4 (bF h10),rp 3 (bT h12),cE QaW.enc h11,bT h12,oO (zL 1),oO (lT 1 2),rp 3 (bT h12),bF h10,bT h12,bF h10,rp 2 (bF h13),rp 3 (bT h14),cE QaW.enc h11,bT h14,oO (zL 0),oO (lT 0 2),rp 3 (bT h14),bF h13,bT h14,bF h13,rp 3 (bT h15),cE QaW.enc h11,bT h15,oO (zL 1),oO (lT 1 2),rp 3 (bT h15),bF h13,bT h15,bF h13] (hI _ (oJ h))
      ·exact gn 11 [0,1,2,3,9,10,11,12,13,14,15] [0] [bT h9,rp 3 (bF h10),cE QaW.enc h11,bF h10,oO (zL 0),oO (lT 0 2),rp 4 (bF h10),rp 3 (bT h12),cE QaW.enc h11,bT h12,oO (zL 1),oO (lT 1 2),rp 3 (bT h12),bF h10,bT h12,bF h10,rp 2 (bF h13),rp 3 (bT h14),cE QaW.enc h11,bT h14,oO (zL 0),oO (lT 0 2),rp 3 (bT h14),bF h13,bT h14,bF h13,rp 7 (bF h15),bF h13,bF h15,bF h13] (hI _ (oJ h))
     ·exact gn 11 [0,1,2,3,9,10,11,12,13,14,15] [0] [bT h9,rp 3 (bF h10),cE QaW.enc h11,bF h10,oO (zL 0),oO (lT 0 2),rp 4 (bF h10),rp 3 (bT h12),cE QaW.enc h11,bT h12,oO (zL 1),oO (lT 1 2),rp 3 (bT h12),bF h10,bT h12,bF h10,rp 2 (bF h13),rp 7 (bF h14),bF h13,bF h14,bF h13,rp 7 fF,bF h13,fF,bF h13] (hI _ (oJ h))
   ·rcases Qai h with ⟨h16,h⟩|⟨h16,h⟩
    ·rcases Qai h with ⟨h17,h⟩|⟨h17,h⟩
     ·exact gn 11 [0,1,2,3,9,10,11,12,13,14,15] [0] [bT h9,rp 3 (bF h10),cE QaW.enc h11,bF h10,oO (zL 0),oO (lT 0 2),rp 4 (bF h10),rp 7 (bF h12),bF h10,bF h12,bF h10,fF,fF,rp 3 (bT h16),cE QaW.enc h11,bT h16,oO (zL 0),oO (lT 0 2),rp 3 (bT h16),fF,bT h16,fF,rp 3 (bT h17),cE QaW.enc h11,bT h17,oO (zL 1),oO (lT 1 2),rp 3 (bT h17),fF,bT h17,fF] (hI _ (oJ h))
     ·exact gn 11 [0,1,2,3,9,10,11,12,13,14,15] [0] [bT h9,rp 3 (bF h10),cE QaW.enc h11,bF h10,oO (zL 0),oO (lT 0 2),rp 4 (bF h10),rp 7 (bF h12),bF h10,bF h12,bF h10,fF,fF,rp 3 (bT h16),cE QaW.enc h11,bT h16,oO (zL 0),oO (lT 0 2),rp 3 (bT h16),fF,bT h16,fF,rp 7 (bF h17),fF,bF h17,fF] (hI _ (oJ h))
    ·exact gn 11 [0,1,2,3,9,10,11,12,13,14,15] [0] [bT h9,rp 3 (bF h10),cE QaW.enc h11,bF h10,oO (zL 0),oO (lT 0 2),rp 4 (bF h10),rp 7 (bF h12),bF h10,bF h12,bF h10,fF,fF,rp 7 (bF h16),fF,bF h16,rp 11 fF] (hI _ (oJ h))
 ·exact gn 5 [0,1,2,3,9,10,13,14] [0] [bF h9] (hE _ (oJ h))
theorem Qob (Γ:Gam) (rv:List Qaa) {orders l word turned} {s:List Qaa × Int} {e:List Qaa} (h:loopF (fun s=>Qcr orders l word turned s.1 s.2) s = some e) (hD:QiU Γ rv orders l word turned e):QjX Γ rv orders l word turned s.1 s.2:=by
 refine QaI (C:=fun (s:List Qaa × Int)=>QjX Γ rv orders l word turned s.1 s.2) (D:=fun (e:List Qaa)=>QiU Γ rv orders l word turned e) ?_ h hD
 clear h hD s e
 rintro ⟨l2,i⟩ z_ h hI hE
 replace h:Qcr orders l word turned l2 i = _:=h
 unfold Qcr at h
 rcases Qai h with ⟨h2,h⟩|⟨h2,h⟩
 ·obtain ⟨x0,h3,h⟩:=Qae h
  obtain ⟨h4,h⟩:=Qaw h
  obtain ⟨r,h5,h⟩:=Qae h
  obtain ⟨h6,h⟩:=Qaw h
  rcases Qai h with ⟨h7,h⟩|⟨h7,h⟩
  ·obtain ⟨h8,h⟩:=Qaw h
   exact gn 22 [0,1,2,3,9,10] [2] [nL QaW.enc l,bT h2,cE QaW.enc h3,oO (zL 0),oO (lT 0 2),cE QaW.enc h3,oO (zL 1),oO (lT 1 2),oO (h4),cC (QfH h5),rp 15 hP,oO (h6),rp 2 (oI ((ltI x0.x0 0) = false)),oR True ((ltI x0.x0 0) = false),oI (((ltI x0.x0 0) || (geI x0.x0 orders)) = false),oR True (((ltI x0.x0 0) || (geI x0.x0 orders)) = false),rp 2 (oI ((((ltI x0.x0 0) || (geI x0.x0 orders)) || (ltI x0.x1 0)) = false)),oR True ((((ltI x0.x0 0) || (geI x0.x0 orders)) || (ltI x0.x1 0)) = false),rp 2 (oI (((((ltI x0.x0 0) || (geI x0.x0 orders)) || (ltI x0.x1 0)) || (geI x0.x1 orders)) = false)),oR True (((((ltI x0.x0 0) || (geI x0.x0 orders)) || (ltI x0.x1 0)) || (geI x0.x1 orders)) = false),bT h7,oO (Eq.refl ([(Qaa.mk 2 (catS (catS word QcK) r))].map Qaa.enc).length),aO Qaa.enc h8] (hI _ (oJ h))
  ·obtain ⟨e0,h18,h⟩:=Qae h
   refine gn 25 [0,1,2,3,9,10,11,12,13,14,15] [0] [nL QaW.enc l,bT h2,cE QaW.enc h3,oO (zL 0),oO (lT 0 2),cE QaW.enc h3,oO (zL 1),oO (lT 1 2),oO (h4),cC (QfH h5),rp 15 hP,oO (h6),rp 2 (oI ((ltI x0.x0 0) = false)),oR True ((ltI x0.x0 0) = false),oI (((ltI x0.x0 0) || (geI x0.x0 orders)) = false),oR True (((ltI x0.x0 0) || (geI x0.x0 orders)) = false),rp 2 (oI ((((ltI x0.x0 0) || (geI x0.x0 orders)) || (ltI x0.x1 0)) = false)),oR True ((((ltI x0.x0 0) || (geI x0.x0 orders)) || (ltI x0.x1 0)) = false),rp 2 (oI (((((ltI x0.x0 0) || (geI x0.x0 orders)) || (ltI x0.x1 0)) || (geI x0.x1 orders)) = false)),oR True (((((ltI x0.x0 0) || (geI x0.x0 orders)) || (ltI x0.x1 0)) || (geI x0.x1 orders)) = false),bF h7] (Qoc Γ rv h18 ?_)
   obtain ⟨twice1,rfl⟩:∃ x,x = e0:=⟨_,rfl⟩
   replace h:(br twice1 (chk (okN (l2 ++ [(Qaa.mk 6 (catS (catS word QcK) r))]).length 24) (some (.inl ((l2 ++ [(Qaa.mk 6 (catS (catS word QcK) r))]),(addK .i64 i 1))))) (some (.inl (l2,(addK .i64 i 1)))):Option ((List Qaa × Int) ⊕ (List Qaa))) = some _:=h
   rcases Qai h with ⟨h19,h⟩|⟨h19,h⟩
   ·obtain ⟨h20,h⟩:=Qaw h
    exact gn 7 [0,1,2,3,9,10] [2] [bT h19,oO (Eq.refl ([(Qaa.mk 6 (catS (catS word QcK) r))].map Qaa.enc).length),aO Qaa.enc h20] (hI _ (oJ h))
   ·exact gn 7 [0,1,2,3,9,10] [0] [bF h19] (hI _ (oJ h))
 ·exact gn 5 [9] [0] [nL QaW.enc l,bF h2] (hE _ (oJ h))
theorem QiT (Γ:Gam) (rv:List Qaa) {orders l word turned l1} (h:QeT orders l word turned l1 = some rv):Qfo Γ rv ⟨[.c 15],⟨123,[vI 0 orders,vL 1 2 l QaW.enc,vS 2 word,vB 3 turned,vO 9 0 2 l1 Qaa.enc],[oS 2 144 l1 Qaa.enc]⟩⟩:=by
 unfold QeT at h
 obtain ⟨e1,h21,h⟩:=Qae h
 refine gn 5 [0,1,2,3,9,10] [0] [] (Qob Γ rv h21 ?_)
 obtain ⟨l3,rfl⟩:∃ x,x = e1:=⟨_,rfl⟩
 replace h:(some l3:Option (List Qaa)) = some _:=h
 obtain rfl:=Option.some.inj h
 exact gr 2 [] [hW 4,hH (.frz 0),rp 3 (eL l3 Qaa.enc)]
theorem Qp0 {orders l word turned} {rv:List Qaa} (h:Qgi orders l word turned = some rv):AFn Tryz.prog 89 [.one (lI orders),.one (lL 2 l QaW.enc),.one (.str word),.one (.bool turned)] [] (one (lL 2 rv Qaa.enc)) []:=by
 refine QaS Tryz.func89 (by kernel_rfl) (by kernel_rfl) (fun Γ=>?_)
 unfold Qgi at h
 rcases Qai h with ⟨h0,h⟩|⟨h0,h⟩
 ·obtain ⟨h1,h⟩:=Qaw h
  exact gn 9 [0,1,2,3,9] [1] [nL QaW.enc l,bT h0,oO (Eq.refl ([(Qaa.mk 4 word)].map Qaa.enc).length),aN (l:=([(Qaa.mk 4 word)]:List Qaa)) Qaa.enc h1] (QiT Γ rv h)
 ·exact gn 9 [0,1,2,3,9] [0] [nL QaW.enc l,bF h0,hW 1,hH (.adopt 9 2 144)] (QiT Γ rv h)
def Qdu (Γ:Gam) (rv:List Qaa) (cf:Cf):Prop:=Go Tryz.prog Tryz.f89 [] Γ (one (lO 0 2 rv Qaa.enc)) [oS 2 144 rv Qaa.enc] cf
def Qhy (Γ:Gam) (rv:List Qaa) (orders:Int) (l:List QaW) (word:ByteArray) (turned:Bool) (l2:List Qaa) (i:Int) (x0:QaW) (r:ByteArray) (twice:Bool) (k:Int):Prop:=Qdu Γ rv ⟨[.c 1001972,.l 1001972,.b 2,.c 125247,.b 1,.c 979,.l 244,.b 0,.c 31],⟨123,[vI 0 orders,vL 1 2 l QaW.enc,vS 2 word,vB 3 turned,vO 9 0 2 l2 Qaa.enc,vI 10 i,vI 11 x0.x0,vI 12 x0.x1,vS 13 (catS (catS word QcK) r),vB 14 twice,vI 15 k],[oS 2 144 l2 Qaa.enc]⟩⟩
def Qhi (Γ:Gam) (rv:List Qaa) (orders:Int) (l:List QaW) (word:ByteArray) (turned:Bool) (l2:List Qaa) (i:Int) (x0:QaW) (r:ByteArray) (twice1:Bool):Prop:=Qdu Γ rv ⟨[.c 125247,.b 1,.c 979,.l 244,.b 0,.c 31],⟨123,[vI 0 orders,vL 1 2 l QaW.enc,vS 2 word,vB 3 turned,vO 9 0 2 l2 Qaa.enc,vI 10 i,vS 13 (catS (catS word QcK) r),vB 14 twice1],[oS 2 144 l2 Qaa.enc]⟩⟩
def Qhx (Γ:Gam) (rv:List Qaa) (orders:Int) (l:List QaW) (word:ByteArray) (turned:Bool) (l2:List Qaa) (i:Int):Prop:=Qdu Γ rv ⟨[.c 244,.l 244,.b 0,.c 31],⟨123,[vI 0 orders,vL 1 2 l QaW.enc,vS 2 word,vB 3 turned,vO 9 0 2 l2 Qaa.enc,vI 10 i],[oS 2 144 l2 Qaa.enc]⟩⟩
def Qhh (Γ:Gam) (rv:List Qaa) (orders:Int) (l:List QaW) (word:ByteArray) (turned:Bool) (l3:List Qaa):Prop:=Qdu Γ rv ⟨[.c 31],⟨123,[vO 9 0 2 l3 Qaa.enc],[oS 2 144 l3 Qaa.enc]⟩⟩
theorem Ql7 (Γ:Gam) (rv:List Qaa) {orders l word turned l2 i x0 r} {s:Bool × Int} {e:Bool} (h:loopF (fun s=>Qer orders l word turned l2 i x0 r s.1 s.2) s = some e) (hD:Qhi Γ rv orders l word turned l2 i x0 r e):Qhy Γ rv orders l word turned l2 i x0 r s.1 s.2:=by
 refine QaI (C:=fun (s:Bool × Int)=>Qhy Γ rv orders l word turned l2 i x0 r s.1 s.2) (D:=fun (e:Bool)=>Qhi Γ rv orders l word turned l2 i x0 r e) ?_ h hD
 clear h hD s e
 rintro ⟨twice,k⟩ z_ h hI hE
 replace h:Qer orders l word turned l2 i x0 r twice k = _:=h
 unfold Qer at h
 rcases Qai h with ⟨h9,h⟩|⟨h9,h⟩
 ·rcases Qai h with ⟨h10,h⟩|⟨h10,h⟩
  ·exact gn 11 [0,1,2,3,9,10,11,12,13,14,15] [0] [bT h9,rp 8 (bT h10),rp 7 kF,rp 2 (bT h10),tT,tT,rp 7 kF,tT,tT,rp 7 kF,tT,tT] (hI _ (oJ h))
  ·obtain ⟨x1,h11,h⟩:=Qae h
   rcases Qai h with ⟨h12,h⟩|⟨h12,h⟩
   ·rcases Qai h with ⟨h13,h⟩|⟨h13,h⟩
    ·exact gn 11 [0,1,2,3,9,10,11,12,13,14,15] [0] [bT h9,rp 3 (bF h10),cE QaW.enc h11,bF h10,oO (zL 0),oO (lT 0 2),rp 4 (bF h10),rp 3 (bT h12),cE QaW.enc h11,bT h12,oO (zL 1),oO (lT 1 2),rp 3 (bT h12),bF h10,bT h12,bF h10,rp 2 (bT h13),rp 7 kF,rp 2 (bT h13),rp 7 kF,rp 2 (bT h13)] (hI _ (oJ h))
    ·rcases Qai h with ⟨h14,h⟩|⟨h14,h⟩
     ·rcases Qai h with ⟨h15,h⟩|⟨h15,h⟩
      ·exact gn 11 [0,1,2,3,9,10,11,12,13,14,15] [0] [bT h9,rp 3 (bF h10),cE QaW.enc h11,bF h10,oO (zL 0),oO (lT 0 2),rp 4 (bF h10),rp 3 (bT h12),cE QaW.enc h11,bT h12,oO (zL 1),oO (lT 1 2),rp 3 (bT h12),bF h10,bT h12,bF h10,rp 2 (bF h13),rp 3 (bT h14),cE QaW.enc h11,bT h14,oO (zL 0),oO (lT 0 2),rp 3 (bT h14),bF h13,bT h14,bF h13,rp 3 (bT h15),cE QaW.enc h11,bT h15,oO (zL 1),oO (lT 1 2),rp 3 (bT h15),bF h13,bT h15,bF h13] (hI _ (oJ h))
      ·exact gn 11 [0,1,2,3,9,10,11,12,13,14,15] [0] [bT h9,rp 3 (bF h10),cE QaW.enc h11,bF h10,oO (zL 0),oO (lT 0 2),rp 4 (bF h10),rp 3 (bT h12),cE QaW.enc h11,bT h12,oO (zL 1),oO (lT 1 2),rp 3 (bT h12),bF h10,bT h12,bF h10,rp 2 (bF h13),rp 3 (bT h14),cE QaW.enc h11,bT h14,oO (zL 0),oO (lT 0 2),rp 3 (bT h14),bF h13,bT h14,bF h13,rp 7 (bF h15),bF h13,bF h15,bF h13] (hI _ (oJ h))
     ·exact gn 11 [0,1,2,3,9,10,11,12,13,14,15] [0] [bT h9,rp 3 (bF h10),cE QaW.enc h11,bF h10,oO (zL 0),oO (lT 0 2),rp 4 (bF h10),rp 3 (bT h12),cE QaW.enc h11,bT h12,oO (zL 1),oO (lT 1 2),rp 3 (bT h12),bF h10,bT h12,bF h10,rp 2 (bF h13),rp 7 (bF h14),bF h13,bF h14,bF h13,rp 7 fF,bF h13,fF,bF h13] (hI _ (oJ h))
   ·rcases Qai h with ⟨h16,h⟩|⟨h16,h⟩
    ·rcases Qai h with ⟨h17,h⟩|⟨h17,h⟩
     ·exact gn 11 [0,1,2,3,9,10,11,12,13,14,15] [0] [bT h9,rp 3 (bF h10),cE QaW.enc h11,bF h10,oO (zL 0),oO (lT 0 2),rp 4 (bF h10),rp 7 (bF h12),bF h10,bF h12,bF h10,fF,fF,rp 3 (bT h16),cE QaW.enc h11,bT h16,oO (zL 0),oO (lT 0 2),rp 3 (bT h16),fF,bT h16,fF,rp 3 (bT h17),cE QaW.enc h11,bT h17,oO (zL 1),oO (lT 1 2),rp 3 (bT h17),fF,bT h17,fF] (hI _ (oJ h))
     ·exact gn 11 [0,1,2,3,9,10,11,12,13,14,15] [0] [bT h9,rp 3 (bF h10),cE QaW.enc h11,bF h10,oO (zL 0),oO (lT 0 2),rp 4 (bF h10),rp 7 (bF h12),bF h10,bF h12,bF h10,fF,fF,rp 3 (bT h16),cE QaW.enc h11,bT h16,oO (zL 0),oO (lT 0 2),rp 3 (bT h16),fF,bT h16,fF,rp 7 (bF h17),fF,bF h17,fF] (hI _ (oJ h))
    ·exact gn 11 [0,1,2,3,9,10,11,12,13,14,15] [0] [bT h9,rp 3 (bF h10),cE QaW.enc h11,bF h10,oO (zL 0),oO (lT 0 2),rp 4 (bF h10),rp 7 (bF h12),bF h10,bF h12,bF h10,fF,fF,rp 7 (bF h16),fF,bF h16,rp 11 fF] (hI _ (oJ h))
 ·exact gn 5 [0,1,2,3,9,10,13,14] [0] [bF h9] (hE _ (oJ h))
theorem Ql6 (Γ:Gam) (rv:List Qaa) {orders l word turned} {s:List Qaa × Int} {e:List Qaa} (h:loopF (fun s=>Qeq orders l word turned s.1 s.2) s = some e) (hD:Qhh Γ rv orders l word turned e):Qhx Γ rv orders l word turned s.1 s.2:=by
 refine QaI (C:=fun (s:List Qaa × Int)=>Qhx Γ rv orders l word turned s.1 s.2) (D:=fun (e:List Qaa)=>Qhh Γ rv orders l word turned e) ?_ h hD
 clear h hD s e
 rintro ⟨l2,i⟩ z_ h hI hE
 replace h:Qeq orders l word turned l2 i = _:=h
 unfold Qeq at h
 rcases Qai h with ⟨h2,h⟩|⟨h2,h⟩
 ·obtain ⟨x0,h3,h⟩:=Qae h
  obtain ⟨h4,h⟩:=Qaw h
  obtain ⟨r,h5,h⟩:=Qae h
  obtain ⟨h6,h⟩:=Qaw h
  rcases Qai h with ⟨h7,h⟩|⟨h7,h⟩
  ·obtain ⟨h8,h⟩:=Qaw h
   exact gn 22 [0,1,2,3,9,10] [2] [nL QaW.enc l,bT h2,cE QaW.enc h3,oO (zL 0),oO (lT 0 2),cE QaW.enc h3,oO (zL 1),oO (lT 1 2),oO (h4),cC (QfH h5),rp 15 hP,oO (h6),rp 2 (oI ((ltI x0.x0 0) = false)),oR True ((ltI x0.x0 0) = false),oI (((ltI x0.x0 0) || (geI x0.x0 orders)) = false),oR True (((ltI x0.x0 0) || (geI x0.x0 orders)) = false),rp 2 (oI ((((ltI x0.x0 0) || (geI x0.x0 orders)) || (ltI x0.x1 0)) = false)),oR True ((((ltI x0.x0 0) || (geI x0.x0 orders)) || (ltI x0.x1 0)) = false),rp 2 (oI (((((ltI x0.x0 0) || (geI x0.x0 orders)) || (ltI x0.x1 0)) || (geI x0.x1 orders)) = false)),oR True (((((ltI x0.x0 0) || (geI x0.x0 orders)) || (ltI x0.x1 0)) || (geI x0.x1 orders)) = false),bT h7,oO (Eq.refl ([(Qaa.mk 2 (catS (catS word QcK) r))].map Qaa.enc).length),aO Qaa.enc h8] (hI _ (oJ h))
  ·obtain ⟨e0,h18,h⟩:=Qae h
   refine gn 25 [0,1,2,3,9,10,11,12,13,14,15] [0] [nL QaW.enc l,bT h2,cE QaW.enc h3,oO (zL 0),oO (lT 0 2),cE QaW.enc h3,oO (zL 1),oO (lT 1 2),oO (h4),cC (QfH h5),rp 15 hP,oO (h6),rp 2 (oI ((ltI x0.x0 0) = false)),oR True ((ltI x0.x0 0) = false),oI (((ltI x0.x0 0) || (geI x0.x0 orders)) = false),oR True (((ltI x0.x0 0) || (geI x0.x0 orders)) = false),rp 2 (oI ((((ltI x0.x0 0) || (geI x0.x0 orders)) || (ltI x0.x1 0)) = false)),oR True ((((ltI x0.x0 0) || (geI x0.x0 orders)) || (ltI x0.x1 0)) = false),rp 2 (oI (((((ltI x0.x0 0) || (geI x0.x0 orders)) || (ltI x0.x1 0)) || (geI x0.x1 orders)) = false)),oR True (((((ltI x0.x0 0) || (geI x0.x0 orders)) || (ltI x0.x1 0)) || (geI x0.x1 orders)) = false),bF h7] (Ql7 Γ rv h18 ?_)
   obtain ⟨twice1,rfl⟩:∃ x,x = e0:=⟨_,rfl⟩
   replace h:(br twice1 (chk (okN (l2 ++ [(Qaa.mk 6 (catS (catS word QcK) r))]).length 24) (some (.inl ((l2 ++ [(Qaa.mk 6 (catS (catS word QcK) r))]),(addK .i64 i 1))))) (some (.inl (l2,(addK .i64 i 1)))):Option ((List Qaa × Int) ⊕ (List Qaa))) = some _:=h
   rcases Qai h with ⟨h19,h⟩|⟨h19,h⟩
   ·obtain ⟨h20,h⟩:=Qaw h
    exact gn 7 [0,1,2,3,9,10] [2] [bT h19,oO (Eq.refl ([(Qaa.mk 6 (catS (catS word QcK) r))].map Qaa.enc).length),aO Qaa.enc h20] (hI _ (oJ h))
   ·exact gn 7 [0,1,2,3,9,10] [0] [bF h19] (hI _ (oJ h))
 ·exact gn 5 [9] [0] [nL QaW.enc l,bF h2] (hE _ (oJ h))
theorem Qhg (Γ:Gam) (rv:List Qaa) {orders l word turned l1} (h:Qep orders l word turned l1 = some rv):Qdu Γ rv ⟨[.c 15],⟨123,[vI 0 orders,vL 1 2 l QaW.enc,vS 2 word,vB 3 turned,vO 9 0 2 l1 Qaa.enc],[oS 2 144 l1 Qaa.enc]⟩⟩:=by
 unfold Qep at h
 obtain ⟨e1,h21,h⟩:=Qae h
 refine gn 5 [0,1,2,3,9,10] [0] [] (Ql6 Γ rv h21 ?_)
 obtain ⟨l3,rfl⟩:∃ x,x = e1:=⟨_,rfl⟩
 replace h:(some l3:Option (List Qaa)) = some _:=h
 obtain rfl:=Option.some.inj h
 exact gr 2 [0] []
theorem Qnz {orders l word turned} {rv:List Qaa} (h:Qhp orders l word turned = some rv):AFn Tryz.prog 89 [.one (lI orders),.one (lL 2 l QaW.enc),.one (.str word),.one (.bool turned)] [] (one (lO 0 2 rv Qaa.enc)) [oS 2 144 rv Qaa.enc]:=by
 refine QaS Tryz.func89 (by kernel_rfl) (by kernel_rfl) (fun Γ=>?_)
 unfold Qhp at h
 rcases Qai h with ⟨h0,h⟩|⟨h0,h⟩
 ·obtain ⟨h1,h⟩:=Qaw h
  exact gn 9 [0,1,2,3,9] [1] [nL QaW.enc l,bT h0,oO (Eq.refl ([(Qaa.mk 4 word)].map Qaa.enc).length),aN (l:=([(Qaa.mk 4 word)]:List Qaa)) Qaa.enc h1] (Qhg Γ rv h)
 ·exact gn 9 [0,1,2,3,9] [0] [nL QaW.enc l,bF h0,hW 1,hH (.adopt 9 2 144)] (Qhg Γ rv h)
theorem Qqr {orders apart before} {rv:List Qaa} (h:QgU orders apart before = some rv):AFn Tryz.prog 49 [.one (lI orders),.one (lL 2 apart QaW.enc),.one (lL 2 before QaW.enc)] [] (one (lL 2 rv Qaa.enc)) []:=by
 refine QaS Tryz.func49 (by kernel_rfl) (by kernel_rfl) (fun Γ=>?_)
 unfold QgU at h
 obtain ⟨r,h0,h⟩:=Qae h
 obtain ⟨r1,h1,h⟩:=Qae h
 obtain ⟨h2,h⟩:=Qaw h
 obtain rfl:=Option.some.inj h
 exact gr 6 [] [cC (Qnz h0),cC (Qp0 h1),aO Qaa.enc h2,hW 1,hH (.frz 1),rp 2 (oO (Eq.refl ((r ++ r1).map Qaa.enc).length))]
def QgX (Γ:Gam) (rv:List Qaa) (cf:Cf):Prop:=Go Tryz.prog Tryz.f44 [] Γ (one (lO 0 2 rv Qaa.enc)) [oS 2 144 rv Qaa.enc] cf
def QfT (Γ:Gam) (rv:List Qaa) (word:ByteArray) (l:List Qaa) (l1:List Qaa) (i:Int):Prop:=QgX Γ rv ⟨[.c 116,.l 116,.b 0,.c 15],⟨40,[vS 0 word,vL 1 2 l Qaa.enc,vO 5 0 2 l1 Qaa.enc,vI 6 i],[oS 2 144 l1 Qaa.enc]⟩⟩
def QfA (Γ:Gam) (rv:List Qaa) (word:ByteArray) (l:List Qaa) (l2:List Qaa):Prop:=QgX Γ rv ⟨[.c 15],⟨40,[vO 5 0 2 l2 Qaa.enc],[oS 2 144 l2 Qaa.enc]⟩⟩
theorem Qhz (Γ:Gam) (rv:List Qaa) {word l l1 i at_} {x:(List Qaa × Int) ⊕ (List Qaa)} (h:Qe1 word l l1 i at_ = some x) (hI:∀ s:List Qaa × Int,x = .inl s→QfT Γ rv word l s.1 s.2) (hE:∀ e:List Qaa,x = .inr e→QfA Γ rv word l e):QgX Γ rv ⟨[.c 3731,.b 1,.c 467,.l 116,.b 0,.c 15],⟨40,[vS 0 word,vL 1 2 l Qaa.enc,vO 5 0 2 l1 Qaa.enc,vI 6 i,vS 7 at_],[oS 2 144 l1 Qaa.enc]⟩⟩:=by
 unfold Qe1 at h
 obtain ⟨x1,h5,h⟩:=Qae h
 obtain ⟨h6,h⟩:=Qaw h
 exact gn 4 [0,1,5,6] [2] [cE Qaa.enc h5,oO (Eq.refl ([(Qaa.mk x1.err at_)].map Qaa.enc).length),aO Qaa.enc h6] (hI _ (oJ h))
theorem QmH (Γ:Gam) (rv:List Qaa) {word l} {s:List Qaa × Int} {e:List Qaa} (h:loopF (fun s=>Qe2 word l s.1 s.2) s = some e) (hD:QfA Γ rv word l e):QfT Γ rv word l s.1 s.2:=by
 refine QaI (C:=fun (s:List Qaa × Int)=>QfT Γ rv word l s.1 s.2) (D:=fun (e:List Qaa)=>QfA Γ rv word l e) ?_ h hD
 clear h hD s e
 rintro ⟨l1,i⟩ z_ h hI hE
 replace h:Qe2 word l l1 i = _:=h
 unfold Qe2 at h
 rcases Qai h with ⟨h0,h⟩|⟨h0,h⟩
 ·obtain ⟨x0,h1,h⟩:=Qae h
  rcases Qai h with ⟨h2,h⟩|⟨h2,h⟩
  ·exact gn 14 [0,1,5,6,7] [0] [nL Qaa.enc l,bT h0,cE Qaa.enc h1,nF h2] (Qhz Γ rv h hI hE)
  ·obtain ⟨h3,h⟩:=Qaw h
   obtain ⟨h4,h⟩:=Qaw h
   exact gn 14 [0,1,5,6,7] [0] [nL Qaa.enc l,bT h0,cE Qaa.enc h1,nT h2,oO (h3),cE Qaa.enc h1,oO (h4)] (Qhz Γ rv h hI hE)
 ·exact gn 5 [5] [0] [nL Qaa.enc l,bF h0] (hE _ (oJ h))
theorem Qod {word l} {rv:List Qaa} (h:Qf8 word l = some rv):AFn Tryz.prog 44 [.one (.str word),.one (lL 2 l Qaa.enc)] [] (one (lO 0 2 rv Qaa.enc)) [oS 2 144 rv Qaa.enc]:=by
 refine QaS Tryz.func44 (by kernel_rfl) (by kernel_rfl) (fun Γ=>?_)
 unfold Qf8 at h
 obtain ⟨e0,h7,h⟩:=Qae h
 refine gn 9 [0,1,5,6] [0] [hW 12,hH (.adopt 5 2 144)] (QmH Γ rv h7 ?_)
 obtain ⟨l2,rfl⟩:∃ x,x = e0:=⟨_,rfl⟩
 replace h:(some l2:Option (List Qaa)) = some _:=h
 obtain rfl:=Option.some.inj h
 exact gr 2 [0] []
theorem Qqs {x0} {rv:List Qaa} (h:QgV x0 = some rv):AFn Tryz.prog 25 [.agg (Qad.enc x0)] [] (one (lL 2 rv Qaa.enc)) []:=by
 refine QaS Tryz.func25 (by kernel_rfl) (by kernel_rfl) (fun Γ=>?_)
 unfold QgV at h
 obtain ⟨r,h0,h⟩:=Qae h
 obtain ⟨r1,h1,h⟩:=Qae h
 obtain ⟨r2,h2,h⟩:=Qae h
 obtain ⟨r3,h3,h⟩:=Qae h
 obtain ⟨h4,h⟩:=Qaw h
 obtain ⟨r4,h5,h⟩:=Qae h
 obtain ⟨r5,h6,h⟩:=Qae h
 obtain ⟨r6,h7,h⟩:=Qae h
 obtain ⟨h8,h⟩:=Qaw h
 obtain ⟨r7,h9,h⟩:=Qae h
 obtain ⟨r8,h10,h⟩:=Qae h
 obtain ⟨h11,h⟩:=Qaw h
 obtain rfl:=Option.some.inj h
 exact gr 12 [] [cC (Qqm h0),cC (Qod h1),cC (Qqn h2),cC (Qiy h3),aO Qaa.enc h4,hH (.draw 13 []),cC (QfQ h5),nL Qal.enc x0.types,cC (Qqp h6),cC (Qiy h7),aO Qaa.enc h8,nL Qak.enc x0.orders,cC (Qqr h9),cC (Qiy h10),aO Qaa.enc h11,hW 5,hH (.frz 4),rp 4 (oO (Eq.refl ((((r1 ++ r3) ++ r6) ++ r8).map Qaa.enc).length))]
theorem Qgv {x0} {rv:Bool} (h:QgM x0 = some rv):AFn Tryz.prog 8 [.agg (Qad.enc x0)] [] (one (.bool rv)) []:=by
 refine QaS Tryz.func8 (by kernel_rfl) (by kernel_rfl) (fun Γ=>?_)
 unfold QgM at h
 obtain ⟨r,h0,h⟩:=Qae h
 obtain rfl:=Option.some.inj h
 exact gr 4 [] [cC (Qqs h0),nL Qaa.enc r]
theorem Qmh {r} {rv:Bool} (h:Qip r = some rv):AFn Tryz.prog 9 [.agg (Qab.enc r)] [] (one (.bool rv)) []:=by
 refine QaS Tryz.func9 (by kernel_rfl) (by kernel_rfl) (fun Γ=>?_)
 unfold Qip at h
 obtain rfl:=Option.some.inj h
 exact gr 4 [] [nL Qac.enc r.visits,hP,hP,hP,rp 2 (oI ((leI (lenI r.visits) 8) = false)),nL Qac.enc r.visits,hP,hP,oI ((leI (lenI r.visits) 8) = false),oR True ((leI (lenI r.visits) 8) = false)]
theorem Qlb {now} {rv:Bool} (h:Qll now = some rv):AFn Tryz.prog 27 [.one (lI now)] [] (one (.bool rv)) []:=by
 refine QaS Tryz.func27 (by kernel_rfl) (by kernel_rfl) (fun Γ=>?_)
 unfold Qll at h
 obtain rfl:=Option.some.inj h
 exact gr 4 [] [hP,hP,hP,oI ((geI now 0) = true),oR True ((geI now 0) = true)]
def QeB (Γ:Gam) (rv:Int) (cf:Cf):Prop:=Go Tryz.prog Tryz.f143 [] Γ (one (lI rv)) [] cf
def QdV (Γ:Gam) (rv:Int) (s0:List Qac) (v:Qac) (v1:Int):Prop:=QeB Γ rv ⟨[.c 52,.l 52,.b 0,.c 7],⟨19,[vL 0 2 s0 Qac.enc,vP 3 0 2,vI 7 (lenI s0),vI 8 v1],[oX 2 79 (Qac.enc v)]⟩⟩
def QdG (Γ:Gam) (rv:Int) (s0:List Qac) (v:Qac):Prop:=QeB Γ rv ⟨[.c 7],⟨19,[],[]⟩⟩
theorem QgJ (Γ:Gam) (rv:Int) {s0 v} {s:Int} {e:(Unit) ⊕ (Int)} (h:loopF (fun s=>QaO s0 v s) s = some e) (hD:sel e (fun e=>QdG Γ rv s0 v) (fun e=>e = rv)):QdV Γ rv s0 v s:=by
 refine QaI (C:=fun (s:Int)=>QdV Γ rv s0 v s) (D:=fun (e:(Unit) ⊕ (Int))=>sel e (fun e=>QdG Γ rv s0 v) (fun e=>e = rv)) ?_ h hD
 clear h hD s e
 intro v1 z_ h hI hE
 replace h:QaO s0 v v1 = _:=h
 unfold QaO at h
 rcases Qai h with ⟨h0,h⟩|⟨h0,h⟩
 ·obtain ⟨x0,h1,h⟩:=Qae h
  rcases Qai h with ⟨h2,h⟩|⟨h2,h⟩
  ·obtain rfl:=(hE _ (oJ h):_ = rv)
   exact gr 14 [] [bT h0,hH (.draw 6 []),cE Qac.enc h1,bT h2]
  ·exact gn 16 [0,3,7,8] [0] [bT h0,hH (.draw 6 []),cE Qac.enc h1,bF h2] (hI _ (oJ h))
 ·exact gn 5 [] [] [bF h0] (hE _ (oJ h))
theorem Qen {s0 v} {rv:Int} (h:Qbk s0 v = some rv):AFn Tryz.prog 143 [.one (lL 2 s0 Qac.enc),.agg (Qac.enc v)] [] (one (lI rv)) []:=by
 refine QaS Tryz.func143 (by kernel_rfl) (by kernel_rfl) (fun Γ=>?_)
 unfold Qbk at h
 obtain ⟨e0,h3,h⟩:=Qae h
 refine gn 7 [0,3,7,8] [0] [nL Qac.enc s0] (QgJ Γ rv h3 ?_)
 rcases e0 with e0|e0
 ·replace h:(some (-1):Option Int) = some _:=h
  obtain rfl:=Option.some.inj h
  exact gr 2 [] []
 ·obtain ⟨r,rfl⟩:∃ x,x = e0:=⟨_,rfl⟩
  replace h:(some r:Option Int) = some _:=h
  exact Option.some.inj h
theorem QhQ {l v} {rv:Int} (h:Qgd l v = some rv):AFn Tryz.prog 113 [.one (lL 2 l Qac.enc),.agg (Qac.enc v)] [] (one (lI rv)) []:=by
 refine QaS Tryz.func113 (by kernel_rfl) (by kernel_rfl) (fun Γ=>?_)
 unfold Qgd at h
 obtain ⟨r,h0,h⟩:=Qae h
 obtain rfl:=Option.some.inj h
 exact gr 4 [] [cC (Qen h0)]
def Qo8 (Γ:Gam) (rv:Bool) (cf:Cf):Prop:=Go Tryz.prog Tryz.f69 [] Γ (one (.bool rv)) [] cf
def Qmy (Γ:Gam) (rv:Bool) (l:List Qac) (v:Int):Prop:=Qo8 Γ rv ⟨[.c 52,.l 52,.b 0,.c 7],⟨19,[vL 0 2 l Qac.enc,vL 5 2 l Qac.enc,vI 6 (lenI l),vI 7 v],[]⟩⟩
def QlZ (Γ:Gam) (rv:Bool) (l:List Qac):Prop:=Qo8 Γ rv ⟨[.c 7],⟨19,[],[]⟩⟩
theorem Qp6 (Γ:Gam) (rv:Bool) {l} {s:Int} {e:(Unit) ⊕ (Bool)} (h:loopF (fun s=>QcX l s) s = some e) (hD:sel e (fun e=>QlZ Γ rv l) (fun e=>e = rv)):Qmy Γ rv l s:=by
 refine QaI (C:=fun (s:Int)=>Qmy Γ rv l s) (D:=fun (e:(Unit) ⊕ (Bool))=>sel e (fun e=>QlZ Γ rv l) (fun e=>e = rv)) ?_ h hD
 clear h hD s e
 intro v z_ h hI hE
 replace h:QcX l v = _:=h
 unfold QcX at h
 rcases Qai h with ⟨h0,h⟩|⟨h0,h⟩
 ·obtain ⟨x0,h1,h⟩:=Qae h
  obtain ⟨l1,h2,h⟩:=Qae h
  obtain ⟨r,h3,h⟩:=Qae h
  rcases Qai h with ⟨h4,h⟩|⟨h4,h⟩
  ·obtain rfl:=(hE _ (oJ h):_ = rv)
   exact gr 14 [] [bT h0,cE Qac.enc h1,hH (.draw 6 []),hH (.rows (l1.map Qac.enc)),oO (sl1 h2),oO (sl2 h2),oO (sl3 Qac.enc h2),oO (Int.le_refl v),oO (sl3 Qac.enc h2),oO (sl6 Qac.enc h2),cC (QhQ h3),bT h4]
  ·exact gn 16 [0,5,6,7] [] [bT h0,cE Qac.enc h1,hH (.draw 6 []),hH (.rows (l1.map Qac.enc)),oO (sl1 h2),oO (sl2 h2),oO (sl3 Qac.enc h2),oO (Int.le_refl v),oO (sl3 Qac.enc h2),oO (sl6 Qac.enc h2),cC (QhQ h3),bF h4] (hI _ (oJ h))
 ·exact gn 5 [] [] [bF h0] (hE _ (oJ h))
theorem QkA {l} {rv:Bool} (h:QiJ l = some rv):AFn Tryz.prog 69 [.one (lL 2 l Qac.enc)] [] (one (.bool rv)) []:=by
 refine QaS Tryz.func69 (by kernel_rfl) (by kernel_rfl) (fun Γ=>?_)
 unfold QiJ at h
 obtain ⟨e0,h5,h⟩:=Qae h
 refine gn 7 [0,5,6,7] [] [nL Qac.enc l] (Qp6 Γ rv h5 ?_)
 rcases e0 with e0|e0
 ·replace h:(some false:Option Bool) = some _:=h
  obtain rfl:=Option.some.inj h
  exact gr 2 [] []
 ·obtain ⟨r1,rfl⟩:∃ x,x = e0:=⟨_,rfl⟩
  replace h:(some r1:Option Bool) = some _:=h
  exact Option.some.inj h
theorem Qha {l at_} {rv:Bool} (h:Qlm l at_ = some rv):AFn Tryz.prog 90 [.one (lL 16 l Qak.enc),.one (lI at_)] [] (one (.bool rv)) []:=by
 refine QaS Tryz.func90 (by kernel_rfl) (by kernel_rfl) (fun Γ=>?_)
 unfold Qlm at h
 obtain rfl:=Option.some.inj h
 exact gr 4 [] [hP,hP,hP,oI ((geI at_ 0) = true),nL Qak.enc l,hP,hP,rp 2 (oI ((geI at_ 0) = true)),oR True ((geI at_ 0) = true)]
def Qty (Γ:Gam) (rv:List Qac) (cf:Cf):Prop:=Go Tryz.prog Tryz.f114 [] Γ (one (lL 2 rv Qac.enc)) [] cf
theorem Qnd (Γ:Gam) (rv:List Qac) {l at_ l1} (h:Qgp l at_ l1 = some rv):Qty Γ rv ⟨[.c 31],⟨35,[vL 0 16 l Qak.enc,vI 1 at_,vO 5 0 2 l1 Qac.enc],[oS 2 79 l1 Qac.enc]⟩⟩:=by
 unfold Qgp at h
 obtain ⟨x1,h5,h⟩:=Qae h
 rcases Qai h with ⟨h6,h⟩|⟨h6,h⟩
 ·obtain ⟨h7,h⟩:=Qaw h
  obtain rfl:=Option.some.inj h
  exact gr 7 [] [cE Qak.enc h5,bT h6,oO (Eq.refl ([(Qac.mk at_ true)].map Qac.enc).length),aO Qac.enc h7,hW 5,hH (.frz 2),rp 4 (oO (Eq.refl ((l1 ++ [(Qac.mk at_ true)]).map Qac.enc).length))]
 ·obtain rfl:=Option.some.inj h
  exact gr 7 [] [cE Qak.enc h5,bF h6,hW 5,hH (.frz 0),rp 3 (eL l1 Qac.enc)]
theorem QpG {l at_} {rv:List Qac} (h:QlO l at_ = some rv):AFn Tryz.prog 114 [.one (lL 16 l Qak.enc),.one (lI at_)] [] (one (lL 2 rv Qac.enc)) []:=by
 refine QaS Tryz.func114 (by kernel_rfl) (by kernel_rfl) (fun Γ=>?_)
 unfold QlO at h
 obtain ⟨r,h0,h⟩:=Qae h
 rcases Qai h with ⟨h1,h⟩|⟨h1,h⟩
 ·obtain ⟨x0,h2,h⟩:=Qae h
  rcases Qai h with ⟨h3,h⟩|⟨h3,h⟩
  ·obtain ⟨h4,h⟩:=Qaw h
   exact gn 14 [0,1,5] [1] [cC (Qha h0),nF h1,cE Qak.enc h2,bT h3,oO (Eq.refl ([(Qac.mk at_ false)].map Qac.enc).length),aN (l:=([(Qac.mk at_ false)]:List Qac)) Qac.enc h4] (Qnd Γ rv h)
  ·exact gn 14 [0,1,5] [0] [cC (Qha h0),nF h1,cE Qak.enc h2,bF h3,hW 1,hH (.adopt 5 2 79)] (Qnd Γ rv h)
 ·obtain rfl:=Option.some.inj h
  exact gr 10 [] [cC (Qha h0),nT h1,hW 3,hH (.nilS 4 0 2)]
theorem QdE {s0 v} {rv:Bool} (h:Qbo s0 v = some rv):AFn Tryz.prog 115 [.one (lL 2 s0 Qac.enc),.agg (Qac.enc v)] [] (one (.bool rv)) []:=by
 refine QaS Tryz.func115 (by kernel_rfl) (by kernel_rfl) (fun Γ=>?_)
 unfold Qbo at h
 obtain ⟨r,h0,h⟩:=Qae h
 obtain rfl:=Option.some.inj h
 exact gr 4 [] [cC (Qen h0)]
def QhP (Γ:Gam) (rv:Bool) (cf:Cf):Prop:=Go Tryz.prog Tryz.f70 [] Γ (one (.bool rv)) [] cf
def QlY (Γ:Gam) (rv:Bool) (x0:Qad) (l:List Qac) (v:Int) (r:List Qac) (last_:Int) (v1:Int):Prop:=QhP Γ rv ⟨[.c 108156,.l 108156,.b 2,.b 1,.c 423,.l 52,.b 0,.c 7],⟨42,[vL 1 2 l Qac.enc,vP 2 0 6,vI 8 last_,vL 12 2 l Qac.enc,vI 13 (lenI l),vI 14 v,vL 27 2 r Qac.enc,vI 28 (lenI r),vI 29 v1],[oX 6 30 (Qad.enc x0)]⟩⟩
def Qk8 (Γ:Gam) (rv:Bool) (x0:Qad) (l:List Qac) (v:Int) (r:List Qac):Prop:=QhP Γ rv ⟨[.b 1,.c 423,.l 52,.b 0,.c 7],⟨42,[vL 1 2 l Qac.enc,vP 2 0 6,vL 12 2 l Qac.enc,vI 13 (lenI l),vI 14 v],[oX 6 30 (Qad.enc x0)]⟩⟩
def QlX (Γ:Gam) (rv:Bool) (x0:Qad) (l:List Qac) (v:Int):Prop:=QhP Γ rv ⟨[.c 52,.l 52,.b 0,.c 7],⟨42,[vL 1 2 l Qac.enc,vP 2 0 6,vL 12 2 l Qac.enc,vI 13 (lenI l),vI 14 v],[oX 6 30 (Qad.enc x0)]⟩⟩
def Qk7 (Γ:Gam) (rv:Bool) (x0:Qad) (l:List Qac):Prop:=QhP Γ rv ⟨[.c 7],⟨42,[],[]⟩⟩
theorem Qpz (Γ:Gam) (rv:Bool) {x0 l v r} {s:Int × Int} {e:(Unit) ⊕ (Bool)} (h:loopF (fun s=>Qbh x0 l v r s.1 s.2) s = some e) (hD:sel e (fun e=>Qk8 Γ rv x0 l v r) (fun e=>e = rv)):QlY Γ rv x0 l v r s.1 s.2:=by
 refine QaI (C:=fun (s:Int × Int)=>QlY Γ rv x0 l v r s.1 s.2) (D:=fun (e:(Unit) ⊕ (Bool))=>sel e (fun e=>Qk8 Γ rv x0 l v r) (fun e=>e = rv)) ?_ h hD
 clear h hD s e
 rintro ⟨last_,v1⟩ z_ h hI hE
 replace h:Qbh x0 l v r last_ v1 = _:=h
 unfold Qbh at h
 rcases Qai h with ⟨h5,h⟩|⟨h5,h⟩
 ·obtain ⟨x2,h6,h⟩:=Qae h
  obtain ⟨r2,h7,h⟩:=Qae h
  rcases Qai h with ⟨h8,h⟩|⟨h8,h⟩
  ·obtain rfl:=(hE _ (oJ h):_ = rv)
   exact gr 17 [] [bT h5,cE Qac.enc h6,cC (QhQ h7),bT h8]
  ·exact gn 20 [1,2,8,12,13,14,27,28,29] [0] [bT h5,cE Qac.enc h6,cC (QhQ h7),bF h8] (hI _ (oJ h))
 ·exact gn 5 [1,2,12,13,14] [0] [bF h5] (hE _ (oJ h))
theorem Qpy (Γ:Gam) (rv:Bool) {x0 l} {s:Int} {e:(Unit) ⊕ (Bool)} (h:loopF (fun s=>QcF x0 l s) s = some e) (hD:sel e (fun e=>Qk7 Γ rv x0 l) (fun e=>e = rv)):QlX Γ rv x0 l s:=by
 refine QaI (C:=fun (s:Int)=>QlX Γ rv x0 l s) (D:=fun (e:(Unit) ⊕ (Bool))=>sel e (fun e=>Qk7 Γ rv x0 l) (fun e=>e = rv)) ?_ h hD
 clear h hD s e
 intro v z_ h hI hE
 replace h:QcF x0 l v = _:=h
 unfold QcF at h
 rcases Qai h with ⟨h0,h⟩|⟨h0,h⟩
 ·obtain ⟨x1,h1,h⟩:=Qae h
  obtain ⟨r,h2,h⟩:=Qae h
  obtain ⟨r1,h3,h⟩:=Qae h
  rcases Qai h with ⟨h4,h⟩|⟨h4,h⟩
  ·obtain ⟨e0,h9,h⟩:=Qae h
   refine gn 22 [1,2,8,12,13,14,27,28,29] [0] [bT h0,cE Qac.enc h1,cC (QpG h2),cC (QdE h3),nF h4,nL Qac.enc r] (Qpz Γ rv h9 ?_)
   rcases e0 with e0|e0
   ·replace h:(some (.inl (addK .i64 v 1)):Option ((Int) ⊕ ((Unit) ⊕ (Bool)))) = some _:=h
    exact gn 3 [1,2,12,13,14] [0] [] (hI _ (oJ h))
   ·obtain ⟨r3,rfl⟩:∃ x,x = e0:=⟨_,rfl⟩
    replace h:(some (.inr (.inr r3)):Option ((Int) ⊕ ((Unit) ⊕ (Bool)))) = some _:=h
    exact (hE _ (oJ h):_ = rv)
  ·obtain rfl:=(hE _ (oJ h):_ = rv)
   exact gr 17 [] [bT h0,cE Qac.enc h1,cC (QpG h2),cC (QdE h3),nT h4]
 ·exact gn 5 [] [] [bF h0] (hE _ (oJ h))
theorem Qnj {x0 l} {rv:Bool} (h:QhK x0 l = some rv):AFn Tryz.prog 70 [.agg (Qad.enc x0),.one (lL 2 l Qac.enc)] [] (one (.bool rv)) []:=by
 refine QaS Tryz.func70 (by kernel_rfl) (by kernel_rfl) (fun Γ=>?_)
 unfold QhK at h
 obtain ⟨e1,h10,h⟩:=Qae h
 refine gn 7 [1,2,12,13,14] [0] [nL Qac.enc l] (Qpy Γ rv h10 ?_)
 rcases e1 with e1|e1
 ·replace h:(some true:Option Bool) = some _:=h
  obtain rfl:=Option.some.inj h
  exact gr 2 [] []
 ·obtain ⟨r4,rfl⟩:∃ x,x = e1:=⟨_,rfl⟩
  replace h:(some r4:Option Bool) = some _:=h
  exact Option.some.inj h
theorem Qn7 {v c} {rv:Bool} (h:Qlf v c = some rv):AFn Tryz.prog 116 [.agg (Qac.enc v),.one (.ip [lI c] 0)] [] (one (.bool rv)) []:=by
 refine QaS Tryz.func116 (by kernel_rfl) (by kernel_rfl) (fun Γ=>?_)
 unfold Qlf at h
 obtain rfl:=Option.some.inj h
 exact gr 4 [] []
def QcY (Γ:Gam) (rv:Int) (cf:Cf):Prop:=Go Tryz.prog Tryz.f104 [] Γ (one (lI rv)) [] cf
def QcH (Γ:Gam) (rv:Int) (s0:List Qac) (c:Int) (v:Int):Prop:=QcY Γ rv ⟨[.c 52,.l 52,.b 0,.c 7],⟨19,[vL 0 2 s0 Qac.enc,(1,one (.fn (.func 116) [.ip [lI c] 0])),vI 7 (lenI s0),vI 8 v],[]⟩⟩
def QcA (Γ:Gam) (rv:Int) (s0:List Qac) (c:Int):Prop:=QcY Γ rv ⟨[.c 7],⟨19,[],[]⟩⟩
theorem Qe4 (Γ:Gam) (rv:Int) {s0 c} {s:Int} {e:(Unit) ⊕ (Int)} (h:loopF (fun s=>QaD s0 c s) s = some e) (hD:sel e (fun e=>QcA Γ rv s0 c) (fun e=>e = rv)):QcH Γ rv s0 c s:=by
 refine QaI (C:=fun (s:Int)=>QcH Γ rv s0 c s) (D:=fun (e:(Unit) ⊕ (Int))=>sel e (fun e=>QcA Γ rv s0 c) (fun e=>e = rv)) ?_ h hD
 clear h hD s e
 intro v z_ h hI hE
 replace h:QaD s0 c v = _:=h
 unfold QaD at h
 rcases Qai h with ⟨h0,h⟩|⟨h0,h⟩
 ·obtain ⟨x0,h1,h⟩:=Qae h
  obtain ⟨r,h2,h⟩:=Qae h
  rcases Qai h with ⟨h3,h⟩|⟨h3,h⟩
  ·obtain rfl:=(hE _ (oJ h):_ = rv)
   exact gr 14 [] [bT h0,cE Qac.enc h1,cC (Qn7 h2),bT h3]
  ·exact gn 16 [0,1,7,8] [] [bT h0,cE Qac.enc h1,cC (Qn7 h2),bF h3] (hI _ (oJ h))
 ·exact gn 5 [] [] [bF h0] (hE _ (oJ h))
theorem QfE {s0 c} {rv:Int} (h:Qa8 s0 c = some rv):AFn Tryz.prog 104 [.one (lL 2 s0 Qac.enc),.one (.fn (.func 116) [.ip [lI c] 0])] [] (one (lI rv)) []:=by
 refine QaS Tryz.func104 (by kernel_rfl) (by kernel_rfl) (fun Γ=>?_)
 unfold Qa8 at h
 obtain ⟨e0,h4,h⟩:=Qae h
 refine gn 7 [0,1,7,8] [] [nL Qac.enc s0] (Qe4 Γ rv h4 ?_)
 rcases e0 with e0|e0
 ·replace h:(some (-1):Option Int) = some _:=h
  obtain rfl:=Option.some.inj h
  exact gr 2 [] []
 ·obtain ⟨r1,rfl⟩:∃ x,x = e0:=⟨_,rfl⟩
  replace h:(some r1:Option Int) = some _:=h
  exact Option.some.inj h
theorem Qe3 {s0 c} {rv:Bool} (h:Qbj s0 c = some rv):AFn Tryz.prog 60 [.one (lL 2 s0 Qac.enc),.one (.fn (.func 116) [.ip [lI c] 0])] [] (one (.bool rv)) []:=by
 refine QaS Tryz.func60 (by kernel_rfl) (by kernel_rfl) (fun Γ=>?_)
 unfold Qbj at h
 obtain ⟨r,h0,h⟩:=Qae h
 obtain rfl:=Option.some.inj h
 exact gr 4 [] [cC (QfE h0)]
theorem Qez {l o} {rv:Bool} (h:Qg2 l o = some rv):AFn Tryz.prog 71 [.one (lL 2 l Qac.enc),.one (lI o)] [] (one (.bool rv)) []:=by
 refine QaS Tryz.func71 (by kernel_rfl) (by kernel_rfl) (fun Γ=>?_)
 unfold Qg2 at h
 obtain ⟨r,h0,h⟩:=Qae h
 obtain rfl:=Option.some.inj h
 exact gr 4 [] [cC (Qe3 h0)]
theorem QlW {v c} {rv:Bool} (h:QhO v c = some rv):AFn Tryz.prog 117 [.agg (Qac.enc v),.one (.ip [lI c] 0)] [] (one (.bool rv)) []:=by
 refine QaS Tryz.func117 (by kernel_rfl) (by kernel_rfl) (fun Γ=>?_)
 unfold QhO at h
 obtain rfl:=Option.some.inj h
 exact gr 4 [] []
def QcG (Γ:Gam) (rv:Int) (cf:Cf):Prop:=Go Tryz.prog Tryz.f104 [] Γ (one (lI rv)) [] cf
def Qcm (Γ:Gam) (rv:Int) (s0:List Qac) (c:Int) (v:Int):Prop:=QcG Γ rv ⟨[.c 52,.l 52,.b 0,.c 7],⟨19,[vL 0 2 s0 Qac.enc,(1,one (.fn (.func 117) [.ip [lI c] 0])),vI 7 (lenI s0),vI 8 v],[]⟩⟩
def Qci (Γ:Gam) (rv:Int) (s0:List Qac) (c:Int):Prop:=QcG Γ rv ⟨[.c 7],⟨19,[],[]⟩⟩
theorem Qeu (Γ:Gam) (rv:Int) {s0 c} {s:Int} {e:(Unit) ⊕ (Int)} (h:loopF (fun s=>Qay s0 c s) s = some e) (hD:sel e (fun e=>Qci Γ rv s0 c) (fun e=>e = rv)):Qcm Γ rv s0 c s:=by
 refine QaI (C:=fun (s:Int)=>Qcm Γ rv s0 c s) (D:=fun (e:(Unit) ⊕ (Int))=>sel e (fun e=>Qci Γ rv s0 c) (fun e=>e = rv)) ?_ h hD
 clear h hD s e
 intro v z_ h hI hE
 replace h:Qay s0 c v = _:=h
 unfold Qay at h
 rcases Qai h with ⟨h0,h⟩|⟨h0,h⟩
 ·obtain ⟨x0,h1,h⟩:=Qae h
  obtain ⟨r,h2,h⟩:=Qae h
  rcases Qai h with ⟨h3,h⟩|⟨h3,h⟩
  ·obtain rfl:=(hE _ (oJ h):_ = rv)
   exact gr 14 [] [bT h0,cE Qac.enc h1,cC (QlW h2),bT h3]
  ·exact gn 16 [0,1,7,8] [] [bT h0,cE Qac.enc h1,cC (QlW h2),bF h3] (hI _ (oJ h))
 ·exact gn 5 [] [] [bF h0] (hE _ (oJ h))
theorem QbA {s0 c} {rv:Int} (h:Qa1 s0 c = some rv):AFn Tryz.prog 104 [.one (lL 2 s0 Qac.enc),.one (.fn (.func 117) [.ip [lI c] 0])] [] (one (lI rv)) []:=by
 refine QaS Tryz.func104 (by kernel_rfl) (by kernel_rfl) (fun Γ=>?_)
 unfold Qa1 at h
 obtain ⟨e0,h4,h⟩:=Qae h
 refine gn 7 [0,1,7,8] [] [nL Qac.enc s0] (Qeu Γ rv h4 ?_)
 rcases e0 with e0|e0
 ·replace h:(some (-1):Option Int) = some _:=h
  obtain rfl:=Option.some.inj h
  exact gr 2 [] []
 ·obtain ⟨r1,rfl⟩:∃ x,x = e0:=⟨_,rfl⟩
  replace h:(some r1:Option Int) = some _:=h
  exact Option.some.inj h
theorem Qni {l a b} {rv:Bool} (h:QhJ l a b = some rv):AFn Tryz.prog 72 [.one (lL 2 l Qac.enc),.one (lI a),.one (lI b)] [] (one (.bool rv)) []:=by
 refine QaS Tryz.func72 (by kernel_rfl) (by kernel_rfl) (fun Γ=>?_)
 unfold QhJ at h
 obtain ⟨r,h0,h⟩:=Qae h
 rcases Qai h with ⟨h1,h⟩|⟨h1,h⟩
 ·obtain rfl:=Option.some.inj h
  exact gr 10 [] [cC (QbA h0),bT h1]
 ·obtain ⟨r1,h2,h⟩:=Qae h
  rcases Qai h with ⟨h3,h⟩|⟨h3,h⟩
  ·obtain ⟨l1,h4,h⟩:=Qae h
   obtain ⟨r2,h5,h⟩:=Qae h
   obtain rfl:=Option.some.inj h
   exact gr 11 [] [cC (QbA h0),bF h1,cC (Qez h2),rp 3 (bT h3),hH (.rows (l1.map Qac.enc)),oO (sl1 h4),oO (sl2h Qac.enc h4),rp 3 (oO (Int.le_refl ((l.map Qac.enc).length:Int))),oO (sl6h Qac.enc h4),bT h3,bT h3,cC (Qez h5),bT h3,bT h3]
  ·obtain rfl:=Option.some.inj h
   exact gr 11 [] [cC (QbA h0),bF h1,cC (Qez h2),rp 7 (bF h3)]
theorem Qmu {v c} {rv:Bool} (h:QiG v c = some rv):AFn Tryz.prog 67 [.agg (Qac.enc v),.one (.ip (Qad.enc c) 0)] [] (one (.bool rv)) []:=by
 refine QaS Tryz.func67 (by kernel_rfl) (by kernel_rfl) (fun Γ=>?_)
 unfold QiG at h
 obtain rfl:=Option.some.inj h
 exact gr 4 [] [rp 5 hP,rp 3 (oI ((ltI v.order 0) = false)),nL Qak.enc c.orders,hP,hP,rp 2 (oI ((ltI v.order 0) = false)),oR True ((ltI v.order 0) = false)]
def QcP (Γ:Gam) (rv:Int) (cf:Cf):Prop:=Go Tryz.prog Tryz.f104 [] Γ (one (lI rv)) [] cf
def Qct (Γ:Gam) (rv:Int) (s0:List Qac) (c:Qad) (v:Int):Prop:=QcP Γ rv ⟨[.c 52,.l 52,.b 0,.c 7],⟨19,[vL 0 2 s0 Qac.enc,(1,one (.fn (.func 67) [.ip (Qad.enc c) 0])),vI 7 (lenI s0),vI 8 v],[]⟩⟩
def Qck (Γ:Gam) (rv:Int) (s0:List Qac) (c:Qad):Prop:=QcP Γ rv ⟨[.c 7],⟨19,[],[]⟩⟩
theorem QeO (Γ:Gam) (rv:Int) {s0 c} {s:Int} {e:(Unit) ⊕ (Int)} (h:loopF (fun s=>QaA s0 c s) s = some e) (hD:sel e (fun e=>Qck Γ rv s0 c) (fun e=>e = rv)):Qct Γ rv s0 c s:=by
 refine QaI (C:=fun (s:Int)=>Qct Γ rv s0 c s) (D:=fun (e:(Unit) ⊕ (Int))=>sel e (fun e=>Qck Γ rv s0 c) (fun e=>e = rv)) ?_ h hD
 clear h hD s e
 intro v z_ h hI hE
 replace h:QaA s0 c v = _:=h
 unfold QaA at h
 rcases Qai h with ⟨h0,h⟩|⟨h0,h⟩
 ·obtain ⟨x0,h1,h⟩:=Qae h
  obtain ⟨r,h2,h⟩:=Qae h
  rcases Qai h with ⟨h3,h⟩|⟨h3,h⟩
  ·obtain rfl:=(hE _ (oJ h):_ = rv)
   exact gr 14 [] [bT h0,cE Qac.enc h1,cC (Qmu h2),bT h3]
  ·exact gn 16 [0,1,7,8] [] [bT h0,cE Qac.enc h1,cC (Qmu h2),bF h3] (hI _ (oJ h))
 ·exact gn 5 [] [] [bF h0] (hE _ (oJ h))
theorem Qe8 {s0 c} {rv:Int} (h:Qa3 s0 c = some rv):AFn Tryz.prog 104 [.one (lL 2 s0 Qac.enc),.one (.fn (.func 67) [.ip (Qad.enc c) 0])] [] (one (lI rv)) []:=by
 refine QaS Tryz.func104 (by kernel_rfl) (by kernel_rfl) (fun Γ=>?_)
 unfold Qa3 at h
 obtain ⟨e0,h4,h⟩:=Qae h
 refine gn 7 [0,1,7,8] [] [nL Qac.enc s0] (QeO Γ rv h4 ?_)
 rcases e0 with e0|e0
 ·replace h:(some (-1):Option Int) = some _:=h
  obtain rfl:=Option.some.inj h
  exact gr 2 [] []
 ·obtain ⟨r1,rfl⟩:∃ x,x = e0:=⟨_,rfl⟩
  replace h:(some r1:Option Int) = some _:=h
  exact Option.some.inj h
theorem QaU {s0 c} {rv:Bool} (h:QaY s0 c = some rv):AFn Tryz.prog 60 [.one (lL 2 s0 Qac.enc),.one (.fn (.func 67) [.ip (Qad.enc c) 0])] [] (one (.bool rv)) []:=by
 refine QaS Tryz.func60 (by kernel_rfl) (by kernel_rfl) (fun Γ=>?_)
 unfold QaY at h
 obtain ⟨r,h0,h⟩:=Qae h
 obtain rfl:=Option.some.inj h
 exact gr 4 [] [cC (Qe8 h0)]
theorem Qmv {v c} {rv:Bool} (h:QiH v c = some rv):AFn Tryz.prog 68 [.agg (Qac.enc v),.one (.ip (Qad.enc c) 0)] [] (one (.bool rv)) []:=by
 refine QaS Tryz.func68 (by kernel_rfl) (by kernel_rfl) (fun Γ=>?_)
 unfold QiH at h
 obtain ⟨x0,h0,h⟩:=Qae h
 obtain rfl:=Option.some.inj h
 exact gr 4 [] [cE Qak.enc h0]
def QcQ (Γ:Gam) (rv:Int) (cf:Cf):Prop:=Go Tryz.prog Tryz.f104 [] Γ (one (lI rv)) [] cf
def Qcu (Γ:Gam) (rv:Int) (s0:List Qac) (c:Qad) (v:Int):Prop:=QcQ Γ rv ⟨[.c 52,.l 52,.b 0,.c 7],⟨19,[vL 0 2 s0 Qac.enc,(1,one (.fn (.func 68) [.ip (Qad.enc c) 0])),vI 7 (lenI s0),vI 8 v],[]⟩⟩
def Qcl (Γ:Gam) (rv:Int) (s0:List Qac) (c:Qad):Prop:=QcQ Γ rv ⟨[.c 7],⟨19,[],[]⟩⟩
theorem QeP (Γ:Gam) (rv:Int) {s0 c} {s:Int} {e:(Unit) ⊕ (Int)} (h:loopF (fun s=>QaB s0 c s) s = some e) (hD:sel e (fun e=>Qcl Γ rv s0 c) (fun e=>e = rv)):Qcu Γ rv s0 c s:=by
 refine QaI (C:=fun (s:Int)=>Qcu Γ rv s0 c s) (D:=fun (e:(Unit) ⊕ (Int))=>sel e (fun e=>Qcl Γ rv s0 c) (fun e=>e = rv)) ?_ h hD
 clear h hD s e
 intro v z_ h hI hE
 replace h:QaB s0 c v = _:=h
 unfold QaB at h
 rcases Qai h with ⟨h0,h⟩|⟨h0,h⟩
 ·obtain ⟨x0,h1,h⟩:=Qae h
  obtain ⟨r,h2,h⟩:=Qae h
  rcases Qai h with ⟨h3,h⟩|⟨h3,h⟩
  ·obtain rfl:=(hE _ (oJ h):_ = rv)
   exact gr 14 [] [bT h0,cE Qac.enc h1,cC (Qmv h2),bT h3]
  ·exact gn 16 [0,1,7,8] [] [bT h0,cE Qac.enc h1,cC (Qmv h2),bF h3] (hI _ (oJ h))
 ·exact gn 5 [] [] [bF h0] (hE _ (oJ h))
theorem Qe9 {s0 c} {rv:Int} (h:Qa4 s0 c = some rv):AFn Tryz.prog 104 [.one (lL 2 s0 Qac.enc),.one (.fn (.func 68) [.ip (Qad.enc c) 0])] [] (one (lI rv)) []:=by
 refine QaS Tryz.func104 (by kernel_rfl) (by kernel_rfl) (fun Γ=>?_)
 unfold Qa4 at h
 obtain ⟨e0,h4,h⟩:=Qae h
 refine gn 7 [0,1,7,8] [] [nL Qac.enc s0] (QeP Γ rv h4 ?_)
 rcases e0 with e0|e0
 ·replace h:(some (-1):Option Int) = some _:=h
  obtain rfl:=Option.some.inj h
  exact gr 2 [] []
 ·obtain ⟨r1,rfl⟩:∃ x,x = e0:=⟨_,rfl⟩
  replace h:(some r1:Option Int) = some _:=h
  exact Option.some.inj h
theorem Qa9 {s0 c} {rv:Bool} (h:QaZ s0 c = some rv):AFn Tryz.prog 60 [.one (lL 2 s0 Qac.enc),.one (.fn (.func 68) [.ip (Qad.enc c) 0])] [] (one (.bool rv)) []:=by
 refine QaS Tryz.func60 (by kernel_rfl) (by kernel_rfl) (fun Γ=>?_)
 unfold QaZ at h
 obtain ⟨r,h0,h⟩:=Qae h
 obtain rfl:=Option.some.inj h
 exact gr 4 [] [cC (Qe9 h0)]
def QiI (Γ:Gam) (rv:Int) (cf:Cf):Prop:=Go Tryz.prog Tryz.f39 [] Γ (one (lI rv)) [] cf
def Qmw (Γ:Gam) (rv:Int) (x0:Qad) (r:Qab) (v:Int):Prop:=QiI Γ rv ⟨[.c 500,.l 500,.b 1,.c 63],⟨65,[vP 2 0 6,vL 5 2 r.visits Qac.enc,vL 33 2 x0.apart QaW.enc,vI 34 (lenI x0.apart),vI 35 v],[oX 6 30 (Qad.enc x0)]⟩⟩
def QlT (Γ:Gam) (rv:Int) (x0:Qad) (r:Qab):Prop:=QiI Γ rv ⟨[.c 63],⟨65,[vP 2 0 6,vL 5 2 r.visits Qac.enc],[oX 6 30 (Qad.enc x0)]⟩⟩
def Qmx (Γ:Gam) (rv:Int) (x0:Qad) (r:Qab) (v1:Int):Prop:=QiI Γ rv ⟨[.c 1012,.l 1012,.b 3,.c 127],⟨65,[vL 5 2 r.visits Qac.enc,vL 51 2 x0.before QaW.enc,vI 52 (lenI x0.before),vI 53 v1],[]⟩⟩
def QlU (Γ:Gam) (rv:Int) (x0:Qad) (r:Qab):Prop:=QiI Γ rv ⟨[.c 127],⟨65,[],[]⟩⟩
theorem Qp4 (Γ:Gam) (rv:Int) {x0 r} {s:Int} {e:(Unit) ⊕ (Int)} (h:loopF (fun s=>QcW x0 r s) s = some e) (hD:sel e (fun e=>QlT Γ rv x0 r) (fun e=>e = rv)):Qmw Γ rv x0 r s:=by
 refine QaI (C:=fun (s:Int)=>Qmw Γ rv x0 r s) (D:=fun (e:(Unit) ⊕ (Int))=>sel e (fun e=>QlT Γ rv x0 r) (fun e=>e = rv)) ?_ h hD
 clear h hD s e
 intro v z_ h hI hE
 replace h:QcW x0 r v = _:=h
 unfold QcW at h
 rcases Qai h with ⟨h9,h⟩|⟨h9,h⟩
 ·obtain ⟨x1,h10,h⟩:=Qae h
  obtain ⟨r5,h11,h⟩:=Qae h
  rcases Qai h with ⟨h12,h⟩|⟨h12,h⟩
  ·obtain ⟨r6,h13,h⟩:=Qae h
   rcases Qai h with ⟨h14,h⟩|⟨h14,h⟩
   ·obtain rfl:=(hE _ (oJ h):_ = rv)
    exact gr 14 [] [bT h9,cE QaW.enc h10,oO (zL 0),oO (lT 0 2),cC (Qez h11),rp 2 (bT h12),oO (zL 1),oO (lT 1 2),rp 2 (bT h12),cC (Qez h13),bT h12,bT h14]
   ·exact gn 16 [2,5,33,34,35] [0] [bT h9,cE QaW.enc h10,oO (zL 0),oO (lT 0 2),cC (Qez h11),rp 2 (bT h12),oO (zL 1),oO (lT 1 2),rp 2 (bT h12),cC (Qez h13),bT h12,bF h14] (hI _ (oJ h))
  ·exact gn 16 [2,5,33,34,35] [0] [bT h9,cE QaW.enc h10,oO (zL 0),oO (lT 0 2),cC (Qez h11),rp 5 (bF h12),fF] (hI _ (oJ h))
 ·exact gn 5 [2,5] [0] [bF h9] (hE _ (oJ h))
theorem Qp5 (Γ:Gam) (rv:Int) {x0 r} {s:Int} {e:(Unit) ⊕ (Int)} (h:loopF (fun s=>Qcz x0 r s) s = some e) (hD:sel e (fun e=>QlU Γ rv x0 r) (fun e=>e = rv)):Qmx Γ rv x0 r s:=by
 refine QaI (C:=fun (s:Int)=>Qmx Γ rv x0 r s) (D:=fun (e:(Unit) ⊕ (Int))=>sel e (fun e=>QlU Γ rv x0 r) (fun e=>e = rv)) ?_ h hD
 clear h hD s e
 intro v1 z_ h hI hE
 replace h:Qcz x0 r v1 = _:=h
 unfold Qcz at h
 rcases Qai h with ⟨h16,h⟩|⟨h16,h⟩
 ·obtain ⟨x2,h17,h⟩:=Qae h
  obtain ⟨r7,h18,h⟩:=Qae h
  rcases Qai h with ⟨h19,h⟩|⟨h19,h⟩
  ·exact gn 16 [5,51,52,53] [] [bT h16,cE QaW.enc h17,oO (zL 0),oO (lT 0 2),oO (zL 1),oO (lT 1 2),cC (Qni h18),nF h19] (hI _ (oJ h))
  ·obtain rfl:=(hE _ (oJ h):_ = rv)
   exact gr 14 [] [bT h16,cE QaW.enc h17,oO (zL 0),oO (lT 0 2),oO (zL 1),oO (lT 1 2),cC (Qni h18),nT h19]
 ·exact gn 5 [] [] [bF h16] (hE _ (oJ h))
theorem Qdr {x0 r} {rv:Int} (h:Qhd x0 r = some rv):AFn Tryz.prog 39 [.agg (Qad.enc x0),.agg (Qab.enc r)] [] (one (lI rv)) []:=by
 refine QaS Tryz.func39 (by kernel_rfl) (by kernel_rfl) (fun Γ=>?_)
 unfold Qhd at h
 rcases Qai h with ⟨h0,h⟩|⟨h0,h⟩
 ·obtain rfl:=Option.some.inj h
  exact gr 10 [] [nL Qac.enc r.visits,rp 4 (bT h0),tT]
 ·obtain ⟨r1,h1,h⟩:=Qae h
  rcases Qai h with ⟨h2,h⟩|⟨h2,h⟩
  ·obtain rfl:=Option.some.inj h
   exact gr 10 [] [nL Qac.enc r.visits,rp 3 (bF h0),cC (QaU h1),bF h0,bT h2]
  ·obtain ⟨r2,h3,h⟩:=Qae h
   rcases Qai h with ⟨h4,h⟩|⟨h4,h⟩
   ·obtain rfl:=Option.some.inj h
    exact gr 16 [] [nL Qac.enc r.visits,rp 3 (bF h0),cC (QaU h1),bF h0,bF h2,cC (Qa9 h3),bT h4]
   ·obtain ⟨r3,h5,h⟩:=Qae h
    rcases Qai h with ⟨h6,h⟩|⟨h6,h⟩
    ·obtain rfl:=Option.some.inj h
     exact gr 19 [] [nL Qac.enc r.visits,rp 3 (bF h0),cC (QaU h1),bF h0,bF h2,cC (Qa9 h3),bF h4,cC (QkA h5),bT h6]
    ·obtain ⟨r4,h7,h⟩:=Qae h
     rcases Qai h with ⟨h8,h⟩|⟨h8,h⟩
     ·obtain ⟨e0,h15,h⟩:=Qae h
      refine gn 27 [2,5,33,34,35] [0] [nL Qac.enc r.visits,rp 3 (bF h0),cC (QaU h1),bF h0,bF h2,cC (Qa9 h3),bF h4,cC (QkA h5),bF h6,cC (Qnj h7),nF h8,nL QaW.enc x0.apart] (Qp4 Γ rv h15 ?_)
      rcases e0 with e0|e0
      ·replace h:(bnd (loopF (fun s=>Qcz x0 r s) 0) (fun e=>sel e (fun (_:Unit)=>some 0) (fun r8=>some r8)):Option Int) = some _:=h
       obtain ⟨e1,h20,h⟩:=Qae h
       refine gn 5 [5,51,52,53] [] [nL QaW.enc x0.before] (Qp5 Γ rv h20 ?_)
       rcases e1 with e1|e1
       ·replace h:(some 0:Option Int) = some _:=h
        obtain rfl:=Option.some.inj h
        exact gr 2 [] []
       ·obtain ⟨r8,rfl⟩:∃ x,x = e1:=⟨_,rfl⟩
        replace h:(some r8:Option Int) = some _:=h
        exact Option.some.inj h
      ·obtain ⟨r9,rfl⟩:∃ x,x = e0:=⟨_,rfl⟩
       replace h:(some r9:Option Int) = some _:=h
       exact Option.some.inj h
     ·obtain rfl:=Option.some.inj h
      exact gr 22 [] [nL Qac.enc r.visits,rp 3 (bF h0),cC (QaU h1),bF h0,bF h2,cC (Qa9 h3),bF h4,cC (QkA h5),bF h6,cC (Qnj h7),nT h8]
theorem Qrj {t skills} {rv:Bool} (h:QlA t skills = some rv):AFn Tryz.prog 73 [.agg (Qal.enc t),.one (lI skills)] [] (one (.bool rv)) []:=by
 refine QaS Tryz.func73 (by kernel_rfl) (by kernel_rfl) (fun Γ=>?_)
 unfold QlA at h
 obtain rfl:=Option.some.inj h
 exact gr 4 [] [rp 9 hP,oI ((geI t.skills 0) = true),oR True ((geI t.skills 0) = true),rp 4 (oI (((geI t.skills 0) && (geI skills 0)) = true)),oR True (((geI t.skills 0) && (geI skills 0)) = true)]
def Qsm (Γ:Gam) (rv:Int) (cf:Cf):Prop:=Go Tryz.prog Tryz.f40 [] Γ (one (lI rv)) [] cf
def QpN (Γ:Gam) (rv:Int) (x0:Qad) (r:Qab) (v:Int):Prop:=Qsm Γ rv ⟨[.c 52,.l 52,.b 0,.c 7],⟨30,[vP 2 0 6,vP 3 1 4,vL 8 2 r.visits Qac.enc,vI 9 (lenI r.visits),vI 10 v],[oX 6 30 (Qad.enc x0),oX 4 34 (Qab.enc r)]⟩⟩
def Qo7 (Γ:Gam) (rv:Int) (x0:Qad) (r:Qab):Prop:=Qsm Γ rv ⟨[.c 7],⟨30,[],[]⟩⟩
theorem Qsn (Γ:Gam) (rv:Int) {x0 r} {s:Int} {e:(Unit) ⊕ (Int)} (h:loopF (fun s=>QcO x0 r s) s = some e) (hD:sel e (fun e=>Qo7 Γ rv x0 r) (fun e=>e = rv)):QpN Γ rv x0 r s:=by
 refine QaI (C:=fun (s:Int)=>QpN Γ rv x0 r s) (D:=fun (e:(Unit) ⊕ (Int))=>sel e (fun e=>Qo7 Γ rv x0 r) (fun e=>e = rv)) ?_ h hD
 clear h hD s e
 intro v z_ h hI hE
 replace h:QcO x0 r v = _:=h
 unfold QcO at h
 rcases Qai h with ⟨h0,h⟩|⟨h0,h⟩
 ·obtain ⟨x1,h1,h⟩:=Qae h
  obtain ⟨x2,h2,h⟩:=Qae h
  obtain ⟨x3,h3,h⟩:=Qae h
  obtain ⟨r1,h4,h⟩:=Qae h
  rcases Qai h with ⟨h5,h⟩|⟨h5,h⟩
  ·exact gn 16 [2,3,8,9,10] [0,1] [bT h0,cE Qac.enc h1,hH (.draw 15 []),cE Qal.enc h2,cE Qak.enc h3,cC (Qrj h4),nF h5] (hI _ (oJ h))
  ·obtain rfl:=(hE _ (oJ h):_ = rv)
   exact gr 14 [] [bT h0,cE Qac.enc h1,hH (.draw 15 []),cE Qal.enc h2,cE Qak.enc h3,cC (Qrj h4),nT h5]
 ·exact gn 5 [] [] [bF h0] (hE _ (oJ h))
theorem Qmq {x0 r} {rv:Int} (h:QlS x0 r = some rv):AFn Tryz.prog 40 [.agg (Qad.enc x0),.agg (Qab.enc r)] [] (one (lI rv)) []:=by
 refine QaS Tryz.func40 (by kernel_rfl) (by kernel_rfl) (fun Γ=>?_)
 unfold QlS at h
 obtain ⟨e0,h6,h⟩:=Qae h
 refine gn 7 [2,3,8,9,10] [0,1] [nL Qac.enc r.visits] (Qsn Γ rv h6 ?_)
 rcases e0 with e0|e0
 ·replace h:(some 0:Option Int) = some _:=h
  obtain rfl:=Option.some.inj h
  exact gr 2 [] []
 ·obtain ⟨r2,rfl⟩:∃ x,x = e0:=⟨_,rfl⟩
  replace h:(some r2:Option Int) = some _:=h
  exact Option.some.inj h
def Qn6 (Γ:Gam) (rv:Int × Int) (cf:Cf):Prop:=Go Tryz.prog Tryz.f118 [] Γ (.tup [.one (lI rv.1),.one (lI rv.2)]) [] cf
def QlV (Γ:Gam) (rv:Int × Int) (r:Qab) (set_:Int) (v:Int):Prop:=Qn6 Γ rv ⟨[.c 116,.l 116,.b 0,.c 15],⟨29,[vI 4 set_,vL 8 2 r.visits Qac.enc,vI 9 (lenI r.visits),vI 10 v],[]⟩⟩
def Qk6 (Γ:Gam) (rv:Int × Int) (r:Qab) (set_1:Int):Prop:=Qn6 Γ rv ⟨[.c 15],⟨29,[vI 4 set_1],[]⟩⟩
theorem Qpx (Γ:Gam) (rv:Int × Int) {r} {s:Int × Int} {e:(Int) ⊕ (Int × Int)} (h:loopF (fun s=>QeN r s.1 s.2) s = some e) (hD:sel e (fun e=>Qk6 Γ rv r e) (fun e=>e = rv)):QlV Γ rv r s.1 s.2:=by
 refine QaI (C:=fun (s:Int × Int)=>QlV Γ rv r s.1 s.2) (D:=fun (e:(Int) ⊕ (Int × Int))=>sel e (fun e=>Qk6 Γ rv r e) (fun e=>e = rv)) ?_ h hD
 clear h hD s e
 rintro ⟨set_,v⟩ z_ h hI hE
 replace h:QeN r set_ v = _:=h
 unfold QeN at h
 rcases Qai h with ⟨h0,h⟩|⟨h0,h⟩
 ·obtain ⟨x0,h1,h⟩:=Qae h
  rcases Qai h with ⟨h2,h⟩|⟨h2,h⟩
  ·obtain rfl:=(hE _ (oJ h):_ = rv)
   exact gr 15 [] [bT h0,cE Qac.enc h1,rp 4 hP,rp 2 (oI ((ltI x0.order 0) = false)),oR True ((ltI x0.order 0) = false),bT h2]
  ·obtain ⟨h3,h⟩:=Qaw h
   exact gn 18 [4,8,9,10] [] [bT h0,cE Qac.enc h1,rp 4 hP,rp 2 (oI ((ltI x0.order 0) = false)),oR True ((ltI x0.order 0) = false),bF h2,oO (h3)] (hI _ (oJ h))
 ·exact gn 5 [4] [] [bF h0] (hE _ (oJ h))
theorem Qje {r} {rv:Int × Int} (h:Qgq r = some rv):AFn Tryz.prog 118 [.agg (Qab.enc r)] [] (.tup [.one (lI rv.1),.one (lI rv.2)]) []:=by
 refine QaS Tryz.func118 (by kernel_rfl) (by kernel_rfl) (fun Γ=>?_)
 unfold Qgq at h
 obtain ⟨e0,h4,h⟩:=Qae h
 refine gn 9 [4,8,9,10] [] [nL Qac.enc r.visits] (Qpx Γ rv h4 ?_)
 rcases e0 with e0|e0
 ·obtain ⟨set_1,rfl⟩:∃ x,x = e0:=⟨_,rfl⟩
  replace h:(some (set_1,0):Option (Int × Int)) = some _:=h
  obtain rfl:=Option.some.inj h
  exact gr 2 [] []
 ·obtain ⟨r1,rfl⟩:∃ x,x = e0:=⟨_,rfl⟩
  replace h:(some r1:Option (Int × Int)) = some _:=h
  exact Option.some.inj h
theorem Qub {a b} {rv:Int} (h:Qqk a b = some rv):AFn Tryz.prog 146 [.one (lI a),.one (lI b)] [] (one (lI rv)) []:=by
 refine QaS Tryz.func146 (by kernel_rfl) (by kernel_rfl) (fun Γ=>?_)
 unfold Qqk at h
 obtain rfl:=Option.some.inj h
 exact gr 4 [] []
def QlB (Γ:Gam) (rv:List Int × Int) (cf:Cf):Prop:=Go Tryz.prog Tryz.f145 [] Γ (.tup [.one (lL 1 rv.1 e_i64),.one (lI rv.2)]) [] cf
def QiM (Γ:Gam) (rv:List Int × Int) (a:List Int) (b:List Int) (l:List Int) (l1:List Int) (v:Int):Prop:=QlB Γ rv ⟨[.c 244,.l 244,.b 0,.c 31],⟨38,[vL 0 1 a e_i64,vL 1 1 b e_i64,(2,one (.fn (.func 146) [])),vO 8 0 1 l1 e_i64,vI 19 (lenI a),vI 20 v],[oS 1 3 l1 e_i64]⟩⟩
def Qin (Γ:Gam) (rv:List Int × Int) (a:List Int) (b:List Int) (l:List Int) (l2:List Int):Prop:=QlB Γ rv ⟨[.c 31],⟨38,[vO 8 0 1 l2 e_i64],[oS 1 3 l2 e_i64]⟩⟩
theorem Qnv (Γ:Gam) (rv:List Int × Int) {a b l} {s:List Int × Int} {e:List Int} (h:loopF (fun s=>QbP a b l s.1 s.2) s = some e) (hD:Qin Γ rv a b l e):QiM Γ rv a b l s.1 s.2:=by
 refine QaI (C:=fun (s:List Int × Int)=>QiM Γ rv a b l s.1 s.2) (D:=fun (e:List Int)=>Qin Γ rv a b l e) ?_ h hD
 clear h hD s e
 rintro ⟨l1,v⟩ z_ h hI hE
 replace h:QbP a b l l1 v = _:=h
 unfold QbP at h
 rcases Qai h with ⟨h2,h⟩|⟨h2,h⟩
 ·obtain ⟨x0,h3,h⟩:=Qae h
  obtain ⟨x1,h4,h⟩:=Qae h
  obtain ⟨r,h5,h⟩:=Qae h
  obtain ⟨x2,h6,h⟩:=Qae h
  exact gn 13 [0,1,2,8,19,20] [0] [bT h2,hH (.draw 13 []),cE e_i64 h3,cE e_i64 h4,cC (Qub h5),oO (getLo h6),oO (getHi e_i64 h6),rE e_i64 h6,hH (.rows ((setI l1 v r).map e_i64)),hH (.relen 0 ((setI l1 v r).map e_i64).length),oO (setM e_i64 l1 v r),rp 2 (oO (QuW e_i64 l1 v r))] (hI _ (oJ h))
 ·exact gn 5 [8] [0] [bF h2] (hE _ (oJ h))
theorem Qpt {a b} {rv:List Int × Int} (h:Qg6 a b = some rv):AFn Tryz.prog 145 [.one (lL 1 a e_i64),.one (lL 1 b e_i64),.one (.fn (.func 146) [])] [] (.tup [.one (lL 1 rv.1 e_i64),.one (lI rv.2)]) []:=by
 refine QaS Tryz.func145 (by kernel_rfl) (by kernel_rfl) (fun Γ=>?_)
 unfold Qg6 at h
 rcases Qai h with ⟨h0,h⟩|⟨h0,h⟩
 ·obtain rfl:=Option.some.inj h
  exact gr 8 [] [nL e_i64 a,nL e_i64 b,bT h0,hW 4,hH (.nilS 6 0 1)]
 ·obtain ⟨l,h1,h⟩:=Qae h
  obtain ⟨e0,h7,h⟩:=Qae h
  refine gn 14 [0,1,2,8,19,20] [0] [nL e_i64 a,nL e_i64 b,bF h0,nL e_i64 a,hH (.cells [lI 0]),hH (.rows (l.map e_i64)),oO (mk1 h1),oO (mk2 h1),oO (mk3 h1),oO (mk4 h1),oO (mk5 e_i64 h1),nL e_i64 a] (Qnv Γ rv h7 ?_)
  obtain ⟨l2,rfl⟩:∃ x,x = e0:=⟨_,rfl⟩
  replace h:(some (l2,0):Option (List Int × Int)) = some _:=h
  obtain rfl:=Option.some.inj h
  exact gr 2 [] [hW 5,hH (.frz 0),rp 3 (eL l2 e_i64)]
theorem QpX {a b} {rv:List Int × Int} (h:Qpg a b = some rv):AFn Tryz.prog 121 [.one (lL 1 a e_i64),.one (lL 1 b e_i64)] [] (.tup [.one (lL 1 rv.1 e_i64),.one (lI rv.2)]) []:=by
 refine QaS Tryz.func121 (by kernel_rfl) (by kernel_rfl) (fun Γ=>?_)
 unfold Qpg at h
 obtain ⟨r,h0,h⟩:=Qae h
 obtain rfl:=Option.some.inj h
 exact gr 4 [] [cC (Qpt h0)]
theorem Qtb {set_ i} {rv:Bool} (h:Qsq set_ i = some rv):AFn Tryz.prog 159 [.one (lI set_),.one (lI i)] [] (one (.bool rv)) []:=by
 refine QaS Tryz.func159 (by kernel_rfl) (by kernel_rfl) (fun Γ=>?_)
 unfold Qsq at h
 rcases Qai h with ⟨h0,h⟩|⟨h0,h⟩
 ·obtain ⟨h1,h⟩:=Qaw h
  obtain rfl:=Option.some.inj h
  exact gr 4 [] [hP,hP,hP,oI ((geI i 0) = true),oR True ((geI i 0) = true),rp 3 (bT h0),oO (h1),rp 3 (bT h0)]
 ·obtain rfl:=Option.some.inj h
  exact gr 4 [] [hP,hP,hP,oI ((geI i 0) = true),oR True ((geI i 0) = true),rp 6 (bF h0)]
def QqC (Γ:Gam) (rv:List Int) (cf:Cf):Prop:=Go Tryz.prog Tryz.f144 [] Γ (one (lL 1 rv e_i64)) [] cf
def Qn8 (Γ:Gam) (rv:List Int) (set_:Int) (l:List Int) (v:Int):Prop:=QqC Γ rv ⟨[.c 116,.l 116,.b 0,.c 15],⟨17,[vI 0 set_,vO 3 0 1 l e_i64,vI 5 v],[oS 1 3 l e_i64]⟩⟩
def Qnk (Γ:Gam) (rv:List Int) (set_:Int) (l1:List Int):Prop:=QqC Γ rv ⟨[.c 15],⟨17,[vO 3 0 1 l1 e_i64],[oS 1 3 l1 e_i64]⟩⟩
theorem Qq6 (Γ:Gam) (rv:List Int) {set_} {s:List Int × Int} {e:List Int} (h:loopF (fun s=>Qda set_ s.1 s.2) s = some e) (hD:Qnk Γ rv set_ e):Qn8 Γ rv set_ s.1 s.2:=by
 refine QaI (C:=fun (s:List Int × Int)=>Qn8 Γ rv set_ s.1 s.2) (D:=fun (e:List Int)=>Qnk Γ rv set_ e) ?_ h hD
 clear h hD s e
 rintro ⟨l,v⟩ z_ h hI hE
 replace h:Qda set_ l v = _:=h
 unfold Qda at h
 rcases Qai h with ⟨h0,h⟩|⟨h0,h⟩
 ·obtain ⟨r,h1,h⟩:=Qae h
  rcases Qai h with ⟨h2,h⟩|⟨h2,h⟩
  ·obtain ⟨h3,h⟩:=Qaw h
   exact gn 16 [0,3,5] [2] [bT h0,cC (Qtb h1),bT h2,oO (Eq.refl ([v].map e_i64).length),aO e_i64 h3] (hI _ (oJ h))
  ·exact gn 16 [0,3,5] [0] [bT h0,cC (Qtb h1),bF h2] (hI _ (oJ h))
 ·exact gn 5 [3] [0] [bF h0] (hE _ (oJ h))
theorem QsL {set_} {rv:List Int} (h:Ql0 set_ = some rv):AFn Tryz.prog 144 [.one (lI set_)] [] (one (lL 1 rv e_i64)) []:=by
 refine QaS Tryz.func144 (by kernel_rfl) (by kernel_rfl) (fun Γ=>?_)
 unfold Ql0 at h
 obtain ⟨e0,h4,h⟩:=Qae h
 refine gn 9 [0,3,5] [0] [hW 12,hH (.adopt 3 1 3)] (Qq6 Γ rv h4 ?_)
 obtain ⟨l1,rfl⟩:∃ x,x = e0:=⟨_,rfl⟩
 replace h:(some l1:Option (List Int)) = some _:=h
 obtain rfl:=Option.some.inj h
 exact gr 2 [] [hW 4,hH (.frz 0),rp 3 (eL l1 e_i64)]
def Qrf (Γ:Gam) (rv:List Int) (cf:Cf):Prop:=Go Tryz.prog Tryz.f119 [] Γ (one (lL 1 rv e_i64)) [] cf
def Qom (Γ:Gam) (rv:List Int) (x0:Qad) (l:List Int) (r:List Int) (sum:List Int) (v:Int):Prop:=Qrf Γ rv ⟨[.c 116,.l 116,.b 0,.c 15],⟨40,[vP 3 0 6,vL 7 1 sum e_i64,vL 13 1 r e_i64,vI 14 (lenI r),vI 15 v],[oX 6 30 (Qad.enc x0)]⟩⟩
def QnM (Γ:Gam) (rv:List Int) (x0:Qad) (l:List Int) (r:List Int) (sum1:List Int):Prop:=Qrf Γ rv ⟨[.c 15],⟨40,[vL 7 1 sum1 e_i64],[]⟩⟩
theorem Qru (Γ:Gam) (rv:List Int) {x0 l r} {s:List Int × Int} {e:List Int} (h:loopF (fun s=>QdI x0 l r s.1 s.2) s = some e) (hD:QnM Γ rv x0 l r e):Qom Γ rv x0 l r s.1 s.2:=by
 refine QaI (C:=fun (s:List Int × Int)=>Qom Γ rv x0 l r s.1 s.2) (D:=fun (e:List Int)=>QnM Γ rv x0 l r e) ?_ h hD
 clear h hD s e
 rintro ⟨sum,v⟩ z_ h hI hE
 replace h:QdI x0 l r sum v = _:=h
 unfold QdI at h
 rcases Qai h with ⟨h2,h⟩|⟨h2,h⟩
 ·obtain ⟨x1,h3,h⟩:=Qae h
  obtain ⟨x2,h4,h⟩:=Qae h
  rcases Qai h with ⟨h5,h⟩|⟨h5,h⟩
  ·obtain ⟨r1,h6,h⟩:=Qae h
   exact gn 16 [3,7,13,14,15] [0] [bT h2,cE e_i64 h3,cE Qak.enc h4,bT h5,cE Qak.enc h4,cC (QpX h6)] (hI _ (oJ h))
  ·exact gn 16 [3,7,13,14,15] [0] [bT h2,cE e_i64 h3,cE Qak.enc h4,bF h5] (hI _ (oJ h))
 ·exact gn 5 [7] [] [bF h2] (hE _ (oJ h))
theorem Qtg {x0 set_ dims} {rv:List Int} (h:QmP x0 set_ dims = some rv):AFn Tryz.prog 119 [.agg (Qad.enc x0),.one (lI set_),.one (lI dims)] [] (one (lL 1 rv e_i64)) []:=by
 refine QaS Tryz.func119 (by kernel_rfl) (by kernel_rfl) (fun Γ=>?_)
 unfold QmP at h
 obtain ⟨l,h0,h⟩:=Qae h
 obtain ⟨r,h1,h⟩:=Qae h
 obtain ⟨e0,h7,h⟩:=Qae h
 refine gn 9 [3,7,13,14,15] [0] [hH (.cells [lI 0]),hH (.rows (l.map e_i64)),oO (mk1 h0),oO (mk2 h0),oO (mk3 h0),oO (mk4 h0),oO (mk5 e_i64 h0),cC (QsL h1),nL e_i64 r,hW 3,hH (.frz 1),rp 2 (eL l e_i64)] (Qru Γ rv h7 ?_)
 obtain ⟨sum1,rfl⟩:∃ x,x = e0:=⟨_,rfl⟩
 replace h:(some sum1:Option (List Int)) = some _:=h
 obtain rfl:=Option.some.inj h
 exact gr 2 [] []
theorem Qt3 {l} {rv:Int} (h:Qos l = some rv):AFn Tryz.prog 120 [.one (lL 14 l Qal.enc)] [] (one (lI rv)) []:=by
 refine QaS Tryz.func120 (by kernel_rfl) (by kernel_rfl) (fun Γ=>?_)
 unfold Qos at h
 rcases Qai h with ⟨h0,h⟩|⟨h0,h⟩
 ·obtain rfl:=Option.some.inj h
  exact gr 8 [] [nL Qal.enc l,bT h0]
 ·obtain ⟨x0,h1,h⟩:=Qae h
  obtain rfl:=Option.some.inj h
  exact gr 9 [] [nL Qal.enc l,bF h0,cE Qal.enc h1,nL e_i64 x0.cap]
theorem Qtr {a b} {rv:Int} (h:Qph a b = some rv):AFn Tryz.prog 147 [.one (lI a),.one (lI b)] [] (one (lI rv)) []:=by
 refine QaS Tryz.func147 (by kernel_rfl) (by kernel_rfl) (fun Γ=>?_)
 unfold Qph at h
 obtain rfl:=Option.some.inj h
 exact gr 4 [] []
def QkO (Γ:Gam) (rv:List Int × Int) (cf:Cf):Prop:=Go Tryz.prog Tryz.f145 [] Γ (.tup [.one (lL 1 rv.1 e_i64),.one (lI rv.2)]) [] cf
def Qim (Γ:Gam) (rv:List Int × Int) (a:List Int) (b:List Int) (l:List Int) (l1:List Int) (v:Int):Prop:=QkO Γ rv ⟨[.c 244,.l 244,.b 0,.c 31],⟨38,[vL 0 1 a e_i64,vL 1 1 b e_i64,(2,one (.fn (.func 147) [])),vO 8 0 1 l1 e_i64,vI 19 (lenI a),vI 20 v],[oS 1 3 l1 e_i64]⟩⟩
def Qh2 (Γ:Gam) (rv:List Int × Int) (a:List Int) (b:List Int) (l:List Int) (l2:List Int):Prop:=QkO Γ rv ⟨[.c 31],⟨38,[vO 8 0 1 l2 e_i64],[oS 1 3 l2 e_i64]⟩⟩
theorem Qm1 (Γ:Gam) (rv:List Int × Int) {a b l} {s:List Int × Int} {e:List Int} (h:loopF (fun s=>QbH a b l s.1 s.2) s = some e) (hD:Qh2 Γ rv a b l e):Qim Γ rv a b l s.1 s.2:=by
 refine QaI (C:=fun (s:List Int × Int)=>Qim Γ rv a b l s.1 s.2) (D:=fun (e:List Int)=>Qh2 Γ rv a b l e) ?_ h hD
 clear h hD s e
 rintro ⟨l1,v⟩ z_ h hI hE
 replace h:QbH a b l l1 v = _:=h
 unfold QbH at h
 rcases Qai h with ⟨h2,h⟩|⟨h2,h⟩
 ·obtain ⟨x0,h3,h⟩:=Qae h
  obtain ⟨x1,h4,h⟩:=Qae h
  obtain ⟨r,h5,h⟩:=Qae h
  obtain ⟨x2,h6,h⟩:=Qae h
  exact gn 13 [0,1,2,8,19,20] [0] [bT h2,hH (.draw 13 []),cE e_i64 h3,cE e_i64 h4,cC (Qtr h5),oO (getLo h6),oO (getHi e_i64 h6),rE e_i64 h6,hH (.rows ((setI l1 v r).map e_i64)),hH (.relen 0 ((setI l1 v r).map e_i64).length),oO (setM e_i64 l1 v r),rp 2 (oO (QuW e_i64 l1 v r))] (hI _ (oJ h))
 ·exact gn 5 [8] [0] [bF h2] (hE _ (oJ h))
theorem Qoy {a b} {rv:List Int × Int} (h:Qgu a b = some rv):AFn Tryz.prog 145 [.one (lL 1 a e_i64),.one (lL 1 b e_i64),.one (.fn (.func 147) [])] [] (.tup [.one (lL 1 rv.1 e_i64),.one (lI rv.2)]) []:=by
 refine QaS Tryz.func145 (by kernel_rfl) (by kernel_rfl) (fun Γ=>?_)
 unfold Qgu at h
 rcases Qai h with ⟨h0,h⟩|⟨h0,h⟩
 ·obtain rfl:=Option.some.inj h
  exact gr 8 [] [nL e_i64 a,nL e_i64 b,bT h0,hW 4,hH (.nilS 6 0 1)]
 ·obtain ⟨l,h1,h⟩:=Qae h
  obtain ⟨e0,h7,h⟩:=Qae h
  refine gn 14 [0,1,2,8,19,20] [0] [nL e_i64 a,nL e_i64 b,bF h0,nL e_i64 a,hH (.cells [lI 0]),hH (.rows (l.map e_i64)),oO (mk1 h1),oO (mk2 h1),oO (mk3 h1),oO (mk4 h1),oO (mk5 e_i64 h1),nL e_i64 a] (Qm1 Γ rv h7 ?_)
  obtain ⟨l2,rfl⟩:∃ x,x = e0:=⟨_,rfl⟩
  replace h:(some (l2,0):Option (List Int × Int)) = some _:=h
  obtain rfl:=Option.some.inj h
  exact gr 2 [] [hW 5,hH (.frz 0),rp 3 (eL l2 e_i64)]
theorem Qr7 {a b} {rv:List Int × Int} (h:Qqj a b = some rv):AFn Tryz.prog 122 [.one (lL 1 a e_i64),.one (lL 1 b e_i64)] [] (.tup [.one (lL 1 rv.1 e_i64),.one (lI rv.2)]) []:=by
 refine QaS Tryz.func122 (by kernel_rfl) (by kernel_rfl) (fun Γ=>?_)
 unfold Qqj at h
 obtain ⟨r,h0,h⟩:=Qae h
 obtain rfl:=Option.some.inj h
 exact gr 4 [] [cC (Qoy h0)]
def Qre (Γ:Gam) (rv:List (List Int) × Int) (cf:Cf):Prop:=Go Tryz.prog Tryz.f74 [] Γ (.tup [.one (lL 1 rv.1 QgK),.one (lI rv.2)]) [] cf
def Qol (Γ:Gam) (rv:List (List Int) × Int) (x0:Qad) (r:Qab) (l:List (List Int)) (now:List Int) (v:Int):Prop:=Qre Γ rv ⟨[.c 2036,.l 2036,.b 0,.c 255],⟨67,[vP 2 0 6,vL 9 1 now e_i64,vO 10 1 1 l QgK,vL 37 2 r.visits Qac.enc,vI 38 (lenI r.visits),vI 39 v],[oX 6 30 (Qad.enc x0),oS 1 43 l QgK]⟩⟩
def QnL (Γ:Gam) (rv:List (List Int) × Int) (x0:Qad) (r:Qab) (l1:List (List Int)):Prop:=Qre Γ rv ⟨[.c 255],⟨67,[vO 10 0 1 l1 QgK],[oS 1 43 l1 QgK]⟩⟩
theorem Qrt (Γ:Gam) (rv:List (List Int) × Int) {x0 r} {s:List (List Int) × List Int × Int} {e:(List (List Int)) ⊕ (List (List Int) × Int)} (h:loopF (fun s=>QdH x0 r s.1 s.2.1 s.2.2) s = some e) (hD:sel e (fun e=>QnL Γ rv x0 r e) (fun e=>e = rv)):Qol Γ rv x0 r s.1 s.2.1 s.2.2:=by
 refine QaI (C:=fun (s:List (List Int) × List Int × Int)=>Qol Γ rv x0 r s.1 s.2.1 s.2.2) (D:=fun (e:(List (List Int)) ⊕ (List (List Int) × Int))=>sel e (fun e=>QnL Γ rv x0 r e) (fun e=>e = rv)) ?_ h hD
 clear h hD s e
 rintro ⟨l,now,v⟩ z_ h hI hE
 replace h:QdH x0 r l now v = _:=h
 unfold QdH at h
 rcases Qai h with ⟨h6,h⟩|⟨h6,h⟩
 ·obtain ⟨x1,h7,h⟩:=Qae h
  rcases Qai h with ⟨h8,h⟩|⟨h8,h⟩
  ·obtain ⟨x2,h9,h⟩:=Qae h
   obtain ⟨r5,h10,h⟩:=Qae h
   rcases Qai h with ⟨h11,h⟩|⟨h11,h⟩
   ·obtain rfl:=(hE _ (oJ h):_ = rv)
    exact gr 24 [] [bT h6,cE Qac.enc h7,bT h8,cE Qak.enc h9,cC (Qr7 h10),bT h11,hW 5,hH (.nilS 4 0 1)]
   ·obtain ⟨h12,h⟩:=Qaw h
    exact gn 27 [2,9,10,37,38,39] [0,4] [bT h6,cE Qac.enc h7,bT h8,cE Qak.enc h9,cC (Qr7 h10),bF h11,oO (Eq.refl ([r5.1].map QgK).length),aO QgK h12] (hI _ (oJ h))
  ·obtain ⟨x3,h13,h⟩:=Qae h
   obtain ⟨r6,h14,h⟩:=Qae h
   rcases Qai h with ⟨h15,h⟩|⟨h15,h⟩
   ·obtain rfl:=(hE _ (oJ h):_ = rv)
    exact gr 24 [] [bT h6,cE Qac.enc h7,bF h8,cE Qak.enc h13,cC (QpX h14),bT h15,hW 5,hH (.nilS 4 0 1)]
   ·obtain ⟨h16,h⟩:=Qaw h
    exact gn 27 [2,9,10,37,38,39] [0,4] [bT h6,cE Qac.enc h7,bF h8,cE Qak.enc h13,cC (QpX h14),bF h15,oO (Eq.refl ([r6.1].map QgK).length),aO QgK h16] (hI _ (oJ h))
 ·exact gn 5 [10] [1] [bF h6] (hE _ (oJ h))
theorem Qnq {x0 r} {rv:List (List Int) × Int} (h:QmO x0 r = some rv):AFn Tryz.prog 74 [.agg (Qad.enc x0),.agg (Qab.enc r)] [] (.tup [.one (lL 1 rv.1 QgK),.one (lI rv.2)]) []:=by
 refine QaS Tryz.func74 (by kernel_rfl) (by kernel_rfl) (fun Γ=>?_)
 unfold QmO at h
 obtain ⟨r1,h0,h⟩:=Qae h
 rcases Qai h with ⟨h1,h⟩|⟨h1,h⟩
 ·obtain rfl:=Option.some.inj h
  exact gr 10 [] [cC (Qdr h0),bT h1,hW 5,hH (.nilS 4 0 1)]
 ·obtain ⟨r2,h2,h⟩:=Qae h
  rcases Qai h with ⟨h3,h⟩|⟨h3,h⟩
  ·obtain rfl:=Option.some.inj h
   exact gr 17 [] [cC (Qdr h0),bF h1,cC (Qje h2),bT h3,hW 5,hH (.nilS 4 0 1)]
  ·obtain ⟨r3,h4,h⟩:=Qae h
   obtain ⟨r4,h5,h⟩:=Qae h
   obtain ⟨e0,h17,h⟩:=Qae h
   refine gn 25 [2,9,10,37,38,39] [0,2] [cC (Qdr h0),bF h1,cC (Qje h2),bF h3,hH (.draw 7 []),cC (Qt3 h4),cC (Qtg h5),nL Qac.enc r.visits] (Qrt Γ rv h17 ?_)
   rcases e0 with e0|e0
   ·obtain ⟨l1,rfl⟩:∃ x,x = e0:=⟨_,rfl⟩
    replace h:(some (l1,0):Option (List (List Int) × Int)) = some _:=h
    obtain rfl:=Option.some.inj h
    exact gr 2 [] [hW 5,hH (.frz 0),rp 3 (eL l1 QgK)]
   ·obtain ⟨r7,rfl⟩:∃ x,x = e0:=⟨_,rfl⟩
    replace h:(some r7:Option (List (List Int) × Int)) = some _:=h
    exact Option.some.inj h
def Qr5 (Γ:Gam) (rv:Bool) (cf:Cf):Prop:=Go Tryz.prog Tryz.f77 [] Γ (one (.bool rv)) [] cf
def QpE (Γ:Gam) (rv:Bool) (a:List Int) (capacity:List Int) (v:Int):Prop:=Qr5 Γ rv ⟨[.c 116,.l 116,.b 0,.c 15],⟨26,[vL 1 1 capacity e_i64,vL 12 1 a e_i64,vI 13 (lenI a),vI 14 v],[]⟩⟩
def Qox (Γ:Gam) (rv:Bool) (a:List Int) (capacity:List Int):Prop:=Qr5 Γ rv ⟨[.c 15],⟨26,[],[]⟩⟩
theorem Qr6 (Γ:Gam) (rv:Bool) {a capacity} {s:Int} {e:(Unit) ⊕ (Bool)} (h:loopF (fun s=>Qff a capacity s) s = some e) (hD:sel e (fun e=>Qox Γ rv a capacity) (fun e=>e = rv)):QpE Γ rv a capacity s:=by
 refine QaI (C:=fun (s:Int)=>QpE Γ rv a capacity s) (D:=fun (e:(Unit) ⊕ (Bool))=>sel e (fun e=>Qox Γ rv a capacity) (fun e=>e = rv)) ?_ h hD
 clear h hD s e
 intro v z_ h hI hE
 replace h:Qff a capacity v = _:=h
 unfold Qff at h
 rcases Qai h with ⟨h1,h⟩|⟨h1,h⟩
 ·obtain ⟨x0,h2,h⟩:=Qae h
  obtain ⟨x1,h3,h⟩:=Qae h
  rcases Qai h with ⟨h4,h⟩|⟨h4,h⟩
  ·obtain rfl:=(hE _ (oJ h):_ = rv)
   exact gr 14 [] [bT h1,cE e_i64 h2,cE e_i64 h3,bT h4]
  ·exact gn 16 [1,12,13,14] [] [bT h1,cE e_i64 h2,cE e_i64 h3,bF h4] (hI _ (oJ h))
 ·exact gn 5 [] [] [bF h1] (hE _ (oJ h))
theorem Qua {a capacity} {rv:Bool} (h:Qow a capacity = some rv):AFn Tryz.prog 77 [.one (lL 1 a e_i64),.one (lL 1 capacity e_i64)] [] (one (.bool rv)) []:=by
 refine QaS Tryz.func77 (by kernel_rfl) (by kernel_rfl) (fun Γ=>?_)
 unfold Qow at h
 rcases Qai h with ⟨h0,h⟩|⟨h0,h⟩
 ·obtain rfl:=Option.some.inj h
  exact gr 8 [] [nL e_i64 a,nL e_i64 capacity,bT h0]
 ·obtain ⟨e0,h5,h⟩:=Qae h
  refine gn 12 [1,12,13,14] [] [nL e_i64 a,nL e_i64 capacity,bF h0,nL e_i64 a] (Qr6 Γ rv h5 ?_)
  rcases e0 with e0|e0
  ·replace h:(some true:Option Bool) = some _:=h
   obtain rfl:=Option.some.inj h
   exact gr 2 [] []
  ·obtain ⟨r,rfl⟩:∃ x,x = e0:=⟨_,rfl⟩
   replace h:(some r:Option Bool) = some _:=h
   exact Option.some.inj h
theorem QpA {a c c1} {rv:Bool} (h:Qnp a c c1 = some rv):AFn Tryz.prog 76 [.one (lL 1 a e_i64),.one (.ip (Qad.enc c) 0),.one (.ip (Qab.enc c1) 0)] [] (one (.bool rv)) []:=by
 refine QaS Tryz.func76 (by kernel_rfl) (by kernel_rfl) (fun Γ=>?_)
 unfold Qnp at h
 obtain ⟨x0,h0,h⟩:=Qae h
 obtain ⟨r,h1,h⟩:=Qae h
 obtain rfl:=Option.some.inj h
 exact gr 4 [] [cE Qal.enc h0,cC (Qua h1)]
def QdU (Γ:Gam) (rv:Int) (cf:Cf):Prop:=Go Tryz.prog Tryz.f123 [] Γ (one (lI rv)) [] cf
def Qds (Γ:Gam) (rv:Int) (s0:List (List Int)) (c:Qad) (c1:Qab) (v:Int):Prop:=QdU Γ rv ⟨[.c 52,.l 52,.b 0,.c 7],⟨19,[vL 0 1 s0 QgK,(1,one (.fn (.func 76) [.ip (Qad.enc c) 0,.ip (Qab.enc c1) 0])),vI 7 (lenI s0),vI 8 v],[]⟩⟩
def Qdm (Γ:Gam) (rv:Int) (s0:List (List Int)) (c:Qad) (c1:Qab):Prop:=QdU Γ rv ⟨[.c 7],⟨19,[],[]⟩⟩
theorem Qge (Γ:Gam) (rv:Int) {s0 c c1} {s:Int} {e:(Unit) ⊕ (Int)} (h:loopF (fun s=>QaK s0 c c1 s) s = some e) (hD:sel e (fun e=>Qdm Γ rv s0 c c1) (fun e=>e = rv)):Qds Γ rv s0 c c1 s:=by
 refine QaI (C:=fun (s:Int)=>Qds Γ rv s0 c c1 s) (D:=fun (e:(Unit) ⊕ (Int))=>sel e (fun e=>Qdm Γ rv s0 c c1) (fun e=>e = rv)) ?_ h hD
 clear h hD s e
 intro v z_ h hI hE
 replace h:QaK s0 c c1 v = _:=h
 unfold QaK at h
 rcases Qai h with ⟨h0,h⟩|⟨h0,h⟩
 ·obtain ⟨x0,h1,h⟩:=Qae h
  obtain ⟨r,h2,h⟩:=Qae h
  rcases Qai h with ⟨h3,h⟩|⟨h3,h⟩
  ·obtain rfl:=(hE _ (oJ h):_ = rv)
   exact gr 14 [] [bT h0,cE QgK h1,cC (QpA h2),bT h3]
  ·exact gn 16 [0,1,7,8] [] [bT h0,cE QgK h1,cC (QpA h2),bF h3] (hI _ (oJ h))
 ·exact gn 5 [] [] [bF h0] (hE _ (oJ h))
theorem QgI {s0 c c1} {rv:Int} (h:Qbp s0 c c1 = some rv):AFn Tryz.prog 123 [.one (lL 1 s0 QgK),.one (.fn (.func 76) [.ip (Qad.enc c) 0,.ip (Qab.enc c1) 0])] [] (one (lI rv)) []:=by
 refine QaS Tryz.func123 (by kernel_rfl) (by kernel_rfl) (fun Γ=>?_)
 unfold Qbp at h
 obtain ⟨e0,h4,h⟩:=Qae h
 refine gn 7 [0,1,7,8] [] [nL QgK s0] (Qge Γ rv h4 ?_)
 rcases e0 with e0|e0
 ·replace h:(some (-1):Option Int) = some _:=h
  obtain rfl:=Option.some.inj h
  exact gr 2 [] []
 ·obtain ⟨r1,rfl⟩:∃ x,x = e0:=⟨_,rfl⟩
  replace h:(some r1:Option Int) = some _:=h
  exact Option.some.inj h
theorem Qdl {s0 c c1} {rv:Bool} (h:QbE s0 c c1 = some rv):AFn Tryz.prog 75 [.one (lL 1 s0 QgK),.one (.fn (.func 76) [.ip (Qad.enc c) 0,.ip (Qab.enc c1) 0])] [] (one (.bool rv)) []:=by
 refine QaS Tryz.func75 (by kernel_rfl) (by kernel_rfl) (fun Γ=>?_)
 unfold QbE at h
 obtain ⟨r,h0,h⟩:=Qae h
 obtain rfl:=Option.some.inj h
 exact gr 4 [] [cC (QgI h0)]
theorem Qok {x0 r} {rv:Int} (h:Qoj x0 r = some rv):AFn Tryz.prog 41 [.agg (Qad.enc x0),.agg (Qab.enc r)] [] (one (lI rv)) []:=by
 refine QaS Tryz.func41 (by kernel_rfl) (by kernel_rfl) (fun Γ=>?_)
 unfold Qoj at h
 rcases Qai h with ⟨h0,h⟩|⟨h0,h⟩
 ·obtain rfl:=Option.some.inj h
  exact gr 8 [] [rp 5 hP,rp 3 (oI ((ltI r.type_ 0) = false)),nL Qal.enc x0.types,hP,hP,rp 2 (oI ((ltI r.type_ 0) = false)),oR True ((ltI r.type_ 0) = false),bT h0]
 ·obtain ⟨r1,h1,h⟩:=Qae h
  rcases Qai h with ⟨h2,h⟩|⟨h2,h⟩
  ·obtain rfl:=Option.some.inj h
   exact gr 15 [] [rp 5 hP,rp 3 (oI ((ltI r.type_ 0) = false)),nL Qal.enc x0.types,hP,hP,rp 2 (oI ((ltI r.type_ 0) = false)),oR True ((ltI r.type_ 0) = false),bF h0,cC (Qnq h1),bT h2]
  ·obtain ⟨r2,h3,h⟩:=Qae h
   rcases Qai h with ⟨h4,h⟩|⟨h4,h⟩
   ·obtain rfl:=Option.some.inj h
    exact gr 20 [] [rp 5 hP,rp 3 (oI ((ltI r.type_ 0) = false)),nL Qal.enc x0.types,hP,hP,rp 2 (oI ((ltI r.type_ 0) = false)),oR True ((ltI r.type_ 0) = false),bF h0,cC (Qnq h1),bF h2,cC (Qdl h3),bT h4]
   ·obtain rfl:=Option.some.inj h
    exact gr 21 [] [rp 5 hP,rp 3 (oI ((ltI r.type_ 0) = false)),nL Qal.enc x0.types,hP,hP,rp 2 (oI ((ltI r.type_ 0) = false)),oR True ((ltI r.type_ 0) = false),bF h0,cC (Qnq h1),bF h2,cC (Qdl h3),bF h4]
def Qu2 (Γ:Gam) (rv:Qat × Int) (cf:Cf):Prop:=Go Tryz.prog Tryz.f50 [] Γ (.tup [.agg [lI rv.1.place,lI rv.1.open_,lI rv.1.close,lI rv.1.service],.one (lI rv.2)]) [] cf
theorem QoW (Γ:Gam) (rv:Qat × Int) {x1} (h:Qka x1 = some rv):Qu2 Γ rv ⟨[.c 31],⟨32,[vP 4 0 4,vP 6 1 4],[oX 4 103 [lI 0,lI 0,lI 0,lI 0],oX 4 103 (Qat.enc x1)]⟩⟩:=by
 unfold Qka at h
 rcases Qai h with ⟨h4,h⟩|⟨h4,h⟩
 ·obtain rfl:=Option.some.inj h
  exact gr 6 [] [bT h4]
 ·obtain rfl:=Option.some.inj h
  exact gr 7 [] [bF h4]
theorem QoX {l v} {rv:Qat × Int} (h:Qnc l v = some rv):AFn Tryz.prog 50 [.one (lL 16 l Qak.enc),.agg (Qac.enc v)] [] (.tup [.agg [lI rv.1.place,lI rv.1.open_,lI rv.1.close,lI rv.1.service],.one (lI rv.2)]) []:=by
 refine QaS Tryz.func50 (by kernel_rfl) (by kernel_rfl) (fun Γ=>?_)
 unfold Qnc at h
 obtain ⟨r,h0,h⟩:=Qae h
 rcases Qai h with ⟨h1,h⟩|⟨h1,h⟩
 ·obtain ⟨x0,h2,h⟩:=Qae h
  rcases Qai h with ⟨h3,h⟩|⟨h3,h⟩
  ·exact gn 14 [4,6] [1,2] [cC (Qha h0),nF h1,cE Qak.enc h2,bT h3,cE Qak.enc h2] (QoW Γ rv h)
  ·exact gn 14 [4,6] [1,2] [cC (Qha h0),nF h1,cE Qak.enc h2,bF h3] (QoW Γ rv h)
 ·obtain rfl:=Option.some.inj h
  exact gr 8 [] [cC (Qha h0),nT h1]
def QrW (Γ:Gam) (rv:Qau × Bool) (cf:Cf):Prop:=Go Tryz.prog Tryz.f78 [] Γ (.tup [.agg [lL 1 rv.1.x.net.places e_str,lL 6 rv.1.x.net.arcs Qav.enc,lL 14 rv.1.x.types Qal.enc,lL 16 rv.1.x.orders Qak.enc,lL 2 rv.1.x.apart QaW.enc,lL 2 rv.1.x.before QaW.enc,.str rv.1.t.name,lI rv.1.t.count,lI rv.1.t.from_,lI rv.1.t.to_,lL 1 rv.1.t.cap e_i64,lI rv.1.t.skills,lI rv.1.t.profile,lI rv.1.t.open_,lI rv.1.t.close,lI rv.1.t.drive,lI rv.1.t.rest_,lI rv.1.t.fixed,lI rv.1.t.perMile,lI rv.1.t.perTick,lI rv.1.r.type_,lI rv.1.r.start,lL 1 rv.1.r.rests Qa5,lL 2 rv.1.r.visits Qac.enc,lL 4 rv.1.stops Qat.enc],.one (.bool rv.2)]) [] cf
def QpD (Γ:Gam) (rv:Qau × Bool) (x0:Qad) (r:Qab) (x1:Qal) (l:List Qat) (v:Int):Prop:=QrW Γ rv ⟨[.c 244,.l 244,.b 0,.c 31],⟨78,[vP 2 0 6,vP 4 1 25,vP 6 2 25,vL 49 2 r.visits Qac.enc,vI 50 (lenI r.visits),vI 51 v],[oX 6 30 (Qad.enc x0),oX 25 133 [.nils,.nils,.nils,.nils,.nils,.nils,.str ByteArray.empty,lI 0,lI 0,lI 0,.nils,lI 0,lI 0,lI 0,lI 0,lI 0,lI 0,lI 0,lI 0,lI 0,lI 0,lI 0,.nils,.nils,.nils],oX 25 133 [lL 1 x0.net.places e_str,lL 6 x0.net.arcs Qav.enc,lL 14 x0.types Qal.enc,lL 16 x0.orders Qak.enc,lL 2 x0.apart QaW.enc,lL 2 x0.before QaW.enc,.str x1.name,lI x1.count,lI x1.from_,lI x1.to_,lL 1 x1.cap e_i64,lI x1.skills,lI x1.profile,lI x1.open_,lI x1.close,lI x1.drive,lI x1.rest_,lI x1.fixed,lI x1.perMile,lI x1.perTick,lI r.type_,lI r.start,lL 1 r.rests Qa5,lL 2 r.visits Qac.enc,lO 3 4 l Qat.enc],oS 4 103 l Qat.enc]⟩⟩
def Qoq (Γ:Gam) (rv:Qau × Bool) (x0:Qad) (r:Qab) (x1:Qal) (l1:List Qat):Prop:=QrW Γ rv ⟨[.c 31],⟨78,[vP 4 0 25,vP 6 1 25],[oX 25 133 [.nils,.nils,.nils,.nils,.nils,.nils,.str ByteArray.empty,lI 0,lI 0,lI 0,.nils,lI 0,lI 0,lI 0,lI 0,lI 0,lI 0,lI 0,lI 0,lI 0,lI 0,lI 0,.nils,.nils,.nils],oX 25 133 [lL 1 x0.net.places e_str,lL 6 x0.net.arcs Qav.enc,lL 14 x0.types Qal.enc,lL 16 x0.orders Qak.enc,lL 2 x0.apart QaW.enc,lL 2 x0.before QaW.enc,.str x1.name,lI x1.count,lI x1.from_,lI x1.to_,lL 1 x1.cap e_i64,lI x1.skills,lI x1.profile,lI x1.open_,lI x1.close,lI x1.drive,lI x1.rest_,lI x1.fixed,lI x1.perMile,lI x1.perTick,lI r.type_,lI r.start,lL 1 r.rests Qa5,lL 2 r.visits Qac.enc,lO 2 4 l1 Qat.enc],oS 4 103 l1 Qat.enc]⟩⟩
theorem QrX (Γ:Gam) (rv:Qau × Bool) {x0 r x1} {s:List Qat × Int} {e:(List Qat) ⊕ (Qau × Bool)} (h:loopF (fun s=>Qh0 x0 r x1 s.1 s.2) s = some e) (hD:sel e (fun e=>Qoq Γ rv x0 r x1 e) (fun e=>e = rv)):QpD Γ rv x0 r x1 s.1 s.2:=by
 refine QaI (C:=fun (s:List Qat × Int)=>QpD Γ rv x0 r x1 s.1 s.2) (D:=fun (e:(List Qat) ⊕ (Qau × Bool))=>sel e (fun e=>Qoq Γ rv x0 r x1 e) (fun e=>e = rv)) ?_ h hD
 clear h hD s e
 rintro ⟨l,v⟩ z_ h hI hE
 replace h:Qh0 x0 r x1 l v = _:=h
 unfold Qh0 at h
 rcases Qai h with ⟨h2,h⟩|⟨h2,h⟩
 ·obtain ⟨x2,h3,h⟩:=Qae h
  obtain ⟨r1,h4,h⟩:=Qae h
  rcases Qai h with ⟨h5,h⟩|⟨h5,h⟩
  ·obtain rfl:=(hE _ (oJ h):_ = rv)
   exact gr 17 [] [bT h2,cE Qac.enc h3,cC (QoX h4),rp 4 hP,rp 2 (oI ((neI r1.2 0) = false)),oR True ((neI r1.2 0) = false),bT h5,hW 5,hH (.nilB 1 0 1),hH (.nilB 1 1 6),hH (.nilB 1 2 14),hH (.nilB 1 3 16),hH (.nilB 1 4 2),hH (.nilB 1 5 2),hH (.nilB 1 10 1),hH (.nilB 1 22 1),hH (.nilB 1 23 2),hH (.nilB 1 24 4)]
  ·obtain ⟨h6,h⟩:=Qaw h
   exact gn 20 [2,4,6,49,50,51] [0,1,2,7] [bT h2,cE Qac.enc h3,cC (QoX h4),rp 4 hP,rp 2 (oI ((neI r1.2 0) = false)),oR True ((neI r1.2 0) = false),bF h5,oO (Eq.refl ([r1.1].map Qat.enc).length),aO Qat.enc h6] (hI _ (oJ h))
 ·exact gn 5 [4,6] [1,2,3] [bF h2] (hE _ (oJ h))
theorem Qrh {x0 r} {rv:Qau × Bool} (h:QmZ x0 r = some rv):AFn Tryz.prog 78 [.agg (Qad.enc x0),.agg (Qab.enc r)] [] (.tup [.agg [lL 1 rv.1.x.net.places e_str,lL 6 rv.1.x.net.arcs Qav.enc,lL 14 rv.1.x.types Qal.enc,lL 16 rv.1.x.orders Qak.enc,lL 2 rv.1.x.apart QaW.enc,lL 2 rv.1.x.before QaW.enc,.str rv.1.t.name,lI rv.1.t.count,lI rv.1.t.from_,lI rv.1.t.to_,lL 1 rv.1.t.cap e_i64,lI rv.1.t.skills,lI rv.1.t.profile,lI rv.1.t.open_,lI rv.1.t.close,lI rv.1.t.drive,lI rv.1.t.rest_,lI rv.1.t.fixed,lI rv.1.t.perMile,lI rv.1.t.perTick,lI rv.1.r.type_,lI rv.1.r.start,lL 1 rv.1.r.rests Qa5,lL 2 rv.1.r.visits Qac.enc,lL 4 rv.1.stops Qat.enc],.one (.bool rv.2)]) []:=by
 refine QaS Tryz.func78 (by kernel_rfl) (by kernel_rfl) (fun Γ=>?_)
 unfold QmZ at h
 rcases Qai h with ⟨h0,h⟩|⟨h0,h⟩
 ·obtain rfl:=Option.some.inj h
  exact gr 8 [] [rp 5 hP,rp 3 (oI ((ltI r.type_ 0) = false)),nL Qal.enc x0.types,rp 13 hP,rp 2 (oI ((ltI r.type_ 0) = false)),oR True ((ltI r.type_ 0) = false),rp 2 (oI (((ltI r.type_ 0) || (geI r.type_ (lenI x0.types))) = false)),oR True (((ltI r.type_ 0) || (geI r.type_ (lenI x0.types))) = false),rp 2 (oI ((((ltI r.type_ 0) || (geI r.type_ (lenI x0.types))) || (ltI r.start 0)) = false)),oR True ((((ltI r.type_ 0) || (geI r.type_ (lenI x0.types))) || (ltI r.start 0)) = false),rp 2 (oI (((((ltI r.type_ 0) || (geI r.type_ (lenI x0.types))) || (ltI r.start 0)) || (gtI r.start 4096)) = false)),nL Qac.enc r.visits,hP,hP,oI (((((ltI r.type_ 0) || (geI r.type_ (lenI x0.types))) || (ltI r.start 0)) || (gtI r.start 4096)) = false),oR True (((((ltI r.type_ 0) || (geI r.type_ (lenI x0.types))) || (ltI r.start 0)) || (gtI r.start 4096)) = false),bT h0,hW 5,hH (.nilB 2 0 1),hH (.nilB 2 1 6),hH (.nilB 2 2 14),hH (.nilB 2 3 16),hH (.nilB 2 4 2),hH (.nilB 2 5 2),hH (.nilB 2 10 1),hH (.nilB 2 22 1),hH (.nilB 2 23 2),hH (.nilB 2 24 4)]
 ·obtain ⟨x1,h1,h⟩:=Qae h
  obtain ⟨e0,h7,h⟩:=Qae h
  refine gn 14 [2,4,6,49,50,51] [0,2,3,4] [rp 5 hP,rp 3 (oI ((ltI r.type_ 0) = false)),nL Qal.enc x0.types,rp 13 hP,rp 2 (oI ((ltI r.type_ 0) = false)),oR True ((ltI r.type_ 0) = false),rp 2 (oI (((ltI r.type_ 0) || (geI r.type_ (lenI x0.types))) = false)),oR True (((ltI r.type_ 0) || (geI r.type_ (lenI x0.types))) = false),rp 2 (oI ((((ltI r.type_ 0) || (geI r.type_ (lenI x0.types))) || (ltI r.start 0)) = false)),oR True ((((ltI r.type_ 0) || (geI r.type_ (lenI x0.types))) || (ltI r.start 0)) = false),rp 2 (oI (((((ltI r.type_ 0) || (geI r.type_ (lenI x0.types))) || (ltI r.start 0)) || (gtI r.start 4096)) = false)),nL Qac.enc r.visits,hP,hP,oI (((((ltI r.type_ 0) || (geI r.type_ (lenI x0.types))) || (ltI r.start 0)) || (gtI r.start 4096)) = false),oR True (((((ltI r.type_ 0) || (geI r.type_ (lenI x0.types))) || (ltI r.start 0)) || (gtI r.start 4096)) = false),bF h0,hH (.draw 10 []),cE Qal.enc h1,nL Qac.enc r.visits,hW 3,hH (.adoptB 3 24 4 103)] (QrX Γ rv h7 ?_)
  rcases e0 with e0|e0
  ·obtain ⟨l1,rfl⟩:∃ x,x = e0:=⟨_,rfl⟩
   replace h:(some ((Qau.mk x0 x1 r l1),true):Option (Qau × Bool)) = some _:=h
   obtain rfl:=Option.some.inj h
   exact gr 2 [] [hW 5,hH (.frz 2),rp 3 (eL l1 Qat.enc)]
  ·obtain ⟨r2,rfl⟩:∃ x,x = e0:=⟨_,rfl⟩
   replace h:(some r2:Option (Qau × Bool)) = some _:=h
   exact Option.some.inj h
theorem Qmd {p} {rv:Qaf} (h:QcS p = some rv):AFn Tryz.prog 79 [.agg (Qau.enc p)] [] (gG [lI rv.ready,lI rv.since,.bool rv.sheet.rest_,lI rv.sheet.depart,lL 4 rv.sheet.times Qaq.enc,lI rv.sheet.end_,lI rv.sheet.miles]) []:=by
 refine QaS Tryz.func79 (by kernel_rfl) (by kernel_rfl) (fun Γ=>?_)
 unfold QcS at h
 obtain rfl:=Option.some.inj h
 exact gr 4 [] [hW 15,hH (.nilB 1 4 4)]
theorem Qdk {n i} {rv:Bool} (h:Qid n i = some rv):AFn Tryz.prog 160 [.agg (Qah.enc n),.one (lI i)] [] (one (.bool rv)) []:=by
 refine QaS Tryz.func160 (by kernel_rfl) (by kernel_rfl) (fun Γ=>?_)
 unfold Qid at h
 obtain rfl:=Option.some.inj h
 exact gr 4 [] [rp 4 hP,rp 2 (oI ((geI i 0) = true)),nL e_str n.places,hP,hP,rp 2 (oI ((geI i 0) = true)),oR True ((geI i 0) = true)]
theorem QoT {a} {rv:QhZ} (h:Qmp a = some rv):AFn Tryz.prog 165 [.agg (Qav.enc a)] [] (gG [lI rv.from_,lI rv.to_,lI rv.profile]) []:=by
 refine QaS Tryz.func165 (by kernel_rfl) (by kernel_rfl) (fun Γ=>?_)
 unfold Qmp at h
 obtain rfl:=Option.some.inj h
 exact gr 4 [] []
def Qqu (Γ:Gam) (rv:Qav × Bool) (cf:Cf):Prop:=Go Tryz.prog Tryz.f161 [] Γ (.tup [.agg [lI rv.1.from_,lI rv.1.to_,lI rv.1.profile,lI rv.1.miles,lL 2 rv.1.travel Qan.enc,lL 2 rv.1.slow Qan.enc],.one (.bool rv.2)]) [] cf
def QnW (Γ:Gam) (rv:Qav × Bool) (n:Qah) (profile:Int) (from_:Int) (to_:Int) (v:Int):Prop:=Qqu Γ rv ⟨[.c 116,.l 116,.b 0,.c 15],⟨31,[vP 8 0 6,vP 10 1 3,vL 18 6 n.arcs Qav.enc,vI 19 (lenI n.arcs),vI 20 v],[oX 6 99 [lI 0,lI 0,lI 0,lI 0,.nils,.nils],oX 3 216 [lI from_,lI to_,lI profile]]⟩⟩
def Qna (Γ:Gam) (rv:Qav × Bool) (n:Qah) (profile:Int) (from_:Int) (to_:Int):Prop:=Qqu Γ rv ⟨[.c 15],⟨31,[vP 8 0 6],[oX 6 99 [lI 0,lI 0,lI 0,lI 0,.nils,.nils]]⟩⟩
theorem QqW (Γ:Gam) (rv:Qav × Bool) {n profile from_ to_} {s:Int} {e:(Unit) ⊕ (Qav × Bool)} (h:loopF (fun s=>Qgo n profile from_ to_ s) s = some e) (hD:sel e (fun e=>Qna Γ rv n profile from_ to_) (fun e=>e = rv)):QnW Γ rv n profile from_ to_ s:=by
 refine QaI (C:=fun (s:Int)=>QnW Γ rv n profile from_ to_ s) (D:=fun (e:(Unit) ⊕ (Qav × Bool))=>sel e (fun e=>Qna Γ rv n profile from_ to_) (fun e=>e = rv)) ?_ h hD
 clear h hD s e
 intro v z_ h hI hE
 replace h:Qgo n profile from_ to_ v = _:=h
 unfold Qgo at h
 rcases Qai h with ⟨h0,h⟩|⟨h0,h⟩
 ·obtain ⟨x0,h1,h⟩:=Qae h
  obtain ⟨r,h2,h⟩:=Qae h
  rcases Qai h with ⟨h3,h⟩|⟨h3,h⟩
  ·obtain rfl:=(hE _ (oJ h):_ = rv)
   exact gr 14 [] [bT h0,cE Qav.enc h1,hH (.draw 4 []),cC (QoT h2),bT h3]
  ·exact gn 16 [8,10,18,19,20] [0,1] [bT h0,cE Qav.enc h1,hH (.draw 4 []),cC (QoT h2),bF h3] (hI _ (oJ h))
 ·exact gn 5 [8] [0] [bF h0] (hE _ (oJ h))
theorem QpF {n profile from_ to_} {rv:Qav × Bool} (h:QlM n profile from_ to_ = some rv):AFn Tryz.prog 161 [.agg (Qah.enc n),.one (lI profile),.one (lI from_),.one (lI to_)] [] (.tup [.agg [lI rv.1.from_,lI rv.1.to_,lI rv.1.profile,lI rv.1.miles,lL 2 rv.1.travel Qan.enc,lL 2 rv.1.slow Qan.enc],.one (.bool rv.2)]) []:=by
 refine QaS Tryz.func161 (by kernel_rfl) (by kernel_rfl) (fun Γ=>?_)
 unfold QlM at h
 obtain ⟨e0,h4,h⟩:=Qae h
 refine gn 9 [8,10,18,19,20] [1,2] [nL Qav.enc n.arcs] (QqW Γ rv h4 ?_)
 rcases e0 with e0|e0
 ·replace h:(some ((Qav.mk 0 0 0 0 [] []),false):Option (Qav × Bool)) = some _:=h
  obtain rfl:=Option.some.inj h
  exact gr 2 [] [hW 5,hH (.nilB 0 4 2),hH (.nilB 0 5 2)]
 ·obtain ⟨r1,rfl⟩:∃ x,x = e0:=⟨_,rfl⟩
  replace h:(some r1:Option (Qav × Bool)) = some _:=h
  exact Option.some.inj h
theorem Qg3 {n least most} {rv:Bool} (h:QfZ n least most = some rv):AFn Tryz.prog 168 [.one (lI n),.one (lI least),.one (lI most)] [] (one (.bool rv)) []:=by
 refine QaS Tryz.func168 (by kernel_rfl) (by kernel_rfl) (fun Γ=>?_)
 unfold QfZ at h
 obtain rfl:=Option.some.inj h
 exact gr 4 [] [rp 4 hP,rp 2 (oI ((geI n least) = true)),oR True ((geI n least) = true)]
theorem Qsy {i} {rv:ByteArray} (h:Qpb i = some rv):AFn Tryz.prog 181 [.one (lI i)] [] (one (.str rv)) []:=by
 refine QaS Tryz.func181 (by kernel_rfl) (by kernel_rfl) (fun Γ=>?_)
 unfold Qpb at h
 rcases Qai h with ⟨h0,h⟩|⟨h0,h⟩
 ·obtain ⟨s0,h1,h⟩:=Qae h
  obtain rfl:=Option.some.inj h
  exact gr 8 [] [bT h0,oO (ss1 h1),oO (ss2 h1),oO (ss3 h1)]
 ·obtain ⟨s1,h2,h⟩:=Qae h
  obtain rfl:=Option.some.inj h
  exact gr 9 [] [bF h0,oO (ss1 h2),oO (ss2 h2),oO (ss3 h2)]
end Go.Proofs.YtoogjnlmicgfiaaGreatDoor
