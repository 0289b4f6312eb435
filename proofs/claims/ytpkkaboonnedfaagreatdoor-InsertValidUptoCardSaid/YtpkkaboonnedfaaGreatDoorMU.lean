/- Part MU of the proof: texts Y0. -/
import Derived.Test.YtpkkaboonnedfaaGreatDoorMT
import Derived.Test.YtpkkaboonnedfaaGreatDoorMC
import Derived.Test.YtpkkaboonnedfaaGreatDoorMI
import Derived.Test.YtpkkaboonnedfaaGreatDoorProg
namespace Go.Proofs.YtpkkaboonnedfaaGreatDoor
set_option linter.unusedVariables false
set_option linter.unusedSectionVars false
set_option linter.unusedSimpArgs false
set_option maxHeartbeats 4000000
set_option maxRecDepth 100000
def QiO (Γ:Gam) (rv:List Qaa) (cf:Cf):Prop:=Go Tryz.prog Tryz.f57 [] Γ (one (lL 2 rv Qaa.enc)) [] cf
def Qg9 (Γ:Gam) (rv:List Qaa) (word:ByteArray) (l:List Qaa) (l1:List Qaa) (i:Int):Prop:=QiO Γ rv ⟨[.c 116,.l 116,.b 0,.c 15],⟨40,[vS 0 word,vL 1 2 l Qaa.enc,vO 5 0 2 l1 Qaa.enc,vI 6 i],[oS 2 146 l1 Qaa.enc]⟩⟩
def QgN (Γ:Gam) (rv:List Qaa) (word:ByteArray) (l:List Qaa) (l2:List Qaa):Prop:=QiO Γ rv ⟨[.c 15],⟨40,[vO 5 0 2 l2 Qaa.enc],[oS 2 146 l2 Qaa.enc]⟩⟩
theorem QjG (Γ:Gam) (rv:List Qaa) {word l l1 i at_} {x:(List Qaa×Int)⊕(List Qaa)} (h:Qfi word l l1 i at_=some x) (hI:∀ s:List Qaa×Int,x=.inl s→Qg9 Γ rv word l s.1 s.2) (hE:∀ e:List Qaa,x=.inr e→QgN Γ rv word l e):QiO Γ rv ⟨[.c 3731,.b 1,.c 467,.l 116,.b 0,.c 15],⟨40,[vS 0 word,vL 1 2 l Qaa.enc,vO 5 0 2 l1 Qaa.enc,vI 6 i,vS 7 at_],[oS 2 146 l1 Qaa.enc]⟩⟩:=by
 unfold Qfi at h
 obtain ⟨x1,h5,h⟩:=Qae h
 obtain ⟨h6,h⟩:=Qax h
 exact gn 4 [0,1,5,6] [2] [cE Qaa.enc h5,oO (Eq.refl ([(Qaa.mk x1.err at_)].map Qaa.enc).length),aO Qaa.enc h6] (hI _ (oJ h))
theorem Qn6 (Γ:Gam) (rv:List Qaa) {word l} {s:List Qaa×Int} {e:List Qaa} (h:loopF (fun s=>Qd1 word l s.1 s.2) s=some e) (hD:QgN Γ rv word l e):Qg9 Γ rv word l s.1 s.2:=by
 refine QaN (C:=fun (s:List Qaa×Int)=>Qg9 Γ rv word l s.1 s.2) (D:=fun (e:List Qaa)=>QgN Γ rv word l e) ?_ h hD
 clear h hD s e
 rintro ⟨l1,i⟩ z_ h hI hE
 replace h:Qd1 word l l1 i=_:=h
 unfold Qd1 at h
 rcases Qal h with ⟨h0,h⟩|⟨h0,h⟩
 ·obtain ⟨x0,h1,h⟩:=Qae h
  rcases Qal h with ⟨h2,h⟩|⟨h2,h⟩
  ·exact gn 14 [0,1,5,6,7] [0] [nL Qaa.enc l,bT h0,cE Qaa.enc h1,nF h2] (QjG Γ rv h hI hE)
  ·obtain ⟨h3,h⟩:=Qax h
   obtain ⟨h4,h⟩:=Qax h
   exact gn 14 [0,1,5,6,7] [0] [nL Qaa.enc l,bT h0,cE Qaa.enc h1,nT h2,oO (h3),cE Qaa.enc h1,oO (h4)] (QjG Γ rv h hI hE)
 ·exact gn 5 [5] [0] [nL Qaa.enc l,bF h0] (hE _ (oJ h))
theorem Qid {word l} {rv:List Qaa} (h:QfK word l=some rv):AFn Tryz.prog 57 [.one (.str word),.one (lL 2 l Qaa.enc)] [] (one (lL 2 rv Qaa.enc)) []:=by
 refine QaT Tryz.func57 (by kernel_rfl) (by kernel_rfl) (fun Γ=>?_)
 unfold QfK at h
 obtain ⟨e0,h7,h⟩:=Qae h
 refine gn 9 [0,1,5,6] [0] [hW 12,hH (.adopt 5 2 146)] (Qn6 Γ rv h7 ?_)
 obtain ⟨l2,rfl⟩:∃ x,x=e0:=⟨_,rfl⟩
 replace h:(some l2:Option (List Qaa))=some _:=h
 obtain rfl:=Option.some.inj h
 exact gr 2 [] [hW 4,hH (.frz 0),rp 3 (eL l2 Qaa.enc)]
def Qht (Γ:Gam) (rv:ByteArray) (cf:Cf):Prop:=Go Tryz.prog Tryz.f91 [] Γ (one (.str rv)) [] cf
def Qgi (Γ:Gam) (rv:ByteArray) (n:Int) (s0:ByteArray) (left:Int) (again:Bool):Prop:=Qht Γ rv ⟨[.c 244,.l 244,.b 0,.c 31],⟨31,[vI 0 n,vS 3 s0,vI 4 left,vB 5 again],[]⟩⟩
def QfU (Γ:Gam) (rv:ByteArray) (n:Int) (s1:ByteArray):Prop:=Qht Γ rv ⟨[.c 31],⟨31,[vI 0 n,vS 3 s1],[]⟩⟩
theorem Qh5 (Γ:Gam) (rv:ByteArray) {n s0 left d} {x:(ByteArray×Int×Bool)⊕(ByteArray)} (h:Qc7 n s0 left d=some x) (hI:∀ s:ByteArray×Int×Bool,x=.inl s→Qgi Γ rv n s.1 s.2.1 s.2.2) (hE:∀ e:ByteArray,x=.inr e→QfU Γ rv n e):Qht Γ rv ⟨[.c 7827,.b 1,.c 979,.l 244,.b 0,.c 31],⟨31,[vI 0 n,vS 3 s0,vI 4 left,vI 6 d],[]⟩⟩:=by
 unfold Qc7 at h
 obtain ⟨h2,h⟩:=Qax h
 exact gn 6 [0,3,4,5] [] [hH (.ints [(cvK .u8 (addK .i64 48 d))]),oO (Eq.refl ([(cvK .u8 (addK .i64 48 d))].map e_u8).length),oO (Eq.refl (([(cvK .u8 (addK .i64 48 d))].map e_u8):List (List Lf))),oO (h2),oO (oA (n:=10))] (hI _ (oJ h))
theorem QmO (Γ:Gam) (rv:ByteArray) {n} {s:ByteArray×Int×Bool} {e:ByteArray} (h:loopF (fun s=>Qfx n s.1 s.2.1 s.2.2) s=some e) (hD:QfU Γ rv n e):Qgi Γ rv n s.1 s.2.1 s.2.2:=by
 refine QaN (C:=fun (s:ByteArray×Int×Bool)=>Qgi Γ rv n s.1 s.2.1 s.2.2) (D:=fun (e:ByteArray)=>QfU Γ rv n e) ?_ h hD
 clear h hD s e
 rintro ⟨s0,left,again⟩ z_ h hI hE
 replace h:Qfx n s0 left again=_:=h
 unfold Qfx at h
 rcases Qal h with ⟨h0,h⟩|⟨h0,h⟩
 ·rcases Qal h with ⟨h1,h⟩|⟨h1,h⟩
  ·exact gn 14 [0,3,4,6] [] [bT h0,oO (oA (n:=10)),bT h1] (Qh5 Γ rv h hI hE)
  ·exact gn 14 [0,3,4,6] [] [bT h0,oO (oA (n:=10)),bF h1] (Qh5 Γ rv h hI hE)
 ·exact gn 5 [0,3] [] [bF h0] (hE _ (oJ h))
theorem QbS {n} {rv:ByteArray} (h:QbU n=some rv):AFn Tryz.prog 91 [.one (lI n)] [] (one (.str rv)) []:=by
 refine QaT Tryz.func91 (by kernel_rfl) (by kernel_rfl) (fun Γ=>?_)
 unfold QbU at h
 obtain ⟨e0,h3,h⟩:=Qae h
 refine gn 11 [0,3,4,5] [] [] (QmO Γ rv h3 ?_)
 obtain ⟨s1,rfl⟩:∃ x,x=e0:=⟨_,rfl⟩
 replace h:(br (ltI n 0) (chk (Qs8.size+s1.size≤9223372036854775807) (some (catS Qs8 s1))) (some s1):Option ByteArray)=some _:=h
 rcases Qal h with ⟨h4,h⟩|⟨h4,h⟩
 ·obtain ⟨h5,h⟩:=Qax h
  obtain rfl:=Option.some.inj h
  exact gr 6 [] [bT h4,oO (h5)]
 ·obtain rfl:=Option.some.inj h
  exact gr 7 [] [bF h4]
theorem Qgn {c} {rv:Bool} (h:Qh6 c=some rv):AFn Tryz.prog 148 [.one (.int .u8 c)] [] (one (.bool rv)) []:=by
 refine QaT Tryz.func148 (by kernel_rfl) (by kernel_rfl) (fun Γ=>?_)
 unfold Qh6 at h
 obtain rfl:=Option.some.inj h
 exact gr 4 [] [hP,hP,hP,oI ((geI c 48)=true),oR True ((geI c 48)=true)]
theorem Qhu {c} {rv:Bool} (h:QjV c=some rv):AFn Tryz.prog 149 [.one (.int .u8 c)] [] (one (.bool rv)) []:=by
 refine QaT Tryz.func149 (by kernel_rfl) (by kernel_rfl) (fun Γ=>?_)
 unfold QjV at h
 obtain rfl:=Option.some.inj h
 exact gr 4 [] [rp 14 hP,oI ((geI c 97)=true),oR True ((geI c 97)=true),rp 2 (oI (((geI c 97)&&(leI c 122))=false)),oI ((((geI c 97)&&(leI c 122))=false)∧(geI c 65)=true),oI (((geI c 97)&&(leI c 122))=false),oI ((((geI c 97)&&(leI c 122))=false)∧(geI c 65)=true),oR True (((geI c 97)&&(leI c 122))=false),oI ((((geI c 97)&&(leI c 122))||((geI c 65)&&(leI c 90)))=false),oR True ((((geI c 97)&&(leI c 122))||((geI c 65)&&(leI c 90)))=false)]
def Qnb (Γ:Gam) (rv:Bool) (cf:Cf):Prop:=Go Tryz.prog Tryz.f119 [] Γ (one (.bool rv)) [] cf
def Qk2 (Γ:Gam) (rv:Bool) (s0:ByteArray) (b:UInt8) (i:Int):Prop:=Qnb Γ rv ⟨[.c 116,.l 116,.b 0,.c 15],⟨35,[vS 0 s0,vI 3 i],[]⟩⟩
def Qkl (Γ:Gam) (rv:Bool) (s0:ByteArray) (b:UInt8):Prop:=Qnb Γ rv ⟨[.c 15],⟨35,[],[]⟩⟩
theorem QoR (Γ:Gam) (rv:Bool) {s0 b} {s:Int} {e:(Unit)⊕(Bool)} (h:loopF (fun s=>Qex s0 b s) s=some e) (hD:sel e (fun e=>Qkl Γ rv s0 b) (fun e=>e=rv)):Qk2 Γ rv s0 b s:=by
 refine QaN (C:=fun (s:Int)=>Qk2 Γ rv s0 b s) (D:=fun (e:(Unit)⊕(Bool))=>sel e (fun e=>Qkl Γ rv s0 b) (fun e=>e=rv)) ?_ h hD
 clear h hD s e
 intro i z_ h hI hE
 replace h:Qex s0 b i=_:=h
 unfold Qex at h
 rcases Qal h with ⟨h4,h⟩|⟨h4,h⟩
 ·obtain ⟨b1,h5,h⟩:=Qae h
  obtain ⟨r1,h6,h⟩:=Qae h
  rcases Qal h with ⟨h7,h⟩|⟨h7,h⟩
  ·exact gn 14 [0,3] [] [bT h4,yE h5,cC (Qhu h6),rp 6 (nF h7),fF] (hI _ (oJ h))
  ·obtain ⟨r2,h8,h⟩:=Qae h
   rcases Qal h with ⟨h9,h⟩|⟨h9,h⟩
   ·exact gn 14 [0,3] [] [bT h4,yE h5,cC (Qhu h6),rp 3 (nT h7),yE h5,nT h7,cC (Qgn h8),nT h7,nT h7,nF h9] (hI _ (oJ h))
   ·obtain rfl:=(hE _ (oJ h):_=rv)
    exact gr 12 [] [bT h4,yE h5,cC (Qhu h6),rp 3 (nT h7),yE h5,nT h7,cC (Qgn h8),nT h7,nT h7,nT h9]
 ·exact gn 5 [] [] [bF h4] (hE _ (oJ h))
theorem Qey {s0} {rv:Bool} (h:Qfp s0=some rv):AFn Tryz.prog 119 [.one (.str s0)] [] (one (.bool rv)) []:=by
 refine QaT Tryz.func119 (by kernel_rfl) (by kernel_rfl) (fun Γ=>?_)
 unfold Qfp at h
 rcases Qal h with ⟨h0,h⟩|⟨h0,h⟩
 ·obtain rfl:=Option.some.inj h
  exact gr 8 [] [rp 4 hP,rp 2 (oI ((ltI (sizeS s0) 1)=false)),oR True ((ltI (sizeS s0) 1)=false),rp 4 (bT h0),tT]
 ·obtain ⟨b,h1,h⟩:=Qae h
  obtain ⟨r,h2,h⟩:=Qae h
  rcases Qal h with ⟨h3,h⟩|⟨h3,h⟩
  ·obtain rfl:=Option.some.inj h
   exact gr 8 [] [rp 4 hP,rp 2 (oI ((ltI (sizeS s0) 1)=false)),oR True ((ltI (sizeS s0) 1)=false),bF h0,bF h0,yE h1,bF h0,cC (Qgn h2),bF h0,bT h3]
  ·obtain ⟨e0,h10,h⟩:=Qae h
   refine gn 12 [0,3] [] [rp 4 hP,rp 2 (oI ((ltI (sizeS s0) 1)=false)),oR True ((ltI (sizeS s0) 1)=false),bF h0,bF h0,yE h1,bF h0,cC (Qgn h2),bF h0,bF h3] (QoR Γ rv h10 ?_)
   rcases e0 with e0|e0
   ·replace h:(some true:Option Bool)=some _:=h
    obtain rfl:=Option.some.inj h
    exact gr 2 [] []
   ·obtain ⟨r3,rfl⟩:∃ x,x=e0:=⟨_,rfl⟩
    replace h:(some r3:Option Bool)=some _:=h
    exact Option.some.inj h
def QgX (Γ:Gam) (rv:List Qaa) (cf:Cf):Prop:=Go Tryz.prog Tryz.f120 [] Γ (one (lL 2 rv Qaa.enc)) [] cf
def Qg7 (Γ:Gam) (rv:List Qaa) (l:List Qao) (l2:List Qaa) (i:Int):Prop:=QgX Γ rv ⟨[.c 244,.l 244,.b 0,.c 31],⟨88,[vL 0 2 l Qao.enc,vO 3 0 2 l2 Qaa.enc,vI 4 i],[oS 2 146 l2 Qaa.enc]⟩⟩
def QgE (Γ:Gam) (rv:List Qaa) (l:List Qao) (l4:List Qaa):Prop:=QgX Γ rv ⟨[.c 31],⟨88,[vO 3 0 2 l4 Qaa.enc],[oS 2 146 l4 Qaa.enc]⟩⟩
theorem Qjb (Γ:Gam) (rv:List Qaa) {l i x0 l3} {x:(List Qaa×Int)⊕(List Qaa)} (h:QdM l i x0 l3=some x) (hI:∀ s:List Qaa×Int,x=.inl s→Qg7 Γ rv l s.1 s.2) (hE:∀ e:List Qaa,x=.inr e→QgE Γ rv l e):QgX Γ rv ⟨[.c 7827,.b 1,.c 979,.l 244,.b 0,.c 31],⟨88,[vL 0 2 l Qao.enc,vO 3 0 2 l3 Qaa.enc,vI 4 i,vP 5 1 2],[oS 2 146 l3 Qaa.enc,oX 2 119 (Qao.enc x0)]⟩⟩:=by
 unfold QdM at h
 rcases Qal h with ⟨h7,h⟩|⟨h7,h⟩
 ·obtain ⟨x1,h8,h⟩:=Qae h
  rcases Qal h with ⟨h9,h⟩|⟨h9,h⟩
  ·obtain ⟨r1,h10,h⟩:=Qae h
   obtain ⟨h11,h⟩:=Qax h
   exact gn 7 [0,3,4] [3] [hH (.draw 24 []),rp 6 (bT h7),cE Qao.enc h8,rp 4 (bT h7),rp 9 (bT h9),bT h7,bT h9,bT h7,tT,cC (QbS h10),oO (Eq.refl ([(Qaa.mk 13 r1)].map Qaa.enc).length),aO Qaa.enc h11] (hI _ (oJ h))
  ·rcases Qal h with ⟨h12,h⟩|⟨h12,h⟩
   ·obtain ⟨r2,h13,h⟩:=Qae h
    obtain ⟨h14,h⟩:=Qax h
    exact gn 7 [0,3,4] [3] [hH (.draw 24 []),rp 6 (bT h7),cE Qao.enc h8,rp 4 (bT h7),rp 6 (bF h9),cE Qao.enc h8,rp 3 (bF h9),bT h7,bF h9,bT h7,bT h12,cC (QbS h13),oO (Eq.refl ([(Qaa.mk 13 r2)].map Qaa.enc).length),aO Qaa.enc h14] (hI _ (oJ h))
   ·exact gn 7 [0,3,4] [0] [hH (.draw 24 []),rp 6 (bT h7),cE Qao.enc h8,rp 4 (bT h7),rp 6 (bF h9),cE Qao.enc h8,rp 3 (bF h9),bT h7,bF h9,bT h7,bF h12] (hI _ (oJ h))
 ·exact gn 7 [0,3,4] [0] [hH (.draw 24 []),rp 10 (bF h7),rp 9 kF,bF h7,bF h7,fF] (hI _ (oJ h))
theorem QnX (Γ:Gam) (rv:List Qaa) {l} {s:List Qaa×Int} {e:List Qaa} (h:loopF (fun s=>QcY l s.1 s.2) s=some e) (hD:QgE Γ rv l e):Qg7 Γ rv l s.1 s.2:=by
 refine QaN (C:=fun (s:List Qaa×Int)=>Qg7 Γ rv l s.1 s.2) (D:=fun (e:List Qaa)=>QgE Γ rv l e) ?_ h hD
 clear h hD s e
 rintro ⟨l2,i⟩ z_ h hI hE
 replace h:QcY l l2 i=_:=h
 unfold QcY at h
 rcases Qal h with ⟨h2,h⟩|⟨h2,h⟩
 ·obtain ⟨x0,h3,h⟩:=Qae h
  rcases Qal h with ⟨h4,h⟩|⟨h4,h⟩
  ·obtain ⟨r,h5,h⟩:=Qae h
   obtain ⟨h6,h⟩:=Qax h
   exact gn 14 [0,3,4,5] [3,1] [nL Qao.enc l,bT h2,cE Qao.enc h3,rp 17 hP,rp 2 (oI ((ltI x0.t 0)=false)),oR True ((ltI x0.t 0)=false),rp 4 (oI (((ltI x0.t 0)||(gtI x0.t 4096))=false)),oR True (((ltI x0.t 0)||(gtI x0.t 4096))=false),rp 5 (oI ((((ltI x0.t 0)||(gtI x0.t 4096))||(ltI x0.a x0.t))=false)),oR True ((((ltI x0.t 0)||(gtI x0.t 4096))||(ltI x0.a x0.t))=false),bT h4,cC (QbS h5),oO (Eq.refl ([(Qaa.mk 2 r)].map Qaa.enc).length),aO Qaa.enc h6] (Qjb Γ rv h hI hE)
  ·exact gn 14 [0,3,4,5] [0,1] [nL Qao.enc l,bT h2,cE Qao.enc h3,rp 17 hP,rp 2 (oI ((ltI x0.t 0)=false)),oR True ((ltI x0.t 0)=false),rp 4 (oI (((ltI x0.t 0)||(gtI x0.t 4096))=false)),oR True (((ltI x0.t 0)||(gtI x0.t 4096))=false),rp 5 (oI ((((ltI x0.t 0)||(gtI x0.t 4096))||(ltI x0.a x0.t))=false)),oR True ((((ltI x0.t 0)||(gtI x0.t 4096))||(ltI x0.a x0.t))=false),bF h4] (Qjb Γ rv h hI hE)
 ·exact gn 5 [3] [0] [nL Qao.enc l,bF h2] (hE _ (oJ h))
theorem Qja (Γ:Gam) (rv:List Qaa) {l l1} (h:Qfb l l1=some rv):QgX Γ rv ⟨[.c 15],⟨88,[vL 0 2 l Qao.enc,vO 3 0 2 l1 Qaa.enc],[oS 2 146 l1 Qaa.enc]⟩⟩:=by
 unfold Qfb at h
 obtain ⟨e0,h15,h⟩:=Qae h
 refine gn 5 [0,3,4] [0] [] (QnX Γ rv h15 ?_)
 obtain ⟨l4,rfl⟩:∃ x,x=e0:=⟨_,rfl⟩
 replace h:(some l4:Option (List Qaa))=some _:=h
 obtain rfl:=Option.some.inj h
 exact gr 2 [] [hW 4,hH (.frz 0),rp 3 (eL l4 Qaa.enc)]
theorem QpO {l} {rv:List Qaa} (h:QeN l=some rv):AFn Tryz.prog 120 [.one (lL 2 l Qao.enc)] [] (one (lL 2 rv Qaa.enc)) []:=by
 refine QaT Tryz.func120 (by kernel_rfl) (by kernel_rfl) (fun Γ=>?_)
 unfold QeN at h
 rcases Qal h with ⟨h0,h⟩|⟨h0,h⟩
 ·obtain ⟨h1,h⟩:=Qax h
  exact gn 9 [0,3] [1] [nL Qao.enc l,hP,hP,oI ((ltI (lenI l) 1)=false),nL Qao.enc l,hP,hP,oI ((ltI (lenI l) 1)=false),oR True ((ltI (lenI l) 1)=false),bT h0,oO (Eq.refl ([(Qaa.mk 4 ByteArray.empty)].map Qaa.enc).length),aN (l:=([(Qaa.mk 4 ByteArray.empty)]:List Qaa)) Qaa.enc h1] (Qja Γ rv h)
 ·exact gn 9 [0,3] [0] [nL Qao.enc l,hP,hP,oI ((ltI (lenI l) 1)=false),nL Qao.enc l,hP,hP,oI ((ltI (lenI l) 1)=false),oR True ((ltI (lenI l) 1)=false),bF h0,hW 1,hH (.adopt 3 2 146)] (Qja Γ rv h)
theorem Qcv {t} {rv:Bool} (h:Qge t=some rv):AFn Tryz.prog 121 [.one (lI t)] [] (one (.bool rv)) []:=by
 refine QaT Tryz.func121 (by kernel_rfl) (by kernel_rfl) (fun Γ=>?_)
 unfold Qge at h
 obtain rfl:=Option.some.inj h
 exact gr 4 [] [hP,hP,hP,oI ((geI t 0)=true),oR True ((geI t 0)=true)]
def QbG (Γ:Gam) (rv:List Qaa) (cf:Cf):Prop:=Go Tryz.prog Tryz.f88 [] Γ (one (lL 2 rv Qaa.enc)) [] cf
def Qh8 (Γ:Gam) (rv:List Qaa) (n:Qai) (i:Int) (r:ByteArray) (x0:Qas) (l:List Qaa) (l1:List Qaa) (twice:Bool) (k:Int):Prop:=QbG Γ rv ⟨[.c 4084,.l 4084,.b 0,.c 511],⟨192,[vI 1 i,vP 2 0 2,vO 5 1 2 l1 Qaa.enc,vS 6 (catS QaS r),vP 7 2 6,vB 8 twice,vI 9 k],[oX 2 25 (Qai.enc n),oS 2 146 l1 Qaa.enc,oX 6 122 (Qas.enc x0)]⟩⟩
def QhO (Γ:Gam) (rv:List Qaa) (n:Qai) (i:Int) (r:ByteArray) (x0:Qas) (l:List Qaa) (l1:List Qaa) (twice1:Bool):Prop:=QbG Γ rv ⟨[.c 511],⟨192,[vO 5 0 2 l1 Qaa.enc,vS 6 (catS QaS r),vP 7 1 6,vB 8 twice1],[oS 2 146 l1 Qaa.enc,oX 6 122 (Qas.enc x0)]⟩⟩
def Qh9 (Γ:Gam) (rv:List Qaa) (r:ByteArray) (x0:Qas) (l:List Qaa) (r1:List Qaa) (l3:List Qaa) (k1:Int):Prop:=QbG Γ rv ⟨[.c 32756,.l 32756,.b 2,.c 4095],⟨192,[vO 5 0 2 l3 Qaa.enc,vS 6 (catS QaS r),vP 7 1 6,vL 11 2 r1 Qaa.enc,vI 12 k1],[oS 2 146 l3 Qaa.enc,oX 6 122 (Qas.enc x0)]⟩⟩
def QhP (Γ:Gam) (rv:List Qaa) (r:ByteArray) (x0:Qas) (l:List Qaa) (r1:List Qaa) (l4:List Qaa):Prop:=QbG Γ rv ⟨[.c 4095],⟨192,[vO 5 0 2 l4 Qaa.enc,vS 6 (catS QaS r),vP 7 1 6],[oS 2 146 l4 Qaa.enc,oX 6 122 (Qas.enc x0)]⟩⟩
def Qia (Γ:Gam) (rv:List Qaa) (r:ByteArray) (x0:Qas) (l:List Qaa) (l6:List Qaa) (k2:Int):Prop:=QbG Γ rv ⟨[.c 131060,.l 131060,.b 4,.c 16383],⟨192,[vO 5 0 2 l6 Qaa.enc,vS 6 (catS QaS r),vP 7 1 6,vI 13 k2],[oS 2 146 l6 Qaa.enc,oX 6 122 (Qas.enc x0)]⟩⟩
def QhQ (Γ:Gam) (rv:List Qaa) (r:ByteArray) (x0:Qas) (l:List Qaa) (l7:List Qaa):Prop:=QbG Γ rv ⟨[.c 16383],⟨192,[vO 5 0 2 l7 Qaa.enc],[oS 2 146 l7 Qaa.enc]⟩⟩
theorem Qmn (Γ:Gam) (rv:List Qaa) {n i r x0 l l1} {s:Bool×Int} {e:Bool} (h:loopF (fun s=>QbX n i r x0 l l1 s.1 s.2) s=some e) (hD:QhO Γ rv n i r x0 l l1 e):Qh8 Γ rv n i r x0 l l1 s.1 s.2:=by
 refine QaN (C:=fun (s:Bool×Int)=>Qh8 Γ rv n i r x0 l l1 s.1 s.2) (D:=fun (e:Bool)=>QhO Γ rv n i r x0 l l1 e) ?_ h hD
 clear h hD s e
 rintro ⟨twice,k⟩ z_ h hI hE
 replace h:QbX n i r x0 l l1 twice k=_:=h
 unfold QbX at h
 rcases Qal h with ⟨h7,h⟩|⟨h7,h⟩
 ·obtain ⟨x1,h8,h⟩:=Qae h
  exact gn 13 [1,2,5,6,7,8,9] [0,1,2] [bT h7,cE Qas.enc h8,rp 22 hP,rp 5 (oI (twice=false)),rp 4 (oI ((twice=false)∧(eqI x0.from_ x1.from_)=true)),oI (twice=false),oI ((twice=false)∧(eqI x0.from_ x1.from_)=true),oI (twice=false),rp 4 (oI ((twice=false)∧((eqI x0.from_ x1.from_)&&(eqI x0.to_ x1.to_))=true)),oI (twice=false),oI ((twice=false)∧((eqI x0.from_ x1.from_)&&(eqI x0.to_ x1.to_))=true),oR True (twice=false)] (hI _ (oJ h))
 ·exact gn 5 [5,6,7,8] [1,2] [bF h7] (hE _ (oJ h))
theorem Qmo (Γ:Gam) (rv:List Qaa) {r x0 l r1} {s:List Qaa×Int} {e:List Qaa} (h:loopF (fun s=>QbY r x0 l r1 s.1 s.2) s=some e) (hD:QhP Γ rv r x0 l r1 e):Qh9 Γ rv r x0 l r1 s.1 s.2:=by
 refine QaN (C:=fun (s:List Qaa×Int)=>Qh9 Γ rv r x0 l r1 s.1 s.2) (D:=fun (e:List Qaa)=>QhP Γ rv r x0 l r1 e) ?_ h hD
 clear h hD s e
 rintro ⟨l3,k1⟩ z_ h hI hE
 replace h:QbY r x0 l r1 l3 k1=_:=h
 unfold QbY at h
 rcases Qal h with ⟨h13,h⟩|⟨h13,h⟩
 ·obtain ⟨x2,h14,h⟩:=Qae h
  obtain ⟨h15,h⟩:=Qax h
  exact gn 11 [5,6,7,11,12] [3,1] [nL Qaa.enc r1,bT h13,cE Qaa.enc h14,oO (Eq.refl ([(Qaa.mk x2.err (catS QaS r))].map Qaa.enc).length),aO Qaa.enc h15] (hI _ (oJ h))
 ·exact gn 5 [5,6,7] [0,1] [nL Qaa.enc r1,bF h13] (hE _ (oJ h))
theorem Qmp (Γ:Gam) (rv:List Qaa) {r x0 l} {s:List Qaa×Int} {e:List Qaa} (h:loopF (fun s=>QbZ r x0 l s.1 s.2) s=some e) (hD:QhQ Γ rv r x0 l e):Qia Γ rv r x0 l s.1 s.2:=by
 refine QaN (C:=fun (s:List Qaa×Int)=>Qia Γ rv r x0 l s.1 s.2) (D:=fun (e:List Qaa)=>QhQ Γ rv r x0 l e) ?_ h hD
 clear h hD s e
 rintro ⟨l6,k2⟩ z_ h hI hE
 replace h:QbZ r x0 l l6 k2=_:=h
 unfold QbZ at h
 rcases Qal h with ⟨h19,h⟩|⟨h19,h⟩
 ·obtain ⟨x3,h20,h⟩:=Qae h
  obtain ⟨r2,h21,h⟩:=Qae h
  rcases Qal h with ⟨h22,h⟩|⟨h22,h⟩
  ·obtain ⟨r3,h23,h⟩:=Qae h
   rcases Qal h with ⟨h24,h⟩|⟨h24,h⟩
   ·rcases Qal h with ⟨h25,h⟩|⟨h25,h⟩
    ·obtain ⟨x4,h26,h⟩:=Qae h
     rcases Qal h with ⟨h27,h⟩|⟨h27,h⟩
     ·obtain ⟨h28,h⟩:=Qax h
      exact gn 16 [5,6,7,13] [4,1] [nL Qao.enc x0.slow,bT h19,cE Qao.enc h20,hH (.draw 26 []),cC (Qcv h21),rp 3 (nF h22),cC (Qcv h23),rp 2 (nF h22),rp 3 (nF h24),rp 7 (bT h25),cE Qao.enc h26,rp 3 (bT h25),nF h24,bT h25,nF h24,bT h27,oO (Eq.refl ([(Qaa.mk 2 (catS QaS r))].map Qaa.enc).length),aO Qaa.enc h28] (hI _ (oJ h))
     ·exact gn 16 [5,6,7,13] [0,1] [nL Qao.enc x0.slow,bT h19,cE Qao.enc h20,hH (.draw 26 []),cC (Qcv h21),rp 3 (nF h22),cC (Qcv h23),rp 2 (nF h22),rp 3 (nF h24),rp 7 (bT h25),cE Qao.enc h26,rp 3 (bT h25),nF h24,bT h25,nF h24,bF h27] (hI _ (oJ h))
    ·exact gn 16 [5,6,7,13] [0,1] [nL Qao.enc x0.slow,bT h19,cE Qao.enc h20,hH (.draw 26 []),cC (Qcv h21),rp 3 (nF h22),cC (Qcv h23),rp 2 (nF h22),rp 3 (nF h24),rp 10 (bF h25),nF h24,bF h25,nF h24,fF] (hI _ (oJ h))
   ·obtain ⟨h29,h⟩:=Qax h
    exact gn 16 [5,6,7,13] [4,1] [nL Qao.enc x0.slow,bT h19,cE Qao.enc h20,hH (.draw 26 []),cC (Qcv h21),rp 3 (nF h22),cC (Qcv h23),rp 2 (nF h22),rp 3 (nT h24),rp 10 kF,rp 2 (nT h24),tT,oO (Eq.refl ([(Qaa.mk 2 (catS QaS r))].map Qaa.enc).length),aO Qaa.enc h29] (hI _ (oJ h))
  ·obtain ⟨h30,h⟩:=Qax h
   exact gn 16 [5,6,7,13] [4,1] [nL Qao.enc x0.slow,bT h19,cE Qao.enc h20,hH (.draw 26 []),cC (Qcv h21),rp 5 (nT h22),tT,tT,tT,rp 10 kF,tT,tT,tT,oO (Eq.refl ([(Qaa.mk 2 (catS QaS r))].map Qaa.enc).length),aO Qaa.enc h30] (hI _ (oJ h))
 ·exact gn 5 [5] [0] [nL Qao.enc x0.slow,bF h19] (hE _ (oJ h))
theorem QhN (Γ:Gam) (rv:List Qaa) {r x0 l l5} (h:QbM r x0 l l5=some rv):QbG Γ rv ⟨[.c 8191],⟨192,[vO 5 0 2 l5 Qaa.enc,vS 6 (catS QaS r),vP 7 1 6],[oS 2 146 l5 Qaa.enc,oX 6 122 (Qas.enc x0)]⟩⟩:=by
 unfold QbM at h
 obtain ⟨e2,h31,h⟩:=Qae h
 refine gn 5 [5,6,7,13] [0,1] [] (Qmp Γ rv h31 ?_)
 obtain ⟨l7,rfl⟩:∃ x,x=e2:=⟨_,rfl⟩
 replace h:(some l7:Option (List Qaa))=some _:=h
 obtain rfl:=Option.some.inj h
 exact gr 2 [] [hW 4,hH (.frz 0),rp 3 (eL l7 Qaa.enc)]
theorem QhM (Γ:Gam) (rv:List Qaa) {r x0 l l2} (h:QbW r x0 l l2=some rv):QbG Γ rv ⟨[.c 1023],⟨192,[vO 5 0 2 l2 Qaa.enc,vS 6 (catS QaS r),vP 7 1 6],[oS 2 146 l2 Qaa.enc,oX 6 122 (Qas.enc x0)]⟩⟩:=by
 unfold QbW at h
 obtain ⟨r1,h12,h⟩:=Qae h
 obtain ⟨e1,h16,h⟩:=Qae h
 refine gn 7 [5,6,7,11,12] [0,1] [cC (QpO h12)] (Qmo Γ rv h16 ?_)
 obtain ⟨l4,rfl⟩:∃ x,x=e1:=⟨_,rfl⟩
 replace h:(br (gtI (lenI x0.slow) 16) (chk (okN (l4++[(Qaa.mk 4 (catS QaS r))]).length 24) (QbM r x0 l (l4++[(Qaa.mk 4 (catS QaS r))]))) (QbM r x0 l l4):Option (List Qaa))=some _:=h
 rcases Qal h with ⟨h17,h⟩|⟨h17,h⟩
 ·obtain ⟨h18,h⟩:=Qax h
  exact gn 5 [5,6,7] [3,1] [nL Qao.enc x0.slow,bT h17,oO (Eq.refl ([(Qaa.mk 4 (catS QaS r))].map Qaa.enc).length),aO Qaa.enc h18] (QhN Γ rv h)
 ·exact gn 5 [5,6,7] [0,1] [nL Qao.enc x0.slow,bF h17] (QhN Γ rv h)
theorem QhL (Γ:Gam) (rv:List Qaa) {n i r x0 l l1} (h:QcR n i r x0 l l1=some rv):QbG Γ rv ⟨[.c 127],⟨192,[vI 1 i,vP 2 0 2,vO 5 1 2 l1 Qaa.enc,vS 6 (catS QaS r),vP 7 2 6],[oX 2 25 (Qai.enc n),oS 2 146 l1 Qaa.enc,oX 6 122 (Qas.enc x0)]⟩⟩:=by
 unfold QcR at h
 obtain ⟨e0,h9,h⟩:=Qae h
 refine gn 7 [1,2,5,6,7,8,9] [0,1,2] [] (Qmn Γ rv h9 ?_)
 obtain ⟨twice1,rfl⟩:∃ x,x=e0:=⟨_,rfl⟩
 replace h:(br twice1 (chk (okN (l1++[(Qaa.mk 6 (catS QaS r))]).length 24) (QbW r x0 l (l1++[(Qaa.mk 6 (catS QaS r))]))) (QbW r x0 l l1):Option (List Qaa))=some _:=h
 rcases Qal h with ⟨h10,h⟩|⟨h10,h⟩
 ·obtain ⟨h11,h⟩:=Qax h
  exact gn 5 [5,6,7] [3,1] [bT h10,oO (Eq.refl ([(Qaa.mk 6 (catS QaS r))].map Qaa.enc).length),aO Qaa.enc h11] (QhM Γ rv h)
 ·exact gn 5 [5,6,7] [0,1] [bF h10] (QhM Γ rv h)
theorem QhK (Γ:Gam) (rv:List Qaa) {n i r x0 l} (h:QcQ n i r x0 l=some rv):QbG Γ rv ⟨[.c 63],⟨192,[vI 1 i,vP 2 0 2,vO 5 1 2 l Qaa.enc,vS 6 (catS QaS r),vP 7 2 6],[oX 2 25 (Qai.enc n),oS 2 146 l Qaa.enc,oX 6 122 (Qas.enc x0)]⟩⟩:=by
 unfold QcQ at h
 rcases Qal h with ⟨h5,h⟩|⟨h5,h⟩
 ·obtain ⟨h6,h⟩:=Qax h
  exact gn 5 [1,2,5,6,7] [0,4,2] [rp 18 hP,rp 2 (oI ((ltI x0.profile 0)=false)),oR True ((ltI x0.profile 0)=false),rp 2 (oI (((ltI x0.profile 0)||(gtI x0.profile 7))=false)),oR True (((ltI x0.profile 0)||(gtI x0.profile 7))=false),rp 2 (oI ((((ltI x0.profile 0)||(gtI x0.profile 7))||(ltI x0.miles 0))=false)),oR True ((((ltI x0.profile 0)||(gtI x0.profile 7))||(ltI x0.miles 0))=false),rp 4 (oI (((((ltI x0.profile 0)||(gtI x0.profile 7))||(ltI x0.miles 0))||(gtI x0.miles 10000))=false)),oR True (((((ltI x0.profile 0)||(gtI x0.profile 7))||(ltI x0.miles 0))||(gtI x0.miles 10000))=false),bT h5,oO (Eq.refl ([(Qaa.mk 2 (catS QaS r))].map Qaa.enc).length),aO Qaa.enc h6] (QhL Γ rv h)
 ·exact gn 5 [1,2,5,6,7] [0,1,2] [rp 18 hP,rp 2 (oI ((ltI x0.profile 0)=false)),oR True ((ltI x0.profile 0)=false),rp 2 (oI (((ltI x0.profile 0)||(gtI x0.profile 7))=false)),oR True (((ltI x0.profile 0)||(gtI x0.profile 7))=false),rp 2 (oI ((((ltI x0.profile 0)||(gtI x0.profile 7))||(ltI x0.miles 0))=false)),oR True ((((ltI x0.profile 0)||(gtI x0.profile 7))||(ltI x0.miles 0))=false),rp 4 (oI (((((ltI x0.profile 0)||(gtI x0.profile 7))||(ltI x0.miles 0))||(gtI x0.miles 10000))=false)),oR True (((((ltI x0.profile 0)||(gtI x0.profile 7))||(ltI x0.miles 0))||(gtI x0.miles 10000))=false),bF h5] (QhL Γ rv h)
theorem QnZ {n i} {rv:List Qaa} (h:Qfd n i=some rv):AFn Tryz.prog 88 [.agg (Qai.enc n),.one (lI i)] [] (one (lL 2 rv Qaa.enc)) []:=by
 refine QaT Tryz.func88 (by kernel_rfl) (by kernel_rfl) (fun Γ=>?_)
 unfold Qfd at h
 obtain ⟨r,h0,h⟩:=Qae h
 obtain ⟨h1,h⟩:=Qax h
 obtain ⟨x0,h2,h⟩:=Qae h
 rcases Qal h with ⟨h3,h⟩|⟨h3,h⟩
 ·obtain ⟨h4,h⟩:=Qax h
  exact gn 13 [1,2,5,6,7] [0,3,1] [cC (QbS h0),oO (h1),cE Qas.enc h2,rp 5 hP,rp 3 (oI ((ltI x0.from_ 0)=false)),nL e_str n.places,rp 11 hP,rp 2 (oI ((ltI x0.from_ 0)=false)),oR True ((ltI x0.from_ 0)=false),rp 2 (oI (((ltI x0.from_ 0)||(geI x0.from_ (lenI n.places)))=false)),oR True (((ltI x0.from_ 0)||(geI x0.from_ (lenI n.places)))=false),rp 3 (oI ((((ltI x0.from_ 0)||(geI x0.from_ (lenI n.places)))||(ltI x0.to_ 0))=false)),nL e_str n.places,hP,hP,rp 2 (oI ((((ltI x0.from_ 0)||(geI x0.from_ (lenI n.places)))||(ltI x0.to_ 0))=false)),oR True ((((ltI x0.from_ 0)||(geI x0.from_ (lenI n.places)))||(ltI x0.to_ 0))=false),bT h3,oO (Eq.refl ([(Qaa.mk 11 (catS QaS r))].map Qaa.enc).length),aN (l:=([(Qaa.mk 11 (catS QaS r))]:List Qaa)) Qaa.enc h4] (QhK Γ rv h)
 ·exact gn 13 [1,2,5,6,7] [0,2,1] [cC (QbS h0),oO (h1),cE Qas.enc h2,rp 5 hP,rp 3 (oI ((ltI x0.from_ 0)=false)),nL e_str n.places,rp 11 hP,rp 2 (oI ((ltI x0.from_ 0)=false)),oR True ((ltI x0.from_ 0)=false),rp 2 (oI (((ltI x0.from_ 0)||(geI x0.from_ (lenI n.places)))=false)),oR True (((ltI x0.from_ 0)||(geI x0.from_ (lenI n.places)))=false),rp 3 (oI ((((ltI x0.from_ 0)||(geI x0.from_ (lenI n.places)))||(ltI x0.to_ 0))=false)),nL e_str n.places,hP,hP,rp 2 (oI ((((ltI x0.from_ 0)||(geI x0.from_ (lenI n.places)))||(ltI x0.to_ 0))=false)),oR True ((((ltI x0.from_ 0)||(geI x0.from_ (lenI n.places)))||(ltI x0.to_ 0))=false),bF h3,hW 1,hH (.adopt 5 2 146)] (QhK Γ rv h)
def Qcn (Γ:Gam) (rv:List Qaa) (cf:Cf):Prop:=Go Tryz.prog Tryz.f87 [] Γ (one (lO 0 2 rv Qaa.enc)) [oS 2 146 rv Qaa.enc] cf
def QfP (Γ:Gam) (rv:List Qaa) (n:Qai) (l:List Qaa) (l1:List Qaa) (i:Int) (r:ByteArray) (twice:Bool) (k:Int):Prop:=Qcn Γ rv ⟨[.c 250484,.l 250484,.b 2,.c 31311,.b 1,.c 979,.l 244,.b 0,.c 31],⟨64,[vP 1 0 2,vO 3 1 2 l1 Qaa.enc,vI 4 i,vS 5 (catS Qdb r),vB 6 twice,vI 7 k],[oX 2 25 (Qai.enc n),oS 2 146 l1 Qaa.enc]⟩⟩
def QfF (Γ:Gam) (rv:List Qaa) (n:Qai) (l:List Qaa) (l1:List Qaa) (i:Int) (r:ByteArray) (twice1:Bool):Prop:=Qcn Γ rv ⟨[.c 31311,.b 1,.c 979,.l 244,.b 0,.c 31],⟨64,[vP 1 0 2,vO 3 1 2 l1 Qaa.enc,vI 4 i,vS 5 (catS Qdb r),vB 6 twice1],[oX 2 25 (Qai.enc n),oS 2 146 l1 Qaa.enc]⟩⟩
def QfO (Γ:Gam) (rv:List Qaa) (n:Qai) (l:List Qaa) (l1:List Qaa) (i:Int):Prop:=Qcn Γ rv ⟨[.c 244,.l 244,.b 0,.c 31],⟨64,[vP 1 0 2,vO 3 1 2 l1 Qaa.enc,vI 4 i],[oX 2 25 (Qai.enc n),oS 2 146 l1 Qaa.enc]⟩⟩
def QfE (Γ:Gam) (rv:List Qaa) (n:Qai) (l:List Qaa) (l2:List Qaa):Prop:=Qcn Γ rv ⟨[.c 31],⟨64,[vO 3 0 2 l2 Qaa.enc],[oS 2 146 l2 Qaa.enc]⟩⟩
theorem QiN (Γ:Gam) (rv:List Qaa) {n l l1 i r} {s:Bool×Int} {e:Bool} (h:loopF (fun s=>Qbf n l l1 i r s.1 s.2) s=some e) (hD:QfF Γ rv n l l1 i r e):QfP Γ rv n l l1 i r s.1 s.2:=by
 refine QaN (C:=fun (s:Bool×Int)=>QfP Γ rv n l l1 i r s.1 s.2) (D:=fun (e:Bool)=>QfF Γ rv n l l1 i r e) ?_ h hD
 clear h hD s e
 rintro ⟨twice,k⟩ z_ h hI hE
 replace h:Qbf n l l1 i r twice k=_:=h
 unfold Qbf at h
 rcases Qal h with ⟨h8,h⟩|⟨h8,h⟩
 ·rcases Qal h with ⟨h9,h⟩|⟨h9,h⟩
  ·exact gn 11 [1,3,4,5,6,7] [0,1] [bT h8,hH (.draw 14 []),rp 12 (bT h9)] (hI _ (oJ h))
  ·obtain ⟨x1,h10,h⟩:=Qae h
   obtain ⟨x2,h11,h⟩:=Qae h
   exact gn 11 [1,3,4,5,6,7] [0,1] [bT h8,hH (.draw 14 []),rp 4 (bF h9),cE e_str h10,rp 5 (bF h9),cE e_str h11,rp 3 (bF h9)] (hI _ (oJ h))
 ·exact gn 5 [1,3,4,5,6] [0,1] [bF h8] (hE _ (oJ h))
theorem QiM (Γ:Gam) (rv:List Qaa) {n l} {s:List Qaa×Int} {e:List Qaa} (h:loopF (fun s=>Qbe n l s.1 s.2) s=some e) (hD:QfE Γ rv n l e):QfO Γ rv n l s.1 s.2:=by
 refine QaN (C:=fun (s:List Qaa×Int)=>QfO Γ rv n l s.1 s.2) (D:=fun (e:List Qaa)=>QfE Γ rv n l e) ?_ h hD
 clear h hD s e
 rintro ⟨l1,i⟩ z_ h hI hE
 replace h:Qbe n l l1 i=_:=h
 unfold Qbe at h
 rcases Qal h with ⟨h2,h⟩|⟨h2,h⟩
 ·obtain ⟨r,h3,h⟩:=Qae h
  obtain ⟨h4,h⟩:=Qax h
  obtain ⟨x0,h5,h⟩:=Qae h
  obtain ⟨r1,h6,h⟩:=Qae h
  rcases Qal h with ⟨h7,h⟩|⟨h7,h⟩
  ·obtain ⟨e0,h12,h⟩:=Qae h
   refine gn 21 [1,3,4,5,6,7] [0,1] [nL e_str n.places,bT h2,cC (QbS h3),oO (h4),cE e_str h5,cC (Qey h6),nF h7] (QiN Γ rv h12 ?_)
   obtain ⟨twice1,rfl⟩:∃ x,x=e0:=⟨_,rfl⟩
   replace h:(br twice1 (chk (okN (l1++[(Qaa.mk 6 (catS Qdb r))]).length 24) (some (.inl ((l1++[(Qaa.mk 6 (catS Qdb r))]),(addK .i64 i 1))))) (some (.inl (l1,(addK .i64 i 1)))):Option ((List Qaa×Int)⊕(List Qaa)))=some _:=h
   rcases Qal h with ⟨h13,h⟩|⟨h13,h⟩
   ·obtain ⟨h14,h⟩:=Qax h
    exact gn 7 [1,3,4] [0,3] [bT h13,oO (Eq.refl ([(Qaa.mk 6 (catS Qdb r))].map Qaa.enc).length),aO Qaa.enc h14] (hI _ (oJ h))
   ·exact gn 7 [1,3,4] [0,1] [bF h13] (hI _ (oJ h))
  ·obtain ⟨h15,h⟩:=Qax h
   exact gn 18 [1,3,4] [0,3] [nL e_str n.places,bT h2,cC (QbS h3),oO (h4),cE e_str h5,cC (Qey h6),nT h7,oO (Eq.refl ([(Qaa.mk 5 (catS Qdb r))].map Qaa.enc).length),aO Qaa.enc h15] (hI _ (oJ h))
 ·exact gn 5 [3] [1] [nL e_str n.places,bF h2] (hE _ (oJ h))
theorem QfD (Γ:Gam) (rv:List Qaa) {n l} (h:Qca n l=some rv):Qcn Γ rv ⟨[.c 15],⟨64,[vP 1 0 2,vO 3 1 2 l Qaa.enc],[oX 2 25 (Qai.enc n),oS 2 146 l Qaa.enc]⟩⟩:=by
 unfold Qca at h
 obtain ⟨e1,h16,h⟩:=Qae h
 refine gn 5 [1,3,4] [0,1] [] (QiM Γ rv h16 ?_)
 obtain ⟨l2,rfl⟩:∃ x,x=e1:=⟨_,rfl⟩
 replace h:(some l2:Option (List Qaa))=some _:=h
 obtain rfl:=Option.some.inj h
 exact gr 2 [0] []
theorem Qgo {n} {rv:List Qaa} (h:QcK n=some rv):AFn Tryz.prog 87 [.agg (Qai.enc n)] [] (one (lO 0 2 rv Qaa.enc)) [oS 2 146 rv Qaa.enc]:=by
 refine QaT Tryz.func87 (by kernel_rfl) (by kernel_rfl) (fun Γ=>?_)
 unfold QcK at h
 rcases Qal h with ⟨h0,h⟩|⟨h0,h⟩
 ·obtain ⟨h1,h⟩:=Qax h
  exact gn 9 [1,3] [0,2] [nL e_str n.places,bT h0,oO (Eq.refl ([(Qaa.mk 4 QjO)].map Qaa.enc).length),aN (l:=([(Qaa.mk 4 QjO)]:List Qaa)) Qaa.enc h1] (QfD Γ rv h)
 ·exact gn 9 [1,3] [0,1] [nL e_str n.places,bF h0,hW 1,hH (.adopt 3 2 146)] (QfD Γ rv h)
def QiK (Γ:Gam) (rv:List Qaa) (cf:Cf):Prop:=Go Tryz.prog Tryz.f58 [] Γ (one (lL 2 rv Qaa.enc)) [] cf
def Qkn (Γ:Gam) (rv:List Qaa) (n:Qai) (l:List Qaa) (l1:List Qaa) (i:Int):Prop:=QiK Γ rv ⟨[.c 244,.l 244,.b 0,.c 31],⟨28,[vP 1 0 2,vO 3 1 2 l1 Qaa.enc,vI 4 i],[oX 2 25 (Qai.enc n),oS 2 146 l1 Qaa.enc]⟩⟩
def Qjd (Γ:Gam) (rv:List Qaa) (n:Qai) (l:List Qaa) (l2:List Qaa):Prop:=QiK Γ rv ⟨[.c 31],⟨28,[vO 3 0 2 l2 Qaa.enc],[oS 2 146 l2 Qaa.enc]⟩⟩
theorem QnY (Γ:Gam) (rv:List Qaa) {n l} {s:List Qaa×Int} {e:List Qaa} (h:loopF (fun s=>QcE n l s.1 s.2) s=some e) (hD:Qjd Γ rv n l e):Qkn Γ rv n l s.1 s.2:=by
 refine QaN (C:=fun (s:List Qaa×Int)=>Qkn Γ rv n l s.1 s.2) (D:=fun (e:List Qaa)=>Qjd Γ rv n l e) ?_ h hD
 clear h hD s e
 rintro ⟨l1,i⟩ z_ h hI hE
 replace h:QcE n l l1 i=_:=h
 unfold QcE at h
 rcases Qal h with ⟨h3,h⟩|⟨h3,h⟩
 ·obtain ⟨r1,h4,h⟩:=Qae h
  obtain ⟨h5,h⟩:=Qax h
  exact gn 11 [1,3,4] [0,2] [nL Qas.enc n.arcs,bT h3,cC (QnZ h4),aO Qaa.enc h5] (hI _ (oJ h))
 ·exact gn 5 [3] [1] [nL Qas.enc n.arcs,bF h3] (hE _ (oJ h))
theorem Qjc (Γ:Gam) (rv:List Qaa) {n l} (h:Qfc n l=some rv):QiK Γ rv ⟨[.c 15],⟨28,[vP 1 0 2,vO 3 1 2 l Qaa.enc],[oX 2 25 (Qai.enc n),oS 2 146 l Qaa.enc]⟩⟩:=by
 unfold Qfc at h
 obtain ⟨e0,h6,h⟩:=Qae h
 refine gn 5 [1,3,4] [0,1] [] (QnY Γ rv h6 ?_)
 obtain ⟨l2,rfl⟩:∃ x,x=e0:=⟨_,rfl⟩
 replace h:(some l2:Option (List Qaa))=some _:=h
 obtain rfl:=Option.some.inj h
 exact gr 2 [] [hW 4,hH (.frz 0),rp 3 (eL l2 Qaa.enc)]
theorem QpP {n} {rv:List Qaa} (h:QgF n=some rv):AFn Tryz.prog 58 [.agg (Qai.enc n)] [] (one (lL 2 rv Qaa.enc)) []:=by
 refine QaT Tryz.func58 (by kernel_rfl) (by kernel_rfl) (fun Γ=>?_)
 unfold QgF at h
 obtain ⟨r,h0,h⟩:=Qae h
 rcases Qal h with ⟨h1,h⟩|⟨h1,h⟩
 ·obtain ⟨h2,h⟩:=Qax h
  exact gn 9 [1,3] [0,3] [cC (Qgo h0),nL Qas.enc n.arcs,bT h1,oO (Eq.refl ([(Qaa.mk 4 QoJ)].map Qaa.enc).length),aO Qaa.enc h2] (Qjc Γ rv h)
 ·exact gn 9 [1,3] [0,1] [cC (Qgo h0),nL Qas.enc n.arcs,bF h1] (Qjc Γ rv h)
theorem Qak {n lo hi} {rv:Bool} (h:QaQ n lo hi=some rv):AFn Tryz.prog 89 [.one (lI n),.one (lI lo),.one (lI hi)] [] (one (.bool rv)) []:=by
 refine QaT Tryz.func89 (by kernel_rfl) (by kernel_rfl) (fun Γ=>?_)
 unfold QaQ at h
 obtain rfl:=Option.some.inj h
 exact gr 4 [] [rp 4 hP,rp 2 (oI ((geI n lo)=true)),oR True ((geI n lo)=true)]
theorem QfI {l} {rv:Int} (h:Qfq l=some rv):AFn Tryz.prog 61 [.one (lL 14 l Qaj.enc)] [] (one (lI rv)) []:=by
 refine QaT Tryz.func61 (by kernel_rfl) (by kernel_rfl) (fun Γ=>?_)
 unfold Qfq at h
 rcases Qal h with ⟨h0,h⟩|⟨h0,h⟩
 ·obtain rfl:=Option.some.inj h
  exact gr 8 [] [nL Qaj.enc l,bT h0]
 ·obtain ⟨x0,h1,h⟩:=Qae h
  obtain rfl:=Option.some.inj h
  exact gr 9 [] [nL Qaj.enc l,bF h0,cE Qaj.enc h1,nL e_i64 x0.cap]
def Qmr (Γ:Gam) (rv:Bool) (cf:Cf):Prop:=Go Tryz.prog Tryz.f122 [] Γ (one (.bool rv)) [] cf
def Qkr (Γ:Gam) (rv:Bool) (l:List Qaj) (at_:Int) (name:ByteArray) (i:Int):Prop:=Qmr Γ rv ⟨[.c 52,.l 52,.b 0,.c 7],⟨20,[vL 0 14 l Qaj.enc,vI 1 at_,vS 2 name,vI 7 i],[]⟩⟩
def Qjh (Γ:Gam) (rv:Bool) (l:List Qaj) (at_:Int) (name:ByteArray):Prop:=Qmr Γ rv ⟨[.c 7],⟨20,[],[]⟩⟩
theorem Qn2 (Γ:Gam) (rv:Bool) {l at_ name} {s:Int} {e:(Unit)⊕(Bool)} (h:loopF (fun s=>Qcb l at_ name s) s=some e) (hD:sel e (fun e=>Qjh Γ rv l at_ name) (fun e=>e=rv)):Qkr Γ rv l at_ name s:=by
 refine QaN (C:=fun (s:Int)=>Qkr Γ rv l at_ name s) (D:=fun (e:(Unit)⊕(Bool))=>sel e (fun e=>Qjh Γ rv l at_ name) (fun e=>e=rv)) ?_ h hD
 clear h hD s e
 intro i z_ h hI hE
 replace h:Qcb l at_ name i=_:=h
 unfold Qcb at h
 rcases Qal h with ⟨h0,h⟩|⟨h0,h⟩
 ·obtain ⟨x0,h1,h⟩:=Qae h
  rcases Qal h with ⟨h2,h⟩|⟨h2,h⟩
  ·obtain rfl:=(hE _ (oJ h):_=rv)
   exact gr 12 [] [bT h0,cE Qaj.enc h1,bT h2]
  ·exact gn 14 [0,1,2,7] [] [bT h0,cE Qaj.enc h1,bF h2] (hI _ (oJ h))
 ·exact gn 5 [] [] [bF h0] (hE _ (oJ h))
theorem QlG {l at_ name} {rv:Bool} (h:QgH l at_ name=some rv):AFn Tryz.prog 122 [.one (lL 14 l Qaj.enc),.one (lI at_),.one (.str name)] [] (one (.bool rv)) []:=by
 refine QaT Tryz.func122 (by kernel_rfl) (by kernel_rfl) (fun Γ=>?_)
 unfold QgH at h
 obtain ⟨e0,h3,h⟩:=Qae h
 refine gn 7 [0,1,2,7] [] [] (Qn2 Γ rv h3 ?_)
 rcases e0 with e0|e0
 ·replace h:(some false:Option Bool)=some _:=h
  obtain rfl:=Option.some.inj h
  exact gr 2 [] []
 ·obtain ⟨r,rfl⟩:∃ x,x=e0:=⟨_,rfl⟩
  replace h:(some r:Option Bool)=some _:=h
  exact Option.some.inj h
def Qkq (Γ:Gam) (rv:Bool) (cf:Cf):Prop:=Go Tryz.prog Tryz.f123 [] Γ (one (.bool rv)) [] cf
def Qib (Γ:Gam) (rv:Bool) (l:List Int) (i:Int):Prop:=Qkq Γ rv ⟨[.c 116,.l 116,.b 0,.c 15],⟨28,[vL 0 1 l e_i64,vI 5 i],[]⟩⟩
def QhR (Γ:Gam) (rv:Bool) (l:List Int):Prop:=Qkq Γ rv ⟨[.c 15],⟨28,[],[]⟩⟩
theorem Qmq (Γ:Gam) (rv:Bool) {l} {s:Int} {e:(Unit)⊕(Bool)} (h:loopF (fun s=>QbN l s) s=some e) (hD:sel e (fun e=>QhR Γ rv l) (fun e=>e=rv)):Qib Γ rv l s:=by
 refine QaN (C:=fun (s:Int)=>Qib Γ rv l s) (D:=fun (e:(Unit)⊕(Bool))=>sel e (fun e=>QhR Γ rv l) (fun e=>e=rv)) ?_ h hD
 clear h hD s e
 intro i z_ h hI hE
 replace h:QbN l i=_:=h
 unfold QbN at h
 rcases Qal h with ⟨h2,h⟩|⟨h2,h⟩
 ·obtain ⟨x0,h3,h⟩:=Qae h
  obtain ⟨r1,h4,h⟩:=Qae h
  rcases Qal h with ⟨h5,h⟩|⟨h5,h⟩
  ·exact gn 14 [0,5] [] [nL e_i64 l,bT h2,cE e_i64 h3,cC (Qak h4),nF h5] (hI _ (oJ h))
  ·obtain rfl:=(hE _ (oJ h):_=rv)
   exact gr 12 [] [nL e_i64 l,bT h2,cE e_i64 h3,cC (Qak h4),nT h5]
 ·exact gn 5 [] [] [nL e_i64 l,bF h2] (hE _ (oJ h))
theorem Qff {l dims} {rv:Bool} (h:QdN l dims=some rv):AFn Tryz.prog 123 [.one (lL 1 l e_i64),.one (lI dims)] [] (one (.bool rv)) []:=by
 refine QaT Tryz.func123 (by kernel_rfl) (by kernel_rfl) (fun Γ=>?_)
 unfold QdN at h
 obtain ⟨r,h0,h⟩:=Qae h
 rcases Qal h with ⟨h1,h⟩|⟨h1,h⟩
 ·obtain rfl:=Option.some.inj h
  exact gr 8 [] [nL e_i64 l,cC (Qak h0),hP,hP,oI ((!r)=false),nL e_i64 l,hP,hP,hP,rp 2 (oI ((!r)=false)),oR True ((!r)=false),bT h1]
 ·obtain ⟨e0,h6,h⟩:=Qae h
  refine gn 12 [0,5] [] [nL e_i64 l,cC (Qak h0),hP,hP,oI ((!r)=false),nL e_i64 l,hP,hP,hP,rp 2 (oI ((!r)=false)),oR True ((!r)=false),bF h1] (Qmq Γ rv h6 ?_)
  rcases e0 with e0|e0
  ·replace h:(some true:Option Bool)=some _:=h
   obtain rfl:=Option.some.inj h
   exact gr 2 [] []
  ·obtain ⟨r2,rfl⟩:∃ x,x=e0:=⟨_,rfl⟩
   replace h:(some r2:Option Bool)=some _:=h
   exact Option.some.inj h
def QbJ (Γ:Gam) (rv:List Int) (cf:Cf):Prop:=Go Tryz.prog Tryz.f90 [] Γ (one (lL 1 rv e_i64)) [] cf
theorem Qjp (Γ:Gam) (rv:List Int) {x0 l8} (h:QdV x0 l8=some rv):QbJ Γ rv ⟨[.c 4095],⟨125,[vP 7 0 14,vO 8 1 1 l8 e_i64],[oX 14 124 (Qaj.enc x0),oS 1 38 l8 e_i64]⟩⟩:=by
 unfold QdV at h
 obtain ⟨r11,h30,h⟩:=Qae h
 rcases Qal h with ⟨h31,h⟩|⟨h31,h⟩
 ·obtain ⟨r12,h32,h⟩:=Qae h
  rcases Qal h with ⟨h33,h⟩|⟨h33,h⟩
  ·obtain ⟨r13,h34,h⟩:=Qae h
   rcases Qal h with ⟨h35,h⟩|⟨h35,h⟩
   ·obtain ⟨r14,h36,h⟩:=Qae h
    rcases Qal h with ⟨h37,h⟩|⟨h37,h⟩
    ·obtain rfl:=Option.some.inj h
     exact gr 7 [] [cC (Qak h30),rp 3 (nF h31),cC (Qak h32),rp 2 (nF h31),rp 3 (nF h33),cC (Qak h34),rp 2 (nF h33),rp 3 (nF h35),cC (Qak h36),rp 2 (nF h35),nF h37,hW 5,hH (.frz 1),rp 3 (eL l8 e_i64)]
    ·obtain ⟨h38,h⟩:=Qax h
     obtain rfl:=Option.some.inj h
     exact gr 7 [] [cC (Qak h30),rp 3 (nF h31),cC (Qak h32),rp 2 (nF h31),rp 3 (nF h33),cC (Qak h34),rp 2 (nF h33),rp 3 (nF h35),cC (Qak h36),rp 2 (nF h35),nT h37,oO (Eq.refl ([2].map e_i64).length),aO e_i64 h38,hW 5,hH (.frz 3),rp 4 (oO (Eq.refl ((l8++[2]).map e_i64).length))]
   ·obtain ⟨h39,h⟩:=Qax h
    obtain rfl:=Option.some.inj h
    exact gr 7 [] [cC (Qak h30),rp 3 (nF h31),cC (Qak h32),rp 2 (nF h31),rp 3 (nF h33),cC (Qak h34),rp 2 (nF h33),rp 5 (nT h35),tT,oO (Eq.refl ([2].map e_i64).length),aO e_i64 h39,hW 5,hH (.frz 3),rp 4 (oO (Eq.refl ((l8++[2]).map e_i64).length))]
  ·obtain ⟨h40,h⟩:=Qax h
   obtain rfl:=Option.some.inj h
   exact gr 7 [] [cC (Qak h30),rp 3 (nF h31),cC (Qak h32),rp 2 (nF h31),rp 5 (nT h33),rp 6 tT,oO (Eq.refl ([2].map e_i64).length),aO e_i64 h40,hW 5,hH (.frz 3),rp 4 (oO (Eq.refl ((l8++[2]).map e_i64).length))]
 ·obtain ⟨h41,h⟩:=Qax h
  obtain rfl:=Option.some.inj h
  exact gr 7 [] [cC (Qak h30),rp 5 (nT h31),rp 11 tT,oO (Eq.refl ([2].map e_i64).length),aO e_i64 h41,hW 5,hH (.frz 3),rp 4 (oO (Eq.refl ((l8++[2]).map e_i64).length))]
theorem Qjo (Γ:Gam) (rv:List Int) {x0 l7} (h:QdU x0 l7=some rv):QbJ Γ rv ⟨[.c 2047],⟨125,[vP 7 0 14,vO 8 1 1 l7 e_i64],[oX 14 124 (Qaj.enc x0),oS 1 38 l7 e_i64]⟩⟩:=by
 unfold QdU at h
 obtain ⟨r9,h25,h⟩:=Qae h
 rcases Qal h with ⟨h26,h⟩|⟨h26,h⟩
 ·obtain ⟨r10,h27,h⟩:=Qae h
  rcases Qal h with ⟨h28,h⟩|⟨h28,h⟩
  ·exact gn 5 [7,8] [0,1] [cC (Qak h25),rp 3 (nF h26),cC (Qak h27),rp 2 (nF h26),nF h28] (Qjp Γ rv h)
  ·obtain ⟨h29,h⟩:=Qax h
   exact gn 5 [7,8] [0,3] [cC (Qak h25),rp 3 (nF h26),cC (Qak h27),rp 2 (nF h26),nT h28,oO (Eq.refl ([16].map e_i64).length),aO e_i64 h29] (Qjp Γ rv h)
 ·obtain ⟨h42,h⟩:=Qax h
  obtain ⟨r15,h43,h⟩:=Qae h
  rcases Qal h with ⟨h44,h⟩|⟨h44,h⟩
  ·obtain ⟨r16,h45,h⟩:=Qae h
   rcases Qal h with ⟨h46,h⟩|⟨h46,h⟩
   ·obtain ⟨r17,h47,h⟩:=Qae h
    rcases Qal h with ⟨h48,h⟩|⟨h48,h⟩
    ·obtain ⟨r18,h49,h⟩:=Qae h
     rcases Qal h with ⟨h50,h⟩|⟨h50,h⟩
     ·obtain rfl:=Option.some.inj h
      exact gr 12 [] [cC (Qak h25),rp 5 (nT h26),tT,oO (Eq.refl ([16].map e_i64).length),aO e_i64 h42,cC (Qak h43),rp 3 (nF h44),cC (Qak h45),rp 2 (nF h44),rp 3 (nF h46),cC (Qak h47),rp 2 (nF h46),rp 3 (nF h48),cC (Qak h49),rp 2 (nF h48),nF h50,hW 5,hH (.frz 3),rp 4 (oO (Eq.refl ((l7++[16]).map e_i64).length))]
     ·obtain ⟨h51,h⟩:=Qax h
      obtain rfl:=Option.some.inj h
      exact gr 12 [] [cC (Qak h25),rp 5 (nT h26),tT,oO (Eq.refl ([16].map e_i64).length),aO e_i64 h42,cC (Qak h43),rp 3 (nF h44),cC (Qak h45),rp 2 (nF h44),rp 3 (nF h46),cC (Qak h47),rp 2 (nF h46),rp 3 (nF h48),cC (Qak h49),rp 2 (nF h48),nT h50,oO (Eq.refl ([2].map e_i64).length),aO e_i64 h51,hW 5,hH (.frz 5),rp 4 (oO (Eq.refl (((l7++[16])++[2]).map e_i64).length))]
    ·obtain ⟨h52,h⟩:=Qax h
     obtain rfl:=Option.some.inj h
     exact gr 12 [] [cC (Qak h25),rp 5 (nT h26),tT,oO (Eq.refl ([16].map e_i64).length),aO e_i64 h42,cC (Qak h43),rp 3 (nF h44),cC (Qak h45),rp 2 (nF h44),rp 3 (nF h46),cC (Qak h47),rp 2 (nF h46),rp 5 (nT h48),tT,oO (Eq.refl ([2].map e_i64).length),aO e_i64 h52,hW 5,hH (.frz 5),rp 4 (oO (Eq.refl (((l7++[16])++[2]).map e_i64).length))]
   ·obtain ⟨h53,h⟩:=Qax h
    obtain rfl:=Option.some.inj h
    exact gr 12 [] [cC (Qak h25),rp 5 (nT h26),tT,oO (Eq.refl ([16].map e_i64).length),aO e_i64 h42,cC (Qak h43),rp 3 (nF h44),cC (Qak h45),rp 2 (nF h44),rp 5 (nT h46),rp 6 tT,oO (Eq.refl ([2].map e_i64).length),aO e_i64 h53,hW 5,hH (.frz 5),rp 4 (oO (Eq.refl (((l7++[16])++[2]).map e_i64).length))]
  ·obtain ⟨h54,h⟩:=Qax h
   obtain rfl:=Option.some.inj h
   exact gr 12 [] [cC (Qak h25),rp 5 (nT h26),tT,oO (Eq.refl ([16].map e_i64).length),aO e_i64 h42,cC (Qak h43),rp 5 (nT h44),rp 11 tT,oO (Eq.refl ([2].map e_i64).length),aO e_i64 h54,hW 5,hH (.frz 5),rp 4 (oO (Eq.refl (((l7++[16])++[2]).map e_i64).length))]
theorem Qjn (Γ:Gam) (rv:List Int) {x0 l6} (h:QdT x0 l6=some rv):QbJ Γ rv ⟨[.c 1023],⟨125,[vP 7 0 14,vO 8 1 1 l6 e_i64],[oX 14 124 (Qaj.enc x0),oS 1 38 l6 e_i64]⟩⟩:=by
 unfold QdT at h
 obtain ⟨r8,h22,h⟩:=Qae h
 rcases Qal h with ⟨h23,h⟩|⟨h23,h⟩
 ·obtain ⟨h24,h⟩:=Qax h
  exact gn 5 [7,8] [0,3] [cC (Qak h22),rp 4 hP,rp 2 (oI ((!r8)=false)),oR True ((!r8)=false),bT h23,oO (Eq.refl ([15].map e_i64).length),aO e_i64 h24] (Qjo Γ rv h)
 ·exact gn 5 [7,8] [0,1] [cC (Qak h22),rp 4 hP,rp 2 (oI ((!r8)=false)),oR True ((!r8)=false),bF h23] (Qjo Γ rv h)
theorem Qjm (Γ:Gam) (rv:List Int) {x0 l5} (h:QdS x0 l5=some rv):QbJ Γ rv ⟨[.c 511],⟨125,[vP 7 0 14,vO 8 1 1 l5 e_i64],[oX 14 124 (Qaj.enc x0),oS 1 38 l5 e_i64]⟩⟩:=by
 unfold QdS at h
 obtain ⟨r7,h19,h⟩:=Qae h
 rcases Qal h with ⟨h20,h⟩|⟨h20,h⟩
 ·exact gn 5 [7,8] [0,1] [cC (Qak h19),nF h20] (Qjn Γ rv h)
 ·obtain ⟨h21,h⟩:=Qax h
  exact gn 5 [7,8] [0,3] [cC (Qak h19),nT h20,oO (Eq.refl ([18].map e_i64).length),aO e_i64 h21] (Qjn Γ rv h)
theorem Qjl (Γ:Gam) (rv:List Int) {l x0 l4} (h:QdR l x0 l4=some rv):QbJ Γ rv ⟨[.c 255],⟨125,[vL 1 14 l Qaj.enc,vP 7 0 14,vO 8 1 1 l4 e_i64],[oX 14 124 (Qaj.enc x0),oS 1 38 l4 e_i64]⟩⟩:=by
 unfold QdR at h
 obtain ⟨r5,h15,h⟩:=Qae h
 obtain ⟨r6,h16,h⟩:=Qae h
 rcases Qal h with ⟨h17,h⟩|⟨h17,h⟩
 ·exact gn 5 [7,8] [0,1] [hH (.draw 6 []),cC (QfI h15),cC (Qff h16),nF h17] (Qjm Γ rv h)
 ·obtain ⟨h18,h⟩:=Qax h
  exact gn 5 [7,8] [0,3] [hH (.draw 6 []),cC (QfI h15),cC (Qff h16),nT h17,oO (Eq.refl ([17].map e_i64).length),aO e_i64 h18] (Qjm Γ rv h)
theorem Qiy (Γ:Gam) (rv:List Int) {x0 l12} (h:QfX x0 l12=some rv):QbJ Γ rv ⟨[.c 4095],⟨125,[vP 7 0 14,vO 8 1 1 l12 e_i64],[oX 14 124 (Qaj.enc x0),oS 1 38 l12 e_i64]⟩⟩:=by
 unfold QfX at h
 obtain ⟨r25,h71,h⟩:=Qae h
 rcases Qal h with ⟨h72,h⟩|⟨h72,h⟩
 ·obtain ⟨r26,h73,h⟩:=Qae h
  rcases Qal h with ⟨h74,h⟩|⟨h74,h⟩
  ·obtain ⟨r27,h75,h⟩:=Qae h
   rcases Qal h with ⟨h76,h⟩|⟨h76,h⟩
   ·obtain ⟨r28,h77,h⟩:=Qae h
    rcases Qal h with ⟨h78,h⟩|⟨h78,h⟩
    ·obtain rfl:=Option.some.inj h
     exact gr 7 [] [cC (Qak h71),rp 3 (nF h72),cC (Qak h73),rp 2 (nF h72),rp 3 (nF h74),cC (Qak h75),rp 2 (nF h74),rp 3 (nF h76),cC (Qak h77),rp 2 (nF h76),nF h78,hW 5,hH (.frz 1),rp 3 (eL l12 e_i64)]
    ·obtain ⟨h79,h⟩:=Qax h
     obtain rfl:=Option.some.inj h
     exact gr 7 [] [cC (Qak h71),rp 3 (nF h72),cC (Qak h73),rp 2 (nF h72),rp 3 (nF h74),cC (Qak h75),rp 2 (nF h74),rp 3 (nF h76),cC (Qak h77),rp 2 (nF h76),nT h78,oO (Eq.refl ([2].map e_i64).length),aO e_i64 h79,hW 5,hH (.frz 3),rp 4 (oO (Eq.refl ((l12++[2]).map e_i64).length))]
   ·obtain ⟨h80,h⟩:=Qax h
    obtain rfl:=Option.some.inj h
    exact gr 7 [] [cC (Qak h71),rp 3 (nF h72),cC (Qak h73),rp 2 (nF h72),rp 3 (nF h74),cC (Qak h75),rp 2 (nF h74),rp 5 (nT h76),tT,oO (Eq.refl ([2].map e_i64).length),aO e_i64 h80,hW 5,hH (.frz 3),rp 4 (oO (Eq.refl ((l12++[2]).map e_i64).length))]
  ·obtain ⟨h81,h⟩:=Qax h
   obtain rfl:=Option.some.inj h
   exact gr 7 [] [cC (Qak h71),rp 3 (nF h72),cC (Qak h73),rp 2 (nF h72),rp 5 (nT h74),rp 6 tT,oO (Eq.refl ([2].map e_i64).length),aO e_i64 h81,hW 5,hH (.frz 3),rp 4 (oO (Eq.refl ((l12++[2]).map e_i64).length))]
 ·obtain ⟨h82,h⟩:=Qax h
  obtain rfl:=Option.some.inj h
  exact gr 7 [] [cC (Qak h71),rp 5 (nT h72),rp 11 tT,oO (Eq.refl ([2].map e_i64).length),aO e_i64 h82,hW 5,hH (.frz 3),rp 4 (oO (Eq.refl ((l12++[2]).map e_i64).length))]
theorem Qix (Γ:Gam) (rv:List Int) {x0 l11} (h:QfW x0 l11=some rv):QbJ Γ rv ⟨[.c 2047],⟨125,[vP 7 0 14,vO 8 1 1 l11 e_i64],[oX 14 124 (Qaj.enc x0),oS 1 38 l11 e_i64]⟩⟩:=by
 unfold QfW at h
 obtain ⟨r23,h66,h⟩:=Qae h
 rcases Qal h with ⟨h67,h⟩|⟨h67,h⟩
 ·obtain ⟨r24,h68,h⟩:=Qae h
  rcases Qal h with ⟨h69,h⟩|⟨h69,h⟩
  ·exact gn 5 [7,8] [0,1] [cC (Qak h66),rp 3 (nF h67),cC (Qak h68),rp 2 (nF h67),nF h69] (Qiy Γ rv h)
  ·obtain ⟨h70,h⟩:=Qax h
   exact gn 5 [7,8] [0,3] [cC (Qak h66),rp 3 (nF h67),cC (Qak h68),rp 2 (nF h67),nT h69,oO (Eq.refl ([16].map e_i64).length),aO e_i64 h70] (Qiy Γ rv h)
 ·obtain ⟨h83,h⟩:=Qax h
  obtain ⟨r29,h84,h⟩:=Qae h
  rcases Qal h with ⟨h85,h⟩|⟨h85,h⟩
  ·obtain ⟨r30,h86,h⟩:=Qae h
   rcases Qal h with ⟨h87,h⟩|⟨h87,h⟩
   ·obtain ⟨r31,h88,h⟩:=Qae h
    rcases Qal h with ⟨h89,h⟩|⟨h89,h⟩
    ·obtain ⟨r32,h90,h⟩:=Qae h
     rcases Qal h with ⟨h91,h⟩|⟨h91,h⟩
     ·obtain rfl:=Option.some.inj h
      exact gr 12 [] [cC (Qak h66),rp 5 (nT h67),tT,oO (Eq.refl ([16].map e_i64).length),aO e_i64 h83,cC (Qak h84),rp 3 (nF h85),cC (Qak h86),rp 2 (nF h85),rp 3 (nF h87),cC (Qak h88),rp 2 (nF h87),rp 3 (nF h89),cC (Qak h90),rp 2 (nF h89),nF h91,hW 5,hH (.frz 3),rp 4 (oO (Eq.refl ((l11++[16]).map e_i64).length))]
     ·obtain ⟨h92,h⟩:=Qax h
      obtain rfl:=Option.some.inj h
      exact gr 12 [] [cC (Qak h66),rp 5 (nT h67),tT,oO (Eq.refl ([16].map e_i64).length),aO e_i64 h83,cC (Qak h84),rp 3 (nF h85),cC (Qak h86),rp 2 (nF h85),rp 3 (nF h87),cC (Qak h88),rp 2 (nF h87),rp 3 (nF h89),cC (Qak h90),rp 2 (nF h89),nT h91,oO (Eq.refl ([2].map e_i64).length),aO e_i64 h92,hW 5,hH (.frz 5),rp 4 (oO (Eq.refl (((l11++[16])++[2]).map e_i64).length))]
    ·obtain ⟨h93,h⟩:=Qax h
     obtain rfl:=Option.some.inj h
     exact gr 12 [] [cC (Qak h66),rp 5 (nT h67),tT,oO (Eq.refl ([16].map e_i64).length),aO e_i64 h83,cC (Qak h84),rp 3 (nF h85),cC (Qak h86),rp 2 (nF h85),rp 3 (nF h87),cC (Qak h88),rp 2 (nF h87),rp 5 (nT h89),tT,oO (Eq.refl ([2].map e_i64).length),aO e_i64 h93,hW 5,hH (.frz 5),rp 4 (oO (Eq.refl (((l11++[16])++[2]).map e_i64).length))]
   ·obtain ⟨h94,h⟩:=Qax h
    obtain rfl:=Option.some.inj h
    exact gr 12 [] [cC (Qak h66),rp 5 (nT h67),tT,oO (Eq.refl ([16].map e_i64).length),aO e_i64 h83,cC (Qak h84),rp 3 (nF h85),cC (Qak h86),rp 2 (nF h85),rp 5 (nT h87),rp 6 tT,oO (Eq.refl ([2].map e_i64).length),aO e_i64 h94,hW 5,hH (.frz 5),rp 4 (oO (Eq.refl (((l11++[16])++[2]).map e_i64).length))]
  ·obtain ⟨h95,h⟩:=Qax h
   obtain rfl:=Option.some.inj h
   exact gr 12 [] [cC (Qak h66),rp 5 (nT h67),tT,oO (Eq.refl ([16].map e_i64).length),aO e_i64 h83,cC (Qak h84),rp 5 (nT h85),rp 11 tT,oO (Eq.refl ([2].map e_i64).length),aO e_i64 h95,hW 5,hH (.frz 5),rp 4 (oO (Eq.refl (((l11++[16])++[2]).map e_i64).length))]
theorem Qiw (Γ:Gam) (rv:List Int) {x0 l10} (h:QfV x0 l10=some rv):QbJ Γ rv ⟨[.c 1023],⟨125,[vP 7 0 14,vO 8 1 1 l10 e_i64],[oX 14 124 (Qaj.enc x0),oS 1 38 l10 e_i64]⟩⟩:=by
 unfold QfV at h
 obtain ⟨r22,h63,h⟩:=Qae h
 rcases Qal h with ⟨h64,h⟩|⟨h64,h⟩
 ·obtain ⟨h65,h⟩:=Qax h
  exact gn 5 [7,8] [0,3] [cC (Qak h63),rp 4 hP,rp 2 (oI ((!r22)=false)),oR True ((!r22)=false),bT h64,oO (Eq.refl ([15].map e_i64).length),aO e_i64 h65] (Qix Γ rv h)
 ·exact gn 5 [7,8] [0,1] [cC (Qak h63),rp 4 hP,rp 2 (oI ((!r22)=false)),oR True ((!r22)=false),bF h64] (Qix Γ rv h)
theorem Qjq (Γ:Gam) (rv:List Int) {x0 l9} (h:Qgq x0 l9=some rv):QbJ Γ rv ⟨[.c 511],⟨125,[vP 7 0 14,vO 8 1 1 l9 e_i64],[oX 14 124 (Qaj.enc x0),oS 1 38 l9 e_i64]⟩⟩:=by
 unfold Qgq at h
 obtain ⟨r21,h60,h⟩:=Qae h
 rcases Qal h with ⟨h61,h⟩|⟨h61,h⟩
 ·exact gn 5 [7,8] [0,1] [cC (Qak h60),nF h61] (Qiw Γ rv h)
 ·obtain ⟨h62,h⟩:=Qax h
  exact gn 5 [7,8] [0,3] [cC (Qak h60),nT h61,oO (Eq.refl ([18].map e_i64).length),aO e_i64 h62] (Qiw Γ rv h)
theorem Qjk (Γ:Gam) (rv:List Int) {n l x0 l3} (h:QdQ n l x0 l3=some rv):QbJ Γ rv ⟨[.c 127],⟨125,[vL 1 14 l Qaj.enc,vP 3 0 2,vP 7 1 14,vO 8 2 1 l3 e_i64],[oX 2 25 (Qai.enc n),oX 14 124 (Qaj.enc x0),oS 1 38 l3 e_i64]⟩⟩:=by
 unfold QdQ at h
 obtain ⟨r3,h10,h⟩:=Qae h
 rcases Qal h with ⟨h11,h⟩|⟨h11,h⟩
 ·obtain ⟨r4,h12,h⟩:=Qae h
  rcases Qal h with ⟨h13,h⟩|⟨h13,h⟩
  ·exact gn 5 [1,7,8] [1,2] [nL e_str n.places,cC (Qak h10),rp 5 (nF h11),nL e_str n.places,rp 2 (nF h11),cC (Qak h12),rp 2 (nF h11),nF h13] (Qjl Γ rv h)
  ·obtain ⟨h14,h⟩:=Qax h
   exact gn 5 [1,7,8] [1,4] [nL e_str n.places,cC (Qak h10),rp 5 (nF h11),nL e_str n.places,rp 2 (nF h11),cC (Qak h12),rp 2 (nF h11),nT h13,oO (Eq.refl ([11].map e_i64).length),aO e_i64 h14] (Qjl Γ rv h)
 ·obtain ⟨h55,h⟩:=Qax h
  obtain ⟨r19,h56,h⟩:=Qae h
  obtain ⟨r20,h57,h⟩:=Qae h
  rcases Qal h with ⟨h58,h⟩|⟨h58,h⟩
  ·exact gn 10 [7,8] [1,4] [nL e_str n.places,cC (Qak h10),rp 9 (nT h11),tT,oO (Eq.refl ([11].map e_i64).length),aO e_i64 h55,hH (.draw 6 []),cC (QfI h56),cC (Qff h57),nF h58] (Qjq Γ rv h)
  ·obtain ⟨h59,h⟩:=Qax h
   exact gn 10 [7,8] [1,6] [nL e_str n.places,cC (Qak h10),rp 9 (nT h11),tT,oO (Eq.refl ([11].map e_i64).length),aO e_i64 h55,hH (.draw 6 []),cC (QfI h56),cC (Qff h57),nT h58,oO (Eq.refl ([17].map e_i64).length),aO e_i64 h59] (Qjq Γ rv h)
theorem Qjj (Γ:Gam) (rv:List Int) {n l x0 l2} (h:QdP n l x0 l2=some rv):QbJ Γ rv ⟨[.c 63],⟨125,[vL 1 14 l Qaj.enc,vP 3 0 2,vP 7 1 14,vO 8 2 1 l2 e_i64],[oX 2 25 (Qai.enc n),oX 14 124 (Qaj.enc x0),oS 1 38 l2 e_i64]⟩⟩:=by
 unfold QdP at h
 obtain ⟨r2,h7,h⟩:=Qae h
 rcases Qal h with ⟨h8,h⟩|⟨h8,h⟩
 ·exact gn 5 [1,3,7,8] [0,1,2] [cC (Qak h7),nF h8] (Qjk Γ rv h)
 ·obtain ⟨h9,h⟩:=Qax h
  exact gn 5 [1,3,7,8] [0,1,4] [cC (Qak h7),nT h8,oO (Eq.refl ([22].map e_i64).length),aO e_i64 h9] (Qjk Γ rv h)
theorem Qji (Γ:Gam) (rv:List Int) {n l at_ x0 l1} (h:QdO n l at_ x0 l1=some rv):QbJ Γ rv ⟨[.c 31],⟨125,[vL 1 14 l Qaj.enc,vI 2 at_,vP 3 0 2,vP 7 1 14,vO 8 2 1 l1 e_i64],[oX 2 25 (Qai.enc n),oX 14 124 (Qaj.enc x0),oS 1 38 l1 e_i64]⟩⟩:=by
 unfold QdO at h
 obtain ⟨r1,h4,h⟩:=Qae h
 rcases Qal h with ⟨h5,h⟩|⟨h5,h⟩
 ·obtain ⟨h6,h⟩:=Qax h
  exact gn 5 [1,3,7,8] [0,1,4] [cC (QlG h4),bT h5,oO (Eq.refl ([6].map e_i64).length),aO e_i64 h6] (Qjj Γ rv h)
 ·exact gn 5 [1,3,7,8] [0,1,2] [cC (QlG h4),bF h5] (Qjj Γ rv h)
theorem QpR {n l at_} {rv:List Int} (h:QgI n l at_=some rv):AFn Tryz.prog 90 [.agg (Qai.enc n),.one (lL 14 l Qaj.enc),.one (lI at_)] [] (one (lL 1 rv e_i64)) []:=by
 refine QaT Tryz.func90 (by kernel_rfl) (by kernel_rfl) (fun Γ=>?_)
 unfold QgI at h
 obtain ⟨x0,h0,h⟩:=Qae h
 obtain ⟨r,h1,h⟩:=Qae h
 rcases Qal h with ⟨h2,h⟩|⟨h2,h⟩
 ·exact gn 11 [1,2,3,7,8] [0,1,2] [cE Qaj.enc h0,cC (Qey h1),nF h2,hW 1,hH (.adopt 8 1 38)] (Qji Γ rv h)
 ·obtain ⟨h3,h⟩:=Qax h
  exact gn 11 [1,2,3,7,8] [0,1,3] [cE Qaj.enc h0,cC (Qey h1),nT h2,oO (Eq.refl ([5].map e_i64).length),aN (l:=([5]:List Int)) e_i64 h3] (Qji Γ rv h)
def QfH (Γ:Gam) (rv:List Qaa) (cf:Cf):Prop:=Go Tryz.prog Tryz.f59 [] Γ (one (lL 2 rv Qaa.enc)) [] cf
def Qkp (Γ:Gam) (rv:List Qaa) (n:Qai) (l:List Qaj) (i:Int) (r1:List Int) (l3:List Qaa) (k:Int):Prop:=QfH Γ rv ⟨[.c 31308,.l 31308,.b 2,.b 1,.c 979,.l 244,.b 0,.c 31],⟨44,[vL 1 14 l Qaj.enc,vP 2 0 2,vO 5 1 2 l3 Qaa.enc,vI 6 i,vL 7 1 r1 e_i64,vI 8 k],[oX 2 25 (Qai.enc n),oS 2 146 l3 Qaa.enc]⟩⟩
def Qjg (Γ:Gam) (rv:List Qaa) (n:Qai) (l:List Qaj) (i:Int) (r1:List Int) (l4:List Qaa):Prop:=QfH Γ rv ⟨[.b 1,.c 979,.l 244,.b 0,.c 31],⟨44,[vL 1 14 l Qaj.enc,vP 2 0 2,vO 5 1 2 l4 Qaa.enc,vI 6 i],[oX 2 25 (Qai.enc n),oS 2 146 l4 Qaa.enc]⟩⟩
def Qko (Γ:Gam) (rv:List Qaa) (n:Qai) (l:List Qaj) (l2:List Qaa) (i:Int):Prop:=QfH Γ rv ⟨[.c 244,.l 244,.b 0,.c 31],⟨44,[vL 1 14 l Qaj.enc,vP 2 0 2,vO 5 1 2 l2 Qaa.enc,vI 6 i],[oX 2 25 (Qai.enc n),oS 2 146 l2 Qaa.enc]⟩⟩
def Qjf (Γ:Gam) (rv:List Qaa) (n:Qai) (l:List Qaj) (l5:List Qaa):Prop:=QfH Γ rv ⟨[.c 31],⟨44,[vO 5 0 2 l5 Qaa.enc],[oS 2 146 l5 Qaa.enc]⟩⟩
theorem Qn1 (Γ:Gam) (rv:List Qaa) {n l i r1} {s:List Qaa×Int} {e:List Qaa} (h:loopF (fun s=>Qgp n l i r1 s.1 s.2) s=some e) (hD:Qjg Γ rv n l i r1 e):Qkp Γ rv n l i r1 s.1 s.2:=by
 refine QaN (C:=fun (s:List Qaa×Int)=>Qkp Γ rv n l i r1 s.1 s.2) (D:=fun (e:List Qaa)=>Qjg Γ rv n l i r1 e) ?_ h hD
 clear h hD s e
 rintro ⟨l3,k⟩ z_ h hI hE
 replace h:Qgp n l i r1 l3 k=_:=h
 unfold Qgp at h
 rcases Qal h with ⟨h5,h⟩|⟨h5,h⟩
 ·obtain ⟨x0,h6,h⟩:=Qae h
  obtain ⟨r2,h7,h⟩:=Qae h
  obtain ⟨h8,h⟩:=Qax h
  exact gn 11 [1,2,5,6,7,8] [0,3] [nL e_i64 r1,bT h5,hH (.draw 9 []),cE e_i64 h6,cC (QbS h7),oO (Eq.refl ([(Qaa.mk x0 r2)].map Qaa.enc).length),aO Qaa.enc h8] (hI _ (oJ h))
 ·exact gn 5 [1,2,5,6] [0,1] [nL e_i64 r1,bF h5] (hE _ (oJ h))
theorem Qn0 (Γ:Gam) (rv:List Qaa) {n l} {s:List Qaa×Int} {e:List Qaa} (h:loopF (fun s=>QcF n l s.1 s.2) s=some e) (hD:Qjf Γ rv n l e):Qko Γ rv n l s.1 s.2:=by
 refine QaN (C:=fun (s:List Qaa×Int)=>Qko Γ rv n l s.1 s.2) (D:=fun (e:List Qaa)=>Qjf Γ rv n l e) ?_ h hD
 clear h hD s e
 rintro ⟨l2,i⟩ z_ h hI hE
 replace h:QcF n l l2 i=_:=h
 unfold QcF at h
 rcases Qal h with ⟨h3,h⟩|⟨h3,h⟩
 ·obtain ⟨r1,h4,h⟩:=Qae h
  obtain ⟨e0,h9,h⟩:=Qae h
  refine gn 13 [1,2,5,6,7,8] [0,1] [nL Qaj.enc l,bT h3,cC (QpR h4)] (Qn1 Γ rv h9 ?_)
  obtain ⟨l4,rfl⟩:∃ x,x=e0:=⟨_,rfl⟩
  replace h:(some (.inl (l4,(addK .i64 i 1))):Option ((List Qaa×Int)⊕(List Qaa)))=some _:=h
  exact gn 3 [1,2,5,6] [0,1] [] (hI _ (oJ h))
 ·exact gn 5 [5] [1] [nL Qaj.enc l,bF h3] (hE _ (oJ h))
theorem Qje (Γ:Gam) (rv:List Qaa) {n l l1} (h:Qfe n l l1=some rv):QfH Γ rv ⟨[.c 15],⟨44,[vL 1 14 l Qaj.enc,vP 2 0 2,vO 5 1 2 l1 Qaa.enc],[oX 2 25 (Qai.enc n),oS 2 146 l1 Qaa.enc]⟩⟩:=by
 unfold Qfe at h
 obtain ⟨e1,h10,h⟩:=Qae h
 refine gn 5 [1,2,5,6] [0,1] [] (Qn0 Γ rv h10 ?_)
 obtain ⟨l5,rfl⟩:∃ x,x=e1:=⟨_,rfl⟩
 replace h:(some l5:Option (List Qaa))=some _:=h
 obtain rfl:=Option.some.inj h
 exact gr 2 [] [hW 4,hH (.frz 0),rp 3 (eL l5 Qaa.enc)]
theorem QpQ {n l} {rv:List Qaa} (h:QgG n l=some rv):AFn Tryz.prog 59 [.agg (Qai.enc n),.one (lL 14 l Qaj.enc)] [] (one (lL 2 rv Qaa.enc)) []:=by
 refine QaT Tryz.func59 (by kernel_rfl) (by kernel_rfl) (fun Γ=>?_)
 unfold QgG at h
 obtain ⟨r,h0,h⟩:=Qae h
 rcases Qal h with ⟨h1,h⟩|⟨h1,h⟩
 ·exact gn 9 [1,2,5] [0,1] [nL Qaj.enc l,cC (Qak h0),nF h1,hW 1,hH (.adopt 5 2 146)] (Qje Γ rv h)
 ·obtain ⟨h2,h⟩:=Qax h
  exact gn 9 [1,2,5] [0,2] [nL Qaj.enc l,cC (Qak h0),nT h1,oO (Eq.refl ([(Qaa.mk 4 ByteArray.empty)].map Qaa.enc).length),aN (l:=([(Qaa.mk 4 ByteArray.empty)]:List Qaa)) Qaa.enc h2] (Qje Γ rv h)
theorem QaE {n low high} {rv:Bool} (h:Qb0 n low high=some rv):AFn Tryz.prog 69 [.one (lI n),.one (lI low),.one (lI high)] [] (one (.bool rv)) []:=by
 refine QaT Tryz.func69 (by kernel_rfl) (by kernel_rfl) (fun Γ=>?_)
 unfold Qb0 at h
 obtain rfl:=Option.some.inj h
 exact gr 4 [] [rp 4 hP,rp 2 (oI ((geI n low)=true)),oR True ((geI n low)=true)]
def Qmm (Γ:Gam) (rv:Bool) (cf:Cf):Prop:=Go Tryz.prog Tryz.f124 [] Γ (one (.bool rv)) [] cf
def Qkm (Γ:Gam) (rv:Bool) (a:List Int) (i:Int):Prop:=Qmm Γ rv ⟨[.c 116,.l 116,.b 0,.c 15],⟨28,[vL 0 1 a e_i64,vI 5 i],[]⟩⟩
def Qi9 (Γ:Gam) (rv:Bool) (a:List Int):Prop:=Qmm Γ rv ⟨[.c 15],⟨28,[],[]⟩⟩
theorem QnW (Γ:Gam) (rv:Bool) {a} {s:Int} {e:(Unit)⊕(Bool)} (h:loopF (fun s=>Qb9 a s) s=some e) (hD:sel e (fun e=>Qi9 Γ rv a) (fun e=>e=rv)):Qkm Γ rv a s:=by
 refine QaN (C:=fun (s:Int)=>Qkm Γ rv a s) (D:=fun (e:(Unit)⊕(Bool))=>sel e (fun e=>Qi9 Γ rv a) (fun e=>e=rv)) ?_ h hD
 clear h hD s e
 intro i z_ h hI hE
 replace h:Qb9 a i=_:=h
 unfold Qb9 at h
 rcases Qal h with ⟨h1,h⟩|⟨h1,h⟩
 ·obtain ⟨x0,h2,h⟩:=Qae h
  rcases Qal h with ⟨h3,h⟩|⟨h3,h⟩
  ·obtain rfl:=(hE _ (oJ h):_=rv)
   exact gr 12 [] [nL e_i64 a,bT h1,cE e_i64 h2,rp 6 (bT h3),tT]
  ·rcases Qal h with ⟨h4,h⟩|⟨h4,h⟩
   ·obtain rfl:=(hE _ (oJ h):_=rv)
    exact gr 12 [] [nL e_i64 a,bT h1,cE e_i64 h2,rp 3 (bF h3),cE e_i64 h2,rp 3 (bF h3),bT h4]
   ·exact gn 14 [0,5] [] [nL e_i64 a,bT h1,cE e_i64 h2,rp 3 (bF h3),cE e_i64 h2,rp 3 (bF h3),bF h4] (hI _ (oJ h))
 ·exact gn 5 [] [] [nL e_i64 a,bF h1] (hE _ (oJ h))
theorem QlE {a dims} {rv:Bool} (h:QeM a dims=some rv):AFn Tryz.prog 124 [.one (lL 1 a e_i64),.one (lI dims)] [] (one (.bool rv)) []:=by
 refine QaT Tryz.func124 (by kernel_rfl) (by kernel_rfl) (fun Γ=>?_)
 unfold QeM at h
 rcases Qal h with ⟨h0,h⟩|⟨h0,h⟩
 ·obtain rfl:=Option.some.inj h
  exact gr 8 [] [nL e_i64 a,bT h0]
 ·obtain ⟨e0,h5,h⟩:=Qae h
  refine gn 12 [0,5] [] [nL e_i64 a,bF h0] (QnW Γ rv h5 ?_)
  rcases e0 with e0|e0
  ·replace h:(some true:Option Bool)=some _:=h
   obtain rfl:=Option.some.inj h
   exact gr 2 [] []
  ·obtain ⟨r,rfl⟩:∃ x,x=e0:=⟨_,rfl⟩
   replace h:(some r:Option Bool)=some _:=h
   exact Option.some.inj h
theorem QbA {s0} {rv:Int} (h:QdH s0=some rv):AFn Tryz.prog 125 [.agg (Qau.enc s0)] [] (one (lI rv)) []:=by
 refine QaT Tryz.func125 (by kernel_rfl) (by kernel_rfl) (fun Γ=>?_)
 unfold QdH at h
 rcases Qal h with ⟨h0,h⟩|⟨h0,h⟩
 ·obtain rfl:=Option.some.inj h
  exact gr 8 [] [rp 12 hP,rp 2 (oI ((eqI s0.place (-1))=true)),oR True ((eqI s0.place (-1))=true),rp 2 (oI (((eqI s0.place (-1))&&(eqI s0.open_ 0))=true)),oR True (((eqI s0.place (-1))&&(eqI s0.open_ 0))=true),rp 2 (oI ((((eqI s0.place (-1))&&(eqI s0.open_ 0))&&(eqI s0.close 0))=true)),oR True ((((eqI s0.place (-1))&&(eqI s0.open_ 0))&&(eqI s0.close 0))=true),bT h0]
 ·rcases Qal h with ⟨h1,h⟩|⟨h1,h⟩
  ·obtain rfl:=Option.some.inj h
   exact gr 13 [] [rp 12 hP,rp 2 (oI ((eqI s0.place (-1))=true)),oR True ((eqI s0.place (-1))=true),rp 2 (oI (((eqI s0.place (-1))&&(eqI s0.open_ 0))=true)),oR True (((eqI s0.place (-1))&&(eqI s0.open_ 0))=true),rp 2 (oI ((((eqI s0.place (-1))&&(eqI s0.open_ 0))&&(eqI s0.close 0))=true)),oR True ((((eqI s0.place (-1))&&(eqI s0.open_ 0))&&(eqI s0.close 0))=true),bF h0,rp 22 hP,rp 2 (oI ((ltI s0.place 0)=false)),oR True ((ltI s0.place 0)=false),rp 4 (oI (((ltI s0.place 0)||(ltI s0.open_ 0))=false)),oR True (((ltI s0.place 0)||(ltI s0.open_ 0))=false),rp 2 (oI ((((ltI s0.place 0)||(ltI s0.open_ 0))||(gtI s0.open_ s0.close))=false)),oR True ((((ltI s0.place 0)||(ltI s0.open_ 0))||(gtI s0.open_ s0.close))=false),rp 2 (oI (((((ltI s0.place 0)||(ltI s0.open_ 0))||(gtI s0.open_ s0.close))||(gtI s0.close 4096))=false)),oR True (((((ltI s0.place 0)||(ltI s0.open_ 0))||(gtI s0.open_ s0.close))||(gtI s0.close 4096))=false),rp 2 (oI ((((((ltI s0.place 0)||(ltI s0.open_ 0))||(gtI s0.open_ s0.close))||(gtI s0.close 4096))||(ltI s0.service 0))=false)),oR True ((((((ltI s0.place 0)||(ltI s0.open_ 0))||(gtI s0.open_ s0.close))||(gtI s0.close 4096))||(ltI s0.service 0))=false),bT h1]
  ·obtain rfl:=Option.some.inj h
   exact gr 14 [] [rp 12 hP,rp 2 (oI ((eqI s0.place (-1))=true)),oR True ((eqI s0.place (-1))=true),rp 2 (oI (((eqI s0.place (-1))&&(eqI s0.open_ 0))=true)),oR True (((eqI s0.place (-1))&&(eqI s0.open_ 0))=true),rp 2 (oI ((((eqI s0.place (-1))&&(eqI s0.open_ 0))&&(eqI s0.close 0))=true)),oR True ((((eqI s0.place (-1))&&(eqI s0.open_ 0))&&(eqI s0.close 0))=true),bF h0,rp 22 hP,rp 2 (oI ((ltI s0.place 0)=false)),oR True ((ltI s0.place 0)=false),rp 4 (oI (((ltI s0.place 0)||(ltI s0.open_ 0))=false)),oR True (((ltI s0.place 0)||(ltI s0.open_ 0))=false),rp 2 (oI ((((ltI s0.place 0)||(ltI s0.open_ 0))||(gtI s0.open_ s0.close))=false)),oR True ((((ltI s0.place 0)||(ltI s0.open_ 0))||(gtI s0.open_ s0.close))=false),rp 2 (oI (((((ltI s0.place 0)||(ltI s0.open_ 0))||(gtI s0.open_ s0.close))||(gtI s0.close 4096))=false)),oR True (((((ltI s0.place 0)||(ltI s0.open_ 0))||(gtI s0.open_ s0.close))||(gtI s0.close 4096))=false),rp 2 (oI ((((((ltI s0.place 0)||(ltI s0.open_ 0))||(gtI s0.open_ s0.close))||(gtI s0.close 4096))||(ltI s0.service 0))=false)),oR True ((((((ltI s0.place 0)||(ltI s0.open_ 0))||(gtI s0.open_ s0.close))||(gtI s0.close 4096))||(ltI s0.service 0))=false),bF h1]
def Qbz (Γ:Gam) (rv:List Int) (cf:Cf):Prop:=Go Tryz.prog Tryz.f92 [] Γ (one (lL 1 rv e_i64)) [] cf
def Qku (Γ:Gam) (rv:List Int) (places:Int) (dims:Int) (types:Int) (l:List Qag) (at_:Int) (x0:Qag) (l1:List Int) (i:Int):Prop:=Qbz Γ rv ⟨[.c 500,.l 500,.b 0,.c 63],⟨156,[vI 0 places,vI 1 dims,vI 2 types,vL 3 16 l Qag.enc,vI 4 at_,vO 11 0 1 l1 e_i64,vP 12 1 16,vI 13 i],[oS 1 38 l1 e_i64,oX 16 74 (Qag.enc x0)]⟩⟩
def QjD (Γ:Gam) (rv:List Int) (places:Int) (dims:Int) (types:Int) (l:List Qag) (at_:Int) (x0:Qag) (l1:List Int) (l2:List Int):Prop:=Qbz Γ rv ⟨[.c 63],⟨156,[vI 0 places,vI 1 dims,vI 2 types,vO 11 0 1 l2 e_i64,vP 12 1 16],[oS 1 38 l2 e_i64,oX 16 74 (Qag.enc x0)]⟩⟩
theorem Qn5 (Γ:Gam) (rv:List Int) {places dims types l at_ x0 l1} {s:Int} {e:List Int} (h:loopF (fun s=>Qcc places dims types l at_ x0 l1 s) s=some e) (hD:QjD Γ rv places dims types l at_ x0 l1 e):Qku Γ rv places dims types l at_ x0 l1 s:=by
 refine QaN (C:=fun (s:Int)=>Qku Γ rv places dims types l at_ x0 l1 s) (D:=fun (e:List Int)=>QjD Γ rv places dims types l at_ x0 l1 e) ?_ h hD
 clear h hD s e
 intro i z_ h hI hE
 replace h:Qcc places dims types l at_ x0 l1 i=_:=h
 unfold Qcc at h
 rcases Qal h with ⟨h4,h⟩|⟨h4,h⟩
 ·obtain ⟨x1,h5,h⟩:=Qae h
  rcases Qal h with ⟨h6,h⟩|⟨h6,h⟩
  ·obtain ⟨h7,h⟩:=Qax h
   exact gn 13 [0,1,2,11,12] [3,1] [bT h4,hH (.draw 8 []),cE Qag.enc h5,bT h6,oO (Eq.refl ([6].map e_i64).length),aO e_i64 h7] (hE _ (oJ h))
  ·exact gn 14 [0,1,2,3,4,11,12,13] [0,1] [bT h4,hH (.draw 8 []),cE Qag.enc h5,bF h6] (hI _ (oJ h))
 ·exact gn 5 [0,1,2,11,12] [0,1] [bF h4] (hE _ (oJ h))
theorem Qjy (Γ:Gam) (rv:List Int) {types x0 l6} (h:QdZ types x0 l6=some rv):Qbz Γ rv ⟨[.c 2047],⟨156,[vI 2 types,vO 11 0 1 l6 e_i64,vP 12 1 16],[oS 1 38 l6 e_i64,oX 16 74 (Qag.enc x0)]⟩⟩:=by
 unfold QdZ at h
 obtain ⟨r6,h25,h⟩:=Qae h
 rcases Qal h with ⟨h26,h⟩|⟨h26,h⟩
 ·obtain ⟨r7,h27,h⟩:=Qae h
  rcases Qal h with ⟨h28,h⟩|⟨h28,h⟩
  ·obtain ⟨h29,h⟩:=Qax h
   obtain rfl:=Option.some.inj h
   exact gr 9 [] [rp 5 hP,rp 3 (oI ((neI x0.pick.place (-1))=true)),oR True ((neI x0.pick.place (-1))=true),cC (QaE h25),rp 3 (nF h26),cC (QaE h27),rp 2 (nF h26),rp 26 hP,rp 4 (oI ((!r7)=false)),oI (((!r7)=false)∧(gtI x0.split 1)=true),oR True ((!r7)=false),rp 2 (oI (((!r7)||((gtI x0.split 1)&&((neI x0.pick.place (-1))&&(neI x0.drop.place (-1)))))=false)),oR True (((!r7)||((gtI x0.split 1)&&((neI x0.pick.place (-1))&&(neI x0.drop.place (-1)))))=false),rp 3 (oI ((((!r7)||((gtI x0.split 1)&&((neI x0.pick.place (-1))&&(neI x0.drop.place (-1)))))||(ltI x0.last_ (-1)))=false)),oR True ((((!r7)||((gtI x0.split 1)&&((neI x0.pick.place (-1))&&(neI x0.drop.place (-1)))))||(ltI x0.last_ (-1)))=false),rp 2 (oI (((((!r7)||((gtI x0.split 1)&&((neI x0.pick.place (-1))&&(neI x0.drop.place (-1)))))||(ltI x0.last_ (-1)))||(geI x0.last_ types))=false)),oR True (((((!r7)||((gtI x0.split 1)&&((neI x0.pick.place (-1))&&(neI x0.drop.place (-1)))))||(ltI x0.last_ (-1)))||(geI x0.last_ types))=false),rp 3 (oI ((((((!r7)||((gtI x0.split 1)&&((neI x0.pick.place (-1))&&(neI x0.drop.place (-1)))))||(ltI x0.last_ (-1)))||(geI x0.last_ types))||(ltI x0.now (-1)))=false)),oR True ((((((!r7)||((gtI x0.split 1)&&((neI x0.pick.place (-1))&&(neI x0.drop.place (-1)))))||(ltI x0.last_ (-1)))||(geI x0.last_ types))||(ltI x0.now (-1)))=false),bT h28,oO (Eq.refl ([2].map e_i64).length),aO e_i64 h29,hW 5,hH (.frz 3),rp 4 (oO (Eq.refl ((l6++[2]).map e_i64).length))]
  ·obtain rfl:=Option.some.inj h
   exact gr 9 [] [rp 5 hP,rp 3 (oI ((neI x0.pick.place (-1))=true)),oR True ((neI x0.pick.place (-1))=true),cC (QaE h25),rp 3 (nF h26),cC (QaE h27),rp 2 (nF h26),rp 26 hP,rp 4 (oI ((!r7)=false)),oI (((!r7)=false)∧(gtI x0.split 1)=true),oR True ((!r7)=false),rp 2 (oI (((!r7)||((gtI x0.split 1)&&((neI x0.pick.place (-1))&&(neI x0.drop.place (-1)))))=false)),oR True (((!r7)||((gtI x0.split 1)&&((neI x0.pick.place (-1))&&(neI x0.drop.place (-1)))))=false),rp 3 (oI ((((!r7)||((gtI x0.split 1)&&((neI x0.pick.place (-1))&&(neI x0.drop.place (-1)))))||(ltI x0.last_ (-1)))=false)),oR True ((((!r7)||((gtI x0.split 1)&&((neI x0.pick.place (-1))&&(neI x0.drop.place (-1)))))||(ltI x0.last_ (-1)))=false),rp 2 (oI (((((!r7)||((gtI x0.split 1)&&((neI x0.pick.place (-1))&&(neI x0.drop.place (-1)))))||(ltI x0.last_ (-1)))||(geI x0.last_ types))=false)),oR True (((((!r7)||((gtI x0.split 1)&&((neI x0.pick.place (-1))&&(neI x0.drop.place (-1)))))||(ltI x0.last_ (-1)))||(geI x0.last_ types))=false),rp 3 (oI ((((((!r7)||((gtI x0.split 1)&&((neI x0.pick.place (-1))&&(neI x0.drop.place (-1)))))||(ltI x0.last_ (-1)))||(geI x0.last_ types))||(ltI x0.now (-1)))=false)),oR True ((((((!r7)||((gtI x0.split 1)&&((neI x0.pick.place (-1))&&(neI x0.drop.place (-1)))))||(ltI x0.last_ (-1)))||(geI x0.last_ types))||(ltI x0.now (-1)))=false),bF h28,hW 5,hH (.frz 0),rp 3 (eL l6 e_i64)]
 ·obtain ⟨h30,h⟩:=Qax h
  obtain rfl:=Option.some.inj h
  exact gr 9 [] [rp 5 hP,rp 3 (oI ((neI x0.pick.place (-1))=true)),oR True ((neI x0.pick.place (-1))=true),cC (QaE h25),rp 5 (nT h26),rp 4 tT,kF,rp 21 tT,oO (Eq.refl ([2].map e_i64).length),aO e_i64 h30,hW 5,hH (.frz 3),rp 4 (oO (Eq.refl ((l6++[2]).map e_i64).length))]
theorem QjA (Γ:Gam) (rv:List Int) {types x0 l8} (h:Qgs types x0 l8=some rv):Qbz Γ rv ⟨[.c 2047],⟨156,[vI 2 types,vO 11 0 1 l8 e_i64,vP 12 1 16],[oS 1 38 l8 e_i64,oX 16 74 (Qag.enc x0)]⟩⟩:=by
 unfold Qgs at h
 obtain ⟨r10,h37,h⟩:=Qae h
 rcases Qal h with ⟨h38,h⟩|⟨h38,h⟩
 ·obtain ⟨r11,h39,h⟩:=Qae h
  rcases Qal h with ⟨h40,h⟩|⟨h40,h⟩
  ·obtain ⟨h41,h⟩:=Qax h
   obtain rfl:=Option.some.inj h
   exact gr 9 [] [rp 5 hP,rp 3 (oI ((neI x0.pick.place (-1))=true)),oR True ((neI x0.pick.place (-1))=true),cC (QaE h37),rp 3 (nF h38),cC (QaE h39),rp 2 (nF h38),rp 26 hP,rp 4 (oI ((!r11)=false)),oI (((!r11)=false)∧(gtI x0.split 1)=true),oR True ((!r11)=false),rp 2 (oI (((!r11)||((gtI x0.split 1)&&((neI x0.pick.place (-1))&&(neI x0.drop.place (-1)))))=false)),oR True (((!r11)||((gtI x0.split 1)&&((neI x0.pick.place (-1))&&(neI x0.drop.place (-1)))))=false),rp 3 (oI ((((!r11)||((gtI x0.split 1)&&((neI x0.pick.place (-1))&&(neI x0.drop.place (-1)))))||(ltI x0.last_ (-1)))=false)),oR True ((((!r11)||((gtI x0.split 1)&&((neI x0.pick.place (-1))&&(neI x0.drop.place (-1)))))||(ltI x0.last_ (-1)))=false),rp 2 (oI (((((!r11)||((gtI x0.split 1)&&((neI x0.pick.place (-1))&&(neI x0.drop.place (-1)))))||(ltI x0.last_ (-1)))||(geI x0.last_ types))=false)),oR True (((((!r11)||((gtI x0.split 1)&&((neI x0.pick.place (-1))&&(neI x0.drop.place (-1)))))||(ltI x0.last_ (-1)))||(geI x0.last_ types))=false),rp 3 (oI ((((((!r11)||((gtI x0.split 1)&&((neI x0.pick.place (-1))&&(neI x0.drop.place (-1)))))||(ltI x0.last_ (-1)))||(geI x0.last_ types))||(ltI x0.now (-1)))=false)),oR True ((((((!r11)||((gtI x0.split 1)&&((neI x0.pick.place (-1))&&(neI x0.drop.place (-1)))))||(ltI x0.last_ (-1)))||(geI x0.last_ types))||(ltI x0.now (-1)))=false),bT h40,oO (Eq.refl ([2].map e_i64).length),aO e_i64 h41,hW 5,hH (.frz 3),rp 4 (oO (Eq.refl ((l8++[2]).map e_i64).length))]
  ·obtain rfl:=Option.some.inj h
   exact gr 9 [] [rp 5 hP,rp 3 (oI ((neI x0.pick.place (-1))=true)),oR True ((neI x0.pick.place (-1))=true),cC (QaE h37),rp 3 (nF h38),cC (QaE h39),rp 2 (nF h38),rp 26 hP,rp 4 (oI ((!r11)=false)),oI (((!r11)=false)∧(gtI x0.split 1)=true),oR True ((!r11)=false),rp 2 (oI (((!r11)||((gtI x0.split 1)&&((neI x0.pick.place (-1))&&(neI x0.drop.place (-1)))))=false)),oR True (((!r11)||((gtI x0.split 1)&&((neI x0.pick.place (-1))&&(neI x0.drop.place (-1)))))=false),rp 3 (oI ((((!r11)||((gtI x0.split 1)&&((neI x0.pick.place (-1))&&(neI x0.drop.place (-1)))))||(ltI x0.last_ (-1)))=false)),oR True ((((!r11)||((gtI x0.split 1)&&((neI x0.pick.place (-1))&&(neI x0.drop.place (-1)))))||(ltI x0.last_ (-1)))=false),rp 2 (oI (((((!r11)||((gtI x0.split 1)&&((neI x0.pick.place (-1))&&(neI x0.drop.place (-1)))))||(ltI x0.last_ (-1)))||(geI x0.last_ types))=false)),oR True (((((!r11)||((gtI x0.split 1)&&((neI x0.pick.place (-1))&&(neI x0.drop.place (-1)))))||(ltI x0.last_ (-1)))||(geI x0.last_ types))=false),rp 3 (oI ((((((!r11)||((gtI x0.split 1)&&((neI x0.pick.place (-1))&&(neI x0.drop.place (-1)))))||(ltI x0.last_ (-1)))||(geI x0.last_ types))||(ltI x0.now (-1)))=false)),oR True ((((((!r11)||((gtI x0.split 1)&&((neI x0.pick.place (-1))&&(neI x0.drop.place (-1)))))||(ltI x0.last_ (-1)))||(geI x0.last_ types))||(ltI x0.now (-1)))=false),bF h40,hW 5,hH (.frz 0),rp 3 (eL l8 e_i64)]
 ·obtain ⟨h42,h⟩:=Qax h
  obtain rfl:=Option.some.inj h
  exact gr 9 [] [rp 5 hP,rp 3 (oI ((neI x0.pick.place (-1))=true)),oR True ((neI x0.pick.place (-1))=true),cC (QaE h37),rp 5 (nT h38),rp 4 tT,kF,rp 21 tT,oO (Eq.refl ([2].map e_i64).length),aO e_i64 h42,hW 5,hH (.frz 3),rp 4 (oO (Eq.refl ((l8++[2]).map e_i64).length))]
theorem Qjz (Γ:Gam) (rv:List Int) {types x0 l7} (h:Qd0 types x0 l7=some rv):Qbz Γ rv ⟨[.c 1023],⟨156,[vI 2 types,vO 11 0 1 l7 e_i64,vP 12 1 16],[oS 1 38 l7 e_i64,oX 16 74 (Qag.enc x0)]⟩⟩:=by
 unfold Qd0 at h
 obtain ⟨r9,h34,h⟩:=Qae h
 rcases Qal h with ⟨h35,h⟩|⟨h35,h⟩
 ·exact gn 5 [2,11,12] [0,1] [cC (QaE h34),nF h35] (QjA Γ rv h)
 ·obtain ⟨h36,h⟩:=Qax h
  exact gn 5 [2,11,12] [3,1] [cC (QaE h34),nT h35,oO (Eq.refl ([18].map e_i64).length),aO e_i64 h36] (QjA Γ rv h)
theorem Qjx (Γ:Gam) (rv:List Int) {types x0 l5} (h:QdY types x0 l5=some rv):Qbz Γ rv ⟨[.c 511],⟨156,[vI 2 types,vO 11 0 1 l5 e_i64,vP 12 1 16],[oS 1 38 l5 e_i64,oX 16 74 (Qag.enc x0)]⟩⟩:=by
 unfold QdY at h
 obtain ⟨r4,h19,h⟩:=Qae h
 rcases Qal h with ⟨h20,h⟩|⟨h20,h⟩
 ·obtain ⟨h21,h⟩:=Qax h
  obtain ⟨r5,h22,h⟩:=Qae h
  rcases Qal h with ⟨h23,h⟩|⟨h23,h⟩
  ·exact gn 10 [2,11,12] [3,1] [cC (QbA h19),rp 5 (bT h20),tT,oO (Eq.refl ([14].map e_i64).length),aO e_i64 h21,cC (QaE h22),nF h23] (Qjy Γ rv h)
  ·obtain ⟨h24,h⟩:=Qax h
   exact gn 10 [2,11,12] [5,1] [cC (QbA h19),rp 5 (bT h20),tT,oO (Eq.refl ([14].map e_i64).length),aO e_i64 h21,cC (QaE h22),nT h23,oO (Eq.refl ([18].map e_i64).length),aO e_i64 h24] (Qjy Γ rv h)
 ·obtain ⟨r8,h31,h⟩:=Qae h
  rcases Qal h with ⟨h32,h⟩|⟨h32,h⟩
  ·obtain ⟨h33,h⟩:=Qax h
   exact gn 5 [2,11,12] [3,1] [cC (QbA h19),rp 3 (bF h20),cC (QbA h31),rp 2 (bF h20),bT h32,oO (Eq.refl ([14].map e_i64).length),aO e_i64 h33] (Qjz Γ rv h)
  ·exact gn 5 [2,11,12] [0,1] [cC (QbA h19),rp 3 (bF h20),cC (QbA h31),rp 2 (bF h20),bF h32] (Qjz Γ rv h)
theorem Qjw (Γ:Gam) (rv:List Int) {types x0 l4} (h:QdX types x0 l4=some rv):Qbz Γ rv ⟨[.c 255],⟨156,[vI 2 types,vO 11 0 1 l4 e_i64,vP 12 1 16],[oS 1 38 l4 e_i64,oX 16 74 (Qag.enc x0)]⟩⟩:=by
 unfold QdX at h
 rcases Qal h with ⟨h17,h⟩|⟨h17,h⟩
 ·obtain ⟨h18,h⟩:=Qax h
  exact gn 5 [2,11,12] [3,1] [rp 5 hP,rp 3 (oI ((eqI x0.pick.place (-1))=true)),oR True ((eqI x0.pick.place (-1))=true),bT h17,oO (Eq.refl ([19].map e_i64).length),aO e_i64 h18] (Qjx Γ rv h)
 ·exact gn 5 [2,11,12] [0,1] [rp 5 hP,rp 3 (oI ((eqI x0.pick.place (-1))=true)),oR True ((eqI x0.pick.place (-1))=true),bF h17] (Qjx Γ rv h)
theorem QjC (Γ:Gam) (rv:List Int) {types x0 l10} (h:Qgu types x0 l10=some rv):Qbz Γ rv ⟨[.c 2047],⟨156,[vI 2 types,vO 11 0 1 l10 e_i64,vP 12 1 16],[oS 1 38 l10 e_i64,oX 16 74 (Qag.enc x0)]⟩⟩:=by
 unfold Qgu at h
 obtain ⟨r14,h52,h⟩:=Qae h
 rcases Qal h with ⟨h53,h⟩|⟨h53,h⟩
 ·obtain ⟨r15,h54,h⟩:=Qae h
  rcases Qal h with ⟨h55,h⟩|⟨h55,h⟩
  ·obtain ⟨h56,h⟩:=Qax h
   obtain rfl:=Option.some.inj h
   exact gr 9 [] [rp 5 hP,rp 3 (oI ((neI x0.pick.place (-1))=true)),oR True ((neI x0.pick.place (-1))=true),cC (QaE h52),rp 3 (nF h53),cC (QaE h54),rp 2 (nF h53),rp 26 hP,rp 4 (oI ((!r15)=false)),oI (((!r15)=false)∧(gtI x0.split 1)=true),oR True ((!r15)=false),rp 2 (oI (((!r15)||((gtI x0.split 1)&&((neI x0.pick.place (-1))&&(neI x0.drop.place (-1)))))=false)),oR True (((!r15)||((gtI x0.split 1)&&((neI x0.pick.place (-1))&&(neI x0.drop.place (-1)))))=false),rp 3 (oI ((((!r15)||((gtI x0.split 1)&&((neI x0.pick.place (-1))&&(neI x0.drop.place (-1)))))||(ltI x0.last_ (-1)))=false)),oR True ((((!r15)||((gtI x0.split 1)&&((neI x0.pick.place (-1))&&(neI x0.drop.place (-1)))))||(ltI x0.last_ (-1)))=false),rp 2 (oI (((((!r15)||((gtI x0.split 1)&&((neI x0.pick.place (-1))&&(neI x0.drop.place (-1)))))||(ltI x0.last_ (-1)))||(geI x0.last_ types))=false)),oR True (((((!r15)||((gtI x0.split 1)&&((neI x0.pick.place (-1))&&(neI x0.drop.place (-1)))))||(ltI x0.last_ (-1)))||(geI x0.last_ types))=false),rp 3 (oI ((((((!r15)||((gtI x0.split 1)&&((neI x0.pick.place (-1))&&(neI x0.drop.place (-1)))))||(ltI x0.last_ (-1)))||(geI x0.last_ types))||(ltI x0.now (-1)))=false)),oR True ((((((!r15)||((gtI x0.split 1)&&((neI x0.pick.place (-1))&&(neI x0.drop.place (-1)))))||(ltI x0.last_ (-1)))||(geI x0.last_ types))||(ltI x0.now (-1)))=false),bT h55,oO (Eq.refl ([2].map e_i64).length),aO e_i64 h56,hW 5,hH (.frz 3),rp 4 (oO (Eq.refl ((l10++[2]).map e_i64).length))]
  ·obtain rfl:=Option.some.inj h
   exact gr 9 [] [rp 5 hP,rp 3 (oI ((neI x0.pick.place (-1))=true)),oR True ((neI x0.pick.place (-1))=true),cC (QaE h52),rp 3 (nF h53),cC (QaE h54),rp 2 (nF h53),rp 26 hP,rp 4 (oI ((!r15)=false)),oI (((!r15)=false)∧(gtI x0.split 1)=true),oR True ((!r15)=false),rp 2 (oI (((!r15)||((gtI x0.split 1)&&((neI x0.pick.place (-1))&&(neI x0.drop.place (-1)))))=false)),oR True (((!r15)||((gtI x0.split 1)&&((neI x0.pick.place (-1))&&(neI x0.drop.place (-1)))))=false),rp 3 (oI ((((!r15)||((gtI x0.split 1)&&((neI x0.pick.place (-1))&&(neI x0.drop.place (-1)))))||(ltI x0.last_ (-1)))=false)),oR True ((((!r15)||((gtI x0.split 1)&&((neI x0.pick.place (-1))&&(neI x0.drop.place (-1)))))||(ltI x0.last_ (-1)))=false),rp 2 (oI (((((!r15)||((gtI x0.split 1)&&((neI x0.pick.place (-1))&&(neI x0.drop.place (-1)))))||(ltI x0.last_ (-1)))||(geI x0.last_ types))=false)),oR True (((((!r15)||((gtI x0.split 1)&&((neI x0.pick.place (-1))&&(neI x0.drop.place (-1)))))||(ltI x0.last_ (-1)))||(geI x0.last_ types))=false),rp 3 (oI ((((((!r15)||((gtI x0.split 1)&&((neI x0.pick.place (-1))&&(neI x0.drop.place (-1)))))||(ltI x0.last_ (-1)))||(geI x0.last_ types))||(ltI x0.now (-1)))=false)),oR True ((((((!r15)||((gtI x0.split 1)&&((neI x0.pick.place (-1))&&(neI x0.drop.place (-1)))))||(ltI x0.last_ (-1)))||(geI x0.last_ types))||(ltI x0.now (-1)))=false),bF h55,hW 5,hH (.frz 0),rp 3 (eL l10 e_i64)]
 ·obtain ⟨h57,h⟩:=Qax h
  obtain rfl:=Option.some.inj h
  exact gr 9 [] [rp 5 hP,rp 3 (oI ((neI x0.pick.place (-1))=true)),oR True ((neI x0.pick.place (-1))=true),cC (QaE h52),rp 5 (nT h53),rp 4 tT,kF,rp 21 tT,oO (Eq.refl ([2].map e_i64).length),aO e_i64 h57,hW 5,hH (.frz 3),rp 4 (oO (Eq.refl ((l10++[2]).map e_i64).length))]
theorem QiA (Γ:Gam) (rv:List Int) {types x0 l12} (h:QfZ types x0 l12=some rv):Qbz Γ rv ⟨[.c 2047],⟨156,[vI 2 types,vO 11 0 1 l12 e_i64,vP 12 1 16],[oS 1 38 l12 e_i64,oX 16 74 (Qag.enc x0)]⟩⟩:=by
 unfold QfZ at h
 obtain ⟨r18,h64,h⟩:=Qae h
 rcases Qal h with ⟨h65,h⟩|⟨h65,h⟩
 ·obtain ⟨r19,h66,h⟩:=Qae h
  rcases Qal h with ⟨h67,h⟩|⟨h67,h⟩
  ·obtain ⟨h68,h⟩:=Qax h
   obtain rfl:=Option.some.inj h
   exact gr 9 [] [rp 5 hP,rp 3 (oI ((neI x0.pick.place (-1))=true)),oR True ((neI x0.pick.place (-1))=true),cC (QaE h64),rp 3 (nF h65),cC (QaE h66),rp 2 (nF h65),rp 26 hP,rp 4 (oI ((!r19)=false)),oI (((!r19)=false)∧(gtI x0.split 1)=true),oR True ((!r19)=false),rp 2 (oI (((!r19)||((gtI x0.split 1)&&((neI x0.pick.place (-1))&&(neI x0.drop.place (-1)))))=false)),oR True (((!r19)||((gtI x0.split 1)&&((neI x0.pick.place (-1))&&(neI x0.drop.place (-1)))))=false),rp 3 (oI ((((!r19)||((gtI x0.split 1)&&((neI x0.pick.place (-1))&&(neI x0.drop.place (-1)))))||(ltI x0.last_ (-1)))=false)),oR True ((((!r19)||((gtI x0.split 1)&&((neI x0.pick.place (-1))&&(neI x0.drop.place (-1)))))||(ltI x0.last_ (-1)))=false),rp 2 (oI (((((!r19)||((gtI x0.split 1)&&((neI x0.pick.place (-1))&&(neI x0.drop.place (-1)))))||(ltI x0.last_ (-1)))||(geI x0.last_ types))=false)),oR True (((((!r19)||((gtI x0.split 1)&&((neI x0.pick.place (-1))&&(neI x0.drop.place (-1)))))||(ltI x0.last_ (-1)))||(geI x0.last_ types))=false),rp 3 (oI ((((((!r19)||((gtI x0.split 1)&&((neI x0.pick.place (-1))&&(neI x0.drop.place (-1)))))||(ltI x0.last_ (-1)))||(geI x0.last_ types))||(ltI x0.now (-1)))=false)),oR True ((((((!r19)||((gtI x0.split 1)&&((neI x0.pick.place (-1))&&(neI x0.drop.place (-1)))))||(ltI x0.last_ (-1)))||(geI x0.last_ types))||(ltI x0.now (-1)))=false),bT h67,oO (Eq.refl ([2].map e_i64).length),aO e_i64 h68,hW 5,hH (.frz 3),rp 4 (oO (Eq.refl ((l12++[2]).map e_i64).length))]
  ·obtain rfl:=Option.some.inj h
   exact gr 9 [] [rp 5 hP,rp 3 (oI ((neI x0.pick.place (-1))=true)),oR True ((neI x0.pick.place (-1))=true),cC (QaE h64),rp 3 (nF h65),cC (QaE h66),rp 2 (nF h65),rp 26 hP,rp 4 (oI ((!r19)=false)),oI (((!r19)=false)∧(gtI x0.split 1)=true),oR True ((!r19)=false),rp 2 (oI (((!r19)||((gtI x0.split 1)&&((neI x0.pick.place (-1))&&(neI x0.drop.place (-1)))))=false)),oR True (((!r19)||((gtI x0.split 1)&&((neI x0.pick.place (-1))&&(neI x0.drop.place (-1)))))=false),rp 3 (oI ((((!r19)||((gtI x0.split 1)&&((neI x0.pick.place (-1))&&(neI x0.drop.place (-1)))))||(ltI x0.last_ (-1)))=false)),oR True ((((!r19)||((gtI x0.split 1)&&((neI x0.pick.place (-1))&&(neI x0.drop.place (-1)))))||(ltI x0.last_ (-1)))=false),rp 2 (oI (((((!r19)||((gtI x0.split 1)&&((neI x0.pick.place (-1))&&(neI x0.drop.place (-1)))))||(ltI x0.last_ (-1)))||(geI x0.last_ types))=false)),oR True (((((!r19)||((gtI x0.split 1)&&((neI x0.pick.place (-1))&&(neI x0.drop.place (-1)))))||(ltI x0.last_ (-1)))||(geI x0.last_ types))=false),rp 3 (oI ((((((!r19)||((gtI x0.split 1)&&((neI x0.pick.place (-1))&&(neI x0.drop.place (-1)))))||(ltI x0.last_ (-1)))||(geI x0.last_ types))||(ltI x0.now (-1)))=false)),oR True ((((((!r19)||((gtI x0.split 1)&&((neI x0.pick.place (-1))&&(neI x0.drop.place (-1)))))||(ltI x0.last_ (-1)))||(geI x0.last_ types))||(ltI x0.now (-1)))=false),bF h67,hW 5,hH (.frz 0),rp 3 (eL l12 e_i64)]
 ·obtain ⟨h69,h⟩:=Qax h
  obtain rfl:=Option.some.inj h
  exact gr 9 [] [rp 5 hP,rp 3 (oI ((neI x0.pick.place (-1))=true)),oR True ((neI x0.pick.place (-1))=true),cC (QaE h64),rp 5 (nT h65),rp 4 tT,kF,rp 21 tT,oO (Eq.refl ([2].map e_i64).length),aO e_i64 h69,hW 5,hH (.frz 3),rp 4 (oO (Eq.refl ((l12++[2]).map e_i64).length))]
theorem Qiz (Γ:Gam) (rv:List Int) {types x0 l11} (h:QfY types x0 l11=some rv):Qbz Γ rv ⟨[.c 1023],⟨156,[vI 2 types,vO 11 0 1 l11 e_i64,vP 12 1 16],[oS 1 38 l11 e_i64,oX 16 74 (Qag.enc x0)]⟩⟩:=by
 unfold QfY at h
 obtain ⟨r17,h61,h⟩:=Qae h
 rcases Qal h with ⟨h62,h⟩|⟨h62,h⟩
 ·exact gn 5 [2,11,12] [0,1] [cC (QaE h61),nF h62] (QiA Γ rv h)
 ·obtain ⟨h63,h⟩:=Qax h
  exact gn 5 [2,11,12] [3,1] [cC (QaE h61),nT h62,oO (Eq.refl ([18].map e_i64).length),aO e_i64 h63] (QiA Γ rv h)
theorem QjB (Γ:Gam) (rv:List Int) {types x0 l9} (h:Qgt types x0 l9=some rv):Qbz Γ rv ⟨[.c 511],⟨156,[vI 2 types,vO 11 0 1 l9 e_i64,vP 12 1 16],[oS 1 38 l9 e_i64,oX 16 74 (Qag.enc x0)]⟩⟩:=by
 unfold Qgt at h
 obtain ⟨r12,h46,h⟩:=Qae h
 rcases Qal h with ⟨h47,h⟩|⟨h47,h⟩
 ·obtain ⟨h48,h⟩:=Qax h
  obtain ⟨r13,h49,h⟩:=Qae h
  rcases Qal h with ⟨h50,h⟩|⟨h50,h⟩
  ·exact gn 10 [2,11,12] [3,1] [cC (QbA h46),rp 5 (bT h47),tT,oO (Eq.refl ([14].map e_i64).length),aO e_i64 h48,cC (QaE h49),nF h50] (QjC Γ rv h)
  ·obtain ⟨h51,h⟩:=Qax h
   exact gn 10 [2,11,12] [5,1] [cC (QbA h46),rp 5 (bT h47),tT,oO (Eq.refl ([14].map e_i64).length),aO e_i64 h48,cC (QaE h49),nT h50,oO (Eq.refl ([18].map e_i64).length),aO e_i64 h51] (QjC Γ rv h)
 ·obtain ⟨r16,h58,h⟩:=Qae h
  rcases Qal h with ⟨h59,h⟩|⟨h59,h⟩
  ·obtain ⟨h60,h⟩:=Qax h
   exact gn 5 [2,11,12] [3,1] [cC (QbA h46),rp 3 (bF h47),cC (QbA h58),rp 2 (bF h47),bT h59,oO (Eq.refl ([14].map e_i64).length),aO e_i64 h60] (Qiz Γ rv h)
  ·exact gn 5 [2,11,12] [0,1] [cC (QbA h46),rp 3 (bF h47),cC (QbA h58),rp 2 (bF h47),bF h59] (Qiz Γ rv h)
theorem Qjv (Γ:Gam) (rv:List Int) {places types x0 l3} (h:QbV places types x0 l3=some rv):Qbz Γ rv ⟨[.c 127],⟨156,[vI 0 places,vI 2 types,vO 11 0 1 l3 e_i64,vP 12 1 16],[oS 1 38 l3 e_i64,oX 16 74 (Qag.enc x0)]⟩⟩:=by
 unfold QbV at h
 obtain ⟨r2,h12,h⟩:=Qae h
 rcases Qal h with ⟨h13,h⟩|⟨h13,h⟩
 ·obtain ⟨r3,h14,h⟩:=Qae h
  rcases Qal h with ⟨h15,h⟩|⟨h15,h⟩
  ·exact gn 5 [2,11,12] [0,1] [cC (QaE h12),rp 6 (nF h13),cC (QaE h14),rp 2 (nF h13),nF h15] (Qjw Γ rv h)
  ·obtain ⟨h16,h⟩:=Qax h
   exact gn 5 [2,11,12] [3,1] [cC (QaE h12),rp 6 (nF h13),cC (QaE h14),rp 2 (nF h13),nT h15,oO (Eq.refl ([11].map e_i64).length),aO e_i64 h16] (Qjw Γ rv h)
 ·obtain ⟨h43,h⟩:=Qax h
  rcases Qal h with ⟨h44,h⟩|⟨h44,h⟩
  ·obtain ⟨h45,h⟩:=Qax h
   exact gn 10 [2,11,12] [5,1] [cC (QaE h12),rp 8 (nT h13),tT,oO (Eq.refl ([11].map e_i64).length),aO e_i64 h43,rp 5 hP,rp 3 (oI ((eqI x0.pick.place (-1))=true)),oR True ((eqI x0.pick.place (-1))=true),bT h44,oO (Eq.refl ([19].map e_i64).length),aO e_i64 h45] (QjB Γ rv h)
  ·exact gn 10 [2,11,12] [3,1] [cC (QaE h12),rp 8 (nT h13),tT,oO (Eq.refl ([11].map e_i64).length),aO e_i64 h43,rp 5 hP,rp 3 (oI ((eqI x0.pick.place (-1))=true)),oR True ((eqI x0.pick.place (-1))=true),bF h44] (QjB Γ rv h)
theorem Qju (Γ:Gam) (rv:List Int) {places dims types l at_ x0 l1} (h:QdW places dims types l at_ x0 l1=some rv):Qbz Γ rv ⟨[.c 31],⟨156,[vI 0 places,vI 1 dims,vI 2 types,vL 3 16 l Qag.enc,vI 4 at_,vO 11 0 1 l1 e_i64,vP 12 1 16],[oS 1 38 l1 e_i64,oX 16 74 (Qag.enc x0)]⟩⟩:=by
 unfold QdW at h
 obtain ⟨e0,h8,h⟩:=Qae h
 refine gn 5 [0,1,2,3,4,11,12,13] [0,1] [] (Qn5 Γ rv h8 ?_)
 obtain ⟨l2,rfl⟩:∃ x,x=e0:=⟨_,rfl⟩
 replace h:(bnd (QeM x0.load dims) fun r1=>br r1 (QbV places types x0 l2) (chk (okN (l2++[17]).length 8) (QbV places types x0 (l2++[17]))):Option (List Int))=some _:=h
 obtain ⟨r1,h9,h⟩:=Qae h
 rcases Qal h with ⟨h10,h⟩|⟨h10,h⟩
 ·exact gn 5 [0,2,11,12] [0,1] [cC (QlE h9),nF h10] (Qjv Γ rv h)
 ·obtain ⟨h11,h⟩:=Qax h
  exact gn 5 [0,2,11,12] [3,1] [cC (QlE h9),nT h10,oO (Eq.refl ([17].map e_i64).length),aO e_i64 h11] (Qjv Γ rv h)
theorem QpT {places dims types l at_} {rv:List Int} (h:QgK places dims types l at_=some rv):AFn Tryz.prog 92 [.one (lI places),.one (lI dims),.one (lI types),.one (lL 16 l Qag.enc),.one (lI at_)] [] (one (lL 1 rv e_i64)) []:=by
 refine QaT Tryz.func92 (by kernel_rfl) (by kernel_rfl) (fun Γ=>?_)
 unfold QgK at h
 obtain ⟨x0,h0,h⟩:=Qae h
 obtain ⟨r,h1,h⟩:=Qae h
 rcases Qal h with ⟨h2,h⟩|⟨h2,h⟩
 ·exact gn 11 [0,1,2,3,4,11,12] [1,0] [cE Qag.enc h0,cC (Qey h1),nF h2,hW 1,hH (.adopt 11 1 38)] (Qju Γ rv h)
 ·obtain ⟨h3,h⟩:=Qax h
  exact gn 11 [0,1,2,3,4,11,12] [2,0] [cE Qag.enc h0,cC (Qey h1),nT h2,oO (Eq.refl ([5].map e_i64).length),aN (l:=([5]:List Int)) e_i64 h3] (Qju Γ rv h)
def QfJ (Γ:Gam) (rv:List Qaa) (cf:Cf):Prop:=Go Tryz.prog Tryz.f60 [] Γ (one (lL 2 rv Qaa.enc)) [] cf
def Qkt (Γ:Gam) (rv:List Qaa) (n:Qai) (dims:Int) (types:Int) (l:List Qag) (i:Int) (r:List Int) (l3:List Qaa) (k:Int):Prop:=QfJ Γ rv ⟨[.c 31308,.l 31308,.b 2,.b 1,.c 979,.l 244,.b 0,.c 31],⟨51,[vI 1 dims,vI 2 types,vL 3 16 l Qag.enc,vP 4 0 2,vO 9 1 2 l3 Qaa.enc,vI 10 i,vL 11 1 r e_i64,vI 12 k],[oX 2 25 (Qai.enc n),oS 2 146 l3 Qaa.enc]⟩⟩
def Qjt (Γ:Gam) (rv:List Qaa) (n:Qai) (dims:Int) (types:Int) (l:List Qag) (i:Int) (r:List Int) (l4:List Qaa):Prop:=QfJ Γ rv ⟨[.b 1,.c 979,.l 244,.b 0,.c 31],⟨51,[vI 1 dims,vI 2 types,vL 3 16 l Qag.enc,vP 4 0 2,vO 9 1 2 l4 Qaa.enc,vI 10 i],[oX 2 25 (Qai.enc n),oS 2 146 l4 Qaa.enc]⟩⟩
def Qks (Γ:Gam) (rv:List Qaa) (n:Qai) (dims:Int) (types:Int) (l:List Qag) (l2:List Qaa) (i:Int):Prop:=QfJ Γ rv ⟨[.c 244,.l 244,.b 0,.c 31],⟨51,[vI 1 dims,vI 2 types,vL 3 16 l Qag.enc,vP 4 0 2,vO 9 1 2 l2 Qaa.enc,vI 10 i],[oX 2 25 (Qai.enc n),oS 2 146 l2 Qaa.enc]⟩⟩
def Qjs (Γ:Gam) (rv:List Qaa) (n:Qai) (dims:Int) (types:Int) (l:List Qag) (l5:List Qaa):Prop:=QfJ Γ rv ⟨[.c 31],⟨51,[vO 9 0 2 l5 Qaa.enc],[oS 2 146 l5 Qaa.enc]⟩⟩
theorem Qn4 (Γ:Gam) (rv:List Qaa) {n dims types l i r} {s:List Qaa×Int} {e:List Qaa} (h:loopF (fun s=>Qgr n dims types l i r s.1 s.2) s=some e) (hD:Qjt Γ rv n dims types l i r e):Qkt Γ rv n dims types l i r s.1 s.2:=by
 refine QaN (C:=fun (s:List Qaa×Int)=>Qkt Γ rv n dims types l i r s.1 s.2) (D:=fun (e:List Qaa)=>Qjt Γ rv n dims types l i r e) ?_ h hD
 clear h hD s e
 rintro ⟨l3,k⟩ z_ h hI hE
 replace h:Qgr n dims types l i r l3 k=_:=h
 unfold Qgr at h
 rcases Qal h with ⟨h4,h⟩|⟨h4,h⟩
 ·obtain ⟨x0,h5,h⟩:=Qae h
  obtain ⟨r1,h6,h⟩:=Qae h
  obtain ⟨h7,h⟩:=Qax h
  exact gn 11 [1,2,3,4,9,10,11,12] [0,3] [nL e_i64 r,bT h4,hH (.draw 9 []),cE e_i64 h5,cC (QbS h6),oO (Eq.refl ([(Qaa.mk x0 r1)].map Qaa.enc).length),aO Qaa.enc h7] (hI _ (oJ h))
 ·exact gn 5 [1,2,3,4,9,10] [0,1] [nL e_i64 r,bF h4] (hE _ (oJ h))
theorem Qn3 (Γ:Gam) (rv:List Qaa) {n dims types l} {s:List Qaa×Int} {e:List Qaa} (h:loopF (fun s=>QcG n dims types l s.1 s.2) s=some e) (hD:Qjs Γ rv n dims types l e):Qks Γ rv n dims types l s.1 s.2:=by
 refine QaN (C:=fun (s:List Qaa×Int)=>Qks Γ rv n dims types l s.1 s.2) (D:=fun (e:List Qaa)=>Qjs Γ rv n dims types l e) ?_ h hD
 clear h hD s e
 rintro ⟨l2,i⟩ z_ h hI hE
 replace h:QcG n dims types l l2 i=_:=h
 unfold QcG at h
 rcases Qal h with ⟨h2,h⟩|⟨h2,h⟩
 ·obtain ⟨r,h3,h⟩:=Qae h
  obtain ⟨e0,h8,h⟩:=Qae h
  refine gn 13 [1,2,3,4,9,10,11,12] [0,1] [nL Qag.enc l,bT h2,nL e_str n.places,cC (QpT h3)] (Qn4 Γ rv h8 ?_)
  obtain ⟨l4,rfl⟩:∃ x,x=e0:=⟨_,rfl⟩
  replace h:(some (.inl (l4,(addK .i64 i 1))):Option ((List Qaa×Int)⊕(List Qaa)))=some _:=h
  exact gn 3 [1,2,3,4,9,10] [0,1] [] (hI _ (oJ h))
 ·exact gn 5 [9] [1] [nL Qag.enc l,bF h2] (hE _ (oJ h))
theorem Qjr (Γ:Gam) (rv:List Qaa) {n dims types l l1} (h:Qfg n dims types l l1=some rv):QfJ Γ rv ⟨[.c 15],⟨51,[vI 1 dims,vI 2 types,vL 3 16 l Qag.enc,vP 4 0 2,vO 9 1 2 l1 Qaa.enc],[oX 2 25 (Qai.enc n),oS 2 146 l1 Qaa.enc]⟩⟩:=by
 unfold Qfg at h
 obtain ⟨e1,h9,h⟩:=Qae h
 refine gn 5 [1,2,3,4,9,10] [0,1] [] (Qn3 Γ rv h9 ?_)
 obtain ⟨l5,rfl⟩:∃ x,x=e1:=⟨_,rfl⟩
 replace h:(some l5:Option (List Qaa))=some _:=h
 obtain rfl:=Option.some.inj h
 exact gr 2 [] [hW 4,hH (.frz 0),rp 3 (eL l5 Qaa.enc)]
theorem QpS {n dims types l} {rv:List Qaa} (h:QgJ n dims types l=some rv):AFn Tryz.prog 60 [.agg (Qai.enc n),.one (lI dims),.one (lI types),.one (lL 16 l Qag.enc)] [] (one (lL 2 rv Qaa.enc)) []:=by
 refine QaT Tryz.func60 (by kernel_rfl) (by kernel_rfl) (fun Γ=>?_)
 unfold QgJ at h
 rcases Qal h with ⟨h0,h⟩|⟨h0,h⟩
 ·obtain ⟨h1,h⟩:=Qax h
  exact gn 9 [1,2,3,4,9] [0,2] [nL Qag.enc l,bT h0,oO (Eq.refl ([(Qaa.mk 4 ByteArray.empty)].map Qaa.enc).length),aN (l:=([(Qaa.mk 4 ByteArray.empty)]:List Qaa)) Qaa.enc h1] (Qjr Γ rv h)
 ·exact gn 9 [1,2,3,4,9] [0,1] [nL Qag.enc l,bF h0,hW 1,hH (.adopt 9 2 146)] (Qjr Γ rv h)
def Qk3 (Γ:Gam) (rv:ByteArray) (cf:Cf):Prop:=Go Tryz.prog Tryz.f126 [] Γ (one (.str rv)) [] cf
def QiB (Γ:Gam) (rv:ByteArray) (n1:Int) (s0:ByteArray):Prop:=Qk3 Γ rv ⟨[.c 56,.l 56,.b 0,.c 15],⟨23,[vI 0 n1,vS 3 s0],[]⟩⟩
def Qic (Γ:Gam) (rv:ByteArray) (n2:Int) (s1:ByteArray):Prop:=Qk3 Γ rv ⟨[.c 15],⟨23,[vI 0 n2,vS 3 s1],[]⟩⟩
theorem QmQ (Γ:Gam) (rv:ByteArray) {s:Int×ByteArray} {e:Int×ByteArray} (h:loopF (fun s=>Qc8 s.1 s.2) s=some e) (hD:Qic Γ rv e.1 e.2):QiB Γ rv s.1 s.2:=by
 refine QaN (C:=fun (s:Int×ByteArray)=>QiB Γ rv s.1 s.2) (D:=fun (e:Int×ByteArray)=>Qic Γ rv e.1 e.2) ?_ h hD
 clear h hD s e
 rintro ⟨n1,s0⟩ z_ h hI hE
 replace h:Qc8 n1 s0=_:=h
 unfold Qc8 at h
 rcases Qal h with ⟨h0,h⟩|⟨h0,h⟩
 ·obtain ⟨h1,h⟩:=Qax h
  exact gn 11 [0,3] [] [bT h0,hH (.ints [(cvK .u8 (addK .i64 48 (remK n1 10)))]),oO (oA (n:=10)),oO (Eq.refl ([(cvK .u8 (addK .i64 48 (remK n1 10)))].map e_u8).length),oO (Eq.refl (([(cvK .u8 (addK .i64 48 (remK n1 10)))].map e_u8):List (List Lf))),oO (h1),oO (oA (n:=10))] (hI _ (oJ h))
 ·exact gn 5 [0,3] [] [bF h0] (hE _ (oJ h))
theorem Qfy {n} {rv:ByteArray} (h:QeB n=some rv):AFn Tryz.prog 126 [.one (lI n)] [] (one (.str rv)) []:=by
 refine QaT Tryz.func126 (by kernel_rfl) (by kernel_rfl) (fun Γ=>?_)
 unfold QeB at h
 obtain ⟨e0,h2,h⟩:=Qae h
 refine gn 7 [0,3] [] [] (QmQ Γ rv h2 ?_)
 obtain ⟨n2,s1⟩:=e0
 replace h:(chk ((Qpi [(cvK .u8 (addK .i64 48 n2))]).size+s1.size≤9223372036854775807) (some (catS (Qpi [(cvK .u8 (addK .i64 48 n2))]) s1)):Option ByteArray)=some _:=h
 obtain ⟨h3,h⟩:=Qax h
 obtain rfl:=Option.some.inj h
 exact gr 2 [] [hH (.ints [(cvK .u8 (addK .i64 48 n2))]),oO (Eq.refl ([(cvK .u8 (addK .i64 48 n2))].map e_u8).length),oO (Eq.refl (([(cvK .u8 (addK .i64 48 n2))].map e_u8):List (List Lf))),oO (h3)]
def Qfh (Γ:Gam) (rv:List Qaa) (cf:Cf):Prop:=Go Tryz.prog Tryz.f93 [] Γ (one (lL 2 rv Qaa.enc)) [] cf
def QjF (Γ:Gam) (rv:List Qaa) (orders:Int) (l:List QaW) (word:ByteArray) (turned:Bool) (l2:List Qaa) (i:Int) (x0:QaW) (r:ByteArray) (twice:Bool) (k:Int):Prop:=Qfh Γ rv ⟨[.c 1001972,.l 1001972,.b 2,.c 125247,.b 1,.c 979,.l 244,.b 0,.c 31],⟨123,[vI 0 orders,vL 1 2 l QaW.enc,vS 2 word,vB 3 turned,vO 9 0 2 l2 Qaa.enc,vI 10 i,vI 11 x0.x0,vI 12 x0.x1,vS 13 (catS (catS word QcC) r),vB 14 twice,vI 15 k],[oS 2 146 l2 Qaa.enc]⟩⟩
def QiE (Γ:Gam) (rv:List Qaa) (orders:Int) (l:List QaW) (word:ByteArray) (turned:Bool) (l2:List Qaa) (i:Int) (x0:QaW) (r:ByteArray) (twice1:Bool):Prop:=Qfh Γ rv ⟨[.c 125247,.b 1,.c 979,.l 244,.b 0,.c 31],⟨123,[vI 0 orders,vL 1 2 l QaW.enc,vS 2 word,vB 3 turned,vO 9 0 2 l2 Qaa.enc,vI 10 i,vS 13 (catS (catS word QcC) r),vB 14 twice1],[oS 2 146 l2 Qaa.enc]⟩⟩
def QjE (Γ:Gam) (rv:List Qaa) (orders:Int) (l:List QaW) (word:ByteArray) (turned:Bool) (l2:List Qaa) (i:Int):Prop:=Qfh Γ rv ⟨[.c 244,.l 244,.b 0,.c 31],⟨123,[vI 0 orders,vL 1 2 l QaW.enc,vS 2 word,vB 3 turned,vO 9 0 2 l2 Qaa.enc,vI 10 i],[oS 2 146 l2 Qaa.enc]⟩⟩
def QiD (Γ:Gam) (rv:List Qaa) (orders:Int) (l:List QaW) (word:ByteArray) (turned:Bool) (l3:List Qaa):Prop:=Qfh Γ rv ⟨[.c 31],⟨123,[vO 9 0 2 l3 Qaa.enc],[oS 2 146 l3 Qaa.enc]⟩⟩
theorem Qnu (Γ:Gam) (rv:List Qaa) {orders l word turned l2 i x0 r} {s:Bool×Int} {e:Bool} (h:loopF (fun s=>Qdi orders l word turned l2 i x0 r s.1 s.2) s=some e) (hD:QiE Γ rv orders l word turned l2 i x0 r e):QjF Γ rv orders l word turned l2 i x0 r s.1 s.2:=by
 refine QaN (C:=fun (s:Bool×Int)=>QjF Γ rv orders l word turned l2 i x0 r s.1 s.2) (D:=fun (e:Bool)=>QiE Γ rv orders l word turned l2 i x0 r e) ?_ h hD
 clear h hD s e
 rintro ⟨twice,k⟩ z_ h hI hE
 replace h:Qdi orders l word turned l2 i x0 r twice k=_:=h
 unfold Qdi at h
 rcases Qal h with ⟨h9,h⟩|⟨h9,h⟩
 ·rcases Qal h with ⟨h10,h⟩|⟨h10,h⟩
  ·exact gn 11 [0,1,2,3,9,10,11,12,13,14,15] [0] [bT h9,rp 8 (bT h10),rp 7 kF,rp 2 (bT h10),tT,tT,rp 7 kF,tT,tT,rp 7 kF,tT,tT] (hI _ (oJ h))
  ·obtain ⟨x1,h11,h⟩:=Qae h
   rcases Qal h with ⟨h12,h⟩|⟨h12,h⟩
   ·rcases Qal h with ⟨h13,h⟩|⟨h13,h⟩
    ·exact gn 11 [0,1,2,3,9,10,11,12,13,14,15] [0] [bT h9,rp 3 (bF h10),cE QaW.enc h11,bF h10,oO (zL 0),oO (lT 0 2),rp 4 (bF h10),rp 3 (bT h12),cE QaW.enc h11,bT h12,oO (zL 1),oO (lT 1 2),rp 3 (bT h12),bF h10,bT h12,bF h10,rp 2 (bT h13),rp 7 kF,rp 2 (bT h13),rp 7 kF,rp 2 (bT h13)] (hI _ (oJ h))
    ·rcases Qal h with ⟨h14,h⟩|⟨h14,h⟩
     ·rcases Qal h with ⟨h15,h⟩|⟨h15,h⟩
      ·exact gn 11 [0,1,2,3,9,10,11,12,13,14,15] [0] [bT h9,rp 3 (bF h10),cE QaW.enc h11,bF h10,oO (zL 0),oO (lT 0 2),rp 4 (bF h10),rp 3 (bT h12),cE QaW.enc h11,bT h12,oO (zL 1),oO (lT 1 2),rp 3 (bT h12),bF h10,bT h12,bF h10,rp 2 (bF h13),rp 3 (bT h14),cE QaW.enc h11,bT h14,oO (zL 0),oO (lT 0 2),rp 3 (bT h14),bF h13,bT h14,bF h13,rp 3 (bT h15),cE QaW.enc h11,bT h15,oO (zL 1),oO (lT 1 2),rp 3 (bT h15),bF h13,bT h15,bF h13] (hI _ (oJ h))
      ·exact gn 11 [0,1,2,3,9,10,11,12,13,14,15] [0] [bT h9,rp 3 (bF h10),cE QaW.enc h11,bF h10,oO (zL 0),oO (lT 0 2),rp 4 (bF h10),rp 3 (bT h12),cE QaW.enc h11,bT h12,oO (zL 1),oO (lT 1 2),rp 3 (bT h12),bF h10,bT h12,bF h10,rp 2 (bF h13),rp 3 (bT h14),cE QaW.enc h11,bT h14,oO (zL 0),oO (lT 0 2),rp 3 (bT h14),bF h13,bT h14,bF h13,rp 7 (bF h15),bF h13,bF h15,bF h13] (hI _ (oJ h))
     ·exact gn 11 [0,1,2,3,9,10,11,12,13,14,15] [0] [bT h9,rp 3 (bF h10),cE QaW.enc h11,bF h10,oO (zL 0),oO (lT 0 2),rp 4 (bF h10),rp 3 (bT h12),cE QaW.enc h11,bT h12,oO (zL 1),oO (lT 1 2),rp 3 (bT h12),bF h10,bT h12,bF h10,rp 2 (bF h13),rp 7 (bF h14),bF h13,bF h14,bF h13,rp 7 fF,bF h13,fF,bF h13] (hI _ (oJ h))
   ·rcases Qal h with ⟨h16,h⟩|⟨h16,h⟩
    ·rcases Qal h with ⟨h17,h⟩|⟨h17,h⟩
     ·exact gn 11 [0,1,2,3,9,10,11,12,13,14,15] [0] [bT h9,rp 3 (bF h10),cE QaW.enc h11,bF h10,oO (zL 0),oO (lT 0 2),rp 4 (bF h10),rp 7 (bF h12),bF h10,bF h12,bF h10,fF,fF,rp 3 (bT h16),cE QaW.enc h11,bT h16,oO (zL 0),oO (lT 0 2),rp 3 (bT h16),fF,bT h16,fF,rp 3 (bT h17),cE QaW.enc h11,bT h17,oO (zL 1),oO (lT 1 2),rp 3 (bT h17),fF,bT h17,fF] (hI _ (oJ h))
     ·exact gn 11 [0,1,2,3,9,10,11,12,13,14,15] [0] [bT h9,rp 3 (bF h10),cE QaW.enc h11,bF h10,oO (zL 0),oO (lT 0 2),rp 4 (bF h10),rp 7 (bF h12),bF h10,bF h12,bF h10,fF,fF,rp 3 (bT h16),cE QaW.enc h11,bT h16,oO (zL 0),oO (lT 0 2),rp 3 (bT h16),fF,bT h16,fF,rp 7 (bF h17),fF,bF h17,fF] (hI _ (oJ h))
    ·exact gn 11 [0,1,2,3,9,10,11,12,13,14,15] [0] [bT h9,rp 3 (bF h10),cE QaW.enc h11,bF h10,oO (zL 0),oO (lT 0 2),rp 4 (bF h10),rp 7 (bF h12),bF h10,bF h12,bF h10,fF,fF,rp 7 (bF h16),fF,bF h16,rp 11 fF] (hI _ (oJ h))
 ·exact gn 5 [0,1,2,3,9,10,13,14] [0] [bF h9] (hE _ (oJ h))
theorem Qnt (Γ:Gam) (rv:List Qaa) {orders l word turned} {s:List Qaa×Int} {e:List Qaa} (h:loopF (fun s=>Qco orders l word turned s.1 s.2) s=some e) (hD:QiD Γ rv orders l word turned e):QjE Γ rv orders l word turned s.1 s.2:=by
 refine QaN (C:=fun (s:List Qaa×Int)=>QjE Γ rv orders l word turned s.1 s.2) (D:=fun (e:List Qaa)=>QiD Γ rv orders l word turned e) ?_ h hD
 clear h hD s e
 rintro ⟨l2,i⟩ z_ h hI hE
 replace h:Qco orders l word turned l2 i=_:=h
 unfold Qco at h
 rcases Qal h with ⟨h2,h⟩|⟨h2,h⟩
 ·obtain ⟨x0,h3,h⟩:=Qae h
  obtain ⟨h4,h⟩:=Qax h
  obtain ⟨r,h5,h⟩:=Qae h
  obtain ⟨h6,h⟩:=Qax h
  rcases Qal h with ⟨h7,h⟩|⟨h7,h⟩
  ·obtain ⟨h8,h⟩:=Qax h
   exact gn 22 [0,1,2,3,9,10] [2] [nL QaW.enc l,bT h2,cE QaW.enc h3,oO (zL 0),oO (lT 0 2),cE QaW.enc h3,oO (zL 1),oO (lT 1 2),oO (h4),cC (Qfy h5),rp 15 hP,oO (h6),rp 2 (oI ((ltI x0.x0 0)=false)),oR True ((ltI x0.x0 0)=false),oI (((ltI x0.x0 0)||(geI x0.x0 orders))=false),oR True (((ltI x0.x0 0)||(geI x0.x0 orders))=false),rp 2 (oI ((((ltI x0.x0 0)||(geI x0.x0 orders))||(ltI x0.x1 0))=false)),oR True ((((ltI x0.x0 0)||(geI x0.x0 orders))||(ltI x0.x1 0))=false),rp 2 (oI (((((ltI x0.x0 0)||(geI x0.x0 orders))||(ltI x0.x1 0))||(geI x0.x1 orders))=false)),oR True (((((ltI x0.x0 0)||(geI x0.x0 orders))||(ltI x0.x1 0))||(geI x0.x1 orders))=false),bT h7,oO (Eq.refl ([(Qaa.mk 2 (catS (catS word QcC) r))].map Qaa.enc).length),aO Qaa.enc h8] (hI _ (oJ h))
  ·obtain ⟨e0,h18,h⟩:=Qae h
   refine gn 25 [0,1,2,3,9,10,11,12,13,14,15] [0] [nL QaW.enc l,bT h2,cE QaW.enc h3,oO (zL 0),oO (lT 0 2),cE QaW.enc h3,oO (zL 1),oO (lT 1 2),oO (h4),cC (Qfy h5),rp 15 hP,oO (h6),rp 2 (oI ((ltI x0.x0 0)=false)),oR True ((ltI x0.x0 0)=false),oI (((ltI x0.x0 0)||(geI x0.x0 orders))=false),oR True (((ltI x0.x0 0)||(geI x0.x0 orders))=false),rp 2 (oI ((((ltI x0.x0 0)||(geI x0.x0 orders))||(ltI x0.x1 0))=false)),oR True ((((ltI x0.x0 0)||(geI x0.x0 orders))||(ltI x0.x1 0))=false),rp 2 (oI (((((ltI x0.x0 0)||(geI x0.x0 orders))||(ltI x0.x1 0))||(geI x0.x1 orders))=false)),oR True (((((ltI x0.x0 0)||(geI x0.x0 orders))||(ltI x0.x1 0))||(geI x0.x1 orders))=false),bF h7] (Qnu Γ rv h18 ?_)
   obtain ⟨twice1,rfl⟩:∃ x,x=e0:=⟨_,rfl⟩
   replace h:(br twice1 (chk (okN (l2++[(Qaa.mk 6 (catS (catS word QcC) r))]).length 24) (some (.inl ((l2++[(Qaa.mk 6 (catS (catS word QcC) r))]),(addK .i64 i 1))))) (some (.inl (l2,(addK .i64 i 1)))):Option ((List Qaa×Int)⊕(List Qaa)))=some _:=h
   rcases Qal h with ⟨h19,h⟩|⟨h19,h⟩
   ·obtain ⟨h20,h⟩:=Qax h
    exact gn 7 [0,1,2,3,9,10] [2] [bT h19,oO (Eq.refl ([(Qaa.mk 6 (catS (catS word QcC) r))].map Qaa.enc).length),aO Qaa.enc h20] (hI _ (oJ h))
   ·exact gn 7 [0,1,2,3,9,10] [0] [bF h19] (hI _ (oJ h))
 ·exact gn 5 [9] [0] [nL QaW.enc l,bF h2] (hE _ (oJ h))
theorem QiC (Γ:Gam) (rv:List Qaa) {orders l word turned l1} (h:QeO orders l word turned l1=some rv):Qfh Γ rv ⟨[.c 15],⟨123,[vI 0 orders,vL 1 2 l QaW.enc,vS 2 word,vB 3 turned,vO 9 0 2 l1 Qaa.enc],[oS 2 146 l1 Qaa.enc]⟩⟩:=by
 unfold QeO at h
 obtain ⟨e1,h21,h⟩:=Qae h
 refine gn 5 [0,1,2,3,9,10] [0] [] (Qnt Γ rv h21 ?_)
 obtain ⟨l3,rfl⟩:∃ x,x=e1:=⟨_,rfl⟩
 replace h:(some l3:Option (List Qaa))=some _:=h
 obtain rfl:=Option.some.inj h
 exact gr 2 [] [hW 4,hH (.frz 0),rp 3 (eL l3 Qaa.enc)]
theorem Qpt {orders l word turned} {rv:List Qaa} (h:Qgb orders l word turned=some rv):AFn Tryz.prog 93 [.one (lI orders),.one (lL 2 l QaW.enc),.one (.str word),.one (.bool turned)] [] (one (lL 2 rv Qaa.enc)) []:=by
 refine QaT Tryz.func93 (by kernel_rfl) (by kernel_rfl) (fun Γ=>?_)
 unfold Qgb at h
 rcases Qal h with ⟨h0,h⟩|⟨h0,h⟩
 ·obtain ⟨h1,h⟩:=Qax h
  exact gn 9 [0,1,2,3,9] [1] [nL QaW.enc l,bT h0,oO (Eq.refl ([(Qaa.mk 4 word)].map Qaa.enc).length),aN (l:=([(Qaa.mk 4 word)]:List Qaa)) Qaa.enc h1] (QiC Γ rv h)
 ·exact gn 9 [0,1,2,3,9] [0] [nL QaW.enc l,bF h0,hW 1,hH (.adopt 9 2 146)] (QiC Γ rv h)
def Qde (Γ:Gam) (rv:List Qaa) (cf:Cf):Prop:=Go Tryz.prog Tryz.f93 [] Γ (one (lO 0 2 rv Qaa.enc)) [oS 2 146 rv Qaa.enc] cf
def Qhc (Γ:Gam) (rv:List Qaa) (orders:Int) (l:List QaW) (word:ByteArray) (turned:Bool) (l2:List Qaa) (i:Int) (x0:QaW) (r:ByteArray) (twice:Bool) (k:Int):Prop:=Qde Γ rv ⟨[.c 1001972,.l 1001972,.b 2,.c 125247,.b 1,.c 979,.l 244,.b 0,.c 31],⟨123,[vI 0 orders,vL 1 2 l QaW.enc,vS 2 word,vB 3 turned,vO 9 0 2 l2 Qaa.enc,vI 10 i,vI 11 x0.x0,vI 12 x0.x1,vS 13 (catS (catS word QcC) r),vB 14 twice,vI 15 k],[oS 2 146 l2 Qaa.enc]⟩⟩
def Qg5 (Γ:Gam) (rv:List Qaa) (orders:Int) (l:List QaW) (word:ByteArray) (turned:Bool) (l2:List Qaa) (i:Int) (x0:QaW) (r:ByteArray) (twice1:Bool):Prop:=Qde Γ rv ⟨[.c 125247,.b 1,.c 979,.l 244,.b 0,.c 31],⟨123,[vI 0 orders,vL 1 2 l QaW.enc,vS 2 word,vB 3 turned,vO 9 0 2 l2 Qaa.enc,vI 10 i,vS 13 (catS (catS word QcC) r),vB 14 twice1],[oS 2 146 l2 Qaa.enc]⟩⟩
def Qhb (Γ:Gam) (rv:List Qaa) (orders:Int) (l:List QaW) (word:ByteArray) (turned:Bool) (l2:List Qaa) (i:Int):Prop:=Qde Γ rv ⟨[.c 244,.l 244,.b 0,.c 31],⟨123,[vI 0 orders,vL 1 2 l QaW.enc,vS 2 word,vB 3 turned,vO 9 0 2 l2 Qaa.enc,vI 10 i],[oS 2 146 l2 Qaa.enc]⟩⟩
def Qg4 (Γ:Gam) (rv:List Qaa) (orders:Int) (l:List QaW) (word:ByteArray) (turned:Bool) (l3:List Qaa):Prop:=Qde Γ rv ⟨[.c 31],⟨123,[vO 9 0 2 l3 Qaa.enc],[oS 2 146 l3 Qaa.enc]⟩⟩
theorem Qlr (Γ:Gam) (rv:List Qaa) {orders l word turned l2 i x0 r} {s:Bool×Int} {e:Bool} (h:loopF (fun s=>Qeh orders l word turned l2 i x0 r s.1 s.2) s=some e) (hD:Qg5 Γ rv orders l word turned l2 i x0 r e):Qhc Γ rv orders l word turned l2 i x0 r s.1 s.2:=by
 refine QaN (C:=fun (s:Bool×Int)=>Qhc Γ rv orders l word turned l2 i x0 r s.1 s.2) (D:=fun (e:Bool)=>Qg5 Γ rv orders l word turned l2 i x0 r e) ?_ h hD
 clear h hD s e
 rintro ⟨twice,k⟩ z_ h hI hE
 replace h:Qeh orders l word turned l2 i x0 r twice k=_:=h
 unfold Qeh at h
 rcases Qal h with ⟨h9,h⟩|⟨h9,h⟩
 ·rcases Qal h with ⟨h10,h⟩|⟨h10,h⟩
  ·exact gn 11 [0,1,2,3,9,10,11,12,13,14,15] [0] [bT h9,rp 8 (bT h10),rp 7 kF,rp 2 (bT h10),tT,tT,rp 7 kF,tT,tT,rp 7 kF,tT,tT] (hI _ (oJ h))
  ·obtain ⟨x1,h11,h⟩:=Qae h
   rcases Qal h with ⟨h12,h⟩|⟨h12,h⟩
   ·rcases Qal h with ⟨h13,h⟩|⟨h13,h⟩
    ·exact gn 11 [0,1,2,3,9,10,11,12,13,14,15] [0] [bT h9,rp 3 (bF h10),cE QaW.enc h11,bF h10,oO (zL 0),oO (lT 0 2),rp 4 (bF h10),rp 3 (bT h12),cE QaW.enc h11,bT h12,oO (zL 1),oO (lT 1 2),rp 3 (bT h12),bF h10,bT h12,bF h10,rp 2 (bT h13),rp 7 kF,rp 2 (bT h13),rp 7 kF,rp 2 (bT h13)] (hI _ (oJ h))
    ·rcases Qal h with ⟨h14,h⟩|⟨h14,h⟩
     ·rcases Qal h with ⟨h15,h⟩|⟨h15,h⟩
      ·exact gn 11 [0,1,2,3,9,10,11,12,13,14,15] [0] [bT h9,rp 3 (bF h10),cE QaW.enc h11,bF h10,oO (zL 0),oO (lT 0 2),rp 4 (bF h10),rp 3 (bT h12),cE QaW.enc h11,bT h12,oO (zL 1),oO (lT 1 2),rp 3 (bT h12),bF h10,bT h12,bF h10,rp 2 (bF h13),rp 3 (bT h14),cE QaW.enc h11,bT h14,oO (zL 0),oO (lT 0 2),rp 3 (bT h14),bF h13,bT h14,bF h13,rp 3 (bT h15),cE QaW.enc h11,bT h15,oO (zL 1),oO (lT 1 2),rp 3 (bT h15),bF h13,bT h15,bF h13] (hI _ (oJ h))
      ·exact gn 11 [0,1,2,3,9,10,11,12,13,14,15] [0] [bT h9,rp 3 (bF h10),cE QaW.enc h11,bF h10,oO (zL 0),oO (lT 0 2),rp 4 (bF h10),rp 3 (bT h12),cE QaW.enc h11,bT h12,oO (zL 1),oO (lT 1 2),rp 3 (bT h12),bF h10,bT h12,bF h10,rp 2 (bF h13),rp 3 (bT h14),cE QaW.enc h11,bT h14,oO (zL 0),oO (lT 0 2),rp 3 (bT h14),bF h13,bT h14,bF h13,rp 7 (bF h15),bF h13,bF h15,bF h13] (hI _ (oJ h))
     ·exact gn 11 [0,1,2,3,9,10,11,12,13,14,15] [0] [bT h9,rp 3 (bF h10),cE QaW.enc h11,bF h10,oO (zL 0),oO (lT 0 2),rp 4 (bF h10),rp 3 (bT h12),cE QaW.enc h11,bT h12,oO (zL 1),oO (lT 1 2),rp 3 (bT h12),bF h10,bT h12,bF h10,rp 2 (bF h13),rp 7 (bF h14),bF h13,bF h14,bF h13,rp 7 fF,bF h13,fF,bF h13] (hI _ (oJ h))
   ·rcases Qal h with ⟨h16,h⟩|⟨h16,h⟩
    ·rcases Qal h with ⟨h17,h⟩|⟨h17,h⟩
     ·exact gn 11 [0,1,2,3,9,10,11,12,13,14,15] [0] [bT h9,rp 3 (bF h10),cE QaW.enc h11,bF h10,oO (zL 0),oO (lT 0 2),rp 4 (bF h10),rp 7 (bF h12),bF h10,bF h12,bF h10,fF,fF,rp 3 (bT h16),cE QaW.enc h11,bT h16,oO (zL 0),oO (lT 0 2),rp 3 (bT h16),fF,bT h16,fF,rp 3 (bT h17),cE QaW.enc h11,bT h17,oO (zL 1),oO (lT 1 2),rp 3 (bT h17),fF,bT h17,fF] (hI _ (oJ h))
     ·exact gn 11 [0,1,2,3,9,10,11,12,13,14,15] [0] [bT h9,rp 3 (bF h10),cE QaW.enc h11,bF h10,oO (zL 0),oO (lT 0 2),rp 4 (bF h10),rp 7 (bF h12),bF h10,bF h12,bF h10,fF,fF,rp 3 (bT h16),cE QaW.enc h11,bT h16,oO (zL 0),oO (lT 0 2),rp 3 (bT h16),fF,bT h16,fF,rp 7 (bF h17),fF,bF h17,fF] (hI _ (oJ h))
    ·exact gn 11 [0,1,2,3,9,10,11,12,13,14,15] [0] [bT h9,rp 3 (bF h10),cE QaW.enc h11,bF h10,oO (zL 0),oO (lT 0 2),rp 4 (bF h10),rp 7 (bF h12),bF h10,bF h12,bF h10,fF,fF,rp 7 (bF h16),fF,bF h16,rp 11 fF] (hI _ (oJ h))
 ·exact gn 5 [0,1,2,3,9,10,13,14] [0] [bF h9] (hE _ (oJ h))
theorem Qlq (Γ:Gam) (rv:List Qaa) {orders l word turned} {s:List Qaa×Int} {e:List Qaa} (h:loopF (fun s=>Qeg orders l word turned s.1 s.2) s=some e) (hD:Qg4 Γ rv orders l word turned e):Qhb Γ rv orders l word turned s.1 s.2:=by
 refine QaN (C:=fun (s:List Qaa×Int)=>Qhb Γ rv orders l word turned s.1 s.2) (D:=fun (e:List Qaa)=>Qg4 Γ rv orders l word turned e) ?_ h hD
 clear h hD s e
 rintro ⟨l2,i⟩ z_ h hI hE
 replace h:Qeg orders l word turned l2 i=_:=h
 unfold Qeg at h
 rcases Qal h with ⟨h2,h⟩|⟨h2,h⟩
 ·obtain ⟨x0,h3,h⟩:=Qae h
  obtain ⟨h4,h⟩:=Qax h
  obtain ⟨r,h5,h⟩:=Qae h
  obtain ⟨h6,h⟩:=Qax h
  rcases Qal h with ⟨h7,h⟩|⟨h7,h⟩
  ·obtain ⟨h8,h⟩:=Qax h
   exact gn 22 [0,1,2,3,9,10] [2] [nL QaW.enc l,bT h2,cE QaW.enc h3,oO (zL 0),oO (lT 0 2),cE QaW.enc h3,oO (zL 1),oO (lT 1 2),oO (h4),cC (Qfy h5),rp 15 hP,oO (h6),rp 2 (oI ((ltI x0.x0 0)=false)),oR True ((ltI x0.x0 0)=false),oI (((ltI x0.x0 0)||(geI x0.x0 orders))=false),oR True (((ltI x0.x0 0)||(geI x0.x0 orders))=false),rp 2 (oI ((((ltI x0.x0 0)||(geI x0.x0 orders))||(ltI x0.x1 0))=false)),oR True ((((ltI x0.x0 0)||(geI x0.x0 orders))||(ltI x0.x1 0))=false),rp 2 (oI (((((ltI x0.x0 0)||(geI x0.x0 orders))||(ltI x0.x1 0))||(geI x0.x1 orders))=false)),oR True (((((ltI x0.x0 0)||(geI x0.x0 orders))||(ltI x0.x1 0))||(geI x0.x1 orders))=false),bT h7,oO (Eq.refl ([(Qaa.mk 2 (catS (catS word QcC) r))].map Qaa.enc).length),aO Qaa.enc h8] (hI _ (oJ h))
  ·obtain ⟨e0,h18,h⟩:=Qae h
   refine gn 25 [0,1,2,3,9,10,11,12,13,14,15] [0] [nL QaW.enc l,bT h2,cE QaW.enc h3,oO (zL 0),oO (lT 0 2),cE QaW.enc h3,oO (zL 1),oO (lT 1 2),oO (h4),cC (Qfy h5),rp 15 hP,oO (h6),rp 2 (oI ((ltI x0.x0 0)=false)),oR True ((ltI x0.x0 0)=false),oI (((ltI x0.x0 0)||(geI x0.x0 orders))=false),oR True (((ltI x0.x0 0)||(geI x0.x0 orders))=false),rp 2 (oI ((((ltI x0.x0 0)||(geI x0.x0 orders))||(ltI x0.x1 0))=false)),oR True ((((ltI x0.x0 0)||(geI x0.x0 orders))||(ltI x0.x1 0))=false),rp 2 (oI (((((ltI x0.x0 0)||(geI x0.x0 orders))||(ltI x0.x1 0))||(geI x0.x1 orders))=false)),oR True (((((ltI x0.x0 0)||(geI x0.x0 orders))||(ltI x0.x1 0))||(geI x0.x1 orders))=false),bF h7] (Qlr Γ rv h18 ?_)
   obtain ⟨twice1,rfl⟩:∃ x,x=e0:=⟨_,rfl⟩
   replace h:(br twice1 (chk (okN (l2++[(Qaa.mk 6 (catS (catS word QcC) r))]).length 24) (some (.inl ((l2++[(Qaa.mk 6 (catS (catS word QcC) r))]),(addK .i64 i 1))))) (some (.inl (l2,(addK .i64 i 1)))):Option ((List Qaa×Int)⊕(List Qaa)))=some _:=h
   rcases Qal h with ⟨h19,h⟩|⟨h19,h⟩
   ·obtain ⟨h20,h⟩:=Qax h
    exact gn 7 [0,1,2,3,9,10] [2] [bT h19,oO (Eq.refl ([(Qaa.mk 6 (catS (catS word QcC) r))].map Qaa.enc).length),aO Qaa.enc h20] (hI _ (oJ h))
   ·exact gn 7 [0,1,2,3,9,10] [0] [bF h19] (hI _ (oJ h))
 ·exact gn 5 [9] [0] [nL QaW.enc l,bF h2] (hE _ (oJ h))
theorem Qg3 (Γ:Gam) (rv:List Qaa) {orders l word turned l1} (h:Qef orders l word turned l1=some rv):Qde Γ rv ⟨[.c 15],⟨123,[vI 0 orders,vL 1 2 l QaW.enc,vS 2 word,vB 3 turned,vO 9 0 2 l1 Qaa.enc],[oS 2 146 l1 Qaa.enc]⟩⟩:=by
 unfold Qef at h
 obtain ⟨e1,h21,h⟩:=Qae h
 refine gn 5 [0,1,2,3,9,10] [0] [] (Qlq Γ rv h21 ?_)
 obtain ⟨l3,rfl⟩:∃ x,x=e1:=⟨_,rfl⟩
 replace h:(some l3:Option (List Qaa))=some _:=h
 obtain rfl:=Option.some.inj h
 exact gr 2 [0] []
theorem QmR {orders l word turned} {rv:List Qaa} (h:Qg8 orders l word turned=some rv):AFn Tryz.prog 93 [.one (lI orders),.one (lL 2 l QaW.enc),.one (.str word),.one (.bool turned)] [] (one (lO 0 2 rv Qaa.enc)) [oS 2 146 rv Qaa.enc]:=by
 refine QaT Tryz.func93 (by kernel_rfl) (by kernel_rfl) (fun Γ=>?_)
 unfold Qg8 at h
 rcases Qal h with ⟨h0,h⟩|⟨h0,h⟩
 ·obtain ⟨h1,h⟩:=Qax h
  exact gn 9 [0,1,2,3,9] [1] [nL QaW.enc l,bT h0,oO (Eq.refl ([(Qaa.mk 4 word)].map Qaa.enc).length),aN (l:=([(Qaa.mk 4 word)]:List Qaa)) Qaa.enc h1] (Qg3 Γ rv h)
 ·exact gn 9 [0,1,2,3,9] [0] [nL QaW.enc l,bF h0,hW 1,hH (.adopt 9 2 146)] (Qg3 Γ rv h)
theorem QpU {orders apart before} {rv:List Qaa} (h:QgL orders apart before=some rv):AFn Tryz.prog 62 [.one (lI orders),.one (lL 2 apart QaW.enc),.one (lL 2 before QaW.enc)] [] (one (lL 2 rv Qaa.enc)) []:=by
 refine QaT Tryz.func62 (by kernel_rfl) (by kernel_rfl) (fun Γ=>?_)
 unfold QgL at h
 obtain ⟨r,h0,h⟩:=Qae h
 obtain ⟨r1,h1,h⟩:=Qae h
 obtain ⟨h2,h⟩:=Qax h
 obtain rfl:=Option.some.inj h
 exact gr 6 [] [cC (QmR h0),cC (Qpt h1),aO Qaa.enc h2,hW 1,hH (.frz 1),rp 2 (oO (Eq.refl ((r++r1).map Qaa.enc).length))]
def QgO (Γ:Gam) (rv:List Qaa) (cf:Cf):Prop:=Go Tryz.prog Tryz.f57 [] Γ (one (lO 0 2 rv Qaa.enc)) [oS 2 146 rv Qaa.enc] cf
def QfL (Γ:Gam) (rv:List Qaa) (word:ByteArray) (l:List Qaa) (l1:List Qaa) (i:Int):Prop:=QgO Γ rv ⟨[.c 116,.l 116,.b 0,.c 15],⟨40,[vS 0 word,vL 1 2 l Qaa.enc,vO 5 0 2 l1 Qaa.enc,vI 6 i],[oS 2 146 l1 Qaa.enc]⟩⟩
def Qfr (Γ:Gam) (rv:List Qaa) (word:ByteArray) (l:List Qaa) (l2:List Qaa):Prop:=QgO Γ rv ⟨[.c 15],⟨40,[vO 5 0 2 l2 Qaa.enc],[oS 2 146 l2 Qaa.enc]⟩⟩
theorem Qhd (Γ:Gam) (rv:List Qaa) {word l l1 i at_} {x:(List Qaa×Int)⊕(List Qaa)} (h:QeT word l l1 i at_=some x) (hI:∀ s:List Qaa×Int,x=.inl s→QfL Γ rv word l s.1 s.2) (hE:∀ e:List Qaa,x=.inr e→Qfr Γ rv word l e):QgO Γ rv ⟨[.c 3731,.b 1,.c 467,.l 116,.b 0,.c 15],⟨40,[vS 0 word,vL 1 2 l Qaa.enc,vO 5 0 2 l1 Qaa.enc,vI 6 i,vS 7 at_],[oS 2 146 l1 Qaa.enc]⟩⟩:=by
 unfold QeT at h
 obtain ⟨x1,h5,h⟩:=Qae h
 obtain ⟨h6,h⟩:=Qax h
 exact gn 4 [0,1,5,6] [2] [cE Qaa.enc h5,oO (Eq.refl ([(Qaa.mk x1.err at_)].map Qaa.enc).length),aO Qaa.enc h6] (hI _ (oJ h))
theorem QlY (Γ:Gam) (rv:List Qaa) {word l} {s:List Qaa×Int} {e:List Qaa} (h:loopF (fun s=>QeU word l s.1 s.2) s=some e) (hD:Qfr Γ rv word l e):QfL Γ rv word l s.1 s.2:=by
 refine QaN (C:=fun (s:List Qaa×Int)=>QfL Γ rv word l s.1 s.2) (D:=fun (e:List Qaa)=>Qfr Γ rv word l e) ?_ h hD
 clear h hD s e
 rintro ⟨l1,i⟩ z_ h hI hE
 replace h:QeU word l l1 i=_:=h
 unfold QeU at h
 rcases Qal h with ⟨h0,h⟩|⟨h0,h⟩
 ·obtain ⟨x0,h1,h⟩:=Qae h
  rcases Qal h with ⟨h2,h⟩|⟨h2,h⟩
  ·exact gn 14 [0,1,5,6,7] [0] [nL Qaa.enc l,bT h0,cE Qaa.enc h1,nF h2] (Qhd Γ rv h hI hE)
  ·obtain ⟨h3,h⟩:=Qax h
   obtain ⟨h4,h⟩:=Qax h
   exact gn 14 [0,1,5,6,7] [0] [nL Qaa.enc l,bT h0,cE Qaa.enc h1,nT h2,oO (h3),cE Qaa.enc h1,oO (h4)] (Qhd Γ rv h hI hE)
 ·exact gn 5 [5] [0] [nL Qaa.enc l,bF h0] (hE _ (oJ h))
theorem Qnv {word l} {rv:List Qaa} (h:Qf0 word l=some rv):AFn Tryz.prog 57 [.one (.str word),.one (lL 2 l Qaa.enc)] [] (one (lO 0 2 rv Qaa.enc)) [oS 2 146 rv Qaa.enc]:=by
 refine QaT Tryz.func57 (by kernel_rfl) (by kernel_rfl) (fun Γ=>?_)
 unfold Qf0 at h
 obtain ⟨e0,h7,h⟩:=Qae h
 refine gn 9 [0,1,5,6] [0] [hW 12,hH (.adopt 5 2 146)] (QlY Γ rv h7 ?_)
 obtain ⟨l2,rfl⟩:∃ x,x=e0:=⟨_,rfl⟩
 replace h:(some l2:Option (List Qaa))=some _:=h
 obtain rfl:=Option.some.inj h
 exact gr 2 [0] []
theorem QpV {x0} {rv:List Qaa} (h:QgM x0=some rv):AFn Tryz.prog 23 [.agg (Qac.enc x0)] [] (one (lL 2 rv Qaa.enc)) []:=by
 refine QaT Tryz.func23 (by kernel_rfl) (by kernel_rfl) (fun Γ=>?_)
 unfold QgM at h
 obtain ⟨r,h0,h⟩:=Qae h
 obtain ⟨r1,h1,h⟩:=Qae h
 obtain ⟨r2,h2,h⟩:=Qae h
 obtain ⟨r3,h3,h⟩:=Qae h
 obtain ⟨h4,h⟩:=Qax h
 obtain ⟨r4,h5,h⟩:=Qae h
 obtain ⟨r5,h6,h⟩:=Qae h
 obtain ⟨r6,h7,h⟩:=Qae h
 obtain ⟨h8,h⟩:=Qax h
 obtain ⟨r7,h9,h⟩:=Qae h
 obtain ⟨r8,h10,h⟩:=Qae h
 obtain ⟨h11,h⟩:=Qax h
 obtain rfl:=Option.some.inj h
 exact gr 12 [] [cC (QpP h0),cC (Qnv h1),cC (QpQ h2),cC (Qid h3),aO Qaa.enc h4,hH (.draw 13 []),cC (QfI h5),nL Qaj.enc x0.types,cC (QpS h6),cC (Qid h7),aO Qaa.enc h8,nL Qag.enc x0.orders,cC (QpU h9),cC (Qid h10),aO Qaa.enc h11,hW 5,hH (.frz 4),rp 4 (oO (Eq.refl ((((r1++r3)++r6)++r8).map Qaa.enc).length))]
theorem Qa3 {x0} {rv:Bool} (h:QgD x0=some rv):AFn Tryz.prog 8 [.agg (Qac.enc x0)] [] (one (.bool rv)) []:=by
 refine QaT Tryz.func8 (by kernel_rfl) (by kernel_rfl) (fun Γ=>?_)
 unfold QgD at h
 obtain ⟨r,h0,h⟩:=Qae h
 obtain rfl:=Option.some.inj h
 exact gr 4 [] [cC (QpV h0),nL Qaa.enc r]
theorem QlD {r} {rv:Bool} (h:Qh4 r=some rv):AFn Tryz.prog 9 [.agg (Qad.enc r)] [] (one (.bool rv)) []:=by
 refine QaT Tryz.func9 (by kernel_rfl) (by kernel_rfl) (fun Γ=>?_)
 unfold Qh4 at h
 obtain rfl:=Option.some.inj h
 exact gr 4 [] [nL Qab.enc r.visits,hP,hP,hP,rp 2 (oI ((leI (lenI r.visits) 6)=false)),nL Qab.enc r.visits,hP,hP,oI ((leI (lenI r.visits) 6)=false),oR True ((leI (lenI r.visits) 6)=false)]
theorem QgZ {l at_} {rv:Bool} (h:QkM l at_=some rv):AFn Tryz.prog 47 [.one (lL 16 l Qag.enc),.one (lI at_)] [] (one (.bool rv)) []:=by
 refine QaT Tryz.func47 (by kernel_rfl) (by kernel_rfl) (fun Γ=>?_)
 unfold QkM at h
 obtain rfl:=Option.some.inj h
 exact gr 4 [] [hP,hP,hP,oI ((geI at_ 0)=true),nL Qag.enc l,hP,hP,rp 2 (oI ((geI at_ 0)=true)),oR True ((geI at_ 0)=true)]
def QsZ (Γ:Gam) (rv:List Qab) (cf:Cf):Prop:=Go Tryz.prog Tryz.f16 [] Γ (one (lL 2 rv Qab.enc)) [] cf
theorem Qmu (Γ:Gam) (rv:List Qab) {l at_ l1} (h:Qgg l at_ l1=some rv):QsZ Γ rv ⟨[.c 31],⟨35,[vL 0 16 l Qag.enc,vI 1 at_,vO 5 0 2 l1 Qab.enc],[oS 2 52 l1 Qab.enc]⟩⟩:=by
 unfold Qgg at h
 obtain ⟨x1,h5,h⟩:=Qae h
 rcases Qal h with ⟨h6,h⟩|⟨h6,h⟩
 ·obtain ⟨h7,h⟩:=Qax h
  obtain rfl:=Option.some.inj h
  exact gr 7 [] [cE Qag.enc h5,bT h6,oO (Eq.refl ([(Qab.mk at_ true)].map Qab.enc).length),aO Qab.enc h7,hW 5,hH (.frz 2),rp 4 (oO (Eq.refl ((l1++[(Qab.mk at_ true)]).map Qab.enc).length))]
 ·obtain rfl:=Option.some.inj h
  exact gr 7 [] [cE Qag.enc h5,bF h6,hW 5,hH (.frz 0),rp 3 (eL l1 Qab.enc)]
theorem Ql2 {l at_} {rv:List Qab} (h:QiS l at_=some rv):AFn Tryz.prog 16 [.one (lL 16 l Qag.enc),.one (lI at_)] [] (one (lL 2 rv Qab.enc)) []:=by
 refine QaT Tryz.func16 (by kernel_rfl) (by kernel_rfl) (fun Γ=>?_)
 unfold QiS at h
 obtain ⟨r,h0,h⟩:=Qae h
 rcases Qal h with ⟨h1,h⟩|⟨h1,h⟩
 ·obtain ⟨x0,h2,h⟩:=Qae h
  rcases Qal h with ⟨h3,h⟩|⟨h3,h⟩
  ·obtain ⟨h4,h⟩:=Qax h
   exact gn 14 [0,1,5] [1] [cC (QgZ h0),nF h1,cE Qag.enc h2,bT h3,oO (Eq.refl ([(Qab.mk at_ false)].map Qab.enc).length),aN (l:=([(Qab.mk at_ false)]:List Qab)) Qab.enc h4] (Qmu Γ rv h)
  ·exact gn 14 [0,1,5] [0] [cC (QgZ h0),nF h1,cE Qag.enc h2,bF h3,hW 1,hH (.adopt 5 2 52)] (Qmu Γ rv h)
 ·obtain rfl:=Option.some.inj h
  exact gr 10 [] [cC (QgZ h0),nT h1,hW 3,hH (.nilS 4 0 2)]
def Qes (Γ:Gam) (rv:Int) (cf:Cf):Prop:=Go Tryz.prog Tryz.f162 [] Γ (one (lI rv)) [] cf
def QdL (Γ:Gam) (rv:Int) (s0:List Qab) (v:Qab) (v1:Int):Prop:=Qes Γ rv ⟨[.c 52,.l 52,.b 0,.c 7],⟨19,[vL 0 2 s0 Qab.enc,vP 3 0 2,vI 7 (lenI s0),vI 8 v1],[oX 2 52 (Qab.enc v)]⟩⟩
def Qdp (Γ:Gam) (rv:Int) (s0:List Qab) (v:Qab):Prop:=Qes Γ rv ⟨[.c 7],⟨19,[],[]⟩⟩
theorem Qgz (Γ:Gam) (rv:Int) {s0 v} {s:Int} {e:(Unit)⊕(Int)} (h:loopF (fun s=>QaL s0 v s) s=some e) (hD:sel e (fun e=>Qdp Γ rv s0 v) (fun e=>e=rv)):QdL Γ rv s0 v s:=by
 refine QaN (C:=fun (s:Int)=>QdL Γ rv s0 v s) (D:=fun (e:(Unit)⊕(Int))=>sel e (fun e=>Qdp Γ rv s0 v) (fun e=>e=rv)) ?_ h hD
 clear h hD s e
 intro v1 z_ h hI hE
 replace h:QaL s0 v v1=_:=h
 unfold QaL at h
 rcases Qal h with ⟨h0,h⟩|⟨h0,h⟩
 ·obtain ⟨x0,h1,h⟩:=Qae h
  rcases Qal h with ⟨h2,h⟩|⟨h2,h⟩
  ·obtain rfl:=(hE _ (oJ h):_=rv)
   exact gr 14 [] [bT h0,hH (.draw 6 []),cE Qab.enc h1,bT h2]
  ·exact gn 16 [0,3,7,8] [0] [bT h0,hH (.draw 6 []),cE Qab.enc h1,bF h2] (hI _ (oJ h))
 ·exact gn 5 [] [] [bF h0] (hE _ (oJ h))
theorem Qec {s0 v} {rv:Int} (h:Qbo s0 v=some rv):AFn Tryz.prog 162 [.one (lL 2 s0 Qab.enc),.agg (Qab.enc v)] [] (one (lI rv)) []:=by
 refine QaT Tryz.func162 (by kernel_rfl) (by kernel_rfl) (fun Γ=>?_)
 unfold Qbo at h
 obtain ⟨e0,h3,h⟩:=Qae h
 refine gn 7 [0,3,7,8] [0] [nL Qab.enc s0] (Qgz Γ rv h3 ?_)
 rcases e0 with e0|e0
 ·replace h:(some (-1):Option Int)=some _:=h
  obtain rfl:=Option.some.inj h
  exact gr 2 [] []
 ·obtain ⟨r,rfl⟩:∃ x,x=e0:=⟨_,rfl⟩
  replace h:(some r:Option Int)=some _:=h
  exact Option.some.inj h
theorem Qhr {l v} {rv:Int} (h:Qf4 l v=some rv):AFn Tryz.prog 134 [.one (lL 2 l Qab.enc),.agg (Qab.enc v)] [] (one (lI rv)) []:=by
 refine QaT Tryz.func134 (by kernel_rfl) (by kernel_rfl) (fun Γ=>?_)
 unfold Qf4 at h
 obtain ⟨r,h0,h⟩:=Qae h
 obtain rfl:=Option.some.inj h
 exact gr 4 [] [cC (Qec h0)]
def Qop (Γ:Gam) (rv:Bool) (cf:Cf):Prop:=Go Tryz.prog Tryz.f105 [] Γ (one (.bool rv)) [] cf
def QlS (Γ:Gam) (rv:Bool) (l:List Qab) (v:Int):Prop:=Qop Γ rv ⟨[.c 52,.l 52,.b 0,.c 7],⟨19,[vL 0 2 l Qab.enc,vL 5 2 l Qab.enc,vI 6 (lenI l),vI 7 v],[]⟩⟩
def Qlj (Γ:Gam) (rv:Bool) (l:List Qab):Prop:=Qop Γ rv ⟨[.c 7],⟨19,[],[]⟩⟩
theorem Qpx (Γ:Gam) (rv:Bool) {l} {s:Int} {e:(Unit)⊕(Bool)} (h:loopF (fun s=>QcO l s) s=some e) (hD:sel e (fun e=>Qlj Γ rv l) (fun e=>e=rv)):QlS Γ rv l s:=by
 refine QaN (C:=fun (s:Int)=>QlS Γ rv l s) (D:=fun (e:(Unit)⊕(Bool))=>sel e (fun e=>Qlj Γ rv l) (fun e=>e=rv)) ?_ h hD
 clear h hD s e
 intro v z_ h hI hE
 replace h:QcO l v=_:=h
 unfold QcO at h
 rcases Qal h with ⟨h0,h⟩|⟨h0,h⟩
 ·obtain ⟨x0,h1,h⟩:=Qae h
  obtain ⟨l1,h2,h⟩:=Qae h
  obtain ⟨r,h3,h⟩:=Qae h
  rcases Qal h with ⟨h4,h⟩|⟨h4,h⟩
  ·obtain rfl:=(hE _ (oJ h):_=rv)
   exact gr 14 [] [bT h0,cE Qab.enc h1,hH (.draw 6 []),hH (.rows (l1.map Qab.enc)),oO (sl1 h2),oO (sl2 h2),oO (sl3 Qab.enc h2),oO (Int.le_refl v),oO (sl3 Qab.enc h2),oO (sl6 Qab.enc h2),cC (Qhr h3),bT h4]
  ·exact gn 16 [0,5,6,7] [] [bT h0,cE Qab.enc h1,hH (.draw 6 []),hH (.rows (l1.map Qab.enc)),oO (sl1 h2),oO (sl2 h2),oO (sl3 Qab.enc h2),oO (Int.le_refl v),oO (sl3 Qab.enc h2),oO (sl6 Qab.enc h2),cC (Qhr h3),bF h4] (hI _ (oJ h))
 ·exact gn 5 [] [] [bF h0] (hE _ (oJ h))
theorem Qj9 {l} {rv:Bool} (h:Qin l=some rv):AFn Tryz.prog 105 [.one (lL 2 l Qab.enc)] [] (one (.bool rv)) []:=by
 refine QaT Tryz.func105 (by kernel_rfl) (by kernel_rfl) (fun Γ=>?_)
 unfold Qin at h
 obtain ⟨e0,h5,h⟩:=Qae h
 refine gn 7 [0,5,6,7] [] [nL Qab.enc l] (Qpx Γ rv h5 ?_)
 rcases e0 with e0|e0
 ·replace h:(some false:Option Bool)=some _:=h
  obtain rfl:=Option.some.inj h
  exact gr 2 [] []
 ·obtain ⟨r1,rfl⟩:∃ x,x=e0:=⟨_,rfl⟩
  replace h:(some r1:Option Bool)=some _:=h
  exact Option.some.inj h
theorem Qdo {s0 v} {rv:Bool} (h:Qbv s0 v=some rv):AFn Tryz.prog 135 [.one (lL 2 s0 Qab.enc),.agg (Qab.enc v)] [] (one (.bool rv)) []:=by
 refine QaT Tryz.func135 (by kernel_rfl) (by kernel_rfl) (fun Γ=>?_)
 unfold Qbv at h
 obtain ⟨r,h0,h⟩:=Qae h
 obtain rfl:=Option.some.inj h
 exact gr 4 [] [cC (Qec h0)]
def Qhq (Γ:Gam) (rv:Bool) (cf:Cf):Prop:=Go Tryz.prog Tryz.f106 [] Γ (one (.bool rv)) [] cf
def Qli (Γ:Gam) (rv:Bool) (x0:Qac) (l:List Qab) (v:Int) (r:List Qab) (last_:Int) (v1:Int):Prop:=Qhq Γ rv ⟨[.c 108156,.l 108156,.b 2,.b 1,.c 423,.l 52,.b 0,.c 7],⟨42,[vL 1 2 l Qab.enc,vP 2 0 6,vI 8 last_,vL 12 2 l Qab.enc,vI 13 (lenI l),vI 14 v,vL 27 2 r Qab.enc,vI 28 (lenI r),vI 29 v1],[oX 6 30 (Qac.enc x0)]⟩⟩
def Qkz (Γ:Gam) (rv:Bool) (x0:Qac) (l:List Qab) (v:Int) (r:List Qab):Prop:=Qhq Γ rv ⟨[.b 1,.c 423,.l 52,.b 0,.c 7],⟨42,[vL 1 2 l Qab.enc,vP 2 0 6,vL 12 2 l Qab.enc,vI 13 (lenI l),vI 14 v],[oX 6 30 (Qac.enc x0)]⟩⟩
def Qlh (Γ:Gam) (rv:Bool) (x0:Qac) (l:List Qab) (v:Int):Prop:=Qhq Γ rv ⟨[.c 52,.l 52,.b 0,.c 7],⟨42,[vL 1 2 l Qab.enc,vP 2 0 6,vL 12 2 l Qab.enc,vI 13 (lenI l),vI 14 v],[oX 6 30 (Qac.enc x0)]⟩⟩
def Qky (Γ:Gam) (rv:Bool) (x0:Qac) (l:List Qab):Prop:=Qhq Γ rv ⟨[.c 7],⟨42,[],[]⟩⟩
theorem QoX (Γ:Gam) (rv:Bool) {x0 l v r} {s:Int×Int} {e:(Unit)⊕(Bool)} (h:loopF (fun s=>Qbh x0 l v r s.1 s.2) s=some e) (hD:sel e (fun e=>Qkz Γ rv x0 l v r) (fun e=>e=rv)):Qli Γ rv x0 l v r s.1 s.2:=by
 refine QaN (C:=fun (s:Int×Int)=>Qli Γ rv x0 l v r s.1 s.2) (D:=fun (e:(Unit)⊕(Bool))=>sel e (fun e=>Qkz Γ rv x0 l v r) (fun e=>e=rv)) ?_ h hD
 clear h hD s e
 rintro ⟨last_,v1⟩ z_ h hI hE
 replace h:Qbh x0 l v r last_ v1=_:=h
 unfold Qbh at h
 rcases Qal h with ⟨h5,h⟩|⟨h5,h⟩
 ·obtain ⟨x2,h6,h⟩:=Qae h
  obtain ⟨r2,h7,h⟩:=Qae h
  rcases Qal h with ⟨h8,h⟩|⟨h8,h⟩
  ·obtain rfl:=(hE _ (oJ h):_=rv)
   exact gr 17 [] [bT h5,cE Qab.enc h6,cC (Qhr h7),bT h8]
  ·exact gn 20 [1,2,8,12,13,14,27,28,29] [0] [bT h5,cE Qab.enc h6,cC (Qhr h7),bF h8] (hI _ (oJ h))
 ·exact gn 5 [1,2,12,13,14] [0] [bF h5] (hE _ (oJ h))
theorem QoW (Γ:Gam) (rv:Bool) {x0 l} {s:Int} {e:(Unit)⊕(Bool)} (h:loopF (fun s=>Qcw x0 l s) s=some e) (hD:sel e (fun e=>Qky Γ rv x0 l) (fun e=>e=rv)):Qlh Γ rv x0 l s:=by
 refine QaN (C:=fun (s:Int)=>Qlh Γ rv x0 l s) (D:=fun (e:(Unit)⊕(Bool))=>sel e (fun e=>Qky Γ rv x0 l) (fun e=>e=rv)) ?_ h hD
 clear h hD s e
 intro v z_ h hI hE
 replace h:Qcw x0 l v=_:=h
 unfold Qcw at h
 rcases Qal h with ⟨h0,h⟩|⟨h0,h⟩
 ·obtain ⟨x1,h1,h⟩:=Qae h
  obtain ⟨r,h2,h⟩:=Qae h
  obtain ⟨r1,h3,h⟩:=Qae h
  rcases Qal h with ⟨h4,h⟩|⟨h4,h⟩
  ·obtain ⟨e0,h9,h⟩:=Qae h
   refine gn 22 [1,2,8,12,13,14,27,28,29] [0] [bT h0,cE Qab.enc h1,cC (Ql2 h2),cC (Qdo h3),nF h4,nL Qab.enc r] (QoX Γ rv h9 ?_)
   rcases e0 with e0|e0
   ·replace h:(some (.inl (addK .i64 v 1)):Option ((Int)⊕((Unit)⊕(Bool))))=some _:=h
    exact gn 3 [1,2,12,13,14] [0] [] (hI _ (oJ h))
   ·obtain ⟨r3,rfl⟩:∃ x,x=e0:=⟨_,rfl⟩
    replace h:(some (.inr (.inr r3)):Option ((Int)⊕((Unit)⊕(Bool))))=some _:=h
    exact (hE _ (oJ h):_=rv)
  ·obtain rfl:=(hE _ (oJ h):_=rv)
   exact gr 17 [] [bT h0,cE Qab.enc h1,cC (Ql2 h2),cC (Qdo h3),nT h4]
 ·exact gn 5 [] [] [bF h0] (hE _ (oJ h))
theorem QmC {x0 l} {rv:Bool} (h:Qhl x0 l=some rv):AFn Tryz.prog 106 [.agg (Qac.enc x0),.one (lL 2 l Qab.enc)] [] (one (.bool rv)) []:=by
 refine QaT Tryz.func106 (by kernel_rfl) (by kernel_rfl) (fun Γ=>?_)
 unfold Qhl at h
 obtain ⟨e1,h10,h⟩:=Qae h
 refine gn 7 [1,2,12,13,14] [0] [nL Qab.enc l] (QoW Γ rv h10 ?_)
 rcases e1 with e1|e1
 ·replace h:(some true:Option Bool)=some _:=h
  obtain rfl:=Option.some.inj h
  exact gr 2 [] []
 ·obtain ⟨r4,rfl⟩:∃ x,x=e1:=⟨_,rfl⟩
  replace h:(some r4:Option Bool)=some _:=h
  exact Option.some.inj h
theorem Qno {v c} {rv:Bool} (h:QkD v c=some rv):AFn Tryz.prog 136 [.agg (Qab.enc v),.one (.ip [lI c] 0)] [] (one (.bool rv)) []:=by
 refine QaT Tryz.func136 (by kernel_rfl) (by kernel_rfl) (fun Γ=>?_)
 unfold QkD at h
 obtain rfl:=Option.some.inj h
 exact gr 4 [] []
def QcP (Γ:Gam) (rv:Int) (cf:Cf):Prop:=Go Tryz.prog Tryz.f94 [] Γ (one (lI rv)) [] cf
def QcA (Γ:Gam) (rv:Int) (s0:List Qab) (c:Int) (v:Int):Prop:=QcP Γ rv ⟨[.c 52,.l 52,.b 0,.c 7],⟨19,[vL 0 2 s0 Qab.enc,(1,one (.fn (.func 136) [.ip [lI c] 0])),vI 7 (lenI s0),vI 8 v],[]⟩⟩
def Qcu (Γ:Gam) (rv:Int) (s0:List Qab) (c:Int):Prop:=QcP Γ rv ⟨[.c 7],⟨19,[],[]⟩⟩
theorem QeY (Γ:Gam) (rv:Int) {s0 c} {s:Int} {e:(Unit)⊕(Int)} (h:loopF (fun s=>QaC s0 c s) s=some e) (hD:sel e (fun e=>Qcu Γ rv s0 c) (fun e=>e=rv)):QcA Γ rv s0 c s:=by
 refine QaN (C:=fun (s:Int)=>QcA Γ rv s0 c s) (D:=fun (e:(Unit)⊕(Int))=>sel e (fun e=>Qcu Γ rv s0 c) (fun e=>e=rv)) ?_ h hD
 clear h hD s e
 intro v z_ h hI hE
 replace h:QaC s0 c v=_:=h
 unfold QaC at h
 rcases Qal h with ⟨h0,h⟩|⟨h0,h⟩
 ·obtain ⟨x0,h1,h⟩:=Qae h
  obtain ⟨r,h2,h⟩:=Qae h
  rcases Qal h with ⟨h3,h⟩|⟨h3,h⟩
  ·obtain rfl:=(hE _ (oJ h):_=rv)
   exact gr 14 [] [bT h0,cE Qab.enc h1,cC (Qno h2),bT h3]
  ·exact gn 16 [0,1,7,8] [] [bT h0,cE Qab.enc h1,cC (Qno h2),bF h3] (hI _ (oJ h))
 ·exact gn 5 [] [] [bF h0] (hE _ (oJ h))
theorem Qfu {s0 c} {rv:Int} (h:Qa9 s0 c=some rv):AFn Tryz.prog 94 [.one (lL 2 s0 Qab.enc),.one (.fn (.func 136) [.ip [lI c] 0])] [] (one (lI rv)) []:=by
 refine QaT Tryz.func94 (by kernel_rfl) (by kernel_rfl) (fun Γ=>?_)
 unfold Qa9 at h
 obtain ⟨e0,h4,h⟩:=Qae h
 refine gn 7 [0,1,7,8] [] [nL Qab.enc s0] (QeY Γ rv h4 ?_)
 rcases e0 with e0|e0
 ·replace h:(some (-1):Option Int)=some _:=h
  obtain rfl:=Option.some.inj h
  exact gr 2 [] []
 ·obtain ⟨r1,rfl⟩:∃ x,x=e0:=⟨_,rfl⟩
  replace h:(some r1:Option Int)=some _:=h
  exact Option.some.inj h
theorem QeW {s0 c} {rv:Bool} (h:Qbk s0 c=some rv):AFn Tryz.prog 63 [.one (lL 2 s0 Qab.enc),.one (.fn (.func 136) [.ip [lI c] 0])] [] (one (.bool rv)) []:=by
 refine QaT Tryz.func63 (by kernel_rfl) (by kernel_rfl) (fun Γ=>?_)
 unfold Qbk at h
 obtain ⟨r,h0,h⟩:=Qae h
 obtain rfl:=Option.some.inj h
 exact gr 4 [] [cC (Qfu h0)]
theorem Qer {l o} {rv:Bool} (h:QgS l o=some rv):AFn Tryz.prog 107 [.one (lL 2 l Qab.enc),.one (lI o)] [] (one (.bool rv)) []:=by
 refine QaT Tryz.func107 (by kernel_rfl) (by kernel_rfl) (fun Γ=>?_)
 unfold QgS at h
 obtain ⟨r,h0,h⟩:=Qae h
 obtain rfl:=Option.some.inj h
 exact gr 4 [] [cC (QeW h0)]
theorem Qlg {v c} {rv:Bool} (h:Qhp v c=some rv):AFn Tryz.prog 137 [.agg (Qab.enc v),.one (.ip [lI c] 0)] [] (one (.bool rv)) []:=by
 refine QaT Tryz.func137 (by kernel_rfl) (by kernel_rfl) (fun Γ=>?_)
 unfold Qhp at h
 obtain rfl:=Option.some.inj h
 exact gr 4 [] []
def Qcz (Γ:Gam) (rv:Int) (cf:Cf):Prop:=Go Tryz.prog Tryz.f94 [] Γ (one (lI rv)) [] cf
def Qck (Γ:Gam) (rv:Int) (s0:List Qab) (c:Int) (v:Int):Prop:=Qcz Γ rv ⟨[.c 52,.l 52,.b 0,.c 7],⟨19,[vL 0 2 s0 Qab.enc,(1,one (.fn (.func 137) [.ip [lI c] 0])),vI 7 (lenI s0),vI 8 v],[]⟩⟩
def Qce (Γ:Gam) (rv:Int) (s0:List Qab) (c:Int):Prop:=Qcz Γ rv ⟨[.c 7],⟨19,[],[]⟩⟩
theorem Qem (Γ:Gam) (rv:Int) {s0 c} {s:Int} {e:(Unit)⊕(Int)} (h:loopF (fun s=>Qaz s0 c s) s=some e) (hD:sel e (fun e=>Qce Γ rv s0 c) (fun e=>e=rv)):Qck Γ rv s0 c s:=by
 refine QaN (C:=fun (s:Int)=>Qck Γ rv s0 c s) (D:=fun (e:(Unit)⊕(Int))=>sel e (fun e=>Qce Γ rv s0 c) (fun e=>e=rv)) ?_ h hD
 clear h hD s e
 intro v z_ h hI hE
 replace h:Qaz s0 c v=_:=h
 unfold Qaz at h
 rcases Qal h with ⟨h0,h⟩|⟨h0,h⟩
 ·obtain ⟨x0,h1,h⟩:=Qae h
  obtain ⟨r,h2,h⟩:=Qae h
  rcases Qal h with ⟨h3,h⟩|⟨h3,h⟩
  ·obtain rfl:=(hE _ (oJ h):_=rv)
   exact gr 14 [] [bT h0,cE Qab.enc h1,cC (Qlg h2),bT h3]
  ·exact gn 16 [0,1,7,8] [] [bT h0,cE Qab.enc h1,cC (Qlg h2),bF h3] (hI _ (oJ h))
 ·exact gn 5 [] [] [bF h0] (hE _ (oJ h))
theorem QbF {s0 c} {rv:Int} (h:Qa4 s0 c=some rv):AFn Tryz.prog 94 [.one (lL 2 s0 Qab.enc),.one (.fn (.func 137) [.ip [lI c] 0])] [] (one (lI rv)) []:=by
 refine QaT Tryz.func94 (by kernel_rfl) (by kernel_rfl) (fun Γ=>?_)
 unfold Qa4 at h
 obtain ⟨e0,h4,h⟩:=Qae h
 refine gn 7 [0,1,7,8] [] [nL Qab.enc s0] (Qem Γ rv h4 ?_)
 rcases e0 with e0|e0
 ·replace h:(some (-1):Option Int)=some _:=h
  obtain rfl:=Option.some.inj h
  exact gr 2 [] []
 ·obtain ⟨r1,rfl⟩:∃ x,x=e0:=⟨_,rfl⟩
  replace h:(some r1:Option Int)=some _:=h
  exact Option.some.inj h
theorem QmB {l a b} {rv:Bool} (h:Qhk l a b=some rv):AFn Tryz.prog 108 [.one (lL 2 l Qab.enc),.one (lI a),.one (lI b)] [] (one (.bool rv)) []:=by
 refine QaT Tryz.func108 (by kernel_rfl) (by kernel_rfl) (fun Γ=>?_)
 unfold Qhk at h
 obtain ⟨r,h0,h⟩:=Qae h
 rcases Qal h with ⟨h1,h⟩|⟨h1,h⟩
 ·obtain rfl:=Option.some.inj h
  exact gr 10 [] [cC (QbF h0),bT h1]
 ·obtain ⟨r1,h2,h⟩:=Qae h
  rcases Qal h with ⟨h3,h⟩|⟨h3,h⟩
  ·obtain ⟨l1,h4,h⟩:=Qae h
   obtain ⟨r2,h5,h⟩:=Qae h
   obtain rfl:=Option.some.inj h
   exact gr 11 [] [cC (QbF h0),bF h1,cC (Qer h2),rp 3 (bT h3),hH (.rows (l1.map Qab.enc)),oO (sl1 h4),oO (sl2h Qab.enc h4),rp 3 (oO (Int.le_refl ((l.map Qab.enc).length:Int))),oO (sl6h Qab.enc h4),bT h3,bT h3,cC (Qer h5),bT h3,bT h3]
  ·obtain rfl:=Option.some.inj h
   exact gr 11 [] [cC (QbF h0),bF h1,cC (Qer h2),rp 7 (bF h3)]
theorem QlN {v c} {rv:Bool} (h:Qik v c=some rv):AFn Tryz.prog 103 [.agg (Qab.enc v),.one (.ip (Qac.enc c) 0)] [] (one (.bool rv)) []:=by
 refine QaT Tryz.func103 (by kernel_rfl) (by kernel_rfl) (fun Γ=>?_)
 unfold Qik at h
 obtain rfl:=Option.some.inj h
 exact gr 4 [] [rp 5 hP,rp 3 (oI ((ltI v.order 0)=false)),nL Qag.enc c.orders,hP,hP,rp 2 (oI ((ltI v.order 0)=false)),oR True ((ltI v.order 0)=false)]
def QcH (Γ:Gam) (rv:Int) (cf:Cf):Prop:=Go Tryz.prog Tryz.f94 [] Γ (one (lI rv)) [] cf
def Qcq (Γ:Gam) (rv:Int) (s0:List Qab) (c:Qac) (v:Int):Prop:=QcH Γ rv ⟨[.c 52,.l 52,.b 0,.c 7],⟨19,[vL 0 2 s0 Qab.enc,(1,one (.fn (.func 103) [.ip (Qac.enc c) 0])),vI 7 (lenI s0),vI 8 v],[]⟩⟩
def Qci (Γ:Gam) (rv:Int) (s0:List Qab) (c:Qac):Prop:=QcH Γ rv ⟨[.c 7],⟨19,[],[]⟩⟩
theorem QeF (Γ:Gam) (rv:Int) {s0 c} {s:Int} {e:(Unit)⊕(Int)} (h:loopF (fun s=>QaA s0 c s) s=some e) (hD:sel e (fun e=>Qci Γ rv s0 c) (fun e=>e=rv)):Qcq Γ rv s0 c s:=by
 refine QaN (C:=fun (s:Int)=>Qcq Γ rv s0 c s) (D:=fun (e:(Unit)⊕(Int))=>sel e (fun e=>Qci Γ rv s0 c) (fun e=>e=rv)) ?_ h hD
 clear h hD s e
 intro v z_ h hI hE
 replace h:QaA s0 c v=_:=h
 unfold QaA at h
 rcases Qal h with ⟨h0,h⟩|⟨h0,h⟩
 ·obtain ⟨x0,h1,h⟩:=Qae h
  obtain ⟨r,h2,h⟩:=Qae h
  rcases Qal h with ⟨h3,h⟩|⟨h3,h⟩
  ·obtain rfl:=(hE _ (oJ h):_=rv)
   exact gr 14 [] [bT h0,cE Qab.enc h1,cC (QlN h2),bT h3]
  ·exact gn 16 [0,1,7,8] [] [bT h0,cE Qab.enc h1,cC (QlN h2),bF h3] (hI _ (oJ h))
 ·exact gn 5 [] [] [bF h0] (hE _ (oJ h))
theorem Qe0 {s0 c} {rv:Int} (h:Qa6 s0 c=some rv):AFn Tryz.prog 94 [.one (lL 2 s0 Qab.enc),.one (.fn (.func 103) [.ip (Qac.enc c) 0])] [] (one (lI rv)) []:=by
 refine QaT Tryz.func94 (by kernel_rfl) (by kernel_rfl) (fun Γ=>?_)
 unfold Qa6 at h
 obtain ⟨e0,h4,h⟩:=Qae h
 refine gn 7 [0,1,7,8] [] [nL Qab.enc s0] (QeF Γ rv h4 ?_)
 rcases e0 with e0|e0
 ·replace h:(some (-1):Option Int)=some _:=h
  obtain rfl:=Option.some.inj h
  exact gr 2 [] []
 ·obtain ⟨r1,rfl⟩:∃ x,x=e0:=⟨_,rfl⟩
  replace h:(some r1:Option Int)=some _:=h
  exact Option.some.inj h
theorem QaV {s0 c} {rv:Bool} (h:Qa0 s0 c=some rv):AFn Tryz.prog 63 [.one (lL 2 s0 Qab.enc),.one (.fn (.func 103) [.ip (Qac.enc c) 0])] [] (one (.bool rv)) []:=by
 refine QaT Tryz.func63 (by kernel_rfl) (by kernel_rfl) (fun Γ=>?_)
 unfold Qa0 at h
 obtain ⟨r,h0,h⟩:=Qae h
 obtain rfl:=Option.some.inj h
 exact gr 4 [] [cC (Qe0 h0)]
theorem QlO {v c} {rv:Bool} (h:Qil v c=some rv):AFn Tryz.prog 104 [.agg (Qab.enc v),.one (.ip (Qac.enc c) 0)] [] (one (.bool rv)) []:=by
 refine QaT Tryz.func104 (by kernel_rfl) (by kernel_rfl) (fun Γ=>?_)
 unfold Qil at h
 obtain ⟨x0,h0,h⟩:=Qae h
 obtain rfl:=Option.some.inj h
 exact gr 4 [] [cE Qag.enc h0]
def QcI (Γ:Gam) (rv:Int) (cf:Cf):Prop:=Go Tryz.prog Tryz.f94 [] Γ (one (lI rv)) [] cf
def Qcr (Γ:Gam) (rv:Int) (s0:List Qab) (c:Qac) (v:Int):Prop:=QcI Γ rv ⟨[.c 52,.l 52,.b 0,.c 7],⟨19,[vL 0 2 s0 Qab.enc,(1,one (.fn (.func 104) [.ip (Qac.enc c) 0])),vI 7 (lenI s0),vI 8 v],[]⟩⟩
def Qcj (Γ:Gam) (rv:Int) (s0:List Qab) (c:Qac):Prop:=QcI Γ rv ⟨[.c 7],⟨19,[],[]⟩⟩
theorem QeG (Γ:Gam) (rv:Int) {s0 c} {s:Int} {e:(Unit)⊕(Int)} (h:loopF (fun s=>QaB s0 c s) s=some e) (hD:sel e (fun e=>Qcj Γ rv s0 c) (fun e=>e=rv)):Qcr Γ rv s0 c s:=by
 refine QaN (C:=fun (s:Int)=>Qcr Γ rv s0 c s) (D:=fun (e:(Unit)⊕(Int))=>sel e (fun e=>Qcj Γ rv s0 c) (fun e=>e=rv)) ?_ h hD
 clear h hD s e
 intro v z_ h hI hE
 replace h:QaB s0 c v=_:=h
 unfold QaB at h
 rcases Qal h with ⟨h0,h⟩|⟨h0,h⟩
 ·obtain ⟨x0,h1,h⟩:=Qae h
  obtain ⟨r,h2,h⟩:=Qae h
  rcases Qal h with ⟨h3,h⟩|⟨h3,h⟩
  ·obtain rfl:=(hE _ (oJ h):_=rv)
   exact gr 14 [] [bT h0,cE Qab.enc h1,cC (QlO h2),bT h3]
  ·exact gn 16 [0,1,7,8] [] [bT h0,cE Qab.enc h1,cC (QlO h2),bF h3] (hI _ (oJ h))
 ·exact gn 5 [] [] [bF h0] (hE _ (oJ h))
theorem Qe1 {s0 c} {rv:Int} (h:Qa7 s0 c=some rv):AFn Tryz.prog 94 [.one (lL 2 s0 Qab.enc),.one (.fn (.func 104) [.ip (Qac.enc c) 0])] [] (one (lI rv)) []:=by
 refine QaT Tryz.func94 (by kernel_rfl) (by kernel_rfl) (fun Γ=>?_)
 unfold Qa7 at h
 obtain ⟨e0,h4,h⟩:=Qae h
 refine gn 7 [0,1,7,8] [] [nL Qab.enc s0] (QeG Γ rv h4 ?_)
 rcases e0 with e0|e0
 ·replace h:(some (-1):Option Int)=some _:=h
  obtain rfl:=Option.some.inj h
  exact gr 2 [] []
 ·obtain ⟨r1,rfl⟩:∃ x,x=e0:=⟨_,rfl⟩
  replace h:(some r1:Option Int)=some _:=h
  exact Option.some.inj h
theorem Qba {s0 c} {rv:Bool} (h:Qa1 s0 c=some rv):AFn Tryz.prog 63 [.one (lL 2 s0 Qab.enc),.one (.fn (.func 104) [.ip (Qac.enc c) 0])] [] (one (.bool rv)) []:=by
 refine QaT Tryz.func63 (by kernel_rfl) (by kernel_rfl) (fun Γ=>?_)
 unfold Qa1 at h
 obtain ⟨r,h0,h⟩:=Qae h
 obtain rfl:=Option.some.inj h
 exact gr 4 [] [cC (Qe1 h0)]
def Qim (Γ:Gam) (rv:Int) (cf:Cf):Prop:=Go Tryz.prog Tryz.f80 [] Γ (one (lI rv)) [] cf
def QlP (Γ:Gam) (rv:Int) (x0:Qac) (r:Qad) (v:Int):Prop:=Qim Γ rv ⟨[.c 500,.l 500,.b 1,.c 63],⟨65,[vP 2 0 6,vL 5 2 r.visits Qab.enc,vL 33 2 x0.apart QaW.enc,vI 34 (lenI x0.apart),vI 35 v],[oX 6 30 (Qac.enc x0)]⟩⟩
def Qld (Γ:Gam) (rv:Int) (x0:Qac) (r:Qad):Prop:=Qim Γ rv ⟨[.c 63],⟨65,[vP 2 0 6,vL 5 2 r.visits Qab.enc],[oX 6 30 (Qac.enc x0)]⟩⟩
def QlQ (Γ:Gam) (rv:Int) (x0:Qac) (r:Qad) (v1:Int):Prop:=Qim Γ rv ⟨[.c 1012,.l 1012,.b 3,.c 127],⟨65,[vL 5 2 r.visits Qab.enc,vL 51 2 x0.before QaW.enc,vI 52 (lenI x0.before),vI 53 v1],[]⟩⟩
def Qle (Γ:Gam) (rv:Int) (x0:Qac) (r:Qad):Prop:=Qim Γ rv ⟨[.c 127],⟨65,[],[]⟩⟩
theorem Qpv (Γ:Gam) (rv:Int) {x0 r} {s:Int} {e:(Unit)⊕(Int)} (h:loopF (fun s=>QcN x0 r s) s=some e) (hD:sel e (fun e=>Qld Γ rv x0 r) (fun e=>e=rv)):QlP Γ rv x0 r s:=by
 refine QaN (C:=fun (s:Int)=>QlP Γ rv x0 r s) (D:=fun (e:(Unit)⊕(Int))=>sel e (fun e=>Qld Γ rv x0 r) (fun e=>e=rv)) ?_ h hD
 clear h hD s e
 intro v z_ h hI hE
 replace h:QcN x0 r v=_:=h
 unfold QcN at h
 rcases Qal h with ⟨h9,h⟩|⟨h9,h⟩
 ·obtain ⟨x1,h10,h⟩:=Qae h
  obtain ⟨r5,h11,h⟩:=Qae h
  rcases Qal h with ⟨h12,h⟩|⟨h12,h⟩
  ·obtain ⟨r6,h13,h⟩:=Qae h
   rcases Qal h with ⟨h14,h⟩|⟨h14,h⟩
   ·obtain rfl:=(hE _ (oJ h):_=rv)
    exact gr 14 [] [bT h9,cE QaW.enc h10,oO (zL 0),oO (lT 0 2),cC (Qer h11),rp 2 (bT h12),oO (zL 1),oO (lT 1 2),rp 2 (bT h12),cC (Qer h13),bT h12,bT h14]
   ·exact gn 16 [2,5,33,34,35] [0] [bT h9,cE QaW.enc h10,oO (zL 0),oO (lT 0 2),cC (Qer h11),rp 2 (bT h12),oO (zL 1),oO (lT 1 2),rp 2 (bT h12),cC (Qer h13),bT h12,bF h14] (hI _ (oJ h))
  ·exact gn 16 [2,5,33,34,35] [0] [bT h9,cE QaW.enc h10,oO (zL 0),oO (lT 0 2),cC (Qer h11),rp 5 (bF h12),fF] (hI _ (oJ h))
 ·exact gn 5 [2,5] [0] [bF h9] (hE _ (oJ h))
theorem Qpw (Γ:Gam) (rv:Int) {x0 r} {s:Int} {e:(Unit)⊕(Int)} (h:loopF (fun s=>Qct x0 r s) s=some e) (hD:sel e (fun e=>Qle Γ rv x0 r) (fun e=>e=rv)):QlQ Γ rv x0 r s:=by
 refine QaN (C:=fun (s:Int)=>QlQ Γ rv x0 r s) (D:=fun (e:(Unit)⊕(Int))=>sel e (fun e=>Qle Γ rv x0 r) (fun e=>e=rv)) ?_ h hD
 clear h hD s e
 intro v1 z_ h hI hE
 replace h:Qct x0 r v1=_:=h
 unfold Qct at h
 rcases Qal h with ⟨h16,h⟩|⟨h16,h⟩
 ·obtain ⟨x2,h17,h⟩:=Qae h
  obtain ⟨r7,h18,h⟩:=Qae h
  rcases Qal h with ⟨h19,h⟩|⟨h19,h⟩
  ·exact gn 16 [5,51,52,53] [] [bT h16,cE QaW.enc h17,oO (zL 0),oO (lT 0 2),oO (zL 1),oO (lT 1 2),cC (QmB h18),nF h19] (hI _ (oJ h))
  ·obtain rfl:=(hE _ (oJ h):_=rv)
   exact gr 14 [] [bT h16,cE QaW.enc h17,oO (zL 0),oO (lT 0 2),oO (zL 1),oO (lT 1 2),cC (QmB h18),nT h19]
 ·exact gn 5 [] [] [bF h16] (hE _ (oJ h))
theorem Qdc {x0 r} {rv:Int} (h:Qg2 x0 r=some rv):AFn Tryz.prog 80 [.agg (Qac.enc x0),.agg (Qad.enc r)] [] (one (lI rv)) []:=by
 refine QaT Tryz.func80 (by kernel_rfl) (by kernel_rfl) (fun Γ=>?_)
 unfold Qg2 at h
 rcases Qal h with ⟨h0,h⟩|⟨h0,h⟩
 ·obtain rfl:=Option.some.inj h
  exact gr 10 [] [nL Qab.enc r.visits,rp 4 (bT h0),tT]
 ·obtain ⟨r1,h1,h⟩:=Qae h
  rcases Qal h with ⟨h2,h⟩|⟨h2,h⟩
  ·obtain rfl:=Option.some.inj h
   exact gr 10 [] [nL Qab.enc r.visits,rp 3 (bF h0),cC (QaV h1),bF h0,bT h2]
  ·obtain ⟨r2,h3,h⟩:=Qae h
   rcases Qal h with ⟨h4,h⟩|⟨h4,h⟩
   ·obtain rfl:=Option.some.inj h
    exact gr 16 [] [nL Qab.enc r.visits,rp 3 (bF h0),cC (QaV h1),bF h0,bF h2,cC (Qba h3),bT h4]
   ·obtain ⟨r3,h5,h⟩:=Qae h
    rcases Qal h with ⟨h6,h⟩|⟨h6,h⟩
    ·obtain rfl:=Option.some.inj h
     exact gr 19 [] [nL Qab.enc r.visits,rp 3 (bF h0),cC (QaV h1),bF h0,bF h2,cC (Qba h3),bF h4,cC (Qj9 h5),bT h6]
    ·obtain ⟨r4,h7,h⟩:=Qae h
     rcases Qal h with ⟨h8,h⟩|⟨h8,h⟩
     ·obtain ⟨e0,h15,h⟩:=Qae h
      refine gn 27 [2,5,33,34,35] [0] [nL Qab.enc r.visits,rp 3 (bF h0),cC (QaV h1),bF h0,bF h2,cC (Qba h3),bF h4,cC (Qj9 h5),bF h6,cC (QmC h7),nF h8,nL QaW.enc x0.apart] (Qpv Γ rv h15 ?_)
      rcases e0 with e0|e0
      ·replace h:(bnd (loopF (fun s=>Qct x0 r s) 0) (fun e=>sel e (fun (_:Unit)=>some 0) (fun r8=>some r8)):Option Int)=some _:=h
       obtain ⟨e1,h20,h⟩:=Qae h
       refine gn 5 [5,51,52,53] [] [nL QaW.enc x0.before] (Qpw Γ rv h20 ?_)
       rcases e1 with e1|e1
       ·replace h:(some 0:Option Int)=some _:=h
        obtain rfl:=Option.some.inj h
        exact gr 2 [] []
       ·obtain ⟨r8,rfl⟩:∃ x,x=e1:=⟨_,rfl⟩
        replace h:(some r8:Option Int)=some _:=h
        exact Option.some.inj h
      ·obtain ⟨r9,rfl⟩:∃ x,x=e0:=⟨_,rfl⟩
       replace h:(some r9:Option Int)=some _:=h
       exact Option.some.inj h
     ·obtain rfl:=Option.some.inj h
      exact gr 22 [] [nL Qab.enc r.visits,rp 3 (bF h0),cC (QaV h1),bF h0,bF h2,cC (Qba h3),bF h4,cC (Qj9 h5),bF h6,cC (QmC h7),nT h8]
theorem QqJ {t skills} {rv:Bool} (h:QkW t skills=some rv):AFn Tryz.prog 109 [.agg (Qaj.enc t),.one (lI skills)] [] (one (.bool rv)) []:=by
 refine QaT Tryz.func109 (by kernel_rfl) (by kernel_rfl) (fun Γ=>?_)
 unfold QkW at h
 obtain rfl:=Option.some.inj h
 exact gr 4 [] [rp 9 hP,oI ((geI t.skills 0)=true),oR True ((geI t.skills 0)=true),rp 4 (oI (((geI t.skills 0)&&(geI skills 0))=true)),oR True (((geI t.skills 0)&&(geI skills 0))=true)]
def QrR (Γ:Gam) (rv:Int) (cf:Cf):Prop:=Go Tryz.prog Tryz.f81 [] Γ (one (lI rv)) [] cf
def Qpc (Γ:Gam) (rv:Int) (x0:Qac) (r:Qad) (v:Int):Prop:=QrR Γ rv ⟨[.c 52,.l 52,.b 0,.c 7],⟨30,[vP 2 0 6,vP 3 1 4,vL 8 2 r.visits Qab.enc,vI 9 (lenI r.visits),vI 10 v],[oX 6 30 (Qac.enc x0),oX 4 34 (Qad.enc r)]⟩⟩
def Qol (Γ:Gam) (rv:Int) (x0:Qac) (r:Qad):Prop:=QrR Γ rv ⟨[.c 7],⟨30,[],[]⟩⟩
theorem QrS (Γ:Gam) (rv:Int) {x0 r} {s:Int} {e:(Unit)⊕(Int)} (h:loopF (fun s=>Qfl x0 r s) s=some e) (hD:sel e (fun e=>Qol Γ rv x0 r) (fun e=>e=rv)):Qpc Γ rv x0 r s:=by
 refine QaN (C:=fun (s:Int)=>Qpc Γ rv x0 r s) (D:=fun (e:(Unit)⊕(Int))=>sel e (fun e=>Qol Γ rv x0 r) (fun e=>e=rv)) ?_ h hD
 clear h hD s e
 intro v z_ h hI hE
 replace h:Qfl x0 r v=_:=h
 unfold Qfl at h
 rcases Qal h with ⟨h0,h⟩|⟨h0,h⟩
 ·obtain ⟨x1,h1,h⟩:=Qae h
  obtain ⟨x2,h2,h⟩:=Qae h
  obtain ⟨x3,h3,h⟩:=Qae h
  obtain ⟨r1,h4,h⟩:=Qae h
  rcases Qal h with ⟨h5,h⟩|⟨h5,h⟩
  ·exact gn 16 [2,3,8,9,10] [0,1] [bT h0,cE Qab.enc h1,hH (.draw 15 []),cE Qaj.enc h2,cE Qag.enc h3,cC (QqJ h4),nF h5] (hI _ (oJ h))
  ·obtain rfl:=(hE _ (oJ h):_=rv)
   exact gr 14 [] [bT h0,cE Qab.enc h1,hH (.draw 15 []),cE Qaj.enc h2,cE Qag.enc h3,cC (QqJ h4),nT h5]
 ·exact gn 5 [] [] [bF h0] (hE _ (oJ h))
theorem QlI {x0 r} {rv:Int} (h:Qok x0 r=some rv):AFn Tryz.prog 81 [.agg (Qac.enc x0),.agg (Qad.enc r)] [] (one (lI rv)) []:=by
 refine QaT Tryz.func81 (by kernel_rfl) (by kernel_rfl) (fun Γ=>?_)
 unfold Qok at h
 obtain ⟨e0,h6,h⟩:=Qae h
 refine gn 7 [2,3,8,9,10] [0,1] [nL Qab.enc r.visits] (QrS Γ rv h6 ?_)
 rcases e0 with e0|e0
 ·replace h:(some 0:Option Int)=some _:=h
  obtain rfl:=Option.some.inj h
  exact gr 2 [] []
 ·obtain ⟨r2,rfl⟩:∃ x,x=e0:=⟨_,rfl⟩
  replace h:(some r2:Option Int)=some _:=h
  exact Option.some.inj h
def Qnn (Γ:Gam) (rv:Int×Int) (cf:Cf):Prop:=Go Tryz.prog Tryz.f86 [] Γ (.tup [.one (lI rv.1),.one (lI rv.2)]) [] cf
def Qlf (Γ:Gam) (rv:Int×Int) (r:Qad) (set_:Int) (v:Int):Prop:=Qnn Γ rv ⟨[.c 116,.l 116,.b 0,.c 15],⟨29,[vI 4 set_,vL 8 2 r.visits Qab.enc,vI 9 (lenI r.visits),vI 10 v],[]⟩⟩
def Qkw (Γ:Gam) (rv:Int×Int) (r:Qad) (set_1:Int):Prop:=Qnn Γ rv ⟨[.c 15],⟨29,[vI 4 set_1],[]⟩⟩
theorem QoV (Γ:Gam) (rv:Int×Int) {r} {s:Int×Int} {e:(Int)⊕(Int×Int)} (h:loopF (fun s=>QeD r s.1 s.2) s=some e) (hD:sel e (fun e=>Qkw Γ rv r e) (fun e=>e=rv)):Qlf Γ rv r s.1 s.2:=by
 refine QaN (C:=fun (s:Int×Int)=>Qlf Γ rv r s.1 s.2) (D:=fun (e:(Int)⊕(Int×Int))=>sel e (fun e=>Qkw Γ rv r e) (fun e=>e=rv)) ?_ h hD
 clear h hD s e
 rintro ⟨set_,v⟩ z_ h hI hE
 replace h:QeD r set_ v=_:=h
 unfold QeD at h
 rcases Qal h with ⟨h0,h⟩|⟨h0,h⟩
 ·obtain ⟨x0,h1,h⟩:=Qae h
  rcases Qal h with ⟨h2,h⟩|⟨h2,h⟩
  ·obtain rfl:=(hE _ (oJ h):_=rv)
   exact gr 15 [] [bT h0,cE Qab.enc h1,rp 4 hP,rp 2 (oI ((ltI x0.order 0)=false)),oR True ((ltI x0.order 0)=false),bT h2]
  ·obtain ⟨h3,h⟩:=Qax h
   exact gn 18 [4,8,9,10] [] [bT h0,cE Qab.enc h1,rp 4 hP,rp 2 (oI ((ltI x0.order 0)=false)),oR True ((ltI x0.order 0)=false),bF h2,oO (h3)] (hI _ (oJ h))
 ·exact gn 5 [4] [] [bF h0] (hE _ (oJ h))
theorem QiV {r} {rv:Int×Int} (h:Qgh r=some rv):AFn Tryz.prog 86 [.agg (Qad.enc r)] [] (.tup [.one (lI rv.1),.one (lI rv.2)]) []:=by
 refine QaT Tryz.func86 (by kernel_rfl) (by kernel_rfl) (fun Γ=>?_)
 unfold Qgh at h
 obtain ⟨e0,h4,h⟩:=Qae h
 refine gn 9 [4,8,9,10] [] [nL Qab.enc r.visits] (QoV Γ rv h4 ?_)
 rcases e0 with e0|e0
 ·obtain ⟨set_1,rfl⟩:∃ x,x=e0:=⟨_,rfl⟩
  replace h:(some (set_1,0):Option (Int×Int))=some _:=h
  obtain rfl:=Option.some.inj h
  exact gr 2 [] []
 ·obtain ⟨r1,rfl⟩:∃ x,x=e0:=⟨_,rfl⟩
  replace h:(some r1:Option (Int×Int))=some _:=h
  exact Option.some.inj h
theorem QtC {a b} {rv:Int} (h:QpN a b=some rv):AFn Tryz.prog 165 [.one (lI a),.one (lI b)] [] (one (lI rv)) []:=by
 refine QaT Tryz.func165 (by kernel_rfl) (by kernel_rfl) (fun Γ=>?_)
 unfold QpN at h
 obtain rfl:=Option.some.inj h
 exact gr 4 [] []
def QkZ (Γ:Gam) (rv:List Int×Int) (cf:Cf):Prop:=Go Tryz.prog Tryz.f164 [] Γ (.tup [.one (lL 1 rv.1 e_i64),.one (lI rv.2)]) [] cf
def Qit (Γ:Gam) (rv:List Int×Int) (a:List Int) (b:List Int) (l:List Int) (l1:List Int) (v:Int):Prop:=QkZ Γ rv ⟨[.c 244,.l 244,.b 0,.c 31],⟨38,[vL 0 1 a e_i64,vL 1 1 b e_i64,(2,one (.fn (.func 165) [])),vO 8 0 1 l1 e_i64,vI 19 (lenI a),vI 20 v],[oS 1 3 l1 e_i64]⟩⟩
def Qh2 (Γ:Gam) (rv:List Int×Int) (a:List Int) (b:List Int) (l:List Int) (l2:List Int):Prop:=QkZ Γ rv ⟨[.c 31],⟨38,[vO 8 0 1 l2 e_i64],[oS 1 3 l2 e_i64]⟩⟩
theorem QmN (Γ:Gam) (rv:List Int×Int) {a b l} {s:List Int×Int} {e:List Int} (h:loopF (fun s=>QbR a b l s.1 s.2) s=some e) (hD:Qh2 Γ rv a b l e):Qit Γ rv a b l s.1 s.2:=by
 refine QaN (C:=fun (s:List Int×Int)=>Qit Γ rv a b l s.1 s.2) (D:=fun (e:List Int)=>Qh2 Γ rv a b l e) ?_ h hD
 clear h hD s e
 rintro ⟨l1,v⟩ z_ h hI hE
 replace h:QbR a b l l1 v=_:=h
 unfold QbR at h
 rcases Qal h with ⟨h2,h⟩|⟨h2,h⟩
 ·obtain ⟨x0,h3,h⟩:=Qae h
  obtain ⟨x1,h4,h⟩:=Qae h
  obtain ⟨r,h5,h⟩:=Qae h
  obtain ⟨x2,h6,h⟩:=Qae h
  exact gn 13 [0,1,2,8,19,20] [0] [bT h2,hH (.draw 13 []),cE e_i64 h3,cE e_i64 h4,cC (QtC h5),oO (getLo h6),oO (getHi e_i64 h6),rE e_i64 h6,hH (.rows ((setI l1 v r).map e_i64)),hH (.relen 0 ((setI l1 v r).map e_i64).length),oO (setM e_i64 l1 v r),rp 2 (oO (QsS e_i64 l1 v r))] (hI _ (oJ h))
 ·exact gn 5 [8] [0] [bF h2] (hE _ (oJ h))
theorem QoQ {a b} {rv:List Int×Int} (h:QgW a b=some rv):AFn Tryz.prog 164 [.one (lL 1 a e_i64),.one (lL 1 b e_i64),.one (.fn (.func 165) [])] [] (.tup [.one (lL 1 rv.1 e_i64),.one (lI rv.2)]) []:=by
 refine QaT Tryz.func164 (by kernel_rfl) (by kernel_rfl) (fun Γ=>?_)
 unfold QgW at h
 rcases Qal h with ⟨h0,h⟩|⟨h0,h⟩
 ·obtain rfl:=Option.some.inj h
  exact gr 8 [] [nL e_i64 a,nL e_i64 b,bT h0,hW 4,hH (.nilS 6 0 1)]
 ·obtain ⟨l,h1,h⟩:=Qae h
  obtain ⟨e0,h7,h⟩:=Qae h
  refine gn 14 [0,1,2,8,19,20] [0] [nL e_i64 a,nL e_i64 b,bF h0,nL e_i64 a,hH (.cells [lI 0]),hH (.rows (l.map e_i64)),oO (mk1 h1),oO (mk2 h1),oO (mk3 h1),oO (mk4 h1),oO (mk5 e_i64 h1),nL e_i64 a] (QmN Γ rv h7 ?_)
  obtain ⟨l2,rfl⟩:∃ x,x=e0:=⟨_,rfl⟩
  replace h:(some (l2,0):Option (List Int×Int))=some _:=h
  obtain rfl:=Option.some.inj h
  exact gr 2 [] [hW 5,hH (.frz 0),rp 3 (eL l2 e_i64)]
theorem Qpp {a b} {rv:List Int×Int} (h:QoF a b=some rv):AFn Tryz.prog 140 [.one (lL 1 a e_i64),.one (lL 1 b e_i64)] [] (.tup [.one (lL 1 rv.1 e_i64),.one (lI rv.2)]) []:=by
 refine QaT Tryz.func140 (by kernel_rfl) (by kernel_rfl) (fun Γ=>?_)
 unfold QoF at h
 obtain ⟨r,h0,h⟩:=Qae h
 obtain rfl:=Option.some.inj h
 exact gr 4 [] [cC (QoQ h0)]
theorem QsA {set_ i} {rv:Bool} (h:QrV set_ i=some rv):AFn Tryz.prog 178 [.one (lI set_),.one (lI i)] [] (one (.bool rv)) []:=by
 refine QaT Tryz.func178 (by kernel_rfl) (by kernel_rfl) (fun Γ=>?_)
 unfold QrV at h
 rcases Qal h with ⟨h0,h⟩|⟨h0,h⟩
 ·obtain ⟨h1,h⟩:=Qax h
  obtain rfl:=Option.some.inj h
  exact gr 4 [] [hP,hP,hP,oI ((geI i 0)=true),oR True ((geI i 0)=true),rp 3 (bT h0),oO (h1),rp 3 (bT h0)]
 ·obtain rfl:=Option.some.inj h
  exact gr 4 [] [hP,hP,hP,oI ((geI i 0)=true),oR True ((geI i 0)=true),rp 6 (bF h0)]
def Qp1 (Γ:Gam) (rv:List Int) (cf:Cf):Prop:=Go Tryz.prog Tryz.f163 [] Γ (one (lL 1 rv e_i64)) [] cf
def Qnp (Γ:Gam) (rv:List Int) (set_:Int) (l:List Int) (v:Int):Prop:=Qp1 Γ rv ⟨[.c 116,.l 116,.b 0,.c 15],⟨17,[vI 0 set_,vO 3 0 1 l e_i64,vI 5 v],[oS 1 3 l e_i64]⟩⟩
def QmD (Γ:Gam) (rv:List Int) (set_:Int) (l1:List Int):Prop:=Qp1 Γ rv ⟨[.c 15],⟨17,[vO 3 0 1 l1 e_i64],[oS 1 3 l1 e_i64]⟩⟩
theorem Qqt (Γ:Gam) (rv:List Int) {set_} {s:List Int×Int} {e:List Int} (h:loopF (fun s=>QcW set_ s.1 s.2) s=some e) (hD:QmD Γ rv set_ e):Qnp Γ rv set_ s.1 s.2:=by
 refine QaN (C:=fun (s:List Int×Int)=>Qnp Γ rv set_ s.1 s.2) (D:=fun (e:List Int)=>QmD Γ rv set_ e) ?_ h hD
 clear h hD s e
 rintro ⟨l,v⟩ z_ h hI hE
 replace h:QcW set_ l v=_:=h
 unfold QcW at h
 rcases Qal h with ⟨h0,h⟩|⟨h0,h⟩
 ·obtain ⟨r,h1,h⟩:=Qae h
  rcases Qal h with ⟨h2,h⟩|⟨h2,h⟩
  ·obtain ⟨h3,h⟩:=Qax h
   exact gn 16 [0,3,5] [2] [bT h0,cC (QsA h1),bT h2,oO (Eq.refl ([v].map e_i64).length),aO e_i64 h3] (hI _ (oJ h))
  ·exact gn 16 [0,3,5] [0] [bT h0,cC (QsA h1),bF h2] (hI _ (oJ h))
 ·exact gn 5 [3] [0] [bF h0] (hE _ (oJ h))
theorem Qse {set_} {rv:List Int} (h:Qlk set_=some rv):AFn Tryz.prog 163 [.one (lI set_)] [] (one (lL 1 rv e_i64)) []:=by
 refine QaT Tryz.func163 (by kernel_rfl) (by kernel_rfl) (fun Γ=>?_)
 unfold Qlk at h
 obtain ⟨e0,h4,h⟩:=Qae h
 refine gn 9 [0,3,5] [0] [hW 12,hH (.adopt 3 1 3)] (Qqt Γ rv h4 ?_)
 obtain ⟨l1,rfl⟩:∃ x,x=e0:=⟨_,rfl⟩
 replace h:(some l1:Option (List Int))=some _:=h
 obtain rfl:=Option.some.inj h
 exact gr 2 [] [hW 4,hH (.frz 0),rp 3 (eL l1 e_i64)]
def QqE (Γ:Gam) (rv:List Int) (cf:Cf):Prop:=Go Tryz.prog Tryz.f138 [] Γ (one (lL 1 rv e_i64)) [] cf
def QnA (Γ:Gam) (rv:List Int) (x0:Qac) (l:List Int) (r:List Int) (sum:List Int) (v:Int):Prop:=QqE Γ rv ⟨[.c 116,.l 116,.b 0,.c 15],⟨40,[vP 3 0 6,vL 7 1 sum e_i64,vL 13 1 r e_i64,vI 14 (lenI r),vI 15 v],[oX 6 30 (Qac.enc x0)]⟩⟩
def Qm1 (Γ:Gam) (rv:List Int) (x0:Qac) (l:List Int) (r:List Int) (sum1:List Int):Prop:=QqE Γ rv ⟨[.c 15],⟨40,[vL 7 1 sum1 e_i64],[]⟩⟩
theorem QqQ (Γ:Gam) (rv:List Int) {x0 l r} {s:List Int×Int} {e:List Int} (h:loopF (fun s=>Qdr x0 l r s.1 s.2) s=some e) (hD:Qm1 Γ rv x0 l r e):QnA Γ rv x0 l r s.1 s.2:=by
 refine QaN (C:=fun (s:List Int×Int)=>QnA Γ rv x0 l r s.1 s.2) (D:=fun (e:List Int)=>Qm1 Γ rv x0 l r e) ?_ h hD
 clear h hD s e
 rintro ⟨sum,v⟩ z_ h hI hE
 replace h:Qdr x0 l r sum v=_:=h
 unfold Qdr at h
 rcases Qal h with ⟨h2,h⟩|⟨h2,h⟩
 ·obtain ⟨x1,h3,h⟩:=Qae h
  obtain ⟨x2,h4,h⟩:=Qae h
  rcases Qal h with ⟨h5,h⟩|⟨h5,h⟩
  ·obtain ⟨r1,h6,h⟩:=Qae h
   exact gn 16 [3,7,13,14,15] [0] [bT h2,cE e_i64 h3,cE Qag.enc h4,bT h5,cE Qag.enc h4,cC (Qpp h6)] (hI _ (oJ h))
  ·exact gn 16 [3,7,13,14,15] [0] [bT h2,cE e_i64 h3,cE Qag.enc h4,bF h5] (hI _ (oJ h))
 ·exact gn 5 [7] [] [bF h2] (hE _ (oJ h))
theorem QsG {x0 set_ dims} {rv:List Int} (h:Ql8 x0 set_ dims=some rv):AFn Tryz.prog 138 [.agg (Qac.enc x0),.one (lI set_),.one (lI dims)] [] (one (lL 1 rv e_i64)) []:=by
 refine QaT Tryz.func138 (by kernel_rfl) (by kernel_rfl) (fun Γ=>?_)
 unfold Ql8 at h
 obtain ⟨l,h0,h⟩:=Qae h
 obtain ⟨r,h1,h⟩:=Qae h
 obtain ⟨e0,h7,h⟩:=Qae h
 refine gn 9 [3,7,13,14,15] [0] [hH (.cells [lI 0]),hH (.rows (l.map e_i64)),oO (mk1 h0),oO (mk2 h0),oO (mk3 h0),oO (mk4 h0),oO (mk5 e_i64 h0),cC (Qse h1),nL e_i64 r,hW 3,hH (.frz 1),rp 2 (eL l e_i64)] (QqQ Γ rv h7 ?_)
 obtain ⟨sum1,rfl⟩:∃ x,x=e0:=⟨_,rfl⟩
 replace h:(some sum1:Option (List Int))=some _:=h
 obtain rfl:=Option.some.inj h
 exact gr 2 [] []
theorem Qts {l} {rv:Int} (h:QnG l=some rv):AFn Tryz.prog 139 [.one (lL 14 l Qaj.enc)] [] (one (lI rv)) []:=by
 refine QaT Tryz.func139 (by kernel_rfl) (by kernel_rfl) (fun Γ=>?_)
 unfold QnG at h
 rcases Qal h with ⟨h0,h⟩|⟨h0,h⟩
 ·obtain rfl:=Option.some.inj h
  exact gr 8 [] [nL Qaj.enc l,bT h0]
 ·obtain ⟨x0,h1,h⟩:=Qae h
  obtain rfl:=Option.some.inj h
  exact gr 9 [] [nL Qaj.enc l,bF h0,cE Qaj.enc h1,nL e_i64 x0.cap]
theorem QsT {a b} {rv:Int} (h:QoG a b=some rv):AFn Tryz.prog 166 [.one (lI a),.one (lI b)] [] (one (lI rv)) []:=by
 refine QaT Tryz.func166 (by kernel_rfl) (by kernel_rfl) (fun Γ=>?_)
 unfold QoG at h
 obtain rfl:=Option.some.inj h
 exact gr 4 [] []
def Qkk (Γ:Gam) (rv:List Int×Int) (cf:Cf):Prop:=Go Tryz.prog Tryz.f164 [] Γ (.tup [.one (lL 1 rv.1 e_i64),.one (lI rv.2)]) [] cf
def Qh1 (Γ:Gam) (rv:List Int×Int) (a:List Int) (b:List Int) (l:List Int) (l1:List Int) (v:Int):Prop:=Qkk Γ rv ⟨[.c 244,.l 244,.b 0,.c 31],⟨38,[vL 0 1 a e_i64,vL 1 1 b e_i64,(2,one (.fn (.func 166) [])),vO 8 0 1 l1 e_i64,vI 19 (lenI a),vI 20 v],[oS 1 3 l1 e_i64]⟩⟩
def QhJ (Γ:Gam) (rv:List Int×Int) (a:List Int) (b:List Int) (l:List Int) (l2:List Int):Prop:=Qkk Γ rv ⟨[.c 31],⟨38,[vO 8 0 1 l2 e_i64],[oS 1 3 l2 e_i64]⟩⟩
theorem Qmk (Γ:Gam) (rv:List Int×Int) {a b l} {s:List Int×Int} {e:List Int} (h:loopF (fun s=>QbL a b l s.1 s.2) s=some e) (hD:QhJ Γ rv a b l e):Qh1 Γ rv a b l s.1 s.2:=by
 refine QaN (C:=fun (s:List Int×Int)=>Qh1 Γ rv a b l s.1 s.2) (D:=fun (e:List Int)=>QhJ Γ rv a b l e) ?_ h hD
 clear h hD s e
 rintro ⟨l1,v⟩ z_ h hI hE
 replace h:QbL a b l l1 v=_:=h
 unfold QbL at h
 rcases Qal h with ⟨h2,h⟩|⟨h2,h⟩
 ·obtain ⟨x0,h3,h⟩:=Qae h
  obtain ⟨x1,h4,h⟩:=Qae h
  obtain ⟨r,h5,h⟩:=Qae h
  obtain ⟨x2,h6,h⟩:=Qae h
  exact gn 13 [0,1,2,8,19,20] [0] [bT h2,hH (.draw 13 []),cE e_i64 h3,cE e_i64 h4,cC (QsT h5),oO (getLo h6),oO (getHi e_i64 h6),rE e_i64 h6,hH (.rows ((setI l1 v r).map e_i64)),hH (.relen 0 ((setI l1 v r).map e_i64).length),oO (setM e_i64 l1 v r),rp 2 (oO (QsS e_i64 l1 v r))] (hI _ (oJ h))
 ·exact gn 5 [8] [0] [bF h2] (hE _ (oJ h))
theorem QnT {a b} {rv:List Int×Int} (h:Qgl a b=some rv):AFn Tryz.prog 164 [.one (lL 1 a e_i64),.one (lL 1 b e_i64),.one (.fn (.func 166) [])] [] (.tup [.one (lL 1 rv.1 e_i64),.one (lI rv.2)]) []:=by
 refine QaT Tryz.func164 (by kernel_rfl) (by kernel_rfl) (fun Γ=>?_)
 unfold Qgl at h
 rcases Qal h with ⟨h0,h⟩|⟨h0,h⟩
 ·obtain rfl:=Option.some.inj h
  exact gr 8 [] [nL e_i64 a,nL e_i64 b,bT h0,hW 4,hH (.nilS 6 0 1)]
 ·obtain ⟨l,h1,h⟩:=Qae h
  obtain ⟨e0,h7,h⟩:=Qae h
  refine gn 14 [0,1,2,8,19,20] [0] [nL e_i64 a,nL e_i64 b,bF h0,nL e_i64 a,hH (.cells [lI 0]),hH (.rows (l.map e_i64)),oO (mk1 h1),oO (mk2 h1),oO (mk3 h1),oO (mk4 h1),oO (mk5 e_i64 h1),nL e_i64 a] (Qmk Γ rv h7 ?_)
  obtain ⟨l2,rfl⟩:∃ x,x=e0:=⟨_,rfl⟩
  replace h:(some (l2,0):Option (List Int×Int))=some _:=h
  obtain rfl:=Option.some.inj h
  exact gr 2 [] [hW 5,hH (.frz 0),rp 3 (eL l2 e_i64)]
theorem QrE {a b} {rv:List Int×Int} (h:QpM a b=some rv):AFn Tryz.prog 141 [.one (lL 1 a e_i64),.one (lL 1 b e_i64)] [] (.tup [.one (lL 1 rv.1 e_i64),.one (lI rv.2)]) []:=by
 refine QaT Tryz.func141 (by kernel_rfl) (by kernel_rfl) (fun Γ=>?_)
 unfold QpM at h
 obtain ⟨r,h0,h⟩:=Qae h
 obtain rfl:=Option.some.inj h
 exact gr 4 [] [cC (QnT h0)]
def QqD (Γ:Gam) (rv:List (List Int)×Int) (cf:Cf):Prop:=Go Tryz.prog Tryz.f110 [] Γ (.tup [.one (lL 1 rv.1 QgB),.one (lI rv.2)]) [] cf
def Qnz (Γ:Gam) (rv:List (List Int)×Int) (x0:Qac) (r:Qad) (l:List (List Int)) (now:List Int) (v:Int):Prop:=QqD Γ rv ⟨[.c 2036,.l 2036,.b 0,.c 255],⟨67,[vP 2 0 6,vL 9 1 now e_i64,vO 10 1 1 l QgB,vL 37 2 r.visits Qab.enc,vI 38 (lenI r.visits),vI 39 v],[oX 6 30 (Qac.enc x0),oS 1 42 l QgB]⟩⟩
def Qm0 (Γ:Gam) (rv:List (List Int)×Int) (x0:Qac) (r:Qad) (l1:List (List Int)):Prop:=QqD Γ rv ⟨[.c 255],⟨67,[vO 10 0 1 l1 QgB],[oS 1 42 l1 QgB]⟩⟩
theorem QqP (Γ:Gam) (rv:List (List Int)×Int) {x0 r} {s:List (List Int)×List Int×Int} {e:(List (List Int))⊕(List (List Int)×Int)} (h:loopF (fun s=>Qdq x0 r s.1 s.2.1 s.2.2) s=some e) (hD:sel e (fun e=>Qm0 Γ rv x0 r e) (fun e=>e=rv)):Qnz Γ rv x0 r s.1 s.2.1 s.2.2:=by
 refine QaN (C:=fun (s:List (List Int)×List Int×Int)=>Qnz Γ rv x0 r s.1 s.2.1 s.2.2) (D:=fun (e:(List (List Int))⊕(List (List Int)×Int))=>sel e (fun e=>Qm0 Γ rv x0 r e) (fun e=>e=rv)) ?_ h hD
 clear h hD s e
 rintro ⟨l,now,v⟩ z_ h hI hE
 replace h:Qdq x0 r l now v=_:=h
 unfold Qdq at h
 rcases Qal h with ⟨h6,h⟩|⟨h6,h⟩
 ·obtain ⟨x1,h7,h⟩:=Qae h
  rcases Qal h with ⟨h8,h⟩|⟨h8,h⟩
  ·obtain ⟨x2,h9,h⟩:=Qae h
   obtain ⟨r5,h10,h⟩:=Qae h
   rcases Qal h with ⟨h11,h⟩|⟨h11,h⟩
   ·obtain rfl:=(hE _ (oJ h):_=rv)
    exact gr 24 [] [bT h6,cE Qab.enc h7,bT h8,cE Qag.enc h9,cC (QrE h10),bT h11,hW 5,hH (.nilS 4 0 1)]
   ·obtain ⟨h12,h⟩:=Qax h
    exact gn 27 [2,9,10,37,38,39] [0,4] [bT h6,cE Qab.enc h7,bT h8,cE Qag.enc h9,cC (QrE h10),bF h11,oO (Eq.refl ([r5.1].map QgB).length),aO QgB h12] (hI _ (oJ h))
  ·obtain ⟨x3,h13,h⟩:=Qae h
   obtain ⟨r6,h14,h⟩:=Qae h
   rcases Qal h with ⟨h15,h⟩|⟨h15,h⟩
   ·obtain rfl:=(hE _ (oJ h):_=rv)
    exact gr 24 [] [bT h6,cE Qab.enc h7,bF h8,cE Qag.enc h13,cC (Qpp h14),bT h15,hW 5,hH (.nilS 4 0 1)]
   ·obtain ⟨h16,h⟩:=Qax h
    exact gn 27 [2,9,10,37,38,39] [0,4] [bT h6,cE Qab.enc h7,bF h8,cE Qag.enc h13,cC (Qpp h14),bF h15,oO (Eq.refl ([r6.1].map QgB).length),aO QgB h16] (hI _ (oJ h))
 ·exact gn 5 [10] [1] [bF h6] (hE _ (oJ h))
theorem QmI {x0 r} {rv:List (List Int)×Int} (h:Ql7 x0 r=some rv):AFn Tryz.prog 110 [.agg (Qac.enc x0),.agg (Qad.enc r)] [] (.tup [.one (lL 1 rv.1 QgB),.one (lI rv.2)]) []:=by
 refine QaT Tryz.func110 (by kernel_rfl) (by kernel_rfl) (fun Γ=>?_)
 unfold Ql7 at h
 obtain ⟨r1,h0,h⟩:=Qae h
 rcases Qal h with ⟨h1,h⟩|⟨h1,h⟩
 ·obtain rfl:=Option.some.inj h
  exact gr 10 [] [cC (Qdc h0),bT h1,hW 5,hH (.nilS 4 0 1)]
 ·obtain ⟨r2,h2,h⟩:=Qae h
  rcases Qal h with ⟨h3,h⟩|⟨h3,h⟩
  ·obtain rfl:=Option.some.inj h
   exact gr 17 [] [cC (Qdc h0),bF h1,cC (QiV h2),bT h3,hW 5,hH (.nilS 4 0 1)]
  ·obtain ⟨r3,h4,h⟩:=Qae h
   obtain ⟨r4,h5,h⟩:=Qae h
   obtain ⟨e0,h17,h⟩:=Qae h
   refine gn 25 [2,9,10,37,38,39] [0,2] [cC (Qdc h0),bF h1,cC (QiV h2),bF h3,hH (.draw 7 []),cC (Qts h4),cC (QsG h5),nL Qab.enc r.visits] (QqP Γ rv h17 ?_)
   rcases e0 with e0|e0
   ·obtain ⟨l1,rfl⟩:∃ x,x=e0:=⟨_,rfl⟩
    replace h:(some (l1,0):Option (List (List Int)×Int))=some _:=h
    obtain rfl:=Option.some.inj h
    exact gr 2 [] [hW 5,hH (.frz 0),rp 3 (eL l1 QgB)]
   ·obtain ⟨r7,rfl⟩:∃ x,x=e0:=⟨_,rfl⟩
    replace h:(some r7:Option (List (List Int)×Int))=some _:=h
    exact Option.some.inj h
def QrC (Γ:Gam) (rv:Bool) (cf:Cf):Prop:=Go Tryz.prog Tryz.f113 [] Γ (one (.bool rv)) [] cf
def Qo5 (Γ:Gam) (rv:Bool) (a:List Int) (capacity:List Int) (v:Int):Prop:=QrC Γ rv ⟨[.c 116,.l 116,.b 0,.c 15],⟨26,[vL 1 1 capacity e_i64,vL 12 1 a e_i64,vI 13 (lenI a),vI 14 v],[]⟩⟩
def QnS (Γ:Gam) (rv:Bool) (a:List Int) (capacity:List Int):Prop:=QrC Γ rv ⟨[.c 15],⟨26,[],[]⟩⟩
theorem QrD (Γ:Gam) (rv:Bool) {a capacity} {s:Int} {e:(Unit)⊕(Bool)} (h:loopF (fun s=>Qe9 a capacity s) s=some e) (hD:sel e (fun e=>QnS Γ rv a capacity) (fun e=>e=rv)):Qo5 Γ rv a capacity s:=by
 refine QaN (C:=fun (s:Int)=>Qo5 Γ rv a capacity s) (D:=fun (e:(Unit)⊕(Bool))=>sel e (fun e=>QnS Γ rv a capacity) (fun e=>e=rv)) ?_ h hD
 clear h hD s e
 intro v z_ h hI hE
 replace h:Qe9 a capacity v=_:=h
 unfold Qe9 at h
 rcases Qal h with ⟨h1,h⟩|⟨h1,h⟩
 ·obtain ⟨x0,h2,h⟩:=Qae h
  obtain ⟨x1,h3,h⟩:=Qae h
  rcases Qal h with ⟨h4,h⟩|⟨h4,h⟩
  ·obtain rfl:=(hE _ (oJ h):_=rv)
   exact gr 14 [] [bT h1,cE e_i64 h2,cE e_i64 h3,bT h4]
  ·exact gn 16 [1,12,13,14] [] [bT h1,cE e_i64 h2,cE e_i64 h3,bF h4] (hI _ (oJ h))
 ·exact gn 5 [] [] [bF h1] (hE _ (oJ h))
theorem QtB {a capacity} {rv:Bool} (h:QnR a capacity=some rv):AFn Tryz.prog 113 [.one (lL 1 a e_i64),.one (lL 1 capacity e_i64)] [] (one (.bool rv)) []:=by
 refine QaT Tryz.func113 (by kernel_rfl) (by kernel_rfl) (fun Γ=>?_)
 unfold QnR at h
 rcases Qal h with ⟨h0,h⟩|⟨h0,h⟩
 ·obtain rfl:=Option.some.inj h
  exact gr 8 [] [nL e_i64 a,nL e_i64 capacity,bT h0]
 ·obtain ⟨e0,h5,h⟩:=Qae h
  refine gn 12 [1,12,13,14] [] [nL e_i64 a,nL e_i64 capacity,bF h0,nL e_i64 a] (QrD Γ rv h5 ?_)
  rcases e0 with e0|e0
  ·replace h:(some true:Option Bool)=some _:=h
   obtain rfl:=Option.some.inj h
   exact gr 2 [] []
  ·obtain ⟨r,rfl⟩:∃ x,x=e0:=⟨_,rfl⟩
   replace h:(some r:Option Bool)=some _:=h
   exact Option.some.inj h
theorem QoZ {a c c1} {rv:Bool} (h:QmH a c c1=some rv):AFn Tryz.prog 112 [.one (lL 1 a e_i64),.one (.ip (Qac.enc c) 0),.one (.ip (Qad.enc c1) 0)] [] (one (.bool rv)) []:=by
 refine QaT Tryz.func112 (by kernel_rfl) (by kernel_rfl) (fun Γ=>?_)
 unfold QmH at h
 obtain ⟨x0,h0,h⟩:=Qae h
 obtain ⟨r,h1,h⟩:=Qae h
 obtain rfl:=Option.some.inj h
 exact gr 4 [] [cE Qaj.enc h0,cC (QtB h1)]
def QdK (Γ:Gam) (rv:Int) (cf:Cf):Prop:=Go Tryz.prog Tryz.f142 [] Γ (one (lI rv)) [] cf
def Qdd (Γ:Gam) (rv:Int) (s0:List (List Int)) (c:Qac) (c1:Qad) (v:Int):Prop:=QdK Γ rv ⟨[.c 52,.l 52,.b 0,.c 7],⟨19,[vL 0 1 s0 QgB,(1,one (.fn (.func 112) [.ip (Qac.enc c) 0,.ip (Qad.enc c1) 0])),vI 7 (lenI s0),vI 8 v],[]⟩⟩
def Qc6 (Γ:Gam) (rv:Int) (s0:List (List Int)) (c:Qac) (c1:Qad):Prop:=QdK Γ rv ⟨[.c 7],⟨19,[],[]⟩⟩
theorem Qf5 (Γ:Gam) (rv:Int) {s0 c c1} {s:Int} {e:(Unit)⊕(Int)} (h:loopF (fun s=>QaJ s0 c c1 s) s=some e) (hD:sel e (fun e=>Qc6 Γ rv s0 c c1) (fun e=>e=rv)):Qdd Γ rv s0 c c1 s:=by
 refine QaN (C:=fun (s:Int)=>Qdd Γ rv s0 c c1 s) (D:=fun (e:(Unit)⊕(Int))=>sel e (fun e=>Qc6 Γ rv s0 c c1) (fun e=>e=rv)) ?_ h hD
 clear h hD s e
 intro v z_ h hI hE
 replace h:QaJ s0 c c1 v=_:=h
 unfold QaJ at h
 rcases Qal h with ⟨h0,h⟩|⟨h0,h⟩
 ·obtain ⟨x0,h1,h⟩:=Qae h
  obtain ⟨r,h2,h⟩:=Qae h
  rcases Qal h with ⟨h3,h⟩|⟨h3,h⟩
  ·obtain rfl:=(hE _ (oJ h):_=rv)
   exact gr 14 [] [bT h0,cE QgB h1,cC (QoZ h2),bT h3]
  ·exact gn 16 [0,1,7,8] [] [bT h0,cE QgB h1,cC (QoZ h2),bF h3] (hI _ (oJ h))
 ·exact gn 5 [] [] [bF h0] (hE _ (oJ h))
theorem Qgy {s0 c c1} {rv:Int} (h:Qbw s0 c c1=some rv):AFn Tryz.prog 142 [.one (lL 1 s0 QgB),.one (.fn (.func 112) [.ip (Qac.enc c) 0,.ip (Qad.enc c1) 0])] [] (one (lI rv)) []:=by
 refine QaT Tryz.func142 (by kernel_rfl) (by kernel_rfl) (fun Γ=>?_)
 unfold Qbw at h
 obtain ⟨e0,h4,h⟩:=Qae h
 refine gn 7 [0,1,7,8] [] [nL QgB s0] (Qf5 Γ rv h4 ?_)
 rcases e0 with e0|e0
 ·replace h:(some (-1):Option Int)=some _:=h
  obtain rfl:=Option.some.inj h
  exact gr 2 [] []
 ·obtain ⟨r1,rfl⟩:∃ x,x=e0:=⟨_,rfl⟩
  replace h:(some r1:Option Int)=some _:=h
  exact Option.some.inj h
theorem Qc5 {s0 c c1} {rv:Bool} (h:QbH s0 c c1=some rv):AFn Tryz.prog 111 [.one (lL 1 s0 QgB),.one (.fn (.func 112) [.ip (Qac.enc c) 0,.ip (Qad.enc c1) 0])] [] (one (.bool rv)) []:=by
 refine QaT Tryz.func111 (by kernel_rfl) (by kernel_rfl) (fun Γ=>?_)
 unfold QbH at h
 obtain ⟨r,h0,h⟩:=Qae h
 obtain rfl:=Option.some.inj h
 exact gr 4 [] [cC (Qgy h0)]
theorem Qny {x0 r} {rv:Int} (h:Qnx x0 r=some rv):AFn Tryz.prog 82 [.agg (Qac.enc x0),.agg (Qad.enc r)] [] (one (lI rv)) []:=by
 refine QaT Tryz.func82 (by kernel_rfl) (by kernel_rfl) (fun Γ=>?_)
 unfold Qnx at h
 rcases Qal h with ⟨h0,h⟩|⟨h0,h⟩
 ·obtain rfl:=Option.some.inj h
  exact gr 8 [] [rp 5 hP,rp 3 (oI ((ltI r.type_ 0)=false)),nL Qaj.enc x0.types,hP,hP,rp 2 (oI ((ltI r.type_ 0)=false)),oR True ((ltI r.type_ 0)=false),bT h0]
 ·obtain ⟨r1,h1,h⟩:=Qae h
  rcases Qal h with ⟨h2,h⟩|⟨h2,h⟩
  ·obtain rfl:=Option.some.inj h
   exact gr 15 [] [rp 5 hP,rp 3 (oI ((ltI r.type_ 0)=false)),nL Qaj.enc x0.types,hP,hP,rp 2 (oI ((ltI r.type_ 0)=false)),oR True ((ltI r.type_ 0)=false),bF h0,cC (QmI h1),bT h2]
  ·obtain ⟨r2,h3,h⟩:=Qae h
   rcases Qal h with ⟨h4,h⟩|⟨h4,h⟩
   ·obtain rfl:=Option.some.inj h
    exact gr 20 [] [rp 5 hP,rp 3 (oI ((ltI r.type_ 0)=false)),nL Qaj.enc x0.types,hP,hP,rp 2 (oI ((ltI r.type_ 0)=false)),oR True ((ltI r.type_ 0)=false),bF h0,cC (QmI h1),bF h2,cC (Qc5 h3),bT h4]
   ·obtain rfl:=Option.some.inj h
    exact gr 21 [] [rp 5 hP,rp 3 (oI ((ltI r.type_ 0)=false)),nL Qaj.enc x0.types,hP,hP,rp 2 (oI ((ltI r.type_ 0)=false)),oR True ((ltI r.type_ 0)=false),bF h0,cC (QmI h1),bF h2,cC (Qc5 h3),bF h4]
def Qur (Γ:Gam) (rv:Qau×Int) (cf:Cf):Prop:=Go Tryz.prog Tryz.f143 [] Γ (.tup [.agg [lI rv.1.place,lI rv.1.open_,lI rv.1.close,lI rv.1.service],.one (lI rv.2)]) [] cf
theorem Qoc (Γ:Gam) (rv:Qau×Int) {x1} (h:QjI x1=some rv):Qur Γ rv ⟨[.c 31],⟨32,[vP 4 0 4,vP 6 1 4],[oX 4 72 [lI 0,lI 0,lI 0,lI 0],oX 4 72 (Qau.enc x1)]⟩⟩:=by
 unfold QjI at h
 rcases Qal h with ⟨h4,h⟩|⟨h4,h⟩
 ·obtain rfl:=Option.some.inj h
  exact gr 6 [] [bT h4]
 ·obtain rfl:=Option.some.inj h
  exact gr 7 [] [bF h4]
theorem QqL {l v} {rv:Qau×Int} (h:Qob l v=some rv):AFn Tryz.prog 143 [.one (lL 16 l Qag.enc),.agg (Qab.enc v)] [] (.tup [.agg [lI rv.1.place,lI rv.1.open_,lI rv.1.close,lI rv.1.service],.one (lI rv.2)]) []:=by
 refine QaT Tryz.func143 (by kernel_rfl) (by kernel_rfl) (fun Γ=>?_)
 unfold Qob at h
 obtain ⟨r,h0,h⟩:=Qae h
 rcases Qal h with ⟨h1,h⟩|⟨h1,h⟩
 ·obtain ⟨x0,h2,h⟩:=Qae h
  rcases Qal h with ⟨h3,h⟩|⟨h3,h⟩
  ·exact gn 14 [4,6] [1,2] [cC (QgZ h0),nF h1,cE Qag.enc h2,bT h3,cE Qag.enc h2] (Qoc Γ rv h)
  ·exact gn 14 [4,6] [1,2] [cC (QgZ h0),nF h1,cE Qag.enc h2,bF h3] (Qoc Γ rv h)
 ·obtain rfl:=Option.some.inj h
  exact gr 8 [] [cC (QgZ h0),nT h1]
def Qrn (Γ:Gam) (rv:Qaw×Bool) (cf:Cf):Prop:=Go Tryz.prog Tryz.f114 [] Γ (.tup [.agg [lL 1 rv.1.x.net.places e_str,lL 6 rv.1.x.net.arcs Qas.enc,lL 14 rv.1.x.types Qaj.enc,lL 16 rv.1.x.orders Qag.enc,lL 2 rv.1.x.apart QaW.enc,lL 2 rv.1.x.before QaW.enc,.str rv.1.t.name,lI rv.1.t.count,lI rv.1.t.from_,lI rv.1.t.to_,lL 1 rv.1.t.cap e_i64,lI rv.1.t.skills,lI rv.1.t.profile,lI rv.1.t.open_,lI rv.1.t.close,lI rv.1.t.drive,lI rv.1.t.rest_,lI rv.1.t.fixed,lI rv.1.t.perMile,lI rv.1.t.perTick,lI rv.1.r.type_,lI rv.1.r.start,lL 1 rv.1.r.rests Qdt,lL 2 rv.1.r.visits Qab.enc,lL 4 rv.1.stops Qau.enc],.one (.bool rv.2)]) [] cf
def Qo2 (Γ:Gam) (rv:Qaw×Bool) (x0:Qac) (r:Qad) (x1:Qaj) (l:List Qau) (v:Int):Prop:=Qrn Γ rv ⟨[.c 244,.l 244,.b 0,.c 31],⟨78,[vP 2 0 6,vP 4 1 25,vP 6 2 25,vL 49 2 r.visits Qab.enc,vI 50 (lenI r.visits),vI 51 v],[oX 6 30 (Qac.enc x0),oX 25 174 [.nils,.nils,.nils,.nils,.nils,.nils,.str ByteArray.empty,lI 0,lI 0,lI 0,.nils,lI 0,lI 0,lI 0,lI 0,lI 0,lI 0,lI 0,lI 0,lI 0,lI 0,lI 0,.nils,.nils,.nils],oX 25 174 [lL 1 x0.net.places e_str,lL 6 x0.net.arcs Qas.enc,lL 14 x0.types Qaj.enc,lL 16 x0.orders Qag.enc,lL 2 x0.apart QaW.enc,lL 2 x0.before QaW.enc,.str x1.name,lI x1.count,lI x1.from_,lI x1.to_,lL 1 x1.cap e_i64,lI x1.skills,lI x1.profile,lI x1.open_,lI x1.close,lI x1.drive,lI x1.rest_,lI x1.fixed,lI x1.perMile,lI x1.perTick,lI r.type_,lI r.start,lL 1 r.rests Qdt,lL 2 r.visits Qab.enc,lO 3 4 l Qau.enc],oS 4 72 l Qau.enc]⟩⟩
def QnE (Γ:Gam) (rv:Qaw×Bool) (x0:Qac) (r:Qad) (x1:Qaj) (l1:List Qau):Prop:=Qrn Γ rv ⟨[.c 31],⟨78,[vP 4 0 25,vP 6 1 25],[oX 25 174 [.nils,.nils,.nils,.nils,.nils,.nils,.str ByteArray.empty,lI 0,lI 0,lI 0,.nils,lI 0,lI 0,lI 0,lI 0,lI 0,lI 0,lI 0,lI 0,lI 0,lI 0,lI 0,.nils,.nils,.nils],oX 25 174 [lL 1 x0.net.places e_str,lL 6 x0.net.arcs Qas.enc,lL 14 x0.types Qaj.enc,lL 16 x0.orders Qag.enc,lL 2 x0.apart QaW.enc,lL 2 x0.before QaW.enc,.str x1.name,lI x1.count,lI x1.from_,lI x1.to_,lL 1 x1.cap e_i64,lI x1.skills,lI x1.profile,lI x1.open_,lI x1.close,lI x1.drive,lI x1.rest_,lI x1.fixed,lI x1.perMile,lI x1.perTick,lI r.type_,lI r.start,lL 1 r.rests Qdt,lL 2 r.visits Qab.enc,lO 2 4 l1 Qau.enc],oS 4 72 l1 Qau.enc]⟩⟩
theorem Qro (Γ:Gam) (rv:Qaw×Bool) {x0 r x1} {s:List Qau×Int} {e:(List Qau)⊕(Qaw×Bool)} (h:loopF (fun s=>QhA x0 r x1 s.1 s.2) s=some e) (hD:sel e (fun e=>QnE Γ rv x0 r x1 e) (fun e=>e=rv)):Qo2 Γ rv x0 r x1 s.1 s.2:=by
 refine QaN (C:=fun (s:List Qau×Int)=>Qo2 Γ rv x0 r x1 s.1 s.2) (D:=fun (e:(List Qau)⊕(Qaw×Bool))=>sel e (fun e=>QnE Γ rv x0 r x1 e) (fun e=>e=rv)) ?_ h hD
 clear h hD s e
 rintro ⟨l,v⟩ z_ h hI hE
 replace h:QhA x0 r x1 l v=_:=h
 unfold QhA at h
 rcases Qal h with ⟨h2,h⟩|⟨h2,h⟩
 ·obtain ⟨x2,h3,h⟩:=Qae h
  obtain ⟨r1,h4,h⟩:=Qae h
  rcases Qal h with ⟨h5,h⟩|⟨h5,h⟩
  ·obtain rfl:=(hE _ (oJ h):_=rv)
   exact gr 17 [] [bT h2,cE Qab.enc h3,cC (QqL h4),rp 4 hP,rp 2 (oI ((neI r1.2 0)=false)),oR True ((neI r1.2 0)=false),bT h5,hW 5,hH (.nilB 1 0 1),hH (.nilB 1 1 6),hH (.nilB 1 2 14),hH (.nilB 1 3 16),hH (.nilB 1 4 2),hH (.nilB 1 5 2),hH (.nilB 1 10 1),hH (.nilB 1 22 1),hH (.nilB 1 23 2),hH (.nilB 1 24 4)]
  ·obtain ⟨h6,h⟩:=Qax h
   exact gn 20 [2,4,6,49,50,51] [0,1,2,7] [bT h2,cE Qab.enc h3,cC (QqL h4),rp 4 hP,rp 2 (oI ((neI r1.2 0)=false)),oR True ((neI r1.2 0)=false),bF h5,oO (Eq.refl ([r1.1].map Qau.enc).length),aO Qau.enc h6] (hI _ (oJ h))
 ·exact gn 5 [4,6] [1,2,3] [bF h2] (hE _ (oJ h))
theorem QqI {x0 r} {rv:Qaw×Bool} (h:Qmc x0 r=some rv):AFn Tryz.prog 114 [.agg (Qac.enc x0),.agg (Qad.enc r)] [] (.tup [.agg [lL 1 rv.1.x.net.places e_str,lL 6 rv.1.x.net.arcs Qas.enc,lL 14 rv.1.x.types Qaj.enc,lL 16 rv.1.x.orders Qag.enc,lL 2 rv.1.x.apart QaW.enc,lL 2 rv.1.x.before QaW.enc,.str rv.1.t.name,lI rv.1.t.count,lI rv.1.t.from_,lI rv.1.t.to_,lL 1 rv.1.t.cap e_i64,lI rv.1.t.skills,lI rv.1.t.profile,lI rv.1.t.open_,lI rv.1.t.close,lI rv.1.t.drive,lI rv.1.t.rest_,lI rv.1.t.fixed,lI rv.1.t.perMile,lI rv.1.t.perTick,lI rv.1.r.type_,lI rv.1.r.start,lL 1 rv.1.r.rests Qdt,lL 2 rv.1.r.visits Qab.enc,lL 4 rv.1.stops Qau.enc],.one (.bool rv.2)]) []:=by
 refine QaT Tryz.func114 (by kernel_rfl) (by kernel_rfl) (fun Γ=>?_)
 unfold Qmc at h
 rcases Qal h with ⟨h0,h⟩|⟨h0,h⟩
 ·obtain rfl:=Option.some.inj h
  exact gr 8 [] [rp 5 hP,rp 3 (oI ((ltI r.type_ 0)=false)),nL Qaj.enc x0.types,rp 13 hP,rp 2 (oI ((ltI r.type_ 0)=false)),oR True ((ltI r.type_ 0)=false),rp 2 (oI (((ltI r.type_ 0)||(geI r.type_ (lenI x0.types)))=false)),oR True (((ltI r.type_ 0)||(geI r.type_ (lenI x0.types)))=false),rp 2 (oI ((((ltI r.type_ 0)||(geI r.type_ (lenI x0.types)))||(ltI r.start 0))=false)),oR True ((((ltI r.type_ 0)||(geI r.type_ (lenI x0.types)))||(ltI r.start 0))=false),rp 2 (oI (((((ltI r.type_ 0)||(geI r.type_ (lenI x0.types)))||(ltI r.start 0))||(gtI r.start 4096))=false)),nL Qab.enc r.visits,hP,hP,oI (((((ltI r.type_ 0)||(geI r.type_ (lenI x0.types)))||(ltI r.start 0))||(gtI r.start 4096))=false),oR True (((((ltI r.type_ 0)||(geI r.type_ (lenI x0.types)))||(ltI r.start 0))||(gtI r.start 4096))=false),bT h0,hW 5,hH (.nilB 2 0 1),hH (.nilB 2 1 6),hH (.nilB 2 2 14),hH (.nilB 2 3 16),hH (.nilB 2 4 2),hH (.nilB 2 5 2),hH (.nilB 2 10 1),hH (.nilB 2 22 1),hH (.nilB 2 23 2),hH (.nilB 2 24 4)]
 ·obtain ⟨x1,h1,h⟩:=Qae h
  obtain ⟨e0,h7,h⟩:=Qae h
  refine gn 14 [2,4,6,49,50,51] [0,2,3,4] [rp 5 hP,rp 3 (oI ((ltI r.type_ 0)=false)),nL Qaj.enc x0.types,rp 13 hP,rp 2 (oI ((ltI r.type_ 0)=false)),oR True ((ltI r.type_ 0)=false),rp 2 (oI (((ltI r.type_ 0)||(geI r.type_ (lenI x0.types)))=false)),oR True (((ltI r.type_ 0)||(geI r.type_ (lenI x0.types)))=false),rp 2 (oI ((((ltI r.type_ 0)||(geI r.type_ (lenI x0.types)))||(ltI r.start 0))=false)),oR True ((((ltI r.type_ 0)||(geI r.type_ (lenI x0.types)))||(ltI r.start 0))=false),rp 2 (oI (((((ltI r.type_ 0)||(geI r.type_ (lenI x0.types)))||(ltI r.start 0))||(gtI r.start 4096))=false)),nL Qab.enc r.visits,hP,hP,oI (((((ltI r.type_ 0)||(geI r.type_ (lenI x0.types)))||(ltI r.start 0))||(gtI r.start 4096))=false),oR True (((((ltI r.type_ 0)||(geI r.type_ (lenI x0.types)))||(ltI r.start 0))||(gtI r.start 4096))=false),bF h0,hH (.draw 10 []),cE Qaj.enc h1,nL Qab.enc r.visits,hW 3,hH (.adoptB 3 24 4 72)] (Qro Γ rv h7 ?_)
  rcases e0 with e0|e0
  ·obtain ⟨l1,rfl⟩:∃ x,x=e0:=⟨_,rfl⟩
   replace h:(some ((Qaw.mk x0 x1 r l1),true):Option (Qaw×Bool))=some _:=h
   obtain rfl:=Option.some.inj h
   exact gr 2 [] [hW 5,hH (.frz 2),rp 3 (eL l1 Qau.enc)]
  ·obtain ⟨r2,rfl⟩:∃ x,x=e0:=⟨_,rfl⟩
   replace h:(some r2:Option (Qaw×Bool))=some _:=h
   exact Option.some.inj h
theorem Qlu {p} {rv:Qaf} (h:QcJ p=some rv):AFn Tryz.prog 115 [.agg (Qaw.enc p)] [] (gG [lI rv.ready,lI rv.since,.bool rv.sheet.rest_,lI rv.sheet.depart,lL 4 rv.sheet.times Qar.enc,lI rv.sheet.end_,lI rv.sheet.miles]) []:=by
 refine QaT Tryz.func115 (by kernel_rfl) (by kernel_rfl) (fun Γ=>?_)
 unfold QcJ at h
 obtain rfl:=Option.some.inj h
 exact gr 4 [] [hW 15,hH (.nilB 1 4 4)]
theorem Qc4 {n i} {rv:Bool} (h:QhS n i=some rv):AFn Tryz.prog 179 [.agg (Qai.enc n),.one (lI i)] [] (one (.bool rv)) []:=by
 refine QaT Tryz.func179 (by kernel_rfl) (by kernel_rfl) (fun Γ=>?_)
 unfold QhS at h
 obtain rfl:=Option.some.inj h
 exact gr 4 [] [rp 4 hP,rp 2 (oI ((geI i 0)=true)),nL e_str n.places,hP,hP,rp 2 (oI ((geI i 0)=true)),oR True ((geI i 0)=true)]
theorem Qn8 {a} {rv:Qhz} (h:QlH a=some rv):AFn Tryz.prog 186 [.agg (Qas.enc a)] [] (gG [lI rv.from_,lI rv.to_,lI rv.profile]) []:=by
 refine QaT Tryz.func186 (by kernel_rfl) (by kernel_rfl) (fun Γ=>?_)
 unfold QlH at h
 obtain rfl:=Option.some.inj h
 exact gr 4 [] []
def QpX (Γ:Gam) (rv:Qas×Bool) (cf:Cf):Prop:=Go Tryz.prog Tryz.f180 [] Γ (.tup [.agg [lI rv.1.from_,lI rv.1.to_,lI rv.1.profile,lI rv.1.miles,lL 2 rv.1.travel Qao.enc,lL 2 rv.1.slow Qao.enc],.one (.bool rv.2)]) [] cf
def Qnd (Γ:Gam) (rv:Qas×Bool) (n:Qai) (profile:Int) (from_:Int) (to_:Int) (v:Int):Prop:=QpX Γ rv ⟨[.c 116,.l 116,.b 0,.c 15],⟨31,[vP 8 0 6,vP 10 1 3,vL 18 6 n.arcs Qas.enc,vI 19 (lenI n.arcs),vI 20 v],[oX 6 122 [lI 0,lI 0,lI 0,lI 0,.nils,.nils],oX 3 238 [lI from_,lI to_,lI profile]]⟩⟩
def Qms (Γ:Gam) (rv:Qas×Bool) (n:Qai) (profile:Int) (from_:Int) (to_:Int):Prop:=QpX Γ rv ⟨[.c 15],⟨31,[vP 8 0 6],[oX 6 122 [lI 0,lI 0,lI 0,lI 0,.nils,.nils]]⟩⟩
theorem Qqh (Γ:Gam) (rv:Qas×Bool) {n profile from_ to_} {s:Int} {e:(Unit)⊕(Qas×Bool)} (h:loopF (fun s=>Qgf n profile from_ to_ s) s=some e) (hD:sel e (fun e=>Qms Γ rv n profile from_ to_) (fun e=>e=rv)):Qnd Γ rv n profile from_ to_ s:=by
 refine QaN (C:=fun (s:Int)=>Qnd Γ rv n profile from_ to_ s) (D:=fun (e:(Unit)⊕(Qas×Bool))=>sel e (fun e=>Qms Γ rv n profile from_ to_) (fun e=>e=rv)) ?_ h hD
 clear h hD s e
 intro v z_ h hI hE
 replace h:Qgf n profile from_ to_ v=_:=h
 unfold Qgf at h
 rcases Qal h with ⟨h0,h⟩|⟨h0,h⟩
 ·obtain ⟨x0,h1,h⟩:=Qae h
  obtain ⟨r,h2,h⟩:=Qae h
  rcases Qal h with ⟨h3,h⟩|⟨h3,h⟩
  ·obtain rfl:=(hE _ (oJ h):_=rv)
   exact gr 14 [] [bT h0,cE Qas.enc h1,hH (.draw 4 []),cC (Qn8 h2),bT h3]
  ·exact gn 16 [8,10,18,19,20] [0,1] [bT h0,cE Qas.enc h1,hH (.draw 4 []),cC (Qn8 h2),bF h3] (hI _ (oJ h))
 ·exact gn 5 [8] [0] [bF h0] (hE _ (oJ h))
theorem Qo6 {n profile from_ to_} {rv:Qas×Bool} (h:Qk9 n profile from_ to_=some rv):AFn Tryz.prog 180 [.agg (Qai.enc n),.one (lI profile),.one (lI from_),.one (lI to_)] [] (.tup [.agg [lI rv.1.from_,lI rv.1.to_,lI rv.1.profile,lI rv.1.miles,lL 2 rv.1.travel Qao.enc,lL 2 rv.1.slow Qao.enc],.one (.bool rv.2)]) []:=by
 refine QaT Tryz.func180 (by kernel_rfl) (by kernel_rfl) (fun Γ=>?_)
 unfold Qk9 at h
 obtain ⟨e0,h4,h⟩:=Qae h
 refine gn 9 [8,10,18,19,20] [1,2] [nL Qas.enc n.arcs] (Qqh Γ rv h4 ?_)
 rcases e0 with e0|e0
 ·replace h:(some ((Qas.mk 0 0 0 0 [] []),false):Option (Qas×Bool))=some _:=h
  obtain rfl:=Option.some.inj h
  exact gr 2 [] [hW 5,hH (.nilB 0 4 2),hH (.nilB 0 5 2)]
 ·obtain ⟨r1,rfl⟩:∃ x,x=e0:=⟨_,rfl⟩
  replace h:(some r1:Option (Qas×Bool))=some _:=h
  exact Option.some.inj h
theorem QgU {n least most} {rv:Bool} (h:QfR n least most=some rv):AFn Tryz.prog 190 [.one (lI n),.one (lI least),.one (lI most)] [] (one (.bool rv)) []:=by
 refine QaT Tryz.func190 (by kernel_rfl) (by kernel_rfl) (fun Γ=>?_)
 unfold QfR at h
 obtain rfl:=Option.some.inj h
 exact gr 4 [] [rp 4 hP,rp 2 (oI ((geI n least)=true)),oR True ((geI n least)=true)]
theorem Qr3 {i} {rv:ByteArray} (h:Qos i=some rv):AFn Tryz.prog 204 [.one (lI i)] [] (one (.str rv)) []:=by
 refine QaT Tryz.func204 (by kernel_rfl) (by kernel_rfl) (fun Γ=>?_)
 unfold Qos at h
 rcases Qal h with ⟨h0,h⟩|⟨h0,h⟩
 ·obtain ⟨s0,h1,h⟩:=Qae h
  obtain rfl:=Option.some.inj h
  exact gr 8 [] [bT h0,oO (ss1 h1),oO (ss2 h1),oO (ss3 h1)]
 ·obtain ⟨s1,h2,h⟩:=Qae h
  obtain rfl:=Option.some.inj h
  exact gr 9 [] [bF h0,oO (ss1 h2),oO (ss2 h2),oO (ss3 h2)]
end Go.Proofs.YtpkkaboonnedfaaGreatDoor
