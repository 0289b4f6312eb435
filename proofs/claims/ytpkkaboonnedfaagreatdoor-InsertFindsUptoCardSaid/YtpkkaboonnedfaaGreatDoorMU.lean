/- Part MU of the proof: texts Y0. -/
import Derived.Test.YtpkkaboonnedfaaGreatDoorMT
import Derived.Test.YtpkkaboonnedfaaGreatDoorMC
import Derived.Test.YtpkkaboonnedfaaGreatDoorMI
import Derived.Test.YtpkkaboonnedfaaGreatDoorProg
namespace Go.Proofs.YtpkkaboonnedfaaGreatDoor
set_option linter.unusedVariables false
set_option linter.unusedSectionVars false
set_option linter.unusedSimpArgs false
set_option maxHeartbeats 4000000
set_option maxRecDepth 100000
def QjH (Γ:Gam) (rv:List Qab) (cf:Cf):Prop:=Go Tryz.prog Tryz.f57 [] Γ (one (lL 2 rv Qab.enc)) [] cf
def QhJ (Γ:Gam) (rv:List Qab) (word:ByteArray) (l:List Qab) (l1:List Qab) (i:Int):Prop:=QjH Γ rv ⟨[.c 116,.l 116,.b 0,.c 15],⟨40,[vS 0 word,vL 1 2 l Qab.enc,vO 5 0 2 l1 Qab.enc,vI 6 i],[oS 2 146 l1 Qab.enc]⟩⟩
def Qhg (Γ:Gam) (rv:List Qab) (word:ByteArray) (l:List Qab) (l2:List Qab):Prop:=QjH Γ rv ⟨[.c 15],⟨40,[vO 5 0 2 l2 Qab.enc],[oS 2 146 l2 Qab.enc]⟩⟩
theorem Qkt (Γ:Gam) (rv:List Qab) {word l l1 i at_} {x:(List Qab×Int)⊕(List Qab)} (h:Qfp word l l1 i at_=some x) (hI:∀ s:List Qab×Int,x=.inl s→QhJ Γ rv word l s.1 s.2) (hE:∀ e:List Qab,x=.inr e→Qhg Γ rv word l e):QjH Γ rv ⟨[.c 3731,.b 1,.c 467,.l 116,.b 0,.c 15],⟨40,[vS 0 word,vL 1 2 l Qab.enc,vO 5 0 2 l1 Qab.enc,vI 6 i,vS 7 at_],[oS 2 146 l1 Qab.enc]⟩⟩:=by
 unfold Qfp at h
 obtain ⟨x1,h5,h⟩:=Qae h
 obtain ⟨h6,h⟩:=Qat h
 exact gn 4 [0,1,5,6] [2] [cE Qab.enc h5,oO (Eq.refl ([(Qab.mk x1.err at_)].map Qab.enc).length),aO Qab.enc h6] (hI _ (oJ h))
theorem QpX (Γ:Gam) (rv:List Qab) {word l} {s:List Qab×Int} {e:List Qab} (h:loopF (fun s=>Qeh word l s.1 s.2) s=some e) (hD:Qhg Γ rv word l e):QhJ Γ rv word l s.1 s.2:=by
 refine QaF (C:=fun (s:List Qab×Int)=>QhJ Γ rv word l s.1 s.2) (D:=fun (e:List Qab)=>Qhg Γ rv word l e) ?_ h hD
 clear h hD s e
 rintro ⟨l1,i⟩ z_ h hI hE
 replace h:Qeh word l l1 i=_:=h
 unfold Qeh at h
 rcases Qah h with ⟨h0,h⟩|⟨h0,h⟩
 ·obtain ⟨x0,h1,h⟩:=Qae h
  rcases Qah h with ⟨h2,h⟩|⟨h2,h⟩
  ·exact gn 14 [0,1,5,6,7] [0] [nL Qab.enc l,bT h0,cE Qab.enc h1,nF h2] (Qkt Γ rv h hI hE)
  ·obtain ⟨h3,h⟩:=Qat h
   obtain ⟨h4,h⟩:=Qat h
   exact gn 14 [0,1,5,6,7] [0] [nL Qab.enc l,bT h0,cE Qab.enc h1,nT h2,oO (h3),cE Qab.enc h1,oO (h4)] (Qkt Γ rv h hI hE)
 ·exact gn 5 [5] [0] [nL Qab.enc l,bF h0] (hE _ (oJ h))
theorem QiU {word l} {rv:List Qab} (h:QfY word l=some rv):AFn Tryz.prog 57 [.one (.str word),.one (lL 2 l Qab.enc)] [] (one (lL 2 rv Qab.enc)) []:=by
 refine QaK Tryz.func57 (by kernel_rfl) (by kernel_rfl) (fun Γ=>?_)
 unfold QfY at h
 obtain ⟨e0,h7,h⟩:=Qae h
 refine gn 9 [0,1,5,6] [0] [hW 12,hH (.adopt 5 2 146)] (QpX Γ rv h7 ?_)
 obtain ⟨l2,rfl⟩:∃ x,x=e0:=⟨_,rfl⟩
 replace h:(some l2:Option (List Qab))=some _:=h
 obtain rfl:=Option.some.inj h
 exact gr 2 [] [hW 4,hH (.frz 0),rp 3 (eL l2 Qab.enc)]
def Qic (Γ:Gam) (rv:ByteArray) (cf:Cf):Prop:=Go Tryz.prog Tryz.f91 [] Γ (one (.str rv)) [] cf
def QgJ (Γ:Gam) (rv:ByteArray) (n:Int) (s0:ByteArray) (left:Int) (again:Bool):Prop:=Qic Γ rv ⟨[.c 244,.l 244,.b 0,.c 31],⟨31,[vI 0 n,vS 3 s0,vI 4 left,vB 5 again],[]⟩⟩
def Qgb (Γ:Gam) (rv:ByteArray) (n:Int) (s1:ByteArray):Prop:=Qic Γ rv ⟨[.c 31],⟨31,[vI 0 n,vS 3 s1],[]⟩⟩
theorem QiL (Γ:Gam) (rv:ByteArray) {n s0 left d} {x:(ByteArray×Int×Bool)⊕(ByteArray)} (h:Qdp n s0 left d=some x) (hI:∀ s:ByteArray×Int×Bool,x=.inl s→QgJ Γ rv n s.1 s.2.1 s.2.2) (hE:∀ e:ByteArray,x=.inr e→Qgb Γ rv n e):Qic Γ rv ⟨[.c 7827,.b 1,.c 979,.l 244,.b 0,.c 31],⟨31,[vI 0 n,vS 3 s0,vI 4 left,vI 6 d],[]⟩⟩:=by
 unfold Qdp at h
 obtain ⟨h2,h⟩:=Qat h
 exact gn 6 [0,3,4,5] [] [hH (.ints [(cvK .u8 (addK .i64 48 d))]),oO (Eq.refl ([(cvK .u8 (addK .i64 48 d))].map e_u8).length),oO (Eq.refl (([(cvK .u8 (addK .i64 48 d))].map e_u8):List (List Lf))),oO (h2),oO (oA (n:=10))] (hI _ (oJ h))
theorem Qov (Γ:Gam) (rv:ByteArray) {n} {s:ByteArray×Int×Bool} {e:ByteArray} (h:loopF (fun s=>QfK n s.1 s.2.1 s.2.2) s=some e) (hD:Qgb Γ rv n e):QgJ Γ rv n s.1 s.2.1 s.2.2:=by
 refine QaF (C:=fun (s:ByteArray×Int×Bool)=>QgJ Γ rv n s.1 s.2.1 s.2.2) (D:=fun (e:ByteArray)=>Qgb Γ rv n e) ?_ h hD
 clear h hD s e
 rintro ⟨s0,left,again⟩ z_ h hI hE
 replace h:QfK n s0 left again=_:=h
 unfold QfK at h
 rcases Qah h with ⟨h0,h⟩|⟨h0,h⟩
 ·rcases Qah h with ⟨h1,h⟩|⟨h1,h⟩
  ·exact gn 14 [0,3,4,6] [] [bT h0,oO (oA (n:=10)),bT h1] (QiL Γ rv h hI hE)
  ·exact gn 14 [0,3,4,6] [] [bT h0,oO (oA (n:=10)),bF h1] (QiL Γ rv h hI hE)
 ·exact gn 5 [0,3] [] [bF h0] (hE _ (oJ h))
theorem QbQ {n} {rv:ByteArray} (h:QbT n=some rv):AFn Tryz.prog 91 [.one (lI n)] [] (one (.str rv)) []:=by
 refine QaK Tryz.func91 (by kernel_rfl) (by kernel_rfl) (fun Γ=>?_)
 unfold QbT at h
 obtain ⟨e0,h3,h⟩:=Qae h
 refine gn 11 [0,3,4,5] [] [] (Qov Γ rv h3 ?_)
 obtain ⟨s1,rfl⟩:∃ x,x=e0:=⟨_,rfl⟩
 replace h:(br (ltI n 0) (chk (Qu7.size+s1.size≤9223372036854775807) (some (catS Qu7 s1))) (some s1):Option ByteArray)=some _:=h
 rcases Qah h with ⟨h4,h⟩|⟨h4,h⟩
 ·obtain ⟨h5,h⟩:=Qat h
  obtain rfl:=Option.some.inj h
  exact gr 6 [] [bT h4,oO (h5)]
 ·obtain rfl:=Option.some.inj h
  exact gr 7 [] [bF h4]
theorem QgQ {c} {rv:Bool} (h:QiM c=some rv):AFn Tryz.prog 148 [.one (.int .u8 c)] [] (one (.bool rv)) []:=by
 refine QaK Tryz.func148 (by kernel_rfl) (by kernel_rfl) (fun Γ=>?_)
 unfold QiM at h
 obtain rfl:=Option.some.inj h
 exact gr 4 [] [hP,hP,hP,oI ((geI c 48)=true),oR True ((geI c 48)=true)]
theorem Qid {c} {rv:Bool} (h:QkW c=some rv):AFn Tryz.prog 149 [.one (.int .u8 c)] [] (one (.bool rv)) []:=by
 refine QaK Tryz.func149 (by kernel_rfl) (by kernel_rfl) (fun Γ=>?_)
 unfold QkW at h
 obtain rfl:=Option.some.inj h
 exact gr 4 [] [rp 14 hP,oI ((geI c 97)=true),oR True ((geI c 97)=true),rp 2 (oI (((geI c 97)&&(leI c 122))=false)),oI ((((geI c 97)&&(leI c 122))=false)∧(geI c 65)=true),oI (((geI c 97)&&(leI c 122))=false),oI ((((geI c 97)&&(leI c 122))=false)∧(geI c 65)=true),oR True (((geI c 97)&&(leI c 122))=false),oI ((((geI c 97)&&(leI c 122))||((geI c 65)&&(leI c 90)))=false),oR True ((((geI c 97)&&(leI c 122))||((geI c 65)&&(leI c 90)))=false)]
def QoP (Γ:Gam) (rv:Bool) (cf:Cf):Prop:=Go Tryz.prog Tryz.f119 [] Γ (one (.bool rv)) [] cf
def Qmg (Γ:Gam) (rv:Bool) (s0:ByteArray) (b:UInt8) (i:Int):Prop:=QoP Γ rv ⟨[.c 116,.l 116,.b 0,.c 15],⟨35,[vS 0 s0,vI 3 i],[]⟩⟩
def Qle (Γ:Gam) (rv:Bool) (s0:ByteArray) (b:UInt8):Prop:=QoP Γ rv ⟨[.c 15],⟨35,[],[]⟩⟩
theorem QqI (Γ:Gam) (rv:Bool) {s0 b} {s:Int} {e:(Unit)⊕(Bool)} (h:loopF (fun s=>QeG s0 b s) s=some e) (hD:sel e (fun e=>Qle Γ rv s0 b) (fun e=>e=rv)):Qmg Γ rv s0 b s:=by
 refine QaF (C:=fun (s:Int)=>Qmg Γ rv s0 b s) (D:=fun (e:(Unit)⊕(Bool))=>sel e (fun e=>Qle Γ rv s0 b) (fun e=>e=rv)) ?_ h hD
 clear h hD s e
 intro i z_ h hI hE
 replace h:QeG s0 b i=_:=h
 unfold QeG at h
 rcases Qah h with ⟨h4,h⟩|⟨h4,h⟩
 ·obtain ⟨b1,h5,h⟩:=Qae h
  obtain ⟨r1,h6,h⟩:=Qae h
  rcases Qah h with ⟨h7,h⟩|⟨h7,h⟩
  ·exact gn 14 [0,3] [] [bT h4,yE h5,cC (Qid h6),rp 6 (nF h7),fF] (hI _ (oJ h))
  ·obtain ⟨r2,h8,h⟩:=Qae h
   rcases Qah h with ⟨h9,h⟩|⟨h9,h⟩
   ·exact gn 14 [0,3] [] [bT h4,yE h5,cC (Qid h6),rp 3 (nT h7),yE h5,nT h7,cC (QgQ h8),nT h7,nT h7,nF h9] (hI _ (oJ h))
   ·obtain rfl:=(hE _ (oJ h):_=rv)
    exact gr 12 [] [bT h4,yE h5,cC (Qid h6),rp 3 (nT h7),yE h5,nT h7,cC (QgQ h8),nT h7,nT h7,nT h9]
 ·exact gn 5 [] [] [bF h4] (hE _ (oJ h))
theorem QeH {s0} {rv:Bool} (h:Qfz s0=some rv):AFn Tryz.prog 119 [.one (.str s0)] [] (one (.bool rv)) []:=by
 refine QaK Tryz.func119 (by kernel_rfl) (by kernel_rfl) (fun Γ=>?_)
 unfold Qfz at h
 rcases Qah h with ⟨h0,h⟩|⟨h0,h⟩
 ·obtain rfl:=Option.some.inj h
  exact gr 8 [] [rp 4 hP,rp 2 (oI ((ltI (sizeS s0) 1)=false)),oR True ((ltI (sizeS s0) 1)=false),rp 4 (bT h0),tT]
 ·obtain ⟨b,h1,h⟩:=Qae h
  obtain ⟨r,h2,h⟩:=Qae h
  rcases Qah h with ⟨h3,h⟩|⟨h3,h⟩
  ·obtain rfl:=Option.some.inj h
   exact gr 8 [] [rp 4 hP,rp 2 (oI ((ltI (sizeS s0) 1)=false)),oR True ((ltI (sizeS s0) 1)=false),bF h0,bF h0,yE h1,bF h0,cC (QgQ h2),bF h0,bT h3]
  ·obtain ⟨e0,h10,h⟩:=Qae h
   refine gn 12 [0,3] [] [rp 4 hP,rp 2 (oI ((ltI (sizeS s0) 1)=false)),oR True ((ltI (sizeS s0) 1)=false),bF h0,bF h0,yE h1,bF h0,cC (QgQ h2),bF h0,bF h3] (QqI Γ rv h10 ?_)
   rcases e0 with e0|e0
   ·replace h:(some true:Option Bool)=some _:=h
    obtain rfl:=Option.some.inj h
    exact gr 2 [] []
   ·obtain ⟨r3,rfl⟩:∃ x,x=e0:=⟨_,rfl⟩
    replace h:(some r3:Option Bool)=some _:=h
    exact Option.some.inj h
def Qhv (Γ:Gam) (rv:List Qab) (cf:Cf):Prop:=Go Tryz.prog Tryz.f120 [] Γ (one (lL 2 rv Qab.enc)) [] cf
def QhH (Γ:Gam) (rv:List Qab) (l:List Qam) (l2:List Qab) (i:Int):Prop:=Qhv Γ rv ⟨[.c 244,.l 244,.b 0,.c 31],⟨88,[vL 0 2 l Qam.enc,vO 3 0 2 l2 Qab.enc,vI 4 i],[oS 2 146 l2 Qab.enc]⟩⟩
def Qg7 (Γ:Gam) (rv:List Qab) (l:List Qam) (l4:List Qab):Prop:=Qhv Γ rv ⟨[.c 31],⟨88,[vO 3 0 2 l4 Qab.enc],[oS 2 146 l4 Qab.enc]⟩⟩
theorem QjX (Γ:Gam) (rv:List Qab) {l i x0 l3} {x:(List Qab×Int)⊕(List Qab)} (h:Qd2 l i x0 l3=some x) (hI:∀ s:List Qab×Int,x=.inl s→QhH Γ rv l s.1 s.2) (hE:∀ e:List Qab,x=.inr e→Qg7 Γ rv l e):Qhv Γ rv ⟨[.c 7827,.b 1,.c 979,.l 244,.b 0,.c 31],⟨88,[vL 0 2 l Qam.enc,vO 3 0 2 l3 Qab.enc,vI 4 i,vP 5 1 2],[oS 2 146 l3 Qab.enc,oX 2 119 (Qam.enc x0)]⟩⟩:=by
 unfold Qd2 at h
 rcases Qah h with ⟨h7,h⟩|⟨h7,h⟩
 ·obtain ⟨x1,h8,h⟩:=Qae h
  rcases Qah h with ⟨h9,h⟩|⟨h9,h⟩
  ·obtain ⟨r1,h10,h⟩:=Qae h
   obtain ⟨h11,h⟩:=Qat h
   exact gn 7 [0,3,4] [3] [hH (.draw 24 []),rp 6 (bT h7),cE Qam.enc h8,rp 4 (bT h7),rp 9 (bT h9),bT h7,bT h9,bT h7,tT,cC (QbQ h10),oO (Eq.refl ([(Qab.mk 13 r1)].map Qab.enc).length),aO Qab.enc h11] (hI _ (oJ h))
  ·rcases Qah h with ⟨h12,h⟩|⟨h12,h⟩
   ·obtain ⟨r2,h13,h⟩:=Qae h
    obtain ⟨h14,h⟩:=Qat h
    exact gn 7 [0,3,4] [3] [hH (.draw 24 []),rp 6 (bT h7),cE Qam.enc h8,rp 4 (bT h7),rp 6 (bF h9),cE Qam.enc h8,rp 3 (bF h9),bT h7,bF h9,bT h7,bT h12,cC (QbQ h13),oO (Eq.refl ([(Qab.mk 13 r2)].map Qab.enc).length),aO Qab.enc h14] (hI _ (oJ h))
   ·exact gn 7 [0,3,4] [0] [hH (.draw 24 []),rp 6 (bT h7),cE Qam.enc h8,rp 4 (bT h7),rp 6 (bF h9),cE Qam.enc h8,rp 3 (bF h9),bT h7,bF h9,bT h7,bF h12] (hI _ (oJ h))
 ·exact gn 7 [0,3,4] [0] [hH (.draw 24 []),rp 10 (bF h7),rp 9 kF,bF h7,bF h7,fF] (hI _ (oJ h))
theorem QpO (Γ:Gam) (rv:List Qab) {l} {s:List Qab×Int} {e:List Qab} (h:loopF (fun s=>Qdl l s.1 s.2) s=some e) (hD:Qg7 Γ rv l e):QhH Γ rv l s.1 s.2:=by
 refine QaF (C:=fun (s:List Qab×Int)=>QhH Γ rv l s.1 s.2) (D:=fun (e:List Qab)=>Qg7 Γ rv l e) ?_ h hD
 clear h hD s e
 rintro ⟨l2,i⟩ z_ h hI hE
 replace h:Qdl l l2 i=_:=h
 unfold Qdl at h
 rcases Qah h with ⟨h2,h⟩|⟨h2,h⟩
 ·obtain ⟨x0,h3,h⟩:=Qae h
  rcases Qah h with ⟨h4,h⟩|⟨h4,h⟩
  ·obtain ⟨r,h5,h⟩:=Qae h
   obtain ⟨h6,h⟩:=Qat h
   exact gn 14 [0,3,4,5] [3,1] [nL Qam.enc l,bT h2,cE Qam.enc h3,rp 17 hP,rp 2 (oI ((ltI x0.t 0)=false)),oR True ((ltI x0.t 0)=false),rp 4 (oI (((ltI x0.t 0)||(gtI x0.t 4096))=false)),oR True (((ltI x0.t 0)||(gtI x0.t 4096))=false),rp 5 (oI ((((ltI x0.t 0)||(gtI x0.t 4096))||(ltI x0.a x0.t))=false)),oR True ((((ltI x0.t 0)||(gtI x0.t 4096))||(ltI x0.a x0.t))=false),bT h4,cC (QbQ h5),oO (Eq.refl ([(Qab.mk 2 r)].map Qab.enc).length),aO Qab.enc h6] (QjX Γ rv h hI hE)
  ·exact gn 14 [0,3,4,5] [0,1] [nL Qam.enc l,bT h2,cE Qam.enc h3,rp 17 hP,rp 2 (oI ((ltI x0.t 0)=false)),oR True ((ltI x0.t 0)=false),rp 4 (oI (((ltI x0.t 0)||(gtI x0.t 4096))=false)),oR True (((ltI x0.t 0)||(gtI x0.t 4096))=false),rp 5 (oI ((((ltI x0.t 0)||(gtI x0.t 4096))||(ltI x0.a x0.t))=false)),oR True ((((ltI x0.t 0)||(gtI x0.t 4096))||(ltI x0.a x0.t))=false),bF h4] (QjX Γ rv h hI hE)
 ·exact gn 5 [3] [0] [nL Qam.enc l,bF h2] (hE _ (oJ h))
theorem QjW (Γ:Gam) (rv:List Qab) {l l1} (h:Qfi l l1=some rv):Qhv Γ rv ⟨[.c 15],⟨88,[vL 0 2 l Qam.enc,vO 3 0 2 l1 Qab.enc],[oS 2 146 l1 Qab.enc]⟩⟩:=by
 unfold Qfi at h
 obtain ⟨e0,h15,h⟩:=Qae h
 refine gn 5 [0,3,4] [0] [] (QpO Γ rv h15 ?_)
 obtain ⟨l4,rfl⟩:∃ x,x=e0:=⟨_,rfl⟩
 replace h:(some l4:Option (List Qab))=some _:=h
 obtain rfl:=Option.some.inj h
 exact gr 2 [] [hW 4,hH (.frz 0),rp 3 (eL l4 Qab.enc)]
theorem QiO {l} {rv:List Qab} (h:QeV l=some rv):AFn Tryz.prog 120 [.one (lL 2 l Qam.enc)] [] (one (lL 2 rv Qab.enc)) []:=by
 refine QaK Tryz.func120 (by kernel_rfl) (by kernel_rfl) (fun Γ=>?_)
 unfold QeV at h
 rcases Qah h with ⟨h0,h⟩|⟨h0,h⟩
 ·obtain ⟨h1,h⟩:=Qat h
  exact gn 9 [0,3] [1] [nL Qam.enc l,hP,hP,oI ((ltI (lenI l) 1)=false),nL Qam.enc l,hP,hP,oI ((ltI (lenI l) 1)=false),oR True ((ltI (lenI l) 1)=false),bT h0,oO (Eq.refl ([(Qab.mk 4 ByteArray.empty)].map Qab.enc).length),aN (l:=([(Qab.mk 4 ByteArray.empty)]:List Qab)) Qab.enc h1] (QjW Γ rv h)
 ·exact gn 9 [0,3] [0] [nL Qam.enc l,hP,hP,oI ((ltI (lenI l) 1)=false),nL Qam.enc l,hP,hP,oI ((ltI (lenI l) 1)=false),oR True ((ltI (lenI l) 1)=false),bF h0,hW 1,hH (.adopt 3 2 146)] (QjW Γ rv h)
theorem QcM {t} {rv:Bool} (h:QgC t=some rv):AFn Tryz.prog 121 [.one (lI t)] [] (one (.bool rv)) []:=by
 refine QaK Tryz.func121 (by kernel_rfl) (by kernel_rfl) (fun Γ=>?_)
 unfold QgC at h
 obtain rfl:=Option.some.inj h
 exact gr 4 [] [hP,hP,hP,oI ((geI t 0)=true),oR True ((geI t 0)=true)]
def QbA (Γ:Gam) (rv:List Qab) (cf:Cf):Prop:=Go Tryz.prog Tryz.f88 [] Γ (one (lL 2 rv Qab.enc)) [] cf
def QiP (Γ:Gam) (rv:List Qab) (n:Qak) (i:Int) (r:ByteArray) (x0:Qaq) (l:List Qab) (l1:List Qab) (twice:Bool) (k:Int):Prop:=QbA Γ rv ⟨[.c 4084,.l 4084,.b 0,.c 511],⟨192,[vI 1 i,vP 2 0 2,vO 5 1 2 l1 Qab.enc,vS 6 (catS QaT r),vP 7 2 6,vB 8 twice,vI 9 k],[oX 2 25 (Qak.enc n),oS 2 146 l1 Qab.enc,oX 6 122 (Qaq.enc x0)]⟩⟩
def Qis (Γ:Gam) (rv:List Qab) (n:Qak) (i:Int) (r:ByteArray) (x0:Qaq) (l:List Qab) (l1:List Qab) (twice1:Bool):Prop:=QbA Γ rv ⟨[.c 511],⟨192,[vO 5 0 2 l1 Qab.enc,vS 6 (catS QaT r),vP 7 1 6,vB 8 twice1],[oS 2 146 l1 Qab.enc,oX 6 122 (Qaq.enc x0)]⟩⟩
def QiQ (Γ:Gam) (rv:List Qab) (r:ByteArray) (x0:Qaq) (l:List Qab) (r1:List Qab) (l3:List Qab) (k1:Int):Prop:=QbA Γ rv ⟨[.c 32756,.l 32756,.b 2,.c 4095],⟨192,[vO 5 0 2 l3 Qab.enc,vS 6 (catS QaT r),vP 7 1 6,vL 11 2 r1 Qab.enc,vI 12 k1],[oS 2 146 l3 Qab.enc,oX 6 122 (Qaq.enc x0)]⟩⟩
def Qit (Γ:Gam) (rv:List Qab) (r:ByteArray) (x0:Qaq) (l:List Qab) (r1:List Qab) (l4:List Qab):Prop:=QbA Γ rv ⟨[.c 4095],⟨192,[vO 5 0 2 l4 Qab.enc,vS 6 (catS QaT r),vP 7 1 6],[oS 2 146 l4 Qab.enc,oX 6 122 (Qaq.enc x0)]⟩⟩
def QiR (Γ:Gam) (rv:List Qab) (r:ByteArray) (x0:Qaq) (l:List Qab) (l6:List Qab) (k2:Int):Prop:=QbA Γ rv ⟨[.c 131060,.l 131060,.b 4,.c 16383],⟨192,[vO 5 0 2 l6 Qab.enc,vS 6 (catS QaT r),vP 7 1 6,vI 13 k2],[oS 2 146 l6 Qab.enc,oX 6 122 (Qaq.enc x0)]⟩⟩
def Qiu (Γ:Gam) (rv:List Qab) (r:ByteArray) (x0:Qaq) (l:List Qab) (l7:List Qab):Prop:=QbA Γ rv ⟨[.c 16383],⟨192,[vO 5 0 2 l7 Qab.enc],[oS 2 146 l7 Qab.enc]⟩⟩
theorem QnT (Γ:Gam) (rv:List Qab) {n i r x0 l l1} {s:Bool×Int} {e:Bool} (h:loopF (fun s=>Qb4 n i r x0 l l1 s.1 s.2) s=some e) (hD:Qis Γ rv n i r x0 l l1 e):QiP Γ rv n i r x0 l l1 s.1 s.2:=by
 refine QaF (C:=fun (s:Bool×Int)=>QiP Γ rv n i r x0 l l1 s.1 s.2) (D:=fun (e:Bool)=>Qis Γ rv n i r x0 l l1 e) ?_ h hD
 clear h hD s e
 rintro ⟨twice,k⟩ z_ h hI hE
 replace h:Qb4 n i r x0 l l1 twice k=_:=h
 unfold Qb4 at h
 rcases Qah h with ⟨h7,h⟩|⟨h7,h⟩
 ·obtain ⟨x1,h8,h⟩:=Qae h
  exact gn 13 [1,2,5,6,7,8,9] [0,1,2] [bT h7,cE Qaq.enc h8,rp 22 hP,rp 5 (oI (twice=false)),rp 4 (oI ((twice=false)∧(eqI x0.from_ x1.from_)=true)),oI (twice=false),oI ((twice=false)∧(eqI x0.from_ x1.from_)=true),oI (twice=false),rp 4 (oI ((twice=false)∧((eqI x0.from_ x1.from_)&&(eqI x0.to_ x1.to_))=true)),oI (twice=false),oI ((twice=false)∧((eqI x0.from_ x1.from_)&&(eqI x0.to_ x1.to_))=true),oR True (twice=false)] (hI _ (oJ h))
 ·exact gn 5 [5,6,7,8] [1,2] [bF h7] (hE _ (oJ h))
theorem QnU (Γ:Gam) (rv:List Qab) {r x0 l r1} {s:List Qab×Int} {e:List Qab} (h:loopF (fun s=>Qb5 r x0 l r1 s.1 s.2) s=some e) (hD:Qit Γ rv r x0 l r1 e):QiQ Γ rv r x0 l r1 s.1 s.2:=by
 refine QaF (C:=fun (s:List Qab×Int)=>QiQ Γ rv r x0 l r1 s.1 s.2) (D:=fun (e:List Qab)=>Qit Γ rv r x0 l r1 e) ?_ h hD
 clear h hD s e
 rintro ⟨l3,k1⟩ z_ h hI hE
 replace h:Qb5 r x0 l r1 l3 k1=_:=h
 unfold Qb5 at h
 rcases Qah h with ⟨h13,h⟩|⟨h13,h⟩
 ·obtain ⟨x2,h14,h⟩:=Qae h
  obtain ⟨h15,h⟩:=Qat h
  exact gn 11 [5,6,7,11,12] [3,1] [nL Qab.enc r1,bT h13,cE Qab.enc h14,oO (Eq.refl ([(Qab.mk x2.err (catS QaT r))].map Qab.enc).length),aO Qab.enc h15] (hI _ (oJ h))
 ·exact gn 5 [5,6,7] [0,1] [nL Qab.enc r1,bF h13] (hE _ (oJ h))
theorem QnV (Γ:Gam) (rv:List Qab) {r x0 l} {s:List Qab×Int} {e:List Qab} (h:loopF (fun s=>Qb6 r x0 l s.1 s.2) s=some e) (hD:Qiu Γ rv r x0 l e):QiR Γ rv r x0 l s.1 s.2:=by
 refine QaF (C:=fun (s:List Qab×Int)=>QiR Γ rv r x0 l s.1 s.2) (D:=fun (e:List Qab)=>Qiu Γ rv r x0 l e) ?_ h hD
 clear h hD s e
 rintro ⟨l6,k2⟩ z_ h hI hE
 replace h:Qb6 r x0 l l6 k2=_:=h
 unfold Qb6 at h
 rcases Qah h with ⟨h19,h⟩|⟨h19,h⟩
 ·obtain ⟨x3,h20,h⟩:=Qae h
  obtain ⟨r2,h21,h⟩:=Qae h
  rcases Qah h with ⟨h22,h⟩|⟨h22,h⟩
  ·obtain ⟨r3,h23,h⟩:=Qae h
   rcases Qah h with ⟨h24,h⟩|⟨h24,h⟩
   ·rcases Qah h with ⟨h25,h⟩|⟨h25,h⟩
    ·obtain ⟨x4,h26,h⟩:=Qae h
     rcases Qah h with ⟨h27,h⟩|⟨h27,h⟩
     ·obtain ⟨h28,h⟩:=Qat h
      exact gn 16 [5,6,7,13] [4,1] [nL Qam.enc x0.slow,bT h19,cE Qam.enc h20,hH (.draw 26 []),cC (QcM h21),rp 3 (nF h22),cC (QcM h23),rp 2 (nF h22),rp 3 (nF h24),rp 7 (bT h25),cE Qam.enc h26,rp 3 (bT h25),nF h24,bT h25,nF h24,bT h27,oO (Eq.refl ([(Qab.mk 2 (catS QaT r))].map Qab.enc).length),aO Qab.enc h28] (hI _ (oJ h))
     ·exact gn 16 [5,6,7,13] [0,1] [nL Qam.enc x0.slow,bT h19,cE Qam.enc h20,hH (.draw 26 []),cC (QcM h21),rp 3 (nF h22),cC (QcM h23),rp 2 (nF h22),rp 3 (nF h24),rp 7 (bT h25),cE Qam.enc h26,rp 3 (bT h25),nF h24,bT h25,nF h24,bF h27] (hI _ (oJ h))
    ·exact gn 16 [5,6,7,13] [0,1] [nL Qam.enc x0.slow,bT h19,cE Qam.enc h20,hH (.draw 26 []),cC (QcM h21),rp 3 (nF h22),cC (QcM h23),rp 2 (nF h22),rp 3 (nF h24),rp 10 (bF h25),nF h24,bF h25,nF h24,fF] (hI _ (oJ h))
   ·obtain ⟨h29,h⟩:=Qat h
    exact gn 16 [5,6,7,13] [4,1] [nL Qam.enc x0.slow,bT h19,cE Qam.enc h20,hH (.draw 26 []),cC (QcM h21),rp 3 (nF h22),cC (QcM h23),rp 2 (nF h22),rp 3 (nT h24),rp 10 kF,rp 2 (nT h24),tT,oO (Eq.refl ([(Qab.mk 2 (catS QaT r))].map Qab.enc).length),aO Qab.enc h29] (hI _ (oJ h))
  ·obtain ⟨h30,h⟩:=Qat h
   exact gn 16 [5,6,7,13] [4,1] [nL Qam.enc x0.slow,bT h19,cE Qam.enc h20,hH (.draw 26 []),cC (QcM h21),rp 5 (nT h22),tT,tT,tT,rp 10 kF,tT,tT,tT,oO (Eq.refl ([(Qab.mk 2 (catS QaT r))].map Qab.enc).length),aO Qab.enc h30] (hI _ (oJ h))
 ·exact gn 5 [5] [0] [nL Qam.enc x0.slow,bF h19] (hE _ (oJ h))
theorem Qir (Γ:Gam) (rv:List Qab) {r x0 l l5} (h:QbF r x0 l l5=some rv):QbA Γ rv ⟨[.c 8191],⟨192,[vO 5 0 2 l5 Qab.enc,vS 6 (catS QaT r),vP 7 1 6],[oS 2 146 l5 Qab.enc,oX 6 122 (Qaq.enc x0)]⟩⟩:=by
 unfold QbF at h
 obtain ⟨e2,h31,h⟩:=Qae h
 refine gn 5 [5,6,7,13] [0,1] [] (QnV Γ rv h31 ?_)
 obtain ⟨l7,rfl⟩:∃ x,x=e2:=⟨_,rfl⟩
 replace h:(some l7:Option (List Qab))=some _:=h
 obtain rfl:=Option.some.inj h
 exact gr 2 [] [hW 4,hH (.frz 0),rp 3 (eL l7 Qab.enc)]
theorem Qiq (Γ:Gam) (rv:List Qab) {r x0 l l2} (h:Qb3 r x0 l l2=some rv):QbA Γ rv ⟨[.c 1023],⟨192,[vO 5 0 2 l2 Qab.enc,vS 6 (catS QaT r),vP 7 1 6],[oS 2 146 l2 Qab.enc,oX 6 122 (Qaq.enc x0)]⟩⟩:=by
 unfold Qb3 at h
 obtain ⟨r1,h12,h⟩:=Qae h
 obtain ⟨e1,h16,h⟩:=Qae h
 refine gn 7 [5,6,7,11,12] [0,1] [cC (QiO h12)] (QnU Γ rv h16 ?_)
 obtain ⟨l4,rfl⟩:∃ x,x=e1:=⟨_,rfl⟩
 replace h:(br (gtI (lenI x0.slow) 16) (chk (okN (l4++[(Qab.mk 4 (catS QaT r))]).length 24) (QbF r x0 l (l4++[(Qab.mk 4 (catS QaT r))]))) (QbF r x0 l l4):Option (List Qab))=some _:=h
 rcases Qah h with ⟨h17,h⟩|⟨h17,h⟩
 ·obtain ⟨h18,h⟩:=Qat h
  exact gn 5 [5,6,7] [3,1] [nL Qam.enc x0.slow,bT h17,oO (Eq.refl ([(Qab.mk 4 (catS QaT r))].map Qab.enc).length),aO Qab.enc h18] (Qir Γ rv h)
 ·exact gn 5 [5,6,7] [0,1] [nL Qam.enc x0.slow,bF h17] (Qir Γ rv h)
theorem Qip (Γ:Gam) (rv:List Qab) {n i r x0 l l1} (h:Qdd n i r x0 l l1=some rv):QbA Γ rv ⟨[.c 127],⟨192,[vI 1 i,vP 2 0 2,vO 5 1 2 l1 Qab.enc,vS 6 (catS QaT r),vP 7 2 6],[oX 2 25 (Qak.enc n),oS 2 146 l1 Qab.enc,oX 6 122 (Qaq.enc x0)]⟩⟩:=by
 unfold Qdd at h
 obtain ⟨e0,h9,h⟩:=Qae h
 refine gn 7 [1,2,5,6,7,8,9] [0,1,2] [] (QnT Γ rv h9 ?_)
 obtain ⟨twice1,rfl⟩:∃ x,x=e0:=⟨_,rfl⟩
 replace h:(br twice1 (chk (okN (l1++[(Qab.mk 6 (catS QaT r))]).length 24) (Qb3 r x0 l (l1++[(Qab.mk 6 (catS QaT r))]))) (Qb3 r x0 l l1):Option (List Qab))=some _:=h
 rcases Qah h with ⟨h10,h⟩|⟨h10,h⟩
 ·obtain ⟨h11,h⟩:=Qat h
  exact gn 5 [5,6,7] [3,1] [bT h10,oO (Eq.refl ([(Qab.mk 6 (catS QaT r))].map Qab.enc).length),aO Qab.enc h11] (Qiq Γ rv h)
 ·exact gn 5 [5,6,7] [0,1] [bF h10] (Qiq Γ rv h)
theorem Qio (Γ:Gam) (rv:List Qab) {n i r x0 l} (h:Qdc n i r x0 l=some rv):QbA Γ rv ⟨[.c 63],⟨192,[vI 1 i,vP 2 0 2,vO 5 1 2 l Qab.enc,vS 6 (catS QaT r),vP 7 2 6],[oX 2 25 (Qak.enc n),oS 2 146 l Qab.enc,oX 6 122 (Qaq.enc x0)]⟩⟩:=by
 unfold Qdc at h
 rcases Qah h with ⟨h5,h⟩|⟨h5,h⟩
 ·obtain ⟨h6,h⟩:=Qat h
  exact gn 5 [1,2,5,6,7] [0,4,2] [rp 18 hP,rp 2 (oI ((ltI x0.profile 0)=false)),oR True ((ltI x0.profile 0)=false),rp 2 (oI (((ltI x0.profile 0)||(gtI x0.profile 7))=false)),oR True (((ltI x0.profile 0)||(gtI x0.profile 7))=false),rp 2 (oI ((((ltI x0.profile 0)||(gtI x0.profile 7))||(ltI x0.miles 0))=false)),oR True ((((ltI x0.profile 0)||(gtI x0.profile 7))||(ltI x0.miles 0))=false),rp 4 (oI (((((ltI x0.profile 0)||(gtI x0.profile 7))||(ltI x0.miles 0))||(gtI x0.miles 10000))=false)),oR True (((((ltI x0.profile 0)||(gtI x0.profile 7))||(ltI x0.miles 0))||(gtI x0.miles 10000))=false),bT h5,oO (Eq.refl ([(Qab.mk 2 (catS QaT r))].map Qab.enc).length),aO Qab.enc h6] (Qip Γ rv h)
 ·exact gn 5 [1,2,5,6,7] [0,1,2] [rp 18 hP,rp 2 (oI ((ltI x0.profile 0)=false)),oR True ((ltI x0.profile 0)=false),rp 2 (oI (((ltI x0.profile 0)||(gtI x0.profile 7))=false)),oR True (((ltI x0.profile 0)||(gtI x0.profile 7))=false),rp 2 (oI ((((ltI x0.profile 0)||(gtI x0.profile 7))||(ltI x0.miles 0))=false)),oR True ((((ltI x0.profile 0)||(gtI x0.profile 7))||(ltI x0.miles 0))=false),rp 4 (oI (((((ltI x0.profile 0)||(gtI x0.profile 7))||(ltI x0.miles 0))||(gtI x0.miles 10000))=false)),oR True (((((ltI x0.profile 0)||(gtI x0.profile 7))||(ltI x0.miles 0))||(gtI x0.miles 10000))=false),bF h5] (Qip Γ rv h)
theorem QpQ {n i} {rv:List Qab} (h:Qfk n i=some rv):AFn Tryz.prog 88 [.agg (Qak.enc n),.one (lI i)] [] (one (lL 2 rv Qab.enc)) []:=by
 refine QaK Tryz.func88 (by kernel_rfl) (by kernel_rfl) (fun Γ=>?_)
 unfold Qfk at h
 obtain ⟨r,h0,h⟩:=Qae h
 obtain ⟨h1,h⟩:=Qat h
 obtain ⟨x0,h2,h⟩:=Qae h
 rcases Qah h with ⟨h3,h⟩|⟨h3,h⟩
 ·obtain ⟨h4,h⟩:=Qat h
  exact gn 13 [1,2,5,6,7] [0,3,1] [cC (QbQ h0),oO (h1),cE Qaq.enc h2,rp 5 hP,rp 3 (oI ((ltI x0.from_ 0)=false)),nL e_str n.places,rp 11 hP,rp 2 (oI ((ltI x0.from_ 0)=false)),oR True ((ltI x0.from_ 0)=false),rp 2 (oI (((ltI x0.from_ 0)||(geI x0.from_ (lenI n.places)))=false)),oR True (((ltI x0.from_ 0)||(geI x0.from_ (lenI n.places)))=false),rp 3 (oI ((((ltI x0.from_ 0)||(geI x0.from_ (lenI n.places)))||(ltI x0.to_ 0))=false)),nL e_str n.places,hP,hP,rp 2 (oI ((((ltI x0.from_ 0)||(geI x0.from_ (lenI n.places)))||(ltI x0.to_ 0))=false)),oR True ((((ltI x0.from_ 0)||(geI x0.from_ (lenI n.places)))||(ltI x0.to_ 0))=false),bT h3,oO (Eq.refl ([(Qab.mk 11 (catS QaT r))].map Qab.enc).length),aN (l:=([(Qab.mk 11 (catS QaT r))]:List Qab)) Qab.enc h4] (Qio Γ rv h)
 ·exact gn 13 [1,2,5,6,7] [0,2,1] [cC (QbQ h0),oO (h1),cE Qaq.enc h2,rp 5 hP,rp 3 (oI ((ltI x0.from_ 0)=false)),nL e_str n.places,rp 11 hP,rp 2 (oI ((ltI x0.from_ 0)=false)),oR True ((ltI x0.from_ 0)=false),rp 2 (oI (((ltI x0.from_ 0)||(geI x0.from_ (lenI n.places)))=false)),oR True (((ltI x0.from_ 0)||(geI x0.from_ (lenI n.places)))=false),rp 3 (oI ((((ltI x0.from_ 0)||(geI x0.from_ (lenI n.places)))||(ltI x0.to_ 0))=false)),nL e_str n.places,hP,hP,rp 2 (oI ((((ltI x0.from_ 0)||(geI x0.from_ (lenI n.places)))||(ltI x0.to_ 0))=false)),oR True ((((ltI x0.from_ 0)||(geI x0.from_ (lenI n.places)))||(ltI x0.to_ 0))=false),bF h3,hW 1,hH (.adopt 5 2 146)] (Qio Γ rv h)
def Qcz (Γ:Gam) (rv:List Qab) (cf:Cf):Prop:=Go Tryz.prog Tryz.f87 [] Γ (one (lO 0 2 rv Qab.enc)) [oS 2 146 rv Qab.enc] cf
def Qf7 (Γ:Gam) (rv:List Qab) (n:Qak) (l:List Qab) (l1:List Qab) (i:Int) (r:ByteArray) (twice:Bool) (k:Int):Prop:=Qcz Γ rv ⟨[.c 250484,.l 250484,.b 2,.c 31311,.b 1,.c 979,.l 244,.b 0,.c 31],⟨64,[vP 1 0 2,vO 3 1 2 l1 Qab.enc,vI 4 i,vS 5 (catS Qdu r),vB 6 twice,vI 7 k],[oX 2 25 (Qak.enc n),oS 2 146 l1 Qab.enc]⟩⟩
def QfU (Γ:Gam) (rv:List Qab) (n:Qak) (l:List Qab) (l1:List Qab) (i:Int) (r:ByteArray) (twice1:Bool):Prop:=Qcz Γ rv ⟨[.c 31311,.b 1,.c 979,.l 244,.b 0,.c 31],⟨64,[vP 1 0 2,vO 3 1 2 l1 Qab.enc,vI 4 i,vS 5 (catS Qdu r),vB 6 twice1],[oX 2 25 (Qak.enc n),oS 2 146 l1 Qab.enc]⟩⟩
def Qf6 (Γ:Gam) (rv:List Qab) (n:Qak) (l:List Qab) (l1:List Qab) (i:Int):Prop:=Qcz Γ rv ⟨[.c 244,.l 244,.b 0,.c 31],⟨64,[vP 1 0 2,vO 3 1 2 l1 Qab.enc,vI 4 i],[oX 2 25 (Qak.enc n),oS 2 146 l1 Qab.enc]⟩⟩
def QfT (Γ:Gam) (rv:List Qab) (n:Qak) (l:List Qab) (l2:List Qab):Prop:=Qcz Γ rv ⟨[.c 31],⟨64,[vO 3 0 2 l2 Qab.enc],[oS 2 146 l2 Qab.enc]⟩⟩
theorem QjG (Γ:Gam) (rv:List Qab) {n l l1 i r} {s:Bool×Int} {e:Bool} (h:loopF (fun s=>Qbf n l l1 i r s.1 s.2) s=some e) (hD:QfU Γ rv n l l1 i r e):Qf7 Γ rv n l l1 i r s.1 s.2:=by
 refine QaF (C:=fun (s:Bool×Int)=>Qf7 Γ rv n l l1 i r s.1 s.2) (D:=fun (e:Bool)=>QfU Γ rv n l l1 i r e) ?_ h hD
 clear h hD s e
 rintro ⟨twice,k⟩ z_ h hI hE
 replace h:Qbf n l l1 i r twice k=_:=h
 unfold Qbf at h
 rcases Qah h with ⟨h8,h⟩|⟨h8,h⟩
 ·rcases Qah h with ⟨h9,h⟩|⟨h9,h⟩
  ·exact gn 11 [1,3,4,5,6,7] [0,1] [bT h8,hH (.draw 14 []),rp 12 (bT h9)] (hI _ (oJ h))
  ·obtain ⟨x1,h10,h⟩:=Qae h
   obtain ⟨x2,h11,h⟩:=Qae h
   exact gn 11 [1,3,4,5,6,7] [0,1] [bT h8,hH (.draw 14 []),rp 4 (bF h9),cE e_str h10,rp 5 (bF h9),cE e_str h11,rp 3 (bF h9)] (hI _ (oJ h))
 ·exact gn 5 [1,3,4,5,6] [0,1] [bF h8] (hE _ (oJ h))
theorem QjF (Γ:Gam) (rv:List Qab) {n l} {s:List Qab×Int} {e:List Qab} (h:loopF (fun s=>Qbe n l s.1 s.2) s=some e) (hD:QfT Γ rv n l e):Qf6 Γ rv n l s.1 s.2:=by
 refine QaF (C:=fun (s:List Qab×Int)=>Qf6 Γ rv n l s.1 s.2) (D:=fun (e:List Qab)=>QfT Γ rv n l e) ?_ h hD
 clear h hD s e
 rintro ⟨l1,i⟩ z_ h hI hE
 replace h:Qbe n l l1 i=_:=h
 unfold Qbe at h
 rcases Qah h with ⟨h2,h⟩|⟨h2,h⟩
 ·obtain ⟨r,h3,h⟩:=Qae h
  obtain ⟨h4,h⟩:=Qat h
  obtain ⟨x0,h5,h⟩:=Qae h
  obtain ⟨r1,h6,h⟩:=Qae h
  rcases Qah h with ⟨h7,h⟩|⟨h7,h⟩
  ·obtain ⟨e0,h12,h⟩:=Qae h
   refine gn 21 [1,3,4,5,6,7] [0,1] [nL e_str n.places,bT h2,cC (QbQ h3),oO (h4),cE e_str h5,cC (QeH h6),nF h7] (QjG Γ rv h12 ?_)
   obtain ⟨twice1,rfl⟩:∃ x,x=e0:=⟨_,rfl⟩
   replace h:(br twice1 (chk (okN (l1++[(Qab.mk 6 (catS Qdu r))]).length 24) (some (.inl ((l1++[(Qab.mk 6 (catS Qdu r))]),(addK .i64 i 1))))) (some (.inl (l1,(addK .i64 i 1)))):Option ((List Qab×Int)⊕(List Qab)))=some _:=h
   rcases Qah h with ⟨h13,h⟩|⟨h13,h⟩
   ·obtain ⟨h14,h⟩:=Qat h
    exact gn 7 [1,3,4] [0,3] [bT h13,oO (Eq.refl ([(Qab.mk 6 (catS Qdu r))].map Qab.enc).length),aO Qab.enc h14] (hI _ (oJ h))
   ·exact gn 7 [1,3,4] [0,1] [bF h13] (hI _ (oJ h))
  ·obtain ⟨h15,h⟩:=Qat h
   exact gn 18 [1,3,4] [0,3] [nL e_str n.places,bT h2,cC (QbQ h3),oO (h4),cE e_str h5,cC (QeH h6),nT h7,oO (Eq.refl ([(Qab.mk 5 (catS Qdu r))].map Qab.enc).length),aO Qab.enc h15] (hI _ (oJ h))
 ·exact gn 5 [3] [1] [nL e_str n.places,bF h2] (hE _ (oJ h))
theorem QfS (Γ:Gam) (rv:List Qab) {n l} (h:Qcj n l=some rv):Qcz Γ rv ⟨[.c 15],⟨64,[vP 1 0 2,vO 3 1 2 l Qab.enc],[oX 2 25 (Qak.enc n),oS 2 146 l Qab.enc]⟩⟩:=by
 unfold Qcj at h
 obtain ⟨e1,h16,h⟩:=Qae h
 refine gn 5 [1,3,4] [0,1] [] (QjF Γ rv h16 ?_)
 obtain ⟨l2,rfl⟩:∃ x,x=e1:=⟨_,rfl⟩
 replace h:(some l2:Option (List Qab))=some _:=h
 obtain rfl:=Option.some.inj h
 exact gr 2 [0] []
theorem QgR {n} {rv:List Qab} (h:Qc6 n=some rv):AFn Tryz.prog 87 [.agg (Qak.enc n)] [] (one (lO 0 2 rv Qab.enc)) [oS 2 146 rv Qab.enc]:=by
 refine QaK Tryz.func87 (by kernel_rfl) (by kernel_rfl) (fun Γ=>?_)
 unfold Qc6 at h
 rcases Qah h with ⟨h0,h⟩|⟨h0,h⟩
 ·obtain ⟨h1,h⟩:=Qat h
  exact gn 9 [1,3] [0,2] [nL e_str n.places,bT h0,oO (Eq.refl ([(Qab.mk 4 QkP)].map Qab.enc).length),aN (l:=([(Qab.mk 4 QkP)]:List Qab)) Qab.enc h1] (QfS Γ rv h)
 ·exact gn 9 [1,3] [0,1] [nL e_str n.places,bF h0,hW 1,hH (.adopt 3 2 146)] (QfS Γ rv h)
def QjE (Γ:Gam) (rv:List Qab) (cf:Cf):Prop:=Go Tryz.prog Tryz.f58 [] Γ (one (lL 2 rv Qab.enc)) [] cf
def Qli (Γ:Gam) (rv:List Qab) (n:Qak) (l:List Qab) (l1:List Qab) (i:Int):Prop:=QjE Γ rv ⟨[.c 244,.l 244,.b 0,.c 31],⟨28,[vP 1 0 2,vO 3 1 2 l1 Qab.enc,vI 4 i],[oX 2 25 (Qak.enc n),oS 2 146 l1 Qab.enc]⟩⟩
def Qj0 (Γ:Gam) (rv:List Qab) (n:Qak) (l:List Qab) (l2:List Qab):Prop:=QjE Γ rv ⟨[.c 31],⟨28,[vO 3 0 2 l2 Qab.enc],[oS 2 146 l2 Qab.enc]⟩⟩
theorem QpP (Γ:Gam) (rv:List Qab) {n l} {s:List Qab×Int} {e:List Qab} (h:loopF (fun s=>QcZ n l s.1 s.2) s=some e) (hD:Qj0 Γ rv n l e):Qli Γ rv n l s.1 s.2:=by
 refine QaF (C:=fun (s:List Qab×Int)=>Qli Γ rv n l s.1 s.2) (D:=fun (e:List Qab)=>Qj0 Γ rv n l e) ?_ h hD
 clear h hD s e
 rintro ⟨l1,i⟩ z_ h hI hE
 replace h:QcZ n l l1 i=_:=h
 unfold QcZ at h
 rcases Qah h with ⟨h3,h⟩|⟨h3,h⟩
 ·obtain ⟨r1,h4,h⟩:=Qae h
  obtain ⟨h5,h⟩:=Qat h
  exact gn 11 [1,3,4] [0,2] [nL Qaq.enc n.arcs,bT h3,cC (QpQ h4),aO Qab.enc h5] (hI _ (oJ h))
 ·exact gn 5 [3] [1] [nL Qaq.enc n.arcs,bF h3] (hE _ (oJ h))
theorem QjZ (Γ:Gam) (rv:List Qab) {n l} (h:Qfj n l=some rv):QjE Γ rv ⟨[.c 15],⟨28,[vP 1 0 2,vO 3 1 2 l Qab.enc],[oX 2 25 (Qak.enc n),oS 2 146 l Qab.enc]⟩⟩:=by
 unfold Qfj at h
 obtain ⟨e0,h6,h⟩:=Qae h
 refine gn 5 [1,3,4] [0,1] [] (QpP Γ rv h6 ?_)
 obtain ⟨l2,rfl⟩:∃ x,x=e0:=⟨_,rfl⟩
 replace h:(some l2:Option (List Qab))=some _:=h
 obtain rfl:=Option.some.inj h
 exact gr 2 [] [hW 4,hH (.frz 0),rp 3 (eL l2 Qab.enc)]
theorem QrR {n} {rv:List Qab} (h:Qg8 n=some rv):AFn Tryz.prog 58 [.agg (Qak.enc n)] [] (one (lL 2 rv Qab.enc)) []:=by
 refine QaK Tryz.func58 (by kernel_rfl) (by kernel_rfl) (fun Γ=>?_)
 unfold Qg8 at h
 obtain ⟨r,h0,h⟩:=Qae h
 rcases Qah h with ⟨h1,h⟩|⟨h1,h⟩
 ·obtain ⟨h2,h⟩:=Qat h
  exact gn 9 [1,3] [0,3] [cC (QgR h0),nL Qaq.enc n.arcs,bT h1,oO (Eq.refl ([(Qab.mk 4 QqB)].map Qab.enc).length),aO Qab.enc h2] (QjZ Γ rv h)
 ·exact gn 9 [1,3] [0,1] [cC (QgR h0),nL Qaq.enc n.arcs,bF h1] (QjZ Γ rv h)
theorem Qal {n lo hi} {rv:Bool} (h:QaR n lo hi=some rv):AFn Tryz.prog 89 [.one (lI n),.one (lI lo),.one (lI hi)] [] (one (.bool rv)) []:=by
 refine QaK Tryz.func89 (by kernel_rfl) (by kernel_rfl) (fun Γ=>?_)
 unfold QaR at h
 obtain rfl:=Option.some.inj h
 exact gr 4 [] [rp 4 hP,rp 2 (oI ((geI n lo)=true)),oR True ((geI n lo)=true)]
theorem QfW {l} {rv:Int} (h:QfA l=some rv):AFn Tryz.prog 61 [.one (lL 14 l Qai.enc)] [] (one (lI rv)) []:=by
 refine QaK Tryz.func61 (by kernel_rfl) (by kernel_rfl) (fun Γ=>?_)
 unfold QfA at h
 rcases Qah h with ⟨h0,h⟩|⟨h0,h⟩
 ·obtain rfl:=Option.some.inj h
  exact gr 8 [] [nL Qai.enc l,bT h0]
 ·obtain ⟨x0,h1,h⟩:=Qae h
  obtain rfl:=Option.some.inj h
  exact gr 9 [] [nL Qai.enc l,bF h0,cE Qai.enc h1,nL e_i64 x0.cap]
def QnY (Γ:Gam) (rv:Bool) (cf:Cf):Prop:=Go Tryz.prog Tryz.f122 [] Γ (one (.bool rv)) [] cf
def Qlo (Γ:Gam) (rv:Bool) (l:List Qai) (at_:Int) (name:ByteArray) (i:Int):Prop:=QnY Γ rv ⟨[.c 52,.l 52,.b 0,.c 7],⟨20,[vL 0 14 l Qai.enc,vI 1 at_,vS 2 name,vI 7 i],[]⟩⟩
def Qj4 (Γ:Gam) (rv:Bool) (l:List Qai) (at_:Int) (name:ByteArray):Prop:=QnY Γ rv ⟨[.c 7],⟨20,[],[]⟩⟩
theorem QpT (Γ:Gam) (rv:Bool) {l at_ name} {s:Int} {e:(Unit)⊕(Bool)} (h:loopF (fun s=>Qck l at_ name s) s=some e) (hD:sel e (fun e=>Qj4 Γ rv l at_ name) (fun e=>e=rv)):Qlo Γ rv l at_ name s:=by
 refine QaF (C:=fun (s:Int)=>Qlo Γ rv l at_ name s) (D:=fun (e:(Unit)⊕(Bool))=>sel e (fun e=>Qj4 Γ rv l at_ name) (fun e=>e=rv)) ?_ h hD
 clear h hD s e
 intro i z_ h hI hE
 replace h:Qck l at_ name i=_:=h
 unfold Qck at h
 rcases Qah h with ⟨h0,h⟩|⟨h0,h⟩
 ·obtain ⟨x0,h1,h⟩:=Qae h
  rcases Qah h with ⟨h2,h⟩|⟨h2,h⟩
  ·obtain rfl:=(hE _ (oJ h):_=rv)
   exact gr 12 [] [bT h0,cE Qai.enc h1,bT h2]
  ·exact gn 14 [0,1,2,7] [] [bT h0,cE Qai.enc h1,bF h2] (hI _ (oJ h))
 ·exact gn 5 [] [] [bF h0] (hE _ (oJ h))
theorem Qm8 {l at_ name} {rv:Bool} (h:Qha l at_ name=some rv):AFn Tryz.prog 122 [.one (lL 14 l Qai.enc),.one (lI at_),.one (.str name)] [] (one (.bool rv)) []:=by
 refine QaK Tryz.func122 (by kernel_rfl) (by kernel_rfl) (fun Γ=>?_)
 unfold Qha at h
 obtain ⟨e0,h3,h⟩:=Qae h
 refine gn 7 [0,1,2,7] [] [] (QpT Γ rv h3 ?_)
 rcases e0 with e0|e0
 ·replace h:(some false:Option Bool)=some _:=h
  obtain rfl:=Option.some.inj h
  exact gr 2 [] []
 ·obtain ⟨r,rfl⟩:∃ x,x=e0:=⟨_,rfl⟩
  replace h:(some r:Option Bool)=some _:=h
  exact Option.some.inj h
def Qln (Γ:Gam) (rv:Bool) (cf:Cf):Prop:=Go Tryz.prog Tryz.f123 [] Γ (one (.bool rv)) [] cf
def QiS (Γ:Gam) (rv:Bool) (l:List Int) (i:Int):Prop:=Qln Γ rv ⟨[.c 116,.l 116,.b 0,.c 15],⟨28,[vL 0 1 l e_i64,vI 5 i],[]⟩⟩
def Qiv (Γ:Gam) (rv:Bool) (l:List Int):Prop:=Qln Γ rv ⟨[.c 15],⟨28,[],[]⟩⟩
theorem QnX (Γ:Gam) (rv:Bool) {l} {s:Int} {e:(Unit)⊕(Bool)} (h:loopF (fun s=>QbG l s) s=some e) (hD:sel e (fun e=>Qiv Γ rv l) (fun e=>e=rv)):QiS Γ rv l s:=by
 refine QaF (C:=fun (s:Int)=>QiS Γ rv l s) (D:=fun (e:(Unit)⊕(Bool))=>sel e (fun e=>Qiv Γ rv l) (fun e=>e=rv)) ?_ h hD
 clear h hD s e
 intro i z_ h hI hE
 replace h:QbG l i=_:=h
 unfold QbG at h
 rcases Qah h with ⟨h2,h⟩|⟨h2,h⟩
 ·obtain ⟨x0,h3,h⟩:=Qae h
  obtain ⟨r1,h4,h⟩:=Qae h
  rcases Qah h with ⟨h5,h⟩|⟨h5,h⟩
  ·exact gn 14 [0,5] [] [nL e_i64 l,bT h2,cE e_i64 h3,cC (Qal h4),nF h5] (hI _ (oJ h))
  ·obtain rfl:=(hE _ (oJ h):_=rv)
   exact gr 12 [] [nL e_i64 l,bT h2,cE e_i64 h3,cC (Qal h4),nT h5]
 ·exact gn 5 [] [] [nL e_i64 l,bF h2] (hE _ (oJ h))
theorem Qfm {l dims} {rv:Bool} (h:Qd3 l dims=some rv):AFn Tryz.prog 123 [.one (lL 1 l e_i64),.one (lI dims)] [] (one (.bool rv)) []:=by
 refine QaK Tryz.func123 (by kernel_rfl) (by kernel_rfl) (fun Γ=>?_)
 unfold Qd3 at h
 obtain ⟨r,h0,h⟩:=Qae h
 rcases Qah h with ⟨h1,h⟩|⟨h1,h⟩
 ·obtain rfl:=Option.some.inj h
  exact gr 8 [] [nL e_i64 l,cC (Qal h0),hP,hP,oI ((!r)=false),nL e_i64 l,hP,hP,hP,rp 2 (oI ((!r)=false)),oR True ((!r)=false),bT h1]
 ·obtain ⟨e0,h6,h⟩:=Qae h
  refine gn 12 [0,5] [] [nL e_i64 l,cC (Qal h0),hP,hP,oI ((!r)=false),nL e_i64 l,hP,hP,hP,rp 2 (oI ((!r)=false)),oR True ((!r)=false),bF h1] (QnX Γ rv h6 ?_)
  rcases e0 with e0|e0
  ·replace h:(some true:Option Bool)=some _:=h
   obtain rfl:=Option.some.inj h
   exact gr 2 [] []
  ·obtain ⟨r2,rfl⟩:∃ x,x=e0:=⟨_,rfl⟩
   replace h:(some r2:Option Bool)=some _:=h
   exact Option.some.inj h
def QbD (Γ:Gam) (rv:List Int) (cf:Cf):Prop:=Go Tryz.prog Tryz.f90 [] Γ (one (lL 1 rv e_i64)) [] cf
theorem Qkc (Γ:Gam) (rv:List Int) {x0 l8} (h:Qeb x0 l8=some rv):QbD Γ rv ⟨[.c 4095],⟨125,[vP 7 0 14,vO 8 1 1 l8 e_i64],[oX 14 124 (Qai.enc x0),oS 1 38 l8 e_i64]⟩⟩:=by
 unfold Qeb at h
 obtain ⟨r11,h30,h⟩:=Qae h
 rcases Qah h with ⟨h31,h⟩|⟨h31,h⟩
 ·obtain ⟨r12,h32,h⟩:=Qae h
  rcases Qah h with ⟨h33,h⟩|⟨h33,h⟩
  ·obtain ⟨r13,h34,h⟩:=Qae h
   rcases Qah h with ⟨h35,h⟩|⟨h35,h⟩
   ·obtain ⟨r14,h36,h⟩:=Qae h
    rcases Qah h with ⟨h37,h⟩|⟨h37,h⟩
    ·obtain rfl:=Option.some.inj h
     exact gr 7 [] [cC (Qal h30),rp 3 (nF h31),cC (Qal h32),rp 2 (nF h31),rp 3 (nF h33),cC (Qal h34),rp 2 (nF h33),rp 3 (nF h35),cC (Qal h36),rp 2 (nF h35),nF h37,hW 5,hH (.frz 1),rp 3 (eL l8 e_i64)]
    ·obtain ⟨h38,h⟩:=Qat h
     obtain rfl:=Option.some.inj h
     exact gr 7 [] [cC (Qal h30),rp 3 (nF h31),cC (Qal h32),rp 2 (nF h31),rp 3 (nF h33),cC (Qal h34),rp 2 (nF h33),rp 3 (nF h35),cC (Qal h36),rp 2 (nF h35),nT h37,oO (Eq.refl ([2].map e_i64).length),aO e_i64 h38,hW 5,hH (.frz 3),rp 4 (oO (Eq.refl ((l8++[2]).map e_i64).length))]
   ·obtain ⟨h39,h⟩:=Qat h
    obtain rfl:=Option.some.inj h
    exact gr 7 [] [cC (Qal h30),rp 3 (nF h31),cC (Qal h32),rp 2 (nF h31),rp 3 (nF h33),cC (Qal h34),rp 2 (nF h33),rp 5 (nT h35),tT,oO (Eq.refl ([2].map e_i64).length),aO e_i64 h39,hW 5,hH (.frz 3),rp 4 (oO (Eq.refl ((l8++[2]).map e_i64).length))]
  ·obtain ⟨h40,h⟩:=Qat h
   obtain rfl:=Option.some.inj h
   exact gr 7 [] [cC (Qal h30),rp 3 (nF h31),cC (Qal h32),rp 2 (nF h31),rp 5 (nT h33),rp 6 tT,oO (Eq.refl ([2].map e_i64).length),aO e_i64 h40,hW 5,hH (.frz 3),rp 4 (oO (Eq.refl ((l8++[2]).map e_i64).length))]
 ·obtain ⟨h41,h⟩:=Qat h
  obtain rfl:=Option.some.inj h
  exact gr 7 [] [cC (Qal h30),rp 5 (nT h31),rp 11 tT,oO (Eq.refl ([2].map e_i64).length),aO e_i64 h41,hW 5,hH (.frz 3),rp 4 (oO (Eq.refl ((l8++[2]).map e_i64).length))]
theorem Qkb (Γ:Gam) (rv:List Int) {x0 l7} (h:Qea x0 l7=some rv):QbD Γ rv ⟨[.c 2047],⟨125,[vP 7 0 14,vO 8 1 1 l7 e_i64],[oX 14 124 (Qai.enc x0),oS 1 38 l7 e_i64]⟩⟩:=by
 unfold Qea at h
 obtain ⟨r9,h25,h⟩:=Qae h
 rcases Qah h with ⟨h26,h⟩|⟨h26,h⟩
 ·obtain ⟨r10,h27,h⟩:=Qae h
  rcases Qah h with ⟨h28,h⟩|⟨h28,h⟩
  ·exact gn 5 [7,8] [0,1] [cC (Qal h25),rp 3 (nF h26),cC (Qal h27),rp 2 (nF h26),nF h28] (Qkc Γ rv h)
  ·obtain ⟨h29,h⟩:=Qat h
   exact gn 5 [7,8] [0,3] [cC (Qal h25),rp 3 (nF h26),cC (Qal h27),rp 2 (nF h26),nT h28,oO (Eq.refl ([16].map e_i64).length),aO e_i64 h29] (Qkc Γ rv h)
 ·obtain ⟨h42,h⟩:=Qat h
  obtain ⟨r15,h43,h⟩:=Qae h
  rcases Qah h with ⟨h44,h⟩|⟨h44,h⟩
  ·obtain ⟨r16,h45,h⟩:=Qae h
   rcases Qah h with ⟨h46,h⟩|⟨h46,h⟩
   ·obtain ⟨r17,h47,h⟩:=Qae h
    rcases Qah h with ⟨h48,h⟩|⟨h48,h⟩
    ·obtain ⟨r18,h49,h⟩:=Qae h
     rcases Qah h with ⟨h50,h⟩|⟨h50,h⟩
     ·obtain rfl:=Option.some.inj h
      exact gr 12 [] [cC (Qal h25),rp 5 (nT h26),tT,oO (Eq.refl ([16].map e_i64).length),aO e_i64 h42,cC (Qal h43),rp 3 (nF h44),cC (Qal h45),rp 2 (nF h44),rp 3 (nF h46),cC (Qal h47),rp 2 (nF h46),rp 3 (nF h48),cC (Qal h49),rp 2 (nF h48),nF h50,hW 5,hH (.frz 3),rp 4 (oO (Eq.refl ((l7++[16]).map e_i64).length))]
     ·obtain ⟨h51,h⟩:=Qat h
      obtain rfl:=Option.some.inj h
      exact gr 12 [] [cC (Qal h25),rp 5 (nT h26),tT,oO (Eq.refl ([16].map e_i64).length),aO e_i64 h42,cC (Qal h43),rp 3 (nF h44),cC (Qal h45),rp 2 (nF h44),rp 3 (nF h46),cC (Qal h47),rp 2 (nF h46),rp 3 (nF h48),cC (Qal h49),rp 2 (nF h48),nT h50,oO (Eq.refl ([2].map e_i64).length),aO e_i64 h51,hW 5,hH (.frz 5),rp 4 (oO (Eq.refl (((l7++[16])++[2]).map e_i64).length))]
    ·obtain ⟨h52,h⟩:=Qat h
     obtain rfl:=Option.some.inj h
     exact gr 12 [] [cC (Qal h25),rp 5 (nT h26),tT,oO (Eq.refl ([16].map e_i64).length),aO e_i64 h42,cC (Qal h43),rp 3 (nF h44),cC (Qal h45),rp 2 (nF h44),rp 3 (nF h46),cC (Qal h47),rp 2 (nF h46),rp 5 (nT h48),tT,oO (Eq.refl ([2].map e_i64).length),aO e_i64 h52,hW 5,hH (.frz 5),rp 4 (oO (Eq.refl (((l7++[16])++[2]).map e_i64).length))]
   ·obtain ⟨h53,h⟩:=Qat h
    obtain rfl:=Option.some.inj h
    exact gr 12 [] [cC (Qal h25),rp 5 (nT h26),tT,oO (Eq.refl ([16].map e_i64).length),aO e_i64 h42,cC (Qal h43),rp 3 (nF h44),cC (Qal h45),rp 2 (nF h44),rp 5 (nT h46),rp 6 tT,oO (Eq.refl ([2].map e_i64).length),aO e_i64 h53,hW 5,hH (.frz 5),rp 4 (oO (Eq.refl (((l7++[16])++[2]).map e_i64).length))]
  ·obtain ⟨h54,h⟩:=Qat h
   obtain rfl:=Option.some.inj h
   exact gr 12 [] [cC (Qal h25),rp 5 (nT h26),tT,oO (Eq.refl ([16].map e_i64).length),aO e_i64 h42,cC (Qal h43),rp 5 (nT h44),rp 11 tT,oO (Eq.refl ([2].map e_i64).length),aO e_i64 h54,hW 5,hH (.frz 5),rp 4 (oO (Eq.refl (((l7++[16])++[2]).map e_i64).length))]
theorem Qka (Γ:Gam) (rv:List Int) {x0 l6} (h:Qd9 x0 l6=some rv):QbD Γ rv ⟨[.c 1023],⟨125,[vP 7 0 14,vO 8 1 1 l6 e_i64],[oX 14 124 (Qai.enc x0),oS 1 38 l6 e_i64]⟩⟩:=by
 unfold Qd9 at h
 obtain ⟨r8,h22,h⟩:=Qae h
 rcases Qah h with ⟨h23,h⟩|⟨h23,h⟩
 ·obtain ⟨h24,h⟩:=Qat h
  exact gn 5 [7,8] [0,3] [cC (Qal h22),rp 4 hP,rp 2 (oI ((!r8)=false)),oR True ((!r8)=false),bT h23,oO (Eq.refl ([15].map e_i64).length),aO e_i64 h24] (Qkb Γ rv h)
 ·exact gn 5 [7,8] [0,1] [cC (Qal h22),rp 4 hP,rp 2 (oI ((!r8)=false)),oR True ((!r8)=false),bF h23] (Qkb Γ rv h)
theorem Qj9 (Γ:Gam) (rv:List Int) {x0 l5} (h:Qd8 x0 l5=some rv):QbD Γ rv ⟨[.c 511],⟨125,[vP 7 0 14,vO 8 1 1 l5 e_i64],[oX 14 124 (Qai.enc x0),oS 1 38 l5 e_i64]⟩⟩:=by
 unfold Qd8 at h
 obtain ⟨r7,h19,h⟩:=Qae h
 rcases Qah h with ⟨h20,h⟩|⟨h20,h⟩
 ·exact gn 5 [7,8] [0,1] [cC (Qal h19),nF h20] (Qka Γ rv h)
 ·obtain ⟨h21,h⟩:=Qat h
  exact gn 5 [7,8] [0,3] [cC (Qal h19),nT h20,oO (Eq.refl ([18].map e_i64).length),aO e_i64 h21] (Qka Γ rv h)
theorem Qj8 (Γ:Gam) (rv:List Int) {l x0 l4} (h:Qd7 l x0 l4=some rv):QbD Γ rv ⟨[.c 255],⟨125,[vL 1 14 l Qai.enc,vP 7 0 14,vO 8 1 1 l4 e_i64],[oX 14 124 (Qai.enc x0),oS 1 38 l4 e_i64]⟩⟩:=by
 unfold Qd7 at h
 obtain ⟨r5,h15,h⟩:=Qae h
 obtain ⟨r6,h16,h⟩:=Qae h
 rcases Qah h with ⟨h17,h⟩|⟨h17,h⟩
 ·exact gn 5 [7,8] [0,1] [hH (.draw 6 []),cC (QfW h15),cC (Qfm h16),nF h17] (Qj9 Γ rv h)
 ·obtain ⟨h18,h⟩:=Qat h
  exact gn 5 [7,8] [0,3] [hH (.draw 6 []),cC (QfW h15),cC (Qfm h16),nT h17,oO (Eq.refl ([17].map e_i64).length),aO e_i64 h18] (Qj9 Γ rv h)
theorem Qjl (Γ:Gam) (rv:List Int) {x0 l12} (h:Qgf x0 l12=some rv):QbD Γ rv ⟨[.c 4095],⟨125,[vP 7 0 14,vO 8 1 1 l12 e_i64],[oX 14 124 (Qai.enc x0),oS 1 38 l12 e_i64]⟩⟩:=by
 unfold Qgf at h
 obtain ⟨r25,h71,h⟩:=Qae h
 rcases Qah h with ⟨h72,h⟩|⟨h72,h⟩
 ·obtain ⟨r26,h73,h⟩:=Qae h
  rcases Qah h with ⟨h74,h⟩|⟨h74,h⟩
  ·obtain ⟨r27,h75,h⟩:=Qae h
   rcases Qah h with ⟨h76,h⟩|⟨h76,h⟩
   ·obtain ⟨r28,h77,h⟩:=Qae h
    rcases Qah h with ⟨h78,h⟩|⟨h78,h⟩
    ·obtain rfl:=Option.some.inj h
     exact gr 7 [] [cC (Qal h71),rp 3 (nF h72),cC (Qal h73),rp 2 (nF h72),rp 3 (nF h74),cC (Qal h75),rp 2 (nF h74),rp 3 (nF h76),cC (Qal h77),rp 2 (nF h76),nF h78,hW 5,hH (.frz 1),rp 3 (eL l12 e_i64)]
    ·obtain ⟨h79,h⟩:=Qat h
     obtain rfl:=Option.some.inj h
     exact gr 7 [] [cC (Qal h71),rp 3 (nF h72),cC (Qal h73),rp 2 (nF h72),rp 3 (nF h74),cC (Qal h75),rp 2 (nF h74),rp 3 (nF h76),cC (Qal h77),rp 2 (nF h76),nT h78,oO (Eq.refl ([2].map e_i64).length),aO e_i64 h79,hW 5,hH (.frz 3),rp 4 (oO (Eq.refl ((l12++[2]).map e_i64).length))]
   ·obtain ⟨h80,h⟩:=Qat h
    obtain rfl:=Option.some.inj h
    exact gr 7 [] [cC (Qal h71),rp 3 (nF h72),cC (Qal h73),rp 2 (nF h72),rp 3 (nF h74),cC (Qal h75),rp 2 (nF h74),rp 5 (nT h76),tT,oO (Eq.refl ([2].map e_i64).length),aO e_i64 h80,hW 5,hH (.frz 3),rp 4 (oO (Eq.refl ((l12++[2]).map e_i64).length))]
  ·obtain ⟨h81,h⟩:=Qat h
   obtain rfl:=Option.some.inj h
   exact gr 7 [] [cC (Qal h71),rp 3 (nF h72),cC (Qal h73),rp 2 (nF h72),rp 5 (nT h74),rp 6 tT,oO (Eq.refl ([2].map e_i64).length),aO e_i64 h81,hW 5,hH (.frz 3),rp 4 (oO (Eq.refl ((l12++[2]).map e_i64).length))]
 ·obtain ⟨h82,h⟩:=Qat h
  obtain rfl:=Option.some.inj h
  exact gr 7 [] [cC (Qal h71),rp 5 (nT h72),rp 11 tT,oO (Eq.refl ([2].map e_i64).length),aO e_i64 h82,hW 5,hH (.frz 3),rp 4 (oO (Eq.refl ((l12++[2]).map e_i64).length))]
theorem Qjk (Γ:Gam) (rv:List Int) {x0 l11} (h:Qge x0 l11=some rv):QbD Γ rv ⟨[.c 2047],⟨125,[vP 7 0 14,vO 8 1 1 l11 e_i64],[oX 14 124 (Qai.enc x0),oS 1 38 l11 e_i64]⟩⟩:=by
 unfold Qge at h
 obtain ⟨r23,h66,h⟩:=Qae h
 rcases Qah h with ⟨h67,h⟩|⟨h67,h⟩
 ·obtain ⟨r24,h68,h⟩:=Qae h
  rcases Qah h with ⟨h69,h⟩|⟨h69,h⟩
  ·exact gn 5 [7,8] [0,1] [cC (Qal h66),rp 3 (nF h67),cC (Qal h68),rp 2 (nF h67),nF h69] (Qjl Γ rv h)
  ·obtain ⟨h70,h⟩:=Qat h
   exact gn 5 [7,8] [0,3] [cC (Qal h66),rp 3 (nF h67),cC (Qal h68),rp 2 (nF h67),nT h69,oO (Eq.refl ([16].map e_i64).length),aO e_i64 h70] (Qjl Γ rv h)
 ·obtain ⟨h83,h⟩:=Qat h
  obtain ⟨r29,h84,h⟩:=Qae h
  rcases Qah h with ⟨h85,h⟩|⟨h85,h⟩
  ·obtain ⟨r30,h86,h⟩:=Qae h
   rcases Qah h with ⟨h87,h⟩|⟨h87,h⟩
   ·obtain ⟨r31,h88,h⟩:=Qae h
    rcases Qah h with ⟨h89,h⟩|⟨h89,h⟩
    ·obtain ⟨r32,h90,h⟩:=Qae h
     rcases Qah h with ⟨h91,h⟩|⟨h91,h⟩
     ·obtain rfl:=Option.some.inj h
      exact gr 12 [] [cC (Qal h66),rp 5 (nT h67),tT,oO (Eq.refl ([16].map e_i64).length),aO e_i64 h83,cC (Qal h84),rp 3 (nF h85),cC (Qal h86),rp 2 (nF h85),rp 3 (nF h87),cC (Qal h88),rp 2 (nF h87),rp 3 (nF h89),cC (Qal h90),rp 2 (nF h89),nF h91,hW 5,hH (.frz 3),rp 4 (oO (Eq.refl ((l11++[16]).map e_i64).length))]
     ·obtain ⟨h92,h⟩:=Qat h
      obtain rfl:=Option.some.inj h
      exact gr 12 [] [cC (Qal h66),rp 5 (nT h67),tT,oO (Eq.refl ([16].map e_i64).length),aO e_i64 h83,cC (Qal h84),rp 3 (nF h85),cC (Qal h86),rp 2 (nF h85),rp 3 (nF h87),cC (Qal h88),rp 2 (nF h87),rp 3 (nF h89),cC (Qal h90),rp 2 (nF h89),nT h91,oO (Eq.refl ([2].map e_i64).length),aO e_i64 h92,hW 5,hH (.frz 5),rp 4 (oO (Eq.refl (((l11++[16])++[2]).map e_i64).length))]
    ·obtain ⟨h93,h⟩:=Qat h
     obtain rfl:=Option.some.inj h
     exact gr 12 [] [cC (Qal h66),rp 5 (nT h67),tT,oO (Eq.refl ([16].map e_i64).length),aO e_i64 h83,cC (Qal h84),rp 3 (nF h85),cC (Qal h86),rp 2 (nF h85),rp 3 (nF h87),cC (Qal h88),rp 2 (nF h87),rp 5 (nT h89),tT,oO (Eq.refl ([2].map e_i64).length),aO e_i64 h93,hW 5,hH (.frz 5),rp 4 (oO (Eq.refl (((l11++[16])++[2]).map e_i64).length))]
   ·obtain ⟨h94,h⟩:=Qat h
    obtain rfl:=Option.some.inj h
    exact gr 12 [] [cC (Qal h66),rp 5 (nT h67),tT,oO (Eq.refl ([16].map e_i64).length),aO e_i64 h83,cC (Qal h84),rp 3 (nF h85),cC (Qal h86),rp 2 (nF h85),rp 5 (nT h87),rp 6 tT,oO (Eq.refl ([2].map e_i64).length),aO e_i64 h94,hW 5,hH (.frz 5),rp 4 (oO (Eq.refl (((l11++[16])++[2]).map e_i64).length))]
  ·obtain ⟨h95,h⟩:=Qat h
   obtain rfl:=Option.some.inj h
   exact gr 12 [] [cC (Qal h66),rp 5 (nT h67),tT,oO (Eq.refl ([16].map e_i64).length),aO e_i64 h83,cC (Qal h84),rp 5 (nT h85),rp 11 tT,oO (Eq.refl ([2].map e_i64).length),aO e_i64 h95,hW 5,hH (.frz 5),rp 4 (oO (Eq.refl (((l11++[16])++[2]).map e_i64).length))]
theorem Qjj (Γ:Gam) (rv:List Int) {x0 l10} (h:Qgd x0 l10=some rv):QbD Γ rv ⟨[.c 1023],⟨125,[vP 7 0 14,vO 8 1 1 l10 e_i64],[oX 14 124 (Qai.enc x0),oS 1 38 l10 e_i64]⟩⟩:=by
 unfold Qgd at h
 obtain ⟨r22,h63,h⟩:=Qae h
 rcases Qah h with ⟨h64,h⟩|⟨h64,h⟩
 ·obtain ⟨h65,h⟩:=Qat h
  exact gn 5 [7,8] [0,3] [cC (Qal h63),rp 4 hP,rp 2 (oI ((!r22)=false)),oR True ((!r22)=false),bT h64,oO (Eq.refl ([15].map e_i64).length),aO e_i64 h65] (Qjk Γ rv h)
 ·exact gn 5 [7,8] [0,1] [cC (Qal h63),rp 4 hP,rp 2 (oI ((!r22)=false)),oR True ((!r22)=false),bF h64] (Qjk Γ rv h)
theorem Qkd (Γ:Gam) (rv:List Int) {x0 l9} (h:QgT x0 l9=some rv):QbD Γ rv ⟨[.c 511],⟨125,[vP 7 0 14,vO 8 1 1 l9 e_i64],[oX 14 124 (Qai.enc x0),oS 1 38 l9 e_i64]⟩⟩:=by
 unfold QgT at h
 obtain ⟨r21,h60,h⟩:=Qae h
 rcases Qah h with ⟨h61,h⟩|⟨h61,h⟩
 ·exact gn 5 [7,8] [0,1] [cC (Qal h60),nF h61] (Qjj Γ rv h)
 ·obtain ⟨h62,h⟩:=Qat h
  exact gn 5 [7,8] [0,3] [cC (Qal h60),nT h61,oO (Eq.refl ([18].map e_i64).length),aO e_i64 h62] (Qjj Γ rv h)
theorem Qj7 (Γ:Gam) (rv:List Int) {n l x0 l3} (h:Qd6 n l x0 l3=some rv):QbD Γ rv ⟨[.c 127],⟨125,[vL 1 14 l Qai.enc,vP 3 0 2,vP 7 1 14,vO 8 2 1 l3 e_i64],[oX 2 25 (Qak.enc n),oX 14 124 (Qai.enc x0),oS 1 38 l3 e_i64]⟩⟩:=by
 unfold Qd6 at h
 obtain ⟨r3,h10,h⟩:=Qae h
 rcases Qah h with ⟨h11,h⟩|⟨h11,h⟩
 ·obtain ⟨r4,h12,h⟩:=Qae h
  rcases Qah h with ⟨h13,h⟩|⟨h13,h⟩
  ·exact gn 5 [1,7,8] [1,2] [nL e_str n.places,cC (Qal h10),rp 5 (nF h11),nL e_str n.places,rp 2 (nF h11),cC (Qal h12),rp 2 (nF h11),nF h13] (Qj8 Γ rv h)
  ·obtain ⟨h14,h⟩:=Qat h
   exact gn 5 [1,7,8] [1,4] [nL e_str n.places,cC (Qal h10),rp 5 (nF h11),nL e_str n.places,rp 2 (nF h11),cC (Qal h12),rp 2 (nF h11),nT h13,oO (Eq.refl ([11].map e_i64).length),aO e_i64 h14] (Qj8 Γ rv h)
 ·obtain ⟨h55,h⟩:=Qat h
  obtain ⟨r19,h56,h⟩:=Qae h
  obtain ⟨r20,h57,h⟩:=Qae h
  rcases Qah h with ⟨h58,h⟩|⟨h58,h⟩
  ·exact gn 10 [7,8] [1,4] [nL e_str n.places,cC (Qal h10),rp 9 (nT h11),tT,oO (Eq.refl ([11].map e_i64).length),aO e_i64 h55,hH (.draw 6 []),cC (QfW h56),cC (Qfm h57),nF h58] (Qkd Γ rv h)
  ·obtain ⟨h59,h⟩:=Qat h
   exact gn 10 [7,8] [1,6] [nL e_str n.places,cC (Qal h10),rp 9 (nT h11),tT,oO (Eq.refl ([11].map e_i64).length),aO e_i64 h55,hH (.draw 6 []),cC (QfW h56),cC (Qfm h57),nT h58,oO (Eq.refl ([17].map e_i64).length),aO e_i64 h59] (Qkd Γ rv h)
theorem Qj6 (Γ:Gam) (rv:List Int) {n l x0 l2} (h:Qd5 n l x0 l2=some rv):QbD Γ rv ⟨[.c 63],⟨125,[vL 1 14 l Qai.enc,vP 3 0 2,vP 7 1 14,vO 8 2 1 l2 e_i64],[oX 2 25 (Qak.enc n),oX 14 124 (Qai.enc x0),oS 1 38 l2 e_i64]⟩⟩:=by
 unfold Qd5 at h
 obtain ⟨r2,h7,h⟩:=Qae h
 rcases Qah h with ⟨h8,h⟩|⟨h8,h⟩
 ·exact gn 5 [1,3,7,8] [0,1,2] [cC (Qal h7),nF h8] (Qj7 Γ rv h)
 ·obtain ⟨h9,h⟩:=Qat h
  exact gn 5 [1,3,7,8] [0,1,4] [cC (Qal h7),nT h8,oO (Eq.refl ([22].map e_i64).length),aO e_i64 h9] (Qj7 Γ rv h)
theorem Qj5 (Γ:Gam) (rv:List Int) {n l at_ x0 l1} (h:Qd4 n l at_ x0 l1=some rv):QbD Γ rv ⟨[.c 31],⟨125,[vL 1 14 l Qai.enc,vI 2 at_,vP 3 0 2,vP 7 1 14,vO 8 2 1 l1 e_i64],[oX 2 25 (Qak.enc n),oX 14 124 (Qai.enc x0),oS 1 38 l1 e_i64]⟩⟩:=by
 unfold Qd4 at h
 obtain ⟨r1,h4,h⟩:=Qae h
 rcases Qah h with ⟨h5,h⟩|⟨h5,h⟩
 ·obtain ⟨h6,h⟩:=Qat h
  exact gn 5 [1,3,7,8] [0,1,4] [cC (Qm8 h4),bT h5,oO (Eq.refl ([6].map e_i64).length),aO e_i64 h6] (Qj6 Γ rv h)
 ·exact gn 5 [1,3,7,8] [0,1,2] [cC (Qm8 h4),bF h5] (Qj6 Γ rv h)
theorem QrT {n l at_} {rv:List Int} (h:Qhb n l at_=some rv):AFn Tryz.prog 90 [.agg (Qak.enc n),.one (lL 14 l Qai.enc),.one (lI at_)] [] (one (lL 1 rv e_i64)) []:=by
 refine QaK Tryz.func90 (by kernel_rfl) (by kernel_rfl) (fun Γ=>?_)
 unfold Qhb at h
 obtain ⟨x0,h0,h⟩:=Qae h
 obtain ⟨r,h1,h⟩:=Qae h
 rcases Qah h with ⟨h2,h⟩|⟨h2,h⟩
 ·exact gn 11 [1,2,3,7,8] [0,1,2] [cE Qai.enc h0,cC (QeH h1),nF h2,hW 1,hH (.adopt 8 1 38)] (Qj5 Γ rv h)
 ·obtain ⟨h3,h⟩:=Qat h
  exact gn 11 [1,2,3,7,8] [0,1,3] [cE Qai.enc h0,cC (QeH h1),nT h2,oO (Eq.refl ([5].map e_i64).length),aN (l:=([5]:List Int)) e_i64 h3] (Qj5 Γ rv h)
def QfV (Γ:Gam) (rv:List Qab) (cf:Cf):Prop:=Go Tryz.prog Tryz.f59 [] Γ (one (lL 2 rv Qab.enc)) [] cf
def Qlm (Γ:Gam) (rv:List Qab) (n:Qak) (l:List Qai) (i:Int) (r1:List Int) (l3:List Qab) (k:Int):Prop:=QfV Γ rv ⟨[.c 31308,.l 31308,.b 2,.b 1,.c 979,.l 244,.b 0,.c 31],⟨44,[vL 1 14 l Qai.enc,vP 2 0 2,vO 5 1 2 l3 Qab.enc,vI 6 i,vL 7 1 r1 e_i64,vI 8 k],[oX 2 25 (Qak.enc n),oS 2 146 l3 Qab.enc]⟩⟩
def Qj3 (Γ:Gam) (rv:List Qab) (n:Qak) (l:List Qai) (i:Int) (r1:List Int) (l4:List Qab):Prop:=QfV Γ rv ⟨[.b 1,.c 979,.l 244,.b 0,.c 31],⟨44,[vL 1 14 l Qai.enc,vP 2 0 2,vO 5 1 2 l4 Qab.enc,vI 6 i],[oX 2 25 (Qak.enc n),oS 2 146 l4 Qab.enc]⟩⟩
def Qll (Γ:Gam) (rv:List Qab) (n:Qak) (l:List Qai) (l2:List Qab) (i:Int):Prop:=QfV Γ rv ⟨[.c 244,.l 244,.b 0,.c 31],⟨44,[vL 1 14 l Qai.enc,vP 2 0 2,vO 5 1 2 l2 Qab.enc,vI 6 i],[oX 2 25 (Qak.enc n),oS 2 146 l2 Qab.enc]⟩⟩
def Qj2 (Γ:Gam) (rv:List Qab) (n:Qak) (l:List Qai) (l5:List Qab):Prop:=QfV Γ rv ⟨[.c 31],⟨44,[vO 5 0 2 l5 Qab.enc],[oS 2 146 l5 Qab.enc]⟩⟩
theorem QpS (Γ:Gam) (rv:List Qab) {n l i r1} {s:List Qab×Int} {e:List Qab} (h:loopF (fun s=>QgS n l i r1 s.1 s.2) s=some e) (hD:Qj3 Γ rv n l i r1 e):Qlm Γ rv n l i r1 s.1 s.2:=by
 refine QaF (C:=fun (s:List Qab×Int)=>Qlm Γ rv n l i r1 s.1 s.2) (D:=fun (e:List Qab)=>Qj3 Γ rv n l i r1 e) ?_ h hD
 clear h hD s e
 rintro ⟨l3,k⟩ z_ h hI hE
 replace h:QgS n l i r1 l3 k=_:=h
 unfold QgS at h
 rcases Qah h with ⟨h5,h⟩|⟨h5,h⟩
 ·obtain ⟨x0,h6,h⟩:=Qae h
  obtain ⟨r2,h7,h⟩:=Qae h
  obtain ⟨h8,h⟩:=Qat h
  exact gn 11 [1,2,5,6,7,8] [0,3] [nL e_i64 r1,bT h5,hH (.draw 9 []),cE e_i64 h6,cC (QbQ h7),oO (Eq.refl ([(Qab.mk x0 r2)].map Qab.enc).length),aO Qab.enc h8] (hI _ (oJ h))
 ·exact gn 5 [1,2,5,6] [0,1] [nL e_i64 r1,bF h5] (hE _ (oJ h))
theorem QpR (Γ:Gam) (rv:List Qab) {n l} {s:List Qab×Int} {e:List Qab} (h:loopF (fun s=>Qc0 n l s.1 s.2) s=some e) (hD:Qj2 Γ rv n l e):Qll Γ rv n l s.1 s.2:=by
 refine QaF (C:=fun (s:List Qab×Int)=>Qll Γ rv n l s.1 s.2) (D:=fun (e:List Qab)=>Qj2 Γ rv n l e) ?_ h hD
 clear h hD s e
 rintro ⟨l2,i⟩ z_ h hI hE
 replace h:Qc0 n l l2 i=_:=h
 unfold Qc0 at h
 rcases Qah h with ⟨h3,h⟩|⟨h3,h⟩
 ·obtain ⟨r1,h4,h⟩:=Qae h
  obtain ⟨e0,h9,h⟩:=Qae h
  refine gn 13 [1,2,5,6,7,8] [0,1] [nL Qai.enc l,bT h3,cC (QrT h4)] (QpS Γ rv h9 ?_)
  obtain ⟨l4,rfl⟩:∃ x,x=e0:=⟨_,rfl⟩
  replace h:(some (.inl (l4,(addK .i64 i 1))):Option ((List Qab×Int)⊕(List Qab)))=some _:=h
  exact gn 3 [1,2,5,6] [0,1] [] (hI _ (oJ h))
 ·exact gn 5 [5] [1] [nL Qai.enc l,bF h3] (hE _ (oJ h))
theorem Qj1 (Γ:Gam) (rv:List Qab) {n l l1} (h:Qfl n l l1=some rv):QfV Γ rv ⟨[.c 15],⟨44,[vL 1 14 l Qai.enc,vP 2 0 2,vO 5 1 2 l1 Qab.enc],[oX 2 25 (Qak.enc n),oS 2 146 l1 Qab.enc]⟩⟩:=by
 unfold Qfl at h
 obtain ⟨e1,h10,h⟩:=Qae h
 refine gn 5 [1,2,5,6] [0,1] [] (QpR Γ rv h10 ?_)
 obtain ⟨l5,rfl⟩:∃ x,x=e1:=⟨_,rfl⟩
 replace h:(some l5:Option (List Qab))=some _:=h
 obtain rfl:=Option.some.inj h
 exact gr 2 [] [hW 4,hH (.frz 0),rp 3 (eL l5 Qab.enc)]
theorem QrS {n l} {rv:List Qab} (h:Qg9 n l=some rv):AFn Tryz.prog 59 [.agg (Qak.enc n),.one (lL 14 l Qai.enc)] [] (one (lL 2 rv Qab.enc)) []:=by
 refine QaK Tryz.func59 (by kernel_rfl) (by kernel_rfl) (fun Γ=>?_)
 unfold Qg9 at h
 obtain ⟨r,h0,h⟩:=Qae h
 rcases Qah h with ⟨h1,h⟩|⟨h1,h⟩
 ·exact gn 9 [1,2,5] [0,1] [nL Qai.enc l,cC (Qal h0),nF h1,hW 1,hH (.adopt 5 2 146)] (Qj1 Γ rv h)
 ·obtain ⟨h2,h⟩:=Qat h
  exact gn 9 [1,2,5] [0,2] [nL Qai.enc l,cC (Qal h0),nT h1,oO (Eq.refl ([(Qab.mk 4 ByteArray.empty)].map Qab.enc).length),aN (l:=([(Qab.mk 4 ByteArray.empty)]:List Qab)) Qab.enc h2] (Qj1 Γ rv h)
theorem QaE {n low high} {rv:Bool} (h:QbH n low high=some rv):AFn Tryz.prog 69 [.one (lI n),.one (lI low),.one (lI high)] [] (one (.bool rv)) []:=by
 refine QaK Tryz.func69 (by kernel_rfl) (by kernel_rfl) (fun Γ=>?_)
 unfold QbH at h
 obtain rfl:=Option.some.inj h
 exact gr 4 [] [rp 4 hP,rp 2 (oI ((geI n low)=true)),oR True ((geI n low)=true)]
def QnQ (Γ:Gam) (rv:Bool) (cf:Cf):Prop:=Go Tryz.prog Tryz.f124 [] Γ (one (.bool rv)) [] cf
def Qlg (Γ:Gam) (rv:Bool) (a:List Int) (i:Int):Prop:=QnQ Γ rv ⟨[.c 116,.l 116,.b 0,.c 15],⟨28,[vL 0 1 a e_i64,vI 5 i],[]⟩⟩
def QjU (Γ:Gam) (rv:Bool) (a:List Int):Prop:=QnQ Γ rv ⟨[.c 15],⟨28,[],[]⟩⟩
theorem QpN (Γ:Gam) (rv:Bool) {a} {s:Int} {e:(Unit)⊕(Bool)} (h:loopF (fun s=>Qch a s) s=some e) (hD:sel e (fun e=>QjU Γ rv a) (fun e=>e=rv)):Qlg Γ rv a s:=by
 refine QaF (C:=fun (s:Int)=>Qlg Γ rv a s) (D:=fun (e:(Unit)⊕(Bool))=>sel e (fun e=>QjU Γ rv a) (fun e=>e=rv)) ?_ h hD
 clear h hD s e
 intro i z_ h hI hE
 replace h:Qch a i=_:=h
 unfold Qch at h
 rcases Qah h with ⟨h1,h⟩|⟨h1,h⟩
 ·obtain ⟨x0,h2,h⟩:=Qae h
  rcases Qah h with ⟨h3,h⟩|⟨h3,h⟩
  ·obtain rfl:=(hE _ (oJ h):_=rv)
   exact gr 12 [] [nL e_i64 a,bT h1,cE e_i64 h2,rp 6 (bT h3),tT]
  ·rcases Qah h with ⟨h4,h⟩|⟨h4,h⟩
   ·obtain rfl:=(hE _ (oJ h):_=rv)
    exact gr 12 [] [nL e_i64 a,bT h1,cE e_i64 h2,rp 3 (bF h3),cE e_i64 h2,rp 3 (bF h3),bT h4]
   ·exact gn 14 [0,5] [] [nL e_i64 a,bT h1,cE e_i64 h2,rp 3 (bF h3),cE e_i64 h2,rp 3 (bF h3),bF h4] (hI _ (oJ h))
 ·exact gn 5 [] [] [nL e_i64 a,bF h1] (hE _ (oJ h))
theorem Qm3 {a dims} {rv:Bool} (h:QeU a dims=some rv):AFn Tryz.prog 124 [.one (lL 1 a e_i64),.one (lI dims)] [] (one (.bool rv)) []:=by
 refine QaK Tryz.func124 (by kernel_rfl) (by kernel_rfl) (fun Γ=>?_)
 unfold QeU at h
 rcases Qah h with ⟨h0,h⟩|⟨h0,h⟩
 ·obtain rfl:=Option.some.inj h
  exact gr 8 [] [nL e_i64 a,bT h0]
 ·obtain ⟨e0,h5,h⟩:=Qae h
  refine gn 12 [0,5] [] [nL e_i64 a,bF h0] (QpN Γ rv h5 ?_)
  rcases e0 with e0|e0
  ·replace h:(some true:Option Bool)=some _:=h
   obtain rfl:=Option.some.inj h
   exact gr 2 [] []
  ·obtain ⟨r,rfl⟩:∃ x,x=e0:=⟨_,rfl⟩
   replace h:(some r:Option Bool)=some _:=h
   exact Option.some.inj h
theorem Qbv {s0} {rv:Int} (h:QdX s0=some rv):AFn Tryz.prog 125 [.agg (Qau.enc s0)] [] (one (lI rv)) []:=by
 refine QaK Tryz.func125 (by kernel_rfl) (by kernel_rfl) (fun Γ=>?_)
 unfold QdX at h
 rcases Qah h with ⟨h0,h⟩|⟨h0,h⟩
 ·obtain rfl:=Option.some.inj h
  exact gr 8 [] [rp 12 hP,rp 2 (oI ((eqI s0.place (-1))=true)),oR True ((eqI s0.place (-1))=true),rp 2 (oI (((eqI s0.place (-1))&&(eqI s0.open_ 0))=true)),oR True (((eqI s0.place (-1))&&(eqI s0.open_ 0))=true),rp 2 (oI ((((eqI s0.place (-1))&&(eqI s0.open_ 0))&&(eqI s0.close 0))=true)),oR True ((((eqI s0.place (-1))&&(eqI s0.open_ 0))&&(eqI s0.close 0))=true),bT h0]
 ·rcases Qah h with ⟨h1,h⟩|⟨h1,h⟩
  ·obtain rfl:=Option.some.inj h
   exact gr 13 [] [rp 12 hP,rp 2 (oI ((eqI s0.place (-1))=true)),oR True ((eqI s0.place (-1))=true),rp 2 (oI (((eqI s0.place (-1))&&(eqI s0.open_ 0))=true)),oR True (((eqI s0.place (-1))&&(eqI s0.open_ 0))=true),rp 2 (oI ((((eqI s0.place (-1))&&(eqI s0.open_ 0))&&(eqI s0.close 0))=true)),oR True ((((eqI s0.place (-1))&&(eqI s0.open_ 0))&&(eqI s0.close 0))=true),bF h0,rp 22 hP,rp 2 (oI ((ltI s0.place 0)=false)),oR True ((ltI s0.place 0)=false),rp 4 (oI (((ltI s0.place 0)||(ltI s0.open_ 0))=false)),oR True (((ltI s0.place 0)||(ltI s0.open_ 0))=false),rp 2 (oI ((((ltI s0.place 0)||(ltI s0.open_ 0))||(gtI s0.open_ s0.close))=false)),oR True ((((ltI s0.place 0)||(ltI s0.open_ 0))||(gtI s0.open_ s0.close))=false),rp 2 (oI (((((ltI s0.place 0)||(ltI s0.open_ 0))||(gtI s0.open_ s0.close))||(gtI s0.close 4096))=false)),oR True (((((ltI s0.place 0)||(ltI s0.open_ 0))||(gtI s0.open_ s0.close))||(gtI s0.close 4096))=false),rp 2 (oI ((((((ltI s0.place 0)||(ltI s0.open_ 0))||(gtI s0.open_ s0.close))||(gtI s0.close 4096))||(ltI s0.service 0))=false)),oR True ((((((ltI s0.place 0)||(ltI s0.open_ 0))||(gtI s0.open_ s0.close))||(gtI s0.close 4096))||(ltI s0.service 0))=false),bT h1]
  ·obtain rfl:=Option.some.inj h
   exact gr 14 [] [rp 12 hP,rp 2 (oI ((eqI s0.place (-1))=true)),oR True ((eqI s0.place (-1))=true),rp 2 (oI (((eqI s0.place (-1))&&(eqI s0.open_ 0))=true)),oR True (((eqI s0.place (-1))&&(eqI s0.open_ 0))=true),rp 2 (oI ((((eqI s0.place (-1))&&(eqI s0.open_ 0))&&(eqI s0.close 0))=true)),oR True ((((eqI s0.place (-1))&&(eqI s0.open_ 0))&&(eqI s0.close 0))=true),bF h0,rp 22 hP,rp 2 (oI ((ltI s0.place 0)=false)),oR True ((ltI s0.place 0)=false),rp 4 (oI (((ltI s0.place 0)||(ltI s0.open_ 0))=false)),oR True (((ltI s0.place 0)||(ltI s0.open_ 0))=false),rp 2 (oI ((((ltI s0.place 0)||(ltI s0.open_ 0))||(gtI s0.open_ s0.close))=false)),oR True ((((ltI s0.place 0)||(ltI s0.open_ 0))||(gtI s0.open_ s0.close))=false),rp 2 (oI (((((ltI s0.place 0)||(ltI s0.open_ 0))||(gtI s0.open_ s0.close))||(gtI s0.close 4096))=false)),oR True (((((ltI s0.place 0)||(ltI s0.open_ 0))||(gtI s0.open_ s0.close))||(gtI s0.close 4096))=false),rp 2 (oI ((((((ltI s0.place 0)||(ltI s0.open_ 0))||(gtI s0.open_ s0.close))||(gtI s0.close 4096))||(ltI s0.service 0))=false)),oR True ((((((ltI s0.place 0)||(ltI s0.open_ 0))||(gtI s0.open_ s0.close))||(gtI s0.close 4096))||(ltI s0.service 0))=false),bF h1]
def Qbu (Γ:Gam) (rv:List Int) (cf:Cf):Prop:=Go Tryz.prog Tryz.f92 [] Γ (one (lL 1 rv e_i64)) [] cf
def Qlr (Γ:Gam) (rv:List Int) (places:Int) (dims:Int) (types:Int) (l:List Qag) (at_:Int) (x0:Qag) (l1:List Int) (i:Int):Prop:=Qbu Γ rv ⟨[.c 500,.l 500,.b 0,.c 63],⟨156,[vI 0 places,vI 1 dims,vI 2 types,vL 3 16 l Qag.enc,vI 4 at_,vO 11 0 1 l1 e_i64,vP 12 1 16,vI 13 i],[oS 1 38 l1 e_i64,oX 16 74 (Qag.enc x0)]⟩⟩
def Qkq (Γ:Gam) (rv:List Int) (places:Int) (dims:Int) (types:Int) (l:List Qag) (at_:Int) (x0:Qag) (l1:List Int) (l2:List Int):Prop:=Qbu Γ rv ⟨[.c 63],⟨156,[vI 0 places,vI 1 dims,vI 2 types,vO 11 0 1 l2 e_i64,vP 12 1 16],[oS 1 38 l2 e_i64,oX 16 74 (Qag.enc x0)]⟩⟩
theorem QpW (Γ:Gam) (rv:List Int) {places dims types l at_ x0 l1} {s:Int} {e:List Int} (h:loopF (fun s=>Qcl places dims types l at_ x0 l1 s) s=some e) (hD:Qkq Γ rv places dims types l at_ x0 l1 e):Qlr Γ rv places dims types l at_ x0 l1 s:=by
 refine QaF (C:=fun (s:Int)=>Qlr Γ rv places dims types l at_ x0 l1 s) (D:=fun (e:List Int)=>Qkq Γ rv places dims types l at_ x0 l1 e) ?_ h hD
 clear h hD s e
 intro i z_ h hI hE
 replace h:Qcl places dims types l at_ x0 l1 i=_:=h
 unfold Qcl at h
 rcases Qah h with ⟨h4,h⟩|⟨h4,h⟩
 ·obtain ⟨x1,h5,h⟩:=Qae h
  rcases Qah h with ⟨h6,h⟩|⟨h6,h⟩
  ·obtain ⟨h7,h⟩:=Qat h
   exact gn 13 [0,1,2,11,12] [3,1] [bT h4,hH (.draw 8 []),cE Qag.enc h5,bT h6,oO (Eq.refl ([6].map e_i64).length),aO e_i64 h7] (hE _ (oJ h))
  ·exact gn 14 [0,1,2,3,4,11,12,13] [0,1] [bT h4,hH (.draw 8 []),cE Qag.enc h5,bF h6] (hI _ (oJ h))
 ·exact gn 5 [0,1,2,11,12] [0,1] [bF h4] (hE _ (oJ h))
theorem Qkl (Γ:Gam) (rv:List Int) {types x0 l6} (h:Qef types x0 l6=some rv):Qbu Γ rv ⟨[.c 2047],⟨156,[vI 2 types,vO 11 0 1 l6 e_i64,vP 12 1 16],[oS 1 38 l6 e_i64,oX 16 74 (Qag.enc x0)]⟩⟩:=by
 unfold Qef at h
 obtain ⟨r6,h25,h⟩:=Qae h
 rcases Qah h with ⟨h26,h⟩|⟨h26,h⟩
 ·obtain ⟨r7,h27,h⟩:=Qae h
  rcases Qah h with ⟨h28,h⟩|⟨h28,h⟩
  ·obtain ⟨h29,h⟩:=Qat h
   obtain rfl:=Option.some.inj h
   exact gr 9 [] [rp 5 hP,rp 3 (oI ((neI x0.pick.place (-1))=true)),oR True ((neI x0.pick.place (-1))=true),cC (QaE h25),rp 3 (nF h26),cC (QaE h27),rp 2 (nF h26),rp 26 hP,rp 4 (oI ((!r7)=false)),oI (((!r7)=false)∧(gtI x0.split 1)=true),oR True ((!r7)=false),rp 2 (oI (((!r7)||((gtI x0.split 1)&&((neI x0.pick.place (-1))&&(neI x0.drop.place (-1)))))=false)),oR True (((!r7)||((gtI x0.split 1)&&((neI x0.pick.place (-1))&&(neI x0.drop.place (-1)))))=false),rp 3 (oI ((((!r7)||((gtI x0.split 1)&&((neI x0.pick.place (-1))&&(neI x0.drop.place (-1)))))||(ltI x0.last_ (-1)))=false)),oR True ((((!r7)||((gtI x0.split 1)&&((neI x0.pick.place (-1))&&(neI x0.drop.place (-1)))))||(ltI x0.last_ (-1)))=false),rp 2 (oI (((((!r7)||((gtI x0.split 1)&&((neI x0.pick.place (-1))&&(neI x0.drop.place (-1)))))||(ltI x0.last_ (-1)))||(geI x0.last_ types))=false)),oR True (((((!r7)||((gtI x0.split 1)&&((neI x0.pick.place (-1))&&(neI x0.drop.place (-1)))))||(ltI x0.last_ (-1)))||(geI x0.last_ types))=false),rp 3 (oI ((((((!r7)||((gtI x0.split 1)&&((neI x0.pick.place (-1))&&(neI x0.drop.place (-1)))))||(ltI x0.last_ (-1)))||(geI x0.last_ types))||(ltI x0.now (-1)))=false)),oR True ((((((!r7)||((gtI x0.split 1)&&((neI x0.pick.place (-1))&&(neI x0.drop.place (-1)))))||(ltI x0.last_ (-1)))||(geI x0.last_ types))||(ltI x0.now (-1)))=false),bT h28,oO (Eq.refl ([2].map e_i64).length),aO e_i64 h29,hW 5,hH (.frz 3),rp 4 (oO (Eq.refl ((l6++[2]).map e_i64).length))]
  ·obtain rfl:=Option.some.inj h
   exact gr 9 [] [rp 5 hP,rp 3 (oI ((neI x0.pick.place (-1))=true)),oR True ((neI x0.pick.place (-1))=true),cC (QaE h25),rp 3 (nF h26),cC (QaE h27),rp 2 (nF h26),rp 26 hP,rp 4 (oI ((!r7)=false)),oI (((!r7)=false)∧(gtI x0.split 1)=true),oR True ((!r7)=false),rp 2 (oI (((!r7)||((gtI x0.split 1)&&((neI x0.pick.place (-1))&&(neI x0.drop.place (-1)))))=false)),oR True (((!r7)||((gtI x0.split 1)&&((neI x0.pick.place (-1))&&(neI x0.drop.place (-1)))))=false),rp 3 (oI ((((!r7)||((gtI x0.split 1)&&((neI x0.pick.place (-1))&&(neI x0.drop.place (-1)))))||(ltI x0.last_ (-1)))=false)),oR True ((((!r7)||((gtI x0.split 1)&&((neI x0.pick.place (-1))&&(neI x0.drop.place (-1)))))||(ltI x0.last_ (-1)))=false),rp 2 (oI (((((!r7)||((gtI x0.split 1)&&((neI x0.pick.place (-1))&&(neI x0.drop.place (-1)))))||(ltI x0.last_ (-1)))||(geI x0.last_ types))=false)),oR True (((((!r7)||((gtI x0.split 1)&&((neI x0.pick.place (-1))&&(neI x0.drop.place (-1)))))||(ltI x0.last_ (-1)))||(geI x0.last_ types))=false),rp 3 (oI ((((((!r7)||((gtI x0.split 1)&&((neI x0.pick.place (-1))&&(neI x0.drop.place (-1)))))||(ltI x0.last_ (-1)))||(geI x0.last_ types))||(ltI x0.now (-1)))=false)),oR True ((((((!r7)||((gtI x0.split 1)&&((neI x0.pick.place (-1))&&(neI x0.drop.place (-1)))))||(ltI x0.last_ (-1)))||(geI x0.last_ types))||(ltI x0.now (-1)))=false),bF h28,hW 5,hH (.frz 0),rp 3 (eL l6 e_i64)]
 ·obtain ⟨h30,h⟩:=Qat h
  obtain rfl:=Option.some.inj h
  exact gr 9 [] [rp 5 hP,rp 3 (oI ((neI x0.pick.place (-1))=true)),oR True ((neI x0.pick.place (-1))=true),cC (QaE h25),rp 5 (nT h26),rp 4 tT,kF,rp 21 tT,oO (Eq.refl ([2].map e_i64).length),aO e_i64 h30,hW 5,hH (.frz 3),rp 4 (oO (Eq.refl ((l6++[2]).map e_i64).length))]
theorem Qkn (Γ:Gam) (rv:List Int) {types x0 l8} (h:QgV types x0 l8=some rv):Qbu Γ rv ⟨[.c 2047],⟨156,[vI 2 types,vO 11 0 1 l8 e_i64,vP 12 1 16],[oS 1 38 l8 e_i64,oX 16 74 (Qag.enc x0)]⟩⟩:=by
 unfold QgV at h
 obtain ⟨r10,h37,h⟩:=Qae h
 rcases Qah h with ⟨h38,h⟩|⟨h38,h⟩
 ·obtain ⟨r11,h39,h⟩:=Qae h
  rcases Qah h with ⟨h40,h⟩|⟨h40,h⟩
  ·obtain ⟨h41,h⟩:=Qat h
   obtain rfl:=Option.some.inj h
   exact gr 9 [] [rp 5 hP,rp 3 (oI ((neI x0.pick.place (-1))=true)),oR True ((neI x0.pick.place (-1))=true),cC (QaE h37),rp 3 (nF h38),cC (QaE h39),rp 2 (nF h38),rp 26 hP,rp 4 (oI ((!r11)=false)),oI (((!r11)=false)∧(gtI x0.split 1)=true),oR True ((!r11)=false),rp 2 (oI (((!r11)||((gtI x0.split 1)&&((neI x0.pick.place (-1))&&(neI x0.drop.place (-1)))))=false)),oR True (((!r11)||((gtI x0.split 1)&&((neI x0.pick.place (-1))&&(neI x0.drop.place (-1)))))=false),rp 3 (oI ((((!r11)||((gtI x0.split 1)&&((neI x0.pick.place (-1))&&(neI x0.drop.place (-1)))))||(ltI x0.last_ (-1)))=false)),oR True ((((!r11)||((gtI x0.split 1)&&((neI x0.pick.place (-1))&&(neI x0.drop.place (-1)))))||(ltI x0.last_ (-1)))=false),rp 2 (oI (((((!r11)||((gtI x0.split 1)&&((neI x0.pick.place (-1))&&(neI x0.drop.place (-1)))))||(ltI x0.last_ (-1)))||(geI x0.last_ types))=false)),oR True (((((!r11)||((gtI x0.split 1)&&((neI x0.pick.place (-1))&&(neI x0.drop.place (-1)))))||(ltI x0.last_ (-1)))||(geI x0.last_ types))=false),rp 3 (oI ((((((!r11)||((gtI x0.split 1)&&((neI x0.pick.place (-1))&&(neI x0.drop.place (-1)))))||(ltI x0.last_ (-1)))||(geI x0.last_ types))||(ltI x0.now (-1)))=false)),oR True ((((((!r11)||((gtI x0.split 1)&&((neI x0.pick.place (-1))&&(neI x0.drop.place (-1)))))||(ltI x0.last_ (-1)))||(geI x0.last_ types))||(ltI x0.now (-1)))=false),bT h40,oO (Eq.refl ([2].map e_i64).length),aO e_i64 h41,hW 5,hH (.frz 3),rp 4 (oO (Eq.refl ((l8++[2]).map e_i64).length))]
  ·obtain rfl:=Option.some.inj h
   exact gr 9 [] [rp 5 hP,rp 3 (oI ((neI x0.pick.place (-1))=true)),oR True ((neI x0.pick.place (-1))=true),cC (QaE h37),rp 3 (nF h38),cC (QaE h39),rp 2 (nF h38),rp 26 hP,rp 4 (oI ((!r11)=false)),oI (((!r11)=false)∧(gtI x0.split 1)=true),oR True ((!r11)=false),rp 2 (oI (((!r11)||((gtI x0.split 1)&&((neI x0.pick.place (-1))&&(neI x0.drop.place (-1)))))=false)),oR True (((!r11)||((gtI x0.split 1)&&((neI x0.pick.place (-1))&&(neI x0.drop.place (-1)))))=false),rp 3 (oI ((((!r11)||((gtI x0.split 1)&&((neI x0.pick.place (-1))&&(neI x0.drop.place (-1)))))||(ltI x0.last_ (-1)))=false)),oR True ((((!r11)||((gtI x0.split 1)&&((neI x0.pick.place (-1))&&(neI x0.drop.place (-1)))))||(ltI x0.last_ (-1)))=false),rp 2 (oI (((((!r11)||((gtI x0.split 1)&&((neI x0.pick.place (-1))&&(neI x0.drop.place (-1)))))||(ltI x0.last_ (-1)))||(geI x0.last_ types))=false)),oR True (((((!r11)||((gtI x0.split 1)&&((neI x0.pick.place (-1))&&(neI x0.drop.place (-1)))))||(ltI x0.last_ (-1)))||(geI x0.last_ types))=false),rp 3 (oI ((((((!r11)||((gtI x0.split 1)&&((neI x0.pick.place (-1))&&(neI x0.drop.place (-1)))))||(ltI x0.last_ (-1)))||(geI x0.last_ types))||(ltI x0.now (-1)))=false)),oR True ((((((!r11)||((gtI x0.split 1)&&((neI x0.pick.place (-1))&&(neI x0.drop.place (-1)))))||(ltI x0.last_ (-1)))||(geI x0.last_ types))||(ltI x0.now (-1)))=false),bF h40,hW 5,hH (.frz 0),rp 3 (eL l8 e_i64)]
 ·obtain ⟨h42,h⟩:=Qat h
  obtain rfl:=Option.some.inj h
  exact gr 9 [] [rp 5 hP,rp 3 (oI ((neI x0.pick.place (-1))=true)),oR True ((neI x0.pick.place (-1))=true),cC (QaE h37),rp 5 (nT h38),rp 4 tT,kF,rp 21 tT,oO (Eq.refl ([2].map e_i64).length),aO e_i64 h42,hW 5,hH (.frz 3),rp 4 (oO (Eq.refl ((l8++[2]).map e_i64).length))]
theorem Qkm (Γ:Gam) (rv:List Int) {types x0 l7} (h:Qeg types x0 l7=some rv):Qbu Γ rv ⟨[.c 1023],⟨156,[vI 2 types,vO 11 0 1 l7 e_i64,vP 12 1 16],[oS 1 38 l7 e_i64,oX 16 74 (Qag.enc x0)]⟩⟩:=by
 unfold Qeg at h
 obtain ⟨r9,h34,h⟩:=Qae h
 rcases Qah h with ⟨h35,h⟩|⟨h35,h⟩
 ·exact gn 5 [2,11,12] [0,1] [cC (QaE h34),nF h35] (Qkn Γ rv h)
 ·obtain ⟨h36,h⟩:=Qat h
  exact gn 5 [2,11,12] [3,1] [cC (QaE h34),nT h35,oO (Eq.refl ([18].map e_i64).length),aO e_i64 h36] (Qkn Γ rv h)
theorem Qkk (Γ:Gam) (rv:List Int) {types x0 l5} (h:Qee types x0 l5=some rv):Qbu Γ rv ⟨[.c 511],⟨156,[vI 2 types,vO 11 0 1 l5 e_i64,vP 12 1 16],[oS 1 38 l5 e_i64,oX 16 74 (Qag.enc x0)]⟩⟩:=by
 unfold Qee at h
 obtain ⟨r4,h19,h⟩:=Qae h
 rcases Qah h with ⟨h20,h⟩|⟨h20,h⟩
 ·obtain ⟨h21,h⟩:=Qat h
  obtain ⟨r5,h22,h⟩:=Qae h
  rcases Qah h with ⟨h23,h⟩|⟨h23,h⟩
  ·exact gn 10 [2,11,12] [3,1] [cC (Qbv h19),rp 5 (bT h20),tT,oO (Eq.refl ([14].map e_i64).length),aO e_i64 h21,cC (QaE h22),nF h23] (Qkl Γ rv h)
  ·obtain ⟨h24,h⟩:=Qat h
   exact gn 10 [2,11,12] [5,1] [cC (Qbv h19),rp 5 (bT h20),tT,oO (Eq.refl ([14].map e_i64).length),aO e_i64 h21,cC (QaE h22),nT h23,oO (Eq.refl ([18].map e_i64).length),aO e_i64 h24] (Qkl Γ rv h)
 ·obtain ⟨r8,h31,h⟩:=Qae h
  rcases Qah h with ⟨h32,h⟩|⟨h32,h⟩
  ·obtain ⟨h33,h⟩:=Qat h
   exact gn 5 [2,11,12] [3,1] [cC (Qbv h19),rp 3 (bF h20),cC (Qbv h31),rp 2 (bF h20),bT h32,oO (Eq.refl ([14].map e_i64).length),aO e_i64 h33] (Qkm Γ rv h)
  ·exact gn 5 [2,11,12] [0,1] [cC (Qbv h19),rp 3 (bF h20),cC (Qbv h31),rp 2 (bF h20),bF h32] (Qkm Γ rv h)
theorem Qkj (Γ:Gam) (rv:List Int) {types x0 l4} (h:Qed types x0 l4=some rv):Qbu Γ rv ⟨[.c 255],⟨156,[vI 2 types,vO 11 0 1 l4 e_i64,vP 12 1 16],[oS 1 38 l4 e_i64,oX 16 74 (Qag.enc x0)]⟩⟩:=by
 unfold Qed at h
 rcases Qah h with ⟨h17,h⟩|⟨h17,h⟩
 ·obtain ⟨h18,h⟩:=Qat h
  exact gn 5 [2,11,12] [3,1] [rp 5 hP,rp 3 (oI ((eqI x0.pick.place (-1))=true)),oR True ((eqI x0.pick.place (-1))=true),bT h17,oO (Eq.refl ([19].map e_i64).length),aO e_i64 h18] (Qkk Γ rv h)
 ·exact gn 5 [2,11,12] [0,1] [rp 5 hP,rp 3 (oI ((eqI x0.pick.place (-1))=true)),oR True ((eqI x0.pick.place (-1))=true),bF h17] (Qkk Γ rv h)
theorem Qkp (Γ:Gam) (rv:List Int) {types x0 l10} (h:QgX types x0 l10=some rv):Qbu Γ rv ⟨[.c 2047],⟨156,[vI 2 types,vO 11 0 1 l10 e_i64,vP 12 1 16],[oS 1 38 l10 e_i64,oX 16 74 (Qag.enc x0)]⟩⟩:=by
 unfold QgX at h
 obtain ⟨r14,h52,h⟩:=Qae h
 rcases Qah h with ⟨h53,h⟩|⟨h53,h⟩
 ·obtain ⟨r15,h54,h⟩:=Qae h
  rcases Qah h with ⟨h55,h⟩|⟨h55,h⟩
  ·obtain ⟨h56,h⟩:=Qat h
   obtain rfl:=Option.some.inj h
   exact gr 9 [] [rp 5 hP,rp 3 (oI ((neI x0.pick.place (-1))=true)),oR True ((neI x0.pick.place (-1))=true),cC (QaE h52),rp 3 (nF h53),cC (QaE h54),rp 2 (nF h53),rp 26 hP,rp 4 (oI ((!r15)=false)),oI (((!r15)=false)∧(gtI x0.split 1)=true),oR True ((!r15)=false),rp 2 (oI (((!r15)||((gtI x0.split 1)&&((neI x0.pick.place (-1))&&(neI x0.drop.place (-1)))))=false)),oR True (((!r15)||((gtI x0.split 1)&&((neI x0.pick.place (-1))&&(neI x0.drop.place (-1)))))=false),rp 3 (oI ((((!r15)||((gtI x0.split 1)&&((neI x0.pick.place (-1))&&(neI x0.drop.place (-1)))))||(ltI x0.last_ (-1)))=false)),oR True ((((!r15)||((gtI x0.split 1)&&((neI x0.pick.place (-1))&&(neI x0.drop.place (-1)))))||(ltI x0.last_ (-1)))=false),rp 2 (oI (((((!r15)||((gtI x0.split 1)&&((neI x0.pick.place (-1))&&(neI x0.drop.place (-1)))))||(ltI x0.last_ (-1)))||(geI x0.last_ types))=false)),oR True (((((!r15)||((gtI x0.split 1)&&((neI x0.pick.place (-1))&&(neI x0.drop.place (-1)))))||(ltI x0.last_ (-1)))||(geI x0.last_ types))=false),rp 3 (oI ((((((!r15)||((gtI x0.split 1)&&((neI x0.pick.place (-1))&&(neI x0.drop.place (-1)))))||(ltI x0.last_ (-1)))||(geI x0.last_ types))||(ltI x0.now (-1)))=false)),oR True ((((((!r15)||((gtI x0.split 1)&&((neI x0.pick.place (-1))&&(neI x0.drop.place (-1)))))||(ltI x0.last_ (-1)))||(geI x0.last_ types))||(ltI x0.now (-1)))=false),bT h55,oO (Eq.refl ([2].map e_i64).length),aO e_i64 h56,hW 5,hH (.frz 3),rp 4 (oO (Eq.refl ((l10++[2]).map e_i64).length))]
  ·obtain rfl:=Option.some.inj h
   exact gr 9 [] [rp 5 hP,rp 3 (oI ((neI x0.pick.place (-1))=true)),oR True ((neI x0.pick.place (-1))=true),cC (QaE h52),rp 3 (nF h53),cC (QaE h54),rp 2 (nF h53),rp 26 hP,rp 4 (oI ((!r15)=false)),oI (((!r15)=false)∧(gtI x0.split 1)=true),oR True ((!r15)=false),rp 2 (oI (((!r15)||((gtI x0.split 1)&&((neI x0.pick.place (-1))&&(neI x0.drop.place (-1)))))=false)),oR True (((!r15)||((gtI x0.split 1)&&((neI x0.pick.place (-1))&&(neI x0.drop.place (-1)))))=false),rp 3 (oI ((((!r15)||((gtI x0.split 1)&&((neI x0.pick.place (-1))&&(neI x0.drop.place (-1)))))||(ltI x0.last_ (-1)))=false)),oR True ((((!r15)||((gtI x0.split 1)&&((neI x0.pick.place (-1))&&(neI x0.drop.place (-1)))))||(ltI x0.last_ (-1)))=false),rp 2 (oI (((((!r15)||((gtI x0.split 1)&&((neI x0.pick.place (-1))&&(neI x0.drop.place (-1)))))||(ltI x0.last_ (-1)))||(geI x0.last_ types))=false)),oR True (((((!r15)||((gtI x0.split 1)&&((neI x0.pick.place (-1))&&(neI x0.drop.place (-1)))))||(ltI x0.last_ (-1)))||(geI x0.last_ types))=false),rp 3 (oI ((((((!r15)||((gtI x0.split 1)&&((neI x0.pick.place (-1))&&(neI x0.drop.place (-1)))))||(ltI x0.last_ (-1)))||(geI x0.last_ types))||(ltI x0.now (-1)))=false)),oR True ((((((!r15)||((gtI x0.split 1)&&((neI x0.pick.place (-1))&&(neI x0.drop.place (-1)))))||(ltI x0.last_ (-1)))||(geI x0.last_ types))||(ltI x0.now (-1)))=false),bF h55,hW 5,hH (.frz 0),rp 3 (eL l10 e_i64)]
 ·obtain ⟨h57,h⟩:=Qat h
  obtain rfl:=Option.some.inj h
  exact gr 9 [] [rp 5 hP,rp 3 (oI ((neI x0.pick.place (-1))=true)),oR True ((neI x0.pick.place (-1))=true),cC (QaE h52),rp 5 (nT h53),rp 4 tT,kF,rp 21 tT,oO (Eq.refl ([2].map e_i64).length),aO e_i64 h57,hW 5,hH (.frz 3),rp 4 (oO (Eq.refl ((l10++[2]).map e_i64).length))]
theorem Qjo (Γ:Gam) (rv:List Int) {types x0 l12} (h:Qgh types x0 l12=some rv):Qbu Γ rv ⟨[.c 2047],⟨156,[vI 2 types,vO 11 0 1 l12 e_i64,vP 12 1 16],[oS 1 38 l12 e_i64,oX 16 74 (Qag.enc x0)]⟩⟩:=by
 unfold Qgh at h
 obtain ⟨r18,h64,h⟩:=Qae h
 rcases Qah h with ⟨h65,h⟩|⟨h65,h⟩
 ·obtain ⟨r19,h66,h⟩:=Qae h
  rcases Qah h with ⟨h67,h⟩|⟨h67,h⟩
  ·obtain ⟨h68,h⟩:=Qat h
   obtain rfl:=Option.some.inj h
   exact gr 9 [] [rp 5 hP,rp 3 (oI ((neI x0.pick.place (-1))=true)),oR True ((neI x0.pick.place (-1))=true),cC (QaE h64),rp 3 (nF h65),cC (QaE h66),rp 2 (nF h65),rp 26 hP,rp 4 (oI ((!r19)=false)),oI (((!r19)=false)∧(gtI x0.split 1)=true),oR True ((!r19)=false),rp 2 (oI (((!r19)||((gtI x0.split 1)&&((neI x0.pick.place (-1))&&(neI x0.drop.place (-1)))))=false)),oR True (((!r19)||((gtI x0.split 1)&&((neI x0.pick.place (-1))&&(neI x0.drop.place (-1)))))=false),rp 3 (oI ((((!r19)||((gtI x0.split 1)&&((neI x0.pick.place (-1))&&(neI x0.drop.place (-1)))))||(ltI x0.last_ (-1)))=false)),oR True ((((!r19)||((gtI x0.split 1)&&((neI x0.pick.place (-1))&&(neI x0.drop.place (-1)))))||(ltI x0.last_ (-1)))=false),rp 2 (oI (((((!r19)||((gtI x0.split 1)&&((neI x0.pick.place (-1))&&(neI x0.drop.place (-1)))))||(ltI x0.last_ (-1)))||(geI x0.last_ types))=false)),oR True (((((!r19)||((gtI x0.split 1)&&((neI x0.pick.place (-1))&&(neI x0.drop.place (-1)))))||(ltI x0.last_ (-1)))||(geI x0.last_ types))=false),rp 3 (oI ((((((!r19)||((gtI x0.split 1)&&((neI x0.pick.place (-1))&&(neI x0.drop.place (-1)))))||(ltI x0.last_ (-1)))||(geI x0.last_ types))||(ltI x0.now (-1)))=false)),oR True ((((((!r19)||((gtI x0.split 1)&&((neI x0.pick.place (-1))&&(neI x0.drop.place (-1)))))||(ltI x0.last_ (-1)))||(geI x0.last_ types))||(ltI x0.now (-1)))=false),bT h67,oO (Eq.refl ([2].map e_i64).length),aO e_i64 h68,hW 5,hH (.frz 3),rp 4 (oO (Eq.refl ((l12++[2]).map e_i64).length))]
  ·obtain rfl:=Option.some.inj h
   exact gr 9 [] [rp 5 hP,rp 3 (oI ((neI x0.pick.place (-1))=true)),oR True ((neI x0.pick.place (-1))=true),cC (QaE h64),rp 3 (nF h65),cC (QaE h66),rp 2 (nF h65),rp 26 hP,rp 4 (oI ((!r19)=false)),oI (((!r19)=false)∧(gtI x0.split 1)=true),oR True ((!r19)=false),rp 2 (oI (((!r19)||((gtI x0.split 1)&&((neI x0.pick.place (-1))&&(neI x0.drop.place (-1)))))=false)),oR True (((!r19)||((gtI x0.split 1)&&((neI x0.pick.place (-1))&&(neI x0.drop.place (-1)))))=false),rp 3 (oI ((((!r19)||((gtI x0.split 1)&&((neI x0.pick.place (-1))&&(neI x0.drop.place (-1)))))||(ltI x0.last_ (-1)))=false)),oR True ((((!r19)||((gtI x0.split 1)&&((neI x0.pick.place (-1))&&(neI x0.drop.place (-1)))))||(ltI x0.last_ (-1)))=false),rp 2 (oI (((((!r19)||((gtI x0.split 1)&&((neI x0.pick.place (-1))&&(neI x0.drop.place (-1)))))||(ltI x0.last_ (-1)))||(geI x0.last_ types))=false)),oR True (((((!r19)||((gtI x0.split 1)&&((neI x0.pick.place (-1))&&(neI x0.drop.place (-1)))))||(ltI x0.last_ (-1)))||(geI x0.last_ types))=false),rp 3 (oI ((((((!r19)||((gtI x0.split 1)&&((neI x0.pick.place (-1))&&(neI x0.drop.place (-1)))))||(ltI x0.last_ (-1)))||(geI x0.last_ types))||(ltI x0.now (-1)))=false)),oR True ((((((!r19)||((gtI x0.split 1)&&((neI x0.pick.place (-1))&&(neI x0.drop.place (-1)))))||(ltI x0.last_ (-1)))||(geI x0.last_ types))||(ltI x0.now (-1)))=false),bF h67,hW 5,hH (.frz 0),rp 3 (eL l12 e_i64)]
 ·obtain ⟨h69,h⟩:=Qat h
  obtain rfl:=Option.some.inj h
  exact gr 9 [] [rp 5 hP,rp 3 (oI ((neI x0.pick.place (-1))=true)),oR True ((neI x0.pick.place (-1))=true),cC (QaE h64),rp 5 (nT h65),rp 4 tT,kF,rp 21 tT,oO (Eq.refl ([2].map e_i64).length),aO e_i64 h69,hW 5,hH (.frz 3),rp 4 (oO (Eq.refl ((l12++[2]).map e_i64).length))]
theorem Qjn (Γ:Gam) (rv:List Int) {types x0 l11} (h:Qgg types x0 l11=some rv):Qbu Γ rv ⟨[.c 1023],⟨156,[vI 2 types,vO 11 0 1 l11 e_i64,vP 12 1 16],[oS 1 38 l11 e_i64,oX 16 74 (Qag.enc x0)]⟩⟩:=by
 unfold Qgg at h
 obtain ⟨r17,h61,h⟩:=Qae h
 rcases Qah h with ⟨h62,h⟩|⟨h62,h⟩
 ·exact gn 5 [2,11,12] [0,1] [cC (QaE h61),nF h62] (Qjo Γ rv h)
 ·obtain ⟨h63,h⟩:=Qat h
  exact gn 5 [2,11,12] [3,1] [cC (QaE h61),nT h62,oO (Eq.refl ([18].map e_i64).length),aO e_i64 h63] (Qjo Γ rv h)
theorem Qko (Γ:Gam) (rv:List Int) {types x0 l9} (h:QgW types x0 l9=some rv):Qbu Γ rv ⟨[.c 511],⟨156,[vI 2 types,vO 11 0 1 l9 e_i64,vP 12 1 16],[oS 1 38 l9 e_i64,oX 16 74 (Qag.enc x0)]⟩⟩:=by
 unfold QgW at h
 obtain ⟨r12,h46,h⟩:=Qae h
 rcases Qah h with ⟨h47,h⟩|⟨h47,h⟩
 ·obtain ⟨h48,h⟩:=Qat h
  obtain ⟨r13,h49,h⟩:=Qae h
  rcases Qah h with ⟨h50,h⟩|⟨h50,h⟩
  ·exact gn 10 [2,11,12] [3,1] [cC (Qbv h46),rp 5 (bT h47),tT,oO (Eq.refl ([14].map e_i64).length),aO e_i64 h48,cC (QaE h49),nF h50] (Qkp Γ rv h)
  ·obtain ⟨h51,h⟩:=Qat h
   exact gn 10 [2,11,12] [5,1] [cC (Qbv h46),rp 5 (bT h47),tT,oO (Eq.refl ([14].map e_i64).length),aO e_i64 h48,cC (QaE h49),nT h50,oO (Eq.refl ([18].map e_i64).length),aO e_i64 h51] (Qkp Γ rv h)
 ·obtain ⟨r16,h58,h⟩:=Qae h
  rcases Qah h with ⟨h59,h⟩|⟨h59,h⟩
  ·obtain ⟨h60,h⟩:=Qat h
   exact gn 5 [2,11,12] [3,1] [cC (Qbv h46),rp 3 (bF h47),cC (Qbv h58),rp 2 (bF h47),bT h59,oO (Eq.refl ([14].map e_i64).length),aO e_i64 h60] (Qjn Γ rv h)
  ·exact gn 5 [2,11,12] [0,1] [cC (Qbv h46),rp 3 (bF h47),cC (Qbv h58),rp 2 (bF h47),bF h59] (Qjn Γ rv h)
theorem Qki (Γ:Gam) (rv:List Int) {places types x0 l3} (h:QbX places types x0 l3=some rv):Qbu Γ rv ⟨[.c 127],⟨156,[vI 0 places,vI 2 types,vO 11 0 1 l3 e_i64,vP 12 1 16],[oS 1 38 l3 e_i64,oX 16 74 (Qag.enc x0)]⟩⟩:=by
 unfold QbX at h
 obtain ⟨r2,h12,h⟩:=Qae h
 rcases Qah h with ⟨h13,h⟩|⟨h13,h⟩
 ·obtain ⟨r3,h14,h⟩:=Qae h
  rcases Qah h with ⟨h15,h⟩|⟨h15,h⟩
  ·exact gn 5 [2,11,12] [0,1] [cC (QaE h12),rp 6 (nF h13),cC (QaE h14),rp 2 (nF h13),nF h15] (Qkj Γ rv h)
  ·obtain ⟨h16,h⟩:=Qat h
   exact gn 5 [2,11,12] [3,1] [cC (QaE h12),rp 6 (nF h13),cC (QaE h14),rp 2 (nF h13),nT h15,oO (Eq.refl ([11].map e_i64).length),aO e_i64 h16] (Qkj Γ rv h)
 ·obtain ⟨h43,h⟩:=Qat h
  rcases Qah h with ⟨h44,h⟩|⟨h44,h⟩
  ·obtain ⟨h45,h⟩:=Qat h
   exact gn 10 [2,11,12] [5,1] [cC (QaE h12),rp 8 (nT h13),tT,oO (Eq.refl ([11].map e_i64).length),aO e_i64 h43,rp 5 hP,rp 3 (oI ((eqI x0.pick.place (-1))=true)),oR True ((eqI x0.pick.place (-1))=true),bT h44,oO (Eq.refl ([19].map e_i64).length),aO e_i64 h45] (Qko Γ rv h)
  ·exact gn 10 [2,11,12] [3,1] [cC (QaE h12),rp 8 (nT h13),tT,oO (Eq.refl ([11].map e_i64).length),aO e_i64 h43,rp 5 hP,rp 3 (oI ((eqI x0.pick.place (-1))=true)),oR True ((eqI x0.pick.place (-1))=true),bF h44] (Qko Γ rv h)
theorem Qkh (Γ:Gam) (rv:List Int) {places dims types l at_ x0 l1} (h:Qec places dims types l at_ x0 l1=some rv):Qbu Γ rv ⟨[.c 31],⟨156,[vI 0 places,vI 1 dims,vI 2 types,vL 3 16 l Qag.enc,vI 4 at_,vO 11 0 1 l1 e_i64,vP 12 1 16],[oS 1 38 l1 e_i64,oX 16 74 (Qag.enc x0)]⟩⟩:=by
 unfold Qec at h
 obtain ⟨e0,h8,h⟩:=Qae h
 refine gn 5 [0,1,2,3,4,11,12,13] [0,1] [] (QpW Γ rv h8 ?_)
 obtain ⟨l2,rfl⟩:∃ x,x=e0:=⟨_,rfl⟩
 replace h:(bnd (QeU x0.load dims) fun r1=>br r1 (QbX places types x0 l2) (chk (okN (l2++[17]).length 8) (QbX places types x0 (l2++[17]))):Option (List Int))=some _:=h
 obtain ⟨r1,h9,h⟩:=Qae h
 rcases Qah h with ⟨h10,h⟩|⟨h10,h⟩
 ·exact gn 5 [0,2,11,12] [0,1] [cC (Qm3 h9),nF h10] (Qki Γ rv h)
 ·obtain ⟨h11,h⟩:=Qat h
  exact gn 5 [0,2,11,12] [3,1] [cC (Qm3 h9),nT h10,oO (Eq.refl ([17].map e_i64).length),aO e_i64 h11] (Qki Γ rv h)
theorem QrW {places dims types l at_} {rv:List Int} (h:Qhd places dims types l at_=some rv):AFn Tryz.prog 92 [.one (lI places),.one (lI dims),.one (lI types),.one (lL 16 l Qag.enc),.one (lI at_)] [] (one (lL 1 rv e_i64)) []:=by
 refine QaK Tryz.func92 (by kernel_rfl) (by kernel_rfl) (fun Γ=>?_)
 unfold Qhd at h
 obtain ⟨x0,h0,h⟩:=Qae h
 obtain ⟨r,h1,h⟩:=Qae h
 rcases Qah h with ⟨h2,h⟩|⟨h2,h⟩
 ·exact gn 11 [0,1,2,3,4,11,12] [1,0] [cE Qag.enc h0,cC (QeH h1),nF h2,hW 1,hH (.adopt 11 1 38)] (Qkh Γ rv h)
 ·obtain ⟨h3,h⟩:=Qat h
  exact gn 11 [0,1,2,3,4,11,12] [2,0] [cE Qag.enc h0,cC (QeH h1),nT h2,oO (Eq.refl ([5].map e_i64).length),aN (l:=([5]:List Int)) e_i64 h3] (Qkh Γ rv h)
def QfX (Γ:Gam) (rv:List Qab) (cf:Cf):Prop:=Go Tryz.prog Tryz.f60 [] Γ (one (lL 2 rv Qab.enc)) [] cf
def Qlq (Γ:Gam) (rv:List Qab) (n:Qak) (dims:Int) (types:Int) (l:List Qag) (i:Int) (r:List Int) (l3:List Qab) (k:Int):Prop:=QfX Γ rv ⟨[.c 31308,.l 31308,.b 2,.b 1,.c 979,.l 244,.b 0,.c 31],⟨51,[vI 1 dims,vI 2 types,vL 3 16 l Qag.enc,vP 4 0 2,vO 9 1 2 l3 Qab.enc,vI 10 i,vL 11 1 r e_i64,vI 12 k],[oX 2 25 (Qak.enc n),oS 2 146 l3 Qab.enc]⟩⟩
def Qkg (Γ:Gam) (rv:List Qab) (n:Qak) (dims:Int) (types:Int) (l:List Qag) (i:Int) (r:List Int) (l4:List Qab):Prop:=QfX Γ rv ⟨[.b 1,.c 979,.l 244,.b 0,.c 31],⟨51,[vI 1 dims,vI 2 types,vL 3 16 l Qag.enc,vP 4 0 2,vO 9 1 2 l4 Qab.enc,vI 10 i],[oX 2 25 (Qak.enc n),oS 2 146 l4 Qab.enc]⟩⟩
def Qlp (Γ:Gam) (rv:List Qab) (n:Qak) (dims:Int) (types:Int) (l:List Qag) (l2:List Qab) (i:Int):Prop:=QfX Γ rv ⟨[.c 244,.l 244,.b 0,.c 31],⟨51,[vI 1 dims,vI 2 types,vL 3 16 l Qag.enc,vP 4 0 2,vO 9 1 2 l2 Qab.enc,vI 10 i],[oX 2 25 (Qak.enc n),oS 2 146 l2 Qab.enc]⟩⟩
def Qkf (Γ:Gam) (rv:List Qab) (n:Qak) (dims:Int) (types:Int) (l:List Qag) (l5:List Qab):Prop:=QfX Γ rv ⟨[.c 31],⟨51,[vO 9 0 2 l5 Qab.enc],[oS 2 146 l5 Qab.enc]⟩⟩
theorem QpV (Γ:Gam) (rv:List Qab) {n dims types l i r} {s:List Qab×Int} {e:List Qab} (h:loopF (fun s=>QgU n dims types l i r s.1 s.2) s=some e) (hD:Qkg Γ rv n dims types l i r e):Qlq Γ rv n dims types l i r s.1 s.2:=by
 refine QaF (C:=fun (s:List Qab×Int)=>Qlq Γ rv n dims types l i r s.1 s.2) (D:=fun (e:List Qab)=>Qkg Γ rv n dims types l i r e) ?_ h hD
 clear h hD s e
 rintro ⟨l3,k⟩ z_ h hI hE
 replace h:QgU n dims types l i r l3 k=_:=h
 unfold QgU at h
 rcases Qah h with ⟨h4,h⟩|⟨h4,h⟩
 ·obtain ⟨x0,h5,h⟩:=Qae h
  obtain ⟨r1,h6,h⟩:=Qae h
  obtain ⟨h7,h⟩:=Qat h
  exact gn 11 [1,2,3,4,9,10,11,12] [0,3] [nL e_i64 r,bT h4,hH (.draw 9 []),cE e_i64 h5,cC (QbQ h6),oO (Eq.refl ([(Qab.mk x0 r1)].map Qab.enc).length),aO Qab.enc h7] (hI _ (oJ h))
 ·exact gn 5 [1,2,3,4,9,10] [0,1] [nL e_i64 r,bF h4] (hE _ (oJ h))
theorem QpU (Γ:Gam) (rv:List Qab) {n dims types l} {s:List Qab×Int} {e:List Qab} (h:loopF (fun s=>Qc1 n dims types l s.1 s.2) s=some e) (hD:Qkf Γ rv n dims types l e):Qlp Γ rv n dims types l s.1 s.2:=by
 refine QaF (C:=fun (s:List Qab×Int)=>Qlp Γ rv n dims types l s.1 s.2) (D:=fun (e:List Qab)=>Qkf Γ rv n dims types l e) ?_ h hD
 clear h hD s e
 rintro ⟨l2,i⟩ z_ h hI hE
 replace h:Qc1 n dims types l l2 i=_:=h
 unfold Qc1 at h
 rcases Qah h with ⟨h2,h⟩|⟨h2,h⟩
 ·obtain ⟨r,h3,h⟩:=Qae h
  obtain ⟨e0,h8,h⟩:=Qae h
  refine gn 13 [1,2,3,4,9,10,11,12] [0,1] [nL Qag.enc l,bT h2,nL e_str n.places,cC (QrW h3)] (QpV Γ rv h8 ?_)
  obtain ⟨l4,rfl⟩:∃ x,x=e0:=⟨_,rfl⟩
  replace h:(some (.inl (l4,(addK .i64 i 1))):Option ((List Qab×Int)⊕(List Qab)))=some _:=h
  exact gn 3 [1,2,3,4,9,10] [0,1] [] (hI _ (oJ h))
 ·exact gn 5 [9] [1] [nL Qag.enc l,bF h2] (hE _ (oJ h))
theorem Qke (Γ:Gam) (rv:List Qab) {n dims types l l1} (h:Qfn n dims types l l1=some rv):QfX Γ rv ⟨[.c 15],⟨51,[vI 1 dims,vI 2 types,vL 3 16 l Qag.enc,vP 4 0 2,vO 9 1 2 l1 Qab.enc],[oX 2 25 (Qak.enc n),oS 2 146 l1 Qab.enc]⟩⟩:=by
 unfold Qfn at h
 obtain ⟨e1,h9,h⟩:=Qae h
 refine gn 5 [1,2,3,4,9,10] [0,1] [] (QpU Γ rv h9 ?_)
 obtain ⟨l5,rfl⟩:∃ x,x=e1:=⟨_,rfl⟩
 replace h:(some l5:Option (List Qab))=some _:=h
 obtain rfl:=Option.some.inj h
 exact gr 2 [] [hW 4,hH (.frz 0),rp 3 (eL l5 Qab.enc)]
theorem QrU {n dims types l} {rv:List Qab} (h:Qhc n dims types l=some rv):AFn Tryz.prog 60 [.agg (Qak.enc n),.one (lI dims),.one (lI types),.one (lL 16 l Qag.enc)] [] (one (lL 2 rv Qab.enc)) []:=by
 refine QaK Tryz.func60 (by kernel_rfl) (by kernel_rfl) (fun Γ=>?_)
 unfold Qhc at h
 rcases Qah h with ⟨h0,h⟩|⟨h0,h⟩
 ·obtain ⟨h1,h⟩:=Qat h
  exact gn 9 [1,2,3,4,9] [0,2] [nL Qag.enc l,bT h0,oO (Eq.refl ([(Qab.mk 4 ByteArray.empty)].map Qab.enc).length),aN (l:=([(Qab.mk 4 ByteArray.empty)]:List Qab)) Qab.enc h1] (Qke Γ rv h)
 ·exact gn 9 [1,2,3,4,9] [0,1] [nL Qag.enc l,bF h0,hW 1,hH (.adopt 9 2 146)] (Qke Γ rv h)
def Qmn (Γ:Gam) (rv:ByteArray) (cf:Cf):Prop:=Go Tryz.prog Tryz.f126 [] Γ (one (.str rv)) [] cf
def Qjp (Γ:Gam) (rv:ByteArray) (n1:Int) (s0:ByteArray):Prop:=Qmn Γ rv ⟨[.c 56,.l 56,.b 0,.c 15],⟨23,[vI 0 n1,vS 3 s0],[]⟩⟩
def QiT (Γ:Gam) (rv:ByteArray) (n2:Int) (s1:ByteArray):Prop:=Qmn Γ rv ⟨[.c 15],⟨23,[vI 0 n2,vS 3 s1],[]⟩⟩
theorem Qow (Γ:Gam) (rv:ByteArray) {s:Int×ByteArray} {e:Int×ByteArray} (h:loopF (fun s=>Qdq s.1 s.2) s=some e) (hD:QiT Γ rv e.1 e.2):Qjp Γ rv s.1 s.2:=by
 refine QaF (C:=fun (s:Int×ByteArray)=>Qjp Γ rv s.1 s.2) (D:=fun (e:Int×ByteArray)=>QiT Γ rv e.1 e.2) ?_ h hD
 clear h hD s e
 rintro ⟨n1,s0⟩ z_ h hI hE
 replace h:Qdq n1 s0=_:=h
 unfold Qdq at h
 rcases Qah h with ⟨h0,h⟩|⟨h0,h⟩
 ·obtain ⟨h1,h⟩:=Qat h
  exact gn 11 [0,3] [] [bT h0,hH (.ints [(cvK .u8 (addK .i64 48 (remK n1 10)))]),oO (oA (n:=10)),oO (Eq.refl ([(cvK .u8 (addK .i64 48 (remK n1 10)))].map e_u8).length),oO (Eq.refl (([(cvK .u8 (addK .i64 48 (remK n1 10)))].map e_u8):List (List Lf))),oO (h1),oO (oA (n:=10))] (hI _ (oJ h))
 ·exact gn 5 [0,3] [] [bF h0] (hE _ (oJ h))
theorem QfL {n} {rv:ByteArray} (h:QeJ n=some rv):AFn Tryz.prog 126 [.one (lI n)] [] (one (.str rv)) []:=by
 refine QaK Tryz.func126 (by kernel_rfl) (by kernel_rfl) (fun Γ=>?_)
 unfold QeJ at h
 obtain ⟨e0,h2,h⟩:=Qae h
 refine gn 7 [0,3] [] [] (Qow Γ rv h2 ?_)
 obtain ⟨n2,s1⟩:=e0
 replace h:(chk ((Qrh [(cvK .u8 (addK .i64 48 n2))]).size+s1.size≤9223372036854775807) (some (catS (Qrh [(cvK .u8 (addK .i64 48 n2))]) s1)):Option ByteArray)=some _:=h
 obtain ⟨h3,h⟩:=Qat h
 obtain rfl:=Option.some.inj h
 exact gr 2 [] [hH (.ints [(cvK .u8 (addK .i64 48 n2))]),oO (Eq.refl ([(cvK .u8 (addK .i64 48 n2))].map e_u8).length),oO (Eq.refl (([(cvK .u8 (addK .i64 48 n2))].map e_u8):List (List Lf))),oO (h3)]
def Qfo (Γ:Gam) (rv:List Qab) (cf:Cf):Prop:=Go Tryz.prog Tryz.f93 [] Γ (one (lL 2 rv Qab.enc)) [] cf
def Qks (Γ:Gam) (rv:List Qab) (orders:Int) (l:List QaO) (word:ByteArray) (turned:Bool) (l2:List Qab) (i:Int) (x0:QaO) (r:ByteArray) (twice:Bool) (k:Int):Prop:=Qfo Γ rv ⟨[.c 1001972,.l 1001972,.b 2,.c 125247,.b 1,.c 979,.l 244,.b 0,.c 31],⟨123,[vI 0 orders,vL 1 2 l QaO.enc,vS 2 word,vB 3 turned,vO 9 0 2 l2 Qab.enc,vI 10 i,vI 11 x0.x0,vI 12 x0.x1,vS 13 (catS (catS word QcX) r),vB 14 twice,vI 15 k],[oS 2 146 l2 Qab.enc]⟩⟩
def Qjs (Γ:Gam) (rv:List Qab) (orders:Int) (l:List QaO) (word:ByteArray) (turned:Bool) (l2:List Qab) (i:Int) (x0:QaO) (r:ByteArray) (twice1:Bool):Prop:=Qfo Γ rv ⟨[.c 125247,.b 1,.c 979,.l 244,.b 0,.c 31],⟨123,[vI 0 orders,vL 1 2 l QaO.enc,vS 2 word,vB 3 turned,vO 9 0 2 l2 Qab.enc,vI 10 i,vS 13 (catS (catS word QcX) r),vB 14 twice1],[oS 2 146 l2 Qab.enc]⟩⟩
def Qkr (Γ:Gam) (rv:List Qab) (orders:Int) (l:List QaO) (word:ByteArray) (turned:Bool) (l2:List Qab) (i:Int):Prop:=Qfo Γ rv ⟨[.c 244,.l 244,.b 0,.c 31],⟨123,[vI 0 orders,vL 1 2 l QaO.enc,vS 2 word,vB 3 turned,vO 9 0 2 l2 Qab.enc,vI 10 i],[oS 2 146 l2 Qab.enc]⟩⟩
def Qjr (Γ:Gam) (rv:List Qab) (orders:Int) (l:List QaO) (word:ByteArray) (turned:Bool) (l3:List Qab):Prop:=Qfo Γ rv ⟨[.c 31],⟨123,[vO 9 0 2 l3 Qab.enc],[oS 2 146 l3 Qab.enc]⟩⟩
theorem Qpe (Γ:Gam) (rv:List Qab) {orders l word turned l2 i x0 r} {s:Bool×Int} {e:Bool} (h:loopF (fun s=>QdE orders l word turned l2 i x0 r s.1 s.2) s=some e) (hD:Qjs Γ rv orders l word turned l2 i x0 r e):Qks Γ rv orders l word turned l2 i x0 r s.1 s.2:=by
 refine QaF (C:=fun (s:Bool×Int)=>Qks Γ rv orders l word turned l2 i x0 r s.1 s.2) (D:=fun (e:Bool)=>Qjs Γ rv orders l word turned l2 i x0 r e) ?_ h hD
 clear h hD s e
 rintro ⟨twice,k⟩ z_ h hI hE
 replace h:QdE orders l word turned l2 i x0 r twice k=_:=h
 unfold QdE at h
 rcases Qah h with ⟨h9,h⟩|⟨h9,h⟩
 ·rcases Qah h with ⟨h10,h⟩|⟨h10,h⟩
  ·exact gn 11 [0,1,2,3,9,10,11,12,13,14,15] [0] [bT h9,rp 8 (bT h10),rp 7 kF,rp 2 (bT h10),tT,tT,rp 7 kF,tT,tT,rp 7 kF,tT,tT] (hI _ (oJ h))
  ·obtain ⟨x1,h11,h⟩:=Qae h
   rcases Qah h with ⟨h12,h⟩|⟨h12,h⟩
   ·rcases Qah h with ⟨h13,h⟩|⟨h13,h⟩
    ·exact gn 11 [0,1,2,3,9,10,11,12,13,14,15] [0] [bT h9,rp 3 (bF h10),cE QaO.enc h11,bF h10,oO (zL 0),oO (lT 0 2),rp 4 (bF h10),rp 3 (bT h12),cE QaO.enc h11,bT h12,oO (zL 1),oO (lT 1 2),rp 3 (bT h12),bF h10,bT h12,bF h10,rp 2 (bT h13),rp 7 kF,rp 2 (bT h13),rp 7 kF,rp 2 (bT h13)] (hI _ (oJ h))
    ·rcases Qah h with ⟨h14,h⟩|⟨h14,h⟩
     ·rcases Qah h with ⟨h15,h⟩|⟨h15,h⟩
      ·exact gn 11 [0,1,2,3,9,10,11,12,13,14,15] [0] [bT h9,rp 3 (bF h10),cE QaO.enc h11,bF h10,oO (zL 0),oO (lT 0 2),rp 4 (bF h10),rp 3 (bT h12),cE QaO.enc h11,bT h12,oO (zL 1),oO (lT 1 2),rp 3 (bT h12),bF h10,bT h12,bF h10,rp 2 (bF h13),rp 3 (bT h14),cE QaO.enc h11,bT h14,oO (zL 0),oO (lT 0 2),rp 3 (bT h14),bF h13,bT h14,bF h13,rp 3 (bT h15),cE QaO.enc h11,bT h15,oO (zL 1),oO (lT 1 2),rp 3 (bT h15),bF h13,bT h15,bF h13] (hI _ (oJ h))
      ·exact gn 11 [0,1,2,3,9,10,11,12,13,14,15] [0] [bT h9,rp 3 (bF h10),cE QaO.enc h11,bF h10,oO (zL 0),oO (lT 0 2),rp 4 (bF h10),rp 3 (bT h12),cE QaO.enc h11,bT h12,oO (zL 1),oO (lT 1 2),rp 3 (bT h12),bF h10,bT h12,bF h10,rp 2 (bF h13),rp 3 (bT h14),cE QaO.enc h11,bT h14,oO (zL 0),oO (lT 0 2),rp 3 (bT h14),bF h13,bT h14,bF h13,rp 7 (bF h15),bF h13,bF h15,bF h13] (hI _ (oJ h))
     ·exact gn 11 [0,1,2,3,9,10,11,12,13,14,15] [0] [bT h9,rp 3 (bF h10),cE QaO.enc h11,bF h10,oO (zL 0),oO (lT 0 2),rp 4 (bF h10),rp 3 (bT h12),cE QaO.enc h11,bT h12,oO (zL 1),oO (lT 1 2),rp 3 (bT h12),bF h10,bT h12,bF h10,rp 2 (bF h13),rp 7 (bF h14),bF h13,bF h14,bF h13,rp 7 fF,bF h13,fF,bF h13] (hI _ (oJ h))
   ·rcases Qah h with ⟨h16,h⟩|⟨h16,h⟩
    ·rcases Qah h with ⟨h17,h⟩|⟨h17,h⟩
     ·exact gn 11 [0,1,2,3,9,10,11,12,13,14,15] [0] [bT h9,rp 3 (bF h10),cE QaO.enc h11,bF h10,oO (zL 0),oO (lT 0 2),rp 4 (bF h10),rp 7 (bF h12),bF h10,bF h12,bF h10,fF,fF,rp 3 (bT h16),cE QaO.enc h11,bT h16,oO (zL 0),oO (lT 0 2),rp 3 (bT h16),fF,bT h16,fF,rp 3 (bT h17),cE QaO.enc h11,bT h17,oO (zL 1),oO (lT 1 2),rp 3 (bT h17),fF,bT h17,fF] (hI _ (oJ h))
     ·exact gn 11 [0,1,2,3,9,10,11,12,13,14,15] [0] [bT h9,rp 3 (bF h10),cE QaO.enc h11,bF h10,oO (zL 0),oO (lT 0 2),rp 4 (bF h10),rp 7 (bF h12),bF h10,bF h12,bF h10,fF,fF,rp 3 (bT h16),cE QaO.enc h11,bT h16,oO (zL 0),oO (lT 0 2),rp 3 (bT h16),fF,bT h16,fF,rp 7 (bF h17),fF,bF h17,fF] (hI _ (oJ h))
    ·exact gn 11 [0,1,2,3,9,10,11,12,13,14,15] [0] [bT h9,rp 3 (bF h10),cE QaO.enc h11,bF h10,oO (zL 0),oO (lT 0 2),rp 4 (bF h10),rp 7 (bF h12),bF h10,bF h12,bF h10,fF,fF,rp 7 (bF h16),fF,bF h16,rp 11 fF] (hI _ (oJ h))
 ·exact gn 5 [0,1,2,3,9,10,13,14] [0] [bF h9] (hE _ (oJ h))
theorem Qpd (Γ:Gam) (rv:List Qab) {orders l word turned} {s:List Qab×Int} {e:List Qab} (h:loopF (fun s=>QcA orders l word turned s.1 s.2) s=some e) (hD:Qjr Γ rv orders l word turned e):Qkr Γ rv orders l word turned s.1 s.2:=by
 refine QaF (C:=fun (s:List Qab×Int)=>Qkr Γ rv orders l word turned s.1 s.2) (D:=fun (e:List Qab)=>Qjr Γ rv orders l word turned e) ?_ h hD
 clear h hD s e
 rintro ⟨l2,i⟩ z_ h hI hE
 replace h:QcA orders l word turned l2 i=_:=h
 unfold QcA at h
 rcases Qah h with ⟨h2,h⟩|⟨h2,h⟩
 ·obtain ⟨x0,h3,h⟩:=Qae h
  obtain ⟨h4,h⟩:=Qat h
  obtain ⟨r,h5,h⟩:=Qae h
  obtain ⟨h6,h⟩:=Qat h
  rcases Qah h with ⟨h7,h⟩|⟨h7,h⟩
  ·obtain ⟨h8,h⟩:=Qat h
   exact gn 22 [0,1,2,3,9,10] [2] [nL QaO.enc l,bT h2,cE QaO.enc h3,oO (zL 0),oO (lT 0 2),cE QaO.enc h3,oO (zL 1),oO (lT 1 2),oO (h4),cC (QfL h5),rp 15 hP,oO (h6),rp 2 (oI ((ltI x0.x0 0)=false)),oR True ((ltI x0.x0 0)=false),oI (((ltI x0.x0 0)||(geI x0.x0 orders))=false),oR True (((ltI x0.x0 0)||(geI x0.x0 orders))=false),rp 2 (oI ((((ltI x0.x0 0)||(geI x0.x0 orders))||(ltI x0.x1 0))=false)),oR True ((((ltI x0.x0 0)||(geI x0.x0 orders))||(ltI x0.x1 0))=false),rp 2 (oI (((((ltI x0.x0 0)||(geI x0.x0 orders))||(ltI x0.x1 0))||(geI x0.x1 orders))=false)),oR True (((((ltI x0.x0 0)||(geI x0.x0 orders))||(ltI x0.x1 0))||(geI x0.x1 orders))=false),bT h7,oO (Eq.refl ([(Qab.mk 2 (catS (catS word QcX) r))].map Qab.enc).length),aO Qab.enc h8] (hI _ (oJ h))
  ·obtain ⟨e0,h18,h⟩:=Qae h
   refine gn 25 [0,1,2,3,9,10,11,12,13,14,15] [0] [nL QaO.enc l,bT h2,cE QaO.enc h3,oO (zL 0),oO (lT 0 2),cE QaO.enc h3,oO (zL 1),oO (lT 1 2),oO (h4),cC (QfL h5),rp 15 hP,oO (h6),rp 2 (oI ((ltI x0.x0 0)=false)),oR True ((ltI x0.x0 0)=false),oI (((ltI x0.x0 0)||(geI x0.x0 orders))=false),oR True (((ltI x0.x0 0)||(geI x0.x0 orders))=false),rp 2 (oI ((((ltI x0.x0 0)||(geI x0.x0 orders))||(ltI x0.x1 0))=false)),oR True ((((ltI x0.x0 0)||(geI x0.x0 orders))||(ltI x0.x1 0))=false),rp 2 (oI (((((ltI x0.x0 0)||(geI x0.x0 orders))||(ltI x0.x1 0))||(geI x0.x1 orders))=false)),oR True (((((ltI x0.x0 0)||(geI x0.x0 orders))||(ltI x0.x1 0))||(geI x0.x1 orders))=false),bF h7] (Qpe Γ rv h18 ?_)
   obtain ⟨twice1,rfl⟩:∃ x,x=e0:=⟨_,rfl⟩
   replace h:(br twice1 (chk (okN (l2++[(Qab.mk 6 (catS (catS word QcX) r))]).length 24) (some (.inl ((l2++[(Qab.mk 6 (catS (catS word QcX) r))]),(addK .i64 i 1))))) (some (.inl (l2,(addK .i64 i 1)))):Option ((List Qab×Int)⊕(List Qab)))=some _:=h
   rcases Qah h with ⟨h19,h⟩|⟨h19,h⟩
   ·obtain ⟨h20,h⟩:=Qat h
    exact gn 7 [0,1,2,3,9,10] [2] [bT h19,oO (Eq.refl ([(Qab.mk 6 (catS (catS word QcX) r))].map Qab.enc).length),aO Qab.enc h20] (hI _ (oJ h))
   ·exact gn 7 [0,1,2,3,9,10] [0] [bF h19] (hI _ (oJ h))
 ·exact gn 5 [9] [0] [nL QaO.enc l,bF h2] (hE _ (oJ h))
theorem Qjq (Γ:Gam) (rv:List Qab) {orders l word turned l1} (h:QeW orders l word turned l1=some rv):Qfo Γ rv ⟨[.c 15],⟨123,[vI 0 orders,vL 1 2 l QaO.enc,vS 2 word,vB 3 turned,vO 9 0 2 l1 Qab.enc],[oS 2 146 l1 Qab.enc]⟩⟩:=by
 unfold QeW at h
 obtain ⟨e1,h21,h⟩:=Qae h
 refine gn 5 [0,1,2,3,9,10] [0] [] (Qpd Γ rv h21 ?_)
 obtain ⟨l3,rfl⟩:∃ x,x=e1:=⟨_,rfl⟩
 replace h:(some l3:Option (List Qab))=some _:=h
 obtain rfl:=Option.some.inj h
 exact gr 2 [] [hW 4,hH (.frz 0),rp 3 (eL l3 Qab.enc)]
theorem Qru {orders l word turned} {rv:List Qab} (h:Qgv orders l word turned=some rv):AFn Tryz.prog 93 [.one (lI orders),.one (lL 2 l QaO.enc),.one (.str word),.one (.bool turned)] [] (one (lL 2 rv Qab.enc)) []:=by
 refine QaK Tryz.func93 (by kernel_rfl) (by kernel_rfl) (fun Γ=>?_)
 unfold Qgv at h
 rcases Qah h with ⟨h0,h⟩|⟨h0,h⟩
 ·obtain ⟨h1,h⟩:=Qat h
  exact gn 9 [0,1,2,3,9] [1] [nL QaO.enc l,bT h0,oO (Eq.refl ([(Qab.mk 4 word)].map Qab.enc).length),aN (l:=([(Qab.mk 4 word)]:List Qab)) Qab.enc h1] (Qjq Γ rv h)
 ·exact gn 9 [0,1,2,3,9] [0] [nL QaO.enc l,bF h0,hW 1,hH (.adopt 9 2 146)] (Qjq Γ rv h)
def Qdy (Γ:Gam) (rv:List Qab) (cf:Cf):Prop:=Go Tryz.prog Tryz.f93 [] Γ (one (lO 0 2 rv Qab.enc)) [oS 2 146 rv Qab.enc] cf
def QhQ (Γ:Gam) (rv:List Qab) (orders:Int) (l:List QaO) (word:ByteArray) (turned:Bool) (l2:List Qab) (i:Int) (x0:QaO) (r:ByteArray) (twice:Bool) (k:Int):Prop:=Qdy Γ rv ⟨[.c 1001972,.l 1001972,.b 2,.c 125247,.b 1,.c 979,.l 244,.b 0,.c 31],⟨123,[vI 0 orders,vL 1 2 l QaO.enc,vS 2 word,vB 3 turned,vO 9 0 2 l2 Qab.enc,vI 10 i,vI 11 x0.x0,vI 12 x0.x1,vS 13 (catS (catS word QcX) r),vB 14 twice,vI 15 k],[oS 2 146 l2 Qab.enc]⟩⟩
def QhG (Γ:Gam) (rv:List Qab) (orders:Int) (l:List QaO) (word:ByteArray) (turned:Bool) (l2:List Qab) (i:Int) (x0:QaO) (r:ByteArray) (twice1:Bool):Prop:=Qdy Γ rv ⟨[.c 125247,.b 1,.c 979,.l 244,.b 0,.c 31],⟨123,[vI 0 orders,vL 1 2 l QaO.enc,vS 2 word,vB 3 turned,vO 9 0 2 l2 Qab.enc,vI 10 i,vS 13 (catS (catS word QcX) r),vB 14 twice1],[oS 2 146 l2 Qab.enc]⟩⟩
def QhP (Γ:Gam) (rv:List Qab) (orders:Int) (l:List QaO) (word:ByteArray) (turned:Bool) (l2:List Qab) (i:Int):Prop:=Qdy Γ rv ⟨[.c 244,.l 244,.b 0,.c 31],⟨123,[vI 0 orders,vL 1 2 l QaO.enc,vS 2 word,vB 3 turned,vO 9 0 2 l2 Qab.enc,vI 10 i],[oS 2 146 l2 Qab.enc]⟩⟩
def QhF (Γ:Gam) (rv:List Qab) (orders:Int) (l:List QaO) (word:ByteArray) (turned:Bool) (l3:List Qab):Prop:=Qdy Γ rv ⟨[.c 31],⟨123,[vO 9 0 2 l3 Qab.enc],[oS 2 146 l3 Qab.enc]⟩⟩
theorem QmS (Γ:Gam) (rv:List Qab) {orders l word turned l2 i x0 r} {s:Bool×Int} {e:Bool} (h:loopF (fun s=>Qeq orders l word turned l2 i x0 r s.1 s.2) s=some e) (hD:QhG Γ rv orders l word turned l2 i x0 r e):QhQ Γ rv orders l word turned l2 i x0 r s.1 s.2:=by
 refine QaF (C:=fun (s:Bool×Int)=>QhQ Γ rv orders l word turned l2 i x0 r s.1 s.2) (D:=fun (e:Bool)=>QhG Γ rv orders l word turned l2 i x0 r e) ?_ h hD
 clear h hD s e
 rintro ⟨twice,k⟩ z_ h hI hE
 replace h:Qeq orders l word turned l2 i x0 r twice k=_:=h
 unfold Qeq at h
 rcases Qah h with ⟨h9,h⟩|⟨h9,h⟩
 ·rcases Qah h with ⟨h10,h⟩|⟨h10,h⟩
  ·exact gn 11 [0,1,2,3,9,10,11,12,13,14,15] [0] [bT h9,rp 8 (bT h10),rp 7 kF,rp 2 (bT h10),tT,tT,rp 7 kF,tT,tT,rp 7 kF,tT,tT] (hI _ (oJ h))
  ·obtain ⟨x1,h11,h⟩:=Qae h
   rcases Qah h with ⟨h12,h⟩|⟨h12,h⟩
   ·rcases Qah h with ⟨h13,h⟩|⟨h13,h⟩
    ·exact gn 11 [0,1,2,3,9,10,11,12,13,14,15] [0] [bT h9,rp 3 (bF h10),cE QaO.enc h11,bF h10,oO (zL 0),oO (lT 0 2),rp 4 (bF h10),rp 3 (bT h12),cE QaO.enc h11,bT h12,oO (zL 1),oO (lT 1 2),rp 3 (bT h12),bF h10,bT h12,bF h10,rp 2 (bT h13),rp 7 kF,rp 2 (bT h13),rp 7 kF,rp 2 (bT h13)] (hI _ (oJ h))
    ·rcases Qah h with ⟨h14,h⟩|⟨h14,h⟩
     ·rcases Qah h with ⟨h15,h⟩|⟨h15,h⟩
      ·exact gn 11 [0,1,2,3,9,10,11,12,13,14,15] [0] [bT h9,rp 3 (bF h10),cE QaO.enc h11,bF h10,oO (zL 0),oO (lT 0 2),rp 4 (bF h10),rp 3 (bT h12),cE QaO.enc h11,bT h12,oO (zL 1),oO (lT 1 2),rp 3 (bT h12),bF h10,bT h12,bF h10,rp 2 (bF h13),rp 3 (bT h14),cE QaO.enc h11,bT h14,oO (zL 0),oO (lT 0 2),rp 3 (bT h14),bF h13,bT h14,bF h13,rp 3 (bT h15),cE QaO.enc h11,bT h15,oO (zL 1),oO (lT 1 2),rp 3 (bT h15),bF h13,bT h15,bF h13] (hI _ (oJ h))
      ·exact gn 11 [0,1,2,3,9,10,11,12,13,14,15] [0] [bT h9,rp 3 (bF h10),cE QaO.enc h11,bF h10,oO (zL 0),oO (lT 0 2),rp 4 (bF h10),rp 3 (bT h12),cE QaO.enc h11,bT h12,oO (zL 1),oO (lT 1 2),rp 3 (bT h12),bF h10,bT h12,bF h10,rp 2 (bF h13),rp 3 (bT h14),cE QaO.enc h11,bT h14,oO (zL 0),oO (lT 0 2),rp 3 (bT h14),bF h13,bT h14,bF h13,rp 7 (bF h15),bF h13,bF h15,bF h13] (hI _ (oJ h))
     ·exact gn 11 [0,1,2,3,9,10,11,12,13,14,15] [0] [bT h9,rp 3 (bF h10),cE QaO.enc h11,bF h10,oO (zL 0),oO (lT 0 2),rp 4 (bF h10),rp 3 (bT h12),cE QaO.enc h11,bT h12,oO (zL 1),oO (lT 1 2),rp 3 (bT h12),bF h10,bT h12,bF h10,rp 2 (bF h13),rp 7 (bF h14),bF h13,bF h14,bF h13,rp 7 fF,bF h13,fF,bF h13] (hI _ (oJ h))
   ·rcases Qah h with ⟨h16,h⟩|⟨h16,h⟩
    ·rcases Qah h with ⟨h17,h⟩|⟨h17,h⟩
     ·exact gn 11 [0,1,2,3,9,10,11,12,13,14,15] [0] [bT h9,rp 3 (bF h10),cE QaO.enc h11,bF h10,oO (zL 0),oO (lT 0 2),rp 4 (bF h10),rp 7 (bF h12),bF h10,bF h12,bF h10,fF,fF,rp 3 (bT h16),cE QaO.enc h11,bT h16,oO (zL 0),oO (lT 0 2),rp 3 (bT h16),fF,bT h16,fF,rp 3 (bT h17),cE QaO.enc h11,bT h17,oO (zL 1),oO (lT 1 2),rp 3 (bT h17),fF,bT h17,fF] (hI _ (oJ h))
     ·exact gn 11 [0,1,2,3,9,10,11,12,13,14,15] [0] [bT h9,rp 3 (bF h10),cE QaO.enc h11,bF h10,oO (zL 0),oO (lT 0 2),rp 4 (bF h10),rp 7 (bF h12),bF h10,bF h12,bF h10,fF,fF,rp 3 (bT h16),cE QaO.enc h11,bT h16,oO (zL 0),oO (lT 0 2),rp 3 (bT h16),fF,bT h16,fF,rp 7 (bF h17),fF,bF h17,fF] (hI _ (oJ h))
    ·exact gn 11 [0,1,2,3,9,10,11,12,13,14,15] [0] [bT h9,rp 3 (bF h10),cE QaO.enc h11,bF h10,oO (zL 0),oO (lT 0 2),rp 4 (bF h10),rp 7 (bF h12),bF h10,bF h12,bF h10,fF,fF,rp 7 (bF h16),fF,bF h16,rp 11 fF] (hI _ (oJ h))
 ·exact gn 5 [0,1,2,3,9,10,13,14] [0] [bF h9] (hE _ (oJ h))
theorem QmR (Γ:Gam) (rv:List Qab) {orders l word turned} {s:List Qab×Int} {e:List Qab} (h:loopF (fun s=>Qep orders l word turned s.1 s.2) s=some e) (hD:QhF Γ rv orders l word turned e):QhP Γ rv orders l word turned s.1 s.2:=by
 refine QaF (C:=fun (s:List Qab×Int)=>QhP Γ rv orders l word turned s.1 s.2) (D:=fun (e:List Qab)=>QhF Γ rv orders l word turned e) ?_ h hD
 clear h hD s e
 rintro ⟨l2,i⟩ z_ h hI hE
 replace h:Qep orders l word turned l2 i=_:=h
 unfold Qep at h
 rcases Qah h with ⟨h2,h⟩|⟨h2,h⟩
 ·obtain ⟨x0,h3,h⟩:=Qae h
  obtain ⟨h4,h⟩:=Qat h
  obtain ⟨r,h5,h⟩:=Qae h
  obtain ⟨h6,h⟩:=Qat h
  rcases Qah h with ⟨h7,h⟩|⟨h7,h⟩
  ·obtain ⟨h8,h⟩:=Qat h
   exact gn 22 [0,1,2,3,9,10] [2] [nL QaO.enc l,bT h2,cE QaO.enc h3,oO (zL 0),oO (lT 0 2),cE QaO.enc h3,oO (zL 1),oO (lT 1 2),oO (h4),cC (QfL h5),rp 15 hP,oO (h6),rp 2 (oI ((ltI x0.x0 0)=false)),oR True ((ltI x0.x0 0)=false),oI (((ltI x0.x0 0)||(geI x0.x0 orders))=false),oR True (((ltI x0.x0 0)||(geI x0.x0 orders))=false),rp 2 (oI ((((ltI x0.x0 0)||(geI x0.x0 orders))||(ltI x0.x1 0))=false)),oR True ((((ltI x0.x0 0)||(geI x0.x0 orders))||(ltI x0.x1 0))=false),rp 2 (oI (((((ltI x0.x0 0)||(geI x0.x0 orders))||(ltI x0.x1 0))||(geI x0.x1 orders))=false)),oR True (((((ltI x0.x0 0)||(geI x0.x0 orders))||(ltI x0.x1 0))||(geI x0.x1 orders))=false),bT h7,oO (Eq.refl ([(Qab.mk 2 (catS (catS word QcX) r))].map Qab.enc).length),aO Qab.enc h8] (hI _ (oJ h))
  ·obtain ⟨e0,h18,h⟩:=Qae h
   refine gn 25 [0,1,2,3,9,10,11,12,13,14,15] [0] [nL QaO.enc l,bT h2,cE QaO.enc h3,oO (zL 0),oO (lT 0 2),cE QaO.enc h3,oO (zL 1),oO (lT 1 2),oO (h4),cC (QfL h5),rp 15 hP,oO (h6),rp 2 (oI ((ltI x0.x0 0)=false)),oR True ((ltI x0.x0 0)=false),oI (((ltI x0.x0 0)||(geI x0.x0 orders))=false),oR True (((ltI x0.x0 0)||(geI x0.x0 orders))=false),rp 2 (oI ((((ltI x0.x0 0)||(geI x0.x0 orders))||(ltI x0.x1 0))=false)),oR True ((((ltI x0.x0 0)||(geI x0.x0 orders))||(ltI x0.x1 0))=false),rp 2 (oI (((((ltI x0.x0 0)||(geI x0.x0 orders))||(ltI x0.x1 0))||(geI x0.x1 orders))=false)),oR True (((((ltI x0.x0 0)||(geI x0.x0 orders))||(ltI x0.x1 0))||(geI x0.x1 orders))=false),bF h7] (QmS Γ rv h18 ?_)
   obtain ⟨twice1,rfl⟩:∃ x,x=e0:=⟨_,rfl⟩
   replace h:(br twice1 (chk (okN (l2++[(Qab.mk 6 (catS (catS word QcX) r))]).length 24) (some (.inl ((l2++[(Qab.mk 6 (catS (catS word QcX) r))]),(addK .i64 i 1))))) (some (.inl (l2,(addK .i64 i 1)))):Option ((List Qab×Int)⊕(List Qab)))=some _:=h
   rcases Qah h with ⟨h19,h⟩|⟨h19,h⟩
   ·obtain ⟨h20,h⟩:=Qat h
    exact gn 7 [0,1,2,3,9,10] [2] [bT h19,oO (Eq.refl ([(Qab.mk 6 (catS (catS word QcX) r))].map Qab.enc).length),aO Qab.enc h20] (hI _ (oJ h))
   ·exact gn 7 [0,1,2,3,9,10] [0] [bF h19] (hI _ (oJ h))
 ·exact gn 5 [9] [0] [nL QaO.enc l,bF h2] (hE _ (oJ h))
theorem QhE (Γ:Gam) (rv:List Qab) {orders l word turned l1} (h:Qeo orders l word turned l1=some rv):Qdy Γ rv ⟨[.c 15],⟨123,[vI 0 orders,vL 1 2 l QaO.enc,vS 2 word,vB 3 turned,vO 9 0 2 l1 Qab.enc],[oS 2 146 l1 Qab.enc]⟩⟩:=by
 unfold Qeo at h
 obtain ⟨e1,h21,h⟩:=Qae h
 refine gn 5 [0,1,2,3,9,10] [0] [] (QmR Γ rv h21 ?_)
 obtain ⟨l3,rfl⟩:∃ x,x=e1:=⟨_,rfl⟩
 replace h:(some l3:Option (List Qab))=some _:=h
 obtain rfl:=Option.some.inj h
 exact gr 2 [0] []
theorem Qox {orders l word turned} {rv:List Qab} (h:QhI orders l word turned=some rv):AFn Tryz.prog 93 [.one (lI orders),.one (lL 2 l QaO.enc),.one (.str word),.one (.bool turned)] [] (one (lO 0 2 rv Qab.enc)) [oS 2 146 rv Qab.enc]:=by
 refine QaK Tryz.func93 (by kernel_rfl) (by kernel_rfl) (fun Γ=>?_)
 unfold QhI at h
 rcases Qah h with ⟨h0,h⟩|⟨h0,h⟩
 ·obtain ⟨h1,h⟩:=Qat h
  exact gn 9 [0,1,2,3,9] [1] [nL QaO.enc l,bT h0,oO (Eq.refl ([(Qab.mk 4 word)].map Qab.enc).length),aN (l:=([(Qab.mk 4 word)]:List Qab)) Qab.enc h1] (QhE Γ rv h)
 ·exact gn 9 [0,1,2,3,9] [0] [nL QaO.enc l,bF h0,hW 1,hH (.adopt 9 2 146)] (QhE Γ rv h)
theorem QrX {orders apart before} {rv:List Qab} (h:Qhe orders apart before=some rv):AFn Tryz.prog 62 [.one (lI orders),.one (lL 2 apart QaO.enc),.one (lL 2 before QaO.enc)] [] (one (lL 2 rv Qab.enc)) []:=by
 refine QaK Tryz.func62 (by kernel_rfl) (by kernel_rfl) (fun Γ=>?_)
 unfold Qhe at h
 obtain ⟨r,h0,h⟩:=Qae h
 obtain ⟨r1,h1,h⟩:=Qae h
 obtain ⟨h2,h⟩:=Qat h
 obtain rfl:=Option.some.inj h
 exact gr 6 [] [cC (Qox h0),cC (Qru h1),aO Qab.enc h2,hW 1,hH (.frz 1),rp 2 (oO (Eq.refl ((r++r1).map Qab.enc).length))]
def Qhh (Γ:Gam) (rv:List Qab) (cf:Cf):Prop:=Go Tryz.prog Tryz.f57 [] Γ (one (lO 0 2 rv Qab.enc)) [oS 2 146 rv Qab.enc] cf
def QfZ (Γ:Gam) (rv:List Qab) (word:ByteArray) (l:List Qab) (l1:List Qab) (i:Int):Prop:=Qhh Γ rv ⟨[.c 116,.l 116,.b 0,.c 15],⟨40,[vS 0 word,vL 1 2 l Qab.enc,vO 5 0 2 l1 Qab.enc,vI 6 i],[oS 2 146 l1 Qab.enc]⟩⟩
def QfB (Γ:Gam) (rv:List Qab) (word:ByteArray) (l:List Qab) (l2:List Qab):Prop:=Qhh Γ rv ⟨[.c 15],⟨40,[vO 5 0 2 l2 Qab.enc],[oS 2 146 l2 Qab.enc]⟩⟩
theorem QhR (Γ:Gam) (rv:List Qab) {word l l1 i at_} {x:(List Qab×Int)⊕(List Qab)} (h:QeZ word l l1 i at_=some x) (hI:∀ s:List Qab×Int,x=.inl s→QfZ Γ rv word l s.1 s.2) (hE:∀ e:List Qab,x=.inr e→QfB Γ rv word l e):Qhh Γ rv ⟨[.c 3731,.b 1,.c 467,.l 116,.b 0,.c 15],⟨40,[vS 0 word,vL 1 2 l Qab.enc,vO 5 0 2 l1 Qab.enc,vI 6 i,vS 7 at_],[oS 2 146 l1 Qab.enc]⟩⟩:=by
 unfold QeZ at h
 obtain ⟨x1,h5,h⟩:=Qae h
 obtain ⟨h6,h⟩:=Qat h
 exact gn 4 [0,1,5,6] [2] [cE Qab.enc h5,oO (Eq.refl ([(Qab.mk x1.err at_)].map Qab.enc).length),aO Qab.enc h6] (hI _ (oJ h))
theorem Qnv (Γ:Gam) (rv:List Qab) {word l} {s:List Qab×Int} {e:List Qab} (h:loopF (fun s=>Qe0 word l s.1 s.2) s=some e) (hD:QfB Γ rv word l e):QfZ Γ rv word l s.1 s.2:=by
 refine QaF (C:=fun (s:List Qab×Int)=>QfZ Γ rv word l s.1 s.2) (D:=fun (e:List Qab)=>QfB Γ rv word l e) ?_ h hD
 clear h hD s e
 rintro ⟨l1,i⟩ z_ h hI hE
 replace h:Qe0 word l l1 i=_:=h
 unfold Qe0 at h
 rcases Qah h with ⟨h0,h⟩|⟨h0,h⟩
 ·obtain ⟨x0,h1,h⟩:=Qae h
  rcases Qah h with ⟨h2,h⟩|⟨h2,h⟩
  ·exact gn 14 [0,1,5,6,7] [0] [nL Qab.enc l,bT h0,cE Qab.enc h1,nF h2] (QhR Γ rv h hI hE)
  ·obtain ⟨h3,h⟩:=Qat h
   obtain ⟨h4,h⟩:=Qat h
   exact gn 14 [0,1,5,6,7] [0] [nL Qab.enc l,bT h0,cE Qab.enc h1,nT h2,oO (h3),cE Qab.enc h1,oO (h4)] (QhR Γ rv h hI hE)
 ·exact gn 5 [5] [0] [nL Qab.enc l,bF h0] (hE _ (oJ h))
theorem Qpf {word l} {rv:List Qab} (h:Qgi word l=some rv):AFn Tryz.prog 57 [.one (.str word),.one (lL 2 l Qab.enc)] [] (one (lO 0 2 rv Qab.enc)) [oS 2 146 rv Qab.enc]:=by
 refine QaK Tryz.func57 (by kernel_rfl) (by kernel_rfl) (fun Γ=>?_)
 unfold Qgi at h
 obtain ⟨e0,h7,h⟩:=Qae h
 refine gn 9 [0,1,5,6] [0] [hW 12,hH (.adopt 5 2 146)] (Qnv Γ rv h7 ?_)
 obtain ⟨l2,rfl⟩:∃ x,x=e0:=⟨_,rfl⟩
 replace h:(some l2:Option (List Qab))=some _:=h
 obtain rfl:=Option.some.inj h
 exact gr 2 [0] []
theorem QrY {x0} {rv:List Qab} (h:Qhf x0=some rv):AFn Tryz.prog 23 [.agg (Qac.enc x0)] [] (one (lL 2 rv Qab.enc)) []:=by
 refine QaK Tryz.func23 (by kernel_rfl) (by kernel_rfl) (fun Γ=>?_)
 unfold Qhf at h
 obtain ⟨r,h0,h⟩:=Qae h
 obtain ⟨r1,h1,h⟩:=Qae h
 obtain ⟨r2,h2,h⟩:=Qae h
 obtain ⟨r3,h3,h⟩:=Qae h
 obtain ⟨h4,h⟩:=Qat h
 obtain ⟨r4,h5,h⟩:=Qae h
 obtain ⟨r5,h6,h⟩:=Qae h
 obtain ⟨r6,h7,h⟩:=Qae h
 obtain ⟨h8,h⟩:=Qat h
 obtain ⟨r7,h9,h⟩:=Qae h
 obtain ⟨r8,h10,h⟩:=Qae h
 obtain ⟨h11,h⟩:=Qat h
 obtain rfl:=Option.some.inj h
 exact gr 12 [] [cC (QrR h0),cC (Qpf h1),cC (QrS h2),cC (QiU h3),aO Qab.enc h4,hH (.draw 13 []),cC (QfW h5),nL Qai.enc x0.types,cC (QrU h6),cC (QiU h7),aO Qab.enc h8,nL Qag.enc x0.orders,cC (QrX h9),cC (QiU h10),aO Qab.enc h11,hW 5,hH (.frz 4),rp 4 (oO (Eq.refl ((((r1++r3)++r6)++r8).map Qab.enc).length))]
theorem QbW {x0} {rv:Bool} (h:QfQ x0=some rv):AFn Tryz.prog 8 [.agg (Qac.enc x0)] [] (one (.bool rv)) []:=by
 refine QaK Tryz.func8 (by kernel_rfl) (by kernel_rfl) (fun Γ=>?_)
 unfold QfQ at h
 obtain ⟨r,h0,h⟩:=Qae h
 obtain rfl:=Option.some.inj h
 exact gr 4 [] [cC (QrY h0),nL Qab.enc r]
theorem QgP {r} {rv:Bool} (h:QiK r=some rv):AFn Tryz.prog 9 [.agg (Qad.enc r)] [] (one (.bool rv)) []:=by
 refine QaK Tryz.func9 (by kernel_rfl) (by kernel_rfl) (fun Γ=>?_)
 unfold QiK at h
 obtain rfl:=Option.some.inj h
 exact gr 4 [] [nL Qaa.enc r.visits,hP,hP,hP,rp 2 (oI ((leI (lenI r.visits) 6)=false)),nL Qaa.enc r.visits,hP,hP,oI ((leI (lenI r.visits) 6)=false),oR True ((leI (lenI r.visits) 6)=false)]
theorem QhB {l at_} {rv:Bool} (h:QjL l at_=some rv):AFn Tryz.prog 47 [.one (lL 16 l Qag.enc),.one (lI at_)] [] (one (.bool rv)) []:=by
 refine QaK Tryz.func47 (by kernel_rfl) (by kernel_rfl) (fun Γ=>?_)
 unfold QjL at h
 obtain rfl:=Option.some.inj h
 exact gr 4 [] [hP,hP,hP,oI ((geI at_ 0)=true),nL Qag.enc l,hP,hP,rp 2 (oI ((geI at_ 0)=true)),oR True ((geI at_ 0)=true)]
def QuZ (Γ:Gam) (rv:List Qaa) (cf:Cf):Prop:=Go Tryz.prog Tryz.f16 [] Γ (one (lL 2 rv Qaa.enc)) [] cf
theorem Qod (Γ:Gam) (rv:List Qaa) {l at_ l1} (h:QgI l at_ l1=some rv):QuZ Γ rv ⟨[.c 31],⟨35,[vL 0 16 l Qag.enc,vI 1 at_,vO 5 0 2 l1 Qaa.enc],[oS 2 52 l1 Qaa.enc]⟩⟩:=by
 unfold QgI at h
 obtain ⟨x1,h5,h⟩:=Qae h
 rcases Qah h with ⟨h6,h⟩|⟨h6,h⟩
 ·obtain ⟨h7,h⟩:=Qat h
  obtain rfl:=Option.some.inj h
  exact gr 7 [] [cE Qag.enc h5,bT h6,oO (Eq.refl ([(Qaa.mk at_ true)].map Qaa.enc).length),aO Qaa.enc h7,hW 5,hH (.frz 2),rp 4 (oO (Eq.refl ((l1++[(Qaa.mk at_ true)]).map Qaa.enc).length))]
 ·obtain rfl:=Option.some.inj h
  exact gr 7 [] [cE Qag.enc h5,bF h6,hW 5,hH (.frz 0),rp 3 (eL l1 Qaa.enc)]
theorem QfF {l at_} {rv:List Qaa} (h:Qgl l at_=some rv):AFn Tryz.prog 16 [.one (lL 16 l Qag.enc),.one (lI at_)] [] (one (lL 2 rv Qaa.enc)) []:=by
 refine QaK Tryz.func16 (by kernel_rfl) (by kernel_rfl) (fun Γ=>?_)
 unfold Qgl at h
 obtain ⟨r,h0,h⟩:=Qae h
 rcases Qah h with ⟨h1,h⟩|⟨h1,h⟩
 ·obtain ⟨x0,h2,h⟩:=Qae h
  rcases Qah h with ⟨h3,h⟩|⟨h3,h⟩
  ·obtain ⟨h4,h⟩:=Qat h
   exact gn 14 [0,1,5] [1] [cC (QhB h0),nF h1,cE Qag.enc h2,bT h3,oO (Eq.refl ([(Qaa.mk at_ false)].map Qaa.enc).length),aN (l:=([(Qaa.mk at_ false)]:List Qaa)) Qaa.enc h4] (Qod Γ rv h)
  ·exact gn 14 [0,1,5] [0] [cC (QhB h0),nF h1,cE Qag.enc h2,bF h3,hW 1,hH (.adopt 5 2 52)] (Qod Γ rv h)
 ·obtain rfl:=Option.some.inj h
  exact gr 10 [] [cC (QhB h0),nT h1,hW 3,hH (.nilS 4 0 2)]
def QeB (Γ:Gam) (rv:Int) (cf:Cf):Prop:=Go Tryz.prog Tryz.f162 [] Γ (one (lI rv)) [] cf
def Qd1 (Γ:Gam) (rv:Int) (s0:List Qaa) (v:Qaa) (v1:Int):Prop:=QeB Γ rv ⟨[.c 52,.l 52,.b 0,.c 7],⟨19,[vL 0 2 s0 Qaa.enc,vP 3 0 2,vI 7 (lenI s0),vI 8 v1],[oX 2 52 (Qaa.enc v)]⟩⟩
def QdK (Γ:Gam) (rv:Int) (s0:List Qaa) (v:Qaa):Prop:=QeB Γ rv ⟨[.c 7],⟨19,[],[]⟩⟩
theorem Qg2 (Γ:Gam) (rv:Int) {s0 v} {s:Int} {e:(Unit)⊕(Int)} (h:loopF (fun s=>QaN s0 v s) s=some e) (hD:sel e (fun e=>QdK Γ rv s0 v) (fun e=>e=rv)):Qd1 Γ rv s0 v s:=by
 refine QaF (C:=fun (s:Int)=>Qd1 Γ rv s0 v s) (D:=fun (e:(Unit)⊕(Int))=>sel e (fun e=>QdK Γ rv s0 v) (fun e=>e=rv)) ?_ h hD
 clear h hD s e
 intro v1 z_ h hI hE
 replace h:QaN s0 v v1=_:=h
 unfold QaN at h
 rcases Qah h with ⟨h0,h⟩|⟨h0,h⟩
 ·obtain ⟨x0,h1,h⟩:=Qae h
  rcases Qah h with ⟨h2,h⟩|⟨h2,h⟩
  ·obtain rfl:=(hE _ (oJ h):_=rv)
   exact gr 14 [] [bT h0,hH (.draw 6 []),cE Qaa.enc h1,bT h2]
  ·exact gn 16 [0,3,7,8] [0] [bT h0,hH (.draw 6 []),cE Qaa.enc h1,bF h2] (hI _ (oJ h))
 ·exact gn 5 [] [] [bF h0] (hE _ (oJ h))
theorem Qem {s0 v} {rv:Int} (h:Qbk s0 v=some rv):AFn Tryz.prog 162 [.one (lL 2 s0 Qaa.enc),.agg (Qaa.enc v)] [] (one (lI rv)) []:=by
 refine QaK Tryz.func162 (by kernel_rfl) (by kernel_rfl) (fun Γ=>?_)
 unfold Qbk at h
 obtain ⟨e0,h3,h⟩:=Qae h
 refine gn 7 [0,3,7,8] [0] [nL Qaa.enc s0] (Qg2 Γ rv h3 ?_)
 rcases e0 with e0|e0
 ·replace h:(some (-1):Option Int)=some _:=h
  obtain rfl:=Option.some.inj h
  exact gr 2 [] []
 ·obtain ⟨r,rfl⟩:∃ x,x=e0:=⟨_,rfl⟩
  replace h:(some r:Option Int)=some _:=h
  exact Option.some.inj h
theorem Qia {l v} {rv:Int} (h:Qgn l v=some rv):AFn Tryz.prog 134 [.one (lL 2 l Qaa.enc),.agg (Qaa.enc v)] [] (one (lI rv)) []:=by
 refine QaK Tryz.func134 (by kernel_rfl) (by kernel_rfl) (fun Γ=>?_)
 unfold Qgn at h
 obtain ⟨r,h0,h⟩:=Qae h
 obtain rfl:=Option.some.inj h
 exact gr 4 [] [cC (Qem h0)]
def Qql (Γ:Gam) (rv:Bool) (cf:Cf):Prop:=Go Tryz.prog Tryz.f105 [] Γ (one (.bool rv)) [] cf
def Qns (Γ:Gam) (rv:Bool) (l:List Qaa) (v:Int):Prop:=Qql Γ rv ⟨[.c 52,.l 52,.b 0,.c 7],⟨19,[vL 0 2 l Qaa.enc,vL 5 2 l Qaa.enc,vI 6 (lenI l),vI 7 v],[]⟩⟩
def QmK (Γ:Gam) (rv:Bool) (l:List Qaa):Prop:=Qql Γ rv ⟨[.c 7],⟨19,[],[]⟩⟩
theorem QrA (Γ:Gam) (rv:Bool) {l} {s:Int} {e:(Unit)⊕(Bool)} (h:loopF (fun s=>Qda l s) s=some e) (hD:sel e (fun e=>QmK Γ rv l) (fun e=>e=rv)):Qns Γ rv l s:=by
 refine QaF (C:=fun (s:Int)=>Qns Γ rv l s) (D:=fun (e:(Unit)⊕(Bool))=>sel e (fun e=>QmK Γ rv l) (fun e=>e=rv)) ?_ h hD
 clear h hD s e
 intro v z_ h hI hE
 replace h:Qda l v=_:=h
 unfold Qda at h
 rcases Qah h with ⟨h0,h⟩|⟨h0,h⟩
 ·obtain ⟨x0,h1,h⟩:=Qae h
  obtain ⟨l1,h2,h⟩:=Qae h
  obtain ⟨r,h3,h⟩:=Qae h
  rcases Qah h with ⟨h4,h⟩|⟨h4,h⟩
  ·obtain rfl:=(hE _ (oJ h):_=rv)
   exact gr 14 [] [bT h0,cE Qaa.enc h1,hH (.draw 6 []),hH (.rows (l1.map Qaa.enc)),oO (sl1 h2),oO (sl2 h2),oO (sl3 Qaa.enc h2),oO (Int.le_refl v),oO (sl3 Qaa.enc h2),oO (sl6 Qaa.enc h2),cC (Qia h3),bT h4]
  ·exact gn 16 [0,5,6,7] [] [bT h0,cE Qaa.enc h1,hH (.draw 6 []),hH (.rows (l1.map Qaa.enc)),oO (sl1 h2),oO (sl2 h2),oO (sl3 Qaa.enc h2),oO (Int.le_refl v),oO (sl3 Qaa.enc h2),oO (sl6 Qaa.enc h2),cC (Qia h3),bF h4] (hI _ (oJ h))
 ·exact gn 5 [] [] [bF h0] (hE _ (oJ h))
theorem Qk2 {l} {rv:Bool} (h:Qi7 l=some rv):AFn Tryz.prog 105 [.one (lL 2 l Qaa.enc)] [] (one (.bool rv)) []:=by
 refine QaK Tryz.func105 (by kernel_rfl) (by kernel_rfl) (fun Γ=>?_)
 unfold Qi7 at h
 obtain ⟨e0,h5,h⟩:=Qae h
 refine gn 7 [0,5,6,7] [] [nL Qaa.enc l] (QrA Γ rv h5 ?_)
 rcases e0 with e0|e0
 ·replace h:(some false:Option Bool)=some _:=h
  obtain rfl:=Option.some.inj h
  exact gr 2 [] []
 ·obtain ⟨r1,rfl⟩:∃ x,x=e0:=⟨_,rfl⟩
  replace h:(some r1:Option Bool)=some _:=h
  exact Option.some.inj h
theorem QdJ {s0 v} {rv:Bool} (h:Qbq s0 v=some rv):AFn Tryz.prog 135 [.one (lL 2 s0 Qaa.enc),.agg (Qaa.enc v)] [] (one (.bool rv)) []:=by
 refine QaK Tryz.func135 (by kernel_rfl) (by kernel_rfl) (fun Γ=>?_)
 unfold Qbq at h
 obtain ⟨r,h0,h⟩:=Qae h
 obtain rfl:=Option.some.inj h
 exact gr 4 [] [cC (Qem h0)]
def Qh9 (Γ:Gam) (rv:Bool) (cf:Cf):Prop:=Go Tryz.prog Tryz.f106 [] Γ (one (.bool rv)) [] cf
def QmJ (Γ:Gam) (rv:Bool) (x0:Qac) (l:List Qaa) (v:Int) (r:List Qaa) (last_:Int) (v1:Int):Prop:=Qh9 Γ rv ⟨[.c 108156,.l 108156,.b 2,.b 1,.c 423,.l 52,.b 0,.c 7],⟨42,[vL 1 2 l Qaa.enc,vP 2 0 6,vI 8 last_,vL 12 2 l Qaa.enc,vI 13 (lenI l),vI 14 v,vL 27 2 r Qaa.enc,vI 28 (lenI r),vI 29 v1],[oX 6 30 (Qac.enc x0)]⟩⟩
def QlP (Γ:Gam) (rv:Bool) (x0:Qac) (l:List Qaa) (v:Int) (r:List Qaa):Prop:=Qh9 Γ rv ⟨[.b 1,.c 423,.l 52,.b 0,.c 7],⟨42,[vL 1 2 l Qaa.enc,vP 2 0 6,vL 12 2 l Qaa.enc,vI 13 (lenI l),vI 14 v],[oX 6 30 (Qac.enc x0)]⟩⟩
def QmI (Γ:Gam) (rv:Bool) (x0:Qac) (l:List Qaa) (v:Int):Prop:=Qh9 Γ rv ⟨[.c 52,.l 52,.b 0,.c 7],⟨42,[vL 1 2 l Qaa.enc,vP 2 0 6,vL 12 2 l Qaa.enc,vI 13 (lenI l),vI 14 v],[oX 6 30 (Qac.enc x0)]⟩⟩
def QlO (Γ:Gam) (rv:Bool) (x0:Qac) (l:List Qaa):Prop:=Qh9 Γ rv ⟨[.c 7],⟨42,[],[]⟩⟩
theorem Qq0 (Γ:Gam) (rv:Bool) {x0 l v r} {s:Int×Int} {e:(Unit)⊕(Bool)} (h:loopF (fun s=>Qbg x0 l v r s.1 s.2) s=some e) (hD:sel e (fun e=>QlP Γ rv x0 l v r) (fun e=>e=rv)):QmJ Γ rv x0 l v r s.1 s.2:=by
 refine QaF (C:=fun (s:Int×Int)=>QmJ Γ rv x0 l v r s.1 s.2) (D:=fun (e:(Unit)⊕(Bool))=>sel e (fun e=>QlP Γ rv x0 l v r) (fun e=>e=rv)) ?_ h hD
 clear h hD s e
 rintro ⟨last_,v1⟩ z_ h hI hE
 replace h:Qbg x0 l v r last_ v1=_:=h
 unfold Qbg at h
 rcases Qah h with ⟨h5,h⟩|⟨h5,h⟩
 ·obtain ⟨x2,h6,h⟩:=Qae h
  obtain ⟨r2,h7,h⟩:=Qae h
  rcases Qah h with ⟨h8,h⟩|⟨h8,h⟩
  ·obtain rfl:=(hE _ (oJ h):_=rv)
   exact gr 17 [] [bT h5,cE Qaa.enc h6,cC (Qia h7),bT h8]
  ·exact gn 20 [1,2,8,12,13,14,27,28,29] [0] [bT h5,cE Qaa.enc h6,cC (Qia h7),bF h8] (hI _ (oJ h))
 ·exact gn 5 [1,2,12,13,14] [0] [bF h5] (hE _ (oJ h))
theorem QqZ (Γ:Gam) (rv:Bool) {x0 l} {s:Int} {e:(Unit)⊕(Bool)} (h:loopF (fun s=>QcQ x0 l s) s=some e) (hD:sel e (fun e=>QlO Γ rv x0 l) (fun e=>e=rv)):QmI Γ rv x0 l s:=by
 refine QaF (C:=fun (s:Int)=>QmI Γ rv x0 l s) (D:=fun (e:(Unit)⊕(Bool))=>sel e (fun e=>QlO Γ rv x0 l) (fun e=>e=rv)) ?_ h hD
 clear h hD s e
 intro v z_ h hI hE
 replace h:QcQ x0 l v=_:=h
 unfold QcQ at h
 rcases Qah h with ⟨h0,h⟩|⟨h0,h⟩
 ·obtain ⟨x1,h1,h⟩:=Qae h
  obtain ⟨r,h2,h⟩:=Qae h
  obtain ⟨r1,h3,h⟩:=Qae h
  rcases Qah h with ⟨h4,h⟩|⟨h4,h⟩
  ·obtain ⟨e0,h9,h⟩:=Qae h
   refine gn 22 [1,2,8,12,13,14,27,28,29] [0] [bT h0,cE Qaa.enc h1,cC (QfF h2),cC (QdJ h3),nF h4,nL Qaa.enc r] (Qq0 Γ rv h9 ?_)
   rcases e0 with e0|e0
   ·replace h:(some (.inl (addK .i64 v 1)):Option ((Int)⊕((Unit)⊕(Bool))))=some _:=h
    exact gn 3 [1,2,12,13,14] [0] [] (hI _ (oJ h))
   ·obtain ⟨r3,rfl⟩:∃ x,x=e0:=⟨_,rfl⟩
    replace h:(some (.inr (.inr r3)):Option ((Int)⊕((Unit)⊕(Bool))))=some _:=h
    exact (hE _ (oJ h):_=rv)
  ·obtain rfl:=(hE _ (oJ h):_=rv)
   exact gr 17 [] [bT h0,cE Qaa.enc h1,cC (QfF h2),cC (QdJ h3),nT h4]
 ·exact gn 5 [] [] [bF h0] (hE _ (oJ h))
theorem Qoj {x0 l} {rv:Bool} (h:Qh0 x0 l=some rv):AFn Tryz.prog 106 [.agg (Qac.enc x0),.one (lL 2 l Qaa.enc)] [] (one (.bool rv)) []:=by
 refine QaK Tryz.func106 (by kernel_rfl) (by kernel_rfl) (fun Γ=>?_)
 unfold Qh0 at h
 obtain ⟨e1,h10,h⟩:=Qae h
 refine gn 7 [1,2,12,13,14] [0] [nL Qaa.enc l] (QqZ Γ rv h10 ?_)
 rcases e1 with e1|e1
 ·replace h:(some true:Option Bool)=some _:=h
  obtain rfl:=Option.some.inj h
  exact gr 2 [] []
 ·obtain ⟨r4,rfl⟩:∃ x,x=e1:=⟨_,rfl⟩
  replace h:(some r4:Option Bool)=some _:=h
  exact Option.some.inj h
theorem Qo5 {v c} {rv:Bool} (h:QlX v c=some rv):AFn Tryz.prog 136 [.agg (Qaa.enc v),.one (.ip [lI c] 0)] [] (one (.bool rv)) []:=by
 refine QaK Tryz.func136 (by kernel_rfl) (by kernel_rfl) (fun Γ=>?_)
 unfold QlX at h
 obtain rfl:=Option.some.inj h
 exact gr 4 [] []
def Qdb (Γ:Gam) (rv:Int) (cf:Cf):Prop:=Go Tryz.prog Tryz.f94 [] Γ (one (lI rv)) [] cf
def QcV (Γ:Gam) (rv:Int) (s0:List Qaa) (c:Int) (v:Int):Prop:=Qdb Γ rv ⟨[.c 52,.l 52,.b 0,.c 7],⟨19,[vL 0 2 s0 Qaa.enc,(1,one (.fn (.func 136) [.ip [lI c] 0])),vI 7 (lenI s0),vI 8 v],[]⟩⟩
def QcI (Γ:Gam) (rv:Int) (s0:List Qaa) (c:Int):Prop:=Qdb Γ rv ⟨[.c 7],⟨19,[],[]⟩⟩
theorem Qe3 (Γ:Gam) (rv:Int) {s0 c} {s:Int} {e:(Unit)⊕(Int)} (h:loopF (fun s=>QaG s0 c s) s=some e) (hD:sel e (fun e=>QcI Γ rv s0 c) (fun e=>e=rv)):QcV Γ rv s0 c s:=by
 refine QaF (C:=fun (s:Int)=>QcV Γ rv s0 c s) (D:=fun (e:(Unit)⊕(Int))=>sel e (fun e=>QcI Γ rv s0 c) (fun e=>e=rv)) ?_ h hD
 clear h hD s e
 intro v z_ h hI hE
 replace h:QaG s0 c v=_:=h
 unfold QaG at h
 rcases Qah h with ⟨h0,h⟩|⟨h0,h⟩
 ·obtain ⟨x0,h1,h⟩:=Qae h
  obtain ⟨r,h2,h⟩:=Qae h
  rcases Qah h with ⟨h3,h⟩|⟨h3,h⟩
  ·obtain rfl:=(hE _ (oJ h):_=rv)
   exact gr 14 [] [bT h0,cE Qaa.enc h1,cC (Qo5 h2),bT h3]
  ·exact gn 16 [0,1,7,8] [] [bT h0,cE Qaa.enc h1,cC (Qo5 h2),bF h3] (hI _ (oJ h))
 ·exact gn 5 [] [] [bF h0] (hE _ (oJ h))
theorem QfH {s0 c} {rv:Int} (h:Qa7 s0 c=some rv):AFn Tryz.prog 94 [.one (lL 2 s0 Qaa.enc),.one (.fn (.func 136) [.ip [lI c] 0])] [] (one (lI rv)) []:=by
 refine QaK Tryz.func94 (by kernel_rfl) (by kernel_rfl) (fun Γ=>?_)
 unfold Qa7 at h
 obtain ⟨e0,h4,h⟩:=Qae h
 refine gn 7 [0,1,7,8] [] [nL Qaa.enc s0] (Qe3 Γ rv h4 ?_)
 rcases e0 with e0|e0
 ·replace h:(some (-1):Option Int)=some _:=h
  obtain rfl:=Option.some.inj h
  exact gr 2 [] []
 ·obtain ⟨r1,rfl⟩:∃ x,x=e0:=⟨_,rfl⟩
  replace h:(some r1:Option Int)=some _:=h
  exact Option.some.inj h
theorem Qe1 {s0 c} {rv:Bool} (h:Qbh s0 c=some rv):AFn Tryz.prog 63 [.one (lL 2 s0 Qaa.enc),.one (.fn (.func 136) [.ip [lI c] 0])] [] (one (.bool rv)) []:=by
 refine QaK Tryz.func63 (by kernel_rfl) (by kernel_rfl) (fun Γ=>?_)
 unfold Qbh at h
 obtain ⟨r,h0,h⟩:=Qae h
 obtain rfl:=Option.some.inj h
 exact gr 4 [] [cC (QfH h0)]
theorem QeA {l o} {rv:Bool} (h:Qho l o=some rv):AFn Tryz.prog 107 [.one (lL 2 l Qaa.enc),.one (lI o)] [] (one (.bool rv)) []:=by
 refine QaK Tryz.func107 (by kernel_rfl) (by kernel_rfl) (fun Γ=>?_)
 unfold Qho at h
 obtain ⟨r,h0,h⟩:=Qae h
 obtain rfl:=Option.some.inj h
 exact gr 4 [] [cC (Qe1 h0)]
theorem QmH {v c} {rv:Bool} (h:Qh8 v c=some rv):AFn Tryz.prog 137 [.agg (Qaa.enc v),.one (.ip [lI c] 0)] [] (one (.bool rv)) []:=by
 refine QaK Tryz.func137 (by kernel_rfl) (by kernel_rfl) (fun Γ=>?_)
 unfold Qh8 at h
 obtain rfl:=Option.some.inj h
 exact gr 4 [] []
def QcU (Γ:Gam) (rv:Int) (cf:Cf):Prop:=Go Tryz.prog Tryz.f94 [] Γ (one (lI rv)) [] cf
def Qcv (Γ:Gam) (rv:Int) (s0:List Qaa) (c:Int) (v:Int):Prop:=QcU Γ rv ⟨[.c 52,.l 52,.b 0,.c 7],⟨19,[vL 0 2 s0 Qaa.enc,(1,one (.fn (.func 137) [.ip [lI c] 0])),vI 7 (lenI s0),vI 8 v],[]⟩⟩
def Qcq (Γ:Gam) (rv:Int) (s0:List Qaa) (c:Int):Prop:=QcU Γ rv ⟨[.c 7],⟨19,[],[]⟩⟩
theorem Qew (Γ:Gam) (rv:Int) {s0 c} {s:Int} {e:(Unit)⊕(Int)} (h:loopF (fun s=>QaB s0 c s) s=some e) (hD:sel e (fun e=>Qcq Γ rv s0 c) (fun e=>e=rv)):Qcv Γ rv s0 c s:=by
 refine QaF (C:=fun (s:Int)=>Qcv Γ rv s0 c s) (D:=fun (e:(Unit)⊕(Int))=>sel e (fun e=>Qcq Γ rv s0 c) (fun e=>e=rv)) ?_ h hD
 clear h hD s e
 intro v z_ h hI hE
 replace h:QaB s0 c v=_:=h
 unfold QaB at h
 rcases Qah h with ⟨h0,h⟩|⟨h0,h⟩
 ·obtain ⟨x0,h1,h⟩:=Qae h
  obtain ⟨r,h2,h⟩:=Qae h
  rcases Qah h with ⟨h3,h⟩|⟨h3,h⟩
  ·obtain rfl:=(hE _ (oJ h):_=rv)
   exact gr 14 [] [bT h0,cE Qaa.enc h1,cC (QmH h2),bT h3]
  ·exact gn 16 [0,1,7,8] [] [bT h0,cE Qaa.enc h1,cC (QmH h2),bF h3] (hI _ (oJ h))
 ·exact gn 5 [] [] [bF h0] (hE _ (oJ h))
theorem Qbz {s0 c} {rv:Int} (h:Qa1 s0 c=some rv):AFn Tryz.prog 94 [.one (lL 2 s0 Qaa.enc),.one (.fn (.func 137) [.ip [lI c] 0])] [] (one (lI rv)) []:=by
 refine QaK Tryz.func94 (by kernel_rfl) (by kernel_rfl) (fun Γ=>?_)
 unfold Qa1 at h
 obtain ⟨e0,h4,h⟩:=Qae h
 refine gn 7 [0,1,7,8] [] [nL Qaa.enc s0] (Qew Γ rv h4 ?_)
 rcases e0 with e0|e0
 ·replace h:(some (-1):Option Int)=some _:=h
  obtain rfl:=Option.some.inj h
  exact gr 2 [] []
 ·obtain ⟨r1,rfl⟩:∃ x,x=e0:=⟨_,rfl⟩
  replace h:(some r1:Option Int)=some _:=h
  exact Option.some.inj h
theorem Qoi {l a b} {rv:Bool} (h:QhZ l a b=some rv):AFn Tryz.prog 108 [.one (lL 2 l Qaa.enc),.one (lI a),.one (lI b)] [] (one (.bool rv)) []:=by
 refine QaK Tryz.func108 (by kernel_rfl) (by kernel_rfl) (fun Γ=>?_)
 unfold QhZ at h
 obtain ⟨r,h0,h⟩:=Qae h
 rcases Qah h with ⟨h1,h⟩|⟨h1,h⟩
 ·obtain rfl:=Option.some.inj h
  exact gr 10 [] [cC (Qbz h0),bT h1]
 ·obtain ⟨r1,h2,h⟩:=Qae h
  rcases Qah h with ⟨h3,h⟩|⟨h3,h⟩
  ·obtain ⟨l1,h4,h⟩:=Qae h
   obtain ⟨r2,h5,h⟩:=Qae h
   obtain rfl:=Option.some.inj h
   exact gr 11 [] [cC (Qbz h0),bF h1,cC (QeA h2),rp 3 (bT h3),hH (.rows (l1.map Qaa.enc)),oO (sl1 h4),oO (sl2h Qaa.enc h4),rp 3 (oO (Int.le_refl ((l.map Qaa.enc).length:Int))),oO (sl6h Qaa.enc h4),bT h3,bT h3,cC (QeA h5),bT h3,bT h3]
  ·obtain rfl:=Option.some.inj h
   exact gr 11 [] [cC (Qbz h0),bF h1,cC (QeA h2),rp 7 (bF h3)]
theorem Qnn {v c} {rv:Bool} (h:Qi4 v c=some rv):AFn Tryz.prog 103 [.agg (Qaa.enc v),.one (.ip (Qac.enc c) 0)] [] (one (.bool rv)) []:=by
 refine QaK Tryz.func103 (by kernel_rfl) (by kernel_rfl) (fun Γ=>?_)
 unfold Qi4 at h
 obtain rfl:=Option.some.inj h
 exact gr 4 [] [rp 5 hP,rp 3 (oI ((ltI v.order 0)=false)),nL Qag.enc c.orders,hP,hP,rp 2 (oI ((ltI v.order 0)=false)),oR True ((ltI v.order 0)=false)]
def Qc3 (Γ:Gam) (rv:Int) (cf:Cf):Prop:=Go Tryz.prog Tryz.f94 [] Γ (one (lI rv)) [] cf
def QcC (Γ:Gam) (rv:Int) (s0:List Qaa) (c:Qac) (v:Int):Prop:=Qc3 Γ rv ⟨[.c 52,.l 52,.b 0,.c 7],⟨19,[vL 0 2 s0 Qaa.enc,(1,one (.fn (.func 103) [.ip (Qac.enc c) 0])),vI 7 (lenI s0),vI 8 v],[]⟩⟩
def Qct (Γ:Gam) (rv:Int) (s0:List Qaa) (c:Qac):Prop:=Qc3 Γ rv ⟨[.c 7],⟨19,[],[]⟩⟩
theorem QeP (Γ:Gam) (rv:Int) {s0 c} {s:Int} {e:(Unit)⊕(Int)} (h:loopF (fun s=>QaC s0 c s) s=some e) (hD:sel e (fun e=>Qct Γ rv s0 c) (fun e=>e=rv)):QcC Γ rv s0 c s:=by
 refine QaF (C:=fun (s:Int)=>QcC Γ rv s0 c s) (D:=fun (e:(Unit)⊕(Int))=>sel e (fun e=>Qct Γ rv s0 c) (fun e=>e=rv)) ?_ h hD
 clear h hD s e
 intro v z_ h hI hE
 replace h:QaC s0 c v=_:=h
 unfold QaC at h
 rcases Qah h with ⟨h0,h⟩|⟨h0,h⟩
 ·obtain ⟨x0,h1,h⟩:=Qae h
  obtain ⟨r,h2,h⟩:=Qae h
  rcases Qah h with ⟨h3,h⟩|⟨h3,h⟩
  ·obtain rfl:=(hE _ (oJ h):_=rv)
   exact gr 14 [] [bT h0,cE Qaa.enc h1,cC (Qnn h2),bT h3]
  ·exact gn 16 [0,1,7,8] [] [bT h0,cE Qaa.enc h1,cC (Qnn h2),bF h3] (hI _ (oJ h))
 ·exact gn 5 [] [] [bF h0] (hE _ (oJ h))
theorem Qe5 {s0 c} {rv:Int} (h:Qa2 s0 c=some rv):AFn Tryz.prog 94 [.one (lL 2 s0 Qaa.enc),.one (.fn (.func 103) [.ip (Qac.enc c) 0])] [] (one (lI rv)) []:=by
 refine QaK Tryz.func94 (by kernel_rfl) (by kernel_rfl) (fun Γ=>?_)
 unfold Qa2 at h
 obtain ⟨e0,h4,h⟩:=Qae h
 refine gn 7 [0,1,7,8] [] [nL Qaa.enc s0] (QeP Γ rv h4 ?_)
 rcases e0 with e0|e0
 ·replace h:(some (-1):Option Int)=some _:=h
  obtain rfl:=Option.some.inj h
  exact gr 2 [] []
 ·obtain ⟨r1,rfl⟩:∃ x,x=e0:=⟨_,rfl⟩
  replace h:(some r1:Option Int)=some _:=h
  exact Option.some.inj h
theorem QaU {s0 c} {rv:Bool} (h:QaY s0 c=some rv):AFn Tryz.prog 63 [.one (lL 2 s0 Qaa.enc),.one (.fn (.func 103) [.ip (Qac.enc c) 0])] [] (one (.bool rv)) []:=by
 refine QaK Tryz.func63 (by kernel_rfl) (by kernel_rfl) (fun Γ=>?_)
 unfold QaY at h
 obtain ⟨r,h0,h⟩:=Qae h
 obtain rfl:=Option.some.inj h
 exact gr 4 [] [cC (Qe5 h0)]
theorem Qno {v c} {rv:Bool} (h:Qi5 v c=some rv):AFn Tryz.prog 104 [.agg (Qaa.enc v),.one (.ip (Qac.enc c) 0)] [] (one (.bool rv)) []:=by
 refine QaK Tryz.func104 (by kernel_rfl) (by kernel_rfl) (fun Γ=>?_)
 unfold Qi5 at h
 obtain ⟨x0,h0,h⟩:=Qae h
 obtain rfl:=Option.some.inj h
 exact gr 4 [] [cE Qag.enc h0]
def Qc4 (Γ:Gam) (rv:Int) (cf:Cf):Prop:=Go Tryz.prog Tryz.f94 [] Γ (one (lI rv)) [] cf
def QcD (Γ:Gam) (rv:Int) (s0:List Qaa) (c:Qac) (v:Int):Prop:=Qc4 Γ rv ⟨[.c 52,.l 52,.b 0,.c 7],⟨19,[vL 0 2 s0 Qaa.enc,(1,one (.fn (.func 104) [.ip (Qac.enc c) 0])),vI 7 (lenI s0),vI 8 v],[]⟩⟩
def Qcu (Γ:Gam) (rv:Int) (s0:List Qaa) (c:Qac):Prop:=Qc4 Γ rv ⟨[.c 7],⟨19,[],[]⟩⟩
theorem QeQ (Γ:Gam) (rv:Int) {s0 c} {s:Int} {e:(Unit)⊕(Int)} (h:loopF (fun s=>QaD s0 c s) s=some e) (hD:sel e (fun e=>Qcu Γ rv s0 c) (fun e=>e=rv)):QcD Γ rv s0 c s:=by
 refine QaF (C:=fun (s:Int)=>QcD Γ rv s0 c s) (D:=fun (e:(Unit)⊕(Int))=>sel e (fun e=>Qcu Γ rv s0 c) (fun e=>e=rv)) ?_ h hD
 clear h hD s e
 intro v z_ h hI hE
 replace h:QaD s0 c v=_:=h
 unfold QaD at h
 rcases Qah h with ⟨h0,h⟩|⟨h0,h⟩
 ·obtain ⟨x0,h1,h⟩:=Qae h
  obtain ⟨r,h2,h⟩:=Qae h
  rcases Qah h with ⟨h3,h⟩|⟨h3,h⟩
  ·obtain rfl:=(hE _ (oJ h):_=rv)
   exact gr 14 [] [bT h0,cE Qaa.enc h1,cC (Qno h2),bT h3]
  ·exact gn 16 [0,1,7,8] [] [bT h0,cE Qaa.enc h1,cC (Qno h2),bF h3] (hI _ (oJ h))
 ·exact gn 5 [] [] [bF h0] (hE _ (oJ h))
theorem Qe6 {s0 c} {rv:Int} (h:Qa3 s0 c=some rv):AFn Tryz.prog 94 [.one (lL 2 s0 Qaa.enc),.one (.fn (.func 104) [.ip (Qac.enc c) 0])] [] (one (lI rv)) []:=by
 refine QaK Tryz.func94 (by kernel_rfl) (by kernel_rfl) (fun Γ=>?_)
 unfold Qa3 at h
 obtain ⟨e0,h4,h⟩:=Qae h
 refine gn 7 [0,1,7,8] [] [nL Qaa.enc s0] (QeQ Γ rv h4 ?_)
 rcases e0 with e0|e0
 ·replace h:(some (-1):Option Int)=some _:=h
  obtain rfl:=Option.some.inj h
  exact gr 2 [] []
 ·obtain ⟨r1,rfl⟩:∃ x,x=e0:=⟨_,rfl⟩
  replace h:(some r1:Option Int)=some _:=h
  exact Option.some.inj h
theorem Qa8 {s0 c} {rv:Bool} (h:QaZ s0 c=some rv):AFn Tryz.prog 63 [.one (lL 2 s0 Qaa.enc),.one (.fn (.func 104) [.ip (Qac.enc c) 0])] [] (one (.bool rv)) []:=by
 refine QaK Tryz.func63 (by kernel_rfl) (by kernel_rfl) (fun Γ=>?_)
 unfold QaZ at h
 obtain ⟨r,h0,h⟩:=Qae h
 obtain rfl:=Option.some.inj h
 exact gr 4 [] [cC (Qe6 h0)]
def Qi6 (Γ:Gam) (rv:Int) (cf:Cf):Prop:=Go Tryz.prog Tryz.f80 [] Γ (one (lI rv)) [] cf
def Qnp (Γ:Gam) (rv:Int) (x0:Qac) (r:Qad) (v:Int):Prop:=Qi6 Γ rv ⟨[.c 500,.l 500,.b 1,.c 63],⟨65,[vP 2 0 6,vL 5 2 r.visits Qaa.enc,vL 33 2 x0.apart QaO.enc,vI 34 (lenI x0.apart),vI 35 v],[oX 6 30 (Qac.enc x0)]⟩⟩
def QmE (Γ:Gam) (rv:Int) (x0:Qac) (r:Qad):Prop:=Qi6 Γ rv ⟨[.c 63],⟨65,[vP 2 0 6,vL 5 2 r.visits Qaa.enc],[oX 6 30 (Qac.enc x0)]⟩⟩
def Qnq (Γ:Gam) (rv:Int) (x0:Qac) (r:Qad) (v1:Int):Prop:=Qi6 Γ rv ⟨[.c 1012,.l 1012,.b 3,.c 127],⟨65,[vL 5 2 r.visits Qaa.enc,vL 51 2 x0.before QaO.enc,vI 52 (lenI x0.before),vI 53 v1],[]⟩⟩
def QmF (Γ:Gam) (rv:Int) (x0:Qac) (r:Qad):Prop:=Qi6 Γ rv ⟨[.c 127],⟨65,[],[]⟩⟩
theorem Qry (Γ:Gam) (rv:Int) {x0 r} {s:Int} {e:(Unit)⊕(Int)} (h:loopF (fun s=>Qc9 x0 r s) s=some e) (hD:sel e (fun e=>QmE Γ rv x0 r) (fun e=>e=rv)):Qnp Γ rv x0 r s:=by
 refine QaF (C:=fun (s:Int)=>Qnp Γ rv x0 r s) (D:=fun (e:(Unit)⊕(Int))=>sel e (fun e=>QmE Γ rv x0 r) (fun e=>e=rv)) ?_ h hD
 clear h hD s e
 intro v z_ h hI hE
 replace h:Qc9 x0 r v=_:=h
 unfold Qc9 at h
 rcases Qah h with ⟨h9,h⟩|⟨h9,h⟩
 ·obtain ⟨x1,h10,h⟩:=Qae h
  obtain ⟨r5,h11,h⟩:=Qae h
  rcases Qah h with ⟨h12,h⟩|⟨h12,h⟩
  ·obtain ⟨r6,h13,h⟩:=Qae h
   rcases Qah h with ⟨h14,h⟩|⟨h14,h⟩
   ·obtain rfl:=(hE _ (oJ h):_=rv)
    exact gr 14 [] [bT h9,cE QaO.enc h10,oO (zL 0),oO (lT 0 2),cC (QeA h11),rp 2 (bT h12),oO (zL 1),oO (lT 1 2),rp 2 (bT h12),cC (QeA h13),bT h12,bT h14]
   ·exact gn 16 [2,5,33,34,35] [0] [bT h9,cE QaO.enc h10,oO (zL 0),oO (lT 0 2),cC (QeA h11),rp 2 (bT h12),oO (zL 1),oO (lT 1 2),rp 2 (bT h12),cC (QeA h13),bT h12,bF h14] (hI _ (oJ h))
  ·exact gn 16 [2,5,33,34,35] [0] [bT h9,cE QaO.enc h10,oO (zL 0),oO (lT 0 2),cC (QeA h11),rp 5 (bF h12),fF] (hI _ (oJ h))
 ·exact gn 5 [2,5] [0] [bF h9] (hE _ (oJ h))
theorem Qrz (Γ:Gam) (rv:Int) {x0 r} {s:Int} {e:(Unit)⊕(Int)} (h:loopF (fun s=>QcH x0 r s) s=some e) (hD:sel e (fun e=>QmF Γ rv x0 r) (fun e=>e=rv)):Qnq Γ rv x0 r s:=by
 refine QaF (C:=fun (s:Int)=>Qnq Γ rv x0 r s) (D:=fun (e:(Unit)⊕(Int))=>sel e (fun e=>QmF Γ rv x0 r) (fun e=>e=rv)) ?_ h hD
 clear h hD s e
 intro v1 z_ h hI hE
 replace h:QcH x0 r v1=_:=h
 unfold QcH at h
 rcases Qah h with ⟨h16,h⟩|⟨h16,h⟩
 ·obtain ⟨x2,h17,h⟩:=Qae h
  obtain ⟨r7,h18,h⟩:=Qae h
  rcases Qah h with ⟨h19,h⟩|⟨h19,h⟩
  ·exact gn 16 [5,51,52,53] [] [bT h16,cE QaO.enc h17,oO (zL 0),oO (lT 0 2),oO (zL 1),oO (lT 1 2),cC (Qoi h18),nF h19] (hI _ (oJ h))
  ·obtain rfl:=(hE _ (oJ h):_=rv)
   exact gr 14 [] [bT h16,cE QaO.enc h17,oO (zL 0),oO (lT 0 2),oO (zL 1),oO (lT 1 2),cC (Qoi h18),nT h19]
 ·exact gn 5 [] [] [bF h16] (hE _ (oJ h))
theorem Qdv {x0 r} {rv:Int} (h:QhD x0 r=some rv):AFn Tryz.prog 80 [.agg (Qac.enc x0),.agg (Qad.enc r)] [] (one (lI rv)) []:=by
 refine QaK Tryz.func80 (by kernel_rfl) (by kernel_rfl) (fun Γ=>?_)
 unfold QhD at h
 rcases Qah h with ⟨h0,h⟩|⟨h0,h⟩
 ·obtain rfl:=Option.some.inj h
  exact gr 10 [] [nL Qaa.enc r.visits,rp 4 (bT h0),tT]
 ·obtain ⟨r1,h1,h⟩:=Qae h
  rcases Qah h with ⟨h2,h⟩|⟨h2,h⟩
  ·obtain rfl:=Option.some.inj h
   exact gr 10 [] [nL Qaa.enc r.visits,rp 3 (bF h0),cC (QaU h1),bF h0,bT h2]
  ·obtain ⟨r2,h3,h⟩:=Qae h
   rcases Qah h with ⟨h4,h⟩|⟨h4,h⟩
   ·obtain rfl:=Option.some.inj h
    exact gr 16 [] [nL Qaa.enc r.visits,rp 3 (bF h0),cC (QaU h1),bF h0,bF h2,cC (Qa8 h3),bT h4]
   ·obtain ⟨r3,h5,h⟩:=Qae h
    rcases Qah h with ⟨h6,h⟩|⟨h6,h⟩
    ·obtain rfl:=Option.some.inj h
     exact gr 19 [] [nL Qaa.enc r.visits,rp 3 (bF h0),cC (QaU h1),bF h0,bF h2,cC (Qa8 h3),bF h4,cC (Qk2 h5),bT h6]
    ·obtain ⟨r4,h7,h⟩:=Qae h
     rcases Qah h with ⟨h8,h⟩|⟨h8,h⟩
     ·obtain ⟨e0,h15,h⟩:=Qae h
      refine gn 27 [2,5,33,34,35] [0] [nL Qaa.enc r.visits,rp 3 (bF h0),cC (QaU h1),bF h0,bF h2,cC (Qa8 h3),bF h4,cC (Qk2 h5),bF h6,cC (Qoj h7),nF h8,nL QaO.enc x0.apart] (Qry Γ rv h15 ?_)
      rcases e0 with e0|e0
      ·replace h:(bnd (loopF (fun s=>QcH x0 r s) 0) (fun e=>sel e (fun (_:Unit)=>some 0) (fun r8=>some r8)):Option Int)=some _:=h
       obtain ⟨e1,h20,h⟩:=Qae h
       refine gn 5 [5,51,52,53] [] [nL QaO.enc x0.before] (Qrz Γ rv h20 ?_)
       rcases e1 with e1|e1
       ·replace h:(some 0:Option Int)=some _:=h
        obtain rfl:=Option.some.inj h
        exact gr 2 [] []
       ·obtain ⟨r8,rfl⟩:∃ x,x=e1:=⟨_,rfl⟩
        replace h:(some r8:Option Int)=some _:=h
        exact Option.some.inj h
      ·obtain ⟨r9,rfl⟩:∃ x,x=e0:=⟨_,rfl⟩
       replace h:(some r9:Option Int)=some _:=h
       exact Option.some.inj h
     ·obtain rfl:=Option.some.inj h
      exact gr 22 [] [nL Qaa.enc r.visits,rp 3 (bF h0),cC (QaU h1),bF h0,bF h2,cC (Qa8 h3),bF h4,cC (Qk2 h5),bF h6,cC (Qoj h7),nT h8]
theorem QsP {t skills} {rv:Bool} (h:Qmb t skills=some rv):AFn Tryz.prog 109 [.agg (Qai.enc t),.one (lI skills)] [] (one (.bool rv)) []:=by
 refine QaK Tryz.func109 (by kernel_rfl) (by kernel_rfl) (fun Γ=>?_)
 unfold Qmb at h
 obtain rfl:=Option.some.inj h
 exact gr 4 [] [rp 9 hP,oI ((geI t.skills 0)=true),oR True ((geI t.skills 0)=true),rp 4 (oI (((geI t.skills 0)&&(geI skills 0))=true)),oR True (((geI t.skills 0)&&(geI skills 0))=true)]
def QtT (Γ:Gam) (rv:Int) (cf:Cf):Prop:=Go Tryz.prog Tryz.f81 [] Γ (one (lI rv)) [] cf
def Qrd (Γ:Gam) (rv:Int) (x0:Qac) (r:Qad) (v:Int):Prop:=QtT Γ rv ⟨[.c 52,.l 52,.b 0,.c 7],⟨30,[vP 2 0 6,vP 3 1 4,vL 8 2 r.visits Qaa.enc,vI 9 (lenI r.visits),vI 10 v],[oX 6 30 (Qac.enc x0),oX 4 34 (Qad.enc r)]⟩⟩
def Qqi (Γ:Gam) (rv:Int) (x0:Qac) (r:Qad):Prop:=QtT Γ rv ⟨[.c 7],⟨30,[],[]⟩⟩
theorem QtU (Γ:Gam) (rv:Int) {x0 r} {s:Int} {e:(Unit)⊕(Int)} (h:loopF (fun s=>Qfw x0 r s) s=some e) (hD:sel e (fun e=>Qqi Γ rv x0 r) (fun e=>e=rv)):Qrd Γ rv x0 r s:=by
 refine QaF (C:=fun (s:Int)=>Qrd Γ rv x0 r s) (D:=fun (e:(Unit)⊕(Int))=>sel e (fun e=>Qqi Γ rv x0 r) (fun e=>e=rv)) ?_ h hD
 clear h hD s e
 intro v z_ h hI hE
 replace h:Qfw x0 r v=_:=h
 unfold Qfw at h
 rcases Qah h with ⟨h0,h⟩|⟨h0,h⟩
 ·obtain ⟨x1,h1,h⟩:=Qae h
  obtain ⟨x2,h2,h⟩:=Qae h
  obtain ⟨x3,h3,h⟩:=Qae h
  obtain ⟨r1,h4,h⟩:=Qae h
  rcases Qah h with ⟨h5,h⟩|⟨h5,h⟩
  ·exact gn 16 [2,3,8,9,10] [0,1] [bT h0,cE Qaa.enc h1,hH (.draw 15 []),cE Qai.enc h2,cE Qag.enc h3,cC (QsP h4),nF h5] (hI _ (oJ h))
  ·obtain rfl:=(hE _ (oJ h):_=rv)
   exact gr 14 [] [bT h0,cE Qaa.enc h1,hH (.draw 15 []),cE Qai.enc h2,cE Qag.enc h3,cC (QsP h4),nT h5]
 ·exact gn 5 [] [] [bF h0] (hE _ (oJ h))
theorem Qni {x0 r} {rv:Int} (h:Qqh x0 r=some rv):AFn Tryz.prog 81 [.agg (Qac.enc x0),.agg (Qad.enc r)] [] (one (lI rv)) []:=by
 refine QaK Tryz.func81 (by kernel_rfl) (by kernel_rfl) (fun Γ=>?_)
 unfold Qqh at h
 obtain ⟨e0,h6,h⟩:=Qae h
 refine gn 7 [2,3,8,9,10] [0,1] [nL Qaa.enc r.visits] (QtU Γ rv h6 ?_)
 rcases e0 with e0|e0
 ·replace h:(some 0:Option Int)=some _:=h
  obtain rfl:=Option.some.inj h
  exact gr 2 [] []
 ·obtain ⟨r2,rfl⟩:∃ x,x=e0:=⟨_,rfl⟩
  replace h:(some r2:Option Int)=some _:=h
  exact Option.some.inj h
def Qo4 (Γ:Gam) (rv:Int×Int) (cf:Cf):Prop:=Go Tryz.prog Tryz.f86 [] Γ (.tup [.one (lI rv.1),.one (lI rv.2)]) [] cf
def QmG (Γ:Gam) (rv:Int×Int) (r:Qad) (set_:Int) (v:Int):Prop:=Qo4 Γ rv ⟨[.c 116,.l 116,.b 0,.c 15],⟨29,[vI 4 set_,vL 8 2 r.visits Qaa.enc,vI 9 (lenI r.visits),vI 10 v],[]⟩⟩
def QlM (Γ:Gam) (rv:Int×Int) (r:Qad) (set_1:Int):Prop:=Qo4 Γ rv ⟨[.c 15],⟨29,[vI 4 set_1],[]⟩⟩
theorem QqY (Γ:Gam) (rv:Int×Int) {r} {s:Int×Int} {e:(Int)⊕(Int×Int)} (h:loopF (fun s=>QeN r s.1 s.2) s=some e) (hD:sel e (fun e=>QlM Γ rv r e) (fun e=>e=rv)):QmG Γ rv r s.1 s.2:=by
 refine QaF (C:=fun (s:Int×Int)=>QmG Γ rv r s.1 s.2) (D:=fun (e:(Int)⊕(Int×Int))=>sel e (fun e=>QlM Γ rv r e) (fun e=>e=rv)) ?_ h hD
 clear h hD s e
 rintro ⟨set_,v⟩ z_ h hI hE
 replace h:QeN r set_ v=_:=h
 unfold QeN at h
 rcases Qah h with ⟨h0,h⟩|⟨h0,h⟩
 ·obtain ⟨x0,h1,h⟩:=Qae h
  rcases Qah h with ⟨h2,h⟩|⟨h2,h⟩
  ·obtain rfl:=(hE _ (oJ h):_=rv)
   exact gr 15 [] [bT h0,cE Qaa.enc h1,rp 4 hP,rp 2 (oI ((ltI x0.order 0)=false)),oR True ((ltI x0.order 0)=false),bT h2]
  ·obtain ⟨h3,h⟩:=Qat h
   exact gn 18 [4,8,9,10] [] [bT h0,cE Qaa.enc h1,rp 4 hP,rp 2 (oI ((ltI x0.order 0)=false)),oR True ((ltI x0.order 0)=false),bF h2,oO (h3)] (hI _ (oJ h))
 ·exact gn 5 [4] [] [bF h0] (hE _ (oJ h))
theorem Qoh {r} {rv:Int×Int} (h:QhY r=some rv):AFn Tryz.prog 86 [.agg (Qad.enc r)] [] (.tup [.one (lI rv.1),.one (lI rv.2)]) []:=by
 refine QaK Tryz.func86 (by kernel_rfl) (by kernel_rfl) (fun Γ=>?_)
 unfold QhY at h
 obtain ⟨e0,h4,h⟩:=Qae h
 refine gn 9 [4,8,9,10] [] [nL Qaa.enc r.visits] (QqY Γ rv h4 ?_)
 rcases e0 with e0|e0
 ·obtain ⟨set_1,rfl⟩:∃ x,x=e0:=⟨_,rfl⟩
  replace h:(some (set_1,0):Option (Int×Int))=some _:=h
  obtain rfl:=Option.some.inj h
  exact gr 2 [] []
 ·obtain ⟨r1,rfl⟩:∃ x,x=e0:=⟨_,rfl⟩
  replace h:(some r1:Option (Int×Int))=some _:=h
  exact Option.some.inj h
theorem Qvy {a b} {rv:Int} (h:QrQ a b=some rv):AFn Tryz.prog 165 [.one (lI a),.one (lI b)] [] (one (lI rv)) []:=by
 refine QaK Tryz.func165 (by kernel_rfl) (by kernel_rfl) (fun Γ=>?_)
 unfold QrQ at h
 obtain rfl:=Option.some.inj h
 exact gr 4 [] []
def Qmf (Γ:Gam) (rv:List Int×Int) (cf:Cf):Prop:=Go Tryz.prog Tryz.f164 [] Γ (.tup [.one (lL 1 rv.1 e_i64),.one (lI rv.2)]) [] cf
def Qje (Γ:Gam) (rv:List Int×Int) (a:List Int) (b:List Int) (l:List Int) (l1:List Int) (v:Int):Prop:=Qmf Γ rv ⟨[.c 244,.l 244,.b 0,.c 31],⟨38,[vL 0 1 a e_i64,vL 1 1 b e_i64,(2,one (.fn (.func 165) [])),vO 8 0 1 l1 e_i64,vI 19 (lenI a),vI 20 v],[oS 1 3 l1 e_i64]⟩⟩
def QiJ (Γ:Gam) (rv:List Int×Int) (a:List Int) (b:List Int) (l:List Int) (l2:List Int):Prop:=Qmf Γ rv ⟨[.c 31],⟨38,[vO 8 0 1 l2 e_i64],[oS 1 3 l2 e_i64]⟩⟩
theorem Qou (Γ:Gam) (rv:List Int×Int) {a b l} {s:List Int×Int} {e:List Int} (h:loopF (fun s=>QbP a b l s.1 s.2) s=some e) (hD:QiJ Γ rv a b l e):Qje Γ rv a b l s.1 s.2:=by
 refine QaF (C:=fun (s:List Int×Int)=>Qje Γ rv a b l s.1 s.2) (D:=fun (e:List Int)=>QiJ Γ rv a b l e) ?_ h hD
 clear h hD s e
 rintro ⟨l1,v⟩ z_ h hI hE
 replace h:QbP a b l l1 v=_:=h
 unfold QbP at h
 rcases Qah h with ⟨h2,h⟩|⟨h2,h⟩
 ·obtain ⟨x0,h3,h⟩:=Qae h
  obtain ⟨x1,h4,h⟩:=Qae h
  obtain ⟨r,h5,h⟩:=Qae h
  obtain ⟨x2,h6,h⟩:=Qae h
  exact gn 13 [0,1,2,8,19,20] [0] [bT h2,hH (.draw 13 []),cE e_i64 h3,cE e_i64 h4,cC (Qvy h5),oO (getLo h6),oO (getHi e_i64 h6),rE e_i64 h6,hH (.rows ((setI l1 v r).map e_i64)),hH (.relen 0 ((setI l1 v r).map e_i64).length),oO (setM e_i64 l1 v r),rp 2 (oO (Qvw e_i64 l1 v r))] (hI _ (oJ h))
 ·exact gn 5 [8] [0] [bF h2] (hE _ (oJ h))
theorem QqH {a b} {rv:List Int×Int} (h:Qht a b=some rv):AFn Tryz.prog 164 [.one (lL 1 a e_i64),.one (lL 1 b e_i64),.one (.fn (.func 165) [])] [] (.tup [.one (lL 1 rv.1 e_i64),.one (lI rv.2)]) []:=by
 refine QaK Tryz.func164 (by kernel_rfl) (by kernel_rfl) (fun Γ=>?_)
 unfold Qht at h
 rcases Qah h with ⟨h0,h⟩|⟨h0,h⟩
 ·obtain rfl:=Option.some.inj h
  exact gr 8 [] [nL e_i64 a,nL e_i64 b,bT h0,hW 4,hH (.nilS 6 0 1)]
 ·obtain ⟨l,h1,h⟩:=Qae h
  obtain ⟨e0,h7,h⟩:=Qae h
  refine gn 14 [0,1,2,8,19,20] [0] [nL e_i64 a,nL e_i64 b,bF h0,nL e_i64 a,hH (.cells [lI 0]),hH (.rows (l.map e_i64)),oO (mk1 h1),oO (mk2 h1),oO (mk3 h1),oO (mk4 h1),oO (mk5 e_i64 h1),nL e_i64 a] (Qou Γ rv h7 ?_)
  obtain ⟨l2,rfl⟩:∃ x,x=e0:=⟨_,rfl⟩
  replace h:(some (l2,0):Option (List Int×Int))=some _:=h
  obtain rfl:=Option.some.inj h
  exact gr 2 [] [hW 5,hH (.frz 0),rp 3 (eL l2 e_i64)]
theorem Qro {a b} {rv:List Int×Int} (h:Qqx a b=some rv):AFn Tryz.prog 140 [.one (lL 1 a e_i64),.one (lL 1 b e_i64)] [] (.tup [.one (lL 1 rv.1 e_i64),.one (lI rv.2)]) []:=by
 refine QaK Tryz.func140 (by kernel_rfl) (by kernel_rfl) (fun Γ=>?_)
 unfold Qqx at h
 obtain ⟨r,h0,h⟩:=Qae h
 obtain rfl:=Option.some.inj h
 exact gr 4 [] [cC (QqH h0)]
theorem QuD {set_ i} {rv:Bool} (h:QtX set_ i=some rv):AFn Tryz.prog 178 [.one (lI set_),.one (lI i)] [] (one (.bool rv)) []:=by
 refine QaK Tryz.func178 (by kernel_rfl) (by kernel_rfl) (fun Γ=>?_)
 unfold QtX at h
 rcases Qah h with ⟨h0,h⟩|⟨h0,h⟩
 ·obtain ⟨h1,h⟩:=Qat h
  obtain rfl:=Option.some.inj h
  exact gr 4 [] [hP,hP,hP,oI ((geI i 0)=true),oR True ((geI i 0)=true),rp 3 (bT h0),oO (h1),rp 3 (bT h0)]
 ·obtain rfl:=Option.some.inj h
  exact gr 4 [] [hP,hP,hP,oI ((geI i 0)=true),oR True ((geI i 0)=true),rp 6 (bF h0)]
def Qr6 (Γ:Gam) (rv:List Int) (cf:Cf):Prop:=Go Tryz.prog Tryz.f163 [] Γ (one (lL 1 rv e_i64)) [] cf
def Qo6 (Γ:Gam) (rv:List Int) (set_:Int) (l:List Int) (v:Int):Prop:=Qr6 Γ rv ⟨[.c 116,.l 116,.b 0,.c 15],⟨17,[vI 0 set_,vO 3 0 1 l e_i64,vI 5 v],[oS 1 3 l e_i64]⟩⟩
def Qok (Γ:Gam) (rv:List Int) (set_:Int) (l1:List Int):Prop:=Qr6 Γ rv ⟨[.c 15],⟨17,[vO 3 0 1 l1 e_i64],[oS 1 3 l1 e_i64]⟩⟩
theorem Qsz (Γ:Gam) (rv:List Int) {set_} {s:List Int×Int} {e:List Int} (h:loopF (fun s=>Qdk set_ s.1 s.2) s=some e) (hD:Qok Γ rv set_ e):Qo6 Γ rv set_ s.1 s.2:=by
 refine QaF (C:=fun (s:List Int×Int)=>Qo6 Γ rv set_ s.1 s.2) (D:=fun (e:List Int)=>Qok Γ rv set_ e) ?_ h hD
 clear h hD s e
 rintro ⟨l,v⟩ z_ h hI hE
 replace h:Qdk set_ l v=_:=h
 unfold Qdk at h
 rcases Qah h with ⟨h0,h⟩|⟨h0,h⟩
 ·obtain ⟨r,h1,h⟩:=Qae h
  rcases Qah h with ⟨h2,h⟩|⟨h2,h⟩
  ·obtain ⟨h3,h⟩:=Qat h
   exact gn 16 [0,3,5] [2] [bT h0,cC (QuD h1),bT h2,oO (Eq.refl ([v].map e_i64).length),aO e_i64 h3] (hI _ (oJ h))
  ·exact gn 16 [0,3,5] [0] [bT h0,cC (QuD h1),bF h2] (hI _ (oJ h))
 ·exact gn 5 [3] [0] [bF h0] (hE _ (oJ h))
theorem Quh {set_} {rv:List Int} (h:QmL set_=some rv):AFn Tryz.prog 163 [.one (lI set_)] [] (one (lL 1 rv e_i64)) []:=by
 refine QaK Tryz.func163 (by kernel_rfl) (by kernel_rfl) (fun Γ=>?_)
 unfold QmL at h
 obtain ⟨e0,h4,h⟩:=Qae h
 refine gn 9 [0,3,5] [0] [hW 12,hH (.adopt 3 1 3)] (Qsz Γ rv h4 ?_)
 obtain ⟨l1,rfl⟩:∃ x,x=e0:=⟨_,rfl⟩
 replace h:(some l1:Option (List Int))=some _:=h
 obtain rfl:=Option.some.inj h
 exact gr 2 [] [hW 4,hH (.frz 0),rp 3 (eL l1 e_i64)]
def QsK (Γ:Gam) (rv:List Int) (cf:Cf):Prop:=Go Tryz.prog Tryz.f138 [] Γ (one (lL 1 rv e_i64)) [] cf
def Qpq (Γ:Gam) (rv:List Int) (x0:Qac) (l:List Int) (r:List Int) (sum:List Int) (v:Int):Prop:=QsK Γ rv ⟨[.c 116,.l 116,.b 0,.c 15],⟨40,[vP 3 0 6,vL 7 1 sum e_i64,vL 13 1 r e_i64,vI 14 (lenI r),vI 15 v],[oX 6 30 (Qac.enc x0)]⟩⟩
def QoG (Γ:Gam) (rv:List Int) (x0:Qac) (l:List Int) (r:List Int) (sum1:List Int):Prop:=QsK Γ rv ⟨[.c 15],⟨40,[vL 7 1 sum1 e_i64],[]⟩⟩
theorem QsZ (Γ:Gam) (rv:List Int) {x0 l r} {s:List Int×Int} {e:List Int} (h:loopF (fun s=>QdM x0 l r s.1 s.2) s=some e) (hD:QoG Γ rv x0 l r e):Qpq Γ rv x0 l r s.1 s.2:=by
 refine QaF (C:=fun (s:List Int×Int)=>Qpq Γ rv x0 l r s.1 s.2) (D:=fun (e:List Int)=>QoG Γ rv x0 l r e) ?_ h hD
 clear h hD s e
 rintro ⟨sum,v⟩ z_ h hI hE
 replace h:QdM x0 l r sum v=_:=h
 unfold QdM at h
 rcases Qah h with ⟨h2,h⟩|⟨h2,h⟩
 ·obtain ⟨x1,h3,h⟩:=Qae h
  obtain ⟨x2,h4,h⟩:=Qae h
  rcases Qah h with ⟨h5,h⟩|⟨h5,h⟩
  ·obtain ⟨r1,h6,h⟩:=Qae h
   exact gn 16 [3,7,13,14,15] [0] [bT h2,cE e_i64 h3,cE Qag.enc h4,bT h5,cE Qag.enc h4,cC (Qro h6)] (hI _ (oJ h))
  ·exact gn 16 [3,7,13,14,15] [0] [bT h2,cE e_i64 h3,cE Qag.enc h4,bF h5] (hI _ (oJ h))
 ·exact gn 5 [7] [] [bF h2] (hE _ (oJ h))
theorem QuH {x0 set_ dims} {rv:List Int} (h:QnA x0 set_ dims=some rv):AFn Tryz.prog 138 [.agg (Qac.enc x0),.one (lI set_),.one (lI dims)] [] (one (lL 1 rv e_i64)) []:=by
 refine QaK Tryz.func138 (by kernel_rfl) (by kernel_rfl) (fun Γ=>?_)
 unfold QnA at h
 obtain ⟨l,h0,h⟩:=Qae h
 obtain ⟨r,h1,h⟩:=Qae h
 obtain ⟨e0,h7,h⟩:=Qae h
 refine gn 9 [3,7,13,14,15] [0] [hH (.cells [lI 0]),hH (.rows (l.map e_i64)),oO (mk1 h0),oO (mk2 h0),oO (mk3 h0),oO (mk4 h0),oO (mk5 e_i64 h0),cC (Quh h1),nL e_i64 r,hW 3,hH (.frz 1),rp 2 (eL l e_i64)] (QsZ Γ rv h7 ?_)
 obtain ⟨sum1,rfl⟩:∃ x,x=e0:=⟨_,rfl⟩
 replace h:(some sum1:Option (List Int))=some _:=h
 obtain rfl:=Option.some.inj h
 exact gr 2 [] []
theorem Qvq {l} {rv:Int} (h:Qpw l=some rv):AFn Tryz.prog 139 [.one (lL 14 l Qai.enc)] [] (one (lI rv)) []:=by
 refine QaK Tryz.func139 (by kernel_rfl) (by kernel_rfl) (fun Γ=>?_)
 unfold Qpw at h
 rcases Qah h with ⟨h0,h⟩|⟨h0,h⟩
 ·obtain rfl:=Option.some.inj h
  exact gr 8 [] [nL Qai.enc l,bT h0]
 ·obtain ⟨x0,h1,h⟩:=Qae h
  obtain rfl:=Option.some.inj h
  exact gr 9 [] [nL Qai.enc l,bF h0,cE Qai.enc h1,nL e_i64 x0.cap]
theorem QuS {a b} {rv:Int} (h:Qqy a b=some rv):AFn Tryz.prog 166 [.one (lI a),.one (lI b)] [] (one (lI rv)) []:=by
 refine QaK Tryz.func166 (by kernel_rfl) (by kernel_rfl) (fun Γ=>?_)
 unfold Qqy at h
 obtain rfl:=Option.some.inj h
 exact gr 4 [] []
def Qld (Γ:Gam) (rv:List Int×Int) (cf:Cf):Prop:=Go Tryz.prog Tryz.f164 [] Γ (.tup [.one (lL 1 rv.1 e_i64),.one (lI rv.2)]) [] cf
def QiI (Γ:Gam) (rv:List Int×Int) (a:List Int) (b:List Int) (l:List Int) (l1:List Int) (v:Int):Prop:=Qld Γ rv ⟨[.c 244,.l 244,.b 0,.c 31],⟨38,[vL 0 1 a e_i64,vL 1 1 b e_i64,(2,one (.fn (.func 166) [])),vO 8 0 1 l1 e_i64,vI 19 (lenI a),vI 20 v],[oS 1 3 l1 e_i64]⟩⟩
def Qim (Γ:Gam) (rv:List Int×Int) (a:List Int) (b:List Int) (l:List Int) (l2:List Int):Prop:=Qld Γ rv ⟨[.c 31],⟨38,[vO 8 0 1 l2 e_i64],[oS 1 3 l2 e_i64]⟩⟩
theorem QnM (Γ:Gam) (rv:List Int×Int) {a b l} {s:List Int×Int} {e:List Int} (h:loopF (fun s=>QbE a b l s.1 s.2) s=some e) (hD:Qim Γ rv a b l e):QiI Γ rv a b l s.1 s.2:=by
 refine QaF (C:=fun (s:List Int×Int)=>QiI Γ rv a b l s.1 s.2) (D:=fun (e:List Int)=>Qim Γ rv a b l e) ?_ h hD
 clear h hD s e
 rintro ⟨l1,v⟩ z_ h hI hE
 replace h:QbE a b l l1 v=_:=h
 unfold QbE at h
 rcases Qah h with ⟨h2,h⟩|⟨h2,h⟩
 ·obtain ⟨x0,h3,h⟩:=Qae h
  obtain ⟨x1,h4,h⟩:=Qae h
  obtain ⟨r,h5,h⟩:=Qae h
  obtain ⟨x2,h6,h⟩:=Qae h
  exact gn 13 [0,1,2,8,19,20] [0] [bT h2,hH (.draw 13 []),cE e_i64 h3,cE e_i64 h4,cC (QuS h5),oO (getLo h6),oO (getHi e_i64 h6),rE e_i64 h6,hH (.rows ((setI l1 v r).map e_i64)),hH (.relen 0 ((setI l1 v r).map e_i64).length),oO (setM e_i64 l1 v r),rp 2 (oO (Qvw e_i64 l1 v r))] (hI _ (oJ h))
 ·exact gn 5 [8] [0] [bF h2] (hE _ (oJ h))
theorem QpM {a b} {rv:List Int×Int} (h:QgN a b=some rv):AFn Tryz.prog 164 [.one (lL 1 a e_i64),.one (lL 1 b e_i64),.one (.fn (.func 166) [])] [] (.tup [.one (lL 1 rv.1 e_i64),.one (lI rv.2)]) []:=by
 refine QaK Tryz.func164 (by kernel_rfl) (by kernel_rfl) (fun Γ=>?_)
 unfold QgN at h
 rcases Qah h with ⟨h0,h⟩|⟨h0,h⟩
 ·obtain rfl:=Option.some.inj h
  exact gr 8 [] [nL e_i64 a,nL e_i64 b,bT h0,hW 4,hH (.nilS 6 0 1)]
 ·obtain ⟨l,h1,h⟩:=Qae h
  obtain ⟨e0,h7,h⟩:=Qae h
  refine gn 14 [0,1,2,8,19,20] [0] [nL e_i64 a,nL e_i64 b,bF h0,nL e_i64 a,hH (.cells [lI 0]),hH (.rows (l.map e_i64)),oO (mk1 h1),oO (mk2 h1),oO (mk3 h1),oO (mk4 h1),oO (mk5 e_i64 h1),nL e_i64 a] (QnM Γ rv h7 ?_)
  obtain ⟨l2,rfl⟩:∃ x,x=e0:=⟨_,rfl⟩
  replace h:(some (l2,0):Option (List Int×Int))=some _:=h
  obtain rfl:=Option.some.inj h
  exact gr 2 [] [hW 5,hH (.frz 0),rp 3 (eL l2 e_i64)]
theorem QtG {a b} {rv:List Int×Int} (h:QrP a b=some rv):AFn Tryz.prog 141 [.one (lL 1 a e_i64),.one (lL 1 b e_i64)] [] (.tup [.one (lL 1 rv.1 e_i64),.one (lI rv.2)]) []:=by
 refine QaK Tryz.func141 (by kernel_rfl) (by kernel_rfl) (fun Γ=>?_)
 unfold QrP at h
 obtain ⟨r,h0,h⟩:=Qae h
 obtain rfl:=Option.some.inj h
 exact gr 4 [] [cC (QpM h0)]
def QsJ (Γ:Gam) (rv:List (List Int)×Int) (cf:Cf):Prop:=Go Tryz.prog Tryz.f110 [] Γ (.tup [.one (lL 1 rv.1 Qbc),.one (lI rv.2)]) [] cf
def Qpp (Γ:Gam) (rv:List (List Int)×Int) (x0:Qac) (r:Qad) (l:List (List Int)) (now:List Int) (v:Int):Prop:=QsJ Γ rv ⟨[.c 2036,.l 2036,.b 0,.c 255],⟨67,[vP 2 0 6,vL 9 1 now e_i64,vO 10 1 1 l Qbc,vL 37 2 r.visits Qaa.enc,vI 38 (lenI r.visits),vI 39 v],[oX 6 30 (Qac.enc x0),oS 1 42 l Qbc]⟩⟩
def QoF (Γ:Gam) (rv:List (List Int)×Int) (x0:Qac) (r:Qad) (l1:List (List Int)):Prop:=QsJ Γ rv ⟨[.c 255],⟨67,[vO 10 0 1 l1 Qbc],[oS 1 42 l1 Qbc]⟩⟩
theorem QsY (Γ:Gam) (rv:List (List Int)×Int) {x0 r} {s:List (List Int)×List Int×Int} {e:(List (List Int))⊕(List (List Int)×Int)} (h:loopF (fun s=>QdL x0 r s.1 s.2.1 s.2.2) s=some e) (hD:sel e (fun e=>QoF Γ rv x0 r e) (fun e=>e=rv)):Qpp Γ rv x0 r s.1 s.2.1 s.2.2:=by
 refine QaF (C:=fun (s:List (List Int)×List Int×Int)=>Qpp Γ rv x0 r s.1 s.2.1 s.2.2) (D:=fun (e:(List (List Int))⊕(List (List Int)×Int))=>sel e (fun e=>QoF Γ rv x0 r e) (fun e=>e=rv)) ?_ h hD
 clear h hD s e
 rintro ⟨l,now,v⟩ z_ h hI hE
 replace h:QdL x0 r l now v=_:=h
 unfold QdL at h
 rcases Qah h with ⟨h6,h⟩|⟨h6,h⟩
 ·obtain ⟨x1,h7,h⟩:=Qae h
  rcases Qah h with ⟨h8,h⟩|⟨h8,h⟩
  ·obtain ⟨x2,h9,h⟩:=Qae h
   obtain ⟨r5,h10,h⟩:=Qae h
   rcases Qah h with ⟨h11,h⟩|⟨h11,h⟩
   ·obtain rfl:=(hE _ (oJ h):_=rv)
    exact gr 24 [] [bT h6,cE Qaa.enc h7,bT h8,cE Qag.enc h9,cC (QtG h10),bT h11,hW 5,hH (.nilS 4 0 1)]
   ·obtain ⟨h12,h⟩:=Qat h
    exact gn 27 [2,9,10,37,38,39] [0,4] [bT h6,cE Qaa.enc h7,bT h8,cE Qag.enc h9,cC (QtG h10),bF h11,oO (Eq.refl ([r5.1].map Qbc).length),aO Qbc h12] (hI _ (oJ h))
  ·obtain ⟨x3,h13,h⟩:=Qae h
   obtain ⟨r6,h14,h⟩:=Qae h
   rcases Qah h with ⟨h15,h⟩|⟨h15,h⟩
   ·obtain rfl:=(hE _ (oJ h):_=rv)
    exact gr 24 [] [bT h6,cE Qaa.enc h7,bF h8,cE Qag.enc h13,cC (Qro h14),bT h15,hW 5,hH (.nilS 4 0 1)]
   ·obtain ⟨h16,h⟩:=Qat h
    exact gn 27 [2,9,10,37,38,39] [0,4] [bT h6,cE Qaa.enc h7,bF h8,cE Qag.enc h13,cC (Qro h14),bF h15,oO (Eq.refl ([r6.1].map Qbc).length),aO Qbc h16] (hI _ (oJ h))
 ·exact gn 5 [10] [1] [bF h6] (hE _ (oJ h))
theorem Qop {x0 r} {rv:List (List Int)×Int} (h:Qnz x0 r=some rv):AFn Tryz.prog 110 [.agg (Qac.enc x0),.agg (Qad.enc r)] [] (.tup [.one (lL 1 rv.1 Qbc),.one (lI rv.2)]) []:=by
 refine QaK Tryz.func110 (by kernel_rfl) (by kernel_rfl) (fun Γ=>?_)
 unfold Qnz at h
 obtain ⟨r1,h0,h⟩:=Qae h
 rcases Qah h with ⟨h1,h⟩|⟨h1,h⟩
 ·obtain rfl:=Option.some.inj h
  exact gr 10 [] [cC (Qdv h0),bT h1,hW 5,hH (.nilS 4 0 1)]
 ·obtain ⟨r2,h2,h⟩:=Qae h
  rcases Qah h with ⟨h3,h⟩|⟨h3,h⟩
  ·obtain rfl:=Option.some.inj h
   exact gr 17 [] [cC (Qdv h0),bF h1,cC (Qoh h2),bT h3,hW 5,hH (.nilS 4 0 1)]
  ·obtain ⟨r3,h4,h⟩:=Qae h
   obtain ⟨r4,h5,h⟩:=Qae h
   obtain ⟨e0,h17,h⟩:=Qae h
   refine gn 25 [2,9,10,37,38,39] [0,2] [cC (Qdv h0),bF h1,cC (Qoh h2),bF h3,hH (.draw 7 []),cC (Qvq h4),cC (QuH h5),nL Qaa.enc r.visits] (QsY Γ rv h17 ?_)
   rcases e0 with e0|e0
   ·obtain ⟨l1,rfl⟩:∃ x,x=e0:=⟨_,rfl⟩
    replace h:(some (l1,0):Option (List (List Int)×Int))=some _:=h
    obtain rfl:=Option.some.inj h
    exact gr 2 [] [hW 5,hH (.frz 0),rp 3 (eL l1 Qbc)]
   ·obtain ⟨r7,rfl⟩:∃ x,x=e0:=⟨_,rfl⟩
    replace h:(some r7:Option (List (List Int)×Int))=some _:=h
    exact Option.some.inj h
def QtE (Γ:Gam) (rv:Bool) (cf:Cf):Prop:=Go Tryz.prog Tryz.f113 [] Γ (one (.bool rv)) [] cf
def Qq9 (Γ:Gam) (rv:Bool) (a:List Int) (capacity:List Int) (v:Int):Prop:=QtE Γ rv ⟨[.c 116,.l 116,.b 0,.c 15],⟨26,[vL 1 1 capacity e_i64,vL 12 1 a e_i64,vI 13 (lenI a),vI 14 v],[]⟩⟩
def QpL (Γ:Gam) (rv:Bool) (a:List Int) (capacity:List Int):Prop:=QtE Γ rv ⟨[.c 15],⟨26,[],[]⟩⟩
theorem QtF (Γ:Gam) (rv:Bool) {a capacity} {s:Int} {e:(Unit)⊕(Bool)} (h:loopF (fun s=>Qff a capacity s) s=some e) (hD:sel e (fun e=>QpL Γ rv a capacity) (fun e=>e=rv)):Qq9 Γ rv a capacity s:=by
 refine QaF (C:=fun (s:Int)=>Qq9 Γ rv a capacity s) (D:=fun (e:(Unit)⊕(Bool))=>sel e (fun e=>QpL Γ rv a capacity) (fun e=>e=rv)) ?_ h hD
 clear h hD s e
 intro v z_ h hI hE
 replace h:Qff a capacity v=_:=h
 unfold Qff at h
 rcases Qah h with ⟨h1,h⟩|⟨h1,h⟩
 ·obtain ⟨x0,h2,h⟩:=Qae h
  obtain ⟨x1,h3,h⟩:=Qae h
  rcases Qah h with ⟨h4,h⟩|⟨h4,h⟩
  ·obtain rfl:=(hE _ (oJ h):_=rv)
   exact gr 14 [] [bT h1,cE e_i64 h2,cE e_i64 h3,bT h4]
  ·exact gn 16 [1,12,13,14] [] [bT h1,cE e_i64 h2,cE e_i64 h3,bF h4] (hI _ (oJ h))
 ·exact gn 5 [] [] [bF h1] (hE _ (oJ h))
theorem Qvx {a capacity} {rv:Bool} (h:QpK a capacity=some rv):AFn Tryz.prog 113 [.one (lL 1 a e_i64),.one (lL 1 capacity e_i64)] [] (one (.bool rv)) []:=by
 refine QaK Tryz.func113 (by kernel_rfl) (by kernel_rfl) (fun Γ=>?_)
 unfold QpK at h
 rcases Qah h with ⟨h0,h⟩|⟨h0,h⟩
 ·obtain rfl:=Option.some.inj h
  exact gr 8 [] [nL e_i64 a,nL e_i64 capacity,bT h0]
 ·obtain ⟨e0,h5,h⟩:=Qae h
  refine gn 12 [1,12,13,14] [] [nL e_i64 a,nL e_i64 capacity,bF h0,nL e_i64 a] (QtF Γ rv h5 ?_)
  rcases e0 with e0|e0
  ·replace h:(some true:Option Bool)=some _:=h
   obtain rfl:=Option.some.inj h
   exact gr 2 [] []
  ·obtain ⟨r,rfl⟩:∃ x,x=e0:=⟨_,rfl⟩
   replace h:(some r:Option Bool)=some _:=h
   exact Option.some.inj h
theorem Qq2 {a c c1} {rv:Bool} (h:Qoo a c c1=some rv):AFn Tryz.prog 112 [.one (lL 1 a e_i64),.one (.ip (Qac.enc c) 0),.one (.ip (Qad.enc c1) 0)] [] (one (.bool rv)) []:=by
 refine QaK Tryz.func112 (by kernel_rfl) (by kernel_rfl) (fun Γ=>?_)
 unfold Qoo at h
 obtain ⟨x0,h0,h⟩:=Qae h
 obtain ⟨r,h1,h⟩:=Qae h
 obtain rfl:=Option.some.inj h
 exact gr 4 [] [cE Qai.enc h0,cC (Qvx h1)]
def Qd0 (Γ:Gam) (rv:Int) (cf:Cf):Prop:=Go Tryz.prog Tryz.f142 [] Γ (one (lI rv)) [] cf
def Qdw (Γ:Gam) (rv:Int) (s0:List (List Int)) (c:Qac) (c1:Qad) (v:Int):Prop:=Qd0 Γ rv ⟨[.c 52,.l 52,.b 0,.c 7],⟨19,[vL 0 1 s0 Qbc,(1,one (.fn (.func 112) [.ip (Qac.enc c) 0,.ip (Qad.enc c1) 0])),vI 7 (lenI s0),vI 8 v],[]⟩⟩
def Qdo (Γ:Gam) (rv:Int) (s0:List (List Int)) (c:Qac) (c1:Qad):Prop:=Qd0 Γ rv ⟨[.c 7],⟨19,[],[]⟩⟩
theorem Qgo (Γ:Gam) (rv:Int) {s0 c c1} {s:Int} {e:(Unit)⊕(Int)} (h:loopF (fun s=>QaL s0 c c1 s) s=some e) (hD:sel e (fun e=>Qdo Γ rv s0 c c1) (fun e=>e=rv)):Qdw Γ rv s0 c c1 s:=by
 refine QaF (C:=fun (s:Int)=>Qdw Γ rv s0 c c1 s) (D:=fun (e:(Unit)⊕(Int))=>sel e (fun e=>Qdo Γ rv s0 c c1) (fun e=>e=rv)) ?_ h hD
 clear h hD s e
 intro v z_ h hI hE
 replace h:QaL s0 c c1 v=_:=h
 unfold QaL at h
 rcases Qah h with ⟨h0,h⟩|⟨h0,h⟩
 ·obtain ⟨x0,h1,h⟩:=Qae h
  obtain ⟨r,h2,h⟩:=Qae h
  rcases Qah h with ⟨h3,h⟩|⟨h3,h⟩
  ·obtain rfl:=(hE _ (oJ h):_=rv)
   exact gr 14 [] [bT h0,cE Qbc h1,cC (Qq2 h2),bT h3]
  ·exact gn 16 [0,1,7,8] [] [bT h0,cE Qbc h1,cC (Qq2 h2),bF h3] (hI _ (oJ h))
 ·exact gn 5 [] [] [bF h0] (hE _ (oJ h))
theorem Qg1 {s0 c c1} {rv:Int} (h:Qbr s0 c c1=some rv):AFn Tryz.prog 142 [.one (lL 1 s0 Qbc),.one (.fn (.func 112) [.ip (Qac.enc c) 0,.ip (Qad.enc c1) 0])] [] (one (lI rv)) []:=by
 refine QaK Tryz.func142 (by kernel_rfl) (by kernel_rfl) (fun Γ=>?_)
 unfold Qbr at h
 obtain ⟨e0,h4,h⟩:=Qae h
 refine gn 7 [0,1,7,8] [] [nL Qbc s0] (Qgo Γ rv h4 ?_)
 rcases e0 with e0|e0
 ·replace h:(some (-1):Option Int)=some _:=h
  obtain rfl:=Option.some.inj h
  exact gr 2 [] []
 ·obtain ⟨r1,rfl⟩:∃ x,x=e0:=⟨_,rfl⟩
  replace h:(some r1:Option Int)=some _:=h
  exact Option.some.inj h
theorem Qdn {s0 c c1} {rv:Bool} (h:QbB s0 c c1=some rv):AFn Tryz.prog 111 [.one (lL 1 s0 Qbc),.one (.fn (.func 112) [.ip (Qac.enc c) 0,.ip (Qad.enc c1) 0])] [] (one (.bool rv)) []:=by
 refine QaK Tryz.func111 (by kernel_rfl) (by kernel_rfl) (fun Γ=>?_)
 unfold QbB at h
 obtain ⟨r,h0,h⟩:=Qae h
 obtain rfl:=Option.some.inj h
 exact gr 4 [] [cC (Qg1 h0)]
theorem Qpo {x0 r} {rv:Int} (h:Qpn x0 r=some rv):AFn Tryz.prog 82 [.agg (Qac.enc x0),.agg (Qad.enc r)] [] (one (lI rv)) []:=by
 refine QaK Tryz.func82 (by kernel_rfl) (by kernel_rfl) (fun Γ=>?_)
 unfold Qpn at h
 rcases Qah h with ⟨h0,h⟩|⟨h0,h⟩
 ·obtain rfl:=Option.some.inj h
  exact gr 8 [] [rp 5 hP,rp 3 (oI ((ltI r.type_ 0)=false)),nL Qai.enc x0.types,hP,hP,rp 2 (oI ((ltI r.type_ 0)=false)),oR True ((ltI r.type_ 0)=false),bT h0]
 ·obtain ⟨r1,h1,h⟩:=Qae h
  rcases Qah h with ⟨h2,h⟩|⟨h2,h⟩
  ·obtain rfl:=Option.some.inj h
   exact gr 15 [] [rp 5 hP,rp 3 (oI ((ltI r.type_ 0)=false)),nL Qai.enc x0.types,hP,hP,rp 2 (oI ((ltI r.type_ 0)=false)),oR True ((ltI r.type_ 0)=false),bF h0,cC (Qop h1),bT h2]
  ·obtain ⟨r2,h3,h⟩:=Qae h
   rcases Qah h with ⟨h4,h⟩|⟨h4,h⟩
   ·obtain rfl:=Option.some.inj h
    exact gr 20 [] [rp 5 hP,rp 3 (oI ((ltI r.type_ 0)=false)),nL Qai.enc x0.types,hP,hP,rp 2 (oI ((ltI r.type_ 0)=false)),oR True ((ltI r.type_ 0)=false),bF h0,cC (Qop h1),bF h2,cC (Qdn h3),bT h4]
   ·obtain rfl:=Option.some.inj h
    exact gr 21 [] [rp 5 hP,rp 3 (oI ((ltI r.type_ 0)=false)),nL Qai.enc x0.types,hP,hP,rp 2 (oI ((ltI r.type_ 0)=false)),oR True ((ltI r.type_ 0)=false),bF h0,cC (Qop h1),bF h2,cC (Qdn h3),bF h4]
def Qwk (Γ:Gam) (rv:Qau×Int) (cf:Cf):Prop:=Go Tryz.prog Tryz.f143 [] Γ (.tup [.agg [lI rv.1.place,lI rv.1.open_,lI rv.1.close,lI rv.1.service],.one (lI rv.2)]) [] cf
theorem Qqd (Γ:Gam) (rv:Qau×Int) {x1} (h:QkM x1=some rv):Qwk Γ rv ⟨[.c 31],⟨32,[vP 4 0 4,vP 6 1 4],[oX 4 72 [lI 0,lI 0,lI 0,lI 0],oX 4 72 (Qau.enc x1)]⟩⟩:=by
 unfold QkM at h
 rcases Qah h with ⟨h4,h⟩|⟨h4,h⟩
 ·obtain rfl:=Option.some.inj h
  exact gr 6 [] [bT h4]
 ·obtain rfl:=Option.some.inj h
  exact gr 7 [] [bF h4]
theorem QsR {l v} {rv:Qau×Int} (h:Qqc l v=some rv):AFn Tryz.prog 143 [.one (lL 16 l Qag.enc),.agg (Qaa.enc v)] [] (.tup [.agg [lI rv.1.place,lI rv.1.open_,lI rv.1.close,lI rv.1.service],.one (lI rv.2)]) []:=by
 refine QaK Tryz.func143 (by kernel_rfl) (by kernel_rfl) (fun Γ=>?_)
 unfold Qqc at h
 obtain ⟨r,h0,h⟩:=Qae h
 rcases Qah h with ⟨h1,h⟩|⟨h1,h⟩
 ·obtain ⟨x0,h2,h⟩:=Qae h
  rcases Qah h with ⟨h3,h⟩|⟨h3,h⟩
  ·exact gn 14 [4,6] [1,2] [cC (QhB h0),nF h1,cE Qag.enc h2,bT h3,cE Qag.enc h2] (Qqd Γ rv h)
  ·exact gn 14 [4,6] [1,2] [cC (QhB h0),nF h1,cE Qag.enc h2,bF h3] (Qqd Γ rv h)
 ·obtain rfl:=Option.some.inj h
  exact gr 8 [] [cC (QhB h0),nT h1]
def Qtv (Γ:Gam) (rv:Qaw×Bool) (cf:Cf):Prop:=Go Tryz.prog Tryz.f114 [] Γ (.tup [.agg [lL 1 rv.1.x.net.places e_str,lL 6 rv.1.x.net.arcs Qaq.enc,lL 14 rv.1.x.types Qai.enc,lL 16 rv.1.x.orders Qag.enc,lL 2 rv.1.x.apart QaO.enc,lL 2 rv.1.x.before QaO.enc,.str rv.1.t.name,lI rv.1.t.count,lI rv.1.t.from_,lI rv.1.t.to_,lL 1 rv.1.t.cap e_i64,lI rv.1.t.skills,lI rv.1.t.profile,lI rv.1.t.open_,lI rv.1.t.close,lI rv.1.t.drive,lI rv.1.t.rest_,lI rv.1.t.fixed,lI rv.1.t.perMile,lI rv.1.t.perTick,lI rv.1.r.type_,lI rv.1.r.start,lL 1 rv.1.r.rests Qa5,lL 2 rv.1.r.visits Qaa.enc,lL 4 rv.1.stops Qau.enc],.one (.bool rv.2)]) [] cf
def Qq5 (Γ:Gam) (rv:Qaw×Bool) (x0:Qac) (r:Qad) (x1:Qai) (l:List Qau) (v:Int):Prop:=Qtv Γ rv ⟨[.c 244,.l 244,.b 0,.c 31],⟨78,[vP 2 0 6,vP 4 1 25,vP 6 2 25,vL 49 2 r.visits Qaa.enc,vI 50 (lenI r.visits),vI 51 v],[oX 6 30 (Qac.enc x0),oX 25 174 [.nils,.nils,.nils,.nils,.nils,.nils,.str ByteArray.empty,lI 0,lI 0,lI 0,.nils,lI 0,lI 0,lI 0,lI 0,lI 0,lI 0,lI 0,lI 0,lI 0,lI 0,lI 0,.nils,.nils,.nils],oX 25 174 [lL 1 x0.net.places e_str,lL 6 x0.net.arcs Qaq.enc,lL 14 x0.types Qai.enc,lL 16 x0.orders Qag.enc,lL 2 x0.apart QaO.enc,lL 2 x0.before QaO.enc,.str x1.name,lI x1.count,lI x1.from_,lI x1.to_,lL 1 x1.cap e_i64,lI x1.skills,lI x1.profile,lI x1.open_,lI x1.close,lI x1.drive,lI x1.rest_,lI x1.fixed,lI x1.perMile,lI x1.perTick,lI r.type_,lI r.start,lL 1 r.rests Qa5,lL 2 r.visits Qaa.enc,lO 3 4 l Qau.enc],oS 4 72 l Qau.enc]⟩⟩
def Qpu (Γ:Gam) (rv:Qaw×Bool) (x0:Qac) (r:Qad) (x1:Qai) (l1:List Qau):Prop:=Qtv Γ rv ⟨[.c 31],⟨78,[vP 4 0 25,vP 6 1 25],[oX 25 174 [.nils,.nils,.nils,.nils,.nils,.nils,.str ByteArray.empty,lI 0,lI 0,lI 0,.nils,lI 0,lI 0,lI 0,lI 0,lI 0,lI 0,lI 0,lI 0,lI 0,lI 0,lI 0,.nils,.nils,.nils],oX 25 174 [lL 1 x0.net.places e_str,lL 6 x0.net.arcs Qaq.enc,lL 14 x0.types Qai.enc,lL 16 x0.orders Qag.enc,lL 2 x0.apart QaO.enc,lL 2 x0.before QaO.enc,.str x1.name,lI x1.count,lI x1.from_,lI x1.to_,lL 1 x1.cap e_i64,lI x1.skills,lI x1.profile,lI x1.open_,lI x1.close,lI x1.drive,lI x1.rest_,lI x1.fixed,lI x1.perMile,lI x1.perTick,lI r.type_,lI r.start,lL 1 r.rests Qa5,lL 2 r.visits Qaa.enc,lO 2 4 l1 Qau.enc],oS 4 72 l1 Qau.enc]⟩⟩
theorem Qtw (Γ:Gam) (rv:Qaw×Bool) {x0 r x1} {s:List Qau×Int} {e:(List Qau)⊕(Qaw×Bool)} (h:loopF (fun s=>Qii x0 r x1 s.1 s.2) s=some e) (hD:sel e (fun e=>Qpu Γ rv x0 r x1 e) (fun e=>e=rv)):Qq5 Γ rv x0 r x1 s.1 s.2:=by
 refine QaF (C:=fun (s:List Qau×Int)=>Qq5 Γ rv x0 r x1 s.1 s.2) (D:=fun (e:(List Qau)⊕(Qaw×Bool))=>sel e (fun e=>Qpu Γ rv x0 r x1 e) (fun e=>e=rv)) ?_ h hD
 clear h hD s e
 rintro ⟨l,v⟩ z_ h hI hE
 replace h:Qii x0 r x1 l v=_:=h
 unfold Qii at h
 rcases Qah h with ⟨h2,h⟩|⟨h2,h⟩
 ·obtain ⟨x2,h3,h⟩:=Qae h
  obtain ⟨r1,h4,h⟩:=Qae h
  rcases Qah h with ⟨h5,h⟩|⟨h5,h⟩
  ·obtain rfl:=(hE _ (oJ h):_=rv)
   exact gr 17 [] [bT h2,cE Qaa.enc h3,cC (QsR h4),rp 4 hP,rp 2 (oI ((neI r1.2 0)=false)),oR True ((neI r1.2 0)=false),bT h5,hW 5,hH (.nilB 1 0 1),hH (.nilB 1 1 6),hH (.nilB 1 2 14),hH (.nilB 1 3 16),hH (.nilB 1 4 2),hH (.nilB 1 5 2),hH (.nilB 1 10 1),hH (.nilB 1 22 1),hH (.nilB 1 23 2),hH (.nilB 1 24 4)]
  ·obtain ⟨h6,h⟩:=Qat h
   exact gn 20 [2,4,6,49,50,51] [0,1,2,7] [bT h2,cE Qaa.enc h3,cC (QsR h4),rp 4 hP,rp 2 (oI ((neI r1.2 0)=false)),oR True ((neI r1.2 0)=false),bF h5,oO (Eq.refl ([r1.1].map Qau.enc).length),aO Qau.enc h6] (hI _ (oJ h))
 ·exact gn 5 [4,6] [1,2,3] [bF h2] (hE _ (oJ h))
theorem QsN {x0 r} {rv:Qaw×Bool} (h:QnE x0 r=some rv):AFn Tryz.prog 114 [.agg (Qac.enc x0),.agg (Qad.enc r)] [] (.tup [.agg [lL 1 rv.1.x.net.places e_str,lL 6 rv.1.x.net.arcs Qaq.enc,lL 14 rv.1.x.types Qai.enc,lL 16 rv.1.x.orders Qag.enc,lL 2 rv.1.x.apart QaO.enc,lL 2 rv.1.x.before QaO.enc,.str rv.1.t.name,lI rv.1.t.count,lI rv.1.t.from_,lI rv.1.t.to_,lL 1 rv.1.t.cap e_i64,lI rv.1.t.skills,lI rv.1.t.profile,lI rv.1.t.open_,lI rv.1.t.close,lI rv.1.t.drive,lI rv.1.t.rest_,lI rv.1.t.fixed,lI rv.1.t.perMile,lI rv.1.t.perTick,lI rv.1.r.type_,lI rv.1.r.start,lL 1 rv.1.r.rests Qa5,lL 2 rv.1.r.visits Qaa.enc,lL 4 rv.1.stops Qau.enc],.one (.bool rv.2)]) []:=by
 refine QaK Tryz.func114 (by kernel_rfl) (by kernel_rfl) (fun Γ=>?_)
 unfold QnE at h
 rcases Qah h with ⟨h0,h⟩|⟨h0,h⟩
 ·obtain rfl:=Option.some.inj h
  exact gr 8 [] [rp 5 hP,rp 3 (oI ((ltI r.type_ 0)=false)),nL Qai.enc x0.types,rp 13 hP,rp 2 (oI ((ltI r.type_ 0)=false)),oR True ((ltI r.type_ 0)=false),rp 2 (oI (((ltI r.type_ 0)||(geI r.type_ (lenI x0.types)))=false)),oR True (((ltI r.type_ 0)||(geI r.type_ (lenI x0.types)))=false),rp 2 (oI ((((ltI r.type_ 0)||(geI r.type_ (lenI x0.types)))||(ltI r.start 0))=false)),oR True ((((ltI r.type_ 0)||(geI r.type_ (lenI x0.types)))||(ltI r.start 0))=false),rp 2 (oI (((((ltI r.type_ 0)||(geI r.type_ (lenI x0.types)))||(ltI r.start 0))||(gtI r.start 4096))=false)),nL Qaa.enc r.visits,hP,hP,oI (((((ltI r.type_ 0)||(geI r.type_ (lenI x0.types)))||(ltI r.start 0))||(gtI r.start 4096))=false),oR True (((((ltI r.type_ 0)||(geI r.type_ (lenI x0.types)))||(ltI r.start 0))||(gtI r.start 4096))=false),bT h0,hW 5,hH (.nilB 2 0 1),hH (.nilB 2 1 6),hH (.nilB 2 2 14),hH (.nilB 2 3 16),hH (.nilB 2 4 2),hH (.nilB 2 5 2),hH (.nilB 2 10 1),hH (.nilB 2 22 1),hH (.nilB 2 23 2),hH (.nilB 2 24 4)]
 ·obtain ⟨x1,h1,h⟩:=Qae h
  obtain ⟨e0,h7,h⟩:=Qae h
  refine gn 14 [2,4,6,49,50,51] [0,2,3,4] [rp 5 hP,rp 3 (oI ((ltI r.type_ 0)=false)),nL Qai.enc x0.types,rp 13 hP,rp 2 (oI ((ltI r.type_ 0)=false)),oR True ((ltI r.type_ 0)=false),rp 2 (oI (((ltI r.type_ 0)||(geI r.type_ (lenI x0.types)))=false)),oR True (((ltI r.type_ 0)||(geI r.type_ (lenI x0.types)))=false),rp 2 (oI ((((ltI r.type_ 0)||(geI r.type_ (lenI x0.types)))||(ltI r.start 0))=false)),oR True ((((ltI r.type_ 0)||(geI r.type_ (lenI x0.types)))||(ltI r.start 0))=false),rp 2 (oI (((((ltI r.type_ 0)||(geI r.type_ (lenI x0.types)))||(ltI r.start 0))||(gtI r.start 4096))=false)),nL Qaa.enc r.visits,hP,hP,oI (((((ltI r.type_ 0)||(geI r.type_ (lenI x0.types)))||(ltI r.start 0))||(gtI r.start 4096))=false),oR True (((((ltI r.type_ 0)||(geI r.type_ (lenI x0.types)))||(ltI r.start 0))||(gtI r.start 4096))=false),bF h0,hH (.draw 10 []),cE Qai.enc h1,nL Qaa.enc r.visits,hW 3,hH (.adoptB 3 24 4 72)] (Qtw Γ rv h7 ?_)
  rcases e0 with e0|e0
  ·obtain ⟨l1,rfl⟩:∃ x,x=e0:=⟨_,rfl⟩
   replace h:(some ((Qaw.mk x0 x1 r l1),true):Option (Qaw×Bool))=some _:=h
   obtain rfl:=Option.some.inj h
   exact gr 2 [] [hW 5,hH (.frz 2),rp 3 (eL l1 Qau.enc)]
  ·obtain ⟨r2,rfl⟩:∃ x,x=e0:=⟨_,rfl⟩
   replace h:(some r2:Option (Qaw×Bool))=some _:=h
   exact Option.some.inj h
theorem QmV {p} {rv:Qaf} (h:Qc5 p=some rv):AFn Tryz.prog 115 [.agg (Qaw.enc p)] [] (gG [lI rv.ready,lI rv.since,.bool rv.sheet.rest_,lI rv.sheet.depart,lL 4 rv.sheet.times Qap.enc,lI rv.sheet.end_,lI rv.sheet.miles]) []:=by
 refine QaK Tryz.func115 (by kernel_rfl) (by kernel_rfl) (fun Γ=>?_)
 unfold Qc5 at h
 obtain rfl:=Option.some.inj h
 exact gr 4 [] [hW 15,hH (.nilB 1 4 4)]
theorem Qdm {n i} {rv:Bool} (h:QiB n i=some rv):AFn Tryz.prog 179 [.agg (Qak.enc n),.one (lI i)] [] (one (.bool rv)) []:=by
 refine QaK Tryz.func179 (by kernel_rfl) (by kernel_rfl) (fun Γ=>?_)
 unfold QiB at h
 obtain rfl:=Option.some.inj h
 exact gr 4 [] [rp 4 hP,rp 2 (oI ((geI i 0)=true)),nL e_str n.places,hP,hP,rp 2 (oI ((geI i 0)=true)),oR True ((geI i 0)=true)]
theorem Qp9 {a} {rv:Qih} (h:Qnh a=some rv):AFn Tryz.prog 186 [.agg (Qaq.enc a)] [] (gG [lI rv.from_,lI rv.to_,lI rv.profile]) []:=by
 refine QaK Tryz.func186 (by kernel_rfl) (by kernel_rfl) (fun Γ=>?_)
 unfold Qnh at h
 obtain rfl:=Option.some.inj h
 exact gr 4 [] []
def Qr3 (Γ:Gam) (rv:Qaq×Bool) (cf:Cf):Prop:=Go Tryz.prog Tryz.f180 [] Γ (.tup [.agg [lI rv.1.from_,lI rv.1.to_,lI rv.1.profile,lI rv.1.miles,lL 2 rv.1.travel Qam.enc,lL 2 rv.1.slow Qam.enc],.one (.bool rv.2)]) [] cf
def QoY (Γ:Gam) (rv:Qaq×Bool) (n:Qak) (profile:Int) (from_:Int) (to_:Int) (v:Int):Prop:=Qr3 Γ rv ⟨[.c 116,.l 116,.b 0,.c 15],⟨31,[vP 8 0 6,vP 10 1 3,vL 18 6 n.arcs Qaq.enc,vI 19 (lenI n.arcs),vI 20 v],[oX 6 122 [lI 0,lI 0,lI 0,lI 0,.nils,.nils],oX 3 238 [lI from_,lI to_,lI profile]]⟩⟩
def Qob (Γ:Gam) (rv:Qaq×Bool) (n:Qak) (profile:Int) (from_:Int) (to_:Int):Prop:=Qr3 Γ rv ⟨[.c 15],⟨31,[vP 8 0 6],[oX 6 122 [lI 0,lI 0,lI 0,lI 0,.nils,.nils]]⟩⟩
theorem Qsp (Γ:Gam) (rv:Qaq×Bool) {n profile from_ to_} {s:Int} {e:(Unit)⊕(Qaq×Bool)} (h:loopF (fun s=>QgH n profile from_ to_ s) s=some e) (hD:sel e (fun e=>Qob Γ rv n profile from_ to_) (fun e=>e=rv)):QoY Γ rv n profile from_ to_ s:=by
 refine QaF (C:=fun (s:Int)=>QoY Γ rv n profile from_ to_ s) (D:=fun (e:(Unit)⊕(Qaq×Bool))=>sel e (fun e=>Qob Γ rv n profile from_ to_) (fun e=>e=rv)) ?_ h hD
 clear h hD s e
 intro v z_ h hI hE
 replace h:QgH n profile from_ to_ v=_:=h
 unfold QgH at h
 rcases Qah h with ⟨h0,h⟩|⟨h0,h⟩
 ·obtain ⟨x0,h1,h⟩:=Qae h
  obtain ⟨r,h2,h⟩:=Qae h
  rcases Qah h with ⟨h3,h⟩|⟨h3,h⟩
  ·obtain rfl:=(hE _ (oJ h):_=rv)
   exact gr 14 [] [bT h0,cE Qaq.enc h1,hH (.draw 4 []),cC (Qp9 h2),bT h3]
  ·exact gn 16 [8,10,18,19,20] [0,1] [bT h0,cE Qaq.enc h1,hH (.draw 4 []),cC (Qp9 h2),bF h3] (hI _ (oJ h))
 ·exact gn 5 [8] [0] [bF h0] (hE _ (oJ h))
theorem Qrb {n profile from_ to_} {rv:Qaq×Bool} (h:Qmz n profile from_ to_=some rv):AFn Tryz.prog 180 [.agg (Qak.enc n),.one (lI profile),.one (lI from_),.one (lI to_)] [] (.tup [.agg [lI rv.1.from_,lI rv.1.to_,lI rv.1.profile,lI rv.1.miles,lL 2 rv.1.travel Qam.enc,lL 2 rv.1.slow Qam.enc],.one (.bool rv.2)]) []:=by
 refine QaK Tryz.func180 (by kernel_rfl) (by kernel_rfl) (fun Γ=>?_)
 unfold Qmz at h
 obtain ⟨e0,h4,h⟩:=Qae h
 refine gn 9 [8,10,18,19,20] [1,2] [nL Qaq.enc n.arcs] (Qsp Γ rv h4 ?_)
 rcases e0 with e0|e0
 ·replace h:(some ((Qaq.mk 0 0 0 0 [] []),false):Option (Qaq×Bool))=some _:=h
  obtain rfl:=Option.some.inj h
  exact gr 2 [] [hW 5,hH (.nilB 0 4 2),hH (.nilB 0 5 2)]
 ·obtain ⟨r1,rfl⟩:∃ x,x=e0:=⟨_,rfl⟩
  replace h:(some r1:Option (Qaq×Bool))=some _:=h
  exact Option.some.inj h
theorem Qhq {n least most} {rv:Bool} (h:Qf8 n least most=some rv):AFn Tryz.prog 190 [.one (lI n),.one (lI least),.one (lI most)] [] (one (.bool rv)) []:=by
 refine QaK Tryz.func190 (by kernel_rfl) (by kernel_rfl) (fun Γ=>?_)
 unfold Qf8 at h
 obtain rfl:=Option.some.inj h
 exact gr 4 [] [rp 4 hP,rp 2 (oI ((geI n least)=true)),oR True ((geI n least)=true)]
theorem Qt5 {i} {rv:ByteArray} (h:Qqo i=some rv):AFn Tryz.prog 204 [.one (lI i)] [] (one (.str rv)) []:=by
 refine QaK Tryz.func204 (by kernel_rfl) (by kernel_rfl) (fun Γ=>?_)
 unfold Qqo at h
 rcases Qah h with ⟨h0,h⟩|⟨h0,h⟩
 ·obtain ⟨s0,h1,h⟩:=Qae h
  obtain rfl:=Option.some.inj h
  exact gr 8 [] [bT h0,oO (ss1 h1),oO (ss2 h1),oO (ss3 h1)]
 ·obtain ⟨s1,h2,h⟩:=Qae h
  obtain rfl:=Option.some.inj h
  exact gr 9 [] [bF h0,oO (ss1 h2),oO (ss2 h2),oO (ss3 h2)]
end Go.Proofs.YtpkkaboonnedfaaGreatDoor
