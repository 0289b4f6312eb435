/- Part MU of the proof: texts Y0. -/
import Derived.Test.YtpkkaboonnedfaaGreatDoorMT
import Derived.Test.YtpkkaboonnedfaaGreatDoorMC
import Derived.Test.YtpkkaboonnedfaaGreatDoorMI
import Derived.Test.YtpkkaboonnedfaaGreatDoorProg
namespace Go.Proofs.YtpkkaboonnedfaaGreatDoor
set_option linter.unusedVariables false
set_option linter.unusedSectionVars false
set_option linter.unusedSimpArgs false
set_option maxHeartbeats 4000000
set_option maxRecDepth 100000
def Qkc (Γ:Gam) (rv:List Qab) (cf:Cf):Prop:=Go Tryz.prog Tryz.f57 [] Γ (one (lL 2 rv Qab.enc)) [] cf
def Qh2 (Γ:Gam) (rv:List Qab) (word:ByteArray) (l:List Qab) (l1:List Qab) (i:Int):Prop:=Qkc Γ rv ⟨[.c 116,.l 116,.b 0,.c 15],⟨40,[vS 0 word,vL 1 2 l Qab.enc,vO 5 0 2 l1 Qab.enc,vI 6 i],[oS 2 146 l1 Qab.enc]⟩⟩
def QhB (Γ:Gam) (rv:List Qab) (word:ByteArray) (l:List Qab) (l2:List Qab):Prop:=Qkc Γ rv ⟨[.c 15],⟨40,[vO 5 0 2 l2 Qab.enc],[oS 2 146 l2 Qab.enc]⟩⟩
theorem Qk0 (Γ:Gam) (rv:List Qab) {word l l1 i at_} {x:(List Qab×Int)⊕(List Qab)} (h:QfH word l l1 i at_=some x) (hI:∀ s:List Qab×Int,x=.inl s→Qh2 Γ rv word l s.1 s.2) (hE:∀ e:List Qab,x=.inr e→QhB Γ rv word l e):Qkc Γ rv ⟨[.c 3731,.b 1,.c 467,.l 116,.b 0,.c 15],⟨40,[vS 0 word,vL 1 2 l Qab.enc,vO 5 0 2 l1 Qab.enc,vI 6 i,vS 7 at_],[oS 2 146 l1 Qab.enc]⟩⟩:=by
 unfold QfH at h
 obtain ⟨x1,h5,h⟩:=Qae h
 obtain ⟨h6,h⟩:=Qau h
 exact gn 4 [0,1,5,6] [2] [cE Qab.enc h5,oO (Eq.refl ([(Qab.mk x1.err at_)].map Qab.enc).length),aO Qab.enc h6] (hI _ (oJ h))
theorem QqN (Γ:Gam) (rv:List Qab) {word l} {s:List Qab×Int} {e:List Qab} (h:loopF (fun s=>Qet word l s.1 s.2) s=some e) (hD:QhB Γ rv word l e):Qh2 Γ rv word l s.1 s.2:=by
 refine QaB (C:=fun (s:List Qab×Int)=>Qh2 Γ rv word l s.1 s.2) (D:=fun (e:List Qab)=>QhB Γ rv word l e) ?_ h hD
 clear h hD s e
 rintro ⟨l1,i⟩ z_ h hI hE
 replace h:Qet word l l1 i=_:=h
 unfold Qet at h
 rcases Qah h with ⟨h0,h⟩|⟨h0,h⟩
 ·obtain ⟨x0,h1,h⟩:=Qae h
  rcases Qah h with ⟨h2,h⟩|⟨h2,h⟩
  ·exact gn 14 [0,1,5,6,7] [0] [nL Qab.enc l,bT h0,cE Qab.enc h1,nF h2] (Qk0 Γ rv h hI hE)
  ·obtain ⟨h3,h⟩:=Qau h
   obtain ⟨h4,h⟩:=Qau h
   exact gn 14 [0,1,5,6,7] [0] [nL Qab.enc l,bT h0,cE Qab.enc h1,nT h2,oO (h3),cE Qab.enc h1,oO (h4)] (Qk0 Γ rv h hI hE)
 ·exact gn 5 [5] [0] [nL Qab.enc l,bF h0] (hE _ (oJ h))
theorem Qjn {word l} {rv:List Qab} (h:Qgd word l=some rv):AFn Tryz.prog 57 [.one (.str word),.one (lL 2 l Qab.enc)] [] (one (lL 2 rv Qab.enc)) []:=by
 refine QaL Tryz.func57 (by kernel_rfl) (by kernel_rfl) (fun Γ=>?_)
 unfold Qgd at h
 obtain ⟨e0,h7,h⟩:=Qae h
 refine gn 9 [0,1,5,6] [0] [hW 12,hH (.adopt 5 2 146)] (QqN Γ rv h7 ?_)
 obtain ⟨l2,rfl⟩:∃ x,x=e0:=⟨_,rfl⟩
 replace h:(some l2:Option (List Qab))=some _:=h
 obtain rfl:=Option.some.inj h
 exact gr 2 [] [hW 4,hH (.frz 0),rp 3 (eL l2 Qab.enc)]
def Qix (Γ:Gam) (rv:ByteArray) (cf:Cf):Prop:=Go Tryz.prog Tryz.f91 [] Γ (one (.str rv)) [] cf
def Qg4 (Γ:Gam) (rv:ByteArray) (n:Int) (s0:ByteArray) (left:Int) (again:Bool):Prop:=Qix Γ rv ⟨[.c 244,.l 244,.b 0,.c 31],⟨31,[vI 0 n,vS 3 s0,vI 4 left,vB 5 again],[]⟩⟩
def Qgr (Γ:Gam) (rv:ByteArray) (n:Int) (s1:ByteArray):Prop:=Qix Γ rv ⟨[.c 31],⟨31,[vI 0 n,vS 3 s1],[]⟩⟩
theorem Qje (Γ:Gam) (rv:ByteArray) {n s0 left d} {x:(ByteArray×Int×Bool)⊕(ByteArray)} (h:Qdz n s0 left d=some x) (hI:∀ s:ByteArray×Int×Bool,x=.inl s→Qg4 Γ rv n s.1 s.2.1 s.2.2) (hE:∀ e:ByteArray,x=.inr e→Qgr Γ rv n e):Qix Γ rv ⟨[.c 7827,.b 1,.c 979,.l 244,.b 0,.c 31],⟨31,[vI 0 n,vS 3 s0,vI 4 left,vI 6 d],[]⟩⟩:=by
 unfold Qdz at h
 obtain ⟨h2,h⟩:=Qau h
 exact gn 6 [0,3,4,5] [] [hH (.ints [(cvK .u8 (addK .i64 48 d))]),oO (Eq.refl ([(cvK .u8 (addK .i64 48 d))].map e_u8).length),oO (Eq.refl (([(cvK .u8 (addK .i64 48 d))].map e_u8):List (List Lf))),oO (h2),oO (oA (n:=10))] (hI _ (oJ h))
theorem Qpj (Γ:Gam) (rv:ByteArray) {n} {s:ByteArray×Int×Bool} {e:ByteArray} (h:loopF (fun s=>QfZ n s.1 s.2.1 s.2.2) s=some e) (hD:Qgr Γ rv n e):Qg4 Γ rv n s.1 s.2.1 s.2.2:=by
 refine QaB (C:=fun (s:ByteArray×Int×Bool)=>Qg4 Γ rv n s.1 s.2.1 s.2.2) (D:=fun (e:ByteArray)=>Qgr Γ rv n e) ?_ h hD
 clear h hD s e
 rintro ⟨s0,left,again⟩ z_ h hI hE
 replace h:QfZ n s0 left again=_:=h
 unfold QfZ at h
 rcases Qah h with ⟨h0,h⟩|⟨h0,h⟩
 ·rcases Qah h with ⟨h1,h⟩|⟨h1,h⟩
  ·exact gn 14 [0,3,4,6] [] [bT h0,oO (oA (n:=10)),bT h1] (Qje Γ rv h hI hE)
  ·exact gn 14 [0,3,4,6] [] [bT h0,oO (oA (n:=10)),bF h1] (Qje Γ rv h hI hE)
 ·exact gn 5 [0,3] [] [bF h0] (hE _ (oJ h))
theorem QbU {n} {rv:ByteArray} (h:QbX n=some rv):AFn Tryz.prog 91 [.one (lI n)] [] (one (.str rv)) []:=by
 refine QaL Tryz.func91 (by kernel_rfl) (by kernel_rfl) (fun Γ=>?_)
 unfold QbX at h
 obtain ⟨e0,h3,h⟩:=Qae h
 refine gn 11 [0,3,4,5] [] [] (Qpj Γ rv h3 ?_)
 obtain ⟨s1,rfl⟩:∃ x,x=e0:=⟨_,rfl⟩
 replace h:(br (ltI n 0) (chk (Qv1.size+s1.size≤9223372036854775807) (some (catS Qv1 s1))) (some s1):Option ByteArray)=some _:=h
 rcases Qah h with ⟨h4,h⟩|⟨h4,h⟩
 ·obtain ⟨h5,h⟩:=Qau h
  obtain rfl:=Option.some.inj h
  exact gr 6 [] [bT h4,oO (h5)]
 ·obtain rfl:=Option.some.inj h
  exact gr 7 [] [bF h4]
theorem Qha {c} {rv:Bool} (h:Qjf c=some rv):AFn Tryz.prog 148 [.one (.int .u8 c)] [] (one (.bool rv)) []:=by
 refine QaL Tryz.func148 (by kernel_rfl) (by kernel_rfl) (fun Γ=>?_)
 unfold Qjf at h
 obtain rfl:=Option.some.inj h
 exact gr 4 [] [hP,hP,hP,oI ((geI c 48)=true),oR True ((geI c 48)=true)]
theorem Qiy {c} {rv:Bool} (h:Qly c=some rv):AFn Tryz.prog 149 [.one (.int .u8 c)] [] (one (.bool rv)) []:=by
 refine QaL Tryz.func149 (by kernel_rfl) (by kernel_rfl) (fun Γ=>?_)
 unfold Qly at h
 obtain rfl:=Option.some.inj h
 exact gr 4 [] [rp 14 hP,oI ((geI c 97)=true),oR True ((geI c 97)=true),rp 2 (oI (((geI c 97)&&(leI c 122))=false)),oI ((((geI c 97)&&(leI c 122))=false)∧(geI c 65)=true),oI (((geI c 97)&&(leI c 122))=false),oI ((((geI c 97)&&(leI c 122))=false)∧(geI c 65)=true),oR True (((geI c 97)&&(leI c 122))=false),oI ((((geI c 97)&&(leI c 122))||((geI c 65)&&(leI c 90)))=false),oR True ((((geI c 97)&&(leI c 122))||((geI c 65)&&(leI c 90)))=false)]
def QpD (Γ:Gam) (rv:Bool) (cf:Cf):Prop:=Go Tryz.prog Tryz.f119 [] Γ (one (.bool rv)) [] cf
def QmU (Γ:Gam) (rv:Bool) (s0:ByteArray) (b:UInt8) (i:Int):Prop:=QpD Γ rv ⟨[.c 116,.l 116,.b 0,.c 15],⟨35,[vS 0 s0,vI 3 i],[]⟩⟩
def QlQ (Γ:Gam) (rv:Bool) (s0:ByteArray) (b:UInt8):Prop:=QpD Γ rv ⟨[.c 15],⟨35,[],[]⟩⟩
theorem Qrx (Γ:Gam) (rv:Bool) {s0 b} {s:Int} {e:(Unit)⊕(Bool)} (h:loopF (fun s=>QeT s0 b s) s=some e) (hD:sel e (fun e=>QlQ Γ rv s0 b) (fun e=>e=rv)):QmU Γ rv s0 b s:=by
 refine QaB (C:=fun (s:Int)=>QmU Γ rv s0 b s) (D:=fun (e:(Unit)⊕(Bool))=>sel e (fun e=>QlQ Γ rv s0 b) (fun e=>e=rv)) ?_ h hD
 clear h hD s e
 intro i z_ h hI hE
 replace h:QeT s0 b i=_:=h
 unfold QeT at h
 rcases Qah h with ⟨h4,h⟩|⟨h4,h⟩
 ·obtain ⟨b1,h5,h⟩:=Qae h
  obtain ⟨r1,h6,h⟩:=Qae h
  rcases Qah h with ⟨h7,h⟩|⟨h7,h⟩
  ·exact gn 14 [0,3] [] [bT h4,yE h5,cC (Qiy h6),rp 6 (nF h7),fF] (hI _ (oJ h))
  ·obtain ⟨r2,h8,h⟩:=Qae h
   rcases Qah h with ⟨h9,h⟩|⟨h9,h⟩
   ·exact gn 14 [0,3] [] [bT h4,yE h5,cC (Qiy h6),rp 3 (nT h7),yE h5,nT h7,cC (Qha h8),nT h7,nT h7,nF h9] (hI _ (oJ h))
   ·obtain rfl:=(hE _ (oJ h):_=rv)
    exact gr 12 [] [bT h4,yE h5,cC (Qiy h6),rp 3 (nT h7),yE h5,nT h7,cC (Qha h8),nT h7,nT h7,nT h9]
 ·exact gn 5 [] [] [bF h4] (hE _ (oJ h))
theorem QeU {s0} {rv:Bool} (h:QfQ s0=some rv):AFn Tryz.prog 119 [.one (.str s0)] [] (one (.bool rv)) []:=by
 refine QaL Tryz.func119 (by kernel_rfl) (by kernel_rfl) (fun Γ=>?_)
 unfold QfQ at h
 rcases Qah h with ⟨h0,h⟩|⟨h0,h⟩
 ·obtain rfl:=Option.some.inj h
  exact gr 8 [] [rp 4 hP,rp 2 (oI ((ltI (sizeS s0) 1)=false)),oR True ((ltI (sizeS s0) 1)=false),rp 4 (bT h0),tT]
 ·obtain ⟨b,h1,h⟩:=Qae h
  obtain ⟨r,h2,h⟩:=Qae h
  rcases Qah h with ⟨h3,h⟩|⟨h3,h⟩
  ·obtain rfl:=Option.some.inj h
   exact gr 8 [] [rp 4 hP,rp 2 (oI ((ltI (sizeS s0) 1)=false)),oR True ((ltI (sizeS s0) 1)=false),bF h0,bF h0,yE h1,bF h0,cC (Qha h2),bF h0,bT h3]
  ·obtain ⟨e0,h10,h⟩:=Qae h
   refine gn 12 [0,3] [] [rp 4 hP,rp 2 (oI ((ltI (sizeS s0) 1)=false)),oR True ((ltI (sizeS s0) 1)=false),bF h0,bF h0,yE h1,bF h0,cC (Qha h2),bF h0,bF h3] (Qrx Γ rv h10 ?_)
   rcases e0 with e0|e0
   ·replace h:(some true:Option Bool)=some _:=h
    obtain rfl:=Option.some.inj h
    exact gr 2 [] []
   ·obtain ⟨r3,rfl⟩:∃ x,x=e0:=⟨_,rfl⟩
    replace h:(some r3:Option Bool)=some _:=h
    exact Option.some.inj h
def QhO (Γ:Gam) (rv:List Qab) (cf:Cf):Prop:=Go Tryz.prog Tryz.f120 [] Γ (one (lL 2 rv Qab.enc)) [] cf
def Qh0 (Γ:Gam) (rv:List Qab) (l:List Qao) (l2:List Qab) (i:Int):Prop:=QhO Γ rv ⟨[.c 244,.l 244,.b 0,.c 31],⟨88,[vL 0 2 l Qao.enc,vO 3 0 2 l2 Qab.enc,vI 4 i],[oS 2 146 l2 Qab.enc]⟩⟩
def Qhs (Γ:Gam) (rv:List Qab) (l:List Qao) (l4:List Qab):Prop:=QhO Γ rv ⟨[.c 31],⟨88,[vO 3 0 2 l4 Qab.enc],[oS 2 146 l4 Qab.enc]⟩⟩
theorem Qku (Γ:Gam) (rv:List Qab) {l i x0 l3} {x:(List Qab×Int)⊕(List Qab)} (h:Qee l i x0 l3=some x) (hI:∀ s:List Qab×Int,x=.inl s→Qh0 Γ rv l s.1 s.2) (hE:∀ e:List Qab,x=.inr e→Qhs Γ rv l e):QhO Γ rv ⟨[.c 7827,.b 1,.c 979,.l 244,.b 0,.c 31],⟨88,[vL 0 2 l Qao.enc,vO 3 0 2 l3 Qab.enc,vI 4 i,vP 5 1 2],[oS 2 146 l3 Qab.enc,oX 2 119 (Qao.enc x0)]⟩⟩:=by
 unfold Qee at h
 rcases Qah h with ⟨h7,h⟩|⟨h7,h⟩
 ·obtain ⟨x1,h8,h⟩:=Qae h
  rcases Qah h with ⟨h9,h⟩|⟨h9,h⟩
  ·obtain ⟨r1,h10,h⟩:=Qae h
   obtain ⟨h11,h⟩:=Qau h
   exact gn 7 [0,3,4] [3] [hH (.draw 24 []),rp 6 (bT h7),cE Qao.enc h8,rp 4 (bT h7),rp 9 (bT h9),bT h7,bT h9,bT h7,tT,cC (QbU h10),oO (Eq.refl ([(Qab.mk 13 r1)].map Qab.enc).length),aO Qab.enc h11] (hI _ (oJ h))
  ·rcases Qah h with ⟨h12,h⟩|⟨h12,h⟩
   ·obtain ⟨r2,h13,h⟩:=Qae h
    obtain ⟨h14,h⟩:=Qau h
    exact gn 7 [0,3,4] [3] [hH (.draw 24 []),rp 6 (bT h7),cE Qao.enc h8,rp 4 (bT h7),rp 6 (bF h9),cE Qao.enc h8,rp 3 (bF h9),bT h7,bF h9,bT h7,bT h12,cC (QbU h13),oO (Eq.refl ([(Qab.mk 13 r2)].map Qab.enc).length),aO Qab.enc h14] (hI _ (oJ h))
   ·exact gn 7 [0,3,4] [0] [hH (.draw 24 []),rp 6 (bT h7),cE Qao.enc h8,rp 4 (bT h7),rp 6 (bF h9),cE Qao.enc h8,rp 3 (bF h9),bT h7,bF h9,bT h7,bF h12] (hI _ (oJ h))
 ·exact gn 7 [0,3,4] [0] [hH (.draw 24 []),rp 10 (bF h7),rp 9 kF,bF h7,bF h7,fF] (hI _ (oJ h))
theorem QqE (Γ:Gam) (rv:List Qab) {l} {s:List Qab×Int} {e:List Qab} (h:loopF (fun s=>Qdu l s.1 s.2) s=some e) (hD:Qhs Γ rv l e):Qh0 Γ rv l s.1 s.2:=by
 refine QaB (C:=fun (s:List Qab×Int)=>Qh0 Γ rv l s.1 s.2) (D:=fun (e:List Qab)=>Qhs Γ rv l e) ?_ h hD
 clear h hD s e
 rintro ⟨l2,i⟩ z_ h hI hE
 replace h:Qdu l l2 i=_:=h
 unfold Qdu at h
 rcases Qah h with ⟨h2,h⟩|⟨h2,h⟩
 ·obtain ⟨x0,h3,h⟩:=Qae h
  rcases Qah h with ⟨h4,h⟩|⟨h4,h⟩
  ·obtain ⟨r,h5,h⟩:=Qae h
   obtain ⟨h6,h⟩:=Qau h
   exact gn 14 [0,3,4,5] [3,1] [nL Qao.enc l,bT h2,cE Qao.enc h3,rp 17 hP,rp 2 (oI ((ltI x0.t 0)=false)),oR True ((ltI x0.t 0)=false),rp 4 (oI (((ltI x0.t 0)||(gtI x0.t 4096))=false)),oR True (((ltI x0.t 0)||(gtI x0.t 4096))=false),rp 5 (oI ((((ltI x0.t 0)||(gtI x0.t 4096))||(ltI x0.a x0.t))=false)),oR True ((((ltI x0.t 0)||(gtI x0.t 4096))||(ltI x0.a x0.t))=false),bT h4,cC (QbU h5),oO (Eq.refl ([(Qab.mk 2 r)].map Qab.enc).length),aO Qab.enc h6] (Qku Γ rv h hI hE)
  ·exact gn 14 [0,3,4,5] [0,1] [nL Qao.enc l,bT h2,cE Qao.enc h3,rp 17 hP,rp 2 (oI ((ltI x0.t 0)=false)),oR True ((ltI x0.t 0)=false),rp 4 (oI (((ltI x0.t 0)||(gtI x0.t 4096))=false)),oR True (((ltI x0.t 0)||(gtI x0.t 4096))=false),rp 5 (oI ((((ltI x0.t 0)||(gtI x0.t 4096))||(ltI x0.a x0.t))=false)),oR True ((((ltI x0.t 0)||(gtI x0.t 4096))||(ltI x0.a x0.t))=false),bF h4] (Qku Γ rv h hI hE)
 ·exact gn 5 [3] [0] [nL Qao.enc l,bF h2] (hE _ (oJ h))
theorem Qkt (Γ:Gam) (rv:List Qab) {l l1} (h:QfA l l1=some rv):QhO Γ rv ⟨[.c 15],⟨88,[vL 0 2 l Qao.enc,vO 3 0 2 l1 Qab.enc],[oS 2 146 l1 Qab.enc]⟩⟩:=by
 unfold QfA at h
 obtain ⟨e0,h15,h⟩:=Qae h
 refine gn 5 [0,3,4] [0] [] (QqE Γ rv h15 ?_)
 obtain ⟨l4,rfl⟩:∃ x,x=e0:=⟨_,rfl⟩
 replace h:(some l4:Option (List Qab))=some _:=h
 obtain rfl:=Option.some.inj h
 exact gr 2 [] [hW 4,hH (.frz 0),rp 3 (eL l4 Qab.enc)]
theorem Qjh {l} {rv:List Qab} (h:Qfa l=some rv):AFn Tryz.prog 120 [.one (lL 2 l Qao.enc)] [] (one (lL 2 rv Qab.enc)) []:=by
 refine QaL Tryz.func120 (by kernel_rfl) (by kernel_rfl) (fun Γ=>?_)
 unfold Qfa at h
 rcases Qah h with ⟨h0,h⟩|⟨h0,h⟩
 ·obtain ⟨h1,h⟩:=Qau h
  exact gn 9 [0,3] [1] [nL Qao.enc l,hP,hP,oI ((ltI (lenI l) 1)=false),nL Qao.enc l,hP,hP,oI ((ltI (lenI l) 1)=false),oR True ((ltI (lenI l) 1)=false),bT h0,oO (Eq.refl ([(Qab.mk 4 ByteArray.empty)].map Qab.enc).length),aN (l:=([(Qab.mk 4 ByteArray.empty)]:List Qab)) Qab.enc h1] (Qkt Γ rv h)
 ·exact gn 9 [0,3] [0] [nL Qao.enc l,hP,hP,oI ((ltI (lenI l) 1)=false),nL Qao.enc l,hP,hP,oI ((ltI (lenI l) 1)=false),oR True ((ltI (lenI l) 1)=false),bF h0,hW 1,hH (.adopt 3 2 146)] (Qkt Γ rv h)
theorem QcS {t} {rv:Bool} (h:QgW t=some rv):AFn Tryz.prog 121 [.one (lI t)] [] (one (.bool rv)) []:=by
 refine QaL Tryz.func121 (by kernel_rfl) (by kernel_rfl) (fun Γ=>?_)
 unfold QgW at h
 obtain rfl:=Option.some.inj h
 exact gr 4 [] [hP,hP,hP,oI ((geI t 0)=true),oR True ((geI t 0)=true)]
def QbC (Γ:Gam) (rv:List Qab) (cf:Cf):Prop:=Go Tryz.prog Tryz.f88 [] Γ (one (lL 2 rv Qab.enc)) [] cf
def Qji (Γ:Gam) (rv:List Qab) (n:Qal) (i:Int) (r:ByteArray) (x0:Qas) (l:List Qab) (l1:List Qab) (twice:Bool) (k:Int):Prop:=QbC Γ rv ⟨[.c 4084,.l 4084,.b 0,.c 511],⟨192,[vI 1 i,vP 2 0 2,vO 5 1 2 l1 Qab.enc,vS 6 (catS QaX r),vP 7 2 6,vB 8 twice,vI 9 k],[oX 2 25 (Qal.enc n),oS 2 146 l1 Qab.enc,oX 6 122 (Qas.enc x0)]⟩⟩
def QiT (Γ:Gam) (rv:List Qab) (n:Qal) (i:Int) (r:ByteArray) (x0:Qas) (l:List Qab) (l1:List Qab) (twice1:Bool):Prop:=QbC Γ rv ⟨[.c 511],⟨192,[vO 5 0 2 l1 Qab.enc,vS 6 (catS QaX r),vP 7 1 6,vB 8 twice1],[oS 2 146 l1 Qab.enc,oX 6 122 (Qas.enc x0)]⟩⟩
def Qjj (Γ:Gam) (rv:List Qab) (r:ByteArray) (x0:Qas) (l:List Qab) (r1:List Qab) (l3:List Qab) (k1:Int):Prop:=QbC Γ rv ⟨[.c 32756,.l 32756,.b 2,.c 4095],⟨192,[vO 5 0 2 l3 Qab.enc,vS 6 (catS QaX r),vP 7 1 6,vL 11 2 r1 Qab.enc,vI 12 k1],[oS 2 146 l3 Qab.enc,oX 6 122 (Qas.enc x0)]⟩⟩
def QiU (Γ:Gam) (rv:List Qab) (r:ByteArray) (x0:Qas) (l:List Qab) (r1:List Qab) (l4:List Qab):Prop:=QbC Γ rv ⟨[.c 4095],⟨192,[vO 5 0 2 l4 Qab.enc,vS 6 (catS QaX r),vP 7 1 6],[oS 2 146 l4 Qab.enc,oX 6 122 (Qas.enc x0)]⟩⟩
def Qjk (Γ:Gam) (rv:List Qab) (r:ByteArray) (x0:Qas) (l:List Qab) (l6:List Qab) (k2:Int):Prop:=QbC Γ rv ⟨[.c 131060,.l 131060,.b 4,.c 16383],⟨192,[vO 5 0 2 l6 Qab.enc,vS 6 (catS QaX r),vP 7 1 6,vI 13 k2],[oS 2 146 l6 Qab.enc,oX 6 122 (Qas.enc x0)]⟩⟩
def QiV (Γ:Gam) (rv:List Qab) (r:ByteArray) (x0:Qas) (l:List Qab) (l7:List Qab):Prop:=QbC Γ rv ⟨[.c 16383],⟨192,[vO 5 0 2 l7 Qab.enc],[oS 2 146 l7 Qab.enc]⟩⟩
theorem QoF (Γ:Gam) (rv:List Qab) {n i r x0 l l1} {s:Bool×Int} {e:Bool} (h:loopF (fun s=>Qb8 n i r x0 l l1 s.1 s.2) s=some e) (hD:QiT Γ rv n i r x0 l l1 e):Qji Γ rv n i r x0 l l1 s.1 s.2:=by
 refine QaB (C:=fun (s:Bool×Int)=>Qji Γ rv n i r x0 l l1 s.1 s.2) (D:=fun (e:Bool)=>QiT Γ rv n i r x0 l l1 e) ?_ h hD
 clear h hD s e
 rintro ⟨twice,k⟩ z_ h hI hE
 replace h:Qb8 n i r x0 l l1 twice k=_:=h
 unfold Qb8 at h
 rcases Qah h with ⟨h7,h⟩|⟨h7,h⟩
 ·obtain ⟨x1,h8,h⟩:=Qae h
  exact gn 13 [1,2,5,6,7,8,9] [0,1,2] [bT h7,cE Qas.enc h8,rp 22 hP,rp 5 (oI (twice=false)),rp 4 (oI ((twice=false)∧(eqI x0.from_ x1.from_)=true)),oI (twice=false),oI ((twice=false)∧(eqI x0.from_ x1.from_)=true),oI (twice=false),rp 4 (oI ((twice=false)∧((eqI x0.from_ x1.from_)&&(eqI x0.to_ x1.to_))=true)),oI (twice=false),oI ((twice=false)∧((eqI x0.from_ x1.from_)&&(eqI x0.to_ x1.to_))=true),oR True (twice=false)] (hI _ (oJ h))
 ·exact gn 5 [5,6,7,8] [1,2] [bF h7] (hE _ (oJ h))
theorem QoG (Γ:Gam) (rv:List Qab) {r x0 l r1} {s:List Qab×Int} {e:List Qab} (h:loopF (fun s=>Qb9 r x0 l r1 s.1 s.2) s=some e) (hD:QiU Γ rv r x0 l r1 e):Qjj Γ rv r x0 l r1 s.1 s.2:=by
 refine QaB (C:=fun (s:List Qab×Int)=>Qjj Γ rv r x0 l r1 s.1 s.2) (D:=fun (e:List Qab)=>QiU Γ rv r x0 l r1 e) ?_ h hD
 clear h hD s e
 rintro ⟨l3,k1⟩ z_ h hI hE
 replace h:Qb9 r x0 l r1 l3 k1=_:=h
 unfold Qb9 at h
 rcases Qah h with ⟨h13,h⟩|⟨h13,h⟩
 ·obtain ⟨x2,h14,h⟩:=Qae h
  obtain ⟨h15,h⟩:=Qau h
  exact gn 11 [5,6,7,11,12] [3,1] [nL Qab.enc r1,bT h13,cE Qab.enc h14,oO (Eq.refl ([(Qab.mk x2.err (catS QaX r))].map Qab.enc).length),aO Qab.enc h15] (hI _ (oJ h))
 ·exact gn 5 [5,6,7] [0,1] [nL Qab.enc r1,bF h13] (hE _ (oJ h))
theorem QoH (Γ:Gam) (rv:List Qab) {r x0 l} {s:List Qab×Int} {e:List Qab} (h:loopF (fun s=>Qca r x0 l s.1 s.2) s=some e) (hD:QiV Γ rv r x0 l e):Qjk Γ rv r x0 l s.1 s.2:=by
 refine QaB (C:=fun (s:List Qab×Int)=>Qjk Γ rv r x0 l s.1 s.2) (D:=fun (e:List Qab)=>QiV Γ rv r x0 l e) ?_ h hD
 clear h hD s e
 rintro ⟨l6,k2⟩ z_ h hI hE
 replace h:Qca r x0 l l6 k2=_:=h
 unfold Qca at h
 rcases Qah h with ⟨h19,h⟩|⟨h19,h⟩
 ·obtain ⟨x3,h20,h⟩:=Qae h
  obtain ⟨r2,h21,h⟩:=Qae h
  rcases Qah h with ⟨h22,h⟩|⟨h22,h⟩
  ·obtain ⟨r3,h23,h⟩:=Qae h
   rcases Qah h with ⟨h24,h⟩|⟨h24,h⟩
   ·rcases Qah h with ⟨h25,h⟩|⟨h25,h⟩
    ·obtain ⟨x4,h26,h⟩:=Qae h
     rcases Qah h with ⟨h27,h⟩|⟨h27,h⟩
     ·obtain ⟨h28,h⟩:=Qau h
      exact gn 16 [5,6,7,13] [4,1] [nL Qao.enc x0.slow,bT h19,cE Qao.enc h20,hH (.draw 26 []),cC (QcS h21),rp 3 (nF h22),cC (QcS h23),rp 2 (nF h22),rp 3 (nF h24),rp 7 (bT h25),cE Qao.enc h26,rp 3 (bT h25),nF h24,bT h25,nF h24,bT h27,oO (Eq.refl ([(Qab.mk 2 (catS QaX r))].map Qab.enc).length),aO Qab.enc h28] (hI _ (oJ h))
     ·exact gn 16 [5,6,7,13] [0,1] [nL Qao.enc x0.slow,bT h19,cE Qao.enc h20,hH (.draw 26 []),cC (QcS h21),rp 3 (nF h22),cC (QcS h23),rp 2 (nF h22),rp 3 (nF h24),rp 7 (bT h25),cE Qao.enc h26,rp 3 (bT h25),nF h24,bT h25,nF h24,bF h27] (hI _ (oJ h))
    ·exact gn 16 [5,6,7,13] [0,1] [nL Qao.enc x0.slow,bT h19,cE Qao.enc h20,hH (.draw 26 []),cC (QcS h21),rp 3 (nF h22),cC (QcS h23),rp 2 (nF h22),rp 3 (nF h24),rp 10 (bF h25),nF h24,bF h25,nF h24,fF] (hI _ (oJ h))
   ·obtain ⟨h29,h⟩:=Qau h
    exact gn 16 [5,6,7,13] [4,1] [nL Qao.enc x0.slow,bT h19,cE Qao.enc h20,hH (.draw 26 []),cC (QcS h21),rp 3 (nF h22),cC (QcS h23),rp 2 (nF h22),rp 3 (nT h24),rp 10 kF,rp 2 (nT h24),tT,oO (Eq.refl ([(Qab.mk 2 (catS QaX r))].map Qab.enc).length),aO Qab.enc h29] (hI _ (oJ h))
  ·obtain ⟨h30,h⟩:=Qau h
   exact gn 16 [5,6,7,13] [4,1] [nL Qao.enc x0.slow,bT h19,cE Qao.enc h20,hH (.draw 26 []),cC (QcS h21),rp 5 (nT h22),tT,tT,tT,rp 10 kF,tT,tT,tT,oO (Eq.refl ([(Qab.mk 2 (catS QaX r))].map Qab.enc).length),aO Qab.enc h30] (hI _ (oJ h))
 ·exact gn 5 [5] [0] [nL Qao.enc x0.slow,bF h19] (hE _ (oJ h))
theorem QiS (Γ:Gam) (rv:List Qab) {r x0 l l5} (h:QbJ r x0 l l5=some rv):QbC Γ rv ⟨[.c 8191],⟨192,[vO 5 0 2 l5 Qab.enc,vS 6 (catS QaX r),vP 7 1 6],[oS 2 146 l5 Qab.enc,oX 6 122 (Qas.enc x0)]⟩⟩:=by
 unfold QbJ at h
 obtain ⟨e2,h31,h⟩:=Qae h
 refine gn 5 [5,6,7,13] [0,1] [] (QoH Γ rv h31 ?_)
 obtain ⟨l7,rfl⟩:∃ x,x=e2:=⟨_,rfl⟩
 replace h:(some l7:Option (List Qab))=some _:=h
 obtain rfl:=Option.some.inj h
 exact gr 2 [] [hW 4,hH (.frz 0),rp 3 (eL l7 Qab.enc)]
theorem QiR (Γ:Gam) (rv:List Qab) {r x0 l l2} (h:Qb7 r x0 l l2=some rv):QbC Γ rv ⟨[.c 1023],⟨192,[vO 5 0 2 l2 Qab.enc,vS 6 (catS QaX r),vP 7 1 6],[oS 2 146 l2 Qab.enc,oX 6 122 (Qas.enc x0)]⟩⟩:=by
 unfold Qb7 at h
 obtain ⟨r1,h12,h⟩:=Qae h
 obtain ⟨e1,h16,h⟩:=Qae h
 refine gn 7 [5,6,7,11,12] [0,1] [cC (Qjh h12)] (QoG Γ rv h16 ?_)
 obtain ⟨l4,rfl⟩:∃ x,x=e1:=⟨_,rfl⟩
 replace h:(br (gtI (lenI x0.slow) 16) (chk (okN (l4++[(Qab.mk 4 (catS QaX r))]).length 24) (QbJ r x0 l (l4++[(Qab.mk 4 (catS QaX r))]))) (QbJ r x0 l l4):Option (List Qab))=some _:=h
 rcases Qah h with ⟨h17,h⟩|⟨h17,h⟩
 ·obtain ⟨h18,h⟩:=Qau h
  exact gn 5 [5,6,7] [3,1] [nL Qao.enc x0.slow,bT h17,oO (Eq.refl ([(Qab.mk 4 (catS QaX r))].map Qab.enc).length),aO Qab.enc h18] (QiS Γ rv h)
 ·exact gn 5 [5,6,7] [0,1] [nL Qao.enc x0.slow,bF h17] (QiS Γ rv h)
theorem QiQ (Γ:Gam) (rv:List Qab) {n i r x0 l l1} (h:Qdm n i r x0 l l1=some rv):QbC Γ rv ⟨[.c 127],⟨192,[vI 1 i,vP 2 0 2,vO 5 1 2 l1 Qab.enc,vS 6 (catS QaX r),vP 7 2 6],[oX 2 25 (Qal.enc n),oS 2 146 l1 Qab.enc,oX 6 122 (Qas.enc x0)]⟩⟩:=by
 unfold Qdm at h
 obtain ⟨e0,h9,h⟩:=Qae h
 refine gn 7 [1,2,5,6,7,8,9] [0,1,2] [] (QoF Γ rv h9 ?_)
 obtain ⟨twice1,rfl⟩:∃ x,x=e0:=⟨_,rfl⟩
 replace h:(br twice1 (chk (okN (l1++[(Qab.mk 6 (catS QaX r))]).length 24) (Qb7 r x0 l (l1++[(Qab.mk 6 (catS QaX r))]))) (Qb7 r x0 l l1):Option (List Qab))=some _:=h
 rcases Qah h with ⟨h10,h⟩|⟨h10,h⟩
 ·obtain ⟨h11,h⟩:=Qau h
  exact gn 5 [5,6,7] [3,1] [bT h10,oO (Eq.refl ([(Qab.mk 6 (catS QaX r))].map Qab.enc).length),aO Qab.enc h11] (QiR Γ rv h)
 ·exact gn 5 [5,6,7] [0,1] [bF h10] (QiR Γ rv h)
theorem QiP (Γ:Gam) (rv:List Qab) {n i r x0 l} (h:Qdl n i r x0 l=some rv):QbC Γ rv ⟨[.c 63],⟨192,[vI 1 i,vP 2 0 2,vO 5 1 2 l Qab.enc,vS 6 (catS QaX r),vP 7 2 6],[oX 2 25 (Qal.enc n),oS 2 146 l Qab.enc,oX 6 122 (Qas.enc x0)]⟩⟩:=by
 unfold Qdl at h
 rcases Qah h with ⟨h5,h⟩|⟨h5,h⟩
 ·obtain ⟨h6,h⟩:=Qau h
  exact gn 5 [1,2,5,6,7] [0,4,2] [rp 18 hP,rp 2 (oI ((ltI x0.profile 0)=false)),oR True ((ltI x0.profile 0)=false),rp 2 (oI (((ltI x0.profile 0)||(gtI x0.profile 7))=false)),oR True (((ltI x0.profile 0)||(gtI x0.profile 7))=false),rp 2 (oI ((((ltI x0.profile 0)||(gtI x0.profile 7))||(ltI x0.miles 0))=false)),oR True ((((ltI x0.profile 0)||(gtI x0.profile 7))||(ltI x0.miles 0))=false),rp 4 (oI (((((ltI x0.profile 0)||(gtI x0.profile 7))||(ltI x0.miles 0))||(gtI x0.miles 10000))=false)),oR True (((((ltI x0.profile 0)||(gtI x0.profile 7))||(ltI x0.miles 0))||(gtI x0.miles 10000))=false),bT h5,oO (Eq.refl ([(Qab.mk 2 (catS QaX r))].map Qab.enc).length),aO Qab.enc h6] (QiQ Γ rv h)
 ·exact gn 5 [1,2,5,6,7] [0,1,2] [rp 18 hP,rp 2 (oI ((ltI x0.profile 0)=false)),oR True ((ltI x0.profile 0)=false),rp 2 (oI (((ltI x0.profile 0)||(gtI x0.profile 7))=false)),oR True (((ltI x0.profile 0)||(gtI x0.profile 7))=false),rp 2 (oI ((((ltI x0.profile 0)||(gtI x0.profile 7))||(ltI x0.miles 0))=false)),oR True ((((ltI x0.profile 0)||(gtI x0.profile 7))||(ltI x0.miles 0))=false),rp 4 (oI (((((ltI x0.profile 0)||(gtI x0.profile 7))||(ltI x0.miles 0))||(gtI x0.miles 10000))=false)),oR True (((((ltI x0.profile 0)||(gtI x0.profile 7))||(ltI x0.miles 0))||(gtI x0.miles 10000))=false),bF h5] (QiQ Γ rv h)
theorem QqG {n i} {rv:List Qab} (h:QfC n i=some rv):AFn Tryz.prog 88 [.agg (Qal.enc n),.one (lI i)] [] (one (lL 2 rv Qab.enc)) []:=by
 refine QaL Tryz.func88 (by kernel_rfl) (by kernel_rfl) (fun Γ=>?_)
 unfold QfC at h
 obtain ⟨r,h0,h⟩:=Qae h
 obtain ⟨h1,h⟩:=Qau h
 obtain ⟨x0,h2,h⟩:=Qae h
 rcases Qah h with ⟨h3,h⟩|⟨h3,h⟩
 ·obtain ⟨h4,h⟩:=Qau h
  exact gn 13 [1,2,5,6,7] [0,3,1] [cC (QbU h0),oO (h1),cE Qas.enc h2,rp 5 hP,rp 3 (oI ((ltI x0.from_ 0)=false)),nL e_str n.places,rp 11 hP,rp 2 (oI ((ltI x0.from_ 0)=false)),oR True ((ltI x0.from_ 0)=false),rp 2 (oI (((ltI x0.from_ 0)||(geI x0.from_ (lenI n.places)))=false)),oR True (((ltI x0.from_ 0)||(geI x0.from_ (lenI n.places)))=false),rp 3 (oI ((((ltI x0.from_ 0)||(geI x0.from_ (lenI n.places)))||(ltI x0.to_ 0))=false)),nL e_str n.places,hP,hP,rp 2 (oI ((((ltI x0.from_ 0)||(geI x0.from_ (lenI n.places)))||(ltI x0.to_ 0))=false)),oR True ((((ltI x0.from_ 0)||(geI x0.from_ (lenI n.places)))||(ltI x0.to_ 0))=false),bT h3,oO (Eq.refl ([(Qab.mk 11 (catS QaX r))].map Qab.enc).length),aN (l:=([(Qab.mk 11 (catS QaX r))]:List Qab)) Qab.enc h4] (QiP Γ rv h)
 ·exact gn 13 [1,2,5,6,7] [0,2,1] [cC (QbU h0),oO (h1),cE Qas.enc h2,rp 5 hP,rp 3 (oI ((ltI x0.from_ 0)=false)),nL e_str n.places,rp 11 hP,rp 2 (oI ((ltI x0.from_ 0)=false)),oR True ((ltI x0.from_ 0)=false),rp 2 (oI (((ltI x0.from_ 0)||(geI x0.from_ (lenI n.places)))=false)),oR True (((ltI x0.from_ 0)||(geI x0.from_ (lenI n.places)))=false),rp 3 (oI ((((ltI x0.from_ 0)||(geI x0.from_ (lenI n.places)))||(ltI x0.to_ 0))=false)),nL e_str n.places,hP,hP,rp 2 (oI ((((ltI x0.from_ 0)||(geI x0.from_ (lenI n.places)))||(ltI x0.to_ 0))=false)),oR True ((((ltI x0.from_ 0)||(geI x0.from_ (lenI n.places)))||(ltI x0.to_ 0))=false),bF h3,hW 1,hH (.adopt 5 2 146)] (QiP Γ rv h)
def QcG (Γ:Gam) (rv:List Qab) (cf:Cf):Prop:=Go Tryz.prog Tryz.f87 [] Γ (one (lO 0 2 rv Qab.enc)) [oS 2 146 rv Qab.enc] cf
def Qgn (Γ:Gam) (rv:List Qab) (n:Qal) (l:List Qab) (l1:List Qab) (i:Int) (r:ByteArray) (twice:Bool) (k:Int):Prop:=QcG Γ rv ⟨[.c 250484,.l 250484,.b 2,.c 31311,.b 1,.c 979,.l 244,.b 0,.c 31],⟨64,[vP 1 0 2,vO 3 1 2 l1 Qab.enc,vI 4 i,vS 5 (catS QdE r),vB 6 twice,vI 7 k],[oX 2 25 (Qal.enc n),oS 2 146 l1 Qab.enc]⟩⟩
def Qf9 (Γ:Gam) (rv:List Qab) (n:Qal) (l:List Qab) (l1:List Qab) (i:Int) (r:ByteArray) (twice1:Bool):Prop:=QcG Γ rv ⟨[.c 31311,.b 1,.c 979,.l 244,.b 0,.c 31],⟨64,[vP 1 0 2,vO 3 1 2 l1 Qab.enc,vI 4 i,vS 5 (catS QdE r),vB 6 twice1],[oX 2 25 (Qal.enc n),oS 2 146 l1 Qab.enc]⟩⟩
def Qgm (Γ:Gam) (rv:List Qab) (n:Qal) (l:List Qab) (l1:List Qab) (i:Int):Prop:=QcG Γ rv ⟨[.c 244,.l 244,.b 0,.c 31],⟨64,[vP 1 0 2,vO 3 1 2 l1 Qab.enc,vI 4 i],[oX 2 25 (Qal.enc n),oS 2 146 l1 Qab.enc]⟩⟩
def Qf8 (Γ:Gam) (rv:List Qab) (n:Qal) (l:List Qab) (l2:List Qab):Prop:=QcG Γ rv ⟨[.c 31],⟨64,[vO 3 0 2 l2 Qab.enc],[oS 2 146 l2 Qab.enc]⟩⟩
theorem Qkb (Γ:Gam) (rv:List Qab) {n l l1 i r} {s:Bool×Int} {e:Bool} (h:loopF (fun s=>Qbg n l l1 i r s.1 s.2) s=some e) (hD:Qf9 Γ rv n l l1 i r e):Qgn Γ rv n l l1 i r s.1 s.2:=by
 refine QaB (C:=fun (s:Bool×Int)=>Qgn Γ rv n l l1 i r s.1 s.2) (D:=fun (e:Bool)=>Qf9 Γ rv n l l1 i r e) ?_ h hD
 clear h hD s e
 rintro ⟨twice,k⟩ z_ h hI hE
 replace h:Qbg n l l1 i r twice k=_:=h
 unfold Qbg at h
 rcases Qah h with ⟨h8,h⟩|⟨h8,h⟩
 ·rcases Qah h with ⟨h9,h⟩|⟨h9,h⟩
  ·exact gn 11 [1,3,4,5,6,7] [0,1] [bT h8,hH (.draw 14 []),rp 12 (bT h9)] (hI _ (oJ h))
  ·obtain ⟨x1,h10,h⟩:=Qae h
   obtain ⟨x2,h11,h⟩:=Qae h
   exact gn 11 [1,3,4,5,6,7] [0,1] [bT h8,hH (.draw 14 []),rp 4 (bF h9),cE e_str h10,rp 5 (bF h9),cE e_str h11,rp 3 (bF h9)] (hI _ (oJ h))
 ·exact gn 5 [1,3,4,5,6] [0,1] [bF h8] (hE _ (oJ h))
theorem Qka (Γ:Gam) (rv:List Qab) {n l} {s:List Qab×Int} {e:List Qab} (h:loopF (fun s=>Qbf n l s.1 s.2) s=some e) (hD:Qf8 Γ rv n l e):Qgm Γ rv n l s.1 s.2:=by
 refine QaB (C:=fun (s:List Qab×Int)=>Qgm Γ rv n l s.1 s.2) (D:=fun (e:List Qab)=>Qf8 Γ rv n l e) ?_ h hD
 clear h hD s e
 rintro ⟨l1,i⟩ z_ h hI hE
 replace h:Qbf n l l1 i=_:=h
 unfold Qbf at h
 rcases Qah h with ⟨h2,h⟩|⟨h2,h⟩
 ·obtain ⟨r,h3,h⟩:=Qae h
  obtain ⟨h4,h⟩:=Qau h
  obtain ⟨x0,h5,h⟩:=Qae h
  obtain ⟨r1,h6,h⟩:=Qae h
  rcases Qah h with ⟨h7,h⟩|⟨h7,h⟩
  ·obtain ⟨e0,h12,h⟩:=Qae h
   refine gn 21 [1,3,4,5,6,7] [0,1] [nL e_str n.places,bT h2,cC (QbU h3),oO (h4),cE e_str h5,cC (QeU h6),nF h7] (Qkb Γ rv h12 ?_)
   obtain ⟨twice1,rfl⟩:∃ x,x=e0:=⟨_,rfl⟩
   replace h:(br twice1 (chk (okN (l1++[(Qab.mk 6 (catS QdE r))]).length 24) (some (.inl ((l1++[(Qab.mk 6 (catS QdE r))]),(addK .i64 i 1))))) (some (.inl (l1,(addK .i64 i 1)))):Option ((List Qab×Int)⊕(List Qab)))=some _:=h
   rcases Qah h with ⟨h13,h⟩|⟨h13,h⟩
   ·obtain ⟨h14,h⟩:=Qau h
    exact gn 7 [1,3,4] [0,3] [bT h13,oO (Eq.refl ([(Qab.mk 6 (catS QdE r))].map Qab.enc).length),aO Qab.enc h14] (hI _ (oJ h))
   ·exact gn 7 [1,3,4] [0,1] [bF h13] (hI _ (oJ h))
  ·obtain ⟨h15,h⟩:=Qau h
   exact gn 18 [1,3,4] [0,3] [nL e_str n.places,bT h2,cC (QbU h3),oO (h4),cE e_str h5,cC (QeU h6),nT h7,oO (Eq.refl ([(Qab.mk 5 (catS QdE r))].map Qab.enc).length),aO Qab.enc h15] (hI _ (oJ h))
 ·exact gn 5 [3] [1] [nL e_str n.places,bF h2] (hE _ (oJ h))
theorem Qf7 (Γ:Gam) (rv:List Qab) {n l} (h:Qcr n l=some rv):QcG Γ rv ⟨[.c 15],⟨64,[vP 1 0 2,vO 3 1 2 l Qab.enc],[oX 2 25 (Qal.enc n),oS 2 146 l Qab.enc]⟩⟩:=by
 unfold Qcr at h
 obtain ⟨e1,h16,h⟩:=Qae h
 refine gn 5 [1,3,4] [0,1] [] (Qka Γ rv h16 ?_)
 obtain ⟨l2,rfl⟩:∃ x,x=e1:=⟨_,rfl⟩
 replace h:(some l2:Option (List Qab))=some _:=h
 obtain rfl:=Option.some.inj h
 exact gr 2 [0] []
theorem Qhb {n} {rv:List Qab} (h:Qdg n=some rv):AFn Tryz.prog 87 [.agg (Qal.enc n)] [] (one (lO 0 2 rv Qab.enc)) [oS 2 146 rv Qab.enc]:=by
 refine QaL Tryz.func87 (by kernel_rfl) (by kernel_rfl) (fun Γ=>?_)
 unfold Qdg at h
 rcases Qah h with ⟨h0,h⟩|⟨h0,h⟩
 ·obtain ⟨h1,h⟩:=Qau h
  exact gn 9 [1,3] [0,2] [nL e_str n.places,bT h0,oO (Eq.refl ([(Qab.mk 4 Qlq)].map Qab.enc).length),aN (l:=([(Qab.mk 4 Qlq)]:List Qab)) Qab.enc h1] (Qf7 Γ rv h)
 ·exact gn 9 [1,3] [0,1] [nL e_str n.places,bF h0,hW 1,hH (.adopt 3 2 146)] (Qf7 Γ rv h)
def Qj9 (Γ:Gam) (rv:List Qab) (cf:Cf):Prop:=Go Tryz.prog Tryz.f58 [] Γ (one (lL 2 rv Qab.enc)) [] cf
def QlU (Γ:Gam) (rv:List Qab) (n:Qal) (l:List Qab) (l1:List Qab) (i:Int):Prop:=Qj9 Γ rv ⟨[.c 244,.l 244,.b 0,.c 31],⟨28,[vP 1 0 2,vO 3 1 2 l1 Qab.enc,vI 4 i],[oX 2 25 (Qal.enc n),oS 2 146 l1 Qab.enc]⟩⟩
def Qkx (Γ:Gam) (rv:List Qab) (n:Qal) (l:List Qab) (l2:List Qab):Prop:=Qj9 Γ rv ⟨[.c 31],⟨28,[vO 3 0 2 l2 Qab.enc],[oS 2 146 l2 Qab.enc]⟩⟩
theorem QqF (Γ:Gam) (rv:List Qab) {n l} {s:List Qab×Int} {e:List Qab} (h:loopF (fun s=>Qc7 n l s.1 s.2) s=some e) (hD:Qkx Γ rv n l e):QlU Γ rv n l s.1 s.2:=by
 refine QaB (C:=fun (s:List Qab×Int)=>QlU Γ rv n l s.1 s.2) (D:=fun (e:List Qab)=>Qkx Γ rv n l e) ?_ h hD
 clear h hD s e
 rintro ⟨l1,i⟩ z_ h hI hE
 replace h:Qc7 n l l1 i=_:=h
 unfold Qc7 at h
 rcases Qah h with ⟨h3,h⟩|⟨h3,h⟩
 ·obtain ⟨r1,h4,h⟩:=Qae h
  obtain ⟨h5,h⟩:=Qau h
  exact gn 11 [1,3,4] [0,2] [nL Qas.enc n.arcs,bT h3,cC (QqG h4),aO Qab.enc h5] (hI _ (oJ h))
 ·exact gn 5 [3] [1] [nL Qas.enc n.arcs,bF h3] (hE _ (oJ h))
theorem Qkw (Γ:Gam) (rv:List Qab) {n l} (h:QfB n l=some rv):Qj9 Γ rv ⟨[.c 15],⟨28,[vP 1 0 2,vO 3 1 2 l Qab.enc],[oX 2 25 (Qal.enc n),oS 2 146 l Qab.enc]⟩⟩:=by
 unfold QfB at h
 obtain ⟨e0,h6,h⟩:=Qae h
 refine gn 5 [1,3,4] [0,1] [] (QqF Γ rv h6 ?_)
 obtain ⟨l2,rfl⟩:∃ x,x=e0:=⟨_,rfl⟩
 replace h:(some l2:Option (List Qab))=some _:=h
 obtain rfl:=Option.some.inj h
 exact gr 2 [] [hW 4,hH (.frz 0),rp 3 (eL l2 Qab.enc)]
theorem QsN {n} {rv:List Qab} (h:Qht n=some rv):AFn Tryz.prog 58 [.agg (Qal.enc n)] [] (one (lL 2 rv Qab.enc)) []:=by
 refine QaL Tryz.func58 (by kernel_rfl) (by kernel_rfl) (fun Γ=>?_)
 unfold Qht at h
 obtain ⟨r,h0,h⟩:=Qae h
 rcases Qah h with ⟨h1,h⟩|⟨h1,h⟩
 ·obtain ⟨h2,h⟩:=Qau h
  exact gn 9 [1,3] [0,3] [cC (Qhb h0),nL Qas.enc n.arcs,bT h1,oO (Eq.refl ([(Qab.mk 4 Qrq)].map Qab.enc).length),aO Qab.enc h2] (Qkw Γ rv h)
 ·exact gn 9 [1,3] [0,1] [cC (Qhb h0),nL Qas.enc n.arcs,bF h1] (Qkw Γ rv h)
theorem Qan {n lo hi} {rv:Bool} (h:QaU n lo hi=some rv):AFn Tryz.prog 89 [.one (lI n),.one (lI lo),.one (lI hi)] [] (one (.bool rv)) []:=by
 refine QaL Tryz.func89 (by kernel_rfl) (by kernel_rfl) (fun Γ=>?_)
 unfold QaU at h
 obtain rfl:=Option.some.inj h
 exact gr 4 [] [rp 4 hP,rp 2 (oI ((geI n lo)=true)),oR True ((geI n lo)=true)]
theorem Qgb {l} {rv:Int} (h:QfR l=some rv):AFn Tryz.prog 61 [.one (lL 14 l Qai.enc)] [] (one (lI rv)) []:=by
 refine QaL Tryz.func61 (by kernel_rfl) (by kernel_rfl) (fun Γ=>?_)
 unfold QfR at h
 rcases Qah h with ⟨h0,h⟩|⟨h0,h⟩
 ·obtain rfl:=Option.some.inj h
  exact gr 8 [] [nL Qai.enc l,bT h0]
 ·obtain ⟨x0,h1,h⟩:=Qae h
  obtain rfl:=Option.some.inj h
  exact gr 9 [] [nL Qai.enc l,bF h0,cE Qai.enc h1,nL e_i64 x0.cap]
def QoK (Γ:Gam) (rv:Bool) (cf:Cf):Prop:=Go Tryz.prog Tryz.f122 [] Γ (one (.bool rv)) [] cf
def Ql0 (Γ:Gam) (rv:Bool) (l:List Qai) (at_:Int) (name:ByteArray) (i:Int):Prop:=QoK Γ rv ⟨[.c 52,.l 52,.b 0,.c 7],⟨20,[vL 0 14 l Qai.enc,vI 1 at_,vS 2 name,vI 7 i],[]⟩⟩
def QkB (Γ:Gam) (rv:Bool) (l:List Qai) (at_:Int) (name:ByteArray):Prop:=QoK Γ rv ⟨[.c 7],⟨20,[],[]⟩⟩
theorem QqJ (Γ:Gam) (rv:Bool) {l at_ name} {s:Int} {e:(Unit)⊕(Bool)} (h:loopF (fun s=>Qcs l at_ name s) s=some e) (hD:sel e (fun e=>QkB Γ rv l at_ name) (fun e=>e=rv)):Ql0 Γ rv l at_ name s:=by
 refine QaB (C:=fun (s:Int)=>Ql0 Γ rv l at_ name s) (D:=fun (e:(Unit)⊕(Bool))=>sel e (fun e=>QkB Γ rv l at_ name) (fun e=>e=rv)) ?_ h hD
 clear h hD s e
 intro i z_ h hI hE
 replace h:Qcs l at_ name i=_:=h
 unfold Qcs at h
 rcases Qah h with ⟨h0,h⟩|⟨h0,h⟩
 ·obtain ⟨x0,h1,h⟩:=Qae h
  rcases Qah h with ⟨h2,h⟩|⟨h2,h⟩
  ·obtain rfl:=(hE _ (oJ h):_=rv)
   exact gr 12 [] [bT h0,cE Qai.enc h1,bT h2]
  ·exact gn 14 [0,1,2,7] [] [bT h0,cE Qai.enc h1,bF h2] (hI _ (oJ h))
 ·exact gn 5 [] [] [bF h0] (hE _ (oJ h))
theorem QnQ {l at_ name} {rv:Bool} (h:Qhv l at_ name=some rv):AFn Tryz.prog 122 [.one (lL 14 l Qai.enc),.one (lI at_),.one (.str name)] [] (one (.bool rv)) []:=by
 refine QaL Tryz.func122 (by kernel_rfl) (by kernel_rfl) (fun Γ=>?_)
 unfold Qhv at h
 obtain ⟨e0,h3,h⟩:=Qae h
 refine gn 7 [0,1,2,7] [] [] (QqJ Γ rv h3 ?_)
 rcases e0 with e0|e0
 ·replace h:(some false:Option Bool)=some _:=h
  obtain rfl:=Option.some.inj h
  exact gr 2 [] []
 ·obtain ⟨r,rfl⟩:∃ x,x=e0:=⟨_,rfl⟩
  replace h:(some r:Option Bool)=some _:=h
  exact Option.some.inj h
def QlZ (Γ:Gam) (rv:Bool) (cf:Cf):Prop:=Go Tryz.prog Tryz.f123 [] Γ (one (.bool rv)) [] cf
def Qjl (Γ:Gam) (rv:Bool) (l:List Int) (i:Int):Prop:=QlZ Γ rv ⟨[.c 116,.l 116,.b 0,.c 15],⟨28,[vL 0 1 l e_i64,vI 5 i],[]⟩⟩
def QiW (Γ:Gam) (rv:Bool) (l:List Int):Prop:=QlZ Γ rv ⟨[.c 15],⟨28,[],[]⟩⟩
theorem QoJ (Γ:Gam) (rv:Bool) {l} {s:Int} {e:(Unit)⊕(Bool)} (h:loopF (fun s=>QbK l s) s=some e) (hD:sel e (fun e=>QiW Γ rv l) (fun e=>e=rv)):Qjl Γ rv l s:=by
 refine QaB (C:=fun (s:Int)=>Qjl Γ rv l s) (D:=fun (e:(Unit)⊕(Bool))=>sel e (fun e=>QiW Γ rv l) (fun e=>e=rv)) ?_ h hD
 clear h hD s e
 intro i z_ h hI hE
 replace h:QbK l i=_:=h
 unfold QbK at h
 rcases Qah h with ⟨h2,h⟩|⟨h2,h⟩
 ·obtain ⟨x0,h3,h⟩:=Qae h
  obtain ⟨r1,h4,h⟩:=Qae h
  rcases Qah h with ⟨h5,h⟩|⟨h5,h⟩
  ·exact gn 14 [0,5] [] [nL e_i64 l,bT h2,cE e_i64 h3,cC (Qan h4),nF h5] (hI _ (oJ h))
  ·obtain rfl:=(hE _ (oJ h):_=rv)
   exact gr 12 [] [nL e_i64 l,bT h2,cE e_i64 h3,cC (Qan h4),nT h5]
 ·exact gn 5 [] [] [nL e_i64 l,bF h2] (hE _ (oJ h))
theorem QfE {l dims} {rv:Bool} (h:Qef l dims=some rv):AFn Tryz.prog 123 [.one (lL 1 l e_i64),.one (lI dims)] [] (one (.bool rv)) []:=by
 refine QaL Tryz.func123 (by kernel_rfl) (by kernel_rfl) (fun Γ=>?_)
 unfold Qef at h
 obtain ⟨r,h0,h⟩:=Qae h
 rcases Qah h with ⟨h1,h⟩|⟨h1,h⟩
 ·obtain rfl:=Option.some.inj h
  exact gr 8 [] [nL e_i64 l,cC (Qan h0),hP,hP,oI ((!r)=false),nL e_i64 l,hP,hP,hP,rp 2 (oI ((!r)=false)),oR True ((!r)=false),bT h1]
 ·obtain ⟨e0,h6,h⟩:=Qae h
  refine gn 12 [0,5] [] [nL e_i64 l,cC (Qan h0),hP,hP,oI ((!r)=false),nL e_i64 l,hP,hP,hP,rp 2 (oI ((!r)=false)),oR True ((!r)=false),bF h1] (QoJ Γ rv h6 ?_)
  rcases e0 with e0|e0
  ·replace h:(some true:Option Bool)=some _:=h
   obtain rfl:=Option.some.inj h
   exact gr 2 [] []
  ·obtain ⟨r2,rfl⟩:∃ x,x=e0:=⟨_,rfl⟩
   replace h:(some r2:Option Bool)=some _:=h
   exact Option.some.inj h
def QbF (Γ:Gam) (rv:List Int) (cf:Cf):Prop:=Go Tryz.prog Tryz.f90 [] Γ (one (lL 1 rv e_i64)) [] cf
theorem QkJ (Γ:Gam) (rv:List Int) {x0 l8} (h:Qen x0 l8=some rv):QbF Γ rv ⟨[.c 4095],⟨125,[vP 7 0 14,vO 8 1 1 l8 e_i64],[oX 14 124 (Qai.enc x0),oS 1 38 l8 e_i64]⟩⟩:=by
 unfold Qen at h
 obtain ⟨r11,h30,h⟩:=Qae h
 rcases Qah h with ⟨h31,h⟩|⟨h31,h⟩
 ·obtain ⟨r12,h32,h⟩:=Qae h
  rcases Qah h with ⟨h33,h⟩|⟨h33,h⟩
  ·obtain ⟨r13,h34,h⟩:=Qae h
   rcases Qah h with ⟨h35,h⟩|⟨h35,h⟩
   ·obtain ⟨r14,h36,h⟩:=Qae h
    rcases Qah h with ⟨h37,h⟩|⟨h37,h⟩
    ·obtain rfl:=Option.some.inj h
     exact gr 7 [] [cC (Qan h30),rp 3 (nF h31),cC (Qan h32),rp 2 (nF h31),rp 3 (nF h33),cC (Qan h34),rp 2 (nF h33),rp 3 (nF h35),cC (Qan h36),rp 2 (nF h35),nF h37,hW 5,hH (.frz 1),rp 3 (eL l8 e_i64)]
    ·obtain ⟨h38,h⟩:=Qau h
     obtain rfl:=Option.some.inj h
     exact gr 7 [] [cC (Qan h30),rp 3 (nF h31),cC (Qan h32),rp 2 (nF h31),rp 3 (nF h33),cC (Qan h34),rp 2 (nF h33),rp 3 (nF h35),cC (Qan h36),rp 2 (nF h35),nT h37,oO (Eq.refl ([2].map e_i64).length),aO e_i64 h38,hW 5,hH (.frz 3),rp 4 (oO (Eq.refl ((l8++[2]).map e_i64).length))]
   ·obtain ⟨h39,h⟩:=Qau h
    obtain rfl:=Option.some.inj h
    exact gr 7 [] [cC (Qan h30),rp 3 (nF h31),cC (Qan h32),rp 2 (nF h31),rp 3 (nF h33),cC (Qan h34),rp 2 (nF h33),rp 5 (nT h35),tT,oO (Eq.refl ([2].map e_i64).length),aO e_i64 h39,hW 5,hH (.frz 3),rp 4 (oO (Eq.refl ((l8++[2]).map e_i64).length))]
  ·obtain ⟨h40,h⟩:=Qau h
   obtain rfl:=Option.some.inj h
   exact gr 7 [] [cC (Qan h30),rp 3 (nF h31),cC (Qan h32),rp 2 (nF h31),rp 5 (nT h33),rp 6 tT,oO (Eq.refl ([2].map e_i64).length),aO e_i64 h40,hW 5,hH (.frz 3),rp 4 (oO (Eq.refl ((l8++[2]).map e_i64).length))]
 ·obtain ⟨h41,h⟩:=Qau h
  obtain rfl:=Option.some.inj h
  exact gr 7 [] [cC (Qan h30),rp 5 (nT h31),rp 11 tT,oO (Eq.refl ([2].map e_i64).length),aO e_i64 h41,hW 5,hH (.frz 3),rp 4 (oO (Eq.refl ((l8++[2]).map e_i64).length))]
theorem QkI (Γ:Gam) (rv:List Int) {x0 l7} (h:Qem x0 l7=some rv):QbF Γ rv ⟨[.c 2047],⟨125,[vP 7 0 14,vO 8 1 1 l7 e_i64],[oX 14 124 (Qai.enc x0),oS 1 38 l7 e_i64]⟩⟩:=by
 unfold Qem at h
 obtain ⟨r9,h25,h⟩:=Qae h
 rcases Qah h with ⟨h26,h⟩|⟨h26,h⟩
 ·obtain ⟨r10,h27,h⟩:=Qae h
  rcases Qah h with ⟨h28,h⟩|⟨h28,h⟩
  ·exact gn 5 [7,8] [0,1] [cC (Qan h25),rp 3 (nF h26),cC (Qan h27),rp 2 (nF h26),nF h28] (QkJ Γ rv h)
  ·obtain ⟨h29,h⟩:=Qau h
   exact gn 5 [7,8] [0,3] [cC (Qan h25),rp 3 (nF h26),cC (Qan h27),rp 2 (nF h26),nT h28,oO (Eq.refl ([16].map e_i64).length),aO e_i64 h29] (QkJ Γ rv h)
 ·obtain ⟨h42,h⟩:=Qau h
  obtain ⟨r15,h43,h⟩:=Qae h
  rcases Qah h with ⟨h44,h⟩|⟨h44,h⟩
  ·obtain ⟨r16,h45,h⟩:=Qae h
   rcases Qah h with ⟨h46,h⟩|⟨h46,h⟩
   ·obtain ⟨r17,h47,h⟩:=Qae h
    rcases Qah h with ⟨h48,h⟩|⟨h48,h⟩
    ·obtain ⟨r18,h49,h⟩:=Qae h
     rcases Qah h with ⟨h50,h⟩|⟨h50,h⟩
     ·obtain rfl:=Option.some.inj h
      exact gr 12 [] [cC (Qan h25),rp 5 (nT h26),tT,oO (Eq.refl ([16].map e_i64).length),aO e_i64 h42,cC (Qan h43),rp 3 (nF h44),cC (Qan h45),rp 2 (nF h44),rp 3 (nF h46),cC (Qan h47),rp 2 (nF h46),rp 3 (nF h48),cC (Qan h49),rp 2 (nF h48),nF h50,hW 5,hH (.frz 3),rp 4 (oO (Eq.refl ((l7++[16]).map e_i64).length))]
     ·obtain ⟨h51,h⟩:=Qau h
      obtain rfl:=Option.some.inj h
      exact gr 12 [] [cC (Qan h25),rp 5 (nT h26),tT,oO (Eq.refl ([16].map e_i64).length),aO e_i64 h42,cC (Qan h43),rp 3 (nF h44),cC (Qan h45),rp 2 (nF h44),rp 3 (nF h46),cC (Qan h47),rp 2 (nF h46),rp 3 (nF h48),cC (Qan h49),rp 2 (nF h48),nT h50,oO (Eq.refl ([2].map e_i64).length),aO e_i64 h51,hW 5,hH (.frz 5),rp 4 (oO (Eq.refl (((l7++[16])++[2]).map e_i64).length))]
    ·obtain ⟨h52,h⟩:=Qau h
     obtain rfl:=Option.some.inj h
     exact gr 12 [] [cC (Qan h25),rp 5 (nT h26),tT,oO (Eq.refl ([16].map e_i64).length),aO e_i64 h42,cC (Qan h43),rp 3 (nF h44),cC (Qan h45),rp 2 (nF h44),rp 3 (nF h46),cC (Qan h47),rp 2 (nF h46),rp 5 (nT h48),tT,oO (Eq.refl ([2].map e_i64).length),aO e_i64 h52,hW 5,hH (.frz 5),rp 4 (oO (Eq.refl (((l7++[16])++[2]).map e_i64).length))]
   ·obtain ⟨h53,h⟩:=Qau h
    obtain rfl:=Option.some.inj h
    exact gr 12 [] [cC (Qan h25),rp 5 (nT h26),tT,oO (Eq.refl ([16].map e_i64).length),aO e_i64 h42,cC (Qan h43),rp 3 (nF h44),cC (Qan h45),rp 2 (nF h44),rp 5 (nT h46),rp 6 tT,oO (Eq.refl ([2].map e_i64).length),aO e_i64 h53,hW 5,hH (.frz 5),rp 4 (oO (Eq.refl (((l7++[16])++[2]).map e_i64).length))]
  ·obtain ⟨h54,h⟩:=Qau h
   obtain rfl:=Option.some.inj h
   exact gr 12 [] [cC (Qan h25),rp 5 (nT h26),tT,oO (Eq.refl ([16].map e_i64).length),aO e_i64 h42,cC (Qan h43),rp 5 (nT h44),rp 11 tT,oO (Eq.refl ([2].map e_i64).length),aO e_i64 h54,hW 5,hH (.frz 5),rp 4 (oO (Eq.refl (((l7++[16])++[2]).map e_i64).length))]
theorem QkH (Γ:Gam) (rv:List Int) {x0 l6} (h:Qel x0 l6=some rv):QbF Γ rv ⟨[.c 1023],⟨125,[vP 7 0 14,vO 8 1 1 l6 e_i64],[oX 14 124 (Qai.enc x0),oS 1 38 l6 e_i64]⟩⟩:=by
 unfold Qel at h
 obtain ⟨r8,h22,h⟩:=Qae h
 rcases Qah h with ⟨h23,h⟩|⟨h23,h⟩
 ·obtain ⟨h24,h⟩:=Qau h
  exact gn 5 [7,8] [0,3] [cC (Qan h22),rp 4 hP,rp 2 (oI ((!r8)=false)),oR True ((!r8)=false),bT h23,oO (Eq.refl ([15].map e_i64).length),aO e_i64 h24] (QkI Γ rv h)
 ·exact gn 5 [7,8] [0,1] [cC (Qan h22),rp 4 hP,rp 2 (oI ((!r8)=false)),oR True ((!r8)=false),bF h23] (QkI Γ rv h)
theorem QkG (Γ:Gam) (rv:List Int) {x0 l5} (h:Qek x0 l5=some rv):QbF Γ rv ⟨[.c 511],⟨125,[vP 7 0 14,vO 8 1 1 l5 e_i64],[oX 14 124 (Qai.enc x0),oS 1 38 l5 e_i64]⟩⟩:=by
 unfold Qek at h
 obtain ⟨r7,h19,h⟩:=Qae h
 rcases Qah h with ⟨h20,h⟩|⟨h20,h⟩
 ·exact gn 5 [7,8] [0,1] [cC (Qan h19),nF h20] (QkH Γ rv h)
 ·obtain ⟨h21,h⟩:=Qau h
  exact gn 5 [7,8] [0,3] [cC (Qan h19),nT h20,oO (Eq.refl ([18].map e_i64).length),aO e_i64 h21] (QkH Γ rv h)
theorem QkF (Γ:Gam) (rv:List Int) {l x0 l4} (h:Qej l x0 l4=some rv):QbF Γ rv ⟨[.c 255],⟨125,[vL 1 14 l Qai.enc,vP 7 0 14,vO 8 1 1 l4 e_i64],[oX 14 124 (Qai.enc x0),oS 1 38 l4 e_i64]⟩⟩:=by
 unfold Qej at h
 obtain ⟨r5,h15,h⟩:=Qae h
 obtain ⟨r6,h16,h⟩:=Qae h
 rcases Qah h with ⟨h17,h⟩|⟨h17,h⟩
 ·exact gn 5 [7,8] [0,1] [hH (.draw 6 []),cC (Qgb h15),cC (QfE h16),nF h17] (QkG Γ rv h)
 ·obtain ⟨h18,h⟩:=Qau h
  exact gn 5 [7,8] [0,3] [hH (.draw 6 []),cC (Qgb h15),cC (QfE h16),nT h17,oO (Eq.refl ([17].map e_i64).length),aO e_i64 h18] (QkG Γ rv h)
theorem QjO (Γ:Gam) (rv:List Int) {x0 l12} (h:Qgv x0 l12=some rv):QbF Γ rv ⟨[.c 4095],⟨125,[vP 7 0 14,vO 8 1 1 l12 e_i64],[oX 14 124 (Qai.enc x0),oS 1 38 l12 e_i64]⟩⟩:=by
 unfold Qgv at h
 obtain ⟨r25,h71,h⟩:=Qae h
 rcases Qah h with ⟨h72,h⟩|⟨h72,h⟩
 ·obtain ⟨r26,h73,h⟩:=Qae h
  rcases Qah h with ⟨h74,h⟩|⟨h74,h⟩
  ·obtain ⟨r27,h75,h⟩:=Qae h
   rcases Qah h with ⟨h76,h⟩|⟨h76,h⟩
   ·obtain ⟨r28,h77,h⟩:=Qae h
    rcases Qah h with ⟨h78,h⟩|⟨h78,h⟩
    ·obtain rfl:=Option.some.inj h
     exact gr 7 [] [cC (Qan h71),rp 3 (nF h72),cC (Qan h73),rp 2 (nF h72),rp 3 (nF h74),cC (Qan h75),rp 2 (nF h74),rp 3 (nF h76),cC (Qan h77),rp 2 (nF h76),nF h78,hW 5,hH (.frz 1),rp 3 (eL l12 e_i64)]
    ·obtain ⟨h79,h⟩:=Qau h
     obtain rfl:=Option.some.inj h
     exact gr 7 [] [cC (Qan h71),rp 3 (nF h72),cC (Qan h73),rp 2 (nF h72),rp 3 (nF h74),cC (Qan h75),rp 2 (nF h74),rp 3 (nF h76),cC (Qan h77),rp 2 (nF h76),nT h78,oO (Eq.refl ([2].map e_i64).length),aO e_i64 h79,hW 5,hH (.frz 3),rp 4 (oO (Eq.refl ((l12++[2]).map e_i64).length))]
   ·obtain ⟨h80,h⟩:=Qau h
    obtain rfl:=Option.some.inj h
    exact gr 7 [] [cC (Qan h71),rp 3 (nF h72),cC (Qan h73),rp 2 (nF h72),rp 3 (nF h74),cC (Qan h75),rp 2 (nF h74),rp 5 (nT h76),tT,oO (Eq.refl ([2].map e_i64).length),aO e_i64 h80,hW 5,hH (.frz 3),rp 4 (oO (Eq.refl ((l12++[2]).map e_i64).length))]
  ·obtain ⟨h81,h⟩:=Qau h
   obtain rfl:=Option.some.inj h
   exact gr 7 [] [cC (Qan h71),rp 3 (nF h72),cC (Qan h73),rp 2 (nF h72),rp 5 (nT h74),rp 6 tT,oO (Eq.refl ([2].map e_i64).length),aO e_i64 h81,hW 5,hH (.frz 3),rp 4 (oO (Eq.refl ((l12++[2]).map e_i64).length))]
 ·obtain ⟨h82,h⟩:=Qau h
  obtain rfl:=Option.some.inj h
  exact gr 7 [] [cC (Qan h71),rp 5 (nT h72),rp 11 tT,oO (Eq.refl ([2].map e_i64).length),aO e_i64 h82,hW 5,hH (.frz 3),rp 4 (oO (Eq.refl ((l12++[2]).map e_i64).length))]
theorem QjN (Γ:Gam) (rv:List Int) {x0 l11} (h:Qgu x0 l11=some rv):QbF Γ rv ⟨[.c 2047],⟨125,[vP 7 0 14,vO 8 1 1 l11 e_i64],[oX 14 124 (Qai.enc x0),oS 1 38 l11 e_i64]⟩⟩:=by
 unfold Qgu at h
 obtain ⟨r23,h66,h⟩:=Qae h
 rcases Qah h with ⟨h67,h⟩|⟨h67,h⟩
 ·obtain ⟨r24,h68,h⟩:=Qae h
  rcases Qah h with ⟨h69,h⟩|⟨h69,h⟩
  ·exact gn 5 [7,8] [0,1] [cC (Qan h66),rp 3 (nF h67),cC (Qan h68),rp 2 (nF h67),nF h69] (QjO Γ rv h)
  ·obtain ⟨h70,h⟩:=Qau h
   exact gn 5 [7,8] [0,3] [cC (Qan h66),rp 3 (nF h67),cC (Qan h68),rp 2 (nF h67),nT h69,oO (Eq.refl ([16].map e_i64).length),aO e_i64 h70] (QjO Γ rv h)
 ·obtain ⟨h83,h⟩:=Qau h
  obtain ⟨r29,h84,h⟩:=Qae h
  rcases Qah h with ⟨h85,h⟩|⟨h85,h⟩
  ·obtain ⟨r30,h86,h⟩:=Qae h
   rcases Qah h with ⟨h87,h⟩|⟨h87,h⟩
   ·obtain ⟨r31,h88,h⟩:=Qae h
    rcases Qah h with ⟨h89,h⟩|⟨h89,h⟩
    ·obtain ⟨r32,h90,h⟩:=Qae h
     rcases Qah h with ⟨h91,h⟩|⟨h91,h⟩
     ·obtain rfl:=Option.some.inj h
      exact gr 12 [] [cC (Qan h66),rp 5 (nT h67),tT,oO (Eq.refl ([16].map e_i64).length),aO e_i64 h83,cC (Qan h84),rp 3 (nF h85),cC (Qan h86),rp 2 (nF h85),rp 3 (nF h87),cC (Qan h88),rp 2 (nF h87),rp 3 (nF h89),cC (Qan h90),rp 2 (nF h89),nF h91,hW 5,hH (.frz 3),rp 4 (oO (Eq.refl ((l11++[16]).map e_i64).length))]
     ·obtain ⟨h92,h⟩:=Qau h
      obtain rfl:=Option.some.inj h
      exact gr 12 [] [cC (Qan h66),rp 5 (nT h67),tT,oO (Eq.refl ([16].map e_i64).length),aO e_i64 h83,cC (Qan h84),rp 3 (nF h85),cC (Qan h86),rp 2 (nF h85),rp 3 (nF h87),cC (Qan h88),rp 2 (nF h87),rp 3 (nF h89),cC (Qan h90),rp 2 (nF h89),nT h91,oO (Eq.refl ([2].map e_i64).length),aO e_i64 h92,hW 5,hH (.frz 5),rp 4 (oO (Eq.refl (((l11++[16])++[2]).map e_i64).length))]
    ·obtain ⟨h93,h⟩:=Qau h
     obtain rfl:=Option.some.inj h
     exact gr 12 [] [cC (Qan h66),rp 5 (nT h67),tT,oO (Eq.refl ([16].map e_i64).length),aO e_i64 h83,cC (Qan h84),rp 3 (nF h85),cC (Qan h86),rp 2 (nF h85),rp 3 (nF h87),cC (Qan h88),rp 2 (nF h87),rp 5 (nT h89),tT,oO (Eq.refl ([2].map e_i64).length),aO e_i64 h93,hW 5,hH (.frz 5),rp 4 (oO (Eq.refl (((l11++[16])++[2]).map e_i64).length))]
   ·obtain ⟨h94,h⟩:=Qau h
    obtain rfl:=Option.some.inj h
    exact gr 12 [] [cC (Qan h66),rp 5 (nT h67),tT,oO (Eq.refl ([16].map e_i64).length),aO e_i64 h83,cC (Qan h84),rp 3 (nF h85),cC (Qan h86),rp 2 (nF h85),rp 5 (nT h87),rp 6 tT,oO (Eq.refl ([2].map e_i64).length),aO e_i64 h94,hW 5,hH (.frz 5),rp 4 (oO (Eq.refl (((l11++[16])++[2]).map e_i64).length))]
  ·obtain ⟨h95,h⟩:=Qau h
   obtain rfl:=Option.some.inj h
   exact gr 12 [] [cC (Qan h66),rp 5 (nT h67),tT,oO (Eq.refl ([16].map e_i64).length),aO e_i64 h83,cC (Qan h84),rp 5 (nT h85),rp 11 tT,oO (Eq.refl ([2].map e_i64).length),aO e_i64 h95,hW 5,hH (.frz 5),rp 4 (oO (Eq.refl (((l11++[16])++[2]).map e_i64).length))]
theorem QjM (Γ:Gam) (rv:List Int) {x0 l10} (h:Qgt x0 l10=some rv):QbF Γ rv ⟨[.c 1023],⟨125,[vP 7 0 14,vO 8 1 1 l10 e_i64],[oX 14 124 (Qai.enc x0),oS 1 38 l10 e_i64]⟩⟩:=by
 unfold Qgt at h
 obtain ⟨r22,h63,h⟩:=Qae h
 rcases Qah h with ⟨h64,h⟩|⟨h64,h⟩
 ·obtain ⟨h65,h⟩:=Qau h
  exact gn 5 [7,8] [0,3] [cC (Qan h63),rp 4 hP,rp 2 (oI ((!r22)=false)),oR True ((!r22)=false),bT h64,oO (Eq.refl ([15].map e_i64).length),aO e_i64 h65] (QjN Γ rv h)
 ·exact gn 5 [7,8] [0,1] [cC (Qan h63),rp 4 hP,rp 2 (oI ((!r22)=false)),oR True ((!r22)=false),bF h64] (QjN Γ rv h)
theorem QkK (Γ:Gam) (rv:List Int) {x0 l9} (h:Qhd x0 l9=some rv):QbF Γ rv ⟨[.c 511],⟨125,[vP 7 0 14,vO 8 1 1 l9 e_i64],[oX 14 124 (Qai.enc x0),oS 1 38 l9 e_i64]⟩⟩:=by
 unfold Qhd at h
 obtain ⟨r21,h60,h⟩:=Qae h
 rcases Qah h with ⟨h61,h⟩|⟨h61,h⟩
 ·exact gn 5 [7,8] [0,1] [cC (Qan h60),nF h61] (QjM Γ rv h)
 ·obtain ⟨h62,h⟩:=Qau h
  exact gn 5 [7,8] [0,3] [cC (Qan h60),nT h61,oO (Eq.refl ([18].map e_i64).length),aO e_i64 h62] (QjM Γ rv h)
theorem QkE (Γ:Gam) (rv:List Int) {n l x0 l3} (h:Qei n l x0 l3=some rv):QbF Γ rv ⟨[.c 127],⟨125,[vL 1 14 l Qai.enc,vP 3 0 2,vP 7 1 14,vO 8 2 1 l3 e_i64],[oX 2 25 (Qal.enc n),oX 14 124 (Qai.enc x0),oS 1 38 l3 e_i64]⟩⟩:=by
 unfold Qei at h
 obtain ⟨r3,h10,h⟩:=Qae h
 rcases Qah h with ⟨h11,h⟩|⟨h11,h⟩
 ·obtain ⟨r4,h12,h⟩:=Qae h
  rcases Qah h with ⟨h13,h⟩|⟨h13,h⟩
  ·exact gn 5 [1,7,8] [1,2] [nL e_str n.places,cC (Qan h10),rp 5 (nF h11),nL e_str n.places,rp 2 (nF h11),cC (Qan h12),rp 2 (nF h11),nF h13] (QkF Γ rv h)
  ·obtain ⟨h14,h⟩:=Qau h
   exact gn 5 [1,7,8] [1,4] [nL e_str n.places,cC (Qan h10),rp 5 (nF h11),nL e_str n.places,rp 2 (nF h11),cC (Qan h12),rp 2 (nF h11),nT h13,oO (Eq.refl ([11].map e_i64).length),aO e_i64 h14] (QkF Γ rv h)
 ·obtain ⟨h55,h⟩:=Qau h
  obtain ⟨r19,h56,h⟩:=Qae h
  obtain ⟨r20,h57,h⟩:=Qae h
  rcases Qah h with ⟨h58,h⟩|⟨h58,h⟩
  ·exact gn 10 [7,8] [1,4] [nL e_str n.places,cC (Qan h10),rp 9 (nT h11),tT,oO (Eq.refl ([11].map e_i64).length),aO e_i64 h55,hH (.draw 6 []),cC (Qgb h56),cC (QfE h57),nF h58] (QkK Γ rv h)
  ·obtain ⟨h59,h⟩:=Qau h
   exact gn 10 [7,8] [1,6] [nL e_str n.places,cC (Qan h10),rp 9 (nT h11),tT,oO (Eq.refl ([11].map e_i64).length),aO e_i64 h55,hH (.draw 6 []),cC (Qgb h56),cC (QfE h57),nT h58,oO (Eq.refl ([17].map e_i64).length),aO e_i64 h59] (QkK Γ rv h)
theorem QkD (Γ:Gam) (rv:List Int) {n l x0 l2} (h:Qeh n l x0 l2=some rv):QbF Γ rv ⟨[.c 63],⟨125,[vL 1 14 l Qai.enc,vP 3 0 2,vP 7 1 14,vO 8 2 1 l2 e_i64],[oX 2 25 (Qal.enc n),oX 14 124 (Qai.enc x0),oS 1 38 l2 e_i64]⟩⟩:=by
 unfold Qeh at h
 obtain ⟨r2,h7,h⟩:=Qae h
 rcases Qah h with ⟨h8,h⟩|⟨h8,h⟩
 ·exact gn 5 [1,3,7,8] [0,1,2] [cC (Qan h7),nF h8] (QkE Γ rv h)
 ·obtain ⟨h9,h⟩:=Qau h
  exact gn 5 [1,3,7,8] [0,1,4] [cC (Qan h7),nT h8,oO (Eq.refl ([22].map e_i64).length),aO e_i64 h9] (QkE Γ rv h)
theorem QkC (Γ:Gam) (rv:List Int) {n l at_ x0 l1} (h:Qeg n l at_ x0 l1=some rv):QbF Γ rv ⟨[.c 31],⟨125,[vL 1 14 l Qai.enc,vI 2 at_,vP 3 0 2,vP 7 1 14,vO 8 2 1 l1 e_i64],[oX 2 25 (Qal.enc n),oX 14 124 (Qai.enc x0),oS 1 38 l1 e_i64]⟩⟩:=by
 unfold Qeg at h
 obtain ⟨r1,h4,h⟩:=Qae h
 rcases Qah h with ⟨h5,h⟩|⟨h5,h⟩
 ·obtain ⟨h6,h⟩:=Qau h
  exact gn 5 [1,3,7,8] [0,1,4] [cC (QnQ h4),bT h5,oO (Eq.refl ([6].map e_i64).length),aO e_i64 h6] (QkD Γ rv h)
 ·exact gn 5 [1,3,7,8] [0,1,2] [cC (QnQ h4),bF h5] (QkD Γ rv h)
theorem QsP {n l at_} {rv:List Int} (h:Qhw n l at_=some rv):AFn Tryz.prog 90 [.agg (Qal.enc n),.one (lL 14 l Qai.enc),.one (lI at_)] [] (one (lL 1 rv e_i64)) []:=by
 refine QaL Tryz.func90 (by kernel_rfl) (by kernel_rfl) (fun Γ=>?_)
 unfold Qhw at h
 obtain ⟨x0,h0,h⟩:=Qae h
 obtain ⟨r,h1,h⟩:=Qae h
 rcases Qah h with ⟨h2,h⟩|⟨h2,h⟩
 ·exact gn 11 [1,2,3,7,8] [0,1,2] [cE Qai.enc h0,cC (QeU h1),nF h2,hW 1,hH (.adopt 8 1 38)] (QkC Γ rv h)
 ·obtain ⟨h3,h⟩:=Qau h
  exact gn 11 [1,2,3,7,8] [0,1,3] [cE Qai.enc h0,cC (QeU h1),nT h2,oO (Eq.refl ([5].map e_i64).length),aN (l:=([5]:List Int)) e_i64 h3] (QkC Γ rv h)
def Qga (Γ:Gam) (rv:List Qab) (cf:Cf):Prop:=Go Tryz.prog Tryz.f59 [] Γ (one (lL 2 rv Qab.enc)) [] cf
def QlY (Γ:Gam) (rv:List Qab) (n:Qal) (l:List Qai) (i:Int) (r1:List Int) (l3:List Qab) (k:Int):Prop:=Qga Γ rv ⟨[.c 31308,.l 31308,.b 2,.b 1,.c 979,.l 244,.b 0,.c 31],⟨44,[vL 1 14 l Qai.enc,vP 2 0 2,vO 5 1 2 l3 Qab.enc,vI 6 i,vL 7 1 r1 e_i64,vI 8 k],[oX 2 25 (Qal.enc n),oS 2 146 l3 Qab.enc]⟩⟩
def QkA (Γ:Gam) (rv:List Qab) (n:Qal) (l:List Qai) (i:Int) (r1:List Int) (l4:List Qab):Prop:=Qga Γ rv ⟨[.b 1,.c 979,.l 244,.b 0,.c 31],⟨44,[vL 1 14 l Qai.enc,vP 2 0 2,vO 5 1 2 l4 Qab.enc,vI 6 i],[oX 2 25 (Qal.enc n),oS 2 146 l4 Qab.enc]⟩⟩
def QlX (Γ:Gam) (rv:List Qab) (n:Qal) (l:List Qai) (l2:List Qab) (i:Int):Prop:=Qga Γ rv ⟨[.c 244,.l 244,.b 0,.c 31],⟨44,[vL 1 14 l Qai.enc,vP 2 0 2,vO 5 1 2 l2 Qab.enc,vI 6 i],[oX 2 25 (Qal.enc n),oS 2 146 l2 Qab.enc]⟩⟩
def Qkz (Γ:Gam) (rv:List Qab) (n:Qal) (l:List Qai) (l5:List Qab):Prop:=Qga Γ rv ⟨[.c 31],⟨44,[vO 5 0 2 l5 Qab.enc],[oS 2 146 l5 Qab.enc]⟩⟩
theorem QqI (Γ:Gam) (rv:List Qab) {n l i r1} {s:List Qab×Int} {e:List Qab} (h:loopF (fun s=>Qhc n l i r1 s.1 s.2) s=some e) (hD:QkA Γ rv n l i r1 e):QlY Γ rv n l i r1 s.1 s.2:=by
 refine QaB (C:=fun (s:List Qab×Int)=>QlY Γ rv n l i r1 s.1 s.2) (D:=fun (e:List Qab)=>QkA Γ rv n l i r1 e) ?_ h hD
 clear h hD s e
 rintro ⟨l3,k⟩ z_ h hI hE
 replace h:Qhc n l i r1 l3 k=_:=h
 unfold Qhc at h
 rcases Qah h with ⟨h5,h⟩|⟨h5,h⟩
 ·obtain ⟨x0,h6,h⟩:=Qae h
  obtain ⟨r2,h7,h⟩:=Qae h
  obtain ⟨h8,h⟩:=Qau h
  exact gn 11 [1,2,5,6,7,8] [0,3] [nL e_i64 r1,bT h5,hH (.draw 9 []),cE e_i64 h6,cC (QbU h7),oO (Eq.refl ([(Qab.mk x0 r2)].map Qab.enc).length),aO Qab.enc h8] (hI _ (oJ h))
 ·exact gn 5 [1,2,5,6] [0,1] [nL e_i64 r1,bF h5] (hE _ (oJ h))
theorem QqH (Γ:Gam) (rv:List Qab) {n l} {s:List Qab×Int} {e:List Qab} (h:loopF (fun s=>Qc8 n l s.1 s.2) s=some e) (hD:Qkz Γ rv n l e):QlX Γ rv n l s.1 s.2:=by
 refine QaB (C:=fun (s:List Qab×Int)=>QlX Γ rv n l s.1 s.2) (D:=fun (e:List Qab)=>Qkz Γ rv n l e) ?_ h hD
 clear h hD s e
 rintro ⟨l2,i⟩ z_ h hI hE
 replace h:Qc8 n l l2 i=_:=h
 unfold Qc8 at h
 rcases Qah h with ⟨h3,h⟩|⟨h3,h⟩
 ·obtain ⟨r1,h4,h⟩:=Qae h
  obtain ⟨e0,h9,h⟩:=Qae h
  refine gn 13 [1,2,5,6,7,8] [0,1] [nL Qai.enc l,bT h3,cC (QsP h4)] (QqI Γ rv h9 ?_)
  obtain ⟨l4,rfl⟩:∃ x,x=e0:=⟨_,rfl⟩
  replace h:(some (.inl (l4,(addK .i64 i 1))):Option ((List Qab×Int)⊕(List Qab)))=some _:=h
  exact gn 3 [1,2,5,6] [0,1] [] (hI _ (oJ h))
 ·exact gn 5 [5] [1] [nL Qai.enc l,bF h3] (hE _ (oJ h))
theorem Qky (Γ:Gam) (rv:List Qab) {n l l1} (h:QfD n l l1=some rv):Qga Γ rv ⟨[.c 15],⟨44,[vL 1 14 l Qai.enc,vP 2 0 2,vO 5 1 2 l1 Qab.enc],[oX 2 25 (Qal.enc n),oS 2 146 l1 Qab.enc]⟩⟩:=by
 unfold QfD at h
 obtain ⟨e1,h10,h⟩:=Qae h
 refine gn 5 [1,2,5,6] [0,1] [] (QqH Γ rv h10 ?_)
 obtain ⟨l5,rfl⟩:∃ x,x=e1:=⟨_,rfl⟩
 replace h:(some l5:Option (List Qab))=some _:=h
 obtain rfl:=Option.some.inj h
 exact gr 2 [] [hW 4,hH (.frz 0),rp 3 (eL l5 Qab.enc)]
theorem QsO {n l} {rv:List Qab} (h:Qhu n l=some rv):AFn Tryz.prog 59 [.agg (Qal.enc n),.one (lL 14 l Qai.enc)] [] (one (lL 2 rv Qab.enc)) []:=by
 refine QaL Tryz.func59 (by kernel_rfl) (by kernel_rfl) (fun Γ=>?_)
 unfold Qhu at h
 obtain ⟨r,h0,h⟩:=Qae h
 rcases Qah h with ⟨h1,h⟩|⟨h1,h⟩
 ·exact gn 9 [1,2,5] [0,1] [nL Qai.enc l,cC (Qan h0),nF h1,hW 1,hH (.adopt 5 2 146)] (Qky Γ rv h)
 ·obtain ⟨h2,h⟩:=Qau h
  exact gn 9 [1,2,5] [0,2] [nL Qai.enc l,cC (Qan h0),nT h1,oO (Eq.refl ([(Qab.mk 4 ByteArray.empty)].map Qab.enc).length),aN (l:=([(Qab.mk 4 ByteArray.empty)]:List Qab)) Qab.enc h2] (Qky Γ rv h)
theorem QaG {n low high} {rv:Bool} (h:QbL n low high=some rv):AFn Tryz.prog 69 [.one (lI n),.one (lI low),.one (lI high)] [] (one (.bool rv)) []:=by
 refine QaL Tryz.func69 (by kernel_rfl) (by kernel_rfl) (fun Γ=>?_)
 unfold QbL at h
 obtain rfl:=Option.some.inj h
 exact gr 4 [] [rp 4 hP,rp 2 (oI ((geI n low)=true)),oR True ((geI n low)=true)]
def QoC (Γ:Gam) (rv:Bool) (cf:Cf):Prop:=Go Tryz.prog Tryz.f124 [] Γ (one (.bool rv)) [] cf
def QlS (Γ:Gam) (rv:Bool) (a:List Int) (i:Int):Prop:=QoC Γ rv ⟨[.c 116,.l 116,.b 0,.c 15],⟨28,[vL 0 1 a e_i64,vI 5 i],[]⟩⟩
def Qkr (Γ:Gam) (rv:Bool) (a:List Int):Prop:=QoC Γ rv ⟨[.c 15],⟨28,[],[]⟩⟩
theorem QqD (Γ:Gam) (rv:Bool) {a} {s:Int} {e:(Unit)⊕(Bool)} (h:loopF (fun s=>Qcp a s) s=some e) (hD:sel e (fun e=>Qkr Γ rv a) (fun e=>e=rv)):QlS Γ rv a s:=by
 refine QaB (C:=fun (s:Int)=>QlS Γ rv a s) (D:=fun (e:(Unit)⊕(Bool))=>sel e (fun e=>Qkr Γ rv a) (fun e=>e=rv)) ?_ h hD
 clear h hD s e
 intro i z_ h hI hE
 replace h:Qcp a i=_:=h
 unfold Qcp at h
 rcases Qah h with ⟨h1,h⟩|⟨h1,h⟩
 ·obtain ⟨x0,h2,h⟩:=Qae h
  rcases Qah h with ⟨h3,h⟩|⟨h3,h⟩
  ·obtain rfl:=(hE _ (oJ h):_=rv)
   exact gr 12 [] [nL e_i64 a,bT h1,cE e_i64 h2,rp 6 (bT h3),tT]
  ·rcases Qah h with ⟨h4,h⟩|⟨h4,h⟩
   ·obtain rfl:=(hE _ (oJ h):_=rv)
    exact gr 12 [] [nL e_i64 a,bT h1,cE e_i64 h2,rp 3 (bF h3),cE e_i64 h2,rp 3 (bF h3),bT h4]
   ·exact gn 14 [0,5] [] [nL e_i64 a,bT h1,cE e_i64 h2,rp 3 (bF h3),cE e_i64 h2,rp 3 (bF h3),bF h4] (hI _ (oJ h))
 ·exact gn 5 [] [] [nL e_i64 a,bF h1] (hE _ (oJ h))
theorem QnL {a dims} {rv:Bool} (h:Qe9 a dims=some rv):AFn Tryz.prog 124 [.one (lL 1 a e_i64),.one (lI dims)] [] (one (.bool rv)) []:=by
 refine QaL Tryz.func124 (by kernel_rfl) (by kernel_rfl) (fun Γ=>?_)
 unfold Qe9 at h
 rcases Qah h with ⟨h0,h⟩|⟨h0,h⟩
 ·obtain rfl:=Option.some.inj h
  exact gr 8 [] [nL e_i64 a,bT h0]
 ·obtain ⟨e0,h5,h⟩:=Qae h
  refine gn 12 [0,5] [] [nL e_i64 a,bF h0] (QqD Γ rv h5 ?_)
  rcases e0 with e0|e0
  ·replace h:(some true:Option Bool)=some _:=h
   obtain rfl:=Option.some.inj h
   exact gr 2 [] []
  ·obtain ⟨r,rfl⟩:∃ x,x=e0:=⟨_,rfl⟩
   replace h:(some r:Option Bool)=some _:=h
   exact Option.some.inj h
theorem Qby {s0} {rv:Int} (h:Qd7 s0=some rv):AFn Tryz.prog 125 [.agg (Qav.enc s0)] [] (one (lI rv)) []:=by
 refine QaL Tryz.func125 (by kernel_rfl) (by kernel_rfl) (fun Γ=>?_)
 unfold Qd7 at h
 rcases Qah h with ⟨h0,h⟩|⟨h0,h⟩
 ·obtain rfl:=Option.some.inj h
  exact gr 8 [] [rp 12 hP,rp 2 (oI ((eqI s0.place (-1))=true)),oR True ((eqI s0.place (-1))=true),rp 2 (oI (((eqI s0.place (-1))&&(eqI s0.open_ 0))=true)),oR True (((eqI s0.place (-1))&&(eqI s0.open_ 0))=true),rp 2 (oI ((((eqI s0.place (-1))&&(eqI s0.open_ 0))&&(eqI s0.close 0))=true)),oR True ((((eqI s0.place (-1))&&(eqI s0.open_ 0))&&(eqI s0.close 0))=true),bT h0]
 ·rcases Qah h with ⟨h1,h⟩|⟨h1,h⟩
  ·obtain rfl:=Option.some.inj h
   exact gr 13 [] [rp 12 hP,rp 2 (oI ((eqI s0.place (-1))=true)),oR True ((eqI s0.place (-1))=true),rp 2 (oI (((eqI s0.place (-1))&&(eqI s0.open_ 0))=true)),oR True (((eqI s0.place (-1))&&(eqI s0.open_ 0))=true),rp 2 (oI ((((eqI s0.place (-1))&&(eqI s0.open_ 0))&&(eqI s0.close 0))=true)),oR True ((((eqI s0.place (-1))&&(eqI s0.open_ 0))&&(eqI s0.close 0))=true),bF h0,rp 22 hP,rp 2 (oI ((ltI s0.place 0)=false)),oR True ((ltI s0.place 0)=false),rp 4 (oI (((ltI s0.place 0)||(ltI s0.open_ 0))=false)),oR True (((ltI s0.place 0)||(ltI s0.open_ 0))=false),rp 2 (oI ((((ltI s0.place 0)||(ltI s0.open_ 0))||(gtI s0.open_ s0.close))=false)),oR True ((((ltI s0.place 0)||(ltI s0.open_ 0))||(gtI s0.open_ s0.close))=false),rp 2 (oI (((((ltI s0.place 0)||(ltI s0.open_ 0))||(gtI s0.open_ s0.close))||(gtI s0.close 4096))=false)),oR True (((((ltI s0.place 0)||(ltI s0.open_ 0))||(gtI s0.open_ s0.close))||(gtI s0.close 4096))=false),rp 2 (oI ((((((ltI s0.place 0)||(ltI s0.open_ 0))||(gtI s0.open_ s0.close))||(gtI s0.close 4096))||(ltI s0.service 0))=false)),oR True ((((((ltI s0.place 0)||(ltI s0.open_ 0))||(gtI s0.open_ s0.close))||(gtI s0.close 4096))||(ltI s0.service 0))=false),bT h1]
  ·obtain rfl:=Option.some.inj h
   exact gr 14 [] [rp 12 hP,rp 2 (oI ((eqI s0.place (-1))=true)),oR True ((eqI s0.place (-1))=true),rp 2 (oI (((eqI s0.place (-1))&&(eqI s0.open_ 0))=true)),oR True (((eqI s0.place (-1))&&(eqI s0.open_ 0))=true),rp 2 (oI ((((eqI s0.place (-1))&&(eqI s0.open_ 0))&&(eqI s0.close 0))=true)),oR True ((((eqI s0.place (-1))&&(eqI s0.open_ 0))&&(eqI s0.close 0))=true),bF h0,rp 22 hP,rp 2 (oI ((ltI s0.place 0)=false)),oR True ((ltI s0.place 0)=false),rp 4 (oI (((ltI s0.place 0)||(ltI s0.open_ 0))=false)),oR True (((ltI s0.place 0)||(ltI s0.open_ 0))=false),rp 2 (oI ((((ltI s0.place 0)||(ltI s0.open_ 0))||(gtI s0.open_ s0.close))=false)),oR True ((((ltI s0.place 0)||(ltI s0.open_ 0))||(gtI s0.open_ s0.close))=false),rp 2 (oI (((((ltI s0.place 0)||(ltI s0.open_ 0))||(gtI s0.open_ s0.close))||(gtI s0.close 4096))=false)),oR True (((((ltI s0.place 0)||(ltI s0.open_ 0))||(gtI s0.open_ s0.close))||(gtI s0.close 4096))=false),rp 2 (oI ((((((ltI s0.place 0)||(ltI s0.open_ 0))||(gtI s0.open_ s0.close))||(gtI s0.close 4096))||(ltI s0.service 0))=false)),oR True ((((((ltI s0.place 0)||(ltI s0.open_ 0))||(gtI s0.open_ s0.close))||(gtI s0.close 4096))||(ltI s0.service 0))=false),bF h1]
def Qbx (Γ:Gam) (rv:List Int) (cf:Cf):Prop:=Go Tryz.prog Tryz.f92 [] Γ (one (lL 1 rv e_i64)) [] cf
def Ql3 (Γ:Gam) (rv:List Int) (places:Int) (dims:Int) (types:Int) (l:List Qag) (at_:Int) (x0:Qag) (l1:List Int) (i:Int):Prop:=Qbx Γ rv ⟨[.c 500,.l 500,.b 0,.c 63],⟨156,[vI 0 places,vI 1 dims,vI 2 types,vL 3 16 l Qag.enc,vI 4 at_,vO 11 0 1 l1 e_i64,vP 12 1 16,vI 13 i],[oS 1 38 l1 e_i64,oX 16 74 (Qag.enc x0)]⟩⟩
def QkX (Γ:Gam) (rv:List Int) (places:Int) (dims:Int) (types:Int) (l:List Qag) (at_:Int) (x0:Qag) (l1:List Int) (l2:List Int):Prop:=Qbx Γ rv ⟨[.c 63],⟨156,[vI 0 places,vI 1 dims,vI 2 types,vO 11 0 1 l2 e_i64,vP 12 1 16],[oS 1 38 l2 e_i64,oX 16 74 (Qag.enc x0)]⟩⟩
theorem QqM (Γ:Gam) (rv:List Int) {places dims types l at_ x0 l1} {s:Int} {e:List Int} (h:loopF (fun s=>Qct places dims types l at_ x0 l1 s) s=some e) (hD:QkX Γ rv places dims types l at_ x0 l1 e):Ql3 Γ rv places dims types l at_ x0 l1 s:=by
 refine QaB (C:=fun (s:Int)=>Ql3 Γ rv places dims types l at_ x0 l1 s) (D:=fun (e:List Int)=>QkX Γ rv places dims types l at_ x0 l1 e) ?_ h hD
 clear h hD s e
 intro i z_ h hI hE
 replace h:Qct places dims types l at_ x0 l1 i=_:=h
 unfold Qct at h
 rcases Qah h with ⟨h4,h⟩|⟨h4,h⟩
 ·obtain ⟨x1,h5,h⟩:=Qae h
  rcases Qah h with ⟨h6,h⟩|⟨h6,h⟩
  ·obtain ⟨h7,h⟩:=Qau h
   exact gn 13 [0,1,2,11,12] [3,1] [bT h4,hH (.draw 8 []),cE Qag.enc h5,bT h6,oO (Eq.refl ([6].map e_i64).length),aO e_i64 h7] (hE _ (oJ h))
  ·exact gn 14 [0,1,2,3,4,11,12,13] [0,1] [bT h4,hH (.draw 8 []),cE Qag.enc h5,bF h6] (hI _ (oJ h))
 ·exact gn 5 [0,1,2,11,12] [0,1] [bF h4] (hE _ (oJ h))
theorem QkS (Γ:Gam) (rv:List Int) {types x0 l6} (h:Qer types x0 l6=some rv):Qbx Γ rv ⟨[.c 2047],⟨156,[vI 2 types,vO 11 0 1 l6 e_i64,vP 12 1 16],[oS 1 38 l6 e_i64,oX 16 74 (Qag.enc x0)]⟩⟩:=by
 unfold Qer at h
 obtain ⟨r6,h25,h⟩:=Qae h
 rcases Qah h with ⟨h26,h⟩|⟨h26,h⟩
 ·obtain ⟨r7,h27,h⟩:=Qae h
  rcases Qah h with ⟨h28,h⟩|⟨h28,h⟩
  ·obtain ⟨h29,h⟩:=Qau h
   obtain rfl:=Option.some.inj h
   exact gr 9 [] [rp 5 hP,rp 3 (oI ((neI x0.pick.place (-1))=true)),oR True ((neI x0.pick.place (-1))=true),cC (QaG h25),rp 3 (nF h26),cC (QaG h27),rp 2 (nF h26),rp 26 hP,rp 4 (oI ((!r7)=false)),oI (((!r7)=false)∧(gtI x0.split 1)=true),oR True ((!r7)=false),rp 2 (oI (((!r7)||((gtI x0.split 1)&&((neI x0.pick.place (-1))&&(neI x0.drop.place (-1)))))=false)),oR True (((!r7)||((gtI x0.split 1)&&((neI x0.pick.place (-1))&&(neI x0.drop.place (-1)))))=false),rp 3 (oI ((((!r7)||((gtI x0.split 1)&&((neI x0.pick.place (-1))&&(neI x0.drop.place (-1)))))||(ltI x0.last_ (-1)))=false)),oR True ((((!r7)||((gtI x0.split 1)&&((neI x0.pick.place (-1))&&(neI x0.drop.place (-1)))))||(ltI x0.last_ (-1)))=false),rp 2 (oI (((((!r7)||((gtI x0.split 1)&&((neI x0.pick.place (-1))&&(neI x0.drop.place (-1)))))||(ltI x0.last_ (-1)))||(geI x0.last_ types))=false)),oR True (((((!r7)||((gtI x0.split 1)&&((neI x0.pick.place (-1))&&(neI x0.drop.place (-1)))))||(ltI x0.last_ (-1)))||(geI x0.last_ types))=false),rp 3 (oI ((((((!r7)||((gtI x0.split 1)&&((neI x0.pick.place (-1))&&(neI x0.drop.place (-1)))))||(ltI x0.last_ (-1)))||(geI x0.last_ types))||(ltI x0.now (-1)))=false)),oR True ((((((!r7)||((gtI x0.split 1)&&((neI x0.pick.place (-1))&&(neI x0.drop.place (-1)))))||(ltI x0.last_ (-1)))||(geI x0.last_ types))||(ltI x0.now (-1)))=false),bT h28,oO (Eq.refl ([2].map e_i64).length),aO e_i64 h29,hW 5,hH (.frz 3),rp 4 (oO (Eq.refl ((l6++[2]).map e_i64).length))]
  ·obtain rfl:=Option.some.inj h
   exact gr 9 [] [rp 5 hP,rp 3 (oI ((neI x0.pick.place (-1))=true)),oR True ((neI x0.pick.place (-1))=true),cC (QaG h25),rp 3 (nF h26),cC (QaG h27),rp 2 (nF h26),rp 26 hP,rp 4 (oI ((!r7)=false)),oI (((!r7)=false)∧(gtI x0.split 1)=true),oR True ((!r7)=false),rp 2 (oI (((!r7)||((gtI x0.split 1)&&((neI x0.pick.place (-1))&&(neI x0.drop.place (-1)))))=false)),oR True (((!r7)||((gtI x0.split 1)&&((neI x0.pick.place (-1))&&(neI x0.drop.place (-1)))))=false),rp 3 (oI ((((!r7)||((gtI x0.split 1)&&((neI x0.pick.place (-1))&&(neI x0.drop.place (-1)))))||(ltI x0.last_ (-1)))=false)),oR True ((((!r7)||((gtI x0.split 1)&&((neI x0.pick.place (-1))&&(neI x0.drop.place (-1)))))||(ltI x0.last_ (-1)))=false),rp 2 (oI (((((!r7)||((gtI x0.split 1)&&((neI x0.pick.place (-1))&&(neI x0.drop.place (-1)))))||(ltI x0.last_ (-1)))||(geI x0.last_ types))=false)),oR True (((((!r7)||((gtI x0.split 1)&&((neI x0.pick.place (-1))&&(neI x0.drop.place (-1)))))||(ltI x0.last_ (-1)))||(geI x0.last_ types))=false),rp 3 (oI ((((((!r7)||((gtI x0.split 1)&&((neI x0.pick.place (-1))&&(neI x0.drop.place (-1)))))||(ltI x0.last_ (-1)))||(geI x0.last_ types))||(ltI x0.now (-1)))=false)),oR True ((((((!r7)||((gtI x0.split 1)&&((neI x0.pick.place (-1))&&(neI x0.drop.place (-1)))))||(ltI x0.last_ (-1)))||(geI x0.last_ types))||(ltI x0.now (-1)))=false),bF h28,hW 5,hH (.frz 0),rp 3 (eL l6 e_i64)]
 ·obtain ⟨h30,h⟩:=Qau h
  obtain rfl:=Option.some.inj h
  exact gr 9 [] [rp 5 hP,rp 3 (oI ((neI x0.pick.place (-1))=true)),oR True ((neI x0.pick.place (-1))=true),cC (QaG h25),rp 5 (nT h26),rp 4 tT,kF,rp 21 tT,oO (Eq.refl ([2].map e_i64).length),aO e_i64 h30,hW 5,hH (.frz 3),rp 4 (oO (Eq.refl ((l6++[2]).map e_i64).length))]
theorem QkU (Γ:Gam) (rv:List Int) {types x0 l8} (h:Qhf types x0 l8=some rv):Qbx Γ rv ⟨[.c 2047],⟨156,[vI 2 types,vO 11 0 1 l8 e_i64,vP 12 1 16],[oS 1 38 l8 e_i64,oX 16 74 (Qag.enc x0)]⟩⟩:=by
 unfold Qhf at h
 obtain ⟨r10,h37,h⟩:=Qae h
 rcases Qah h with ⟨h38,h⟩|⟨h38,h⟩
 ·obtain ⟨r11,h39,h⟩:=Qae h
  rcases Qah h with ⟨h40,h⟩|⟨h40,h⟩
  ·obtain ⟨h41,h⟩:=Qau h
   obtain rfl:=Option.some.inj h
   exact gr 9 [] [rp 5 hP,rp 3 (oI ((neI x0.pick.place (-1))=true)),oR True ((neI x0.pick.place (-1))=true),cC (QaG h37),rp 3 (nF h38),cC (QaG h39),rp 2 (nF h38),rp 26 hP,rp 4 (oI ((!r11)=false)),oI (((!r11)=false)∧(gtI x0.split 1)=true),oR True ((!r11)=false),rp 2 (oI (((!r11)||((gtI x0.split 1)&&((neI x0.pick.place (-1))&&(neI x0.drop.place (-1)))))=false)),oR True (((!r11)||((gtI x0.split 1)&&((neI x0.pick.place (-1))&&(neI x0.drop.place (-1)))))=false),rp 3 (oI ((((!r11)||((gtI x0.split 1)&&((neI x0.pick.place (-1))&&(neI x0.drop.place (-1)))))||(ltI x0.last_ (-1)))=false)),oR True ((((!r11)||((gtI x0.split 1)&&((neI x0.pick.place (-1))&&(neI x0.drop.place (-1)))))||(ltI x0.last_ (-1)))=false),rp 2 (oI (((((!r11)||((gtI x0.split 1)&&((neI x0.pick.place (-1))&&(neI x0.drop.place (-1)))))||(ltI x0.last_ (-1)))||(geI x0.last_ types))=false)),oR True (((((!r11)||((gtI x0.split 1)&&((neI x0.pick.place (-1))&&(neI x0.drop.place (-1)))))||(ltI x0.last_ (-1)))||(geI x0.last_ types))=false),rp 3 (oI ((((((!r11)||((gtI x0.split 1)&&((neI x0.pick.place (-1))&&(neI x0.drop.place (-1)))))||(ltI x0.last_ (-1)))||(geI x0.last_ types))||(ltI x0.now (-1)))=false)),oR True ((((((!r11)||((gtI x0.split 1)&&((neI x0.pick.place (-1))&&(neI x0.drop.place (-1)))))||(ltI x0.last_ (-1)))||(geI x0.last_ types))||(ltI x0.now (-1)))=false),bT h40,oO (Eq.refl ([2].map e_i64).length),aO e_i64 h41,hW 5,hH (.frz 3),rp 4 (oO (Eq.refl ((l8++[2]).map e_i64).length))]
  ·obtain rfl:=Option.some.inj h
   exact gr 9 [] [rp 5 hP,rp 3 (oI ((neI x0.pick.place (-1))=true)),oR True ((neI x0.pick.place (-1))=true),cC (QaG h37),rp 3 (nF h38),cC (QaG h39),rp 2 (nF h38),rp 26 hP,rp 4 (oI ((!r11)=false)),oI (((!r11)=false)∧(gtI x0.split 1)=true),oR True ((!r11)=false),rp 2 (oI (((!r11)||((gtI x0.split 1)&&((neI x0.pick.place (-1))&&(neI x0.drop.place (-1)))))=false)),oR True (((!r11)||((gtI x0.split 1)&&((neI x0.pick.place (-1))&&(neI x0.drop.place (-1)))))=false),rp 3 (oI ((((!r11)||((gtI x0.split 1)&&((neI x0.pick.place (-1))&&(neI x0.drop.place (-1)))))||(ltI x0.last_ (-1)))=false)),oR True ((((!r11)||((gtI x0.split 1)&&((neI x0.pick.place (-1))&&(neI x0.drop.place (-1)))))||(ltI x0.last_ (-1)))=false),rp 2 (oI (((((!r11)||((gtI x0.split 1)&&((neI x0.pick.place (-1))&&(neI x0.drop.place (-1)))))||(ltI x0.last_ (-1)))||(geI x0.last_ types))=false)),oR True (((((!r11)||((gtI x0.split 1)&&((neI x0.pick.place (-1))&&(neI x0.drop.place (-1)))))||(ltI x0.last_ (-1)))||(geI x0.last_ types))=false),rp 3 (oI ((((((!r11)||((gtI x0.split 1)&&((neI x0.pick.place (-1))&&(neI x0.drop.place (-1)))))||(ltI x0.last_ (-1)))||(geI x0.last_ types))||(ltI x0.now (-1)))=false)),oR True ((((((!r11)||((gtI x0.split 1)&&((neI x0.pick.place (-1))&&(neI x0.drop.place (-1)))))||(ltI x0.last_ (-1)))||(geI x0.last_ types))||(ltI x0.now (-1)))=false),bF h40,hW 5,hH (.frz 0),rp 3 (eL l8 e_i64)]
 ·obtain ⟨h42,h⟩:=Qau h
  obtain rfl:=Option.some.inj h
  exact gr 9 [] [rp 5 hP,rp 3 (oI ((neI x0.pick.place (-1))=true)),oR True ((neI x0.pick.place (-1))=true),cC (QaG h37),rp 5 (nT h38),rp 4 tT,kF,rp 21 tT,oO (Eq.refl ([2].map e_i64).length),aO e_i64 h42,hW 5,hH (.frz 3),rp 4 (oO (Eq.refl ((l8++[2]).map e_i64).length))]
theorem QkT (Γ:Gam) (rv:List Int) {types x0 l7} (h:Qes types x0 l7=some rv):Qbx Γ rv ⟨[.c 1023],⟨156,[vI 2 types,vO 11 0 1 l7 e_i64,vP 12 1 16],[oS 1 38 l7 e_i64,oX 16 74 (Qag.enc x0)]⟩⟩:=by
 unfold Qes at h
 obtain ⟨r9,h34,h⟩:=Qae h
 rcases Qah h with ⟨h35,h⟩|⟨h35,h⟩
 ·exact gn 5 [2,11,12] [0,1] [cC (QaG h34),nF h35] (QkU Γ rv h)
 ·obtain ⟨h36,h⟩:=Qau h
  exact gn 5 [2,11,12] [3,1] [cC (QaG h34),nT h35,oO (Eq.refl ([18].map e_i64).length),aO e_i64 h36] (QkU Γ rv h)
theorem QkR (Γ:Gam) (rv:List Int) {types x0 l5} (h:Qeq types x0 l5=some rv):Qbx Γ rv ⟨[.c 511],⟨156,[vI 2 types,vO 11 0 1 l5 e_i64,vP 12 1 16],[oS 1 38 l5 e_i64,oX 16 74 (Qag.enc x0)]⟩⟩:=by
 unfold Qeq at h
 obtain ⟨r4,h19,h⟩:=Qae h
 rcases Qah h with ⟨h20,h⟩|⟨h20,h⟩
 ·obtain ⟨h21,h⟩:=Qau h
  obtain ⟨r5,h22,h⟩:=Qae h
  rcases Qah h with ⟨h23,h⟩|⟨h23,h⟩
  ·exact gn 10 [2,11,12] [3,1] [cC (Qby h19),rp 5 (bT h20),tT,oO (Eq.refl ([14].map e_i64).length),aO e_i64 h21,cC (QaG h22),nF h23] (QkS Γ rv h)
  ·obtain ⟨h24,h⟩:=Qau h
   exact gn 10 [2,11,12] [5,1] [cC (Qby h19),rp 5 (bT h20),tT,oO (Eq.refl ([14].map e_i64).length),aO e_i64 h21,cC (QaG h22),nT h23,oO (Eq.refl ([18].map e_i64).length),aO e_i64 h24] (QkS Γ rv h)
 ·obtain ⟨r8,h31,h⟩:=Qae h
  rcases Qah h with ⟨h32,h⟩|⟨h32,h⟩
  ·obtain ⟨h33,h⟩:=Qau h
   exact gn 5 [2,11,12] [3,1] [cC (Qby h19),rp 3 (bF h20),cC (Qby h31),rp 2 (bF h20),bT h32,oO (Eq.refl ([14].map e_i64).length),aO e_i64 h33] (QkT Γ rv h)
  ·exact gn 5 [2,11,12] [0,1] [cC (Qby h19),rp 3 (bF h20),cC (Qby h31),rp 2 (bF h20),bF h32] (QkT Γ rv h)
theorem QkQ (Γ:Gam) (rv:List Int) {types x0 l4} (h:Qep types x0 l4=some rv):Qbx Γ rv ⟨[.c 255],⟨156,[vI 2 types,vO 11 0 1 l4 e_i64,vP 12 1 16],[oS 1 38 l4 e_i64,oX 16 74 (Qag.enc x0)]⟩⟩:=by
 unfold Qep at h
 rcases Qah h with ⟨h17,h⟩|⟨h17,h⟩
 ·obtain ⟨h18,h⟩:=Qau h
  exact gn 5 [2,11,12] [3,1] [rp 5 hP,rp 3 (oI ((eqI x0.pick.place (-1))=true)),oR True ((eqI x0.pick.place (-1))=true),bT h17,oO (Eq.refl ([19].map e_i64).length),aO e_i64 h18] (QkR Γ rv h)
 ·exact gn 5 [2,11,12] [0,1] [rp 5 hP,rp 3 (oI ((eqI x0.pick.place (-1))=true)),oR True ((eqI x0.pick.place (-1))=true),bF h17] (QkR Γ rv h)
theorem QkW (Γ:Gam) (rv:List Int) {types x0 l10} (h:Qhh types x0 l10=some rv):Qbx Γ rv ⟨[.c 2047],⟨156,[vI 2 types,vO 11 0 1 l10 e_i64,vP 12 1 16],[oS 1 38 l10 e_i64,oX 16 74 (Qag.enc x0)]⟩⟩:=by
 unfold Qhh at h
 obtain ⟨r14,h52,h⟩:=Qae h
 rcases Qah h with ⟨h53,h⟩|⟨h53,h⟩
 ·obtain ⟨r15,h54,h⟩:=Qae h
  rcases Qah h with ⟨h55,h⟩|⟨h55,h⟩
  ·obtain ⟨h56,h⟩:=Qau h
   obtain rfl:=Option.some.inj h
   exact gr 9 [] [rp 5 hP,rp 3 (oI ((neI x0.pick.place (-1))=true)),oR True ((neI x0.pick.place (-1))=true),cC (QaG h52),rp 3 (nF h53),cC (QaG h54),rp 2 (nF h53),rp 26 hP,rp 4 (oI ((!r15)=false)),oI (((!r15)=false)∧(gtI x0.split 1)=true),oR True ((!r15)=false),rp 2 (oI (((!r15)||((gtI x0.split 1)&&((neI x0.pick.place (-1))&&(neI x0.drop.place (-1)))))=false)),oR True (((!r15)||((gtI x0.split 1)&&((neI x0.pick.place (-1))&&(neI x0.drop.place (-1)))))=false),rp 3 (oI ((((!r15)||((gtI x0.split 1)&&((neI x0.pick.place (-1))&&(neI x0.drop.place (-1)))))||(ltI x0.last_ (-1)))=false)),oR True ((((!r15)||((gtI x0.split 1)&&((neI x0.pick.place (-1))&&(neI x0.drop.place (-1)))))||(ltI x0.last_ (-1)))=false),rp 2 (oI (((((!r15)||((gtI x0.split 1)&&((neI x0.pick.place (-1))&&(neI x0.drop.place (-1)))))||(ltI x0.last_ (-1)))||(geI x0.last_ types))=false)),oR True (((((!r15)||((gtI x0.split 1)&&((neI x0.pick.place (-1))&&(neI x0.drop.place (-1)))))||(ltI x0.last_ (-1)))||(geI x0.last_ types))=false),rp 3 (oI ((((((!r15)||((gtI x0.split 1)&&((neI x0.pick.place (-1))&&(neI x0.drop.place (-1)))))||(ltI x0.last_ (-1)))||(geI x0.last_ types))||(ltI x0.now (-1)))=false)),oR True ((((((!r15)||((gtI x0.split 1)&&((neI x0.pick.place (-1))&&(neI x0.drop.place (-1)))))||(ltI x0.last_ (-1)))||(geI x0.last_ types))||(ltI x0.now (-1)))=false),bT h55,oO (Eq.refl ([2].map e_i64).length),aO e_i64 h56,hW 5,hH (.frz 3),rp 4 (oO (Eq.refl ((l10++[2]).map e_i64).length))]
  ·obtain rfl:=Option.some.inj h
   exact gr 9 [] [rp 5 hP,rp 3 (oI ((neI x0.pick.place (-1))=true)),oR True ((neI x0.pick.place (-1))=true),cC (QaG h52),rp 3 (nF h53),cC (QaG h54),rp 2 (nF h53),rp 26 hP,rp 4 (oI ((!r15)=false)),oI (((!r15)=false)∧(gtI x0.split 1)=true),oR True ((!r15)=false),rp 2 (oI (((!r15)||((gtI x0.split 1)&&((neI x0.pick.place (-1))&&(neI x0.drop.place (-1)))))=false)),oR True (((!r15)||((gtI x0.split 1)&&((neI x0.pick.place (-1))&&(neI x0.drop.place (-1)))))=false),rp 3 (oI ((((!r15)||((gtI x0.split 1)&&((neI x0.pick.place (-1))&&(neI x0.drop.place (-1)))))||(ltI x0.last_ (-1)))=false)),oR True ((((!r15)||((gtI x0.split 1)&&((neI x0.pick.place (-1))&&(neI x0.drop.place (-1)))))||(ltI x0.last_ (-1)))=false),rp 2 (oI (((((!r15)||((gtI x0.split 1)&&((neI x0.pick.place (-1))&&(neI x0.drop.place (-1)))))||(ltI x0.last_ (-1)))||(geI x0.last_ types))=false)),oR True (((((!r15)||((gtI x0.split 1)&&((neI x0.pick.place (-1))&&(neI x0.drop.place (-1)))))||(ltI x0.last_ (-1)))||(geI x0.last_ types))=false),rp 3 (oI ((((((!r15)||((gtI x0.split 1)&&((neI x0.pick.place (-1))&&(neI x0.drop.place (-1)))))||(ltI x0.last_ (-1)))||(geI x0.last_ types))||(ltI x0.now (-1)))=false)),oR True ((((((!r15)||((gtI x0.split 1)&&((neI x0.pick.place (-1))&&(neI x0.drop.place (-1)))))||(ltI x0.last_ (-1)))||(geI x0.last_ types))||(ltI x0.now (-1)))=false),bF h55,hW 5,hH (.frz 0),rp 3 (eL l10 e_i64)]
 ·obtain ⟨h57,h⟩:=Qau h
  obtain rfl:=Option.some.inj h
  exact gr 9 [] [rp 5 hP,rp 3 (oI ((neI x0.pick.place (-1))=true)),oR True ((neI x0.pick.place (-1))=true),cC (QaG h52),rp 5 (nT h53),rp 4 tT,kF,rp 21 tT,oO (Eq.refl ([2].map e_i64).length),aO e_i64 h57,hW 5,hH (.frz 3),rp 4 (oO (Eq.refl ((l10++[2]).map e_i64).length))]
theorem QjR (Γ:Gam) (rv:List Int) {types x0 l12} (h:Qgx types x0 l12=some rv):Qbx Γ rv ⟨[.c 2047],⟨156,[vI 2 types,vO 11 0 1 l12 e_i64,vP 12 1 16],[oS 1 38 l12 e_i64,oX 16 74 (Qag.enc x0)]⟩⟩:=by
 unfold Qgx at h
 obtain ⟨r18,h64,h⟩:=Qae h
 rcases Qah h with ⟨h65,h⟩|⟨h65,h⟩
 ·obtain ⟨r19,h66,h⟩:=Qae h
  rcases Qah h with ⟨h67,h⟩|⟨h67,h⟩
  ·obtain ⟨h68,h⟩:=Qau h
   obtain rfl:=Option.some.inj h
   exact gr 9 [] [rp 5 hP,rp 3 (oI ((neI x0.pick.place (-1))=true)),oR True ((neI x0.pick.place (-1))=true),cC (QaG h64),rp 3 (nF h65),cC (QaG h66),rp 2 (nF h65),rp 26 hP,rp 4 (oI ((!r19)=false)),oI (((!r19)=false)∧(gtI x0.split 1)=true),oR True ((!r19)=false),rp 2 (oI (((!r19)||((gtI x0.split 1)&&((neI x0.pick.place (-1))&&(neI x0.drop.place (-1)))))=false)),oR True (((!r19)||((gtI x0.split 1)&&((neI x0.pick.place (-1))&&(neI x0.drop.place (-1)))))=false),rp 3 (oI ((((!r19)||((gtI x0.split 1)&&((neI x0.pick.place (-1))&&(neI x0.drop.place (-1)))))||(ltI x0.last_ (-1)))=false)),oR True ((((!r19)||((gtI x0.split 1)&&((neI x0.pick.place (-1))&&(neI x0.drop.place (-1)))))||(ltI x0.last_ (-1)))=false),rp 2 (oI (((((!r19)||((gtI x0.split 1)&&((neI x0.pick.place (-1))&&(neI x0.drop.place (-1)))))||(ltI x0.last_ (-1)))||(geI x0.last_ types))=false)),oR True (((((!r19)||((gtI x0.split 1)&&((neI x0.pick.place (-1))&&(neI x0.drop.place (-1)))))||(ltI x0.last_ (-1)))||(geI x0.last_ types))=false),rp 3 (oI ((((((!r19)||((gtI x0.split 1)&&((neI x0.pick.place (-1))&&(neI x0.drop.place (-1)))))||(ltI x0.last_ (-1)))||(geI x0.last_ types))||(ltI x0.now (-1)))=false)),oR True ((((((!r19)||((gtI x0.split 1)&&((neI x0.pick.place (-1))&&(neI x0.drop.place (-1)))))||(ltI x0.last_ (-1)))||(geI x0.last_ types))||(ltI x0.now (-1)))=false),bT h67,oO (Eq.refl ([2].map e_i64).length),aO e_i64 h68,hW 5,hH (.frz 3),rp 4 (oO (Eq.refl ((l12++[2]).map e_i64).length))]
  ·obtain rfl:=Option.some.inj h
   exact gr 9 [] [rp 5 hP,rp 3 (oI ((neI x0.pick.place (-1))=true)),oR True ((neI x0.pick.place (-1))=true),cC (QaG h64),rp 3 (nF h65),cC (QaG h66),rp 2 (nF h65),rp 26 hP,rp 4 (oI ((!r19)=false)),oI (((!r19)=false)∧(gtI x0.split 1)=true),oR True ((!r19)=false),rp 2 (oI (((!r19)||((gtI x0.split 1)&&((neI x0.pick.place (-1))&&(neI x0.drop.place (-1)))))=false)),oR True (((!r19)||((gtI x0.split 1)&&((neI x0.pick.place (-1))&&(neI x0.drop.place (-1)))))=false),rp 3 (oI ((((!r19)||((gtI x0.split 1)&&((neI x0.pick.place (-1))&&(neI x0.drop.place (-1)))))||(ltI x0.last_ (-1)))=false)),oR True ((((!r19)||((gtI x0.split 1)&&((neI x0.pick.place (-1))&&(neI x0.drop.place (-1)))))||(ltI x0.last_ (-1)))=false),rp 2 (oI (((((!r19)||((gtI x0.split 1)&&((neI x0.pick.place (-1))&&(neI x0.drop.place (-1)))))||(ltI x0.last_ (-1)))||(geI x0.last_ types))=false)),oR True (((((!r19)||((gtI x0.split 1)&&((neI x0.pick.place (-1))&&(neI x0.drop.place (-1)))))||(ltI x0.last_ (-1)))||(geI x0.last_ types))=false),rp 3 (oI ((((((!r19)||((gtI x0.split 1)&&((neI x0.pick.place (-1))&&(neI x0.drop.place (-1)))))||(ltI x0.last_ (-1)))||(geI x0.last_ types))||(ltI x0.now (-1)))=false)),oR True ((((((!r19)||((gtI x0.split 1)&&((neI x0.pick.place (-1))&&(neI x0.drop.place (-1)))))||(ltI x0.last_ (-1)))||(geI x0.last_ types))||(ltI x0.now (-1)))=false),bF h67,hW 5,hH (.frz 0),rp 3 (eL l12 e_i64)]
 ·obtain ⟨h69,h⟩:=Qau h
  obtain rfl:=Option.some.inj h
  exact gr 9 [] [rp 5 hP,rp 3 (oI ((neI x0.pick.place (-1))=true)),oR True ((neI x0.pick.place (-1))=true),cC (QaG h64),rp 5 (nT h65),rp 4 tT,kF,rp 21 tT,oO (Eq.refl ([2].map e_i64).length),aO e_i64 h69,hW 5,hH (.frz 3),rp 4 (oO (Eq.refl ((l12++[2]).map e_i64).length))]
theorem QjQ (Γ:Gam) (rv:List Int) {types x0 l11} (h:Qgw types x0 l11=some rv):Qbx Γ rv ⟨[.c 1023],⟨156,[vI 2 types,vO 11 0 1 l11 e_i64,vP 12 1 16],[oS 1 38 l11 e_i64,oX 16 74 (Qag.enc x0)]⟩⟩:=by
 unfold Qgw at h
 obtain ⟨r17,h61,h⟩:=Qae h
 rcases Qah h with ⟨h62,h⟩|⟨h62,h⟩
 ·exact gn 5 [2,11,12] [0,1] [cC (QaG h61),nF h62] (QjR Γ rv h)
 ·obtain ⟨h63,h⟩:=Qau h
  exact gn 5 [2,11,12] [3,1] [cC (QaG h61),nT h62,oO (Eq.refl ([18].map e_i64).length),aO e_i64 h63] (QjR Γ rv h)
theorem QkV (Γ:Gam) (rv:List Int) {types x0 l9} (h:Qhg types x0 l9=some rv):Qbx Γ rv ⟨[.c 511],⟨156,[vI 2 types,vO 11 0 1 l9 e_i64,vP 12 1 16],[oS 1 38 l9 e_i64,oX 16 74 (Qag.enc x0)]⟩⟩:=by
 unfold Qhg at h
 obtain ⟨r12,h46,h⟩:=Qae h
 rcases Qah h with ⟨h47,h⟩|⟨h47,h⟩
 ·obtain ⟨h48,h⟩:=Qau h
  obtain ⟨r13,h49,h⟩:=Qae h
  rcases Qah h with ⟨h50,h⟩|⟨h50,h⟩
  ·exact gn 10 [2,11,12] [3,1] [cC (Qby h46),rp 5 (bT h47),tT,oO (Eq.refl ([14].map e_i64).length),aO e_i64 h48,cC (QaG h49),nF h50] (QkW Γ rv h)
  ·obtain ⟨h51,h⟩:=Qau h
   exact gn 10 [2,11,12] [5,1] [cC (Qby h46),rp 5 (bT h47),tT,oO (Eq.refl ([14].map e_i64).length),aO e_i64 h48,cC (QaG h49),nT h50,oO (Eq.refl ([18].map e_i64).length),aO e_i64 h51] (QkW Γ rv h)
 ·obtain ⟨r16,h58,h⟩:=Qae h
  rcases Qah h with ⟨h59,h⟩|⟨h59,h⟩
  ·obtain ⟨h60,h⟩:=Qau h
   exact gn 5 [2,11,12] [3,1] [cC (Qby h46),rp 3 (bF h47),cC (Qby h58),rp 2 (bF h47),bT h59,oO (Eq.refl ([14].map e_i64).length),aO e_i64 h60] (QjQ Γ rv h)
  ·exact gn 5 [2,11,12] [0,1] [cC (Qby h46),rp 3 (bF h47),cC (Qby h58),rp 2 (bF h47),bF h59] (QjQ Γ rv h)
theorem QkP (Γ:Gam) (rv:List Int) {places types x0 l3} (h:Qb0 places types x0 l3=some rv):Qbx Γ rv ⟨[.c 127],⟨156,[vI 0 places,vI 2 types,vO 11 0 1 l3 e_i64,vP 12 1 16],[oS 1 38 l3 e_i64,oX 16 74 (Qag.enc x0)]⟩⟩:=by
 unfold Qb0 at h
 obtain ⟨r2,h12,h⟩:=Qae h
 rcases Qah h with ⟨h13,h⟩|⟨h13,h⟩
 ·obtain ⟨r3,h14,h⟩:=Qae h
  rcases Qah h with ⟨h15,h⟩|⟨h15,h⟩
  ·exact gn 5 [2,11,12] [0,1] [cC (QaG h12),rp 6 (nF h13),cC (QaG h14),rp 2 (nF h13),nF h15] (QkQ Γ rv h)
  ·obtain ⟨h16,h⟩:=Qau h
   exact gn 5 [2,11,12] [3,1] [cC (QaG h12),rp 6 (nF h13),cC (QaG h14),rp 2 (nF h13),nT h15,oO (Eq.refl ([11].map e_i64).length),aO e_i64 h16] (QkQ Γ rv h)
 ·obtain ⟨h43,h⟩:=Qau h
  rcases Qah h with ⟨h44,h⟩|⟨h44,h⟩
  ·obtain ⟨h45,h⟩:=Qau h
   exact gn 10 [2,11,12] [5,1] [cC (QaG h12),rp 8 (nT h13),tT,oO (Eq.refl ([11].map e_i64).length),aO e_i64 h43,rp 5 hP,rp 3 (oI ((eqI x0.pick.place (-1))=true)),oR True ((eqI x0.pick.place (-1))=true),bT h44,oO (Eq.refl ([19].map e_i64).length),aO e_i64 h45] (QkV Γ rv h)
  ·exact gn 10 [2,11,12] [3,1] [cC (QaG h12),rp 8 (nT h13),tT,oO (Eq.refl ([11].map e_i64).length),aO e_i64 h43,rp 5 hP,rp 3 (oI ((eqI x0.pick.place (-1))=true)),oR True ((eqI x0.pick.place (-1))=true),bF h44] (QkV Γ rv h)
theorem QkO (Γ:Gam) (rv:List Int) {places dims types l at_ x0 l1} (h:Qeo places dims types l at_ x0 l1=some rv):Qbx Γ rv ⟨[.c 31],⟨156,[vI 0 places,vI 1 dims,vI 2 types,vL 3 16 l Qag.enc,vI 4 at_,vO 11 0 1 l1 e_i64,vP 12 1 16],[oS 1 38 l1 e_i64,oX 16 74 (Qag.enc x0)]⟩⟩:=by
 unfold Qeo at h
 obtain ⟨e0,h8,h⟩:=Qae h
 refine gn 5 [0,1,2,3,4,11,12,13] [0,1] [] (QqM Γ rv h8 ?_)
 obtain ⟨l2,rfl⟩:∃ x,x=e0:=⟨_,rfl⟩
 replace h:(bnd (Qe9 x0.load dims) fun r1=>br r1 (Qb0 places types x0 l2) (chk (okN (l2++[17]).length 8) (Qb0 places types x0 (l2++[17]))):Option (List Int))=some _:=h
 obtain ⟨r1,h9,h⟩:=Qae h
 rcases Qah h with ⟨h10,h⟩|⟨h10,h⟩
 ·exact gn 5 [0,2,11,12] [0,1] [cC (QnL h9),nF h10] (QkP Γ rv h)
 ·obtain ⟨h11,h⟩:=Qau h
  exact gn 5 [0,2,11,12] [3,1] [cC (QnL h9),nT h10,oO (Eq.refl ([17].map e_i64).length),aO e_i64 h11] (QkP Γ rv h)
theorem QsS {places dims types l at_} {rv:List Int} (h:Qhy places dims types l at_=some rv):AFn Tryz.prog 92 [.one (lI places),.one (lI dims),.one (lI types),.one (lL 16 l Qag.enc),.one (lI at_)] [] (one (lL 1 rv e_i64)) []:=by
 refine QaL Tryz.func92 (by kernel_rfl) (by kernel_rfl) (fun Γ=>?_)
 unfold Qhy at h
 obtain ⟨x0,h0,h⟩:=Qae h
 obtain ⟨r,h1,h⟩:=Qae h
 rcases Qah h with ⟨h2,h⟩|⟨h2,h⟩
 ·exact gn 11 [0,1,2,3,4,11,12] [1,0] [cE Qag.enc h0,cC (QeU h1),nF h2,hW 1,hH (.adopt 11 1 38)] (QkO Γ rv h)
 ·obtain ⟨h3,h⟩:=Qau h
  exact gn 11 [0,1,2,3,4,11,12] [2,0] [cE Qag.enc h0,cC (QeU h1),nT h2,oO (Eq.refl ([5].map e_i64).length),aN (l:=([5]:List Int)) e_i64 h3] (QkO Γ rv h)
def Qgc (Γ:Gam) (rv:List Qab) (cf:Cf):Prop:=Go Tryz.prog Tryz.f60 [] Γ (one (lL 2 rv Qab.enc)) [] cf
def Ql2 (Γ:Gam) (rv:List Qab) (n:Qal) (dims:Int) (types:Int) (l:List Qag) (i:Int) (r:List Int) (l3:List Qab) (k:Int):Prop:=Qgc Γ rv ⟨[.c 31308,.l 31308,.b 2,.b 1,.c 979,.l 244,.b 0,.c 31],⟨51,[vI 1 dims,vI 2 types,vL 3 16 l Qag.enc,vP 4 0 2,vO 9 1 2 l3 Qab.enc,vI 10 i,vL 11 1 r e_i64,vI 12 k],[oX 2 25 (Qal.enc n),oS 2 146 l3 Qab.enc]⟩⟩
def QkN (Γ:Gam) (rv:List Qab) (n:Qal) (dims:Int) (types:Int) (l:List Qag) (i:Int) (r:List Int) (l4:List Qab):Prop:=Qgc Γ rv ⟨[.b 1,.c 979,.l 244,.b 0,.c 31],⟨51,[vI 1 dims,vI 2 types,vL 3 16 l Qag.enc,vP 4 0 2,vO 9 1 2 l4 Qab.enc,vI 10 i],[oX 2 25 (Qal.enc n),oS 2 146 l4 Qab.enc]⟩⟩
def Ql1 (Γ:Gam) (rv:List Qab) (n:Qal) (dims:Int) (types:Int) (l:List Qag) (l2:List Qab) (i:Int):Prop:=Qgc Γ rv ⟨[.c 244,.l 244,.b 0,.c 31],⟨51,[vI 1 dims,vI 2 types,vL 3 16 l Qag.enc,vP 4 0 2,vO 9 1 2 l2 Qab.enc,vI 10 i],[oX 2 25 (Qal.enc n),oS 2 146 l2 Qab.enc]⟩⟩
def QkM (Γ:Gam) (rv:List Qab) (n:Qal) (dims:Int) (types:Int) (l:List Qag) (l5:List Qab):Prop:=Qgc Γ rv ⟨[.c 31],⟨51,[vO 9 0 2 l5 Qab.enc],[oS 2 146 l5 Qab.enc]⟩⟩
theorem QqL (Γ:Gam) (rv:List Qab) {n dims types l i r} {s:List Qab×Int} {e:List Qab} (h:loopF (fun s=>Qhe n dims types l i r s.1 s.2) s=some e) (hD:QkN Γ rv n dims types l i r e):Ql2 Γ rv n dims types l i r s.1 s.2:=by
 refine QaB (C:=fun (s:List Qab×Int)=>Ql2 Γ rv n dims types l i r s.1 s.2) (D:=fun (e:List Qab)=>QkN Γ rv n dims types l i r e) ?_ h hD
 clear h hD s e
 rintro ⟨l3,k⟩ z_ h hI hE
 replace h:Qhe n dims types l i r l3 k=_:=h
 unfold Qhe at h
 rcases Qah h with ⟨h4,h⟩|⟨h4,h⟩
 ·obtain ⟨x0,h5,h⟩:=Qae h
  obtain ⟨r1,h6,h⟩:=Qae h
  obtain ⟨h7,h⟩:=Qau h
  exact gn 11 [1,2,3,4,9,10,11,12] [0,3] [nL e_i64 r,bT h4,hH (.draw 9 []),cE e_i64 h5,cC (QbU h6),oO (Eq.refl ([(Qab.mk x0 r1)].map Qab.enc).length),aO Qab.enc h7] (hI _ (oJ h))
 ·exact gn 5 [1,2,3,4,9,10] [0,1] [nL e_i64 r,bF h4] (hE _ (oJ h))
theorem QqK (Γ:Gam) (rv:List Qab) {n dims types l} {s:List Qab×Int} {e:List Qab} (h:loopF (fun s=>Qc9 n dims types l s.1 s.2) s=some e) (hD:QkM Γ rv n dims types l e):Ql1 Γ rv n dims types l s.1 s.2:=by
 refine QaB (C:=fun (s:List Qab×Int)=>Ql1 Γ rv n dims types l s.1 s.2) (D:=fun (e:List Qab)=>QkM Γ rv n dims types l e) ?_ h hD
 clear h hD s e
 rintro ⟨l2,i⟩ z_ h hI hE
 replace h:Qc9 n dims types l l2 i=_:=h
 unfold Qc9 at h
 rcases Qah h with ⟨h2,h⟩|⟨h2,h⟩
 ·obtain ⟨r,h3,h⟩:=Qae h
  obtain ⟨e0,h8,h⟩:=Qae h
  refine gn 13 [1,2,3,4,9,10,11,12] [0,1] [nL Qag.enc l,bT h2,nL e_str n.places,cC (QsS h3)] (QqL Γ rv h8 ?_)
  obtain ⟨l4,rfl⟩:∃ x,x=e0:=⟨_,rfl⟩
  replace h:(some (.inl (l4,(addK .i64 i 1))):Option ((List Qab×Int)⊕(List Qab)))=some _:=h
  exact gn 3 [1,2,3,4,9,10] [0,1] [] (hI _ (oJ h))
 ·exact gn 5 [9] [1] [nL Qag.enc l,bF h2] (hE _ (oJ h))
theorem QkL (Γ:Gam) (rv:List Qab) {n dims types l l1} (h:QfF n dims types l l1=some rv):Qgc Γ rv ⟨[.c 15],⟨51,[vI 1 dims,vI 2 types,vL 3 16 l Qag.enc,vP 4 0 2,vO 9 1 2 l1 Qab.enc],[oX 2 25 (Qal.enc n),oS 2 146 l1 Qab.enc]⟩⟩:=by
 unfold QfF at h
 obtain ⟨e1,h9,h⟩:=Qae h
 refine gn 5 [1,2,3,4,9,10] [0,1] [] (QqK Γ rv h9 ?_)
 obtain ⟨l5,rfl⟩:∃ x,x=e1:=⟨_,rfl⟩
 replace h:(some l5:Option (List Qab))=some _:=h
 obtain rfl:=Option.some.inj h
 exact gr 2 [] [hW 4,hH (.frz 0),rp 3 (eL l5 Qab.enc)]
theorem QsQ {n dims types l} {rv:List Qab} (h:Qhx n dims types l=some rv):AFn Tryz.prog 60 [.agg (Qal.enc n),.one (lI dims),.one (lI types),.one (lL 16 l Qag.enc)] [] (one (lL 2 rv Qab.enc)) []:=by
 refine QaL Tryz.func60 (by kernel_rfl) (by kernel_rfl) (fun Γ=>?_)
 unfold Qhx at h
 rcases Qah h with ⟨h0,h⟩|⟨h0,h⟩
 ·obtain ⟨h1,h⟩:=Qau h
  exact gn 9 [1,2,3,4,9] [0,2] [nL Qag.enc l,bT h0,oO (Eq.refl ([(Qab.mk 4 ByteArray.empty)].map Qab.enc).length),aN (l:=([(Qab.mk 4 ByteArray.empty)]:List Qab)) Qab.enc h1] (QkL Γ rv h)
 ·exact gn 9 [1,2,3,4,9] [0,1] [nL Qag.enc l,bF h0,hW 1,hH (.adopt 9 2 146)] (QkL Γ rv h)
def Qm1 (Γ:Gam) (rv:ByteArray) (cf:Cf):Prop:=Go Tryz.prog Tryz.f126 [] Γ (one (.str rv)) [] cf
def QjS (Γ:Gam) (rv:ByteArray) (n1:Int) (s0:ByteArray):Prop:=Qm1 Γ rv ⟨[.c 56,.l 56,.b 0,.c 15],⟨23,[vI 0 n1,vS 3 s0],[]⟩⟩
def Qjm (Γ:Gam) (rv:ByteArray) (n2:Int) (s1:ByteArray):Prop:=Qm1 Γ rv ⟨[.c 15],⟨23,[vI 0 n2,vS 3 s1],[]⟩⟩
theorem Qpk (Γ:Gam) (rv:ByteArray) {s:Int×ByteArray} {e:Int×ByteArray} (h:loopF (fun s=>QdA s.1 s.2) s=some e) (hD:Qjm Γ rv e.1 e.2):QjS Γ rv s.1 s.2:=by
 refine QaB (C:=fun (s:Int×ByteArray)=>QjS Γ rv s.1 s.2) (D:=fun (e:Int×ByteArray)=>Qjm Γ rv e.1 e.2) ?_ h hD
 clear h hD s e
 rintro ⟨n1,s0⟩ z_ h hI hE
 replace h:QdA n1 s0=_:=h
 unfold QdA at h
 rcases Qah h with ⟨h0,h⟩|⟨h0,h⟩
 ·obtain ⟨h1,h⟩:=Qau h
  exact gn 11 [0,3] [] [bT h0,hH (.ints [(cvK .u8 (addK .i64 48 (remK n1 10)))]),oO (oA (n:=10)),oO (Eq.refl ([(cvK .u8 (addK .i64 48 (remK n1 10)))].map e_u8).length),oO (Eq.refl (([(cvK .u8 (addK .i64 48 (remK n1 10)))].map e_u8):List (List Lf))),oO (h1),oO (oA (n:=10))] (hI _ (oJ h))
 ·exact gn 5 [0,3] [] [bF h0] (hE _ (oJ h))
theorem Qf0 {n} {rv:ByteArray} (h:QeW n=some rv):AFn Tryz.prog 126 [.one (lI n)] [] (one (.str rv)) []:=by
 refine QaL Tryz.func126 (by kernel_rfl) (by kernel_rfl) (fun Γ=>?_)
 unfold QeW at h
 obtain ⟨e0,h2,h⟩:=Qae h
 refine gn 7 [0,3] [] [] (Qpk Γ rv h2 ?_)
 obtain ⟨n2,s1⟩:=e0
 replace h:(chk ((Qr9 [(cvK .u8 (addK .i64 48 n2))]).size+s1.size≤9223372036854775807) (some (catS (Qr9 [(cvK .u8 (addK .i64 48 n2))]) s1)):Option ByteArray)=some _:=h
 obtain ⟨h3,h⟩:=Qau h
 obtain rfl:=Option.some.inj h
 exact gr 2 [] [hH (.ints [(cvK .u8 (addK .i64 48 n2))]),oO (Eq.refl ([(cvK .u8 (addK .i64 48 n2))].map e_u8).length),oO (Eq.refl (([(cvK .u8 (addK .i64 48 n2))].map e_u8):List (List Lf))),oO (h3)]
def QfG (Γ:Gam) (rv:List Qab) (cf:Cf):Prop:=Go Tryz.prog Tryz.f93 [] Γ (one (lL 2 rv Qab.enc)) [] cf
def QkZ (Γ:Gam) (rv:List Qab) (orders:Int) (l:List QaQ) (word:ByteArray) (turned:Bool) (l2:List Qab) (i:Int) (x0:QaQ) (r:ByteArray) (twice:Bool) (k:Int):Prop:=QfG Γ rv ⟨[.c 1001972,.l 1001972,.b 2,.c 125247,.b 1,.c 979,.l 244,.b 0,.c 31],⟨123,[vI 0 orders,vL 1 2 l QaQ.enc,vS 2 word,vB 3 turned,vO 9 0 2 l2 Qab.enc,vI 10 i,vI 11 x0.x0,vI 12 x0.x1,vS 13 (catS (catS word Qc5) r),vB 14 twice,vI 15 k],[oS 2 146 l2 Qab.enc]⟩⟩
def QjV (Γ:Gam) (rv:List Qab) (orders:Int) (l:List QaQ) (word:ByteArray) (turned:Bool) (l2:List Qab) (i:Int) (x0:QaQ) (r:ByteArray) (twice1:Bool):Prop:=QfG Γ rv ⟨[.c 125247,.b 1,.c 979,.l 244,.b 0,.c 31],⟨123,[vI 0 orders,vL 1 2 l QaQ.enc,vS 2 word,vB 3 turned,vO 9 0 2 l2 Qab.enc,vI 10 i,vS 13 (catS (catS word Qc5) r),vB 14 twice1],[oS 2 146 l2 Qab.enc]⟩⟩
def QkY (Γ:Gam) (rv:List Qab) (orders:Int) (l:List QaQ) (word:ByteArray) (turned:Bool) (l2:List Qab) (i:Int):Prop:=QfG Γ rv ⟨[.c 244,.l 244,.b 0,.c 31],⟨123,[vI 0 orders,vL 1 2 l QaQ.enc,vS 2 word,vB 3 turned,vO 9 0 2 l2 Qab.enc,vI 10 i],[oS 2 146 l2 Qab.enc]⟩⟩
def QjU (Γ:Gam) (rv:List Qab) (orders:Int) (l:List QaQ) (word:ByteArray) (turned:Bool) (l3:List Qab):Prop:=QfG Γ rv ⟨[.c 31],⟨123,[vO 9 0 2 l3 Qab.enc],[oS 2 146 l3 Qab.enc]⟩⟩
theorem Qp1 (Γ:Gam) (rv:List Qab) {orders l word turned l2 i x0 r} {s:Bool×Int} {e:Bool} (h:loopF (fun s=>QdM orders l word turned l2 i x0 r s.1 s.2) s=some e) (hD:QjV Γ rv orders l word turned l2 i x0 r e):QkZ Γ rv orders l word turned l2 i x0 r s.1 s.2:=by
 refine QaB (C:=fun (s:Bool×Int)=>QkZ Γ rv orders l word turned l2 i x0 r s.1 s.2) (D:=fun (e:Bool)=>QjV Γ rv orders l word turned l2 i x0 r e) ?_ h hD
 clear h hD s e
 rintro ⟨twice,k⟩ z_ h hI hE
 replace h:QdM orders l word turned l2 i x0 r twice k=_:=h
 unfold QdM at h
 rcases Qah h with ⟨h9,h⟩|⟨h9,h⟩
 ·rcases Qah h with ⟨h10,h⟩|⟨h10,h⟩
  ·exact gn 11 [0,1,2,3,9,10,11,12,13,14,15] [0] [bT h9,rp 8 (bT h10),rp 7 kF,rp 2 (bT h10),tT,tT,rp 7 kF,tT,tT,rp 7 kF,tT,tT] (hI _ (oJ h))
  ·obtain ⟨x1,h11,h⟩:=Qae h
   rcases Qah h with ⟨h12,h⟩|⟨h12,h⟩
   ·rcases Qah h with ⟨h13,h⟩|⟨h13,h⟩
    ·exact gn 11 [0,1,2,3,9,10,11,12,13,14,15] [0] [bT h9,rp 3 (bF h10),cE QaQ.enc h11,bF h10,oO (zL 0),oO (lT 0 2),rp 4 (bF h10),rp 3 (bT h12),cE QaQ.enc h11,bT h12,oO (zL 1),oO (lT 1 2),rp 3 (bT h12),bF h10,bT h12,bF h10,rp 2 (bT h13),rp 7 kF,rp 2 (bT h13),rp 7 kF,rp 2 (bT h13)] (hI _ (oJ h))
    ·rcases Qah h with ⟨h14,h⟩|⟨h14,h⟩
     ·rcases Qah h with ⟨h15,h⟩|⟨h15,h⟩
      ·exact gn 11 [0,1,2,3,9,10,11,12,13,14,15] [0] [bT h9,rp 3 (bF h10),cE QaQ.enc h11,bF h10,oO (zL 0),oO (lT 0 2),rp 4 (bF h10),rp 3 (bT h12),cE QaQ.enc h11,bT h12,oO (zL 1),oO (lT 1 2),rp 3 (bT h12),bF h10,bT h12,bF h10,rp 2 (bF h13),rp 3 (bT h14),cE QaQ.enc h11,bT h14,oO (zL 0),oO (lT 0 2),rp 3 (bT h14),bF h13,bT h14,bF h13,rp 3 (bT h15),cE QaQ.enc h11,bT h15,oO (zL 1),oO (lT 1 2),rp 3 (bT h15),bF h13,bT h15,bF h13] (hI _ (oJ h))
      ·exact gn 11 [0,1,2,3,9,10,11,12,13,14,15] [0] [bT h9,rp 3 (bF h10),cE QaQ.enc h11,bF h10,oO (zL 0),oO (lT 0 2),rp 4 (bF h10),rp 3 (bT h12),cE QaQ.enc h11,bT h12,oO (zL 1),oO (lT 1 2),rp 3 (bT h12),bF h10,bT h12,bF h10,rp 2 (bF h13),rp 3 (bT h14),cE QaQ.enc h11,bT h14,oO (zL 0),oO (lT 0 2),rp 3 (bT h14),bF h13,bT h14,bF h13,rp 7 (bF h15),bF h13,bF h15,bF h13] (hI _ (oJ h))
     ·exact gn 11 [0,1,2,3,9,10,11,12,13,14,15] [0] [bT h9,rp 3 (bF h10),cE QaQ.enc h11,bF h10,oO (zL 0),oO (lT 0 2),rp 4 (bF h10),rp 3 (bT h12),cE QaQ.enc h11,bT h12,oO (zL 1),oO (lT 1 2),rp 3 (bT h12),bF h10,bT h12,bF h10,rp 2 (bF h13),rp 7 (bF h14),bF h13,bF h14,bF h13,rp 7 fF,bF h13,fF,bF h13] (hI _ (oJ h))
   ·rcases Qah h with ⟨h16,h⟩|⟨h16,h⟩
    ·rcases Qah h with ⟨h17,h⟩|⟨h17,h⟩
     ·exact gn 11 [0,1,2,3,9,10,11,12,13,14,15] [0] [bT h9,rp 3 (bF h10),cE QaQ.enc h11,bF h10,oO (zL 0),oO (lT 0 2),rp 4 (bF h10),rp 7 (bF h12),bF h10,bF h12,bF h10,fF,fF,rp 3 (bT h16),cE QaQ.enc h11,bT h16,oO (zL 0),oO (lT 0 2),rp 3 (bT h16),fF,bT h16,fF,rp 3 (bT h17),cE QaQ.enc h11,bT h17,oO (zL 1),oO (lT 1 2),rp 3 (bT h17),fF,bT h17,fF] (hI _ (oJ h))
     ·exact gn 11 [0,1,2,3,9,10,11,12,13,14,15] [0] [bT h9,rp 3 (bF h10),cE QaQ.enc h11,bF h10,oO (zL 0),oO (lT 0 2),rp 4 (bF h10),rp 7 (bF h12),bF h10,bF h12,bF h10,fF,fF,rp 3 (bT h16),cE QaQ.enc h11,bT h16,oO (zL 0),oO (lT 0 2),rp 3 (bT h16),fF,bT h16,fF,rp 7 (bF h17),fF,bF h17,fF] (hI _ (oJ h))
    ·exact gn 11 [0,1,2,3,9,10,11,12,13,14,15] [0] [bT h9,rp 3 (bF h10),cE QaQ.enc h11,bF h10,oO (zL 0),oO (lT 0 2),rp 4 (bF h10),rp 7 (bF h12),bF h10,bF h12,bF h10,fF,fF,rp 7 (bF h16),fF,bF h16,rp 11 fF] (hI _ (oJ h))
 ·exact gn 5 [0,1,2,3,9,10,13,14] [0] [bF h9] (hE _ (oJ h))
theorem Qp0 (Γ:Gam) (rv:List Qab) {orders l word turned} {s:List Qab×Int} {e:List Qab} (h:loopF (fun s=>QcH orders l word turned s.1 s.2) s=some e) (hD:QjU Γ rv orders l word turned e):QkY Γ rv orders l word turned s.1 s.2:=by
 refine QaB (C:=fun (s:List Qab×Int)=>QkY Γ rv orders l word turned s.1 s.2) (D:=fun (e:List Qab)=>QjU Γ rv orders l word turned e) ?_ h hD
 clear h hD s e
 rintro ⟨l2,i⟩ z_ h hI hE
 replace h:QcH orders l word turned l2 i=_:=h
 unfold QcH at h
 rcases Qah h with ⟨h2,h⟩|⟨h2,h⟩
 ·obtain ⟨x0,h3,h⟩:=Qae h
  obtain ⟨h4,h⟩:=Qau h
  obtain ⟨r,h5,h⟩:=Qae h
  obtain ⟨h6,h⟩:=Qau h
  rcases Qah h with ⟨h7,h⟩|⟨h7,h⟩
  ·obtain ⟨h8,h⟩:=Qau h
   exact gn 22 [0,1,2,3,9,10] [2] [nL QaQ.enc l,bT h2,cE QaQ.enc h3,oO (zL 0),oO (lT 0 2),cE QaQ.enc h3,oO (zL 1),oO (lT 1 2),oO (h4),cC (Qf0 h5),rp 15 hP,oO (h6),rp 2 (oI ((ltI x0.x0 0)=false)),oR True ((ltI x0.x0 0)=false),oI (((ltI x0.x0 0)||(geI x0.x0 orders))=false),oR True (((ltI x0.x0 0)||(geI x0.x0 orders))=false),rp 2 (oI ((((ltI x0.x0 0)||(geI x0.x0 orders))||(ltI x0.x1 0))=false)),oR True ((((ltI x0.x0 0)||(geI x0.x0 orders))||(ltI x0.x1 0))=false),rp 2 (oI (((((ltI x0.x0 0)||(geI x0.x0 orders))||(ltI x0.x1 0))||(geI x0.x1 orders))=false)),oR True (((((ltI x0.x0 0)||(geI x0.x0 orders))||(ltI x0.x1 0))||(geI x0.x1 orders))=false),bT h7,oO (Eq.refl ([(Qab.mk 2 (catS (catS word Qc5) r))].map Qab.enc).length),aO Qab.enc h8] (hI _ (oJ h))
  ·obtain ⟨e0,h18,h⟩:=Qae h
   refine gn 25 [0,1,2,3,9,10,11,12,13,14,15] [0] [nL QaQ.enc l,bT h2,cE QaQ.enc h3,oO (zL 0),oO (lT 0 2),cE QaQ.enc h3,oO (zL 1),oO (lT 1 2),oO (h4),cC (Qf0 h5),rp 15 hP,oO (h6),rp 2 (oI ((ltI x0.x0 0)=false)),oR True ((ltI x0.x0 0)=false),oI (((ltI x0.x0 0)||(geI x0.x0 orders))=false),oR True (((ltI x0.x0 0)||(geI x0.x0 orders))=false),rp 2 (oI ((((ltI x0.x0 0)||(geI x0.x0 orders))||(ltI x0.x1 0))=false)),oR True ((((ltI x0.x0 0)||(geI x0.x0 orders))||(ltI x0.x1 0))=false),rp 2 (oI (((((ltI x0.x0 0)||(geI x0.x0 orders))||(ltI x0.x1 0))||(geI x0.x1 orders))=false)),oR True (((((ltI x0.x0 0)||(geI x0.x0 orders))||(ltI x0.x1 0))||(geI x0.x1 orders))=false),bF h7] (Qp1 Γ rv h18 ?_)
   obtain ⟨twice1,rfl⟩:∃ x,x=e0:=⟨_,rfl⟩
   replace h:(br twice1 (chk (okN (l2++[(Qab.mk 6 (catS (catS word Qc5) r))]).length 24) (some (.inl ((l2++[(Qab.mk 6 (catS (catS word Qc5) r))]),(addK .i64 i 1))))) (some (.inl (l2,(addK .i64 i 1)))):Option ((List Qab×Int)⊕(List Qab)))=some _:=h
   rcases Qah h with ⟨h19,h⟩|⟨h19,h⟩
   ·obtain ⟨h20,h⟩:=Qau h
    exact gn 7 [0,1,2,3,9,10] [2] [bT h19,oO (Eq.refl ([(Qab.mk 6 (catS (catS word Qc5) r))].map Qab.enc).length),aO Qab.enc h20] (hI _ (oJ h))
   ·exact gn 7 [0,1,2,3,9,10] [0] [bF h19] (hI _ (oJ h))
 ·exact gn 5 [9] [0] [nL QaQ.enc l,bF h2] (hE _ (oJ h))
theorem QjT (Γ:Gam) (rv:List Qab) {orders l word turned l1} (h:Qfb orders l word turned l1=some rv):QfG Γ rv ⟨[.c 15],⟨123,[vI 0 orders,vL 1 2 l QaQ.enc,vS 2 word,vB 3 turned,vO 9 0 2 l1 Qab.enc],[oS 2 146 l1 Qab.enc]⟩⟩:=by
 unfold Qfb at h
 obtain ⟨e1,h21,h⟩:=Qae h
 refine gn 5 [0,1,2,3,9,10] [0] [] (Qp0 Γ rv h21 ?_)
 obtain ⟨l3,rfl⟩:∃ x,x=e1:=⟨_,rfl⟩
 replace h:(some l3:Option (List Qab))=some _:=h
 obtain rfl:=Option.some.inj h
 exact gr 2 [] [hW 4,hH (.frz 0),rp 3 (eL l3 Qab.enc)]
theorem Qsn {orders l word turned} {rv:List Qab} (h:QgN orders l word turned=some rv):AFn Tryz.prog 93 [.one (lI orders),.one (lL 2 l QaQ.enc),.one (.str word),.one (.bool turned)] [] (one (lL 2 rv Qab.enc)) []:=by
 refine QaL Tryz.func93 (by kernel_rfl) (by kernel_rfl) (fun Γ=>?_)
 unfold QgN at h
 rcases Qah h with ⟨h0,h⟩|⟨h0,h⟩
 ·obtain ⟨h1,h⟩:=Qau h
  exact gn 9 [0,1,2,3,9] [1] [nL QaQ.enc l,bT h0,oO (Eq.refl ([(Qab.mk 4 word)].map Qab.enc).length),aN (l:=([(Qab.mk 4 word)]:List Qab)) Qab.enc h1] (QjT Γ rv h)
 ·exact gn 9 [0,1,2,3,9] [0] [nL QaQ.enc l,bF h0,hW 1,hH (.adopt 9 2 146)] (QjT Γ rv h)
def QdH (Γ:Gam) (rv:List Qab) (cf:Cf):Prop:=Go Tryz.prog Tryz.f93 [] Γ (one (lO 0 2 rv Qab.enc)) [oS 2 146 rv Qab.enc] cf
def Qh9 (Γ:Gam) (rv:List Qab) (orders:Int) (l:List QaQ) (word:ByteArray) (turned:Bool) (l2:List Qab) (i:Int) (x0:QaQ) (r:ByteArray) (twice:Bool) (k:Int):Prop:=QdH Γ rv ⟨[.c 1001972,.l 1001972,.b 2,.c 125247,.b 1,.c 979,.l 244,.b 0,.c 31],⟨123,[vI 0 orders,vL 1 2 l QaQ.enc,vS 2 word,vB 3 turned,vO 9 0 2 l2 Qab.enc,vI 10 i,vI 11 x0.x0,vI 12 x0.x1,vS 13 (catS (catS word Qc5) r),vB 14 twice,vI 15 k],[oS 2 146 l2 Qab.enc]⟩⟩
def QhZ (Γ:Gam) (rv:List Qab) (orders:Int) (l:List QaQ) (word:ByteArray) (turned:Bool) (l2:List Qab) (i:Int) (x0:QaQ) (r:ByteArray) (twice1:Bool):Prop:=QdH Γ rv ⟨[.c 125247,.b 1,.c 979,.l 244,.b 0,.c 31],⟨123,[vI 0 orders,vL 1 2 l QaQ.enc,vS 2 word,vB 3 turned,vO 9 0 2 l2 Qab.enc,vI 10 i,vS 13 (catS (catS word Qc5) r),vB 14 twice1],[oS 2 146 l2 Qab.enc]⟩⟩
def Qh8 (Γ:Gam) (rv:List Qab) (orders:Int) (l:List QaQ) (word:ByteArray) (turned:Bool) (l2:List Qab) (i:Int):Prop:=QdH Γ rv ⟨[.c 244,.l 244,.b 0,.c 31],⟨123,[vI 0 orders,vL 1 2 l QaQ.enc,vS 2 word,vB 3 turned,vO 9 0 2 l2 Qab.enc,vI 10 i],[oS 2 146 l2 Qab.enc]⟩⟩
def QhY (Γ:Gam) (rv:List Qab) (orders:Int) (l:List QaQ) (word:ByteArray) (turned:Bool) (l3:List Qab):Prop:=QdH Γ rv ⟨[.c 31],⟨123,[vO 9 0 2 l3 Qab.enc],[oS 2 146 l3 Qab.enc]⟩⟩
theorem Qny (Γ:Gam) (rv:List Qab) {orders l word turned l2 i x0 r} {s:Bool×Int} {e:Bool} (h:loopF (fun s=>QeC orders l word turned l2 i x0 r s.1 s.2) s=some e) (hD:QhZ Γ rv orders l word turned l2 i x0 r e):Qh9 Γ rv orders l word turned l2 i x0 r s.1 s.2:=by
 refine QaB (C:=fun (s:Bool×Int)=>Qh9 Γ rv orders l word turned l2 i x0 r s.1 s.2) (D:=fun (e:Bool)=>QhZ Γ rv orders l word turned l2 i x0 r e) ?_ h hD
 clear h hD s e
 rintro ⟨twice,k⟩ z_ h hI hE
 replace h:QeC orders l word turned l2 i x0 r twice k=_:=h
 unfold QeC at h
 rcases Qah h with ⟨h9,h⟩|⟨h9,h⟩
 ·rcases Qah h with ⟨h10,h⟩|⟨h10,h⟩
  ·exact gn 11 [0,1,2,3,9,10,11,12,13,14,15] [0] [bT h9,rp 8 (bT h10),rp 7 kF,rp 2 (bT h10),tT,tT,rp 7 kF,tT,tT,rp 7 kF,tT,tT] (hI _ (oJ h))
  ·obtain ⟨x1,h11,h⟩:=Qae h
   rcases Qah h with ⟨h12,h⟩|⟨h12,h⟩
   ·rcases Qah h with ⟨h13,h⟩|⟨h13,h⟩
    ·exact gn 11 [0,1,2,3,9,10,11,12,13,14,15] [0] [bT h9,rp 3 (bF h10),cE QaQ.enc h11,bF h10,oO (zL 0),oO (lT 0 2),rp 4 (bF h10),rp 3 (bT h12),cE QaQ.enc h11,bT h12,oO (zL 1),oO (lT 1 2),rp 3 (bT h12),bF h10,bT h12,bF h10,rp 2 (bT h13),rp 7 kF,rp 2 (bT h13),rp 7 kF,rp 2 (bT h13)] (hI _ (oJ h))
    ·rcases Qah h with ⟨h14,h⟩|⟨h14,h⟩
     ·rcases Qah h with ⟨h15,h⟩|⟨h15,h⟩
      ·exact gn 11 [0,1,2,3,9,10,11,12,13,14,15] [0] [bT h9,rp 3 (bF h10),cE QaQ.enc h11,bF h10,oO (zL 0),oO (lT 0 2),rp 4 (bF h10),rp 3 (bT h12),cE QaQ.enc h11,bT h12,oO (zL 1),oO (lT 1 2),rp 3 (bT h12),bF h10,bT h12,bF h10,rp 2 (bF h13),rp 3 (bT h14),cE QaQ.enc h11,bT h14,oO (zL 0),oO (lT 0 2),rp 3 (bT h14),bF h13,bT h14,bF h13,rp 3 (bT h15),cE QaQ.enc h11,bT h15,oO (zL 1),oO (lT 1 2),rp 3 (bT h15),bF h13,bT h15,bF h13] (hI _ (oJ h))
      ·exact gn 11 [0,1,2,3,9,10,11,12,13,14,15] [0] [bT h9,rp 3 (bF h10),cE QaQ.enc h11,bF h10,oO (zL 0),oO (lT 0 2),rp 4 (bF h10),rp 3 (bT h12),cE QaQ.enc h11,bT h12,oO (zL 1),oO (lT 1 2),rp 3 (bT h12),bF h10,bT h12,bF h10,rp 2 (bF h13),rp 3 (bT h14),cE QaQ.enc h11,bT h14,oO (zL 0),oO (lT 0 2),rp 3 (bT h14),bF h13,bT h14,bF h13,rp 7 (bF h15),bF h13,bF h15,bF h13] (hI _ (oJ h))
     ·exact gn 11 [0,1,2,3,9,10,11,12,13,14,15] [0] [bT h9,rp 3 (bF h10),cE QaQ.enc h11,bF h10,oO (zL 0),oO (lT 0 2),rp 4 (bF h10),rp 3 (bT h12),cE QaQ.enc h11,bT h12,oO (zL 1),oO (lT 1 2),rp 3 (bT h12),bF h10,bT h12,bF h10,rp 2 (bF h13),rp 7 (bF h14),bF h13,bF h14,bF h13,rp 7 fF,bF h13,fF,bF h13] (hI _ (oJ h))
   ·rcases Qah h with ⟨h16,h⟩|⟨h16,h⟩
    ·rcases Qah h with ⟨h17,h⟩|⟨h17,h⟩
     ·exact gn 11 [0,1,2,3,9,10,11,12,13,14,15] [0] [bT h9,rp 3 (bF h10),cE QaQ.enc h11,bF h10,oO (zL 0),oO (lT 0 2),rp 4 (bF h10),rp 7 (bF h12),bF h10,bF h12,bF h10,fF,fF,rp 3 (bT h16),cE QaQ.enc h11,bT h16,oO (zL 0),oO (lT 0 2),rp 3 (bT h16),fF,bT h16,fF,rp 3 (bT h17),cE QaQ.enc h11,bT h17,oO (zL 1),oO (lT 1 2),rp 3 (bT h17),fF,bT h17,fF] (hI _ (oJ h))
     ·exact gn 11 [0,1,2,3,9,10,11,12,13,14,15] [0] [bT h9,rp 3 (bF h10),cE QaQ.enc h11,bF h10,oO (zL 0),oO (lT 0 2),rp 4 (bF h10),rp 7 (bF h12),bF h10,bF h12,bF h10,fF,fF,rp 3 (bT h16),cE QaQ.enc h11,bT h16,oO (zL 0),oO (lT 0 2),rp 3 (bT h16),fF,bT h16,fF,rp 7 (bF h17),fF,bF h17,fF] (hI _ (oJ h))
    ·exact gn 11 [0,1,2,3,9,10,11,12,13,14,15] [0] [bT h9,rp 3 (bF h10),cE QaQ.enc h11,bF h10,oO (zL 0),oO (lT 0 2),rp 4 (bF h10),rp 7 (bF h12),bF h10,bF h12,bF h10,fF,fF,rp 7 (bF h16),fF,bF h16,rp 11 fF] (hI _ (oJ h))
 ·exact gn 5 [0,1,2,3,9,10,13,14] [0] [bF h9] (hE _ (oJ h))
theorem Qnx (Γ:Gam) (rv:List Qab) {orders l word turned} {s:List Qab×Int} {e:List Qab} (h:loopF (fun s=>QeB orders l word turned s.1 s.2) s=some e) (hD:QhY Γ rv orders l word turned e):Qh8 Γ rv orders l word turned s.1 s.2:=by
 refine QaB (C:=fun (s:List Qab×Int)=>Qh8 Γ rv orders l word turned s.1 s.2) (D:=fun (e:List Qab)=>QhY Γ rv orders l word turned e) ?_ h hD
 clear h hD s e
 rintro ⟨l2,i⟩ z_ h hI hE
 replace h:QeB orders l word turned l2 i=_:=h
 unfold QeB at h
 rcases Qah h with ⟨h2,h⟩|⟨h2,h⟩
 ·obtain ⟨x0,h3,h⟩:=Qae h
  obtain ⟨h4,h⟩:=Qau h
  obtain ⟨r,h5,h⟩:=Qae h
  obtain ⟨h6,h⟩:=Qau h
  rcases Qah h with ⟨h7,h⟩|⟨h7,h⟩
  ·obtain ⟨h8,h⟩:=Qau h
   exact gn 22 [0,1,2,3,9,10] [2] [nL QaQ.enc l,bT h2,cE QaQ.enc h3,oO (zL 0),oO (lT 0 2),cE QaQ.enc h3,oO (zL 1),oO (lT 1 2),oO (h4),cC (Qf0 h5),rp 15 hP,oO (h6),rp 2 (oI ((ltI x0.x0 0)=false)),oR True ((ltI x0.x0 0)=false),oI (((ltI x0.x0 0)||(geI x0.x0 orders))=false),oR True (((ltI x0.x0 0)||(geI x0.x0 orders))=false),rp 2 (oI ((((ltI x0.x0 0)||(geI x0.x0 orders))||(ltI x0.x1 0))=false)),oR True ((((ltI x0.x0 0)||(geI x0.x0 orders))||(ltI x0.x1 0))=false),rp 2 (oI (((((ltI x0.x0 0)||(geI x0.x0 orders))||(ltI x0.x1 0))||(geI x0.x1 orders))=false)),oR True (((((ltI x0.x0 0)||(geI x0.x0 orders))||(ltI x0.x1 0))||(geI x0.x1 orders))=false),bT h7,oO (Eq.refl ([(Qab.mk 2 (catS (catS word Qc5) r))].map Qab.enc).length),aO Qab.enc h8] (hI _ (oJ h))
  ·obtain ⟨e0,h18,h⟩:=Qae h
   refine gn 25 [0,1,2,3,9,10,11,12,13,14,15] [0] [nL QaQ.enc l,bT h2,cE QaQ.enc h3,oO (zL 0),oO (lT 0 2),cE QaQ.enc h3,oO (zL 1),oO (lT 1 2),oO (h4),cC (Qf0 h5),rp 15 hP,oO (h6),rp 2 (oI ((ltI x0.x0 0)=false)),oR True ((ltI x0.x0 0)=false),oI (((ltI x0.x0 0)||(geI x0.x0 orders))=false),oR True (((ltI x0.x0 0)||(geI x0.x0 orders))=false),rp 2 (oI ((((ltI x0.x0 0)||(geI x0.x0 orders))||(ltI x0.x1 0))=false)),oR True ((((ltI x0.x0 0)||(geI x0.x0 orders))||(ltI x0.x1 0))=false),rp 2 (oI (((((ltI x0.x0 0)||(geI x0.x0 orders))||(ltI x0.x1 0))||(geI x0.x1 orders))=false)),oR True (((((ltI x0.x0 0)||(geI x0.x0 orders))||(ltI x0.x1 0))||(geI x0.x1 orders))=false),bF h7] (Qny Γ rv h18 ?_)
   obtain ⟨twice1,rfl⟩:∃ x,x=e0:=⟨_,rfl⟩
   replace h:(br twice1 (chk (okN (l2++[(Qab.mk 6 (catS (catS word Qc5) r))]).length 24) (some (.inl ((l2++[(Qab.mk 6 (catS (catS word Qc5) r))]),(addK .i64 i 1))))) (some (.inl (l2,(addK .i64 i 1)))):Option ((List Qab×Int)⊕(List Qab)))=some _:=h
   rcases Qah h with ⟨h19,h⟩|⟨h19,h⟩
   ·obtain ⟨h20,h⟩:=Qau h
    exact gn 7 [0,1,2,3,9,10] [2] [bT h19,oO (Eq.refl ([(Qab.mk 6 (catS (catS word Qc5) r))].map Qab.enc).length),aO Qab.enc h20] (hI _ (oJ h))
   ·exact gn 7 [0,1,2,3,9,10] [0] [bF h19] (hI _ (oJ h))
 ·exact gn 5 [9] [0] [nL QaQ.enc l,bF h2] (hE _ (oJ h))
theorem QhX (Γ:Gam) (rv:List Qab) {orders l word turned l1} (h:QeA orders l word turned l1=some rv):QdH Γ rv ⟨[.c 15],⟨123,[vI 0 orders,vL 1 2 l QaQ.enc,vS 2 word,vB 3 turned,vO 9 0 2 l1 Qab.enc],[oS 2 146 l1 Qab.enc]⟩⟩:=by
 unfold QeA at h
 obtain ⟨e1,h21,h⟩:=Qae h
 refine gn 5 [0,1,2,3,9,10] [0] [] (Qnx Γ rv h21 ?_)
 obtain ⟨l3,rfl⟩:∃ x,x=e1:=⟨_,rfl⟩
 replace h:(some l3:Option (List Qab))=some _:=h
 obtain rfl:=Option.some.inj h
 exact gr 2 [0] []
theorem Qpl {orders l word turned} {rv:List Qab} (h:Qh1 orders l word turned=some rv):AFn Tryz.prog 93 [.one (lI orders),.one (lL 2 l QaQ.enc),.one (.str word),.one (.bool turned)] [] (one (lO 0 2 rv Qab.enc)) [oS 2 146 rv Qab.enc]:=by
 refine QaL Tryz.func93 (by kernel_rfl) (by kernel_rfl) (fun Γ=>?_)
 unfold Qh1 at h
 rcases Qah h with ⟨h0,h⟩|⟨h0,h⟩
 ·obtain ⟨h1,h⟩:=Qau h
  exact gn 9 [0,1,2,3,9] [1] [nL QaQ.enc l,bT h0,oO (Eq.refl ([(Qab.mk 4 word)].map Qab.enc).length),aN (l:=([(Qab.mk 4 word)]:List Qab)) Qab.enc h1] (QhX Γ rv h)
 ·exact gn 9 [0,1,2,3,9] [0] [nL QaQ.enc l,bF h0,hW 1,hH (.adopt 9 2 146)] (QhX Γ rv h)
theorem QsT {orders apart before} {rv:List Qab} (h:Qhz orders apart before=some rv):AFn Tryz.prog 62 [.one (lI orders),.one (lL 2 apart QaQ.enc),.one (lL 2 before QaQ.enc)] [] (one (lL 2 rv Qab.enc)) []:=by
 refine QaL Tryz.func62 (by kernel_rfl) (by kernel_rfl) (fun Γ=>?_)
 unfold Qhz at h
 obtain ⟨r,h0,h⟩:=Qae h
 obtain ⟨r1,h1,h⟩:=Qae h
 obtain ⟨h2,h⟩:=Qau h
 obtain rfl:=Option.some.inj h
 exact gr 6 [] [cC (Qpl h0),cC (Qsn h1),aO Qab.enc h2,hW 1,hH (.frz 1),rp 2 (oO (Eq.refl ((r++r1).map Qab.enc).length))]
def QhC (Γ:Gam) (rv:List Qab) (cf:Cf):Prop:=Go Tryz.prog Tryz.f57 [] Γ (one (lO 0 2 rv Qab.enc)) [oS 2 146 rv Qab.enc] cf
def Qge (Γ:Gam) (rv:List Qab) (word:ByteArray) (l:List Qab) (l1:List Qab) (i:Int):Prop:=QhC Γ rv ⟨[.c 116,.l 116,.b 0,.c 15],⟨40,[vS 0 word,vL 1 2 l Qab.enc,vO 5 0 2 l1 Qab.enc,vI 6 i],[oS 2 146 l1 Qab.enc]⟩⟩
def QfS (Γ:Gam) (rv:List Qab) (word:ByteArray) (l:List Qab) (l2:List Qab):Prop:=QhC Γ rv ⟨[.c 15],⟨40,[vO 5 0 2 l2 Qab.enc],[oS 2 146 l2 Qab.enc]⟩⟩
theorem Qia (Γ:Gam) (rv:List Qab) {word l l1 i at_} {x:(List Qab×Int)⊕(List Qab)} (h:Qff word l l1 i at_=some x) (hI:∀ s:List Qab×Int,x=.inl s→Qge Γ rv word l s.1 s.2) (hE:∀ e:List Qab,x=.inr e→QfS Γ rv word l e):QhC Γ rv ⟨[.c 3731,.b 1,.c 467,.l 116,.b 0,.c 15],⟨40,[vS 0 word,vL 1 2 l Qab.enc,vO 5 0 2 l1 Qab.enc,vI 6 i,vS 7 at_],[oS 2 146 l1 Qab.enc]⟩⟩:=by
 unfold Qff at h
 obtain ⟨x1,h5,h⟩:=Qae h
 obtain ⟨h6,h⟩:=Qau h
 exact gn 4 [0,1,5,6] [2] [cE Qab.enc h5,oO (Eq.refl ([(Qab.mk x1.err at_)].map Qab.enc).length),aO Qab.enc h6] (hI _ (oJ h))
theorem Qof (Γ:Gam) (rv:List Qab) {word l} {s:List Qab×Int} {e:List Qab} (h:loopF (fun s=>Qfg word l s.1 s.2) s=some e) (hD:QfS Γ rv word l e):Qge Γ rv word l s.1 s.2:=by
 refine QaB (C:=fun (s:List Qab×Int)=>Qge Γ rv word l s.1 s.2) (D:=fun (e:List Qab)=>QfS Γ rv word l e) ?_ h hD
 clear h hD s e
 rintro ⟨l1,i⟩ z_ h hI hE
 replace h:Qfg word l l1 i=_:=h
 unfold Qfg at h
 rcases Qah h with ⟨h0,h⟩|⟨h0,h⟩
 ·obtain ⟨x0,h1,h⟩:=Qae h
  rcases Qah h with ⟨h2,h⟩|⟨h2,h⟩
  ·exact gn 14 [0,1,5,6,7] [0] [nL Qab.enc l,bT h0,cE Qab.enc h1,nF h2] (Qia Γ rv h hI hE)
  ·obtain ⟨h3,h⟩:=Qau h
   obtain ⟨h4,h⟩:=Qau h
   exact gn 14 [0,1,5,6,7] [0] [nL Qab.enc l,bT h0,cE Qab.enc h1,nT h2,oO (h3),cE Qab.enc h1,oO (h4)] (Qia Γ rv h hI hE)
 ·exact gn 5 [5] [0] [nL Qab.enc l,bF h0] (hE _ (oJ h))
theorem Qp2 {word l} {rv:List Qab} (h:Qgy word l=some rv):AFn Tryz.prog 57 [.one (.str word),.one (lL 2 l Qab.enc)] [] (one (lO 0 2 rv Qab.enc)) [oS 2 146 rv Qab.enc]:=by
 refine QaL Tryz.func57 (by kernel_rfl) (by kernel_rfl) (fun Γ=>?_)
 unfold Qgy at h
 obtain ⟨e0,h7,h⟩:=Qae h
 refine gn 9 [0,1,5,6] [0] [hW 12,hH (.adopt 5 2 146)] (Qof Γ rv h7 ?_)
 obtain ⟨l2,rfl⟩:∃ x,x=e0:=⟨_,rfl⟩
 replace h:(some l2:Option (List Qab))=some _:=h
 obtain rfl:=Option.some.inj h
 exact gr 2 [0] []
theorem QsU {x0} {rv:List Qab} (h:QhA x0=some rv):AFn Tryz.prog 23 [.agg (Qac.enc x0)] [] (one (lL 2 rv Qab.enc)) []:=by
 refine QaL Tryz.func23 (by kernel_rfl) (by kernel_rfl) (fun Γ=>?_)
 unfold QhA at h
 obtain ⟨r,h0,h⟩:=Qae h
 obtain ⟨r1,h1,h⟩:=Qae h
 obtain ⟨r2,h2,h⟩:=Qae h
 obtain ⟨r3,h3,h⟩:=Qae h
 obtain ⟨h4,h⟩:=Qau h
 obtain ⟨r4,h5,h⟩:=Qae h
 obtain ⟨r5,h6,h⟩:=Qae h
 obtain ⟨r6,h7,h⟩:=Qae h
 obtain ⟨h8,h⟩:=Qau h
 obtain ⟨r7,h9,h⟩:=Qae h
 obtain ⟨r8,h10,h⟩:=Qae h
 obtain ⟨h11,h⟩:=Qau h
 obtain rfl:=Option.some.inj h
 exact gr 12 [] [cC (QsN h0),cC (Qp2 h1),cC (QsO h2),cC (Qjn h3),aO Qab.enc h4,hH (.draw 13 []),cC (Qgb h5),nL Qai.enc x0.types,cC (QsQ h6),cC (Qjn h7),aO Qab.enc h8,nL Qag.enc x0.orders,cC (QsT h9),cC (Qjn h10),aO Qab.enc h11,hW 5,hH (.frz 4),rp 4 (oO (Eq.refl ((((r1++r3)++r6)++r8).map Qab.enc).length))]
theorem Qfz {x0} {rv:Bool} (h:Qhr x0=some rv):AFn Tryz.prog 8 [.agg (Qac.enc x0)] [] (one (.bool rv)) []:=by
 refine QaL Tryz.func8 (by kernel_rfl) (by kernel_rfl) (fun Γ=>?_)
 unfold Qhr at h
 obtain ⟨r,h0,h⟩:=Qae h
 obtain rfl:=Option.some.inj h
 exact gr 4 [] [cC (QsU h0),nL Qab.enc r]
theorem QnK {r} {rv:Bool} (h:Qjd r=some rv):AFn Tryz.prog 9 [.agg (Qad.enc r)] [] (one (.bool rv)) []:=by
 refine QaL Tryz.func9 (by kernel_rfl) (by kernel_rfl) (fun Γ=>?_)
 unfold Qjd at h
 obtain rfl:=Option.some.inj h
 exact gr 4 [] [nL Qaa.enc r.visits,hP,hP,hP,rp 2 (oI ((leI (lenI r.visits) 6)=false)),nL Qaa.enc r.visits,hP,hP,oI ((leI (lenI r.visits) 6)=false),oR True ((leI (lenI r.visits) 6)=false)]
theorem QhU {l at_} {rv:Bool} (h:QmH l at_=some rv):AFn Tryz.prog 47 [.one (lL 16 l Qag.enc),.one (lI at_)] [] (one (.bool rv)) []:=by
 refine QaL Tryz.func47 (by kernel_rfl) (by kernel_rfl) (fun Γ=>?_)
 unfold QmH at h
 obtain rfl:=Option.some.inj h
 exact gr 4 [] [hP,hP,hP,oI ((geI at_ 0)=true),nL Qag.enc l,hP,hP,rp 2 (oI ((geI at_ 0)=true)),oR True ((geI at_ 0)=true)]
def QvT (Γ:Gam) (rv:List Qaa) (cf:Cf):Prop:=Go Tryz.prog Tryz.f16 [] Γ (one (lL 2 rv Qaa.enc)) [] cf
theorem Qo0 (Γ:Gam) (rv:List Qaa) {l at_ l1} (h:Qg2 l at_ l1=some rv):QvT Γ rv ⟨[.c 31],⟨35,[vL 0 16 l Qag.enc,vI 1 at_,vO 5 0 2 l1 Qaa.enc],[oS 2 52 l1 Qaa.enc]⟩⟩:=by
 unfold Qg2 at h
 obtain ⟨x1,h5,h⟩:=Qae h
 rcases Qah h with ⟨h6,h⟩|⟨h6,h⟩
 ·obtain ⟨h7,h⟩:=Qau h
  obtain rfl:=Option.some.inj h
  exact gr 7 [] [cE Qag.enc h5,bT h6,oO (Eq.refl ([(Qaa.mk at_ true)].map Qaa.enc).length),aO Qaa.enc h7,hW 5,hH (.frz 2),rp 4 (oO (Eq.refl ((l1++[(Qaa.mk at_ true)]).map Qaa.enc).length))]
 ·obtain rfl:=Option.some.inj h
  exact gr 7 [] [cE Qag.enc h5,bF h6,hW 5,hH (.frz 0),rp 3 (eL l1 Qaa.enc)]
theorem Qoj {l at_} {rv:List Qaa} (h:Qkg l at_=some rv):AFn Tryz.prog 16 [.one (lL 16 l Qag.enc),.one (lI at_)] [] (one (lL 2 rv Qaa.enc)) []:=by
 refine QaL Tryz.func16 (by kernel_rfl) (by kernel_rfl) (fun Γ=>?_)
 unfold Qkg at h
 obtain ⟨r,h0,h⟩:=Qae h
 rcases Qah h with ⟨h1,h⟩|⟨h1,h⟩
 ·obtain ⟨x0,h2,h⟩:=Qae h
  rcases Qah h with ⟨h3,h⟩|⟨h3,h⟩
  ·obtain ⟨h4,h⟩:=Qau h
   exact gn 14 [0,1,5] [1] [cC (QhU h0),nF h1,cE Qag.enc h2,bT h3,oO (Eq.refl ([(Qaa.mk at_ false)].map Qaa.enc).length),aN (l:=([(Qaa.mk at_ false)]:List Qaa)) Qaa.enc h4] (Qo0 Γ rv h)
  ·exact gn 14 [0,1,5] [0] [cC (QhU h0),nF h1,cE Qag.enc h2,bF h3,hW 1,hH (.adopt 5 2 52)] (Qo0 Γ rv h)
 ·obtain rfl:=Option.some.inj h
  exact gr 10 [] [cC (QhU h0),nT h1,hW 3,hH (.nilS 4 0 2)]
def QeO (Γ:Gam) (rv:Int) (cf:Cf):Prop:=Go Tryz.prog Tryz.f162 [] Γ (one (lI rv)) [] cf
def Qeb (Γ:Gam) (rv:Int) (s0:List Qaa) (v:Qaa) (v1:Int):Prop:=QeO Γ rv ⟨[.c 52,.l 52,.b 0,.c 7],⟨19,[vL 0 2 s0 Qaa.enc,vP 3 0 2,vI 7 (lenI s0),vI 8 v1],[oX 2 52 (Qaa.enc v)]⟩⟩
def QdS (Γ:Gam) (rv:Int) (s0:List Qaa) (v:Qaa):Prop:=QeO Γ rv ⟨[.c 7],⟨19,[],[]⟩⟩
theorem Qhm (Γ:Gam) (rv:Int) {s0 v} {s:Int} {e:(Unit)⊕(Int)} (h:loopF (fun s=>QaP s0 v s) s=some e) (hD:sel e (fun e=>QdS Γ rv s0 v) (fun e=>e=rv)):Qeb Γ rv s0 v s:=by
 refine QaB (C:=fun (s:Int)=>Qeb Γ rv s0 v s) (D:=fun (e:(Unit)⊕(Int))=>sel e (fun e=>QdS Γ rv s0 v) (fun e=>e=rv)) ?_ h hD
 clear h hD s e
 intro v1 z_ h hI hE
 replace h:QaP s0 v v1=_:=h
 unfold QaP at h
 rcases Qah h with ⟨h0,h⟩|⟨h0,h⟩
 ·obtain ⟨x0,h1,h⟩:=Qae h
  rcases Qah h with ⟨h2,h⟩|⟨h2,h⟩
  ·obtain rfl:=(hE _ (oJ h):_=rv)
   exact gr 14 [] [bT h0,hH (.draw 6 []),cE Qaa.enc h1,bT h2]
  ·exact gn 16 [0,3,7,8] [0] [bT h0,hH (.draw 6 []),cE Qaa.enc h1,bF h2] (hI _ (oJ h))
 ·exact gn 5 [] [] [bF h0] (hE _ (oJ h))
theorem Qex {s0 v} {rv:Int} (h:Qbm s0 v=some rv):AFn Tryz.prog 162 [.one (lL 2 s0 Qaa.enc),.agg (Qaa.enc v)] [] (one (lI rv)) []:=by
 refine QaL Tryz.func162 (by kernel_rfl) (by kernel_rfl) (fun Γ=>?_)
 unfold Qbm at h
 obtain ⟨e0,h3,h⟩:=Qae h
 refine gn 7 [0,3,7,8] [0] [nL Qaa.enc s0] (Qhm Γ rv h3 ?_)
 rcases e0 with e0|e0
 ·replace h:(some (-1):Option Int)=some _:=h
  obtain rfl:=Option.some.inj h
  exact gr 2 [] []
 ·obtain ⟨r,rfl⟩:∃ x,x=e0:=⟨_,rfl⟩
  replace h:(some r:Option Int)=some _:=h
  exact Option.some.inj h
theorem Qiv {l v} {rv:Int} (h:QgE l v=some rv):AFn Tryz.prog 134 [.one (lL 2 l Qaa.enc),.agg (Qaa.enc v)] [] (one (lI rv)) []:=by
 refine QaL Tryz.func134 (by kernel_rfl) (by kernel_rfl) (fun Γ=>?_)
 unfold QgE at h
 obtain ⟨r,h0,h⟩:=Qae h
 obtain rfl:=Option.some.inj h
 exact gr 4 [] [cC (Qex h0)]
def Qrc (Γ:Gam) (rv:Bool) (cf:Cf):Prop:=Go Tryz.prog Tryz.f105 [] Γ (one (.bool rv)) [] cf
def Qoc (Γ:Gam) (rv:Bool) (l:List Qaa) (v:Int):Prop:=Qrc Γ rv ⟨[.c 52,.l 52,.b 0,.c 7],⟨19,[vL 0 2 l Qaa.enc,vL 5 2 l Qaa.enc,vI 6 (lenI l),vI 7 v],[]⟩⟩
def Qnq (Γ:Gam) (rv:Bool) (l:List Qaa):Prop:=Qrc Γ rv ⟨[.c 7],⟨19,[],[]⟩⟩
theorem Qst (Γ:Gam) (rv:Bool) {l} {s:Int} {e:(Unit)⊕(Bool)} (h:loopF (fun s=>Qdj l s) s=some e) (hD:sel e (fun e=>Qnq Γ rv l) (fun e=>e=rv)):Qoc Γ rv l s:=by
 refine QaB (C:=fun (s:Int)=>Qoc Γ rv l s) (D:=fun (e:(Unit)⊕(Bool))=>sel e (fun e=>Qnq Γ rv l) (fun e=>e=rv)) ?_ h hD
 clear h hD s e
 intro v z_ h hI hE
 replace h:Qdj l v=_:=h
 unfold Qdj at h
 rcases Qah h with ⟨h0,h⟩|⟨h0,h⟩
 ·obtain ⟨x0,h1,h⟩:=Qae h
  obtain ⟨l1,h2,h⟩:=Qae h
  obtain ⟨r,h3,h⟩:=Qae h
  rcases Qah h with ⟨h4,h⟩|⟨h4,h⟩
  ·obtain rfl:=(hE _ (oJ h):_=rv)
   exact gr 14 [] [bT h0,cE Qaa.enc h1,hH (.draw 6 []),hH (.rows (l1.map Qaa.enc)),oO (sl1 h2),oO (sl2 h2),oO (sl3 Qaa.enc h2),oO (Int.le_refl v),oO (sl3 Qaa.enc h2),oO (sl6 Qaa.enc h2),cC (Qiv h3),bT h4]
  ·exact gn 16 [0,5,6,7] [] [bT h0,cE Qaa.enc h1,hH (.draw 6 []),hH (.rows (l1.map Qaa.enc)),oO (sl1 h2),oO (sl2 h2),oO (sl3 Qaa.enc h2),oO (Int.le_refl v),oO (sl3 Qaa.enc h2),oO (sl6 Qaa.enc h2),cC (Qiv h3),bF h4] (hI _ (oJ h))
 ·exact gn 5 [] [] [bF h0] (hE _ (oJ h))
theorem QlE {l} {rv:Bool} (h:QjA l=some rv):AFn Tryz.prog 105 [.one (lL 2 l Qaa.enc)] [] (one (.bool rv)) []:=by
 refine QaL Tryz.func105 (by kernel_rfl) (by kernel_rfl) (fun Γ=>?_)
 unfold QjA at h
 obtain ⟨e0,h5,h⟩:=Qae h
 refine gn 7 [0,5,6,7] [] [nL Qaa.enc l] (Qst Γ rv h5 ?_)
 rcases e0 with e0|e0
 ·replace h:(some false:Option Bool)=some _:=h
  obtain rfl:=Option.some.inj h
  exact gr 2 [] []
 ·obtain ⟨r1,rfl⟩:∃ x,x=e0:=⟨_,rfl⟩
  replace h:(some r1:Option Bool)=some _:=h
  exact Option.some.inj h
theorem QdR {s0 v} {rv:Bool} (h:Qbt s0 v=some rv):AFn Tryz.prog 135 [.one (lL 2 s0 Qaa.enc),.agg (Qaa.enc v)] [] (one (.bool rv)) []:=by
 refine QaL Tryz.func135 (by kernel_rfl) (by kernel_rfl) (fun Γ=>?_)
 unfold Qbt at h
 obtain ⟨r,h0,h⟩:=Qae h
 obtain rfl:=Option.some.inj h
 exact gr 4 [] [cC (Qex h0)]
def Qiu (Γ:Gam) (rv:Bool) (cf:Cf):Prop:=Go Tryz.prog Tryz.f106 [] Γ (one (.bool rv)) [] cf
def Qnp (Γ:Gam) (rv:Bool) (x0:Qac) (l:List Qaa) (v:Int) (r:List Qaa) (last_:Int) (v1:Int):Prop:=Qiu Γ rv ⟨[.c 108156,.l 108156,.b 2,.b 1,.c 423,.l 52,.b 0,.c 7],⟨42,[vL 1 2 l Qaa.enc,vP 2 0 6,vI 8 last_,vL 12 2 l Qaa.enc,vI 13 (lenI l),vI 14 v,vL 27 2 r Qaa.enc,vI 28 (lenI r),vI 29 v1],[oX 6 30 (Qac.enc x0)]⟩⟩
def Qmw (Γ:Gam) (rv:Bool) (x0:Qac) (l:List Qaa) (v:Int) (r:List Qaa):Prop:=Qiu Γ rv ⟨[.b 1,.c 423,.l 52,.b 0,.c 7],⟨42,[vL 1 2 l Qaa.enc,vP 2 0 6,vL 12 2 l Qaa.enc,vI 13 (lenI l),vI 14 v],[oX 6 30 (Qac.enc x0)]⟩⟩
def Qno (Γ:Gam) (rv:Bool) (x0:Qac) (l:List Qaa) (v:Int):Prop:=Qiu Γ rv ⟨[.c 52,.l 52,.b 0,.c 7],⟨42,[vL 1 2 l Qaa.enc,vP 2 0 6,vL 12 2 l Qaa.enc,vI 13 (lenI l),vI 14 v],[oX 6 30 (Qac.enc x0)]⟩⟩
def Qmv (Γ:Gam) (rv:Bool) (x0:Qac) (l:List Qaa):Prop:=Qiu Γ rv ⟨[.c 7],⟨42,[],[]⟩⟩
theorem QrS (Γ:Gam) (rv:Bool) {x0 l v r} {s:Int×Int} {e:(Unit)⊕(Bool)} (h:loopF (fun s=>Qbh x0 l v r s.1 s.2) s=some e) (hD:sel e (fun e=>Qmw Γ rv x0 l v r) (fun e=>e=rv)):Qnp Γ rv x0 l v r s.1 s.2:=by
 refine QaB (C:=fun (s:Int×Int)=>Qnp Γ rv x0 l v r s.1 s.2) (D:=fun (e:(Unit)⊕(Bool))=>sel e (fun e=>Qmw Γ rv x0 l v r) (fun e=>e=rv)) ?_ h hD
 clear h hD s e
 rintro ⟨last_,v1⟩ z_ h hI hE
 replace h:Qbh x0 l v r last_ v1=_:=h
 unfold Qbh at h
 rcases Qah h with ⟨h5,h⟩|⟨h5,h⟩
 ·obtain ⟨x2,h6,h⟩:=Qae h
  obtain ⟨r2,h7,h⟩:=Qae h
  rcases Qah h with ⟨h8,h⟩|⟨h8,h⟩
  ·obtain rfl:=(hE _ (oJ h):_=rv)
   exact gr 17 [] [bT h5,cE Qaa.enc h6,cC (Qiv h7),bT h8]
  ·exact gn 20 [1,2,8,12,13,14,27,28,29] [0] [bT h5,cE Qaa.enc h6,cC (Qiv h7),bF h8] (hI _ (oJ h))
 ·exact gn 5 [1,2,12,13,14] [0] [bF h5] (hE _ (oJ h))
theorem QrR (Γ:Gam) (rv:Bool) {x0 l} {s:Int} {e:(Unit)⊕(Bool)} (h:loopF (fun s=>QcW x0 l s) s=some e) (hD:sel e (fun e=>Qmv Γ rv x0 l) (fun e=>e=rv)):Qno Γ rv x0 l s:=by
 refine QaB (C:=fun (s:Int)=>Qno Γ rv x0 l s) (D:=fun (e:(Unit)⊕(Bool))=>sel e (fun e=>Qmv Γ rv x0 l) (fun e=>e=rv)) ?_ h hD
 clear h hD s e
 intro v z_ h hI hE
 replace h:QcW x0 l v=_:=h
 unfold QcW at h
 rcases Qah h with ⟨h0,h⟩|⟨h0,h⟩
 ·obtain ⟨x1,h1,h⟩:=Qae h
  obtain ⟨r,h2,h⟩:=Qae h
  obtain ⟨r1,h3,h⟩:=Qae h
  rcases Qah h with ⟨h4,h⟩|⟨h4,h⟩
  ·obtain ⟨e0,h9,h⟩:=Qae h
   refine gn 22 [1,2,8,12,13,14,27,28,29] [0] [bT h0,cE Qaa.enc h1,cC (Qoj h2),cC (QdR h3),nF h4,nL Qaa.enc r] (QrS Γ rv h9 ?_)
   rcases e0 with e0|e0
   ·replace h:(some (.inl (addK .i64 v 1)):Option ((Int)⊕((Unit)⊕(Bool))))=some _:=h
    exact gn 3 [1,2,12,13,14] [0] [] (hI _ (oJ h))
   ·obtain ⟨r3,rfl⟩:∃ x,x=e0:=⟨_,rfl⟩
    replace h:(some (.inr (.inr r3)):Option ((Int)⊕((Unit)⊕(Bool))))=some _:=h
    exact (hE _ (oJ h):_=rv)
  ·obtain rfl:=(hE _ (oJ h):_=rv)
   exact gr 17 [] [bT h0,cE Qaa.enc h1,cC (Qoj h2),cC (QdR h3),nT h4]
 ·exact gn 5 [] [] [bF h0] (hE _ (oJ h))
theorem Qo6 {x0 l} {rv:Bool} (h:Qik x0 l=some rv):AFn Tryz.prog 106 [.agg (Qac.enc x0),.one (lL 2 l Qaa.enc)] [] (one (.bool rv)) []:=by
 refine QaL Tryz.func106 (by kernel_rfl) (by kernel_rfl) (fun Γ=>?_)
 unfold Qik at h
 obtain ⟨e1,h10,h⟩:=Qae h
 refine gn 7 [1,2,12,13,14] [0] [nL Qaa.enc l] (QrR Γ rv h10 ?_)
 rcases e1 with e1|e1
 ·replace h:(some true:Option Bool)=some _:=h
  obtain rfl:=Option.some.inj h
  exact gr 2 [] []
 ·obtain ⟨r4,rfl⟩:∃ x,x=e1:=⟨_,rfl⟩
  replace h:(some r4:Option Bool)=some _:=h
  exact Option.some.inj h
theorem QpT {v c} {rv:Bool} (h:Qmy v c=some rv):AFn Tryz.prog 136 [.agg (Qaa.enc v),.one (.ip [lI c] 0)] [] (one (.bool rv)) []:=by
 refine QaL Tryz.func136 (by kernel_rfl) (by kernel_rfl) (fun Γ=>?_)
 unfold Qmy at h
 obtain rfl:=Option.some.inj h
 exact gr 4 [] []
def Qdk (Γ:Gam) (rv:Int) (cf:Cf):Prop:=Go Tryz.prog Tryz.f94 [] Γ (one (lI rv)) [] cf
def Qc2 (Γ:Gam) (rv:Int) (s0:List Qaa) (c:Int) (v:Int):Prop:=Qdk Γ rv ⟨[.c 52,.l 52,.b 0,.c 7],⟨19,[vL 0 2 s0 Qaa.enc,(1,one (.fn (.func 136) [.ip [lI c] 0])),vI 7 (lenI s0),vI 8 v],[]⟩⟩
def QcP (Γ:Gam) (rv:Int) (s0:List Qaa) (c:Int):Prop:=Qdk Γ rv ⟨[.c 7],⟨19,[],[]⟩⟩
theorem Qfj (Γ:Gam) (rv:Int) {s0 c} {s:Int} {e:(Unit)⊕(Int)} (h:loopF (fun s=>QaH s0 c s) s=some e) (hD:sel e (fun e=>QcP Γ rv s0 c) (fun e=>e=rv)):Qc2 Γ rv s0 c s:=by
 refine QaB (C:=fun (s:Int)=>Qc2 Γ rv s0 c s) (D:=fun (e:(Unit)⊕(Int))=>sel e (fun e=>QcP Γ rv s0 c) (fun e=>e=rv)) ?_ h hD
 clear h hD s e
 intro v z_ h hI hE
 replace h:QaH s0 c v=_:=h
 unfold QaH at h
 rcases Qah h with ⟨h0,h⟩|⟨h0,h⟩
 ·obtain ⟨x0,h1,h⟩:=Qae h
  obtain ⟨r,h2,h⟩:=Qae h
  rcases Qah h with ⟨h3,h⟩|⟨h3,h⟩
  ·obtain rfl:=(hE _ (oJ h):_=rv)
   exact gr 14 [] [bT h0,cE Qaa.enc h1,cC (QpT h2),bT h3]
  ·exact gn 16 [0,1,7,8] [] [bT h0,cE Qaa.enc h1,cC (QpT h2),bF h3] (hI _ (oJ h))
 ·exact gn 5 [] [] [bF h0] (hE _ (oJ h))
theorem QfX {s0 c} {rv:Int} (h:Qa9 s0 c=some rv):AFn Tryz.prog 94 [.one (lL 2 s0 Qaa.enc),.one (.fn (.func 136) [.ip [lI c] 0])] [] (one (lI rv)) []:=by
 refine QaL Tryz.func94 (by kernel_rfl) (by kernel_rfl) (fun Γ=>?_)
 unfold Qa9 at h
 obtain ⟨e0,h4,h⟩:=Qae h
 refine gn 7 [0,1,7,8] [] [nL Qaa.enc s0] (Qfj Γ rv h4 ?_)
 rcases e0 with e0|e0
 ·replace h:(some (-1):Option Int)=some _:=h
  obtain rfl:=Option.some.inj h
  exact gr 2 [] []
 ·obtain ⟨r1,rfl⟩:∃ x,x=e0:=⟨_,rfl⟩
  replace h:(some r1:Option Int)=some _:=h
  exact Option.some.inj h
theorem Qfh {s0 c} {rv:Bool} (h:Qbi s0 c=some rv):AFn Tryz.prog 63 [.one (lL 2 s0 Qaa.enc),.one (.fn (.func 136) [.ip [lI c] 0])] [] (one (.bool rv)) []:=by
 refine QaL Tryz.func63 (by kernel_rfl) (by kernel_rfl) (fun Γ=>?_)
 unfold Qbi at h
 obtain ⟨r,h0,h⟩:=Qae h
 obtain rfl:=Option.some.inj h
 exact gr 4 [] [cC (QfX h0)]
theorem QeN {l o} {rv:Bool} (h:QhI l o=some rv):AFn Tryz.prog 107 [.one (lL 2 l Qaa.enc),.one (lI o)] [] (one (.bool rv)) []:=by
 refine QaL Tryz.func107 (by kernel_rfl) (by kernel_rfl) (fun Γ=>?_)
 unfold QhI at h
 obtain ⟨r,h0,h⟩:=Qae h
 obtain rfl:=Option.some.inj h
 exact gr 4 [] [cC (Qfh h0)]
theorem Qnn {v c} {rv:Bool} (h:Qit v c=some rv):AFn Tryz.prog 137 [.agg (Qaa.enc v),.one (.ip [lI c] 0)] [] (one (.bool rv)) []:=by
 refine QaL Tryz.func137 (by kernel_rfl) (by kernel_rfl) (fun Γ=>?_)
 unfold Qit at h
 obtain rfl:=Option.some.inj h
 exact gr 4 [] []
def Qc1 (Γ:Gam) (rv:Int) (cf:Cf):Prop:=Go Tryz.prog Tryz.f94 [] Γ (one (lI rv)) [] cf
def QcD (Γ:Gam) (rv:Int) (s0:List Qaa) (c:Int) (v:Int):Prop:=Qc1 Γ rv ⟨[.c 52,.l 52,.b 0,.c 7],⟨19,[vL 0 2 s0 Qaa.enc,(1,one (.fn (.func 137) [.ip [lI c] 0])),vI 7 (lenI s0),vI 8 v],[]⟩⟩
def Qcy (Γ:Gam) (rv:Int) (s0:List Qaa) (c:Int):Prop:=Qc1 Γ rv ⟨[.c 7],⟨19,[],[]⟩⟩
theorem QeJ (Γ:Gam) (rv:Int) {s0 c} {s:Int} {e:(Unit)⊕(Int)} (h:loopF (fun s=>QaD s0 c s) s=some e) (hD:sel e (fun e=>Qcy Γ rv s0 c) (fun e=>e=rv)):QcD Γ rv s0 c s:=by
 refine QaB (C:=fun (s:Int)=>QcD Γ rv s0 c s) (D:=fun (e:(Unit)⊕(Int))=>sel e (fun e=>Qcy Γ rv s0 c) (fun e=>e=rv)) ?_ h hD
 clear h hD s e
 intro v z_ h hI hE
 replace h:QaD s0 c v=_:=h
 unfold QaD at h
 rcases Qah h with ⟨h0,h⟩|⟨h0,h⟩
 ·obtain ⟨x0,h1,h⟩:=Qae h
  obtain ⟨r,h2,h⟩:=Qae h
  rcases Qah h with ⟨h3,h⟩|⟨h3,h⟩
  ·obtain rfl:=(hE _ (oJ h):_=rv)
   exact gr 14 [] [bT h0,cE Qaa.enc h1,cC (Qnn h2),bT h3]
  ·exact gn 16 [0,1,7,8] [] [bT h0,cE Qaa.enc h1,cC (Qnn h2),bF h3] (hI _ (oJ h))
 ·exact gn 5 [] [] [bF h0] (hE _ (oJ h))
theorem QbB {s0 c} {rv:Int} (h:Qa5 s0 c=some rv):AFn Tryz.prog 94 [.one (lL 2 s0 Qaa.enc),.one (.fn (.func 137) [.ip [lI c] 0])] [] (one (lI rv)) []:=by
 refine QaL Tryz.func94 (by kernel_rfl) (by kernel_rfl) (fun Γ=>?_)
 unfold Qa5 at h
 obtain ⟨e0,h4,h⟩:=Qae h
 refine gn 7 [0,1,7,8] [] [nL Qaa.enc s0] (QeJ Γ rv h4 ?_)
 rcases e0 with e0|e0
 ·replace h:(some (-1):Option Int)=some _:=h
  obtain rfl:=Option.some.inj h
  exact gr 2 [] []
 ·obtain ⟨r1,rfl⟩:∃ x,x=e0:=⟨_,rfl⟩
  replace h:(some r1:Option Int)=some _:=h
  exact Option.some.inj h
theorem Qo5 {l a b} {rv:Bool} (h:Qij l a b=some rv):AFn Tryz.prog 108 [.one (lL 2 l Qaa.enc),.one (lI a),.one (lI b)] [] (one (.bool rv)) []:=by
 refine QaL Tryz.func108 (by kernel_rfl) (by kernel_rfl) (fun Γ=>?_)
 unfold Qij at h
 obtain ⟨r,h0,h⟩:=Qae h
 rcases Qah h with ⟨h1,h⟩|⟨h1,h⟩
 ·obtain rfl:=Option.some.inj h
  exact gr 10 [] [cC (QbB h0),bT h1]
 ·obtain ⟨r1,h2,h⟩:=Qae h
  rcases Qah h with ⟨h3,h⟩|⟨h3,h⟩
  ·obtain ⟨l1,h4,h⟩:=Qae h
   obtain ⟨r2,h5,h⟩:=Qae h
   obtain rfl:=Option.some.inj h
   exact gr 11 [] [cC (QbB h0),bF h1,cC (QeN h2),rp 3 (bT h3),hH (.rows (l1.map Qaa.enc)),oO (sl1 h4),oO (sl2h Qaa.enc h4),rp 3 (oO (Int.le_refl ((l.map Qaa.enc).length:Int))),oO (sl6h Qaa.enc h4),bT h3,bT h3,cC (QeN h5),bT h3,bT h3]
  ·obtain rfl:=Option.some.inj h
   exact gr 11 [] [cC (QbB h0),bF h1,cC (QeN h2),rp 7 (bF h3)]
theorem Qn7 {v c} {rv:Bool} (h:Qjx v c=some rv):AFn Tryz.prog 103 [.agg (Qaa.enc v),.one (.ip (Qac.enc c) 0)] [] (one (.bool rv)) []:=by
 refine QaL Tryz.func103 (by kernel_rfl) (by kernel_rfl) (fun Γ=>?_)
 unfold Qjx at h
 obtain rfl:=Option.some.inj h
 exact gr 4 [] [rp 5 hP,rp 3 (oI ((ltI v.order 0)=false)),nL Qag.enc c.orders,hP,hP,rp 2 (oI ((ltI v.order 0)=false)),oR True ((ltI v.order 0)=false)]
def Qdd (Γ:Gam) (rv:Int) (cf:Cf):Prop:=Go Tryz.prog Tryz.f94 [] Γ (one (lI rv)) [] cf
def QcJ (Γ:Gam) (rv:Int) (s0:List Qaa) (c:Qac) (v:Int):Prop:=Qdd Γ rv ⟨[.c 52,.l 52,.b 0,.c 7],⟨19,[vL 0 2 s0 Qaa.enc,(1,one (.fn (.func 103) [.ip (Qac.enc c) 0])),vI 7 (lenI s0),vI 8 v],[]⟩⟩
def QcB (Γ:Gam) (rv:Int) (s0:List Qaa) (c:Qac):Prop:=Qdd Γ rv ⟨[.c 7],⟨19,[],[]⟩⟩
theorem Qe3 (Γ:Gam) (rv:Int) {s0 c} {s:Int} {e:(Unit)⊕(Int)} (h:loopF (fun s=>QaE s0 c s) s=some e) (hD:sel e (fun e=>QcB Γ rv s0 c) (fun e=>e=rv)):QcJ Γ rv s0 c s:=by
 refine QaB (C:=fun (s:Int)=>QcJ Γ rv s0 c s) (D:=fun (e:(Unit)⊕(Int))=>sel e (fun e=>QcB Γ rv s0 c) (fun e=>e=rv)) ?_ h hD
 clear h hD s e
 intro v z_ h hI hE
 replace h:QaE s0 c v=_:=h
 unfold QaE at h
 rcases Qah h with ⟨h0,h⟩|⟨h0,h⟩
 ·obtain ⟨x0,h1,h⟩:=Qae h
  obtain ⟨r,h2,h⟩:=Qae h
  rcases Qah h with ⟨h3,h⟩|⟨h3,h⟩
  ·obtain rfl:=(hE _ (oJ h):_=rv)
   exact gr 14 [] [bT h0,cE Qaa.enc h1,cC (Qn7 h2),bT h3]
  ·exact gn 16 [0,1,7,8] [] [bT h0,cE Qaa.enc h1,cC (Qn7 h2),bF h3] (hI _ (oJ h))
 ·exact gn 5 [] [] [bF h0] (hE _ (oJ h))
theorem Qfl {s0 c} {rv:Int} (h:Qa6 s0 c=some rv):AFn Tryz.prog 94 [.one (lL 2 s0 Qaa.enc),.one (.fn (.func 103) [.ip (Qac.enc c) 0])] [] (one (lI rv)) []:=by
 refine QaL Tryz.func94 (by kernel_rfl) (by kernel_rfl) (fun Γ=>?_)
 unfold Qa6 at h
 obtain ⟨e0,h4,h⟩:=Qae h
 refine gn 7 [0,1,7,8] [] [nL Qaa.enc s0] (Qe3 Γ rv h4 ?_)
 rcases e0 with e0|e0
 ·replace h:(some (-1):Option Int)=some _:=h
  obtain rfl:=Option.some.inj h
  exact gr 2 [] []
 ·obtain ⟨r1,rfl⟩:∃ x,x=e0:=⟨_,rfl⟩
  replace h:(some r1:Option Int)=some _:=h
  exact Option.some.inj h
theorem QaZ {s0 c} {rv:Bool} (h:Qa2 s0 c=some rv):AFn Tryz.prog 63 [.one (lL 2 s0 Qaa.enc),.one (.fn (.func 103) [.ip (Qac.enc c) 0])] [] (one (.bool rv)) []:=by
 refine QaL Tryz.func63 (by kernel_rfl) (by kernel_rfl) (fun Γ=>?_)
 unfold Qa2 at h
 obtain ⟨r,h0,h⟩:=Qae h
 obtain rfl:=Option.some.inj h
 exact gr 4 [] [cC (Qfl h0)]
theorem Qn8 {v c} {rv:Bool} (h:Qjy v c=some rv):AFn Tryz.prog 104 [.agg (Qaa.enc v),.one (.ip (Qac.enc c) 0)] [] (one (.bool rv)) []:=by
 refine QaL Tryz.func104 (by kernel_rfl) (by kernel_rfl) (fun Γ=>?_)
 unfold Qjy at h
 obtain ⟨x0,h0,h⟩:=Qae h
 obtain rfl:=Option.some.inj h
 exact gr 4 [] [cE Qag.enc h0]
def Qde (Γ:Gam) (rv:Int) (cf:Cf):Prop:=Go Tryz.prog Tryz.f94 [] Γ (one (lI rv)) [] cf
def QcK (Γ:Gam) (rv:Int) (s0:List Qaa) (c:Qac) (v:Int):Prop:=Qde Γ rv ⟨[.c 52,.l 52,.b 0,.c 7],⟨19,[vL 0 2 s0 Qaa.enc,(1,one (.fn (.func 104) [.ip (Qac.enc c) 0])),vI 7 (lenI s0),vI 8 v],[]⟩⟩
def QcC (Γ:Gam) (rv:Int) (s0:List Qaa) (c:Qac):Prop:=Qde Γ rv ⟨[.c 7],⟨19,[],[]⟩⟩
theorem Qe4 (Γ:Gam) (rv:Int) {s0 c} {s:Int} {e:(Unit)⊕(Int)} (h:loopF (fun s=>QaF s0 c s) s=some e) (hD:sel e (fun e=>QcC Γ rv s0 c) (fun e=>e=rv)):QcK Γ rv s0 c s:=by
 refine QaB (C:=fun (s:Int)=>QcK Γ rv s0 c s) (D:=fun (e:(Unit)⊕(Int))=>sel e (fun e=>QcC Γ rv s0 c) (fun e=>e=rv)) ?_ h hD
 clear h hD s e
 intro v z_ h hI hE
 replace h:QaF s0 c v=_:=h
 unfold QaF at h
 rcases Qah h with ⟨h0,h⟩|⟨h0,h⟩
 ·obtain ⟨x0,h1,h⟩:=Qae h
  obtain ⟨r,h2,h⟩:=Qae h
  rcases Qah h with ⟨h3,h⟩|⟨h3,h⟩
  ·obtain rfl:=(hE _ (oJ h):_=rv)
   exact gr 14 [] [bT h0,cE Qaa.enc h1,cC (Qn8 h2),bT h3]
  ·exact gn 16 [0,1,7,8] [] [bT h0,cE Qaa.enc h1,cC (Qn8 h2),bF h3] (hI _ (oJ h))
 ·exact gn 5 [] [] [bF h0] (hE _ (oJ h))
theorem Qfm {s0 c} {rv:Int} (h:Qa7 s0 c=some rv):AFn Tryz.prog 94 [.one (lL 2 s0 Qaa.enc),.one (.fn (.func 104) [.ip (Qac.enc c) 0])] [] (one (lI rv)) []:=by
 refine QaL Tryz.func94 (by kernel_rfl) (by kernel_rfl) (fun Γ=>?_)
 unfold Qa7 at h
 obtain ⟨e0,h4,h⟩:=Qae h
 refine gn 7 [0,1,7,8] [] [nL Qaa.enc s0] (Qe4 Γ rv h4 ?_)
 rcases e0 with e0|e0
 ·replace h:(some (-1):Option Int)=some _:=h
  obtain rfl:=Option.some.inj h
  exact gr 2 [] []
 ·obtain ⟨r1,rfl⟩:∃ x,x=e0:=⟨_,rfl⟩
  replace h:(some r1:Option Int)=some _:=h
  exact Option.some.inj h
theorem Qba {s0 c} {rv:Bool} (h:Qa3 s0 c=some rv):AFn Tryz.prog 63 [.one (lL 2 s0 Qaa.enc),.one (.fn (.func 104) [.ip (Qac.enc c) 0])] [] (one (.bool rv)) []:=by
 refine QaL Tryz.func63 (by kernel_rfl) (by kernel_rfl) (fun Γ=>?_)
 unfold Qa3 at h
 obtain ⟨r,h0,h⟩:=Qae h
 obtain rfl:=Option.some.inj h
 exact gr 4 [] [cC (Qfm h0)]
def Qjz (Γ:Gam) (rv:Int) (cf:Cf):Prop:=Go Tryz.prog Tryz.f80 [] Γ (one (lI rv)) [] cf
def Qn9 (Γ:Gam) (rv:Int) (x0:Qac) (r:Qad) (v:Int):Prop:=Qjz Γ rv ⟨[.c 500,.l 500,.b 1,.c 63],⟨65,[vP 2 0 6,vL 5 2 r.visits Qaa.enc,vL 33 2 x0.apart QaQ.enc,vI 34 (lenI x0.apart),vI 35 v],[oX 6 30 (Qac.enc x0)]⟩⟩
def Qnk (Γ:Gam) (rv:Int) (x0:Qac) (r:Qad):Prop:=Qjz Γ rv ⟨[.c 63],⟨65,[vP 2 0 6,vL 5 2 r.visits Qaa.enc],[oX 6 30 (Qac.enc x0)]⟩⟩
def Qoa (Γ:Gam) (rv:Int) (x0:Qac) (r:Qad) (v1:Int):Prop:=Qjz Γ rv ⟨[.c 1012,.l 1012,.b 3,.c 127],⟨65,[vL 5 2 r.visits Qaa.enc,vL 51 2 x0.before QaQ.enc,vI 52 (lenI x0.before),vI 53 v1],[]⟩⟩
def Qnl (Γ:Gam) (rv:Int) (x0:Qac) (r:Qad):Prop:=Qjz Γ rv ⟨[.c 127],⟨65,[],[]⟩⟩
theorem Qsr (Γ:Gam) (rv:Int) {x0 r} {s:Int} {e:(Unit)⊕(Int)} (h:loopF (fun s=>Qdi x0 r s) s=some e) (hD:sel e (fun e=>Qnk Γ rv x0 r) (fun e=>e=rv)):Qn9 Γ rv x0 r s:=by
 refine QaB (C:=fun (s:Int)=>Qn9 Γ rv x0 r s) (D:=fun (e:(Unit)⊕(Int))=>sel e (fun e=>Qnk Γ rv x0 r) (fun e=>e=rv)) ?_ h hD
 clear h hD s e
 intro v z_ h hI hE
 replace h:Qdi x0 r v=_:=h
 unfold Qdi at h
 rcases Qah h with ⟨h9,h⟩|⟨h9,h⟩
 ·obtain ⟨x1,h10,h⟩:=Qae h
  obtain ⟨r5,h11,h⟩:=Qae h
  rcases Qah h with ⟨h12,h⟩|⟨h12,h⟩
  ·obtain ⟨r6,h13,h⟩:=Qae h
   rcases Qah h with ⟨h14,h⟩|⟨h14,h⟩
   ·obtain rfl:=(hE _ (oJ h):_=rv)
    exact gr 14 [] [bT h9,cE QaQ.enc h10,oO (zL 0),oO (lT 0 2),cC (QeN h11),rp 2 (bT h12),oO (zL 1),oO (lT 1 2),rp 2 (bT h12),cC (QeN h13),bT h12,bT h14]
   ·exact gn 16 [2,5,33,34,35] [0] [bT h9,cE QaQ.enc h10,oO (zL 0),oO (lT 0 2),cC (QeN h11),rp 2 (bT h12),oO (zL 1),oO (lT 1 2),rp 2 (bT h12),cC (QeN h13),bT h12,bF h14] (hI _ (oJ h))
  ·exact gn 16 [2,5,33,34,35] [0] [bT h9,cE QaQ.enc h10,oO (zL 0),oO (lT 0 2),cC (QeN h11),rp 5 (bF h12),fF] (hI _ (oJ h))
 ·exact gn 5 [2,5] [0] [bF h9] (hE _ (oJ h))
theorem Qss (Γ:Gam) (rv:Int) {x0 r} {s:Int} {e:(Unit)⊕(Int)} (h:loopF (fun s=>QcO x0 r s) s=some e) (hD:sel e (fun e=>Qnl Γ rv x0 r) (fun e=>e=rv)):Qoa Γ rv x0 r s:=by
 refine QaB (C:=fun (s:Int)=>Qoa Γ rv x0 r s) (D:=fun (e:(Unit)⊕(Int))=>sel e (fun e=>Qnl Γ rv x0 r) (fun e=>e=rv)) ?_ h hD
 clear h hD s e
 intro v1 z_ h hI hE
 replace h:QcO x0 r v1=_:=h
 unfold QcO at h
 rcases Qah h with ⟨h16,h⟩|⟨h16,h⟩
 ·obtain ⟨x2,h17,h⟩:=Qae h
  obtain ⟨r7,h18,h⟩:=Qae h
  rcases Qah h with ⟨h19,h⟩|⟨h19,h⟩
  ·exact gn 16 [5,51,52,53] [] [bT h16,cE QaQ.enc h17,oO (zL 0),oO (lT 0 2),oO (zL 1),oO (lT 1 2),cC (Qo5 h18),nF h19] (hI _ (oJ h))
  ·obtain rfl:=(hE _ (oJ h):_=rv)
   exact gr 14 [] [bT h16,cE QaQ.enc h17,oO (zL 0),oO (lT 0 2),oO (zL 1),oO (lT 1 2),cC (Qo5 h18),nT h19]
 ·exact gn 5 [] [] [bF h16] (hE _ (oJ h))
theorem QdF {x0 r} {rv:Int} (h:QhW x0 r=some rv):AFn Tryz.prog 80 [.agg (Qac.enc x0),.agg (Qad.enc r)] [] (one (lI rv)) []:=by
 refine QaL Tryz.func80 (by kernel_rfl) (by kernel_rfl) (fun Γ=>?_)
 unfold QhW at h
 rcases Qah h with ⟨h0,h⟩|⟨h0,h⟩
 ·obtain rfl:=Option.some.inj h
  exact gr 10 [] [nL Qaa.enc r.visits,rp 4 (bT h0),tT]
 ·obtain ⟨r1,h1,h⟩:=Qae h
  rcases Qah h with ⟨h2,h⟩|⟨h2,h⟩
  ·obtain rfl:=Option.some.inj h
   exact gr 10 [] [nL Qaa.enc r.visits,rp 3 (bF h0),cC (QaZ h1),bF h0,bT h2]
  ·obtain ⟨r2,h3,h⟩:=Qae h
   rcases Qah h with ⟨h4,h⟩|⟨h4,h⟩
   ·obtain rfl:=Option.some.inj h
    exact gr 16 [] [nL Qaa.enc r.visits,rp 3 (bF h0),cC (QaZ h1),bF h0,bF h2,cC (Qba h3),bT h4]
   ·obtain ⟨r3,h5,h⟩:=Qae h
    rcases Qah h with ⟨h6,h⟩|⟨h6,h⟩
    ·obtain rfl:=Option.some.inj h
     exact gr 19 [] [nL Qaa.enc r.visits,rp 3 (bF h0),cC (QaZ h1),bF h0,bF h2,cC (Qba h3),bF h4,cC (QlE h5),bT h6]
    ·obtain ⟨r4,h7,h⟩:=Qae h
     rcases Qah h with ⟨h8,h⟩|⟨h8,h⟩
     ·obtain ⟨e0,h15,h⟩:=Qae h
      refine gn 27 [2,5,33,34,35] [0] [nL Qaa.enc r.visits,rp 3 (bF h0),cC (QaZ h1),bF h0,bF h2,cC (Qba h3),bF h4,cC (QlE h5),bF h6,cC (Qo6 h7),nF h8,nL QaQ.enc x0.apart] (Qsr Γ rv h15 ?_)
      rcases e0 with e0|e0
      ·replace h:(bnd (loopF (fun s=>QcO x0 r s) 0) (fun e=>sel e (fun (_:Unit)=>some 0) (fun r8=>some r8)):Option Int)=some _:=h
       obtain ⟨e1,h20,h⟩:=Qae h
       refine gn 5 [5,51,52,53] [] [nL QaQ.enc x0.before] (Qss Γ rv h20 ?_)
       rcases e1 with e1|e1
       ·replace h:(some 0:Option Int)=some _:=h
        obtain rfl:=Option.some.inj h
        exact gr 2 [] []
       ·obtain ⟨r8,rfl⟩:∃ x,x=e1:=⟨_,rfl⟩
        replace h:(some r8:Option Int)=some _:=h
        exact Option.some.inj h
      ·obtain ⟨r9,rfl⟩:∃ x,x=e0:=⟨_,rfl⟩
       replace h:(some r9:Option Int)=some _:=h
       exact Option.some.inj h
     ·obtain rfl:=Option.some.inj h
      exact gr 22 [] [nL Qaa.enc r.visits,rp 3 (bF h0),cC (QaZ h1),bF h0,bF h2,cC (Qba h3),bF h4,cC (QlE h5),bF h6,cC (Qo6 h7),nT h8]
theorem QtP {t skills} {rv:Bool} (h:QmQ t skills=some rv):AFn Tryz.prog 109 [.agg (Qai.enc t),.one (lI skills)] [] (one (.bool rv)) []:=by
 refine QaL Tryz.func109 (by kernel_rfl) (by kernel_rfl) (fun Γ=>?_)
 unfold QmQ at h
 obtain rfl:=Option.some.inj h
 exact gr 4 [] [rp 9 hP,oI ((geI t.skills 0)=true),oR True ((geI t.skills 0)=true),rp 4 (oI (((geI t.skills 0)&&(geI skills 0))=true)),oR True (((geI t.skills 0)&&(geI skills 0))=true)]
def QuS (Γ:Gam) (rv:Int) (cf:Cf):Prop:=Go Tryz.prog Tryz.f81 [] Γ (one (lI rv)) [] cf
def Qr5 (Γ:Gam) (rv:Int) (x0:Qac) (r:Qad) (v:Int):Prop:=QuS Γ rv ⟨[.c 52,.l 52,.b 0,.c 7],⟨30,[vP 2 0 6,vP 3 1 4,vL 8 2 r.visits Qaa.enc,vI 9 (lenI r.visits),vI 10 v],[oX 6 30 (Qac.enc x0),oX 4 34 (Qad.enc r)]⟩⟩
def Qq9 (Γ:Gam) (rv:Int) (x0:Qac) (r:Qad):Prop:=QuS Γ rv ⟨[.c 7],⟨30,[],[]⟩⟩
theorem QuT (Γ:Gam) (rv:Int) {x0 r} {s:Int} {e:(Unit)⊕(Int)} (h:loopF (fun s=>QfN x0 r s) s=some e) (hD:sel e (fun e=>Qq9 Γ rv x0 r) (fun e=>e=rv)):Qr5 Γ rv x0 r s:=by
 refine QaB (C:=fun (s:Int)=>Qr5 Γ rv x0 r s) (D:=fun (e:(Unit)⊕(Int))=>sel e (fun e=>Qq9 Γ rv x0 r) (fun e=>e=rv)) ?_ h hD
 clear h hD s e
 intro v z_ h hI hE
 replace h:QfN x0 r v=_:=h
 unfold QfN at h
 rcases Qah h with ⟨h0,h⟩|⟨h0,h⟩
 ·obtain ⟨x1,h1,h⟩:=Qae h
  obtain ⟨x2,h2,h⟩:=Qae h
  obtain ⟨x3,h3,h⟩:=Qae h
  obtain ⟨r1,h4,h⟩:=Qae h
  rcases Qah h with ⟨h5,h⟩|⟨h5,h⟩
  ·exact gn 16 [2,3,8,9,10] [0,1] [bT h0,cE Qaa.enc h1,hH (.draw 15 []),cE Qai.enc h2,cE Qag.enc h3,cC (QtP h4),nF h5] (hI _ (oJ h))
  ·obtain rfl:=(hE _ (oJ h):_=rv)
   exact gr 14 [] [bT h0,cE Qaa.enc h1,hH (.draw 15 []),cE Qai.enc h2,cE Qag.enc h3,cC (QtP h4),nT h5]
 ·exact gn 5 [] [] [bF h0] (hE _ (oJ h))
theorem Qn2 {x0 r} {rv:Int} (h:Qq8 x0 r=some rv):AFn Tryz.prog 81 [.agg (Qac.enc x0),.agg (Qad.enc r)] [] (one (lI rv)) []:=by
 refine QaL Tryz.func81 (by kernel_rfl) (by kernel_rfl) (fun Γ=>?_)
 unfold Qq8 at h
 obtain ⟨e0,h6,h⟩:=Qae h
 refine gn 7 [2,3,8,9,10] [0,1] [nL Qaa.enc r.visits] (QuT Γ rv h6 ?_)
 rcases e0 with e0|e0
 ·replace h:(some 0:Option Int)=some _:=h
  obtain rfl:=Option.some.inj h
  exact gr 2 [] []
 ·obtain ⟨r2,rfl⟩:∃ x,x=e0:=⟨_,rfl⟩
  replace h:(some r2:Option Int)=some _:=h
  exact Option.some.inj h
def QpS (Γ:Gam) (rv:Int×Int) (cf:Cf):Prop:=Go Tryz.prog Tryz.f86 [] Γ (.tup [.one (lI rv.1),.one (lI rv.2)]) [] cf
def Qnm (Γ:Gam) (rv:Int×Int) (r:Qad) (set_:Int) (v:Int):Prop:=QpS Γ rv ⟨[.c 116,.l 116,.b 0,.c 15],⟨29,[vI 4 set_,vL 8 2 r.visits Qaa.enc,vI 9 (lenI r.visits),vI 10 v],[]⟩⟩
def Qmt (Γ:Gam) (rv:Int×Int) (r:Qad) (set_1:Int):Prop:=QpS Γ rv ⟨[.c 15],⟨29,[vI 4 set_1],[]⟩⟩
theorem QrQ (Γ:Gam) (rv:Int×Int) {r} {s:Int×Int} {e:(Int)⊕(Int×Int)} (h:loopF (fun s=>Qe1 r s.1 s.2) s=some e) (hD:sel e (fun e=>Qmt Γ rv r e) (fun e=>e=rv)):Qnm Γ rv r s.1 s.2:=by
 refine QaB (C:=fun (s:Int×Int)=>Qnm Γ rv r s.1 s.2) (D:=fun (e:(Int)⊕(Int×Int))=>sel e (fun e=>Qmt Γ rv r e) (fun e=>e=rv)) ?_ h hD
 clear h hD s e
 rintro ⟨set_,v⟩ z_ h hI hE
 replace h:Qe1 r set_ v=_:=h
 unfold Qe1 at h
 rcases Qah h with ⟨h0,h⟩|⟨h0,h⟩
 ·obtain ⟨x0,h1,h⟩:=Qae h
  rcases Qah h with ⟨h2,h⟩|⟨h2,h⟩
  ·obtain rfl:=(hE _ (oJ h):_=rv)
   exact gr 15 [] [bT h0,cE Qaa.enc h1,rp 4 hP,rp 2 (oI ((ltI x0.order 0)=false)),oR True ((ltI x0.order 0)=false),bT h2]
  ·obtain ⟨h3,h⟩:=Qau h
   exact gn 18 [4,8,9,10] [] [bT h0,cE Qaa.enc h1,rp 4 hP,rp 2 (oI ((ltI x0.order 0)=false)),oR True ((ltI x0.order 0)=false),bF h2,oO (h3)] (hI _ (oJ h))
 ·exact gn 5 [4] [] [bF h0] (hE _ (oJ h))
theorem Qo4 {r} {rv:Int×Int} (h:Qii r=some rv):AFn Tryz.prog 86 [.agg (Qad.enc r)] [] (.tup [.one (lI rv.1),.one (lI rv.2)]) []:=by
 refine QaL Tryz.func86 (by kernel_rfl) (by kernel_rfl) (fun Γ=>?_)
 unfold Qii at h
 obtain ⟨e0,h4,h⟩:=Qae h
 refine gn 9 [4,8,9,10] [] [nL Qaa.enc r.visits] (QrQ Γ rv h4 ?_)
 rcases e0 with e0|e0
 ·obtain ⟨set_1,rfl⟩:∃ x,x=e0:=⟨_,rfl⟩
  replace h:(some (set_1,0):Option (Int×Int))=some _:=h
  obtain rfl:=Option.some.inj h
  exact gr 2 [] []
 ·obtain ⟨r1,rfl⟩:∃ x,x=e0:=⟨_,rfl⟩
  replace h:(some r1:Option (Int×Int))=some _:=h
  exact Option.some.inj h
theorem Qwu {a b} {rv:Int} (h:QsM a b=some rv):AFn Tryz.prog 165 [.one (lI a),.one (lI b)] [] (one (lI rv)) []:=by
 refine QaL Tryz.func165 (by kernel_rfl) (by kernel_rfl) (fun Γ=>?_)
 unfold QsM at h
 obtain rfl:=Option.some.inj h
 exact gr 4 [] []
def QmS (Γ:Gam) (rv:List Int×Int) (cf:Cf):Prop:=Go Tryz.prog Tryz.f164 [] Γ (.tup [.one (lL 1 rv.1 e_i64),.one (lI rv.2)]) [] cf
def QjH (Γ:Gam) (rv:List Int×Int) (a:List Int) (b:List Int) (l:List Int) (l1:List Int) (v:Int):Prop:=QmS Γ rv ⟨[.c 244,.l 244,.b 0,.c 31],⟨38,[vL 0 1 a e_i64,vL 1 1 b e_i64,(2,one (.fn (.func 165) [])),vO 8 0 1 l1 e_i64,vI 19 (lenI a),vI 20 v],[oS 1 3 l1 e_i64]⟩⟩
def Qjb (Γ:Gam) (rv:List Int×Int) (a:List Int) (b:List Int) (l:List Int) (l2:List Int):Prop:=QmS Γ rv ⟨[.c 31],⟨38,[vO 8 0 1 l2 e_i64],[oS 1 3 l2 e_i64]⟩⟩
theorem Qpi (Γ:Gam) (rv:List Int×Int) {a b l} {s:List Int×Int} {e:List Int} (h:loopF (fun s=>QbT a b l s.1 s.2) s=some e) (hD:Qjb Γ rv a b l e):QjH Γ rv a b l s.1 s.2:=by
 refine QaB (C:=fun (s:List Int×Int)=>QjH Γ rv a b l s.1 s.2) (D:=fun (e:List Int)=>Qjb Γ rv a b l e) ?_ h hD
 clear h hD s e
 rintro ⟨l1,v⟩ z_ h hI hE
 replace h:QbT a b l l1 v=_:=h
 unfold QbT at h
 rcases Qah h with ⟨h2,h⟩|⟨h2,h⟩
 ·obtain ⟨x0,h3,h⟩:=Qae h
  obtain ⟨x1,h4,h⟩:=Qae h
  obtain ⟨r,h5,h⟩:=Qae h
  obtain ⟨x2,h6,h⟩:=Qae h
  exact gn 13 [0,1,2,8,19,20] [0] [bT h2,hH (.draw 13 []),cE e_i64 h3,cE e_i64 h4,cC (Qwu h5),oO (getLo h6),oO (getHi e_i64 h6),rE e_i64 h6,hH (.rows ((setI l1 v r).map e_i64)),hH (.relen 0 ((setI l1 v r).map e_i64).length),oO (setM e_i64 l1 v r),rp 2 (oO (Qws e_i64 l1 v r))] (hI _ (oJ h))
 ·exact gn 5 [8] [0] [bF h2] (hE _ (oJ h))
theorem Qrw {a b} {rv:List Int×Int} (h:QhM a b=some rv):AFn Tryz.prog 164 [.one (lL 1 a e_i64),.one (lL 1 b e_i64),.one (.fn (.func 165) [])] [] (.tup [.one (lL 1 rv.1 e_i64),.one (lI rv.2)]) []:=by
 refine QaL Tryz.func164 (by kernel_rfl) (by kernel_rfl) (fun Γ=>?_)
 unfold QhM at h
 rcases Qah h with ⟨h0,h⟩|⟨h0,h⟩
 ·obtain rfl:=Option.some.inj h
  exact gr 8 [] [nL e_i64 a,nL e_i64 b,bT h0,hW 4,hH (.nilS 6 0 1)]
 ·obtain ⟨l,h1,h⟩:=Qae h
  obtain ⟨e0,h7,h⟩:=Qae h
  refine gn 14 [0,1,2,8,19,20] [0] [nL e_i64 a,nL e_i64 b,bF h0,nL e_i64 a,hH (.cells [lI 0]),hH (.rows (l.map e_i64)),oO (mk1 h1),oO (mk2 h1),oO (mk3 h1),oO (mk4 h1),oO (mk5 e_i64 h1),nL e_i64 a] (Qpi Γ rv h7 ?_)
  obtain ⟨l2,rfl⟩:∃ x,x=e0:=⟨_,rfl⟩
  replace h:(some (l2,0):Option (List Int×Int))=some _:=h
  obtain rfl:=Option.some.inj h
  exact gr 2 [] [hW 5,hH (.frz 0),rp 3 (eL l2 e_i64)]
theorem Qsg {a b} {rv:List Int×Int} (h:Qrm a b=some rv):AFn Tryz.prog 140 [.one (lL 1 a e_i64),.one (lL 1 b e_i64)] [] (.tup [.one (lL 1 rv.1 e_i64),.one (lI rv.2)]) []:=by
 refine QaL Tryz.func140 (by kernel_rfl) (by kernel_rfl) (fun Γ=>?_)
 unfold Qrm at h
 obtain ⟨r,h0,h⟩:=Qae h
 obtain rfl:=Option.some.inj h
 exact gr 4 [] [cC (Qrw h0)]
theorem QvA {set_ i} {rv:Bool} (h:QuW set_ i=some rv):AFn Tryz.prog 178 [.one (lI set_),.one (lI i)] [] (one (.bool rv)) []:=by
 refine QaL Tryz.func178 (by kernel_rfl) (by kernel_rfl) (fun Γ=>?_)
 unfold QuW at h
 rcases Qah h with ⟨h0,h⟩|⟨h0,h⟩
 ·obtain ⟨h1,h⟩:=Qau h
  obtain rfl:=Option.some.inj h
  exact gr 4 [] [hP,hP,hP,oI ((geI i 0)=true),oR True ((geI i 0)=true),rp 3 (bT h0),oO (h1),rp 3 (bT h0)]
 ·obtain rfl:=Option.some.inj h
  exact gr 4 [] [hP,hP,hP,oI ((geI i 0)=true),oR True ((geI i 0)=true),rp 6 (bF h0)]
def Qs4 (Γ:Gam) (rv:List Int) (cf:Cf):Prop:=Go Tryz.prog Tryz.f163 [] Γ (one (lL 1 rv e_i64)) [] cf
def QpU (Γ:Gam) (rv:List Int) (set_:Int) (l:List Int) (v:Int):Prop:=Qs4 Γ rv ⟨[.c 116,.l 116,.b 0,.c 15],⟨17,[vI 0 set_,vO 3 0 1 l e_i64,vI 5 v],[oS 1 3 l e_i64]⟩⟩
def Qo7 (Γ:Gam) (rv:List Int) (set_:Int) (l1:List Int):Prop:=Qs4 Γ rv ⟨[.c 15],⟨17,[vO 3 0 1 l1 e_i64],[oS 1 3 l1 e_i64]⟩⟩
theorem Qtz (Γ:Gam) (rv:List Int) {set_} {s:List Int×Int} {e:List Int} (h:loopF (fun s=>Qdt set_ s.1 s.2) s=some e) (hD:Qo7 Γ rv set_ e):QpU Γ rv set_ s.1 s.2:=by
 refine QaB (C:=fun (s:List Int×Int)=>QpU Γ rv set_ s.1 s.2) (D:=fun (e:List Int)=>Qo7 Γ rv set_ e) ?_ h hD
 clear h hD s e
 rintro ⟨l,v⟩ z_ h hI hE
 replace h:Qdt set_ l v=_:=h
 unfold Qdt at h
 rcases Qah h with ⟨h0,h⟩|⟨h0,h⟩
 ·obtain ⟨r,h1,h⟩:=Qae h
  rcases Qah h with ⟨h2,h⟩|⟨h2,h⟩
  ·obtain ⟨h3,h⟩:=Qau h
   exact gn 16 [0,3,5] [2] [bT h0,cC (QvA h1),bT h2,oO (Eq.refl ([v].map e_i64).length),aO e_i64 h3] (hI _ (oJ h))
  ·exact gn 16 [0,3,5] [0] [bT h0,cC (QvA h1),bF h2] (hI _ (oJ h))
 ·exact gn 5 [3] [0] [bF h0] (hE _ (oJ h))
theorem Qve {set_} {rv:List Int} (h:Qnr set_=some rv):AFn Tryz.prog 163 [.one (lI set_)] [] (one (lL 1 rv e_i64)) []:=by
 refine QaL Tryz.func163 (by kernel_rfl) (by kernel_rfl) (fun Γ=>?_)
 unfold Qnr at h
 obtain ⟨e0,h4,h⟩:=Qae h
 refine gn 9 [0,3,5] [0] [hW 12,hH (.adopt 3 1 3)] (Qtz Γ rv h4 ?_)
 obtain ⟨l1,rfl⟩:∃ x,x=e0:=⟨_,rfl⟩
 replace h:(some l1:Option (List Int))=some _:=h
 obtain rfl:=Option.some.inj h
 exact gr 2 [] [hW 4,hH (.frz 0),rp 3 (eL l1 e_i64)]
def QtL (Γ:Gam) (rv:List Int) (cf:Cf):Prop:=Go Tryz.prog Tryz.f138 [] Γ (one (lL 1 rv e_i64)) [] cf
def Qqf (Γ:Gam) (rv:List Int) (x0:Qac) (l:List Int) (r:List Int) (sum:List Int) (v:Int):Prop:=QtL Γ rv ⟨[.c 116,.l 116,.b 0,.c 15],⟨40,[vP 3 0 6,vL 7 1 sum e_i64,vL 13 1 r e_i64,vI 14 (lenI r),vI 15 v],[oX 6 30 (Qac.enc x0)]⟩⟩
def Qpu (Γ:Gam) (rv:List Int) (x0:Qac) (l:List Int) (r:List Int) (sum1:List Int):Prop:=QtL Γ rv ⟨[.c 15],⟨40,[vL 7 1 sum1 e_i64],[]⟩⟩
theorem QtX (Γ:Gam) (rv:List Int) {x0 l r} {s:List Int×Int} {e:List Int} (h:loopF (fun s=>QdU x0 l r s.1 s.2) s=some e) (hD:Qpu Γ rv x0 l r e):Qqf Γ rv x0 l r s.1 s.2:=by
 refine QaB (C:=fun (s:List Int×Int)=>Qqf Γ rv x0 l r s.1 s.2) (D:=fun (e:List Int)=>Qpu Γ rv x0 l r e) ?_ h hD
 clear h hD s e
 rintro ⟨sum,v⟩ z_ h hI hE
 replace h:QdU x0 l r sum v=_:=h
 unfold QdU at h
 rcases Qah h with ⟨h2,h⟩|⟨h2,h⟩
 ·obtain ⟨x1,h3,h⟩:=Qae h
  obtain ⟨x2,h4,h⟩:=Qae h
  rcases Qah h with ⟨h5,h⟩|⟨h5,h⟩
  ·obtain ⟨r1,h6,h⟩:=Qae h
   exact gn 16 [3,7,13,14,15] [0] [bT h2,cE e_i64 h3,cE Qag.enc h4,bT h5,cE Qag.enc h4,cC (Qsg h6)] (hI _ (oJ h))
  ·exact gn 16 [3,7,13,14,15] [0] [bT h2,cE e_i64 h3,cE Qag.enc h4,bF h5] (hI _ (oJ h))
 ·exact gn 5 [7] [] [bF h2] (hE _ (oJ h))
theorem QvD {x0 set_ dims} {rv:List Int} (h:Qom x0 set_ dims=some rv):AFn Tryz.prog 138 [.agg (Qac.enc x0),.one (lI set_),.one (lI dims)] [] (one (lL 1 rv e_i64)) []:=by
 refine QaL Tryz.func138 (by kernel_rfl) (by kernel_rfl) (fun Γ=>?_)
 unfold Qom at h
 obtain ⟨l,h0,h⟩:=Qae h
 obtain ⟨r,h1,h⟩:=Qae h
 obtain ⟨e0,h7,h⟩:=Qae h
 refine gn 9 [3,7,13,14,15] [0] [hH (.cells [lI 0]),hH (.rows (l.map e_i64)),oO (mk1 h0),oO (mk2 h0),oO (mk3 h0),oO (mk4 h0),oO (mk5 e_i64 h0),cC (Qve h1),nL e_i64 r,hW 3,hH (.frz 1),rp 2 (eL l e_i64)] (QtX Γ rv h7 ?_)
 obtain ⟨sum1,rfl⟩:∃ x,x=e0:=⟨_,rfl⟩
 replace h:(some sum1:Option (List Int))=some _:=h
 obtain rfl:=Option.some.inj h
 exact gr 2 [] []
theorem Qwk {l} {rv:Int} (h:Qql l=some rv):AFn Tryz.prog 139 [.one (lL 14 l Qai.enc)] [] (one (lI rv)) []:=by
 refine QaL Tryz.func139 (by kernel_rfl) (by kernel_rfl) (fun Γ=>?_)
 unfold Qql at h
 rcases Qah h with ⟨h0,h⟩|⟨h0,h⟩
 ·obtain rfl:=Option.some.inj h
  exact gr 8 [] [nL Qai.enc l,bT h0]
 ·obtain ⟨x0,h1,h⟩:=Qae h
  obtain rfl:=Option.some.inj h
  exact gr 9 [] [nL Qai.enc l,bF h0,cE Qai.enc h1,nL e_i64 x0.cap]
theorem QvN {a b} {rv:Int} (h:Qrn a b=some rv):AFn Tryz.prog 166 [.one (lI a),.one (lI b)] [] (one (lI rv)) []:=by
 refine QaL Tryz.func166 (by kernel_rfl) (by kernel_rfl) (fun Γ=>?_)
 unfold Qrn at h
 obtain rfl:=Option.some.inj h
 exact gr 4 [] []
def QlP (Γ:Gam) (rv:List Int×Int) (cf:Cf):Prop:=Go Tryz.prog Tryz.f164 [] Γ (.tup [.one (lL 1 rv.1 e_i64),.one (lI rv.2)]) [] cf
def Qja (Γ:Gam) (rv:List Int×Int) (a:List Int) (b:List Int) (l:List Int) (l1:List Int) (v:Int):Prop:=QlP Γ rv ⟨[.c 244,.l 244,.b 0,.c 31],⟨38,[vL 0 1 a e_i64,vL 1 1 b e_i64,(2,one (.fn (.func 166) [])),vO 8 0 1 l1 e_i64,vI 19 (lenI a),vI 20 v],[oS 1 3 l1 e_i64]⟩⟩
def QiN (Γ:Gam) (rv:List Int×Int) (a:List Int) (b:List Int) (l:List Int) (l2:List Int):Prop:=QlP Γ rv ⟨[.c 31],⟨38,[vO 8 0 1 l2 e_i64],[oS 1 3 l2 e_i64]⟩⟩
theorem Qoz (Γ:Gam) (rv:List Int×Int) {a b l} {s:List Int×Int} {e:List Int} (h:loopF (fun s=>QbI a b l s.1 s.2) s=some e) (hD:QiN Γ rv a b l e):Qja Γ rv a b l s.1 s.2:=by
 refine QaB (C:=fun (s:List Int×Int)=>Qja Γ rv a b l s.1 s.2) (D:=fun (e:List Int)=>QiN Γ rv a b l e) ?_ h hD
 clear h hD s e
 rintro ⟨l1,v⟩ z_ h hI hE
 replace h:QbI a b l l1 v=_:=h
 unfold QbI at h
 rcases Qah h with ⟨h2,h⟩|⟨h2,h⟩
 ·obtain ⟨x0,h3,h⟩:=Qae h
  obtain ⟨x1,h4,h⟩:=Qae h
  obtain ⟨r,h5,h⟩:=Qae h
  obtain ⟨x2,h6,h⟩:=Qae h
  exact gn 13 [0,1,2,8,19,20] [0] [bT h2,hH (.draw 13 []),cE e_i64 h3,cE e_i64 h4,cC (QvN h5),oO (getLo h6),oO (getHi e_i64 h6),rE e_i64 h6,hH (.rows ((setI l1 v r).map e_i64)),hH (.relen 0 ((setI l1 v r).map e_i64).length),oO (setM e_i64 l1 v r),rp 2 (oO (Qws e_i64 l1 v r))] (hI _ (oJ h))
 ·exact gn 5 [8] [0] [bF h2] (hE _ (oJ h))
theorem QqB {a b} {rv:List Int×Int} (h:Qg8 a b=some rv):AFn Tryz.prog 164 [.one (lL 1 a e_i64),.one (lL 1 b e_i64),.one (.fn (.func 166) [])] [] (.tup [.one (lL 1 rv.1 e_i64),.one (lI rv.2)]) []:=by
 refine QaL Tryz.func164 (by kernel_rfl) (by kernel_rfl) (fun Γ=>?_)
 unfold Qg8 at h
 rcases Qah h with ⟨h0,h⟩|⟨h0,h⟩
 ·obtain rfl:=Option.some.inj h
  exact gr 8 [] [nL e_i64 a,nL e_i64 b,bT h0,hW 4,hH (.nilS 6 0 1)]
 ·obtain ⟨l,h1,h⟩:=Qae h
  obtain ⟨e0,h7,h⟩:=Qae h
  refine gn 14 [0,1,2,8,19,20] [0] [nL e_i64 a,nL e_i64 b,bF h0,nL e_i64 a,hH (.cells [lI 0]),hH (.rows (l.map e_i64)),oO (mk1 h1),oO (mk2 h1),oO (mk3 h1),oO (mk4 h1),oO (mk5 e_i64 h1),nL e_i64 a] (Qoz Γ rv h7 ?_)
  obtain ⟨l2,rfl⟩:∃ x,x=e0:=⟨_,rfl⟩
  replace h:(some (l2,0):Option (List Int×Int))=some _:=h
  obtain rfl:=Option.some.inj h
  exact gr 2 [] [hW 5,hH (.frz 0),rp 3 (eL l2 e_i64)]
theorem QuF {a b} {rv:List Int×Int} (h:QsL a b=some rv):AFn Tryz.prog 141 [.one (lL 1 a e_i64),.one (lL 1 b e_i64)] [] (.tup [.one (lL 1 rv.1 e_i64),.one (lI rv.2)]) []:=by
 refine QaL Tryz.func141 (by kernel_rfl) (by kernel_rfl) (fun Γ=>?_)
 unfold QsL at h
 obtain ⟨r,h0,h⟩:=Qae h
 obtain rfl:=Option.some.inj h
 exact gr 4 [] [cC (QqB h0)]
def QtK (Γ:Gam) (rv:List (List Int)×Int) (cf:Cf):Prop:=Go Tryz.prog Tryz.f110 [] Γ (.tup [.one (lL 1 rv.1 Qbd),.one (lI rv.2)]) [] cf
def Qqe (Γ:Gam) (rv:List (List Int)×Int) (x0:Qac) (r:Qad) (l:List (List Int)) (now:List Int) (v:Int):Prop:=QtK Γ rv ⟨[.c 2036,.l 2036,.b 0,.c 255],⟨67,[vP 2 0 6,vL 9 1 now e_i64,vO 10 1 1 l Qbd,vL 37 2 r.visits Qaa.enc,vI 38 (lenI r.visits),vI 39 v],[oX 6 30 (Qac.enc x0),oS 1 42 l Qbd]⟩⟩
def Qpt (Γ:Gam) (rv:List (List Int)×Int) (x0:Qac) (r:Qad) (l1:List (List Int)):Prop:=QtK Γ rv ⟨[.c 255],⟨67,[vO 10 0 1 l1 Qbd],[oS 1 42 l1 Qbd]⟩⟩
theorem QtW (Γ:Gam) (rv:List (List Int)×Int) {x0 r} {s:List (List Int)×List Int×Int} {e:(List (List Int))⊕(List (List Int)×Int)} (h:loopF (fun s=>QdT x0 r s.1 s.2.1 s.2.2) s=some e) (hD:sel e (fun e=>Qpt Γ rv x0 r e) (fun e=>e=rv)):Qqe Γ rv x0 r s.1 s.2.1 s.2.2:=by
 refine QaB (C:=fun (s:List (List Int)×List Int×Int)=>Qqe Γ rv x0 r s.1 s.2.1 s.2.2) (D:=fun (e:(List (List Int))⊕(List (List Int)×Int))=>sel e (fun e=>Qpt Γ rv x0 r e) (fun e=>e=rv)) ?_ h hD
 clear h hD s e
 rintro ⟨l,now,v⟩ z_ h hI hE
 replace h:QdT x0 r l now v=_:=h
 unfold QdT at h
 rcases Qah h with ⟨h6,h⟩|⟨h6,h⟩
 ·obtain ⟨x1,h7,h⟩:=Qae h
  rcases Qah h with ⟨h8,h⟩|⟨h8,h⟩
  ·obtain ⟨x2,h9,h⟩:=Qae h
   obtain ⟨r5,h10,h⟩:=Qae h
   rcases Qah h with ⟨h11,h⟩|⟨h11,h⟩
   ·obtain rfl:=(hE _ (oJ h):_=rv)
    exact gr 24 [] [bT h6,cE Qaa.enc h7,bT h8,cE Qag.enc h9,cC (QuF h10),bT h11,hW 5,hH (.nilS 4 0 1)]
   ·obtain ⟨h12,h⟩:=Qau h
    exact gn 27 [2,9,10,37,38,39] [0,4] [bT h6,cE Qaa.enc h7,bT h8,cE Qag.enc h9,cC (QuF h10),bF h11,oO (Eq.refl ([r5.1].map Qbd).length),aO Qbd h12] (hI _ (oJ h))
  ·obtain ⟨x3,h13,h⟩:=Qae h
   obtain ⟨r6,h14,h⟩:=Qae h
   rcases Qah h with ⟨h15,h⟩|⟨h15,h⟩
   ·obtain rfl:=(hE _ (oJ h):_=rv)
    exact gr 24 [] [bT h6,cE Qaa.enc h7,bF h8,cE Qag.enc h13,cC (Qsg h14),bT h15,hW 5,hH (.nilS 4 0 1)]
   ·obtain ⟨h16,h⟩:=Qau h
    exact gn 27 [2,9,10,37,38,39] [0,4] [bT h6,cE Qaa.enc h7,bF h8,cE Qag.enc h13,cC (Qsg h14),bF h15,oO (Eq.refl ([r6.1].map Qbd).length),aO Qbd h16] (hI _ (oJ h))
 ·exact gn 5 [10] [1] [bF h6] (hE _ (oJ h))
theorem Qpc {x0 r} {rv:List (List Int)×Int} (h:Qol x0 r=some rv):AFn Tryz.prog 110 [.agg (Qac.enc x0),.agg (Qad.enc r)] [] (.tup [.one (lL 1 rv.1 Qbd),.one (lI rv.2)]) []:=by
 refine QaL Tryz.func110 (by kernel_rfl) (by kernel_rfl) (fun Γ=>?_)
 unfold Qol at h
 obtain ⟨r1,h0,h⟩:=Qae h
 rcases Qah h with ⟨h1,h⟩|⟨h1,h⟩
 ·obtain rfl:=Option.some.inj h
  exact gr 10 [] [cC (QdF h0),bT h1,hW 5,hH (.nilS 4 0 1)]
 ·obtain ⟨r2,h2,h⟩:=Qae h
  rcases Qah h with ⟨h3,h⟩|⟨h3,h⟩
  ·obtain rfl:=Option.some.inj h
   exact gr 17 [] [cC (QdF h0),bF h1,cC (Qo4 h2),bT h3,hW 5,hH (.nilS 4 0 1)]
  ·obtain ⟨r3,h4,h⟩:=Qae h
   obtain ⟨r4,h5,h⟩:=Qae h
   obtain ⟨e0,h17,h⟩:=Qae h
   refine gn 25 [2,9,10,37,38,39] [0,2] [cC (QdF h0),bF h1,cC (Qo4 h2),bF h3,hH (.draw 7 []),cC (Qwk h4),cC (QvD h5),nL Qaa.enc r.visits] (QtW Γ rv h17 ?_)
   rcases e0 with e0|e0
   ·obtain ⟨l1,rfl⟩:∃ x,x=e0:=⟨_,rfl⟩
    replace h:(some (l1,0):Option (List (List Int)×Int))=some _:=h
    obtain rfl:=Option.some.inj h
    exact gr 2 [] [hW 5,hH (.frz 0),rp 3 (eL l1 Qbd)]
   ·obtain ⟨r7,rfl⟩:∃ x,x=e0:=⟨_,rfl⟩
    replace h:(some r7:Option (List (List Int)×Int))=some _:=h
    exact Option.some.inj h
def QuD (Γ:Gam) (rv:Bool) (cf:Cf):Prop:=Go Tryz.prog Tryz.f113 [] Γ (one (.bool rv)) [] cf
def Qr1 (Γ:Gam) (rv:Bool) (a:List Int) (capacity:List Int) (v:Int):Prop:=QuD Γ rv ⟨[.c 116,.l 116,.b 0,.c 15],⟨26,[vL 1 1 capacity e_i64,vL 12 1 a e_i64,vI 13 (lenI a),vI 14 v],[]⟩⟩
def QqA (Γ:Gam) (rv:Bool) (a:List Int) (capacity:List Int):Prop:=QuD Γ rv ⟨[.c 15],⟨26,[],[]⟩⟩
theorem QuE (Γ:Gam) (rv:Bool) {a capacity} {s:Int} {e:(Unit)⊕(Bool)} (h:loopF (fun s=>Qfx a capacity s) s=some e) (hD:sel e (fun e=>QqA Γ rv a capacity) (fun e=>e=rv)):Qr1 Γ rv a capacity s:=by
 refine QaB (C:=fun (s:Int)=>Qr1 Γ rv a capacity s) (D:=fun (e:(Unit)⊕(Bool))=>sel e (fun e=>QqA Γ rv a capacity) (fun e=>e=rv)) ?_ h hD
 clear h hD s e
 intro v z_ h hI hE
 replace h:Qfx a capacity v=_:=h
 unfold Qfx at h
 rcases Qah h with ⟨h1,h⟩|⟨h1,h⟩
 ·obtain ⟨x0,h2,h⟩:=Qae h
  obtain ⟨x1,h3,h⟩:=Qae h
  rcases Qah h with ⟨h4,h⟩|⟨h4,h⟩
  ·obtain rfl:=(hE _ (oJ h):_=rv)
   exact gr 14 [] [bT h1,cE e_i64 h2,cE e_i64 h3,bT h4]
  ·exact gn 16 [1,12,13,14] [] [bT h1,cE e_i64 h2,cE e_i64 h3,bF h4] (hI _ (oJ h))
 ·exact gn 5 [] [] [bF h1] (hE _ (oJ h))
theorem Qwt {a capacity} {rv:Bool} (h:Qqz a capacity=some rv):AFn Tryz.prog 113 [.one (lL 1 a e_i64),.one (lL 1 capacity e_i64)] [] (one (.bool rv)) []:=by
 refine QaL Tryz.func113 (by kernel_rfl) (by kernel_rfl) (fun Γ=>?_)
 unfold Qqz at h
 rcases Qah h with ⟨h0,h⟩|⟨h0,h⟩
 ·obtain rfl:=Option.some.inj h
  exact gr 8 [] [nL e_i64 a,nL e_i64 capacity,bT h0]
 ·obtain ⟨e0,h5,h⟩:=Qae h
  refine gn 12 [1,12,13,14] [] [nL e_i64 a,nL e_i64 capacity,bF h0,nL e_i64 a] (QuE Γ rv h5 ?_)
  rcases e0 with e0|e0
  ·replace h:(some true:Option Bool)=some _:=h
   obtain rfl:=Option.some.inj h
   exact gr 2 [] []
  ·obtain ⟨r,rfl⟩:∃ x,x=e0:=⟨_,rfl⟩
   replace h:(some r:Option Bool)=some _:=h
   exact Option.some.inj h
theorem QrV {a c c1} {rv:Bool} (h:Qpb a c c1=some rv):AFn Tryz.prog 112 [.one (lL 1 a e_i64),.one (.ip (Qac.enc c) 0),.one (.ip (Qad.enc c1) 0)] [] (one (.bool rv)) []:=by
 refine QaL Tryz.func112 (by kernel_rfl) (by kernel_rfl) (fun Γ=>?_)
 unfold Qpb at h
 obtain ⟨x0,h0,h⟩:=Qae h
 obtain ⟨r,h1,h⟩:=Qae h
 obtain rfl:=Option.some.inj h
 exact gr 4 [] [cE Qai.enc h0,cC (Qwt h1)]
def Qea (Γ:Gam) (rv:Int) (cf:Cf):Prop:=Go Tryz.prog Tryz.f142 [] Γ (one (lI rv)) [] cf
def QdG (Γ:Gam) (rv:Int) (s0:List (List Int)) (c:Qac) (c1:Qad) (v:Int):Prop:=Qea Γ rv ⟨[.c 52,.l 52,.b 0,.c 7],⟨19,[vL 0 1 s0 Qbd,(1,one (.fn (.func 112) [.ip (Qac.enc c) 0,.ip (Qad.enc c1) 0])),vI 7 (lenI s0),vI 8 v],[]⟩⟩
def Qdy (Γ:Gam) (rv:Int) (s0:List (List Int)) (c:Qac) (c1:Qad):Prop:=Qea Γ rv ⟨[.c 7],⟨19,[],[]⟩⟩
theorem QgF (Γ:Gam) (rv:Int) {s0 c c1} {s:Int} {e:(Unit)⊕(Int)} (h:loopF (fun s=>QaM s0 c c1 s) s=some e) (hD:sel e (fun e=>Qdy Γ rv s0 c c1) (fun e=>e=rv)):QdG Γ rv s0 c c1 s:=by
 refine QaB (C:=fun (s:Int)=>QdG Γ rv s0 c c1 s) (D:=fun (e:(Unit)⊕(Int))=>sel e (fun e=>Qdy Γ rv s0 c c1) (fun e=>e=rv)) ?_ h hD
 clear h hD s e
 intro v z_ h hI hE
 replace h:QaM s0 c c1 v=_:=h
 unfold QaM at h
 rcases Qah h with ⟨h0,h⟩|⟨h0,h⟩
 ·obtain ⟨x0,h1,h⟩:=Qae h
  obtain ⟨r,h2,h⟩:=Qae h
  rcases Qah h with ⟨h3,h⟩|⟨h3,h⟩
  ·obtain rfl:=(hE _ (oJ h):_=rv)
   exact gr 14 [] [bT h0,cE Qbd h1,cC (QrV h2),bT h3]
  ·exact gn 16 [0,1,7,8] [] [bT h0,cE Qbd h1,cC (QrV h2),bF h3] (hI _ (oJ h))
 ·exact gn 5 [] [] [bF h0] (hE _ (oJ h))
theorem Qhl {s0 c c1} {rv:Int} (h:Qbu s0 c c1=some rv):AFn Tryz.prog 142 [.one (lL 1 s0 Qbd),.one (.fn (.func 112) [.ip (Qac.enc c) 0,.ip (Qad.enc c1) 0])] [] (one (lI rv)) []:=by
 refine QaL Tryz.func142 (by kernel_rfl) (by kernel_rfl) (fun Γ=>?_)
 unfold Qbu at h
 obtain ⟨e0,h4,h⟩:=Qae h
 refine gn 7 [0,1,7,8] [] [nL Qbd s0] (QgF Γ rv h4 ?_)
 rcases e0 with e0|e0
 ·replace h:(some (-1):Option Int)=some _:=h
  obtain rfl:=Option.some.inj h
  exact gr 2 [] []
 ·obtain ⟨r1,rfl⟩:∃ x,x=e0:=⟨_,rfl⟩
  replace h:(some r1:Option Int)=some _:=h
  exact Option.some.inj h
theorem Qdx {s0 c c1} {rv:Bool} (h:QbD s0 c c1=some rv):AFn Tryz.prog 111 [.one (lL 1 s0 Qbd),.one (.fn (.func 112) [.ip (Qac.enc c) 0,.ip (Qad.enc c1) 0])] [] (one (.bool rv)) []:=by
 refine QaL Tryz.func111 (by kernel_rfl) (by kernel_rfl) (fun Γ=>?_)
 unfold QbD at h
 obtain ⟨r,h0,h⟩:=Qae h
 obtain rfl:=Option.some.inj h
 exact gr 4 [] [cC (Qhl h0)]
theorem Qqd {x0 r} {rv:Int} (h:Qqc x0 r=some rv):AFn Tryz.prog 82 [.agg (Qac.enc x0),.agg (Qad.enc r)] [] (one (lI rv)) []:=by
 refine QaL Tryz.func82 (by kernel_rfl) (by kernel_rfl) (fun Γ=>?_)
 unfold Qqc at h
 rcases Qah h with ⟨h0,h⟩|⟨h0,h⟩
 ·obtain rfl:=Option.some.inj h
  exact gr 8 [] [rp 5 hP,rp 3 (oI ((ltI r.type_ 0)=false)),nL Qai.enc x0.types,hP,hP,rp 2 (oI ((ltI r.type_ 0)=false)),oR True ((ltI r.type_ 0)=false),bT h0]
 ·obtain ⟨r1,h1,h⟩:=Qae h
  rcases Qah h with ⟨h2,h⟩|⟨h2,h⟩
  ·obtain rfl:=Option.some.inj h
   exact gr 15 [] [rp 5 hP,rp 3 (oI ((ltI r.type_ 0)=false)),nL Qai.enc x0.types,hP,hP,rp 2 (oI ((ltI r.type_ 0)=false)),oR True ((ltI r.type_ 0)=false),bF h0,cC (Qpc h1),bT h2]
  ·obtain ⟨r2,h3,h⟩:=Qae h
   rcases Qah h with ⟨h4,h⟩|⟨h4,h⟩
   ·obtain rfl:=Option.some.inj h
    exact gr 20 [] [rp 5 hP,rp 3 (oI ((ltI r.type_ 0)=false)),nL Qai.enc x0.types,hP,hP,rp 2 (oI ((ltI r.type_ 0)=false)),oR True ((ltI r.type_ 0)=false),bF h0,cC (Qpc h1),bF h2,cC (Qdx h3),bT h4]
   ·obtain rfl:=Option.some.inj h
    exact gr 21 [] [rp 5 hP,rp 3 (oI ((ltI r.type_ 0)=false)),nL Qai.enc x0.types,hP,hP,rp 2 (oI ((ltI r.type_ 0)=false)),oR True ((ltI r.type_ 0)=false),bF h0,cC (Qpc h1),bF h2,cC (Qdx h3),bF h4]
def Qxi (Γ:Gam) (rv:Qav×Int) (cf:Cf):Prop:=Go Tryz.prog Tryz.f143 [] Γ (.tup [.agg [lI rv.1.place,lI rv.1.open_,lI rv.1.close,lI rv.1.service],.one (lI rv.2)]) [] cf
theorem Qq4 (Γ:Gam) (rv:Qav×Int) {x1} (h:Qln x1=some rv):Qxi Γ rv ⟨[.c 31],⟨32,[vP 4 0 4,vP 6 1 4],[oX 4 72 [lI 0,lI 0,lI 0,lI 0],oX 4 72 (Qav.enc x1)]⟩⟩:=by
 unfold Qln at h
 rcases Qah h with ⟨h4,h⟩|⟨h4,h⟩
 ·obtain rfl:=Option.some.inj h
  exact gr 6 [] [bT h4]
 ·obtain rfl:=Option.some.inj h
  exact gr 7 [] [bF h4]
theorem QtR {l v} {rv:Qav×Int} (h:Qq3 l v=some rv):AFn Tryz.prog 143 [.one (lL 16 l Qag.enc),.agg (Qaa.enc v)] [] (.tup [.agg [lI rv.1.place,lI rv.1.open_,lI rv.1.close,lI rv.1.service],.one (lI rv.2)]) []:=by
 refine QaL Tryz.func143 (by kernel_rfl) (by kernel_rfl) (fun Γ=>?_)
 unfold Qq3 at h
 obtain ⟨r,h0,h⟩:=Qae h
 rcases Qah h with ⟨h1,h⟩|⟨h1,h⟩
 ·obtain ⟨x0,h2,h⟩:=Qae h
  rcases Qah h with ⟨h3,h⟩|⟨h3,h⟩
  ·exact gn 14 [4,6] [1,2] [cC (QhU h0),nF h1,cE Qag.enc h2,bT h3,cE Qag.enc h2] (Qq4 Γ rv h)
  ·exact gn 14 [4,6] [1,2] [cC (QhU h0),nF h1,cE Qag.enc h2,bF h3] (Qq4 Γ rv h)
 ·obtain rfl:=Option.some.inj h
  exact gr 8 [] [cC (QhU h0),nT h1]
def Quu (Γ:Gam) (rv:Qax×Bool) (cf:Cf):Prop:=Go Tryz.prog Tryz.f114 [] Γ (.tup [.agg [lL 1 rv.1.x.net.places e_str,lL 6 rv.1.x.net.arcs Qas.enc,lL 14 rv.1.x.types Qai.enc,lL 16 rv.1.x.orders Qag.enc,lL 2 rv.1.x.apart QaQ.enc,lL 2 rv.1.x.before QaQ.enc,.str rv.1.t.name,lI rv.1.t.count,lI rv.1.t.from_,lI rv.1.t.to_,lL 1 rv.1.t.cap e_i64,lI rv.1.t.skills,lI rv.1.t.profile,lI rv.1.t.open_,lI rv.1.t.close,lI rv.1.t.drive,lI rv.1.t.rest_,lI rv.1.t.fixed,lI rv.1.t.perMile,lI rv.1.t.perTick,lI rv.1.r.type_,lI rv.1.r.start,lL 1 rv.1.r.rests Qbb,lL 2 rv.1.r.visits Qaa.enc,lL 4 rv.1.stops Qav.enc],.one (.bool rv.2)]) [] cf
def QrY (Γ:Gam) (rv:Qax×Bool) (x0:Qac) (r:Qad) (x1:Qai) (l:List Qav) (v:Int):Prop:=Quu Γ rv ⟨[.c 244,.l 244,.b 0,.c 31],⟨78,[vP 2 0 6,vP 4 1 25,vP 6 2 25,vL 49 2 r.visits Qaa.enc,vI 50 (lenI r.visits),vI 51 v],[oX 6 30 (Qac.enc x0),oX 25 174 [.nils,.nils,.nils,.nils,.nils,.nils,.str ByteArray.empty,lI 0,lI 0,lI 0,.nils,lI 0,lI 0,lI 0,lI 0,lI 0,lI 0,lI 0,lI 0,lI 0,lI 0,lI 0,.nils,.nils,.nils],oX 25 174 [lL 1 x0.net.places e_str,lL 6 x0.net.arcs Qas.enc,lL 14 x0.types Qai.enc,lL 16 x0.orders Qag.enc,lL 2 x0.apart QaQ.enc,lL 2 x0.before QaQ.enc,.str x1.name,lI x1.count,lI x1.from_,lI x1.to_,lL 1 x1.cap e_i64,lI x1.skills,lI x1.profile,lI x1.open_,lI x1.close,lI x1.drive,lI x1.rest_,lI x1.fixed,lI x1.perMile,lI x1.perTick,lI r.type_,lI r.start,lL 1 r.rests Qbb,lL 2 r.visits Qaa.enc,lO 3 4 l Qav.enc],oS 4 72 l Qav.enc]⟩⟩
def Qqj (Γ:Gam) (rv:Qax×Bool) (x0:Qac) (r:Qad) (x1:Qai) (l1:List Qav):Prop:=Quu Γ rv ⟨[.c 31],⟨78,[vP 4 0 25,vP 6 1 25],[oX 25 174 [.nils,.nils,.nils,.nils,.nils,.nils,.str ByteArray.empty,lI 0,lI 0,lI 0,.nils,lI 0,lI 0,lI 0,lI 0,lI 0,lI 0,lI 0,lI 0,lI 0,lI 0,lI 0,.nils,.nils,.nils],oX 25 174 [lL 1 x0.net.places e_str,lL 6 x0.net.arcs Qas.enc,lL 14 x0.types Qai.enc,lL 16 x0.orders Qag.enc,lL 2 x0.apart QaQ.enc,lL 2 x0.before QaQ.enc,.str x1.name,lI x1.count,lI x1.from_,lI x1.to_,lL 1 x1.cap e_i64,lI x1.skills,lI x1.profile,lI x1.open_,lI x1.close,lI x1.drive,lI x1.rest_,lI x1.fixed,lI x1.perMile,lI x1.perTick,lI r.type_,lI r.start,lL 1 r.rests Qbb,lL 2 r.visits Qaa.enc,lO 2 4 l1 Qav.enc],oS 4 72 l1 Qav.enc]⟩⟩
theorem Quv (Γ:Gam) (rv:Qax×Bool) {x0 r x1} {s:List Qav×Int} {e:(List Qav)⊕(Qax×Bool)} (h:loopF (fun s=>QiF x0 r x1 s.1 s.2) s=some e) (hD:sel e (fun e=>Qqj Γ rv x0 r x1 e) (fun e=>e=rv)):QrY Γ rv x0 r x1 s.1 s.2:=by
 refine QaB (C:=fun (s:List Qav×Int)=>QrY Γ rv x0 r x1 s.1 s.2) (D:=fun (e:(List Qav)⊕(Qax×Bool))=>sel e (fun e=>Qqj Γ rv x0 r x1 e) (fun e=>e=rv)) ?_ h hD
 clear h hD s e
 rintro ⟨l,v⟩ z_ h hI hE
 replace h:QiF x0 r x1 l v=_:=h
 unfold QiF at h
 rcases Qah h with ⟨h2,h⟩|⟨h2,h⟩
 ·obtain ⟨x2,h3,h⟩:=Qae h
  obtain ⟨r1,h4,h⟩:=Qae h
  rcases Qah h with ⟨h5,h⟩|⟨h5,h⟩
  ·obtain rfl:=(hE _ (oJ h):_=rv)
   exact gr 17 [] [bT h2,cE Qaa.enc h3,cC (QtR h4),rp 4 hP,rp 2 (oI ((neI r1.2 0)=false)),oR True ((neI r1.2 0)=false),bT h5,hW 5,hH (.nilB 1 0 1),hH (.nilB 1 1 6),hH (.nilB 1 2 14),hH (.nilB 1 3 16),hH (.nilB 1 4 2),hH (.nilB 1 5 2),hH (.nilB 1 10 1),hH (.nilB 1 22 1),hH (.nilB 1 23 2),hH (.nilB 1 24 4)]
  ·obtain ⟨h6,h⟩:=Qau h
   exact gn 20 [2,4,6,49,50,51] [0,1,2,7] [bT h2,cE Qaa.enc h3,cC (QtR h4),rp 4 hP,rp 2 (oI ((neI r1.2 0)=false)),oR True ((neI r1.2 0)=false),bF h5,oO (Eq.refl ([r1.1].map Qav.enc).length),aO Qav.enc h6] (hI _ (oJ h))
 ·exact gn 5 [4,6] [1,2,3] [bF h2] (hE _ (oJ h))
theorem QtO {x0 r} {rv:Qax×Bool} (h:Qoq x0 r=some rv):AFn Tryz.prog 114 [.agg (Qac.enc x0),.agg (Qad.enc r)] [] (.tup [.agg [lL 1 rv.1.x.net.places e_str,lL 6 rv.1.x.net.arcs Qas.enc,lL 14 rv.1.x.types Qai.enc,lL 16 rv.1.x.orders Qag.enc,lL 2 rv.1.x.apart QaQ.enc,lL 2 rv.1.x.before QaQ.enc,.str rv.1.t.name,lI rv.1.t.count,lI rv.1.t.from_,lI rv.1.t.to_,lL 1 rv.1.t.cap e_i64,lI rv.1.t.skills,lI rv.1.t.profile,lI rv.1.t.open_,lI rv.1.t.close,lI rv.1.t.drive,lI rv.1.t.rest_,lI rv.1.t.fixed,lI rv.1.t.perMile,lI rv.1.t.perTick,lI rv.1.r.type_,lI rv.1.r.start,lL 1 rv.1.r.rests Qbb,lL 2 rv.1.r.visits Qaa.enc,lL 4 rv.1.stops Qav.enc],.one (.bool rv.2)]) []:=by
 refine QaL Tryz.func114 (by kernel_rfl) (by kernel_rfl) (fun Γ=>?_)
 unfold Qoq at h
 rcases Qah h with ⟨h0,h⟩|⟨h0,h⟩
 ·obtain rfl:=Option.some.inj h
  exact gr 8 [] [rp 5 hP,rp 3 (oI ((ltI r.type_ 0)=false)),nL Qai.enc x0.types,rp 13 hP,rp 2 (oI ((ltI r.type_ 0)=false)),oR True ((ltI r.type_ 0)=false),rp 2 (oI (((ltI r.type_ 0)||(geI r.type_ (lenI x0.types)))=false)),oR True (((ltI r.type_ 0)||(geI r.type_ (lenI x0.types)))=false),rp 2 (oI ((((ltI r.type_ 0)||(geI r.type_ (lenI x0.types)))||(ltI r.start 0))=false)),oR True ((((ltI r.type_ 0)||(geI r.type_ (lenI x0.types)))||(ltI r.start 0))=false),rp 2 (oI (((((ltI r.type_ 0)||(geI r.type_ (lenI x0.types)))||(ltI r.start 0))||(gtI r.start 4096))=false)),nL Qaa.enc r.visits,hP,hP,oI (((((ltI r.type_ 0)||(geI r.type_ (lenI x0.types)))||(ltI r.start 0))||(gtI r.start 4096))=false),oR True (((((ltI r.type_ 0)||(geI r.type_ (lenI x0.types)))||(ltI r.start 0))||(gtI r.start 4096))=false),bT h0,hW 5,hH (.nilB 2 0 1),hH (.nilB 2 1 6),hH (.nilB 2 2 14),hH (.nilB 2 3 16),hH (.nilB 2 4 2),hH (.nilB 2 5 2),hH (.nilB 2 10 1),hH (.nilB 2 22 1),hH (.nilB 2 23 2),hH (.nilB 2 24 4)]
 ·obtain ⟨x1,h1,h⟩:=Qae h
  obtain ⟨e0,h7,h⟩:=Qae h
  refine gn 14 [2,4,6,49,50,51] [0,2,3,4] [rp 5 hP,rp 3 (oI ((ltI r.type_ 0)=false)),nL Qai.enc x0.types,rp 13 hP,rp 2 (oI ((ltI r.type_ 0)=false)),oR True ((ltI r.type_ 0)=false),rp 2 (oI (((ltI r.type_ 0)||(geI r.type_ (lenI x0.types)))=false)),oR True (((ltI r.type_ 0)||(geI r.type_ (lenI x0.types)))=false),rp 2 (oI ((((ltI r.type_ 0)||(geI r.type_ (lenI x0.types)))||(ltI r.start 0))=false)),oR True ((((ltI r.type_ 0)||(geI r.type_ (lenI x0.types)))||(ltI r.start 0))=false),rp 2 (oI (((((ltI r.type_ 0)||(geI r.type_ (lenI x0.types)))||(ltI r.start 0))||(gtI r.start 4096))=false)),nL Qaa.enc r.visits,hP,hP,oI (((((ltI r.type_ 0)||(geI r.type_ (lenI x0.types)))||(ltI r.start 0))||(gtI r.start 4096))=false),oR True (((((ltI r.type_ 0)||(geI r.type_ (lenI x0.types)))||(ltI r.start 0))||(gtI r.start 4096))=false),bF h0,hH (.draw 10 []),cE Qai.enc h1,nL Qaa.enc r.visits,hW 3,hH (.adoptB 3 24 4 72)] (Quv Γ rv h7 ?_)
  rcases e0 with e0|e0
  ·obtain ⟨l1,rfl⟩:∃ x,x=e0:=⟨_,rfl⟩
   replace h:(some ((Qax.mk x0 x1 r l1),true):Option (Qax×Bool))=some _:=h
   obtain rfl:=Option.some.inj h
   exact gr 2 [] [hW 5,hH (.frz 2),rp 3 (eL l1 Qav.enc)]
  ·obtain ⟨r2,rfl⟩:∃ x,x=e0:=⟨_,rfl⟩
   replace h:(some r2:Option (Qax×Bool))=some _:=h
   exact Option.some.inj h
theorem QnB {p} {rv:Qaf} (h:Qdf p=some rv):AFn Tryz.prog 115 [.agg (Qax.enc p)] [] (gG [lI rv.ready,lI rv.since,.bool rv.sheet.rest_,lI rv.sheet.depart,lL 4 rv.sheet.times Qar.enc,lI rv.sheet.end_,lI rv.sheet.miles]) []:=by
 refine QaL Tryz.func115 (by kernel_rfl) (by kernel_rfl) (fun Γ=>?_)
 unfold Qdf at h
 obtain rfl:=Option.some.inj h
 exact gr 4 [] [hW 15,hH (.nilB 1 4 4)]
theorem Qdw {n i} {rv:Bool} (h:Qi3 n i=some rv):AFn Tryz.prog 179 [.agg (Qal.enc n),.one (lI i)] [] (one (.bool rv)) []:=by
 refine QaL Tryz.func179 (by kernel_rfl) (by kernel_rfl) (fun Γ=>?_)
 unfold Qi3 at h
 obtain rfl:=Option.some.inj h
 exact gr 4 [] [rp 4 hP,rp 2 (oI ((geI i 0)=true)),nL e_str n.places,hP,hP,rp 2 (oI ((geI i 0)=true)),oR True ((geI i 0)=true)]
theorem Qq0 {a} {rv:QiE} (h:Qn1 a=some rv):AFn Tryz.prog 186 [.agg (Qas.enc a)] [] (gG [lI rv.from_,lI rv.to_,lI rv.profile]) []:=by
 refine QaL Tryz.func186 (by kernel_rfl) (by kernel_rfl) (fun Γ=>?_)
 unfold Qn1 at h
 obtain rfl:=Option.some.inj h
 exact gr 4 [] []
def Qs0 (Γ:Gam) (rv:Qas×Bool) (cf:Cf):Prop:=Go Tryz.prog Tryz.f180 [] Γ (.tup [.agg [lI rv.1.from_,lI rv.1.to_,lI rv.1.profile,lI rv.1.miles,lL 2 rv.1.travel Qao.enc,lL 2 rv.1.slow Qao.enc],.one (.bool rv.2)]) [] cf
def QpM (Γ:Gam) (rv:Qas×Bool) (n:Qal) (profile:Int) (from_:Int) (to_:Int) (v:Int):Prop:=Qs0 Γ rv ⟨[.c 116,.l 116,.b 0,.c 15],⟨31,[vP 8 0 6,vP 10 1 3,vL 18 6 n.arcs Qas.enc,vI 19 (lenI n.arcs),vI 20 v],[oX 6 122 [lI 0,lI 0,lI 0,lI 0,.nils,.nils],oX 3 238 [lI from_,lI to_,lI profile]]⟩⟩
def QoY (Γ:Gam) (rv:Qas×Bool) (n:Qal) (profile:Int) (from_:Int) (to_:Int):Prop:=Qs0 Γ rv ⟨[.c 15],⟨31,[vP 8 0 6],[oX 6 122 [lI 0,lI 0,lI 0,lI 0,.nils,.nils]]⟩⟩
theorem Qtp (Γ:Gam) (rv:Qas×Bool) {n profile from_ to_} {s:Int} {e:(Unit)⊕(Qas×Bool)} (h:loopF (fun s=>Qg1 n profile from_ to_ s) s=some e) (hD:sel e (fun e=>QoY Γ rv n profile from_ to_) (fun e=>e=rv)):QpM Γ rv n profile from_ to_ s:=by
 refine QaB (C:=fun (s:Int)=>QpM Γ rv n profile from_ to_ s) (D:=fun (e:(Unit)⊕(Qas×Bool))=>sel e (fun e=>QoY Γ rv n profile from_ to_) (fun e=>e=rv)) ?_ h hD
 clear h hD s e
 intro v z_ h hI hE
 replace h:Qg1 n profile from_ to_ v=_:=h
 unfold Qg1 at h
 rcases Qah h with ⟨h0,h⟩|⟨h0,h⟩
 ·obtain ⟨x0,h1,h⟩:=Qae h
  obtain ⟨r,h2,h⟩:=Qae h
  rcases Qah h with ⟨h3,h⟩|⟨h3,h⟩
  ·obtain rfl:=(hE _ (oJ h):_=rv)
   exact gr 14 [] [bT h0,cE Qas.enc h1,hH (.draw 4 []),cC (Qq0 h2),bT h3]
  ·exact gn 16 [8,10,18,19,20] [0,1] [bT h0,cE Qas.enc h1,hH (.draw 4 []),cC (Qq0 h2),bF h3] (hI _ (oJ h))
 ·exact gn 5 [8] [0] [bF h0] (hE _ (oJ h))
theorem Qr3 {n profile from_ to_} {rv:Qas×Bool} (h:Qng n profile from_ to_=some rv):AFn Tryz.prog 180 [.agg (Qal.enc n),.one (lI profile),.one (lI from_),.one (lI to_)] [] (.tup [.agg [lI rv.1.from_,lI rv.1.to_,lI rv.1.profile,lI rv.1.miles,lL 2 rv.1.travel Qao.enc,lL 2 rv.1.slow Qao.enc],.one (.bool rv.2)]) []:=by
 refine QaL Tryz.func180 (by kernel_rfl) (by kernel_rfl) (fun Γ=>?_)
 unfold Qng at h
 obtain ⟨e0,h4,h⟩:=Qae h
 refine gn 9 [8,10,18,19,20] [1,2] [nL Qas.enc n.arcs] (Qtp Γ rv h4 ?_)
 rcases e0 with e0|e0
 ·replace h:(some ((Qas.mk 0 0 0 0 [] []),false):Option (Qas×Bool))=some _:=h
  obtain rfl:=Option.some.inj h
  exact gr 2 [] [hW 5,hH (.nilB 0 4 2),hH (.nilB 0 5 2)]
 ·obtain ⟨r1,rfl⟩:∃ x,x=e0:=⟨_,rfl⟩
  replace h:(some r1:Option (Qas×Bool))=some _:=h
  exact Option.some.inj h
theorem QhK {n least most} {rv:Bool} (h:Qgo n least most=some rv):AFn Tryz.prog 190 [.one (lI n),.one (lI least),.one (lI most)] [] (one (.bool rv)) []:=by
 refine QaL Tryz.func190 (by kernel_rfl) (by kernel_rfl) (fun Γ=>?_)
 unfold Qgo at h
 obtain rfl:=Option.some.inj h
 exact gr 4 [] [rp 4 hP,rp 2 (oI ((geI n least)=true)),oR True ((geI n least)=true)]
theorem Qu4 {i} {rv:ByteArray} (h:Qrf i=some rv):AFn Tryz.prog 204 [.one (lI i)] [] (one (.str rv)) []:=by
 refine QaL Tryz.func204 (by kernel_rfl) (by kernel_rfl) (fun Γ=>?_)
 unfold Qrf at h
 rcases Qah h with ⟨h0,h⟩|⟨h0,h⟩
 ·obtain ⟨s0,h1,h⟩:=Qae h
  obtain rfl:=Option.some.inj h
  exact gr 8 [] [bT h0,oO (ss1 h1),oO (ss2 h1),oO (ss3 h1)]
 ·obtain ⟨s1,h2,h⟩:=Qae h
  obtain rfl:=Option.some.inj h
  exact gr 9 [] [bF h0,oO (ss1 h2),oO (ss2 h2),oO (ss3 h2)]
end Go.Proofs.YtpkkaboonnedfaaGreatDoor
