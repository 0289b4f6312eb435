/- Part MU of the proof: texts Y0. -/
import Derived.Test.YtpkkaboonnedfaaGreatDoorMT
import Derived.Test.YtpkkaboonnedfaaGreatDoorMC
import Derived.Test.YtpkkaboonnedfaaGreatDoorMI
import Derived.Test.YtpkkaboonnedfaaGreatDoorProg
namespace Go.Proofs.YtpkkaboonnedfaaGreatDoor
set_option linter.unusedVariables false
set_option linter.unusedSectionVars false
set_option linter.unusedSimpArgs false
set_option maxHeartbeats 4000000
set_option maxRecDepth 100000
def Qku (Γ:Gam) (rv:List Qab) (cf:Cf):Prop:=Go Tryz.prog Tryz.f57 [] Γ (one (lL 2 rv Qab.enc)) [] cf
def Qik (Γ:Gam) (rv:List Qab) (word:ByteArray) (l:List Qab) (l1:List Qab) (i:Int):Prop:=Qku Γ rv ⟨[.c 116,.l 116,.b 0,.c 15],⟨40,[vS 0 word,vL 1 2 l Qab.enc,vO 5 0 2 l1 Qab.enc,vI 6 i],[oS 2 146 l1 Qab.enc]⟩⟩
def QhQ (Γ:Gam) (rv:List Qab) (word:ByteArray) (l:List Qab) (l2:List Qab):Prop:=Qku Γ rv ⟨[.c 15],⟨40,[vO 5 0 2 l2 Qab.enc],[oS 2 146 l2 Qab.enc]⟩⟩
theorem Qli (Γ:Gam) (rv:List Qab) {word l l1 i at_} {x:(List Qab×Int)⊕(List Qab)} (h:QfY word l l1 i at_=some x) (hI:∀ s:List Qab×Int,x=.inl s→Qik Γ rv word l s.1 s.2) (hE:∀ e:List Qab,x=.inr e→QhQ Γ rv word l e):Qku Γ rv ⟨[.c 3731,.b 1,.c 467,.l 116,.b 0,.c 15],⟨40,[vS 0 word,vL 1 2 l Qab.enc,vO 5 0 2 l1 Qab.enc,vI 6 i,vS 7 at_],[oS 2 146 l1 Qab.enc]⟩⟩:=by
 unfold QfY at h
 obtain ⟨x1,h5,h⟩:=Qae h
 obtain ⟨h6,h⟩:=Qav h
 exact gn 4 [0,1,5,6] [2] [cE Qab.enc h5,oO (Eq.refl ([(Qab.mk x1.err at_)].map Qab.enc).length),aO Qab.enc h6] (hI _ (oJ h))
theorem Qrd (Γ:Gam) (rv:List Qab) {word l} {s:List Qab×Int} {e:List Qab} (h:QaT (fun s=>QeI word l s.1 s.2) s=some e) (hD:QhQ Γ rv word l e):Qik Γ rv word l s.1 s.2:=by
 refine QaC (C:=fun (s:List Qab×Int)=>Qik Γ rv word l s.1 s.2) (D:=fun (e:List Qab)=>QhQ Γ rv word l e) ?_ h hD
 clear h hD s e
 rintro ⟨l1,i⟩ z_ h hI hE
 replace h:QeI word l l1 i=_:=h
 unfold QeI at h
 rcases Qah h with ⟨h0,h⟩|⟨h0,h⟩
 ·obtain ⟨x0,h1,h⟩:=Qae h
  rcases Qah h with ⟨h2,h⟩|⟨h2,h⟩
  ·exact gn 14 [0,1,5,6,7] [0] [nL Qab.enc l,bT h0,cE Qab.enc h1,nF h2] (Qli Γ rv h hI hE)
  ·obtain ⟨h3,h⟩:=Qav h
   obtain ⟨h4,h⟩:=Qav h
   exact gn 14 [0,1,5,6,7] [0] [nL Qab.enc l,bT h0,cE Qab.enc h1,nT h2,oO (h3),cE Qab.enc h1,oO (h4)] (Qli Γ rv h hI hE)
 ·exact gn 5 [5] [0] [nL Qab.enc l,bF h0] (hE _ (oJ h))
theorem QjB {word l} {rv:List Qab} (h:Qgu word l=some rv):AFn Tryz.prog 57 [.one (.str word),.one (lL 2 l Qab.enc)] [] (one (lL 2 rv Qab.enc)) []:=by
 refine QaM Tryz.func57 (by kernel_rfl) (by kernel_rfl) (fun Γ=>?_)
 unfold Qgu at h
 obtain ⟨e0,h7,h⟩:=Qae h
 refine gn 9 [0,1,5,6] [0] [hW 12,hH (.adopt 5 2 146)] (Qrd Γ rv h7 ?_)
 obtain ⟨l2,rfl⟩:∃ x,x=e0:=⟨_,rfl⟩
 replace h:(some l2:Option (List Qab))=some _:=h
 obtain rfl:=Option.some.inj h
 exact gr 2 [] [hW 4,hH (.frz 0),rp 3 (eL l2 Qab.enc)]
def QiP (Γ:Gam) (rv:ByteArray) (cf:Cf):Prop:=Go Tryz.prog Tryz.f91 [] Γ (one (.str rv)) [] cf
def Qhh (Γ:Gam) (rv:ByteArray) (n:Int) (s0:ByteArray) (left:Int) (again:Bool):Prop:=QiP Γ rv ⟨[.c 244,.l 244,.b 0,.c 31],⟨31,[vI 0 n,vS 3 s0,vI 4 left,vB 5 again],[]⟩⟩
def QgH (Γ:Gam) (rv:ByteArray) (n:Int) (s1:ByteArray):Prop:=QiP Γ rv ⟨[.c 31],⟨31,[vI 0 n,vS 3 s1],[]⟩⟩
theorem Qjs (Γ:Gam) (rv:ByteArray) {n s0 left d} {x:(ByteArray×Int×Bool)⊕(ByteArray)} (h:QdL n s0 left d=some x) (hI:∀ s:ByteArray×Int×Bool,x=.inl s→Qhh Γ rv n s.1 s.2.1 s.2.2) (hE:∀ e:ByteArray,x=.inr e→QgH Γ rv n e):QiP Γ rv ⟨[.c 7827,.b 1,.c 979,.l 244,.b 0,.c 31],⟨31,[vI 0 n,vS 3 s0,vI 4 left,vI 6 d],[]⟩⟩:=by
 unfold QdL at h
 obtain ⟨h2,h⟩:=Qav h
 exact gn 6 [0,3,4,5] [] [hH (.ints [(cvK .u8 (addK .i64 48 d))]),oO (Eq.refl ([(cvK .u8 (addK .i64 48 d))].map e_u8).length),oO (Eq.refl (([(cvK .u8 (addK .i64 48 d))].map e_u8):List (List Lf))),oO (h2),oO (oA (n:=10))] (hI _ (oJ h))
theorem QpI (Γ:Gam) (rv:ByteArray) {n} {s:ByteArray×Int×Bool} {e:ByteArray} (h:QaT (fun s=>Qgi n s.1 s.2.1 s.2.2) s=some e) (hD:QgH Γ rv n e):Qhh Γ rv n s.1 s.2.1 s.2.2:=by
 refine QaC (C:=fun (s:ByteArray×Int×Bool)=>Qhh Γ rv n s.1 s.2.1 s.2.2) (D:=fun (e:ByteArray)=>QgH Γ rv n e) ?_ h hD
 clear h hD s e
 rintro ⟨s0,left,again⟩ z_ h hI hE
 replace h:Qgi n s0 left again=_:=h
 unfold Qgi at h
 rcases Qah h with ⟨h0,h⟩|⟨h0,h⟩
 ·rcases Qah h with ⟨h1,h⟩|⟨h1,h⟩
  ·exact gn 14 [0,3,4,6] [] [bT h0,oO (oA (n:=10)),bT h1] (Qjs Γ rv h hI hE)
  ·exact gn 14 [0,3,4,6] [] [bT h0,oO (oA (n:=10)),bF h1] (Qjs Γ rv h hI hE)
 ·exact gn 5 [0,3] [] [bF h0] (hE _ (oJ h))
theorem Qb0 {n} {rv:ByteArray} (h:Qb3 n=some rv):AFn Tryz.prog 91 [.one (lI n)] [] (one (.str rv)) []:=by
 refine QaM Tryz.func91 (by kernel_rfl) (by kernel_rfl) (fun Γ=>?_)
 unfold Qb3 at h
 obtain ⟨e0,h3,h⟩:=Qae h
 refine gn 11 [0,3,4,5] [] [] (QpI Γ rv h3 ?_)
 obtain ⟨s1,rfl⟩:∃ x,x=e0:=⟨_,rfl⟩
 replace h:(br (ltI n 0) (chk (QwU.size+s1.size≤9223372036854775807) (some (catS QwU s1))) (some s1):Option ByteArray)=some _:=h
 rcases Qah h with ⟨h4,h⟩|⟨h4,h⟩
 ·obtain ⟨h5,h⟩:=Qav h
  obtain rfl:=Option.some.inj h
  exact gr 6 [] [bT h4,oO (h5)]
 ·obtain rfl:=Option.some.inj h
  exact gr 7 [] [bF h4]
theorem Qhp {c} {rv:Bool} (h:Qjt c=some rv):AFn Tryz.prog 148 [.one (.int .u8 c)] [] (one (.bool rv)) []:=by
 refine QaM Tryz.func148 (by kernel_rfl) (by kernel_rfl) (fun Γ=>?_)
 unfold Qjt at h
 obtain rfl:=Option.some.inj h
 exact gr 4 [] [hP,hP,hP,oI ((geI c 48)=true),oR True ((geI c 48)=true)]
theorem QiQ {c} {rv:Bool} (h:QlP c=some rv):AFn Tryz.prog 149 [.one (.int .u8 c)] [] (one (.bool rv)) []:=by
 refine QaM Tryz.func149 (by kernel_rfl) (by kernel_rfl) (fun Γ=>?_)
 unfold QlP at h
 obtain rfl:=Option.some.inj h
 exact gr 4 [] [rp 14 hP,oI ((geI c 97)=true),oR True ((geI c 97)=true),rp 2 (oI (((geI c 97)&&(leI c 122))=false)),oI ((((geI c 97)&&(leI c 122))=false)∧(geI c 65)=true),oI (((geI c 97)&&(leI c 122))=false),oI ((((geI c 97)&&(leI c 122))=false)∧(geI c 65)=true),oR True (((geI c 97)&&(leI c 122))=false),oI ((((geI c 97)&&(leI c 122))||((geI c 65)&&(leI c 90)))=false),oR True ((((geI c 97)&&(leI c 122))||((geI c 65)&&(leI c 90)))=false)]
def Qp3 (Γ:Gam) (rv:Bool) (cf:Cf):Prop:=Go Tryz.prog Tryz.f119 [] Γ (one (.bool rv)) [] cf
def Qne (Γ:Gam) (rv:Bool) (s0:ByteArray) (b:UInt8) (i:Int):Prop:=Qp3 Γ rv ⟨[.c 116,.l 116,.b 0,.c 15],⟨35,[vS 0 s0,vI 3 i],[]⟩⟩
def Ql6 (Γ:Gam) (rv:Bool) (s0:ByteArray) (b:UInt8):Prop:=Qp3 Γ rv ⟨[.c 15],⟨35,[],[]⟩⟩
theorem Qr1 (Γ:Gam) (rv:Bool) {s0 b} {s:Int} {e:(Unit)⊕(Bool)} (h:QaT (fun s=>Qfa s0 b s) s=some e) (hD:sel e (fun e=>Ql6 Γ rv s0 b) (fun e=>e=rv)):Qne Γ rv s0 b s:=by
 refine QaC (C:=fun (s:Int)=>Qne Γ rv s0 b s) (D:=fun (e:(Unit)⊕(Bool))=>sel e (fun e=>Ql6 Γ rv s0 b) (fun e=>e=rv)) ?_ h hD
 clear h hD s e
 intro i z_ h hI hE
 replace h:Qfa s0 b i=_:=h
 unfold Qfa at h
 rcases Qah h with ⟨h4,h⟩|⟨h4,h⟩
 ·obtain ⟨b1,h5,h⟩:=Qae h
  obtain ⟨r1,h6,h⟩:=Qae h
  rcases Qah h with ⟨h7,h⟩|⟨h7,h⟩
  ·exact gn 14 [0,3] [] [bT h4,yE h5,cC (QiQ h6),rp 6 (nF h7),fF] (hI _ (oJ h))
  ·obtain ⟨r2,h8,h⟩:=Qae h
   rcases Qah h with ⟨h9,h⟩|⟨h9,h⟩
   ·exact gn 14 [0,3] [] [bT h4,yE h5,cC (QiQ h6),rp 3 (nT h7),yE h5,nT h7,cC (Qhp h8),nT h7,nT h7,nF h9] (hI _ (oJ h))
   ·obtain rfl:=(hE _ (oJ h):_=rv)
    exact gr 12 [] [bT h4,yE h5,cC (QiQ h6),rp 3 (nT h7),yE h5,nT h7,cC (Qhp h8),nT h7,nT h7,nT h9]
 ·exact gn 5 [] [] [bF h4] (hE _ (oJ h))
theorem Qfb {s0} {rv:Bool} (h:Qf8 s0=some rv):AFn Tryz.prog 119 [.one (.str s0)] [] (one (.bool rv)) []:=by
 refine QaM Tryz.func119 (by kernel_rfl) (by kernel_rfl) (fun Γ=>?_)
 unfold Qf8 at h
 rcases Qah h with ⟨h0,h⟩|⟨h0,h⟩
 ·obtain rfl:=Option.some.inj h
  exact gr 8 [] [rp 4 hP,rp 2 (oI ((ltI (Qz7 s0) 1)=false)),oR True ((ltI (Qz7 s0) 1)=false),rp 4 (bT h0),tT]
 ·obtain ⟨b,h1,h⟩:=Qae h
  obtain ⟨r,h2,h⟩:=Qae h
  rcases Qah h with ⟨h3,h⟩|⟨h3,h⟩
  ·obtain rfl:=Option.some.inj h
   exact gr 8 [] [rp 4 hP,rp 2 (oI ((ltI (Qz7 s0) 1)=false)),oR True ((ltI (Qz7 s0) 1)=false),bF h0,bF h0,yE h1,bF h0,cC (Qhp h2),bF h0,bT h3]
  ·obtain ⟨e0,h10,h⟩:=Qae h
   refine gn 12 [0,3] [] [rp 4 hP,rp 2 (oI ((ltI (Qz7 s0) 1)=false)),oR True ((ltI (Qz7 s0) 1)=false),bF h0,bF h0,yE h1,bF h0,cC (Qhp h2),bF h0,bF h3] (Qr1 Γ rv h10 ?_)
   rcases e0 with e0|e0
   ·replace h:(some true:Option Bool)=some _:=h
    obtain rfl:=Option.some.inj h
    exact gr 2 [] []
   ·obtain ⟨r3,rfl⟩:∃ x,x=e0:=⟨_,rfl⟩
    replace h:(some r3:Option Bool)=some _:=h
    exact Option.some.inj h
def Qh5 (Γ:Gam) (rv:List Qab) (cf:Cf):Prop:=Go Tryz.prog Tryz.f120 [] Γ (one (lL 2 rv Qab.enc)) [] cf
def Qii (Γ:Gam) (rv:List Qab) (l:List Qao) (l2:List Qab) (i:Int):Prop:=Qh5 Γ rv ⟨[.c 244,.l 244,.b 0,.c 31],⟨88,[vL 0 2 l Qao.enc,vO 3 0 2 l2 Qab.enc,vI 4 i],[oS 2 146 l2 Qab.enc]⟩⟩
def QhH (Γ:Gam) (rv:List Qab) (l:List Qao) (l4:List Qab):Prop:=Qh5 Γ rv ⟨[.c 31],⟨88,[vO 3 0 2 l4 Qab.enc],[oS 2 146 l4 Qab.enc]⟩⟩
theorem QkM (Γ:Gam) (rv:List Qab) {l i x0 l3} {x:(List Qab×Int)⊕(List Qab)} (h:Qet l i x0 l3=some x) (hI:∀ s:List Qab×Int,x=.inl s→Qii Γ rv l s.1 s.2) (hE:∀ e:List Qab,x=.inr e→QhH Γ rv l e):Qh5 Γ rv ⟨[.c 7827,.b 1,.c 979,.l 244,.b 0,.c 31],⟨88,[vL 0 2 l Qao.enc,vO 3 0 2 l3 Qab.enc,vI 4 i,vP 5 1 2],[oS 2 146 l3 Qab.enc,oX 2 119 (Qao.enc x0)]⟩⟩:=by
 unfold Qet at h
 rcases Qah h with ⟨h7,h⟩|⟨h7,h⟩
 ·obtain ⟨x1,h8,h⟩:=Qae h
  rcases Qah h with ⟨h9,h⟩|⟨h9,h⟩
  ·obtain ⟨r1,h10,h⟩:=Qae h
   obtain ⟨h11,h⟩:=Qav h
   exact gn 7 [0,3,4] [3] [hH (.draw 24 []),rp 6 (bT h7),cE Qao.enc h8,rp 4 (bT h7),rp 9 (bT h9),bT h7,bT h9,bT h7,tT,cC (Qb0 h10),oO (Eq.refl ([(Qab.mk 13 r1)].map Qab.enc).length),aO Qab.enc h11] (hI _ (oJ h))
  ·rcases Qah h with ⟨h12,h⟩|⟨h12,h⟩
   ·obtain ⟨r2,h13,h⟩:=Qae h
    obtain ⟨h14,h⟩:=Qav h
    exact gn 7 [0,3,4] [3] [hH (.draw 24 []),rp 6 (bT h7),cE Qao.enc h8,rp 4 (bT h7),rp 6 (bF h9),cE Qao.enc h8,rp 3 (bF h9),bT h7,bF h9,bT h7,bT h12,cC (Qb0 h13),oO (Eq.refl ([(Qab.mk 13 r2)].map Qab.enc).length),aO Qab.enc h14] (hI _ (oJ h))
   ·exact gn 7 [0,3,4] [0] [hH (.draw 24 []),rp 6 (bT h7),cE Qao.enc h8,rp 4 (bT h7),rp 6 (bF h9),cE Qao.enc h8,rp 3 (bF h9),bT h7,bF h9,bT h7,bF h12] (hI _ (oJ h))
 ·exact gn 7 [0,3,4] [0] [hH (.draw 24 []),rp 10 (bF h7),rp 9 kF,bF h7,bF h7,fF] (hI _ (oJ h))
theorem Qq4 (Γ:Gam) (rv:List Qab) {l} {s:List Qab×Int} {e:List Qab} (h:QaT (fun s=>QdE l s.1 s.2) s=some e) (hD:QhH Γ rv l e):Qii Γ rv l s.1 s.2:=by
 refine QaC (C:=fun (s:List Qab×Int)=>Qii Γ rv l s.1 s.2) (D:=fun (e:List Qab)=>QhH Γ rv l e) ?_ h hD
 clear h hD s e
 rintro ⟨l2,i⟩ z_ h hI hE
 replace h:QdE l l2 i=_:=h
 unfold QdE at h
 rcases Qah h with ⟨h2,h⟩|⟨h2,h⟩
 ·obtain ⟨x0,h3,h⟩:=Qae h
  rcases Qah h with ⟨h4,h⟩|⟨h4,h⟩
  ·obtain ⟨r,h5,h⟩:=Qae h
   obtain ⟨h6,h⟩:=Qav h
   exact gn 14 [0,3,4,5] [3,1] [nL Qao.enc l,bT h2,cE Qao.enc h3,rp 17 hP,rp 2 (oI ((ltI x0.t 0)=false)),oR True ((ltI x0.t 0)=false),rp 4 (oI (((ltI x0.t 0)||(gtI x0.t 4096))=false)),oR True (((ltI x0.t 0)||(gtI x0.t 4096))=false),rp 5 (oI ((((ltI x0.t 0)||(gtI x0.t 4096))||(ltI x0.a x0.t))=false)),oR True ((((ltI x0.t 0)||(gtI x0.t 4096))||(ltI x0.a x0.t))=false),bT h4,cC (Qb0 h5),oO (Eq.refl ([(Qab.mk 2 r)].map Qab.enc).length),aO Qab.enc h6] (QkM Γ rv h hI hE)
  ·exact gn 14 [0,3,4,5] [0,1] [nL Qao.enc l,bT h2,cE Qao.enc h3,rp 17 hP,rp 2 (oI ((ltI x0.t 0)=false)),oR True ((ltI x0.t 0)=false),rp 4 (oI (((ltI x0.t 0)||(gtI x0.t 4096))=false)),oR True (((ltI x0.t 0)||(gtI x0.t 4096))=false),rp 5 (oI ((((ltI x0.t 0)||(gtI x0.t 4096))||(ltI x0.a x0.t))=false)),oR True ((((ltI x0.t 0)||(gtI x0.t 4096))||(ltI x0.a x0.t))=false),bF h4] (QkM Γ rv h hI hE)
 ·exact gn 5 [3] [0] [nL Qao.enc l,bF h2] (hE _ (oJ h))
theorem QkL (Γ:Gam) (rv:List Qab) {l l1} (h:QfR l l1=some rv):Qh5 Γ rv ⟨[.c 15],⟨88,[vL 0 2 l Qao.enc,vO 3 0 2 l1 Qab.enc],[oS 2 146 l1 Qab.enc]⟩⟩:=by
 unfold QfR at h
 obtain ⟨e0,h15,h⟩:=Qae h
 refine gn 5 [0,3,4] [0] [] (Qq4 Γ rv h15 ?_)
 obtain ⟨l4,rfl⟩:∃ x,x=e0:=⟨_,rfl⟩
 replace h:(some l4:Option (List Qab))=some _:=h
 obtain rfl:=Option.some.inj h
 exact gr 2 [] [hW 4,hH (.frz 0),rp 3 (eL l4 Qab.enc)]
theorem Qjv {l} {rv:List Qab} (h:Qfq l=some rv):AFn Tryz.prog 120 [.one (lL 2 l Qao.enc)] [] (one (lL 2 rv Qab.enc)) []:=by
 refine QaM Tryz.func120 (by kernel_rfl) (by kernel_rfl) (fun Γ=>?_)
 unfold Qfq at h
 rcases Qah h with ⟨h0,h⟩|⟨h0,h⟩
 ·obtain ⟨h1,h⟩:=Qav h
  exact gn 9 [0,3] [1] [nL Qao.enc l,hP,hP,oI ((ltI (lenI l) 1)=false),nL Qao.enc l,hP,hP,oI ((ltI (lenI l) 1)=false),oR True ((ltI (lenI l) 1)=false),bT h0,oO (Eq.refl ([(Qab.mk 4 ByteArray.empty)].map Qab.enc).length),aN (l:=([(Qab.mk 4 ByteArray.empty)]:List Qab)) Qab.enc h1] (QkL Γ rv h)
 ·exact gn 9 [0,3] [0] [nL Qao.enc l,hP,hP,oI ((ltI (lenI l) 1)=false),nL Qao.enc l,hP,hP,oI ((ltI (lenI l) 1)=false),oR True ((ltI (lenI l) 1)=false),bF h0,hW 1,hH (.adopt 3 2 146)] (QkL Γ rv h)
theorem Qc4 {t} {rv:Bool} (h:Qg8 t=some rv):AFn Tryz.prog 121 [.one (lI t)] [] (one (.bool rv)) []:=by
 refine QaM Tryz.func121 (by kernel_rfl) (by kernel_rfl) (fun Γ=>?_)
 unfold Qg8 at h
 obtain rfl:=Option.some.inj h
 exact gr 4 [] [hP,hP,hP,oI ((geI t 0)=true),oR True ((geI t 0)=true)]
def QbI (Γ:Gam) (rv:List Qab) (cf:Cf):Prop:=Go Tryz.prog Tryz.f88 [] Γ (one (lL 2 rv Qab.enc)) [] cf
def Qjw (Γ:Gam) (rv:List Qab) (n:Qam) (i:Int) (r:ByteArray) (x0:Qas) (l:List Qab) (l1:List Qab) (twice:Bool) (k:Int):Prop:=QbI Γ rv ⟨[.c 4084,.l 4084,.b 0,.c 511],⟨192,[vI 1 i,vP 2 0 2,vO 5 1 2 l1 Qab.enc,vS 6 (catS QaZ r),vP 7 2 6,vB 8 twice,vI 9 k],[oX 2 25 (Qam.enc n),oS 2 146 l1 Qab.enc,oX 6 122 (Qas.enc x0)]⟩⟩
def Qjc (Γ:Gam) (rv:List Qab) (n:Qam) (i:Int) (r:ByteArray) (x0:Qas) (l:List Qab) (l1:List Qab) (twice1:Bool):Prop:=QbI Γ rv ⟨[.c 511],⟨192,[vO 5 0 2 l1 Qab.enc,vS 6 (catS QaZ r),vP 7 1 6,vB 8 twice1],[oS 2 146 l1 Qab.enc,oX 6 122 (Qas.enc x0)]⟩⟩
def Qjx (Γ:Gam) (rv:List Qab) (r:ByteArray) (x0:Qas) (l:List Qab) (r1:List Qab) (l3:List Qab) (k1:Int):Prop:=QbI Γ rv ⟨[.c 32756,.l 32756,.b 2,.c 4095],⟨192,[vO 5 0 2 l3 Qab.enc,vS 6 (catS QaZ r),vP 7 1 6,vL 11 2 r1 Qab.enc,vI 12 k1],[oS 2 146 l3 Qab.enc,oX 6 122 (Qas.enc x0)]⟩⟩
def Qjd (Γ:Gam) (rv:List Qab) (r:ByteArray) (x0:Qas) (l:List Qab) (r1:List Qab) (l4:List Qab):Prop:=QbI Γ rv ⟨[.c 4095],⟨192,[vO 5 0 2 l4 Qab.enc,vS 6 (catS QaZ r),vP 7 1 6],[oS 2 146 l4 Qab.enc,oX 6 122 (Qas.enc x0)]⟩⟩
def Qjy (Γ:Gam) (rv:List Qab) (r:ByteArray) (x0:Qas) (l:List Qab) (l6:List Qab) (k2:Int):Prop:=QbI Γ rv ⟨[.c 131060,.l 131060,.b 4,.c 16383],⟨192,[vO 5 0 2 l6 Qab.enc,vS 6 (catS QaZ r),vP 7 1 6,vI 13 k2],[oS 2 146 l6 Qab.enc,oX 6 122 (Qas.enc x0)]⟩⟩
def Qje (Γ:Gam) (rv:List Qab) (r:ByteArray) (x0:Qas) (l:List Qab) (l7:List Qab):Prop:=QbI Γ rv ⟨[.c 16383],⟨192,[vO 5 0 2 l7 Qab.enc],[oS 2 146 l7 Qab.enc]⟩⟩
theorem Qo4 (Γ:Gam) (rv:List Qab) {n i r x0 l l1} {s:Bool×Int} {e:Bool} (h:QaT (fun s=>Qcd n i r x0 l l1 s.1 s.2) s=some e) (hD:Qjc Γ rv n i r x0 l l1 e):Qjw Γ rv n i r x0 l l1 s.1 s.2:=by
 refine QaC (C:=fun (s:Bool×Int)=>Qjw Γ rv n i r x0 l l1 s.1 s.2) (D:=fun (e:Bool)=>Qjc Γ rv n i r x0 l l1 e) ?_ h hD
 clear h hD s e
 rintro ⟨twice,k⟩ z_ h hI hE
 replace h:Qcd n i r x0 l l1 twice k=_:=h
 unfold Qcd at h
 rcases Qah h with ⟨h7,h⟩|⟨h7,h⟩
 ·obtain ⟨x1,h8,h⟩:=Qae h
  exact gn 13 [1,2,5,6,7,8,9] [0,1,2] [bT h7,cE Qas.enc h8,rp 22 hP,rp 5 (oI (twice=false)),rp 4 (oI ((twice=false)∧(eqI x0.from_ x1.from_)=true)),oI (twice=false),oI ((twice=false)∧(eqI x0.from_ x1.from_)=true),oI (twice=false),rp 4 (oI ((twice=false)∧((eqI x0.from_ x1.from_)&&(eqI x0.to_ x1.to_))=true)),oI (twice=false),oI ((twice=false)∧((eqI x0.from_ x1.from_)&&(eqI x0.to_ x1.to_))=true),oR True (twice=false)] (hI _ (oJ h))
 ·exact gn 5 [5,6,7,8] [1,2] [bF h7] (hE _ (oJ h))
theorem Qo5 (Γ:Gam) (rv:List Qab) {r x0 l r1} {s:List Qab×Int} {e:List Qab} (h:QaT (fun s=>Qce r x0 l r1 s.1 s.2) s=some e) (hD:Qjd Γ rv r x0 l r1 e):Qjx Γ rv r x0 l r1 s.1 s.2:=by
 refine QaC (C:=fun (s:List Qab×Int)=>Qjx Γ rv r x0 l r1 s.1 s.2) (D:=fun (e:List Qab)=>Qjd Γ rv r x0 l r1 e) ?_ h hD
 clear h hD s e
 rintro ⟨l3,k1⟩ z_ h hI hE
 replace h:Qce r x0 l r1 l3 k1=_:=h
 unfold Qce at h
 rcases Qah h with ⟨h13,h⟩|⟨h13,h⟩
 ·obtain ⟨x2,h14,h⟩:=Qae h
  obtain ⟨h15,h⟩:=Qav h
  exact gn 11 [5,6,7,11,12] [3,1] [nL Qab.enc r1,bT h13,cE Qab.enc h14,oO (Eq.refl ([(Qab.mk x2.err (catS QaZ r))].map Qab.enc).length),aO Qab.enc h15] (hI _ (oJ h))
 ·exact gn 5 [5,6,7] [0,1] [nL Qab.enc r1,bF h13] (hE _ (oJ h))
theorem Qo6 (Γ:Gam) (rv:List Qab) {r x0 l} {s:List Qab×Int} {e:List Qab} (h:QaT (fun s=>Qcf r x0 l s.1 s.2) s=some e) (hD:Qje Γ rv r x0 l e):Qjy Γ rv r x0 l s.1 s.2:=by
 refine QaC (C:=fun (s:List Qab×Int)=>Qjy Γ rv r x0 l s.1 s.2) (D:=fun (e:List Qab)=>Qje Γ rv r x0 l e) ?_ h hD
 clear h hD s e
 rintro ⟨l6,k2⟩ z_ h hI hE
 replace h:Qcf r x0 l l6 k2=_:=h
 unfold Qcf at h
 rcases Qah h with ⟨h19,h⟩|⟨h19,h⟩
 ·obtain ⟨x3,h20,h⟩:=Qae h
  obtain ⟨r2,h21,h⟩:=Qae h
  rcases Qah h with ⟨h22,h⟩|⟨h22,h⟩
  ·obtain ⟨r3,h23,h⟩:=Qae h
   rcases Qah h with ⟨h24,h⟩|⟨h24,h⟩
   ·rcases Qah h with ⟨h25,h⟩|⟨h25,h⟩
    ·obtain ⟨x4,h26,h⟩:=Qae h
     rcases Qah h with ⟨h27,h⟩|⟨h27,h⟩
     ·obtain ⟨h28,h⟩:=Qav h
      exact gn 16 [5,6,7,13] [4,1] [nL Qao.enc x0.slow,bT h19,cE Qao.enc h20,hH (.draw 26 []),cC (Qc4 h21),rp 3 (nF h22),cC (Qc4 h23),rp 2 (nF h22),rp 3 (nF h24),rp 7 (bT h25),cE Qao.enc h26,rp 3 (bT h25),nF h24,bT h25,nF h24,bT h27,oO (Eq.refl ([(Qab.mk 2 (catS QaZ r))].map Qab.enc).length),aO Qab.enc h28] (hI _ (oJ h))
     ·exact gn 16 [5,6,7,13] [0,1] [nL Qao.enc x0.slow,bT h19,cE Qao.enc h20,hH (.draw 26 []),cC (Qc4 h21),rp 3 (nF h22),cC (Qc4 h23),rp 2 (nF h22),rp 3 (nF h24),rp 7 (bT h25),cE Qao.enc h26,rp 3 (bT h25),nF h24,bT h25,nF h24,bF h27] (hI _ (oJ h))
    ·exact gn 16 [5,6,7,13] [0,1] [nL Qao.enc x0.slow,bT h19,cE Qao.enc h20,hH (.draw 26 []),cC (Qc4 h21),rp 3 (nF h22),cC (Qc4 h23),rp 2 (nF h22),rp 3 (nF h24),rp 10 (bF h25),nF h24,bF h25,nF h24,fF] (hI _ (oJ h))
   ·obtain ⟨h29,h⟩:=Qav h
    exact gn 16 [5,6,7,13] [4,1] [nL Qao.enc x0.slow,bT h19,cE Qao.enc h20,hH (.draw 26 []),cC (Qc4 h21),rp 3 (nF h22),cC (Qc4 h23),rp 2 (nF h22),rp 3 (nT h24),rp 10 kF,rp 2 (nT h24),tT,oO (Eq.refl ([(Qab.mk 2 (catS QaZ r))].map Qab.enc).length),aO Qab.enc h29] (hI _ (oJ h))
  ·obtain ⟨h30,h⟩:=Qav h
   exact gn 16 [5,6,7,13] [4,1] [nL Qao.enc x0.slow,bT h19,cE Qao.enc h20,hH (.draw 26 []),cC (Qc4 h21),rp 5 (nT h22),tT,tT,tT,rp 10 kF,tT,tT,tT,oO (Eq.refl ([(Qab.mk 2 (catS QaZ r))].map Qab.enc).length),aO Qab.enc h30] (hI _ (oJ h))
 ·exact gn 5 [5] [0] [nL Qao.enc x0.slow,bF h19] (hE _ (oJ h))
theorem Qjb (Γ:Gam) (rv:List Qab) {r x0 l l5} (h:QbO r x0 l l5=some rv):QbI Γ rv ⟨[.c 8191],⟨192,[vO 5 0 2 l5 Qab.enc,vS 6 (catS QaZ r),vP 7 1 6],[oS 2 146 l5 Qab.enc,oX 6 122 (Qas.enc x0)]⟩⟩:=by
 unfold QbO at h
 obtain ⟨e2,h31,h⟩:=Qae h
 refine gn 5 [5,6,7,13] [0,1] [] (Qo6 Γ rv h31 ?_)
 obtain ⟨l7,rfl⟩:∃ x,x=e2:=⟨_,rfl⟩
 replace h:(some l7:Option (List Qab))=some _:=h
 obtain rfl:=Option.some.inj h
 exact gr 2 [] [hW 4,hH (.frz 0),rp 3 (eL l7 Qab.enc)]
theorem Qja (Γ:Gam) (rv:List Qab) {r x0 l l2} (h:Qcc r x0 l l2=some rv):QbI Γ rv ⟨[.c 1023],⟨192,[vO 5 0 2 l2 Qab.enc,vS 6 (catS QaZ r),vP 7 1 6],[oS 2 146 l2 Qab.enc,oX 6 122 (Qas.enc x0)]⟩⟩:=by
 unfold Qcc at h
 obtain ⟨r1,h12,h⟩:=Qae h
 obtain ⟨e1,h16,h⟩:=Qae h
 refine gn 7 [5,6,7,11,12] [0,1] [cC (Qjv h12)] (Qo5 Γ rv h16 ?_)
 obtain ⟨l4,rfl⟩:∃ x,x=e1:=⟨_,rfl⟩
 replace h:(br (gtI (lenI x0.slow) 16) (chk (okN (l4++[(Qab.mk 4 (catS QaZ r))]).length 24) (QbO r x0 l (l4++[(Qab.mk 4 (catS QaZ r))]))) (QbO r x0 l l4):Option (List Qab))=some _:=h
 rcases Qah h with ⟨h17,h⟩|⟨h17,h⟩
 ·obtain ⟨h18,h⟩:=Qav h
  exact gn 5 [5,6,7] [3,1] [nL Qao.enc x0.slow,bT h17,oO (Eq.refl ([(Qab.mk 4 (catS QaZ r))].map Qab.enc).length),aO Qab.enc h18] (Qjb Γ rv h)
 ·exact gn 5 [5,6,7] [0,1] [nL Qao.enc x0.slow,bF h17] (Qjb Γ rv h)
theorem Qi9 (Γ:Gam) (rv:List Qab) {n i r x0 l l1} (h:Qdx n i r x0 l l1=some rv):QbI Γ rv ⟨[.c 127],⟨192,[vI 1 i,vP 2 0 2,vO 5 1 2 l1 Qab.enc,vS 6 (catS QaZ r),vP 7 2 6],[oX 2 25 (Qam.enc n),oS 2 146 l1 Qab.enc,oX 6 122 (Qas.enc x0)]⟩⟩:=by
 unfold Qdx at h
 obtain ⟨e0,h9,h⟩:=Qae h
 refine gn 7 [1,2,5,6,7,8,9] [0,1,2] [] (Qo4 Γ rv h9 ?_)
 obtain ⟨twice1,rfl⟩:∃ x,x=e0:=⟨_,rfl⟩
 replace h:(br twice1 (chk (okN (l1++[(Qab.mk 6 (catS QaZ r))]).length 24) (Qcc r x0 l (l1++[(Qab.mk 6 (catS QaZ r))]))) (Qcc r x0 l l1):Option (List Qab))=some _:=h
 rcases Qah h with ⟨h10,h⟩|⟨h10,h⟩
 ·obtain ⟨h11,h⟩:=Qav h
  exact gn 5 [5,6,7] [3,1] [bT h10,oO (Eq.refl ([(Qab.mk 6 (catS QaZ r))].map Qab.enc).length),aO Qab.enc h11] (Qja Γ rv h)
 ·exact gn 5 [5,6,7] [0,1] [bF h10] (Qja Γ rv h)
theorem Qi8 (Γ:Gam) (rv:List Qab) {n i r x0 l} (h:Qdw n i r x0 l=some rv):QbI Γ rv ⟨[.c 63],⟨192,[vI 1 i,vP 2 0 2,vO 5 1 2 l Qab.enc,vS 6 (catS QaZ r),vP 7 2 6],[oX 2 25 (Qam.enc n),oS 2 146 l Qab.enc,oX 6 122 (Qas.enc x0)]⟩⟩:=by
 unfold Qdw at h
 rcases Qah h with ⟨h5,h⟩|⟨h5,h⟩
 ·obtain ⟨h6,h⟩:=Qav h
  exact gn 5 [1,2,5,6,7] [0,4,2] [rp 18 hP,rp 2 (oI ((ltI x0.profile 0)=false)),oR True ((ltI x0.profile 0)=false),rp 2 (oI (((ltI x0.profile 0)||(gtI x0.profile 7))=false)),oR True (((ltI x0.profile 0)||(gtI x0.profile 7))=false),rp 2 (oI ((((ltI x0.profile 0)||(gtI x0.profile 7))||(ltI x0.miles 0))=false)),oR True ((((ltI x0.profile 0)||(gtI x0.profile 7))||(ltI x0.miles 0))=false),rp 4 (oI (((((ltI x0.profile 0)||(gtI x0.profile 7))||(ltI x0.miles 0))||(gtI x0.miles 10000))=false)),oR True (((((ltI x0.profile 0)||(gtI x0.profile 7))||(ltI x0.miles 0))||(gtI x0.miles 10000))=false),bT h5,oO (Eq.refl ([(Qab.mk 2 (catS QaZ r))].map Qab.enc).length),aO Qab.enc h6] (Qi9 Γ rv h)
 ·exact gn 5 [1,2,5,6,7] [0,1,2] [rp 18 hP,rp 2 (oI ((ltI x0.profile 0)=false)),oR True ((ltI x0.profile 0)=false),rp 2 (oI (((ltI x0.profile 0)||(gtI x0.profile 7))=false)),oR True (((ltI x0.profile 0)||(gtI x0.profile 7))=false),rp 2 (oI ((((ltI x0.profile 0)||(gtI x0.profile 7))||(ltI x0.miles 0))=false)),oR True ((((ltI x0.profile 0)||(gtI x0.profile 7))||(ltI x0.miles 0))=false),rp 4 (oI (((((ltI x0.profile 0)||(gtI x0.profile 7))||(ltI x0.miles 0))||(gtI x0.miles 10000))=false)),oR True (((((ltI x0.profile 0)||(gtI x0.profile 7))||(ltI x0.miles 0))||(gtI x0.miles 10000))=false),bF h5] (Qi9 Γ rv h)
theorem Qq6 {n i} {rv:List Qab} (h:QfT n i=some rv):AFn Tryz.prog 88 [.agg (Qam.enc n),.one (lI i)] [] (one (lL 2 rv Qab.enc)) []:=by
 refine QaM Tryz.func88 (by kernel_rfl) (by kernel_rfl) (fun Γ=>?_)
 unfold QfT at h
 obtain ⟨r,h0,h⟩:=Qae h
 obtain ⟨h1,h⟩:=Qav h
 obtain ⟨x0,h2,h⟩:=Qae h
 rcases Qah h with ⟨h3,h⟩|⟨h3,h⟩
 ·obtain ⟨h4,h⟩:=Qav h
  exact gn 13 [1,2,5,6,7] [0,3,1] [cC (Qb0 h0),oO (h1),cE Qas.enc h2,rp 5 hP,rp 3 (oI ((ltI x0.from_ 0)=false)),nL QmO n.places,rp 11 hP,rp 2 (oI ((ltI x0.from_ 0)=false)),oR True ((ltI x0.from_ 0)=false),rp 2 (oI (((ltI x0.from_ 0)||(geI x0.from_ (lenI n.places)))=false)),oR True (((ltI x0.from_ 0)||(geI x0.from_ (lenI n.places)))=false),rp 3 (oI ((((ltI x0.from_ 0)||(geI x0.from_ (lenI n.places)))||(ltI x0.to_ 0))=false)),nL QmO n.places,hP,hP,rp 2 (oI ((((ltI x0.from_ 0)||(geI x0.from_ (lenI n.places)))||(ltI x0.to_ 0))=false)),oR True ((((ltI x0.from_ 0)||(geI x0.from_ (lenI n.places)))||(ltI x0.to_ 0))=false),bT h3,oO (Eq.refl ([(Qab.mk 11 (catS QaZ r))].map Qab.enc).length),aN (l:=([(Qab.mk 11 (catS QaZ r))]:List Qab)) Qab.enc h4] (Qi8 Γ rv h)
 ·exact gn 13 [1,2,5,6,7] [0,2,1] [cC (Qb0 h0),oO (h1),cE Qas.enc h2,rp 5 hP,rp 3 (oI ((ltI x0.from_ 0)=false)),nL QmO n.places,rp 11 hP,rp 2 (oI ((ltI x0.from_ 0)=false)),oR True ((ltI x0.from_ 0)=false),rp 2 (oI (((ltI x0.from_ 0)||(geI x0.from_ (lenI n.places)))=false)),oR True (((ltI x0.from_ 0)||(geI x0.from_ (lenI n.places)))=false),rp 3 (oI ((((ltI x0.from_ 0)||(geI x0.from_ (lenI n.places)))||(ltI x0.to_ 0))=false)),nL QmO n.places,hP,hP,rp 2 (oI ((((ltI x0.from_ 0)||(geI x0.from_ (lenI n.places)))||(ltI x0.to_ 0))=false)),oR True ((((ltI x0.from_ 0)||(geI x0.from_ (lenI n.places)))||(ltI x0.to_ 0))=false),bF h3,hW 1,hH (.adopt 5 2 146)] (Qi8 Γ rv h)
def QcS (Γ:Gam) (rv:List Qab) (cf:Cf):Prop:=Go Tryz.prog Tryz.f87 [] Γ (one (lO 0 2 rv Qab.enc)) [oS 2 146 rv Qab.enc] cf
def QgD (Γ:Gam) (rv:List Qab) (n:Qam) (l:List Qab) (l1:List Qab) (i:Int) (r:ByteArray) (twice:Bool) (k:Int):Prop:=QcS Γ rv ⟨[.c 250484,.l 250484,.b 2,.c 31311,.b 1,.c 979,.l 244,.b 0,.c 31],⟨64,[vP 1 0 2,vO 3 1 2 l1 Qab.enc,vI 4 i,vS 5 (catS QdQ r),vB 6 twice,vI 7 k],[oX 2 25 (Qam.enc n),oS 2 146 l1 Qab.enc]⟩⟩
def Qgq (Γ:Gam) (rv:List Qab) (n:Qam) (l:List Qab) (l1:List Qab) (i:Int) (r:ByteArray) (twice1:Bool):Prop:=QcS Γ rv ⟨[.c 31311,.b 1,.c 979,.l 244,.b 0,.c 31],⟨64,[vP 1 0 2,vO 3 1 2 l1 Qab.enc,vI 4 i,vS 5 (catS QdQ r),vB 6 twice1],[oX 2 25 (Qam.enc n),oS 2 146 l1 Qab.enc]⟩⟩
def QgC (Γ:Gam) (rv:List Qab) (n:Qam) (l:List Qab) (l1:List Qab) (i:Int):Prop:=QcS Γ rv ⟨[.c 244,.l 244,.b 0,.c 31],⟨64,[vP 1 0 2,vO 3 1 2 l1 Qab.enc,vI 4 i],[oX 2 25 (Qam.enc n),oS 2 146 l1 Qab.enc]⟩⟩
def Qgp (Γ:Gam) (rv:List Qab) (n:Qam) (l:List Qab) (l2:List Qab):Prop:=QcS Γ rv ⟨[.c 31],⟨64,[vO 3 0 2 l2 Qab.enc],[oS 2 146 l2 Qab.enc]⟩⟩
theorem Qkt (Γ:Gam) (rv:List Qab) {n l l1 i r} {s:Bool×Int} {e:Bool} (h:QaT (fun s=>Qbi n l l1 i r s.1 s.2) s=some e) (hD:Qgq Γ rv n l l1 i r e):QgD Γ rv n l l1 i r s.1 s.2:=by
 refine QaC (C:=fun (s:Bool×Int)=>QgD Γ rv n l l1 i r s.1 s.2) (D:=fun (e:Bool)=>Qgq Γ rv n l l1 i r e) ?_ h hD
 clear h hD s e
 rintro ⟨twice,k⟩ z_ h hI hE
 replace h:Qbi n l l1 i r twice k=_:=h
 unfold Qbi at h
 rcases Qah h with ⟨h8,h⟩|⟨h8,h⟩
 ·rcases Qah h with ⟨h9,h⟩|⟨h9,h⟩
  ·exact gn 11 [1,3,4,5,6,7] [0,1] [bT h8,hH (.draw 14 []),rp 12 (bT h9)] (hI _ (oJ h))
  ·obtain ⟨x1,h10,h⟩:=Qae h
   obtain ⟨x2,h11,h⟩:=Qae h
   exact gn 11 [1,3,4,5,6,7] [0,1] [bT h8,hH (.draw 14 []),rp 4 (bF h9),cE QmO h10,rp 5 (bF h9),cE QmO h11,rp 3 (bF h9)] (hI _ (oJ h))
 ·exact gn 5 [1,3,4,5,6] [0,1] [bF h8] (hE _ (oJ h))
theorem Qks (Γ:Gam) (rv:List Qab) {n l} {s:List Qab×Int} {e:List Qab} (h:QaT (fun s=>Qbh n l s.1 s.2) s=some e) (hD:Qgp Γ rv n l e):QgC Γ rv n l s.1 s.2:=by
 refine QaC (C:=fun (s:List Qab×Int)=>QgC Γ rv n l s.1 s.2) (D:=fun (e:List Qab)=>Qgp Γ rv n l e) ?_ h hD
 clear h hD s e
 rintro ⟨l1,i⟩ z_ h hI hE
 replace h:Qbh n l l1 i=_:=h
 unfold Qbh at h
 rcases Qah h with ⟨h2,h⟩|⟨h2,h⟩
 ·obtain ⟨r,h3,h⟩:=Qae h
  obtain ⟨h4,h⟩:=Qav h
  obtain ⟨x0,h5,h⟩:=Qae h
  obtain ⟨r1,h6,h⟩:=Qae h
  rcases Qah h with ⟨h7,h⟩|⟨h7,h⟩
  ·obtain ⟨e0,h12,h⟩:=Qae h
   refine gn 21 [1,3,4,5,6,7] [0,1] [nL QmO n.places,bT h2,cC (Qb0 h3),oO (h4),cE QmO h5,cC (Qfb h6),nF h7] (Qkt Γ rv h12 ?_)
   obtain ⟨twice1,rfl⟩:∃ x,x=e0:=⟨_,rfl⟩
   replace h:(br twice1 (chk (okN (l1++[(Qab.mk 6 (catS QdQ r))]).length 24) (some (.inl ((l1++[(Qab.mk 6 (catS QdQ r))]),(addK .i64 i 1))))) (some (.inl (l1,(addK .i64 i 1)))):Option ((List Qab×Int)⊕(List Qab)))=some _:=h
   rcases Qah h with ⟨h13,h⟩|⟨h13,h⟩
   ·obtain ⟨h14,h⟩:=Qav h
    exact gn 7 [1,3,4] [0,3] [bT h13,oO (Eq.refl ([(Qab.mk 6 (catS QdQ r))].map Qab.enc).length),aO Qab.enc h14] (hI _ (oJ h))
   ·exact gn 7 [1,3,4] [0,1] [bF h13] (hI _ (oJ h))
  ·obtain ⟨h15,h⟩:=Qav h
   exact gn 18 [1,3,4] [0,3] [nL QmO n.places,bT h2,cC (Qb0 h3),oO (h4),cE QmO h5,cC (Qfb h6),nT h7,oO (Eq.refl ([(Qab.mk 5 (catS QdQ r))].map Qab.enc).length),aO Qab.enc h15] (hI _ (oJ h))
 ·exact gn 5 [3] [1] [nL QmO n.places,bF h2] (hE _ (oJ h))
theorem Qgo (Γ:Gam) (rv:List Qab) {n l} (h:Qcz n l=some rv):QcS Γ rv ⟨[.c 15],⟨64,[vP 1 0 2,vO 3 1 2 l Qab.enc],[oX 2 25 (Qam.enc n),oS 2 146 l Qab.enc]⟩⟩:=by
 unfold Qcz at h
 obtain ⟨e1,h16,h⟩:=Qae h
 refine gn 5 [1,3,4] [0,1] [] (Qks Γ rv h16 ?_)
 obtain ⟨l2,rfl⟩:∃ x,x=e1:=⟨_,rfl⟩
 replace h:(some l2:Option (List Qab))=some _:=h
 obtain rfl:=Option.some.inj h
 exact gr 2 [0] []
theorem Qhq {n} {rv:List Qab} (h:Qdp n=some rv):AFn Tryz.prog 87 [.agg (Qam.enc n)] [] (one (lO 0 2 rv Qab.enc)) [oS 2 146 rv Qab.enc]:=by
 refine QaM Tryz.func87 (by kernel_rfl) (by kernel_rfl) (fun Γ=>?_)
 unfold Qdp at h
 rcases Qah h with ⟨h0,h⟩|⟨h0,h⟩
 ·obtain ⟨h1,h⟩:=Qav h
  exact gn 9 [1,3] [0,2] [nL QmO n.places,bT h0,oO (Eq.refl ([(Qab.mk 4 QlI)].map Qab.enc).length),aN (l:=([(Qab.mk 4 QlI)]:List Qab)) Qab.enc h1] (Qgo Γ rv h)
 ·exact gn 9 [1,3] [0,1] [nL QmO n.places,bF h0,hW 1,hH (.adopt 3 2 146)] (Qgo Γ rv h)
def Qkr (Γ:Gam) (rv:List Qab) (cf:Cf):Prop:=Go Tryz.prog Tryz.f58 [] Γ (one (lL 2 rv Qab.enc)) [] cf
def Qma (Γ:Gam) (rv:List Qab) (n:Qam) (l:List Qab) (l1:List Qab) (i:Int):Prop:=Qkr Γ rv ⟨[.c 244,.l 244,.b 0,.c 31],⟨28,[vP 1 0 2,vO 3 1 2 l1 Qab.enc,vI 4 i],[oX 2 25 (Qam.enc n),oS 2 146 l1 Qab.enc]⟩⟩
def QkP (Γ:Gam) (rv:List Qab) (n:Qam) (l:List Qab) (l2:List Qab):Prop:=Qkr Γ rv ⟨[.c 31],⟨28,[vO 3 0 2 l2 Qab.enc],[oS 2 146 l2 Qab.enc]⟩⟩
theorem Qq5 (Γ:Gam) (rv:List Qab) {n l} {s:List Qab×Int} {e:List Qab} (h:QaT (fun s=>Qdg n l s.1 s.2) s=some e) (hD:QkP Γ rv n l e):Qma Γ rv n l s.1 s.2:=by
 refine QaC (C:=fun (s:List Qab×Int)=>Qma Γ rv n l s.1 s.2) (D:=fun (e:List Qab)=>QkP Γ rv n l e) ?_ h hD
 clear h hD s e
 rintro ⟨l1,i⟩ z_ h hI hE
 replace h:Qdg n l l1 i=_:=h
 unfold Qdg at h
 rcases Qah h with ⟨h3,h⟩|⟨h3,h⟩
 ·obtain ⟨r1,h4,h⟩:=Qae h
  obtain ⟨h5,h⟩:=Qav h
  exact gn 11 [1,3,4] [0,2] [nL Qas.enc n.arcs,bT h3,cC (Qq6 h4),aO Qab.enc h5] (hI _ (oJ h))
 ·exact gn 5 [3] [1] [nL Qas.enc n.arcs,bF h3] (hE _ (oJ h))
theorem QkO (Γ:Gam) (rv:List Qab) {n l} (h:QfS n l=some rv):Qkr Γ rv ⟨[.c 15],⟨28,[vP 1 0 2,vO 3 1 2 l Qab.enc],[oX 2 25 (Qam.enc n),oS 2 146 l Qab.enc]⟩⟩:=by
 unfold QfS at h
 obtain ⟨e0,h6,h⟩:=Qae h
 refine gn 5 [1,3,4] [0,1] [] (Qq5 Γ rv h6 ?_)
 obtain ⟨l2,rfl⟩:∃ x,x=e0:=⟨_,rfl⟩
 replace h:(some l2:Option (List Qab))=some _:=h
 obtain rfl:=Option.some.inj h
 exact gr 2 [] [hW 4,hH (.frz 0),rp 3 (eL l2 Qab.enc)]
theorem Qtj {n} {rv:List Qab} (h:QhI n=some rv):AFn Tryz.prog 58 [.agg (Qam.enc n)] [] (one (lL 2 rv Qab.enc)) []:=by
 refine QaM Tryz.func58 (by kernel_rfl) (by kernel_rfl) (fun Γ=>?_)
 unfold QhI at h
 obtain ⟨r,h0,h⟩:=Qae h
 rcases Qah h with ⟨h1,h⟩|⟨h1,h⟩
 ·obtain ⟨h2,h⟩:=Qav h
  exact gn 9 [1,3] [0,3] [cC (Qhq h0),nL Qas.enc n.arcs,bT h1,oO (Eq.refl ([(Qab.mk 4 QrU)].map Qab.enc).length),aO Qab.enc h2] (QkO Γ rv h)
 ·exact gn 9 [1,3] [0,1] [cC (Qhq h0),nL Qas.enc n.arcs,bF h1] (QkO Γ rv h)
theorem Qan {n lo hi} {rv:Bool} (h:QaW n lo hi=some rv):AFn Tryz.prog 89 [.one (lI n),.one (lI lo),.one (lI hi)] [] (one (.bool rv)) []:=by
 refine QaM Tryz.func89 (by kernel_rfl) (by kernel_rfl) (fun Γ=>?_)
 unfold QaW at h
 obtain rfl:=Option.some.inj h
 exact gr 4 [] [rp 4 hP,rp 2 (oI ((geI n lo)=true)),oR True ((geI n lo)=true)]
theorem Qgs {l} {rv:Int} (h:Qf9 l=some rv):AFn Tryz.prog 61 [.one (lL 14 l Qal.enc)] [] (one (lI rv)) []:=by
 refine QaM Tryz.func61 (by kernel_rfl) (by kernel_rfl) (fun Γ=>?_)
 unfold Qf9 at h
 rcases Qah h with ⟨h0,h⟩|⟨h0,h⟩
 ·obtain rfl:=Option.some.inj h
  exact gr 8 [] [nL Qal.enc l,bT h0]
 ·obtain ⟨x0,h1,h⟩:=Qae h
  obtain rfl:=Option.some.inj h
  exact gr 9 [] [nL Qal.enc l,bF h0,cE Qal.enc h1,nL Qay x0.cap]
def Qo9 (Γ:Gam) (rv:Bool) (cf:Cf):Prop:=Go Tryz.prog Tryz.f122 [] Γ (one (.bool rv)) [] cf
def Qmg (Γ:Gam) (rv:Bool) (l:List Qal) (at_:Int) (name:ByteArray) (i:Int):Prop:=Qo9 Γ rv ⟨[.c 52,.l 52,.b 0,.c 7],⟨20,[vL 0 14 l Qal.enc,vI 1 at_,vS 2 name,vI 7 i],[]⟩⟩
def QkT (Γ:Gam) (rv:Bool) (l:List Qal) (at_:Int) (name:ByteArray):Prop:=Qo9 Γ rv ⟨[.c 7],⟨20,[],[]⟩⟩
theorem Qq9 (Γ:Gam) (rv:Bool) {l at_ name} {s:Int} {e:(Unit)⊕(Bool)} (h:QaT (fun s=>QcA l at_ name s) s=some e) (hD:sel e (fun e=>QkT Γ rv l at_ name) (fun e=>e=rv)):Qmg Γ rv l at_ name s:=by
 refine QaC (C:=fun (s:Int)=>Qmg Γ rv l at_ name s) (D:=fun (e:(Unit)⊕(Bool))=>sel e (fun e=>QkT Γ rv l at_ name) (fun e=>e=rv)) ?_ h hD
 clear h hD s e
 intro i z_ h hI hE
 replace h:QcA l at_ name i=_:=h
 unfold QcA at h
 rcases Qah h with ⟨h0,h⟩|⟨h0,h⟩
 ·obtain ⟨x0,h1,h⟩:=Qae h
  rcases Qah h with ⟨h2,h⟩|⟨h2,h⟩
  ·obtain rfl:=(hE _ (oJ h):_=rv)
   exact gr 12 [] [bT h0,cE Qal.enc h1,bT h2]
  ·exact gn 14 [0,1,2,7] [] [bT h0,cE Qal.enc h1,bF h2] (hI _ (oJ h))
 ·exact gn 5 [] [] [bF h0] (hE _ (oJ h))
theorem Qob {l at_ name} {rv:Bool} (h:QhK l at_ name=some rv):AFn Tryz.prog 122 [.one (lL 14 l Qal.enc),.one (lI at_),.one (.str name)] [] (one (.bool rv)) []:=by
 refine QaM Tryz.func122 (by kernel_rfl) (by kernel_rfl) (fun Γ=>?_)
 unfold QhK at h
 obtain ⟨e0,h3,h⟩:=Qae h
 refine gn 7 [0,1,2,7] [] [] (Qq9 Γ rv h3 ?_)
 rcases e0 with e0|e0
 ·replace h:(some false:Option Bool)=some _:=h
  obtain rfl:=Option.some.inj h
  exact gr 2 [] []
 ·obtain ⟨r,rfl⟩:∃ x,x=e0:=⟨_,rfl⟩
  replace h:(some r:Option Bool)=some _:=h
  exact Option.some.inj h
def Qmf (Γ:Gam) (rv:Bool) (cf:Cf):Prop:=Go Tryz.prog Tryz.f123 [] Γ (one (.bool rv)) [] cf
def Qjz (Γ:Gam) (rv:Bool) (l:List Int) (i:Int):Prop:=Qmf Γ rv ⟨[.c 116,.l 116,.b 0,.c 15],⟨28,[vL 0 1 l Qay,vI 5 i],[]⟩⟩
def Qjf (Γ:Gam) (rv:Bool) (l:List Int):Prop:=Qmf Γ rv ⟨[.c 15],⟨28,[],[]⟩⟩
theorem Qo8 (Γ:Gam) (rv:Bool) {l} {s:Int} {e:(Unit)⊕(Bool)} (h:QaT (fun s=>QbP l s) s=some e) (hD:sel e (fun e=>Qjf Γ rv l) (fun e=>e=rv)):Qjz Γ rv l s:=by
 refine QaC (C:=fun (s:Int)=>Qjz Γ rv l s) (D:=fun (e:(Unit)⊕(Bool))=>sel e (fun e=>Qjf Γ rv l) (fun e=>e=rv)) ?_ h hD
 clear h hD s e
 intro i z_ h hI hE
 replace h:QbP l i=_:=h
 unfold QbP at h
 rcases Qah h with ⟨h2,h⟩|⟨h2,h⟩
 ·obtain ⟨x0,h3,h⟩:=Qae h
  obtain ⟨r1,h4,h⟩:=Qae h
  rcases Qah h with ⟨h5,h⟩|⟨h5,h⟩
  ·exact gn 14 [0,5] [] [nL Qay l,bT h2,cE Qay h3,cC (Qan h4),nF h5] (hI _ (oJ h))
  ·obtain rfl:=(hE _ (oJ h):_=rv)
   exact gr 12 [] [nL Qay l,bT h2,cE Qay h3,cC (Qan h4),nT h5]
 ·exact gn 5 [] [] [nL Qay l,bF h2] (hE _ (oJ h))
theorem QfV {l dims} {rv:Bool} (h:Qeu l dims=some rv):AFn Tryz.prog 123 [.one (lL 1 l Qay),.one (lI dims)] [] (one (.bool rv)) []:=by
 refine QaM Tryz.func123 (by kernel_rfl) (by kernel_rfl) (fun Γ=>?_)
 unfold Qeu at h
 obtain ⟨r,h0,h⟩:=Qae h
 rcases Qah h with ⟨h1,h⟩|⟨h1,h⟩
 ·obtain rfl:=Option.some.inj h
  exact gr 8 [] [nL Qay l,cC (Qan h0),hP,hP,oI ((!r)=false),nL Qay l,hP,hP,hP,rp 2 (oI ((!r)=false)),oR True ((!r)=false),bT h1]
 ·obtain ⟨e0,h6,h⟩:=Qae h
  refine gn 12 [0,5] [] [nL Qay l,cC (Qan h0),hP,hP,oI ((!r)=false),nL Qay l,hP,hP,hP,rp 2 (oI ((!r)=false)),oR True ((!r)=false),bF h1] (Qo8 Γ rv h6 ?_)
  rcases e0 with e0|e0
  ·replace h:(some true:Option Bool)=some _:=h
   obtain rfl:=Option.some.inj h
   exact gr 2 [] []
  ·obtain ⟨r2,rfl⟩:∃ x,x=e0:=⟨_,rfl⟩
   replace h:(some r2:Option Bool)=some _:=h
   exact Option.some.inj h
def QbL (Γ:Gam) (rv:List Int) (cf:Cf):Prop:=Go Tryz.prog Tryz.f90 [] Γ (one (lL 1 rv Qay)) [] cf
theorem Qk1 (Γ:Gam) (rv:List Int) {x0 l8} (h:QeC x0 l8=some rv):QbL Γ rv ⟨[.c 4095],⟨125,[vP 7 0 14,vO 8 1 1 l8 Qay],[oX 14 124 (Qal.enc x0),oS 1 38 l8 Qay]⟩⟩:=by
 unfold QeC at h
 obtain ⟨r11,h30,h⟩:=Qae h
 rcases Qah h with ⟨h31,h⟩|⟨h31,h⟩
 ·obtain ⟨r12,h32,h⟩:=Qae h
  rcases Qah h with ⟨h33,h⟩|⟨h33,h⟩
  ·obtain ⟨r13,h34,h⟩:=Qae h
   rcases Qah h with ⟨h35,h⟩|⟨h35,h⟩
   ·obtain ⟨r14,h36,h⟩:=Qae h
    rcases Qah h with ⟨h37,h⟩|⟨h37,h⟩
    ·obtain rfl:=Option.some.inj h
     exact gr 7 [] [cC (Qan h30),rp 3 (nF h31),cC (Qan h32),rp 2 (nF h31),rp 3 (nF h33),cC (Qan h34),rp 2 (nF h33),rp 3 (nF h35),cC (Qan h36),rp 2 (nF h35),nF h37,hW 5,hH (.frz 1),rp 3 (eL l8 Qay)]
    ·obtain ⟨h38,h⟩:=Qav h
     obtain rfl:=Option.some.inj h
     exact gr 7 [] [cC (Qan h30),rp 3 (nF h31),cC (Qan h32),rp 2 (nF h31),rp 3 (nF h33),cC (Qan h34),rp 2 (nF h33),rp 3 (nF h35),cC (Qan h36),rp 2 (nF h35),nT h37,oO (Eq.refl ([2].map Qay).length),aO Qay h38,hW 5,hH (.frz 3),rp 4 (oO (Eq.refl ((l8++[2]).map Qay).length))]
   ·obtain ⟨h39,h⟩:=Qav h
    obtain rfl:=Option.some.inj h
    exact gr 7 [] [cC (Qan h30),rp 3 (nF h31),cC (Qan h32),rp 2 (nF h31),rp 3 (nF h33),cC (Qan h34),rp 2 (nF h33),rp 5 (nT h35),tT,oO (Eq.refl ([2].map Qay).length),aO Qay h39,hW 5,hH (.frz 3),rp 4 (oO (Eq.refl ((l8++[2]).map Qay).length))]
  ·obtain ⟨h40,h⟩:=Qav h
   obtain rfl:=Option.some.inj h
   exact gr 7 [] [cC (Qan h30),rp 3 (nF h31),cC (Qan h32),rp 2 (nF h31),rp 5 (nT h33),rp 6 tT,oO (Eq.refl ([2].map Qay).length),aO Qay h40,hW 5,hH (.frz 3),rp 4 (oO (Eq.refl ((l8++[2]).map Qay).length))]
 ·obtain ⟨h41,h⟩:=Qav h
  obtain rfl:=Option.some.inj h
  exact gr 7 [] [cC (Qan h30),rp 5 (nT h31),rp 11 tT,oO (Eq.refl ([2].map Qay).length),aO Qay h41,hW 5,hH (.frz 3),rp 4 (oO (Eq.refl ((l8++[2]).map Qay).length))]
theorem Qk0 (Γ:Gam) (rv:List Int) {x0 l7} (h:QeB x0 l7=some rv):QbL Γ rv ⟨[.c 2047],⟨125,[vP 7 0 14,vO 8 1 1 l7 Qay],[oX 14 124 (Qal.enc x0),oS 1 38 l7 Qay]⟩⟩:=by
 unfold QeB at h
 obtain ⟨r9,h25,h⟩:=Qae h
 rcases Qah h with ⟨h26,h⟩|⟨h26,h⟩
 ·obtain ⟨r10,h27,h⟩:=Qae h
  rcases Qah h with ⟨h28,h⟩|⟨h28,h⟩
  ·exact gn 5 [7,8] [0,1] [cC (Qan h25),rp 3 (nF h26),cC (Qan h27),rp 2 (nF h26),nF h28] (Qk1 Γ rv h)
  ·obtain ⟨h29,h⟩:=Qav h
   exact gn 5 [7,8] [0,3] [cC (Qan h25),rp 3 (nF h26),cC (Qan h27),rp 2 (nF h26),nT h28,oO (Eq.refl ([16].map Qay).length),aO Qay h29] (Qk1 Γ rv h)
 ·obtain ⟨h42,h⟩:=Qav h
  obtain ⟨r15,h43,h⟩:=Qae h
  rcases Qah h with ⟨h44,h⟩|⟨h44,h⟩
  ·obtain ⟨r16,h45,h⟩:=Qae h
   rcases Qah h with ⟨h46,h⟩|⟨h46,h⟩
   ·obtain ⟨r17,h47,h⟩:=Qae h
    rcases Qah h with ⟨h48,h⟩|⟨h48,h⟩
    ·obtain ⟨r18,h49,h⟩:=Qae h
     rcases Qah h with ⟨h50,h⟩|⟨h50,h⟩
     ·obtain rfl:=Option.some.inj h
      exact gr 12 [] [cC (Qan h25),rp 5 (nT h26),tT,oO (Eq.refl ([16].map Qay).length),aO Qay h42,cC (Qan h43),rp 3 (nF h44),cC (Qan h45),rp 2 (nF h44),rp 3 (nF h46),cC (Qan h47),rp 2 (nF h46),rp 3 (nF h48),cC (Qan h49),rp 2 (nF h48),nF h50,hW 5,hH (.frz 3),rp 4 (oO (Eq.refl ((l7++[16]).map Qay).length))]
     ·obtain ⟨h51,h⟩:=Qav h
      obtain rfl:=Option.some.inj h
      exact gr 12 [] [cC (Qan h25),rp 5 (nT h26),tT,oO (Eq.refl ([16].map Qay).length),aO Qay h42,cC (Qan h43),rp 3 (nF h44),cC (Qan h45),rp 2 (nF h44),rp 3 (nF h46),cC (Qan h47),rp 2 (nF h46),rp 3 (nF h48),cC (Qan h49),rp 2 (nF h48),nT h50,oO (Eq.refl ([2].map Qay).length),aO Qay h51,hW 5,hH (.frz 5),rp 4 (oO (Eq.refl (((l7++[16])++[2]).map Qay).length))]
    ·obtain ⟨h52,h⟩:=Qav h
     obtain rfl:=Option.some.inj h
     exact gr 12 [] [cC (Qan h25),rp 5 (nT h26),tT,oO (Eq.refl ([16].map Qay).length),aO Qay h42,cC (Qan h43),rp 3 (nF h44),cC (Qan h45),rp 2 (nF h44),rp 3 (nF h46),cC (Qan h47),rp 2 (nF h46),rp 5 (nT h48),tT,oO (Eq.refl ([2].map Qay).length),aO Qay h52,hW 5,hH (.frz 5),rp 4 (oO (Eq.refl (((l7++[16])++[2]).map Qay).length))]
   ·obtain ⟨h53,h⟩:=Qav h
    obtain rfl:=Option.some.inj h
    exact gr 12 [] [cC (Qan h25),rp 5 (nT h26),tT,oO (Eq.refl ([16].map Qay).length),aO Qay h42,cC (Qan h43),rp 3 (nF h44),cC (Qan h45),rp 2 (nF h44),rp 5 (nT h46),rp 6 tT,oO (Eq.refl ([2].map Qay).length),aO Qay h53,hW 5,hH (.frz 5),rp 4 (oO (Eq.refl (((l7++[16])++[2]).map Qay).length))]
  ·obtain ⟨h54,h⟩:=Qav h
   obtain rfl:=Option.some.inj h
   exact gr 12 [] [cC (Qan h25),rp 5 (nT h26),tT,oO (Eq.refl ([16].map Qay).length),aO Qay h42,cC (Qan h43),rp 5 (nT h44),rp 11 tT,oO (Eq.refl ([2].map Qay).length),aO Qay h54,hW 5,hH (.frz 5),rp 4 (oO (Eq.refl (((l7++[16])++[2]).map Qay).length))]
theorem QkZ (Γ:Gam) (rv:List Int) {x0 l6} (h:QeA x0 l6=some rv):QbL Γ rv ⟨[.c 1023],⟨125,[vP 7 0 14,vO 8 1 1 l6 Qay],[oX 14 124 (Qal.enc x0),oS 1 38 l6 Qay]⟩⟩:=by
 unfold QeA at h
 obtain ⟨r8,h22,h⟩:=Qae h
 rcases Qah h with ⟨h23,h⟩|⟨h23,h⟩
 ·obtain ⟨h24,h⟩:=Qav h
  exact gn 5 [7,8] [0,3] [cC (Qan h22),rp 4 hP,rp 2 (oI ((!r8)=false)),oR True ((!r8)=false),bT h23,oO (Eq.refl ([15].map Qay).length),aO Qay h24] (Qk0 Γ rv h)
 ·exact gn 5 [7,8] [0,1] [cC (Qan h22),rp 4 hP,rp 2 (oI ((!r8)=false)),oR True ((!r8)=false),bF h23] (Qk0 Γ rv h)
theorem QkY (Γ:Gam) (rv:List Int) {x0 l5} (h:Qez x0 l5=some rv):QbL Γ rv ⟨[.c 511],⟨125,[vP 7 0 14,vO 8 1 1 l5 Qay],[oX 14 124 (Qal.enc x0),oS 1 38 l5 Qay]⟩⟩:=by
 unfold Qez at h
 obtain ⟨r7,h19,h⟩:=Qae h
 rcases Qah h with ⟨h20,h⟩|⟨h20,h⟩
 ·exact gn 5 [7,8] [0,1] [cC (Qan h19),nF h20] (QkZ Γ rv h)
 ·obtain ⟨h21,h⟩:=Qav h
  exact gn 5 [7,8] [0,3] [cC (Qan h19),nT h20,oO (Eq.refl ([18].map Qay).length),aO Qay h21] (QkZ Γ rv h)
theorem QkX (Γ:Gam) (rv:List Int) {l x0 l4} (h:Qey l x0 l4=some rv):QbL Γ rv ⟨[.c 255],⟨125,[vL 1 14 l Qal.enc,vP 7 0 14,vO 8 1 1 l4 Qay],[oX 14 124 (Qal.enc x0),oS 1 38 l4 Qay]⟩⟩:=by
 unfold Qey at h
 obtain ⟨r5,h15,h⟩:=Qae h
 obtain ⟨r6,h16,h⟩:=Qae h
 rcases Qah h with ⟨h17,h⟩|⟨h17,h⟩
 ·exact gn 5 [7,8] [0,1] [hH (.draw 6 []),cC (Qgs h15),cC (QfV h16),nF h17] (QkY Γ rv h)
 ·obtain ⟨h18,h⟩:=Qav h
  exact gn 5 [7,8] [0,3] [hH (.draw 6 []),cC (Qgs h15),cC (QfV h16),nT h17,oO (Eq.refl ([17].map Qay).length),aO Qay h18] (QkY Γ rv h)
theorem Qj4 (Γ:Gam) (rv:List Int) {x0 l12} (h:QgL x0 l12=some rv):QbL Γ rv ⟨[.c 4095],⟨125,[vP 7 0 14,vO 8 1 1 l12 Qay],[oX 14 124 (Qal.enc x0),oS 1 38 l12 Qay]⟩⟩:=by
 unfold QgL at h
 obtain ⟨r25,h71,h⟩:=Qae h
 rcases Qah h with ⟨h72,h⟩|⟨h72,h⟩
 ·obtain ⟨r26,h73,h⟩:=Qae h
  rcases Qah h with ⟨h74,h⟩|⟨h74,h⟩
  ·obtain ⟨r27,h75,h⟩:=Qae h
   rcases Qah h with ⟨h76,h⟩|⟨h76,h⟩
   ·obtain ⟨r28,h77,h⟩:=Qae h
    rcases Qah h with ⟨h78,h⟩|⟨h78,h⟩
    ·obtain rfl:=Option.some.inj h
     exact gr 7 [] [cC (Qan h71),rp 3 (nF h72),cC (Qan h73),rp 2 (nF h72),rp 3 (nF h74),cC (Qan h75),rp 2 (nF h74),rp 3 (nF h76),cC (Qan h77),rp 2 (nF h76),nF h78,hW 5,hH (.frz 1),rp 3 (eL l12 Qay)]
    ·obtain ⟨h79,h⟩:=Qav h
     obtain rfl:=Option.some.inj h
     exact gr 7 [] [cC (Qan h71),rp 3 (nF h72),cC (Qan h73),rp 2 (nF h72),rp 3 (nF h74),cC (Qan h75),rp 2 (nF h74),rp 3 (nF h76),cC (Qan h77),rp 2 (nF h76),nT h78,oO (Eq.refl ([2].map Qay).length),aO Qay h79,hW 5,hH (.frz 3),rp 4 (oO (Eq.refl ((l12++[2]).map Qay).length))]
   ·obtain ⟨h80,h⟩:=Qav h
    obtain rfl:=Option.some.inj h
    exact gr 7 [] [cC (Qan h71),rp 3 (nF h72),cC (Qan h73),rp 2 (nF h72),rp 3 (nF h74),cC (Qan h75),rp 2 (nF h74),rp 5 (nT h76),tT,oO (Eq.refl ([2].map Qay).length),aO Qay h80,hW 5,hH (.frz 3),rp 4 (oO (Eq.refl ((l12++[2]).map Qay).length))]
  ·obtain ⟨h81,h⟩:=Qav h
   obtain rfl:=Option.some.inj h
   exact gr 7 [] [cC (Qan h71),rp 3 (nF h72),cC (Qan h73),rp 2 (nF h72),rp 5 (nT h74),rp 6 tT,oO (Eq.refl ([2].map Qay).length),aO Qay h81,hW 5,hH (.frz 3),rp 4 (oO (Eq.refl ((l12++[2]).map Qay).length))]
 ·obtain ⟨h82,h⟩:=Qav h
  obtain rfl:=Option.some.inj h
  exact gr 7 [] [cC (Qan h71),rp 5 (nT h72),rp 11 tT,oO (Eq.refl ([2].map Qay).length),aO Qay h82,hW 5,hH (.frz 3),rp 4 (oO (Eq.refl ((l12++[2]).map Qay).length))]
theorem Qj3 (Γ:Gam) (rv:List Int) {x0 l11} (h:QgK x0 l11=some rv):QbL Γ rv ⟨[.c 2047],⟨125,[vP 7 0 14,vO 8 1 1 l11 Qay],[oX 14 124 (Qal.enc x0),oS 1 38 l11 Qay]⟩⟩:=by
 unfold QgK at h
 obtain ⟨r23,h66,h⟩:=Qae h
 rcases Qah h with ⟨h67,h⟩|⟨h67,h⟩
 ·obtain ⟨r24,h68,h⟩:=Qae h
  rcases Qah h with ⟨h69,h⟩|⟨h69,h⟩
  ·exact gn 5 [7,8] [0,1] [cC (Qan h66),rp 3 (nF h67),cC (Qan h68),rp 2 (nF h67),nF h69] (Qj4 Γ rv h)
  ·obtain ⟨h70,h⟩:=Qav h
   exact gn 5 [7,8] [0,3] [cC (Qan h66),rp 3 (nF h67),cC (Qan h68),rp 2 (nF h67),nT h69,oO (Eq.refl ([16].map Qay).length),aO Qay h70] (Qj4 Γ rv h)
 ·obtain ⟨h83,h⟩:=Qav h
  obtain ⟨r29,h84,h⟩:=Qae h
  rcases Qah h with ⟨h85,h⟩|⟨h85,h⟩
  ·obtain ⟨r30,h86,h⟩:=Qae h
   rcases Qah h with ⟨h87,h⟩|⟨h87,h⟩
   ·obtain ⟨r31,h88,h⟩:=Qae h
    rcases Qah h with ⟨h89,h⟩|⟨h89,h⟩
    ·obtain ⟨r32,h90,h⟩:=Qae h
     rcases Qah h with ⟨h91,h⟩|⟨h91,h⟩
     ·obtain rfl:=Option.some.inj h
      exact gr 12 [] [cC (Qan h66),rp 5 (nT h67),tT,oO (Eq.refl ([16].map Qay).length),aO Qay h83,cC (Qan h84),rp 3 (nF h85),cC (Qan h86),rp 2 (nF h85),rp 3 (nF h87),cC (Qan h88),rp 2 (nF h87),rp 3 (nF h89),cC (Qan h90),rp 2 (nF h89),nF h91,hW 5,hH (.frz 3),rp 4 (oO (Eq.refl ((l11++[16]).map Qay).length))]
     ·obtain ⟨h92,h⟩:=Qav h
      obtain rfl:=Option.some.inj h
      exact gr 12 [] [cC (Qan h66),rp 5 (nT h67),tT,oO (Eq.refl ([16].map Qay).length),aO Qay h83,cC (Qan h84),rp 3 (nF h85),cC (Qan h86),rp 2 (nF h85),rp 3 (nF h87),cC (Qan h88),rp 2 (nF h87),rp 3 (nF h89),cC (Qan h90),rp 2 (nF h89),nT h91,oO (Eq.refl ([2].map Qay).length),aO Qay h92,hW 5,hH (.frz 5),rp 4 (oO (Eq.refl (((l11++[16])++[2]).map Qay).length))]
    ·obtain ⟨h93,h⟩:=Qav h
     obtain rfl:=Option.some.inj h
     exact gr 12 [] [cC (Qan h66),rp 5 (nT h67),tT,oO (Eq.refl ([16].map Qay).length),aO Qay h83,cC (Qan h84),rp 3 (nF h85),cC (Qan h86),rp 2 (nF h85),rp 3 (nF h87),cC (Qan h88),rp 2 (nF h87),rp 5 (nT h89),tT,oO (Eq.refl ([2].map Qay).length),aO Qay h93,hW 5,hH (.frz 5),rp 4 (oO (Eq.refl (((l11++[16])++[2]).map Qay).length))]
   ·obtain ⟨h94,h⟩:=Qav h
    obtain rfl:=Option.some.inj h
    exact gr 12 [] [cC (Qan h66),rp 5 (nT h67),tT,oO (Eq.refl ([16].map Qay).length),aO Qay h83,cC (Qan h84),rp 3 (nF h85),cC (Qan h86),rp 2 (nF h85),rp 5 (nT h87),rp 6 tT,oO (Eq.refl ([2].map Qay).length),aO Qay h94,hW 5,hH (.frz 5),rp 4 (oO (Eq.refl (((l11++[16])++[2]).map Qay).length))]
  ·obtain ⟨h95,h⟩:=Qav h
   obtain rfl:=Option.some.inj h
   exact gr 12 [] [cC (Qan h66),rp 5 (nT h67),tT,oO (Eq.refl ([16].map Qay).length),aO Qay h83,cC (Qan h84),rp 5 (nT h85),rp 11 tT,oO (Eq.refl ([2].map Qay).length),aO Qay h95,hW 5,hH (.frz 5),rp 4 (oO (Eq.refl (((l11++[16])++[2]).map Qay).length))]
theorem Qj2 (Γ:Gam) (rv:List Int) {x0 l10} (h:QgJ x0 l10=some rv):QbL Γ rv ⟨[.c 1023],⟨125,[vP 7 0 14,vO 8 1 1 l10 Qay],[oX 14 124 (Qal.enc x0),oS 1 38 l10 Qay]⟩⟩:=by
 unfold QgJ at h
 obtain ⟨r22,h63,h⟩:=Qae h
 rcases Qah h with ⟨h64,h⟩|⟨h64,h⟩
 ·obtain ⟨h65,h⟩:=Qav h
  exact gn 5 [7,8] [0,3] [cC (Qan h63),rp 4 hP,rp 2 (oI ((!r22)=false)),oR True ((!r22)=false),bT h64,oO (Eq.refl ([15].map Qay).length),aO Qay h65] (Qj3 Γ rv h)
 ·exact gn 5 [7,8] [0,1] [cC (Qan h63),rp 4 hP,rp 2 (oI ((!r22)=false)),oR True ((!r22)=false),bF h64] (Qj3 Γ rv h)
theorem Qk2 (Γ:Gam) (rv:List Int) {x0 l9} (h:Qhs x0 l9=some rv):QbL Γ rv ⟨[.c 511],⟨125,[vP 7 0 14,vO 8 1 1 l9 Qay],[oX 14 124 (Qal.enc x0),oS 1 38 l9 Qay]⟩⟩:=by
 unfold Qhs at h
 obtain ⟨r21,h60,h⟩:=Qae h
 rcases Qah h with ⟨h61,h⟩|⟨h61,h⟩
 ·exact gn 5 [7,8] [0,1] [cC (Qan h60),nF h61] (Qj2 Γ rv h)
 ·obtain ⟨h62,h⟩:=Qav h
  exact gn 5 [7,8] [0,3] [cC (Qan h60),nT h61,oO (Eq.refl ([18].map Qay).length),aO Qay h62] (Qj2 Γ rv h)
theorem QkW (Γ:Gam) (rv:List Int) {n l x0 l3} (h:Qex n l x0 l3=some rv):QbL Γ rv ⟨[.c 127],⟨125,[vL 1 14 l Qal.enc,vP 3 0 2,vP 7 1 14,vO 8 2 1 l3 Qay],[oX 2 25 (Qam.enc n),oX 14 124 (Qal.enc x0),oS 1 38 l3 Qay]⟩⟩:=by
 unfold Qex at h
 obtain ⟨r3,h10,h⟩:=Qae h
 rcases Qah h with ⟨h11,h⟩|⟨h11,h⟩
 ·obtain ⟨r4,h12,h⟩:=Qae h
  rcases Qah h with ⟨h13,h⟩|⟨h13,h⟩
  ·exact gn 5 [1,7,8] [1,2] [nL QmO n.places,cC (Qan h10),rp 5 (nF h11),nL QmO n.places,rp 2 (nF h11),cC (Qan h12),rp 2 (nF h11),nF h13] (QkX Γ rv h)
  ·obtain ⟨h14,h⟩:=Qav h
   exact gn 5 [1,7,8] [1,4] [nL QmO n.places,cC (Qan h10),rp 5 (nF h11),nL QmO n.places,rp 2 (nF h11),cC (Qan h12),rp 2 (nF h11),nT h13,oO (Eq.refl ([11].map Qay).length),aO Qay h14] (QkX Γ rv h)
 ·obtain ⟨h55,h⟩:=Qav h
  obtain ⟨r19,h56,h⟩:=Qae h
  obtain ⟨r20,h57,h⟩:=Qae h
  rcases Qah h with ⟨h58,h⟩|⟨h58,h⟩
  ·exact gn 10 [7,8] [1,4] [nL QmO n.places,cC (Qan h10),rp 9 (nT h11),tT,oO (Eq.refl ([11].map Qay).length),aO Qay h55,hH (.draw 6 []),cC (Qgs h56),cC (QfV h57),nF h58] (Qk2 Γ rv h)
  ·obtain ⟨h59,h⟩:=Qav h
   exact gn 10 [7,8] [1,6] [nL QmO n.places,cC (Qan h10),rp 9 (nT h11),tT,oO (Eq.refl ([11].map Qay).length),aO Qay h55,hH (.draw 6 []),cC (Qgs h56),cC (QfV h57),nT h58,oO (Eq.refl ([17].map Qay).length),aO Qay h59] (Qk2 Γ rv h)
theorem QkV (Γ:Gam) (rv:List Int) {n l x0 l2} (h:Qew n l x0 l2=some rv):QbL Γ rv ⟨[.c 63],⟨125,[vL 1 14 l Qal.enc,vP 3 0 2,vP 7 1 14,vO 8 2 1 l2 Qay],[oX 2 25 (Qam.enc n),oX 14 124 (Qal.enc x0),oS 1 38 l2 Qay]⟩⟩:=by
 unfold Qew at h
 obtain ⟨r2,h7,h⟩:=Qae h
 rcases Qah h with ⟨h8,h⟩|⟨h8,h⟩
 ·exact gn 5 [1,3,7,8] [0,1,2] [cC (Qan h7),nF h8] (QkW Γ rv h)
 ·obtain ⟨h9,h⟩:=Qav h
  exact gn 5 [1,3,7,8] [0,1,4] [cC (Qan h7),nT h8,oO (Eq.refl ([22].map Qay).length),aO Qay h9] (QkW Γ rv h)
theorem QkU (Γ:Gam) (rv:List Int) {n l at_ x0 l1} (h:Qev n l at_ x0 l1=some rv):QbL Γ rv ⟨[.c 31],⟨125,[vL 1 14 l Qal.enc,vI 2 at_,vP 3 0 2,vP 7 1 14,vO 8 2 1 l1 Qay],[oX 2 25 (Qam.enc n),oX 14 124 (Qal.enc x0),oS 1 38 l1 Qay]⟩⟩:=by
 unfold Qev at h
 obtain ⟨r1,h4,h⟩:=Qae h
 rcases Qah h with ⟨h5,h⟩|⟨h5,h⟩
 ·obtain ⟨h6,h⟩:=Qav h
  exact gn 5 [1,3,7,8] [0,1,4] [cC (Qob h4),bT h5,oO (Eq.refl ([6].map Qay).length),aO Qay h6] (QkV Γ rv h)
 ·exact gn 5 [1,3,7,8] [0,1,2] [cC (Qob h4),bF h5] (QkV Γ rv h)
theorem Qtl {n l at_} {rv:List Int} (h:QhL n l at_=some rv):AFn Tryz.prog 90 [.agg (Qam.enc n),.one (lL 14 l Qal.enc),.one (lI at_)] [] (one (lL 1 rv Qay)) []:=by
 refine QaM Tryz.func90 (by kernel_rfl) (by kernel_rfl) (fun Γ=>?_)
 unfold QhL at h
 obtain ⟨x0,h0,h⟩:=Qae h
 obtain ⟨r,h1,h⟩:=Qae h
 rcases Qah h with ⟨h2,h⟩|⟨h2,h⟩
 ·exact gn 11 [1,2,3,7,8] [0,1,2] [cE Qal.enc h0,cC (Qfb h1),nF h2,hW 1,hH (.adopt 8 1 38)] (QkU Γ rv h)
 ·obtain ⟨h3,h⟩:=Qav h
  exact gn 11 [1,2,3,7,8] [0,1,3] [cE Qal.enc h0,cC (Qfb h1),nT h2,oO (Eq.refl ([5].map Qay).length),aN (l:=([5]:List Int)) Qay h3] (QkU Γ rv h)
def Qgr (Γ:Gam) (rv:List Qab) (cf:Cf):Prop:=Go Tryz.prog Tryz.f59 [] Γ (one (lL 2 rv Qab.enc)) [] cf
def Qme (Γ:Gam) (rv:List Qab) (n:Qam) (l:List Qal) (i:Int) (r1:List Int) (l3:List Qab) (k:Int):Prop:=Qgr Γ rv ⟨[.c 31308,.l 31308,.b 2,.b 1,.c 979,.l 244,.b 0,.c 31],⟨44,[vL 1 14 l Qal.enc,vP 2 0 2,vO 5 1 2 l3 Qab.enc,vI 6 i,vL 7 1 r1 Qay,vI 8 k],[oX 2 25 (Qam.enc n),oS 2 146 l3 Qab.enc]⟩⟩
def QkS (Γ:Gam) (rv:List Qab) (n:Qam) (l:List Qal) (i:Int) (r1:List Int) (l4:List Qab):Prop:=Qgr Γ rv ⟨[.b 1,.c 979,.l 244,.b 0,.c 31],⟨44,[vL 1 14 l Qal.enc,vP 2 0 2,vO 5 1 2 l4 Qab.enc,vI 6 i],[oX 2 25 (Qam.enc n),oS 2 146 l4 Qab.enc]⟩⟩
def Qmd (Γ:Gam) (rv:List Qab) (n:Qam) (l:List Qal) (l2:List Qab) (i:Int):Prop:=Qgr Γ rv ⟨[.c 244,.l 244,.b 0,.c 31],⟨44,[vL 1 14 l Qal.enc,vP 2 0 2,vO 5 1 2 l2 Qab.enc,vI 6 i],[oX 2 25 (Qam.enc n),oS 2 146 l2 Qab.enc]⟩⟩
def QkR (Γ:Gam) (rv:List Qab) (n:Qam) (l:List Qal) (l5:List Qab):Prop:=Qgr Γ rv ⟨[.c 31],⟨44,[vO 5 0 2 l5 Qab.enc],[oS 2 146 l5 Qab.enc]⟩⟩
theorem Qq8 (Γ:Gam) (rv:List Qab) {n l i r1} {s:List Qab×Int} {e:List Qab} (h:QaT (fun s=>Qhr n l i r1 s.1 s.2) s=some e) (hD:QkS Γ rv n l i r1 e):Qme Γ rv n l i r1 s.1 s.2:=by
 refine QaC (C:=fun (s:List Qab×Int)=>Qme Γ rv n l i r1 s.1 s.2) (D:=fun (e:List Qab)=>QkS Γ rv n l i r1 e) ?_ h hD
 clear h hD s e
 rintro ⟨l3,k⟩ z_ h hI hE
 replace h:Qhr n l i r1 l3 k=_:=h
 unfold Qhr at h
 rcases Qah h with ⟨h5,h⟩|⟨h5,h⟩
 ·obtain ⟨x0,h6,h⟩:=Qae h
  obtain ⟨r2,h7,h⟩:=Qae h
  obtain ⟨h8,h⟩:=Qav h
  exact gn 11 [1,2,5,6,7,8] [0,3] [nL Qay r1,bT h5,hH (.draw 9 []),cE Qay h6,cC (Qb0 h7),oO (Eq.refl ([(Qab.mk x0 r2)].map Qab.enc).length),aO Qab.enc h8] (hI _ (oJ h))
 ·exact gn 5 [1,2,5,6] [0,1] [nL Qay r1,bF h5] (hE _ (oJ h))
theorem Qq7 (Γ:Gam) (rv:List Qab) {n l} {s:List Qab×Int} {e:List Qab} (h:QaT (fun s=>Qdh n l s.1 s.2) s=some e) (hD:QkR Γ rv n l e):Qmd Γ rv n l s.1 s.2:=by
 refine QaC (C:=fun (s:List Qab×Int)=>Qmd Γ rv n l s.1 s.2) (D:=fun (e:List Qab)=>QkR Γ rv n l e) ?_ h hD
 clear h hD s e
 rintro ⟨l2,i⟩ z_ h hI hE
 replace h:Qdh n l l2 i=_:=h
 unfold Qdh at h
 rcases Qah h with ⟨h3,h⟩|⟨h3,h⟩
 ·obtain ⟨r1,h4,h⟩:=Qae h
  obtain ⟨e0,h9,h⟩:=Qae h
  refine gn 13 [1,2,5,6,7,8] [0,1] [nL Qal.enc l,bT h3,cC (Qtl h4)] (Qq8 Γ rv h9 ?_)
  obtain ⟨l4,rfl⟩:∃ x,x=e0:=⟨_,rfl⟩
  replace h:(some (.inl (l4,(addK .i64 i 1))):Option ((List Qab×Int)⊕(List Qab)))=some _:=h
  exact gn 3 [1,2,5,6] [0,1] [] (hI _ (oJ h))
 ·exact gn 5 [5] [1] [nL Qal.enc l,bF h3] (hE _ (oJ h))
theorem QkQ (Γ:Gam) (rv:List Qab) {n l l1} (h:QfU n l l1=some rv):Qgr Γ rv ⟨[.c 15],⟨44,[vL 1 14 l Qal.enc,vP 2 0 2,vO 5 1 2 l1 Qab.enc],[oX 2 25 (Qam.enc n),oS 2 146 l1 Qab.enc]⟩⟩:=by
 unfold QfU at h
 obtain ⟨e1,h10,h⟩:=Qae h
 refine gn 5 [1,2,5,6] [0,1] [] (Qq7 Γ rv h10 ?_)
 obtain ⟨l5,rfl⟩:∃ x,x=e1:=⟨_,rfl⟩
 replace h:(some l5:Option (List Qab))=some _:=h
 obtain rfl:=Option.some.inj h
 exact gr 2 [] [hW 4,hH (.frz 0),rp 3 (eL l5 Qab.enc)]
theorem Qtk {n l} {rv:List Qab} (h:QhJ n l=some rv):AFn Tryz.prog 59 [.agg (Qam.enc n),.one (lL 14 l Qal.enc)] [] (one (lL 2 rv Qab.enc)) []:=by
 refine QaM Tryz.func59 (by kernel_rfl) (by kernel_rfl) (fun Γ=>?_)
 unfold QhJ at h
 obtain ⟨r,h0,h⟩:=Qae h
 rcases Qah h with ⟨h1,h⟩|⟨h1,h⟩
 ·exact gn 9 [1,2,5] [0,1] [nL Qal.enc l,cC (Qan h0),nF h1,hW 1,hH (.adopt 5 2 146)] (QkQ Γ rv h)
 ·obtain ⟨h2,h⟩:=Qav h
  exact gn 9 [1,2,5] [0,2] [nL Qal.enc l,cC (Qan h0),nT h1,oO (Eq.refl ([(Qab.mk 4 ByteArray.empty)].map Qab.enc).length),aN (l:=([(Qab.mk 4 ByteArray.empty)]:List Qab)) Qab.enc h2] (QkQ Γ rv h)
theorem QaG {n low high} {rv:Bool} (h:QbQ n low high=some rv):AFn Tryz.prog 69 [.one (lI n),.one (lI low),.one (lI high)] [] (one (.bool rv)) []:=by
 refine QaM Tryz.func69 (by kernel_rfl) (by kernel_rfl) (fun Γ=>?_)
 unfold QbQ at h
 obtain rfl:=Option.some.inj h
 exact gr 4 [] [rp 4 hP,rp 2 (oI ((geI n low)=true)),oR True ((geI n low)=true)]
def Qo1 (Γ:Gam) (rv:Bool) (cf:Cf):Prop:=Go Tryz.prog Tryz.f124 [] Γ (one (.bool rv)) [] cf
def Ql8 (Γ:Gam) (rv:Bool) (a:List Int) (i:Int):Prop:=Qo1 Γ rv ⟨[.c 116,.l 116,.b 0,.c 15],⟨28,[vL 0 1 a Qay,vI 5 i],[]⟩⟩
def QkJ (Γ:Gam) (rv:Bool) (a:List Int):Prop:=Qo1 Γ rv ⟨[.c 15],⟨28,[],[]⟩⟩
theorem Qq3 (Γ:Gam) (rv:Bool) {a} {s:Int} {e:(Unit)⊕(Bool)} (h:QaT (fun s=>Qcx a s) s=some e) (hD:sel e (fun e=>QkJ Γ rv a) (fun e=>e=rv)):Ql8 Γ rv a s:=by
 refine QaC (C:=fun (s:Int)=>Ql8 Γ rv a s) (D:=fun (e:(Unit)⊕(Bool))=>sel e (fun e=>QkJ Γ rv a) (fun e=>e=rv)) ?_ h hD
 clear h hD s e
 intro i z_ h hI hE
 replace h:Qcx a i=_:=h
 unfold Qcx at h
 rcases Qah h with ⟨h1,h⟩|⟨h1,h⟩
 ·obtain ⟨x0,h2,h⟩:=Qae h
  rcases Qah h with ⟨h3,h⟩|⟨h3,h⟩
  ·obtain rfl:=(hE _ (oJ h):_=rv)
   exact gr 12 [] [nL Qay a,bT h1,cE Qay h2,rp 6 (bT h3),tT]
  ·rcases Qah h with ⟨h4,h⟩|⟨h4,h⟩
   ·obtain rfl:=(hE _ (oJ h):_=rv)
    exact gr 12 [] [nL Qay a,bT h1,cE Qay h2,rp 3 (bF h3),cE Qay h2,rp 3 (bF h3),bT h4]
   ·exact gn 14 [0,5] [] [nL Qay a,bT h1,cE Qay h2,rp 3 (bF h3),cE Qay h2,rp 3 (bF h3),bF h4] (hI _ (oJ h))
 ·exact gn 5 [] [] [nL Qay a,bF h1] (hE _ (oJ h))
theorem Qn6 {a dims} {rv:Bool} (h:Qfp a dims=some rv):AFn Tryz.prog 124 [.one (lL 1 a Qay),.one (lI dims)] [] (one (.bool rv)) []:=by
 refine QaM Tryz.func124 (by kernel_rfl) (by kernel_rfl) (fun Γ=>?_)
 unfold Qfp at h
 rcases Qah h with ⟨h0,h⟩|⟨h0,h⟩
 ·obtain rfl:=Option.some.inj h
  exact gr 8 [] [nL Qay a,bT h0]
 ·obtain ⟨e0,h5,h⟩:=Qae h
  refine gn 12 [0,5] [] [nL Qay a,bF h0] (Qq3 Γ rv h5 ?_)
  rcases e0 with e0|e0
  ·replace h:(some true:Option Bool)=some _:=h
   obtain rfl:=Option.some.inj h
   exact gr 2 [] []
  ·obtain ⟨r,rfl⟩:∃ x,x=e0:=⟨_,rfl⟩
   replace h:(some r:Option Bool)=some _:=h
   exact Option.some.inj h
theorem QbD {s0} {rv:Int} (h:Qeo s0=some rv):AFn Tryz.prog 125 [.agg (Qaw.enc s0)] [] (one (lI rv)) []:=by
 refine QaM Tryz.func125 (by kernel_rfl) (by kernel_rfl) (fun Γ=>?_)
 unfold Qeo at h
 rcases Qah h with ⟨h0,h⟩|⟨h0,h⟩
 ·obtain rfl:=Option.some.inj h
  exact gr 8 [] [rp 12 hP,rp 2 (oI ((eqI s0.place (-1))=true)),oR True ((eqI s0.place (-1))=true),rp 2 (oI (((eqI s0.place (-1))&&(eqI s0.open_ 0))=true)),oR True (((eqI s0.place (-1))&&(eqI s0.open_ 0))=true),rp 2 (oI ((((eqI s0.place (-1))&&(eqI s0.open_ 0))&&(eqI s0.close 0))=true)),oR True ((((eqI s0.place (-1))&&(eqI s0.open_ 0))&&(eqI s0.close 0))=true),bT h0]
 ·rcases Qah h with ⟨h1,h⟩|⟨h1,h⟩
  ·obtain rfl:=Option.some.inj h
   exact gr 13 [] [rp 12 hP,rp 2 (oI ((eqI s0.place (-1))=true)),oR True ((eqI s0.place (-1))=true),rp 2 (oI (((eqI s0.place (-1))&&(eqI s0.open_ 0))=true)),oR True (((eqI s0.place (-1))&&(eqI s0.open_ 0))=true),rp 2 (oI ((((eqI s0.place (-1))&&(eqI s0.open_ 0))&&(eqI s0.close 0))=true)),oR True ((((eqI s0.place (-1))&&(eqI s0.open_ 0))&&(eqI s0.close 0))=true),bF h0,rp 22 hP,rp 2 (oI ((ltI s0.place 0)=false)),oR True ((ltI s0.place 0)=false),rp 4 (oI (((ltI s0.place 0)||(ltI s0.open_ 0))=false)),oR True (((ltI s0.place 0)||(ltI s0.open_ 0))=false),rp 2 (oI ((((ltI s0.place 0)||(ltI s0.open_ 0))||(gtI s0.open_ s0.close))=false)),oR True ((((ltI s0.place 0)||(ltI s0.open_ 0))||(gtI s0.open_ s0.close))=false),rp 2 (oI (((((ltI s0.place 0)||(ltI s0.open_ 0))||(gtI s0.open_ s0.close))||(gtI s0.close 4096))=false)),oR True (((((ltI s0.place 0)||(ltI s0.open_ 0))||(gtI s0.open_ s0.close))||(gtI s0.close 4096))=false),rp 2 (oI ((((((ltI s0.place 0)||(ltI s0.open_ 0))||(gtI s0.open_ s0.close))||(gtI s0.close 4096))||(ltI s0.service 0))=false)),oR True ((((((ltI s0.place 0)||(ltI s0.open_ 0))||(gtI s0.open_ s0.close))||(gtI s0.close 4096))||(ltI s0.service 0))=false),bT h1]
  ·obtain rfl:=Option.some.inj h
   exact gr 14 [] [rp 12 hP,rp 2 (oI ((eqI s0.place (-1))=true)),oR True ((eqI s0.place (-1))=true),rp 2 (oI (((eqI s0.place (-1))&&(eqI s0.open_ 0))=true)),oR True (((eqI s0.place (-1))&&(eqI s0.open_ 0))=true),rp 2 (oI ((((eqI s0.place (-1))&&(eqI s0.open_ 0))&&(eqI s0.close 0))=true)),oR True ((((eqI s0.place (-1))&&(eqI s0.open_ 0))&&(eqI s0.close 0))=true),bF h0,rp 22 hP,rp 2 (oI ((ltI s0.place 0)=false)),oR True ((ltI s0.place 0)=false),rp 4 (oI (((ltI s0.place 0)||(ltI s0.open_ 0))=false)),oR True (((ltI s0.place 0)||(ltI s0.open_ 0))=false),rp 2 (oI ((((ltI s0.place 0)||(ltI s0.open_ 0))||(gtI s0.open_ s0.close))=false)),oR True ((((ltI s0.place 0)||(ltI s0.open_ 0))||(gtI s0.open_ s0.close))=false),rp 2 (oI (((((ltI s0.place 0)||(ltI s0.open_ 0))||(gtI s0.open_ s0.close))||(gtI s0.close 4096))=false)),oR True (((((ltI s0.place 0)||(ltI s0.open_ 0))||(gtI s0.open_ s0.close))||(gtI s0.close 4096))=false),rp 2 (oI ((((((ltI s0.place 0)||(ltI s0.open_ 0))||(gtI s0.open_ s0.close))||(gtI s0.close 4096))||(ltI s0.service 0))=false)),oR True ((((((ltI s0.place 0)||(ltI s0.open_ 0))||(gtI s0.open_ s0.close))||(gtI s0.close 4096))||(ltI s0.service 0))=false),bF h1]
def QbC (Γ:Gam) (rv:List Int) (cf:Cf):Prop:=Go Tryz.prog Tryz.f92 [] Γ (one (lL 1 rv Qay)) [] cf
def Qmj (Γ:Gam) (rv:List Int) (places:Int) (dims:Int) (types:Int) (l:List Qag) (at_:Int) (x0:Qag) (l1:List Int) (i:Int):Prop:=QbC Γ rv ⟨[.c 500,.l 500,.b 0,.c 63],⟨156,[vI 0 places,vI 1 dims,vI 2 types,vL 3 16 l Qag.enc,vI 4 at_,vO 11 0 1 l1 Qay,vP 12 1 16,vI 13 i],[oS 1 38 l1 Qay,oX 16 74 (Qag.enc x0)]⟩⟩
def Qlf (Γ:Gam) (rv:List Int) (places:Int) (dims:Int) (types:Int) (l:List Qag) (at_:Int) (x0:Qag) (l1:List Int) (l2:List Int):Prop:=QbC Γ rv ⟨[.c 63],⟨156,[vI 0 places,vI 1 dims,vI 2 types,vO 11 0 1 l2 Qay,vP 12 1 16],[oS 1 38 l2 Qay,oX 16 74 (Qag.enc x0)]⟩⟩
theorem Qrc (Γ:Gam) (rv:List Int) {places dims types l at_ x0 l1} {s:Int} {e:List Int} (h:QaT (fun s=>QcB places dims types l at_ x0 l1 s) s=some e) (hD:Qlf Γ rv places dims types l at_ x0 l1 e):Qmj Γ rv places dims types l at_ x0 l1 s:=by
 refine QaC (C:=fun (s:Int)=>Qmj Γ rv places dims types l at_ x0 l1 s) (D:=fun (e:List Int)=>Qlf Γ rv places dims types l at_ x0 l1 e) ?_ h hD
 clear h hD s e
 intro i z_ h hI hE
 replace h:QcB places dims types l at_ x0 l1 i=_:=h
 unfold QcB at h
 rcases Qah h with ⟨h4,h⟩|⟨h4,h⟩
 ·obtain ⟨x1,h5,h⟩:=Qae h
  rcases Qah h with ⟨h6,h⟩|⟨h6,h⟩
  ·obtain ⟨h7,h⟩:=Qav h
   exact gn 13 [0,1,2,11,12] [3,1] [bT h4,hH (.draw 8 []),cE Qag.enc h5,bT h6,oO (Eq.refl ([6].map Qay).length),aO Qay h7] (hE _ (oJ h))
  ·exact gn 14 [0,1,2,3,4,11,12,13] [0,1] [bT h4,hH (.draw 8 []),cE Qag.enc h5,bF h6] (hI _ (oJ h))
 ·exact gn 5 [0,1,2,11,12] [0,1] [bF h4] (hE _ (oJ h))
theorem Qla (Γ:Gam) (rv:List Int) {types x0 l6} (h:QeG types x0 l6=some rv):QbC Γ rv ⟨[.c 2047],⟨156,[vI 2 types,vO 11 0 1 l6 Qay,vP 12 1 16],[oS 1 38 l6 Qay,oX 16 74 (Qag.enc x0)]⟩⟩:=by
 unfold QeG at h
 obtain ⟨r6,h25,h⟩:=Qae h
 rcases Qah h with ⟨h26,h⟩|⟨h26,h⟩
 ·obtain ⟨r7,h27,h⟩:=Qae h
  rcases Qah h with ⟨h28,h⟩|⟨h28,h⟩
  ·obtain ⟨h29,h⟩:=Qav h
   obtain rfl:=Option.some.inj h
   exact gr 9 [] [rp 5 hP,rp 3 (oI ((neI x0.pick.place (-1))=true)),oR True ((neI x0.pick.place (-1))=true),cC (QaG h25),rp 3 (nF h26),cC (QaG h27),rp 2 (nF h26),rp 26 hP,rp 4 (oI ((!r7)=false)),oI (((!r7)=false)∧(gtI x0.split 1)=true),oR True ((!r7)=false),rp 2 (oI (((!r7)||((gtI x0.split 1)&&((neI x0.pick.place (-1))&&(neI x0.drop.place (-1)))))=false)),oR True (((!r7)||((gtI x0.split 1)&&((neI x0.pick.place (-1))&&(neI x0.drop.place (-1)))))=false),rp 3 (oI ((((!r7)||((gtI x0.split 1)&&((neI x0.pick.place (-1))&&(neI x0.drop.place (-1)))))||(ltI x0.last_ (-1)))=false)),oR True ((((!r7)||((gtI x0.split 1)&&((neI x0.pick.place (-1))&&(neI x0.drop.place (-1)))))||(ltI x0.last_ (-1)))=false),rp 2 (oI (((((!r7)||((gtI x0.split 1)&&((neI x0.pick.place (-1))&&(neI x0.drop.place (-1)))))||(ltI x0.last_ (-1)))||(geI x0.last_ types))=false)),oR True (((((!r7)||((gtI x0.split 1)&&((neI x0.pick.place (-1))&&(neI x0.drop.place (-1)))))||(ltI x0.last_ (-1)))||(geI x0.last_ types))=false),rp 3 (oI ((((((!r7)||((gtI x0.split 1)&&((neI x0.pick.place (-1))&&(neI x0.drop.place (-1)))))||(ltI x0.last_ (-1)))||(geI x0.last_ types))||(ltI x0.now (-1)))=false)),oR True ((((((!r7)||((gtI x0.split 1)&&((neI x0.pick.place (-1))&&(neI x0.drop.place (-1)))))||(ltI x0.last_ (-1)))||(geI x0.last_ types))||(ltI x0.now (-1)))=false),bT h28,oO (Eq.refl ([2].map Qay).length),aO Qay h29,hW 5,hH (.frz 3),rp 4 (oO (Eq.refl ((l6++[2]).map Qay).length))]
  ·obtain rfl:=Option.some.inj h
   exact gr 9 [] [rp 5 hP,rp 3 (oI ((neI x0.pick.place (-1))=true)),oR True ((neI x0.pick.place (-1))=true),cC (QaG h25),rp 3 (nF h26),cC (QaG h27),rp 2 (nF h26),rp 26 hP,rp 4 (oI ((!r7)=false)),oI (((!r7)=false)∧(gtI x0.split 1)=true),oR True ((!r7)=false),rp 2 (oI (((!r7)||((gtI x0.split 1)&&((neI x0.pick.place (-1))&&(neI x0.drop.place (-1)))))=false)),oR True (((!r7)||((gtI x0.split 1)&&((neI x0.pick.place (-1))&&(neI x0.drop.place (-1)))))=false),rp 3 (oI ((((!r7)||((gtI x0.split 1)&&((neI x0.pick.place (-1))&&(neI x0.drop.place (-1)))))||(ltI x0.last_ (-1)))=false)),oR True ((((!r7)||((gtI x0.split 1)&&((neI x0.pick.place (-1))&&(neI x0.drop.place (-1)))))||(ltI x0.last_ (-1)))=false),rp 2 (oI (((((!r7)||((gtI x0.split 1)&&((neI x0.pick.place (-1))&&(neI x0.drop.place (-1)))))||(ltI x0.last_ (-1)))||(geI x0.last_ types))=false)),oR True (((((!r7)||((gtI x0.split 1)&&((neI x0.pick.place (-1))&&(neI x0.drop.place (-1)))))||(ltI x0.last_ (-1)))||(geI x0.last_ types))=false),rp 3 (oI ((((((!r7)||((gtI x0.split 1)&&((neI x0.pick.place (-1))&&(neI x0.drop.place (-1)))))||(ltI x0.last_ (-1)))||(geI x0.last_ types))||(ltI x0.now (-1)))=false)),oR True ((((((!r7)||((gtI x0.split 1)&&((neI x0.pick.place (-1))&&(neI x0.drop.place (-1)))))||(ltI x0.last_ (-1)))||(geI x0.last_ types))||(ltI x0.now (-1)))=false),bF h28,hW 5,hH (.frz 0),rp 3 (eL l6 Qay)]
 ·obtain ⟨h30,h⟩:=Qav h
  obtain rfl:=Option.some.inj h
  exact gr 9 [] [rp 5 hP,rp 3 (oI ((neI x0.pick.place (-1))=true)),oR True ((neI x0.pick.place (-1))=true),cC (QaG h25),rp 5 (nT h26),rp 4 tT,kF,rp 21 tT,oO (Eq.refl ([2].map Qay).length),aO Qay h30,hW 5,hH (.frz 3),rp 4 (oO (Eq.refl ((l6++[2]).map Qay).length))]
theorem Qlc (Γ:Gam) (rv:List Int) {types x0 l8} (h:Qhu types x0 l8=some rv):QbC Γ rv ⟨[.c 2047],⟨156,[vI 2 types,vO 11 0 1 l8 Qay,vP 12 1 16],[oS 1 38 l8 Qay,oX 16 74 (Qag.enc x0)]⟩⟩:=by
 unfold Qhu at h
 obtain ⟨r10,h37,h⟩:=Qae h
 rcases Qah h with ⟨h38,h⟩|⟨h38,h⟩
 ·obtain ⟨r11,h39,h⟩:=Qae h
  rcases Qah h with ⟨h40,h⟩|⟨h40,h⟩
  ·obtain ⟨h41,h⟩:=Qav h
   obtain rfl:=Option.some.inj h
   exact gr 9 [] [rp 5 hP,rp 3 (oI ((neI x0.pick.place (-1))=true)),oR True ((neI x0.pick.place (-1))=true),cC (QaG h37),rp 3 (nF h38),cC (QaG h39),rp 2 (nF h38),rp 26 hP,rp 4 (oI ((!r11)=false)),oI (((!r11)=false)∧(gtI x0.split 1)=true),oR True ((!r11)=false),rp 2 (oI (((!r11)||((gtI x0.split 1)&&((neI x0.pick.place (-1))&&(neI x0.drop.place (-1)))))=false)),oR True (((!r11)||((gtI x0.split 1)&&((neI x0.pick.place (-1))&&(neI x0.drop.place (-1)))))=false),rp 3 (oI ((((!r11)||((gtI x0.split 1)&&((neI x0.pick.place (-1))&&(neI x0.drop.place (-1)))))||(ltI x0.last_ (-1)))=false)),oR True ((((!r11)||((gtI x0.split 1)&&((neI x0.pick.place (-1))&&(neI x0.drop.place (-1)))))||(ltI x0.last_ (-1)))=false),rp 2 (oI (((((!r11)||((gtI x0.split 1)&&((neI x0.pick.place (-1))&&(neI x0.drop.place (-1)))))||(ltI x0.last_ (-1)))||(geI x0.last_ types))=false)),oR True (((((!r11)||((gtI x0.split 1)&&((neI x0.pick.place (-1))&&(neI x0.drop.place (-1)))))||(ltI x0.last_ (-1)))||(geI x0.last_ types))=false),rp 3 (oI ((((((!r11)||((gtI x0.split 1)&&((neI x0.pick.place (-1))&&(neI x0.drop.place (-1)))))||(ltI x0.last_ (-1)))||(geI x0.last_ types))||(ltI x0.now (-1)))=false)),oR True ((((((!r11)||((gtI x0.split 1)&&((neI x0.pick.place (-1))&&(neI x0.drop.place (-1)))))||(ltI x0.last_ (-1)))||(geI x0.last_ types))||(ltI x0.now (-1)))=false),bT h40,oO (Eq.refl ([2].map Qay).length),aO Qay h41,hW 5,hH (.frz 3),rp 4 (oO (Eq.refl ((l8++[2]).map Qay).length))]
  ·obtain rfl:=Option.some.inj h
   exact gr 9 [] [rp 5 hP,rp 3 (oI ((neI x0.pick.place (-1))=true)),oR True ((neI x0.pick.place (-1))=true),cC (QaG h37),rp 3 (nF h38),cC (QaG h39),rp 2 (nF h38),rp 26 hP,rp 4 (oI ((!r11)=false)),oI (((!r11)=false)∧(gtI x0.split 1)=true),oR True ((!r11)=false),rp 2 (oI (((!r11)||((gtI x0.split 1)&&((neI x0.pick.place (-1))&&(neI x0.drop.place (-1)))))=false)),oR True (((!r11)||((gtI x0.split 1)&&((neI x0.pick.place (-1))&&(neI x0.drop.place (-1)))))=false),rp 3 (oI ((((!r11)||((gtI x0.split 1)&&((neI x0.pick.place (-1))&&(neI x0.drop.place (-1)))))||(ltI x0.last_ (-1)))=false)),oR True ((((!r11)||((gtI x0.split 1)&&((neI x0.pick.place (-1))&&(neI x0.drop.place (-1)))))||(ltI x0.last_ (-1)))=false),rp 2 (oI (((((!r11)||((gtI x0.split 1)&&((neI x0.pick.place (-1))&&(neI x0.drop.place (-1)))))||(ltI x0.last_ (-1)))||(geI x0.last_ types))=false)),oR True (((((!r11)||((gtI x0.split 1)&&((neI x0.pick.place (-1))&&(neI x0.drop.place (-1)))))||(ltI x0.last_ (-1)))||(geI x0.last_ types))=false),rp 3 (oI ((((((!r11)||((gtI x0.split 1)&&((neI x0.pick.place (-1))&&(neI x0.drop.place (-1)))))||(ltI x0.last_ (-1)))||(geI x0.last_ types))||(ltI x0.now (-1)))=false)),oR True ((((((!r11)||((gtI x0.split 1)&&((neI x0.pick.place (-1))&&(neI x0.drop.place (-1)))))||(ltI x0.last_ (-1)))||(geI x0.last_ types))||(ltI x0.now (-1)))=false),bF h40,hW 5,hH (.frz 0),rp 3 (eL l8 Qay)]
 ·obtain ⟨h42,h⟩:=Qav h
  obtain rfl:=Option.some.inj h
  exact gr 9 [] [rp 5 hP,rp 3 (oI ((neI x0.pick.place (-1))=true)),oR True ((neI x0.pick.place (-1))=true),cC (QaG h37),rp 5 (nT h38),rp 4 tT,kF,rp 21 tT,oO (Eq.refl ([2].map Qay).length),aO Qay h42,hW 5,hH (.frz 3),rp 4 (oO (Eq.refl ((l8++[2]).map Qay).length))]
theorem Qlb (Γ:Gam) (rv:List Int) {types x0 l7} (h:QeH types x0 l7=some rv):QbC Γ rv ⟨[.c 1023],⟨156,[vI 2 types,vO 11 0 1 l7 Qay,vP 12 1 16],[oS 1 38 l7 Qay,oX 16 74 (Qag.enc x0)]⟩⟩:=by
 unfold QeH at h
 obtain ⟨r9,h34,h⟩:=Qae h
 rcases Qah h with ⟨h35,h⟩|⟨h35,h⟩
 ·exact gn 5 [2,11,12] [0,1] [cC (QaG h34),nF h35] (Qlc Γ rv h)
 ·obtain ⟨h36,h⟩:=Qav h
  exact gn 5 [2,11,12] [3,1] [cC (QaG h34),nT h35,oO (Eq.refl ([18].map Qay).length),aO Qay h36] (Qlc Γ rv h)
theorem Qk9 (Γ:Gam) (rv:List Int) {types x0 l5} (h:QeF types x0 l5=some rv):QbC Γ rv ⟨[.c 511],⟨156,[vI 2 types,vO 11 0 1 l5 Qay,vP 12 1 16],[oS 1 38 l5 Qay,oX 16 74 (Qag.enc x0)]⟩⟩:=by
 unfold QeF at h
 obtain ⟨r4,h19,h⟩:=Qae h
 rcases Qah h with ⟨h20,h⟩|⟨h20,h⟩
 ·obtain ⟨h21,h⟩:=Qav h
  obtain ⟨r5,h22,h⟩:=Qae h
  rcases Qah h with ⟨h23,h⟩|⟨h23,h⟩
  ·exact gn 10 [2,11,12] [3,1] [cC (QbD h19),rp 5 (bT h20),tT,oO (Eq.refl ([14].map Qay).length),aO Qay h21,cC (QaG h22),nF h23] (Qla Γ rv h)
  ·obtain ⟨h24,h⟩:=Qav h
   exact gn 10 [2,11,12] [5,1] [cC (QbD h19),rp 5 (bT h20),tT,oO (Eq.refl ([14].map Qay).length),aO Qay h21,cC (QaG h22),nT h23,oO (Eq.refl ([18].map Qay).length),aO Qay h24] (Qla Γ rv h)
 ·obtain ⟨r8,h31,h⟩:=Qae h
  rcases Qah h with ⟨h32,h⟩|⟨h32,h⟩
  ·obtain ⟨h33,h⟩:=Qav h
   exact gn 5 [2,11,12] [3,1] [cC (QbD h19),rp 3 (bF h20),cC (QbD h31),rp 2 (bF h20),bT h32,oO (Eq.refl ([14].map Qay).length),aO Qay h33] (Qlb Γ rv h)
  ·exact gn 5 [2,11,12] [0,1] [cC (QbD h19),rp 3 (bF h20),cC (QbD h31),rp 2 (bF h20),bF h32] (Qlb Γ rv h)
theorem Qk8 (Γ:Gam) (rv:List Int) {types x0 l4} (h:QeE types x0 l4=some rv):QbC Γ rv ⟨[.c 255],⟨156,[vI 2 types,vO 11 0 1 l4 Qay,vP 12 1 16],[oS 1 38 l4 Qay,oX 16 74 (Qag.enc x0)]⟩⟩:=by
 unfold QeE at h
 rcases Qah h with ⟨h17,h⟩|⟨h17,h⟩
 ·obtain ⟨h18,h⟩:=Qav h
  exact gn 5 [2,11,12] [3,1] [rp 5 hP,rp 3 (oI ((eqI x0.pick.place (-1))=true)),oR True ((eqI x0.pick.place (-1))=true),bT h17,oO (Eq.refl ([19].map Qay).length),aO Qay h18] (Qk9 Γ rv h)
 ·exact gn 5 [2,11,12] [0,1] [rp 5 hP,rp 3 (oI ((eqI x0.pick.place (-1))=true)),oR True ((eqI x0.pick.place (-1))=true),bF h17] (Qk9 Γ rv h)
theorem Qle (Γ:Gam) (rv:List Int) {types x0 l10} (h:Qhw types x0 l10=some rv):QbC Γ rv ⟨[.c 2047],⟨156,[vI 2 types,vO 11 0 1 l10 Qay,vP 12 1 16],[oS 1 38 l10 Qay,oX 16 74 (Qag.enc x0)]⟩⟩:=by
 unfold Qhw at h
 obtain ⟨r14,h52,h⟩:=Qae h
 rcases Qah h with ⟨h53,h⟩|⟨h53,h⟩
 ·obtain ⟨r15,h54,h⟩:=Qae h
  rcases Qah h with ⟨h55,h⟩|⟨h55,h⟩
  ·obtain ⟨h56,h⟩:=Qav h
   obtain rfl:=Option.some.inj h
   exact gr 9 [] [rp 5 hP,rp 3 (oI ((neI x0.pick.place (-1))=true)),oR True ((neI x0.pick.place (-1))=true),cC (QaG h52),rp 3 (nF h53),cC (QaG h54),rp 2 (nF h53),rp 26 hP,rp 4 (oI ((!r15)=false)),oI (((!r15)=false)∧(gtI x0.split 1)=true),oR True ((!r15)=false),rp 2 (oI (((!r15)||((gtI x0.split 1)&&((neI x0.pick.place (-1))&&(neI x0.drop.place (-1)))))=false)),oR True (((!r15)||((gtI x0.split 1)&&((neI x0.pick.place (-1))&&(neI x0.drop.place (-1)))))=false),rp 3 (oI ((((!r15)||((gtI x0.split 1)&&((neI x0.pick.place (-1))&&(neI x0.drop.place (-1)))))||(ltI x0.last_ (-1)))=false)),oR True ((((!r15)||((gtI x0.split 1)&&((neI x0.pick.place (-1))&&(neI x0.drop.place (-1)))))||(ltI x0.last_ (-1)))=false),rp 2 (oI (((((!r15)||((gtI x0.split 1)&&((neI x0.pick.place (-1))&&(neI x0.drop.place (-1)))))||(ltI x0.last_ (-1)))||(geI x0.last_ types))=false)),oR True (((((!r15)||((gtI x0.split 1)&&((neI x0.pick.place (-1))&&(neI x0.drop.place (-1)))))||(ltI x0.last_ (-1)))||(geI x0.last_ types))=false),rp 3 (oI ((((((!r15)||((gtI x0.split 1)&&((neI x0.pick.place (-1))&&(neI x0.drop.place (-1)))))||(ltI x0.last_ (-1)))||(geI x0.last_ types))||(ltI x0.now (-1)))=false)),oR True ((((((!r15)||((gtI x0.split 1)&&((neI x0.pick.place (-1))&&(neI x0.drop.place (-1)))))||(ltI x0.last_ (-1)))||(geI x0.last_ types))||(ltI x0.now (-1)))=false),bT h55,oO (Eq.refl ([2].map Qay).length),aO Qay h56,hW 5,hH (.frz 3),rp 4 (oO (Eq.refl ((l10++[2]).map Qay).length))]
  ·obtain rfl:=Option.some.inj h
   exact gr 9 [] [rp 5 hP,rp 3 (oI ((neI x0.pick.place (-1))=true)),oR True ((neI x0.pick.place (-1))=true),cC (QaG h52),rp 3 (nF h53),cC (QaG h54),rp 2 (nF h53),rp 26 hP,rp 4 (oI ((!r15)=false)),oI (((!r15)=false)∧(gtI x0.split 1)=true),oR True ((!r15)=false),rp 2 (oI (((!r15)||((gtI x0.split 1)&&((neI x0.pick.place (-1))&&(neI x0.drop.place (-1)))))=false)),oR True (((!r15)||((gtI x0.split 1)&&((neI x0.pick.place (-1))&&(neI x0.drop.place (-1)))))=false),rp 3 (oI ((((!r15)||((gtI x0.split 1)&&((neI x0.pick.place (-1))&&(neI x0.drop.place (-1)))))||(ltI x0.last_ (-1)))=false)),oR True ((((!r15)||((gtI x0.split 1)&&((neI x0.pick.place (-1))&&(neI x0.drop.place (-1)))))||(ltI x0.last_ (-1)))=false),rp 2 (oI (((((!r15)||((gtI x0.split 1)&&((neI x0.pick.place (-1))&&(neI x0.drop.place (-1)))))||(ltI x0.last_ (-1)))||(geI x0.last_ types))=false)),oR True (((((!r15)||((gtI x0.split 1)&&((neI x0.pick.place (-1))&&(neI x0.drop.place (-1)))))||(ltI x0.last_ (-1)))||(geI x0.last_ types))=false),rp 3 (oI ((((((!r15)||((gtI x0.split 1)&&((neI x0.pick.place (-1))&&(neI x0.drop.place (-1)))))||(ltI x0.last_ (-1)))||(geI x0.last_ types))||(ltI x0.now (-1)))=false)),oR True ((((((!r15)||((gtI x0.split 1)&&((neI x0.pick.place (-1))&&(neI x0.drop.place (-1)))))||(ltI x0.last_ (-1)))||(geI x0.last_ types))||(ltI x0.now (-1)))=false),bF h55,hW 5,hH (.frz 0),rp 3 (eL l10 Qay)]
 ·obtain ⟨h57,h⟩:=Qav h
  obtain rfl:=Option.some.inj h
  exact gr 9 [] [rp 5 hP,rp 3 (oI ((neI x0.pick.place (-1))=true)),oR True ((neI x0.pick.place (-1))=true),cC (QaG h52),rp 5 (nT h53),rp 4 tT,kF,rp 21 tT,oO (Eq.refl ([2].map Qay).length),aO Qay h57,hW 5,hH (.frz 3),rp 4 (oO (Eq.refl ((l10++[2]).map Qay).length))]
theorem Qj7 (Γ:Gam) (rv:List Int) {types x0 l12} (h:QgN types x0 l12=some rv):QbC Γ rv ⟨[.c 2047],⟨156,[vI 2 types,vO 11 0 1 l12 Qay,vP 12 1 16],[oS 1 38 l12 Qay,oX 16 74 (Qag.enc x0)]⟩⟩:=by
 unfold QgN at h
 obtain ⟨r18,h64,h⟩:=Qae h
 rcases Qah h with ⟨h65,h⟩|⟨h65,h⟩
 ·obtain ⟨r19,h66,h⟩:=Qae h
  rcases Qah h with ⟨h67,h⟩|⟨h67,h⟩
  ·obtain ⟨h68,h⟩:=Qav h
   obtain rfl:=Option.some.inj h
   exact gr 9 [] [rp 5 hP,rp 3 (oI ((neI x0.pick.place (-1))=true)),oR True ((neI x0.pick.place (-1))=true),cC (QaG h64),rp 3 (nF h65),cC (QaG h66),rp 2 (nF h65),rp 26 hP,rp 4 (oI ((!r19)=false)),oI (((!r19)=false)∧(gtI x0.split 1)=true),oR True ((!r19)=false),rp 2 (oI (((!r19)||((gtI x0.split 1)&&((neI x0.pick.place (-1))&&(neI x0.drop.place (-1)))))=false)),oR True (((!r19)||((gtI x0.split 1)&&((neI x0.pick.place (-1))&&(neI x0.drop.place (-1)))))=false),rp 3 (oI ((((!r19)||((gtI x0.split 1)&&((neI x0.pick.place (-1))&&(neI x0.drop.place (-1)))))||(ltI x0.last_ (-1)))=false)),oR True ((((!r19)||((gtI x0.split 1)&&((neI x0.pick.place (-1))&&(neI x0.drop.place (-1)))))||(ltI x0.last_ (-1)))=false),rp 2 (oI (((((!r19)||((gtI x0.split 1)&&((neI x0.pick.place (-1))&&(neI x0.drop.place (-1)))))||(ltI x0.last_ (-1)))||(geI x0.last_ types))=false)),oR True (((((!r19)||((gtI x0.split 1)&&((neI x0.pick.place (-1))&&(neI x0.drop.place (-1)))))||(ltI x0.last_ (-1)))||(geI x0.last_ types))=false),rp 3 (oI ((((((!r19)||((gtI x0.split 1)&&((neI x0.pick.place (-1))&&(neI x0.drop.place (-1)))))||(ltI x0.last_ (-1)))||(geI x0.last_ types))||(ltI x0.now (-1)))=false)),oR True ((((((!r19)||((gtI x0.split 1)&&((neI x0.pick.place (-1))&&(neI x0.drop.place (-1)))))||(ltI x0.last_ (-1)))||(geI x0.last_ types))||(ltI x0.now (-1)))=false),bT h67,oO (Eq.refl ([2].map Qay).length),aO Qay h68,hW 5,hH (.frz 3),rp 4 (oO (Eq.refl ((l12++[2]).map Qay).length))]
  ·obtain rfl:=Option.some.inj h
   exact gr 9 [] [rp 5 hP,rp 3 (oI ((neI x0.pick.place (-1))=true)),oR True ((neI x0.pick.place (-1))=true),cC (QaG h64),rp 3 (nF h65),cC (QaG h66),rp 2 (nF h65),rp 26 hP,rp 4 (oI ((!r19)=false)),oI (((!r19)=false)∧(gtI x0.split 1)=true),oR True ((!r19)=false),rp 2 (oI (((!r19)||((gtI x0.split 1)&&((neI x0.pick.place (-1))&&(neI x0.drop.place (-1)))))=false)),oR True (((!r19)||((gtI x0.split 1)&&((neI x0.pick.place (-1))&&(neI x0.drop.place (-1)))))=false),rp 3 (oI ((((!r19)||((gtI x0.split 1)&&((neI x0.pick.place (-1))&&(neI x0.drop.place (-1)))))||(ltI x0.last_ (-1)))=false)),oR True ((((!r19)||((gtI x0.split 1)&&((neI x0.pick.place (-1))&&(neI x0.drop.place (-1)))))||(ltI x0.last_ (-1)))=false),rp 2 (oI (((((!r19)||((gtI x0.split 1)&&((neI x0.pick.place (-1))&&(neI x0.drop.place (-1)))))||(ltI x0.last_ (-1)))||(geI x0.last_ types))=false)),oR True (((((!r19)||((gtI x0.split 1)&&((neI x0.pick.place (-1))&&(neI x0.drop.place (-1)))))||(ltI x0.last_ (-1)))||(geI x0.last_ types))=false),rp 3 (oI ((((((!r19)||((gtI x0.split 1)&&((neI x0.pick.place (-1))&&(neI x0.drop.place (-1)))))||(ltI x0.last_ (-1)))||(geI x0.last_ types))||(ltI x0.now (-1)))=false)),oR True ((((((!r19)||((gtI x0.split 1)&&((neI x0.pick.place (-1))&&(neI x0.drop.place (-1)))))||(ltI x0.last_ (-1)))||(geI x0.last_ types))||(ltI x0.now (-1)))=false),bF h67,hW 5,hH (.frz 0),rp 3 (eL l12 Qay)]
 ·obtain ⟨h69,h⟩:=Qav h
  obtain rfl:=Option.some.inj h
  exact gr 9 [] [rp 5 hP,rp 3 (oI ((neI x0.pick.place (-1))=true)),oR True ((neI x0.pick.place (-1))=true),cC (QaG h64),rp 5 (nT h65),rp 4 tT,kF,rp 21 tT,oO (Eq.refl ([2].map Qay).length),aO Qay h69,hW 5,hH (.frz 3),rp 4 (oO (Eq.refl ((l12++[2]).map Qay).length))]
theorem Qj6 (Γ:Gam) (rv:List Int) {types x0 l11} (h:QgM types x0 l11=some rv):QbC Γ rv ⟨[.c 1023],⟨156,[vI 2 types,vO 11 0 1 l11 Qay,vP 12 1 16],[oS 1 38 l11 Qay,oX 16 74 (Qag.enc x0)]⟩⟩:=by
 unfold QgM at h
 obtain ⟨r17,h61,h⟩:=Qae h
 rcases Qah h with ⟨h62,h⟩|⟨h62,h⟩
 ·exact gn 5 [2,11,12] [0,1] [cC (QaG h61),nF h62] (Qj7 Γ rv h)
 ·obtain ⟨h63,h⟩:=Qav h
  exact gn 5 [2,11,12] [3,1] [cC (QaG h61),nT h62,oO (Eq.refl ([18].map Qay).length),aO Qay h63] (Qj7 Γ rv h)
theorem Qld (Γ:Gam) (rv:List Int) {types x0 l9} (h:Qhv types x0 l9=some rv):QbC Γ rv ⟨[.c 511],⟨156,[vI 2 types,vO 11 0 1 l9 Qay,vP 12 1 16],[oS 1 38 l9 Qay,oX 16 74 (Qag.enc x0)]⟩⟩:=by
 unfold Qhv at h
 obtain ⟨r12,h46,h⟩:=Qae h
 rcases Qah h with ⟨h47,h⟩|⟨h47,h⟩
 ·obtain ⟨h48,h⟩:=Qav h
  obtain ⟨r13,h49,h⟩:=Qae h
  rcases Qah h with ⟨h50,h⟩|⟨h50,h⟩
  ·exact gn 10 [2,11,12] [3,1] [cC (QbD h46),rp 5 (bT h47),tT,oO (Eq.refl ([14].map Qay).length),aO Qay h48,cC (QaG h49),nF h50] (Qle Γ rv h)
  ·obtain ⟨h51,h⟩:=Qav h
   exact gn 10 [2,11,12] [5,1] [cC (QbD h46),rp 5 (bT h47),tT,oO (Eq.refl ([14].map Qay).length),aO Qay h48,cC (QaG h49),nT h50,oO (Eq.refl ([18].map Qay).length),aO Qay h51] (Qle Γ rv h)
 ·obtain ⟨r16,h58,h⟩:=Qae h
  rcases Qah h with ⟨h59,h⟩|⟨h59,h⟩
  ·obtain ⟨h60,h⟩:=Qav h
   exact gn 5 [2,11,12] [3,1] [cC (QbD h46),rp 3 (bF h47),cC (QbD h58),rp 2 (bF h47),bT h59,oO (Eq.refl ([14].map Qay).length),aO Qay h60] (Qj6 Γ rv h)
  ·exact gn 5 [2,11,12] [0,1] [cC (QbD h46),rp 3 (bF h47),cC (QbD h58),rp 2 (bF h47),bF h59] (Qj6 Γ rv h)
theorem Qk7 (Γ:Gam) (rv:List Int) {places types x0 l3} (h:Qb6 places types x0 l3=some rv):QbC Γ rv ⟨[.c 127],⟨156,[vI 0 places,vI 2 types,vO 11 0 1 l3 Qay,vP 12 1 16],[oS 1 38 l3 Qay,oX 16 74 (Qag.enc x0)]⟩⟩:=by
 unfold Qb6 at h
 obtain ⟨r2,h12,h⟩:=Qae h
 rcases Qah h with ⟨h13,h⟩|⟨h13,h⟩
 ·obtain ⟨r3,h14,h⟩:=Qae h
  rcases Qah h with ⟨h15,h⟩|⟨h15,h⟩
  ·exact gn 5 [2,11,12] [0,1] [cC (QaG h12),rp 6 (nF h13),cC (QaG h14),rp 2 (nF h13),nF h15] (Qk8 Γ rv h)
  ·obtain ⟨h16,h⟩:=Qav h
   exact gn 5 [2,11,12] [3,1] [cC (QaG h12),rp 6 (nF h13),cC (QaG h14),rp 2 (nF h13),nT h15,oO (Eq.refl ([11].map Qay).length),aO Qay h16] (Qk8 Γ rv h)
 ·obtain ⟨h43,h⟩:=Qav h
  rcases Qah h with ⟨h44,h⟩|⟨h44,h⟩
  ·obtain ⟨h45,h⟩:=Qav h
   exact gn 10 [2,11,12] [5,1] [cC (QaG h12),rp 8 (nT h13),tT,oO (Eq.refl ([11].map Qay).length),aO Qay h43,rp 5 hP,rp 3 (oI ((eqI x0.pick.place (-1))=true)),oR True ((eqI x0.pick.place (-1))=true),bT h44,oO (Eq.refl ([19].map Qay).length),aO Qay h45] (Qld Γ rv h)
  ·exact gn 10 [2,11,12] [3,1] [cC (QaG h12),rp 8 (nT h13),tT,oO (Eq.refl ([11].map Qay).length),aO Qay h43,rp 5 hP,rp 3 (oI ((eqI x0.pick.place (-1))=true)),oR True ((eqI x0.pick.place (-1))=true),bF h44] (Qld Γ rv h)
theorem Qk6 (Γ:Gam) (rv:List Int) {places dims types l at_ x0 l1} (h:QeD places dims types l at_ x0 l1=some rv):QbC Γ rv ⟨[.c 31],⟨156,[vI 0 places,vI 1 dims,vI 2 types,vL 3 16 l Qag.enc,vI 4 at_,vO 11 0 1 l1 Qay,vP 12 1 16],[oS 1 38 l1 Qay,oX 16 74 (Qag.enc x0)]⟩⟩:=by
 unfold QeD at h
 obtain ⟨e0,h8,h⟩:=Qae h
 refine gn 5 [0,1,2,3,4,11,12,13] [0,1] [] (Qrc Γ rv h8 ?_)
 obtain ⟨l2,rfl⟩:∃ x,x=e0:=⟨_,rfl⟩
 replace h:(bnd (Qfp x0.load dims) fun r1=>br r1 (Qb6 places types x0 l2) (chk (okN (l2++[17]).length 8) (Qb6 places types x0 (l2++[17]))):Option (List Int))=some _:=h
 obtain ⟨r1,h9,h⟩:=Qae h
 rcases Qah h with ⟨h10,h⟩|⟨h10,h⟩
 ·exact gn 5 [0,2,11,12] [0,1] [cC (Qn6 h9),nF h10] (Qk7 Γ rv h)
 ·obtain ⟨h11,h⟩:=Qav h
  exact gn 5 [0,2,11,12] [3,1] [cC (Qn6 h9),nT h10,oO (Eq.refl ([17].map Qay).length),aO Qay h11] (Qk7 Γ rv h)
theorem Qto {places dims types l at_} {rv:List Int} (h:QhN places dims types l at_=some rv):AFn Tryz.prog 92 [.one (lI places),.one (lI dims),.one (lI types),.one (lL 16 l Qag.enc),.one (lI at_)] [] (one (lL 1 rv Qay)) []:=by
 refine QaM Tryz.func92 (by kernel_rfl) (by kernel_rfl) (fun Γ=>?_)
 unfold QhN at h
 obtain ⟨x0,h0,h⟩:=Qae h
 obtain ⟨r,h1,h⟩:=Qae h
 rcases Qah h with ⟨h2,h⟩|⟨h2,h⟩
 ·exact gn 11 [0,1,2,3,4,11,12] [1,0] [cE Qag.enc h0,cC (Qfb h1),nF h2,hW 1,hH (.adopt 11 1 38)] (Qk6 Γ rv h)
 ·obtain ⟨h3,h⟩:=Qav h
  exact gn 11 [0,1,2,3,4,11,12] [2,0] [cE Qag.enc h0,cC (Qfb h1),nT h2,oO (Eq.refl ([5].map Qay).length),aN (l:=([5]:List Int)) Qay h3] (Qk6 Γ rv h)
def Qgt (Γ:Gam) (rv:List Qab) (cf:Cf):Prop:=Go Tryz.prog Tryz.f60 [] Γ (one (lL 2 rv Qab.enc)) [] cf
def Qmi (Γ:Gam) (rv:List Qab) (n:Qam) (dims:Int) (types:Int) (l:List Qag) (i:Int) (r:List Int) (l3:List Qab) (k:Int):Prop:=Qgt Γ rv ⟨[.c 31308,.l 31308,.b 2,.b 1,.c 979,.l 244,.b 0,.c 31],⟨51,[vI 1 dims,vI 2 types,vL 3 16 l Qag.enc,vP 4 0 2,vO 9 1 2 l3 Qab.enc,vI 10 i,vL 11 1 r Qay,vI 12 k],[oX 2 25 (Qam.enc n),oS 2 146 l3 Qab.enc]⟩⟩
def Qk5 (Γ:Gam) (rv:List Qab) (n:Qam) (dims:Int) (types:Int) (l:List Qag) (i:Int) (r:List Int) (l4:List Qab):Prop:=Qgt Γ rv ⟨[.b 1,.c 979,.l 244,.b 0,.c 31],⟨51,[vI 1 dims,vI 2 types,vL 3 16 l Qag.enc,vP 4 0 2,vO 9 1 2 l4 Qab.enc,vI 10 i],[oX 2 25 (Qam.enc n),oS 2 146 l4 Qab.enc]⟩⟩
def Qmh (Γ:Gam) (rv:List Qab) (n:Qam) (dims:Int) (types:Int) (l:List Qag) (l2:List Qab) (i:Int):Prop:=Qgt Γ rv ⟨[.c 244,.l 244,.b 0,.c 31],⟨51,[vI 1 dims,vI 2 types,vL 3 16 l Qag.enc,vP 4 0 2,vO 9 1 2 l2 Qab.enc,vI 10 i],[oX 2 25 (Qam.enc n),oS 2 146 l2 Qab.enc]⟩⟩
def Qk4 (Γ:Gam) (rv:List Qab) (n:Qam) (dims:Int) (types:Int) (l:List Qag) (l5:List Qab):Prop:=Qgt Γ rv ⟨[.c 31],⟨51,[vO 9 0 2 l5 Qab.enc],[oS 2 146 l5 Qab.enc]⟩⟩
theorem Qrb (Γ:Gam) (rv:List Qab) {n dims types l i r} {s:List Qab×Int} {e:List Qab} (h:QaT (fun s=>Qht n dims types l i r s.1 s.2) s=some e) (hD:Qk5 Γ rv n dims types l i r e):Qmi Γ rv n dims types l i r s.1 s.2:=by
 refine QaC (C:=fun (s:List Qab×Int)=>Qmi Γ rv n dims types l i r s.1 s.2) (D:=fun (e:List Qab)=>Qk5 Γ rv n dims types l i r e) ?_ h hD
 clear h hD s e
 rintro ⟨l3,k⟩ z_ h hI hE
 replace h:Qht n dims types l i r l3 k=_:=h
 unfold Qht at h
 rcases Qah h with ⟨h4,h⟩|⟨h4,h⟩
 ·obtain ⟨x0,h5,h⟩:=Qae h
  obtain ⟨r1,h6,h⟩:=Qae h
  obtain ⟨h7,h⟩:=Qav h
  exact gn 11 [1,2,3,4,9,10,11,12] [0,3] [nL Qay r,bT h4,hH (.draw 9 []),cE Qay h5,cC (Qb0 h6),oO (Eq.refl ([(Qab.mk x0 r1)].map Qab.enc).length),aO Qab.enc h7] (hI _ (oJ h))
 ·exact gn 5 [1,2,3,4,9,10] [0,1] [nL Qay r,bF h4] (hE _ (oJ h))
theorem Qra (Γ:Gam) (rv:List Qab) {n dims types l} {s:List Qab×Int} {e:List Qab} (h:QaT (fun s=>Qdi n dims types l s.1 s.2) s=some e) (hD:Qk4 Γ rv n dims types l e):Qmh Γ rv n dims types l s.1 s.2:=by
 refine QaC (C:=fun (s:List Qab×Int)=>Qmh Γ rv n dims types l s.1 s.2) (D:=fun (e:List Qab)=>Qk4 Γ rv n dims types l e) ?_ h hD
 clear h hD s e
 rintro ⟨l2,i⟩ z_ h hI hE
 replace h:Qdi n dims types l l2 i=_:=h
 unfold Qdi at h
 rcases Qah h with ⟨h2,h⟩|⟨h2,h⟩
 ·obtain ⟨r,h3,h⟩:=Qae h
  obtain ⟨e0,h8,h⟩:=Qae h
  refine gn 13 [1,2,3,4,9,10,11,12] [0,1] [nL Qag.enc l,bT h2,nL QmO n.places,cC (Qto h3)] (Qrb Γ rv h8 ?_)
  obtain ⟨l4,rfl⟩:∃ x,x=e0:=⟨_,rfl⟩
  replace h:(some (.inl (l4,(addK .i64 i 1))):Option ((List Qab×Int)⊕(List Qab)))=some _:=h
  exact gn 3 [1,2,3,4,9,10] [0,1] [] (hI _ (oJ h))
 ·exact gn 5 [9] [1] [nL Qag.enc l,bF h2] (hE _ (oJ h))
theorem Qk3 (Γ:Gam) (rv:List Qab) {n dims types l l1} (h:QfW n dims types l l1=some rv):Qgt Γ rv ⟨[.c 15],⟨51,[vI 1 dims,vI 2 types,vL 3 16 l Qag.enc,vP 4 0 2,vO 9 1 2 l1 Qab.enc],[oX 2 25 (Qam.enc n),oS 2 146 l1 Qab.enc]⟩⟩:=by
 unfold QfW at h
 obtain ⟨e1,h9,h⟩:=Qae h
 refine gn 5 [1,2,3,4,9,10] [0,1] [] (Qra Γ rv h9 ?_)
 obtain ⟨l5,rfl⟩:∃ x,x=e1:=⟨_,rfl⟩
 replace h:(some l5:Option (List Qab))=some _:=h
 obtain rfl:=Option.some.inj h
 exact gr 2 [] [hW 4,hH (.frz 0),rp 3 (eL l5 Qab.enc)]
theorem Qtm {n dims types l} {rv:List Qab} (h:QhM n dims types l=some rv):AFn Tryz.prog 60 [.agg (Qam.enc n),.one (lI dims),.one (lI types),.one (lL 16 l Qag.enc)] [] (one (lL 2 rv Qab.enc)) []:=by
 refine QaM Tryz.func60 (by kernel_rfl) (by kernel_rfl) (fun Γ=>?_)
 unfold QhM at h
 rcases Qah h with ⟨h0,h⟩|⟨h0,h⟩
 ·obtain ⟨h1,h⟩:=Qav h
  exact gn 9 [1,2,3,4,9] [0,2] [nL Qag.enc l,bT h0,oO (Eq.refl ([(Qab.mk 4 ByteArray.empty)].map Qab.enc).length),aN (l:=([(Qab.mk 4 ByteArray.empty)]:List Qab)) Qab.enc h1] (Qk3 Γ rv h)
 ·exact gn 9 [1,2,3,4,9] [0,1] [nL Qag.enc l,bF h0,hW 1,hH (.adopt 9 2 146)] (Qk3 Γ rv h)
def Qnl (Γ:Gam) (rv:ByteArray) (cf:Cf):Prop:=Go Tryz.prog Tryz.f126 [] Γ (one (.str rv)) [] cf
def Qj8 (Γ:Gam) (rv:ByteArray) (n1:Int) (s0:ByteArray):Prop:=Qnl Γ rv ⟨[.c 56,.l 56,.b 0,.c 15],⟨23,[vI 0 n1,vS 3 s0],[]⟩⟩
def QjA (Γ:Gam) (rv:ByteArray) (n2:Int) (s1:ByteArray):Prop:=Qnl Γ rv ⟨[.c 15],⟨23,[vI 0 n2,vS 3 s1],[]⟩⟩
theorem QpJ (Γ:Gam) (rv:ByteArray) {s:Int×ByteArray} {e:Int×ByteArray} (h:QaT (fun s=>QdM s.1 s.2) s=some e) (hD:QjA Γ rv e.1 e.2):Qj8 Γ rv s.1 s.2:=by
 refine QaC (C:=fun (s:Int×ByteArray)=>Qj8 Γ rv s.1 s.2) (D:=fun (e:Int×ByteArray)=>QjA Γ rv e.1 e.2) ?_ h hD
 clear h hD s e
 rintro ⟨n1,s0⟩ z_ h hI hE
 replace h:QdM n1 s0=_:=h
 unfold QdM at h
 rcases Qah h with ⟨h0,h⟩|⟨h0,h⟩
 ·obtain ⟨h1,h⟩:=Qav h
  exact gn 11 [0,3] [] [bT h0,hH (.ints [(cvK .u8 (addK .i64 48 (remK n1 10)))]),oO (oA (n:=10)),oO (Eq.refl ([(cvK .u8 (addK .i64 48 (remK n1 10)))].map e_u8).length),oO (Eq.refl (([(cvK .u8 (addK .i64 48 (remK n1 10)))].map e_u8):List (List Lf))),oO (h1),oO (oA (n:=10))] (hI _ (oJ h))
 ·exact gn 5 [0,3] [] [bF h0] (hE _ (oJ h))
theorem Qgj {n} {rv:ByteArray} (h:Qfd n=some rv):AFn Tryz.prog 126 [.one (lI n)] [] (one (.str rv)) []:=by
 refine QaM Tryz.func126 (by kernel_rfl) (by kernel_rfl) (fun Γ=>?_)
 unfold Qfd at h
 obtain ⟨e0,h2,h⟩:=Qae h
 refine gn 7 [0,3] [] [] (QpJ Γ rv h2 ?_)
 obtain ⟨n2,s1⟩:=e0
 replace h:(chk ((QsI [(cvK .u8 (addK .i64 48 n2))]).size+s1.size≤9223372036854775807) (some (catS (QsI [(cvK .u8 (addK .i64 48 n2))]) s1)):Option ByteArray)=some _:=h
 obtain ⟨h3,h⟩:=Qav h
 obtain rfl:=Option.some.inj h
 exact gr 2 [] [hH (.ints [(cvK .u8 (addK .i64 48 n2))]),oO (Eq.refl ([(cvK .u8 (addK .i64 48 n2))].map e_u8).length),oO (Eq.refl (([(cvK .u8 (addK .i64 48 n2))].map e_u8):List (List Lf))),oO (h3)]
def QfX (Γ:Gam) (rv:List Qab) (cf:Cf):Prop:=Go Tryz.prog Tryz.f93 [] Γ (one (lL 2 rv Qab.enc)) [] cf
def Qlh (Γ:Gam) (rv:List Qab) (orders:Int) (l:List QaR) (word:ByteArray) (turned:Bool) (l2:List Qab) (i:Int) (x0:QaR) (r:ByteArray) (twice:Bool) (k:Int):Prop:=QfX Γ rv ⟨[.c 1001972,.l 1001972,.b 2,.c 125247,.b 1,.c 979,.l 244,.b 0,.c 31],⟨123,[vI 0 orders,vL 1 2 l QaR.enc,vS 2 word,vB 3 turned,vO 9 0 2 l2 Qab.enc,vI 10 i,vI 11 x0.x0,vI 12 x0.x1,vS 13 (catS (catS word Qde) r),vB 14 twice,vI 15 k],[oS 2 146 l2 Qab.enc]⟩⟩
def Qkb (Γ:Gam) (rv:List Qab) (orders:Int) (l:List QaR) (word:ByteArray) (turned:Bool) (l2:List Qab) (i:Int) (x0:QaR) (r:ByteArray) (twice1:Bool):Prop:=QfX Γ rv ⟨[.c 125247,.b 1,.c 979,.l 244,.b 0,.c 31],⟨123,[vI 0 orders,vL 1 2 l QaR.enc,vS 2 word,vB 3 turned,vO 9 0 2 l2 Qab.enc,vI 10 i,vS 13 (catS (catS word Qde) r),vB 14 twice1],[oS 2 146 l2 Qab.enc]⟩⟩
def Qlg (Γ:Gam) (rv:List Qab) (orders:Int) (l:List QaR) (word:ByteArray) (turned:Bool) (l2:List Qab) (i:Int):Prop:=QfX Γ rv ⟨[.c 244,.l 244,.b 0,.c 31],⟨123,[vI 0 orders,vL 1 2 l QaR.enc,vS 2 word,vB 3 turned,vO 9 0 2 l2 Qab.enc,vI 10 i],[oS 2 146 l2 Qab.enc]⟩⟩
def Qka (Γ:Gam) (rv:List Qab) (orders:Int) (l:List QaR) (word:ByteArray) (turned:Bool) (l3:List Qab):Prop:=QfX Γ rv ⟨[.c 31],⟨123,[vO 9 0 2 l3 Qab.enc],[oS 2 146 l3 Qab.enc]⟩⟩
theorem Qqs (Γ:Gam) (rv:List Qab) {orders l word turned l2 i x0 r} {s:Bool×Int} {e:Bool} (h:QaT (fun s=>Qd0 orders l word turned l2 i x0 r s.1 s.2) s=some e) (hD:Qkb Γ rv orders l word turned l2 i x0 r e):Qlh Γ rv orders l word turned l2 i x0 r s.1 s.2:=by
 refine QaC (C:=fun (s:Bool×Int)=>Qlh Γ rv orders l word turned l2 i x0 r s.1 s.2) (D:=fun (e:Bool)=>Qkb Γ rv orders l word turned l2 i x0 r e) ?_ h hD
 clear h hD s e
 rintro ⟨twice,k⟩ z_ h hI hE
 replace h:Qd0 orders l word turned l2 i x0 r twice k=_:=h
 unfold Qd0 at h
 rcases Qah h with ⟨h9,h⟩|⟨h9,h⟩
 ·rcases Qah h with ⟨h10,h⟩|⟨h10,h⟩
  ·exact gn 11 [0,1,2,3,9,10,11,12,13,14,15] [0] [bT h9,rp 8 (bT h10),rp 7 kF,rp 2 (bT h10),tT,tT,rp 7 kF,tT,tT,rp 7 kF,tT,tT] (hI _ (oJ h))
  ·obtain ⟨x1,h11,h⟩:=Qae h
   rcases Qah h with ⟨h12,h⟩|⟨h12,h⟩
   ·rcases Qah h with ⟨h13,h⟩|⟨h13,h⟩
    ·exact gn 11 [0,1,2,3,9,10,11,12,13,14,15] [0] [bT h9,rp 3 (bF h10),cE QaR.enc h11,bF h10,oO (zL 0),oO (lT 0 2),rp 4 (bF h10),rp 3 (bT h12),cE QaR.enc h11,bT h12,oO (zL 1),oO (lT 1 2),rp 3 (bT h12),bF h10,bT h12,bF h10,rp 2 (bT h13),rp 7 kF,rp 2 (bT h13),rp 7 kF,rp 2 (bT h13)] (hI _ (oJ h))
    ·rcases Qah h with ⟨h14,h⟩|⟨h14,h⟩
     ·rcases Qah h with ⟨h15,h⟩|⟨h15,h⟩
      ·exact gn 11 [0,1,2,3,9,10,11,12,13,14,15] [0] [bT h9,rp 3 (bF h10),cE QaR.enc h11,bF h10,oO (zL 0),oO (lT 0 2),rp 4 (bF h10),rp 3 (bT h12),cE QaR.enc h11,bT h12,oO (zL 1),oO (lT 1 2),rp 3 (bT h12),bF h10,bT h12,bF h10,rp 2 (bF h13),rp 3 (bT h14),cE QaR.enc h11,bT h14,oO (zL 0),oO (lT 0 2),rp 3 (bT h14),bF h13,bT h14,bF h13,rp 3 (bT h15),cE QaR.enc h11,bT h15,oO (zL 1),oO (lT 1 2),rp 3 (bT h15),bF h13,bT h15,bF h13] (hI _ (oJ h))
      ·exact gn 11 [0,1,2,3,9,10,11,12,13,14,15] [0] [bT h9,rp 3 (bF h10),cE QaR.enc h11,bF h10,oO (zL 0),oO (lT 0 2),rp 4 (bF h10),rp 3 (bT h12),cE QaR.enc h11,bT h12,oO (zL 1),oO (lT 1 2),rp 3 (bT h12),bF h10,bT h12,bF h10,rp 2 (bF h13),rp 3 (bT h14),cE QaR.enc h11,bT h14,oO (zL 0),oO (lT 0 2),rp 3 (bT h14),bF h13,bT h14,bF h13,rp 7 (bF h15),bF h13,bF h15,bF h13] (hI _ (oJ h))
     ·exact gn 11 [0,1,2,3,9,10,11,12,13,14,15] [0] [bT h9,rp 3 (bF h10),cE QaR.enc h11,bF h10,oO (zL 0),oO (lT 0 2),rp 4 (bF h10),rp 3 (bT h12),cE QaR.enc h11,bT h12,oO (zL 1),oO (lT 1 2),rp 3 (bT h12),bF h10,bT h12,bF h10,rp 2 (bF h13),rp 7 (bF h14),bF h13,bF h14,bF h13,rp 7 fF,bF h13,fF,bF h13] (hI _ (oJ h))
   ·rcases Qah h with ⟨h16,h⟩|⟨h16,h⟩
    ·rcases Qah h with ⟨h17,h⟩|⟨h17,h⟩
     ·exact gn 11 [0,1,2,3,9,10,11,12,13,14,15] [0] [bT h9,rp 3 (bF h10),cE QaR.enc h11,bF h10,oO (zL 0),oO (lT 0 2),rp 4 (bF h10),rp 7 (bF h12),bF h10,bF h12,bF h10,fF,fF,rp 3 (bT h16),cE QaR.enc h11,bT h16,oO (zL 0),oO (lT 0 2),rp 3 (bT h16),fF,bT h16,fF,rp 3 (bT h17),cE QaR.enc h11,bT h17,oO (zL 1),oO (lT 1 2),rp 3 (bT h17),fF,bT h17,fF] (hI _ (oJ h))
     ·exact gn 11 [0,1,2,3,9,10,11,12,13,14,15] [0] [bT h9,rp 3 (bF h10),cE QaR.enc h11,bF h10,oO (zL 0),oO (lT 0 2),rp 4 (bF h10),rp 7 (bF h12),bF h10,bF h12,bF h10,fF,fF,rp 3 (bT h16),cE QaR.enc h11,bT h16,oO (zL 0),oO (lT 0 2),rp 3 (bT h16),fF,bT h16,fF,rp 7 (bF h17),fF,bF h17,fF] (hI _ (oJ h))
    ·exact gn 11 [0,1,2,3,9,10,11,12,13,14,15] [0] [bT h9,rp 3 (bF h10),cE QaR.enc h11,bF h10,oO (zL 0),oO (lT 0 2),rp 4 (bF h10),rp 7 (bF h12),bF h10,bF h12,bF h10,fF,fF,rp 7 (bF h16),fF,bF h16,rp 11 fF] (hI _ (oJ h))
 ·exact gn 5 [0,1,2,3,9,10,13,14] [0] [bF h9] (hE _ (oJ h))
theorem Qqr (Γ:Gam) (rv:List Qab) {orders l word turned} {s:List Qab×Int} {e:List Qab} (h:QaT (fun s=>QcT orders l word turned s.1 s.2) s=some e) (hD:Qka Γ rv orders l word turned e):Qlg Γ rv orders l word turned s.1 s.2:=by
 refine QaC (C:=fun (s:List Qab×Int)=>Qlg Γ rv orders l word turned s.1 s.2) (D:=fun (e:List Qab)=>Qka Γ rv orders l word turned e) ?_ h hD
 clear h hD s e
 rintro ⟨l2,i⟩ z_ h hI hE
 replace h:QcT orders l word turned l2 i=_:=h
 unfold QcT at h
 rcases Qah h with ⟨h2,h⟩|⟨h2,h⟩
 ·obtain ⟨x0,h3,h⟩:=Qae h
  obtain ⟨h4,h⟩:=Qav h
  obtain ⟨r,h5,h⟩:=Qae h
  obtain ⟨h6,h⟩:=Qav h
  rcases Qah h with ⟨h7,h⟩|⟨h7,h⟩
  ·obtain ⟨h8,h⟩:=Qav h
   exact gn 22 [0,1,2,3,9,10] [2] [nL QaR.enc l,bT h2,cE QaR.enc h3,oO (zL 0),oO (lT 0 2),cE QaR.enc h3,oO (zL 1),oO (lT 1 2),oO (h4),cC (Qgj h5),rp 15 hP,oO (h6),rp 2 (oI ((ltI x0.x0 0)=false)),oR True ((ltI x0.x0 0)=false),oI (((ltI x0.x0 0)||(geI x0.x0 orders))=false),oR True (((ltI x0.x0 0)||(geI x0.x0 orders))=false),rp 2 (oI ((((ltI x0.x0 0)||(geI x0.x0 orders))||(ltI x0.x1 0))=false)),oR True ((((ltI x0.x0 0)||(geI x0.x0 orders))||(ltI x0.x1 0))=false),rp 2 (oI (((((ltI x0.x0 0)||(geI x0.x0 orders))||(ltI x0.x1 0))||(geI x0.x1 orders))=false)),oR True (((((ltI x0.x0 0)||(geI x0.x0 orders))||(ltI x0.x1 0))||(geI x0.x1 orders))=false),bT h7,oO (Eq.refl ([(Qab.mk 2 (catS (catS word Qde) r))].map Qab.enc).length),aO Qab.enc h8] (hI _ (oJ h))
  ·obtain ⟨e0,h18,h⟩:=Qae h
   refine gn 25 [0,1,2,3,9,10,11,12,13,14,15] [0] [nL QaR.enc l,bT h2,cE QaR.enc h3,oO (zL 0),oO (lT 0 2),cE QaR.enc h3,oO (zL 1),oO (lT 1 2),oO (h4),cC (Qgj h5),rp 15 hP,oO (h6),rp 2 (oI ((ltI x0.x0 0)=false)),oR True ((ltI x0.x0 0)=false),oI (((ltI x0.x0 0)||(geI x0.x0 orders))=false),oR True (((ltI x0.x0 0)||(geI x0.x0 orders))=false),rp 2 (oI ((((ltI x0.x0 0)||(geI x0.x0 orders))||(ltI x0.x1 0))=false)),oR True ((((ltI x0.x0 0)||(geI x0.x0 orders))||(ltI x0.x1 0))=false),rp 2 (oI (((((ltI x0.x0 0)||(geI x0.x0 orders))||(ltI x0.x1 0))||(geI x0.x1 orders))=false)),oR True (((((ltI x0.x0 0)||(geI x0.x0 orders))||(ltI x0.x1 0))||(geI x0.x1 orders))=false),bF h7] (Qqs Γ rv h18 ?_)
   obtain ⟨twice1,rfl⟩:∃ x,x=e0:=⟨_,rfl⟩
   replace h:(br twice1 (chk (okN (l2++[(Qab.mk 6 (catS (catS word Qde) r))]).length 24) (some (.inl ((l2++[(Qab.mk 6 (catS (catS word Qde) r))]),(addK .i64 i 1))))) (some (.inl (l2,(addK .i64 i 1)))):Option ((List Qab×Int)⊕(List Qab)))=some _:=h
   rcases Qah h with ⟨h19,h⟩|⟨h19,h⟩
   ·obtain ⟨h20,h⟩:=Qav h
    exact gn 7 [0,1,2,3,9,10] [2] [bT h19,oO (Eq.refl ([(Qab.mk 6 (catS (catS word Qde) r))].map Qab.enc).length),aO Qab.enc h20] (hI _ (oJ h))
   ·exact gn 7 [0,1,2,3,9,10] [0] [bF h19] (hI _ (oJ h))
 ·exact gn 5 [9] [0] [nL QaR.enc l,bF h2] (hE _ (oJ h))
theorem Qj9 (Γ:Gam) (rv:List Qab) {orders l word turned l1} (h:Qfr orders l word turned l1=some rv):QfX Γ rv ⟨[.c 15],⟨123,[vI 0 orders,vL 1 2 l QaR.enc,vS 2 word,vB 3 turned,vO 9 0 2 l1 Qab.enc],[oS 2 146 l1 Qab.enc]⟩⟩:=by
 unfold Qfr at h
 obtain ⟨e1,h21,h⟩:=Qae h
 refine gn 5 [0,1,2,3,9,10] [0] [] (Qqr Γ rv h21 ?_)
 obtain ⟨l3,rfl⟩:∃ x,x=e1:=⟨_,rfl⟩
 replace h:(some l3:Option (List Qab))=some _:=h
 obtain rfl:=Option.some.inj h
 exact gr 2 [] [hW 4,hH (.frz 0),rp 3 (eL l3 Qab.enc)]
theorem QsU {orders l word turned} {rv:List Qab} (h:Qg0 orders l word turned=some rv):AFn Tryz.prog 93 [.one (lI orders),.one (lL 2 l QaR.enc),.one (.str word),.one (.bool turned)] [] (one (lL 2 rv Qab.enc)) []:=by
 refine QaM Tryz.func93 (by kernel_rfl) (by kernel_rfl) (fun Γ=>?_)
 unfold Qg0 at h
 rcases Qah h with ⟨h0,h⟩|⟨h0,h⟩
 ·obtain ⟨h1,h⟩:=Qav h
  exact gn 9 [0,1,2,3,9] [1] [nL QaR.enc l,bT h0,oO (Eq.refl ([(Qab.mk 4 word)].map Qab.enc).length),aN (l:=([(Qab.mk 4 word)]:List Qab)) Qab.enc h1] (Qj9 Γ rv h)
 ·exact gn 9 [0,1,2,3,9] [0] [nL QaR.enc l,bF h0,hW 1,hH (.adopt 9 2 146)] (Qj9 Γ rv h)
def QdU (Γ:Gam) (rv:List Qab) (cf:Cf):Prop:=Go Tryz.prog Tryz.f93 [] Γ (one (lO 0 2 rv Qab.enc)) [oS 2 146 rv Qab.enc] cf
def Qis (Γ:Gam) (rv:List Qab) (orders:Int) (l:List QaR) (word:ByteArray) (turned:Bool) (l2:List Qab) (i:Int) (x0:QaR) (r:ByteArray) (twice:Bool) (k:Int):Prop:=QdU Γ rv ⟨[.c 1001972,.l 1001972,.b 2,.c 125247,.b 1,.c 979,.l 244,.b 0,.c 31],⟨123,[vI 0 orders,vL 1 2 l QaR.enc,vS 2 word,vB 3 turned,vO 9 0 2 l2 Qab.enc,vI 10 i,vI 11 x0.x0,vI 12 x0.x1,vS 13 (catS (catS word Qde) r),vB 14 twice,vI 15 k],[oS 2 146 l2 Qab.enc]⟩⟩
def Qih (Γ:Gam) (rv:List Qab) (orders:Int) (l:List QaR) (word:ByteArray) (turned:Bool) (l2:List Qab) (i:Int) (x0:QaR) (r:ByteArray) (twice1:Bool):Prop:=QdU Γ rv ⟨[.c 125247,.b 1,.c 979,.l 244,.b 0,.c 31],⟨123,[vI 0 orders,vL 1 2 l QaR.enc,vS 2 word,vB 3 turned,vO 9 0 2 l2 Qab.enc,vI 10 i,vS 13 (catS (catS word Qde) r),vB 14 twice1],[oS 2 146 l2 Qab.enc]⟩⟩
def Qir (Γ:Gam) (rv:List Qab) (orders:Int) (l:List QaR) (word:ByteArray) (turned:Bool) (l2:List Qab) (i:Int):Prop:=QdU Γ rv ⟨[.c 244,.l 244,.b 0,.c 31],⟨123,[vI 0 orders,vL 1 2 l QaR.enc,vS 2 word,vB 3 turned,vO 9 0 2 l2 Qab.enc,vI 10 i],[oS 2 146 l2 Qab.enc]⟩⟩
def Qig (Γ:Gam) (rv:List Qab) (orders:Int) (l:List QaR) (word:ByteArray) (turned:Bool) (l3:List Qab):Prop:=QdU Γ rv ⟨[.c 31],⟨123,[vO 9 0 2 l3 Qab.enc],[oS 2 146 l3 Qab.enc]⟩⟩
theorem QnV (Γ:Gam) (rv:List Qab) {orders l word turned l2 i x0 r} {s:Bool×Int} {e:Bool} (h:QaT (fun s=>QeU orders l word turned l2 i x0 r s.1 s.2) s=some e) (hD:Qih Γ rv orders l word turned l2 i x0 r e):Qis Γ rv orders l word turned l2 i x0 r s.1 s.2:=by
 refine QaC (C:=fun (s:Bool×Int)=>Qis Γ rv orders l word turned l2 i x0 r s.1 s.2) (D:=fun (e:Bool)=>Qih Γ rv orders l word turned l2 i x0 r e) ?_ h hD
 clear h hD s e
 rintro ⟨twice,k⟩ z_ h hI hE
 replace h:QeU orders l word turned l2 i x0 r twice k=_:=h
 unfold QeU at h
 rcases Qah h with ⟨h9,h⟩|⟨h9,h⟩
 ·rcases Qah h with ⟨h10,h⟩|⟨h10,h⟩
  ·exact gn 11 [0,1,2,3,9,10,11,12,13,14,15] [0] [bT h9,rp 8 (bT h10),rp 7 kF,rp 2 (bT h10),tT,tT,rp 7 kF,tT,tT,rp 7 kF,tT,tT] (hI _ (oJ h))
  ·obtain ⟨x1,h11,h⟩:=Qae h
   rcases Qah h with ⟨h12,h⟩|⟨h12,h⟩
   ·rcases Qah h with ⟨h13,h⟩|⟨h13,h⟩
    ·exact gn 11 [0,1,2,3,9,10,11,12,13,14,15] [0] [bT h9,rp 3 (bF h10),cE QaR.enc h11,bF h10,oO (zL 0),oO (lT 0 2),rp 4 (bF h10),rp 3 (bT h12),cE QaR.enc h11,bT h12,oO (zL 1),oO (lT 1 2),rp 3 (bT h12),bF h10,bT h12,bF h10,rp 2 (bT h13),rp 7 kF,rp 2 (bT h13),rp 7 kF,rp 2 (bT h13)] (hI _ (oJ h))
    ·rcases Qah h with ⟨h14,h⟩|⟨h14,h⟩
     ·rcases Qah h with ⟨h15,h⟩|⟨h15,h⟩
      ·exact gn 11 [0,1,2,3,9,10,11,12,13,14,15] [0] [bT h9,rp 3 (bF h10),cE QaR.enc h11,bF h10,oO (zL 0),oO (lT 0 2),rp 4 (bF h10),rp 3 (bT h12),cE QaR.enc h11,bT h12,oO (zL 1),oO (lT 1 2),rp 3 (bT h12),bF h10,bT h12,bF h10,rp 2 (bF h13),rp 3 (bT h14),cE QaR.enc h11,bT h14,oO (zL 0),oO (lT 0 2),rp 3 (bT h14),bF h13,bT h14,bF h13,rp 3 (bT h15),cE QaR.enc h11,bT h15,oO (zL 1),oO (lT 1 2),rp 3 (bT h15),bF h13,bT h15,bF h13] (hI _ (oJ h))
      ·exact gn 11 [0,1,2,3,9,10,11,12,13,14,15] [0] [bT h9,rp 3 (bF h10),cE QaR.enc h11,bF h10,oO (zL 0),oO (lT 0 2),rp 4 (bF h10),rp 3 (bT h12),cE QaR.enc h11,bT h12,oO (zL 1),oO (lT 1 2),rp 3 (bT h12),bF h10,bT h12,bF h10,rp 2 (bF h13),rp 3 (bT h14),cE QaR.enc h11,bT h14,oO (zL 0),oO (lT 0 2),rp 3 (bT h14),bF h13,bT h14,bF h13,rp 7 (bF h15),bF h13,bF h15,bF h13] (hI _ (oJ h))
     ·exact gn 11 [0,1,2,3,9,10,11,12,13,14,15] [0] [bT h9,rp 3 (bF h10),cE QaR.enc h11,bF h10,oO (zL 0),oO (lT 0 2),rp 4 (bF h10),rp 3 (bT h12),cE QaR.enc h11,bT h12,oO (zL 1),oO (lT 1 2),rp 3 (bT h12),bF h10,bT h12,bF h10,rp 2 (bF h13),rp 7 (bF h14),bF h13,bF h14,bF h13,rp 7 fF,bF h13,fF,bF h13] (hI _ (oJ h))
   ·rcases Qah h with ⟨h16,h⟩|⟨h16,h⟩
    ·rcases Qah h with ⟨h17,h⟩|⟨h17,h⟩
     ·exact gn 11 [0,1,2,3,9,10,11,12,13,14,15] [0] [bT h9,rp 3 (bF h10),cE QaR.enc h11,bF h10,oO (zL 0),oO (lT 0 2),rp 4 (bF h10),rp 7 (bF h12),bF h10,bF h12,bF h10,fF,fF,rp 3 (bT h16),cE QaR.enc h11,bT h16,oO (zL 0),oO (lT 0 2),rp 3 (bT h16),fF,bT h16,fF,rp 3 (bT h17),cE QaR.enc h11,bT h17,oO (zL 1),oO (lT 1 2),rp 3 (bT h17),fF,bT h17,fF] (hI _ (oJ h))
     ·exact gn 11 [0,1,2,3,9,10,11,12,13,14,15] [0] [bT h9,rp 3 (bF h10),cE QaR.enc h11,bF h10,oO (zL 0),oO (lT 0 2),rp 4 (bF h10),rp 7 (bF h12),bF h10,bF h12,bF h10,fF,fF,rp 3 (bT h16),cE QaR.enc h11,bT h16,oO (zL 0),oO (lT 0 2),rp 3 (bT h16),fF,bT h16,fF,rp 7 (bF h17),fF,bF h17,fF] (hI _ (oJ h))
    ·exact gn 11 [0,1,2,3,9,10,11,12,13,14,15] [0] [bT h9,rp 3 (bF h10),cE QaR.enc h11,bF h10,oO (zL 0),oO (lT 0 2),rp 4 (bF h10),rp 7 (bF h12),bF h10,bF h12,bF h10,fF,fF,rp 7 (bF h16),fF,bF h16,rp 11 fF] (hI _ (oJ h))
 ·exact gn 5 [0,1,2,3,9,10,13,14] [0] [bF h9] (hE _ (oJ h))
theorem QnU (Γ:Gam) (rv:List Qab) {orders l word turned} {s:List Qab×Int} {e:List Qab} (h:QaT (fun s=>QeT orders l word turned s.1 s.2) s=some e) (hD:Qig Γ rv orders l word turned e):Qir Γ rv orders l word turned s.1 s.2:=by
 refine QaC (C:=fun (s:List Qab×Int)=>Qir Γ rv orders l word turned s.1 s.2) (D:=fun (e:List Qab)=>Qig Γ rv orders l word turned e) ?_ h hD
 clear h hD s e
 rintro ⟨l2,i⟩ z_ h hI hE
 replace h:QeT orders l word turned l2 i=_:=h
 unfold QeT at h
 rcases Qah h with ⟨h2,h⟩|⟨h2,h⟩
 ·obtain ⟨x0,h3,h⟩:=Qae h
  obtain ⟨h4,h⟩:=Qav h
  obtain ⟨r,h5,h⟩:=Qae h
  obtain ⟨h6,h⟩:=Qav h
  rcases Qah h with ⟨h7,h⟩|⟨h7,h⟩
  ·obtain ⟨h8,h⟩:=Qav h
   exact gn 22 [0,1,2,3,9,10] [2] [nL QaR.enc l,bT h2,cE QaR.enc h3,oO (zL 0),oO (lT 0 2),cE QaR.enc h3,oO (zL 1),oO (lT 1 2),oO (h4),cC (Qgj h5),rp 15 hP,oO (h6),rp 2 (oI ((ltI x0.x0 0)=false)),oR True ((ltI x0.x0 0)=false),oI (((ltI x0.x0 0)||(geI x0.x0 orders))=false),oR True (((ltI x0.x0 0)||(geI x0.x0 orders))=false),rp 2 (oI ((((ltI x0.x0 0)||(geI x0.x0 orders))||(ltI x0.x1 0))=false)),oR True ((((ltI x0.x0 0)||(geI x0.x0 orders))||(ltI x0.x1 0))=false),rp 2 (oI (((((ltI x0.x0 0)||(geI x0.x0 orders))||(ltI x0.x1 0))||(geI x0.x1 orders))=false)),oR True (((((ltI x0.x0 0)||(geI x0.x0 orders))||(ltI x0.x1 0))||(geI x0.x1 orders))=false),bT h7,oO (Eq.refl ([(Qab.mk 2 (catS (catS word Qde) r))].map Qab.enc).length),aO Qab.enc h8] (hI _ (oJ h))
  ·obtain ⟨e0,h18,h⟩:=Qae h
   refine gn 25 [0,1,2,3,9,10,11,12,13,14,15] [0] [nL QaR.enc l,bT h2,cE QaR.enc h3,oO (zL 0),oO (lT 0 2),cE QaR.enc h3,oO (zL 1),oO (lT 1 2),oO (h4),cC (Qgj h5),rp 15 hP,oO (h6),rp 2 (oI ((ltI x0.x0 0)=false)),oR True ((ltI x0.x0 0)=false),oI (((ltI x0.x0 0)||(geI x0.x0 orders))=false),oR True (((ltI x0.x0 0)||(geI x0.x0 orders))=false),rp 2 (oI ((((ltI x0.x0 0)||(geI x0.x0 orders))||(ltI x0.x1 0))=false)),oR True ((((ltI x0.x0 0)||(geI x0.x0 orders))||(ltI x0.x1 0))=false),rp 2 (oI (((((ltI x0.x0 0)||(geI x0.x0 orders))||(ltI x0.x1 0))||(geI x0.x1 orders))=false)),oR True (((((ltI x0.x0 0)||(geI x0.x0 orders))||(ltI x0.x1 0))||(geI x0.x1 orders))=false),bF h7] (QnV Γ rv h18 ?_)
   obtain ⟨twice1,rfl⟩:∃ x,x=e0:=⟨_,rfl⟩
   replace h:(br twice1 (chk (okN (l2++[(Qab.mk 6 (catS (catS word Qde) r))]).length 24) (some (.inl ((l2++[(Qab.mk 6 (catS (catS word Qde) r))]),(addK .i64 i 1))))) (some (.inl (l2,(addK .i64 i 1)))):Option ((List Qab×Int)⊕(List Qab)))=some _:=h
   rcases Qah h with ⟨h19,h⟩|⟨h19,h⟩
   ·obtain ⟨h20,h⟩:=Qav h
    exact gn 7 [0,1,2,3,9,10] [2] [bT h19,oO (Eq.refl ([(Qab.mk 6 (catS (catS word Qde) r))].map Qab.enc).length),aO Qab.enc h20] (hI _ (oJ h))
   ·exact gn 7 [0,1,2,3,9,10] [0] [bF h19] (hI _ (oJ h))
 ·exact gn 5 [9] [0] [nL QaR.enc l,bF h2] (hE _ (oJ h))
theorem Qif (Γ:Gam) (rv:List Qab) {orders l word turned l1} (h:QeS orders l word turned l1=some rv):QdU Γ rv ⟨[.c 15],⟨123,[vI 0 orders,vL 1 2 l QaR.enc,vS 2 word,vB 3 turned,vO 9 0 2 l1 Qab.enc],[oS 2 146 l1 Qab.enc]⟩⟩:=by
 unfold QeS at h
 obtain ⟨e1,h21,h⟩:=Qae h
 refine gn 5 [0,1,2,3,9,10] [0] [] (QnU Γ rv h21 ?_)
 obtain ⟨l3,rfl⟩:∃ x,x=e1:=⟨_,rfl⟩
 replace h:(some l3:Option (List Qab))=some _:=h
 obtain rfl:=Option.some.inj h
 exact gr 2 [0] []
theorem QpK {orders l word turned} {rv:List Qab} (h:Qij orders l word turned=some rv):AFn Tryz.prog 93 [.one (lI orders),.one (lL 2 l QaR.enc),.one (.str word),.one (.bool turned)] [] (one (lO 0 2 rv Qab.enc)) [oS 2 146 rv Qab.enc]:=by
 refine QaM Tryz.func93 (by kernel_rfl) (by kernel_rfl) (fun Γ=>?_)
 unfold Qij at h
 rcases Qah h with ⟨h0,h⟩|⟨h0,h⟩
 ·obtain ⟨h1,h⟩:=Qav h
  exact gn 9 [0,1,2,3,9] [1] [nL QaR.enc l,bT h0,oO (Eq.refl ([(Qab.mk 4 word)].map Qab.enc).length),aN (l:=([(Qab.mk 4 word)]:List Qab)) Qab.enc h1] (Qif Γ rv h)
 ·exact gn 9 [0,1,2,3,9] [0] [nL QaR.enc l,bF h0,hW 1,hH (.adopt 9 2 146)] (Qif Γ rv h)
theorem Qtp {orders apart before} {rv:List Qab} (h:QhO orders apart before=some rv):AFn Tryz.prog 62 [.one (lI orders),.one (lL 2 apart QaR.enc),.one (lL 2 before QaR.enc)] [] (one (lL 2 rv Qab.enc)) []:=by
 refine QaM Tryz.func62 (by kernel_rfl) (by kernel_rfl) (fun Γ=>?_)
 unfold QhO at h
 obtain ⟨r,h0,h⟩:=Qae h
 obtain ⟨r1,h1,h⟩:=Qae h
 obtain ⟨h2,h⟩:=Qav h
 obtain rfl:=Option.some.inj h
 exact gr 6 [] [cC (QpK h0),cC (QsU h1),aO Qab.enc h2,hW 1,hH (.frz 1),rp 2 (oO (Eq.refl ((r++r1).map Qab.enc).length))]
def QhR (Γ:Gam) (rv:List Qab) (cf:Cf):Prop:=Go Tryz.prog Tryz.f57 [] Γ (one (lO 0 2 rv Qab.enc)) [oS 2 146 rv Qab.enc] cf
def Qgv (Γ:Gam) (rv:List Qab) (word:ByteArray) (l:List Qab) (l1:List Qab) (i:Int):Prop:=QhR Γ rv ⟨[.c 116,.l 116,.b 0,.c 15],⟨40,[vS 0 word,vL 1 2 l Qab.enc,vO 5 0 2 l1 Qab.enc,vI 6 i],[oS 2 146 l1 Qab.enc]⟩⟩
def Qga (Γ:Gam) (rv:List Qab) (word:ByteArray) (l:List Qab) (l2:List Qab):Prop:=QhR Γ rv ⟨[.c 15],⟨40,[vO 5 0 2 l2 Qab.enc],[oS 2 146 l2 Qab.enc]⟩⟩
theorem Qit (Γ:Gam) (rv:List Qab) {word l l1 i at_} {x:(List Qab×Int)⊕(List Qab)} (h:Qfw word l l1 i at_=some x) (hI:∀ s:List Qab×Int,x=.inl s→Qgv Γ rv word l s.1 s.2) (hE:∀ e:List Qab,x=.inr e→Qga Γ rv word l e):QhR Γ rv ⟨[.c 3731,.b 1,.c 467,.l 116,.b 0,.c 15],⟨40,[vS 0 word,vL 1 2 l Qab.enc,vO 5 0 2 l1 Qab.enc,vI 6 i,vS 7 at_],[oS 2 146 l1 Qab.enc]⟩⟩:=by
 unfold Qfw at h
 obtain ⟨x1,h5,h⟩:=Qae h
 obtain ⟨h6,h⟩:=Qav h
 exact gn 4 [0,1,5,6] [2] [cE Qab.enc h5,oO (Eq.refl ([(Qab.mk x1.err at_)].map Qab.enc).length),aO Qab.enc h6] (hI _ (oJ h))
theorem QoB (Γ:Gam) (rv:List Qab) {word l} {s:List Qab×Int} {e:List Qab} (h:QaT (fun s=>Qfx word l s.1 s.2) s=some e) (hD:Qga Γ rv word l e):Qgv Γ rv word l s.1 s.2:=by
 refine QaC (C:=fun (s:List Qab×Int)=>Qgv Γ rv word l s.1 s.2) (D:=fun (e:List Qab)=>Qga Γ rv word l e) ?_ h hD
 clear h hD s e
 rintro ⟨l1,i⟩ z_ h hI hE
 replace h:Qfx word l l1 i=_:=h
 unfold Qfx at h
 rcases Qah h with ⟨h0,h⟩|⟨h0,h⟩
 ·obtain ⟨x0,h1,h⟩:=Qae h
  rcases Qah h with ⟨h2,h⟩|⟨h2,h⟩
  ·exact gn 14 [0,1,5,6,7] [0] [nL Qab.enc l,bT h0,cE Qab.enc h1,nF h2] (Qit Γ rv h hI hE)
  ·obtain ⟨h3,h⟩:=Qav h
   obtain ⟨h4,h⟩:=Qav h
   exact gn 14 [0,1,5,6,7] [0] [nL Qab.enc l,bT h0,cE Qab.enc h1,nT h2,oO (h3),cE Qab.enc h1,oO (h4)] (Qit Γ rv h hI hE)
 ·exact gn 5 [5] [0] [nL Qab.enc l,bF h0] (hE _ (oJ h))
theorem Qqt {word l} {rv:List Qab} (h:QgO word l=some rv):AFn Tryz.prog 57 [.one (.str word),.one (lL 2 l Qab.enc)] [] (one (lO 0 2 rv Qab.enc)) [oS 2 146 rv Qab.enc]:=by
 refine QaM Tryz.func57 (by kernel_rfl) (by kernel_rfl) (fun Γ=>?_)
 unfold QgO at h
 obtain ⟨e0,h7,h⟩:=Qae h
 refine gn 9 [0,1,5,6] [0] [hW 12,hH (.adopt 5 2 146)] (QoB Γ rv h7 ?_)
 obtain ⟨l2,rfl⟩:∃ x,x=e0:=⟨_,rfl⟩
 replace h:(some l2:Option (List Qab))=some _:=h
 obtain rfl:=Option.some.inj h
 exact gr 2 [0] []
theorem Qtq {x0} {rv:List Qab} (h:QhP x0=some rv):AFn Tryz.prog 23 [.agg (Qac.enc x0)] [] (one (lL 2 rv Qab.enc)) []:=by
 refine QaM Tryz.func23 (by kernel_rfl) (by kernel_rfl) (fun Γ=>?_)
 unfold QhP at h
 obtain ⟨r,h0,h⟩:=Qae h
 obtain ⟨r1,h1,h⟩:=Qae h
 obtain ⟨r2,h2,h⟩:=Qae h
 obtain ⟨r3,h3,h⟩:=Qae h
 obtain ⟨h4,h⟩:=Qav h
 obtain ⟨r4,h5,h⟩:=Qae h
 obtain ⟨r5,h6,h⟩:=Qae h
 obtain ⟨r6,h7,h⟩:=Qae h
 obtain ⟨h8,h⟩:=Qav h
 obtain ⟨r7,h9,h⟩:=Qae h
 obtain ⟨r8,h10,h⟩:=Qae h
 obtain ⟨h11,h⟩:=Qav h
 obtain rfl:=Option.some.inj h
 exact gr 12 [] [cC (Qtj h0),cC (Qqt h1),cC (Qtk h2),cC (QjB h3),aO Qab.enc h4,hH (.draw 13 []),cC (Qgs h5),nL Qal.enc x0.types,cC (Qtm h6),cC (QjB h7),aO Qab.enc h8,nL Qag.enc x0.orders,cC (Qtp h9),cC (QjB h10),aO Qab.enc h11,hW 5,hH (.frz 4),rp 4 (oO (Eq.refl ((((r1++r3)++r6)++r8).map Qab.enc).length))]
theorem Qhn {x0} {rv:Bool} (h:QhG x0=some rv):AFn Tryz.prog 8 [.agg (Qac.enc x0)] [] (one (.bool rv)) []:=by
 refine QaM Tryz.func8 (by kernel_rfl) (by kernel_rfl) (fun Γ=>?_)
 unfold QhG at h
 obtain ⟨r,h0,h⟩:=Qae h
 obtain rfl:=Option.some.inj h
 exact gr 4 [] [cC (Qtq h0),nL Qab.enc r]
theorem Qic {l at_} {rv:Bool} (h:QmY l at_=some rv):AFn Tryz.prog 47 [.one (lL 16 l Qag.enc),.one (lI at_)] [] (one (.bool rv)) []:=by
 refine QaM Tryz.func47 (by kernel_rfl) (by kernel_rfl) (fun Γ=>?_)
 unfold QmY at h
 obtain rfl:=Option.some.inj h
 exact gr 4 [] [hP,hP,hP,oI ((geI at_ 0)=true),nL Qag.enc l,hP,hP,rp 2 (oI ((geI at_ 0)=true)),oR True ((geI at_ 0)=true)]
def QwK (Γ:Gam) (rv:List Qaa) (cf:Cf):Prop:=Go Tryz.prog Tryz.f16 [] Γ (one (lL 2 rv Qaa.enc)) [] cf
theorem Qpp (Γ:Gam) (rv:List Qaa) {l at_ l1} (h:Qhe l at_ l1=some rv):QwK Γ rv ⟨[.c 31],⟨35,[vL 0 16 l Qag.enc,vI 1 at_,vO 5 0 2 l1 Qaa.enc],[oS 2 52 l1 Qaa.enc]⟩⟩:=by
 unfold Qhe at h
 obtain ⟨x1,h5,h⟩:=Qae h
 rcases Qah h with ⟨h6,h⟩|⟨h6,h⟩
 ·obtain ⟨h7,h⟩:=Qav h
  obtain rfl:=Option.some.inj h
  exact gr 7 [] [cE Qag.enc h5,bT h6,oO (Eq.refl ([(Qaa.mk at_ true)].map Qaa.enc).length),aO Qaa.enc h7,hW 5,hH (.frz 2),rp 4 (oO (Eq.refl ((l1++[(Qaa.mk at_ true)]).map Qaa.enc).length))]
 ·obtain rfl:=Option.some.inj h
  exact gr 7 [] [cE Qag.enc h5,bF h6,hW 5,hH (.frz 0),rp 3 (eL l1 Qaa.enc)]
theorem QoF {l at_} {rv:List Qaa} (h:Qkx l at_=some rv):AFn Tryz.prog 16 [.one (lL 16 l Qag.enc),.one (lI at_)] [] (one (lL 2 rv Qaa.enc)) []:=by
 refine QaM Tryz.func16 (by kernel_rfl) (by kernel_rfl) (fun Γ=>?_)
 unfold Qkx at h
 obtain ⟨r,h0,h⟩:=Qae h
 rcases Qah h with ⟨h1,h⟩|⟨h1,h⟩
 ·obtain ⟨x0,h2,h⟩:=Qae h
  rcases Qah h with ⟨h3,h⟩|⟨h3,h⟩
  ·obtain ⟨h4,h⟩:=Qav h
   exact gn 14 [0,1,5] [1] [cC (Qic h0),nF h1,cE Qag.enc h2,bT h3,oO (Eq.refl ([(Qaa.mk at_ false)].map Qaa.enc).length),aN (l:=([(Qaa.mk at_ false)]:List Qaa)) Qaa.enc h4] (Qpp Γ rv h)
  ·exact gn 14 [0,1,5] [0] [cC (Qic h0),nF h1,cE Qag.enc h2,bF h3,hW 1,hH (.adopt 5 2 52)] (Qpp Γ rv h)
 ·obtain rfl:=Option.some.inj h
  exact gr 10 [] [cC (Qic h0),nT h1,hW 3,hH (.nilS 4 0 2)]
def Qe5 (Γ:Gam) (rv:Int) (cf:Cf):Prop:=Go Tryz.prog Tryz.f162 [] Γ (one (lI rv)) [] cf
def Qes (Γ:Gam) (rv:Int) (s0:List Qaa) (v:Qaa) (v1:Int):Prop:=Qe5 Γ rv ⟨[.c 52,.l 52,.b 0,.c 7],⟨19,[vL 0 2 s0 Qaa.enc,vP 3 0 2,vI 7 (lenI s0),vI 8 v1],[oX 2 52 (Qaa.enc v)]⟩⟩
def Qd8 (Γ:Gam) (rv:Int) (s0:List Qaa) (v:Qaa):Prop:=Qe5 Γ rv ⟨[.c 7],⟨19,[],[]⟩⟩
theorem QhD (Γ:Gam) (rv:Int) {s0 v} {s:Int} {e:(Unit)⊕(Int)} (h:QaT (fun s=>QaQ s0 v s) s=some e) (hD:sel e (fun e=>Qd8 Γ rv s0 v) (fun e=>e=rv)):Qes Γ rv s0 v s:=by
 refine QaC (C:=fun (s:Int)=>Qes Γ rv s0 v s) (D:=fun (e:(Unit)⊕(Int))=>sel e (fun e=>Qd8 Γ rv s0 v) (fun e=>e=rv)) ?_ h hD
 clear h hD s e
 intro v1 z_ h hI hE
 replace h:QaQ s0 v v1=_:=h
 unfold QaQ at h
 rcases Qah h with ⟨h0,h⟩|⟨h0,h⟩
 ·obtain ⟨x0,h1,h⟩:=Qae h
  rcases Qah h with ⟨h2,h⟩|⟨h2,h⟩
  ·obtain rfl:=(hE _ (oJ h):_=rv)
   exact gr 14 [] [bT h0,hH (.draw 6 []),cE Qaa.enc h1,bT h2]
  ·exact gn 16 [0,3,7,8] [0] [bT h0,hH (.draw 6 []),cE Qaa.enc h1,bF h2] (hI _ (oJ h))
 ·exact gn 5 [] [] [bF h0] (hE _ (oJ h))
theorem QeP {s0 v} {rv:Int} (h:Qbq s0 v=some rv):AFn Tryz.prog 162 [.one (lL 2 s0 Qaa.enc),.agg (Qaa.enc v)] [] (one (lI rv)) []:=by
 refine QaM Tryz.func162 (by kernel_rfl) (by kernel_rfl) (fun Γ=>?_)
 unfold Qbq at h
 obtain ⟨e0,h3,h⟩:=Qae h
 refine gn 7 [0,3,7,8] [0] [nL Qaa.enc s0] (QhD Γ rv h3 ?_)
 rcases e0 with e0|e0
 ·replace h:(some (-1):Option Int)=some _:=h
  obtain rfl:=Option.some.inj h
  exact gr 2 [] []
 ·obtain ⟨r,rfl⟩:∃ x,x=e0:=⟨_,rfl⟩
  replace h:(some r:Option Int)=some _:=h
  exact Option.some.inj h
theorem QiN {l v} {rv:Int} (h:QgS l v=some rv):AFn Tryz.prog 134 [.one (lL 2 l Qaa.enc),.agg (Qaa.enc v)] [] (one (lI rv)) []:=by
 refine QaM Tryz.func134 (by kernel_rfl) (by kernel_rfl) (fun Γ=>?_)
 unfold QgS at h
 obtain ⟨r,h0,h⟩:=Qae h
 obtain rfl:=Option.some.inj h
 exact gr 4 [] [cC (QeP h0)]
def QrE (Γ:Gam) (rv:Bool) (cf:Cf):Prop:=Go Tryz.prog Tryz.f105 [] Γ (one (.bool rv)) [] cf
def Qoy (Γ:Gam) (rv:Bool) (l:List Qaa) (v:Int):Prop:=QrE Γ rv ⟨[.c 52,.l 52,.b 0,.c 7],⟨19,[vL 0 2 l Qaa.enc,vL 5 2 l Qaa.enc,vI 6 (lenI l),vI 7 v],[]⟩⟩
def QnN (Γ:Gam) (rv:Bool) (l:List Qaa):Prop:=QrE Γ rv ⟨[.c 7],⟨19,[],[]⟩⟩
theorem Qs0 (Γ:Gam) (rv:Bool) {l} {s:Int} {e:(Unit)⊕(Bool)} (h:QaT (fun s=>Qdu l s) s=some e) (hD:sel e (fun e=>QnN Γ rv l) (fun e=>e=rv)):Qoy Γ rv l s:=by
 refine QaC (C:=fun (s:Int)=>Qoy Γ rv l s) (D:=fun (e:(Unit)⊕(Bool))=>sel e (fun e=>QnN Γ rv l) (fun e=>e=rv)) ?_ h hD
 clear h hD s e
 intro v z_ h hI hE
 replace h:Qdu l v=_:=h
 unfold Qdu at h
 rcases Qah h with ⟨h0,h⟩|⟨h0,h⟩
 ·obtain ⟨x0,h1,h⟩:=Qae h
  obtain ⟨l1,h2,h⟩:=Qae h
  obtain ⟨r,h3,h⟩:=Qae h
  rcases Qah h with ⟨h4,h⟩|⟨h4,h⟩
  ·obtain rfl:=(hE _ (oJ h):_=rv)
   exact gr 14 [] [bT h0,cE Qaa.enc h1,hH (.draw 6 []),hH (.rows (l1.map Qaa.enc)),oO (sl1 h2),oO (sl2 h2),oO (sl3 Qaa.enc h2),oO (Int.le_refl v),oO (sl3 Qaa.enc h2),oO (sl6 Qaa.enc h2),cC (QiN h3),bT h4]
  ·exact gn 16 [0,5,6,7] [] [bT h0,cE Qaa.enc h1,hH (.draw 6 []),hH (.rows (l1.map Qaa.enc)),oO (sl1 h2),oO (sl2 h2),oO (sl3 Qaa.enc h2),oO (Int.le_refl v),oO (sl3 Qaa.enc h2),oO (sl6 Qaa.enc h2),cC (QiN h3),bF h4] (hI _ (oJ h))
 ·exact gn 5 [] [] [bF h0] (hE _ (oJ h))
theorem QlV {l} {rv:Bool} (h:QjP l=some rv):AFn Tryz.prog 105 [.one (lL 2 l Qaa.enc)] [] (one (.bool rv)) []:=by
 refine QaM Tryz.func105 (by kernel_rfl) (by kernel_rfl) (fun Γ=>?_)
 unfold QjP at h
 obtain ⟨e0,h5,h⟩:=Qae h
 refine gn 7 [0,5,6,7] [] [nL Qaa.enc l] (Qs0 Γ rv h5 ?_)
 rcases e0 with e0|e0
 ·replace h:(some false:Option Bool)=some _:=h
  obtain rfl:=Option.some.inj h
  exact gr 2 [] []
 ·obtain ⟨r1,rfl⟩:∃ x,x=e0:=⟨_,rfl⟩
  replace h:(some r1:Option Bool)=some _:=h
  exact Option.some.inj h
theorem Qd7 {s0 v} {rv:Bool} (h:Qbx s0 v=some rv):AFn Tryz.prog 135 [.one (lL 2 s0 Qaa.enc),.agg (Qaa.enc v)] [] (one (.bool rv)) []:=by
 refine QaM Tryz.func135 (by kernel_rfl) (by kernel_rfl) (fun Γ=>?_)
 unfold Qbx at h
 obtain ⟨r,h0,h⟩:=Qae h
 obtain rfl:=Option.some.inj h
 exact gr 4 [] [cC (QeP h0)]
def QiM (Γ:Gam) (rv:Bool) (cf:Cf):Prop:=Go Tryz.prog Tryz.f106 [] Γ (one (.bool rv)) [] cf
def QnM (Γ:Gam) (rv:Bool) (x0:Qac) (l:List Qaa) (v:Int) (r:List Qaa) (last_:Int) (v1:Int):Prop:=QiM Γ rv ⟨[.c 108156,.l 108156,.b 2,.b 1,.c 423,.l 52,.b 0,.c 7],⟨42,[vL 1 2 l Qaa.enc,vP 2 0 6,vI 8 last_,vL 12 2 l Qaa.enc,vI 13 (lenI l),vI 14 v,vL 27 2 r Qaa.enc,vI 28 (lenI r),vI 29 v1],[oX 6 30 (Qac.enc x0)]⟩⟩
def QmM (Γ:Gam) (rv:Bool) (x0:Qac) (l:List Qaa) (v:Int) (r:List Qaa):Prop:=QiM Γ rv ⟨[.b 1,.c 423,.l 52,.b 0,.c 7],⟨42,[vL 1 2 l Qaa.enc,vP 2 0 6,vL 12 2 l Qaa.enc,vI 13 (lenI l),vI 14 v],[oX 6 30 (Qac.enc x0)]⟩⟩
def QnL (Γ:Gam) (rv:Bool) (x0:Qac) (l:List Qaa) (v:Int):Prop:=QiM Γ rv ⟨[.c 52,.l 52,.b 0,.c 7],⟨42,[vL 1 2 l Qaa.enc,vP 2 0 6,vL 12 2 l Qaa.enc,vI 13 (lenI l),vI 14 v],[oX 6 30 (Qac.enc x0)]⟩⟩
def QmL (Γ:Gam) (rv:Bool) (x0:Qac) (l:List Qaa):Prop:=QiM Γ rv ⟨[.c 7],⟨42,[],[]⟩⟩
theorem Qsn (Γ:Gam) (rv:Bool) {x0 l v r} {s:Int×Int} {e:(Unit)⊕(Bool)} (h:QaT (fun s=>Qbl x0 l v r s.1 s.2) s=some e) (hD:sel e (fun e=>QmM Γ rv x0 l v r) (fun e=>e=rv)):QnM Γ rv x0 l v r s.1 s.2:=by
 refine QaC (C:=fun (s:Int×Int)=>QnM Γ rv x0 l v r s.1 s.2) (D:=fun (e:(Unit)⊕(Bool))=>sel e (fun e=>QmM Γ rv x0 l v r) (fun e=>e=rv)) ?_ h hD
 clear h hD s e
 rintro ⟨last_,v1⟩ z_ h hI hE
 replace h:Qbl x0 l v r last_ v1=_:=h
 unfold Qbl at h
 rcases Qah h with ⟨h5,h⟩|⟨h5,h⟩
 ·obtain ⟨x2,h6,h⟩:=Qae h
  obtain ⟨r2,h7,h⟩:=Qae h
  rcases Qah h with ⟨h8,h⟩|⟨h8,h⟩
  ·obtain rfl:=(hE _ (oJ h):_=rv)
   exact gr 17 [] [bT h5,cE Qaa.enc h6,cC (QiN h7),bT h8]
  ·exact gn 20 [1,2,8,12,13,14,27,28,29] [0] [bT h5,cE Qaa.enc h6,cC (QiN h7),bF h8] (hI _ (oJ h))
 ·exact gn 5 [1,2,12,13,14] [0] [bF h5] (hE _ (oJ h))
theorem Qsm (Γ:Gam) (rv:Bool) {x0 l} {s:Int} {e:(Unit)⊕(Bool)} (h:QaT (fun s=>Qc8 x0 l s) s=some e) (hD:sel e (fun e=>QmL Γ rv x0 l) (fun e=>e=rv)):QnL Γ rv x0 l s:=by
 refine QaC (C:=fun (s:Int)=>QnL Γ rv x0 l s) (D:=fun (e:(Unit)⊕(Bool))=>sel e (fun e=>QmL Γ rv x0 l) (fun e=>e=rv)) ?_ h hD
 clear h hD s e
 intro v z_ h hI hE
 replace h:Qc8 x0 l v=_:=h
 unfold Qc8 at h
 rcases Qah h with ⟨h0,h⟩|⟨h0,h⟩
 ·obtain ⟨x1,h1,h⟩:=Qae h
  obtain ⟨r,h2,h⟩:=Qae h
  obtain ⟨r1,h3,h⟩:=Qae h
  rcases Qah h with ⟨h4,h⟩|⟨h4,h⟩
  ·obtain ⟨e0,h9,h⟩:=Qae h
   refine gn 22 [1,2,8,12,13,14,27,28,29] [0] [bT h0,cE Qaa.enc h1,cC (QoF h2),cC (Qd7 h3),nF h4,nL Qaa.enc r] (Qsn Γ rv h9 ?_)
   rcases e0 with e0|e0
   ·replace h:(some (.inl (addK .i64 v 1)):Option ((Int)⊕((Unit)⊕(Bool))))=some _:=h
    exact gn 3 [1,2,12,13,14] [0] [] (hI _ (oJ h))
   ·obtain ⟨r3,rfl⟩:∃ x,x=e0:=⟨_,rfl⟩
    replace h:(some (.inr (.inr r3)):Option ((Int)⊕((Unit)⊕(Bool))))=some _:=h
    exact (hE _ (oJ h):_=rv)
  ·obtain rfl:=(hE _ (oJ h):_=rv)
   exact gr 17 [] [bT h0,cE Qaa.enc h1,cC (QoF h2),cC (Qd7 h3),nT h4]
 ·exact gn 5 [] [] [bF h0] (hE _ (oJ h))
theorem Qpv {x0 l} {rv:Bool} (h:QiD x0 l=some rv):AFn Tryz.prog 106 [.agg (Qac.enc x0),.one (lL 2 l Qaa.enc)] [] (one (.bool rv)) []:=by
 refine QaM Tryz.func106 (by kernel_rfl) (by kernel_rfl) (fun Γ=>?_)
 unfold QiD at h
 obtain ⟨e1,h10,h⟩:=Qae h
 refine gn 7 [1,2,12,13,14] [0] [nL Qaa.enc l] (Qsm Γ rv h10 ?_)
 rcases e1 with e1|e1
 ·replace h:(some true:Option Bool)=some _:=h
  obtain rfl:=Option.some.inj h
  exact gr 2 [] []
 ·obtain ⟨r4,rfl⟩:∃ x,x=e1:=⟨_,rfl⟩
  replace h:(some r4:Option Bool)=some _:=h
  exact Option.some.inj h
theorem Qqj {v c} {rv:Bool} (h:QmR v c=some rv):AFn Tryz.prog 136 [.agg (Qaa.enc v),.one (.ip [lI c] 0)] [] (one (.bool rv)) []:=by
 refine QaM Tryz.func136 (by kernel_rfl) (by kernel_rfl) (fun Γ=>?_)
 unfold QmR at h
 obtain rfl:=Option.some.inj h
 exact gr 4 [] []
def Qdv (Γ:Gam) (rv:Int) (cf:Cf):Prop:=Go Tryz.prog Tryz.f94 [] Γ (one (lI rv)) [] cf
def Qdc (Γ:Gam) (rv:Int) (s0:List Qaa) (c:Int) (v:Int):Prop:=Qdv Γ rv ⟨[.c 52,.l 52,.b 0,.c 7],⟨19,[vL 0 2 s0 Qaa.enc,(1,one (.fn (.func 136) [.ip [lI c] 0])),vI 7 (lenI s0),vI 8 v],[]⟩⟩
def Qc1 (Γ:Gam) (rv:Int) (s0:List Qaa) (c:Int):Prop:=Qdv Γ rv ⟨[.c 7],⟨19,[],[]⟩⟩
theorem QfB (Γ:Gam) (rv:Int) {s0 c} {s:Int} {e:(Unit)⊕(Int)} (h:QaT (fun s=>QaI s0 c s) s=some e) (hD:sel e (fun e=>Qc1 Γ rv s0 c) (fun e=>e=rv)):Qdc Γ rv s0 c s:=by
 refine QaC (C:=fun (s:Int)=>Qdc Γ rv s0 c s) (D:=fun (e:(Unit)⊕(Int))=>sel e (fun e=>Qc1 Γ rv s0 c) (fun e=>e=rv)) ?_ h hD
 clear h hD s e
 intro v z_ h hI hE
 replace h:QaI s0 c v=_:=h
 unfold QaI at h
 rcases Qah h with ⟨h0,h⟩|⟨h0,h⟩
 ·obtain ⟨x0,h1,h⟩:=Qae h
  obtain ⟨r,h2,h⟩:=Qae h
  rcases Qah h with ⟨h3,h⟩|⟨h3,h⟩
  ·obtain rfl:=(hE _ (oJ h):_=rv)
   exact gr 14 [] [bT h0,cE Qaa.enc h1,cC (Qqj h2),bT h3]
  ·exact gn 16 [0,1,7,8] [] [bT h0,cE Qaa.enc h1,cC (Qqj h2),bF h3] (hI _ (oJ h))
 ·exact gn 5 [] [] [bF h0] (hE _ (oJ h))
theorem Qgf {s0 c} {rv:Int} (h:Qba s0 c=some rv):AFn Tryz.prog 94 [.one (lL 2 s0 Qaa.enc),.one (.fn (.func 136) [.ip [lI c] 0])] [] (one (lI rv)) []:=by
 refine QaM Tryz.func94 (by kernel_rfl) (by kernel_rfl) (fun Γ=>?_)
 unfold Qba at h
 obtain ⟨e0,h4,h⟩:=Qae h
 refine gn 7 [0,1,7,8] [] [nL Qaa.enc s0] (QfB Γ rv h4 ?_)
 rcases e0 with e0|e0
 ·replace h:(some (-1):Option Int)=some _:=h
  obtain rfl:=Option.some.inj h
  exact gr 2 [] []
 ·obtain ⟨r1,rfl⟩:∃ x,x=e0:=⟨_,rfl⟩
  replace h:(some r1:Option Int)=some _:=h
  exact Option.some.inj h
theorem Qfz {s0 c} {rv:Bool} (h:Qbm s0 c=some rv):AFn Tryz.prog 63 [.one (lL 2 s0 Qaa.enc),.one (.fn (.func 136) [.ip [lI c] 0])] [] (one (.bool rv)) []:=by
 refine QaM Tryz.func63 (by kernel_rfl) (by kernel_rfl) (fun Γ=>?_)
 unfold Qbm at h
 obtain ⟨r,h0,h⟩:=Qae h
 obtain rfl:=Option.some.inj h
 exact gr 4 [] [cC (Qgf h0)]
theorem Qe4 {l o} {rv:Bool} (h:QhZ l o=some rv):AFn Tryz.prog 107 [.one (lL 2 l Qaa.enc),.one (lI o)] [] (one (.bool rv)) []:=by
 refine QaM Tryz.func107 (by kernel_rfl) (by kernel_rfl) (fun Γ=>?_)
 unfold QhZ at h
 obtain ⟨r,h0,h⟩:=Qae h
 obtain rfl:=Option.some.inj h
 exact gr 4 [] [cC (Qfz h0)]
theorem QnK {v c} {rv:Bool} (h:QiL v c=some rv):AFn Tryz.prog 137 [.agg (Qaa.enc v),.one (.ip [lI c] 0)] [] (one (.bool rv)) []:=by
 refine QaM Tryz.func137 (by kernel_rfl) (by kernel_rfl) (fun Γ=>?_)
 unfold QiL at h
 obtain rfl:=Option.some.inj h
 exact gr 4 [] []
def Qdb (Γ:Gam) (rv:Int) (cf:Cf):Prop:=Go Tryz.prog Tryz.f94 [] Γ (one (lI rv)) [] cf
def QcO (Γ:Gam) (rv:Int) (s0:List Qaa) (c:Int) (v:Int):Prop:=Qdb Γ rv ⟨[.c 52,.l 52,.b 0,.c 7],⟨19,[vL 0 2 s0 Qaa.enc,(1,one (.fn (.func 137) [.ip [lI c] 0])),vI 7 (lenI s0),vI 8 v],[]⟩⟩
def QcH (Γ:Gam) (rv:Int) (s0:List Qaa) (c:Int):Prop:=Qdb Γ rv ⟨[.c 7],⟨19,[],[]⟩⟩
theorem Qe0 (Γ:Gam) (rv:Int) {s0 c} {s:Int} {e:(Unit)⊕(Int)} (h:QaT (fun s=>QaD s0 c s) s=some e) (hD:sel e (fun e=>QcH Γ rv s0 c) (fun e=>e=rv)):QcO Γ rv s0 c s:=by
 refine QaC (C:=fun (s:Int)=>QcO Γ rv s0 c s) (D:=fun (e:(Unit)⊕(Int))=>sel e (fun e=>QcH Γ rv s0 c) (fun e=>e=rv)) ?_ h hD
 clear h hD s e
 intro v z_ h hI hE
 replace h:QaD s0 c v=_:=h
 unfold QaD at h
 rcases Qah h with ⟨h0,h⟩|⟨h0,h⟩
 ·obtain ⟨x0,h1,h⟩:=Qae h
  obtain ⟨r,h2,h⟩:=Qae h
  rcases Qah h with ⟨h3,h⟩|⟨h3,h⟩
  ·obtain rfl:=(hE _ (oJ h):_=rv)
   exact gr 14 [] [bT h0,cE Qaa.enc h1,cC (QnK h2),bT h3]
  ·exact gn 16 [0,1,7,8] [] [bT h0,cE Qaa.enc h1,cC (QnK h2),bF h3] (hI _ (oJ h))
 ·exact gn 5 [] [] [bF h0] (hE _ (oJ h))
theorem QbH {s0 c} {rv:Int} (h:Qa7 s0 c=some rv):AFn Tryz.prog 94 [.one (lL 2 s0 Qaa.enc),.one (.fn (.func 137) [.ip [lI c] 0])] [] (one (lI rv)) []:=by
 refine QaM Tryz.func94 (by kernel_rfl) (by kernel_rfl) (fun Γ=>?_)
 unfold Qa7 at h
 obtain ⟨e0,h4,h⟩:=Qae h
 refine gn 7 [0,1,7,8] [] [nL Qaa.enc s0] (Qe0 Γ rv h4 ?_)
 rcases e0 with e0|e0
 ·replace h:(some (-1):Option Int)=some _:=h
  obtain rfl:=Option.some.inj h
  exact gr 2 [] []
 ·obtain ⟨r1,rfl⟩:∃ x,x=e0:=⟨_,rfl⟩
  replace h:(some r1:Option Int)=some _:=h
  exact Option.some.inj h
theorem Qpu {l a b} {rv:Bool} (h:QiC l a b=some rv):AFn Tryz.prog 108 [.one (lL 2 l Qaa.enc),.one (lI a),.one (lI b)] [] (one (.bool rv)) []:=by
 refine QaM Tryz.func108 (by kernel_rfl) (by kernel_rfl) (fun Γ=>?_)
 unfold QiC at h
 obtain ⟨r,h0,h⟩:=Qae h
 rcases Qah h with ⟨h1,h⟩|⟨h1,h⟩
 ·obtain rfl:=Option.some.inj h
  exact gr 10 [] [cC (QbH h0),bT h1]
 ·obtain ⟨r1,h2,h⟩:=Qae h
  rcases Qah h with ⟨h3,h⟩|⟨h3,h⟩
  ·obtain ⟨l1,h4,h⟩:=Qae h
   obtain ⟨r2,h5,h⟩:=Qae h
   obtain rfl:=Option.some.inj h
   exact gr 11 [] [cC (QbH h0),bF h1,cC (Qe4 h2),rp 3 (bT h3),hH (.rows (l1.map Qaa.enc)),oO (sl1 h4),oO (sl2h Qaa.enc h4),rp 3 (oO (Int.le_refl ((l.map Qaa.enc).length:Int))),oO (sl6h Qaa.enc h4),bT h3,bT h3,cC (Qe4 h5),bT h3,bT h3]
  ·obtain rfl:=Option.some.inj h
   exact gr 11 [] [cC (QbH h0),bF h1,cC (Qe4 h2),rp 7 (bF h3)]
theorem Qot {v c} {rv:Bool} (h:QjM v c=some rv):AFn Tryz.prog 103 [.agg (Qaa.enc v),.one (.ip (Qac.enc c) 0)] [] (one (.bool rv)) []:=by
 refine QaM Tryz.func103 (by kernel_rfl) (by kernel_rfl) (fun Γ=>?_)
 unfold QjM at h
 obtain rfl:=Option.some.inj h
 exact gr 4 [] [rp 5 hP,rp 3 (oI ((ltI v.order 0)=false)),nL Qag.enc c.orders,hP,hP,rp 2 (oI ((ltI v.order 0)=false)),oR True ((ltI v.order 0)=false)]
def Qdm (Γ:Gam) (rv:Int) (cf:Cf):Prop:=Go Tryz.prog Tryz.f94 [] Γ (one (lI rv)) [] cf
def QcV (Γ:Gam) (rv:Int) (s0:List Qaa) (c:Qac) (v:Int):Prop:=Qdm Γ rv ⟨[.c 52,.l 52,.b 0,.c 7],⟨19,[vL 0 2 s0 Qaa.enc,(1,one (.fn (.func 103) [.ip (Qac.enc c) 0])),vI 7 (lenI s0),vI 8 v],[]⟩⟩
def QcM (Γ:Gam) (rv:Int) (s0:List Qaa) (c:Qac):Prop:=Qdm Γ rv ⟨[.c 7],⟨19,[],[]⟩⟩
theorem Qfk (Γ:Gam) (rv:Int) {s0 c} {s:Int} {e:(Unit)⊕(Int)} (h:QaT (fun s=>QaE s0 c s) s=some e) (hD:sel e (fun e=>QcM Γ rv s0 c) (fun e=>e=rv)):QcV Γ rv s0 c s:=by
 refine QaC (C:=fun (s:Int)=>QcV Γ rv s0 c s) (D:=fun (e:(Unit)⊕(Int))=>sel e (fun e=>QcM Γ rv s0 c) (fun e=>e=rv)) ?_ h hD
 clear h hD s e
 intro v z_ h hI hE
 replace h:QaE s0 c v=_:=h
 unfold QaE at h
 rcases Qah h with ⟨h0,h⟩|⟨h0,h⟩
 ·obtain ⟨x0,h1,h⟩:=Qae h
  obtain ⟨r,h2,h⟩:=Qae h
  rcases Qah h with ⟨h3,h⟩|⟨h3,h⟩
  ·obtain rfl:=(hE _ (oJ h):_=rv)
   exact gr 14 [] [bT h0,cE Qaa.enc h1,cC (Qot h2),bT h3]
  ·exact gn 16 [0,1,7,8] [] [bT h0,cE Qaa.enc h1,cC (Qot h2),bF h3] (hI _ (oJ h))
 ·exact gn 5 [] [] [bF h0] (hE _ (oJ h))
theorem QfD {s0 c} {rv:Int} (h:Qa8 s0 c=some rv):AFn Tryz.prog 94 [.one (lL 2 s0 Qaa.enc),.one (.fn (.func 103) [.ip (Qac.enc c) 0])] [] (one (lI rv)) []:=by
 refine QaM Tryz.func94 (by kernel_rfl) (by kernel_rfl) (fun Γ=>?_)
 unfold Qa8 at h
 obtain ⟨e0,h4,h⟩:=Qae h
 refine gn 7 [0,1,7,8] [] [nL Qaa.enc s0] (Qfk Γ rv h4 ?_)
 rcases e0 with e0|e0
 ·replace h:(some (-1):Option Int)=some _:=h
  obtain rfl:=Option.some.inj h
  exact gr 2 [] []
 ·obtain ⟨r1,rfl⟩:∃ x,x=e0:=⟨_,rfl⟩
  replace h:(some r1:Option Int)=some _:=h
  exact Option.some.inj h
theorem Qa1 {s0 c} {rv:Bool} (h:Qa4 s0 c=some rv):AFn Tryz.prog 63 [.one (lL 2 s0 Qaa.enc),.one (.fn (.func 103) [.ip (Qac.enc c) 0])] [] (one (.bool rv)) []:=by
 refine QaM Tryz.func63 (by kernel_rfl) (by kernel_rfl) (fun Γ=>?_)
 unfold Qa4 at h
 obtain ⟨r,h0,h⟩:=Qae h
 obtain rfl:=Option.some.inj h
 exact gr 4 [] [cC (QfD h0)]
theorem Qou {v c} {rv:Bool} (h:QjN v c=some rv):AFn Tryz.prog 104 [.agg (Qaa.enc v),.one (.ip (Qac.enc c) 0)] [] (one (.bool rv)) []:=by
 refine QaM Tryz.func104 (by kernel_rfl) (by kernel_rfl) (fun Γ=>?_)
 unfold QjN at h
 obtain ⟨x0,h0,h⟩:=Qae h
 obtain rfl:=Option.some.inj h
 exact gr 4 [] [cE Qag.enc h0]
def Qdn (Γ:Gam) (rv:Int) (cf:Cf):Prop:=Go Tryz.prog Tryz.f94 [] Γ (one (lI rv)) [] cf
def QcW (Γ:Gam) (rv:Int) (s0:List Qaa) (c:Qac) (v:Int):Prop:=Qdn Γ rv ⟨[.c 52,.l 52,.b 0,.c 7],⟨19,[vL 0 2 s0 Qaa.enc,(1,one (.fn (.func 104) [.ip (Qac.enc c) 0])),vI 7 (lenI s0),vI 8 v],[]⟩⟩
def QcN (Γ:Gam) (rv:Int) (s0:List Qaa) (c:Qac):Prop:=Qdn Γ rv ⟨[.c 7],⟨19,[],[]⟩⟩
theorem Qfl (Γ:Gam) (rv:Int) {s0 c} {s:Int} {e:(Unit)⊕(Int)} (h:QaT (fun s=>QaF s0 c s) s=some e) (hD:sel e (fun e=>QcN Γ rv s0 c) (fun e=>e=rv)):QcW Γ rv s0 c s:=by
 refine QaC (C:=fun (s:Int)=>QcW Γ rv s0 c s) (D:=fun (e:(Unit)⊕(Int))=>sel e (fun e=>QcN Γ rv s0 c) (fun e=>e=rv)) ?_ h hD
 clear h hD s e
 intro v z_ h hI hE
 replace h:QaF s0 c v=_:=h
 unfold QaF at h
 rcases Qah h with ⟨h0,h⟩|⟨h0,h⟩
 ·obtain ⟨x0,h1,h⟩:=Qae h
  obtain ⟨r,h2,h⟩:=Qae h
  rcases Qah h with ⟨h3,h⟩|⟨h3,h⟩
  ·obtain rfl:=(hE _ (oJ h):_=rv)
   exact gr 14 [] [bT h0,cE Qaa.enc h1,cC (Qou h2),bT h3]
  ·exact gn 16 [0,1,7,8] [] [bT h0,cE Qaa.enc h1,cC (Qou h2),bF h3] (hI _ (oJ h))
 ·exact gn 5 [] [] [bF h0] (hE _ (oJ h))
theorem QfE {s0 c} {rv:Int} (h:Qa9 s0 c=some rv):AFn Tryz.prog 94 [.one (lL 2 s0 Qaa.enc),.one (.fn (.func 104) [.ip (Qac.enc c) 0])] [] (one (lI rv)) []:=by
 refine QaM Tryz.func94 (by kernel_rfl) (by kernel_rfl) (fun Γ=>?_)
 unfold Qa9 at h
 obtain ⟨e0,h4,h⟩:=Qae h
 refine gn 7 [0,1,7,8] [] [nL Qaa.enc s0] (Qfl Γ rv h4 ?_)
 rcases e0 with e0|e0
 ·replace h:(some (-1):Option Int)=some _:=h
  obtain rfl:=Option.some.inj h
  exact gr 2 [] []
 ·obtain ⟨r1,rfl⟩:∃ x,x=e0:=⟨_,rfl⟩
  replace h:(some r1:Option Int)=some _:=h
  exact Option.some.inj h
theorem Qbb {s0 c} {rv:Bool} (h:Qa5 s0 c=some rv):AFn Tryz.prog 63 [.one (lL 2 s0 Qaa.enc),.one (.fn (.func 104) [.ip (Qac.enc c) 0])] [] (one (.bool rv)) []:=by
 refine QaM Tryz.func63 (by kernel_rfl) (by kernel_rfl) (fun Γ=>?_)
 unfold Qa5 at h
 obtain ⟨r,h0,h⟩:=Qae h
 obtain rfl:=Option.some.inj h
 exact gr 4 [] [cC (QfE h0)]
def QjO (Γ:Gam) (rv:Int) (cf:Cf):Prop:=Go Tryz.prog Tryz.f80 [] Γ (one (lI rv)) [] cf
def Qov (Γ:Gam) (rv:Int) (x0:Qac) (r:Qad) (v:Int):Prop:=QjO Γ rv ⟨[.c 500,.l 500,.b 1,.c 63],⟨65,[vP 2 0 6,vL 5 2 r.visits Qaa.enc,vL 33 2 x0.apart QaR.enc,vI 34 (lenI x0.apart),vI 35 v],[oX 6 30 (Qac.enc x0)]⟩⟩
def QnH (Γ:Gam) (rv:Int) (x0:Qac) (r:Qad):Prop:=QjO Γ rv ⟨[.c 63],⟨65,[vP 2 0 6,vL 5 2 r.visits Qaa.enc],[oX 6 30 (Qac.enc x0)]⟩⟩
def Qow (Γ:Gam) (rv:Int) (x0:Qac) (r:Qad) (v1:Int):Prop:=QjO Γ rv ⟨[.c 1012,.l 1012,.b 3,.c 127],⟨65,[vL 5 2 r.visits Qaa.enc,vL 51 2 x0.before QaR.enc,vI 52 (lenI x0.before),vI 53 v1],[]⟩⟩
def QnI (Γ:Gam) (rv:Int) (x0:Qac) (r:Qad):Prop:=QjO Γ rv ⟨[.c 127],⟨65,[],[]⟩⟩
theorem QsY (Γ:Gam) (rv:Int) {x0 r} {s:Int} {e:(Unit)⊕(Int)} (h:QaT (fun s=>Qdt x0 r s) s=some e) (hD:sel e (fun e=>QnH Γ rv x0 r) (fun e=>e=rv)):Qov Γ rv x0 r s:=by
 refine QaC (C:=fun (s:Int)=>Qov Γ rv x0 r s) (D:=fun (e:(Unit)⊕(Int))=>sel e (fun e=>QnH Γ rv x0 r) (fun e=>e=rv)) ?_ h hD
 clear h hD s e
 intro v z_ h hI hE
 replace h:Qdt x0 r v=_:=h
 unfold Qdt at h
 rcases Qah h with ⟨h9,h⟩|⟨h9,h⟩
 ·obtain ⟨x1,h10,h⟩:=Qae h
  obtain ⟨r5,h11,h⟩:=Qae h
  rcases Qah h with ⟨h12,h⟩|⟨h12,h⟩
  ·obtain ⟨r6,h13,h⟩:=Qae h
   rcases Qah h with ⟨h14,h⟩|⟨h14,h⟩
   ·obtain rfl:=(hE _ (oJ h):_=rv)
    exact gr 14 [] [bT h9,cE QaR.enc h10,oO (zL 0),oO (lT 0 2),cC (Qe4 h11),rp 2 (bT h12),oO (zL 1),oO (lT 1 2),rp 2 (bT h12),cC (Qe4 h13),bT h12,bT h14]
   ·exact gn 16 [2,5,33,34,35] [0] [bT h9,cE QaR.enc h10,oO (zL 0),oO (lT 0 2),cC (Qe4 h11),rp 2 (bT h12),oO (zL 1),oO (lT 1 2),rp 2 (bT h12),cC (Qe4 h13),bT h12,bF h14] (hI _ (oJ h))
  ·exact gn 16 [2,5,33,34,35] [0] [bT h9,cE QaR.enc h10,oO (zL 0),oO (lT 0 2),cC (Qe4 h11),rp 5 (bF h12),fF] (hI _ (oJ h))
 ·exact gn 5 [2,5] [0] [bF h9] (hE _ (oJ h))
theorem QsZ (Γ:Gam) (rv:Int) {x0 r} {s:Int} {e:(Unit)⊕(Int)} (h:QaT (fun s=>Qc0 x0 r s) s=some e) (hD:sel e (fun e=>QnI Γ rv x0 r) (fun e=>e=rv)):Qow Γ rv x0 r s:=by
 refine QaC (C:=fun (s:Int)=>Qow Γ rv x0 r s) (D:=fun (e:(Unit)⊕(Int))=>sel e (fun e=>QnI Γ rv x0 r) (fun e=>e=rv)) ?_ h hD
 clear h hD s e
 intro v1 z_ h hI hE
 replace h:Qc0 x0 r v1=_:=h
 unfold Qc0 at h
 rcases Qah h with ⟨h16,h⟩|⟨h16,h⟩
 ·obtain ⟨x2,h17,h⟩:=Qae h
  obtain ⟨r7,h18,h⟩:=Qae h
  rcases Qah h with ⟨h19,h⟩|⟨h19,h⟩
  ·exact gn 16 [5,51,52,53] [] [bT h16,cE QaR.enc h17,oO (zL 0),oO (lT 0 2),oO (zL 1),oO (lT 1 2),cC (Qpu h18),nF h19] (hI _ (oJ h))
  ·obtain rfl:=(hE _ (oJ h):_=rv)
   exact gr 14 [] [bT h16,cE QaR.enc h17,oO (zL 0),oO (lT 0 2),oO (zL 1),oO (lT 1 2),cC (Qpu h18),nT h19]
 ·exact gn 5 [] [] [bF h16] (hE _ (oJ h))
theorem QdR {x0 r} {rv:Int} (h:Qie x0 r=some rv):AFn Tryz.prog 80 [.agg (Qac.enc x0),.agg (Qad.enc r)] [] (one (lI rv)) []:=by
 refine QaM Tryz.func80 (by kernel_rfl) (by kernel_rfl) (fun Γ=>?_)
 unfold Qie at h
 rcases Qah h with ⟨h0,h⟩|⟨h0,h⟩
 ·obtain rfl:=Option.some.inj h
  exact gr 10 [] [nL Qaa.enc r.visits,rp 4 (bT h0),tT]
 ·obtain ⟨r1,h1,h⟩:=Qae h
  rcases Qah h with ⟨h2,h⟩|⟨h2,h⟩
  ·obtain rfl:=Option.some.inj h
   exact gr 10 [] [nL Qaa.enc r.visits,rp 3 (bF h0),cC (Qa1 h1),bF h0,bT h2]
  ·obtain ⟨r2,h3,h⟩:=Qae h
   rcases Qah h with ⟨h4,h⟩|⟨h4,h⟩
   ·obtain rfl:=Option.some.inj h
    exact gr 16 [] [nL Qaa.enc r.visits,rp 3 (bF h0),cC (Qa1 h1),bF h0,bF h2,cC (Qbb h3),bT h4]
   ·obtain ⟨r3,h5,h⟩:=Qae h
    rcases Qah h with ⟨h6,h⟩|⟨h6,h⟩
    ·obtain rfl:=Option.some.inj h
     exact gr 19 [] [nL Qaa.enc r.visits,rp 3 (bF h0),cC (Qa1 h1),bF h0,bF h2,cC (Qbb h3),bF h4,cC (QlV h5),bT h6]
    ·obtain ⟨r4,h7,h⟩:=Qae h
     rcases Qah h with ⟨h8,h⟩|⟨h8,h⟩
     ·obtain ⟨e0,h15,h⟩:=Qae h
      refine gn 27 [2,5,33,34,35] [0] [nL Qaa.enc r.visits,rp 3 (bF h0),cC (Qa1 h1),bF h0,bF h2,cC (Qbb h3),bF h4,cC (QlV h5),bF h6,cC (Qpv h7),nF h8,nL QaR.enc x0.apart] (QsY Γ rv h15 ?_)
      rcases e0 with e0|e0
      ·replace h:(bnd (QaT (fun s=>Qc0 x0 r s) 0) (fun e=>sel e (fun (_:Unit)=>some 0) (fun r8=>some r8)):Option Int)=some _:=h
       obtain ⟨e1,h20,h⟩:=Qae h
       refine gn 5 [5,51,52,53] [] [nL QaR.enc x0.before] (QsZ Γ rv h20 ?_)
       rcases e1 with e1|e1
       ·replace h:(some 0:Option Int)=some _:=h
        obtain rfl:=Option.some.inj h
        exact gr 2 [] []
       ·obtain ⟨r8,rfl⟩:∃ x,x=e1:=⟨_,rfl⟩
        replace h:(some r8:Option Int)=some _:=h
        exact Option.some.inj h
      ·obtain ⟨r9,rfl⟩:∃ x,x=e0:=⟨_,rfl⟩
       replace h:(some r9:Option Int)=some _:=h
       exact Option.some.inj h
     ·obtain rfl:=Option.some.inj h
      exact gr 22 [] [nL Qaa.enc r.visits,rp 3 (bF h0),cC (Qa1 h1),bF h0,bF h2,cC (Qbb h3),bF h4,cC (QlV h5),bF h6,cC (Qpv h7),nT h8]
theorem Quo {t skills} {rv:Bool} (h:Qm8 t skills=some rv):AFn Tryz.prog 109 [.agg (Qal.enc t),.one (lI skills)] [] (one (.bool rv)) []:=by
 refine QaM Tryz.func109 (by kernel_rfl) (by kernel_rfl) (fun Γ=>?_)
 unfold Qm8 at h
 obtain rfl:=Option.some.inj h
 exact gr 4 [] [rp 9 hP,oI ((geI t.skills 0)=true),oR True ((geI t.skills 0)=true),rp 4 (oI (((geI t.skills 0)&&(geI skills 0))=true)),oR True (((geI t.skills 0)&&(geI skills 0))=true)]
def Qvy (Γ:Gam) (rv:Int) (cf:Cf):Prop:=Go Tryz.prog Tryz.f81 [] Γ (one (lI rv)) [] cf
def QsD (Γ:Gam) (rv:Int) (x0:Qac) (r:Qad) (v:Int):Prop:=Qvy Γ rv ⟨[.c 52,.l 52,.b 0,.c 7],⟨30,[vP 2 0 6,vP 3 1 4,vL 8 2 r.visits Qaa.enc,vI 9 (lenI r.visits),vI 10 v],[oX 6 30 (Qac.enc x0),oX 4 34 (Qad.enc r)]⟩⟩
def QrA (Γ:Gam) (rv:Int) (x0:Qac) (r:Qad):Prop:=Qvy Γ rv ⟨[.c 7],⟨30,[],[]⟩⟩
theorem Qvz (Γ:Gam) (rv:Int) {x0 r} {s:Int} {e:(Unit)⊕(Int)} (h:QaT (fun s=>Qf5 x0 r s) s=some e) (hD:sel e (fun e=>QrA Γ rv x0 r) (fun e=>e=rv)):QsD Γ rv x0 r s:=by
 refine QaC (C:=fun (s:Int)=>QsD Γ rv x0 r s) (D:=fun (e:(Unit)⊕(Int))=>sel e (fun e=>QrA Γ rv x0 r) (fun e=>e=rv)) ?_ h hD
 clear h hD s e
 intro v z_ h hI hE
 replace h:Qf5 x0 r v=_:=h
 unfold Qf5 at h
 rcases Qah h with ⟨h0,h⟩|⟨h0,h⟩
 ·obtain ⟨x1,h1,h⟩:=Qae h
  obtain ⟨x2,h2,h⟩:=Qae h
  obtain ⟨x3,h3,h⟩:=Qae h
  obtain ⟨r1,h4,h⟩:=Qae h
  rcases Qah h with ⟨h5,h⟩|⟨h5,h⟩
  ·exact gn 16 [2,3,8,9,10] [0,1] [bT h0,cE Qaa.enc h1,hH (.draw 15 []),cE Qal.enc h2,cE Qag.enc h3,cC (Quo h4),nF h5] (hI _ (oJ h))
  ·obtain rfl:=(hE _ (oJ h):_=rv)
   exact gr 14 [] [bT h0,cE Qaa.enc h1,hH (.draw 15 []),cE Qal.enc h2,cE Qag.enc h3,cC (Quo h4),nT h5]
 ·exact gn 5 [] [] [bF h0] (hE _ (oJ h))
theorem Qoo {x0 r} {rv:Int} (h:Qrz x0 r=some rv):AFn Tryz.prog 81 [.agg (Qac.enc x0),.agg (Qad.enc r)] [] (one (lI rv)) []:=by
 refine QaM Tryz.func81 (by kernel_rfl) (by kernel_rfl) (fun Γ=>?_)
 unfold Qrz at h
 obtain ⟨e0,h6,h⟩:=Qae h
 refine gn 7 [2,3,8,9,10] [0,1] [nL Qaa.enc r.visits] (Qvz Γ rv h6 ?_)
 rcases e0 with e0|e0
 ·replace h:(some 0:Option Int)=some _:=h
  obtain rfl:=Option.some.inj h
  exact gr 2 [] []
 ·obtain ⟨r2,rfl⟩:∃ x,x=e0:=⟨_,rfl⟩
  replace h:(some r2:Option Int)=some _:=h
  exact Option.some.inj h
def Qqi (Γ:Gam) (rv:Int×Int) (cf:Cf):Prop:=Go Tryz.prog Tryz.f86 [] Γ (.tup [.one (lI rv.1),.one (lI rv.2)]) [] cf
def QnJ (Γ:Gam) (rv:Int×Int) (r:Qad) (set_:Int) (v:Int):Prop:=Qqi Γ rv ⟨[.c 116,.l 116,.b 0,.c 15],⟨29,[vI 4 set_,vL 8 2 r.visits Qaa.enc,vI 9 (lenI r.visits),vI 10 v],[]⟩⟩
def QmJ (Γ:Gam) (rv:Int×Int) (r:Qad) (set_1:Int):Prop:=Qqi Γ rv ⟨[.c 15],⟨29,[vI 4 set_1],[]⟩⟩
theorem Qsl (Γ:Gam) (rv:Int×Int) {r} {s:Int×Int} {e:(Int)⊕(Int×Int)} (h:QaT (fun s=>Qfi r s.1 s.2) s=some e) (hD:sel e (fun e=>QmJ Γ rv r e) (fun e=>e=rv)):QnJ Γ rv r s.1 s.2:=by
 refine QaC (C:=fun (s:Int×Int)=>QnJ Γ rv r s.1 s.2) (D:=fun (e:(Int)⊕(Int×Int))=>sel e (fun e=>QmJ Γ rv r e) (fun e=>e=rv)) ?_ h hD
 clear h hD s e
 rintro ⟨set_,v⟩ z_ h hI hE
 replace h:Qfi r set_ v=_:=h
 unfold Qfi at h
 rcases Qah h with ⟨h0,h⟩|⟨h0,h⟩
 ·obtain ⟨x0,h1,h⟩:=Qae h
  rcases Qah h with ⟨h2,h⟩|⟨h2,h⟩
  ·obtain rfl:=(hE _ (oJ h):_=rv)
   exact gr 15 [] [bT h0,cE Qaa.enc h1,rp 4 hP,rp 2 (oI ((ltI x0.order 0)=false)),oR True ((ltI x0.order 0)=false),bT h2]
  ·obtain ⟨h3,h⟩:=Qav h
   exact gn 18 [4,8,9,10] [] [bT h0,cE Qaa.enc h1,rp 4 hP,rp 2 (oI ((ltI x0.order 0)=false)),oR True ((ltI x0.order 0)=false),bF h2,oO (h3)] (hI _ (oJ h))
 ·exact gn 5 [4] [] [bF h0] (hE _ (oJ h))
theorem Qpt {r} {rv:Int×Int} (h:QiB r=some rv):AFn Tryz.prog 86 [.agg (Qad.enc r)] [] (.tup [.one (lI rv.1),.one (lI rv.2)]) []:=by
 refine QaM Tryz.func86 (by kernel_rfl) (by kernel_rfl) (fun Γ=>?_)
 unfold QiB at h
 obtain ⟨e0,h4,h⟩:=Qae h
 refine gn 9 [4,8,9,10] [] [nL Qaa.enc r.visits] (Qsl Γ rv h4 ?_)
 rcases e0 with e0|e0
 ·obtain ⟨set_1,rfl⟩:∃ x,x=e0:=⟨_,rfl⟩
  replace h:(some (set_1,0):Option (Int×Int))=some _:=h
  obtain rfl:=Option.some.inj h
  exact gr 2 [] []
 ·obtain ⟨r1,rfl⟩:∃ x,x=e0:=⟨_,rfl⟩
  replace h:(some r1:Option (Int×Int))=some _:=h
  exact Option.some.inj h
theorem Qxs {a b} {rv:Int} (h:Qti a b=some rv):AFn Tryz.prog 165 [.one (lI a),.one (lI b)] [] (one (lI rv)) []:=by
 refine QaM Tryz.func165 (by kernel_rfl) (by kernel_rfl) (fun Γ=>?_)
 unfold Qti at h
 obtain rfl:=Option.some.inj h
 exact gr 4 [] []
def Qnd (Γ:Gam) (rv:List Int×Int) (cf:Cf):Prop:=Go Tryz.prog Tryz.f164 [] Γ (.tup [.one (lL 1 rv.1 Qay),.one (lI rv.2)]) [] cf
def QjX (Γ:Gam) (rv:List Int×Int) (a:List Int) (b:List Int) (l:List Int) (l1:List Int) (v:Int):Prop:=Qnd Γ rv ⟨[.c 244,.l 244,.b 0,.c 31],⟨38,[vL 0 1 a Qay,vL 1 1 b Qay,(2,one (.fn (.func 165) [])),vO 8 0 1 l1 Qay,vI 19 (lenI a),vI 20 v],[oS 1 3 l1 Qay]⟩⟩
def Qjr (Γ:Gam) (rv:List Int×Int) (a:List Int) (b:List Int) (l:List Int) (l2:List Int):Prop:=Qnd Γ rv ⟨[.c 31],⟨38,[vO 8 0 1 l2 Qay],[oS 1 3 l2 Qay]⟩⟩
theorem QpH (Γ:Gam) (rv:List Int×Int) {a b l} {s:List Int×Int} {e:List Int} (h:QaT (fun s=>QbZ a b l s.1 s.2) s=some e) (hD:Qjr Γ rv a b l e):QjX Γ rv a b l s.1 s.2:=by
 refine QaC (C:=fun (s:List Int×Int)=>QjX Γ rv a b l s.1 s.2) (D:=fun (e:List Int)=>Qjr Γ rv a b l e) ?_ h hD
 clear h hD s e
 rintro ⟨l1,v⟩ z_ h hI hE
 replace h:QbZ a b l l1 v=_:=h
 unfold QbZ at h
 rcases Qah h with ⟨h2,h⟩|⟨h2,h⟩
 ·obtain ⟨x0,h3,h⟩:=Qae h
  obtain ⟨x1,h4,h⟩:=Qae h
  obtain ⟨r,h5,h⟩:=Qae h
  obtain ⟨x2,h6,h⟩:=Qae h
  exact gn 13 [0,1,2,8,19,20] [0] [bT h2,hH (.draw 13 []),cE Qay h3,cE Qay h4,cC (Qxs h5),oO (QtK h6),oO (QtJ Qay h6),rE Qay h6,hH (.rows ((setI l1 v r).map Qay)),hH (.relen 0 ((setI l1 v r).map Qay).length),oO (setM Qay l1 v r),rp 2 (oO (Qxq Qay l1 v r))] (hI _ (oJ h))
 ·exact gn 5 [8] [0] [bF h2] (hE _ (oJ h))
theorem Qr0 {a b} {rv:List Int×Int} (h:Qh3 a b=some rv):AFn Tryz.prog 164 [.one (lL 1 a Qay),.one (lL 1 b Qay),.one (.fn (.func 165) [])] [] (.tup [.one (lL 1 rv.1 Qay),.one (lI rv.2)]) []:=by
 refine QaM Tryz.func164 (by kernel_rfl) (by kernel_rfl) (fun Γ=>?_)
 unfold Qh3 at h
 rcases Qah h with ⟨h0,h⟩|⟨h0,h⟩
 ·obtain rfl:=Option.some.inj h
  exact gr 8 [] [nL Qay a,nL Qay b,bT h0,hW 4,hH (.nilS 6 0 1)]
 ·obtain ⟨l,h1,h⟩:=Qae h
  obtain ⟨e0,h7,h⟩:=Qae h
  refine gn 14 [0,1,2,8,19,20] [0] [nL Qay a,nL Qay b,bF h0,nL Qay a,hH (.cells [lI 0]),hH (.rows (l.map Qay)),oO (mk1 h1),oO (mk2 h1),oO (mk3 h1),oO (mk4 h1),oO (mk5 Qay h1),nL Qay a] (QpH Γ rv h7 ?_)
  obtain ⟨l2,rfl⟩:∃ x,x=e0:=⟨_,rfl⟩
  replace h:(some (l2,0):Option (List Int×Int))=some _:=h
  obtain rfl:=Option.some.inj h
  exact gr 2 [] [hW 5,hH (.frz 0),rp 3 (eL l2 Qay)]
theorem QsO {a b} {rv:List Int×Int} (h:QrQ a b=some rv):AFn Tryz.prog 140 [.one (lL 1 a Qay),.one (lL 1 b Qay)] [] (.tup [.one (lL 1 rv.1 Qay),.one (lI rv.2)]) []:=by
 refine QaM Tryz.func140 (by kernel_rfl) (by kernel_rfl) (fun Γ=>?_)
 unfold QrQ at h
 obtain ⟨r,h0,h⟩:=Qae h
 obtain rfl:=Option.some.inj h
 exact gr 4 [] [cC (Qr0 h0)]
theorem Qwo {set_ i} {rv:Bool} (h:QvC set_ i=some rv):AFn Tryz.prog 178 [.one (lI set_),.one (lI i)] [] (one (.bool rv)) []:=by
 refine QaM Tryz.func178 (by kernel_rfl) (by kernel_rfl) (fun Γ=>?_)
 unfold QvC at h
 rcases Qah h with ⟨h0,h⟩|⟨h0,h⟩
 ·obtain ⟨h1,h⟩:=Qav h
  obtain rfl:=Option.some.inj h
  exact gr 4 [] [hP,hP,hP,oI ((geI i 0)=true),oR True ((geI i 0)=true),rp 3 (bT h0),oO (h1),rp 3 (bT h0)]
 ·obtain rfl:=Option.some.inj h
  exact gr 4 [] [hP,hP,hP,oI ((geI i 0)=true),oR True ((geI i 0)=true),rp 6 (bF h0)]
def Qty (Γ:Gam) (rv:List Int) (cf:Cf):Prop:=Go Tryz.prog Tryz.f163 [] Γ (one (lL 1 rv Qay)) [] cf
def Qqk (Γ:Gam) (rv:List Int) (set_:Int) (l:List Int) (v:Int):Prop:=Qty Γ rv ⟨[.c 116,.l 116,.b 0,.c 15],⟨17,[vI 0 set_,vO 3 0 1 l Qay,vI 5 v],[oS 1 3 l Qay]⟩⟩
def Qpw (Γ:Gam) (rv:List Int) (set_:Int) (l1:List Int):Prop:=Qty Γ rv ⟨[.c 15],⟨17,[vO 3 0 1 l1 Qay],[oS 1 3 l1 Qay]⟩⟩
theorem Qt8 (Γ:Gam) (rv:List Int) {set_} {s:List Int×Int} {e:List Int} (h:QaT (fun s=>QdD set_ s.1 s.2) s=some e) (hD:Qpw Γ rv set_ e):Qqk Γ rv set_ s.1 s.2:=by
 refine QaC (C:=fun (s:List Int×Int)=>Qqk Γ rv set_ s.1 s.2) (D:=fun (e:List Int)=>Qpw Γ rv set_ e) ?_ h hD
 clear h hD s e
 rintro ⟨l,v⟩ z_ h hI hE
 replace h:QdD set_ l v=_:=h
 unfold QdD at h
 rcases Qah h with ⟨h0,h⟩|⟨h0,h⟩
 ·obtain ⟨r,h1,h⟩:=Qae h
  rcases Qah h with ⟨h2,h⟩|⟨h2,h⟩
  ·obtain ⟨h3,h⟩:=Qav h
   exact gn 16 [0,3,5] [2] [bT h0,cC (Qwo h1),bT h2,oO (Eq.refl ([v].map Qay).length),aO Qay h3] (hI _ (oJ h))
  ·exact gn 16 [0,3,5] [0] [bT h0,cC (Qwo h1),bF h2] (hI _ (oJ h))
 ·exact gn 5 [3] [0] [bF h0] (hE _ (oJ h))
theorem Qv1 {set_} {rv:List Int} (h:QnO set_=some rv):AFn Tryz.prog 163 [.one (lI set_)] [] (one (lL 1 rv Qay)) []:=by
 refine QaM Tryz.func163 (by kernel_rfl) (by kernel_rfl) (fun Γ=>?_)
 unfold QnO at h
 obtain ⟨e0,h4,h⟩:=Qae h
 refine gn 9 [0,3,5] [0] [hW 12,hH (.adopt 3 1 3)] (Qt8 Γ rv h4 ?_)
 obtain ⟨l1,rfl⟩:∃ x,x=e0:=⟨_,rfl⟩
 replace h:(some l1:Option (List Int))=some _:=h
 obtain rfl:=Option.some.inj h
 exact gr 2 [] [hW 4,hH (.frz 0),rp 3 (eL l1 Qay)]
def Quk (Γ:Gam) (rv:List Int) (cf:Cf):Prop:=Go Tryz.prog Tryz.f138 [] Γ (one (lL 1 rv Qay)) [] cf
def QqI (Γ:Gam) (rv:List Int) (x0:Qac) (l:List Int) (r:List Int) (sum:List Int) (v:Int):Prop:=Quk Γ rv ⟨[.c 116,.l 116,.b 0,.c 15],⟨40,[vP 3 0 6,vL 7 1 sum Qay,vL 13 1 r Qay,vI 14 (lenI r),vI 15 v],[oX 6 30 (Qac.enc x0)]⟩⟩
def QpT (Γ:Gam) (rv:List Int) (x0:Qac) (l:List Int) (r:List Int) (sum1:List Int):Prop:=Quk Γ rv ⟨[.c 15],⟨40,[vL 7 1 sum1 Qay],[]⟩⟩
theorem Quv (Γ:Gam) (rv:List Int) {x0 l r} {s:List Int×Int} {e:List Int} (h:QaT (fun s=>Qea x0 l r s.1 s.2) s=some e) (hD:QpT Γ rv x0 l r e):QqI Γ rv x0 l r s.1 s.2:=by
 refine QaC (C:=fun (s:List Int×Int)=>QqI Γ rv x0 l r s.1 s.2) (D:=fun (e:List Int)=>QpT Γ rv x0 l r e) ?_ h hD
 clear h hD s e
 rintro ⟨sum,v⟩ z_ h hI hE
 replace h:Qea x0 l r sum v=_:=h
 unfold Qea at h
 rcases Qah h with ⟨h2,h⟩|⟨h2,h⟩
 ·obtain ⟨x1,h3,h⟩:=Qae h
  obtain ⟨x2,h4,h⟩:=Qae h
  rcases Qah h with ⟨h5,h⟩|⟨h5,h⟩
  ·obtain ⟨r1,h6,h⟩:=Qae h
   exact gn 16 [3,7,13,14,15] [0] [bT h2,cE Qay h3,cE Qag.enc h4,bT h5,cE Qag.enc h4,cC (QsO h6)] (hI _ (oJ h))
  ·exact gn 16 [3,7,13,14,15] [0] [bT h2,cE Qay h3,cE Qag.enc h4,bF h5] (hI _ (oJ h))
 ·exact gn 5 [7] [] [bF h2] (hE _ (oJ h))
theorem Qws {x0 set_ dims} {rv:List Int} (h:QoK x0 set_ dims=some rv):AFn Tryz.prog 138 [.agg (Qac.enc x0),.one (lI set_),.one (lI dims)] [] (one (lL 1 rv Qay)) []:=by
 refine QaM Tryz.func138 (by kernel_rfl) (by kernel_rfl) (fun Γ=>?_)
 unfold QoK at h
 obtain ⟨l,h0,h⟩:=Qae h
 obtain ⟨r,h1,h⟩:=Qae h
 obtain ⟨e0,h7,h⟩:=Qae h
 refine gn 9 [3,7,13,14,15] [0] [hH (.cells [lI 0]),hH (.rows (l.map Qay)),oO (mk1 h0),oO (mk2 h0),oO (mk3 h0),oO (mk4 h0),oO (mk5 Qay h0),cC (Qv1 h1),nL Qay r,hW 3,hH (.frz 1),rp 2 (eL l Qay)] (Quv Γ rv h7 ?_)
 obtain ⟨sum1,rfl⟩:∃ x,x=e0:=⟨_,rfl⟩
 replace h:(some sum1:Option (List Int))=some _:=h
 obtain rfl:=Option.some.inj h
 exact gr 2 [] []
theorem Qxi {l} {rv:Int} (h:QqO l=some rv):AFn Tryz.prog 139 [.one (lL 14 l Qal.enc)] [] (one (lI rv)) []:=by
 refine QaM Tryz.func139 (by kernel_rfl) (by kernel_rfl) (fun Γ=>?_)
 unfold QqO at h
 rcases Qah h with ⟨h0,h⟩|⟨h0,h⟩
 ·obtain rfl:=Option.some.inj h
  exact gr 8 [] [nL Qal.enc l,bT h0]
 ·obtain ⟨x0,h1,h⟩:=Qae h
  obtain rfl:=Option.some.inj h
  exact gr 9 [] [nL Qal.enc l,bF h0,cE Qal.enc h1,nL Qay x0.cap]
theorem QwE {a b} {rv:Int} (h:QrR a b=some rv):AFn Tryz.prog 166 [.one (lI a),.one (lI b)] [] (one (lI rv)) []:=by
 refine QaM Tryz.func166 (by kernel_rfl) (by kernel_rfl) (fun Γ=>?_)
 unfold QrR at h
 obtain rfl:=Option.some.inj h
 exact gr 4 [] []
def Ql5 (Γ:Gam) (rv:List Int×Int) (cf:Cf):Prop:=Go Tryz.prog Tryz.f164 [] Γ (.tup [.one (lL 1 rv.1 Qay),.one (lI rv.2)]) [] cf
def Qjq (Γ:Gam) (rv:List Int×Int) (a:List Int) (b:List Int) (l:List Int) (l1:List Int) (v:Int):Prop:=Ql5 Γ rv ⟨[.c 244,.l 244,.b 0,.c 31],⟨38,[vL 0 1 a Qay,vL 1 1 b Qay,(2,one (.fn (.func 166) [])),vO 8 0 1 l1 Qay,vI 19 (lenI a),vI 20 v],[oS 1 3 l1 Qay]⟩⟩
def Qi6 (Γ:Gam) (rv:List Int×Int) (a:List Int) (b:List Int) (l:List Int) (l2:List Int):Prop:=Ql5 Γ rv ⟨[.c 31],⟨38,[vO 8 0 1 l2 Qay],[oS 1 3 l2 Qay]⟩⟩
theorem QoY (Γ:Gam) (rv:List Int×Int) {a b l} {s:List Int×Int} {e:List Int} (h:QaT (fun s=>QbN a b l s.1 s.2) s=some e) (hD:Qi6 Γ rv a b l e):Qjq Γ rv a b l s.1 s.2:=by
 refine QaC (C:=fun (s:List Int×Int)=>Qjq Γ rv a b l s.1 s.2) (D:=fun (e:List Int)=>Qi6 Γ rv a b l e) ?_ h hD
 clear h hD s e
 rintro ⟨l1,v⟩ z_ h hI hE
 replace h:QbN a b l l1 v=_:=h
 unfold QbN at h
 rcases Qah h with ⟨h2,h⟩|⟨h2,h⟩
 ·obtain ⟨x0,h3,h⟩:=Qae h
  obtain ⟨x1,h4,h⟩:=Qae h
  obtain ⟨r,h5,h⟩:=Qae h
  obtain ⟨x2,h6,h⟩:=Qae h
  exact gn 13 [0,1,2,8,19,20] [0] [bT h2,hH (.draw 13 []),cE Qay h3,cE Qay h4,cC (QwE h5),oO (QtK h6),oO (QtJ Qay h6),rE Qay h6,hH (.rows ((setI l1 v r).map Qay)),hH (.relen 0 ((setI l1 v r).map Qay).length),oO (setM Qay l1 v r),rp 2 (oO (Qxq Qay l1 v r))] (hI _ (oJ h))
 ·exact gn 5 [8] [0] [bF h2] (hE _ (oJ h))
theorem Qq2 {a b} {rv:List Int×Int} (h:Qhm a b=some rv):AFn Tryz.prog 164 [.one (lL 1 a Qay),.one (lL 1 b Qay),.one (.fn (.func 166) [])] [] (.tup [.one (lL 1 rv.1 Qay),.one (lI rv.2)]) []:=by
 refine QaM Tryz.func164 (by kernel_rfl) (by kernel_rfl) (fun Γ=>?_)
 unfold Qhm at h
 rcases Qah h with ⟨h0,h⟩|⟨h0,h⟩
 ·obtain rfl:=Option.some.inj h
  exact gr 8 [] [nL Qay a,nL Qay b,bT h0,hW 4,hH (.nilS 6 0 1)]
 ·obtain ⟨l,h1,h⟩:=Qae h
  obtain ⟨e0,h7,h⟩:=Qae h
  refine gn 14 [0,1,2,8,19,20] [0] [nL Qay a,nL Qay b,bF h0,nL Qay a,hH (.cells [lI 0]),hH (.rows (l.map Qay)),oO (mk1 h1),oO (mk2 h1),oO (mk3 h1),oO (mk4 h1),oO (mk5 Qay h1),nL Qay a] (QoY Γ rv h7 ?_)
  obtain ⟨l2,rfl⟩:∃ x,x=e0:=⟨_,rfl⟩
  replace h:(some (l2,0):Option (List Int×Int))=some _:=h
  obtain rfl:=Option.some.inj h
  exact gr 2 [] [hW 5,hH (.frz 0),rp 3 (eL l2 Qay)]
theorem Qvm {a b} {rv:List Int×Int} (h:Qth a b=some rv):AFn Tryz.prog 141 [.one (lL 1 a Qay),.one (lL 1 b Qay)] [] (.tup [.one (lL 1 rv.1 Qay),.one (lI rv.2)]) []:=by
 refine QaM Tryz.func141 (by kernel_rfl) (by kernel_rfl) (fun Γ=>?_)
 unfold Qth at h
 obtain ⟨r,h0,h⟩:=Qae h
 obtain rfl:=Option.some.inj h
 exact gr 4 [] [cC (Qq2 h0)]
def Quj (Γ:Gam) (rv:List (List Int)×Int) (cf:Cf):Prop:=Go Tryz.prog Tryz.f110 [] Γ (.tup [.one (lL 1 rv.1 Qbf),.one (lI rv.2)]) [] cf
def QqH (Γ:Gam) (rv:List (List Int)×Int) (x0:Qac) (r:Qad) (l:List (List Int)) (now:List Int) (v:Int):Prop:=Quj Γ rv ⟨[.c 2036,.l 2036,.b 0,.c 255],⟨67,[vP 2 0 6,vL 9 1 now Qay,vO 10 1 1 l Qbf,vL 37 2 r.visits Qaa.enc,vI 38 (lenI r.visits),vI 39 v],[oX 6 30 (Qac.enc x0),oS 1 42 l Qbf]⟩⟩
def QpS (Γ:Gam) (rv:List (List Int)×Int) (x0:Qac) (r:Qad) (l1:List (List Int)):Prop:=Quj Γ rv ⟨[.c 255],⟨67,[vO 10 0 1 l1 Qbf],[oS 1 42 l1 Qbf]⟩⟩
theorem Quu (Γ:Gam) (rv:List (List Int)×Int) {x0 r} {s:List (List Int)×List Int×Int} {e:(List (List Int))⊕(List (List Int)×Int)} (h:QaT (fun s=>Qd9 x0 r s.1 s.2.1 s.2.2) s=some e) (hD:sel e (fun e=>QpS Γ rv x0 r e) (fun e=>e=rv)):QqH Γ rv x0 r s.1 s.2.1 s.2.2:=by
 refine QaC (C:=fun (s:List (List Int)×List Int×Int)=>QqH Γ rv x0 r s.1 s.2.1 s.2.2) (D:=fun (e:(List (List Int))⊕(List (List Int)×Int))=>sel e (fun e=>QpS Γ rv x0 r e) (fun e=>e=rv)) ?_ h hD
 clear h hD s e
 rintro ⟨l,now,v⟩ z_ h hI hE
 replace h:Qd9 x0 r l now v=_:=h
 unfold Qd9 at h
 rcases Qah h with ⟨h6,h⟩|⟨h6,h⟩
 ·obtain ⟨x1,h7,h⟩:=Qae h
  rcases Qah h with ⟨h8,h⟩|⟨h8,h⟩
  ·obtain ⟨x2,h9,h⟩:=Qae h
   obtain ⟨r5,h10,h⟩:=Qae h
   rcases Qah h with ⟨h11,h⟩|⟨h11,h⟩
   ·obtain rfl:=(hE _ (oJ h):_=rv)
    exact gr 24 [] [bT h6,cE Qaa.enc h7,bT h8,cE Qag.enc h9,cC (Qvm h10),bT h11,hW 5,hH (.nilS 4 0 1)]
   ·obtain ⟨h12,h⟩:=Qav h
    exact gn 27 [2,9,10,37,38,39] [0,4] [bT h6,cE Qaa.enc h7,bT h8,cE Qag.enc h9,cC (Qvm h10),bF h11,oO (Eq.refl ([r5.1].map Qbf).length),aO Qbf h12] (hI _ (oJ h))
  ·obtain ⟨x3,h13,h⟩:=Qae h
   obtain ⟨r6,h14,h⟩:=Qae h
   rcases Qah h with ⟨h15,h⟩|⟨h15,h⟩
   ·obtain rfl:=(hE _ (oJ h):_=rv)
    exact gr 24 [] [bT h6,cE Qaa.enc h7,bF h8,cE Qag.enc h13,cC (QsO h14),bT h15,hW 5,hH (.nilS 4 0 1)]
   ·obtain ⟨h16,h⟩:=Qav h
    exact gn 27 [2,9,10,37,38,39] [0,4] [bT h6,cE Qaa.enc h7,bF h8,cE Qag.enc h13,cC (QsO h14),bF h15,oO (Eq.refl ([r6.1].map Qbf).length),aO Qbf h16] (hI _ (oJ h))
 ·exact gn 5 [10] [1] [bF h6] (hE _ (oJ h))
theorem QpB {x0 r} {rv:List (List Int)×Int} (h:QoJ x0 r=some rv):AFn Tryz.prog 110 [.agg (Qac.enc x0),.agg (Qad.enc r)] [] (.tup [.one (lL 1 rv.1 Qbf),.one (lI rv.2)]) []:=by
 refine QaM Tryz.func110 (by kernel_rfl) (by kernel_rfl) (fun Γ=>?_)
 unfold QoJ at h
 obtain ⟨r1,h0,h⟩:=Qae h
 rcases Qah h with ⟨h1,h⟩|⟨h1,h⟩
 ·obtain rfl:=Option.some.inj h
  exact gr 10 [] [cC (QdR h0),bT h1,hW 5,hH (.nilS 4 0 1)]
 ·obtain ⟨r2,h2,h⟩:=Qae h
  rcases Qah h with ⟨h3,h⟩|⟨h3,h⟩
  ·obtain rfl:=Option.some.inj h
   exact gr 17 [] [cC (QdR h0),bF h1,cC (Qpt h2),bT h3,hW 5,hH (.nilS 4 0 1)]
  ·obtain ⟨r3,h4,h⟩:=Qae h
   obtain ⟨r4,h5,h⟩:=Qae h
   obtain ⟨e0,h17,h⟩:=Qae h
   refine gn 25 [2,9,10,37,38,39] [0,2] [cC (QdR h0),bF h1,cC (Qpt h2),bF h3,hH (.draw 7 []),cC (Qxi h4),cC (Qws h5),nL Qaa.enc r.visits] (Quu Γ rv h17 ?_)
   rcases e0 with e0|e0
   ·obtain ⟨l1,rfl⟩:∃ x,x=e0:=⟨_,rfl⟩
    replace h:(some (l1,0):Option (List (List Int)×Int))=some _:=h
    obtain rfl:=Option.some.inj h
    exact gr 2 [] [hW 5,hH (.frz 0),rp 3 (eL l1 Qbf)]
   ·obtain ⟨r7,rfl⟩:∃ x,x=e0:=⟨_,rfl⟩
    replace h:(some r7:Option (List (List Int)×Int))=some _:=h
    exact Option.some.inj h
def Qvk (Γ:Gam) (rv:Bool) (cf:Cf):Prop:=Go Tryz.prog Tryz.f113 [] Γ (one (.bool rv)) [] cf
def Qsy (Γ:Gam) (rv:Bool) (a:List Int) (capacity:List Int) (v:Int):Prop:=Qvk Γ rv ⟨[.c 116,.l 116,.b 0,.c 15],⟨26,[vL 1 1 capacity Qay,vL 12 1 a Qay,vI 13 (lenI a),vI 14 v],[]⟩⟩
def Qq1 (Γ:Gam) (rv:Bool) (a:List Int) (capacity:List Int):Prop:=Qvk Γ rv ⟨[.c 15],⟨26,[],[]⟩⟩
theorem Qvl (Γ:Gam) (rv:Bool) {a capacity} {s:Int} {e:(Unit)⊕(Bool)} (h:QaT (fun s=>QfP a capacity s) s=some e) (hD:sel e (fun e=>Qq1 Γ rv a capacity) (fun e=>e=rv)):Qsy Γ rv a capacity s:=by
 refine QaC (C:=fun (s:Int)=>Qsy Γ rv a capacity s) (D:=fun (e:(Unit)⊕(Bool))=>sel e (fun e=>Qq1 Γ rv a capacity) (fun e=>e=rv)) ?_ h hD
 clear h hD s e
 intro v z_ h hI hE
 replace h:QfP a capacity v=_:=h
 unfold QfP at h
 rcases Qah h with ⟨h1,h⟩|⟨h1,h⟩
 ·obtain ⟨x0,h2,h⟩:=Qae h
  obtain ⟨x1,h3,h⟩:=Qae h
  rcases Qah h with ⟨h4,h⟩|⟨h4,h⟩
  ·obtain rfl:=(hE _ (oJ h):_=rv)
   exact gr 14 [] [bT h1,cE Qay h2,cE Qay h3,bT h4]
  ·exact gn 16 [1,12,13,14] [] [bT h1,cE Qay h2,cE Qay h3,bF h4] (hI _ (oJ h))
 ·exact gn 5 [] [] [bF h1] (hE _ (oJ h))
theorem Qxr {a capacity} {rv:Bool} (h:Qq0 a capacity=some rv):AFn Tryz.prog 113 [.one (lL 1 a Qay),.one (lL 1 capacity Qay)] [] (one (.bool rv)) []:=by
 refine QaM Tryz.func113 (by kernel_rfl) (by kernel_rfl) (fun Γ=>?_)
 unfold Qq0 at h
 rcases Qah h with ⟨h0,h⟩|⟨h0,h⟩
 ·obtain rfl:=Option.some.inj h
  exact gr 8 [] [nL Qay a,nL Qay capacity,bT h0]
 ·obtain ⟨e0,h5,h⟩:=Qae h
  refine gn 12 [1,12,13,14] [] [nL Qay a,nL Qay capacity,bF h0,nL Qay a] (Qvl Γ rv h5 ?_)
  rcases e0 with e0|e0
  ·replace h:(some true:Option Bool)=some _:=h
   obtain rfl:=Option.some.inj h
   exact gr 2 [] []
  ·obtain ⟨r,rfl⟩:∃ x,x=e0:=⟨_,rfl⟩
   replace h:(some r:Option Bool)=some _:=h
   exact Option.some.inj h
theorem Qsr {a c c1} {rv:Bool} (h:QpA a c c1=some rv):AFn Tryz.prog 112 [.one (lL 1 a Qay),.one (.ip (Qac.enc c) 0),.one (.ip (Qad.enc c1) 0)] [] (one (.bool rv)) []:=by
 refine QaM Tryz.func112 (by kernel_rfl) (by kernel_rfl) (fun Γ=>?_)
 unfold QpA at h
 obtain ⟨x0,h0,h⟩:=Qae h
 obtain ⟨r,h1,h⟩:=Qae h
 obtain rfl:=Option.some.inj h
 exact gr 4 [] [cE Qal.enc h0,cC (Qxr h1)]
def Qer (Γ:Gam) (rv:Int) (cf:Cf):Prop:=Go Tryz.prog Tryz.f142 [] Γ (one (lI rv)) [] cf
def QdS (Γ:Gam) (rv:Int) (s0:List (List Int)) (c:Qac) (c1:Qad) (v:Int):Prop:=Qer Γ rv ⟨[.c 52,.l 52,.b 0,.c 7],⟨19,[vL 0 1 s0 Qbf,(1,one (.fn (.func 112) [.ip (Qac.enc c) 0,.ip (Qad.enc c1) 0])),vI 7 (lenI s0),vI 8 v],[]⟩⟩
def QdK (Γ:Gam) (rv:Int) (s0:List (List Int)) (c:Qac) (c1:Qad):Prop:=Qer Γ rv ⟨[.c 7],⟨19,[],[]⟩⟩
theorem QgT (Γ:Gam) (rv:Int) {s0 c c1} {s:Int} {e:(Unit)⊕(Int)} (h:QaT (fun s=>QaN s0 c c1 s) s=some e) (hD:sel e (fun e=>QdK Γ rv s0 c c1) (fun e=>e=rv)):QdS Γ rv s0 c c1 s:=by
 refine QaC (C:=fun (s:Int)=>QdS Γ rv s0 c c1 s) (D:=fun (e:(Unit)⊕(Int))=>sel e (fun e=>QdK Γ rv s0 c c1) (fun e=>e=rv)) ?_ h hD
 clear h hD s e
 intro v z_ h hI hE
 replace h:QaN s0 c c1 v=_:=h
 unfold QaN at h
 rcases Qah h with ⟨h0,h⟩|⟨h0,h⟩
 ·obtain ⟨x0,h1,h⟩:=Qae h
  obtain ⟨r,h2,h⟩:=Qae h
  rcases Qah h with ⟨h3,h⟩|⟨h3,h⟩
  ·obtain rfl:=(hE _ (oJ h):_=rv)
   exact gr 14 [] [bT h0,cE Qbf h1,cC (Qsr h2),bT h3]
  ·exact gn 16 [0,1,7,8] [] [bT h0,cE Qbf h1,cC (Qsr h2),bF h3] (hI _ (oJ h))
 ·exact gn 5 [] [] [bF h0] (hE _ (oJ h))
theorem QhC {s0 c c1} {rv:Int} (h:Qby s0 c c1=some rv):AFn Tryz.prog 142 [.one (lL 1 s0 Qbf),.one (.fn (.func 112) [.ip (Qac.enc c) 0,.ip (Qad.enc c1) 0])] [] (one (lI rv)) []:=by
 refine QaM Tryz.func142 (by kernel_rfl) (by kernel_rfl) (fun Γ=>?_)
 unfold Qby at h
 obtain ⟨e0,h4,h⟩:=Qae h
 refine gn 7 [0,1,7,8] [] [nL Qbf s0] (QgT Γ rv h4 ?_)
 rcases e0 with e0|e0
 ·replace h:(some (-1):Option Int)=some _:=h
  obtain rfl:=Option.some.inj h
  exact gr 2 [] []
 ·obtain ⟨r1,rfl⟩:∃ x,x=e0:=⟨_,rfl⟩
  replace h:(some r1:Option Int)=some _:=h
  exact Option.some.inj h
theorem QdJ {s0 c c1} {rv:Bool} (h:QbJ s0 c c1=some rv):AFn Tryz.prog 111 [.one (lL 1 s0 Qbf),.one (.fn (.func 112) [.ip (Qac.enc c) 0,.ip (Qad.enc c1) 0])] [] (one (.bool rv)) []:=by
 refine QaM Tryz.func111 (by kernel_rfl) (by kernel_rfl) (fun Γ=>?_)
 unfold QbJ at h
 obtain ⟨r,h0,h⟩:=Qae h
 obtain rfl:=Option.some.inj h
 exact gr 4 [] [cC (QhC h0)]
theorem QqG {x0 r} {rv:Int} (h:QqF x0 r=some rv):AFn Tryz.prog 82 [.agg (Qac.enc x0),.agg (Qad.enc r)] [] (one (lI rv)) []:=by
 refine QaM Tryz.func82 (by kernel_rfl) (by kernel_rfl) (fun Γ=>?_)
 unfold QqF at h
 rcases Qah h with ⟨h0,h⟩|⟨h0,h⟩
 ·obtain rfl:=Option.some.inj h
  exact gr 8 [] [rp 5 hP,rp 3 (oI ((ltI r.type_ 0)=false)),nL Qal.enc x0.types,hP,hP,rp 2 (oI ((ltI r.type_ 0)=false)),oR True ((ltI r.type_ 0)=false),bT h0]
 ·obtain ⟨r1,h1,h⟩:=Qae h
  rcases Qah h with ⟨h2,h⟩|⟨h2,h⟩
  ·obtain rfl:=Option.some.inj h
   exact gr 15 [] [rp 5 hP,rp 3 (oI ((ltI r.type_ 0)=false)),nL Qal.enc x0.types,hP,hP,rp 2 (oI ((ltI r.type_ 0)=false)),oR True ((ltI r.type_ 0)=false),bF h0,cC (QpB h1),bT h2]
  ·obtain ⟨r2,h3,h⟩:=Qae h
   rcases Qah h with ⟨h4,h⟩|⟨h4,h⟩
   ·obtain rfl:=Option.some.inj h
    exact gr 20 [] [rp 5 hP,rp 3 (oI ((ltI r.type_ 0)=false)),nL Qal.enc x0.types,hP,hP,rp 2 (oI ((ltI r.type_ 0)=false)),oR True ((ltI r.type_ 0)=false),bF h0,cC (QpB h1),bF h2,cC (QdJ h3),bT h4]
   ·obtain rfl:=Option.some.inj h
    exact gr 21 [] [rp 5 hP,rp 3 (oI ((ltI r.type_ 0)=false)),nL Qal.enc x0.types,hP,hP,rp 2 (oI ((ltI r.type_ 0)=false)),oR True ((ltI r.type_ 0)=false),bF h0,cC (QpB h1),bF h2,cC (QdJ h3),bF h4]
def Qye (Γ:Gam) (rv:Qaw×Int) (cf:Cf):Prop:=Go Tryz.prog Tryz.f143 [] Γ (.tup [.agg [lI rv.1.place,lI rv.1.open_,lI rv.1.close,lI rv.1.service],.one (lI rv.2)]) [] cf
theorem Qrv (Γ:Gam) (rv:Qaw×Int) {x1} (h:QlF x1=some rv):Qye Γ rv ⟨[.c 31],⟨32,[vP 4 0 4,vP 6 1 4],[oX 4 72 [lI 0,lI 0,lI 0,lI 0],oX 4 72 (Qaw.enc x1)]⟩⟩:=by
 unfold QlF at h
 rcases Qah h with ⟨h4,h⟩|⟨h4,h⟩
 ·obtain rfl:=Option.some.inj h
  exact gr 6 [] [bT h4]
 ·obtain rfl:=Option.some.inj h
  exact gr 7 [] [bF h4]
theorem Qur {l v} {rv:Qaw×Int} (h:Qru l v=some rv):AFn Tryz.prog 143 [.one (lL 16 l Qag.enc),.agg (Qaa.enc v)] [] (.tup [.agg [lI rv.1.place,lI rv.1.open_,lI rv.1.close,lI rv.1.service],.one (lI rv.2)]) []:=by
 refine QaM Tryz.func143 (by kernel_rfl) (by kernel_rfl) (fun Γ=>?_)
 unfold Qru at h
 obtain ⟨r,h0,h⟩:=Qae h
 rcases Qah h with ⟨h1,h⟩|⟨h1,h⟩
 ·obtain ⟨x0,h2,h⟩:=Qae h
  rcases Qah h with ⟨h3,h⟩|⟨h3,h⟩
  ·exact gn 14 [4,6] [1,2] [cC (Qic h0),nF h1,cE Qag.enc h2,bT h3,cE Qag.enc h2] (Qrv Γ rv h)
  ·exact gn 14 [4,6] [1,2] [cC (Qic h0),nF h1,cE Qag.enc h2,bF h3] (Qrv Γ rv h)
 ·obtain rfl:=Option.some.inj h
  exact gr 8 [] [cC (Qic h0),nT h1]
def Qu6 (Γ:Gam) (rv:Qaz×Bool) (cf:Cf):Prop:=Go Tryz.prog Tryz.f114 [] Γ (.tup [.agg [lL 1 rv.1.x.net.places QmO,lL 6 rv.1.x.net.arcs Qas.enc,lL 14 rv.1.x.types Qal.enc,lL 16 rv.1.x.orders Qag.enc,lL 2 rv.1.x.apart QaR.enc,lL 2 rv.1.x.before QaR.enc,.str rv.1.t.name,lI rv.1.t.count,lI rv.1.t.from_,lI rv.1.t.to_,lL 1 rv.1.t.cap Qay,lI rv.1.t.skills,lI rv.1.t.profile,lI rv.1.t.open_,lI rv.1.t.close,lI rv.1.t.drive,lI rv.1.t.rest_,lI rv.1.t.fixed,lI rv.1.t.perMile,lI rv.1.t.perTick,lI rv.1.r.type_,lI rv.1.r.start,lL 1 rv.1.r.rests Qbd,lL 2 rv.1.r.visits Qaa.enc,lL 4 rv.1.stops Qaw.enc],.one (.bool rv.2)]) [] cf
def Qsu (Γ:Gam) (rv:Qaz×Bool) (x0:Qac) (r:Qad) (x1:Qal) (l:List Qaw) (v:Int):Prop:=Qu6 Γ rv ⟨[.c 244,.l 244,.b 0,.c 31],⟨78,[vP 2 0 6,vP 4 1 25,vP 6 2 25,vL 49 2 r.visits Qaa.enc,vI 50 (lenI r.visits),vI 51 v],[oX 6 30 (Qac.enc x0),oX 25 174 [.nils,.nils,.nils,.nils,.nils,.nils,.str ByteArray.empty,lI 0,lI 0,lI 0,.nils,lI 0,lI 0,lI 0,lI 0,lI 0,lI 0,lI 0,lI 0,lI 0,lI 0,lI 0,.nils,.nils,.nils],oX 25 174 [lL 1 x0.net.places QmO,lL 6 x0.net.arcs Qas.enc,lL 14 x0.types Qal.enc,lL 16 x0.orders Qag.enc,lL 2 x0.apart QaR.enc,lL 2 x0.before QaR.enc,.str x1.name,lI x1.count,lI x1.from_,lI x1.to_,lL 1 x1.cap Qay,lI x1.skills,lI x1.profile,lI x1.open_,lI x1.close,lI x1.drive,lI x1.rest_,lI x1.fixed,lI x1.perMile,lI x1.perTick,lI r.type_,lI r.start,lL 1 r.rests Qbd,lL 2 r.visits Qaa.enc,lO 3 4 l Qaw.enc],oS 4 72 l Qaw.enc]⟩⟩
def QqM (Γ:Gam) (rv:Qaz×Bool) (x0:Qac) (r:Qad) (x1:Qal) (l1:List Qaw):Prop:=Qu6 Γ rv ⟨[.c 31],⟨78,[vP 4 0 25,vP 6 1 25],[oX 25 174 [.nils,.nils,.nils,.nils,.nils,.nils,.str ByteArray.empty,lI 0,lI 0,lI 0,.nils,lI 0,lI 0,lI 0,lI 0,lI 0,lI 0,lI 0,lI 0,lI 0,lI 0,lI 0,.nils,.nils,.nils],oX 25 174 [lL 1 x0.net.places QmO,lL 6 x0.net.arcs Qas.enc,lL 14 x0.types Qal.enc,lL 16 x0.orders Qag.enc,lL 2 x0.apart QaR.enc,lL 2 x0.before QaR.enc,.str x1.name,lI x1.count,lI x1.from_,lI x1.to_,lL 1 x1.cap Qay,lI x1.skills,lI x1.profile,lI x1.open_,lI x1.close,lI x1.drive,lI x1.rest_,lI x1.fixed,lI x1.perMile,lI x1.perTick,lI r.type_,lI r.start,lL 1 r.rests Qbd,lL 2 r.visits Qaa.enc,lO 2 4 l1 Qaw.enc],oS 4 72 l1 Qaw.enc]⟩⟩
theorem Qu7 (Γ:Gam) (rv:Qaz×Bool) {x0 r x1} {s:List Qaw×Int} {e:(List Qaw)⊕(Qaz×Bool)} (h:QaT (fun s=>QiZ x0 r x1 s.1 s.2) s=some e) (hD:sel e (fun e=>QqM Γ rv x0 r x1 e) (fun e=>e=rv)):Qsu Γ rv x0 r x1 s.1 s.2:=by
 refine QaC (C:=fun (s:List Qaw×Int)=>Qsu Γ rv x0 r x1 s.1 s.2) (D:=fun (e:(List Qaw)⊕(Qaz×Bool))=>sel e (fun e=>QqM Γ rv x0 r x1 e) (fun e=>e=rv)) ?_ h hD
 clear h hD s e
 rintro ⟨l,v⟩ z_ h hI hE
 replace h:QiZ x0 r x1 l v=_:=h
 unfold QiZ at h
 rcases Qah h with ⟨h2,h⟩|⟨h2,h⟩
 ·obtain ⟨x2,h3,h⟩:=Qae h
  obtain ⟨r1,h4,h⟩:=Qae h
  rcases Qah h with ⟨h5,h⟩|⟨h5,h⟩
  ·obtain rfl:=(hE _ (oJ h):_=rv)
   exact gr 17 [] [bT h2,cE Qaa.enc h3,cC (Qur h4),rp 4 hP,rp 2 (oI ((neI r1.2 0)=false)),oR True ((neI r1.2 0)=false),bT h5,hW 5,hH (.nilB 1 0 1),hH (.nilB 1 1 6),hH (.nilB 1 2 14),hH (.nilB 1 3 16),hH (.nilB 1 4 2),hH (.nilB 1 5 2),hH (.nilB 1 10 1),hH (.nilB 1 22 1),hH (.nilB 1 23 2),hH (.nilB 1 24 4)]
  ·obtain ⟨h6,h⟩:=Qav h
   exact gn 20 [2,4,6,49,50,51] [0,1,2,7] [bT h2,cE Qaa.enc h3,cC (Qur h4),rp 4 hP,rp 2 (oI ((neI r1.2 0)=false)),oR True ((neI r1.2 0)=false),bF h5,oO (Eq.refl ([r1.1].map Qaw.enc).length),aO Qaw.enc h6] (hI _ (oJ h))
 ·exact gn 5 [4,6] [1,2,3] [bF h2] (hE _ (oJ h))
theorem Qun {x0 r} {rv:Qaz×Bool} (h:QoO x0 r=some rv):AFn Tryz.prog 114 [.agg (Qac.enc x0),.agg (Qad.enc r)] [] (.tup [.agg [lL 1 rv.1.x.net.places QmO,lL 6 rv.1.x.net.arcs Qas.enc,lL 14 rv.1.x.types Qal.enc,lL 16 rv.1.x.orders Qag.enc,lL 2 rv.1.x.apart QaR.enc,lL 2 rv.1.x.before QaR.enc,.str rv.1.t.name,lI rv.1.t.count,lI rv.1.t.from_,lI rv.1.t.to_,lL 1 rv.1.t.cap Qay,lI rv.1.t.skills,lI rv.1.t.profile,lI rv.1.t.open_,lI rv.1.t.close,lI rv.1.t.drive,lI rv.1.t.rest_,lI rv.1.t.fixed,lI rv.1.t.perMile,lI rv.1.t.perTick,lI rv.1.r.type_,lI rv.1.r.start,lL 1 rv.1.r.rests Qbd,lL 2 rv.1.r.visits Qaa.enc,lL 4 rv.1.stops Qaw.enc],.one (.bool rv.2)]) []:=by
 refine QaM Tryz.func114 (by kernel_rfl) (by kernel_rfl) (fun Γ=>?_)
 unfold QoO at h
 rcases Qah h with ⟨h0,h⟩|⟨h0,h⟩
 ·obtain rfl:=Option.some.inj h
  exact gr 8 [] [rp 5 hP,rp 3 (oI ((ltI r.type_ 0)=false)),nL Qal.enc x0.types,rp 13 hP,rp 2 (oI ((ltI r.type_ 0)=false)),oR True ((ltI r.type_ 0)=false),rp 2 (oI (((ltI r.type_ 0)||(geI r.type_ (lenI x0.types)))=false)),oR True (((ltI r.type_ 0)||(geI r.type_ (lenI x0.types)))=false),rp 2 (oI ((((ltI r.type_ 0)||(geI r.type_ (lenI x0.types)))||(ltI r.start 0))=false)),oR True ((((ltI r.type_ 0)||(geI r.type_ (lenI x0.types)))||(ltI r.start 0))=false),rp 2 (oI (((((ltI r.type_ 0)||(geI r.type_ (lenI x0.types)))||(ltI r.start 0))||(gtI r.start 4096))=false)),nL Qaa.enc r.visits,hP,hP,oI (((((ltI r.type_ 0)||(geI r.type_ (lenI x0.types)))||(ltI r.start 0))||(gtI r.start 4096))=false),oR True (((((ltI r.type_ 0)||(geI r.type_ (lenI x0.types)))||(ltI r.start 0))||(gtI r.start 4096))=false),bT h0,hW 5,hH (.nilB 2 0 1),hH (.nilB 2 1 6),hH (.nilB 2 2 14),hH (.nilB 2 3 16),hH (.nilB 2 4 2),hH (.nilB 2 5 2),hH (.nilB 2 10 1),hH (.nilB 2 22 1),hH (.nilB 2 23 2),hH (.nilB 2 24 4)]
 ·obtain ⟨x1,h1,h⟩:=Qae h
  obtain ⟨e0,h7,h⟩:=Qae h
  refine gn 14 [2,4,6,49,50,51] [0,2,3,4] [rp 5 hP,rp 3 (oI ((ltI r.type_ 0)=false)),nL Qal.enc x0.types,rp 13 hP,rp 2 (oI ((ltI r.type_ 0)=false)),oR True ((ltI r.type_ 0)=false),rp 2 (oI (((ltI r.type_ 0)||(geI r.type_ (lenI x0.types)))=false)),oR True (((ltI r.type_ 0)||(geI r.type_ (lenI x0.types)))=false),rp 2 (oI ((((ltI r.type_ 0)||(geI r.type_ (lenI x0.types)))||(ltI r.start 0))=false)),oR True ((((ltI r.type_ 0)||(geI r.type_ (lenI x0.types)))||(ltI r.start 0))=false),rp 2 (oI (((((ltI r.type_ 0)||(geI r.type_ (lenI x0.types)))||(ltI r.start 0))||(gtI r.start 4096))=false)),nL Qaa.enc r.visits,hP,hP,oI (((((ltI r.type_ 0)||(geI r.type_ (lenI x0.types)))||(ltI r.start 0))||(gtI r.start 4096))=false),oR True (((((ltI r.type_ 0)||(geI r.type_ (lenI x0.types)))||(ltI r.start 0))||(gtI r.start 4096))=false),bF h0,hH (.draw 10 []),cE Qal.enc h1,nL Qaa.enc r.visits,hW 3,hH (.adoptB 3 24 4 72)] (Qu7 Γ rv h7 ?_)
  rcases e0 with e0|e0
  ·obtain ⟨l1,rfl⟩:∃ x,x=e0:=⟨_,rfl⟩
   replace h:(some ((Qaz.mk x0 x1 r l1),true):Option (Qaz×Bool))=some _:=h
   obtain rfl:=Option.some.inj h
   exact gr 2 [] [hW 5,hH (.frz 2),rp 3 (eL l1 Qaw.enc)]
  ·obtain ⟨r2,rfl⟩:∃ x,x=e0:=⟨_,rfl⟩
   replace h:(some r2:Option (Qaz×Bool))=some _:=h
   exact Option.some.inj h
theorem QnY {p} {rv:Qaf} (h:Qdo p=some rv):AFn Tryz.prog 115 [.agg (Qaz.enc p)] [] (gG [lI rv.ready,lI rv.since,.bool rv.sheet.rest_,lI rv.sheet.depart,lL 4 rv.sheet.times Qar.enc,lI rv.sheet.end_,lI rv.sheet.miles]) []:=by
 refine QaM Tryz.func115 (by kernel_rfl) (by kernel_rfl) (fun Γ=>?_)
 unfold Qdo at h
 obtain rfl:=Option.some.inj h
 exact gr 4 [] [hW 15,hH (.nilB 1 4 4)]
theorem QdI {n i} {rv:Bool} (h:Qjm n i=some rv):AFn Tryz.prog 179 [.agg (Qam.enc n),.one (lI i)] [] (one (.bool rv)) []:=by
 refine QaM Tryz.func179 (by kernel_rfl) (by kernel_rfl) (fun Γ=>?_)
 unfold Qjm at h
 obtain rfl:=Option.some.inj h
 exact gr 4 [] [rp 4 hP,rp 2 (oI ((geI i 0)=true)),nL QmO n.places,hP,hP,rp 2 (oI ((geI i 0)=true)),oR True ((geI i 0)=true)]
theorem Qrr {a} {rv:QiY} (h:Qon a=some rv):AFn Tryz.prog 186 [.agg (Qas.enc a)] [] (gG [lI rv.from_,lI rv.to_,lI rv.profile]) []:=by
 refine QaM Tryz.func186 (by kernel_rfl) (by kernel_rfl) (fun Γ=>?_)
 unfold Qon at h
 obtain rfl:=Option.some.inj h
 exact gr 4 [] []
def Qtv (Γ:Gam) (rv:Qas×Bool) (cf:Cf):Prop:=Go Tryz.prog Tryz.f180 [] Γ (.tup [.agg [lI rv.1.from_,lI rv.1.to_,lI rv.1.profile,lI rv.1.miles,lL 2 rv.1.travel Qao.enc,lL 2 rv.1.slow Qao.enc],.one (.bool rv.2)]) [] cf
def Qqc (Γ:Gam) (rv:Qas×Bool) (n:Qam) (profile:Int) (from_:Int) (to_:Int) (v:Int):Prop:=Qtv Γ rv ⟨[.c 116,.l 116,.b 0,.c 15],⟨31,[vP 8 0 6,vP 10 1 3,vL 18 6 n.arcs Qas.enc,vI 19 (lenI n.arcs),vI 20 v],[oX 6 122 [lI 0,lI 0,lI 0,lI 0,.nils,.nils],oX 3 238 [lI from_,lI to_,lI profile]]⟩⟩
def Qpn (Γ:Gam) (rv:Qas×Bool) (n:Qam) (profile:Int) (from_:Int) (to_:Int):Prop:=Qtv Γ rv ⟨[.c 15],⟨31,[vP 8 0 6],[oX 6 122 [lI 0,lI 0,lI 0,lI 0,.nils,.nils]]⟩⟩
theorem QtX (Γ:Gam) (rv:Qas×Bool) {n profile from_ to_} {s:Int} {e:(Unit)⊕(Qas×Bool)} (h:QaT (fun s=>Qhd n profile from_ to_ s) s=some e) (hD:sel e (fun e=>Qpn Γ rv n profile from_ to_) (fun e=>e=rv)):Qqc Γ rv n profile from_ to_ s:=by
 refine QaC (C:=fun (s:Int)=>Qqc Γ rv n profile from_ to_ s) (D:=fun (e:(Unit)⊕(Qas×Bool))=>sel e (fun e=>Qpn Γ rv n profile from_ to_) (fun e=>e=rv)) ?_ h hD
 clear h hD s e
 intro v z_ h hI hE
 replace h:Qhd n profile from_ to_ v=_:=h
 unfold Qhd at h
 rcases Qah h with ⟨h0,h⟩|⟨h0,h⟩
 ·obtain ⟨x0,h1,h⟩:=Qae h
  obtain ⟨r,h2,h⟩:=Qae h
  rcases Qah h with ⟨h3,h⟩|⟨h3,h⟩
  ·obtain rfl:=(hE _ (oJ h):_=rv)
   exact gr 14 [] [bT h0,cE Qas.enc h1,hH (.draw 4 []),cC (Qrr h2),bT h3]
  ·exact gn 16 [8,10,18,19,20] [0,1] [bT h0,cE Qas.enc h1,hH (.draw 4 []),cC (Qrr h2),bF h3] (hI _ (oJ h))
 ·exact gn 5 [8] [0] [bF h0] (hE _ (oJ h))
theorem QsB {n profile from_ to_} {rv:Qas×Bool} (h:QnD n profile from_ to_=some rv):AFn Tryz.prog 180 [.agg (Qam.enc n),.one (lI profile),.one (lI from_),.one (lI to_)] [] (.tup [.agg [lI rv.1.from_,lI rv.1.to_,lI rv.1.profile,lI rv.1.miles,lL 2 rv.1.travel Qao.enc,lL 2 rv.1.slow Qao.enc],.one (.bool rv.2)]) []:=by
 refine QaM Tryz.func180 (by kernel_rfl) (by kernel_rfl) (fun Γ=>?_)
 unfold QnD at h
 obtain ⟨e0,h4,h⟩:=Qae h
 refine gn 9 [8,10,18,19,20] [1,2] [nL Qas.enc n.arcs] (QtX Γ rv h4 ?_)
 rcases e0 with e0|e0
 ·replace h:(some ((Qas.mk 0 0 0 0 [] []),false):Option (Qas×Bool))=some _:=h
  obtain rfl:=Option.some.inj h
  exact gr 2 [] [hW 5,hH (.nilB 0 4 2),hH (.nilB 0 5 2)]
 ·obtain ⟨r1,rfl⟩:∃ x,x=e0:=⟨_,rfl⟩
  replace h:(some r1:Option (Qas×Bool))=some _:=h
  exact Option.some.inj h
theorem Qh1 {n least most} {rv:Bool} (h:QgE n least most=some rv):AFn Tryz.prog 190 [.one (lI n),.one (lI least),.one (lI most)] [] (one (.bool rv)) []:=by
 refine QaM Tryz.func190 (by kernel_rfl) (by kernel_rfl) (fun Γ=>?_)
 unfold QgE at h
 obtain rfl:=Option.some.inj h
 exact gr 4 [] [rp 4 hP,rp 2 (oI ((geI n least)=true)),oR True ((geI n least)=true)]
theorem QvK {i} {rv:ByteArray} (h:QrH i=some rv):AFn Tryz.prog 204 [.one (lI i)] [] (one (.str rv)) []:=by
 refine QaM Tryz.func204 (by kernel_rfl) (by kernel_rfl) (fun Γ=>?_)
 unfold QrH at h
 rcases Qah h with ⟨h0,h⟩|⟨h0,h⟩
 ·obtain ⟨s0,h1,h⟩:=Qae h
  obtain rfl:=Option.some.inj h
  exact gr 8 [] [bT h0,oO (ss1 h1),oO (ss2 h1),oO (ss3 h1)]
 ·obtain ⟨s1,h2,h⟩:=Qae h
  obtain rfl:=Option.some.inj h
  exact gr 9 [] [bF h0,oO (ss1 h2),oO (ss2 h2),oO (ss3 h2)]
end Go.Proofs.YtpkkaboonnedfaaGreatDoor
